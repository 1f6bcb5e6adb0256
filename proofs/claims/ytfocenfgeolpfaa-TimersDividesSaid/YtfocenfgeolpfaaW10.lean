/- The walk of the statement TimersDivides. -/
import Derived.Test.YtfocenfgeolpfaaW9
namespace Go.Proofs.Ytfocenfgeolpfaa
open Go.RowKit

set_option maxRecDepth 100000 in
set_option maxHeartbeats 1000000 in
theorem divides_any (A : Option Addr) (c : Nat) (l0 : List Tm) (now : Int) (w : World) (hl0 : l0.length ≤ maxLen) (hlc : l0.length ≤ c) (h : TRd w w.heap.size A l0) :
    Calls Try.prog 4 #[.slice A l0.length c, .int .i64 now] w fun e w' => e = .returned (.bool true) ∧ Below w.heap.size w w' := by
  unfold maxLen at hl0
  obtain ⟨l, hl⟩ : ∃ l, l = l0.take 1100 := ⟨_, rfl⟩
  obtain ⟨N, hN⟩ : ∃ N, N = l.length := ⟨_, rfl⟩
  have HH : Hid (TRd w w.heap.size A l) := by
    show TRd w w.heap.size A l
    rw [hl]
    exact h.take _
  have hmin : (if (1100 : Int) < (l0.length : Int) then (1100 : Int) else (l0.length : Int)) = (N : Int) := by
    have := min_eq l0 1100
    rw [hN, hl]
    exact this
  have hN1 : N ≤ 1100 := by rw [hN, hl]; simp; omega
  have hNc : N ≤ c := by rw [hN, hl]; simp; omega
  have hs := fun W => slice_to A l0.length c N W hNc
  have HN : Hid (l.length = N) := hN.symm
  have hd := due_len now l
  have hd2 := later_len now l
  rw [hN.symm] at hd hd2
  have HD : Hid ((dueT now l).length ≤ N) := hd
  have HD2 : Hid ((laterT now l).length ≤ N) := hd2
  clear h hl hN hd hd2
  go_enter Try.func4, Try.ntmps4
  go_wp2_with fail
  refine (copyn_any (B := w.heap.size) A c l N HN.out (Nat.le_refl _) HH.out (by omega)).mono ?_
  rintro e w1 ⟨vx, rfl, hownx, hb1⟩
  obtain ⟨Ax, cx, rfl, hcx⟩ := own_slice hownx
  have HX : Hid (TRd w1 w1.heap.size Ax l) := Rd.of_own hownx
  clear hownx
  go_wp2_with fail
  refine (duen_any (B := w1.heap.size) Ax cx l N HN.out now (Nat.le_refl _) HX.out (by omega)).mono ?_
  rintro e w2 ⟨va, vb, M, rfl, howna, hltM, hM, hownb, hb2⟩
  go_wp2_with fail
  refine (rduen_any (B := w.heap.size) A c l N HN.out now (by have := hb1.size; have := hb2.size; omega) (HH.out.below (hb1.trans (hb2.mono hb1.size))) (by omega)).mono ?_
  rintro e w3 ⟨vc, vd, rfl, hownc, hownd, hb3⟩
  obtain ⟨Aa, ca, rfl, -⟩ := own_slice howna
  obtain ⟨Ab, cb, rfl, -⟩ := own_slice hownb
  obtain ⟨Ac, cc, rfl, -⟩ := own_slice hownc
  obtain ⟨Ad, cd, rfl, -⟩ := own_slice hownd
  have s1 := hb1.size
  have s2 := hb2.size
  have s3 := hb3.size
  have ra3 : Rd w3 w2.heap.size Aa (tscells (dueT now l)) := (Rd.of_own howna).below hb3
  have rb3 : Rd w3 w2.heap.size Ab (tscells (laterT now l)) := (Rd.of_own hownb).below hb3
  have HAa : Hid (w3.ownsRow w1.heap.size 28 3 (.slice Aa (dueT now l).length ca) (dueT now l).length (tscells (dueT now l))) := own_below howna hb3
  have HAb : Hid (w3.ownsRow M 28 3 (.slice Ab (laterT now l).length cb) (laterT now l).length (tscells (laterT now l))) := own_below hownb hb3
  have HRa : Hid (TRd w3 w3.heap.size Aa (dueT now l)) := ra3.more s3
  have HRb : Hid (TRd w3 w3.heap.size Ab (laterT now l)) := rb3.more s3
  have HAd : Hid (w3.ownsRow w2.heap.size 28 3 (.slice Ad (laterT now l).length cd) (laterT now l).length (tscells (laterT now l))) := hownd
  have HRc : Hid (TRd w3 w3.heap.size Ac (dueT now l)) := Rd.of_own hownc
  have HRd : Hid (TRd w3 w3.heap.size Ad (laterT now l)) := Rd.of_own hownd
  have HX3 : Hid (TRd w3 w1.heap.size Ax l) := HX.out.below (hb2.trans (hb3.mono s2))
  have hlt2 : ∀ g, (Value.slice Aa (dueT now l).length ca).ownBlock = some g → g < w2.heap.size := fun g hg => (howna.lt g hg).2
  have HLM : Hid (∀ g, (Value.slice Aa (dueT now l).length ca).ownBlock = some g → g < M) := hltM
  have HL2 : Hid (∀ g, (Value.slice Aa (dueT now l).length ca).ownBlock = some g → g < w2.heap.size) := hlt2
  have HB3 : Hid (Below w.heap.size w w3) := hb1.trans ((hb2.mono s1).trans (hb3.mono (by omega)))
  clear howna hownb hownc hownd hltM hlt2 ra3 rb3 HX hb1 hb2 hb3
  go_wp2_with fail
  refine (same16_yes (B := w3.heap.size) (C := w3.heap.size) Aa Ac _ _ ca cc (dueT now l) rfl rfl (Nat.le_refl _) (Nat.le_refl _) HRa.out HRc.out (by have := HD.out; simp only [maxLen]; omega)).mono ?_
  rintro e w4 ⟨rfl, hb4⟩
  have s4 := hb4.size
  go_wp2_with fail
  refine (same16_yes (B := w3.heap.size) (C := w3.heap.size) Ab Ad _ _ cb cd (laterT now l) rfl rfl s4 s4 (HRb.out.below hb4) (HRd.out.below hb4) (by have := HD2.out; simp only [maxLen]; omega)).mono ?_
  rintro e w5 ⟨rfl, hb5⟩
  have s5 := hb5.size
  have HB35 : Hid (Below w3.heap.size w3 w5) := hb4.trans (hb5.mono s4)
  clear hb4 hb5
  go_wp2_with fail
  refine (spoil_any (base := w1.heap.size) _ _ _ _ (own_below HAa.out HB35.out)).mono ?_
  rintro e w6 ⟨rfl, hg6⟩
  have hblk : ∀ k, (Value.slice Aa (dueT now l).length ca).ownBlock = some k → w1.heap.size ≤ k := fun k hk => (HAa.out.lt k hk).1
  have s6 := hg6.size
  have HO6b : Hid (w6.ownsRow M 28 3 (.slice Ab (laterT now l).length cb) (laterT now l).length (tscells (laterT now l))) := own_apart (own_below HAb.out HB35.out) hg6 (fun g h1 h2 => by
    have := HLM.out g h1
    have := (HAb.out.lt g h2).1
    omega)
  have HO6d : Hid (w6.ownsRow w2.heap.size 28 3 (.slice Ad (laterT now l).length cd) (laterT now l).length (tscells (laterT now l))) := own_apart (own_below HAd.out HB35.out) hg6 (fun g h1 h2 => by
    have := HL2.out g h1
    have := (HAd.out.lt g h2).1
    omega)
  have HB56 : Hid (Below w1.heap.size w5 w6) := below_grown (Below.refl _ _) hg6 (by omega) hblk
  clear hg6 hblk
  go_wp2_with fail
  refine (same16_yes (B := w6.heap.size) (C := w6.heap.size) Ab Ad _ _ cb cd (laterT now l) rfl rfl (Nat.le_refl _) (Nat.le_refl _) (Rd.of_own HO6b.out) (Rd.of_own HO6d.out) (by have := HD2.out; simp only [maxLen]; omega)).mono ?_
  rintro e w7 ⟨rfl, hb7⟩
  have s7 := hb7.size
  go_wp2_with fail
  refine (spoil_any (base := M) _ _ _ _ (own_below HO6b.out hb7)).mono ?_
  rintro e w8 ⟨rfl, hg8⟩
  have hblk : ∀ k, (Value.slice Ab (laterT now l).length cb).ownBlock = some k → M ≤ k := fun k hk => (HAb.out.lt k hk).1
  have s8 := hg8.size
  have HB78 : Hid (Below w1.heap.size w7 w8) := below_grown (Below.refl _ _) hg8 (by omega) (fun k hk => by have := hblk k hk; omega)
  have HB18 : Hid (Below w1.heap.size w3 w8) := (HB35.out.mono (by omega)).trans (HB56.out.trans ((hb7.mono (by omega)).trans HB78.out))
  clear hg8 hblk hb7
  go_wp2_with fail
  refine (same16_yes (B := w1.heap.size) (C := w.heap.size) Ax A N N cx c l HN.out HN.out (by omega) (by omega) (HX3.out.below HB18.out) (HH.out.below (HB3.out.trans (HB18.out.mono s1))) (by simp only [maxLen]; omega)).mono ?_
  rintro e w9 ⟨rfl, hb9⟩
  have s9 := hb9.size
  go_wp2_with fail
  refine (works_any _).mono ?_
  rintro e w10 ⟨rfl, hb10⟩
  go_wp2_with fail
  go_ret
  exact ⟨rfl, HB3.out.trans ((HB18.out.mono s1).trans ((hb9.mono (by omega)).trans (hb10.mono (by omega))))⟩

end Go.Proofs.Ytfocenfgeolpfaa
