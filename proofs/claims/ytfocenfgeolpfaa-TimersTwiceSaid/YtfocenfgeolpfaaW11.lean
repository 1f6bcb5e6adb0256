/- The walk of the statement TimersTwice. -/
import Derived.Test.YtfocenfgeolpfaaW9
import Derived.Test.YtfocenfgeolpfaaPlain3
namespace Go.Proofs.Ytfocenfgeolpfaa
open Go.RowKit

theorem slice22_to (A : Option Addr) (n c k : Nat) (W : World) (hk : k ≤ c) : (Instr.slice 22 (.slice A n c) none (some (.int .i64 (k : Int))) none).run Try.prog W = .ok (.slice A k c) W := by
  have hk' : (k : Int) ≤ c := by omega
  simp [go_sem, hk']

set_option maxRecDepth 100000 in
set_option maxHeartbeats 2000000 in
theorem twice_any (A : Option Addr) (c : Nat) (bs : List Int) (now later : Int) (w : World) (hl : bs.length ≤ maxLen) (hlc : bs.length ≤ c) (h : Rd w w.heap.size A (bs.flatMap u8cell)) (hn : ∀ n ∈ bs, 0 ≤ n ∧ n ≤ 255) :
    Calls Try.prog 5 #[.slice A bs.length c, .int .i64 now, .int .i64 later] w fun e w' => e = .returned (.bool true) ∧ Below w.heap.size w w' := by
  unfold maxLen at hl
  obtain ⟨N, hN⟩ : ∃ N, N = (bs.take 200).length := ⟨_, rfl⟩
  have HH : Hid (Rd w w.heap.size A ((bs.take 200).flatMap u8cell)) := bytes_take h 200
  have HN : Hid ((bs.take 200).length = N) := hN.symm
  have HG : Hid (∀ n ∈ bs.take 200, 0 ≤ n ∧ n ≤ 255) := fun n hm => hn n (List.mem_of_mem_take hm)
  have hmin : (if (200 : Int) < (bs.length : Int) then (200 : Int) else (bs.length : Int)) = (N : Int) := by
    have := min_eq bs 200
    rw [hN]
    exact this
  have hN1 : N ≤ 200 := by rw [hN]; simp; omega
  have hNc : N ≤ c := by rw [hN]; simp; omega
  have hs := fun W => slice22_to A bs.length c N W hNc
  obtain ⟨l, hl'⟩ : ∃ l, l = madeT (bs.take 200) N := ⟨_, rfl⟩
  have HM : Hid (madeT (bs.take 200) N = l) := hl'.symm
  have HL : Hid (l.length = N) := by
    show l.length = N
    rw [hl', madeT_len]
  have HV : Hid (validT l = true) := by
    show validT l = true
    rw [hl']
    exact madeT_valid _ hN1
  obtain ⟨i0, hi0, hz0, hz1, hz2⟩ := info_parts info28
  clear h hn hN hl'
  have key : ∃ lo hi : Int, (lo < hi ∧ lo = later ∧ hi = now) ∨ (lo ≤ hi ∧ lo = now ∧ hi = later) := by
    by_cases hq : later < now
    · exact ⟨later, now, .inl ⟨hq, rfl, rfl⟩⟩
    · exact ⟨now, later, .inr ⟨by omega, rfl, rfl⟩⟩
  obtain ⟨lo, hi, ⟨hlh, rfl, rfl⟩ | ⟨hlh, rfl, rfl⟩⟩ := key
  all_goals
    have HT : Hid (dueT lo l ++ dueT hi (laterT lo l) = dueT hi l ∧ laterT hi (laterT lo l) = laterT hi l ∧ dueT hi l ++ laterT hi l = l) := due_twice HV.out (by omega)
    have HQ : Hid ((dueT lo l).length + (dueT hi (laterT lo l)).length = (dueT hi l).length) := by
      show (dueT lo l).length + (dueT hi (laterT lo l)).length = (dueT hi l).length
      rw [← HT.out.1, List.length_append]
    have HQ2 : Hid ((dueT hi l).length + (laterT hi l).length = N) := by
      show (dueT hi l).length + (laterT hi l).length = N
      rw [← HL.out, ← List.length_append, HT.out.2.2]
    have HQ3 : Hid ((laterT lo l).length ≤ N) := by
      show (laterT lo l).length ≤ N
      rw [← HL.out]
      exact later_len lo l
    have HQ4 : Hid ((laterT hi (laterT lo l)).length = (laterT hi l).length) := by
      show (laterT hi (laterT lo l)).length = (laterT hi l).length
      rw [HT.out.2.1]
    go_enter Try.func5, Try.ntmps5
    go_wp2_with fail
    refine (maden_any (B := w.heap.size) A c (bs.take 200) N HN.out _ (Nat.le_refl _) HH.out hN1 HG.out).mono ?_
    rw [HM.out]
    rintro e w1 ⟨vl, rfl, hownl, hb1⟩
    obtain ⟨Al, cl, rfl, hcl⟩ := own_slice hownl
    have s1 := hb1.size
    have R1 : Hid (TRd w1 w1.heap.size Al l) := Rd.of_own hownl
    clear hownl
    go_wp2_with fail
    refine (duen_any (B := w1.heap.size) Al cl l N HL.out lo (Nat.le_refl _) R1.out (by omega)).mono ?_
    rintro e w2 ⟨va, vr, M2, rfl, howna, -, -, hownr, hb2⟩
    obtain ⟨Aa, ca, rfl, -⟩ := own_slice howna
    obtain ⟨Ar, cr, rfl, -⟩ := own_slice hownr
    have s2 := hb2.size
    have Ra : Hid (TRd w2 w2.heap.size Aa (dueT lo l)) := Rd.of_own howna
    have Rr : Hid (TRd w2 w2.heap.size Ar (laterT lo l)) := Rd.of_own hownr
    clear howna hownr
    go_wp2_with fail
    refine (duen_any (B := w2.heap.size) Ar cr (laterT lo l) _ rfl hi (Nat.le_refl _) Rr.out (by have := HQ3.out; omega)).mono ?_
    rintro e w3 ⟨vb, vf, M3, rfl, hownb, -, -, hownf, hb3⟩
    obtain ⟨Ab, cb, rfl, -⟩ := own_slice hownb
    obtain ⟨Af, cf, rfl, -⟩ := own_slice hownf
    have s3 := hb3.size
    have Rb : Hid (TRd w3 w3.heap.size Ab (dueT hi (laterT lo l))) := Rd.of_own hownb
    have Rf : Hid (TRd w3 w3.heap.size Af (laterT hi l)) := by
      have := Rd.of_own hownf
      rw [HT.out.2.1] at this
      exact this
    clear hownb hownf
    go_wp2_with fail
    refine (duen_any (B := w1.heap.size) Al cl l N HL.out hi (by omega) (R1.out.below (hb2.trans (hb3.mono s2))) (by omega)).mono ?_
    rintro e w4 ⟨vc, ve, M4, rfl, hownc, -, -, howne, hb4⟩
    obtain ⟨Ac, cc, rfl, -⟩ := own_slice hownc
    obtain ⟨Ae, ce, rfl, -⟩ := own_slice howne
    have s4 := hb4.size
    have Rc : Hid (TRd w4 w4.heap.size Ac (dueT hi l)) := Rd.of_own hownc
    have Re : Hid (TRd w4 w4.heap.size Ae (laterT hi l)) := Rd.of_own howne
    have R4l : Hid (TRd w4 w1.heap.size Al l) := R1.out.below (hb2.trans ((hb3.mono s2).trans (hb4.mono (by omega))))
    have R4a : Hid (TRd w4 w2.heap.size Aa (dueT lo l)) := Ra.out.below (hb3.trans (hb4.mono s3))
    have R4b : Hid (TRd w4 w3.heap.size Ab (dueT hi (laterT lo l))) := Rb.out.below hb4
    have R4f : Hid (TRd w4 w3.heap.size Af (laterT hi l)) := Rf.out.below hb4
    have B4 : Hid (Below w.heap.size w w4) := hb1.trans ((hb2.mono s1).trans ((hb3.mono (by omega)).trans (hb4.mono (by omega))))
    clear hownc howne hb1 hb2 hb3 hb4
    have q1 : (dueT lo l).length ≤ 200 := by have := HQ.out; have := HQ2.out; omega
    have q2 : (dueT hi (laterT lo l)).length ≤ 200 := by have := HQ.out; have := HQ2.out; omega
    have q3 : (laterT hi l).length ≤ 200 := by have := HQ2.out; omega
    have q4 : (dueT lo l).length + (dueT hi (laterT lo l)).length ≤ 200 := by have := HQ.out; have := HQ2.out; omega
    go_wp2_with (at_builtin; refine wpList_append_rd _ rfl (.tmp 50) (.tmp 51) _ rfl w4.heap.size 28 i0 _ 3 24 Try.underlying23 hi0 hz0 hz1 hz2 rfl (by omega) _ 0 [] rfl (World.ownsRow_nil _ _ _ _) _ Aa (dueT lo l).length ca (tscells (dueT lo l)) rfl R4a.out (tscells_len _) (tscells_ones _) (by simp only [maxLen]; omega) (by omega) (Nat.le_refl _) ?_)
    intro v5 w5 hown5 hg5 _
    have hb5 : Below w4.heap.size w4 w5 := (Below.refl _ _).grown hg5 (Nat.le_refl _) (by simp [Value.ownBlock])
    have s5 := hb5.size
    clear hg5
    go_wp2_with (at_builtin; refine wpList_append_rd _ rfl (.tmp 53) (.tmp 54) _ rfl w4.heap.size 28 i0 _ 3 24 Try.underlying23 hi0 hz0 hz1 hz2 rfl (by omega) _ (dueT lo l).length (tscells (dueT lo l)) rfl hown5 w3.heap.size Ab (dueT hi (laterT lo l)).length cb (tscells (dueT hi (laterT lo l))) rfl (R4b.out.below (hb5.mono s4)) (tscells_len _) (tscells_ones _) (by simp only [maxLen]; omega) (by omega) s5 ?_)
    intro v6 w6 hown6 hg6 _
    have hb6 : Below w4.heap.size w4 w6 := below_own hb5 hown5 hg6 (Nat.le_refl _) s5
    have s6 := hb6.size
    have O6 : Hid (w6.ownsRow w4.heap.size 28 3 v6 (dueT hi l).length (tscells (dueT hi l))) := by
      have := hown6
      rw [HQ.out, ← tscells_append, HT.out.1] at this
      exact this
    clear hown5 hown6 hg6 hb5
    obtain ⟨A6, c6, rfl, -⟩ := own_slice O6.out
    go_wp2_with fail
    refine (same18n_yes (B := w6.heap.size) (C := w4.heap.size) A6 Ac _ _ c6 cc (dueT hi l) rfl rfl (Nat.le_refl _) s6 (Rd.of_own O6.out) (Rc.out.below hb6) (by have := HQ.out; simp only [maxLen]; omega)).mono ?_
    rintro e w7 ⟨rfl, hb7⟩
    have s7 := hb7.size
    have B47 : Hid (Below w4.heap.size w4 w7) := hb6.trans (hb7.mono s6)
    go_wp2_with fail
    refine (same18n_yes (B := w3.heap.size) (C := w4.heap.size) Af Ae _ _ cf ce (laterT hi l) HQ4.out.symm rfl (by omega) (by omega) (R4f.out.below (B47.out.mono s4)) (Re.out.below B47.out) (by have := HQ4.out; simp only [maxLen]; omega)).mono ?_
    rintro e w8 ⟨rfl, hb8⟩
    have s8 := hb8.size
    have B48 : Hid (Below w4.heap.size w4 w8) := B47.out.trans (hb8.mono (by omega))
    have O8 : Hid (w8.ownsRow w4.heap.size 28 3 (.slice A6 (dueT hi l).length c6) (dueT hi l).length (tscells (dueT hi l))) := own_below (own_below O6.out hb7) hb8
    have HQ5 : Hid ((laterT hi l).length = (laterT hi (laterT lo l)).length) := HQ4.out.symm
    clear hb6 hb7 hb8
    have q5 : (laterT hi (laterT lo l)).length ≤ 200 := by have := HQ4.out; omega
    have q6 : (dueT hi l).length ≤ 200 := by have := HQ2.out; omega
    go_wp2_with (at_builtin; refine wpList_append_rd _ rfl (.tmp 66) (.tmp 67) _ rfl w4.heap.size 28 i0 _ 3 24 Try.underlying23 hi0 hz0 hz1 hz2 rfl (by omega) _ (dueT hi l).length (tscells (dueT hi l)) rfl O8.out w3.heap.size Af (laterT hi (laterT lo l)).length cf (tscells (laterT hi l)) rfl (R4f.out.below (B48.out.mono s4)) (by rw [tscells_len, HQ5.out]) (tscells_ones _) (by simp only [maxLen]; omega) (by omega) B48.out.size ?_)
    intro v9 w9 hown9 hg9 _
    have hb9 : Below w4.heap.size w4 w9 := below_own B48.out O8.out hg9 (Nat.le_refl _) B48.out.size
    have s9 := hb9.size
    have O9 : Hid (w9.ownsRow w4.heap.size 28 3 v9 N (tscells l)) := by
      have := hown9
      rw [← HQ5.out, HQ2.out, ← tscells_append, HT.out.2.2] at this
      exact this
    clear hown9 hg9
    obtain ⟨A9, c9, rfl, -⟩ := own_slice O9.out
    go_wp2_with fail
    refine (same18n_yes (B := w9.heap.size) (C := w1.heap.size) A9 Al N N c9 cl l HL.out HL.out (Nat.le_refl _) (by omega) (Rd.of_own O9.out) (R4l.out.below (hb9.mono (by omega))) (by simp only [maxLen]; omega)).mono ?_
    rintro e w10 ⟨rfl, hb10⟩
    have s10 := hb10.size
    go_wp2_with fail
    refine (works_any _).mono ?_
    rintro e w11 ⟨rfl, hb11⟩
    go_wp2_with fail
    go_ret
    exact ⟨rfl, B4.out.trans ((hb9.mono (by omega)).trans ((hb10.mono (by omega)).trans (hb11.mono (by omega))))⟩

end Go.Proofs.Ytfocenfgeolpfaa
