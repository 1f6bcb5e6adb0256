/- The walk of the statement TimersCancels. -/
import Derived.Test.YtfocenfgeolpfaaW12
namespace Go.Proofs.Ytfocenfgeolpfaa
open Go.RowKit

set_option maxRecDepth 100000 in
set_option maxHeartbeats 2000000 in
theorem cancels_any (A : Option Addr) (c : Nat) (l0 : List Tm) (o q : Int) (w : World) (hl0 : l0.length ≤ maxLen) (hlc : l0.length ≤ c) (h : TRd w w.heap.size A l0) :
    Calls Try.prog 7 #[.slice A l0.length c, .int .i64 o, .int .i64 q] w fun e w' => e = .returned (.bool true) ∧ Below w.heap.size w w' := by
  unfold maxLen at hl0
  obtain ⟨l, hl⟩ : ∃ l, l = l0.take 1100 := ⟨_, rfl⟩
  obtain ⟨N, hN⟩ : ∃ N, N = l.length := ⟨_, rfl⟩
  have HH : Hid (TRd w w.heap.size A l) := by
    show TRd w w.heap.size A l
    rw [hl]
    exact h.take _
  have hmin : (if (1100 : Int) < (l0.length : Int) then (1100 : Int) else (l0.length : Int)) = (N : Int) := by
    have := min_eq l0 1100
    rw [hN, hl]
    exact this
  have hN1 : N ≤ 1100 := by rw [hN, hl]; simp; omega
  have hNc : N ≤ c := by rw [hN, hl]; simp; omega
  have hs := fun W => slice_to A l0.length c N W hNc
  have HN : Hid (l.length = N) := hN.symm
  have HC1 : Hid ((cancelT o q l).length ≤ N) := by
    show (cancelT o q l).length ≤ N
    rw [← HN.out]
    exact cancel_len o q l
  have HC2 : Hid ((cancelAllT o l).length ≤ N) := by
    show (cancelAllT o l).length ≤ N
    rw [← HN.out]
    exact cancelall_len o l
  clear h hl hN
  go_enter Try.func7, Try.ntmps7
  go_wp2_with fail
  refine (copyn_any (B := w.heap.size) A c l N HN.out (Nat.le_refl _) HH.out (by omega)).mono ?_
  rintro e w1 ⟨vx, rfl, hownx, hb1⟩
  obtain ⟨Ax, cx, rfl, hcx⟩ := own_slice hownx
  have s1 := hb1.size
  have HX : Hid (TRd w1 w1.heap.size Ax l) := Rd.of_own hownx
  have HW1 : Hid (Below w.heap.size w w1) := hb1
  clear hownx hb1
  go_wp2_with fail
  refine (canceln_any (B := w1.heap.size) Ax cx l N HN.out o q (Nat.le_refl _) HX.out (by omega)).mono ?_
  rintro e w2 ⟨va, rfl, howna, hb2⟩
  obtain ⟨Aa, ca, rfl, -⟩ := own_slice howna
  have s2 := hb2.size
  have OA : Hid (w2.ownsRow w1.heap.size 28 3 (.slice Aa (cancelT o q l).length ca) (cancelT o q l).length (tscells (cancelT o q l))) := howna
  have HLA : Hid (∀ g, (Value.slice Aa (cancelT o q l).length ca).ownBlock = some g → g < w2.heap.size) := fun g hg => (howna.lt g hg).2
  have B2 : Hid (Below w1.heap.size w1 w2) := hb2
  clear howna hb2
  go_wp2_with fail
  refine (cancelalln_any (B := w1.heap.size) Ax cx l N HN.out o (by omega) (HX.out.below B2.out) (by omega)).mono ?_
  rintro e w3 ⟨vb, rfl, hownb, hb3⟩
  obtain ⟨Ab, cb, rfl, -⟩ := own_slice hownb
  have s3 := hb3.size
  have OB : Hid (w3.ownsRow w2.heap.size 28 3 (.slice Ab (cancelAllT o l).length cb) (cancelAllT o l).length (tscells (cancelAllT o l))) := hownb
  have OA3 : Hid (w3.ownsRow w1.heap.size 28 3 (.slice Aa (cancelT o q l).length ca) (cancelT o q l).length (tscells (cancelT o q l))) := own_below OA.out hb3
  have B3 : Hid (Below w1.heap.size w1 w3) := B2.out.trans (hb3.mono (by omega))
  clear hownb hb3 OA
  go_wp2_with fail
  refine (rcanceln_any (B := w.heap.size) A c l N HN.out o q (by omega) (HH.out.below (HW1.out.trans (B3.out.mono s1))) (by omega)).mono ?_
  rintro e w4 ⟨vc, rfl, hownc, hb4⟩
  obtain ⟨Ac, cc, rfl, -⟩ := own_slice hownc
  have s4 := hb4.size
  have RC : Hid (TRd w4 w4.heap.size Ac (cancelT o q l)) := Rd.of_own hownc
  have OA4 : Hid (w4.ownsRow w1.heap.size 28 3 (.slice Aa (cancelT o q l).length ca) (cancelT o q l).length (tscells (cancelT o q l))) := own_below OA3.out hb4
  have OB4 : Hid (w4.ownsRow w2.heap.size 28 3 (.slice Ab (cancelAllT o l).length cb) (cancelAllT o l).length (tscells (cancelAllT o l))) := own_below OB.out hb4
  have B4 : Hid (Below w1.heap.size w1 w4) := B3.out.trans (hb4.mono (by omega))
  clear hownc hb4 OA3 OB
  go_wp2_with fail
  refine (same16_yes (B := w4.heap.size) (C := w4.heap.size) Aa Ac _ _ ca cc (cancelT o q l) rfl rfl (Nat.le_refl _) (Nat.le_refl _) (Rd.of_own OA4.out) RC.out (by have := HC1.out; simp only [maxLen]; omega)).mono ?_
  rintro e w5 ⟨rfl, hb5⟩
  have s5 := hb5.size
  have OA5 : Hid (w5.ownsRow w1.heap.size 28 3 (.slice Aa (cancelT o q l).length ca) (cancelT o q l).length (tscells (cancelT o q l))) := own_below OA4.out hb5
  have OB5 : Hid (w5.ownsRow w2.heap.size 28 3 (.slice Ab (cancelAllT o l).length cb) (cancelAllT o l).length (tscells (cancelAllT o l))) := own_below OB4.out hb5
  have B5 : Hid (Below w1.heap.size w1 w5) := B4.out.trans (hb5.mono (by omega))
  clear hb5 OA4 OB4 RC
  go_wp2_with fail
  refine (rcancelalln_any (B := w.heap.size) A c l N HN.out o (by omega) (HH.out.below (HW1.out.trans (B5.out.mono s1))) (by omega)).mono ?_
  rintro e w6 ⟨vd, rfl, hownd, hb6⟩
  obtain ⟨Ad, cd, rfl, -⟩ := own_slice hownd
  have s6 := hb6.size
  have RD : Hid (TRd w6 w6.heap.size Ad (cancelAllT o l)) := Rd.of_own hownd
  have OA6 : Hid (w6.ownsRow w1.heap.size 28 3 (.slice Aa (cancelT o q l).length ca) (cancelT o q l).length (tscells (cancelT o q l))) := own_below OA5.out hb6
  have OB6 : Hid (w6.ownsRow w2.heap.size 28 3 (.slice Ab (cancelAllT o l).length cb) (cancelAllT o l).length (tscells (cancelAllT o l))) := own_below OB5.out hb6
  have B6 : Hid (Below w1.heap.size w1 w6) := B5.out.trans (hb6.mono (by omega))
  clear hownd hb6 OA5 OB5
  go_wp2_with fail
  refine (same16_yes (B := w6.heap.size) (C := w6.heap.size) Ab Ad _ _ cb cd (cancelAllT o l) rfl rfl (Nat.le_refl _) (Nat.le_refl _) (Rd.of_own OB6.out) RD.out (by have := HC2.out; simp only [maxLen]; omega)).mono ?_
  rintro e w7 ⟨rfl, hb7⟩
  have s7 := hb7.size
  have OA7 : Hid (w7.ownsRow w1.heap.size 28 3 (.slice Aa (cancelT o q l).length ca) (cancelT o q l).length (tscells (cancelT o q l))) := own_below OA6.out hb7
  have OB7 : Hid (w7.ownsRow w2.heap.size 28 3 (.slice Ab (cancelAllT o l).length cb) (cancelAllT o l).length (tscells (cancelAllT o l))) := own_below OB6.out hb7
  have B7 : Hid (Below w1.heap.size w1 w7) := B6.out.trans (hb7.mono (by omega))
  clear hb7 OA6 OB6 RD
  go_wp2_with fail
  refine (countn_any (B := w1.heap.size) Ax cx l N HN.out o (by omega) (HX.out.below B7.out) (by omega)).mono ?_
  rintro e w8 ⟨rfl, hb8⟩
  have s8 := hb8.size
  have OA8 : Hid (w8.ownsRow w1.heap.size 28 3 (.slice Aa (cancelT o q l).length ca) (cancelT o q l).length (tscells (cancelT o q l))) := own_below OA7.out hb8
  have OB8 : Hid (w8.ownsRow w2.heap.size 28 3 (.slice Ab (cancelAllT o l).length cb) (cancelAllT o l).length (tscells (cancelAllT o l))) := own_below OB7.out hb8
  have B8 : Hid (Below w1.heap.size w1 w8) := B7.out.trans (hb8.mono (by omega))
  clear hb8 OA7 OB7
  go_wp2_with fail
  refine (rcountn_any (B := w.heap.size) A c l N HN.out o (by omega) (HH.out.below (HW1.out.trans (B8.out.mono s1))) (by omega)).mono ?_
  rintro e w9 ⟨rfl, hb9⟩
  have s9 := hb9.size
  have OA9 : Hid (w9.ownsRow w1.heap.size 28 3 (.slice Aa (cancelT o q l).length ca) (cancelT o q l).length (tscells (cancelT o q l))) := own_below OA8.out hb9
  have OB9 : Hid (w9.ownsRow w2.heap.size 28 3 (.slice Ab (cancelAllT o l).length cb) (cancelAllT o l).length (tscells (cancelAllT o l))) := own_below OB8.out hb9
  have B9 : Hid (Below w1.heap.size w1 w9) := B8.out.trans (hb9.mono (by omega))
  clear hb9 OA8 OB8
  go_wp2_with fail
  refine (spoil_any (base := w1.heap.size) _ _ _ _ OA9.out).mono ?_
  rintro e w10 ⟨rfl, hg10⟩
  have s10 := hg10.size
  have OB10 : Hid (w10.ownsRow w2.heap.size 28 3 (.slice Ab (cancelAllT o l).length cb) (cancelAllT o l).length (tscells (cancelAllT o l))) := own_apart OB9.out hg10 (fun g h1 h2 => by
    have := HLA.out g h1
    have := (OB9.out.lt g h2).1
    omega)
  have B10 : Hid (Below w1.heap.size w1 w10) := below_grown B9.out hg10 (by omega) (fun k hk => (OA9.out.lt k hk).1)
  clear hg10
  go_wp2_with fail
  refine (spoil_any (base := w2.heap.size) _ _ _ _ OB10.out).mono ?_
  rintro e w11 ⟨rfl, hg11⟩
  have s11 := hg11.size
  have B11 : Hid (Below w1.heap.size w1 w11) := below_grown B10.out hg11 (by omega) (fun k hk => by have := (OB10.out.lt k hk).1; omega)
  clear hg11
  go_wp2_with fail
  refine (same16_yes (B := w1.heap.size) (C := w.heap.size) Ax A N N cx c l HN.out HN.out (by omega) (by omega) (HX.out.below B11.out) (HH.out.below (HW1.out.trans (B11.out.mono s1))) (by simp only [maxLen]; omega)).mono ?_
  rintro e w12 ⟨rfl, hb12⟩
  have s12 := hb12.size
  go_wp2_with fail
  refine (works_any _).mono ?_
  rintro e w13 ⟨rfl, hb13⟩
  go_wp2_with fail
  go_ret
  exact ⟨rfl, HW1.out.trans ((B11.out.mono s1).trans ((hb12.mono (by omega)).trans (hb13.mono (by omega))))⟩

end Go.Proofs.Ytfocenfgeolpfaa
