/- The walk of the statement TimersAdds. -/
import Derived.Test.YtfocenfgeolpfaaW12
namespace Go.Proofs.Ytfocenfgeolpfaa
open Go.RowKit

set_option maxRecDepth 100000 in
set_option maxHeartbeats 2000000 in
theorem adds_any (A : Option Addr) (c : Nat) (l0 : List Tm) (t : Tm) (w : World) (hl0 : l0.length ≤ maxLen) (hlc : l0.length ≤ c) (h : TRd w w.heap.size A l0) :
    Calls Try.prog 6 #[.slice A l0.length c, .agg #[.int .i64 t.1, .int .i64 t.2.1, .int .i64 t.2.2]] w fun e w' => e = .returned (.bool true) ∧ Below w.heap.size w w' := by
  unfold maxLen at hl0
  obtain ⟨l, hl⟩ : ∃ l, l = l0.take 1100 := ⟨_, rfl⟩
  obtain ⟨N, hN⟩ : ∃ N, N = l.length := ⟨_, rfl⟩
  have HH : Hid (TRd w w.heap.size A l) := by
    show TRd w w.heap.size A l
    rw [hl]
    exact h.take _
  have hmin : (if (1100 : Int) < (l0.length : Int) then (1100 : Int) else (l0.length : Int)) = (N : Int) := by
    have := min_eq l0 1100
    rw [hN, hl]
    exact this
  have hN1 : N ≤ 1100 := by rw [hN, hl]; simp; omega
  have hNc : N ≤ c := by rw [hN, hl]; simp; omega
  have hs := fun W => slice_to A l0.length c N W hNc
  have HN : Hid (l.length = N) := hN.symm
  clear h hl hN
  go_enter Try.func6, Try.ntmps6
  go_wp2_with fail
  refine (copyn_any (B := w.heap.size) A c l N HN.out (by simp) (HH.out.below ((Below.refl _ _).alloc (Nat.le_refl _) _)) (by omega)).mono ?_
  rintro e w1 ⟨vx, rfl, hownx, hb1⟩
  obtain ⟨Ax, cx, rfl, hcx⟩ := own_slice hownx
  have s1 := hb1.size
  simp only [World.size_alloc] at s1
  have HX : Hid (TRd w1 w1.heap.size Ax l) := Rd.of_own hownx
  have HB1 : Hid (Below (w.heap.size + 1) (w.alloc (.cells #[.int .i64 t.1, .int .i64 t.2.1, .int .i64 t.2.2] 28)) w1) := hb1.mono (by simp)
  have HBX : Hid (Box w1 w.heap.size t) := (box_new w t).below hb1 (by simp)
  have HW1 : Hid (Below w.heap.size w w1) := ((Below.refl _ _).alloc (Nat.le_refl _) _).trans (hb1.mono (by simp))
  have hlt1 : w.heap.size < w1.heap.size := by omega
  clear hownx hb1
  go_wp2_with fail
  refine (nextn_any (B := w1.heap.size) Ax cx l N HN.out (Nat.le_refl _) HX.out (by omega)).mono ?_
  rintro e w2 ⟨rfl, hb2⟩
  have s2 := hb2.size
  go_wp2_with fail
  refine (rnextn_any (B := w.heap.size) A c l N HN.out (by omega) (HH.out.below (HW1.out.trans (hb2.mono (by omega)))) (by omega)).mono ?_
  rintro e w3 ⟨rfl, hb3⟩
  have s3 := hb3.size
  have B3 : Hid (Below w1.heap.size w1 w3) := hb2.trans (hb3.mono s2)
  clear hb2 hb3
  go_wp2_with fail
  refine (validn_any (B := w1.heap.size) Ax cx l N HN.out (by omega) (HX.out.below B3.out) (by omega)).mono ?_
  rintro e w4 ⟨rfl, hb4⟩
  have s4 := hb4.size
  have B4 : Hid (Below w1.heap.size w1 w4) := B3.out.trans (hb4.mono (by omega))
  clear hb4
  go_wp2_with fail
  refine (rvalidn_any (B := w.heap.size) A c l N HN.out (by omega) (HH.out.below (HW1.out.trans (B4.out.mono (by omega)))) (by omega)).mono ?_
  rintro e w5 ⟨rfl, hb5⟩
  have s5 := hb5.size
  have B5 : Hid (Below w1.heap.size w1 w5) := B4.out.trans (hb5.mono (by omega))
  clear hb5
  obtain ⟨k0, k1, k2⟩ := HBX.out.below B5.out hlt1
  go_wp2_with fail
  clear k0 k1 k2
  refine (addn_any (B := w1.heap.size) Ax cx l N HN.out t (by omega) (HX.out.below B5.out) (by omega) hcx).mono ?_
  rintro e w6 ⟨va, rfl, howna, hb6⟩
  obtain ⟨Aa, ca, rfl, -⟩ := own_slice howna
  have s6 := hb6.size
  have OA : Hid (w6.ownsRow w5.heap.size 28 3 (.slice Aa (addT l t).1.length ca) (addT l t).1.length (tscells (addT l t).1)) := howna
  have B6 : Hid (Below w1.heap.size w1 w6) := B5.out.trans (hb6.mono (by omega))
  clear hb6 howna
  obtain ⟨k0, k1, k2⟩ := HBX.out.below B6.out hlt1
  go_wp2_with fail
  clear k0 k1 k2
  refine (raddn_any (B := w.heap.size) A c l N HN.out t (by omega) (HH.out.below (HW1.out.trans (B6.out.mono (by omega)))) (by omega)).mono ?_
  rintro e w7 ⟨vb, rfl, hownb, hb7⟩
  obtain ⟨Ab, cb, rfl, -⟩ := own_slice hownb
  have s7 := hb7.size
  have OA7 : Hid (w7.ownsRow w5.heap.size 28 3 (.slice Aa (addT l t).1.length ca) (addT l t).1.length (tscells (addT l t).1)) := own_below OA.out hb7
  have RB : Hid (TRd w7 w7.heap.size Ab (addT l t).1) := Rd.of_own hownb
  have B7 : Hid (Below w1.heap.size w1 w7) := B6.out.trans (hb7.mono (by omega))
  clear hb7 hownb OA
  go_wp2_with fail
  refine (same16_yes (B := w7.heap.size) (C := w7.heap.size) Aa Ab _ _ ca cb (addT l t).1 rfl rfl (Nat.le_refl _) (Nat.le_refl _) (Rd.of_own OA7.out) RB.out (by have := addT_len (l := l) (t := t); simp only [maxLen]; omega)).mono ?_
  rintro e w8 ⟨rfl, hb8⟩
  have s8 := hb8.size
  have B8 : Hid (Below w1.heap.size w1 w8) := B7.out.trans (hb8.mono (by omega))
  have OA8 : Hid (w8.ownsRow w5.heap.size 28 3 (.slice Aa (addT l t).1.length ca) (addT l t).1.length (tscells (addT l t).1)) := own_below OA7.out hb8
  clear hb8 OA7 RB
  go_wp2_with fail
  refine (spoil_any (base := w5.heap.size) _ _ _ _ OA8.out).mono ?_
  rintro e w9 ⟨rfl, hg9⟩
  have s9 := hg9.size
  have B9 : Hid (Below w1.heap.size w1 w9) := below_grown B8.out hg9 (by omega) (fun k hk => by have := (OA8.out.lt k hk).1; omega)
  clear hg9
  obtain ⟨k0, k1, k2⟩ := HBX.out.below B9.out hlt1
  go_wp2_with fail
  clear k0 k1 k2
  refine (restartn_any (B := w1.heap.size) Ax cx l N HN.out t (by omega) (HX.out.below B9.out) (by omega)).mono ?_
  rintro e w10 ⟨vc, rfl, hownc, hb10⟩
  obtain ⟨Ac, cc, rfl, -⟩ := own_slice hownc
  have s10 := hb10.size
  have OC : Hid (w10.ownsRow w9.heap.size 28 3 (.slice Ac (restartT l t).1.length cc) (restartT l t).1.length (tscells (restartT l t).1)) := hownc
  have B10 : Hid (Below w1.heap.size w1 w10) := B9.out.trans (hb10.mono (by omega))
  clear hb10 hownc
  obtain ⟨k0, k1, k2⟩ := HBX.out.below B10.out hlt1
  go_wp2_with fail
  clear k0 k1 k2
  refine (rrestartn_any (B := w.heap.size) A c l N HN.out t (by omega) (HH.out.below (HW1.out.trans (B10.out.mono (by omega)))) (by omega)).mono ?_
  rintro e w11 ⟨vd, rfl, hownd, hb11⟩
  obtain ⟨Ad, cd, rfl, -⟩ := own_slice hownd
  have s11 := hb11.size
  have OC11 : Hid (w11.ownsRow w9.heap.size 28 3 (.slice Ac (restartT l t).1.length cc) (restartT l t).1.length (tscells (restartT l t).1)) := own_below OC.out hb11
  have RD : Hid (TRd w11 w11.heap.size Ad (restartT l t).1) := Rd.of_own hownd
  have B11 : Hid (Below w1.heap.size w1 w11) := B10.out.trans (hb11.mono (by omega))
  clear hb11 hownd OC
  go_wp2_with fail
  refine (same16_yes (B := w11.heap.size) (C := w11.heap.size) Ac Ad _ _ cc cd (restartT l t).1 rfl rfl (Nat.le_refl _) (Nat.le_refl _) (Rd.of_own OC11.out) RD.out (by have := restart_len (l := l) (t := t); simp only [maxLen]; omega)).mono ?_
  rintro e w12 ⟨rfl, hb12⟩
  have s12 := hb12.size
  have B12 : Hid (Below w1.heap.size w1 w12) := B11.out.trans (hb12.mono (by omega))
  have OC12 : Hid (w12.ownsRow w9.heap.size 28 3 (.slice Ac (restartT l t).1.length cc) (restartT l t).1.length (tscells (restartT l t).1)) := own_below OC11.out hb12
  clear hb12 OC11 RD
  go_wp2_with fail
  refine (spoil_any (base := w9.heap.size) _ _ _ _ OC12.out).mono ?_
  rintro e w13 ⟨rfl, hg13⟩
  have s13 := hg13.size
  have B13 : Hid (Below w1.heap.size w1 w13) := below_grown B12.out hg13 (by omega) (fun k hk => by have := (OC12.out.lt k hk).1; omega)
  clear hg13
  go_wp2_with fail
  refine (same16_yes (B := w1.heap.size) (C := w.heap.size) Ax A N N cx c l HN.out HN.out (by omega) (by omega) (HX.out.below B13.out) (HH.out.below (HW1.out.trans (B13.out.mono (by omega)))) (by simp only [maxLen]; omega)).mono ?_
  rintro e w14 ⟨rfl, hb14⟩
  have s14 := hb14.size
  go_wp2_with fail
  refine (works_any _).mono ?_
  rintro e w15 ⟨rfl, hb15⟩
  go_wp2_with fail
  go_ret
  exact ⟨rfl, HW1.out.trans ((B13.out.mono (by omega)).trans ((hb14.mono (by omega)).trans (hb15.mono (by omega))))⟩

end Go.Proofs.Ytfocenfgeolpfaa
