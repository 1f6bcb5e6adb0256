/- The walks of the laws ServerTable and ServerSteps. -/
import Derived.Test.YtilnibedblmoeaaW9
namespace Go.Proofs.Ytilnibedblmoeaa
open Go.RowKit

def codesL : List Int := [-1, 0, 1, 99, 100, 101, 180, 199, 200, 201, 299, 300, 302, 486, 699, 700]
def waitsL : List Int := [0, 1, 500, 1000, 2000, 4000, 8000, 16000, 32000, 64000]

set_option maxRecDepth 100000 in
set_option maxHeartbeats 2000000 in
theorem tablelaw_any (w : World) : Calls Try.prog 4 #[] w fun e w' => e = .returned (.bool true) ∧ Below w.heap.size w w' := by
  go_enter Try.func4, Try.ntmps4
  go_upto_region 3 with fail
  have hb0 : Below w.heap.size w ((w.alloc (.cells (ncells codesL).toArray 3)).alloc (.cells (ncells waitsL).toArray 3)) := ((Below.refl _ _).alloc (Nat.le_refl _) _).alloc (by simp) _
  have z0 : w.heap.size + 1 < ((w.alloc (.cells (ncells codesL).toArray 3)).alloc (.cells (ncells waitsL).toArray 3)).heap.size := by simp
  have h2 : Rd ((w.alloc (.cells (ncells codesL).toArray 3)).alloc (.cells (ncells waitsL).toArray 3)) (w.heap.size + 1 + 1) (some ⟨w.heap.size + 1, 0, none⟩) (ncells waitsL) := by
    have := Rd.lit (w.alloc (.cells (ncells codesL).toArray 3)) (ncells waitsL) 3
    simpa using this
  have h1 : Rd ((w.alloc (.cells (ncells codesL).toArray 3)).alloc (.cells (ncells waitsL).toArray 3)) (w.heap.size + 1) (some ⟨w.heap.size, 0, none⟩) (ncells codesL) :=
    (Rd.lit w (ncells codesL) 3).below (by simpa using (Below.refl (w.alloc (.cells (ncells codesL).toArray 3)).heap.size _).alloc (Nat.le_refl _) _)
  simp only [ncells, codesL, waitsL, List.map] at hb0 z0 h1 h2
  generalize World.alloc (World.alloc w _) _ = w2 at hb0 z0 h1 h2 ⊢
  have HW : Hid (Below w.heap.size w w2) := hb0
  have HC : Hid (Rd w2 (w.heap.size + 1) (some ⟨w.heap.size, 0, none⟩) (ncells codesL)) := h1
  have HV : Hid (Rd w2 (w.heap.size + 1 + 1) (some ⟨w.heap.size + 1, 0, none⟩) (ncells waitsL)) := h2
  clear hb0 h1 h2
  go_wp2_with fail
  go_loopw [3] (fun i wr => ∃ k : Nat, k ≤ 9 ∧ i = .int .i64 k ∧ Below w2.heap.size w2 wr) (fun i _ => 9 - (intOf i).toNat)
  case atStart => exact ⟨0, by omega, rfl, Below.refl _ _⟩
  case round =>
    obtain ⟨k, hk, rfl, hb⟩ := hrel
    have HB : Hid (Below w2.heap.size w2 wr) := hb
    by_cases hlt : k < 9
    · have hki : (k : Int) < 9 := by omega
      clear hb
      go_wp2_with fail
      go_loopw [4] (fun i wr => ∃ k : Nat, k ≤ 10 ∧ i = .int .i64 k ∧ Below w2.heap.size w2 wr) (fun i _ => 10 - (intOf i).toNat)
      case atStart => exact ⟨0, by omega, rfl, HB.out⟩
      case round =>
        obtain ⟨k', hk', rfl, hb⟩ := hrel
        have HB' : Hid (Below w2.heap.size w2 wr) := hb
        by_cases hlt' : k' < 10
        · have hki' : (k' : Int) < 10 := by omega
          clear hb
          go_wp2_with fail
          go_loopw [5] (fun i wr => ∃ k : Nat, k ≤ 16 ∧ i = .int .i64 k ∧ Below w2.heap.size w2 wr) (fun i _ => 16 - (intOf i).toNat)
          case atStart => exact ⟨0, by omega, rfl, HB'.out⟩
          case round =>
            obtain ⟨k2, hk2, rfl, hb⟩ := hrel
            have HB2 : Hid (Below w2.heap.size w2 wr) := hb
            by_cases hlt2 : k2 < 16
            · have hki2 : (k2 : Int) < 16 := by omega
              have hz := hb.size
              have q0 : w.heap.size < wr.heap.size := by omega
              have q1 : w.heap.size + 1 < wr.heap.size := by omega
              obtain ⟨b, off, n, he, hbB, hln, hcell⟩ := ncells_at (HC.out.below (hb.mono (by omega))) (show k2 < codesL.length from hlt2)
              cases he
              obtain ⟨b, off, n', he, hbB', hln', hcell'⟩ := ncells_at (HV.out.below (hb.mono (by omega))) (show k' < waitsL.length from hlt')
              cases he
              rw [Nat.zero_add] at hcell hcell'
              have HK : Hid (∀ w', Below wr.heap.size wr w' → w'.cell? ⟨w.heap.size, k2, none⟩ = some (.int .i64 n) ∧ w'.cell? ⟨w.heap.size + 1, k', none⟩ = some (.int .i64 n')) := fun w' hc =>
                ⟨(hc.cell (p := ⟨w.heap.size, k2, none⟩) q0).trans hcell, (hc.cell (p := ⟨w.heap.size + 1, k', none⟩) q1).trans hcell'⟩
              clear hb hln hln'
              go_upto_region 12 with fail
              go_region_held3 (fun w' => w'.cell? ⟨w.heap.size, k2, none⟩ = some (.int .i64 n) ∧ w'.cell? ⟨w.heap.size + 1, k', none⟩ = some (.int .i64 n'))
                (first | go_keep | exact hkeep3)
                ((go_at_call 14
                  refine (inputs_any (B := w.heap.size + 1) (IntKind.u8.wrap k, n', n) _ 16 codesL _ (by simp; omega) (Rd.drew (HC.out.below (HB2.out.mono (by omega)))) (by simp [codesL, maxLen])).mono ?_
                  rintro e w3 ⟨rfl, hb3⟩
                  have hA3 : Below wr.heap.size wr w3 := (below_drewN (Below.refl _ _) 1).trans (hb3.mono (by simp))
                  have hz3 := hA3.size
                  have hkeep3 := HK.out w3 hA3))
              go_wp2_with fail
              go_roundw
              case rel => exact ⟨k2 + 1, by omega, by go_num, HB2.out.trans (hA3.mono hz)⟩
              case measure => simp [intOf]; omega
            · clear hb
              go_wp2_with fail
              go_roundw
              case rel => exact ⟨k' + 1, by omega, by go_num, HB2.out⟩
              case measure => simp [intOf]; omega
        · clear hb
          go_wp2_with fail
          go_roundw
          case rel => exact ⟨k + 1, by omega, by go_num, HB'.out⟩
          case measure => simp [intOf]; omega
    · clear hb
      go_wp2_with fail
      refine (works_any _).mono ?_
      rintro e w3 ⟨rfl, hb3⟩
      go_wp2_with fail
      go_ret
      exact ⟨rfl, HW.out.trans ((HB.out.trans (hb3.mono HB.out.size)).mono HW.out.size)⟩

set_option maxRecDepth 100000 in
set_option maxHeartbeats 2000000 in
theorem stepslaw_any (m : Mc) (i : In) (w : World) :
    Calls Try.prog 3 #[mval m, ival i] w fun e w' => e = .returned (.bool true) ∧ Below w.heap.size w w' := by
  go_enter Try.func3, Try.ntmps3
  go_wp2_with fail
  refine (start_any _).mono ?_
  rintro e w1 ⟨v1, rfl, hown1, hb1⟩
  obtain ⟨A1, c1, rfl, hc1⟩ := own_slice hown1
  have hm0 : ((w.alloc (.cells (mcells m) 24)).alloc (.cells (icells i) 28)).heap[w.heap.size]? = some (.cells (mcells m) 24 (0, 0)) := by
    rw [heap_alloc_old, heap_alloc_new]
    simp
  have hi0 : ((w.alloc (.cells (mcells m) 24)).alloc (.cells (icells i) 28)).heap[w.heap.size + 1]? = some (.cells (icells i) 28 (0, 0)) := by
    have := heap_alloc_new (w.alloc (.cells (mcells m) 24)) (.cells (icells i) 28)
    simpa using this
  have hz1 := hb1.size
  simp only [World.size_alloc] at hz1
  have HM1 : Hid (w1.heap[w.heap.size]? = some (.cells (mcells m) 24 (0, 0))) := block_below hm0 hb1 (by simp; omega)
  have HI1 : Hid (w1.heap[w.heap.size + 1]? = some (.cells (icells i) 28 (0, 0))) := block_below hi0 hb1 (by simp)
  have HW1 : Hid (Below w.heap.size w w1) := (((Below.refl _ _).alloc (Nat.le_refl _) _).alloc (by simp) _).trans (hb1.mono (by simp; omega))
  have HO1 : Hid (ORd w1 w1.heap.size A1 [(3, 0, 0, 0)]) := Rd.of_own hown1
  clear hm0 hi0 hb1 hown1 hc1
  go_wp2_with fail
  refine (rstart_any _).mono ?_
  rintro e w2 ⟨v2, rfl, hown2, hb2⟩
  obtain ⟨A2, c2, rfl, hc2⟩ := own_slice hown2
  have hz2 := hb2.size
  simp only [World.size_alloc] at hz2
  have hs2 : Below w1.heap.size w1 w2 := ((Below.refl _ _).alloc (Nat.le_refl _) _).trans (hb2.mono (by simp))
  have HA2 : Hid (w2.heap[w1.heap.size]? = some (.cells (mcells (2, 0, 0)) 24 (0, 0))) := block_below (heap_alloc_new w1 (.cells (mcells (2, 0, 0)) 24)) hb2 (by simp)
  have HM2 : Hid (w2.heap[w.heap.size]? = some (.cells (mcells m) 24 (0, 0))) := block_below HM1.out hs2 (by omega)
  have HI2 : Hid (w2.heap[w.heap.size + 1]? = some (.cells (icells i) 28 (0, 0))) := block_below HI1.out hs2 (by omega)
  have HW2 : Hid (Below w.heap.size w w2) := HW1.out.trans (hs2.mono (by omega))
  have HO2 : Hid (ORd w2 w1.heap.size A1 [(3, 0, 0, 0)]) := HO1.out.below hs2
  have HP2 : Hid (ORd w2 w2.heap.size A2 [(3, 0, 0, 0)]) := Rd.of_own hown2
  clear hb2 hown2 hc2 hs2 HM1 HI1 HW1 HO1
  go_upto_region 3 with fail
  have hn := heap_alloc_new w2 (.cells (mcells (2, 0, 0)) 24)
  have hba : Below w2.heap.size w2 (w2.alloc (.cells (mcells (2, 0, 0)) 24)) := (Below.refl _ _).alloc (Nat.le_refl _) _
  have za : (w2.alloc (.cells (mcells (2, 0, 0)) 24)).heap.size = w2.heap.size + 1 := by simp
  unfold mcells at hn hba za
  generalize w2.alloc _ = wa at hn hba za ⊢
  have q0 : w.heap.size < wa.heap.size := by omega
  have q1 : w.heap.size + 1 < wa.heap.size := by omega
  have q2 : w1.heap.size < wa.heap.size := by omega
  have q3 : w2.heap.size < wa.heap.size := by omega
  have HM : Hid (wa.heap[w.heap.size]? = some (.cells (mcells m) 24 (0, 0))) := block_below HM2.out hba (by omega)
  have HI : Hid (wa.heap[w.heap.size + 1]? = some (.cells (icells i) 28 (0, 0))) := block_below HI2.out hba (by omega)
  have HW : Hid (Below w.heap.size w wa) := HW2.out.trans (hba.mono (by omega))
  obtain ⟨a0, a1, a2⟩ := mc_cells (block_below HA2.out hba (by omega))
  obtain ⟨b0, b1, b2⟩ := mc_cells (m := (2, 0, 0)) hn
  have HO : Hid (ORd wa w1.heap.size A1 [(3, 0, 0, 0)]) := HO2.out.below (hba.mono (by omega))
  have HP : Hid (ORd wa w2.heap.size A2 [(3, 0, 0, 0)]) := HP2.out.below hba
  have hne := fun W => (run_neq_mc (2, 0, 0) (2, 0, 0) W).trans (by rw [decide_eq_true rfl]; try rfl : _ = .ok (.bool false) W)
  clear hn hba za HA2 HM2 HI2 HW2 HO2 HP2 hz1 hz2
  go_wp2_with fail
  refine (same_any (B := w1.heap.size) (C := w2.heap.size) A1 A2 c1 c2 [(3, 0, 0, 0)] [(3, 0, 0, 0)] _ (by omega) (by omega) HO.out HP.out (by simp [maxLen]) (by simp [maxLen])).mono ?_
  rw [decide_eq_true rfl]
  rintro e w3 ⟨rfl, hb3⟩
  have q4 : w.heap.size < w3.heap.size := by have := hb3.size; omega
  have q5 : w.heap.size + 1 < w3.heap.size := by have := hb3.size; omega
  clear a0 a1 a2 b0 b1 b2
  obtain ⟨a0, a1, a2⟩ := mc_cells (block_below HM.out hb3 q0)
  have hi3 := block_below HI.out hb3 q1
  have b0 : w3.cell? ⟨w.heap.size + 1, 0, none⟩ = some (.int .u8 i.1) := cells_of_block hi3 0
  have b1 : w3.cell? ⟨w.heap.size + 1, 1, none⟩ = some (.int .i64 i.2.1) := cells_of_block hi3 1
  have b2 : w3.cell? ⟨w.heap.size + 1, 2, none⟩ = some (.int .u8 i.2.2) := cells_of_block hi3 2
  have HB3 : Hid (Below wa.heap.size wa w3) := hb3
  clear hi3 hb3
  go_wp2_with fail
  refine (lstep_any m i _).mono ?_
  rintro e w4 ⟨rfl, hb4⟩
  have q6 : w.heap.size < w4.heap.size := by have := hb4.size; omega
  have q7 : w.heap.size + 1 < w4.heap.size := by have := hb4.size; omega
  have hb34 := HB3.out.trans (hb4.mono HB3.out.size)
  clear a0 a1 a2 b0 b1 b2
  obtain ⟨a0, a1, a2⟩ := mc_cells (block_below HM.out hb34 q0)
  have hi4 := block_below HI.out hb34 q1
  have b0 : w4.cell? ⟨w.heap.size + 1, 0, none⟩ = some (.int .u8 i.1) := cells_of_block hi4 0
  have b1 : w4.cell? ⟨w.heap.size + 1, 1, none⟩ = some (.int .i64 i.2.1) := cells_of_block hi4 1
  have b2 : w4.cell? ⟨w.heap.size + 1, 2, none⟩ = some (.int .u8 i.2.2) := cells_of_block hi4 2
  have f0 : ∀ o, w4.frozen? ⟨w.heap.size + 1, o, none⟩ = false := fun _ => frozen_of_row _ _ _ _ _ hi4
  have HB4 : Hid (Below wa.heap.size wa w4) := hb34
  clear hi4 hb4 hb34
  go_wp2_with fail
  refine (lstep_any m (i.1.tmod 8, i.2.1, i.2.2.tmod 15) _).mono ?_
  rintro e w5 ⟨rfl, hb5⟩
  have hb : Below w.heap.size w w5 := (((HW.out.trans (HB4.out.mono (by omega))).setCell (by simp) _).setCell (by simp) _).trans (hb5.mono (by simp; omega))
  have HB5 : Hid (Below w.heap.size w w5) := hb
  clear hb5 hb
  go_wp2_with fail
  refine (works_any _).mono ?_
  rintro e w6 ⟨rfl, hb6⟩
  go_wp2_with fail
  go_ret
  exact ⟨rfl, HB5.out.trans (hb6.mono HB5.out.size)⟩

end Go.Proofs.Ytilnibedblmoeaa
