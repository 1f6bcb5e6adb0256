/- The walk of the law Steps. -/
import Derived.Test.YtlcpadonjbaaeaaW10
import Derived.Test.YtlcpadonjbaaeaaW11
namespace Go.Proofs.Ytlcpadonjbaaeaa
open Go.RowKit

set_option maxRecDepth 100000 in
set_option maxHeartbeats 2000000 in
theorem stepslaw_any (m : Mc) (hok : OkM m) (i : In) (u : Int) (w : World) :
    Calls Try.prog 8 #[mval m, ival i, .int .i64 u] w fun e w' => e = .returned (.bool true) ∧ Below w.heap.size w w' := by
  have HOK : Hid (OkM m) := hok
  clear hok
  go_enter Try.func8, Try.ntmps8
  go_wp2_with fail
  refine (start_any _).mono ?_
  rintro e w1 ⟨v1, rfl, hown1, hb1⟩
  obtain ⟨A1, c1, rfl, hc1⟩ := own_slice hown1
  have hm0 : ((w.alloc (.cells (mcells m) 31)).alloc (.cells (icells i) 42)).heap[w.heap.size]? = some (.cells (mcells m) 31 (0, 0)) := by
    rw [heap_alloc_old, heap_alloc_new]
    simp
  have hi0 : ((w.alloc (.cells (mcells m) 31)).alloc (.cells (icells i) 42)).heap[w.heap.size + 1]? = some (.cells (icells i) 42 (0, 0)) := by
    have := heap_alloc_new (w.alloc (.cells (mcells m) 31)) (.cells (icells i) 42)
    simpa using this
  have hz1 := hb1.size
  simp only [World.size_alloc] at hz1
  have HM1 : Hid (w1.heap[w.heap.size]? = some (.cells (mcells m) 31 (0, 0))) := block_below hm0 hb1 (by simp; omega)
  have HI1 : Hid (w1.heap[w.heap.size + 1]? = some (.cells (icells i) 42 (0, 0))) := block_below hi0 hb1 (by simp)
  have HW1 : Hid (Below w.heap.size w w1) := (((Below.refl _ _).alloc (Nat.le_refl _) _).alloc (by simp) _).trans (hb1.mono (by simp; omega))
  have HO1 : Hid (ORd w1 w1.heap.size A1 [(1, 0, 0, 0), (4, 0, 1, 500), (4, 0, 2, 32000)]) := Rd.of_own hown1
  clear hm0 hi0 hb1 hown1 hc1
  go_wp2_with fail
  refine (rstart_any _).mono ?_
  rintro e w2 ⟨v2, rfl, hown2, hb2⟩
  obtain ⟨A2, c2, rfl, hc2⟩ := own_slice hown2
  have hz2 := hb2.size
  simp only [World.size_alloc] at hz2
  have hs2 : Below w1.heap.size w1 w2 := ((Below.refl _ _).alloc (Nat.le_refl _) _).trans (hb2.mono (by simp))
  have HA2 : Hid (w2.heap[w1.heap.size]? = some (.cells (mcells (1, 500, 0)) 31 (0, 0))) := block_below (heap_alloc_new w1 (.cells (mcells (1, 500, 0)) 31)) hb2 (by simp)
  have HM2 : Hid (w2.heap[w.heap.size]? = some (.cells (mcells m) 31 (0, 0))) := block_below HM1.out hs2 (by omega)
  have HI2 : Hid (w2.heap[w.heap.size + 1]? = some (.cells (icells i) 42 (0, 0))) := block_below HI1.out hs2 (by omega)
  have HW2 : Hid (Below w.heap.size w w2) := HW1.out.trans (hs2.mono (by omega))
  have HO2 : Hid (ORd w2 w1.heap.size A1 [(1, 0, 0, 0), (4, 0, 1, 500), (4, 0, 2, 32000)]) := HO1.out.below hs2
  have HP2 : Hid (ORd w2 w2.heap.size A2 [(1, 0, 0, 0), (4, 0, 1, 500), (4, 0, 2, 32000)]) := Rd.of_own hown2
  clear hb2 hown2 hc2 hs2 HM1 HI1 HW1 HO1
  go_upto_region 3 with fail
  have hn := heap_alloc_new w2 (.cells (mcells (1, 500, 0)) 31)
  have hba : Below w2.heap.size w2 (w2.alloc (.cells (mcells (1, 500, 0)) 31)) := (Below.refl _ _).alloc (Nat.le_refl _) _
  have za : (w2.alloc (.cells (mcells (1, 500, 0)) 31)).heap.size = w2.heap.size + 1 := by simp
  unfold mcells at hn hba za
  generalize w2.alloc _ = wa at hn hba za ⊢
  have q0 : w.heap.size < wa.heap.size := by omega
  have q1 : w.heap.size + 1 < wa.heap.size := by omega
  have q2 : w1.heap.size < wa.heap.size := by omega
  have q3 : w2.heap.size < wa.heap.size := by omega
  have HM : Hid (wa.heap[w.heap.size]? = some (.cells (mcells m) 31 (0, 0))) := block_below HM2.out hba (by omega)
  have HI : Hid (wa.heap[w.heap.size + 1]? = some (.cells (icells i) 42 (0, 0))) := block_below HI2.out hba (by omega)
  have HW : Hid (Below w.heap.size w wa) := HW2.out.trans (hba.mono (by omega))
  obtain ⟨a0, a1, a2⟩ := mc_cells (block_below HA2.out hba (by omega))
  obtain ⟨b0, b1, b2⟩ := mc_cells (m := (1, 500, 0)) hn
  have HO : Hid (ORd wa w1.heap.size A1 [(1, 0, 0, 0), (4, 0, 1, 500), (4, 0, 2, 32000)]) := HO2.out.below (hba.mono (by omega))
  have HP : Hid (ORd wa w2.heap.size A2 [(1, 0, 0, 0), (4, 0, 1, 500), (4, 0, 2, 32000)]) := HP2.out.below hba
  have hne := fun W => (run_neq_mc (1, 500, 0) (1, 500, 0) W).trans (by rw [decide_eq_true rfl]; try rfl : _ = .ok (.bool false) W)
  clear hn hba za HA2 HM2 HI2 HW2 HO2 HP2 hz1 hz2
  go_wp2_with fail
  refine (same_any (B := w1.heap.size) (C := w2.heap.size) A1 A2 c1 c2 [(1, 0, 0, 0), (4, 0, 1, 500), (4, 0, 2, 32000)] [(1, 0, 0, 0), (4, 0, 1, 500), (4, 0, 2, 32000)] _ (by omega) (by omega) HO.out HP.out (by simp [maxLen]) (by simp [maxLen])).mono ?_
  rw [decide_eq_true rfl]
  rintro e w3 ⟨rfl, hb3⟩
  have q4 : w.heap.size < w3.heap.size := by have := hb3.size; omega
  have q5 : w.heap.size + 1 < w3.heap.size := by have := hb3.size; omega
  clear a0 a1 a2 b0 b1 b2
  obtain ⟨a0, a1, a2⟩ := mc_cells (block_below HM.out hb3 q0)
  have hi3 := block_below HI.out hb3 q1
  have b0 : w3.cell? ⟨w.heap.size + 1, 0, none⟩ = some (.int .u8 i.1) := cells_of_block hi3 0
  have b1 : w3.cell? ⟨w.heap.size + 1, 1, none⟩ = some (.int .i64 i.2.1) := cells_of_block hi3 1
  have b2 : w3.cell? ⟨w.heap.size + 1, 2, none⟩ = some (.int .u8 i.2.2) := cells_of_block hi3 2
  have HB3 : Hid (Below wa.heap.size wa w3) := hb3
  clear hi3 hb3
  go_wp2_with fail
  refine (lstep_any m i HOK.out _).mono ?_
  rintro e w4 ⟨rfl, hb4⟩
  have q6 : w.heap.size < w4.heap.size := by have := hb4.size; omega
  have q7 : w.heap.size + 1 < w4.heap.size := by have := hb4.size; omega
  have hb34 := HB3.out.trans (hb4.mono HB3.out.size)
  clear a0 a1 a2 b0 b1 b2
  obtain ⟨a0, a1, a2⟩ := mc_cells (block_below HM.out hb34 q0)
  have hi4 := block_below HI.out hb34 q1
  have b0 : w4.cell? ⟨w.heap.size + 1, 0, none⟩ = some (.int .u8 i.1) := cells_of_block hi4 0
  have b1 : w4.cell? ⟨w.heap.size + 1, 1, none⟩ = some (.int .i64 i.2.1) := cells_of_block hi4 1
  have b2 : w4.cell? ⟨w.heap.size + 1, 2, none⟩ = some (.int .u8 i.2.2) := cells_of_block hi4 2
  have f0 : ∀ o, w4.frozen? ⟨w.heap.size + 1, o, none⟩ = false := fun _ => frozen_of_row _ _ _ _ _ hi4
  have HB4 : Hid (Below wa.heap.size wa w4) := hb34
  clear hi4 hb4 hb34
  go_wp2_with fail
  refine (lstep_any m (i.1.tmod 8, i.2.1, i.2.2.tmod 15) HOK.out _).mono ?_
  rintro e w5 ⟨rfl, hb5⟩
  have hb : Below w.heap.size w w5 := (((HW.out.trans (HB4.out.mono (by omega))).setCell (by simp) _).setCell (by simp) _).trans (hb5.mono (by simp; omega))
  have HB5 : Hid (Below w.heap.size w w5) := hb
  clear hb5 hb
  go_wp2_with fail
  refine (copies_any _ _).mono ?_
  rintro e w' ⟨rfl, rfl⟩
  go_wp2_with fail
  refine (rcopies_any _ _).mono ?_
  rintro e w7 ⟨rfl, hb7⟩
  have HB7 : Hid (Below w.heap.size w w7) := HB5.out.trans (hb7.mono HB5.out.size)
  clear hb7
  go_wp2_with fail
  refine (copies_any _ _).mono ?_
  rintro e w' ⟨rfl, rfl⟩
  go_wp2_with fail
  refine (rcopies_any _ _).mono ?_
  rintro e w8 ⟨rfl, hb8⟩
  have HB8 : Hid (Below w.heap.size w w8) := HB7.out.trans (hb8.mono HB7.out.size)
  clear hb8
  go_wp2_with fail
  refine (works_any _).mono ?_
  rintro e w6 ⟨rfl, hb6⟩
  go_wp2_with fail
  go_ret
  exact ⟨rfl, HB8.out.trans (hb6.mono HB8.out.size)⟩

end Go.Proofs.Ytlcpadonjbaaeaa
