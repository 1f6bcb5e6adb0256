/- The walk of works. (Printed by wip/tools/genWorks.py.) -/
import Derived.Test.YtlcpadonjbaaeaaW7
namespace Go.Proofs.Ytlcpadonjbaaeaa
open Go.RowKit

set_option maxRecDepth 100000 in
set_option maxHeartbeats 4000000 in
theorem works_any (w : World) :
    Calls Try.prog 13 #[] w fun e w' => e = .returned (.bool true) ∧ Below w.heap.size w w' := by
  go_enter Try.func13, Try.ntmps13
  go_wp2_with fail
  refine (start_any _).mono ?_
  rintro e w0 ⟨v0, rfl, hown0, hb0⟩
  obtain ⟨A0, c0, rfl, hc0⟩ := own_slice hown0
  have HW0 : Hid (Below w.heap.size w w0) := hb0
  clear hb0 hc0
  go_wp2_with fail
  refine (step_any (1, 500, 0) (5, 0, 1) (by simp [OkM]) _).mono ?_
  rw [show stepS (1, 500, 0) (5, 0, 1) = ((1, 1000, 0), [(1, 0, 0, 0), (4, 0, 1, 1000)]) from by decide]
  rintro e w1 ⟨v1, rfl, hown1, hb1⟩
  obtain ⟨A1, c1, rfl, hc1⟩ := own_slice hown1
  have hz1 := hb1.size
  simp only [World.size_alloc] at hz1
  have hs1 : Below w0.heap.size w0 w1 := ((Below.refl _ _).alloc (Nat.le_refl _) _).trans (hb1.mono (by simp))
  have q0 : w0.heap.size < w1.heap.size := by omega
  have HW1 : Hid (Below w.heap.size w w1) := HW0.out.trans (hs1.mono HW0.out.size)
  have HM1_0 : Hid (w1.heap[w0.heap.size]? = some (.cells (mcells (1, 500, 0)) 31 (0, 0))) := block_below (heap_alloc_new w0 (.cells (mcells (1, 500, 0)) 31)) hb1 (by simp)
  have HO1_0 : Hid (ORd w1 w0.heap.size A0 [(1, 0, 0, 0), (4, 0, 1, 500), (4, 0, 2, 32000)]) := ORd.below (Rd.of_own hown0) hs1
  clear hz1 hs1 hb1 hown0 hc1 HW0
  obtain ⟨z0, z1, z2⟩ := mc_cells HM1_0.out
  go_wp2_with fail
  refine (step_any (1, 500, 0) (2, 486, 0) (by simp [OkM]) _).mono ?_
  rw [show stepS (1, 500, 0) (2, 486, 0) = ((5, 0, 486), [(3, 486, 0, 0), (2, 486, 0, 0), (4, 0, 4, 32000)]) from by decide]
  rintro e w2 ⟨v2, rfl, hown2, hb2⟩
  obtain ⟨A2, c2, rfl, hc2⟩ := own_slice hown2
  clear z0 z1 z2
  have hz2 := hb2.size
  simp only [World.size_alloc] at hz2
  have hs2 : Below w1.heap.size w1 w2 := ((Below.refl _ _).alloc (Nat.le_refl _) _).trans (hb2.mono (by simp))
  have q1 : w1.heap.size < w2.heap.size := by omega
  have HW2 : Hid (Below w.heap.size w w2) := HW1.out.trans (hs2.mono HW1.out.size)
  have HM2_1 : Hid (w2.heap[w1.heap.size]? = some (.cells (mcells (1, 1000, 0)) 31 (0, 0))) := block_below (heap_alloc_new w1 (.cells (mcells (1, 1000, 0)) 31)) hb2 (by simp)
  have HO2_1 : Hid (ORd w2 w1.heap.size A1 [(1, 0, 0, 0), (4, 0, 1, 1000)]) := ORd.below (Rd.of_own hown1) hs2
  have HM2_0 : Hid (w2.heap[w0.heap.size]? = some (.cells (mcells (1, 500, 0)) 31 (0, 0))) := block_below HM1_0.out hs2 (by omega)
  have HO2_0 : Hid (ORd w2 w0.heap.size A0 [(1, 0, 0, 0), (4, 0, 1, 500), (4, 0, 2, 32000)]) := HO1_0.out.below (hs2.mono (by omega))
  have p2_0 : w0.heap.size < w2.heap.size := by omega
  clear hz2 hs2 hb2 hown1 hc2 HM1_0 HO1_0 HW1
  obtain ⟨z0, z1, z2⟩ := mc_cells HM2_0.out
  go_wp2_with fail
  refine (step_any (1, 500, 0) (2, 200, 0) (by simp [OkM]) _).mono ?_
  rw [show stepS (1, 500, 0) (2, 200, 0) = ((4, 0, 200), [(3, 200, 0, 0), (4, 0, 13, 32000)]) from by decide]
  rintro e w3 ⟨v3, rfl, hown3, hb3⟩
  obtain ⟨A3, c3, rfl, hc3⟩ := own_slice hown3
  clear z0 z1 z2
  have hz3 := hb3.size
  simp only [World.size_alloc] at hz3
  have hs3 : Below w2.heap.size w2 w3 := ((Below.refl _ _).alloc (Nat.le_refl _) _).trans (hb3.mono (by simp))
  have q2 : w2.heap.size < w3.heap.size := by omega
  have HW3 : Hid (Below w.heap.size w w3) := HW2.out.trans (hs3.mono HW2.out.size)
  have HM3_2 : Hid (w3.heap[w2.heap.size]? = some (.cells (mcells (5, 0, 486)) 31 (0, 0))) := block_below (heap_alloc_new w2 (.cells (mcells (5, 0, 486)) 31)) hb3 (by simp)
  have HO3_2 : Hid (ORd w3 w2.heap.size A2 [(3, 486, 0, 0), (2, 486, 0, 0), (4, 0, 4, 32000)]) := ORd.below (Rd.of_own hown2) hs3
  have HM3_0 : Hid (w3.heap[w0.heap.size]? = some (.cells (mcells (1, 500, 0)) 31 (0, 0))) := block_below HM2_0.out hs3 (by omega)
  have HO3_0 : Hid (ORd w3 w0.heap.size A0 [(1, 0, 0, 0), (4, 0, 1, 500), (4, 0, 2, 32000)]) := HO2_0.out.below (hs3.mono (by omega))
  have p3_0 : w0.heap.size < w3.heap.size := by omega
  have HM3_1 : Hid (w3.heap[w1.heap.size]? = some (.cells (mcells (1, 1000, 0)) 31 (0, 0))) := block_below HM2_1.out hs3 (by omega)
  have HO3_1 : Hid (ORd w3 w1.heap.size A1 [(1, 0, 0, 0), (4, 0, 1, 1000)]) := HO2_1.out.below (hs3.mono (by omega))
  have p3_1 : w1.heap.size < w3.heap.size := by omega
  clear hz3 hs3 hb3 hown2 hc3 HM2_0 HO2_0 HM2_1 HO2_1 HW2
  go_upto_region 5 with fail
  have hn := heap_alloc_new w3 (.cells (mcells (4, 0, 200)) 31)
  have hba : Below w3.heap.size w3 (w3.alloc (.cells (mcells (4, 0, 200)) 31)) := (Below.refl _ _).alloc (Nat.le_refl _) _
  have za : (w3.alloc (.cells (mcells (4, 0, 200)) 31)).heap.size = w3.heap.size + 1 := by simp
  have hoa := Rd.of_own hown3
  have HOF_3 : Hid (ORd (w3.alloc (.cells (mcells (4, 0, 200)) 31)) w3.heap.size A3 [(3, 200, 0, 0), (4, 0, 13, 32000)]) := ORd.below hoa hba
  have HOF_0 : Hid (ORd (w3.alloc (.cells (mcells (4, 0, 200)) 31)) w0.heap.size A0 [(1, 0, 0, 0), (4, 0, 1, 500), (4, 0, 2, 32000)]) := HO3_0.out.below (hba.mono (by omega))
  have MF_0 : (w3.alloc (.cells (mcells (4, 0, 200)) 31)).heap[w0.heap.size]? = some (.cells (mcells (1, 500, 0)) 31 (0, 0)) := block_below HM3_0.out hba (by omega)
  have HOF_1 : Hid (ORd (w3.alloc (.cells (mcells (4, 0, 200)) 31)) w1.heap.size A1 [(1, 0, 0, 0), (4, 0, 1, 1000)]) := HO3_1.out.below (hba.mono (by omega))
  have MF_1 : (w3.alloc (.cells (mcells (4, 0, 200)) 31)).heap[w1.heap.size]? = some (.cells (mcells (1, 1000, 0)) 31 (0, 0)) := block_below HM3_1.out hba (by omega)
  have HOF_2 : Hid (ORd (w3.alloc (.cells (mcells (4, 0, 200)) 31)) w2.heap.size A2 [(3, 486, 0, 0), (2, 486, 0, 0), (4, 0, 4, 32000)]) := HO3_2.out.below (hba.mono (by omega))
  have MF_2 : (w3.alloc (.cells (mcells (4, 0, 200)) 31)).heap[w2.heap.size]? = some (.cells (mcells (5, 0, 486)) 31 (0, 0)) := block_below HM3_2.out hba (by omega)
  have HWF : Hid (Below w.heap.size w (w3.alloc (.cells (mcells (4, 0, 200)) 31))) := HW3.out.trans (hba.mono HW3.out.size)
  have q3 : w3.heap.size < (w3.alloc (.cells (mcells (4, 0, 200)) 31)).heap.size := by simp
  clear hba za hoa hown3 HW3 HO3_0 HM3_0 HO3_1 HM3_1 HO3_2 HM3_2
  unfold mcells at hn HOF_3 HWF q3 MF_0 HOF_0 MF_1 HOF_1 MF_2 HOF_2
  generalize w3.alloc _ = wF at hn HOF_3 HWF q3 MF_0 HOF_0 MF_1 HOF_1 MF_2 HOF_2 ⊢
  have HK : Hid (∀ w', Below wF.heap.size wF w' → (w'.cell? ⟨w0.heap.size, 0, none⟩ = some (.int .u8 1) ∧ w'.cell? ⟨w0.heap.size, 1, none⟩ = some (.int .i64 500) ∧ w'.cell? ⟨w0.heap.size, 2, none⟩ = some (.int .i64 0)) ∧ (w'.cell? ⟨w1.heap.size, 0, none⟩ = some (.int .u8 1) ∧ w'.cell? ⟨w1.heap.size, 1, none⟩ = some (.int .i64 1000) ∧ w'.cell? ⟨w1.heap.size, 2, none⟩ = some (.int .i64 0)) ∧ (w'.cell? ⟨w2.heap.size, 0, none⟩ = some (.int .u8 5) ∧ w'.cell? ⟨w2.heap.size, 1, none⟩ = some (.int .i64 0) ∧ w'.cell? ⟨w2.heap.size, 2, none⟩ = some (.int .i64 486)) ∧ (w'.cell? ⟨w3.heap.size, 0, none⟩ = some (.int .u8 4) ∧ w'.cell? ⟨w3.heap.size, 1, none⟩ = some (.int .i64 0) ∧ w'.cell? ⟨w3.heap.size, 2, none⟩ = some (.int .i64 200))) := fun w' hb =>
    ⟨mc_cells (m := (1, 500, 0)) (block_below MF_0 hb (by omega)), mc_cells (m := (1, 1000, 0)) (block_below MF_1 hb (by omega)), mc_cells (m := (5, 0, 486)) (block_below MF_2 hb (by omega)), mc_cells (m := (4, 0, 200)) (block_below hn hb (by omega))⟩
  obtain ⟨⟨k0, k1, k2⟩, ⟨k3, k4, k5⟩, ⟨k6, k7, k8⟩, ⟨k9, k10, k11⟩⟩ := HK.out wF (Below.refl _ _)
  have y3 : w3.heap.size < wF.heap.size := q3
  have y0 : w0.heap.size < wF.heap.size := by omega
  have y1 : w1.heap.size < wF.heap.size := by omega
  have y2 : w2.heap.size < wF.heap.size := by omega
  clear hn q3 MF_0 q0 MF_1 q1 MF_2 q2
  have hn0 := fun W => (run_neq_mc (1, 500, 0) (1, 500, 0) W).trans (by rw [decide_eq_true rfl]; try rfl : _ = .ok (.bool false) W)
  have he0 := fun W => (run_eql_mc (1, 500, 0) (1, 500, 0) W).trans (by rw [decide_eq_true rfl] : _ = .ok (.bool true) W)
  have hn1 := fun W => (run_neq_mc (1, 1000, 0) (1, 1000, 0) W).trans (by rw [decide_eq_true rfl]; try rfl : _ = .ok (.bool false) W)
  have he1 := fun W => (run_eql_mc (1, 1000, 0) (1, 1000, 0) W).trans (by rw [decide_eq_true rfl] : _ = .ok (.bool true) W)
  have hn2 := fun W => (run_neq_mc (5, 0, 486) (5, 0, 486) W).trans (by rw [decide_eq_true rfl]; try rfl : _ = .ok (.bool false) W)
  have he2 := fun W => (run_eql_mc (5, 0, 486) (5, 0, 486) W).trans (by rw [decide_eq_true rfl] : _ = .ok (.bool true) W)
  have hn3 := fun W => (run_neq_mc (4, 0, 200) (4, 0, 200) W).trans (by rw [decide_eq_true rfl]; try rfl : _ = .ok (.bool false) W)
  have he3 := fun W => (run_eql_mc (4, 0, 200) (4, 0, 200) W).trans (by rw [decide_eq_true rfl] : _ = .ok (.bool true) W)
  go_wp2_with fail
  refine (outs_any (B := w0.heap.size) (C := wF.heap.size + 1) A0 _ c0 _ [(1, 0, 0, 0), (4, 0, 1, 500), (4, 0, 2, 32000)] [(1, 0, 0, 0), (4, 0, 1, 500), (4, 0, 2, 32000)] _ (by simp; omega) (by simp) (HOF_0.out.below (((Below.refl wF.heap.size wF).alloc (by omega) _).mono (by omega))) (Rd.lit _ _ _) (by simp [maxLen]) (by simp [maxLen])).mono ?_
  rw [decide_eq_true rfl]
  rintro e x0 ⟨rfl, hx0⟩
  have hX0 : Below wF.heap.size wF x0 := ((Below.refl wF.heap.size wF).alloc (by omega) _).trans (hx0.mono (by simp only [World.size_alloc]; omega))
  have hY0 := hX0.size
  clear hx0 k0 k1 k2 k3 k4 k5 k6 k7 k8 k9 k10 k11
  obtain ⟨⟨k0, k1, k2⟩, ⟨k3, k4, k5⟩, ⟨k6, k7, k8⟩, ⟨k9, k10, k11⟩⟩ := HK.out x0 hX0
  go_wp2_with fail
  refine (outs_any (B := w1.heap.size) (C := x0.heap.size + 1) A1 _ c1 _ [(1, 0, 0, 0), (4, 0, 1, 1000)] [(1, 0, 0, 0), (4, 0, 1, 1000)] _ (by simp; omega) (by simp) (HOF_1.out.below ((hX0.alloc (by omega) _).mono (by omega))) (Rd.lit _ _ _) (by simp [maxLen]) (by simp [maxLen])).mono ?_
  rw [decide_eq_true rfl]
  rintro e x1 ⟨rfl, hx1⟩
  have hX1 : Below wF.heap.size wF x1 := (hX0.alloc (by omega) _).trans (hx1.mono (by simp only [World.size_alloc]; omega))
  have hY1 := hX1.size
  clear hx1 k0 k1 k2 k3 k4 k5 k6 k7 k8 k9 k10 k11
  obtain ⟨⟨k0, k1, k2⟩, ⟨k3, k4, k5⟩, ⟨k6, k7, k8⟩, ⟨k9, k10, k11⟩⟩ := HK.out x1 hX1
  go_wp2_with fail
  refine (outs_any (B := w2.heap.size) (C := x1.heap.size + 1) A2 _ c2 _ [(3, 486, 0, 0), (2, 486, 0, 0), (4, 0, 4, 32000)] [(3, 486, 0, 0), (2, 486, 0, 0), (4, 0, 4, 32000)] _ (by simp; omega) (by simp) (HOF_2.out.below ((hX1.alloc (by omega) _).mono (by omega))) (Rd.lit _ _ _) (by simp [maxLen]) (by simp [maxLen])).mono ?_
  rw [decide_eq_true rfl]
  rintro e x2 ⟨rfl, hx2⟩
  have hX2 : Below wF.heap.size wF x2 := (hX1.alloc (by omega) _).trans (hx2.mono (by simp only [World.size_alloc]; omega))
  have hY2 := hX2.size
  clear hx2 k0 k1 k2 k3 k4 k5 k6 k7 k8 k9 k10 k11
  obtain ⟨⟨k0, k1, k2⟩, ⟨k3, k4, k5⟩, ⟨k6, k7, k8⟩, ⟨k9, k10, k11⟩⟩ := HK.out x2 hX2
  go_wp2_with fail
  refine (outs_any (B := w3.heap.size) (C := x2.heap.size + 1) A3 _ c3 _ [(3, 200, 0, 0), (4, 0, 13, 32000)] [(3, 200, 0, 0), (4, 0, 13, 32000)] _ (by simp; omega) (by simp) (HOF_3.out.below ((hX2.alloc (by omega) _).mono (by omega))) (Rd.lit _ _ _) (by simp [maxLen]) (by simp [maxLen])).mono ?_
  rw [decide_eq_true rfl]
  rintro e x3 ⟨rfl, hx3⟩
  have hX3 : Below wF.heap.size wF x3 := (hX2.alloc (by omega) _).trans (hx3.mono (by simp only [World.size_alloc]; omega))
  have hY3 := hX3.size
  clear hx3 k0 k1 k2 k3 k4 k5 k6 k7 k8 k9 k10 k11
  obtain ⟨⟨k0, k1, k2⟩, ⟨k3, k4, k5⟩, ⟨k6, k7, k8⟩, ⟨k9, k10, k11⟩⟩ := HK.out x3 hX3
  go_wp2_with fail
  go_ret
  exact ⟨rfl, HWF.out.trans (hX3.mono HWF.out.size)⟩

end Go.Proofs.Ytlcpadonjbaaeaa
