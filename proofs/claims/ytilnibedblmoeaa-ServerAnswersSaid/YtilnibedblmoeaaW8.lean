/- The walk of works. -/
import Derived.Test.YtilnibedblmoeaaW7
namespace Go.Proofs.Ytilnibedblmoeaa
open Go.RowKit

set_option maxRecDepth 100000 in
set_option maxHeartbeats 2000000 in
theorem works_any (w : World) :
    Calls Try.prog 13 #[] w fun e w' => e = .returned (.bool true) ∧ Below w.heap.size w w' := by
  go_enter Try.func13, Try.ntmps13
  go_wp2_with fail
  refine (start_any _).mono ?_
  rintro e w0 ⟨v0, rfl, hown0, hb0⟩
  obtain ⟨A0, c0, rfl, hc0⟩ := own_slice hown0
  have HW0 : Hid (Below w.heap.size w w0) := hb0
  clear hb0 hc0
  go_wp2_with fail
  refine (step_any (2, 0, 0) (1, 0, 0) _).mono ?_
  rw [show stepS (2, 0, 0) (1, 0, 0) = ((2, 0, 0), []) from by decide]
  rintro e w1 ⟨v1, rfl, hown1, hb1⟩
  obtain ⟨A1, c1, rfl, hc1⟩ := own_slice hown1
  have hz1 := hb1.size
  simp only [World.size_alloc] at hz1
  have hs1 : Below w0.heap.size w0 w1 := ((Below.refl _ _).alloc (Nat.le_refl _) _).trans (hb1.mono (by simp))
  have q0 : w0.heap.size < w1.heap.size := by omega
  have HW1 : Hid (Below w.heap.size w w1) := HW0.out.trans (hs1.mono HW0.out.size)
  have HM1_0 : Hid (w1.heap[w0.heap.size]? = some (.cells (mcells (2, 0, 0)) 24 (0, 0))) := block_below (heap_alloc_new w0 (.cells (mcells (2, 0, 0)) 24)) hb1 (by simp)
  have HO1_0 : Hid (ORd w1 w0.heap.size A0 [(3, 0, 0, 0)]) := ORd.below (Rd.of_own hown0) hs1
  clear hz1 hs1 hb1 hown0 hc1 HW0
  go_wp2_with fail
  refine (step_any (2, 0, 0) (4, 100, 0) _).mono ?_
  rw [show stepS (2, 0, 0) (4, 100, 0) = ((3, 0, 100), [(1, 100, 0, 0)]) from by decide]
  rintro e w2 ⟨v2, rfl, hown2, hb2⟩
  obtain ⟨A2, c2, rfl, hc2⟩ := own_slice hown2
  have hz2 := hb2.size
  simp only [World.size_alloc] at hz2
  have hs2 : Below w1.heap.size w1 w2 := ((Below.refl _ _).alloc (Nat.le_refl _) _).trans (hb2.mono (by simp))
  have q1 : w1.heap.size < w2.heap.size := by omega
  have HW2 : Hid (Below w.heap.size w w2) := HW1.out.trans (hs2.mono HW1.out.size)
  have HM2_1 : Hid (w2.heap[w1.heap.size]? = some (.cells (mcells (2, 0, 0)) 24 (0, 0))) := block_below (heap_alloc_new w1 (.cells (mcells (2, 0, 0)) 24)) hb2 (by simp)
  have HO2_1 : Hid (ORd w2 w1.heap.size A1 []) := ORd.below (Rd.of_own hown1) hs2
  have HM2_0 : Hid (w2.heap[w0.heap.size]? = some (.cells (mcells (2, 0, 0)) 24 (0, 0))) := block_below HM1_0.out hs2 (by omega)
  have HO2_0 : Hid (ORd w2 w0.heap.size A0 [(3, 0, 0, 0)]) := HO1_0.out.below (hs2.mono (by omega))
  clear hz2 hs2 hb2 hown1 hc2 HM1_0 HO1_0 HW1
  go_wp2_with fail
  refine (step_any (3, 0, 100) (4, 200, 0) _).mono ?_
  rw [show stepS (3, 0, 100) (4, 200, 0) = ((5, 0, 200), [(1, 200, 0, 0), (4, 0, 10, 32000)]) from by decide]
  rintro e w3 ⟨v3, rfl, hown3, hb3⟩
  obtain ⟨A3, c3, rfl, hc3⟩ := own_slice hown3
  have hz3 := hb3.size
  simp only [World.size_alloc] at hz3
  have hs3 : Below w2.heap.size w2 w3 := ((Below.refl _ _).alloc (Nat.le_refl _) _).trans (hb3.mono (by simp))
  have q2 : w2.heap.size < w3.heap.size := by omega
  have HW3 : Hid (Below w.heap.size w w3) := HW2.out.trans (hs3.mono HW2.out.size)
  have HM3_2 : Hid (w3.heap[w2.heap.size]? = some (.cells (mcells (3, 0, 100)) 24 (0, 0))) := block_below (heap_alloc_new w2 (.cells (mcells (3, 0, 100)) 24)) hb3 (by simp)
  have HO3_2 : Hid (ORd w3 w2.heap.size A2 [(1, 100, 0, 0)]) := ORd.below (Rd.of_own hown2) hs3
  have HM3_0 : Hid (w3.heap[w0.heap.size]? = some (.cells (mcells (2, 0, 0)) 24 (0, 0))) := block_below HM2_0.out hs3 (by omega)
  have HO3_0 : Hid (ORd w3 w0.heap.size A0 [(3, 0, 0, 0)]) := HO2_0.out.below (hs3.mono (by omega))
  have HM3_1 : Hid (w3.heap[w1.heap.size]? = some (.cells (mcells (2, 0, 0)) 24 (0, 0))) := block_below HM2_1.out hs3 (by omega)
  have HO3_1 : Hid (ORd w3 w1.heap.size A1 []) := HO2_1.out.below (hs3.mono (by omega))
  clear hz3 hs3 hb3 hown2 hc3 HM2_0 HO2_0 HM2_1 HO2_1 HW2
  go_wp2_with fail
  refine (step_any (5, 0, 200) (1, 0, 0) _).mono ?_
  rw [show stepS (5, 0, 200) (1, 0, 0) = ((5, 0, 200), [(1, 200, 0, 0)]) from by decide]
  rintro e w4 ⟨v4, rfl, hown4, hb4⟩
  obtain ⟨A4, c4, rfl, hc4⟩ := own_slice hown4
  have hz4 := hb4.size
  simp only [World.size_alloc] at hz4
  have hs4 : Below w3.heap.size w3 w4 := ((Below.refl _ _).alloc (Nat.le_refl _) _).trans (hb4.mono (by simp))
  have q3 : w3.heap.size < w4.heap.size := by omega
  have HW4 : Hid (Below w.heap.size w w4) := HW3.out.trans (hs4.mono HW3.out.size)
  have HM4_3 : Hid (w4.heap[w3.heap.size]? = some (.cells (mcells (5, 0, 200)) 24 (0, 0))) := block_below (heap_alloc_new w3 (.cells (mcells (5, 0, 200)) 24)) hb4 (by simp)
  have HO4_3 : Hid (ORd w4 w3.heap.size A3 [(1, 200, 0, 0), (4, 0, 10, 32000)]) := ORd.below (Rd.of_own hown3) hs4
  have HM4_0 : Hid (w4.heap[w0.heap.size]? = some (.cells (mcells (2, 0, 0)) 24 (0, 0))) := block_below HM3_0.out hs4 (by omega)
  have HO4_0 : Hid (ORd w4 w0.heap.size A0 [(3, 0, 0, 0)]) := HO3_0.out.below (hs4.mono (by omega))
  have HM4_1 : Hid (w4.heap[w1.heap.size]? = some (.cells (mcells (2, 0, 0)) 24 (0, 0))) := block_below HM3_1.out hs4 (by omega)
  have HO4_1 : Hid (ORd w4 w1.heap.size A1 []) := HO3_1.out.below (hs4.mono (by omega))
  have HM4_2 : Hid (w4.heap[w2.heap.size]? = some (.cells (mcells (3, 0, 100)) 24 (0, 0))) := block_below HM3_2.out hs4 (by omega)
  have HO4_2 : Hid (ORd w4 w2.heap.size A2 [(1, 100, 0, 0)]) := HO3_2.out.below (hs4.mono (by omega))
  clear hz4 hs4 hb4 hown3 hc4 HM3_0 HO3_0 HM3_1 HO3_1 HM3_2 HO3_2 HW3
  go_wp2_with fail
  refine (step_any (5, 0, 200) (5, 0, 10) _).mono ?_
  rw [show stepS (5, 0, 200) (5, 0, 10) = ((7, 0, 200), [(7, 0, 0, 0)]) from by decide]
  rintro e w5 ⟨v5, rfl, hown5, hb5⟩
  obtain ⟨A5, c5, rfl, hc5⟩ := own_slice hown5
  have hz5 := hb5.size
  simp only [World.size_alloc] at hz5
  have hs5 : Below w4.heap.size w4 w5 := ((Below.refl _ _).alloc (Nat.le_refl _) _).trans (hb5.mono (by simp))
  have q4 : w4.heap.size < w5.heap.size := by omega
  have HW5 : Hid (Below w.heap.size w w5) := HW4.out.trans (hs5.mono HW4.out.size)
  have HM5_4 : Hid (w5.heap[w4.heap.size]? = some (.cells (mcells (5, 0, 200)) 24 (0, 0))) := block_below (heap_alloc_new w4 (.cells (mcells (5, 0, 200)) 24)) hb5 (by simp)
  have HO5_4 : Hid (ORd w5 w4.heap.size A4 [(1, 200, 0, 0)]) := ORd.below (Rd.of_own hown4) hs5
  have HM5_0 : Hid (w5.heap[w0.heap.size]? = some (.cells (mcells (2, 0, 0)) 24 (0, 0))) := block_below HM4_0.out hs5 (by omega)
  have HO5_0 : Hid (ORd w5 w0.heap.size A0 [(3, 0, 0, 0)]) := HO4_0.out.below (hs5.mono (by omega))
  have HM5_1 : Hid (w5.heap[w1.heap.size]? = some (.cells (mcells (2, 0, 0)) 24 (0, 0))) := block_below HM4_1.out hs5 (by omega)
  have HO5_1 : Hid (ORd w5 w1.heap.size A1 []) := HO4_1.out.below (hs5.mono (by omega))
  have HM5_2 : Hid (w5.heap[w2.heap.size]? = some (.cells (mcells (3, 0, 100)) 24 (0, 0))) := block_below HM4_2.out hs5 (by omega)
  have HO5_2 : Hid (ORd w5 w2.heap.size A2 [(1, 100, 0, 0)]) := HO4_2.out.below (hs5.mono (by omega))
  have HM5_3 : Hid (w5.heap[w3.heap.size]? = some (.cells (mcells (5, 0, 200)) 24 (0, 0))) := block_below HM4_3.out hs5 (by omega)
  have HO5_3 : Hid (ORd w5 w3.heap.size A3 [(1, 200, 0, 0), (4, 0, 10, 32000)]) := HO4_3.out.below (hs5.mono (by omega))
  clear hz5 hs5 hb5 hown4 hc5 HM4_0 HO4_0 HM4_1 HO4_1 HM4_2 HO4_2 HM4_3 HO4_3 HW4
  go_upto_region 7 with fail
  have hn := heap_alloc_new w5 (.cells (mcells (7, 0, 200)) 24)
  have hba : Below w5.heap.size w5 (w5.alloc (.cells (mcells (7, 0, 200)) 24)) := (Below.refl _ _).alloc (Nat.le_refl _) _
  have za : (w5.alloc (.cells (mcells (7, 0, 200)) 24)).heap.size = w5.heap.size + 1 := by simp
  have hoa := Rd.of_own hown5
  have HOF_5 : Hid (ORd (w5.alloc (.cells (mcells (7, 0, 200)) 24)) w5.heap.size A5 [(7, 0, 0, 0)]) := ORd.below hoa hba
  have HOF_0 : Hid (ORd (w5.alloc (.cells (mcells (7, 0, 200)) 24)) w0.heap.size A0 [(3, 0, 0, 0)]) := HO5_0.out.below (hba.mono (by omega))
  have MF_0 : (w5.alloc (.cells (mcells (7, 0, 200)) 24)).heap[w0.heap.size]? = some (.cells (mcells (2, 0, 0)) 24 (0, 0)) := block_below HM5_0.out hba (by omega)
  have HOF_1 : Hid (ORd (w5.alloc (.cells (mcells (7, 0, 200)) 24)) w1.heap.size A1 []) := HO5_1.out.below (hba.mono (by omega))
  have MF_1 : (w5.alloc (.cells (mcells (7, 0, 200)) 24)).heap[w1.heap.size]? = some (.cells (mcells (2, 0, 0)) 24 (0, 0)) := block_below HM5_1.out hba (by omega)
  have HOF_2 : Hid (ORd (w5.alloc (.cells (mcells (7, 0, 200)) 24)) w2.heap.size A2 [(1, 100, 0, 0)]) := HO5_2.out.below (hba.mono (by omega))
  have MF_2 : (w5.alloc (.cells (mcells (7, 0, 200)) 24)).heap[w2.heap.size]? = some (.cells (mcells (3, 0, 100)) 24 (0, 0)) := block_below HM5_2.out hba (by omega)
  have HOF_3 : Hid (ORd (w5.alloc (.cells (mcells (7, 0, 200)) 24)) w3.heap.size A3 [(1, 200, 0, 0), (4, 0, 10, 32000)]) := HO5_3.out.below (hba.mono (by omega))
  have MF_3 : (w5.alloc (.cells (mcells (7, 0, 200)) 24)).heap[w3.heap.size]? = some (.cells (mcells (5, 0, 200)) 24 (0, 0)) := block_below HM5_3.out hba (by omega)
  have HOF_4 : Hid (ORd (w5.alloc (.cells (mcells (7, 0, 200)) 24)) w4.heap.size A4 [(1, 200, 0, 0)]) := HO5_4.out.below (hba.mono (by omega))
  have MF_4 : (w5.alloc (.cells (mcells (7, 0, 200)) 24)).heap[w4.heap.size]? = some (.cells (mcells (5, 0, 200)) 24 (0, 0)) := block_below HM5_4.out hba (by omega)
  have HWF : Hid (Below w.heap.size w (w5.alloc (.cells (mcells (7, 0, 200)) 24))) := HW5.out.trans (hba.mono HW5.out.size)
  have q5 : w5.heap.size < (w5.alloc (.cells (mcells (7, 0, 200)) 24)).heap.size := by simp
  clear hba za hoa hown5 HW5 HO5_0 HM5_0 HO5_1 HM5_1 HO5_2 HM5_2 HO5_3 HM5_3 HO5_4 HM5_4
  unfold mcells at hn HOF_5 HWF q5 MF_0 HOF_0 MF_1 HOF_1 MF_2 HOF_2 MF_3 HOF_3 MF_4 HOF_4
  generalize w5.alloc _ = wF at hn HOF_5 HWF q5 MF_0 HOF_0 MF_1 HOF_1 MF_2 HOF_2 MF_3 HOF_3 MF_4 HOF_4 ⊢
  have HK : Hid (∀ w', Below wF.heap.size wF w' → (w'.cell? ⟨w0.heap.size, 0, none⟩ = some (.int .u8 2) ∧ w'.cell? ⟨w0.heap.size, 1, none⟩ = some (.int .i64 0) ∧ w'.cell? ⟨w0.heap.size, 2, none⟩ = some (.int .i64 0)) ∧ (w'.cell? ⟨w1.heap.size, 0, none⟩ = some (.int .u8 2) ∧ w'.cell? ⟨w1.heap.size, 1, none⟩ = some (.int .i64 0) ∧ w'.cell? ⟨w1.heap.size, 2, none⟩ = some (.int .i64 0)) ∧ (w'.cell? ⟨w2.heap.size, 0, none⟩ = some (.int .u8 3) ∧ w'.cell? ⟨w2.heap.size, 1, none⟩ = some (.int .i64 0) ∧ w'.cell? ⟨w2.heap.size, 2, none⟩ = some (.int .i64 100)) ∧ (w'.cell? ⟨w3.heap.size, 0, none⟩ = some (.int .u8 5) ∧ w'.cell? ⟨w3.heap.size, 1, none⟩ = some (.int .i64 0) ∧ w'.cell? ⟨w3.heap.size, 2, none⟩ = some (.int .i64 200)) ∧ (w'.cell? ⟨w4.heap.size, 0, none⟩ = some (.int .u8 5) ∧ w'.cell? ⟨w4.heap.size, 1, none⟩ = some (.int .i64 0) ∧ w'.cell? ⟨w4.heap.size, 2, none⟩ = some (.int .i64 200)) ∧ (w'.cell? ⟨w5.heap.size, 0, none⟩ = some (.int .u8 7) ∧ w'.cell? ⟨w5.heap.size, 1, none⟩ = some (.int .i64 0) ∧ w'.cell? ⟨w5.heap.size, 2, none⟩ = some (.int .i64 200))) := fun w' hb =>
    ⟨mc_cells (m := (2, 0, 0)) (block_below MF_0 hb (by omega)), mc_cells (m := (2, 0, 0)) (block_below MF_1 hb (by omega)), mc_cells (m := (3, 0, 100)) (block_below MF_2 hb (by omega)), mc_cells (m := (5, 0, 200)) (block_below MF_3 hb (by omega)), mc_cells (m := (5, 0, 200)) (block_below MF_4 hb (by omega)), mc_cells (m := (7, 0, 200)) (block_below hn hb (by omega))⟩
  obtain ⟨⟨k0, k1, k2⟩, ⟨k3, k4, k5⟩, ⟨k6, k7, k8⟩, ⟨k9, k10, k11⟩, ⟨k12, k13, k14⟩, ⟨k15, k16, k17⟩⟩ := HK.out wF (Below.refl _ _)
  have y5 : w5.heap.size < wF.heap.size := q5
  have y0 : w0.heap.size < wF.heap.size := by omega
  have y1 : w1.heap.size < wF.heap.size := by omega
  have y2 : w2.heap.size < wF.heap.size := by omega
  have y3 : w3.heap.size < wF.heap.size := by omega
  have y4 : w4.heap.size < wF.heap.size := by omega
  clear hn q5 MF_0 q0 MF_1 q1 MF_2 q2 MF_3 q3 MF_4 q4
  have hn2 := fun W => (run_neq_mc (2, 0, 0) (2, 0, 0) W).trans (by rw [decide_eq_true rfl]; try rfl : _ = .ok (.bool false) W)
  have he2 := fun W => (run_eql_mc (2, 0, 0) (2, 0, 0) W).trans (by rw [decide_eq_true rfl] : _ = .ok (.bool true) W)
  have hn3 := fun W => (run_neq_mc (3, 0, 100) (3, 0, 100) W).trans (by rw [decide_eq_true rfl]; try rfl : _ = .ok (.bool false) W)
  have he3 := fun W => (run_eql_mc (3, 0, 100) (3, 0, 100) W).trans (by rw [decide_eq_true rfl] : _ = .ok (.bool true) W)
  have hn5 := fun W => (run_neq_mc (5, 0, 200) (5, 0, 200) W).trans (by rw [decide_eq_true rfl]; try rfl : _ = .ok (.bool false) W)
  have he5 := fun W => (run_eql_mc (5, 0, 200) (5, 0, 200) W).trans (by rw [decide_eq_true rfl] : _ = .ok (.bool true) W)
  have hn7 := fun W => (run_neq_mc (7, 0, 200) (7, 0, 200) W).trans (by rw [decide_eq_true rfl]; try rfl : _ = .ok (.bool false) W)
  have he7 := fun W => (run_eql_mc (7, 0, 200) (7, 0, 200) W).trans (by rw [decide_eq_true rfl] : _ = .ok (.bool true) W)
  go_wp2_with fail
  refine (outs_any (B := w0.heap.size) (C := wF.heap.size + 1) A0 _ c0 _ [(3, 0, 0, 0)] [(3, 0, 0, 0)] _ (by simp; omega) (by simp) (HOF_0.out.below (((Below.refl wF.heap.size wF).alloc (by omega) _).mono (by omega))) (Rd.lit _ _ _) (by simp [maxLen]) (by simp [maxLen])).mono ?_
  rw [decide_eq_true rfl]
  rintro e x0 ⟨rfl, hx0⟩
  have hX0 : Below wF.heap.size wF x0 := ((Below.refl wF.heap.size wF).alloc (by omega) _).trans (hx0.mono (by simp only [World.size_alloc]; omega))
  have hY0 := hX0.size
  clear hx0 k0 k1 k2 k3 k4 k5 k6 k7 k8 k9 k10 k11 k12 k13 k14 k15 k16 k17
  obtain ⟨⟨k0, k1, k2⟩, ⟨k3, k4, k5⟩, ⟨k6, k7, k8⟩, ⟨k9, k10, k11⟩, ⟨k12, k13, k14⟩, ⟨k15, k16, k17⟩⟩ := HK.out x0 hX0
  go_wp2_with fail
  refine (outs_any (B := w2.heap.size) (C := x0.heap.size + 1) A2 _ c2 _ [(1, 100, 0, 0)] [(1, 100, 0, 0)] _ (by simp; omega) (by simp) (HOF_2.out.below ((hX0.alloc (by omega) _).mono (by omega))) (Rd.lit _ _ _) (by simp [maxLen]) (by simp [maxLen])).mono ?_
  rw [decide_eq_true rfl]
  rintro e x1 ⟨rfl, hx1⟩
  have hX1 : Below wF.heap.size wF x1 := (hX0.alloc (by omega) _).trans (hx1.mono (by simp only [World.size_alloc]; omega))
  have hY1 := hX1.size
  clear hx1 k0 k1 k2 k3 k4 k5 k6 k7 k8 k9 k10 k11 k12 k13 k14 k15 k16 k17
  obtain ⟨⟨k0, k1, k2⟩, ⟨k3, k4, k5⟩, ⟨k6, k7, k8⟩, ⟨k9, k10, k11⟩, ⟨k12, k13, k14⟩, ⟨k15, k16, k17⟩⟩ := HK.out x1 hX1
  go_wp2_with fail
  refine (outs_any (B := w3.heap.size) (C := x1.heap.size + 1) A3 _ c3 _ [(1, 200, 0, 0), (4, 0, 10, 32000)] [(1, 200, 0, 0), (4, 0, 10, 32000)] _ (by simp; omega) (by simp) (HOF_3.out.below ((hX1.alloc (by omega) _).mono (by omega))) (Rd.lit _ _ _) (by simp [maxLen]) (by simp [maxLen])).mono ?_
  rw [decide_eq_true rfl]
  rintro e x2 ⟨rfl, hx2⟩
  have hX2 : Below wF.heap.size wF x2 := (hX1.alloc (by omega) _).trans (hx2.mono (by simp only [World.size_alloc]; omega))
  have hY2 := hX2.size
  clear hx2 k0 k1 k2 k3 k4 k5 k6 k7 k8 k9 k10 k11 k12 k13 k14 k15 k16 k17
  obtain ⟨⟨k0, k1, k2⟩, ⟨k3, k4, k5⟩, ⟨k6, k7, k8⟩, ⟨k9, k10, k11⟩, ⟨k12, k13, k14⟩, ⟨k15, k16, k17⟩⟩ := HK.out x2 hX2
  go_wp2_with fail
  refine (outs_any (B := w4.heap.size) (C := x2.heap.size + 1) A4 _ c4 _ [(1, 200, 0, 0)] [(1, 200, 0, 0)] _ (by simp; omega) (by simp) (HOF_4.out.below ((hX2.alloc (by omega) _).mono (by omega))) (Rd.lit _ _ _) (by simp [maxLen]) (by simp [maxLen])).mono ?_
  rw [decide_eq_true rfl]
  rintro e x3 ⟨rfl, hx3⟩
  have hX3 : Below wF.heap.size wF x3 := (hX2.alloc (by omega) _).trans (hx3.mono (by simp only [World.size_alloc]; omega))
  have hY3 := hX3.size
  clear hx3 k0 k1 k2 k3 k4 k5 k6 k7 k8 k9 k10 k11 k12 k13 k14 k15 k16 k17
  obtain ⟨⟨k0, k1, k2⟩, ⟨k3, k4, k5⟩, ⟨k6, k7, k8⟩, ⟨k9, k10, k11⟩, ⟨k12, k13, k14⟩, ⟨k15, k16, k17⟩⟩ := HK.out x3 hX3
  go_wp2_with fail
  refine (outs_any (B := w5.heap.size) (C := x3.heap.size + 1) A5 _ c5 _ [(7, 0, 0, 0)] [(7, 0, 0, 0)] _ (by simp; omega) (by simp) (HOF_5.out.below ((hX3.alloc (by omega) _).mono (by omega))) (Rd.lit _ _ _) (by simp [maxLen]) (by simp [maxLen])).mono ?_
  rw [decide_eq_true rfl]
  rintro e x4 ⟨rfl, hx4⟩
  have hX4 : Below wF.heap.size wF x4 := (hX3.alloc (by omega) _).trans (hx4.mono (by simp only [World.size_alloc]; omega))
  have hY4 := hX4.size
  clear hx4 k0 k1 k2 k3 k4 k5 k6 k7 k8 k9 k10 k11 k12 k13 k14 k15 k16 k17
  obtain ⟨⟨k0, k1, k2⟩, ⟨k3, k4, k5⟩, ⟨k6, k7, k8⟩, ⟨k9, k10, k11⟩, ⟨k12, k13, k14⟩, ⟨k15, k16, k17⟩⟩ := HK.out x4 hX4
  go_wp2_with fail
  go_ret
  exact ⟨rfl, HWF.out.trans (hX4.mono HWF.out.size)⟩

end Go.Proofs.Ytilnibedblmoeaa
