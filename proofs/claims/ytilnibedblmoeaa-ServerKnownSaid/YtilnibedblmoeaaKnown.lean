/- The walk of the law ServerKnown. -/
import Derived.Test.YtilnibedblmoeaaPlay
import Derived.Test.YtilnibedblmoeaaEndsP
import Derived.Test.YtilnibedblmoeaaW8
namespace Go.Proofs.Ytilnibedblmoeaa
open Go.RowKit

theorem known_1 : k1.m = (2, 0, 0) ∧ k1.log.length = 1 := ⟨rfl, rfl⟩
theorem known_2 : k2.m = (7, 0, 404) ∧ countS k2.log 1 k2.now 0 1000 = 1 := ⟨rfl, by decide⟩
theorem known_ok1 : OkS 100 k1 := ((((startS_ok.give _).give _).give _).give _).more (by omega)
theorem known_ok2 : OkS 200 k2 := ((((known_ok1.give _).give _).give _).give _).more (by omega)
theorem known_inv : Inv k2 := (((((((inv_start.give _).give _).give _).give _).give _).give _).give _).give _

set_option maxRecDepth 100000 in
set_option maxHeartbeats 4000000 in
theorem known_any (w : World) : Calls Try.prog 8 #[] w fun e w' => e = .returned (.bool true) ∧ Below w.heap.size w w' := by
  go_enter Try.func8, Try.ntmps8
  go_wp2_with fail
  refine (start_sim (B := w.heap.size) _ (Nat.le_refl _)).mono ?_
  rintro e w1 ⟨g, rfl, hs1, hb1⟩
  have HB1 : Hid (Below w.heap.size w w1) := hb1
  clear hb1
  go_wp2_with fail
  refine (give_any (N := 9) (B := w.heap.size) (s := startS) (5, 0, 10) _ hs1 startS_ok (by omega)).mono ?_
  rintro e w2 ⟨rfl, hs2, hb2⟩
  have HB2 : Hid (Below w.heap.size w w2) := HB1.out.trans hb2
  clear hs1 hb2
  go_wp2_with fail
  refine (give_any (N := 20) (B := w.heap.size) (4, 99, 0) _ hs2 ((startS_ok.give _).more (by omega)) (by omega)).mono ?_
  rintro e w3 ⟨rfl, hs3, hb3⟩
  have HB3 : Hid (Below w.heap.size w w3) := HB2.out.trans hb3
  clear hs2 hb3
  go_wp2_with fail
  refine (give_any (N := 40) (B := w.heap.size) (4, 700, 0) _ hs3 (((startS_ok.give _).give _).more (by omega)) (by omega)).mono ?_
  rintro e w4 ⟨rfl, hs4, hb4⟩
  have HB4 : Hid (Below w.heap.size w w4) := HB3.out.trans hb4
  clear hs3 hb4
  go_wp2_with fail
  refine (give_any (N := 60) (B := w.heap.size) (3, 0, 0) _ hs4 ((((startS_ok.give _).give _).give _).more (by omega)) (by omega)).mono ?_
  rintro e w5 ⟨rfl, hs5, hb5⟩
  have HS5 : Hid (SimAt w5 w.heap.size g k1) := hs5
  have HB5 : Hid (Below w.heap.size w w5) := HB4.out.trans hb5
  obtain ⟨⟨m0, m1, m2⟩, mnow, q5⟩ := HS5.out.mcells known_ok1.1
  obtain ⟨v5, hv5⟩ := HS5.out
  obtain ⟨-, -, mlog, -, -⟩ := hv5.cells known_ok1.1
  obtain ⟨A5, c5, rfl, -⟩ := hv5.log_slice
  rw [known_1.1] at m0 m1 m2
  rw [known_1.2] at mlog
  have hn := fun W => (run_neq_mc (2, 0, 0) (2, 0, 0) W).trans (by rw [decide_eq_true rfl]; try rfl : _ = .ok (.bool false) W)
  clear hs4 hs5 hb5 hv5
  go_wp2_with fail
  clear m0 m1 m2 mnow mlog hn q5
  refine (give_any (N := 100) (B := w.heap.size) (s := k1) (4, 404, 0) _ HS5.out known_ok1 (by omega)).mono ?_
  rintro e w6 ⟨rfl, hs6, hb6⟩
  have HB6 : Hid (Below w.heap.size w w6) := HB5.out.trans hb6
  clear hb6
  go_wp2_with fail
  refine (give_any (N := 120) (B := w.heap.size) (4, 500, 0) _ hs6 ((known_ok1.give _).more (by omega)) (by omega)).mono ?_
  rintro e w7 ⟨rfl, hs7, hb7⟩
  have HB7 : Hid (Below w.heap.size w w7) := HB6.out.trans hb7
  clear hs6 hb7
  go_wp2_with fail
  refine (give_any (N := 140) (B := w.heap.size) (6, 0, 0) _ hs7 (((known_ok1.give _).give _).more (by omega)) (by omega)).mono ?_
  rintro e w8 ⟨rfl, hs8, hb8⟩
  have HB8 : Hid (Below w.heap.size w w8) := HB7.out.trans hb8
  clear hs7 hb8
  go_wp2_with fail
  refine (give_any (N := 160) (B := w.heap.size) (1, 0, 0) _ hs8 ((((known_ok1.give _).give _).give _).more (by omega)) (by omega)).mono ?_
  rintro e w9 ⟨rfl, hs9, hb9⟩
  have HS9 : Hid (SimAt w9 w.heap.size g k2) := hs9
  have HB9 : Hid (Below w.heap.size w w9) := HB8.out.trans hb9
  obtain ⟨⟨m0, m1, m2⟩, mnow, q9⟩ := HS9.out.mcells known_ok2.1
  rw [known_2.1] at m0 m1 m2
  have hn := fun W => (run_neq_mc (7, 0, 404) (7, 0, 404) W).trans (by rw [decide_eq_true rfl]; try rfl : _ = .ok (.bool false) W)
  have HL9 : Hid (k2.due.length = 14 ∧ k2.log.length ≤ 1000000000) := ⟨known_ok2.1, by have := known_ok2.2.2.2.2; omega⟩
  clear hs8 hs9 hb9
  go_wp2_with fail
  refine (count_any (s := k2) 1 k2.now 0 1000 _ HS9.out HL9.out.1 HL9.out.2).mono ?_
  rw [known_2.2]
  rintro e w' ⟨rfl, rfl⟩
  go_wp2_with fail
  refine (closed_any (s := k2) _ HS9.out HL9.out.1 HL9.out.2 known_inv.closed).mono ?_
  rintro e wa ⟨rfl, hba⟩
  have HBa : Hid (Below w.heap.size w wa) := HB9.out.trans (hba.mono HB9.out.size)
  clear m0 m1 m2 mnow hba hn q9
  go_wp2_with fail
  refine (step_any (3, 0, 0) (1, 0, 0) _).mono ?_
  rw [show stepS (3, 0, 0) (1, 0, 0) = ((0, 0, 0), []) from by decide]
  rintro e wb ⟨vb, rfl, hob, hbb⟩
  obtain ⟨Ab, cb, rfl, -⟩ := own_slice hob
  have hbb2 : Below w.heap.size w (wb.alloc (.cells #[.int .u8 0, .int .i64 0, .int .i64 0] 24)) := (HBa.out.trans (hbb.mono HBa.out.size)).alloc (by have := HBa.out.size; have := hbb.size; omega) _
  have hn1 : (wb.alloc (.cells #[.int .u8 0, .int .i64 0, .int .i64 0] 24)).heap[wb.heap.size]? = some (.cells #[.int .u8 0, .int .i64 0, .int .i64 0] 24 (0, 0)) := heap_alloc_new _ _
  have zb : wb.heap.size < (wb.alloc (.cells #[.int .u8 0, .int .i64 0, .int .i64 0] 24)).heap.size := by simp
  have HBb : Hid (Below w.heap.size w (wb.alloc (.cells #[.int .u8 0, .int .i64 0, .int .i64 0] 24))) := hbb2
  have HNb : Hid ((wb.alloc (.cells #[.int .u8 0, .int .i64 0, .int .i64 0] 24)).heap[wb.heap.size]? = some (.cells #[.int .u8 0, .int .i64 0, .int .i64 0] 24 (0, 0))) := hn1
  clear hob hbb hbb2 hn1
  go_wp2_with fail
  refine (step_any (2, 500, 0) (4, 200, 0) _).mono ?_
  rw [show stepS (2, 500, 0) (4, 200, 0) = ((0, 0, 0), []) from by decide]
  rintro e wc ⟨vc, rfl, hoc, hbc⟩
  obtain ⟨Ac, cc, rfl, -⟩ := own_slice hoc
  have hzc := hbc.size
  have hN2 : wc.heap[wb.heap.size]? = some (.cells #[.int .u8 0, .int .i64 0, .int .i64 0] 24 (0, 0)) := block_below HNb.out hbc zb
  have hZ : Below w.heap.size w wc := HBb.out.trans (hbc.mono HBb.out.size)
  have hd0 : Below w.heap.size w (wc.alloc (.cells #[.int .u8 0, .int .i64 0, .int .i64 0] 24)) := hZ.alloc hZ.size _
  have hd1 : (wc.alloc (.cells #[.int .u8 0, .int .i64 0, .int .i64 0] 24)).heap[wc.heap.size]? = some (.cells #[.int .u8 0, .int .i64 0, .int .i64 0] 24 (0, 0)) := heap_alloc_new _ _
  have hd2 : (wc.alloc (.cells #[.int .u8 0, .int .i64 0, .int .i64 0] 24)).heap[wb.heap.size]? = some (.cells #[.int .u8 0, .int .i64 0, .int .i64 0] 24 (0, 0)) := by
    rw [heap_alloc_old]
    · exact hN2
    · exact Nat.lt_of_lt_of_le zb hzc
  have n1 : wb.heap.size < wc.heap.size := Nat.lt_of_lt_of_le zb hzc
  have hn := fun W => (run_eql_mc (0, 0, 0) (0, 0, 0) W).trans (by rw [decide_eq_true rfl] : _ = .ok (.bool true) W)
  clear hzc hN2 hZ hoc hbc
  go_upto_region 16 with fail
  generalize wc.alloc _ = wd at hd0 hd1 hd2 ⊢
  have x0 : wd.cell? ⟨wb.heap.size, 0, none⟩ = some (.int .u8 0) := cells_of_block hd2 0
  have x1 : wd.cell? ⟨wb.heap.size, 1, none⟩ = some (.int .i64 0) := cells_of_block hd2 1
  have x2 : wd.cell? ⟨wb.heap.size, 2, none⟩ = some (.int .i64 0) := cells_of_block hd2 2
  have y0 : wd.cell? ⟨wc.heap.size, 0, none⟩ = some (.int .u8 0) := cells_of_block hd1 0
  have y1 : wd.cell? ⟨wc.heap.size, 1, none⟩ = some (.int .i64 0) := cells_of_block hd1 1
  have y2 : wd.cell? ⟨wc.heap.size, 2, none⟩ = some (.int .i64 0) := cells_of_block hd1 2
  have HBd : Hid (Below w.heap.size w wd) := hd0
  clear hd0 hd1 hd2 n1 zb
  go_wp2_with fail
  refine (may_any (0, 0, 0) _).mono ?_
  rw [show mayS (0, 0, 0) = false from by decide]
  rintro e we ⟨rfl, hbe⟩
  have HBe : Hid (Below w.heap.size w we) := HBd.out.trans (hbe.mono HBd.out.size)
  clear x0 x1 x2 y0 y1 y2 hbe hn
  go_wp2_with fail
  refine (may_any (7, 0, 100) _).mono ?_
  rw [show mayS (7, 0, 100) = true from by decide]
  rintro e wf ⟨rfl, hbf⟩
  have HBf : Hid (Below w.heap.size w wf) := HBe.out.trans (hbf.mono HBe.out.size)
  clear hbf
  go_wp2_with fail
  refine (works_any _).mono ?_
  rintro e wg ⟨rfl, hbg⟩
  have HBg : Hid (Below w.heap.size w wg) := HBf.out.trans (hbg.mono HBf.out.size)
  clear hbg
  go_wp2_with fail
  go_ret
  exact ⟨rfl, HBg.out⟩

end Go.Proofs.Ytilnibedblmoeaa
