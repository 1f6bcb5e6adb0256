/- The walk of the law ClientKnown. -/
import Derived.Test.YtlmanafplbddoaaPlay
import Derived.Test.YtlmanafplbddoaaInv3
import Derived.Test.YtlmanafplbddoaaW8
import Derived.Test.YtlmanafplbddoaaW11
namespace Go.Proofs.Ytlmanafplbddoaa
open Go.RowKit

def k0 : Sim := untilS 200 startS 7500
def k1 : Sim := giveS (giveS (giveS k0 (2, 700, 0)) (2, 99, 0)) (4, 200, 0)
def k2 : Sim := giveS (giveS (giveS k1 (2, 500, 0)) (2, 200, 0)) (6, 0, 0)
def k3 : Sim := untilS 200 k2 12499
def k4 : Sim := untilS 200 k3 12500
theorem known_0 : k0.m = (2, 4000, 0) := by decide
theorem known_1 : k1.m = (2, 4000, 0) ∧ countS k1.log 3 k1.now 0 1000 = 0 := by decide
theorem known_2 : k2.m = (5, 0, 500) ∧ countS k2.log 3 k2.now 0 1000 = 1 := by decide
theorem known_3 : k3.m = (5, 0, 500) := by decide
theorem known_4 : k4.m = (7, 0, 500) := by decide
theorem known_ok0 : OkS 1700 k0 := (startS_ok.until 200 (t := 7500) (by omega)).more (by omega)
theorem known_ok1 : OkS 1730 k1 := (((known_ok0.give _).give _).give _).more (by omega)
theorem known_ok2 : OkS 1760 k2 := (((known_ok1.give _).give _).give _).more (by omega)
theorem known_ok3 : OkS 3400 k3 := (known_ok2.until 200 (t := 12499) (by omega)).more (by omega)
theorem known_ok4 : OkS 5100 k4 := (known_ok3.until 200 (t := 12500) (by omega)).more (by omega)
theorem known_inv : closedS k4 = true := by decide
theorem known_copies : copiesS (-1) = 0 ∧ copiesS 3499 = 3 ∧ copiesS 3500 = 4 ∧ copiesS 31500 = 11 ∧ copiesS 99999 = 11 := by decide

set_option maxRecDepth 100000 in
set_option maxHeartbeats 4000000 in
theorem known_any (w : World) : Calls Try.prog 8 #[] w fun e w' => e = .returned (.bool true) ∧ Below w.heap.size w w' := by
  go_enter Try.func8, Try.ntmps8
  go_wp2_with fail
  refine (start_sim (B := w.heap.size) _ (Nat.le_refl _)).mono ?_
  rintro e w1 ⟨g, rfl, hs1, hb1⟩
  have HB1 : Hid (Below w.heap.size w w1) := hb1
  clear hb1
  go_wp2_with fail
  refine (until_any (N := 9) (B := w.heap.size) (s := startS) 7500 _ hs1 startS_ok (by omega) ⟨by omega, by omega⟩).mono ?_
  rintro e w2 ⟨rfl, hs2, hb2⟩
  have HS2 : Hid (SimAt w2 w.heap.size g k0) := hs2
  have HB2 : Hid (Below w.heap.size w w2) := HB1.out.trans hb2
  obtain ⟨⟨m0, m1, m2⟩, mnow, q2⟩ := HS2.out.mcells known_ok0.1
  rw [known_0] at m0 m1 m2
  have hn := fun W => (run_neq_mc (2, 4000, 0) (2, 4000, 0) W).trans (by rw [decide_eq_true rfl]; try rfl : _ = .ok (.bool false) W)
  clear hs1 hs2 hb2
  go_wp2_with fail
  refine (give_any (N := 1700) (B := w.heap.size) (s := k0) (2, 700, 0) _ HS2.out known_ok0 (by omega)).mono ?_
  rintro e w3 ⟨rfl, hs3, hb3⟩
  have HB3 : Hid (Below w.heap.size w w3) := HB2.out.trans hb3
  clear hb3 m0 m1 m2 mnow hn q2
  go_wp2_with fail
  refine (give_any (N := 1708) (B := w.heap.size) (2, 99, 0) _ hs3 (known_ok0.give _) (by omega)).mono ?_
  rintro e w4 ⟨rfl, hs4, hb4⟩
  have HB4 : Hid (Below w.heap.size w w4) := HB3.out.trans hb4
  clear hb4 hs3
  go_wp2_with fail
  refine (give_any (N := 1716) (B := w.heap.size) (4, 200, 0) _ hs4 ((known_ok0.give _).give _) (by omega)).mono ?_
  rintro e w5 ⟨rfl, hs5, hb5⟩
  have HS5 : Hid (SimAt w5 w.heap.size g k1) := hs5
  have HB5 : Hid (Below w.heap.size w w5) := HB4.out.trans hb5
  obtain ⟨⟨m0, m1, m2⟩, mnow, q5⟩ := HS5.out.mcells known_ok1.1
  rw [known_1.1] at m0 m1 m2
  clear hs4 hs5 hb5
  go_wp2_with fail
  refine (count_any (s := k1) 3 k1.now 0 1000 _ HS5.out known_ok1.1 (by have := known_ok1.2.2.2.2; omega)).mono ?_
  rw [known_1.2]
  rintro e w' ⟨rfl, rfl⟩
  go_wp2_with fail
  refine (give_any (N := 1730) (B := w.heap.size) (s := k1) (2, 500, 0) _ HS5.out known_ok1 (by omega)).mono ?_
  rintro e w6 ⟨rfl, hs6, hb6⟩
  have HB6 : Hid (Below w.heap.size w w6) := HB5.out.trans hb6
  clear hb6 m0 m1 m2 mnow q5
  go_wp2_with fail
  refine (give_any (N := 1738) (B := w.heap.size) (2, 200, 0) _ hs6 (known_ok1.give _) (by omega)).mono ?_
  rintro e w7 ⟨rfl, hs7, hb7⟩
  have HB7 : Hid (Below w.heap.size w w7) := HB6.out.trans hb7
  clear hb7 hs6
  go_wp2_with fail
  refine (give_any (N := 1746) (B := w.heap.size) (6, 0, 0) _ hs7 ((known_ok1.give _).give _) (by omega)).mono ?_
  rintro e w8 ⟨rfl, hs8, hb8⟩
  have HS8 : Hid (SimAt w8 w.heap.size g k2) := hs8
  have HB8 : Hid (Below w.heap.size w w8) := HB7.out.trans hb8
  obtain ⟨⟨m0, m1, m2⟩, mnow, q8⟩ := HS8.out.mcells known_ok2.1
  rw [known_2.1] at m0 m1 m2
  have hn := fun W => (run_neq_mc (5, 0, 500) (5, 0, 500) W).trans (by rw [decide_eq_true rfl]; try rfl : _ = .ok (.bool false) W)
  clear hs7 hs8 hb8
  go_wp2_with fail
  refine (count_any (s := k2) 3 k2.now 0 1000 _ HS8.out known_ok2.1 (by have := known_ok2.2.2.2.2; omega)).mono ?_
  rw [known_2.2]
  rintro e w' ⟨rfl, rfl⟩
  clear hn
  go_wp2_with fail
  refine (until_any (N := 1760) (B := w.heap.size) (s := k2) 12499 _ HS8.out known_ok2 (by omega) ⟨by omega, by omega⟩).mono ?_
  rintro e w9 ⟨rfl, hs9, hb9⟩
  have HS9 : Hid (SimAt w9 w.heap.size g k3) := hs9
  have HB9 : Hid (Below w.heap.size w w9) := HB8.out.trans hb9
  clear m0 m1 m2 mnow
  obtain ⟨⟨m0, m1, m2⟩, mnow, q9⟩ := HS9.out.mcells known_ok3.1
  rw [known_3] at m0 m1 m2
  clear hs9 hb9
  go_wp2_with fail
  refine (until_any (N := 3400) (B := w.heap.size) (s := k3) 12500 _ HS9.out known_ok3 (by omega) ⟨by omega, by omega⟩).mono ?_
  rintro e wa ⟨rfl, hsa, hba⟩
  have HSa : Hid (SimAt wa w.heap.size g k4) := hsa
  have HBa : Hid (Below w.heap.size w wa) := HB9.out.trans hba
  have qa : g < wa.heap.size := hsa.lt
  clear hsa hba m0 m1 m2 mnow q9
  go_wp2_with fail
  refine (step_any (7, 0, 0) (2, 200, 0) (by simp [OkM]) _).mono ?_
  rw [show stepS (7, 0, 0) (2, 200, 0) = ((7, 0, 0), []) from by decide]
  rintro e wb ⟨vb, rfl, hob, hbb⟩
  obtain ⟨Ab, cb, rfl, -⟩ := own_slice hob
  have HSb0 : Hid (SimAt wb w.heap.size g k4) := HSa.out.below hbb
  have hbb2 : Below w.heap.size w (wb.alloc (.cells (mcells (7, 0, 0)) 26)) := (HBa.out.trans (hbb.mono HBa.out.size)).alloc (by have := HBa.out.size; have := hbb.size; omega) _
  have hn1 : (wb.alloc (.cells (mcells (7, 0, 0)) 26)).heap[wb.heap.size]? = some (.cells (mcells (7, 0, 0)) 26 (0, 0)) := heap_alloc_new _ _
  have zb : wb.heap.size < (wb.alloc (.cells (mcells (7, 0, 0)) 26)).heap.size := by simp
  have HSb : Hid (SimAt (wb.alloc (.cells (mcells (7, 0, 0)) 26)) w.heap.size g k4) := HSb0.out.below ((Below.refl _ _).alloc (Nat.le_refl _) _)
  have HBb : Hid (Below w.heap.size w (wb.alloc (.cells (mcells (7, 0, 0)) 26))) := hbb2
  have HNb : Hid ((wb.alloc (.cells (mcells (7, 0, 0)) 26)).heap[wb.heap.size]? = some (.cells (mcells (7, 0, 0)) 26 (0, 0))) := hn1
  clear hob hbb hbb2 hn1 qa HSb0
  go_wp2_with fail
  refine (step_any (3, 0, 0) (5, 0, 6) (by simp [OkM]) _).mono ?_
  rw [show stepS (3, 0, 0) (5, 0, 6) = ((0, 0, 0), []) from by decide]
  rintro e wc ⟨vc, rfl, hoc, hbc⟩
  obtain ⟨Ac, cc, rfl, -⟩ := own_slice hoc
  have hzc := hbc.size
  have HSc : Hid (SimAt wc w.heap.size g k4) := HSb.out.below hbc
  have hN2 : wc.heap[wb.heap.size]? = some (.cells (mcells (7, 0, 0)) 26 (0, 0)) := block_below HNb.out hbc zb
  have hZ : Below w.heap.size w wc := HBb.out.trans (hbc.mono HBb.out.size)
  have hd0 : Below w.heap.size w (wc.alloc (.cells (mcells (0, 0, 0)) 26)) := hZ.alloc hZ.size _
  have hd1 : (wc.alloc (.cells (mcells (0, 0, 0)) 26)).heap[wc.heap.size]? = some (.cells (mcells (0, 0, 0)) 26 (0, 0)) := heap_alloc_new _ _
  have hd2 : (wc.alloc (.cells (mcells (0, 0, 0)) 26)).heap[wb.heap.size]? = some (.cells (mcells (7, 0, 0)) 26 (0, 0)) := by
    rw [heap_alloc_old]
    · exact hN2
    · exact Nat.lt_of_lt_of_le zb hzc
  have hd3 : SimAt (wc.alloc (.cells (mcells (0, 0, 0)) 26)) w.heap.size g k4 := HSc.out.below ((Below.refl _ _).alloc (Nat.le_refl _) _)
  have n1 : wb.heap.size < wc.heap.size := Nat.lt_of_lt_of_le zb hzc
  clear hzc hN2 hZ hoc hbc
  go_upto_region 21 with fail
  unfold mcells at hd0 hd1 hd2 hd3
  generalize wc.alloc _ = wd at hd0 hd1 hd2 hd3 ⊢
  have q1 : wb.heap.size < wd.heap.size := (Array.getElem?_eq_some_iff.1 hd2).1
  have q2 : wc.heap.size < wd.heap.size := (Array.getElem?_eq_some_iff.1 hd1).1
  have HD1 : Hid (wd.heap[wb.heap.size]? = some (.cells (mcells (7, 0, 0)) 26 (0, 0)) ∧ wd.heap[wc.heap.size]? = some (.cells (mcells (0, 0, 0)) 26 (0, 0))) := ⟨hd2, hd1⟩
  have HBd : Hid (Below w.heap.size w wd) := hd0
  have HSd : Hid (SimAt wd w.heap.size g k4) := hd3
  obtain ⟨⟨m0, m1, m2⟩, mnow, qd⟩ := hd3.mcells known_ok4.1
  rw [known_4] at m0 m1 m2
  have hn0 := fun W => (run_neq_mc (7, 0, 500) (7, 0, 500) W).trans (by rw [decide_eq_true rfl]; try rfl : _ = .ok (.bool false) W)
  have hn2 := fun W => (run_neq_mc (7, 0, 0) (7, 0, 0) W).trans (by rw [decide_eq_true rfl]; try rfl : _ = .ok (.bool false) W)
  have hn3 := fun W => (run_neq_mc (0, 0, 0) (0, 0, 0) W).trans (by rw [decide_eq_true rfl]; try rfl : _ = .ok (.bool false) W)
  clear hd0 hd1 hd2 hd3 n1 zb
  go_wp2_with fail
  refine (closed_any (s := k4) _ HSd.out known_ok4.1 (by have := known_ok4.2.2.2.2; omega) known_inv).mono ?_
  rintro e we ⟨rfl, hbe⟩
  obtain ⟨x0, x1, x2⟩ := mc_cells (block_below HD1.out.1 hbe q1)
  obtain ⟨y0, y1, y2⟩ := mc_cells (block_below HD1.out.2 hbe q2)
  have z1 : wb.heap.size < we.heap.size := by have := hbe.size; omega
  have z2 : wc.heap.size < we.heap.size := by have := hbe.size; omega
  have HBe : Hid (Below w.heap.size w we) := HBd.out.trans (hbe.mono HBd.out.size)
  clear hbe m0 m1 m2 mnow
  go_wp2_with fail
  refine (copies_any (-1) _).mono ?_
  rw [known_copies.1]
  rintro e w' ⟨rfl, rfl⟩
  go_wp2_with fail
  refine (copies_any 3499 _).mono ?_
  rw [known_copies.2.1]
  rintro e w' ⟨rfl, rfl⟩
  go_wp2_with fail
  refine (copies_any 3500 _).mono ?_
  rw [known_copies.2.2.1]
  rintro e w' ⟨rfl, rfl⟩
  go_wp2_with fail
  refine (copies_any 31500 _).mono ?_
  rw [known_copies.2.2.2.1]
  rintro e w' ⟨rfl, rfl⟩
  go_wp2_with fail
  refine (copies_any 99999 _).mono ?_
  rw [known_copies.2.2.2.2]
  rintro e w' ⟨rfl, rfl⟩
  go_wp2_with fail
  refine (may_any (0, 0, 0) (by simp [OkM]) _).mono ?_
  rw [show mayS (0, 0, 0) = false from by decide]
  rintro e wf ⟨rfl, hbf⟩
  have HBf : Hid (Below w.heap.size w wf) := HBe.out.trans (hbf.mono HBe.out.size)
  clear hbf x0 x1 x2 y0 y1 y2 hn0 hn2 hn3
  go_wp2_with fail
  refine (works_any _).mono ?_
  rintro e wg ⟨rfl, hbg⟩
  have HBg : Hid (Below w.heap.size w wg) := HBf.out.trans (hbg.mono HBf.out.size)
  clear hbg
  go_wp2_with fail
  go_ret
  exact ⟨rfl, HBg.out⟩

end Go.Proofs.Ytlmanafplbddoaa
