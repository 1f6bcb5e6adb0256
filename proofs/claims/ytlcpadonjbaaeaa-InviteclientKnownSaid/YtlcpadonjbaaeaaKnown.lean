/- The walk of the law InviteclientKnown. -/
import Derived.Test.YtlcpadonjbaaeaaPlay
import Derived.Test.YtlcpadonjbaaeaaInv3
import Derived.Test.YtlcpadonjbaaeaaW8
import Derived.Test.YtlcpadonjbaaeaaW11
namespace Go.Proofs.Ytlcpadonjbaaeaa
open Go.RowKit

def k1 : Sim := giveS startS (2, 180, 0)
def k2 : Sim := untilS 200 k1 100000
def k3 : Sim := giveS (giveS (giveS k2 (2, 404, 0)) (2, 404, 0)) (2, 200, 0)
def k4 : Sim := giveS k3 (6, 0, 0)
theorem known_1 : k1.log.length = 4 := by decide
theorem known_2 : k2.m = (3, 0, 0) ∧ k2.log.length = 4 := by decide
theorem known_3 : countS k3.log 3 k3.now 200 699 = 1 ∧ countS k3.log 2 k3.now 404 404 = 2 := by decide
theorem known_4 : k4.m = (7, 0, 404) ∧ countS k4.log 6 k4.now 0 0 = 1 ∧ closedS k4 = true := by decide
theorem known_ok1 : OkS 1017 k1 := (startS_ok.give _).more (by omega)
theorem known_ok2 : OkS 2700 k2 := (known_ok1.until 200 (t := 100000) (by omega)).more (by omega)
theorem known_ok3 : OkS 2730 k3 := (((known_ok2.give _).give _).give _).more (by omega)
theorem known_ok4 : OkS 2760 k4 := (known_ok3.give _).more (by omega)
theorem known_copies : copiesS (-1) = 0 ∧ copiesS 0 = 1 ∧ copiesS 1499 = 2 ∧ copiesS 1500 = 3 ∧ copiesS 100000 = 7 := by decide

set_option maxRecDepth 100000 in
set_option maxHeartbeats 4000000 in
theorem known_any (w : World) : Calls Try.prog 4 #[] w fun e w' => e = .returned (.bool true) ∧ Below w.heap.size w w' := by
  go_enter Try.func4, Try.ntmps4
  go_wp2_with fail
  refine (start_sim (B := w.heap.size) _ (Nat.le_refl _)).mono ?_
  rintro e w1 ⟨g, rfl, hs1, hb1⟩
  have HB1 : Hid (Below w.heap.size w w1) := hb1
  clear hb1
  go_wp2_with fail
  refine (give_any (N := 9) (B := w.heap.size) (s := startS) (2, 180, 0) _ hs1 startS_ok (by omega)).mono ?_
  rintro e w2 ⟨rfl, hs2, hb2⟩
  have HS2 : Hid (SimAt w2 w.heap.size g k1) := hs2
  have HB2 : Hid (Below w.heap.size w w2) := HB1.out.trans hb2
  clear hs1 hs2 hb2
  obtain ⟨v2, hv2⟩ := HS2.out
  obtain ⟨-, -, mlog, -, -⟩ := hv2.cells known_ok1.1
  obtain ⟨A2, c2, rfl, -⟩ := hv2.log_slice
  rw [known_1] at mlog
  have q2 : g < w2.heap.size := hv2.lt
  clear hv2
  go_wp2_with fail
  refine (until_any (N := 1017) (B := w.heap.size) (s := k1) 100000 _ HS2.out known_ok1 (by omega) ⟨by omega, by omega⟩).mono ?_
  rintro e w3 ⟨rfl, hs3, hb3⟩
  have HS3 : Hid (SimAt w3 w.heap.size g k2) := hs3
  have HB3 : Hid (Below w.heap.size w w3) := HB2.out.trans hb3
  clear hs3 hb3 mlog q2
  obtain ⟨v3, hv3⟩ := HS3.out
  obtain ⟨⟨m0, m1, m2⟩, mnow, mlog, -, -⟩ := hv3.cells known_ok2.1
  obtain ⟨A3, c3, rfl, -⟩ := hv3.log_slice
  rw [known_2.2] at mlog
  rw [known_2.1] at m0 m1 m2
  have q3 : g < w3.heap.size := hv3.lt
  have hn := fun W => (run_neq_mc (3, 0, 0) (3, 0, 0) W).trans (by rw [decide_eq_true rfl]; try rfl : _ = .ok (.bool false) W)
  clear hv3
  go_wp2_with fail
  refine (give_any (N := 2700) (B := w.heap.size) (s := k2) (2, 404, 0) _ HS3.out known_ok2 (by omega)).mono ?_
  rintro e w4 ⟨rfl, hs4, hb4⟩
  have HB4 : Hid (Below w.heap.size w w4) := HB3.out.trans hb4
  clear hb4 m0 m1 m2 mnow mlog q3 hn
  go_wp2_with fail
  refine (give_any (N := 2708) (B := w.heap.size) (2, 404, 0) _ hs4 (known_ok2.give _) (by omega)).mono ?_
  rintro e w5 ⟨rfl, hs5, hb5⟩
  have HB5 : Hid (Below w.heap.size w w5) := HB4.out.trans hb5
  clear hb5 hs4
  go_wp2_with fail
  refine (give_any (N := 2716) (B := w.heap.size) (2, 200, 0) _ hs5 ((known_ok2.give _).give _) (by omega)).mono ?_
  rintro e w6 ⟨rfl, hs6, hb6⟩
  have HS6 : Hid (SimAt w6 w.heap.size g k3) := hs6
  have HB6 : Hid (Below w.heap.size w w6) := HB5.out.trans hb6
  obtain ⟨-, mnow, q6⟩ := HS6.out.mcells known_ok3.1
  clear hs5 hs6 hb6
  go_wp2_with fail
  refine (count_any (s := k3) 3 k3.now 200 699 _ HS6.out known_ok3.1 (by have := known_ok3.2.2.2.2; omega)).mono ?_
  rw [known_3.1]
  rintro e w' ⟨rfl, rfl⟩
  go_wp2_with fail
  refine (count_any (s := k3) 2 k3.now 404 404 _ HS6.out known_ok3.1 (by have := known_ok3.2.2.2.2; omega)).mono ?_
  rw [known_3.2]
  rintro e w' ⟨rfl, rfl⟩
  go_wp2_with fail
  refine (give_any (N := 2730) (B := w.heap.size) (s := k3) (6, 0, 0) _ HS6.out known_ok3 (by omega)).mono ?_
  rintro e w7 ⟨rfl, hs7, hb7⟩
  have HS7 : Hid (SimAt w7 w.heap.size g k4) := hs7
  have HB7 : Hid (Below w.heap.size w w7) := HB6.out.trans hb7
  clear mnow q6
  obtain ⟨⟨m0, m1, m2⟩, mnow, q7⟩ := HS7.out.mcells known_ok4.1
  rw [known_4.1] at m0 m1 m2
  have hn := fun W => (run_neq_mc (7, 0, 404) (7, 0, 404) W).trans (by rw [decide_eq_true rfl]; try rfl : _ = .ok (.bool false) W)
  clear hs7 hb7
  go_wp2_with fail
  refine (count_any (s := k4) 6 k4.now 0 0 _ HS7.out known_ok4.1 (by have := known_ok4.2.2.2.2; omega)).mono ?_
  rw [known_4.2.1]
  rintro e w' ⟨rfl, rfl⟩
  go_wp2_with fail
  refine (closed_any (s := k4) _ HS7.out known_ok4.1 (by have := known_ok4.2.2.2.2; omega) known_4.2.2).mono ?_
  rintro e w8 ⟨rfl, hb8⟩
  have HB8 : Hid (Below w.heap.size w w8) := HB7.out.trans (hb8.mono HB7.out.size)
  clear hb8 m0 m1 m2 mnow hn q7
  go_wp2_with fail
  refine (step_any (1, 501, 0) (5, 0, 2) (by simp [OkM]) _).mono ?_
  rw [show stepS (1, 501, 0) (5, 0, 2) = ((0, 0, 0), []) from by decide]
  rintro e wb ⟨vb, rfl, hob, hbb⟩
  obtain ⟨Ab, cb, rfl, -⟩ := own_slice hob
  have hbb2 : Below w.heap.size w (wb.alloc (.cells (mcells (0, 0, 0)) 31)) := (HB8.out.trans (hbb.mono HB8.out.size)).alloc (by have := HB8.out.size; have := hbb.size; omega) _
  have hn1 : (wb.alloc (.cells (mcells (0, 0, 0)) 31)).heap[wb.heap.size]? = some (.cells (mcells (0, 0, 0)) 31 (0, 0)) := heap_alloc_new _ _
  have zb : wb.heap.size < (wb.alloc (.cells (mcells (0, 0, 0)) 31)).heap.size := by simp
  have HBb : Hid (Below w.heap.size w (wb.alloc (.cells (mcells (0, 0, 0)) 31))) := hbb2
  have HNb : Hid ((wb.alloc (.cells (mcells (0, 0, 0)) 31)).heap[wb.heap.size]? = some (.cells (mcells (0, 0, 0)) 31 (0, 0))) := hn1
  clear hob hbb hbb2 hn1
  go_wp2_with fail
  refine (step_any (1, 32000, 0) (5, 0, 1) (by simp [OkM]) _).mono ?_
  rw [show stepS (1, 32000, 0) (5, 0, 1) = ((1, 32000, 0), [(1, 0, 0, 0), (4, 0, 1, 32000)]) from by decide]
  rintro e wc ⟨vc, rfl, hoc, hbc⟩
  obtain ⟨Ac, cc, rfl, -⟩ := own_slice hoc
  have hzc := hbc.size
  have hN2 : wc.heap[wb.heap.size]? = some (.cells (mcells (0, 0, 0)) 31 (0, 0)) := block_below HNb.out hbc zb
  have hZ : Below w.heap.size w wc := HBb.out.trans (hbc.mono HBb.out.size)
  have hd0 : Below w.heap.size w (wc.alloc (.cells (mcells (1, 32000, 0)) 31)) := hZ.alloc hZ.size _
  have hd1 : (wc.alloc (.cells (mcells (1, 32000, 0)) 31)).heap[wc.heap.size]? = some (.cells (mcells (1, 32000, 0)) 31 (0, 0)) := heap_alloc_new _ _
  have hd2 : (wc.alloc (.cells (mcells (1, 32000, 0)) 31)).heap[wb.heap.size]? = some (.cells (mcells (0, 0, 0)) 31 (0, 0)) := by
    rw [heap_alloc_old]
    · exact hN2
    · exact Nat.lt_of_lt_of_le zb hzc
  have hd3 := Rd.of_own hoc
  have hd4 : ORd (wc.alloc (.cells (mcells (1, 32000, 0)) 31)) wc.heap.size Ac [(1, 0, 0, 0), (4, 0, 1, 32000)] := ORd.below hd3 ((Below.refl _ _).alloc (Nat.le_refl _) _)
  clear hzc hN2 hZ hoc hbc hd3
  go_upto_region 17 with fail
  unfold mcells at hd0 hd1 hd2 hd4
  generalize wc.alloc _ = wd at hd0 hd1 hd2 hd4 ⊢
  have q1 : wb.heap.size < wd.heap.size := (Array.getElem?_eq_some_iff.1 hd2).1
  have q2 : wc.heap.size < wd.heap.size := (Array.getElem?_eq_some_iff.1 hd1).1
  have HOd : Hid (ORd wd wc.heap.size Ac [(1, 0, 0, 0), (4, 0, 1, 32000)] ∧ wc.heap.size ≤ wd.heap.size) := ⟨hd4, by omega⟩
  have HBd : Hid (Below w.heap.size w wd) := hd0
  obtain ⟨x0, x1, x2⟩ := mc_cells hd2
  obtain ⟨y0, y1, y2⟩ := mc_cells hd1
  have hn0 := fun W => (run_neq_mc (0, 0, 0) (0, 0, 0) W).trans (by rw [decide_eq_true rfl]; try rfl : _ = .ok (.bool false) W)
  clear hd0 hd1 hd2 hd4 zb
  go_wp2_with fail
  refine (outs_any (B := wc.heap.size) (C := wd.heap.size + 1) Ac _ cc _ [(1, 0, 0, 0), (4, 0, 1, 32000)] [(1, 0, 0, 0), (4, 0, 1, 32000)] _ (by have := HOd.out.2; simp; omega) (by simp) (HOd.out.1.below (((Below.refl wd.heap.size wd).alloc (by omega) _).mono HOd.out.2)) (Rd.lit _ _ _) (by simp [maxLen]) (by simp [maxLen])).mono ?_
  rw [decide_eq_true rfl]
  rintro e we ⟨rfl, hbe⟩
  have hX : Below wd.heap.size wd we := ((Below.refl wd.heap.size wd).alloc (by omega) _).trans (hbe.mono (by simp only [World.size_alloc]; omega))
  have HBe : Hid (Below w.heap.size w we) := HBd.out.trans (hX.mono HBd.out.size)
  clear hbe hX x0 x1 x2 y0 y1 y2 hn0
  go_wp2_with fail
  refine (copies_any (-1) _).mono ?_
  rw [known_copies.1]
  rintro e w' ⟨rfl, rfl⟩
  go_wp2_with fail
  refine (copies_any 0 _).mono ?_
  rw [known_copies.2.1]
  rintro e w' ⟨rfl, rfl⟩
  go_wp2_with fail
  refine (copies_any 1499 _).mono ?_
  rw [known_copies.2.2.1]
  rintro e w' ⟨rfl, rfl⟩
  go_wp2_with fail
  refine (copies_any 1500 _).mono ?_
  rw [known_copies.2.2.2.1]
  rintro e w' ⟨rfl, rfl⟩
  go_wp2_with fail
  refine (copies_any 100000 _).mono ?_
  rw [known_copies.2.2.2.2]
  rintro e w' ⟨rfl, rfl⟩
  go_wp2_with fail
  refine (may_any (0, 0, 0) (by simp [OkM]) _).mono ?_
  rw [show mayS (0, 0, 0) = false from by decide]
  rintro e wf ⟨rfl, hbf⟩
  have HBf : Hid (Below w.heap.size w wf) := HBe.out.trans (hbf.mono HBe.out.size)
  clear hbf
  go_wp2_with fail
  refine (works_any _).mono ?_
  rintro e wg ⟨rfl, hbg⟩
  have HBg : Hid (Below w.heap.size w wg) := HBf.out.trans (hbg.mono HBf.out.size)
  clear hbg
  go_wp2_with fail
  go_ret
  exact ⟨rfl, HBg.out⟩

end Go.Proofs.Ytlcpadonjbaaeaa
