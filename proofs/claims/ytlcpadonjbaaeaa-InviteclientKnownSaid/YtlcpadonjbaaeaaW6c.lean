/- The walks: the effect become. -/
import Derived.Test.YtlcpadonjbaaeaaW6b
namespace Go.Proofs.Ytlcpadonjbaaeaa
open Go.RowKit

theorem cell_below {w w' : World} {h o : Nat} {v : Value} (hc : w.cell? ⟨h, o, none⟩ = some v) (hb : Below w.heap.size w w') (hh : h < w.heap.size) : w'.cell? ⟨h, o, none⟩ = some v :=
  (hb.cell (p := ⟨h, o, none⟩) hh).trans hc

set_option maxRecDepth 100000 in
set_option maxHeartbeats 2000000 in
theorem become_user (m : Mc) (c : Int) (h1 h2 h3 : Nat) (t1 t2 t3 : TypeId) (w : World) (e1 : w.heap[h1]? = some (.cells #[.int .u8 3] t1 (0, 0))) (e2 : w.heap[h2]? = some (.cells #[.bool false] t2 (0, 0))) (e3 : w.heap[h3]? = some (.cells #[(.func (.func 41) #[] #[])] t3 (0, 0))) :
    Calls Try.prog 38 #[mval m, .int .i64 c, .pointer (some ⟨h1, 0, none⟩), .pointer (some ⟨h2, 0, none⟩), .pointer (some ⟨h3, 0, none⟩)] w (GivesB w.heap.size w ((3, 0, 0), [(3, c, 0, 0)])) := by
  obtain ⟨k1, -⟩ := cell1 e1
  obtain ⟨k2, -⟩ := cell1 e2
  have p1 : h1 < w.heap.size := (Array.getElem?_eq_some_iff.1 e1).1
  have p2 : h2 < w.heap.size := (Array.getElem?_eq_some_iff.1 e2).1
  have p3 : h3 < w.heap.size := (Array.getElem?_eq_some_iff.1 e3).1
  have HE3 : Hid (w.heap[h3]? = some (.cells #[(.func (.func 41) #[] #[])] t3 (0, 0))) := e3
  clear e1 e2 e3
  go_enter Try.func38, Try.ntmps38
  go_upto_region 1 with fail
  obtain ⟨-, hr1, z1, hb1⟩ := two_new w (.cells #[.int .u8 m.1, .int .i64 m.2.1, .int .i64 m.2.2] 31) (.cells #[.int .u8 0, .int .i64 0, .int .i64 0] 31)
  have kk1 := cell_below k1 hb1 p1
  have kk2 := cell_below k2 hb1 p2
  generalize World.alloc (World.alloc w _) _ = w1 at hr1 hb1 z1 kk1 kk2 ⊢
  have HR1 : Hid (w1.heap[w.heap.size + 1]? = some (.cells (mcells (0, 0, 0)) 31 (0, 0))) := hr1
  have HB1 : Hid (Below w.heap.size w w1) := hb1
  have HZ1 : Hid (w1.heap.size = w.heap.size + 1 + 1) := z1
  have y1 : h1 < w1.heap.size := by omega
  have y2 : h2 < w1.heap.size := by omega
  have x1 : h1 ≠ w1.heap.size := by omega
  have x2 : h2 ≠ w1.heap.size := by omega
  clear k1 k2 hr1 hb1 z1
  go_upto_region 4 with fail
  have hm4 := heap_alloc_new w1 (.cells #[.int .u8 3, .int .i64 0, .int .i64 0] 31)
  have hb4 : Below w1.heap.size w1 (w1.alloc (.cells #[.int .u8 3, .int .i64 0, .int .i64 0] 31)) := (Below.refl _ _).alloc (Nat.le_refl _) _
  have z4 : (w1.alloc (.cells #[.int .u8 3, .int .i64 0, .int .i64 0] 31)).heap.size = w1.heap.size + 1 := by simp
  generalize World.alloc w1 _ = w4 at hm4 hb4 z4 ⊢
  have HR4 : Hid (w4.heap[w.heap.size + 1]? = some (.cells (mcells (0, 0, 0)) 31 (0, 0))) := block_below HR1.out hb4 (by have := HZ1.out; omega)
  have HB4 : Hid (Below w.heap.size w w4) := HB1.out.trans (hb4.mono (by have := HZ1.out; omega))
  have HM4 : Hid (w4.heap[w1.heap.size]? = some (.cells #[.int .u8 3, .int .i64 0, .int .i64 0] 31 (0, 0))) := hm4
  have HE4 : Hid (w4.heap[h3]? = some (.cells #[(.func (.func 41) #[] #[])] t3 (0, 0))) := block_below HE3.out HB4.out p3
  have q0 : w1.heap.size < w4.heap.size := by omega
  have q1 : w.heap.size + 1 < w4.heap.size := by have := HZ1.out; omega
  have q3 : h3 < w4.heap.size := by omega
  have n1 : w.heap.size + 1 ≠ w1.heap.size := by have := HZ1.out; omega
  have n2 : w1.heap.size ≠ w.heap.size + 1 := by have := HZ1.out; omega
  have n3 : h3 ≠ w.heap.size + 1 := by omega
  have n4 : w.heap.size + 1 ≠ h3 := by omega
  have HK : Hid (∀ w', Below w4.heap.size w4 w' → w'.cell? ⟨w1.heap.size, 0, none⟩ = some (.int .u8 3) ∧ w'.cell? ⟨w1.heap.size, 1, none⟩ = some (.int .i64 0) ∧ w'.cell? ⟨w1.heap.size, 2, none⟩ = some (.int .i64 0) ∧ w'.cell? ⟨h3, 0, none⟩ = some (.func (.func 41) #[] #[])) := fun w' hb => by
    obtain ⟨⟨a, b, d⟩, -⟩ := cells3 (block_below HM4.out hb q0)
    exact ⟨a, b, d, (cell1 (block_below HE4.out hb q3)).1⟩
  have hkeep0 := HK.out w4.drew (below_drewN (Below.refl _ _) 1)
  clear hm4 hb4 z4 kk1 kk2 y1 y2 x1 x2
  go_region_held3 (fun w' => w'.cell? ⟨w1.heap.size, 0, none⟩ = some (.int .u8 3) ∧ w'.cell? ⟨w1.heap.size, 1, none⟩ = some (.int .i64 0) ∧ w'.cell? ⟨w1.heap.size, 2, none⟩ = some (.int .i64 0) ∧ w'.cell? ⟨h3, 0, none⟩ = some (.func (.func 41) #[] #[]))
    (first | exact hkeep1 | exact hkeep0 | go_keep)
    ((go_at_call 41
      refine (user_any c _).mono ?_
      rintro e w5 ⟨v, rfl, hown, hb5⟩
      have HX5 : Hid (Below w4.heap.size w4 w5) := (below_drewN (Below.refl _ _) 1).trans (hb5.mono (Nat.le_refl _))
      have HO5 : Hid (w5.ownsRow w4.heap.size 48 4 v 1 (oscells [(3, c, 0, 0)])) := hown
      have hkeep1 := HK.out w5 HX5.out
      obtain ⟨⟨b0, b1, b2⟩, f0⟩ := cells3 (block_below HR4.out HX5.out q1)
      have q5 : w.heap.size + 1 < w5.heap.size := Nat.lt_of_lt_of_le q1 HX5.out.size
      clear hown hb5))
  all_goals
    go_wp2_with fail
    refine bodyPost_ret (results_row_tmp rfl _ _ (w.heap.size + 1) 31 (mcells (3, 0, 0)) (0, 0) _ rfl (block_store3 _ _ _ (block_below HR4.out HX5.out q1)) Try.underlying31 rfl size31) rfl ?_
    have hbx : Below w.heap.size w w5 := HB4.out.trans (HX5.out.mono (by omega))
    refine ⟨_, rfl, own_base (own_heap (w' := ((w5.setCell ⟨w.heap.size + 1, 0, none⟩ (.int .u8 3)).setCell ⟨w.heap.size + 1, 1, none⟩ (.int .i64 0)).setCell ⟨w.heap.size + 1, 2, none⟩ (.int .i64 0)) HO5.out (fun b hb => by
      have hlt := (HO5.out.lt b hb).1
      have hx : b ≠ w.heap.size + 1 := by omega
      rw [Below.heap_setCell _ _ _ _ hx, Below.heap_setCell _ _ _ _ hx, Below.heap_setCell _ _ _ _ hx])) (by omega), ?_⟩
    exact ((hbx.setCell (by simp) _).setCell (by simp) _).setCell (by simp) _

set_option maxRecDepth 100000 in
set_option maxHeartbeats 2000000 in
theorem become_accept (m : Mc) (c : Int) (h1 h2 h3 : Nat) (t1 t2 t3 : TypeId) (u : Nat) (tu : TypeId) (w : World) (e1 : w.heap[h1]? = some (.cells #[.int .u8 4] t1 (0, 0))) (e2 : w.heap[h2]? = some (.cells #[.bool true] t2 (0, 0))) (e3 : w.heap[h3]? = some (.cells #[(.func (.func 42) #[] #[.pointer (some ⟨u, 0, none⟩)])] t3 (0, 0))) (eu : w.heap[u]? = some (.cells #[.func (.func 41) #[] #[]] tu (0, 0))) :
    Calls Try.prog 38 #[mval m, .int .i64 c, .pointer (some ⟨h1, 0, none⟩), .pointer (some ⟨h2, 0, none⟩), .pointer (some ⟨h3, 0, none⟩)] w (GivesB w.heap.size w ((4, 0, c), [(3, c, 0, 0), (4, 0, 13, 32000)])) := by
  obtain ⟨k1, -⟩ := cell1 e1
  obtain ⟨k2, -⟩ := cell1 e2
  have p1 : h1 < w.heap.size := (Array.getElem?_eq_some_iff.1 e1).1
  have p2 : h2 < w.heap.size := (Array.getElem?_eq_some_iff.1 e2).1
  have p3 : h3 < w.heap.size := (Array.getElem?_eq_some_iff.1 e3).1
  have HE3 : Hid (w.heap[h3]? = some (.cells #[(.func (.func 42) #[] #[.pointer (some ⟨u, 0, none⟩)])] t3 (0, 0))) := e3
  have HU : Hid (w.heap[u]? = some (.cells #[.func (.func 41) #[] #[]] tu (0, 0))) := eu
  have HPu : Hid (u < w.heap.size) := (Array.getElem?_eq_some_iff.1 eu).1
  clear e1 e2 e3 eu
  go_enter Try.func38, Try.ntmps38
  go_upto_region 1 with fail
  obtain ⟨-, hr1, z1, hb1⟩ := two_new w (.cells #[.int .u8 m.1, .int .i64 m.2.1, .int .i64 m.2.2] 31) (.cells #[.int .u8 0, .int .i64 0, .int .i64 0] 31)
  have kk1 := cell_below k1 hb1 p1
  have kk2 := cell_below k2 hb1 p2
  generalize World.alloc (World.alloc w _) _ = w1 at hr1 hb1 z1 kk1 kk2 ⊢
  have HR1 : Hid (w1.heap[w.heap.size + 1]? = some (.cells (mcells (0, 0, 0)) 31 (0, 0))) := hr1
  have HB1 : Hid (Below w.heap.size w w1) := hb1
  have HZ1 : Hid (w1.heap.size = w.heap.size + 1 + 1) := z1
  have y1 : h1 < w1.heap.size := by omega
  have y2 : h2 < w1.heap.size := by omega
  have x1 : h1 ≠ w1.heap.size := by omega
  have x2 : h2 ≠ w1.heap.size := by omega
  clear k1 k2 hr1 hb1 z1
  go_upto_region 4 with fail
  have hm4 := heap_alloc_new w1 (.cells #[.int .u8 4, .int .i64 0, .int .i64 c] 31)
  have hb4 : Below w1.heap.size w1 (w1.alloc (.cells #[.int .u8 4, .int .i64 0, .int .i64 c] 31)) := (Below.refl _ _).alloc (Nat.le_refl _) _
  have z4 : (w1.alloc (.cells #[.int .u8 4, .int .i64 0, .int .i64 c] 31)).heap.size = w1.heap.size + 1 := by simp
  generalize World.alloc w1 _ = w4 at hm4 hb4 z4 ⊢
  have HR4 : Hid (w4.heap[w.heap.size + 1]? = some (.cells (mcells (0, 0, 0)) 31 (0, 0))) := block_below HR1.out hb4 (by have := HZ1.out; omega)
  have HB4 : Hid (Below w.heap.size w w4) := HB1.out.trans (hb4.mono (by have := HZ1.out; omega))
  have HM4 : Hid (w4.heap[w1.heap.size]? = some (.cells #[.int .u8 4, .int .i64 0, .int .i64 c] 31 (0, 0))) := hm4
  have HE4 : Hid (w4.heap[h3]? = some (.cells #[(.func (.func 42) #[] #[.pointer (some ⟨u, 0, none⟩)])] t3 (0, 0))) := block_below HE3.out HB4.out p3
  have HU4 : Hid (w4.heap[u]? = some (.cells #[.func (.func 41) #[] #[]] tu (0, 0))) := block_below HU.out HB4.out HPu.out
  have qu : u < w4.heap.size := by have := HPu.out; have := HB4.out.size; omega
  have q0 : w1.heap.size < w4.heap.size := by omega
  have q1 : w.heap.size + 1 < w4.heap.size := by have := HZ1.out; omega
  have q3 : h3 < w4.heap.size := by omega
  have n1 : w.heap.size + 1 ≠ w1.heap.size := by have := HZ1.out; omega
  have n2 : w1.heap.size ≠ w.heap.size + 1 := by have := HZ1.out; omega
  have n3 : h3 ≠ w.heap.size + 1 := by omega
  have n4 : w.heap.size + 1 ≠ h3 := by omega
  have HK : Hid (∀ w', Below w4.heap.size w4 w' → w'.cell? ⟨w1.heap.size, 0, none⟩ = some (.int .u8 4) ∧ w'.cell? ⟨w1.heap.size, 1, none⟩ = some (.int .i64 0) ∧ w'.cell? ⟨w1.heap.size, 2, none⟩ = some (.int .i64 c) ∧ w'.cell? ⟨h3, 0, none⟩ = some (.func (.func 42) #[] #[.pointer (some ⟨u, 0, none⟩)])) := fun w' hb => by
    obtain ⟨⟨a, b, d⟩, -⟩ := cells3 (block_below HM4.out hb q0)
    exact ⟨a, b, d, (cell1 (block_below HE4.out hb q3)).1⟩
  have hkeep0 := HK.out w4.drew (below_drewN (Below.refl _ _) 1)
  clear hm4 hb4 z4 kk1 kk2 y1 y2 x1 x2
  go_region_held3 (fun w' => w'.cell? ⟨w1.heap.size, 0, none⟩ = some (.int .u8 4) ∧ w'.cell? ⟨w1.heap.size, 1, none⟩ = some (.int .i64 0) ∧ w'.cell? ⟨w1.heap.size, 2, none⟩ = some (.int .i64 c) ∧ w'.cell? ⟨h3, 0, none⟩ = some (.func (.func 42) #[] #[.pointer (some ⟨u, 0, none⟩)]))
    (first | exact hkeep1 | exact hkeep0 | go_keep)
    ((go_at_call 42
      refine (accept_any c u tu _ (block_below HU4.out (below_drewN (Below.refl _ _) 1) qu)).mono ?_
      rintro e w5 ⟨v, rfl, hown, hb5⟩
      have HX5 : Hid (Below w4.heap.size w4 w5) := (below_drewN (Below.refl _ _) 1).trans (hb5.mono (Nat.le_refl _))
      have HO5 : Hid (w5.ownsRow w4.heap.size 48 4 v 2 (oscells [(3, c, 0, 0), (4, 0, 13, 32000)])) := hown
      have hkeep1 := HK.out w5 HX5.out
      obtain ⟨⟨b0, b1, b2⟩, f0⟩ := cells3 (block_below HR4.out HX5.out q1)
      have q5 : w.heap.size + 1 < w5.heap.size := Nat.lt_of_lt_of_le q1 HX5.out.size
      clear hown hb5))
  all_goals
    go_wp2_with fail
    refine bodyPost_ret (results_row_tmp rfl _ _ (w.heap.size + 1) 31 (mcells (4, 0, c)) (0, 0) _ rfl (block_store3 _ _ _ (block_below HR4.out HX5.out q1)) Try.underlying31 rfl size31) rfl ?_
    have hbx : Below w.heap.size w w5 := HB4.out.trans (HX5.out.mono (by omega))
    refine ⟨_, rfl, own_base (own_heap (w' := ((w5.setCell ⟨w.heap.size + 1, 0, none⟩ (.int .u8 4)).setCell ⟨w.heap.size + 1, 1, none⟩ (.int .i64 0)).setCell ⟨w.heap.size + 1, 2, none⟩ (.int .i64 c)) HO5.out (fun b hb => by
      have hlt := (HO5.out.lt b hb).1
      have hx : b ≠ w.heap.size + 1 := by omega
      rw [Below.heap_setCell _ _ _ _ hx, Below.heap_setCell _ _ _ _ hx, Below.heap_setCell _ _ _ _ hx])) (by omega), ?_⟩
    exact ((hbx.setCell (by simp) _).setCell (by simp) _).setCell (by simp) _

set_option maxRecDepth 100000 in
set_option maxHeartbeats 2000000 in
theorem become_reject (m : Mc) (c : Int) (h1 h2 h3 : Nat) (t1 t2 t3 : TypeId) (u : Nat) (tu : TypeId) (w : World) (e1 : w.heap[h1]? = some (.cells #[.int .u8 5] t1 (0, 0))) (e2 : w.heap[h2]? = some (.cells #[.bool true] t2 (0, 0))) (e3 : w.heap[h3]? = some (.cells #[(.func (.func 43) #[] #[.pointer (some ⟨u, 0, none⟩)])] t3 (0, 0))) (eu : w.heap[u]? = some (.cells #[.func (.func 41) #[] #[]] tu (0, 0))) :
    Calls Try.prog 38 #[mval m, .int .i64 c, .pointer (some ⟨h1, 0, none⟩), .pointer (some ⟨h2, 0, none⟩), .pointer (some ⟨h3, 0, none⟩)] w (GivesB w.heap.size w ((5, 0, c), [(3, c, 0, 0), (2, c, 0, 0), (4, 0, 4, 32000)])) := by
  obtain ⟨k1, -⟩ := cell1 e1
  obtain ⟨k2, -⟩ := cell1 e2
  have p1 : h1 < w.heap.size := (Array.getElem?_eq_some_iff.1 e1).1
  have p2 : h2 < w.heap.size := (Array.getElem?_eq_some_iff.1 e2).1
  have p3 : h3 < w.heap.size := (Array.getElem?_eq_some_iff.1 e3).1
  have HE3 : Hid (w.heap[h3]? = some (.cells #[(.func (.func 43) #[] #[.pointer (some ⟨u, 0, none⟩)])] t3 (0, 0))) := e3
  have HU : Hid (w.heap[u]? = some (.cells #[.func (.func 41) #[] #[]] tu (0, 0))) := eu
  have HPu : Hid (u < w.heap.size) := (Array.getElem?_eq_some_iff.1 eu).1
  clear e1 e2 e3 eu
  go_enter Try.func38, Try.ntmps38
  go_upto_region 1 with fail
  obtain ⟨-, hr1, z1, hb1⟩ := two_new w (.cells #[.int .u8 m.1, .int .i64 m.2.1, .int .i64 m.2.2] 31) (.cells #[.int .u8 0, .int .i64 0, .int .i64 0] 31)
  have kk1 := cell_below k1 hb1 p1
  have kk2 := cell_below k2 hb1 p2
  generalize World.alloc (World.alloc w _) _ = w1 at hr1 hb1 z1 kk1 kk2 ⊢
  have HR1 : Hid (w1.heap[w.heap.size + 1]? = some (.cells (mcells (0, 0, 0)) 31 (0, 0))) := hr1
  have HB1 : Hid (Below w.heap.size w w1) := hb1
  have HZ1 : Hid (w1.heap.size = w.heap.size + 1 + 1) := z1
  have y1 : h1 < w1.heap.size := by omega
  have y2 : h2 < w1.heap.size := by omega
  have x1 : h1 ≠ w1.heap.size := by omega
  have x2 : h2 ≠ w1.heap.size := by omega
  clear k1 k2 hr1 hb1 z1
  go_upto_region 4 with fail
  have hm4 := heap_alloc_new w1 (.cells #[.int .u8 5, .int .i64 0, .int .i64 c] 31)
  have hb4 : Below w1.heap.size w1 (w1.alloc (.cells #[.int .u8 5, .int .i64 0, .int .i64 c] 31)) := (Below.refl _ _).alloc (Nat.le_refl _) _
  have z4 : (w1.alloc (.cells #[.int .u8 5, .int .i64 0, .int .i64 c] 31)).heap.size = w1.heap.size + 1 := by simp
  generalize World.alloc w1 _ = w4 at hm4 hb4 z4 ⊢
  have HR4 : Hid (w4.heap[w.heap.size + 1]? = some (.cells (mcells (0, 0, 0)) 31 (0, 0))) := block_below HR1.out hb4 (by have := HZ1.out; omega)
  have HB4 : Hid (Below w.heap.size w w4) := HB1.out.trans (hb4.mono (by have := HZ1.out; omega))
  have HM4 : Hid (w4.heap[w1.heap.size]? = some (.cells #[.int .u8 5, .int .i64 0, .int .i64 c] 31 (0, 0))) := hm4
  have HE4 : Hid (w4.heap[h3]? = some (.cells #[(.func (.func 43) #[] #[.pointer (some ⟨u, 0, none⟩)])] t3 (0, 0))) := block_below HE3.out HB4.out p3
  have HU4 : Hid (w4.heap[u]? = some (.cells #[.func (.func 41) #[] #[]] tu (0, 0))) := block_below HU.out HB4.out HPu.out
  have qu : u < w4.heap.size := by have := HPu.out; have := HB4.out.size; omega
  have q0 : w1.heap.size < w4.heap.size := by omega
  have q1 : w.heap.size + 1 < w4.heap.size := by have := HZ1.out; omega
  have q3 : h3 < w4.heap.size := by omega
  have n1 : w.heap.size + 1 ≠ w1.heap.size := by have := HZ1.out; omega
  have n2 : w1.heap.size ≠ w.heap.size + 1 := by have := HZ1.out; omega
  have n3 : h3 ≠ w.heap.size + 1 := by omega
  have n4 : w.heap.size + 1 ≠ h3 := by omega
  have HK : Hid (∀ w', Below w4.heap.size w4 w' → w'.cell? ⟨w1.heap.size, 0, none⟩ = some (.int .u8 5) ∧ w'.cell? ⟨w1.heap.size, 1, none⟩ = some (.int .i64 0) ∧ w'.cell? ⟨w1.heap.size, 2, none⟩ = some (.int .i64 c) ∧ w'.cell? ⟨h3, 0, none⟩ = some (.func (.func 43) #[] #[.pointer (some ⟨u, 0, none⟩)])) := fun w' hb => by
    obtain ⟨⟨a, b, d⟩, -⟩ := cells3 (block_below HM4.out hb q0)
    exact ⟨a, b, d, (cell1 (block_below HE4.out hb q3)).1⟩
  have hkeep0 := HK.out w4.drew (below_drewN (Below.refl _ _) 1)
  clear hm4 hb4 z4 kk1 kk2 y1 y2 x1 x2
  go_region_held3 (fun w' => w'.cell? ⟨w1.heap.size, 0, none⟩ = some (.int .u8 5) ∧ w'.cell? ⟨w1.heap.size, 1, none⟩ = some (.int .i64 0) ∧ w'.cell? ⟨w1.heap.size, 2, none⟩ = some (.int .i64 c) ∧ w'.cell? ⟨h3, 0, none⟩ = some (.func (.func 43) #[] #[.pointer (some ⟨u, 0, none⟩)]))
    (first | exact hkeep1 | exact hkeep0 | go_keep)
    ((go_at_call 43
      refine (reject_any c u tu _ (block_below HU4.out (below_drewN (Below.refl _ _) 1) qu)).mono ?_
      rintro e w5 ⟨v, rfl, hown, hb5⟩
      have HX5 : Hid (Below w4.heap.size w4 w5) := (below_drewN (Below.refl _ _) 1).trans (hb5.mono (Nat.le_refl _))
      have HO5 : Hid (w5.ownsRow w4.heap.size 48 4 v 3 (oscells [(3, c, 0, 0), (2, c, 0, 0), (4, 0, 4, 32000)])) := hown
      have hkeep1 := HK.out w5 HX5.out
      obtain ⟨⟨b0, b1, b2⟩, f0⟩ := cells3 (block_below HR4.out HX5.out q1)
      have q5 : w.heap.size + 1 < w5.heap.size := Nat.lt_of_lt_of_le q1 HX5.out.size
      clear hown hb5))
  all_goals
    go_wp2_with fail
    refine bodyPost_ret (results_row_tmp rfl _ _ (w.heap.size + 1) 31 (mcells (5, 0, c)) (0, 0) _ rfl (block_store3 _ _ _ (block_below HR4.out HX5.out q1)) Try.underlying31 rfl size31) rfl ?_
    have hbx : Below w.heap.size w w5 := HB4.out.trans (HX5.out.mono (by omega))
    refine ⟨_, rfl, own_base (own_heap (w' := ((w5.setCell ⟨w.heap.size + 1, 0, none⟩ (.int .u8 5)).setCell ⟨w.heap.size + 1, 1, none⟩ (.int .i64 0)).setCell ⟨w.heap.size + 1, 2, none⟩ (.int .i64 c)) HO5.out (fun b hb => by
      have hlt := (HO5.out.lt b hb).1
      have hx : b ≠ w.heap.size + 1 := by omega
      rw [Below.heap_setCell _ _ _ _ hx, Below.heap_setCell _ _ _ _ hx, Below.heap_setCell _ _ _ _ hx])) (by omega), ?_⟩
    exact ((hbx.setCell (by simp) _).setCell (by simp) _).setCell (by simp) _

end Go.Proofs.Ytlcpadonjbaaeaa
