/- The walks of the reference: ended, response. -/
import Derived.Test.YtlcpadonjbaaeaaStepB
namespace Go.Proofs.Ytlcpadonjbaaeaa
open Go.RowKit

set_option maxRecDepth 100000 in
set_option maxHeartbeats 2000000 in
theorem ended_any {base : Nat} (m : Mc) (v : Value) (l : List Out) (w : World) (hown : w.ownsRow base 48 4 v l.length (oscells l)) (hl : l.length ≤ 100) (hb : base ≤ w.heap.size) :
    Calls Try.prog 46 #[mval m, v] w fun e w' => ∃ v', e = .returned (.tuple #[mval (7, 0, m.2.2), v']) ∧ w'.ownsRow base 48 4 v' (l.length + 1) (oscells (l ++ [(7, 0, 0, 0)])) ∧ Below base w w' := by
  obtain ⟨A, c, rfl, -⟩ := own_slice hown
  have HO : Hid (w.ownsRow base 48 4 (.slice A l.length c) l.length (oscells l)) := hown
  have HB : Hid (base ≤ w.heap.size) := hb
  clear hown hb
  obtain ⟨i0, hi0, hz0, hz1, hz2⟩ := info_parts info48
  go_enter Try.func46, Try.ntmps46
  go_wp2_with fail
  have hm1 : ((w.alloc (.cells (mcells m) 31)).alloc (.cells (mcells (0, 0, 0)) 31)).heap[w.heap.size]? = some (.cells (mcells m) 31 (0, 0)) := by
    rw [heap_alloc_old, heap_alloc_new]
    simp
  have hr1 : ((w.alloc (.cells (mcells m) 31)).alloc (.cells (mcells (0, 0, 0)) 31)).heap[w.heap.size + 1]? = some (.cells (mcells (0, 0, 0)) 31 (0, 0)) := by
    have := heap_alloc_new (w.alloc (.cells (mcells m) 31)) (.cells (mcells (0, 0, 0)) 31)
    simpa using this
  have hb1 : Below w.heap.size w ((w.alloc (.cells (mcells m) 31)).alloc (.cells (mcells (0, 0, 0)) 31)) := ((Below.refl _ _).alloc (Nat.le_refl _) _).alloc (by simp) _
  have z1 : ((w.alloc (.cells (mcells m) 31)).alloc (.cells (mcells (0, 0, 0)) 31)).heap.size = w.heap.size + 1 + 1 := by simp
  unfold mcells at hm1 hr1 hb1 z1
  generalize World.alloc (World.alloc w _) _ = w1 at hm1 hr1 hb1 z1 ⊢
  obtain ⟨⟨-, -, a2⟩, -⟩ := cells3 hm1
  have HM1 : Hid (w1.heap[w.heap.size]? = some (.cells (mcells m) 31 (0, 0))) := hm1
  have HK : Hid (∀ w' : World, w'.heap[w.heap.size + 1]? = w1.heap[w.heap.size + 1]? → (w'.cell? ⟨w.heap.size + 1, 0, none⟩ = some (.int .u8 0) ∧ w'.cell? ⟨w.heap.size + 1, 1, none⟩ = some (.int .i64 0) ∧ w'.cell? ⟨w.heap.size + 1, 2, none⟩ = some (.int .i64 0)) ∧ ∀ o, w'.frozen? ⟨w.heap.size + 1, o, none⟩ = false) := fun w' hw => cells3 (hw.trans hr1)
  have HR : Hid (w1.heap[w.heap.size + 1]? = some (.cells (mcells (0, 0, 0)) 31 (0, 0))) := hr1
  have HB1 : Hid (Below w.heap.size w w1) := hb1
  have HO1 : Hid (w1.ownsRow base 48 4 (.slice A l.length c) l.length (oscells l)) := own_below HO.out hb1
  have HZ : Hid (w1.heap.size = w.heap.size + 1 + 1) := z1
  have HNB : Hid (∀ g, (Value.slice A l.length c).ownBlock = some g → g < w.heap.size) := fun g hg => (HO.out.lt g hg).2
  have q0 : w.heap.size < w1.heap.size := by omega
  have q1 : w.heap.size + 1 < w1.heap.size := by omega
  clear hm1 hr1 hb1 z1
  go_region_law
    ((refine step_append_lies _ (by rfl) _ _ _ (by rfl) base 48 i0 _ 4 32 Try.underlying43 hi0 hz0 hz1 hz2 rfl (by omega) (.slice A l.length c) l.length (oscells l) (by rfl) (own_below HO1.out (below_drewN ((Below.refl _ _).alloc (Nat.le_refl _) _) 1)) _ 1 1 (ocells (7, 0, 0, 0)) (by rfl) rfl (World.news_of_block (heap_alloc_new w1 _)) (by simp [ocells, Value.oneCell']) (by omega) (by simp only [maxLen]; omega) (by omega) (by have := HB.out; simp; omega) _ rfl ?_
      intro g2 cap w2 hown2 hgrow hat hlt2
      have e1 : w2.heap[w.heap.size + 1]? = w1.heap[w.heap.size + 1]? := by
        rw [hgrow.block (w.heap.size + 1) (by simp; omega) (fun e => by have := HNB.out _ e.symm; omega)]
        show (World.alloc w1 _).heap[_]? = _
        rw [heap_alloc_old]
        exact q1
      have e0 : w2.heap[w.heap.size]? = w1.heap[w.heap.size]? := by
        rw [hgrow.block w.heap.size (by simp; omega) (fun e => by have := HNB.out _ e.symm; omega)]
        show (World.alloc w1 _).heap[_]? = _
        rw [heap_alloc_old]
        exact q0
      have y2 : w2.cell? ⟨w.heap.size, 2, none⟩ = some (.int .i64 m.2.2) := cells_of_block (e0.trans HM1.out) 2
      obtain ⟨⟨c0, c1, c2⟩, f0⟩ := HK.out w2 e1
      have hx : g2 ≠ w.heap.size + 1 := by
        rcases hat with h | h
        · have := HNB.out g2 h; omega
        · have := HZ.out; simp at h; omega))
  all_goals
    go_wp2_with fail
    refine bodyPost_ret (results_row_tmp rfl _ _ (w.heap.size + 1) 31 (mcells (7, 0, m.2.2)) (0, 0) _ rfl (block_store3 _ _ _ (e1.trans HR.out)) Try.underlying31 rfl size31) rfl ?_
    refine ⟨_, rfl, ?_, ?_⟩
    · have := own_heap (w' := ((w2.setCell ⟨w.heap.size + 1, 0, none⟩ (.int .u8 7)).setCell ⟨w.heap.size + 1, 1, none⟩ (.int .i64 0)).setCell ⟨w.heap.size + 1, 2, none⟩ (.int .i64 m.2.2)) hown2 (fun b hb => by
        have hb : b = g2 := by simpa [Value.ownBlock] using hb.symm
        subst hb
        rw [Below.heap_setCell _ _ _ _ hx, Below.heap_setCell _ _ _ _ hx, Below.heap_setCell _ _ _ _ hx])
      have e : oscells (l ++ [(7, 0, 0, 0)]) = oscells l ++ ocells (7, 0, 0, 0) := by simp [oscells]
      rw [e]
      exact this
    · have hbb : Below base w1 (World.drew (w1.alloc (.cells #[.int .u8 7, .int .i64 0, .int .u8 0, .int .i64 0] 48))) := below_drewN ((Below.refl _ _).alloc (by have := HB.out; omega) _) 1
      exact (((((HB1.out.mono HB.out).trans hbb).grown hgrow (by have := HB.out; simp; omega) (fun k hk => (HO.out.lt k hk).1)).setCell (by have := HB.out; simp; omega) _).setCell (by have := HB.out; simp; omega) _).setCell (by have := HB.out; simp; omega) _


end Go.Proofs.Ytlcpadonjbaaeaa
