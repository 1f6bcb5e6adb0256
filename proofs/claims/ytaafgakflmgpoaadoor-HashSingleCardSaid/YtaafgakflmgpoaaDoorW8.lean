/- The walk of Start, both. -/
import Derived.Test.YtaafgakflmgpoaaDoorW7
namespace Go.Proofs.YtaafgakflmgpoaaDoor
open Go.RowKit

theorem build32 (w : World) : (Instr.build 32 #[(0, .agg (v8c firstV))]).run Tryd.prog w = .ok (.agg (stc startS).toArray) w := by kernel_rfl

set_option maxRecDepth 100000 in
set_option maxHeartbeats 4000000 in
theorem start_any (w : World) (hL : Laid w) : Calls Tryd.prog 16 #[] w fun e w' => e = .returned (.agg (stc startS).toArray) ∧ Below w.heap.size w w' := by
  obtain ⟨t0, h0⟩ := hL.first
  have h0' : (w.alloc (.cells (stc zeroSt).toArray 32 (0, 0))).heap[0]? = some (.cells (v8c firstV) t0 (0, 0)) := by
    rw [heap_alloc_old w _ (by have := hL.lt; omega)]; exact h0
  have z32 := zero32
  have b32 := fun W => build32 W
  have hn : (w.alloc (.cells (stc zeroSt).toArray 32 (0, 0))).heap[w.heap.size]? = some (.cells (stc zeroSt).toArray 32 (0, 0)) := heap_alloc_new _ _
  have hB : Below w.heap.size w (w.alloc (.cells (stc zeroSt).toArray 32 (0, 0))) := (Below.refl _ _).alloc (Nat.le_refl _) _
  go_enter Tryd.func16, Tryd.ntmps16
  go_upto_region 1 with fail
  generalize World.alloc w _ = w1 at h0' hn hB ⊢
  go_wp2_with (first
    | (refine wpList_load_row rfl 28 (.global 0) rfl 0 rfl t0 (v8c firstV) (0, 0) _ h0' Tryd.underlying28 rfl size28 ?_)
    | (refine wpList_store_row rfl 32 (.tmp 0) (.tmp 2) rfl w.heap.size rfl (stc startS).toArray rfl 32 _ hn rfl (size32 (zeros_len 64)) (one_stc _) ?_))
  exact bodyPost_ret (results_cell_row rfl _ _ w.heap.size 32 (stc startS).toArray (0, 0) _ rfl (setRow_heap _ _ _ _ _ _ hn) Tryd.underlying32 rfl (size32 (zeros_len 64))) rfl ⟨rfl, below_setRow hB (Nat.le_refl _) _⟩

set_option maxRecDepth 100000 in
set_option maxHeartbeats 4000000 in
theorem rstart_any (w : World) : Calls Tryd.prog 19 #[] w fun e w' => e = .returned (.agg (stc startS).toArray) ∧ Below w.heap.size w w' := by
  have z32 := zero32
  have b28 : ∀ W, (Instr.build 28 #[(0, .int .u32 1779033703), (1, .int .u32 3144134277), (2, .int .u32 1013904242), (3, .int .u32 2773480762), (4, .int .u32 1359893119), (5, .int .u32 2600822924), (6, .int .u32 528734635), (7, .int .u32 1541459225)]).run Tryd.prog W = .ok (.agg (v8c firstV)) W := fun W => by kernel_rfl
  have b32 := fun W => build32 W
  have hn : (w.alloc (.cells (stc zeroSt).toArray 32 (0, 0))).heap[w.heap.size]? = some (.cells (stc zeroSt).toArray 32 (0, 0)) := heap_alloc_new _ _
  have hB : Below w.heap.size w (w.alloc (.cells (stc zeroSt).toArray 32 (0, 0))) := (Below.refl _ _).alloc (Nat.le_refl _) _
  go_enter Tryd.func19, Tryd.ntmps19
  go_upto_region 1 with fail
  generalize World.alloc w _ = w1 at hn hB ⊢
  go_wp2_with (first
    | (refine wpList_store_row rfl 32 (.tmp 0) (.tmp 2) rfl w.heap.size rfl (stc startS).toArray rfl 32 _ hn rfl (size32 (zeros_len 64)) (one_stc _) ?_))
  exact bodyPost_ret (results_cell_row rfl _ _ w.heap.size 32 (stc startS).toArray (0, 0) _ rfl (setRow_heap _ _ _ _ _ _ hn) Tryd.underlying32 rfl (size32 (zeros_len 64))) rfl ⟨rfl, below_setRow hB (Nat.le_refl _) _⟩

end Go.Proofs.YtaafgakflmgpoaaDoor
