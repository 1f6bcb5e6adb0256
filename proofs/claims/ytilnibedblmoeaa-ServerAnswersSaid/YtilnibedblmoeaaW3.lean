/- The walk: table. -/
import Derived.Test.YtilnibedblmoeaaW2
namespace Go.Proofs.Ytilnibedblmoeaa
open Go.RowKit

/-- The six cells of a row of the table. -/
def rcells (r : Row) : List Value := [.int .u8 r.1, .int .u8 r.2.1, .int .i64 r.2.2.1, .int .i64 r.2.2.2.1, .int .u8 r.2.2.2.2.1, .int .u8 r.2.2.2.2.2]
def tableC : Array Value := (rowsS.flatMap rcells).toArray
theorem tableC_one : ∀ v ∈ tableC.toList, v.oneCell' = true := by
  intro v hv
  obtain ⟨r, _, hr⟩ := List.mem_flatMap.1 (show v ∈ rowsS.flatMap rcells by simpa [tableC] using hv)
  simp only [rcells, List.mem_cons, List.not_mem_nil, or_false] at hr
  rcases hr with rfl | rfl | rfl | rfl | rfl | rfl <;> rfl
theorem size66 : (Try.prog.info? 66).map (·.size) = some tableC.size := by kernel_rfl

set_option maxRecDepth 100000 in
set_option maxHeartbeats 1000000 in
theorem table_any (w : World) :
    Calls Try.prog 27 #[] w fun e w' => e = .returned (.agg tableC) ∧ w.alloc (.cells tableC 66) = w' := by
  go_enter Try.func27, Try.ntmps27
  iterate 11 go_step
  refine wpList_run_pure (.agg (rcells (2, 4, 100, 199, 3, 1)).toArray) rfl (by kernel_rfl) ?_
  refine wpList_run_pure (.agg (rcells (2, 4, 200, 699, 5, 4)).toArray) rfl (by kernel_rfl) ?_
  refine wpList_run_pure (.agg (rcells (3, 4, 100, 199, 3, 1)).toArray) rfl (by kernel_rfl) ?_
  refine wpList_run_pure (.agg (rcells (3, 4, 200, 699, 5, 4)).toArray) rfl (by kernel_rfl) ?_
  refine wpList_run_pure (.agg (rcells (3, 1, 0, 0, 3, 1)).toArray) rfl (by kernel_rfl) ?_
  refine wpList_run_pure (.agg (rcells (5, 1, 0, 0, 5, 1)).toArray) rfl (by kernel_rfl) ?_
  refine wpList_run_pure (.agg (rcells (3, 6, 0, 0, 7, 6)).toArray) rfl (by kernel_rfl) ?_
  refine wpList_run_pure (.agg (rcells (5, 6, 0, 0, 7, 6)).toArray) rfl (by kernel_rfl) ?_
  refine wpList_run_pure (.agg tableC) rfl (by kernel_rfl) ?_
  refine wpList_store_row (cs := tableC) rfl 66 (.tmp 0) (.tmp 9) rfl w.heap.size (by kernel_rfl) (by kernel_rfl) 66 _ (heap_alloc_new w _) (by kernel_rfl) size66 tableC_one ?_
  rw [setRow_alloc]
  go_step
  go_step
  go_step
  go_step
  refine bodyPost_ret (v := .agg tableC) (results_cell_row rfl _ _ w.heap.size 66 tableC (0, 0) _ (by kernel_rfl) (heap_alloc_new w _) Try.underlying66 rfl size66) rfl ⟨rfl, rfl⟩

end Go.Proofs.Ytilnibedblmoeaa
