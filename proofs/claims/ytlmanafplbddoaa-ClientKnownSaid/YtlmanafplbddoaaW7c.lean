/- The walk: states. -/
import Derived.Test.YtlmanafplbddoaaW7b
import Derived.MapFrom
namespace Go.Proofs.Ytlmanafplbddoaa
open Go.RowKit

theorem map68 : Try.prog.underlying 68 = some (.map 24 66) := by kernel_rfl
theorem key24 : Try.prog.underlying 24 = some (.int .u8) := by kernel_rfl
theorem set_last {α : Type} (a : Array α) (x y : α) : (a.push x).setIfInBounds a.size y = a.push y := by
  apply Array.ext_getElem?
  intro i
  rw [Array.getElem?_setIfInBounds, Array.getElem?_push, Array.getElem?_push]
  by_cases hi : a.size = i
  · subst hi; simp
  · rw [if_neg hi, if_neg (Ne.symm hi), if_neg (Ne.symm hi)]
/-- A new entry in the map that was made last. -/
theorem run_insert_new {w : World} {es : Array MapEntry} {c : Nat} (k : Int) (v : Value) (hk : MapKept.IsKey (.int .u8) (.int .u8 k)) (h1 : Instr.findNow (.int .u8) (.int .u8 k) es.toList 0 = some none) :
    (Instr.mapUpdate 68 (.map (some w.heap.size)) (.int .u8 k) v).run Try.prog (w.alloc (.map es c)) = .ok () (w.alloc (.map (es.push { key := .int .u8 k, val := v, born := c }) (c + 1))) := by
  have hb : (w.alloc (.map es c)).heap[w.heap.size]? = some (.map es c) := heap_alloc_new w _
  simp [Instr.mapUpdate, run_underlying map68, MapKept.run_getObj_map hb, MapKept.run_checkKey key24 hk, MapKept.run_findKey key24 h1, MapKept.run_setObj_map _ hb, Result.andThen]
  unfold World.alloc
  congr 1
  exact set_last _ _ _

set_option maxRecDepth 100000 in
set_option maxHeartbeats 1000000 in
theorem states_any (w : World) : Calls Try.prog 31 #[] w fun e w' => e = .returned (.map (some w.heap.size)) ∧ w.alloc (.map #[{ key := .int .u8 2, val := .agg #[.func (.func 35) #[] #[]], born := 0 }, { key := .int .u8 3, val := .agg #[.func (.func 35) #[] #[]], born := 1 }, { key := .int .u8 5, val := .agg #[.func (.func 36) #[] #[]], born := 2 }] 3) = w' := by
  have hmm := @run_makeMap Try.prog
  go_enter Try.func31, Try.ntmps31
  have i1 := @run_insert_new w #[] 0 2 (.agg #[.func (.func 35) #[] #[]]) rfl rfl
  have i2 := @run_insert_new w #[{ key := .int .u8 2, val := .agg #[.func (.func 35) #[] #[]], born := 0 }] 1 3 (.agg #[.func (.func 35) #[] #[]]) rfl rfl
  have i3 := @run_insert_new w #[{ key := .int .u8 2, val := .agg #[.func (.func 35) #[] #[]], born := 0 }, { key := .int .u8 3, val := .agg #[.func (.func 35) #[] #[]], born := 1 }] 2 5 (.agg #[.func (.func 36) #[] #[]]) rfl rfl
  go_wp2_with fail
  go_ret
  exact ⟨rfl, rfl⟩

end Go.Proofs.Ytlmanafplbddoaa
