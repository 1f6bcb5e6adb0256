/- The walk: Step, all. -/
import Derived.Test.YtlmanafplbddoaaW7f
namespace Go.Proofs.Ytlmanafplbddoaa
open Go.RowKit

theorem step_any (m : Mc) (i : In) (hm : OkM m) (w : World) : Calls Try.prog 24 #[mval m, ival i] w (GivesS w (stepS m i)) := by
  unfold stepS
  by_cases h : mayS m = false
  · rw [if_pos h]
    exact step_bad m hm i w h
  · rw [if_neg h]
    have h : mayS m = true := by simpa using h
    have hs := may_states h
    by_cases h1 : m.1 = 2 ∨ m.1 = 3
    · rw [if_pos h1]
      have hb : 0 ≤ m.2.1 ∧ m.2.1 ≤ 100000 := by have := (may_open h h1).2; omega
      refine step_look35 m hm i w h ?_ _ fun w' => open_any m i w' hb
      intro w' g hg
      rcases h1 with h1 | h1
      · rw [h1]; exact run_state hg 2 _ 0 rfl
      · rw [h1]; exact run_state hg 3 _ 1 rfl
    · rw [if_neg h1]
      by_cases h5 : m.1 = 5
      · rw [if_pos h5]
        refine step_look36 m hm i w h ?_ _ fun w' => completed_any m i w'
        intro w' g hg
        rw [h5]; exact run_state hg 5 _ 2 rfl
      · rw [if_neg h5]
        refine step_no m hm i w h ?_
        intro w' g hg
        have h7 : m.1 = 7 := by omega
        rw [h7]; exact run_state_no hg 7 rfl

end Go.Proofs.Ytlmanafplbddoaa
