/- The walks: May of both sides, table. -/
import Derived.Test.YtilnibedblmoeaaW1
namespace Go.Proofs.Ytilnibedblmoeaa
open Go.RowKit

set_option maxHeartbeats 1000000 in
theorem may_any (m : Mc) (w : World) :
    Calls Try.prog 18 #[mval m] w fun e w' => e = .returned (.bool (mayS m)) ∧ Below w.heap.size w w' := by
  go_enter Try.func18, Try.ntmps18
  go_wp2
  all_goals
    go_ret
    refine ⟨ret_bool ?_, (Below.refl _ _).alloc (Nat.le_refl _) _⟩
  all_goals first | (simp_all [mayS, from_]; done) | (simp_all [mayS, from_]; omega)

set_option maxHeartbeats 1000000 in
theorem rmay_any (m : Mc) (w : World) :
    Calls Try.prog 24 #[mval m] w fun e w' => e = .returned (.bool (mayS m)) ∧ Below w.heap.size w w' := by
  go_enter Try.func24, Try.ntmps24
  go_wp2_with (go_at_call 28; refine (from_any _ _ _ _).mono ?_; rintro e w1 ⟨rfl, rfl⟩)
  all_goals
    go_ret
    refine ⟨ret_bool ?_, (Below.refl _ _).alloc (Nat.le_refl _) _⟩
  all_goals first | (simp_all [mayS]; done) | (simp_all [mayS]; omega) | (rw [Bool.eq_iff_iff]; simp_all [mayS])

end Go.Proofs.Ytilnibedblmoeaa
