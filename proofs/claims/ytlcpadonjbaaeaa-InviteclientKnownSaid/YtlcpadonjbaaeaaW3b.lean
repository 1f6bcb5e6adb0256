/- The walk: May of the reference. -/
import Derived.Test.YtlcpadonjbaaeaaW3
namespace Go.Proofs.Ytlcpadonjbaaeaa
open Go.RowKit

set_option maxRecDepth 100000 in
set_option maxHeartbeats 2000000 in
theorem rmay_any (m : Mc) (w : World) :
    Calls Try.prog 32 #[mval m] w fun e w' => e = .returned (.bool (mayS m)) ∧ Below w.heap.size w w' := by
  obtain ⟨s, n, c⟩ := m
  by_cases h1 : s = 1
  · subst h1
    have e : mayS (1, n, c) = (waitB n && decide (c = 0)) := rfl
    rw [e]
    have HW : Hid (waitB n = (decide (n = 500) || decide (n = 1000) || decide (n = 2000) || decide (n = 4000) || decide (n = 8000) || decide (n = 16000) || decide (n = 32000))) := rfl
    generalize waitB n = b at HW ⊢
    go_enter Try.func32, Try.ntmps32
    go_wp2
    go_rounds 8
    all_goals
      go_ret
      refine ⟨ret_bool ?_, (Below.refl _ _).alloc (Nat.le_refl _) _⟩
    all_goals (have h := HW.out; first | (simp_all; done) | (rw [Bool.eq_iff_iff]; simp_all))
  · go_enter Try.func32, Try.ntmps32
    go_wp2_with (go_at_call 47; refine (from_any _ _ _ _).mono ?_; rintro e w1 ⟨rfl, rfl⟩)
    all_goals
      go_ret
      refine ⟨ret_bool ?_, (Below.refl _ _).alloc (Nat.le_refl _) _⟩
    all_goals first | (simp_all [mayS]; done) | (simp_all [mayS]; omega) | (rw [Bool.eq_iff_iff]; simp_all [mayS])

end Go.Proofs.Ytlcpadonjbaaeaa
