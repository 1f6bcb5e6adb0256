/- The walks: May of both sides. -/
import Derived.Test.YtlmanafplbddoaaW2
import Derived.Test.YtlmanafplbddoaaStepOk
namespace Go.Proofs.Ytlmanafplbddoaa
open Go.RowKit

theorem tdiv_neg {x : Int} (h : x < 0) : x.tdiv 500 ≤ 0 := by
  have h2 : x.tdiv 500 = -((-x) / 500) := by
    have := Int.neg_tdiv (-x) 500
    rw [Int.neg_neg] at this
    rw [this, Int.tdiv_eq_ediv_of_nonneg (by omega)]
  omega

theorem and_1 : bits BinOp.and IntKind.i64 1 0 = 0 := by kernel_rfl
theorem and_2 : bits BinOp.and IntKind.i64 2 1 = 0 := by kernel_rfl
theorem and_3 : bits BinOp.and IntKind.i64 3 2 = 2 := by kernel_rfl
theorem and_4 : bits BinOp.and IntKind.i64 4 3 = 0 := by kernel_rfl
theorem and_5 : bits BinOp.and IntKind.i64 5 4 = 4 := by kernel_rfl
theorem and_6 : bits BinOp.and IntKind.i64 6 5 = 4 := by kernel_rfl
theorem and_7 : bits BinOp.and IntKind.i64 7 6 = 6 := by kernel_rfl
theorem and_8 : bits BinOp.and IntKind.i64 8 7 = 0 := by kernel_rfl

set_option maxRecDepth 100000 in
set_option maxHeartbeats 1000000 in
theorem may_lit (s n c : Int) (w : World) (h : n = 500 ∨ n = 1000 ∨ n = 1500 ∨ n = 2000 ∨ n = 2500 ∨ n = 3000 ∨ n = 3500 ∨ n = 4000) :
    Calls Try.prog 14 #[mval (s, n, c)] w fun e w' => e = .returned (.bool (mayS (s, n, c))) ∧ Below w.heap.size w w' := by
  have a1 := and_1
  have a2 := and_2
  have a3 := and_3
  have a4 := and_4
  have a5 := and_5
  have a6 := and_6
  have a7 := and_7
  have a8 := and_8
  rcases h with rfl | rfl | rfl | rfl | rfl | rfl | rfl | rfl
  all_goals
    go_enter Try.func14, Try.ntmps14
    go_wp2
    all_goals
      go_ret
      refine ⟨ret_bool ?_, (Below.refl _ _).alloc (Nat.le_refl _) _⟩
    all_goals first | (simp_all [mayS, from_, shortB]; done) | (simp_all [mayS, from_, shortB]; omega)

set_option maxRecDepth 100000 in
set_option maxHeartbeats 1000000 in
theorem may_any (m : Mc) (hm : OkM m) (w : World) :
    Calls Try.prog 14 #[mval m] w fun e w' => e = .returned (.bool (mayS m)) ∧ Below w.heap.size w w' := by
  obtain ⟨s, n, c⟩ := m
  have hm : -9223372036854775808 ≤ n := hm
  by_cases h : n = 500 ∨ n = 1000 ∨ n = 1500 ∨ n = 2000 ∨ n = 2500 ∨ n = 3000 ∨ n = 3500 ∨ n = 4000
  · exact may_lit s n c w h
  · have hS : shortB n = false := by simp [shortB]; omega
    have HS : Hid (shortB n = false) := hS
    clear hS
    rcases (show n < 0 ∨ (0 ≤ n ∧ ¬ n % 500 = 0) ∨ (0 ≤ n ∧ n % 500 = 0 ∧ n / 500 ≤ 0) ∨ (0 ≤ n ∧ n % 500 = 0 ∧ 1 ≤ n / 500 ∧ 4000 < n) by omega) with h1 | ⟨h1, h2⟩ | ⟨h1, h2, h3⟩ | ⟨h1, h2, h3, h4⟩
    · clear h
      have ht := tdiv_neg h1
      go_enter Try.func14, Try.ntmps14
      go_wp2
      all_goals
        go_ret
        refine ⟨ret_bool ?_, (Below.refl _ _).alloc (Nat.le_refl _) _⟩
      all_goals (have hs := HS.out; first | (simp_all [mayS, from_]; done) | (simp_all [mayS, from_]; omega) | (rw [Bool.eq_iff_iff]; simp_all [mayS, from_]; omega))
    all_goals
      clear h
      go_enter Try.func14, Try.ntmps14
      go_wp2
      all_goals
        go_ret
        refine ⟨ret_bool ?_, (Below.refl _ _).alloc (Nat.le_refl _) _⟩
      all_goals (have hs := HS.out; first | (simp_all [mayS, from_]; done) | (simp_all [mayS, from_]; omega) | (rw [Bool.eq_iff_iff]; simp_all [mayS, from_]; omega))

end Go.Proofs.Ytlmanafplbddoaa
