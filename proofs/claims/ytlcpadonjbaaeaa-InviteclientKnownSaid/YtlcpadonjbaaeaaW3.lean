/- The walks: May of both sides. -/
import Derived.Test.YtlcpadonjbaaeaaW2
import Derived.Test.YtlcpadonjbaaeaaStepOk
namespace Go.Proofs.Ytlcpadonjbaaeaa
open Go.RowKit

theorem tdiv_neg {x : Int} (h : x < 0) : x.tdiv 500 ≤ 0 := by
  have h2 : x.tdiv 500 = -((-x) / 500) := by
    have := Int.neg_tdiv (-x) 500
    rw [Int.neg_neg] at this
    rw [this, Int.tdiv_eq_ediv_of_nonneg (by omega)]
  omega
theorem and_wait {k : Int} (h0 : 1 ≤ k) (h1 : k ≤ 64) : (bits BinOp.and IntKind.i64 k (k - 1) == 0) = waitB (500 * k) := by
  have h : ∀ x : Fin 65, (1 : Int) ≤ ((x.val : Nat) : Int) → (bits BinOp.and IntKind.i64 ((x.val : Nat) : Int) (((x.val : Nat) : Int) - 1) == 0) = waitB (500 * ((x.val : Nat) : Int)) := by decide +kernel
  obtain ⟨n, rfl⟩ : ∃ n : Nat, k = (n : Int) := ⟨k.toNat, by omega⟩
  exact h ⟨n, by omega⟩ h0

set_option maxRecDepth 100000 in
set_option maxHeartbeats 1000000 in
theorem may_one (k c : Int) (w : World) (h0 : 1 ≤ k) (h1 : k ≤ 64) :
    Calls Try.prog 18 #[mval (1, 500 * k, c)] w fun e w' => e = .returned (.bool (waitB (500 * k) && decide (c = 0))) ∧ Below w.heap.size w w' := by
  have ha := and_wait h0 h1
  have e1 : (500 * k).tdiv 500 = k := by rw [Int.tdiv_eq_ediv_of_nonneg (by omega)]; omega
  have e2 : (500 * k).tmod 500 = 0 := by rw [Int.tmod_eq_emod_of_nonneg (by omega)]; omega
  have e3 : IntKind.i64.wrap (k - 1) = k - 1 := IntWalk.i64_in _ (by omega)
  have e4 : IntKind.i64.wrap k = k := IntWalk.i64_in _ (by omega)
  have p0 : 0 < k := by omega
  have p1 : 500 * k ≤ 32000 := by omega
  generalize waitB (500 * k) = b at ha ⊢
  have HA : Hid _ := ha
  clear ha
  by_cases hc : c = 0
  · subst hc
    go_enter Try.func18, Try.ntmps18
    go_wp2
    all_goals
      go_ret
      refine ⟨ret_bool ?_, (Below.refl _ _).alloc (Nat.le_refl _) _⟩
      have h := HA.out
      simp_all
  · go_enter Try.func18, Try.ntmps18
    go_wp2
    all_goals
      go_ret
      refine ⟨ret_bool ?_, (Below.refl _ _).alloc (Nat.le_refl _) _⟩
      simp_all

set_option maxRecDepth 100000 in
set_option maxHeartbeats 1000000 in
theorem may_bad (n c : Int) (w : World) (h : (n < 0 ∧ -9223372036854775808 ≤ n) ∨ (0 ≤ n ∧ ¬ n % 500 = 0) ∨ n = 0 ∨ 32000 < n) :
    Calls Try.prog 18 #[mval (1, n, c)] w fun e w' => e = .returned (.bool false) ∧ Below w.heap.size w w' := by
  rcases (show (n < 0 ∧ -9223372036854775808 ≤ n) ∨ (0 ≤ n ∧ ¬ n % 500 = 0) ∨ n = 0 ∨ (32000 < n ∧ n % 500 = 0 ∧ 1 ≤ n / 500) by omega) with ⟨h1, h2⟩ | ⟨h1, h2⟩ | rfl | ⟨h1, h2, h3⟩
  · have ht := tdiv_neg h1
    clear h
    go_enter Try.func18, Try.ntmps18
    go_wp2
    all_goals
      go_ret
      refine ⟨ret_bool ?_, (Below.refl _ _).alloc (Nat.le_refl _) _⟩
    all_goals first | (simp_all; done) | (simp_all; omega)
  all_goals
    clear h
    go_enter Try.func18, Try.ntmps18
    go_wp2
    all_goals
      go_ret
      refine ⟨ret_bool ?_, (Below.refl _ _).alloc (Nat.le_refl _) _⟩
    all_goals first | (simp_all; done) | (simp_all; omega)

theorem class_from (c : Int) : (classS c = 2 ↔ from_ c 200 299 = true) ∧ (classS c = 3 ↔ from_ c 300 699 = true) ∧ (1 < classS c ↔ from_ c 200 699 = true) := by
  have f : ∀ a b : Int, (from_ c a b = true) = (a ≤ c ∧ c ≤ b) := fun a b => by simp [from_]
  rw [f, f, f]
  unfold classS
  repeat' split
  all_goals omega

set_option maxRecDepth 100000 in
set_option maxHeartbeats 1000000 in
theorem may_other (s n c : Int) (w : World) (hs : ¬ s = 1) :
    Calls Try.prog 18 #[mval (s, n, c)] w fun e w' => e = .returned (.bool (mayS (s, n, c))) ∧ Below w.heap.size w w' := by
  have hcl := class_from c
  have HC : Hid _ := hcl
  clear hcl
  go_enter Try.func18, Try.ntmps18
  go_wp2_with (go_at_call 29; refine (class_any _ _).mono ?_; rintro e w1 ⟨rfl, rfl⟩)
  all_goals
    go_ret
    refine ⟨ret_bool ?_, (Below.refl _ _).alloc (Nat.le_refl _) _⟩
  all_goals (have h := HC.out; first | (simp_all [mayS]; done) | (rw [Bool.eq_iff_iff]; simp_all [mayS]; done) | (rw [Bool.eq_iff_iff]; simp_all [mayS]; omega))

theorem may_any (m : Mc) (hm : OkM m) (w : World) :
    Calls Try.prog 18 #[mval m] w fun e w' => e = .returned (.bool (mayS m)) ∧ Below w.heap.size w w' := by
  obtain ⟨s, n, c⟩ := m
  have hm : -9223372036854775808 ≤ n := hm
  by_cases h1 : s = 1
  · subst h1
    have e : mayS (1, n, c) = (waitB n && decide (c = 0)) := rfl
    rw [e]
    by_cases hb : (n < 0 ∧ -9223372036854775808 ≤ n) ∨ (0 ≤ n ∧ ¬ n % 500 = 0) ∨ n = 0 ∨ 32000 < n
    · have : waitB n = false := by simp [waitB]; omega
      rw [this, Bool.false_and]
      exact may_bad n c w hb
    · obtain ⟨k, rfl⟩ : ∃ k, n = 500 * k := ⟨n / 500, by omega⟩
      exact may_one k c w (by omega) (by omega)
  · exact may_other s n c w h1

end Go.Proofs.Ytlcpadonjbaaeaa
