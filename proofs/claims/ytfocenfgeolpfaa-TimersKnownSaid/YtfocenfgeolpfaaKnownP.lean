/- The plain part of TimersKnown: lists of many equal timers. -/
import Derived.Test.YtfocenfgeolpfaaPlain
namespace Go.Proofs.Ytfocenfgeolpfaa

def fullT (n : Nat) : List Tm := List.replicate n (0, 0, 0)
theorem fullT_len (n : Nat) : (fullT n).length = n := by simp [fullT]
theorem valid_full {n : Nat} (h : n ≤ 1000) : validT (fullT n) = true := by
  rw [validT_iff]
  refine ⟨⟨fun t ht => ?_, ?_⟩, by rw [fullT_len]; exact h⟩
  · rw [(List.mem_replicate.1 ht).2]; decide
  · unfold fullT
    rw [List.pairwise_replicate]
    exact .inr (by decide)
theorem valid_more : validT (fullT 1001) = false := by
  cases h : validT (fullT 1001) with
  | false => rfl
  | true => have := valid_len h; rw [fullT_len] at this; omega
theorem cancel_full {n : Nat} (h : n ≤ 1000) {o k : Int} (hok : ¬ (0 = o ∧ 0 = k)) : cancelT o k (fullT n) = fullT n := by
  unfold cancelT withoutT
  rw [if_pos (valid_full h)]
  unfold keepT
  rw [List.filter_eq_self]
  intro t ht
  rw [(List.mem_replicate.1 ht).2]
  simp only [Bool.not_eq_true', Bool.and_eq_false_imp, beq_iff_eq, beq_eq_false_iff_ne]
  intro h1 h2
  exact hok ⟨h1, h2⟩
theorem addfull_no {t : Tm} (ht : firesT t = true) : addT (fullT 1000) t = ([], 10) := by
  unfold addT
  rw [if_neg (by simp [valid_full, ht]), if_pos (fullT_len 1000)]
theorem restartfull_no : restartT (fullT 1000) (1, 0, 1) = ([], 10) := by
  unfold restartT
  rw [if_neg (by simp [valid_full, firesT]), cancel_full (by omega) (by decide)]
  exact addfull_no (by decide)
theorem restart_999 : ∃ l, restartT (fullT 999) (1099511627776, 1, 0) = (l, 0) ∧ l.length = 1000 := by
  refine ⟨insT (fullT 999) (1099511627776, 1, 0), ?_, by rw [insT_len, fullT_len]⟩
  unfold restartT
  rw [if_neg (by simp [valid_full, firesT]), cancel_full (by omega) (by decide)]
  exact addT_ok (valid_full (by omega)) (by decide) (by rw [fullT_len]; omega)
theorem add_late : addT [] (1099511627777, 0, 0) = ([], 2) := by decide

end Go.Proofs.Ytfocenfgeolpfaa
