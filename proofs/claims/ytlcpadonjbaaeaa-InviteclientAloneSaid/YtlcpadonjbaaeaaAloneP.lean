/- The plain part: a machine to which nothing happens. -/
import Derived.Test.YtlcpadonjbaaeaaInv3
import Derived.Test.YtlcpadonjbaaeaaW11
namespace Go.Proofs.Ytlcpadonjbaaeaa

/-- The machine's intervals. -/
def wtA : List Int := [500, 1000, 2000, 4000, 8000, 16000, 32000]
/-- What has been put out behind the k-th repetition. -/
def logA : Nat → List (Int × Out)
  | 0 => [(0, (1, 0, 0, 0)), (0, (4, 0, 1, 500)), (0, (4, 0, 2, 32000))]
  | k + 1 => logA k ++ [(atL.getD (k + 1) 0, (1, 0, 0, 0)), (atL.getD (k + 1) 0, (4, 0, 1, againS (wtA.getD k 0)))]
/-- The machine behind the k-th repetition. -/
def simA (k : Nat) : Sim := mkS (1, wtA.getD k 0, 0) (atL.getD (k + 1) 0) 32000 (-1) (-1) (atL.getD k 0) (logA k)

theorem nat6 {P : Nat → Prop} (h0 : P 0) (h1 : P 1) (h2 : P 2) (h3 : P 3) (h4 : P 4) (h5 : P 5) : ∀ k, k < 6 → P k := by
  intro k hk
  rcases (show k = 0 ∨ k = 1 ∨ k = 2 ∨ k = 3 ∨ k = 4 ∨ k = 5 by omega) with rfl | rfl | rfl | rfl | rfl | rfl <;> assumption

theorem simA_fire : ∀ k, k < 6 → fireS (simA k) 1 = simA (k + 1) := by
  apply nat6 <;> rfl
theorem at_lo : ∀ k, k < 6 → atL.getD (k + 1) 0 ≤ 31500 ∧ 0 ≤ atL.getD (k + 1) 0 ∧ atL.getD k 0 ≤ atL.getD (k + 1) 0 := by
  apply nat6 <;> decide

theorem alone_run (n : Nat) (t : Int) : ∀ j, j ≤ 6 → atL.getD j 0 ≤ t → untilS (n + j) startS t = untilS n (simA j) t := by
  intro j
  induction j generalizing n with
  | zero => intro _ _; rfl
  | succ j ih =>
    intro hj ht
    have hl := at_lo j (by omega)
    rw [show n + (j + 1) = (n + 1) + j by omega, ih (n + 1) (by omega) (by omega), untilS_fire n _ t 1 ?_ (by omega), simA_fire j (by omega)]
    show firstS (dueC (atL.getD (j + 1) 0) 32000 (-1) (-1)) t 14 = 1
    rcases first_cases (atL.getD (j + 1) 0) 32000 (-1) (-1) t with ⟨h0, h1, -⟩ | ⟨h0, -⟩ | ⟨h0, h1, h2, h3, -⟩ | ⟨h0, h1, -⟩ | ⟨h0, h1, -⟩
    · omega
    · exact h0
    · omega
    · omega
    · omega

/-- Between two repetitions. -/
theorem alone_mid {t : Int} {j : Nat} (hj : j ≤ 6) (h1 : atL.getD j 0 ≤ t) (h2 : t < atL.getD (j + 1) 0) (h3 : t < 32000) : untilS 200 startS t = mkS (1, wtA.getD j 0, 0) (atL.getD (j + 1) 0) 32000 (-1) (-1) t (logA j) := by
  rw [show 200 = (200 - j) + j by omega, alone_run _ t j hj h1, untilS_stop]
  · show mkS _ _ _ _ _ (max (atL.getD j 0) t) _ = _
    rw [show max (atL.getD j 0) t = t by omega]
    rfl
  · show firstS (dueC (atL.getD (j + 1) 0) 32000 (-1) (-1)) t 14 < 0
    rcases first_cases (atL.getD (j + 1) 0) 32000 (-1) (-1) t with h0 | h0 | h0 | h0 | h0 <;> omega
/-- Behind the timeout. -/
theorem alone_end {t : Int} (h : 32000 ≤ t) : ∃ e, untilS 200 startS t = mkS (7, 0, 0) e (-1) (-1) (-1) t (logA 6 ++ [(32000, (5, 0, 0, 0)), (32000, (7, 0, 0, 0))]) := by
  have h6 : atL.getD 6 0 = 31500 := rfl
  rw [show 200 = (192 + 1 + 1) + 6 by omega, alone_run _ t 6 (by omega) (by omega), untilS_fire _ _ t 2 ?_ (by omega)]
  · rw [show fireS (simA 6) 2 = mkS (7, 0, 0) 63500 (-1) (-1) (-1) 32000 (logA 6 ++ [(32000, (5, 0, 0, 0)), (32000, (7, 0, 0, 0))]) from rfl]
    by_cases h35 : t < 63500
    · refine ⟨63500, ?_⟩
      rw [untilS_stop]
      · show mkS _ _ _ _ _ (max 32000 t) _ = _
        rw [show max 32000 t = t by omega]
        rfl
      · show firstS (dueC 63500 (-1) (-1) (-1)) t 14 < 0
        rcases first_cases 63500 (-1) (-1) (-1) t with h0 | h0 | h0 | h0 | h0 <;> omega
    · refine ⟨-1, ?_⟩
      rw [untilS_fire _ _ t 1 ?_ (by omega)]
      · rw [show fireS (mkS (7, 0, 0) 63500 (-1) (-1) (-1) 32000 (logA 6 ++ [(32000, (5, 0, 0, 0)), (32000, (7, 0, 0, 0))])) 1 = mkS (7, 0, 0) (-1) (-1) (-1) (-1) 63500 (logA 6 ++ [(32000, (5, 0, 0, 0)), (32000, (7, 0, 0, 0))]) from rfl, untilS_stop]
        · show mkS _ _ _ _ _ (max 63500 t) _ = _
          rw [show max 63500 t = t by omega]
          rfl
        · show firstS (dueC (-1) (-1) (-1) (-1)) t 14 < 0
          rcases first_cases (-1) (-1) (-1) (-1) t with h0 | h0 | h0 | h0 | h0 <;> omega
      · show firstS (dueC 63500 (-1) (-1) (-1)) t 14 = 1
        rcases first_cases 63500 (-1) (-1) (-1) t with h0 | h0 | h0 | h0 | h0 <;> omega
  · show firstS (dueC 63500 32000 (-1) (-1)) t 14 = 2
    rcases first_cases 63500 32000 (-1) (-1) t with h0 | h0 | h0 | h0 | h0 <;> omega

theorem nat7 {P : Nat → Prop} (h : ∀ k, k < 6 → P k) (h6 : P 6) : ∀ k, k ≤ 6 → P k := by
  intro k hk
  rcases (show k < 6 ∨ k = 6 by omega) with hk | rfl
  · exact h k hk
  · exact h6
theorem logA_times : ∀ k, k ≤ 6 → ∀ e ∈ logA k, e.1 ≤ atL.getD k 0 := by
  apply nat7
  · apply nat6 <;> decide
  · decide
theorem logA_send : ∀ k, k ≤ 6 → countS (logA k) 1 (atL.getD k 0) 0 0 = k + 1 ∧ countS (logA k) 3 (atL.getD k 0) 0 1000 = 0 ∧ countS (logA k) 5 (atL.getD k 0) 0 0 = 0 := by
  apply nat7
  · apply nat6 <;> decide
  · decide
theorem at_find {t : Int} (h0 : 0 ≤ t) (h1 : t < 32000) : ∃ j, j ≤ 6 ∧ atL.getD j 0 ≤ t ∧ t < atL.getD (j + 1) 0 := by
  by_cases c1 : t < 500
  · exact ⟨0, by omega, h0, c1⟩
  by_cases c2 : t < 1500
  · exact ⟨1, by omega, by simpa [atL] using c1, c2⟩
  by_cases c3 : t < 3500
  · exact ⟨2, by omega, by simpa [atL] using c2, c3⟩
  by_cases c4 : t < 7500
  · exact ⟨3, by omega, by simpa [atL] using c3, c4⟩
  by_cases c5 : t < 15500
  · exact ⟨4, by omega, by simpa [atL] using c4, c5⟩
  by_cases c6 : t < 31500
  · exact ⟨5, by omega, by simpa [atL] using c5, c6⟩
  · exact ⟨6, by omega, by simpa [atL] using c6, by show t < 63500; omega⟩

/-- What the law Alone asks, before the timeout. -/
theorem alone_before {t : Int} (h0 : 0 ≤ t) (h1 : t < 32000) :
    ((countS (untilS 200 startS t).log 1 t 0 0 : Nat) : Int) = copiesS t ∧ countS (untilS 200 startS t).log 3 t 0 1000 = 0 ∧ (untilS 200 startS t).m.1 = 1 ∧ countS (untilS 200 startS t).log 5 t 0 0 = 0 := by
  obtain ⟨j, hj, a1, a2⟩ := at_find h0 h1
  rw [alone_mid hj a1 a2 h1, mk_m, mk_log]
  have hl := logA_send j hj
  have ht := logA_times j hj
  have hc : copiesS t = ((j + 1 : Nat) : Int) := copies_at (by omega) (fun _ => a1) (.inl a2)
  rw [countS_later ht a1, countS_later ht a1, countS_later ht a1, hl.1, hl.2.1, hl.2.2, hc]
  exact ⟨rfl, rfl, rfl, rfl⟩
/-- .. and behind it. -/
theorem alone_behind {t : Int} (h1 : 32000 ≤ t) :
    ((countS (untilS 200 startS t).log 1 t 0 0 : Nat) : Int) = copiesS t ∧ countS (untilS 200 startS t).log 3 t 0 1000 = 0 ∧ (untilS 200 startS t).m = (7, 0, 0) ∧ countS (untilS 200 startS t).log 5 31999 0 0 = 0 ∧
      countS (untilS 200 startS t).log 5 32000 0 0 = 1 ∧ countS (untilS 200 startS t).log 7 32000 0 0 = 1 := by
  obtain ⟨e, he⟩ := alone_end h1
  rw [he, mk_m, mk_log]
  have hc : copiesS t = ((7 : Nat) : Int) := copies_at (by omega) (fun _ => by show (31500 : Int) ≤ t; omega) (.inr rfl)
  have ht : ∀ e ∈ logA 6 ++ [(32000, (5, 0, 0, 0)), (32000, (7, 0, 0, 0))], e.1 ≤ 32000 := by decide
  rw [countS_later ht h1, countS_later ht h1, hc]
  exact ⟨by decide, by decide, rfl, by decide, by decide, by decide⟩
theorem alone_inv {t : Int} (h0 : 0 ≤ t) : Inv (untilS 200 startS t) := (inv_start.until h0).1

end Go.Proofs.Ytlcpadonjbaaeaa
