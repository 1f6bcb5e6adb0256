/- The plain part: a client's machine to which nothing happens; and one that gets a provisional response. -/
import Derived.Test.YtlmanafplbddoaaInv3
import Derived.Test.YtlmanafplbddoaaW11
namespace Go.Proofs.Ytlmanafplbddoaa

/-- What has been put out behind the k-th repetition. -/
def logA : Nat → List (Int × Out)
  | 0 => [(0, (1, 0, 0, 0)), (0, (4, 0, 5, 500)), (0, (4, 0, 6, 32000))]
  | k + 1 => logA k ++ [(atL.getD (k + 1) 0, (1, 0, 0, 0)), (atL.getD (k + 1) 0, (4, 0, 5, wtL.getD (k + 1) 0))]
/-- The machine behind the k-th repetition. -/
def simA (k : Nat) : Sim := mkS (2, wtL.getD k 0, 0) (atL.getD (k + 1) 0) 32000 (-1) (atL.getD k 0) (logA k)

theorem nat10 {P : Nat → Prop} (h0 : P 0) (h1 : P 1) (h2 : P 2) (h3 : P 3) (h4 : P 4) (h5 : P 5) (h6 : P 6) (h7 : P 7) (h8 : P 8) (h9 : P 9) : ∀ k, k < 10 → P k := by
  intro k hk
  rcases (show k = 0 ∨ k = 1 ∨ k = 2 ∨ k = 3 ∨ k = 4 ∨ k = 5 ∨ k = 6 ∨ k = 7 ∨ k = 8 ∨ k = 9 by omega) with rfl | rfl | rfl | rfl | rfl | rfl | rfl | rfl | rfl | rfl <;> assumption

theorem simA_fire : ∀ k, k < 10 → fireS (simA k) 5 = simA (k + 1) := by
  apply nat10 <;> rfl
theorem at_lo : ∀ k, k < 10 → atL.getD (k + 1) 0 ≤ 31500 ∧ 0 ≤ atL.getD (k + 1) 0 ∧ atL.getD k 0 ≤ atL.getD (k + 1) 0 := by
  apply nat10 <;> decide

theorem alone_run (n : Nat) (t : Int) : ∀ j, j ≤ 10 → atL.getD j 0 ≤ t → untilS (n + j) startS t = untilS n (simA j) t := by
  intro j
  induction j generalizing n with
  | zero => intro _ _; rfl
  | succ j ih =>
    intro hj ht
    have hl := at_lo j (by omega)
    rw [show n + (j + 1) = (n + 1) + j by omega, ih (n + 1) (by omega) (by omega), untilS_fire n _ t 5 ?_ (by omega), simA_fire j (by omega)]
    show firstS (dueC (atL.getD (j + 1) 0) 32000 (-1)) t 14 = 5
    rcases first_cases (atL.getD (j + 1) 0) 32000 (-1) t with ⟨h0, h1, -⟩ | ⟨h0, -⟩ | ⟨h0, h1, h2, h3, -⟩ | ⟨h0, h1, -⟩
    · omega
    · exact h0
    · omega
    · omega

/-- Between two repetitions. -/
theorem alone_mid {t : Int} {j : Nat} (hj : j ≤ 10) (h1 : atL.getD j 0 ≤ t) (h2 : t < atL.getD (j + 1) 0) (h3 : t < 32000) : untilS 200 startS t = mkS (2, wtL.getD j 0, 0) (atL.getD (j + 1) 0) 32000 (-1) t (logA j) := by
  rw [show 200 = (200 - j) + j by omega, alone_run _ t j hj h1, untilS_stop]
  · show mkS _ _ _ _ (max (atL.getD j 0) t) _ = _
    rw [show max (atL.getD j 0) t = t by omega]
    rfl
  · show firstS (dueC (atL.getD (j + 1) 0) 32000 (-1)) t 14 < 0
    rcases first_cases (atL.getD (j + 1) 0) 32000 (-1) t with h0 | h0 | h0 | h0 <;> omega
/-- Behind the timeout. -/
theorem alone_end {t : Int} (h : 32000 ≤ t) : ∃ e, untilS 200 startS t = mkS (7, 0, 0) e (-1) (-1) t (logA 10 ++ [(32000, (5, 0, 0, 0)), (32000, (7, 0, 0, 0))]) := by
  have h10 : atL.getD 10 0 = 31500 := rfl
  have h11 : atL.getD 11 0 = 35500 := rfl
  rw [show 200 = (188 + 1 + 1) + 10 by omega, alone_run _ t 10 (by omega) (by omega), untilS_fire _ _ t 6 ?_ (by omega)]
  · rw [show fireS (simA 10) 6 = mkS (7, 0, 0) 35500 (-1) (-1) 32000 (logA 10 ++ [(32000, (5, 0, 0, 0)), (32000, (7, 0, 0, 0))]) from rfl]
    by_cases h35 : t < 35500
    · refine ⟨35500, ?_⟩
      rw [untilS_stop]
      · show mkS _ _ _ _ (max 32000 t) _ = _
        rw [show max 32000 t = t by omega]
        rfl
      · show firstS (dueC 35500 (-1) (-1)) t 14 < 0
        rcases first_cases 35500 (-1) (-1) t with h0 | h0 | h0 | h0 <;> omega
    · refine ⟨-1, ?_⟩
      rw [untilS_fire _ _ t 5 ?_ (by omega)]
      · rw [show fireS (mkS (7, 0, 0) 35500 (-1) (-1) 32000 (logA 10 ++ [(32000, (5, 0, 0, 0)), (32000, (7, 0, 0, 0))])) 5 = mkS (7, 0, 0) (-1) (-1) (-1) 35500 (logA 10 ++ [(32000, (5, 0, 0, 0)), (32000, (7, 0, 0, 0))]) from rfl, untilS_stop]
        · show mkS _ _ _ _ (max 35500 t) _ = _
          rw [show max 35500 t = t by omega]
          rfl
        · show firstS (dueC (-1) (-1) (-1)) t 14 < 0
          rcases first_cases (-1) (-1) (-1) t with h0 | h0 | h0 | h0 <;> omega
      · show firstS (dueC 35500 (-1) (-1)) t 14 = 5
        rcases first_cases 35500 (-1) (-1) t with h0 | h0 | h0 | h0 <;> omega
  · show firstS (dueC 35500 32000 (-1)) t 14 = 6
    rcases first_cases 35500 32000 (-1) t with h0 | h0 | h0 | h0 <;> omega

theorem nat11 {P : Nat → Prop} (h : ∀ k, k < 10 → P k) (h10 : P 10) : ∀ k, k ≤ 10 → P k := by
  intro k hk
  rcases (show k < 10 ∨ k = 10 by omega) with hk | rfl
  · exact h k hk
  · exact h10
theorem logA_times : ∀ k, k ≤ 10 → ∀ e ∈ logA k, e.1 ≤ atL.getD k 0 := by
  apply nat11
  · apply nat10 <;> decide
  · decide
theorem logA_send : ∀ k, k ≤ 10 → countS (logA k) 1 (atL.getD k 0) 0 0 = k + 1 ∧ countS (logA k) 3 (atL.getD k 0) 0 1000 = 0 ∧ countS (logA k) 5 (atL.getD k 0) 0 0 = 0 := by
  apply nat11
  · apply nat10 <;> decide
  · decide
theorem at_find {t : Int} (h0 : 0 ≤ t) (h1 : t < 32000) : ∃ j, j ≤ 10 ∧ atL.getD j 0 ≤ t ∧ t < atL.getD (j + 1) 0 := by
  by_cases c1 : t < 500
  · exact ⟨0, by omega, h0, c1⟩
  by_cases c2 : t < 1500
  · exact ⟨1, by omega, by simpa [atL] using c1, c2⟩
  by_cases c3 : t < 3500
  · exact ⟨2, by omega, by simpa [atL] using c2, c3⟩
  by_cases c4 : t < 7500
  · exact ⟨3, by omega, by simpa [atL] using c3, c4⟩
  by_cases c5 : t < 11500
  · exact ⟨4, by omega, by simpa [atL] using c4, c5⟩
  by_cases c6 : t < 15500
  · exact ⟨5, by omega, by simpa [atL] using c5, c6⟩
  by_cases c7 : t < 19500
  · exact ⟨6, by omega, by simpa [atL] using c6, c7⟩
  by_cases c8 : t < 23500
  · exact ⟨7, by omega, by simpa [atL] using c7, c8⟩
  by_cases c9 : t < 27500
  · exact ⟨8, by omega, by simpa [atL] using c8, c9⟩
  by_cases c10 : t < 31500
  · exact ⟨9, by omega, by simpa [atL] using c9, c10⟩
  · exact ⟨10, by omega, by simpa [atL] using c10, by show t < 35500; omega⟩

/-- What the law Alone asks, before the timeout. -/
theorem alone_before {t : Int} (h0 : 0 ≤ t) (h1 : t < 32000) :
    ((countS (untilS 200 startS t).log 1 t 0 0 : Nat) : Int) = copiesS t ∧ countS (untilS 200 startS t).log 3 t 0 1000 = 0 ∧ (untilS 200 startS t).m.1 = 2 ∧ countS (untilS 200 startS t).log 5 t 0 0 = 0 := by
  obtain ⟨j, hj, a1, a2⟩ := at_find h0 h1
  rw [alone_mid hj a1 a2 h1, mk_m, mk_log]
  have hl := logA_send j hj
  have ht := logA_times j hj
  have hc : copiesS t = ((j + 1 : Nat) : Int) := copies_at (by omega) (fun _ => a1) (.inl a2)
  rw [countS_later ht a1, countS_later ht a1, countS_later ht a1, hl.1, hl.2.1, hl.2.2, hc]
  exact ⟨rfl, rfl, rfl, rfl⟩
/-- .. and behind it. -/
theorem alone_behind {t : Int} (h1 : 32000 ≤ t) :
    ((countS (untilS 200 startS t).log 1 t 0 0 : Nat) : Int) = copiesS t ∧ countS (untilS 200 startS t).log 3 t 0 1000 = 0 ∧ (untilS 200 startS t).m = (7, 0, 0) ∧ countS (untilS 200 startS t).log 5 31999 0 0 = 0 ∧
      countS (untilS 200 startS t).log 5 32000 0 0 = 1 ∧ countS (untilS 200 startS t).log 7 32000 0 0 = 1 := by
  obtain ⟨e, he⟩ := alone_end h1
  rw [he, mk_m, mk_log]
  have hc : copiesS t = ((11 : Nat) : Int) := copies_at (by omega) (fun _ => by show (31500 : Int) ≤ t; omega) (.inr rfl)
  have ht : ∀ e ∈ logA 10 ++ [(32000, (5, 0, 0, 0)), (32000, (7, 0, 0, 0))], e.1 ≤ 32000 := by decide
  rw [countS_later ht h1, countS_later ht h1, hc]
  exact ⟨by decide, by decide, rfl, by decide, by decide, by decide⟩
theorem alone_inv {t : Int} (h0 : 0 ≤ t) : Inv (untilS 200 startS t) := (inv_start.until h0).1

end Go.Proofs.Ytlmanafplbddoaa
