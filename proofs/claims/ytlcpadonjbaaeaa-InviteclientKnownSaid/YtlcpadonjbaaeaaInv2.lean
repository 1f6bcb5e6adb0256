/- The plain part: what holds of a machine with its timers, whatever happens. -/
import Derived.Test.YtlcpadonjbaaeaaInv
import Derived.Test.YtlcpadonjbaaeaaPlayS
namespace Go.Proofs.Ytlcpadonjbaaeaa

/-- Does an output bring the user a final response? -/
def finB (e : Int × Out) : Bool := decide (e.2.1 = 3) && decide (200 ≤ e.2.2.1)
/-- No provisional response goes to the user behind a final one. -/
def OkScan (log : List (Int × Out)) : Prop := ∀ j e, log[j]? = some e → e.2.1 = 3 → e.2.2.1 < 200 → (log.take j).any finB = false
theorem OkScan.snoc {log : List (Int × Out)} (h : OkScan log) (e : Int × Out) (he : e.2.1 = 3 → e.2.2.1 < 200 → log.any finB = false) : OkScan (log ++ [e]) := by
  intro j x hx hk hc
  rcases Nat.lt_or_ge j log.length with hj | hj
  · rw [List.getElem?_append_left hj] at hx
    rw [List.take_append_of_le_length (by omega)]
    exact h j x hx hk hc
  · rw [List.getElem?_append_right hj] at hx
    have : j - log.length = 0 := by
      rcases Nat.eq_zero_or_pos (j - log.length) with h0 | h0
      · exact h0
      · rw [List.getElem?_eq_none (by simp; omega)] at hx; cases hx
    rw [this] at hx
    simp at hx
    subst hx
    rw [show j = log.length by omega, List.take_left']
    · exact he hk hc
    · rfl
theorem OkScan.more {log : List (Int × Out)} (h : OkScan log) (l : List (Int × Out)) (hl : ∀ e ∈ l, e.2.1 = 3 → 200 ≤ e.2.2.1) : OkScan (log ++ l) := by
  induction l generalizing log with
  | nil => simpa using h
  | cons e l ih =>
    have := ih (h.snoc e (fun x y => absurd (hl e (by simp) x) (by omega))) (fun x hx => hl x (by simp [hx]))
    simpa using this

/-- What the numbers of outputs are in a state: rejecting, accepting, all responses, timeouts, acknowledgements. -/
def Cnt (s : Int) (R A G T K : Nat) : Prop :=
  R ≤ 1 ∧ (0 < R → A = 0 ∧ 0 < K) ∧ (0 < T → G = 0) ∧ (s = 1 → R = 0 ∧ A = 0 ∧ G = 0 ∧ T = 0) ∧ (s = 3 → R = 0 ∧ A = 0 ∧ T = 0) ∧ (s = 4 → R = 0 ∧ T = 0) ∧ (s = 5 → A = 0 ∧ T = 0 ∧ R = 1)
def CntL (s : Int) (log : List (Int × Out)) (t : Int) : Prop := Cnt s (countS log 3 t 300 699) (countS log 3 t 200 299) (countS log 3 t 0 1000) (countS log 5 t 0 1000) (countS log 2 t 300 699)
theorem CntL.later {s : Int} {log : List (Int × Out)} {t t' : Int} (h : CntL s log t) (hl : ∀ e ∈ log, e.1 ≤ t) (ht : t ≤ t') : CntL s log t' := by
  unfold CntL at *
  rw [countS_later hl ht, countS_later hl ht, countS_later hl ht, countS_later hl ht, countS_later hl ht]
  exact h

/-- What always holds. -/
structure InvS (m : Mc) (a b d q now : Int) (log : List (Int × Out)) : Prop where
  may : mayS m = true
  now0 : 0 ≤ now
  times : ∀ x ∈ log, x.1 ≤ now
  alo : 0 ≤ a → now ≤ a
  blo : 0 ≤ b → now ≤ b
  dlo : 0 ≤ d → now ≤ d
  qlo : 0 ≤ q → now ≤ q
  bds : -1 ≤ a ∧ -1 ≤ b ∧ -1 ≤ d ∧ -1 ≤ q
  scan : OkScan log
  cnt : CntL m.1 log now
  open_ : m.1 = 1 ∨ m.1 = 3 → log.any finB = false
  s1 : m.1 = 1 → b = 32000 ∧ 0 ≤ a ∧ a ≤ 64000 ∧ d < 0 ∧ q < 0
  s4 : m.1 = 4 → 0 ≤ q ∧ q ≤ now + 32000
  s5 : m.1 = 5 → 0 ≤ d ∧ d ≤ now + 32000
  run : m.1 ≠ 7 → ∀ x ∈ log, x.2.1 ≠ 7
  over : m.1 = 7 → ∃ l T, log = l ++ [(T, (7, 0, 0, 0))] ∧ ∀ x ∈ l, x.2.1 ≠ 7
def Inv (s : Sim) : Prop := ∃ m a b d q now log, s = mkS m a b d q now log ∧ InvS m a b d q now log

theorem inv_start : Inv startS := by
  refine ⟨_, _, _, _, _, _, _, startS_eq, { may := rfl, now0 := by omega, times := by simp, alo := by omega, blo := by omega, dlo := by omega, qlo := by omega, bds := by omega, scan := ?_, cnt := by unfold CntL Cnt; decide, open_ := fun _ => by decide, s1 := fun _ => by omega, s4 := by simp, s5 := by simp, run := fun _ => by simp, over := by simp }⟩
  have h0 : OkScan [] := fun j e h => by simp at h
  have := h0.more [(0, (1, 0, 0, 0)), (0, (4, 0, 1, 500)), (0, (4, 0, 2, 32000))] (by simp)
  simpa using this

theorem times_snoc {log : List (Int × Out)} {now : Int} (h : ∀ x ∈ log, x.1 ≤ now) (l : List Out) : ∀ x ∈ log ++ l.map (fun o => (now, o)), x.1 ≤ now := by
  intro x hx
  rcases List.mem_append.1 hx with hx | hx
  · exact h x hx
  · obtain ⟨o, _, rfl⟩ := List.mem_map.1 hx
    exact Int.le_refl _
theorem count7 {log : List (Int × Out)} (h : ∀ x ∈ log, x.2.1 ≠ 7) (t lo hi : Int) : countS log 7 t lo hi = 0 := by
  unfold countS
  rw [List.filter_eq_nil_iff.2]
  · rfl
  · intro x hx
    simp [hitS, h x hx]
theorem run_snoc {log l : List (Int × Out)} (h : ∀ x ∈ log, x.2.1 ≠ 7) (hl : ∀ x ∈ l, x.2.1 ≠ 7) : ∀ x ∈ log ++ l, x.2.1 ≠ 7 := by
  intro x hx
  rcases List.mem_append.1 hx with hx | hx
  · exact h x hx
  · exact hl x hx
theorem may_over2 {m : Mc} (hm : mayS m = true) (h : m.1 = 4 ∨ m.1 = 5) : mayS (7, 0, m.2.2) = true := by
  unfold mayS at hm
  rw [if_neg (by omega), if_neg (by omega)] at hm
  split at hm
  · simp only [from_, Bool.and_eq_true, decide_eq_true_eq] at hm
    simp [mayS, from_]; omega
  · rw [if_pos (by omega)] at hm
    simp only [from_, Bool.and_eq_true, decide_eq_true_eq] at hm
    simp [mayS, from_]; omega
theorem may_over {m : Mc} (hm : mayS m = true) (h : m.1 = 1 ∨ m.1 = 5) : mayS (7, 0, m.2.2) = true := by
  rcases h with h | h
  · rw [(may_wait hm h).1]; rfl
  · exact may_over2 hm (.inr h)
theorem countS_cons (now k c x y : Int) (l : List (Int × Out)) (k' lo hi : Int) : countS ((now, (k, c, x, y)) :: l) k' now lo hi = (if k = k' ∧ lo ≤ c ∧ c ≤ hi then 1 else 0) + countS l k' now lo hi := by
  unfold countS
  rw [List.filter_cons]
  have : hitS k' now lo hi (now, (k, c, x, y)) = decide (k = k' ∧ lo ≤ c ∧ c ≤ hi) := by
    simp [hitS, Bool.and_assoc]
  rw [this]
  by_cases h : k = k' ∧ lo ≤ c ∧ c ≤ hi
  · simp [h]; omega
  · simp [h]

/-- An input keeps it, where the timers that fire have been taken away. -/
theorem inv_give {m : Mc} {a b d q now : Int} {log : List (Int × Out)} (hm : mayS m = true) (now0 : 0 ≤ now) (times : ∀ x ∈ log, x.1 ≤ now) (alo : 0 ≤ a → now ≤ a) (blo : 0 ≤ b → now ≤ b) (dlo : 0 ≤ d → now ≤ d) (qlo : 0 ≤ q → now ≤ q)
    (bds : -1 ≤ a ∧ -1 ≤ b ∧ -1 ≤ d ∧ -1 ≤ q) (scan : OkScan log) (cnt : CntL m.1 log now) (hopen : m.1 = 1 ∨ m.1 = 3 → log.any finB = false) (i : In)
    (h1 : m.1 = 1 → now ≤ 32000 ∧ (b = 32000 ∨ (i.1 = 5 ∧ i.2.2 = 2)) ∧ ((0 ≤ a ∧ a ≤ 64000) ∨ (i.1 = 5 ∧ i.2.2 = 1)) ∧ d < 0 ∧ q < 0)
    (h4 : m.1 = 4 → (0 ≤ q ∧ q ≤ now + 32000) ∨ (i.1 = 5 ∧ i.2.2 = 13))
    (h5 : m.1 = 5 → (0 ≤ d ∧ d ≤ now + 32000) ∨ (i.1 = 5 ∧ i.2.2 = 4))
    (hrun : m.1 ≠ 7 → ∀ x ∈ log, x.2.1 ≠ 7) (hover : m.1 = 7 → ∃ l T, log = l ++ [(T, (7, 0, 0, 0))] ∧ ∀ x ∈ l, x.2.1 ≠ 7) :
    ∃ m' a' b' d' q' log', giveS (mkS m a b d q now log) i = mkS m' a' b' d' q' now log' ∧ InvS m' a' b' d' q' now log' ∧
      (m'.1 = 1 ∧ m.1 = 1 ∧ b' = b ∧ (a' = a ∨ (i.1 = 5 ∧ i.2.2 = 1 ∧ now + 1000 ≤ a')) ∨
       m'.1 ≠ 1 ∧ a' = a ∧ b' = b ∧ (i.1 = 2 ∨ d' = d ∧ q' = q ∧ (m' = m ∨ m'.1 = 7 ∧ m.1 ≠ 3))) := by
  have hs := may_states hm
  rcases give_cases hm a b d q now log i with ⟨k1, k2, k3, hg⟩ | ⟨k1, k2, k3, hg⟩ | ⟨k1, k2, hg⟩ | ⟨k1, k2, k3, hg⟩ | ⟨k1, k2, k3, hg⟩ | ⟨k1, k2, k3, hg⟩ | ⟨k1, k2, k3, hg⟩ | ⟨k1, k2, k3, hg⟩ | ⟨k1, k2, hg⟩ | ⟨k1, hg⟩
  · obtain ⟨x1, x2, x3, x4, x5⟩ := h1 k1
    obtain ⟨hc, hw⟩ := may_wait hm k1
    have hag := again_ok hm k1
    have hno := hrun (by omega)
    refine ⟨_, _, _, _, _, _, hg, ?_, .inl ⟨rfl, k1, rfl, .inr ⟨k2, k3, by omega⟩⟩⟩
    refine { may := ?_, now0 := now0, times := times_snoc times [_, _], alo := by omega, blo := blo, dlo := dlo, qlo := qlo, bds := by omega, scan := scan.more _ (by simp), cnt := ?_, open_ := fun _ => ?_, s1 := fun _ => by omega, s4 := by simp, s5 := by simp, run := fun _ => run_snoc hno (by simp), over := by simp }
    · rcases hw with h | h | h | h | h | h | h <;> rw [h] <;> decide
    · rw [k1] at cnt
      unfold CntL Cnt at *
      simp only [countS_append, countS_cons, countS_nil]
      repeat (first | rw [if_pos (by omega)] | rw [if_neg (by omega)])
      omega
    · rw [List.any_append, hopen (.inl k1)]; simp [finB]
  · obtain ⟨x1, x2, x3, x4, x5⟩ := h1 k1
    have hno := hrun (by omega)
    refine ⟨_, _, _, _, _, _, hg, ?_, .inr ⟨by simp, rfl, rfl, .inr ⟨rfl, rfl, .inr ⟨rfl, by omega⟩⟩⟩⟩
    refine { may := rfl, now0 := now0, times := times_snoc times [_, _], alo := alo, blo := blo, dlo := dlo, qlo := qlo, bds := bds, scan := scan.more _ (by simp), cnt := ?_, open_ := by simp, s1 := by simp, s4 := by simp, s5 := by simp, run := by simp, over := fun _ => ⟨log ++ [(now, (5, 0, 0, 0))], now, by simp, run_snoc hno (by simp)⟩ }
    rw [k1] at cnt
    unfold CntL Cnt at *
    simp only [countS_append, countS_cons, countS_nil, true_and]
    repeat (first | rw [if_pos (by omega)] | rw [if_neg (by omega)])
    omega
  · have hno := hrun (by omega)
    refine ⟨_, _, _, _, _, _, hg, ?_, .inr ⟨by simp, rfl, rfl, .inr ⟨rfl, rfl, .inr ⟨rfl, by omega⟩⟩⟩⟩
    refine { may := ?_, now0 := now0, times := times_snoc times [_, _], alo := alo, blo := blo, dlo := dlo, qlo := qlo, bds := bds, scan := scan.more _ (by simp), cnt := ?_, open_ := by simp, s1 := by simp, s4 := by simp, s5 := by simp, run := by simp, over := fun _ => ⟨log ++ [(now, (6, 0, 0, 0))], now, by simp, run_snoc hno (by simp)⟩ }
    · exact may_over hm k1
    · unfold CntL Cnt at *
      simp only [countS_append, countS_cons, countS_nil]
      repeat (first | rw [if_pos (by omega)] | rw [if_neg (by omega)])
      omega
  · have hno := hrun (by omega)
    refine ⟨_, _, _, _, _, _, hg, ?_, .inr ⟨by simp, rfl, rfl, .inl k2⟩⟩
    refine { may := rfl, now0 := now0, times := times_snoc times [_], alo := alo, blo := blo, dlo := dlo, qlo := qlo, bds := bds, scan := scan.snoc _ (fun _ _ => hopen k1), cnt := ?_, open_ := fun _ => ?_, s1 := by simp, s4 := by simp, s5 := by simp, run := fun _ => run_snoc hno (by simp), over := by simp }
    · unfold CntL Cnt at *
      simp only [countS_append, countS_cons, countS_nil, true_and]
      repeat (first | rw [if_pos (by omega)] | rw [if_neg (by omega)])
      omega
    · rw [List.any_append, hopen k1]; simp [finB]; omega
  · have hno := hrun (by omega)
    refine ⟨_, _, _, _, _, _, hg, ?_, .inr ⟨by simp, rfl, rfl, .inl k2⟩⟩
    refine { may := ?_, now0 := now0, times := times_snoc times [_, _], alo := alo, blo := blo, dlo := dlo, qlo := by omega, bds := by omega, scan := scan.more _ (by simp; omega), cnt := ?_, open_ := by simp, s1 := by simp, s4 := fun _ => by omega, s5 := by simp, run := fun _ => run_snoc hno (by simp), over := by simp }
    · simp [mayS, from_, k3]
    · unfold CntL Cnt at *
      simp only [countS_append, countS_cons, countS_nil, true_and]
      repeat (first | rw [if_pos (by omega)] | rw [if_neg (by omega)])
      omega
  · have hno := hrun (by omega)
    refine ⟨_, _, _, _, _, _, hg, ?_, .inr ⟨by simp, rfl, rfl, .inl k2⟩⟩
    refine { may := ?_, now0 := now0, times := times_snoc times [_, _, _], alo := alo, blo := blo, dlo := by omega, qlo := qlo, bds := by omega, scan := scan.more _ (by simp; omega), cnt := ?_, open_ := by simp, s1 := by simp, s4 := by simp, s5 := fun _ => by omega, run := fun _ => run_snoc hno (by simp), over := by simp }
    · simp [mayS, from_, k3]
    · unfold CntL Cnt at *
      simp only [countS_append, countS_cons, countS_nil, true_and]
      repeat (first | rw [if_pos (by omega)] | rw [if_neg (by omega)])
      omega
  · have hno := hrun (by omega)
    refine ⟨_, _, _, _, _, _, hg, ?_, .inr ⟨by omega, rfl, rfl, .inl k2⟩⟩
    have := h4 k1
    refine { may := hm, now0 := now0, times := times_snoc times [_], alo := alo, blo := blo, dlo := dlo, qlo := qlo, bds := bds, scan := scan.more _ (by simp; omega), cnt := ?_, open_ := by omega, s1 := by omega, s4 := by omega, s5 := by omega, run := fun _ => run_snoc hno (by simp), over := by omega }
    unfold CntL Cnt at *
    simp only [countS_append, countS_cons, countS_nil, true_and]
    repeat (first | rw [if_pos (by omega)] | rw [if_neg (by omega)])
    omega
  · have hno := hrun (by omega)
    refine ⟨_, _, _, _, _, _, hg, ?_, .inr ⟨by omega, rfl, rfl, .inl k2⟩⟩
    have := h5 k1
    refine { may := hm, now0 := now0, times := times_snoc times [_], alo := alo, blo := blo, dlo := dlo, qlo := qlo, bds := bds, scan := scan.more _ (by simp), cnt := ?_, open_ := by omega, s1 := by omega, s4 := by omega, s5 := by omega, run := fun _ => run_snoc hno (by simp), over := by omega }
    unfold CntL Cnt at *
    simp only [countS_append, countS_cons, countS_nil, true_and]
    repeat (first | rw [if_pos (by omega)] | rw [if_neg (by omega)])
    omega
  · have hno := hrun (by omega)
    refine ⟨_, _, _, _, _, _, hg, ?_, .inr ⟨by simp, rfl, rfl, .inr ⟨rfl, rfl, .inr ⟨rfl, by omega⟩⟩⟩⟩
    refine { may := ?_, now0 := now0, times := times_snoc times [_], alo := alo, blo := blo, dlo := dlo, qlo := qlo, bds := bds, scan := scan.more _ (by simp), cnt := ?_, open_ := by simp, s1 := by simp, s4 := by simp, s5 := by simp, run := by simp, over := fun _ => ⟨log, now, rfl, hno⟩ }
    · exact may_over2 hm (by omega)
    · unfold CntL Cnt at *
      simp only [countS_append, countS_cons, countS_nil]
      repeat (first | rw [if_pos (by omega)] | rw [if_neg (by omega)])
      omega
  · refine ⟨_, _, _, _, _, _, hg, ?_, ?_⟩
    · refine { may := hm, now0 := now0, times := times, alo := alo, blo := blo, dlo := dlo, qlo := qlo, bds := bds, scan := scan, cnt := cnt, open_ := hopen, s1 := fun h => ?_, s4 := fun h => ?_, s5 := fun h => ?_, run := hrun, over := hover }
      · have := h1 h; omega
      · have := h4 h; omega
      · have := h5 h; omega
    · by_cases h : m.1 = 1
      · exact .inl ⟨h, h, rfl, .inl rfl⟩
      · exact .inr ⟨h, rfl, rfl, .inr ⟨rfl, rfl, .inl rfl⟩⟩

end Go.Proofs.Ytlcpadonjbaaeaa
