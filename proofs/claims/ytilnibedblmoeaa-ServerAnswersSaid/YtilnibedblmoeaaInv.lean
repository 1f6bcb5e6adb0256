/- The plain part: what a server's machine with its timers does, in closed form. No program in sight. -/
import Derived.Test.YtilnibedblmoeaaStepOk
namespace Go.Proofs.Ytilnibedblmoeaa

/-- All timers but J stand still; J fires at d. -/
def dueJ (d : Int) : List Int := [-1, -1, -1, -1, -1, -1, -1, -1, -1, -1, d, -1, -1, -1]
def mkS (m : Mc) (d now : Int) (log : List (Int × Out)) : Sim := { m := m, due := dueJ d, now := now, log := log }

theorem startS_eq : startS = mkS (2, 0, 0) (-1) 0 [(0, (3, 0, 0, 0))] := rfl

theorem putS_mk (m : Mc) (d now : Int) (log : List (Int × Out)) (o : Out) (h : o.1 = 4 → o.2.2.1 = 10 ∧ 1 ≤ o.2.2.2) :
    putS (mkS m d now log) o = mkS m (if o.1 = 4 then now + o.2.2.2 else d) now (log ++ [(now, o)]) := by
  unfold putS mkS
  by_cases h4 : o.1 = 4
  · obtain ⟨h1, h2⟩ := h h4
    rw [if_pos ⟨h4, by omega⟩, if_pos h4, h1, show max 1 o.2.2.2 = o.2.2.2 by omega]
    rfl
  · rw [if_neg (fun x => h4 x.1), if_neg h4]

/-- When J fires behind an input. -/
def dueG (m : Mc) (i : In) (d now : Int) : Int := if (m.1 = 2 ∨ m.1 = 3) ∧ i.1 = 4 ∧ 200 ≤ i.2.1 ∧ i.2.1 ≤ 699 then now + 32000 else d

theorem give_mk {m : Mc} (hm : mayS m = true) (d now : Int) (log : List (Int × Out)) (i : In) :
    giveS (mkS m d now log) i = mkS (stepR m i).1 (dueG m i d now) now (log ++ (stepR m i).2.map fun o => (now, o)) := by
  have e : (mkS m d now log).m = m := rfl
  unfold giveS
  rw [e, step_same]
  have e2 : ∀ m', ({ mkS m d now log with m := m' } : Sim) = mkS m' d now log := fun _ => rfl
  unfold takeS
  rw [e2]
  unfold stepR
  rw [if_neg (by simp [hm])]
  unfold dueG
  split
  · rename_i h
    have : ¬ (200 ≤ i.2.1 ∧ i.2.1 ≤ 699) := by
      have := h.2.2
      simp [from_] at this
      omega
    rw [if_neg (fun x => this x.2.2)]
    simp only [List.foldl, List.map]
    rw [putS_mk _ _ _ _ _ (by simp)]
    simp
  · split
    · rename_i h
      have := h.2.2
      simp only [from_, Bool.and_eq_true, decide_eq_true_eq] at this
      rw [if_pos ⟨h.1, h.2.1, this⟩]
      simp only [List.foldl, List.map]
      rw [putS_mk _ _ _ _ _ (by simp), putS_mk _ _ _ _ _ (by simp)]
      simp
    · rename_i h1 h2
      have hn : ¬ ((m.1 = 2 ∨ m.1 = 3) ∧ i.1 = 4 ∧ 200 ≤ i.2.1 ∧ i.2.1 ≤ 699) := fun x => h2 ⟨x.1, x.2.1, by simp [from_, x.2.2]⟩
      rw [if_neg hn]
      split
      · simp only [List.foldl, List.map]
        rw [putS_mk _ _ _ _ _ (by simp)]
        simp
      · split
        · simp only [List.foldl, List.map]
          rw [putS_mk _ _ _ _ _ (by simp), putS_mk _ _ _ _ _ (by simp)]
          simp
        · split
          · simp only [List.foldl, List.map]
            rw [putS_mk _ _ _ _ _ (by simp)]
            simp
          · simp

theorem firstS_none (due : List Int) (t : Int) (k : Nat) (h : ∀ j, j < k → due.getD j (-1) < 0) : firstS due t k = -1 := by
  induction k with
  | zero => rfl
  | succ k ih =>
    rw [firstS, if_neg (fun x => by have := h k (by omega); omega)]
    exact ih fun j hj => h j (by omega)
theorem firstS_skip (due : List Int) (t : Int) (k : Nat) (h : due.getD k (-1) < 0) : firstS due t (k + 1) = firstS due t k := by
  rw [firstS, if_neg (fun x => by omega)]
theorem first_mk (d t : Int) : firstS (dueJ d) t 14 = if 0 ≤ d ∧ d ≤ t then 10 else -1 := by
  rw [firstS_skip _ _ 13 (by simp [dueJ]), firstS_skip _ _ 12 (by simp [dueJ]), firstS_skip _ _ 11 (by simp [dueJ]), firstS]
  have h10 : firstS (dueJ d) t 10 = -1 := firstS_none _ _ _ fun j hj => by
    match j, hj with
    | 0, _ | 1, _ | 2, _ | 3, _ | 4, _ | 5, _ | 6, _ | 7, _ | 8, _ | 9, _ => simp [dueJ]
  rw [h10]
  have e : (dueJ d).getD 10 (-1) = d := rfl
  rw [e]
  by_cases h : 0 ≤ d ∧ d ≤ t
  · rw [if_pos ⟨h.1, h.2, .inl (by omega)⟩, if_pos h]; rfl
  · rw [if_neg (fun x => h ⟨x.1, x.2.1⟩), if_neg h]

theorem untilS_stop (n : Nat) (s : Sim) (t : Int) (h : firstS s.due t 14 < 0) : untilS n s t = { s with now := max s.now t } := by
  cases n with
  | zero => rfl
  | succ n => rw [untilS, if_pos h]

/-- Time passes. -/
theorem until_mk {m : Mc} (hm : mayS m = true) (n : Nat) (d now : Int) (log : List (Int × Out)) (t : Int) :
    untilS (n + 2) (mkS m d now log) t = if 0 ≤ d ∧ d ≤ t then mkS (if m.1 = 5 then (7, 0, m.2.2) else m) (-1) t (log ++ if m.1 = 5 then [(d, (7, 0, 0, 0))] else []) else mkS m d (max now t) log := by
  have e1 : (mkS m d now log).due = dueJ d := rfl
  by_cases h : 0 ≤ d ∧ d ≤ t
  · rw [untilS, e1, first_mk, if_pos h, if_pos h, if_neg (by omega)]
    have e2 : fireS (mkS m d now log) 10 = giveS (mkS m (-1) d log) (5, 0, 10) := rfl
    have e3 : dueG m (5, 0, 10) (-1) d = -1 := by simp [dueG]
    rw [e2, give_mk hm, e3, untilS_stop]
    · obtain ⟨hw, hs⟩ := may_states hm
      have e5 : ∀ m' log', ({ mkS m' (-1) d log' with now := max (mkS m' (-1) d log').now t } : Sim) = mkS m' (-1) (max d t) log' := fun _ _ => rfl
      refine (e5 _ _).trans ?_
      rw [show max d t = t by omega]
      rcases hs with h1 | h1 | h1 | h1 <;> simp [stepR, hm, h1]
    · have e4 : ∀ m' log', (mkS m' (-1) d log').due = dueJ (-1) := fun _ _ => rfl
      rw [e4, first_mk, if_neg (by omega)]
      omega
  · rw [if_neg h, untilS_stop]
    · rfl
    · rw [e1, first_mk, if_neg h]; omega

theorem mk_m (m : Mc) (d now : Int) (log : List (Int × Out)) : (mkS m d now log).m = m := rfl
theorem mk_now (m : Mc) (d now : Int) (log : List (Int × Out)) : (mkS m d now log).now = now := rfl
theorem mk_log (m : Mc) (d now : Int) (log : List (Int × Out)) : (mkS m d now log).log = log := rfl

end Go.Proofs.Ytilnibedblmoeaa
