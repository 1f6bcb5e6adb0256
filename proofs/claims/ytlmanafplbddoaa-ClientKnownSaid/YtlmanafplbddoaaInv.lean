/- The plain part: what a client's machine with its timers does: an input; which timer fires. No program in sight. -/
import Derived.Test.YtlmanafplbddoaaStepOk
namespace Go.Proofs.Ytlmanafplbddoaa

/-- All timers but E, F and K stand still; these fire at e, f, k (negative: not). -/
def dueC (e f k : Int) : List Int := [-1, -1, -1, -1, -1, e, f, -1, -1, -1, -1, k, -1, -1]
def mkS (m : Mc) (e f k now : Int) (log : List (Int × Out)) : Sim := { m := m, due := dueC e f k, now := now, log := log }

theorem startS_eq : startS = mkS (2, 500, 0) 500 32000 (-1) 0 [(0, (1, 0, 0, 0)), (0, (4, 0, 5, 500)), (0, (4, 0, 6, 32000))] := rfl

section
variable (m : Mc) (e f k now : Int) (log : List (Int × Out))
theorem mk_m : (mkS m e f k now log).m = m := rfl
theorem mk_due : (mkS m e f k now log).due = dueC e f k := rfl
theorem mk_now : (mkS m e f k now log).now = now := rfl
theorem mk_log : (mkS m e f k now log).log = log := rfl
theorem mk_set (m' : Mc) : ({ mkS m e f k now log with m := m' } : Sim) = mkS m' e f k now log := rfl
theorem mk_set_now (t : Int) : ({ mkS m e f k now log with now := t } : Sim) = mkS m e f k t log := rfl
theorem put_plain (o : Out) (h : ¬ o.1 = 4) : putS (mkS m e f k now log) o = mkS m e f k now (log ++ [(now, o)]) := by
  unfold putS mkS
  rw [if_neg (fun x => h x.1)]
theorem put_E (c a : Int) : putS (mkS m e f k now log) (4, c, 5, a) = mkS m (now + max 1 a) f k now (log ++ [(now, (4, c, 5, a))]) := rfl
theorem put_K (c a : Int) : putS (mkS m e f k now log) (4, c, 11, a) = mkS m e f (now + max 1 a) now (log ++ [(now, (4, c, 11, a))]) := rfl
end

/-- The interval behind E. -/
def waitE (m : Mc) : Int := if m.1 = 2 then longerS m.2.1 else 4000
theorem waitE_bd {m : Mc} (hm : mayS m = true) (h : m.1 = 2 ∨ m.1 = 3) : 1000 ≤ waitE m ∧ waitE m ≤ 4000 := by
  have := longer_ok hm h
  unfold waitE
  split <;> omega

/-- What an input does: the cases. -/
theorem give_cases {m : Mc} (hm : mayS m = true) (e f k now : Int) (log : List (Int × Out)) (i : In) :
    ((m.1 = 2 ∨ m.1 = 3) ∧ i.1 = 5 ∧ i.2.2 = 5 ∧ giveS (mkS m e f k now log) i = mkS (m.1, waitE m, 0) (now + waitE m) f k now (log ++ [(now, (1, 0, 0, 0)), (now, (4, 0, 5, waitE m))])) ∨
    ((m.1 = 2 ∨ m.1 = 3) ∧ i.1 = 5 ∧ i.2.2 = 6 ∧ giveS (mkS m e f k now log) i = mkS (7, 0, 0) e f k now (log ++ [(now, (5, 0, 0, 0)), (now, (7, 0, 0, 0))])) ∨
    ((m.1 = 2 ∨ m.1 = 3) ∧ i.1 = 6 ∧ giveS (mkS m e f k now log) i = mkS (7, 0, 0) e f k now (log ++ [(now, (6, 0, 0, 0)), (now, (7, 0, 0, 0))])) ∨
    ((m.1 = 2 ∨ m.1 = 3) ∧ i.1 = 2 ∧ (100 ≤ i.2.1 ∧ i.2.1 ≤ 199) ∧ giveS (mkS m e f k now log) i = mkS (3, m.2.1, 0) e f k now (log ++ [(now, (3, i.2.1, 0, 0))])) ∨
    ((m.1 = 2 ∨ m.1 = 3) ∧ i.1 = 2 ∧ (200 ≤ i.2.1 ∧ i.2.1 ≤ 699) ∧ giveS (mkS m e f k now log) i = mkS (5, 0, i.2.1) e f (now + 5000) now (log ++ [(now, (3, i.2.1, 0, 0)), (now, (4, 0, 11, 5000))])) ∨
    (m.1 = 5 ∧ i.1 = 5 ∧ i.2.2 = 11 ∧ giveS (mkS m e f k now log) i = mkS (7, 0, m.2.2) e f k now (log ++ [(now, (7, 0, 0, 0))])) ∨
    (¬ ((m.1 = 2 ∨ m.1 = 3) ∧ i.1 = 5 ∧ (i.2.2 = 5 ∨ i.2.2 = 6)) ∧ ¬ (m.1 = 5 ∧ i.1 = 5 ∧ i.2.2 = 11) ∧ giveS (mkS m e f k now log) i = mkS m e f k now log) := by
  unfold giveS
  rw [mk_m, step_same]
  unfold takeS
  rw [mk_set]
  unfold stepR
  rw [if_neg (by simp [hm])]
  by_cases h1 : m.1 = 2 ∨ m.1 = 3
  · rw [if_pos h1]
    obtain ⟨hc, -⟩ := may_open hm h1
    unfold openR
    by_cases a1 : i.1 = 5 ∧ i.2.2 = 5
    · rw [if_pos a1]
      have hw := waitE_bd hm h1
      refine .inl ⟨h1, a1.1, a1.2, ?_⟩
      simp only [List.foldl]
      rw [put_plain _ _ _ _ _ _ _ (by simp), put_E]
      show mkS (m.1, waitE m, m.2.2) (now + max 1 (waitE m)) f k now _ = _
      rw [show max 1 (waitE m) = waitE m by omega, hc]
      simp [waitE]
    · rw [if_neg a1]
      by_cases a2 : i.1 = 5 ∧ i.2.2 = 6
      · rw [if_pos a2]
        refine .inr (.inl ⟨h1, a2.1, a2.2, ?_⟩)
        simp only [List.foldl]
        rw [put_plain _ _ _ _ _ _ _ (by simp), put_plain _ _ _ _ _ _ _ (by simp)]
        simp
      · rw [if_neg a2]
        by_cases a3 : i.1 = 6
        · rw [if_pos a3]
          refine .inr (.inr (.inl ⟨h1, a3, ?_⟩))
          simp only [List.foldl]
          rw [put_plain _ _ _ _ _ _ _ (by simp), put_plain _ _ _ _ _ _ _ (by simp)]
          simp
        · rw [if_neg a3]
          by_cases a4 : i.1 = 2 ∧ from_ i.2.1 100 199 = true
          · rw [if_pos a4]
            have := a4.2
            simp only [from_, Bool.and_eq_true, decide_eq_true_eq] at this
            refine .inr (.inr (.inr (.inl ⟨h1, a4.1, this, ?_⟩)))
            simp only [List.foldl]
            rw [put_plain _ _ _ _ _ _ _ (by simp)]
          · rw [if_neg a4]
            by_cases a5 : i.1 = 2 ∧ from_ i.2.1 200 699 = true
            · rw [if_pos a5]
              have := a5.2
              simp only [from_, Bool.and_eq_true, decide_eq_true_eq] at this
              refine .inr (.inr (.inr (.inr (.inl ⟨h1, a5.1, this, ?_⟩))))
              simp only [List.foldl]
              rw [put_plain _ _ _ _ _ _ _ (by simp), put_K, show max (1 : Int) 5000 = 5000 by decide]
              simp
            · rw [if_neg a5]
              refine .inr (.inr (.inr (.inr (.inr (.inr ⟨?_, by omega, rfl⟩)))))
              rintro ⟨-, x, y | y⟩
              · exact a1 ⟨x, y⟩
              · exact a2 ⟨x, y⟩
  · rw [if_neg h1]
    by_cases a6 : m.1 = 5 ∧ i.1 = 5 ∧ i.2.2 = 11
    · rw [if_pos a6]
      refine .inr (.inr (.inr (.inr (.inr (.inl ⟨a6.1, a6.2.1, a6.2.2, ?_⟩)))))
      simp only [List.foldl]
      rw [put_plain _ _ _ _ _ _ _ (by simp)]
    · rw [if_neg a6]
      exact .inr (.inr (.inr (.inr (.inr (.inr ⟨fun x => h1 x.1, a6, rfl⟩)))))

theorem firstS_skip (due : List Int) (t : Int) (k : Nat) (h : due.getD k (-1) < 0) : firstS due t (k + 1) = firstS due t k := by
  rw [firstS, if_neg (fun x => by omega)]

/-- Which timer fires first: the cases. -/
theorem first_cases (e f k t : Int) :
    (firstS (dueC e f k) t 14 = -1 ∧ ¬ (0 ≤ e ∧ e ≤ t) ∧ ¬ (0 ≤ f ∧ f ≤ t) ∧ ¬ (0 ≤ k ∧ k ≤ t)) ∨
    (firstS (dueC e f k) t 14 = 5 ∧ 0 ≤ e ∧ e ≤ t ∧ (0 ≤ f → e ≤ f) ∧ (0 ≤ k → e ≤ k)) ∨
    (firstS (dueC e f k) t 14 = 6 ∧ 0 ≤ f ∧ f ≤ t ∧ (0 ≤ e → f < e) ∧ (0 ≤ k → f ≤ k)) ∨
    (firstS (dueC e f k) t 14 = 11 ∧ 0 ≤ k ∧ k ≤ t ∧ (0 ≤ e → k < e) ∧ (0 ≤ f → k < f)) := by
  have e5 : (dueC e f k).getD 5 (-1) = e := rfl
  have e6 : (dueC e f k).getD 6 (-1) = f := rfl
  have e11 : (dueC e f k).getD 11 (-1) = k := rfl
  have s5 : firstS (dueC e f k) t 5 = -1 := by
    rw [firstS_skip _ _ 4 (by simp [dueC]), firstS_skip _ _ 3 (by simp [dueC]), firstS_skip _ _ 2 (by simp [dueC]), firstS_skip _ _ 1 (by simp [dueC]), firstS_skip _ _ 0 (by simp [dueC])]
    rfl
  have s6 : (firstS (dueC e f k) t 6 = 5 ∧ 0 ≤ e ∧ e ≤ t) ∨ (firstS (dueC e f k) t 6 = -1 ∧ ¬ (0 ≤ e ∧ e ≤ t)) := by
    rw [firstS, s5, e5]
    by_cases h : 0 ≤ e ∧ e ≤ t
    · rw [if_pos ⟨h.1, h.2, .inl (by omega)⟩]; exact .inl ⟨rfl, h⟩
    · rw [if_neg (fun x => h ⟨x.1, x.2.1⟩)]; exact .inr ⟨rfl, h⟩
  have s7 : (firstS (dueC e f k) t 7 = 5 ∧ 0 ≤ e ∧ e ≤ t ∧ (0 ≤ f → e ≤ f)) ∨ (firstS (dueC e f k) t 7 = 6 ∧ 0 ≤ f ∧ f ≤ t ∧ (0 ≤ e → f < e)) ∨ (firstS (dueC e f k) t 7 = -1 ∧ ¬ (0 ≤ e ∧ e ≤ t) ∧ ¬ (0 ≤ f ∧ f ≤ t)) := by
    rw [firstS, e6]
    rcases s6 with ⟨s, h1, h2⟩ | ⟨s, h⟩ <;> rw [s]
    · rw [show (5 : Int).toNat = 5 from rfl, e5]
      by_cases hf : 0 ≤ f ∧ f ≤ t ∧ ((5 : Int) < 0 ∨ f < e)
      · rw [if_pos hf]
        exact .inr (.inl ⟨rfl, hf.1, hf.2.1, fun _ => by omega⟩)
      · rw [if_neg hf]
        exact .inl ⟨rfl, h1, h2, fun _ => by omega⟩
    · by_cases hf : 0 ≤ f ∧ f ≤ t
      · rw [if_pos ⟨hf.1, hf.2, .inl (by omega)⟩]
        exact .inr (.inl ⟨rfl, hf.1, hf.2, fun _ => by omega⟩)
      · rw [if_neg (fun x => hf ⟨x.1, x.2.1⟩)]
        exact .inr (.inr ⟨rfl, h, hf⟩)
  have s11 : firstS (dueC e f k) t 11 = firstS (dueC e f k) t 7 := by
    rw [firstS_skip _ _ 10 (by simp [dueC]), firstS_skip _ _ 9 (by simp [dueC]), firstS_skip _ _ 8 (by simp [dueC]), firstS_skip _ _ 7 (by simp [dueC])]
  rw [firstS_skip _ _ 13 (by simp [dueC]), firstS_skip _ _ 12 (by simp [dueC]), firstS, s11, e11]
  rcases s7 with ⟨s, h1, h2, h3⟩ | ⟨s, h1, h2, h3⟩ | ⟨s, h1, h2⟩ <;> rw [s]
  · rw [show (5 : Int).toNat = 5 from rfl, e5]
    by_cases hk : 0 ≤ k ∧ k ≤ t ∧ ((5 : Int) < 0 ∨ k < e)
    · rw [if_pos hk]
      exact .inr (.inr (.inr ⟨rfl, hk.1, hk.2.1, fun _ => by omega, fun x => by have := h3 x; omega⟩))
    · rw [if_neg hk]
      exact .inr (.inl ⟨rfl, h1, h2, h3, fun x => by omega⟩)
  · rw [show (6 : Int).toNat = 6 from rfl, e6]
    by_cases hk : 0 ≤ k ∧ k ≤ t ∧ ((6 : Int) < 0 ∨ k < f)
    · rw [if_pos hk]
      exact .inr (.inr (.inr ⟨rfl, hk.1, hk.2.1, fun x => by have := h3 x; omega, fun _ => by omega⟩))
    · rw [if_neg hk]
      exact .inr (.inr (.inl ⟨rfl, h1, h2, h3, fun x => by omega⟩))
  · by_cases hk : 0 ≤ k ∧ k ≤ t
    · rw [if_pos ⟨hk.1, hk.2, .inl (by omega)⟩]
      exact .inr (.inr (.inr ⟨rfl, hk.1, hk.2, fun _ => by omega, fun _ => by omega⟩))
    · rw [if_neg (fun x => hk ⟨x.1, x.2.1⟩)]
      exact .inl ⟨rfl, h1, h2, hk⟩

theorem untilS_stop (n : Nat) (s : Sim) (t : Int) (h : firstS s.due t 14 < 0) : untilS n s t = { s with now := max s.now t } := by
  cases n with
  | zero => rfl
  | succ n => rw [untilS, if_pos h]
theorem untilS_fire (n : Nat) (s : Sim) (t f : Int) (h : firstS s.due t 14 = f) (hf : 0 ≤ f) : untilS (n + 1) s t = untilS n (fireS s f) t := by
  rw [untilS, h, if_neg (by omega)]

section
variable (m : Mc) (e f k now : Int) (log : List (Int × Out))
theorem fire_E : fireS (mkS m e f k now log) 5 = giveS (mkS m (-1) f k e log) (5, 0, 5) := rfl
theorem fire_F : fireS (mkS m e f k now log) 6 = giveS (mkS m e (-1) k f log) (5, 0, 6) := rfl
theorem fire_K : fireS (mkS m e f k now log) 11 = giveS (mkS m e f (-1) k log) (5, 0, 11) := rfl
end

end Go.Proofs.Ytlmanafplbddoaa
