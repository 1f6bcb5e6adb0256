/- The plain part: what a machine with its timers does: which timer fires. No program in sight. -/
import Derived.Test.YtlcpadonjbaaeaaStepOk
namespace Go.Proofs.Ytlcpadonjbaaeaa

/-- All timers but A, B, D and M stand still; these fire at a, b, d, q (negative: not). -/
def dueC (a b d q : Int) : List Int := [-1, a, b, -1, d, -1, -1, -1, -1, -1, -1, -1, -1, q]
def mkS (m : Mc) (a b d q now : Int) (log : List (Int × Out)) : Sim := { m := m, due := dueC a b d q, now := now, log := log }

theorem startS_eq : startS = mkS (1, 500, 0) 500 32000 (-1) (-1) 0 [(0, (1, 0, 0, 0)), (0, (4, 0, 1, 500)), (0, (4, 0, 2, 32000))] := rfl

section
variable (m : Mc) (a b d q now : Int) (log : List (Int × Out))
theorem mk_m : (mkS m a b d q now log).m = m := rfl
theorem mk_due : (mkS m a b d q now log).due = dueC a b d q := rfl
theorem mk_now : (mkS m a b d q now log).now = now := rfl
theorem mk_log : (mkS m a b d q now log).log = log := rfl
theorem mk_set (m' : Mc) : ({ mkS m a b d q now log with m := m' } : Sim) = mkS m' a b d q now log := rfl
theorem mk_set_now (t : Int) : ({ mkS m a b d q now log with now := t } : Sim) = mkS m a b d q t log := rfl
theorem put_plain (o : Out) (h : ¬ o.1 = 4) : putS (mkS m a b d q now log) o = mkS m a b d q now (log ++ [(now, o)]) := by
  unfold putS mkS
  rw [if_neg (fun x => h x.1)]
theorem put_A (c x : Int) : putS (mkS m a b d q now log) (4, c, 1, x) = mkS m (now + max 1 x) b d q now (log ++ [(now, (4, c, 1, x))]) := rfl
theorem put_D (c x : Int) : putS (mkS m a b d q now log) (4, c, 4, x) = mkS m a b (now + max 1 x) q now (log ++ [(now, (4, c, 4, x))]) := rfl
theorem put_M (c x : Int) : putS (mkS m a b d q now log) (4, c, 13, x) = mkS m a b d (now + max 1 x) now (log ++ [(now, (4, c, 13, x))]) := rfl
end

theorem firstS_skip (due : List Int) (t : Int) (k : Nat) (h : due.getD k (-1) < 0) : firstS due t (k + 1) = firstS due t k := by
  rw [firstS, if_neg (fun x => by omega)]

/-- Which timer fires first: the cases. -/
theorem first_cases (a b d q t : Int) :
    (firstS (dueC a b d q) t 14 = -1 ∧ ¬ (0 ≤ a ∧ a ≤ t) ∧ ¬ (0 ≤ b ∧ b ≤ t) ∧ ¬ (0 ≤ d ∧ d ≤ t) ∧ ¬ (0 ≤ q ∧ q ≤ t)) ∨
    (firstS (dueC a b d q) t 14 = 1 ∧ 0 ≤ a ∧ a ≤ t ∧ (0 ≤ b → a ≤ b) ∧ (0 ≤ d → a ≤ d) ∧ (0 ≤ q → a ≤ q)) ∨
    (firstS (dueC a b d q) t 14 = 2 ∧ 0 ≤ b ∧ b ≤ t ∧ (0 ≤ a → b < a) ∧ (0 ≤ d → b ≤ d) ∧ (0 ≤ q → b ≤ q)) ∨
    (firstS (dueC a b d q) t 14 = 4 ∧ 0 ≤ d ∧ d ≤ t ∧ (0 ≤ a → d < a) ∧ (0 ≤ b → d < b) ∧ (0 ≤ q → d ≤ q)) ∨
    (firstS (dueC a b d q) t 14 = 13 ∧ 0 ≤ q ∧ q ≤ t ∧ (0 ≤ a → q < a) ∧ (0 ≤ b → q < b) ∧ (0 ≤ d → q < d)) := by
  have e1 : (dueC a b d q).getD 1 (-1) = a := rfl
  have e2 : (dueC a b d q).getD 2 (-1) = b := rfl
  have e4 : (dueC a b d q).getD 4 (-1) = d := rfl
  have e13 : (dueC a b d q).getD 13 (-1) = q := rfl
  have s1 : firstS (dueC a b d q) t 1 = -1 := by
    rw [firstS_skip _ _ 0 (by simp [dueC])]
    rfl
  have s2 : (firstS (dueC a b d q) t 2 = 1 ∧ 0 ≤ a ∧ a ≤ t) ∨ (firstS (dueC a b d q) t 2 = -1 ∧ ¬ (0 ≤ a ∧ a ≤ t)) := by
    rw [firstS, s1, e1]
    by_cases h : 0 ≤ a ∧ a ≤ t
    · rw [if_pos ⟨h.1, h.2, .inl (by omega)⟩]; exact .inl ⟨rfl, h⟩
    · rw [if_neg (fun x => h ⟨x.1, x.2.1⟩)]; exact .inr ⟨rfl, h⟩
  have s3 : (firstS (dueC a b d q) t 3 = 1 ∧ 0 ≤ a ∧ a ≤ t ∧ (0 ≤ b → a ≤ b)) ∨ (firstS (dueC a b d q) t 3 = 2 ∧ 0 ≤ b ∧ b ≤ t ∧ (0 ≤ a → b < a)) ∨ (firstS (dueC a b d q) t 3 = -1 ∧ ¬ (0 ≤ a ∧ a ≤ t) ∧ ¬ (0 ≤ b ∧ b ≤ t)) := by
    rw [firstS, e2]
    rcases s2 with ⟨s, h1, h2⟩ | ⟨s, h⟩ <;> rw [s]
    · rw [show (1 : Int).toNat = 1 from rfl, e1]
      by_cases hf : 0 ≤ b ∧ b ≤ t ∧ ((1 : Int) < 0 ∨ b < a)
      · rw [if_pos hf]
        exact .inr (.inl ⟨rfl, hf.1, hf.2.1, fun _ => by omega⟩)
      · rw [if_neg hf]
        exact .inl ⟨rfl, h1, h2, fun _ => by omega⟩
    · by_cases hf : 0 ≤ b ∧ b ≤ t
      · rw [if_pos ⟨hf.1, hf.2, .inl (by omega)⟩]
        exact .inr (.inl ⟨rfl, hf.1, hf.2, fun _ => by omega⟩)
      · rw [if_neg (fun x => hf ⟨x.1, x.2.1⟩)]
        exact .inr (.inr ⟨rfl, h, hf⟩)
  have s4 : firstS (dueC a b d q) t 4 = firstS (dueC a b d q) t 3 := firstS_skip _ _ 3 (by simp [dueC])
  have s5 : (firstS (dueC a b d q) t 5 = 1 ∧ 0 ≤ a ∧ a ≤ t ∧ (0 ≤ b → a ≤ b) ∧ (0 ≤ d → a ≤ d)) ∨ (firstS (dueC a b d q) t 5 = 2 ∧ 0 ≤ b ∧ b ≤ t ∧ (0 ≤ a → b < a) ∧ (0 ≤ d → b ≤ d)) ∨
      (firstS (dueC a b d q) t 5 = 4 ∧ 0 ≤ d ∧ d ≤ t ∧ (0 ≤ a → d < a) ∧ (0 ≤ b → d < b)) ∨ (firstS (dueC a b d q) t 5 = -1 ∧ ¬ (0 ≤ a ∧ a ≤ t) ∧ ¬ (0 ≤ b ∧ b ≤ t) ∧ ¬ (0 ≤ d ∧ d ≤ t)) := by
    rw [firstS, s4, e4]
    rcases s3 with ⟨s, h1, h2, h3⟩ | ⟨s, h1, h2, h3⟩ | ⟨s, h1, h2⟩ <;> rw [s]
    · rw [show (1 : Int).toNat = 1 from rfl, e1]
      by_cases hf : 0 ≤ d ∧ d ≤ t ∧ ((1 : Int) < 0 ∨ d < a)
      · rw [if_pos hf]
        exact .inr (.inr (.inl ⟨rfl, hf.1, hf.2.1, fun _ => by omega, fun x => by have := h3 x; omega⟩))
      · rw [if_neg hf]
        exact .inl ⟨rfl, h1, h2, h3, fun _ => by omega⟩
    · rw [show (2 : Int).toNat = 2 from rfl, e2]
      by_cases hf : 0 ≤ d ∧ d ≤ t ∧ ((2 : Int) < 0 ∨ d < b)
      · rw [if_pos hf]
        exact .inr (.inr (.inl ⟨rfl, hf.1, hf.2.1, fun x => by have := h3 x; omega, fun _ => by omega⟩))
      · rw [if_neg hf]
        exact .inr (.inl ⟨rfl, h1, h2, h3, fun _ => by omega⟩)
    · by_cases hf : 0 ≤ d ∧ d ≤ t
      · rw [if_pos ⟨hf.1, hf.2, .inl (by omega)⟩]
        exact .inr (.inr (.inl ⟨rfl, hf.1, hf.2, fun _ => by omega, fun _ => by omega⟩))
      · rw [if_neg (fun x => hf ⟨x.1, x.2.1⟩)]
        exact .inr (.inr (.inr ⟨rfl, h1, h2, hf⟩))
  have s13 : firstS (dueC a b d q) t 13 = firstS (dueC a b d q) t 5 := by
    rw [firstS_skip _ _ 12 (by simp [dueC]), firstS_skip _ _ 11 (by simp [dueC]), firstS_skip _ _ 10 (by simp [dueC]), firstS_skip _ _ 9 (by simp [dueC]), firstS_skip _ _ 8 (by simp [dueC]), firstS_skip _ _ 7 (by simp [dueC]), firstS_skip _ _ 6 (by simp [dueC]), firstS_skip _ _ 5 (by simp [dueC])]
  rw [firstS, s13, e13]
  rcases s5 with ⟨s, h1, h2, h3, h4⟩ | ⟨s, h1, h2, h3, h4⟩ | ⟨s, h1, h2, h3, h4⟩ | ⟨s, h1, h2, h3⟩ <;> rw [s]
  · rw [show (1 : Int).toNat = 1 from rfl, e1]
    by_cases hf : 0 ≤ q ∧ q ≤ t ∧ ((1 : Int) < 0 ∨ q < a)
    · rw [if_pos hf]
      exact .inr (.inr (.inr (.inr ⟨rfl, hf.1, hf.2.1, fun _ => by omega, fun x => by have := h3 x; omega, fun x => by have := h4 x; omega⟩)))
    · rw [if_neg hf]
      exact .inr (.inl ⟨rfl, h1, h2, h3, h4, fun _ => by omega⟩)
  · rw [show (2 : Int).toNat = 2 from rfl, e2]
    by_cases hf : 0 ≤ q ∧ q ≤ t ∧ ((2 : Int) < 0 ∨ q < b)
    · rw [if_pos hf]
      exact .inr (.inr (.inr (.inr ⟨rfl, hf.1, hf.2.1, fun x => by have := h3 x; omega, fun _ => by omega, fun x => by have := h4 x; omega⟩)))
    · rw [if_neg hf]
      exact .inr (.inr (.inl ⟨rfl, h1, h2, h3, h4, fun _ => by omega⟩))
  · rw [show (4 : Int).toNat = 4 from rfl, e4]
    by_cases hf : 0 ≤ q ∧ q ≤ t ∧ ((4 : Int) < 0 ∨ q < d)
    · rw [if_pos hf]
      exact .inr (.inr (.inr (.inr ⟨rfl, hf.1, hf.2.1, fun x => by have := h3 x; omega, fun x => by have := h4 x; omega, fun _ => by omega⟩)))
    · rw [if_neg hf]
      exact .inr (.inr (.inr (.inl ⟨rfl, h1, h2, h3, h4, fun _ => by omega⟩)))
  · by_cases hf : 0 ≤ q ∧ q ≤ t
    · rw [if_pos ⟨hf.1, hf.2, .inl (by omega)⟩]
      exact .inr (.inr (.inr (.inr ⟨rfl, hf.1, hf.2, fun _ => by omega, fun _ => by omega, fun _ => by omega⟩)))
    · rw [if_neg (fun x => hf ⟨x.1, x.2.1⟩)]
      exact .inl ⟨rfl, h1, h2, h3, hf⟩

theorem untilS_stop (n : Nat) (s : Sim) (t : Int) (h : firstS s.due t 14 < 0) : untilS n s t = { s with now := max s.now t } := by
  cases n with
  | zero => rfl
  | succ n => rw [untilS, if_pos h]
theorem untilS_fire (n : Nat) (s : Sim) (t f : Int) (h : firstS s.due t 14 = f) (hf : 0 ≤ f) : untilS (n + 1) s t = untilS n (fireS s f) t := by
  rw [untilS, h, if_neg (by omega)]

section
variable (m : Mc) (a b d q now : Int) (log : List (Int × Out))
theorem fire_A : fireS (mkS m a b d q now log) 1 = giveS (mkS m (-1) b d q a log) (5, 0, 1) := rfl
theorem fire_B : fireS (mkS m a b d q now log) 2 = giveS (mkS m a (-1) d q b log) (5, 0, 2) := rfl
theorem fire_D : fireS (mkS m a b d q now log) 4 = giveS (mkS m a b (-1) q d log) (5, 0, 4) := rfl
theorem fire_M : fireS (mkS m a b d q now log) 13 = giveS (mkS m a b d (-1) q log) (5, 0, 13) := rfl
end

/-- What an input does: the cases. -/
theorem give_cases {m : Mc} (hm : mayS m = true) (a b d q now : Int) (log : List (Int × Out)) (i : In) :
    (m.1 = 1 ∧ i.1 = 5 ∧ i.2.2 = 1 ∧ giveS (mkS m a b d q now log) i = mkS (1, againS m.2.1, 0) (now + againS m.2.1) b d q now (log ++ [(now, (1, 0, 0, 0)), (now, (4, 0, 1, againS m.2.1))])) ∨
    (m.1 = 1 ∧ i.1 = 5 ∧ i.2.2 = 2 ∧ giveS (mkS m a b d q now log) i = mkS (7, 0, 0) a b d q now (log ++ [(now, (5, 0, 0, 0)), (now, (7, 0, 0, 0))])) ∨
    ((m.1 = 1 ∨ m.1 = 5) ∧ i.1 = 6 ∧ giveS (mkS m a b d q now log) i = mkS (7, 0, m.2.2) a b d q now (log ++ [(now, (6, 0, 0, 0)), (now, (7, 0, 0, 0))])) ∨
    ((m.1 = 1 ∨ m.1 = 3) ∧ i.1 = 2 ∧ (100 ≤ i.2.1 ∧ i.2.1 ≤ 199) ∧ giveS (mkS m a b d q now log) i = mkS (3, 0, 0) a b d q now (log ++ [(now, (3, i.2.1, 0, 0))])) ∨
    ((m.1 = 1 ∨ m.1 = 3) ∧ i.1 = 2 ∧ (200 ≤ i.2.1 ∧ i.2.1 ≤ 299) ∧ giveS (mkS m a b d q now log) i = mkS (4, 0, i.2.1) a b d (now + 32000) now (log ++ [(now, (3, i.2.1, 0, 0)), (now, (4, 0, 13, 32000))])) ∨
    ((m.1 = 1 ∨ m.1 = 3) ∧ i.1 = 2 ∧ (300 ≤ i.2.1 ∧ i.2.1 ≤ 699) ∧ giveS (mkS m a b d q now log) i = mkS (5, 0, i.2.1) a b (now + 32000) q now (log ++ [(now, (3, i.2.1, 0, 0)), (now, (2, i.2.1, 0, 0)), (now, (4, 0, 4, 32000))])) ∨
    (m.1 = 4 ∧ i.1 = 2 ∧ (200 ≤ i.2.1 ∧ i.2.1 ≤ 299) ∧ giveS (mkS m a b d q now log) i = mkS m a b d q now (log ++ [(now, (3, i.2.1, 0, 0))])) ∨
    (m.1 = 5 ∧ i.1 = 2 ∧ (300 ≤ i.2.1 ∧ i.2.1 ≤ 699) ∧ giveS (mkS m a b d q now log) i = mkS m a b d q now (log ++ [(now, (2, i.2.1, 0, 0))])) ∨
    (((m.1 = 4 ∧ i.2.2 = 13) ∨ (m.1 = 5 ∧ i.2.2 = 4)) ∧ i.1 = 5 ∧ giveS (mkS m a b d q now log) i = mkS (7, 0, m.2.2) a b d q now (log ++ [(now, (7, 0, 0, 0))])) ∨
    (¬ (i.1 = 5 ∧ (m.1 = 1 ∧ (i.2.2 = 1 ∨ i.2.2 = 2) ∨ m.1 = 4 ∧ i.2.2 = 13 ∨ m.1 = 5 ∧ i.2.2 = 4)) ∧ giveS (mkS m a b d q now log) i = mkS m a b d q now log) := by
  have hs := may_states hm
  unfold giveS
  rw [mk_m, step_same]
  unfold takeS
  rw [mk_set]
  unfold stepR
  rw [if_neg (by simp [hm])]
  by_cases k2 : i.1 = 2
  · rw [if_pos k2]
    unfold responseR
    by_cases a1 : (m.1 = 1 ∨ m.1 = 3) ∧ from_ i.2.1 100 199 = true
    · rw [if_pos a1]
      have := a1.2
      simp only [from_, Bool.and_eq_true, decide_eq_true_eq] at this
      refine .inr (.inr (.inr (.inl ⟨a1.1, k2, this, ?_⟩)))
      simp only [List.foldl]
      rw [put_plain _ _ _ _ _ _ _ _ (by simp)]
    · rw [if_neg a1]
      by_cases a2 : (m.1 = 1 ∨ m.1 = 3) ∧ from_ i.2.1 200 299 = true
      · rw [if_pos a2]
        have := a2.2
        simp only [from_, Bool.and_eq_true, decide_eq_true_eq] at this
        refine .inr (.inr (.inr (.inr (.inl ⟨a2.1, k2, this, ?_⟩))))
        simp only [List.foldl]
        rw [put_plain _ _ _ _ _ _ _ _ (by simp), put_M, show max (1 : Int) 32000 = 32000 by decide]
        simp
      · rw [if_neg a2]
        by_cases a3 : (m.1 = 1 ∨ m.1 = 3) ∧ from_ i.2.1 300 699 = true
        · rw [if_pos a3]
          have := a3.2
          simp only [from_, Bool.and_eq_true, decide_eq_true_eq] at this
          refine .inr (.inr (.inr (.inr (.inr (.inl ⟨a3.1, k2, this, ?_⟩)))))
          simp only [List.foldl]
          rw [put_plain _ _ _ _ _ _ _ _ (by simp), put_plain _ _ _ _ _ _ _ _ (by simp), put_D, show max (1 : Int) 32000 = 32000 by decide]
          simp
        · rw [if_neg a3]
          by_cases a4 : m.1 = 4 ∧ from_ i.2.1 200 299 = true
          · rw [if_pos a4]
            have := a4.2
            simp only [from_, Bool.and_eq_true, decide_eq_true_eq] at this
            refine .inr (.inr (.inr (.inr (.inr (.inr (.inl ⟨a4.1, k2, this, ?_⟩))))))
            simp only [List.foldl]
            rw [put_plain _ _ _ _ _ _ _ _ (by simp)]
          · rw [if_neg a4]
            by_cases a5 : m.1 = 5 ∧ from_ i.2.1 300 699 = true
            · rw [if_pos a5]
              have := a5.2
              simp only [from_, Bool.and_eq_true, decide_eq_true_eq] at this
              refine .inr (.inr (.inr (.inr (.inr (.inr (.inr (.inl ⟨a5.1, k2, this, ?_⟩)))))))
              simp only [List.foldl]
              rw [put_plain _ _ _ _ _ _ _ _ (by simp)]
            · rw [if_neg a5]
              exact .inr (.inr (.inr (.inr (.inr (.inr (.inr (.inr (.inr ⟨by omega, rfl⟩))))))))
  · rw [if_neg k2]
    by_cases k5 : i.1 = 5
    · have ht : timerR i = i.2.2 := if_pos k5
      rw [ht]
      by_cases a1 : m.1 = 1 ∧ i.2.2 = 1
      · rw [if_pos a1]
        obtain ⟨hc, hw⟩ := may_wait hm a1.1
        have hg := again_ok hm a1.1
        refine .inl ⟨a1.1, k5, a1.2, ?_⟩
        simp only [List.foldl]
        rw [put_plain _ _ _ _ _ _ _ _ (by simp), put_A, show max (1 : Int) (againS m.2.1) = againS m.2.1 by omega, hc, a1.1]
        simp
      · rw [if_neg a1]
        by_cases a2 : m.1 = 1 ∧ i.2.2 = 2
        · rw [if_pos a2]
          obtain ⟨hc, hw⟩ := may_wait hm a2.1
          refine .inr (.inl ⟨a2.1, k5, a2.2, ?_⟩)
          simp only [endedR, List.foldl, List.cons_append, List.nil_append]
          rw [put_plain _ _ _ _ _ _ _ _ (by simp), put_plain _ _ _ _ _ _ _ _ (by simp), hc]
          simp
        · rw [if_neg a2, if_neg (by omega)]
          by_cases a3 : m.1 = 4 ∧ i.2.2 = 13
          · rw [if_pos a3]
            refine .inr (.inr (.inr (.inr (.inr (.inr (.inr (.inr (.inl ⟨.inl a3, k5, ?_⟩))))))))
            simp only [endedR, List.foldl, List.nil_append]
            rw [put_plain _ _ _ _ _ _ _ _ (by simp)]
          · rw [if_neg a3]
            by_cases a4 : m.1 = 5 ∧ i.2.2 = 4
            · rw [if_pos a4]
              refine .inr (.inr (.inr (.inr (.inr (.inr (.inr (.inr (.inl ⟨.inr a4, k5, ?_⟩))))))))
              simp only [endedR, List.foldl, List.nil_append]
              rw [put_plain _ _ _ _ _ _ _ _ (by simp)]
            · rw [if_neg a4]
              exact .inr (.inr (.inr (.inr (.inr (.inr (.inr (.inr (.inr ⟨by omega, rfl⟩))))))))
    · have ht : timerR i = 0 := if_neg k5
      rw [ht, if_neg (by omega), if_neg (by omega)]
      by_cases a1 : i.1 = 6 ∧ (m.1 = 1 ∨ m.1 = 5)
      · rw [if_pos a1]
        refine .inr (.inr (.inl ⟨a1.2, a1.1, ?_⟩))
        simp only [endedR, List.foldl, List.cons_append, List.nil_append]
        rw [put_plain _ _ _ _ _ _ _ _ (by simp), put_plain _ _ _ _ _ _ _ _ (by simp)]
        simp
      · rw [if_neg a1, if_neg (by omega), if_neg (by omega)]
        exact .inr (.inr (.inr (.inr (.inr (.inr (.inr (.inr (.inr ⟨by omega, rfl⟩))))))))

end Go.Proofs.Ytlcpadonjbaaeaa
