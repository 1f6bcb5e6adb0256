/- The plain part: the machine of a client of INVITE, its inputs and outputs as numbers; what May, Step and Copies compute. No program in sight. -/
namespace Go.Proofs.Ytlcpadonjbaaeaa

/-- A machine: state, interval, code. -/
abbrev Mc := Int × Int × Int
/-- An input: kind, code, timer. -/
abbrev In := Int × Int × Int
/-- An output: kind, code, timer, time. -/
abbrev Out := Int × Int × Int × Int
/-- A row's key: state, kind, class, timer. -/
abbrev Key := Int × Int × Int × Int

def from_ (n lo hi : Int) : Bool := decide (lo ≤ n) && decide (n ≤ hi)
def waitB (n : Int) : Bool := decide (n = 500) || decide (n = 1000) || decide (n = 2000) || decide (n = 4000) || decide (n = 8000) || decide (n = 16000) || decide (n = 32000)

/-- Is the machine possible? -/
def mayS (m : Mc) : Bool :=
  if m.1 = 1 then waitB m.2.1 && decide (m.2.2 = 0)
  else if m.1 = 3 then decide (m.2.1 = 0) && decide (m.2.2 = 0)
  else if m.1 = 4 then decide (m.2.1 = 0) && from_ m.2.2 200 299
  else if m.1 = 5 then decide (m.2.1 = 0) && from_ m.2.2 300 699
  else if m.1 = 7 then decide (m.2.1 = 0) && (decide (m.2.2 = 0) || from_ m.2.2 200 699)
  else false

/-- What a row does. -/
inductive Eff where
  | again
  | over (l : List Out)
  | stay (k : Int)
  | become (s : Int) (final : Bool) (f : Nat)

def classS (c : Int) : Int := if c < 100 ∨ 699 < c then 0 else if 300 ≤ c then 3 else c / 100
def keyS (m : Mc) (i : In) : Key := (m.1, i.1, if i.1 = 2 then classS i.2.1 else 0, if i.1 = 5 then i.2.2 else 0)
def tableS (k : Key) : Option Eff :=
  if k = (1, 5, 0, 1) then some .again
  else if k = (1, 5, 0, 2) then some (.over [(5, 0, 0, 0)])
  else if k = (1, 6, 0, 0) then some (.over [(6, 0, 0, 0)])
  else if k = (4, 2, 2, 0) then some (.stay 3)
  else if k = (4, 5, 0, 13) then some (.over [])
  else if k = (5, 2, 3, 0) then some (.stay 2)
  else if k = (5, 5, 0, 4) then some (.over [])
  else if k = (5, 6, 0, 0) then some (.over [(6, 0, 0, 0)])
  else if k = (1, 2, 1, 0) ∨ k = (3, 2, 1, 0) then some (.become 3 false 1)
  else if k = (1, 2, 2, 0) ∨ k = (3, 2, 2, 0) then some (.become 4 true 2)
  else if k = (1, 2, 3, 0) ∨ k = (3, 2, 3, 0) then some (.become 5 true 3)
  else none
def keysS : List Key := [(1, 5, 0, 1), (1, 5, 0, 2), (1, 6, 0, 0), (4, 2, 2, 0), (4, 5, 0, 13), (5, 2, 3, 0), (5, 5, 0, 4), (5, 6, 0, 0), (1, 2, 1, 0), (1, 2, 2, 0), (1, 2, 3, 0), (3, 2, 1, 0), (3, 2, 2, 0), (3, 2, 3, 0)]
def againS (w : Int) : Int := if 2 * w ≤ 32000 then 2 * w else 32000
def outsS (f : Nat) (c : Int) : List Out :=
  if f = 1 then [(3, c, 0, 0)] else if f = 2 then [(3, c, 0, 0), (4, 0, 13, 32000)] else [(3, c, 0, 0), (2, c, 0, 0), (4, 0, 4, 32000)]
def effS (e : Eff) (m : Mc) (c : Int) : Mc × List Out :=
  match e with
  | .again => ((m.1, againS m.2.1, m.2.2), [(1, 0, 0, 0), (4, 0, 1, againS m.2.1)])
  | .over l => ((7, 0, m.2.2), l ++ [(7, 0, 0, 0)])
  | .stay k => (m, [(k, c, 0, 0)])
  | .become s fin f => ((s, 0, if fin then c else 0), outsS f c)
def stepS (m : Mc) (i : In) : Mc × List Out :=
  if mayS m = false then ((0, 0, 0), [])
  else match tableS (keyS m i) with
    | some e => effS e m i.2.1
    | none => (m, [])

theorem table_none {k : Key} (h : k ∉ keysS) : tableS k = none := by
  unfold tableS
  have hn : ∀ x ∈ keysS, k ≠ x := fun x hx e => h (e ▸ hx)
  simp only [keysS, List.mem_cons, List.not_mem_nil, or_false, forall_eq_or_imp, forall_eq] at hn
  obtain ⟨h1, h2, h3, h4, h5, h6, h7, h8, h9, h10, h11, h12, h13, h14⟩ := hn
  rw [if_neg h1, if_neg h2, if_neg h3, if_neg h4, if_neg h5, if_neg h6, if_neg h7, if_neg h8, if_neg (fun x => x.elim h9 h12), if_neg (fun x => x.elim h10 h13), if_neg (fun x => x.elim h11 h14)]

/-- Step as the reference has it. -/
def responseR (m : Mc) (c : Int) : Mc × List Out :=
  if (m.1 = 1 ∨ m.1 = 3) ∧ from_ c 100 199 = true then ((3, 0, 0), [(3, c, 0, 0)])
  else if (m.1 = 1 ∨ m.1 = 3) ∧ from_ c 200 299 = true then ((4, 0, c), [(3, c, 0, 0), (4, 0, 13, 32000)])
  else if (m.1 = 1 ∨ m.1 = 3) ∧ from_ c 300 699 = true then ((5, 0, c), [(3, c, 0, 0), (2, c, 0, 0), (4, 0, 4, 32000)])
  else if m.1 = 4 ∧ from_ c 200 299 = true then (m, [(3, c, 0, 0)])
  else if m.1 = 5 ∧ from_ c 300 699 = true then (m, [(2, c, 0, 0)])
  else (m, [])
def endedR (m : Mc) (l : List Out) : Mc × List Out := ((7, 0, m.2.2), l ++ [(7, 0, 0, 0)])
def timerR (i : In) : Int := if i.1 = 5 then i.2.2 else 0
def stepR (m : Mc) (i : In) : Mc × List Out :=
  if mayS m = false then ((0, 0, 0), [])
  else if i.1 = 2 then responseR m i.2.1
  else if m.1 = 1 ∧ timerR i = 1 then ((m.1, againS m.2.1, m.2.2), [(1, 0, 0, 0), (4, 0, 1, againS m.2.1)])
  else if m.1 = 1 ∧ timerR i = 2 then endedR m [(5, 0, 0, 0)]
  else if i.1 = 6 ∧ (m.1 = 1 ∨ m.1 = 5) then endedR m [(6, 0, 0, 0)]
  else if m.1 = 4 ∧ timerR i = 13 then endedR m []
  else if m.1 = 5 ∧ timerR i = 4 then endedR m []
  else (m, [])

theorem may_states {m : Mc} (h : mayS m = true) : m.1 = 1 ∨ m.1 = 3 ∨ m.1 = 4 ∨ m.1 = 5 ∨ m.1 = 7 := by
  unfold mayS at h
  repeat' split at h
  all_goals first | omega | cases h
theorem may_wait {m : Mc} (h : mayS m = true) (h1 : m.1 = 1) : m.2.2 = 0 ∧ (m.2.1 = 500 ∨ m.2.1 = 1000 ∨ m.2.1 = 2000 ∨ m.2.1 = 4000 ∨ m.2.1 = 8000 ∨ m.2.1 = 16000 ∨ m.2.1 = 32000) := by
  unfold mayS at h
  rw [if_pos h1] at h
  simp only [waitB, Bool.and_eq_true, Bool.or_eq_true, decide_eq_true_eq] at h
  omega
theorem class_cases (c : Int) : (classS c = 0 ∧ from_ c 100 199 = false ∧ from_ c 200 299 = false ∧ from_ c 300 699 = false) ∨ (classS c = 1 ∧ from_ c 100 199 = true ∧ from_ c 200 299 = false ∧ from_ c 300 699 = false) ∨
    (classS c = 2 ∧ from_ c 100 199 = false ∧ from_ c 200 299 = true ∧ from_ c 300 699 = false) ∨ (classS c = 3 ∧ from_ c 100 199 = false ∧ from_ c 200 299 = false ∧ from_ c 300 699 = true) := by
  have f : ∀ a b : Int, from_ c a b = decide (a ≤ c ∧ c ≤ b) := fun a b => by simp [from_]
  simp only [f, decide_eq_true_eq, decide_eq_false_iff_not]
  unfold classS
  repeat' split
  all_goals omega

theorem step_same (m : Mc) (i : In) : stepS m i = stepR m i := by
  by_cases hm : mayS m = true
  · have hf : ¬ mayS m = false := by simp [hm]
    have hs := may_states hm
    unfold stepS stepR
    rw [if_neg hf, if_neg hf]
    obtain ⟨s, w, c⟩ := m
    obtain ⟨k, d, t⟩ := i
    have hw : s = 1 → c = 0 := fun h => (may_wait hm h).1
    have hw3 : s = 3 → w = 0 ∧ c = 0 := fun h => by
      subst h
      simpa [mayS] using hm
    simp only at hs
    by_cases k2 : k = 2
    · subst k2
      rcases class_cases d with ⟨h0, h1, h2, h3⟩ | ⟨h0, h1, h2, h3⟩ | ⟨h0, h1, h2, h3⟩ | ⟨h0, h1, h2, h3⟩ <;>
        rcases hs with rfl | rfl | rfl | rfl | rfl <;> simp [keyS, h0, tableS, effS, outsS, responseR, h1, h2, h3]
    · by_cases k5 : k = 5
      · subst k5
        have ht : timerR (5, d, t) = t := rfl
        rcases hs with rfl | rfl | rfl | rfl | rfl
        · by_cases t1 : t = 1
          · subst t1; simp [keyS, tableS, effS, ht]
          · by_cases t2 : t = 2
            · subst t2; simp [keyS, tableS, effS, endedR, ht]
            · simp [keyS, tableS, ht, t1, t2]
        · simp [keyS, tableS, ht]
        · by_cases t1 : t = 13
          · subst t1; simp [keyS, tableS, effS, endedR, ht]
          · simp [keyS, tableS, ht, t1]
        · by_cases t1 : t = 4
          · subst t1; simp [keyS, tableS, effS, endedR, ht]
          · simp [keyS, tableS, ht, t1]
        · simp [keyS, tableS, ht]
      · have ht : timerR (k, d, t) = 0 := if_neg k5
        by_cases k6 : k = 6
        · subst k6
          rcases hs with rfl | rfl | rfl | rfl | rfl <;> simp [keyS, tableS, effS, endedR, ht]
        · rcases hs with rfl | rfl | rfl | rfl | rfl <;> simp [keyS, tableS, k2, k5, k6, ht]
  · have hm : mayS m = false := by simpa using hm
    unfold stepS stepR
    rw [if_pos hm, if_pos hm]

/-- How many copies are sent up to a time. -/
def timesS : List Int := [0, 500, 1500, 3500, 7500, 15500, 31500]
def copiesS (u : Int) : Int := ((timesS.filter fun t => decide (t ≤ u)).length : Int)

end Go.Proofs.Ytlcpadonjbaaeaa
