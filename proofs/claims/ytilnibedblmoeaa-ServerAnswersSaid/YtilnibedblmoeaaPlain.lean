/- The plain part: the machine of a server, its inputs and outputs as numbers; what May and Step compute. No program in sight. -/
namespace Go.Proofs.Ytilnibedblmoeaa

/-- A machine: state, interval, code. -/
abbrev Mc := Int × Int × Int
/-- An input: kind, code, timer. -/
abbrev In := Int × Int × Int
/-- An output: kind, code, timer, time. -/
abbrev Out := Int × Int × Int × Int

def from_ (n lo hi : Int) : Bool := decide (lo ≤ n) && decide (n ≤ hi)

/-- Is the machine possible? -/
def mayS (m : Mc) : Bool :=
  if m.2.1 ≠ 0 then false
  else if m.1 = 2 then decide (m.2.2 = 0)
  else if m.1 = 3 then from_ m.2.2 100 199
  else if m.1 = 5 then from_ m.2.2 200 699
  else if m.1 = 7 then from_ m.2.2 100 699
  else false

/-- A row of the table: state, kind, least, most, next, output. -/
abbrev Row := Int × Int × Int × Int × Int × Int
def rowsS : List Row := [(2, 4, 100, 199, 3, 1), (2, 4, 200, 699, 5, 4), (3, 4, 100, 199, 3, 1), (3, 4, 200, 699, 5, 4), (3, 1, 0, 0, 3, 1), (5, 1, 0, 0, 5, 1), (3, 6, 0, 0, 7, 6), (5, 6, 0, 0, 7, 6)]
/-- The code that the table looks at. -/
def codeS (i : In) : Int := if i.1 = 4 then i.2.1 else 0
def fits (m : Mc) (i : In) (r : Row) : Bool := decide (r.1 = m.1) && decide (r.2.1 = i.1) && decide (r.2.2.1 ≤ codeS i) && decide (codeS i ≤ r.2.2.2.1)
/-- The code behind a row. -/
def nextCode (m : Mc) (i : In) : Int := if i.1 = 4 then codeS i else m.2.2
def outsOf (m : Mc) (i : In) (r : Row) : List Out :=
  if r.2.2.2.2.2 = 4 then [(1, nextCode m i, 0, 0), (4, 0, 10, 32000)]
  else if r.2.2.2.2.2 = 6 then [(6, 0, 0, 0), (7, 0, 0, 0)]
  else [(1, nextCode m i, 0, 0)]
def byRow (m : Mc) (i : In) (r : Row) : Mc × List Out := ((r.2.2.2.2.1, 0, nextCode m i), outsOf m i r)
def byRows (m : Mc) (i : In) : List Row → Mc × List Out
  | [] => (m, [])
  | r :: rs => if fits m i r = true then byRow m i r else byRows m i rs
def stepS (m : Mc) (i : In) : Mc × List Out :=
  if mayS m = false then ((0, 0, 0), [])
  else if m.1 = 5 ∧ i.1 = 5 ∧ i.2.2 = 10 then ((7, 0, m.2.2), [(7, 0, 0, 0)])
  else byRows m i rowsS

/-- Step as the reference has it. -/
def stepR (m : Mc) (i : In) : Mc × List Out :=
  if mayS m = false then ((0, 0, 0), [])
  else if (m.1 = 2 ∨ m.1 = 3) ∧ i.1 = 4 ∧ from_ i.2.1 100 199 = true then ((3, 0, i.2.1), [(1, i.2.1, 0, 0)])
  else if (m.1 = 2 ∨ m.1 = 3) ∧ i.1 = 4 ∧ from_ i.2.1 200 699 = true then ((5, 0, i.2.1), [(1, i.2.1, 0, 0), (4, 0, 10, 32000)])
  else if (m.1 = 3 ∨ m.1 = 5) ∧ i.1 = 1 then (m, [(1, m.2.2, 0, 0)])
  else if (m.1 = 3 ∨ m.1 = 5) ∧ i.1 = 6 then ((7, 0, m.2.2), [(6, 0, 0, 0), (7, 0, 0, 0)])
  else if m.1 = 5 ∧ i.1 = 5 ∧ i.2.2 = 10 then ((7, 0, m.2.2), [(7, 0, 0, 0)])
  else (m, [])

theorem may_states {m : Mc} (h : mayS m = true) : m.2.1 = 0 ∧ (m.1 = 2 ∨ m.1 = 3 ∨ m.1 = 5 ∨ m.1 = 7) := by
  unfold mayS at h
  split at h
  · cases h
  · rename_i h0
    refine ⟨by simpa using h0, ?_⟩
    split at h
    · exact .inl ‹_›
    · split at h
      · exact .inr (.inl ‹_›)
      · split at h
        · exact .inr (.inr (.inl ‹_›))
        · split at h
          · exact .inr (.inr (.inr ‹_›))
          · cases h

theorem step_same (m : Mc) (i : In) : stepS m i = stepR m i := by
  obtain ⟨s, w, c⟩ := m
  obtain ⟨k, d, t⟩ := i
  by_cases hm : mayS (s, w, c) = true
  · obtain ⟨hw, hs⟩ := may_states hm
    simp only at hw hs
    subst hw
    rcases hs with rfl | rfl | rfl | rfl
    all_goals
      by_cases k4 : k = 4
      · subst k4
        by_cases h1 : 100 ≤ d ∧ d ≤ 199
        · have : ¬ (200 ≤ d ∧ d ≤ 699) := by omega
          simp [stepS, stepR, hm, rowsS, byRows, fits, codeS, byRow, outsOf, nextCode, from_, h1]
        · by_cases h2 : 200 ≤ d ∧ d ≤ 699
          · simp [stepS, stepR, hm, rowsS, byRows, fits, codeS, byRow, outsOf, nextCode, from_, h1, h2]
          · simp [stepS, stepR, hm, rowsS, byRows, fits, codeS, from_, h1, h2]
      · by_cases k1 : k = 1
        · subst k1
          simp [stepS, stepR, hm, rowsS, byRows, fits, codeS, byRow, outsOf, nextCode, from_]
        · by_cases k6 : k = 6
          · subst k6
            simp [stepS, stepR, hm, rowsS, byRows, fits, codeS, byRow, outsOf, nextCode, from_]
          · simp [stepS, stepR, hm, rowsS, byRows, fits, codeS, from_, k4, k1, k6, Ne.symm k4, Ne.symm k1, Ne.symm k6]
  · have hm : mayS (s, w, c) = false := by simpa using hm
    unfold stepS stepR
    rw [if_pos hm, if_pos hm]

end Go.Proofs.Ytilnibedblmoeaa
