/- The plain part: the machine of a client, its inputs and outputs as numbers; what May, Step and Copies compute. No program in sight. -/
namespace Go.Proofs.Ytlmanafplbddoaa

/-- A machine: state, interval, code. -/
abbrev Mc := Int × Int × Int
/-- An input: kind, code, timer. -/
abbrev In := Int × Int × Int
/-- An output: kind, code, timer, time. -/
abbrev Out := Int × Int × Int × Int

def from_ (n lo hi : Int) : Bool := decide (lo ≤ n) && decide (n ≤ hi)
def shortB (n : Int) : Bool := decide (n = 500) || decide (n = 1000) || decide (n = 2000) || decide (n = 4000)

/-- Is the machine possible? -/
def mayS (m : Mc) : Bool :=
  if m.1 = 2 ∨ m.1 = 3 then shortB m.2.1 && decide (m.2.2 = 0)
  else if m.1 = 5 then decide (m.2.1 = 0) && from_ m.2.2 200 699
  else if m.1 = 7 then decide (m.2.1 = 0) && (decide (m.2.2 = 0) || from_ m.2.2 200 699)
  else false

/-- The least of twice the interval and 4000. -/
def longerS (n : Int) : Int := if 2 * n ≤ 4000 then 2 * n else 4000
def overS (m : Mc) (l : List Out) : Mc × List Out := ((7, 0, m.2.2), l ++ [(7, 0, 0, 0)])
def firedS (m : Mc) (t : Int) : Mc × List Out :=
  if t = 5 then ((m.1, if m.1 = 3 then 4000 else longerS m.2.1, m.2.2), [(1, 0, 0, 0), (4, 0, 5, if m.1 = 3 then 4000 else longerS m.2.1)])
  else if t = 6 then overS m [(5, 0, 0, 0)]
  else (m, [])
def responseS (m : Mc) (c : Int) : Mc × List Out :=
  if c < 100 ∨ 699 < c then (m, [])
  else if c < 200 then ((3, m.2.1, m.2.2), [(3, c, 0, 0)])
  else ((5, 0, c), [(3, c, 0, 0), (4, 0, 11, 5000)])
def openS (m : Mc) (i : In) : Mc × List Out :=
  if i.1 = 6 then overS m [(6, 0, 0, 0)]
  else if i.1 = 5 then firedS m i.2.2
  else if i.1 = 2 then responseS m i.2.1
  else (m, [])
def completedS (m : Mc) (i : In) : Mc × List Out := if i.1 = 5 ∧ i.2.2 = 11 then overS m [] else (m, [])
def stepS (m : Mc) (i : In) : Mc × List Out :=
  if mayS m = false then ((0, 0, 0), [])
  else if m.1 = 2 ∨ m.1 = 3 then openS m i
  else if m.1 = 5 then completedS m i
  else (m, [])

/-- Step as the reference has it. -/
def openR (m : Mc) (i : In) : Mc × List Out :=
  if i.1 = 5 ∧ i.2.2 = 5 then ((m.1, if m.1 = 2 then longerS m.2.1 else 4000, m.2.2), [(1, 0, 0, 0), (4, 0, 5, if m.1 = 2 then longerS m.2.1 else 4000)])
  else if i.1 = 5 ∧ i.2.2 = 6 then ((7, 0, 0), [(5, 0, 0, 0), (7, 0, 0, 0)])
  else if i.1 = 6 then ((7, 0, 0), [(6, 0, 0, 0), (7, 0, 0, 0)])
  else if i.1 = 2 ∧ from_ i.2.1 100 199 = true then ((3, m.2.1, 0), [(3, i.2.1, 0, 0)])
  else if i.1 = 2 ∧ from_ i.2.1 200 699 = true then ((5, 0, i.2.1), [(3, i.2.1, 0, 0), (4, 0, 11, 5000)])
  else (m, [])
def stepR (m : Mc) (i : In) : Mc × List Out :=
  if mayS m = false then ((0, 0, 0), [])
  else if m.1 = 2 ∨ m.1 = 3 then openR m i
  else if m.1 = 5 ∧ i.1 = 5 ∧ i.2.2 = 11 then ((7, 0, m.2.2), [(7, 0, 0, 0)])
  else (m, [])

theorem may_open {m : Mc} (h : mayS m = true) (h1 : m.1 = 2 ∨ m.1 = 3) : m.2.2 = 0 ∧ (m.2.1 = 500 ∨ m.2.1 = 1000 ∨ m.2.1 = 2000 ∨ m.2.1 = 4000) := by
  unfold mayS at h
  rw [if_pos h1] at h
  simp only [shortB, Bool.and_eq_true, Bool.or_eq_true, decide_eq_true_eq] at h
  omega
theorem may_states {m : Mc} (h : mayS m = true) : m.1 = 2 ∨ m.1 = 3 ∨ m.1 = 5 ∨ m.1 = 7 := by
  unfold mayS at h
  split at h
  · omega
  · split at h
    · omega
    · split at h
      · omega
      · cases h

theorem open_same {m : Mc} (h : mayS m = true) (h1 : m.1 = 2 ∨ m.1 = 3) (i : In) : openS m i = openR m i := by
  obtain ⟨h2, -⟩ := may_open h h1
  obtain ⟨s, w, c⟩ := m
  obtain ⟨k, d, t⟩ := i
  simp only at h1 h2
  subst h2
  unfold openS openR
  by_cases k6 : k = 6
  · subst k6; simp [overS]
  · by_cases k5 : k = 5
    · subst k5
      by_cases t5 : t = 5
      · subst t5
        rcases h1 with rfl | rfl <;> simp [firedS]
      · by_cases t6 : t = 6
        · subst t6; simp [firedS, overS]
        · simp [firedS, t5, t6]
    · by_cases k2 : k = 2
      · subst k2
        by_cases c1 : d < 100 ∨ 699 < d
        · have a1 : from_ d 100 199 = false := by simp [from_]; omega
          have a2 : from_ d 200 699 = false := by simp [from_]; omega
          simp [responseS, c1, a1, a2]
        · by_cases c2 : d < 200
          · have a1 : from_ d 100 199 = true := by simp [from_]; omega
            simp [responseS, c1, c2, a1]
          · have a1 : from_ d 100 199 = false := by simp [from_]; omega
            have a2 : from_ d 200 699 = true := by simp [from_]; omega
            simp [responseS, c1, c2, a1, a2]
      · simp [k6, k5, k2]

theorem step_same (m : Mc) (i : In) : stepS m i = stepR m i := by
  by_cases hm : mayS m = true
  · unfold stepS stepR
    have hf : ¬ mayS m = false := by simp [hm]
    rw [if_neg hf, if_neg hf]
    by_cases h1 : m.1 = 2 ∨ m.1 = 3
    · rw [if_pos h1, if_pos h1]
      exact open_same hm h1 i
    · rw [if_neg h1, if_neg h1]
      by_cases h5 : m.1 = 5
      · rw [if_pos h5]
        unfold completedS
        by_cases hh : i.1 = 5 ∧ i.2.2 = 11
        · rw [if_pos hh, if_pos ⟨h5, hh.1, hh.2⟩]; rfl
        · rw [if_neg hh, if_neg (fun x => hh ⟨x.2.1, x.2.2⟩)]
      · rw [if_neg h5, if_neg (fun x => h5 x.1)]
  · have hm : mayS m = false := by simpa using hm
    unfold stepS stepR
    rw [if_pos hm, if_pos hm]

/-- How many copies are sent up to a time. -/
def timesS : List Int := [0, 500, 1500, 3500, 7500, 11500, 15500, 19500, 23500, 27500, 31500]
def copiesS (u : Int) : Int := ((timesS.filter fun t => decide (t ≤ u)).length : Int)

end Go.Proofs.Ytlmanafplbddoaa
