/- What Step puts out is small. -/
import Derived.Test.YtlmanafplbddoaaSim
namespace Go.Proofs.Ytlmanafplbddoaa

theorem longer_ok {m : Mc} (h : mayS m = true) (h1 : m.1 = 2 ∨ m.1 = 3) : 1000 ≤ longerS m.2.1 ∧ longerS m.2.1 ≤ 4000 := by
  have := (may_open h h1).2
  unfold longerS
  split <;> omega
theorem stepS_ok {m : Mc} (hm : OkM m) (i : In) : (stepS m i).2.length ≤ 8 ∧ (∀ o ∈ (stepS m i).2, OkO o) ∧ OkM (stepS m i).1 := by
  rw [step_same]
  unfold stepR
  split
  · exact ⟨by simp, by simp, by simp [OkM]⟩
  · rename_i h
    have h : mayS m = true := by simpa using h
    split
    · rename_i h1
      have := longer_ok h h1
      unfold openR
      repeat' split
      all_goals first
        | exact ⟨by simp, by simp [OkO]; try omega, by simp only [OkM] at *; first | omega | exact hm⟩
        | exact ⟨by simp, by simp [OkO], hm⟩
    · split
      · exact ⟨by simp, by simp [OkO], by simp [OkM]⟩
      · exact ⟨by simp, by simp, hm⟩

/-- What Start returns. -/
def startM : Mc := (2, 500, 0)
def startL : List Out := [(1, 0, 0, 0), (4, 0, 5, 500), (4, 0, 6, 32000)]
theorem start_ok : startL.length ≤ 8 ∧ (∀ o ∈ startL, OkO o) ∧ OkM startM := ⟨by simp [startL], by simp [startL, OkO], by simp [startM, OkM]⟩
def startS : Sim := takeS { m := (0, 0, 0), due := List.replicate 14 (-1), now := 0, log := [] } startM startL

end Go.Proofs.Ytlmanafplbddoaa
