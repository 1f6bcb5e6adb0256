/- What Step puts out is small. -/
import Derived.Test.YtlcpadonjbaaeaaSim
namespace Go.Proofs.Ytlcpadonjbaaeaa

theorem again_ok {m : Mc} (h : mayS m = true) (h1 : m.1 = 1) : 1000 ≤ againS m.2.1 ∧ againS m.2.1 ≤ 32000 := by
  have := (may_wait h h1).2
  unfold againS
  split <;> omega
theorem stepS_ok {m : Mc} (hm : OkM m) (i : In) : (stepS m i).2.length ≤ 8 ∧ (∀ o ∈ (stepS m i).2, OkO o) ∧ OkM (stepS m i).1 := by
  rw [step_same]
  unfold stepR
  split
  · exact ⟨by simp, by simp, by simp [OkM]⟩
  · rename_i h
    have h : mayS m = true := by simpa using h
    split
    · unfold responseR
      repeat' split
      all_goals first
        | exact ⟨by simp, by simp [OkO], hm⟩
        | exact ⟨by simp, by simp [OkO], by simp [OkM]⟩
    · split
      · rename_i h1
        have := again_ok h h1.1
        exact ⟨by simp, by simp [OkO]; omega, by simp only [OkM] at *; omega⟩
      · unfold endedR
        repeat' split
        all_goals first
          | exact ⟨by simp, by simp [OkO], hm⟩
          | exact ⟨by simp, by simp [OkO], by simp [OkM]⟩

/-- What Start returns. -/
def startM : Mc := (1, 500, 0)
def startL : List Out := [(1, 0, 0, 0), (4, 0, 1, 500), (4, 0, 2, 32000)]
theorem start_ok : startL.length ≤ 8 ∧ (∀ o ∈ startL, OkO o) ∧ OkM startM := ⟨by simp [startL], by simp [startL, OkO], by simp [startM, OkM]⟩
def startS : Sim := takeS { m := (0, 0, 0), due := List.replicate 14 (-1), now := 0, log := [] } startM startL

end Go.Proofs.Ytlcpadonjbaaeaa
