/- What Step puts out is small. -/
import Derived.Test.YtilnibedblmoeaaSim
namespace Go.Proofs.Ytilnibedblmoeaa

theorem stepS_ok (m : Mc) (i : In) : (stepS m i).2.length ≤ 8 ∧ ∀ o ∈ (stepS m i).2, OkO o := by
  rw [step_same]
  unfold stepR
  repeat' split
  all_goals exact ⟨by simp, by simp [OkO]⟩

/-- What Start returns. -/
def startM : Mc := (2, 0, 0)
def startL : List Out := [(3, 0, 0, 0)]
theorem start_ok : startL.length ≤ 8 ∧ ∀ o ∈ startL, OkO o := ⟨by simp [startL], by simp [startL, OkO]⟩
def startS : Sim := takeS { m := (0, 0, 0), due := List.replicate 14 (-1), now := 0, log := [] } startM startL

end Go.Proofs.Ytilnibedblmoeaa
