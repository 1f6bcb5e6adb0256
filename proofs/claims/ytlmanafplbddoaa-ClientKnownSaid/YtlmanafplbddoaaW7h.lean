/- The walk: open of the reference. -/
import Derived.Test.YtlmanafplbddoaaW7g
namespace Go.Proofs.Ytlmanafplbddoaa
open Go.RowKit

set_option maxRecDepth 100000 in
set_option maxHeartbeats 4000000 in
theorem ropen_rest (m : Mc) (i : In) (w : World) (h5 : ¬ i.1 = 5) (h6 : ¬ i.1 = 6) (h2 : ¬ i.1 = 2) : Calls Try.prog 32 #[mval m, ival i] w (GivesS w (m, [])) := by
  have d5 : (i.1 == 5) = false := by simpa using h5
  have d6 : (i.1 == 6) = false := by simpa using h6
  have d2 : (i.1 == 2) = false := by simpa using h2
  clear h5 h6 h2
  go_enter Try.func32, Try.ntmps32
  go_wp2
  go_returns
  exact ⟨_, rfl, World.ownsRow_nil _ _ _ _, ((((Below.refl _ _).alloc (Nat.le_refl _) _).alloc (by simp) _).alloc (by simp; omega) _).alloc (by simp; omega) _⟩

/-- Four new blocks, each above the world's. -/
theorem below4 (w : World) (a b c d : Obj) : Below w.heap.size w ((((w.alloc a).alloc b).alloc c).alloc d) := ((((Below.refl _ _).alloc (Nat.le_refl _) _).alloc (by simp) _).alloc (by simp; omega) _).alloc (by simp; omega) _

set_option maxRecDepth 100000 in
set_option maxHeartbeats 4000000 in
theorem ropen_other (m : Mc) (i : In) (w : World) (h5 : i.1 = 5) (ht : ¬ i.2.2 = 5) (ht6 : ¬ i.2.2 = 6) : Calls Try.prog 32 #[mval m, ival i] w (GivesS w (m, [])) := by
  have d5 : (i.1 == 5) = true := by simpa using h5
  have d6 : (i.1 == 6) = false := by simp [h5]
  have d2 : (i.1 == 2) = false := by simp [h5]
  have e5 : (i.2.2 == 5) = false := by simpa using ht
  have e6 : (i.2.2 == 6) = false := by simpa using ht6
  clear h5 ht ht6
  go_enter Try.func32, Try.ntmps32
  go_wp2
  go_returns
  exact ⟨_, rfl, World.ownsRow_nil _ _ _ _, below4 _ _ _ _ _⟩

set_option maxRecDepth 100000 in
set_option maxHeartbeats 4000000 in
theorem ropen_f (m : Mc) (i : In) (w : World) (h5 : i.1 = 5) (ht : i.2.2 = 6) : Calls Try.prog 32 #[mval m, ival i] w (GivesS w ((7, 0, 0), [(5, 0, 0, 0), (7, 0, 0, 0)])) := by
  have d5 : (i.1 == 5) = true := by simpa using h5
  have e5 : (i.2.2 == 5) = false := by simp [ht]
  have e6 : (i.2.2 == 6) = true := by simpa using ht
  clear h5 ht
  go_enter Try.func32, Try.ntmps32
  go_wp2
  go_returns
  exact ⟨_, rfl, own_new (w := World.alloc _ _) [(5, 0, 0, 0), (7, 0, 0, 0)] 2 rfl (by simp) rfl (by simp [maxLen]) (by simp; omega), (below4 _ _ _ _ _).alloc (by simp; omega) _⟩

set_option maxRecDepth 100000 in
set_option maxHeartbeats 4000000 in
theorem ropen_fail (m : Mc) (i : In) (w : World) (h6 : i.1 = 6) : Calls Try.prog 32 #[mval m, ival i] w (GivesS w ((7, 0, 0), [(6, 0, 0, 0), (7, 0, 0, 0)])) := by
  have d5 : (i.1 == 5) = false := by simp [h6]
  have d6 : (i.1 == 6) = true := by simpa using h6
  clear h6
  go_enter Try.func32, Try.ntmps32
  go_wp2
  go_returns
  exact ⟨_, rfl, own_new (w := World.alloc _ _) [(6, 0, 0, 0), (7, 0, 0, 0)] 2 rfl (by simp) rfl (by simp [maxLen]) (by simp; omega), (below4 _ _ _ _ _).alloc (by simp; omega) _⟩

end Go.Proofs.Ytlmanafplbddoaa
