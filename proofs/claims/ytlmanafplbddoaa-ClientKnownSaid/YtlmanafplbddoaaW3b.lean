/- The walk: May of the reference. -/
import Derived.Test.YtlmanafplbddoaaW3
namespace Go.Proofs.Ytlmanafplbddoaa
open Go.RowKit

set_option maxRecDepth 100000 in
set_option maxHeartbeats 1000000 in
theorem rmay_any (m : Mc) (w : World) :
    Calls Try.prog 28 #[mval m] w fun e w' => e = .returned (.bool (mayS m)) ∧ Below w.heap.size w w' := by
  obtain ⟨s, n, c⟩ := m
  by_cases h1 : s = 2 ∨ s = 3
  · have HS : Hid (mayS (s, n, c) = (shortB n && decide (c = 0))) := if_pos h1
    rcases h1 with rfl | rfl
    all_goals
      go_enter Try.func28, Try.ntmps28
      go_wp2_with fail
      refine (short_any (_, n, c) _).mono ?_
      rintro e w1 ⟨rfl, hb⟩
      have hn := block_below (heap_alloc_new w _) hb (by simp)
      obtain ⟨⟨a0, a1, a2⟩, -⟩ := cells3 hn
      have HB : Hid (Below w.heap.size w w1) := ((Below.refl _ _).alloc (Nat.le_refl _) _).trans (hb.mono (by simp))
      have q0 : w.heap.size < w1.heap.size := by have := hb.size; simp at this; omega
      clear hn hb
      cases hs : shortB n
      all_goals
        have HS2 := HS.out
        rw [hs] at HS2
        have HS3 : Hid (mayS (_, n, c) = _) := HS2
        clear hs HS2
        go_wp2_with fail
        go_ret
        refine ⟨ret_bool ?_, HB.out⟩
        rw [HS3.out]
        first | (simp; done) | (rw [Bool.eq_iff_iff]; simp)
  · go_enter Try.func28, Try.ntmps28
    go_wp2_with (go_at_call 34; refine (from_any _ _ _ _).mono ?_; rintro e w1 ⟨rfl, rfl⟩)
    all_goals
      go_ret
      refine ⟨ret_bool ?_, (Below.refl _ _).alloc (Nat.le_refl _) _⟩
    all_goals first | (simp_all [mayS]; done) | (simp_all [mayS]; omega) | (rw [Bool.eq_iff_iff]; simp_all [mayS])

end Go.Proofs.Ytlmanafplbddoaa
