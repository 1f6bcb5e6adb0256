/- The walks: timer, longer, Start of both sides, May of both sides. -/
import Derived.Test.YtlmanafplbddoaaW1
import Derived.RegionTactic
import Derived.BigRegion
namespace Go.Proofs.Ytlmanafplbddoaa
open Go.RowKit

theorem size26 : (Try.prog.info? 26).map (·.size) = some 3 := by kernel_rfl
def mcells (m : Mc) : Array Value := #[.int .u8 m.1, .int .i64 m.2.1, .int .i64 m.2.2]
def icells (i : In) : Array Value := #[.int .u8 i.1, .int .i64 i.2.1, .int .u8 i.2.2]
theorem cells3 {w : World} {g : Nat} {t : TypeId} {a b c : Value} (h : w.heap[g]? = some (.cells #[a, b, c] t (0, 0))) :
    (w.cell? ⟨g, 0, none⟩ = some a ∧ w.cell? ⟨g, 1, none⟩ = some b ∧ w.cell? ⟨g, 2, none⟩ = some c) ∧ ∀ o, w.frozen? ⟨g, o, none⟩ = false :=
  ⟨⟨cells_of_block h 0, cells_of_block h 1, cells_of_block h 2⟩, fun _ => frozen_of_row _ _ _ _ _ h⟩

set_option maxHeartbeats 400000 in
theorem timer_any (t a : Int) (w : World) :
    Calls Try.prog 26 #[.int .u8 t, .int .i64 a] w fun e w' => e = .returned (oval (4, 0, t, a)) ∧ Below w.heap.size w w' := by
  go_enter Try.func26, Try.ntmps26
  go_wp2
  exact bodyPost_ret (v := oval (4, 0, t, a)) (by simp [results, Try.results26, go_sem]) rfl ⟨rfl, (Below.refl _ _).alloc (Nat.le_refl _) _⟩

theorem longer_any (n : Int) (w : World) (h0 : 0 ≤ n) (h1 : n ≤ 100000) :
    Calls Try.prog 29 #[.int .i64 n] w fun e w' => e = .returned (.int .i64 (longerS n)) ∧ w = w' := by
  unfold longerS
  by_cases h : 2 * n ≤ 4000
  · rw [if_pos h]
    go_enter Try.func29, Try.ntmps29
    go_wp2
    all_goals
      go_ret
      exact ⟨ret_int (by omega), rfl⟩
  · rw [if_neg h]
    go_enter Try.func29, Try.ntmps29
    go_wp2
    all_goals
      go_ret
      exact ⟨ret_int (by omega), rfl⟩




set_option maxHeartbeats 1000000 in
theorem start_any (w : World) :
    Calls Try.prog 16 #[] w fun e w' => ∃ v, e = .returned (.tuple #[mval (2, 500, 0), v]) ∧ w'.ownsRow w.heap.size 40 4 v 3 (oscells [(1, 0, 0, 0), (4, 0, 5, 500), (4, 0, 6, 32000)]) ∧ Below w.heap.size w w' := by
  go_enter Try.func16, Try.ntmps16
  go_wp2_with fail
  refine (timer_any _ _ _).mono ?_
  rintro e w1 ⟨rfl, hb1⟩
  go_wp2_with fail
  refine (timer_any _ _ _).mono ?_
  rintro e w2 ⟨rfl, hb2⟩
  have hb12 := hb1.trans (hb2.mono hb1.size)
  have hn : w2.heap[w.heap.size]? = some (.cells #[.int .u8 0, .int .i64 0, .int .i64 0] 26 (0, 0)) := block_below (heap_alloc_new w _) hb12 (by simp)
  have q0 : w.heap.size < w2.heap.size := by have := hb12.size; simp at this; omega
  have HW : Hid (Below w.heap.size w w2) := ((Below.refl _ _).alloc (Nat.le_refl _) _).trans (hb12.mono (by simp))
  have HN : Hid (w2.heap[w.heap.size]? = some (.cells #[.int .u8 0, .int .i64 0, .int .i64 0] 26 (0, 0))) := hn
  obtain ⟨⟨a0, a1, a2⟩, f0⟩ := cells3 hn
  clear hb1 hb2 hb12 hn
  go_wp2_with fail
  refine bodyPost_ret (results_row_tmp rfl _ _ w.heap.size 26 (mcells (2, 500, 0)) (0, 0) _ rfl ?_ Try.underlying26 rfl size26) rfl ?_
  · show (World.alloc _ _).heap[_]? = _
    rw [heap_alloc_old]
    · exact block_store3 _ _ _ HN.out
    · simpa using q0
  · refine ⟨_, rfl, own_new (w := World.setCell _ _ _) [(1, 0, 0, 0), (4, 0, 5, 500), (4, 0, 6, 32000)] 3 rfl (by simp) rfl (by simp [maxLen]) (by simp; omega), ?_⟩
    exact (((HW.out.setCell (by simp) _).setCell (by simp) _).setCell (by simp) _).alloc (by simp; omega) _

set_option maxHeartbeats 1000000 in
theorem rstart_any (w : World) :
    Calls Try.prog 17 #[] w fun e w' => ∃ v, e = .returned (.tuple #[mval (2, 500, 0), v]) ∧ w'.ownsRow w.heap.size 40 4 v 3 (oscells [(1, 0, 0, 0), (4, 0, 5, 500), (4, 0, 6, 32000)]) ∧ Below w.heap.size w w' := by
  go_enter Try.func17, Try.ntmps17
  go_wp2
  go_returns
  refine ⟨_, rfl, own_new [(1, 0, 0, 0), (4, 0, 5, 500), (4, 0, 6, 32000)] 3 rfl (by simp) rfl (by simp [maxLen]) (by simp), ((Below.refl _ _).alloc (Nat.le_refl _) _).alloc (by simp) _⟩

theorem short_any (m : Mc) (w : World) :
    Calls Try.prog 33 #[mval m] w fun e w' => e = .returned (.bool (shortB m.2.1)) ∧ Below w.heap.size w w' := by
  go_enter Try.func33, Try.ntmps33
  go_wp2
  all_goals
    go_ret
    refine ⟨ret_bool ?_, (Below.refl _ _).alloc (Nat.le_refl _) _⟩
  all_goals first | (simp_all [shortB]; done) | (rw [Bool.eq_iff_iff]; simp_all [shortB])

end Go.Proofs.Ytlmanafplbddoaa
