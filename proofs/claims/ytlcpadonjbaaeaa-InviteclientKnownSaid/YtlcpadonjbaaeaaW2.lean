/- The walks: timer, class, Start of both sides. -/
import Derived.Test.YtlcpadonjbaaeaaW1
import Derived.RegionTactic
import Derived.BigRegion
namespace Go.Proofs.Ytlcpadonjbaaeaa
open Go.RowKit

theorem size31 : (Try.prog.info? 31).map (·.size) = some 3 := by kernel_rfl
def mcells (m : Mc) : Array Value := #[.int .u8 m.1, .int .i64 m.2.1, .int .i64 m.2.2]
def icells (i : In) : Array Value := #[.int .u8 i.1, .int .i64 i.2.1, .int .u8 i.2.2]
theorem cells3 {w : World} {g : Nat} {t : TypeId} {a b c : Value} (h : w.heap[g]? = some (.cells #[a, b, c] t (0, 0))) :
    (w.cell? ⟨g, 0, none⟩ = some a ∧ w.cell? ⟨g, 1, none⟩ = some b ∧ w.cell? ⟨g, 2, none⟩ = some c) ∧ ∀ o, w.frozen? ⟨g, o, none⟩ = false :=
  ⟨⟨cells_of_block h 0, cells_of_block h 1, cells_of_block h 2⟩, fun _ => frozen_of_row _ _ _ _ _ h⟩
theorem cell1 {w : World} {g : Nat} {t : TypeId} {a : Value} (h : w.heap[g]? = some (.cells #[a] t (0, 0))) : w.cell? ⟨g, 0, none⟩ = some a ∧ ∀ o, w.frozen? ⟨g, o, none⟩ = false :=
  ⟨cells_of_block h 0, fun _ => frozen_of_row _ _ _ _ _ h⟩

set_option maxHeartbeats 400000 in
theorem timer_any (t a : Int) (w : World) :
    Calls Try.prog 30 #[.int .u8 t, .int .i64 a] w fun e w' => e = .returned (oval (4, 0, t, a)) ∧ Below w.heap.size w w' := by
  go_enter Try.func30, Try.ntmps30
  go_wp2
  exact bodyPost_ret (v := oval (4, 0, t, a)) (by simp [results, Try.results30, go_sem]) rfl ⟨rfl, (Below.refl _ _).alloc (Nat.le_refl _) _⟩

theorem class_any (c : Int) (w : World) : Calls Try.prog 29 #[.int .i64 c] w fun e w' => e = .returned (.int .i64 (classS c)) ∧ w = w' := by
  by_cases h : c < 100 ∨ 699 < c
  · have hc : Hid (classS c = 0) := if_pos h
    rcases h with h | h
    · go_enter Try.func29, Try.ntmps29
      go_wp2
      go_ret
      exact ⟨by rw [hc.out]; rfl, rfl⟩
    · have h0 : ¬ c < 100 := by omega
      go_enter Try.func29, Try.ntmps29
      go_wp2
      go_ret
      exact ⟨by rw [hc.out]; rfl, rfl⟩
  · have h0 : ¬ c < 100 := by omega
    have h1 : ¬ 699 < c := by omega
    by_cases h3 : 300 ≤ c
    · have hc : Hid (classS c = 3) := by show _ = _; unfold classS; rw [if_neg h, if_pos h3]
      clear h
      go_enter Try.func29, Try.ntmps29
      go_wp2
      go_ret
      exact ⟨by rw [hc.out]; rfl, rfl⟩
    · have hc : Hid (classS c = c / 100) := by show _ = _; unfold classS; rw [if_neg h, if_neg h3]
      have ht : c.tdiv 100 = c / 100 := Int.tdiv_eq_ediv_of_nonneg (by omega)
      have hw : IntKind.i64.wrap (c / 100) = c / 100 := IntWalk.i64_in _ (by omega)
      clear h
      go_enter Try.func29, Try.ntmps29
      go_wp2
      go_ret
      exact ⟨by rw [hc.out]; rfl, rfl⟩

set_option maxHeartbeats 1000000 in
theorem start_any (w : World) :
    Calls Try.prog 21 #[] w fun e w' => ∃ v, e = .returned (.tuple #[mval (1, 500, 0), v]) ∧ w'.ownsRow w.heap.size 48 4 v 3 (oscells [(1, 0, 0, 0), (4, 0, 1, 500), (4, 0, 2, 32000)]) ∧ Below w.heap.size w w' := by
  go_enter Try.func21, Try.ntmps21
  go_wp2_with fail
  refine (timer_any _ _ _).mono ?_
  rintro e w1 ⟨rfl, hb1⟩
  go_wp2_with fail
  refine (timer_any _ _ _).mono ?_
  rintro e w2 ⟨rfl, hb2⟩
  have hb12 := hb1.trans (hb2.mono hb1.size)
  have hn : w2.heap[w.heap.size]? = some (.cells #[.int .u8 0, .int .i64 0, .int .i64 0] 31 (0, 0)) := block_below (heap_alloc_new w _) hb12 (by simp)
  have q0 : w.heap.size < w2.heap.size := by have := hb12.size; simp at this; omega
  have HW : Hid (Below w.heap.size w w2) := ((Below.refl _ _).alloc (Nat.le_refl _) _).trans (hb12.mono (by simp))
  have HN : Hid (w2.heap[w.heap.size]? = some (.cells #[.int .u8 0, .int .i64 0, .int .i64 0] 31 (0, 0))) := hn
  obtain ⟨⟨a0, a1, a2⟩, f0⟩ := cells3 hn
  clear hb1 hb2 hb12 hn
  go_wp2_with fail
  refine bodyPost_ret (results_row_tmp rfl _ _ w.heap.size 31 (mcells (1, 500, 0)) (0, 0) _ rfl ?_ Try.underlying31 rfl size31) rfl ?_
  · show (World.alloc _ _).heap[_]? = _
    rw [heap_alloc_old]
    · exact block_store3 _ _ _ HN.out
    · simpa using q0
  · refine ⟨_, rfl, own_new (w := World.setCell _ _ _) [(1, 0, 0, 0), (4, 0, 1, 500), (4, 0, 2, 32000)] 3 rfl (by simp) rfl (by simp [maxLen]) (by simp; omega), ?_⟩
    exact (((HW.out.setCell (by simp) _).setCell (by simp) _).setCell (by simp) _).alloc (by simp; omega) _

set_option maxHeartbeats 1000000 in
theorem rstart_any (w : World) :
    Calls Try.prog 22 #[] w fun e w' => ∃ v, e = .returned (.tuple #[mval (1, 500, 0), v]) ∧ w'.ownsRow w.heap.size 48 4 v 3 (oscells [(1, 0, 0, 0), (4, 0, 1, 500), (4, 0, 2, 32000)]) ∧ Below w.heap.size w w' := by
  go_enter Try.func22, Try.ntmps22
  go_wp2
  go_returns
  refine ⟨_, rfl, own_new [(1, 0, 0, 0), (4, 0, 1, 500), (4, 0, 2, 32000)] 3 rfl (by simp) rfl (by simp [maxLen]) (by simp), ((Below.refl _ _).alloc (Nat.le_refl _) _).alloc (by simp) _⟩

end Go.Proofs.Ytlcpadonjbaaeaa
