/- The walks: what the user hears: user, accept, reject. -/
import Derived.Test.YtlcpadonjbaaeaaW4
import Derived.Deep.AppendLies
import Derived.Deep.RegionLaw
import Derived.Deep.RegionHeld3
namespace Go.Proofs.Ytlcpadonjbaaeaa
open Go.RowKit

theorem info48 : (Try.prog.info? 48).map (fun i => (i.zero, i.size, i.bytes)) = some (some (.agg #[.int .u8 0, .int .i64 0, .int .u8 0, .int .i64 0]), 4, 32) := by kernel_rfl
theorem oscells_ones (l : List Out) : ∀ u ∈ oscells l, u.oneCell' = true := by
  intro u hu
  obtain ⟨o, _, ho⟩ := List.mem_flatMap.1 hu
  simp only [ocells, List.mem_cons, List.not_mem_nil, or_false] at ho
  rcases ho with rfl | rfl | rfl | rfl <;> rfl
theorem oscells_append (a b : List Out) : oscells (a ++ b) = oscells a ++ oscells b := by simp [oscells]

theorem user_any (c : Int) (w : World) : Calls Try.prog 41 #[.int .i64 c] w fun e w' => ∃ v, e = .returned v ∧ w'.ownsRow w.heap.size 48 4 v 1 (oscells [(3, c, 0, 0)]) ∧ Below w.heap.size w w' := by
  go_enter Try.func41, Try.ntmps41
  go_wp2
  go_ret
  exact ⟨_, rfl, own_new [(3, c, 0, 0)] 1 rfl rfl rfl (by simp [maxLen]) (Nat.le_refl _), (Below.refl _ _).alloc (Nat.le_refl _) _⟩

set_option maxRecDepth 100000 in
set_option maxHeartbeats 1000000 in
theorem accept_any (c : Int) (u : Nat) (t : TypeId) (w : World) (hu : w.heap[u]? = some (.cells #[.func (.func 41) #[] #[]] t (0, 0))) :
    Calls Try.prog 42 #[.int .i64 c, .pointer (some ⟨u, 0, none⟩)] w fun e w' => ∃ v, e = .returned v ∧ w'.ownsRow w.heap.size 48 4 v 2 (oscells [(3, c, 0, 0), (4, 0, 13, 32000)]) ∧ Below w.heap.size w w' := by
  obtain ⟨c0, -⟩ := cell1 hu
  have q0 : u < w.heap.size := (Array.getElem?_eq_some_iff.1 hu).1
  obtain ⟨i0, hi0, hz0, hz1, hz2⟩ := info_parts info48
  clear hu
  go_enter Try.func42, Try.ntmps42
  go_wp2_with fail
  refine (user_any c w).mono ?_
  rintro e w1 ⟨v1, rfl, hown, hb1⟩
  have HO : Hid (w1.ownsRow w.heap.size 48 4 v1 1 (oscells [(3, c, 0, 0)])) := hown
  have HB : Hid (Below w.heap.size w w1) := hb1
  clear hown hb1
  go_wp2_with fail
  refine (timer_any _ _ _).mono ?_
  rintro e w2 ⟨rfl, hb2⟩
  have HO2 : Hid (w2.ownsRow w.heap.size 48 4 v1 1 (oscells [(3, c, 0, 0)])) := own_below HO.out hb2
  have HB2 : Hid (Below w.heap.size w w2) := HB.out.trans (hb2.mono HB.out.size)
  have q2 := HB2.out.size
  clear hb2
  go_wp2_with (refine wpList_append_rd _ rfl (.tmp 6) (.tmp 8) _ rfl w.heap.size 48 i0 _ 4 32 Try.underlying43 hi0 hz0 hz1 hz2 rfl (by omega) v1 1 (oscells [(3, c, 0, 0)]) rfl (own_below HO2.out ((Below.refl _ _).alloc (Nat.le_refl _) _)) _ _ 1 1 (ocells (4, 0, 13, 32000)) rfl (Rd.lit _ _ _) rfl (by simp [ocells, Value.oneCell']) (by simp only [maxLen]; omega) (by omega) (by simp; omega) ?_; intro v3 w3 hown3 hg3 _)
  go_ret
  refine ⟨_, rfl, hown3, ?_⟩
  exact below_own (HB2.out.alloc q2 _) (own_below HO2.out ((Below.refl _ _).alloc (Nat.le_refl _) _)) hg3 (Nat.le_refl _) (by simp; omega)

set_option maxRecDepth 100000 in
set_option maxHeartbeats 1000000 in
theorem reject_any (c : Int) (u : Nat) (t : TypeId) (w : World) (hu : w.heap[u]? = some (.cells #[.func (.func 41) #[] #[]] t (0, 0))) :
    Calls Try.prog 43 #[.int .i64 c, .pointer (some ⟨u, 0, none⟩)] w fun e w' => ∃ v, e = .returned v ∧ w'.ownsRow w.heap.size 48 4 v 3 (oscells [(3, c, 0, 0), (2, c, 0, 0), (4, 0, 4, 32000)]) ∧ Below w.heap.size w w' := by
  obtain ⟨c0, -⟩ := cell1 hu
  have q0 : u < w.heap.size := (Array.getElem?_eq_some_iff.1 hu).1
  obtain ⟨i0, hi0, hz0, hz1, hz2⟩ := info_parts info48
  clear hu
  go_enter Try.func43, Try.ntmps43
  go_wp2_with fail
  refine (user_any c w).mono ?_
  rintro e w1 ⟨v1, rfl, hown, hb1⟩
  have HO : Hid (w1.ownsRow w.heap.size 48 4 v1 1 (oscells [(3, c, 0, 0)])) := hown
  have HB : Hid (Below w.heap.size w w1) := hb1
  clear hown hb1
  go_wp2_with fail
  refine (timer_any _ _ _).mono ?_
  rintro e w2 ⟨rfl, hb2⟩
  have HO2 : Hid (w2.ownsRow w.heap.size 48 4 v1 1 (oscells [(3, c, 0, 0)])) := own_below HO.out hb2
  have HB2 : Hid (Below w.heap.size w w2) := HB.out.trans (hb2.mono HB.out.size)
  have q2 := HB2.out.size
  clear hb2
  go_wp2_with (refine wpList_append_rd _ rfl (.tmp 6) (.tmp 10) _ rfl w.heap.size 48 i0 _ 4 32 Try.underlying43 hi0 hz0 hz1 hz2 rfl (by omega) v1 1 (oscells [(3, c, 0, 0)]) rfl (own_below HO2.out ((Below.refl _ _).alloc (Nat.le_refl _) _)) _ _ 2 2 (oscells [(2, c, 0, 0), (4, 0, 4, 32000)]) rfl (Rd.lit _ _ _) rfl (oscells_ones _) (by simp only [maxLen]; omega) (by omega) (by simp; omega) ?_; intro v3 w3 hown3 hg3 _)
  go_ret
  refine ⟨_, rfl, hown3, ?_⟩
  exact below_own (HB2.out.alloc q2 _) (own_below HO2.out ((Below.refl _ _).alloc (Nat.le_refl _) _)) hg3 (Nat.le_refl _) (by simp; omega)

end Go.Proofs.Ytlcpadonjbaaeaa
