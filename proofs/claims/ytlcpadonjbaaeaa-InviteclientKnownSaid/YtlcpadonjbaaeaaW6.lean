/- The walks: the effects again, stay. -/
import Derived.Test.YtlcpadonjbaaeaaW5
import Derived.Deep.DeepCutAuto
import Derived.Test.YtlcpadonjbaaeaaSimW
namespace Go.Proofs.Ytlcpadonjbaaeaa
open Go.RowKit

theorem two_new (w : World) (a b : Obj) :
    ((w.alloc a).alloc b).heap[w.heap.size]? = some a ∧ ((w.alloc a).alloc b).heap[w.heap.size + 1]? = some b ∧ ((w.alloc a).alloc b).heap.size = w.heap.size + 1 + 1 ∧ Below w.heap.size w ((w.alloc a).alloc b) := by
  refine ⟨?_, ?_, by simp, ((Below.refl _ _).alloc (Nat.le_refl _) _).alloc (by simp) _⟩
  · rw [heap_alloc_old, heap_alloc_new]; simp
  · have := heap_alloc_new (w.alloc a) b
    simpa using this

/-- A machine and outputs come back; the outputs lie in blocks from B on. -/
def GivesB (B : Nat) (w : World) (r : Mc × List Out) (e : Ending) (w' : World) : Prop :=
  ∃ v, e = .returned (.tuple #[mval r.1, v]) ∧ w'.ownsRow B 48 4 v r.2.length (oscells r.2) ∧ Below B w w'

set_option maxRecDepth 100000 in
set_option maxHeartbeats 2000000 in
theorem stay_any (k : Int) (m : Mc) (c : Int) (h : Nat) (t : TypeId) (w : World) (hh : w.heap[h]? = some (.cells #[.int .u8 k] t (0, 0))) :
    Calls Try.prog 40 #[mval m, .int .i64 c, .pointer (some ⟨h, 0, none⟩)] w (GivesB w.heap.size w (m, [(k, c, 0, 0)])) := by
  obtain ⟨c0, -⟩ := cell1 hh
  have q0 : h < w.heap.size := (Array.getElem?_eq_some_iff.1 hh).1
  have q1 : h ≠ w.heap.size := by omega
  have q2 : h ≠ w.heap.size + 1 := by omega
  clear hh
  go_enter Try.func40, Try.ntmps40
  go_upto_region 1 with fail
  have c1 : ((w.alloc (.cells (mcells m) 31)).alloc (.cells (mcells (0, 0, 0)) 31)).cell? ⟨h, 0, none⟩ = some (.int .u8 k) := by
    rw [World.cell?_alloc_lt _ _ _ (by simp; omega), World.cell?_alloc_lt _ _ _ q0]; exact c0
  have hm1 : ((w.alloc (.cells (mcells m) 31)).alloc (.cells (mcells (0, 0, 0)) 31)).heap[w.heap.size]? = some (.cells (mcells m) 31 (0, 0)) := by
    rw [heap_alloc_old, heap_alloc_new]; simp
  have hr1 : ((w.alloc (.cells (mcells m) 31)).alloc (.cells (mcells (0, 0, 0)) 31)).heap[w.heap.size + 1]? = some (.cells (mcells (0, 0, 0)) 31 (0, 0)) := by
    have := heap_alloc_new (w.alloc (.cells (mcells m) 31)) (.cells (mcells (0, 0, 0)) 31)
    simpa using this
  have hb1 : Below w.heap.size w ((w.alloc (.cells (mcells m) 31)).alloc (.cells (mcells (0, 0, 0)) 31)) := ((Below.refl _ _).alloc (Nat.le_refl _) _).alloc (by simp) _
  have z1 : ((w.alloc (.cells (mcells m) 31)).alloc (.cells (mcells (0, 0, 0)) 31)).heap.size = w.heap.size + 1 + 1 := by simp
  unfold mcells at hm1 hr1 hb1 z1 c1
  generalize World.alloc (World.alloc w _) _ = w1 at hm1 hr1 hb1 z1 c1 ⊢
  obtain ⟨⟨a0, a1, a2⟩, -⟩ := cells3 hm1
  obtain ⟨⟨b0, b1, b2⟩, fb⟩ := cells3 hr1
  have HR : Hid (w1.heap[w.heap.size + 1]? = some (.cells #[.int .u8 0, .int .i64 0, .int .i64 0] 31 (0, 0))) := hr1
  have HB1 : Hid (Below w.heap.size w w1) := hb1
  have HZ : Hid (w1.heap.size = w.heap.size + 1 + 1) := z1
  have p0 : w.heap.size < w1.heap.size := by omega
  have p1 : w.heap.size + 1 < w1.heap.size := by omega
  have p2 : h < w1.heap.size := by omega
  clear c0 hm1 hr1 hb1 z1
  go_region
  all_goals
    go_wp2_with fail
    refine bodyPost_ret (results_row_tmp rfl _ _ (w.heap.size + 1) 31 (mcells m) (0, 0) _ rfl ?_ Try.underlying31 rfl size31) rfl ?_
    · show (World.alloc _ _).heap[_]? = _
      rw [heap_alloc_old]
      · exact block_store3 _ _ _ HR.out
      · simpa using p1
    · refine ⟨_, rfl, own_below (own_new (w := World.setCell _ _ _) [(k, c, 0, 0)] 1 rfl (by simp) rfl (by simp [maxLen]) (by simp; omega)) (Below.refl _ _).drew, ?_⟩
      exact ((((HB1.out.setCell (by simp) _).setCell (by simp) _).setCell (by simp) _).alloc (by simp; omega) _).drew

set_option maxRecDepth 100000 in
set_option maxHeartbeats 2000000 in
theorem again_lo (m : Mc) (c : Int) (w : World) (h0 : 0 ≤ m.2.1) (h1 : m.2.1 ≤ 100000) (h2 : 2 * m.2.1 ≤ 32000) :
    Calls Try.prog 44 #[mval m, .int .i64 c] w (GivesB w.heap.size w ((m.1, 2 * m.2.1, m.2.2), [(1, 0, 0, 0), (4, 0, 1, 2 * m.2.1)])) := by
  have hwr : IntKind.i64.wrap (2 * m.2.1) = 2 * m.2.1 := IntWalk.i64_in _ (by omega)
  go_enter Try.func44, Try.ntmps44
  go_upto_region 2 with fail
  obtain ⟨hm1, hr1, hz1, hb1⟩ := two_new w (.cells #[.int .u8 m.1, .int .i64 (2 * m.2.1), .int .i64 m.2.2] 31) (.cells #[.int .u8 0, .int .i64 0, .int .i64 0] 31)
  generalize World.alloc (World.alloc w _) _ = w1 at hm1 hr1 hz1 hb1 ⊢
  have HR : Hid (w1.heap[w.heap.size + 1]? = some (.cells #[.int .u8 0, .int .i64 0, .int .i64 0] 31 (0, 0))) := hr1
  have HB : Hid (Below w.heap.size w w1) := hb1
  have q0 : w.heap.size < w1.heap.size := by omega
  have q1 : w.heap.size + 1 < w1.heap.size := by omega
  have HK : Hid (∀ w', Below w1.heap.size w1 w' → w'.cell? ⟨w.heap.size, 0, none⟩ = some (.int .u8 m.1) ∧ w'.cell? ⟨w.heap.size, 1, none⟩ = some (.int .i64 (2 * m.2.1)) ∧ w'.cell? ⟨w.heap.size, 2, none⟩ = some (.int .i64 m.2.2)) := fun w' hb => (cells3 (block_below hm1 hb q0)).1
  have hkeep0 := HK.out w1.drew (below_drewN (Below.refl _ _) 1)
  clear hm1 hr1 hb1 hz1
  go_region_held3 (fun w' => w'.cell? ⟨w.heap.size, 0, none⟩ = some (.int .u8 m.1) ∧ w'.cell? ⟨w.heap.size, 1, none⟩ = some (.int .i64 (2 * m.2.1)) ∧ w'.cell? ⟨w.heap.size, 2, none⟩ = some (.int .i64 m.2.2))
    (first | exact hkeep1 | exact hkeep0 | go_keep)
    ((go_at_call 30
      refine (timer_any _ _ _).mono ?_
      rintro e w2 ⟨rfl, hb2⟩
      have HX2 : Hid (Below w1.heap.size w1 w2) := (below_drewN (Below.refl _ _) 1).trans (hb2.mono (Nat.le_refl _))
      have hkeep1 := HK.out w2 HX2.out
      obtain ⟨⟨b0, b1, b2⟩, f0⟩ := cells3 (block_below HR.out HX2.out q1)
      have q3 : w.heap.size + 1 < w2.heap.size := Nat.lt_of_lt_of_le q1 HX2.out.size
      have q4 : w.heap.size < w2.heap.size := Nat.lt_of_lt_of_le q0 HX2.out.size))
  all_goals
    go_wp2_with fail
    refine bodyPost_ret (results_row_tmp rfl _ _ (w.heap.size + 1) 31 (mcells (m.1, 2 * m.2.1, m.2.2)) (0, 0) _ rfl ?_ Try.underlying31 rfl size31) rfl ?_
    · show (World.alloc _ _).heap[_]? = _
      rw [heap_alloc_old]
      · exact block_store3 _ _ _ (block_below HR.out HX2.out q1)
      · simp; omega
    · have hbx : Below w.heap.size w w2 := HB.out.trans (HX2.out.mono (by omega))
      first
        | exact ⟨_, rfl, own_new (w := World.setCell _ _ _) [(1, 0, 0, 0), (4, 0, 1, 2 * m.2.1)] 2 rfl (by simp) rfl (by simp [maxLen]) (by simp; omega), (((hbx.setCell (by simp) _).setCell (by simp) _).setCell (by simp) _).alloc (by simp; omega) _⟩
        | exact ⟨_, rfl, own_below (own_new (w := World.setCell _ _ _) [(1, 0, 0, 0), (4, 0, 1, 2 * m.2.1)] 2 rfl (by simp) rfl (by simp [maxLen]) (by simp; omega)) (Below.refl _ _).drew, ((((hbx.setCell (by simp) _).setCell (by simp) _).setCell (by simp) _).alloc (by simp; omega) _).drew⟩

set_option maxRecDepth 100000 in
set_option maxHeartbeats 2000000 in
theorem again_hi (m : Mc) (c : Int) (w : World) (h0 : 0 ≤ m.2.1) (h1 : m.2.1 ≤ 100000) (h2 : ¬ 2 * m.2.1 ≤ 32000) :
    Calls Try.prog 44 #[mval m, .int .i64 c] w (GivesB w.heap.size w ((m.1, 32000, m.2.2), [(1, 0, 0, 0), (4, 0, 1, 32000)])) := by
  have hwr : IntKind.i64.wrap (2 * m.2.1) = 2 * m.2.1 := IntWalk.i64_in _ (by omega)
  go_enter Try.func44, Try.ntmps44
  go_upto_region 2 with fail
  obtain ⟨hm1, hr1, hz1, hb1⟩ := two_new w (.cells #[.int .u8 m.1, .int .i64 (32000), .int .i64 m.2.2] 31) (.cells #[.int .u8 0, .int .i64 0, .int .i64 0] 31)
  generalize World.alloc (World.alloc w _) _ = w1 at hm1 hr1 hz1 hb1 ⊢
  have HR : Hid (w1.heap[w.heap.size + 1]? = some (.cells #[.int .u8 0, .int .i64 0, .int .i64 0] 31 (0, 0))) := hr1
  have HB : Hid (Below w.heap.size w w1) := hb1
  have q0 : w.heap.size < w1.heap.size := by omega
  have q1 : w.heap.size + 1 < w1.heap.size := by omega
  have HK : Hid (∀ w', Below w1.heap.size w1 w' → w'.cell? ⟨w.heap.size, 0, none⟩ = some (.int .u8 m.1) ∧ w'.cell? ⟨w.heap.size, 1, none⟩ = some (.int .i64 (32000)) ∧ w'.cell? ⟨w.heap.size, 2, none⟩ = some (.int .i64 m.2.2)) := fun w' hb => (cells3 (block_below hm1 hb q0)).1
  have hkeep0 := HK.out w1.drew (below_drewN (Below.refl _ _) 1)
  clear hm1 hr1 hb1 hz1
  go_region_held3 (fun w' => w'.cell? ⟨w.heap.size, 0, none⟩ = some (.int .u8 m.1) ∧ w'.cell? ⟨w.heap.size, 1, none⟩ = some (.int .i64 (32000)) ∧ w'.cell? ⟨w.heap.size, 2, none⟩ = some (.int .i64 m.2.2))
    (first | exact hkeep1 | exact hkeep0 | go_keep)
    ((go_at_call 30
      refine (timer_any _ _ _).mono ?_
      rintro e w2 ⟨rfl, hb2⟩
      have HX2 : Hid (Below w1.heap.size w1 w2) := (below_drewN (Below.refl _ _) 1).trans (hb2.mono (Nat.le_refl _))
      have hkeep1 := HK.out w2 HX2.out
      obtain ⟨⟨b0, b1, b2⟩, f0⟩ := cells3 (block_below HR.out HX2.out q1)
      have q3 : w.heap.size + 1 < w2.heap.size := Nat.lt_of_lt_of_le q1 HX2.out.size
      have q4 : w.heap.size < w2.heap.size := Nat.lt_of_lt_of_le q0 HX2.out.size))
  all_goals
    go_wp2_with fail
    refine bodyPost_ret (results_row_tmp rfl _ _ (w.heap.size + 1) 31 (mcells (m.1, 32000, m.2.2)) (0, 0) _ rfl ?_ Try.underlying31 rfl size31) rfl ?_
    · show (World.alloc _ _).heap[_]? = _
      rw [heap_alloc_old]
      · exact block_store3 _ _ _ (block_below HR.out HX2.out q1)
      · simp; omega
    · have hbx : Below w.heap.size w w2 := HB.out.trans (HX2.out.mono (by omega))
      first
        | exact ⟨_, rfl, own_new (w := World.setCell _ _ _) [(1, 0, 0, 0), (4, 0, 1, 32000)] 2 rfl (by simp) rfl (by simp [maxLen]) (by simp; omega), (((hbx.setCell (by simp) _).setCell (by simp) _).setCell (by simp) _).alloc (by simp; omega) _⟩
        | exact ⟨_, rfl, own_below (own_new (w := World.setCell _ _ _) [(1, 0, 0, 0), (4, 0, 1, 32000)] 2 rfl (by simp) rfl (by simp [maxLen]) (by simp; omega)) (Below.refl _ _).drew, ((((hbx.setCell (by simp) _).setCell (by simp) _).setCell (by simp) _).alloc (by simp; omega) _).drew⟩

theorem again_any (m : Mc) (c : Int) (w : World) (h0 : 0 ≤ m.2.1) (h1 : m.2.1 ≤ 100000) :
    Calls Try.prog 44 #[mval m, .int .i64 c] w (GivesB w.heap.size w ((m.1, againS m.2.1, m.2.2), [(1, 0, 0, 0), (4, 0, 1, againS m.2.1)])) := by
  unfold againS
  by_cases h2 : 2 * m.2.1 ≤ 32000
  · rw [if_pos h2]; exact again_lo m c w h0 h1 h2
  · rw [if_neg h2]; exact again_hi m c w h0 h1 h2

end Go.Proofs.Ytlcpadonjbaaeaa
