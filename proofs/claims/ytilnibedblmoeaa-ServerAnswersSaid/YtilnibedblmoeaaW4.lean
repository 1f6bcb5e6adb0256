/- The walk of Step. -/
import Derived.Test.YtilnibedblmoeaaW3
import Derived.RegionTactic
import Derived.BigRegion
namespace Go.Proofs.Ytilnibedblmoeaa
open Go.RowKit

theorem size24 : (Try.prog.info? 24).map (·.size) = some 3 := by kernel_rfl

def mcells (m : Mc) : Array Value := #[.int .u8 m.1, .int .i64 m.2.1, .int .i64 m.2.2]
def icells (i : In) : Array Value := #[.int .u8 i.1, .int .i64 i.2.1, .int .u8 i.2.2]

/-- The three boxes ahead of Step's body: the machine, the input, the result. -/
def Boxes (w : World) (g : Nat) (m : Mc) (i : In) (r : Mc) : Prop :=
  w.heap[g]? = some (.cells (mcells m) 24 (0, 0)) ∧ w.heap[g + 1]? = some (.cells (icells i) 28 (0, 0)) ∧ w.heap[g + 1 + 1]? = some (.cells (mcells r) 24 (0, 0))
theorem Boxes.new (w : World) (m : Mc) (i : In) : Boxes (((w.alloc (.cells (mcells m) 24)).alloc (.cells (icells i) 28)).alloc (.cells (mcells (0, 0, 0)) 24)) w.heap.size m i (0, 0, 0) := by
  refine ⟨?_, ?_, ?_⟩
  · rw [heap_alloc_old, heap_alloc_old, heap_alloc_new] <;> simp <;> omega
  · have := heap_alloc_new (w.alloc (.cells (mcells m) 24)) (.cells (icells i) 28)
    rw [heap_alloc_old]
    · simpa using this
    · simp
  · have := heap_alloc_new ((w.alloc (.cells (mcells m) 24)).alloc (.cells (icells i) 28)) (.cells (mcells (0, 0, 0)) 24)
    simpa using this
theorem Boxes.below {w w' : World} {g B : Nat} {m : Mc} {i : In} {r : Mc} (h : Boxes w g m i r) (hb : Below B w w') (hg : g + 1 + 1 < B) : Boxes w' g m i r :=
  ⟨block_below h.1 hb (by omega), block_below h.2.1 hb (by omega), block_below h.2.2 hb hg⟩
/-- What the walk asks of them. -/
theorem Boxes.cells {w : World} {g : Nat} {m : Mc} {i : In} {r : Mc} (h : Boxes w g m i r) :
    (w.cell? ⟨g, 0, none⟩ = some (.int .u8 m.1) ∧ w.cell? ⟨g, 1, none⟩ = some (.int .i64 m.2.1) ∧ w.cell? ⟨g, 2, none⟩ = some (.int .i64 m.2.2)) ∧
    (w.cell? ⟨g + 1, 0, none⟩ = some (.int .u8 i.1) ∧ w.cell? ⟨g + 1, 1, none⟩ = some (.int .i64 i.2.1) ∧ w.cell? ⟨g + 1, 2, none⟩ = some (.int .u8 i.2.2)) ∧
    (w.cell? ⟨g + 1 + 1, 0, none⟩ = some (.int .u8 r.1) ∧ w.cell? ⟨g + 1 + 1, 1, none⟩ = some (.int .i64 r.2.1) ∧ w.cell? ⟨g + 1 + 1, 2, none⟩ = some (.int .i64 r.2.2)) ∧
    (∀ o, w.frozen? ⟨g + 1 + 1, o, none⟩ = false) :=
  ⟨⟨cells_of_block h.1 0, cells_of_block h.1 1, cells_of_block h.1 2⟩, ⟨cells_of_block h.2.1 0, cells_of_block h.2.1 1, cells_of_block h.2.1 2⟩,
    ⟨cells_of_block h.2.2 0, cells_of_block h.2.2 1, cells_of_block h.2.2 2⟩, fun _ => frozen_of_row _ _ _ _ _ h.2.2⟩

set_option maxRecDepth 100000 in
set_option maxHeartbeats 1000000 in
theorem step_bad (m : Mc) (i : In) (w : World) (hm : mayS m = false) :
    Calls Try.prog 22 #[mval m, ival i] w (GivesS w ((0, 0, 0), [])) := by
  go_enter Try.func22, Try.ntmps22
  go_wp2_with fail
  refine (may_any m _).mono ?_
  rintro e w1 ⟨rfl, hb⟩
  have hbx : Boxes w1 w.heap.size m i (0, 0, 0) := (Boxes.new w m i).below hb (by simp)
  have hbw : Below w.heap.size w w1 := ((((Below.refl _ _).alloc (Nat.le_refl _) _).alloc (by simp) _).alloc (by simp; omega) _).trans (hb.mono (by simp; omega))
  obtain ⟨⟨a0, a1, a2⟩, ⟨b0, b1, b2⟩, ⟨c0, c1, c2⟩, f0⟩ := hbx.cells
  have HX : Hid (Boxes w1 w.heap.size m i (0, 0, 0)) := hbx
  clear hb hbx
  go_wp2_with fail
  refine bodyPost_ret (results_row_tmp rfl _ _ (w.heap.size + 1 + 1) 24 (mcells (0, 0, 0)) (0, 0) _ rfl (block_store3 _ _ _ HX.out.2.2) Try.underlying24 rfl size24) rfl ?_
  exact ⟨_, rfl, World.ownsRow_nil _ _ _ _, ((hbw.setCell (by simp; omega) _).setCell (by simp; omega) _).setCell (by simp; omega) _⟩

set_option maxRecDepth 100000 in
set_option maxHeartbeats 1000000 in
theorem step_j (m : Mc) (i : In) (w : World) (hm : mayS m = true) (h1 : m.1 = 5) (h2 : i.1 = 5) (h3 : i.2.2 = 10) :
    Calls Try.prog 22 #[mval m, ival i] w (GivesS w ((7, 0, m.2.2), [(7, 0, 0, 0)])) := by
  have d1 : (m.1 == 5) = true := by simp [h1]
  have d2 : (i.1 == 5) = true := by simp [h2]
  have d3 : (i.2.2 == 10) = true := by simp [h3]
  clear h1 h2 h3
  go_enter Try.func22, Try.ntmps22
  go_wp2_with fail
  refine (may_any m _).mono ?_
  rintro e w1 ⟨rfl, hb⟩
  have hbx : Boxes w1 w.heap.size m i (0, 0, 0) := (Boxes.new w m i).below hb (by simp)
  have hbw : Below w.heap.size w w1 := ((((Below.refl _ _).alloc (Nat.le_refl _) _).alloc (by simp) _).alloc (by simp; omega) _).trans (hb.mono (by simp; omega))
  have hz := hb.size
  simp only [World.size_alloc] at hz
  have q0 : w.heap.size < w1.heap.size := by omega
  have q1 : w.heap.size + 1 < w1.heap.size := by omega
  have q2 : w.heap.size + 1 + 1 < w1.heap.size := by omega
  obtain ⟨⟨a0, a1, a2⟩, ⟨b0, b1, b2⟩, ⟨c0, c1, c2⟩, f0⟩ := hbx.cells
  have HX : Hid (Boxes w1 w.heap.size m i (0, 0, 0)) := hbx
  clear hb hbx
  go_wp2_with fail
  go_region
  go_wp2_with fail
  refine bodyPost_ret (results_row_tmp rfl _ _ (w.heap.size + 1 + 1) 24 (mcells (7, 0, m.2.2)) (0, 0) _ rfl ?_ Try.underlying24 rfl size24) rfl ?_
  · show (World.alloc (World.alloc _ _) _).heap[_]? = _
    rw [heap_alloc_old, heap_alloc_old]
    · exact block_store3 _ _ _ HX.out.2.2
    · simp; omega
    · simp; omega
  · refine ⟨_, rfl, own_new (w := World.alloc _ _) [(7, 0, 0, 0)] 1 rfl (by simp) rfl (by simp [maxLen]) (by simp; omega), ?_⟩
    exact ((((((hbw.setCell (by simp; omega) _).setCell (by simp; omega) _).setCell (by simp; omega) _).alloc (by simp; omega) _).alloc (by simp; omega) _)).drew

end Go.Proofs.Ytilnibedblmoeaa
