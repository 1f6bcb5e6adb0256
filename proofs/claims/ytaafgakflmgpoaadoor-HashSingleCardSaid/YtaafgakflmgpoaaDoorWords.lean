/- Words for memory: numbers as cells, three new blocks. -/
import Derived.Test.YtaafgakflmgpoaaDoorW1
import Derived.Test.YtaafgakflmgpoaaDoorStateP
import Derived.Laws.Rows
import Derived.Laws.CopyOwn
namespace Go.Proofs.YtaafgakflmgpoaaDoor
open Go.RowKit

def u8s (l : List Int) : List Value := l.map (Value.int .u8)
def u32s (l : List Int) : List Value := l.map (Value.int .u32)
theorem u8s_len (l : List Int) : (u8s l).length = l.length := by simp [u8s]
theorem u32s_len (l : List Int) : (u32s l).length = l.length := by simp [u32s]

theorem three_new (w : World) (a b c : Obj) :
    (((w.alloc a).alloc b).alloc c).heap[w.heap.size]? = some a ∧ (((w.alloc a).alloc b).alloc c).heap[w.heap.size + 1]? = some b ∧ (((w.alloc a).alloc b).alloc c).heap[w.heap.size + 1 + 1]? = some c ∧ (((w.alloc a).alloc b).alloc c).heap.size = w.heap.size + 1 + 1 + 1 ∧ Below w.heap.size w (((w.alloc a).alloc b).alloc c) := by
  refine ⟨?_, ?_, ?_, by simp, (((Below.refl _ _).alloc (Nat.le_refl _) _).alloc (by simp) _).alloc (by simp; omega) _⟩
  · rw [heap_alloc_old, heap_alloc_old, heap_alloc_new] <;> simp <;> omega
  · have := heap_alloc_new (w.alloc a) b
    rw [heap_alloc_old]
    · simpa using this
    · simp
  · have := heap_alloc_new ((w.alloc a).alloc b) c
    simpa using this

theorem three_gen {w w3 : World} {a b c : Obj} (h : ((w.alloc a).alloc b).alloc c = w3) :
    w3.heap[w.heap.size]? = some a ∧ w3.heap[w.heap.size + 1]? = some b ∧ w3.heap[w.heap.size + 1 + 1]? = some c ∧ w3.heap.size = w.heap.size + 1 + 1 + 1 ∧ Below w.heap.size w w3 := by
  subst h
  exact three_new w a b c

/-- A block of numbers: what its cells hold. -/
theorem cell_u8 {w : World} {g : Nat} {t : TypeId} {l : List Int} (h : w.heap[g]? = some (.cells (u8s l).toArray t (0, 0))) {i : Nat} (hi : i < l.length) : w.cell? ⟨g, i, none⟩ = some (.int .u8 (l.getD i 0)) := by
  rw [cells_of_block h i]
  simp [u8s, hi]
theorem cell_u32 {w : World} {g : Nat} {t : TypeId} {l : List Int} (h : w.heap[g]? = some (.cells (u32s l).toArray t (0, 0))) {i : Nat} (hi : i < l.length) : w.cell? ⟨g, i, none⟩ = some (.int .u32 (l.getD i 0)) := by
  rw [cells_of_block h i]
  simp [u32s, hi]
theorem set_u32 {w : World} {g : Nat} {t : TypeId} {l : List Int} (h : w.heap[g]? = some (.cells (u32s l).toArray t (0, 0))) (i : Nat) (x : Int) : (w.setCell ⟨g, i, none⟩ (.int .u32 x)).heap[g]? = some (.cells (u32s (l.set i x)).toArray t (0, 0)) := by
  rw [heap_setCell_same w g i _ t _ h]
  simp [u32s]
theorem set_other {w : World} {g k : Nat} {o : Obj} (h : w.heap[k]? = some o) (hk : k ≠ g) (i : Nat) (v : Value) : (w.setCell ⟨g, i, none⟩ v).heap[k]? = some o := by
  rw [heap_setCell_other _ _ _ _ hk]; exact h

/-- Filling from the left. -/
theorem fill_set (a : List Int) (k n : Nat) (x : Int) (ha : a.length = k) : (a ++ zeros (n + 1)).set k x = (a ++ [x]) ++ zeros n := by
  unfold zeros
  rw [List.set_append_right _ _ (by omega), ha, Nat.sub_self, List.replicate_succ]
  simp
theorem getD_append_left {a b : List Int} {i : Nat} (h : i < a.length) : (a ++ b).getD i 0 = a.getD i 0 := by
  simp [List.getD_eq_getElem?_getD, List.getElem?_append_left h]

theorem size50 {l : List Int} (h : l.length = 64) : (Tryd.prog.info? 50).map (·.size) = some (u32s l).toArray.size := by
  rw [show (Tryd.prog.info? 50).map (·.size) = some 64 by kernel_rfl]
  simp [u32s, h]
theorem one_u32 (l : List Int) : ∀ v ∈ (u32s l).toArray.toList, v.oneCell' = true := by
  intro v hv
  simp only [u32s, List.mem_map] at hv
  obtain ⟨x, _, rfl⟩ := hv
  rfl
theorem one_u8 (l : List Int) : ∀ v ∈ (u8s l).toArray.toList, v.oneCell' = true := by
  intro v hv
  simp only [u8s, List.mem_map] at hv
  obtain ⟨x, _, rfl⟩ := hv
  rfl

end Go.Proofs.YtaafgakflmgpoaaDoor
