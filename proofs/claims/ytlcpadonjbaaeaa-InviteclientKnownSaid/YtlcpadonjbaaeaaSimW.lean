/- Words for memory: the machine with its timers as one block and an owned log. -/
import Derived.Test.YtlcpadonjbaaeaaWords
import Derived.Test.YtlcpadonjbaaeaaSim
import Derived.Deep.AppendLies
namespace Go.Proofs.Ytlcpadonjbaaeaa
open Go.RowKit

def ecells (e : Int × Out) : List Value := .int .i64 e.1 :: ocells e.2
theorem ecells_len (e : Int × Out) : (ecells e).length = 5 := rfl
def simcells (s : Sim) (v : Value) : List Value := .int .u8 s.m.1 :: .int .i64 s.m.2.1 :: .int .i64 s.m.2.2 :: (s.due.map (Value.int .i64) ++ [.int .i64 s.now, v])

section
variable {s : Sim} {v : Value}
theorem simcells_due (h : s.due.length = 14) {k : Nat} (hk : k < 14) : (simcells s v)[3 + k]? = some (.int .i64 (s.due.getD k (-1))) := by
  have e : 3 + k = k + 1 + 1 + 1 := by omega
  rw [e]
  simp only [simcells, List.getElem?_cons_succ]
  rw [List.getElem?_append_left (by simp; omega)]
  simp [List.getD_eq_getElem?_getD, List.getElem?_eq_getElem (show k < s.due.length by omega)]
theorem simcells_now (h : s.due.length = 14) : (simcells s v)[17]? = some (.int .i64 s.now) := by
  simp only [simcells, List.getElem?_cons_succ]
  rw [List.getElem?_append_right (by simp; omega)]
  simp [h]
theorem simcells_log (h : s.due.length = 14) : (simcells s v)[18]? = some v := by
  simp only [simcells, List.getElem?_cons_succ]
  rw [List.getElem?_append_right (by simp; omega)]
  simp [h]
theorem simcells_set_due (h : s.due.length = 14) {k : Nat} (hk : k < 14) (x : Int) : (simcells s v).set (3 + k) (.int .i64 x) = simcells { s with due := s.due.set k x } v := by
  have e : 3 + k = k + 1 + 1 + 1 := by omega
  rw [e]
  simp only [simcells, List.set_cons_succ]
  rw [List.set_append_left _ _ (by simp; omega)]
  simp [List.map_set]
theorem simcells_set_now (h : s.due.length = 14) (x : Int) : (simcells s v).set 17 (.int .i64 x) = simcells { s with now := x } v := by
  simp only [simcells, List.set_cons_succ]
  rw [List.set_append_right _ _ (by simp; omega)]
  simp [h]
theorem simcells_set_log (h : s.due.length = 14) (v' : Value) : (simcells s v).set 18 v' = simcells s v' := by
  simp only [simcells, List.set_cons_succ]
  rw [List.set_append_right _ _ (by simp; omega)]
  simp [h]
theorem simcells_set_m (m : Mc) : (((simcells s v).set 0 (.int .u8 m.1)).set 1 (.int .i64 m.2.1)).set 2 (.int .i64 m.2.2) = simcells { s with m := m } v := rfl
end

/-- In block g (at or above B) lies the machine s; its log is the call's own, at or above B, and it is v. -/
def SimV (w : World) (B g : Nat) (s : Sim) (v : Value) : Prop :=
  B ≤ g ∧ w.heap[g]? = some (.cells (simcells s v).toArray 35 (0, 0)) ∧ w.ownsRow B 55 5 v s.log.length (s.log.flatMap ecells) ∧ v.ownBlock ≠ some g
def SimAt (w : World) (B g : Nat) (s : Sim) : Prop := ∃ v, SimV w B g s v

theorem own_heap {w w' : World} {base e size n : Nat} {v : Value} {xs : List Value} (h : w.ownsRow base e size v n xs) (hb : ∀ b, v.ownBlock = some b → w'.heap[b]? = w.heap[b]?) : w'.ownsRow base e size v n xs := by
  refine ⟨h.1, ?_⟩
  rcases h.2 with h2 | ⟨g, cap, cur, rfl, hg, hh, r⟩
  · exact .inl h2
  · exact .inr ⟨g, cap, cur, rfl, hg, (hb g rfl).trans hh, r⟩

section
variable {w w' : World} {B g : Nat} {s : Sim} {v : Value}
theorem SimV.lt (h : SimV w B g s v) : g < w.heap.size := by
  rcases Nat.lt_or_ge g w.heap.size with hlt | hge
  · exact hlt
  · have := h.2.1
    rw [Array.getElem?_eq_none hge] at this
    cases this
theorem SimAt.lt (h : SimAt w B g s) : g < w.heap.size := by obtain ⟨v, h⟩ := h; exact h.lt
theorem SimV.cells (h : SimV w B g s v) (hd : s.due.length = 14) :
    (w.cell? ⟨g, 0, none⟩ = some (.int .u8 s.m.1) ∧ w.cell? ⟨g, 1, none⟩ = some (.int .i64 s.m.2.1) ∧ w.cell? ⟨g, 2, none⟩ = some (.int .i64 s.m.2.2)) ∧
    w.cell? ⟨g, 17, none⟩ = some (.int .i64 s.now) ∧ w.cell? ⟨g, 18, none⟩ = some v ∧ (∀ o, w.frozen? ⟨g, o, none⟩ = false) ∧
    (∀ k, k < 14 → w.cell? ⟨g, 3 + k, none⟩ = some (.int .i64 (s.due.getD k (-1)))) := by
  have e (j : Nat) : w.cell? ⟨g, j, none⟩ = (simcells s v)[j]? := by rw [cells_of_block h.2.1 j]; simp
  refine ⟨⟨e 0, e 1, e 2⟩, (e 17).trans (simcells_now hd), (e 18).trans (simcells_log hd), fun _ => frozen_of_row _ _ _ _ _ h.2.1, fun k hk => (e _).trans (simcells_due hd hk)⟩
/-- Where only new blocks are made. -/
theorem SimV.below (h : SimV w B g s v) (hb : Below w.heap.size w w') : SimV w' B g s v :=
  ⟨h.1, block_below h.2.1 hb h.lt, own_below h.2.2.1 hb, h.2.2.2⟩
theorem SimAt.below (h : SimAt w B g s) (hb : Below w.heap.size w w') : SimAt w' B g s := by obtain ⟨v, h⟩ := h; exact ⟨v, h.below hb⟩
theorem SimV.at_ (h : SimV w B g s v) : SimAt w B g s := ⟨v, h⟩
/-- One cell of the block is written. -/
theorem SimV.set {s' : Sim} {v' : Value} (h : SimV w B g s v) (i : Nat) (x : Value) (hc : (simcells s v).set i x = simcells s' v') (hv : v' = v) (hl : s'.log = s.log) : SimV (w.setCell ⟨g, i, none⟩ x) B g s' v' := by
  subst hv
  refine ⟨h.1, ?_, ?_, h.2.2.2⟩
  · have := heap_setCell_same w g i _ 35 x h.2.1
    rw [this, ← hc]
    simp
  · rw [hl]
    exact own_heap h.2.2.1 fun b hb => Below.heap_setCell w ⟨g, i, none⟩ x b (by rintro rfl; exact h.2.2.2 hb)
theorem SimV.set_now (h : SimV w B g s v) (hd : s.due.length = 14) (x : Int) : SimV (w.setCell ⟨g, 17, none⟩ (.int .i64 x)) B g { s with now := x } v :=
  h.set 17 _ (simcells_set_now hd x) rfl rfl
theorem SimV.set_due (h : SimV w B g s v) (hd : s.due.length = 14) {k : Nat} (hk : k < 14) (x : Int) : SimV (w.setCell ⟨g, 3 + k, none⟩ (.int .i64 x)) B g { s with due := s.due.set k x } v :=
  h.set (3 + k) _ (simcells_set_due hd hk x) rfl rfl
theorem SimV.set_m (h : SimV w B g s v) (m : Mc) : SimV (((w.setCell ⟨g, 0, none⟩ (.int .u8 m.1)).setCell ⟨g, 1, none⟩ (.int .i64 m.2.1)).setCell ⟨g, 2, none⟩ (.int .i64 m.2.2)) B g { s with m := m } v :=
  ((h.set (s' := { s with m := (m.1, s.m.2.1, s.m.2.2) }) 0 (.int .u8 m.1) rfl rfl rfl).set (s' := { s with m := (m.1, m.2.1, s.m.2.2) }) 1 (.int .i64 m.2.1) rfl rfl rfl).set (s' := { s with m := m }) 2 (.int .i64 m.2.2) rfl rfl rfl
/-- The log has grown, and the block's cell of it is written. -/
theorem SimV.set_log {v' : Value} {e : Int × Out} (h : w.heap[g]? = some (.cells (simcells s v).toArray 35 (0, 0))) (hB : B ≤ g) (hd : s.due.length = 14)
    (ho : w.ownsRow B 55 5 v' (s.log.length + 1) (s.log.flatMap ecells ++ ecells e)) (hv : v'.ownBlock ≠ some g) : SimV (w.setCell ⟨g, 18, none⟩ v') B g { s with log := s.log ++ [e] } v' := by
  refine ⟨hB, ?_, ?_, hv⟩
  · have := heap_setCell_same w g 18 _ 35 v' h
    rw [this]
    have e2 := simcells_set_log (s := s) (v := v) hd v'
    have : simcells { s with log := s.log ++ [e] } v' = simcells s v' := rfl
    rw [this, ← e2]
    simp
  · have := own_heap ho fun b hb => Below.heap_setCell w ⟨g, 18, none⟩ v' b (by rintro rfl; exact hv hb)
    simpa using this
end

end Go.Proofs.Ytlcpadonjbaaeaa
