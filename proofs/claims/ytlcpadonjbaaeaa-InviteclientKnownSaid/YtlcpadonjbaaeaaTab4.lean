/- The operations of table's drawn region, each carried out once. (Printed by wip/t12/genTab.py.) -/
import Derived.Test.YtlcpadonjbaaeaaTab3
namespace Go.Proofs.Ytlcpadonjbaaeaa
open Go.RowKit

section
variable {w0 w2 w : World} {B p3 p7 m : Nat} {listed : Array Bool} {X : Nat → Value} {Q : Exit → Act → World → Prop}

theorem op0 (_h3 : w2.heap[p3]? = some (Obj.cells #[.int .u8 6, .int .i64 0, .int .u8 0] 68 (0, 0))) (_hB : B ≤ w0.heap.size) (_hsz : listed.size = 53) (h : PartsT w0 w2 B listed X m w) (_hr : 0 ∈ Region.ready .any ops27 listed) :
    wpOp Try.prog ops27 Q 0 (InvT w0 w2 B p3 p7 (listed.setIfInBounds 0 true)) (actX p3 p7 X) w := by
  have hn : listed.getD 0 false = false := (getD_true_or listed 0 (by omega) true false).symm.trans (mem_ready.1 _hr).1
  exact wpOp_value (d := some 16) (op := .makeMap 65 none) (v := .map (some w.heap.size)) (w' := w.alloc (.map #[] 0)) (by kernel_rfl) (fun o ho => mk_run o ho) ⟨upd X 16 (.map (some w.heap.size)), w.heap.size, by kernel_rfl, h.made _hB _hsz hn⟩

theorem op1 (_h3 : w2.heap[p3]? = some (Obj.cells #[.int .u8 6, .int .i64 0, .int .u8 0] 68 (0, 0))) (_hB : B ≤ w0.heap.size) (_hsz : listed.size = 53) (h : PartsT w0 w2 B listed X m w) (_hr : 1 ∈ Region.ready .any ops27 listed) :
    wpOp Try.prog ops27 Q 1 (InvT w0 w2 B p3 p7 (listed.setIfInBounds 1 true)) (actX p3 p7 X) w := by
  exact wpOp_value (d := some 17) (op := .move (.tmp 1)) (v := (.func (.func 33) #[] #[])) (w' := w) (by kernel_rfl) (fun o ho => by unfold execOp; simp only [ho]; rfl) ⟨upd X 17 (.func (.func 33) #[] #[]), m, by kernel_rfl, h.put _hB (i := 1) (s := 17) rfl (by decide) (by decide) (.inl (by decide)) (Below.refl _ _) rfl⟩

theorem op2 (_h3 : w2.heap[p3]? = some (Obj.cells #[.int .u8 6, .int .i64 0, .int .u8 0] 68 (0, 0))) (_hB : B ≤ w0.heap.size) (_hsz : listed.size = 53) (h : PartsT w0 w2 B listed X m w) (_hr : 2 ∈ Region.ready .any ops27 listed) :
    wpOp Try.prog ops27 Q 2 (InvT w0 w2 B p3 p7 (listed.setIfInBounds 2 true)) (actX p3 p7 X) w := by
  have hx := h.vals 1 _ _ rfl (ready_dep 1 _hr (by kernel_rfl))
  have hx : X 17 = .func (.func 33) #[] #[] := hx
  refine wpOp_call (d := some 18) (op := .call { callee := .value (.tmp 17), args := #[.const (.int .u8 1)], argTypes := #[40] }) (f := 33) (args := #[.int .u8 1]) (by kernel_rfl) (fun o ho => call_run o ho (x := X 17) rfl hx (by rw [List.map_toArray]; rfl) (fun _ => by kernel_rfl)) ?_
  exact (fired_any 1 w).mono fun e w' ⟨he, hb⟩ => ⟨_, he, ⟨upd X 18 (.agg #[.int .u8 5, .int .i64 0, .int .u8 1]), m, by kernel_rfl, h.put _hB (i := 2) (s := 18) rfl (by decide) (by decide) (.inl (by decide)) hb rfl⟩⟩

theorem op3 (_h3 : w2.heap[p3]? = some (Obj.cells #[.int .u8 6, .int .i64 0, .int .u8 0] 68 (0, 0))) (_hB : B ≤ w0.heap.size) (_hsz : listed.size = 53) (h : PartsT w0 w2 B listed X m w) (_hr : 3 ∈ Region.ready .any ops27 listed) :
    wpOp Try.prog ops27 Q 3 (InvT w0 w2 B p3 p7 (listed.setIfInBounds 3 true)) (actX p3 p7 X) w := by
  have hx := h.vals 2 _ _ rfl (ready_dep 2 _hr (by kernel_rfl))
  have hx : X 18 = _ := hx
  exact wpOp_value (d := some 19) (op := .build 71 #[(0, .const (.int .u8 1)), (1, .tmp 18)]) (v := (keyV (1, 5, 0, 1))) (w' := w) (by kernel_rfl) (fun o ho => key_run o ho (x := X 18) rfl hx) ⟨upd X 19 (keyV (1, 5, 0, 1)), m, by kernel_rfl, h.put _hB (i := 3) (s := 19) rfl (by decide) (by decide) (.inl (by decide)) (Below.refl _ _) rfl⟩

theorem op4 (_h3 : w2.heap[p3]? = some (Obj.cells #[.int .u8 6, .int .i64 0, .int .u8 0] 68 (0, 0))) (_hB : B ≤ w0.heap.size) (_hsz : listed.size = 53) (h : PartsT w0 w2 B listed X m w) (_hr : 4 ∈ Region.ready .any ops27 listed) :
    wpOp Try.prog ops27 Q 4 (InvT w0 w2 B p3 p7 (listed.setIfInBounds 4 true)) (actX p3 p7 X) w := by
  have hn : listed.getD 4 false = false := (getD_true_or listed 4 (by omega) true false).symm.trans (mem_ready.1 _hr).1
  have h0 : listed.getD 0 false = true := ready_dep 0 _hr (by kernel_rfl)
  have hm : X 16 = .map (some m) := h.vals 0 _ _ rfl h0
  have hk := h.vals 3 _ _ rfl (ready_dep 3 _hr (by kernel_rfl))
  have hk : X 19 = keyV (1, 5, 0, 1) := hk
  obtain ⟨w', hrun, hp⟩ := h.ins (i := 4) (k := (1, 5, 0, 1)) (e := .again) (v := .func (.func 44) #[] #[]) _hsz (by decide) hn h0 rfl rfl
  exact wpOp_skip (d := none) (op := .insert 65 (.tmp 16) (.tmp 19) (.func 44)) (w' := w') (by kernel_rfl) (fun o ho => ins_run o ho (x := X 16) (k := X 19) rfl rfl (by rw [hm, hk]; exact hrun)) ⟨X, m, rfl, hp⟩

theorem op5 (_h3 : w2.heap[p3]? = some (Obj.cells #[.int .u8 6, .int .i64 0, .int .u8 0] 68 (0, 0))) (_hB : B ≤ w0.heap.size) (_hsz : listed.size = 53) (h : PartsT w0 w2 B listed X m w) (_hr : 5 ∈ Region.ready .any ops27 listed) :
    wpOp Try.prog ops27 Q 5 (InvT w0 w2 B p3 p7 (listed.setIfInBounds 5 true)) (actX p3 p7 X) w := by
  exact wpOp_value (d := some 20) (op := .move (.tmp 1)) (v := (.func (.func 33) #[] #[])) (w' := w) (by kernel_rfl) (fun o ho => by unfold execOp; simp only [ho]; rfl) ⟨upd X 20 (.func (.func 33) #[] #[]), m, by kernel_rfl, h.put _hB (i := 5) (s := 20) rfl (by decide) (by decide) (.inl (by decide)) (Below.refl _ _) rfl⟩

theorem op6 (_h3 : w2.heap[p3]? = some (Obj.cells #[.int .u8 6, .int .i64 0, .int .u8 0] 68 (0, 0))) (_hB : B ≤ w0.heap.size) (_hsz : listed.size = 53) (h : PartsT w0 w2 B listed X m w) (_hr : 6 ∈ Region.ready .any ops27 listed) :
    wpOp Try.prog ops27 Q 6 (InvT w0 w2 B p3 p7 (listed.setIfInBounds 6 true)) (actX p3 p7 X) w := by
  have hx := h.vals 5 _ _ rfl (ready_dep 5 _hr (by kernel_rfl))
  have hx : X 20 = .func (.func 33) #[] #[] := hx
  refine wpOp_call (d := some 21) (op := .call { callee := .value (.tmp 20), args := #[.const (.int .u8 2)], argTypes := #[40] }) (f := 33) (args := #[.int .u8 2]) (by kernel_rfl) (fun o ho => call_run o ho (x := X 20) rfl hx (by rw [List.map_toArray]; rfl) (fun _ => by kernel_rfl)) ?_
  exact (fired_any 2 w).mono fun e w' ⟨he, hb⟩ => ⟨_, he, ⟨upd X 21 (.agg #[.int .u8 5, .int .i64 0, .int .u8 2]), m, by kernel_rfl, h.put _hB (i := 6) (s := 21) rfl (by decide) (by decide) (.inl (by decide)) hb rfl⟩⟩

theorem op7 (_h3 : w2.heap[p3]? = some (Obj.cells #[.int .u8 6, .int .i64 0, .int .u8 0] 68 (0, 0))) (_hB : B ≤ w0.heap.size) (_hsz : listed.size = 53) (h : PartsT w0 w2 B listed X m w) (_hr : 7 ∈ Region.ready .any ops27 listed) :
    wpOp Try.prog ops27 Q 7 (InvT w0 w2 B p3 p7 (listed.setIfInBounds 7 true)) (actX p3 p7 X) w := by
  have hx := h.vals 6 _ _ rfl (ready_dep 6 _hr (by kernel_rfl))
  have hx : X 21 = _ := hx
  exact wpOp_value (d := some 22) (op := .build 71 #[(0, .const (.int .u8 1)), (1, .tmp 21)]) (v := (keyV (1, 5, 0, 2))) (w' := w) (by kernel_rfl) (fun o ho => key_run o ho (x := X 21) rfl hx) ⟨upd X 22 (keyV (1, 5, 0, 2)), m, by kernel_rfl, h.put _hB (i := 7) (s := 22) rfl (by decide) (by decide) (.inl (by decide)) (Below.refl _ _) rfl⟩

theorem op8 (_h3 : w2.heap[p3]? = some (Obj.cells #[.int .u8 6, .int .i64 0, .int .u8 0] 68 (0, 0))) (_hB : B ≤ w0.heap.size) (_hsz : listed.size = 53) (h : PartsT w0 w2 B listed X m w) (_hr : 8 ∈ Region.ready .any ops27 listed) :
    wpOp Try.prog ops27 Q 8 (InvT w0 w2 B p3 p7 (listed.setIfInBounds 8 true)) (actX p3 p7 X) w := by
  exact wpOp_value (d := some 23) (op := .move (.tmp 4)) (v := (.func (.func 35) #[] #[])) (w' := w) (by kernel_rfl) (fun o ho => by unfold execOp; simp only [ho]; rfl) ⟨upd X 23 (.func (.func 35) #[] #[]), m, by kernel_rfl, h.put _hB (i := 8) (s := 23) rfl (by decide) (by decide) (.inl (by decide)) (Below.refl _ _) rfl⟩

theorem op9 (_h3 : w2.heap[p3]? = some (Obj.cells #[.int .u8 6, .int .i64 0, .int .u8 0] 68 (0, 0))) (_hB : B ≤ w0.heap.size) (_hsz : listed.size = 53) (h : PartsT w0 w2 B listed X m w) (_hr : 9 ∈ Region.ready .any ops27 listed) :
    wpOp Try.prog ops27 Q 9 (InvT w0 w2 B p3 p7 (listed.setIfInBounds 9 true)) (actX p3 p7 X) w := by
  exact wpOp_value (d := some 24) (op := .build 48 #[(0, .const (.int .u8 5))]) (v := (oval (5, 0, 0, 0))) (w' := w) (by kernel_rfl) (fun o ho => b48_run o ho) ⟨upd X 24 (oval (5, 0, 0, 0)), m, by kernel_rfl, h.put _hB (i := 9) (s := 24) rfl (by decide) (by decide) (.inl (by decide)) (Below.refl _ _) rfl⟩

theorem op10 (_h3 : w2.heap[p3]? = some (Obj.cells #[.int .u8 6, .int .i64 0, .int .u8 0] 68 (0, 0))) (_hB : B ≤ w0.heap.size) (_hsz : listed.size = 53) (h : PartsT w0 w2 B listed X m w) (_hr : 10 ∈ Region.ready .any ops27 listed) :
    wpOp Try.prog ops27 Q 10 (InvT w0 w2 B p3 p7 (listed.setIfInBounds 10 true)) (actX p3 p7 X) w := by
  have hx := h.vals 9 _ _ rfl (ready_dep 9 _hr (by kernel_rfl))
  have hx : X 24 = oval (5, 0, 0, 0) := hx
  exact wpOp_value (d := some 25) (op := .buildSlice 43 1 #[(0, .tmp 24)]) (v := (.slice (some ⟨w.heap.size, 0, none⟩) 1 1)) (w' := w.alloc (.cells (ocells (5, 0, 0, 0)).toArray 48)) (by kernel_rfl) (fun o ho => slice_run o ho (x := X 24) rfl hx) ⟨upd X 25 (.slice (some ⟨w.heap.size, 0, none⟩) 1 1), m, by kernel_rfl, h.put _hB (i := 10) (s := 25) rfl (by decide) (by decide) (.inl (by decide)) ((Below.refl _ _).alloc (Nat.le_refl _) _) ⟨w.heap.size, rfl, Nat.le_trans _hB h.below.size, heap_alloc_new _ _⟩⟩

theorem op11 (_h3 : w2.heap[p3]? = some (Obj.cells #[.int .u8 6, .int .i64 0, .int .u8 0] 68 (0, 0))) (_hB : B ≤ w0.heap.size) (_hsz : listed.size = 53) (h : PartsT w0 w2 B listed X m w) (_hr : 11 ∈ Region.ready .any ops27 listed) :
    wpOp Try.prog ops27 Q 11 (InvT w0 w2 B p3 p7 (listed.setIfInBounds 11 true)) (actX p3 p7 X) w := by
  have hx := h.vals 8 _ _ rfl (ready_dep 8 _hr (by kernel_rfl))
  have hx : X 23 = .func (.func 35) #[] #[] := hx
  have hy := h.vals 10 _ _ rfl (ready_dep 10 _hr (by kernel_rfl))
  obtain ⟨g, hy, hg, hgc⟩ := hy
  have hlt : g < w.heap.size := (Array.getElem?_eq_some_iff.1 hgc).1
  refine wpOp_call (d := some 26) (op := .call { callee := .value (.tmp 23), args := #[.tmp 25], argTypes := #[43] }) (f := 35) (args := #[.slice (some ⟨g, 0, none⟩) 1 1]) (by kernel_rfl) (fun o ho => call_run o ho (x := X 23) rfl hx (by rw [List.map_toArray]; show #[X 25] = _; rw [hy]) (fun _ => by kernel_rfl)) ?_
  refine (mkover_any _ 1 1 w).mono fun e w' ⟨he, hw⟩ => ?_
  subst hw
  have hb : Below w.heap.size w (w.alloc (.cells #[.slice (some ⟨g, 0, none⟩) 1 1] 43)) := (Below.refl _ _).alloc (Nat.le_refl _) _
  exact ⟨_, he, ⟨upd X 26 (.func (.func 36) #[] #[.pointer (some ⟨w.heap.size, 0, none⟩)]), m, by kernel_rfl, h.put _hB (i := 11) (s := 26) rfl (by decide) (by decide) (.inl (by decide)) hb ⟨w.heap.size, 43, .inr ⟨g, (5, 0, 0, 0), rfl, rfl, heap_alloc_new _ _, by omega, hg, block_below hgc hb hlt⟩⟩⟩⟩

theorem op12 (_h3 : w2.heap[p3]? = some (Obj.cells #[.int .u8 6, .int .i64 0, .int .u8 0] 68 (0, 0))) (_hB : B ≤ w0.heap.size) (_hsz : listed.size = 53) (h : PartsT w0 w2 B listed X m w) (_hr : 12 ∈ Region.ready .any ops27 listed) :
    wpOp Try.prog ops27 Q 12 (InvT w0 w2 B p3 p7 (listed.setIfInBounds 12 true)) (actX p3 p7 X) w := by
  have hn : listed.getD 12 false = false := (getD_true_or listed 12 (by omega) true false).symm.trans (mem_ready.1 _hr).1
  have h0 : listed.getD 0 false = true := ready_dep 0 _hr (by kernel_rfl)
  have hm : X 16 = .map (some m) := h.vals 0 _ _ rfl h0
  have hk := h.vals 7 _ _ rfl (ready_dep 7 _hr (by kernel_rfl))
  have hk : X 22 = keyV (1, 5, 0, 2) := hk
  have hv := h.vals 11 _ _ rfl (ready_dep 11 _hr (by kernel_rfl))
  obtain ⟨w', hrun, hp⟩ := h.ins (i := 12) (k := (1, 5, 0, 2)) (e := (.over [(5, 0, 0, 0)])) (v := X 26) _hsz (by decide) hn h0 rfl hv
  exact wpOp_skip (d := none) (op := .insert 65 (.tmp 16) (.tmp 22) (.tmp 26)) (w' := w') (by kernel_rfl) (fun o ho => ins_run o ho (x := X 16) (k := X 22) rfl rfl (by rw [hm, hk]; exact hrun)) ⟨X, m, rfl, hp⟩

theorem op13 (_h3 : w2.heap[p3]? = some (Obj.cells #[.int .u8 6, .int .i64 0, .int .u8 0] 68 (0, 0))) (_hB : B ≤ w0.heap.size) (_hsz : listed.size = 53) (h : PartsT w0 w2 B listed X m w) (_hr : 13 ∈ Region.ready .any ops27 listed) :
    wpOp Try.prog ops27 Q 13 (InvT w0 w2 B p3 p7 (listed.setIfInBounds 13 true)) (actX p3 p7 X) w := by
  exact wpOp_value (d := some 27) (op := .load 68 (.tmp 3)) (v := (.agg #[.int .u8 6, .int .i64 0, .int .u8 0])) (w' := w) (by kernel_rfl) (fun o ho => load_run o ho rfl (h.keep.2 _ _ _ _h3)) ⟨upd X 27 (.agg #[.int .u8 6, .int .i64 0, .int .u8 0]), m, by kernel_rfl, h.put _hB (i := 13) (s := 27) rfl (by decide) (by decide) (.inl (by decide)) (Below.refl _ _) rfl⟩

theorem op14 (_h3 : w2.heap[p3]? = some (Obj.cells #[.int .u8 6, .int .i64 0, .int .u8 0] 68 (0, 0))) (_hB : B ≤ w0.heap.size) (_hsz : listed.size = 53) (h : PartsT w0 w2 B listed X m w) (_hr : 14 ∈ Region.ready .any ops27 listed) :
    wpOp Try.prog ops27 Q 14 (InvT w0 w2 B p3 p7 (listed.setIfInBounds 14 true)) (actX p3 p7 X) w := by
  have hx := h.vals 13 _ _ rfl (ready_dep 13 _hr (by kernel_rfl))
  have hx : X 27 = _ := hx
  exact wpOp_value (d := some 28) (op := .build 71 #[(0, .const (.int .u8 1)), (1, .tmp 27)]) (v := (keyV (1, 6, 0, 0))) (w' := w) (by kernel_rfl) (fun o ho => key_run o ho (x := X 27) rfl hx) ⟨upd X 28 (keyV (1, 6, 0, 0)), m, by kernel_rfl, h.put _hB (i := 14) (s := 28) rfl (by decide) (by decide) (.inl (by decide)) (Below.refl _ _) rfl⟩

theorem op15 (_h3 : w2.heap[p3]? = some (Obj.cells #[.int .u8 6, .int .i64 0, .int .u8 0] 68 (0, 0))) (_hB : B ≤ w0.heap.size) (_hsz : listed.size = 53) (h : PartsT w0 w2 B listed X m w) (_hr : 15 ∈ Region.ready .any ops27 listed) :
    wpOp Try.prog ops27 Q 15 (InvT w0 w2 B p3 p7 (listed.setIfInBounds 15 true)) (actX p3 p7 X) w := by
  exact wpOp_value (d := some 29) (op := .move (.tmp 4)) (v := (.func (.func 35) #[] #[])) (w' := w) (by kernel_rfl) (fun o ho => by unfold execOp; simp only [ho]; rfl) ⟨upd X 29 (.func (.func 35) #[] #[]), m, by kernel_rfl, h.put _hB (i := 15) (s := 29) rfl (by decide) (by decide) (.inl (by decide)) (Below.refl _ _) rfl⟩

theorem op16 (_h3 : w2.heap[p3]? = some (Obj.cells #[.int .u8 6, .int .i64 0, .int .u8 0] 68 (0, 0))) (_hB : B ≤ w0.heap.size) (_hsz : listed.size = 53) (h : PartsT w0 w2 B listed X m w) (_hr : 16 ∈ Region.ready .any ops27 listed) :
    wpOp Try.prog ops27 Q 16 (InvT w0 w2 B p3 p7 (listed.setIfInBounds 16 true)) (actX p3 p7 X) w := by
  exact wpOp_value (d := some 30) (op := .build 48 #[(0, .const (.int .u8 6))]) (v := (oval (6, 0, 0, 0))) (w' := w) (by kernel_rfl) (fun o ho => b48_run o ho) ⟨upd X 30 (oval (6, 0, 0, 0)), m, by kernel_rfl, h.put _hB (i := 16) (s := 30) rfl (by decide) (by decide) (.inl (by decide)) (Below.refl _ _) rfl⟩

theorem op17 (_h3 : w2.heap[p3]? = some (Obj.cells #[.int .u8 6, .int .i64 0, .int .u8 0] 68 (0, 0))) (_hB : B ≤ w0.heap.size) (_hsz : listed.size = 53) (h : PartsT w0 w2 B listed X m w) (_hr : 17 ∈ Region.ready .any ops27 listed) :
    wpOp Try.prog ops27 Q 17 (InvT w0 w2 B p3 p7 (listed.setIfInBounds 17 true)) (actX p3 p7 X) w := by
  have hx := h.vals 16 _ _ rfl (ready_dep 16 _hr (by kernel_rfl))
  have hx : X 30 = oval (6, 0, 0, 0) := hx
  exact wpOp_value (d := some 31) (op := .buildSlice 43 1 #[(0, .tmp 30)]) (v := (.slice (some ⟨w.heap.size, 0, none⟩) 1 1)) (w' := w.alloc (.cells (ocells (6, 0, 0, 0)).toArray 48)) (by kernel_rfl) (fun o ho => slice_run o ho (x := X 30) rfl hx) ⟨upd X 31 (.slice (some ⟨w.heap.size, 0, none⟩) 1 1), m, by kernel_rfl, h.put _hB (i := 17) (s := 31) rfl (by decide) (by decide) (.inl (by decide)) ((Below.refl _ _).alloc (Nat.le_refl _) _) ⟨w.heap.size, rfl, Nat.le_trans _hB h.below.size, heap_alloc_new _ _⟩⟩

theorem op18 (_h3 : w2.heap[p3]? = some (Obj.cells #[.int .u8 6, .int .i64 0, .int .u8 0] 68 (0, 0))) (_hB : B ≤ w0.heap.size) (_hsz : listed.size = 53) (h : PartsT w0 w2 B listed X m w) (_hr : 18 ∈ Region.ready .any ops27 listed) :
    wpOp Try.prog ops27 Q 18 (InvT w0 w2 B p3 p7 (listed.setIfInBounds 18 true)) (actX p3 p7 X) w := by
  have hx := h.vals 15 _ _ rfl (ready_dep 15 _hr (by kernel_rfl))
  have hx : X 29 = .func (.func 35) #[] #[] := hx
  have hy := h.vals 17 _ _ rfl (ready_dep 17 _hr (by kernel_rfl))
  obtain ⟨g, hy, hg, hgc⟩ := hy
  have hlt : g < w.heap.size := (Array.getElem?_eq_some_iff.1 hgc).1
  refine wpOp_call (d := some 32) (op := .call { callee := .value (.tmp 29), args := #[.tmp 31], argTypes := #[43] }) (f := 35) (args := #[.slice (some ⟨g, 0, none⟩) 1 1]) (by kernel_rfl) (fun o ho => call_run o ho (x := X 29) rfl hx (by rw [List.map_toArray]; show #[X 31] = _; rw [hy]) (fun _ => by kernel_rfl)) ?_
  refine (mkover_any _ 1 1 w).mono fun e w' ⟨he, hw⟩ => ?_
  subst hw
  have hb : Below w.heap.size w (w.alloc (.cells #[.slice (some ⟨g, 0, none⟩) 1 1] 43)) := (Below.refl _ _).alloc (Nat.le_refl _) _
  exact ⟨_, he, ⟨upd X 32 (.func (.func 36) #[] #[.pointer (some ⟨w.heap.size, 0, none⟩)]), m, by kernel_rfl, h.put _hB (i := 18) (s := 32) rfl (by decide) (by decide) (.inl (by decide)) hb ⟨w.heap.size, 43, .inr ⟨g, (6, 0, 0, 0), rfl, rfl, heap_alloc_new _ _, by omega, hg, block_below hgc hb hlt⟩⟩⟩⟩

theorem op19 (_h3 : w2.heap[p3]? = some (Obj.cells #[.int .u8 6, .int .i64 0, .int .u8 0] 68 (0, 0))) (_hB : B ≤ w0.heap.size) (_hsz : listed.size = 53) (h : PartsT w0 w2 B listed X m w) (_hr : 19 ∈ Region.ready .any ops27 listed) :
    wpOp Try.prog ops27 Q 19 (InvT w0 w2 B p3 p7 (listed.setIfInBounds 19 true)) (actX p3 p7 X) w := by
  have hn : listed.getD 19 false = false := (getD_true_or listed 19 (by omega) true false).symm.trans (mem_ready.1 _hr).1
  have h0 : listed.getD 0 false = true := ready_dep 0 _hr (by kernel_rfl)
  have hm : X 16 = .map (some m) := h.vals 0 _ _ rfl h0
  have hk := h.vals 14 _ _ rfl (ready_dep 14 _hr (by kernel_rfl))
  have hk : X 28 = keyV (1, 6, 0, 0) := hk
  have hv := h.vals 18 _ _ rfl (ready_dep 18 _hr (by kernel_rfl))
  obtain ⟨w', hrun, hp⟩ := h.ins (i := 19) (k := (1, 6, 0, 0)) (e := (.over [(6, 0, 0, 0)])) (v := X 32) _hsz (by decide) hn h0 rfl hv
  exact wpOp_skip (d := none) (op := .insert 65 (.tmp 16) (.tmp 28) (.tmp 32)) (w' := w') (by kernel_rfl) (fun o ho => ins_run o ho (x := X 16) (k := X 28) rfl rfl (by rw [hm, hk]; exact hrun)) ⟨X, m, rfl, hp⟩

theorem op20 (_h3 : w2.heap[p3]? = some (Obj.cells #[.int .u8 6, .int .i64 0, .int .u8 0] 68 (0, 0))) (_hB : B ≤ w0.heap.size) (_hsz : listed.size = 53) (h : PartsT w0 w2 B listed X m w) (_hr : 20 ∈ Region.ready .any ops27 listed) :
    wpOp Try.prog ops27 Q 20 (InvT w0 w2 B p3 p7 (listed.setIfInBounds 20 true)) (actX p3 p7 X) w := by
  exact wpOp_value (d := some 33) (op := .move (.tmp 2)) (v := (.func (.func 34) #[] #[])) (w' := w) (by kernel_rfl) (fun o ho => by unfold execOp; simp only [ho]; rfl) ⟨upd X 33 (.func (.func 34) #[] #[]), m, by kernel_rfl, h.put _hB (i := 20) (s := 33) rfl (by decide) (by decide) (.inl (by decide)) (Below.refl _ _) rfl⟩

theorem op21 (_h3 : w2.heap[p3]? = some (Obj.cells #[.int .u8 6, .int .i64 0, .int .u8 0] 68 (0, 0))) (_hB : B ≤ w0.heap.size) (_hsz : listed.size = 53) (h : PartsT w0 w2 B listed X m w) (_hr : 21 ∈ Region.ready .any ops27 listed) :
    wpOp Try.prog ops27 Q 21 (InvT w0 w2 B p3 p7 (listed.setIfInBounds 21 true)) (actX p3 p7 X) w := by
  have hx := h.vals 20 _ _ rfl (ready_dep 20 _hr (by kernel_rfl))
  have hx : X 33 = .func (.func 34) #[] #[] := hx
  refine wpOp_call (d := some 34) (op := .call { callee := .value (.tmp 33), args := #[.const (.int .i64 2)], argTypes := #[3] }) (f := 34) (args := #[.int .i64 2]) (by kernel_rfl) (fun o ho => call_run o ho (x := X 33) rfl hx (by rw [List.map_toArray]; rfl) (fun _ => by kernel_rfl)) ?_
  exact (resp_any 2 w).mono fun e w' ⟨he, hb⟩ => ⟨_, he, ⟨upd X 34 (.agg #[.int .u8 2, .int .i64 2, .int .u8 0]), m, by kernel_rfl, h.put _hB (i := 21) (s := 34) rfl (by decide) (by decide) (.inl (by decide)) hb rfl⟩⟩

theorem op22 (_h3 : w2.heap[p3]? = some (Obj.cells #[.int .u8 6, .int .i64 0, .int .u8 0] 68 (0, 0))) (_hB : B ≤ w0.heap.size) (_hsz : listed.size = 53) (h : PartsT w0 w2 B listed X m w) (_hr : 22 ∈ Region.ready .any ops27 listed) :
    wpOp Try.prog ops27 Q 22 (InvT w0 w2 B p3 p7 (listed.setIfInBounds 22 true)) (actX p3 p7 X) w := by
  have hx := h.vals 21 _ _ rfl (ready_dep 21 _hr (by kernel_rfl))
  have hx : X 34 = _ := hx
  exact wpOp_value (d := some 35) (op := .build 71 #[(0, .const (.int .u8 4)), (1, .tmp 34)]) (v := (keyV (4, 2, 2, 0))) (w' := w) (by kernel_rfl) (fun o ho => key_run o ho (x := X 34) rfl hx) ⟨upd X 35 (keyV (4, 2, 2, 0)), m, by kernel_rfl, h.put _hB (i := 22) (s := 35) rfl (by decide) (by decide) (.inl (by decide)) (Below.refl _ _) rfl⟩

theorem op23 (_h3 : w2.heap[p3]? = some (Obj.cells #[.int .u8 6, .int .i64 0, .int .u8 0] 68 (0, 0))) (_hB : B ≤ w0.heap.size) (_hsz : listed.size = 53) (h : PartsT w0 w2 B listed X m w) (_hr : 23 ∈ Region.ready .any ops27 listed) :
    wpOp Try.prog ops27 Q 23 (InvT w0 w2 B p3 p7 (listed.setIfInBounds 23 true)) (actX p3 p7 X) w := by
  exact wpOp_value (d := some 36) (op := .move (.tmp 6)) (v := (.func (.func 39) #[] #[])) (w' := w) (by kernel_rfl) (fun o ho => by unfold execOp; simp only [ho]; rfl) ⟨upd X 36 (.func (.func 39) #[] #[]), m, by kernel_rfl, h.put _hB (i := 23) (s := 36) rfl (by decide) (by decide) (.inl (by decide)) (Below.refl _ _) rfl⟩

theorem op24 (_h3 : w2.heap[p3]? = some (Obj.cells #[.int .u8 6, .int .i64 0, .int .u8 0] 68 (0, 0))) (_hB : B ≤ w0.heap.size) (_hsz : listed.size = 53) (h : PartsT w0 w2 B listed X m w) (_hr : 24 ∈ Region.ready .any ops27 listed) :
    wpOp Try.prog ops27 Q 24 (InvT w0 w2 B p3 p7 (listed.setIfInBounds 24 true)) (actX p3 p7 X) w := by
  have hx := h.vals 23 _ _ rfl (ready_dep 23 _hr (by kernel_rfl))
  have hx : X 36 = .func (.func 39) #[] #[] := hx
  refine wpOp_call (d := some 37) (op := .call { callee := .value (.tmp 36), args := #[.const (.int .u8 3)], argTypes := #[27] }) (f := 39) (args := #[.int .u8 3]) (by kernel_rfl) (fun o ho => call_run o ho (x := X 36) rfl hx (by rw [List.map_toArray]; rfl) (fun _ => by kernel_rfl)) ?_
  refine (mkstay_any 3 w).mono fun e w' ⟨he, hw⟩ => ?_
  subst hw
  have hb : Below w.heap.size w (w.alloc (.cells #[.int .u8 3] 27)) := (Below.refl _ _).alloc (Nat.le_refl _) _
  exact ⟨_, he, ⟨upd X 37 (.func (.func 40) #[] #[.pointer (some ⟨w.heap.size, 0, none⟩)]), m, by kernel_rfl, h.put _hB (i := 24) (s := 37) rfl (by decide) (by decide) (.inl (by decide)) hb ⟨w.heap.size, 27, rfl, heap_alloc_new _ _⟩⟩⟩

theorem op25 (_h3 : w2.heap[p3]? = some (Obj.cells #[.int .u8 6, .int .i64 0, .int .u8 0] 68 (0, 0))) (_hB : B ≤ w0.heap.size) (_hsz : listed.size = 53) (h : PartsT w0 w2 B listed X m w) (_hr : 25 ∈ Region.ready .any ops27 listed) :
    wpOp Try.prog ops27 Q 25 (InvT w0 w2 B p3 p7 (listed.setIfInBounds 25 true)) (actX p3 p7 X) w := by
  have hn : listed.getD 25 false = false := (getD_true_or listed 25 (by omega) true false).symm.trans (mem_ready.1 _hr).1
  have h0 : listed.getD 0 false = true := ready_dep 0 _hr (by kernel_rfl)
  have hm : X 16 = .map (some m) := h.vals 0 _ _ rfl h0
  have hk := h.vals 22 _ _ rfl (ready_dep 22 _hr (by kernel_rfl))
  have hk : X 35 = keyV (4, 2, 2, 0) := hk
  have hv := h.vals 24 _ _ rfl (ready_dep 24 _hr (by kernel_rfl))
  obtain ⟨w', hrun, hp⟩ := h.ins (i := 25) (k := (4, 2, 2, 0)) (e := (.stay 3)) (v := X 37) _hsz (by decide) hn h0 rfl hv
  exact wpOp_skip (d := none) (op := .insert 65 (.tmp 16) (.tmp 35) (.tmp 37)) (w' := w') (by kernel_rfl) (fun o ho => ins_run o ho (x := X 16) (k := X 35) rfl rfl (by rw [hm, hk]; exact hrun)) ⟨X, m, rfl, hp⟩

theorem op26 (_h3 : w2.heap[p3]? = some (Obj.cells #[.int .u8 6, .int .i64 0, .int .u8 0] 68 (0, 0))) (_hB : B ≤ w0.heap.size) (_hsz : listed.size = 53) (h : PartsT w0 w2 B listed X m w) (_hr : 26 ∈ Region.ready .any ops27 listed) :
    wpOp Try.prog ops27 Q 26 (InvT w0 w2 B p3 p7 (listed.setIfInBounds 26 true)) (actX p3 p7 X) w := by
  exact wpOp_value (d := some 38) (op := .move (.tmp 1)) (v := (.func (.func 33) #[] #[])) (w' := w) (by kernel_rfl) (fun o ho => by unfold execOp; simp only [ho]; rfl) ⟨upd X 38 (.func (.func 33) #[] #[]), m, by kernel_rfl, h.put _hB (i := 26) (s := 38) rfl (by decide) (by decide) (.inl (by decide)) (Below.refl _ _) rfl⟩

theorem op27 (_h3 : w2.heap[p3]? = some (Obj.cells #[.int .u8 6, .int .i64 0, .int .u8 0] 68 (0, 0))) (_hB : B ≤ w0.heap.size) (_hsz : listed.size = 53) (h : PartsT w0 w2 B listed X m w) (_hr : 27 ∈ Region.ready .any ops27 listed) :
    wpOp Try.prog ops27 Q 27 (InvT w0 w2 B p3 p7 (listed.setIfInBounds 27 true)) (actX p3 p7 X) w := by
  have hx := h.vals 26 _ _ rfl (ready_dep 26 _hr (by kernel_rfl))
  have hx : X 38 = .func (.func 33) #[] #[] := hx
  refine wpOp_call (d := some 39) (op := .call { callee := .value (.tmp 38), args := #[.const (.int .u8 13)], argTypes := #[40] }) (f := 33) (args := #[.int .u8 13]) (by kernel_rfl) (fun o ho => call_run o ho (x := X 38) rfl hx (by rw [List.map_toArray]; rfl) (fun _ => by kernel_rfl)) ?_
  exact (fired_any 13 w).mono fun e w' ⟨he, hb⟩ => ⟨_, he, ⟨upd X 39 (.agg #[.int .u8 5, .int .i64 0, .int .u8 13]), m, by kernel_rfl, h.put _hB (i := 27) (s := 39) rfl (by decide) (by decide) (.inl (by decide)) hb rfl⟩⟩

theorem op28 (_h3 : w2.heap[p3]? = some (Obj.cells #[.int .u8 6, .int .i64 0, .int .u8 0] 68 (0, 0))) (_hB : B ≤ w0.heap.size) (_hsz : listed.size = 53) (h : PartsT w0 w2 B listed X m w) (_hr : 28 ∈ Region.ready .any ops27 listed) :
    wpOp Try.prog ops27 Q 28 (InvT w0 w2 B p3 p7 (listed.setIfInBounds 28 true)) (actX p3 p7 X) w := by
  have hx := h.vals 27 _ _ rfl (ready_dep 27 _hr (by kernel_rfl))
  have hx : X 39 = _ := hx
  exact wpOp_value (d := some 40) (op := .build 71 #[(0, .const (.int .u8 4)), (1, .tmp 39)]) (v := (keyV (4, 5, 0, 13))) (w' := w) (by kernel_rfl) (fun o ho => key_run o ho (x := X 39) rfl hx) ⟨upd X 40 (keyV (4, 5, 0, 13)), m, by kernel_rfl, h.put _hB (i := 28) (s := 40) rfl (by decide) (by decide) (.inl (by decide)) (Below.refl _ _) rfl⟩

theorem op29 (_h3 : w2.heap[p3]? = some (Obj.cells #[.int .u8 6, .int .i64 0, .int .u8 0] 68 (0, 0))) (_hB : B ≤ w0.heap.size) (_hsz : listed.size = 53) (h : PartsT w0 w2 B listed X m w) (_hr : 29 ∈ Region.ready .any ops27 listed) :
    wpOp Try.prog ops27 Q 29 (InvT w0 w2 B p3 p7 (listed.setIfInBounds 29 true)) (actX p3 p7 X) w := by
  exact wpOp_value (d := some 41) (op := .move (.tmp 4)) (v := (.func (.func 35) #[] #[])) (w' := w) (by kernel_rfl) (fun o ho => by unfold execOp; simp only [ho]; rfl) ⟨upd X 41 (.func (.func 35) #[] #[]), m, by kernel_rfl, h.put _hB (i := 29) (s := 41) rfl (by decide) (by decide) (.inl (by decide)) (Below.refl _ _) rfl⟩

theorem op30 (_h3 : w2.heap[p3]? = some (Obj.cells #[.int .u8 6, .int .i64 0, .int .u8 0] 68 (0, 0))) (_hB : B ≤ w0.heap.size) (_hsz : listed.size = 53) (h : PartsT w0 w2 B listed X m w) (_hr : 30 ∈ Region.ready .any ops27 listed) :
    wpOp Try.prog ops27 Q 30 (InvT w0 w2 B p3 p7 (listed.setIfInBounds 30 true)) (actX p3 p7 X) w := by
  have hx := h.vals 29 _ _ rfl (ready_dep 29 _hr (by kernel_rfl))
  have hx : X 41 = .func (.func 35) #[] #[] := hx
  refine wpOp_call (d := some 42) (op := .call { callee := .value (.tmp 41), args := #[.const (.slice none 0 0)], argTypes := #[43] }) (f := 35) (args := #[.slice none 0 0]) (by kernel_rfl) (fun o ho => call_run o ho (x := X 41) rfl hx (by rw [List.map_toArray]; rfl) (fun _ => by kernel_rfl)) ?_
  refine (mkover_any none 0 0 w).mono fun e w' ⟨he, hw⟩ => ?_
  subst hw
  have hb : Below w.heap.size w (w.alloc (.cells #[.slice none 0 0] 43)) := (Below.refl _ _).alloc (Nat.le_refl _) _
  exact ⟨_, he, ⟨upd X 42 (.func (.func 36) #[] #[.pointer (some ⟨w.heap.size, 0, none⟩)]), m, by kernel_rfl, h.put _hB (i := 30) (s := 42) rfl (by decide) (by decide) (.inl (by decide)) hb ⟨w.heap.size, 43, .inl ⟨rfl, rfl, heap_alloc_new _ _⟩⟩⟩⟩

theorem op31 (_h3 : w2.heap[p3]? = some (Obj.cells #[.int .u8 6, .int .i64 0, .int .u8 0] 68 (0, 0))) (_hB : B ≤ w0.heap.size) (_hsz : listed.size = 53) (h : PartsT w0 w2 B listed X m w) (_hr : 31 ∈ Region.ready .any ops27 listed) :
    wpOp Try.prog ops27 Q 31 (InvT w0 w2 B p3 p7 (listed.setIfInBounds 31 true)) (actX p3 p7 X) w := by
  have hn : listed.getD 31 false = false := (getD_true_or listed 31 (by omega) true false).symm.trans (mem_ready.1 _hr).1
  have h0 : listed.getD 0 false = true := ready_dep 0 _hr (by kernel_rfl)
  have hm : X 16 = .map (some m) := h.vals 0 _ _ rfl h0
  have hk := h.vals 28 _ _ rfl (ready_dep 28 _hr (by kernel_rfl))
  have hk : X 40 = keyV (4, 5, 0, 13) := hk
  have hv := h.vals 30 _ _ rfl (ready_dep 30 _hr (by kernel_rfl))
  obtain ⟨w', hrun, hp⟩ := h.ins (i := 31) (k := (4, 5, 0, 13)) (e := (.over [])) (v := X 42) _hsz (by decide) hn h0 rfl hv
  exact wpOp_skip (d := none) (op := .insert 65 (.tmp 16) (.tmp 40) (.tmp 42)) (w' := w') (by kernel_rfl) (fun o ho => ins_run o ho (x := X 16) (k := X 40) rfl rfl (by rw [hm, hk]; exact hrun)) ⟨X, m, rfl, hp⟩

theorem op32 (_h3 : w2.heap[p3]? = some (Obj.cells #[.int .u8 6, .int .i64 0, .int .u8 0] 68 (0, 0))) (_hB : B ≤ w0.heap.size) (_hsz : listed.size = 53) (h : PartsT w0 w2 B listed X m w) (_hr : 32 ∈ Region.ready .any ops27 listed) :
    wpOp Try.prog ops27 Q 32 (InvT w0 w2 B p3 p7 (listed.setIfInBounds 32 true)) (actX p3 p7 X) w := by
  exact wpOp_value (d := some 43) (op := .move (.tmp 2)) (v := (.func (.func 34) #[] #[])) (w' := w) (by kernel_rfl) (fun o ho => by unfold execOp; simp only [ho]; rfl) ⟨upd X 43 (.func (.func 34) #[] #[]), m, by kernel_rfl, h.put _hB (i := 32) (s := 43) rfl (by decide) (by decide) (.inl (by decide)) (Below.refl _ _) rfl⟩

theorem op33 (_h3 : w2.heap[p3]? = some (Obj.cells #[.int .u8 6, .int .i64 0, .int .u8 0] 68 (0, 0))) (_hB : B ≤ w0.heap.size) (_hsz : listed.size = 53) (h : PartsT w0 w2 B listed X m w) (_hr : 33 ∈ Region.ready .any ops27 listed) :
    wpOp Try.prog ops27 Q 33 (InvT w0 w2 B p3 p7 (listed.setIfInBounds 33 true)) (actX p3 p7 X) w := by
  have hx := h.vals 32 _ _ rfl (ready_dep 32 _hr (by kernel_rfl))
  have hx : X 43 = .func (.func 34) #[] #[] := hx
  refine wpOp_call (d := some 44) (op := .call { callee := .value (.tmp 43), args := #[.const (.int .i64 3)], argTypes := #[3] }) (f := 34) (args := #[.int .i64 3]) (by kernel_rfl) (fun o ho => call_run o ho (x := X 43) rfl hx (by rw [List.map_toArray]; rfl) (fun _ => by kernel_rfl)) ?_
  exact (resp_any 3 w).mono fun e w' ⟨he, hb⟩ => ⟨_, he, ⟨upd X 44 (.agg #[.int .u8 2, .int .i64 3, .int .u8 0]), m, by kernel_rfl, h.put _hB (i := 33) (s := 44) rfl (by decide) (by decide) (.inl (by decide)) hb rfl⟩⟩

theorem op34 (_h3 : w2.heap[p3]? = some (Obj.cells #[.int .u8 6, .int .i64 0, .int .u8 0] 68 (0, 0))) (_hB : B ≤ w0.heap.size) (_hsz : listed.size = 53) (h : PartsT w0 w2 B listed X m w) (_hr : 34 ∈ Region.ready .any ops27 listed) :
    wpOp Try.prog ops27 Q 34 (InvT w0 w2 B p3 p7 (listed.setIfInBounds 34 true)) (actX p3 p7 X) w := by
  have hx := h.vals 33 _ _ rfl (ready_dep 33 _hr (by kernel_rfl))
  have hx : X 44 = _ := hx
  exact wpOp_value (d := some 45) (op := .build 71 #[(0, .const (.int .u8 5)), (1, .tmp 44)]) (v := (keyV (5, 2, 3, 0))) (w' := w) (by kernel_rfl) (fun o ho => key_run o ho (x := X 44) rfl hx) ⟨upd X 45 (keyV (5, 2, 3, 0)), m, by kernel_rfl, h.put _hB (i := 34) (s := 45) rfl (by decide) (by decide) (.inl (by decide)) (Below.refl _ _) rfl⟩

theorem op35 (_h3 : w2.heap[p3]? = some (Obj.cells #[.int .u8 6, .int .i64 0, .int .u8 0] 68 (0, 0))) (_hB : B ≤ w0.heap.size) (_hsz : listed.size = 53) (h : PartsT w0 w2 B listed X m w) (_hr : 35 ∈ Region.ready .any ops27 listed) :
    wpOp Try.prog ops27 Q 35 (InvT w0 w2 B p3 p7 (listed.setIfInBounds 35 true)) (actX p3 p7 X) w := by
  exact wpOp_value (d := some 46) (op := .move (.tmp 6)) (v := (.func (.func 39) #[] #[])) (w' := w) (by kernel_rfl) (fun o ho => by unfold execOp; simp only [ho]; rfl) ⟨upd X 46 (.func (.func 39) #[] #[]), m, by kernel_rfl, h.put _hB (i := 35) (s := 46) rfl (by decide) (by decide) (.inl (by decide)) (Below.refl _ _) rfl⟩

theorem op36 (_h3 : w2.heap[p3]? = some (Obj.cells #[.int .u8 6, .int .i64 0, .int .u8 0] 68 (0, 0))) (_hB : B ≤ w0.heap.size) (_hsz : listed.size = 53) (h : PartsT w0 w2 B listed X m w) (_hr : 36 ∈ Region.ready .any ops27 listed) :
    wpOp Try.prog ops27 Q 36 (InvT w0 w2 B p3 p7 (listed.setIfInBounds 36 true)) (actX p3 p7 X) w := by
  have hx := h.vals 35 _ _ rfl (ready_dep 35 _hr (by kernel_rfl))
  have hx : X 46 = .func (.func 39) #[] #[] := hx
  refine wpOp_call (d := some 47) (op := .call { callee := .value (.tmp 46), args := #[.const (.int .u8 2)], argTypes := #[27] }) (f := 39) (args := #[.int .u8 2]) (by kernel_rfl) (fun o ho => call_run o ho (x := X 46) rfl hx (by rw [List.map_toArray]; rfl) (fun _ => by kernel_rfl)) ?_
  refine (mkstay_any 2 w).mono fun e w' ⟨he, hw⟩ => ?_
  subst hw
  have hb : Below w.heap.size w (w.alloc (.cells #[.int .u8 2] 27)) := (Below.refl _ _).alloc (Nat.le_refl _) _
  exact ⟨_, he, ⟨upd X 47 (.func (.func 40) #[] #[.pointer (some ⟨w.heap.size, 0, none⟩)]), m, by kernel_rfl, h.put _hB (i := 36) (s := 47) rfl (by decide) (by decide) (.inl (by decide)) hb ⟨w.heap.size, 27, rfl, heap_alloc_new _ _⟩⟩⟩

theorem op37 (_h3 : w2.heap[p3]? = some (Obj.cells #[.int .u8 6, .int .i64 0, .int .u8 0] 68 (0, 0))) (_hB : B ≤ w0.heap.size) (_hsz : listed.size = 53) (h : PartsT w0 w2 B listed X m w) (_hr : 37 ∈ Region.ready .any ops27 listed) :
    wpOp Try.prog ops27 Q 37 (InvT w0 w2 B p3 p7 (listed.setIfInBounds 37 true)) (actX p3 p7 X) w := by
  have hn : listed.getD 37 false = false := (getD_true_or listed 37 (by omega) true false).symm.trans (mem_ready.1 _hr).1
  have h0 : listed.getD 0 false = true := ready_dep 0 _hr (by kernel_rfl)
  have hm : X 16 = .map (some m) := h.vals 0 _ _ rfl h0
  have hk := h.vals 34 _ _ rfl (ready_dep 34 _hr (by kernel_rfl))
  have hk : X 45 = keyV (5, 2, 3, 0) := hk
  have hv := h.vals 36 _ _ rfl (ready_dep 36 _hr (by kernel_rfl))
  obtain ⟨w', hrun, hp⟩ := h.ins (i := 37) (k := (5, 2, 3, 0)) (e := (.stay 2)) (v := X 47) _hsz (by decide) hn h0 rfl hv
  exact wpOp_skip (d := none) (op := .insert 65 (.tmp 16) (.tmp 45) (.tmp 47)) (w' := w') (by kernel_rfl) (fun o ho => ins_run o ho (x := X 16) (k := X 45) rfl rfl (by rw [hm, hk]; exact hrun)) ⟨X, m, rfl, hp⟩

theorem op38 (_h3 : w2.heap[p3]? = some (Obj.cells #[.int .u8 6, .int .i64 0, .int .u8 0] 68 (0, 0))) (_hB : B ≤ w0.heap.size) (_hsz : listed.size = 53) (h : PartsT w0 w2 B listed X m w) (_hr : 38 ∈ Region.ready .any ops27 listed) :
    wpOp Try.prog ops27 Q 38 (InvT w0 w2 B p3 p7 (listed.setIfInBounds 38 true)) (actX p3 p7 X) w := by
  exact wpOp_value (d := some 48) (op := .move (.tmp 1)) (v := (.func (.func 33) #[] #[])) (w' := w) (by kernel_rfl) (fun o ho => by unfold execOp; simp only [ho]; rfl) ⟨upd X 48 (.func (.func 33) #[] #[]), m, by kernel_rfl, h.put _hB (i := 38) (s := 48) rfl (by decide) (by decide) (.inl (by decide)) (Below.refl _ _) rfl⟩

theorem op39 (_h3 : w2.heap[p3]? = some (Obj.cells #[.int .u8 6, .int .i64 0, .int .u8 0] 68 (0, 0))) (_hB : B ≤ w0.heap.size) (_hsz : listed.size = 53) (h : PartsT w0 w2 B listed X m w) (_hr : 39 ∈ Region.ready .any ops27 listed) :
    wpOp Try.prog ops27 Q 39 (InvT w0 w2 B p3 p7 (listed.setIfInBounds 39 true)) (actX p3 p7 X) w := by
  have hx := h.vals 38 _ _ rfl (ready_dep 38 _hr (by kernel_rfl))
  have hx : X 48 = .func (.func 33) #[] #[] := hx
  refine wpOp_call (d := some 49) (op := .call { callee := .value (.tmp 48), args := #[.const (.int .u8 4)], argTypes := #[40] }) (f := 33) (args := #[.int .u8 4]) (by kernel_rfl) (fun o ho => call_run o ho (x := X 48) rfl hx (by rw [List.map_toArray]; rfl) (fun _ => by kernel_rfl)) ?_
  exact (fired_any 4 w).mono fun e w' ⟨he, hb⟩ => ⟨_, he, ⟨upd X 49 (.agg #[.int .u8 5, .int .i64 0, .int .u8 4]), m, by kernel_rfl, h.put _hB (i := 39) (s := 49) rfl (by decide) (by decide) (.inl (by decide)) hb rfl⟩⟩

theorem op40 (_h3 : w2.heap[p3]? = some (Obj.cells #[.int .u8 6, .int .i64 0, .int .u8 0] 68 (0, 0))) (_hB : B ≤ w0.heap.size) (_hsz : listed.size = 53) (h : PartsT w0 w2 B listed X m w) (_hr : 40 ∈ Region.ready .any ops27 listed) :
    wpOp Try.prog ops27 Q 40 (InvT w0 w2 B p3 p7 (listed.setIfInBounds 40 true)) (actX p3 p7 X) w := by
  have hx := h.vals 39 _ _ rfl (ready_dep 39 _hr (by kernel_rfl))
  have hx : X 49 = _ := hx
  exact wpOp_value (d := some 50) (op := .build 71 #[(0, .const (.int .u8 5)), (1, .tmp 49)]) (v := (keyV (5, 5, 0, 4))) (w' := w) (by kernel_rfl) (fun o ho => key_run o ho (x := X 49) rfl hx) ⟨upd X 50 (keyV (5, 5, 0, 4)), m, by kernel_rfl, h.put _hB (i := 40) (s := 50) rfl (by decide) (by decide) (.inl (by decide)) (Below.refl _ _) rfl⟩

theorem op41 (_h3 : w2.heap[p3]? = some (Obj.cells #[.int .u8 6, .int .i64 0, .int .u8 0] 68 (0, 0))) (_hB : B ≤ w0.heap.size) (_hsz : listed.size = 53) (h : PartsT w0 w2 B listed X m w) (_hr : 41 ∈ Region.ready .any ops27 listed) :
    wpOp Try.prog ops27 Q 41 (InvT w0 w2 B p3 p7 (listed.setIfInBounds 41 true)) (actX p3 p7 X) w := by
  exact wpOp_value (d := some 51) (op := .move (.tmp 4)) (v := (.func (.func 35) #[] #[])) (w' := w) (by kernel_rfl) (fun o ho => by unfold execOp; simp only [ho]; rfl) ⟨upd X 51 (.func (.func 35) #[] #[]), m, by kernel_rfl, h.put _hB (i := 41) (s := 51) rfl (by decide) (by decide) (.inl (by decide)) (Below.refl _ _) rfl⟩

theorem op42 (_h3 : w2.heap[p3]? = some (Obj.cells #[.int .u8 6, .int .i64 0, .int .u8 0] 68 (0, 0))) (_hB : B ≤ w0.heap.size) (_hsz : listed.size = 53) (h : PartsT w0 w2 B listed X m w) (_hr : 42 ∈ Region.ready .any ops27 listed) :
    wpOp Try.prog ops27 Q 42 (InvT w0 w2 B p3 p7 (listed.setIfInBounds 42 true)) (actX p3 p7 X) w := by
  have hx := h.vals 41 _ _ rfl (ready_dep 41 _hr (by kernel_rfl))
  have hx : X 51 = .func (.func 35) #[] #[] := hx
  refine wpOp_call (d := some 52) (op := .call { callee := .value (.tmp 51), args := #[.const (.slice none 0 0)], argTypes := #[43] }) (f := 35) (args := #[.slice none 0 0]) (by kernel_rfl) (fun o ho => call_run o ho (x := X 51) rfl hx (by rw [List.map_toArray]; rfl) (fun _ => by kernel_rfl)) ?_
  refine (mkover_any none 0 0 w).mono fun e w' ⟨he, hw⟩ => ?_
  subst hw
  have hb : Below w.heap.size w (w.alloc (.cells #[.slice none 0 0] 43)) := (Below.refl _ _).alloc (Nat.le_refl _) _
  exact ⟨_, he, ⟨upd X 52 (.func (.func 36) #[] #[.pointer (some ⟨w.heap.size, 0, none⟩)]), m, by kernel_rfl, h.put _hB (i := 42) (s := 52) rfl (by decide) (by decide) (.inl (by decide)) hb ⟨w.heap.size, 43, .inl ⟨rfl, rfl, heap_alloc_new _ _⟩⟩⟩⟩

theorem op43 (_h3 : w2.heap[p3]? = some (Obj.cells #[.int .u8 6, .int .i64 0, .int .u8 0] 68 (0, 0))) (_hB : B ≤ w0.heap.size) (_hsz : listed.size = 53) (h : PartsT w0 w2 B listed X m w) (_hr : 43 ∈ Region.ready .any ops27 listed) :
    wpOp Try.prog ops27 Q 43 (InvT w0 w2 B p3 p7 (listed.setIfInBounds 43 true)) (actX p3 p7 X) w := by
  have hn : listed.getD 43 false = false := (getD_true_or listed 43 (by omega) true false).symm.trans (mem_ready.1 _hr).1
  have h0 : listed.getD 0 false = true := ready_dep 0 _hr (by kernel_rfl)
  have hm : X 16 = .map (some m) := h.vals 0 _ _ rfl h0
  have hk := h.vals 40 _ _ rfl (ready_dep 40 _hr (by kernel_rfl))
  have hk : X 50 = keyV (5, 5, 0, 4) := hk
  have hv := h.vals 42 _ _ rfl (ready_dep 42 _hr (by kernel_rfl))
  obtain ⟨w', hrun, hp⟩ := h.ins (i := 43) (k := (5, 5, 0, 4)) (e := (.over [])) (v := X 52) _hsz (by decide) hn h0 rfl hv
  exact wpOp_skip (d := none) (op := .insert 65 (.tmp 16) (.tmp 50) (.tmp 52)) (w' := w') (by kernel_rfl) (fun o ho => ins_run o ho (x := X 16) (k := X 50) rfl rfl (by rw [hm, hk]; exact hrun)) ⟨X, m, rfl, hp⟩

theorem op44 (_h3 : w2.heap[p3]? = some (Obj.cells #[.int .u8 6, .int .i64 0, .int .u8 0] 68 (0, 0))) (_hB : B ≤ w0.heap.size) (_hsz : listed.size = 53) (h : PartsT w0 w2 B listed X m w) (_hr : 44 ∈ Region.ready .any ops27 listed) :
    wpOp Try.prog ops27 Q 44 (InvT w0 w2 B p3 p7 (listed.setIfInBounds 44 true)) (actX p3 p7 X) w := by
  exact wpOp_value (d := some 53) (op := .load 68 (.tmp 3)) (v := (.agg #[.int .u8 6, .int .i64 0, .int .u8 0])) (w' := w) (by kernel_rfl) (fun o ho => load_run o ho rfl (h.keep.2 _ _ _ _h3)) ⟨upd X 53 (.agg #[.int .u8 6, .int .i64 0, .int .u8 0]), m, by kernel_rfl, h.put _hB (i := 44) (s := 53) rfl (by decide) (by decide) (.inl (by decide)) (Below.refl _ _) rfl⟩

theorem op45 (_h3 : w2.heap[p3]? = some (Obj.cells #[.int .u8 6, .int .i64 0, .int .u8 0] 68 (0, 0))) (_hB : B ≤ w0.heap.size) (_hsz : listed.size = 53) (h : PartsT w0 w2 B listed X m w) (_hr : 45 ∈ Region.ready .any ops27 listed) :
    wpOp Try.prog ops27 Q 45 (InvT w0 w2 B p3 p7 (listed.setIfInBounds 45 true)) (actX p3 p7 X) w := by
  have hx := h.vals 44 _ _ rfl (ready_dep 44 _hr (by kernel_rfl))
  have hx : X 53 = _ := hx
  exact wpOp_value (d := some 54) (op := .build 71 #[(0, .const (.int .u8 5)), (1, .tmp 53)]) (v := (keyV (5, 6, 0, 0))) (w' := w) (by kernel_rfl) (fun o ho => key_run o ho (x := X 53) rfl hx) ⟨upd X 54 (keyV (5, 6, 0, 0)), m, by kernel_rfl, h.put _hB (i := 45) (s := 54) rfl (by decide) (by decide) (.inl (by decide)) (Below.refl _ _) rfl⟩

theorem op46 (_h3 : w2.heap[p3]? = some (Obj.cells #[.int .u8 6, .int .i64 0, .int .u8 0] 68 (0, 0))) (_hB : B ≤ w0.heap.size) (_hsz : listed.size = 53) (h : PartsT w0 w2 B listed X m w) (_hr : 46 ∈ Region.ready .any ops27 listed) :
    wpOp Try.prog ops27 Q 46 (InvT w0 w2 B p3 p7 (listed.setIfInBounds 46 true)) (actX p3 p7 X) w := by
  exact wpOp_value (d := some 55) (op := .move (.tmp 4)) (v := (.func (.func 35) #[] #[])) (w' := w) (by kernel_rfl) (fun o ho => by unfold execOp; simp only [ho]; rfl) ⟨upd X 55 (.func (.func 35) #[] #[]), m, by kernel_rfl, h.put _hB (i := 46) (s := 55) rfl (by decide) (by decide) (.inl (by decide)) (Below.refl _ _) rfl⟩

theorem op47 (_h3 : w2.heap[p3]? = some (Obj.cells #[.int .u8 6, .int .i64 0, .int .u8 0] 68 (0, 0))) (_hB : B ≤ w0.heap.size) (_hsz : listed.size = 53) (h : PartsT w0 w2 B listed X m w) (_hr : 47 ∈ Region.ready .any ops27 listed) :
    wpOp Try.prog ops27 Q 47 (InvT w0 w2 B p3 p7 (listed.setIfInBounds 47 true)) (actX p3 p7 X) w := by
  exact wpOp_value (d := some 56) (op := .build 48 #[(0, .const (.int .u8 6))]) (v := (oval (6, 0, 0, 0))) (w' := w) (by kernel_rfl) (fun o ho => b48_run o ho) ⟨upd X 56 (oval (6, 0, 0, 0)), m, by kernel_rfl, h.put _hB (i := 47) (s := 56) rfl (by decide) (by decide) (.inl (by decide)) (Below.refl _ _) rfl⟩

theorem op48 (_h3 : w2.heap[p3]? = some (Obj.cells #[.int .u8 6, .int .i64 0, .int .u8 0] 68 (0, 0))) (_hB : B ≤ w0.heap.size) (_hsz : listed.size = 53) (h : PartsT w0 w2 B listed X m w) (_hr : 48 ∈ Region.ready .any ops27 listed) :
    wpOp Try.prog ops27 Q 48 (InvT w0 w2 B p3 p7 (listed.setIfInBounds 48 true)) (actX p3 p7 X) w := by
  have hx := h.vals 47 _ _ rfl (ready_dep 47 _hr (by kernel_rfl))
  have hx : X 56 = oval (6, 0, 0, 0) := hx
  exact wpOp_value (d := some 57) (op := .buildSlice 43 1 #[(0, .tmp 56)]) (v := (.slice (some ⟨w.heap.size, 0, none⟩) 1 1)) (w' := w.alloc (.cells (ocells (6, 0, 0, 0)).toArray 48)) (by kernel_rfl) (fun o ho => slice_run o ho (x := X 56) rfl hx) ⟨upd X 57 (.slice (some ⟨w.heap.size, 0, none⟩) 1 1), m, by kernel_rfl, h.put _hB (i := 48) (s := 57) rfl (by decide) (by decide) (.inl (by decide)) ((Below.refl _ _).alloc (Nat.le_refl _) _) ⟨w.heap.size, rfl, Nat.le_trans _hB h.below.size, heap_alloc_new _ _⟩⟩

theorem op49 (_h3 : w2.heap[p3]? = some (Obj.cells #[.int .u8 6, .int .i64 0, .int .u8 0] 68 (0, 0))) (_hB : B ≤ w0.heap.size) (_hsz : listed.size = 53) (h : PartsT w0 w2 B listed X m w) (_hr : 49 ∈ Region.ready .any ops27 listed) :
    wpOp Try.prog ops27 Q 49 (InvT w0 w2 B p3 p7 (listed.setIfInBounds 49 true)) (actX p3 p7 X) w := by
  have hx := h.vals 46 _ _ rfl (ready_dep 46 _hr (by kernel_rfl))
  have hx : X 55 = .func (.func 35) #[] #[] := hx
  have hy := h.vals 48 _ _ rfl (ready_dep 48 _hr (by kernel_rfl))
  obtain ⟨g, hy, hg, hgc⟩ := hy
  have hlt : g < w.heap.size := (Array.getElem?_eq_some_iff.1 hgc).1
  refine wpOp_call (d := some 58) (op := .call { callee := .value (.tmp 55), args := #[.tmp 57], argTypes := #[43] }) (f := 35) (args := #[.slice (some ⟨g, 0, none⟩) 1 1]) (by kernel_rfl) (fun o ho => call_run o ho (x := X 55) rfl hx (by rw [List.map_toArray]; show #[X 57] = _; rw [hy]) (fun _ => by kernel_rfl)) ?_
  refine (mkover_any _ 1 1 w).mono fun e w' ⟨he, hw⟩ => ?_
  subst hw
  have hb : Below w.heap.size w (w.alloc (.cells #[.slice (some ⟨g, 0, none⟩) 1 1] 43)) := (Below.refl _ _).alloc (Nat.le_refl _) _
  exact ⟨_, he, ⟨upd X 58 (.func (.func 36) #[] #[.pointer (some ⟨w.heap.size, 0, none⟩)]), m, by kernel_rfl, h.put _hB (i := 49) (s := 58) rfl (by decide) (by decide) (.inl (by decide)) hb ⟨w.heap.size, 43, .inr ⟨g, (6, 0, 0, 0), rfl, rfl, heap_alloc_new _ _, by omega, hg, block_below hgc hb hlt⟩⟩⟩⟩

theorem op50 (_h3 : w2.heap[p3]? = some (Obj.cells #[.int .u8 6, .int .i64 0, .int .u8 0] 68 (0, 0))) (_hB : B ≤ w0.heap.size) (_hsz : listed.size = 53) (h : PartsT w0 w2 B listed X m w) (_hr : 50 ∈ Region.ready .any ops27 listed) :
    wpOp Try.prog ops27 Q 50 (InvT w0 w2 B p3 p7 (listed.setIfInBounds 50 true)) (actX p3 p7 X) w := by
  have hn : listed.getD 50 false = false := (getD_true_or listed 50 (by omega) true false).symm.trans (mem_ready.1 _hr).1
  have h0 : listed.getD 0 false = true := ready_dep 0 _hr (by kernel_rfl)
  have hm : X 16 = .map (some m) := h.vals 0 _ _ rfl h0
  have hk := h.vals 45 _ _ rfl (ready_dep 45 _hr (by kernel_rfl))
  have hk : X 54 = keyV (5, 6, 0, 0) := hk
  have hv := h.vals 49 _ _ rfl (ready_dep 49 _hr (by kernel_rfl))
  obtain ⟨w', hrun, hp⟩ := h.ins (i := 50) (k := (5, 6, 0, 0)) (e := (.over [(6, 0, 0, 0)])) (v := X 58) _hsz (by decide) hn h0 rfl hv
  exact wpOp_skip (d := none) (op := .insert 65 (.tmp 16) (.tmp 54) (.tmp 58)) (w' := w') (by kernel_rfl) (fun o ho => ins_run o ho (x := X 16) (k := X 54) rfl rfl (by rw [hm, hk]; exact hrun)) ⟨X, m, rfl, hp⟩

theorem op51 (_h3 : w2.heap[p3]? = some (Obj.cells #[.int .u8 6, .int .i64 0, .int .u8 0] 68 (0, 0))) (_hB : B ≤ w0.heap.size) (_hsz : listed.size = 53) (h : PartsT w0 w2 B listed X m w) (_hr : 51 ∈ Region.ready .any ops27 listed) :
    wpOp Try.prog ops27 Q 51 (InvT w0 w2 B p3 p7 (listed.setIfInBounds 51 true)) (actX p3 p7 X) w := by
  have hx := h.vals 0 _ _ rfl (ready_dep 0 _hr (by kernel_rfl))
  have hx : X 16 = .map (some m) := hx
  exact wpOp_value (d := some 59) (op := .move (.tmp 16)) (v := .map (some m)) (w' := w) (by kernel_rfl) (fun o ho => by unfold execOp; simp only [ho]; show Sem.run _ (pure (Next.value (X 16))) w = _; rw [hx]; rfl) ⟨upd X 59 (.map (some m)), m, by kernel_rfl, h.put _hB (i := 51) (s := 59) rfl (by decide) (by decide) (.inr (ready_dep 0 _hr (by kernel_rfl))) (Below.refl _ _) rfl⟩

theorem op52 (_h3 : w2.heap[p3]? = some (Obj.cells #[.int .u8 6, .int .i64 0, .int .u8 0] 68 (0, 0))) (_hB : B ≤ w0.heap.size) (_hsz : listed.size = 53) (h : PartsT w0 w2 B listed X m w) (_hr : 52 ∈ Region.ready .any ops27 listed) :
    wpOp Try.prog ops27 Q 52 (InvT w0 w2 B p3 p7 (listed.setIfInBounds 52 true)) (actX p3 p7 X) w := by
  have hx := h.vals 51 _ _ rfl (ready_dep 51 _hr (by kernel_rfl))
  have hx : X 59 = .map (some m) := hx
  exact wpOp_value (d := some 10) (op := .assign (.tmp 59)) (v := .map (some m)) (w' := w) (by kernel_rfl) (fun o ho => by unfold execOp; simp only [ho]; show Sem.run _ (pure (Next.value (X 59))) w = _; rw [hx]; rfl) ⟨upd X 10 (.map (some m)), m, by kernel_rfl, h.put _hB (i := 52) (s := 10) rfl (by decide) (by decide) (.inr (h.dep 51 (by decide) (ready_dep 51 _hr (by kernel_rfl)))) (Below.refl _ _) rfl⟩

end

end Go.Proofs.Ytlcpadonjbaaeaa
