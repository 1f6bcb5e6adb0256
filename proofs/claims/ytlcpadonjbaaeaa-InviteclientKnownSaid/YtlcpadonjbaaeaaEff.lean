/- What the values of the table are, and what they do; the table as a map. -/
import Derived.Test.YtlcpadonjbaaeaaW6c
import Derived.MapKept
import Derived.WideKeyRuns
import Derived.DeepKeys
namespace Go.Proofs.Ytlcpadonjbaaeaa
open Go.RowKit

/-- Every block of cells is as it was. -/
def KeepC (w w' : World) : Prop := w.heap.size ≤ w'.heap.size ∧ ∀ (g : Nat) (cs : Array Value) (t : TypeId), w.heap[g]? = some (Obj.cells cs t (0, 0)) → w'.heap[g]? = some (Obj.cells cs t (0, 0))
theorem KeepC.refl (w : World) : KeepC w w := ⟨Nat.le_refl _, fun _ _ _ h => h⟩
theorem KeepC.trans {a b c : World} (h : KeepC a b) (g : KeepC b c) : KeepC a c := ⟨Nat.le_trans h.1 g.1, fun x cs t hx => g.2 x cs t (h.2 x cs t hx)⟩
theorem KeepC.of_below {w w' : World} (h : Below w.heap.size w w') : KeepC w w' := ⟨h.size, fun _ _ _ hg => block_below hg h (Array.getElem?_eq_some_iff.1 hg).1⟩

/-- The function values that say what the user hears. -/
def FnV (w : World) (v : Value) (f : Nat) : Prop :=
  (f = 1 ∧ v = .func (.func 41) #[] #[]) ∨
  (f = 2 ∧ ∃ u t, v = .func (.func 42) #[] #[.pointer (some ⟨u, 0, none⟩)] ∧ w.heap[u]? = some (.cells #[.func (.func 41) #[] #[]] t (0, 0))) ∨
  (f = 3 ∧ ∃ u t, v = .func (.func 43) #[] #[.pointer (some ⟨u, 0, none⟩)] ∧ w.heap[u]? = some (.cells #[.func (.func 41) #[] #[]] t (0, 0)))
theorem FnV.keep {w w' : World} {v : Value} {f : Nat} (h : FnV w v f) (hk : KeepC w w') : FnV w' v f := by
  rcases h with h | ⟨h1, u, t, h2, h3⟩ | ⟨h1, u, t, h2, h3⟩
  · exact .inl h
  · exact .inr (.inl ⟨h1, u, t, h2, hk.2 _ _ _ h3⟩)
  · exact .inr (.inr ⟨h1, u, t, h2, hk.2 _ _ _ h3⟩)
/-- The value v does what the row says; what it holds lies from block B on. -/
def EffV (B : Nat) (w : World) (v : Value) : Eff → Prop
  | .again => v = .func (.func 44) #[] #[]
  | .over l => ∃ h t, (l = [] ∧ v = .func (.func 36) #[] #[.pointer (some ⟨h, 0, none⟩)] ∧ w.heap[h]? = some (.cells #[.slice none 0 0] t (0, 0))) ∨
      (∃ g o, l = [o] ∧ v = .func (.func 36) #[] #[.pointer (some ⟨h, 0, none⟩)] ∧ w.heap[h]? = some (.cells #[.slice (some ⟨g, 0, none⟩) 1 1] t (0, 0)) ∧ g ≠ h ∧ B ≤ g ∧ w.heap[g]? = some (.cells (ocells o).toArray 48 (0, 0)))
  | .stay k => ∃ h t, v = .func (.func 40) #[] #[.pointer (some ⟨h, 0, none⟩)] ∧ w.heap[h]? = some (.cells #[.int .u8 k] t (0, 0))
  | .become s fin f => ∃ h1 h2 h3 t1 t2 t3 fv, v = .func (.func 38) #[] #[.pointer (some ⟨h1, 0, none⟩), .pointer (some ⟨h2, 0, none⟩), .pointer (some ⟨h3, 0, none⟩)] ∧
      w.heap[h1]? = some (.cells #[.int .u8 s] t1 (0, 0)) ∧ w.heap[h2]? = some (.cells #[.bool fin] t2 (0, 0)) ∧ w.heap[h3]? = some (.cells #[fv] t3 (0, 0)) ∧ FnV w fv f
theorem EffV.keep {B : Nat} {w w' : World} {v : Value} {e : Eff} (h : EffV B w v e) (hk : KeepC w w') : EffV B w' v e := by
  cases e with
  | again => exact h
  | over l =>
    obtain ⟨g, t, h | ⟨x, o, h1, h2, h3, h4, h5, h6⟩⟩ := h
    · exact ⟨g, t, .inl ⟨h.1, h.2.1, hk.2 _ _ _ h.2.2⟩⟩
    · exact ⟨g, t, .inr ⟨x, o, h1, h2, hk.2 _ _ _ h3, h4, h5, hk.2 _ _ _ h6⟩⟩
  | stay k =>
    obtain ⟨g, t, h1, h2⟩ := h
    exact ⟨g, t, h1, hk.2 _ _ _ h2⟩
  | become s fin f =>
    obtain ⟨a1, a2, a3, t1, t2, t3, fv, h0, h1, h2, h3, h4⟩ := h
    exact ⟨a1, a2, a3, t1, t2, t3, fv, h0, hk.2 _ _ _ h1, hk.2 _ _ _ h2, hk.2 _ _ _ h3, h4.keep hk⟩

def keyV (k : Key) : Value := .agg #[.int .u8 k.1, .int .u8 k.2.1, .int .i64 k.2.2.1, .int .u8 k.2.2.2]
theorem key_inj {a b : Key} (h : keyV a = keyV b) : a = b := by
  obtain ⟨a1, a2, a3, a4⟩ := a
  obtain ⟨b1, b2, b3, b4⟩ := b
  simp [keyV] at h
  obtain ⟨rfl, rfl, rfl, rfl⟩ := h
  rfl
theorem run_eql_key (a b : Key) (W : World) : (binOp .eql 71 (keyV a) (keyV b)).run Try.prog W = .ok (.bool (decide (a = b))) W := by
  obtain ⟨a1, a2, a3, a4⟩ := a
  obtain ⟨b1, b2, b3, b4⟩ := b
  simp [go_sem, keyV]
  by_cases h1 : a1 = b1 <;> by_cases h2 : a2 = b2 <;> by_cases h3 : a3 = b3 <;> by_cases h4 : a4 = b4 <;> simp [h1, h2, h3, h4]
theorem eq_key (a b : Key) (W : World) : (Op.equal 71 (keyV a) (keyV b)).run Try.prog W = .ok (decide (a = b)) W := by
  have h := run_eql_key a b W
  have e : (binOp .eql 71 (keyV a) (keyV b)).run Try.prog W = ((Op.equal 71 (keyV a) (keyV b)).run Try.prog W).andThen fun r w => .ok (.bool r) w := by
    unfold keyV
    simp only [binOp, Sem.run_bind, Sem.run_pure]
  rw [e] at h
  generalize (Op.equal 71 (keyV a) (keyV b)).run Try.prog W = r at h
  cases r with
  | ok x w =>
    simp only [Result.andThen_ok, Result.ok.injEq, Value.bool.injEq] at h
    rw [h.1, h.2]
  | halt x w => simp [Result.andThen] at h
theorem check_key (em : Bool) (k : Key) (W : World) : (Instr.checkKey em 10000 71 (keyV k)).run Try.prog W = .ok () W := by
  cases em <;> kernel_rfl

theorem find_keys (k : Key) (W : World) : ∀ (es : List MapEntry) (i : Nat), (∀ e ∈ es, ∃ k, e.key = keyV k) →
    ∃ r, (Instr.findAsking 71 (keyV k) es i).run Try.prog W = .ok r W ∧ (match r with | some (_, v) => ∃ e ∈ es, e.key = keyV k ∧ v = e.val | none => ∀ e ∈ es, e.key ≠ keyV k)
  | [], i, _ => ⟨none, by simp [Instr.findAsking], by simp⟩
  | e :: es, i, h => by
    obtain ⟨k', hk'⟩ := h e (by simp)
    obtain ⟨r, hr, hm⟩ := find_keys k W es (i + 1) fun x hx => h x (by simp [hx])
    have he : (Op.equal 71 (keyV k) e.key).run Try.prog W = .ok (decide (k = k')) W := by rw [hk']; exact eq_key k k' W
    by_cases hkk : k = k'
    · refine ⟨some (i, e.val), ?_, e, by simp, by rw [hk', hkk], rfl⟩
      rw [decide_eq_true hkk] at he
      simp only [Instr.findAsking, Sem.run_bind, he, Result.andThen_ok, if_true, Sem.run_pure]
    · refine ⟨r, ?_, ?_⟩
      · simp only [Instr.findAsking, Sem.run_bind, he, Result.andThen_ok, hkk, decide_false, Bool.false_eq_true, if_false, hr]
      · cases r with
        | none =>
          intro x hx
          rcases List.mem_cons.1 hx with rfl | hx
          · rw [hk']; exact fun hx => hkk (key_inj hx).symm
          · exact hm x hx
        | some p =>
          obtain ⟨x, hx, h1, h2⟩ := hm
          exact ⟨x, by simp [hx], h1, h2⟩
theorem wide71 : (match Try.prog.underlying 71 with | some (.array _ _) | some (.struct _) => true | _ => false) = true := by kernel_rfl

/-- The map m holds just the rows D. -/
def MapI (B : Nat) (w : World) (m : Nat) (D : List Key) : Prop :=
  ∃ es n, w.heap[m]? = some (Obj.map es n) ∧ (∀ e ∈ es.toList, ∃ k x, k ∈ D ∧ e.key = keyV k ∧ tableS k = some x ∧ EffV B w e.val x) ∧ (∀ k ∈ D, ∃ e ∈ es.toList, e.key = keyV k)
theorem MapI.congr {B : Nat} {w : World} {m : Nat} {D D' : List Key} (h : MapI B w m D) (hd : ∀ k, k ∈ D ↔ k ∈ D') : MapI B w m D' := by
  obtain ⟨es, n, h1, h2, h3⟩ := h
  refine ⟨es, n, h1, fun e he => ?_, fun k hk => h3 k ((hd k).2 hk)⟩
  obtain ⟨k, x, g1, g2⟩ := h2 e he
  exact ⟨k, x, (hd k).1 g1, g2⟩
theorem MapI.keep {B : Nat} {w w' : World} {m : Nat} {D : List Key} (h : MapI B w m D) (hk : KeepC w w') (hm : w'.heap[m]? = w.heap[m]?) : MapI B w' m D := by
  obtain ⟨es, n, h1, h2, h3⟩ := h
  refine ⟨es, n, hm.trans h1, fun e he => ?_, h3⟩
  obtain ⟨k, x, g1, g2, g3, g4⟩ := h2 e he
  exact ⟨k, x, g1, g2, g3, g4.keep hk⟩
theorem get_map {w : World} {r : Nat} {es : Array MapEntry} {n : Nat} (h : w.heap[r]? = some (Obj.map es n)) : (getObj r).run Try.prog w = .ok (.map es n) w := by simp [getObj, Sem.run, h]
theorem set_map {w : World} {r : Nat} {es : Array MapEntry} {n : Nat} (o : Obj) (h : w.heap[r]? = some (Obj.map es n)) : (setObj r o).run Try.prog w = .ok () { w with heap := w.heap.setIfInBounds r o } := by
  have hr := (Array.getElem?_eq_some_iff.1 h).1
  simp [setObj, Sem.run, h]
theorem map65 : Try.prog.underlying 65 = some (.map 71 63) := by kernel_rfl

/-- A row more. -/
theorem map_insert {B : Nat} {w : World} {m : Nat} {D : List Key} {k : Key} {x : Eff} {v : Value} (h : MapI B w m D) (hn : k ∉ D) (ht : tableS k = some x) (hv : EffV B w v x) :
    ∃ w', (Instr.mapUpdate 65 (.map (some m)) (keyV k) v).run Try.prog w = .ok () w' ∧ MapI B w' m (k :: D) ∧ KeepC w w' ∧ (∀ (b : Nat) (w0 : World), Below b w0 w → b ≤ m → Below b w0 w') := by
  obtain ⟨es, n, h1, h2, h3⟩ := h
  have hm : m < w.heap.size := (Array.getElem?_eq_some_iff.1 h1).1
  obtain ⟨r, hr, hrm⟩ := find_keys k w es.toList 0 fun e he => by
    obtain ⟨k', _, _, g, _⟩ := h2 e he
    exact ⟨k', g⟩
  have hr0 : r = none := by
    cases r with
    | none => rfl
    | some p =>
      obtain ⟨e, he, hek, _⟩ := hrm
      obtain ⟨k', _, g1, g2, _⟩ := h2 e he
      have := key_inj (hek.symm.trans g2)
      subst this
      exact absurd g1 hn
  subst hr0
  have hf : (Instr.findKey 71 (keyV k) es.toList).run Try.prog w = .ok none w := (run_findKey_eq w wide71 _ _).trans hr
  have hkeep : KeepC w { w with heap := w.heap.setIfInBounds m (.map (es.push { key := keyV k, val := v, born := n }) (n + 1)) } := by
    refine ⟨by simp, fun g cs t hg => ?_⟩
    have hne : m ≠ g := by
      rintro rfl
      rw [h1] at hg
      cases hg
    show (w.heap.setIfInBounds m _)[g]? = _
    rw [Array.getElem?_setIfInBounds_ne hne]
    exact hg
  refine ⟨_, ?_, ⟨es.push { key := keyV k, val := v, born := n }, n + 1, ?_, ?_, ?_⟩, hkeep, ?_⟩
  · unfold Instr.mapUpdate
    simp only [Sem.run_bind, run_underlying map65, Result.andThen_ok, get_map h1, check_key, hf, set_map _ h1]
  · show (w.heap.setIfInBounds m _)[m]? = _
    rw [Array.getElem?_setIfInBounds_self_of_lt hm]
  · intro e he
    rw [Array.toList_push] at he
    rcases List.mem_append.1 he with he | he
    · obtain ⟨k', x', g1, g2, g3, g4⟩ := h2 e he
      exact ⟨k', x', by simp [g1], g2, g3, g4.keep hkeep⟩
    · rw [List.mem_singleton.1 he]
      exact ⟨k, x, by simp, rfl, ht, hv.keep hkeep⟩
  · intro k' hk'
    rw [Array.toList_push]
    rcases List.mem_cons.1 hk' with rfl | hk'
    · exact ⟨{ key := keyV k', val := v, born := n }, List.mem_append_right _ (by simp), rfl⟩
    · obtain ⟨e, he, hek⟩ := h3 k' hk'
      exact ⟨e, List.mem_append_left _ he, hek⟩
  · intro b w0 hb hbm
    refine ⟨hb.os, hb.tape, hb.output, ?_, fun g hg => ?_⟩
    · show _ ≤ (w.heap.setIfInBounds m _).size
      rw [Array.size_setIfInBounds]; exact hb.size
    · show (w.heap.setIfInBounds m _)[g]? = _
      rw [Array.getElem?_setIfInBounds_ne (by omega)]
      exact hb.block g hg

/-- The look-up. -/
theorem map_lookup {B : Nat} {w : World} {m : Nat} {D : List Key} (h : MapI B w m D) (k : Key) :
    (k ∈ D ∧ ∃ v x, (Instr.lookup 65 (.map (some m)) (keyV k) true).run Try.prog w = .ok (.tuple #[v, .bool true]) w ∧ tableS k = some x ∧ EffV B w v x) ∨
    (k ∉ D ∧ (Instr.lookup 65 (.map (some m)) (keyV k) true).run Try.prog w = .ok (.tuple #[.nilFunc, .bool false]) w) := by
  obtain ⟨es, n, h1, h2, h3⟩ := h
  obtain ⟨r, hr, hrm⟩ := find_keys k w es.toList 0 fun e he => by
    obtain ⟨k', _, _, g, _⟩ := h2 e he
    exact ⟨k', g⟩
  have hf : (Instr.findKey 71 (keyV k) es.toList).run Try.prog w = .ok r w := (run_findKey_eq w wide71 _ _).trans hr
  have hz : (zeroValue 63).run Try.prog w = .ok .nilFunc w := by kernel_rfl
  cases r with
  | none =>
    right
    refine ⟨fun hk => ?_, ?_⟩
    · obtain ⟨e, he, hek⟩ := h3 k hk
      exact hrm e he hek
    · unfold Instr.lookup
      simp only [Sem.run_bind, run_underlying map65, Result.andThen_ok, get_map h1, Sem.run_pure, check_key, hf, hz, if_true]
  | some p =>
    left
    obtain ⟨e, he, hek, hev⟩ := hrm
    obtain ⟨k', x, g1, g2, g3, g4⟩ := h2 e he
    have := key_inj (hek.symm.trans g2)
    subst this
    refine ⟨g1, e.val, x, ?_, g3, g4⟩
    unfold Instr.lookup
    simp only [Sem.run_bind, run_underlying map65, Result.andThen_ok, get_map h1, Sem.run_pure, check_key, hf, if_true, hev]

end Go.Proofs.Ytlcpadonjbaaeaa
