/- The invariant of table's drawn region, and how each kind of operation keeps it. -/
import Derived.Test.YtlcpadonjbaaeaaTab2
namespace Go.Proofs.Ytlcpadonjbaaeaa
open Go.RowKit

def depL : List Nat := [4, 12, 19, 25, 31, 37, 43, 50, 51, 52]
def upd (X : Nat → Value) (s : Nat) (v : Value) : Nat → Value := fun j => if j = s then v else X j
structure PartsT (w0 w2 : World) (B : Nat) (listed : Array Bool) (X : Nat → Value) (m : Nat) (w : World) : Prop where
  below : Below B w0 w
  keep : KeepC w2 w
  vals : ∀ i s sp, specT[i]? = some (s, sp) → listed.getD i false = true → holdsV B w m sp (X s)
  dep : ∀ j ∈ depL, listed.getD j false = true → listed.getD 0 false = true
  map : listed.getD 0 false = true → MapI B w m (doneK listed) ∧ B ≤ m ∧ m < w.heap.size
def InvT (w0 w2 : World) (B p3 p7 : Nat) (listed : Array Bool) (a : Act) (w : World) : Prop :=
  ∃ X m, a = actX p3 p7 X ∧ PartsT w0 w2 B listed X m w

theorem getD_same {listed : Array Bool} {i : Nat} (hi : i < listed.size) : (listed.setIfInBounds i true).getD i false = true := by
  simp [Array.getD, hi]
theorem getD_other {listed : Array Bool} {i j : Nat} (h : i ≠ j) : (listed.setIfInBounds i true).getD j false = listed.getD j false := getD_set_ne false h
theorem mem_done {listed : Array Bool} {k : Key} : k ∈ doneK listed ↔ ∃ i, (i, k) ∈ insT ∧ listed.getD i false = true := by
  unfold doneK
  rw [List.mem_map]
  constructor
  · rintro ⟨p, hp, rfl⟩
    have := List.mem_filter.1 hp
    exact ⟨p.1, this.1, this.2⟩
  · rintro ⟨i, h1, h2⟩
    exact ⟨(i, k), List.mem_filter.2 ⟨h1, h2⟩, rfl⟩
def slotL : List Nat := specT.map (·.1)
theorem slots_at {i s : Nat} {sp : VSpec} (h : specT[i]? = some (s, sp)) : slotL[i]? = some s := by unfold slotL; rw [List.getElem?_map, h]; rfl
theorem slot_len : slotL.length = 53 := rfl
theorem slots_dec : ∀ i : Fin 53, ∀ j : Fin 53, slotL[i.val]? = slotL[j.val]? → slotL[i.val]? ≠ some 0 → i = j := by decide +kernel
theorem slots_ne {i j s : Nat} {sp sp' : VSpec} (h : specT[i]? = some (s, sp)) (g : specT[j]? = some (s, sp')) (h0 : s ≠ 0) : i = j := by
  have a := slots_at h
  have b := slots_at g
  have hi : i < 53 := by have := (List.getElem?_eq_some_iff.1 a).1; rwa [slot_len] at this
  have hj : j < 53 := by have := (List.getElem?_eq_some_iff.1 b).1; rwa [slot_len] at this
  have := slots_dec ⟨i, hi⟩ ⟨j, hj⟩ (a.trans b.symm) (by rw [a]; simpa using h0)
  exact congrArg Fin.val this
theorem ins_dec : ∀ p ∈ insT, ∀ q ∈ insT, p.2 = q.2 → p = q := by decide +kernel
theorem ins_idx : ∀ p ∈ insT, ∀ q ∈ insT, p.1 = q.1 → p = q := by decide +kernel
theorem ins_dep : ∀ p ∈ insT, p.1 ∈ depL := by decide +kernel
theorem ins_none : ∀ p ∈ insT, (specT[p.1]?).map (·.1) = some 0 := by decide +kernel

section
variable {w0 w2 w w' : World} {B m i s : Nat} {listed : Array Bool} {X : Nat → Value} {sp : VSpec} {v : Value}

/-- An operation that leaves a value in a slot, and at most makes memory. -/
theorem PartsT.put (h : PartsT w0 w2 B listed X m w) (hB : B ≤ w0.heap.size) (hsp : specT[i]? = some (s, sp)) (hs0 : s ≠ 0) (hi0 : i ≠ 0) (hd : i ∉ depL ∨ listed.getD 0 false = true) (hb : Below w.heap.size w w') (hv : holdsV B w' m sp v) :
    PartsT w0 w2 B (listed.setIfInBounds i true) (upd X s v) m w' := by
  have hk := KeepC.of_below hb
  have hBw : B ≤ w.heap.size := Nat.le_trans hB h.below.size
  have hni : ∀ p ∈ insT, i ≠ p.1 := by
    rintro p hp rfl
    have := ins_none p hp
    rw [hsp] at this
    exact hs0 (Option.some.inj this)
  refine ⟨h.below.trans (hb.mono hBw), h.keep.trans hk, fun j s' sp' hj hl => ?_, fun j hj hl => ?_, fun hl => ?_⟩
  · by_cases hij : i = j
    · subst hij
      rw [hsp] at hj
      cases hj
      simp only [upd, if_true]
      exact hv
    · rw [getD_other hij] at hl
      have hne : s' ≠ s := fun e => hij (slots_ne hsp (e ▸ hj) hs0)
      simp only [upd, if_neg hne]
      exact (h.vals j s' sp' hj hl).keep hk
  · by_cases hij : i = j
    · subst hij
      rw [getD_other hi0]
      exact hd.resolve_left fun x => x hj
    · rw [getD_other hij] at hl
      rw [getD_other hi0]
      exact h.dep j hj hl
  · rw [getD_other hi0] at hl
    obtain ⟨h1, h2, h3⟩ := h.map hl
    refine ⟨(h1.keep hk (hb.block m h3)).congr fun k => ?_, h2, Nat.lt_of_lt_of_le h3 hb.size⟩
    rw [mem_done, mem_done]
    constructor
    · rintro ⟨j, g1, g2⟩
      exact ⟨j, g1, by rw [getD_other (hni _ g1)]; exact g2⟩
    · rintro ⟨j, g1, g2⟩
      rw [getD_other (hni _ g1)] at g2
      exact ⟨j, g1, g2⟩

/-- The map is made. -/
theorem PartsT.made (h : PartsT w0 w2 B listed X m w) (hB : B ≤ w0.heap.size) (hsz : listed.size = 53) (hn : listed.getD 0 false = false) :
    PartsT w0 w2 B (listed.setIfInBounds 0 true) (upd X 16 (.map (some w.heap.size))) w.heap.size (w.alloc (.map #[] 0)) := by
  have hb : Below w.heap.size w (w.alloc (.map #[] 0)) := (Below.refl _ _).alloc (Nat.le_refl _) _
  have hk := KeepC.of_below hb
  have hBw : B ≤ w.heap.size := Nat.le_trans hB h.below.size
  have hno : ∀ j ∈ depL, listed.getD j false = false := fun j hj => by
    cases hl : listed.getD j false with
    | false => rfl
    | true => rw [h.dep j hj hl] at hn; cases hn
  refine ⟨h.below.trans (hb.mono hBw), h.keep.trans hk, fun j s' sp' hj hl => ?_, fun j hj hl => getD_same (by omega), fun hl => ⟨?_, hBw, by simp⟩⟩
  · by_cases hij : 0 = j
    · subst hij
      cases hj
      rfl
    · rw [getD_other hij] at hl
      have hne : s' ≠ 16 := fun e => hij (slots_ne (i := 0) (sp := .map) rfl (e ▸ hj) (by omega))
      simp only [upd, if_neg hne]
      have hold := h.vals j s' sp' hj hl
      cases sp' with
      | map =>
        have hjd : j ∈ depL := by
          have hj53 : j < 53 := by have := (List.getElem?_eq_some_iff.1 (slots_at hj)).1; rwa [slot_len] at this
          have hdec : ∀ j : Fin 53, (match specT[j.val]? with | some (_, .map) => true | _ => false) = true → j.val = 0 ∨ j.val ∈ depL := by decide +kernel
          exact (hdec ⟨j, hj53⟩ (by simp only [hj])).resolve_left fun e => hij e.symm
        rw [hno j hjd] at hl
        cases hl
      | const c => exact hold
      | slice1 o => exact holdsV.keep (m := m) (sp := .slice1 o) hold hk
      | eff e => exact holdsV.keep (m := m) (sp := .eff e) hold hk
      | none => trivial
  · refine ⟨#[], 0, heap_alloc_new _ _, by simp, fun k hk => ?_⟩
    obtain ⟨j, g1, g2⟩ := mem_done.1 hk
    have hjd := ins_dep _ g1
    have hj0 : 0 ≠ j := by
      rintro rfl
      have h0 : (0 : Nat) ∈ depL := hjd
      revert h0
      decide
    rw [getD_other hj0, hno j hjd] at g2
    cases g2

/-- A row is put in. -/
theorem PartsT.ins {k : Key} {e : Eff} (h : PartsT w0 w2 B listed X m w) (hsz : listed.size = 53) (hin : (i, k) ∈ insT) (hn : listed.getD i false = false) (h0 : listed.getD 0 false = true) (ht : tableS k = some e) (hv : EffV B w v e) :
    ∃ w', (Instr.mapUpdate 65 (.map (some m)) (keyV k) v).run Try.prog w = .ok () w' ∧ PartsT w0 w2 B (listed.setIfInBounds i true) X m w' := by
  obtain ⟨h1, h2, h3⟩ := h.map h0
  have hi0 : i ≠ 0 := by
    rintro rfl
    rw [hn] at h0
    cases h0
  have hk : k ∉ doneK listed := fun hk => by
    obtain ⟨j, g1, g2⟩ := mem_done.1 hk
    have := ins_dec _ g1 _ hin rfl
    cases this
    rw [hn] at g2
    cases g2
  obtain ⟨w', hr, hm, hkp, hbl⟩ := map_insert h1 hk ht hv
  have hi53 : i < 53 := by
    have := ins_none _ hin
    have hlt := Option.isSome_iff_exists.2 ⟨0, this⟩
    rw [Option.isSome_map] at hlt
    have := (List.getElem?_eq_some_iff.1 (Option.isSome_iff_exists.1 hlt).choose_spec).1
    exact this
  have hnone : ∀ s' sp', specT[i]? = some (s', sp') → holdsV B w' m sp' (X s') := by
    intro s' sp' hj
    have hdec : ∀ p ∈ insT, (match specT[p.1]? with | some (_, .none) => true | _ => false) = true := by decide +kernel
    have := hdec _ hin
    simp only [hj] at this
    cases sp' with
    | none => trivial
    | const c => cases this
    | slice1 o => cases this
    | eff e => cases this
    | map => cases this
  refine ⟨w', hr, hbl B w0 h.below h2, h.keep.trans hkp, fun j s' sp' hj hl => ?_, fun j hj hl => ?_, fun _ => ⟨hm.congr fun k' => ?_, h2, Nat.lt_of_lt_of_le h3 hkp.1⟩⟩
  · by_cases hij : i = j
    · subst hij
      exact hnone s' sp' hj
    · rw [getD_other hij] at hl
      exact (h.vals j s' sp' hj hl).keep hkp
  · rw [getD_other hi0]
    exact h0
  · rw [List.mem_cons, mem_done, mem_done]
    constructor
    · rintro (rfl | ⟨j, g1, g2⟩)
      · exact ⟨i, hin, getD_same (by omega)⟩
      · refine ⟨j, g1, ?_⟩
        by_cases hij : i = j
        · subst hij; exact getD_same (by omega)
        · rw [getD_other hij]; exact g2
    · rintro ⟨j, g1, g2⟩
      by_cases hij : i = j
      · subst hij
        have := ins_idx _ g1 _ hin rfl
        cases this
        exact .inl rfl
      · rw [getD_other hij] at g2
        exact .inr ⟨j, g1, g2⟩
end

theorem call_run {a : Act} {w : World} {f : FuncId} {src : Nat} {args : Array Operand} {tys : Array TypeId} {vs : Array Value} {x : Value} (o : Oper) (ho : o.op = .call { callee := .value (.tmp src), args := args, argTypes := tys })
    (hx : a.eval (.tmp src) = x) (hf : x = .func (.func f) #[] #[]) (hv : args.map a.eval = vs) (hc : ∀ vs : Array Value, (callFunc f vs).run Try.prog w = .ok (.enter f vs) w) : (execOp a.eval o).run Try.prog w = .ok (.enter f vs) w := by
  unfold execOp
  simp only [ho, resolve, hx, hf, hv, Deferred.ofValue, Sem.run_bind, Sem.run_pure, Result.andThen_ok, invoke, Array.empty_append, Array.append_empty, hc]
theorem slice_run {a : Act} {w : World} {src : Nat} {x : Value} {k : Out} (o : Oper) (ho : o.op = .buildSlice 43 1 #[(0, .tmp src)]) (hx : a.eval (.tmp src) = x) (hk : x = oval k) :
    (execOp a.eval o).run Try.prog w = .ok (.value (.slice (some ⟨w.heap.size, 0, none⟩) 1 1)) (w.alloc (.cells (ocells k).toArray 48)) := by
  unfold execOp
  simp only [ho]
  have e : Array.map (fun y : Nat × Operand => (y.1, a.eval y.2)) #[(0, .tmp src)] = #[(0, x)] := by simp [hx]
  have hr : (Instr.buildSlice 43 1 #[(0, oval k)]).run Try.prog w = .ok (.slice (some ⟨w.heap.size, 0, none⟩) 1 1) (w.alloc (.cells (ocells k).toArray 48)) := by kernel_rfl
  rw [e, hk]
  simp only [Sem.run_bind, hr, Result.andThen_ok, Sem.run_pure]
theorem key_run {a : Act} {w : World} {src : Nat} {x : Value} {s k c t : Int} (o : Oper) (ho : o.op = .build 71 #[(0, .const (.int .u8 s)), (1, .tmp src)]) (hx : a.eval (.tmp src) = x) (hk : x = .agg #[.int .u8 k, .int .i64 c, .int .u8 t]) :
    (execOp a.eval o).run Try.prog w = .ok (.value (keyV (s, k, c, t))) w := by
  unfold execOp
  simp only [ho]
  have e : Array.map (fun y : Nat × Operand => (y.1, a.eval y.2)) #[(0, .const (.int .u8 s)), (1, .tmp src)] = #[(0, .int .u8 s), (1, x)] := by
    simp [hx]
    rfl
  have hr : (Instr.build 71 #[(0, .int .u8 s), (1, .agg #[.int .u8 k, .int .i64 c, .int .u8 t])]).run Try.prog w = .ok (keyV (s, k, c, t)) w := by kernel_rfl
  rw [e, hk]
  simp only [Sem.run_bind, hr, Result.andThen_ok, Sem.run_pure]
theorem b48_run {a : Act} {w : World} {k : Int} (o : Oper) (ho : o.op = .build 48 #[(0, .const (.int .u8 k))]) : (execOp a.eval o).run Try.prog w = .ok (.value (oval (k, 0, 0, 0))) w := by
  unfold execOp
  simp only [ho]
  have e : Array.map (fun y : Nat × Operand => (y.1, a.eval y.2)) #[(0, .const (.int .u8 k))] = #[(0, .int .u8 k)] := by
    simp
    rfl
  have hr : (Instr.build 48 #[(0, .int .u8 k)]).run Try.prog w = .ok (oval (k, 0, 0, 0)) w := by kernel_rfl
  rw [e]
  simp only [Sem.run_bind, hr, Result.andThen_ok, Sem.run_pure]
theorem mk_run {a : Act} {w : World} (o : Oper) (ho : o.op = .makeMap 65 none) : (execOp a.eval o).run Try.prog w = .ok (.value (.map (some w.heap.size))) (w.alloc (.map #[] 0)) := by
  unfold execOp
  simp only [ho]
  have hr : (Instr.makeMap 65 none).run Try.prog w = .ok (.map (some w.heap.size)) (w.alloc (.map #[] 0)) := by kernel_rfl
  simp only [Option.map_none, Sem.run_bind, hr, Result.andThen_ok, Sem.run_pure]
theorem load_run {a : Act} {w : World} {p : Nat} {src : Nat} (o : Oper) (ho : o.op = .load 68 (.tmp src)) (hx : a.eval (.tmp src) = .pointer (some ⟨p, 0, none⟩)) (h : w.heap[p]? = some (Obj.cells #[.int .u8 6, .int .i64 0, .int .u8 0] 68 (0, 0))) :
    (execOp a.eval o).run Try.prog w = .ok (.value (.agg #[.int .u8 6, .int .i64 0, .int .u8 0])) w := by
  have hs : (Try.prog.info? 68).map (·.size) = some 3 := by kernel_rfl
  unfold execOp
  simp only [ho, hx, Instr.loadAt, Instr.sureAddr, Sem.run_bind, Sem.run_pure, Result.andThen_ok, run_loadVar_row w p 68 68 _ (0, 0) _ h Try.underlying68 rfl hs]
theorem ins_run {a : Act} {w w' : World} {ks : Nat} {vop : Operand} {x k : Value} (o : Oper) (ho : o.op = .insert 65 (.tmp 16) (.tmp ks) vop) (hx : a.eval (.tmp 16) = x) (hk : a.eval (.tmp ks) = k)
    (hr : (Instr.mapUpdate 65 x k (a.eval vop)).run Try.prog w = .ok () w') : (execOp a.eval o).run Try.prog w = .ok .skip w' := by
  unfold execOp
  simp only [ho, hx, hk, Sem.run_bind, hr, Result.andThen_ok, Sem.run_pure]

end Go.Proofs.Ytlcpadonjbaaeaa
