/- Equal values compare as equal: arrays of bytes, states. -/
import Derived.Test.YtaafgakflmgpoaaDoorW19
import Derived.DeepKeys
namespace Go.Proofs.YtaafgakflmgpoaaDoor
open Go.RowKit

theorem items_self {d : Nat} {e : TypeId} {k : IntKind} (he : Tryd.prog.plainKey e = true) (hu : Tryd.prog.underlying e = some (.int k)) (xs : Array Value) (W : World) :
    ∀ is : List Nat, (∀ i ∈ is, ∃ n, xs[i * 1]? = some (.int k n)) → (Op.eqItems (d + 1) e 1 xs xs is).run Tryd.prog W = .ok true W
  | [], _ => by simp [Op.eqItems]
  | i :: is, h => by
    obtain ⟨n, hn⟩ := h i (by simp)
    simp only [Op.eqItems, Sem.run_bind, run_part_plain W he hn, Result.andThen_ok, run_equalIn_int W d e k k n n hu]
    simp only [beq_self_eq_true, Bool.not_true, Bool.false_eq_true, if_false]
    exact items_self he hu xs W is fun j hj => h j (by simp [hj])
theorem array_self {D : Nat} (d : Nat) (hD : D = d + 2) {t e : TypeId} {n : Nat} {k : IntKind} (ht : Tryd.prog.underlying t = some (.array n e)) (he : Tryd.prog.plainKey e = true) (hu : Tryd.prog.underlying e = some (.int k)) (hc : Tryd.prog.cellsOf e = 1)
    (xs : Array Value) (h : ∀ i, i < n → ∃ m, xs[i]? = some (.int k m)) (W : World) : (Op.equalIn D t (.agg xs) (.agg xs)).run Tryd.prog W = .ok true W := by
  subst hD
  obtain ⟨i, hi⟩ := info_of_underlying hu
  rw [run_equalIn_array W (d + 1) xs xs ht hi, hc]
  exact items_self he hu xs W _ fun j hj => by rw [Nat.mul_one]; exact h j (List.mem_range.1 hj)
theorem key5 : Tryd.prog.plainKey 5 = true := by kernel_rfl
theorem key27 : Tryd.prog.plainKey 27 = true := by kernel_rfl
theorem key29 : Tryd.prog.plainKey 29 = true := by kernel_rfl
theorem cells5 : Tryd.prog.cellsOf 5 = 1 := by kernel_rfl
theorem cells27 : Tryd.prog.cellsOf 27 = 1 := by kernel_rfl

/-- Equal sums are equal. -/
theorem eql24 (l : List Int) (hl : l.length = 32) (W : World) : (Op.equal 24 (.agg (u8s l).toArray) (.agg (u8s l).toArray)).run Tryd.prog W = .ok true W :=
  array_self (D := Op.maxDepth) 9998 rfl Tryd.underlying24 key5 Tryd.underlying5 cells5 _ (fun i hi => ⟨l[i]'(by omega), by simp [u8s, hl, hi]⟩) W

theorem fields32 : (Tryd.prog.fieldsOf 32).toList = [(Tryd.prog.fieldsOf 32)[0]!, (Tryd.prog.fieldsOf 32)[1]!, (Tryd.prog.fieldsOf 32)[2]!] := by kernel_rfl
theorem f0 : ((Tryd.prog.fieldsOf 32)[0]!).type = 28 ∧ ((Tryd.prog.fieldsOf 32)[0]!).offset = 0 := ⟨by kernel_rfl, by kernel_rfl⟩
theorem f1 : ((Tryd.prog.fieldsOf 32)[1]!).type = 29 ∧ ((Tryd.prog.fieldsOf 32)[1]!).offset = 8 := ⟨by kernel_rfl, by kernel_rfl⟩
theorem f2 : ((Tryd.prog.fieldsOf 32)[2]!).type = 30 ∧ ((Tryd.prog.fieldsOf 32)[2]!).offset = 9 := ⟨by kernel_rfl, by kernel_rfl⟩
theorem n0 : ((Tryd.prog.fieldsOf 32)[0]!).name = "H" := by kernel_rfl
theorem n1 : ((Tryd.prog.fieldsOf 32)[1]!).name = "N" := by kernel_rfl
theorem n2 : ((Tryd.prog.fieldsOf 32)[2]!).name = "Tail" := by kernel_rfl
theorem struct32 : Tryd.prog.underlying 32 = some (.struct (Tryd.prog.fieldsOf 32)) := by kernel_rfl
theorem held32 : Tryd.prog.stoodInHeld 32 = false := by kernel_rfl
theorem struct_at {D : Nat} (d : Nat) (hD : D = d + 1) (xs ys : Array Value) (W : World) : (Op.equalIn D 32 (.agg xs) (.agg ys)).run Tryd.prog W = (Op.eqFields d xs ys (Tryd.prog.fieldsOf 32).toList).run Tryd.prog W := by
  subst hD
  exact run_equalIn_struct W d 32 xs ys struct32 held32
theorem int_self {D : Nat} (d : Nat) (hD : D = d + 1) {t : TypeId} {k : IntKind} (h : Tryd.prog.underlying t = some (.int k)) (n : Int) (W : World) : (Op.equalIn D t (.int k n) (.int k n)).run Tryd.prog W = .ok true W := by
  subst hD
  rw [run_equalIn_int W d t k k n n h, beq_self_eq_true]
theorem part28 (xs : Array Value) (W : World) : (part 28 xs 0).run Tryd.prog W = .ok (.agg (xs.extract 0 8)) W := by kernel_rfl
theorem part30 (xs : Array Value) (W : World) : (part 30 xs 9).run Tryd.prog W = .ok (.agg (xs.extract 9 73)) W := by kernel_rfl

theorem eqf_cons {d : Nat} {xs : Array Value} {f : Field} {fs : List Field} {a : Value} {W : World} (hn : f.name ≠ "_") (ha : (part f.type xs f.offset).run Tryd.prog W = .ok a W) (he : (Op.equalIn d f.type a a).run Tryd.prog W = .ok true W) :
    (Op.eqFields d xs xs (f :: fs)).run Tryd.prog W = (Op.eqFields d xs xs fs).run Tryd.prog W := by
  simp only [Op.eqFields, Sem.run_ite, Sem.run_bind, ha, he, Result.andThen_ok, if_pos hn, Bool.not_true, Bool.false_eq_true, if_false]
theorem u32s_get (l : List Int) {i : Nat} (hi : i < l.length) : (u32s l)[i]? = some (.int .u32 (l.getD i 0)) := by simp [u32s, hi]
/-- Equal states are equal. -/
theorem eql32 (s : St) (hs : Wf s) (W : World) : (Op.equal 32 (.agg (stc s).toArray) (.agg (stc s).toArray)).run Tryd.prog W = .ok true W := by
  have hl : (stc s).length = 73 := by simp [stc, u8s, u32s, V8.list, hs.len]
  unfold Op.equal
  rw [struct_at (D := Op.maxDepth) 9999 rfl, fields32]
  have e28 : ∀ i, i < 8 → ∃ m, ((stc s).toArray.extract 0 8)[i]? = some (.int .u32 m) := fun i hi => by
    refine ⟨s.v.list.getD i 0, ?_⟩
    simp only [Array.getElem?_extract, List.getElem?_toArray, Nat.zero_add]
    rw [if_pos (by simp [hl]; omega)]
    unfold stc
    rw [List.getElem?_append_left (by simp [u32s, V8.list]; omega)]
    exact u32s_get _ (by simp [V8.list]; omega)
  have e30 : ∀ i, i < 64 → ∃ m, ((stc s).toArray.extract 9 73)[i]? = some (.int .u8 m) := fun i hi => by
    refine ⟨s.t.getD i 0, ?_⟩
    simp only [Array.getElem?_extract, List.getElem?_toArray]
    rw [if_pos (by simp [hl]; omega)]
    unfold stc
    rw [List.getElem?_append_right (by simp [u32s, V8.list]; omega), show 9 + i - (u32s s.v.list).length = i + 1 by simp [u32s, V8.list]; omega, List.getElem?_cons_succ]
    simp [u8s, hs.len, hi]
  have e29 : (stc s).toArray[8]? = some (.int .u64 s.n) := by
    rw [List.getElem?_toArray]
    unfold stc
    rw [List.getElem?_append_right (by simp [u32s, V8.list])]
    simp [u32s, V8.list]
  have a28 := array_self (D := 9999) 9997 rfl Tryd.underlying28 key27 Tryd.underlying27 cells27 _ e28 W
  have a30 := array_self (D := 9999) 9997 rfl Tryd.underlying30 key5 Tryd.underlying5 cells5 _ e30 W
  have b29 := int_self (D := 9999) 9998 rfl Tryd.underlying29 s.n W
  rw [eqf_cons (a := .agg ((stc s).toArray.extract 0 8)) (by rw [n0]; decide) (by rw [f0.1, f0.2]; exact part28 _ W) (by rw [f0.1]; exact a28),
    eqf_cons (a := .int .u64 s.n) (by rw [n1]; decide) (by rw [f1.1, f1.2]; exact run_part_plain W key29 e29) (by rw [f1.1]; exact b29),
    eqf_cons (a := .agg ((stc s).toArray.extract 9 73)) (by rw [n2]; decide) (by rw [f2.1, f2.2]; exact part30 _ W) (by rw [f2.1]; exact a30)]
  simp only [Op.eqFields, Sem.run_pure]

theorem eqlB32 (s : St) (hs : Wf s) (W : World) : (binOp .eql 32 (.agg (stc s).toArray) (.agg (stc s).toArray)).run Tryd.prog W = .ok (.bool true) W := by
  have h := eql32 s hs W
  generalize (stc s).toArray = x at h
  simp only [binOp, Sem.run_bind, h, Result.andThen_ok, Sem.run_pure]
theorem eqlB24 (l : List Int) (hl : l.length = 32) (W : World) : (binOp .eql 24 (.agg (u8s l).toArray) (.agg (u8s l).toArray)).run Tryd.prog W = .ok (.bool true) W := by
  have h := eql24 l hl W
  generalize (u8s l).toArray = x at h
  simp only [binOp, Sem.run_bind, h, Result.andThen_ok, Sem.run_pure]

end Go.Proofs.YtaafgakflmgpoaaDoor
