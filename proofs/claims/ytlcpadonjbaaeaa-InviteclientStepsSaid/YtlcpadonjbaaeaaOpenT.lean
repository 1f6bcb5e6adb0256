/- Arguments that are records of integers. (Printed by wip/tools/genopen.py.) -/
import Derived.Test.YtlcpadonjbaaeaaOpen
import Derived.Test.YtlcpadonjbaaeaaWords
namespace Go.Proofs.Ytlcpadonjbaaeaa
open Go.ChangeShapes Go.WideShapes Go.ChangeAt Go.RowKit

def goodMc (t : Int × Int × Int) : Prop := (0 ≤ t.1 ∧ t.1 ≤ 255) ∧ (-9223372036854775808 ≤ t.2.1 ∧ t.2.1 ≤ 9223372036854775807) ∧ (-9223372036854775808 ≤ t.2.2 ∧ t.2.2 ≤ 9223372036854775807)
theorem fields31 : Try.prog.underlying 31 = some (.struct (Try.prog.fieldsOf 31)) := by kernel_rfl
theorem count31 : (Try.prog.fieldsOf 31).size = 3 := by kernel_rfl
theorem cells31 : Try.prog.cellsOf 31 = 3 := by kernel_rfl
theorem at31_0 : ((Try.prog.fieldsOf 31)[0]?).map (fun f => (f.type, f.offset)) = some (29, 0) := by kernel_rfl
theorem at31_1 : ((Try.prog.fieldsOf 31)[1]?).map (fun f => (f.type, f.offset)) = some (3, 1) := by kernel_rfl
theorem at31_2 : ((Try.prog.fieldsOf 31)[2]?).map (fun f => (f.type, f.offset)) = some (3, 2) := by kernel_rfl
theorem fcells31_29 : Try.prog.cellsOf 29 = 1 := by kernel_rfl
theorem fcells31_3 : Try.prog.cellsOf 3 = 1 := by kernel_rfl
theorem rowMc {H : Type} {enc : TypeId × Value → H} {w : World} {spare : Nat → Bool} {held : Bool} (n : Nat) (cs : List Value) (y : DataW H × List MemPlace)
    (h : DataW.trod enc Try.prog w 0 spare held n 31 cs = some y) : ∃ t : Int × Int × Int, cs = [.int .u8 t.1, .int .i64 t.2.1, .int .i64 t.2.2] ∧ goodMc t := by
  obtain ⟨xs, m, _, _, hlen, hxl, hf⟩ := DataW.trod_struct fields31 h
  rw [cells31] at hlen
  rw [count31] at hxl
  match cs, hlen with
  | [c0, c1, c2], _ =>
    have e0 : ∃ k : Int, c0 = .int .u8 k ∧ 0 ≤ k ∧ k ≤ 255 := by
      have ha := at31_0
      cases hfi : (Try.prog.fieldsOf 31)[0]? with
      | none => rw [hfi] at ha; cases ha
      | some f =>
        rw [hfi] at ha
        simp only [Option.map_some, Option.some.injEq, Prod.mk.injEq] at ha
        have hg := hf 0 f hfi
        rw [ha.1, ha.2, fcells31_29, List.getElem?_eq_getElem (by omega)] at hg
        obtain ⟨k, hk, _, hw⟩ := DataW.trod_int Try.underlying29 hg
        exact ⟨k, by simpa using hk, bounds_u8 hw⟩
    obtain ⟨k0, rfl, b0⟩ := e0
    have e1 : ∃ k : Int, c1 = .int .i64 k ∧ -9223372036854775808 ≤ k ∧ k ≤ 9223372036854775807 := by
      have ha := at31_1
      cases hfi : (Try.prog.fieldsOf 31)[1]? with
      | none => rw [hfi] at ha; cases ha
      | some f =>
        rw [hfi] at ha
        simp only [Option.map_some, Option.some.injEq, Prod.mk.injEq] at ha
        have hg := hf 1 f hfi
        rw [ha.1, ha.2, fcells31_3, List.getElem?_eq_getElem (by omega)] at hg
        obtain ⟨k, hk, _, hw⟩ := DataW.trod_int Try.underlying3 hg
        exact ⟨k, by simpa using hk, bounds_i64 hw⟩
    obtain ⟨k1, rfl, b1⟩ := e1
    have e2 : ∃ k : Int, c2 = .int .i64 k ∧ -9223372036854775808 ≤ k ∧ k ≤ 9223372036854775807 := by
      have ha := at31_2
      cases hfi : (Try.prog.fieldsOf 31)[2]? with
      | none => rw [hfi] at ha; cases ha
      | some f =>
        rw [hfi] at ha
        simp only [Option.map_some, Option.some.injEq, Prod.mk.injEq] at ha
        have hg := hf 2 f hfi
        rw [ha.1, ha.2, fcells31_3, List.getElem?_eq_getElem (by omega)] at hg
        obtain ⟨k, hk, _, hw⟩ := DataW.trod_int Try.underlying3 hg
        exact ⟨k, by simpa using hk, bounds_i64 hw⟩
    obtain ⟨k2, rfl, b2⟩ := e2
    exact ⟨(k0, k1, k2), rfl, b0, b1, b2⟩

theorem openMc {H : Type} {enc : TypeId × Value → H} {w : World} {spare : Nat → Bool} {held : Bool} {r : Reach} {b0 : Nat} {v : Value} {d : DataW H} {p : List MemPlace}
    (hv : Value.okWide Try.prog w r b0 31 v) (h : DataW.Trod enc Try.prog w 0 spare held 31 v d p) :
    ∃ t : Int × Int × Int, v = .agg #[.int .u8 t.1, .int .i64 t.2.1, .int .i64 t.2.2] ∧ goodMc t := by
  obtain ⟨cs, rfl, _⟩ := okWide_struct fields31 hv
  obtain ⟨fuel, hf⟩ := h
  obtain ⟨t, ht, hg⟩ := rowMc _ _ _ hf
  refine ⟨t, ?_, hg⟩
  have : cs = #[.int .u8 t.1, .int .i64 t.2.1, .int .i64 t.2.2] := by
    apply Array.toList_inj.1
    simpa [Value.cells] using ht
  rw [this]

def goodIn (t : Int × Int × Int) : Prop := (0 ≤ t.1 ∧ t.1 ≤ 255) ∧ (-9223372036854775808 ≤ t.2.1 ∧ t.2.1 ≤ 9223372036854775807) ∧ (0 ≤ t.2.2 ∧ t.2.2 ≤ 255)
theorem fields42 : Try.prog.underlying 42 = some (.struct (Try.prog.fieldsOf 42)) := by kernel_rfl
theorem count42 : (Try.prog.fieldsOf 42).size = 3 := by kernel_rfl
theorem cells42 : Try.prog.cellsOf 42 = 3 := by kernel_rfl
theorem at42_0 : ((Try.prog.fieldsOf 42)[0]?).map (fun f => (f.type, f.offset)) = some (39, 0) := by kernel_rfl
theorem at42_1 : ((Try.prog.fieldsOf 42)[1]?).map (fun f => (f.type, f.offset)) = some (3, 1) := by kernel_rfl
theorem at42_2 : ((Try.prog.fieldsOf 42)[2]?).map (fun f => (f.type, f.offset)) = some (40, 2) := by kernel_rfl
theorem fcells42_3 : Try.prog.cellsOf 3 = 1 := by kernel_rfl
theorem fcells42_39 : Try.prog.cellsOf 39 = 1 := by kernel_rfl
theorem fcells42_40 : Try.prog.cellsOf 40 = 1 := by kernel_rfl
theorem rowIn {H : Type} {enc : TypeId × Value → H} {w : World} {spare : Nat → Bool} {held : Bool} (n : Nat) (cs : List Value) (y : DataW H × List MemPlace)
    (h : DataW.trod enc Try.prog w 0 spare held n 42 cs = some y) : ∃ t : Int × Int × Int, cs = [.int .u8 t.1, .int .i64 t.2.1, .int .u8 t.2.2] ∧ goodIn t := by
  obtain ⟨xs, m, _, _, hlen, hxl, hf⟩ := DataW.trod_struct fields42 h
  rw [cells42] at hlen
  rw [count42] at hxl
  match cs, hlen with
  | [c0, c1, c2], _ =>
    have e0 : ∃ k : Int, c0 = .int .u8 k ∧ 0 ≤ k ∧ k ≤ 255 := by
      have ha := at42_0
      cases hfi : (Try.prog.fieldsOf 42)[0]? with
      | none => rw [hfi] at ha; cases ha
      | some f =>
        rw [hfi] at ha
        simp only [Option.map_some, Option.some.injEq, Prod.mk.injEq] at ha
        have hg := hf 0 f hfi
        rw [ha.1, ha.2, fcells42_39, List.getElem?_eq_getElem (by omega)] at hg
        obtain ⟨k, hk, _, hw⟩ := DataW.trod_int Try.underlying39 hg
        exact ⟨k, by simpa using hk, bounds_u8 hw⟩
    obtain ⟨k0, rfl, b0⟩ := e0
    have e1 : ∃ k : Int, c1 = .int .i64 k ∧ -9223372036854775808 ≤ k ∧ k ≤ 9223372036854775807 := by
      have ha := at42_1
      cases hfi : (Try.prog.fieldsOf 42)[1]? with
      | none => rw [hfi] at ha; cases ha
      | some f =>
        rw [hfi] at ha
        simp only [Option.map_some, Option.some.injEq, Prod.mk.injEq] at ha
        have hg := hf 1 f hfi
        rw [ha.1, ha.2, fcells42_3, List.getElem?_eq_getElem (by omega)] at hg
        obtain ⟨k, hk, _, hw⟩ := DataW.trod_int Try.underlying3 hg
        exact ⟨k, by simpa using hk, bounds_i64 hw⟩
    obtain ⟨k1, rfl, b1⟩ := e1
    have e2 : ∃ k : Int, c2 = .int .u8 k ∧ 0 ≤ k ∧ k ≤ 255 := by
      have ha := at42_2
      cases hfi : (Try.prog.fieldsOf 42)[2]? with
      | none => rw [hfi] at ha; cases ha
      | some f =>
        rw [hfi] at ha
        simp only [Option.map_some, Option.some.injEq, Prod.mk.injEq] at ha
        have hg := hf 2 f hfi
        rw [ha.1, ha.2, fcells42_40, List.getElem?_eq_getElem (by omega)] at hg
        obtain ⟨k, hk, _, hw⟩ := DataW.trod_int Try.underlying40 hg
        exact ⟨k, by simpa using hk, bounds_u8 hw⟩
    obtain ⟨k2, rfl, b2⟩ := e2
    exact ⟨(k0, k1, k2), rfl, b0, b1, b2⟩

theorem openIn {H : Type} {enc : TypeId × Value → H} {w : World} {spare : Nat → Bool} {held : Bool} {r : Reach} {b0 : Nat} {v : Value} {d : DataW H} {p : List MemPlace}
    (hv : Value.okWide Try.prog w r b0 42 v) (h : DataW.Trod enc Try.prog w 0 spare held 42 v d p) :
    ∃ t : Int × Int × Int, v = .agg #[.int .u8 t.1, .int .i64 t.2.1, .int .u8 t.2.2] ∧ goodIn t := by
  obtain ⟨cs, rfl, _⟩ := okWide_struct fields42 hv
  obtain ⟨fuel, hf⟩ := h
  obtain ⟨t, ht, hg⟩ := rowIn _ _ _ hf
  refine ⟨t, ?_, hg⟩
  have : cs = #[.int .u8 t.1, .int .i64 t.2.1, .int .u8 t.2.2] := by
    apply Array.toList_inj.1
    simpa [Value.cells] using ht
  rw [this]

end Go.Proofs.Ytlcpadonjbaaeaa
