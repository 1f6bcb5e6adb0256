/- Arguments that are records of integers. (Printed by wip/tools/genopen.py.) -/
import Derived.Test.YtlmanafplbddoaaOpen
import Derived.Test.YtlmanafplbddoaaWords
namespace Go.Proofs.Ytlmanafplbddoaa
open Go.ChangeShapes Go.WideShapes Go.ChangeAt Go.RowKit

def goodMc (t : Int × Int × Int) : Prop := (0 ≤ t.1 ∧ t.1 ≤ 255) ∧ (-9223372036854775808 ≤ t.2.1 ∧ t.2.1 ≤ 9223372036854775807) ∧ (-9223372036854775808 ≤ t.2.2 ∧ t.2.2 ≤ 9223372036854775807)
theorem fields26 : Try.prog.underlying 26 = some (.struct (Try.prog.fieldsOf 26)) := by kernel_rfl
theorem count26 : (Try.prog.fieldsOf 26).size = 3 := by kernel_rfl
theorem cells26 : Try.prog.cellsOf 26 = 3 := by kernel_rfl
theorem at26_0 : ((Try.prog.fieldsOf 26)[0]?).map (fun f => (f.type, f.offset)) = some (24, 0) := by kernel_rfl
theorem at26_1 : ((Try.prog.fieldsOf 26)[1]?).map (fun f => (f.type, f.offset)) = some (3, 1) := by kernel_rfl
theorem at26_2 : ((Try.prog.fieldsOf 26)[2]?).map (fun f => (f.type, f.offset)) = some (3, 2) := by kernel_rfl
theorem fcells26_24 : Try.prog.cellsOf 24 = 1 := by kernel_rfl
theorem fcells26_3 : Try.prog.cellsOf 3 = 1 := by kernel_rfl
theorem rowMc {H : Type} {enc : TypeId × Value → H} {w : World} {spare : Nat → Bool} {held : Bool} (n : Nat) (cs : List Value) (y : DataW H × List MemPlace)
    (h : DataW.trod enc Try.prog w 0 spare held n 26 cs = some y) : ∃ t : Int × Int × Int, cs = [.int .u8 t.1, .int .i64 t.2.1, .int .i64 t.2.2] ∧ goodMc t := by
  obtain ⟨xs, m, _, _, hlen, hxl, hf⟩ := DataW.trod_struct fields26 h
  rw [cells26] at hlen
  rw [count26] at hxl
  match cs, hlen with
  | [c0, c1, c2], _ =>
    have e0 : ∃ k : Int, c0 = .int .u8 k ∧ 0 ≤ k ∧ k ≤ 255 := by
      have ha := at26_0
      cases hfi : (Try.prog.fieldsOf 26)[0]? with
      | none => rw [hfi] at ha; cases ha
      | some f =>
        rw [hfi] at ha
        simp only [Option.map_some, Option.some.injEq, Prod.mk.injEq] at ha
        have hg := hf 0 f hfi
        rw [ha.1, ha.2, fcells26_24, List.getElem?_eq_getElem (by omega)] at hg
        obtain ⟨k, hk, _, hw⟩ := DataW.trod_int Try.underlying24 hg
        exact ⟨k, by simpa using hk, bounds_u8 hw⟩
    obtain ⟨k0, rfl, b0⟩ := e0
    have e1 : ∃ k : Int, c1 = .int .i64 k ∧ -9223372036854775808 ≤ k ∧ k ≤ 9223372036854775807 := by
      have ha := at26_1
      cases hfi : (Try.prog.fieldsOf 26)[1]? with
      | none => rw [hfi] at ha; cases ha
      | some f =>
        rw [hfi] at ha
        simp only [Option.map_some, Option.some.injEq, Prod.mk.injEq] at ha
        have hg := hf 1 f hfi
        rw [ha.1, ha.2, fcells26_3, List.getElem?_eq_getElem (by omega)] at hg
        obtain ⟨k, hk, _, hw⟩ := DataW.trod_int Try.underlying3 hg
        exact ⟨k, by simpa using hk, bounds_i64 hw⟩
    obtain ⟨k1, rfl, b1⟩ := e1
    have e2 : ∃ k : Int, c2 = .int .i64 k ∧ -9223372036854775808 ≤ k ∧ k ≤ 9223372036854775807 := by
      have ha := at26_2
      cases hfi : (Try.prog.fieldsOf 26)[2]? with
      | none => rw [hfi] at ha; cases ha
      | some f =>
        rw [hfi] at ha
        simp only [Option.map_some, Option.some.injEq, Prod.mk.injEq] at ha
        have hg := hf 2 f hfi
        rw [ha.1, ha.2, fcells26_3, List.getElem?_eq_getElem (by omega)] at hg
        obtain ⟨k, hk, _, hw⟩ := DataW.trod_int Try.underlying3 hg
        exact ⟨k, by simpa using hk, bounds_i64 hw⟩
    obtain ⟨k2, rfl, b2⟩ := e2
    exact ⟨(k0, k1, k2), rfl, b0, b1, b2⟩

theorem openMc {H : Type} {enc : TypeId × Value → H} {w : World} {spare : Nat → Bool} {held : Bool} {r : Reach} {b0 : Nat} {v : Value} {d : DataW H} {p : List MemPlace}
    (hv : Value.okWide Try.prog w r b0 26 v) (h : DataW.Trod enc Try.prog w 0 spare held 26 v d p) :
    ∃ t : Int × Int × Int, v = .agg #[.int .u8 t.1, .int .i64 t.2.1, .int .i64 t.2.2] ∧ goodMc t := by
  obtain ⟨cs, rfl, _⟩ := okWide_struct fields26 hv
  obtain ⟨fuel, hf⟩ := h
  obtain ⟨t, ht, hg⟩ := rowMc _ _ _ hf
  refine ⟨t, ?_, hg⟩
  have : cs = #[.int .u8 t.1, .int .i64 t.2.1, .int .i64 t.2.2] := by
    apply Array.toList_inj.1
    simpa [Value.cells] using ht
  rw [this]

def goodIn (t : Int × Int × Int) : Prop := (0 ≤ t.1 ∧ t.1 ≤ 255) ∧ (-9223372036854775808 ≤ t.2.1 ∧ t.2.1 ≤ 9223372036854775807) ∧ (0 ≤ t.2.2 ∧ t.2.2 ≤ 255)
theorem fields47 : Try.prog.underlying 47 = some (.struct (Try.prog.fieldsOf 47)) := by kernel_rfl
theorem count47 : (Try.prog.fieldsOf 47).size = 3 := by kernel_rfl
theorem cells47 : Try.prog.cellsOf 47 = 3 := by kernel_rfl
theorem at47_0 : ((Try.prog.fieldsOf 47)[0]?).map (fun f => (f.type, f.offset)) = some (45, 0) := by kernel_rfl
theorem at47_1 : ((Try.prog.fieldsOf 47)[1]?).map (fun f => (f.type, f.offset)) = some (3, 1) := by kernel_rfl
theorem at47_2 : ((Try.prog.fieldsOf 47)[2]?).map (fun f => (f.type, f.offset)) = some (38, 2) := by kernel_rfl
theorem fcells47_3 : Try.prog.cellsOf 3 = 1 := by kernel_rfl
theorem fcells47_38 : Try.prog.cellsOf 38 = 1 := by kernel_rfl
theorem fcells47_45 : Try.prog.cellsOf 45 = 1 := by kernel_rfl
theorem rowIn {H : Type} {enc : TypeId × Value → H} {w : World} {spare : Nat → Bool} {held : Bool} (n : Nat) (cs : List Value) (y : DataW H × List MemPlace)
    (h : DataW.trod enc Try.prog w 0 spare held n 47 cs = some y) : ∃ t : Int × Int × Int, cs = [.int .u8 t.1, .int .i64 t.2.1, .int .u8 t.2.2] ∧ goodIn t := by
  obtain ⟨xs, m, _, _, hlen, hxl, hf⟩ := DataW.trod_struct fields47 h
  rw [cells47] at hlen
  rw [count47] at hxl
  match cs, hlen with
  | [c0, c1, c2], _ =>
    have e0 : ∃ k : Int, c0 = .int .u8 k ∧ 0 ≤ k ∧ k ≤ 255 := by
      have ha := at47_0
      cases hfi : (Try.prog.fieldsOf 47)[0]? with
      | none => rw [hfi] at ha; cases ha
      | some f =>
        rw [hfi] at ha
        simp only [Option.map_some, Option.some.injEq, Prod.mk.injEq] at ha
        have hg := hf 0 f hfi
        rw [ha.1, ha.2, fcells47_45, List.getElem?_eq_getElem (by omega)] at hg
        obtain ⟨k, hk, _, hw⟩ := DataW.trod_int Try.underlying45 hg
        exact ⟨k, by simpa using hk, bounds_u8 hw⟩
    obtain ⟨k0, rfl, b0⟩ := e0
    have e1 : ∃ k : Int, c1 = .int .i64 k ∧ -9223372036854775808 ≤ k ∧ k ≤ 9223372036854775807 := by
      have ha := at47_1
      cases hfi : (Try.prog.fieldsOf 47)[1]? with
      | none => rw [hfi] at ha; cases ha
      | some f =>
        rw [hfi] at ha
        simp only [Option.map_some, Option.some.injEq, Prod.mk.injEq] at ha
        have hg := hf 1 f hfi
        rw [ha.1, ha.2, fcells47_3, List.getElem?_eq_getElem (by omega)] at hg
        obtain ⟨k, hk, _, hw⟩ := DataW.trod_int Try.underlying3 hg
        exact ⟨k, by simpa using hk, bounds_i64 hw⟩
    obtain ⟨k1, rfl, b1⟩ := e1
    have e2 : ∃ k : Int, c2 = .int .u8 k ∧ 0 ≤ k ∧ k ≤ 255 := by
      have ha := at47_2
      cases hfi : (Try.prog.fieldsOf 47)[2]? with
      | none => rw [hfi] at ha; cases ha
      | some f =>
        rw [hfi] at ha
        simp only [Option.map_some, Option.some.injEq, Prod.mk.injEq] at ha
        have hg := hf 2 f hfi
        rw [ha.1, ha.2, fcells47_38, List.getElem?_eq_getElem (by omega)] at hg
        obtain ⟨k, hk, _, hw⟩ := DataW.trod_int Try.underlying38 hg
        exact ⟨k, by simpa using hk, bounds_u8 hw⟩
    obtain ⟨k2, rfl, b2⟩ := e2
    exact ⟨(k0, k1, k2), rfl, b0, b1, b2⟩

theorem openIn {H : Type} {enc : TypeId × Value → H} {w : World} {spare : Nat → Bool} {held : Bool} {r : Reach} {b0 : Nat} {v : Value} {d : DataW H} {p : List MemPlace}
    (hv : Value.okWide Try.prog w r b0 47 v) (h : DataW.Trod enc Try.prog w 0 spare held 47 v d p) :
    ∃ t : Int × Int × Int, v = .agg #[.int .u8 t.1, .int .i64 t.2.1, .int .u8 t.2.2] ∧ goodIn t := by
  obtain ⟨cs, rfl, _⟩ := okWide_struct fields47 hv
  obtain ⟨fuel, hf⟩ := h
  obtain ⟨t, ht, hg⟩ := rowIn _ _ _ hf
  refine ⟨t, ?_, hg⟩
  have : cs = #[.int .u8 t.1, .int .i64 t.2.1, .int .u8 t.2.2] := by
    apply Array.toList_inj.1
    simpa [Value.cells] using ht
  rw [this]

end Go.Proofs.Ytlmanafplbddoaa
