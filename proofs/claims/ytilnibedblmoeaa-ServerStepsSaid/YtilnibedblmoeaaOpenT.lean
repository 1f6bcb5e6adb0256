/- Arguments that are records of integers. (Printed by wip/tools/genopen.py.) -/
import Derived.Test.YtilnibedblmoeaaOpen
import Derived.Test.YtilnibedblmoeaaWords
namespace Go.Proofs.Ytilnibedblmoeaa
open Go.ChangeShapes Go.WideShapes Go.ChangeAt Go.RowKit

def goodMc (t : Int × Int × Int) : Prop := (0 ≤ t.1 ∧ t.1 ≤ 255) ∧ (-9223372036854775808 ≤ t.2.1 ∧ t.2.1 ≤ 9223372036854775807) ∧ (-9223372036854775808 ≤ t.2.2 ∧ t.2.2 ≤ 9223372036854775807)
theorem fields24 : Try.prog.underlying 24 = some (.struct (Try.prog.fieldsOf 24)) := by kernel_rfl
theorem count24 : (Try.prog.fieldsOf 24).size = 3 := by kernel_rfl
theorem cells24 : Try.prog.cellsOf 24 = 3 := by kernel_rfl
theorem at24_0 : ((Try.prog.fieldsOf 24)[0]?).map (fun f => (f.type, f.offset)) = some (22, 0) := by kernel_rfl
theorem at24_1 : ((Try.prog.fieldsOf 24)[1]?).map (fun f => (f.type, f.offset)) = some (3, 1) := by kernel_rfl
theorem at24_2 : ((Try.prog.fieldsOf 24)[2]?).map (fun f => (f.type, f.offset)) = some (3, 2) := by kernel_rfl
theorem fcells24_22 : Try.prog.cellsOf 22 = 1 := by kernel_rfl
theorem fcells24_3 : Try.prog.cellsOf 3 = 1 := by kernel_rfl
theorem rowMc {H : Type} {enc : TypeId × Value → H} {w : World} {spare : Nat → Bool} {held : Bool} (n : Nat) (cs : List Value) (y : DataW H × List MemPlace)
    (h : DataW.trod enc Try.prog w 0 spare held n 24 cs = some y) : ∃ t : Int × Int × Int, cs = [.int .u8 t.1, .int .i64 t.2.1, .int .i64 t.2.2] ∧ goodMc t := by
  obtain ⟨xs, m, _, _, hlen, hxl, hf⟩ := DataW.trod_struct fields24 h
  rw [cells24] at hlen
  rw [count24] at hxl
  match cs, hlen with
  | [c0, c1, c2], _ =>
    have e0 : ∃ k : Int, c0 = .int .u8 k ∧ 0 ≤ k ∧ k ≤ 255 := by
      have ha := at24_0
      cases hfi : (Try.prog.fieldsOf 24)[0]? with
      | none => rw [hfi] at ha; cases ha
      | some f =>
        rw [hfi] at ha
        simp only [Option.map_some, Option.some.injEq, Prod.mk.injEq] at ha
        have hg := hf 0 f hfi
        rw [ha.1, ha.2, fcells24_22, List.getElem?_eq_getElem (by omega)] at hg
        obtain ⟨k, hk, _, hw⟩ := DataW.trod_int Try.underlying22 hg
        exact ⟨k, by simpa using hk, bounds_u8 hw⟩
    obtain ⟨k0, rfl, b0⟩ := e0
    have e1 : ∃ k : Int, c1 = .int .i64 k ∧ -9223372036854775808 ≤ k ∧ k ≤ 9223372036854775807 := by
      have ha := at24_1
      cases hfi : (Try.prog.fieldsOf 24)[1]? with
      | none => rw [hfi] at ha; cases ha
      | some f =>
        rw [hfi] at ha
        simp only [Option.map_some, Option.some.injEq, Prod.mk.injEq] at ha
        have hg := hf 1 f hfi
        rw [ha.1, ha.2, fcells24_3, List.getElem?_eq_getElem (by omega)] at hg
        obtain ⟨k, hk, _, hw⟩ := DataW.trod_int Try.underlying3 hg
        exact ⟨k, by simpa using hk, bounds_i64 hw⟩
    obtain ⟨k1, rfl, b1⟩ := e1
    have e2 : ∃ k : Int, c2 = .int .i64 k ∧ -9223372036854775808 ≤ k ∧ k ≤ 9223372036854775807 := by
      have ha := at24_2
      cases hfi : (Try.prog.fieldsOf 24)[2]? with
      | none => rw [hfi] at ha; cases ha
      | some f =>
        rw [hfi] at ha
        simp only [Option.map_some, Option.some.injEq, Prod.mk.injEq] at ha
        have hg := hf 2 f hfi
        rw [ha.1, ha.2, fcells24_3, List.getElem?_eq_getElem (by omega)] at hg
        obtain ⟨k, hk, _, hw⟩ := DataW.trod_int Try.underlying3 hg
        exact ⟨k, by simpa using hk, bounds_i64 hw⟩
    obtain ⟨k2, rfl, b2⟩ := e2
    exact ⟨(k0, k1, k2), rfl, b0, b1, b2⟩

theorem openMc {H : Type} {enc : TypeId × Value → H} {w : World} {spare : Nat → Bool} {held : Bool} {r : Reach} {b0 : Nat} {v : Value} {d : DataW H} {p : List MemPlace}
    (hv : Value.okWide Try.prog w r b0 24 v) (h : DataW.Trod enc Try.prog w 0 spare held 24 v d p) :
    ∃ t : Int × Int × Int, v = .agg #[.int .u8 t.1, .int .i64 t.2.1, .int .i64 t.2.2] ∧ goodMc t := by
  obtain ⟨cs, rfl, _⟩ := okWide_struct fields24 hv
  obtain ⟨fuel, hf⟩ := h
  obtain ⟨t, ht, hg⟩ := rowMc _ _ _ hf
  refine ⟨t, ?_, hg⟩
  have : cs = #[.int .u8 t.1, .int .i64 t.2.1, .int .i64 t.2.2] := by
    apply Array.toList_inj.1
    simpa [Value.cells] using ht
  rw [this]

def goodIn (t : Int × Int × Int) : Prop := (0 ≤ t.1 ∧ t.1 ≤ 255) ∧ (-9223372036854775808 ≤ t.2.1 ∧ t.2.1 ≤ 9223372036854775807) ∧ (0 ≤ t.2.2 ∧ t.2.2 ≤ 255)
theorem fields28 : Try.prog.underlying 28 = some (.struct (Try.prog.fieldsOf 28)) := by kernel_rfl
theorem count28 : (Try.prog.fieldsOf 28).size = 3 := by kernel_rfl
theorem cells28 : Try.prog.cellsOf 28 = 3 := by kernel_rfl
theorem at28_0 : ((Try.prog.fieldsOf 28)[0]?).map (fun f => (f.type, f.offset)) = some (25, 0) := by kernel_rfl
theorem at28_1 : ((Try.prog.fieldsOf 28)[1]?).map (fun f => (f.type, f.offset)) = some (3, 1) := by kernel_rfl
theorem at28_2 : ((Try.prog.fieldsOf 28)[2]?).map (fun f => (f.type, f.offset)) = some (26, 2) := by kernel_rfl
theorem fcells28_25 : Try.prog.cellsOf 25 = 1 := by kernel_rfl
theorem fcells28_26 : Try.prog.cellsOf 26 = 1 := by kernel_rfl
theorem fcells28_3 : Try.prog.cellsOf 3 = 1 := by kernel_rfl
theorem rowIn {H : Type} {enc : TypeId × Value → H} {w : World} {spare : Nat → Bool} {held : Bool} (n : Nat) (cs : List Value) (y : DataW H × List MemPlace)
    (h : DataW.trod enc Try.prog w 0 spare held n 28 cs = some y) : ∃ t : Int × Int × Int, cs = [.int .u8 t.1, .int .i64 t.2.1, .int .u8 t.2.2] ∧ goodIn t := by
  obtain ⟨xs, m, _, _, hlen, hxl, hf⟩ := DataW.trod_struct fields28 h
  rw [cells28] at hlen
  rw [count28] at hxl
  match cs, hlen with
  | [c0, c1, c2], _ =>
    have e0 : ∃ k : Int, c0 = .int .u8 k ∧ 0 ≤ k ∧ k ≤ 255 := by
      have ha := at28_0
      cases hfi : (Try.prog.fieldsOf 28)[0]? with
      | none => rw [hfi] at ha; cases ha
      | some f =>
        rw [hfi] at ha
        simp only [Option.map_some, Option.some.injEq, Prod.mk.injEq] at ha
        have hg := hf 0 f hfi
        rw [ha.1, ha.2, fcells28_25, List.getElem?_eq_getElem (by omega)] at hg
        obtain ⟨k, hk, _, hw⟩ := DataW.trod_int Try.underlying25 hg
        exact ⟨k, by simpa using hk, bounds_u8 hw⟩
    obtain ⟨k0, rfl, b0⟩ := e0
    have e1 : ∃ k : Int, c1 = .int .i64 k ∧ -9223372036854775808 ≤ k ∧ k ≤ 9223372036854775807 := by
      have ha := at28_1
      cases hfi : (Try.prog.fieldsOf 28)[1]? with
      | none => rw [hfi] at ha; cases ha
      | some f =>
        rw [hfi] at ha
        simp only [Option.map_some, Option.some.injEq, Prod.mk.injEq] at ha
        have hg := hf 1 f hfi
        rw [ha.1, ha.2, fcells28_3, List.getElem?_eq_getElem (by omega)] at hg
        obtain ⟨k, hk, _, hw⟩ := DataW.trod_int Try.underlying3 hg
        exact ⟨k, by simpa using hk, bounds_i64 hw⟩
    obtain ⟨k1, rfl, b1⟩ := e1
    have e2 : ∃ k : Int, c2 = .int .u8 k ∧ 0 ≤ k ∧ k ≤ 255 := by
      have ha := at28_2
      cases hfi : (Try.prog.fieldsOf 28)[2]? with
      | none => rw [hfi] at ha; cases ha
      | some f =>
        rw [hfi] at ha
        simp only [Option.map_some, Option.some.injEq, Prod.mk.injEq] at ha
        have hg := hf 2 f hfi
        rw [ha.1, ha.2, fcells28_26, List.getElem?_eq_getElem (by omega)] at hg
        obtain ⟨k, hk, _, hw⟩ := DataW.trod_int Try.underlying26 hg
        exact ⟨k, by simpa using hk, bounds_u8 hw⟩
    obtain ⟨k2, rfl, b2⟩ := e2
    exact ⟨(k0, k1, k2), rfl, b0, b1, b2⟩

theorem openIn {H : Type} {enc : TypeId × Value → H} {w : World} {spare : Nat → Bool} {held : Bool} {r : Reach} {b0 : Nat} {v : Value} {d : DataW H} {p : List MemPlace}
    (hv : Value.okWide Try.prog w r b0 28 v) (h : DataW.Trod enc Try.prog w 0 spare held 28 v d p) :
    ∃ t : Int × Int × Int, v = .agg #[.int .u8 t.1, .int .i64 t.2.1, .int .u8 t.2.2] ∧ goodIn t := by
  obtain ⟨cs, rfl, _⟩ := okWide_struct fields28 hv
  obtain ⟨fuel, hf⟩ := h
  obtain ⟨t, ht, hg⟩ := rowIn _ _ _ hf
  refine ⟨t, ?_, hg⟩
  have : cs = #[.int .u8 t.1, .int .i64 t.2.1, .int .u8 t.2.2] := by
    apply Array.toList_inj.1
    simpa [Value.cells] using ht
  rw [this]

end Go.Proofs.Ytilnibedblmoeaa
