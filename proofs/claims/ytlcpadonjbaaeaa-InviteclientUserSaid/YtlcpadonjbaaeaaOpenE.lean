/- Arguments that are records of integers. (Printed by wip/tools/genopen.py.) -/
import Derived.Test.YtlcpadonjbaaeaaOpen
import Derived.Test.YtlcpadonjbaaeaaPlay
namespace Go.Proofs.Ytlcpadonjbaaeaa
open Go.ChangeShapes Go.WideShapes Go.ChangeAt Go.RowKit

def goodE0 (t : Int × Int × Int) : Prop := (0 ≤ t.1 ∧ t.1 ≤ 65535) ∧ (0 ≤ t.2.1 ∧ t.2.1 ≤ 255) ∧ (-9223372036854775808 ≤ t.2.2 ∧ t.2.2 ≤ 9223372036854775807)
theorem fields73 : Try.prog.underlying 73 = some (.struct (Try.prog.fieldsOf 73)) := by kernel_rfl
theorem count73 : (Try.prog.fieldsOf 73).size = 3 := by kernel_rfl
theorem cells73 : Try.prog.cellsOf 73 = 3 := by kernel_rfl
theorem at73_0 : ((Try.prog.fieldsOf 73)[0]?).map (fun f => (f.type, f.offset)) = some (22, 0) := by kernel_rfl
theorem at73_1 : ((Try.prog.fieldsOf 73)[1]?).map (fun f => (f.type, f.offset)) = some (39, 1) := by kernel_rfl
theorem at73_2 : ((Try.prog.fieldsOf 73)[2]?).map (fun f => (f.type, f.offset)) = some (3, 2) := by kernel_rfl
theorem fcells73_22 : Try.prog.cellsOf 22 = 1 := by kernel_rfl
theorem fcells73_3 : Try.prog.cellsOf 3 = 1 := by kernel_rfl
theorem fcells73_39 : Try.prog.cellsOf 39 = 1 := by kernel_rfl
theorem rowE0 {H : Type} {enc : TypeId × Value → H} {w : World} {spare : Nat → Bool} {held : Bool} (n : Nat) (cs : List Value) (y : DataW H × List MemPlace)
    (h : DataW.trod enc Try.prog w 0 spare held n 73 cs = some y) : ∃ t : Int × Int × Int, cs = [.int .u16 t.1, .int .u8 t.2.1, .int .i64 t.2.2] ∧ goodE0 t := by
  obtain ⟨xs, m, _, _, hlen, hxl, hf⟩ := DataW.trod_struct fields73 h
  rw [cells73] at hlen
  rw [count73] at hxl
  match cs, hlen with
  | [c0, c1, c2], _ =>
    have e0 : ∃ k : Int, c0 = .int .u16 k ∧ 0 ≤ k ∧ k ≤ 65535 := by
      have ha := at73_0
      cases hfi : (Try.prog.fieldsOf 73)[0]? with
      | none => rw [hfi] at ha; cases ha
      | some f =>
        rw [hfi] at ha
        simp only [Option.map_some, Option.some.injEq, Prod.mk.injEq] at ha
        have hg := hf 0 f hfi
        rw [ha.1, ha.2, fcells73_22, List.getElem?_eq_getElem (by omega)] at hg
        obtain ⟨k, hk, _, hw⟩ := DataW.trod_int Try.underlying22 hg
        exact ⟨k, by simpa using hk, bounds_u16 hw⟩
    obtain ⟨k0, rfl, b0⟩ := e0
    have e1 : ∃ k : Int, c1 = .int .u8 k ∧ 0 ≤ k ∧ k ≤ 255 := by
      have ha := at73_1
      cases hfi : (Try.prog.fieldsOf 73)[1]? with
      | none => rw [hfi] at ha; cases ha
      | some f =>
        rw [hfi] at ha
        simp only [Option.map_some, Option.some.injEq, Prod.mk.injEq] at ha
        have hg := hf 1 f hfi
        rw [ha.1, ha.2, fcells73_39, List.getElem?_eq_getElem (by omega)] at hg
        obtain ⟨k, hk, _, hw⟩ := DataW.trod_int Try.underlying39 hg
        exact ⟨k, by simpa using hk, bounds_u8 hw⟩
    obtain ⟨k1, rfl, b1⟩ := e1
    have e2 : ∃ k : Int, c2 = .int .i64 k ∧ -9223372036854775808 ≤ k ∧ k ≤ 9223372036854775807 := by
      have ha := at73_2
      cases hfi : (Try.prog.fieldsOf 73)[2]? with
      | none => rw [hfi] at ha; cases ha
      | some f =>
        rw [hfi] at ha
        simp only [Option.map_some, Option.some.injEq, Prod.mk.injEq] at ha
        have hg := hf 2 f hfi
        rw [ha.1, ha.2, fcells73_3, List.getElem?_eq_getElem (by omega)] at hg
        obtain ⟨k, hk, _, hw⟩ := DataW.trod_int Try.underlying3 hg
        exact ⟨k, by simpa using hk, bounds_i64 hw⟩
    obtain ⟨k2, rfl, b2⟩ := e2
    exact ⟨(k0, k1, k2), rfl, b0, b1, b2⟩

theorem openE0 {H : Type} {enc : TypeId × Value → H} {w : World} {spare : Nat → Bool} {held : Bool} {r : Reach} {b0 : Nat} {v : Value} {d : DataW H} {p : List MemPlace}
    (hv : Value.okWide Try.prog w r b0 73 v) (h : DataW.Trod enc Try.prog w 0 spare held 73 v d p) :
    ∃ t : Int × Int × Int, v = .agg #[.int .u16 t.1, .int .u8 t.2.1, .int .i64 t.2.2] ∧ goodE0 t := by
  obtain ⟨cs, rfl, _⟩ := okWide_struct fields73 hv
  obtain ⟨fuel, hf⟩ := h
  obtain ⟨t, ht, hg⟩ := rowE0 _ _ _ hf
  refine ⟨t, ?_, hg⟩
  have : cs = #[.int .u16 t.1, .int .u8 t.2.1, .int .i64 t.2.2] := by
    apply Array.toList_inj.1
    simpa [Value.cells] using ht
  rw [this]

theorem open_events {H : Type} {enc : TypeId × Value → H} {w : World} {spare : Nat → Bool} {held : Bool} {v : Value} {d : DataW H} {p : List MemPlace}
    (hv : ∃ A n c, v = .slice A n c) (h : DataW.Trod enc Try.prog w 0 spare held 52 v d p) :
    ∃ (A : Option Addr) (c : Nat) (l : List Ev), v = .slice A l.length c ∧ l.length ≤ c ∧ c ≤ maxLen ∧ (∀ e ∈ l, goodE e) ∧ Rd w w.heap.size A (l.flatMap evcells) :=
  open_rows evcells 3 goodE Try.underlying52 cells73 (by omega) (fun _ => rfl) rowE0 hv h

end Go.Proofs.Ytlcpadonjbaaeaa
