/- Arguments that are records of integers. (Printed by wip/tools/genopen.py.) -/
import Derived.Test.YtilnibedblmoeaaOpen
import Derived.Test.YtilnibedblmoeaaPlay
namespace Go.Proofs.Ytilnibedblmoeaa
open Go.ChangeShapes Go.WideShapes Go.ChangeAt Go.RowKit

def goodE0 (t : Int × Int × Int) : Prop := (0 ≤ t.1 ∧ t.1 ≤ 65535) ∧ (0 ≤ t.2.1 ∧ t.2.1 ≤ 255) ∧ (-9223372036854775808 ≤ t.2.2 ∧ t.2.2 ≤ 9223372036854775807)
theorem fields47 : Try.prog.underlying 47 = some (.struct (Try.prog.fieldsOf 47)) := by kernel_rfl
theorem count47 : (Try.prog.fieldsOf 47).size = 3 := by kernel_rfl
theorem cells47 : Try.prog.cellsOf 47 = 3 := by kernel_rfl
theorem at47_0 : ((Try.prog.fieldsOf 47)[0]?).map (fun f => (f.type, f.offset)) = some (45, 0) := by kernel_rfl
theorem at47_1 : ((Try.prog.fieldsOf 47)[1]?).map (fun f => (f.type, f.offset)) = some (25, 1) := by kernel_rfl
theorem at47_2 : ((Try.prog.fieldsOf 47)[2]?).map (fun f => (f.type, f.offset)) = some (3, 2) := by kernel_rfl
theorem fcells47_25 : Try.prog.cellsOf 25 = 1 := by kernel_rfl
theorem fcells47_3 : Try.prog.cellsOf 3 = 1 := by kernel_rfl
theorem fcells47_45 : Try.prog.cellsOf 45 = 1 := by kernel_rfl
theorem rowE0 {H : Type} {enc : TypeId × Value → H} {w : World} {spare : Nat → Bool} {held : Bool} (n : Nat) (cs : List Value) (y : DataW H × List MemPlace)
    (h : DataW.trod enc Try.prog w 0 spare held n 47 cs = some y) : ∃ t : Int × Int × Int, cs = [.int .u16 t.1, .int .u8 t.2.1, .int .i64 t.2.2] ∧ goodE0 t := by
  obtain ⟨xs, m, _, _, hlen, hxl, hf⟩ := DataW.trod_struct fields47 h
  rw [cells47] at hlen
  rw [count47] at hxl
  match cs, hlen with
  | [c0, c1, c2], _ =>
    have e0 : ∃ k : Int, c0 = .int .u16 k ∧ 0 ≤ k ∧ k ≤ 65535 := by
      have ha := at47_0
      cases hfi : (Try.prog.fieldsOf 47)[0]? with
      | none => rw [hfi] at ha; cases ha
      | some f =>
        rw [hfi] at ha
        simp only [Option.map_some, Option.some.injEq, Prod.mk.injEq] at ha
        have hg := hf 0 f hfi
        rw [ha.1, ha.2, fcells47_45, List.getElem?_eq_getElem (by omega)] at hg
        obtain ⟨k, hk, _, hw⟩ := DataW.trod_int Try.underlying45 hg
        exact ⟨k, by simpa using hk, bounds_u16 hw⟩
    obtain ⟨k0, rfl, b0⟩ := e0
    have e1 : ∃ k : Int, c1 = .int .u8 k ∧ 0 ≤ k ∧ k ≤ 255 := by
      have ha := at47_1
      cases hfi : (Try.prog.fieldsOf 47)[1]? with
      | none => rw [hfi] at ha; cases ha
      | some f =>
        rw [hfi] at ha
        simp only [Option.map_some, Option.some.injEq, Prod.mk.injEq] at ha
        have hg := hf 1 f hfi
        rw [ha.1, ha.2, fcells47_25, List.getElem?_eq_getElem (by omega)] at hg
        obtain ⟨k, hk, _, hw⟩ := DataW.trod_int Try.underlying25 hg
        exact ⟨k, by simpa using hk, bounds_u8 hw⟩
    obtain ⟨k1, rfl, b1⟩ := e1
    have e2 : ∃ k : Int, c2 = .int .i64 k ∧ -9223372036854775808 ≤ k ∧ k ≤ 9223372036854775807 := by
      have ha := at47_2
      cases hfi : (Try.prog.fieldsOf 47)[2]? with
      | none => rw [hfi] at ha; cases ha
      | some f =>
        rw [hfi] at ha
        simp only [Option.map_some, Option.some.injEq, Prod.mk.injEq] at ha
        have hg := hf 2 f hfi
        rw [ha.1, ha.2, fcells47_3, List.getElem?_eq_getElem (by omega)] at hg
        obtain ⟨k, hk, _, hw⟩ := DataW.trod_int Try.underlying3 hg
        exact ⟨k, by simpa using hk, bounds_i64 hw⟩
    obtain ⟨k2, rfl, b2⟩ := e2
    exact ⟨(k0, k1, k2), rfl, b0, b1, b2⟩

theorem openE0 {H : Type} {enc : TypeId × Value → H} {w : World} {spare : Nat → Bool} {held : Bool} {r : Reach} {b0 : Nat} {v : Value} {d : DataW H} {p : List MemPlace}
    (hv : Value.okWide Try.prog w r b0 47 v) (h : DataW.Trod enc Try.prog w 0 spare held 47 v d p) :
    ∃ t : Int × Int × Int, v = .agg #[.int .u16 t.1, .int .u8 t.2.1, .int .i64 t.2.2] ∧ goodE0 t := by
  obtain ⟨cs, rfl, _⟩ := okWide_struct fields47 hv
  obtain ⟨fuel, hf⟩ := h
  obtain ⟨t, ht, hg⟩ := rowE0 _ _ _ hf
  refine ⟨t, ?_, hg⟩
  have : cs = #[.int .u16 t.1, .int .u8 t.2.1, .int .i64 t.2.2] := by
    apply Array.toList_inj.1
    simpa [Value.cells] using ht
  rw [this]

theorem open_events {H : Type} {enc : TypeId × Value → H} {w : World} {spare : Nat → Bool} {held : Bool} {v : Value} {d : DataW H} {p : List MemPlace}
    (hv : ∃ A n c, v = .slice A n c) (h : DataW.Trod enc Try.prog w 0 spare held 37 v d p) :
    ∃ (A : Option Addr) (c : Nat) (l : List Ev), v = .slice A l.length c ∧ l.length ≤ c ∧ c ≤ maxLen ∧ (∀ e ∈ l, goodE e) ∧ Rd w w.heap.size A (l.flatMap evcells) :=
  open_rows evcells 3 goodE Try.underlying37 cells47 (by omega) (fun _ => rfl) rowE0 hv h

end Go.Proofs.Ytilnibedblmoeaa
