/- Arguments that are timers, or slices of timers. -/
import Derived.Test.YtfocenfgeolpfaaOpen
import Derived.Test.YtfocenfgeolpfaaWords
namespace Go.Proofs.Ytfocenfgeolpfaa
open Go.ChangeShapes Go.WideShapes Go.ChangeAt Go.RowKit

def goodT (t : Tm) : Prop := (-9223372036854775808 ≤ t.1 ∧ t.1 ≤ 9223372036854775807) ∧ (-9223372036854775808 ≤ t.2.1 ∧ t.2.1 ≤ 9223372036854775807) ∧ (-9223372036854775808 ≤ t.2.2 ∧ t.2.2 ≤ 9223372036854775807)

theorem fields28 : Try.prog.underlying 28 = some (.struct (Try.prog.fieldsOf 28)) := by kernel_rfl
theorem three28 : (Try.prog.fieldsOf 28).size = 3 := by kernel_rfl
theorem at28_0 : ((Try.prog.fieldsOf 28)[0]?).map (fun f => (f.type, f.offset)) = some (3, 0) := by kernel_rfl
theorem at28_1 : ((Try.prog.fieldsOf 28)[1]?).map (fun f => (f.type, f.offset)) = some (3, 1) := by kernel_rfl
theorem at28_2 : ((Try.prog.fieldsOf 28)[2]?).map (fun f => (f.type, f.offset)) = some (3, 2) := by kernel_rfl
theorem at28 : ∀ i, i < 3 → ((Try.prog.fieldsOf 28)[i]?).map (fun f => (f.type, f.offset)) = some (3, i) := by
  intro i hi
  match i, hi with
  | 0, _ => exact at28_0
  | 1, _ => exact at28_1
  | 2, _ => exact at28_2
theorem cells28 : Try.prog.cellsOf 28 = 3 := by kernel_rfl
theorem cells3 : Try.prog.cellsOf 3 = 1 := by kernel_rfl

theorem row_timer {H : Type} {enc : TypeId × Value → H} {w : World} {spare : Nat → Bool} {held : Bool} (n : Nat) (cs : List Value) (y : DataW H × List MemPlace)
    (h : DataW.trod enc Try.prog w 0 spare held n 28 cs = some y) : ∃ t : Tm, cs = tcells t ∧ goodT t := by
  obtain ⟨xs, m, _, _, hlen, hxl, hf⟩ := DataW.trod_struct fields28 h
  rw [cells28] at hlen
  rw [three28] at hxl
  match cs, hlen with
  | [c0, c1, c2], _ =>
    have each : ∀ i (hi : i < 3), ∃ k : Int, [c0, c1, c2][i]? = some (.int .i64 k) ∧ -9223372036854775808 ≤ k ∧ k ≤ 9223372036854775807 := by
      intro i hi
      have ha := at28 i hi
      cases hfi : (Try.prog.fieldsOf 28)[i]? with
      | none => rw [hfi] at ha; cases ha
      | some f =>
        rw [hfi] at ha
        simp only [Option.map_some, Option.some.injEq, Prod.mk.injEq] at ha
        have hg := hf i f hfi
        rw [ha.1, ha.2, cells3, List.getElem?_eq_getElem (by omega)] at hg
        obtain ⟨k, hk, _, hw⟩ := DataW.trod_int Try.underlying3 hg
        refine ⟨k, ?_, bounds_i64 hw⟩
        match i, hi with
        | 0, _ => simpa using hk
        | 1, _ => simpa using hk
        | 2, _ => simpa using hk
    obtain ⟨a, ha, ba⟩ := each 0 (by omega)
    obtain ⟨b, hb, bb⟩ := each 1 (by omega)
    obtain ⟨c, hc, bc⟩ := each 2 (by omega)
    simp at ha hb hc
    subst ha hb hc
    exact ⟨(a, b, c), rfl, ba, bb, bc⟩

theorem open_timers {H : Type} {enc : TypeId × Value → H} {w : World} {spare : Nat → Bool} {held : Bool} {v : Value} {d : DataW H} {p : List MemPlace}
    (hv : ∃ A n c, v = .slice A n c) (h : DataW.Trod enc Try.prog w 0 spare held 23 v d p) :
    ∃ (A : Option Addr) (c : Nat) (l : List Tm), v = .slice A l.length c ∧ l.length ≤ c ∧ c ≤ maxLen ∧ (∀ t ∈ l, goodT t) ∧ Rd w w.heap.size A (l.flatMap tcells) :=
  open_rows tcells 3 goodT Try.underlying23 cells28 (by omega) (fun _ => rfl) row_timer hv h

theorem open_timer {H : Type} {enc : TypeId × Value → H} {w : World} {spare : Nat → Bool} {held : Bool} {r : Reach} {b0 : Nat} {v : Value} {d : DataW H} {p : List MemPlace}
    (hv : Value.okWide Try.prog w r b0 28 v) (h : DataW.Trod enc Try.prog w 0 spare held 28 v d p) :
    ∃ t : Tm, v = .agg #[.int .i64 t.1, .int .i64 t.2.1, .int .i64 t.2.2] ∧ goodT t := by
  obtain ⟨cs, rfl, _⟩ := okWide_struct fields28 hv
  obtain ⟨fuel, hf⟩ := h
  obtain ⟨t, ht, hg⟩ := row_timer _ _ _ hf
  refine ⟨t, ?_, hg⟩
  have : cs = #[.int .i64 t.1, .int .i64 t.2.1, .int .i64 t.2.2] := by
    apply Array.toList_inj.1
    simpa [Value.cells, tcells] using ht
  rw [this]

end Go.Proofs.Ytfocenfgeolpfaa
