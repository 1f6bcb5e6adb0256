/- Arguments that are slices of pairs of bytes. -/
import Derived.Test.YtfocenfgeolpfaaOpen
import Derived.Test.YtfocenfgeolpfaaW16
namespace Go.Proofs.Ytfocenfgeolpfaa
open Go.ChangeShapes Go.WideShapes Go.ChangeAt Go.RowKit

def goodP (p : Int × Int) : Prop := (0 ≤ p.1 ∧ p.1 ≤ 255) ∧ (0 ≤ p.2 ∧ p.2 ≤ 255)
theorem array51 : Try.prog.underlying 51 = some (.array 2 5) := by kernel_rfl
theorem cells51 : Try.prog.cellsOf 51 = 2 := by kernel_rfl
theorem cells5 : Try.prog.cellsOf 5 = 1 := by kernel_rfl

theorem row_pair {H : Type} {enc : TypeId × Value → H} {w : World} {spare : Nat → Bool} {held : Bool} (n : Nat) (cs : List Value) (y : DataW H × List MemPlace)
    (h : DataW.trod enc Try.prog w 0 spare held n 51 cs = some y) : ∃ p : Int × Int, cs = pcells p ∧ goodP p := by
  obtain ⟨xs, m, _, _, hlen, hxl, hf⟩ := DataW.trod_array array51 h
  rw [cells51] at hlen
  match cs, hlen with
  | [c0, c1], _ =>
    have each : ∀ i (hi : i < 2), ∃ k : Int, [c0, c1][i]? = some (.int .u8 k) ∧ 0 ≤ k ∧ k ≤ 255 := by
      intro i hi
      have hg := hf i hi
      have hx : xs[i]? = some xs[i] := List.getElem?_eq_getElem (by omega)
      rw [cells5, hx] at hg
      obtain ⟨k, hk, _, hw⟩ := DataW.trod_int Try.underlying5 hg
      refine ⟨k, ?_, bounds_u8 hw⟩
      rw [Nat.mul_one] at hk
      have : i = 0 ∨ i = 1 := by omega
      rcases this with rfl | rfl
      · simpa using hk
      · simpa using hk
    obtain ⟨a, ha, ba⟩ := each 0 (by omega)
    obtain ⟨b, hb, bb⟩ := each 1 (by omega)
    simp at ha hb
    subst ha hb
    exact ⟨(a, b), rfl, ba, bb⟩

theorem open_pairs {H : Type} {enc : TypeId × Value → H} {w : World} {spare : Nat → Bool} {held : Bool} {v : Value} {d : DataW H} {p : List MemPlace}
    (hv : ∃ A n c, v = .slice A n c) (h : DataW.Trod enc Try.prog w 0 spare held 48 v d p) :
    ∃ (A : Option Addr) (c : Nat) (l : List (Int × Int)), v = .slice A l.length c ∧ l.length ≤ c ∧ c ≤ maxLen ∧ (∀ t ∈ l, goodP t) ∧ Rd w w.heap.size A (l.flatMap pcells) :=
  open_rows pcells 2 goodP Try.underlying48 cells51 (by omega) (fun _ => rfl) row_pair hv h

end Go.Proofs.Ytfocenfgeolpfaa
