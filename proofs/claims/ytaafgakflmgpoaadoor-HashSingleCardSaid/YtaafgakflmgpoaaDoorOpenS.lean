/- Arguments opened: bytes, states. -/
import Derived.Test.YtaafgakflmgpoaaDoorOpen
import Derived.Test.YtaafgakflmgpoaaDoorW20
namespace Go.Proofs.YtaafgakflmgpoaaDoor
open Go.ChangeShapes Go.WideShapes Go.ChangeAt Go.RowKit

theorem flat_u8 (l : List Int) : l.flatMap u8cell = u8s l := by
  induction l with
  | nil => rfl
  | cons a l ih =>
    rw [List.flatMap_cons, ih]
    rfl
def intAt : Value → Int
  | .int _ n => n
  | _ => 0
theorem arr_ints {H : Type} {enc : TypeId × Value → H} {P : Program} {w : World} {spare : Nat → Bool} {held : Bool} {fuel : Nat} {t e : TypeId} {n : Nat} {k : IntKind} {cs : List Value} {y : DataW H × List MemPlace}
    (ht : P.underlying t = some (.array n e)) (he : P.underlying e = some (.int k)) (hce : P.cellsOf e = 1) (hct : P.cellsOf t = n)
    (h : DataW.trod enc P w 0 spare held fuel t cs = some y) : ∃ l : List Int, l.length = n ∧ cs = l.map (Value.int k) ∧ ∀ b ∈ l, (Lit.int k b).wf = true := by
  obtain ⟨xs, m, _, _, hlen, hxl, hf⟩ := DataW.trod_array ht h
  rw [hct] at hlen
  have each : ∀ i (hi : i < cs.length), ∃ b, cs[i] = .int k b ∧ (Lit.int k b).wf = true := by
    intro i hi
    have h1 := hf i (by omega)
    rw [hce, Nat.mul_one, List.getElem?_eq_getElem (by omega)] at h1
    obtain ⟨b, hb, _, hw⟩ := DataW.trod_int he h1
    refine ⟨b, ?_, hw⟩
    have := congrArg (·[0]?) hb
    simpa [List.getElem?_take, List.getElem?_drop, hi] using this
  refine ⟨cs.map intAt, by simp [hlen], ?_, ?_⟩
  · apply List.ext_getElem
    · simp
    · intro i h1 h2
      obtain ⟨b, hb, _⟩ := each i h1
      simp [hb, intAt]
  · intro b hb
    obtain ⟨c, hc, rfl⟩ := List.mem_map.1 hb
    obtain ⟨i, hi, rfl⟩ := List.mem_iff_getElem.1 hc
    obtain ⟨b, hb, hw⟩ := each i hi
    rw [hb]; exact hw
theorem cells32 : Tryd.prog.cellsOf 32 = 73 := by kernel_rfl
theorem count32 : (Tryd.prog.fieldsOf 32).size = 3 := by kernel_rfl
theorem at32_0 : ((Tryd.prog.fieldsOf 32)[0]?).map (fun f => (f.type, f.offset)) = some (28, 0) := by kernel_rfl
theorem at32_1 : ((Tryd.prog.fieldsOf 32)[1]?).map (fun f => (f.type, f.offset)) = some (29, 8) := by kernel_rfl
theorem at32_2 : ((Tryd.prog.fieldsOf 32)[2]?).map (fun f => (f.type, f.offset)) = some (30, 9) := by kernel_rfl
theorem cells28 : Tryd.prog.cellsOf 28 = 8 := by kernel_rfl
theorem cells29 : Tryd.prog.cellsOf 29 = 1 := by kernel_rfl
theorem cells30 : Tryd.prog.cellsOf 30 = 64 := by kernel_rfl

theorem row_state {H : Type} {enc : TypeId × Value → H} {w : World} {spare : Nat → Bool} {held : Bool} (n : Nat) (cs : List Value) (y : DataW H × List MemPlace)
    (h : DataW.trod enc Tryd.prog w 0 spare held n 32 cs = some y) : ∃ s : St, cs = stc s ∧ Wf s := by
  obtain ⟨xs, m, _, _, hlen, hxl, hf⟩ := DataW.trod_struct struct32 h
  rw [cells32] at hlen
  rw [count32] at hxl
  have e0 : ∃ l : List Int, l.length = 8 ∧ cs.take 8 = l.map (Value.int .u32) := by
    have ha := at32_0
    cases hfi : (Tryd.prog.fieldsOf 32)[0]? with
    | none => rw [hfi] at ha; cases ha
    | some f =>
      rw [hfi] at ha
      simp only [Option.map_some, Option.some.injEq, Prod.mk.injEq] at ha
      have hg := hf 0 f hfi
      rw [ha.1, ha.2, cells28, List.getElem?_eq_getElem (by omega)] at hg
      obtain ⟨l, h1, h2, _⟩ := arr_ints Tryd.underlying28 Tryd.underlying27 cells27 cells28 hg
      exact ⟨l, h1, by simpa using h2⟩
  have e1 : ∃ n : Int, (cs.drop 8).take 1 = [.int .u64 n] ∧ 0 ≤ n ∧ n ≤ 18446744073709551615 := by
    have ha := at32_1
    cases hfi : (Tryd.prog.fieldsOf 32)[1]? with
    | none => rw [hfi] at ha; cases ha
    | some f =>
      rw [hfi] at ha
      simp only [Option.map_some, Option.some.injEq, Prod.mk.injEq] at ha
      have hg := hf 1 f hfi
      rw [ha.1, ha.2, cells29, List.getElem?_eq_getElem (by omega)] at hg
      obtain ⟨k, hk, _, hw⟩ := DataW.trod_int Tryd.underlying29 hg
      exact ⟨k, hk, bounds_u64 hw⟩
  have e2 : ∃ l : List Int, l.length = 64 ∧ (cs.drop 9).take 64 = l.map (Value.int .u8) ∧ ∀ b ∈ l, goodB b := by
    have ha := at32_2
    cases hfi : (Tryd.prog.fieldsOf 32)[2]? with
    | none => rw [hfi] at ha; cases ha
    | some f =>
      rw [hfi] at ha
      simp only [Option.map_some, Option.some.injEq, Prod.mk.injEq] at ha
      have hg := hf 2 f hfi
      rw [ha.1, ha.2, cells30, List.getElem?_eq_getElem (by omega)] at hg
      obtain ⟨l, h1, h2, h3⟩ := arr_ints Tryd.underlying30 Tryd.underlying5 cells5 cells30 hg
      exact ⟨l, h1, h2, fun b hb => bounds_u8 (h3 b hb)⟩
  obtain ⟨l0, hl0, h0⟩ := e0
  obtain ⟨k, h1, k0, k1⟩ := e1
  obtain ⟨l2, hl2, h2, hg2⟩ := e2
  obtain ⟨a, b, c, d, e, f, g, i, rfl⟩ : ∃ a b c d e f g i, l0 = [a, b, c, d, e, f, g, i] := by
    match l0, hl0 with
    | [a, b, c, d, e, f, g, i], _ => exact ⟨a, b, c, d, e, f, g, i, rfl⟩
  refine ⟨⟨⟨a, b, c, d, e, f, g, i⟩, k, l2⟩, ?_, ⟨hl2, good_of_mem hg2, k0, k1⟩⟩
  have e3 : cs = cs.take 8 ++ ((cs.drop 8).take 1 ++ (cs.drop 9).take 64) := by
    have e5 : (cs.drop 9).take 64 = cs.drop 9 := List.take_of_length_le (by rw [List.length_drop]; omega)
    have e6 : (cs.drop 8).take 1 ++ cs.drop 9 = cs.drop 8 := by
      have := List.take_append_drop 1 (cs.drop 8)
      rwa [List.drop_drop] at this
    rw [e5, e6, List.take_append_drop]
  rw [e3, h0, h1, h2]
  rfl

theorem open_state {H : Type} {enc : TypeId × Value → H} {w : World} {spare : Nat → Bool} {held : Bool} {r : Reach} {b0 : Nat} {v : Value} {d : DataW H} {p : List MemPlace}
    (hv : Value.okWide Tryd.prog w r b0 32 v) (h : DataW.Trod enc Tryd.prog w 0 spare held 32 v d p) : ∃ s : St, v = .agg (stc s).toArray ∧ Wf s := by
  obtain ⟨cs, rfl, _⟩ := okWide_struct struct32 hv
  obtain ⟨fuel, hf⟩ := h
  obtain ⟨s, ht, hg⟩ := row_state _ _ _ hf
  refine ⟨s, ?_, hg⟩
  have : cs = (stc s).toArray := by
    apply Array.toList_inj.1
    simpa [Value.cells] using ht
  rw [this]

theorem open_u8 {H : Type} {enc : TypeId × Value → H} {w : World} {spare : Nat → Bool} {held : Bool} {r : Reach} {b0 : Nat} {v : Value} {d : DataW H} {p : List MemPlace}
    (hv : Value.okWide Tryd.prog w r b0 5 v) (h : DataW.Trod enc Tryd.prog w 0 spare held 5 v d p) : ∃ n, v = .int .u8 n ∧ goodB n := by
  obtain ⟨n, rfl, _, _, hw⟩ := open_int Tryd.underlying5 hv h
  exact ⟨n, rfl, bounds_u8 hw⟩

end Go.Proofs.YtaafgakflmgpoaaDoor
