/- The walk: Step. -/
import Derived.Test.YtlmanafplbddoaaW7c
namespace Go.Proofs.Ytlmanafplbddoaa
open Go.RowKit

def stO : Value := .agg #[.func (.func 35) #[] #[]]
def stC : Value := .agg #[.func (.func 36) #[] #[]]
def stE : Array MapEntry := #[{ key := .int .u8 2, val := stO, born := 0 }, { key := .int .u8 3, val := stO, born := 1 }, { key := .int .u8 5, val := stC, born := 2 }]
/-- A look-up among the states. -/
theorem run_state {w : World} {g : Nat} (hb : w.heap[g]? = some (.map stE 3)) (k : Int) (v : Value) (n : Nat) (h : Instr.findNow (.int .u8) (.int .u8 k) stE.toList 0 = some (some (n, v))) :
    (Instr.lookup 68 (.map (some g)) (.int .u8 k) true).run Try.prog w = .ok (.tuple #[v, .bool true]) w := by
  simp [Instr.lookup, run_underlying map68, MapKept.run_getObj_map hb, MapKept.run_checkKey key24 (show MapKept.IsKey (.int .u8) (.int .u8 k) from rfl), MapKept.run_findKey key24 h, Result.andThen]
theorem run_state_no {w : World} {g : Nat} (hb : w.heap[g]? = some (.map stE 3)) (k : Int) (h : Instr.findNow (.int .u8) (.int .u8 k) stE.toList 0 = some none) :
    (Instr.lookup 68 (.map (some g)) (.int .u8 k) true).run Try.prog w = .ok (.tuple #[.agg #[.nilFunc], .bool false]) w := by
  simp [Instr.lookup, run_underlying map68, MapKept.run_getObj_map hb, MapKept.run_checkKey key24 (show MapKept.IsKey (.int .u8) (.int .u8 k) from rfl), MapKept.run_findKey key24 h, Result.andThen]

set_option maxRecDepth 100000 in
set_option maxHeartbeats 4000000 in
theorem step_bad (m : Mc) (hm : OkM m) (i : In) (w : World) (h : mayS m = false) : Calls Try.prog 24 #[mval m, ival i] w (GivesS w ((0, 0, 0), [])) := by
  have HM : Hid (OkM m) := hm
  have HF : Hid (mayS m = false) := h
  clear hm h
  go_enter Try.func24, Try.ntmps24
  go_wp2_with fail
  obtain ⟨-, -, hr, hz, hb⟩ := three_new w (.cells #[.int .u8 m.1, .int .i64 m.2.1, .int .i64 m.2.2] 26) (.cells #[.int .u8 i.1, .int .i64 i.2.1, .int .u8 i.2.2] 47) (.cells #[.int .u8 0, .int .i64 0, .int .i64 0] 26)
  generalize World.alloc (World.alloc (World.alloc w _) _) _ = w3 at hr hz hb ⊢
  refine (may_any m HM.out _).mono ?_
  rw [HF.out]
  rintro e w4 ⟨rfl, hb4⟩
  have hr4 : w4.heap[w.heap.size + 1 + 1]? = some (.cells #[.int .u8 0, .int .i64 0, .int .i64 0] 26 (0, 0)) := block_below hr hb4 (by omega)
  have q4 : w.heap.size + 1 + 1 < w4.heap.size := by have := hb4.size; omega
  obtain ⟨⟨b0, b1, b2⟩, f0⟩ := cells3 hr4
  have HB4 : Hid (Below w.heap.size w w4) := hb.trans (hb4.mono (by omega))
  have HR4 : Hid (w4.heap[w.heap.size + 1 + 1]? = some (.cells #[.int .u8 0, .int .i64 0, .int .i64 0] 26 (0, 0))) := hr4
  have HO4 : Hid (w4.ownsRow (w.heap.size + 1 + 1 + 1) 40 4 (.slice none 0 0) 0 (oscells [])) := World.ownsRow_nil _ _ _ _
  clear hr hz hb hb4 hr4
  go_wp2_with fail
  refine give_end (m := (0, 0, 0)) (l := []) HB4.out HR4.out HO4.out ?_ ?_ ?_ ?_ <;> rfl

end Go.Proofs.Ytlmanafplbddoaa
