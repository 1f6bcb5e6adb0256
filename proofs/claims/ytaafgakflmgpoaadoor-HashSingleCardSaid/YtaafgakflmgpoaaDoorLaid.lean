/- The variables that the program's text lays: what the row's condition gives, and a world that meets it. -/
import Derived.Test.YtaafgakflmgpoaaDoorRows
import Derived.Test.YtaafgakflmgpoaaDoorOpenS
import Derived.Lib.LaidTab
import Derived.Lib.LaidIn
import Derived.LaidLaws
import Derived.RowKit
namespace Go.Proofs.YtaafgakflmgpoaaDoor
open Go.ChangeShapes Go.WideShapes Go.RowKit

abbrev laidL : List (String × DataW Unit) := [("dialtone/hash.first", Rows.laid_dialtone_hash_first), ("dialtone/hash.keys", Rows.laid_dialtone_hash_keys)]
theorem gFirst : Tryd.prog.globalNamed "dialtone/hash.first" = some 0 := by kernel_rfl
theorem gKeys : Tryd.prog.globalNamed "dialtone/hash.keys" = some 1 := by kernel_rfl
theorem tFirst : (Tryd.prog.globals[0]?).map (·.type) = some 28 := by kernel_rfl
theorem tKeys : (Tryd.prog.globals[1]?).map (·.type) = some 50 := by kernel_rfl
theorem cells50 : Tryd.prog.cellsOf 50 = 64 := by kernel_rfl

theorem block_of_var {W : World} {name : String} {g : Nat} {cs : Array Value} (hg : Tryd.prog.globalNamed name = some g) (hv : W.var? Tryd.prog name = some cs) (h : ∃ c t, W.heap[g]? = some (.cells c t (0, 0))) : ∃ t, W.heap[g]? = some (.cells cs t (0, 0)) := by
  obtain ⟨c, t, hc⟩ := h
  unfold World.var? at hv
  rw [hg] at hv
  simp only [Option.bind_some, hc, Option.some.injEq] at hv
  subst hv
  exact ⟨t, hc⟩
theorem laid_of_met {W : World} (h : laidMet Tryd.prog laidL W) : Laid W := by
  obtain ⟨ps, ⟨g, t, cs, fuel, p, q, hg, ht, hvar, hd, hrest, hps⟩, hnd, hrow⟩ := h
  obtain ⟨g2, t2, cs2, fuel2, p2, q2, hg2, ht2, hvar2, hd2, hrest2, hps2⟩ := hrest
  obtain rfl := Option.some.inj (gFirst.symm.trans hg)
  obtain rfl := Option.some.inj (tFirst.symm.trans ht)
  obtain rfl := Option.some.inj (gKeys.symm.trans hg2)
  obtain rfl := Option.some.inj (tKeys.symm.trans ht2)
  have c1 : cs.toList = firstV.list.map fun z => Value.int .u32 z := Lib.cells_of_tab (zs := firstV.list) Tryd.underlying28 Tryd.underlying27 cells27 cells28 hd
  have c2 : cs2.toList = keysL.map fun z => Value.int .u32 z := Lib.cells_of_tab (zs := keysL) Tryd.underlying50 Tryd.underlying27 cells27 cells50 hd2
  have z1 : cs.size = 8 := by rw [← Array.length_toList, c1]; rfl
  have z2 : cs2.size = 64 := by rw [← Array.length_toList, c2]; rfl
  have m1 : MemPlace.cell 0 0 ∈ ps := by
    rw [hps]
    exact List.mem_append_left _ (List.mem_append_left _ (MemPlace.mem_row.2 ⟨0, by omega, rfl⟩))
  have m2 : MemPlace.cell 1 0 ∈ ps := by
    rw [hps, hps2]
    exact List.mem_append_right _ (List.mem_append_left _ (List.mem_append_left _ (MemPlace.mem_row.2 ⟨0, by omega, rfl⟩)))
  obtain ⟨u1, b1⟩ := block_of_var gFirst hvar (hrow 0 0 m1).1
  obtain ⟨u2, b2⟩ := block_of_var gKeys hvar2 (hrow 1 0 m2).1
  have e1 : cs = v8c firstV := Array.toList_inj.1 (c1.trans rfl)
  have e2 : cs2 = (u32s keysL).toArray := Array.toList_inj.1 (c2.trans rfl)
  exact ⟨⟨u1, by rw [b1, e1]⟩, ⟨u2, by rw [b2, e2]⟩⟩

def withCells (cs : Array Value) : Obj → Obj
  | .cells _ t frozen => .cells cs t frozen
  | o => o
/-- A world in which the variables hold what the text lays. -/
noncomputable def laidWorld (os : Os) : World :=
  { World.holding Tryd.prog os ⟨#[], #[], []⟩ with heap := ((World.holding Tryd.prog os ⟨#[], #[], []⟩).heap.modify 0 (withCells (v8c firstV))).modify 1 (withCells (u32s keysL).toArray) }
theorem laid_world (os : Os) (args : Array Value) : laidMet Tryd.prog laidL ((laidWorld os).forCall (fun _ _ => 0) ⟨#[], args, []⟩).memory :=
  laidMet_of_run' 8 (by kernel_rfl) (by kernel_rfl)

end Go.Proofs.YtaafgakflmgpoaaDoor
