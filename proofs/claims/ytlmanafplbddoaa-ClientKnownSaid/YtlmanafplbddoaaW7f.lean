/- The walk: Step, where no state is found. -/
import Derived.Test.YtlmanafplbddoaaW7e
namespace Go.Proofs.Ytlmanafplbddoaa
open Go.RowKit

set_option maxRecDepth 100000 in
set_option maxHeartbeats 4000000 in
theorem step_no (m : Mc) (hm : OkM m) (i : In) (w : World) (h : mayS m = true)
    (hl : ∀ (w' : World) (g : Nat), w'.heap[g]? = some (.map stE 3) → (Instr.lookup 68 (.map (some g)) (.int .u8 m.1) true).run Try.prog w' = .ok (.tuple #[.agg #[.nilFunc], .bool false]) w') :
    Calls Try.prog 24 #[mval m, ival i] w (GivesS w (m, [])) := by
  have HM : Hid (OkM m) := hm
  have HF : Hid (mayS m = true) := h
  have HL : Hid (∀ (w' : World) (g : Nat), w'.heap[g]? = some (.map stE 3) → (Instr.lookup 68 (.map (some g)) (.int .u8 m.1) true).run Try.prog w' = .ok (.tuple #[.agg #[.nilFunc], .bool false]) w') := hl
  clear hm h hl
  go_enter Try.func24, Try.ntmps24
  go_wp2_with fail
  obtain ⟨hm, hi, hr, hz, hb⟩ := three_new w (.cells #[.int .u8 m.1, .int .i64 m.2.1, .int .i64 m.2.2] 26) (.cells #[.int .u8 i.1, .int .i64 i.2.1, .int .u8 i.2.2] 47) (.cells #[.int .u8 0, .int .i64 0, .int .i64 0] 26)
  generalize World.alloc (World.alloc (World.alloc w _) _) _ = w3 at hm hi hr hz hb ⊢
  refine (may_any m HM.out _).mono ?_
  rw [HF.out]
  rintro e w4 ⟨rfl, hb4⟩
  have hm4 := block_below hm hb4 (by omega)
  have hi4 := block_below hi hb4 (by omega)
  have hr4 := block_below hr hb4 (by omega)
  have q0 : w.heap.size < w4.heap.size := by have := hb4.size; omega
  have q1 : w.heap.size + 1 < w4.heap.size := by have := hb4.size; omega
  have q2 : w.heap.size + 1 + 1 < w4.heap.size := by have := hb4.size; omega
  have HB4 : Hid (Below w.heap.size w w4) := hb.trans (hb4.mono (by omega))
  have HX4 : Hid (w4.heap[w.heap.size]? = some (.cells #[.int .u8 m.1, .int .i64 m.2.1, .int .i64 m.2.2] 26 (0, 0)) ∧ w4.heap[w.heap.size + 1]? = some (.cells #[.int .u8 i.1, .int .i64 i.2.1, .int .u8 i.2.2] 47 (0, 0)) ∧ w4.heap[w.heap.size + 1 + 1]? = some (.cells #[.int .u8 0, .int .i64 0, .int .i64 0] 26 (0, 0))) := ⟨hm4, hi4, hr4⟩
  obtain ⟨⟨a0, -, -⟩, -⟩ := cells3 hm4
  clear hm hi hr hz hb hb4 hm4 hi4 hr4
  go_upto_region 3 with fail
  go_cut [6, 7] (fun x y wx => Looked w4 wx x y .nilFunc false)
  case first =>
    have HK : Hid (∀ w', Below w4.heap.size w4 w' → w'.cell? ⟨w.heap.size, 0, none⟩ = some (.int .u8 m.1)) := fun w' hb => (hb.cell (p := ⟨w.heap.size, 0, none⟩) q0).trans a0
    have hkeep0 := HK.out w4.drew (below_drewN (Below.refl _ _) 1)
    have hlk := HL.out (World.drew (w4.alloc (.map stE 3))) w4.heap.size (heap_alloc_new _ _)
    have hlk2 := HL.out (World.drew ((w4.alloc (.map stE 3)).alloc (.cells #[.nilFunc] 66))) w4.heap.size (by
      show ((w4.alloc (.map stE 3)).alloc (.cells #[.nilFunc] 66)).heap[w4.heap.size]? = _
      rw [heap_alloc_old, heap_alloc_new]
      simp)
    have hlk3 := HL.out (World.drew ((w4.alloc (.cells #[.nilFunc] 66)).alloc (.map stE 3))) (w4.heap.size + 1) (by
      show ((w4.alloc (.cells #[.nilFunc] 66)).alloc (.map stE 3)).heap[w4.heap.size + 1]? = _
      have := heap_alloc_new (w4.alloc (.cells #[.nilFunc] 66)) (.map stE 3)
      rw [show w4.heap.size + 1 = (w4.alloc (.cells #[.nilFunc] 66)).heap.size by simp]
      exact this)
    simp only [stE, stO, stC] at hlk hlk2 hlk3
    go_region_held3 (fun w' => w'.cell? ⟨w.heap.size, 0, none⟩ = some (.int .u8 m.1)) (first | exact hkeep1 | exact hkeep0 | go_keep)
      ((go_at_call 31
        refine (states_any _).mono ?_
        rintro e w5 ⟨rfl, rfl⟩
        have q3 : w.heap.size < w4.heap.size + 1 := by omega))
    all_goals
      go_wp2_with fail
      go_meet
      first
        | exact ⟨w4.heap.size + 1, rfl, rfl, (two_new w4 _ _).2.1, (two_new w4 _ _).2.2.2.drew, by omega⟩
        | exact ⟨w4.heap.size, rfl, rfl, (two_new w4 _ _).1, (two_new w4 _ _).2.2.2.drew, Nat.le_refl _⟩
  case rest =>
    obtain ⟨g6, rfl, rfl, hg6, hbc, hge⟩ := hcut
    have zc : w4.heap.size ≤ wc.heap.size := hbc.size
    have q6 : g6 < wc.heap.size := (Array.getElem?_eq_some_iff.1 hg6).1
    clear a0
    obtain ⟨⟨a0, a1, a2⟩, -⟩ := cells3 (block_below HX4.out.1 hbc q0)
    obtain ⟨⟨b0, b1, b2⟩, f0⟩ := cells3 (block_below HX4.out.2.2 hbc q2)
    have hr := block_below HX4.out.2.2 hbc q2
    have HRc : Hid (wc.heap[w.heap.size + 1 + 1]? = some (.cells #[.int .u8 0, .int .i64 0, .int .i64 0] 26 (0, 0))) := hr
    have HBc : Hid (Below w.heap.size w wc) := HB4.out.trans (hbc.mono HB4.out.size)
    have p0 : w.heap.size < wc.heap.size := by omega
    have p1 : w.heap.size + 1 < wc.heap.size := by omega
    have p2 : w.heap.size + 1 + 1 < wc.heap.size := by omega
    clear hr hbc hg6
    go_wp2_with fail
    refine give_end (m := m) (l := []) HBc.out HRc.out (World.ownsRow_nil _ _ _ _) ?_ ?_ ?_ ?_ <;> rfl

end Go.Proofs.Ytlmanafplbddoaa
