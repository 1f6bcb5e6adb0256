/- The walk: open. -/
import Derived.Test.YtlmanafplbddoaaW7a
namespace Go.Proofs.Ytlmanafplbddoaa
open Go.RowKit

/-- Where a function hands on what another made: its machine stored into its own result at block 2 of three. -/
theorem give_end {w w4 : World} {fn : Func} {tmps : Array Value} {m : Mc} {l : List Out} {n : Nat} {v4 : Value} (hb : Below w.heap.size w w4) (hr : w4.heap[w.heap.size + 1 + 1]? = some (.cells #[.int .u8 0, .int .i64 0, .int .i64 0] 26 (0, 0)))
    (ho : w4.ownsRow (w.heap.size + 1 + 1 + 1) 40 4 v4 n (oscells l)) (hf : fn.results = #[.cell 4 26, .tmp 5]) (hl : l.length = n) (h4 : tmps.getD 4 undef = .pointer (some ⟨w.heap.size + 1 + 1, 0, none⟩)) (h5 : tmps.getD 5 undef = v4) :
    bodyPost Try.prog fn (GivesS w (m, l)) .ret { tmps := tmps, defers := [] } (((w4.setCell ⟨w.heap.size + 1 + 1, 0, none⟩ (.int .u8 m.1)).setCell ⟨w.heap.size + 1 + 1, 1, none⟩ (.int .i64 m.2.1)).setCell ⟨w.heap.size + 1 + 1, 2, none⟩ (.int .i64 m.2.2)) := by
  subst h5
  refine bodyPost_ret (results_row_tmp hf _ _ (w.heap.size + 1 + 1) 26 (mcells m) (0, 0) _ h4 (block_store3 _ _ _ hr) Try.underlying26 rfl size26) rfl ?_
  refine ⟨_, rfl, ?_, ((hb.setCell (by simp; omega) _).setCell (by simp; omega) _).setCell (by simp; omega) _⟩
  rw [hl]
  refine own_base (own_heap ho fun b hbb => ?_) (by omega)
  have := (ho.lt b hbb).1
  rw [Below.heap_setCell _ _ _ _ (by simp; omega), Below.heap_setCell _ _ _ _ (by simp; omega), Below.heap_setCell _ _ _ _ (by simp; omega)]

set_option maxRecDepth 100000 in
set_option maxHeartbeats 4000000 in
theorem open_any (m : Mc) (i : In) (w : World) (hw : 0 ≤ m.2.1 ∧ m.2.1 ≤ 100000) : Calls Try.prog 35 #[mval m, ival i] w (GivesS w (openS m i)) := by
  unfold openS
  by_cases h6 : i.1 = 6
  · rw [if_pos h6]
    have d6 : (i.1 == 6) = true := by simpa using h6
    clear h6
    go_enter Try.func35, Try.ntmps35
    go_wp2_with fail
    have hown : ((((w.alloc (.cells #[.int .u8 m.1, .int .i64 m.2.1, .int .i64 m.2.2] 26)).alloc (.cells #[.int .u8 i.1, .int .i64 i.2.1, .int .u8 i.2.2] 47)).alloc (.cells #[.int .u8 0, .int .i64 0, .int .i64 0] 26)).alloc (.cells #[.int .u8 6, .int .i64 0, .int .u8 0, .int .i64 0] 40)).ownsRow (w.heap.size + 1 + 1 + 1) 40 4 (.slice (some ⟨w.heap.size + 1 + 1 + 1, 0, none⟩) 1 1) 1 (oscells [(6, 0, 0, 0)]) :=
      own_new (w := World.alloc _ _) [(6, 0, 0, 0)] 1 rfl (by simp) rfl (by simp [maxLen]) (by simp)
    obtain ⟨-, -, hr0, hz0, hb0⟩ := three_new w (.cells #[.int .u8 m.1, .int .i64 m.2.1, .int .i64 m.2.2] 26) (.cells #[.int .u8 i.1, .int .i64 i.2.1, .int .u8 i.2.2] 47) (.cells #[.int .u8 0, .int .i64 0, .int .i64 0] 26)
    have hal := (Below.refl (((w.alloc (.cells #[.int .u8 m.1, .int .i64 m.2.1, .int .i64 m.2.2] 26)).alloc (.cells #[.int .u8 i.1, .int .i64 i.2.1, .int .u8 i.2.2] 47)).alloc (.cells #[.int .u8 0, .int .i64 0, .int .i64 0] 26)).heap.size _).alloc (Nat.le_refl _) (.cells #[.int .u8 6, .int .i64 0, .int .u8 0, .int .i64 0] 40)
    have hr := block_below hr0 hal (by omega)
    have hb := hb0.trans (hal.mono (by omega))
    have hz := hal.size
    generalize World.alloc (World.alloc (World.alloc (World.alloc w _) _) _) _ = w3 at hr hb hz hown ⊢
    refine (over_any (base := w.heap.size + 1 + 1 + 1) m _ [(6, 0, 0, 0)] _ hown (by simp) (by omega)).mono ?_
    rintro e w4 ⟨v4, rfl, hown4, hb4⟩
    have hr4 : w4.heap[w.heap.size + 1 + 1]? = some (.cells #[.int .u8 0, .int .i64 0, .int .i64 0] 26 (0, 0)) := block_below hr hb4 (by omega)
    have q4 : w.heap.size + 1 + 1 < w4.heap.size := by have := hb4.size; omega
    obtain ⟨⟨b0, b1, b2⟩, f0⟩ := cells3 hr4
    have HB4 : Hid (Below w.heap.size w w4) := hb.trans (hb4.mono (by omega))
    have HR4 : Hid (w4.heap[w.heap.size + 1 + 1]? = some (.cells #[.int .u8 0, .int .i64 0, .int .i64 0] 26 (0, 0))) := hr4
    have HO4 : Hid (w4.ownsRow (w.heap.size + 1 + 1 + 1) 40 4 v4 2 (oscells [(6, 0, 0, 0), (7, 0, 0, 0)])) := hown4
    clear hr hz hb hr0 hz0 hb0 hal hown hown4 hb4 hr4
    go_wp2_with fail
    exact over_end2 HB4.out HR4.out HO4.out rfl rfl rfl rfl
  · rw [if_neg h6]
    have d6 : (i.1 == 6) = false := by simpa using h6
    clear h6
    by_cases h5 : i.1 = 5
    · rw [if_pos h5]
      have d5 : (i.1 == 5) = true := by simpa using h5
      clear h5
      go_enter Try.func35, Try.ntmps35
      go_wp2_with fail
      obtain ⟨-, -, hr, hz, hb⟩ := three_new w (.cells #[.int .u8 m.1, .int .i64 m.2.1, .int .i64 m.2.2] 26) (.cells #[.int .u8 i.1, .int .i64 i.2.1, .int .u8 i.2.2] 47) (.cells #[.int .u8 0, .int .i64 0, .int .i64 0] 26)
      generalize World.alloc (World.alloc (World.alloc w _) _) _ = w3 at hr hz hb ⊢
      refine (fired_any m i.2.2 _ hw).mono ?_
      generalize hrr : firedS m i.2.2 = r
      have HRR : Hid (firedS m i.2.2 = r) := hrr
      clear hrr
      rintro e w4 ⟨v4, rfl, hown4, hb4⟩
      have hr4 : w4.heap[w.heap.size + 1 + 1]? = some (.cells #[.int .u8 0, .int .i64 0, .int .i64 0] 26 (0, 0)) := block_below hr hb4 (by omega)
      have q4 : w.heap.size + 1 + 1 < w4.heap.size := by have := hb4.size; omega
      obtain ⟨⟨b0, b1, b2⟩, f0⟩ := cells3 hr4
      have HB4 : Hid (Below w.heap.size w w4) := hb.trans (hb4.mono (by omega))
      have HR4 : Hid (w4.heap[w.heap.size + 1 + 1]? = some (.cells #[.int .u8 0, .int .i64 0, .int .i64 0] 26 (0, 0))) := hr4
      have HO4 : Hid (w4.ownsRow (w.heap.size + 1 + 1 + 1) 40 4 v4 r.2.length (oscells r.2)) := own_base hown4 (by omega)
      clear hr hz hb hown4 hb4 hr4
      go_wp2_with fail
      rw [HRR.out]
      refine give_end (m := r.1) (l := r.2) HB4.out HR4.out HO4.out ?_ ?_ ?_ ?_ <;> rfl
    · rw [if_neg h5]
      have d5 : (i.1 == 5) = false := by simpa using h5
      clear h5
      by_cases h2 : i.1 = 2
      · rw [if_pos h2]
        have d2 : (i.1 == 2) = true := by simpa using h2
        clear h2
        go_enter Try.func35, Try.ntmps35
        go_wp2_with fail
        obtain ⟨-, -, hr, hz, hb⟩ := three_new w (.cells #[.int .u8 m.1, .int .i64 m.2.1, .int .i64 m.2.2] 26) (.cells #[.int .u8 i.1, .int .i64 i.2.1, .int .u8 i.2.2] 47) (.cells #[.int .u8 0, .int .i64 0, .int .i64 0] 26)
        generalize World.alloc (World.alloc (World.alloc w _) _) _ = w3 at hr hz hb ⊢
        refine (response_any m i.2.1 _).mono ?_
        generalize hrr : responseS m i.2.1 = r
        have HRR : Hid (responseS m i.2.1 = r) := hrr
        clear hrr
        rintro e w4 ⟨v4, rfl, hown4, hb4⟩
        have hr4 : w4.heap[w.heap.size + 1 + 1]? = some (.cells #[.int .u8 0, .int .i64 0, .int .i64 0] 26 (0, 0)) := block_below hr hb4 (by omega)
        have q4 : w.heap.size + 1 + 1 < w4.heap.size := by have := hb4.size; omega
        obtain ⟨⟨b0, b1, b2⟩, f0⟩ := cells3 hr4
        have HB4 : Hid (Below w.heap.size w w4) := hb.trans (hb4.mono (by omega))
        have HR4 : Hid (w4.heap[w.heap.size + 1 + 1]? = some (.cells #[.int .u8 0, .int .i64 0, .int .i64 0] 26 (0, 0))) := hr4
        have HO4 : Hid (w4.ownsRow (w.heap.size + 1 + 1 + 1) 40 4 v4 r.2.length (oscells r.2)) := own_base hown4 (by omega)
        clear hr hz hb hown4 hb4 hr4
        go_wp2_with fail
        rw [HRR.out]
        refine give_end (m := r.1) (l := r.2) HB4.out HR4.out HO4.out ?_ ?_ ?_ ?_ <;> rfl
      · rw [if_neg h2]
        have d2 : (i.1 == 2) = false := by simpa using h2
        clear h2
        go_enter Try.func35, Try.ntmps35
        go_wp2
        go_returns
        exact ⟨_, rfl, World.ownsRow_nil _ _ _ _, (((Below.refl _ _).alloc (Nat.le_refl _) _).alloc (by simp) _).alloc (by simp; omega) _⟩

end Go.Proofs.Ytlmanafplbddoaa
