/- The walk: fired. -/
import Derived.Test.YtlmanafplbddoaaW5
namespace Go.Proofs.Ytlmanafplbddoaa
open Go.RowKit

/-- Two new blocks. -/
theorem two_new (w : World) (a b : Obj) :
    ((w.alloc a).alloc b).heap[w.heap.size]? = some a ∧ ((w.alloc a).alloc b).heap[w.heap.size + 1]? = some b ∧ ((w.alloc a).alloc b).heap.size = w.heap.size + 1 + 1 ∧ Below w.heap.size w ((w.alloc a).alloc b) := by
  refine ⟨?_, ?_, by simp, ((Below.refl _ _).alloc (Nat.le_refl _) _).alloc (by simp) _⟩
  · rw [heap_alloc_old, heap_alloc_new]; simp
  · have := heap_alloc_new (w.alloc a) b
    simpa using this

set_option maxRecDepth 100000 in
set_option maxHeartbeats 4000000 in
theorem fired_e (m : Mc) (w : World) (x : Int) (hw : 0 ≤ m.2.1 ∧ m.2.1 ≤ 100000) (hx : x = if m.1 = 3 then 4000 else longerS m.2.1) :
    Calls Try.prog 38 #[mval m, .int .u8 5] w (GivesS w ((m.1, x, m.2.2), [(1, 0, 0, 0), (4, 0, 5, x)])) := by
  obtain ⟨hw0, hw1⟩ := hw
  by_cases h3 : m.1 = 3
  · have d3 : (m.1 == 3) = true := by simpa using h3
    rw [if_pos h3] at hx
    subst hx
    clear h3
    go_enter Try.func38, Try.ntmps38
    go_upto_region 6 with (go_at_call 29; refine (longer_any _ _ hw0 hw1).mono ?_; rintro e w1 ⟨rfl, rfl⟩)
    obtain ⟨hm, hr, hz, hb⟩ := two_new w (.cells #[.int .u8 m.1, .int .i64 4000, .int .i64 m.2.2] 26) (.cells #[.int .u8 0, .int .i64 0, .int .i64 0] 26)
    generalize World.alloc (World.alloc w _) _ = w1 at hm hr hz hb ⊢
    have HR : Hid (w1.heap[w.heap.size + 1]? = some (.cells #[.int .u8 0, .int .i64 0, .int .i64 0] 26 (0, 0))) := hr
    have HB : Hid (Below w.heap.size w w1) := hb
    have q0 : w.heap.size < w1.heap.size := by omega
    have q1 : w.heap.size + 1 < w1.heap.size := by omega
    have HK : Hid (∀ w', Below w1.heap.size w1 w' → w'.cell? ⟨w.heap.size, 0, none⟩ = some (.int .u8 m.1) ∧ w'.cell? ⟨w.heap.size, 1, none⟩ = some (.int .i64 4000) ∧ w'.cell? ⟨w.heap.size, 2, none⟩ = some (.int .i64 m.2.2)) := fun w' hb => (cells3 (block_below hm hb q0)).1
    have hkeep0 := HK.out w1.drew (below_drewN (Below.refl _ _) 1)
    clear hm hr hz hb
    go_region_held3 (fun w' => w'.cell? ⟨w.heap.size, 0, none⟩ = some (.int .u8 m.1) ∧ w'.cell? ⟨w.heap.size, 1, none⟩ = some (.int .i64 4000) ∧ w'.cell? ⟨w.heap.size, 2, none⟩ = some (.int .i64 m.2.2))
      (first | exact hkeep1 | exact hkeep0 | go_keep)
      ((go_at_call 26
        refine (timer_any _ _ _).mono ?_
        rintro e w2 ⟨rfl, hb2⟩
        have HX2 : Hid (Below w1.heap.size w1 w2) := (below_drewN (Below.refl _ _) 1).trans (hb2.mono (Nat.le_refl _))
        have hkeep1 := HK.out w2 HX2.out
        obtain ⟨⟨b0, b1, b2⟩, f0⟩ := cells3 (block_below HR.out HX2.out q1)
        have q3 : w.heap.size + 1 < w2.heap.size := Nat.lt_of_lt_of_le q1 HX2.out.size
        have q4 : w.heap.size < w2.heap.size := Nat.lt_of_lt_of_le q0 HX2.out.size))
    all_goals
      go_wp2_with fail
      refine bodyPost_ret (results_row_tmp rfl _ _ (w.heap.size + 1) 26 (mcells (m.1, 4000, m.2.2)) (0, 0) _ rfl ?_ Try.underlying26 rfl size26) rfl ?_
      · show (World.alloc _ _).heap[_]? = _
        rw [heap_alloc_old]
        · exact block_store3 _ _ _ (block_below HR.out HX2.out q1)
        · simp; omega
      · refine ⟨_, rfl, own_new (w := World.setCell _ _ _) [(1, 0, 0, 0), (4, 0, 5, 4000)] 2 rfl (by simp) rfl (by simp [maxLen]) (by simp; omega), ?_⟩
        have hbx : Below w.heap.size w w2 := HB.out.trans (HX2.out.mono (by omega))
        exact (((hbx.setCell (by simp) _).setCell (by simp) _).setCell (by simp) _).alloc (by simp; omega) _
  · have d3 : (m.1 == 3) = false := by simpa using h3
    rw [if_neg h3] at hx
    have HX : Hid (x = longerS m.2.1) := hx
    clear h3 hx
    go_enter Try.func38, Try.ntmps38
    go_upto_region 6 with (go_at_call 29; refine (longer_any _ _ hw0 hw1).mono ?_; rw [← HX.out]; rintro e w1 ⟨rfl, rfl⟩)
    obtain ⟨hm, hr, hz, hb⟩ := two_new w (.cells #[.int .u8 m.1, .int .i64 x, .int .i64 m.2.2] 26) (.cells #[.int .u8 0, .int .i64 0, .int .i64 0] 26)
    generalize World.alloc (World.alloc w _) _ = w1 at hm hr hz hb ⊢
    have HR : Hid (w1.heap[w.heap.size + 1]? = some (.cells #[.int .u8 0, .int .i64 0, .int .i64 0] 26 (0, 0))) := hr
    have HB : Hid (Below w.heap.size w w1) := hb
    have q0 : w.heap.size < w1.heap.size := by omega
    have q1 : w.heap.size + 1 < w1.heap.size := by omega
    have HK : Hid (∀ w', Below w1.heap.size w1 w' → w'.cell? ⟨w.heap.size, 0, none⟩ = some (.int .u8 m.1) ∧ w'.cell? ⟨w.heap.size, 1, none⟩ = some (.int .i64 x) ∧ w'.cell? ⟨w.heap.size, 2, none⟩ = some (.int .i64 m.2.2)) := fun w' hb => (cells3 (block_below hm hb q0)).1
    have hkeep0 := HK.out w1.drew (below_drewN (Below.refl _ _) 1)
    clear hm hr hz hb
    go_region_held3 (fun w' => w'.cell? ⟨w.heap.size, 0, none⟩ = some (.int .u8 m.1) ∧ w'.cell? ⟨w.heap.size, 1, none⟩ = some (.int .i64 x) ∧ w'.cell? ⟨w.heap.size, 2, none⟩ = some (.int .i64 m.2.2))
      (first | exact hkeep1 | exact hkeep0 | go_keep)
      ((go_at_call 26
        refine (timer_any _ _ _).mono ?_
        rintro e w2 ⟨rfl, hb2⟩
        have HX2 : Hid (Below w1.heap.size w1 w2) := (below_drewN (Below.refl _ _) 1).trans (hb2.mono (Nat.le_refl _))
        have hkeep1 := HK.out w2 HX2.out
        obtain ⟨⟨b0, b1, b2⟩, f0⟩ := cells3 (block_below HR.out HX2.out q1)
        have q3 : w.heap.size + 1 < w2.heap.size := Nat.lt_of_lt_of_le q1 HX2.out.size
        have q4 : w.heap.size < w2.heap.size := Nat.lt_of_lt_of_le q0 HX2.out.size))
    all_goals
      go_wp2_with fail
      refine bodyPost_ret (results_row_tmp rfl _ _ (w.heap.size + 1) 26 (mcells (m.1, x, m.2.2)) (0, 0) _ rfl ?_ Try.underlying26 rfl size26) rfl ?_
      · show (World.alloc _ _).heap[_]? = _
        rw [heap_alloc_old]
        · exact block_store3 _ _ _ (block_below HR.out HX2.out q1)
        · simp; omega
      · refine ⟨_, rfl, own_new (w := World.setCell _ _ _) [(1, 0, 0, 0), (4, 0, 5, x)] 2 rfl (by simp) rfl (by simp [maxLen]) (by simp; omega), ?_⟩
        have hbx : Below w.heap.size w w2 := HB.out.trans (HX2.out.mono (by omega))
        exact (((hbx.setCell (by simp) _).setCell (by simp) _).setCell (by simp) _).alloc (by simp; omega) _

/-- Where a function hands on what over made: its machine stored into its own result. -/
theorem over_end {w w4 : World} {fn : Func} {tmps : Array Value} {c : Int} {l : List Out} {n : Nat} {v4 : Value} (hb : Below w.heap.size w w4) (hr : w4.heap[w.heap.size + 1]? = some (.cells #[.int .u8 0, .int .i64 0, .int .i64 0] 26 (0, 0)))
    (ho : w4.ownsRow (w.heap.size + 1 + 1) 40 4 v4 n (oscells l)) (hf : fn.results = #[.cell 4 26, .tmp 5]) (hl : l.length = n) (h4 : tmps.getD 4 undef = .pointer (some ⟨w.heap.size + 1, 0, none⟩)) (h5 : tmps.getD 5 undef = v4) :
    bodyPost Try.prog fn (GivesS w ((7, 0, c), l)) .ret { tmps := tmps, defers := [] } (((w4.setCell ⟨w.heap.size + 1, 0, none⟩ (.int .u8 7)).setCell ⟨w.heap.size + 1, 1, none⟩ (.int .i64 0)).setCell ⟨w.heap.size + 1, 2, none⟩ (.int .i64 c)) := by
  subst h5
  refine bodyPost_ret (results_row_tmp hf _ _ (w.heap.size + 1) 26 (mcells (7, 0, c)) (0, 0) _ h4 (block_store3 _ _ _ hr) Try.underlying26 rfl size26) rfl ?_
  refine ⟨_, rfl, ?_, ((hb.setCell (by simp) _).setCell (by simp) _).setCell (by simp) _⟩
  rw [hl]
  refine own_base (own_heap ho fun b hbb => ?_) (by omega)
  have := (ho.lt b hbb).1
  rw [Below.heap_setCell _ _ _ _ (by simp; omega), Below.heap_setCell _ _ _ _ (by simp; omega), Below.heap_setCell _ _ _ _ (by simp; omega)]

set_option maxRecDepth 100000 in
set_option maxHeartbeats 4000000 in
theorem fired_any (m : Mc) (t : Int) (w : World) (hw : 0 ≤ m.2.1 ∧ m.2.1 ≤ 100000) :
    Calls Try.prog 38 #[mval m, .int .u8 t] w (GivesS w (firedS m t)) := by
  unfold firedS
  by_cases h5 : t = 5
  · rw [if_pos h5]
    subst h5
    exact fired_e m w _ hw rfl
  · rw [if_neg h5]
    have d5 : (t == 5) = false := by simpa using h5
    by_cases h6 : t = 6
    · rw [if_pos h6]
      subst h6
      go_enter Try.func38, Try.ntmps38
      go_wp2_with fail
      obtain ⟨-, hr, -, hz, hb⟩ := three_new w (.cells #[.int .u8 m.1, .int .i64 m.2.1, .int .i64 m.2.2] 26) (.cells #[.int .u8 0, .int .i64 0, .int .i64 0] 26) (.cells #[.int .u8 5, .int .i64 0, .int .u8 0, .int .i64 0] 40)
      have hown : (((w.alloc (.cells #[.int .u8 m.1, .int .i64 m.2.1, .int .i64 m.2.2] 26)).alloc (.cells #[.int .u8 0, .int .i64 0, .int .i64 0] 26)).alloc (.cells #[.int .u8 5, .int .i64 0, .int .u8 0, .int .i64 0] 40)).ownsRow (w.heap.size + 1 + 1) 40 4 (.slice (some ⟨w.heap.size + 1 + 1, 0, none⟩) 1 1) 1 (oscells [(5, 0, 0, 0)]) :=
        own_new (w := World.alloc _ _) [(5, 0, 0, 0)] 1 rfl (by simp) rfl (by simp [maxLen]) (by simp)
      generalize World.alloc (World.alloc (World.alloc w _) _) _ = w3 at hr hz hb hown ⊢
      refine (over_any (base := w.heap.size + 1 + 1) m _ [(5, 0, 0, 0)] _ hown (by simp) (by omega)).mono ?_
      rintro e w4 ⟨v4, rfl, hown4, hb4⟩
      have hr4 : w4.heap[w.heap.size + 1]? = some (.cells #[.int .u8 0, .int .i64 0, .int .i64 0] 26 (0, 0)) := block_below hr hb4 (by omega)
      have q4 : w.heap.size + 1 < w4.heap.size := by have := hb4.size; omega
      obtain ⟨⟨b0, b1, b2⟩, f0⟩ := cells3 hr4
      have HB4 : Hid (Below w.heap.size w w4) := hb.trans (hb4.mono (by omega))
      have HR4 : Hid (w4.heap[w.heap.size + 1]? = some (.cells #[.int .u8 0, .int .i64 0, .int .i64 0] 26 (0, 0))) := hr4
      have HO4 : Hid (w4.ownsRow (w.heap.size + 1 + 1) 40 4 v4 2 (oscells [(5, 0, 0, 0), (7, 0, 0, 0)])) := hown4
      clear hr hz hb hown hown4 hb4 hr4
      go_wp2_with fail
      exact over_end HB4.out HR4.out HO4.out rfl rfl rfl rfl
    · rw [if_neg h6]
      have d6 : (t == 6) = false := by simpa using h6
      clear h5 h6
      go_enter Try.func38, Try.ntmps38
      go_wp2
      go_returns
      exact ⟨_, rfl, World.ownsRow_nil _ _ _ _, ((Below.refl _ _).alloc (Nat.le_refl _) _).alloc (by simp) _⟩

end Go.Proofs.Ytlmanafplbddoaa
