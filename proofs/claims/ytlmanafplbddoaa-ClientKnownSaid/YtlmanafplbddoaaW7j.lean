/- The walk: Step of the reference. -/
import Derived.Test.YtlmanafplbddoaaW7i
namespace Go.Proofs.Ytlmanafplbddoaa
open Go.RowKit

set_option maxRecDepth 100000 in
set_option maxHeartbeats 4000000 in
theorem rstep_bad (m : Mc) (i : In) (w : World) (h : mayS m = false) : Calls Try.prog 27 #[mval m, ival i] w (GivesS w ((0, 0, 0), [])) := by
  have HF : Hid (mayS m = false) := h
  clear h
  go_enter Try.func27, Try.ntmps27
  go_wp2_with fail
  obtain ⟨-, -, hr, hz, hb⟩ := three_new w (.cells #[.int .u8 m.1, .int .i64 m.2.1, .int .i64 m.2.2] 26) (.cells #[.int .u8 i.1, .int .i64 i.2.1, .int .u8 i.2.2] 47) (.cells #[.int .u8 0, .int .i64 0, .int .i64 0] 26)
  generalize World.alloc (World.alloc (World.alloc w _) _) _ = w3 at hr hz hb ⊢
  refine (rmay_any m _).mono ?_
  rw [HF.out]
  rintro e w4 ⟨rfl, hb4⟩
  have hr4 : w4.heap[w.heap.size + 1 + 1]? = some (.cells #[.int .u8 0, .int .i64 0, .int .i64 0] 26 (0, 0)) := block_below hr hb4 (by omega)
  have q4 : w.heap.size + 1 + 1 < w4.heap.size := by have := hb4.size; omega
  obtain ⟨⟨b0, b1, b2⟩, f0⟩ := cells3 hr4
  have HB4 : Hid (Below w.heap.size w w4) := hb.trans (hb4.mono (by omega))
  have HR4 : Hid (w4.heap[w.heap.size + 1 + 1]? = some (.cells #[.int .u8 0, .int .i64 0, .int .i64 0] 26 (0, 0))) := hr4
  have HO4 : Hid (w4.ownsRow (w.heap.size + 1 + 1 + 1) 40 4 (.slice none 0 0) 0 (oscells [])) := World.ownsRow_nil _ _ _ _
  clear hr hz hb hb4 hr4
  go_wp2_with fail
  refine give_end (m := (0, 0, 0)) (l := []) HB4.out HR4.out HO4.out ?_ ?_ ?_ ?_ <;> rfl

set_option maxRecDepth 100000 in
set_option maxHeartbeats 4000000 in
theorem rstep_open (m : Mc) (i : In) (w : World) (h : mayS m = true) (h1 : m.1 = 2 ∨ m.1 = 3) : Calls Try.prog 27 #[mval m, ival i] w (GivesS w (openR m i)) := by
  have HF : Hid (mayS m = true) := h
  have H1 : Hid (m.1 = 2 ∨ m.1 = 3) := h1
  obtain ⟨r, hr⟩ : ∃ r, r = openR m i := ⟨_, rfl⟩
  have HC : Hid (∀ w', Calls Try.prog 32 #[mval m, ival i] w' (GivesS w' r)) := by rw [hr]; exact fun w' => ropen_any m i w' h h1
  rw [← hr]
  have c : ((m.1 == 2) = true) ∨ ((m.1 == 2) = false ∧ (m.1 == 3) = true) := by
    rcases h1 with h1 | h1 <;> simp [h1]
  clear h h1 hr
  rcases c with d2 | ⟨d2, d3⟩
  all_goals
    go_enter Try.func27, Try.ntmps27
    go_wp2_with fail
    obtain ⟨hm, hi, hr, hz, hb⟩ := three_new w (.cells #[.int .u8 m.1, .int .i64 m.2.1, .int .i64 m.2.2] 26) (.cells #[.int .u8 i.1, .int .i64 i.2.1, .int .u8 i.2.2] 47) (.cells #[.int .u8 0, .int .i64 0, .int .i64 0] 26)
    generalize World.alloc (World.alloc (World.alloc w _) _) _ = w3 at hm hi hr hz hb ⊢
    refine (rmay_any m _).mono ?_
    rw [HF.out]
    rintro e w4 ⟨rfl, hb4⟩
    have hm4 := block_below hm hb4 (by omega)
    have hi4 := block_below hi hb4 (by omega)
    have hr4 := block_below hr hb4 (by omega)
    have q0 : w.heap.size < w4.heap.size := by have := hb4.size; omega
    have q1 : w.heap.size + 1 < w4.heap.size := by have := hb4.size; omega
    have q2 : w.heap.size + 1 + 1 < w4.heap.size := by have := hb4.size; omega
    have HB4 : Hid (Below w.heap.size w w4) := hb.trans (hb4.mono (by omega))
    have HR4 : Hid (w4.heap[w.heap.size + 1 + 1]? = some (.cells #[.int .u8 0, .int .i64 0, .int .i64 0] 26 (0, 0))) := hr4
    obtain ⟨⟨a0, a1, a2⟩, -⟩ := cells3 hm4
    obtain ⟨⟨i0, i1, i2⟩, -⟩ := cells3 hi4
    clear hm hi hr hz hb hb4 hm4 hi4 hr4
    go_wp2_with fail
    refine (HC.out _).mono ?_
    rintro e w5 ⟨v5, rfl, hown5, hb5⟩
    have hr5 := block_below HR4.out hb5 q2
    have q5 : w.heap.size + 1 + 1 < w5.heap.size := by have := hb5.size; omega
    obtain ⟨⟨b0, b1, b2⟩, f0⟩ := cells3 hr5
    have HB5 : Hid (Below w.heap.size w w5) := HB4.out.trans (hb5.mono HB4.out.size)
    have HR5 : Hid (w5.heap[w.heap.size + 1 + 1]? = some (.cells #[.int .u8 0, .int .i64 0, .int .i64 0] 26 (0, 0))) := hr5
    have HO5 : Hid (w5.ownsRow (w.heap.size + 1 + 1 + 1) 40 4 v5 r.2.length (oscells r.2)) := own_base hown5 (by omega)
    clear hr5 hown5 hb5 a0 a1 a2 i0 i1 i2
    go_wp2_with fail
    refine give_end (m := r.1) (l := r.2) HB5.out HR5.out HO5.out ?_ ?_ ?_ ?_ <;> rfl

set_option maxRecDepth 100000 in
set_option maxHeartbeats 4000000 in
theorem rstep_end (m : Mc) (i : In) (w : World) (h : mayS m = true) (h5 : m.1 = 5) (hk : i.1 = 5) (ht : i.2.2 = 11) : Calls Try.prog 27 #[mval m, ival i] w (GivesS w ((7, 0, m.2.2), [(7, 0, 0, 0)])) := by
  have HF : Hid (mayS m = true) := h
  have d2 : (m.1 == 2) = false := by simp [h5]
  have d3 : (m.1 == 3) = false := by simp [h5]
  have d5 : (m.1 == 5) = true := by simp [h5]
  have k5 : (i.1 == 5) = true := by simp [hk]
  have t11 : (i.2.2 == 11) = true := by simp [ht]
  clear h h5 hk ht
  go_enter Try.func27, Try.ntmps27
  go_wp2_with fail
  obtain ⟨hm, hi, hr, hz, hb⟩ := three_new w (.cells #[.int .u8 m.1, .int .i64 m.2.1, .int .i64 m.2.2] 26) (.cells #[.int .u8 i.1, .int .i64 i.2.1, .int .u8 i.2.2] 47) (.cells #[.int .u8 0, .int .i64 0, .int .i64 0] 26)
  generalize World.alloc (World.alloc (World.alloc w _) _) _ = w3 at hm hi hr hz hb ⊢
  refine (rmay_any m _).mono ?_
  rw [HF.out]
  rintro e w4 ⟨rfl, hb4⟩
  have hm4 := block_below hm hb4 (by omega)
  have hi4 := block_below hi hb4 (by omega)
  have hr4 := block_below hr hb4 (by omega)
  have q0 : w.heap.size < w4.heap.size := by have := hb4.size; omega
  have q1 : w.heap.size + 1 < w4.heap.size := by have := hb4.size; omega
  have q2 : w.heap.size + 1 + 1 < w4.heap.size := by have := hb4.size; omega
  have HB4 : Hid (Below w.heap.size w w4) := hb.trans (hb4.mono (by omega))
  have HR4 : Hid (w4.heap[w.heap.size + 1 + 1]? = some (.cells #[.int .u8 0, .int .i64 0, .int .i64 0] 26 (0, 0))) := hr4
  obtain ⟨⟨a0, a1, a2⟩, -⟩ := cells3 hm4
  obtain ⟨⟨i0, i1, i2⟩, -⟩ := cells3 hi4
  obtain ⟨⟨b0, b1, b2⟩, f0⟩ := cells3 hr4
  clear hm hi hr hz hb hb4 hm4 hi4 hr4
  go_wp2_with fail
  refine bodyPost_ret (results_row_tmp rfl _ _ (w.heap.size + 1 + 1) 26 (mcells (7, 0, m.2.2)) (0, 0) _ rfl ?_ Try.underlying26 rfl size26) rfl ?_
  · show (World.alloc _ _).heap[_]? = _
    rw [heap_alloc_old]
    · exact block_store3 _ _ _ HR4.out
    · simpa using q2
  · exact ⟨_, rfl, own_new (w := World.setCell _ _ _) [(7, 0, 0, 0)] 1 rfl (by simp) rfl (by simp [maxLen]) (by simp; omega), (((HB4.out.setCell (by simp; omega) _).setCell (by simp; omega) _).setCell (by simp; omega) _).alloc (by simp; omega) _⟩

/-- Not the row of timer K. -/
def NoK (m : Mc) (i : In) : Prop := ((m.1 == 5) = false) ∨ ((m.1 == 5) = true ∧ (i.1 == 5) = false) ∨ ((m.1 == 5) = true ∧ (i.1 == 5) = true ∧ (i.2.2 == 11) = false)

set_option maxRecDepth 100000 in
set_option maxHeartbeats 4000000 in
theorem rstep_stay (m : Mc) (i : In) (w : World) (h : mayS m = true) (h2 : ¬ (m.1 = 2 ∨ m.1 = 3)) (hc : NoK m i) : Calls Try.prog 27 #[mval m, ival i] w (GivesS w (m, [])) := by
  have HF : Hid (mayS m = true) := h
  have d2 : (m.1 == 2) = false := by simp; omega
  have d3 : (m.1 == 3) = false := by simp; omega
  clear h h2
  rcases hc with d5 | ⟨d5, k5⟩ | ⟨d5, k5, t11⟩
  all_goals
    go_enter Try.func27, Try.ntmps27
    go_wp2_with fail
    obtain ⟨hm, hi, hr, hz, hb⟩ := three_new w (.cells #[.int .u8 m.1, .int .i64 m.2.1, .int .i64 m.2.2] 26) (.cells #[.int .u8 i.1, .int .i64 i.2.1, .int .u8 i.2.2] 47) (.cells #[.int .u8 0, .int .i64 0, .int .i64 0] 26)
    generalize World.alloc (World.alloc (World.alloc w _) _) _ = w3 at hm hi hr hz hb ⊢
    refine (rmay_any m _).mono ?_
    rw [HF.out]
    rintro e w4 ⟨rfl, hb4⟩
    have hm4 := block_below hm hb4 (by omega)
    have hi4 := block_below hi hb4 (by omega)
    have hr4 := block_below hr hb4 (by omega)
    have q0 : w.heap.size < w4.heap.size := by have := hb4.size; omega
    have q1 : w.heap.size + 1 < w4.heap.size := by have := hb4.size; omega
    have q2 : w.heap.size + 1 + 1 < w4.heap.size := by have := hb4.size; omega
    have HB4 : Hid (Below w.heap.size w w4) := hb.trans (hb4.mono (by omega))
    have HR4 : Hid (w4.heap[w.heap.size + 1 + 1]? = some (.cells #[.int .u8 0, .int .i64 0, .int .i64 0] 26 (0, 0))) := hr4
    obtain ⟨⟨a0, a1, a2⟩, -⟩ := cells3 hm4
    obtain ⟨⟨i0, i1, i2⟩, -⟩ := cells3 hi4
    obtain ⟨⟨b0, b1, b2⟩, f0⟩ := cells3 hr4
    have HO4 : Hid (w4.ownsRow (w.heap.size + 1 + 1 + 1) 40 4 (.slice none 0 0) 0 (oscells [])) := World.ownsRow_nil _ _ _ _
    clear hm hi hr hz hb hb4 hm4 hi4 hr4
    go_wp2_with fail
    refine give_end (m := m) (l := []) HB4.out HR4.out HO4.out ?_ ?_ ?_ ?_ <;> rfl

theorem rstep_any (m : Mc) (i : In) (w : World) : Calls Try.prog 27 #[mval m, ival i] w (GivesS w (stepR m i)) := by
  unfold stepR
  by_cases h : mayS m = false
  · rw [if_pos h]
    exact rstep_bad m i w h
  · rw [if_neg h]
    have h : mayS m = true := by simpa using h
    by_cases h1 : m.1 = 2 ∨ m.1 = 3
    · rw [if_pos h1]
      exact rstep_open m i w h h1
    · rw [if_neg h1]
      by_cases h5 : m.1 = 5 ∧ i.1 = 5 ∧ i.2.2 = 11
      · rw [if_pos h5]
        exact rstep_end m i w h h5.1 h5.2.1 h5.2.2
      · rw [if_neg h5]
        refine rstep_stay m i w h h1 ?_
        unfold NoK
        by_cases a : m.1 = 5 <;> by_cases b : i.1 = 5 <;> by_cases c : i.2.2 = 11 <;> simp_all

end Go.Proofs.Ytlmanafplbddoaa
