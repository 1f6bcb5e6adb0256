/- The walk of Step, joined; the walk of the reference's Step. -/
import Derived.Test.YtilnibedblmoeaaW5
namespace Go.Proofs.Ytilnibedblmoeaa
open Go.RowKit

theorem step_any (m : Mc) (i : In) (w : World) : Calls Try.prog 22 #[mval m, ival i] w (GivesS w (stepS m i)) := by
  unfold stepS
  split
  · rename_i h; exact step_bad m i w h
  · rename_i h
    have h : mayS m = true := by simpa using h
    split
    · rename_i hj; exact step_j m i w h hj.1 hj.2.1 hj.2.2
    · rename_i hj; exact step_table m i w h hj

section
variable {m : Mc} {i : In} (hm : mayS m = true)
include hm
theorem stepR_1 (h1 : true = ((m.1 == 2 || m.1 == 3) && (i.1 == 4) && from_ i.2.1 100 199)) : stepR m i = ((3, 0, i.2.1), [(1, i.2.1, 0, 0)]) := by
  unfold stepR
  rw [if_neg (by simp [hm]), if_pos (by simpa [and_assoc] using h1.symm)]
theorem stepR_2 (h1 : false = ((m.1 == 2 || m.1 == 3) && (i.1 == 4) && from_ i.2.1 100 199)) (h2 : true = ((m.1 == 2 || m.1 == 3) && (i.1 == 4) && from_ i.2.1 200 699)) : stepR m i = ((5, 0, i.2.1), [(1, i.2.1, 0, 0), (4, 0, 10, 32000)]) := by
  unfold stepR
  rw [if_neg (by simp [hm]), if_neg (by rintro ⟨c1, c2, c3⟩; simp [c2, c3] at h1 <;> omega), if_pos (by simpa [and_assoc] using h2.symm)]
theorem stepR_3 (h1 : false = ((m.1 == 2 || m.1 == 3) && (i.1 == 4) && from_ i.2.1 100 199)) (h2 : false = ((m.1 == 2 || m.1 == 3) && (i.1 == 4) && from_ i.2.1 200 699)) (h3 : true = ((m.1 == 3 || m.1 == 5) && (i.1 == 1))) : stepR m i = (m, [(1, m.2.2, 0, 0)]) := by
  unfold stepR
  rw [if_neg (by simp [hm]), if_neg (by rintro ⟨c1, c2, c3⟩; simp [c2, c3] at h1 <;> omega), if_neg (by rintro ⟨c1, c2, c3⟩; simp [c2, c3] at h2 <;> omega), if_pos (by simpa [and_assoc] using h3.symm)]
theorem stepR_4 (h1 : false = ((m.1 == 2 || m.1 == 3) && (i.1 == 4) && from_ i.2.1 100 199)) (h2 : false = ((m.1 == 2 || m.1 == 3) && (i.1 == 4) && from_ i.2.1 200 699)) (h3 : false = ((m.1 == 3 || m.1 == 5) && (i.1 == 1))) (h4 : true = ((m.1 == 3 || m.1 == 5) && (i.1 == 6))) : stepR m i = ((7, 0, m.2.2), [(6, 0, 0, 0), (7, 0, 0, 0)]) := by
  unfold stepR
  rw [if_neg (by simp [hm]), if_neg (by rintro ⟨c1, c2, c3⟩; simp [c2, c3] at h1 <;> omega), if_neg (by rintro ⟨c1, c2, c3⟩; simp [c2, c3] at h2 <;> omega), if_neg (by rintro ⟨c1, c2⟩; simp [c2] at h3 <;> omega), if_pos (by simpa [and_assoc] using h4.symm)]
theorem stepR_5 (h1 : false = ((m.1 == 2 || m.1 == 3) && (i.1 == 4) && from_ i.2.1 100 199)) (h2 : false = ((m.1 == 2 || m.1 == 3) && (i.1 == 4) && from_ i.2.1 200 699)) (h3 : false = ((m.1 == 3 || m.1 == 5) && (i.1 == 1))) (h4 : false = ((m.1 == 3 || m.1 == 5) && (i.1 == 6))) (h5 : true = ((m.1 == 5) && (i.1 == 5) && (i.2.2 == 10))) : stepR m i = ((7, 0, m.2.2), [(7, 0, 0, 0)]) := by
  unfold stepR
  rw [if_neg (by simp [hm]), if_neg (by rintro ⟨c1, c2, c3⟩; simp [c2, c3] at h1 <;> omega), if_neg (by rintro ⟨c1, c2, c3⟩; simp [c2, c3] at h2 <;> omega), if_neg (by rintro ⟨c1, c2⟩; simp [c2] at h3 <;> omega), if_neg (by rintro ⟨c1, c2⟩; simp [c2] at h4 <;> omega), if_pos (by simpa [and_assoc] using h5.symm)]
theorem stepR_6 (h1 : false = ((m.1 == 2 || m.1 == 3) && (i.1 == 4) && from_ i.2.1 100 199)) (h2 : false = ((m.1 == 2 || m.1 == 3) && (i.1 == 4) && from_ i.2.1 200 699)) (h3 : false = ((m.1 == 3 || m.1 == 5) && (i.1 == 1))) (h4 : false = ((m.1 == 3 || m.1 == 5) && (i.1 == 6))) (h5 : false = ((m.1 == 5) && (i.1 == 5) && (i.2.2 == 10))) : stepR m i = (m, []) := by
  unfold stepR
  rw [if_neg (by simp [hm]), if_neg (by rintro ⟨c1, c2, c3⟩; simp [c2, c3] at h1 <;> omega), if_neg (by rintro ⟨c1, c2, c3⟩; simp [c2, c3] at h2 <;> omega), if_neg (by rintro ⟨c1, c2⟩; simp [c2] at h3 <;> omega), if_neg (by rintro ⟨c1, c2⟩; simp [c2] at h4 <;> omega), if_neg (by rintro ⟨c1, c2, c3⟩; simp [c1, c2, c3] at h5)]
end

set_option maxRecDepth 100000 in
set_option maxHeartbeats 1000000 in
theorem rstep_bad (m : Mc) (i : In) (w : World) (hm : mayS m = false) :
    Calls Try.prog 23 #[mval m, ival i] w (GivesS w ((0, 0, 0), [])) := by
  go_enter Try.func23, Try.ntmps23
  go_wp2_with fail
  refine (rmay_any m _).mono ?_
  rintro e w1 ⟨rfl, hb⟩
  have hbx : Boxes w1 w.heap.size m i (0, 0, 0) := (Boxes.new w m i).below hb (by simp)
  have hbw : Below w.heap.size w w1 := ((((Below.refl _ _).alloc (Nat.le_refl _) _).alloc (by simp) _).alloc (by simp; omega) _).trans (hb.mono (by simp; omega))
  obtain ⟨⟨a0, a1, a2⟩, ⟨b0, b1, b2⟩, ⟨c0, c1, c2⟩, f0⟩ := hbx.cells
  have HX : Hid (Boxes w1 w.heap.size m i (0, 0, 0)) := hbx
  clear hb hbx
  go_wp2_with fail
  refine bodyPost_ret (results_row_tmp rfl _ _ (w.heap.size + 1 + 1) 24 (mcells (0, 0, 0)) (0, 0) _ rfl (block_store3 _ _ _ HX.out.2.2) Try.underlying24 rfl size24) rfl ?_
  exact ⟨_, rfl, World.ownsRow_nil _ _ _ _, ((hbw.setCell (by simp; omega) _).setCell (by simp; omega) _).setCell (by simp; omega) _⟩

set_option maxRecDepth 100000 in
set_option maxHeartbeats 2000000 in
theorem rstep_good (m : Mc) (i : In) (w : World) (hm : mayS m = true) :
    Calls Try.prog 23 #[mval m, ival i] w (GivesS w (stepR m i)) := by
  obtain ⟨A, hA⟩ : ∃ A, A = (m.1 == 2 || m.1 == 3) := ⟨_, rfl⟩
  obtain ⟨B, hB⟩ : ∃ B, B = (m.1 == 3 || m.1 == 5) := ⟨_, rfl⟩
  obtain ⟨x1, h1⟩ : ∃ x, x = (A && (i.1 == 4) && from_ i.2.1 100 199) := ⟨_, rfl⟩
  obtain ⟨x2, h2⟩ : ∃ x, x = (A && (i.1 == 4) && from_ i.2.1 200 699) := ⟨_, rfl⟩
  obtain ⟨x3, h3⟩ : ∃ x, x = (B && (i.1 == 1)) := ⟨_, rfl⟩
  obtain ⟨x4, h4⟩ : ∃ x, x = (B && (i.1 == 6)) := ⟨_, rfl⟩
  obtain ⟨x5, h5⟩ : ∃ x, x = ((m.1 == 5) && (i.1 == 5) && (i.2.2 == 10)) := ⟨_, rfl⟩
  have HA : Hid (A = (m.1 == 2 || m.1 == 3)) := hA
  have HB : Hid (B = (m.1 == 3 || m.1 == 5)) := hB
  have H1 : Hid (x1 = (A && (i.1 == 4) && from_ i.2.1 100 199)) := h1
  have H2 : Hid (x2 = (A && (i.1 == 4) && from_ i.2.1 200 699)) := h2
  have H3 : Hid (x3 = (B && (i.1 == 1))) := h3
  have H4 : Hid (x4 = (B && (i.1 == 6))) := h4
  have H5 : Hid (x5 = ((m.1 == 5) && (i.1 == 5) && (i.2.2 == 10))) := h5
  clear hA hB h1 h2 h3 h4 h5
  go_enter Try.func23, Try.ntmps23
  go_wp2_with fail
  refine (rmay_any m _).mono ?_
  rintro e w1 ⟨rfl, hb⟩
  have hbx : Boxes w1 w.heap.size m i (0, 0, 0) := (Boxes.new w m i).below hb (by simp)
  have hbw : Below w.heap.size w w1 := ((((Below.refl _ _).alloc (Nat.le_refl _) _).alloc (by simp) _).alloc (by simp; omega) _).trans (hb.mono (by simp; omega))
  have hz := hb.size
  simp only [World.size_alloc] at hz
  have q0 : w.heap.size < w1.heap.size := by omega
  have q1 : w.heap.size + 1 < w1.heap.size := by omega
  have q2 : w.heap.size + 1 + 1 < w1.heap.size := by omega
  obtain ⟨⟨a0, a1, a2⟩, ⟨b0, b1, b2⟩, ⟨c0, c1, c2⟩, f0⟩ := hbx.cells
  have HX : Hid (Boxes w1 w.heap.size m i (0, 0, 0)) := hbx
  have HW : Hid (Below w.heap.size w w1) := hbw
  clear hb hbx hbw hz
  go_upto_region 3 with fail
  go_cut [6] (fun v wx => v = .bool A ∧ w1 = wx)
  case first =>
    go_wp2_with fail
    all_goals
      go_meet
      exact ⟨congrArg Value.bool (by first | exact HA.out.symm | (rw [HA.out]; simp_all)), rfl⟩
  case rest =>
  obtain ⟨rfl, rfl⟩ := hcut
  go_upto_region 4 with fail
  go_cut [7] (fun v wx => v = .bool B ∧ w1 = wx)
  case first =>
    go_wp2_with fail
    all_goals
      go_meet
      exact ⟨congrArg Value.bool (by first | exact HB.out.symm | (rw [HB.out]; simp_all)), rfl⟩
  case rest =>
  obtain ⟨rfl, rfl⟩ := hcut
  go_upto_region 7 with fail

  go_cut [36] (fun v wx => v = .bool x1 ∧ wx = (w1.alloc (.cells #[.int .u8 7, .int .i64 0, .int .i64 m.2.2] 24)).alloc (.cells #[.int .u8 1, .int .i64 i.2.1, .int .u8 0, .int .i64 0] 53))
  case first =>
    cases A <;> cases B
    all_goals
      go_wp2_with (go_at_call 28; refine (from_any _ _ _ _).mono ?_; rintro e w2 ⟨rfl, rfl⟩)
    all_goals
      go_meet
      exact ⟨congrArg Value.bool (by have e := H1.out; simp_all), rfl⟩
  case rest =>
  obtain ⟨rfl, rfl⟩ := hcut
  cases x1
  case true =>
    have HR : Hid (stepR m i = ((3, 0, i.2.1), [(1, i.2.1, 0, 0)])) := by
      exact stepR_1 hm (by have e := H1.out; rw [HA.out] at e; exact e)
    go_upto_region 8 with fail
    go_region
    go_wp2_with fail
    refine bodyPost_ret (results_row_tmp rfl _ _ (w.heap.size + 1 + 1) 24 (mcells ((3, 0, i.2.1))) (0, 0) _ rfl ?_ Try.underlying24 rfl size24) rfl ?_
    · show (World.alloc (World.alloc (World.alloc _ _) _) _).heap[_]? = _
      rw [heap_alloc_old, heap_alloc_old, heap_alloc_old]
      · exact block_store3 _ _ _ HX.out.2.2
      all_goals (simp; omega)
    · rw [HR.out]
      refine ⟨_, rfl, own_new (w := World.alloc (World.alloc _ _) _) [(1, i.2.1, 0, 0)] 1 rfl (by simp) rfl (by simp [maxLen]) (by simp; omega), ?_⟩
      exact ((((((HW.out.setCell (by simp; omega) _).setCell (by simp; omega) _).setCell (by simp; omega) _).alloc (by simp; omega) _).alloc (by simp; omega) _).alloc (by simp; omega) _).drew
  case false =>
  go_upto_region 9 with fail
  go_cut [53] (fun v wx => v = .bool x2 ∧ wx = (w1.alloc (.cells #[.int .u8 7, .int .i64 0, .int .i64 m.2.2] 24)).alloc (.cells #[.int .u8 1, .int .i64 i.2.1, .int .u8 0, .int .i64 0] 53))
  case first =>
    cases A <;> cases B
    all_goals
      go_wp2_with (go_at_call 28; refine (from_any _ _ _ _).mono ?_; rintro e w2 ⟨rfl, rfl⟩)
    all_goals
      go_meet
      exact ⟨congrArg Value.bool (by have e := H2.out; simp_all), rfl⟩
  case rest =>
  obtain ⟨rfl, rfl⟩ := hcut
  cases x2
  case true =>
    have HR : Hid (stepR m i = ((5, 0, i.2.1), [(1, i.2.1, 0, 0), (4, 0, 10, 32000)])) := by
      exact stepR_2 hm (by have e := H1.out; rw [HA.out] at e; exact e) (by have e := H2.out; rw [HA.out] at e; exact e)
    go_upto_region 10 with fail
    go_region
    go_wp2_with fail
    refine bodyPost_ret (results_row_tmp rfl _ _ (w.heap.size + 1 + 1) 24 (mcells ((5, 0, i.2.1))) (0, 0) _ rfl ?_ Try.underlying24 rfl size24) rfl ?_
    · show (World.alloc (World.alloc (World.alloc _ _) _) _).heap[_]? = _
      rw [heap_alloc_old, heap_alloc_old, heap_alloc_old]
      · exact block_store3 _ _ _ HX.out.2.2
      all_goals (simp; omega)
    · rw [HR.out]
      refine ⟨_, rfl, own_new (w := World.alloc (World.alloc _ _) _) [(1, i.2.1, 0, 0), (4, 0, 10, 32000)] 2 rfl (by simp) rfl (by simp [maxLen]) (by simp; omega), ?_⟩
      exact ((((((HW.out.setCell (by simp; omega) _).setCell (by simp; omega) _).setCell (by simp; omega) _).alloc (by simp; omega) _).alloc (by simp; omega) _).alloc (by simp; omega) _).drew
  case false =>
  go_upto_region 11 with fail
  go_cut [71] (fun v wx => v = .bool x3 ∧ wx = (w1.alloc (.cells #[.int .u8 7, .int .i64 0, .int .i64 m.2.2] 24)).alloc (.cells #[.int .u8 1, .int .i64 i.2.1, .int .u8 0, .int .i64 0] 53))
  case first =>
    cases A <;> cases B
    all_goals
      go_wp2_with fail
    all_goals
      go_meet
      exact ⟨congrArg Value.bool (by have e := H3.out; simp_all), rfl⟩
  case rest =>
  obtain ⟨rfl, rfl⟩ := hcut
  cases x3
  case true =>
    have HR : Hid (stepR m i = (m, [(1, m.2.2, 0, 0)])) := by
      exact stepR_3 hm (by have e := H1.out; rw [HA.out] at e; exact e) (by have e := H2.out; rw [HA.out] at e; exact e) (by have e := H3.out; rw [HB.out] at e; exact e)
    have p0 : ((w1.alloc (.cells #[.int .u8 7, .int .i64 0, .int .i64 m.2.2] 24)).alloc (.cells #[.int .u8 1, .int .i64 i.2.1, .int .u8 0, .int .i64 0] 53)).cell? ⟨w.heap.size, 0, none⟩ = some (.int .u8 m.1) := cells_of_block (block_below HX.out.1 (((Below.refl w1.heap.size w1).alloc (by omega) _).alloc (by simp) _) (by omega)) 0
    have p1 : ((w1.alloc (.cells #[.int .u8 7, .int .i64 0, .int .i64 m.2.2] 24)).alloc (.cells #[.int .u8 1, .int .i64 i.2.1, .int .u8 0, .int .i64 0] 53)).cell? ⟨w.heap.size, 1, none⟩ = some (.int .i64 m.2.1) := cells_of_block (block_below HX.out.1 (((Below.refl w1.heap.size w1).alloc (by omega) _).alloc (by simp) _) (by omega)) 1
    have p2 : ((w1.alloc (.cells #[.int .u8 7, .int .i64 0, .int .i64 m.2.2] 24)).alloc (.cells #[.int .u8 1, .int .i64 i.2.1, .int .u8 0, .int .i64 0] 53)).cell? ⟨w.heap.size, 2, none⟩ = some (.int .i64 m.2.2) := cells_of_block (block_below HX.out.1 (((Below.refl w1.heap.size w1).alloc (by omega) _).alloc (by simp) _) (by omega)) 2
    have q0 : (((w1.alloc (.cells #[.int .u8 7, .int .i64 0, .int .i64 m.2.2] 24)).alloc (.cells #[.int .u8 1, .int .i64 i.2.1, .int .u8 0, .int .i64 0] 53)).alloc (.cells #[.int .u8 1, .int .i64 m.2.2, .int .u8 0, .int .i64 0] 53)).cell? ⟨w.heap.size, 0, none⟩ = some (.int .u8 m.1) := cells_of_block (block_below HX.out.1 ((((Below.refl w1.heap.size w1).alloc (by omega) _).alloc (by simp) _).alloc (by simp; omega) _) (by omega)) 0
    have q1 : (((w1.alloc (.cells #[.int .u8 7, .int .i64 0, .int .i64 m.2.2] 24)).alloc (.cells #[.int .u8 1, .int .i64 i.2.1, .int .u8 0, .int .i64 0] 53)).alloc (.cells #[.int .u8 1, .int .i64 m.2.2, .int .u8 0, .int .i64 0] 53)).cell? ⟨w.heap.size, 1, none⟩ = some (.int .i64 m.2.1) := cells_of_block (block_below HX.out.1 ((((Below.refl w1.heap.size w1).alloc (by omega) _).alloc (by simp) _).alloc (by simp; omega) _) (by omega)) 1
    have q2 : (((w1.alloc (.cells #[.int .u8 7, .int .i64 0, .int .i64 m.2.2] 24)).alloc (.cells #[.int .u8 1, .int .i64 i.2.1, .int .u8 0, .int .i64 0] 53)).alloc (.cells #[.int .u8 1, .int .i64 m.2.2, .int .u8 0, .int .i64 0] 53)).cell? ⟨w.heap.size, 2, none⟩ = some (.int .i64 m.2.2) := cells_of_block (block_below HX.out.1 ((((Below.refl w1.heap.size w1).alloc (by omega) _).alloc (by simp) _).alloc (by simp; omega) _) (by omega)) 2
    go_upto_region 12 with fail
    go_region
    go_wp2_with fail
    refine bodyPost_ret (results_row_tmp rfl _ _ (w.heap.size + 1 + 1) 24 (mcells (m)) (0, 0) _ rfl ?_ Try.underlying24 rfl size24) rfl ?_
    · show (World.alloc (World.alloc (World.alloc _ _) _) _).heap[_]? = _
      rw [heap_alloc_old, heap_alloc_old, heap_alloc_old]
      · exact block_store3 _ _ _ HX.out.2.2
      all_goals (simp; omega)
    · rw [HR.out]
      refine ⟨_, rfl, own_new (w := World.alloc (World.alloc _ _) _) [(1, m.2.2, 0, 0)] 1 rfl (by simp) rfl (by simp [maxLen]) (by simp; omega), ?_⟩
      exact ((((((HW.out.setCell (by simp; omega) _).setCell (by simp; omega) _).setCell (by simp; omega) _).alloc (by simp; omega) _).alloc (by simp; omega) _).alloc (by simp; omega) _).drew
  case false =>
  go_upto_region 13 with fail
  go_cut [83] (fun v wx => v = .bool x4 ∧ wx = (w1.alloc (.cells #[.int .u8 7, .int .i64 0, .int .i64 m.2.2] 24)).alloc (.cells #[.int .u8 1, .int .i64 i.2.1, .int .u8 0, .int .i64 0] 53))
  case first =>
    cases A <;> cases B
    all_goals
      go_wp2_with fail
    all_goals
      go_meet
      exact ⟨congrArg Value.bool (by have e := H4.out; simp_all), rfl⟩
  case rest =>
  obtain ⟨rfl, rfl⟩ := hcut
  cases x4
  case true =>
    have HR : Hid (stepR m i = ((7, 0, m.2.2), [(6, 0, 0, 0), (7, 0, 0, 0)])) := by
      exact stepR_4 hm (by have e := H1.out; rw [HA.out] at e; exact e) (by have e := H2.out; rw [HA.out] at e; exact e) (by have e := H3.out; rw [HB.out] at e; exact e) (by have e := H4.out; rw [HB.out] at e; exact e)
    go_wp2_with fail
    refine bodyPost_ret (results_row_tmp rfl _ _ (w.heap.size + 1 + 1) 24 (mcells ((7, 0, m.2.2))) (0, 0) _ rfl ?_ Try.underlying24 rfl size24) rfl ?_
    · show (World.alloc (World.alloc (World.alloc _ _) _) _).heap[_]? = _
      rw [heap_alloc_old, heap_alloc_old, heap_alloc_old]
      · exact block_store3 _ _ _ HX.out.2.2
      all_goals (simp; omega)
    · rw [HR.out]
      refine ⟨_, rfl, own_new (w := World.alloc (World.alloc _ _) _) [(6, 0, 0, 0), (7, 0, 0, 0)] 2 rfl (by simp) rfl (by simp [maxLen]) (by simp; omega), ?_⟩
      exact ((((((HW.out.setCell (by simp; omega) _).setCell (by simp; omega) _).setCell (by simp; omega) _).alloc (by simp; omega) _).alloc (by simp; omega) _).alloc (by simp; omega) _)
  case false =>
  go_upto_region 15 with fail
  go_cut [94] (fun v wx => v = .bool x5 ∧ wx = (w1.alloc (.cells #[.int .u8 7, .int .i64 0, .int .i64 m.2.2] 24)).alloc (.cells #[.int .u8 1, .int .i64 i.2.1, .int .u8 0, .int .i64 0] 53))
  case first =>
    cases A <;> cases B
    all_goals
      go_wp2_with fail
    all_goals
      go_meet
      exact ⟨congrArg Value.bool (by have e := H5.out; simp_all), rfl⟩
  case rest =>
  obtain ⟨rfl, rfl⟩ := hcut
  cases x5
  case true =>
    have HR : Hid (stepR m i = ((7, 0, m.2.2), [(7, 0, 0, 0)])) := by
      exact stepR_5 hm (by have e := H1.out; rw [HA.out] at e; exact e) (by have e := H2.out; rw [HA.out] at e; exact e) (by have e := H3.out; rw [HB.out] at e; exact e) (by have e := H4.out; rw [HB.out] at e; exact e) H5.out
    go_wp2_with fail
    refine bodyPost_ret (results_row_tmp rfl _ _ (w.heap.size + 1 + 1) 24 (mcells ((7, 0, m.2.2))) (0, 0) _ rfl ?_ Try.underlying24 rfl size24) rfl ?_
    · show (World.alloc (World.alloc (World.alloc _ _) _) _).heap[_]? = _
      rw [heap_alloc_old, heap_alloc_old, heap_alloc_old]
      · exact block_store3 _ _ _ HX.out.2.2
      all_goals (simp; omega)
    · rw [HR.out]
      refine ⟨_, rfl, own_new (w := World.alloc (World.alloc _ _) _) [(7, 0, 0, 0)] 1 rfl (by simp) rfl (by simp [maxLen]) (by simp; omega), ?_⟩
      exact ((((((HW.out.setCell (by simp; omega) _).setCell (by simp; omega) _).setCell (by simp; omega) _).alloc (by simp; omega) _).alloc (by simp; omega) _).alloc (by simp; omega) _)
  case false =>
    skip
    have HR : Hid (stepR m i = (m, [])) := by
      exact stepR_6 hm (by have e := H1.out; rw [HA.out] at e; exact e) (by have e := H2.out; rw [HA.out] at e; exact e) (by have e := H3.out; rw [HB.out] at e; exact e) (by have e := H4.out; rw [HB.out] at e; exact e) H5.out
    have p0 : ((w1.alloc (.cells #[.int .u8 7, .int .i64 0, .int .i64 m.2.2] 24)).alloc (.cells #[.int .u8 1, .int .i64 i.2.1, .int .u8 0, .int .i64 0] 53)).cell? ⟨w.heap.size, 0, none⟩ = some (.int .u8 m.1) := cells_of_block (block_below HX.out.1 (((Below.refl w1.heap.size w1).alloc (by omega) _).alloc (by simp) _) (by omega)) 0
    have p1 : ((w1.alloc (.cells #[.int .u8 7, .int .i64 0, .int .i64 m.2.2] 24)).alloc (.cells #[.int .u8 1, .int .i64 i.2.1, .int .u8 0, .int .i64 0] 53)).cell? ⟨w.heap.size, 1, none⟩ = some (.int .i64 m.2.1) := cells_of_block (block_below HX.out.1 (((Below.refl w1.heap.size w1).alloc (by omega) _).alloc (by simp) _) (by omega)) 1
    have p2 : ((w1.alloc (.cells #[.int .u8 7, .int .i64 0, .int .i64 m.2.2] 24)).alloc (.cells #[.int .u8 1, .int .i64 i.2.1, .int .u8 0, .int .i64 0] 53)).cell? ⟨w.heap.size, 2, none⟩ = some (.int .i64 m.2.2) := cells_of_block (block_below HX.out.1 (((Below.refl w1.heap.size w1).alloc (by omega) _).alloc (by simp) _) (by omega)) 2
    have q0 : (((w1.alloc (.cells #[.int .u8 7, .int .i64 0, .int .i64 m.2.2] 24)).alloc (.cells #[.int .u8 1, .int .i64 i.2.1, .int .u8 0, .int .i64 0] 53)).alloc (.cells #[.int .u8 1, .int .i64 m.2.2, .int .u8 0, .int .i64 0] 53)).cell? ⟨w.heap.size, 0, none⟩ = some (.int .u8 m.1) := cells_of_block (block_below HX.out.1 ((((Below.refl w1.heap.size w1).alloc (by omega) _).alloc (by simp) _).alloc (by simp; omega) _) (by omega)) 0
    have q1 : (((w1.alloc (.cells #[.int .u8 7, .int .i64 0, .int .i64 m.2.2] 24)).alloc (.cells #[.int .u8 1, .int .i64 i.2.1, .int .u8 0, .int .i64 0] 53)).alloc (.cells #[.int .u8 1, .int .i64 m.2.2, .int .u8 0, .int .i64 0] 53)).cell? ⟨w.heap.size, 1, none⟩ = some (.int .i64 m.2.1) := cells_of_block (block_below HX.out.1 ((((Below.refl w1.heap.size w1).alloc (by omega) _).alloc (by simp) _).alloc (by simp; omega) _) (by omega)) 1
    have q2 : (((w1.alloc (.cells #[.int .u8 7, .int .i64 0, .int .i64 m.2.2] 24)).alloc (.cells #[.int .u8 1, .int .i64 i.2.1, .int .u8 0, .int .i64 0] 53)).alloc (.cells #[.int .u8 1, .int .i64 m.2.2, .int .u8 0, .int .i64 0] 53)).cell? ⟨w.heap.size, 2, none⟩ = some (.int .i64 m.2.2) := cells_of_block (block_below HX.out.1 ((((Below.refl w1.heap.size w1).alloc (by omega) _).alloc (by simp) _).alloc (by simp; omega) _) (by omega)) 2
    go_wp2_with fail
    refine bodyPost_ret (results_row_tmp rfl _ _ (w.heap.size + 1 + 1) 24 (mcells (m)) (0, 0) _ rfl ?_ Try.underlying24 rfl size24) rfl ?_
    · show (World.alloc (World.alloc _ _) _).heap[_]? = _
      rw [heap_alloc_old, heap_alloc_old]
      · exact block_store3 _ _ _ HX.out.2.2
      all_goals (simp; omega)
    · rw [HR.out]
      exact ⟨_, rfl, World.ownsRow_nil _ _ _ _, ((((HW.out.setCell (by simp; omega) _).setCell (by simp; omega) _).setCell (by simp; omega) _).alloc (by simp; omega) _).alloc (by simp; omega) _⟩

theorem rstep_any (m : Mc) (i : In) (w : World) : Calls Try.prog 23 #[mval m, ival i] w (GivesS w (stepS m i)) := by
  rw [step_same]
  by_cases hm : mayS m = true
  · exact rstep_good m i w hm
  · have h : mayS m = false := by simpa using hm
    unfold stepR
    rw [if_pos h]
    exact rstep_bad m i w h

end Go.Proofs.Ytilnibedblmoeaa
