/- The walk of Step: by the table. -/
import Derived.Test.YtilnibedblmoeaaW4
import Derived.Deep.DeepCutAuto
namespace Go.Proofs.Ytilnibedblmoeaa
open Go.RowKit

set_option maxRecDepth 100000 in
set_option maxHeartbeats 2000000 in
theorem step_table (m : Mc) (i : In) (w : World) (hm : mayS m = true) (hj : ¬ (m.1 = 5 ∧ i.1 = 5 ∧ i.2.2 = 10)) :
    Calls Try.prog 22 #[mval m, ival i] w (GivesS w (byRows m i rowsS)) := by
  have HJ : Hid (¬ (m.1 = 5 ∧ i.1 = 5 ∧ i.2.2 = 10)) := hj
  clear hj
  go_enter Try.func22, Try.ntmps22
  go_wp2_with fail
  refine (may_any m _).mono ?_
  rintro e w1 ⟨rfl, hb⟩
  have hbx : Boxes w1 w.heap.size m i (0, 0, 0) := (Boxes.new w m i).below hb (by simp)
  have hbw : Below w.heap.size w w1 := ((((Below.refl _ _).alloc (Nat.le_refl _) _).alloc (by simp) _).alloc (by simp; omega) _).trans (hb.mono (by simp; omega))
  have hz := hb.size
  simp only [World.size_alloc] at hz
  have q0 : w.heap.size < w1.heap.size := by omega
  have q1 : w.heap.size + 1 < w1.heap.size := by omega
  have q2 : w.heap.size + 1 + 1 < w1.heap.size := by omega
  obtain ⟨⟨a0, a1, a2⟩, ⟨b0, b1, b2⟩, ⟨c0, c1, c2⟩, f0⟩ := hbx.cells
  have HX : Hid (Boxes w1 w.heap.size m i (0, 0, 0)) := hbx
  clear hb hbx
  go_upto_region 4 with fail
  go_cut [30] (fun v wx => v = .bool false ∧ wx = w1.alloc (.cells #[.int .u8 7, .int .i64 0, .int .u8 0, .int .i64 0] 53))
  case first =>
    go_wp2_with fail
    all_goals
      go_meet
      exact ⟨congrArg Value.bool (by have := HJ.out; simp_all), rfl⟩
  case rest =>
    obtain ⟨rfl, rfl⟩ := hcut
    go_upto_if 38 with fail
    go_cut [7] (fun v wx => v = .int .i64 (codeS i) ∧ wx = w1.alloc (.cells #[.int .u8 7, .int .i64 0, .int .u8 0, .int .i64 0] 53))
    case first =>
      go_wp2_with fail
      all_goals
        go_meet
        exact ⟨congrArg (Value.int .i64) (by simp_all [codeS]), rfl⟩
    case rest =>
      obtain ⟨rfl, rfl⟩ := hcut
      go_wp2_with fail
      refine (table_any _).mono ?_
      rintro e w2 ⟨rfl, rfl⟩
      go_wp2_with (refine wpList_store_fresh (o := ⟨none, .store 66 (.tmp 8) (.tmp 41), _, _, _, none⟩) (cs := tableC) rfl 66 (.tmp 8) (.tmp 41) rfl _ rfl rfl (by simp) (by kernel_rfl) size66 tableC_one ?_)
      have e9 : w1.heap.size + 1 + 1 < (((w1.alloc (.cells #[.int .u8 7, .int .i64 0, .int .u8 0, .int .i64 0] 53)).alloc (.cells tableC 66)).alloc (.cells tableC 66)).heap.size := by simp
      have t9 := heap_alloc_new ((w1.alloc (.cells #[.int .u8 7, .int .i64 0, .int .u8 0, .int .i64 0] 53)).alloc (.cells tableC 66)) (.cells tableC 66)
      have x9 : (((w1.alloc (.cells #[.int .u8 7, .int .i64 0, .int .u8 0, .int .i64 0] 53)).alloc (.cells tableC 66)).alloc (.cells tableC 66)).heap[w1.heap.size]? = some (.cells (oscells [(7, 0, 0, 0)]).toArray 53 (0, 0)) := by
        rw [heap_alloc_old, heap_alloc_old, heap_alloc_new]
        · rfl
        · simp
        · simp; omega
      have b9 : Below w1.heap.size w1 (((w1.alloc (.cells #[.int .u8 7, .int .i64 0, .int .u8 0, .int .i64 0] 53)).alloc (.cells tableC 66)).alloc (.cells tableC 66)) := (((Below.refl _ _).alloc (Nat.le_refl _) _).alloc (by simp) _).alloc (by simp; omega) _
      simp only [World.size_alloc] at t9
      generalize ((w1.alloc (.cells #[.int .u8 7, .int .i64 0, .int .u8 0, .int .i64 0] 53)).alloc (.cells tableC 66)).alloc (.cells tableC 66) = w9 at *
      have HX9 : Hid (Boxes w9 w.heap.size m i (0, 0, 0)) := HX.out.below b9 q2
      have HB9 : Hid (Below w.heap.size w w9) := hbw.trans (b9.mono (by omega))
      have HT9 : Hid (w9.heap[w1.heap.size + 1 + 1]? = some (.cells tableC 66 (0, 0))) := t9
      have HE9 : Hid (w9.heap[w1.heap.size]? = some (.cells (oscells [(7, 0, 0, 0)]).toArray 53 (0, 0))) := x9
      clear a0 a1 a2 b0 b1 b2 c0 c1 c2 f0 t9 x9 b9 hbw hz HX
      go_loopw [42] (fun k wr => ∃ n : Nat, k = .int .i64 n ∧ n ≤ 8 ∧ byRows m i (rowsS.drop n) = byRows m i rowsS ∧ Below w9.heap.size w9 wr) (fun k _ => 8 - (intOf k).toNat)
      case atStart => exact ⟨0, rfl, by omega, rfl, Below.refl _ _⟩
      case round =>
        obtain ⟨n, rfl, hn, hrows, hb⟩ := hrel
        have HR : Hid (byRows m i (rowsS.drop n) = byRows m i rowsS) := hrows
        have hzr := hb.size
        have q3 : w.heap.size < wr.heap.size := by omega
        have q4 : w.heap.size + 1 < wr.heap.size := by omega
        have q5 : w.heap.size + 1 + 1 < wr.heap.size := by omega
        have q6 : w1.heap.size < wr.heap.size := by omega
        have q7 : w1.heap.size + 1 + 1 < wr.heap.size := by omega
        obtain ⟨⟨a0, a1, a2⟩, ⟨b0, b1, b2⟩, ⟨c0, c1, c2⟩, f0⟩ := (HX9.out.below hb (by omega)).cells
        have HB : Hid (Below w9.heap.size w9 wr) := hb
        clear hrows hb
        by_cases hlt : n < 8
        · obtain ⟨r, hr⟩ : ∃ r, rowsS[n]? = some r := ⟨_, List.getElem?_eq_getElem (show n < rowsS.length from hlt)⟩
          have HD : Hid (rowsS.drop n = r :: rowsS.drop (n + 1)) := by
            obtain ⟨h1, h2⟩ := List.getElem?_eq_some_iff.1 hr
            show rowsS.drop n = r :: rowsS.drop (n + 1)
            rw [List.drop_eq_getElem_cons h1, h2]
          have tc : ∀ j, j < 6 → wr.cell? ⟨w1.heap.size + 1 + 1, n * 6 + j, none⟩ = (rcells r)[j]? := by
            intro j hj
            rw [cells_of_block (block_below HT9.out HB.out e9)]
            have := flat_get rcells 6 (fun _ => rfl) rowsS n j hj
            rw [hr] at this
            rw [← Array.getElem?_toList]
            exact this
          have t0 : wr.cell? ⟨w1.heap.size + 1 + 1, n * 6, none⟩ = some (.int .u8 r.1) := tc 0 (by omega)
          have t1 : wr.cell? ⟨w1.heap.size + 1 + 1, n * 6 + 1, none⟩ = some (.int .u8 r.2.1) := tc 1 (by omega)
          have t2 : wr.cell? ⟨w1.heap.size + 1 + 1, n * 6 + 2, none⟩ = some (.int .i64 r.2.2.1) := tc 2 (by omega)
          have t3 : wr.cell? ⟨w1.heap.size + 1 + 1, n * 6 + 3, none⟩ = some (.int .i64 r.2.2.2.1) := tc 3 (by omega)
          have t4 : wr.cell? ⟨w1.heap.size + 1 + 1, n * 6 + 4, none⟩ = some (.int .u8 r.2.2.2.2.1) := tc 4 (by omega)
          have t5 : wr.cell? ⟨w1.heap.size + 1 + 1, n * 6 + 5, none⟩ = some (.int .u8 r.2.2.2.2.2) := tc 5 (by omega)
          have p0 : (n : Int) < 8 := by omega
          clear tc hr
          by_cases x1 : r.1 = m.1
          · have d1 : (r.1 != m.1) = false := by simp [x1]
            have X1 : Hid (r.1 = m.1) := x1
            clear x1
            by_cases x2 : r.2.1 = i.1
            · have d2 : (r.2.1 != i.1) = false := by simp [x2]
              have X2 : Hid (r.2.1 = i.1) := x2
              clear x2
              by_cases x3 : codeS i < r.2.2.1
              · have d3 : decide (codeS i < r.2.2.1) = true := by simpa using x3
                have HF : Hid (fits m i r = false) := by
                  show fits m i r = false
                  unfold fits
                  rw [decide_eq_false (p := r.2.2.1 ≤ codeS i) (by omega), Bool.and_false, Bool.false_and]
                clear x3
                go_wp2_with fail
                go_roundw
                case rel => exact ⟨n + 1, by go_num, by omega, by rw [← HR.out, HD.out, byRows, if_neg (by simp [HF.out])], HB.out.alloc (by omega) _⟩
                case measure => simp [intOf]; omega
              · have d3 : decide (codeS i < r.2.2.1) = false := by simpa using x3
                by_cases x4 : r.2.2.2.1 < codeS i
                · have d4 : decide (r.2.2.2.1 < codeS i) = true := by simpa using x4
                  have HF : Hid (fits m i r = false) := by
                    show fits m i r = false
                    unfold fits
                    rw [decide_eq_false (p := codeS i ≤ r.2.2.2.1) (by omega), Bool.and_false]
                  clear x3 x4
                  go_wp2_with fail
                  go_roundw
                  case rel => exact ⟨n + 1, by go_num, by omega, by rw [← HR.out, HD.out, byRows, if_neg (by simp [HF.out])], HB.out.alloc (by omega) _⟩
                  case measure => simp [intOf]; omega
                · have d4 : decide (r.2.2.2.1 < codeS i) = false := by simpa using x4
                  have HF : Hid (byRows m i rowsS = byRow m i r) := by
                    show byRows m i rowsS = byRow m i r
                    have hf : fits m i r = true := by
                      unfold fits
                      rw [decide_eq_true X1.out, decide_eq_true X2.out, decide_eq_true (by omega), decide_eq_true (by omega)]
                      rfl
                    rw [← HR.out, HD.out, byRows, if_pos hf]
                  clear x3 x4
                  go_upto_if 79 with fail
                  go_cut [] (fun wx => wx = (wr.alloc (.cells #[.int .u8 r.1, .int .u8 r.2.1, .int .i64 r.2.2.1, .int .i64 r.2.2.2.1, .int .u8 r.2.2.2.2.1, .int .u8 r.2.2.2.2.2] 65)).alloc (.cells #[.int .u8 r.2.2.2.2.1, .int .i64 0, .int .i64 (nextCode m i)] 24))
                  case first =>
                    by_cases k4 : i.1 = 4
                    · have d5 : (i.1 == 4) = true := by simp [k4]
                      have HN : Hid (nextCode m i = codeS i) := by
                        show nextCode m i = codeS i
                        unfold nextCode; rw [if_pos k4]
                      clear k4
                      go_wp2_with fail
                      go_meet
                      rw [HN.out]
                    · have d5 : (i.1 == 4) = false := by simp [k4]
                      have HN : Hid (nextCode m i = m.2.2) := by
                        show nextCode m i = m.2.2
                        unfold nextCode; rw [if_neg k4]
                      clear k4
                      go_wp2_with fail
                      go_meet
                      rw [HN.out]
                  case rest =>
                    subst hcut
                    by_cases o4 : r.2.2.2.2.2 = 4
                    · have d6 : (r.2.2.2.2.2 == 4) = true := by simp [o4]
                      have HO : Hid (outsOf m i r = [(1, nextCode m i, 0, 0), (4, 0, 10, 32000)]) := by
                        show outsOf m i r = _
                        unfold outsOf; rw [if_pos o4]
                      clear o4
                      go_upto_region 21 with fail
                      go_region
                      go_wp2_with fail
                      refine bodyPost_ret (results_row_tmp rfl _ _ (w.heap.size + 1 + 1) 24 (mcells (r.2.2.2.2.1, 0, nextCode m i)) (0, 0) _ rfl ?_ Try.underlying24 rfl size24) rfl ?_
                      · show (World.alloc (World.alloc (World.alloc (World.alloc _ _) _) _) _).heap[_]? = _
                        rw [heap_alloc_old, heap_alloc_old, heap_alloc_old, heap_alloc_old]
                        · exact block_store3 _ _ _ (HX9.out.below HB.out (by omega)).2.2
                        all_goals (simp; omega)
                      · rw [HF.out]
                        unfold byRow
                        rw [HO.out]
                        refine ⟨_, rfl, own_new (w := World.alloc (World.alloc (World.alloc _ _) _) _) [(1, nextCode m i, 0, 0), (4, 0, 10, 32000)] 2 rfl (by simp) rfl (by simp [maxLen]) (by simp; omega), ?_⟩
                        exact (((((((((HB9.out.trans (HB.out.mono (by omega))).setCell (by simp; omega) _).setCell (by simp; omega) _).setCell (by simp; omega) _).alloc (by simp; omega) _).alloc (by simp; omega) _).alloc (by simp; omega) _).alloc (by simp; omega) _)).drew
                    · have d6 : (r.2.2.2.2.2 == 4) = false := by simp [o4]
                      by_cases o6 : r.2.2.2.2.2 = 6
                      · have d7 : (r.2.2.2.2.2 == 6) = true := by simp [o6]
                        have HO : Hid (outsOf m i r = [(6, 0, 0, 0), (7, 0, 0, 0)]) := by
                          show outsOf m i r = _
                          unfold outsOf; rw [if_neg o4, if_pos o6]
                        clear o4 o6
                        have e0 : (((wr.alloc (.cells #[.int .u8 r.1, .int .u8 r.2.1, .int .i64 r.2.2.1, .int .i64 r.2.2.2.1, .int .u8 r.2.2.2.2.1, .int .u8 r.2.2.2.2.2] 65)).alloc (.cells #[.int .u8 r.2.2.2.2.1, .int .i64 0, .int .i64 (nextCode m i)] 24)).alloc (.cells #[.int .u8 1, .int .i64 (nextCode m i), .int .u8 0, .int .i64 0] 53)).cell? ⟨w1.heap.size, 0, none⟩ = some (.int .u8 7) := cells_of_block (block_below HE9.out (((HB.out.alloc (by omega) _).alloc (by simp; omega) _).alloc (by simp; omega) _) (by omega)) 0
                        have e1 : (((wr.alloc (.cells #[.int .u8 r.1, .int .u8 r.2.1, .int .i64 r.2.2.1, .int .i64 r.2.2.2.1, .int .u8 r.2.2.2.2.1, .int .u8 r.2.2.2.2.2] 65)).alloc (.cells #[.int .u8 r.2.2.2.2.1, .int .i64 0, .int .i64 (nextCode m i)] 24)).alloc (.cells #[.int .u8 1, .int .i64 (nextCode m i), .int .u8 0, .int .i64 0] 53)).cell? ⟨w1.heap.size, 1, none⟩ = some (.int .i64 0) := cells_of_block (block_below HE9.out (((HB.out.alloc (by omega) _).alloc (by simp; omega) _).alloc (by simp; omega) _) (by omega)) 1
                        have e2 : (((wr.alloc (.cells #[.int .u8 r.1, .int .u8 r.2.1, .int .i64 r.2.2.1, .int .i64 r.2.2.2.1, .int .u8 r.2.2.2.2.1, .int .u8 r.2.2.2.2.2] 65)).alloc (.cells #[.int .u8 r.2.2.2.2.1, .int .i64 0, .int .i64 (nextCode m i)] 24)).alloc (.cells #[.int .u8 1, .int .i64 (nextCode m i), .int .u8 0, .int .i64 0] 53)).cell? ⟨w1.heap.size, 2, none⟩ = some (.int .u8 0) := cells_of_block (block_below HE9.out (((HB.out.alloc (by omega) _).alloc (by simp; omega) _).alloc (by simp; omega) _) (by omega)) 2
                        have e3 : (((wr.alloc (.cells #[.int .u8 r.1, .int .u8 r.2.1, .int .i64 r.2.2.1, .int .i64 r.2.2.2.1, .int .u8 r.2.2.2.2.1, .int .u8 r.2.2.2.2.2] 65)).alloc (.cells #[.int .u8 r.2.2.2.2.1, .int .i64 0, .int .i64 (nextCode m i)] 24)).alloc (.cells #[.int .u8 1, .int .i64 (nextCode m i), .int .u8 0, .int .i64 0] 53)).cell? ⟨w1.heap.size, 3, none⟩ = some (.int .i64 0) := cells_of_block (block_below HE9.out (((HB.out.alloc (by omega) _).alloc (by simp; omega) _).alloc (by simp; omega) _) (by omega)) 3
                        have hE : ((((((wr.setCell ⟨w.heap.size + 1 + 1, 0, none⟩ (.int .u8 r.2.2.2.2.1)).setCell ⟨w.heap.size + 1 + 1, 1, none⟩ (.int .i64 0)).setCell ⟨w.heap.size + 1 + 1, 2, none⟩ (.int .i64 (nextCode m i))).alloc (.cells #[.int .u8 r.1, .int .u8 r.2.1, .int .i64 r.2.2.1, .int .i64 r.2.2.2.1, .int .u8 r.2.2.2.2.1, .int .u8 r.2.2.2.2.2] 65)).alloc (.cells #[.int .u8 r.2.2.2.2.1, .int .i64 0, .int .i64 (nextCode m i)] 24)).alloc (.cells #[.int .u8 1, .int .i64 (nextCode m i), .int .u8 0, .int .i64 0] 53)).heap[w1.heap.size]? = some (.cells (oscells [(7, 0, 0, 0)]).toArray 53 (0, 0)) := by
                          rw [heap_alloc_old, heap_alloc_old, heap_alloc_old]
                          · rw [Below.heap_setCell, Below.heap_setCell, Below.heap_setCell]
                            · exact block_below HE9.out HB.out (by omega)
                            all_goals (simp; omega)
                          all_goals (simp; omega)
                        have g0 : ((((((wr.setCell ⟨w.heap.size + 1 + 1, 0, none⟩ (.int .u8 r.2.2.2.2.1)).setCell ⟨w.heap.size + 1 + 1, 1, none⟩ (.int .i64 0)).setCell ⟨w.heap.size + 1 + 1, 2, none⟩ (.int .i64 (nextCode m i))).alloc (.cells #[.int .u8 r.1, .int .u8 r.2.1, .int .i64 r.2.2.1, .int .i64 r.2.2.2.1, .int .u8 r.2.2.2.2.1, .int .u8 r.2.2.2.2.2] 65)).alloc (.cells #[.int .u8 r.2.2.2.2.1, .int .i64 0, .int .i64 (nextCode m i)] 24)).alloc (.cells #[.int .u8 1, .int .i64 (nextCode m i), .int .u8 0, .int .i64 0] 53)).cell? ⟨w1.heap.size, 0, none⟩ = some (.int .u8 7) := cells_of_block hE 0
                        have g1 : ((((((wr.setCell ⟨w.heap.size + 1 + 1, 0, none⟩ (.int .u8 r.2.2.2.2.1)).setCell ⟨w.heap.size + 1 + 1, 1, none⟩ (.int .i64 0)).setCell ⟨w.heap.size + 1 + 1, 2, none⟩ (.int .i64 (nextCode m i))).alloc (.cells #[.int .u8 r.1, .int .u8 r.2.1, .int .i64 r.2.2.1, .int .i64 r.2.2.2.1, .int .u8 r.2.2.2.2.1, .int .u8 r.2.2.2.2.2] 65)).alloc (.cells #[.int .u8 r.2.2.2.2.1, .int .i64 0, .int .i64 (nextCode m i)] 24)).alloc (.cells #[.int .u8 1, .int .i64 (nextCode m i), .int .u8 0, .int .i64 0] 53)).cell? ⟨w1.heap.size, 1, none⟩ = some (.int .i64 0) := cells_of_block hE 1
                        have g2 : ((((((wr.setCell ⟨w.heap.size + 1 + 1, 0, none⟩ (.int .u8 r.2.2.2.2.1)).setCell ⟨w.heap.size + 1 + 1, 1, none⟩ (.int .i64 0)).setCell ⟨w.heap.size + 1 + 1, 2, none⟩ (.int .i64 (nextCode m i))).alloc (.cells #[.int .u8 r.1, .int .u8 r.2.1, .int .i64 r.2.2.1, .int .i64 r.2.2.2.1, .int .u8 r.2.2.2.2.1, .int .u8 r.2.2.2.2.2] 65)).alloc (.cells #[.int .u8 r.2.2.2.2.1, .int .i64 0, .int .i64 (nextCode m i)] 24)).alloc (.cells #[.int .u8 1, .int .i64 (nextCode m i), .int .u8 0, .int .i64 0] 53)).cell? ⟨w1.heap.size, 2, none⟩ = some (.int .u8 0) := cells_of_block hE 2
                        have g3 : ((((((wr.setCell ⟨w.heap.size + 1 + 1, 0, none⟩ (.int .u8 r.2.2.2.2.1)).setCell ⟨w.heap.size + 1 + 1, 1, none⟩ (.int .i64 0)).setCell ⟨w.heap.size + 1 + 1, 2, none⟩ (.int .i64 (nextCode m i))).alloc (.cells #[.int .u8 r.1, .int .u8 r.2.1, .int .i64 r.2.2.1, .int .i64 r.2.2.2.1, .int .u8 r.2.2.2.2.1, .int .u8 r.2.2.2.2.2] 65)).alloc (.cells #[.int .u8 r.2.2.2.2.1, .int .i64 0, .int .i64 (nextCode m i)] 24)).alloc (.cells #[.int .u8 1, .int .i64 (nextCode m i), .int .u8 0, .int .i64 0] 53)).cell? ⟨w1.heap.size, 3, none⟩ = some (.int .i64 0) := cells_of_block hE 3
                        clear hE
                        go_upto_region 23 with fail
                        go_region
                        go_wp2_with fail
                        refine bodyPost_ret (results_row_tmp rfl _ _ (w.heap.size + 1 + 1) 24 (mcells (r.2.2.2.2.1, 0, nextCode m i)) (0, 0) _ rfl ?_ Try.underlying24 rfl size24) rfl ?_
                        · show (World.alloc (World.alloc (World.alloc (World.alloc _ _) _) _) _).heap[_]? = _
                          rw [heap_alloc_old, heap_alloc_old, heap_alloc_old, heap_alloc_old]
                          · exact block_store3 _ _ _ (HX9.out.below HB.out (by omega)).2.2
                          all_goals (simp; omega)
                        · rw [HF.out]
                          unfold byRow
                          rw [HO.out]
                          refine ⟨_, rfl, own_new (w := World.alloc (World.alloc (World.alloc _ _) _) _) [(6, 0, 0, 0), (7, 0, 0, 0)] 2 rfl (by simp) rfl (by simp [maxLen]) (by simp; omega), ?_⟩
                          exact (((((((((HB9.out.trans (HB.out.mono (by omega))).setCell (by simp; omega) _).setCell (by simp; omega) _).setCell (by simp; omega) _).alloc (by simp; omega) _).alloc (by simp; omega) _).alloc (by simp; omega) _).alloc (by simp; omega) _)).drew
                      · have d7 : (r.2.2.2.2.2 == 6) = false := by simp [o6]
                        have HO : Hid (outsOf m i r = [(1, nextCode m i, 0, 0)]) := by
                          show outsOf m i r = _
                          unfold outsOf; rw [if_neg o4, if_neg o6]
                        clear o4 o6
                        go_upto_region 24 with fail
                        go_region
                        go_wp2_with fail
                        refine bodyPost_ret (results_row_tmp rfl _ _ (w.heap.size + 1 + 1) 24 (mcells (r.2.2.2.2.1, 0, nextCode m i)) (0, 0) _ rfl ?_ Try.underlying24 rfl size24) rfl ?_
                        · show (World.alloc (World.alloc (World.alloc (World.alloc _ _) _) _) _).heap[_]? = _
                          rw [heap_alloc_old, heap_alloc_old, heap_alloc_old, heap_alloc_old]
                          · exact block_store3 _ _ _ (HX9.out.below HB.out (by omega)).2.2
                          all_goals (simp; omega)
                        · rw [HF.out]
                          unfold byRow
                          rw [HO.out]
                          refine ⟨_, rfl, own_new (w := World.alloc (World.alloc (World.alloc _ _) _) _) [(1, nextCode m i, 0, 0)] 1 rfl (by simp) rfl (by simp [maxLen]) (by simp; omega), ?_⟩
                          exact (((((((((HB9.out.trans (HB.out.mono (by omega))).setCell (by simp; omega) _).setCell (by simp; omega) _).setCell (by simp; omega) _).alloc (by simp; omega) _).alloc (by simp; omega) _).alloc (by simp; omega) _).alloc (by simp; omega) _)).drew
            · have d2 : (r.2.1 != i.1) = true := by simp [x2]
              have HF : Hid (fits m i r = false) := by
                show fits m i r = false
                unfold fits
                rw [decide_eq_false x2, Bool.and_false, Bool.false_and, Bool.false_and]
              clear x2
              go_wp2_with fail
              go_roundw
              case rel => exact ⟨n + 1, by go_num, by omega, by rw [← HR.out, HD.out, byRows, if_neg (by simp [HF.out])], HB.out.alloc (by omega) _⟩
              case measure => simp [intOf]; omega
          · have d1 : (r.1 != m.1) = true := by simp [x1]
            have HF : Hid (fits m i r = false) := by
              show fits m i r = false
              unfold fits
              rw [decide_eq_false x1, Bool.false_and, Bool.false_and, Bool.false_and]
            clear x1
            go_wp2_with fail
            go_roundw
            case rel => exact ⟨n + 1, by go_num, by omega, by rw [← HR.out, HD.out, byRows, if_neg (by simp [HF.out])], HB.out.alloc (by omega) _⟩
            case measure => simp [intOf]; omega
        · have he : n = 8 := by omega
          subst he
          go_wp2_with fail
          refine bodyPost_ret (results_row_tmp rfl _ _ (w.heap.size + 1 + 1) 24 (mcells m) (0, 0) _ rfl (block_store3 _ _ _ (HX9.out.below HB.out (by omega)).2.2) Try.underlying24 rfl size24) rfl ?_
          have e : byRows m i rowsS = (m, []) := HR.out.symm
          rw [e]
          exact ⟨_, rfl, World.ownsRow_nil _ _ _ _, (((HB9.out.trans (HB.out.mono (by omega))).setCell (by simp; omega) _).setCell (by simp; omega) _).setCell (by simp; omega) _⟩

end Go.Proofs.Ytilnibedblmoeaa
