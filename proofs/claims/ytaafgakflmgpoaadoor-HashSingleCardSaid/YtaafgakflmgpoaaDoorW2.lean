/- The walk of schedule. -/
import Derived.Test.YtaafgakflmgpoaaDoorWords
import Derived.StillTailTactics
namespace Go.Proofs.YtaafgakflmgpoaaDoor
open Go.RowKit

def good8 (l : List Int) : Prop := ∀ i, 0 ≤ l.getD i 0 ∧ l.getD i 0 ≤ 255

theorem word_prog {b : List Int} (hg : good8 b) (i : Nat) :
    bits .or .u32 (bits .or .u32 (bits .or .u32 (b.getD (4 * i) 0 * 16777216) (b.getD (4 * i + 1) 0 * 65536)) (b.getD (4 * i + 2) 0 * 256)) (b.getD (4 * i + 3) 0) = wordS b i :=
  or_word _ _ _ _ (hg _) (hg _) (hg _) (hg _)

set_option maxRecDepth 100000 in
set_option maxHeartbeats 4000000 in
theorem sched_any (b : List Int) (hb : b.length = 64) (hg : good8 b) (w : World) : Calls Tryd.prog 31 #[.agg (u8s b).toArray] w fun e w' => e = .returned (.agg (u32s (schedS b 64)).toArray) ∧ Below w.heap.size w w' := by
  have HB : Hid (b.length = 64) := hb
  have HG : Hid (good8 b) := hg
  clear hb hg
  go_enter Tryd.func31, Tryd.ntmps31
  go_wp2
  generalize hW : World.alloc (World.alloc (World.alloc w _) _) _ = w3
  obtain ⟨hb0, hr0, hw0, hz, hbl⟩ := three_gen hW
  have HB0 : Hid (w3.heap[w.heap.size]? = some (.cells (u8s b).toArray 30 (0, 0))) := hb0
  have HR0 : Hid (w3.heap[w.heap.size + 1]? = some (.cells (u32s (zeros 64)).toArray 50 (0, 0))) := hr0
  have HW0 : Hid (w3.heap[w.heap.size + 1 + 1]? = some (.cells (u32s (schedS b 0 ++ zeros 64)).toArray 50 (0, 0))) := hw0
  have HL : Hid (Below w.heap.size w w3) := hbl
  clear hb0 hr0 hw0 hbl hW
  go_loopw [8] (fun i wr => ∃ k : Nat, k ≤ 16 ∧ i = .int .i64 k ∧ Below (w.heap.size + 1 + 1) w3 wr ∧ wr.heap[w.heap.size + 1 + 1]? = some (.cells (u32s (schedS b k ++ zeros (64 - k))).toArray 50 (0, 0))) (fun i _ => 16 - (intOf i).toNat)
  case atStart => exact ⟨0, by omega, rfl, Below.refl _ _, HW0.out⟩
  case round =>
    obtain ⟨k, hk, rfl, hbr, hwr⟩ := hrel
    have HBR : Hid (Below (w.heap.size + 1 + 1) w3 wr) := hbr
    have HWR : Hid (wr.heap[w.heap.size + 1 + 1]? = some (.cells (u32s (schedS b k ++ zeros (64 - k))).toArray 50 (0, 0))) := hwr
    have hbw := block_below HB0.out hbr (by omega)
    by_cases hlt : k < 16
    · have hki : (k : Int) < 16 := by omega
      have hl := HB.out
      have c0 := cell_u8 (i := 4 * k) hbw (by omega)
      have c1 := cell_u8 (i := 4 * k + 1) hbw (by omega)
      have c2 := cell_u8 (i := 4 * k + 2) hbw (by omega)
      have c3 := cell_u8 (i := 4 * k + 3) hbw (by omega)
      have f0 := frozen_of_row wr (w.heap.size + 1 + 1) k _ _ hwr
      have cW := cell_u32 (i := k) hwr (by simp [schedS_len, zeros_len]; omega)
      have q2 : w.heap.size + 1 + 1 < wr.heap.size := (Array.getElem?_eq_some_iff.1 hwr).1
      have q0 : w.heap.size < wr.heap.size := by omega
      have HWD : Hid _ := word_prog HG.out k
      have b0 := HG.out (4 * k)
      have b1 := HG.out (4 * k + 1)
      have b2 := HG.out (4 * k + 2)
      have b3 := HG.out (4 * k + 3)
      obtain ⟨b00, b01⟩ := b0
      obtain ⟨b10, b11⟩ := b1
      obtain ⟨b20, b21⟩ := b2
      obtain ⟨b30, b31⟩ := b3
      clear hl hbr hwr hbw
      generalize b.getD (4 * k) 0 = x0 at *
      generalize b.getD (4 * k + 1) 0 = x1 at *
      generalize b.getD (4 * k + 2) 0 = x2 at *
      generalize b.getD (4 * k + 3) 0 = x3 at *
      have e0 : IntKind.i64.wrap (4 * (k : Int)) = 4 * (k : Int) := IntWalk.i64_in _ (by omega)
      have e1 : IntKind.i64.wrap (4 * (k : Int) + 1) = 4 * (k : Int) + 1 := IntWalk.i64_in _ (by omega)
      have e2 : IntKind.i64.wrap (4 * (k : Int) + 2) = 4 * (k : Int) + 2 := IntWalk.i64_in _ (by omega)
      have e3 : IntKind.i64.wrap (4 * (k : Int) + 3) = 4 * (k : Int) + 3 := IntWalk.i64_in _ (by omega)
      have n0 : (4 * (k : Int)).toNat = 4 * k := by omega
      have n1 : (4 * (k : Int) + 1).toNat = 4 * k + 1 := by omega
      have n2 : (4 * (k : Int) + 2).toNat = 4 * k + 2 := by omega
      have n3 : (4 * (k : Int) + 3).toNat = 4 * k + 3 := by omega
      have l0 : 0 ≤ 4 * (k : Int) := by omega
      have l1 : 0 ≤ 4 * (k : Int) + 1 := by omega
      have l2 : 0 ≤ 4 * (k : Int) + 2 := by omega
      have l3 : 0 ≤ 4 * (k : Int) + 3 := by omega
      have s0 : IntKind.u32.wrap (x0 * 16777216) = x0 * 16777216 := IntWalk.u32_in _ (by omega)
      have s1 : IntKind.u32.wrap (x1 * 65536) = x1 * 65536 := IntWalk.u32_in _ (by omega)
      have s2 : IntKind.u32.wrap (x2 * 256) = x2 * 256 := IntWalk.u32_in _ (by omega)
      have t0 : IntKind.u32.wrap x0 = x0 := IntWalk.u32_in _ (by omega)
      have t1 : IntKind.u32.wrap x1 = x1 := IntWalk.u32_in _ (by omega)
      have t2 : IntKind.u32.wrap x2 = x2 := IntWalk.u32_in _ (by omega)
      have t3 : IntKind.u32.wrap x3 = x3 := IntWalk.u32_in _ (by omega)
      have g0 : 4 * (k : Int) < 64 := by omega
      have g1 : 4 * (k : Int) + 1 < 64 := by omega
      have g2 : 4 * (k : Int) + 2 < 64 := by omega
      have g3 : 4 * (k : Int) + 3 < 64 := by omega
      have hk64 : (k : Int) < 64 := by omega
      go_wp2
      go_still_tail 31, (by kernel_rfl)
      clear e0 e1 e2 e3 n0 n1 n2 n3 s0 s1 s2 t0 t1 t2 t3
      go_wp2
      go_roundw
      case rel =>
        refine ⟨k + 1, by omega, by go_num, (HBR.out.setCell (Nat.le_refl _) _).drew, ?_⟩
        have hs := set_u32 HWR.out k (wordS b k)
        rw [show 64 - k = (64 - (k + 1)) + 1 by omega, fill_set _ _ _ _ (schedS_len b k)] at hs
        rw [show schedS b (k + 1) = schedS b k ++ [wordS b k] by simp [schedS, hlt], ← HWD.out]
        rw [← HWD.out] at hs
        exact hs
      case measure => simp [intOf]; omega
    · have hki : ¬ (k : Int) < 16 := by omega
      have hk16 : k = 16 := by omega
      subst hk16
      clear hbr hwr hbw hlt hki hk
      obtain ⟨wo, rfl⟩ : ∃ wo : World, wo = wr := ⟨_, rfl⟩
      rw [show ((16 : Nat) : Int) = (16 : Int) from rfl]
      go_wp2
      go_loopw [5] (fun i wr => ∃ k : Nat, 16 ≤ k ∧ k ≤ 64 ∧ i = .int .i64 k ∧ Below (w.heap.size + 1 + 1) w3 wr ∧ wr.heap[w.heap.size + 1 + 1]? = some (.cells (u32s (schedS b k ++ zeros (64 - k))).toArray 50 (0, 0))) (fun i _ => 64 - (intOf i).toNat)
      case atStart => exact ⟨16, by omega, by omega, rfl, HBR.out, HWR.out⟩
      case round =>
        obtain ⟨k, hk16, hk, rfl, hbr, hwr⟩ := hrel
        have HBR2 : Hid (Below (w.heap.size + 1 + 1) w3 wr) := hbr
        have HWR2 : Hid (wr.heap[w.heap.size + 1 + 1]? = some (.cells (u32s (schedS b k ++ zeros (64 - k))).toArray 50 (0, 0))) := hwr
        have f0 := frozen_of_row wr (w.heap.size + 1 + 1) k _ _ hwr
        have q2 : w.heap.size + 1 + 1 < wr.heap.size := (Array.getElem?_eq_some_iff.1 hwr).1
        by_cases hlt : k < 64
        · have hki : (k : Int) < 64 := by omega
          have hl : (schedS b k ++ zeros (64 - k)).length = 64 := by simp [schedS_len, zeros_len]; omega
          have cW := cell_u32 (i := k) hwr (by omega)
          have c15 := cell_u32 (i := k - 15) hwr (by omega)
          have c2 := cell_u32 (i := k - 2) hwr (by omega)
          have c16 := cell_u32 (i := k - 16) hwr (by omega)
          have c7 := cell_u32 (i := k - 7) hwr (by omega)
          rw [getD_append_left (by rw [schedS_len]; omega)] at c15 c2 c16 c7
          have HN : Hid (schedS b (k + 1) = schedS b k ++ [((schedS b k).getD (k - 16) 0 + (schedS b k).getD (k - 7) 0 + sm0 ((schedS b k).getD (k - 15) 0) + sm1 ((schedS b k).getD (k - 2) 0)) % 4294967296]) := by
            show schedS b (k + 1) = _
            rw [schedS, if_neg (by omega), nextS]
          generalize (schedS b k).getD (k - 15) 0 = y15 at *
          generalize (schedS b k).getD (k - 2) 0 = y2 at *
          generalize (schedS b k).getD (k - 16) 0 = y16 at *
          generalize (schedS b k).getD (k - 7) 0 = y7 at *
          have e15 : IntKind.i64.wrap ((k : Int) - 15) = (k : Int) - 15 := IntWalk.i64_in _ (by omega)
          have e2 : IntKind.i64.wrap ((k : Int) - 2) = (k : Int) - 2 := IntWalk.i64_in _ (by omega)
          have e16 : IntKind.i64.wrap ((k : Int) - 16) = (k : Int) - 16 := IntWalk.i64_in _ (by omega)
          have e7 : IntKind.i64.wrap ((k : Int) - 7) = (k : Int) - 7 := IntWalk.i64_in _ (by omega)
          have n15 : ((k : Int) - 15).toNat = k - 15 := by omega
          have n2 : ((k : Int) - 2).toNat = k - 2 := by omega
          have n16 : ((k : Int) - 16).toNat = k - 16 := by omega
          have n7 : ((k : Int) - 7).toNat = k - 7 := by omega
          have l15 : 0 ≤ (k : Int) - 15 := by omega
          have l2 : 0 ≤ (k : Int) - 2 := by omega
          have l16 : 0 ≤ (k : Int) - 16 := by omega
          have l7 : 0 ≤ (k : Int) - 7 := by omega
          have g15 : (k : Int) - 15 < 64 := by omega
          have g2 : (k : Int) - 2 < 64 := by omega
          have g16 : (k : Int) - 16 < 64 := by omega
          have g7 : (k : Int) - 7 < 64 := by omega
          have h16 : (16 : Int) ≤ (k : Int) := by omega
          have h7 : (7 : Int) ≤ (k : Int) := by omega
          have h80 : (k : Int) < 80 := by omega
          have h71 : (k : Int) < 71 := by omega
          clear hbr hwr hl
          go_wp2
          go_quiet (fail)
          go_wp2
          have HBR3 : Hid (Below (w.heap.size + 1 + 1) w3 (wr.drewN nq)) := below_drewN HBR2.out nq
          have hw3 : (wr.drewN nq).heap[w.heap.size + 1 + 1]? = some (.cells (u32s (schedS b k ++ zeros (64 - k))).toArray 50 (0, 0)) := HWR2.out
          rw [← World.cell?_drewN (n := nq)] at c16 c7 cW
          rw [← World.frozen?_drewN (n := nq)] at f0
          have q3 : w.heap.size + 1 + 1 < (wr.drewN nq).heap.size := q2
          generalize wr.drewN nq = wq at HBR3 hw3 c16 c7 cW f0 q3 ⊢
          have HWR3 : Hid (wq.heap[w.heap.size + 1 + 1]? = some (.cells (u32s (schedS b k ++ zeros (64 - k))).toArray 50 (0, 0))) := hw3
          clear hw3 c15 c2 q2
          refine wp_region_still_tail 29 (by kernel_rfl) (by kernel_rfl) ?_
          simp only [List.take_succ_cons, List.take_zero, List.drop_succ_cons, List.drop_zero]
          repeat (first
            | still_step
            | still_call (rot_still 7 _ _ _ rfl (by simp [Turn]))
            | still_call (rot_still 18 _ _ _ rfl (by simp [Turn]))
            | still_call (rot_still 17 _ _ _ rfl (by simp [Turn]))
            | still_call (rot_still 19 _ _ _ rfl (by simp [Turn])))
          try refine wpStill_nil ?_
          clear e15 e2 e16 e7 n15 n2 n16 n7
          go_wp2
          go_roundw
          case rel =>
            refine ⟨k + 1, by omega, by omega, by go_num, (HBR3.out.setCell (Nat.le_refl _) _).drew, ?_⟩
            have hs := set_u32 HWR3.out k ((y16 + y7 + sm0 y15 + sm1 y2) % 4294967296)
            rw [show 64 - k = (64 - (k + 1)) + 1 by omega, fill_set _ _ _ _ (schedS_len b k), ← HN.out] at hs
            exact hs
          case measure => simp [intOf]; omega
        · have hk64 : k = 64 := by omega
          subst hk64
          have HT : Hid (schedS b 64 ++ zeros (64 - 64) = schedS b 64) := by show schedS b 64 ++ [] = _; simp
          rw [HT.out] at hwr
          have HWF : Hid (wr.heap[w.heap.size + 1 + 1]? = some (.cells (u32s (schedS b 64)).toArray 50 (0, 0))) := hwr
          have HRF : Hid (wr.heap[w.heap.size + 1]? = some (.cells (u32s (zeros 64)).toArray 50 (0, 0))) := block_below HR0.out hbr (by omega)
          have HBF : Hid (Below w.heap.size w wr) := HL.out.trans (hbr.mono (by omega))
          have HLen : Hid ((schedS b 64).length = 64) := schedS_len b 64
          obtain ⟨sc, hsc⟩ : ∃ sc, sc = schedS b 64 := ⟨_, rfl⟩
          rw [← hsc] at HWF HLen
          have HSC : Hid (sc = schedS b 64) := hsc
          clear hsc
          clear hbr hwr f0 HT
          rw [show ((64 : Nat) : Int) = (64 : Int) from rfl]
          go_wp2_with (first
            | (refine wpList_load_row rfl 50 (.tmp 3) rfl (w.heap.size + 1 + 1) rfl 50 (u32s sc).toArray (0, 0) _ HWF.out Tryd.underlying50 rfl (size50 HLen.out) ?_)
            | (refine wpList_store_row rfl 50 (.tmp 2) (.tmp 84) rfl (w.heap.size + 1) rfl (u32s sc).toArray rfl 50 _ HRF.out (by simp [u32s_len, zeros_len, HLen.out]) (size50 HLen.out) (one_u32 sc) ?_))
          exact bodyPost_ret (results_cell_row rfl _ _ (w.heap.size + 1) 50 (u32s sc).toArray (0, 0) _ rfl (setRow_heap _ _ _ _ _ _ HRF.out) Tryd.underlying50 rfl (size50 HLen.out)) rfl ⟨by rw [HSC.out], below_setRow HBF.out (by omega) _⟩

end Go.Proofs.YtaafgakflmgpoaaDoor
