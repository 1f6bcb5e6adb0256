/- The walk of Sum, both. -/
import Derived.Test.YtaafgakflmgpoaaDoorW10
namespace Go.Proofs.YtaafgakflmgpoaaDoor
open Go.RowKit

theorem finish_len (s : St) : (finishS s).length = 32 := outS_len _

set_option maxRecDepth 100000 in
set_option maxHeartbeats 4000000 in
theorem sum_any {B : Nat} (A : Option Addr) (c : Nat) (l : List Int) (w : World) (hL : Laid w) (hB : B ≤ w.heap.size) (h : Rd w B A (u8s l)) (hl : l.length ≤ maxLen) (hc : l.length ≤ c) (hcm : c ≤ maxLen) (hg : ∀ b ∈ l, goodB b) :
    Calls Tryd.prog 13 #[.slice A l.length c] w fun e w' => e = .returned (.agg (u8s (sumS l)).toArray) ∧ Below w.heap.size w w' := by
  have HLd : Hid (Laid w) := hL
  have HR : Hid (Rd w w.heap.size A (u8s l)) := h.more hB
  have HG : Hid (∀ b ∈ l, goodB b) := hg
  have HC : Hid (l.length ≤ maxLen ∧ l.length ≤ c ∧ c ≤ maxLen) := ⟨hl, hc, hcm⟩
  have hw2 := hL.lt
  clear h hg hB hL hl hc hcm
  have z24 := zero24
  go_enter Tryd.func13, Tryd.ntmps13
  go_upto_region 1 with fail
  have hn : (w.alloc (.cells (u8s (zeros 32)).toArray 24 (0, 0))).heap[w.heap.size]? = some (.cells (u8s (zeros 32)).toArray 24 (0, 0)) := heap_alloc_new _ _
  have hB : Below w.heap.size w (w.alloc (.cells (u8s (zeros 32)).toArray 24 (0, 0))) := (Below.refl _ _).alloc (Nat.le_refl _) _
  have hz : (w.alloc (.cells (u8s (zeros 32)).toArray 24 (0, 0))).heap.size = w.heap.size + 1 := by simp
  generalize World.alloc w _ = w1 at hn hB hz ⊢
  have HN : Hid (w1.heap[w.heap.size]? = some (.cells (u8s (zeros 32)).toArray 24 (0, 0))) := hn
  have HB : Hid (Below w.heap.size w w1) := hB
  have HZ : Hid (w1.heap.size = w.heap.size + 1) := hz
  clear hn hB hz
  go_wp2_with fail
  refine (start_any _ (HLd.out.below HB.out hw2)).mono ?_
  rintro e w2 ⟨rfl, hb2⟩
  have hz := HZ.out
  have hb2' : Below w.heap.size w w2 := HB.out.trans (hb2.mono (by omega))
  have HN2 : Hid (w2.heap[w.heap.size]? = some (.cells (u8s (zeros 32)).toArray 24 (0, 0))) := block_below HN.out hb2 (by omega)
  have HB2 : Hid (Below w.heap.size w w2) := hb2'
  have hq2 : w.heap.size < w2.heap.size := by have := hb2.size; omega
  clear hb2 hb2' hz
  go_wp2_with fail
  refine (feed_any startS start_wf A c l w2 (HLd.out.below HB2.out hw2) (B := w.heap.size) (by omega) (HR.out.below HB2.out) HC.out.1 HC.out.2.1 HC.out.2.2 HG.out).mono ?_
  rintro e w3 ⟨rfl, hb3⟩
  have HN3 : Hid (w3.heap[w.heap.size]? = some (.cells (u8s (zeros 32)).toArray 24 (0, 0))) := block_below HN2.out hb3 (by omega)
  have HB3 : Hid (Below w.heap.size w w3) := HB2.out.trans (hb3.mono (by omega))
  have hq3 : w.heap.size < w3.heap.size := by have := hb3.size; omega
  clear hb3 hq2
  have HWf : Hid (Wf (feedS startS l)) := start_wf.feed HG.out
  have HS : Hid (finishS (feedS startS l) = sumS l) := rfl
  generalize feedS startS l = f at HWf HS ⊢
  go_wp2_with fail
  refine (finish_any f HWf.out w3 (HLd.out.below HB3.out hw2)).mono ?_
  rw [HS.out]
  rintro e w4 ⟨rfl, hb4⟩
  have HN4 : Hid (w4.heap[w.heap.size]? = some (.cells (u8s (zeros 32)).toArray 24 (0, 0))) := block_below HN3.out hb4 (by omega)
  have HB4 : Hid (Below w.heap.size w w4) := HB3.out.trans (hb4.mono (by omega))
  have HFL : Hid ((sumS l).length = 32) := finish_len _
  clear hb4 hq3
  go_wp2_with (refine wpList_store_row rfl 24 (.tmp 2) (.tmp 6) rfl w.heap.size rfl (u8s (sumS l)).toArray rfl 24 _ HN4.out (by rw [List.size_toArray, List.size_toArray, u8s_len, u8s_len, HFL.out, zeros_len]) (size24 HFL.out) (one_u8 _) ?_)
  exact bodyPost_ret (results_cell_row rfl _ _ w.heap.size 24 (u8s (sumS l)).toArray (0, 0) _ rfl (setRow_heap _ _ _ _ _ _ HN4.out) Tryd.underlying24 rfl (size24 HFL.out)) rfl ⟨rfl, below_setRow HB4.out (Nat.le_refl _) _⟩

set_option maxRecDepth 100000 in
set_option maxHeartbeats 4000000 in
theorem rsum_any {B : Nat} (A : Option Addr) (c : Nat) (l : List Int) (w : World) (hB : B ≤ w.heap.size) (h : Rd w B A (u8s l)) (hl : l.length ≤ maxLen) (hg : ∀ b ∈ l, goodB b) :
    Calls Tryd.prog 12 #[.slice A l.length c] w fun e w' => e = .returned (.agg (u8s (sumS l)).toArray) ∧ Below w.heap.size w w' := by
  have HR : Hid (Rd w w.heap.size A (u8s l)) := h.more hB
  have HG : Hid (∀ b ∈ l, goodB b) := hg
  have HC : Hid (l.length ≤ maxLen) := hl
  clear h hg hB hl
  have z24 := zero24
  go_enter Tryd.func12, Tryd.ntmps12
  go_upto_region 1 with fail
  have hn : (w.alloc (.cells (u8s (zeros 32)).toArray 24 (0, 0))).heap[w.heap.size]? = some (.cells (u8s (zeros 32)).toArray 24 (0, 0)) := heap_alloc_new _ _
  have hB : Below w.heap.size w (w.alloc (.cells (u8s (zeros 32)).toArray 24 (0, 0))) := (Below.refl _ _).alloc (Nat.le_refl _) _
  have hz : (w.alloc (.cells (u8s (zeros 32)).toArray 24 (0, 0))).heap.size = w.heap.size + 1 := by simp
  generalize World.alloc w _ = w1 at hn hB hz ⊢
  have HN : Hid (w1.heap[w.heap.size]? = some (.cells (u8s (zeros 32)).toArray 24 (0, 0))) := hn
  have HB : Hid (Below w.heap.size w w1) := hB
  have HZ : Hid (w1.heap.size = w.heap.size + 1) := hz
  clear hn hB hz
  go_wp2_with fail
  refine (rstart_any _).mono ?_
  rintro e w2 ⟨rfl, hb2⟩
  have hz := HZ.out
  have hb2' : Below w.heap.size w w2 := HB.out.trans (hb2.mono (by omega))
  have HN2 : Hid (w2.heap[w.heap.size]? = some (.cells (u8s (zeros 32)).toArray 24 (0, 0))) := block_below HN.out hb2 (by omega)
  have HB2 : Hid (Below w.heap.size w w2) := hb2'
  have hq2 : w.heap.size < w2.heap.size := by have := hb2.size; omega
  clear hb2 hb2' hz
  go_wp2_with fail
  refine (rfeed_any startS start_wf A c l w2 (B := w.heap.size) (by omega) (HR.out.below HB2.out) HC.out HG.out).mono ?_
  rintro e w3 ⟨rfl, hb3⟩
  have HN3 : Hid (w3.heap[w.heap.size]? = some (.cells (u8s (zeros 32)).toArray 24 (0, 0))) := block_below HN2.out hb3 (by omega)
  have HB3 : Hid (Below w.heap.size w w3) := HB2.out.trans (hb3.mono (by omega))
  have hq3 : w.heap.size < w3.heap.size := by have := hb3.size; omega
  clear hb3 hq2
  have HWf : Hid (Wf (feedS startS l)) := start_wf.feed HG.out
  have HS : Hid (finishS (feedS startS l) = sumS l) := rfl
  generalize feedS startS l = f at HWf HS ⊢
  go_wp2_with fail
  refine (rfinish_any f HWf.out w3).mono ?_
  rw [HS.out]
  rintro e w4 ⟨rfl, hb4⟩
  have HN4 : Hid (w4.heap[w.heap.size]? = some (.cells (u8s (zeros 32)).toArray 24 (0, 0))) := block_below HN3.out hb4 (by omega)
  have HB4 : Hid (Below w.heap.size w w4) := HB3.out.trans (hb4.mono (by omega))
  have HFL : Hid ((sumS l).length = 32) := finish_len _
  clear hb4 hq3
  go_wp2_with (refine wpList_store_row rfl 24 (.tmp 2) (.tmp 6) rfl w.heap.size rfl (u8s (sumS l)).toArray rfl 24 _ HN4.out (by rw [List.size_toArray, List.size_toArray, u8s_len, u8s_len, HFL.out, zeros_len]) (size24 HFL.out) (one_u8 _) ?_)
  exact bodyPost_ret (results_cell_row rfl _ _ w.heap.size 24 (u8s (sumS l)).toArray (0, 0) _ rfl (setRow_heap _ _ _ _ _ _ HN4.out) Tryd.underlying24 rfl (size24 HFL.out)) rfl ⟨rfl, below_setRow HB4.out (Nat.le_refl _) _⟩

end Go.Proofs.YtaafgakflmgpoaaDoor
