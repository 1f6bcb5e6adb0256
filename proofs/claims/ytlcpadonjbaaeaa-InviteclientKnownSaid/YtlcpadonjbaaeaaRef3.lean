/- The walk of the reference's Step. (Printed by wip/t12/genRef3.py.) -/
import Derived.Test.YtlcpadonjbaaeaaRef2
namespace Go.Proofs.Ytlcpadonjbaaeaa
open Go.RowKit

set_option maxRecDepth 100000 in
set_option maxHeartbeats 2000000 in
theorem rs_bad (s k t n c d : Int) (w : World) (hmay : mayS (s, n, c) = false) : Calls Try.prog 31 #[mval (s, n, c), ival (k, d, t)] w (GivesS w ((0, 0, 0), [])) := by
  go_enter Try.func31, Try.ntmps31
  go_upto_region 1 with fail
  have hm1 := three_alloc w (.cells #[.int .u8 s, .int .i64 n, .int .i64 c] 31) (.cells #[.int .u8 k, .int .i64 d, .int .u8 t] 42) (.cells #[.int .u8 0, .int .i64 0, .int .i64 0] 31)
  have z1 : (((w.alloc (.cells #[.int .u8 s, .int .i64 n, .int .i64 c] 31)).alloc (.cells #[.int .u8 k, .int .i64 d, .int .u8 t] 42)).alloc (.cells #[.int .u8 0, .int .i64 0, .int .i64 0] 31)).heap.size = w.heap.size + 1 + 1 + 1 := by simp
  generalize World.alloc (World.alloc (World.alloc w _) _) _ = w1 at hm1 z1 ⊢
  obtain ⟨hm, hi, hr, hb⟩ := hm1
  have HM : Hid (w1.heap[w.heap.size]? = some (.cells #[.int .u8 s, .int .i64 n, .int .i64 c] 31 (0, 0))) := hm
  have HI : Hid (w1.heap[w.heap.size + 1]? = some (.cells #[.int .u8 k, .int .i64 d, .int .u8 t] 42 (0, 0))) := hi
  have HR : Hid (w1.heap[w.heap.size + 1 + 1]? = some (.cells #[.int .u8 0, .int .i64 0, .int .i64 0] 31 (0, 0))) := hr
  have HB : Hid (Below w.heap.size w w1) := hb
  have HZ : Hid (w1.heap.size = w.heap.size + 1 + 1 + 1) := z1
  have a0 := mc3 hm
  have HMay : Hid _ := hmay
  clear hm hi hr hb z1 hmay
  go_wp2_with fail
  refine (rmay_any (s, n, c) w1).mono ?_
  rw [HMay.out]
  rintro e w2 ⟨rfl, hb2⟩
  have HL2 : Hid (w.heap.size < w2.heap.size ∧ w.heap.size + 1 < w2.heap.size ∧ w.heap.size + 1 + 1 < w2.heap.size) := by have := HZ.out; have := hb2.size; show _ ∧ _ ∧ _; omega
  have HM2 : Hid (w2.heap[w.heap.size]? = some (.cells #[.int .u8 s, .int .i64 n, .int .i64 c] 31 (0, 0))) := block_below HM.out hb2 (by have := HZ.out; omega)
  have HI2 : Hid (w2.heap[w.heap.size + 1]? = some (.cells #[.int .u8 k, .int .i64 d, .int .u8 t] 42 (0, 0))) := block_below HI.out hb2 (by have := HZ.out; omega)
  have HR2 : Hid (w2.heap[w.heap.size + 1 + 1]? = some (.cells #[.int .u8 0, .int .i64 0, .int .i64 0] 31 (0, 0))) := block_below HR.out hb2 (by have := HZ.out; omega)
  have HB2 : Hid (Below w.heap.size w w2) := HB.out.trans (hb2.mono (by have := HZ.out; omega))
  clear hb2 a0
  obtain ⟨x0, x1, x2⟩ := mc3 HM2.out
  obtain ⟨y0, y1, y2⟩ := mc3 HI2.out
  obtain ⟨⟨r0, r1, r2⟩, rf⟩ := cells3 HR2.out
  obtain ⟨l0, l1, l2⟩ := HL2.out
  go_wp2_with fail
  refine bodyPost_ret (results_row_tmp rfl _ _ (w.heap.size + 1 + 1) 31 (mcells (0, 0, 0)) (0, 0) _ rfl (block_store3 _ _ _ HR2.out) Try.underlying31 rfl size31) rfl ?_
  refine ⟨_, rfl, World.ownsRow_nil _ _ _ _, ?_⟩
  exact ((HB2.out.setCell (by simp; omega) _).setCell (by simp; omega) _).setCell (by simp; omega) _

set_option maxRecDepth 100000 in
set_option maxHeartbeats 2000000 in
theorem rs_resp (s t n c d : Int) (w : World) (hmay : mayS (s, n, c) = true) : Calls Try.prog 31 #[mval (s, n, c), ival (2, d, t)] w (GivesS w (responseR (s, n, c) d)) := by
  go_enter Try.func31, Try.ntmps31
  go_upto_region 1 with fail
  have hm1 := three_alloc w (.cells #[.int .u8 s, .int .i64 n, .int .i64 c] 31) (.cells #[.int .u8 2, .int .i64 d, .int .u8 t] 42) (.cells #[.int .u8 0, .int .i64 0, .int .i64 0] 31)
  have z1 : (((w.alloc (.cells #[.int .u8 s, .int .i64 n, .int .i64 c] 31)).alloc (.cells #[.int .u8 2, .int .i64 d, .int .u8 t] 42)).alloc (.cells #[.int .u8 0, .int .i64 0, .int .i64 0] 31)).heap.size = w.heap.size + 1 + 1 + 1 := by simp
  generalize World.alloc (World.alloc (World.alloc w _) _) _ = w1 at hm1 z1 ⊢
  obtain ⟨hm, hi, hr, hb⟩ := hm1
  have HM : Hid (w1.heap[w.heap.size]? = some (.cells #[.int .u8 s, .int .i64 n, .int .i64 c] 31 (0, 0))) := hm
  have HI : Hid (w1.heap[w.heap.size + 1]? = some (.cells #[.int .u8 2, .int .i64 d, .int .u8 t] 42 (0, 0))) := hi
  have HR : Hid (w1.heap[w.heap.size + 1 + 1]? = some (.cells #[.int .u8 0, .int .i64 0, .int .i64 0] 31 (0, 0))) := hr
  have HB : Hid (Below w.heap.size w w1) := hb
  have HZ : Hid (w1.heap.size = w.heap.size + 1 + 1 + 1) := z1
  have a0 := mc3 hm
  have HMay : Hid _ := hmay
  clear hm hi hr hb z1 hmay
  go_wp2_with fail
  refine (rmay_any (s, n, c) w1).mono ?_
  rw [HMay.out]
  rintro e w2 ⟨rfl, hb2⟩
  have HL2 : Hid (w.heap.size < w2.heap.size ∧ w.heap.size + 1 < w2.heap.size ∧ w.heap.size + 1 + 1 < w2.heap.size) := by have := HZ.out; have := hb2.size; show _ ∧ _ ∧ _; omega
  have HM2 : Hid (w2.heap[w.heap.size]? = some (.cells #[.int .u8 s, .int .i64 n, .int .i64 c] 31 (0, 0))) := block_below HM.out hb2 (by have := HZ.out; omega)
  have HI2 : Hid (w2.heap[w.heap.size + 1]? = some (.cells #[.int .u8 2, .int .i64 d, .int .u8 t] 42 (0, 0))) := block_below HI.out hb2 (by have := HZ.out; omega)
  have HR2 : Hid (w2.heap[w.heap.size + 1 + 1]? = some (.cells #[.int .u8 0, .int .i64 0, .int .i64 0] 31 (0, 0))) := block_below HR.out hb2 (by have := HZ.out; omega)
  have HB2 : Hid (Below w.heap.size w w2) := HB.out.trans (hb2.mono (by have := HZ.out; omega))
  clear hb2 a0
  obtain ⟨x0, x1, x2⟩ := mc3 HM2.out
  obtain ⟨y0, y1, y2⟩ := mc3 HI2.out
  obtain ⟨⟨r0, r1, r2⟩, rf⟩ := cells3 HR2.out
  obtain ⟨l0, l1, l2⟩ := HL2.out
  obtain ⟨r, hr⟩ : ∃ r, r = responseR (s, n, c) d := ⟨_, rfl⟩
  rw [← hr]
  have HRr : Hid (r = responseR (s, n, c) d) := hr
  clear hr
  go_wp2_with fail
  refine (response_any (s, n, c) d w2).mono ?_
  rw [← HRr.out]
  rintro e w6 ⟨v6, rfl, hown, hb6⟩
  have HO6 : Hid (w6.ownsRow w2.heap.size 48 4 v6 r.2.length (oscells (r.2))) := hown
  have HR6 : Hid (w6.heap[w.heap.size + 1 + 1]? = some (.cells #[.int .u8 0, .int .i64 0, .int .i64 0] 31 (0, 0))) := block_below HR2.out hb6 HL2.out.2.2
  have HB6 : Hid (Below w.heap.size w w6) := HB2.out.trans (hb6.mono (by have := HL2.out.1; omega))
  clear r0 r1 r2 rf
  obtain ⟨⟨r0, r1, r2⟩, rf⟩ := cells3 HR6.out
  have p6 : w.heap.size + 1 + 1 < w6.heap.size := by have := HL2.out.2.2; have := hb6.size; omega
  clear hown hb6 x0 x1 x2 y0 y1 y2
  go_wp2_with fail
  refine bodyPost_ret (results_row_tmp rfl _ _ (w.heap.size + 1 + 1) 31 (mcells (r.1)) (0, 0) _ rfl (block_store3 _ _ _ HR6.out) Try.underlying31 rfl size31) rfl ?_
  rw [← HRr.out]
  refine ⟨_, rfl, own_base (own_heap (w' := ((w6.setCell ⟨w.heap.size + 1 + 1, 0, none⟩ (.int .u8 (r.1).1)).setCell ⟨w.heap.size + 1 + 1, 1, none⟩ (.int .i64 (r.1).2.1)).setCell ⟨w.heap.size + 1 + 1, 2, none⟩ (.int .i64 (r.1).2.2)) HO6.out (fun b hb => by
    have hlt := (HO6.out.lt b hb).1
    have hx : b ≠ w.heap.size + 1 + 1 := by have := HL2.out.2.2; omega
    rw [Below.heap_setCell _ _ _ _ hx, Below.heap_setCell _ _ _ _ hx, Below.heap_setCell _ _ _ _ hx])) (show w.heap.size ≤ w2.heap.size by have := HL2.out.1; omega), ?_⟩
  exact ((HB6.out.setCell (by simp; omega) _).setCell (by simp; omega) _).setCell (by simp; omega) _

set_option maxRecDepth 100000 in
set_option maxHeartbeats 2000000 in
theorem rs_timeout (n c d : Int) (w : World) (hmay : mayS (1, n, c) = true) : Calls Try.prog 31 #[mval (1, n, c), ival (5, d, 2)] w (GivesS w (endedR (1, n, c) [(5, 0, 0, 0)])) := by
  go_enter Try.func31, Try.ntmps31
  go_upto_region 1 with fail
  have hm1 := three_alloc w (.cells #[.int .u8 1, .int .i64 n, .int .i64 c] 31) (.cells #[.int .u8 5, .int .i64 d, .int .u8 2] 42) (.cells #[.int .u8 0, .int .i64 0, .int .i64 0] 31)
  have z1 : (((w.alloc (.cells #[.int .u8 1, .int .i64 n, .int .i64 c] 31)).alloc (.cells #[.int .u8 5, .int .i64 d, .int .u8 2] 42)).alloc (.cells #[.int .u8 0, .int .i64 0, .int .i64 0] 31)).heap.size = w.heap.size + 1 + 1 + 1 := by simp
  generalize World.alloc (World.alloc (World.alloc w _) _) _ = w1 at hm1 z1 ⊢
  obtain ⟨hm, hi, hr, hb⟩ := hm1
  have HM : Hid (w1.heap[w.heap.size]? = some (.cells #[.int .u8 1, .int .i64 n, .int .i64 c] 31 (0, 0))) := hm
  have HI : Hid (w1.heap[w.heap.size + 1]? = some (.cells #[.int .u8 5, .int .i64 d, .int .u8 2] 42 (0, 0))) := hi
  have HR : Hid (w1.heap[w.heap.size + 1 + 1]? = some (.cells #[.int .u8 0, .int .i64 0, .int .i64 0] 31 (0, 0))) := hr
  have HB : Hid (Below w.heap.size w w1) := hb
  have HZ : Hid (w1.heap.size = w.heap.size + 1 + 1 + 1) := z1
  have a0 := mc3 hm
  have HMay : Hid _ := hmay
  clear hm hi hr hb z1 hmay
  go_wp2_with fail
  refine (rmay_any (1, n, c) w1).mono ?_
  rw [HMay.out]
  rintro e w2 ⟨rfl, hb2⟩
  have HL2 : Hid (w.heap.size < w2.heap.size ∧ w.heap.size + 1 < w2.heap.size ∧ w.heap.size + 1 + 1 < w2.heap.size) := by have := HZ.out; have := hb2.size; show _ ∧ _ ∧ _; omega
  have HM2 : Hid (w2.heap[w.heap.size]? = some (.cells #[.int .u8 1, .int .i64 n, .int .i64 c] 31 (0, 0))) := block_below HM.out hb2 (by have := HZ.out; omega)
  have HI2 : Hid (w2.heap[w.heap.size + 1]? = some (.cells #[.int .u8 5, .int .i64 d, .int .u8 2] 42 (0, 0))) := block_below HI.out hb2 (by have := HZ.out; omega)
  have HR2 : Hid (w2.heap[w.heap.size + 1 + 1]? = some (.cells #[.int .u8 0, .int .i64 0, .int .i64 0] 31 (0, 0))) := block_below HR.out hb2 (by have := HZ.out; omega)
  have HB2 : Hid (Below w.heap.size w w2) := HB.out.trans (hb2.mono (by have := HZ.out; omega))
  clear hb2 a0
  obtain ⟨x0, x1, x2⟩ := mc3 HM2.out
  obtain ⟨y0, y1, y2⟩ := mc3 HI2.out
  obtain ⟨⟨r0, r1, r2⟩, rf⟩ := cells3 HR2.out
  obtain ⟨l0, l1, l2⟩ := HL2.out
  go_wp2_with fail
  have hba : Below w2.heap.size w2 (w2.alloc (.cells (ocells (5, 0, 0, 0)).toArray 48)) := (Below.refl _ _).alloc (Nat.le_refl _) _
  refine (ended_any (base := w2.heap.size) (1, n, c) _ [(5, 0, 0, 0)] _ (own_new [(5, 0, 0, 0)] 1 rfl rfl rfl (by simp [maxLen]) (Nat.le_refl _)) (by simp) (by simp)).mono ?_
  rintro e w6 ⟨v6, rfl, hown, hb6'⟩
  have hb6 : Below w2.heap.size w2 w6 := hba.trans hb6'
  clear hba hb6'
  have HO6 : Hid (w6.ownsRow w2.heap.size 48 4 v6 2 (oscells ([(5, 0, 0, 0)] ++ [(7, 0, 0, 0)]))) := hown
  have HR6 : Hid (w6.heap[w.heap.size + 1 + 1]? = some (.cells #[.int .u8 0, .int .i64 0, .int .i64 0] 31 (0, 0))) := block_below HR2.out hb6 HL2.out.2.2
  have HB6 : Hid (Below w.heap.size w w6) := HB2.out.trans (hb6.mono (by have := HL2.out.1; omega))
  clear r0 r1 r2 rf
  obtain ⟨⟨r0, r1, r2⟩, rf⟩ := cells3 HR6.out
  have p6 : w.heap.size + 1 + 1 < w6.heap.size := by have := HL2.out.2.2; have := hb6.size; omega
  clear hown hb6 x0 x1 x2 y0 y1 y2
  go_wp2_with fail
  refine bodyPost_ret (results_row_tmp rfl _ _ (w.heap.size + 1 + 1) 31 (mcells (7, 0, c)) (0, 0) _ rfl (block_store3 _ _ _ HR6.out) Try.underlying31 rfl size31) rfl ?_
  refine ⟨_, rfl, own_base (own_heap (w' := ((w6.setCell ⟨w.heap.size + 1 + 1, 0, none⟩ (.int .u8 (7, 0, c).1)).setCell ⟨w.heap.size + 1 + 1, 1, none⟩ (.int .i64 (7, 0, c).2.1)).setCell ⟨w.heap.size + 1 + 1, 2, none⟩ (.int .i64 (7, 0, c).2.2)) HO6.out (fun b hb => by
    have hlt := (HO6.out.lt b hb).1
    have hx : b ≠ w.heap.size + 1 + 1 := by have := HL2.out.2.2; omega
    rw [Below.heap_setCell _ _ _ _ hx, Below.heap_setCell _ _ _ _ hx, Below.heap_setCell _ _ _ _ hx])) (show w.heap.size ≤ w2.heap.size by have := HL2.out.1; omega), ?_⟩
  exact ((HB6.out.setCell (by simp; omega) _).setCell (by simp; omega) _).setCell (by simp; omega) _

set_option maxRecDepth 100000 in
set_option maxHeartbeats 2000000 in
theorem rs_fail1 (t n c d : Int) (w : World) (hmay : mayS (1, n, c) = true) : Calls Try.prog 31 #[mval (1, n, c), ival (6, d, t)] w (GivesS w (endedR (1, n, c) [(6, 0, 0, 0)])) := by
  go_enter Try.func31, Try.ntmps31
  go_upto_region 1 with fail
  have hm1 := three_alloc w (.cells #[.int .u8 1, .int .i64 n, .int .i64 c] 31) (.cells #[.int .u8 6, .int .i64 d, .int .u8 t] 42) (.cells #[.int .u8 0, .int .i64 0, .int .i64 0] 31)
  have z1 : (((w.alloc (.cells #[.int .u8 1, .int .i64 n, .int .i64 c] 31)).alloc (.cells #[.int .u8 6, .int .i64 d, .int .u8 t] 42)).alloc (.cells #[.int .u8 0, .int .i64 0, .int .i64 0] 31)).heap.size = w.heap.size + 1 + 1 + 1 := by simp
  generalize World.alloc (World.alloc (World.alloc w _) _) _ = w1 at hm1 z1 ⊢
  obtain ⟨hm, hi, hr, hb⟩ := hm1
  have HM : Hid (w1.heap[w.heap.size]? = some (.cells #[.int .u8 1, .int .i64 n, .int .i64 c] 31 (0, 0))) := hm
  have HI : Hid (w1.heap[w.heap.size + 1]? = some (.cells #[.int .u8 6, .int .i64 d, .int .u8 t] 42 (0, 0))) := hi
  have HR : Hid (w1.heap[w.heap.size + 1 + 1]? = some (.cells #[.int .u8 0, .int .i64 0, .int .i64 0] 31 (0, 0))) := hr
  have HB : Hid (Below w.heap.size w w1) := hb
  have HZ : Hid (w1.heap.size = w.heap.size + 1 + 1 + 1) := z1
  have a0 := mc3 hm
  have HMay : Hid _ := hmay
  clear hm hi hr hb z1 hmay
  go_wp2_with fail
  refine (rmay_any (1, n, c) w1).mono ?_
  rw [HMay.out]
  rintro e w2 ⟨rfl, hb2⟩
  have HL2 : Hid (w.heap.size < w2.heap.size ∧ w.heap.size + 1 < w2.heap.size ∧ w.heap.size + 1 + 1 < w2.heap.size) := by have := HZ.out; have := hb2.size; show _ ∧ _ ∧ _; omega
  have HM2 : Hid (w2.heap[w.heap.size]? = some (.cells #[.int .u8 1, .int .i64 n, .int .i64 c] 31 (0, 0))) := block_below HM.out hb2 (by have := HZ.out; omega)
  have HI2 : Hid (w2.heap[w.heap.size + 1]? = some (.cells #[.int .u8 6, .int .i64 d, .int .u8 t] 42 (0, 0))) := block_below HI.out hb2 (by have := HZ.out; omega)
  have HR2 : Hid (w2.heap[w.heap.size + 1 + 1]? = some (.cells #[.int .u8 0, .int .i64 0, .int .i64 0] 31 (0, 0))) := block_below HR.out hb2 (by have := HZ.out; omega)
  have HB2 : Hid (Below w.heap.size w w2) := HB.out.trans (hb2.mono (by have := HZ.out; omega))
  clear hb2 a0
  obtain ⟨x0, x1, x2⟩ := mc3 HM2.out
  obtain ⟨y0, y1, y2⟩ := mc3 HI2.out
  obtain ⟨⟨r0, r1, r2⟩, rf⟩ := cells3 HR2.out
  obtain ⟨l0, l1, l2⟩ := HL2.out
  go_wp2_with fail
  have hba : Below w2.heap.size w2 (w2.alloc (.cells (ocells (6, 0, 0, 0)).toArray 48)) := (Below.refl _ _).alloc (Nat.le_refl _) _
  refine (ended_any (base := w2.heap.size) (1, n, c) _ [(6, 0, 0, 0)] _ (own_new [(6, 0, 0, 0)] 1 rfl rfl rfl (by simp [maxLen]) (Nat.le_refl _)) (by simp) (by simp)).mono ?_
  rintro e w6 ⟨v6, rfl, hown, hb6'⟩
  have hb6 : Below w2.heap.size w2 w6 := hba.trans hb6'
  clear hba hb6'
  have HO6 : Hid (w6.ownsRow w2.heap.size 48 4 v6 2 (oscells ([(6, 0, 0, 0)] ++ [(7, 0, 0, 0)]))) := hown
  have HR6 : Hid (w6.heap[w.heap.size + 1 + 1]? = some (.cells #[.int .u8 0, .int .i64 0, .int .i64 0] 31 (0, 0))) := block_below HR2.out hb6 HL2.out.2.2
  have HB6 : Hid (Below w.heap.size w w6) := HB2.out.trans (hb6.mono (by have := HL2.out.1; omega))
  clear r0 r1 r2 rf
  obtain ⟨⟨r0, r1, r2⟩, rf⟩ := cells3 HR6.out
  have p6 : w.heap.size + 1 + 1 < w6.heap.size := by have := HL2.out.2.2; have := hb6.size; omega
  clear hown hb6 x0 x1 x2 y0 y1 y2
  go_wp2_with fail
  refine bodyPost_ret (results_row_tmp rfl _ _ (w.heap.size + 1 + 1) 31 (mcells (7, 0, c)) (0, 0) _ rfl (block_store3 _ _ _ HR6.out) Try.underlying31 rfl size31) rfl ?_
  refine ⟨_, rfl, own_base (own_heap (w' := ((w6.setCell ⟨w.heap.size + 1 + 1, 0, none⟩ (.int .u8 (7, 0, c).1)).setCell ⟨w.heap.size + 1 + 1, 1, none⟩ (.int .i64 (7, 0, c).2.1)).setCell ⟨w.heap.size + 1 + 1, 2, none⟩ (.int .i64 (7, 0, c).2.2)) HO6.out (fun b hb => by
    have hlt := (HO6.out.lt b hb).1
    have hx : b ≠ w.heap.size + 1 + 1 := by have := HL2.out.2.2; omega
    rw [Below.heap_setCell _ _ _ _ hx, Below.heap_setCell _ _ _ _ hx, Below.heap_setCell _ _ _ _ hx])) (show w.heap.size ≤ w2.heap.size by have := HL2.out.1; omega), ?_⟩
  exact ((HB6.out.setCell (by simp; omega) _).setCell (by simp; omega) _).setCell (by simp; omega) _

set_option maxRecDepth 100000 in
set_option maxHeartbeats 2000000 in
theorem rs_fail5 (t n c d : Int) (w : World) (hmay : mayS (5, n, c) = true) : Calls Try.prog 31 #[mval (5, n, c), ival (6, d, t)] w (GivesS w (endedR (5, n, c) [(6, 0, 0, 0)])) := by
  go_enter Try.func31, Try.ntmps31
  go_upto_region 1 with fail
  have hm1 := three_alloc w (.cells #[.int .u8 5, .int .i64 n, .int .i64 c] 31) (.cells #[.int .u8 6, .int .i64 d, .int .u8 t] 42) (.cells #[.int .u8 0, .int .i64 0, .int .i64 0] 31)
  have z1 : (((w.alloc (.cells #[.int .u8 5, .int .i64 n, .int .i64 c] 31)).alloc (.cells #[.int .u8 6, .int .i64 d, .int .u8 t] 42)).alloc (.cells #[.int .u8 0, .int .i64 0, .int .i64 0] 31)).heap.size = w.heap.size + 1 + 1 + 1 := by simp
  generalize World.alloc (World.alloc (World.alloc w _) _) _ = w1 at hm1 z1 ⊢
  obtain ⟨hm, hi, hr, hb⟩ := hm1
  have HM : Hid (w1.heap[w.heap.size]? = some (.cells #[.int .u8 5, .int .i64 n, .int .i64 c] 31 (0, 0))) := hm
  have HI : Hid (w1.heap[w.heap.size + 1]? = some (.cells #[.int .u8 6, .int .i64 d, .int .u8 t] 42 (0, 0))) := hi
  have HR : Hid (w1.heap[w.heap.size + 1 + 1]? = some (.cells #[.int .u8 0, .int .i64 0, .int .i64 0] 31 (0, 0))) := hr
  have HB : Hid (Below w.heap.size w w1) := hb
  have HZ : Hid (w1.heap.size = w.heap.size + 1 + 1 + 1) := z1
  have a0 := mc3 hm
  have HMay : Hid _ := hmay
  clear hm hi hr hb z1 hmay
  go_wp2_with fail
  refine (rmay_any (5, n, c) w1).mono ?_
  rw [HMay.out]
  rintro e w2 ⟨rfl, hb2⟩
  have HL2 : Hid (w.heap.size < w2.heap.size ∧ w.heap.size + 1 < w2.heap.size ∧ w.heap.size + 1 + 1 < w2.heap.size) := by have := HZ.out; have := hb2.size; show _ ∧ _ ∧ _; omega
  have HM2 : Hid (w2.heap[w.heap.size]? = some (.cells #[.int .u8 5, .int .i64 n, .int .i64 c] 31 (0, 0))) := block_below HM.out hb2 (by have := HZ.out; omega)
  have HI2 : Hid (w2.heap[w.heap.size + 1]? = some (.cells #[.int .u8 6, .int .i64 d, .int .u8 t] 42 (0, 0))) := block_below HI.out hb2 (by have := HZ.out; omega)
  have HR2 : Hid (w2.heap[w.heap.size + 1 + 1]? = some (.cells #[.int .u8 0, .int .i64 0, .int .i64 0] 31 (0, 0))) := block_below HR.out hb2 (by have := HZ.out; omega)
  have HB2 : Hid (Below w.heap.size w w2) := HB.out.trans (hb2.mono (by have := HZ.out; omega))
  clear hb2 a0
  obtain ⟨x0, x1, x2⟩ := mc3 HM2.out
  obtain ⟨y0, y1, y2⟩ := mc3 HI2.out
  obtain ⟨⟨r0, r1, r2⟩, rf⟩ := cells3 HR2.out
  obtain ⟨l0, l1, l2⟩ := HL2.out
  go_wp2_with fail
  have hba : Below w2.heap.size w2 (w2.alloc (.cells (ocells (6, 0, 0, 0)).toArray 48)) := (Below.refl _ _).alloc (Nat.le_refl _) _
  refine (ended_any (base := w2.heap.size) (5, n, c) _ [(6, 0, 0, 0)] _ (own_new [(6, 0, 0, 0)] 1 rfl rfl rfl (by simp [maxLen]) (Nat.le_refl _)) (by simp) (by simp)).mono ?_
  rintro e w6 ⟨v6, rfl, hown, hb6'⟩
  have hb6 : Below w2.heap.size w2 w6 := hba.trans hb6'
  clear hba hb6'
  have HO6 : Hid (w6.ownsRow w2.heap.size 48 4 v6 2 (oscells ([(6, 0, 0, 0)] ++ [(7, 0, 0, 0)]))) := hown
  have HR6 : Hid (w6.heap[w.heap.size + 1 + 1]? = some (.cells #[.int .u8 0, .int .i64 0, .int .i64 0] 31 (0, 0))) := block_below HR2.out hb6 HL2.out.2.2
  have HB6 : Hid (Below w.heap.size w w6) := HB2.out.trans (hb6.mono (by have := HL2.out.1; omega))
  clear r0 r1 r2 rf
  obtain ⟨⟨r0, r1, r2⟩, rf⟩ := cells3 HR6.out
  have p6 : w.heap.size + 1 + 1 < w6.heap.size := by have := HL2.out.2.2; have := hb6.size; omega
  clear hown hb6 x0 x1 x2 y0 y1 y2
  go_wp2_with fail
  refine bodyPost_ret (results_row_tmp rfl _ _ (w.heap.size + 1 + 1) 31 (mcells (7, 0, c)) (0, 0) _ rfl (block_store3 _ _ _ HR6.out) Try.underlying31 rfl size31) rfl ?_
  refine ⟨_, rfl, own_base (own_heap (w' := ((w6.setCell ⟨w.heap.size + 1 + 1, 0, none⟩ (.int .u8 (7, 0, c).1)).setCell ⟨w.heap.size + 1 + 1, 1, none⟩ (.int .i64 (7, 0, c).2.1)).setCell ⟨w.heap.size + 1 + 1, 2, none⟩ (.int .i64 (7, 0, c).2.2)) HO6.out (fun b hb => by
    have hlt := (HO6.out.lt b hb).1
    have hx : b ≠ w.heap.size + 1 + 1 := by have := HL2.out.2.2; omega
    rw [Below.heap_setCell _ _ _ _ hx, Below.heap_setCell _ _ _ _ hx, Below.heap_setCell _ _ _ _ hx])) (show w.heap.size ≤ w2.heap.size by have := HL2.out.1; omega), ?_⟩
  exact ((HB6.out.setCell (by simp; omega) _).setCell (by simp; omega) _).setCell (by simp; omega) _

set_option maxRecDepth 100000 in
set_option maxHeartbeats 2000000 in
theorem rs_m4 (n c d : Int) (w : World) (hmay : mayS (4, n, c) = true) : Calls Try.prog 31 #[mval (4, n, c), ival (5, d, 13)] w (GivesS w (endedR (4, n, c) ([] : List Out))) := by
  go_enter Try.func31, Try.ntmps31
  go_upto_region 1 with fail
  have hm1 := three_alloc w (.cells #[.int .u8 4, .int .i64 n, .int .i64 c] 31) (.cells #[.int .u8 5, .int .i64 d, .int .u8 13] 42) (.cells #[.int .u8 0, .int .i64 0, .int .i64 0] 31)
  have z1 : (((w.alloc (.cells #[.int .u8 4, .int .i64 n, .int .i64 c] 31)).alloc (.cells #[.int .u8 5, .int .i64 d, .int .u8 13] 42)).alloc (.cells #[.int .u8 0, .int .i64 0, .int .i64 0] 31)).heap.size = w.heap.size + 1 + 1 + 1 := by simp
  generalize World.alloc (World.alloc (World.alloc w _) _) _ = w1 at hm1 z1 ⊢
  obtain ⟨hm, hi, hr, hb⟩ := hm1
  have HM : Hid (w1.heap[w.heap.size]? = some (.cells #[.int .u8 4, .int .i64 n, .int .i64 c] 31 (0, 0))) := hm
  have HI : Hid (w1.heap[w.heap.size + 1]? = some (.cells #[.int .u8 5, .int .i64 d, .int .u8 13] 42 (0, 0))) := hi
  have HR : Hid (w1.heap[w.heap.size + 1 + 1]? = some (.cells #[.int .u8 0, .int .i64 0, .int .i64 0] 31 (0, 0))) := hr
  have HB : Hid (Below w.heap.size w w1) := hb
  have HZ : Hid (w1.heap.size = w.heap.size + 1 + 1 + 1) := z1
  have a0 := mc3 hm
  have HMay : Hid _ := hmay
  clear hm hi hr hb z1 hmay
  go_wp2_with fail
  refine (rmay_any (4, n, c) w1).mono ?_
  rw [HMay.out]
  rintro e w2 ⟨rfl, hb2⟩
  have HL2 : Hid (w.heap.size < w2.heap.size ∧ w.heap.size + 1 < w2.heap.size ∧ w.heap.size + 1 + 1 < w2.heap.size) := by have := HZ.out; have := hb2.size; show _ ∧ _ ∧ _; omega
  have HM2 : Hid (w2.heap[w.heap.size]? = some (.cells #[.int .u8 4, .int .i64 n, .int .i64 c] 31 (0, 0))) := block_below HM.out hb2 (by have := HZ.out; omega)
  have HI2 : Hid (w2.heap[w.heap.size + 1]? = some (.cells #[.int .u8 5, .int .i64 d, .int .u8 13] 42 (0, 0))) := block_below HI.out hb2 (by have := HZ.out; omega)
  have HR2 : Hid (w2.heap[w.heap.size + 1 + 1]? = some (.cells #[.int .u8 0, .int .i64 0, .int .i64 0] 31 (0, 0))) := block_below HR.out hb2 (by have := HZ.out; omega)
  have HB2 : Hid (Below w.heap.size w w2) := HB.out.trans (hb2.mono (by have := HZ.out; omega))
  clear hb2 a0
  obtain ⟨x0, x1, x2⟩ := mc3 HM2.out
  obtain ⟨y0, y1, y2⟩ := mc3 HI2.out
  obtain ⟨⟨r0, r1, r2⟩, rf⟩ := cells3 HR2.out
  obtain ⟨l0, l1, l2⟩ := HL2.out
  go_wp2_with fail
  refine (ended_any (base := w2.heap.size) (4, n, c) (.slice none 0 0) [] w2 (World.ownsRow_nil _ _ _ _) (by simp) (Nat.le_refl _)).mono ?_
  rintro e w6 ⟨v6, rfl, hown, hb6⟩
  have HO6 : Hid (w6.ownsRow w2.heap.size 48 4 v6 1 (oscells (([] : List Out) ++ [(7, 0, 0, 0)]))) := hown
  have HR6 : Hid (w6.heap[w.heap.size + 1 + 1]? = some (.cells #[.int .u8 0, .int .i64 0, .int .i64 0] 31 (0, 0))) := block_below HR2.out hb6 HL2.out.2.2
  have HB6 : Hid (Below w.heap.size w w6) := HB2.out.trans (hb6.mono (by have := HL2.out.1; omega))
  clear r0 r1 r2 rf
  obtain ⟨⟨r0, r1, r2⟩, rf⟩ := cells3 HR6.out
  have p6 : w.heap.size + 1 + 1 < w6.heap.size := by have := HL2.out.2.2; have := hb6.size; omega
  clear hown hb6 x0 x1 x2 y0 y1 y2
  go_wp2_with fail
  refine bodyPost_ret (results_row_tmp rfl _ _ (w.heap.size + 1 + 1) 31 (mcells (7, 0, c)) (0, 0) _ rfl (block_store3 _ _ _ HR6.out) Try.underlying31 rfl size31) rfl ?_
  refine ⟨_, rfl, own_base (own_heap (w' := ((w6.setCell ⟨w.heap.size + 1 + 1, 0, none⟩ (.int .u8 (7, 0, c).1)).setCell ⟨w.heap.size + 1 + 1, 1, none⟩ (.int .i64 (7, 0, c).2.1)).setCell ⟨w.heap.size + 1 + 1, 2, none⟩ (.int .i64 (7, 0, c).2.2)) HO6.out (fun b hb => by
    have hlt := (HO6.out.lt b hb).1
    have hx : b ≠ w.heap.size + 1 + 1 := by have := HL2.out.2.2; omega
    rw [Below.heap_setCell _ _ _ _ hx, Below.heap_setCell _ _ _ _ hx, Below.heap_setCell _ _ _ _ hx])) (show w.heap.size ≤ w2.heap.size by have := HL2.out.1; omega), ?_⟩
  exact ((HB6.out.setCell (by simp; omega) _).setCell (by simp; omega) _).setCell (by simp; omega) _

set_option maxRecDepth 100000 in
set_option maxHeartbeats 2000000 in
theorem rs_d5 (n c d : Int) (w : World) (hmay : mayS (5, n, c) = true) : Calls Try.prog 31 #[mval (5, n, c), ival (5, d, 4)] w (GivesS w (endedR (5, n, c) ([] : List Out))) := by
  go_enter Try.func31, Try.ntmps31
  go_upto_region 1 with fail
  have hm1 := three_alloc w (.cells #[.int .u8 5, .int .i64 n, .int .i64 c] 31) (.cells #[.int .u8 5, .int .i64 d, .int .u8 4] 42) (.cells #[.int .u8 0, .int .i64 0, .int .i64 0] 31)
  have z1 : (((w.alloc (.cells #[.int .u8 5, .int .i64 n, .int .i64 c] 31)).alloc (.cells #[.int .u8 5, .int .i64 d, .int .u8 4] 42)).alloc (.cells #[.int .u8 0, .int .i64 0, .int .i64 0] 31)).heap.size = w.heap.size + 1 + 1 + 1 := by simp
  generalize World.alloc (World.alloc (World.alloc w _) _) _ = w1 at hm1 z1 ⊢
  obtain ⟨hm, hi, hr, hb⟩ := hm1
  have HM : Hid (w1.heap[w.heap.size]? = some (.cells #[.int .u8 5, .int .i64 n, .int .i64 c] 31 (0, 0))) := hm
  have HI : Hid (w1.heap[w.heap.size + 1]? = some (.cells #[.int .u8 5, .int .i64 d, .int .u8 4] 42 (0, 0))) := hi
  have HR : Hid (w1.heap[w.heap.size + 1 + 1]? = some (.cells #[.int .u8 0, .int .i64 0, .int .i64 0] 31 (0, 0))) := hr
  have HB : Hid (Below w.heap.size w w1) := hb
  have HZ : Hid (w1.heap.size = w.heap.size + 1 + 1 + 1) := z1
  have a0 := mc3 hm
  have HMay : Hid _ := hmay
  clear hm hi hr hb z1 hmay
  go_wp2_with fail
  refine (rmay_any (5, n, c) w1).mono ?_
  rw [HMay.out]
  rintro e w2 ⟨rfl, hb2⟩
  have HL2 : Hid (w.heap.size < w2.heap.size ∧ w.heap.size + 1 < w2.heap.size ∧ w.heap.size + 1 + 1 < w2.heap.size) := by have := HZ.out; have := hb2.size; show _ ∧ _ ∧ _; omega
  have HM2 : Hid (w2.heap[w.heap.size]? = some (.cells #[.int .u8 5, .int .i64 n, .int .i64 c] 31 (0, 0))) := block_below HM.out hb2 (by have := HZ.out; omega)
  have HI2 : Hid (w2.heap[w.heap.size + 1]? = some (.cells #[.int .u8 5, .int .i64 d, .int .u8 4] 42 (0, 0))) := block_below HI.out hb2 (by have := HZ.out; omega)
  have HR2 : Hid (w2.heap[w.heap.size + 1 + 1]? = some (.cells #[.int .u8 0, .int .i64 0, .int .i64 0] 31 (0, 0))) := block_below HR.out hb2 (by have := HZ.out; omega)
  have HB2 : Hid (Below w.heap.size w w2) := HB.out.trans (hb2.mono (by have := HZ.out; omega))
  clear hb2 a0
  obtain ⟨x0, x1, x2⟩ := mc3 HM2.out
  obtain ⟨y0, y1, y2⟩ := mc3 HI2.out
  obtain ⟨⟨r0, r1, r2⟩, rf⟩ := cells3 HR2.out
  obtain ⟨l0, l1, l2⟩ := HL2.out
  go_wp2_with fail
  refine (ended_any (base := w2.heap.size) (5, n, c) (.slice none 0 0) [] w2 (World.ownsRow_nil _ _ _ _) (by simp) (Nat.le_refl _)).mono ?_
  rintro e w6 ⟨v6, rfl, hown, hb6⟩
  have HO6 : Hid (w6.ownsRow w2.heap.size 48 4 v6 1 (oscells (([] : List Out) ++ [(7, 0, 0, 0)]))) := hown
  have HR6 : Hid (w6.heap[w.heap.size + 1 + 1]? = some (.cells #[.int .u8 0, .int .i64 0, .int .i64 0] 31 (0, 0))) := block_below HR2.out hb6 HL2.out.2.2
  have HB6 : Hid (Below w.heap.size w w6) := HB2.out.trans (hb6.mono (by have := HL2.out.1; omega))
  clear r0 r1 r2 rf
  obtain ⟨⟨r0, r1, r2⟩, rf⟩ := cells3 HR6.out
  have p6 : w.heap.size + 1 + 1 < w6.heap.size := by have := HL2.out.2.2; have := hb6.size; omega
  clear hown hb6 x0 x1 x2 y0 y1 y2
  go_wp2_with fail
  refine bodyPost_ret (results_row_tmp rfl _ _ (w.heap.size + 1 + 1) 31 (mcells (7, 0, c)) (0, 0) _ rfl (block_store3 _ _ _ HR6.out) Try.underlying31 rfl size31) rfl ?_
  refine ⟨_, rfl, own_base (own_heap (w' := ((w6.setCell ⟨w.heap.size + 1 + 1, 0, none⟩ (.int .u8 (7, 0, c).1)).setCell ⟨w.heap.size + 1 + 1, 1, none⟩ (.int .i64 (7, 0, c).2.1)).setCell ⟨w.heap.size + 1 + 1, 2, none⟩ (.int .i64 (7, 0, c).2.2)) HO6.out (fun b hb => by
    have hlt := (HO6.out.lt b hb).1
    have hx : b ≠ w.heap.size + 1 + 1 := by have := HL2.out.2.2; omega
    rw [Below.heap_setCell _ _ _ _ hx, Below.heap_setCell _ _ _ _ hx, Below.heap_setCell _ _ _ _ hx])) (show w.heap.size ≤ w2.heap.size by have := HL2.out.1; omega), ?_⟩
  exact ((HB6.out.setCell (by simp; omega) _).setCell (by simp; omega) _).setCell (by simp; omega) _

set_option maxRecDepth 100000 in
set_option maxHeartbeats 2000000 in
theorem rs_n5_1 (t n c d : Int) (w : World) (hmay : mayS (1, n, c) = true) (t1 : ¬ t = 1) (t2 : ¬ t = 2) : Calls Try.prog 31 #[mval (1, n, c), ival (5, d, t)] w (GivesS w ((1, n, c), [])) := by
  go_enter Try.func31, Try.ntmps31
  go_upto_region 1 with fail
  have hm1 := three_alloc w (.cells #[.int .u8 1, .int .i64 n, .int .i64 c] 31) (.cells #[.int .u8 5, .int .i64 d, .int .u8 t] 42) (.cells #[.int .u8 0, .int .i64 0, .int .i64 0] 31)
  have z1 : (((w.alloc (.cells #[.int .u8 1, .int .i64 n, .int .i64 c] 31)).alloc (.cells #[.int .u8 5, .int .i64 d, .int .u8 t] 42)).alloc (.cells #[.int .u8 0, .int .i64 0, .int .i64 0] 31)).heap.size = w.heap.size + 1 + 1 + 1 := by simp
  generalize World.alloc (World.alloc (World.alloc w _) _) _ = w1 at hm1 z1 ⊢
  obtain ⟨hm, hi, hr, hb⟩ := hm1
  have HM : Hid (w1.heap[w.heap.size]? = some (.cells #[.int .u8 1, .int .i64 n, .int .i64 c] 31 (0, 0))) := hm
  have HI : Hid (w1.heap[w.heap.size + 1]? = some (.cells #[.int .u8 5, .int .i64 d, .int .u8 t] 42 (0, 0))) := hi
  have HR : Hid (w1.heap[w.heap.size + 1 + 1]? = some (.cells #[.int .u8 0, .int .i64 0, .int .i64 0] 31 (0, 0))) := hr
  have HB : Hid (Below w.heap.size w w1) := hb
  have HZ : Hid (w1.heap.size = w.heap.size + 1 + 1 + 1) := z1
  have a0 := mc3 hm
  have HMay : Hid _ := hmay
  clear hm hi hr hb z1 hmay
  go_wp2_with fail
  refine (rmay_any (1, n, c) w1).mono ?_
  rw [HMay.out]
  rintro e w2 ⟨rfl, hb2⟩
  have HL2 : Hid (w.heap.size < w2.heap.size ∧ w.heap.size + 1 < w2.heap.size ∧ w.heap.size + 1 + 1 < w2.heap.size) := by have := HZ.out; have := hb2.size; show _ ∧ _ ∧ _; omega
  have HM2 : Hid (w2.heap[w.heap.size]? = some (.cells #[.int .u8 1, .int .i64 n, .int .i64 c] 31 (0, 0))) := block_below HM.out hb2 (by have := HZ.out; omega)
  have HI2 : Hid (w2.heap[w.heap.size + 1]? = some (.cells #[.int .u8 5, .int .i64 d, .int .u8 t] 42 (0, 0))) := block_below HI.out hb2 (by have := HZ.out; omega)
  have HR2 : Hid (w2.heap[w.heap.size + 1 + 1]? = some (.cells #[.int .u8 0, .int .i64 0, .int .i64 0] 31 (0, 0))) := block_below HR.out hb2 (by have := HZ.out; omega)
  have HB2 : Hid (Below w.heap.size w w2) := HB.out.trans (hb2.mono (by have := HZ.out; omega))
  clear hb2 a0
  obtain ⟨x0, x1, x2⟩ := mc3 HM2.out
  obtain ⟨y0, y1, y2⟩ := mc3 HI2.out
  obtain ⟨⟨r0, r1, r2⟩, rf⟩ := cells3 HR2.out
  obtain ⟨l0, l1, l2⟩ := HL2.out
  go_wp2_with fail
  refine bodyPost_ret (results_row_tmp rfl _ _ (w.heap.size + 1 + 1) 31 (mcells (1, n, c)) (0, 0) _ rfl (block_store3 _ _ _ HR2.out) Try.underlying31 rfl size31) rfl ?_
  refine ⟨_, rfl, World.ownsRow_nil _ _ _ _, ?_⟩
  exact ((HB2.out.setCell (by simp; omega) _).setCell (by simp; omega) _).setCell (by simp; omega) _

set_option maxRecDepth 100000 in
set_option maxHeartbeats 2000000 in
theorem rs_n5_3 (t n c d : Int) (w : World) (hmay : mayS (3, n, c) = true) : Calls Try.prog 31 #[mval (3, n, c), ival (5, d, t)] w (GivesS w ((3, n, c), [])) := by
  go_enter Try.func31, Try.ntmps31
  go_upto_region 1 with fail
  have hm1 := three_alloc w (.cells #[.int .u8 3, .int .i64 n, .int .i64 c] 31) (.cells #[.int .u8 5, .int .i64 d, .int .u8 t] 42) (.cells #[.int .u8 0, .int .i64 0, .int .i64 0] 31)
  have z1 : (((w.alloc (.cells #[.int .u8 3, .int .i64 n, .int .i64 c] 31)).alloc (.cells #[.int .u8 5, .int .i64 d, .int .u8 t] 42)).alloc (.cells #[.int .u8 0, .int .i64 0, .int .i64 0] 31)).heap.size = w.heap.size + 1 + 1 + 1 := by simp
  generalize World.alloc (World.alloc (World.alloc w _) _) _ = w1 at hm1 z1 ⊢
  obtain ⟨hm, hi, hr, hb⟩ := hm1
  have HM : Hid (w1.heap[w.heap.size]? = some (.cells #[.int .u8 3, .int .i64 n, .int .i64 c] 31 (0, 0))) := hm
  have HI : Hid (w1.heap[w.heap.size + 1]? = some (.cells #[.int .u8 5, .int .i64 d, .int .u8 t] 42 (0, 0))) := hi
  have HR : Hid (w1.heap[w.heap.size + 1 + 1]? = some (.cells #[.int .u8 0, .int .i64 0, .int .i64 0] 31 (0, 0))) := hr
  have HB : Hid (Below w.heap.size w w1) := hb
  have HZ : Hid (w1.heap.size = w.heap.size + 1 + 1 + 1) := z1
  have a0 := mc3 hm
  have HMay : Hid _ := hmay
  clear hm hi hr hb z1 hmay
  go_wp2_with fail
  refine (rmay_any (3, n, c) w1).mono ?_
  rw [HMay.out]
  rintro e w2 ⟨rfl, hb2⟩
  have HL2 : Hid (w.heap.size < w2.heap.size ∧ w.heap.size + 1 < w2.heap.size ∧ w.heap.size + 1 + 1 < w2.heap.size) := by have := HZ.out; have := hb2.size; show _ ∧ _ ∧ _; omega
  have HM2 : Hid (w2.heap[w.heap.size]? = some (.cells #[.int .u8 3, .int .i64 n, .int .i64 c] 31 (0, 0))) := block_below HM.out hb2 (by have := HZ.out; omega)
  have HI2 : Hid (w2.heap[w.heap.size + 1]? = some (.cells #[.int .u8 5, .int .i64 d, .int .u8 t] 42 (0, 0))) := block_below HI.out hb2 (by have := HZ.out; omega)
  have HR2 : Hid (w2.heap[w.heap.size + 1 + 1]? = some (.cells #[.int .u8 0, .int .i64 0, .int .i64 0] 31 (0, 0))) := block_below HR.out hb2 (by have := HZ.out; omega)
  have HB2 : Hid (Below w.heap.size w w2) := HB.out.trans (hb2.mono (by have := HZ.out; omega))
  clear hb2 a0
  obtain ⟨x0, x1, x2⟩ := mc3 HM2.out
  obtain ⟨y0, y1, y2⟩ := mc3 HI2.out
  obtain ⟨⟨r0, r1, r2⟩, rf⟩ := cells3 HR2.out
  obtain ⟨l0, l1, l2⟩ := HL2.out
  go_wp2_with fail
  refine bodyPost_ret (results_row_tmp rfl _ _ (w.heap.size + 1 + 1) 31 (mcells (3, n, c)) (0, 0) _ rfl (block_store3 _ _ _ HR2.out) Try.underlying31 rfl size31) rfl ?_
  refine ⟨_, rfl, World.ownsRow_nil _ _ _ _, ?_⟩
  exact ((HB2.out.setCell (by simp; omega) _).setCell (by simp; omega) _).setCell (by simp; omega) _

set_option maxRecDepth 100000 in
set_option maxHeartbeats 2000000 in
theorem rs_n5_4 (t n c d : Int) (w : World) (hmay : mayS (4, n, c) = true) (t1 : ¬ t = 13) : Calls Try.prog 31 #[mval (4, n, c), ival (5, d, t)] w (GivesS w ((4, n, c), [])) := by
  go_enter Try.func31, Try.ntmps31
  go_upto_region 1 with fail
  have hm1 := three_alloc w (.cells #[.int .u8 4, .int .i64 n, .int .i64 c] 31) (.cells #[.int .u8 5, .int .i64 d, .int .u8 t] 42) (.cells #[.int .u8 0, .int .i64 0, .int .i64 0] 31)
  have z1 : (((w.alloc (.cells #[.int .u8 4, .int .i64 n, .int .i64 c] 31)).alloc (.cells #[.int .u8 5, .int .i64 d, .int .u8 t] 42)).alloc (.cells #[.int .u8 0, .int .i64 0, .int .i64 0] 31)).heap.size = w.heap.size + 1 + 1 + 1 := by simp
  generalize World.alloc (World.alloc (World.alloc w _) _) _ = w1 at hm1 z1 ⊢
  obtain ⟨hm, hi, hr, hb⟩ := hm1
  have HM : Hid (w1.heap[w.heap.size]? = some (.cells #[.int .u8 4, .int .i64 n, .int .i64 c] 31 (0, 0))) := hm
  have HI : Hid (w1.heap[w.heap.size + 1]? = some (.cells #[.int .u8 5, .int .i64 d, .int .u8 t] 42 (0, 0))) := hi
  have HR : Hid (w1.heap[w.heap.size + 1 + 1]? = some (.cells #[.int .u8 0, .int .i64 0, .int .i64 0] 31 (0, 0))) := hr
  have HB : Hid (Below w.heap.size w w1) := hb
  have HZ : Hid (w1.heap.size = w.heap.size + 1 + 1 + 1) := z1
  have a0 := mc3 hm
  have HMay : Hid _ := hmay
  clear hm hi hr hb z1 hmay
  go_wp2_with fail
  refine (rmay_any (4, n, c) w1).mono ?_
  rw [HMay.out]
  rintro e w2 ⟨rfl, hb2⟩
  have HL2 : Hid (w.heap.size < w2.heap.size ∧ w.heap.size + 1 < w2.heap.size ∧ w.heap.size + 1 + 1 < w2.heap.size) := by have := HZ.out; have := hb2.size; show _ ∧ _ ∧ _; omega
  have HM2 : Hid (w2.heap[w.heap.size]? = some (.cells #[.int .u8 4, .int .i64 n, .int .i64 c] 31 (0, 0))) := block_below HM.out hb2 (by have := HZ.out; omega)
  have HI2 : Hid (w2.heap[w.heap.size + 1]? = some (.cells #[.int .u8 5, .int .i64 d, .int .u8 t] 42 (0, 0))) := block_below HI.out hb2 (by have := HZ.out; omega)
  have HR2 : Hid (w2.heap[w.heap.size + 1 + 1]? = some (.cells #[.int .u8 0, .int .i64 0, .int .i64 0] 31 (0, 0))) := block_below HR.out hb2 (by have := HZ.out; omega)
  have HB2 : Hid (Below w.heap.size w w2) := HB.out.trans (hb2.mono (by have := HZ.out; omega))
  clear hb2 a0
  obtain ⟨x0, x1, x2⟩ := mc3 HM2.out
  obtain ⟨y0, y1, y2⟩ := mc3 HI2.out
  obtain ⟨⟨r0, r1, r2⟩, rf⟩ := cells3 HR2.out
  obtain ⟨l0, l1, l2⟩ := HL2.out
  go_wp2_with fail
  refine bodyPost_ret (results_row_tmp rfl _ _ (w.heap.size + 1 + 1) 31 (mcells (4, n, c)) (0, 0) _ rfl (block_store3 _ _ _ HR2.out) Try.underlying31 rfl size31) rfl ?_
  refine ⟨_, rfl, World.ownsRow_nil _ _ _ _, ?_⟩
  exact ((HB2.out.setCell (by simp; omega) _).setCell (by simp; omega) _).setCell (by simp; omega) _

set_option maxRecDepth 100000 in
set_option maxHeartbeats 2000000 in
theorem rs_n5_5 (t n c d : Int) (w : World) (hmay : mayS (5, n, c) = true) (t1 : ¬ t = 4) : Calls Try.prog 31 #[mval (5, n, c), ival (5, d, t)] w (GivesS w ((5, n, c), [])) := by
  go_enter Try.func31, Try.ntmps31
  go_upto_region 1 with fail
  have hm1 := three_alloc w (.cells #[.int .u8 5, .int .i64 n, .int .i64 c] 31) (.cells #[.int .u8 5, .int .i64 d, .int .u8 t] 42) (.cells #[.int .u8 0, .int .i64 0, .int .i64 0] 31)
  have z1 : (((w.alloc (.cells #[.int .u8 5, .int .i64 n, .int .i64 c] 31)).alloc (.cells #[.int .u8 5, .int .i64 d, .int .u8 t] 42)).alloc (.cells #[.int .u8 0, .int .i64 0, .int .i64 0] 31)).heap.size = w.heap.size + 1 + 1 + 1 := by simp
  generalize World.alloc (World.alloc (World.alloc w _) _) _ = w1 at hm1 z1 ⊢
  obtain ⟨hm, hi, hr, hb⟩ := hm1
  have HM : Hid (w1.heap[w.heap.size]? = some (.cells #[.int .u8 5, .int .i64 n, .int .i64 c] 31 (0, 0))) := hm
  have HI : Hid (w1.heap[w.heap.size + 1]? = some (.cells #[.int .u8 5, .int .i64 d, .int .u8 t] 42 (0, 0))) := hi
  have HR : Hid (w1.heap[w.heap.size + 1 + 1]? = some (.cells #[.int .u8 0, .int .i64 0, .int .i64 0] 31 (0, 0))) := hr
  have HB : Hid (Below w.heap.size w w1) := hb
  have HZ : Hid (w1.heap.size = w.heap.size + 1 + 1 + 1) := z1
  have a0 := mc3 hm
  have HMay : Hid _ := hmay
  clear hm hi hr hb z1 hmay
  go_wp2_with fail
  refine (rmay_any (5, n, c) w1).mono ?_
  rw [HMay.out]
  rintro e w2 ⟨rfl, hb2⟩
  have HL2 : Hid (w.heap.size < w2.heap.size ∧ w.heap.size + 1 < w2.heap.size ∧ w.heap.size + 1 + 1 < w2.heap.size) := by have := HZ.out; have := hb2.size; show _ ∧ _ ∧ _; omega
  have HM2 : Hid (w2.heap[w.heap.size]? = some (.cells #[.int .u8 5, .int .i64 n, .int .i64 c] 31 (0, 0))) := block_below HM.out hb2 (by have := HZ.out; omega)
  have HI2 : Hid (w2.heap[w.heap.size + 1]? = some (.cells #[.int .u8 5, .int .i64 d, .int .u8 t] 42 (0, 0))) := block_below HI.out hb2 (by have := HZ.out; omega)
  have HR2 : Hid (w2.heap[w.heap.size + 1 + 1]? = some (.cells #[.int .u8 0, .int .i64 0, .int .i64 0] 31 (0, 0))) := block_below HR.out hb2 (by have := HZ.out; omega)
  have HB2 : Hid (Below w.heap.size w w2) := HB.out.trans (hb2.mono (by have := HZ.out; omega))
  clear hb2 a0
  obtain ⟨x0, x1, x2⟩ := mc3 HM2.out
  obtain ⟨y0, y1, y2⟩ := mc3 HI2.out
  obtain ⟨⟨r0, r1, r2⟩, rf⟩ := cells3 HR2.out
  obtain ⟨l0, l1, l2⟩ := HL2.out
  go_wp2_with fail
  refine bodyPost_ret (results_row_tmp rfl _ _ (w.heap.size + 1 + 1) 31 (mcells (5, n, c)) (0, 0) _ rfl (block_store3 _ _ _ HR2.out) Try.underlying31 rfl size31) rfl ?_
  refine ⟨_, rfl, World.ownsRow_nil _ _ _ _, ?_⟩
  exact ((HB2.out.setCell (by simp; omega) _).setCell (by simp; omega) _).setCell (by simp; omega) _

set_option maxRecDepth 100000 in
set_option maxHeartbeats 2000000 in
theorem rs_n5_7 (t n c d : Int) (w : World) (hmay : mayS (7, n, c) = true) : Calls Try.prog 31 #[mval (7, n, c), ival (5, d, t)] w (GivesS w ((7, n, c), [])) := by
  go_enter Try.func31, Try.ntmps31
  go_upto_region 1 with fail
  have hm1 := three_alloc w (.cells #[.int .u8 7, .int .i64 n, .int .i64 c] 31) (.cells #[.int .u8 5, .int .i64 d, .int .u8 t] 42) (.cells #[.int .u8 0, .int .i64 0, .int .i64 0] 31)
  have z1 : (((w.alloc (.cells #[.int .u8 7, .int .i64 n, .int .i64 c] 31)).alloc (.cells #[.int .u8 5, .int .i64 d, .int .u8 t] 42)).alloc (.cells #[.int .u8 0, .int .i64 0, .int .i64 0] 31)).heap.size = w.heap.size + 1 + 1 + 1 := by simp
  generalize World.alloc (World.alloc (World.alloc w _) _) _ = w1 at hm1 z1 ⊢
  obtain ⟨hm, hi, hr, hb⟩ := hm1
  have HM : Hid (w1.heap[w.heap.size]? = some (.cells #[.int .u8 7, .int .i64 n, .int .i64 c] 31 (0, 0))) := hm
  have HI : Hid (w1.heap[w.heap.size + 1]? = some (.cells #[.int .u8 5, .int .i64 d, .int .u8 t] 42 (0, 0))) := hi
  have HR : Hid (w1.heap[w.heap.size + 1 + 1]? = some (.cells #[.int .u8 0, .int .i64 0, .int .i64 0] 31 (0, 0))) := hr
  have HB : Hid (Below w.heap.size w w1) := hb
  have HZ : Hid (w1.heap.size = w.heap.size + 1 + 1 + 1) := z1
  have a0 := mc3 hm
  have HMay : Hid _ := hmay
  clear hm hi hr hb z1 hmay
  go_wp2_with fail
  refine (rmay_any (7, n, c) w1).mono ?_
  rw [HMay.out]
  rintro e w2 ⟨rfl, hb2⟩
  have HL2 : Hid (w.heap.size < w2.heap.size ∧ w.heap.size + 1 < w2.heap.size ∧ w.heap.size + 1 + 1 < w2.heap.size) := by have := HZ.out; have := hb2.size; show _ ∧ _ ∧ _; omega
  have HM2 : Hid (w2.heap[w.heap.size]? = some (.cells #[.int .u8 7, .int .i64 n, .int .i64 c] 31 (0, 0))) := block_below HM.out hb2 (by have := HZ.out; omega)
  have HI2 : Hid (w2.heap[w.heap.size + 1]? = some (.cells #[.int .u8 5, .int .i64 d, .int .u8 t] 42 (0, 0))) := block_below HI.out hb2 (by have := HZ.out; omega)
  have HR2 : Hid (w2.heap[w.heap.size + 1 + 1]? = some (.cells #[.int .u8 0, .int .i64 0, .int .i64 0] 31 (0, 0))) := block_below HR.out hb2 (by have := HZ.out; omega)
  have HB2 : Hid (Below w.heap.size w w2) := HB.out.trans (hb2.mono (by have := HZ.out; omega))
  clear hb2 a0
  obtain ⟨x0, x1, x2⟩ := mc3 HM2.out
  obtain ⟨y0, y1, y2⟩ := mc3 HI2.out
  obtain ⟨⟨r0, r1, r2⟩, rf⟩ := cells3 HR2.out
  obtain ⟨l0, l1, l2⟩ := HL2.out
  go_wp2_with fail
  refine bodyPost_ret (results_row_tmp rfl _ _ (w.heap.size + 1 + 1) 31 (mcells (7, n, c)) (0, 0) _ rfl (block_store3 _ _ _ HR2.out) Try.underlying31 rfl size31) rfl ?_
  refine ⟨_, rfl, World.ownsRow_nil _ _ _ _, ?_⟩
  exact ((HB2.out.setCell (by simp; omega) _).setCell (by simp; omega) _).setCell (by simp; omega) _

set_option maxRecDepth 100000 in
set_option maxHeartbeats 2000000 in
theorem rs_n6_3 (t n c d : Int) (w : World) (hmay : mayS (3, n, c) = true) : Calls Try.prog 31 #[mval (3, n, c), ival (6, d, t)] w (GivesS w ((3, n, c), [])) := by
  go_enter Try.func31, Try.ntmps31
  go_upto_region 1 with fail
  have hm1 := three_alloc w (.cells #[.int .u8 3, .int .i64 n, .int .i64 c] 31) (.cells #[.int .u8 6, .int .i64 d, .int .u8 t] 42) (.cells #[.int .u8 0, .int .i64 0, .int .i64 0] 31)
  have z1 : (((w.alloc (.cells #[.int .u8 3, .int .i64 n, .int .i64 c] 31)).alloc (.cells #[.int .u8 6, .int .i64 d, .int .u8 t] 42)).alloc (.cells #[.int .u8 0, .int .i64 0, .int .i64 0] 31)).heap.size = w.heap.size + 1 + 1 + 1 := by simp
  generalize World.alloc (World.alloc (World.alloc w _) _) _ = w1 at hm1 z1 ⊢
  obtain ⟨hm, hi, hr, hb⟩ := hm1
  have HM : Hid (w1.heap[w.heap.size]? = some (.cells #[.int .u8 3, .int .i64 n, .int .i64 c] 31 (0, 0))) := hm
  have HI : Hid (w1.heap[w.heap.size + 1]? = some (.cells #[.int .u8 6, .int .i64 d, .int .u8 t] 42 (0, 0))) := hi
  have HR : Hid (w1.heap[w.heap.size + 1 + 1]? = some (.cells #[.int .u8 0, .int .i64 0, .int .i64 0] 31 (0, 0))) := hr
  have HB : Hid (Below w.heap.size w w1) := hb
  have HZ : Hid (w1.heap.size = w.heap.size + 1 + 1 + 1) := z1
  have a0 := mc3 hm
  have HMay : Hid _ := hmay
  clear hm hi hr hb z1 hmay
  go_wp2_with fail
  refine (rmay_any (3, n, c) w1).mono ?_
  rw [HMay.out]
  rintro e w2 ⟨rfl, hb2⟩
  have HL2 : Hid (w.heap.size < w2.heap.size ∧ w.heap.size + 1 < w2.heap.size ∧ w.heap.size + 1 + 1 < w2.heap.size) := by have := HZ.out; have := hb2.size; show _ ∧ _ ∧ _; omega
  have HM2 : Hid (w2.heap[w.heap.size]? = some (.cells #[.int .u8 3, .int .i64 n, .int .i64 c] 31 (0, 0))) := block_below HM.out hb2 (by have := HZ.out; omega)
  have HI2 : Hid (w2.heap[w.heap.size + 1]? = some (.cells #[.int .u8 6, .int .i64 d, .int .u8 t] 42 (0, 0))) := block_below HI.out hb2 (by have := HZ.out; omega)
  have HR2 : Hid (w2.heap[w.heap.size + 1 + 1]? = some (.cells #[.int .u8 0, .int .i64 0, .int .i64 0] 31 (0, 0))) := block_below HR.out hb2 (by have := HZ.out; omega)
  have HB2 : Hid (Below w.heap.size w w2) := HB.out.trans (hb2.mono (by have := HZ.out; omega))
  clear hb2 a0
  obtain ⟨x0, x1, x2⟩ := mc3 HM2.out
  obtain ⟨y0, y1, y2⟩ := mc3 HI2.out
  obtain ⟨⟨r0, r1, r2⟩, rf⟩ := cells3 HR2.out
  obtain ⟨l0, l1, l2⟩ := HL2.out
  go_wp2_with fail
  refine bodyPost_ret (results_row_tmp rfl _ _ (w.heap.size + 1 + 1) 31 (mcells (3, n, c)) (0, 0) _ rfl (block_store3 _ _ _ HR2.out) Try.underlying31 rfl size31) rfl ?_
  refine ⟨_, rfl, World.ownsRow_nil _ _ _ _, ?_⟩
  exact ((HB2.out.setCell (by simp; omega) _).setCell (by simp; omega) _).setCell (by simp; omega) _

set_option maxRecDepth 100000 in
set_option maxHeartbeats 2000000 in
theorem rs_n6_4 (t n c d : Int) (w : World) (hmay : mayS (4, n, c) = true) : Calls Try.prog 31 #[mval (4, n, c), ival (6, d, t)] w (GivesS w ((4, n, c), [])) := by
  go_enter Try.func31, Try.ntmps31
  go_upto_region 1 with fail
  have hm1 := three_alloc w (.cells #[.int .u8 4, .int .i64 n, .int .i64 c] 31) (.cells #[.int .u8 6, .int .i64 d, .int .u8 t] 42) (.cells #[.int .u8 0, .int .i64 0, .int .i64 0] 31)
  have z1 : (((w.alloc (.cells #[.int .u8 4, .int .i64 n, .int .i64 c] 31)).alloc (.cells #[.int .u8 6, .int .i64 d, .int .u8 t] 42)).alloc (.cells #[.int .u8 0, .int .i64 0, .int .i64 0] 31)).heap.size = w.heap.size + 1 + 1 + 1 := by simp
  generalize World.alloc (World.alloc (World.alloc w _) _) _ = w1 at hm1 z1 ⊢
  obtain ⟨hm, hi, hr, hb⟩ := hm1
  have HM : Hid (w1.heap[w.heap.size]? = some (.cells #[.int .u8 4, .int .i64 n, .int .i64 c] 31 (0, 0))) := hm
  have HI : Hid (w1.heap[w.heap.size + 1]? = some (.cells #[.int .u8 6, .int .i64 d, .int .u8 t] 42 (0, 0))) := hi
  have HR : Hid (w1.heap[w.heap.size + 1 + 1]? = some (.cells #[.int .u8 0, .int .i64 0, .int .i64 0] 31 (0, 0))) := hr
  have HB : Hid (Below w.heap.size w w1) := hb
  have HZ : Hid (w1.heap.size = w.heap.size + 1 + 1 + 1) := z1
  have a0 := mc3 hm
  have HMay : Hid _ := hmay
  clear hm hi hr hb z1 hmay
  go_wp2_with fail
  refine (rmay_any (4, n, c) w1).mono ?_
  rw [HMay.out]
  rintro e w2 ⟨rfl, hb2⟩
  have HL2 : Hid (w.heap.size < w2.heap.size ∧ w.heap.size + 1 < w2.heap.size ∧ w.heap.size + 1 + 1 < w2.heap.size) := by have := HZ.out; have := hb2.size; show _ ∧ _ ∧ _; omega
  have HM2 : Hid (w2.heap[w.heap.size]? = some (.cells #[.int .u8 4, .int .i64 n, .int .i64 c] 31 (0, 0))) := block_below HM.out hb2 (by have := HZ.out; omega)
  have HI2 : Hid (w2.heap[w.heap.size + 1]? = some (.cells #[.int .u8 6, .int .i64 d, .int .u8 t] 42 (0, 0))) := block_below HI.out hb2 (by have := HZ.out; omega)
  have HR2 : Hid (w2.heap[w.heap.size + 1 + 1]? = some (.cells #[.int .u8 0, .int .i64 0, .int .i64 0] 31 (0, 0))) := block_below HR.out hb2 (by have := HZ.out; omega)
  have HB2 : Hid (Below w.heap.size w w2) := HB.out.trans (hb2.mono (by have := HZ.out; omega))
  clear hb2 a0
  obtain ⟨x0, x1, x2⟩ := mc3 HM2.out
  obtain ⟨y0, y1, y2⟩ := mc3 HI2.out
  obtain ⟨⟨r0, r1, r2⟩, rf⟩ := cells3 HR2.out
  obtain ⟨l0, l1, l2⟩ := HL2.out
  go_wp2_with fail
  refine bodyPost_ret (results_row_tmp rfl _ _ (w.heap.size + 1 + 1) 31 (mcells (4, n, c)) (0, 0) _ rfl (block_store3 _ _ _ HR2.out) Try.underlying31 rfl size31) rfl ?_
  refine ⟨_, rfl, World.ownsRow_nil _ _ _ _, ?_⟩
  exact ((HB2.out.setCell (by simp; omega) _).setCell (by simp; omega) _).setCell (by simp; omega) _

set_option maxRecDepth 100000 in
set_option maxHeartbeats 2000000 in
theorem rs_n6_7 (t n c d : Int) (w : World) (hmay : mayS (7, n, c) = true) : Calls Try.prog 31 #[mval (7, n, c), ival (6, d, t)] w (GivesS w ((7, n, c), [])) := by
  go_enter Try.func31, Try.ntmps31
  go_upto_region 1 with fail
  have hm1 := three_alloc w (.cells #[.int .u8 7, .int .i64 n, .int .i64 c] 31) (.cells #[.int .u8 6, .int .i64 d, .int .u8 t] 42) (.cells #[.int .u8 0, .int .i64 0, .int .i64 0] 31)
  have z1 : (((w.alloc (.cells #[.int .u8 7, .int .i64 n, .int .i64 c] 31)).alloc (.cells #[.int .u8 6, .int .i64 d, .int .u8 t] 42)).alloc (.cells #[.int .u8 0, .int .i64 0, .int .i64 0] 31)).heap.size = w.heap.size + 1 + 1 + 1 := by simp
  generalize World.alloc (World.alloc (World.alloc w _) _) _ = w1 at hm1 z1 ⊢
  obtain ⟨hm, hi, hr, hb⟩ := hm1
  have HM : Hid (w1.heap[w.heap.size]? = some (.cells #[.int .u8 7, .int .i64 n, .int .i64 c] 31 (0, 0))) := hm
  have HI : Hid (w1.heap[w.heap.size + 1]? = some (.cells #[.int .u8 6, .int .i64 d, .int .u8 t] 42 (0, 0))) := hi
  have HR : Hid (w1.heap[w.heap.size + 1 + 1]? = some (.cells #[.int .u8 0, .int .i64 0, .int .i64 0] 31 (0, 0))) := hr
  have HB : Hid (Below w.heap.size w w1) := hb
  have HZ : Hid (w1.heap.size = w.heap.size + 1 + 1 + 1) := z1
  have a0 := mc3 hm
  have HMay : Hid _ := hmay
  clear hm hi hr hb z1 hmay
  go_wp2_with fail
  refine (rmay_any (7, n, c) w1).mono ?_
  rw [HMay.out]
  rintro e w2 ⟨rfl, hb2⟩
  have HL2 : Hid (w.heap.size < w2.heap.size ∧ w.heap.size + 1 < w2.heap.size ∧ w.heap.size + 1 + 1 < w2.heap.size) := by have := HZ.out; have := hb2.size; show _ ∧ _ ∧ _; omega
  have HM2 : Hid (w2.heap[w.heap.size]? = some (.cells #[.int .u8 7, .int .i64 n, .int .i64 c] 31 (0, 0))) := block_below HM.out hb2 (by have := HZ.out; omega)
  have HI2 : Hid (w2.heap[w.heap.size + 1]? = some (.cells #[.int .u8 6, .int .i64 d, .int .u8 t] 42 (0, 0))) := block_below HI.out hb2 (by have := HZ.out; omega)
  have HR2 : Hid (w2.heap[w.heap.size + 1 + 1]? = some (.cells #[.int .u8 0, .int .i64 0, .int .i64 0] 31 (0, 0))) := block_below HR.out hb2 (by have := HZ.out; omega)
  have HB2 : Hid (Below w.heap.size w w2) := HB.out.trans (hb2.mono (by have := HZ.out; omega))
  clear hb2 a0
  obtain ⟨x0, x1, x2⟩ := mc3 HM2.out
  obtain ⟨y0, y1, y2⟩ := mc3 HI2.out
  obtain ⟨⟨r0, r1, r2⟩, rf⟩ := cells3 HR2.out
  obtain ⟨l0, l1, l2⟩ := HL2.out
  go_wp2_with fail
  refine bodyPost_ret (results_row_tmp rfl _ _ (w.heap.size + 1 + 1) 31 (mcells (7, n, c)) (0, 0) _ rfl (block_store3 _ _ _ HR2.out) Try.underlying31 rfl size31) rfl ?_
  refine ⟨_, rfl, World.ownsRow_nil _ _ _ _, ?_⟩
  exact ((HB2.out.setCell (by simp; omega) _).setCell (by simp; omega) _).setCell (by simp; omega) _

set_option maxRecDepth 100000 in
set_option maxHeartbeats 2000000 in
theorem rs_nk_1 (k t n c d : Int) (w : World) (hmay : mayS (1, n, c) = true) (k2 : ¬ k = 2) (k5 : ¬ k = 5) (k6 : ¬ k = 6) : Calls Try.prog 31 #[mval (1, n, c), ival (k, d, t)] w (GivesS w ((1, n, c), [])) := by
  go_enter Try.func31, Try.ntmps31
  go_upto_region 1 with fail
  have hm1 := three_alloc w (.cells #[.int .u8 1, .int .i64 n, .int .i64 c] 31) (.cells #[.int .u8 k, .int .i64 d, .int .u8 t] 42) (.cells #[.int .u8 0, .int .i64 0, .int .i64 0] 31)
  have z1 : (((w.alloc (.cells #[.int .u8 1, .int .i64 n, .int .i64 c] 31)).alloc (.cells #[.int .u8 k, .int .i64 d, .int .u8 t] 42)).alloc (.cells #[.int .u8 0, .int .i64 0, .int .i64 0] 31)).heap.size = w.heap.size + 1 + 1 + 1 := by simp
  generalize World.alloc (World.alloc (World.alloc w _) _) _ = w1 at hm1 z1 ⊢
  obtain ⟨hm, hi, hr, hb⟩ := hm1
  have HM : Hid (w1.heap[w.heap.size]? = some (.cells #[.int .u8 1, .int .i64 n, .int .i64 c] 31 (0, 0))) := hm
  have HI : Hid (w1.heap[w.heap.size + 1]? = some (.cells #[.int .u8 k, .int .i64 d, .int .u8 t] 42 (0, 0))) := hi
  have HR : Hid (w1.heap[w.heap.size + 1 + 1]? = some (.cells #[.int .u8 0, .int .i64 0, .int .i64 0] 31 (0, 0))) := hr
  have HB : Hid (Below w.heap.size w w1) := hb
  have HZ : Hid (w1.heap.size = w.heap.size + 1 + 1 + 1) := z1
  have a0 := mc3 hm
  have HMay : Hid _ := hmay
  clear hm hi hr hb z1 hmay
  go_wp2_with fail
  refine (rmay_any (1, n, c) w1).mono ?_
  rw [HMay.out]
  rintro e w2 ⟨rfl, hb2⟩
  have HL2 : Hid (w.heap.size < w2.heap.size ∧ w.heap.size + 1 < w2.heap.size ∧ w.heap.size + 1 + 1 < w2.heap.size) := by have := HZ.out; have := hb2.size; show _ ∧ _ ∧ _; omega
  have HM2 : Hid (w2.heap[w.heap.size]? = some (.cells #[.int .u8 1, .int .i64 n, .int .i64 c] 31 (0, 0))) := block_below HM.out hb2 (by have := HZ.out; omega)
  have HI2 : Hid (w2.heap[w.heap.size + 1]? = some (.cells #[.int .u8 k, .int .i64 d, .int .u8 t] 42 (0, 0))) := block_below HI.out hb2 (by have := HZ.out; omega)
  have HR2 : Hid (w2.heap[w.heap.size + 1 + 1]? = some (.cells #[.int .u8 0, .int .i64 0, .int .i64 0] 31 (0, 0))) := block_below HR.out hb2 (by have := HZ.out; omega)
  have HB2 : Hid (Below w.heap.size w w2) := HB.out.trans (hb2.mono (by have := HZ.out; omega))
  clear hb2 a0
  obtain ⟨x0, x1, x2⟩ := mc3 HM2.out
  obtain ⟨y0, y1, y2⟩ := mc3 HI2.out
  obtain ⟨⟨r0, r1, r2⟩, rf⟩ := cells3 HR2.out
  obtain ⟨l0, l1, l2⟩ := HL2.out
  go_wp2_with fail
  refine bodyPost_ret (results_row_tmp rfl _ _ (w.heap.size + 1 + 1) 31 (mcells (1, n, c)) (0, 0) _ rfl (block_store3 _ _ _ HR2.out) Try.underlying31 rfl size31) rfl ?_
  refine ⟨_, rfl, World.ownsRow_nil _ _ _ _, ?_⟩
  exact ((HB2.out.setCell (by simp; omega) _).setCell (by simp; omega) _).setCell (by simp; omega) _

set_option maxRecDepth 100000 in
set_option maxHeartbeats 2000000 in
theorem rs_nk_3 (k t n c d : Int) (w : World) (hmay : mayS (3, n, c) = true) (k2 : ¬ k = 2) (k5 : ¬ k = 5) (k6 : ¬ k = 6) : Calls Try.prog 31 #[mval (3, n, c), ival (k, d, t)] w (GivesS w ((3, n, c), [])) := by
  go_enter Try.func31, Try.ntmps31
  go_upto_region 1 with fail
  have hm1 := three_alloc w (.cells #[.int .u8 3, .int .i64 n, .int .i64 c] 31) (.cells #[.int .u8 k, .int .i64 d, .int .u8 t] 42) (.cells #[.int .u8 0, .int .i64 0, .int .i64 0] 31)
  have z1 : (((w.alloc (.cells #[.int .u8 3, .int .i64 n, .int .i64 c] 31)).alloc (.cells #[.int .u8 k, .int .i64 d, .int .u8 t] 42)).alloc (.cells #[.int .u8 0, .int .i64 0, .int .i64 0] 31)).heap.size = w.heap.size + 1 + 1 + 1 := by simp
  generalize World.alloc (World.alloc (World.alloc w _) _) _ = w1 at hm1 z1 ⊢
  obtain ⟨hm, hi, hr, hb⟩ := hm1
  have HM : Hid (w1.heap[w.heap.size]? = some (.cells #[.int .u8 3, .int .i64 n, .int .i64 c] 31 (0, 0))) := hm
  have HI : Hid (w1.heap[w.heap.size + 1]? = some (.cells #[.int .u8 k, .int .i64 d, .int .u8 t] 42 (0, 0))) := hi
  have HR : Hid (w1.heap[w.heap.size + 1 + 1]? = some (.cells #[.int .u8 0, .int .i64 0, .int .i64 0] 31 (0, 0))) := hr
  have HB : Hid (Below w.heap.size w w1) := hb
  have HZ : Hid (w1.heap.size = w.heap.size + 1 + 1 + 1) := z1
  have a0 := mc3 hm
  have HMay : Hid _ := hmay
  clear hm hi hr hb z1 hmay
  go_wp2_with fail
  refine (rmay_any (3, n, c) w1).mono ?_
  rw [HMay.out]
  rintro e w2 ⟨rfl, hb2⟩
  have HL2 : Hid (w.heap.size < w2.heap.size ∧ w.heap.size + 1 < w2.heap.size ∧ w.heap.size + 1 + 1 < w2.heap.size) := by have := HZ.out; have := hb2.size; show _ ∧ _ ∧ _; omega
  have HM2 : Hid (w2.heap[w.heap.size]? = some (.cells #[.int .u8 3, .int .i64 n, .int .i64 c] 31 (0, 0))) := block_below HM.out hb2 (by have := HZ.out; omega)
  have HI2 : Hid (w2.heap[w.heap.size + 1]? = some (.cells #[.int .u8 k, .int .i64 d, .int .u8 t] 42 (0, 0))) := block_below HI.out hb2 (by have := HZ.out; omega)
  have HR2 : Hid (w2.heap[w.heap.size + 1 + 1]? = some (.cells #[.int .u8 0, .int .i64 0, .int .i64 0] 31 (0, 0))) := block_below HR.out hb2 (by have := HZ.out; omega)
  have HB2 : Hid (Below w.heap.size w w2) := HB.out.trans (hb2.mono (by have := HZ.out; omega))
  clear hb2 a0
  obtain ⟨x0, x1, x2⟩ := mc3 HM2.out
  obtain ⟨y0, y1, y2⟩ := mc3 HI2.out
  obtain ⟨⟨r0, r1, r2⟩, rf⟩ := cells3 HR2.out
  obtain ⟨l0, l1, l2⟩ := HL2.out
  go_wp2_with fail
  refine bodyPost_ret (results_row_tmp rfl _ _ (w.heap.size + 1 + 1) 31 (mcells (3, n, c)) (0, 0) _ rfl (block_store3 _ _ _ HR2.out) Try.underlying31 rfl size31) rfl ?_
  refine ⟨_, rfl, World.ownsRow_nil _ _ _ _, ?_⟩
  exact ((HB2.out.setCell (by simp; omega) _).setCell (by simp; omega) _).setCell (by simp; omega) _

set_option maxRecDepth 100000 in
set_option maxHeartbeats 2000000 in
theorem rs_nk_4 (k t n c d : Int) (w : World) (hmay : mayS (4, n, c) = true) (k2 : ¬ k = 2) (k5 : ¬ k = 5) (k6 : ¬ k = 6) : Calls Try.prog 31 #[mval (4, n, c), ival (k, d, t)] w (GivesS w ((4, n, c), [])) := by
  go_enter Try.func31, Try.ntmps31
  go_upto_region 1 with fail
  have hm1 := three_alloc w (.cells #[.int .u8 4, .int .i64 n, .int .i64 c] 31) (.cells #[.int .u8 k, .int .i64 d, .int .u8 t] 42) (.cells #[.int .u8 0, .int .i64 0, .int .i64 0] 31)
  have z1 : (((w.alloc (.cells #[.int .u8 4, .int .i64 n, .int .i64 c] 31)).alloc (.cells #[.int .u8 k, .int .i64 d, .int .u8 t] 42)).alloc (.cells #[.int .u8 0, .int .i64 0, .int .i64 0] 31)).heap.size = w.heap.size + 1 + 1 + 1 := by simp
  generalize World.alloc (World.alloc (World.alloc w _) _) _ = w1 at hm1 z1 ⊢
  obtain ⟨hm, hi, hr, hb⟩ := hm1
  have HM : Hid (w1.heap[w.heap.size]? = some (.cells #[.int .u8 4, .int .i64 n, .int .i64 c] 31 (0, 0))) := hm
  have HI : Hid (w1.heap[w.heap.size + 1]? = some (.cells #[.int .u8 k, .int .i64 d, .int .u8 t] 42 (0, 0))) := hi
  have HR : Hid (w1.heap[w.heap.size + 1 + 1]? = some (.cells #[.int .u8 0, .int .i64 0, .int .i64 0] 31 (0, 0))) := hr
  have HB : Hid (Below w.heap.size w w1) := hb
  have HZ : Hid (w1.heap.size = w.heap.size + 1 + 1 + 1) := z1
  have a0 := mc3 hm
  have HMay : Hid _ := hmay
  clear hm hi hr hb z1 hmay
  go_wp2_with fail
  refine (rmay_any (4, n, c) w1).mono ?_
  rw [HMay.out]
  rintro e w2 ⟨rfl, hb2⟩
  have HL2 : Hid (w.heap.size < w2.heap.size ∧ w.heap.size + 1 < w2.heap.size ∧ w.heap.size + 1 + 1 < w2.heap.size) := by have := HZ.out; have := hb2.size; show _ ∧ _ ∧ _; omega
  have HM2 : Hid (w2.heap[w.heap.size]? = some (.cells #[.int .u8 4, .int .i64 n, .int .i64 c] 31 (0, 0))) := block_below HM.out hb2 (by have := HZ.out; omega)
  have HI2 : Hid (w2.heap[w.heap.size + 1]? = some (.cells #[.int .u8 k, .int .i64 d, .int .u8 t] 42 (0, 0))) := block_below HI.out hb2 (by have := HZ.out; omega)
  have HR2 : Hid (w2.heap[w.heap.size + 1 + 1]? = some (.cells #[.int .u8 0, .int .i64 0, .int .i64 0] 31 (0, 0))) := block_below HR.out hb2 (by have := HZ.out; omega)
  have HB2 : Hid (Below w.heap.size w w2) := HB.out.trans (hb2.mono (by have := HZ.out; omega))
  clear hb2 a0
  obtain ⟨x0, x1, x2⟩ := mc3 HM2.out
  obtain ⟨y0, y1, y2⟩ := mc3 HI2.out
  obtain ⟨⟨r0, r1, r2⟩, rf⟩ := cells3 HR2.out
  obtain ⟨l0, l1, l2⟩ := HL2.out
  go_wp2_with fail
  refine bodyPost_ret (results_row_tmp rfl _ _ (w.heap.size + 1 + 1) 31 (mcells (4, n, c)) (0, 0) _ rfl (block_store3 _ _ _ HR2.out) Try.underlying31 rfl size31) rfl ?_
  refine ⟨_, rfl, World.ownsRow_nil _ _ _ _, ?_⟩
  exact ((HB2.out.setCell (by simp; omega) _).setCell (by simp; omega) _).setCell (by simp; omega) _

set_option maxRecDepth 100000 in
set_option maxHeartbeats 2000000 in
theorem rs_nk_5 (k t n c d : Int) (w : World) (hmay : mayS (5, n, c) = true) (k2 : ¬ k = 2) (k5 : ¬ k = 5) (k6 : ¬ k = 6) : Calls Try.prog 31 #[mval (5, n, c), ival (k, d, t)] w (GivesS w ((5, n, c), [])) := by
  go_enter Try.func31, Try.ntmps31
  go_upto_region 1 with fail
  have hm1 := three_alloc w (.cells #[.int .u8 5, .int .i64 n, .int .i64 c] 31) (.cells #[.int .u8 k, .int .i64 d, .int .u8 t] 42) (.cells #[.int .u8 0, .int .i64 0, .int .i64 0] 31)
  have z1 : (((w.alloc (.cells #[.int .u8 5, .int .i64 n, .int .i64 c] 31)).alloc (.cells #[.int .u8 k, .int .i64 d, .int .u8 t] 42)).alloc (.cells #[.int .u8 0, .int .i64 0, .int .i64 0] 31)).heap.size = w.heap.size + 1 + 1 + 1 := by simp
  generalize World.alloc (World.alloc (World.alloc w _) _) _ = w1 at hm1 z1 ⊢
  obtain ⟨hm, hi, hr, hb⟩ := hm1
  have HM : Hid (w1.heap[w.heap.size]? = some (.cells #[.int .u8 5, .int .i64 n, .int .i64 c] 31 (0, 0))) := hm
  have HI : Hid (w1.heap[w.heap.size + 1]? = some (.cells #[.int .u8 k, .int .i64 d, .int .u8 t] 42 (0, 0))) := hi
  have HR : Hid (w1.heap[w.heap.size + 1 + 1]? = some (.cells #[.int .u8 0, .int .i64 0, .int .i64 0] 31 (0, 0))) := hr
  have HB : Hid (Below w.heap.size w w1) := hb
  have HZ : Hid (w1.heap.size = w.heap.size + 1 + 1 + 1) := z1
  have a0 := mc3 hm
  have HMay : Hid _ := hmay
  clear hm hi hr hb z1 hmay
  go_wp2_with fail
  refine (rmay_any (5, n, c) w1).mono ?_
  rw [HMay.out]
  rintro e w2 ⟨rfl, hb2⟩
  have HL2 : Hid (w.heap.size < w2.heap.size ∧ w.heap.size + 1 < w2.heap.size ∧ w.heap.size + 1 + 1 < w2.heap.size) := by have := HZ.out; have := hb2.size; show _ ∧ _ ∧ _; omega
  have HM2 : Hid (w2.heap[w.heap.size]? = some (.cells #[.int .u8 5, .int .i64 n, .int .i64 c] 31 (0, 0))) := block_below HM.out hb2 (by have := HZ.out; omega)
  have HI2 : Hid (w2.heap[w.heap.size + 1]? = some (.cells #[.int .u8 k, .int .i64 d, .int .u8 t] 42 (0, 0))) := block_below HI.out hb2 (by have := HZ.out; omega)
  have HR2 : Hid (w2.heap[w.heap.size + 1 + 1]? = some (.cells #[.int .u8 0, .int .i64 0, .int .i64 0] 31 (0, 0))) := block_below HR.out hb2 (by have := HZ.out; omega)
  have HB2 : Hid (Below w.heap.size w w2) := HB.out.trans (hb2.mono (by have := HZ.out; omega))
  clear hb2 a0
  obtain ⟨x0, x1, x2⟩ := mc3 HM2.out
  obtain ⟨y0, y1, y2⟩ := mc3 HI2.out
  obtain ⟨⟨r0, r1, r2⟩, rf⟩ := cells3 HR2.out
  obtain ⟨l0, l1, l2⟩ := HL2.out
  go_wp2_with fail
  refine bodyPost_ret (results_row_tmp rfl _ _ (w.heap.size + 1 + 1) 31 (mcells (5, n, c)) (0, 0) _ rfl (block_store3 _ _ _ HR2.out) Try.underlying31 rfl size31) rfl ?_
  refine ⟨_, rfl, World.ownsRow_nil _ _ _ _, ?_⟩
  exact ((HB2.out.setCell (by simp; omega) _).setCell (by simp; omega) _).setCell (by simp; omega) _

set_option maxRecDepth 100000 in
set_option maxHeartbeats 2000000 in
theorem rs_nk_7 (k t n c d : Int) (w : World) (hmay : mayS (7, n, c) = true) (k2 : ¬ k = 2) (k5 : ¬ k = 5) (k6 : ¬ k = 6) : Calls Try.prog 31 #[mval (7, n, c), ival (k, d, t)] w (GivesS w ((7, n, c), [])) := by
  go_enter Try.func31, Try.ntmps31
  go_upto_region 1 with fail
  have hm1 := three_alloc w (.cells #[.int .u8 7, .int .i64 n, .int .i64 c] 31) (.cells #[.int .u8 k, .int .i64 d, .int .u8 t] 42) (.cells #[.int .u8 0, .int .i64 0, .int .i64 0] 31)
  have z1 : (((w.alloc (.cells #[.int .u8 7, .int .i64 n, .int .i64 c] 31)).alloc (.cells #[.int .u8 k, .int .i64 d, .int .u8 t] 42)).alloc (.cells #[.int .u8 0, .int .i64 0, .int .i64 0] 31)).heap.size = w.heap.size + 1 + 1 + 1 := by simp
  generalize World.alloc (World.alloc (World.alloc w _) _) _ = w1 at hm1 z1 ⊢
  obtain ⟨hm, hi, hr, hb⟩ := hm1
  have HM : Hid (w1.heap[w.heap.size]? = some (.cells #[.int .u8 7, .int .i64 n, .int .i64 c] 31 (0, 0))) := hm
  have HI : Hid (w1.heap[w.heap.size + 1]? = some (.cells #[.int .u8 k, .int .i64 d, .int .u8 t] 42 (0, 0))) := hi
  have HR : Hid (w1.heap[w.heap.size + 1 + 1]? = some (.cells #[.int .u8 0, .int .i64 0, .int .i64 0] 31 (0, 0))) := hr
  have HB : Hid (Below w.heap.size w w1) := hb
  have HZ : Hid (w1.heap.size = w.heap.size + 1 + 1 + 1) := z1
  have a0 := mc3 hm
  have HMay : Hid _ := hmay
  clear hm hi hr hb z1 hmay
  go_wp2_with fail
  refine (rmay_any (7, n, c) w1).mono ?_
  rw [HMay.out]
  rintro e w2 ⟨rfl, hb2⟩
  have HL2 : Hid (w.heap.size < w2.heap.size ∧ w.heap.size + 1 < w2.heap.size ∧ w.heap.size + 1 + 1 < w2.heap.size) := by have := HZ.out; have := hb2.size; show _ ∧ _ ∧ _; omega
  have HM2 : Hid (w2.heap[w.heap.size]? = some (.cells #[.int .u8 7, .int .i64 n, .int .i64 c] 31 (0, 0))) := block_below HM.out hb2 (by have := HZ.out; omega)
  have HI2 : Hid (w2.heap[w.heap.size + 1]? = some (.cells #[.int .u8 k, .int .i64 d, .int .u8 t] 42 (0, 0))) := block_below HI.out hb2 (by have := HZ.out; omega)
  have HR2 : Hid (w2.heap[w.heap.size + 1 + 1]? = some (.cells #[.int .u8 0, .int .i64 0, .int .i64 0] 31 (0, 0))) := block_below HR.out hb2 (by have := HZ.out; omega)
  have HB2 : Hid (Below w.heap.size w w2) := HB.out.trans (hb2.mono (by have := HZ.out; omega))
  clear hb2 a0
  obtain ⟨x0, x1, x2⟩ := mc3 HM2.out
  obtain ⟨y0, y1, y2⟩ := mc3 HI2.out
  obtain ⟨⟨r0, r1, r2⟩, rf⟩ := cells3 HR2.out
  obtain ⟨l0, l1, l2⟩ := HL2.out
  go_wp2_with fail
  refine bodyPost_ret (results_row_tmp rfl _ _ (w.heap.size + 1 + 1) 31 (mcells (7, n, c)) (0, 0) _ rfl (block_store3 _ _ _ HR2.out) Try.underlying31 rfl size31) rfl ?_
  refine ⟨_, rfl, World.ownsRow_nil _ _ _ _, ?_⟩
  exact ((HB2.out.setCell (by simp; omega) _).setCell (by simp; omega) _).setCell (by simp; omega) _

set_option maxRecDepth 100000 in
set_option maxHeartbeats 2000000 in
theorem rs_again_lo (n c d : Int) (w : World) (hmay : mayS (1, n, c) = true) (g0 : 0 ≤ n) (g1 : n ≤ 100000) (g2 : 2 * n ≤ 32000) : Calls Try.prog 31 #[mval (1, n, c), ival (5, d, 1)] w (GivesS w ((1, 2 * n, c), [(1, 0, 0, 0), (4, 0, 1, 2 * n)])) := by
  go_enter Try.func31, Try.ntmps31
  go_upto_region 1 with fail
  have hm1 := three_alloc w (.cells #[.int .u8 1, .int .i64 n, .int .i64 c] 31) (.cells #[.int .u8 5, .int .i64 d, .int .u8 1] 42) (.cells #[.int .u8 0, .int .i64 0, .int .i64 0] 31)
  have z1 : (((w.alloc (.cells #[.int .u8 1, .int .i64 n, .int .i64 c] 31)).alloc (.cells #[.int .u8 5, .int .i64 d, .int .u8 1] 42)).alloc (.cells #[.int .u8 0, .int .i64 0, .int .i64 0] 31)).heap.size = w.heap.size + 1 + 1 + 1 := by simp
  generalize World.alloc (World.alloc (World.alloc w _) _) _ = w1 at hm1 z1 ⊢
  obtain ⟨hm, hi, hr, hb⟩ := hm1
  have HM : Hid (w1.heap[w.heap.size]? = some (.cells #[.int .u8 1, .int .i64 n, .int .i64 c] 31 (0, 0))) := hm
  have HI : Hid (w1.heap[w.heap.size + 1]? = some (.cells #[.int .u8 5, .int .i64 d, .int .u8 1] 42 (0, 0))) := hi
  have HR : Hid (w1.heap[w.heap.size + 1 + 1]? = some (.cells #[.int .u8 0, .int .i64 0, .int .i64 0] 31 (0, 0))) := hr
  have HB : Hid (Below w.heap.size w w1) := hb
  have HZ : Hid (w1.heap.size = w.heap.size + 1 + 1 + 1) := z1
  have a0 := mc3 hm
  have HMay : Hid _ := hmay
  clear hm hi hr hb z1 hmay
  go_wp2_with fail
  refine (rmay_any (1, n, c) w1).mono ?_
  rw [HMay.out]
  rintro e w2 ⟨rfl, hb2⟩
  have HL2 : Hid (w.heap.size < w2.heap.size ∧ w.heap.size + 1 < w2.heap.size ∧ w.heap.size + 1 + 1 < w2.heap.size) := by have := HZ.out; have := hb2.size; show _ ∧ _ ∧ _; omega
  have HM2 : Hid (w2.heap[w.heap.size]? = some (.cells #[.int .u8 1, .int .i64 n, .int .i64 c] 31 (0, 0))) := block_below HM.out hb2 (by have := HZ.out; omega)
  have HI2 : Hid (w2.heap[w.heap.size + 1]? = some (.cells #[.int .u8 5, .int .i64 d, .int .u8 1] 42 (0, 0))) := block_below HI.out hb2 (by have := HZ.out; omega)
  have HR2 : Hid (w2.heap[w.heap.size + 1 + 1]? = some (.cells #[.int .u8 0, .int .i64 0, .int .i64 0] 31 (0, 0))) := block_below HR.out hb2 (by have := HZ.out; omega)
  have HB2 : Hid (Below w.heap.size w w2) := HB.out.trans (hb2.mono (by have := HZ.out; omega))
  clear hb2 a0
  obtain ⟨x0, x1, x2⟩ := mc3 HM2.out
  obtain ⟨y0, y1, y2⟩ := mc3 HI2.out
  obtain ⟨⟨r0, r1, r2⟩, rf⟩ := cells3 HR2.out
  obtain ⟨l0, l1, l2⟩ := HL2.out
  have f2 := (cells3 HM2.out).2
  have hwr : IntKind.i64.wrap (2 * n) = 2 * n := IntWalk.i64_in _ (by omega)
  go_upto_region 10 with fail
  have hm3 : (w2.setCell ⟨w.heap.size, 1, none⟩ (.int .i64 (2 * n))).heap[w.heap.size]? = some (.cells #[.int .u8 1, .int .i64 (2 * n), .int .i64 c] 31 (0, 0)) := by
    rw [heap_setCell_same w2 _ _ _ _ _ HM2.out]
    rfl
  have hr3 : (w2.setCell ⟨w.heap.size, 1, none⟩ (.int .i64 (2 * n))).heap[w.heap.size + 1 + 1]? = some (.cells #[.int .u8 0, .int .i64 0, .int .i64 0] 31 (0, 0)) := by
    rw [heap_setCell_other _ _ _ _ (show w.heap.size + 1 + 1 ≠ w.heap.size by omega)]; exact HR2.out
  have hb3 : Below w.heap.size w (w2.setCell ⟨w.heap.size, 1, none⟩ (.int .i64 (2 * n))) := HB2.out.setCell (Nat.le_refl _) _
  have hz3 : (w2.setCell ⟨w.heap.size, 1, none⟩ (.int .i64 (2 * n))).heap.size = w2.heap.size := by rw [World.size_setCell]
  generalize World.setCell w2 _ _ = w3 at hm3 hr3 hb3 hz3 ⊢
  clear x0 x1 x2 y0 y1 y2 r0 r1 r2 rf f2
  obtain ⟨x0, x1, x2⟩ := mc3 hm3
  obtain ⟨⟨r0, r1, r2⟩, rf⟩ := cells3 hr3
  have HR3 : Hid (w3.heap[w.heap.size + 1 + 1]? = some (.cells #[.int .u8 0, .int .i64 0, .int .i64 0] 31 (0, 0))) := hr3
  have HB3 : Hid (Below w.heap.size w w3) := hb3
  have p0 : w.heap.size < w3.heap.size := by omega
  have p1 : w.heap.size + 1 + 1 < w3.heap.size := by omega
  clear hm3 hr3 hb3 hz3 l0 l1 l2
  go_region
  all_goals
    go_wp2_with fail
    refine bodyPost_ret (results_row_tmp rfl _ _ (w.heap.size + 1 + 1) 31 (mcells (1, 2 * n, c)) (0, 0) _ rfl ?_ Try.underlying31 rfl size31) rfl ?_
    · show (World.alloc _ _).heap[_]? = _
      rw [heap_alloc_old]
      · exact block_store3 _ _ _ HR3.out
      · simpa using p1
    · refine ⟨_, rfl, own_below (own_new (w := World.setCell _ _ _) [(1, 0, 0, 0), (4, 0, 1, 2 * n)] 2 rfl (by simp) rfl (by simp [maxLen]) (by simp; omega)) (Below.refl _ _).drew, ?_⟩
      exact ((((HB3.out.setCell (by simp; omega) _).setCell (by simp; omega) _).setCell (by simp; omega) _).alloc (by simp; omega) _).drew

set_option maxRecDepth 100000 in
set_option maxHeartbeats 2000000 in
theorem rs_again_hi (n c d : Int) (w : World) (hmay : mayS (1, n, c) = true) (g0 : 0 ≤ n) (g1 : n ≤ 100000) (g2 : ¬ 2 * n ≤ 32000) : Calls Try.prog 31 #[mval (1, n, c), ival (5, d, 1)] w (GivesS w ((1, 32000, c), [(1, 0, 0, 0), (4, 0, 1, 32000)])) := by
  go_enter Try.func31, Try.ntmps31
  go_upto_region 1 with fail
  have hm1 := three_alloc w (.cells #[.int .u8 1, .int .i64 n, .int .i64 c] 31) (.cells #[.int .u8 5, .int .i64 d, .int .u8 1] 42) (.cells #[.int .u8 0, .int .i64 0, .int .i64 0] 31)
  have z1 : (((w.alloc (.cells #[.int .u8 1, .int .i64 n, .int .i64 c] 31)).alloc (.cells #[.int .u8 5, .int .i64 d, .int .u8 1] 42)).alloc (.cells #[.int .u8 0, .int .i64 0, .int .i64 0] 31)).heap.size = w.heap.size + 1 + 1 + 1 := by simp
  generalize World.alloc (World.alloc (World.alloc w _) _) _ = w1 at hm1 z1 ⊢
  obtain ⟨hm, hi, hr, hb⟩ := hm1
  have HM : Hid (w1.heap[w.heap.size]? = some (.cells #[.int .u8 1, .int .i64 n, .int .i64 c] 31 (0, 0))) := hm
  have HI : Hid (w1.heap[w.heap.size + 1]? = some (.cells #[.int .u8 5, .int .i64 d, .int .u8 1] 42 (0, 0))) := hi
  have HR : Hid (w1.heap[w.heap.size + 1 + 1]? = some (.cells #[.int .u8 0, .int .i64 0, .int .i64 0] 31 (0, 0))) := hr
  have HB : Hid (Below w.heap.size w w1) := hb
  have HZ : Hid (w1.heap.size = w.heap.size + 1 + 1 + 1) := z1
  have a0 := mc3 hm
  have HMay : Hid _ := hmay
  clear hm hi hr hb z1 hmay
  go_wp2_with fail
  refine (rmay_any (1, n, c) w1).mono ?_
  rw [HMay.out]
  rintro e w2 ⟨rfl, hb2⟩
  have HL2 : Hid (w.heap.size < w2.heap.size ∧ w.heap.size + 1 < w2.heap.size ∧ w.heap.size + 1 + 1 < w2.heap.size) := by have := HZ.out; have := hb2.size; show _ ∧ _ ∧ _; omega
  have HM2 : Hid (w2.heap[w.heap.size]? = some (.cells #[.int .u8 1, .int .i64 n, .int .i64 c] 31 (0, 0))) := block_below HM.out hb2 (by have := HZ.out; omega)
  have HI2 : Hid (w2.heap[w.heap.size + 1]? = some (.cells #[.int .u8 5, .int .i64 d, .int .u8 1] 42 (0, 0))) := block_below HI.out hb2 (by have := HZ.out; omega)
  have HR2 : Hid (w2.heap[w.heap.size + 1 + 1]? = some (.cells #[.int .u8 0, .int .i64 0, .int .i64 0] 31 (0, 0))) := block_below HR.out hb2 (by have := HZ.out; omega)
  have HB2 : Hid (Below w.heap.size w w2) := HB.out.trans (hb2.mono (by have := HZ.out; omega))
  clear hb2 a0
  obtain ⟨x0, x1, x2⟩ := mc3 HM2.out
  obtain ⟨y0, y1, y2⟩ := mc3 HI2.out
  obtain ⟨⟨r0, r1, r2⟩, rf⟩ := cells3 HR2.out
  obtain ⟨l0, l1, l2⟩ := HL2.out
  have f2 := (cells3 HM2.out).2
  have hwr : IntKind.i64.wrap (2 * n) = 2 * n := IntWalk.i64_in _ (by omega)
  go_upto_region 10 with fail
  have hm3 : (w2.setCell ⟨w.heap.size, 1, none⟩ (.int .i64 (32000))).heap[w.heap.size]? = some (.cells #[.int .u8 1, .int .i64 (32000), .int .i64 c] 31 (0, 0)) := by
    rw [heap_setCell_same w2 _ _ _ _ _ HM2.out]
    rfl
  have hr3 : (w2.setCell ⟨w.heap.size, 1, none⟩ (.int .i64 (32000))).heap[w.heap.size + 1 + 1]? = some (.cells #[.int .u8 0, .int .i64 0, .int .i64 0] 31 (0, 0)) := by
    rw [heap_setCell_other _ _ _ _ (show w.heap.size + 1 + 1 ≠ w.heap.size by omega)]; exact HR2.out
  have hb3 : Below w.heap.size w (w2.setCell ⟨w.heap.size, 1, none⟩ (.int .i64 (32000))) := HB2.out.setCell (Nat.le_refl _) _
  have hz3 : (w2.setCell ⟨w.heap.size, 1, none⟩ (.int .i64 (32000))).heap.size = w2.heap.size := by rw [World.size_setCell]
  generalize World.setCell w2 _ _ = w3 at hm3 hr3 hb3 hz3 ⊢
  clear x0 x1 x2 y0 y1 y2 r0 r1 r2 rf f2
  obtain ⟨x0, x1, x2⟩ := mc3 hm3
  obtain ⟨⟨r0, r1, r2⟩, rf⟩ := cells3 hr3
  have HR3 : Hid (w3.heap[w.heap.size + 1 + 1]? = some (.cells #[.int .u8 0, .int .i64 0, .int .i64 0] 31 (0, 0))) := hr3
  have HB3 : Hid (Below w.heap.size w w3) := hb3
  have p0 : w.heap.size < w3.heap.size := by omega
  have p1 : w.heap.size + 1 + 1 < w3.heap.size := by omega
  clear hm3 hr3 hb3 hz3 l0 l1 l2
  go_region
  all_goals
    go_wp2_with fail
    refine bodyPost_ret (results_row_tmp rfl _ _ (w.heap.size + 1 + 1) 31 (mcells (1, 32000, c)) (0, 0) _ rfl ?_ Try.underlying31 rfl size31) rfl ?_
    · show (World.alloc _ _).heap[_]? = _
      rw [heap_alloc_old]
      · exact block_store3 _ _ _ HR3.out
      · simpa using p1
    · refine ⟨_, rfl, own_below (own_new (w := World.setCell _ _ _) [(1, 0, 0, 0), (4, 0, 1, 32000)] 2 rfl (by simp) rfl (by simp [maxLen]) (by simp; omega)) (Below.refl _ _).drew, ?_⟩
      exact ((((HB3.out.setCell (by simp; omega) _).setCell (by simp; omega) _).setCell (by simp; omega) _).alloc (by simp; omega) _).drew

theorem rs_again (n c d : Int) (w : World) (hmay : mayS (1, n, c) = true) (g0 : 0 ≤ n) (g1 : n ≤ 100000) : Calls Try.prog 31 #[mval (1, n, c), ival (5, d, 1)] w (GivesS w ((1, againS n, c), [(1, 0, 0, 0), (4, 0, 1, againS n)])) := by
  unfold againS
  by_cases h2 : 2 * n ≤ 32000
  · rw [if_pos h2]; exact rs_again_lo n c d w hmay g0 g1 h2
  · rw [if_neg h2]; exact rs_again_hi n c d w hmay g0 g1 h2

theorem rstep_any (m : Mc) (i : In) (w : World) : Calls Try.prog 31 #[mval m, ival i] w (GivesS w (stepS m i)) := by
  rw [step_same]
  obtain ⟨s, n, c⟩ := m
  obtain ⟨k, d, t⟩ := i
  cases hmay : mayS (s, n, c) with
  | false =>
    unfold stepR
    rw [if_pos hmay]
    exact rs_bad s k t n c d w hmay
  | true =>
    have hst := may_states hmay
    have hwt := @may_wait (s, n, c) hmay
    simp only at hst hwt
    unfold stepR
    rw [if_neg (by simp [hmay])]
    simp only
    by_cases k2 : k = 2
    · subst k2
      rw [if_pos rfl]
      exact rs_resp s t n c d w hmay
    · rw [if_neg k2]
      by_cases k5 : k = 5
      · subst k5
        have ht : timerR (5, d, t) = t := rfl
        rw [ht]
        rcases hst with rfl | rfl | rfl | rfl | rfl
        · have hn : 0 ≤ n ∧ n ≤ 100000 := by have := (hwt rfl).2; omega
          by_cases t1 : t = 1
          · subst t1; simp only [and_self, if_true]; exact rs_again n c d w hmay hn.1 hn.2
          · by_cases t2 : t = 2
            · subst t2; simpa using rs_timeout n c d w hmay
            · simpa [t1, t2] using rs_n5_1 t n c d w hmay t1 t2
        · simpa using rs_n5_3 t n c d w hmay
        · by_cases t1 : t = 13
          · subst t1; simpa using rs_m4 n c d w hmay
          · simpa [t1] using rs_n5_4 t n c d w hmay t1
        · by_cases t1 : t = 4
          · subst t1; simpa using rs_d5 n c d w hmay
          · simpa [t1] using rs_n5_5 t n c d w hmay t1
        · simpa using rs_n5_7 t n c d w hmay
      · have ht : timerR (k, d, t) = 0 := if_neg k5
        rw [ht]
        by_cases k6 : k = 6
        · subst k6
          rcases hst with rfl | rfl | rfl | rfl | rfl
          · simpa using rs_fail1 t n c d w hmay
          · simpa using rs_n6_3 t n c d w hmay
          · simpa using rs_n6_4 t n c d w hmay
          · simpa using rs_fail5 t n c d w hmay
          · simpa using rs_n6_7 t n c d w hmay
        · rcases hst with rfl | rfl | rfl | rfl | rfl
          · simpa [k6] using rs_nk_1 k t n c d w hmay k2 k5 k6
          · simpa [k6] using rs_nk_3 k t n c d w hmay k2 k5 k6
          · simpa [k6] using rs_nk_4 k t n c d w hmay k2 k5 k6
          · simpa [k6] using rs_nk_5 k t n c d w hmay k2 k5 k6
          · simpa [k6] using rs_nk_7 k t n c d w hmay k2 k5 k6

end Go.Proofs.Ytlcpadonjbaaeaa
