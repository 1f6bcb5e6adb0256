/- The walk of the reference's response. (Printed by wip/t12/genRef.py.) -/
import Derived.Test.YtlcpadonjbaaeaaRef
namespace Go.Proofs.Ytlcpadonjbaaeaa
open Go.RowKit

theorem four_alloc (w : World) (a b c d : Obj) : ((((w.alloc a).alloc b).alloc c).alloc d).heap[w.heap.size]? = some a ∧ ((((w.alloc a).alloc b).alloc c).alloc d).heap[w.heap.size + 1]? = some b ∧ ((((w.alloc a).alloc b).alloc c).alloc d).heap[w.heap.size + 1 + 1]? = some c ∧ ((((w.alloc a).alloc b).alloc c).alloc d).heap[w.heap.size + 1 + 1 + 1]? = some d ∧ ((((w.alloc a).alloc b).alloc c).alloc d).heap.size = w.heap.size + 1 + 1 + 1 + 1 ∧ Below w.heap.size w ((((w.alloc a).alloc b).alloc c).alloc d) := by
  obtain ⟨h1, h2, h3, h4⟩ := three_alloc w a b c
  have hz : (((w.alloc a).alloc b).alloc c).heap.size = w.heap.size + 1 + 1 + 1 := by simp
  refine ⟨?_, ?_, ?_, ?_, by simp, h4.alloc h4.size _⟩
  · rw [heap_alloc_old _ _ (by omega)]; exact h1
  · rw [heap_alloc_old _ _ (by omega)]; exact h2
  · rw [heap_alloc_old _ _ (by omega)]; exact h3
  · have := heap_alloc_new (((w.alloc a).alloc b).alloc c) d
    rwa [hz] at this
theorem cells4 {w : World} {g : Nat} {t : TypeId} {a b c d : Value} (h : w.heap[g]? = some (.cells #[a, b, c, d] t (0, 0))) : w.cell? ⟨g, 0, none⟩ = some a ∧ w.cell? ⟨g, 1, none⟩ = some b ∧ w.cell? ⟨g, 2, none⟩ = some c ∧ w.cell? ⟨g, 3, none⟩ = some d :=
  ⟨cells_of_block h 0, cells_of_block h 1, cells_of_block h 2, cells_of_block h 3⟩

set_option maxRecDepth 100000 in
set_option maxHeartbeats 2000000 in
theorem resp_r1_1 (n d c : Int) (w : World) (f1 : from_ c 100 199 = true) : Calls Try.prog 45 #[mval (1, n, d), .int .i64 c] w (GivesB w.heap.size w ((3, 0, 0), [(3, c, 0, 0)])) := by
  go_enter Try.func45, Try.ntmps45
  go_upto_region 4 with fail
  have h4 := four_alloc w (.cells #[.int .u8 1, .int .i64 n, .int .i64 d] 31) (.cells #[.int .u8 0, .int .i64 0, .int .i64 0] 31) (.cells #[.int .u8 3, .int .i64 c, .int .u8 0, .int .i64 0] 48) (.cells #[.int .u8 2, .int .i64 c, .int .u8 0, .int .i64 0] 48)
  generalize World.alloc (World.alloc (World.alloc (World.alloc w _) _) _) _ = w1 at h4 ⊢
  obtain ⟨hm, hr, hu, hk, hz, hb⟩ := h4
  obtain ⟨⟨a0, a1, a2⟩, -⟩ := cells3 hm
  obtain ⟨⟨b0, b1, b2⟩, fb⟩ := cells3 hr
  obtain ⟨c0, c1, c2, c3⟩ := cells4 hu
  obtain ⟨d0, d1, d2, d3⟩ := cells4 hk
  have HR : Hid (w1.heap[w.heap.size + 1]? = some (.cells #[.int .u8 0, .int .i64 0, .int .i64 0] 31 (0, 0))) := hr
  have HB1 : Hid (Below w.heap.size w w1) := hb
  have p0 : w.heap.size < w1.heap.size := by omega
  have p1 : w.heap.size + 1 < w1.heap.size := by omega
  have p2 : w.heap.size + 1 + 1 < w1.heap.size := by omega
  have p3 : w.heap.size + 1 + 1 + 1 < w1.heap.size := by omega
  clear hm hr hu hk hz hb
  go_upto_region 5 with (go_at_call 47; refine (from_any _ _ _ _).mono ?_; rintro e w5 ⟨rfl, rfl⟩)
  go_region
  all_goals
    go_wp2_with fail
    refine bodyPost_ret (results_row_tmp rfl _ _ (w.heap.size + 1) 31 (mcells (3, 0, 0)) (0, 0) _ rfl ?_ Try.underlying31 rfl size31) rfl ?_
    · show (World.alloc _ _).heap[_]? = _
      rw [heap_alloc_old]
      · exact block_store3 _ _ _ HR.out
      · simpa using p1
    · refine ⟨_, rfl, own_below (own_new (w := World.setCell _ _ _) [(3, c, 0, 0)] 1 rfl (by simp) rfl (by simp [maxLen]) (by simp; omega)) (Below.refl _ _).drew, ?_⟩
      exact ((((HB1.out.setCell (by simp) _).setCell (by simp) _).setCell (by simp) _).alloc (by simp; omega) _).drew

set_option maxRecDepth 100000 in
set_option maxHeartbeats 2000000 in
theorem resp_r1_3 (n d c : Int) (w : World) (f1 : from_ c 100 199 = true) : Calls Try.prog 45 #[mval (3, n, d), .int .i64 c] w (GivesB w.heap.size w ((3, 0, 0), [(3, c, 0, 0)])) := by
  go_enter Try.func45, Try.ntmps45
  go_upto_region 4 with fail
  have h4 := four_alloc w (.cells #[.int .u8 3, .int .i64 n, .int .i64 d] 31) (.cells #[.int .u8 0, .int .i64 0, .int .i64 0] 31) (.cells #[.int .u8 3, .int .i64 c, .int .u8 0, .int .i64 0] 48) (.cells #[.int .u8 2, .int .i64 c, .int .u8 0, .int .i64 0] 48)
  generalize World.alloc (World.alloc (World.alloc (World.alloc w _) _) _) _ = w1 at h4 ⊢
  obtain ⟨hm, hr, hu, hk, hz, hb⟩ := h4
  obtain ⟨⟨a0, a1, a2⟩, -⟩ := cells3 hm
  obtain ⟨⟨b0, b1, b2⟩, fb⟩ := cells3 hr
  obtain ⟨c0, c1, c2, c3⟩ := cells4 hu
  obtain ⟨d0, d1, d2, d3⟩ := cells4 hk
  have HR : Hid (w1.heap[w.heap.size + 1]? = some (.cells #[.int .u8 0, .int .i64 0, .int .i64 0] 31 (0, 0))) := hr
  have HB1 : Hid (Below w.heap.size w w1) := hb
  have p0 : w.heap.size < w1.heap.size := by omega
  have p1 : w.heap.size + 1 < w1.heap.size := by omega
  have p2 : w.heap.size + 1 + 1 < w1.heap.size := by omega
  have p3 : w.heap.size + 1 + 1 + 1 < w1.heap.size := by omega
  clear hm hr hu hk hz hb
  go_upto_region 5 with (go_at_call 47; refine (from_any _ _ _ _).mono ?_; rintro e w5 ⟨rfl, rfl⟩)
  go_region
  all_goals
    go_wp2_with fail
    refine bodyPost_ret (results_row_tmp rfl _ _ (w.heap.size + 1) 31 (mcells (3, 0, 0)) (0, 0) _ rfl ?_ Try.underlying31 rfl size31) rfl ?_
    · show (World.alloc _ _).heap[_]? = _
      rw [heap_alloc_old]
      · exact block_store3 _ _ _ HR.out
      · simpa using p1
    · refine ⟨_, rfl, own_below (own_new (w := World.setCell _ _ _) [(3, c, 0, 0)] 1 rfl (by simp) rfl (by simp [maxLen]) (by simp; omega)) (Below.refl _ _).drew, ?_⟩
      exact ((((HB1.out.setCell (by simp) _).setCell (by simp) _).setCell (by simp) _).alloc (by simp; omega) _).drew

set_option maxRecDepth 100000 in
set_option maxHeartbeats 2000000 in
theorem resp_r2_1 (n d c : Int) (w : World) (f1 : from_ c 100 199 = false) (f2 : from_ c 200 299 = true) : Calls Try.prog 45 #[mval (1, n, d), .int .i64 c] w (GivesB w.heap.size w ((4, 0, c), [(3, c, 0, 0), (4, 0, 13, 32000)])) := by
  go_enter Try.func45, Try.ntmps45
  go_upto_region 4 with fail
  have h4 := four_alloc w (.cells #[.int .u8 1, .int .i64 n, .int .i64 d] 31) (.cells #[.int .u8 0, .int .i64 0, .int .i64 0] 31) (.cells #[.int .u8 3, .int .i64 c, .int .u8 0, .int .i64 0] 48) (.cells #[.int .u8 2, .int .i64 c, .int .u8 0, .int .i64 0] 48)
  generalize World.alloc (World.alloc (World.alloc (World.alloc w _) _) _) _ = w1 at h4 ⊢
  obtain ⟨hm, hr, hu, hk, hz, hb⟩ := h4
  obtain ⟨⟨a0, a1, a2⟩, -⟩ := cells3 hm
  obtain ⟨⟨b0, b1, b2⟩, fb⟩ := cells3 hr
  obtain ⟨c0, c1, c2, c3⟩ := cells4 hu
  obtain ⟨d0, d1, d2, d3⟩ := cells4 hk
  have HR : Hid (w1.heap[w.heap.size + 1]? = some (.cells #[.int .u8 0, .int .i64 0, .int .i64 0] 31 (0, 0))) := hr
  have HB1 : Hid (Below w.heap.size w w1) := hb
  have p0 : w.heap.size < w1.heap.size := by omega
  have p1 : w.heap.size + 1 < w1.heap.size := by omega
  have p2 : w.heap.size + 1 + 1 < w1.heap.size := by omega
  have p3 : w.heap.size + 1 + 1 + 1 < w1.heap.size := by omega
  clear hm hr hu hk hz hb
  go_upto_region 7 with (go_at_call 47; refine (from_any _ _ _ _).mono ?_; rintro e w5 ⟨rfl, rfl⟩)
  go_region
  all_goals
    go_wp2_with fail
    refine bodyPost_ret (results_row_tmp rfl _ _ (w.heap.size + 1) 31 (mcells (4, 0, c)) (0, 0) _ rfl ?_ Try.underlying31 rfl size31) rfl ?_
    · show (World.alloc _ _).heap[_]? = _
      rw [heap_alloc_old]
      · exact block_store3 _ _ _ HR.out
      · simpa using p1
    · refine ⟨_, rfl, own_below (own_new (w := World.setCell _ _ _) [(3, c, 0, 0), (4, 0, 13, 32000)] 2 rfl (by simp) rfl (by simp [maxLen]) (by simp; omega)) (Below.refl _ _).drew, ?_⟩
      exact ((((HB1.out.setCell (by simp) _).setCell (by simp) _).setCell (by simp) _).alloc (by simp; omega) _).drew

set_option maxRecDepth 100000 in
set_option maxHeartbeats 2000000 in
theorem resp_r2_3 (n d c : Int) (w : World) (f1 : from_ c 100 199 = false) (f2 : from_ c 200 299 = true) : Calls Try.prog 45 #[mval (3, n, d), .int .i64 c] w (GivesB w.heap.size w ((4, 0, c), [(3, c, 0, 0), (4, 0, 13, 32000)])) := by
  go_enter Try.func45, Try.ntmps45
  go_upto_region 4 with fail
  have h4 := four_alloc w (.cells #[.int .u8 3, .int .i64 n, .int .i64 d] 31) (.cells #[.int .u8 0, .int .i64 0, .int .i64 0] 31) (.cells #[.int .u8 3, .int .i64 c, .int .u8 0, .int .i64 0] 48) (.cells #[.int .u8 2, .int .i64 c, .int .u8 0, .int .i64 0] 48)
  generalize World.alloc (World.alloc (World.alloc (World.alloc w _) _) _) _ = w1 at h4 ⊢
  obtain ⟨hm, hr, hu, hk, hz, hb⟩ := h4
  obtain ⟨⟨a0, a1, a2⟩, -⟩ := cells3 hm
  obtain ⟨⟨b0, b1, b2⟩, fb⟩ := cells3 hr
  obtain ⟨c0, c1, c2, c3⟩ := cells4 hu
  obtain ⟨d0, d1, d2, d3⟩ := cells4 hk
  have HR : Hid (w1.heap[w.heap.size + 1]? = some (.cells #[.int .u8 0, .int .i64 0, .int .i64 0] 31 (0, 0))) := hr
  have HB1 : Hid (Below w.heap.size w w1) := hb
  have p0 : w.heap.size < w1.heap.size := by omega
  have p1 : w.heap.size + 1 < w1.heap.size := by omega
  have p2 : w.heap.size + 1 + 1 < w1.heap.size := by omega
  have p3 : w.heap.size + 1 + 1 + 1 < w1.heap.size := by omega
  clear hm hr hu hk hz hb
  go_upto_region 7 with (go_at_call 47; refine (from_any _ _ _ _).mono ?_; rintro e w5 ⟨rfl, rfl⟩)
  go_region
  all_goals
    go_wp2_with fail
    refine bodyPost_ret (results_row_tmp rfl _ _ (w.heap.size + 1) 31 (mcells (4, 0, c)) (0, 0) _ rfl ?_ Try.underlying31 rfl size31) rfl ?_
    · show (World.alloc _ _).heap[_]? = _
      rw [heap_alloc_old]
      · exact block_store3 _ _ _ HR.out
      · simpa using p1
    · refine ⟨_, rfl, own_below (own_new (w := World.setCell _ _ _) [(3, c, 0, 0), (4, 0, 13, 32000)] 2 rfl (by simp) rfl (by simp [maxLen]) (by simp; omega)) (Below.refl _ _).drew, ?_⟩
      exact ((((HB1.out.setCell (by simp) _).setCell (by simp) _).setCell (by simp) _).alloc (by simp; omega) _).drew

set_option maxRecDepth 100000 in
set_option maxHeartbeats 2000000 in
theorem resp_r3_1 (n d c : Int) (w : World) (f1 : from_ c 100 199 = false) (f2 : from_ c 200 299 = false) (f3 : from_ c 300 699 = true) : Calls Try.prog 45 #[mval (1, n, d), .int .i64 c] w (GivesB w.heap.size w ((5, 0, c), [(3, c, 0, 0), (2, c, 0, 0), (4, 0, 4, 32000)])) := by
  go_enter Try.func45, Try.ntmps45
  go_upto_region 4 with fail
  have h4 := four_alloc w (.cells #[.int .u8 1, .int .i64 n, .int .i64 d] 31) (.cells #[.int .u8 0, .int .i64 0, .int .i64 0] 31) (.cells #[.int .u8 3, .int .i64 c, .int .u8 0, .int .i64 0] 48) (.cells #[.int .u8 2, .int .i64 c, .int .u8 0, .int .i64 0] 48)
  generalize World.alloc (World.alloc (World.alloc (World.alloc w _) _) _) _ = w1 at h4 ⊢
  obtain ⟨hm, hr, hu, hk, hz, hb⟩ := h4
  obtain ⟨⟨a0, a1, a2⟩, -⟩ := cells3 hm
  obtain ⟨⟨b0, b1, b2⟩, fb⟩ := cells3 hr
  obtain ⟨c0, c1, c2, c3⟩ := cells4 hu
  obtain ⟨d0, d1, d2, d3⟩ := cells4 hk
  have HR : Hid (w1.heap[w.heap.size + 1]? = some (.cells #[.int .u8 0, .int .i64 0, .int .i64 0] 31 (0, 0))) := hr
  have HB1 : Hid (Below w.heap.size w w1) := hb
  have p0 : w.heap.size < w1.heap.size := by omega
  have p1 : w.heap.size + 1 < w1.heap.size := by omega
  have p2 : w.heap.size + 1 + 1 < w1.heap.size := by omega
  have p3 : w.heap.size + 1 + 1 + 1 < w1.heap.size := by omega
  clear hm hr hu hk hz hb
  go_upto_region 9 with (go_at_call 47; refine (from_any _ _ _ _).mono ?_; rintro e w5 ⟨rfl, rfl⟩)
  go_region
  all_goals
    go_wp2_with fail
    refine bodyPost_ret (results_row_tmp rfl _ _ (w.heap.size + 1) 31 (mcells (5, 0, c)) (0, 0) _ rfl ?_ Try.underlying31 rfl size31) rfl ?_
    · show (World.alloc _ _).heap[_]? = _
      rw [heap_alloc_old]
      · exact block_store3 _ _ _ HR.out
      · simpa using p1
    · refine ⟨_, rfl, own_below (own_new (w := World.setCell _ _ _) [(3, c, 0, 0), (2, c, 0, 0), (4, 0, 4, 32000)] 3 rfl (by simp) rfl (by simp [maxLen]) (by simp; omega)) (Below.refl _ _).drew, ?_⟩
      exact ((((HB1.out.setCell (by simp) _).setCell (by simp) _).setCell (by simp) _).alloc (by simp; omega) _).drew

set_option maxRecDepth 100000 in
set_option maxHeartbeats 2000000 in
theorem resp_r3_3 (n d c : Int) (w : World) (f1 : from_ c 100 199 = false) (f2 : from_ c 200 299 = false) (f3 : from_ c 300 699 = true) : Calls Try.prog 45 #[mval (3, n, d), .int .i64 c] w (GivesB w.heap.size w ((5, 0, c), [(3, c, 0, 0), (2, c, 0, 0), (4, 0, 4, 32000)])) := by
  go_enter Try.func45, Try.ntmps45
  go_upto_region 4 with fail
  have h4 := four_alloc w (.cells #[.int .u8 3, .int .i64 n, .int .i64 d] 31) (.cells #[.int .u8 0, .int .i64 0, .int .i64 0] 31) (.cells #[.int .u8 3, .int .i64 c, .int .u8 0, .int .i64 0] 48) (.cells #[.int .u8 2, .int .i64 c, .int .u8 0, .int .i64 0] 48)
  generalize World.alloc (World.alloc (World.alloc (World.alloc w _) _) _) _ = w1 at h4 ⊢
  obtain ⟨hm, hr, hu, hk, hz, hb⟩ := h4
  obtain ⟨⟨a0, a1, a2⟩, -⟩ := cells3 hm
  obtain ⟨⟨b0, b1, b2⟩, fb⟩ := cells3 hr
  obtain ⟨c0, c1, c2, c3⟩ := cells4 hu
  obtain ⟨d0, d1, d2, d3⟩ := cells4 hk
  have HR : Hid (w1.heap[w.heap.size + 1]? = some (.cells #[.int .u8 0, .int .i64 0, .int .i64 0] 31 (0, 0))) := hr
  have HB1 : Hid (Below w.heap.size w w1) := hb
  have p0 : w.heap.size < w1.heap.size := by omega
  have p1 : w.heap.size + 1 < w1.heap.size := by omega
  have p2 : w.heap.size + 1 + 1 < w1.heap.size := by omega
  have p3 : w.heap.size + 1 + 1 + 1 < w1.heap.size := by omega
  clear hm hr hu hk hz hb
  go_upto_region 9 with (go_at_call 47; refine (from_any _ _ _ _).mono ?_; rintro e w5 ⟨rfl, rfl⟩)
  go_region
  all_goals
    go_wp2_with fail
    refine bodyPost_ret (results_row_tmp rfl _ _ (w.heap.size + 1) 31 (mcells (5, 0, c)) (0, 0) _ rfl ?_ Try.underlying31 rfl size31) rfl ?_
    · show (World.alloc _ _).heap[_]? = _
      rw [heap_alloc_old]
      · exact block_store3 _ _ _ HR.out
      · simpa using p1
    · refine ⟨_, rfl, own_below (own_new (w := World.setCell _ _ _) [(3, c, 0, 0), (2, c, 0, 0), (4, 0, 4, 32000)] 3 rfl (by simp) rfl (by simp [maxLen]) (by simp; omega)) (Below.refl _ _).drew, ?_⟩
      exact ((((HB1.out.setCell (by simp) _).setCell (by simp) _).setCell (by simp) _).alloc (by simp; omega) _).drew

set_option maxRecDepth 100000 in
set_option maxHeartbeats 2000000 in
theorem resp_r4_4 (n d c : Int) (w : World) (f2 : from_ c 200 299 = true) : Calls Try.prog 45 #[mval (4, n, d), .int .i64 c] w (GivesB w.heap.size w ((4, n, d), [(3, c, 0, 0)])) := by
  go_enter Try.func45, Try.ntmps45
  go_upto_region 4 with fail
  have h4 := four_alloc w (.cells #[.int .u8 4, .int .i64 n, .int .i64 d] 31) (.cells #[.int .u8 0, .int .i64 0, .int .i64 0] 31) (.cells #[.int .u8 3, .int .i64 c, .int .u8 0, .int .i64 0] 48) (.cells #[.int .u8 2, .int .i64 c, .int .u8 0, .int .i64 0] 48)
  generalize World.alloc (World.alloc (World.alloc (World.alloc w _) _) _) _ = w1 at h4 ⊢
  obtain ⟨hm, hr, hu, hk, hz, hb⟩ := h4
  obtain ⟨⟨a0, a1, a2⟩, -⟩ := cells3 hm
  obtain ⟨⟨b0, b1, b2⟩, fb⟩ := cells3 hr
  obtain ⟨c0, c1, c2, c3⟩ := cells4 hu
  obtain ⟨d0, d1, d2, d3⟩ := cells4 hk
  have HR : Hid (w1.heap[w.heap.size + 1]? = some (.cells #[.int .u8 0, .int .i64 0, .int .i64 0] 31 (0, 0))) := hr
  have HB1 : Hid (Below w.heap.size w w1) := hb
  have p0 : w.heap.size < w1.heap.size := by omega
  have p1 : w.heap.size + 1 < w1.heap.size := by omega
  have p2 : w.heap.size + 1 + 1 < w1.heap.size := by omega
  have p3 : w.heap.size + 1 + 1 + 1 < w1.heap.size := by omega
  clear hm hr hu hk hz hb
  go_upto_region 11 with (go_at_call 47; refine (from_any _ _ _ _).mono ?_; rintro e w5 ⟨rfl, rfl⟩)
  go_region
  all_goals
    go_wp2_with fail
    refine bodyPost_ret (results_row_tmp rfl _ _ (w.heap.size + 1) 31 (mcells (4, n, d)) (0, 0) _ rfl ?_ Try.underlying31 rfl size31) rfl ?_
    · show (World.alloc _ _).heap[_]? = _
      rw [heap_alloc_old]
      · exact block_store3 _ _ _ HR.out
      · simpa using p1
    · refine ⟨_, rfl, own_below (own_new (w := World.setCell _ _ _) [(3, c, 0, 0)] 1 rfl (by simp) rfl (by simp [maxLen]) (by simp; omega)) (Below.refl _ _).drew, ?_⟩
      exact ((((HB1.out.setCell (by simp) _).setCell (by simp) _).setCell (by simp) _).alloc (by simp; omega) _).drew

set_option maxRecDepth 100000 in
set_option maxHeartbeats 2000000 in
theorem resp_r5_5 (n d c : Int) (w : World) (f3 : from_ c 300 699 = true) : Calls Try.prog 45 #[mval (5, n, d), .int .i64 c] w (GivesB w.heap.size w ((5, n, d), [(2, c, 0, 0)])) := by
  go_enter Try.func45, Try.ntmps45
  go_upto_region 4 with fail
  have h4 := four_alloc w (.cells #[.int .u8 5, .int .i64 n, .int .i64 d] 31) (.cells #[.int .u8 0, .int .i64 0, .int .i64 0] 31) (.cells #[.int .u8 3, .int .i64 c, .int .u8 0, .int .i64 0] 48) (.cells #[.int .u8 2, .int .i64 c, .int .u8 0, .int .i64 0] 48)
  generalize World.alloc (World.alloc (World.alloc (World.alloc w _) _) _) _ = w1 at h4 ⊢
  obtain ⟨hm, hr, hu, hk, hz, hb⟩ := h4
  obtain ⟨⟨a0, a1, a2⟩, -⟩ := cells3 hm
  obtain ⟨⟨b0, b1, b2⟩, fb⟩ := cells3 hr
  obtain ⟨c0, c1, c2, c3⟩ := cells4 hu
  obtain ⟨d0, d1, d2, d3⟩ := cells4 hk
  have HR : Hid (w1.heap[w.heap.size + 1]? = some (.cells #[.int .u8 0, .int .i64 0, .int .i64 0] 31 (0, 0))) := hr
  have HB1 : Hid (Below w.heap.size w w1) := hb
  have p0 : w.heap.size < w1.heap.size := by omega
  have p1 : w.heap.size + 1 < w1.heap.size := by omega
  have p2 : w.heap.size + 1 + 1 < w1.heap.size := by omega
  have p3 : w.heap.size + 1 + 1 + 1 < w1.heap.size := by omega
  clear hm hr hu hk hz hb
  go_upto_region 13 with (go_at_call 47; refine (from_any _ _ _ _).mono ?_; rintro e w5 ⟨rfl, rfl⟩)
  go_region
  all_goals
    go_wp2_with fail
    refine bodyPost_ret (results_row_tmp rfl _ _ (w.heap.size + 1) 31 (mcells (5, n, d)) (0, 0) _ rfl ?_ Try.underlying31 rfl size31) rfl ?_
    · show (World.alloc _ _).heap[_]? = _
      rw [heap_alloc_old]
      · exact block_store3 _ _ _ HR.out
      · simpa using p1
    · refine ⟨_, rfl, own_below (own_new (w := World.setCell _ _ _) [(2, c, 0, 0)] 1 rfl (by simp) rfl (by simp [maxLen]) (by simp; omega)) (Below.refl _ _).drew, ?_⟩
      exact ((((HB1.out.setCell (by simp) _).setCell (by simp) _).setCell (by simp) _).alloc (by simp; omega) _).drew

set_option maxRecDepth 100000 in
set_option maxHeartbeats 2000000 in
theorem resp_no_1 (n d c : Int) (w : World) (f1 : from_ c 100 199 = false) (f2 : from_ c 200 299 = false) (f3 : from_ c 300 699 = false) : Calls Try.prog 45 #[mval (1, n, d), .int .i64 c] w (GivesB w.heap.size w ((1, n, d), [])) := by
  go_enter Try.func45, Try.ntmps45
  go_upto_region 4 with fail
  have h4 := four_alloc w (.cells #[.int .u8 1, .int .i64 n, .int .i64 d] 31) (.cells #[.int .u8 0, .int .i64 0, .int .i64 0] 31) (.cells #[.int .u8 3, .int .i64 c, .int .u8 0, .int .i64 0] 48) (.cells #[.int .u8 2, .int .i64 c, .int .u8 0, .int .i64 0] 48)
  generalize World.alloc (World.alloc (World.alloc (World.alloc w _) _) _) _ = w1 at h4 ⊢
  obtain ⟨hm, hr, hu, hk, hz, hb⟩ := h4
  obtain ⟨⟨a0, a1, a2⟩, -⟩ := cells3 hm
  obtain ⟨⟨b0, b1, b2⟩, fb⟩ := cells3 hr
  have HR : Hid (w1.heap[w.heap.size + 1]? = some (.cells #[.int .u8 0, .int .i64 0, .int .i64 0] 31 (0, 0))) := hr
  have HB1 : Hid (Below w.heap.size w w1) := hb
  have p0 : w.heap.size < w1.heap.size := by omega
  have p1 : w.heap.size + 1 < w1.heap.size := by omega
  clear hm hr hu hk hz hb
  go_wp2_with (go_at_call 47; refine (from_any _ _ _ _).mono ?_; rintro e w5 ⟨rfl, rfl⟩)
  refine bodyPost_ret (results_row_tmp rfl _ _ (w.heap.size + 1) 31 (mcells (1, n, d)) (0, 0) _ rfl (block_store3 _ _ _ HR.out) Try.underlying31 rfl size31) rfl ?_
  exact ⟨_, rfl, World.ownsRow_nil _ _ _ _, ((HB1.out.setCell (by simp) _).setCell (by simp) _).setCell (by simp) _⟩

set_option maxRecDepth 100000 in
set_option maxHeartbeats 2000000 in
theorem resp_no_3 (n d c : Int) (w : World) (f1 : from_ c 100 199 = false) (f2 : from_ c 200 299 = false) (f3 : from_ c 300 699 = false) : Calls Try.prog 45 #[mval (3, n, d), .int .i64 c] w (GivesB w.heap.size w ((3, n, d), [])) := by
  go_enter Try.func45, Try.ntmps45
  go_upto_region 4 with fail
  have h4 := four_alloc w (.cells #[.int .u8 3, .int .i64 n, .int .i64 d] 31) (.cells #[.int .u8 0, .int .i64 0, .int .i64 0] 31) (.cells #[.int .u8 3, .int .i64 c, .int .u8 0, .int .i64 0] 48) (.cells #[.int .u8 2, .int .i64 c, .int .u8 0, .int .i64 0] 48)
  generalize World.alloc (World.alloc (World.alloc (World.alloc w _) _) _) _ = w1 at h4 ⊢
  obtain ⟨hm, hr, hu, hk, hz, hb⟩ := h4
  obtain ⟨⟨a0, a1, a2⟩, -⟩ := cells3 hm
  obtain ⟨⟨b0, b1, b2⟩, fb⟩ := cells3 hr
  have HR : Hid (w1.heap[w.heap.size + 1]? = some (.cells #[.int .u8 0, .int .i64 0, .int .i64 0] 31 (0, 0))) := hr
  have HB1 : Hid (Below w.heap.size w w1) := hb
  have p0 : w.heap.size < w1.heap.size := by omega
  have p1 : w.heap.size + 1 < w1.heap.size := by omega
  clear hm hr hu hk hz hb
  go_wp2_with (go_at_call 47; refine (from_any _ _ _ _).mono ?_; rintro e w5 ⟨rfl, rfl⟩)
  refine bodyPost_ret (results_row_tmp rfl _ _ (w.heap.size + 1) 31 (mcells (3, n, d)) (0, 0) _ rfl (block_store3 _ _ _ HR.out) Try.underlying31 rfl size31) rfl ?_
  exact ⟨_, rfl, World.ownsRow_nil _ _ _ _, ((HB1.out.setCell (by simp) _).setCell (by simp) _).setCell (by simp) _⟩

set_option maxRecDepth 100000 in
set_option maxHeartbeats 2000000 in
theorem resp_no_4 (n d c : Int) (w : World) (f2 : from_ c 200 299 = false) : Calls Try.prog 45 #[mval (4, n, d), .int .i64 c] w (GivesB w.heap.size w ((4, n, d), [])) := by
  go_enter Try.func45, Try.ntmps45
  go_upto_region 4 with fail
  have h4 := four_alloc w (.cells #[.int .u8 4, .int .i64 n, .int .i64 d] 31) (.cells #[.int .u8 0, .int .i64 0, .int .i64 0] 31) (.cells #[.int .u8 3, .int .i64 c, .int .u8 0, .int .i64 0] 48) (.cells #[.int .u8 2, .int .i64 c, .int .u8 0, .int .i64 0] 48)
  generalize World.alloc (World.alloc (World.alloc (World.alloc w _) _) _) _ = w1 at h4 ⊢
  obtain ⟨hm, hr, hu, hk, hz, hb⟩ := h4
  obtain ⟨⟨a0, a1, a2⟩, -⟩ := cells3 hm
  obtain ⟨⟨b0, b1, b2⟩, fb⟩ := cells3 hr
  have HR : Hid (w1.heap[w.heap.size + 1]? = some (.cells #[.int .u8 0, .int .i64 0, .int .i64 0] 31 (0, 0))) := hr
  have HB1 : Hid (Below w.heap.size w w1) := hb
  have p0 : w.heap.size < w1.heap.size := by omega
  have p1 : w.heap.size + 1 < w1.heap.size := by omega
  clear hm hr hu hk hz hb
  go_wp2_with (go_at_call 47; refine (from_any _ _ _ _).mono ?_; rintro e w5 ⟨rfl, rfl⟩)
  refine bodyPost_ret (results_row_tmp rfl _ _ (w.heap.size + 1) 31 (mcells (4, n, d)) (0, 0) _ rfl (block_store3 _ _ _ HR.out) Try.underlying31 rfl size31) rfl ?_
  exact ⟨_, rfl, World.ownsRow_nil _ _ _ _, ((HB1.out.setCell (by simp) _).setCell (by simp) _).setCell (by simp) _⟩

set_option maxRecDepth 100000 in
set_option maxHeartbeats 2000000 in
theorem resp_no_5 (n d c : Int) (w : World) (f3 : from_ c 300 699 = false) : Calls Try.prog 45 #[mval (5, n, d), .int .i64 c] w (GivesB w.heap.size w ((5, n, d), [])) := by
  go_enter Try.func45, Try.ntmps45
  go_upto_region 4 with fail
  have h4 := four_alloc w (.cells #[.int .u8 5, .int .i64 n, .int .i64 d] 31) (.cells #[.int .u8 0, .int .i64 0, .int .i64 0] 31) (.cells #[.int .u8 3, .int .i64 c, .int .u8 0, .int .i64 0] 48) (.cells #[.int .u8 2, .int .i64 c, .int .u8 0, .int .i64 0] 48)
  generalize World.alloc (World.alloc (World.alloc (World.alloc w _) _) _) _ = w1 at h4 ⊢
  obtain ⟨hm, hr, hu, hk, hz, hb⟩ := h4
  obtain ⟨⟨a0, a1, a2⟩, -⟩ := cells3 hm
  obtain ⟨⟨b0, b1, b2⟩, fb⟩ := cells3 hr
  have HR : Hid (w1.heap[w.heap.size + 1]? = some (.cells #[.int .u8 0, .int .i64 0, .int .i64 0] 31 (0, 0))) := hr
  have HB1 : Hid (Below w.heap.size w w1) := hb
  have p0 : w.heap.size < w1.heap.size := by omega
  have p1 : w.heap.size + 1 < w1.heap.size := by omega
  clear hm hr hu hk hz hb
  go_wp2_with (go_at_call 47; refine (from_any _ _ _ _).mono ?_; rintro e w5 ⟨rfl, rfl⟩)
  refine bodyPost_ret (results_row_tmp rfl _ _ (w.heap.size + 1) 31 (mcells (5, n, d)) (0, 0) _ rfl (block_store3 _ _ _ HR.out) Try.underlying31 rfl size31) rfl ?_
  exact ⟨_, rfl, World.ownsRow_nil _ _ _ _, ((HB1.out.setCell (by simp) _).setCell (by simp) _).setCell (by simp) _⟩

set_option maxRecDepth 100000 in
set_option maxHeartbeats 2000000 in
theorem resp_no_s (s n d c : Int) (w : World) (g1 : ¬ s = 1) (g3 : ¬ s = 3) (g4 : ¬ s = 4) (g5 : ¬ s = 5) : Calls Try.prog 45 #[mval (s, n, d), .int .i64 c] w (GivesB w.heap.size w ((s, n, d), [])) := by
  go_enter Try.func45, Try.ntmps45
  go_upto_region 4 with fail
  have h4 := four_alloc w (.cells #[.int .u8 s, .int .i64 n, .int .i64 d] 31) (.cells #[.int .u8 0, .int .i64 0, .int .i64 0] 31) (.cells #[.int .u8 3, .int .i64 c, .int .u8 0, .int .i64 0] 48) (.cells #[.int .u8 2, .int .i64 c, .int .u8 0, .int .i64 0] 48)
  generalize World.alloc (World.alloc (World.alloc (World.alloc w _) _) _) _ = w1 at h4 ⊢
  obtain ⟨hm, hr, hu, hk, hz, hb⟩ := h4
  obtain ⟨⟨a0, a1, a2⟩, -⟩ := cells3 hm
  obtain ⟨⟨b0, b1, b2⟩, fb⟩ := cells3 hr
  have HR : Hid (w1.heap[w.heap.size + 1]? = some (.cells #[.int .u8 0, .int .i64 0, .int .i64 0] 31 (0, 0))) := hr
  have HB1 : Hid (Below w.heap.size w w1) := hb
  have p0 : w.heap.size < w1.heap.size := by omega
  have p1 : w.heap.size + 1 < w1.heap.size := by omega
  clear hm hr hu hk hz hb
  go_wp2_with (go_at_call 47; refine (from_any _ _ _ _).mono ?_; rintro e w5 ⟨rfl, rfl⟩)
  refine bodyPost_ret (results_row_tmp rfl _ _ (w.heap.size + 1) 31 (mcells (s, n, d)) (0, 0) _ rfl (block_store3 _ _ _ HR.out) Try.underlying31 rfl size31) rfl ?_
  exact ⟨_, rfl, World.ownsRow_nil _ _ _ _, ((HB1.out.setCell (by simp) _).setCell (by simp) _).setCell (by simp) _⟩


theorem resp_no (m : Mc) (c : Int) (w : World) (h1 : ¬ ((m.1 = 1 ∨ m.1 = 3) ∧ from_ c 100 199 = true)) (h2 : ¬ ((m.1 = 1 ∨ m.1 = 3) ∧ from_ c 200 299 = true)) (h3 : ¬ ((m.1 = 1 ∨ m.1 = 3) ∧ from_ c 300 699 = true)) (h4 : ¬ (m.1 = 4 ∧ from_ c 200 299 = true)) (h5 : ¬ (m.1 = 5 ∧ from_ c 300 699 = true)) :
    Calls Try.prog 45 #[mval m, .int .i64 c] w (GivesB w.heap.size w (m, [])) := by
  obtain ⟨s, n, d⟩ := m
  simp only at h1 h2 h3 h4 h5
  have key : (s = 1 ∧ from_ c 100 199 = false ∧ from_ c 200 299 = false ∧ from_ c 300 699 = false) ∨ (s = 3 ∧ from_ c 100 199 = false ∧ from_ c 200 299 = false ∧ from_ c 300 699 = false) ∨ (s = 4 ∧ from_ c 200 299 = false) ∨ (s = 5 ∧ from_ c 300 699 = false) ∨ (¬ s = 1 ∧ ¬ s = 3 ∧ ¬ s = 4 ∧ ¬ s = 5) := by
    cases e1 : from_ c 100 199 <;> cases e2 : from_ c 200 299 <;> cases e3 : from_ c 300 699 <;> simp only [e1, e2, e3, and_true, Bool.false_eq_true, and_false, not_false_eq_true] at h1 h2 h3 h4 h5 <;> simp <;> omega
  rcases key with ⟨rfl, f1, f2, f3⟩ | ⟨rfl, f1, f2, f3⟩ | ⟨rfl, f2⟩ | ⟨rfl, f3⟩ | ⟨g1, g3, g4, g5⟩
  · exact resp_no_1 n d c w f1 f2 f3
  · exact resp_no_3 n d c w f1 f2 f3
  · exact resp_no_4 n d c w f2
  · exact resp_no_5 n d c w f3
  · exact resp_no_s s n d c w g1 g3 g4 g5

theorem response_any (m : Mc) (c : Int) (w : World) : Calls Try.prog 45 #[mval m, .int .i64 c] w (GivesB w.heap.size w (responseR m c)) := by
  have hc := class_cases c
  obtain ⟨s, n, d⟩ := m
  unfold responseR
  split
  · rename_i h
    obtain ⟨rfl | rfl, h⟩ := h
    · exact resp_r1_1 n d c w h
    · exact resp_r1_3 n d c w h
  · rename_i h1
    split
    · rename_i h
      have f1 : from_ c 100 199 = false := by rcases hc with h' | h' | h' | h' <;> simp_all
      obtain ⟨rfl | rfl, h⟩ := h
      · exact resp_r2_1 n d c w f1 h
      · exact resp_r2_3 n d c w f1 h
    · rename_i h2
      split
      · rename_i h
        have f1 : from_ c 100 199 = false := by rcases hc with h' | h' | h' | h' <;> simp_all
        have f2 : from_ c 200 299 = false := by rcases hc with h' | h' | h' | h' <;> simp_all
        obtain ⟨rfl | rfl, h⟩ := h
        · exact resp_r3_1 n d c w f1 f2 h
        · exact resp_r3_3 n d c w f1 f2 h
      · rename_i h3
        split
        · rename_i h
          obtain ⟨rfl, h⟩ := h
          exact resp_r4_4 n d c w h
        · rename_i h4
          split
          · rename_i h
            obtain ⟨rfl, h⟩ := h
            exact resp_r5_5 n d c w h
          · rename_i h5; exact resp_no (s, n, d) c w h1 h2 h3 h4 h5

end Go.Proofs.Ytlcpadonjbaaeaa
