/- The walk of the law's step: both Steps on one machine and input. -/
import Derived.Test.YtlcpadonjbaaeaaRef3
import Derived.Deep.RegionHeld3
import Derived.Deep.QuietTactic
namespace Go.Proofs.Ytlcpadonjbaaeaa
open Go.RowKit

theorem stepS_len (m : Mc) (i : In) : (stepS m i).2.length ≤ 3 := by
  rw [step_same]
  unfold stepR responseR endedR
  repeat' split
  all_goals simp

/-- Three cells of a machine's block. -/
theorem mc_cells {w : World} {g : Nat} {m : Mc} (h : w.heap[g]? = some (.cells (mcells m) 31 (0, 0))) :
    w.cell? ⟨g, 0, none⟩ = some (.int .u8 m.1) ∧ w.cell? ⟨g, 1, none⟩ = some (.int .i64 m.2.1) ∧ w.cell? ⟨g, 2, none⟩ = some (.int .i64 m.2.2) :=
  ⟨cells_of_block h 0, cells_of_block h 1, cells_of_block h 2⟩

set_option maxRecDepth 100000 in
set_option maxHeartbeats 2000000 in
theorem lstep_any (m : Mc) (i : In) (hm : OkM m) (w : World) :
   
    Calls Try.prog 24 #[mval m, ival i] w fun e w' => e = .returned (.bool true) ∧ Below w.heap.size w w' := by
  have HM : Hid (OkM m) := hm
  clear hm
  go_enter Try.func24, Try.ntmps24
  go_wp2_with fail
  refine (step_any m i HM.out _).mono ?_
  obtain ⟨r, hr⟩ : ∃ r, r = stepS m i := ⟨_, rfl⟩
  have hlen : r.2.length ≤ 3 := hr ▸ stepS_len m i
  rw [← hr]
  rintro e w1 ⟨v1, rfl, hown1, hb1⟩
  obtain ⟨A1, c1, rfl, hc1⟩ := own_slice hown1
  have hm0 : ((w.alloc (.cells (mcells m) 31)).alloc (.cells (icells i) 42)).heap[w.heap.size]? = some (.cells (mcells m) 31 (0, 0)) := by
    rw [heap_alloc_old, heap_alloc_new]
    simp
  have hi0 : ((w.alloc (.cells (mcells m) 31)).alloc (.cells (icells i) 42)).heap[w.heap.size + 1]? = some (.cells (icells i) 42 (0, 0)) := by
    have := heap_alloc_new (w.alloc (.cells (mcells m) 31)) (.cells (icells i) 42)
    simpa using this
  have hm1 := block_below hm0 hb1 (by simp; omega)
  have hi1 := block_below hi0 hb1 (by simp)
  have hbw : Below w.heap.size w w1 := (((Below.refl _ _).alloc (Nat.le_refl _) _).alloc (by simp) _).trans (hb1.mono (by simp; omega))
  have hz := hb1.size
  simp only [World.size_alloc] at hz
  have q0 : w.heap.size < w1.heap.size := by omega
  have q1 : w.heap.size + 1 < w1.heap.size := by omega
  have HM1 : Hid (w1.heap[w.heap.size]? = some (.cells (mcells m) 31 (0, 0))) := hm1
  have HO1 : Hid (ORd w1 w1.heap.size A1 r.2) := Rd.of_own hown1
  have HW1 : Hid (Below w.heap.size w w1) := hbw
  obtain ⟨a0, a1, a2⟩ := mc_cells hm1
  have b0 : w1.cell? ⟨w.heap.size + 1, 0, none⟩ = some (.int .u8 i.1) := cells_of_block hi1 0
  have b1 : w1.cell? ⟨w.heap.size + 1, 1, none⟩ = some (.int .i64 i.2.1) := cells_of_block hi1 1
  have b2 : w1.cell? ⟨w.heap.size + 1, 2, none⟩ = some (.int .u8 i.2.2) := cells_of_block hi1 2
  have HR : Hid (r = stepS m i) := hr
  clear hm0 hi0 hm1 hi1 hbw hz hb1 hown1 hr
  have k0 : (w1.alloc (.cells (mcells r.1) 31)).cell? ⟨w.heap.size, 0, none⟩ = some (.int .u8 m.1) := cells_of_block (block_below HM1.out ((Below.refl w1.heap.size _).alloc (by omega) _) q0) 0
  have k1 : (w1.alloc (.cells (mcells r.1) 31)).cell? ⟨w.heap.size, 1, none⟩ = some (.int .i64 m.2.1) := cells_of_block (block_below HM1.out ((Below.refl w1.heap.size _).alloc (by omega) _) q0) 1
  have k2 : (w1.alloc (.cells (mcells r.1) 31)).cell? ⟨w.heap.size, 2, none⟩ = some (.int .i64 m.2.2) := cells_of_block (block_below HM1.out ((Below.refl w1.heap.size _).alloc (by omega) _) q0) 2
  unfold mcells at k0 k1 k2
  go_wp2_with fail
  refine (rstep_any m i _).mono ?_
  rw [← HR.out]
  rintro e w2 ⟨v2, rfl, hown2, hb2⟩
  obtain ⟨A2, c2, rfl, hc2⟩ := own_slice hown2
  have hz2 := hb2.size
  simp only [World.size_alloc] at hz2
  have q2 : w.heap.size < w2.heap.size := by omega
  have q3 : w1.heap.size < w2.heap.size := by omega
  have hb12 : Below w1.heap.size w1 w2 := ((Below.refl _ _).alloc (Nat.le_refl _) _).trans (hb2.mono (by simp))
  have hm2 := block_below HM1.out hb12 q0
  have hr2 : w2.heap[w1.heap.size]? = some (.cells (mcells r.1) 31 (0, 0)) := block_below (heap_alloc_new w1 (.cells (mcells r.1) 31)) hb2 (by simp)
  obtain ⟨x0, x1, x2⟩ := mc_cells hm2
  obtain ⟨y0, y1, y2⟩ := mc_cells hr2
  have HO1' : Hid (ORd w2 w1.heap.size A1 r.2) := HO1.out.below hb12
  have HO2 : Hid (ORd w2 w2.heap.size A2 r.2) := Rd.of_own hown2
  have HW2 : Hid (Below w.heap.size w w2) := HW1.out.trans (hb12.mono (by omega))
  have HX : Hid (w2.heap[w.heap.size]? = some (.cells (mcells m) 31 (0, 0)) ∧ w2.heap[w1.heap.size]? = some (.cells (mcells r.1) 31 (0, 0))) := ⟨hm2, hr2⟩
  clear hz2 hb2 hb12 hown2 hm2 hr2 a0 a1 a2 b0 b1 b2 k0 k1 k2 HM1 HW1 HO1 HR
  go_upto_region 3 with fail
  have hn := heap_alloc_new w2 (.cells (mcells r.1) 31)
  have hba : Below w2.heap.size w2 (w2.alloc (.cells (mcells r.1) 31)) := (Below.refl _ _).alloc (Nat.le_refl _) _
  have za : (w2.alloc (.cells (mcells r.1) 31)).heap.size = w2.heap.size + 1 := by simp
  unfold mcells at hn hba za
  generalize w2.alloc _ = wa at hn hba za ⊢
  have q4 : w.heap.size < wa.heap.size := by omega
  have q5 : w1.heap.size < wa.heap.size := by omega
  have q6 : w2.heap.size < wa.heap.size := by omega
  have q7 : w.heap.size + 1 < wa.heap.size := by omega
  have HA : Hid (wa.heap[w.heap.size]? = some (.cells (mcells m) 31 (0, 0)) ∧ wa.heap[w1.heap.size]? = some (.cells (mcells r.1) 31 (0, 0)) ∧ wa.heap[w2.heap.size]? = some (.cells (mcells r.1) 31 (0, 0))) :=
    ⟨block_below HX.out.1 hba q2, block_below HX.out.2 hba q3, hn⟩
  have HAW : Hid (Below w.heap.size w wa) := HW2.out.trans (hba.mono (by omega))
  have HOa : Hid (ORd wa w1.heap.size A1 r.2) := HO1'.out.below (hba.mono (by omega))
  have HOb : Hid (ORd wa w2.heap.size A2 r.2) := HO2.out.below hba
  have keep : ∀ w', Below wa.heap.size wa w' → (w'.cell? ⟨w.heap.size, 0, none⟩ = some (.int .u8 m.1) ∧ w'.cell? ⟨w.heap.size, 1, none⟩ = some (.int .i64 m.2.1) ∧ w'.cell? ⟨w.heap.size, 2, none⟩ = some (.int .i64 m.2.2)) ∧ (w'.cell? ⟨w1.heap.size, 0, none⟩ = some (.int .u8 r.1.1) ∧ w'.cell? ⟨w1.heap.size, 1, none⟩ = some (.int .i64 r.1.2.1) ∧ w'.cell? ⟨w1.heap.size, 2, none⟩ = some (.int .i64 r.1.2.2)) ∧ (w'.cell? ⟨w2.heap.size, 0, none⟩ = some (.int .u8 r.1.1) ∧ w'.cell? ⟨w2.heap.size, 1, none⟩ = some (.int .i64 r.1.2.1) ∧ w'.cell? ⟨w2.heap.size, 2, none⟩ = some (.int .i64 r.1.2.2)) := fun w' hb =>
    ⟨mc_cells (block_below HA.out.1 hb q4), mc_cells (block_below HA.out.2.1 hb q5), mc_cells (block_below HA.out.2.2 hb q6)⟩
  have HK : Hid (∀ w', Below wa.heap.size wa w' → (w'.cell? ⟨w.heap.size, 0, none⟩ = some (.int .u8 m.1) ∧ w'.cell? ⟨w.heap.size, 1, none⟩ = some (.int .i64 m.2.1) ∧ w'.cell? ⟨w.heap.size, 2, none⟩ = some (.int .i64 m.2.2)) ∧ (w'.cell? ⟨w1.heap.size, 0, none⟩ = some (.int .u8 r.1.1) ∧ w'.cell? ⟨w1.heap.size, 1, none⟩ = some (.int .i64 r.1.2.1) ∧ w'.cell? ⟨w1.heap.size, 2, none⟩ = some (.int .i64 r.1.2.2)) ∧ (w'.cell? ⟨w2.heap.size, 0, none⟩ = some (.int .u8 r.1.1) ∧ w'.cell? ⟨w2.heap.size, 1, none⟩ = some (.int .i64 r.1.2.1) ∧ w'.cell? ⟨w2.heap.size, 2, none⟩ = some (.int .i64 r.1.2.2))) := keep
  obtain ⟨⟨k0, k1, k2⟩, ⟨k3, k4, k5⟩, ⟨k6, k7, k8⟩⟩ := keep wa (Below.refl _ _)
  have hme := fun W => (run_eql_mc r.1 r.1 W).trans (by rw [decide_eq_true rfl])
  have HLen : Hid (r.2.length ≤ 3) := hlen
  clear x0 x1 x2 y0 y1 y2 hn hba za HX HO1' HO2 HW2 hc1 hc2 hlen keep
  go_region_held3 (fun w' => (w'.cell? ⟨w.heap.size, 0, none⟩ = some (.int .u8 m.1) ∧ w'.cell? ⟨w.heap.size, 1, none⟩ = some (.int .i64 m.2.1) ∧ w'.cell? ⟨w.heap.size, 2, none⟩ = some (.int .i64 m.2.2)) ∧ (w'.cell? ⟨w1.heap.size, 0, none⟩ = some (.int .u8 r.1.1) ∧ w'.cell? ⟨w1.heap.size, 1, none⟩ = some (.int .i64 r.1.2.1) ∧ w'.cell? ⟨w1.heap.size, 2, none⟩ = some (.int .i64 r.1.2.2)) ∧ (w'.cell? ⟨w2.heap.size, 0, none⟩ = some (.int .u8 r.1.1) ∧ w'.cell? ⟨w2.heap.size, 1, none⟩ = some (.int .i64 r.1.2.1) ∧ w'.cell? ⟨w2.heap.size, 2, none⟩ = some (.int .i64 r.1.2.2)))
    (first | go_keep | exact hkeep3 | exact hkeep4 | exact hkeep5)
    (first
      | (go_at_call 23
         refine (same_any (B := w1.heap.size) (C := w2.heap.size) A1 A2 c1 c2 r.2 r.2 _ (by simp; omega) (by simp; omega) (Rd.drew HOa.out) (Rd.drew HOb.out) (by have := HLen.out; simp only [maxLen]; omega) (by have := HLen.out; simp only [maxLen]; omega)).mono ?_
         rw [decide_eq_true rfl]
         rintro e w3 ⟨rfl, hb3⟩
         have hA3 : Below wa.heap.size wa w3 := (below_drewN (Below.refl _ _) 1).trans (hb3.mono (by simp))
         have hz3 := hA3.size
         have hkeep3 := HK.out w3 hA3)
      | (go_at_call 18
         refine (may_any m HM.out _).mono ?_
         rintro e w4 ⟨rfl, hb4⟩
         have hA4 : Below wa.heap.size wa w4 := hA3.trans (hb4.mono hz3)
         have hz4 := hA4.size
         have hkeep4 := HK.out w4 hA4)
      | (go_at_call 32
         refine (rmay_any m _).mono ?_
         rintro e w5 ⟨rfl, hb5⟩
         have hA5 : Below wa.heap.size wa w5 := hA4.trans (hb5.mono hz4)
         have hkeep5 := HK.out w5 hA5))
  go_wp2_with fail
  go_ret
  exact ⟨rfl, HAW.out.trans (hA5.mono HAW.out.size)⟩

end Go.Proofs.Ytlcpadonjbaaeaa
