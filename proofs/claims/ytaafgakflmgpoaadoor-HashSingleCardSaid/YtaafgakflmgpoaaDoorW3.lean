/- The walk of process: a round. -/
import Derived.Test.YtaafgakflmgpoaaDoorW2
import Derived.Deep.DeepCutAuto
import Derived.Deep.RegionLaw
namespace Go.Proofs.YtaafgakflmgpoaaDoor
open Go.RowKit

def v8c (v : V8) : Array Value := #[.int .u32 v.a, .int .u32 v.b, .int .u32 v.c, .int .u32 v.d, .int .u32 v.e, .int .u32 v.f, .int .u32 v.g, .int .u32 v.h]
theorem cells8 {w : World} {g : Nat} {t : TypeId} {a b c d e f k h : Value} (hw : w.heap[g]? = some (.cells #[a, b, c, d, e, f, k, h] t (0, 0))) :
    (w.cell? ⟨g, 0, none⟩ = some a ∧ w.cell? ⟨g, 1, none⟩ = some b ∧ w.cell? ⟨g, 2, none⟩ = some c ∧ w.cell? ⟨g, 3, none⟩ = some d) ∧ (w.cell? ⟨g, 4, none⟩ = some e ∧ w.cell? ⟨g, 5, none⟩ = some f ∧ w.cell? ⟨g, 6, none⟩ = some k ∧ w.cell? ⟨g, 7, none⟩ = some h) ∧ ∀ o, w.frozen? ⟨g, o, none⟩ = false :=
  ⟨⟨cells_of_block hw 0, cells_of_block hw 1, cells_of_block hw 2, cells_of_block hw 3⟩, ⟨cells_of_block hw 4, cells_of_block hw 5, cells_of_block hw 6, cells_of_block hw 7⟩, fun _ => frozen_of_row _ _ _ _ _ hw⟩

/-- The variables that the program's text lays. -/
structure Laid (w : World) : Prop where
  first : ∃ t, w.heap[0]? = some (.cells (v8c firstV) t (0, 0))
  keys : ∃ t, w.heap[1]? = some (.cells (u32s keysL).toArray t (0, 0))
theorem Laid.lt {w : World} (h : Laid w) : 2 ≤ w.heap.size := (Array.getElem?_eq_some_iff.1 h.keys.choose_spec).1
theorem Laid.below {w w' : World} (h : Laid w) {B : Nat} (hb : Below B w w') (hB : 2 ≤ B) : Laid w' := ⟨⟨_, block_below h.first.choose_spec hb (by omega)⟩, ⟨_, block_below h.keys.choose_spec hb (by omega)⟩⟩

theorem size28 : (Tryd.prog.info? 28).map (·.size) = some 8 := by kernel_rfl
theorem size30 {l : List Int} (h : l.length = 64) : (Tryd.prog.info? 30).map (·.size) = some (u8s l).toArray.size := by
  rw [show (Tryd.prog.info? 30).map (·.size) = some 64 by kernel_rfl]
  simp [u8s, h]

theorem v8c_list (v : V8) : v8c v = (u32s v.list).toArray := rfl
/-- Behind k additions. -/
def mixL (s v : List Int) (k : Nat) : List Int := s.take k ++ v.drop k
theorem mix_len {s v : List Int} (hs : s.length = 8) (hv : v.length = 8) {k : Nat} (hk : k ≤ 8) : (mixL s v k).length = 8 := by
  simp [mixL, hs, hv]; omega
theorem mix_get {s v : List Int} (hs : s.length = 8) {k : Nat} (hk : k < 8) : (mixL s v k).getD k 0 = v.getD k 0 := by
  have e : min k s.length = k := by omega
  simp [mixL, List.getD_eq_getElem?_getD, List.getElem?_append_right, List.length_take, e]
theorem mix_set {s v : List Int} (hs : s.length = 8) (hv : v.length = 8) {k : Nat} (hk : k < 8) : (mixL s v k).set k (s.getD k 0) = mixL s v (k + 1) := by
  have e : min k s.length = k := by omega
  unfold mixL
  rw [List.set_append_right _ _ (by simp; omega), List.length_take, e, Nat.sub_self, List.take_add_one, List.append_assoc]
  congr 1
  have h1 : s[k]? = some s[k] := List.getElem?_eq_getElem (by omega)
  have h2 : v.drop k = v[k] :: v.drop (k + 1) := List.drop_eq_getElem_cons (by omega)
  rw [h2, h1, List.getD_eq_getElem?_getD, h1]
  rfl
theorem mix_end {s v : List Int} (hs : s.length = 8) (hv : v.length = 8) : mixL s v 8 = s := by
  simp [mixL, hs, hv, List.take_of_length_le]
theorem addV_at (v h : V8) {k : Nat} (hk : k < 8) : (addV v h).list.getD k 0 = (v.list.getD k 0 + h.list.getD k 0) % 4294967296 := by
  rcases (show k = 0 ∨ k = 1 ∨ k = 2 ∨ k = 3 ∨ k = 4 ∨ k = 5 ∨ k = 6 ∨ k = 7 by omega) with rfl | rfl | rfl | rfl | rfl | rfl | rfl | rfl <;> rfl

set_option maxRecDepth 100000 in
set_option maxHeartbeats 4000000 in
theorem process_any (h : V8) (b : List Int) (hb : b.length = 64) (hg : good8 b) (w : World) (hL : Laid w) : Calls Tryd.prog 27 #[.agg (v8c h), .agg (u8s b).toArray] w fun e w' => e = .returned (.agg (v8c (blockS h b))) ∧ Below w.heap.size w w' := by
  have HB : Hid (b.length = 64) := hb
  have HG : Hid (good8 b) := hg
  have HL : Hid (Laid w) := hL
  clear hb hg hL
  go_enter Tryd.func27, Tryd.ntmps27
  go_upto_region 1 with fail
  generalize hW : World.alloc (World.alloc (World.alloc w _) _) _ = w3
  obtain ⟨hh0, hb0, hr0, hz, hbl⟩ := three_gen hW
  have HH0 : Hid (w3.heap[w.heap.size]? = some (.cells (v8c h) 28 (0, 0))) := hh0
  have HB0 : Hid (w3.heap[w.heap.size + 1]? = some (.cells (u8s b).toArray 30 (0, 0))) := hb0
  have HR0 : Hid (w3.heap[w.heap.size + 1 + 1]? = some (.cells (u32s (zeros 8)).toArray 28 (0, 0))) := hr0
  have HL0 : Hid (Below w.heap.size w w3) := hbl
  clear hh0 hb0 hr0 hbl hW
  go_wp2_with (refine wpList_load_row rfl 30 (.tmp 3) rfl (w.heap.size + 1) rfl 30 (u8s b).toArray (0, 0) _ HB0.out Tryd.underlying30 rfl (size30 HB.out) ?_)
  refine (sched_any b HB.out HG.out _).mono ?_
  rintro e w4 ⟨rfl, hb4⟩
  have HB4 : Hid (Below w3.heap.size w3 w4) := hb4
  have HLen : Hid ((schedS b 64).length = 64) := schedS_len b 64
  obtain ⟨sc, hsc⟩ : ∃ sc, sc = schedS b 64 := ⟨_, rfl⟩
  rw [← hsc] at HLen ⊢
  have HSC : Hid (sc = schedS b 64) := hsc
  clear hb4 hsc
  go_upto_region 2 with (refine wpList_store_fresh rfl 50 (.tmp 5) (.tmp 14) rfl w4.heap.size rfl (u32s sc).toArray rfl rfl (by simp [u32s_len, HLen.out]) (size50 HLen.out) (one_u32 sc) ?_)
  have hs5 := heap_alloc_new w4 (.cells (u32s sc).toArray 50)
  have hz5 : (w4.alloc (.cells (u32s sc).toArray 50)).heap.size = w4.heap.size + 1 := by simp
  have hb5 : Below w4.heap.size w4 (w4.alloc (.cells (u32s sc).toArray 50)) := (Below.refl _ _).alloc (Nat.le_refl _) _
  generalize w4.alloc _ = w5 at hs5 hz5 hb5 ⊢
  have q4 : w3.heap.size ≤ w4.heap.size := HB4.out.size
  have HB5 : Hid (Below w3.heap.size w3 w5) := HB4.out.trans (hb5.mono q4)
  have HS5 : Hid (w5.heap[w4.heap.size]? = some (.cells (u32s sc).toArray 50 (0, 0))) := hs5
  have hh5 : w5.heap[w.heap.size]? = some (.cells (v8c h) 28 (0, 0)) := block_below HH0.out HB5.out (by omega)
  have HH5 : Hid (w5.heap[w.heap.size]? = some (.cells (v8c h) 28 (0, 0))) := hh5
  have q5 : w.heap.size < w5.heap.size := by omega
  obtain ⟨⟨a0, a1, a2, a3⟩, ⟨a4, a5, a6, a7⟩, -⟩ := cells8 hh5
  have q45 : w4.heap.size < w5.heap.size := by omega
  have q35 : w3.heap.size < w5.heap.size := by omega
  have q03 : w.heap.size + 1 + 1 < w3.heap.size := by omega
  clear hs5 hb5 hh5 HB4 hz5 hz
  go_upto_region 3 with fail
  clear a0 a1 a2 a3 a4 a5 a6 a7
  have hv6 := heap_alloc_new w5 (.cells (v8c h) 28)
  have hz6 : (w5.alloc (.cells (v8c h) 28)).heap.size = w5.heap.size + 1 := by simp
  have hb6 : Below w5.heap.size w5 (w5.alloc (.cells (v8c h) 28)) := (Below.refl _ _).alloc (Nat.le_refl _) _
  unfold v8c at hv6 hz6 hb6
  generalize w5.alloc _ = w6 at hv6 hz6 hb6 ⊢
  have HV6 : Hid (w6.heap[w5.heap.size]? = some (.cells (v8c (roundsS h sc 0)) 28 (0, 0))) := hv6
  have HB6 : Hid (Below w3.heap.size w3 w6) := HB5.out.trans (hb6.mono (by omega))
  have HS6 : Hid (w6.heap[w4.heap.size]? = some (.cells (u32s sc).toArray 50 (0, 0))) := block_below HS5.out hb6 (by omega)
  have HH6 : Hid (w6.heap[w.heap.size]? = some (.cells (v8c h) 28 (0, 0))) := block_below HH5.out hb6 (by omega)
  have HL6 : Hid (Laid w6) := HL.out.below (HL0.out.trans (HB6.out.mono (by omega))) HL.out.lt
  have hlw := HL.out.lt
  have q56 : w5.heap.size < w6.heap.size := by omega
  clear hv6 hb6 HH5 HS5 HB5 hz6
  go_wp2
  go_loopw [16] (fun i wr => ∃ k : Nat, k ≤ 64 ∧ i = .int .i64 k ∧ Below w5.heap.size w6 wr ∧ wr.heap[w5.heap.size]? = some (.cells (v8c (roundsS h sc k)) 28 (0, 0))) (fun i _ => 64 - (intOf i).toNat)
  case atStart => exact ⟨0, by omega, rfl, Below.refl _ _, HV6.out⟩
  case round =>
    obtain ⟨k, hk, rfl, hbr, hvr⟩ := hrel
    have HBR : Hid (Below w5.heap.size w6 wr) := hbr
    have HVR : Hid (wr.heap[w5.heap.size]? = some (.cells (v8c (roundsS h sc k)) 28 (0, 0))) := hvr
    by_cases hlt : k < 64
    · have hki : (k : Int) < 64 := by omega
      have HN : Hid (roundsS h sc (k + 1) = stepS (roundsS h sc k) (keysL.getD k 0) (sc.getD k 0)) := rfl
      have cK := cell_u32 (i := k) (HL6.out.below hbr (by omega)).keys.choose_spec (by show k < 64; omega)
      have cS := cell_u32 (i := k) (block_below HS6.out hbr (by omega)) (by rw [HLen.out]; omega)
      generalize roundsS h sc k = v at hvr HVR HN
      generalize keysL.getD k 0 = kk at cK HN
      generalize sc.getD k 0 = ss at cS HN
      obtain ⟨va, vb, vc, vd, ve, vf, vg, vh⟩ := v
      obtain ⟨⟨v0, v1, v2, v3⟩, ⟨v4, v5, v6, v7⟩, fv⟩ := cells8 hvr
      have q6 : w5.heap.size < wr.heap.size := (Array.getElem?_eq_some_iff.1 hvr).1
      have q7 : w4.heap.size < wr.heap.size := by omega
      have q8 : 1 < wr.heap.size := by omega
      clear hbr hvr
      go_wp2
      go_quiet (fail)
      go_wp2
      go_quiet ((go_at_call 32; exact quiet_more (fun W => rot_k _ _ W (by simp [TurnI])) _ _ _))
      go_wp2
      go_quiet ((go_at_call 32; exact quiet_more (fun W => rot_k _ _ W (by simp [TurnI])) _ _ _))
      go_wp2
      have hn1 := nq
      generalize hwq : wr.drewN _ = wq
      have hvq : wq.heap[w5.heap.size]? = some (.cells #[.int .u32 va, .int .u32 vb, .int .u32 vc, .int .u32 vd, .int .u32 ve, .int .u32 vf, .int .u32 vg, .int .u32 vh] 28 (0, 0)) := by subst hwq; exact HVR.out
      have HBQ : Hid (Below w5.heap.size w6 wq) := by subst hwq; exact below_drewN HBR.out _
      clear hwq v0 v1 v2 v3 v4 v5 v6 v7 fv cK cS
      obtain ⟨⟨v0, v1, v2, v3⟩, ⟨v4, v5, v6, v7⟩, fv⟩ := cells8 hvq
      have q9 : w5.heap.size < wq.heap.size := (Array.getElem?_eq_some_iff.1 hvq).1
      have HVQ : Hid (wq.heap[w5.heap.size]? = some (.cells #[.int .u32 va, .int .u32 vb, .int .u32 vc, .int .u32 vd, .int .u32 ve, .int .u32 vf, .int .u32 vg, .int .u32 vh] 28 (0, 0))) := hvq
      clear hvq
      have hsrc : ∀ (j : Nat) (u : Value), [Value.int .u32 va, .int .u32 vb, .int .u32 vc, .int .u32 vd, .int .u32 ve, .int .u32 vf, .int .u32 vg][j]? = some u → wq.cell? ((⟨w5.heap.size, 0, none⟩ : Addr).add j) = some u := by
        intro j u hu
        have hadd : (⟨w5.heap.size, 0, none⟩ : Addr).add j = ⟨w5.heap.size, j, none⟩ := by unfold Addr.add; split <;> simp_all
        rw [hadd, cells_of_block HVQ.out j]
        rcases (show j = 0 ∨ j = 1 ∨ j = 2 ∨ j = 3 ∨ j = 4 ∨ j = 5 ∨ j = 6 ∨ 7 ≤ j by omega) with rfl | rfl | rfl | rfl | rfl | rfl | rfl | hj
        all_goals first
          | exact hu
          | (rw [List.getElem?_eq_none (by simpa using hj)] at hu; cases hu)
      have HSRC : Hid (∀ (j : Nat) (u : Value), [Value.int .u32 va, .int .u32 vb, .int .u32 vc, .int .u32 vd, .int .u32 ve, .int .u32 vf, .int .u32 vg][j]? = some u → wq.cell? ((⟨w5.heap.size, 0, none⟩ : Addr).add j) = some u) := hsrc
      clear hsrc
      go_region_law (refine step_copy_splice rfl (.tmp 77) (.tmp 78) 53 53 rfl 27 Tryd.underlying53 (by kernel_rfl) (some ⟨w5.heap.size, 1, none⟩) (some ⟨w5.heap.size, 0, none⟩) 7 7 7 8 rfl rfl w5.heap.size 1 [.int .u32 va, .int .u32 vb, .int .u32 vc, .int .u32 vd, .int .u32 ve, .int .u32 vf, .int .u32 vg, .int .u32 vh] 28 HVQ.out [.int .u32 va, .int .u32 vb, .int .u32 vc, .int .u32 vd, .int .u32 ve, .int .u32 vf, .int .u32 vg] rfl (fun _ => ⟨rfl, _, rfl, HSRC.out⟩) (by simp) (by simp [Value.oneCell']) w5.heap.size w6 ((below_drewN HBQ.out _).drew) (Nat.le_refl _) ?_; intro w7 hg7 hb7)
      have hv7 : w7.heap[w5.heap.size]? = some (.cells #[.int .u32 va, .int .u32 va, .int .u32 vb, .int .u32 vc, .int .u32 vd, .int .u32 ve, .int .u32 vf, .int .u32 vg] 28 (0, 0)) := hg7.out
      clear v0 v1 v2 v3 v4 v5 v6 v7 fv hg7 q9
      obtain ⟨⟨v0, v1, v2, v3⟩, ⟨v4, v5, v6, v7⟩, fv⟩ := cells8 hv7
      have q9 : w5.heap.size < w7.heap.size := (Array.getElem?_eq_some_iff.1 hv7).1
      have HV7 : Hid (w7.heap[w5.heap.size]? = some (.cells #[.int .u32 va, .int .u32 va, .int .u32 vb, .int .u32 vc, .int .u32 vd, .int .u32 ve, .int .u32 vf, .int .u32 vg] 28 (0, 0))) := hv7
      have HB7 : Hid (Below w5.heap.size w6 w7) := hb7
      clear hv7 hb7 HVQ HBQ HSRC HVR HBR
      go_wp2
      go_roundw
      case rel =>
        refine ⟨k + 1, by omega, by go_num, (HB7.out.setCell (Nat.le_refl _) _).setCell (Nat.le_refl _) _, ?_⟩
        rw [HN.out, heap_setCell_same _ _ 0 _ 28 _ (heap_setCell_same _ _ 4 _ 28 _ HV7.out)]
        rw [step_flat]
        rfl
      case measure => simp [intOf]; omega
    · have hk64 : k = 64 := by omega
      subst hk64
      have HHR : Hid (wr.heap[w.heap.size]? = some (.cells (u32s h.list).toArray 28 (0, 0))) := block_below HH6.out hbr (by omega)
      obtain ⟨v, hv⟩ : ∃ v, v = roundsS h sc 64 := ⟨_, rfl⟩
      rw [← hv] at hvr
      have HVE : Hid (v = roundsS h sc 64) := hv
      have HVR2 : Hid (wr.heap[w5.heap.size]? = some (.cells (u32s (mixL (addV v h).list v.list 0)).toArray 28 (0, 0))) := hvr
      clear hbr hvr hv HVR
      obtain ⟨wo, rfl⟩ : ∃ wo : World, wo = wr := ⟨_, rfl⟩
      rw [show ((64 : Nat) : Int) = (64 : Int) from rfl]
      go_wp2
      go_loopw [90] (fun i wr => ∃ k : Nat, k ≤ 8 ∧ i = .int .i64 k ∧ Below w5.heap.size wo wr ∧ wr.heap[w5.heap.size]? = some (.cells (u32s (mixL (addV v h).list v.list k)).toArray 28 (0, 0))) (fun i _ => 8 - (intOf i).toNat)
      case atStart => exact ⟨0, by omega, rfl, Below.refl _ _, HVR2.out⟩
      case round =>
        obtain ⟨k, hk, rfl, hbr, hvr⟩ := hrel
        have HBR2 : Hid (Below w5.heap.size wo wr) := hbr
        have HVR3 : Hid (wr.heap[w5.heap.size]? = some (.cells (u32s (mixL (addV v h).list v.list k)).toArray 28 (0, 0))) := hvr
        have hhr := block_below HHR.out hbr (by omega)
        have q6 : w5.heap.size < wr.heap.size := (Array.getElem?_eq_some_iff.1 hvr).1
        by_cases hlt : k < 8
        · have hki : (k : Int) < 8 := by omega
          have c0 := cell_u32 (i := k) hvr (by rw [mix_len rfl rfl hk]; exact hlt)
          have c1 := cell_u32 (i := k) hhr (by show k < 8; exact hlt)
          rw [mix_get rfl hlt] at c0
          have HA : Hid _ := addV_at v h hlt
          generalize v.list.getD k 0 = x0 at c0 HA
          generalize h.list.getD k 0 = x1 at c1 HA
          have f0 := frozen_of_row wr w5.heap.size k _ _ hvr
          clear hbr hvr hhr
          go_wp2
          go_still_tail 8, (by kernel_rfl)
          go_wp2
          go_roundw
          case rel =>
            refine ⟨k + 1, by omega, by go_num, (HBR2.out.setCell (Nat.le_refl _) _).drew, ?_⟩
            have hs := set_u32 HVR3.out k ((x0 + x1) % 4294967296)
            rw [← HA.out, mix_set rfl rfl hlt, HA.out] at hs
            exact hs
          case measure => simp [intOf]; omega
        · have hk8 : k = 8 := by omega
          subst hk8
          rw [mix_end rfl rfl] at hvr
          have HVF : Hid (wr.heap[w5.heap.size]? = some (.cells (v8c (addV v h)) 28 (0, 0))) := hvr
          have HBF : Hid (Below w3.heap.size w3 wr) := HB6.out.trans ((HBR.out.trans hbr).mono (by omega))
          have HRF : Hid (wr.heap[w.heap.size + 1 + 1]? = some (.cells (u32s (zeros 8)).toArray 28 (0, 0))) := block_below HR0.out HBF.out (by omega)
          clear hbr hvr hhr
          rw [show ((8 : Nat) : Int) = (8 : Int) from rfl]
          go_wp2_with (first
            | (refine wpList_load_row rfl 28 (.tmp 6) rfl w5.heap.size rfl 28 (v8c (addV v h)) (0, 0) _ HVF.out Tryd.underlying28 rfl size28 ?_)
            | (refine wpList_store_row rfl 28 (.tmp 4) (.tmp 102) rfl (w.heap.size + 1 + 1) rfl (v8c (addV v h)) rfl 28 _ HRF.out rfl size28 (one_u32 (addV v h).list) ?_))
          exact bodyPost_ret (results_cell_row rfl _ _ (w.heap.size + 1 + 1) 28 (v8c (addV v h)) (0, 0) _ rfl (setRow_heap _ _ _ _ _ _ HRF.out) Tryd.underlying28 rfl size28) rfl
            ⟨by rw [HVE.out, HSC.out]; rfl, below_setRow (HL0.out.trans (HBF.out.mono (by omega))) (by omega) _⟩

end Go.Proofs.YtaafgakflmgpoaaDoor
