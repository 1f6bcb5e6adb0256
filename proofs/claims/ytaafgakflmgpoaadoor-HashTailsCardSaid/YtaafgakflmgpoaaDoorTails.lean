/- The walk of the law HashTails. -/
import Derived.Test.YtaafgakflmgpoaaDoorW21
import Derived.Laws.Closers25b
namespace Go.Proofs.YtaafgakflmgpoaaDoor
open Go.RowKit
attribute [local go_sem ↓] load_rule store_rule

/-- The same state but for bytes that don't count. -/
structure Noisy (s s' : St) : Prop where
  v : s'.v = s.v
  n : s'.n = s.n
  wf : Wf s'
  t : s'.t.take s.at_ = s.t.take s.at_
theorem Noisy.refl {s : St} (h : Wf s) : Noisy s s := ⟨rfl, rfl, h, rfl⟩
theorem Noisy.canon {s s' : St} (h : Noisy s s') : canonS s' = canonS s := by
  have ha : s'.at_ = s.at_ := by unfold St.at_; rw [h.n]
  unfold canonS
  rw [ha, h.t]
  cases s; cases s'
  have h1 := h.v
  have h2 := h.n
  simp only at h1 h2
  subst h1; subst h2
  rfl
theorem Noisy.feed {s s' : St} (h : Noisy s s') (l : List Int) : feedS s' l = feedS s l := by unfold feedS; rw [h.canon]
theorem Noisy.finish {s s' : St} (h : Noisy s s') : finishS s' = finishS s := by unfold finishS; rw [h.n, h.feed]
theorem Noisy.set {s s' : St} (h : Noisy s s') {k : Nat} (hk : s.at_ ≤ k) {x : Int} (hx : goodB x) : Noisy s { s' with t := s'.t.set k x } := by
  refine ⟨h.v, h.n, ⟨by simp [h.wf.len], fun i => ?_, h.wf.lo, h.wf.hi⟩, ?_⟩
  · simp only
    rw [getD_set]
    split
    · exact hx
    · exact h.wf.good i
  · simp only
    rw [List.take_set_of_le hk]
    exact h.t

set_option maxRecDepth 100000 in
set_option maxHeartbeats 4000000 in
theorem tails_any {B : Nat} (s : St) (hs : Wf s) (A : Option Addr) (c : Nat) (l : List Int) (nz : Int) (hnz : goodB nz) (w : World) (hL : Laid w) (hB : B ≤ w.heap.size) (h : Rd w B A (u8s l)) (hl : l.length ≤ maxLen) (hc : l.length ≤ c) (hcm : c ≤ maxLen) (hg : ∀ b ∈ l, goodB b) :
    Calls Tryd.prog 7 #[.agg (stc s).toArray, .slice A l.length c, .int .u8 nz] w fun e w' => e = .returned (.bool true) ∧ Below w.heap.size w w' := by
  have HS : Hid (Wf s) := hs
  have HLd : Hid (Laid w) := hL
  have HR : Hid (Rd w w.heap.size A (u8s l)) := h.more hB
  have HG : Hid (∀ b ∈ l, goodB b) := hg
  have HC : Hid (l.length ≤ maxLen ∧ l.length ≤ c ∧ c ≤ maxLen) := ⟨hl, hc, hcm⟩
  have HZz : Hid (goodB nz) := hnz
  have hw2 := hL.lt
  have hl2 : l.length ≤ 10000000000000000000 := by simp only [maxLen] at hl; omega
  have n0 := hs.lo
  have n1 := hs.hi
  clear hs hL h hg hB hl hc hcm hnz
  have z32 := zero32
  go_enter Tryd.func7, Tryd.ntmps7
  go_upto_region 1 with fail
  have hn : (w.alloc (.cells (stc s).toArray 32 (0, 0))).heap[w.heap.size]? = some (.cells (stc s).toArray 32 (0, 0)) := heap_alloc_new _ _
  have hB : Below w.heap.size w (w.alloc (.cells (stc s).toArray 32 (0, 0))) := (Below.refl _ _).alloc (Nat.le_refl _) _
  have hz : (w.alloc (.cells (stc s).toArray 32 (0, 0))).heap.size = w.heap.size + 1 := by simp
  generalize World.alloc w _ = w1 at hn hB hz ⊢
  have HN : Hid (SAt w1 w.heap.size s) := hn
  have HB : Hid (Below w.heap.size w w1) := hB
  have HZ : Hid (w1.heap.size = w.heap.size + 1) := hz
  clear hn hB hz
  by_cases h4 : l.length ≤ 4000
  · have h4i : ¬ 4000 < (l.length : Int) := by omega
    go_upto_region 4 with (first
      | (refine wpList_load_row rfl 32 (.tmp 3) rfl w.heap.size rfl 32 (stc s).toArray (0, 0) _ HN.out Tryd.underlying32 rfl (size32 HS.out.len) ?_)
      | (refine wpList_store_row rfl 32 (.tmp 7) (.tmp 14) rfl w1.heap.size rfl (stc s).toArray rfl 32 _ (heap_alloc_new w1 _) (by simp [stc_len HS.out.len, stc_len (s := zeroSt) (zeros_len 64)]) (size32 HS.out.len) (one_stc _) ?_))
    have hs1 : SAt ((w1.alloc (.cells (stc zeroSt).toArray 32)).setRow w1.heap.size (stc s).toArray) w1.heap.size s := SAt.row (s := zeroSt) (heap_alloc_new w1 _)
    have hs0 : SAt ((w1.alloc (.cells (stc zeroSt).toArray 32)).setRow w1.heap.size (stc s).toArray) w.heap.size s :=
      SAt.other (by unfold SAt; rw [heap_alloc_old _ _ (by have := HZ.out; omega)]; exact HN.out) (by have := HZ.out; omega) _
    have hb1 : Below w.heap.size w ((w1.alloc (.cells (stc zeroSt).toArray 32)).setRow w1.heap.size (stc s).toArray) := below_setRow (HB.out.alloc HB.out.size _) HB.out.size _
    generalize World.setRow _ _ _ = w2 at hs0 hs1 hb1 ⊢
    have HS1 : Hid (SAt w2 w1.heap.size s) := hs1
    have HS0 : Hid (SAt w2 w.heap.size s) := hs0
    have HB2 : Hid (Below w.heap.size w w2) := hb1
    have cn := hs0.n
    have q0 := hs0.lt
    have HA : Hid (s.n % 64 = (s.at_ : Int)) := by show _ = _; unfold St.at_; omega
    clear hs0 hs1 hb1 z32
    go_wp2
    rw [HA.out]
    go_loopw [8] (fun i wr => ∃ (k : Nat) (s' : St), s.at_ ≤ k ∧ k ≤ 64 ∧ i = .int .i64 k ∧ Below w.heap.size w wr ∧ SAt wr w1.heap.size s' ∧ SAt wr w.heap.size s ∧ Noisy s s') (fun i _ => 64 - (intOf i).toNat)
    case atStart => exact ⟨s.at_, s, Nat.le_refl _, by have := s.at_lt; omega, rfl, HB2.out, HS1.out, HS0.out, Noisy.refl HS.out⟩
    case round =>
      obtain ⟨k, s', hk0, hk, rfl, hbr, hsr, hs0, hno⟩ := hrel
      have HBR : Hid (Below w.heap.size w wr) := hbr
      have HSR : Hid (SAt wr w1.heap.size s') := hsr
      have HS0 : Hid (SAt wr w.heap.size s) := hs0
      have HNo : Hid (Noisy s s') := hno
      have HK0 : Hid (s.at_ ≤ k) := hk0
      by_cases hlt : k < 64
      · have hki : (k : Int) < 64 := by omega
        have ct := hsr.t hno.wf.len hlt
        have ft := hsr.frozen (9 + k)
        have q1 := hsr.lt
        generalize s'.t.getD k 0 = y at ct
        have hx0 := bits_lo_u8 .xor y nz
        have hx1 := bits_hi_u8 .xor y nz
        have HXg : Hid (goodB (bits .xor .u8 y nz)) := ⟨hx0, by omega⟩
        have HQ : Hid (w.heap.size ≤ w1.heap.size ∧ w.heap.size ≠ w1.heap.size) := by have := HZ.out; show _ ∧ _; omega
        clear hbr hsr hs0 hno cn hx0 hx1
        go_wp2
        generalize bits .xor .u8 y nz = x at HXg ⊢
        go_roundw
        case rel => exact ⟨k + 1, { s' with t := s'.t.set k x }, by have := HK0.out; omega, by omega, by go_num, HBR.out.setCell HQ.out.1 _, HSR.out.set k x, set_other HS0.out HQ.out.2 _ _, HNo.out.set HK0.out HXg.out⟩
        case measure => simp [intOf]; omega
      · have hk64 : k = 64 := by omega
        subst hk64
        rw [show ((64 : Nat) : Int) = (64 : Int) from rfl]
        have hsz := HBR.out.size
        have z32 := zero32
        have HQ : Hid (w.heap.size ≤ w1.heap.size ∧ w.heap.size ≠ w1.heap.size) := by have := HZ.out; show _ ∧ _; omega
        clear hbr hsr hs0 hno cn hk0 hlt hk
        go_wp2_with (refine wpList_load_row rfl 32 (.tmp 3) rfl w.heap.size rfl 32 (stc s).toArray (0, 0) _ HS0.out Tryd.underlying32 rfl (size32 HS.out.len) ?_)
        refine (feed_any s HS.out A c l wr (HLd.out.below HBR.out hw2) hsz (HR.out.below HBR.out) HC.out.1 HC.out.2.1 HC.out.2.2 HG.out).mono ?_
        have HWF : Hid (Wf (feedS s l)) := HS.out.feed HG.out
        have HCan : Hid (canonS (feedS s l) = feedS s l) := Can.feed HS.out HG.out
        have HF' : Hid (feedS s' l = feedS s l) := HNo.out.feed l
        have HFin : Hid (finishS s' = finishS s) := HNo.out.finish
        obtain ⟨f, hf⟩ : ∃ f, f = feedS s l := ⟨_, rfl⟩
        rw [← hf] at HWF HCan HF' ⊢
        have HFs : Hid (feedS s l = f) := hf.symm
        clear hf
        rintro e w3 ⟨rfl, hb3⟩
        have hq1 := HSR.out.lt
        have hq0 := HS0.out.lt
        have HS3 : Hid (SAt w3 w1.heap.size s') := HSR.out.below hb3 hq1
        have HT3 : Hid (SAt w3 w.heap.size s) := HS0.out.below hb3 (by omega)
        have HB3 : Hid (Below w.heap.size w w3) := HBR.out.trans (hb3.mono hsz)
        have hz3 := hb3.size
        have HQ3 : Hid (w.heap.size < w3.heap.size ∧ w1.heap.size < w3.heap.size) := by show _ ∧ _; omega
        clear hb3 hq0
        go_upto_region 9 with (refine wpList_store_row rfl 32 (.tmp 9) (.tmp 34) rfl w3.heap.size rfl (stc f).toArray rfl 32 _ (heap_alloc_new w3 _) (by simp [stc_len HWF.out.len, stc_len (s := zeroSt) (zeros_len 64)]) (size32 HWF.out.len) (one_stc _) ?_)
        have hs4 : SAt ((w3.alloc (.cells (stc zeroSt).toArray 32)).setRow w3.heap.size (stc f).toArray) w3.heap.size f := SAt.row (s := zeroSt) (heap_alloc_new w3 _)
        have ht4 : SAt ((w3.alloc (.cells (stc zeroSt).toArray 32)).setRow w3.heap.size (stc f).toArray) w.heap.size s :=
          SAt.other (by unfold SAt; rw [heap_alloc_old _ _ HQ3.out.1]; exact HT3.out) (by have := HQ3.out; omega) _
        have hr4 : SAt ((w3.alloc (.cells (stc zeroSt).toArray 32)).setRow w3.heap.size (stc f).toArray) w1.heap.size s' :=
          SAt.other (by unfold SAt; rw [heap_alloc_old _ _ HQ3.out.2]; exact HS3.out) (by have := HQ3.out; omega) _
        have hb4 : Below w.heap.size w ((w3.alloc (.cells (stc zeroSt).toArray 32)).setRow w3.heap.size (stc f).toArray) := below_setRow (HB3.out.alloc HB3.out.size _) HB3.out.size _
        have hz4 : w3.heap.size < ((w3.alloc (.cells (stc zeroSt).toArray 32)).setRow w3.heap.size (stc f).toArray).heap.size := hs4.lt
        generalize World.setRow _ _ _ = w4 at hs4 ht4 hr4 hb4 hz4 ⊢
        have HSt : Hid (SAt w4 w.heap.size s ∧ SAt w4 w1.heap.size s' ∧ SAt w4 w3.heap.size f ∧ Below w4.heap.size w4 w4) := ⟨ht4, hr4, hs4, Below.refl _ _⟩
        have HB4 : Hid (Below w.heap.size w w4) := hb4
        have HL4 : Hid (w.heap.size < w4.heap.size ∧ w1.heap.size < w4.heap.size ∧ w3.heap.size < w4.heap.size) := by have := HQ3.out; show _ ∧ _ ∧ _; omega
        clear hs4 ht4 hr4 hb4 hz4 z32 hsz hz3 hq1
        have ld0 := fun W (h : SAt W w.heap.size s) => loaded_at h
        have lg0 := fun W (h : SAt W w.heap.size s) => good_at HS.out.len h
        have ld1 := fun W (h : SAt W w1.heap.size s') => loaded_at h
        have lg1 := fun W (h : SAt W w1.heap.size s') => good_at HNo.out.wf.len h
        have ld2 := fun W (h : SAt W w3.heap.size f) => loaded_at h
        have lg2 := fun W (h : SAt W w3.heap.size f) => good_at HWF.out.len h
        have e1 := fun W => eqlB32 f HWF.out W
        have e2 := fun W => eqlB24 (finishS s) (finish_len s) W
        have HK : Hid (∀ {W W'}, (SAt W w.heap.size s ∧ SAt W w1.heap.size s' ∧ SAt W w3.heap.size f ∧ Below w4.heap.size w4 W) → Below W.heap.size W W' → SAt W' w.heap.size s ∧ SAt W' w1.heap.size s' ∧ SAt W' w3.heap.size f ∧ Below w4.heap.size w4 W') :=
          fun h hb => by
            have hz := h.2.2.2.size
            have hl := HL4.out
            exact ⟨h.1.below hb (by omega), h.2.1.below hb (by omega), h.2.2.1.below hb (by omega), h.2.2.2.trans (hb.mono hz)⟩
        have HD : Hid (∀ {W}, (SAt W w.heap.size s ∧ SAt W w1.heap.size s' ∧ SAt W w3.heap.size f ∧ Below w4.heap.size w4 W) → SAt W.drew w.heap.size s ∧ SAt W.drew w1.heap.size s' ∧ SAt W.drew w3.heap.size f ∧ Below w4.heap.size w4 W.drew) := fun h => ⟨h.1, h.2.1, h.2.2.1, h.2.2.2.drew⟩
        have HW : Hid (∀ {W}, (SAt W w.heap.size s ∧ SAt W w1.heap.size s' ∧ SAt W w3.heap.size f ∧ Below w4.heap.size w4 W) → Laid W ∧ Below w.heap.size w W ∧ w.heap.size ≤ W.heap.size) := fun h => by
          have hb := HB4.out.trans (h.2.2.2.mono (by have := HL4.out; omega))
          exact ⟨HLd.out.below hb hw2, hb, hb.size⟩
        go_region_held3 (fun W => SAt W w.heap.size s ∧ SAt W w1.heap.size s' ∧ SAt W w3.heap.size f ∧ Below w4.heap.size w4 W) (first | exact hk11 | exact hk22 | exact hk14b | exact hk14a | exact hk15 | exact HD.out HSt.out | exact HSt.out | assumption)
          (first
            | (go_at_call 15
               have hx := ‹SAt _ w.heap.size s ∧ SAt _ w1.heap.size s' ∧ SAt _ w3.heap.size f ∧ Below w4.heap.size w4 _›
               refine (feed_any s' HNo.out.wf A c l _ (HW.out hx).1 (HW.out hx).2.2 (HR.out.below (HW.out hx).2.1) HC.out.1 HC.out.2.1 HC.out.2.2 HG.out).mono ?_
               rw [HF'.out]
               rintro e w2 ⟨rfl, hb⟩
               have hk15 := HK.out hx hb)
            | (go_at_call_of 14 s'
               have hx := ‹SAt _ w.heap.size s ∧ SAt _ w1.heap.size s' ∧ SAt _ w3.heap.size f ∧ Below w4.heap.size w4 _›
               refine (finish_any s' HNo.out.wf _ (HW.out hx).1).mono ?_
               rw [HFin.out]
               rintro e w2 ⟨rfl, hb⟩
               have hk14a := HK.out hx hb)
            | (go_at_call_of 14 s
               have hx := ‹SAt _ w.heap.size s ∧ SAt _ w1.heap.size s' ∧ SAt _ w3.heap.size f ∧ Below w4.heap.size w4 _›
               refine (finish_any s HS.out _ (HW.out hx).1).mono ?_
               rintro e w2 ⟨rfl, hb⟩
               have hk14b := HK.out hx hb)
            | (go_at_call 22
               have hx := ‹SAt _ w.heap.size s ∧ SAt _ w1.heap.size s' ∧ SAt _ w3.heap.size f ∧ Below w4.heap.size w4 _›
               refine (canon_any f HWF.out _).mono ?_
               rw [HCan.out]
               rintro e w2 ⟨rfl, hb⟩
               have hk22 := HK.out hx hb)
            | (go_at_call 11
               have hx := ‹SAt _ w.heap.size s ∧ SAt _ w1.heap.size s' ∧ SAt _ w3.heap.size f ∧ Below w4.heap.size w4 _›
               refine (lives_any _ (HW.out hx).1).mono ?_
               rintro e w2 ⟨rfl, hb⟩
               have hk11 := HK.out hx hb))
        go_wp2_with fail
        go_ret
        exact ⟨rfl, (HW.out hk11).2.1⟩
  · have h4i : 4000 < (l.length : Int) := by omega
    go_wp2_with fail
    refine (lives_any _ (HLd.out.below HB.out hw2)).mono ?_
    rintro e w2 ⟨rfl, hb⟩
    have HB2 : Hid (Below w.heap.size w w2) := HB.out.trans (hb.mono (by have := HZ.out; omega))
    go_wp2_with fail
    go_ret
    exact ⟨rfl, HB2.out⟩

end Go.Proofs.YtaafgakflmgpoaaDoor
