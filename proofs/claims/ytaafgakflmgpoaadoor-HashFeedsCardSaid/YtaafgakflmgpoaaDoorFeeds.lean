/- The walk of the law HashFeeds. -/
import Derived.Test.YtaafgakflmgpoaaDoorW21
namespace Go.Proofs.YtaafgakflmgpoaaDoor
open Go.RowKit

attribute [local go_sem ↓] load_rule

set_option maxRecDepth 100000 in
set_option maxHeartbeats 4000000 in
theorem feeds_any {B : Nat} (s : St) (hs : Wf s) (A : Option Addr) (c : Nat) (l : List Int) (w : World) (hL : Laid w) (hB : B ≤ w.heap.size) (h : Rd w B A (u8s l)) (hl : l.length ≤ maxLen) (hc : l.length ≤ c) (hcm : c ≤ maxLen) (hg : ∀ b ∈ l, goodB b) :
    Calls Tryd.prog 4 #[.agg (stc s).toArray, .slice A l.length c] w fun e w' => e = .returned (.bool true) ∧ Below w.heap.size w w' := by
  have HS : Hid (Wf s) := hs
  have HLd : Hid (Laid w) := hL
  have HR : Hid (Rd w w.heap.size A (u8s l)) := h.more hB
  have HG : Hid (∀ b ∈ l, goodB b) := hg
  have HC : Hid (l.length ≤ maxLen ∧ l.length ≤ c ∧ c ≤ maxLen) := ⟨hl, hc, hcm⟩
  have hw2 := hL.lt
  have hl2 : l.length ≤ 10000000000000000000 := by simp only [maxLen] at hl; omega
  clear hs hL h hg hB hl hc hcm
  go_enter Tryd.func4, Tryd.ntmps4
  go_upto_region 1 with fail
  have hn : (w.alloc (.cells (stc s).toArray 32 (0, 0))).heap[w.heap.size]? = some (.cells (stc s).toArray 32 (0, 0)) := heap_alloc_new _ _
  have hB : Below w.heap.size w (w.alloc (.cells (stc s).toArray 32 (0, 0))) := (Below.refl _ _).alloc (Nat.le_refl _) _
  have hz : (w.alloc (.cells (stc s).toArray 32 (0, 0))).heap.size = w.heap.size + 1 := by simp
  generalize World.alloc w _ = w1 at hn hB hz ⊢
  have HN : Hid (SAt w1 w.heap.size s) := hn
  have HB : Hid (Below w.heap.size w w1) := hB
  have HZ : Hid (w1.heap.size = w.heap.size + 1) := hz
  clear hn hB hz
  by_cases h4 : l.length ≤ 4000
  · have h4i : ¬ 4000 < (l.length : Int) := by omega
    go_upto_region 3 with fail
    have hld := fun W (h : SAt W w.heap.size s) => loaded_at h
    have hlg := fun W (h : SAt W w.heap.size s) => good_at HS.out.len h
    have q1 := fun W => eqlB32 startS start_wf W
    have q2 := fun W => eqlB32 (feedS s l) (HS.out.feed HG.out) W
    have q3 := fun W => eqlB24 (finishS s) (finish_len s) W
    have HSt : Hid (SHeld w1 w.heap.size s w1) := ⟨HN.out, Below.refl _ _⟩
    have hg1 : w.heap.size < w1.heap.size := by have := HZ.out; omega
    have HK : Hid (∀ {W W'}, SHeld w1 w.heap.size s W → Below W.heap.size W W' → SHeld w1 w.heap.size s W') := fun h hb => h.keep hb hg1
    have HLW : Hid (∀ {W}, SHeld w1 w.heap.size s W → Laid W) := fun h => HLd.out.below (HB.out.trans (h.2.mono (by omega))) hw2
    have HRW : Hid (∀ {W}, SHeld w1 w.heap.size s W → Rd W w.heap.size A (u8s l) ∧ w.heap.size ≤ W.heap.size) := fun h => ⟨HR.out.below (HB.out.trans (h.2.mono (by omega))), by have := h.2.size; omega⟩
    go_region_held3 (fun w' => SAt w' w.heap.size s ∧ Below w1.heap.size w1 w') (first | exact hk11 | exact hk21 | exact hk14 | exact hk20 | exact hk15 | exact hk19 | exact hk16 | exact SHeld.drew HSt.out | exact HSt.out | assumption)
      (first
        | (go_at_call 16
           have hx := ‹SAt _ w.heap.size s ∧ Below w1.heap.size w1 _›
           refine (start_any _ (HLW.out hx)).mono ?_
           rintro e w2 ⟨rfl, hb⟩
           have hk16 := HK.out hx hb)
        | (go_at_call 19
           have hx := ‹SAt _ w.heap.size s ∧ Below w1.heap.size w1 _›
           refine (rstart_any _).mono ?_
           rintro e w2 ⟨rfl, hb⟩
           have hk19 := HK.out hx hb)
        | (go_at_call 15
           have hx := ‹SAt _ w.heap.size s ∧ Below w1.heap.size w1 _›
           refine (feed_any s HS.out A c l _ (HLW.out hx) (HRW.out hx).2 (HRW.out hx).1 HC.out.1 HC.out.2.1 HC.out.2.2 HG.out).mono ?_
           rintro e w2 ⟨rfl, hb⟩
           have hk15 := HK.out hx hb)
        | (go_at_call 20
           have hx := ‹SAt _ w.heap.size s ∧ Below w1.heap.size w1 _›
           refine (rfeed_any s HS.out A c l _ (HRW.out hx).2 (HRW.out hx).1 HC.out.1 HG.out).mono ?_
           rintro e w2 ⟨rfl, hb⟩
           have hk20 := HK.out hx hb)
        | (go_at_call 14
           have hx := ‹SAt _ w.heap.size s ∧ Below w1.heap.size w1 _›
           refine (finish_any s HS.out _ (HLW.out hx)).mono ?_
           rintro e w2 ⟨rfl, hb⟩
           have hk14 := HK.out hx hb)
        | (go_at_call 21
           have hx := ‹SAt _ w.heap.size s ∧ Below w1.heap.size w1 _›
           refine (rfinish_any s HS.out _).mono ?_
           rintro e w2 ⟨rfl, hb⟩
           have hk21 := HK.out hx hb)
        | (go_at_call 11
           have hx := ‹SAt _ w.heap.size s ∧ Below w1.heap.size w1 _›
           refine (lives_any _ (HLW.out hx)).mono ?_
           rintro e w2 ⟨rfl, hb⟩
           have hk11 := HK.out hx hb))
    go_wp2_with fail
    go_ret
    exact ⟨rfl, HB.out.trans (hk11.2.mono (by have := HZ.out; omega))⟩
  · have h4i : 4000 < (l.length : Int) := by omega
    go_wp2_with fail
    refine (lives_any _ (HLd.out.below HB.out hw2)).mono ?_
    rintro e w2 ⟨rfl, hb⟩
    have HB2 : Hid (Below w.heap.size w w2) := HB.out.trans (hb.mono (by have := HZ.out; omega))
    go_wp2_with fail
    go_ret
    exact ⟨rfl, HB2.out⟩

end Go.Proofs.YtaafgakflmgpoaaDoor
