/- The walk of the law HashSplits. -/
import Derived.Test.YtaafgakflmgpoaaDoorW21
namespace Go.Proofs.YtaafgakflmgpoaaDoor
open Go.RowKit
attribute [local go_sem ↓] load_rule

set_option maxRecDepth 100000 in
set_option maxHeartbeats 4000000 in
theorem splits_any {B : Nat} (s : St) (hs : Wf s) (A1 A2 : Option Addr) (c1 c2 : Nat) (l1 l2 : List Int) (w : World) (hL : Laid w) (hB : B ≤ w.heap.size) (h1 : Rd w B A1 (u8s l1)) (h2 : Rd w B A2 (u8s l2)) (hl1 : l1.length ≤ maxLen) (hc1 : l1.length ≤ c1) (hcm1 : c1 ≤ maxLen) (hg1 : ∀ b ∈ l1, goodB b)
    (hl2 : l2.length ≤ maxLen) (hc2 : l2.length ≤ c2) (hcm2 : c2 ≤ maxLen) (hg2 : ∀ b ∈ l2, goodB b) :
    Calls Tryd.prog 5 #[.agg (stc s).toArray, .slice A1 l1.length c1, .slice A2 l2.length c2] w fun e w' => e = .returned (.bool true) ∧ Below w.heap.size w w' := by
  have HS : Hid (Wf s) := hs
  have HLd : Hid (Laid w) := hL
  have HR1 : Hid (Rd w w.heap.size A1 (u8s l1)) := h1.more hB
  have HR2 : Hid (Rd w w.heap.size A2 (u8s l2)) := h2.more hB
  have HG1 : Hid (∀ b ∈ l1, goodB b) := hg1
  have HG2 : Hid (∀ b ∈ l2, goodB b) := hg2
  have HC1 : Hid (l1.length ≤ maxLen ∧ l1.length ≤ c1 ∧ c1 ≤ maxLen) := ⟨hl1, hc1, hcm1⟩
  have HC2 : Hid (l2.length ≤ maxLen ∧ l2.length ≤ c2 ∧ c2 ≤ maxLen) := ⟨hl2, hc2, hcm2⟩
  have hw2 := hL.lt
  have m1 : l1.length ≤ 10000000000000000000 := by simp only [maxLen] at hl1; omega
  have m2 : l2.length ≤ 10000000000000000000 := by simp only [maxLen] at hl2; omega
  clear hs hL h1 h2 hg1 hg2 hB hl1 hc1 hcm1 hl2 hc2 hcm2
  go_enter Tryd.func5, Tryd.ntmps5
  go_upto_region 1 with fail
  have hn : (w.alloc (.cells (stc s).toArray 32 (0, 0))).heap[w.heap.size]? = some (.cells (stc s).toArray 32 (0, 0)) := heap_alloc_new _ _
  have hB : Below w.heap.size w (w.alloc (.cells (stc s).toArray 32 (0, 0))) := (Below.refl _ _).alloc (Nat.le_refl _) _
  have hz : (w.alloc (.cells (stc s).toArray 32 (0, 0))).heap.size = w.heap.size + 1 := by simp
  generalize World.alloc w _ = w1 at hn hB hz ⊢
  have HN : Hid (SAt w1 w.heap.size s) := hn
  have HB : Hid (Below w.heap.size w w1) := hB
  have HZ : Hid (w1.heap.size = w.heap.size + 1) := hz
  clear hn hB hz
  by_cases h4 : l1.length ≤ 4000 ∧ l2.length ≤ 4000
  · obtain ⟨h4a, h4b⟩ := h4
    have i4a : ¬ 4000 < (l1.length : Int) := by omega
    have i4b : ¬ 4000 < (l2.length : Int) := by omega
    have hz1 := HZ.out
    go_upto_region 6 with (first
      | (refine wpList_append_bytes (wb := w1) rfl (.tmp 17) (.tmp 18) rfl w1.heap.size 0 _ [] rfl (World.ownsRow_nil _ _ _ _) (Nat.le_refl _) w.heap.size A1 c1 l1 rfl (HR1.out.below HB.out) (by omega) (Below.refl _ _) ?_
         intro v5 w5 hown5 hb5)
      | (refine wpList_append_bytes (wb := w1) rfl (.tmp 20) (.tmp 21) rfl w1.heap.size (0 + l1.length) _ ([] ++ l1) rfl hown5 hb5.size w.heap.size A2 c2 l2 rfl (HR2.out.below (HB.out.trans (hb5.mono (by omega)))) (by omega) hb5 ?_
         intro v6 w6 hown6 hb6))
    rw [show 0 + l1.length + l2.length = (l1 ++ l2).length by simp, List.nil_append] at hown6
    obtain ⟨A3, c3, rfl, hc3⟩ := own_slice hown6
    have HC3 : Hid ((l1 ++ l2).length ≤ maxLen ∧ (l1 ++ l2).length ≤ c3 ∧ c3 ≤ maxLen) := ⟨Nat.le_trans hc3 (own_capLe hown6 rfl), hc3, own_capLe hown6 rfl⟩
    have HR3 : Hid (Rd w6 w6.heap.size A3 (u8s (l1 ++ l2))) := Rd.of_own hown6
    have HB6 : Hid (Below w.heap.size w w6) := HB.out.trans (hb6.mono (by omega))
    have HN6 : Hid (SAt w6 w.heap.size s) := HN.out.below hb6 (by omega)
    have HG3 : Hid (∀ b ∈ l1 ++ l2, goodB b) := fun b hb => (List.mem_append.1 hb).elim (HG1.out b) (HG2.out b)
    have hz6 : w.heap.size < w6.heap.size := by have := hb6.size; omega
    clear hown5 hb5 hown6 hb6 hc3
    generalize hl3 : l1 ++ l2 = l3 at *
    have HWf : Hid (Wf (feedS s l1)) := HS.out.feed HG1.out
    have HF : Hid (feedS (feedS s l1) l2 = feedS s l3) := by show _ = _; rw [feedS_append HS.out _ _ HG1.out, hl3]
    have hld := fun W (h : SAt W w.heap.size s) => loaded_at h
    have hlg := fun W (h : SAt W w.heap.size s) => good_at HS.out.len h
    have q1 := fun W => eqlB32 (feedS s l3) (HS.out.feed HG3.out) W
    have HSt : Hid (SHeld w6 w.heap.size s w6) := ⟨HN6.out, Below.refl _ _⟩
    have HK : Hid (∀ {W W'}, SHeld w6 w.heap.size s W → Below W.heap.size W W' → SHeld w6 w.heap.size s W') := fun h hb => h.keep hb hz6
    have HLW : Hid (∀ {W}, SHeld w6 w.heap.size s W → Laid W) := fun h => HLd.out.below (HB6.out.trans (h.2.mono (by omega))) hw2
    have HW : Hid (∀ {W}, SHeld w6 w.heap.size s W → Below w.heap.size w W ∧ w.heap.size ≤ W.heap.size ∧ Below w6.heap.size w6 W ∧ w6.heap.size ≤ W.heap.size) := fun h => ⟨HB6.out.trans (h.2.mono (by omega)), by have := h.2.size; omega, h.2, h.2.size⟩
    obtain ⟨f1, hf1⟩ : ∃ f1, feedS s l1 = f1 := ⟨_, rfl⟩
    have HF1 : Hid (feedS s l1 = f1) := hf1
    rw [hf1] at HWf HF
    clear hf1
    go_region_held3 (fun w' => SAt w' w.heap.size s ∧ Below w6.heap.size w6 w') (first | exact hk11 | exact hk3 | exact hk2 | exact hk1 | exact SHeld.drew HSt.out | exact HSt.out | assumption)
      (first
        | (go_at_call_of 15 A1
           have hx := ‹SAt _ w.heap.size s ∧ Below w6.heap.size w6 _›
           refine (feed_any s HS.out A1 c1 l1 _ (HLW.out hx) (HW.out hx).2.1 (HR1.out.below (HW.out hx).1) HC1.out.1 HC1.out.2.1 HC1.out.2.2 HG1.out).mono ?_
           rw [HF1.out]
           rintro e w2 ⟨rfl, hb⟩
           have hk1 := HK.out hx hb)
        | (go_at_call_of 15 A2
           have hx := ‹SAt _ w.heap.size s ∧ Below w6.heap.size w6 _›
           refine (feed_any f1 HWf.out A2 c2 l2 _ (HLW.out hx) (HW.out hx).2.1 (HR2.out.below (HW.out hx).1) HC2.out.1 HC2.out.2.1 HC2.out.2.2 HG2.out).mono ?_
           rw [HF.out]
           rintro e w2 ⟨rfl, hb⟩
           have hk2 := HK.out hx hb)
        | (go_at_call_of 15 A3
           have hx := ‹SAt _ w.heap.size s ∧ Below w6.heap.size w6 _›
           refine (feed_any s HS.out A3 c3 l3 _ (HLW.out hx) (HW.out hx).2.2.2 (HR3.out.below (HW.out hx).2.2.1) HC3.out.1 HC3.out.2.1 HC3.out.2.2 HG3.out).mono ?_
           rintro e w2 ⟨rfl, hb⟩
           have hk3 := HK.out hx hb)
        | (go_at_call 11
           have hx := ‹SAt _ w.heap.size s ∧ Below w6.heap.size w6 _›
           refine (lives_any _ (HLW.out hx)).mono ?_
           rintro e w2 ⟨rfl, hb⟩
           have hk11 := HK.out hx hb))
    go_wp2_with fail
    go_ret
    exact ⟨rfl, (HW.out hk11).1⟩
  · have HB2 : Hid (∀ {W : World}, Below w1.heap.size w1 W → Below w.heap.size w W) := fun h => HB.out.trans (h.mono (by have := HZ.out; omega))
    by_cases i4 : 4000 < (l1.length : Int)
    · go_wp2_with fail
      refine (lives_any _ (HLd.out.below HB.out hw2)).mono ?_
      rintro e w2 ⟨rfl, hb⟩
      go_wp2_with fail
      go_ret
      exact ⟨rfl, HB2.out hb⟩
    · have i5 : 4000 < (l2.length : Int) := by omega
      go_wp2_with fail
      refine (lives_any _ (HLd.out.below HB.out hw2)).mono ?_
      rintro e w2 ⟨rfl, hb⟩
      go_wp2_with fail
      go_ret
      exact ⟨rfl, HB2.out hb⟩

end Go.Proofs.YtaafgakflmgpoaaDoor
