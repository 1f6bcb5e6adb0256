/- The walk of the law HashSums. -/
import Derived.Test.YtaafgakflmgpoaaDoorW21
namespace Go.Proofs.YtaafgakflmgpoaaDoor
open Go.RowKit

theorem rhex32 {B : Nat} (A : Option Addr) (c : Nat) (l : List Int) (w : World) (hB : B ≤ w.heap.size) (h : Rd w B A (u8s l)) (hl : l.length = 32) (hg : ∀ b ∈ l, goodB b) :
    Calls Tryd.prog 18 #[.slice A 32 c] w fun e w' => e = .returned (.string (strOf (hexS l))) ∧ Below w.heap.size w w' := by
  have := rhex_any A c l w hB h (by omega) hg
  rw [hl] at this
  exact this

/-- 'wpAnyH_take', the destination said. -/
theorem wpAnyH_take_at {P : Program} {ops : Array Oper} {Q : Exit → Act → World → Prop} {md : Region.Mode} {S : World → Prop} {i : Nat} {oi : Oper} {v : Value} {fuel : Nat} {listed : Array Bool} {a : Act} {w : World} (d : Tmp) (hi : ops[i]? = some oi) (hd : oi.dst = some d)
    (hs : Region.noSelect ops = true) (hf : Region.free md ops listed i = true) (hr : (Region.ready md ops listed).contains i = true)
    (hQ : ∀ c a w, Q (.panic c) (a.put (some d) v) w → Q (.panic c) a w) (hy : YieldsIf P ops S oi v a) (hS : S w)
    (h : wpAnyH P md ops Q S fuel (listed.setIfInBounds i true) (a.put (some d) v) w) : wpAnyH P md ops Q S (fuel + 1) listed a w :=
  wpAnyH_take hi hs hf hr (by rw [hd]; exact hQ) hy hS (by rw [hd]; exact h)

def SSum (w4 : World) (g b : Nat) (A : Option Addr) (l : List Int) (W : World) : Prop := W.rangeAt g 0 (u8s (sumS l)) ∧ Rd W b A (u8s l) ∧ Below w4.heap.size w4 W

set_option maxRecDepth 100000 in
set_option maxHeartbeats 4000000 in
theorem sums_any {B : Nat} (A : Option Addr) (c : Nat) (l : List Int) (w : World) (hL : Laid w) (hB : B ≤ w.heap.size) (h : Rd w B A (u8s l)) (hl : l.length ≤ maxLen) (hc : l.length ≤ c) (hcm : c ≤ maxLen) (hg : ∀ b ∈ l, goodB b) :
    Calls Tryd.prog 3 #[.slice A l.length c] w fun e w' => e = .returned (.bool true) ∧ Below w.heap.size w w' := by
  have HLd : Hid (Laid w) := hL
  have HR : Hid (Rd w w.heap.size A (u8s l)) := h.more hB
  have HG : Hid (∀ b ∈ l, goodB b) := hg
  have HC : Hid (l.length ≤ maxLen ∧ l.length ≤ c ∧ c ≤ maxLen) := ⟨hl, hc, hcm⟩
  have hw2 := hL.lt
  have hl2 : l.length ≤ 10000000000000000000 := by simp only [maxLen] at hl; omega
  clear hL h hg hB hl hc hcm
  have z24 := zero24
  by_cases h4 : l.length ≤ 4000
  · have h4i : ¬ 4000 < (l.length : Int) := by omega
    go_enter Tryd.func3, Tryd.ntmps3
    go_wp2_with fail
    refine (rsum_any A c l w (Nat.le_refl _) HR.out HC.out.1 HG.out).mono ?_
    rintro e w1 ⟨rfl, hb1⟩
    have HB1 : Hid (Below w.heap.size w w1) := hb1
    have HFL : Hid ((sumS l).length = 32) := finish_len _
    clear hb1
    go_upto_region 4 with (refine wpList_store_row rfl 24 (.tmp 3) (.tmp 9) rfl w1.heap.size rfl (u8s (sumS l)).toArray rfl 24 _ (heap_alloc_new w1 _) (by rw [List.size_toArray, List.size_toArray, u8s_len, u8s_len, HFL.out, zeros_len]) (size24 HFL.out) (one_u8 _) ?_)
    have hs2 : ((w1.alloc (.cells (u8s (zeros 32)).toArray 24)).setRow w1.heap.size (u8s (sumS l)).toArray).heap[w1.heap.size]? = some (.cells (u8s (sumS l)).toArray 24 (0, 0)) := setRow_heap _ _ _ _ _ _ (heap_alloc_new w1 _)
    have hb2 : Below w.heap.size w ((w1.alloc (.cells (u8s (zeros 32)).toArray 24)).setRow w1.heap.size (u8s (sumS l)).toArray) := below_setRow (HB1.out.alloc HB1.out.size _) HB1.out.size _
    generalize World.setRow _ _ _ = w2 at hs2 hb2 ⊢
    have hz2 : w1.heap.size < w2.heap.size := (Array.getElem?_eq_some_iff.1 hs2).1
    have HS2 : Hid (w2.heap[w1.heap.size]? = some (.cells (u8s (sumS l)).toArray 24 (0, 0))) := hs2
    have HB2 : Hid (Below w.heap.size w w2) := hb2
    have HZ2 : Hid (w1.heap.size < w2.heap.size ∧ w.heap.size ≤ w1.heap.size) := ⟨hz2, HB1.out.size⟩
    clear hs2 hb2 z24 hz2
    have i24 : (Tryd.prog.info? 24).map (·.size) = some (u8s (sumS l)).length := by rw [u8s_len, HFL.out]; kernel_rfl
    have t24 := Tryd.underlying24
    have hcv := fun W (h : Rd W w.heap.size A (u8s l)) => conv_back (w := W) c l h HG.out
    have e1 := fun W => eqlB24 (sumS l) HFL.out W
    have HTx : Hid (bytesOf (strOf l) = l ∧ (strOf l).size ≤ 1000000) := ⟨bytes_str HG.out, by rw [strOf_size]; omega⟩
    have HStr : Hid (strOf (hexS (sumS l)) = strOf (hexS (sumS l))) := rfl
    have HSW : Hid (∀ {W}, Below w2.heap.size w2 W → SSum w2 w1.heap.size w.heap.size A l W) := fun h => by
      have hz := HZ2.out
      have hb := HB2.out.trans (h.mono (by omega))
      refine ⟨fun j v hv => ?_, HR.out.below hb, h⟩
      rw [cells_of_block (block_below HS2.out h (by omega)), Nat.zero_add]
      simpa using hv
    have HW : Hid (∀ {W}, SSum w2 w1.heap.size w.heap.size A l W → Laid W ∧ Below w.heap.size w W ∧ w.heap.size ≤ W.heap.size ∧ Below w2.heap.size w2 W ∧ w2.heap.size ≤ W.heap.size) := fun h => by
      have hb := HB2.out.trans (h.2.2.mono (by have := HZ2.out; omega))
      exact ⟨HLd.out.below hb hw2, hb, hb.size, h.2.2, h.2.2.size⟩
    have HK : Hid (∀ {W W'}, SSum w2 w1.heap.size w.heap.size A l W → Below W.heap.size W W' → SSum w2 w1.heap.size w.heap.size A l W') := fun h hb => HSW.out (h.2.2.trans (hb.mono h.2.2.size))
    have HSt : Hid (SSum w2 w1.heap.size w.heap.size A l w2.drew) := HSW.out (Below.refl _ _).drew
    have HSt0 : Hid (SSum w2 w1.heap.size w.heap.size A l w2) := HSW.out (Below.refl _ _)
    refine wp_region_noPanic ?_
    refine wp_region_held_drew (S := fun W => W.rangeAt w1.heap.size 0 (u8s (sumS l)) ∧ Rd W w.heap.size A (u8s l) ∧ Below w2.heap.size w2 W) (by kernel_rfl) ?_ (fun hHeld => ?_)
    · exact HSt.out
    refine wpAnyH_take (i := 0) (v := .slice A l.length c) rfl (by kernel_rfl) (by kernel_rfl) (by kernel_rfl) (fun _ _ _ h => h) (Or.inl ⟨by rfl, fun w hw => by rfl⟩) (by assumption) ?_
    try simp only [Act.put, List.setIfInBounds_toArray, List.set_cons_zero, List.set_cons_succ]
    refine wpAnyH_take (i := 2) (v := .agg (u8s (sumS l)).toArray) rfl (by kernel_rfl) (by kernel_rfl) (by kernel_rfl) (fun _ _ _ h => h) (yieldsIf_load_mid (by rfl) _ _ rfl _ _ rfl _ _ (fun w hw => hw.1) t24 rfl i24) (by assumption) ?_
    try simp only [Act.put, List.setIfInBounds_toArray, List.set_cons_zero, List.set_cons_succ]
    refine wpAnyH_ready (rs := [1]) (by kernel_rfl) (by simp) ?_
    refine AllReadyH.cons rfl (fun K hK => ?_) AllReadyH.nil
    go_simp
    have hx := ‹World.rangeAt _ w1.heap.size 0 (u8s (sumS l)) ∧ Rd _ w.heap.size A (u8s l) ∧ Below w2.heap.size w2 _›
    refine (sum_any A c l _ (HW.out hx).1 (HW.out hx).2.2.1 hx.2.1 HC.out.1 HC.out.2.1 HC.out.2.2 HG.out).mono ?_
    rintro e w3 ⟨rfl, hb⟩
    have hk13 := HK.out hx hb
    go_wp2_with fail
    refine hK.out _ _ hk13 (fun hHeld => ?_)
    clear hK K hx hb
    try simp only [Act.put, List.setIfInBounds_toArray, List.set_cons_zero, List.set_cons_succ]
    refine wpAnyH_take (i := 3) (v := .bool true) rfl (by kernel_rfl) (by kernel_rfl) (by kernel_rfl) (fun _ _ _ h => h) (Or.inl ⟨by rfl, fun w hw => by go_simp⟩) (by assumption) ?_
    try simp only [Act.put, List.setIfInBounds_toArray, List.set_cons_zero, List.set_cons_succ]
    refine wpAnyH_take (i := 4) (v := .bool true) rfl (by kernel_rfl) (by kernel_rfl) (by kernel_rfl) (fun _ _ _ h => h) (Or.inl ⟨by rfl, fun w hw => by rfl⟩) (by assumption) ?_
    try simp only [Act.put, List.setIfInBounds_toArray, List.set_cons_zero, List.set_cons_succ]
    refine wpAnyH_take (i := 6) (v := .slice A l.length c) rfl (by kernel_rfl) (by kernel_rfl) (by kernel_rfl) (fun _ _ _ h => h) (Or.inl ⟨by rfl, fun w hw => by rfl⟩) (by assumption) ?_
    try simp only [Act.put, List.setIfInBounds_toArray, List.set_cons_zero, List.set_cons_succ]
    refine wpAnyH_take (i := 9) (v := .agg (u8s (sumS l)).toArray) rfl (by kernel_rfl) (by kernel_rfl) (by kernel_rfl) (fun _ _ _ h => h) (yieldsIf_load_mid (by rfl) _ _ rfl _ _ rfl _ _ (fun w hw => hw.1) t24 rfl i24) (by assumption) ?_
    try simp only [Act.put, List.setIfInBounds_toArray, List.set_cons_zero, List.set_cons_succ]
    refine wpAnyH_ready (rs := [5]) (by kernel_rfl) (by simp) ?_
    refine AllReadyH.cons rfl (fun K hK => ?_) AllReadyH.nil
    go_simp
    have hx := ‹World.rangeAt _ w1.heap.size 0 (u8s (sumS l)) ∧ Rd _ w.heap.size A (u8s l) ∧ Below w2.heap.size w2 _›
    refine (start_any _ (HW.out hx).1).mono ?_
    rintro e w3 ⟨rfl, hb⟩
    have hk16 := HK.out hx hb
    go_wp2_with fail
    refine hK.out _ _ hk16 (fun hHeld => ?_)
    clear hK K hx hb
    try simp only [Act.put, List.setIfInBounds_toArray, List.set_cons_zero, List.set_cons_succ]
    refine wpAnyH_ready (rs := [7]) (by kernel_rfl) (by simp) ?_
    refine AllReadyH.cons rfl (fun K hK => ?_) AllReadyH.nil
    go_simp
    have hx := ‹World.rangeAt _ w1.heap.size 0 (u8s (sumS l)) ∧ Rd _ w.heap.size A (u8s l) ∧ Below w2.heap.size w2 _›
    refine (feed_any startS start_wf A c l _ (HW.out hx).1 (HW.out hx).2.2.1 hx.2.1 HC.out.1 HC.out.2.1 HC.out.2.2 HG.out).mono ?_
    rintro e w3 ⟨rfl, hb⟩
    have hk15 := HK.out hx hb
    go_wp2_with fail
    refine hK.out _ _ hk15 (fun hHeld => ?_)
    clear hK K hx hb
    try simp only [Act.put, List.setIfInBounds_toArray, List.set_cons_zero, List.set_cons_succ]
    refine wpAnyH_ready (rs := [8]) (by kernel_rfl) (by simp) ?_
    refine AllReadyH.cons rfl (fun K hK => ?_) AllReadyH.nil
    go_simp
    have hx := ‹World.rangeAt _ w1.heap.size 0 (u8s (sumS l)) ∧ Rd _ w.heap.size A (u8s l) ∧ Below w2.heap.size w2 _›
    refine (finish_any (feedS startS l) (start_wf.feed HG.out) _ (HW.out hx).1).mono ?_
    rw [show finishS (feedS startS l) = sumS l from rfl]
    rintro e w3 ⟨rfl, hb⟩
    have hk14 := HK.out hx hb
    go_wp2_with fail
    refine hK.out _ _ hk14 (fun hHeld => ?_)
    clear hK K hx hb
    try simp only [Act.put, List.setIfInBounds_toArray, List.set_cons_zero, List.set_cons_succ]
    refine wpAnyH_take (i := 10) (v := .bool true) rfl (by kernel_rfl) (by kernel_rfl) (by kernel_rfl) (fun _ _ _ h => h) (Or.inl ⟨by rfl, fun w hw => by go_simp⟩) (by assumption) ?_
    try simp only [Act.put, List.setIfInBounds_toArray, List.set_cons_zero, List.set_cons_succ]
    refine wpAnyH_take (i := 11) (v := .bool true) rfl (by kernel_rfl) (by kernel_rfl) (by kernel_rfl) (fun _ _ _ h => h) (Or.inl ⟨by rfl, fun w hw => by rfl⟩) (by assumption) ?_
    try simp only [Act.put, List.setIfInBounds_toArray, List.set_cons_zero, List.set_cons_succ]
    refine wpAnyH_take (i := 12) (v := .bool true) rfl (by kernel_rfl) (by kernel_rfl) (by kernel_rfl) (fun _ _ _ h => h) (Or.inl ⟨by rfl, fun w hw => by rfl⟩) (by assumption) ?_
    try simp only [Act.put, List.setIfInBounds_toArray, List.set_cons_zero, List.set_cons_succ]
    refine wpAnyH_take (i := 13) (v := .slice A l.length c) rfl (by kernel_rfl) (by kernel_rfl) (by kernel_rfl) (fun _ _ _ h => h) (Or.inl ⟨by rfl, fun w hw => by rfl⟩) (by assumption) ?_
    try simp only [Act.put, List.setIfInBounds_toArray, List.set_cons_zero, List.set_cons_succ]
    refine wpAnyH_take (i := 16) (v := .slice (some ⟨w1.heap.size, 0, none⟩) 32 32) rfl (by kernel_rfl) (by kernel_rfl) (by kernel_rfl) (fun _ _ _ h => h) (Or.inl ⟨by rfl, fun w hw => by go_simp⟩) (by assumption) ?_
    try simp only [Act.put, List.setIfInBounds_toArray, List.set_cons_zero, List.set_cons_succ]
    refine wpAnyH_take (i := 14) (v := .string (strOf l)) rfl (by kernel_rfl) (by kernel_rfl) (by kernel_rfl) (fun _ _ _ h => h) (Or.inl ⟨by rfl, fun w hw => by (have := hcv w hw.2.1; go_simp)⟩) (by assumption) ?_
    try simp only [Act.put, List.setIfInBounds_toArray, List.set_cons_zero, List.set_cons_succ]
    refine wpAnyH_ready (rs := [15]) (by kernel_rfl) (by simp) ?_
    refine AllReadyH.cons rfl (fun K hK => ?_) AllReadyH.nil
    go_simp
    have hx := ‹World.rangeAt _ w1.heap.size 0 (u8s (sumS l)) ∧ Rd _ w.heap.size A (u8s l) ∧ Below w2.heap.size w2 _›
    refine (text_any (strOf l) _ (HW.out hx).1 HTx.out.2).mono ?_
    rw [HTx.out.1]
    rintro e w3 ⟨rfl, hb⟩
    have hk17 := HK.out hx hb
    go_wp2_with fail
    refine hK.out _ _ hk17 (fun hHeld => ?_)
    clear hK K hx hb
    try simp only [Act.put, List.setIfInBounds_toArray, List.set_cons_zero, List.set_cons_succ]
    refine wpAnyH_ready (rs := [17]) (by kernel_rfl) (by simp) ?_
    refine AllReadyH.cons rfl (fun K hK => ?_) AllReadyH.nil
    go_simp
    have hx := ‹World.rangeAt _ w1.heap.size 0 (u8s (sumS l)) ∧ Rd _ w.heap.size A (u8s l) ∧ Below w2.heap.size w2 _›
    refine (rhex32 (B := w2.heap.size) (some ⟨w1.heap.size, 0, none⟩) 32 (sumS l) _ (HW.out hx).2.2.2.2 (.inr ⟨w1.heap.size, 0, rfl, HZ2.out.1, hx.1⟩) HFL.out (sum_good l)).mono ?_
    rintro e w3 ⟨rfl, hb⟩
    have hk18 := HK.out hx hb
    go_wp2_with fail
    refine hK.out _ _ hk18 (fun hHeld => ?_)
    clear hK K hx hb
    try simp only [Act.put, List.setIfInBounds_toArray, List.set_cons_zero, List.set_cons_succ]
    refine wpAnyH_take (i := 18) (v := .bool true) rfl (by kernel_rfl) (by kernel_rfl) (by kernel_rfl) (fun _ _ _ h => h) (Or.inl ⟨by rfl, fun w hw => by go_simp⟩) (by assumption) ?_
    try simp only [Act.put, List.setIfInBounds_toArray, List.set_cons_zero, List.set_cons_succ]
    refine wpAnyH_take (i := 19) (v := .bool true) rfl (by kernel_rfl) (by kernel_rfl) (by kernel_rfl) (fun _ _ _ h => h) (Or.inl ⟨by rfl, fun w hw => by rfl⟩) (by assumption) ?_
    try simp only [Act.put, List.setIfInBounds_toArray, List.set_cons_zero, List.set_cons_succ]
    refine wpAnyH_take (i := 20) (v := .bool true) rfl (by kernel_rfl) (by kernel_rfl) (by kernel_rfl) (fun _ _ _ h => h) (Or.inl ⟨by rfl, fun w hw => by rfl⟩) (by assumption) ?_
    try simp only [Act.put, List.setIfInBounds_toArray, List.set_cons_zero, List.set_cons_succ]
    refine wpAnyH_ready (rs := [21]) (by kernel_rfl) (by simp) ?_
    refine AllReadyH.cons rfl (fun K hK => ?_) AllReadyH.nil
    go_simp
    have hx := ‹World.rangeAt _ w1.heap.size 0 (u8s (sumS l)) ∧ Rd _ w.heap.size A (u8s l) ∧ Below w2.heap.size w2 _›
    refine (lives_any _ (HW.out hx).1).mono ?_
    rintro e w3 ⟨rfl, hb⟩
    have hk11 := HK.out hx hb
    go_wp2_with fail
    refine hK.out _ _ hk11 (fun hHeld => ?_)
    clear hK K hx hb
    try simp only [Act.put, List.setIfInBounds_toArray, List.set_cons_zero, List.set_cons_succ]
    refine wpAnyH_take_at (i := 22) 32 (v := .bool true) rfl rfl (by kernel_rfl) (by kernel_rfl) (by kernel_rfl) (fun _ _ _ h => h) (Or.inl ⟨by rfl, fun w hw => by rfl⟩) (by assumption) ?_
    try simp only [Act.put, List.setIfInBounds_toArray, List.set_cons_zero, List.set_cons_succ]
    refine wpAnyH_take_at (i := 23) 2 (v := .bool true) rfl rfl (by kernel_rfl) (by kernel_rfl) (by kernel_rfl) (fun _ _ _ h => h) (Or.inl ⟨by rfl, fun w hw => by rfl⟩) (by assumption) ?_
    try simp only [Act.put, List.setIfInBounds_toArray, List.set_cons_zero, List.set_cons_succ]
    refine wpAnyH_done (by kernel_rfl) ?_ _
    refine NoPanic.normal ?_
    go_wp2_with fail
    go_ret
    exact ⟨rfl, (HW.out hk11).2.1⟩
  · have h4i : 4000 < (l.length : Int) := by omega
    go_enter Tryd.func3, Tryd.ntmps3
    go_wp2_with fail
    refine (lives_any _ HLd.out).mono ?_
    rintro e w2 ⟨rfl, hb⟩
    go_wp2_with fail
    go_ret
    exact ⟨rfl, hb⟩

end Go.Proofs.YtaafgakflmgpoaaDoor
