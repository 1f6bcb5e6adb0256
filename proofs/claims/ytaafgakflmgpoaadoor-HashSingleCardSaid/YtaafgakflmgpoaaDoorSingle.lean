/- The walk of the law HashSingle. -/
import Derived.Test.YtaafgakflmgpoaaDoorW21
namespace Go.Proofs.YtaafgakflmgpoaaDoor
open Go.RowKit
attribute [local go_sem ↓] load_rule store_rule

theorem start_n (l : List Int) (h : l.length ≤ 1000000) (hg : ∀ b ∈ l, goodB b) : (feedS startS l).n = l.length := by
  have h1 := bytes_n start_wf.canon hg
  have e : (canonS startS).n = 0 := rfl
  rw [e] at h1
  show (bytesS (canonS startS) l).n = _
  rw [h1]
  omega

set_option maxRecDepth 100000 in
set_option maxHeartbeats 4000000 in
theorem single_any {B : Nat} (A : Option Addr) (c : Nat) (l : List Int) (w : World) (hL : Laid w) (hB : B ≤ w.heap.size) (h : Rd w B A (u8s l)) (hl : l.length ≤ maxLen) (hc : l.length ≤ c) (hcm : c ≤ maxLen) (hg : ∀ b ∈ l, goodB b) :
    Calls Tryd.prog 6 #[.slice A l.length c] w fun e w' => e = .returned (.bool true) ∧ Below w.heap.size w w' := by
  have HLd : Hid (Laid w) := hL
  have HR : Hid (Rd w w.heap.size A (u8s l)) := h.more hB
  have HG : Hid (∀ b ∈ l, goodB b) := hg
  have HC : Hid (l.length ≤ maxLen ∧ l.length ≤ c ∧ c ≤ maxLen) := ⟨hl, hc, hcm⟩
  have hw2 := hL.lt
  have hl2 : l.length ≤ 10000000000000000000 := by simp only [maxLen] at hl; omega
  clear hL h hg hB hl hcm
  have z32 := zero32
  by_cases h4 : l.length ≤ 300
  · have h4i : ¬ 300 < (l.length : Int) := by omega
    go_enter Tryd.func6, Tryd.ntmps6
    go_wp2_with fail
    refine (start_any _ HLd.out).mono ?_
    rintro e w1 ⟨rfl, hb1⟩
    have HB1 : Hid (Below w.heap.size w w1) := hb1
    have hz1 := hb1.size
    clear hb1
    go_upto_region 4 with (refine wpList_store_row rfl 32 (.tmp 3) (.tmp 9) rfl w1.heap.size rfl (stc startS).toArray rfl 32 _ (heap_alloc_new w1 _) rfl (size32 (zeros_len 64)) (one_stc _) ?_)
    have hs1 : SAt ((w1.alloc (.cells (stc zeroSt).toArray 32)).setRow w1.heap.size (stc startS).toArray) w1.heap.size startS := SAt.row (s := zeroSt) (heap_alloc_new w1 _)
    have hb1 : Below w.heap.size w ((w1.alloc (.cells (stc zeroSt).toArray 32)).setRow w1.heap.size (stc startS).toArray) := below_setRow (HB1.out.alloc hz1 _) hz1 _
    generalize World.setRow _ _ _ = w2 at hs1 hb1 ⊢
    have HS1 : Hid (SAt w2 w1.heap.size startS) := hs1
    have HB2 : Hid (Below w.heap.size w w2) := hb1
    clear hs1 hb1 z32
    go_wp2
    go_loopw [4] (fun i wr => ∃ k : Nat, k ≤ l.length ∧ i = .int .i64 k ∧ SAt wr w1.heap.size (feedS startS (l.take k)) ∧ Below w.heap.size w wr) (fun i _ => l.length - (intOf i).toNat)
    case atStart => exact ⟨0, by omega, rfl, HS1.out, HB2.out⟩
    case round =>
      obtain ⟨k, hk, rfl, hsr, hbr⟩ := hrel
      have HSR : Hid (SAt wr w1.heap.size (feedS startS (l.take k))) := hsr
      have HBR : Hid (Below w.heap.size w wr) := hbr
      have hg1 := hsr.lt
      have hgt : ∀ b ∈ l.take k, goodB b := fun b hb => HG.out b (List.mem_of_mem_take hb)
      have HWF : Hid (Wf (feedS startS (l.take k))) := start_wf.feed hgt
      by_cases hlt : k < l.length
      · have hki : (k : Int) < (l.length : Int) := by omega
        obtain ⟨b0, off0, rfl, hbB, cb⟩ := u8s_rd HR.out hlt
        have hx : goodB (l.getD k 0) := by
          have : l.getD k 0 = l[k] := by simp [List.getD_eq_getElem?_getD, hlt]
          rw [this]; exact HG.out _ (List.getElem_mem hlt)
        have HX : Hid (l.take (k + 1) = l.take k ++ [l.getD k 0]) := by
          show _ = _
          rw [List.take_add_one, List.getElem?_eq_getElem hlt]
          simp [List.getD_eq_getElem?_getD, hlt]
        have HF : Hid (feedS (feedS startS (l.take k)) [l.getD k 0] = feedS startS (l.take (k + 1))) := by
          show _ = _
          rw [feedS_append start_wf _ _ hgt, HX.out]
        have HN : Hid ((feedS startS (l.take (k + 1))).n = ((k + 1 : Nat) : Int)) := by
          show _ = _
          rw [start_n _ (by rw [List.length_take]; omega) fun b hb => HG.out b (List.mem_of_mem_take hb), List.length_take]
          congr 1
          omega
        have HWF2 : Hid (Wf (feedS startS (l.take (k + 1)))) := start_wf.feed fun b hb => HG.out b (List.mem_of_mem_take hb)
        generalize hxd : l.getD k 0 = x at cb hx HX HF
        have HRx : Hid (Rd w w.heap.size (some ⟨b0, off0 + k, none⟩) (u8s [x])) := .inr ⟨b0, off0 + k, rfl, hbB, fun j u hu => by
          cases j with
          | zero => cases hu; exact cb
          | succ j => simp [u8s] at hu⟩
        have HGx : Hid (∀ b ∈ [x], goodB b) := fun b hb => by rw [List.mem_singleton.1 hb]; exact hx
        generalize feedS startS (l.take k) = f0 at *
        obtain ⟨f1, hf1⟩ : ∃ f1, f1 = feedS startS (l.take (k + 1)) := ⟨_, rfl⟩
        rw [← hf1] at HF HN HWF2
        have HE1 : Hid (f1 = feedS startS (l.take (k + 1))) := hf1
        clear hf1
        have h0 : SAt wr.drew w1.heap.size f0 := hsr
        have hld := fun W (h : SAt W w1.heap.size f0) => loaded_at h
        have hlg := fun W (h : SAt W w1.heap.size f0) => good_at HWF.out.len h
        have hst := is_st HWF2.out.len
        have hck : ¬ c = k := by omega
        have k0 : 0 ≤ (k : Int) := by omega
        have k1 : (k : Int) ≤ (k : Int) + 1 := by omega
        have k2 : (k : Int) + 1 ≤ (c : Int) := by omega
        have k3 : IntKind.i64.wrap ((k : Int) + 1) = (k : Int) + 1 := IntWalk.i64_in _ (by omega)
        have k4 : ((k : Int) + 1).toNat = k + 1 := by omega
        have k5 : (k : Int) ≤ (c : Int) := by omega
        clear hsr hbr hc cb
        go_upto_region 7 with fail
        have HQ : Hid (w.heap.size ≤ w1.heap.size ∧ c ≤ maxLen ∧ k < c) := ⟨hz1, HC.out.2.2, by have := HC.out.2.1; omega⟩
        have HD : Hid (Below w.heap.size w wr.drew ∧ SAt wr.drew w1.heap.size f0) := ⟨HBR.out.drew, h0⟩
        go_region_law
          (go_simp
           go_at_call 15
           refine (feed_any f0 HWF.out (some ⟨b0, off0 + k, none⟩) (c - k) [x] wr.drew (HLd.out.below HD.out.1 hw2) HD.out.1.size (HRx.out.below HD.out.1) (by simp [maxLen]) (by have := HQ.out; show 1 ≤ _; omega) (by have := HQ.out; omega) HGx.out).mono ?_
           rw [HF.out]
           rintro e w2 ⟨rfl, hb⟩
           have hk15 : Below w.heap.size w w2 := HD.out.1.trans (hb.mono HD.out.1.size)
           have hs2 : SAt w2 w1.heap.size f0 := SAt.below h0 hb hg1
           have hgd := hlg _ hs2)
        all_goals
          have hs3 : SAt (storedAt w2 (.pointer (some ⟨w1.heap.size, 0, none⟩)) (.agg (stc f1).toArray)) w1.heap.size f1 := stored_at hs2
          have hb3 : Below w.heap.size w (storedAt w2 (.pointer (some ⟨w1.heap.size, 0, none⟩)) (.agg (stc f1).toArray)) := stored_below hk15 HQ.out.1
          generalize storedAt _ _ _ = w3 at hs3 hb3 ⊢
          have HS3 : Hid _ := hs3
          have HB3 : Hid _ := hb3
          have hcn := hs3.n
          rw [HN.out, show ((k + 1 : Nat) : Int) = (k : Int) + 1 by omega] at hcn
          have k6 : IntKind.u64.wrap ((k : Int) + 1) = (k : Int) + 1 := IntWalk.u64_in _ (by omega)
          clear hs3 hb3 hs2 hk15 hgd h0
          go_wp2
          go_roundw
          case rel => exact ⟨k + 1, by omega, by go_num, by rw [← HE1.out]; exact HS3.out, HB3.out⟩
          case measure => simp [intOf]; omega
      · have hkl : k = l.length := by omega
        subst hkl
        rw [List.take_length] at HSR HWF
        have hsz := HBR.out.size
        have q1 := fun W => eqlB24 (sumS l) (finish_len _) W
        have HFS : Hid (finishS (feedS startS l) = sumS l) := rfl
        generalize feedS startS l = f0 at *
        have hki : ¬ (l.length : Int) < (l.length : Int) := by omega
        clear hsr hbr
        go_wp2_with (refine wpList_load_row rfl 32 (.tmp 3) rfl w1.heap.size rfl 32 (stc f0).toArray (0, 0) _ HSR.out Tryd.underlying32 rfl (size32 HWF.out.len) ?_)
        refine (finish_any f0 HWF.out wr (HLd.out.below HBR.out hw2)).mono ?_
        rw [HFS.out]
        rintro e w3 ⟨rfl, hb3⟩
        have HB3 : Hid (Below w.heap.size w w3) := HBR.out.trans (hb3.mono hsz)
        go_wp2_with fail
        refine (sum_any A c l w3 (HLd.out.below HB3.out hw2) HB3.out.size (HR.out.below HB3.out) HC.out.1 HC.out.2.1 HC.out.2.2 HG.out).mono ?_
        rintro e w4 ⟨rfl, hb4⟩
        have HB4 : Hid (Below w.heap.size w w4) := HB3.out.trans (hb4.mono HB3.out.size)
        go_wp2_with fail
        refine (lives_any _ (HLd.out.below HB4.out hw2)).mono ?_
        rintro e w5 ⟨rfl, hb5⟩
        have HB5 : Hid (Below w.heap.size w w5) := HB4.out.trans (hb5.mono HB4.out.size)
        go_wp2_with fail
        go_ret
        exact ⟨rfl, HB5.out⟩
  · have h4i : 300 < (l.length : Int) := by omega
    go_enter Tryd.func6, Tryd.ntmps6
    go_wp2_with fail
    refine (lives_any _ HLd.out).mono ?_
    rintro e w2 ⟨rfl, hb⟩
    go_wp2_with fail
    go_ret
    exact ⟨rfl, hb⟩

end Go.Proofs.YtaafgakflmgpoaaDoor
