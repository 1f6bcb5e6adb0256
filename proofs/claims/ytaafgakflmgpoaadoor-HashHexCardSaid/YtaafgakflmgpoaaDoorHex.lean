/- The walk of the law HashHex. -/
import Derived.Test.YtaafgakflmgpoaaDoorW22
namespace Go.Proofs.YtaafgakflmgpoaaDoor
open Go.RowKit

set_option maxRecDepth 100000 in
set_option maxHeartbeats 4000000 in
theorem hexlaw_any {B : Nat} (A : Option Addr) (c : Nat) (l : List Int) (s : ByteArray) (w : World) (hL : Laid w) (hB : B ≤ w.heap.size) (h : Rd w B A (u8s l)) (hl : l.length ≤ maxLen) (hg : ∀ b ∈ l, goodB b) (hsz : s.size ≤ maxLen) :
    Calls Tryd.prog 8 #[.slice A l.length c, .string s] w fun e w' => e = .returned (.bool true) ∧ Below w.heap.size w w' := by
  have HLd : Hid (Laid w) := hL
  have HR : Hid (Rd w w.heap.size A (u8s l)) := h.more hB
  have HG : Hid (∀ b ∈ l, goodB b) := hg
  have hw2 := hL.lt
  have hl2 : l.length ≤ 10000000000000000000 := by simp only [maxLen] at hl; omega
  have hs2 : s.size ≤ 10000000000000000000 := by simp only [maxLen] at hsz; omega
  clear hL h hg hB hl hsz
  by_cases h4 : l.length ≤ 4000 ∧ s.size ≤ 4000
  · obtain ⟨h4a, h4b⟩ := h4
    have i4a : ¬ 4000 < (l.length : Int) := by omega
    have i4b : ¬ 4000 < (s.size : Int) := by omega
    have HL4 : Hid (l.length ≤ 1000000 ∧ s.size ≤ 1000000) := by show _ ∧ _; omega
    cases hu : unhexS (bytesOf s) with
    | none =>
      have HU : Hid (unhexS (bytesOf s) = none) := hu
      clear hu
      have hcv := conv_nil
      go_enter Tryd.func8, Tryd.ntmps8
      go_wp2_with fail
      refine (unhex_none HU.out HL4.out.2 _).mono ?_
      rintro e w1 ⟨rfl, hb1⟩
      have HB1 : Hid (Below w.heap.size w w1) := hb1
      clear hb1
      go_wp2_with fail
      refine (runhex_none HU.out HL4.out.2 _).mono ?_
      rintro e w2 ⟨rfl, hb2⟩
      have HB2 : Hid (Below w.heap.size w w2) := HB1.out.trans (hb2.mono HB1.out.size)
      clear hb2
      go_wp2_with fail
      refine (hex_any A c l w2 HB2.out.size (HR.out.below HB2.out) HL4.out.1 HG.out).mono ?_
      rintro e w3 ⟨rfl, hb3⟩
      have HB3 : Hid (Below w.heap.size w w3) := HB2.out.trans (hb3.mono HB2.out.size)
      clear hb3
      go_wp2_with fail
      refine (rhex_any A c l w3 HB3.out.size (HR.out.below HB3.out) HL4.out.1 HG.out).mono ?_
      rintro e w4 ⟨rfl, hb4⟩
      have HB4 : Hid (Below w.heap.size w w4) := HB3.out.trans (hb4.mono HB3.out.size)
      clear hb4
      generalize strOf (hexS l) = hx
      go_wp2_with fail
      refine (lives_any _ (HLd.out.below HB4.out hw2)).mono ?_
      rintro e w5 ⟨rfl, hb5⟩
      have HB5 : Hid (Below w.heap.size w w5) := HB4.out.trans (hb5.mono HB4.out.size)
      go_wp2_with fail
      go_ret
      exact ⟨rfl, HB5.out⟩
    | some y =>
      have HU : Hid (unhexS (bytesOf s) = some y) := hu
      have HGy : Hid (∀ b ∈ y, goodB b) := (unhex_good hu).1
      clear hu
      go_enter Tryd.func8, Tryd.ntmps8
      go_wp2_with fail
      refine (unhex_some HU.out HL4.out.2 _).mono ?_
      rintro e w1 ⟨A1, c1, rfl, hc1, hcm1, hr1, hb1⟩
      have HB1 : Hid (Below w.heap.size w w1) := hb1
      have HR1 : Hid (Rd w1 w1.heap.size A1 (u8s y)) := hr1
      clear hb1 hr1 hc1 hcm1
      go_wp2_with fail
      refine (runhex_some HU.out HL4.out.2 _).mono ?_
      rintro e w2 ⟨A2, c2, rfl, hc2, hcm2, hr2, hb2⟩
      have HB2 : Hid (Below w.heap.size w w2) := HB1.out.trans (hb2.mono HB1.out.size)
      have HR1' : Hid (Rd w2 w2.heap.size A1 (u8s y)) := (HR1.out.below hb2).more hb2.size
      have HR2 : Hid (Rd w2 w2.heap.size A2 (u8s y)) := hr2
      clear hb2 hr2 hc2 hcm2
      go_wp2_with fail
      refine (hex_any A c l w2 HB2.out.size (HR.out.below HB2.out) HL4.out.1 HG.out).mono ?_
      rintro e w3 ⟨rfl, hb3⟩
      have HB3 : Hid (Below w.heap.size w w3) := HB2.out.trans (hb3.mono HB2.out.size)
      have HB23 : Hid (Below w2.heap.size w2 w3) := hb3
      clear hb3
      go_wp2_with fail
      refine (rhex_any A c l w3 HB3.out.size (HR.out.below HB3.out) HL4.out.1 HG.out).mono ?_
      rintro e w4 ⟨rfl, hb4⟩
      have HB4 : Hid (Below w.heap.size w w4) := HB3.out.trans (hb4.mono HB3.out.size)
      have HB24 : Hid (Below w2.heap.size w2 w4) := HB23.out.trans (hb4.mono HB23.out.size)
      clear hb4
      have hcv1 := conv_back c1 y (HR1'.out.below HB24.out) HGy.out
      have hcv2 := conv_back c2 y (HR2.out.below HB24.out) HGy.out
      generalize strOf (hexS l) = hx
      generalize strOf y = ys at hcv1 hcv2
      go_wp2_with fail
      refine (lives_any _ (HLd.out.below HB4.out hw2)).mono ?_
      rintro e w5 ⟨rfl, hb5⟩
      have HB5 : Hid (Below w.heap.size w w5) := HB4.out.trans (hb5.mono HB4.out.size)
      go_wp2_with fail
      go_ret
      exact ⟨rfl, HB5.out⟩
  · by_cases i4 : 4000 < (l.length : Int)
    · go_enter Tryd.func8, Tryd.ntmps8
      go_wp2_with fail
      refine (lives_any _ HLd.out).mono ?_
      rintro e w2 ⟨rfl, hb⟩
      go_wp2_with fail
      go_ret
      exact ⟨rfl, hb⟩
    · have i5 : 4000 < (s.size : Int) := by omega
      go_enter Tryd.func8, Tryd.ntmps8
      go_wp2_with fail
      refine (lives_any _ HLd.out).mono ?_
      rintro e w2 ⟨rfl, hb⟩
      go_wp2_with fail
      go_ret
      exact ⟨rfl, hb⟩

end Go.Proofs.YtaafgakflmgpoaaDoor
