/- The walk of the law HashBack. -/
import Derived.Test.YtaafgakflmgpoaaDoorW22
namespace Go.Proofs.YtaafgakflmgpoaaDoor
open Go.RowKit

set_option maxRecDepth 100000 in
set_option maxHeartbeats 4000000 in
theorem back_any {B : Nat} (A : Option Addr) (c : Nat) (l : List Int) (s : ByteArray) (w : World) (hL : Laid w) (hB : B ≤ w.heap.size) (h : Rd w B A (u8s l)) (hl : l.length ≤ maxLen) (hg : ∀ b ∈ l, goodB b) (hsz : s.size ≤ maxLen) :
    Calls Tryd.prog 9 #[.slice A l.length c, .string s] w fun e w' => e = .returned (.bool true) ∧ Below w.heap.size w w' := by
  have HLd : Hid (Laid w) := hL
  have HR : Hid (Rd w w.heap.size A (u8s l)) := h.more hB
  have HG : Hid (∀ b ∈ l, goodB b) := hg
  have hw2 := hL.lt
  have hl2 : l.length ≤ 10000000000000000000 := by simp only [maxLen] at hl; omega
  have hs2 : s.size ≤ 10000000000000000000 := by simp only [maxLen] at hsz; omega
  clear hL h hg hB hl hsz
  by_cases h4 : l.length ≤ 4000 ∧ s.size ≤ 4000
  · obtain ⟨h4a, h4b⟩ := h4
    have i4a : ¬ 4000 < (l.length : Int) := by omega
    have i4b : ¬ 4000 < (s.size : Int) := by omega
    have HL4 : Hid (l.length ≤ 1000000 ∧ s.size ≤ 1000000) := by show _ ∧ _; omega
    have HX : Hid (unhexS (bytesOf (strOf (hexS l))) = some l ∧ (strOf (hexS l)).size ≤ 1000000) := by
      show _ ∧ _
      rw [bytes_str (hex_good HG.out), unhex_hex HG.out, strOf_size, hex_len]
      exact ⟨rfl, by omega⟩
    have hxz : ((strOf (hexS l)).size : Int) = 2 * (l.length : Int) := by rw [strOf_size, hex_len]; omega
    have hwr : IntKind.i64.wrap (2 * (l.length : Int)) = 2 * (l.length : Int) := IntWalk.i64_in _ (by omega)
    go_enter Tryd.func9, Tryd.ntmps9
    go_wp2_with fail
    have hhex := fun W (hb : Below w.heap.size w W) => hex_any A c l W hb.size (HR.out.below hb) HL4.out.1 HG.out
    have HHex : Hid _ := hhex
    clear hhex
    generalize strOf (hexS l) = hx at HX hxz HHex
    refine (HHex.out w (Below.refl _ _)).mono ?_
    rintro e w1 ⟨rfl, hb1⟩
    have HB1 : Hid (Below w.heap.size w w1) := hb1
    clear hb1
    go_wp2_with fail
    refine (unhex_some HX.out.1 HX.out.2 _).mono ?_
    rintro e w2 ⟨A1, c1, rfl, hc1, hcm1, hr1, hb2⟩
    have HB2 : Hid (Below w.heap.size w w2) := HB1.out.trans (hb2.mono HB1.out.size)
    have hcv1 := conv_back c1 l hr1 HG.out
    have hcv2 := conv_back c l (HR.out.below HB2.out) HG.out
    clear hb2 hr1 hc1 hcm1
    generalize strOf l = ls at hcv1 hcv2
    go_wp2_with fail
    refine (HHex.out w2 HB2.out).mono ?_
    rintro e w3 ⟨rfl, hb3⟩
    have HB3 : Hid (Below w.heap.size w w3) := HB2.out.trans (hb3.mono HB2.out.size)
    clear hb3 hcv1 hcv2
    go_wp2_with fail
    cases hu : unhexS (bytesOf s) with
    | none =>
      refine (unhex_none hu HL4.out.2 _).mono ?_
      rintro e w4 ⟨rfl, hb4⟩
      have HB4 : Hid (Below w.heap.size w w4) := HB3.out.trans (hb4.mono HB3.out.size)
      clear hb4 hu
      go_wp2_with fail
      refine (lives_any _ (HLd.out.below HB4.out hw2)).mono ?_
      rintro e w5 ⟨rfl, hb5⟩
      have HB5 : Hid (Below w.heap.size w w5) := HB4.out.trans (hb5.mono HB4.out.size)
      go_wp2_with fail
      go_ret
      exact ⟨rfl, HB5.out⟩
    | some y =>
      have HGy : Hid ((∀ b ∈ y, goodB b) ∧ (bytesOf s).length = 2 * y.length) := unhex_good hu
      have HHy : Hid (hexS y = lowS (bytesOf s)) := hex_unhex (bytesOf_good s) hu
      refine (unhex_some hu HL4.out.2 _).mono ?_
      rintro e w4 ⟨A2, c2, rfl, hc2, hcm2, hr2, hb4⟩
      have HB4 : Hid (Below w.heap.size w w4) := HB3.out.trans (hb4.mono HB3.out.size)
      have HR2 : Hid (Rd w4 w4.heap.size A2 (u8s y)) := hr2
      clear hb4 hu hr2 hc2 hcm2
      go_wp2_with fail
      refine (hex_any A2 c2 y w4 (Nat.le_refl _) HR2.out (by have h1 := HGy.out.2; rw [bytesOf_len] at h1; omega) HGy.out.1).mono ?_
      rw [HHy.out]
      rintro e w5 ⟨rfl, hb5⟩
      have HB5 : Hid (Below w.heap.size w w5) := HB4.out.trans (hb5.mono HB4.out.size)
      clear hb5
      go_wp2_with fail
      refine (lower_any s w5 HL4.out.2).mono ?_
      rintro e w6 ⟨rfl, hb6⟩
      have HB6 : Hid (Below w.heap.size w w6) := HB5.out.trans (hb6.mono HB5.out.size)
      clear hb6
      generalize strOf (lowS (bytesOf s)) = hy
      go_wp2_with fail
      refine (lives_any _ (HLd.out.below HB6.out hw2)).mono ?_
      rintro e w7 ⟨rfl, hb7⟩
      have HB7 : Hid (Below w.heap.size w w7) := HB6.out.trans (hb7.mono HB6.out.size)
      go_wp2_with fail
      go_ret
      exact ⟨rfl, HB7.out⟩
  · by_cases i4 : 4000 < (l.length : Int)
    · go_enter Tryd.func9, Tryd.ntmps9
      go_wp2_with fail
      refine (lives_any _ HLd.out).mono ?_
      rintro e w2 ⟨rfl, hb⟩
      go_wp2_with fail
      go_ret
      exact ⟨rfl, hb⟩
    · have i5 : 4000 < (s.size : Int) := by omega
      go_enter Tryd.func9, Tryd.ntmps9
      go_wp2_with fail
      refine (lives_any _ HLd.out).mono ?_
      rintro e w2 ⟨rfl, hb⟩
      go_wp2_with fail
      go_ret
      exact ⟨rfl, hb⟩

end Go.Proofs.YtaafgakflmgpoaaDoor
