/- The walk of the law HashKnown. -/
import Derived.Test.YtaafgakflmgpoaaDoorW22
namespace Go.Proofs.YtaafgakflmgpoaaDoor
open Go.RowKit

theorem nil_is : strOf (hexS (sumS (bytesOf { data := #[] }))) = { data := #[101, 51, 98, 48, 99, 52, 52, 50, 57, 56, 102, 99, 49, 99, 49, 52, 57, 97, 102, 98, 102, 52, 99, 56, 57, 57, 54, 102, 98, 57, 50, 52, 50, 55, 97, 101, 52, 49, 101, 52, 54, 52, 57, 98, 57, 51, 52, 99, 97, 52, 57, 53, 57, 57, 49, 98, 55, 56, 53, 50, 98, 56, 53, 53] } := by
  rw [show bytesOf { data := #[] } = [] from rfl, sum_nil]
  rfl
theorem text_nil (w : World) (hL : Laid w) : Calls Tryd.prog 17 #[.string { data := #[] }] w fun e w' => e = .returned (.string { data := #[101, 51, 98, 48, 99, 52, 52, 50, 57, 56, 102, 99, 49, 99, 49, 52, 57, 97, 102, 98, 102, 52, 99, 56, 57, 57, 54, 102, 98, 57, 50, 52, 50, 55, 97, 101, 52, 49, 101, 52, 54, 52, 57, 98, 57, 51, 52, 99, 97, 52, 57, 53, 57, 57, 49, 98, 55, 56, 53, 50, 98, 56, 53, 53] }) ∧ Below w.heap.size w w' := by
  have h := text_any { data := #[] } w hL (by decide)
  rw [nil_is] at h
  exact h
theorem long_is : strOf (hexS (sumS (bytesOf { data := #[97, 98, 99, 100, 98, 99, 100, 101, 99, 100, 101, 102, 100, 101, 102, 103, 101, 102, 103, 104, 102, 103, 104, 105, 103, 104, 105, 106, 104, 105, 106, 107, 105, 106, 107, 108, 106, 107, 108, 109, 107, 108, 109, 110, 108, 109, 110, 111, 109, 110, 111, 112, 110, 111, 112, 113] }))) = { data := #[50, 52, 56, 100, 54, 97, 54, 49, 100, 50, 48, 54, 51, 56, 98, 56, 101, 53, 99, 48, 50, 54, 57, 51, 48, 99, 51, 101, 54, 48, 51, 57, 97, 51, 51, 99, 101, 52, 53, 57, 54, 52, 102, 102, 50, 49, 54, 55, 102, 54, 101, 99, 101, 100, 100, 52, 49, 57, 100, 98, 48, 54, 99, 49] } := by
  rw [show bytesOf { data := #[97, 98, 99, 100, 98, 99, 100, 101, 99, 100, 101, 102, 100, 101, 102, 103, 101, 102, 103, 104, 102, 103, 104, 105, 103, 104, 105, 106, 104, 105, 106, 107, 105, 106, 107, 108, 106, 107, 108, 109, 107, 108, 109, 110, 108, 109, 110, 111, 109, 110, 111, 112, 110, 111, 112, 113] } = [97, 98, 99, 100, 98, 99, 100, 101, 99, 100, 101, 102, 100, 101, 102, 103, 101, 102, 103, 104, 102, 103, 104, 105, 103, 104, 105, 106, 104, 105, 106, 107, 105, 106, 107, 108, 106, 107, 108, 109, 107, 108, 109, 110, 108, 109, 110, 111, 109, 110, 111, 112, 110, 111, 112, 113] from rfl, sum_long]
  rfl
theorem text_long (w : World) (hL : Laid w) : Calls Tryd.prog 17 #[.string { data := #[97, 98, 99, 100, 98, 99, 100, 101, 99, 100, 101, 102, 100, 101, 102, 103, 101, 102, 103, 104, 102, 103, 104, 105, 103, 104, 105, 106, 104, 105, 106, 107, 105, 106, 107, 108, 106, 107, 108, 109, 107, 108, 109, 110, 108, 109, 110, 111, 109, 110, 111, 112, 110, 111, 112, 113] }] w fun e w' => e = .returned (.string { data := #[50, 52, 56, 100, 54, 97, 54, 49, 100, 50, 48, 54, 51, 56, 98, 56, 101, 53, 99, 48, 50, 54, 57, 51, 48, 99, 51, 101, 54, 48, 51, 57, 97, 51, 51, 99, 101, 52, 53, 57, 54, 52, 102, 102, 50, 49, 54, 55, 102, 54, 101, 99, 101, 100, 100, 52, 49, 57, 100, 98, 48, 54, 99, 49] }) ∧ Below w.heap.size w w' := by
  have h := text_any { data := #[97, 98, 99, 100, 98, 99, 100, 101, 99, 100, 101, 102, 100, 101, 102, 103, 101, 102, 103, 104, 102, 103, 104, 105, 103, 104, 105, 106, 104, 105, 106, 107, 105, 106, 107, 108, 106, 107, 108, 109, 107, 108, 109, 110, 108, 109, 110, 111, 109, 110, 111, 112, 110, 111, 112, 113] } w hL (by decide)
  rw [long_is] at h
  exact h
theorem unhex_kn : unhexS (bytesOf { data := #[48, 65, 102, 70] }) = some [10, 255] := by decide +kernel
theorem unhex_k0 : unhexS (bytesOf { data := #[48] }) = none := by decide +kernel

set_option maxRecDepth 100000 in
set_option maxHeartbeats 4000000 in
theorem known_any (w : World) (hL : Laid w) : Calls Tryd.prog 10 #[] w fun e w' => e = .returned (.bool true) ∧ Below w.heap.size w w' := by
  have HLd : Hid (Laid w) := hL
  have hw2 := hL.lt
  clear hL
  go_enter Tryd.func10, Tryd.ntmps10
  go_wp2_with fail
  refine (unhex_some unhex_kn (by decide) _).mono ?_
  rintro e w1 ⟨A1, c1, rfl, hc1, hcm1, hr1, hb1⟩
  have HB1 : Hid (Below w.heap.size w w1) := hb1
  have HR1 : Hid (Rd w1 w1.heap.size A1 (u8s [10, 255])) := hr1
  clear hb1 hr1 hc1 hcm1
  go_wp2_with fail
  refine (unhex_none unhex_k0 (by decide) _).mono ?_
  rintro e w2 ⟨rfl, hb2⟩
  have HB2 : Hid (Below w.heap.size w w2) := HB1.out.trans (hb2.mono HB1.out.size)
  have HB12 : Hid (Below w1.heap.size w1 w2) := hb2
  clear hb2
  go_wp2_with fail
  refine (text_nil _ (HLd.out.below HB2.out hw2)).mono ?_
  rintro e w3 ⟨rfl, hb3⟩
  have HB3 : Hid (Below w.heap.size w w3) := HB2.out.trans (hb3.mono HB2.out.size)
  have HB13 : Hid (Below w1.heap.size w1 w3) := HB12.out.trans (hb3.mono HB12.out.size)
  clear hb3
  go_wp2_with fail
  refine (text_long _ (HLd.out.below HB3.out hw2)).mono ?_
  rintro e w4 ⟨rfl, hb4⟩
  have HB4 : Hid (Below w.heap.size w w4) := HB3.out.trans (hb4.mono HB3.out.size)
  have HB14 : Hid (Below w1.heap.size w1 w4) := HB13.out.trans (hb4.mono HB13.out.size)
  clear hb4
  have hcv1 := conv_back c1 [10, 255] (HR1.out.below HB14.out) (by decide)
  have hcv2 := conv_back (B := w4.heap.size + 1) (A := some ⟨w4.heap.size, 0, none⟩) 2 [10, 255] (Rd.lit w4 (u8s [10, 255]) 5) (by decide)
  simp only [List.length_cons, List.length_nil, Nat.zero_add, Nat.reduceAdd, u8s, List.map_cons, List.map_nil] at hcv1 hcv2
  generalize strOf [10, 255] = ys at hcv1 hcv2
  go_wp2_with fail
  have hb4 : Below w.heap.size w (w4.alloc (.cells #[.int .u8 10, .int .u8 255] 5)) := HB4.out.alloc HB4.out.size _
  refine (lives_any _ (HLd.out.below hb4 hw2)).mono ?_
  rintro e w5 ⟨rfl, hb5⟩
  have HB5 : Hid (Below w.heap.size w w5) := hb4.trans (hb5.mono hb4.size)
  clear hcv1 hcv2 hb4 hb5
  go_wp2_with fail
  go_ret
  exact ⟨rfl, HB5.out⟩

end Go.Proofs.YtaafgakflmgpoaaDoor
