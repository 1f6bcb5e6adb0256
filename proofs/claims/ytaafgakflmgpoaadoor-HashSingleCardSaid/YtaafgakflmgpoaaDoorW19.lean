/- The walk of the law's 'lives'. -/
import Derived.Test.YtaafgakflmgpoaaDoorW18
import Derived.Test.YtaafgakflmgpoaaDoorEval
namespace Go.Proofs.YtaafgakflmgpoaaDoor
open Go.RowKit

theorem unhex_none {s : ByteArray} (h : unhexS (bytesOf s) = none) (hs : s.size ≤ 1000000) (w : World) : Calls Tryd.prog 23 #[.string s] w fun e w' => e = .returned (.tuple #[.slice none 0 0, .int .u8 5]) ∧ Below w.heap.size w w' :=
  (unhex_any s w hs).mono fun e w' hp => by
    unfold UnhexP at hp
    rw [h] at hp
    exact hp
theorem unhex_0g (w : World) : Calls Tryd.prog 23 #[.string { data := #[48, 103] }] w fun e w' => e = .returned (.tuple #[.slice none 0 0, .int .u8 5]) ∧ Below w.heap.size w w' :=
  unhex_none (by decide +kernel) (by decide) w
theorem abc_is : strOf (hexS (sumS (bytesOf { data := #[97, 98, 99] }))) = { data := #[98, 97, 55, 56, 49, 54, 98, 102, 56, 102, 48, 49, 99, 102, 101, 97, 52, 49, 52, 49, 52, 48, 100, 101, 53, 100, 97, 101, 50, 50, 50, 51, 98, 48, 48, 51, 54, 49, 97, 51, 57, 54, 49, 55, 55, 97, 57, 99, 98, 52, 49, 48, 102, 102, 54, 49, 102, 50, 48, 48, 49, 53, 97, 100] } := by
  rw [show bytesOf { data := #[97, 98, 99] } = [97, 98, 99] from rfl, sum_abc]
  rfl
theorem text_abc (w : World) (hL : Laid w) : Calls Tryd.prog 17 #[.string { data := #[97, 98, 99] }] w fun e w' => e = .returned (.string { data := #[98, 97, 55, 56, 49, 54, 98, 102, 56, 102, 48, 49, 99, 102, 101, 97, 52, 49, 52, 49, 52, 48, 100, 101, 53, 100, 97, 101, 50, 50, 50, 51, 98, 48, 48, 51, 54, 49, 97, 51, 57, 54, 49, 55, 55, 97, 57, 99, 98, 52, 49, 48, 102, 102, 54, 49, 102, 50, 48, 48, 49, 53, 97, 100] }) ∧ Below w.heap.size w w' := by
  have h := text_any { data := #[97, 98, 99] } w hL (by decide)
  rw [abc_is] at h
  exact h
instance (l : List Int) : Decidable (∀ b ∈ l, goodB b) := by unfold goodB; infer_instance
theorem hex_is : strOf (hexS [0, 10, 255]) = { data := #[48, 48, 48, 97, 102, 102] } := rfl

set_option maxRecDepth 100000 in
set_option maxHeartbeats 4000000 in
theorem lives_any (w : World) (hL : Laid w) : Calls Tryd.prog 11 #[] w fun e w' => e = .returned (.bool true) ∧ Below w.heap.size w w' := by
  have hw2 := hL.lt
  have HLd : Hid (Laid w) := hL
  clear hL
  go_enter Tryd.func11, Tryd.ntmps11
  go_wp2_with fail
  refine (unhex_0g _).mono ?_
  rintro e w1 ⟨rfl, hb1⟩
  have HB1 : Hid (Below w.heap.size w w1) := hb1
  clear hb1
  go_wp2_with fail
  refine (text_abc _ (HLd.out.below HB1.out hw2)).mono ?_
  rintro e w2 ⟨rfl, hb2⟩
  have HB2 : Hid (Below w.heap.size w w2) := HB1.out.trans (hb2.mono HB1.out.size)
  clear hb2
  go_wp2_with fail
  refine (hex_any (B := w2.heap.size + 1) (some ⟨w2.heap.size, 0, none⟩) 3 [0, 10, 255] _ (by simp) (Rd.lit w2 (u8s [0, 10, 255]) 5) (by decide) (by decide)).mono ?_
  rw [hex_is]
  rintro e w3 ⟨rfl, hb3⟩
  have HB3 : Hid (Below w.heap.size w w3) := (HB2.out.alloc HB2.out.size (.cells (u8s [0, 10, 255]).toArray 5)).trans (hb3.mono (by have := HB2.out.size; simp; omega))
  clear hb3
  go_wp2_with fail
  go_ret
  exact ⟨rfl, HB3.out⟩

end Go.Proofs.YtaafgakflmgpoaaDoor
