/- The walk of Text. -/
import Derived.Test.YtaafgakflmgpoaaDoorW14
namespace Go.Proofs.YtaafgakflmgpoaaDoor
open Go.RowKit

/-- A text's bytes. -/
def bytesOf (s : ByteArray) : List Int := s.data.toList.map fun b => (b.toNat : Int)
theorem bytesOf_len (s : ByteArray) : (bytesOf s).length = s.size := by unfold bytesOf; rw [List.length_map, Array.length_toList]; rfl
theorem bytesOf_good (s : ByteArray) : ∀ b ∈ bytesOf s, goodB b := by
  intro b hb
  obtain ⟨x, _, rfl⟩ := List.mem_map.1 hb
  have := x.toNat_lt
  unfold goodB; omega

theorem sum_good (l : List Int) : ∀ b ∈ sumS l, goodB b := by
  intro b hb
  obtain ⟨x, _, hb⟩ := List.mem_flatMap.1 hb
  unfold goodB
  simp only [outB, List.mem_cons, List.not_mem_nil, or_false] at hb
  rcases hb with rfl | rfl | rfl | rfl <;> omega
theorem bytesRow_cells (s : ByteArray) (c : Nat) : ∀ (j : Nat) (u : Value), (u8s (bytesOf s))[j]? = some u → (bytesRow s c)[j]? = some u := by
  intro j u hu
  have hj : j < s.data.size := by
    have := (List.getElem?_eq_some_iff.1 hu).1
    rw [u8s_len, bytesOf_len] at this
    exact this
  unfold bytesRow
  rw [Array.getElem?_append_left (by simpa using hj)]
  rw [← hu]
  simp [u8s, bytesOf]
  rfl

set_option maxRecDepth 100000 in
set_option maxHeartbeats 4000000 in
theorem text_any (s : ByteArray) (w : World) (hL : Laid w) (hs : s.size ≤ 1000000) :
    Calls Tryd.prog 17 #[.string s] w fun e w' => e = .returned (.string (strOf (hexS (sumS (bytesOf s))))) ∧ Below w.heap.size w w' := by
  have HLd : Hid (Laid w) := hL
  have hw2 := hL.lt
  clear hL
  have hcv := fun W => run_bytes_of_string (P := Tryd.prog) W 9 22 5 s Tryd.underlying9 Tryd.underlying22 Tryd.underlying5
  have z24 := zero24
  go_enter Tryd.func17, Tryd.ntmps17
  go_wp2_with fail
  have hcap := grownCap_ge w s.size 0 5
  have hcm := grownCap_le_maxLen w s.size 0 5 (by simp [maxLen]; omega)
  have hcell := bytesRow_cells s (grownCap w s.size 0 5)
  generalize hw1 : World.drew _ = w1
  have hrd : Rd w1 (w.heap.size + 1) (some ⟨w.heap.size, 0, none⟩) (u8s (bytesOf s)) := by
    refine .inr ⟨w.heap.size, 0, rfl, by omega, fun j u hu => ?_⟩
    rw [← hw1]
    show (World.alloc w _).cell? _ = _
    rw [World.cell?_alloc_mark, Nat.zero_add]
    exact hcell j u hu
  have hb1 : Below w.heap.size w w1 := by rw [← hw1]; exact ((Below.refl _ _).alloc (Nat.le_refl _) _).drew
  have hz1 : w.heap.size + 1 ≤ w1.heap.size := by rw [← hw1]; simp
  clear hw1 hcell hcv
  generalize grownCap w s.size 0 5 = cp at hcap hcm ⊢
  rw [← bytesOf_len] at hcap hs ⊢
  refine (sum_any (some ⟨w.heap.size, 0, none⟩) cp (bytesOf s) w1 (HLd.out.below hb1 hw2) hz1 hrd (by simp [maxLen]; omega) hcap hcm (bytesOf_good s)).mono ?_
  rintro e w2 ⟨rfl, hb2⟩
  have HB2 : Hid (Below w.heap.size w w2) := hb1.trans (hb2.mono (by omega))
  clear hb1 hb2 hrd hz1
  have HG : Hid (∀ b ∈ sumS (bytesOf s), goodB b) := fun b hb => sum_good _ b hb
  have HLn : Hid ((sumS (bytesOf s)).length = 32) := finish_len _
  generalize hm : sumS (bytesOf s) = m at HG HLn ⊢
  have HM : Hid (sumS (bytesOf s) = m) := hm
  clear hm
  go_wp2_with (refine wpList_store_row rfl 24 (.tmp 3) (.tmp 6) rfl w2.heap.size rfl (u8s m).toArray rfl 24 _ (heap_alloc_new w2 _) (by rw [List.size_toArray, List.size_toArray, u8s_len, u8s_len, HLn.out, zeros_len]) (size24 HLn.out) (one_u8 _) ?_)
  rw [setRow_alloc]
  have hrd := Rd.lit w2 (u8s m) 24
  have hB3 : Below w.heap.size w (w2.alloc (.cells (u8s m).toArray 24)) := HB2.out.alloc (by have := HB2.out.size; omega) _
  have hz3 : (w2.alloc (.cells (u8s m).toArray 24)).heap.size = w2.heap.size + 1 := by simp
  generalize w2.alloc (.cells (u8s m).toArray 24) = w3 at hrd hB3 hz3 ⊢
  have hx := hex_any (some ⟨w2.heap.size, 0, none⟩) 32 m w3 (B := w2.heap.size + 1) (by omega) hrd (by rw [HLn.out]; omega) HG.out
  rw [HLn.out] at hx
  refine hx.mono ?_
  rintro e w4 ⟨rfl, hb4⟩
  have HB4 : Hid (Below w.heap.size w w4) := hB3.trans (hb4.mono (by have := hB3.size; omega))
  clear hx hb4 hB3 hrd hz3
  go_wp2
  go_ret
  exact ⟨by rw [HM.out]; rfl, HB4.out⟩

end Go.Proofs.YtaafgakflmgpoaaDoor
