/- The walk of Lower, the reference's. -/
import Derived.Test.YtaafgakflmgpoaaDoorW15
namespace Go.Proofs.YtaafgakflmgpoaaDoor
open Go.RowKit

def lowB (c : Int) : Int := if 65 ≤ c ∧ c ≤ 70 then c + 32 else c
def lowS (l : List Int) : List Int := l.map lowB
theorem low_good {l : List Int} (h : ∀ b ∈ l, goodB b) : ∀ b ∈ lowS l, goodB b := by
  intro b hb
  obtain ⟨x, hx, rfl⟩ := List.mem_map.1 hb
  have := h x hx
  unfold goodB lowB at *
  split <;> omega

set_option maxRecDepth 100000 in
set_option maxHeartbeats 4000000 in
theorem lower_any (s : ByteArray) (w : World) (hs : s.size ≤ 1000000) :
    Calls Tryd.prog 26 #[.string s] w fun e w' => e = .returned (.string (strOf (lowS (bytesOf s)))) ∧ Below w.heap.size w w' := by
  go_enter Tryd.func26, Tryd.ntmps26
  go_wp2
  go_loopw [3, 4] (fun v i wr => ∃ k : Nat, k ≤ s.size ∧ i = .int .i64 k ∧ wr.ownsRow w.heap.size 5 1 v k (u8s (lowS ((bytesOf s).take k))) ∧ Below w.heap.size w wr) (fun _ i _ => s.size - (intOf i).toNat)
  case atStart => exact ⟨0, by omega, rfl, World.ownsRow_nil _ _ _ _, Below.refl _ _⟩
  case round =>
    obtain ⟨k, hk, rfl, hown, hbr⟩ := hrel
    have HOwn2 : Hid (wr.ownsRow w.heap.size 5 1 u3 k (u8s (lowS ((bytesOf s).take k)))) := hown
    have HBR : Hid (Below w.heap.size w wr) := hbr
    have q3 : w.heap.size ≤ wr.heap.size := hbr.size
    by_cases hlt : k < s.size
    · have hki : (k : Int) < (s.size : Int) := by omega
      clear hown hbr
      have hb : (bytesOf s)[k]? = some ((s[k]'hlt).toNat : Int) := by
        have hd : k < s.data.size := hlt
        simp only [bytesOf, List.getElem?_map, Array.getElem?_toList, Array.getElem?_eq_getElem hd]
        rfl
      have HX : Hid (lowS ((bytesOf s).take (k + 1)) = lowS ((bytesOf s).take k) ++ [lowB ((s[k]'hlt).toNat : Int)]) := by
        show _ = _
        rw [List.take_add_one, hb]
        simp [lowS]
      have hx1 : (s[k]'hlt).toNat ≤ 255 := by have := (s[k]'hlt).toNat_lt; omega
      generalize hxd : (s[k]'hlt).toNat = x at HX hx1
      by_cases c1 : 65 ≤ (x : Int)
      · by_cases c2 : (x : Int) ≤ 70
        · have HL : Hid (lowB (x : Int) = (x : Int) + 32) := by show _ = _; unfold lowB; rw [if_pos ⟨c1, c2⟩]
          have e : IntKind.u8.wrap ((x : Int) + 32) = (x : Int) + 32 := IntWalk.u8_in _ (by omega)
          clear hb
          go_wp2_with (refine wpList_append_u8 (wb := w) rfl (.tmp 23) (.tmp 25) rfl w.heap.size k _ (lowS ((bytesOf s).take k)) rfl (own_below HOwn2.out ((Below.refl _ _).alloc (Nat.le_refl _) _)) (by simp; omega) (by omega) wr.heap.size _ 5 rfl (heap_alloc_new wr _) (HBR.out.alloc q3 _) ?_; intro v' w5 hown5 hb5)
          go_roundw
          case rel => exact ⟨k + 1, by omega, by go_num, by rw [HX.out, HL.out]; exact hown5, hb5⟩
          case measure => simp [intOf]; omega
        · have HL : Hid (lowB (x : Int) = (x : Int)) := by show _ = _; unfold lowB; rw [if_neg (by omega)]
          clear hb
          go_wp2_with (refine wpList_append_u8 (wb := w) rfl (.tmp 23) (.tmp 25) rfl w.heap.size k _ (lowS ((bytesOf s).take k)) rfl (own_below HOwn2.out ((Below.refl _ _).alloc (Nat.le_refl _) _)) (by simp; omega) (by omega) wr.heap.size _ 5 rfl (heap_alloc_new wr _) (HBR.out.alloc q3 _) ?_; intro v' w5 hown5 hb5)
          go_roundw
          case rel => exact ⟨k + 1, by omega, by go_num, by rw [HX.out, HL.out]; exact hown5, hb5⟩
          case measure => simp [intOf]; omega
      · have HL : Hid (lowB (x : Int) = (x : Int)) := by show _ = _; unfold lowB; rw [if_neg (by omega)]
        clear hb
        go_wp2_with (refine wpList_append_u8 (wb := w) rfl (.tmp 23) (.tmp 25) rfl w.heap.size k _ (lowS ((bytesOf s).take k)) rfl (own_below HOwn2.out ((Below.refl _ _).alloc (Nat.le_refl _) _)) (by simp; omega) (by omega) wr.heap.size _ 5 rfl (heap_alloc_new wr _) (HBR.out.alloc q3 _) ?_; intro v' w5 hown5 hb5)
        go_roundw
        case rel => exact ⟨k + 1, by omega, by go_num, by rw [HX.out, HL.out]; exact hown5, hb5⟩
        case measure => simp [intOf]; omega
    · have hks : k = s.size := by omega
      subst hks
      rw [show (bytesOf s).take s.size = bytesOf s by rw [← bytesOf_len, List.take_length]] at HOwn2
      clear hown hbr
      obtain ⟨A3, c3, rfl, hc3⟩ := own_slice HOwn2.out
      have hcv := conv_back (w := wr) (B := wr.heap.size) (A := A3) c3 (lowS (bytesOf s)) (Rd.of_own HOwn2.out) (low_good (bytesOf_good s))
      rw [show (lowS (bytesOf s)).length = s.size by simp [lowS, bytesOf_len]] at hcv
      clear hc3
      go_wp2
      go_ret
      exact ⟨rfl, HBR.out⟩

end Go.Proofs.YtaafgakflmgpoaaDoor
