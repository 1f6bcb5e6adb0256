/- The walks of the program's small functions: Valid, fires, place. -/
import Derived.Test.YtfocenfgeolpfaaProg
import Derived.Test.YtfocenfgeolpfaaWords
namespace Go.Proofs.Ytfocenfgeolpfaa
open Go.RowKit

set_option maxHeartbeats 400000 in
theorem valid_any {B : Nat} (A : Option Addr) (c : Nat) (l : List Tm) (w : World) (hB : B ≤ w.heap.size) (h0 : TRd w B A l) (hl : l.length ≤ maxLen) :
    Calls Try.prog 11 #[.slice A l.length c] w fun e w' => e = .returned (.bool (validT l)) ∧ Below w.heap.size w w' := by
  unfold maxLen at hl
  have h := h0.more hB
  clear h0 hB
  go_enter Try.func11, Try.ntmps11
  go_wp2
  go_loopw [3, 8] (fun last i wr => ∃ (k : Nat) (x : Int), k ≤ l.length ∧ i = .int .i64 k ∧ last = .int .i64 x ∧ validFrom 0 l = validFrom x (l.drop k) ∧ Below w.heap.size w wr)
    (fun _ i _ => l.length - (intOf i).toNat)
  case atStart => exact ⟨0, 0, Nat.zero_le _, rfl, rfl, rfl, Below.refl _ _⟩
  case round =>
    obtain ⟨k, x, hk, rfl, rfl, hv, hb⟩ := hrel
    have hr := h.below hb
    have HV : Hid (validFrom 0 l = validFrom x (l.drop k)) := hv
    clear hv h
    by_cases hlt : k < l.length
    · obtain ⟨b, off, t, rfl, hbb, ht, h1, h2, h3⟩ := hr.at_ hlt
      have HT : Hid (l[k]? = some t) := ht
      clear ht
      go_wp2
      · go_ret
        exact ⟨ret_bool (valid_no HV.out HT.out ‹_›).symm, hb.alloc hb.size _⟩
      · go_roundw
        case rel => exact ⟨k + 1, _, by omega, by go_num, rfl, valid_on HV.out HT.out (by omega) (by omega), hb.alloc hb.size _⟩
        case measure => simp [intOf]; omega
      · go_ret
        exact ⟨ret_bool (valid_no HV.out HT.out (by omega)).symm, hb.alloc hb.size _⟩
    · go_wp2
      go_ret
      exact ⟨ret_bool (valid_end HV.out (by omega)).symm, hb⟩

set_option maxHeartbeats 400000 in
theorem fires_any (t : Tm) (w : World) :
    Calls Try.prog 37 #[.agg #[.int .i64 t.1, .int .i64 t.2.1, .int .i64 t.2.2]] w fun e w' => e = .returned (.bool (firesT t)) ∧ Below w.heap.size w w' := by
  go_enter Try.func37, Try.ntmps37
  go_wp2
  all_goals
    go_ret
    exact ⟨ret_bool (by first | (simp [firesT, *]; done) | (simp [firesT, *]; omega)), (Below.refl _ _).alloc (Nat.le_refl _) _⟩

set_option maxHeartbeats 400000 in
theorem place_any {B : Nat} (A : Option Addr) (c : Nat) (l : List Tm) (a : Int) (w : World) (h : TRd w B A l) (hl : l.length ≤ maxLen) :
    Calls Try.prog 38 #[.slice A l.length c, .int .i64 a] w fun e w' => e = .returned (.int .i64 (placeT a l)) ∧ w = w' := by
  unfold maxLen at hl
  go_enter Try.func38, Try.ntmps38
  go_wp2
  go_loop [8] (fun i => ∃ (k : Nat), k ≤ l.length ∧ i = .int .i64 k ∧ placeT a l = k + placeT a (l.drop k))
    (fun i => l.length - (intOf i).toNat)
  case atStart => exact ⟨0, Nat.zero_le _, rfl, by simp⟩
  case round =>
    obtain ⟨k, hk, rfl, hv⟩ := hrel
    have HV : Hid (placeT a l = k + placeT a (l.drop k)) := hv
    clear hv
    by_cases hlt : k < l.length
    · obtain ⟨b, off, t, rfl, hbb, ht, h1, h2, h3⟩ := h.at_ hlt
      have HT : Hid (l[k]? = some t) := ht
      clear ht
      go_wp2
      · go_ret
        exact ⟨ret_int (by rw [place_hit HV.out HT.out (by omega)]), rfl⟩
      · go_round
        case rel => exact ⟨k + 1, by omega, by go_num, place_on HV.out HT.out (by omega)⟩
        case measure => simp [intOf]; omega
    · go_wp2
      go_ret
      exact ⟨ret_int (by rw [place_end HV.out (by omega) (by omega)]), rfl⟩

end Go.Proofs.Ytfocenfgeolpfaa
