/- The digits: value and digit. -/
import Derived.Test.YtaafgakflmgpoaaDoorW11
namespace Go.Proofs.YtaafgakflmgpoaaDoor
open Go.RowKit

/-- The value of a digit; 16 for none. -/
def valS (c : Int) : Int := if 48 ≤ c ∧ c ≤ 57 then c - 48 else if 97 ≤ c ∧ c ≤ 102 then c - 97 + 10 else if 65 ≤ c ∧ c ≤ 70 then c - 65 + 10 else 16
theorem valS_lo {c : Int} : 0 ≤ valS c := by unfold valS; split; omega; split; omega; split <;> omega
theorem valS_hi {c : Int} : valS c ≤ 16 := by unfold valS; split; omega; split; omega; split <;> omega
theorem val_d {c : Int} (h : 48 ≤ c) (h' : c ≤ 57) : valS c = c - 48 := by unfold valS; rw [if_pos ⟨h, h'⟩]
theorem val_l {c : Int} (h : 97 ≤ c) (h' : c ≤ 102) : valS c = c - 97 + 10 := by unfold valS; rw [if_neg (by omega), if_pos ⟨h, h'⟩]
theorem val_u {c : Int} (h : 65 ≤ c) (h' : c ≤ 70) : valS c = c - 65 + 10 := by unfold valS; rw [if_neg (by omega), if_neg (by omega), if_pos ⟨h, h'⟩]
theorem val_n {c : Int} (h : ¬ (48 ≤ c ∧ c ≤ 57)) (h' : ¬ (97 ≤ c ∧ c ≤ 102)) (h'' : ¬ (65 ≤ c ∧ c ≤ 70)) : valS c = 16 := by unfold valS; rw [if_neg h, if_neg h', if_neg h'']

set_option maxRecDepth 100000 in
set_option maxHeartbeats 4000000 in
theorem value_any (c : Int) (h0 : 0 ≤ c) (h1 : c ≤ 255) (w : World) : Calls Tryd.prog 29 #[.int .u8 c] w fun e w' => e = .returned (.int .u8 (valS c)) ∧ w = w' := by
  go_enter Tryd.func29, Tryd.ntmps29
  by_cases a1 : 48 ≤ c
  · by_cases a2 : c ≤ 57
    · rw [val_d a1 a2]
      have e : IntKind.u8.wrap (c - 48) = c - 48 := IntWalk.u8_in _ (by omega)
      go_wp2
      go_ret
      exact ⟨rfl, rfl⟩
    · by_cases b1 : 97 ≤ c
      · by_cases b2 : c ≤ 102
        · rw [val_l b1 b2]
          have e : IntKind.u8.wrap (c - 97) = c - 97 := IntWalk.u8_in _ (by omega)
          have e' : IntKind.u8.wrap (c - 97 + 10) = c - 97 + 10 := IntWalk.u8_in _ (by omega)
          go_wp2
          go_ret
          exact ⟨rfl, rfl⟩
        · rw [val_n (by omega) (by omega) (by omega)]
          have d1 : 65 ≤ c := by omega
          have d2 : ¬ c ≤ 70 := by omega
          go_wp2
          go_ret
          exact ⟨rfl, rfl⟩
      · by_cases d1 : 65 ≤ c
        · by_cases d2 : c ≤ 70
          · rw [val_u d1 d2]
            have e : IntKind.u8.wrap (c - 65) = c - 65 := IntWalk.u8_in _ (by omega)
            have e' : IntKind.u8.wrap (c - 65 + 10) = c - 65 + 10 := IntWalk.u8_in _ (by omega)
            go_wp2
            go_ret
            exact ⟨rfl, rfl⟩
          · rw [val_n (by omega) (by omega) (by omega)]
            go_wp2
            go_ret
            exact ⟨rfl, rfl⟩
        · rw [val_n (by omega) (by omega) (by omega)]
          go_wp2
          go_ret
          exact ⟨rfl, rfl⟩
  · rw [val_n (by omega) (by omega) (by omega)]
    have b1 : ¬ 97 ≤ c := by omega
    have d1 : ¬ 65 ≤ c := by omega
    go_wp2
    go_ret
    exact ⟨rfl, rfl⟩

/-- The reference's: -1 for none. -/
def digS (c : Int) : Int := if valS c = 16 then -1 else valS c
def allD : List Int := [48, 49, 50, 51, 52, 53, 54, 55, 56, 57, 97, 98, 99, 100, 101, 102, 65, 66, 67, 68, 69, 70]
/-- Where the digit is found from place k on. -/
theorem dig_none {c : Int} (h : ∀ k, k < 22 → allD.getD k 0 ≠ c) : digS c = -1 := by
  have e : ∀ (k : Nat) (x : Int), k < 22 → allD.getD k 0 = x → c ≠ x := fun k x hk hx hc => h k hk (by rw [hx, hc])
  have := e 0 48 (by omega) rfl; have := e 1 49 (by omega) rfl; have := e 2 50 (by omega) rfl; have := e 3 51 (by omega) rfl
  have := e 4 52 (by omega) rfl; have := e 5 53 (by omega) rfl; have := e 6 54 (by omega) rfl; have := e 7 55 (by omega) rfl
  have := e 8 56 (by omega) rfl; have := e 9 57 (by omega) rfl; have := e 10 97 (by omega) rfl; have := e 11 98 (by omega) rfl
  have := e 12 99 (by omega) rfl; have := e 13 100 (by omega) rfl; have := e 14 101 (by omega) rfl; have := e 15 102 (by omega) rfl
  have := e 16 65 (by omega) rfl; have := e 17 66 (by omega) rfl; have := e 18 67 (by omega) rfl; have := e 19 68 (by omega) rfl
  have := e 20 69 (by omega) rfl; have := e 21 70 (by omega) rfl
  unfold digS
  rw [val_n (by omega) (by omega) (by omega)]
  rfl
theorem dig_at {k : Nat} (hk : k < 22) : digS (allD.getD k 0) = if k < 16 then (k : Int) else (k : Int) - 6 := by
  have : k = 0 ∨ k = 1 ∨ k = 2 ∨ k = 3 ∨ k = 4 ∨ k = 5 ∨ k = 6 ∨ k = 7 ∨ k = 8 ∨ k = 9 ∨ k = 10 ∨ k = 11 ∨ k = 12 ∨ k = 13 ∨ k = 14 ∨ k = 15 ∨ k = 16 ∨ k = 17 ∨ k = 18 ∨ k = 19 ∨ k = 20 ∨ k = 21 := by omega
  rcases this with rfl | rfl | rfl | rfl | rfl | rfl | rfl | rfl | rfl | rfl | rfl | rfl | rfl | rfl | rfl | rfl | rfl | rfl | rfl | rfl | rfl | rfl <;> rfl

def digB : ByteArray := { data := #[48, 49, 50, 51, 52, 53, 54, 55, 56, 57, 97, 98, 99, 100, 101, 102, 65, 66, 67, 68, 69, 70] }
theorem dig_byte {k : Nat} (hk : k < 22) : ((({ data := #[48, 49, 50, 51, 52, 53, 54, 55, 56, 57, 97, 98, 99, 100, 101, 102, 65, 66, 67, 68, 69, 70] } : ByteArray)[k]'hk).toNat : Int) = allD.getD k 0 := by
  have : k = 0 ∨ k = 1 ∨ k = 2 ∨ k = 3 ∨ k = 4 ∨ k = 5 ∨ k = 6 ∨ k = 7 ∨ k = 8 ∨ k = 9 ∨ k = 10 ∨ k = 11 ∨ k = 12 ∨ k = 13 ∨ k = 14 ∨ k = 15 ∨ k = 16 ∨ k = 17 ∨ k = 18 ∨ k = 19 ∨ k = 20 ∨ k = 21 := by omega
  rcases this with rfl | rfl | rfl | rfl | rfl | rfl | rfl | rfl | rfl | rfl | rfl | rfl | rfl | rfl | rfl | rfl | rfl | rfl | rfl | rfl | rfl | rfl <;> rfl

set_option maxRecDepth 100000 in
set_option maxHeartbeats 4000000 in
theorem digit_any (c : Int) (h0 : 0 ≤ c) (h1 : c ≤ 255) (w : World) : Calls Tryd.prog 30 #[.int .u8 c] w fun e w' => e = .returned (.int .i64 (digS c)) ∧ w = w' := by
  go_enter Tryd.func30, Tryd.ntmps30
  go_wp2
  go_loopw [4] (fun i wr => ∃ k : Nat, k ≤ 22 ∧ i = .int .i64 k ∧ w = wr ∧ ∀ j, j < k → allD.getD j 0 ≠ c) (fun i _ => 22 - (intOf i).toNat)
  case atStart => exact ⟨0, by omega, rfl, rfl, fun j hj => absurd hj (by omega)⟩
  case round =>
    obtain ⟨k, hk, rfl, rfl, hno⟩ := hrel
    by_cases hlt : k < 22
    · have hki : (k : Int) < 22 := by omega
      have hb0 := dig_byte hlt
      have hda := dig_at hlt
      by_cases hc : allD.getD k 0 = c
      · have hb := hb0.trans hc
        rw [hc] at hda
        clear hb0 hno hc
        by_cases h16 : k < 16
        · have hki6 : (k : Int) < 16 := by omega
          rw [if_pos h16] at hda
          have HDA : Hid _ := hda
          clear hda
          go_wp2
          go_ret
          exact ⟨by rw [HDA.out]; rfl, rfl⟩
        · have hki6 : ¬ (k : Int) < 16 := by omega
          rw [if_neg h16] at hda
          have HDA : Hid _ := hda
          clear hda
          go_wp2
          go_ret
          exact ⟨by rw [HDA.out]; rfl, rfl⟩
      · have HNo : Hid (∀ j, j < k + 1 → allD.getD j 0 ≠ c) := fun j hj => by
          rcases Nat.lt_or_ge j k with h | h
          · exact hno j h
          · have : j = k := by omega
            subst this; exact hc
        rw [← hb0] at hc
        clear hb0 hda hno
        go_wp2
        go_roundw
        case rel => exact ⟨k + 1, by omega, by go_num, trivial, HNo.out⟩
        case measure => simp [intOf]; omega
    · have hk22 : k = 22 := by omega
      subst hk22
      have HDA : Hid (digS c = -1) := dig_none hno
      clear hno hlt hk
      rw [show ((22 : Nat) : Int) = (22 : Int) from rfl]
      go_wp2
      go_ret
      exact ⟨by rw [HDA.out]; rfl, rfl⟩

end Go.Proofs.YtaafgakflmgpoaaDoor
