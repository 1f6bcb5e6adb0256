/- The walks of the reference: Valid. -/
import Derived.Test.YtfocenfgeolpfaaW6
import Derived.Test.YtfocenfgeolpfaaPlain2
namespace Go.Proofs.Ytfocenfgeolpfaa
open Go.RowKit

set_option maxRecDepth 100000 in
set_option maxHeartbeats 1000000 in
theorem rvalid_any {B : Nat} (A : Option Addr) (c : Nat) (l : List Tm) (w : World) (hB : B ≤ w.heap.size) (h : TRd w B A l) (hl : l.length ≤ maxLen) :
    Calls Try.prog 21 #[.slice A l.length c] w fun e w' => e = .returned (.bool (validT l)) ∧ Below w.heap.size w w' := by
  unfold maxLen at hl
  have HH : Hid (TRd w B A l) := h
  clear h
  by_cases h1 : 1000 < l.length
  · have hd : decide ((1000 : Int) < (l.length : Int)) = true := by simp; omega
    have HV : Hid (validT l = false) := by
      show validT l = false
      unfold validT
      rw [decide_eq_false (by omega), Bool.and_false]
    clear h1
    go_enter Try.func21, Try.ntmps21
    go_wp2_with fail
    go_ret
    exact ⟨ret_bool HV.out.symm, Below.refl _ _⟩
  · have hd : decide ((1000 : Int) < (l.length : Int)) = false := by simp; omega
    have HL : Hid (l.length ≤ 1000) := by show l.length ≤ 1000; omega
    clear h1
    go_enter Try.func21, Try.ntmps21
    go_wp2_with fail
    go_loopw [3] (fun i wr => ∃ (k : Nat), k ≤ l.length ∧ i = .int .i64 k ∧ validFrom 0 l = validFrom (lastT l k) (l.drop k) ∧ 0 ≤ lastT l k ∧ Below w.heap.size w wr) (fun i _ => l.length - (intOf i).toNat)
    case atStart => exact ⟨0, Nat.zero_le _, rfl, rfl, Int.le_refl _, Below.refl _ _⟩
    case round =>
      obtain ⟨k, hk, rfl, hv, hx, hb⟩ := hrel
      have HV : Hid (validFrom 0 l = validFrom (lastT l k) (l.drop k)) := hv
      have HX : Hid (0 ≤ lastT l k) := hx
      clear hv hx
      by_cases hlt : k < l.length
      · obtain ⟨b, off, t, rfl, hbb, ht, g1, -, -⟩ := (HH.out.below (hb.mono hB)).at_ hlt
        have HT : Hid (l[k]? = some t) := ht
        clear ht
        have q1 : (k : Int) < (l.length : Int) := by omega
        by_cases b1 : t.1 < 0
        · have d1 : decide (t.1 < 0) = true := by simpa using b1
          have HB : Hid (t.1 < 0) := b1
          clear b1
          go_wp2_with fail
          go_quiet (fail)
          go_wp2_with fail
          go_ret
          exact ⟨ret_bool (valid_no HV.out HT.out (by have := HX.out; have := HB.out; omega)).symm, below_drewN hb _⟩
        · have d1 : decide (t.1 < 0) = false := by simpa using b1
          have HB : Hid (0 ≤ t.1) := by show 0 ≤ t.1; omega
          clear b1
          by_cases b2 : 1099511627776 < t.1
          · have d2 : decide (1099511627776 < t.1) = true := by simpa using b2
            have HB2 : Hid (1099511627776 < t.1) := b2
            clear b2
            go_wp2_with fail
            go_quiet (fail)
            go_wp2_with fail
            go_ret
            exact ⟨ret_bool (valid_no HV.out HT.out (.inr HB2.out)).symm, below_drewN hb _⟩
          · have d2 : decide (1099511627776 < t.1) = false := by simpa using b2
            have HB2 : Hid (t.1 ≤ 1099511627776) := by show t.1 ≤ 1099511627776; omega
            clear b2
            cases k with
            | zero =>
              rw [show ((0 : Nat) : Int) = 0 from rfl] at q1 ⊢
              simp only [Nat.zero_mul, Nat.add_zero] at g1
              have d3 : decide ((0 : Int) < 0) = false := by simp
              go_wp2_with fail
              go_quiet (fail)
              go_wp2_with fail
              go_roundw
              case rel => exact ⟨1, by omega, by go_num, by rw [lastT_succ HT.out]; exact valid_on HV.out HT.out HB.out HB2.out, by rw [lastT_succ HT.out]; exact HB.out, below_drewN hb _⟩
              case measure => simp [intOf]; omega
            | succ j =>
              obtain ⟨b', off', t', heq, -, ht', g1', -, -⟩ := (HH.out.below (hb.mono hB)).at_ (k := j) (by omega)
              simp only [Option.some.injEq, Addr.mk.injEq, and_true] at heq
              obtain ⟨rfl, rfl⟩ := heq
              have HL2 : Hid (lastT l (j + 1) = t'.1) := lastT_succ ht'
              clear ht'
              have d3 : decide ((0 : Int) < (j : Int) + 1) = true := decide_eq_true (by omega)
              have q2 : IntKind.i64.wrap ((j : Int) + 1 - 1) = (j : Int) := by rw [IntWalk.i64_in _ (by omega)]; omega
              have q4 : (j : Int) < (l.length : Int) := by omega
              have q5 : (j : Int) + 1 < (l.length : Int) := by omega
              have q6 : (0 : Int) ≤ (j : Int) + 1 := by omega
              have q3 : ((j : Int) + 1).toNat = j + 1 := by omega
              by_cases b3 : t.1 < t'.1
              · have d4 : decide (t.1 < t'.1) = true := by simpa using b3
                have HB3 : Hid (t.1 < t'.1) := b3
                clear b3
                go_wp2_with fail
                go_quiet (fail)
                go_wp2_with fail
                go_ret
                exact ⟨ret_bool (valid_no HV.out HT.out (.inl (by rw [HL2.out]; exact HB3.out))).symm, below_drewN hb _⟩
              · have d4 : decide (t.1 < t'.1) = false := by simpa using b3
                have HB3 : Hid (t'.1 ≤ t.1) := by show t'.1 ≤ t.1; omega
                clear b3
                go_wp2_with fail
                go_quiet (fail)
                go_wp2_with fail
                go_roundw
                case rel => exact ⟨j + 2, by omega, by go_num, by rw [lastT_succ HT.out]; exact valid_on HV.out HT.out (by rw [HL2.out]; exact HB3.out) HB2.out, by rw [lastT_succ HT.out]; exact HB.out, below_drewN hb _⟩
                case measure => simp [intOf]; omega
      · have HG : Hid (l.length ≤ k) := by show l.length ≤ k; omega
        go_wp2_with fail
        go_ret
        have e := valid_end HV.out HG.out
        rw [decide_eq_true (by have := HL.out; omega)] at e
        exact ⟨ret_bool e.symm, hb⟩

end Go.Proofs.Ytfocenfgeolpfaa
