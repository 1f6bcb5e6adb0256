/- The walks: Same, outs, From, Start of both sides. -/
import Derived.Test.YtlcpadonjbaaeaaWords
import Derived.Deep.QuietTactic
import Derived.BigQuiet
import Derived.Handy
namespace Go.Proofs.Ytlcpadonjbaaeaa
open Go.RowKit

section
variable {α : Type} [DecidableEq α]
theorem same_no {l r : List α} {k : Nat} {a b : α} (ha : l[k]? = some a) (hb : r[k]? = some b) (h : ¬ a = b) : decide (l = r) = false := by
  rw [decide_eq_false_iff_not]
  rintro rfl
  rw [ha] at hb
  exact h (Option.some.inj hb)
omit [DecidableEq α] in
theorem same_on {l r : List α} {k : Nat} {a b : α} (h : l.take k = r.take k) (ha : l[k]? = some a) (hb : r[k]? = some b) (hab : a = b) : l.take (k + 1) = r.take (k + 1) := by
  rw [List.take_add_one, List.take_add_one, h, ha, hb, hab]
theorem same_end {l r : List α} {k : Nat} (h : l.take k = r.take k) (hl : l.length ≤ k) (hr : r.length ≤ k) : decide (l = r) = true := by
  rw [List.take_of_length_le hl, List.take_of_length_le hr] at h
  rw [decide_eq_true_eq]; exact h
theorem same_len {l r : List α} (h : ¬ l.length = r.length) : decide (l = r) = false := by
  rw [decide_eq_false_iff_not]
  rintro rfl
  exact h rfl
end

set_option maxHeartbeats 400000 in
theorem same_any {B C : Nat} (A D : Option Addr) (c d : Nat) (l r : List Out) (w : World) (hB : B ≤ w.heap.size) (hC : C ≤ w.heap.size) (h : ORd w B A l) (g : ORd w C D r) (_hl : l.length ≤ maxLen) (hr : r.length ≤ maxLen) :
    Calls Try.prog 23 #[.slice A l.length c, .slice D r.length d] w fun e w' => e = .returned (.bool (decide (l = r))) ∧ Below w.heap.size w w' := by
  unfold maxLen at _hl hr
  by_cases hn : l.length = r.length
  · have hn1 : l.length ≤ r.length := by omega
    have hn2 : r.length ≤ l.length := by omega
    have hn3 : ((l.length : Int) != (r.length : Int)) = false := by simp [hn]
    clear hn
    go_enter Try.func23, Try.ntmps23
    go_wp2
    go_loopw [5] (fun i wr => ∃ (k : Nat), k ≤ l.length ∧ i = .int .i64 k ∧ l.take k = r.take k ∧ Below w.heap.size w wr) (fun i _ => l.length - (intOf i).toNat)
    case atStart => exact ⟨0, Nat.zero_le _, rfl, rfl, Below.refl _ _⟩
    case round =>
      obtain ⟨k, hk, rfl, hv, hb⟩ := hrel
      have HV : Hid (l.take k = r.take k) := hv
      clear hv
      by_cases hlt : k < l.length
      · obtain ⟨b, off, t, rfl, hbb, ht, h1, h2, h3, h4⟩ := (h.below (hb.mono hB)).at_ hlt
        obtain ⟨b', off', t', rfl, hbb', ht', h1', h2', h3', h4'⟩ := (g.below (hb.mono hC)).at_ (k := k) (by omega)
        have HT : Hid (l[k]? = some t) := ht
        have HT' : Hid (r[k]? = some t') := ht'
        clear ht ht'
        have hne := fun W => run_neq_out t t' W
        have hkr : (k : Int) < (r.length : Int) := by omega
        have hkl : (k : Int) < (l.length : Int) := by omega
        go_wp2
        go_quiet (fail)
        go_wp2
        · rename_i hh
          go_ret
          exact ⟨ret_bool (same_no HT.out HT'.out (by simpa using hh)).symm, below_drewN hb _⟩
        · rename_i hh
          go_roundw
          case rel => exact ⟨k + 1, by omega, by go_num, same_on HV.out HT.out HT'.out (by simpa using hh), below_drewN hb _⟩
          case measure => simp [intOf]; omega
      · go_wp2
        go_ret
        exact ⟨ret_bool (same_end HV.out (by omega) (by omega)).symm, hb⟩
  · have hn3 : ((l.length : Int) != (r.length : Int)) = true := by simp; omega
    have HN : Hid (¬ l.length = r.length) := hn
    clear hn
    go_enter Try.func23, Try.ntmps23
    go_wp2
    go_ret
    exact ⟨ret_bool (same_len HN.out).symm, Below.refl _ _⟩

set_option maxHeartbeats 400000 in
theorem outs_any {B C : Nat} (A D : Option Addr) (c d : Nat) (l r : List Out) (w : World) (hB : B ≤ w.heap.size) (hC : C ≤ w.heap.size) (h : ORd w B A l) (g : ORd w C D r) (_hl : l.length ≤ maxLen) (hr : r.length ≤ maxLen) :
    Calls Try.prog 17 #[.slice A l.length c, .slice D r.length d] w fun e w' => e = .returned (.bool (decide (l = r))) ∧ Below w.heap.size w w' := by
  unfold maxLen at _hl hr
  by_cases hn : l.length = r.length
  · have hn1 : l.length ≤ r.length := by omega
    have hn2 : r.length ≤ l.length := by omega
    have hn3 : ((l.length : Int) != (r.length : Int)) = false := by simp [hn]
    clear hn
    go_enter Try.func17, Try.ntmps17
    go_wp2
    go_loopw [5] (fun i wr => ∃ (k : Nat), k ≤ l.length ∧ i = .int .i64 k ∧ l.take k = r.take k ∧ Below w.heap.size w wr) (fun i _ => l.length - (intOf i).toNat)
    case atStart => exact ⟨0, Nat.zero_le _, rfl, rfl, Below.refl _ _⟩
    case round =>
      obtain ⟨k, hk, rfl, hv, hb⟩ := hrel
      have HV : Hid (l.take k = r.take k) := hv
      clear hv
      by_cases hlt : k < l.length
      · obtain ⟨b, off, t, rfl, hbb, ht, h1, h2, h3, h4⟩ := (h.below (hb.mono hB)).at_ hlt
        obtain ⟨b', off', t', rfl, hbb', ht', h1', h2', h3', h4'⟩ := (g.below (hb.mono hC)).at_ (k := k) (by omega)
        have HT : Hid (l[k]? = some t) := ht
        have HT' : Hid (r[k]? = some t') := ht'
        clear ht ht'
        have hne := fun W => run_neq_out t t' W
        have hkr : (k : Int) < (r.length : Int) := by omega
        have hkl : (k : Int) < (l.length : Int) := by omega
        go_wp2
        go_quiet (fail)
        go_wp2
        · rename_i hh
          go_ret
          exact ⟨ret_bool (same_no HT.out HT'.out (by simpa using hh)).symm, below_drewN hb _⟩
        · rename_i hh
          go_roundw
          case rel => exact ⟨k + 1, by omega, by go_num, same_on HV.out HT.out HT'.out (by simpa using hh), below_drewN hb _⟩
          case measure => simp [intOf]; omega
      · go_wp2
        go_ret
        exact ⟨ret_bool (same_end HV.out (by omega) (by omega)).symm, hb⟩
  · have hn3 : ((l.length : Int) != (r.length : Int)) = true := by simp; omega
    have HN : Hid (¬ l.length = r.length) := hn
    clear hn
    go_enter Try.func17, Try.ntmps17
    go_wp2
    go_ret
    exact ⟨ret_bool (same_len HN.out).symm, Below.refl _ _⟩

set_option maxHeartbeats 400000 in
theorem from_any (n lo hi : Int) (w : World) :
    Calls Try.prog 47 #[.int .i64 n, .int .i64 lo, .int .i64 hi] w fun e w' => e = .returned (.bool (from_ n lo hi)) ∧ w = w' := by
  go_enter Try.func47, Try.ntmps47
  go_wp2
  all_goals
    go_ret
    exact ⟨ret_bool (by first | (simp [from_, *]; done) | (simp [from_, *]; omega)), rfl⟩

end Go.Proofs.Ytlcpadonjbaaeaa
