/- The walk of the statement TimersStable. -/
import Derived.Test.YtfocenfgeolpfaaW7
namespace Go.Proofs.Ytfocenfgeolpfaa
open Go.RowKit

/-- made, the length under a name. -/
theorem maden_any {B : Nat} (A : Option Addr) (c : Nat) (bs : List Int) (n : Nat) (hl : bs.length = n) (w : World) (hB : B ≤ w.heap.size) (h : Rd w B A (bs.flatMap u8cell)) (hn2 : n ≤ 200) (hn : ∀ n ∈ bs, 0 ≤ n ∧ n ≤ 255) :
    Calls Try.prog 10 #[.slice A n c] w fun e w' => ∃ v, e = .returned (.tuple #[v, .bool true]) ∧ w'.ownsRow w.heap.size 28 3 v n (tscells (madeT bs n)) ∧ Below w.heap.size w w' := by
  subst hl
  exact made_any A c bs w hB h hn2 hn

/-- Valid says yes, the length under a name. -/
theorem validn_yes {B : Nat} (A : Option Addr) (c : Nat) (l : List Tm) (n : Nat) (hl : l.length = n) (w : World) (hB : B ≤ w.heap.size) (h : TRd w B A l) (hv : validT l = true) :
    Calls Try.prog 11 #[.slice A n c] w fun e w' => e = .returned (.bool true) ∧ Below w.heap.size w w' := by
  subst hl
  have hlen := valid_len hv
  exact (valid_any A c l w hB h (by simp only [maxLen]; omega)).mono fun _ _ ⟨he, hb⟩ => ⟨by rw [he, hv], hb⟩

theorem bytes_take {w : World} {B : Nat} {A : Option Addr} {bs : List Int} (h : Rd w B A (bs.flatMap u8cell)) (k : Nat) : Rd w B A ((bs.take k).flatMap u8cell) := by
  have := Rd.take h (k * 1)
  rwa [flat_take u8cell 1 (fun _ => rfl)] at this

set_option maxRecDepth 100000 in
set_option maxHeartbeats 1000000 in
theorem stable_cut (A : Option Addr) (c : Nat) (bs : List Int) (w : World) (hl : bs.length ≤ maxLen) (hlc : bs.length ≤ c) (h : Rd w w.heap.size A (bs.flatMap u8cell)) (hn : ∀ n ∈ bs, 0 ≤ n ∧ n ≤ 255) (h2 : 200 < bs.length) :
    Calls Try.prog 3 #[.slice A bs.length c] w fun e w' => e = .returned (.bool true) ∧ Below w.heap.size w w' := by
  unfold maxLen at hl
  have HH : Hid (Rd w w.heap.size A (bs.flatMap u8cell)) := h
  have HN : Hid (∀ n ∈ bs, 0 ≤ n ∧ n ≤ 255) := hn
  have HL : Hid ((madeT (bs.take 200) 200).length = 200) := madeT_len _ _
  clear h hn
  go_enter Try.func3, Try.ntmps3
  go_wp2_with fail
  refine (maden_any (B := w.heap.size) A c (bs.take 200) 200 (by simp; omega) _ (Nat.le_refl _) (bytes_take HH.out 200) (by omega) (fun n hn => HN.out n (List.mem_of_mem_take hn))).mono ?_
  rintro e w1 ⟨v, rfl, hown, hb1⟩
  obtain ⟨A1, c1, rfl, hc1⟩ := own_slice hown
  go_wp2_with fail
  refine (validn_yes (B := w1.heap.size) A1 c1 (madeT (bs.take 200) 200) 200 (madeT_len _ _) _ (Nat.le_refl _) (Rd.of_own hown) (madeT_valid _ (by omega))).mono ?_
  rintro e w2 ⟨rfl, hb2⟩
  have hz1 := hb1.size
  have HR : Hid (TRd w2 w1.heap.size A1 (madeT (bs.take 200) 200)) := TRd.below (Rd.of_own hown) hb2
  have HB : Hid (Below w.heap.size w w2) := hb1.trans (hb2.mono hz1)
  have hz2 := hb2.size
  clear hown hb1 hb2
  go_wp2_with fail
  go_loopw [5] (fun i wr => ∃ (k : Nat), i = .int .i64 (k + 1) ∧ k ≤ 200 ∧ Below w2.heap.size w2 wr) (fun i _ => 202 - (intOf i).toNat)
  case atStart => exact ⟨0, rfl, by omega, Below.refl _ _⟩
  case round =>
    obtain ⟨k, rfl, hk, hb⟩ := hrel
    have hz3 := hb.size
    by_cases hlt : k + 1 < 200
    · obtain ⟨b, off, t, rfl, hbb, ht, g1, -, g3⟩ := (HR.out.below (hb.mono hz2)).at_ (k := k) (by rw [HL.out]; omega)
      obtain ⟨b', off', t', heq, -, ht', g1', -, g3'⟩ := (HR.out.below (hb.mono hz2)).at_ (k := k + 1) (by rw [HL.out]; omega)
      simp only [Option.some.injEq, Addr.mk.injEq, and_true] at heq
      obtain ⟨rfl, rfl⟩ := heq
      have hbf : t.1 < t'.1 ∨ t.1 = t'.1 ∧ t.2.2 < t'.2.2 := madeT_next _ _ ht ht'
      have q0 : (0 : Int) ≤ (k : Int) + 1 := by omega
      have q1 : (k : Int) + 1 < (200 : Int) := by omega
      have q2 : IntKind.i64.wrap ((k : Int) + 1 - 1) = (k : Int) := by rw [IntWalk.i64_in _ (by omega)]; omega
      have q3 : ((k : Int) + 1).toNat = k + 1 := by omega
      have q4 : (k : Int) < (200 : Int) := by omega
      clear ht ht'
      rcases hbf with hbf | ⟨hbe, hbf⟩
      · have d1 : decide (t'.1 < t.1) = false := by simp; omega
        have d2 : (t'.1 == t.1) = false := by simp; omega
        go_wp2_with fail
        go_quiet (fail)
        go_wp2_with fail
        go_roundw
        case rel => exact ⟨k + 1, by go_num, by omega, below_drewN hb _⟩
        case measure => simp [intOf]; omega
      · have d1 : decide (t'.1 < t.1) = false := by simp; omega
        have d2 : (t'.1 == t.1) = true := by simp; omega
        have d3 : decide (t'.2.2 ≤ t.2.2) = false := by simp; omega
        go_wp2_with fail
        go_quiet (fail)
        go_wp2_with fail
        go_roundw
        case rel => exact ⟨k + 1, by go_num, by omega, below_drewN hb _⟩
        case measure => simp [intOf]; omega
    · have hd : decide ((k : Int) + 1 < (200 : Int)) = false := by simp; omega
      have HK : Hid (k ≤ 200) := hk
      clear hlt hk
      go_wp2_with fail
      refine (works_any _).mono ?_
      rintro e w3 ⟨rfl, hb3⟩
      go_wp2_with fail
      go_ret
      exact ⟨rfl, HB.out.trans ((hb.mono (by omega)).trans (hb3.mono (by omega)))⟩

set_option maxRecDepth 100000 in
set_option maxHeartbeats 1000000 in
theorem stable_whole (A : Option Addr) (c : Nat) (bs : List Int) (w : World) (hl : bs.length ≤ maxLen) (hlc : bs.length ≤ c) (h : Rd w w.heap.size A (bs.flatMap u8cell)) (hn : ∀ n ∈ bs, 0 ≤ n ∧ n ≤ 255) (h2 : bs.length ≤ 200) :
    Calls Try.prog 3 #[.slice A bs.length c] w fun e w' => e = .returned (.bool true) ∧ Below w.heap.size w w' := by
  unfold maxLen at hl
  have HH : Hid (Rd w w.heap.size A (bs.flatMap u8cell)) := h
  have HN : Hid (∀ n ∈ bs, 0 ≤ n ∧ n ≤ 255) := hn
  have HL : Hid ((madeT (bs.take 200) bs.length).length = bs.length) := madeT_len _ _
  clear h hn
  go_enter Try.func3, Try.ntmps3
  go_wp2_with fail
  refine (maden_any (B := w.heap.size) A c (bs.take 200) bs.length (by simp; omega) _ (Nat.le_refl _) (bytes_take HH.out 200) (by omega) (fun n hn => HN.out n (List.mem_of_mem_take hn))).mono ?_
  rintro e w1 ⟨v, rfl, hown, hb1⟩
  obtain ⟨A1, c1, rfl, hc1⟩ := own_slice hown
  go_wp2_with fail
  refine (validn_yes (B := w1.heap.size) A1 c1 (madeT (bs.take 200) bs.length) bs.length (madeT_len _ _) _ (Nat.le_refl _) (Rd.of_own hown) (madeT_valid _ (by omega))).mono ?_
  rintro e w2 ⟨rfl, hb2⟩
  have hz1 := hb1.size
  have HR : Hid (TRd w2 w1.heap.size A1 (madeT (bs.take 200) bs.length)) := TRd.below (Rd.of_own hown) hb2
  have HB : Hid (Below w.heap.size w w2) := hb1.trans (hb2.mono hz1)
  have hz2 := hb2.size
  clear hown hb1 hb2
  go_wp2_with fail
  go_loopw [5] (fun i wr => ∃ (k : Nat), i = .int .i64 (k + 1) ∧ k ≤ 200 ∧ Below w2.heap.size w2 wr) (fun i _ => 202 - (intOf i).toNat)
  case atStart => exact ⟨0, rfl, by omega, Below.refl _ _⟩
  case round =>
    obtain ⟨k, rfl, hk, hb⟩ := hrel
    have hz3 := hb.size
    by_cases hlt : k + 1 < bs.length
    · obtain ⟨b, off, t, rfl, hbb, ht, g1, -, g3⟩ := (HR.out.below (hb.mono hz2)).at_ (k := k) (by rw [HL.out]; omega)
      obtain ⟨b', off', t', heq, -, ht', g1', -, g3'⟩ := (HR.out.below (hb.mono hz2)).at_ (k := k + 1) (by rw [HL.out]; omega)
      simp only [Option.some.injEq, Addr.mk.injEq, and_true] at heq
      obtain ⟨rfl, rfl⟩ := heq
      have hbf : t.1 < t'.1 ∨ t.1 = t'.1 ∧ t.2.2 < t'.2.2 := madeT_next _ _ ht ht'
      have q0 : (0 : Int) ≤ (k : Int) + 1 := by omega
      have q1 : (k : Int) + 1 < (bs.length : Int) := by omega
      have q2 : IntKind.i64.wrap ((k : Int) + 1 - 1) = (k : Int) := by rw [IntWalk.i64_in _ (by omega)]; omega
      have q3 : ((k : Int) + 1).toNat = k + 1 := by omega
      have q4 : (k : Int) < (bs.length : Int) := by omega
      clear ht ht'
      rcases hbf with hbf | ⟨hbe, hbf⟩
      · have d1 : decide (t'.1 < t.1) = false := by simp; omega
        have d2 : (t'.1 == t.1) = false := by simp; omega
        go_wp2_with fail
        go_quiet (fail)
        go_wp2_with fail
        go_roundw
        case rel => exact ⟨k + 1, by go_num, by omega, below_drewN hb _⟩
        case measure => simp [intOf]; omega
      · have d1 : decide (t'.1 < t.1) = false := by simp; omega
        have d2 : (t'.1 == t.1) = true := by simp; omega
        have d3 : decide (t'.2.2 ≤ t.2.2) = false := by simp; omega
        go_wp2_with fail
        go_quiet (fail)
        go_wp2_with fail
        go_roundw
        case rel => exact ⟨k + 1, by go_num, by omega, below_drewN hb _⟩
        case measure => simp [intOf]; omega
    · have hd : decide ((k : Int) + 1 < (bs.length : Int)) = false := by simp; omega
      have HK : Hid (k ≤ 200) := hk
      clear hlt hk
      go_wp2_with fail
      refine (works_any _).mono ?_
      rintro e w3 ⟨rfl, hb3⟩
      go_wp2_with fail
      go_ret
      exact ⟨rfl, HB.out.trans ((hb.mono (by omega)).trans (hb3.mono (by omega)))⟩

theorem stable_any (A : Option Addr) (c : Nat) (bs : List Int) (w : World) (hl : bs.length ≤ maxLen) (hlc : bs.length ≤ c) (h : Rd w w.heap.size A (bs.flatMap u8cell)) (hn : ∀ n ∈ bs, 0 ≤ n ∧ n ≤ 255) :
    Calls Try.prog 3 #[.slice A bs.length c] w fun e w' => e = .returned (.bool true) ∧ Below w.heap.size w w' := by
  by_cases h2 : 200 < bs.length
  · exact stable_cut A c bs w hl hlc h hn h2
  · exact stable_whole A c bs w hl hlc h hn (by omega)

end Go.Proofs.Ytfocenfgeolpfaa
