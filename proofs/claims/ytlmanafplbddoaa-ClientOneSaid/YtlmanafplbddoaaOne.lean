/- The walk of the law ClientOne. -/
import Derived.Test.YtlmanafplbddoaaPlay
import Derived.Test.YtlmanafplbddoaaInv3
import Derived.Test.YtlmanafplbddoaaW8
namespace Go.Proofs.Ytlmanafplbddoaa
open Go.RowKit

theorem any_snoc {log : List (Int × Out)} {k : Nat} {e : Int × Out} (h : log[k]? = some e) : (log.take (k + 1)).any finB = ((log.take k).any finB || finB e) := by
  rw [List.take_add_one, h, List.any_append]; simp

/-- What the law's loop asks at an entry, in the walk's spelling: 'over' before and behind it. -/
def Scan (b b' : Bool) (e : Int × Out) : Prop :=
  (b = true ∧ b' = true ∧ (e.2.1 == 3) = false ∧ (e.2.1 == 1) = false) ∨
  (b = false ∧ b' = true ∧ (e.2.1 == 3) = true ∧ (e.2.1 == 1) = false ∧ decide (200 ≤ e.2.2.1) = true) ∨
  (b = false ∧ b' = false ∧ (e.2.1 == 3) = true ∧ (e.2.1 == 1) = false ∧ decide (200 ≤ e.2.2.1) = false ∧ (e.2.1 == 5) = false ∧ (e.2.1 == 6) = false) ∨
  (b = false ∧ b' = true ∧ (e.2.1 == 3) = false ∧ (e.2.1 == 5) = true) ∨
  (b = false ∧ b' = true ∧ (e.2.1 == 3) = false ∧ (e.2.1 == 5) = false ∧ (e.2.1 == 6) = true) ∨
  (b = false ∧ b' = false ∧ (e.2.1 == 3) = false ∧ (e.2.1 == 5) = false ∧ (e.2.1 == 6) = false)
theorem scan_at {log : List (Int × Out)} (h : OkScan log) {k : Nat} {e : Int × Out} (he : log[k]? = some e) : Scan ((log.take k).any finB) ((log.take (k + 1)).any finB) e := by
  rw [any_snoc he]
  have h1 := h k e he
  unfold Scan
  cases hb : (log.take k).any finB
  · by_cases k3 : e.2.1 = 3
    · by_cases kc : 200 ≤ e.2.2.1
      · exact .inr (.inl ⟨rfl, by simp [finB, k3, kc], by simp [k3], by simp [k3], by simp [kc]⟩)
      · exact .inr (.inr (.inl ⟨rfl, by simp [finB, k3, kc], by simp [k3], by simp [k3], by simp [kc], by simp [k3], by simp [k3]⟩))
    · by_cases k5 : e.2.1 = 5
      · exact .inr (.inr (.inr (.inl ⟨rfl, by simp [finB, k5], by simp [k5], by simp [k5]⟩)))
      · by_cases k6 : e.2.1 = 6
        · exact .inr (.inr (.inr (.inr (.inl ⟨rfl, by simp [finB, k6], by simp [k6], by simp [k6], by simp [k6]⟩))))
        · exact .inr (.inr (.inr (.inr (.inr ⟨rfl, by simp [finB, k3, k5, k6], by simp [k3], by simp [k5], by simp [k6]⟩))))
  · left
    have n3 : ¬ (e.2.1 = 3 ∨ e.2.1 = 1) := fun x => by rw [h1 x] at hb; cases hb
    simp only [not_or] at n3
    exact ⟨rfl, rfl, by simp [n3.1], by simp [n3.2]⟩

theorem count_quiet {B g : Nat} {s : Sim} (kd t lo hi : Int) (w : World) (n : Nat) (hs : SimAt w B g s) (h14 : s.due.length = 14) (hlen : s.log.length ≤ 1000000000) :
    Calls Try.prog 13 #[.pointer (some ⟨g, 0, none⟩), .int .u8 kd, .int .i64 t, .int .i64 lo, .int .i64 hi] (w.drewN n) fun e w' => e = .returned (.int .i64 (countS s.log kd t lo hi)) ∧ ∃ m, w' = w.drewN m :=
  (count_any kd t lo hi _ (hs.below (below_drewN (Below.refl _ _) n)) h14 hlen).mono fun _ _ ⟨h1, h2⟩ => ⟨h1, n, h2.symm⟩

set_option maxRecDepth 100000 in
set_option maxHeartbeats 2000000 in
theorem one_any (A : Option Addr) (c : Nat) (l : List Ev) (w : World) (hc : l.length ≤ 9223372036854775807) (hl : ∀ e ∈ l, goodE e) (h : Rd w w.heap.size A (l.flatMap evcells)) :
    Calls Try.prog 4 #[.slice A l.length c] w fun e w' => e = .returned (.bool true) ∧ Below w.heap.size w w' := by
  have HR : Hid (Rd w w.heap.size A (l.flatMap evcells)) := h
  have HG : Hid (∀ e ∈ l, goodE e) := hl
  have hok := ok_play hl 40
  have hinv : Inv (playS l) := Inv.play l (fun e he => (hl e he).1.1)
  have HOK : Hid (OkS (9 + 40 * 1700) (playS l)) := hok
  have HI : Hid (Inv (playS l)) := hinv
  have n0 : 0 ≤ (playS l).now := HOK.out.2.2.1
  have n1 : (playS l).now ≤ 6800900000 := by have := HOK.out.2.2.2.1; omega
  clear hl h hok hinv
  go_enter Try.func4, Try.ntmps4
  go_wp2_with fail
  refine (play_any (B := w.heap.size) A c l _ (Nat.le_refl _) hc HG.out HR.out).mono ?_
  rintro e w1 ⟨g, rfl, hs1, hb1⟩
  have HS1 : Hid (SimAt w1 w.heap.size g (playS l)) := hs1
  have HB1 : Hid (Below w.heap.size w w1) := hb1
  obtain ⟨v, hv⟩ := hs1
  obtain ⟨-, mnow, -, -, -⟩ := hv.cells HOK.out.1
  have q0 : g < w1.heap.size := hv.lt
  clear hv hb1
  generalize playS l = s at *
  go_wp2_with fail
  refine (until_any (N := 68010 + 1) (B := w.heap.size) (s := s) (s.now + 37000) _ HS1.out (HOK.out.more (by omega)) (by omega) ⟨by omega, by omega⟩).mono ?_
  rintro e w2 ⟨rfl, hs2, hb2⟩
  have hok2 : OkS (68011 + 200 * 8) (untilS 200 s (s.now + 37000)) := (HOK.out.more (show 9 + 40 * 1700 ≤ 68011 by omega)).until 200 (by omega)
  have hinv2 : Inv (untilS 200 s (s.now + 37000)) := (HI.out.until (by omega)).1
  have hnow2 : (untilS 200 s (s.now + 37000)).now = s.now + 37000 := (HI.out.until (by omega)).2
  have h7 : (untilS 200 s (s.now + 37000)).m.1 = 7 := HI.out.late
  generalize untilS 200 s (s.now + 37000) = s2 at hs2 hok2 hinv2 hnow2 h7
  have hfin := hinv2.fin h7
  have hend := hinv2.ended h7
  have HS2 : Hid (SimAt w2 w.heap.size g s2) := hs2
  have HB2 : Hid (Below w.heap.size w w2) := HB1.out.trans hb2
  have HI2 : Hid (Inv s2) := hinv2
  have HE2 : Hid (countS s2.log 7 37000 0 0 = 1) := hend
  have HOM : Hid (OkM s2.m) := hok2.2.2.2.2.2
  have HL2 : Hid (s2.due.length = 14 ∧ s2.log.length ≤ 1000000000) := ⟨hok2.1, by have := hok2.2.2.2.2; omega⟩
  have d7 : (s2.m.1 == 7) = true := by simpa using h7
  have hlen : s2.log.length ≤ 1000000000 := HL2.out.2
  have w1' : IntKind.i64.wrap ((countS s2.log 3 s2.now 200 699 : Int) + (countS s2.log 5 s2.now 0 1000 : Int)) = (countS s2.log 3 s2.now 200 699 : Int) + (countS s2.log 5 s2.now 0 1000 : Int) := IntWalk.i64_in _ (by omega)
  have w2' : IntKind.i64.wrap ((countS s2.log 3 s2.now 200 699 : Int) + (countS s2.log 5 s2.now 0 1000 : Int) + (countS s2.log 6 s2.now 0 1000 : Int)) = 1 := by rw [IntWalk.i64_in _ (by omega)]; omega
  obtain ⟨v2, hv2⟩ := hs2
  obtain ⟨⟨m0, m1, m2⟩, mnow2, -, -, -⟩ := hv2.cells hok2.1
  have q2 : g < w2.heap.size := hv2.lt
  clear hv2 hok2 hinv2 h7 hb2 n0 n1 q0 mnow hnow2 hfin hend
  go_wp2_with fail
  go_quiet ((go_at_call 13; exact count_quiet (s := s2) _ _ _ _ _ _ HS2.out HL2.out.1 HL2.out.2))
  clear w1' w2' m0 m1 m2 mnow2
  have HScan : Hid (OkScan s2.log) := HI2.out.scan
  go_wp2_with fail
  go_loopw [4, 5] (fun ov i wr => ∃ (k : Nat) (b : Bool), k ≤ s2.log.length ∧ i = .int .i64 k ∧ ov = .bool b ∧ b = (s2.log.take k).any finB ∧ SimAt wr w.heap.size g s2 ∧ Below w.heap.size w wr) (fun _ i _ => s2.log.length - (intOf i).toNat)
  case atStart => exact ⟨0, false, Nat.zero_le _, rfl, rfl, rfl, HS2.out.below (below_drewN (Below.refl _ _) _), below_drewN HB2.out _⟩
  case round =>
    obtain ⟨k, b, hk, rfl, rfl, hbv, hsr, hbr⟩ := hrel
    have HSr : Hid (SimAt wr w.heap.size g s2) := hsr
    have HBr : Hid (Below w.heap.size w wr) := hbr
    obtain ⟨v3, hv3⟩ := hsr
    have q3 : g < wr.heap.size := hv3.lt
    by_cases hlt : k < s2.log.length
    · have hki : (k : Int) < (s2.log.length : Int) := by omega
      obtain ⟨⟨m0, m1, m2⟩, mnow, mlog, -, -⟩ := hv3.cells HL2.out.1
      obtain ⟨b5, c5, e5, rfl, hj5, x0, x1, x2, -, -⟩ := hv3.log_at hlt
      have hsc := scan_at HScan.out hj5
      have q6 : b5 < wr.heap.size := World.block_lt_of_cell? wr ⟨b5, k * 5 + 1, none⟩ x1
      rw [← hbv] at hsc
      obtain ⟨b', hb2'⟩ : ∃ b', b' = (s2.log.take (k + 1)).any finB := ⟨_, rfl⟩
      rw [← hb2'] at hsc
      have HB' : Hid (b' = (s2.log.take (k + 1)).any finB) := hb2'
      clear hv3 hbr hbv hj5 hb2' x0
      unfold Scan at hsc
      rcases hsc with ⟨rfl, rfl, d3, d1⟩ | ⟨rfl, rfl, d3, d1, dc⟩ | ⟨rfl, rfl, d3, d1, dc, d5, d6⟩ | ⟨rfl, rfl, d3, d5⟩ | ⟨rfl, rfl, d3, d5, d6⟩ | ⟨rfl, rfl, d3, d5, d6⟩
      all_goals
        go_wp2_with fail
        go_quiet (fail)
        go_wp2_with fail
        go_roundw
        case rel => exact ⟨k + 1, _, by omega, by go_num, rfl, HB'.out, HSr.out.below (below_drewN (Below.refl _ _) _), below_drewN HBr.out _⟩
        case measure => simp [intOf]; omega
    · have hki : ¬ (k : Int) < (s2.log.length : Int) := by omega
      obtain ⟨⟨m0, m1, m2⟩, mnow, mlog, -, -⟩ := hv3.cells HL2.out.1
      obtain ⟨A5, c5, rfl, -⟩ := hv3.log_slice
      clear hv3 hbr hbv
      go_wp2_with fail
      refine (count_any (s := s2) 7 37000 0 0 _ HSr.out HL2.out.1 HL2.out.2).mono ?_
      rw [HE2.out]
      rintro e w' ⟨rfl, rfl⟩
      go_wp2_with fail
      refine (may_any s2.m HOM.out _).mono ?_
      rw [HI2.out.may]
      rintro e w3 ⟨rfl, hb3⟩
      have HS3 : Hid (SimAt w3 w.heap.size g s2) := HSr.out.below hb3
      have HB3 : Hid (Below w.heap.size w w3) := HBr.out.trans (hb3.mono HBr.out.size)
      clear m0 m1 m2 mnow mlog hb3
      go_wp2_with fail
      refine (closed_any (s := s2) _ HS3.out HL2.out.1 HL2.out.2 HI2.out.closed).mono ?_
      rintro e w4 ⟨rfl, hb4⟩
      have HB4 : Hid (Below w.heap.size w w4) := HB3.out.trans (hb4.mono HB3.out.size)
      clear hb4
      go_wp2_with fail
      refine (works_any _).mono ?_
      rintro e w5 ⟨rfl, hb5⟩
      have HB5 : Hid (Below w.heap.size w w5) := HB4.out.trans (hb5.mono HB4.out.size)
      clear hb5
      go_wp2_with fail
      go_ret
      exact ⟨rfl, HB5.out⟩

end Go.Proofs.Ytlmanafplbddoaa
