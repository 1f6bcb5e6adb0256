/- The walk of the law InviteclientUser. -/
import Derived.Test.YtlcpadonjbaaeaaPlay
import Derived.Test.YtlcpadonjbaaeaaInv3
import Derived.Test.YtlcpadonjbaaeaaW8
namespace Go.Proofs.Ytlcpadonjbaaeaa
open Go.RowKit

theorem any_snoc {log : List (Int × Out)} {k : Nat} {e : Int × Out} (h : log[k]? = some e) : (log.take (k + 1)).any finB = ((log.take k).any finB || finB e) := by
  rw [List.take_add_one, h, List.any_append]; simp

/-- What the law's loop asks at an entry, in the walk's spelling: 'final' before and behind it. -/
def Scan (b b' : Bool) (e : Int × Out) : Prop :=
  ((e.2.1 != 3) = true ∧ b' = b) ∨
  ((e.2.1 != 3) = false ∧ b = true ∧ b' = true ∧ decide (e.2.2.1 < 200) = false) ∨
  ((e.2.1 != 3) = false ∧ b = false ∧ b' = true ∧ decide (200 ≤ e.2.2.1) = true) ∨
  ((e.2.1 != 3) = false ∧ b = false ∧ b' = false ∧ decide (200 ≤ e.2.2.1) = false)
theorem scan_at {log : List (Int × Out)} (h : OkScan log) {k : Nat} {e : Int × Out} (he : log[k]? = some e) : Scan ((log.take k).any finB) ((log.take (k + 1)).any finB) e := by
  rw [any_snoc he]
  have h1 := h k e he
  unfold Scan
  by_cases k3 : e.2.1 = 3
  · cases hb : (log.take k).any finB
    · by_cases kc : 200 ≤ e.2.2.1
      · exact .inr (.inr (.inl ⟨by simp [k3], rfl, by simp [finB, k3, kc], by simp [kc]⟩))
      · exact .inr (.inr (.inr ⟨by simp [k3], rfl, by simp [finB, k3, kc], by simp [kc]⟩))
    · have : ¬ e.2.2.1 < 200 := fun x => by rw [h1 k3 x] at hb; cases hb
      exact .inr (.inl ⟨by simp [k3], rfl, by simp, by simp [this]⟩)
  · exact .inl ⟨by simp [k3], by simp [finB, k3]⟩

set_option maxRecDepth 100000 in
set_option maxHeartbeats 2000000 in
theorem userlaw_any (A : Option Addr) (c : Nat) (l : List Ev) (w : World) (hc : l.length ≤ 9223372036854775807) (hl : ∀ e ∈ l, goodE e) (h : Rd w w.heap.size A (l.flatMap evcells)) :
    Calls Try.prog 6 #[.slice A l.length c] w fun e w' => e = .returned (.bool true) ∧ Below w.heap.size w w' := by
  have HR : Hid (Rd w w.heap.size A (l.flatMap evcells)) := h
  have HG : Hid (∀ e ∈ l, goodE e) := hl
  have hok := ok_play hl 40
  have hinv : Inv (playS l) := Inv.play l (fun e he => (hl e he).1.1)
  have HOK : Hid (OkS (9 + 40 * 1700) (playS l)) := hok
  have HI : Hid (Inv (playS l)) := hinv
  have n0 : 0 ≤ (playS l).now := HOK.out.2.2.1
  have n1 : (playS l).now ≤ 6800900000 := by have := HOK.out.2.2.2.1; omega
  clear hl h hok hinv
  go_enter Try.func6, Try.ntmps6
  go_wp2_with fail
  refine (play_any (B := w.heap.size) A c l _ (Nat.le_refl _) hc HG.out HR.out).mono ?_
  rintro e w1 ⟨g, rfl, hs1, hb1⟩
  have HS1 : Hid (SimAt w1 w.heap.size g (playS l)) := hs1
  have HB1 : Hid (Below w.heap.size w w1) := hb1
  obtain ⟨⟨m0, m1, m2⟩, mnow, q0⟩ := hs1.mcells HOK.out.1
  clear hb1 hs1
  generalize playS l = s at *
  go_wp2_with fail
  refine (until_any (N := 69010 + 1) (B := w.heap.size) (s := s) (s.now + 100000) _ HS1.out (HOK.out.more (by omega)) (by omega) ⟨by omega, by omega⟩).mono ?_
  rintro e w2 ⟨rfl, hs2, hb2⟩
  have hok2 : OkS (69011 + 200 * 8) (untilS 200 s (s.now + 100000)) := (HOK.out.more (show 9 + 40 * 1700 ≤ 69011 by omega)).until 200 (by omega)
  have hinv2 : Inv (untilS 200 s (s.now + 100000)) := (HI.out.until (by omega)).1
  generalize untilS 200 s (s.now + 100000) = s2 at hs2 hok2 hinv2
  have hcnt := hinv2.cnt
  have HS2 : Hid (SimAt w2 w.heap.size g s2) := hs2
  have HB2 : Hid (Below w.heap.size w w2) := HB1.out.trans hb2
  have HI2 : Hid (Inv s2) := hinv2
  have HOM : Hid (OkM s2.m) := hok2.2.2.2.2.2
  have HL2 : Hid (s2.due.length = 14 ∧ s2.log.length ≤ 1000000000) := ⟨hok2.1, by have := hok2.2.2.2.2; omega⟩
  have HScan : Hid (OkScan s2.log) := hinv2.scan
  have hlen : s2.log.length ≤ 1000000000 := HL2.out.2
  clear m0 m1 m2 mnow q0
  obtain ⟨v, hv⟩ := hs2
  obtain ⟨⟨m0, m1, m2⟩, mnow, mlog, -, -⟩ := hv.cells hok2.1
  obtain ⟨A5, c5, rfl, -⟩ := hv.log_slice
  have q2 : g < w2.heap.size := hv.lt
  have HV : Hid (SimV w2 w.heap.size g s2 (.slice A5 s2.log.length c5)) := hv
  clear hv hok2 hinv2 hb2 n0 n1
  unfold CntL at hcnt
  have HC3 : Hid (∃ R, R = countS s2.log 3 s2.now 300 699) := ⟨_, rfl⟩
  obtain ⟨R, hR⟩ := HC3.out
  obtain ⟨Q, hQ⟩ : ∃ Q, Q = countS s2.log 3 s2.now 200 299 := ⟨_, rfl⟩
  obtain ⟨G, hG⟩ : ∃ G, G = countS s2.log 3 s2.now 0 1000 := ⟨_, rfl⟩
  obtain ⟨T, hT⟩ : ∃ T, T = countS s2.log 5 s2.now 0 1000 := ⟨_, rfl⟩
  obtain ⟨K, hK⟩ : ∃ K, K = countS s2.log 2 s2.now 300 699 := ⟨_, rfl⟩
  rw [← hR, ← hQ, ← hG, ← hT, ← hK] at hcnt
  have HCR : Hid (countS s2.log 3 s2.now 300 699 = R ∧ countS s2.log 3 s2.now 200 299 = Q ∧ countS s2.log 3 s2.now 0 1000 = G ∧ countS s2.log 5 s2.now 0 1000 = T ∧ countS s2.log 2 s2.now 300 699 = K) := ⟨hR.symm, hQ.symm, hG.symm, hT.symm, hK.symm⟩
  clear hR hQ hG hT hK HC3
  obtain ⟨c1, c2, c3, -⟩ := hcnt
  have hcase : (R = 0 ∨ R = 1 ∧ Q = 0 ∧ 0 < K) ∧ (T = 0 ∨ 0 < T ∧ G = 0) := by omega
  clear c1 c2 c3
  obtain ⟨hr, ht⟩ := hcase
  go_wp2_with fail
  refine (count_any (s := s2) 3 s2.now 300 699 _ HS2.out HL2.out.1 HL2.out.2).mono ?_
  rw [HCR.out.1]
  rintro e w' ⟨rfl, rfl⟩
  go_wp2_with fail
  refine (count_any (s := s2) 3 s2.now 200 299 _ HS2.out HL2.out.1 HL2.out.2).mono ?_
  rw [HCR.out.2.1]
  rintro e w' ⟨rfl, rfl⟩
  go_wp2_with fail
  refine (count_any (s := s2) 3 s2.now 0 1000 _ HS2.out HL2.out.1 HL2.out.2).mono ?_
  rw [HCR.out.2.2.1]
  rintro e w' ⟨rfl, rfl⟩
  rcases hr with rfl | ⟨rfl, rfl, hk⟩ <;> rcases ht with rfl | ⟨ht, rfl⟩
  all_goals
    try have dk : decide ((K : Int) < 1) = false := by simp; omega
    try have dt : decide ((0 : Int) < (T : Int)) = true := by simp; omega
    go_wp2_with fail
    refine (count_any (s := s2) 5 s2.now 0 1000 _ HS2.out HL2.out.1 HL2.out.2).mono ?_
    rw [HCR.out.2.2.2.1]
    rintro e w' ⟨rfl, rfl⟩
    go_wp2_with fail
    try
      refine (count_any (s := s2) 2 s2.now 300 699 _ HS2.out HL2.out.1 HL2.out.2).mono ?_
      rw [HCR.out.2.2.2.2]
      rintro e w' ⟨rfl, rfl⟩
      go_wp2_with fail
    try clear dk
    try clear dt
    try clear hk
    try clear ht
    go_loop [7, 8] (fun ov i => ∃ (k : Nat) (b : Bool), k ≤ s2.log.length ∧ i = .int .i64 k ∧ ov = .bool b ∧ b = (s2.log.take k).any finB) (fun _ i => s2.log.length - (intOf i).toNat)
    case atStart => exact ⟨0, false, Nat.zero_le _, rfl, rfl, rfl⟩
    case round =>
      obtain ⟨k, b, hk, rfl, rfl, hbv⟩ := hrel
      by_cases hlt : k < s2.log.length
      · have hki : (k : Int) < (s2.log.length : Int) := by omega
        obtain ⟨b6, c6, e6, he, hj6, x0, x1, x2, -, -⟩ := HV.out.log_at hlt
        cases he
        have hsc := scan_at HScan.out hj6
        have q6 : b6 < w2.heap.size := World.block_lt_of_cell? w2 ⟨b6, k * 5 + 1, none⟩ x1
        rw [← hbv] at hsc
        obtain ⟨b', hb2'⟩ : ∃ b', b' = (s2.log.take (k + 1)).any finB := ⟨_, rfl⟩
        rw [← hb2'] at hsc
        have HB' : Hid (b' = (s2.log.take (k + 1)).any finB) := hb2'
        clear hbv hj6 hb2' x0
        unfold Scan at hsc
        rcases hsc with ⟨d3, rfl⟩ | ⟨d3, rfl, rfl, d1⟩ | ⟨d3, rfl, rfl, d1⟩ | ⟨d3, rfl, rfl, d1⟩
        all_goals
          go_wp2_with fail
          go_round
          case rel => exact ⟨k + 1, _, by omega, by go_num, rfl, HB'.out⟩
          case measure => simp [intOf]; omega
      · have hki : ¬ (k : Int) < (s2.log.length : Int) := by omega
        clear hbv
        go_wp2_with fail
        refine (may_any s2.m HOM.out _).mono ?_
        rw [HI2.out.may]
        rintro e w3 ⟨rfl, hb3⟩
        have HS3 : Hid (SimAt w3 w.heap.size g s2) := HS2.out.below hb3
        have HB3 : Hid (Below w.heap.size w w3) := HB2.out.trans (hb3.mono HB2.out.size)
        clear m0 m1 m2 mnow mlog hb3
        go_wp2_with fail
        refine (closed_any (s := s2) _ HS3.out HL2.out.1 HL2.out.2 HI2.out.closed).mono ?_
        rintro e w4 ⟨rfl, hb4⟩
        have HB4 : Hid (Below w.heap.size w w4) := HB3.out.trans (hb4.mono HB3.out.size)
        clear hb4
        go_wp2_with fail
        refine (works_any _).mono ?_
        rintro e w5 ⟨rfl, hb5⟩
        have HB5 : Hid (Below w.heap.size w w5) := HB4.out.trans (hb5.mono HB4.out.size)
        clear hb5
        go_wp2_with fail
        go_ret
        exact ⟨rfl, HB5.out⟩

end Go.Proofs.Ytlcpadonjbaaeaa
