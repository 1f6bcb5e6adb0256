/- The walk of the law InviteclientEnds. -/
import Derived.Test.YtlcpadonjbaaeaaPlay
import Derived.Test.YtlcpadonjbaaeaaInv3
import Derived.Test.YtlcpadonjbaaeaaW8
namespace Go.Proofs.Ytlcpadonjbaaeaa
open Go.RowKit

set_option maxRecDepth 100000 in
set_option maxHeartbeats 2000000 in
theorem ends_any (A : Option Addr) (c : Nat) (l : List Ev) (w : World) (hc : l.length ≤ 9223372036854775807) (hl : ∀ e ∈ l, goodE e) (h : Rd w w.heap.size A (l.flatMap evcells)) :
    Calls Try.prog 7 #[.slice A l.length c] w fun e w' => e = .returned (.bool true) ∧ Below w.heap.size w w' := by
  have HR : Hid (Rd w w.heap.size A (l.flatMap evcells)) := h
  have HG : Hid (∀ e ∈ l, goodE e) := hl
  have hok := ok_play hl 40
  have hinv : Inv (playS l) := Inv.play l (fun e he => (hl e he).1.1)
  have HOK : Hid (OkS (9 + 40 * 1700) (playS l)) := hok
  have HI : Hid (Inv (playS l)) := hinv
  have n0 : 0 ≤ (playS l).now := HOK.out.2.2.1
  have n1 : (playS l).now ≤ 6800900000 := by have := HOK.out.2.2.2.1; omega
  clear hl h hok hinv
  go_enter Try.func7, Try.ntmps7
  go_wp2_with fail
  refine (play_any (B := w.heap.size) A c l _ (Nat.le_refl _) hc HG.out HR.out).mono ?_
  rintro e w1 ⟨g, rfl, hs1, hb1⟩
  have HS1 : Hid (SimAt w1 w.heap.size g (playS l)) := hs1
  have HB1 : Hid (Below w.heap.size w w1) := hb1
  obtain ⟨⟨m0, m1, m2⟩, mnow, q0⟩ := hs1.mcells HOK.out.1
  clear hb1 hs1
  generalize playS l = s at *
  go_wp2_with fail
  refine (until_any (N := 68010 + 1) (B := w.heap.size) (s := s) (s.now + 32000) _ HS1.out (HOK.out.more (by omega)) (by omega) ⟨by omega, by omega⟩).mono ?_
  rintro e w2 ⟨rfl, hs2, hb2⟩
  have hok2 : OkS (68011 + 200 * 8) (untilS 200 s (s.now + 32000)) := (HOK.out.more (show 9 + 40 * 1700 ≤ 68011 by omega)).until 200 (by omega)
  have hinv2 : Inv (untilS 200 s (s.now + 32000)) := (HI.out.until (by omega)).1
  have hlate := HI.out.late
  generalize untilS 200 s (s.now + 32000) = s2 at hs2 hok2 hinv2 hlate
  have HS2 : Hid (SimAt w2 w.heap.size g s2) := hs2
  have HB2 : Hid (Below w.heap.size w w2) := HB1.out.trans hb2
  have HI2 : Hid (Inv s2) := hinv2
  have HL2 : Hid (s2.due.length = 14 ∧ s2.log.length ≤ 1000000000) := ⟨hok2.1, by have := hok2.2.2.2.2; omega⟩
  clear m0 m1 m2 mnow q0
  obtain ⟨⟨m0, m1, m2⟩, mnow, q2⟩ := hs2.mcells hok2.1
  clear hs2 hok2 hinv2 hb2 n0 n1
  by_cases h3 : s.m.1 = 3
  · have d3 : (s.m.1 == 3) = true := by simpa using h3
    have e3 : (s2.m.1 == 3) = true := by simpa using hlate.1 h3
    clear hlate h3
    go_wp2_with fail
    refine (closed_any (s := s2) _ HS2.out HL2.out.1 HL2.out.2 HI2.out.closed).mono ?_
    rintro e w4 ⟨rfl, hb4⟩
    have HB4 : Hid (Below w.heap.size w w4) := HB2.out.trans (hb4.mono HB2.out.size)
    clear hb4 m0 m1 m2 mnow
    go_wp2_with fail
    refine (works_any _).mono ?_
    rintro e w5 ⟨rfl, hb5⟩
    have HB5 : Hid (Below w.heap.size w w5) := HB4.out.trans (hb5.mono HB4.out.size)
    clear hb5
    go_wp2_with fail
    go_ret
    exact ⟨rfl, HB5.out⟩
  · have d3 : (s.m.1 == 3) = false := by simpa using h3
    have e7 : (s2.m.1 == 7) = true := by simpa using hlate.2 h3
    clear hlate h3
    go_wp2_with fail
    refine (closed_any (s := s2) _ HS2.out HL2.out.1 HL2.out.2 HI2.out.closed).mono ?_
    rintro e w4 ⟨rfl, hb4⟩
    have HB4 : Hid (Below w.heap.size w w4) := HB2.out.trans (hb4.mono HB2.out.size)
    clear hb4 m0 m1 m2 mnow
    go_wp2_with fail
    refine (works_any _).mono ?_
    rintro e w5 ⟨rfl, hb5⟩
    have HB5 : Hid (Below w.heap.size w w5) := HB4.out.trans (hb5.mono HB4.out.size)
    clear hb5
    go_wp2_with fail
    go_ret
    exact ⟨rfl, HB5.out⟩

end Go.Proofs.Ytlcpadonjbaaeaa
