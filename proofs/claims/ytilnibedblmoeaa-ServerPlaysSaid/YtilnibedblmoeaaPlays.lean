/- The walk of the law ServerPlays. -/
import Derived.Test.YtilnibedblmoeaaPlay
import Derived.Test.YtilnibedblmoeaaInv2
import Derived.Test.YtilnibedblmoeaaW8
namespace Go.Proofs.Ytilnibedblmoeaa
open Go.RowKit

set_option maxRecDepth 100000 in
set_option maxHeartbeats 2000000 in
theorem plays_any (A : Option Addr) (c : Nat) (l : List Ev) (w : World) (hc : l.length ≤ 9223372036854775807) (hl : ∀ e ∈ l, goodE e) (h : Rd w w.heap.size A (l.flatMap evcells)) :
    Calls Try.prog 7 #[.slice A l.length c] w fun e w' => e = .returned (.bool true) ∧ Below w.heap.size w w' := by
  have HR : Hid (Rd w w.heap.size A (l.flatMap evcells)) := h
  have HG : Hid (∀ e ∈ l, goodE e) := hl
  have hok := ok_play hl 40
  have hinv : Inv (playS l) := Inv.play l (fun e he => (hl e he).1.1) 40
  have HOK : Hid (OkS (9 + 40 * 1700) (playS l)) := hok
  have HI : Hid (Inv (playS l)) := hinv
  have n0 : 0 ≤ (playS l).now := HOK.out.2.2.1
  have n1 : (playS l).now ≤ 6800900000 := by have := HOK.out.2.2.2.1; omega
  clear hl h hok hinv
  go_enter Try.func7, Try.ntmps7
  go_wp2_with fail
  refine (play_any (B := w.heap.size) A c l _ (Nat.le_refl _) hc HG.out HR.out).mono ?_
  rintro e w1 ⟨g, rfl, hs1, hb1⟩
  have HS1 : Hid (SimAt w1 w.heap.size g (playS l)) := hs1
  have HB1 : Hid (Below w.heap.size w w1) := hb1
  obtain ⟨v, hv⟩ := hs1
  obtain ⟨-, mnow, -, -, -⟩ := hv.cells HOK.out.1
  have q0 : g < w1.heap.size := hv.lt
  clear hv hb1
  generalize playS l = s at *
  go_wp2_with fail
  refine (until_any (N := 68010) (B := w.heap.size) (s := s) (s.now + 32000) _ HS1.out (HOK.out.more (by omega)) (by omega) ⟨by omega, by omega⟩).mono ?_
  rintro e w2 ⟨rfl, hs2, hb2⟩
  have hok2 : OkS (68010 + 200 * 8) (untilS 200 s (s.now + 32000)) := (HOK.out.more (show 9 + 40 * 1700 ≤ 68010 by omega)).until 200 (by omega)
  have hinv2 : Inv (untilS 200 s (s.now + 32000)) := HI.out.until 198 (by omega)
  have h5 : (untilS 200 s (s.now + 32000)).m.1 ≠ 5 := HI.out.late 198
  generalize untilS 200 s (s.now + 32000) = s2 at hs2 hok2 hinv2 h5
  have HS2 : Hid (SimAt w2 w.heap.size g s2) := hs2
  have HB2 : Hid (Below w.heap.size w w2) := HB1.out.trans hb2
  have HI2 : Hid (Inv s2) := hinv2
  have HL2 : Hid (s2.due.length = 14 ∧ s2.log.length ≤ 1000000000) := ⟨hok2.1, by have := hok2.2.2.2.2; omega⟩
  have d5 : (s2.m.1 != 5) = true := by simpa using h5
  obtain ⟨v2, hv2⟩ := hs2
  obtain ⟨⟨m0, m1, m2⟩, mnow2, -, -, -⟩ := hv2.cells hok2.1
  have q2 : g < w2.heap.size := hv2.lt
  clear hv2 hok2 hinv2 h5 hb2 n0 n1 q0 mnow
  go_wp2_with fail
  refine (may_any s2.m _).mono ?_
  rw [HI2.out.may]
  rintro e w3 ⟨rfl, hb3⟩
  have HS3 : Hid (SimAt w3 w.heap.size g s2) := HS2.out.below hb3
  have HB3 : Hid (Below w.heap.size w w3) := HB2.out.trans (hb3.mono HB2.out.size)
  obtain ⟨v3, hv3⟩ := HS3.out
  have q3 : g < w3.heap.size := hv3.lt
  clear m0 m1 m2 mnow2
  obtain ⟨⟨m0, m1, m2⟩, mnow, -, -, -⟩ := hv3.cells HL2.out.1
  clear hv3 hb3
  go_wp2_with fail
  refine (count_any (s := s2) 3 s2.now 0 1000 _ HS3.out HL2.out.1 HL2.out.2).mono ?_
  rw [HI2.out.user]
  rintro e w' ⟨rfl, rfl⟩
  go_wp2_with fail
  refine (closed_any (s := s2) _ HS3.out HL2.out.1 HL2.out.2 HI2.out.closed).mono ?_
  rintro e w4 ⟨rfl, hb4⟩
  have HB4 : Hid (Below w.heap.size w w4) := HB3.out.trans (hb4.mono HB3.out.size)
  clear m0 m1 m2 mnow hb4
  go_wp2_with fail
  refine (works_any _).mono ?_
  rintro e w5 ⟨rfl, hb5⟩
  have HB5 : Hid (Below w.heap.size w w5) := HB4.out.trans (hb5.mono HB4.out.size)
  clear hb5
  go_wp2_with fail
  go_ret
  exact ⟨rfl, HB5.out⟩

end Go.Proofs.Ytilnibedblmoeaa
