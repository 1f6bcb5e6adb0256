/- The walk of the law InviteclientAlone. -/
import Derived.Test.YtlcpadonjbaaeaaPlay
import Derived.Test.YtlcpadonjbaaeaaAloneP
import Derived.Test.YtlcpadonjbaaeaaW8
namespace Go.Proofs.Ytlcpadonjbaaeaa
open Go.RowKit

theorem ok_alone (t : Int) (h : t ≤ 100000) : OkS 1700 (untilS 200 startS t) := (startS_ok.until 200 (t := t) (by omega)).more (by omega)

set_option maxRecDepth 100000 in
set_option maxHeartbeats 4000000 in
theorem alone_any (t : Int) (w : World) (ht : 0 ≤ t ∧ t ≤ 65535) : Calls Try.prog 3 #[.int .u16 t] w fun e w' => e = .returned (.bool true) ∧ Below w.heap.size w w' := by
  obtain ⟨t0, t1⟩ := ht
  have hok := ok_alone t (by omega)
  have HI : Hid (Inv (untilS 200 startS t)) := alone_inv t0
  have HOK : Hid (OkS 1700 (untilS 200 startS t)) := hok
  have HL : Hid ((untilS 200 startS t).due.length = 14 ∧ (untilS 200 startS t).log.length ≤ 1000000000) := ⟨hok.1, by have := hok.2.2.2.2; omega⟩
  have HB : Hid (t < 32000 → _) := fun h => alone_before t0 h
  have HE : Hid (32000 ≤ t → _) := fun h => alone_behind h
  clear hok
  go_enter Try.func3, Try.ntmps3
  go_wp2_with fail
  refine (start_sim (B := w.heap.size) _ (Nat.le_refl _)).mono ?_
  rintro e w1 ⟨g, rfl, hs1, hb1⟩
  have HB1 : Hid (Below w.heap.size w w1) := hb1
  clear hb1
  go_wp2_with fail
  refine (until_any (N := 9) (B := w.heap.size) (s := startS) t _ hs1 startS_ok (by omega) ⟨by omega, by omega⟩).mono ?_
  rintro e w2 ⟨rfl, hs2, hb2⟩
  have HS2 : Hid (SimAt w2 w.heap.size g (untilS 200 startS t)) := hs2
  have HB2 : Hid (Below w.heap.size w w2) := HB1.out.trans hb2
  obtain ⟨⟨m0, m1, m2⟩, mnow, q2⟩ := hs2.mcells HL.out.1
  generalize untilS 200 startS t = s at *
  clear hs1 hs2 hb2 mnow
  by_cases h32 : t < 32000
  · have HC := HB.out h32
    have HC' : Hid _ := HC
    clear HC
    rw [HC'.out.2.2.1] at m0
    go_wp2_with fail
    refine (count_any (s := s) 1 t 0 0 _ HS2.out HL.out.1 HL.out.2).mono ?_
    rw [HC'.out.1]
    rintro e w' ⟨rfl, rfl⟩
    go_wp2_with fail
    refine (copies_any t _).mono ?_
    rintro e w' ⟨rfl, rfl⟩
    go_wp2_with fail
    refine (count_any (s := s) 3 t 0 1000 _ HS2.out HL.out.1 HL.out.2).mono ?_
    rw [HC'.out.2.1]
    rintro e w' ⟨rfl, rfl⟩
    go_wp2_with fail
    refine (count_any (s := s) 5 t 0 0 _ HS2.out HL.out.1 HL.out.2).mono ?_
    rw [HC'.out.2.2.2]
    rintro e w' ⟨rfl, rfl⟩
    go_wp2_with fail
    refine (works_any _).mono ?_
    rintro e w5 ⟨rfl, hb5⟩
    have HB5 : Hid (Below w.heap.size w w5) := HB2.out.trans (hb5.mono HB2.out.size)
    clear hb5
    go_wp2_with fail
    go_ret
    exact ⟨rfl, HB5.out⟩
  · have HC := HE.out (by omega)
    have HC' : Hid _ := HC
    clear HC
    rw [HC'.out.2.2.1] at m0 m1 m2
    have he := fun W => (run_eql_mc (7, 0, 0) (7, 0, 0) W).trans (by rw [decide_eq_true rfl] : _ = .ok (.bool true) W)
    go_wp2_with fail
    refine (count_any (s := s) 1 t 0 0 _ HS2.out HL.out.1 HL.out.2).mono ?_
    rw [HC'.out.1]
    rintro e w' ⟨rfl, rfl⟩
    go_wp2_with fail
    refine (copies_any t _).mono ?_
    rintro e w' ⟨rfl, rfl⟩
    go_wp2_with fail
    refine (count_any (s := s) 3 t 0 1000 _ HS2.out HL.out.1 HL.out.2).mono ?_
    rw [HC'.out.2.1]
    rintro e w' ⟨rfl, rfl⟩
    go_wp2_with fail
    refine (count_any (s := s) 5 31999 0 0 _ HS2.out HL.out.1 HL.out.2).mono ?_
    rw [HC'.out.2.2.2.1]
    rintro e w' ⟨rfl, rfl⟩
    go_wp2_with fail
    refine (count_any (s := s) 5 32000 0 0 _ HS2.out HL.out.1 HL.out.2).mono ?_
    rw [HC'.out.2.2.2.2.1]
    rintro e w' ⟨rfl, rfl⟩
    go_wp2_with fail
    refine (count_any (s := s) 7 32000 0 0 _ HS2.out HL.out.1 HL.out.2).mono ?_
    rw [HC'.out.2.2.2.2.2]
    rintro e w' ⟨rfl, rfl⟩
    go_wp2_with fail
    refine (closed_any (s := s) _ HS2.out HL.out.1 HL.out.2 HI.out.closed).mono ?_
    rintro e w4 ⟨rfl, hb4⟩
    have HB4 : Hid (Below w.heap.size w w4) := HB2.out.trans (hb4.mono HB2.out.size)
    clear hb4 m0 m1 m2
    go_wp2_with fail
    refine (works_any _).mono ?_
    rintro e w5 ⟨rfl, hb5⟩
    have HB5 : Hid (Below w.heap.size w w5) := HB4.out.trans (hb5.mono HB4.out.size)
    clear hb5
    go_wp2_with fail
    go_ret
    exact ⟨rfl, HB5.out⟩

end Go.Proofs.Ytlcpadonjbaaeaa
