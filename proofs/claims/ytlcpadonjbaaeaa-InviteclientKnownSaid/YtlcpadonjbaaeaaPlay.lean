/- The walk of play: events happen. -/
import Derived.Test.YtlcpadonjbaaeaaCount
import Derived.StillTailTactics
import Derived.IntWalk
namespace Go.Proofs.Ytlcpadonjbaaeaa
open Go.RowKit

/-- The three cells of an event. -/
def evcells (e : Ev) : List Value := [.int .u16 e.1, .int .u8 e.2.1, .int .i64 e.2.2]
theorem evcells_len (e : Ev) : (evcells e).length = 3 := rfl
theorem ev_at {w : World} {B : Nat} {A : Option Addr} {l : List Ev} (h : Rd w B A (l.flatMap evcells)) {k : Nat} (hk : k < l.length) :
    ∃ b off e, A = some ⟨b, off, none⟩ ∧ b < B ∧ l[k]? = some e ∧ w.cell? ⟨b, off + k * 3, none⟩ = some (.int .u16 e.1) ∧ w.cell? ⟨b, off + k * 3 + 1, none⟩ = some (.int .u8 e.2.1) ∧ w.cell? ⟨b, off + k * 3 + 2, none⟩ = some (.int .i64 e.2.2) := by
  rcases h with h | ⟨b, off, hA, hb, hc⟩
  · have := flat_len evcells 3 evcells_len l
    rw [h] at this
    simp at this
    omega
  · have he : l[k]? = some l[k] := List.getElem?_eq_getElem hk
    have g (j : Nat) (hj : j < 3) : (l.flatMap evcells)[k * 3 + j]? = (evcells l[k])[j]? := by
      rw [flat_get evcells 3 evcells_len l k j hj, he]; rfl
    exact ⟨b, off, l[k], hA, hb, he, hc (k * 3) _ (g 0 (by omega)), hc (k * 3 + 1) _ (g 1 (by omega)), hc (k * 3 + 2) _ (g 2 (by omega))⟩

theorem ok_play {l : List Ev} (hl : ∀ e ∈ l, goodE e) (k : Nat) : OkS (9 + k * 1700) ((l.take k).foldl evS startS) := by
  induction k with
  | zero => exact startS_ok
  | succ k ih =>
    rw [List.take_add_one, List.foldl_append]
    cases he : l[k]? with
    | none => exact ih.more (by omega)
    | some e => exact (ih.ev (hl e (List.mem_of_getElem? he))).more (by omega)

set_option maxRecDepth 100000 in
set_option maxHeartbeats 2000000 in
theorem play_any {B : Nat} (A : Option Addr) (c : Nat) (l : List Ev) (w : World) (hB : B ≤ w.heap.size) (hc : l.length ≤ 9223372036854775807) (hl : ∀ e ∈ l, goodE e) (h : Rd w B A (l.flatMap evcells)) :
    Calls Try.prog 20 #[.slice A l.length c] w fun e w' => ∃ g, e = .returned (.pointer (some ⟨g, 0, none⟩)) ∧ SimAt w' B g (playS l) ∧ Below B w w' := by
  have HB : Hid (B ≤ w.heap.size) := hB
  have HL : Hid (∀ e ∈ l, goodE e) := hl
  have HR : Hid (Rd w B A (l.flatMap evcells)) := h
  clear hB hl h
  go_enter Try.func20, Try.ntmps20
  go_wp2_with fail
  refine (start_sim (B := B) _ HB.out).mono ?_
  rintro e w1 ⟨g, rfl, hs1, hb1⟩
  have HS1 : Hid (SimAt w1 B g startS) := hs1
  have HB1 : Hid (Below B w w1) := hb1
  clear hs1 hb1
  go_wp2_with fail
  go_loopw [4] (fun i wr => ∃ k : Nat, k ≤ l.length ∧ k ≤ 40 ∧ i = .int .i64 k ∧ SimAt wr B g ((l.take k).foldl evS startS) ∧ Below B w wr) (fun i _ => 40 - (intOf i).toNat)
  case atStart => exact ⟨0, by omega, by omega, rfl, HS1.out, HB1.out⟩
  case round =>
    obtain ⟨k, hk, hk40, rfl, hs, hb⟩ := hrel
    have HS : Hid (SimAt wr B g ((l.take k).foldl evS startS)) := hs
    have HBr : Hid (Below B w wr) := hb
    clear hs hb
    by_cases hlt : k < l.length
    · have hki : (k : Int) < (l.length : Int) := by omega
      by_cases h40 : k < 40
      · have hki4 : (k : Int) < 40 := by omega
        obtain ⟨b, off, e, rfl, hbB, hje, e0, e1, e2⟩ := ev_at (HR.out.below HBr.out) hlt
        obtain ⟨⟨w0, w1'⟩, -, -⟩ := HL.out e (List.mem_of_getElem? hje)
        have hok := ok_play HL.out k
        have HF : Hid ((l.take (k + 1)).foldl evS startS = evS ((l.take k).foldl evS startS) e) := by
          show (l.take (k + 1)).foldl evS startS = _
          rw [List.take_add_one, hje, List.foldl_append]; rfl
        obtain ⟨s, hs⟩ : ∃ s, s = (l.take k).foldl evS startS := ⟨_, rfl⟩
        rw [← hs] at HS hok HF
        have HOK : Hid (OkS (9 + k * 1700) s) := hok
        obtain ⟨v, hv⟩ := HS.out
        obtain ⟨-, mnow, -, -, -⟩ := hv.cells hok.1
        have q0 : g < wr.heap.size := hv.lt
        have q1 : b < wr.heap.size := by have := hv.1; omega
        have n0 := hok.2.2.1
        have n1 := hok.2.2.2.1
        have n2 : s.now ≤ 100000000000 := by omega
        have HT : Hid (s.now + e.1 ≤ ((9 + k * 1700 + 1 : Nat) : Int) * 100000) := by show s.now + e.1 ≤ _; omega
        have HJ : Hid (l[k]? = some e) := hje
        clear hs hok hv hje n1
        go_wp2_with fail
        go_still_tail 12, (by kernel_rfl)
        go_wp2_with fail
        refine (until_any (N := 9 + k * 1700 + 1) (B := B) (s := s) (s.now + e.1) _ (HS.out.below (below_drewN (Below.refl _ _) 1)) (HOK.out.more (by omega)) (by omega) ⟨by omega, HT.out⟩).mono ?_
        rintro e' w3 ⟨rfl, hs3, hb3⟩
        have HS3 : Hid (SimAt w3 B g (untilS 200 s (s.now + e.1))) := hs3
        have HB3 : Hid (Below B w w3) := HBr.out.trans ((below_drewN (Below.refl _ _) 1).trans hb3)
        have HOK3 : Hid (OkS (9 + k * 1700 + 1 + 1600) (untilS 200 s (s.now + e.1))) := (HOK.out.more (show 9 + k * 1700 ≤ 9 + k * 1700 + 1 by omega)).until 200 HT.out
        obtain ⟨b', off', e2', he, -, hje, e0, e1, e2⟩ := ev_at (HR.out.below HB3.out) hlt
        cases he
        have : e2' = e := by rw [HJ.out] at hje; exact (Option.some.inj hje).symm
        subst this
        have q1 : b < w3.heap.size := by have := hb3.size; simp at this; omega
        clear hs3 hb3 hje
        go_wp2_with fail
        go_still_tail 12, (by kernel_rfl)
        go_wp2_with fail
        refine (give_any (N := 9 + k * 1700 + 1 + 1600) (B := B) (e2'.2.1, e2'.2.2, 0) _ (HS3.out.below (below_drewN (Below.refl _ _) 1)) HOK3.out (by omega)).mono ?_
        rintro e' w4 ⟨rfl, hs4, hb4⟩
        have HS4 : Hid (SimAt w4 B g (evS s e2')) := hs4
        have HB4 : Hid (Below B w w4) := HB3.out.trans ((below_drewN (Below.refl _ _) 1).trans hb4)
        clear hs4 hb4 e0 e1 e2
        go_wp2_with fail
        go_roundw
        case rel => exact ⟨k + 1, by omega, by omega, by go_num, by rw [HF.out]; exact HS4.out, HB4.out⟩
        case measure => simp [intOf]; omega
      · have hki4 : ¬ (k : Int) < 40 := by omega
        have HE : Hid (playS l = (l.take k).foldl evS startS) := by
          show playS l = _
          rw [show k = 40 by omega]; rfl
        go_wp2_with fail
        go_ret
        exact ⟨g, rfl, by rw [HE.out]; exact HS.out, HBr.out⟩
    · have hki : ¬ (k : Int) < (l.length : Int) := by omega
      have HE : Hid (playS l = (l.take k).foldl evS startS) := by
        show playS l = _
        rw [show k = l.length by omega, List.take_length, playS, List.take_of_length_le (by omega)]
      go_wp2_with fail
      go_ret
      exact ⟨g, rfl, by rw [HE.out]; exact HS.out, HBr.out⟩

end Go.Proofs.Ytlcpadonjbaaeaa
