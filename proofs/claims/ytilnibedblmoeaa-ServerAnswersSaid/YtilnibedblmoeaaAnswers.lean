/- The walk of the law ServerAnswers. -/
import Derived.Test.YtilnibedblmoeaaPlay
import Derived.Test.YtilnibedblmoeaaAnsP
import Derived.Test.YtilnibedblmoeaaW8
namespace Go.Proofs.Ytilnibedblmoeaa
open Go.RowKit

theorem slice42_from {A : Option Addr} {n c k m : Nat} (hk : k + m = n) (hn : n ≤ c) : ∃ (A2 : Option Addr) (c2 : Nat),
    (∀ W : World, (Instr.slice 42 (.slice A n c) (some (.int .i64 (k : Int))) none none).run Try.prog W = .ok (.slice A2 m c2) W) ∧
    (∀ b, A = some ⟨b, 0, none⟩ → k < n → A2 = some ⟨b, k * 5, none⟩) := by
  refine ⟨if c = k then A else A.map (·.add (k * 5)), c - k, fun W => ?_, fun b hb hlt => ?_⟩
  · have hk' : (k : Int) ≤ n := by omega
    have : n - k = m := by omega
    simp [go_sem, hk', this]
  · subst hb
    rw [if_neg (by omega)]
    simp only [Option.map_some, Addr.add]
    split
    · rename_i h0; rw [h0]
    · rw [Nat.zero_add]

theorem kinds_0 (w : World) : (Instr.index 48 (.agg #[.int .u8 1, .int .u8 4]) (.int .u8 0)).run Try.prog w = .ok (.int .u8 1) w := by kernel_rfl
theorem kinds_1 (w : World) : (Instr.index 48 (.agg #[.int .u8 1, .int .u8 4]) (.int .u8 1)).run Try.prog w = .ok (.int .u8 4) w := by kernel_rfl

theorem giveS_now (s : Sim) (i : In) : (giveS s i).now = s.now := by
  have : ∀ (l : List Out) (s : Sim), (l.foldl putS s).now = s.now := by
    intro l
    induction l with
    | nil => exact fun _ => rfl
    | cons o l ih => exact fun s => (ih _).trans rfl
  exact this _ _
theorem code_in (x : Int) : 100 ≤ wrap64 (100 + wrap64 ((IntKind.u64.wrap x).tmod 600)) ∧ wrap64 (100 + wrap64 ((IntKind.u64.wrap x).tmod 600)) ≤ 699 := by
  have h0 : 0 ≤ IntKind.u64.wrap x := by rw [IntKind.wrap_u64]; omega
  rw [IntWalk.rem_in _ _ h0]
  unfold wrap64
  omega

set_option maxRecDepth 100000 in
set_option maxHeartbeats 16000000 in
theorem answers_any (A : Option Addr) (c : Nat) (l : List Ev) (w : World) (hc : l.length ≤ 9223372036854775807) (hl : ∀ e ∈ l, goodE e) (h : Rd w w.heap.size A (l.flatMap evcells)) :
    Calls Try.prog 5 #[.slice A l.length c] w fun e w' => e = .returned (.bool true) ∧ Below w.heap.size w w' := by
  have HL : Hid (∀ e ∈ l, goodE e) := hl
  have HR : Hid (Rd w w.heap.size A (l.flatMap evcells)) := h
  clear hl h
  go_enter Try.func5, Try.ntmps5
  go_wp2_with fail
  refine (start_sim (B := w.heap.size) _ (Nat.le_refl _)).mono ?_
  rintro e w1 ⟨g, rfl, hs1, hb1⟩
  have HS1 : Hid (SimAt w1 w.heap.size g startS) := hs1
  have HB1 : Hid (Below w.heap.size w w1) := hb1
  clear hs1 hb1
  go_wp2_with fail
  go_loopw [4, 5, 6] (fun la ov i wr => ∃ (k : Nat) (last over : Int) (s : Sim), k ≤ l.length ∧ k ≤ 40 ∧ i = .int .i64 k ∧ la = .int .i64 last ∧ ov = .int .i64 over ∧ SimAt wr w.heap.size g s ∧ OkS (9 + k * 1700) s ∧ InvA s last over ∧ Below w.heap.size w wr) (fun _ _ i _ => 40 - (intOf i).toNat)
  case atStart => exact ⟨0, 0, -1, startS, by omega, by omega, rfl, rfl, rfl, HS1.out, startS_ok, invA_start, HB1.out⟩
  case round =>
    obtain ⟨k, last, over, s, hk, hk40, rfl, rfl, rfl, hs, hok, hinv, hb⟩ := hrel
    have HS : Hid (SimAt wr w.heap.size g s) := hs
    have HBr : Hid (Below w.heap.size w wr) := hb
    have HOK : Hid (OkS (9 + k * 1700) s) := hok
    have HI : Hid (InvA s last over) := hinv
    clear hs hb hinv
    by_cases hlt : k < l.length
    · have hki : (k : Int) < (l.length : Int) := by omega
      by_cases h40 : k < 40
      · have hki4 : (k : Int) < 40 := by omega
        obtain ⟨b, off, e, rfl, hbB, hje, e0, e1, e2⟩ := ev_at (HR.out.below HBr.out) hlt
        obtain ⟨⟨w0, w1'⟩, ⟨w2, w3⟩, -⟩ := HL.out e (List.mem_of_getElem? hje)
        obtain ⟨v, hv⟩ := HS.out
        obtain ⟨-, mnow, -, -, -⟩ := hv.cells hok.1
        have q0 : g < wr.heap.size := hv.lt
        have q1 : b < wr.heap.size := by have := hv.1; omega
        have n0 := hok.2.2.1
        have n1 := hok.2.2.2.1
        have n2 : s.now ≤ 100000000000 := by omega
        have HT : Hid (s.now + e.1 ≤ ((9 + k * 1700 + 1 : Nat) : Int) * 100000) := by show s.now + e.1 ≤ _; omega
        have HJ : Hid (l[k]? = some e) := hje
        clear hok hv hje n1
        go_wp2_with fail
        go_still_tail 12, (by kernel_rfl)
        go_wp2_with fail
        refine (until_any (N := 9 + k * 1700 + 1) (B := w.heap.size) (s := s) (s.now + e.1) _ (HS.out.below (below_drewN (Below.refl _ _) 1)) (HOK.out.more (by omega)) (by omega) ⟨by omega, HT.out⟩).mono ?_
        rintro e' w4 ⟨rfl, hs3, hb3⟩
        have HS3 : Hid (SimAt w4 w.heap.size g (untilS 200 s (s.now + e.1))) := hs3
        have HB3 : Hid (Below w.heap.size w w4) := HBr.out.trans ((below_drewN (Below.refl _ _) 1).trans hb3)
        have HOK3 : Hid (OkS (9 + k * 1700 + 1 + 1600) (untilS 200 s (s.now + e.1))) := (HOK.out.more (show 9 + k * 1700 ≤ 9 + k * 1700 + 1 by omega)).until 200 HT.out
        have HI3 : Hid (InvA (untilS 200 s (s.now + e.1)) last over) := HI.out.until (by omega)
        obtain ⟨b', off', e2', he, -, hje, e0, e1, e2⟩ := ev_at (HR.out.below HB3.out) hlt
        cases he
        have : e2' = e := by rw [HJ.out] at hje; exact (Option.some.inj hje).symm
        subst this
        have q1 : b < w4.heap.size := by have := hb3.size; simp at this; omega
        clear hs3 hb3 hje mnow HI HS HOK HT n0 n2
        generalize untilS 200 s (s.now + e2'.1) = s1 at HS3 HOK3 HI3
        obtain ⟨v3, hv3⟩ := HS3.out
        obtain ⟨-, mnow, mlog, -, -⟩ := hv3.cells HOK3.out.1
        obtain ⟨A3, c3, rfl, -⟩ := hv3.log_slice
        have q3 : g < w4.heap.size := hv3.lt
        have n0 := HOK3.out.2.2.1
        have n2 : s1.now ≤ 100000000000 := by have := HOK3.out.2.2.2.1; omega
        have n3 : s1.log.length ≤ 1000000000 := by have := HOK3.out.2.2.2.2; omega
        clear hv3 HBr
        rcases HI3.out.cases with ⟨ho, h7, hla⟩ | ⟨ho, h7, hla⟩ | ⟨ho, ho2, h7, hla⟩ | ⟨ho, ho2, h7, hla⟩
        · subst ho hla
          rcases (show e2'.2.1 % 2 = 0 ∨ e2'.2.1 % 2 = 1 by omega) with hp | hp
          · have hk0 := kinds_0
            obtain ⟨n, hn⟩ : ∃ n, n = s1.log.length := ⟨_, rfl⟩
            rw [← hn] at mlog n3
            have HN : Hid (n = s1.log.length) := hn
            clear hn
            go_wp2_with fail
            have hcd := code_in e2'.2.2
            generalize wrap64 (100 + wrap64 ((IntKind.u64.wrap e2'.2.2).tmod 600)) = cd at hcd ⊢
            obtain ⟨hcd1, hcd2⟩ := hcd
            obtain ⟨hput, hinv5⟩ : PutA s1 (giveS s1 (1, cd, 0)) [] ∧ InvA (giveS s1 (1, cd, 0)) 0 (-1) := HI3.out.again_no (.inl rfl) cd
            refine (give_any (N := 9 + k * 1700 + 1 + 1600) (B := w.heap.size) (s := s1) (1, cd, 0) _ HS3.out HOK3.out (by omega)).mono ?_
            rintro e' w5 ⟨rfl, hs5, hb5⟩
            have hok5 : OkS (9 + (k + 1) * 1700) (giveS s1 (1, cd, 0)) := (HOK3.out.give _).more (by omega)
            have hnow5 := giveS_now s1 (1, cd, 0)
            generalize giveS s1 (1, cd, 0) = s2 at *
            have HS5 : Hid (SimAt w5 w.heap.size g s2) := hs5
            have HB5 : Hid (Below w.heap.size w w5) := HB3.out.trans hb5
            have HOK5 : Hid (OkS (9 + (k + 1) * 1700) s2) := hok5
            have HI5 : Hid (InvA s2 0 (-1)) := hinv5
            obtain ⟨v5, hv5⟩ := hs5
            clear mnow mlog e0 e1 e2 q1 q3
            obtain ⟨⟨m0, m1, m2⟩, mnow, mlog, -, -⟩ := hv5.cells hok5.1
            rw [hnow5] at mnow
            have HMay : Hid (mayS (s2.m.1, s2.m.2.1, 0) = true) := by
              have := hinv5.inv.may
              rw [← hinv5.last]
              exact this
            rw [hinv5.last] at m2
            have q5 : g < w5.heap.size := hv5.lt
            obtain ⟨A5, c5, rfl, hc5⟩ := hv5.log_slice
            have hlen : s2.log.length = n := by rw [hput, HN.out]; simp
            rw [hlen] at mlog hc5
            obtain ⟨A6, c6, hsl, -⟩ := slice42_from (A := A5) (n := n) (c := c5) (k := n) (m := 0) rfl hc5
            have h77 : (s2.m.1 == 7) = false := by
              have := hinv5.cases
              rw [hnow5] at this; simp; omega
            clear hput hinv5 hok5 hv5 hb5 hlen hc5 hnow5 HN
            go_wp2_with fail
            go_quiet (fail)
            go_wp2_with fail
            refine (may_any (s2.m.1, s2.m.2.1, 0) _).mono ?_
            rw [HMay.out]
            rintro e' w6 ⟨rfl, hb6⟩
            have HS6 : Hid (SimAt w6 w.heap.size g s2) := (HS5.out.below (below_drewN (Below.refl _ _) _)).below hb6
            have HB6 : Hid (Below w.heap.size w w6) := (below_drewN HB5.out _).trans (hb6.mono HB5.out.size)
            clear hb6 m0 m1 m2 mnow mlog
            go_wp2_with fail
            go_roundw
            case rel => exact ⟨k + 1, 0, (-1), s2, by omega, by omega, by go_num, rfl, rfl, HS6.out, HOK5.out, HI5.out, HB6.out⟩
            case measure => simp [intOf]; omega
          · have hk0 := kinds_1
            obtain ⟨n, hn⟩ : ∃ n, n = s1.log.length := ⟨_, rfl⟩
            rw [← hn] at mlog n3
            have HN : Hid (n = s1.log.length) := hn
            clear hn
            go_wp2_with fail
            have hcd := code_in e2'.2.2
            generalize wrap64 (100 + wrap64 ((IntKind.u64.wrap e2'.2.2).tmod 600)) = cd at hcd ⊢
            obtain ⟨hcd1, hcd2⟩ := hcd
            rcases (show cd < 200 ∨ 200 ≤ cd by omega) with hlo | hlo
            · obtain ⟨hput, hinv5⟩ : PutA s1 (giveS s1 (4, cd, 0)) [(1, cd, 0, 0)] ∧ InvA (giveS s1 (4, cd, 0)) cd (-1) := (HI3.out.answer hcd1 hcd2).1 hlo
              refine (give_any (N := 9 + k * 1700 + 1 + 1600) (B := w.heap.size) (s := s1) (4, cd, 0) _ HS3.out HOK3.out (by omega)).mono ?_
              rintro e' w5 ⟨rfl, hs5, hb5⟩
              have hok5 : OkS (9 + (k + 1) * 1700) (giveS s1 (4, cd, 0)) := (HOK3.out.give _).more (by omega)
              have hnow5 := giveS_now s1 (4, cd, 0)
              generalize giveS s1 (4, cd, 0) = s2 at *
              have HS5 : Hid (SimAt w5 w.heap.size g s2) := hs5
              have HB5 : Hid (Below w.heap.size w w5) := HB3.out.trans hb5
              have HOK5 : Hid (OkS (9 + (k + 1) * 1700) s2) := hok5
              have HI5 : Hid (InvA s2 cd (-1)) := hinv5
              obtain ⟨v5, hv5⟩ := hs5
              clear mnow mlog e0 e1 e2 q1 q3
              obtain ⟨⟨m0, m1, m2⟩, mnow, mlog, -, -⟩ := hv5.cells hok5.1
              rw [hnow5] at mnow
              have HMay : Hid (mayS (s2.m.1, s2.m.2.1, cd) = true) := by
                have := hinv5.inv.may
                rw [← hinv5.last]
                exact this
              rw [hinv5.last] at m2
              have q5 : g < w5.heap.size := hv5.lt
              have hlen : s2.log.length = n + 1 := by rw [hput, HN.out]; simp
              obtain ⟨b5, c5, e5, rfl, hj5, -, x1, x2, x3, x4⟩ := hv5.log_at (j := n) (by omega)
              obtain ⟨A5, c5', he5, hc5⟩ := hv5.log_slice
              cases he5
              have : e5 = (s1.now, (1, cd, 0, 0)) := by
                rw [hput, HN.out, List.getElem?_append_right (Nat.le_refl _), Nat.sub_self] at hj5
                exact (Option.some.inj hj5).symm
              subst this
              rw [hlen] at mlog hc5
              obtain ⟨A6, c6, hsl, hA6⟩ := slice42_from (A := some ⟨b5, 0, none⟩) (n := n + 1) (c := c5) (k := n) (m := 1) rfl hc5
              obtain rfl := hA6 b5 rfl (by omega)
              clear hA6 hj5
              have hne := fun W => (run_neq_out (1, cd, 0, 0) (1, cd, 0, 0) W).trans (by rw [decide_eq_true rfl]; try rfl : _ = .ok (.bool false) W)
              have q6 : b5 < w5.heap.size := World.block_lt_of_cell? w5 ⟨b5, n * 5 + 1, none⟩ x1
              have h77 : (s2.m.1 == 7) = false := by
                have := hinv5.cases
                rw [hnow5] at this; simp; omega
              clear hput hinv5 hok5 hv5 hb5 hlen hc5 hnow5 HN
              go_wp2_with fail
              go_quiet (fail)
              go_wp2_with fail
              refine (may_any (s2.m.1, s2.m.2.1, cd) _).mono ?_
              rw [HMay.out]
              rintro e' w6 ⟨rfl, hb6⟩
              have HS6 : Hid (SimAt w6 w.heap.size g s2) := (HS5.out.below (below_drewN (Below.refl _ _) _)).below hb6
              have HB6 : Hid (Below w.heap.size w w6) := (below_drewN HB5.out _).trans (hb6.mono HB5.out.size)
              clear hb6 m0 m1 m2 mnow mlog
              go_wp2_with fail
              go_roundw
              case rel => exact ⟨k + 1, cd, (-1), s2, by omega, by omega, by go_num, rfl, rfl, HS6.out, HOK5.out, HI5.out, HB6.out⟩
              case measure => simp [intOf]; omega
            · obtain ⟨hput, hinv5⟩ : PutA s1 (giveS s1 (4, cd, 0)) [(1, cd, 0, 0), (4, 0, 10, 32000)] ∧ InvA (giveS s1 (4, cd, 0)) cd (s1.now + 32000) := (HI3.out.answer hcd1 hcd2).2 hlo
              refine (give_any (N := 9 + k * 1700 + 1 + 1600) (B := w.heap.size) (s := s1) (4, cd, 0) _ HS3.out HOK3.out (by omega)).mono ?_
              rintro e' w5 ⟨rfl, hs5, hb5⟩
              have hok5 : OkS (9 + (k + 1) * 1700) (giveS s1 (4, cd, 0)) := (HOK3.out.give _).more (by omega)
              have hnow5 := giveS_now s1 (4, cd, 0)
              generalize giveS s1 (4, cd, 0) = s2 at *
              have HS5 : Hid (SimAt w5 w.heap.size g s2) := hs5
              have HB5 : Hid (Below w.heap.size w w5) := HB3.out.trans hb5
              have HOK5 : Hid (OkS (9 + (k + 1) * 1700) s2) := hok5
              have HI5 : Hid (InvA s2 cd (s1.now + 32000)) := hinv5
              obtain ⟨v5, hv5⟩ := hs5
              clear mnow mlog e0 e1 e2 q1 q3
              obtain ⟨⟨m0, m1, m2⟩, mnow, mlog, -, -⟩ := hv5.cells hok5.1
              rw [hnow5] at mnow
              have HMay : Hid (mayS (s2.m.1, s2.m.2.1, cd) = true) := by
                have := hinv5.inv.may
                rw [← hinv5.last]
                exact this
              rw [hinv5.last] at m2
              have q5 : g < w5.heap.size := hv5.lt
              have hlen : s2.log.length = n + 2 := by rw [hput, HN.out]; simp
              obtain ⟨b5, c5, e5, rfl, hj5, -, x1, x2, x3, x4⟩ := hv5.log_at (j := n) (by omega)
              obtain ⟨A5, c5', he5, hc5⟩ := hv5.log_slice
              cases he5
              have : e5 = (s1.now, (1, cd, 0, 0)) := by
                rw [hput, HN.out, List.getElem?_append_right (Nat.le_refl _), Nat.sub_self] at hj5
                exact (Option.some.inj hj5).symm
              subst this
              rw [hlen] at mlog hc5
              obtain ⟨A6, c6, hsl, hA6⟩ := slice42_from (A := some ⟨b5, 0, none⟩) (n := n + 2) (c := c5) (k := n) (m := 2) rfl hc5
              obtain rfl := hA6 b5 rfl (by omega)
              clear hA6 hj5
              have hne := fun W => (run_neq_out (1, cd, 0, 0) (1, cd, 0, 0) W).trans (by rw [decide_eq_true rfl]; try rfl : _ = .ok (.bool false) W)
              have q6 : b5 < w5.heap.size := World.block_lt_of_cell? w5 ⟨b5, n * 5 + 1, none⟩ x1
              have h77 : (s2.m.1 == 7) = false := by
                have := hinv5.cases
                rw [hnow5] at this; simp; omega
              clear hput hinv5 hok5 hv5 hb5 hlen hc5 hnow5 HN
              go_wp2_with fail
              go_quiet (fail)
              go_wp2_with fail
              refine (may_any (s2.m.1, s2.m.2.1, cd) _).mono ?_
              rw [HMay.out]
              rintro e' w6 ⟨rfl, hb6⟩
              have HS6 : Hid (SimAt w6 w.heap.size g s2) := (HS5.out.below (below_drewN (Below.refl _ _) _)).below hb6
              have HB6 : Hid (Below w.heap.size w w6) := (below_drewN HB5.out _).trans (hb6.mono HB5.out.size)
              clear hb6 m0 m1 m2 mnow mlog
              go_wp2_with fail
              go_roundw
              case rel => exact ⟨k + 1, cd, (s1.now + 32000), s2, by omega, by omega, by go_num, rfl, rfl, HS6.out, HOK5.out, HI5.out, HB6.out⟩
              case measure => simp [intOf]; omega
        · subst ho
          have f0 : (last == 0) = false := by simp; omega
          have f1 : (last != 0) = true := by simp; omega
          rcases (show e2'.2.1 % 2 = 0 ∨ e2'.2.1 % 2 = 1 by omega) with hp | hp
          · have hk0 := kinds_0
            obtain ⟨n, hn⟩ : ∃ n, n = s1.log.length := ⟨_, rfl⟩
            rw [← hn] at mlog n3
            have HN : Hid (n = s1.log.length) := hn
            clear hn
            go_wp2_with fail
            have hcd := code_in e2'.2.2
            generalize wrap64 (100 + wrap64 ((IntKind.u64.wrap e2'.2.2).tmod 600)) = cd at hcd ⊢
            obtain ⟨hcd1, hcd2⟩ := hcd
            obtain ⟨hput, hinv5⟩ : PutA s1 (giveS s1 (1, cd, 0)) [(1, last, 0, 0)] ∧ InvA (giveS s1 (1, cd, 0)) last (-1) := HI3.out.again hla (.inl rfl) cd
            refine (give_any (N := 9 + k * 1700 + 1 + 1600) (B := w.heap.size) (s := s1) (1, cd, 0) _ HS3.out HOK3.out (by omega)).mono ?_
            rintro e' w5 ⟨rfl, hs5, hb5⟩
            have hok5 : OkS (9 + (k + 1) * 1700) (giveS s1 (1, cd, 0)) := (HOK3.out.give _).more (by omega)
            have hnow5 := giveS_now s1 (1, cd, 0)
            generalize giveS s1 (1, cd, 0) = s2 at *
            have HS5 : Hid (SimAt w5 w.heap.size g s2) := hs5
            have HB5 : Hid (Below w.heap.size w w5) := HB3.out.trans hb5
            have HOK5 : Hid (OkS (9 + (k + 1) * 1700) s2) := hok5
            have HI5 : Hid (InvA s2 last (-1)) := hinv5
            obtain ⟨v5, hv5⟩ := hs5
            clear mnow mlog e0 e1 e2 q1 q3
            obtain ⟨⟨m0, m1, m2⟩, mnow, mlog, -, -⟩ := hv5.cells hok5.1
            rw [hnow5] at mnow
            have HMay : Hid (mayS (s2.m.1, s2.m.2.1, last) = true) := by
              have := hinv5.inv.may
              rw [← hinv5.last]
              exact this
            rw [hinv5.last] at m2
            have q5 : g < w5.heap.size := hv5.lt
            have hlen : s2.log.length = n + 1 := by rw [hput, HN.out]; simp
            obtain ⟨b5, c5, e5, rfl, hj5, -, x1, x2, x3, x4⟩ := hv5.log_at (j := n) (by omega)
            obtain ⟨A5, c5', he5, hc5⟩ := hv5.log_slice
            cases he5
            have : e5 = (s1.now, (1, last, 0, 0)) := by
              rw [hput, HN.out, List.getElem?_append_right (Nat.le_refl _), Nat.sub_self] at hj5
              exact (Option.some.inj hj5).symm
            subst this
            rw [hlen] at mlog hc5
            obtain ⟨A6, c6, hsl, hA6⟩ := slice42_from (A := some ⟨b5, 0, none⟩) (n := n + 1) (c := c5) (k := n) (m := 1) rfl hc5
            obtain rfl := hA6 b5 rfl (by omega)
            clear hA6 hj5
            have hne := fun W => (run_neq_out (1, last, 0, 0) (1, last, 0, 0) W).trans (by rw [decide_eq_true rfl]; try rfl : _ = .ok (.bool false) W)
            have q6 : b5 < w5.heap.size := World.block_lt_of_cell? w5 ⟨b5, n * 5 + 1, none⟩ x1
            have h77 : (s2.m.1 == 7) = false := by
              have := hinv5.cases
              rw [hnow5] at this; simp; omega
            clear hput hinv5 hok5 hv5 hb5 hlen hc5 hnow5 HN
            go_wp2_with fail
            go_quiet (fail)
            go_wp2_with fail
            refine (may_any (s2.m.1, s2.m.2.1, last) _).mono ?_
            rw [HMay.out]
            rintro e' w6 ⟨rfl, hb6⟩
            have HS6 : Hid (SimAt w6 w.heap.size g s2) := (HS5.out.below (below_drewN (Below.refl _ _) _)).below hb6
            have HB6 : Hid (Below w.heap.size w w6) := (below_drewN HB5.out _).trans (hb6.mono HB5.out.size)
            clear hb6 m0 m1 m2 mnow mlog
            go_wp2_with fail
            go_roundw
            case rel => exact ⟨k + 1, last, (-1), s2, by omega, by omega, by go_num, rfl, rfl, HS6.out, HOK5.out, HI5.out, HB6.out⟩
            case measure => simp [intOf]; omega
          · have hk0 := kinds_1
            obtain ⟨n, hn⟩ : ∃ n, n = s1.log.length := ⟨_, rfl⟩
            rw [← hn] at mlog n3
            have HN : Hid (n = s1.log.length) := hn
            clear hn
            go_wp2_with fail
            have hcd := code_in e2'.2.2
            generalize wrap64 (100 + wrap64 ((IntKind.u64.wrap e2'.2.2).tmod 600)) = cd at hcd ⊢
            obtain ⟨hcd1, hcd2⟩ := hcd
            rcases (show cd < 200 ∨ 200 ≤ cd by omega) with hlo | hlo
            · obtain ⟨hput, hinv5⟩ : PutA s1 (giveS s1 (4, cd, 0)) [(1, cd, 0, 0)] ∧ InvA (giveS s1 (4, cd, 0)) cd (-1) := (HI3.out.answer hcd1 hcd2).1 hlo
              refine (give_any (N := 9 + k * 1700 + 1 + 1600) (B := w.heap.size) (s := s1) (4, cd, 0) _ HS3.out HOK3.out (by omega)).mono ?_
              rintro e' w5 ⟨rfl, hs5, hb5⟩
              have hok5 : OkS (9 + (k + 1) * 1700) (giveS s1 (4, cd, 0)) := (HOK3.out.give _).more (by omega)
              have hnow5 := giveS_now s1 (4, cd, 0)
              generalize giveS s1 (4, cd, 0) = s2 at *
              have HS5 : Hid (SimAt w5 w.heap.size g s2) := hs5
              have HB5 : Hid (Below w.heap.size w w5) := HB3.out.trans hb5
              have HOK5 : Hid (OkS (9 + (k + 1) * 1700) s2) := hok5
              have HI5 : Hid (InvA s2 cd (-1)) := hinv5
              obtain ⟨v5, hv5⟩ := hs5
              clear mnow mlog e0 e1 e2 q1 q3
              obtain ⟨⟨m0, m1, m2⟩, mnow, mlog, -, -⟩ := hv5.cells hok5.1
              rw [hnow5] at mnow
              have HMay : Hid (mayS (s2.m.1, s2.m.2.1, cd) = true) := by
                have := hinv5.inv.may
                rw [← hinv5.last]
                exact this
              rw [hinv5.last] at m2
              have q5 : g < w5.heap.size := hv5.lt
              have hlen : s2.log.length = n + 1 := by rw [hput, HN.out]; simp
              obtain ⟨b5, c5, e5, rfl, hj5, -, x1, x2, x3, x4⟩ := hv5.log_at (j := n) (by omega)
              obtain ⟨A5, c5', he5, hc5⟩ := hv5.log_slice
              cases he5
              have : e5 = (s1.now, (1, cd, 0, 0)) := by
                rw [hput, HN.out, List.getElem?_append_right (Nat.le_refl _), Nat.sub_self] at hj5
                exact (Option.some.inj hj5).symm
              subst this
              rw [hlen] at mlog hc5
              obtain ⟨A6, c6, hsl, hA6⟩ := slice42_from (A := some ⟨b5, 0, none⟩) (n := n + 1) (c := c5) (k := n) (m := 1) rfl hc5
              obtain rfl := hA6 b5 rfl (by omega)
              clear hA6 hj5
              have hne := fun W => (run_neq_out (1, cd, 0, 0) (1, cd, 0, 0) W).trans (by rw [decide_eq_true rfl]; try rfl : _ = .ok (.bool false) W)
              have q6 : b5 < w5.heap.size := World.block_lt_of_cell? w5 ⟨b5, n * 5 + 1, none⟩ x1
              have h77 : (s2.m.1 == 7) = false := by
                have := hinv5.cases
                rw [hnow5] at this; simp; omega
              clear hput hinv5 hok5 hv5 hb5 hlen hc5 hnow5 HN
              go_wp2_with fail
              go_quiet (fail)
              go_wp2_with fail
              refine (may_any (s2.m.1, s2.m.2.1, cd) _).mono ?_
              rw [HMay.out]
              rintro e' w6 ⟨rfl, hb6⟩
              have HS6 : Hid (SimAt w6 w.heap.size g s2) := (HS5.out.below (below_drewN (Below.refl _ _) _)).below hb6
              have HB6 : Hid (Below w.heap.size w w6) := (below_drewN HB5.out _).trans (hb6.mono HB5.out.size)
              clear hb6 m0 m1 m2 mnow mlog
              go_wp2_with fail
              go_roundw
              case rel => exact ⟨k + 1, cd, (-1), s2, by omega, by omega, by go_num, rfl, rfl, HS6.out, HOK5.out, HI5.out, HB6.out⟩
              case measure => simp [intOf]; omega
            · obtain ⟨hput, hinv5⟩ : PutA s1 (giveS s1 (4, cd, 0)) [(1, cd, 0, 0), (4, 0, 10, 32000)] ∧ InvA (giveS s1 (4, cd, 0)) cd (s1.now + 32000) := (HI3.out.answer hcd1 hcd2).2 hlo
              refine (give_any (N := 9 + k * 1700 + 1 + 1600) (B := w.heap.size) (s := s1) (4, cd, 0) _ HS3.out HOK3.out (by omega)).mono ?_
              rintro e' w5 ⟨rfl, hs5, hb5⟩
              have hok5 : OkS (9 + (k + 1) * 1700) (giveS s1 (4, cd, 0)) := (HOK3.out.give _).more (by omega)
              have hnow5 := giveS_now s1 (4, cd, 0)
              generalize giveS s1 (4, cd, 0) = s2 at *
              have HS5 : Hid (SimAt w5 w.heap.size g s2) := hs5
              have HB5 : Hid (Below w.heap.size w w5) := HB3.out.trans hb5
              have HOK5 : Hid (OkS (9 + (k + 1) * 1700) s2) := hok5
              have HI5 : Hid (InvA s2 cd (s1.now + 32000)) := hinv5
              obtain ⟨v5, hv5⟩ := hs5
              clear mnow mlog e0 e1 e2 q1 q3
              obtain ⟨⟨m0, m1, m2⟩, mnow, mlog, -, -⟩ := hv5.cells hok5.1
              rw [hnow5] at mnow
              have HMay : Hid (mayS (s2.m.1, s2.m.2.1, cd) = true) := by
                have := hinv5.inv.may
                rw [← hinv5.last]
                exact this
              rw [hinv5.last] at m2
              have q5 : g < w5.heap.size := hv5.lt
              have hlen : s2.log.length = n + 2 := by rw [hput, HN.out]; simp
              obtain ⟨b5, c5, e5, rfl, hj5, -, x1, x2, x3, x4⟩ := hv5.log_at (j := n) (by omega)
              obtain ⟨A5, c5', he5, hc5⟩ := hv5.log_slice
              cases he5
              have : e5 = (s1.now, (1, cd, 0, 0)) := by
                rw [hput, HN.out, List.getElem?_append_right (Nat.le_refl _), Nat.sub_self] at hj5
                exact (Option.some.inj hj5).symm
              subst this
              rw [hlen] at mlog hc5
              obtain ⟨A6, c6, hsl, hA6⟩ := slice42_from (A := some ⟨b5, 0, none⟩) (n := n + 2) (c := c5) (k := n) (m := 2) rfl hc5
              obtain rfl := hA6 b5 rfl (by omega)
              clear hA6 hj5
              have hne := fun W => (run_neq_out (1, cd, 0, 0) (1, cd, 0, 0) W).trans (by rw [decide_eq_true rfl]; try rfl : _ = .ok (.bool false) W)
              have q6 : b5 < w5.heap.size := World.block_lt_of_cell? w5 ⟨b5, n * 5 + 1, none⟩ x1
              have h77 : (s2.m.1 == 7) = false := by
                have := hinv5.cases
                rw [hnow5] at this; simp; omega
              clear hput hinv5 hok5 hv5 hb5 hlen hc5 hnow5 HN
              go_wp2_with fail
              go_quiet (fail)
              go_wp2_with fail
              refine (may_any (s2.m.1, s2.m.2.1, cd) _).mono ?_
              rw [HMay.out]
              rintro e' w6 ⟨rfl, hb6⟩
              have HS6 : Hid (SimAt w6 w.heap.size g s2) := (HS5.out.below (below_drewN (Below.refl _ _) _)).below hb6
              have HB6 : Hid (Below w.heap.size w w6) := (below_drewN HB5.out _).trans (hb6.mono HB5.out.size)
              clear hb6 m0 m1 m2 mnow mlog
              go_wp2_with fail
              go_roundw
              case rel => exact ⟨k + 1, cd, (s1.now + 32000), s2, by omega, by omega, by go_num, rfl, rfl, HS6.out, HOK5.out, HI5.out, HB6.out⟩
              case measure => simp [intOf]; omega
        · have f0 : (last == 0) = false := by simp; omega
          have f1 : (last != 0) = true := by simp; omega
          rcases (show e2'.2.1 % 2 = 0 ∨ e2'.2.1 % 2 = 1 by omega) with hp | hp
          · have hk0 := kinds_0
            obtain ⟨n, hn⟩ : ∃ n, n = s1.log.length := ⟨_, rfl⟩
            rw [← hn] at mlog n3
            have HN : Hid (n = s1.log.length) := hn
            clear hn
            go_wp2_with fail
            have hcd := code_in e2'.2.2
            generalize wrap64 (100 + wrap64 ((IntKind.u64.wrap e2'.2.2).tmod 600)) = cd at hcd ⊢
            obtain ⟨hcd1, hcd2⟩ := hcd
            obtain ⟨hput, hinv5⟩ : PutA s1 (giveS s1 (1, cd, 0)) [(1, last, 0, 0)] ∧ InvA (giveS s1 (1, cd, 0)) last over := HI3.out.again (by omega) (.inr ho2) cd
            refine (give_any (N := 9 + k * 1700 + 1 + 1600) (B := w.heap.size) (s := s1) (1, cd, 0) _ HS3.out HOK3.out (by omega)).mono ?_
            rintro e' w5 ⟨rfl, hs5, hb5⟩
            have hok5 : OkS (9 + (k + 1) * 1700) (giveS s1 (1, cd, 0)) := (HOK3.out.give _).more (by omega)
            have hnow5 := giveS_now s1 (1, cd, 0)
            generalize giveS s1 (1, cd, 0) = s2 at *
            have HS5 : Hid (SimAt w5 w.heap.size g s2) := hs5
            have HB5 : Hid (Below w.heap.size w w5) := HB3.out.trans hb5
            have HOK5 : Hid (OkS (9 + (k + 1) * 1700) s2) := hok5
            have HI5 : Hid (InvA s2 last over) := hinv5
            obtain ⟨v5, hv5⟩ := hs5
            clear mnow mlog e0 e1 e2 q1 q3
            obtain ⟨⟨m0, m1, m2⟩, mnow, mlog, -, -⟩ := hv5.cells hok5.1
            rw [hnow5] at mnow
            have HMay : Hid (mayS (s2.m.1, s2.m.2.1, last) = true) := by
              have := hinv5.inv.may
              rw [← hinv5.last]
              exact this
            rw [hinv5.last] at m2
            have q5 : g < w5.heap.size := hv5.lt
            have hlen : s2.log.length = n + 1 := by rw [hput, HN.out]; simp
            obtain ⟨b5, c5, e5, rfl, hj5, -, x1, x2, x3, x4⟩ := hv5.log_at (j := n) (by omega)
            obtain ⟨A5, c5', he5, hc5⟩ := hv5.log_slice
            cases he5
            have : e5 = (s1.now, (1, last, 0, 0)) := by
              rw [hput, HN.out, List.getElem?_append_right (Nat.le_refl _), Nat.sub_self] at hj5
              exact (Option.some.inj hj5).symm
            subst this
            rw [hlen] at mlog hc5
            obtain ⟨A6, c6, hsl, hA6⟩ := slice42_from (A := some ⟨b5, 0, none⟩) (n := n + 1) (c := c5) (k := n) (m := 1) rfl hc5
            obtain rfl := hA6 b5 rfl (by omega)
            clear hA6 hj5
            have hne := fun W => (run_neq_out (1, last, 0, 0) (1, last, 0, 0) W).trans (by rw [decide_eq_true rfl]; try rfl : _ = .ok (.bool false) W)
            have q6 : b5 < w5.heap.size := World.block_lt_of_cell? w5 ⟨b5, n * 5 + 1, none⟩ x1
            have h77 : (s2.m.1 == 7) = false := by
              have := hinv5.cases
              rw [hnow5] at this; simp; omega
            clear hput hinv5 hok5 hv5 hb5 hlen hc5 hnow5 HN
            go_wp2_with fail
            go_quiet (fail)
            go_wp2_with fail
            refine (may_any (s2.m.1, s2.m.2.1, last) _).mono ?_
            rw [HMay.out]
            rintro e' w6 ⟨rfl, hb6⟩
            have HS6 : Hid (SimAt w6 w.heap.size g s2) := (HS5.out.below (below_drewN (Below.refl _ _) _)).below hb6
            have HB6 : Hid (Below w.heap.size w w6) := (below_drewN HB5.out _).trans (hb6.mono HB5.out.size)
            clear hb6 m0 m1 m2 mnow mlog
            go_wp2_with fail
            go_roundw
            case rel => exact ⟨k + 1, last, over, s2, by omega, by omega, by go_num, rfl, rfl, HS6.out, HOK5.out, HI5.out, HB6.out⟩
            case measure => simp [intOf]; omega
          · have hk0 := kinds_1
            obtain ⟨n, hn⟩ : ∃ n, n = s1.log.length := ⟨_, rfl⟩
            rw [← hn] at mlog n3
            have HN : Hid (n = s1.log.length) := hn
            clear hn
            go_wp2_with fail
            have hcd := code_in e2'.2.2
            generalize wrap64 (100 + wrap64 ((IntKind.u64.wrap e2'.2.2).tmod 600)) = cd at hcd ⊢
            obtain ⟨hcd1, hcd2⟩ := hcd
            obtain ⟨hput, hinv5⟩ : PutA s1 (giveS s1 (4, cd, 0)) [] ∧ InvA (giveS s1 (4, cd, 0)) last over := HI3.out.more ho cd
            refine (give_any (N := 9 + k * 1700 + 1 + 1600) (B := w.heap.size) (s := s1) (4, cd, 0) _ HS3.out HOK3.out (by omega)).mono ?_
            rintro e' w5 ⟨rfl, hs5, hb5⟩
            have hok5 : OkS (9 + (k + 1) * 1700) (giveS s1 (4, cd, 0)) := (HOK3.out.give _).more (by omega)
            have hnow5 := giveS_now s1 (4, cd, 0)
            generalize giveS s1 (4, cd, 0) = s2 at *
            have HS5 : Hid (SimAt w5 w.heap.size g s2) := hs5
            have HB5 : Hid (Below w.heap.size w w5) := HB3.out.trans hb5
            have HOK5 : Hid (OkS (9 + (k + 1) * 1700) s2) := hok5
            have HI5 : Hid (InvA s2 last over) := hinv5
            obtain ⟨v5, hv5⟩ := hs5
            clear mnow mlog e0 e1 e2 q1 q3
            obtain ⟨⟨m0, m1, m2⟩, mnow, mlog, -, -⟩ := hv5.cells hok5.1
            rw [hnow5] at mnow
            have HMay : Hid (mayS (s2.m.1, s2.m.2.1, last) = true) := by
              have := hinv5.inv.may
              rw [← hinv5.last]
              exact this
            rw [hinv5.last] at m2
            have q5 : g < w5.heap.size := hv5.lt
            obtain ⟨A5, c5, rfl, hc5⟩ := hv5.log_slice
            have hlen : s2.log.length = n := by rw [hput, HN.out]; simp
            rw [hlen] at mlog hc5
            obtain ⟨A6, c6, hsl, -⟩ := slice42_from (A := A5) (n := n) (c := c5) (k := n) (m := 0) rfl hc5
            have h77 : (s2.m.1 == 7) = false := by
              have := hinv5.cases
              rw [hnow5] at this; simp; omega
            clear hput hinv5 hok5 hv5 hb5 hlen hc5 hnow5 HN
            go_wp2_with fail
            go_quiet (fail)
            go_wp2_with fail
            refine (may_any (s2.m.1, s2.m.2.1, last) _).mono ?_
            rw [HMay.out]
            rintro e' w6 ⟨rfl, hb6⟩
            have HS6 : Hid (SimAt w6 w.heap.size g s2) := (HS5.out.below (below_drewN (Below.refl _ _) _)).below hb6
            have HB6 : Hid (Below w.heap.size w w6) := (below_drewN HB5.out _).trans (hb6.mono HB5.out.size)
            clear hb6 m0 m1 m2 mnow mlog
            go_wp2_with fail
            go_roundw
            case rel => exact ⟨k + 1, last, over, s2, by omega, by omega, by go_num, rfl, rfl, HS6.out, HOK5.out, HI5.out, HB6.out⟩
            case measure => simp [intOf]; omega
        · have f0 : (last == 0) = false := by simp; omega
          have f1 : (last != 0) = true := by simp; omega
          rcases (show e2'.2.1 % 2 = 0 ∨ e2'.2.1 % 2 = 1 by omega) with hp | hp
          · have hk0 := kinds_0
            obtain ⟨n, hn⟩ : ∃ n, n = s1.log.length := ⟨_, rfl⟩
            rw [← hn] at mlog n3
            have HN : Hid (n = s1.log.length) := hn
            clear hn
            go_wp2_with fail
            have hcd := code_in e2'.2.2
            generalize wrap64 (100 + wrap64 ((IntKind.u64.wrap e2'.2.2).tmod 600)) = cd at hcd ⊢
            obtain ⟨hcd1, hcd2⟩ := hcd
            obtain ⟨hput, hinv5⟩ : PutA s1 (giveS s1 (1, cd, 0)) [] ∧ InvA (giveS s1 (1, cd, 0)) last over := HI3.out.again_no (.inr ⟨ho, ho2⟩) cd
            refine (give_any (N := 9 + k * 1700 + 1 + 1600) (B := w.heap.size) (s := s1) (1, cd, 0) _ HS3.out HOK3.out (by omega)).mono ?_
            rintro e' w5 ⟨rfl, hs5, hb5⟩
            have hok5 : OkS (9 + (k + 1) * 1700) (giveS s1 (1, cd, 0)) := (HOK3.out.give _).more (by omega)
            have hnow5 := giveS_now s1 (1, cd, 0)
            generalize giveS s1 (1, cd, 0) = s2 at *
            have HS5 : Hid (SimAt w5 w.heap.size g s2) := hs5
            have HB5 : Hid (Below w.heap.size w w5) := HB3.out.trans hb5
            have HOK5 : Hid (OkS (9 + (k + 1) * 1700) s2) := hok5
            have HI5 : Hid (InvA s2 last over) := hinv5
            obtain ⟨v5, hv5⟩ := hs5
            clear mnow mlog e0 e1 e2 q1 q3
            obtain ⟨⟨m0, m1, m2⟩, mnow, mlog, -, -⟩ := hv5.cells hok5.1
            rw [hnow5] at mnow
            have HMay : Hid (mayS (s2.m.1, s2.m.2.1, last) = true) := by
              have := hinv5.inv.may
              rw [← hinv5.last]
              exact this
            rw [hinv5.last] at m2
            have q5 : g < w5.heap.size := hv5.lt
            obtain ⟨A5, c5, rfl, hc5⟩ := hv5.log_slice
            have hlen : s2.log.length = n := by rw [hput, HN.out]; simp
            rw [hlen] at mlog hc5
            obtain ⟨A6, c6, hsl, -⟩ := slice42_from (A := A5) (n := n) (c := c5) (k := n) (m := 0) rfl hc5
            have h77 : (s2.m.1 == 7) = true := by
              have := hinv5.cases
              rw [hnow5] at this; simp; omega
            clear hput hinv5 hok5 hv5 hb5 hlen hc5 hnow5 HN
            go_wp2_with fail
            go_quiet (fail)
            go_wp2_with fail
            refine (may_any (s2.m.1, s2.m.2.1, last) _).mono ?_
            rw [HMay.out]
            rintro e' w6 ⟨rfl, hb6⟩
            have HS6 : Hid (SimAt w6 w.heap.size g s2) := (HS5.out.below (below_drewN (Below.refl _ _) _)).below hb6
            have HB6 : Hid (Below w.heap.size w w6) := (below_drewN HB5.out _).trans (hb6.mono HB5.out.size)
            clear hb6 m0 m1 m2 mnow mlog
            go_wp2_with fail
            go_roundw
            case rel => exact ⟨k + 1, last, over, s2, by omega, by omega, by go_num, rfl, rfl, HS6.out, HOK5.out, HI5.out, HB6.out⟩
            case measure => simp [intOf]; omega
          · have hk0 := kinds_1
            obtain ⟨n, hn⟩ : ∃ n, n = s1.log.length := ⟨_, rfl⟩
            rw [← hn] at mlog n3
            have HN : Hid (n = s1.log.length) := hn
            clear hn
            go_wp2_with fail
            have hcd := code_in e2'.2.2
            generalize wrap64 (100 + wrap64 ((IntKind.u64.wrap e2'.2.2).tmod 600)) = cd at hcd ⊢
            obtain ⟨hcd1, hcd2⟩ := hcd
            obtain ⟨hput, hinv5⟩ : PutA s1 (giveS s1 (4, cd, 0)) [] ∧ InvA (giveS s1 (4, cd, 0)) last over := HI3.out.more ho cd
            refine (give_any (N := 9 + k * 1700 + 1 + 1600) (B := w.heap.size) (s := s1) (4, cd, 0) _ HS3.out HOK3.out (by omega)).mono ?_
            rintro e' w5 ⟨rfl, hs5, hb5⟩
            have hok5 : OkS (9 + (k + 1) * 1700) (giveS s1 (4, cd, 0)) := (HOK3.out.give _).more (by omega)
            have hnow5 := giveS_now s1 (4, cd, 0)
            generalize giveS s1 (4, cd, 0) = s2 at *
            have HS5 : Hid (SimAt w5 w.heap.size g s2) := hs5
            have HB5 : Hid (Below w.heap.size w w5) := HB3.out.trans hb5
            have HOK5 : Hid (OkS (9 + (k + 1) * 1700) s2) := hok5
            have HI5 : Hid (InvA s2 last over) := hinv5
            obtain ⟨v5, hv5⟩ := hs5
            clear mnow mlog e0 e1 e2 q1 q3
            obtain ⟨⟨m0, m1, m2⟩, mnow, mlog, -, -⟩ := hv5.cells hok5.1
            rw [hnow5] at mnow
            have HMay : Hid (mayS (s2.m.1, s2.m.2.1, last) = true) := by
              have := hinv5.inv.may
              rw [← hinv5.last]
              exact this
            rw [hinv5.last] at m2
            have q5 : g < w5.heap.size := hv5.lt
            obtain ⟨A5, c5, rfl, hc5⟩ := hv5.log_slice
            have hlen : s2.log.length = n := by rw [hput, HN.out]; simp
            rw [hlen] at mlog hc5
            obtain ⟨A6, c6, hsl, -⟩ := slice42_from (A := A5) (n := n) (c := c5) (k := n) (m := 0) rfl hc5
            have h77 : (s2.m.1 == 7) = true := by
              have := hinv5.cases
              rw [hnow5] at this; simp; omega
            clear hput hinv5 hok5 hv5 hb5 hlen hc5 hnow5 HN
            go_wp2_with fail
            go_quiet (fail)
            go_wp2_with fail
            refine (may_any (s2.m.1, s2.m.2.1, last) _).mono ?_
            rw [HMay.out]
            rintro e' w6 ⟨rfl, hb6⟩
            have HS6 : Hid (SimAt w6 w.heap.size g s2) := (HS5.out.below (below_drewN (Below.refl _ _) _)).below hb6
            have HB6 : Hid (Below w.heap.size w w6) := (below_drewN HB5.out _).trans (hb6.mono HB5.out.size)
            clear hb6 m0 m1 m2 mnow mlog
            go_wp2_with fail
            go_roundw
            case rel => exact ⟨k + 1, last, over, s2, by omega, by omega, by go_num, rfl, rfl, HS6.out, HOK5.out, HI5.out, HB6.out⟩
            case measure => simp [intOf]; omega
      · have hki4 : ¬ (k : Int) < 40 := by omega
        have HL9 : Hid (s.due.length = 14 ∧ s.log.length ≤ 1000000000) := ⟨HOK.out.1, by have := HOK.out.2.2.2.2; omega⟩
        obtain ⟨⟨m0, m1, m2⟩, mnow, q9⟩ := HS.out.mcells HOK.out.1
        clear hok
        go_wp2_with fail
        refine (count_any (s := s) 3 s.now 0 1000 _ HS.out HL9.out.1 HL9.out.2).mono ?_
        rw [HI.out.inv.user]
        rintro e w' ⟨rfl, rfl⟩
        go_wp2_with fail
        refine (closed_any (s := s) _ HS.out HL9.out.1 HL9.out.2 HI.out.inv.closed).mono ?_
        rintro e wa ⟨rfl, hba⟩
        have HBa : Hid (Below w.heap.size w wa) := HBr.out.trans (hba.mono HBr.out.size)
        clear m0 m1 m2 mnow hba
        go_wp2_with fail
        refine (works_any _).mono ?_
        rintro e wb ⟨rfl, hbb⟩
        have HBb : Hid (Below w.heap.size w wb) := HBa.out.trans (hbb.mono HBa.out.size)
        clear hbb
        go_wp2_with fail
        go_ret
        exact ⟨rfl, HBb.out⟩
    · have hki : ¬ (k : Int) < (l.length : Int) := by omega
      have HL9 : Hid (s.due.length = 14 ∧ s.log.length ≤ 1000000000) := ⟨HOK.out.1, by have := HOK.out.2.2.2.2; omega⟩
      obtain ⟨⟨m0, m1, m2⟩, mnow, q9⟩ := HS.out.mcells HOK.out.1
      clear hok
      go_wp2_with fail
      refine (count_any (s := s) 3 s.now 0 1000 _ HS.out HL9.out.1 HL9.out.2).mono ?_
      rw [HI.out.inv.user]
      rintro e w' ⟨rfl, rfl⟩
      go_wp2_with fail
      refine (closed_any (s := s) _ HS.out HL9.out.1 HL9.out.2 HI.out.inv.closed).mono ?_
      rintro e wa ⟨rfl, hba⟩
      have HBa : Hid (Below w.heap.size w wa) := HBr.out.trans (hba.mono HBr.out.size)
      clear m0 m1 m2 mnow hba
      go_wp2_with fail
      refine (works_any _).mono ?_
      rintro e wb ⟨rfl, hbb⟩
      have HBb : Hid (Below w.heap.size w wb) := HBa.out.trans (hbb.mono HBa.out.size)
      clear hbb
      go_wp2_with fail
      go_ret
      exact ⟨rfl, HBb.out⟩

end Go.Proofs.Ytilnibedblmoeaa
