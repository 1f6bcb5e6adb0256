/- The walk of the law ServerEnds. -/
import Derived.Test.YtilnibedblmoeaaPlay
import Derived.Test.YtilnibedblmoeaaEndsP
import Derived.Test.YtilnibedblmoeaaW8
namespace Go.Proofs.Ytilnibedblmoeaa
open Go.RowKit

set_option maxRecDepth 100000 in
set_option maxHeartbeats 4000000 in
theorem ends_any (c0 f0 : Int) (w : World) (hc0 : 0 ≤ c0 ∧ c0 ≤ 65535) (hf0 : 0 ≤ f0 ∧ f0 ≤ 65535) :
    Calls Try.prog 6 #[.int .u16 c0, .int .u16 f0] w fun e w' => e = .returned (.bool true) ∧ Below w.heap.size w w' := by
  obtain ⟨hc1, hc2⟩ := hc0
  obtain ⟨hf1, hf2⟩ := hf0
  go_enter Try.func6, Try.ntmps6
  go_wp2_with fail
  refine (start_sim (B := w.heap.size) _ (Nat.le_refl _)).mono ?_
  rintro e w1 ⟨g, rfl, hs1, hb1⟩
  have HB1 : Hid (Below w.heap.size w w1) := hb1
  clear hb1
  go_wp2_with fail
  refine (until_any (N := 9) (B := w.heap.size) (s := startS) 3000 _ hs1 startS_ok (by omega) ⟨by omega, by omega⟩).mono ?_
  rintro e w2 ⟨rfl, hs2, hb2⟩
  have HB2 : Hid (Below w.heap.size w w2) := HB1.out.trans hb2
  clear hs1 hb2
  go_wp2_with fail
  refine (give_any (N := 1700) (B := w.heap.size) (s := sA) (6, 0, 0) _ hs2 ok_A (by omega)).mono ?_
  rintro e w3 ⟨rfl, hs3, hb3⟩
  have HB3 : Hid (Below w.heap.size w w3) := HB2.out.trans hb3
  clear hs2 hb3
  go_wp2_with fail
  obtain ⟨c, hc⟩ : ∃ c, c = 100 + c0 % 600 := ⟨_, rfl⟩
  rw [← hc]
  have hc1' : 100 ≤ c := by omega
  have hc2' : c ≤ 699 := by omega
  clear hc
  refine (give_any (N := 1750) (B := w.heap.size) (s := sB) (4, c, 0) _ hs3 (ok_A.give _ |>.more (by omega)) (by omega)).mono ?_
  rintro e w4 ⟨rfl, hs4, hb4⟩
  have HS4 : Hid (SimAt w4 w.heap.size g (sC c)) := hs4
  have HB4 : Hid (Below w.heap.size w w4) := HB3.out.trans hb4
  clear hs3 hs4 hb4
  by_cases hf : f0 < 32000
  · have hf' : ¬ 32000 < f0 := by omega
    go_wp2_with fail
    refine (until_any (N := 1800) (B := w.heap.size) (s := sC c) (3000 + f0) _ HS4.out (ok_C c) (by omega) ⟨by omega, by omega⟩).mono ?_
    rintro e w5 ⟨rfl, hs5, hb5⟩
    have HS5 : Hid (SimAt w5 w.heap.size g (sD c f0)) := hs5
    have HB5 : Hid (Below w.heap.size w w5) := HB4.out.trans hb5
    obtain ⟨⟨m0, m1, m2⟩, mnow, q5⟩ := HS5.out.mcells (ok_D c (by omega)).1
    have d7 : ((sD c f0).m.1 == 7) = false := by
      rw [sD_early hc1' hc2' hf1 hf]
      simp only [mk_m, mC]
      split <;> simp
    have HK : Hid (Inv (sE c f0) ∧ countS (sE c f0).log 6 (sE c f0).now 0 1000 = 1 ∧ (sE c f0).m = (7, 0, c) ∧ OkS 3500 (sE c f0)) :=
      ⟨inv_E hc1' hc2' hf1, failed_E hc1' hc2' hf1 hf, by rw [sE_eq hc1' hc2' hf1 hf]; rfl, ok_E c (by omega)⟩
    have HOK5 : Hid (OkS 3400 (sD c f0)) := ok_D c (by omega)
    have HE : Hid (sE c f0 = giveS (sD c f0) (6, 0, 0)) := rfl
    generalize sE c f0 = s6 at HK HE
    generalize sD c f0 = s5 at *
    clear hs5 hb5
    go_wp2_with fail
    refine (give_any (N := 3400) (B := w.heap.size) (s := s5) (6, 0, 0) _ HS5.out HOK5.out (by omega)).mono ?_
    rw [← HE.out]
    rintro e w6 ⟨rfl, hs6, hb6⟩
    have HS6 : Hid (SimAt w6 w.heap.size g s6) := hs6
    have HB6 : Hid (Below w.heap.size w w6) := HB5.out.trans hb6
    clear m0 m1 m2 mnow d7
    obtain ⟨⟨m0, m1, m2⟩, mnow, q6⟩ := hs6.mcells HK.out.2.2.2.1
    rw [HK.out.2.2.1] at m0 m1 m2
    have HL6 : Hid (s6.due.length = 14 ∧ s6.log.length ≤ 1000000000) := ⟨HK.out.2.2.2.1, by have := HK.out.2.2.2.2.2.2.2; omega⟩
    have he := fun W => (run_eql_mc (7, 0, c) (7, 0, c) W).trans (by rw [decide_eq_true rfl] : _ = .ok (.bool true) W)
    clear hs6 hb6
    go_wp2_with fail
    refine (count_any (s := s6) 6 s6.now 0 1000 _ HS6.out HL6.out.1 HL6.out.2).mono ?_
    rw [HK.out.2.1]
    rintro e w' ⟨rfl, rfl⟩
    go_wp2_with fail
    refine (closed_any (s := s6) _ HS6.out HL6.out.1 HL6.out.2 HK.out.1.closed).mono ?_
    rintro e w7 ⟨rfl, hb7⟩
    have HB7 : Hid (Below w.heap.size w w7) := HB6.out.trans (hb7.mono HB6.out.size)
    clear m0 m1 m2 mnow hb7 he
    go_wp2_with fail
    refine (works_any _).mono ?_
    rintro e w8 ⟨rfl, hb8⟩
    have HB8 : Hid (Below w.heap.size w w8) := HB7.out.trans (hb8.mono HB7.out.size)
    clear hb8
    go_wp2_with fail
    go_ret
    exact ⟨rfl, HB8.out⟩
  · have hf2 : f0 = 32000 ∨ 32000 < f0 := by omega
    clear hf
    rcases hf2 with rfl | hf'
    · by_cases hlo : c < 200
      · go_wp2_with fail
        refine (until_any (N := 1800) (B := w.heap.size) (s := sC c) 35000 _ HS4.out (ok_C c) (by omega) ⟨by omega, by omega⟩).mono ?_
        rintro e w5 ⟨rfl, hs5, hb5⟩
        have HS5 : Hid (SimAt w5 w.heap.size g (sD c 32000)) := hs5
        have HB5 : Hid (Below w.heap.size w w5) := HB4.out.trans hb5
        have HK : Hid (Inv (sD c 32000) ∧ (sD c 32000).m = (3, 0, c) ∧ OkS 3400 (sD c 32000)) :=
          ⟨inv_D hc1' hc2' (by omega), by rw [sD_low hc1' hlo]; rfl, ok_D c (by omega)⟩
        generalize sD c 32000 = s5 at *
        obtain ⟨⟨m0, m1, m2⟩, mnow, q5⟩ := HS5.out.mcells HK.out.2.2.1
        rw [HK.out.2.1] at m0 m1 m2
        have HL5 : Hid (s5.due.length = 14 ∧ s5.log.length ≤ 1000000000) := ⟨HK.out.2.2.1, by have := HK.out.2.2.2.2.2.2; omega⟩
        have he := fun W => (run_eql_mc (3, 0, c) (3, 0, c) W).trans (by rw [decide_eq_true rfl] : _ = .ok (.bool true) W)
        clear hs5 hb5
        go_wp2_with fail
        refine (closed_any (s := s5) _ HS5.out HL5.out.1 HL5.out.2 HK.out.1.closed).mono ?_
        rintro e w7 ⟨rfl, hb7⟩
        have HB7 : Hid (Below w.heap.size w w7) := HB5.out.trans (hb7.mono HB5.out.size)
        clear m0 m1 m2 mnow hb7 he
        go_wp2_with fail
        refine (works_any _).mono ?_
        rintro e w8 ⟨rfl, hb8⟩
        have HB8 : Hid (Below w.heap.size w w8) := HB7.out.trans (hb8.mono HB7.out.size)
        clear hb8
        go_wp2_with fail
        go_ret
        exact ⟨rfl, HB8.out⟩
      · go_wp2_with fail
        refine (until_any (N := 1800) (B := w.heap.size) (s := sC c) 35000 _ HS4.out (ok_C c) (by omega) ⟨by omega, by omega⟩).mono ?_
        rintro e w5 ⟨rfl, hs5, hb5⟩
        have HS5 : Hid (SimAt w5 w.heap.size g (sD c 32000)) := hs5
        have HB5 : Hid (Below w.heap.size w w5) := HB4.out.trans hb5
        have HK : Hid (Inv (sD c 32000) ∧ (sD c 32000).m = (7, 0, c) ∧ OkS 3400 (sD c 32000) ∧ countS (sD c 32000).log 6 (sD c 32000).now 0 1000 = 0 ∧ countS (sD c 32000).log 7 34999 0 1000 = 0) :=
          ⟨inv_D hc1' hc2' (by omega), by rw [sD_high (by omega) hc2']; rfl, ok_D c (by omega), failed_D (by omega) hc2'⟩
        generalize sD c 32000 = s5 at *
        obtain ⟨⟨m0, m1, m2⟩, mnow, q5⟩ := HS5.out.mcells HK.out.2.2.1.1
        rw [HK.out.2.1] at m0 m1 m2
        have HL5 : Hid (s5.due.length = 14 ∧ s5.log.length ≤ 1000000000) := ⟨HK.out.2.2.1.1, by have := HK.out.2.2.1.2.2.2.2; omega⟩
        have he := fun W => (run_eql_mc (7, 0, c) (7, 0, c) W).trans (by rw [decide_eq_true rfl] : _ = .ok (.bool true) W)
        clear hs5 hb5
        go_wp2_with fail
        refine (count_any (s := s5) 7 34999 0 1000 _ HS5.out HL5.out.1 HL5.out.2).mono ?_
        rw [HK.out.2.2.2.2]
        rintro e w' ⟨rfl, rfl⟩
        go_wp2_with fail
        refine (count_any (s := s5) 6 s5.now 0 1000 _ HS5.out HL5.out.1 HL5.out.2).mono ?_
        rw [HK.out.2.2.2.1]
        rintro e w' ⟨rfl, rfl⟩
        go_wp2_with fail
        refine (closed_any (s := s5) _ HS5.out HL5.out.1 HL5.out.2 HK.out.1.closed).mono ?_
        rintro e w7 ⟨rfl, hb7⟩
        have HB7 : Hid (Below w.heap.size w w7) := HB5.out.trans (hb7.mono HB5.out.size)
        clear m0 m1 m2 mnow hb7 he
        go_wp2_with fail
        refine (works_any _).mono ?_
        rintro e w8 ⟨rfl, hb8⟩
        have HB8 : Hid (Below w.heap.size w w8) := HB7.out.trans (hb8.mono HB7.out.size)
        clear hb8
        go_wp2_with fail
        go_ret
        exact ⟨rfl, HB8.out⟩

    · by_cases hlo : c < 200
      · go_wp2_with fail
        refine (until_any (N := 1800) (B := w.heap.size) (s := sC c) 35000 _ HS4.out (ok_C c) (by omega) ⟨by omega, by omega⟩).mono ?_
        rintro e w5 ⟨rfl, hs5, hb5⟩
        have HS5 : Hid (SimAt w5 w.heap.size g (sD c 32000)) := hs5
        have HB5 : Hid (Below w.heap.size w w5) := HB4.out.trans hb5
        have HK : Hid (Inv (sD c 32000) ∧ (sD c 32000).m = (3, 0, c) ∧ OkS 3400 (sD c 32000)) :=
          ⟨inv_D hc1' hc2' (by omega), by rw [sD_low hc1' hlo]; rfl, ok_D c (by omega)⟩
        generalize sD c 32000 = s5 at *
        obtain ⟨⟨m0, m1, m2⟩, mnow, q5⟩ := HS5.out.mcells HK.out.2.2.1
        rw [HK.out.2.1] at m0 m1 m2
        have HL5 : Hid (s5.due.length = 14 ∧ s5.log.length ≤ 1000000000) := ⟨HK.out.2.2.1, by have := HK.out.2.2.2.2.2.2; omega⟩
        have he := fun W => (run_eql_mc (3, 0, c) (3, 0, c) W).trans (by rw [decide_eq_true rfl] : _ = .ok (.bool true) W)
        clear hs5 hb5
        go_wp2_with fail
        refine (closed_any (s := s5) _ HS5.out HL5.out.1 HL5.out.2 HK.out.1.closed).mono ?_
        rintro e w7 ⟨rfl, hb7⟩
        have HB7 : Hid (Below w.heap.size w w7) := HB5.out.trans (hb7.mono HB5.out.size)
        clear m0 m1 m2 mnow hb7 he
        go_wp2_with fail
        refine (works_any _).mono ?_
        rintro e w8 ⟨rfl, hb8⟩
        have HB8 : Hid (Below w.heap.size w w8) := HB7.out.trans (hb8.mono HB7.out.size)
        clear hb8
        go_wp2_with fail
        go_ret
        exact ⟨rfl, HB8.out⟩
      · go_wp2_with fail
        refine (until_any (N := 1800) (B := w.heap.size) (s := sC c) 35000 _ HS4.out (ok_C c) (by omega) ⟨by omega, by omega⟩).mono ?_
        rintro e w5 ⟨rfl, hs5, hb5⟩
        have HS5 : Hid (SimAt w5 w.heap.size g (sD c 32000)) := hs5
        have HB5 : Hid (Below w.heap.size w w5) := HB4.out.trans hb5
        have HK : Hid (Inv (sD c 32000) ∧ (sD c 32000).m = (7, 0, c) ∧ OkS 3400 (sD c 32000) ∧ countS (sD c 32000).log 6 (sD c 32000).now 0 1000 = 0 ∧ countS (sD c 32000).log 7 34999 0 1000 = 0) :=
          ⟨inv_D hc1' hc2' (by omega), by rw [sD_high (by omega) hc2']; rfl, ok_D c (by omega), failed_D (by omega) hc2'⟩
        generalize sD c 32000 = s5 at *
        obtain ⟨⟨m0, m1, m2⟩, mnow, q5⟩ := HS5.out.mcells HK.out.2.2.1.1
        rw [HK.out.2.1] at m0 m1 m2
        have HL5 : Hid (s5.due.length = 14 ∧ s5.log.length ≤ 1000000000) := ⟨HK.out.2.2.1.1, by have := HK.out.2.2.1.2.2.2.2; omega⟩
        have he := fun W => (run_eql_mc (7, 0, c) (7, 0, c) W).trans (by rw [decide_eq_true rfl] : _ = .ok (.bool true) W)
        clear hs5 hb5
        go_wp2_with fail
        refine (count_any (s := s5) 7 34999 0 1000 _ HS5.out HL5.out.1 HL5.out.2).mono ?_
        rw [HK.out.2.2.2.2]
        rintro e w' ⟨rfl, rfl⟩
        go_wp2_with fail
        refine (count_any (s := s5) 6 s5.now 0 1000 _ HS5.out HL5.out.1 HL5.out.2).mono ?_
        rw [HK.out.2.2.2.1]
        rintro e w' ⟨rfl, rfl⟩
        go_wp2_with fail
        refine (closed_any (s := s5) _ HS5.out HL5.out.1 HL5.out.2 HK.out.1.closed).mono ?_
        rintro e w7 ⟨rfl, hb7⟩
        have HB7 : Hid (Below w.heap.size w w7) := HB5.out.trans (hb7.mono HB5.out.size)
        clear m0 m1 m2 mnow hb7 he
        go_wp2_with fail
        refine (works_any _).mono ?_
        rintro e w8 ⟨rfl, hb8⟩
        have HB8 : Hid (Below w.heap.size w w8) := HB7.out.trans (hb8.mono HB7.out.size)
        clear hb8
        go_wp2_with fail
        go_ret
        exact ⟨rfl, HB8.out⟩

end Go.Proofs.Ytilnibedblmoeaa
