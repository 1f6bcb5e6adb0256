/- The walk of the law ClientSlow. -/
import Derived.Test.YtlmanafplbddoaaPlay
import Derived.Test.YtlmanafplbddoaaSlowP
import Derived.Test.YtlmanafplbddoaaW8
namespace Go.Proofs.Ytlmanafplbddoaa
open Go.RowKit

theorem ok_slow (t : Int) (h : t ≤ 100000) : OkS 1700 (untilS 200 startS t) := (startS_ok.until 200 (t := t) (by omega)).more (by omega)
theorem ok_slow3 (t : Int) (h : t ≤ 100000) : OkS 4000 (slowS t) := (((ok_slow t h).give (2, 183, 0)).until 200 (t := 40000) (by omega)).more (by omega)

theorem fold_snoc {at0 : Int} {l : List (Int × Out)} {k : Nat} {e : Int × Out} (h : l[k]? = some e) (s : Int × Nat) : foldW at0 (l.take (k + 1)) s = stepW at0 (foldW at0 (l.take k) s) e := by
  unfold foldW
  rw [List.take_add_one, h, List.foldl_append]; rfl
theorem fold_bd (at0 : Int) (l : List (Int × Out)) (s : Int × Nat) : (foldW at0 l s).2 ≤ s.2 + l.length := by
  induction l generalizing s with
  | nil => exact Nat.le_refl _
  | cons e l ih =>
    have := ih (stepW at0 s e)
    have h2 : (stepW at0 s e).2 ≤ s.2 + 1 := by unfold stepW; split <;> simp
    show (foldW at0 l (stepW at0 s e)).2 ≤ _
    simp only [List.length_cons]; omega
/-- The bounds of the last time. -/
theorem fold_lo (at0 : Int) (h0 : 0 ≤ at0) (l : List (Int × Out)) (s : Int × Nat) (hs : -1 ≤ s.1) (N : Int) (hN : s.1 ≤ N) (hl : ∀ e ∈ l, e.1 ≤ N) : -1 ≤ (foldW at0 l s).1 ∧ (foldW at0 l s).1 ≤ N := by
  induction l generalizing s with
  | nil => exact ⟨hs, hN⟩
  | cons e l ih =>
    have he := hl e (by simp)
    refine ih (stepW at0 s e) ?_ ?_ fun x hx => hl x (by simp [hx])
    · unfold stepW; split
      · rename_i h; simp only; omega
      · exact hs
    · unfold stepW; split
      · exact he
      · exact hN

/-- What the law's loop does at an entry, in the walk's spelling. -/
def Turn (at0 : Int) (x : Int) (n : Nat) (x' : Int) (n' : Nat) (e : Int × Out) : Prop :=
  ((e.2.1 != 1) = true ∧ x' = x ∧ n' = n) ∨
  ((e.2.1 != 1) = false ∧ decide (e.1 ≤ at0) = true ∧ x' = x ∧ n' = n) ∨
  ((e.2.1 != 1) = false ∧ decide (e.1 ≤ at0) = false ∧ decide (0 ≤ x) = false ∧ x' = e.1 ∧ n' = n + 1) ∨
  ((e.2.1 != 1) = false ∧ decide (e.1 ≤ at0) = false ∧ decide (0 ≤ x) = true ∧ (e.1 != x + 4000) = false ∧ x' = e.1 ∧ n' = n + 1)
theorem turn_at {at0 : Int} {l : List (Int × Out)} (h : OkW at0 l (-1, 0)) {k : Nat} {e : Int × Out} (he : l[k]? = some e) :
    Turn at0 (foldW at0 (l.take k) (-1, 0)).1 (foldW at0 (l.take k) (-1, 0)).2 (foldW at0 (l.take (k + 1)) (-1, 0)).1 (foldW at0 (l.take (k + 1)) (-1, 0)).2 e := by
  rw [fold_snoc he]
  have h1 := h k e he
  unfold Turn
  generalize foldW at0 (l.take k) (-1, 0) = s at *
  by_cases k1 : e.2.1 = 1
  · by_cases ka : e.1 ≤ at0
    · have : stepW at0 s e = s := if_neg (by omega)
      rw [this]
      exact .inr (.inl ⟨by simp [k1], by simp [ka], rfl, rfl⟩)
    · have : stepW at0 s e = (e.1, s.2 + 1) := if_pos ⟨k1, by omega⟩
      rw [this]
      have h2 := h1 k1 (by omega)
      by_cases kx : 0 ≤ s.1
      · have h3 : e.1 = s.1 + 4000 := by omega
        exact .inr (.inr (.inr ⟨by simp [k1], by simp [ka], by simp [kx], by simp [h3], rfl, rfl⟩))
      · exact .inr (.inr (.inl ⟨by simp [k1], by simp [ka], by simp [kx], rfl, rfl⟩))
  · have : stepW at0 s e = s := if_neg (by omega)
    rw [this]
    exact .inl ⟨by simp [k1], rfl, rfl⟩

set_option maxRecDepth 100000 in
set_option maxHeartbeats 4000000 in
theorem slow_any (t : Int) (w : World) (ht : 0 ≤ t ∧ t ≤ 65535) : Calls Try.prog 7 #[.int .u16 t] w fun e w' => e = .returned (.bool true) ∧ Below w.heap.size w w' := by
  obtain ⟨t0, t1⟩ := ht
  go_enter Try.func7, Try.ntmps7
  go_wp2_with fail
  obtain ⟨a, ha⟩ : ∃ a, a = t % 32000 := ⟨_, rfl⟩
  rw [← ha]
  have a0 : 0 ≤ a := by omega
  have a1 : a < 32000 := by omega
  clear ha
  have HA : Hid _ := slow_all a0 a1
  have HOK : Hid (OkS 1700 (untilS 200 startS a)) := ok_slow a (by omega)
  have HOK3 : Hid (OkS 4000 (slowS a)) := ok_slow3 a (by omega)
  have HE : Hid (slowS a = untilS 200 (giveS (untilS 200 startS a) (2, 183, 0)) 40000) := rfl
  refine (start_sim (B := w.heap.size) _ (Nat.le_refl _)).mono ?_
  rintro e w1 ⟨g, rfl, hs1, hb1⟩
  have HB1 : Hid (Below w.heap.size w w1) := hb1
  clear hb1
  go_wp2_with fail
  refine (until_any (N := 9) (B := w.heap.size) (s := startS) a _ hs1 startS_ok (by omega) ⟨by omega, by omega⟩).mono ?_
  rintro e w2 ⟨rfl, hs2, hb2⟩
  have HS2 : Hid (SimAt w2 w.heap.size g (untilS 200 startS a)) := hs2
  have HB2 : Hid (Below w.heap.size w w2) := HB1.out.trans hb2
  generalize untilS 200 startS a = s2 at *
  clear hs1 hs2 hb2
  go_wp2_with fail
  refine (give_any (N := 1700) (B := w.heap.size) (s := s2) (2, 183, 0) _ HS2.out HOK.out (by omega)).mono ?_
  rintro e w3 ⟨rfl, hs3, hb3⟩
  have HS3 : Hid (SimAt w3 w.heap.size g (giveS s2 (2, 183, 0))) := hs3
  have HB3 : Hid (Below w.heap.size w w3) := HB2.out.trans hb3
  have HOK2 : Hid (OkS 1708 (giveS s2 (2, 183, 0))) := HOK.out.give _
  generalize giveS s2 (2, 183, 0) = s3 at *
  clear hs3 hb3
  go_wp2_with fail
  refine (copies_any a _).mono ?_
  rintro e w' ⟨rfl, rfl⟩
  go_wp2_with fail
  refine (until_any (N := 1708) (B := w.heap.size) (s := s3) 40000 _ HS3.out HOK2.out (by omega) ⟨by omega, by omega⟩).mono ?_
  rw [← HE.out]
  rintro e w4 ⟨rfl, hs4, hb4⟩
  have HS4 : Hid (SimAt w4 w.heap.size g (slowS a)) := hs4
  have HB4 : Hid (Below w.heap.size w w4) := HB3.out.trans hb4
  have HL : Hid ((slowS a).due.length = 14 ∧ (slowS a).log.length ≤ 1000000000) := ⟨HOK3.out.1, by have := HOK3.out.2.2.2.2; omega⟩
  obtain ⟨v, hv⟩ := hs4
  obtain ⟨-, mnow, mlog, -, -⟩ := hv.cells HL.out.1
  obtain ⟨A, c, rfl, -⟩ := hv.log_slice
  have q4 : g < w4.heap.size := hv.lt
  have HV : Hid (SimV w4 w.heap.size g (slowS a) (.slice A (slowS a).log.length c)) := hv
  have hlen : (slowS a).log.length ≤ 1000000000 := HL.out.2
  generalize slowS a = s at *
  clear hv hb4 mnow
  go_wp2_with fail
  go_loop [6, 7, 8] (fun x n i => ∃ (k : Nat), k ≤ s.log.length ∧ i = .int .i64 k ∧ x = .int .i64 (foldW a (s.log.take k) (-1, 0)).1 ∧ n = .int .i64 ((foldW a (s.log.take k) (-1, 0)).2 : Nat)) (fun _ _ i => s.log.length - (intOf i).toNat)
  case atStart => exact ⟨0, Nat.zero_le _, rfl, rfl, rfl⟩
  case round =>
    obtain ⟨k, hk, rfl, rfl, rfl⟩ := hrel
    by_cases hlt : k < s.log.length
    · have hki : (k : Int) < (s.log.length : Int) := by omega
      obtain ⟨b5, c5, e5, he, hj5, x0, x1, -, -, -⟩ := HV.out.log_at hlt
      cases he
      have hsc := turn_at HA.out.2.1 hj5
      have hbd := fold_bd a (s.log.take k) (-1, 0)
      have hbd2 := List.length_take_le k s.log
      have hxb : -1 ≤ (foldW a (s.log.take k) (-1, 0)).1 ∧ (foldW a (s.log.take k) (-1, 0)).1 ≤ 400000000 := by
        refine fold_lo a a0 _ _ (by simp) _ (by simp) fun x hx => ?_
        have h1 := HA.out.2.2.2.2.2.2.2.2.times x (List.mem_of_mem_take hx)
        have h2 := HOK3.out.2.2.2.1
        omega
      obtain ⟨hx0, hx1⟩ := hxb
      have q6 : b5 < w4.heap.size := World.block_lt_of_cell? w4 ⟨b5, k * 5 + 1, none⟩ x1
      obtain ⟨x', hx'⟩ : ∃ x', x' = (foldW a (s.log.take (k + 1)) (-1, 0)).1 := ⟨_, rfl⟩
      obtain ⟨n', hn'⟩ : ∃ n', n' = (foldW a (s.log.take (k + 1)) (-1, 0)).2 := ⟨_, rfl⟩
      rw [← hx', ← hn'] at hsc
      have HX' : Hid (x' = (foldW a (s.log.take (k + 1)) (-1, 0)).1 ∧ n' = (foldW a (s.log.take (k + 1)) (-1, 0)).2) := ⟨hx', hn'⟩
      have hnn : (foldW a (s.log.take k) (-1, 0)).2 ≤ 1000000000 := by simp only at hbd; omega
      clear hx' hn' hj5 hbd hbd2
      generalize (foldW a (s.log.take k) (-1, 0)).1 = x at *
      generalize (foldW a (s.log.take k) (-1, 0)).2 = n at *
      unfold Turn at hsc
      rcases hsc with ⟨d1, rfl, rfl⟩ | ⟨d1, d2, rfl, rfl⟩ | ⟨d1, d2, d3, rfl, rfl⟩ | ⟨d1, d2, d3, d4, rfl, rfl⟩
      all_goals
        go_wp2_with fail
        go_round
        case rel => exact ⟨k + 1, by omega, by go_num, by rw [HX'.out.1], by first | (rw [← HX'.out.2]; done) | (rw [← HX'.out.2]; go_num)⟩
        case measure => simp [intOf]; omega
    · have hki : ¬ (k : Int) < (s.log.length : Int) := by omega
      have hkl : k = s.log.length := by omega
      subst hkl
      have HT : Hid (s.log.take s.log.length = s.log) := List.take_length
      rw [HT.out]
      have hcop : 0 ≤ copiesS a := by unfold copiesS; omega
      obtain ⟨x, hx⟩ : ∃ x, x = (foldW a s.log (-1, 0)).1 := ⟨_, rfl⟩
      obtain ⟨n, hn⟩ : ∃ n, n = (foldW a s.log (-1, 0)).2 := ⟨_, rfl⟩
      have hb1 := HA.out.2.2.1
      have hb2 := HA.out.2.2.2.1
      have hb3 := HA.out.2.2.2.2.2.2.1
      have hb4 := HA.out.2.2.2.2.2.2.2.1
      rw [← hx] at hb1 hb3 hb4 ⊢
      rw [← hn] at hb2 ⊢
      have HX : Hid (x = (foldW a s.log (-1, 0)).1 ∧ n = (foldW a s.log (-1, 0)).2) := ⟨hx, hn⟩
      clear hx hn
      have hsum : (n : Int) + copiesS a ≤ 11 := hb2
      have HC : Hid ((countS s.log 1 a 0 0 : Int) = copiesS a ∧ countS s.log 5 32000 0 0 = 1 ∧ countS s.log 7 31999 0 0 = 0) := ⟨HA.out.1, HA.out.2.2.2.2.1, HA.out.2.2.2.2.2.1⟩
      have dx : decide (x < 0) = true ∨ (decide (x < 0) = false ∧ decide (32000 ≤ x + 4000) = true) := by
        rcases hb1 with h | h
        · exact .inl (by simp [h])
        · by_cases h0 : x < 0
          · exact .inl (by simp [h0])
          · exact .inr ⟨by simp [h0], by simp [h]⟩
      clear hb1 hb2
      rcases dx with dx | ⟨dx, dy⟩
      all_goals
        go_wp2_with fail
        refine (count_any (s := s) 1 a 0 0 _ HS4.out HL.out.1 HL.out.2).mono ?_
        rw [HC.out.1]
        rintro e w' ⟨rfl, rfl⟩
        go_wp2_with fail
        refine (count_any (s := s) 5 32000 0 0 _ HS4.out HL.out.1 HL.out.2).mono ?_
        rw [HC.out.2.1]
        rintro e w' ⟨rfl, rfl⟩
        go_wp2_with fail
        refine (count_any (s := s) 7 31999 0 0 _ HS4.out HL.out.1 HL.out.2).mono ?_
        rw [HC.out.2.2]
        rintro e w' ⟨rfl, rfl⟩
        go_wp2_with fail
        refine (closed_any (s := s) _ HS4.out HL.out.1 HL.out.2 HA.out.2.2.2.2.2.2.2.2.closed).mono ?_
        rintro e w5 ⟨rfl, hb5⟩
        have HB5 : Hid (Below w.heap.size w w5) := HB4.out.trans (hb5.mono HB4.out.size)
        clear hb5 mlog
        go_wp2_with fail
        refine (works_any _).mono ?_
        rintro e w6 ⟨rfl, hb6⟩
        have HB6 : Hid (Below w.heap.size w w6) := HB5.out.trans (hb6.mono HB5.out.size)
        clear hb6
        go_wp2_with fail
        go_ret
        exact ⟨rfl, HB6.out⟩

end Go.Proofs.Ytlmanafplbddoaa
