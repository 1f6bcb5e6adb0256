/- The walks of count and closed. -/
import Derived.Test.YtlcpadonjbaaeaaStart
import Derived.Deep.QuietTactic
import Derived.BigQuiet
namespace Go.Proofs.Ytlcpadonjbaaeaa
open Go.RowKit

/-- The log's entry j. -/
theorem SimV.log_at {w : World} {B g : Nat} {s : Sim} {v : Value} (h : SimV w B g s v) {j : Nat} (hj : j < s.log.length) :
    ∃ b c e, v = .slice (some ⟨b, 0, none⟩) s.log.length c ∧ s.log[j]? = some e ∧ w.cell? ⟨b, j * 5, none⟩ = some (.int .i64 e.1) ∧ w.cell? ⟨b, j * 5 + 1, none⟩ = some (.int .u8 e.2.1) ∧
      w.cell? ⟨b, j * 5 + 2, none⟩ = some (.int .i64 e.2.2.1) ∧ w.cell? ⟨b, j * 5 + 3, none⟩ = some (.int .u8 e.2.2.2.1) ∧ w.cell? ⟨b, j * 5 + 4, none⟩ = some (.int .i64 e.2.2.2.2) := by
  obtain ⟨-, -, hown, -⟩ := h
  have hown2 := hown
  rcases hown.2 with ⟨-, hn⟩ | ⟨b, cap, cur, rfl, -, -⟩
  · omega
  · have he : s.log[j]? = some s.log[j] := List.getElem?_eq_getElem hj
    have g2 (i : Nat) (hi : i < 5) : (s.log.flatMap ecells)[j * 5 + i]? = (ecells s.log[j])[i]? := by rw [flat_get ecells 5 ecells_len _ j i hi, he]; rfl
    have c (i : Nat) (hi : i < 5) (u : Value) (hu : (ecells s.log[j])[i]? = some u) : w.cell? ⟨b, j * 5 + i, none⟩ = some u := by
      have := hown2.cells (g := b) rfl (j * 5 + i) u ((g2 i hi).trans hu)
      have hadd : (⟨b, 0, none⟩ : Addr).add (j * 5 + i) = ⟨b, j * 5 + i, none⟩ := by unfold Addr.add; split <;> simp_all
      rw [hadd] at this
      exact this
    exact ⟨b, cap, s.log[j], rfl, he, c 0 (by omega) _ rfl, c 1 (by omega) _ rfl, c 2 (by omega) _ rfl, c 3 (by omega) _ rfl, c 4 (by omega) _ rfl⟩
theorem SimV.log_slice {w : World} {B g : Nat} {s : Sim} {v : Value} (h : SimV w B g s v) : ∃ A c, v = .slice A s.log.length c ∧ s.log.length ≤ c := own_slice h.2.2.1

/-- The machine's three cells, read as a whole or one by one. -/
theorem SimAt.mcells {w : World} {B g : Nat} {s : Sim} (h : SimAt w B g s) (h14 : s.due.length = 14) : (w.cell? ⟨g, 0, none⟩ = some (.int .u8 s.m.1) ∧ w.cell? ⟨g, 1, none⟩ = some (.int .i64 s.m.2.1) ∧ w.cell? ⟨g, 2, none⟩ = some (.int .i64 s.m.2.2)) ∧ w.cell? ⟨g, 17, none⟩ = some (.int .i64 s.now) ∧ g < w.heap.size := by
  obtain ⟨v, hv⟩ := h
  obtain ⟨h1, h2, -, -, -⟩ := hv.cells h14
  exact ⟨h1, h2, hv.lt⟩

set_option maxRecDepth 100000 in
set_option maxHeartbeats 2000000 in
theorem count_any {B g : Nat} {s : Sim} (kd t lo hi : Int) (w : World) (hs : SimAt w B g s) (h14 : s.due.length = 14) (hlen : s.log.length ≤ 1000000000) :
    Calls Try.prog 11 #[.pointer (some ⟨g, 0, none⟩), .int .u8 kd, .int .i64 t, .int .i64 lo, .int .i64 hi] w fun e w' => e = .returned (.int .i64 (countS s.log kd t lo hi)) ∧ w = w' := by
  obtain ⟨v, hv⟩ := hs
  obtain ⟨A, c, rfl, hc⟩ := hv.log_slice
  have q0 : g < w.heap.size := hv.lt
  obtain ⟨-, -, a4, -, -⟩ := hv.cells h14
  have HV : Hid (SimV w B g s (.slice A s.log.length c)) := hv
  clear hv h14 hc
  go_enter Try.func11, Try.ntmps11
  go_wp2_with fail
  go_loop [11, 12] (fun n i => ∃ j : Nat, j ≤ s.log.length ∧ i = .int .i64 j ∧ n = .int .i64 (countS (s.log.take j) kd t lo hi)) (fun _ i => s.log.length - (intOf i).toNat)
  case atStart => exact ⟨0, by omega, rfl, rfl⟩
  case round =>
    obtain ⟨j, hj, rfl, rfl⟩ := hrel
    by_cases hlt : j < s.log.length
    · have hki : (j : Int) < (s.log.length : Int) := by omega
      obtain ⟨b, c', e, he, hje, e0, e1, e2, -, -⟩ := HV.out.log_at hlt
      cases he
      have hn := countS_le (s.log.take j) kd t lo hi
      rw [List.length_take, Nat.min_eq_left hj] at hn
      have HN : Hid (countS (s.log.take (j + 1)) kd t lo hi = countS (s.log.take j) kd t lo hi + if hitS kd t lo hi e = true then 1 else 0) := countS_snoc hje kd t lo hi
      have HH : Hid (hitS kd t lo hi e = (decide (e.2.1 = kd) && decide (e.1 ≤ t) && decide (lo ≤ e.2.2.1) && decide (e.2.2.1 ≤ hi))) := rfl
      generalize countS (s.log.take j) kd t lo hi = n at hn HN ⊢
      clear hje
      by_cases x1 : e.2.1 = kd
      · have d1 : (e.2.1 == kd) = true := by simpa using x1
        by_cases x2 : e.1 ≤ t
        · have d2 : decide (e.1 ≤ t) = true := by simpa using x2
          by_cases x3 : lo ≤ e.2.2.1
          · have d3 : decide (lo ≤ e.2.2.1) = true := by simpa using x3
            by_cases x4 : e.2.2.1 ≤ hi
            · have d4 : decide (e.2.2.1 ≤ hi) = true := by simpa using x4
              have HH2 : Hid (hitS kd t lo hi e = true) := by show hitS kd t lo hi e = true; rw [HH.out]; simp [x1, x2, x3, x4]
              clear x1 x2 x3 x4
              go_wp2_with fail
              go_round
              case rel => exact ⟨j + 1, by omega, by go_num, by rw [HN.out, if_pos HH2.out]; go_num⟩
              case measure => simp [intOf]; omega
            · have d4 : decide (e.2.2.1 ≤ hi) = false := by simpa using x4
              have HH2 : Hid (¬ hitS kd t lo hi e = true) := by show ¬ hitS kd t lo hi e = true; rw [HH.out]; simp [x4]
              clear x1 x2 x3 x4
              go_wp2_with fail
              go_round
              case rel => exact ⟨j + 1, by omega, by go_num, by rw [HN.out, if_neg HH2.out]; rfl⟩
              case measure => simp [intOf]; omega
          · have d3 : decide (lo ≤ e.2.2.1) = false := by simpa using x3
            have HH2 : Hid (¬ hitS kd t lo hi e = true) := by show ¬ hitS kd t lo hi e = true; rw [HH.out]; simp [x3]
            clear x1 x2 x3
            go_wp2_with fail
            go_round
            case rel => exact ⟨j + 1, by omega, by go_num, by rw [HN.out, if_neg HH2.out]; rfl⟩
            case measure => simp [intOf]; omega
        · have d2 : decide (e.1 ≤ t) = false := by simpa using x2
          have HH2 : Hid (¬ hitS kd t lo hi e = true) := by show ¬ hitS kd t lo hi e = true; rw [HH.out]; simp [x2]
          clear x1 x2
          go_wp2_with fail
          go_round
          case rel => exact ⟨j + 1, by omega, by go_num, by rw [HN.out, if_neg HH2.out]; rfl⟩
          case measure => simp [intOf]; omega
      · have d1 : (e.2.1 == kd) = false := by simpa using x1
        have HH2 : Hid (¬ hitS kd t lo hi e = true) := by show ¬ hitS kd t lo hi e = true; rw [HH.out]; simp [x1]
        clear x1
        go_wp2_with fail
        go_round
        case rel => exact ⟨j + 1, by omega, by go_num, by rw [HN.out, if_neg HH2.out]; rfl⟩
        case measure => simp [intOf]; omega
    · have hki : ¬ (j : Int) < (s.log.length : Int) := by omega
      have hjl : j = s.log.length := by omega
      subst hjl
      go_wp2_with fail
      go_ret
      exact ⟨rfl, rfl⟩

theorem closedS_cases {s : Sim} (h : closedS s = true) : (countS s.log 7 s.now 0 1000 = 0 ∧ s.m.1 ≠ 7) ∨ (countS s.log 7 s.now 0 1000 = 1 ∧ s.m.1 = 7 ∧ ∃ e, s.log.getLast? = some e ∧ e.2.1 = 7) := by
  unfold closedS at h
  split at h
  · cases h
  · rename_i hn
    simp only [not_or, Nat.not_lt, bne_iff_ne, ne_eq, Decidable.not_not, decide_eq_decide] at hn
    obtain ⟨h1, h2⟩ := hn
    by_cases h0 : countS s.log 7 s.now 0 1000 = 0
    · exact .inl ⟨h0, fun x => by have := h2.2 x; omega⟩
    · right
      have e1 : countS s.log 7 s.now 0 1000 = 1 := by omega
      refine ⟨e1, h2.1 e1, ?_⟩
      rw [e1] at h
      cases hl : s.log.getLast? with
      | none => rw [hl] at h; simp at h
      | some e => rw [hl] at h; exact ⟨e, rfl, by simpa using h⟩

set_option maxRecDepth 100000 in
set_option maxHeartbeats 2000000 in
theorem closed_any {B g : Nat} {s : Sim} (w : World) (hs : SimAt w B g s) (h14 : s.due.length = 14) (hlen : s.log.length ≤ 1000000000) (hc : closedS s = true) :
    Calls Try.prog 14 #[.pointer (some ⟨g, 0, none⟩)] w fun e w' => e = .returned (.bool true) ∧ Below w.heap.size w w' := by
  have HS : Hid (SimAt w B g s) := hs
  have H14 : Hid (s.due.length = 14) := h14
  obtain ⟨v, hv⟩ := hs
  have HV : Hid (SimV w B g s v) := hv
  have q0 : g < w.heap.size := hv.lt
  obtain ⟨⟨m0, -, -⟩, mnow, mlog, mf, -⟩ := hv.cells h14
  rcases closedS_cases hc with ⟨h0, h7⟩ | ⟨h1, h7, e, he, h2⟩
  · have H0 : Hid (countS s.log 7 s.now 0 1000 = 0) := h0
    have d7 : (s.m.1 == 7) = false := by simpa using h7
    clear h14 hv h0 h7 hc
    go_enter Try.func14, Try.ntmps14
    go_wp2_with fail
    refine (count_any (s := s) 7 s.now 0 1000 _ HS.out H14.out hlen).mono ?_
    rw [H0.out]
    rintro e w' ⟨rfl, rfl⟩
    go_wp2_with fail
    go_quiet (fail)
    go_wp2_with fail
    go_ret
    exact ⟨rfl, below_drewN (Below.refl _ _) _⟩
  · have H1 : Hid (countS s.log 7 s.now 0 1000 = 1) := h1
    have d7 : (s.m.1 == 7) = true := by simpa using h7
    obtain ⟨n, hn⟩ : ∃ n, s.log.length = n + 1 := by
      cases hl : s.log with
      | nil => rw [hl] at he; cases he
      | cons x y => exact ⟨y.length, rfl⟩
    obtain ⟨b, c, e', rfl, hj, -, e1, -, -, -⟩ := hv.log_at (j := n) (by omega)
    have : e' = e := by
      rw [List.getLast?_eq_getElem?, hn, Nat.add_sub_cancel, hj] at he
      exact Option.some.inj he
    subst this
    have d2 : (e'.2.1 == 7) = true := by simpa using h2
    have hn0 : (0 : Int) ≤ (n : Int) := by omega
    have hn1 : (n : Int) ≤ 1000000000 := by omega
    have HL : Hid (s.log.length = n + 1) := hn
    have HLen : Hid (s.log.length ≤ 1000000000) := hlen
    rw [hn] at mlog
    clear h14 hv h1 h7 hc he hj h2 hn hlen HV
    go_enter Try.func14, Try.ntmps14
    go_wp2_with fail
    refine (count_any (s := s) 7 s.now 0 1000 _ HS.out H14.out HLen.out).mono ?_
    rw [H1.out]
    rintro e w' ⟨rfl, rfl⟩
    go_wp2_with fail
    go_quiet (fail)
    go_wp2_with fail
    go_ret
    exact ⟨rfl, below_drewN (Below.refl _ _) _⟩

end Go.Proofs.Ytlcpadonjbaaeaa
