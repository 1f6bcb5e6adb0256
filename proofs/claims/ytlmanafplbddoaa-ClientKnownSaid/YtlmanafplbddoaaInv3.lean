/- The plain part: time that passes keeps what always holds of a client's machine; at the end it is over. -/
import Derived.Test.YtlmanafplbddoaaInv2
namespace Go.Proofs.Ytlmanafplbddoaa

/-- How many timers can still fire, at most. -/
def leftN (m : Mc) (e f k : Int) : Nat :=
  if m.1 = 2 ∨ m.1 = 3 then 4 + ((36000 - e) / 500).toNat else (if 0 ≤ e then 1 else 0) + (if 0 ≤ f then 1 else 0) + (if 0 ≤ k then 1 else 0)
theorem left_open {m : Mc} (h : m.1 = 2 ∨ m.1 = 3) (e f k : Int) : leftN m e f k = 4 + ((36000 - e) / 500).toNat := if_pos h
theorem left_not {m : Mc} (h : m.1 = 5 ∨ m.1 = 7) (e f k : Int) : leftN m e f k = (if 0 ≤ e then 1 else 0) + (if 0 ≤ f then 1 else 0) + (if 0 ≤ k then 1 else 0) := if_neg (by omega)
theorem left_le {m : Mc} (e f k : Int) (he : 0 ≤ e ∨ m.1 = 5 ∨ m.1 = 7) : leftN m e f k ≤ 76 := by
  unfold leftN
  split
  · have : e / 500 ≥ 0 ∨ m.1 = 5 ∨ m.1 = 7 := by omega
    omega
  · split <;> split <;> split <;> omega

theorem inv_fire {m : Mc} {e f k now t : Int} {log : List (Int × Out)} (h : InvS m e f k now log) (hf : ¬ firstS (dueC e f k) t 14 < 0) :
    ∃ m' e' f' k' now' log', fireS (mkS m e f k now log) (firstS (dueC e f k) t 14) = mkS m' e' f' k' now' log' ∧ InvS m' e' f' k' now' log' ∧ now' ≤ t ∧ leftN m' e' f' k' < leftN m e f k := by
  have hs := may_states h.may
  have n0 := h.now0
  have a1 := h.elo
  have a2 := h.flo
  have a3 := h.klo
  have a4 := h.bds
  have hlate : ∀ t', now ≤ t' → finN log t' = finN log now := fun t' ht => finN_later h.times ht
  have htm : ∀ t', now ≤ t' → ∀ x ∈ log, x.1 ≤ t' := fun t' ht x hx => by have := h.times x hx; omega
  have ho := h.open_
  have hc := h.comp
  have hfin := h.fin
  rcases first_cases e f k t with ⟨h0, -⟩ | ⟨h0, b1, b2, b3, b4⟩ | ⟨h0, b1, b2, b3, b4⟩ | ⟨h0, b1, b2, b3, b4⟩
  · omega
  · rw [h0, fire_E]
    obtain ⟨m', e', f', k', log', hg, hi, hd⟩ := inv_give (e := -1) (f := f) (k := k) (now := e) h.may b1 (htm e (a1 b1)) (by omega) b3 b4 (by omega) h.scan (5, 0, 5)
      (fun x => by obtain ⟨y1, y2, y3, y4, y5, y6⟩ := ho x; exact ⟨by omega, .inl y1, y2, .inr ⟨rfl, rfl⟩, y5, by rw [hlate e (a1 b1)]; exact y6⟩)
      (fun x => by have := hc x; exact ⟨by omega, .inl ⟨by omega, by omega, by omega⟩⟩)
      (fun x => by rw [hlate e (a1 b1)]; exact hfin x) h.run h.over
    refine ⟨_, _, _, _, _, _, hg, hi, b2, ?_⟩
    rcases hd with ⟨d1, d2, d3, d4, d5⟩ | ⟨d1, d2, d3, d4⟩
    · have d1' : m'.1 = 2 ∨ m'.1 = 3 := by omega
      obtain ⟨z1, z2, z3, z4, -, -⟩ := hi.open_ d1'
      rw [left_open d1', left_open d2]
      rcases d5 with d5 | d5 <;> omega
    · subst d2 d3
      rw [left_not d1]
      rcases (show (m.1 = 2 ∨ m.1 = 3) ∨ (m.1 = 5 ∨ m.1 = 7) by omega) with hm | hm
      · rw [left_open hm]
        split <;> split <;> split <;> omega
      · rw [left_not hm]
        rcases d4 with rfl | d4
        · rw [if_pos b1, if_neg (by omega)]; omega
        · simp at d4
  · rw [h0, fire_F]
    obtain ⟨m', e', f', k', log', hg, hi, hd⟩ := inv_give (e := e) (f := -1) (k := k) (now := f) h.may b1 (htm f (a2 b1)) (fun x => by have := b3 x; omega) (by omega) b4 (by omega) h.scan (5, 0, 6)
      (fun x => by obtain ⟨y1, y2, y3, y4, y5, y6⟩ := ho x; exact ⟨by omega, .inr ⟨rfl, rfl⟩, y2, .inl ⟨y3, y4⟩, y5, by rw [hlate f (a2 b1)]; exact y6⟩)
      (fun x => by have := hc x; exact ⟨by omega, .inl ⟨by omega, by omega, by omega⟩⟩)
      (fun x => by rw [hlate f (a2 b1)]; exact hfin x) h.run h.over
    refine ⟨_, _, _, _, _, _, hg, hi, b2, ?_⟩
    rcases hd with ⟨d1, d2, d3, d4, d5⟩ | ⟨d1, d2, d3, d4⟩
    · have d1' : m'.1 = 2 ∨ m'.1 = 3 := by omega
      have := (hi.open_ d1').1
      omega
    · subst d2 d3
      rw [left_not d1]
      rcases (show (m.1 = 2 ∨ m.1 = 3) ∨ (m.1 = 5 ∨ m.1 = 7) by omega) with hm | hm
      · rw [left_open hm]
        split <;> split <;> split <;> omega
      · rw [left_not hm]
        rcases d4 with rfl | d4
        · rw [if_pos b1, if_neg (show ¬ (0 : Int) ≤ -1 by omega)]; omega
        · simp at d4
  · have hm : m.1 = 5 ∨ m.1 = 7 := by
      rcases (show (m.1 = 2 ∨ m.1 = 3) ∨ (m.1 = 5 ∨ m.1 = 7) by omega) with hm | hm
      · have := (ho hm).2.1; omega
      · exact hm
    rw [h0, fire_K]
    obtain ⟨m', e', f', k', log', hg, hi, hd⟩ := inv_give (e := e) (f := f) (k := -1) (now := k) h.may b1 (htm k (a3 b1)) (fun x => by have := b3 x; omega) (fun x => by have := b4 x; omega) (by omega) (by omega) h.scan (5, 0, 11)
      (fun x => by omega)
      (fun x => by have := hc x; exact ⟨by omega, .inr ⟨rfl, rfl⟩⟩)
      (fun x => by rw [hlate k (a3 b1)]; exact hfin x) h.run h.over
    refine ⟨_, _, _, _, _, _, hg, hi, b2, ?_⟩
    rcases hd with ⟨d1, d2, d3, d4, d5⟩ | ⟨d1, d2, d3, d4⟩
    · omega
    · subst d2 d3
      rw [left_not d1, left_not hm]
      rcases d4 with rfl | d4
      · rw [if_pos b1, if_neg (show ¬ (0 : Int) ≤ -1 by omega)]; omega
      · simp at d4

/-- Time that passes. -/
theorem inv_until (n : Nat) {m : Mc} {e f k now t : Int} {log : List (Int × Out)} (h : InvS m e f k now log) (ht : now ≤ t) (hn : leftN m e f k ≤ n) :
    ∃ m' e' f' k' log', untilS n (mkS m e f k now log) t = mkS m' e' f' k' t log' ∧ InvS m' e' f' k' t log' ∧ ¬ (0 ≤ e' ∧ e' ≤ t) ∧ ¬ (0 ≤ f' ∧ f' ≤ t) ∧ ¬ (0 ≤ k' ∧ k' ≤ t) := by
  induction n generalizing m e f k now log with
  | zero =>
    have hs := may_states h.may
    have hstop : firstS (mkS m e f k now log).due t 14 < 0 := by
      rcases Int.lt_or_le (firstS (dueC e f k) t 14) 0 with hlt | hge
      · exact hlt
      · obtain ⟨_, _, _, _, _, _, _, _, _, hlt⟩ := inv_fire h (t := t) (by omega)
        omega
    rw [untilS_stop _ _ _ hstop]
    rcases first_cases e f k t with ⟨h0, b1, b2, b3⟩ | ⟨h0, -⟩ | ⟨h0, -⟩ | ⟨h0, -⟩
    · refine ⟨m, e, f, k, log, ?_, ?_, b1, b2, b3⟩
      · rw [mk_now, show max now t = t by omega]; rfl
      · have hl := finN_later h.times ht
        refine { may := h.may, now0 := by have := h.now0; omega, times := fun x hx => by have := h.times x hx; omega, elo := by omega, flo := by omega, klo := by omega, bds := h.bds, scan := h.scan, open_ := fun x => ?_, comp := fun x => ?_, fin := fun x => by rw [hl]; exact h.fin x, run := h.run, over := h.over }
        · obtain ⟨y1, y2, y3, y4, y5, y6⟩ := h.open_ x
          exact ⟨y1, y2, y3, y4, y5, by rw [hl]; exact y6⟩
        · have := h.comp x; omega
    all_goals (rw [mk_due] at hstop; omega)
  | succ n ih =>
    rcases Int.lt_or_le (firstS (dueC e f k) t 14) 0 with hlt | hge
    · rw [untilS_stop _ _ _ (show firstS (mkS m e f k now log).due t 14 < 0 from hlt)]
      rcases first_cases e f k t with ⟨h0, b1, b2, b3⟩ | ⟨h0, -⟩ | ⟨h0, -⟩ | ⟨h0, -⟩
      · refine ⟨m, e, f, k, log, ?_, ?_, b1, b2, b3⟩
        · rw [mk_now, show max now t = t by omega]; rfl
        · have hl := finN_later h.times ht
          refine { may := h.may, now0 := by have := h.now0; omega, times := fun x hx => by have := h.times x hx; omega, elo := by omega, flo := by omega, klo := by omega, bds := h.bds, scan := h.scan, open_ := fun x => ?_, comp := fun x => ?_, fin := fun x => by rw [hl]; exact h.fin x, run := h.run, over := h.over }
          · obtain ⟨y1, y2, y3, y4, y5, y6⟩ := h.open_ x
            exact ⟨y1, y2, y3, y4, y5, by rw [hl]; exact y6⟩
          · have := h.comp x; omega
      all_goals omega
    · obtain ⟨m', e', f', k', now', log', hg, hi, hle, hlt⟩ := inv_fire h (t := t) (by omega)
      rw [untilS_fire n _ t _ rfl hge, mk_due, hg]
      exact ih hi hle (by omega)

theorem Inv.until {s : Sim} (h : Inv s) {t : Int} (ht : s.now ≤ t) : Inv (untilS 200 s t) ∧ (untilS 200 s t).now = t := by
  obtain ⟨m, e, f, k, now, log, rfl, h⟩ := h
  have hs := may_states h.may
  have ho := h.open_
  have := left_le (m := m) e f k (by omega)
  obtain ⟨m', e', f', k', log', hg, hi, -⟩ := inv_until 200 h ht (by omega)
  rw [hg]
  exact ⟨⟨_, _, _, _, _, _, rfl, hi⟩, rfl⟩
theorem Inv.give {s : Sim} (h : Inv s) {i : In} (hi : ¬ (i.1 = 5 ∧ (i.2.2 = 5 ∨ i.2.2 = 6 ∨ i.2.2 = 11))) : Inv (giveS s i) := by
  obtain ⟨m, e, f, k, now, log, rfl, h⟩ := h
  obtain ⟨m', e', f', k', log', hg, hv, -⟩ := inv_give h.may h.now0 h.times h.elo h.flo h.klo h.bds h.scan i
    (fun x => by obtain ⟨y1, y2, y3, y4, y5, y6⟩ := h.open_ x; exact ⟨by have := h.flo; omega, .inl y1, y2, .inl ⟨y3, y4⟩, y5, y6⟩)
    (fun x => by have h1 := h.comp x; have h2 := h.klo; exact ⟨by omega, .inl h1⟩) h.fin h.run h.over
  exact ⟨_, _, _, _, _, _, hg, hv⟩
theorem Inv.play (l : List Ev) (hl : ∀ e ∈ l, 0 ≤ e.1) : Inv (playS l) := by
  unfold playS
  have : ∀ (r : List Ev) (s : Sim), Inv s → (∀ e ∈ r, 0 ≤ e.1) → Inv (r.foldl evS s) := by
    intro r
    induction r with
    | nil => exact fun s h _ => h
    | cons e r ih =>
      intro s h hr
      refine ih _ ?_ fun x hx => hr x (by simp [hx])
      have := hr e (by simp)
      exact (h.until (by omega)).1.give (by simp)
  exact this _ _ inv_start fun e he => hl e (List.mem_of_mem_take he)

/-- 37000 later it is over. -/
theorem Inv.late {s : Sim} (h : Inv s) : (untilS 200 s (s.now + 37000)).m.1 = 7 := by
  obtain ⟨m, e, f, k, now, log, rfl, h⟩ := h
  have hs := may_states h.may
  have ho := h.open_
  have := left_le (m := m) e f k (by omega)
  have n0 := h.now0
  obtain ⟨m', e', f', k', log', hg, hi, b1, b2, b3⟩ := inv_until 200 h (t := now + 37000) (by omega) (by omega)
  rw [mk_now, hg, mk_m]
  have hs' := may_states hi.may
  rcases hs' with h1 | h1 | h1 | h1
  · have := hi.open_ (.inl h1); omega
  · have := hi.open_ (.inr h1); omega
  · have := hi.comp h1; omega
  · exact h1

theorem closed_of {m : Mc} {e f k now : Int} {log : List (Int × Out)} (h : InvS m e f k now log) : closedS (mkS m e f k now log) = true := by
  unfold closedS
  rw [mk_log, mk_now, mk_m]
  by_cases h7 : m.1 = 7
  · obtain ⟨l, T, rfl, hT, hl⟩ := h.over h7
    have hc : countS (l ++ [(T, (7, 0, 0, 0))]) 7 now 0 1000 = 1 := by
      rw [countS_append, count7 hl]
      have := h.times (T, (7, 0, 0, 0)) (by simp)
      simp [countS, hitS, this]
    rw [hc, h7]
    simp
  · have hc := count7 (h.run h7) now 0 1000
    rw [hc]
    simp [h7]
theorem Inv.closed {s : Sim} (h : Inv s) : closedS s = true := by
  obtain ⟨m, e, f, k, now, log, rfl, h⟩ := h
  exact closed_of h
theorem Inv.may {s : Sim} (h : Inv s) : mayS s.m = true := by
  obtain ⟨m, e, f, k, now, log, rfl, h⟩ := h
  exact h.may
theorem Inv.scan {s : Sim} (h : Inv s) : OkScan s.log := by
  obtain ⟨m, e, f, k, now, log, rfl, h⟩ := h
  exact h.scan
theorem Inv.fin {s : Sim} (h : Inv s) (h7 : s.m.1 = 7) : countS s.log 3 s.now 200 699 + countS s.log 5 s.now 0 1000 + countS s.log 6 s.now 0 1000 = 1 := by
  obtain ⟨m, e, f, k, now, log, rfl, h⟩ := h
  exact h.fin (.inr h7)
theorem Inv.ended {s : Sim} (h : Inv s) (h7 : s.m.1 = 7) : countS s.log 7 37000 0 0 = 1 := by
  obtain ⟨m, e, f, k, now, log, rfl, h⟩ := h
  obtain ⟨l, T, hl, hT, hn⟩ := h.over h7
  rw [mk_log, hl, countS_append, count7 hn]
  simp [countS, hitS, hT]
theorem Inv.times {s : Sim} (h : Inv s) : ∀ x ∈ s.log, x.1 ≤ s.now := by
  obtain ⟨m, e, f, k, now, log, rfl, h⟩ := h
  exact h.times
theorem Inv.now0 {s : Sim} (h : Inv s) : 0 ≤ s.now := by
  obtain ⟨m, e, f, k, now, log, rfl, h⟩ := h
  exact h.now0

end Go.Proofs.Ytlmanafplbddoaa
