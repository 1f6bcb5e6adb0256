/- The plain part: time that passes keeps what always holds of a machine; what is over 32000 later. -/
import Derived.Test.YtlcpadonjbaaeaaInv2
namespace Go.Proofs.Ytlcpadonjbaaeaa

/-- How many timers can still fire, at most. -/
def leftN (m : Mc) (a b d q : Int) : Nat :=
  if m.1 = 1 then 5 + ((64000 - a) / 500).toNat else (if 0 ≤ a then 1 else 0) + (if 0 ≤ b then 1 else 0) + (if 0 ≤ d then 1 else 0) + (if 0 ≤ q then 1 else 0)
theorem left_open {m : Mc} (h : m.1 = 1) (a b d q : Int) : leftN m a b d q = 5 + ((64000 - a) / 500).toNat := if_pos h
theorem left_not {m : Mc} (h : m.1 ≠ 1) (a b d q : Int) : leftN m a b d q = (if 0 ≤ a then 1 else 0) + (if 0 ≤ b then 1 else 0) + (if 0 ≤ d then 1 else 0) + (if 0 ≤ q then 1 else 0) := if_neg h
theorem left_le {m : Mc} (a b d q : Int) (ha : m.1 = 1 → 0 ≤ a) : leftN m a b d q ≤ 133 := by
  unfold leftN
  split
  · have := ha ‹_›
    omega
  · split <;> split <;> split <;> split <;> omega

/-- What the timers leave of a state. -/
def Kept (m : Mc) (d q : Int) (m' : Mc) (d' q' : Int) : Prop := (m'.1 = m.1 ∧ (m.1 = 4 → q' = q) ∧ (m.1 = 5 → d' = d)) ∨ (m'.1 = 7 ∧ m.1 ≠ 3)
theorem Kept.trans {m m' m'' : Mc} {d q d' q' d'' q'' : Int} (h : Kept m d q m' d' q') (h' : Kept m' d' q' m'' d'' q'') : Kept m d q m'' d'' q'' := by
  unfold Kept at *
  omega

theorem InvS.late {m : Mc} {a b d q now t : Int} {log : List (Int × Out)} (h : InvS m a b d q now log) (ht : now ≤ t) (ha : 0 ≤ a → t ≤ a) (hb : 0 ≤ b → t ≤ b) (hd : 0 ≤ d → t ≤ d) (hq : 0 ≤ q → t ≤ q) : InvS m a b d q t log := by
  have n0 := h.now0
  exact { may := h.may, now0 := by omega, times := fun x hx => by have := h.times x hx; omega, alo := ha, blo := hb, dlo := hd, qlo := hq, bds := h.bds, scan := h.scan, cnt := h.cnt.later h.times ht, open_ := h.open_, s1 := h.s1, s4 := fun x => by have := h.s4 x; omega, s5 := fun x => by have := h.s5 x; omega, run := h.run, over := h.over }

theorem inv_fire {m : Mc} {a b d q now t : Int} {log : List (Int × Out)} (h : InvS m a b d q now log) (hf : ¬ firstS (dueC a b d q) t 14 < 0) :
    ∃ m' a' b' d' q' now' log', fireS (mkS m a b d q now log) (firstS (dueC a b d q) t 14) = mkS m' a' b' d' q' now' log' ∧ InvS m' a' b' d' q' now' log' ∧ now' ≤ t ∧ leftN m' a' b' d' q' < leftN m a b d q ∧ Kept m d q m' d' q' := by
  have n0 := h.now0
  have a1 := h.alo
  have a2 := h.blo
  have a3 := h.dlo
  have a4 := h.qlo
  have a5 := h.bds
  have h1 := h.s1
  have h4 := h.s4
  have h5 := h.s5
  have htm : ∀ t', now ≤ t' → ∀ x ∈ log, x.1 ≤ t' := fun t' ht x hx => by have := h.times x hx; omega
  rcases first_cases a b d q t with ⟨h0, -⟩ | ⟨h0, b1, b2, b3, b4, b5⟩ | ⟨h0, b1, b2, b3, b4, b5⟩ | ⟨h0, b1, b2, b3, b4, b5⟩ | ⟨h0, b1, b2, b3, b4, b5⟩
  · omega
  · rw [h0, fire_A]
    obtain ⟨m', a', b', d', q', log', hg, hi, hk⟩ := inv_give (a := -1) (b := b) (d := d) (q := q) (now := a) h.may b1 (htm a (a1 b1)) (by omega) b3 b4 b5 (by omega) h.scan (h.cnt.later h.times (a1 b1)) h.open_ (5, 0, 1)
      (fun x => by have := h1 x; exact ⟨by omega, .inl (by omega), .inr ⟨rfl, rfl⟩, by omega, by omega⟩)
      (fun x => by have := h4 x; exact .inl ⟨by omega, by omega⟩)
      (fun x => by have := h5 x; exact .inl ⟨by omega, by omega⟩) h.run h.over
    refine ⟨_, _, _, _, _, _, _, hg, hi, b2, ?_⟩
    have g1 := hi.s1
    have g4 := hi.s4
    have g5 := hi.s5
    rcases hk with ⟨e1, e2, rfl, e3⟩ | ⟨e1, rfl, rfl, e3⟩
    · have := g1 e1
      have := h1 e2
      refine ⟨?_, .inl ⟨by omega, by omega, by omega⟩⟩
      rw [left_open e1, left_open e2]
      rcases e3 with e3 | e3 <;> omega
    · rcases e3 with e3 | ⟨rfl, rfl, e3⟩
      · simp at e3
      · refine ⟨?_, ?_⟩
        · rw [left_not e1]
          by_cases hm : m.1 = 1
          · rw [left_open hm]
            split <;> split <;> split <;> split <;> omega
          · rw [left_not hm, if_pos b1, if_neg (show ¬ (0 : Int) ≤ -1 by omega)]; omega
        · unfold Kept
          rcases e3 with rfl | e3
          · exact .inl ⟨rfl, fun _ => rfl, fun _ => rfl⟩
          · exact .inr e3
  · rw [h0, fire_B]
    obtain ⟨m', a', b', d', q', log', hg, hi, hk⟩ := inv_give (a := a) (b := -1) (d := d) (q := q) (now := b) h.may b1 (htm b (a2 b1)) (fun x => by have := b3 x; omega) (by omega) b4 b5 (by omega) h.scan (h.cnt.later h.times (a2 b1)) h.open_ (5, 0, 2)
      (fun x => by have := h1 x; exact ⟨by omega, .inr ⟨rfl, rfl⟩, .inl (by omega), by omega, by omega⟩)
      (fun x => by have := h4 x; exact .inl ⟨by omega, by omega⟩)
      (fun x => by have := h5 x; exact .inl ⟨by omega, by omega⟩) h.run h.over
    refine ⟨_, _, _, _, _, _, _, hg, hi, b2, ?_⟩
    have g1 := hi.s1
    have g2 := hi.blo
    rcases hk with ⟨e1, e2, rfl, e3⟩ | ⟨e1, rfl, rfl, e3⟩
    · have := g1 e1
      have := h1 e2
      omega
    · rcases e3 with e3 | ⟨rfl, rfl, e3⟩
      · simp at e3
      · refine ⟨?_, ?_⟩
        · rw [left_not e1]
          by_cases hm : m.1 = 1
          · rw [left_open hm]
            split <;> split <;> split <;> split <;> omega
          · rw [left_not hm, if_pos b1, if_neg (show ¬ (0 : Int) ≤ -1 by omega)]; omega
        · unfold Kept
          rcases e3 with rfl | e3
          · exact .inl ⟨rfl, fun _ => rfl, fun _ => rfl⟩
          · exact .inr e3
  · have hm : m.1 ≠ 1 := fun x => by have := h1 x; omega
    rw [h0, fire_D]
    obtain ⟨m', a', b', d', q', log', hg, hi, hk⟩ := inv_give (a := a) (b := b) (d := -1) (q := q) (now := d) h.may b1 (htm d (a3 b1)) (fun x => by have := b3 x; omega) (fun x => by have := b4 x; omega) (by omega) b5 (by omega) h.scan (h.cnt.later h.times (a3 b1)) h.open_ (5, 0, 4)
      (fun x => absurd x hm)
      (fun x => by have := h4 x; exact .inl ⟨by omega, by omega⟩)
      (fun x => .inr ⟨rfl, rfl⟩) h.run h.over
    refine ⟨_, _, _, _, _, _, _, hg, hi, b2, ?_⟩
    have g5 := hi.s5
    rcases hk with ⟨e1, e2, rfl, e3⟩ | ⟨e1, rfl, rfl, e3⟩
    · omega
    · rcases e3 with e3 | ⟨rfl, rfl, e3⟩
      · simp at e3
      · refine ⟨?_, ?_⟩
        · rw [left_not e1, left_not hm, if_pos b1, if_neg (show ¬ (0 : Int) ≤ -1 by omega)]; omega
        · unfold Kept
          rcases e3 with rfl | e3
          · exact .inl ⟨rfl, fun _ => rfl, fun x => by have := g5 x; omega⟩
          · exact .inr e3
  · have hm : m.1 ≠ 1 := fun x => by have := h1 x; omega
    rw [h0, fire_M]
    obtain ⟨m', a', b', d', q', log', hg, hi, hk⟩ := inv_give (a := a) (b := b) (d := d) (q := -1) (now := q) h.may b1 (htm q (a4 b1)) (fun x => by have := b3 x; omega) (fun x => by have := b4 x; omega) (fun x => by have := b5 x; omega) (by omega) (by omega) h.scan (h.cnt.later h.times (a4 b1)) h.open_ (5, 0, 13)
      (fun x => absurd x hm)
      (fun x => .inr ⟨rfl, rfl⟩)
      (fun x => by have := h5 x; exact .inl ⟨by omega, by omega⟩) h.run h.over
    refine ⟨_, _, _, _, _, _, _, hg, hi, b2, ?_⟩
    have g4 := hi.s4
    rcases hk with ⟨e1, e2, rfl, e3⟩ | ⟨e1, rfl, rfl, e3⟩
    · omega
    · rcases e3 with e3 | ⟨rfl, rfl, e3⟩
      · simp at e3
      · refine ⟨?_, ?_⟩
        · rw [left_not e1, left_not hm, if_pos b1, if_neg (show ¬ (0 : Int) ≤ -1 by omega)]; omega
        · unfold Kept
          rcases e3 with rfl | e3
          · exact .inl ⟨rfl, fun x => by have := g4 x; omega, fun _ => rfl⟩
          · exact .inr e3

theorem inv_stop {m : Mc} {a b d q now t : Int} {log : List (Int × Out)} (n : Nat) (h : InvS m a b d q now log) (ht : now ≤ t) (hlt : firstS (dueC a b d q) t 14 < 0) :
    untilS n (mkS m a b d q now log) t = mkS m a b d q t log ∧ InvS m a b d q t log ∧ ¬ (0 ≤ b ∧ b ≤ t) ∧ ¬ (0 ≤ d ∧ d ≤ t) ∧ ¬ (0 ≤ q ∧ q ≤ t) := by
  rw [untilS_stop _ _ _ (show firstS (mkS m a b d q now log).due t 14 < 0 from hlt)]
  rcases first_cases a b d q t with ⟨h0, b1, b2, b3, b4⟩ | ⟨h0, -⟩ | ⟨h0, -⟩ | ⟨h0, -⟩ | ⟨h0, -⟩
  · refine ⟨?_, h.late ht (by omega) (by omega) (by omega) (by omega), b2, b3, b4⟩
    rw [mk_now, show max now t = t by omega]; rfl
  all_goals omega

/-- Time that passes. -/
theorem inv_until (n : Nat) {m : Mc} {a b d q now t : Int} {log : List (Int × Out)} (h : InvS m a b d q now log) (ht : now ≤ t) (hn : leftN m a b d q ≤ n) :
    ∃ m' a' b' d' q' log', untilS n (mkS m a b d q now log) t = mkS m' a' b' d' q' t log' ∧ InvS m' a' b' d' q' t log' ∧ (¬ (0 ≤ b' ∧ b' ≤ t) ∧ ¬ (0 ≤ d' ∧ d' ≤ t) ∧ ¬ (0 ≤ q' ∧ q' ≤ t)) ∧ Kept m d q m' d' q' := by
  induction n generalizing m a b d q now log with
  | zero =>
    have hstop : firstS (dueC a b d q) t 14 < 0 := by
      rcases Int.lt_or_le (firstS (dueC a b d q) t 14) 0 with hlt | hge
      · exact hlt
      · obtain ⟨_, _, _, _, _, _, _, _, _, _, hlt, _⟩ := inv_fire h (t := t) (by omega)
        omega
    obtain ⟨h1, h2, h3⟩ := inv_stop 0 h ht hstop
    exact ⟨_, _, _, _, _, _, h1, h2, h3, .inl ⟨rfl, fun _ => rfl, fun _ => rfl⟩⟩
  | succ n ih =>
    rcases Int.lt_or_le (firstS (dueC a b d q) t 14) 0 with hlt | hge
    · obtain ⟨h1, h2, h3⟩ := inv_stop (n + 1) h ht hlt
      exact ⟨_, _, _, _, _, _, h1, h2, h3, .inl ⟨rfl, fun _ => rfl, fun _ => rfl⟩⟩
    · obtain ⟨m', a', b', d', q', now', log', hg, hi, hle, hlt, hk⟩ := inv_fire h (t := t) (by omega)
      rw [untilS_fire n _ t _ rfl hge, mk_due, hg]
      obtain ⟨m2, a2, b2, d2, q2, log2, g1, g2, g3, g4⟩ := ih hi hle (by omega)
      exact ⟨_, _, _, _, _, _, g1, g2, g3, hk.trans g4⟩

theorem Inv.until {s : Sim} (h : Inv s) {t : Int} (ht : s.now ≤ t) : Inv (untilS 200 s t) ∧ (untilS 200 s t).now = t := by
  obtain ⟨m, a, b, d, q, now, log, rfl, h⟩ := h
  have := left_le (m := m) a b d q (fun x => (h.s1 x).2.1)
  obtain ⟨m', a', b', d', q', log', hg, hi, -⟩ := inv_until 200 h ht (by omega)
  rw [hg]
  exact ⟨⟨_, _, _, _, _, _, _, rfl, hi⟩, rfl⟩
theorem Inv.give {s : Sim} (h : Inv s) (i : In) : Inv (giveS s i) := by
  obtain ⟨m, a, b, d, q, now, log, rfl, h⟩ := h
  obtain ⟨m', a', b', d', q', log', hg, hv, -⟩ := inv_give h.may h.now0 h.times h.alo h.blo h.dlo h.qlo h.bds h.scan h.cnt h.open_ i
    (fun x => by have h1 := h.s1 x; have := h.blo; exact ⟨by omega, .inl h1.1, .inl ⟨h1.2.1, h1.2.2.1⟩, h1.2.2.2⟩)
    (fun x => .inl (h.s4 x)) (fun x => .inl (h.s5 x)) h.run h.over
  exact ⟨_, _, _, _, _, _, _, hg, hv⟩
theorem Inv.play (l : List Ev) (hl : ∀ e ∈ l, 0 ≤ e.1) : Inv (playS l) := by
  unfold playS
  have : ∀ (r : List Ev) (s : Sim), Inv s → (∀ e ∈ r, 0 ≤ e.1) → Inv (r.foldl evS s) := by
    intro r
    induction r with
    | nil => exact fun s h _ => h
    | cons e r ih =>
      intro s h hr
      refine ih _ ?_ fun x hx => hr x (by simp [hx])
      have := hr e (by simp)
      exact (h.until (by omega)).1.give _
  exact this _ _ inv_start fun e he => hl e (List.mem_of_mem_take he)

/-- 32000 later: still Proceeding, or over. -/
theorem Inv.late {s : Sim} (h : Inv s) : (s.m.1 = 3 → (untilS 200 s (s.now + 32000)).m.1 = 3) ∧ (s.m.1 ≠ 3 → (untilS 200 s (s.now + 32000)).m.1 = 7) := by
  obtain ⟨m, a, b, d, q, now, log, rfl, h⟩ := h
  have := left_le (m := m) a b d q (fun x => (h.s1 x).2.1)
  have n0 := h.now0
  have h4 := h.s4
  have h5 := h.s5
  obtain ⟨m', a', b', d', q', log', hg, hi, ⟨b1, b2, b3⟩, hk⟩ := inv_until 200 h (t := now + 32000) (by omega) (by omega)
  have g1 := hi.s1
  have g4 := hi.s4
  have g5 := hi.s5
  have hs' := may_states hi.may
  rw [mk_now, hg, mk_m, mk_m]
  unfold Kept at hk
  omega

theorem closed_of {m : Mc} {a b d q now : Int} {log : List (Int × Out)} (h : InvS m a b d q now log) : closedS (mkS m a b d q now log) = true := by
  unfold closedS
  rw [mk_log, mk_now, mk_m]
  by_cases h7 : m.1 = 7
  · obtain ⟨l, T, rfl, hl⟩ := h.over h7
    have hc : countS (l ++ [(T, (7, 0, 0, 0))]) 7 now 0 1000 = 1 := by
      rw [countS_append, count7 hl]
      have := h.times (T, (7, 0, 0, 0)) (by simp)
      simp [countS, hitS, this]
    rw [hc, h7]
    simp
  · have hc := count7 (h.run h7) now 0 1000
    rw [hc]
    simp [h7]
theorem Inv.closed {s : Sim} (h : Inv s) : closedS s = true := by
  obtain ⟨m, a, b, d, q, now, log, rfl, h⟩ := h
  exact closed_of h
theorem Inv.may {s : Sim} (h : Inv s) : mayS s.m = true := by
  obtain ⟨m, a, b, d, q, now, log, rfl, h⟩ := h
  exact h.may
theorem Inv.scan {s : Sim} (h : Inv s) : OkScan s.log := by
  obtain ⟨m, a, b, d, q, now, log, rfl, h⟩ := h
  exact h.scan
theorem Inv.cnt {s : Sim} (h : Inv s) : CntL s.m.1 s.log s.now := by
  obtain ⟨m, a, b, d, q, now, log, rfl, h⟩ := h
  exact h.cnt
theorem Inv.now0 {s : Sim} (h : Inv s) : 0 ≤ s.now := by
  obtain ⟨m, a, b, d, q, now, log, rfl, h⟩ := h
  exact h.now0

end Go.Proofs.Ytlcpadonjbaaeaa
