/- The plain part: what holds of a server's machine with its timers, whatever happens. -/
import Derived.Test.YtilnibedblmoeaaInv
import Derived.Test.YtilnibedblmoeaaPlayS
namespace Go.Proofs.Ytilnibedblmoeaa

/-- What always holds. -/
structure InvS (m : Mc) (d now : Int) (log : List (Int × Out)) : Prop where
  may : mayS m = true
  now0 : 0 ≤ now
  times : ∀ e ∈ log, e.1 ≤ now
  due : 0 ≤ d → now ≤ d
  dlo : -1 ≤ d
  dhi : d ≤ now + 32000
  open_ : m.1 = 2 ∨ m.1 = 3 → d = -1
  comp : m.1 = 5 → 0 ≤ d
  user : countS log 3 now 0 1000 = 1
  run : m.1 ≠ 7 → countS log 7 now 0 1000 = 0
  over : m.1 = 7 → countS log 7 now 0 1000 = 1 ∧ ∃ e, log.getLast? = some e ∧ e.2.1 = 7
def Inv (s : Sim) : Prop := ∃ m d now log, s = mkS m d now log ∧ InvS m d now log

theorem inv_start : Inv startS :=
  ⟨_, _, _, _, startS_eq, { may := rfl, now0 := by omega, times := by simp, due := by omega, dlo := by omega, dhi := by omega, open_ := fun _ => rfl, comp := by simp, user := by decide, run := fun _ => by decide, over := by simp }⟩

theorem closed_of {m : Mc} {d now : Int} {log : List (Int × Out)} (h : InvS m d now log) : closedS (mkS m d now log) = true := by
  unfold closedS
  rw [mk_log, mk_now, mk_m]
  by_cases h7 : m.1 = 7
  · obtain ⟨h1, e, he, h2⟩ := h.over h7
    simp [h1, h7, he, h2]
  · have h1 := h.run h7
    simp [h1, h7]
theorem Inv.closed {s : Sim} (h : Inv s) : closedS s = true := by
  obtain ⟨m, d, now, log, rfl, h⟩ := h
  exact closed_of h
theorem Inv.user {s : Sim} (h : Inv s) : countS s.log 3 s.now 0 1000 = 1 := by
  obtain ⟨m, d, now, log, rfl, h⟩ := h
  exact h.user
theorem Inv.may {s : Sim} (h : Inv s) : mayS s.m = true := by
  obtain ⟨m, d, now, log, rfl, h⟩ := h
  exact h.may

theorem may_code {m : Mc} (h : mayS m = true) : (m.1 = 2 ∧ m.2.2 = 0) ∨ (m.1 = 3 ∧ 100 ≤ m.2.2 ∧ m.2.2 ≤ 199) ∨ (m.1 = 5 ∧ 200 ≤ m.2.2 ∧ m.2.2 ≤ 699) ∨ (m.1 = 7 ∧ 100 ≤ m.2.2 ∧ m.2.2 ≤ 699) := by
  obtain ⟨h0, hs⟩ := may_states h
  unfold mayS at h
  rcases hs with h1 | h1 | h1 | h1 <;> simp [h0, h1, from_] at h <;> simp [h1, h]

/-- What one step puts out, and where it leads: the cases. -/
theorem stepR_cases {m : Mc} (hm : mayS m = true) (i : In) :
    ((stepR m i).1.1 = 3 ∧ (stepR m i).1.2.2 = i.2.1 ∧ (m.1 = 2 ∨ m.1 = 3) ∧ i.1 = 4 ∧ (100 ≤ i.2.1 ∧ i.2.1 ≤ 199) ∧ (stepR m i).2 = [(1, i.2.1, 0, 0)]) ∨
    ((stepR m i).1.1 = 5 ∧ (stepR m i).1.2.2 = i.2.1 ∧ (m.1 = 2 ∨ m.1 = 3) ∧ i.1 = 4 ∧ (200 ≤ i.2.1 ∧ i.2.1 ≤ 699) ∧ (stepR m i).2 = [(1, i.2.1, 0, 0), (4, 0, 10, 32000)]) ∨
    ((stepR m i).1 = m ∧ (m.1 = 3 ∨ m.1 = 5) ∧ i.1 = 1 ∧ (stepR m i).2 = [(1, m.2.2, 0, 0)]) ∨
    ((stepR m i).1.1 = 7 ∧ (stepR m i).1.2.2 = m.2.2 ∧ (m.1 = 3 ∨ m.1 = 5) ∧ (stepR m i).2 = [(6, 0, 0, 0), (7, 0, 0, 0)]) ∨
    ((stepR m i).1.1 = 7 ∧ (stepR m i).1.2.2 = m.2.2 ∧ m.1 = 5 ∧ (stepR m i).2 = [(7, 0, 0, 0)]) ∨
    ((stepR m i).1 = m ∧ (stepR m i).2 = []) := by
  unfold stepR
  rw [if_neg (by simp [hm])]
  split
  · rename_i h
    have := h.2.2
    simp only [from_, Bool.and_eq_true, decide_eq_true_eq] at this
    exact .inl ⟨rfl, rfl, h.1, h.2.1, this, rfl⟩
  · split
    · rename_i h
      have := h.2.2
      simp only [from_, Bool.and_eq_true, decide_eq_true_eq] at this
      exact .inr (.inl ⟨rfl, rfl, h.1, h.2.1, this, rfl⟩)
    · split
      · rename_i h
        exact .inr (.inr (.inl ⟨rfl, h.1, h.2, rfl⟩))
      · split
        · rename_i h
          exact .inr (.inr (.inr (.inl ⟨rfl, rfl, h.1, rfl⟩)))
        · split
          · rename_i h
            exact .inr (.inr (.inr (.inr (.inl ⟨rfl, rfl, h.1, rfl⟩))))
          · exact .inr (.inr (.inr (.inr (.inr ⟨rfl, rfl⟩))))

theorem stepR_may {m : Mc} (hm : mayS m = true) (i : In) : mayS (stepR m i).1 = true := by
  have hc := may_code hm
  unfold stepR
  rw [if_neg (by simp [hm])]
  repeat' split
  all_goals first
    | exact hm
    | (rename_i h; have := h.2.2; simp only [from_, Bool.and_eq_true, decide_eq_true_eq] at this; simp [mayS, from_, this])
    | (simp only [mayS, from_]; simp; omega)

theorem hit_not {k t lo hi x : Int} {o : Out} (h : o.1 ≠ k) : hitS k t lo hi (x, o) = false := by simp [hitS, h]

/-- An input keeps it. -/
theorem inv_give {m : Mc} {d now : Int} {log : List (Int × Out)} (h : InvS m d now log) (i : In) :
    InvS (stepR m i).1 (dueG m i d now) now (log ++ (stepR m i).2.map fun o => (now, o)) := by
  have hc := may_code h.may
  have hc2 := may_code (stepR_may h.may i)
  have htimes : ∀ e ∈ log ++ (stepR m i).2.map (fun o => (now, o)), e.1 ≤ now := by
    intro e he
    rcases List.mem_append.1 he with he | he
    · exact h.times e he
    · obtain ⟨o, _, rfl⟩ := List.mem_map.1 he
      exact Int.le_refl _
  have hd : dueG m i d now = d ∨ (dueG m i d now = now + 32000 ∧ (m.1 = 2 ∨ m.1 = 3) ∧ i.1 = 4 ∧ 200 ≤ i.2.1 ∧ i.2.1 ≤ 699) := by
    unfold dueG
    split
    · rename_i hh; exact .inr ⟨rfl, hh⟩
    · exact .inl rfl
  have n0 := h.now0
  have a1 := h.due
  have a2 := h.dlo
  have a3 := h.dhi
  have a4 := h.open_
  have a5 := h.comp
  have hnot : m.1 = 2 ∨ m.1 = 3 → m.1 ≠ 7 := by omega
  have hn5 : m.1 = 3 ∨ m.1 = 5 → m.1 ≠ 7 := by omega
  have hu := h.user
  refine { may := stepR_may h.may i, now0 := n0, times := htimes, due := ?_, dlo := ?_, dhi := ?_, open_ := ?_, comp := ?_, user := ?_, run := ?_, over := ?_ }
  · rcases hd with hd | ⟨hd, _⟩ <;> rw [hd] <;> omega
  · rcases hd with hd | ⟨hd, _⟩ <;> rw [hd] <;> omega
  · rcases hd with hd | ⟨hd, _⟩ <;> rw [hd] <;> omega
  · intro h23
    rcases stepR_cases h.may i with ⟨x1, x2, x3, x4, x5, x6⟩ | ⟨x1, x2, x3, x4, x5, x6⟩ | ⟨x1, x2, x3, x6⟩ | ⟨x1, x2, x3, x6⟩ | ⟨x1, x2, x3, x6⟩ | ⟨x1, x6⟩
    · rcases hd with hd | ⟨hd, y⟩
      · rw [hd]; exact a4 x3
      · omega
    · omega
    · rw [x1] at h23
      rcases hd with hd | ⟨hd, y⟩
      · rw [hd]; exact a4 h23
      · omega
    · omega
    · omega
    · rw [x1] at h23
      rcases hd with hd | ⟨hd, y⟩
      · rw [hd]; exact a4 h23
      · exfalso
        have x7 : (stepR m i).1.1 = m.1 := by rw [x1]
        have : (stepR m i).1.1 = 5 := by
          rcases stepR_cases h.may i with ⟨z1, z2, z3, z4, z5, z6⟩ | ⟨z1, z2, z3, z4, z5, z6⟩ | ⟨z1, z2, z3, z6⟩ | ⟨z1, z2, z3, z6⟩ | ⟨z1, z2, z3, z6⟩ | ⟨z1, z6⟩
          · omega
          · exact z1
          · omega
          · omega
          · omega
          · unfold stepR at z6
            rw [if_neg (by simp [h.may]), if_neg (by simp [from_]; omega), if_pos (by simp [from_]; omega)] at z6
            cases z6
        rw [x1] at this
        omega
  · intro h5
    rcases hd with hd | ⟨hd, y⟩
    · rw [hd]
      rcases stepR_cases h.may i with ⟨x1, x2, x3, x4, x5, x6⟩ | ⟨x1, x2, x3, x4, x5, x6⟩ | ⟨x1, x2, x3, x6⟩ | ⟨x1, x2, x3, x6⟩ | ⟨x1, x2, x3, x6⟩ | ⟨x1, x6⟩
      · omega
      · exfalso
        have : dueG m i d now = now + 32000 := by unfold dueG; rw [if_pos ⟨x3, x4, x5.1, x5.2⟩]
        have := a4 x3
        omega
      · rw [x1] at h5; exact a5 h5
      · omega
      · omega
      · rw [x1] at h5; exact a5 h5
    · rw [hd]; omega
  · rw [countS_append, hu]
    rcases stepR_cases h.may i with ⟨x1, x2, x3, x4, x5, x6⟩ | ⟨x1, x2, x3, x4, x5, x6⟩ | ⟨x1, x2, x3, x6⟩ | ⟨x1, x2, x3, x6⟩ | ⟨x1, x2, x3, x6⟩ | ⟨x1, x6⟩ <;> rw [x6] <;> simp [countS, hitS]
  · intro h7
    rw [countS_append]
    rcases stepR_cases h.may i with ⟨x1, x2, x3, x4, x5, x6⟩ | ⟨x1, x2, x3, x4, x5, x6⟩ | ⟨x1, x2, x3, x6⟩ | ⟨x1, x2, x3, x6⟩ | ⟨x1, x2, x3, x6⟩ | ⟨x1, x6⟩
    · rw [h.run (hnot x3), x6]; simp [countS, hitS]
    · rw [h.run (hnot x3), x6]; simp [countS, hitS]
    · rw [h.run (hn5 x2), x6]; simp [countS, hitS]
    · exact absurd x1 h7
    · exact absurd x1 h7
    · rw [x1] at h7
      rw [h.run h7, x6]; simp [countS]
  · intro h7
    rw [countS_append]
    rcases stepR_cases h.may i with ⟨x1, x2, x3, x4, x5, x6⟩ | ⟨x1, x2, x3, x4, x5, x6⟩ | ⟨x1, x2, x3, x6⟩ | ⟨x1, x2, x3, x6⟩ | ⟨x1, x2, x3, x6⟩ | ⟨x1, x6⟩
    · omega
    · omega
    · rw [x1] at h7; omega
    · rw [h.run (hn5 x3), x6]
      refine ⟨?_, (now, (7, 0, 0, 0)), ?_, rfl⟩
      · simp [countS, hitS]
      · simp
    · rw [h.run (by omega), x6]
      refine ⟨?_, (now, (7, 0, 0, 0)), ?_, rfl⟩
      · simp [countS, hitS]
      · simp
    · rw [x1] at h7
      rw [x6]
      simpa [countS] using h.over h7

/-- Time that passes keeps it. -/
theorem inv_until {m : Mc} {d now : Int} {log : List (Int × Out)} (h : InvS m d now log) {t : Int} (ht : now ≤ t) :
    if 0 ≤ d ∧ d ≤ t then InvS (if m.1 = 5 then (7, 0, m.2.2) else m) (-1) t (log ++ if m.1 = 5 then [(d, (7, 0, 0, 0))] else []) else InvS m d (max now t) log := by
  have n0 := h.now0
  have hl : ∀ k lo hi, countS log k t lo hi = countS log k now lo hi := fun k lo hi => countS_later h.times ht
  have ht2 : ∀ e ∈ log, e.1 ≤ t := fun e he => by have := h.times e he; omega
  have a1 := h.due
  have a2 := h.dlo
  have a3 := h.dhi
  have a4 := h.open_
  have a5 := h.comp
  split
  · rename_i hd
    by_cases h5 : m.1 = 5
    · rw [if_pos h5, if_pos h5]
      have hc := may_code h.may
      refine { may := ?_, now0 := by omega, times := ?_, due := by omega, dlo := by omega, dhi := by omega, open_ := by simp, comp := by simp, user := ?_, run := by simp, over := ?_ }
      · simp [mayS, from_]; omega
      · intro e he
        rcases List.mem_append.1 he with he | he
        · exact ht2 e he
        · rw [List.mem_singleton.1 he]; exact hd.2
      · rw [countS_append, hl, h.user]
        simp [countS, hitS]
      · intro _
        rw [countS_append, hl, h.run (by omega)]
        refine ⟨?_, (d, (7, 0, 0, 0)), by simp, rfl⟩
        simp [countS, hitS, hd.2]
    · rw [if_neg h5, if_neg h5, List.append_nil]
      exact { may := h.may, now0 := by omega, times := ht2, due := by omega, dlo := by omega, dhi := by omega, open_ := fun _ => rfl, comp := fun x => absurd x h5, user := by rw [hl, h.user], run := fun x => by rw [hl, h.run x], over := fun x => by rw [hl]; exact h.over x }
  · rename_i hd
    rw [show max now t = t by omega]
    exact { may := h.may, now0 := by omega, times := ht2, due := by omega, dlo := a2, dhi := by omega, open_ := a4, comp := a5, user := by rw [hl, h.user], run := fun x => by rw [hl, h.run x], over := fun x => by rw [hl]; exact h.over x }

theorem Inv.give {s : Sim} (h : Inv s) (i : In) : Inv (giveS s i) := by
  obtain ⟨m, d, now, log, rfl, h⟩ := h
  rw [give_mk h.may]
  exact ⟨_, _, _, _, rfl, inv_give h i⟩
theorem Inv.until {s : Sim} (h : Inv s) (n : Nat) {t : Int} (ht : s.now ≤ t) : Inv (untilS (n + 2) s t) := by
  obtain ⟨m, d, now, log, rfl, h⟩ := h
  rw [until_mk h.may n d now log t]
  have := inv_until h (t := t) ht
  split
  · rename_i hd; rw [if_pos hd] at this; exact ⟨_, _, _, _, rfl, this⟩
  · rename_i hd; rw [if_neg hd] at this; exact ⟨_, _, _, _, rfl, this⟩
/-- Some 32000 milliseconds later no machine waits for J. -/
theorem Inv.late {s : Sim} (h : Inv s) (n : Nat) : (untilS (n + 2) s (s.now + 32000)).m.1 ≠ 5 := by
  obtain ⟨m, d, now, log, rfl, h⟩ := h
  rw [until_mk h.may n d now log _, mk_now]
  have a3 := h.dhi
  have a5 := h.comp
  split
  · rw [mk_m]; split
    · simp
    · assumption
  · rename_i hd
    rw [mk_m]
    intro h5
    exact hd ⟨a5 h5, a3⟩

theorem Inv.ev {s : Sim} (h : Inv s) {e : Ev} (he : 0 ≤ e.1) : Inv (evS s e) := (h.until 198 (by omega)).give _
theorem Inv.play (l : List Ev) (hl : ∀ e ∈ l, 0 ≤ e.1) (k : Nat) : Inv ((l.take k).foldl evS startS) := by
  have : ∀ (l : List Ev) (s : Sim), Inv s → (∀ e ∈ l, 0 ≤ e.1) → Inv (l.foldl evS s) := by
    intro l
    induction l with
    | nil => exact fun _ h _ => h
    | cons e l ih => exact fun s h hl => ih _ (h.ev (hl e (by simp))) fun x hx => hl x (by simp [hx])
  exact this _ _ inv_start fun e he => hl e (List.mem_of_mem_take he)

end Go.Proofs.Ytilnibedblmoeaa
