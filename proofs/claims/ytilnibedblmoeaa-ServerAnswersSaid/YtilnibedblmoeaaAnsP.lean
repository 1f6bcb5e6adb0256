/- The plain part of ServerAnswers. -/
import Derived.Test.YtilnibedblmoeaaInv2
namespace Go.Proofs.Ytilnibedblmoeaa

/-- The machine between two events: its last answer, and when it is over (-1: not known). -/
def InvA (s : Sim) (last over : Int) : Prop :=
  ∃ m d now log, s = mkS m d now log ∧ InvS m d now log ∧ m.2.2 = last ∧ ((over = -1 ∧ (m.1 = 2 ∨ m.1 = 3)) ∨ (m.1 = 5 ∧ over = d ∧ now < d) ∨ (m.1 = 7 ∧ 0 ≤ over ∧ over ≤ now))

theorem invA_start : InvA startS 0 (-1) := by
  obtain ⟨m, d, now, log, h, hi⟩ := inv_start
  have : (startS).m = (2, 0, 0) := rfl
  rw [h, mk_m] at this
  subst this
  exact ⟨_, d, now, log, h, hi, rfl, .inl ⟨rfl, .inl rfl⟩⟩
theorem InvA.inv {s : Sim} {last over : Int} (h : InvA s last over) : Inv s := by
  obtain ⟨m, d, now, log, rfl, h, -⟩ := h
  exact ⟨_, _, _, _, rfl, h⟩
theorem InvA.last {s : Sim} {last over : Int} (h : InvA s last over) : s.m.2.2 = last := by
  obtain ⟨m, d, now, log, rfl, h, h2, -⟩ := h
  exact h2
theorem InvA.until {s : Sim} {last over t : Int} (h : InvA s last over) (ht : s.now ≤ t) : InvA (untilS 200 s t) last over := by
  obtain ⟨m, d, now, log, rfl, h, h2, h3⟩ := h
  rw [mk_now] at ht
  have hi := inv_until h ht
  have ho := h.open_
  have hd := h.due
  rw [until_mk h.may 198 d now log t]
  split
  · rename_i hh
    rw [if_pos hh] at hi
    refine ⟨_, _, _, _, rfl, hi, ?_, ?_⟩
    · split <;> exact h2
    · rcases h3 with ⟨-, h4⟩ | ⟨h4, h5, h6⟩ | ⟨h4, h5, h6⟩
      · have := ho h4; omega
      · rw [if_pos h4]; exact .inr (.inr ⟨rfl, by omega, by omega⟩)
      · rw [if_neg (by omega)]; exact .inr (.inr ⟨h4, h5, by omega⟩)
  · rename_i hh
    rw [if_neg hh] at hi
    refine ⟨_, _, _, _, rfl, hi, h2, ?_⟩
    rcases h3 with ⟨h4, h5⟩ | ⟨h4, h5, h6⟩ | ⟨h4, h5, h6⟩
    · exact .inl ⟨h4, h5⟩
    · exact .inr (.inl ⟨h4, h5, by have := h.comp h4; omega⟩)
    · exact .inr (.inr ⟨h4, h5, by omega⟩)

/-- What an input puts out. -/
def PutA (s s2 : Sim) (put : List Out) : Prop := s2.log = s.log ++ put.map fun o => (s.now, o)

theorem InvA.cases {s : Sim} {last over : Int} (h : InvA s last over) :
    (over = -1 ∧ s.m.1 ≠ 7 ∧ last = 0) ∨ (over = -1 ∧ s.m.1 ≠ 7 ∧ 100 ≤ last) ∨ (0 ≤ over ∧ s.now < over ∧ s.m.1 ≠ 7 ∧ 200 ≤ last) ∨ (0 ≤ over ∧ over ≤ s.now ∧ s.m.1 = 7 ∧ 100 ≤ last) := by
  obtain ⟨m, d, now, log, rfl, h, h2, h3⟩ := h
  rw [mk_m, mk_now]
  have hc := may_code h.may
  have hcd := h.comp
  subst h2
  omega
/-- A first answer. -/
theorem InvA.answer {s : Sim} {last : Int} (h : InvA s last (-1)) {c : Int} (h1 : 100 ≤ c) (h2 : c ≤ 699) :
    (c < 200 → PutA s (giveS s (4, c, 0)) [(1, c, 0, 0)] ∧ InvA (giveS s (4, c, 0)) c (-1)) ∧
    (200 ≤ c → PutA s (giveS s (4, c, 0)) [(1, c, 0, 0), (4, 0, 10, 32000)] ∧ InvA (giveS s (4, c, 0)) c (s.now + 32000)) := by
  obtain ⟨m, d, now, log, rfl, h, h2', h3⟩ := h
  have h4 : m.1 = 2 ∨ m.1 = 3 := by have := h.comp; omega
  have hg := inv_give h (4, c, 0)
  have hd := h.open_ h4
  rw [give_mk h.may]
  constructor
  · intro hc
    have hc' : c ≤ 199 := by omega
    have e : stepR m (4, c, 0) = ((3, 0, c), [(1, c, 0, 0)]) := by
      unfold stepR
      rw [if_neg (by simp [h.may]), if_pos ⟨h4, rfl, by simp [from_, h1, hc']⟩]
    have e2 : dueG m (4, c, 0) d now = d := by unfold dueG; rw [if_neg (by simp; omega)]
    rw [e, e2] at hg ⊢
    exact ⟨rfl, _, _, _, _, rfl, hg, rfl, .inl ⟨rfl, .inr rfl⟩⟩
  · intro hc
    have hc' : ¬ c ≤ 199 := by omega
    have e : stepR m (4, c, 0) = ((5, 0, c), [(1, c, 0, 0), (4, 0, 10, 32000)]) := by
      unfold stepR
      rw [if_neg (by simp [h.may]), if_neg (by simp [from_, hc']), if_pos ⟨h4, rfl, by simp [from_, hc, h2]⟩]
    have e2 : dueG m (4, c, 0) d now = now + 32000 := by unfold dueG; rw [if_pos ⟨h4, rfl, hc, h2⟩]
    rw [e, e2] at hg ⊢
    exact ⟨rfl, _, _, _, _, rfl, hg, rfl, .inr (.inl ⟨rfl, rfl, by omega⟩)⟩
/-- A later answer. -/
theorem InvA.more {s : Sim} {last over : Int} (h : InvA s last over) (h0 : 0 ≤ over) (c : Int) : PutA s (giveS s (4, c, 0)) [] ∧ InvA (giveS s (4, c, 0)) last over := by
  obtain ⟨m, d, now, log, rfl, h, h2, h3⟩ := h
  have h4 : ¬ (m.1 = 2 ∨ m.1 = 3) := by omega
  have hg := inv_give h (4, c, 0)
  have e : stepR m (4, c, 0) = (m, []) := by
    unfold stepR
    rw [if_neg (by simp [h.may]), if_neg (fun x => h4 x.1), if_neg (fun x => h4 x.1), if_neg (by simp), if_neg (by simp), if_neg (by simp)]
  have e2 : dueG m (4, c, 0) d now = d := by unfold dueG; rw [if_neg (fun x => h4 x.1)]
  rw [give_mk h.may]
  rw [e, e2] at hg ⊢
  exact ⟨rfl, _, _, _, _, rfl, hg, h2, h3⟩
/-- The request again, unanswered or when it is over. -/
theorem InvA.again_no {s : Sim} {last over : Int} (h : InvA s last over) (h0 : last = 0 ∨ (0 ≤ over ∧ over ≤ s.now)) (c : Int) : PutA s (giveS s (1, c, 0)) [] ∧ InvA (giveS s (1, c, 0)) last over := by
  obtain ⟨m, d, now, log, rfl, h, h2, h3⟩ := h
  rw [mk_now] at h0
  have hc := may_code h.may
  have h4 : ¬ (m.1 = 3 ∨ m.1 = 5) := by subst h2; omega
  have hg := inv_give h (1, c, 0)
  have e : stepR m (1, c, 0) = (m, []) := by
    unfold stepR
    rw [if_neg (by simp [h.may]), if_neg (by simp), if_neg (by simp), if_neg (fun x => h4 x.1), if_neg (by simp), if_neg (by simp)]
  have e2 : dueG m (1, c, 0) d now = d := by unfold dueG; rw [if_neg (by simp)]
  rw [give_mk h.may]
  rw [e, e2] at hg ⊢
  exact ⟨rfl, _, _, _, _, rfl, hg, h2, h3⟩
/-- The request again, answered. -/
theorem InvA.again {s : Sim} {last over : Int} (h : InvA s last over) (h0 : 100 ≤ last) (h1 : over = -1 ∨ s.now < over) (c : Int) : PutA s (giveS s (1, c, 0)) [(1, last, 0, 0)] ∧ InvA (giveS s (1, c, 0)) last over := by
  obtain ⟨m, d, now, log, rfl, h, h2, h3⟩ := h
  rw [mk_now] at h1
  have hc := may_code h.may
  have h4 : m.1 = 3 ∨ m.1 = 5 := by subst h2; omega
  have hg := inv_give h (1, c, 0)
  have e : stepR m (1, c, 0) = (m, [(1, m.2.2, 0, 0)]) := by
    unfold stepR
    rw [if_neg (by simp [h.may]), if_neg (by simp), if_neg (by simp), if_pos ⟨h4, rfl⟩]
  have e2 : dueG m (1, c, 0) d now = d := by unfold dueG; rw [if_neg (by simp)]
  rw [give_mk h.may]
  rw [e, e2] at hg ⊢
  subst h2
  exact ⟨rfl, _, _, _, _, rfl, hg, rfl, h3⟩
theorem InvA.nonempty {s : Sim} {last over : Int} (h : InvA s last over) : 0 < s.log.length := by
  have := h.inv.user
  have h2 := countS_le s.log 3 s.now 0 1000
  omega

end Go.Proofs.Ytilnibedblmoeaa
