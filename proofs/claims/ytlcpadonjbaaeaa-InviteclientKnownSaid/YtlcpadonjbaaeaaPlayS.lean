/- The plain part: events happen to a machine with its timers. -/
import Derived.Test.YtlcpadonjbaaeaaStepOk
namespace Go.Proofs.Ytlcpadonjbaaeaa

/-- An event: how long after the one before, kind, code. -/
abbrev Ev := Int × Int × Int
def goodE (e : Ev) : Prop := (0 ≤ e.1 ∧ e.1 ≤ 65535) ∧ (0 ≤ e.2.1 ∧ e.2.1 ≤ 255) ∧ (-9223372036854775808 ≤ e.2.2 ∧ e.2.2 ≤ 9223372036854775807)
def evS (s : Sim) (e : Ev) : Sim := giveS (untilS 200 s (s.now + e.1)) (e.2.1, e.2.2, 0)
def playS (l : List Ev) : Sim := (l.take 40).foldl evS startS

theorem OkS.fire {N : Nat} {s : Sim} {t : Int} (h : OkS N s) (hf : ¬ firstS s.due t 14 < 0) : OkS (N + 8) (fireS s (firstS s.due t 14)) := by
  have h0 : OkS N { s with now := s.due.getD (firstS s.due t 14).toNat (-1), due := s.due.set (firstS s.due t 14).toNat (-1) } := by
    obtain ⟨h1, h2, h3, h4, h5⟩ := h
    rcases firstS_range s.due t 14 with hr | ⟨-, -, r3, r4⟩
    · omega
    · refine ⟨by simpa using h1, fun d hd => ?_, r3, (OkS.due_at ⟨h1, h2, h3, h4, h5⟩ _).2, h5⟩
      rcases List.mem_or_eq_of_mem_set hd with hd | rfl
      · exact h2 d hd
      · omega
  have hk := stepS_ok h.2.2.2.2.2 (5, 0, firstS s.due t 14)
  have := h0.take (stepS s.m (5, 0, firstS s.due t 14)).1 hk.2.2 (stepS s.m (5, 0, firstS s.due t 14)).2 hk.2.1
  exact this.more (by have := hk.1; omega)
theorem OkS.until {t : Int} (n : Nat) {N : Nat} {s : Sim} (h : OkS N s) (ht : t ≤ N * 100000) : OkS (N + n * 8) (untilS n s t) := by
  induction n generalizing N s with
  | zero =>
    obtain ⟨h1, h2, h3, h4, h5⟩ := h
    exact ⟨h1, fun d hd => ⟨(h2 d hd).1, by have := (h2 d hd).2; omega⟩, by simp only [untilS]; omega, by simp only [untilS]; omega, by simp only [untilS]; omega, h5.2⟩
  | succ n ih =>
    rw [untilS]
    split
    · obtain ⟨h1, h2, h3, h4, h5⟩ := h
      exact ⟨h1, fun d hd => ⟨(h2 d hd).1, by have := (h2 d hd).2; omega⟩, by simp only; omega, by simp only; omega, by simp only; omega, h5.2⟩
    · rename_i hf
      exact (ih (h.fire hf) (by omega)).more (by omega)
theorem OkS.give {N : Nat} {s : Sim} (h : OkS N s) (i : In) : OkS (N + 8) (giveS s i) :=
  (h.take (stepS s.m i).1 (stepS_ok h.2.2.2.2.2 i).2.2 (stepS s.m i).2 (stepS_ok h.2.2.2.2.2 i).2.1).more (by have := (stepS_ok h.2.2.2.2.2 i).1; omega)
theorem OkS.ev {N : Nat} {s : Sim} (h : OkS N s) {e : Ev} (he : goodE e) : OkS (N + 1700) (evS s e) := by
  have h4 := h.2.2.2.1
  have := ((h.more (show N ≤ N + 1 by omega)).until 200 (t := s.now + e.1) (by have := he.1; omega)).give (e.2.1, e.2.2, 0)
  exact this.more (by omega)

theorem startS_ok : OkS 9 startS := by
  have h0 : OkS 1 { m := (0, 0, 0), due := List.replicate 14 (-1), now := 0, log := [] } := by
    refine ⟨rfl, ?_, by simp, by simp, by simp, by simp [OkM]⟩
    intro d hd
    have := (List.mem_replicate.1 hd).2
    omega
  exact (h0.take startM start_ok.2.2 startL start_ok.2.1).more (by have := start_ok.1; omega)

end Go.Proofs.Ytlcpadonjbaaeaa
