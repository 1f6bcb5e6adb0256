/- The plain part: a machine with its timers. (For the three seats that have one; stepS is the seat's own.) -/
import Derived.Test.YtlcpadonjbaaeaaPlain
namespace Go.Proofs.Ytlcpadonjbaaeaa

/-- A machine, when each of its timers fires (-1: not), the time, what it put out and when. -/
structure Sim where
  m : Mc
  due : List Int
  now : Int
  log : List (Int × Out)

def putS (s : Sim) (o : Out) : Sim :=
  { s with log := s.log ++ [(s.now, o)], due := if o.1 = 4 ∧ o.2.2.1 < 14 then s.due.set o.2.2.1.toNat (s.now + max 1 o.2.2.2) else s.due }
def takeS (s : Sim) (m : Mc) (l : List Out) : Sim := l.foldl putS { s with m := m }
def giveS (s : Sim) (i : In) : Sim := takeS s (stepS s.m i).1 (stepS s.m i).2
/-- Which of the first k timers fires first up to time t (-1: none). -/
def firstS (due : List Int) (t : Int) : Nat → Int
  | 0 => -1
  | k + 1 => if 0 ≤ due.getD k (-1) ∧ due.getD k (-1) ≤ t ∧ (firstS due t k < 0 ∨ due.getD k (-1) < due.getD (firstS due t k).toNat (-1)) then k else firstS due t k
/-- One timer fires. -/
def fireS (s : Sim) (f : Int) : Sim := giveS { s with now := s.due.getD f.toNat (-1), due := s.due.set f.toNat (-1) } (5, 0, f)
def untilS : Nat → Sim → Int → Sim
  | 0, s, t => { s with now := max s.now t }
  | n + 1, s, t => if firstS s.due t 14 < 0 then { s with now := max s.now t } else untilS n (fireS s (firstS s.due t 14)) t

/-- A machine's interval is no number beyond int's. -/
def OkM (m : Mc) : Prop := -9223372036854775808 ≤ m.2.1
/-- The numbers of a Sim are small. -/
def OkS (N : Nat) (s : Sim) : Prop :=
  s.due.length = 14 ∧ (∀ d ∈ s.due, -1 ≤ d ∧ d ≤ N * 100000) ∧ 0 ≤ s.now ∧ s.now ≤ N * 100000 ∧ s.log.length ≤ N ∧ OkM s.m
def OkO (o : Out) : Prop := 0 ≤ o.2.2.1 ∧ -100000 ≤ o.2.2.2 ∧ o.2.2.2 ≤ 100000

theorem OkS.more {N M : Nat} {s : Sim} (h : OkS N s) (hNM : N ≤ M) : OkS M s := by
  obtain ⟨h1, h2, h3, h4, h5⟩ := h
  exact ⟨h1, fun d hd => ⟨(h2 d hd).1, by have := (h2 d hd).2; omega⟩, h3, by omega, by omega, h5.2⟩
theorem OkS.m {N : Nat} {s : Sim} (h : OkS N s) (m : Mc) (hm : OkM m) : OkS N { s with m := m } := ⟨h.1, h.2.1, h.2.2.1, h.2.2.2.1, h.2.2.2.2.1, hm⟩
theorem OkS.put {N : Nat} {s : Sim} {o : Out} (h : OkS N s) (ho : OkO o) : OkS (N + 1) (putS s o) := by
  obtain ⟨h1, h2, h3, h4, h5⟩ := h
  obtain ⟨o1, o2, o3⟩ := ho
  refine ⟨?_, ?_, h3, by simp only [putS]; omega, by simp [putS]; omega, h5.2⟩
  · simp only [putS]; split <;> simp [h1]
  · intro d hd
    simp only [putS] at hd
    split at hd
    · rcases List.mem_or_eq_of_mem_set hd with hd | rfl
      · exact ⟨(h2 d hd).1, by have := (h2 d hd).2; omega⟩
      · omega
    · exact ⟨(h2 d hd).1, by have := (h2 d hd).2; omega⟩
theorem OkS.fold {N : Nat} {s : Sim} (h : OkS N s) (l : List Out) (hl : ∀ o ∈ l, OkO o) : OkS (N + l.length) (l.foldl putS s) := by
  induction l generalizing s N with
  | nil => exact h
  | cons o l ih =>
    have := ih (h.put (hl o (by simp))) (fun x hx => hl x (by simp [hx]))
    exact this.more (by simp; omega)
theorem OkS.take {N : Nat} {s : Sim} (h : OkS N s) (m : Mc) (hm : OkM m) (l : List Out) (hl : ∀ o ∈ l, OkO o) : OkS (N + l.length) (takeS s m l) := (h.m m hm).fold l hl
theorem OkS.due_at {N : Nat} {s : Sim} (h : OkS N s) (k : Nat) : -1 ≤ s.due.getD k (-1) ∧ s.due.getD k (-1) ≤ N * 100000 := by
  rcases Nat.lt_or_ge k s.due.length with hk | hk
  · rw [List.getD_eq_getElem?_getD, List.getElem?_eq_getElem hk]
    exact h.2.1 _ (List.getElem_mem hk)
  · rw [List.getD_eq_getElem?_getD, List.getElem?_eq_none hk]
    simp
    omega

theorem firstS_range (due : List Int) (t : Int) (k : Nat) : firstS due t k = -1 ∨ (0 ≤ firstS due t k ∧ firstS due t k < k ∧ 0 ≤ due.getD (firstS due t k).toNat (-1) ∧ due.getD (firstS due t k).toNat (-1) ≤ t) := by
  induction k with
  | zero => exact .inl rfl
  | succ k ih =>
    rw [firstS]
    split
    · rename_i h
      right
      simp only [Int.toNat_natCast]
      exact ⟨by omega, by omega, h.1, h.2.1⟩
    · rcases ih with h | ⟨h1, h2, h3, h4⟩
      · exact .inl h
      · exact .inr ⟨h1, by omega, h3, h4⟩

/-- How many outputs of a kind up to a time, with codes from least to most. -/
def hitS (k t lo hi : Int) (e : Int × Out) : Bool := decide (e.2.1 = k) && decide (e.1 ≤ t) && decide (lo ≤ e.2.2.1) && decide (e.2.2.1 ≤ hi)
def countS (log : List (Int × Out)) (k t lo hi : Int) : Nat := (log.filter (hitS k t lo hi)).length
def closedS (s : Sim) : Bool :=
  if 1 < countS s.log 7 s.now 0 1000 ∨ (decide (countS s.log 7 s.now 0 1000 = 1) != decide (s.m.1 = 7)) = true then false
  else decide (countS s.log 7 s.now 0 1000 = 0) || match s.log.getLast? with | some e => decide (e.2.1 = 7) | none => false

theorem countS_nil (k t lo hi : Int) : countS [] k t lo hi = 0 := rfl
theorem countS_append (a b : List (Int × Out)) (k t lo hi : Int) : countS (a ++ b) k t lo hi = countS a k t lo hi + countS b k t lo hi := by
  simp [countS]
theorem countS_later {log : List (Int × Out)} {k t t' lo hi : Int} (h : ∀ e ∈ log, e.1 ≤ t) (ht : t ≤ t') : countS log k t' lo hi = countS log k t lo hi := by
  unfold countS
  congr 1
  apply List.filter_congr
  intro e he
  have := h e he
  simp only [hitS]
  rw [decide_eq_true (show e.1 ≤ t' by omega), decide_eq_true this]

theorem countS_le (log : List (Int × Out)) (k t lo hi : Int) : countS log k t lo hi ≤ log.length := List.length_filter_le _ _
theorem countS_snoc {log : List (Int × Out)} {j : Nat} {e : Int × Out} (h : log[j]? = some e) (k t lo hi : Int) : countS (log.take (j + 1)) k t lo hi = countS (log.take j) k t lo hi + if hitS k t lo hi e = true then 1 else 0 := by
  rw [List.take_add_one, h, countS_append]
  congr 1
  simp only [countS, Option.toList, List.filter_cons, List.filter_nil]
  split <;> rfl

end Go.Proofs.Ytlcpadonjbaaeaa
