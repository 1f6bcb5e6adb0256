/- The plain part: what holds of a client's machine with its timers, whatever happens. -/
import Derived.Test.YtlmanafplbddoaaInv
import Derived.Test.YtlmanafplbddoaaPlayS
namespace Go.Proofs.Ytlmanafplbddoaa

/-- Does an output tell the user how the request ended? -/
def finB (e : Int × Out) : Bool := (decide (e.2.1 = 3) && decide (200 ≤ e.2.2.1)) || decide (e.2.1 = 5) || decide (e.2.1 = 6)
/-- Nothing goes to the user or to the net behind such an output. -/
def OkScan (log : List (Int × Out)) : Prop := ∀ j e, log[j]? = some e → (e.2.1 = 3 ∨ e.2.1 = 1) → (log.take j).any finB = false
theorem OkScan.snoc {log : List (Int × Out)} (h : OkScan log) (e : Int × Out) (he : (e.2.1 = 3 ∨ e.2.1 = 1) → log.any finB = false) : OkScan (log ++ [e]) := by
  intro j x hx hk
  rcases Nat.lt_or_ge j log.length with hj | hj
  · rw [List.getElem?_append_left hj] at hx
    rw [List.take_append_of_le_length (by omega)]
    exact h j x hx hk
  · rw [List.getElem?_append_right hj] at hx
    have : j - log.length = 0 := by
      rcases Nat.eq_zero_or_pos (j - log.length) with h0 | h0
      · exact h0
      · rw [List.getElem?_eq_none (by simp; omega)] at hx; cases hx
    rw [this] at hx
    simp at hx
    subst hx
    rw [show j = log.length by omega, List.take_left']
    · exact he hk
    · rfl
theorem OkScan.snoc2 {log : List (Int × Out)} (h : OkScan log) (a b : Int × Out) (ha : (a.2.1 = 3 ∨ a.2.1 = 1) → log.any finB = false) (hb : ¬ (b.2.1 = 3 ∨ b.2.1 = 1)) : OkScan (log ++ [a, b]) := by
  have := (h.snoc a ha).snoc b (fun x => absurd x hb)
  simpa using this

/-- How often the user learned how the request ended. -/
def finN (log : List (Int × Out)) (t : Int) : Nat := countS log 3 t 200 699 + countS log 5 t 0 1000 + countS log 6 t 0 1000
theorem finN_append (a b : List (Int × Out)) (t : Int) : finN (a ++ b) t = finN a t + finN b t := by
  simp only [finN, countS_append]; omega
theorem finN_later {log : List (Int × Out)} {t t' : Int} (h : ∀ e ∈ log, e.1 ≤ t) (ht : t ≤ t') : finN log t' = finN log t := by
  simp only [finN, countS_later h ht]

/-- What always holds. -/
structure InvS (m : Mc) (e f k now : Int) (log : List (Int × Out)) : Prop where
  may : mayS m = true
  now0 : 0 ≤ now
  times : ∀ x ∈ log, x.1 ≤ now
  elo : 0 ≤ e → now ≤ e
  flo : 0 ≤ f → now ≤ f
  klo : 0 ≤ k → now ≤ k
  bds : -1 ≤ e ∧ -1 ≤ f ∧ -1 ≤ k
  scan : OkScan log
  open_ : m.1 = 2 ∨ m.1 = 3 → f = 32000 ∧ k < 0 ∧ 0 ≤ e ∧ e ≤ 36000 ∧ log.any finB = false ∧ finN log now = 0
  comp : m.1 = 5 → 0 ≤ k ∧ k ≤ 37000 ∧ k ≤ now + 5000
  fin : m.1 = 5 ∨ m.1 = 7 → finN log now = 1
  run : m.1 ≠ 7 → ∀ x ∈ log, x.2.1 ≠ 7
  over : m.1 = 7 → ∃ l T, log = l ++ [(T, (7, 0, 0, 0))] ∧ T ≤ 37000 ∧ ∀ x ∈ l, x.2.1 ≠ 7
def Inv (s : Sim) : Prop := ∃ m e f k now log, s = mkS m e f k now log ∧ InvS m e f k now log

theorem inv_start : Inv startS := by
  refine ⟨_, _, _, _, _, _, startS_eq, { may := rfl, now0 := by omega, times := by simp, elo := by omega, flo := by omega, klo := by omega, bds := by omega, scan := ?_, open_ := fun _ => ⟨rfl, by omega, by omega, by omega, by decide, by decide⟩, comp := by simp, fin := by simp, run := fun _ => by simp, over := by simp }⟩
  have h0 : OkScan [] := fun j e h => by simp at h
  have := ((h0.snoc (0, (1, 0, 0, 0)) (fun _ => rfl)).snoc (0, (4, 0, 5, 500)) (by simp)).snoc (0, (4, 0, 6, 32000)) (by simp)
  simpa using this

theorem times_snoc {log : List (Int × Out)} {now : Int} (h : ∀ x ∈ log, x.1 ≤ now) (l : List Out) : ∀ x ∈ log ++ l.map (fun o => (now, o)), x.1 ≤ now := by
  intro x hx
  rcases List.mem_append.1 hx with hx | hx
  · exact h x hx
  · obtain ⟨o, _, rfl⟩ := List.mem_map.1 hx
    exact Int.le_refl _
theorem count7 {log : List (Int × Out)} (h : ∀ x ∈ log, x.2.1 ≠ 7) (t lo hi : Int) : countS log 7 t lo hi = 0 := by
  unfold countS
  rw [List.filter_eq_nil_iff.2]
  · rfl
  · intro x hx
    simp [hitS, h x hx]

/-- An input keeps it, where the timers that fire have been taken away. 'ed': E has just fired. -/
theorem inv_give {m : Mc} {e f k now : Int} {log : List (Int × Out)} (hm : mayS m = true) (now0 : 0 ≤ now) (times : ∀ x ∈ log, x.1 ≤ now) (elo : 0 ≤ e → now ≤ e) (flo : 0 ≤ f → now ≤ f) (klo : 0 ≤ k → now ≤ k)
    (bds : -1 ≤ e ∧ -1 ≤ f ∧ -1 ≤ k) (scan : OkScan log) (i : In)
    (hopen : m.1 = 2 ∨ m.1 = 3 → now ≤ 32000 ∧ (f = 32000 ∨ (i.1 = 5 ∧ i.2.2 = 6)) ∧ k < 0 ∧ ((0 ≤ e ∧ e ≤ 36000) ∨ (i.1 = 5 ∧ i.2.2 = 5)) ∧ log.any finB = false ∧ finN log now = 0)
    (hcomp : m.1 = 5 → now ≤ 37000 ∧ ((0 ≤ k ∧ k ≤ 37000 ∧ k ≤ now + 5000) ∨ (i.1 = 5 ∧ i.2.2 = 11)))
    (hfin : m.1 = 5 ∨ m.1 = 7 → finN log now = 1) (hrun : m.1 ≠ 7 → ∀ x ∈ log, x.2.1 ≠ 7)
    (hover : m.1 = 7 → ∃ l T, log = l ++ [(T, (7, 0, 0, 0))] ∧ T ≤ 37000 ∧ ∀ x ∈ l, x.2.1 ≠ 7) :
    ∃ m' e' f' k' log', giveS (mkS m e f k now log) i = mkS m' e' f' k' now log' ∧ InvS m' e' f' k' now log' ∧
      ((m'.1 = m.1 ∨ m'.1 = 3) ∧ (m.1 = 2 ∨ m.1 = 3) ∧ f' = f ∧ k' = k ∧ (e' = e ∨ (i.1 = 5 ∧ i.2.2 = 5 ∧ now + 1000 ≤ e')) ∨
       (m'.1 = 5 ∨ m'.1 = 7) ∧ e' = e ∧ f' = f ∧ (k' = k ∨ i.1 = 2)) := by
  rcases give_cases hm e f k now log i with ⟨h1, h2, h3, hg⟩ | ⟨h1, h2, h3, hg⟩ | ⟨h1, h2, hg⟩ | ⟨h1, h2, h3, hg⟩ | ⟨h1, h2, h3, hg⟩ | ⟨h1, h2, h3, hg⟩ | ⟨h1, h2, hg⟩
  · obtain ⟨x1, x2, x3, x4, x5, x6⟩ := hopen h1
    have hw := waitE_bd hm h1
    have hno := hrun (by omega)
    refine ⟨_, _, _, _, _, hg, ?_, .inl ⟨.inl rfl, h1, rfl, rfl, .inr ⟨h2, h3, by omega⟩⟩⟩
    refine { may := ?_, now0 := now0, times := times_snoc times [_, _], elo := by omega, flo := flo, klo := klo, bds := by omega, scan := scan.snoc2 _ _ (fun _ => x5) (by simp), open_ := fun _ => ⟨by omega, x3, by omega, by omega, ?_, ?_⟩, comp := fun h => by omega, fin := fun h => by omega, run := fun _ => ?_, over := fun h => by omega }
    · have hl := (may_open hm h1).2
      unfold mayS
      rw [if_pos h1]
      simp only [Bool.and_eq_true, decide_eq_true_eq, and_true]
      unfold shortB waitE longerS
      rcases h1 with h1 | h1 <;> rw [h1] <;> rcases hl with hl | hl | hl | hl <;> rw [hl] <;> decide
    · rw [List.any_append, x5]; rfl
    · rw [finN_append, x6]; simp [finN, countS, hitS]
    · intro x hx
      rcases List.mem_append.1 hx with hx | hx
      · exact hno x hx
      · simp at hx; rcases hx with rfl | rfl <;> simp
  · obtain ⟨x1, x2, x3, x4, x5, x6⟩ := hopen h1
    have hno := hrun (by omega)
    refine ⟨_, _, _, _, _, hg, ?_, .inr ⟨.inr rfl, rfl, rfl, .inl rfl⟩⟩
    refine { may := rfl, now0 := now0, times := times_snoc times [_, _], elo := elo, flo := flo, klo := klo, bds := bds, scan := scan.snoc2 _ _ (by simp) (by simp), open_ := by simp, comp := by simp, fin := fun _ => ?_, run := by simp, over := fun _ => ⟨log ++ [(now, (5, 0, 0, 0))], now, by simp, by omega, ?_⟩ }
    · rw [finN_append, x6]; simp [finN, countS, hitS]
    · intro x hx
      rcases List.mem_append.1 hx with hx | hx
      · exact hno x hx
      · simp at hx; subst hx; simp
  · obtain ⟨x1, x2, x3, x4, x5, x6⟩ := hopen h1
    have hno := hrun (by omega)
    refine ⟨_, _, _, _, _, hg, ?_, .inr ⟨.inr rfl, rfl, rfl, .inl rfl⟩⟩
    refine { may := rfl, now0 := now0, times := times_snoc times [_, _], elo := elo, flo := flo, klo := klo, bds := bds, scan := scan.snoc2 _ _ (by simp) (by simp), open_ := by simp, comp := by simp, fin := fun _ => ?_, run := by simp, over := fun _ => ⟨log ++ [(now, (6, 0, 0, 0))], now, by simp, by omega, ?_⟩ }
    · rw [finN_append, x6]; simp [finN, countS, hitS]
    · intro x hx
      rcases List.mem_append.1 hx with hx | hx
      · exact hno x hx
      · simp at hx; subst hx; simp
  · obtain ⟨x1, x2, x3, x4, x5, x6⟩ := hopen h1
    have hno := hrun (by omega)
    refine ⟨_, _, _, _, _, hg, ?_, .inl ⟨.inr rfl, h1, rfl, rfl, .inl rfl⟩⟩
    refine { may := ?_, now0 := now0, times := times_snoc times [_], elo := elo, flo := flo, klo := klo, bds := bds, scan := scan.snoc _ (fun _ => x5), open_ := fun _ => ⟨by omega, x3, by omega, by omega, ?_, ?_⟩, comp := by simp, fin := by simp, run := fun _ => ?_, over := by simp }
    · have hl := (may_open hm h1).2
      simp only [mayS, shortB]
      simp; omega
    · rw [List.any_append, x5]; simp [finB]; omega
    · rw [finN_append, x6]; simp [finN, countS, hitS]; omega
    · intro x hx
      rcases List.mem_append.1 hx with hx | hx
      · exact hno x hx
      · simp at hx; subst hx; simp
  · obtain ⟨x1, x2, x3, x4, x5, x6⟩ := hopen h1
    have hno := hrun (by omega)
    refine ⟨_, _, _, _, _, hg, ?_, .inr ⟨.inl rfl, rfl, rfl, .inr h2⟩⟩
    refine { may := ?_, now0 := now0, times := times_snoc times [_, _], elo := elo, flo := flo, klo := by omega, bds := by omega, scan := scan.snoc2 _ _ (fun _ => x5) (by simp), open_ := by simp, comp := fun _ => by omega, fin := fun _ => ?_, run := fun _ => ?_, over := by simp }
    · simp [mayS, from_, h3]
    · rw [finN_append, x6]; simp [finN, countS, hitS, h3]
    · intro x hx
      rcases List.mem_append.1 hx with hx | hx
      · exact hno x hx
      · simp at hx; rcases hx with rfl | rfl <;> simp
  · obtain ⟨x1, x2⟩ := hcomp h1
    have hno := hrun (by omega)
    have hf := hfin (.inl h1)
    refine ⟨_, _, _, _, _, hg, ?_, .inr ⟨.inr rfl, rfl, rfl, .inl rfl⟩⟩
    refine { may := ?_, now0 := now0, times := times_snoc times [_], elo := elo, flo := flo, klo := klo, bds := bds, scan := scan.snoc _ (by simp), open_ := by simp, comp := by simp, fin := fun _ => ?_, run := by simp, over := fun _ => ⟨log, now, rfl, by omega, hno⟩ }
    · unfold mayS at hm
      rw [if_neg (by omega), if_pos h1] at hm
      simp only [Bool.and_eq_true, decide_eq_true_eq] at hm
      simp [mayS, hm.2]
    · rw [finN_append, hf]; simp [finN, countS, hitS]
  · have hs := may_states hm
    refine ⟨_, _, _, _, _, hg, ?_, ?_⟩
    · refine { may := hm, now0 := now0, times := times, elo := elo, flo := flo, klo := klo, bds := bds, scan := scan, open_ := fun h => ?_, comp := fun h => ?_, fin := hfin, run := hrun, over := hover }
      · obtain ⟨x1, x2, x3, x4, x5, x6⟩ := hopen h
        refine ⟨?_, x3, ?_, ?_, x5, x6⟩
        · rcases x2 with x2 | x2
          · exact x2
          · exact absurd ⟨h, x2.1, .inr x2.2⟩ h1
        · rcases x4 with x4 | x4
          · exact x4.1
          · exact absurd ⟨h, x4.1, .inl x4.2⟩ h1
        · rcases x4 with x4 | x4
          · exact x4.2
          · exact absurd ⟨h, x4.1, .inl x4.2⟩ h1
      · obtain ⟨x1, x2⟩ := hcomp h
        rcases x2 with x2 | x2
        · exact x2
        · exact absurd ⟨h, x2.1, x2.2⟩ h2
    · by_cases h : m.1 = 2 ∨ m.1 = 3
      · exact .inl ⟨.inl rfl, h, rfl, rfl, .inl rfl⟩
      · exact .inr ⟨by omega, rfl, rfl, .inl rfl⟩

end Go.Proofs.Ytlmanafplbddoaa
