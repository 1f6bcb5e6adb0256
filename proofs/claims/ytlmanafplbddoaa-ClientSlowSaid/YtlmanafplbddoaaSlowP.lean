/- The plain part: behind a provisional response the request is repeated every 4000 milliseconds. -/
import Derived.Test.YtlmanafplbddoaaAloneP
namespace Go.Proofs.Ytlmanafplbddoaa

/-- What is put out from the next repetition (at e) on. -/
def slowL : Nat → Int → List (Int × Out)
  | 0, _ => []
  | n + 1, e => if e ≤ 32000 then (e, (1, 0, 0, 0)) :: (e, (4, 0, 5, 4000)) :: slowL n (e + 4000) else [(32000, (5, 0, 0, 0)), (32000, (7, 0, 0, 0))]

theorem fire_E3 (w : Int) (hw : w = 500 ∨ w = 1000 ∨ w = 2000 ∨ w = 4000) (e now : Int) (log : List (Int × Out)) :
    fireS (mkS (3, w, 0) e 32000 (-1) now log) 5 = mkS (3, 4000, 0) (e + 4000) 32000 (-1) e (log ++ [(e, (1, 0, 0, 0)), (e, (4, 0, 5, 4000))]) := by
  rw [fire_E]
  have hm : mayS (3, w, 0) = true := by simp [mayS, shortB]; omega
  rcases give_cases hm (-1) 32000 (-1) e log (5, 0, 5) with ⟨-, -, -, h⟩ | ⟨-, -, h, -⟩ | ⟨-, h, -⟩ | ⟨-, h, -⟩ | ⟨-, h, -⟩ | ⟨h, -⟩ | ⟨h, -⟩
  · rw [h]; rfl
  · simp at h
  · simp at h
  · simp at h
  · simp at h
  · simp at h
  · exact absurd ⟨.inr rfl, rfl, .inl rfl⟩ h
theorem fire_F3 (w : Int) (hw : w = 500 ∨ w = 1000 ∨ w = 2000 ∨ w = 4000) (e now : Int) (log : List (Int × Out)) :
    fireS (mkS (3, w, 0) e 32000 (-1) now log) 6 = mkS (7, 0, 0) e (-1) (-1) 32000 (log ++ [(32000, (5, 0, 0, 0)), (32000, (7, 0, 0, 0))]) := by
  rw [fire_F]
  have hm : mayS (3, w, 0) = true := by simp [mayS, shortB]; omega
  rcases give_cases hm e (-1) (-1) 32000 log (5, 0, 6) with ⟨-, -, h, -⟩ | ⟨-, -, -, h⟩ | ⟨-, h, -⟩ | ⟨-, h, -⟩ | ⟨-, h, -⟩ | ⟨h, -⟩ | ⟨h, -⟩
  · simp at h
  · exact h
  · simp at h
  · simp at h
  · simp at h
  · simp at h
  · exact absurd ⟨.inr rfl, rfl, .inr rfl⟩ h

theorem slow_run (n : Nat) : ∀ (e w now : Int) (log : List (Int × Out)), 0 ≤ e → e ≤ 36000 → 32000 < e + 4000 * (n : Int) → (w = 500 ∨ w = 1000 ∨ w = 2000 ∨ w = 4000) →
    untilS (n + 1 + 2) (mkS (3, w, 0) e 32000 (-1) now log) 40000 = mkS (7, 0, 0) (-1) (-1) (-1) 40000 (log ++ slowL (n + 1) e) := by
  induction n with
  | zero =>
    intro e w now log h0 h1 h2 hw
    rw [slowL, if_neg (by omega), untilS_fire _ _ 40000 6 ?_ (by omega), fire_F3 w hw, untilS_fire _ _ 40000 5 ?_ (by omega)]
    · rw [show fireS (mkS (7, 0, 0) e (-1) (-1) 32000 (log ++ [(32000, (5, 0, 0, 0)), (32000, (7, 0, 0, 0))])) 5 = mkS (7, 0, 0) (-1) (-1) (-1) e (log ++ [(32000, (5, 0, 0, 0)), (32000, (7, 0, 0, 0))]) from rfl, untilS_stop]
      · show mkS _ _ _ _ (max e 40000) _ = _
        rw [show max e 40000 = 40000 by omega]
        rfl
      · show firstS (dueC (-1) (-1) (-1)) 40000 14 < 0
        rcases first_cases (-1) (-1) (-1) 40000 with h | h | h | h <;> omega
    · show firstS (dueC e (-1) (-1)) 40000 14 = 5
      rcases first_cases e (-1) (-1) 40000 with h | h | h | h <;> omega
    · show firstS (dueC e 32000 (-1)) 40000 14 = 6
      rcases first_cases e 32000 (-1) 40000 with h | h | h | h <;> omega
  | succ n ih =>
    intro e w now log h0 h1 h2 hw
    by_cases he : e ≤ 32000
    · rw [slowL, if_pos he, untilS_fire _ _ 40000 5 ?_ (by omega), fire_E3 w hw, ih (e + 4000) 4000 e _ (by omega) (by omega) (by omega) (by omega)]
      · simp
      · show firstS (dueC e 32000 (-1)) 40000 14 = 5
        rcases first_cases e 32000 (-1) 40000 with h | h | h | h <;> omega
    · rw [slowL, if_neg he, untilS_fire _ _ 40000 6 ?_ (by omega), fire_F3 w hw, untilS_fire _ _ 40000 5 ?_ (by omega)]
      · rw [show fireS (mkS (7, 0, 0) e (-1) (-1) 32000 (log ++ [(32000, (5, 0, 0, 0)), (32000, (7, 0, 0, 0))])) 5 = mkS (7, 0, 0) (-1) (-1) (-1) e (log ++ [(32000, (5, 0, 0, 0)), (32000, (7, 0, 0, 0))]) from rfl, untilS_stop]
        · show mkS _ _ _ _ (max e 40000) _ = _
          rw [show max e 40000 = 40000 by omega]
          rfl
        · show firstS (dueC (-1) (-1) (-1)) 40000 14 < 0
          rcases first_cases (-1) (-1) (-1) 40000 with h | h | h | h <;> omega
      · show firstS (dueC e (-1) (-1)) 40000 14 = 5
        rcases first_cases e (-1) (-1) 40000 with h | h | h | h <;> omega
      · show firstS (dueC e 32000 (-1)) 40000 14 = 6
        rcases first_cases e 32000 (-1) 40000 with h | h | h | h <;> omega

theorem slow_untils (e w now : Int) (log : List (Int × Out)) (h0 : 0 ≤ e) (h1 : e ≤ 36000) (hw : w = 500 ∨ w = 1000 ∨ w = 2000 ∨ w = 4000) :
    ∃ n : Nat, n = 9 ∧ untilS 200 (mkS (3, w, 0) e 32000 (-1) now log) 40000 = mkS (7, 0, 0) (-1) (-1) (-1) 40000 (log ++ slowL 198 e) :=
  ⟨9, rfl, slow_run 197 e w now log h0 h1 (by omega) hw⟩

/-- The loop of the law: the last time and how many. -/
def stepW (at0 : Int) (s : Int × Nat) (e : Int × Out) : Int × Nat := if e.2.1 = 1 ∧ at0 < e.1 then (e.1, s.2 + 1) else s
def foldW (at0 : Int) (l : List (Int × Out)) (s : Int × Nat) : Int × Nat := l.foldl (stepW at0) s
/-- Each repetition comes 4000 behind the one before. -/
def OkW (at0 : Int) (l : List (Int × Out)) (s : Int × Nat) : Prop :=
  ∀ k e, l[k]? = some e → e.2.1 = 1 → at0 < e.1 → (foldW at0 (l.take k) s).1 < 0 ∨ e.1 = (foldW at0 (l.take k) s).1 + 4000

theorem OkW.nil (at0 : Int) (s : Int × Nat) : OkW at0 [] s := fun k e h => by simp at h
theorem OkW.cons {at0 : Int} {e : Int × Out} {l : List (Int × Out)} {s : Int × Nat} (h1 : e.2.1 = 1 → at0 < e.1 → s.1 < 0 ∨ e.1 = s.1 + 4000) (h2 : OkW at0 l (stepW at0 s e)) : OkW at0 (e :: l) s := by
  intro k x hx
  cases k with
  | zero => simp at hx; subst hx; exact h1
  | succ k => exact h2 k x (by simpa using hx)
theorem OkW.append {at0 : Int} {a b : List (Int × Out)} {s : Int × Nat} (h1 : OkW at0 a s) (h2 : OkW at0 b (foldW at0 a s)) : OkW at0 (a ++ b) s := by
  induction a generalizing s with
  | nil => exact h2
  | cons e a ih => exact OkW.cons (fun x y => h1 0 e rfl x y) (ih (fun k x hx => h1 (k + 1) x (by simpa using hx)) h2)

/-- What came before counts for nothing. -/
theorem early_W {at0 : Int} {l : List (Int × Out)} (h : ∀ e ∈ l, e.2.1 = 1 → e.1 ≤ at0) (s : Int × Nat) : foldW at0 l s = s ∧ OkW at0 l s := by
  induction l with
  | nil => exact ⟨rfl, OkW.nil _ _⟩
  | cons e l ih =>
    have h1 := h e (by simp)
    have hs : stepW at0 s e = s := if_neg (fun x => by have := h1 x.1; omega)
    obtain ⟨i1, i2⟩ := ih fun x hx => h x (by simp [hx])
    exact ⟨by show foldW at0 l (stepW at0 s e) = s; rw [hs]; exact i1, OkW.cons (fun x y => by have := h1 x; omega) (by rw [hs]; exact i2)⟩

/-- The repetitions. -/
theorem slow_W {at0 : Int} (n : Nat) : ∀ (e : Int) (s : Int × Nat), at0 < e → at0 < 32000 → 0 ≤ at0 → (s.1 < 0 ∨ e = s.1 + 4000) → 32000 < e + 4000 * (n : Int) → (s.1 < 0 → s = (-1, 0)) →
    OkW at0 (slowL (n + 1) e) s ∧ (((foldW at0 (slowL (n + 1) e) s).1 < 0) ∨ 32000 ≤ (foldW at0 (slowL (n + 1) e) s).1 + 4000) ∧
      (foldW at0 (slowL (n + 1) e) s).2 ≤ s.2 + ((36000 - e) / 4000).toNat ∧ -1 ≤ (foldW at0 (slowL (n + 1) e) s).1 ∧ (foldW at0 (slowL (n + 1) e) s).1 ≤ max s.1 32000 := by
  induction n with
  | zero =>
    intro e s h0 h32 ha hs hn hs0
    rw [slowL, if_neg (by omega)]
    have e1 : ∀ o : Out, o.1 ≠ 1 → stepW at0 s (32000, o) = s := fun o ho => if_neg (fun x => ho x.1)
    have ef : foldW at0 [(32000, (5, 0, 0, 0)), (32000, (7, 0, 0, 0))] s = s := by
      show stepW at0 (stepW at0 s (32000, (5, 0, 0, 0))) (32000, (7, 0, 0, 0)) = s
      rw [e1 _ (by simp), e1 _ (by simp)]
    rw [ef]
    refine ⟨OkW.cons (by simp) (OkW.cons (by simp) (OkW.nil _ _)), by omega, by omega, ?_, by omega⟩
    rcases hs with h | h
    · have := hs0 h; rw [this]; omega
    · omega
  | succ n ih =>
    intro e s h0 h32 ha hs hn hs0
    by_cases he : e ≤ 32000
    · rw [slowL, if_pos he]
      have e1 : stepW at0 s (e, (1, 0, 0, 0)) = (e, s.2 + 1) := if_pos ⟨rfl, h0⟩
      have e2 : stepW at0 (e, s.2 + 1) (e, (4, 0, 5, 4000)) = (e, s.2 + 1) := if_neg (fun x => by simp at x)
      obtain ⟨i1, i2, i3, i4, i5⟩ := ih (e + 4000) (e, s.2 + 1) (by omega) h32 ha (.inr rfl) (by omega) (fun x => by simp only at x; omega)
      have ef : foldW at0 ((e, (1, 0, 0, 0)) :: (e, (4, 0, 5, 4000)) :: slowL (n + 1) (e + 4000)) s = foldW at0 (slowL (n + 1) (e + 4000)) (e, s.2 + 1) := by
        show foldW at0 (slowL (n + 1) (e + 4000)) (stepW at0 (stepW at0 s _) _) = _
        rw [e1, e2]
      rw [ef]
      refine ⟨OkW.cons (fun _ _ => hs) (by rw [e1]; exact OkW.cons (by simp) (by rw [e2]; exact i1)), i2, ?_, i4, ?_⟩
      · simp only at i3; omega
      · simp only at i5; omega
    · rw [slowL, if_neg he]
      have e1 : ∀ o : Out, o.1 ≠ 1 → stepW at0 s (32000, o) = s := fun o ho => if_neg (fun x => ho x.1)
      have ef : foldW at0 [(32000, (5, 0, 0, 0)), (32000, (7, 0, 0, 0))] s = s := by
        show stepW at0 (stepW at0 s (32000, (5, 0, 0, 0))) (32000, (7, 0, 0, 0)) = s
        rw [e1 _ (by simp), e1 _ (by simp)]
      rw [ef]
      refine ⟨OkW.cons (by simp) (OkW.cons (by simp) (OkW.nil _ _)), by omega, by omega, ?_, by omega⟩
      rcases hs with h | h
      · have := hs0 h; rw [this]; omega
      · omega

theorem slow_counts (at0 : Int) (n : Nat) : ∀ e : Int, at0 < e → at0 < 32000 → 32000 < e + 4000 * (n : Int) →
    countS (slowL (n + 1) e) 1 at0 0 0 = 0 ∧ countS (slowL (n + 1) e) 5 32000 0 0 = 1 ∧ countS (slowL (n + 1) e) 7 31999 0 0 = 0 := by
  induction n with
  | zero =>
    intro e h0 h1 h2
    rw [slowL, if_neg (by omega)]
    simp [countS, hitS]
  | succ n ih =>
    intro e h0 h1 h2
    by_cases he : e ≤ 32000
    · rw [slowL, if_pos he]
      have i := ih (e + 4000) (by omega) h1 (by omega)
      have hn : ¬ e ≤ at0 := by omega
      have c : ∀ k t lo hi (a b : Int × Out) (l : List (Int × Out)), countS (a :: b :: l) k t lo hi = countS [a, b] k t lo hi + countS l k t lo hi := fun k t lo hi a b l => countS_append [a, b] l k t lo hi
      refine ⟨?_, ?_, ?_⟩
      · rw [c, i.1]; simp [countS, hitS, hn]
      · rw [c, i.2.1]; simp [countS, hitS]
      · rw [c, i.2.2]; simp [countS, hitS]
    · rw [slowL, if_neg he]
      simp [countS, hitS]

theorem may_2w {w : Int} (hw : w = 500 ∨ w = 1000 ∨ w = 2000 ∨ w = 4000) : mayS (2, w, 0) = true := by simp [mayS, shortB]; omega
theorem give_prov {w : Int} (hw : w = 500 ∨ w = 1000 ∨ w = 2000 ∨ w = 4000) (e at0 : Int) (log : List (Int × Out)) :
    giveS (mkS (2, w, 0) e 32000 (-1) at0 log) (2, 183, 0) = mkS (3, w, 0) e 32000 (-1) at0 (log ++ [(at0, (3, 183, 0, 0))]) := by
  rcases give_cases (may_2w hw) e 32000 (-1) at0 log (2, 183, 0) with ⟨-, h, -⟩ | ⟨-, h, -⟩ | ⟨-, h, -⟩ | ⟨-, -, -, h⟩ | ⟨-, -, h, -⟩ | ⟨h, -⟩ | ⟨-, -, h⟩
  · simp at h
  · simp at h
  · simp at h
  · exact h
  · simp at h
  · simp at h
  · exfalso
    have := congrArg (fun s => s.log.length) h
    have h2 : (giveS (mkS (2, w, 0) e 32000 (-1) at0 log) (2, 183, 0)).m.1 = 2 := by rw [h]; rfl
    unfold giveS at h2
    rw [mk_m, step_same] at h2
    simp [stepR, may_2w hw, openR, from_, takeS, putS] at h2

/-- The machine at the end of the law Slow. -/
def slowS (at0 : Int) : Sim := untilS 200 (giveS (untilS 200 startS at0) (2, 183, 0)) 40000
theorem wt_in : ∀ k, k ≤ 10 → (wtL.getD k 0 = 500 ∨ wtL.getD k 0 = 1000 ∨ wtL.getD k 0 = 2000 ∨ wtL.getD k 0 = 4000) := by
  apply nat11
  · apply nat10 <;> decide
  · decide
theorem at_next : ∀ k, k ≤ 10 → 0 ≤ atL.getD (k + 1) 0 ∧ atL.getD (k + 1) 0 ≤ 36000 ∧ ((36000 - atL.getD (k + 1) 0) / 4000).toNat + (k + 1) ≤ 11 := by
  apply nat11
  · apply nat10 <;> decide
  · decide

theorem slow_all {at0 : Int} (h0 : 0 ≤ at0) (h1 : at0 < 32000) :
    ((countS (slowS at0).log 1 at0 0 0 : Nat) : Int) = copiesS at0 ∧ OkW at0 (slowS at0).log (-1, 0) ∧ ((foldW at0 (slowS at0).log (-1, 0)).1 < 0 ∨ 32000 ≤ (foldW at0 (slowS at0).log (-1, 0)).1 + 4000) ∧
      ((foldW at0 (slowS at0).log (-1, 0)).2 : Int) + copiesS at0 ≤ 11 ∧ countS (slowS at0).log 5 32000 0 0 = 1 ∧ countS (slowS at0).log 7 31999 0 0 = 0 ∧
      -1 ≤ (foldW at0 (slowS at0).log (-1, 0)).1 ∧ (foldW at0 (slowS at0).log (-1, 0)).1 ≤ 32000 ∧ Inv (slowS at0) := by
  obtain ⟨j, hj, a1, a2⟩ := at_find h0 h1
  have hw := wt_in j hj
  obtain ⟨b1, b2, b3⟩ := at_next j hj
  have hc : copiesS at0 = ((j + 1 : Nat) : Int) := copies_at (by omega) (fun _ => a1) (.inl a2)
  have hinv : Inv (slowS at0) := by
    refine (((inv_start.until h0).1.give (i := (2, 183, 0)) (by simp)).until ?_).1
    rw [alone_mid hj a1 a2 h1]
    rw [give_prov hw, mk_now]
    omega
  have hs : slowS at0 = mkS (7, 0, 0) (-1) (-1) (-1) 40000 ((logA j ++ [(at0, (3, 183, 0, 0))]) ++ slowL 198 (atL.getD (j + 1) 0)) := by
    unfold slowS
    rw [alone_mid hj a1 a2 h1]
    rw [give_prov hw]
    exact slow_run 197 _ _ _ _ b1 b2 (by omega) hw
  have ht := logA_times j hj
  have hl := logA_send j hj
  have hearly : ∀ e ∈ logA j ++ [(at0, ((3, 183, 0, 0) : Out))], e.2.1 = 1 → e.1 ≤ at0 := by
    intro e he _
    rcases List.mem_append.1 he with he | he
    · have := ht e he; omega
    · simp at he; subst he; exact Int.le_refl _
  obtain ⟨e1, e2⟩ := early_W hearly (-1, 0)
  have hsc := slow_counts at0 197 (atL.getD (j + 1) 0) a2 h1 (by omega)
  obtain ⟨w1, w2, w3, w4, w5⟩ := slow_W (at0 := at0) 197 (atL.getD (j + 1) 0) (-1, 0) a2 h1 h0 (.inl (by simp)) (by omega) (fun _ => rfl)
  simp only [Nat.reduceAdd] at w2 w3 w4 w5
  have hfold : foldW at0 ((logA j ++ [(at0, (3, 183, 0, 0))]) ++ slowL 198 (atL.getD (j + 1) 0)) (-1, 0) = foldW at0 (slowL 198 (atL.getD (j + 1) 0)) (-1, 0) := by
    unfold foldW at e1 ⊢
    rw [List.foldl_append, e1]
  refine ⟨?_, ?_, ?_, ?_, ?_, ?_, ?_, ?_, hinv⟩
  all_goals rw [hs, mk_log]
  · rw [countS_append, countS_append, countS_later ht a1, hl.1, hsc.1, hc]
    simp [countS, hitS]
  · exact OkW.append e2 (by rw [e1]; exact w1)
  · rw [hfold]; exact w2
  · rw [hfold, hc]; omega
  · rw [countS_append, countS_append, hsc.2.1]
    have h5 : countS (logA j) 5 32000 0 0 = 0 := by
      rw [countS_later ht (by omega), hl.2.2]
    rw [h5]
    simp [countS, hitS]
  · rw [countS_append, countS_append, hsc.2.2]
    have h7 : countS (logA j) 7 31999 0 0 = 0 := by
      have : ∀ k, k ≤ 10 → ∀ e ∈ logA k, e.2.1 ≠ 7 := by
        apply nat11
        · apply nat10 <;> decide
        · decide
      exact count7 (this j hj) _ _ _
    rw [h7]
    simp [countS, hitS]
  · rw [hfold]; exact w4
  · rw [hfold]; omega

end Go.Proofs.Ytlmanafplbddoaa
