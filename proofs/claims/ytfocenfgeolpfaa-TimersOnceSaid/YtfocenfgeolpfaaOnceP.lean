/- The plain part of TimersOnce: a list of timers that agrees with a table of sixteen times. -/
import Derived.Test.YtfocenfgeolpfaaPlain
namespace Go.Proofs.Ytfocenfgeolpfaa

/-- The timer that the table's entry i stands for. -/
def ent (tb : List Int) (i : Nat) : Option Tm := if 0 < tb.getD i 0 then some (tb.getD i 0 - 1, ((i / 4 : Nat) : Int), ((i % 4 : Nat) : Int)) else none
def entries (tb : List Int) : List Tm := (List.range 16).filterMap (ent tb)
def OkTb (tb : List Int) : Prop := tb.length = 16 ∧ ∀ x ∈ tb, 0 ≤ x ∧ x ≤ 256
def AgP (l : List Tm) (tb : List Int) : Prop := l.Perm (entries tb) ∧ l.Pairwise (fun a b => a.1 ≤ b.1)
/-- How many of the first n entries are set. -/
def cntP (tb : List Int) (n : Nat) : Nat := ((List.range n).filter fun i => decide (0 < tb.getD i 0)).length

theorem cntP_succ (tb : List Int) (n : Nat) : cntP tb (n + 1) = cntP tb n + if 0 < tb.getD n 0 then 1 else 0 := by
  unfold cntP
  rw [List.range_succ, List.filter_append, List.length_append]
  congr 1
  simp only [List.filter_cons, List.filter_nil]
  by_cases h : 0 < tb.getD n 0
  · rw [if_pos (by simpa using h), if_pos h]; rfl
  · rw [if_neg (by simpa using h), if_neg h]; rfl
theorem cntP_le (tb : List Int) (n : Nat) : cntP tb n ≤ n := by
  have := List.length_filter_le (fun i => decide (0 < tb.getD i 0)) (List.range n)
  simpa [cntP] using this

theorem getD_set (tb : List Int) (i j : Nat) (x : Int) (hi : i < tb.length) : (tb.set i x).getD j 0 = if i = j then x else tb.getD j 0 := by
  rw [List.getD_eq_getElem?_getD, List.getElem?_set]
  by_cases h : i = j
  · subst h; simp [hi]
  · simp [h]

theorem ent_ok {tb : List Int} {i : Nat} {t : Tm} (h : ent tb i = some t) : 0 < tb.getD i 0 ∧ t = (tb.getD i 0 - 1, ((i / 4 : Nat) : Int), ((i % 4 : Nat) : Int)) := by
  unfold ent at h
  split at h
  · rename_i h0; exact ⟨h0, (Option.some.inj h).symm⟩
  · cases h

theorem mem_entries {tb : List Int} {t : Tm} (h : t ∈ entries tb) : ∃ i, i < 16 ∧ ent tb i = some t := by
  obtain ⟨i, hi, he⟩ := List.mem_filterMap.1 h
  exact ⟨i, by simpa using hi, he⟩

theorem entries_len (tb : List Int) : (entries tb).length = cntP tb 16 := by
  have : ∀ L : List Nat, (L.filterMap (ent tb)).length = (L.filter fun i => decide (0 < tb.getD i 0)).length := by
    intro L
    induction L with
    | nil => rfl
    | cons i L ih =>
      rw [List.filterMap_cons, List.filter_cons]
      by_cases h : 0 < tb.getD i 0
      · have e : ent tb i = some (tb.getD i 0 - 1, ((i / 4 : Nat) : Int), ((i % 4 : Nat) : Int)) := if_pos h
        rw [e, if_pos (by simpa using h)]
        simp only [List.length_cons]
        rw [ih]
      · have e : ent tb i = none := if_neg h
        rw [e, if_neg (by simpa using h)]
        exact ih
  exact this _

theorem filterMap_same {α : Type} {f g : Nat → Option α} (L : List Nat) (h : ∀ i ∈ L, f i = g i) : L.filterMap f = L.filterMap g := by
  induction L with
  | nil => rfl
  | cons i L ih =>
    rw [List.filterMap_cons, List.filterMap_cons, h i (by simp), ih fun j hj => h j (by simp [hj])]
theorem entries_filter (tb tb' : List Int) (p : Tm → Bool) (h : ∀ i, i < 16 → ent tb' i = (ent tb i).filter p) : (entries tb).filter p = entries tb' := by
  unfold entries
  rw [List.filter_filterMap]
  apply filterMap_same
  intro i hi
  rw [h i (by simpa using hi)]

theorem perm_one {α : Type} (f g : Nat → Option α) (i : Nat) (x : α) (hf : f i = some x) (hg : g i = none) (he : ∀ j, j ≠ i → f j = g j) (L : List Nat) (hn : L.Nodup) (hi : i ∈ L) :
    (L.filterMap f).Perm (x :: L.filterMap g) := by
  induction L with
  | nil => cases hi
  | cons j L ih =>
    have hnd := (List.nodup_cons.1 hn)
    by_cases hj : j = i
    · subst hj
      rw [List.filterMap_cons, List.filterMap_cons, hf, hg]
      have : L.filterMap f = L.filterMap g := filterMap_same L fun k hk => he k (by rintro rfl; exact hnd.1 hk)
      simp only [this]
      exact List.Perm.refl _
    · rw [List.filterMap_cons, List.filterMap_cons, he j hj]
      have hi' : i ∈ L := by
        rcases List.mem_cons.1 hi with h | h
        · exact absurd h.symm hj
        · exact h
      have := ih hnd.2 hi'
      cases g j with
      | none => exact this
      | some y => exact (this.cons y).trans (List.Perm.swap _ _ _)

theorem AgP.len {l : List Tm} {tb : List Int} (h : AgP l tb) : l.length = cntP tb 16 := by rw [h.1.length_eq, entries_len]
theorem AgP.mem {l : List Tm} {tb : List Int} (h : AgP l tb) {t : Tm} (ht : t ∈ l) : ∃ i, i < 16 ∧ 0 < tb.getD i 0 ∧ t = (tb.getD i 0 - 1, ((i / 4 : Nat) : Int), ((i % 4 : Nat) : Int)) := by
  obtain ⟨i, hi, he⟩ := mem_entries (h.1.mem_iff.1 ht)
  exact ⟨i, hi, ent_ok he⟩
/-- No two timers have the same owner and kind. -/
theorem AgP.apart {l : List Tm} {tb : List Int} (h : AgP l tb) : l.Pairwise (fun a b => ¬ (a.2.1 = b.2.1 ∧ a.2.2 = b.2.2)) := by
  rw [h.1.pairwise_iff (fun {a b} hab x => hab ⟨x.1.symm, x.2.symm⟩)]
  unfold entries
  rw [List.pairwise_filterMap]
  apply List.Pairwise.imp_of_mem (R := fun a b => a ≠ b)
  · intro i j hi hj hij a ha b hb x
    have e1 := (ent_ok ha).2
    have e2 := (ent_ok hb).2
    subst e1 e2
    simp only at x
    omega
  · exact List.nodup_range
theorem AgP.valid {l : List Tm} {tb : List Int} (h : AgP l tb) (ok : OkTb tb) : validT l = true := by
  rw [validT_iff]
  refine ⟨⟨?_, h.2⟩, ?_⟩
  · intro t ht
    obtain ⟨i, hi, h0, rfl⟩ := h.mem ht
    have := ok.2 (tb.getD i 0) (by rw [List.getD_eq_getElem?_getD, List.getElem?_eq_getElem (by rw [ok.1]; exact hi)]; exact List.getElem_mem _)
    simp only
    omega
  · have := cntP_le tb 16
    rw [h.len]
    omega

theorem OkTb.set {tb : List Int} (h : OkTb tb) (i : Nat) {x : Int} (h0 : 0 ≤ x) (h1 : x ≤ 256) : OkTb (tb.set i x) := by
  refine ⟨by simpa using h.1, fun y hy => ?_⟩
  rcases List.mem_or_eq_of_mem_set hy with hy | rfl
  · exact h.2 y hy
  · exact ⟨h0, h1⟩

theorem keep_sorted {g : Tm → Bool} {l : List Tm} (h : l.Pairwise (fun a b => a.1 ≤ b.1)) : (keepT g l).Pairwise (fun a b => a.1 ≤ b.1) := h.filter _

/-- Cancel takes one entry away. -/
theorem AgP.cancel {l : List Tm} {tb : List Int} (h : AgP l tb) (ok : OkTb tb) {o k : Nat} (ho : o < 4) (hk : k < 4) : AgP (cancelT o k l) (tb.set (o * 4 + k) 0) := by
  have e : cancelT o k l = keepT (fun t => t.2.1 == (o : Int) && t.2.2 == (k : Int)) l := if_pos (h.valid ok)
  rw [e]
  refine ⟨?_, keep_sorted h.2⟩
  unfold keepT
  have := h.1.filter (fun t => !(t.2.1 == (o : Int) && t.2.2 == (k : Int)))
  rwa [entries_filter tb (tb.set (o * 4 + k) 0)] at this
  intro i hi
  unfold ent
  rw [getD_set _ _ _ _ (by rw [ok.1]; omega)]
  by_cases hik : o * 4 + k = i
  · subst hik
    have e1 : (o * 4 + k) / 4 = o := by omega
    have e2 : (o * 4 + k) % 4 = k := by omega
    rw [if_pos rfl, if_neg (by omega), e1, e2]
    split <;> simp [Option.filter]
  · rw [if_neg hik]
    split
    · have : ¬ (((i / 4 : Nat) : Int) = o ∧ ((i % 4 : Nat) : Int) = k) := by omega
      simp only [Option.filter]
      rw [if_pos]
      simp only [Bool.not_eq_true', Bool.and_eq_false_imp, beq_iff_eq, beq_eq_false_iff_ne]
      intro h1 h2
      exact this ⟨h1, h2⟩
    · rfl
def wipe (tb : List Int) (o : Nat) : List Int := (((tb.set (o * 4) 0).set (o * 4 + 1) 0).set (o * 4 + 2) 0).set (o * 4 + 3) 0
theorem wipe_len (tb : List Int) (o : Nat) : (wipe tb o).length = tb.length := by simp [wipe]
theorem wipe_get {tb : List Int} (h : tb.length = 16) {o : Nat} (ho : o < 4) (i : Nat) : (wipe tb o).getD i 0 = if i / 4 = o then 0 else tb.getD i 0 := by
  unfold wipe
  rw [getD_set _ _ _ _ (by simp; omega), getD_set _ _ _ _ (by simp; omega), getD_set _ _ _ _ (by simp; omega), getD_set _ _ _ _ (by omega)]
  by_cases h1 : i / 4 = o
  · rw [if_pos h1]
    have : i = o * 4 ∨ i = o * 4 + 1 ∨ i = o * 4 + 2 ∨ i = o * 4 + 3 := by omega
    rcases this with rfl | rfl | rfl | rfl <;> simp
  · rw [if_neg h1, if_neg (by omega), if_neg (by omega), if_neg (by omega), if_neg (by omega)]
theorem OkTb.wipe {tb : List Int} (h : OkTb tb) (o : Nat) : OkTb (wipe tb o) :=
  (((h.set (o * 4) (by omega) (by omega)).set (o * 4 + 1) (by omega) (by omega)).set (o * 4 + 2) (by omega) (by omega)).set (o * 4 + 3) (by omega) (by omega)
theorem AgP.cancelAll {l : List Tm} {tb : List Int} (h : AgP l tb) (ok : OkTb tb) {o : Nat} (ho : o < 4) : AgP (cancelAllT o l) (wipe tb o) := by
  have e : cancelAllT o l = keepT (fun t => t.2.1 == (o : Int)) l := if_pos (h.valid ok)
  rw [e]
  refine ⟨?_, keep_sorted h.2⟩
  unfold keepT
  have := h.1.filter (fun t => !(t.2.1 == (o : Int)))
  rwa [entries_filter tb (wipe tb o)] at this
  intro i hi
  unfold ent
  rw [wipe_get ok.1 ho]
  by_cases hik : i / 4 = o
  · rw [if_pos hik, if_neg (by omega)]
    split <;> simp [Option.filter, hik]
  · rw [if_neg hik]
    split
    · have : ¬ ((i / 4 : Nat) : Int) = o := by omega
      simp only [Option.filter]
      rw [if_pos]
      simpa using this
    · rfl
theorem insT_perm (l : List Tm) (t : Tm) : (insT l t).Perm (t :: l) := by
  unfold insT
  have h : l.take (placeT t.1 l) ++ l.drop (placeT t.1 l) = l := List.take_append_drop _ _
  have : (l.take (placeT t.1 l) ++ [t] ++ l.drop (placeT t.1 l)).Perm (t :: (l.take (placeT t.1 l) ++ l.drop (placeT t.1 l))) := by
    rw [List.append_assoc]
    exact List.perm_middle
  rwa [h] at this
theorem insT_sorted {l : List Tm} (t : Tm) (h : l.Pairwise (fun a b => a.1 ≤ b.1)) : (insT l t).Pairwise (fun a b => a.1 ≤ b.1) := by
  induction l with
  | nil => rw [insT_nil]; exact List.pairwise_singleton _ _
  | cons x r ih =>
    rw [insT_cons]
    obtain ⟨h1, h2⟩ := List.pairwise_cons.1 h
    split
    · rename_i hlt
      refine List.pairwise_cons.2 ⟨fun y hy => ?_, h⟩
      rcases List.mem_cons.1 hy with rfl | hy
      · omega
      · have := h1 y hy; omega
    · rename_i hlt
      refine List.pairwise_cons.2 ⟨fun y hy => ?_, ih h2⟩
      rcases mem_insT.1 hy with rfl | hy
      · omega
      · exact h1 y hy
/-- Restart sets one entry. -/
theorem AgP.restart {l : List Tm} {tb : List Int} (h : AgP l tb) (ok : OkTb tb) {o k : Nat} (ho : o < 4) (hk : k < 4) {t : Int} (t0 : 0 ≤ t) (t1 : t ≤ 255) :
    ∃ l', restartT l (t, o, k) = (l', 0) ∧ AgP l' (tb.set (o * 4 + k) (1 + t)) := by
  have hc := h.cancel ok ho hk
  have okc := ok.set (o * 4 + k) (x := 0) (by omega) (by omega)
  have hv := hc.valid okc
  have hf : firesT (t, (o : Int), (k : Int)) = true := by simp [firesT]; omega
  have hlen : (cancelT o k l).length < 1000 := by
    have := hc.len
    have := cntP_le (tb.set (o * 4 + k) 0) 16
    omega
  refine ⟨insT (cancelT o k l) (t, o, k), ?_, (insT_perm _ _).trans ?_, insT_sorted _ hc.2⟩
  · unfold restartT
    rw [if_neg (by simp [h.valid ok, hf])]
    exact addT_ok hv hf hlen
  · refine (hc.1.cons _).trans (List.Perm.symm ?_)
    unfold entries
    have hi : o * 4 + k < tb.length := by rw [ok.1]; omega
    refine perm_one (ent (tb.set (o * 4 + k) (1 + t))) (ent (tb.set (o * 4 + k) 0)) (o * 4 + k) (t, (o : Int), (k : Int)) ?_ ?_ ?_ _ List.nodup_range (by simp; omega)
    · unfold ent
      rw [getD_set _ _ _ _ hi, if_pos rfl, if_pos (by omega), show (o * 4 + k) / 4 = o by omega, show (o * 4 + k) % 4 = k by omega, show 1 + t - 1 = t by omega]
    · unfold ent
      rw [getD_set _ _ _ _ hi, if_pos rfl, if_neg (by omega)]
    · intro j hj
      unfold ent
      rw [getD_set _ _ _ _ hi, getD_set _ _ _ _ hi, if_neg (Ne.symm hj), if_neg (Ne.symm hj)]

theorem once_zero : AgP [] (List.replicate 16 0) ∧ OkTb (List.replicate 16 0) := by
  refine ⟨⟨?_, List.Pairwise.nil⟩, by simp, fun x hx => ?_⟩
  · have : entries (List.replicate 16 0) = [] := by decide
    rw [this]
  · have := (List.mem_replicate.1 hx).2; omega

/-- Count counts the owner's entries. -/
def cntO (tb : List Int) (o n : Nat) : Nat := ((List.range n).filter fun i => decide (0 < tb.getD (o * 4 + i) 0)).length
theorem cntO_succ (tb : List Int) (o n : Nat) : cntO tb o (n + 1) = cntO tb o n + if 0 < tb.getD (o * 4 + n) 0 then 1 else 0 := by
  unfold cntO
  rw [List.range_succ, List.filter_append, List.length_append]
  congr 1
  simp only [List.filter_cons, List.filter_nil]
  by_cases h : 0 < tb.getD (o * 4 + n) 0
  · rw [if_pos (by simpa using h), if_pos h]; rfl
  · rw [if_neg (by simpa using h), if_neg h]; rfl
theorem cntP_wipe {tb : List Int} (h : tb.length = 16) {o : Nat} (ho : o < 4) : cntP tb 16 = cntP (wipe tb o) 16 + cntO tb o 4 := by
  have e : ∀ n, cntP (wipe tb o) (n + 1) = cntP (wipe tb o) n + if n / 4 = o then 0 else if 0 < tb.getD n 0 then 1 else 0 := by
    intro n
    rw [cntP_succ, wipe_get h ho]
    by_cases hn : n / 4 = o
    · simp [hn]
    · simp [hn]
  have z : ∀ tb, cntP tb 0 = 0 := fun _ => rfl
  have z2 : cntO tb o 0 = 0 := rfl
  have : o = 0 ∨ o = 1 ∨ o = 2 ∨ o = 3 := by omega
  rw [cntP_succ, cntP_succ, cntP_succ, cntP_succ, cntP_succ, cntP_succ, cntP_succ, cntP_succ, cntP_succ, cntP_succ, cntP_succ, cntP_succ, cntP_succ, cntP_succ, cntP_succ, cntP_succ, z,
    e, e, e, e, e, e, e, e, e, e, e, e, e, e, e, e, z, cntO_succ, cntO_succ, cntO_succ, cntO_succ, z2]
  rcases this with rfl | rfl | rfl | rfl <;> simp <;> omega
theorem AgP.count {l : List Tm} {tb : List Int} (h : AgP l tb) (ok : OkTb tb) {o : Nat} (ho : o < 4) : countT o l = cntO tb o 4 := by
  unfold countT
  rw [if_pos (h.valid ok), h.len, (h.cancelAll ok ho).len, cntP_wipe ok.1 ho]
  omega

end Go.Proofs.Ytfocenfgeolpfaa
