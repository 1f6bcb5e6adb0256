/- The plain part, of taking what is due twice. -/
import Derived.Test.YtfocenfgeolpfaaPlain2
namespace Go.Proofs.Ytfocenfgeolpfaa

abbrev Sorted (l : List Tm) : Prop := l.Pairwise (fun a b => a.1 ≤ b.1)
def upTo (x : Int) (l : List Tm) : List Tm := l.filter fun t => decide (t.1 ≤ x)
def past (x : Int) (l : List Tm) : List Tm := l.filter fun t => decide (x < t.1)

theorem due_valid {l : List Tm} (h : validT l = true) (x : Int) : dueT x l = upTo x l := by
  show withoutT _ l = _
  unfold withoutT
  rw [if_pos h]
  unfold keepT upTo
  congr 1
  funext t
  by_cases hq : x < t.1 <;> simp [hq] <;> omega
theorem later_valid {l : List Tm} (h : validT l = true) (x : Int) : laterT x l = past x l := by
  show withoutT _ l = _
  unfold withoutT
  rw [if_pos h]
  unfold keepT past
  congr 1
  funext t
  by_cases hq : x < t.1
  · simp [hq]
  · simp [hq]; omega

theorem valid_past {l : List Tm} (h : validT l = true) (x : Int) : validT (past x l) = true := by
  rw [validT_iff] at h ⊢
  refine ⟨⟨fun t ht => h.1.1 t (List.mem_filter.1 ht).1, h.1.2.filter _⟩, ?_⟩
  exact Nat.le_trans (List.length_filter_le _ _) h.2

theorem upTo_of_gt {x : Int} {l : List Tm} (h : ∀ t ∈ l, x < t.1) : upTo x l = [] := by
  rw [upTo, List.filter_eq_nil_iff]
  intro t ht
  have := h t ht
  simp; omega
theorem past_of_gt {x : Int} {l : List Tm} (h : ∀ t ∈ l, x < t.1) : past x l = l := by
  rw [past, List.filter_eq_self]
  intro t ht
  have := h t ht
  simp; omega

theorem split_at (x : Int) {l : List Tm} (h : Sorted l) : upTo x l ++ past x l = l := by
  induction l with
  | nil => rfl
  | cons t r ih =>
    rw [Sorted, List.pairwise_cons] at h
    by_cases hq : t.1 ≤ x
    · have e1 : upTo x (t :: r) = t :: upTo x r := by simp [upTo, hq]
      have e2 : past x (t :: r) = past x r := by simp [past, List.filter_cons]; omega
      rw [e1, e2, List.cons_append, ih h.2]
    · have hr : ∀ y ∈ t :: r, x < y.1 := by
        intro y hy
        rcases List.mem_cons.1 hy with rfl | hy
        · omega
        · have := h.1 y hy; omega
      rw [upTo_of_gt hr, past_of_gt hr, List.nil_append]

theorem past_past {x y : Int} (h : x ≤ y) (l : List Tm) : past y (past x l) = past y l := by
  unfold past
  rw [List.filter_filter]
  congr 1
  funext t
  by_cases hq : y < t.1
  · have : x < t.1 := by omega
    simp [hq, this]
  · simp [hq]

theorem upTo_twice {x y : Int} (h : x ≤ y) {l : List Tm} (hs : Sorted l) : upTo x l ++ upTo y (past x l) = upTo y l := by
  induction l with
  | nil => rfl
  | cons t r ih =>
    rw [Sorted, List.pairwise_cons] at hs
    by_cases hq : t.1 ≤ x
    · have e1 : upTo x (t :: r) = t :: upTo x r := by simp [upTo, hq]
      have e2 : past x (t :: r) = past x r := by simp [past, List.filter_cons]; omega
      have e3 : upTo y (t :: r) = t :: upTo y r := by
        have : t.1 ≤ y := by omega
        simp [upTo, this]
      rw [e1, e2, e3, List.cons_append, ih hs.2]
    · have hr : ∀ z ∈ t :: r, x < z.1 := by
        intro z hz
        rcases List.mem_cons.1 hz with rfl | hz
        · omega
        · have := hs.1 z hz; omega
      rw [upTo_of_gt hr, past_of_gt hr, List.nil_append]

theorem place_split {a : Int} {l : List Tm} (h : Sorted l) : l.take (placeT a l) = upTo a l ∧ l.drop (placeT a l) = past a l := by
  induction l with
  | nil => exact ⟨rfl, rfl⟩
  | cons t r ih =>
    rw [Sorted, List.pairwise_cons] at h
    have e : placeT a (t :: r) = if a < t.1 then 0 else placeT a r + 1 := rfl
    rw [e]
    by_cases hq : a < t.1
    · have hr : ∀ z ∈ t :: r, a < z.1 := by
        intro z hz
        rcases List.mem_cons.1 hz with rfl | hz
        · omega
        · have := h.1 z hz; omega
      rw [if_pos hq, upTo_of_gt hr, past_of_gt hr]
      exact ⟨rfl, rfl⟩
    · have hq' : t.1 ≤ a := by omega
      rw [if_neg hq, List.take_succ_cons, List.drop_succ_cons, (ih h.2).1, (ih h.2).2]
      refine ⟨?_, ?_⟩
      · simp [upTo, hq']
      · simp [past, hq]

theorem insT_split {l : List Tm} (h : validT l = true) (t : Tm) : insT l t = upTo t.1 l ++ [t] ++ past t.1 l := by
  have hs : Sorted l := ((validT_iff l).1 h).1.2
  unfold insT
  rw [(place_split hs).1, (place_split hs).2]

/-- The theorem of the stage, of a valid list. -/
theorem due_twice {l : List Tm} (h : validT l = true) {x y : Int} (hxy : x ≤ y) :
    dueT x l ++ dueT y (laterT x l) = dueT y l ∧ laterT y (laterT x l) = laterT y l ∧ dueT y l ++ laterT y l = l := by
  have hs : Sorted l := ((validT_iff l).1 h).1.2
  rw [later_valid h x, due_valid h x, due_valid h y, later_valid h y, due_valid (valid_past h x), later_valid (valid_past h x)]
  exact ⟨upTo_twice hxy hs, past_past hxy l, split_at y hs⟩

end Go.Proofs.Ytfocenfgeolpfaa
