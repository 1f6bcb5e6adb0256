/- The plain part: timers as lists of triples; what the functions of the chapter compute on them. No program in sight. -/
namespace Go.Proofs.Ytfocenfgeolpfaa

/-- A timer: time, owner, kind. -/
abbrev Tm := Int × Int × Int

/-- Valid, from a last time on. -/
def validFrom (last : Int) : List Tm → Bool
  | [] => true
  | t :: r => if t.1 < last ∨ 1099511627776 < t.1 then false else validFrom t.1 r

def validT (l : List Tm) : Bool := validFrom 0 l && decide (l.length ≤ 1000)

theorem validFrom_cons (x : Int) (t : Tm) (r : List Tm) : validFrom x (t :: r) = if t.1 < x ∨ 1099511627776 < t.1 then false else validFrom t.1 r := rfl

theorem valid_no {l : List Tm} {k : Nat} {x : Int} {t : Tm} (h : validFrom 0 l = validFrom x (l.drop k)) (ht : l[k]? = some t) (hb : t.1 < x ∨ 1099511627776 < t.1) : validT l = false := by
  obtain ⟨hk, rfl⟩ := List.getElem?_eq_some_iff.1 ht
  unfold validT
  rw [h, List.drop_eq_getElem_cons hk, validFrom_cons, if_pos hb]
  rfl

theorem valid_on {l : List Tm} {k : Nat} {x : Int} {t : Tm} (h : validFrom 0 l = validFrom x (l.drop k)) (ht : l[k]? = some t) (h1 : x ≤ t.1) (h2 : t.1 ≤ 1099511627776) :
    validFrom 0 l = validFrom t.1 (l.drop (k + 1)) := by
  obtain ⟨hk, rfl⟩ := List.getElem?_eq_some_iff.1 ht
  rw [h, List.drop_eq_getElem_cons hk, validFrom_cons, if_neg (by omega)]

theorem valid_end {l : List Tm} {k : Nat} {x : Int} (h : validFrom 0 l = validFrom x (l.drop k)) (hk : l.length ≤ k) : validT l = decide ((l.length : Int) ≤ 1000) := by
  unfold validT
  rw [h, List.drop_eq_nil_of_le hk]
  simp [validFrom]
  omega

def firesT (t : Tm) : Bool := decide (0 ≤ t.1) && decide (t.1 ≤ 1099511627776)

/-- The index at which a timer with that time is inserted. -/
def placeT (a : Int) : List Tm → Nat
  | [] => 0
  | t :: r => if a < t.1 then 0 else placeT a r + 1

theorem placeT_le (a : Int) (l : List Tm) : placeT a l ≤ l.length := by
  induction l with
  | nil => simp [placeT]
  | cons t r ih => unfold placeT; split <;> simp <;> omega

theorem place_hit {a : Int} {l : List Tm} {k : Nat} {t : Tm} (h : placeT a l = k + placeT a (l.drop k)) (ht : l[k]? = some t) (hb : a < t.1) : placeT a l = k := by
  obtain ⟨hk, rfl⟩ := List.getElem?_eq_some_iff.1 ht
  rw [h, List.drop_eq_getElem_cons hk, placeT, if_pos hb]; rfl

theorem place_on {a : Int} {l : List Tm} {k : Nat} {t : Tm} (h : placeT a l = k + placeT a (l.drop k)) (ht : l[k]? = some t) (hb : t.1 ≤ a) : placeT a l = k + 1 + placeT a (l.drop (k + 1)) := by
  obtain ⟨hk, rfl⟩ := List.getElem?_eq_some_iff.1 ht
  rw [h, List.drop_eq_getElem_cons hk, placeT, if_neg (by omega)]; omega

theorem place_end {a : Int} {l : List Tm} {k : Nat} (h : placeT a l = k + placeT a (l.drop k)) (hk : k ≤ l.length) (hk' : l.length ≤ k) : placeT a l = l.length := by
  rw [h, List.drop_eq_nil_of_le hk']; simp [placeT]; omega

theorem same_no {l r : List Tm} {k : Nat} {a b : Tm} (ha : l[k]? = some a) (hb : r[k]? = some b) (h : ¬ a = b) : decide (l = r) = false := by
  rw [decide_eq_false_iff_not]
  rintro rfl
  rw [ha] at hb
  exact h (Option.some.inj hb)

theorem same_on {l r : List Tm} {k : Nat} {a b : Tm} (h : l.take k = r.take k) (ha : l[k]? = some a) (hb : r[k]? = some b) (hab : a = b) : l.take (k + 1) = r.take (k + 1) := by
  rw [List.take_add_one, List.take_add_one, h, ha, hb, hab]

theorem same_end {l r : List Tm} {k : Nat} (h : l.take k = r.take k) (hl : l.length ≤ k) (hr : r.length ≤ k) : decide (l = r) = true := by
  rw [List.take_of_length_le hl, List.take_of_length_le hr] at h
  rw [decide_eq_true_eq]; exact h

theorem same_len {l r : List Tm} (h : ¬ l.length = r.length) : decide (l = r) = false := by
  rw [decide_eq_false_iff_not]
  rintro rfl
  exact h rfl

/-- The timers of a valid list for which 'gone' is false. -/
def keepT (gone : Tm → Bool) (l : List Tm) : List Tm := l.filter fun t => !gone t
def withoutT (gone : Tm → Bool) (l : List Tm) : List Tm := if validT l = true then keepT gone l else []

theorem keep_hit {gone : Tm → Bool} {l : List Tm} {k : Nat} {t : Tm} (ht : l[k]? = some t) (hg : gone t = true) : keepT gone (l.take (k + 1)) = keepT gone (l.take k) := by
  rw [List.take_add_one, ht]
  simp [keepT, List.filter_append, hg]
theorem keep_miss {gone : Tm → Bool} {l : List Tm} {k : Nat} {t : Tm} (ht : l[k]? = some t) (hg : gone t = false) : keepT gone (l.take (k + 1)) = keepT gone (l.take k) ++ [t] := by
  rw [List.take_add_one, ht]
  simp [keepT, List.filter_append, hg]
theorem keep_len (gone : Tm → Bool) (l : List Tm) : (keepT gone l).length ≤ l.length := List.length_filter_le _ _
theorem keep_take_len (gone : Tm → Bool) (l : List Tm) (k : Nat) : (keepT gone (l.take k)).length ≤ k := by
  have := keep_len gone (l.take k)
  simp at this
  omega
theorem without_len (gone : Tm → Bool) (l : List Tm) : (withoutT gone l).length ≤ l.length := by
  unfold withoutT
  split
  · exact keep_len _ _
  · simp

/-- Add: the list, and the result's number. -/
def addT (l : List Tm) (t : Tm) : List Tm × Int :=
  if validT l = false ∨ firesT t = false then ([], 2) else if l.length = 1000 then ([], 10)
  else (l.take (placeT t.1 l) ++ [t] ++ l.drop (placeT t.1 l), 0)

theorem addT_len {l : List Tm} {t : Tm} : (addT l t).1.length ≤ 1001 := by
  unfold addT
  split
  · simp
  · split
    · simp
    · rename_i h _
      have h1 : validT l = true := by simpa using (not_or.1 h).1
      have := placeT_le t.1 l
      simp only [validT, Bool.and_eq_true, decide_eq_true_eq] at h1
      simp
      omega

theorem valid_len {l : List Tm} (h : validT l = true) : l.length ≤ 1000 := by
  simp only [validT, Bool.and_eq_true, decide_eq_true_eq] at h
  exact h.2

/-- A timer inserted at its place. -/
def insT (l : List Tm) (t : Tm) : List Tm := l.take (placeT t.1 l) ++ [t] ++ l.drop (placeT t.1 l)
theorem insT_nil (t : Tm) : insT [] t = [t] := rfl
theorem insT_cons (x : Tm) (r : List Tm) (t : Tm) : insT (x :: r) t = if t.1 < x.1 then t :: x :: r else x :: insT r t := by
  have e : placeT t.1 (x :: r) = if t.1 < x.1 then 0 else placeT t.1 r + 1 := rfl
  unfold insT
  rw [e]
  split <;> simp
theorem insT_len (l : List Tm) (t : Tm) : (insT l t).length = l.length + 1 := by
  have := placeT_le t.1 l
  simp [insT]; omega
theorem addT_ok {l : List Tm} {t : Tm} (h1 : validT l = true) (h2 : firesT t = true) (h3 : l.length < 1000) : addT l t = (insT l t, 0) := by
  unfold addT
  rw [if_neg (by simp [h1, h2]), if_neg (by omega)]
  rfl
theorem mem_insT {l : List Tm} {t x : Tm} : x ∈ insT l t ↔ x = t ∨ x ∈ l := by
  induction l with
  | nil => simp [insT_nil]
  | cons y r ih =>
    rw [insT_cons]
    split
    · simp
    · simp only [List.mem_cons, ih]
      constructor
      · rintro (h | h | h)
        · exact .inr (.inl h)
        · exact .inl h
        · exact .inr (.inr h)
      · rintro (h | h | h)
        · exact .inr (.inl h)
        · exact .inl h
        · exact .inr (.inr h)

/-- By times, and among equal times by kinds. -/
def Before (a b : Tm) : Prop := a.1 < b.1 ∨ a.1 = b.1 ∧ a.2.2 < b.2.2

theorem insT_before {l : List Tm} {t : Tm} (h : l.Pairwise Before) (hk : ∀ x ∈ l, x.2.2 < t.2.2) : (insT l t).Pairwise Before := by
  induction l with
  | nil => simp [insT_nil]
  | cons x r ih =>
    rw [insT_cons]
    rw [List.pairwise_cons] at h
    split
    · rename_i hlt
      rw [List.pairwise_cons]
      refine ⟨fun y hy => ?_, List.pairwise_cons.2 h⟩
      rcases List.mem_cons.1 hy with rfl | hy
      · exact .inl hlt
      · have := h.1 y hy
        unfold Before at this ⊢
        omega
    · rename_i hge
      rw [List.pairwise_cons]
      refine ⟨fun y hy => ?_, ih h.2 fun z hz => hk z (List.mem_cons_of_mem _ hz)⟩
      rcases mem_insT.1 hy with rfl | hy
      · have := hk x (List.mem_cons_self ..)
        unfold Before
        omega
      · exact h.1 y hy

theorem validFrom_iff (x : Int) (l : List Tm) : validFrom x l = true ↔ (∀ t ∈ l, x ≤ t.1 ∧ t.1 ≤ 1099511627776) ∧ l.Pairwise (fun a b => a.1 ≤ b.1) := by
  induction l generalizing x with
  | nil => simp [validFrom]
  | cons t r ih =>
    rw [validFrom_cons, List.pairwise_cons]
    split
    · rename_i h
      constructor
      · intro h'; cases h'
      · rintro ⟨h1, _⟩
        have := h1 t (List.mem_cons_self ..)
        omega
    · rename_i h
      rw [ih]
      constructor
      · rintro ⟨h1, h2⟩
        refine ⟨fun y hy => ?_, fun y hy => (h1 y hy).1, h2⟩
        rcases List.mem_cons.1 hy with rfl | hy
        · omega
        · have := h1 y hy; omega
      · rintro ⟨h1, h2, h3⟩
        refine ⟨fun y hy => ⟨h2 y hy, (h1 y (List.mem_cons_of_mem _ hy)).2⟩, h3⟩

theorem validT_iff (l : List Tm) : validT l = true ↔ ((∀ t ∈ l, 0 ≤ t.1 ∧ t.1 ≤ 1099511627776) ∧ l.Pairwise (fun a b => a.1 ≤ b.1)) ∧ l.length ≤ 1000 := by
  unfold validT
  rw [Bool.and_eq_true, validFrom_iff, decide_eq_true_eq]

/-- What 'made' makes of the first k bytes. -/
def tmOf (n : Int) (k : Nat) : Tm := (n % 16, n / 64, (k : Int))
def madeT (bs : List Int) : Nat → List Tm
  | 0 => []
  | k + 1 => insT (madeT bs k) (tmOf (bs.getD k 0) k)
theorem madeT_len (bs : List Int) (k : Nat) : (madeT bs k).length = k := by
  induction k with
  | zero => rfl
  | succ k ih => rw [madeT, insT_len, ih]
theorem madeT_mem (bs : List Int) (k : Nat) : ∀ t ∈ madeT bs k, 0 ≤ t.1 ∧ t.1 ≤ 15 ∧ t.2.2 < (k : Int) := by
  induction k with
  | zero => simp [madeT]
  | succ k ih =>
    intro t ht
    rw [madeT, mem_insT] at ht
    rcases ht with rfl | ht
    · simp only [tmOf]; omega
    · have := ih t ht; omega
theorem madeT_before (bs : List Int) (k : Nat) : (madeT bs k).Pairwise Before := by
  induction k with
  | zero => simp [madeT]
  | succ k ih =>
    rw [madeT]
    exact insT_before ih fun x hx => (madeT_mem bs k x hx).2.2
theorem madeT_valid (bs : List Int) {k : Nat} (hk : k ≤ 200) : validT (madeT bs k) = true := by
  rw [validT_iff]
  refine ⟨⟨fun t ht => ?_, ?_⟩, by rw [madeT_len]; omega⟩
  · have := madeT_mem bs k t ht; omega
  · refine (madeT_before bs k).imp ?_
    intro a b h
    unfold Before at h
    omega
theorem tmOf_fires (n : Int) (k : Nat) : firesT (tmOf n k) = true := by
  have h1 : 0 ≤ n % 16 := by omega
  have h2 : n % 16 ≤ 1099511627776 := by omega
  show (decide (0 ≤ n % 16) && decide (n % 16 ≤ 1099511627776)) = true
  rw [decide_eq_true h1, decide_eq_true h2]
  rfl
theorem madeT_add (bs : List Int) {k : Nat} (hk : k < 200) : addT (madeT bs k) (tmOf (bs.getD k 0) k) = (madeT bs (k + 1), 0) :=
  addT_ok (madeT_valid bs (by omega)) (tmOf_fires _ _) (by rw [madeT_len]; omega)
theorem madeT_next (bs : List Int) (K : Nat) {k : Nat} {a b : Tm} (ha : (madeT bs K)[k]? = some a) (hb : (madeT bs K)[k + 1]? = some b) : Before a b := by
  obtain ⟨h1, rfl⟩ := List.getElem?_eq_some_iff.1 ha
  obtain ⟨h2, rfl⟩ := List.getElem?_eq_some_iff.1 hb
  exact List.pairwise_iff_getElem.1 (madeT_before bs K) k (k + 1) h1 h2 (by omega)

def cancelT (o k : Int) (l : List Tm) : List Tm := withoutT (fun t => t.2.1 == o && t.2.2 == k) l
def cancelAllT (o : Int) (l : List Tm) : List Tm := withoutT (fun t => t.2.1 == o) l
def dueT (now : Int) (l : List Tm) : List Tm := withoutT (fun t => decide (now < t.1)) l
def laterT (now : Int) (l : List Tm) : List Tm := withoutT (fun t => decide (t.1 ≤ now)) l
/-- Restart. -/
def restartT (l : List Tm) (t : Tm) : List Tm × Int :=
  if validT l = false ∨ firesT t = false then ([], 2) else addT (cancelT t.2.1 t.2.2 l) t
/-- Next. -/
def nextT (l : List Tm) : Int × Bool :=
  match l with
  | [] => (0, false)
  | t :: _ => if validT l = true then (t.1, true) else (0, false)
/-- Count. -/
def countT (o : Int) (l : List Tm) : Int := if validT l = true then (l.length : Int) - ((cancelAllT o l).length : Int) else 0

end Go.Proofs.Ytfocenfgeolpfaa
