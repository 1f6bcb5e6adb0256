/- The plain part of Unhex: the bytes of a hexadecimal text; there and back. -/
import Derived.Test.YtaafgakflmgpoaaDoorW16
namespace Go.Proofs.YtaafgakflmgpoaaDoor

/-- The byte of the pair j. -/
def pairS (l : List Int) (j : Nat) : Int := 16 * valS (l.getD (2 * j) 0) + valS (l.getD (2 * j + 1) 0)
def okP (l : List Int) (j : Nat) : Prop := valS (l.getD (2 * j) 0) ≤ 15 ∧ valS (l.getD (2 * j + 1) 0) ≤ 15
instance (l : List Int) (j : Nat) : Decidable (okP l j) := by unfold okP; infer_instance
def outP (l : List Int) (k : Nat) : List Int := (List.range k).map (pairS l)
/-- The bytes, or none where the text is bad. -/
def unhexS (l : List Int) : Option (List Int) := if l.length % 2 = 1 then none else if ∀ j, j < l.length / 2 → okP l j then some (outP l (l.length / 2)) else none
theorem outP_len (l : List Int) (k : Nat) : (outP l k).length = k := by simp [outP]
theorem outP_succ (l : List Int) (k : Nat) : outP l (k + 1) = outP l k ++ [pairS l k] := by simp [outP, List.range_succ]
theorem unhex_odd {l : List Int} (h : l.length % 2 = 1) : unhexS l = none := by unfold unhexS; rw [if_pos h]
theorem unhex_bad {l : List Int} {k : Nat} (h : l.length % 2 = 0) (hk : k < l.length / 2) (hb : ¬ okP l k) : unhexS l = none := by
  unfold unhexS
  rw [if_neg (by omega), if_neg fun x => hb (x k hk)]
theorem unhex_ok {l : List Int} {n : Nat} (hn : l.length = 2 * n) (hb : ∀ j, j < n → okP l j) : unhexS l = some (outP l n) := by
  unfold unhexS
  have e : l.length / 2 = n := by omega
  rw [if_neg (by omega), e, if_pos hb]

/-- The same, two at a time. -/
def unhexR : List Int → Option (List Int)
  | [] => some []
  | [_] => none
  | a :: b :: r => if valS a ≤ 15 ∧ valS b ≤ 15 then (unhexR r).map (fun z => (16 * valS a + valS b) :: z) else none
theorem okP_succ (a b : Int) (r : List Int) (j : Nat) : okP (a :: b :: r) (j + 1) ↔ okP r j := by
  unfold okP
  rw [show 2 * (j + 1) = 2 * j + 1 + 1 by omega]
  simp only [List.getD_cons_succ]
theorem pairS_succ (a b : Int) (r : List Int) (j : Nat) : pairS (a :: b :: r) (j + 1) = pairS r j := by
  unfold pairS
  rw [show 2 * (j + 1) = 2 * j + 1 + 1 by omega]
  simp only [List.getD_cons_succ]
theorem outP_cons (a b : Int) (r : List Int) (k : Nat) : outP (a :: b :: r) (k + 1) = (16 * valS a + valS b) :: outP r k := by
  unfold outP
  rw [List.range_succ_eq_map, List.map_cons, List.map_map]
  have h : (List.range k).map (pairS (a :: b :: r) ∘ Nat.succ) = (List.range k).map (pairS r) := List.map_congr_left fun j _ => pairS_succ a b r j
  rw [h]
  rfl
theorem unhexR_eq : ∀ l : List Int, unhexR l = unhexS l
  | [] => rfl
  | [_] => rfl
  | a :: b :: r => by
    have ih := unhexR_eq r
    unfold unhexR
    rw [ih]
    have hl : (a :: b :: r).length = r.length + 2 := rfl
    by_cases hp : r.length % 2 = 1
    · rw [unhex_odd hp, unhex_odd (l := a :: b :: r) (by omega)]
      split <;> rfl
    · by_cases h0 : valS a ≤ 15 ∧ valS b ≤ 15
      · rw [if_pos h0]
        have hn : r.length = 2 * (r.length / 2) := by omega
        by_cases ha : ∀ j, j < r.length / 2 → okP r j
        · rw [unhex_ok hn ha, unhex_ok (l := a :: b :: r) (n := r.length / 2 + 1) (by omega), outP_cons]
          · rfl
          · intro j hj
            cases j with
            | zero => exact h0
            | succ j => exact (okP_succ a b r j).2 (ha j (by omega))
        · have hx : ∃ j, j < r.length / 2 ∧ ¬ okP r j := Classical.byContradiction fun hc => ha fun j hj => Classical.byContradiction fun hk => hc ⟨j, hj, hk⟩
          obtain ⟨j, hj, hk⟩ := hx
          rw [unhex_bad (by omega) hj hk, unhex_bad (l := a :: b :: r) (k := j + 1) (by omega) (by omega) (fun x => hk ((okP_succ a b r j).1 x))]
          rfl
      · rw [if_neg h0, unhex_bad (l := a :: b :: r) (k := 0) (by omega) (by omega) h0]

theorem val_hexD {d : Int} (h0 : 0 ≤ d) (h1 : d ≤ 15) : valS (hexD d) = d := by
  have h : ∀ x : Fin 16, valS (hexD ((x.val : Nat) : Int)) = ((x.val : Nat) : Int) := by decide +kernel
  obtain ⟨n, rfl⟩ : ∃ n : Nat, d = (n : Int) := ⟨d.toNat, by omega⟩
  exact h ⟨n, by omega⟩
theorem hexD_val {c : Int} (h0 : 0 ≤ c) (h1 : c ≤ 255) (hv : valS c ≤ 15) : hexD (valS c) = lowB c := by
  have h : ∀ x : Fin 256, valS ((x.val : Nat) : Int) ≤ 15 → hexD (valS ((x.val : Nat) : Int)) = lowB ((x.val : Nat) : Int) := by decide +kernel
  obtain ⟨n, rfl⟩ : ∃ n : Nat, c = (n : Int) := ⟨c.toNat, by omega⟩
  exact h ⟨n, by omega⟩ hv
theorem val_bd (c : Int) : 0 ≤ valS c ∧ valS c ≤ 16 := ⟨valS_lo, valS_hi⟩
/-- There and back. -/
theorem unhex_hex {l : List Int} (h : ∀ b ∈ l, goodB b) : unhexS (hexS l) = some l := by
  rw [← unhexR_eq]
  induction l with
  | nil => rfl
  | cons b l ih =>
    obtain ⟨b0, b1⟩ := h b (by simp)
    have e : hexS (b :: l) = hexD (b / 16) :: hexD (b % 16) :: hexS l := rfl
    rw [e]
    unfold unhexR
    rw [val_hexD (d := b / 16) (by omega) (by omega), val_hexD (d := b % 16) (by omega) (by omega), if_pos ⟨by omega, by omega⟩, ih fun x hx => h x (by simp [hx])]
    show some ((16 * (b / 16) + b % 16) :: l) = some (b :: l)
    rw [show 16 * (b / 16) + b % 16 = b by omega]
/-- And the other way round. -/
theorem hex_unhex : ∀ {l y : List Int}, (∀ b ∈ l, goodB b) → unhexS l = some y → hexS y = lowS l
  | l, y, h, e => by
    rw [← unhexR_eq] at e
    revert y
    revert h
    fun_induction unhexR l with
    | case1 => intro _ y e; cases e; rfl
    | case2 => intro _ y e; cases e
    | case3 a b r hk ih =>
      intro h y e
      cases hr : unhexR r with
      | none => rw [hr] at e; cases e
      | some z =>
        rw [hr] at e
        have e' : (16 * valS a + valS b) :: z = y := Option.some.inj e
        subst e'
        have i1 := ih (fun x hx => h x (by simp [hx])) z hr
        have va := val_bd a
        have vb := val_bd b
        have ha := h a (by simp)
        have hb := h b (by simp)
        show hexD ((16 * valS a + valS b) / 16) :: hexD ((16 * valS a + valS b) % 16) :: hexS z = lowB a :: lowB b :: lowS r
        rw [i1, show (16 * valS a + valS b) / 16 = valS a by omega, show (16 * valS a + valS b) % 16 = valS b by omega, hexD_val ha.1 ha.2 hk.1, hexD_val hb.1 hb.2 hk.2]
    | case4 => intro _ y e; cases e
theorem outP_good (l : List Int) {n : Nat} (h : ∀ j, j < n → okP l j) : ∀ b ∈ outP l n, goodB b := by
  intro b hb
  obtain ⟨j, hj, rfl⟩ := List.mem_map.1 hb
  have hk := h j (List.mem_range.1 hj)
  have h1 := val_bd (l.getD (2 * j) 0)
  have h2 := val_bd (l.getD (2 * j + 1) 0)
  unfold okP at hk
  unfold pairS goodB
  omega
theorem unhex_good {l y : List Int} (h : unhexS l = some y) : (∀ b ∈ y, goodB b) ∧ l.length = 2 * y.length := by
  unfold unhexS at h
  split at h
  · cases h
  · split at h
    · rename_i h1 h2
      cases h
      refine ⟨outP_good l h2, ?_⟩
      rw [outP_len]; omega
    · cases h

end Go.Proofs.YtaafgakflmgpoaaDoor
