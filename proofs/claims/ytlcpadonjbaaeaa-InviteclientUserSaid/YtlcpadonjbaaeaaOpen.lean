/- Arguments opened: a slice whose elements are records of a fixed number of cells, as a list. (For all seats.) -/
import Derived.Test.YtlcpadonjbaaeaaMem
import Derived.ProofKit
import Derived.Deep.Slices
import Derived.ChangeOld
import Derived.OpenShut
namespace Go.Proofs.Ytlcpadonjbaaeaa
open Go.ChangeShapes Go.WideShapes Go.ChangeAt Go.RowKit

/-- A slice that came in, as the list of its elements. 'row': what the reading of one element says. -/
theorem open_rows {α : Type} {H : Type} {enc : TypeId × Value → H} {P : Program} {w : World} {spare : Nat → Bool} {held : Bool} {t e : TypeId} {v : Value} {d : DataW H} {p : List MemPlace}
    (f : α → List Value) (s : Nat) (good : α → Prop) (ht : P.underlying t = some (.slice e)) (hc : P.cellsOf e = s) (hs : 0 < s) (hf : ∀ x, (f x).length = s)
    (row : ∀ (n : Nat) (cs : List Value) (y : DataW H × List MemPlace), DataW.trod enc P w 0 spare held n e cs = some y → ∃ x, cs = f x ∧ good x)
    (hv : ∃ A n c, v = .slice A n c) (h : DataW.Trod enc P w 0 spare held t v d p) :
    ∃ (A : Option Addr) (c : Nat) (l : List α), v = .slice A l.length c ∧ l.length ≤ c ∧ c ≤ maxLen ∧ (∀ x ∈ l, good x) ∧ Rd w w.heap.size A (l.flatMap f) := by
  obtain ⟨A, n, c, rfl⟩ := hv
  obtain ⟨fuel, hf'⟩ := h
  rcases Go.Deep.open_slice ht hf' with ⟨hcs, _⟩ | ⟨a, len, cap, m, n', D, Pl, hcs, _, hl, hm, hmm, _, hi⟩
  · simp [Value.cells] at hcs
    obtain ⟨rfl, rfl, rfl⟩ := hcs
    exact ⟨none, 0, [], rfl, Nat.le_refl _, Nat.zero_le _, by simp, .inl rfl⟩
  · simp [Value.cells] at hcs
    obtain ⟨rfl, rfl, rfl⟩ := hcs
    rw [hc] at hi
    have hmn : n ≤ m := by rw [hmm]; split <;> omega
    have each : ∀ i, i < n → ∃ x : α, good x ∧ ∀ j, j < s → w.cell? (a.add (i * s + j)) = (f x)[j]? := by
      intro i hin
      obtain ⟨cs', h1, h2⟩ := hi i (by omega)
      obtain ⟨_, hlen, hat⟩ := World.cells?_some h1
      obtain ⟨x, rfl, hg⟩ := row _ _ _ h2
      exact ⟨x, hg, fun j hj => by rw [← Go.Deep.add_add]; exact hat j hj⟩
    have lists : ∀ k, k ≤ n → ∃ l : List α, l.length = k ∧ (∀ x ∈ l, good x) ∧ ∀ i x, l[i]? = some x → ∀ j, j < s → w.cell? (a.add (i * s + j)) = (f x)[j]? := by
      intro k
      induction k with
      | zero => exact fun _ => ⟨[], rfl, by simp, by simp⟩
      | succ k ih =>
        intro hk
        obtain ⟨l, hll, hg, hat⟩ := ih (by omega)
        obtain ⟨x, hgx, hx⟩ := each k (by omega)
        refine ⟨l ++ [x], by simp [hll], ?_, ?_⟩
        · intro y hy
          rcases List.mem_append.1 hy with hy | hy
          · exact hg y hy
          · rw [List.mem_singleton.1 hy]; exact hgx
        · intro i y hy j hj
          rw [List.getElem?_append] at hy
          split at hy
          · exact hat i y hy j hj
          · rename_i hni
            have hik : i = k := by
              rcases Nat.lt_or_ge (i - l.length) 1 with h | h
              · omega
              · rw [List.getElem?_eq_none (by simpa using h)] at hy
                cases hy
            subst hik
            rw [hll, Nat.sub_self] at hy
            simp at hy
            subst hy
            exact hx j hj
    obtain ⟨l, hll, hg, hat⟩ := lists n (Nat.le_refl _)
    subst hll
    refine ⟨some a, c, l, rfl, hl, hm, hg, ?_⟩
    cases hl0 : l with
    | nil => exact .inl rfl
    | cons x0 r =>
      have c0 := hat 0 x0 (by rw [hl0]; rfl) 0 hs
      have hx0 : (f x0)[0]? = some ((f x0)[0]'(by rw [hf]; omega)) := List.getElem?_eq_getElem _
      rw [hx0] at c0
      have ea : a.add (0 * s + 0) = a := by simp [Addr.add]
      rw [ea] at c0
      obtain ⟨b, off, spot⟩ := a
      have hspot : spot = none := by simpa using World.cell?_spot c0
      subst hspot
      have hb : b < w.heap.size := World.block_lt_of_cell? w _ c0
      rw [← hl0]
      refine .inr ⟨b, off, rfl, hb, fun j u hu => ?_⟩
      have hjl : j < l.length * s := by
        have := (List.getElem?_eq_some_iff.1 hu).1
        rwa [flat_len f s hf] at this
      have hq : j / s < l.length := Nat.div_lt_of_lt_mul (by rw [Nat.mul_comm]; exact hjl)
      have hr : j % s < s := Nat.mod_lt _ hs
      have hj : j / s * s + j % s = j := by rw [Nat.mul_comm]; exact Nat.div_add_mod j s
      have hg' := flat_get f s hf l (j / s) (j % s) hr
      rw [hj] at hg'
      have he : l[j / s]? = some l[j / s] := List.getElem?_eq_getElem hq
      rw [he] at hg'
      have := hat (j / s) _ he (j % s) hr
      rw [hj] at this
      have hadd : (⟨b, off, none⟩ : Addr).add j = ⟨b, off + j, none⟩ := by unfold Addr.add; split <;> simp_all
      rw [hadd] at this
      rw [this, ← hu, hg']
      rfl

/-- Bytes that came in. -/
def u8cell (n : Int) : List Value := [.int .u8 n]
theorem open_bytes {H : Type} {enc : TypeId × Value → H} {P : Program} {w : World} {spare : Nat → Bool} {held : Bool} {t e : TypeId} {v : Value} {d : DataW H} {p : List MemPlace}
    (ht : P.underlying t = some (.slice e)) (he : P.underlying e = some (.int .u8)) (hc : P.cellsOf e = 1)
    (hv : ∃ A n c, v = .slice A n c) (h : DataW.Trod enc P w 0 spare held t v d p) :
    ∃ (A : Option Addr) (c : Nat) (l : List Int), v = .slice A l.length c ∧ l.length ≤ c ∧ c ≤ maxLen ∧ (∀ n ∈ l, 0 ≤ n ∧ n ≤ 255) ∧ Rd w w.heap.size A (l.flatMap u8cell) :=
  open_rows u8cell 1 _ ht hc (by omega) (fun _ => rfl) (fun n cs y hy => by
    obtain ⟨m, rfl, _, hw⟩ := DataW.trod_int he hy
    exact ⟨m, rfl, bounds_u8 hw⟩) hv h

end Go.Proofs.Ytlcpadonjbaaeaa
