/- Words for memory: a slice of timers that reads as a list. -/
import Derived.Test.YtfocenfgeolpfaaProg
import Derived.Test.YtfocenfgeolpfaaMem
import Derived.Test.YtfocenfgeolpfaaPlain
namespace Go.Proofs.Ytfocenfgeolpfaa
open Go.RowKit

/-- The three cells of a timer. -/
def tcells (t : Tm) : List Value := [.int .i64 t.1, .int .i64 t.2.1, .int .i64 t.2.2]
def tscells (l : List Tm) : List Value := l.flatMap tcells

theorem tcells_len (t : Tm) : (tcells t).length = 3 := rfl
theorem tscells_len (l : List Tm) : (tscells l).length = l.length * 3 := flat_len tcells 3 tcells_len l
theorem tscells_take (l : List Tm) (k : Nat) : (tscells l).take (k * 3) = tscells (l.take k) := flat_take tcells 3 tcells_len l k
theorem tscells_drop (l : List Tm) (k : Nat) : (tscells l).drop (k * 3) = tscells (l.drop k) := flat_drop tcells 3 tcells_len l k
theorem tscells_append (l r : List Tm) : tscells (l ++ r) = tscells l ++ tscells r := List.flatMap_append
theorem tscells_one (t : Tm) : tscells [t] = tcells t := by simp [tscells]
theorem tscells_ones (l : List Tm) : ∀ u ∈ tscells l, u.oneCell' = true := by
  intro u hu
  obtain ⟨t, _, ht⟩ := List.mem_flatMap.1 hu
  simp only [tcells, List.mem_cons, List.not_mem_nil, or_false] at ht
  rcases ht with rfl | rfl | rfl <;> rfl

/-- The slice with address A reads as the list l; it lies below block B. -/
def TRd (w : World) (B : Nat) (A : Option Addr) (l : List Tm) : Prop := Rd w B A (tscells l)

section
variable {w w' : World} {B B' : Nat} {A : Option Addr} {l : List Tm}
theorem TRd.below (h : TRd w B A l) (hb : Below B w w') : TRd w' B A l := Rd.below h hb
theorem TRd.more (h : TRd w B A l) (hB : B ≤ B') : TRd w B' A l := Rd.more h hB
theorem TRd.take (h : TRd w B A l) (k : Nat) : TRd w B A (l.take k) := by
  have := Rd.take h (k * 3)
  rwa [tscells_take] at this
theorem TRd.drop (h : TRd w B A l) (k : Nat) {c : Nat} (hc : l.length ≤ c) : TRd w B (if c = k then A else A.map (·.add (k * 3))) (l.drop k) := by
  unfold TRd
  rw [← tscells_drop]
  rcases h with h | ⟨b, off, rfl, hb, hcell⟩
  · exact .inl (by rw [h]; simp)
  · by_cases hck : c = k
    · exact .inl (List.drop_eq_nil_of_le (by rw [tscells_len]; omega))
    · rw [if_neg hck]
      refine .inr ⟨b, off + k * 3, ?_, hb, fun j u hu => ?_⟩
      · simp only [Option.map_some, Addr.add]
        split
        · simp [*]
        · rfl
      · rw [List.getElem?_drop] at hu
        rw [Nat.add_assoc]
        exact hcell _ u hu
theorem TRd.at_ (h : TRd w B A l) {k : Nat} (hk : k < l.length) :
    ∃ b off t, A = some ⟨b, off, none⟩ ∧ b < B ∧ l[k]? = some t ∧
    w.cell? ⟨b, off + k * 3, none⟩ = some (.int .i64 t.1) ∧ w.cell? ⟨b, off + k * 3 + 1, none⟩ = some (.int .i64 t.2.1) ∧ w.cell? ⟨b, off + k * 3 + 2, none⟩ = some (.int .i64 t.2.2) := by
  rcases h with h | ⟨b, off, hA, hb, hc⟩
  · have := tscells_len l
    rw [h] at this
    simp at this
    omega
  · have he : l[k]? = some l[k] := List.getElem?_eq_getElem hk
    have g (j : Nat) (hj : j < 3) : (tscells l)[k * 3 + j]? = (tcells l[k])[j]? := by
      rw [tscells, flat_get tcells 3 tcells_len l k j hj, he]; rfl
    exact ⟨b, off, l[k], hA, hb, he, hc (k * 3) _ (g 0 (by omega)), hc (k * 3 + 1) _ (g 1 (by omega)), hc (k * 3 + 2) _ (g 2 (by omega))⟩
end

theorem run_neq_tm (t t' : Tm) (W : World) : (binOp .neq 28 (.agg #[.int .i64 t.1, .int .i64 t.2.1, .int .i64 t.2.2]) (.agg #[.int .i64 t'.1, .int .i64 t'.2.1, .int .i64 t'.2.2])).run Try.prog W = .ok (.bool (!decide (t = t'))) W := by
  obtain ⟨a, b, c⟩ := t
  obtain ⟨a', b', c'⟩ := t'
  simp [go_sem]
  by_cases h1 : a = a' <;> by_cases h2 : b = b' <;> by_cases h3 : c = c' <;> simp [h1, h2, h3]

theorem slice_to (A : Option Addr) (n c k : Nat) (W : World) (hk : k ≤ c) : (Instr.slice 23 (.slice A n c) none (some (.int .i64 (k : Int))) none).run Try.prog W = .ok (.slice A k c) W := by
  have hk' : (k : Int) ≤ c := by omega
  simp [go_sem, hk']

theorem slice_from {B : Nat} {A : Option Addr} {l : List Tm} {c k : Nat} (hk : k ≤ l.length) (hc : l.length ≤ c) : ∃ A2 : Option Addr,
    (∀ W : World, (Instr.slice 23 (.slice A l.length c) (some (.int .i64 (k : Int))) none none).run Try.prog W = .ok (.slice A2 (l.length - k) (c - k)) W) ∧
    (∀ w : World, TRd w B A l → TRd w B A2 (l.drop k)) := by
  refine ⟨_, fun W => ?_, fun w h => h.drop k hc⟩
  have hk' : (k : Int) ≤ l.length := by omega
  simp [go_sem, hk']

end Go.Proofs.Ytfocenfgeolpfaa
