/- Words for memory: machines, inputs, lists of outputs. -/
import Derived.Test.YtlcpadonjbaaeaaProg
import Derived.Test.YtlcpadonjbaaeaaMem
import Derived.Test.YtlcpadonjbaaeaaPlain
namespace Go.Proofs.Ytlcpadonjbaaeaa
open Go.RowKit

/-- A machine, an input, an output as values. -/
abbrev mval (m : Mc) : Value := .agg #[.int .u8 m.1, .int .i64 m.2.1, .int .i64 m.2.2]
abbrev ival (i : In) : Value := .agg #[.int .u8 i.1, .int .i64 i.2.1, .int .u8 i.2.2]
abbrev oval (o : Out) : Value := .agg #[.int .u8 o.1, .int .i64 o.2.1, .int .u8 o.2.2.1, .int .i64 o.2.2.2]

/-- The four cells of an output. -/
def ocells (o : Out) : List Value := [.int .u8 o.1, .int .i64 o.2.1, .int .u8 o.2.2.1, .int .i64 o.2.2.2]
def oscells (l : List Out) : List Value := l.flatMap ocells
theorem ocells_len (o : Out) : (ocells o).length = 4 := rfl
theorem oscells_len (l : List Out) : (oscells l).length = l.length * 4 := flat_len ocells 4 ocells_len l

/-- The slice with address A reads as the list l; it lies below block B. -/
def ORd (w : World) (B : Nat) (A : Option Addr) (l : List Out) : Prop := Rd w B A (oscells l)
section
variable {w w' : World} {B B' : Nat} {A : Option Addr} {l : List Out}
theorem ORd.below (h : ORd w B A l) (hb : Below B w w') : ORd w' B A l := Rd.below h hb
theorem ORd.more (h : ORd w B A l) (hB : B ≤ B') : ORd w B' A l := Rd.more h hB
theorem ORd.at_ (h : ORd w B A l) {k : Nat} (hk : k < l.length) :
    ∃ b off o, A = some ⟨b, off, none⟩ ∧ b < B ∧ l[k]? = some o ∧
    w.cell? ⟨b, off + k * 4, none⟩ = some (.int .u8 o.1) ∧ w.cell? ⟨b, off + k * 4 + 1, none⟩ = some (.int .i64 o.2.1) ∧
    w.cell? ⟨b, off + k * 4 + 2, none⟩ = some (.int .u8 o.2.2.1) ∧ w.cell? ⟨b, off + k * 4 + 3, none⟩ = some (.int .i64 o.2.2.2) := by
  rcases h with h | ⟨b, off, hA, hb, hc⟩
  · have := oscells_len l
    rw [h] at this
    simp at this
    omega
  · have he : l[k]? = some l[k] := List.getElem?_eq_getElem hk
    have g (j : Nat) (hj : j < 4) : (oscells l)[k * 4 + j]? = (ocells l[k])[j]? := by
      rw [oscells, flat_get ocells 4 ocells_len l k j hj, he]; rfl
    exact ⟨b, off, l[k], hA, hb, he, hc (k * 4) _ (g 0 (by omega)), hc (k * 4 + 1) _ (g 1 (by omega)), hc (k * 4 + 2) _ (g 2 (by omega)), hc (k * 4 + 3) _ (g 3 (by omega))⟩
end

theorem own_new {w : World} {base : Nat} {cs : Array Value} {g : Nat} (l : List Out) (n : Nat) (hcs : cs.toList = oscells l) (hg : g = w.heap.size) (hn : l.length = n) (hm : n ≤ maxLen) (hb : base ≤ w.heap.size) :
    (w.alloc (.cells cs 48)).ownsRow base 48 4 (.slice (some ⟨g, 0, none⟩) n n) n (oscells l) := by
  subst hg
  have := World.ownsRow_lit (w := w) (base := base) (e := 48) (size := 4) cs n hb hm (by rw [← Array.length_toList, hcs, oscells_len, hn])
  rwa [hcs] at this

/-- What Step leaves: a machine and a list of outputs, owned in new memory. -/
def GivesS (w : World) (r : Mc × List Out) (e : Ending) (w' : World) : Prop :=
  ∃ v, e = .returned (.tuple #[mval r.1, v]) ∧ w'.ownsRow w.heap.size 48 4 v r.2.length (oscells r.2) ∧ Below w.heap.size w w'

theorem run_neq_out (a b : Out) (W : World) : (binOp .neq 48 (oval a) (oval b)).run Try.prog W = .ok (.bool (!decide (a = b))) W := by
  obtain ⟨a1, a2, a3, a4⟩ := a
  obtain ⟨b1, b2, b3, b4⟩ := b
  simp [go_sem]
  by_cases h1 : a1 = b1 <;> by_cases h2 : a2 = b2 <;> by_cases h3 : a3 = b3 <;> by_cases h4 : a4 = b4 <;> simp [h1, h2, h3, h4]
theorem run_eql_out (a b : Out) (W : World) : (binOp .eql 48 (oval a) (oval b)).run Try.prog W = .ok (.bool (decide (a = b))) W := by
  obtain ⟨a1, a2, a3, a4⟩ := a
  obtain ⟨b1, b2, b3, b4⟩ := b
  simp [go_sem]
  by_cases h1 : a1 = b1 <;> by_cases h2 : a2 = b2 <;> by_cases h3 : a3 = b3 <;> by_cases h4 : a4 = b4 <;> simp [h1, h2, h3, h4]
theorem run_neq_mc (a b : Mc) (W : World) : (binOp .neq 31 (mval a) (mval b)).run Try.prog W = .ok (.bool (!decide (a = b))) W := by
  obtain ⟨a1, a2, a3⟩ := a
  obtain ⟨b1, b2, b3⟩ := b
  simp [go_sem]
  by_cases h1 : a1 = b1 <;> by_cases h2 : a2 = b2 <;> by_cases h3 : a3 = b3 <;> simp [h1, h2, h3]
theorem run_eql_mc (a b : Mc) (W : World) : (binOp .eql 31 (mval a) (mval b)).run Try.prog W = .ok (.bool (decide (a = b))) W := by
  obtain ⟨a1, a2, a3⟩ := a
  obtain ⟨b1, b2, b3⟩ := b
  simp [go_sem]
  by_cases h1 : a1 = b1 <;> by_cases h2 : a2 = b2 <;> by_cases h3 : a3 = b3 <;> simp [h1, h2, h3]

end Go.Proofs.Ytlcpadonjbaaeaa
