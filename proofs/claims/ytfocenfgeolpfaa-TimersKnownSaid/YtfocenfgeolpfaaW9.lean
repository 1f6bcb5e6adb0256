/- The contracts with a length under a name; two lists that are one. -/
import Derived.Test.YtfocenfgeolpfaaR3
import Derived.Test.YtfocenfgeolpfaaW8
namespace Go.Proofs.Ytfocenfgeolpfaa
open Go.RowKit

theorem min_eq {α : Type} (l : List α) (k : Nat) : (if (k : Int) < (l.length : Int) then (k : Int) else (l.length : Int)) = ((l.take k).length : Int) := by
  rw [List.length_take]
  split <;> omega

section
variable {B C : Nat} {w : World}
theorem same16_yes (A D : Option Addr) (n m c d : Nat) (l : List Tm) (hn : l.length = n) (hm : l.length = m) (hB : B ≤ w.heap.size) (hC : C ≤ w.heap.size) (h : TRd w B A l) (g : TRd w C D l) (hl : n ≤ maxLen) :
    Calls Try.prog 16 #[.slice A n c, .slice D m d] w fun e w' => e = .returned (.bool true) ∧ Below w.heap.size w w' := by
  subst hn
  rw [← hm]
  exact (same16_any A D c d l l w hB hC h g hl hl).mono fun _ _ ⟨he, hb⟩ => ⟨by rw [he]; simp, hb⟩
theorem same18n_yes (A D : Option Addr) (n m c d : Nat) (l : List Tm) (hn : l.length = n) (hm : l.length = m) (hB : B ≤ w.heap.size) (hC : C ≤ w.heap.size) (h : TRd w B A l) (g : TRd w C D l) (hl : n ≤ maxLen) :
    Calls Try.prog 18 #[.slice A n c, .slice D m d] w fun e w' => e = .returned (.bool true) ∧ Below w.heap.size w w' := by
  subst hn
  rw [← hm]
  exact (same18_any A D c d l l w hB hC h g hl hl).mono fun _ _ ⟨he, hb⟩ => ⟨by rw [he]; simp, hb⟩
theorem copyn_any (A : Option Addr) (c : Nat) (l : List Tm) (n : Nat) (hn : l.length = n) (hB : B ≤ w.heap.size) (h : TRd w B A l) (hl : n ≤ 100000) :
    Calls Try.prog 13 #[.slice A n c] w fun e w' => ∃ v, e = .returned v ∧ w'.ownsRow w.heap.size 28 3 v n (tscells l) ∧ Below w.heap.size w w' := by
  subst hn
  exact copy_any A c l w hB h hl
theorem duen_any (A : Option Addr) (c : Nat) (l : List Tm) (n : Nat) (hn : l.length = n) (now : Int) (hB : B ≤ w.heap.size) (h : TRd w B A l) (hl : n ≤ 100000) :
    Calls Try.prog 14 #[.slice A n c, .int .i64 now] w (GivesTwo w (dueT now l) (laterT now l)) := by
  subst hn
  exact due_any A c l now w hB h hl
theorem rduen_any (A : Option Addr) (c : Nat) (l : List Tm) (n : Nat) (hn : l.length = n) (now : Int) (hB : B ≤ w.heap.size) (h : TRd w B A l) (hl : n ≤ 100000) :
    Calls Try.prog 15 #[.slice A n c, .int .i64 now] w (GivesBoth w (dueT now l) (laterT now l)) := by
  subst hn
  exact rdue_any A c l now w hB h hl
end
theorem due_len (now : Int) (l : List Tm) : (dueT now l).length ≤ l.length := without_len _ _
theorem later_len (now : Int) (l : List Tm) : (laterT now l).length ≤ l.length := without_len _ _

end Go.Proofs.Ytfocenfgeolpfaa
