/- More contracts with a length under a name. -/
import Derived.Test.YtfocenfgeolpfaaW9
import Derived.Test.YtfocenfgeolpfaaR5
namespace Go.Proofs.Ytfocenfgeolpfaa
open Go.RowKit

section
variable {B : Nat} {w : World}
theorem validn_any (A : Option Addr) (c : Nat) (l : List Tm) (n : Nat) (hn : l.length = n) (hB : B ≤ w.heap.size) (h : TRd w B A l) (hl : n ≤ 100000) :
    Calls Try.prog 11 #[.slice A n c] w fun e w' => e = .returned (.bool (validT l)) ∧ Below w.heap.size w w' := by
  subst hn
  exact valid_any A c l w hB h (by simp only [maxLen]; omega)
theorem rvalidn_any (A : Option Addr) (c : Nat) (l : List Tm) (n : Nat) (hn : l.length = n) (hB : B ≤ w.heap.size) (h : TRd w B A l) (hl : n ≤ 100000) :
    Calls Try.prog 21 #[.slice A n c] w fun e w' => e = .returned (.bool (validT l)) ∧ Below w.heap.size w w' := by
  subst hn
  exact rvalid_any A c l w hB h (by simp only [maxLen]; omega)
theorem nextn_any (A : Option Addr) (c : Nat) (l : List Tm) (n : Nat) (hn : l.length = n) (hB : B ≤ w.heap.size) (h : TRd w B A l) (hl : n ≤ 100000) :
    Calls Try.prog 19 #[.slice A n c] w fun e w' => e = .returned (.tuple #[.int .i64 (nextT l).1, .bool (nextT l).2]) ∧ Below w.heap.size w w' := by
  subst hn
  exact next_any A c l w hB h (by simp only [maxLen]; omega)
theorem rnextn_any (A : Option Addr) (c : Nat) (l : List Tm) (n : Nat) (hn : l.length = n) (hB : B ≤ w.heap.size) (h : TRd w B A l) (hl : n ≤ 100000) :
    Calls Try.prog 20 #[.slice A n c] w fun e w' => e = .returned (.tuple #[.int .i64 (nextT l).1, .bool (nextT l).2]) ∧ Below w.heap.size w w' := by
  subst hn
  exact rnext_any A c l w hB h (by simp only [maxLen]; omega)
theorem addn_any (A : Option Addr) (c : Nat) (l : List Tm) (n : Nat) (hn : l.length = n) (t : Tm) (hB : B ≤ w.heap.size) (h : TRd w B A l) (hl : n ≤ 100000) (hc : n ≤ c) :
    Calls Try.prog 22 #[.slice A n c, .agg #[.int .i64 t.1, .int .i64 t.2.1, .int .i64 t.2.2]] w (Gives2 w (addT l t)) := by
  subst hn
  exact add_any A c l t w hB h (by simp only [maxLen]; omega) hc
theorem raddn_any (A : Option Addr) (c : Nat) (l : List Tm) (n : Nat) (hn : l.length = n) (t : Tm) (hB : B ≤ w.heap.size) (h : TRd w B A l) (hl : n ≤ 100000) :
    Calls Try.prog 23 #[.slice A n c, .agg #[.int .i64 t.1, .int .i64 t.2.1, .int .i64 t.2.2]] w (Gives2 w (addT l t)) := by
  subst hn
  exact radd_any A c l t w hB h (by simp only [maxLen]; omega)
theorem restartn_any (A : Option Addr) (c : Nat) (l : List Tm) (n : Nat) (hn : l.length = n) (t : Tm) (hB : B ≤ w.heap.size) (h : TRd w B A l) (hl : n ≤ 100000) :
    Calls Try.prog 24 #[.slice A n c, .agg #[.int .i64 t.1, .int .i64 t.2.1, .int .i64 t.2.2]] w (Gives2 w (restartT l t)) := by
  subst hn
  exact restart_any A c l t w hB h (by simp only [maxLen]; omega)
theorem rrestartn_any (A : Option Addr) (c : Nat) (l : List Tm) (n : Nat) (hn : l.length = n) (t : Tm) (hB : B ≤ w.heap.size) (h : TRd w B A l) (hl : n ≤ 100000) :
    Calls Try.prog 25 #[.slice A n c, .agg #[.int .i64 t.1, .int .i64 t.2.1, .int .i64 t.2.2]] w (Gives2 w (restartT l t)) := by
  subst hn
  exact rrestart_any A c l t w hB h (by simp only [maxLen]; omega)
theorem canceln_any (A : Option Addr) (c : Nat) (l : List Tm) (n : Nat) (hn : l.length = n) (o k : Int) (hB : B ≤ w.heap.size) (h : TRd w B A l) (hl : n ≤ 100000) :
    Calls Try.prog 26 #[.slice A n c, .int .i64 o, .int .i64 k] w (Gives1 w (cancelT o k l)) := by
  subst hn
  exact cancel_any A c l o k w hB h hl
theorem rcanceln_any (A : Option Addr) (c : Nat) (l : List Tm) (n : Nat) (hn : l.length = n) (o k : Int) (hB : B ≤ w.heap.size) (h : TRd w B A l) (hl : n ≤ 100000) :
    Calls Try.prog 28 #[.slice A n c, .int .i64 o, .int .i64 k] w (Gives1 w (cancelT o k l)) := by
  subst hn
  exact rcancel_any A c l o k w hB h hl
theorem cancelalln_any (A : Option Addr) (c : Nat) (l : List Tm) (n : Nat) (hn : l.length = n) (o : Int) (hB : B ≤ w.heap.size) (h : TRd w B A l) (hl : n ≤ 100000) :
    Calls Try.prog 27 #[.slice A n c, .int .i64 o] w (Gives1 w (cancelAllT o l)) := by
  subst hn
  exact cancelall_any A c l o w hB h hl
theorem rcancelalln_any (A : Option Addr) (c : Nat) (l : List Tm) (n : Nat) (hn : l.length = n) (o : Int) (hB : B ≤ w.heap.size) (h : TRd w B A l) (hl : n ≤ 100000) :
    Calls Try.prog 29 #[.slice A n c, .int .i64 o] w (Gives1 w (cancelAllT o l)) := by
  subst hn
  exact rcancelall_any A c l o w hB h hl
theorem countn_any (A : Option Addr) (c : Nat) (l : List Tm) (n : Nat) (hn : l.length = n) (o : Int) (hB : B ≤ w.heap.size) (h : TRd w B A l) (hl : n ≤ 100000) :
    Calls Try.prog 30 #[.slice A n c, .int .i64 o] w fun e w' => e = .returned (.int .i64 (countT o l)) ∧ Below w.heap.size w w' := by
  subst hn
  exact count_any A c l o w hB h hl
theorem rcountn_any (A : Option Addr) (c : Nat) (l : List Tm) (n : Nat) (hn : l.length = n) (o : Int) (hB : B ≤ w.heap.size) (h : TRd w B A l) (hl : n ≤ 100000) :
    Calls Try.prog 31 #[.slice A n c, .int .i64 o] w fun e w' => e = .returned (.int .i64 (countT o l)) ∧ Below w.heap.size w w' := by
  subst hn
  exact rcount_any A c l o w hB h hl
end
theorem restart_len {l : List Tm} {t : Tm} : (restartT l t).1.length ≤ 1001 := by
  unfold restartT
  split
  · simp
  · exact addT_len
theorem cancel_len (o k : Int) (l : List Tm) : (cancelT o k l).length ≤ l.length := without_len _ _
theorem cancelall_len (o : Int) (l : List Tm) : (cancelAllT o l).length ≤ l.length := without_len _ _

end Go.Proofs.Ytfocenfgeolpfaa
