/- The plain part, of the reference's functions. -/
import Derived.Test.YtfocenfgeolpfaaPlain
namespace Go.Proofs.Ytfocenfgeolpfaa

/-- The last time before the k-th timer; 0 ahead of the first. -/
def lastT (l : List Tm) (k : Nat) : Int := match k with | 0 => 0 | j + 1 => match l[j]? with | some t => t.1 | none => 0

theorem lastT_succ {l : List Tm} {j : Nat} {t : Tm} (h : l[j]? = some t) : lastT l (j + 1) = t.1 := by
  simp [lastT, h]

end Go.Proofs.Ytfocenfgeolpfaa
