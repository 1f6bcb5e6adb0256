/-
  No cell of these rows narrows 'for every input' (looked for: loops, veiled, ifaces, maps, wideKeys, modest, calm, conditions, laid).
  DERIVED. THE GIVEN ROWS OF THIS SEAT. 6 by the template 'for every input the law returns true; each argument reads behind the call as it read before'; 0 by the template 'total and deterministic' (their statements: YtilnibedblmoeaaTotals.lean).
  GIVEN WITH THE SEED: the statements are not yours to turn. If you find one false, say at which input.
  Laid BY PROGRAM, IN A SANDBOX (cutbox-rows.mjs): the forced cells as the released guide's own fill.sh prints them over the translation ef5afaddab85f12c… (all of the seat's roots in one cut). By AI agents, Wed Nov 11 2026. No macro, syntax, notation, axiom, sorry.
-/
import Derived.Test.YtilnibedblmoeaaChecked
import GoSem.Claim
import GoSem.ClaimJoined
import GoSem.ClaimMapViews
import Derived.JoinedTies
import Derived.KernelRfl
namespace Go.Proofs.Ytilnibedblmoeaa
/- THE CELL 'sum', in the pinned program and in every row, IS THE sha256 OF THE DUMP (.gsa) THAT YtilnibedblmoeaaProg.lean LOADS. Nothing in Lean hashes anything: it is a label: what it is worth is what the hold of that sum in a sandbox is worth. -/
noncomputable def Try.pinned : Pinned := { name := "ytilnibedblmoeaa", sum := "ef5afaddab85f12cd12e014901238a2070cae4e7f94baa8f17216377eec0fb09", checked := Try.checked }
namespace Rows
def none {H : Type} : Left H := { results := [], args := [] }

/-- 'dialtonelaw15.ServerSteps': WHATEVER THE INPUT: true; the input reads as it did. -/
def serverStepsSpec : ChangeSpec := { name := "serverSteps", fn := fun _ => fun
  | [d1, d2] => { results := [.lit (.bool true)], args := [d1, d2] }
  | _ => none }
def serverStepsRow : OpenClaim := { program := "ytilnibedblmoeaa", sum := "ef5afaddab85f12cd12e014901238a2070cae4e7f94baa8f17216377eec0fb09", func := "dialtone/dialtonelaw15.ServerSteps", spec := "serverSteps", apart := false }
def ServerStepsSaid : Prop := serverStepsRow.holds Try.pinned (OpenSpec.ofChange serverStepsSpec)

/-- ITS FALSE NEIGHBOUR: 'it returns false'. Refute it at one input. -/
def serverStepsWrong : ChangeSpec := { name := "serverSteps", fn := fun _ => fun
  | [d1, d2] => { results := [.lit (.bool false)], args := [d1, d2] }
  | _ => none }
def ServerStepsWrongFalsely : Prop := serverStepsRow.holds Try.pinned (OpenSpec.ofChange serverStepsWrong)

/-- 'dialtonelaw15.ServerTable': WHATEVER THE INPUT: true; the input reads as it did. -/
def serverTableSpec : ChangeSpec := { name := "serverTable", fn := fun _ => fun
  | [] => { results := [.lit (.bool true)], args := [] }
  | _ => none }
def serverTableRow : OpenClaim := { program := "ytilnibedblmoeaa", sum := "ef5afaddab85f12cd12e014901238a2070cae4e7f94baa8f17216377eec0fb09", func := "dialtone/dialtonelaw15.ServerTable", spec := "serverTable", apart := false }
def ServerTableSaid : Prop := serverTableRow.holds Try.pinned (OpenSpec.ofChange serverTableSpec)

/-- ITS FALSE NEIGHBOUR: 'it returns false'. Refute it at one input. -/
def serverTableWrong : ChangeSpec := { name := "serverTable", fn := fun _ => fun
  | [] => { results := [.lit (.bool false)], args := [] }
  | _ => none }
def ServerTableWrongFalsely : Prop := serverTableRow.holds Try.pinned (OpenSpec.ofChange serverTableWrong)

/-- 'dialtonelaw15.ServerAnswers': WHATEVER THE INPUT: true; the input reads as it did. -/
def serverAnswersSpec : ChangeSpec := { name := "serverAnswers", fn := fun _ => fun
  | [d] => { results := [.lit (.bool true)], args := [d] }
  | _ => none }
def serverAnswersRow : OpenClaim := { program := "ytilnibedblmoeaa", sum := "ef5afaddab85f12cd12e014901238a2070cae4e7f94baa8f17216377eec0fb09", func := "dialtone/dialtonelaw15.ServerAnswers", spec := "serverAnswers", apart := false }
def ServerAnswersSaid : Prop := serverAnswersRow.holds Try.pinned (OpenSpec.ofChange serverAnswersSpec)

/-- ITS FALSE NEIGHBOUR: 'it returns false'. Refute it at one input. -/
def serverAnswersWrong : ChangeSpec := { name := "serverAnswers", fn := fun _ => fun
  | [d] => { results := [.lit (.bool false)], args := [d] }
  | _ => none }
def ServerAnswersWrongFalsely : Prop := serverAnswersRow.holds Try.pinned (OpenSpec.ofChange serverAnswersWrong)

/-- 'dialtonelaw15.ServerEnds': WHATEVER THE INPUT: true; the input reads as it did. -/
def serverEndsSpec : ChangeSpec := { name := "serverEnds", fn := fun _ => fun
  | [d1, d2] => { results := [.lit (.bool true)], args := [d1, d2] }
  | _ => none }
def serverEndsRow : OpenClaim := { program := "ytilnibedblmoeaa", sum := "ef5afaddab85f12cd12e014901238a2070cae4e7f94baa8f17216377eec0fb09", func := "dialtone/dialtonelaw15.ServerEnds", spec := "serverEnds", apart := false }
def ServerEndsSaid : Prop := serverEndsRow.holds Try.pinned (OpenSpec.ofChange serverEndsSpec)

/-- ITS FALSE NEIGHBOUR: 'it returns false'. Refute it at one input. -/
def serverEndsWrong : ChangeSpec := { name := "serverEnds", fn := fun _ => fun
  | [d1, d2] => { results := [.lit (.bool false)], args := [d1, d2] }
  | _ => none }
def ServerEndsWrongFalsely : Prop := serverEndsRow.holds Try.pinned (OpenSpec.ofChange serverEndsWrong)

/-- 'dialtonelaw15.ServerPlays': WHATEVER THE INPUT: true; the input reads as it did. -/
def serverPlaysSpec : ChangeSpec := { name := "serverPlays", fn := fun _ => fun
  | [d] => { results := [.lit (.bool true)], args := [d] }
  | _ => none }
def serverPlaysRow : OpenClaim := { program := "ytilnibedblmoeaa", sum := "ef5afaddab85f12cd12e014901238a2070cae4e7f94baa8f17216377eec0fb09", func := "dialtone/dialtonelaw15.ServerPlays", spec := "serverPlays", apart := false }
def ServerPlaysSaid : Prop := serverPlaysRow.holds Try.pinned (OpenSpec.ofChange serverPlaysSpec)

/-- ITS FALSE NEIGHBOUR: 'it returns false'. Refute it at one input. -/
def serverPlaysWrong : ChangeSpec := { name := "serverPlays", fn := fun _ => fun
  | [d] => { results := [.lit (.bool false)], args := [d] }
  | _ => none }
def ServerPlaysWrongFalsely : Prop := serverPlaysRow.holds Try.pinned (OpenSpec.ofChange serverPlaysWrong)

/-- 'dialtonelaw15.ServerKnown': WHATEVER THE INPUT: true; the input reads as it did. -/
def serverKnownSpec : ChangeSpec := { name := "serverKnown", fn := fun _ => fun
  | [] => { results := [.lit (.bool true)], args := [] }
  | _ => none }
def serverKnownRow : OpenClaim := { program := "ytilnibedblmoeaa", sum := "ef5afaddab85f12cd12e014901238a2070cae4e7f94baa8f17216377eec0fb09", func := "dialtone/dialtonelaw15.ServerKnown", spec := "serverKnown", apart := false }
def ServerKnownSaid : Prop := serverKnownRow.holds Try.pinned (OpenSpec.ofChange serverKnownSpec)

/-- ITS FALSE NEIGHBOUR: 'it returns false'. Refute it at one input. -/
def serverKnownWrong : ChangeSpec := { name := "serverKnown", fn := fun _ => fun
  | [] => { results := [.lit (.bool false)], args := [] }
  | _ => none }
def ServerKnownWrongFalsely : Prop := serverKnownRow.holds Try.pinned (OpenSpec.ofChange serverKnownWrong)

/- THE SECOND FORM. 'bulk': how many values and letters a reading holds, each counted each time it is reached (what is shared counts as often as it is met; a slice's spare places count too). A statement '..UptoSaid' is the law's where the arguments, and the package variables that the reading takes, are together of bulk at most 1048576: NARROWER than '..Said'. Prove '..Said' where nothing that the law and all that it calls make is longer than what came in: it says more and counts as full. Else prove '..UptoSaid'. A law counts once. -/
mutual
def uptoBulk {H : Type} : DataW H → Nat
  | .lit (.string bytes) => bytes.length + 1
  | .lit _ => 1
  | .nil => 1
  | .ptr d => uptoBulk d + 1
  | .slice elems spare => uptoBulkAll elems + uptoBulkAll spare + 1
  | .agg parts => uptoBulkAll parts + 1
  | .iface _ d => uptoBulk d + 1
  | .map entries => uptoBulkEntries entries + 1
  | .held _ => 1
def uptoBulkAll {H : Type} : List (DataW H) → Nat
  | [] => 0
  | d :: r => uptoBulk d + uptoBulkAll r
def uptoBulkEntries {H : Type} : List (Lit × DataW H) → Nat
  | [] => 0
  | x :: r => uptoBulkEntry x + uptoBulkEntries r
def uptoBulkEntry {H : Type} : Lit × DataW H → Nat
  | (.string bytes, d) => bytes.length + uptoBulk d + 1
  | (_, d) => uptoBulk d + 1
 end
def uptoSmall : (H : Type) → List (DataW H) → Bool := fun _ ds => decide (uptoBulkAll ds ≤ 1048576)
def OpenSpec.upto (s : _root_.Go.ChangeSpec) : _root_.Go.OpenSpec := { _root_.Go.OpenSpec.ofChange s with cond := some uptoSmall }

/-- 'dialtonelaw15.ServerSteps', WHERE WHAT IT READS IS OF BULK AT MOST 1048576: true; the input reads as it did. -/
def serverStepsUptoRow : OpenClaim := { program := "ytilnibedblmoeaa", sum := "ef5afaddab85f12cd12e014901238a2070cae4e7f94baa8f17216377eec0fb09", func := "dialtone/dialtonelaw15.ServerSteps", spec := "serverSteps", apart := false, narrowed := true }
def ServerStepsUptoSaid : Prop := serverStepsUptoRow.holds Try.pinned (OpenSpec.upto serverStepsSpec)

/-- 'dialtonelaw15.ServerTable', WHERE WHAT IT READS IS OF BULK AT MOST 1048576: true; the input reads as it did. -/
def serverTableUptoRow : OpenClaim := { program := "ytilnibedblmoeaa", sum := "ef5afaddab85f12cd12e014901238a2070cae4e7f94baa8f17216377eec0fb09", func := "dialtone/dialtonelaw15.ServerTable", spec := "serverTable", apart := false, narrowed := true }
def ServerTableUptoSaid : Prop := serverTableUptoRow.holds Try.pinned (OpenSpec.upto serverTableSpec)

/-- 'dialtonelaw15.ServerAnswers', WHERE WHAT IT READS IS OF BULK AT MOST 1048576: true; the input reads as it did. -/
def serverAnswersUptoRow : OpenClaim := { program := "ytilnibedblmoeaa", sum := "ef5afaddab85f12cd12e014901238a2070cae4e7f94baa8f17216377eec0fb09", func := "dialtone/dialtonelaw15.ServerAnswers", spec := "serverAnswers", apart := false, narrowed := true }
def ServerAnswersUptoSaid : Prop := serverAnswersUptoRow.holds Try.pinned (OpenSpec.upto serverAnswersSpec)

/-- 'dialtonelaw15.ServerEnds', WHERE WHAT IT READS IS OF BULK AT MOST 1048576: true; the input reads as it did. -/
def serverEndsUptoRow : OpenClaim := { program := "ytilnibedblmoeaa", sum := "ef5afaddab85f12cd12e014901238a2070cae4e7f94baa8f17216377eec0fb09", func := "dialtone/dialtonelaw15.ServerEnds", spec := "serverEnds", apart := false, narrowed := true }
def ServerEndsUptoSaid : Prop := serverEndsUptoRow.holds Try.pinned (OpenSpec.upto serverEndsSpec)

/-- 'dialtonelaw15.ServerPlays', WHERE WHAT IT READS IS OF BULK AT MOST 1048576: true; the input reads as it did. -/
def serverPlaysUptoRow : OpenClaim := { program := "ytilnibedblmoeaa", sum := "ef5afaddab85f12cd12e014901238a2070cae4e7f94baa8f17216377eec0fb09", func := "dialtone/dialtonelaw15.ServerPlays", spec := "serverPlays", apart := false, narrowed := true }
def ServerPlaysUptoSaid : Prop := serverPlaysUptoRow.holds Try.pinned (OpenSpec.upto serverPlaysSpec)

/-- 'dialtonelaw15.ServerKnown', WHERE WHAT IT READS IS OF BULK AT MOST 1048576: true; the input reads as it did. -/
def serverKnownUptoRow : OpenClaim := { program := "ytilnibedblmoeaa", sum := "ef5afaddab85f12cd12e014901238a2070cae4e7f94baa8f17216377eec0fb09", func := "dialtone/dialtonelaw15.ServerKnown", spec := "serverKnown", apart := false, narrowed := true }
def ServerKnownUptoSaid : Prop := serverKnownUptoRow.holds Try.pinned (OpenSpec.upto serverKnownSpec)

end Rows
end Go.Proofs.Ytilnibedblmoeaa
