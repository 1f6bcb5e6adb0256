/- The seat's text with step_any and start_any. -/
import Derived.Test.YtlmanafplbddoaaW7g
import Derived.Test.YtlmanafplbddoaaStepOk
namespace Go.Proofs.Ytlmanafplbddoaa
open Go.RowKit

theorem mstart_any (w : World) : Calls Try.prog 16 #[] w (GivesS w (startM, startL)) := (start_any w).mono fun _ _ ⟨v, h1, h2, h3⟩ => ⟨v, h1, h2, h3⟩

end Go.Proofs.Ytlmanafplbddoaa
