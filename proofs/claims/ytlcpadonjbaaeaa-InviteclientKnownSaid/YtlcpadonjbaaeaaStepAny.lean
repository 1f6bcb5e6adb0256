/- The seat's text with step_any and start_any. -/
import Derived.Test.YtlcpadonjbaaeaaStepB
import Derived.Test.YtlcpadonjbaaeaaStepOk
namespace Go.Proofs.Ytlcpadonjbaaeaa
open Go.RowKit

theorem mstart_any (w : World) : Calls Try.prog 21 #[] w (GivesS w (startM, startL)) := (start_any w).mono fun _ _ ⟨v, h1, h2, h3⟩ => ⟨v, h1, h2, h3⟩

end Go.Proofs.Ytlcpadonjbaaeaa
