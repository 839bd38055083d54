/-
  Closed facts of the program (its head). Conditions: none.
-/
import Derived.Test.YtkdbhilbpbppiaaGreatRows
import Derived.ProofKit
import Derived.OpenShut
import Derived.KernelRfl
namespace Go.Proofs.YtkdbhilbpbppiaaGreat.fnFlows
set_option linter.unusedVariables false
set_option maxRecDepth 100000
theorem closedB : (((Tryz.prog.mayEnter) && ((Rows.fnFlowsRow.lifted == Tryz.prog.liftsFinal))) && ((Tryz.prog.make == some Rows.fnFlowsRow.make))) = true := by kernel_rfl
end Go.Proofs.YtkdbhilbpbppiaaGreat.fnFlows
