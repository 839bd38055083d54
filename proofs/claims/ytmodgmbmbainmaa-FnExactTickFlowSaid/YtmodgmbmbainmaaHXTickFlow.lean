/-
  Closed facts of the program (its head). Conditions: none.
-/
import Derived.Test.YtmodgmbmbainmaaRows
import Derived.ProofKit
import Derived.OpenShut
import Derived.KernelRfl
namespace Go.Proofs.Ytmodgmbmbainmaa.fnExactTickFlow
set_option linter.unusedVariables false
set_option maxRecDepth 100000
theorem closedB : (((Try.prog.mayEnter) && ((Rows.fnExactTickFlowRow.lifted == Try.prog.liftsFinal))) && ((Try.prog.make == some Rows.fnExactTickFlowRow.make))) = true := by kernel_rfl
end Go.Proofs.Ytmodgmbmbainmaa.fnExactTickFlow
