/-
  Closed facts of the program (its head). Conditions: none.
-/
import Derived.Test.YtdbdocgoojoleaaRows
import Derived.ProofKit
import Derived.OpenShut
import Derived.KernelRfl
namespace Go.Proofs.Ytdbdocgoojoleaa.fnExactTruncatePath
set_option linter.unusedVariables false
set_option maxRecDepth 100000
theorem closedB : (((Try.prog.mayEnter) && ((Rows.fnExactTruncatePathRow.lifted == Try.prog.liftsFinal))) && ((Try.prog.make == some Rows.fnExactTruncatePathRow.make))) = true := by kernel_rfl
end Go.Proofs.Ytdbdocgoojoleaa.fnExactTruncatePath
