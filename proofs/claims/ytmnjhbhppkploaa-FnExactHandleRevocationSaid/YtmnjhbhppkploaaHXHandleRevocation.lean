/-
  Closed facts of the program (its head). Conditions: none.
-/
import Derived.Test.YtmnjhbhppkploaaRows
import Derived.ProofKit
import Derived.OpenShut
import Derived.KernelRfl
namespace Go.Proofs.Ytmnjhbhppkploaa.fnExactHandleRevocation
set_option linter.unusedVariables false
set_option maxRecDepth 100000
theorem closedB : (((Try.prog.mayEnter) && ((Rows.fnExactHandleRevocationRow.lifted == Try.prog.liftsFinal))) && ((Try.prog.make == some Rows.fnExactHandleRevocationRow.make))) = true := by kernel_rfl
end Go.Proofs.Ytmnjhbhppkploaa.fnExactHandleRevocation
