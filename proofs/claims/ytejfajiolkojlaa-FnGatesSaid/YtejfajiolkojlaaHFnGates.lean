/-
  Closed facts of the program (its head). Conditions: none.
-/
import Derived.Test.YtejfajiolkojlaaRows
import Derived.ProofKit
import Derived.OpenShut
import Derived.KernelRfl
namespace Go.Proofs.Ytejfajiolkojlaa.fnGates
set_option linter.unusedVariables false
set_option maxRecDepth 100000
theorem closedB : (((Try.prog.mayEnter) && ((Rows.fnGatesRow.lifted == Try.prog.liftsFinal))) && ((Try.prog.make == some Rows.fnGatesRow.make))) = true := by kernel_rfl
end Go.Proofs.Ytejfajiolkojlaa.fnGates
