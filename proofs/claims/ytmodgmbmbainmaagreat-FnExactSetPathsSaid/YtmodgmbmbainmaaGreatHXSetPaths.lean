/-
  Closed facts of the program (its head). Conditions: none.
-/
import Derived.Test.YtmodgmbmbainmaaGreatRows
import Derived.ProofKit
import Derived.OpenShut
import Derived.KernelRfl
namespace Go.Proofs.YtmodgmbmbainmaaGreat.fnExactSetPaths
set_option linter.unusedVariables false
set_option maxRecDepth 100000
theorem closedB : (((Tryz.prog.mayEnter) && ((Rows.fnExactSetPathsRow.lifted == Tryz.prog.liftsFinal))) && ((Tryz.prog.make == some Rows.fnExactSetPathsRow.make))) = true := by kernel_rfl
end Go.Proofs.YtmodgmbmbainmaaGreat.fnExactSetPaths
