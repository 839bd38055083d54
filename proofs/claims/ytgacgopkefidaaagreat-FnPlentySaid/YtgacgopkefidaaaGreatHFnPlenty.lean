/-
  Closed facts of the program (its head). Conditions: none.
-/
import Derived.Test.YtgacgopkefidaaaGreatRows
import Derived.ProofKit
import Derived.OpenShut
import Derived.KernelRfl
namespace Go.Proofs.YtgacgopkefidaaaGreat.fnPlenty
set_option linter.unusedVariables false
set_option maxRecDepth 100000
theorem closedB : (((Tryz.prog.mayEnter) && ((Rows.fnPlentyRow.lifted == Tryz.prog.liftsFinal))) && ((Tryz.prog.make == some Rows.fnPlentyRow.make))) = true := by kernel_rfl
end Go.Proofs.YtgacgopkefidaaaGreat.fnPlenty
