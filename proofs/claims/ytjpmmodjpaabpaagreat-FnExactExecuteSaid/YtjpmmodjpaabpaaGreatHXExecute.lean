/-
  Closed facts of the program (its head). Conditions: none.
-/
import Derived.Test.YtjpmmodjpaabpaaGreatRows
import Derived.ProofKit
import Derived.OpenShut
import Derived.KernelRfl
namespace Go.Proofs.YtjpmmodjpaabpaaGreat.fnExactExecute
set_option linter.unusedVariables false
set_option maxRecDepth 100000
theorem closed1 : (laidOutB Tryz.prog) = true := by kernel_rfl
theorem closed9 : ((Rows.fnExactExecuteRow.inPlace == Tryz.prog.inPlace 3)) = true := by kernel_rfl
theorem closed16 : ((Rows.fnExactExecuteRow.loops == (Tryz.f3.params.toList ++ Rows.fnExactExecuteSpec.plain.varTypes Tryz.prog).any (Tryz.prog.loopsFrom ·))) = true := by kernel_rfl
theorem closed25 : (Tryz.prog.mayEnter) = true := by kernel_rfl
theorem closed26 : ((Rows.fnExactExecuteRow.lifted == Tryz.prog.liftsFinal)) = true := by kernel_rfl
theorem closed27 : ((Tryz.prog.make == some Rows.fnExactExecuteRow.make)) = true := by kernel_rfl
end Go.Proofs.YtjpmmodjpaabpaaGreat.fnExactExecute
