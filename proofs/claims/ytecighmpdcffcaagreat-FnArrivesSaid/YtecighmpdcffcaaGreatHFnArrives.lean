/-
  Closed facts of the program (its head). Conditions: none.
-/
import Derived.Test.YtecighmpdcffcaaGreatRows
import Derived.ProofKit
import Derived.OpenShut
import Derived.KernelRfl
namespace Go.Proofs.YtecighmpdcffcaaGreat.fnArrives
set_option linter.unusedVariables false
set_option maxRecDepth 100000
theorem closed1 : (laidOutB Tryz.prog) = true := by kernel_rfl
theorem closed9 : ((Rows.fnArrivesRow.inPlace == Tryz.prog.inPlace 3)) = true := by kernel_rfl
theorem closed16 : ((Rows.fnArrivesRow.loops == (Tryz.f3.params.toList ++ Rows.fnArrivesSpec.plain.varTypes Tryz.prog).any (Tryz.prog.loopsFrom ·))) = true := by kernel_rfl
theorem closed25 : (Tryz.prog.mayEnter) = true := by kernel_rfl
theorem closed26 : ((Rows.fnArrivesRow.lifted == Tryz.prog.liftsFinal)) = true := by kernel_rfl
theorem closed27 : ((Tryz.prog.make == some Rows.fnArrivesRow.make)) = true := by kernel_rfl
end Go.Proofs.YtecighmpdcffcaaGreat.fnArrives
