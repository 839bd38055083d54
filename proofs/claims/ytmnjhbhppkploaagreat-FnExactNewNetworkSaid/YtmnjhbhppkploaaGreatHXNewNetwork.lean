/-
  Closed facts of the program (its head). Conditions: none.
-/
import Derived.Test.YtmnjhbhppkploaaGreatRows
import Derived.ProofKit
import Derived.OpenShut
import Derived.KernelRfl
namespace Go.Proofs.YtmnjhbhppkploaaGreat.fnExactNewNetwork
set_option linter.unusedVariables false
set_option maxRecDepth 100000
theorem closed1 : (laidOutB Tryz.prog) = true := by kernel_rfl
theorem closed9 : ((Rows.fnExactNewNetworkRow.inPlace == Tryz.prog.inPlace 7)) = true := by kernel_rfl
theorem closed16 : ((Rows.fnExactNewNetworkRow.loops == (Tryz.f7.params.toList ++ Rows.fnExactNewNetworkSpec.plain.varTypes Tryz.prog).any (Tryz.prog.loopsFrom ·))) = true := by kernel_rfl
theorem closed25 : (Tryz.prog.mayEnter) = true := by kernel_rfl
theorem closed26 : ((Rows.fnExactNewNetworkRow.lifted == Tryz.prog.liftsFinal)) = true := by kernel_rfl
theorem closed27 : ((Tryz.prog.make == some Rows.fnExactNewNetworkRow.make)) = true := by kernel_rfl
end Go.Proofs.YtmnjhbhppkploaaGreat.fnExactNewNetwork
