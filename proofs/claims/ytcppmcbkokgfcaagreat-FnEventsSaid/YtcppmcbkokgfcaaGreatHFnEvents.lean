/-
  Closed facts of the program (its head). Conditions: none.
-/
import Derived.Test.YtcppmcbkokgfcaaGreatRows
import Derived.ProofKit
import Derived.OpenShut
import Derived.KernelRfl
namespace Go.Proofs.YtcppmcbkokgfcaaGreat.fnEvents
set_option linter.unusedVariables false
set_option maxRecDepth 100000
theorem closed1 : (laidOutB Tryz.prog) = true := by kernel_rfl
theorem closed9 : ((Rows.fnEventsRow.inPlace == Tryz.prog.inPlace 5)) = true := by kernel_rfl
theorem closed16 : ((Rows.fnEventsRow.loops == (Tryz.f5.params.toList ++ Rows.fnEventsSpec.plain.varTypes Tryz.prog).any (Tryz.prog.loopsFrom ·))) = true := by kernel_rfl
theorem closed25 : (Tryz.prog.mayEnter) = true := by kernel_rfl
theorem closed26 : ((Rows.fnEventsRow.lifted == Tryz.prog.liftsFinal)) = true := by kernel_rfl
theorem closed27 : ((Tryz.prog.make == some Rows.fnEventsRow.make)) = true := by kernel_rfl
end Go.Proofs.YtcppmcbkokgfcaaGreat.fnEvents
