/-
  Closed facts of the program (its head). Conditions: none.
-/
import Derived.Test.YtnkjolpkcmgcaaaGreatRows
import Derived.ProofKit
import Derived.OpenShut
import Derived.KernelRfl
namespace Go.Proofs.YtnkjolpkcmgcaaaGreat.fnDetour
set_option linter.unusedVariables false
set_option maxRecDepth 100000
theorem closed1 : (laidOutB Tryz.prog) = true := by kernel_rfl
theorem closed9 : ((Rows.fnDetourRow.inPlace == Tryz.prog.inPlace 5)) = true := by kernel_rfl
theorem closed16 : ((Rows.fnDetourRow.loops == (Tryz.f5.params.toList ++ Rows.fnDetourSpec.plain.varTypes Tryz.prog).any (Tryz.prog.loopsFrom ·))) = true := by kernel_rfl
theorem closed25 : (Tryz.prog.mayEnter) = true := by kernel_rfl
theorem closed26 : ((Rows.fnDetourRow.lifted == Tryz.prog.liftsFinal)) = true := by kernel_rfl
theorem closed27 : ((Tryz.prog.make == some Rows.fnDetourRow.make)) = true := by kernel_rfl
end Go.Proofs.YtnkjolpkcmgcaaaGreat.fnDetour
