/-
  Closed facts of the program (its head). Conditions: none.
-/
import Derived.Test.YtnkjolpkcmgcaaaGreatRows
import Derived.ProofKit
import Derived.OpenShut
import Derived.KernelRfl
namespace Go.Proofs.YtnkjolpkcmgcaaaGreat.fnWorlds
set_option linter.unusedVariables false
set_option maxRecDepth 100000
theorem closed1 : (laidOutB Tryz.prog) = true := by kernel_rfl
theorem closed9 : ((Rows.fnWorldsRow.inPlace == Tryz.prog.inPlace 7)) = true := by kernel_rfl
theorem closed16 : ((Rows.fnWorldsRow.loops == (Tryz.f7.params.toList ++ Rows.fnWorldsSpec.plain.varTypes Tryz.prog).any (Tryz.prog.loopsFrom ·))) = true := by kernel_rfl
theorem closed25 : (Tryz.prog.mayEnter) = true := by kernel_rfl
theorem closed26 : ((Rows.fnWorldsRow.lifted == Tryz.prog.liftsFinal)) = true := by kernel_rfl
theorem closed27 : ((Tryz.prog.make == some Rows.fnWorldsRow.make)) = true := by kernel_rfl
end Go.Proofs.YtnkjolpkcmgcaaaGreat.fnWorlds
