/-
  Closed facts of the program (its head). Conditions: none.
-/
import Derived.Test.YtjpmmodjpaabpaaGreatRows
import Derived.ProofKit
import Derived.OpenShut
import Derived.KernelRfl
namespace Go.Proofs.YtjpmmodjpaabpaaGreat.fnBench
set_option linter.unusedVariables false
set_option maxRecDepth 100000
theorem closed1 : (laidOutB Tryz.prog) = true := by kernel_rfl
theorem closed9 : ((Rows.fnBenchRow.inPlace == Tryz.prog.inPlace 4)) = true := by kernel_rfl
theorem closed16 : ((Rows.fnBenchRow.loops == (Tryz.f4.params.toList ++ Rows.fnBenchSpec.plain.varTypes Tryz.prog).any (Tryz.prog.loopsFrom ·))) = true := by kernel_rfl
theorem closed25 : (Tryz.prog.mayEnter) = true := by kernel_rfl
theorem closed26 : ((Rows.fnBenchRow.lifted == Tryz.prog.liftsFinal)) = true := by kernel_rfl
theorem closed27 : ((Tryz.prog.make == some Rows.fnBenchRow.make)) = true := by kernel_rfl
end Go.Proofs.YtjpmmodjpaabpaaGreat.fnBench
