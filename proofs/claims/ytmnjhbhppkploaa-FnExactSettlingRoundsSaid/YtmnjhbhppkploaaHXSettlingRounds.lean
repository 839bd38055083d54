/-
  Closed facts of the program (its head). Conditions: none.
-/
import Derived.Test.YtmnjhbhppkploaaRows
import Derived.ProofKit
import Derived.OpenShut
import Derived.KernelRfl
namespace Go.Proofs.Ytmnjhbhppkploaa.fnExactSettlingRounds
set_option linter.unusedVariables false
set_option maxRecDepth 100000
theorem closedB : (((Try.prog.mayEnter) && ((Rows.fnExactSettlingRoundsRow.lifted == Try.prog.liftsFinal))) && ((Try.prog.make == some Rows.fnExactSettlingRoundsRow.make))) = true := by kernel_rfl
end Go.Proofs.Ytmnjhbhppkploaa.fnExactSettlingRounds
