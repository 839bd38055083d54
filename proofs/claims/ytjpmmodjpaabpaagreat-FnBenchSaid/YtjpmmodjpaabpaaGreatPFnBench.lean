/-
  Law FnBench: for every code the lines drawn answer alike in program and reference, and what more lines answer stands behind what the first lines answered. Conditions: none.
-/
import Derived.Test.YtjpmmodjpaabpaaGreatMFnBench
import Derived.Test.YtjpmmodjpaabpaaGreatGFnBench
import Derived.Test.YtjpmmodjpaabpaaGreatHFnBench
namespace Go.Proofs.YtjpmmodjpaabpaaGreat.fnBench
open Go.Ab Go.V Go.ChangeShapes Go.WideShapes Go.ChangeAt Go.RowKit
set_option linter.unusedVariables false
set_option maxRecDepth 100000
theorem and_t {a b : Bool} (h : a = true) (k : b = true) : (a && b) = true := by rw [h, k]; rfl
theorem and_l {a b : Bool} (h : (a && b) = true) : a = true := by cases a <;> simp_all
theorem and_r {a b : Bool} (h : (a && b) = true) : b = true := by cases a <;> simp_all
theorem closed : joinedFacts Tryz.prog 4 Tryz.f4 Rows.fnBenchSpec Rows.fnBenchRow = true := by
  unfold joinedFacts
  exact (and_t (and_t (and_t (and_t (and_t (and_t (and_t (and_t (and_t (and_t (and_t (and_t (and_t (and_t (and_t (and_t (and_t (and_t (and_t (and_t (and_t (and_t (and_t (and_t (and_t (and_t (and_t (and_t (and_t (and_t (and_t closed0 closed1) closed2) closed3) closed4) closed5) closed6) closed7) closed8) closed9) closed10) closed11) closed12) closed13) closed14) closed15) closed16) closed17) closed18) closed19) closed20) closed21) closed22) closed23) closed24) closed25) closed26) closed27) closed28) closed29) closed30) closed31)
theorem over : Rows.fnBenchRow.holds Tryz.pinned (OpenSpec.ofChange Rows.fnBenchSpec) :=
  OpenClaim.holds_of_wide 4 Tryz.f4 rfl rfl rfl rfl rfl rfl rfl ⟨rfl, rfl, rfl, rfl, rfl⟩ rfl rfl rfl rfl rfl (by kernel_rfl) Tryz.func4 closed
    (of_decide_eq_true (by kernel_rfl)) (by unfold Func.isWrapper; first | (rw [if_pos (by decide +kernel)]; kernel_rfl) | (rw [if_neg (by decide +kernel)]; exact ⟨rfl, rfl⟩))
    (fun os started H enc _ => lifted os started H enc)

/-- THE STATEMENT -/
theorem proved : Rows.FnBenchSaid :=
  over
#print axioms proved
end Go.Proofs.YtjpmmodjpaabpaaGreat.fnBench
