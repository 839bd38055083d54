/-
  The law as it is lifted: Law FnBench: for every code the lines drawn answer alike in program and reference, and what more lines answer stands behind what the first lines answered. Conditions: none.
-/
import Derived.Test.YtjpmmodjpaabpaaGreatRows
import Derived.Test.YtjpmmodjpaabpaaGreatE1FnBench
import Derived.Test.YtjpmmodjpaabpaaGreatLFnBench
import Derived.WalkKit
import Derived.ProofKit
import Derived.OpenShut
namespace Go.Proofs.YtjpmmodjpaabpaaGreat.fnBench
open Go.Ab Go.V Go.ChangeShapes Go.WideShapes Go.ChangeAt Go.RowKit
set_option linter.unusedVariables false
theorem own : ownKnob Tryz.prog.godebug = none := by kernel_rfl
theorem laid : laidOutB Tryz.prog = true := by kernel_rfl
set_option maxRecDepth 100000 in
theorem lifted (os : Os) (started : os.Started) (H : Type) (enc : TypeId × Value → H) :
    ReturnsInHanded {} Tryz.checked os 4 .any (Rows.fnBenchSpec.pre6 enc Tryz.prog Tryz.f4 Rows.fnBenchRow.domain false) (Rows.fnBenchSpec.post enc Tryz.prog Tryz.f4 false true false false) := by
  refine returnsInHanded_of_change (C := Tryz.checked) own started (by kernel_rfl) Tryz.func4
    (ChangeSpec.witness6 (enc := enc) (C := Tryz.checked) false ⟨#[], #[.slice none 0 0], []⟩ 8 (by kernel_rfl) (by kernel_rfl) (by kernel_rfl) (by kernel_rfl)) ?_
  intro W base args ds gs before hval0 hW hcnd _
  have hval : ∀ (j : Nat) t v, Tryz.f4.params[j]? = some t → args[j]? = some v → Value.okWide Tryz.prog W .any base t v := hval0
  have hW' := hW
  obtain ⟨p, q, hA0, hV, rfl, hfz, hnd⟩ := hW
  have hA : DataW.TrodAll enc Tryz.prog W 0 (fun _ => true) true Tryz.f4.params.toList args.toList ds p := hA0
  rw [Tryz.params4] at hA hval
  obtain ⟨v0, vs0, d0, ds0, p0, q0, hargs, rfl, rfl, h0, r0⟩ := trodAll_cons hA
  obtain ⟨rfl, rfl, rfl⟩ := trodAll_nil r0
  obtain rfl : args = #[v0] := by cases args; simp_all
  obtain ⟨rfl, rfl⟩ := trodVars_none hV
  obtain ⟨a0, w0, e0⟩ := arg_one (show Dec Tryz.prog 24 (.sl tb) from decTy_sound 12 (by kernel_rfl)) (ok_slice Tryz.underlying24 (hval 0 24 v0 rfl rfl)) h0 (fun _ => rfl)
  have hs : l_FnBench.k.sem a0 = some true := law a0 w0
  refine (calls_law l_FnBench.o (x := a0) (y := true) (xs := [.one (.v (.sl tb) a0)]) hs (by kernel_rfl) (by kernel_rfl) (.cons e0 .nil)).mono fun e W' ⟨he, hg⟩ => ?_
  subst he
  exact ⟨_, rfl, post_below laid (by kernel_rfl) rfl hW' hg rfl (by kernel_rfl) Tryz.underlying4⟩
end Go.Proofs.YtjpmmodjpaabpaaGreat.fnBench
