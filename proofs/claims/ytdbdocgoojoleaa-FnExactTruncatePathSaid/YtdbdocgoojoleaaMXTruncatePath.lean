/-
  The law as it is lifted: Law FnExactTruncatePath: for every packet TruncatePath answers as the reference does, leaves it as it was, and answers in memory of its own. Conditions: none.
-/
import Derived.Test.YtdbdocgoojoleaaRows
import Derived.Test.YtdbdocgoojoleaaE0XTruncatePath
import Derived.Test.YtdbdocgoojoleaaLXTruncatePath
import Derived.WalkKit
import Derived.ProofKit
import Derived.OpenShut
namespace Go.Proofs.Ytdbdocgoojoleaa.fnExactTruncatePath
open Go.Ab Go.V Go.ChangeShapes Go.WideShapes Go.ChangeAt Go.RowKit
set_option linter.unusedVariables false
theorem own : ownKnob Try.prog.godebug = none := by kernel_rfl
theorem laid : laidOutB Try.prog = true := by kernel_rfl
set_option maxRecDepth 100000 in
theorem lifted (os : Os) (started : os.Started) (H : Type) (enc : TypeId × Value → H) :
    ReturnsInHanded {} Try.checked os 3 .any (Rows.fnExactTruncatePathSpec.pre6 enc Try.prog Try.f3 Rows.fnExactTruncatePathRow.domain false) (Rows.fnExactTruncatePathSpec.post enc Try.prog Try.f3 false true false false) := by
  refine returnsInHanded_of_change (C := Try.checked) own started (by kernel_rfl) Try.func3
    (ChangeSpec.witness6 (enc := enc) (C := Try.checked) false ⟨#[], #[.agg #[.int .i64 0, .int .i64 0, .int .i64 0, .slice none 0 0, .int .i64 0, .int .i64 0, .int .i64 0, .int .i64 0, .int .i64 0, .slice none 0 0]], []⟩ 8 (by kernel_rfl) (by kernel_rfl) (by kernel_rfl) (by kernel_rfl)) ?_
  intro W base args ds gs before hval0 hW hcnd _
  have hval : ∀ (j : Nat) t v, Try.f3.params[j]? = some t → args[j]? = some v → Value.okWide Try.prog W .any base t v := hval0
  have hW' := hW
  obtain ⟨p, q, hA0, hV, rfl, hfz, hnd⟩ := hW
  have hA : DataW.TrodAll enc Try.prog W 0 (fun _ => true) true Try.f3.params.toList args.toList ds p := hA0
  rw [Try.params3] at hA hval
  obtain ⟨v0, vs0, d0, ds0, p0, q0, hargs, rfl, rfl, h0, r0⟩ := trodAll_cons hA
  obtain ⟨rfl, rfl, rfl⟩ := trodAll_nil r0
  obtain rfl : args = #[v0] := by cases args; simp_all
  obtain ⟨rfl, rfl⟩ := trodVars_none hV
  obtain ⟨cs0, rfl⟩ := ok_struct Try.underlying27 (hval 0 27 v0 rfl rfl)
  obtain ⟨a0, w0, e0⟩ := arg_agg (show Dec Try.prog 27 tPacket from decTy_sound 12 (by kernel_rfl)) h0
  have hs : l_FnExactTruncatePath.con.sem (a0.1, a0.2.1, a0.2.2.1, a0.2.2.2.1, a0.2.2.2.2.1, a0.2.2.2.2.2.1, a0.2.2.2.2.2.2.1, a0.2.2.2.2.2.2.2.1, a0.2.2.2.2.2.2.2.2.1, a0.2.2.2.2.2.2.2.2.2) = some true := law a0 w0
  refine (calls_law l_FnExactTruncatePath.ok (x := (a0.1, a0.2.1, a0.2.2.1, a0.2.2.2.1, a0.2.2.2.2.1, a0.2.2.2.2.2.1, a0.2.2.2.2.2.2.1, a0.2.2.2.2.2.2.2.1, a0.2.2.2.2.2.2.2.2.1, a0.2.2.2.2.2.2.2.2.2)) (y := true) (xs := [.agg (split tPacket a0)]) hs (by kernel_rfl) (by kernel_rfl) (.cons e0 .nil)).mono fun e W' ⟨he, hg⟩ => ?_
  subst he
  exact ⟨_, rfl, post_below laid (by kernel_rfl) rfl hW' hg rfl (by kernel_rfl) Try.underlying4⟩
end Go.Proofs.Ytdbdocgoojoleaa.fnExactTruncatePath
