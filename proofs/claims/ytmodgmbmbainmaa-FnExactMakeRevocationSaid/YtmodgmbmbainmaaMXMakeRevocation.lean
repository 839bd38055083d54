/-
  The law as it is lifted: Law FnExactMakeRevocation: for every topology, packet and numbers MakeRevocation answers as the reference does, leaves them as they were, and answers in memory of its own. Conditions: none.
-/
import Derived.Test.YtmodgmbmbainmaaRows
import Derived.Test.YtmodgmbmbainmaaE0XMakeRevocation
import Derived.Test.YtmodgmbmbainmaaLXMakeRevocation
import Derived.WalkKit
import Derived.ProofKit
import Derived.OpenShut
namespace Go.Proofs.Ytmodgmbmbainmaa.fnExactMakeRevocation
open Go.Ab Go.V Go.ChangeShapes Go.WideShapes Go.ChangeAt Go.RowKit
set_option linter.unusedVariables false
theorem own : ownKnob Try.prog.godebug = none := by kernel_rfl
theorem laid : laidOutB Try.prog = true := by kernel_rfl
set_option maxRecDepth 100000 in
theorem lifted (os : Os) (started : os.Started) (H : Type) (enc : TypeId × Value → H) :
    ReturnsInHanded {} Try.checked os 13 .any (Rows.fnExactMakeRevocationSpec.pre6 enc Try.prog Try.f13 Rows.fnExactMakeRevocationRow.domain false) (Rows.fnExactMakeRevocationSpec.post enc Try.prog Try.f13 false true false false) := by
  refine returnsInHanded_of_change (C := Try.checked) own started (by kernel_rfl) Try.func13
    (ChangeSpec.witness6 (enc := enc) (C := Try.checked) false ⟨#[], #[.agg #[.slice none 0 0, .slice none 0 0], .int .i64 0, .int .i64 0, .int .i64 0, .agg #[.int .i64 0, .int .i64 0, .int .i64 0, .slice none 0 0, .int .i64 0, .int .i64 0, .int .i64 0, .int .i64 0, .int .i64 0, .slice none 0 0]], []⟩ 8 (by kernel_rfl) (by kernel_rfl) (by kernel_rfl) (by kernel_rfl)) ?_
  intro W base args ds gs before hval0 hW hcnd _
  have hval : ∀ (j : Nat) t v, Try.f13.params[j]? = some t → args[j]? = some v → Value.okWide Try.prog W .any base t v := hval0
  have hW' := hW
  obtain ⟨p, q, hA0, hV, rfl, hfz, hnd⟩ := hW
  have hA : DataW.TrodAll enc Try.prog W 0 (fun _ => true) true Try.f13.params.toList args.toList ds p := hA0
  rw [Try.params13] at hA hval
  obtain ⟨v0, vs0, d0, ds0, p0, q0, hargs, rfl, rfl, h0, r0⟩ := trodAll_cons hA
  obtain ⟨v1, vs1, d1, ds1, p1, q1, rfl, rfl, rfl, h1, r1⟩ := trodAll_cons r0
  obtain ⟨v2, vs2, d2, ds2, p2, q2, rfl, rfl, rfl, h2, r2⟩ := trodAll_cons r1
  obtain ⟨v3, vs3, d3, ds3, p3, q3, rfl, rfl, rfl, h3, r3⟩ := trodAll_cons r2
  obtain ⟨v4, vs4, d4, ds4, p4, q4, rfl, rfl, rfl, h4, r4⟩ := trodAll_cons r3
  obtain ⟨rfl, rfl, rfl⟩ := trodAll_nil r4
  obtain rfl : args = #[v0, v1, v2, v3, v4] := by cases args; simp_all
  obtain ⟨rfl, rfl⟩ := trodVars_none hV
  obtain ⟨cs0, rfl⟩ := ok_struct Try.underlying106 (hval 0 106 v0 rfl rfl)
  obtain ⟨a0, w0, e0⟩ := arg_agg (show Dec Try.prog 106 tTopology from decTy_sound 12 (by kernel_rfl)) h0
  obtain ⟨a1, w1, e1⟩ := arg_one (show Dec Try.prog 3 ti from decTy_sound 12 (by kernel_rfl)) (ok_int Try.underlying3 (hval 1 3 v1 rfl rfl)) h1 (fun _ => rfl)
  obtain ⟨a2, w2, e2⟩ := arg_one (show Dec Try.prog 3 ti from decTy_sound 12 (by kernel_rfl)) (ok_int Try.underlying3 (hval 2 3 v2 rfl rfl)) h2 (fun _ => rfl)
  obtain ⟨a3, w3, e3⟩ := arg_one (show Dec Try.prog 3 ti from decTy_sound 12 (by kernel_rfl)) (ok_int Try.underlying3 (hval 3 3 v3 rfl rfl)) h3 (fun _ => rfl)
  obtain ⟨cs4, rfl⟩ := ok_struct Try.underlying27 (hval 4 27 v4 rfl rfl)
  obtain ⟨a4, w4, e4⟩ := arg_agg (show Dec Try.prog 27 tPacket from decTy_sound 12 (by kernel_rfl)) h4
  have hs : l_FnExactMakeRevocation.con.sem (a0.1, a0.2, a1, a2, a3, a4.1, a4.2.1, a4.2.2.1, a4.2.2.2.1, a4.2.2.2.2.1, a4.2.2.2.2.2.1, a4.2.2.2.2.2.2.1, a4.2.2.2.2.2.2.2.1, a4.2.2.2.2.2.2.2.2.1, a4.2.2.2.2.2.2.2.2.2) = some true := law a0 a1 a2 a3 a4 w0 w1 w2 w3 w4
  refine (calls_law l_FnExactMakeRevocation.ok (x := (a0.1, a0.2, a1, a2, a3, a4.1, a4.2.1, a4.2.2.1, a4.2.2.2.1, a4.2.2.2.2.1, a4.2.2.2.2.2.1, a4.2.2.2.2.2.2.1, a4.2.2.2.2.2.2.2.1, a4.2.2.2.2.2.2.2.2.1, a4.2.2.2.2.2.2.2.2.2)) (y := true) (xs := [.agg (split tTopology a0), .one (.v ti a1), .one (.v ti a2), .one (.v ti a3), .agg (split tPacket a4)]) hs (by kernel_rfl) (by kernel_rfl) (.cons e0 (.cons e1 (.cons e2 (.cons e3 (.cons e4 .nil)))))).mono fun e W' ⟨he, hg⟩ => ?_
  subst he
  exact ⟨_, rfl, post_below laid (by kernel_rfl) rfl hW' hg rfl (by kernel_rfl) Try.underlying4⟩
end Go.Proofs.Ytmodgmbmbainmaa.fnExactMakeRevocation
