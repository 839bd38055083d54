/-
  The law as it is lifted: Law FnExactDeliverPackets: for every network and number DeliverPackets answers as the reference does, leaves them as they were, and answers in memory of its own. Conditions: none.
-/
import Derived.Test.YtejfajiolkojlaaGreatRows
import Derived.Test.YtejfajiolkojlaaGreatE0XDeliverPackets
import Derived.Test.YtejfajiolkojlaaGreatLXDeliverPackets
import Derived.WalkKit
import Derived.ProofKit
import Derived.OpenShut
namespace Go.Proofs.YtejfajiolkojlaaGreat.fnExactDeliverPackets
open Go.Ab Go.V Go.ChangeShapes Go.WideShapes Go.ChangeAt Go.RowKit
set_option linter.unusedVariables false
theorem own : ownKnob Tryz.prog.godebug = none := by kernel_rfl
theorem laid : laidOutB Tryz.prog = true := by kernel_rfl
set_option maxRecDepth 100000 in
theorem lifted (os : Os) (started : os.Started) (H : Type) (enc : TypeId × Value → H) :
    ReturnsInHanded {} Tryz.checked os 6 .any (Rows.fnExactDeliverPacketsSpec.pre6 enc Tryz.prog Tryz.f6 Rows.fnExactDeliverPacketsRow.domain false) (Rows.fnExactDeliverPacketsSpec.post enc Tryz.prog Tryz.f6 false true false false) := by
  refine returnsInHanded_of_change (C := Tryz.checked) own started (by kernel_rfl) Tryz.func6
    (ChangeSpec.witness6 (enc := enc) (C := Tryz.checked) false ⟨#[], #[.agg #[.slice none 0 0, .slice none 0 0, .slice none 0 0, .slice none 0 0, .int .i64 0, .slice none 0 0, .slice none 0 0, .int .i64 0, .slice none 0 0, .slice none 0 0, .slice none 0 0, .slice none 0 0, .int .i64 0], .int .i64 0], []⟩ 8 (by kernel_rfl) (by kernel_rfl) (by kernel_rfl) (by kernel_rfl)) ?_
  intro W base args ds gs before hval0 hW hcnd _
  have hval : ∀ (j : Nat) t v, Tryz.f6.params[j]? = some t → args[j]? = some v → Value.okWide Tryz.prog W .any base t v := hval0
  have hW' := hW
  obtain ⟨p, q, hA0, hV, rfl, hfz, hnd⟩ := hW
  have hA : DataW.TrodAll enc Tryz.prog W 0 (fun _ => true) true Tryz.f6.params.toList args.toList ds p := hA0
  rw [Tryz.params6] at hA hval
  obtain ⟨v0, vs0, d0, ds0, p0, q0, hargs, rfl, rfl, h0, r0⟩ := trodAll_cons hA
  obtain ⟨v1, vs1, d1, ds1, p1, q1, rfl, rfl, rfl, h1, r1⟩ := trodAll_cons r0
  obtain ⟨rfl, rfl, rfl⟩ := trodAll_nil r1
  obtain rfl : args = #[v0, v1] := by cases args; simp_all
  obtain ⟨rfl, rfl⟩ := trodVars_none hV
  obtain ⟨cs0, rfl⟩ := ok_struct Tryz.underlying38 (hval 0 38 v0 rfl rfl)
  obtain ⟨a0, w0, e0⟩ := arg_agg (show Dec Tryz.prog 38 tNw from decTy_sound 12 (by kernel_rfl)) h0
  obtain ⟨a1, w1, e1⟩ := arg_one (show Dec Tryz.prog 3 ti from decTy_sound 12 (by kernel_rfl)) (ok_int Tryz.underlying3 (hval 1 3 v1 rfl rfl)) h1 (fun _ => rfl)
  have hs : l_FnExactDeliverPackets.con.sem (a0.1.1, a0.1.2, a0.2.1.1, a0.2.1.2, a0.2.2.1.1, a0.2.2.1.2.1, a0.2.2.1.2.2, a0.2.2.2.1, a0.2.2.2.2.1, a0.2.2.2.2.2.1, a0.2.2.2.2.2.2.1, a0.2.2.2.2.2.2.2.1, a0.2.2.2.2.2.2.2.2, a1) = some true := law a0 a1 w0 w1
  refine (calls_law l_FnExactDeliverPackets.ok (x := (a0.1.1, a0.1.2, a0.2.1.1, a0.2.1.2, a0.2.2.1.1, a0.2.2.1.2.1, a0.2.2.1.2.2, a0.2.2.2.1, a0.2.2.2.2.1, a0.2.2.2.2.2.1, a0.2.2.2.2.2.2.1, a0.2.2.2.2.2.2.2.1, a0.2.2.2.2.2.2.2.2, a1)) (y := true) (xs := [.agg (split tNw a0), .one (.v ti a1)]) hs (by kernel_rfl) (by kernel_rfl) (.cons e0 (.cons e1 .nil))).mono fun e W' ⟨he, hg⟩ => ?_
  subst he
  exact ⟨_, rfl, post_below laid (by kernel_rfl) rfl hW' hg rfl (by kernel_rfl) Tryz.underlying4⟩
end Go.Proofs.YtejfajiolkojlaaGreat.fnExactDeliverPackets
