/-
  The law as it is lifted: Law FnExactRunRound: for every network RunRound answers as the reference does, leaves it as it was, and answers in memory of its own. Conditions: none.
-/
import Derived.Test.YtejfajiolkojlaaGreatRows
import Derived.Test.YtejfajiolkojlaaGreatE0XRunRound
import Derived.Test.YtejfajiolkojlaaGreatLXRunRound
import Derived.WalkKit
import Derived.ProofKit
import Derived.OpenShut
namespace Go.Proofs.YtejfajiolkojlaaGreat.fnExactRunRound
open Go.Ab Go.V Go.ChangeShapes Go.WideShapes Go.ChangeAt Go.RowKit
set_option linter.unusedVariables false
theorem own : ownKnob Tryz.prog.godebug = none := by kernel_rfl
theorem laid : laidOutB Tryz.prog = true := by kernel_rfl
set_option maxRecDepth 100000 in
theorem lifted (os : Os) (started : os.Started) (H : Type) (enc : TypeId × Value → H) :
    ReturnsInHanded {} Tryz.checked os 7 .any (Rows.fnExactRunRoundSpec.pre6 enc Tryz.prog Tryz.f7 Rows.fnExactRunRoundRow.domain false) (Rows.fnExactRunRoundSpec.post enc Tryz.prog Tryz.f7 false true false false) := by
  refine returnsInHanded_of_change (C := Tryz.checked) own started (by kernel_rfl) Tryz.func7
    (ChangeSpec.witness6 (enc := enc) (C := Tryz.checked) false ⟨#[], #[.agg #[.slice none 0 0, .slice none 0 0, .slice none 0 0, .slice none 0 0, .int .i64 0, .slice none 0 0, .slice none 0 0, .int .i64 0, .slice none 0 0, .slice none 0 0, .slice none 0 0, .slice none 0 0, .int .i64 0]], []⟩ 8 (by kernel_rfl) (by kernel_rfl) (by kernel_rfl) (by kernel_rfl)) ?_
  intro W base args ds gs before hval0 hW hcnd _
  have hval : ∀ (j : Nat) t v, Tryz.f7.params[j]? = some t → args[j]? = some v → Value.okWide Tryz.prog W .any base t v := hval0
  have hW' := hW
  obtain ⟨p, q, hA0, hV, rfl, hfz, hnd⟩ := hW
  have hA : DataW.TrodAll enc Tryz.prog W 0 (fun _ => true) true Tryz.f7.params.toList args.toList ds p := hA0
  rw [Tryz.params7] at hA hval
  obtain ⟨v0, vs0, d0, ds0, p0, q0, hargs, rfl, rfl, h0, r0⟩ := trodAll_cons hA
  obtain ⟨rfl, rfl, rfl⟩ := trodAll_nil r0
  obtain rfl : args = #[v0] := by cases args; simp_all
  obtain ⟨rfl, rfl⟩ := trodVars_none hV
  obtain ⟨cs0, rfl⟩ := ok_struct Tryz.underlying38 (hval 0 38 v0 rfl rfl)
  obtain ⟨a0, w0, e0⟩ := arg_agg (show Dec Tryz.prog 38 tNw from decTy_sound 12 (by kernel_rfl)) h0
  have hs : l_FnExactRunRound.con.sem (a0.1.1, a0.1.2, a0.2.1.1, a0.2.1.2, a0.2.2.1.1, a0.2.2.1.2.1, a0.2.2.1.2.2, a0.2.2.2.1, a0.2.2.2.2.1, a0.2.2.2.2.2.1, a0.2.2.2.2.2.2.1, a0.2.2.2.2.2.2.2.1, a0.2.2.2.2.2.2.2.2) = some true := law a0 w0
  refine (calls_law l_FnExactRunRound.ok (x := (a0.1.1, a0.1.2, a0.2.1.1, a0.2.1.2, a0.2.2.1.1, a0.2.2.1.2.1, a0.2.2.1.2.2, a0.2.2.2.1, a0.2.2.2.2.1, a0.2.2.2.2.2.1, a0.2.2.2.2.2.2.1, a0.2.2.2.2.2.2.2.1, a0.2.2.2.2.2.2.2.2)) (y := true) (xs := [.agg (split tNw a0)]) hs (by kernel_rfl) (by kernel_rfl) (.cons e0 .nil)).mono fun e W' ⟨he, hg⟩ => ?_
  subst he
  exact ⟨_, rfl, post_below laid (by kernel_rfl) rfl hW' hg rfl (by kernel_rfl) Tryz.underlying4⟩
end Go.Proofs.YtejfajiolkojlaaGreat.fnExactRunRound
