/-
  Law FnExactNewFlow: for every three numbers NewFlow answers as the reference does, in memory of its own. Conditions: none.
-/
import Derived.Test.YtdmiboplfgmgiaaRows
import Derived.Test.YtdmiboplfgmgiaaGv1
import Derived.Test.YtdmiboplfgmgiaaPk
import Derived.Test.YtdmiboplfgmgiaaWP
import Derived.WalkKit
import Derived.ProofKit
import Derived.OpenShut
namespace Go.Proofs.Ytdmiboplfgmgiaa.fnExactNewFlow
open Go.Ab Go.V Go.ChangeShapes Go.WideShapes Go.ChangeAt Go.RowKit
set_option linter.unusedVariables false
theorem law (a0 a1 a2 : Int) (w0 : Wf ti a0) (w1 : Wf ti a1) (w2 : Wf ti a2) : l_FnExactNewFlow a0 a1 a2 = some true := by
  have e : ∀ a b c d x y : Int, l_eqFlow (a, b, c, d, [], [], x, y, []) (a, b, c, d, [], [], x, y, []) = some true := fun a b c d x y => by
    simp [l_eqFlow, l_eqMessageS, l_eqPathS, l_eqRevocationS, loopM_done]
  have m : ∀ a b c d x y : Int, l_markFlow (a, b, c, d, [], [], x, y, []) 1 = some (1, [], [], []) := fun a b c d x y => by
    simp [l_markFlow, l_markMessageS, l_markPathS, l_markRevocationS, loopM_done]
  have h : ∀ a b c d x y : Int, l_heldFlow (a, b, c, d, [], [], x, y, []) 1 = some 1 := fun a b c d x y => by
    simp [l_heldFlow, l_heldMessageS, l_heldPathS, l_heldRevocationS, loopM_done]
  simp [l_FnExactNewFlow, i_NewFlow, s_NewFlow, e, m, h]

theorem own : ownKnob Try.prog.godebug = none := by kernel_rfl
theorem laid : laidOutB Try.prog = true := by kernel_rfl
set_option maxRecDepth 100000 in
theorem lifted (os : Os) (started : os.Started) (H : Type) (enc : TypeId × Value → H) :
    ReturnsInHanded {} Try.checked os 13 .any (Rows.fnExactNewFlowSpec.pre6 enc Try.prog Try.f13 Rows.fnExactNewFlowRow.domain false) (Rows.fnExactNewFlowSpec.post enc Try.prog Try.f13 false true false false) := by
  refine returnsInHanded_of_change (C := Try.checked) own started (by kernel_rfl) Try.func13
    (ChangeSpec.witness6 (enc := enc) (C := Try.checked) false ⟨#[], #[.int .i64 0, .int .i64 0, .int .i64 0], []⟩ 8 (by kernel_rfl) (by kernel_rfl) (by kernel_rfl) (by kernel_rfl)) ?_
  intro W base args ds gs before hval0 hW hcnd _
  have hval : ∀ (j : Nat) t v, Try.f13.params[j]? = some t → args[j]? = some v → Value.okWide Try.prog W .any base t v := hval0
  have hW' := hW
  obtain ⟨p, q, hA0, hV, rfl, hfz, hnd⟩ := hW
  have hA : DataW.TrodAll enc Try.prog W 0 (fun _ => true) true Try.f13.params.toList args.toList ds p := hA0
  rw [Try.params13] at hA hval
  obtain ⟨v0, vs0, d0, ds0, p0, q0, hargs, rfl, rfl, h0, r0⟩ := trodAll_cons hA
  obtain ⟨v1, vs1, d1, ds1, p1, q1, rfl, rfl, rfl, h1, r1⟩ := trodAll_cons r0
  obtain ⟨v2, vs2, d2, ds2, p2, q2, rfl, rfl, rfl, h2, r2⟩ := trodAll_cons r1
  obtain ⟨rfl, rfl, rfl⟩ := trodAll_nil r2
  obtain rfl : args = #[v0, v1, v2] := by cases args; simp_all
  obtain ⟨rfl, rfl⟩ := trodVars_none hV
  obtain ⟨a0, w0, e0⟩ := arg_one (show Dec Try.prog 3 ti from decTy_sound 12 (by kernel_rfl)) (ok_int Try.underlying3 (hval 0 3 v0 rfl rfl)) h0 (fun _ => rfl)
  obtain ⟨a1, w1, e1⟩ := arg_one (show Dec Try.prog 3 ti from decTy_sound 12 (by kernel_rfl)) (ok_int Try.underlying3 (hval 1 3 v1 rfl rfl)) h1 (fun _ => rfl)
  obtain ⟨a2, w2, e2⟩ := arg_one (show Dec Try.prog 3 ti from decTy_sound 12 (by kernel_rfl)) (ok_int Try.underlying3 (hval 2 3 v2 rfl rfl)) h2 (fun _ => rfl)
  have hs : l_FnExactNewFlow.con.sem (a0, a1, a2) = some true := law a0 a1 a2 w0 w1 w2
  refine (calls_law l_FnExactNewFlow.ok (x := (a0, a1, a2)) (y := true) (xs := [.one (.v ti a0), .one (.v ti a1), .one (.v ti a2)]) hs (by kernel_rfl) (by kernel_rfl) (.cons e0 (.cons e1 (.cons e2 .nil)))).mono fun e W' ⟨he, hg⟩ => ?_
  subst he
  exact ⟨_, rfl, post_below laid (by kernel_rfl) rfl hW' hg rfl (by kernel_rfl) Try.underlying4⟩

theorem over : Rows.fnExactNewFlowRow.holds Try.pinned (OpenSpec.ofChange Rows.fnExactNewFlowSpec) :=
  OpenClaim.holds_of_wide 13 Try.f13 rfl rfl rfl rfl rfl rfl rfl ⟨rfl, rfl, rfl, rfl, rfl⟩ rfl rfl rfl rfl rfl (by kernel_rfl) Try.func13 (by kernel_rfl)
    (of_decide_eq_true (by kernel_rfl)) (by unfold Func.isWrapper; first | (rw [if_pos (by decide +kernel)]; kernel_rfl) | (rw [if_neg (by decide +kernel)]; exact ⟨rfl, rfl⟩))
    (fun os started H enc _ => lifted os started H enc)

/-- THE STATEMENT -/
theorem proved : Rows.FnExactNewFlowSaid :=
  over
#print axioms proved
end Go.Proofs.Ytdmiboplfgmgiaa.fnExactNewFlow
