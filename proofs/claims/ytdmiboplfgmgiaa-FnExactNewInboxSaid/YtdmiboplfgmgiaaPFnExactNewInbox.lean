/-
  Law FnExactNewInbox: for every two numbers NewInbox answers as the reference does, in memory of its own. Conditions: none.
-/
import Derived.Test.YtdmiboplfgmgiaaRows
import Derived.Test.YtdmiboplfgmgiaaGv0
import Derived.Test.YtdmiboplfgmgiaaPk
import Derived.Test.YtdmiboplfgmgiaaWP
import Derived.WalkKit
import Derived.ProofKit
import Derived.OpenShut
namespace Go.Proofs.Ytdmiboplfgmgiaa.fnExactNewInbox
open Go.Ab Go.V Go.ChangeShapes Go.WideShapes Go.ChangeAt Go.RowKit
set_option linter.unusedVariables false
theorem law (a0 a1 : Int) (w0 : Wf ti a0) (w1 : Wf ti a1) : l_FnExactNewInbox a0 a1 = some true := by
  have e : ∀ a b c : Int, l_eqInbox (a, b, c, []) (a, b, c, []) = some true := fun a b c => by
    simp [l_eqInbox, l_eqMessageS, loopM_done]
  have m : ∀ a b c : Int, l_markInbox (a, b, c, []) 1 = some (1, []) := fun a b c => by
    simp [l_markInbox, l_markMessageS, loopM_done]
  have h : ∀ a b c : Int, l_heldInbox (a, b, c, []) 1 = some 1 := fun a b c => by
    simp [l_heldInbox, l_heldMessageS, loopM_done]
  simp [l_FnExactNewInbox, i_NewInbox, s_NewInbox, e, m, h]

theorem own : ownKnob Try.prog.godebug = none := by kernel_rfl
theorem laid : laidOutB Try.prog = true := by kernel_rfl
set_option maxRecDepth 100000 in
theorem lifted (os : Os) (started : os.Started) (H : Type) (enc : TypeId × Value → H) :
    ReturnsInHanded {} Try.checked os 4 .any (Rows.fnExactNewInboxSpec.pre6 enc Try.prog Try.f4 Rows.fnExactNewInboxRow.domain false) (Rows.fnExactNewInboxSpec.post enc Try.prog Try.f4 false true false false) := by
  refine returnsInHanded_of_change (C := Try.checked) own started (by kernel_rfl) Try.func4
    (ChangeSpec.witness6 (enc := enc) (C := Try.checked) false ⟨#[], #[.int .i64 0, .int .i64 0], []⟩ 8 (by kernel_rfl) (by kernel_rfl) (by kernel_rfl) (by kernel_rfl)) ?_
  intro W base args ds gs before hval0 hW hcnd _
  have hval : ∀ (j : Nat) t v, Try.f4.params[j]? = some t → args[j]? = some v → Value.okWide Try.prog W .any base t v := hval0
  have hW' := hW
  obtain ⟨p, q, hA0, hV, rfl, hfz, hnd⟩ := hW
  have hA : DataW.TrodAll enc Try.prog W 0 (fun _ => true) true Try.f4.params.toList args.toList ds p := hA0
  rw [Try.params4] at hA hval
  obtain ⟨v0, vs0, d0, ds0, p0, q0, hargs, rfl, rfl, h0, r0⟩ := trodAll_cons hA
  obtain ⟨v1, vs1, d1, ds1, p1, q1, rfl, rfl, rfl, h1, r1⟩ := trodAll_cons r0
  obtain ⟨rfl, rfl, rfl⟩ := trodAll_nil r1
  obtain rfl : args = #[v0, v1] := by cases args; simp_all
  obtain ⟨rfl, rfl⟩ := trodVars_none hV
  obtain ⟨a0, w0, e0⟩ := arg_one (show Dec Try.prog 3 ti from decTy_sound 12 (by kernel_rfl)) (ok_int Try.underlying3 (hval 0 3 v0 rfl rfl)) h0 (fun _ => rfl)
  obtain ⟨a1, w1, e1⟩ := arg_one (show Dec Try.prog 3 ti from decTy_sound 12 (by kernel_rfl)) (ok_int Try.underlying3 (hval 1 3 v1 rfl rfl)) h1 (fun _ => rfl)
  have hs : l_FnExactNewInbox.con.sem (a0, a1) = some true := law a0 a1 w0 w1
  refine (calls_law l_FnExactNewInbox.ok (x := (a0, a1)) (y := true) (xs := [.one (.v ti a0), .one (.v ti a1)]) hs (by kernel_rfl) (by kernel_rfl) (.cons e0 (.cons e1 .nil))).mono fun e W' ⟨he, hg⟩ => ?_
  subst he
  exact ⟨_, rfl, post_below laid (by kernel_rfl) rfl hW' hg rfl (by kernel_rfl) Try.underlying4⟩

theorem over : Rows.fnExactNewInboxRow.holds Try.pinned (OpenSpec.ofChange Rows.fnExactNewInboxSpec) :=
  OpenClaim.holds_of_wide 4 Try.f4 rfl rfl rfl rfl rfl rfl rfl ⟨rfl, rfl, rfl, rfl, rfl⟩ rfl rfl rfl rfl rfl (by kernel_rfl) Try.func4 (by kernel_rfl)
    (of_decide_eq_true (by kernel_rfl)) (by unfold Func.isWrapper; first | (rw [if_pos (by decide +kernel)]; kernel_rfl) | (rw [if_neg (by decide +kernel)]; exact ⟨rfl, rfl⟩))
    (fun os started H enc _ => lifted os started H enc)

/-- THE STATEMENT -/
theorem proved : Rows.FnExactNewInboxSaid :=
  over
#print axioms proved
end Go.Proofs.Ytdmiboplfgmgiaa.fnExactNewInbox
