/-
  Law FnExactNewScheduler: for every capacity NewScheduler answers as the reference does, in memory of its own. Conditions: none.
-/
import Derived.Test.YtdmiboplfgmgiaaRows
import Derived.Test.YtdmiboplfgmgiaaGv0
import Derived.Test.YtdmiboplfgmgiaaPk
import Derived.Test.YtdmiboplfgmgiaaWP
import Derived.WalkKit
import Derived.ProofKit
import Derived.OpenShut
namespace Go.Proofs.Ytdmiboplfgmgiaa.fnExactNewScheduler
open Go.Ab Go.V Go.ChangeShapes Go.WideShapes Go.ChangeAt Go.RowKit
set_option linter.unusedVariables false
theorem law (a0 : Int) (w0 : Wf ti a0) : l_FnExactNewScheduler a0 = some true := by
  have e : ∀ c : Int, l_eqScheduler (c, [], []) (c, [], []) = some true := fun c => by
    simp [l_eqScheduler, l_eqReservationS, l_eqUsageS, loopM_done]
  have m : ∀ c : Int, l_markScheduler (c, [], []) 1 = some (1, [], []) := fun c => by
    simp [l_markScheduler, l_markReservationS, l_markUsageS, loopM_done]
  have h : ∀ c : Int, l_heldScheduler (c, [], []) 1 = some 1 := fun c => by
    simp [l_heldScheduler, l_heldReservationS, l_heldUsageS, loopM_done]
  have hi : ∃ c : Int, i_NewScheduler a0 = some (c, [], []) ∧ s_NewScheduler a0 = some (c, [], []) := by
    unfold i_NewScheduler s_NewScheduler i_InRange s_l1In
    cases h1 : decide (a0 ≥ 1) <;> cases h2 : decide (a0 ≤ 20) <;> exact ⟨_, rfl, rfl⟩
  obtain ⟨c, h1, h2⟩ := hi
  simp [l_FnExactNewScheduler, h1, h2, e, m, h]

theorem own : ownKnob Try.prog.godebug = none := by kernel_rfl
theorem laid : laidOutB Try.prog = true := by kernel_rfl
set_option maxRecDepth 100000 in
theorem lifted (os : Os) (started : os.Started) (H : Type) (enc : TypeId × Value → H) :
    ReturnsInHanded {} Try.checked os 8 .any (Rows.fnExactNewSchedulerSpec.pre6 enc Try.prog Try.f8 Rows.fnExactNewSchedulerRow.domain false) (Rows.fnExactNewSchedulerSpec.post enc Try.prog Try.f8 false true false false) := by
  refine returnsInHanded_of_change (C := Try.checked) own started (by kernel_rfl) Try.func8
    (ChangeSpec.witness6 (enc := enc) (C := Try.checked) false ⟨#[], #[.int .i64 0], []⟩ 8 (by kernel_rfl) (by kernel_rfl) (by kernel_rfl) (by kernel_rfl)) ?_
  intro W base args ds gs before hval0 hW hcnd _
  have hval : ∀ (j : Nat) t v, Try.f8.params[j]? = some t → args[j]? = some v → Value.okWide Try.prog W .any base t v := hval0
  have hW' := hW
  obtain ⟨p, q, hA0, hV, rfl, hfz, hnd⟩ := hW
  have hA : DataW.TrodAll enc Try.prog W 0 (fun _ => true) true Try.f8.params.toList args.toList ds p := hA0
  rw [Try.params8] at hA hval
  obtain ⟨v0, vs0, d0, ds0, p0, q0, hargs, rfl, rfl, h0, r0⟩ := trodAll_cons hA
  obtain ⟨rfl, rfl, rfl⟩ := trodAll_nil r0
  obtain rfl : args = #[v0] := by cases args; simp_all
  obtain ⟨rfl, rfl⟩ := trodVars_none hV
  obtain ⟨a0, w0, e0⟩ := arg_one (show Dec Try.prog 3 ti from decTy_sound 12 (by kernel_rfl)) (ok_int Try.underlying3 (hval 0 3 v0 rfl rfl)) h0 (fun _ => rfl)
  have hs : l_FnExactNewScheduler.con.sem a0 = some true := law a0 w0
  refine (calls_law l_FnExactNewScheduler.ok (x := a0) (y := true) (xs := [.one (.v ti a0)]) hs (by kernel_rfl) (by kernel_rfl) (.cons e0 .nil)).mono fun e W' ⟨he, hg⟩ => ?_
  subst he
  exact ⟨_, rfl, post_below laid (by kernel_rfl) rfl hW' hg rfl (by kernel_rfl) Try.underlying4⟩

theorem over : Rows.fnExactNewSchedulerRow.holds Try.pinned (OpenSpec.ofChange Rows.fnExactNewSchedulerSpec) :=
  OpenClaim.holds_of_wide 8 Try.f8 rfl rfl rfl rfl rfl rfl rfl ⟨rfl, rfl, rfl, rfl, rfl⟩ rfl rfl rfl rfl rfl (by kernel_rfl) Try.func8 (by kernel_rfl)
    (of_decide_eq_true (by kernel_rfl)) (by unfold Func.isWrapper; first | (rw [if_pos (by decide +kernel)]; kernel_rfl) | (rw [if_neg (by decide +kernel)]; exact ⟨rfl, rfl⟩))
    (fun os started H enc _ => lifted os started H enc)

/-- THE STATEMENT -/
theorem proved : Rows.FnExactNewSchedulerSaid :=
  over
#print axioms proved
end Go.Proofs.Ytdmiboplfgmgiaa.fnExactNewScheduler
