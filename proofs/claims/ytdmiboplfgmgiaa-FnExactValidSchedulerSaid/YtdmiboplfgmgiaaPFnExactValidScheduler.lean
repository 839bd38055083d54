/-
  Law FnExactValidScheduler: for every scheduler and time ValidScheduler answers as the reference does and leaves the scheduler as it was. Conditions: none.
-/
import Derived.Test.YtdmiboplfgmgiaaRows
import Derived.Test.YtdmiboplfgmgiaaGv0
import Derived.Test.YtdmiboplfgmgiaaLFnExactValidScheduler
import Derived.Test.YtdmiboplfgmgiaaWP
import Derived.WalkKit
import Derived.ProofKit
import Derived.OpenShut
namespace Go.Proofs.Ytdmiboplfgmgiaa.fnExactValidScheduler
open Go.Ab Go.V Go.ChangeShapes Go.WideShapes Go.ChangeAt Go.RowKit
set_option linter.unusedVariables false
theorem own : ownKnob Try.prog.godebug = none := by kernel_rfl
theorem laid : laidOutB Try.prog = true := by kernel_rfl
set_option maxRecDepth 100000 in
theorem lifted (os : Os) (started : os.Started) (H : Type) (enc : TypeId × Value → H) :
    ReturnsInHanded {} Try.checked os 12 .any (Rows.fnExactValidSchedulerSpec.pre6 enc Try.prog Try.f12 Rows.fnExactValidSchedulerRow.domain false) (Rows.fnExactValidSchedulerSpec.post enc Try.prog Try.f12 false true false false) := by
  refine returnsInHanded_of_change (C := Try.checked) own started (by kernel_rfl) Try.func12
    (ChangeSpec.witness6 (enc := enc) (C := Try.checked) false ⟨#[], #[.agg #[.int .i64 0, .slice none 0 0, .slice none 0 0], .int .i64 0], []⟩ 8 (by kernel_rfl) (by kernel_rfl) (by kernel_rfl) (by kernel_rfl)) ?_
  intro W base args ds gs before hval0 hW hcnd _
  have hval : ∀ (j : Nat) t v, Try.f12.params[j]? = some t → args[j]? = some v → Value.okWide Try.prog W .any base t v := hval0
  have hW' := hW
  obtain ⟨p, q, hA0, hV, rfl, hfz, hnd⟩ := hW
  have hA : DataW.TrodAll enc Try.prog W 0 (fun _ => true) true Try.f12.params.toList args.toList ds p := hA0
  rw [Try.params12] at hA hval
  obtain ⟨v0, vs0, d0, ds0, p0, q0, hargs, rfl, rfl, h0, r0⟩ := trodAll_cons hA
  obtain ⟨v1, vs1, d1, ds1, p1, q1, rfl, rfl, rfl, h1, r1⟩ := trodAll_cons r0
  obtain ⟨rfl, rfl, rfl⟩ := trodAll_nil r1
  obtain rfl : args = #[v0, v1] := by cases args; simp_all
  obtain ⟨rfl, rfl⟩ := trodVars_none hV
  obtain ⟨cs0, rfl⟩ := ok_struct Try.underlying56 (hval 0 56 v0 rfl rfl)
  obtain ⟨a0, w0, e0⟩ := arg_agg (show Dec Try.prog 56 tScheduler from decTy_sound 12 (by kernel_rfl)) h0
  obtain ⟨a1, w1, e1⟩ := arg_one (show Dec Try.prog 3 ti from decTy_sound 12 (by kernel_rfl)) (ok_int Try.underlying3 (hval 1 3 v1 rfl rfl)) h1 (fun _ => rfl)
  have hs : l_FnExactValidScheduler.con.sem (a0.1, a0.2.1, a0.2.2, a1) = some true := law a0 a1 w0 w1
  refine (calls_law l_FnExactValidScheduler.ok (x := (a0.1, a0.2.1, a0.2.2, a1)) (y := true) (xs := [.agg (split tScheduler a0), .one (.v ti a1)]) hs (by kernel_rfl) (by kernel_rfl) (.cons e0 (.cons e1 .nil))).mono fun e W' ⟨he, hg⟩ => ?_
  subst he
  exact ⟨_, rfl, post_below laid (by kernel_rfl) rfl hW' hg rfl (by kernel_rfl) Try.underlying4⟩

theorem over : Rows.fnExactValidSchedulerRow.holds Try.pinned (OpenSpec.ofChange Rows.fnExactValidSchedulerSpec) :=
  OpenClaim.holds_of_wide 12 Try.f12 rfl rfl rfl rfl rfl rfl rfl ⟨rfl, rfl, rfl, rfl, rfl⟩ rfl rfl rfl rfl rfl (by kernel_rfl) Try.func12 (by kernel_rfl)
    (of_decide_eq_true (by kernel_rfl)) (by unfold Func.isWrapper; first | (rw [if_pos (by decide +kernel)]; kernel_rfl) | (rw [if_neg (by decide +kernel)]; exact ⟨rfl, rfl⟩))
    (fun os started H enc _ => lifted os started H enc)

/-- THE STATEMENT -/
theorem proved : Rows.FnExactValidSchedulerSaid :=
  over
#print axioms proved
end Go.Proofs.Ytdmiboplfgmgiaa.fnExactValidScheduler
