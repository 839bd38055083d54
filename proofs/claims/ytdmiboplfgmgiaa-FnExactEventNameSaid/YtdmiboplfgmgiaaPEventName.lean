/-
  Law FnExactEventName: for every kind the program's name of the kind is the reference's. Conditions: none.
-/
import Derived.Test.YtdmiboplfgmgiaaRows
import Derived.Test.YtdmiboplfgmgiaaGp
import Derived.Test.YtdmiboplfgmgiaaAbO
import Derived.WalkKit
import Derived.ProofKit
import Derived.OpenShut
namespace Go.Proofs.Ytdmiboplfgmgiaa.fnExactEventName
open Go.Ab Go.ChangeShapes Go.WideShapes Go.ChangeAt Go.RowKit
set_option linter.unusedVariables false

theorem law (k : Int) : l_FnExactEventName k = true := by
  have key : i_EventName k = s_EventName k := by
    unfold i_EventName s_EventName i_InRange s_l1In
    have hw : wr ((([bs #[], bs #[116, 105, 99, 107], bs #[100, 101, 108, 105, 118, 101, 114], bs #[100, 114, 111, 112], bs #[100, 117, 112, 108, 105, 99, 97, 116, 101], bs #[102, 97, 105, 108], bs #[114, 101, 112, 97, 105, 114], bs #[105, 110, 106, 101, 99, 116], bs #[115, 101, 110, 100], bs #[114, 101, 102, 114, 101, 115, 104]] : List ByteArray).length : Int) - 1) = 9 := by decide
    rw [hw]
    by_cases h1 : 1 ≤ k
    · have h0 : k ≥ 0 := by omega
      simp only [ge_iff_le, h1, h0, decide_true, cond_true]
    · by_cases h0 : k = 0
      · subst h0; rfl
      · have h2 : ¬ (0 ≤ k) := by omega
        simp only [ge_iff_le, h1, h2, decide_false, cond_false, Bool.not_false, cond_true]
  unfold l_FnExactEventName
  rw [key]
  simp

theorem own : ownKnob Try.prog.godebug = none := by kernel_rfl
theorem laid : laidOutB Try.prog = true := by kernel_rfl
set_option maxRecDepth 100000 in
theorem lifted (os : Os) (started : os.Started) (H : Type) (enc : TypeId × Value → H) :
    ReturnsInHanded {} Try.checked os 3 .any (Rows.fnExactEventNameSpec.pre6 enc Try.prog Try.f3 Rows.fnExactEventNameRow.domain false) (Rows.fnExactEventNameSpec.post enc Try.prog Try.f3 false true false false) := by
  refine returnsInHanded_of_change (C := Try.checked) own started (by kernel_rfl) Try.func3
    (ChangeSpec.witness6 (enc := enc) (C := Try.checked) false ⟨#[], #[.int .i64 0], []⟩ 8 (by kernel_rfl) (by kernel_rfl) (by kernel_rfl) (by kernel_rfl)) ?_
  intro W base args ds gs before hval0 hW hcnd _
  have hval : ∀ (j : Nat) t v, Try.f3.params[j]? = some t → args[j]? = some v → Value.okWide Try.prog W .any base t v := hval0
  have hW' := hW
  obtain ⟨p, q, hA0, hV, rfl, hfz, hnd⟩ := hW
  have hA : DataW.TrodAll enc Try.prog W 0 (fun _ => true) true Try.f3.params.toList args.toList ds p := hA0
  rw [Try.params3] at hA hval
  obtain ⟨v0, vs0, d0, ds0, p0, q0, hargs, rfl, rfl, h0, r0⟩ := trodAll_cons hA
  obtain ⟨rfl, rfl, rfl⟩ := trodAll_nil r0
  obtain rfl : args = #[v0] := by cases args; simp_all
  obtain ⟨rfl, rfl⟩ := trodVars_none hV
  obtain ⟨a0, F0, e0⟩ := arg_one (dec_int Try.underlying3) (by obtain ⟨n, rfl⟩ := okWide_int Try.underlying3 (hval 0 3 v0 rfl rfl); rfl) h0 _ (fun _ => rfl)
  have hm : MeetsAt Try.prog 3 [.one (I a0)] [.one (b1 true)] none := by
    have := l_FnExactEventName_ok a0
    rw [law a0] at this
    exact this
  refine (calls_of_meets hm (.cons e0 .nil)).mono fun e W' ⟨he, hg⟩ => ?_
  subst he
  exact ⟨_, rfl, post_below laid (by kernel_rfl) rfl hW' hg rfl (by kernel_rfl) Try.underlying4⟩

theorem over : Rows.fnExactEventNameRow.holds Try.pinned (OpenSpec.ofChange Rows.fnExactEventNameSpec) :=
  OpenClaim.holds_of_wide 3 Try.f3 rfl rfl rfl rfl rfl rfl rfl ⟨rfl, rfl, rfl, rfl, rfl⟩ rfl rfl rfl rfl rfl (by kernel_rfl) Try.func3 (by kernel_rfl)
    (of_decide_eq_true (by kernel_rfl)) (by unfold Func.isWrapper; first | (rw [if_pos (by decide +kernel)]; kernel_rfl) | (rw [if_neg (by decide +kernel)]; exact ⟨rfl, rfl⟩))
    (fun os started H enc _ => lifted os started H enc)

/-- THE STATEMENT -/
theorem proved : Rows.FnExactEventNameSaid :=
  over
#print axioms proved
end Go.Proofs.Ytdmiboplfgmgiaa.fnExactEventName
