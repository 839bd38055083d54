/-
  Law FnExactValidInbox: for every inbox ValidInbox answers as the reference does and leaves the inbox as it was. Conditions: none.
-/
import Derived.Test.YtdmiboplfgmgiaaRows
import Derived.Test.YtdmiboplfgmgiaaGp3
import Derived.Test.YtdmiboplfgmgiaaGe
import Derived.Test.YtdmiboplfgmgiaaAbO
import Derived.WalkKit
import Derived.ProofKit
import Derived.OpenShut
namespace Go.Proofs.Ytdmiboplfgmgiaa.fnExactValidInbox
open Go.Ab Go.ChangeShapes Go.WideShapes Go.ChangeAt Go.RowKit
set_option linter.unusedVariables false
theorem law (x : GInbox) (_ : WfL x.enc) : l_FnExactValidInbox x = true := by
  unfold l_FnExactValidInbox
  rw [validInbox_eq, l_eqInbox_refl]
  simp

theorem own : ownKnob Try.prog.godebug = none := by kernel_rfl
theorem laid : laidOutB Try.prog = true := by kernel_rfl
theorem dec62 : Dec Try.prog 62 (fun l : List Int => [T.sl (l.map encU)]) := dec_slice Try.underlying62 1 (by kernel_rfl) (by decide) (fun _ => rfl) (dec_u8 Try.underlying5)
theorem dec117 : Dec Try.prog 117 GMessage.enc := by
  intro H enc w base spare held fuel cs x h
  obtain ⟨xs, n, _, _, hl, hn, hf⟩ := DataW.trod_struct Try.underlying117 h
  have hc : cs.length = 1 := hl.trans (by kernel_rfl)
  obtain ⟨a0, F0, r0⟩ := dec_field (off := 0) (k := 1) dec62 (by kernel_rfl) (hf 0 _ rfl) (some_of_lt hn (by decide))
  exact ⟨⟨a0⟩, _, (rep_step r0 (off' := 1) rfl (rep_end hc) : RepL w (cs.drop 0) _ _)⟩
theorem dec31 : Dec Try.prog 31 (fun l : List GMessage => [T.sl (l.map GMessage.enc)]) := dec_slice Try.underlying31 1 (by kernel_rfl) (by decide) (fun _ => rfl) dec117
theorem dec33 : Dec Try.prog 33 GInbox.enc := by
  intro H enc w base spare held fuel cs x h
  obtain ⟨xs, n, _, _, hl, hn, hf⟩ := DataW.trod_struct Try.underlying33 h
  have hc : cs.length = 4 := hl.trans (by kernel_rfl)
  obtain ⟨a0, F0, r0⟩ := dec_field (off := 0) (k := 1) (dec_int Try.underlying3) (by kernel_rfl) (hf 0 _ rfl) (some_of_lt hn (by decide))
  obtain ⟨a1, F1, r1⟩ := dec_field (off := 1) (k := 1) (dec_int Try.underlying3) (by kernel_rfl) (hf 1 _ rfl) (some_of_lt hn (by decide))
  obtain ⟨a2, F2, r2⟩ := dec_field (off := 2) (k := 1) (dec_int Try.underlying3) (by kernel_rfl) (hf 2 _ rfl) (some_of_lt hn (by decide))
  obtain ⟨a3, F3, r3⟩ := dec_field (off := 3) (k := 1) dec31 (by kernel_rfl) (hf 3 _ rfl) (some_of_lt hn (by decide))
  exact ⟨⟨a0, a1, a2, a3⟩, _, (rep_step r0 (off' := 1) rfl (rep_step r1 (off' := 2) rfl (rep_step r2 (off' := 3) rfl (rep_step r3 (off' := 4) rfl (rep_end hc)))) : RepL w (cs.drop 0) _ _)⟩
set_option maxRecDepth 100000 in
theorem lifted (os : Os) (started : os.Started) (H : Type) (enc : TypeId × Value → H) :
    ReturnsInHanded {} Try.checked os 5 .any (Rows.fnExactValidInboxSpec.pre6 enc Try.prog Try.f5 Rows.fnExactValidInboxRow.domain false) (Rows.fnExactValidInboxSpec.post enc Try.prog Try.f5 false true false false) := by
  refine returnsInHanded_of_change (C := Try.checked) own started (by kernel_rfl) Try.func5
    (ChangeSpec.witness6 (enc := enc) (C := Try.checked) false ⟨#[], #[.agg #[.int .i64 0, .int .i64 0, .int .i64 0, .slice none 0 0]], []⟩ 8 (by kernel_rfl) (by kernel_rfl) (by kernel_rfl) (by kernel_rfl)) ?_
  intro W base args ds gs before hval0 hW hcnd _
  have hval : ∀ (j : Nat) t v, Try.f5.params[j]? = some t → args[j]? = some v → Value.okWide Try.prog W .any base t v := hval0
  have hW' := hW
  obtain ⟨p, q, hA0, hV, rfl, hfz, hnd⟩ := hW
  have hA : DataW.TrodAll enc Try.prog W 0 (fun _ => true) true Try.f5.params.toList args.toList ds p := hA0
  rw [Try.params5] at hA hval
  obtain ⟨v0, vs0, d0, ds0, p0, q0, hargs, rfl, rfl, h0, r0⟩ := trodAll_cons hA
  obtain ⟨rfl, rfl, rfl⟩ := trodAll_nil r0
  obtain rfl : args = #[v0] := by cases args; simp_all
  obtain ⟨rfl, rfl⟩ := trodVars_none hV
  obtain ⟨cs0, rfl⟩ := ok_struct Try.underlying33 (hval 0 33 v0 rfl rfl)
  obtain ⟨a0, F0, e0⟩ := arg_agg dec33 h0
  have w0 := RepV.wf_agg e0
  have hm : MeetsAt Try.prog 5 [.agg (GInbox.enc a0)] [.one (b1 true)] none := by
    have := l_FnExactValidInbox_ok a0 w0
    rw [law a0 w0] at this
    exact this
  refine (calls_of_meets hm (.cons e0 .nil)).mono fun e W' ⟨he, hg⟩ => ?_
  subst he
  exact ⟨_, rfl, post_below laid (by kernel_rfl) rfl hW' hg rfl (by kernel_rfl) Try.underlying4⟩

theorem over : Rows.fnExactValidInboxRow.holds Try.pinned (OpenSpec.ofChange Rows.fnExactValidInboxSpec) :=
  OpenClaim.holds_of_wide 5 Try.f5 rfl rfl rfl rfl rfl rfl rfl ⟨rfl, rfl, rfl, rfl, rfl⟩ rfl rfl rfl rfl rfl (by kernel_rfl) Try.func5 (by kernel_rfl)
    (of_decide_eq_true (by kernel_rfl)) (by unfold Func.isWrapper; first | (rw [if_pos (by decide +kernel)]; kernel_rfl) | (rw [if_neg (by decide +kernel)]; exact ⟨rfl, rfl⟩))
    (fun os started H enc _ => lifted os started H enc)

/-- THE STATEMENT -/
theorem proved : Rows.FnExactValidInboxSaid :=
  over
#print axioms proved
end Go.Proofs.Ytdmiboplfgmgiaa.fnExactValidInbox
