/-
  Law FnExactFindInbox: for every list of inboxes FindInbox answers as the reference does and leaves the list as it was. Conditions: none.
-/
import Derived.Test.YtdmiboplfgmgiaaRows
import Derived.Test.YtdmiboplfgmgiaaGp5
import Derived.Test.YtdmiboplfgmgiaaGe
import Derived.Test.YtdmiboplfgmgiaaAbO
import Derived.WalkKit
import Derived.ProofKit
import Derived.OpenShut
namespace Go.Proofs.Ytdmiboplfgmgiaa.fnExactFindInbox
open Go.Ab Go.ChangeShapes Go.WideShapes Go.ChangeAt Go.RowKit
set_option linter.unusedVariables false
theorem law (l : List GInbox) (p q : Int) (_ : T.Wf (.sl (l.map GInbox.enc))) : l_FnExactFindInbox l p q = true := by
  unfold l_FnExactFindInbox
  rw [findInbox_eq, l_eqInboxS_refl]
  simp

theorem own : ownKnob Try.prog.godebug = none := by kernel_rfl
theorem laid : laidOutB Try.prog = true := by kernel_rfl
theorem dec62 : Dec Try.prog 62 (fun l : List Int => [T.sl (l.map encU)]) := dec_slice Try.underlying62 1 (by kernel_rfl) (by decide) (fun _ => rfl) (dec_u8 Try.underlying5)
theorem dec117 : Dec Try.prog 117 GMessage.enc := by
  intro H enc w base spare held fuel cs x h
  obtain ⟨xs, n, _, _, hl, hn, hf⟩ := DataW.trod_struct Try.underlying117 h
  have hc : cs.length = 1 := hl.trans (by kernel_rfl)
  obtain ⟨a0, F0, r0⟩ := dec_field (off := 0) (k := 1) dec62 (by kernel_rfl) (hf 0 _ rfl) (some_of_lt hn (by decide))
  exact ⟨⟨a0⟩, _, (rep_step r0 (off' := 1) rfl (rep_end hc) : RepL w (cs.drop 0) _ _)⟩
theorem dec31 : Dec Try.prog 31 (fun l : List GMessage => [T.sl (l.map GMessage.enc)]) := dec_slice Try.underlying31 1 (by kernel_rfl) (by decide) (fun _ => rfl) dec117
theorem dec33 : Dec Try.prog 33 GInbox.enc := by
  intro H enc w base spare held fuel cs x h
  obtain ⟨xs, n, _, _, hl, hn, hf⟩ := DataW.trod_struct Try.underlying33 h
  have hc : cs.length = 4 := hl.trans (by kernel_rfl)
  obtain ⟨a0, F0, r0⟩ := dec_field (off := 0) (k := 1) (dec_int Try.underlying3) (by kernel_rfl) (hf 0 _ rfl) (some_of_lt hn (by decide))
  obtain ⟨a1, F1, r1⟩ := dec_field (off := 1) (k := 1) (dec_int Try.underlying3) (by kernel_rfl) (hf 1 _ rfl) (some_of_lt hn (by decide))
  obtain ⟨a2, F2, r2⟩ := dec_field (off := 2) (k := 1) (dec_int Try.underlying3) (by kernel_rfl) (hf 2 _ rfl) (some_of_lt hn (by decide))
  obtain ⟨a3, F3, r3⟩ := dec_field (off := 3) (k := 1) dec31 (by kernel_rfl) (hf 3 _ rfl) (some_of_lt hn (by decide))
  exact ⟨⟨a0, a1, a2, a3⟩, _, (rep_step r0 (off' := 1) rfl (rep_step r1 (off' := 2) rfl (rep_step r2 (off' := 3) rfl (rep_step r3 (off' := 4) rfl (rep_end hc)))) : RepL w (cs.drop 0) _ _)⟩
theorem dec39 : Dec Try.prog 39 (fun l : List GInbox => [T.sl (l.map GInbox.enc)]) := dec_slice Try.underlying39 4 (by kernel_rfl) (by decide) (fun _ => rfl) dec33
set_option maxRecDepth 100000 in
theorem lifted (os : Os) (started : os.Started) (H : Type) (enc : TypeId × Value → H) :
    ReturnsInHanded {} Try.checked os 7 .any (Rows.fnExactFindInboxSpec.pre6 enc Try.prog Try.f7 Rows.fnExactFindInboxRow.domain false) (Rows.fnExactFindInboxSpec.post enc Try.prog Try.f7 false true false false) := by
  refine returnsInHanded_of_change (C := Try.checked) own started (by kernel_rfl) Try.func7
    (ChangeSpec.witness6 (enc := enc) (C := Try.checked) false ⟨#[], #[.slice none 0 0, .int .i64 0, .int .i64 0], []⟩ 8 (by kernel_rfl) (by kernel_rfl) (by kernel_rfl) (by kernel_rfl)) ?_
  intro W base args ds gs before hval0 hW hcnd _
  have hval : ∀ (j : Nat) t v, Try.f7.params[j]? = some t → args[j]? = some v → Value.okWide Try.prog W .any base t v := hval0
  have hW' := hW
  obtain ⟨p, q, hA0, hV, rfl, hfz, hnd⟩ := hW
  have hA : DataW.TrodAll enc Try.prog W 0 (fun _ => true) true Try.f7.params.toList args.toList ds p := hA0
  rw [Try.params7] at hA hval
  obtain ⟨v0, vs0, d0, ds0, p0, q0, hargs, rfl, rfl, h0, r0⟩ := trodAll_cons hA
  obtain ⟨v1, vs1, d1, ds1, p1, q1, rfl, rfl, rfl, h1, r1⟩ := trodAll_cons r0
  obtain ⟨v2, vs2, d2, ds2, p2, q2, rfl, rfl, rfl, h2, r2⟩ := trodAll_cons r1
  obtain ⟨rfl, rfl, rfl⟩ := trodAll_nil r2
  obtain rfl : args = #[v0, v1, v2] := by cases args; simp_all
  obtain ⟨rfl, rfl⟩ := trodVars_none hV
  obtain ⟨a0, F0, e0⟩ := arg_one dec39 (ok_slice Try.underlying39 (hval 0 39 v0 rfl rfl)) h0 _ (fun _ => rfl)
  have w0 := RepV.wf_one e0
  obtain ⟨a1, F1, e1⟩ := arg_one (dec_int Try.underlying3) (ok_int Try.underlying3 (hval 1 3 v1 rfl rfl)) h1 _ (fun _ => rfl)
  have w1 := RepV.wf_one e1
  obtain ⟨a2, F2, e2⟩ := arg_one (dec_int Try.underlying3) (ok_int Try.underlying3 (hval 2 3 v2 rfl rfl)) h2 _ (fun _ => rfl)
  have w2 := RepV.wf_one e2
  have hm : MeetsAt Try.prog 7 [.one (.sl (a0.map GInbox.enc)), .one (I a1), .one (I a2)] [.one (b1 true)] none := by
    have := l_FnExactFindInbox_ok a0 a1 a2 w0
    rw [law a0 a1 a2 w0] at this
    exact this
  refine (calls_of_meets hm (.cons e0 (.cons e1 (.cons e2 .nil)))).mono fun e W' ⟨he, hg⟩ => ?_
  subst he
  exact ⟨_, rfl, post_below laid (by kernel_rfl) rfl hW' hg rfl (by kernel_rfl) Try.underlying4⟩

theorem over : Rows.fnExactFindInboxRow.holds Try.pinned (OpenSpec.ofChange Rows.fnExactFindInboxSpec) :=
  OpenClaim.holds_of_wide 7 Try.f7 rfl rfl rfl rfl rfl rfl rfl ⟨rfl, rfl, rfl, rfl, rfl⟩ rfl rfl rfl rfl rfl (by kernel_rfl) Try.func7 (by kernel_rfl)
    (of_decide_eq_true (by kernel_rfl)) (by unfold Func.isWrapper; first | (rw [if_pos (by decide +kernel)]; kernel_rfl) | (rw [if_neg (by decide +kernel)]; exact ⟨rfl, rfl⟩))
    (fun os started H enc _ => lifted os started H enc)

/-- THE STATEMENT -/
theorem proved : Rows.FnExactFindInboxSaid :=
  over
#print axioms proved
end Go.Proofs.Ytdmiboplfgmgiaa.fnExactFindInbox
