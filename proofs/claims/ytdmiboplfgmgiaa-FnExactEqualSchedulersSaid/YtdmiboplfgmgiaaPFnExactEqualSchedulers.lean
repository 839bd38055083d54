/-
  Law FnExactEqualSchedulers: for every two schedulers EqualSchedulers answers as the reference does and leaves them as they were. Conditions: none.
-/
import Derived.Test.YtdmiboplfgmgiaaRows
import Derived.Test.YtdmiboplfgmgiaaGp2
import Derived.Test.YtdmiboplfgmgiaaGe
import Derived.Test.YtdmiboplfgmgiaaAbO
import Derived.WalkKit
import Derived.ProofKit
import Derived.OpenShut
namespace Go.Proofs.Ytdmiboplfgmgiaa.fnExactEqualSchedulers
open Go.Ab Go.ChangeShapes Go.WideShapes Go.ChangeAt Go.RowKit
set_option linter.unusedVariables false
theorem law (x y : GScheduler) (_ : WfL x.enc) (_ : WfL y.enc) : l_FnExactEqualSchedulers x y = true := by
  unfold l_FnExactEqualSchedulers
  rw [equalSchedulers_eq, l_eqScheduler_refl, l_eqScheduler_refl]
  simp

theorem own : ownKnob Try.prog.godebug = none := by kernel_rfl
theorem laid : laidOutB Try.prog = true := by kernel_rfl
theorem dec122 : Dec Try.prog 122 GReservation.enc := by
  intro H enc w base spare held fuel cs x h
  obtain ⟨xs, n, _, _, hl, hn, hf⟩ := DataW.trod_struct Try.underlying122 h
  have hc : cs.length = 5 := hl.trans (by kernel_rfl)
  obtain ⟨a0, F0, r0⟩ := dec_field (off := 0) (k := 1) (dec_int Try.underlying3) (by kernel_rfl) (hf 0 _ rfl) (some_of_lt hn (by decide))
  obtain ⟨a1, F1, r1⟩ := dec_field (off := 1) (k := 1) (dec_int Try.underlying3) (by kernel_rfl) (hf 1 _ rfl) (some_of_lt hn (by decide))
  obtain ⟨a2, F2, r2⟩ := dec_field (off := 2) (k := 1) (dec_int Try.underlying3) (by kernel_rfl) (hf 2 _ rfl) (some_of_lt hn (by decide))
  obtain ⟨a3, F3, r3⟩ := dec_field (off := 3) (k := 1) (dec_int Try.underlying3) (by kernel_rfl) (hf 3 _ rfl) (some_of_lt hn (by decide))
  obtain ⟨a4, F4, r4⟩ := dec_field (off := 4) (k := 1) (dec_int Try.underlying3) (by kernel_rfl) (hf 4 _ rfl) (some_of_lt hn (by decide))
  exact ⟨⟨a0, a1, a2, a3, a4⟩, _, (rep_step r0 (off' := 1) rfl (rep_step r1 (off' := 2) rfl (rep_step r2 (off' := 3) rfl (rep_step r3 (off' := 4) rfl (rep_step r4 (off' := 5) rfl (rep_end hc))))) : RepL w (cs.drop 0) _ _)⟩
theorem dec53 : Dec Try.prog 53 (fun l : List GReservation => [T.sl (l.map GReservation.enc)]) := dec_slice Try.underlying53 5 (by kernel_rfl) (by decide) (fun _ => rfl) dec122
theorem dec124 : Dec Try.prog 124 GUsage.enc := by
  intro H enc w base spare held fuel cs x h
  obtain ⟨xs, n, _, _, hl, hn, hf⟩ := DataW.trod_struct Try.underlying124 h
  have hc : cs.length = 4 := hl.trans (by kernel_rfl)
  obtain ⟨a0, F0, r0⟩ := dec_field (off := 0) (k := 1) (dec_int Try.underlying3) (by kernel_rfl) (hf 0 _ rfl) (some_of_lt hn (by decide))
  obtain ⟨a1, F1, r1⟩ := dec_field (off := 1) (k := 1) (dec_int Try.underlying3) (by kernel_rfl) (hf 1 _ rfl) (some_of_lt hn (by decide))
  obtain ⟨a2, F2, r2⟩ := dec_field (off := 2) (k := 1) (dec_int Try.underlying3) (by kernel_rfl) (hf 2 _ rfl) (some_of_lt hn (by decide))
  obtain ⟨a3, F3, r3⟩ := dec_field (off := 3) (k := 1) (dec_int Try.underlying3) (by kernel_rfl) (hf 3 _ rfl) (some_of_lt hn (by decide))
  exact ⟨⟨a0, a1, a2, a3⟩, _, (rep_step r0 (off' := 1) rfl (rep_step r1 (off' := 2) rfl (rep_step r2 (off' := 3) rfl (rep_step r3 (off' := 4) rfl (rep_end hc)))) : RepL w (cs.drop 0) _ _)⟩
theorem dec54 : Dec Try.prog 54 (fun l : List GUsage => [T.sl (l.map GUsage.enc)]) := dec_slice Try.underlying54 4 (by kernel_rfl) (by decide) (fun _ => rfl) dec124
theorem dec56 : Dec Try.prog 56 GScheduler.enc := by
  intro H enc w base spare held fuel cs x h
  obtain ⟨xs, n, _, _, hl, hn, hf⟩ := DataW.trod_struct Try.underlying56 h
  have hc : cs.length = 3 := hl.trans (by kernel_rfl)
  obtain ⟨a0, F0, r0⟩ := dec_field (off := 0) (k := 1) (dec_int Try.underlying3) (by kernel_rfl) (hf 0 _ rfl) (some_of_lt hn (by decide))
  obtain ⟨a1, F1, r1⟩ := dec_field (off := 1) (k := 1) dec53 (by kernel_rfl) (hf 1 _ rfl) (some_of_lt hn (by decide))
  obtain ⟨a2, F2, r2⟩ := dec_field (off := 2) (k := 1) dec54 (by kernel_rfl) (hf 2 _ rfl) (some_of_lt hn (by decide))
  exact ⟨⟨a0, a1, a2⟩, _, (rep_step r0 (off' := 1) rfl (rep_step r1 (off' := 2) rfl (rep_step r2 (off' := 3) rfl (rep_end hc))) : RepL w (cs.drop 0) _ _)⟩
set_option maxRecDepth 100000 in
theorem lifted (os : Os) (started : os.Started) (H : Type) (enc : TypeId × Value → H) :
    ReturnsInHanded {} Try.checked os 9 .any (Rows.fnExactEqualSchedulersSpec.pre6 enc Try.prog Try.f9 Rows.fnExactEqualSchedulersRow.domain false) (Rows.fnExactEqualSchedulersSpec.post enc Try.prog Try.f9 false true false false) := by
  refine returnsInHanded_of_change (C := Try.checked) own started (by kernel_rfl) Try.func9
    (ChangeSpec.witness6 (enc := enc) (C := Try.checked) false ⟨#[], #[.agg #[.int .i64 0, .slice none 0 0, .slice none 0 0], .agg #[.int .i64 0, .slice none 0 0, .slice none 0 0]], []⟩ 8 (by kernel_rfl) (by kernel_rfl) (by kernel_rfl) (by kernel_rfl)) ?_
  intro W base args ds gs before hval0 hW hcnd _
  have hval : ∀ (j : Nat) t v, Try.f9.params[j]? = some t → args[j]? = some v → Value.okWide Try.prog W .any base t v := hval0
  have hW' := hW
  obtain ⟨p, q, hA0, hV, rfl, hfz, hnd⟩ := hW
  have hA : DataW.TrodAll enc Try.prog W 0 (fun _ => true) true Try.f9.params.toList args.toList ds p := hA0
  rw [Try.params9] at hA hval
  obtain ⟨v0, vs0, d0, ds0, p0, q0, hargs, rfl, rfl, h0, r0⟩ := trodAll_cons hA
  obtain ⟨v1, vs1, d1, ds1, p1, q1, rfl, rfl, rfl, h1, r1⟩ := trodAll_cons r0
  obtain ⟨rfl, rfl, rfl⟩ := trodAll_nil r1
  obtain rfl : args = #[v0, v1] := by cases args; simp_all
  obtain ⟨rfl, rfl⟩ := trodVars_none hV
  obtain ⟨cs0, rfl⟩ := ok_struct Try.underlying56 (hval 0 56 v0 rfl rfl)
  obtain ⟨a0, F0, e0⟩ := arg_agg dec56 h0
  have w0 := RepV.wf_agg e0
  obtain ⟨cs1, rfl⟩ := ok_struct Try.underlying56 (hval 1 56 v1 rfl rfl)
  obtain ⟨a1, F1, e1⟩ := arg_agg dec56 h1
  have w1 := RepV.wf_agg e1
  have hm : MeetsAt Try.prog 9 [.agg (GScheduler.enc a0), .agg (GScheduler.enc a1)] [.one (b1 true)] none := by
    have := l_FnExactEqualSchedulers_ok a0 a1 w0 w1
    rw [law a0 a1 w0 w1] at this
    exact this
  refine (calls_of_meets hm (.cons e0 (.cons e1 .nil))).mono fun e W' ⟨he, hg⟩ => ?_
  subst he
  exact ⟨_, rfl, post_below laid (by kernel_rfl) rfl hW' hg rfl (by kernel_rfl) Try.underlying4⟩

theorem over : Rows.fnExactEqualSchedulersRow.holds Try.pinned (OpenSpec.ofChange Rows.fnExactEqualSchedulersSpec) :=
  OpenClaim.holds_of_wide 9 Try.f9 rfl rfl rfl rfl rfl rfl rfl ⟨rfl, rfl, rfl, rfl, rfl⟩ rfl rfl rfl rfl rfl (by kernel_rfl) Try.func9 (by kernel_rfl)
    (of_decide_eq_true (by kernel_rfl)) (by unfold Func.isWrapper; first | (rw [if_pos (by decide +kernel)]; kernel_rfl) | (rw [if_neg (by decide +kernel)]; exact ⟨rfl, rfl⟩))
    (fun os started H enc _ => lifted os started H enc)

/-- THE STATEMENT -/
theorem proved : Rows.FnExactEqualSchedulersSaid :=
  over
#print axioms proved
end Go.Proofs.Ytdmiboplfgmgiaa.fnExactEqualSchedulers
