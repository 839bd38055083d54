/-
  The law as it is lifted: Law FnExactProcessPacket: for every network, AS, interface and packet ProcessPacket answers as the reference does, leaves them as they were, and answers in memory of its own. Conditions: none.
-/
import Derived.Test.YtejfajiolkojlaaGreatRows
import Derived.Test.YtejfajiolkojlaaGreatE0XProcessPacket
import Derived.Test.YtejfajiolkojlaaGreatLXProcessPacket
import Derived.WalkKit
import Derived.ProofKit
import Derived.OpenShut
namespace Go.Proofs.YtejfajiolkojlaaGreat.fnExactProcessPacket
open Go.Ab Go.V Go.ChangeShapes Go.WideShapes Go.ChangeAt Go.RowKit
set_option linter.unusedVariables false
theorem own : ownKnob Tryz.prog.godebug = none := by kernel_rfl
theorem laid : laidOutB Tryz.prog = true := by kernel_rfl
set_option maxRecDepth 100000 in
theorem lifted (os : Os) (started : os.Started) (H : Type) (enc : TypeId × Value → H) :
    ReturnsInHanded {} Tryz.checked os 5 .any (Rows.fnExactProcessPacketSpec.pre6 enc Tryz.prog Tryz.f5 Rows.fnExactProcessPacketRow.domain false) (Rows.fnExactProcessPacketSpec.post enc Tryz.prog Tryz.f5 false true false false) := by
  refine returnsInHanded_of_change (C := Tryz.checked) own started (by kernel_rfl) Tryz.func5
    (ChangeSpec.witness6 (enc := enc) (C := Tryz.checked) false ⟨#[], #[.agg #[.slice none 0 0, .slice none 0 0, .slice none 0 0, .slice none 0 0, .int .i64 0, .slice none 0 0, .slice none 0 0, .int .i64 0, .slice none 0 0, .slice none 0 0, .slice none 0 0, .slice none 0 0, .int .i64 0], .int .i64 0, .int .i64 0, .agg #[.int .i64 0, .int .i64 0, .int .i64 0, .slice none 0 0, .int .i64 0, .int .i64 0, .int .i64 0, .int .i64 0, .int .i64 0, .slice none 0 0]], []⟩ 8 (by kernel_rfl) (by kernel_rfl) (by kernel_rfl) (by kernel_rfl)) ?_
  intro W base args ds gs before hval0 hW hcnd _
  have hval : ∀ (j : Nat) t v, Tryz.f5.params[j]? = some t → args[j]? = some v → Value.okWide Tryz.prog W .any base t v := hval0
  have hW' := hW
  obtain ⟨p, q, hA0, hV, rfl, hfz, hnd⟩ := hW
  have hA : DataW.TrodAll enc Tryz.prog W 0 (fun _ => true) true Tryz.f5.params.toList args.toList ds p := hA0
  rw [Tryz.params5] at hA hval
  obtain ⟨v0, vs0, d0, ds0, p0, q0, hargs, rfl, rfl, h0, r0⟩ := trodAll_cons hA
  obtain ⟨v1, vs1, d1, ds1, p1, q1, rfl, rfl, rfl, h1, r1⟩ := trodAll_cons r0
  obtain ⟨v2, vs2, d2, ds2, p2, q2, rfl, rfl, rfl, h2, r2⟩ := trodAll_cons r1
  obtain ⟨v3, vs3, d3, ds3, p3, q3, rfl, rfl, rfl, h3, r3⟩ := trodAll_cons r2
  obtain ⟨rfl, rfl, rfl⟩ := trodAll_nil r3
  obtain rfl : args = #[v0, v1, v2, v3] := by cases args; simp_all
  obtain ⟨rfl, rfl⟩ := trodVars_none hV
  obtain ⟨cs0, rfl⟩ := ok_struct Tryz.underlying38 (hval 0 38 v0 rfl rfl)
  obtain ⟨a0, w0, e0⟩ := arg_agg (show Dec Tryz.prog 38 tNw from decTy_sound 12 (by kernel_rfl)) h0
  obtain ⟨a1, w1, e1⟩ := arg_one (show Dec Tryz.prog 3 ti from decTy_sound 12 (by kernel_rfl)) (ok_int Tryz.underlying3 (hval 1 3 v1 rfl rfl)) h1 (fun _ => rfl)
  obtain ⟨a2, w2, e2⟩ := arg_one (show Dec Tryz.prog 3 ti from decTy_sound 12 (by kernel_rfl)) (ok_int Tryz.underlying3 (hval 2 3 v2 rfl rfl)) h2 (fun _ => rfl)
  obtain ⟨cs3, rfl⟩ := ok_struct Tryz.underlying80 (hval 3 80 v3 rfl rfl)
  obtain ⟨a3, w3, e3⟩ := arg_agg (show Dec Tryz.prog 80 tPk from decTy_sound 12 (by kernel_rfl)) h3
  have hs : l_FnExactProcessPacket.con.sem (a0.1.1, a0.1.2, a0.2.1.1, a0.2.1.2, a0.2.2.1.1, a0.2.2.1.2.1, a0.2.2.1.2.2, a0.2.2.2.1, a0.2.2.2.2.1, a0.2.2.2.2.2.1, a0.2.2.2.2.2.2.1, a0.2.2.2.2.2.2.2.1, a0.2.2.2.2.2.2.2.2, a1, a2, a3.1, a3.2.1, a3.2.2.1, a3.2.2.2.1, a3.2.2.2.2.1, a3.2.2.2.2.2.1, a3.2.2.2.2.2.2.1, a3.2.2.2.2.2.2.2.1, a3.2.2.2.2.2.2.2.2.1, a3.2.2.2.2.2.2.2.2.2) = some true := law a0 a1 a2 a3 w0 w1 w2 w3
  refine (calls_law l_FnExactProcessPacket.ok (x := (a0.1.1, a0.1.2, a0.2.1.1, a0.2.1.2, a0.2.2.1.1, a0.2.2.1.2.1, a0.2.2.1.2.2, a0.2.2.2.1, a0.2.2.2.2.1, a0.2.2.2.2.2.1, a0.2.2.2.2.2.2.1, a0.2.2.2.2.2.2.2.1, a0.2.2.2.2.2.2.2.2, a1, a2, a3.1, a3.2.1, a3.2.2.1, a3.2.2.2.1, a3.2.2.2.2.1, a3.2.2.2.2.2.1, a3.2.2.2.2.2.2.1, a3.2.2.2.2.2.2.2.1, a3.2.2.2.2.2.2.2.2.1, a3.2.2.2.2.2.2.2.2.2)) (y := true) (xs := [.agg (split tNw a0), .one (.v ti a1), .one (.v ti a2), .agg (split tPk a3)]) hs (by kernel_rfl) (by kernel_rfl) (.cons e0 (.cons e1 (.cons e2 (.cons e3 .nil))))).mono fun e W' ⟨he, hg⟩ => ?_
  subst he
  exact ⟨_, rfl, post_below laid (by kernel_rfl) rfl hW' hg rfl (by kernel_rfl) Tryz.underlying4⟩
end Go.Proofs.YtejfajiolkojlaaGreat.fnExactProcessPacket
