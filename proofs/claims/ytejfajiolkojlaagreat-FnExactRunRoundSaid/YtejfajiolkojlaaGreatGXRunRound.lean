/-
  Closed facts of the row of FnExactRunRound. Conditions: none.
-/
import Derived.Test.YtejfajiolkojlaaGreatRows
import Derived.ProofKit
import Derived.OpenShut
import Derived.KernelRfl
namespace Go.Proofs.YtejfajiolkojlaaGreat.fnExactRunRound
set_option linter.unusedVariables false
set_option maxRecDepth 100000
theorem closed0 : (Rows.fnExactRunRoundRow.wf (OpenSpec.ofChange Rows.fnExactRunRoundSpec)) = true := by kernel_rfl
theorem closed2 : (mapsRowed Tryz.prog) = true := by kernel_rfl
theorem closed3 : (Tryz.f7.params.all (Tryz.prog.readableRec ·)) = true := by kernel_rfl
theorem closed4 : (namedTie Tryz.prog Rows.fnExactRunRoundRow.named Rows.fnExactRunRoundSpec.vars) = true := by kernel_rfl
theorem closed5 : ((Rows.fnExactRunRoundRow.stops == [])) = true := by kernel_rfl
theorem closed6 : ((Tryz.prog.stops == [])) = true := by kernel_rfl
theorem closed7 : ((Rows.fnExactRunRoundRow.knobs == [])) = true := by kernel_rfl
theorem closed8 : ((Tryz.prog.stopKnobs == [])) = true := by kernel_rfl
theorem closed10 : ((Rows.fnExactRunRoundRow.unfollowed == Tryz.prog.unfollowed 7)) = true := by kernel_rfl
theorem closed11 : ((Rows.fnExactRunRoundRow.recurses == Tryz.prog.recurses 7)) = true := by kernel_rfl
theorem closed12 : ((Rows.fnExactRunRoundRow.named == Tryz.prog.varsNamed 7)) = true := by kernel_rfl
theorem closed13 : ((Rows.fnExactRunRoundRow.maps == (Tryz.f7.params.toList ++ Rows.fnExactRunRoundSpec.plain.varTypes Tryz.prog).any (Tryz.prog.mapsRec ·))) = true := by kernel_rfl
theorem closed14 : ((Rows.fnExactRunRoundRow.ifaces == (Tryz.f7.params.toList ++ Rows.fnExactRunRoundSpec.plain.varTypes Tryz.prog).any (Tryz.prog.ifacesRec ·))) = true := by kernel_rfl
theorem closed15 : ((Rows.fnExactRunRoundRow.mapsOut == Tryz.prog.mapsAmong Tryz.f7.resultTypes.toList)) = true := by kernel_rfl
theorem closed17 : ((Rows.fnExactRunRoundRow.wideKeys == (Tryz.f7.params.toList ++ Rows.fnExactRunRoundSpec.plain.varTypes Tryz.prog ++ Tryz.f7.resultTypes.toList).any (Tryz.prog.wideKeysFrom ·))) = true := by kernel_rfl
theorem closed18 : (Rows.fnExactRunRoundSpec.vars.all (Tryz.prog.varReadable ·)) = true := by kernel_rfl
theorem closed19 : (Tryz.f7.resultTypes.all (fun t => Tryz.prog.readableRec t && decide (t < Tryz.prog.types.size))) = true := by kernel_rfl
theorem closed20 : ((Rows.fnExactRunRoundRow.ifacesOut == Tryz.f7.resultTypes.toList.any (Tryz.prog.ifacesRec ·))) = true := by kernel_rfl
theorem closed21 : ((Rows.fnExactRunRoundRow.loopsOut == Tryz.f7.resultTypes.toList.any (Tryz.prog.loopsFrom ·))) = true := by kernel_rfl
theorem closed22 : ((Rows.fnExactRunRoundRow.plainKeys == Tryz.prog.plainKeys)) = true := by kernel_rfl
theorem closed23 : (Rows.fnExactRunRoundRow.shortTexts.isNone) = true := by kernel_rfl
theorem closed24 : (Tryz.prog.stopsHeard) = true := by kernel_rfl
theorem closed28 : ((Rows.fnExactRunRoundRow.kinds == (if Rows.fnExactRunRoundRow.domain.isEmpty then [] else Tryz.f7.params.toList.map fun t => match Tryz.prog.underlying t with | some (.int k) => some k | _ => none))) = true := by kernel_rfl
theorem closed29 : ((Rows.fnExactRunRoundRow.pinned == Rows.fnExactRunRoundRow.pinnedBy)) = true := by kernel_rfl
theorem closed30 : ((Rows.fnExactRunRoundRow.veiled == (Tryz.f7.params.toList ++ Rows.fnExactRunRoundSpec.plain.varTypes Tryz.prog ++ Tryz.f7.resultTypes.toList).any (Tryz.prog.veiledRec ·))) = true := by kernel_rfl
theorem closed31 : (Rows.fnExactRunRoundRow.veiledFits Tryz.prog Tryz.f7.params.toList (Tryz.f7.params.toList ++ Rows.fnExactRunRoundSpec.plain.varTypes Tryz.prog ++ Tryz.f7.resultTypes.toList)) = true := by kernel_rfl
end Go.Proofs.YtejfajiolkojlaaGreat.fnExactRunRound
