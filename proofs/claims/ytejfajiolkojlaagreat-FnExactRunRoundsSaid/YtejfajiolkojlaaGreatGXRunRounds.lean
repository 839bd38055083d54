/-
  Closed facts of the row of FnExactRunRounds. Conditions: none.
-/
import Derived.Test.YtejfajiolkojlaaGreatRows
import Derived.ProofKit
import Derived.OpenShut
import Derived.KernelRfl
namespace Go.Proofs.YtejfajiolkojlaaGreat.fnExactRunRounds
set_option linter.unusedVariables false
set_option maxRecDepth 100000
theorem closed0 : (Rows.fnExactRunRoundsRow.wf (OpenSpec.ofChange Rows.fnExactRunRoundsSpec)) = true := by kernel_rfl
theorem closed2 : (mapsRowed Tryz.prog) = true := by kernel_rfl
theorem closed3 : (Tryz.f8.params.all (Tryz.prog.readableRec ·)) = true := by kernel_rfl
theorem closed4 : (namedTie Tryz.prog Rows.fnExactRunRoundsRow.named Rows.fnExactRunRoundsSpec.vars) = true := by kernel_rfl
theorem closed5 : ((Rows.fnExactRunRoundsRow.stops == [])) = true := by kernel_rfl
theorem closed6 : ((Tryz.prog.stops == [])) = true := by kernel_rfl
theorem closed7 : ((Rows.fnExactRunRoundsRow.knobs == [])) = true := by kernel_rfl
theorem closed8 : ((Tryz.prog.stopKnobs == [])) = true := by kernel_rfl
theorem closed10 : ((Rows.fnExactRunRoundsRow.unfollowed == Tryz.prog.unfollowed 8)) = true := by kernel_rfl
theorem closed11 : ((Rows.fnExactRunRoundsRow.recurses == Tryz.prog.recurses 8)) = true := by kernel_rfl
theorem closed12 : ((Rows.fnExactRunRoundsRow.named == Tryz.prog.varsNamed 8)) = true := by kernel_rfl
theorem closed13 : ((Rows.fnExactRunRoundsRow.maps == (Tryz.f8.params.toList ++ Rows.fnExactRunRoundsSpec.plain.varTypes Tryz.prog).any (Tryz.prog.mapsRec ·))) = true := by kernel_rfl
theorem closed14 : ((Rows.fnExactRunRoundsRow.ifaces == (Tryz.f8.params.toList ++ Rows.fnExactRunRoundsSpec.plain.varTypes Tryz.prog).any (Tryz.prog.ifacesRec ·))) = true := by kernel_rfl
theorem closed15 : ((Rows.fnExactRunRoundsRow.mapsOut == Tryz.prog.mapsAmong Tryz.f8.resultTypes.toList)) = true := by kernel_rfl
theorem closed17 : ((Rows.fnExactRunRoundsRow.wideKeys == (Tryz.f8.params.toList ++ Rows.fnExactRunRoundsSpec.plain.varTypes Tryz.prog ++ Tryz.f8.resultTypes.toList).any (Tryz.prog.wideKeysFrom ·))) = true := by kernel_rfl
theorem closed18 : (Rows.fnExactRunRoundsSpec.vars.all (Tryz.prog.varReadable ·)) = true := by kernel_rfl
theorem closed19 : (Tryz.f8.resultTypes.all (fun t => Tryz.prog.readableRec t && decide (t < Tryz.prog.types.size))) = true := by kernel_rfl
theorem closed20 : ((Rows.fnExactRunRoundsRow.ifacesOut == Tryz.f8.resultTypes.toList.any (Tryz.prog.ifacesRec ·))) = true := by kernel_rfl
theorem closed21 : ((Rows.fnExactRunRoundsRow.loopsOut == Tryz.f8.resultTypes.toList.any (Tryz.prog.loopsFrom ·))) = true := by kernel_rfl
theorem closed22 : ((Rows.fnExactRunRoundsRow.plainKeys == Tryz.prog.plainKeys)) = true := by kernel_rfl
theorem closed23 : (Rows.fnExactRunRoundsRow.shortTexts.isNone) = true := by kernel_rfl
theorem closed24 : (Tryz.prog.stopsHeard) = true := by kernel_rfl
theorem closed28 : ((Rows.fnExactRunRoundsRow.kinds == (if Rows.fnExactRunRoundsRow.domain.isEmpty then [] else Tryz.f8.params.toList.map fun t => match Tryz.prog.underlying t with | some (.int k) => some k | _ => none))) = true := by kernel_rfl
theorem closed29 : ((Rows.fnExactRunRoundsRow.pinned == Rows.fnExactRunRoundsRow.pinnedBy)) = true := by kernel_rfl
theorem closed30 : ((Rows.fnExactRunRoundsRow.veiled == (Tryz.f8.params.toList ++ Rows.fnExactRunRoundsSpec.plain.varTypes Tryz.prog ++ Tryz.f8.resultTypes.toList).any (Tryz.prog.veiledRec ·))) = true := by kernel_rfl
theorem closed31 : (Rows.fnExactRunRoundsRow.veiledFits Tryz.prog Tryz.f8.params.toList (Tryz.f8.params.toList ++ Rows.fnExactRunRoundsSpec.plain.varTypes Tryz.prog ++ Tryz.f8.resultTypes.toList)) = true := by kernel_rfl
end Go.Proofs.YtejfajiolkojlaaGreat.fnExactRunRounds
