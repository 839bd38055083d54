/-
  Closed facts of the row of FnRuns. Conditions: none.
-/
import Derived.Test.YtecighmpdcffcaaGreatRows
import Derived.ProofKit
import Derived.OpenShut
import Derived.KernelRfl
namespace Go.Proofs.YtecighmpdcffcaaGreat.fnRuns
set_option linter.unusedVariables false
set_option maxRecDepth 100000
theorem closed0 : (Rows.fnRunsRow.wf (OpenSpec.ofChange Rows.fnRunsSpec)) = true := by kernel_rfl
theorem closed2 : (mapsRowed Tryz.prog) = true := by kernel_rfl
theorem closed3 : (Tryz.f6.params.all (Tryz.prog.readableRec ·)) = true := by kernel_rfl
theorem closed4 : (namedTie Tryz.prog Rows.fnRunsRow.named Rows.fnRunsSpec.vars) = true := by kernel_rfl
theorem closed5 : ((Rows.fnRunsRow.stops == [])) = true := by kernel_rfl
theorem closed6 : ((Tryz.prog.stops == [])) = true := by kernel_rfl
theorem closed7 : ((Rows.fnRunsRow.knobs == [])) = true := by kernel_rfl
theorem closed8 : ((Tryz.prog.stopKnobs == [])) = true := by kernel_rfl
theorem closed10 : ((Rows.fnRunsRow.unfollowed == Tryz.prog.unfollowed 6)) = true := by kernel_rfl
theorem closed11 : ((Rows.fnRunsRow.recurses == Tryz.prog.recurses 6)) = true := by kernel_rfl
theorem closed12 : ((Rows.fnRunsRow.named == Tryz.prog.varsNamed 6)) = true := by kernel_rfl
theorem closed13 : ((Rows.fnRunsRow.maps == (Tryz.f6.params.toList ++ Rows.fnRunsSpec.plain.varTypes Tryz.prog).any (Tryz.prog.mapsRec ·))) = true := by kernel_rfl
theorem closed14 : ((Rows.fnRunsRow.ifaces == (Tryz.f6.params.toList ++ Rows.fnRunsSpec.plain.varTypes Tryz.prog).any (Tryz.prog.ifacesRec ·))) = true := by kernel_rfl
theorem closed15 : ((Rows.fnRunsRow.mapsOut == Tryz.prog.mapsAmong Tryz.f6.resultTypes.toList)) = true := by kernel_rfl
theorem closed17 : ((Rows.fnRunsRow.wideKeys == (Tryz.f6.params.toList ++ Rows.fnRunsSpec.plain.varTypes Tryz.prog ++ Tryz.f6.resultTypes.toList).any (Tryz.prog.wideKeysFrom ·))) = true := by kernel_rfl
theorem closed18 : (Rows.fnRunsSpec.vars.all (Tryz.prog.varReadable ·)) = true := by kernel_rfl
theorem closed19 : (Tryz.f6.resultTypes.all (fun t => Tryz.prog.readableRec t && decide (t < Tryz.prog.types.size))) = true := by kernel_rfl
theorem closed20 : ((Rows.fnRunsRow.ifacesOut == Tryz.f6.resultTypes.toList.any (Tryz.prog.ifacesRec ·))) = true := by kernel_rfl
theorem closed21 : ((Rows.fnRunsRow.loopsOut == Tryz.f6.resultTypes.toList.any (Tryz.prog.loopsFrom ·))) = true := by kernel_rfl
theorem closed22 : ((Rows.fnRunsRow.plainKeys == Tryz.prog.plainKeys)) = true := by kernel_rfl
theorem closed23 : (Rows.fnRunsRow.shortTexts.isNone) = true := by kernel_rfl
theorem closed24 : (Tryz.prog.stopsHeard) = true := by kernel_rfl
theorem closed28 : ((Rows.fnRunsRow.kinds == (if Rows.fnRunsRow.domain.isEmpty then [] else Tryz.f6.params.toList.map fun t => match Tryz.prog.underlying t with | some (.int k) => some k | _ => none))) = true := by kernel_rfl
theorem closed29 : ((Rows.fnRunsRow.pinned == Rows.fnRunsRow.pinnedBy)) = true := by kernel_rfl
theorem closed30 : ((Rows.fnRunsRow.veiled == (Tryz.f6.params.toList ++ Rows.fnRunsSpec.plain.varTypes Tryz.prog ++ Tryz.f6.resultTypes.toList).any (Tryz.prog.veiledRec ·))) = true := by kernel_rfl
theorem closed31 : (Rows.fnRunsRow.veiledFits Tryz.prog Tryz.f6.params.toList (Tryz.f6.params.toList ++ Rows.fnRunsSpec.plain.varTypes Tryz.prog ++ Tryz.f6.resultTypes.toList)) = true := by kernel_rfl
end Go.Proofs.YtecighmpdcffcaaGreat.fnRuns
