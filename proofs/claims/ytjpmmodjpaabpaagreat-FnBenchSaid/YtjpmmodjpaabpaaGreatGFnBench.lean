/-
  Closed facts of the row of FnBench. Conditions: none.
-/
import Derived.Test.YtjpmmodjpaabpaaGreatRows
import Derived.ProofKit
import Derived.OpenShut
import Derived.KernelRfl
namespace Go.Proofs.YtjpmmodjpaabpaaGreat.fnBench
set_option linter.unusedVariables false
set_option maxRecDepth 100000
theorem closed0 : (Rows.fnBenchRow.wf (OpenSpec.ofChange Rows.fnBenchSpec)) = true := by kernel_rfl
theorem closed2 : (mapsRowed Tryz.prog) = true := by kernel_rfl
theorem closed3 : (Tryz.f4.params.all (Tryz.prog.readableRec ·)) = true := by kernel_rfl
theorem closed4 : (namedTie Tryz.prog Rows.fnBenchRow.named Rows.fnBenchSpec.vars) = true := by kernel_rfl
theorem closed5 : ((Rows.fnBenchRow.stops == [])) = true := by kernel_rfl
theorem closed6 : ((Tryz.prog.stops == [])) = true := by kernel_rfl
theorem closed7 : ((Rows.fnBenchRow.knobs == [])) = true := by kernel_rfl
theorem closed8 : ((Tryz.prog.stopKnobs == [])) = true := by kernel_rfl
theorem closed10 : ((Rows.fnBenchRow.unfollowed == Tryz.prog.unfollowed 4)) = true := by kernel_rfl
theorem closed11 : ((Rows.fnBenchRow.recurses == Tryz.prog.recurses 4)) = true := by kernel_rfl
theorem closed12 : ((Rows.fnBenchRow.named == Tryz.prog.varsNamed 4)) = true := by kernel_rfl
theorem closed13 : ((Rows.fnBenchRow.maps == (Tryz.f4.params.toList ++ Rows.fnBenchSpec.plain.varTypes Tryz.prog).any (Tryz.prog.mapsRec ·))) = true := by kernel_rfl
theorem closed14 : ((Rows.fnBenchRow.ifaces == (Tryz.f4.params.toList ++ Rows.fnBenchSpec.plain.varTypes Tryz.prog).any (Tryz.prog.ifacesRec ·))) = true := by kernel_rfl
theorem closed15 : ((Rows.fnBenchRow.mapsOut == Tryz.prog.mapsAmong Tryz.f4.resultTypes.toList)) = true := by kernel_rfl
theorem closed17 : ((Rows.fnBenchRow.wideKeys == (Tryz.f4.params.toList ++ Rows.fnBenchSpec.plain.varTypes Tryz.prog ++ Tryz.f4.resultTypes.toList).any (Tryz.prog.wideKeysFrom ·))) = true := by kernel_rfl
theorem closed18 : (Rows.fnBenchSpec.vars.all (Tryz.prog.varReadable ·)) = true := by kernel_rfl
theorem closed19 : (Tryz.f4.resultTypes.all (fun t => Tryz.prog.readableRec t && decide (t < Tryz.prog.types.size))) = true := by kernel_rfl
theorem closed20 : ((Rows.fnBenchRow.ifacesOut == Tryz.f4.resultTypes.toList.any (Tryz.prog.ifacesRec ·))) = true := by kernel_rfl
theorem closed21 : ((Rows.fnBenchRow.loopsOut == Tryz.f4.resultTypes.toList.any (Tryz.prog.loopsFrom ·))) = true := by kernel_rfl
theorem closed22 : ((Rows.fnBenchRow.plainKeys == Tryz.prog.plainKeys)) = true := by kernel_rfl
theorem closed23 : (Rows.fnBenchRow.shortTexts.isNone) = true := by kernel_rfl
theorem closed24 : (Tryz.prog.stopsHeard) = true := by kernel_rfl
theorem closed28 : ((Rows.fnBenchRow.kinds == (if Rows.fnBenchRow.domain.isEmpty then [] else Tryz.f4.params.toList.map fun t => match Tryz.prog.underlying t with | some (.int k) => some k | _ => none))) = true := by kernel_rfl
theorem closed29 : ((Rows.fnBenchRow.pinned == Rows.fnBenchRow.pinnedBy)) = true := by kernel_rfl
theorem closed30 : ((Rows.fnBenchRow.veiled == (Tryz.f4.params.toList ++ Rows.fnBenchSpec.plain.varTypes Tryz.prog ++ Tryz.f4.resultTypes.toList).any (Tryz.prog.veiledRec ·))) = true := by kernel_rfl
theorem closed31 : (Rows.fnBenchRow.veiledFits Tryz.prog Tryz.f4.params.toList (Tryz.f4.params.toList ++ Rows.fnBenchSpec.plain.varTypes Tryz.prog ++ Tryz.f4.resultTypes.toList)) = true := by kernel_rfl
end Go.Proofs.YtjpmmodjpaabpaaGreat.fnBench
