/-
  Closed facts of the row of FnExactExecute. Conditions: none.
-/
import Derived.Test.YtjpmmodjpaabpaaGreatRows
import Derived.ProofKit
import Derived.OpenShut
import Derived.KernelRfl
namespace Go.Proofs.YtjpmmodjpaabpaaGreat.fnExactExecute
set_option linter.unusedVariables false
set_option maxRecDepth 100000
theorem closed0 : (Rows.fnExactExecuteRow.wf (OpenSpec.ofChange Rows.fnExactExecuteSpec)) = true := by kernel_rfl
theorem closed2 : (mapsRowed Tryz.prog) = true := by kernel_rfl
theorem closed3 : (Tryz.f3.params.all (Tryz.prog.readableRec ·)) = true := by kernel_rfl
theorem closed4 : (namedTie Tryz.prog Rows.fnExactExecuteRow.named Rows.fnExactExecuteSpec.vars) = true := by kernel_rfl
theorem closed5 : ((Rows.fnExactExecuteRow.stops == [])) = true := by kernel_rfl
theorem closed6 : ((Tryz.prog.stops == [])) = true := by kernel_rfl
theorem closed7 : ((Rows.fnExactExecuteRow.knobs == [])) = true := by kernel_rfl
theorem closed8 : ((Tryz.prog.stopKnobs == [])) = true := by kernel_rfl
theorem closed10 : ((Rows.fnExactExecuteRow.unfollowed == Tryz.prog.unfollowed 3)) = true := by kernel_rfl
theorem closed11 : ((Rows.fnExactExecuteRow.recurses == Tryz.prog.recurses 3)) = true := by kernel_rfl
theorem closed12 : ((Rows.fnExactExecuteRow.named == Tryz.prog.varsNamed 3)) = true := by kernel_rfl
theorem closed13 : ((Rows.fnExactExecuteRow.maps == (Tryz.f3.params.toList ++ Rows.fnExactExecuteSpec.plain.varTypes Tryz.prog).any (Tryz.prog.mapsRec ·))) = true := by kernel_rfl
theorem closed14 : ((Rows.fnExactExecuteRow.ifaces == (Tryz.f3.params.toList ++ Rows.fnExactExecuteSpec.plain.varTypes Tryz.prog).any (Tryz.prog.ifacesRec ·))) = true := by kernel_rfl
theorem closed15 : ((Rows.fnExactExecuteRow.mapsOut == Tryz.prog.mapsAmong Tryz.f3.resultTypes.toList)) = true := by kernel_rfl
theorem closed17 : ((Rows.fnExactExecuteRow.wideKeys == (Tryz.f3.params.toList ++ Rows.fnExactExecuteSpec.plain.varTypes Tryz.prog ++ Tryz.f3.resultTypes.toList).any (Tryz.prog.wideKeysFrom ·))) = true := by kernel_rfl
theorem closed18 : (Rows.fnExactExecuteSpec.vars.all (Tryz.prog.varReadable ·)) = true := by kernel_rfl
theorem closed19 : (Tryz.f3.resultTypes.all (fun t => Tryz.prog.readableRec t && decide (t < Tryz.prog.types.size))) = true := by kernel_rfl
theorem closed20 : ((Rows.fnExactExecuteRow.ifacesOut == Tryz.f3.resultTypes.toList.any (Tryz.prog.ifacesRec ·))) = true := by kernel_rfl
theorem closed21 : ((Rows.fnExactExecuteRow.loopsOut == Tryz.f3.resultTypes.toList.any (Tryz.prog.loopsFrom ·))) = true := by kernel_rfl
theorem closed22 : ((Rows.fnExactExecuteRow.plainKeys == Tryz.prog.plainKeys)) = true := by kernel_rfl
theorem closed23 : (Rows.fnExactExecuteRow.shortTexts.isNone) = true := by kernel_rfl
theorem closed24 : (Tryz.prog.stopsHeard) = true := by kernel_rfl
theorem closed28 : ((Rows.fnExactExecuteRow.kinds == (if Rows.fnExactExecuteRow.domain.isEmpty then [] else Tryz.f3.params.toList.map fun t => match Tryz.prog.underlying t with | some (.int k) => some k | _ => none))) = true := by kernel_rfl
theorem closed29 : ((Rows.fnExactExecuteRow.pinned == Rows.fnExactExecuteRow.pinnedBy)) = true := by kernel_rfl
theorem closed30 : ((Rows.fnExactExecuteRow.veiled == (Tryz.f3.params.toList ++ Rows.fnExactExecuteSpec.plain.varTypes Tryz.prog ++ Tryz.f3.resultTypes.toList).any (Tryz.prog.veiledRec ·))) = true := by kernel_rfl
theorem closed31 : (Rows.fnExactExecuteRow.veiledFits Tryz.prog Tryz.f3.params.toList (Tryz.f3.params.toList ++ Rows.fnExactExecuteSpec.plain.varTypes Tryz.prog ++ Tryz.f3.resultTypes.toList)) = true := by kernel_rfl
end Go.Proofs.YtjpmmodjpaabpaaGreat.fnExactExecute
