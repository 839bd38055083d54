/-
  Closed facts of the row of FnExactCounters. Conditions: none.
-/
import Derived.Test.YtmnjhbhppkploaaGreatRows
import Derived.ProofKit
import Derived.OpenShut
import Derived.KernelRfl
namespace Go.Proofs.YtmnjhbhppkploaaGreat.fnExactCounters
set_option linter.unusedVariables false
set_option maxRecDepth 100000
theorem closed0 : (Rows.fnExactCountersRow.wf (OpenSpec.ofChange Rows.fnExactCountersSpec)) = true := by kernel_rfl
theorem closed2 : (mapsRowed Tryz.prog) = true := by kernel_rfl
theorem closed3 : (Tryz.f5.params.all (Tryz.prog.readableRec ·)) = true := by kernel_rfl
theorem closed4 : (namedTie Tryz.prog Rows.fnExactCountersRow.named Rows.fnExactCountersSpec.vars) = true := by kernel_rfl
theorem closed5 : ((Rows.fnExactCountersRow.stops == [])) = true := by kernel_rfl
theorem closed6 : ((Tryz.prog.stops == [])) = true := by kernel_rfl
theorem closed7 : ((Rows.fnExactCountersRow.knobs == [])) = true := by kernel_rfl
theorem closed8 : ((Tryz.prog.stopKnobs == [])) = true := by kernel_rfl
theorem closed10 : ((Rows.fnExactCountersRow.unfollowed == Tryz.prog.unfollowed 5)) = true := by kernel_rfl
theorem closed11 : ((Rows.fnExactCountersRow.recurses == Tryz.prog.recurses 5)) = true := by kernel_rfl
theorem closed12 : ((Rows.fnExactCountersRow.named == Tryz.prog.varsNamed 5)) = true := by kernel_rfl
theorem closed13 : ((Rows.fnExactCountersRow.maps == (Tryz.f5.params.toList ++ Rows.fnExactCountersSpec.plain.varTypes Tryz.prog).any (Tryz.prog.mapsRec ·))) = true := by kernel_rfl
theorem closed14 : ((Rows.fnExactCountersRow.ifaces == (Tryz.f5.params.toList ++ Rows.fnExactCountersSpec.plain.varTypes Tryz.prog).any (Tryz.prog.ifacesRec ·))) = true := by kernel_rfl
theorem closed15 : ((Rows.fnExactCountersRow.mapsOut == Tryz.prog.mapsAmong Tryz.f5.resultTypes.toList)) = true := by kernel_rfl
theorem closed17 : ((Rows.fnExactCountersRow.wideKeys == (Tryz.f5.params.toList ++ Rows.fnExactCountersSpec.plain.varTypes Tryz.prog ++ Tryz.f5.resultTypes.toList).any (Tryz.prog.wideKeysFrom ·))) = true := by kernel_rfl
theorem closed18 : (Rows.fnExactCountersSpec.vars.all (Tryz.prog.varReadable ·)) = true := by kernel_rfl
theorem closed19 : (Tryz.f5.resultTypes.all (fun t => Tryz.prog.readableRec t && decide (t < Tryz.prog.types.size))) = true := by kernel_rfl
theorem closed20 : ((Rows.fnExactCountersRow.ifacesOut == Tryz.f5.resultTypes.toList.any (Tryz.prog.ifacesRec ·))) = true := by kernel_rfl
theorem closed21 : ((Rows.fnExactCountersRow.loopsOut == Tryz.f5.resultTypes.toList.any (Tryz.prog.loopsFrom ·))) = true := by kernel_rfl
theorem closed22 : ((Rows.fnExactCountersRow.plainKeys == Tryz.prog.plainKeys)) = true := by kernel_rfl
theorem closed23 : (Rows.fnExactCountersRow.shortTexts.isNone) = true := by kernel_rfl
theorem closed24 : (Tryz.prog.stopsHeard) = true := by kernel_rfl
theorem closed28 : ((Rows.fnExactCountersRow.kinds == (if Rows.fnExactCountersRow.domain.isEmpty then [] else Tryz.f5.params.toList.map fun t => match Tryz.prog.underlying t with | some (.int k) => some k | _ => none))) = true := by kernel_rfl
theorem closed29 : ((Rows.fnExactCountersRow.pinned == Rows.fnExactCountersRow.pinnedBy)) = true := by kernel_rfl
theorem closed30 : ((Rows.fnExactCountersRow.veiled == (Tryz.f5.params.toList ++ Rows.fnExactCountersSpec.plain.varTypes Tryz.prog ++ Tryz.f5.resultTypes.toList).any (Tryz.prog.veiledRec ·))) = true := by kernel_rfl
theorem closed31 : (Rows.fnExactCountersRow.veiledFits Tryz.prog Tryz.f5.params.toList (Tryz.f5.params.toList ++ Rows.fnExactCountersSpec.plain.varTypes Tryz.prog ++ Tryz.f5.resultTypes.toList)) = true := by kernel_rfl
end Go.Proofs.YtmnjhbhppkploaaGreat.fnExactCounters
