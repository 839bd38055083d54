/-
  Closed facts of the row of FnEvents. Conditions: none.
-/
import Derived.Test.YtcppmcbkokgfcaaGreatRows
import Derived.ProofKit
import Derived.OpenShut
import Derived.KernelRfl
namespace Go.Proofs.YtcppmcbkokgfcaaGreat.fnEvents
set_option linter.unusedVariables false
set_option maxRecDepth 100000
theorem closed0 : (Rows.fnEventsRow.wf (OpenSpec.ofChange Rows.fnEventsSpec)) = true := by kernel_rfl
theorem closed2 : (mapsRowed Tryz.prog) = true := by kernel_rfl
theorem closed3 : (Tryz.f5.params.all (Tryz.prog.readableRec ·)) = true := by kernel_rfl
theorem closed4 : (namedTie Tryz.prog Rows.fnEventsRow.named Rows.fnEventsSpec.vars) = true := by kernel_rfl
theorem closed5 : ((Rows.fnEventsRow.stops == [])) = true := by kernel_rfl
theorem closed6 : ((Tryz.prog.stops == [])) = true := by kernel_rfl
theorem closed7 : ((Rows.fnEventsRow.knobs == [])) = true := by kernel_rfl
theorem closed8 : ((Tryz.prog.stopKnobs == [])) = true := by kernel_rfl
theorem closed10 : ((Rows.fnEventsRow.unfollowed == Tryz.prog.unfollowed 5)) = true := by kernel_rfl
theorem closed11 : ((Rows.fnEventsRow.recurses == Tryz.prog.recurses 5)) = true := by kernel_rfl
theorem closed12 : ((Rows.fnEventsRow.named == Tryz.prog.varsNamed 5)) = true := by kernel_rfl
theorem closed13 : ((Rows.fnEventsRow.maps == (Tryz.f5.params.toList ++ Rows.fnEventsSpec.plain.varTypes Tryz.prog).any (Tryz.prog.mapsRec ·))) = true := by kernel_rfl
theorem closed14 : ((Rows.fnEventsRow.ifaces == (Tryz.f5.params.toList ++ Rows.fnEventsSpec.plain.varTypes Tryz.prog).any (Tryz.prog.ifacesRec ·))) = true := by kernel_rfl
theorem closed15 : ((Rows.fnEventsRow.mapsOut == Tryz.prog.mapsAmong Tryz.f5.resultTypes.toList)) = true := by kernel_rfl
theorem closed17 : ((Rows.fnEventsRow.wideKeys == (Tryz.f5.params.toList ++ Rows.fnEventsSpec.plain.varTypes Tryz.prog ++ Tryz.f5.resultTypes.toList).any (Tryz.prog.wideKeysFrom ·))) = true := by kernel_rfl
theorem closed18 : (Rows.fnEventsSpec.vars.all (Tryz.prog.varReadable ·)) = true := by kernel_rfl
theorem closed19 : (Tryz.f5.resultTypes.all (fun t => Tryz.prog.readableRec t && decide (t < Tryz.prog.types.size))) = true := by kernel_rfl
theorem closed20 : ((Rows.fnEventsRow.ifacesOut == Tryz.f5.resultTypes.toList.any (Tryz.prog.ifacesRec ·))) = true := by kernel_rfl
theorem closed21 : ((Rows.fnEventsRow.loopsOut == Tryz.f5.resultTypes.toList.any (Tryz.prog.loopsFrom ·))) = true := by kernel_rfl
theorem closed22 : ((Rows.fnEventsRow.plainKeys == Tryz.prog.plainKeys)) = true := by kernel_rfl
theorem closed23 : (Rows.fnEventsRow.shortTexts.isNone) = true := by kernel_rfl
theorem closed24 : (Tryz.prog.stopsHeard) = true := by kernel_rfl
theorem closed28 : ((Rows.fnEventsRow.kinds == (if Rows.fnEventsRow.domain.isEmpty then [] else Tryz.f5.params.toList.map fun t => match Tryz.prog.underlying t with | some (.int k) => some k | _ => none))) = true := by kernel_rfl
theorem closed29 : ((Rows.fnEventsRow.pinned == Rows.fnEventsRow.pinnedBy)) = true := by kernel_rfl
theorem closed30 : ((Rows.fnEventsRow.veiled == (Tryz.f5.params.toList ++ Rows.fnEventsSpec.plain.varTypes Tryz.prog ++ Tryz.f5.resultTypes.toList).any (Tryz.prog.veiledRec ·))) = true := by kernel_rfl
theorem closed31 : (Rows.fnEventsRow.veiledFits Tryz.prog Tryz.f5.params.toList (Tryz.f5.params.toList ++ Rows.fnEventsSpec.plain.varTypes Tryz.prog ++ Tryz.f5.resultTypes.toList)) = true := by kernel_rfl
end Go.Proofs.YtcppmcbkokgfcaaGreat.fnEvents
