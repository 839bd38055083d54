/-
  Closed facts of the row of FnExactValidNetwork. Conditions: none.
-/
import Derived.Test.YtmnjhbhppkploaaGreatRows
import Derived.ProofKit
import Derived.OpenShut
import Derived.KernelRfl
namespace Go.Proofs.YtmnjhbhppkploaaGreat.fnExactValidNetwork
set_option linter.unusedVariables false
set_option maxRecDepth 100000
theorem closed0 : (Rows.fnExactValidNetworkRow.wf (OpenSpec.ofChange Rows.fnExactValidNetworkSpec)) = true := by kernel_rfl
theorem closed2 : (mapsRowed Tryz.prog) = true := by kernel_rfl
theorem closed3 : (Tryz.f8.params.all (Tryz.prog.readableRec ·)) = true := by kernel_rfl
theorem closed4 : (namedTie Tryz.prog Rows.fnExactValidNetworkRow.named Rows.fnExactValidNetworkSpec.vars) = true := by kernel_rfl
theorem closed5 : ((Rows.fnExactValidNetworkRow.stops == [])) = true := by kernel_rfl
theorem closed6 : ((Tryz.prog.stops == [])) = true := by kernel_rfl
theorem closed7 : ((Rows.fnExactValidNetworkRow.knobs == [])) = true := by kernel_rfl
theorem closed8 : ((Tryz.prog.stopKnobs == [])) = true := by kernel_rfl
theorem closed10 : ((Rows.fnExactValidNetworkRow.unfollowed == Tryz.prog.unfollowed 8)) = true := by kernel_rfl
theorem closed11 : ((Rows.fnExactValidNetworkRow.recurses == Tryz.prog.recurses 8)) = true := by kernel_rfl
theorem closed12 : ((Rows.fnExactValidNetworkRow.named == Tryz.prog.varsNamed 8)) = true := by kernel_rfl
theorem closed13 : ((Rows.fnExactValidNetworkRow.maps == (Tryz.f8.params.toList ++ Rows.fnExactValidNetworkSpec.plain.varTypes Tryz.prog).any (Tryz.prog.mapsRec ·))) = true := by kernel_rfl
theorem closed14 : ((Rows.fnExactValidNetworkRow.ifaces == (Tryz.f8.params.toList ++ Rows.fnExactValidNetworkSpec.plain.varTypes Tryz.prog).any (Tryz.prog.ifacesRec ·))) = true := by kernel_rfl
theorem closed15 : ((Rows.fnExactValidNetworkRow.mapsOut == Tryz.prog.mapsAmong Tryz.f8.resultTypes.toList)) = true := by kernel_rfl
theorem closed17 : ((Rows.fnExactValidNetworkRow.wideKeys == (Tryz.f8.params.toList ++ Rows.fnExactValidNetworkSpec.plain.varTypes Tryz.prog ++ Tryz.f8.resultTypes.toList).any (Tryz.prog.wideKeysFrom ·))) = true := by kernel_rfl
theorem closed18 : (Rows.fnExactValidNetworkSpec.vars.all (Tryz.prog.varReadable ·)) = true := by kernel_rfl
theorem closed19 : (Tryz.f8.resultTypes.all (fun t => Tryz.prog.readableRec t && decide (t < Tryz.prog.types.size))) = true := by kernel_rfl
theorem closed20 : ((Rows.fnExactValidNetworkRow.ifacesOut == Tryz.f8.resultTypes.toList.any (Tryz.prog.ifacesRec ·))) = true := by kernel_rfl
theorem closed21 : ((Rows.fnExactValidNetworkRow.loopsOut == Tryz.f8.resultTypes.toList.any (Tryz.prog.loopsFrom ·))) = true := by kernel_rfl
theorem closed22 : ((Rows.fnExactValidNetworkRow.plainKeys == Tryz.prog.plainKeys)) = true := by kernel_rfl
theorem closed23 : (Rows.fnExactValidNetworkRow.shortTexts.isNone) = true := by kernel_rfl
theorem closed24 : (Tryz.prog.stopsHeard) = true := by kernel_rfl
theorem closed28 : ((Rows.fnExactValidNetworkRow.kinds == (if Rows.fnExactValidNetworkRow.domain.isEmpty then [] else Tryz.f8.params.toList.map fun t => match Tryz.prog.underlying t with | some (.int k) => some k | _ => none))) = true := by kernel_rfl
theorem closed29 : ((Rows.fnExactValidNetworkRow.pinned == Rows.fnExactValidNetworkRow.pinnedBy)) = true := by kernel_rfl
theorem closed30 : ((Rows.fnExactValidNetworkRow.veiled == (Tryz.f8.params.toList ++ Rows.fnExactValidNetworkSpec.plain.varTypes Tryz.prog ++ Tryz.f8.resultTypes.toList).any (Tryz.prog.veiledRec ·))) = true := by kernel_rfl
theorem closed31 : (Rows.fnExactValidNetworkRow.veiledFits Tryz.prog Tryz.f8.params.toList (Tryz.f8.params.toList ++ Rows.fnExactValidNetworkSpec.plain.varTypes Tryz.prog ++ Tryz.f8.resultTypes.toList)) = true := by kernel_rfl
end Go.Proofs.YtmnjhbhppkploaaGreat.fnExactValidNetwork
