/-
  Closed facts of the row of FnExactNewNetwork. Conditions: none.
-/
import Derived.Test.YtmnjhbhppkploaaGreatRows
import Derived.ProofKit
import Derived.OpenShut
import Derived.KernelRfl
namespace Go.Proofs.YtmnjhbhppkploaaGreat.fnExactNewNetwork
set_option linter.unusedVariables false
set_option maxRecDepth 100000
theorem closed0 : (Rows.fnExactNewNetworkRow.wf (OpenSpec.ofChange Rows.fnExactNewNetworkSpec)) = true := by kernel_rfl
theorem closed2 : (mapsRowed Tryz.prog) = true := by kernel_rfl
theorem closed3 : (Tryz.f7.params.all (Tryz.prog.readableRec ·)) = true := by kernel_rfl
theorem closed4 : (namedTie Tryz.prog Rows.fnExactNewNetworkRow.named Rows.fnExactNewNetworkSpec.vars) = true := by kernel_rfl
theorem closed5 : ((Rows.fnExactNewNetworkRow.stops == [])) = true := by kernel_rfl
theorem closed6 : ((Tryz.prog.stops == [])) = true := by kernel_rfl
theorem closed7 : ((Rows.fnExactNewNetworkRow.knobs == [])) = true := by kernel_rfl
theorem closed8 : ((Tryz.prog.stopKnobs == [])) = true := by kernel_rfl
theorem closed10 : ((Rows.fnExactNewNetworkRow.unfollowed == Tryz.prog.unfollowed 7)) = true := by kernel_rfl
theorem closed11 : ((Rows.fnExactNewNetworkRow.recurses == Tryz.prog.recurses 7)) = true := by kernel_rfl
theorem closed12 : ((Rows.fnExactNewNetworkRow.named == Tryz.prog.varsNamed 7)) = true := by kernel_rfl
theorem closed13 : ((Rows.fnExactNewNetworkRow.maps == (Tryz.f7.params.toList ++ Rows.fnExactNewNetworkSpec.plain.varTypes Tryz.prog).any (Tryz.prog.mapsRec ·))) = true := by kernel_rfl
theorem closed14 : ((Rows.fnExactNewNetworkRow.ifaces == (Tryz.f7.params.toList ++ Rows.fnExactNewNetworkSpec.plain.varTypes Tryz.prog).any (Tryz.prog.ifacesRec ·))) = true := by kernel_rfl
theorem closed15 : ((Rows.fnExactNewNetworkRow.mapsOut == Tryz.prog.mapsAmong Tryz.f7.resultTypes.toList)) = true := by kernel_rfl
theorem closed17 : ((Rows.fnExactNewNetworkRow.wideKeys == (Tryz.f7.params.toList ++ Rows.fnExactNewNetworkSpec.plain.varTypes Tryz.prog ++ Tryz.f7.resultTypes.toList).any (Tryz.prog.wideKeysFrom ·))) = true := by kernel_rfl
theorem closed18 : (Rows.fnExactNewNetworkSpec.vars.all (Tryz.prog.varReadable ·)) = true := by kernel_rfl
theorem closed19 : (Tryz.f7.resultTypes.all (fun t => Tryz.prog.readableRec t && decide (t < Tryz.prog.types.size))) = true := by kernel_rfl
theorem closed20 : ((Rows.fnExactNewNetworkRow.ifacesOut == Tryz.f7.resultTypes.toList.any (Tryz.prog.ifacesRec ·))) = true := by kernel_rfl
theorem closed21 : ((Rows.fnExactNewNetworkRow.loopsOut == Tryz.f7.resultTypes.toList.any (Tryz.prog.loopsFrom ·))) = true := by kernel_rfl
theorem closed22 : ((Rows.fnExactNewNetworkRow.plainKeys == Tryz.prog.plainKeys)) = true := by kernel_rfl
theorem closed23 : (Rows.fnExactNewNetworkRow.shortTexts.isNone) = true := by kernel_rfl
theorem closed24 : (Tryz.prog.stopsHeard) = true := by kernel_rfl
theorem closed28 : ((Rows.fnExactNewNetworkRow.kinds == (if Rows.fnExactNewNetworkRow.domain.isEmpty then [] else Tryz.f7.params.toList.map fun t => match Tryz.prog.underlying t with | some (.int k) => some k | _ => none))) = true := by kernel_rfl
theorem closed29 : ((Rows.fnExactNewNetworkRow.pinned == Rows.fnExactNewNetworkRow.pinnedBy)) = true := by kernel_rfl
theorem closed30 : ((Rows.fnExactNewNetworkRow.veiled == (Tryz.f7.params.toList ++ Rows.fnExactNewNetworkSpec.plain.varTypes Tryz.prog ++ Tryz.f7.resultTypes.toList).any (Tryz.prog.veiledRec ·))) = true := by kernel_rfl
theorem closed31 : (Rows.fnExactNewNetworkRow.veiledFits Tryz.prog Tryz.f7.params.toList (Tryz.f7.params.toList ++ Rows.fnExactNewNetworkSpec.plain.varTypes Tryz.prog ++ Tryz.f7.resultTypes.toList)) = true := by kernel_rfl
end Go.Proofs.YtmnjhbhppkploaaGreat.fnExactNewNetwork
