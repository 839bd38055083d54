/-
  Closed facts of the row of FnExactEqualNetworks. Conditions: none.
-/
import Derived.Test.YtmnjhbhppkploaaGreatRows
import Derived.ProofKit
import Derived.OpenShut
import Derived.KernelRfl
namespace Go.Proofs.YtmnjhbhppkploaaGreat.fnExactEqualNetworks
set_option linter.unusedVariables false
set_option maxRecDepth 100000
theorem closed0 : (Rows.fnExactEqualNetworksRow.wf (OpenSpec.ofChange Rows.fnExactEqualNetworksSpec)) = true := by kernel_rfl
theorem closed2 : (mapsRowed Tryz.prog) = true := by kernel_rfl
theorem closed3 : (Tryz.f6.params.all (Tryz.prog.readableRec ·)) = true := by kernel_rfl
theorem closed4 : (namedTie Tryz.prog Rows.fnExactEqualNetworksRow.named Rows.fnExactEqualNetworksSpec.vars) = true := by kernel_rfl
theorem closed5 : ((Rows.fnExactEqualNetworksRow.stops == [])) = true := by kernel_rfl
theorem closed6 : ((Tryz.prog.stops == [])) = true := by kernel_rfl
theorem closed7 : ((Rows.fnExactEqualNetworksRow.knobs == [])) = true := by kernel_rfl
theorem closed8 : ((Tryz.prog.stopKnobs == [])) = true := by kernel_rfl
theorem closed10 : ((Rows.fnExactEqualNetworksRow.unfollowed == Tryz.prog.unfollowed 6)) = true := by kernel_rfl
theorem closed11 : ((Rows.fnExactEqualNetworksRow.recurses == Tryz.prog.recurses 6)) = true := by kernel_rfl
theorem closed12 : ((Rows.fnExactEqualNetworksRow.named == Tryz.prog.varsNamed 6)) = true := by kernel_rfl
theorem closed13 : ((Rows.fnExactEqualNetworksRow.maps == (Tryz.f6.params.toList ++ Rows.fnExactEqualNetworksSpec.plain.varTypes Tryz.prog).any (Tryz.prog.mapsRec ·))) = true := by kernel_rfl
theorem closed14 : ((Rows.fnExactEqualNetworksRow.ifaces == (Tryz.f6.params.toList ++ Rows.fnExactEqualNetworksSpec.plain.varTypes Tryz.prog).any (Tryz.prog.ifacesRec ·))) = true := by kernel_rfl
theorem closed15 : ((Rows.fnExactEqualNetworksRow.mapsOut == Tryz.prog.mapsAmong Tryz.f6.resultTypes.toList)) = true := by kernel_rfl
theorem closed17 : ((Rows.fnExactEqualNetworksRow.wideKeys == (Tryz.f6.params.toList ++ Rows.fnExactEqualNetworksSpec.plain.varTypes Tryz.prog ++ Tryz.f6.resultTypes.toList).any (Tryz.prog.wideKeysFrom ·))) = true := by kernel_rfl
theorem closed18 : (Rows.fnExactEqualNetworksSpec.vars.all (Tryz.prog.varReadable ·)) = true := by kernel_rfl
theorem closed19 : (Tryz.f6.resultTypes.all (fun t => Tryz.prog.readableRec t && decide (t < Tryz.prog.types.size))) = true := by kernel_rfl
theorem closed20 : ((Rows.fnExactEqualNetworksRow.ifacesOut == Tryz.f6.resultTypes.toList.any (Tryz.prog.ifacesRec ·))) = true := by kernel_rfl
theorem closed21 : ((Rows.fnExactEqualNetworksRow.loopsOut == Tryz.f6.resultTypes.toList.any (Tryz.prog.loopsFrom ·))) = true := by kernel_rfl
theorem closed22 : ((Rows.fnExactEqualNetworksRow.plainKeys == Tryz.prog.plainKeys)) = true := by kernel_rfl
theorem closed23 : (Rows.fnExactEqualNetworksRow.shortTexts.isNone) = true := by kernel_rfl
theorem closed24 : (Tryz.prog.stopsHeard) = true := by kernel_rfl
theorem closed28 : ((Rows.fnExactEqualNetworksRow.kinds == (if Rows.fnExactEqualNetworksRow.domain.isEmpty then [] else Tryz.f6.params.toList.map fun t => match Tryz.prog.underlying t with | some (.int k) => some k | _ => none))) = true := by kernel_rfl
theorem closed29 : ((Rows.fnExactEqualNetworksRow.pinned == Rows.fnExactEqualNetworksRow.pinnedBy)) = true := by kernel_rfl
theorem closed30 : ((Rows.fnExactEqualNetworksRow.veiled == (Tryz.f6.params.toList ++ Rows.fnExactEqualNetworksSpec.plain.varTypes Tryz.prog ++ Tryz.f6.resultTypes.toList).any (Tryz.prog.veiledRec ·))) = true := by kernel_rfl
theorem closed31 : (Rows.fnExactEqualNetworksRow.veiledFits Tryz.prog Tryz.f6.params.toList (Tryz.f6.params.toList ++ Rows.fnExactEqualNetworksSpec.plain.varTypes Tryz.prog ++ Tryz.f6.resultTypes.toList)) = true := by kernel_rfl
end Go.Proofs.YtmnjhbhppkploaaGreat.fnExactEqualNetworks
