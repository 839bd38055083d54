/-
  Closed facts of the row of FnWorlds. Conditions: none.
-/
import Derived.Test.YtnkjolpkcmgcaaaGreatRows
import Derived.ProofKit
import Derived.OpenShut
import Derived.KernelRfl
namespace Go.Proofs.YtnkjolpkcmgcaaaGreat.fnWorlds
set_option linter.unusedVariables false
set_option maxRecDepth 100000
theorem closed0 : (Rows.fnWorldsRow.wf (OpenSpec.ofChange Rows.fnWorldsSpec)) = true := by kernel_rfl
theorem closed2 : (mapsRowed Tryz.prog) = true := by kernel_rfl
theorem closed3 : (Tryz.f7.params.all (Tryz.prog.readableRec ·)) = true := by kernel_rfl
theorem closed4 : (namedTie Tryz.prog Rows.fnWorldsRow.named Rows.fnWorldsSpec.vars) = true := by kernel_rfl
theorem closed5 : ((Rows.fnWorldsRow.stops == [])) = true := by kernel_rfl
theorem closed6 : ((Tryz.prog.stops == [])) = true := by kernel_rfl
theorem closed7 : ((Rows.fnWorldsRow.knobs == [])) = true := by kernel_rfl
theorem closed8 : ((Tryz.prog.stopKnobs == [])) = true := by kernel_rfl
theorem closed10 : ((Rows.fnWorldsRow.unfollowed == Tryz.prog.unfollowed 7)) = true := by kernel_rfl
theorem closed11 : ((Rows.fnWorldsRow.recurses == Tryz.prog.recurses 7)) = true := by kernel_rfl
theorem closed12 : ((Rows.fnWorldsRow.named == Tryz.prog.varsNamed 7)) = true := by kernel_rfl
theorem closed13 : ((Rows.fnWorldsRow.maps == (Tryz.f7.params.toList ++ Rows.fnWorldsSpec.plain.varTypes Tryz.prog).any (Tryz.prog.mapsRec ·))) = true := by kernel_rfl
theorem closed14 : ((Rows.fnWorldsRow.ifaces == (Tryz.f7.params.toList ++ Rows.fnWorldsSpec.plain.varTypes Tryz.prog).any (Tryz.prog.ifacesRec ·))) = true := by kernel_rfl
theorem closed15 : ((Rows.fnWorldsRow.mapsOut == Tryz.prog.mapsAmong Tryz.f7.resultTypes.toList)) = true := by kernel_rfl
theorem closed17 : ((Rows.fnWorldsRow.wideKeys == (Tryz.f7.params.toList ++ Rows.fnWorldsSpec.plain.varTypes Tryz.prog ++ Tryz.f7.resultTypes.toList).any (Tryz.prog.wideKeysFrom ·))) = true := by kernel_rfl
theorem closed18 : (Rows.fnWorldsSpec.vars.all (Tryz.prog.varReadable ·)) = true := by kernel_rfl
theorem closed19 : (Tryz.f7.resultTypes.all (fun t => Tryz.prog.readableRec t && decide (t < Tryz.prog.types.size))) = true := by kernel_rfl
theorem closed20 : ((Rows.fnWorldsRow.ifacesOut == Tryz.f7.resultTypes.toList.any (Tryz.prog.ifacesRec ·))) = true := by kernel_rfl
theorem closed21 : ((Rows.fnWorldsRow.loopsOut == Tryz.f7.resultTypes.toList.any (Tryz.prog.loopsFrom ·))) = true := by kernel_rfl
theorem closed22 : ((Rows.fnWorldsRow.plainKeys == Tryz.prog.plainKeys)) = true := by kernel_rfl
theorem closed23 : (Rows.fnWorldsRow.shortTexts.isNone) = true := by kernel_rfl
theorem closed24 : (Tryz.prog.stopsHeard) = true := by kernel_rfl
theorem closed28 : ((Rows.fnWorldsRow.kinds == (if Rows.fnWorldsRow.domain.isEmpty then [] else Tryz.f7.params.toList.map fun t => match Tryz.prog.underlying t with | some (.int k) => some k | _ => none))) = true := by kernel_rfl
theorem closed29 : ((Rows.fnWorldsRow.pinned == Rows.fnWorldsRow.pinnedBy)) = true := by kernel_rfl
theorem closed30 : ((Rows.fnWorldsRow.veiled == (Tryz.f7.params.toList ++ Rows.fnWorldsSpec.plain.varTypes Tryz.prog ++ Tryz.f7.resultTypes.toList).any (Tryz.prog.veiledRec ·))) = true := by kernel_rfl
theorem closed31 : (Rows.fnWorldsRow.veiledFits Tryz.prog Tryz.f7.params.toList (Tryz.f7.params.toList ++ Rows.fnWorldsSpec.plain.varTypes Tryz.prog ++ Tryz.f7.resultTypes.toList)) = true := by kernel_rfl
end Go.Proofs.YtnkjolpkcmgcaaaGreat.fnWorlds
