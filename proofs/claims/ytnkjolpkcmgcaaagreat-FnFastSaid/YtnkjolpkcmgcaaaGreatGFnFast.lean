/-
  Closed facts of the row of FnFast. Conditions: none.
-/
import Derived.Test.YtnkjolpkcmgcaaaGreatRows
import Derived.ProofKit
import Derived.OpenShut
import Derived.KernelRfl
namespace Go.Proofs.YtnkjolpkcmgcaaaGreat.fnFast
set_option linter.unusedVariables false
set_option maxRecDepth 100000
theorem closed0 : (Rows.fnFastRow.wf (OpenSpec.ofChange Rows.fnFastSpec)) = true := by kernel_rfl
theorem closed2 : (mapsRowed Tryz.prog) = true := by kernel_rfl
theorem closed3 : (Tryz.f4.params.all (Tryz.prog.readableRec ·)) = true := by kernel_rfl
theorem closed4 : (namedTie Tryz.prog Rows.fnFastRow.named Rows.fnFastSpec.vars) = true := by kernel_rfl
theorem closed5 : ((Rows.fnFastRow.stops == [])) = true := by kernel_rfl
theorem closed6 : ((Tryz.prog.stops == [])) = true := by kernel_rfl
theorem closed7 : ((Rows.fnFastRow.knobs == [])) = true := by kernel_rfl
theorem closed8 : ((Tryz.prog.stopKnobs == [])) = true := by kernel_rfl
theorem closed10 : ((Rows.fnFastRow.unfollowed == Tryz.prog.unfollowed 4)) = true := by kernel_rfl
theorem closed11 : ((Rows.fnFastRow.recurses == Tryz.prog.recurses 4)) = true := by kernel_rfl
theorem closed12 : ((Rows.fnFastRow.named == Tryz.prog.varsNamed 4)) = true := by kernel_rfl
theorem closed13 : ((Rows.fnFastRow.maps == (Tryz.f4.params.toList ++ Rows.fnFastSpec.plain.varTypes Tryz.prog).any (Tryz.prog.mapsRec ·))) = true := by kernel_rfl
theorem closed14 : ((Rows.fnFastRow.ifaces == (Tryz.f4.params.toList ++ Rows.fnFastSpec.plain.varTypes Tryz.prog).any (Tryz.prog.ifacesRec ·))) = true := by kernel_rfl
theorem closed15 : ((Rows.fnFastRow.mapsOut == Tryz.prog.mapsAmong Tryz.f4.resultTypes.toList)) = true := by kernel_rfl
theorem closed17 : ((Rows.fnFastRow.wideKeys == (Tryz.f4.params.toList ++ Rows.fnFastSpec.plain.varTypes Tryz.prog ++ Tryz.f4.resultTypes.toList).any (Tryz.prog.wideKeysFrom ·))) = true := by kernel_rfl
theorem closed18 : (Rows.fnFastSpec.vars.all (Tryz.prog.varReadable ·)) = true := by kernel_rfl
theorem closed19 : (Tryz.f4.resultTypes.all (fun t => Tryz.prog.readableRec t && decide (t < Tryz.prog.types.size))) = true := by kernel_rfl
theorem closed20 : ((Rows.fnFastRow.ifacesOut == Tryz.f4.resultTypes.toList.any (Tryz.prog.ifacesRec ·))) = true := by kernel_rfl
theorem closed21 : ((Rows.fnFastRow.loopsOut == Tryz.f4.resultTypes.toList.any (Tryz.prog.loopsFrom ·))) = true := by kernel_rfl
theorem closed22 : ((Rows.fnFastRow.plainKeys == Tryz.prog.plainKeys)) = true := by kernel_rfl
theorem closed23 : (Rows.fnFastRow.shortTexts.isNone) = true := by kernel_rfl
theorem closed24 : (Tryz.prog.stopsHeard) = true := by kernel_rfl
theorem closed28 : ((Rows.fnFastRow.kinds == (if Rows.fnFastRow.domain.isEmpty then [] else Tryz.f4.params.toList.map fun t => match Tryz.prog.underlying t with | some (.int k) => some k | _ => none))) = true := by kernel_rfl
theorem closed29 : ((Rows.fnFastRow.pinned == Rows.fnFastRow.pinnedBy)) = true := by kernel_rfl
theorem closed30 : ((Rows.fnFastRow.veiled == (Tryz.f4.params.toList ++ Rows.fnFastSpec.plain.varTypes Tryz.prog ++ Tryz.f4.resultTypes.toList).any (Tryz.prog.veiledRec ·))) = true := by kernel_rfl
theorem closed31 : (Rows.fnFastRow.veiledFits Tryz.prog Tryz.f4.params.toList (Tryz.f4.params.toList ++ Rows.fnFastSpec.plain.varTypes Tryz.prog ++ Tryz.f4.resultTypes.toList)) = true := by kernel_rfl
end Go.Proofs.YtnkjolpkcmgcaaaGreat.fnFast
