/-
  Closed facts of the row of FnTop. Conditions: none.
-/
import Derived.Test.YtnkjolpkcmgcaaaGreatRows
import Derived.ProofKit
import Derived.OpenShut
import Derived.KernelRfl
namespace Go.Proofs.YtnkjolpkcmgcaaaGreat.fnTop
set_option linter.unusedVariables false
set_option maxRecDepth 100000
theorem closed0 : (Rows.fnTopRow.wf (OpenSpec.ofChange Rows.fnTopSpec)) = true := by kernel_rfl
theorem closed2 : (mapsRowed Tryz.prog) = true := by kernel_rfl
theorem closed3 : (Tryz.f3.params.all (Tryz.prog.readableRec ·)) = true := by kernel_rfl
theorem closed4 : (namedTie Tryz.prog Rows.fnTopRow.named Rows.fnTopSpec.vars) = true := by kernel_rfl
theorem closed5 : ((Rows.fnTopRow.stops == [])) = true := by kernel_rfl
theorem closed6 : ((Tryz.prog.stops == [])) = true := by kernel_rfl
theorem closed7 : ((Rows.fnTopRow.knobs == [])) = true := by kernel_rfl
theorem closed8 : ((Tryz.prog.stopKnobs == [])) = true := by kernel_rfl
theorem closed10 : ((Rows.fnTopRow.unfollowed == Tryz.prog.unfollowed 3)) = true := by kernel_rfl
theorem closed11 : ((Rows.fnTopRow.recurses == Tryz.prog.recurses 3)) = true := by kernel_rfl
theorem closed12 : ((Rows.fnTopRow.named == Tryz.prog.varsNamed 3)) = true := by kernel_rfl
theorem closed13 : ((Rows.fnTopRow.maps == (Tryz.f3.params.toList ++ Rows.fnTopSpec.plain.varTypes Tryz.prog).any (Tryz.prog.mapsRec ·))) = true := by kernel_rfl
theorem closed14 : ((Rows.fnTopRow.ifaces == (Tryz.f3.params.toList ++ Rows.fnTopSpec.plain.varTypes Tryz.prog).any (Tryz.prog.ifacesRec ·))) = true := by kernel_rfl
theorem closed15 : ((Rows.fnTopRow.mapsOut == Tryz.prog.mapsAmong Tryz.f3.resultTypes.toList)) = true := by kernel_rfl
theorem closed17 : ((Rows.fnTopRow.wideKeys == (Tryz.f3.params.toList ++ Rows.fnTopSpec.plain.varTypes Tryz.prog ++ Tryz.f3.resultTypes.toList).any (Tryz.prog.wideKeysFrom ·))) = true := by kernel_rfl
theorem closed18 : (Rows.fnTopSpec.vars.all (Tryz.prog.varReadable ·)) = true := by kernel_rfl
theorem closed19 : (Tryz.f3.resultTypes.all (fun t => Tryz.prog.readableRec t && decide (t < Tryz.prog.types.size))) = true := by kernel_rfl
theorem closed20 : ((Rows.fnTopRow.ifacesOut == Tryz.f3.resultTypes.toList.any (Tryz.prog.ifacesRec ·))) = true := by kernel_rfl
theorem closed21 : ((Rows.fnTopRow.loopsOut == Tryz.f3.resultTypes.toList.any (Tryz.prog.loopsFrom ·))) = true := by kernel_rfl
theorem closed22 : ((Rows.fnTopRow.plainKeys == Tryz.prog.plainKeys)) = true := by kernel_rfl
theorem closed23 : (Rows.fnTopRow.shortTexts.isNone) = true := by kernel_rfl
theorem closed24 : (Tryz.prog.stopsHeard) = true := by kernel_rfl
theorem closed28 : ((Rows.fnTopRow.kinds == (if Rows.fnTopRow.domain.isEmpty then [] else Tryz.f3.params.toList.map fun t => match Tryz.prog.underlying t with | some (.int k) => some k | _ => none))) = true := by kernel_rfl
theorem closed29 : ((Rows.fnTopRow.pinned == Rows.fnTopRow.pinnedBy)) = true := by kernel_rfl
theorem closed30 : ((Rows.fnTopRow.veiled == (Tryz.f3.params.toList ++ Rows.fnTopSpec.plain.varTypes Tryz.prog ++ Tryz.f3.resultTypes.toList).any (Tryz.prog.veiledRec ·))) = true := by kernel_rfl
theorem closed31 : (Rows.fnTopRow.veiledFits Tryz.prog Tryz.f3.params.toList (Tryz.f3.params.toList ++ Rows.fnTopSpec.plain.varTypes Tryz.prog ++ Tryz.f3.resultTypes.toList)) = true := by kernel_rfl
end Go.Proofs.YtnkjolpkcmgcaaaGreat.fnTop
