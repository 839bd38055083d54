/-
  Closed facts of the row of FnSettles. Conditions: none.
-/
import Derived.Test.YtnkjolpkcmgcaaaGreatRows
import Derived.ProofKit
import Derived.OpenShut
import Derived.KernelRfl
namespace Go.Proofs.YtnkjolpkcmgcaaaGreat.fnSettles
set_option linter.unusedVariables false
set_option maxRecDepth 100000
theorem closed0 : (Rows.fnSettlesRow.wf (OpenSpec.ofChange Rows.fnSettlesSpec)) = true := by kernel_rfl
theorem closed2 : (mapsRowed Tryz.prog) = true := by kernel_rfl
theorem closed3 : (Tryz.f6.params.all (Tryz.prog.readableRec ·)) = true := by kernel_rfl
theorem closed4 : (namedTie Tryz.prog Rows.fnSettlesRow.named Rows.fnSettlesSpec.vars) = true := by kernel_rfl
theorem closed5 : ((Rows.fnSettlesRow.stops == [])) = true := by kernel_rfl
theorem closed6 : ((Tryz.prog.stops == [])) = true := by kernel_rfl
theorem closed7 : ((Rows.fnSettlesRow.knobs == [])) = true := by kernel_rfl
theorem closed8 : ((Tryz.prog.stopKnobs == [])) = true := by kernel_rfl
theorem closed10 : ((Rows.fnSettlesRow.unfollowed == Tryz.prog.unfollowed 6)) = true := by kernel_rfl
theorem closed11 : ((Rows.fnSettlesRow.recurses == Tryz.prog.recurses 6)) = true := by kernel_rfl
theorem closed12 : ((Rows.fnSettlesRow.named == Tryz.prog.varsNamed 6)) = true := by kernel_rfl
theorem closed13 : ((Rows.fnSettlesRow.maps == (Tryz.f6.params.toList ++ Rows.fnSettlesSpec.plain.varTypes Tryz.prog).any (Tryz.prog.mapsRec ·))) = true := by kernel_rfl
theorem closed14 : ((Rows.fnSettlesRow.ifaces == (Tryz.f6.params.toList ++ Rows.fnSettlesSpec.plain.varTypes Tryz.prog).any (Tryz.prog.ifacesRec ·))) = true := by kernel_rfl
theorem closed15 : ((Rows.fnSettlesRow.mapsOut == Tryz.prog.mapsAmong Tryz.f6.resultTypes.toList)) = true := by kernel_rfl
theorem closed17 : ((Rows.fnSettlesRow.wideKeys == (Tryz.f6.params.toList ++ Rows.fnSettlesSpec.plain.varTypes Tryz.prog ++ Tryz.f6.resultTypes.toList).any (Tryz.prog.wideKeysFrom ·))) = true := by kernel_rfl
theorem closed18 : (Rows.fnSettlesSpec.vars.all (Tryz.prog.varReadable ·)) = true := by kernel_rfl
theorem closed19 : (Tryz.f6.resultTypes.all (fun t => Tryz.prog.readableRec t && decide (t < Tryz.prog.types.size))) = true := by kernel_rfl
theorem closed20 : ((Rows.fnSettlesRow.ifacesOut == Tryz.f6.resultTypes.toList.any (Tryz.prog.ifacesRec ·))) = true := by kernel_rfl
theorem closed21 : ((Rows.fnSettlesRow.loopsOut == Tryz.f6.resultTypes.toList.any (Tryz.prog.loopsFrom ·))) = true := by kernel_rfl
theorem closed22 : ((Rows.fnSettlesRow.plainKeys == Tryz.prog.plainKeys)) = true := by kernel_rfl
theorem closed23 : (Rows.fnSettlesRow.shortTexts.isNone) = true := by kernel_rfl
theorem closed24 : (Tryz.prog.stopsHeard) = true := by kernel_rfl
theorem closed28 : ((Rows.fnSettlesRow.kinds == (if Rows.fnSettlesRow.domain.isEmpty then [] else Tryz.f6.params.toList.map fun t => match Tryz.prog.underlying t with | some (.int k) => some k | _ => none))) = true := by kernel_rfl
theorem closed29 : ((Rows.fnSettlesRow.pinned == Rows.fnSettlesRow.pinnedBy)) = true := by kernel_rfl
theorem closed30 : ((Rows.fnSettlesRow.veiled == (Tryz.f6.params.toList ++ Rows.fnSettlesSpec.plain.varTypes Tryz.prog ++ Tryz.f6.resultTypes.toList).any (Tryz.prog.veiledRec ·))) = true := by kernel_rfl
theorem closed31 : (Rows.fnSettlesRow.veiledFits Tryz.prog Tryz.f6.params.toList (Tryz.f6.params.toList ++ Rows.fnSettlesSpec.plain.varTypes Tryz.prog ++ Tryz.f6.resultTypes.toList)) = true := by kernel_rfl
end Go.Proofs.YtnkjolpkcmgcaaaGreat.fnSettles
