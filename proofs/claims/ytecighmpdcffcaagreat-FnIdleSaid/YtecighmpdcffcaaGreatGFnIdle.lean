/-
  Closed facts of the row of FnIdle. Conditions: none.
-/
import Derived.Test.YtecighmpdcffcaaGreatRows
import Derived.ProofKit
import Derived.OpenShut
import Derived.KernelRfl
namespace Go.Proofs.YtecighmpdcffcaaGreat.fnIdle
set_option linter.unusedVariables false
set_option maxRecDepth 100000
theorem closed0 : (Rows.fnIdleRow.wf (OpenSpec.ofChange Rows.fnIdleSpec)) = true := by kernel_rfl
theorem closed2 : (mapsRowed Tryz.prog) = true := by kernel_rfl
theorem closed3 : (Tryz.f5.params.all (Tryz.prog.readableRec ·)) = true := by kernel_rfl
theorem closed4 : (namedTie Tryz.prog Rows.fnIdleRow.named Rows.fnIdleSpec.vars) = true := by kernel_rfl
theorem closed5 : ((Rows.fnIdleRow.stops == [])) = true := by kernel_rfl
theorem closed6 : ((Tryz.prog.stops == [])) = true := by kernel_rfl
theorem closed7 : ((Rows.fnIdleRow.knobs == [])) = true := by kernel_rfl
theorem closed8 : ((Tryz.prog.stopKnobs == [])) = true := by kernel_rfl
theorem closed10 : ((Rows.fnIdleRow.unfollowed == Tryz.prog.unfollowed 5)) = true := by kernel_rfl
theorem closed11 : ((Rows.fnIdleRow.recurses == Tryz.prog.recurses 5)) = true := by kernel_rfl
theorem closed12 : ((Rows.fnIdleRow.named == Tryz.prog.varsNamed 5)) = true := by kernel_rfl
theorem closed13 : ((Rows.fnIdleRow.maps == (Tryz.f5.params.toList ++ Rows.fnIdleSpec.plain.varTypes Tryz.prog).any (Tryz.prog.mapsRec ·))) = true := by kernel_rfl
theorem closed14 : ((Rows.fnIdleRow.ifaces == (Tryz.f5.params.toList ++ Rows.fnIdleSpec.plain.varTypes Tryz.prog).any (Tryz.prog.ifacesRec ·))) = true := by kernel_rfl
theorem closed15 : ((Rows.fnIdleRow.mapsOut == Tryz.prog.mapsAmong Tryz.f5.resultTypes.toList)) = true := by kernel_rfl
theorem closed17 : ((Rows.fnIdleRow.wideKeys == (Tryz.f5.params.toList ++ Rows.fnIdleSpec.plain.varTypes Tryz.prog ++ Tryz.f5.resultTypes.toList).any (Tryz.prog.wideKeysFrom ·))) = true := by kernel_rfl
theorem closed18 : (Rows.fnIdleSpec.vars.all (Tryz.prog.varReadable ·)) = true := by kernel_rfl
theorem closed19 : (Tryz.f5.resultTypes.all (fun t => Tryz.prog.readableRec t && decide (t < Tryz.prog.types.size))) = true := by kernel_rfl
theorem closed20 : ((Rows.fnIdleRow.ifacesOut == Tryz.f5.resultTypes.toList.any (Tryz.prog.ifacesRec ·))) = true := by kernel_rfl
theorem closed21 : ((Rows.fnIdleRow.loopsOut == Tryz.f5.resultTypes.toList.any (Tryz.prog.loopsFrom ·))) = true := by kernel_rfl
theorem closed22 : ((Rows.fnIdleRow.plainKeys == Tryz.prog.plainKeys)) = true := by kernel_rfl
theorem closed23 : (Rows.fnIdleRow.shortTexts.isNone) = true := by kernel_rfl
theorem closed24 : (Tryz.prog.stopsHeard) = true := by kernel_rfl
theorem closed28 : ((Rows.fnIdleRow.kinds == (if Rows.fnIdleRow.domain.isEmpty then [] else Tryz.f5.params.toList.map fun t => match Tryz.prog.underlying t with | some (.int k) => some k | _ => none))) = true := by kernel_rfl
theorem closed29 : ((Rows.fnIdleRow.pinned == Rows.fnIdleRow.pinnedBy)) = true := by kernel_rfl
theorem closed30 : ((Rows.fnIdleRow.veiled == (Tryz.f5.params.toList ++ Rows.fnIdleSpec.plain.varTypes Tryz.prog ++ Tryz.f5.resultTypes.toList).any (Tryz.prog.veiledRec ·))) = true := by kernel_rfl
theorem closed31 : (Rows.fnIdleRow.veiledFits Tryz.prog Tryz.f5.params.toList (Tryz.f5.params.toList ++ Rows.fnIdleSpec.plain.varTypes Tryz.prog ++ Tryz.f5.resultTypes.toList)) = true := by kernel_rfl
end Go.Proofs.YtecighmpdcffcaaGreat.fnIdle
