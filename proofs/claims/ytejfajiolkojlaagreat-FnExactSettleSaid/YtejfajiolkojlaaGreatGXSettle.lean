/-
  Closed facts of the row of FnExactSettle. Conditions: none.
-/
import Derived.Test.YtejfajiolkojlaaGreatRows
import Derived.ProofKit
import Derived.OpenShut
import Derived.KernelRfl
namespace Go.Proofs.YtejfajiolkojlaaGreat.fnExactSettle
set_option linter.unusedVariables false
set_option maxRecDepth 100000
theorem closed0 : (Rows.fnExactSettleRow.wf (OpenSpec.ofChange Rows.fnExactSettleSpec)) = true := by kernel_rfl
theorem closed2 : (mapsRowed Tryz.prog) = true := by kernel_rfl
theorem closed3 : (Tryz.f9.params.all (Tryz.prog.readableRec ·)) = true := by kernel_rfl
theorem closed4 : (namedTie Tryz.prog Rows.fnExactSettleRow.named Rows.fnExactSettleSpec.vars) = true := by kernel_rfl
theorem closed5 : ((Rows.fnExactSettleRow.stops == [])) = true := by kernel_rfl
theorem closed6 : ((Tryz.prog.stops == [])) = true := by kernel_rfl
theorem closed7 : ((Rows.fnExactSettleRow.knobs == [])) = true := by kernel_rfl
theorem closed8 : ((Tryz.prog.stopKnobs == [])) = true := by kernel_rfl
theorem closed10 : ((Rows.fnExactSettleRow.unfollowed == Tryz.prog.unfollowed 9)) = true := by kernel_rfl
theorem closed11 : ((Rows.fnExactSettleRow.recurses == Tryz.prog.recurses 9)) = true := by kernel_rfl
theorem closed12 : ((Rows.fnExactSettleRow.named == Tryz.prog.varsNamed 9)) = true := by kernel_rfl
theorem closed13 : ((Rows.fnExactSettleRow.maps == (Tryz.f9.params.toList ++ Rows.fnExactSettleSpec.plain.varTypes Tryz.prog).any (Tryz.prog.mapsRec ·))) = true := by kernel_rfl
theorem closed14 : ((Rows.fnExactSettleRow.ifaces == (Tryz.f9.params.toList ++ Rows.fnExactSettleSpec.plain.varTypes Tryz.prog).any (Tryz.prog.ifacesRec ·))) = true := by kernel_rfl
theorem closed15 : ((Rows.fnExactSettleRow.mapsOut == Tryz.prog.mapsAmong Tryz.f9.resultTypes.toList)) = true := by kernel_rfl
theorem closed17 : ((Rows.fnExactSettleRow.wideKeys == (Tryz.f9.params.toList ++ Rows.fnExactSettleSpec.plain.varTypes Tryz.prog ++ Tryz.f9.resultTypes.toList).any (Tryz.prog.wideKeysFrom ·))) = true := by kernel_rfl
theorem closed18 : (Rows.fnExactSettleSpec.vars.all (Tryz.prog.varReadable ·)) = true := by kernel_rfl
theorem closed19 : (Tryz.f9.resultTypes.all (fun t => Tryz.prog.readableRec t && decide (t < Tryz.prog.types.size))) = true := by kernel_rfl
theorem closed20 : ((Rows.fnExactSettleRow.ifacesOut == Tryz.f9.resultTypes.toList.any (Tryz.prog.ifacesRec ·))) = true := by kernel_rfl
theorem closed21 : ((Rows.fnExactSettleRow.loopsOut == Tryz.f9.resultTypes.toList.any (Tryz.prog.loopsFrom ·))) = true := by kernel_rfl
theorem closed22 : ((Rows.fnExactSettleRow.plainKeys == Tryz.prog.plainKeys)) = true := by kernel_rfl
theorem closed23 : (Rows.fnExactSettleRow.shortTexts.isNone) = true := by kernel_rfl
theorem closed24 : (Tryz.prog.stopsHeard) = true := by kernel_rfl
theorem closed28 : ((Rows.fnExactSettleRow.kinds == (if Rows.fnExactSettleRow.domain.isEmpty then [] else Tryz.f9.params.toList.map fun t => match Tryz.prog.underlying t with | some (.int k) => some k | _ => none))) = true := by kernel_rfl
theorem closed29 : ((Rows.fnExactSettleRow.pinned == Rows.fnExactSettleRow.pinnedBy)) = true := by kernel_rfl
theorem closed30 : ((Rows.fnExactSettleRow.veiled == (Tryz.f9.params.toList ++ Rows.fnExactSettleSpec.plain.varTypes Tryz.prog ++ Tryz.f9.resultTypes.toList).any (Tryz.prog.veiledRec ·))) = true := by kernel_rfl
theorem closed31 : (Rows.fnExactSettleRow.veiledFits Tryz.prog Tryz.f9.params.toList (Tryz.f9.params.toList ++ Rows.fnExactSettleSpec.plain.varTypes Tryz.prog ++ Tryz.f9.resultTypes.toList)) = true := by kernel_rfl
end Go.Proofs.YtejfajiolkojlaaGreat.fnExactSettle
