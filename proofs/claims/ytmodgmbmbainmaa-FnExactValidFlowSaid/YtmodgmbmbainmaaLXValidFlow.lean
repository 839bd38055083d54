/-
  The plain part of: Law FnExactValidFlow: for every flow ValidFlow answers as the reference does and leaves the flow as it was. Conditions: none.
-/
import Derived.Test.YtmodgmbmbainmaaQ0XValidFlow
set_option linter.unusedVariables false
set_option linter.unusedSimpArgs false
set_option maxRecDepth 100000
namespace Go.Proofs.Ytmodgmbmbainmaa.fnExactValidFlow
open Go.Ab Go.V
theorem core_ValidFlow (a0 : den tFlow) (w0 : Wf tFlow a0) (t0 : tot tFlow a0 ≤ 1048576) : ∃ y, i_ValidFlow a0 = some y ∧ s_ValidFlow a0 = some y := by
  have sm : SmB 68719476736 tFlow a0 := (sm_of_tot t0).mono (by decide)
  exact ⟨_, i_validF sm, s_validF sm⟩
theorem law (a0 : den tFlow) (w0 : Wf tFlow a0) : l_FnExactValidFlow a0 = some true := by
  unfold l_FnExactValidFlow
  obtain ⟨r0, hr0, hs0⟩ := sz_Flow (left := (1048576 : Int)) w0 (by decide) (by decide)
  have hr0 : l_szFlow (a0.1, a0.2.1, a0.2.2.1, a0.2.2.2.1, a0.2.2.2.2.1, a0.2.2.2.2.2.1, a0.2.2.2.2.2.2.1, a0.2.2.2.2.2.2.2.1, a0.2.2.2.2.2.2.2.2) (1048576 : Int) = some r0 := hr0
  rw [hr0, obind_some]
  rcases hs0 with hs0 | ⟨hp0, hq0⟩
  · rw [decide_eq_true hs0, cond_true]
  · rw [decide_eq_false (by omega), cond_false]
    have t0 : tot tFlow a0 ≤ 1048576 := by omega
    obtain ⟨y, hI, hS⟩ := core_ValidFlow a0 w0 t0
    have hI : i_ValidFlow (a0.1, a0.2.1, a0.2.2.1, a0.2.2.2.1, a0.2.2.2.2.1, a0.2.2.2.2.2.1, a0.2.2.2.2.2.2.1, a0.2.2.2.2.2.2.2.1, a0.2.2.2.2.2.2.2.2) = some y := hI
    have hS : s_ValidFlow (a0.1, a0.2.1, a0.2.2.1, a0.2.2.2.1, a0.2.2.2.2.1, a0.2.2.2.2.2.1, a0.2.2.2.2.2.2.1, a0.2.2.2.2.2.2.2.1, a0.2.2.2.2.2.2.2.2) = some y := hS
    have sm0 : Sm tFlow a0 := sm_of_tot t0
    have to0 : l_toFlow (a0.1, a0.2.1, a0.2.2.1, a0.2.2.2.1, a0.2.2.2.2.1, a0.2.2.2.2.2.1, a0.2.2.2.2.2.2.1, a0.2.2.2.2.2.2.2.1, a0.2.2.2.2.2.2.2.2) = some (a0.1, a0.2.1, a0.2.2.1, a0.2.2.2.1, a0.2.2.2.2.2.2.1, a0.2.2.2.2.2.2.2.1, a0.2.2.2.2.1, a0.2.2.2.2.2.1, a0.2.2.2.2.2.2.2.2) := to_Flow sm0
    have e0 : l_eqFlow (a0.1, a0.2.1, a0.2.2.1, a0.2.2.2.1, a0.2.2.2.2.1, a0.2.2.2.2.2.1, a0.2.2.2.2.2.2.1, a0.2.2.2.2.2.2.2.1, a0.2.2.2.2.2.2.2.2) (a0.1, a0.2.1, a0.2.2.1, a0.2.2.2.1, a0.2.2.2.2.1, a0.2.2.2.2.2.1, a0.2.2.2.2.2.2.1, a0.2.2.2.2.2.2.2.1, a0.2.2.2.2.2.2.2.2) = some true := eq_Flow (x := a0) (sm0.mono (by decide))
    simp only [hI, hS, obind_some, both_self, Bool.not_true, Bool.not_false, cond_false, cond_true, bne_self_eq_false, beq_self_eq_true, to0, e0]
end Go.Proofs.Ytmodgmbmbainmaa.fnExactValidFlow
