/-
  The plain part of: Law FnExactAllDelivered: for every network AllDelivered answers as the reference does, and leaves it as it was. Conditions: none.
-/
import Derived.Test.YtejfajiolkojlaaGreatQ0XAllDelivered
set_option linter.unusedVariables false
set_option linter.unusedSimpArgs false
set_option maxRecDepth 100000
namespace Go.Proofs.YtejfajiolkojlaaGreat.fnExactAllDelivered
open Go.Ab Go.V
theorem core_AllDelivered (a0 : den tNetwork) (w0 : Wf tNetwork a0) (t0 : tot tNetwork a0 ≤ 1048576) : ∃ y, i_AllDelivered a0 = some y ∧ s_AllDelivered a0 = some y := ⟨_, i_doneW (Nat.le_trans t0 (by decide)), s_doneW (Nat.le_trans t0 (by decide))⟩
theorem law (a0 : den tNetwork) (w0 : Wf tNetwork a0) : l_FnExactAllDelivered a0 = some true := by
  unfold l_FnExactAllDelivered
  obtain ⟨r0, hr0, hs0⟩ := sz_Network (left := (1048576 : Int)) w0 (by decide) (by decide)
  have hr0 : l_szNetwork ((a0.1.1, a0.1.2), (a0.2.1.1, a0.2.1.2), (a0.2.2.1.1, a0.2.2.1.2.1, a0.2.2.1.2.2), a0.2.2.2.1, a0.2.2.2.2.1, a0.2.2.2.2.2.1, a0.2.2.2.2.2.2.1, a0.2.2.2.2.2.2.2.1, a0.2.2.2.2.2.2.2.2) (1048576 : Int) = some r0 := hr0
  rw [hr0, obind_some]
  rcases hs0 with hs0 | ⟨hp0, hq0⟩
  · rw [decide_eq_true hs0, cond_true]
  · rw [decide_eq_false (by omega), cond_false]
    have t0 : tot tNetwork a0 ≤ 1048576 := by omega
    obtain ⟨y, hI, hS⟩ := core_AllDelivered a0 w0 t0
    have hI : i_AllDelivered ((a0.1.1, a0.1.2), (a0.2.1.1, a0.2.1.2), (a0.2.2.1.1, a0.2.2.1.2.1, a0.2.2.1.2.2), a0.2.2.2.1, a0.2.2.2.2.1, a0.2.2.2.2.2.1, a0.2.2.2.2.2.2.1, a0.2.2.2.2.2.2.2.1, a0.2.2.2.2.2.2.2.2) = some y := hI
    have hS : s_AllDelivered ((a0.1.1, a0.1.2), (a0.2.1.1, a0.2.1.2), (a0.2.2.1.1, a0.2.2.1.2.1, a0.2.2.1.2.2), a0.2.2.2.1, a0.2.2.2.2.1, a0.2.2.2.2.2.1, a0.2.2.2.2.2.2.1, a0.2.2.2.2.2.2.2.1, a0.2.2.2.2.2.2.2.2) = some y := hS
    have sm0 : Sm tNetwork a0 := sm_of_tot t0
    have to0 : l_toNetwork ((a0.1.1, a0.1.2), (a0.2.1.1, a0.2.1.2), (a0.2.2.1.1, a0.2.2.1.2.1, a0.2.2.1.2.2), a0.2.2.2.1, a0.2.2.2.2.1, a0.2.2.2.2.2.1, a0.2.2.2.2.2.2.1, a0.2.2.2.2.2.2.2.1, a0.2.2.2.2.2.2.2.2) = some (a0.2.2.1.1, a0.2.2.2.1, a0.2.2.2.2.2.2.2.2, a0.1.1, a0.1.2, a0.2.1.1, a0.2.1.2, a0.2.2.1.2.1, a0.2.2.1.2.2, a0.2.2.2.2.1, a0.2.2.2.2.2.1, a0.2.2.2.2.2.2.1, a0.2.2.2.2.2.2.2.1) := to_Network sm0
    have e0 : l_eqNetwork ((a0.1.1, a0.1.2), (a0.2.1.1, a0.2.1.2), (a0.2.2.1.1, a0.2.2.1.2.1, a0.2.2.1.2.2), a0.2.2.2.1, a0.2.2.2.2.1, a0.2.2.2.2.2.1, a0.2.2.2.2.2.2.1, a0.2.2.2.2.2.2.2.1, a0.2.2.2.2.2.2.2.2) ((a0.1.1, a0.1.2), (a0.2.1.1, a0.2.1.2), (a0.2.2.1.1, a0.2.2.1.2.1, a0.2.2.1.2.2), a0.2.2.2.1, a0.2.2.2.2.1, a0.2.2.2.2.2.1, a0.2.2.2.2.2.2.1, a0.2.2.2.2.2.2.2.1, a0.2.2.2.2.2.2.2.2) = some true := eq_Network (x := a0) (sm0.mono (by decide))
    simp only [hI, hS, obind_some, both_self, Bool.not_true, Bool.not_false, cond_false, cond_true, bne_self_eq_false, beq_self_eq_true, to0, e0]
end Go.Proofs.YtejfajiolkojlaaGreat.fnExactAllDelivered
