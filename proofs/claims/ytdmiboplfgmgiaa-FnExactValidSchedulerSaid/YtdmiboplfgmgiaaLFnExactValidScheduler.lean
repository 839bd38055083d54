/-
  The plain part of: Law FnExactValidScheduler: for every scheduler and time ValidScheduler answers as the reference does and leaves the scheduler as it was. Conditions: none.
-/
import Derived.Test.YtdmiboplfgmgiaaGd
import Derived.Test.YtdmiboplfgmgiaaPf
import Derived.Test.YtdmiboplfgmgiaaQ1
set_option linter.unusedVariables false
set_option linter.unusedSimpArgs false
namespace Go.Proofs.Ytdmiboplfgmgiaa.fnExactValidScheduler
open Go.Ab Go.V
theorem core_ValidScheduler (a0 : den tScheduler) (a1 : Int) (w0 : Wf tScheduler a0) (w1 : Wf ti a1) (t0 : tot tScheduler a0 ≤ 1048576) : ∃ y, i_ValidScheduler a0 a1 = some y ∧ s_ValidScheduler a0 a1 = some y := by
  have sm : Sm tScheduler a0 := sm_of_tot t0
  exact ⟨_, i_validS sm.2.1.1 sm.2.2.1, s_validS sm.2.1.1 sm.2.2.1⟩
theorem law (a0 : den tScheduler) (a1 : den ti) (w0 : Wf tScheduler a0) (w1 : Wf ti a1) : l_FnExactValidScheduler a0 a1 = some true := by
  unfold l_FnExactValidScheduler
  obtain ⟨r0, hr0, hs0⟩ := sz_Scheduler (left := (1048576 : Int)) w0 (by decide) (by decide)
  have hr0 : l_szScheduler (a0.1, a0.2.1, a0.2.2) (1048576 : Int) = some r0 := hr0
  rw [hr0, obind_some]
  rcases hs0 with hs0 | ⟨hp0, hq0⟩
  · rw [decide_eq_true hs0, cond_true]
  · rw [decide_eq_false (by omega), cond_false]
    have t0 : tot tScheduler a0 ≤ 1048576 := by omega
    obtain ⟨y, hI, hS⟩ := core_ValidScheduler a0 a1 w0 w1 t0
    have hI : i_ValidScheduler (a0.1, a0.2.1, a0.2.2) a1 = some y := hI
    have hS : s_ValidScheduler (a0.1, a0.2.1, a0.2.2) a1 = some y := hS
    have sm0 : Sm tScheduler a0 := sm_of_tot t0
    have to0 : l_toScheduler (a0.1, a0.2.1, a0.2.2) = some a0 := to_Scheduler sm0
    have e0 : l_eqScheduler (a0.1, a0.2.1, a0.2.2) (a0.1, a0.2.1, a0.2.2) = some true := eq_Scheduler (x := a0) (sm0.mono (by decide))
    simp only [hI, hS, obind_some, Bool.not_true, Bool.not_false, cond_false, cond_true, bne_self_eq_false, beq_self_eq_true, to0, e0]
end Go.Proofs.Ytdmiboplfgmgiaa.fnExactValidScheduler
