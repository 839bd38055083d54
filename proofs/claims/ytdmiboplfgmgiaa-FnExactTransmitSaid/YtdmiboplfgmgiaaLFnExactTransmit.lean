/-
  The plain part of: Law FnExactTransmit: for every scheduler and numbers Transmit answers as the reference does, leaves the scheduler as it was, and answers in memory of its own. Conditions: none.
-/
import Derived.Test.YtdmiboplfgmgiaaGd
import Derived.Test.YtdmiboplfgmgiaaPf
import Derived.Test.YtdmiboplfgmgiaaQ2
set_option linter.unusedVariables false
set_option linter.unusedSimpArgs false
namespace Go.Proofs.Ytdmiboplfgmgiaa.fnExactTransmit
open Go.Ab Go.V
theorem core_Transmit (a0 : den tScheduler) (a1 a2 a3 a4 : Int) (w0 : Wf tScheduler a0) (w1 : Wf ti a1) (w2 : Wf ti a2) (w3 : Wf ti a3) (w4 : Wf ti a4) (t0 : tot tScheduler a0 ≤ 1048576) : ∃ y, i_Transmit a0 a1 a2 a3 a4 = some y ∧ s_Transmit a0 a1 a2 a3 a4 = some y ∧ tot (.sl tReservation) y.2.2.1 ≤ 68719476736 ∧ tot (.sl tUsage) y.2.2.2 ≤ 68719476736 := by
  have sm : Sm tScheduler a0 := sm_of_tot t0
  exact ⟨_, i_trans sm.2.1.1 sm.2.2.1, s_trans sm.2.1.1 sm.2.2.1, trans_tot sm.2.1.1 sm.2.2.1⟩
theorem law (a0 : den tScheduler) (a1 : den ti) (a2 : den ti) (a3 : den ti) (a4 : den ti) (w0 : Wf tScheduler a0) (w1 : Wf ti a1) (w2 : Wf ti a2) (w3 : Wf ti a3) (w4 : Wf ti a4) : l_FnExactTransmit a0 a1 a2 a3 a4 = some true := by
  unfold l_FnExactTransmit
  obtain ⟨r0, hr0, hs0⟩ := sz_Scheduler (left := (1048576 : Int)) w0 (by decide) (by decide)
  have hr0 : l_szScheduler (a0.1, a0.2.1, a0.2.2) (1048576 : Int) = some r0 := hr0
  rw [hr0, obind_some]
  rcases hs0 with hs0 | ⟨hp0, hq0⟩
  · rw [decide_eq_true hs0, cond_true]
  · rw [decide_eq_false (by omega), cond_false]
    have t0 : tot tScheduler a0 ≤ 1048576 := by omega
    obtain ⟨y, hI, hS, u0, u1⟩ := core_Transmit a0 a1 a2 a3 a4 w0 w1 w2 w3 w4 t0
    have hI : i_Transmit (a0.1, a0.2.1, a0.2.2) a1 a2 a3 a4 = some y := hI
    have hS : s_Transmit (a0.1, a0.2.1, a0.2.2) a1 a2 a3 a4 = some y := hS
    have sm0 : Sm tScheduler a0 := sm_of_tot t0
    have to0 : l_toScheduler (a0.1, a0.2.1, a0.2.2) = some a0 := to_Scheduler sm0
    have e0 : l_eqScheduler (a0.1, a0.2.1, a0.2.2) (a0.1, a0.2.1, a0.2.2) = some true := eq_Scheduler (x := a0) (sm0.mono (by decide))
    have ba0_0 : ((lv (.sl tReservation) a0.2.1 : Nat) : Int) ≤ 1099511628777000 := lv_small (tot_l (tot_r (Nat.le_trans t0 (by decide)))) (by decide)
    have ba0_1 : ((lv (.sl tUsage) a0.2.2 : Nat) : Int) ≤ 1099511628777000 := lv_small (tot_r (tot_r (Nat.le_trans t0 (by decide)))) (by decide)
    have m0 := mark_Scheduler (x := a0) (k := 1) (sm0.mono (by decide)) (by omega) (by omega)
    have m0 : l_markScheduler (a0.1, a0.2.1, a0.2.2) (1) = some _ := m0
    have d : decide (1 + ((lv (.sl tReservation) a0.2.1 : Nat) : Int) + ((lv (.sl tUsage) a0.2.2 : Nat) : Int) < 0) = false := by simp <;> omega
    have tr0 : tot tScheduler (y.1, y.2.2.1, y.2.2.2) ≤ 1099511627776 := by
      have h := Nat.le_refl 0
      simp only [tot_pair, tot_int, tot_bool, tot_str]
      omega
    have sr0 : SmB 4611686018427387904 tScheduler (y.1, y.2.2.1, y.2.2.2) := (sm_of_tot tr0).mono (by decide)
    have er0 : l_eqScheduler (y.1, y.2.2.1, y.2.2.2) (y.1, y.2.2.1, y.2.2.2) = some true := eq_Scheduler sr0
    have br0_0 : ((lv (.sl tReservation) y.2.2.1 : Nat) : Int) ≤ 1099511628777000 := lv_small (tot_l (tot_r tr0)) (by decide)
    have br0_1 : ((lv (.sl tUsage) y.2.2.2 : Nat) : Int) ≤ 1099511628777000 := lv_small (tot_r (tot_r tr0)) (by decide)
    have mr0 := mark_Scheduler (x := (y.1, y.2.2.1, y.2.2.2)) (k := 1) sr0 (by omega) (by simp only; omega)
    have hr0 := held_Scheduler (x := (y.1, y.2.2.1, y.2.2.2)) (k := 1) sr0 (by omega) (by simp only; omega)
    have dr0 : decide (1 + ((lv (.sl tReservation) y.2.2.1 : Nat) : Int) + ((lv (.sl tUsage) y.2.2.2 : Nat) : Int) < 0) = false := by simp <;> omega
    simp only [hI, hS, obind_some, Bool.not_true, Bool.not_false, cond_false, cond_true, bne_self_eq_false, beq_self_eq_true, to0, e0, m0, d, er0, mr0, hr0, dr0]
end Go.Proofs.Ytdmiboplfgmgiaa.fnExactTransmit
