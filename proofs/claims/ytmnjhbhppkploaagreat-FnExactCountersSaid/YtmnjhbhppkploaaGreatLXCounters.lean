/-
  The plain part of: Law FnExactCounters: for every network Counters answers as the reference does, leaves the network as it was, and answers in memory of its own. Conditions: none.
-/
import Derived.Test.YtmnjhbhppkploaaGreatQ0XCounters
set_option linter.unusedVariables false
set_option linter.unusedSimpArgs false
set_option maxRecDepth 100000
namespace Go.Proofs.YtmnjhbhppkploaaGreat.fnExactCounters
open Go.Ab Go.V
theorem core_Counters (a0 : den tNetwork) (w0 : Wf tNetwork a0) (t0 : tot tNetwork a0 ≤ 1048576) : ∃ y, i_Counters a0 = some y ∧ s_Counters a0 = some y ∧ tot (.sl ti) y ≤ 68719476736 := ⟨_, i_cnt t0, s_cnt t0, cnt_tot t0⟩
theorem law (a0 : den tNetwork) (w0 : Wf tNetwork a0) : l_FnExactCounters a0 = some true := by
  unfold l_FnExactCounters
  obtain ⟨r0, hr0, hs0⟩ := sz_Network (left := (1048576 : Int)) w0 (by decide) (by decide)
  have hr0 : l_szNetwork ((a0.1.1, a0.1.2), (a0.2.1.1, a0.2.1.2), (a0.2.2.1.1, a0.2.2.1.2.1, a0.2.2.1.2.2), a0.2.2.2.1, a0.2.2.2.2.1, a0.2.2.2.2.2.1, a0.2.2.2.2.2.2.1, a0.2.2.2.2.2.2.2.1, a0.2.2.2.2.2.2.2.2) (1048576 : Int) = some r0 := hr0
  rw [hr0, obind_some]
  rcases hs0 with hs0 | ⟨hp0, hq0⟩
  · rw [decide_eq_true hs0, cond_true]
  · rw [decide_eq_false (by omega), cond_false]
    have t0 : tot tNetwork a0 ≤ 1048576 := by omega
    obtain ⟨y, hI, hS, u0⟩ := core_Counters a0 w0 t0
    have hI : i_Counters ((a0.1.1, a0.1.2), (a0.2.1.1, a0.2.1.2), (a0.2.2.1.1, a0.2.2.1.2.1, a0.2.2.1.2.2), a0.2.2.2.1, a0.2.2.2.2.1, a0.2.2.2.2.2.1, a0.2.2.2.2.2.2.1, a0.2.2.2.2.2.2.2.1, a0.2.2.2.2.2.2.2.2) = some y := hI
    have hS : s_Counters ((a0.1.1, a0.1.2), (a0.2.1.1, a0.2.1.2), (a0.2.2.1.1, a0.2.2.1.2.1, a0.2.2.1.2.2), a0.2.2.2.1, a0.2.2.2.2.1, a0.2.2.2.2.2.1, a0.2.2.2.2.2.2.1, a0.2.2.2.2.2.2.2.1, a0.2.2.2.2.2.2.2.2) = some y := hS
    have sm0 : Sm tNetwork a0 := sm_of_tot t0
    have to0 : l_toNetwork ((a0.1.1, a0.1.2), (a0.2.1.1, a0.2.1.2), (a0.2.2.1.1, a0.2.2.1.2.1, a0.2.2.1.2.2), a0.2.2.2.1, a0.2.2.2.2.1, a0.2.2.2.2.2.1, a0.2.2.2.2.2.2.1, a0.2.2.2.2.2.2.2.1, a0.2.2.2.2.2.2.2.2) = some (a0.2.2.1.1, a0.2.2.2.1, a0.2.2.2.2.2.2.2.2, a0.1.1, a0.1.2, a0.2.1.1, a0.2.1.2, a0.2.2.1.2.1, a0.2.2.1.2.2, a0.2.2.2.2.1, a0.2.2.2.2.2.1, a0.2.2.2.2.2.2.1, a0.2.2.2.2.2.2.2.1) := to_Network sm0
    have e0 : l_eqNetwork ((a0.1.1, a0.1.2), (a0.2.1.1, a0.2.1.2), (a0.2.2.1.1, a0.2.2.1.2.1, a0.2.2.1.2.2), a0.2.2.2.1, a0.2.2.2.2.1, a0.2.2.2.2.2.1, a0.2.2.2.2.2.2.1, a0.2.2.2.2.2.2.2.1, a0.2.2.2.2.2.2.2.2) ((a0.1.1, a0.1.2), (a0.2.1.1, a0.2.1.2), (a0.2.2.1.1, a0.2.2.1.2.1, a0.2.2.1.2.2), a0.2.2.2.1, a0.2.2.2.2.1, a0.2.2.2.2.2.1, a0.2.2.2.2.2.2.1, a0.2.2.2.2.2.2.2.1, a0.2.2.2.2.2.2.2.2) = some true := eq_Network (x := a0) (sm0.mono (by decide))
    have ba0_0 : ((lv (.sl tAS) a0.1.1 : Nat) : Int) ≤ 1099511628777000 := lv_small (tot_l (tot_l (Nat.le_trans t0 (by decide)))) (by decide)
    have ba0_1 : ((lv (.sl tLink) a0.1.2 : Nat) : Int) ≤ 1099511628777000 := lv_small (tot_r (tot_l (Nat.le_trans t0 (by decide)))) (by decide)
    have ba0_2 : ((lv (.sl tSegment) a0.2.1.1 : Nat) : Int) ≤ 1099511628777000 := lv_small (tot_l (tot_l (tot_r (Nat.le_trans t0 (by decide))))) (by decide)
    have ba0_3 : ((lv (.sl tSegment) a0.2.1.2 : Nat) : Int) ≤ 1099511628777000 := lv_small (tot_r (tot_l (tot_r (Nat.le_trans t0 (by decide))))) (by decide)
    have ba0_4 : ((lv (.sl tReservation) a0.2.2.1.2.1 : Nat) : Int) ≤ 1099511628777000 := lv_small (tot_l (tot_r (tot_l (tot_r (tot_r (Nat.le_trans t0 (by decide))))))) (by decide)
    have ba0_5 : ((lv (.sl tUsage) a0.2.2.1.2.2 : Nat) : Int) ≤ 1099511628777000 := lv_small (tot_r (tot_r (tot_l (tot_r (tot_r (Nat.le_trans t0 (by decide))))))) (by decide)
    have ba0_6 : ((lv (.sl ti) a0.2.2.2.2.1 : Nat) : Int) ≤ 1099511628777000 := lv_small (tot_l (tot_r (tot_r (tot_r (tot_r (Nat.le_trans t0 (by decide))))))) (by decide)
    have ba0_7 : ((lv (.sl tPacketInFlight) a0.2.2.2.2.2.1 : Nat) : Int) ≤ 1099511628777000 := lv_small (tot_l (tot_r (tot_r (tot_r (tot_r (tot_r (Nat.le_trans t0 (by decide)))))))) (by decide)
    have ba0_8 : ((lv (.sl tFlow) a0.2.2.2.2.2.2.1 : Nat) : Int) ≤ 1099511628777000 := lv_small (tot_l (tot_r (tot_r (tot_r (tot_r (tot_r (tot_r (Nat.le_trans t0 (by decide))))))))) (by decide)
    have ba0_9 : ((lv (.sl tInbox) a0.2.2.2.2.2.2.2.1 : Nat) : Int) ≤ 1099511628777000 := lv_small (tot_l (tot_r (tot_r (tot_r (tot_r (tot_r (tot_r (tot_r (Nat.le_trans t0 (by decide)))))))))) (by decide)
    have m0 := mark_Network (x := a0) (k := 1) (sm0.mono (by decide)) (by omega) (by omega)
    have m0 : l_markNetwork ((a0.1.1, a0.1.2), (a0.2.1.1, a0.2.1.2), (a0.2.2.1.1, a0.2.2.1.2.1, a0.2.2.1.2.2), a0.2.2.2.1, a0.2.2.2.2.1, a0.2.2.2.2.2.1, a0.2.2.2.2.2.2.1, a0.2.2.2.2.2.2.2.1, a0.2.2.2.2.2.2.2.2) (1) = some _ := m0
    have d : decide (1 + ((lv (.sl tAS) a0.1.1 : Nat) : Int) + ((lv (.sl tLink) a0.1.2 : Nat) : Int) + ((lv (.sl tSegment) a0.2.1.1 : Nat) : Int) + ((lv (.sl tSegment) a0.2.1.2 : Nat) : Int) + ((lv (.sl tReservation) a0.2.2.1.2.1 : Nat) : Int) + ((lv (.sl tUsage) a0.2.2.1.2.2 : Nat) : Int) + ((lv (.sl ti) a0.2.2.2.2.1 : Nat) : Int) + ((lv (.sl tPacketInFlight) a0.2.2.2.2.2.1 : Nat) : Int) + ((lv (.sl tFlow) a0.2.2.2.2.2.2.1 : Nat) : Int) + ((lv (.sl tInbox) a0.2.2.2.2.2.2.2.1 : Nat) : Int) < 0) = false := by simp <;> omega
    have tr0 : tot (.sl ti) y ≤ 1099511627776 := by omega
    have sr0 : SmB 4611686018427387904 (.sl ti) y := (sm_of_tot tr0).mono (by decide)
    have er0 : l_eqIntS y y = some true := eq_IntS sr0
    have br0_0 : ((lv (.sl ti) y : Nat) : Int) ≤ 1099511628777000 := lv_small tr0 (by decide)
    have mr0 := mark_IntS (l := y) (k := 1) sr0 (by omega) (by first | omega | (simp only; omega))
    have hr0 := held_IntS (l := y) (k := 1) sr0 (by omega) (by first | omega | (simp only; omega))
    have dr0 : decide (1 + ((lv (.sl ti) y : Nat) : Int) < 0) = false := by simp <;> omega
    simp only [hI, hS, obind_some, both_self, Bool.not_true, Bool.not_false, cond_false, cond_true, bne_self_eq_false, beq_self_eq_true, to0, e0, m0, d, er0, mr0, hr0, dr0]
end Go.Proofs.YtmnjhbhppkploaaGreat.fnExactCounters
