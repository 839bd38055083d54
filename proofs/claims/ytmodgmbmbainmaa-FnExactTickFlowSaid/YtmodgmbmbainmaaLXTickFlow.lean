/-
  The plain part of: Law FnExactTickFlow: for every flow TickFlow answers as the reference does, leaves the flow as it was, and answers in memory of its own. Conditions: none.
-/
import Derived.Test.YtmodgmbmbainmaaQ0XTickFlow
set_option linter.unusedVariables false
set_option linter.unusedSimpArgs false
set_option maxRecDepth 100000
namespace Go.Proofs.Ytmodgmbmbainmaa.fnExactTickFlow
open Go.Ab Go.V
theorem core_TickFlow (a0 : den tFlow) (w0 : Wf tFlow a0) (t0 : tot tFlow a0 ≤ 1048576) : ∃ y, i_TickFlow a0 = some y ∧ s_TickFlow a0 = some y ∧ tot (.sl tMessage) y.2.2.2.2.2.2.2.2.2.2.2.2.2.2.2.1 ≤ 68719476736 ∧ tot (.sl tPath) y.2.2.2.2.2.2.2.2.2.2.2.2.2.2.2.2.1 ≤ 68719476736 ∧ tot (.sl tRevocation) y.2.2.2.2.2.2.2.2.2.2.2.2.2.2.2.2.2.1 ≤ 68719476736 ∧ tot tPath y.2.2.2.2.2.2.2.2.2.2.2.2.2.2.2.2.2.2.1 ≤ 68719476736 ∧ tot (.sl tb) y.2.2.2.2.2.2.2.2.2.2.2.2.2.2.2.2.2.2.2 ≤ 68719476736 := by
  have h1 : tot tFlow (tickF a0).1 ≤ 68719476736 := by rw [(tickF_tot a0).1]; exact Nat.le_trans t0 (by decide)
  have h2 : tot tPacket (tickF a0).2.1 ≤ 68719476736 := Nat.le_trans (tickF_tot a0).2 (Nat.le_trans t0 (by decide))
  exact ⟨_, i_tickF (Nat.le_trans t0 (by decide)), s_tickF (Nat.le_trans t0 (by decide)), (flow_parts h1).1, (flow_parts h1).2.1, (flow_parts h1).2.2, (pk_path h2).1, (pk_path h2).2⟩
theorem law (a0 : den tFlow) (w0 : Wf tFlow a0) : l_FnExactTickFlow a0 = some true := by
  unfold l_FnExactTickFlow
  obtain ⟨r0, hr0, hs0⟩ := sz_Flow (left := (1048576 : Int)) w0 (by decide) (by decide)
  have hr0 : l_szFlow (a0.1, a0.2.1, a0.2.2.1, a0.2.2.2.1, a0.2.2.2.2.1, a0.2.2.2.2.2.1, a0.2.2.2.2.2.2.1, a0.2.2.2.2.2.2.2.1, a0.2.2.2.2.2.2.2.2) (1048576 : Int) = some r0 := hr0
  rw [hr0, obind_some]
  rcases hs0 with hs0 | ⟨hp0, hq0⟩
  · rw [decide_eq_true hs0, cond_true]
  · rw [decide_eq_false (by omega), cond_false]
    have t0 : tot tFlow a0 ≤ 1048576 := by omega
    obtain ⟨y, hI, hS, u0, u1, u2, u3, u4⟩ := core_TickFlow a0 w0 t0
    have hI : i_TickFlow (a0.1, a0.2.1, a0.2.2.1, a0.2.2.2.1, a0.2.2.2.2.1, a0.2.2.2.2.2.1, a0.2.2.2.2.2.2.1, a0.2.2.2.2.2.2.2.1, a0.2.2.2.2.2.2.2.2) = some y := hI
    have hS : s_TickFlow (a0.1, a0.2.1, a0.2.2.1, a0.2.2.2.1, a0.2.2.2.2.1, a0.2.2.2.2.2.1, a0.2.2.2.2.2.2.1, a0.2.2.2.2.2.2.2.1, a0.2.2.2.2.2.2.2.2) = some y := hS
    have sm0 : Sm tFlow a0 := sm_of_tot t0
    have to0 : l_toFlow (a0.1, a0.2.1, a0.2.2.1, a0.2.2.2.1, a0.2.2.2.2.1, a0.2.2.2.2.2.1, a0.2.2.2.2.2.2.1, a0.2.2.2.2.2.2.2.1, a0.2.2.2.2.2.2.2.2) = some (a0.1, a0.2.1, a0.2.2.1, a0.2.2.2.1, a0.2.2.2.2.2.2.1, a0.2.2.2.2.2.2.2.1, a0.2.2.2.2.1, a0.2.2.2.2.2.1, a0.2.2.2.2.2.2.2.2) := to_Flow sm0
    have e0 : l_eqFlow (a0.1, a0.2.1, a0.2.2.1, a0.2.2.2.1, a0.2.2.2.2.1, a0.2.2.2.2.2.1, a0.2.2.2.2.2.2.1, a0.2.2.2.2.2.2.2.1, a0.2.2.2.2.2.2.2.2) (a0.1, a0.2.1, a0.2.2.1, a0.2.2.2.1, a0.2.2.2.2.1, a0.2.2.2.2.2.1, a0.2.2.2.2.2.2.1, a0.2.2.2.2.2.2.2.1, a0.2.2.2.2.2.2.2.2) = some true := eq_Flow (x := a0) (sm0.mono (by decide))
    have ba0_0 : ((lv (.sl tMessage) a0.2.2.2.2.1 : Nat) : Int) ≤ 1099511628777000 := lv_small (tot_l (tot_r (tot_r (tot_r (tot_r (Nat.le_trans t0 (by decide))))))) (by decide)
    have ba0_1 : ((lv (.sl tPath) a0.2.2.2.2.2.1 : Nat) : Int) ≤ 1099511628777000 := lv_small (tot_l (tot_r (tot_r (tot_r (tot_r (tot_r (Nat.le_trans t0 (by decide)))))))) (by decide)
    have ba0_2 : ((lv (.sl tRevocation) a0.2.2.2.2.2.2.2.2 : Nat) : Int) ≤ 1099511628777000 := lv_small (tot_r (tot_r (tot_r (tot_r (tot_r (tot_r (tot_r (tot_r (Nat.le_trans t0 (by decide)))))))))) (by decide)
    have m0 := mark_Flow (x := a0) (k := 1) (sm0.mono (by decide)) (by omega) (by omega)
    have m0 : l_markFlow (a0.1, a0.2.1, a0.2.2.1, a0.2.2.2.1, a0.2.2.2.2.1, a0.2.2.2.2.2.1, a0.2.2.2.2.2.2.1, a0.2.2.2.2.2.2.2.1, a0.2.2.2.2.2.2.2.2) (1) = some _ := m0
    have d : decide (1 + ((lv (.sl tMessage) a0.2.2.2.2.1 : Nat) : Int) + ((lv (.sl tPath) a0.2.2.2.2.2.1 : Nat) : Int) + ((lv (.sl tRevocation) a0.2.2.2.2.2.2.2.2 : Nat) : Int) < 0) = false := by simp <;> omega
    have tr0 : tot tFlow (y.1, y.2.1, y.2.2.1, y.2.2.2.1, y.2.2.2.2.2.2.2.2.2.2.2.2.2.2.2.1, y.2.2.2.2.2.2.2.2.2.2.2.2.2.2.2.2.1, y.2.2.2.2.1, y.2.2.2.2.2.1, y.2.2.2.2.2.2.2.2.2.2.2.2.2.2.2.2.2.1) ≤ 1099511627776 := by
      have h := Nat.le_refl 0
      simp only [tot_pair, tot_int, tot_bool, tot_str]
      omega
    have sr0 : SmB 4611686018427387904 tFlow (y.1, y.2.1, y.2.2.1, y.2.2.2.1, y.2.2.2.2.2.2.2.2.2.2.2.2.2.2.2.1, y.2.2.2.2.2.2.2.2.2.2.2.2.2.2.2.2.1, y.2.2.2.2.1, y.2.2.2.2.2.1, y.2.2.2.2.2.2.2.2.2.2.2.2.2.2.2.2.2.1) := (sm_of_tot tr0).mono (by decide)
    have er0 : l_eqFlow (y.1, y.2.1, y.2.2.1, y.2.2.2.1, y.2.2.2.2.2.2.2.2.2.2.2.2.2.2.2.1, y.2.2.2.2.2.2.2.2.2.2.2.2.2.2.2.2.1, y.2.2.2.2.1, y.2.2.2.2.2.1, y.2.2.2.2.2.2.2.2.2.2.2.2.2.2.2.2.2.1) (y.1, y.2.1, y.2.2.1, y.2.2.2.1, y.2.2.2.2.2.2.2.2.2.2.2.2.2.2.2.1, y.2.2.2.2.2.2.2.2.2.2.2.2.2.2.2.2.1, y.2.2.2.2.1, y.2.2.2.2.2.1, y.2.2.2.2.2.2.2.2.2.2.2.2.2.2.2.2.2.1) = some true := eq_Flow sr0
    have br0_0 : ((lv (.sl tMessage) y.2.2.2.2.2.2.2.2.2.2.2.2.2.2.2.1 : Nat) : Int) ≤ 1099511628777000 := lv_small (tot_l (tot_r (tot_r (tot_r (tot_r tr0))))) (by decide)
    have br0_1 : ((lv (.sl tPath) y.2.2.2.2.2.2.2.2.2.2.2.2.2.2.2.2.1 : Nat) : Int) ≤ 1099511628777000 := lv_small (tot_l (tot_r (tot_r (tot_r (tot_r (tot_r tr0)))))) (by decide)
    have br0_2 : ((lv (.sl tRevocation) y.2.2.2.2.2.2.2.2.2.2.2.2.2.2.2.2.2.1 : Nat) : Int) ≤ 1099511628777000 := lv_small (tot_r (tot_r (tot_r (tot_r (tot_r (tot_r (tot_r (tot_r tr0)))))))) (by decide)
    have mr0 := mark_Flow (x := (y.1, y.2.1, y.2.2.1, y.2.2.2.1, y.2.2.2.2.2.2.2.2.2.2.2.2.2.2.2.1, y.2.2.2.2.2.2.2.2.2.2.2.2.2.2.2.2.1, y.2.2.2.2.1, y.2.2.2.2.2.1, y.2.2.2.2.2.2.2.2.2.2.2.2.2.2.2.2.2.1)) (k := 1) sr0 (by omega) (by simp only; omega)
    have hr0 := held_Flow (x := (y.1, y.2.1, y.2.2.1, y.2.2.2.1, y.2.2.2.2.2.2.2.2.2.2.2.2.2.2.2.1, y.2.2.2.2.2.2.2.2.2.2.2.2.2.2.2.2.1, y.2.2.2.2.1, y.2.2.2.2.2.1, y.2.2.2.2.2.2.2.2.2.2.2.2.2.2.2.2.2.1)) (k := 1) sr0 (by omega) (by simp only; omega)
    have dr0 : decide (1 + ((lv (.sl tMessage) y.2.2.2.2.2.2.2.2.2.2.2.2.2.2.2.1 : Nat) : Int) + ((lv (.sl tPath) y.2.2.2.2.2.2.2.2.2.2.2.2.2.2.2.2.1 : Nat) : Int) + ((lv (.sl tRevocation) y.2.2.2.2.2.2.2.2.2.2.2.2.2.2.2.2.2.1 : Nat) : Int) < 0) = false := by simp <;> omega
    have tr1 : tot tPacket (y.2.2.2.2.2.2.1, y.2.2.2.2.2.2.2.1, y.2.2.2.2.2.2.2.2.1, y.2.2.2.2.2.2.2.2.2.2.2.2.2.2.2.2.2.2.1, y.2.2.2.2.2.2.2.2.2.1, y.2.2.2.2.2.2.2.2.2.2.1, y.2.2.2.2.2.2.2.2.2.2.2.1, y.2.2.2.2.2.2.2.2.2.2.2.2.1, y.2.2.2.2.2.2.2.2.2.2.2.2.2.1, y.2.2.2.2.2.2.2.2.2.2.2.2.2.2.2.2.2.2.2) ≤ 1099511627776 := by
      have h := Nat.le_refl 0
      simp only [tot_pair, tot_int, tot_bool, tot_str]
      omega
    have sr1 : SmB 4611686018427387904 tPacket (y.2.2.2.2.2.2.1, y.2.2.2.2.2.2.2.1, y.2.2.2.2.2.2.2.2.1, y.2.2.2.2.2.2.2.2.2.2.2.2.2.2.2.2.2.2.1, y.2.2.2.2.2.2.2.2.2.1, y.2.2.2.2.2.2.2.2.2.2.1, y.2.2.2.2.2.2.2.2.2.2.2.1, y.2.2.2.2.2.2.2.2.2.2.2.2.1, y.2.2.2.2.2.2.2.2.2.2.2.2.2.1, y.2.2.2.2.2.2.2.2.2.2.2.2.2.2.2.2.2.2.2) := (sm_of_tot tr1).mono (by decide)
    have er1 : l_eqPacket (y.2.2.2.2.2.2.1, y.2.2.2.2.2.2.2.1, y.2.2.2.2.2.2.2.2.1, y.2.2.2.2.2.2.2.2.2.2.2.2.2.2.2.2.2.2.1, y.2.2.2.2.2.2.2.2.2.1, y.2.2.2.2.2.2.2.2.2.2.1, y.2.2.2.2.2.2.2.2.2.2.2.1, y.2.2.2.2.2.2.2.2.2.2.2.2.1, y.2.2.2.2.2.2.2.2.2.2.2.2.2.1, y.2.2.2.2.2.2.2.2.2.2.2.2.2.2.2.2.2.2.2) (y.2.2.2.2.2.2.1, y.2.2.2.2.2.2.2.1, y.2.2.2.2.2.2.2.2.1, y.2.2.2.2.2.2.2.2.2.2.2.2.2.2.2.2.2.2.1, y.2.2.2.2.2.2.2.2.2.1, y.2.2.2.2.2.2.2.2.2.2.1, y.2.2.2.2.2.2.2.2.2.2.2.1, y.2.2.2.2.2.2.2.2.2.2.2.2.1, y.2.2.2.2.2.2.2.2.2.2.2.2.2.1, y.2.2.2.2.2.2.2.2.2.2.2.2.2.2.2.2.2.2.2) = some true := eq_Packet sr1
    have br1_0 : ((lv (.sl tPathPart) y.2.2.2.2.2.2.2.2.2.2.2.2.2.2.2.2.2.2.1 : Nat) : Int) ≤ 1099511628777000 := lv_small (tot_l (tot_r (tot_r (tot_r tr1)))) (by decide)
    have br1_1 : ((lv (.sl tb) y.2.2.2.2.2.2.2.2.2.2.2.2.2.2.2.2.2.2.2 : Nat) : Int) ≤ 1099511628777000 := lv_small (tot_r (tot_r (tot_r (tot_r (tot_r (tot_r (tot_r (tot_r (tot_r tr1))))))))) (by decide)
    have mr1 := mark_Packet (x := (y.2.2.2.2.2.2.1, y.2.2.2.2.2.2.2.1, y.2.2.2.2.2.2.2.2.1, y.2.2.2.2.2.2.2.2.2.2.2.2.2.2.2.2.2.2.1, y.2.2.2.2.2.2.2.2.2.1, y.2.2.2.2.2.2.2.2.2.2.1, y.2.2.2.2.2.2.2.2.2.2.2.1, y.2.2.2.2.2.2.2.2.2.2.2.2.1, y.2.2.2.2.2.2.2.2.2.2.2.2.2.1, y.2.2.2.2.2.2.2.2.2.2.2.2.2.2.2.2.2.2.2)) (k := 1 + ((lv (.sl tMessage) y.2.2.2.2.2.2.2.2.2.2.2.2.2.2.2.1 : Nat) : Int) + ((lv (.sl tPath) y.2.2.2.2.2.2.2.2.2.2.2.2.2.2.2.2.1 : Nat) : Int) + ((lv (.sl tRevocation) y.2.2.2.2.2.2.2.2.2.2.2.2.2.2.2.2.2.1 : Nat) : Int)) sr1 (by omega) (by simp only; omega)
    have hr1 := held_Packet (x := (y.2.2.2.2.2.2.1, y.2.2.2.2.2.2.2.1, y.2.2.2.2.2.2.2.2.1, y.2.2.2.2.2.2.2.2.2.2.2.2.2.2.2.2.2.2.1, y.2.2.2.2.2.2.2.2.2.1, y.2.2.2.2.2.2.2.2.2.2.1, y.2.2.2.2.2.2.2.2.2.2.2.1, y.2.2.2.2.2.2.2.2.2.2.2.2.1, y.2.2.2.2.2.2.2.2.2.2.2.2.2.1, y.2.2.2.2.2.2.2.2.2.2.2.2.2.2.2.2.2.2.2)) (k := 1 + ((lv (.sl tMessage) y.2.2.2.2.2.2.2.2.2.2.2.2.2.2.2.1 : Nat) : Int) + ((lv (.sl tPath) y.2.2.2.2.2.2.2.2.2.2.2.2.2.2.2.2.1 : Nat) : Int) + ((lv (.sl tRevocation) y.2.2.2.2.2.2.2.2.2.2.2.2.2.2.2.2.2.1 : Nat) : Int)) sr1 (by omega) (by simp only; omega)
    have dr1 : decide (1 + ((lv (.sl tMessage) y.2.2.2.2.2.2.2.2.2.2.2.2.2.2.2.1 : Nat) : Int) + ((lv (.sl tPath) y.2.2.2.2.2.2.2.2.2.2.2.2.2.2.2.2.1 : Nat) : Int) + ((lv (.sl tRevocation) y.2.2.2.2.2.2.2.2.2.2.2.2.2.2.2.2.2.1 : Nat) : Int) + ((lv (.sl tPathPart) y.2.2.2.2.2.2.2.2.2.2.2.2.2.2.2.2.2.2.1 : Nat) : Int) + ((lv (.sl tb) y.2.2.2.2.2.2.2.2.2.2.2.2.2.2.2.2.2.2.2 : Nat) : Int) < 0) = false := by simp <;> omega
    simp only [hI, hS, obind_some, both_self, Bool.not_true, Bool.not_false, cond_false, cond_true, bne_self_eq_false, beq_self_eq_true, to0, e0, m0, d, er0, mr0, hr0, dr0, er1, mr1, hr1, dr1]
end Go.Proofs.Ytmodgmbmbainmaa.fnExactTickFlow
