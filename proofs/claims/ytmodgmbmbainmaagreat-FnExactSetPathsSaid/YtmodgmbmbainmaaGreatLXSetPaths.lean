/-
  The plain part of: Law FnExactSetPaths: for every flow, paths and time SetPaths answers as the reference does, leaves them as they were, and answers in memory of its own. Conditions: none.
-/
import Derived.Test.YtmodgmbmbainmaaGreatQ0XSetPaths
set_option linter.unusedVariables false
set_option linter.unusedSimpArgs false
set_option maxRecDepth 100000
namespace Go.Proofs.YtmodgmbmbainmaaGreat.fnExactSetPaths
open Go.Ab Go.V
theorem core_SetPaths (a0 : den tFlow) (a1 : List (den tPath)) (a2 : Int) (w0 : Wf tFlow a0) (w1 : Wf (.sl tPath) a1) (w2 : Wf ti a2) (t0 : tot tFlow a0 ≤ 1048576) (t1 : tot (.sl tPath) a1 ≤ 1048576) : ∃ y, i_SetPaths a0 a1 a2 = some y ∧ s_SetPaths a0 a1 a2 = some (y.1, y.2.1, y.2.2.1, y.2.2.2.1, y.2.2.2.2.2.2.2.1, y.2.2.2.2.1, y.2.2.2.2.2.1, y.2.2.2.2.2.2.1, y.2.2.2.2.2.2.2.2) ∧ tot (.sl tMessage) y.2.2.2.2.2.2.1 ≤ 68719476736 ∧ tot (.sl tPath) y.2.2.2.2.2.2.2.1 ≤ 68719476736 ∧ tot (.sl tRevocation) y.2.2.2.2.2.2.2.2 ≤ 68719476736 := by
  have h : tot tFlow a0 ≤ 68719476736 := Nat.le_trans t0 (by decide)
  exact ⟨_, i_setP t0 t1, s_setP t0 t1, (flow_parts h).1, Nat.le_trans (newPs_tot a0 a1 a2) (Nat.le_trans t1 (by decide)), (flow_parts h).2.2⟩
theorem law (a0 : den tFlow) (a1 : den (.sl tPath)) (a2 : den ti) (w0 : Wf tFlow a0) (w1 : Wf (.sl tPath) a1) (w2 : Wf ti a2) : l_FnExactSetPaths a0 a1 a2 = some true := by
  unfold l_FnExactSetPaths
  obtain ⟨r0, hr0, hs0⟩ := sz_Flow (left := (1048576 : Int)) w0 (by decide) (by decide)
  have hr0 : l_szFlow (a0.1, a0.2.1, a0.2.2.1, a0.2.2.2.1, a0.2.2.2.2.1, a0.2.2.2.2.2.1, a0.2.2.2.2.2.2.1, a0.2.2.2.2.2.2.2.1, a0.2.2.2.2.2.2.2.2) (1048576 : Int) = some r0 := hr0
  rw [hr0, obind_some]
  rcases hs0 with hs0 | ⟨hp0, hq0⟩
  · rw [decide_eq_true hs0, cond_true]
  · rw [decide_eq_false (by omega), cond_false]
    have t0 : tot tFlow a0 ≤ 1048576 := by omega
    obtain ⟨r1, hr1, hs1⟩ := sz_PathS (left := r0) w1 (by omega) (by omega)
    have hr1 : l_szPathS a1 r0 = some r1 := hr1
    rw [hr1, obind_some]
    rcases hs1 with hs1 | ⟨hp1, hq1⟩
    · rw [decide_eq_true hs1, cond_true]
    · rw [decide_eq_false (by omega), cond_false]
      have t1 : tot (.sl tPath) a1 ≤ 1048576 := by omega
      obtain ⟨y, hI, hS, u0, u1, u2⟩ := core_SetPaths a0 a1 a2 w0 w1 w2 t0 t1
      have hI : i_SetPaths (a0.1, a0.2.1, a0.2.2.1, a0.2.2.2.1, a0.2.2.2.2.1, a0.2.2.2.2.2.1, a0.2.2.2.2.2.2.1, a0.2.2.2.2.2.2.2.1, a0.2.2.2.2.2.2.2.2) a1 a2 = some y := hI
      have hS : s_SetPaths (a0.1, a0.2.1, a0.2.2.1, a0.2.2.2.1, a0.2.2.2.2.1, a0.2.2.2.2.2.1, a0.2.2.2.2.2.2.1, a0.2.2.2.2.2.2.2.1, a0.2.2.2.2.2.2.2.2) a1 a2 = some (y.1, y.2.1, y.2.2.1, y.2.2.2.1, y.2.2.2.2.2.2.2.1, y.2.2.2.2.1, y.2.2.2.2.2.1, y.2.2.2.2.2.2.1, y.2.2.2.2.2.2.2.2) := hS
      have sm0 : Sm tFlow a0 := sm_of_tot t0
      have to0 : l_toFlow (a0.1, a0.2.1, a0.2.2.1, a0.2.2.2.1, a0.2.2.2.2.1, a0.2.2.2.2.2.1, a0.2.2.2.2.2.2.1, a0.2.2.2.2.2.2.2.1, a0.2.2.2.2.2.2.2.2) = some (a0.1, a0.2.1, a0.2.2.1, a0.2.2.2.1, a0.2.2.2.2.2.2.1, a0.2.2.2.2.2.2.2.1, a0.2.2.2.2.1, a0.2.2.2.2.2.1, a0.2.2.2.2.2.2.2.2) := to_Flow sm0
      have e0 : l_eqFlow (a0.1, a0.2.1, a0.2.2.1, a0.2.2.2.1, a0.2.2.2.2.1, a0.2.2.2.2.2.1, a0.2.2.2.2.2.2.1, a0.2.2.2.2.2.2.2.1, a0.2.2.2.2.2.2.2.2) (a0.1, a0.2.1, a0.2.2.1, a0.2.2.2.1, a0.2.2.2.2.1, a0.2.2.2.2.2.1, a0.2.2.2.2.2.2.1, a0.2.2.2.2.2.2.2.1, a0.2.2.2.2.2.2.2.2) = some true := eq_Flow (x := a0) (sm0.mono (by decide))
      have sm1 : Sm (.sl tPath) a1 := sm_of_tot t1
      have to1 : l_toPathS a1 = some a1 := to_PathS sm1
      have e1 : l_eqPathS a1 a1 = some true := eq_PathS (l := a1) (sm1.mono (by decide))
      have ba0_0 : ((lv (.sl tMessage) a0.2.2.2.2.1 : Nat) : Int) ≤ 1099511628777000 := lv_small (tot_l (tot_r (tot_r (tot_r (tot_r (Nat.le_trans t0 (by decide))))))) (by decide)
      have ba0_1 : ((lv (.sl tPath) a0.2.2.2.2.2.1 : Nat) : Int) ≤ 1099511628777000 := lv_small (tot_l (tot_r (tot_r (tot_r (tot_r (tot_r (Nat.le_trans t0 (by decide)))))))) (by decide)
      have ba0_2 : ((lv (.sl tRevocation) a0.2.2.2.2.2.2.2.2 : Nat) : Int) ≤ 1099511628777000 := lv_small (tot_r (tot_r (tot_r (tot_r (tot_r (tot_r (tot_r (tot_r (Nat.le_trans t0 (by decide)))))))))) (by decide)
      have m0 := mark_Flow (x := a0) (k := 1) (sm0.mono (by decide)) (by omega) (by omega)
      have m0 : l_markFlow (a0.1, a0.2.1, a0.2.2.1, a0.2.2.2.1, a0.2.2.2.2.1, a0.2.2.2.2.2.1, a0.2.2.2.2.2.2.1, a0.2.2.2.2.2.2.2.1, a0.2.2.2.2.2.2.2.2) (1) = some _ := m0
      have ba1_0 : ((lv (.sl tPath) a1 : Nat) : Int) ≤ 1099511628777000 := lv_small (Nat.le_trans t1 (by decide)) (by decide)
      have m1 := mark_PathS (l := a1) (k := 1 + ((lv (.sl tMessage) a0.2.2.2.2.1 : Nat) : Int) + ((lv (.sl tPath) a0.2.2.2.2.2.1 : Nat) : Int) + ((lv (.sl tRevocation) a0.2.2.2.2.2.2.2.2 : Nat) : Int)) (sm1.mono (by decide)) (by omega) (by omega)
      have m1 : l_markPathS a1 (1 + ((lv (.sl tMessage) a0.2.2.2.2.1 : Nat) : Int) + ((lv (.sl tPath) a0.2.2.2.2.2.1 : Nat) : Int) + ((lv (.sl tRevocation) a0.2.2.2.2.2.2.2.2 : Nat) : Int)) = some _ := m1
      have d : decide (1 + ((lv (.sl tMessage) a0.2.2.2.2.1 : Nat) : Int) + ((lv (.sl tPath) a0.2.2.2.2.2.1 : Nat) : Int) + ((lv (.sl tRevocation) a0.2.2.2.2.2.2.2.2 : Nat) : Int) + ((lv (.sl tPath) a1 : Nat) : Int) < 0) = false := by simp <;> omega
      have tr0 : tot tFlow (y.1, y.2.1, y.2.2.1, y.2.2.2.1, y.2.2.2.2.2.2.1, y.2.2.2.2.2.2.2.1, y.2.2.2.2.1, y.2.2.2.2.2.1, y.2.2.2.2.2.2.2.2) ≤ 1099511627776 := by
        have h := Nat.le_refl 0
        simp only [tot_pair, tot_int, tot_bool, tot_str]
        omega
      have sr0 : SmB 4611686018427387904 tFlow (y.1, y.2.1, y.2.2.1, y.2.2.2.1, y.2.2.2.2.2.2.1, y.2.2.2.2.2.2.2.1, y.2.2.2.2.1, y.2.2.2.2.2.1, y.2.2.2.2.2.2.2.2) := (sm_of_tot tr0).mono (by decide)
      have er0 : l_eqFlow (y.1, y.2.1, y.2.2.1, y.2.2.2.1, y.2.2.2.2.2.2.1, y.2.2.2.2.2.2.2.1, y.2.2.2.2.1, y.2.2.2.2.2.1, y.2.2.2.2.2.2.2.2) (y.1, y.2.1, y.2.2.1, y.2.2.2.1, y.2.2.2.2.2.2.1, y.2.2.2.2.2.2.2.1, y.2.2.2.2.1, y.2.2.2.2.2.1, y.2.2.2.2.2.2.2.2) = some true := eq_Flow sr0
      have br0_0 : ((lv (.sl tMessage) y.2.2.2.2.2.2.1 : Nat) : Int) ≤ 1099511628777000 := lv_small (tot_l (tot_r (tot_r (tot_r (tot_r tr0))))) (by decide)
      have br0_1 : ((lv (.sl tPath) y.2.2.2.2.2.2.2.1 : Nat) : Int) ≤ 1099511628777000 := lv_small (tot_l (tot_r (tot_r (tot_r (tot_r (tot_r tr0)))))) (by decide)
      have br0_2 : ((lv (.sl tRevocation) y.2.2.2.2.2.2.2.2 : Nat) : Int) ≤ 1099511628777000 := lv_small (tot_r (tot_r (tot_r (tot_r (tot_r (tot_r (tot_r (tot_r tr0)))))))) (by decide)
      have mr0 := mark_Flow (x := (y.1, y.2.1, y.2.2.1, y.2.2.2.1, y.2.2.2.2.2.2.1, y.2.2.2.2.2.2.2.1, y.2.2.2.2.1, y.2.2.2.2.2.1, y.2.2.2.2.2.2.2.2)) (k := 1) sr0 (by omega) (by first | omega | (simp only; omega))
      have hr0 := held_Flow (x := (y.1, y.2.1, y.2.2.1, y.2.2.2.1, y.2.2.2.2.2.2.1, y.2.2.2.2.2.2.2.1, y.2.2.2.2.1, y.2.2.2.2.2.1, y.2.2.2.2.2.2.2.2)) (k := 1) sr0 (by omega) (by first | omega | (simp only; omega))
      have dr0 : decide (1 + ((lv (.sl tMessage) y.2.2.2.2.2.2.1 : Nat) : Int) + ((lv (.sl tPath) y.2.2.2.2.2.2.2.1 : Nat) : Int) + ((lv (.sl tRevocation) y.2.2.2.2.2.2.2.2 : Nat) : Int) < 0) = false := by simp <;> omega
      simp only [hI, hS, obind_some, both_self, Bool.not_true, Bool.not_false, cond_false, cond_true, bne_self_eq_false, beq_self_eq_true, to0, e0, to1, e1, m0, m1, d, er0, mr0, hr0, dr0]
end Go.Proofs.YtmodgmbmbainmaaGreat.fnExactSetPaths
