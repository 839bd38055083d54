/-
  The plain part of: Law FnExactEnqueue: for every flow and every bytes Enqueue answers as the reference does, leaves them as they were, and answers in memory of its own. Conditions: none.
-/
import Derived.Test.YtmodgmbmbainmaaQ0XEnqueue
set_option linter.unusedVariables false
set_option linter.unusedSimpArgs false
set_option maxRecDepth 100000
namespace Go.Proofs.Ytmodgmbmbainmaa.fnExactEnqueue
open Go.Ab Go.V
theorem core_Enqueue (a0 : den tFlow) (a1 : List Int) (w0 : Wf tFlow a0) (w1 : Wf (.sl tb) a1) (t0 : tot tFlow a0 ≤ 1048576) (t1 : tot (.sl tb) a1 ≤ 1048576) : ∃ y, i_Enqueue a0 a1 = some y ∧ s_Enqueue a0 a1 = some y ∧ tot (.sl tMessage) y.2.2.2.2.2.2.2.1 ≤ 68719476736 ∧ tot (.sl tPath) y.2.2.2.2.2.2.2.2.1 ≤ 68719476736 ∧ tot (.sl tRevocation) y.2.2.2.2.2.2.2.2.2 ≤ 68719476736 := by
  have sm0 : SmB 4294967296 tFlow a0 := (sm_of_tot t0).mono (by decide)
  have sm1 : SmB 4294967296 (.sl tb) a1 := (sm_of_tot t1).mono (by decide)
  refine ⟨_, i_enq sm0 sm1, s_enq sm0 sm1, ?_⟩
  have h0 := tot_r (tot_r (tot_r (tot_r t0)))
  have h1 := tot_l h0
  have h2 := tot_l (tot_r h0)
  have h3 := tot_r (tot_r (tot_r (tot_r h0)))
  have h4 : tot (.sl tMessage) (a0.2.2.2.2.1 ++ [a1]) ≤ 68719476736 := by
    rw [tot_app, tot_one]
    show _ + (1 + tot (.sl tb) a1) ≤ _
    omega
  unfold enqR
  split
  · exact ⟨h4, by simp only; omega, by simp only; omega⟩
  · exact ⟨by simp only; omega, by simp only; omega, by simp only; omega⟩
theorem law (a0 : den tFlow) (a1 : den (.sl tb)) (w0 : Wf tFlow a0) (w1 : Wf (.sl tb) a1) : l_FnExactEnqueue a0 a1 = some true := by
  unfold l_FnExactEnqueue
  by_cases c1 : (a1.length : Int) > 1048576
  · rw [decide_eq_true c1, cond_true]
  · rw [decide_eq_false c1, cond_false]
    have t1 : tot (.sl tb) a1 ≤ 1048576 := by rw [tot_flatL rfl]; omega
    obtain ⟨r0, hr0, hs0⟩ := sz_Flow (left := (1048576 : Int)) w0 (by decide) (by decide)
    have hr0 : l_szFlow (a0.1, a0.2.1, a0.2.2.1, a0.2.2.2.1, a0.2.2.2.2.1, a0.2.2.2.2.2.1, a0.2.2.2.2.2.2.1, a0.2.2.2.2.2.2.2.1, a0.2.2.2.2.2.2.2.2) (1048576 : Int) = some r0 := hr0
    rw [hr0, obind_some]
    rcases hs0 with hs0 | ⟨hp0, hq0⟩
    · rw [decide_eq_true hs0, cond_true]
    · rw [decide_eq_false (by omega), cond_false]
      have t0 : tot tFlow a0 ≤ 1048576 := by omega
      obtain ⟨y, hI, hS, u0, u1, u2⟩ := core_Enqueue a0 a1 w0 w1 t0 t1
      have hI : i_Enqueue (a0.1, a0.2.1, a0.2.2.1, a0.2.2.2.1, a0.2.2.2.2.1, a0.2.2.2.2.2.1, a0.2.2.2.2.2.2.1, a0.2.2.2.2.2.2.2.1, a0.2.2.2.2.2.2.2.2) a1 = some y := hI
      have hS : s_Enqueue (a0.1, a0.2.1, a0.2.2.1, a0.2.2.2.1, a0.2.2.2.2.1, a0.2.2.2.2.2.1, a0.2.2.2.2.2.2.1, a0.2.2.2.2.2.2.2.1, a0.2.2.2.2.2.2.2.2) a1 = some y := hS
      have sm0 : Sm tFlow a0 := sm_of_tot t0
      have to0 : l_toFlow (a0.1, a0.2.1, a0.2.2.1, a0.2.2.2.1, a0.2.2.2.2.1, a0.2.2.2.2.2.1, a0.2.2.2.2.2.2.1, a0.2.2.2.2.2.2.2.1, a0.2.2.2.2.2.2.2.2) = some (a0.1, a0.2.1, a0.2.2.1, a0.2.2.2.1, a0.2.2.2.2.2.2.1, a0.2.2.2.2.2.2.2.1, a0.2.2.2.2.1, a0.2.2.2.2.2.1, a0.2.2.2.2.2.2.2.2) := to_Flow sm0
      have e0 : l_eqFlow (a0.1, a0.2.1, a0.2.2.1, a0.2.2.2.1, a0.2.2.2.2.1, a0.2.2.2.2.2.1, a0.2.2.2.2.2.2.1, a0.2.2.2.2.2.2.2.1, a0.2.2.2.2.2.2.2.2) (a0.1, a0.2.1, a0.2.2.1, a0.2.2.2.1, a0.2.2.2.2.1, a0.2.2.2.2.2.1, a0.2.2.2.2.2.2.1, a0.2.2.2.2.2.2.2.1, a0.2.2.2.2.2.2.2.2) = some true := eq_Flow (x := a0) (sm0.mono (by decide))
      have sm1 : Sm (.sl tb) a1 := sm_of_tot t1
      have to1 : l_toByteS a1 = some a1 := to_ByteS sm1
      have e1 : l_eqByteS a1 a1 = some true := eq_ByteS (l := a1) (sm1.mono (by decide))
      have ba0_0 : ((lv (.sl tMessage) a0.2.2.2.2.1 : Nat) : Int) ≤ 1099511628777000 := lv_small (tot_l (tot_r (tot_r (tot_r (tot_r (Nat.le_trans t0 (by decide))))))) (by decide)
      have ba0_1 : ((lv (.sl tPath) a0.2.2.2.2.2.1 : Nat) : Int) ≤ 1099511628777000 := lv_small (tot_l (tot_r (tot_r (tot_r (tot_r (tot_r (Nat.le_trans t0 (by decide)))))))) (by decide)
      have ba0_2 : ((lv (.sl tRevocation) a0.2.2.2.2.2.2.2.2 : Nat) : Int) ≤ 1099511628777000 := lv_small (tot_r (tot_r (tot_r (tot_r (tot_r (tot_r (tot_r (tot_r (Nat.le_trans t0 (by decide)))))))))) (by decide)
      have m0 := mark_Flow (x := a0) (k := 1) (sm0.mono (by decide)) (by omega) (by omega)
      have m0 : l_markFlow (a0.1, a0.2.1, a0.2.2.1, a0.2.2.2.1, a0.2.2.2.2.1, a0.2.2.2.2.2.1, a0.2.2.2.2.2.2.1, a0.2.2.2.2.2.2.2.1, a0.2.2.2.2.2.2.2.2) (1) = some _ := m0
      have ba1_0 : ((lv (.sl tb) a1 : Nat) : Int) ≤ 1099511628777000 := lv_small (Nat.le_trans t1 (by decide)) (by decide)
      have m1 := mark_ByteS (l := a1) (k := 1 + ((lv (.sl tMessage) a0.2.2.2.2.1 : Nat) : Int) + ((lv (.sl tPath) a0.2.2.2.2.2.1 : Nat) : Int) + ((lv (.sl tRevocation) a0.2.2.2.2.2.2.2.2 : Nat) : Int)) (sm1.mono (by decide)) (by omega) (by omega)
      have m1 : l_markByteS a1 (1 + ((lv (.sl tMessage) a0.2.2.2.2.1 : Nat) : Int) + ((lv (.sl tPath) a0.2.2.2.2.2.1 : Nat) : Int) + ((lv (.sl tRevocation) a0.2.2.2.2.2.2.2.2 : Nat) : Int)) = some _ := m1
      have d : decide (1 + ((lv (.sl tMessage) a0.2.2.2.2.1 : Nat) : Int) + ((lv (.sl tPath) a0.2.2.2.2.2.1 : Nat) : Int) + ((lv (.sl tRevocation) a0.2.2.2.2.2.2.2.2 : Nat) : Int) + ((lv (.sl tb) a1 : Nat) : Int) < 0) = false := by simp <;> omega
      have tr0 : tot tFlow (y.1, y.2.1, y.2.2.1, y.2.2.2.1, y.2.2.2.2.2.2.2.1, y.2.2.2.2.2.2.2.2.1, y.2.2.2.2.1, y.2.2.2.2.2.1, y.2.2.2.2.2.2.2.2.2) ≤ 1099511627776 := by
        have h := Nat.le_refl 0
        simp only [tot_pair, tot_int, tot_bool, tot_str]
        omega
      have sr0 : SmB 4611686018427387904 tFlow (y.1, y.2.1, y.2.2.1, y.2.2.2.1, y.2.2.2.2.2.2.2.1, y.2.2.2.2.2.2.2.2.1, y.2.2.2.2.1, y.2.2.2.2.2.1, y.2.2.2.2.2.2.2.2.2) := (sm_of_tot tr0).mono (by decide)
      have er0 : l_eqFlow (y.1, y.2.1, y.2.2.1, y.2.2.2.1, y.2.2.2.2.2.2.2.1, y.2.2.2.2.2.2.2.2.1, y.2.2.2.2.1, y.2.2.2.2.2.1, y.2.2.2.2.2.2.2.2.2) (y.1, y.2.1, y.2.2.1, y.2.2.2.1, y.2.2.2.2.2.2.2.1, y.2.2.2.2.2.2.2.2.1, y.2.2.2.2.1, y.2.2.2.2.2.1, y.2.2.2.2.2.2.2.2.2) = some true := eq_Flow sr0
      have br0_0 : ((lv (.sl tMessage) y.2.2.2.2.2.2.2.1 : Nat) : Int) ≤ 1099511628777000 := lv_small (tot_l (tot_r (tot_r (tot_r (tot_r tr0))))) (by decide)
      have br0_1 : ((lv (.sl tPath) y.2.2.2.2.2.2.2.2.1 : Nat) : Int) ≤ 1099511628777000 := lv_small (tot_l (tot_r (tot_r (tot_r (tot_r (tot_r tr0)))))) (by decide)
      have br0_2 : ((lv (.sl tRevocation) y.2.2.2.2.2.2.2.2.2 : Nat) : Int) ≤ 1099511628777000 := lv_small (tot_r (tot_r (tot_r (tot_r (tot_r (tot_r (tot_r (tot_r tr0)))))))) (by decide)
      have mr0 := mark_Flow (x := (y.1, y.2.1, y.2.2.1, y.2.2.2.1, y.2.2.2.2.2.2.2.1, y.2.2.2.2.2.2.2.2.1, y.2.2.2.2.1, y.2.2.2.2.2.1, y.2.2.2.2.2.2.2.2.2)) (k := 1) sr0 (by omega) (by simp only; omega)
      have hr0 := held_Flow (x := (y.1, y.2.1, y.2.2.1, y.2.2.2.1, y.2.2.2.2.2.2.2.1, y.2.2.2.2.2.2.2.2.1, y.2.2.2.2.1, y.2.2.2.2.2.1, y.2.2.2.2.2.2.2.2.2)) (k := 1) sr0 (by omega) (by simp only; omega)
      have dr0 : decide (1 + ((lv (.sl tMessage) y.2.2.2.2.2.2.2.1 : Nat) : Int) + ((lv (.sl tPath) y.2.2.2.2.2.2.2.2.1 : Nat) : Int) + ((lv (.sl tRevocation) y.2.2.2.2.2.2.2.2.2 : Nat) : Int) < 0) = false := by simp <;> omega
      simp only [hI, hS, obind_some, both_self, Bool.not_true, Bool.not_false, cond_false, cond_true, bne_self_eq_false, beq_self_eq_true, to0, e0, to1, e1, m0, m1, d, er0, mr0, hr0, dr0]
end Go.Proofs.Ytmodgmbmbainmaa.fnExactEnqueue
