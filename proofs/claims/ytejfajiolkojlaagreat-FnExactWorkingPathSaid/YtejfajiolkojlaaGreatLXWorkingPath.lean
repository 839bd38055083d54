/-
  The plain part of: Law FnExactWorkingPath: for every network and flow WorkingPath answers as the reference does, and leaves them as they were. Conditions: none.
-/
import Derived.Test.YtejfajiolkojlaaGreatQ0XWorkingPath
set_option linter.unusedVariables false
set_option linter.unusedSimpArgs false
set_option maxRecDepth 100000
namespace Go.Proofs.YtejfajiolkojlaaGreat.fnExactWorkingPath
open Go.Ab Go.V
theorem core_WorkingPath (a0 : den tNetwork) (a1 : den tFlow) (w0 : Wf tNetwork a0) (w1 : Wf tFlow a1) (t0 : tot tNetwork a0 ≤ 1048576) (t1 : tot tFlow a1 ≤ 1048576) : ∃ y, i_WorkingPath a0 a1 = some y ∧ s_WorkingPath a0 a1 = some y := ⟨_, i_workP (netSm (Nat.le_trans t0 (by decide))) (Nat.le_trans t1 (by decide)), s_workP (netSm (Nat.le_trans t0 (by decide))) (Nat.le_trans t1 (by decide))⟩
theorem law (a0 : den tNetwork) (a1 : den tFlow) (w0 : Wf tNetwork a0) (w1 : Wf tFlow a1) : l_FnExactWorkingPath a0 a1 = some true := by
  unfold l_FnExactWorkingPath
  obtain ⟨r0, hr0, hs0⟩ := sz_Network (left := (1048576 : Int)) w0 (by decide) (by decide)
  have hr0 : l_szNetwork ((a0.1.1, a0.1.2), (a0.2.1.1, a0.2.1.2), (a0.2.2.1.1, a0.2.2.1.2.1, a0.2.2.1.2.2), a0.2.2.2.1, a0.2.2.2.2.1, a0.2.2.2.2.2.1, a0.2.2.2.2.2.2.1, a0.2.2.2.2.2.2.2.1, a0.2.2.2.2.2.2.2.2) (1048576 : Int) = some r0 := hr0
  rw [hr0, obind_some]
  rcases hs0 with hs0 | ⟨hp0, hq0⟩
  · rw [decide_eq_true hs0, cond_true]
  · rw [decide_eq_false (by omega), cond_false]
    have t0 : tot tNetwork a0 ≤ 1048576 := by omega
    obtain ⟨r1, hr1, hs1⟩ := sz_Flow (left := r0) w1 (by omega) (by omega)
    have hr1 : l_szFlow (a1.1, a1.2.1, a1.2.2.1, a1.2.2.2.1, a1.2.2.2.2.1, a1.2.2.2.2.2.1, a1.2.2.2.2.2.2.1, a1.2.2.2.2.2.2.2.1, a1.2.2.2.2.2.2.2.2) r0 = some r1 := hr1
    rw [hr1, obind_some]
    rcases hs1 with hs1 | ⟨hp1, hq1⟩
    · rw [decide_eq_true hs1, cond_true]
    · rw [decide_eq_false (by omega), cond_false]
      have t1 : tot tFlow a1 ≤ 1048576 := by omega
      obtain ⟨y, hI, hS⟩ := core_WorkingPath a0 a1 w0 w1 t0 t1
      have hI : i_WorkingPath ((a0.1.1, a0.1.2), (a0.2.1.1, a0.2.1.2), (a0.2.2.1.1, a0.2.2.1.2.1, a0.2.2.1.2.2), a0.2.2.2.1, a0.2.2.2.2.1, a0.2.2.2.2.2.1, a0.2.2.2.2.2.2.1, a0.2.2.2.2.2.2.2.1, a0.2.2.2.2.2.2.2.2) (a1.1, a1.2.1, a1.2.2.1, a1.2.2.2.1, a1.2.2.2.2.1, a1.2.2.2.2.2.1, a1.2.2.2.2.2.2.1, a1.2.2.2.2.2.2.2.1, a1.2.2.2.2.2.2.2.2) = some y := hI
      have hS : s_WorkingPath ((a0.1.1, a0.1.2), (a0.2.1.1, a0.2.1.2), (a0.2.2.1.1, a0.2.2.1.2.1, a0.2.2.1.2.2), a0.2.2.2.1, a0.2.2.2.2.1, a0.2.2.2.2.2.1, a0.2.2.2.2.2.2.1, a0.2.2.2.2.2.2.2.1, a0.2.2.2.2.2.2.2.2) (a1.1, a1.2.1, a1.2.2.1, a1.2.2.2.1, a1.2.2.2.2.1, a1.2.2.2.2.2.1, a1.2.2.2.2.2.2.1, a1.2.2.2.2.2.2.2.1, a1.2.2.2.2.2.2.2.2) = some y := hS
      have sm0 : Sm tNetwork a0 := sm_of_tot t0
      have to0 : l_toNetwork ((a0.1.1, a0.1.2), (a0.2.1.1, a0.2.1.2), (a0.2.2.1.1, a0.2.2.1.2.1, a0.2.2.1.2.2), a0.2.2.2.1, a0.2.2.2.2.1, a0.2.2.2.2.2.1, a0.2.2.2.2.2.2.1, a0.2.2.2.2.2.2.2.1, a0.2.2.2.2.2.2.2.2) = some (a0.2.2.1.1, a0.2.2.2.1, a0.2.2.2.2.2.2.2.2, a0.1.1, a0.1.2, a0.2.1.1, a0.2.1.2, a0.2.2.1.2.1, a0.2.2.1.2.2, a0.2.2.2.2.1, a0.2.2.2.2.2.1, a0.2.2.2.2.2.2.1, a0.2.2.2.2.2.2.2.1) := to_Network sm0
      have e0 : l_eqNetwork ((a0.1.1, a0.1.2), (a0.2.1.1, a0.2.1.2), (a0.2.2.1.1, a0.2.2.1.2.1, a0.2.2.1.2.2), a0.2.2.2.1, a0.2.2.2.2.1, a0.2.2.2.2.2.1, a0.2.2.2.2.2.2.1, a0.2.2.2.2.2.2.2.1, a0.2.2.2.2.2.2.2.2) ((a0.1.1, a0.1.2), (a0.2.1.1, a0.2.1.2), (a0.2.2.1.1, a0.2.2.1.2.1, a0.2.2.1.2.2), a0.2.2.2.1, a0.2.2.2.2.1, a0.2.2.2.2.2.1, a0.2.2.2.2.2.2.1, a0.2.2.2.2.2.2.2.1, a0.2.2.2.2.2.2.2.2) = some true := eq_Network (x := a0) (sm0.mono (by decide))
      have sm1 : Sm tFlow a1 := sm_of_tot t1
      have to1 : l_toFlow (a1.1, a1.2.1, a1.2.2.1, a1.2.2.2.1, a1.2.2.2.2.1, a1.2.2.2.2.2.1, a1.2.2.2.2.2.2.1, a1.2.2.2.2.2.2.2.1, a1.2.2.2.2.2.2.2.2) = some (a1.1, a1.2.1, a1.2.2.1, a1.2.2.2.1, a1.2.2.2.2.2.2.1, a1.2.2.2.2.2.2.2.1, a1.2.2.2.2.1, a1.2.2.2.2.2.1, a1.2.2.2.2.2.2.2.2) := to_Flow sm1
      have e1 : l_eqFlow (a1.1, a1.2.1, a1.2.2.1, a1.2.2.2.1, a1.2.2.2.2.1, a1.2.2.2.2.2.1, a1.2.2.2.2.2.2.1, a1.2.2.2.2.2.2.2.1, a1.2.2.2.2.2.2.2.2) (a1.1, a1.2.1, a1.2.2.1, a1.2.2.2.1, a1.2.2.2.2.1, a1.2.2.2.2.2.1, a1.2.2.2.2.2.2.1, a1.2.2.2.2.2.2.2.1, a1.2.2.2.2.2.2.2.2) = some true := eq_Flow (x := a1) (sm1.mono (by decide))
      simp only [hI, hS, obind_some, both_self, Bool.not_true, Bool.not_false, cond_false, cond_true, bne_self_eq_false, beq_self_eq_true, to0, e0, to1, e1]
end Go.Proofs.YtejfajiolkojlaaGreat.fnExactWorkingPath
