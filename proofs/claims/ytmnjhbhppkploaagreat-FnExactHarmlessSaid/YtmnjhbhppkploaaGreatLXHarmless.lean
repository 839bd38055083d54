/-
  The plain part of: Law FnExactHarmless: for every network and event Harmless answers as the reference does and leaves them as they were. Conditions: none.
-/
import Derived.Test.YtmnjhbhppkploaaGreatQ0XHarmless
set_option linter.unusedVariables false
set_option linter.unusedSimpArgs false
set_option maxRecDepth 100000
namespace Go.Proofs.YtmnjhbhppkploaaGreat.fnExactHarmless
open Go.Ab Go.V
theorem core_Harmless (a0 : den tNetwork) (a1 : den tEvent) (w0 : Wf tNetwork a0) (w1 : Wf tEvent a1) (t0 : tot tNetwork a0 ≤ 1048576) (t1 : tot tEvent a1 ≤ 1048576) : ∃ y, i_Harmless a0 a1 = some y ∧ s_Harmless a0 a1 = some y := by
  have sm0 : SmB 68719476736 tNetwork a0 := (sm_of_tot t0).mono (by decide)
  have sm1 : SmB 68719476736 tEvent a1 := (sm_of_tot t1).mono (by decide)
  exact ⟨_, i_harm sm0 sm1, s_harm sm0 sm1⟩
theorem law (a0 : den tNetwork) (a1 : den tEvent) (w0 : Wf tNetwork a0) (w1 : Wf tEvent a1) : l_FnExactHarmless a0 a1 = some true := by
  unfold l_FnExactHarmless
  obtain ⟨r0, hr0, hs0⟩ := sz_Network (left := (1048576 : Int)) w0 (by decide) (by decide)
  have hr0 : l_szNetwork ((a0.1.1, a0.1.2), (a0.2.1.1, a0.2.1.2), (a0.2.2.1.1, a0.2.2.1.2.1, a0.2.2.1.2.2), a0.2.2.2.1, a0.2.2.2.2.1, a0.2.2.2.2.2.1, a0.2.2.2.2.2.2.1, a0.2.2.2.2.2.2.2.1, a0.2.2.2.2.2.2.2.2) (1048576 : Int) = some r0 := hr0
  rw [hr0, obind_some]
  rcases hs0 with hs0 | ⟨hp0, hq0⟩
  · rw [decide_eq_true hs0, cond_true]
  · rw [decide_eq_false (by omega), cond_false]
    have t0 : tot tNetwork a0 ≤ 1048576 := by omega
    obtain ⟨r1, hr1, hs1⟩ := sz_Event (left := r0) w1 (by omega) (by omega)
    have hr1 : l_szEvent (a1.1, a1.2.1, a1.2.2.1, (a1.2.2.2.1, a1.2.2.2.2.1, (a1.2.2.2.2.2.1, a1.2.2.2.2.2.2.1, a1.2.2.2.2.2.2.2.1, a1.2.2.2.2.2.2.2.2.1, a1.2.2.2.2.2.2.2.2.2.1, a1.2.2.2.2.2.2.2.2.2.2.1, a1.2.2.2.2.2.2.2.2.2.2.2.1, a1.2.2.2.2.2.2.2.2.2.2.2.2.1, a1.2.2.2.2.2.2.2.2.2.2.2.2.2.1, a1.2.2.2.2.2.2.2.2.2.2.2.2.2.2))) r0 = some r1 := hr1
    rw [hr1, obind_some]
    rcases hs1 with hs1 | ⟨hp1, hq1⟩
    · rw [decide_eq_true hs1, cond_true]
    · rw [decide_eq_false (by omega), cond_false]
      have t1 : tot tEvent a1 ≤ 1048576 := by omega
      obtain ⟨y, hI, hS⟩ := core_Harmless a0 a1 w0 w1 t0 t1
      have hI : i_Harmless ((a0.1.1, a0.1.2), (a0.2.1.1, a0.2.1.2), (a0.2.2.1.1, a0.2.2.1.2.1, a0.2.2.1.2.2), a0.2.2.2.1, a0.2.2.2.2.1, a0.2.2.2.2.2.1, a0.2.2.2.2.2.2.1, a0.2.2.2.2.2.2.2.1, a0.2.2.2.2.2.2.2.2) (a1.1, a1.2.1, a1.2.2.1, (a1.2.2.2.1, a1.2.2.2.2.1, (a1.2.2.2.2.2.1, a1.2.2.2.2.2.2.1, a1.2.2.2.2.2.2.2.1, a1.2.2.2.2.2.2.2.2.1, a1.2.2.2.2.2.2.2.2.2.1, a1.2.2.2.2.2.2.2.2.2.2.1, a1.2.2.2.2.2.2.2.2.2.2.2.1, a1.2.2.2.2.2.2.2.2.2.2.2.2.1, a1.2.2.2.2.2.2.2.2.2.2.2.2.2.1, a1.2.2.2.2.2.2.2.2.2.2.2.2.2.2))) = some y := hI
      have hS : s_Harmless ((a0.1.1, a0.1.2), (a0.2.1.1, a0.2.1.2), (a0.2.2.1.1, a0.2.2.1.2.1, a0.2.2.1.2.2), a0.2.2.2.1, a0.2.2.2.2.1, a0.2.2.2.2.2.1, a0.2.2.2.2.2.2.1, a0.2.2.2.2.2.2.2.1, a0.2.2.2.2.2.2.2.2) (a1.1, a1.2.1, a1.2.2.1, (a1.2.2.2.1, a1.2.2.2.2.1, (a1.2.2.2.2.2.1, a1.2.2.2.2.2.2.1, a1.2.2.2.2.2.2.2.1, a1.2.2.2.2.2.2.2.2.1, a1.2.2.2.2.2.2.2.2.2.1, a1.2.2.2.2.2.2.2.2.2.2.1, a1.2.2.2.2.2.2.2.2.2.2.2.1, a1.2.2.2.2.2.2.2.2.2.2.2.2.1, a1.2.2.2.2.2.2.2.2.2.2.2.2.2.1, a1.2.2.2.2.2.2.2.2.2.2.2.2.2.2))) = some y := hS
      have sm0 : Sm tNetwork a0 := sm_of_tot t0
      have to0 : l_toNetwork ((a0.1.1, a0.1.2), (a0.2.1.1, a0.2.1.2), (a0.2.2.1.1, a0.2.2.1.2.1, a0.2.2.1.2.2), a0.2.2.2.1, a0.2.2.2.2.1, a0.2.2.2.2.2.1, a0.2.2.2.2.2.2.1, a0.2.2.2.2.2.2.2.1, a0.2.2.2.2.2.2.2.2) = some (a0.2.2.1.1, a0.2.2.2.1, a0.2.2.2.2.2.2.2.2, a0.1.1, a0.1.2, a0.2.1.1, a0.2.1.2, a0.2.2.1.2.1, a0.2.2.1.2.2, a0.2.2.2.2.1, a0.2.2.2.2.2.1, a0.2.2.2.2.2.2.1, a0.2.2.2.2.2.2.2.1) := to_Network sm0
      have e0 : l_eqNetwork ((a0.1.1, a0.1.2), (a0.2.1.1, a0.2.1.2), (a0.2.2.1.1, a0.2.2.1.2.1, a0.2.2.1.2.2), a0.2.2.2.1, a0.2.2.2.2.1, a0.2.2.2.2.2.1, a0.2.2.2.2.2.2.1, a0.2.2.2.2.2.2.2.1, a0.2.2.2.2.2.2.2.2) ((a0.1.1, a0.1.2), (a0.2.1.1, a0.2.1.2), (a0.2.2.1.1, a0.2.2.1.2.1, a0.2.2.1.2.2), a0.2.2.2.1, a0.2.2.2.2.1, a0.2.2.2.2.2.1, a0.2.2.2.2.2.2.1, a0.2.2.2.2.2.2.2.1, a0.2.2.2.2.2.2.2.2) = some true := eq_Network (x := a0) (sm0.mono (by decide))
      have sm1 : Sm tEvent a1 := sm_of_tot t1
      have to1 : l_toEvent (a1.1, a1.2.1, a1.2.2.1, (a1.2.2.2.1, a1.2.2.2.2.1, (a1.2.2.2.2.2.1, a1.2.2.2.2.2.2.1, a1.2.2.2.2.2.2.2.1, a1.2.2.2.2.2.2.2.2.1, a1.2.2.2.2.2.2.2.2.2.1, a1.2.2.2.2.2.2.2.2.2.2.1, a1.2.2.2.2.2.2.2.2.2.2.2.1, a1.2.2.2.2.2.2.2.2.2.2.2.2.1, a1.2.2.2.2.2.2.2.2.2.2.2.2.2.1, a1.2.2.2.2.2.2.2.2.2.2.2.2.2.2))) = some (a1.1, a1.2.1, a1.2.2.2.1, a1.2.2.2.2.1, a1.2.2.2.2.2.1, a1.2.2.2.2.2.2.1, a1.2.2.2.2.2.2.2.1, a1.2.2.2.2.2.2.2.2.2.1, a1.2.2.2.2.2.2.2.2.2.2.1, a1.2.2.2.2.2.2.2.2.2.2.2.1, a1.2.2.2.2.2.2.2.2.2.2.2.2.1, a1.2.2.2.2.2.2.2.2.2.2.2.2.2.1, a1.2.2.1, a1.2.2.2.2.2.2.2.2.1, a1.2.2.2.2.2.2.2.2.2.2.2.2.2.2) := to_Event sm1
      have e1 : l_eqEvent (a1.1, a1.2.1, a1.2.2.1, (a1.2.2.2.1, a1.2.2.2.2.1, (a1.2.2.2.2.2.1, a1.2.2.2.2.2.2.1, a1.2.2.2.2.2.2.2.1, a1.2.2.2.2.2.2.2.2.1, a1.2.2.2.2.2.2.2.2.2.1, a1.2.2.2.2.2.2.2.2.2.2.1, a1.2.2.2.2.2.2.2.2.2.2.2.1, a1.2.2.2.2.2.2.2.2.2.2.2.2.1, a1.2.2.2.2.2.2.2.2.2.2.2.2.2.1, a1.2.2.2.2.2.2.2.2.2.2.2.2.2.2))) (a1.1, a1.2.1, a1.2.2.1, (a1.2.2.2.1, a1.2.2.2.2.1, (a1.2.2.2.2.2.1, a1.2.2.2.2.2.2.1, a1.2.2.2.2.2.2.2.1, a1.2.2.2.2.2.2.2.2.1, a1.2.2.2.2.2.2.2.2.2.1, a1.2.2.2.2.2.2.2.2.2.2.1, a1.2.2.2.2.2.2.2.2.2.2.2.1, a1.2.2.2.2.2.2.2.2.2.2.2.2.1, a1.2.2.2.2.2.2.2.2.2.2.2.2.2.1, a1.2.2.2.2.2.2.2.2.2.2.2.2.2.2))) = some true := eq_Event (x := a1) (sm1.mono (by decide))
      simp only [hI, hS, obind_some, both_self, Bool.not_true, Bool.not_false, cond_false, cond_true, bne_self_eq_false, beq_self_eq_true, to0, e0, to1, e1]
end Go.Proofs.YtmnjhbhppkploaaGreat.fnExactHarmless
