/-
  The plain part of: Law FnExactTruncatePath: for every packet TruncatePath answers as the reference does, leaves it as it was, and answers in memory of its own. Conditions: none.
-/
import Derived.Test.YtdbdocgoojoleaaQ0XTruncatePath
set_option linter.unusedVariables false
set_option linter.unusedSimpArgs false
set_option maxRecDepth 100000
namespace Go.Proofs.Ytdbdocgoojoleaa.fnExactTruncatePath
open Go.Ab Go.V
theorem core_TruncatePath (a0 : den tPacket) (w0 : Wf tPacket a0) (t0 : tot tPacket a0 ≤ 1048576) : ∃ y, i_TruncatePath a0 = some y ∧ s_TruncatePath a0 = some y ∧ tot tPath y ≤ 68719476736 := by
  have sm : SmB 68719476736 tPacket a0 := (sm_of_tot t0).mono (by decide)
  have h1 : tot tPath a0.2.2.2.1 ≤ 1048576 := tot_l (tot_r (tot_r (tot_r t0)))
  exact ⟨_, i_truncP sm, s_truncP sm, Nat.le_trans (truncP_tot a0) (Nat.le_trans h1 (by decide))⟩
theorem law (a0 : den tPacket) (w0 : Wf tPacket a0) : l_FnExactTruncatePath a0 = some true := by
  unfold l_FnExactTruncatePath
  obtain ⟨r0, hr0, hs0⟩ := sz_Packet (left := (1048576 : Int)) w0 (by decide) (by decide)
  have hr0 : l_szPacket (a0.1, a0.2.1, a0.2.2.1, a0.2.2.2.1, a0.2.2.2.2.1, a0.2.2.2.2.2.1, a0.2.2.2.2.2.2.1, a0.2.2.2.2.2.2.2.1, a0.2.2.2.2.2.2.2.2.1, a0.2.2.2.2.2.2.2.2.2) (1048576 : Int) = some r0 := hr0
  rw [hr0, obind_some]
  rcases hs0 with hs0 | ⟨hp0, hq0⟩
  · rw [decide_eq_true hs0, cond_true]
  · rw [decide_eq_false (by omega), cond_false]
    have t0 : tot tPacket a0 ≤ 1048576 := by omega
    obtain ⟨y, hI, hS, u0⟩ := core_TruncatePath a0 w0 t0
    have hI : i_TruncatePath (a0.1, a0.2.1, a0.2.2.1, a0.2.2.2.1, a0.2.2.2.2.1, a0.2.2.2.2.2.1, a0.2.2.2.2.2.2.1, a0.2.2.2.2.2.2.2.1, a0.2.2.2.2.2.2.2.2.1, a0.2.2.2.2.2.2.2.2.2) = some y := hI
    have hS : s_TruncatePath (a0.1, a0.2.1, a0.2.2.1, a0.2.2.2.1, a0.2.2.2.2.1, a0.2.2.2.2.2.1, a0.2.2.2.2.2.2.1, a0.2.2.2.2.2.2.2.1, a0.2.2.2.2.2.2.2.2.1, a0.2.2.2.2.2.2.2.2.2) = some y := hS
    have sm0 : Sm tPacket a0 := sm_of_tot t0
    have to0 : l_toPacket (a0.1, a0.2.1, a0.2.2.1, a0.2.2.2.1, a0.2.2.2.2.1, a0.2.2.2.2.2.1, a0.2.2.2.2.2.2.1, a0.2.2.2.2.2.2.2.1, a0.2.2.2.2.2.2.2.2.1, a0.2.2.2.2.2.2.2.2.2) = some (a0.1, a0.2.1, a0.2.2.1, a0.2.2.2.2.1, a0.2.2.2.2.2.1, a0.2.2.2.2.2.2.1, a0.2.2.2.2.2.2.2.1, a0.2.2.2.2.2.2.2.2.1, a0.2.2.2.1, a0.2.2.2.2.2.2.2.2.2) := to_Packet sm0
    have e0 : l_eqPacket (a0.1, a0.2.1, a0.2.2.1, a0.2.2.2.1, a0.2.2.2.2.1, a0.2.2.2.2.2.1, a0.2.2.2.2.2.2.1, a0.2.2.2.2.2.2.2.1, a0.2.2.2.2.2.2.2.2.1, a0.2.2.2.2.2.2.2.2.2) (a0.1, a0.2.1, a0.2.2.1, a0.2.2.2.1, a0.2.2.2.2.1, a0.2.2.2.2.2.1, a0.2.2.2.2.2.2.1, a0.2.2.2.2.2.2.2.1, a0.2.2.2.2.2.2.2.2.1, a0.2.2.2.2.2.2.2.2.2) = some true := eq_Packet (x := a0) (sm0.mono (by decide))
    have ba0_0 : ((lv (.sl tPathPart) a0.2.2.2.1 : Nat) : Int) ≤ 1099511628777000 := lv_small (tot_l (tot_r (tot_r (tot_r (Nat.le_trans t0 (by decide)))))) (by decide)
    have ba0_1 : ((lv (.sl tb) a0.2.2.2.2.2.2.2.2.2 : Nat) : Int) ≤ 1099511628777000 := lv_small (tot_r (tot_r (tot_r (tot_r (tot_r (tot_r (tot_r (tot_r (tot_r (Nat.le_trans t0 (by decide))))))))))) (by decide)
    have m0 := mark_Packet (x := a0) (k := 1) (sm0.mono (by decide)) (by omega) (by omega)
    have m0 : l_markPacket (a0.1, a0.2.1, a0.2.2.1, a0.2.2.2.1, a0.2.2.2.2.1, a0.2.2.2.2.2.1, a0.2.2.2.2.2.2.1, a0.2.2.2.2.2.2.2.1, a0.2.2.2.2.2.2.2.2.1, a0.2.2.2.2.2.2.2.2.2) (1) = some _ := m0
    have d : decide (1 + ((lv (.sl tPathPart) a0.2.2.2.1 : Nat) : Int) + ((lv (.sl tb) a0.2.2.2.2.2.2.2.2.2 : Nat) : Int) < 0) = false := by simp <;> omega
    have tr0 : tot tPath y ≤ 1099511627776 := by omega
    have sr0 : SmB 4611686018427387904 tPath y := (sm_of_tot tr0).mono (by decide)
    have er0 : l_eqPath y y = some true := eq_Path sr0
    have br0_0 : ((lv (.sl tPathPart) y : Nat) : Int) ≤ 1099511628777000 := lv_small tr0 (by decide)
    have mr0 := mark_Path (x := y) (k := 1) sr0 (by omega) (by first | omega | (simp only; omega))
    have hr0 := held_Path (x := y) (k := 1) sr0 (by omega) (by first | omega | (simp only; omega))
    have dr0 : decide (1 + ((lv (.sl tPathPart) y : Nat) : Int) < 0) = false := by simp <;> omega
    simp only [hI, hS, obind_some, both_self, Bool.not_true, Bool.not_false, cond_false, cond_true, bne_self_eq_false, beq_self_eq_true, to0, e0, m0, d, er0, mr0, hr0, dr0]
end Go.Proofs.Ytdbdocgoojoleaa.fnExactTruncatePath
