/-
  The plain part of: Law FnExactMakeRevocation: for every topology, packet and numbers MakeRevocation answers as the reference does, leaves them as they were, and answers in memory of its own. Conditions: none.
-/
import Derived.Test.YtmodgmbmbainmaaQ0XMakeRevocation
set_option linter.unusedVariables false
set_option linter.unusedSimpArgs false
set_option maxRecDepth 100000
namespace Go.Proofs.Ytmodgmbmbainmaa.fnExactMakeRevocation
open Go.Ab Go.V
theorem core_MakeRevocation (a0 : den tTopology) (a1 a2 a3 : Int) (a4 : den tPacket) (w0 : Wf tTopology a0) (w1 : Wf ti a1) (w2 : Wf ti a2) (w3 : Wf ti a3) (w4 : Wf tPacket a4) (t0 : tot tTopology a0 ≤ 1048576) (t4 : tot tPacket a4 ≤ 1048576) : ∃ y, i_MakeRevocation a0 a1 a2 a3 a4 = some y ∧ s_MakeRevocation a0 a1 a2 a3 a4 = some y ∧ tot tPath y.2.2.2.2.2.2.2.2.1 ≤ 68719476736 ∧ tot (.sl tb) y.2.2.2.2.2.2.2.2.2 ≤ 68719476736 := by
  have h : tot tPacket (noteP a1 a2 a3 a4) ≤ 68719476736 := by have := noteP_tot a1 a2 a3 a4; omega
  exact ⟨_, i_noteP (Nat.le_trans t4 (by decide)), s_noteP (Nat.le_trans t4 (by decide)), (pk_path h).1, (pk_path h).2⟩
theorem law (a0 : den tTopology) (a1 : den ti) (a2 : den ti) (a3 : den ti) (a4 : den tPacket) (w0 : Wf tTopology a0) (w1 : Wf ti a1) (w2 : Wf ti a2) (w3 : Wf ti a3) (w4 : Wf tPacket a4) : l_FnExactMakeRevocation a0 a1 a2 a3 a4 = some true := by
  unfold l_FnExactMakeRevocation
  obtain ⟨r0, hr0, hs0⟩ := sz_Topology (left := (1048576 : Int)) w0 (by decide) (by decide)
  have hr0 : l_szTopology (a0.1, a0.2) (1048576 : Int) = some r0 := hr0
  rw [hr0, obind_some]
  rcases hs0 with hs0 | ⟨hp0, hq0⟩
  · rw [decide_eq_true hs0, cond_true]
  · rw [decide_eq_false (by omega), cond_false]
    have t0 : tot tTopology a0 ≤ 1048576 := by omega
    obtain ⟨r4, hr4, hs4⟩ := sz_Packet (left := r0) w4 (by omega) (by omega)
    have hr4 : l_szPacket (a4.1, a4.2.1, a4.2.2.1, a4.2.2.2.1, a4.2.2.2.2.1, a4.2.2.2.2.2.1, a4.2.2.2.2.2.2.1, a4.2.2.2.2.2.2.2.1, a4.2.2.2.2.2.2.2.2.1, a4.2.2.2.2.2.2.2.2.2) r0 = some r4 := hr4
    rw [hr4, obind_some]
    rcases hs4 with hs4 | ⟨hp4, hq4⟩
    · rw [decide_eq_true hs4, cond_true]
    · rw [decide_eq_false (by omega), cond_false]
      have t4 : tot tPacket a4 ≤ 1048576 := by omega
      obtain ⟨y, hI, hS, u0, u1⟩ := core_MakeRevocation a0 a1 a2 a3 a4 w0 w1 w2 w3 w4 t0 t4
      have hI : i_MakeRevocation (a0.1, a0.2) a1 a2 a3 (a4.1, a4.2.1, a4.2.2.1, a4.2.2.2.1, a4.2.2.2.2.1, a4.2.2.2.2.2.1, a4.2.2.2.2.2.2.1, a4.2.2.2.2.2.2.2.1, a4.2.2.2.2.2.2.2.2.1, a4.2.2.2.2.2.2.2.2.2) = some y := hI
      have hS : s_MakeRevocation (a0.1, a0.2) a1 a2 a3 (a4.1, a4.2.1, a4.2.2.1, a4.2.2.2.1, a4.2.2.2.2.1, a4.2.2.2.2.2.1, a4.2.2.2.2.2.2.1, a4.2.2.2.2.2.2.2.1, a4.2.2.2.2.2.2.2.2.1, a4.2.2.2.2.2.2.2.2.2) = some y := hS
      have sm0 : Sm tTopology a0 := sm_of_tot t0
      have to0 : l_toTopology (a0.1, a0.2) = some (a0.1, a0.2) := to_Topology sm0
      have e0 : l_eqTopology (a0.1, a0.2) (a0.1, a0.2) = some true := eq_Topology (x := a0) (sm0.mono (by decide))
      have sm4 : Sm tPacket a4 := sm_of_tot t4
      have to4 : l_toPacket (a4.1, a4.2.1, a4.2.2.1, a4.2.2.2.1, a4.2.2.2.2.1, a4.2.2.2.2.2.1, a4.2.2.2.2.2.2.1, a4.2.2.2.2.2.2.2.1, a4.2.2.2.2.2.2.2.2.1, a4.2.2.2.2.2.2.2.2.2) = some (a4.1, a4.2.1, a4.2.2.1, a4.2.2.2.2.1, a4.2.2.2.2.2.1, a4.2.2.2.2.2.2.1, a4.2.2.2.2.2.2.2.1, a4.2.2.2.2.2.2.2.2.1, a4.2.2.2.1, a4.2.2.2.2.2.2.2.2.2) := to_Packet sm4
      have e4 : l_eqPacket (a4.1, a4.2.1, a4.2.2.1, a4.2.2.2.1, a4.2.2.2.2.1, a4.2.2.2.2.2.1, a4.2.2.2.2.2.2.1, a4.2.2.2.2.2.2.2.1, a4.2.2.2.2.2.2.2.2.1, a4.2.2.2.2.2.2.2.2.2) (a4.1, a4.2.1, a4.2.2.1, a4.2.2.2.1, a4.2.2.2.2.1, a4.2.2.2.2.2.1, a4.2.2.2.2.2.2.1, a4.2.2.2.2.2.2.2.1, a4.2.2.2.2.2.2.2.2.1, a4.2.2.2.2.2.2.2.2.2) = some true := eq_Packet (x := a4) (sm4.mono (by decide))
      have ba0_0 : ((lv (.sl tAS) a0.1 : Nat) : Int) ≤ 1099511628777000 := lv_small (tot_l (Nat.le_trans t0 (by decide))) (by decide)
      have ba0_1 : ((lv (.sl tLink) a0.2 : Nat) : Int) ≤ 1099511628777000 := lv_small (tot_r (Nat.le_trans t0 (by decide))) (by decide)
      have m0 := mark_Topology (x := a0) (k := 1) (sm0.mono (by decide)) (by omega) (by omega)
      have m0 : l_markTopology (a0.1, a0.2) (1) = some _ := m0
      have ba4_0 : ((lv (.sl tPathPart) a4.2.2.2.1 : Nat) : Int) ≤ 1099511628777000 := lv_small (tot_l (tot_r (tot_r (tot_r (Nat.le_trans t4 (by decide)))))) (by decide)
      have ba4_1 : ((lv (.sl tb) a4.2.2.2.2.2.2.2.2.2 : Nat) : Int) ≤ 1099511628777000 := lv_small (tot_r (tot_r (tot_r (tot_r (tot_r (tot_r (tot_r (tot_r (tot_r (Nat.le_trans t4 (by decide))))))))))) (by decide)
      have m4 := mark_Packet (x := a4) (k := 1 + ((lv (.sl tAS) a0.1 : Nat) : Int) + ((lv (.sl tLink) a0.2 : Nat) : Int)) (sm4.mono (by decide)) (by omega) (by omega)
      have m4 : l_markPacket (a4.1, a4.2.1, a4.2.2.1, a4.2.2.2.1, a4.2.2.2.2.1, a4.2.2.2.2.2.1, a4.2.2.2.2.2.2.1, a4.2.2.2.2.2.2.2.1, a4.2.2.2.2.2.2.2.2.1, a4.2.2.2.2.2.2.2.2.2) (1 + ((lv (.sl tAS) a0.1 : Nat) : Int) + ((lv (.sl tLink) a0.2 : Nat) : Int)) = some _ := m4
      have d : decide (1 + ((lv (.sl tAS) a0.1 : Nat) : Int) + ((lv (.sl tLink) a0.2 : Nat) : Int) + ((lv (.sl tPathPart) a4.2.2.2.1 : Nat) : Int) + ((lv (.sl tb) a4.2.2.2.2.2.2.2.2.2 : Nat) : Int) < 0) = false := by simp <;> omega
      have tr0 : tot tPacket (y.1, y.2.1, y.2.2.1, y.2.2.2.2.2.2.2.2.1, y.2.2.2.1, y.2.2.2.2.1, y.2.2.2.2.2.1, y.2.2.2.2.2.2.1, y.2.2.2.2.2.2.2.1, y.2.2.2.2.2.2.2.2.2) ≤ 1099511627776 := by
        have h := Nat.le_refl 0
        simp only [tot_pair, tot_int, tot_bool, tot_str]
        omega
      have sr0 : SmB 4611686018427387904 tPacket (y.1, y.2.1, y.2.2.1, y.2.2.2.2.2.2.2.2.1, y.2.2.2.1, y.2.2.2.2.1, y.2.2.2.2.2.1, y.2.2.2.2.2.2.1, y.2.2.2.2.2.2.2.1, y.2.2.2.2.2.2.2.2.2) := (sm_of_tot tr0).mono (by decide)
      have er0 : l_eqPacket (y.1, y.2.1, y.2.2.1, y.2.2.2.2.2.2.2.2.1, y.2.2.2.1, y.2.2.2.2.1, y.2.2.2.2.2.1, y.2.2.2.2.2.2.1, y.2.2.2.2.2.2.2.1, y.2.2.2.2.2.2.2.2.2) (y.1, y.2.1, y.2.2.1, y.2.2.2.2.2.2.2.2.1, y.2.2.2.1, y.2.2.2.2.1, y.2.2.2.2.2.1, y.2.2.2.2.2.2.1, y.2.2.2.2.2.2.2.1, y.2.2.2.2.2.2.2.2.2) = some true := eq_Packet sr0
      have br0_0 : ((lv (.sl tPathPart) y.2.2.2.2.2.2.2.2.1 : Nat) : Int) ≤ 1099511628777000 := lv_small (tot_l (tot_r (tot_r (tot_r tr0)))) (by decide)
      have br0_1 : ((lv (.sl tb) y.2.2.2.2.2.2.2.2.2 : Nat) : Int) ≤ 1099511628777000 := lv_small (tot_r (tot_r (tot_r (tot_r (tot_r (tot_r (tot_r (tot_r (tot_r tr0))))))))) (by decide)
      have mr0 := mark_Packet (x := (y.1, y.2.1, y.2.2.1, y.2.2.2.2.2.2.2.2.1, y.2.2.2.1, y.2.2.2.2.1, y.2.2.2.2.2.1, y.2.2.2.2.2.2.1, y.2.2.2.2.2.2.2.1, y.2.2.2.2.2.2.2.2.2)) (k := 1) sr0 (by omega) (by simp only; omega)
      have hr0 := held_Packet (x := (y.1, y.2.1, y.2.2.1, y.2.2.2.2.2.2.2.2.1, y.2.2.2.1, y.2.2.2.2.1, y.2.2.2.2.2.1, y.2.2.2.2.2.2.1, y.2.2.2.2.2.2.2.1, y.2.2.2.2.2.2.2.2.2)) (k := 1) sr0 (by omega) (by simp only; omega)
      have dr0 : decide (1 + ((lv (.sl tPathPart) y.2.2.2.2.2.2.2.2.1 : Nat) : Int) + ((lv (.sl tb) y.2.2.2.2.2.2.2.2.2 : Nat) : Int) < 0) = false := by simp <;> omega
      simp only [hI, hS, obind_some, both_self, Bool.not_true, Bool.not_false, cond_false, cond_true, bne_self_eq_false, beq_self_eq_true, to0, e0, to4, e4, m0, m4, d, er0, mr0, hr0, dr0]
end Go.Proofs.Ytmodgmbmbainmaa.fnExactMakeRevocation
