/-
  The plain part of: Law FnExactNewNetwork: for every topology, database and numbers NewNetwork answers as the reference does, leaves them as they were, and answers in memory of its own. Conditions: none.
-/
import Derived.Test.YtmnjhbhppkploaaGreatQ0XNewNetwork
set_option linter.unusedVariables false
set_option linter.unusedSimpArgs false
set_option maxRecDepth 100000
namespace Go.Proofs.YtmnjhbhppkploaaGreat.fnExactNewNetwork
open Go.Ab Go.V
theorem core_NewNetwork (a0 : den tTopology) (a1 : den tSegmentDatabase) (a2 a3 : Int) (w0 : Wf tTopology a0) (w1 : Wf tSegmentDatabase a1) (w2 : Wf ti a2) (w3 : Wf ti a3) (t0 : tot tTopology a0 ≤ 1048576) (t1 : tot tSegmentDatabase a1 ≤ 1048576) : ∃ y, i_NewNetwork a0 a1 a2 a3 = some y ∧ s_NewNetwork a0 a1 a2 a3 = some y ∧ tot (.sl tAS) y.2.2.2.1 ≤ 68719476736 ∧ tot (.sl tLink) y.2.2.2.2.1 ≤ 68719476736 ∧ tot (.sl tSegment) y.2.2.2.2.2.1 ≤ 68719476736 ∧ tot (.sl tSegment) y.2.2.2.2.2.2.1 ≤ 68719476736 ∧ tot (.sl tReservation) y.2.2.2.2.2.2.2.1 ≤ 68719476736 ∧ tot (.sl tUsage) y.2.2.2.2.2.2.2.2.1 ≤ 68719476736 ∧ tot (.sl ti) y.2.2.2.2.2.2.2.2.2.1 ≤ 68719476736 ∧ tot (.sl tPacketInFlight) y.2.2.2.2.2.2.2.2.2.2.1 ≤ 68719476736 ∧ tot (.sl tFlow) y.2.2.2.2.2.2.2.2.2.2.2.1 ≤ 68719476736 ∧ tot (.sl tInbox) y.2.2.2.2.2.2.2.2.2.2.2.2 ≤ 68719476736 := by
  have sm0 : SmB 68719476736 tTopology a0 := (sm_of_tot t0).mono (by decide)
  have sm1 : SmB 68719476736 tSegmentDatabase a1 := (sm_of_tot t1).mono (by decide)
  have b1 := Nat.le_trans (tot_l t0) (show 1048576 ≤ 68719476736 by decide)
  have b2 := Nat.le_trans (tot_r t0) (show 1048576 ≤ 68719476736 by decide)
  have b3 := Nat.le_trans (tot_l t1) (show 1048576 ≤ 68719476736 by decide)
  have b4 := Nat.le_trans (tot_r t1) (show 1048576 ≤ 68719476736 by decide)
  refine ⟨_, i_newW sm0 sm1, s_newW sm0 sm1, ?_⟩
  cases newOk a0 a3
  · exact ⟨Nat.zero_le _, Nat.zero_le _, Nat.zero_le _, Nat.zero_le _, Nat.zero_le _, Nat.zero_le _, Nat.zero_le _, Nat.zero_le _, Nat.zero_le _, Nat.zero_le _⟩
  · exact ⟨b1, b2, b3, b4, Nat.zero_le _, Nat.zero_le _, Nat.zero_le _, Nat.zero_le _, Nat.zero_le _, Nat.zero_le _⟩
theorem law (a0 : den tTopology) (a1 : den tSegmentDatabase) (a2 : den ti) (a3 : den ti) (w0 : Wf tTopology a0) (w1 : Wf tSegmentDatabase a1) (w2 : Wf ti a2) (w3 : Wf ti a3) : l_FnExactNewNetwork a0 a1 a2 a3 = some true := by
  unfold l_FnExactNewNetwork
  obtain ⟨r0, hr0, hs0⟩ := sz_Topology (left := (1048576 : Int)) w0 (by decide) (by decide)
  have hr0 : l_szTopology (a0.1, a0.2) (1048576 : Int) = some r0 := hr0
  rw [hr0, obind_some]
  rcases hs0 with hs0 | ⟨hp0, hq0⟩
  · rw [decide_eq_true hs0, cond_true]
  · rw [decide_eq_false (by omega), cond_false]
    have t0 : tot tTopology a0 ≤ 1048576 := by omega
    obtain ⟨r1, hr1, hs1⟩ := sz_SegmentDatabase (left := r0) w1 (by omega) (by omega)
    have hr1 : l_szSegmentDatabase (a1.1, a1.2) r0 = some r1 := hr1
    rw [hr1, obind_some]
    rcases hs1 with hs1 | ⟨hp1, hq1⟩
    · rw [decide_eq_true hs1, cond_true]
    · rw [decide_eq_false (by omega), cond_false]
      have t1 : tot tSegmentDatabase a1 ≤ 1048576 := by omega
      obtain ⟨y, hI, hS, u0, u1, u2, u3, u4, u5, u6, u7, u8, u9⟩ := core_NewNetwork a0 a1 a2 a3 w0 w1 w2 w3 t0 t1
      have hI : i_NewNetwork (a0.1, a0.2) (a1.1, a1.2) a2 a3 = some y := hI
      have hS : s_NewNetwork (a0.1, a0.2) (a1.1, a1.2) a2 a3 = some y := hS
      have sm0 : Sm tTopology a0 := sm_of_tot t0
      have to0 : l_toTopology (a0.1, a0.2) = some (a0.1, a0.2) := to_Topology sm0
      have e0 : l_eqTopology (a0.1, a0.2) (a0.1, a0.2) = some true := eq_Topology (x := a0) (sm0.mono (by decide))
      have sm1 : Sm tSegmentDatabase a1 := sm_of_tot t1
      have to1 : l_toSegmentDatabase (a1.1, a1.2) = some (a1.1, a1.2) := to_SegmentDatabase sm1
      have e1 : l_eqSegmentDatabase (a1.1, a1.2) (a1.1, a1.2) = some true := eq_SegmentDatabase (x := a1) (sm1.mono (by decide))
      have ba0_0 : ((lv (.sl tAS) a0.1 : Nat) : Int) ≤ 1099511628777000 := lv_small (tot_l (Nat.le_trans t0 (by decide))) (by decide)
      have ba0_1 : ((lv (.sl tLink) a0.2 : Nat) : Int) ≤ 1099511628777000 := lv_small (tot_r (Nat.le_trans t0 (by decide))) (by decide)
      have m0 := mark_Topology (x := a0) (k := 1) (sm0.mono (by decide)) (by omega) (by omega)
      have m0 : l_markTopology (a0.1, a0.2) (1) = some _ := m0
      have ba1_0 : ((lv (.sl tSegment) a1.1 : Nat) : Int) ≤ 1099511628777000 := lv_small (tot_l (Nat.le_trans t1 (by decide))) (by decide)
      have ba1_1 : ((lv (.sl tSegment) a1.2 : Nat) : Int) ≤ 1099511628777000 := lv_small (tot_r (Nat.le_trans t1 (by decide))) (by decide)
      have m1 := mark_SegmentDatabase (x := a1) (k := 1 + ((lv (.sl tAS) a0.1 : Nat) : Int) + ((lv (.sl tLink) a0.2 : Nat) : Int)) (sm1.mono (by decide)) (by omega) (by omega)
      have m1 : l_markSegmentDatabase (a1.1, a1.2) (1 + ((lv (.sl tAS) a0.1 : Nat) : Int) + ((lv (.sl tLink) a0.2 : Nat) : Int)) = some _ := m1
      have d : decide (1 + ((lv (.sl tAS) a0.1 : Nat) : Int) + ((lv (.sl tLink) a0.2 : Nat) : Int) + ((lv (.sl tSegment) a1.1 : Nat) : Int) + ((lv (.sl tSegment) a1.2 : Nat) : Int) < 0) = false := by simp <;> omega
      have tr0 : tot tNetwork ((y.2.2.2.1, y.2.2.2.2.1), (y.2.2.2.2.2.1, y.2.2.2.2.2.2.1), (y.1, y.2.2.2.2.2.2.2.1, y.2.2.2.2.2.2.2.2.1), y.2.1, y.2.2.2.2.2.2.2.2.2.1, y.2.2.2.2.2.2.2.2.2.2.1, y.2.2.2.2.2.2.2.2.2.2.2.1, y.2.2.2.2.2.2.2.2.2.2.2.2, y.2.2.1) ≤ 1099511627776 := by
        have h := Nat.le_refl 0
        simp only [tot_pair, tot_int, tot_bool, tot_str]
        omega
      have sr0 : SmB 4611686018427387904 tNetwork ((y.2.2.2.1, y.2.2.2.2.1), (y.2.2.2.2.2.1, y.2.2.2.2.2.2.1), (y.1, y.2.2.2.2.2.2.2.1, y.2.2.2.2.2.2.2.2.1), y.2.1, y.2.2.2.2.2.2.2.2.2.1, y.2.2.2.2.2.2.2.2.2.2.1, y.2.2.2.2.2.2.2.2.2.2.2.1, y.2.2.2.2.2.2.2.2.2.2.2.2, y.2.2.1) := (sm_of_tot tr0).mono (by decide)
      have er0 : l_eqNetwork ((y.2.2.2.1, y.2.2.2.2.1), (y.2.2.2.2.2.1, y.2.2.2.2.2.2.1), (y.1, y.2.2.2.2.2.2.2.1, y.2.2.2.2.2.2.2.2.1), y.2.1, y.2.2.2.2.2.2.2.2.2.1, y.2.2.2.2.2.2.2.2.2.2.1, y.2.2.2.2.2.2.2.2.2.2.2.1, y.2.2.2.2.2.2.2.2.2.2.2.2, y.2.2.1) ((y.2.2.2.1, y.2.2.2.2.1), (y.2.2.2.2.2.1, y.2.2.2.2.2.2.1), (y.1, y.2.2.2.2.2.2.2.1, y.2.2.2.2.2.2.2.2.1), y.2.1, y.2.2.2.2.2.2.2.2.2.1, y.2.2.2.2.2.2.2.2.2.2.1, y.2.2.2.2.2.2.2.2.2.2.2.1, y.2.2.2.2.2.2.2.2.2.2.2.2, y.2.2.1) = some true := eq_Network sr0
      have br0_0 : ((lv (.sl tAS) y.2.2.2.1 : Nat) : Int) ≤ 1099511628777000 := lv_small (tot_l (tot_l tr0)) (by decide)
      have br0_1 : ((lv (.sl tLink) y.2.2.2.2.1 : Nat) : Int) ≤ 1099511628777000 := lv_small (tot_r (tot_l tr0)) (by decide)
      have br0_2 : ((lv (.sl tSegment) y.2.2.2.2.2.1 : Nat) : Int) ≤ 1099511628777000 := lv_small (tot_l (tot_l (tot_r tr0))) (by decide)
      have br0_3 : ((lv (.sl tSegment) y.2.2.2.2.2.2.1 : Nat) : Int) ≤ 1099511628777000 := lv_small (tot_r (tot_l (tot_r tr0))) (by decide)
      have br0_4 : ((lv (.sl tReservation) y.2.2.2.2.2.2.2.1 : Nat) : Int) ≤ 1099511628777000 := lv_small (tot_l (tot_r (tot_l (tot_r (tot_r tr0))))) (by decide)
      have br0_5 : ((lv (.sl tUsage) y.2.2.2.2.2.2.2.2.1 : Nat) : Int) ≤ 1099511628777000 := lv_small (tot_r (tot_r (tot_l (tot_r (tot_r tr0))))) (by decide)
      have br0_6 : ((lv (.sl ti) y.2.2.2.2.2.2.2.2.2.1 : Nat) : Int) ≤ 1099511628777000 := lv_small (tot_l (tot_r (tot_r (tot_r (tot_r tr0))))) (by decide)
      have br0_7 : ((lv (.sl tPacketInFlight) y.2.2.2.2.2.2.2.2.2.2.1 : Nat) : Int) ≤ 1099511628777000 := lv_small (tot_l (tot_r (tot_r (tot_r (tot_r (tot_r tr0)))))) (by decide)
      have br0_8 : ((lv (.sl tFlow) y.2.2.2.2.2.2.2.2.2.2.2.1 : Nat) : Int) ≤ 1099511628777000 := lv_small (tot_l (tot_r (tot_r (tot_r (tot_r (tot_r (tot_r tr0))))))) (by decide)
      have br0_9 : ((lv (.sl tInbox) y.2.2.2.2.2.2.2.2.2.2.2.2 : Nat) : Int) ≤ 1099511628777000 := lv_small (tot_l (tot_r (tot_r (tot_r (tot_r (tot_r (tot_r (tot_r tr0)))))))) (by decide)
      have mr0 := mark_Network (x := ((y.2.2.2.1, y.2.2.2.2.1), (y.2.2.2.2.2.1, y.2.2.2.2.2.2.1), (y.1, y.2.2.2.2.2.2.2.1, y.2.2.2.2.2.2.2.2.1), y.2.1, y.2.2.2.2.2.2.2.2.2.1, y.2.2.2.2.2.2.2.2.2.2.1, y.2.2.2.2.2.2.2.2.2.2.2.1, y.2.2.2.2.2.2.2.2.2.2.2.2, y.2.2.1)) (k := 1) sr0 (by omega) (by first | omega | (simp only; omega))
      have hr0 := held_Network (x := ((y.2.2.2.1, y.2.2.2.2.1), (y.2.2.2.2.2.1, y.2.2.2.2.2.2.1), (y.1, y.2.2.2.2.2.2.2.1, y.2.2.2.2.2.2.2.2.1), y.2.1, y.2.2.2.2.2.2.2.2.2.1, y.2.2.2.2.2.2.2.2.2.2.1, y.2.2.2.2.2.2.2.2.2.2.2.1, y.2.2.2.2.2.2.2.2.2.2.2.2, y.2.2.1)) (k := 1) sr0 (by omega) (by first | omega | (simp only; omega))
      have dr0 : decide (1 + ((lv (.sl tAS) y.2.2.2.1 : Nat) : Int) + ((lv (.sl tLink) y.2.2.2.2.1 : Nat) : Int) + ((lv (.sl tSegment) y.2.2.2.2.2.1 : Nat) : Int) + ((lv (.sl tSegment) y.2.2.2.2.2.2.1 : Nat) : Int) + ((lv (.sl tReservation) y.2.2.2.2.2.2.2.1 : Nat) : Int) + ((lv (.sl tUsage) y.2.2.2.2.2.2.2.2.1 : Nat) : Int) + ((lv (.sl ti) y.2.2.2.2.2.2.2.2.2.1 : Nat) : Int) + ((lv (.sl tPacketInFlight) y.2.2.2.2.2.2.2.2.2.2.1 : Nat) : Int) + ((lv (.sl tFlow) y.2.2.2.2.2.2.2.2.2.2.2.1 : Nat) : Int) + ((lv (.sl tInbox) y.2.2.2.2.2.2.2.2.2.2.2.2 : Nat) : Int) < 0) = false := by simp <;> omega
      simp only [hI, hS, obind_some, both_self, Bool.not_true, Bool.not_false, cond_false, cond_true, bne_self_eq_false, beq_self_eq_true, to0, e0, to1, e1, m0, m1, d, er0, mr0, hr0, dr0]
end Go.Proofs.YtmnjhbhppkploaaGreat.fnExactNewNetwork
