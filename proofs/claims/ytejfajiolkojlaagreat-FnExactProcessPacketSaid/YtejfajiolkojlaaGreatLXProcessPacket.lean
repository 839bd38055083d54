/-
  The plain part of: Law FnExactProcessPacket: for every network, AS, interface and packet ProcessPacket answers as the reference does, leaves them as they were, and answers in memory of its own. Conditions: none.
-/
import Derived.Test.YtejfajiolkojlaaGreatQ1XProcessPacket
set_option linter.unusedVariables false
set_option linter.unusedSimpArgs false
set_option maxRecDepth 100000
namespace Go.Proofs.YtejfajiolkojlaaGreat.fnExactProcessPacket
open Go.Ab Go.V
theorem core_ProcessPacket (a0:den tNw) (a1:Int) (a2:Int) (a3:den tPk) (w0:Wf tNw a0) (w1:Wf ti a1) (w2:Wf ti a2) (w3:Wf tPk a3) (t0:tot tNw a0≤1048576) (t3:tot tPk a3≤1048576): ∃ y,i_ProcessPacket a0 a1 a2 a3=some y∧s_ProcessPacket a0 a1 a2 a3=some (y.2.2.2.1,y.2.2.2.2.1,y.2.2.2.2.2.1,y.2.2.2.2.2.2.1,y.1,y.2.2.2.2.2.2.2.1,y.2.2.2.2.2.2.2.2.1,y.2.1,y.2.2.2.2.2.2.2.2.2.1,y.2.2.1,y.2.2.2.2.2.2.2.2.2.2.1,y.2.2.2.2.2.2.2.2.2.2.2.1,y.2.2.2.2.2.2.2.2.2.2.2.2)∧tot (.sl tAS) y.2.2.2.1≤68719476736∧tot (.sl tLk) y.2.2.2.2.1≤68719476736∧tot (.sl tSg) y.2.2.2.2.2.1≤68719476736∧tot (.sl tSg) y.2.2.2.2.2.2.1≤68719476736∧tot (.sl tRs) y.2.2.2.2.2.2.2.1≤68719476736∧tot (.sl tUs) y.2.2.2.2.2.2.2.2.1≤68719476736∧tot (.sl ti) y.2.2.2.2.2.2.2.2.2.1≤68719476736∧tot (.sl tFy) y.2.2.2.2.2.2.2.2.2.2.1≤68719476736∧tot (.sl tFl) y.2.2.2.2.2.2.2.2.2.2.2.1≤68719476736∧tot (.sl tIb) y.2.2.2.2.2.2.2.2.2.2.2.2≤68719476736:=by
 have hb:bytesP a3:=fun x hx=>w3.2.2.2.2.2.2.2.2.2.2 x hx
 have h0:tot tNw a0≤1073741824:=Nat.le_trans t0 (by decide)
 have h3:tot tPk a3≤536870912:=Nat.le_trans t3 (by decide)
 have hg:=procW_tot a0 a1 a2 a3
 have hF:=(netOk_of h0).flowsN
 exact ⟨_,i_procP h0 h3 hb,s_procP h0 h3 hb,net_rows (w:=procW a0 a1 a2 a3) (by omega)⟩
theorem law (a0:den tNw) (a1:den ti) (a2:den ti) (a3:den tPk) (w0:Wf tNw a0) (w1:Wf ti a1) (w2:Wf ti a2) (w3:Wf tPk a3):l_FnExactProcessPacket a0 a1 a2 a3=some true:=by
 unfold l_FnExactProcessPacket
 obtain ⟨r0,hr0,hs0⟩:=sz_Network (left:=(1048576:Int)) w0 (by decide) (by decide)
 have hr0:l_szNetwork ((a0.1.1,a0.1.2),(a0.2.1.1,a0.2.1.2),(a0.2.2.1.1,a0.2.2.1.2.1,a0.2.2.1.2.2),a0.2.2.2.1,a0.2.2.2.2.1,a0.2.2.2.2.2.1,a0.2.2.2.2.2.2.1,a0.2.2.2.2.2.2.2.1,a0.2.2.2.2.2.2.2.2) (1048576:Int)=some r0:=hr0
 rw [hr0,obind_some]
 rcases hs0 with hs0 | ⟨hp0,hq0⟩
 ·rw [decide_eq_true hs0,cond_true]
 ·rw [decide_eq_false (by omega),cond_false]
  have t0:tot tNw a0≤1048576:=by omega
  obtain ⟨r3,hr3,hs3⟩:=sz_Packet (left:=r0) w3 (by omega) (by omega)
  have hr3:l_szPacket (a3.1,a3.2.1,a3.2.2.1,a3.2.2.2.1,a3.2.2.2.2.1,a3.2.2.2.2.2.1,a3.2.2.2.2.2.2.1,a3.2.2.2.2.2.2.2.1,a3.2.2.2.2.2.2.2.2.1,a3.2.2.2.2.2.2.2.2.2) r0=some r3:=hr3
  rw [hr3,obind_some]
  rcases hs3 with hs3 | ⟨hp3,hq3⟩
  ·rw [decide_eq_true hs3,cond_true]
  ·rw [decide_eq_false (by omega),cond_false]
   have t3:tot tPk a3≤1048576:=by omega
   obtain ⟨y,hI,hS,u0,u1,u2,u3,u4,u5,u6,u7,u8,u9⟩:=core_ProcessPacket a0 a1 a2 a3 w0 w1 w2 w3 t0 t3
   have hI:i_ProcessPacket ((a0.1.1,a0.1.2),(a0.2.1.1,a0.2.1.2),(a0.2.2.1.1,a0.2.2.1.2.1,a0.2.2.1.2.2),a0.2.2.2.1,a0.2.2.2.2.1,a0.2.2.2.2.2.1,a0.2.2.2.2.2.2.1,a0.2.2.2.2.2.2.2.1,a0.2.2.2.2.2.2.2.2) a1 a2 (a3.1,a3.2.1,a3.2.2.1,a3.2.2.2.1,a3.2.2.2.2.1,a3.2.2.2.2.2.1,a3.2.2.2.2.2.2.1,a3.2.2.2.2.2.2.2.1,a3.2.2.2.2.2.2.2.2.1,a3.2.2.2.2.2.2.2.2.2)=some y:=hI
   have hS:s_ProcessPacket ((a0.1.1,a0.1.2),(a0.2.1.1,a0.2.1.2),(a0.2.2.1.1,a0.2.2.1.2.1,a0.2.2.1.2.2),a0.2.2.2.1,a0.2.2.2.2.1,a0.2.2.2.2.2.1,a0.2.2.2.2.2.2.1,a0.2.2.2.2.2.2.2.1,a0.2.2.2.2.2.2.2.2) a1 a2 (a3.1,a3.2.1,a3.2.2.1,a3.2.2.2.1,a3.2.2.2.2.1,a3.2.2.2.2.2.1,a3.2.2.2.2.2.2.1,a3.2.2.2.2.2.2.2.1,a3.2.2.2.2.2.2.2.2.1,a3.2.2.2.2.2.2.2.2.2)=some (y.2.2.2.1,y.2.2.2.2.1,y.2.2.2.2.2.1,y.2.2.2.2.2.2.1,y.1,y.2.2.2.2.2.2.2.1,y.2.2.2.2.2.2.2.2.1,y.2.1,y.2.2.2.2.2.2.2.2.2.1,y.2.2.1,y.2.2.2.2.2.2.2.2.2.2.1,y.2.2.2.2.2.2.2.2.2.2.2.1,y.2.2.2.2.2.2.2.2.2.2.2.2):=hS
   have sm0:Sm tNw a0:=sm_of_tot t0
   have to0:l_toNetwork ((a0.1.1,a0.1.2),(a0.2.1.1,a0.2.1.2),(a0.2.2.1.1,a0.2.2.1.2.1,a0.2.2.1.2.2),a0.2.2.2.1,a0.2.2.2.2.1,a0.2.2.2.2.2.1,a0.2.2.2.2.2.2.1,a0.2.2.2.2.2.2.2.1,a0.2.2.2.2.2.2.2.2)=some (a0.2.2.1.1,a0.2.2.2.1,a0.2.2.2.2.2.2.2.2,a0.1.1,a0.1.2,a0.2.1.1,a0.2.1.2,a0.2.2.1.2.1,a0.2.2.1.2.2,a0.2.2.2.2.1,a0.2.2.2.2.2.1,a0.2.2.2.2.2.2.1,a0.2.2.2.2.2.2.2.1):=to_Network sm0
   have e0:l_eqNetwork ((a0.1.1,a0.1.2),(a0.2.1.1,a0.2.1.2),(a0.2.2.1.1,a0.2.2.1.2.1,a0.2.2.1.2.2),a0.2.2.2.1,a0.2.2.2.2.1,a0.2.2.2.2.2.1,a0.2.2.2.2.2.2.1,a0.2.2.2.2.2.2.2.1,a0.2.2.2.2.2.2.2.2) ((a0.1.1,a0.1.2),(a0.2.1.1,a0.2.1.2),(a0.2.2.1.1,a0.2.2.1.2.1,a0.2.2.1.2.2),a0.2.2.2.1,a0.2.2.2.2.1,a0.2.2.2.2.2.1,a0.2.2.2.2.2.2.1,a0.2.2.2.2.2.2.2.1,a0.2.2.2.2.2.2.2.2)=some true:=eq_Network (x:=a0) (sm0.mono (by decide))
   have sm3:Sm tPk a3:=sm_of_tot t3
   have to3:l_toPacket (a3.1,a3.2.1,a3.2.2.1,a3.2.2.2.1,a3.2.2.2.2.1,a3.2.2.2.2.2.1,a3.2.2.2.2.2.2.1,a3.2.2.2.2.2.2.2.1,a3.2.2.2.2.2.2.2.2.1,a3.2.2.2.2.2.2.2.2.2)=some (a3.1,a3.2.1,a3.2.2.1,a3.2.2.2.2.1,a3.2.2.2.2.2.1,a3.2.2.2.2.2.2.1,a3.2.2.2.2.2.2.2.1,a3.2.2.2.2.2.2.2.2.1,a3.2.2.2.1,a3.2.2.2.2.2.2.2.2.2):=to_Packet sm3
   have e3:l_eqPacket (a3.1,a3.2.1,a3.2.2.1,a3.2.2.2.1,a3.2.2.2.2.1,a3.2.2.2.2.2.1,a3.2.2.2.2.2.2.1,a3.2.2.2.2.2.2.2.1,a3.2.2.2.2.2.2.2.2.1,a3.2.2.2.2.2.2.2.2.2) (a3.1,a3.2.1,a3.2.2.1,a3.2.2.2.1,a3.2.2.2.2.1,a3.2.2.2.2.2.1,a3.2.2.2.2.2.2.1,a3.2.2.2.2.2.2.2.1,a3.2.2.2.2.2.2.2.2.1,a3.2.2.2.2.2.2.2.2.2)=some true:=eq_Packet (x:=a3) (sm3.mono (by decide))
   have ba0_0:((lv (.sl tAS) a0.1.1:Nat):Int)≤1099511628777000:=lv_small (tot_l (tot_l (Nat.le_trans t0 (by decide)))) (by decide)
   have ba0_1:((lv (.sl tLk) a0.1.2:Nat):Int)≤1099511628777000:=lv_small (tot_r (tot_l (Nat.le_trans t0 (by decide)))) (by decide)
   have ba0_2:((lv (.sl tSg) a0.2.1.1:Nat):Int)≤1099511628777000:=lv_small (tot_l (tot_l (tot_r (Nat.le_trans t0 (by decide))))) (by decide)
   have ba0_3:((lv (.sl tSg) a0.2.1.2:Nat):Int)≤1099511628777000:=lv_small (tot_r (tot_l (tot_r (Nat.le_trans t0 (by decide))))) (by decide)
   have ba0_4:((lv (.sl tRs) a0.2.2.1.2.1:Nat):Int)≤1099511628777000:=lv_small (tot_l (tot_r (tot_l (tot_r (tot_r (Nat.le_trans t0 (by decide))))))) (by decide)
   have ba0_5:((lv (.sl tUs) a0.2.2.1.2.2:Nat):Int)≤1099511628777000:=lv_small (tot_r (tot_r (tot_l (tot_r (tot_r (Nat.le_trans t0 (by decide))))))) (by decide)
   have ba0_6:((lv (.sl ti) a0.2.2.2.2.1:Nat):Int)≤1099511628777000:=lv_small (tot_l (tot_r (tot_r (tot_r (tot_r (Nat.le_trans t0 (by decide))))))) (by decide)
   have ba0_7:((lv (.sl tFy) a0.2.2.2.2.2.1:Nat):Int)≤1099511628777000:=lv_small (tot_l (tot_r (tot_r (tot_r (tot_r (tot_r (Nat.le_trans t0 (by decide)))))))) (by decide)
   have ba0_8:((lv (.sl tFl) a0.2.2.2.2.2.2.1:Nat):Int)≤1099511628777000:=lv_small (tot_l (tot_r (tot_r (tot_r (tot_r (tot_r (tot_r (Nat.le_trans t0 (by decide))))))))) (by decide)
   have ba0_9:((lv (.sl tIb) a0.2.2.2.2.2.2.2.1:Nat):Int)≤1099511628777000:=lv_small (tot_l (tot_r (tot_r (tot_r (tot_r (tot_r (tot_r (tot_r (Nat.le_trans t0 (by decide)))))))))) (by decide)
   have m0:=mark_Network (x:=a0) (k:=1) (sm0.mono (by decide)) (by omega) (by omega)
   have m0:l_markNetwork ((a0.1.1,a0.1.2),(a0.2.1.1,a0.2.1.2),(a0.2.2.1.1,a0.2.2.1.2.1,a0.2.2.1.2.2),a0.2.2.2.1,a0.2.2.2.2.1,a0.2.2.2.2.2.1,a0.2.2.2.2.2.2.1,a0.2.2.2.2.2.2.2.1,a0.2.2.2.2.2.2.2.2) (1)=some _:=m0
   have ba3_0:((lv (.sl tPp) a3.2.2.2.1:Nat):Int)≤1099511628777000:=lv_small (tot_l (tot_r (tot_r (tot_r (Nat.le_trans t3 (by decide)))))) (by decide)
   have ba3_1:((lv (.sl tb) a3.2.2.2.2.2.2.2.2.2:Nat):Int)≤1099511628777000:=lv_small (tot_r (tot_r (tot_r (tot_r (tot_r (tot_r (tot_r (tot_r (tot_r (Nat.le_trans t3 (by decide))))))))))) (by decide)
   have m3:=mark_Packet (x:=a3) (k:=1+((lv (.sl tAS) a0.1.1:Nat):Int)+((lv (.sl tLk) a0.1.2:Nat):Int)+((lv (.sl tSg) a0.2.1.1:Nat):Int)+((lv (.sl tSg) a0.2.1.2:Nat):Int)+((lv (.sl tRs) a0.2.2.1.2.1:Nat):Int)+((lv (.sl tUs) a0.2.2.1.2.2:Nat):Int)+((lv (.sl ti) a0.2.2.2.2.1:Nat):Int)+((lv (.sl tFy) a0.2.2.2.2.2.1:Nat):Int)+((lv (.sl tFl) a0.2.2.2.2.2.2.1:Nat):Int)+((lv (.sl tIb) a0.2.2.2.2.2.2.2.1:Nat):Int)) (sm3.mono (by decide)) (by omega) (by omega)
   have m3:l_markPacket (a3.1,a3.2.1,a3.2.2.1,a3.2.2.2.1,a3.2.2.2.2.1,a3.2.2.2.2.2.1,a3.2.2.2.2.2.2.1,a3.2.2.2.2.2.2.2.1,a3.2.2.2.2.2.2.2.2.1,a3.2.2.2.2.2.2.2.2.2) (1+((lv (.sl tAS) a0.1.1:Nat):Int)+((lv (.sl tLk) a0.1.2:Nat):Int)+((lv (.sl tSg) a0.2.1.1:Nat):Int)+((lv (.sl tSg) a0.2.1.2:Nat):Int)+((lv (.sl tRs) a0.2.2.1.2.1:Nat):Int)+((lv (.sl tUs) a0.2.2.1.2.2:Nat):Int)+((lv (.sl ti) a0.2.2.2.2.1:Nat):Int)+((lv (.sl tFy) a0.2.2.2.2.2.1:Nat):Int)+((lv (.sl tFl) a0.2.2.2.2.2.2.1:Nat):Int)+((lv (.sl tIb) a0.2.2.2.2.2.2.2.1:Nat):Int))=some _:=m3
   have d:decide (1+((lv (.sl tAS) a0.1.1:Nat):Int)+((lv (.sl tLk) a0.1.2:Nat):Int)+((lv (.sl tSg) a0.2.1.1:Nat):Int)+((lv (.sl tSg) a0.2.1.2:Nat):Int)+((lv (.sl tRs) a0.2.2.1.2.1:Nat):Int)+((lv (.sl tUs) a0.2.2.1.2.2:Nat):Int)+((lv (.sl ti) a0.2.2.2.2.1:Nat):Int)+((lv (.sl tFy) a0.2.2.2.2.2.1:Nat):Int)+((lv (.sl tFl) a0.2.2.2.2.2.2.1:Nat):Int)+((lv (.sl tIb) a0.2.2.2.2.2.2.2.1:Nat):Int)+((lv (.sl tPp) a3.2.2.2.1:Nat):Int)+((lv (.sl tb) a3.2.2.2.2.2.2.2.2.2:Nat):Int)<0)=false:=by simp<;>omega
   have tr0:tot tNw ((y.2.2.2.1,y.2.2.2.2.1),(y.2.2.2.2.2.1,y.2.2.2.2.2.2.1),(y.1,y.2.2.2.2.2.2.2.1,y.2.2.2.2.2.2.2.2.1),y.2.1,y.2.2.2.2.2.2.2.2.2.1,y.2.2.2.2.2.2.2.2.2.2.1,y.2.2.2.2.2.2.2.2.2.2.2.1,y.2.2.2.2.2.2.2.2.2.2.2.2,y.2.2.1)≤1099511627776:=by
    have h:=Nat.le_refl 0
    simp only [tot_pair,tot_int,tot_bool,tot_str]
    omega
   have sr0:SmB 4611686018427387904 tNw ((y.2.2.2.1,y.2.2.2.2.1),(y.2.2.2.2.2.1,y.2.2.2.2.2.2.1),(y.1,y.2.2.2.2.2.2.2.1,y.2.2.2.2.2.2.2.2.1),y.2.1,y.2.2.2.2.2.2.2.2.2.1,y.2.2.2.2.2.2.2.2.2.2.1,y.2.2.2.2.2.2.2.2.2.2.2.1,y.2.2.2.2.2.2.2.2.2.2.2.2,y.2.2.1):=(sm_of_tot tr0).mono (by decide)
   have er0:l_eqNetwork ((y.2.2.2.1,y.2.2.2.2.1),(y.2.2.2.2.2.1,y.2.2.2.2.2.2.1),(y.1,y.2.2.2.2.2.2.2.1,y.2.2.2.2.2.2.2.2.1),y.2.1,y.2.2.2.2.2.2.2.2.2.1,y.2.2.2.2.2.2.2.2.2.2.1,y.2.2.2.2.2.2.2.2.2.2.2.1,y.2.2.2.2.2.2.2.2.2.2.2.2,y.2.2.1) ((y.2.2.2.1,y.2.2.2.2.1),(y.2.2.2.2.2.1,y.2.2.2.2.2.2.1),(y.1,y.2.2.2.2.2.2.2.1,y.2.2.2.2.2.2.2.2.1),y.2.1,y.2.2.2.2.2.2.2.2.2.1,y.2.2.2.2.2.2.2.2.2.2.1,y.2.2.2.2.2.2.2.2.2.2.2.1,y.2.2.2.2.2.2.2.2.2.2.2.2,y.2.2.1)=some true:=eq_Network sr0
   have br0_0:((lv (.sl tAS) y.2.2.2.1:Nat):Int)≤1099511628777000:=lv_small (tot_l (tot_l tr0)) (by decide)
   have br0_1:((lv (.sl tLk) y.2.2.2.2.1:Nat):Int)≤1099511628777000:=lv_small (tot_r (tot_l tr0)) (by decide)
   have br0_2:((lv (.sl tSg) y.2.2.2.2.2.1:Nat):Int)≤1099511628777000:=lv_small (tot_l (tot_l (tot_r tr0))) (by decide)
   have br0_3:((lv (.sl tSg) y.2.2.2.2.2.2.1:Nat):Int)≤1099511628777000:=lv_small (tot_r (tot_l (tot_r tr0))) (by decide)
   have br0_4:((lv (.sl tRs) y.2.2.2.2.2.2.2.1:Nat):Int)≤1099511628777000:=lv_small (tot_l (tot_r (tot_l (tot_r (tot_r tr0))))) (by decide)
   have br0_5:((lv (.sl tUs) y.2.2.2.2.2.2.2.2.1:Nat):Int)≤1099511628777000:=lv_small (tot_r (tot_r (tot_l (tot_r (tot_r tr0))))) (by decide)
   have br0_6:((lv (.sl ti) y.2.2.2.2.2.2.2.2.2.1:Nat):Int)≤1099511628777000:=lv_small (tot_l (tot_r (tot_r (tot_r (tot_r tr0))))) (by decide)
   have br0_7:((lv (.sl tFy) y.2.2.2.2.2.2.2.2.2.2.1:Nat):Int)≤1099511628777000:=lv_small (tot_l (tot_r (tot_r (tot_r (tot_r (tot_r tr0)))))) (by decide)
   have br0_8:((lv (.sl tFl) y.2.2.2.2.2.2.2.2.2.2.2.1:Nat):Int)≤1099511628777000:=lv_small (tot_l (tot_r (tot_r (tot_r (tot_r (tot_r (tot_r tr0))))))) (by decide)
   have br0_9:((lv (.sl tIb) y.2.2.2.2.2.2.2.2.2.2.2.2:Nat):Int)≤1099511628777000:=lv_small (tot_l (tot_r (tot_r (tot_r (tot_r (tot_r (tot_r (tot_r tr0)))))))) (by decide)
   have mr0:=mark_Network (x:=((y.2.2.2.1,y.2.2.2.2.1),(y.2.2.2.2.2.1,y.2.2.2.2.2.2.1),(y.1,y.2.2.2.2.2.2.2.1,y.2.2.2.2.2.2.2.2.1),y.2.1,y.2.2.2.2.2.2.2.2.2.1,y.2.2.2.2.2.2.2.2.2.2.1,y.2.2.2.2.2.2.2.2.2.2.2.1,y.2.2.2.2.2.2.2.2.2.2.2.2,y.2.2.1)) (k:=1) sr0 (by omega) (by first | omega | (simp only;omega))
   have hr0:=held_Network (x:=((y.2.2.2.1,y.2.2.2.2.1),(y.2.2.2.2.2.1,y.2.2.2.2.2.2.1),(y.1,y.2.2.2.2.2.2.2.1,y.2.2.2.2.2.2.2.2.1),y.2.1,y.2.2.2.2.2.2.2.2.2.1,y.2.2.2.2.2.2.2.2.2.2.1,y.2.2.2.2.2.2.2.2.2.2.2.1,y.2.2.2.2.2.2.2.2.2.2.2.2,y.2.2.1)) (k:=1) sr0 (by omega) (by first | omega | (simp only;omega))
   have dr0:decide (1+((lv (.sl tAS) y.2.2.2.1:Nat):Int)+((lv (.sl tLk) y.2.2.2.2.1:Nat):Int)+((lv (.sl tSg) y.2.2.2.2.2.1:Nat):Int)+((lv (.sl tSg) y.2.2.2.2.2.2.1:Nat):Int)+((lv (.sl tRs) y.2.2.2.2.2.2.2.1:Nat):Int)+((lv (.sl tUs) y.2.2.2.2.2.2.2.2.1:Nat):Int)+((lv (.sl ti) y.2.2.2.2.2.2.2.2.2.1:Nat):Int)+((lv (.sl tFy) y.2.2.2.2.2.2.2.2.2.2.1:Nat):Int)+((lv (.sl tFl) y.2.2.2.2.2.2.2.2.2.2.2.1:Nat):Int)+((lv (.sl tIb) y.2.2.2.2.2.2.2.2.2.2.2.2:Nat):Int)<0)=false:=by simp<;>omega
   simp only [hI,hS,obind_some,both_self,dup_self,dup3_self,dup4_self,dup5_self,Bool.not_true,Bool.not_false,cond_false,cond_true,bne_self_eq_false,beq_self_eq_true,to0,e0,to3,e3,m0,m3,d,er0,mr0,hr0,dr0]
end Go.Proofs.YtejfajiolkojlaaGreat.fnExactProcessPacket
