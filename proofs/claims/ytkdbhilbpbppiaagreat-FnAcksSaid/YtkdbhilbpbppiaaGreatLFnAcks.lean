/-
  The plain part of: Law FnAcks: for every code an acknowledgement lets the next message be sent, one for something else changes nothing, and a revocation changes the path exactly if it affects it. Conditions: none.
-/
import Derived.Test.YtkdbhilbpbppiaaGreatQ0FnAcks
set_option linter.unusedVariables false
set_option linter.unusedSimpArgs false
set_option maxRecDepth 100000
namespace Go.Proofs.YtkdbhilbpbppiaaGreat.fnAcks
open Go.Ab Go.V
theorem law (a0:den (.sl tb)) (w0:Wf (.sl tb) a0):l_FnAcks a0=some true:=by
 unfold l_FnAcks l_big
 rw [obind_some]
 by_cases hb:(a0.length:Int)>(1048576:Int)
 ·rw [decide_eq_true hb,cond_true]
 rw [decide_eq_false hb,cond_false]
 have hl:a0.length≤1048576:=by omega
 obtain ⟨f,k,e1,tf,⟨f0,f1⟩,kd⟩:=ack_ans hl
 obtain ⟨g,q,e2,tg,qd⟩:=rev_ans hl
 have sf:SmB 68719476736 tFl f:=(sm_of_tot (B:=3000) tf).mono (by decide)
 have ia:=i_handA (f:=f) (p:=k) sf
 have sa:=s_handA (f:=f) (p:=k) sf
 have qt:tot tPk q≤1073741824:=Nat.le_trans (pktD_tot qd) (by decide)
 have gt:tot tFl g≤1073741824:=Nat.le_trans tg (by decide)
 have ir:=i_handR (f:=g) (p:=q) (now:=50) gt qt qd.bytes
 have sr:=s_handR (f:=g) (p:=q) (now:=50) gt qt qd.bytes
 have idc:=i_decV (b:=q.2.2.2.2.2.2.2.2.2) qd.bytes (by have :=qd.len;omega)
 have ht:SmB 1000000 tFl (handA f k):=by
  have h:=(sm_of_tot (B:=3000) tf).mono (C:=1000000) (by decide)
  unfold handA
  split
  ·exact h
  ·exact h
 have hr:SmB 1000000 tFl (handR g q):=by
  have h:=(sm_of_tot (B:=3000) tg).mono (C:=100000) (by decide)
  have h':=h.mono (C:=1000000) (by decide)
  unfold handR
  cases q.1==3&&(decV q.2.2.2.2.2.2.2.2.2).2.2.2 with
  | false=>exact h'
  | true=>
   refine ⟨trivial,trivial,trivial,trivial,h'.2.2.2.2.1,h'.2.2.2.2.2.1,trivial,trivial,?_,fun e he=>⟨trivial,trivial,trivial⟩⟩
   exact Nat.le_trans (addV_len1 _ _) (by have :=h.2.2.2.2.2.2.2.2.1;omega)
 have eqA:l_sameFlow (handA f k) (handA f k)=some true:=by
  obtain ⟨v,e,c⟩:=flow_cmp (a:=handA f k) (b:=handA f k) ht
  rw [e,c rfl]
 have eqR:l_sameFlow (handR g q) (handR g q)=some true:=by
  obtain ⟨v,e,c⟩:=flow_cmp (a:=handR g q) (b:=handR g q) hr
  rw [e,c rfl]
 have bodies:l_sameBodies (handR g q).2.2.2.2.1 g.2.2.2.2.1=some true:=by
  have hm:(handR g q).2.2.2.2.1=g.2.2.2.2.1:=by unfold handR;cases q.1==3&&(decV q.2.2.2.2.2.2.2.2.2).2.2.2<;>rfl
  obtain ⟨v,e,c⟩:=bodies_cmp (a:=(handR g q).2.2.2.2.1) (b:=g.2.2.2.2.1) hr.2.2.2.2.1.1 (fun m hm=>(hr.2.2.2.2.1.2 m hm).1)
  rw [e,c hm]
 have ackEq:(handR g q).2.2.2.1=g.2.2.2.1:=by unfold handR;cases q.1==3&&(decV q.2.2.2.2.2.2.2.2.2).2.2.2<;>rfl
 have aff: ∀ x,hitR g (readV q.2.2.2.2.2.2.2.2.2)=false→q.1=3→(decV q.2.2.2.2.2.2.2.2.2).2.2.2=true→x=handR g q→x.2.2.2.2.2.2.1=g.2.2.2.2.2.2.1∧x.2.2.2.2.2.2.2.1=g.2.2.2.2.2.2.2.1:=by
  intro x h1 h2 h3 h4
  rw [h4]
  unfold handR
  rw [h2,h3,h1]
  exact ⟨rfl,rfl⟩
 have none': ¬ (q.1=3∧(decV q.2.2.2.2.2.2.2.2.2).2.2.2=true)→handR g q=g:=by
  intro h
  unfold handR
  cases h1:q.1==3
  ·rfl
  ·cases h2:(decV q.2.2.2.2.2.2.2.2.2).2.2.2
   ·rfl
   ·exact absurd ⟨by simpa using h1,h2⟩ h
 have acksF:acks f k=true→f.2.2.2.1≤(1001:Int):=fun _=>f1
 have hA: ∃ b,(cond ((handA f k).2.2.2.1==f.2.2.2.1) (Option.bind (l_sameFlow (handA f k) f) fun y11=>cond (!y11) (some true) (cond (decide ((handA f k).2.2.2.1>(wr (f.2.2.2.1+(1:Int))))) (some true) (some (decide ((handA f k).2.2.2.1<f.2.2.2.1))))) (cond (decide ((handA f k).2.2.2.1>(wr (f.2.2.2.1+(1:Int))))) (some true) (some (decide ((handA f k).2.2.2.1<f.2.2.2.1)))))=some b∧b=false:=by
  obtain ⟨n,hn⟩: ∃ n:Int,f.2.2.2.1=n:=⟨_,rfl⟩
  have n0: -1≤n:=by rw [← hn];exact f0
  have n1:n≤1001:=by rw [← hn];exact f1
  have hw:wr (n+1)=n+1:=wr_small (by omega) (by omega)
  by_cases ha:acks f k=true
  ·have e:(handA f k).2.2.2.1=n+1:=by
    unfold handA
    rw [if_pos ha]
    show wr (f.2.2.2.1+1)=n+1
    rw [hn];exact hw
   rw [e,hn,hw,show (n+1==n)=false by rw [beq_eq_false_iff_ne];omega,cond_false,decide_eq_false (show ¬ n+1>n+1 by omega),cond_false,decide_eq_false (show ¬ n+1<n by omega)]
   exact ⟨_,rfl,rfl⟩
  ·have e:handA f k=f:=by unfold handA;rw [if_neg ha]
   rw [e] at eqA ⊢
   rw [hn,beq_self_eq_true,cond_true,eqA,obind_some,hw,Bool.not_true,cond_false,decide_eq_false (show ¬ n>n+1 by omega),cond_false,decide_eq_false (show ¬ n<n by omega)]
   exact ⟨_,rfl,rfl⟩
 obtain ⟨_,hA,rfl⟩:=hA
 obtain ⟨f1',f2',f3',f4',fm,fp,fc,fw,fr⟩:=f
 obtain ⟨k1',k2',k3',kp,k5',k6',k7',k8',k9',kb⟩:=k
 obtain ⟨g1',g2',g3',g4',gm,gp,gc,gw,gr⟩:=g
 obtain ⟨q1',q2',q3',qp,q5',q6',q7',q8',q9',qb⟩:=q
 generalize handA (f1',f2',f3',f4',fm,fp,fc,fw,fr) (k1',k2',k3',kp,k5',k6',k7',k8',k9',kb)=X at *
 simp only at e1 e2
 have eqA:l_sameFlow (X.1,X.2.1,X.2.2.1,X.2.2.2.1,X.2.2.2.2.1,X.2.2.2.2.2.1,X.2.2.2.2.2.2.1,X.2.2.2.2.2.2.2.1,X.2.2.2.2.2.2.2.2) (X.1,X.2.1,X.2.2.1,X.2.2.2.1,X.2.2.2.2.1,X.2.2.2.2.2.1,X.2.2.2.2.2.2.1,X.2.2.2.2.2.2.2.1,X.2.2.2.2.2.2.2.2)=some true:=eqA
 have hitg: ∀ p,idx gp gc=some p→inR gc 0 ((gp.length:Int) - 1)=true→hitR (g1',g2',g3',g4',gm,gp,gc,gw,gr) (readV qb)=affects p (readV qb):=by
  intro p hp hr
  obtain ⟨h0,h1⟩:=inR_iff.1 hr
  have hp2:gp[gc.toNat]? =some p:=by
   obtain ⟨m,rfl⟩:=Int.eq_ofNat_of_zero_le h0
   rw [idx_nat] at hp
   exact hp
  unfold hitR
  simp only [hr,Bool.true_and,hp2,Option.getD_some]
 generalize handR (g1',g2',g3',g4',gm,gp,gc,gw,gr) (q1',q2',q3',qp,q5',q6',q7',q8',q9',qb)=Y at *
 have eqR:l_sameFlow (Y.1,Y.2.1,Y.2.2.1,Y.2.2.2.1,Y.2.2.2.2.1,Y.2.2.2.2.2.1,Y.2.2.2.2.2.2.1,Y.2.2.2.2.2.2.2.1,Y.2.2.2.2.2.2.2.2) (Y.1,Y.2.1,Y.2.2.1,Y.2.2.2.1,Y.2.2.2.2.1,Y.2.2.2.2.2.1,Y.2.2.2.2.2.2.1,Y.2.2.2.2.2.2.2.1,Y.2.2.2.2.2.2.2.2)=some true:=eqR
 simp only [flowR] at ia sa ir
 simp only [flowV] at sr
 simp only at idc aff none' ackEq bodies
 have hA:(cond (X.2.2.2.1==f4') (Option.bind (l_sameFlow (X.1,X.2.1,X.2.2.1,X.2.2.2.1,X.2.2.2.2.1,X.2.2.2.2.2.1,X.2.2.2.2.2.2.1,X.2.2.2.2.2.2.2.1,X.2.2.2.2.2.2.2.2) (f1',f2',f3',f4',fm,fp,fc,fw,fr)) fun y11=>cond (!y11) (some true) (cond (decide (X.2.2.2.1>(wr (f4'+(1:Int))))) (some true) (some (decide (X.2.2.2.1<f4'))))) (cond (decide (X.2.2.2.1>(wr (f4'+(1:Int))))) (some true) (some (decide (X.2.2.2.1<f4')))))=some false:=hA
 simp only [e1,e2,obind_some,ia,sa,ir,sr,eqA,eqR,Bool.not_true,cond_false,idc]
 rw [hA]
 simp only [obind_some,cond_false]
 by_cases hn:q1'=3∧(decV qb).2.2.2=true
 ·have h1:(q1' != (3:Int))=false:=by rw [hn.1];rfl
  rw [h1,hn.2]
  simp only [cond_false,Bool.not_true,obind_some]
  by_cases hr:inR gc 0 ((gp.length:Int) - 1)=true
  ·obtain ⟨h0,h2⟩:=inR_iff.1 hr
   obtain ⟨p,hp,ip⟩: ∃ p,gp[gc.toNat]? =some p∧idx gp gc=some p:=by
    obtain ⟨m,hm⟩:=Int.eq_ofNat_of_zero_le h0
    have hml:m<gp.length:=by omega
    exact ⟨gp[m],by rw [hm,Int.toNat_natCast,List.getElem?_eq_getElem hml],by rw [hm,idx_nat,List.getElem?_eq_getElem hml]⟩
   have hpt:tot tPt p≤1073741824:=by
    obtain ⟨s,u,e⟩:=List.append_of_mem (List.mem_of_getElem? hp)
    rw [flow_tot,e,tot_app,tot_cons] at gt
    omega
   have hit:=hitg p ip hr
   have iaf:=i_affects (x:=readV qb) hpt
   have iaf:i_Affects p ((decV qb).1,(decV qb).2.1,(decV qb).2.2.1)=some (affects p (readV qb)):=iaf
   have d1:decide (gc≥(0:Int))=true:=decide_eq_true h0
   have d2:decide (gc<(gp.length:Int))=true:=decide_eq_true (Int.lt_of_le_sub_one h2)
   simp only [d1,d2,cond_true,ip,obind_some,iaf]
   cases haf:affects p (readV qb) with
   | true=>
    simp only [Bool.not_true,cond_false,ackEq,beq_self_eq_true,cond_true,bodies,obind_some]
   | false=>
    obtain ⟨z1,z2⟩:=aff Y (by rw [hit,haf]) hn.1 hn.2 rfl
    simp only [Bool.not_false,cond_true,z1,z2,beq_self_eq_true,obind_some]
  ·have hb2:(cond (decide (gc≥(0:Int))) (cond (decide (gc<(gp.length:Int))) (Option.bind (idx gp gc) fun x16=>Option.bind (i_Affects x16 ((decV qb).1,(decV qb).2.1,(decV qb).2.2.1)) fun y17=>some (!y17)) (some false)) (some false))=some false:=by
    by_cases d1:gc≥(0:Int)
    ·rw [decide_eq_true d1,cond_true]
     by_cases d2:gc<(gp.length:Int)
     ·exact absurd (inR_iff.2 ⟨d1,Int.le_sub_one_of_lt d2⟩) hr
     ·rw [decide_eq_false d2,cond_false]
    ·rw [decide_eq_false d1,cond_false]
   rw [hb2,obind_some,cond_false]
   simp only [ackEq,beq_self_eq_true,cond_true,bodies,obind_some]
 ·have hY:=none' hn
  have h1:(cond (q1' != (3:Int)) (some true) (some (!(decV qb).2.2.2)))=some true:=by
   cases h3:q1' != (3:Int)
   ·cases h4:(decV qb).2.2.2
    ·rfl
    ·exact absurd ⟨by simpa using h3,h4⟩ hn
   ·rfl
  rw [h1,obind_some,cond_true]
  rw [hY] at eqR ⊢
  simp only at eqR
  simp only [eqR,obind_some]
end Go.Proofs.YtkdbhilbpbppiaaGreat.fnAcks
