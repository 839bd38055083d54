/-
  The plain part of: Law FnInboxes: for every code messages are received in order, each once, and are acknowledged exactly if they were received. Conditions: none.
-/
import Derived.Test.YtkdbhilbpbppiaaGreatQ0FnInboxes
set_option linter.unusedVariables false
set_option linter.unusedSimpArgs false
set_option maxRecDepth 100000
namespace Go.Proofs.YtkdbhilbpbppiaaGreat.fnInboxes
open Go.Ab Go.V
theorem i_findX2 {l:List (den tIb)} {a b:Int} (h:l.length≤68719476736):i_FindInbox l a b=some (findX l a b):=by
 unfold i_FindInbox findX
 rw [loop_scan (l:=l) (fun k x=>if atFrom a b x then some (k:Int) else none) (by omega) (fun k x hi hd hw hm hk=>by
  simp only [hd,hi,hw,cond_true,obind_some]
  unfold atFrom
  cases x.1==a<;>cases x.2.1==b<;>rfl) (by simp),scan_find (atFrom a b)]
 cases l.findIdx? (atFrom a b)<;>rfl
theorem boxes_alike {a b:den tIb} (ha:BoxD 3 a) (hb:BoxD 3 b): ∃ v,i_EqualInboxes a b=some v∧l_sameBox a b=some v:=by
 obtain ⟨v,e1,e2⟩:=cmpI_same (msgs_cmpI (a:=a.2.2.2) (b:=b.2.2.2) (Nat.le_trans ha.len (by decide)) (fun m hm=>(ha.msg m hm).2) (fun m hm=>(hb.msg m hm).2)) (bodies_cmpI (a:=a.2.2.2) (b:=b.2.2.2) (Nat.le_trans ha.len (by decide)) (fun m hm=>Nat.le_trans (ha.msg m hm).1 (by decide)))
 unfold i_EqualInboxes l_sameBox
 rw [e1,e2,obind_some]
 cases a.1==b.1
 ·exact ⟨_,rfl,rfl⟩
 ·cases a.2.1==b.2.1
  ·exact ⟨_,rfl,rfl⟩
  ·cases a.2.2.1==b.2.2.1<;>exact ⟨_,rfl,rfl⟩
theorem handD_twice {x:den tIb} {k:den tPk} (hx0:(0:Int)≤x.2.2.1):handD (handD x k) k=handD x k:=by
 by_cases h:takes x k=true
 ·have e:handD x k=(x.1,x.2.1,wr (x.2.2.1+1),x.2.2.2++[k.2.2.2.2.2.2.2.2.2]):=by unfold handD;rw [if_pos h]
  have hn: ¬ takes (handD x k) k=true:=by
   rw [e]
   unfold takes at h ⊢
   simp only [Bool.and_eq_true,beq_iff_eq,decide_eq_true_eq] at h ⊢
   rintro ⟨_,h2,h3⟩
   obtain ⟨_,h4,h5⟩:=h
   obtain ⟨n,hx⟩: ∃ n:Int,x.2.2.1=n:=⟨_,rfl⟩
   rw [hx] at h2 h4 h5 hx0
   rw [h4] at h2
   have h6:n=wr (n+1):=h2
   have h5:n<20:=h5
   rw [wr_small (n:=n+1) (by omega) (by omega)] at h6;omega
  unfold handD at hn ⊢
  rw [if_neg hn]
 ·have e:handD x k=x:=by unfold handD;rw [if_neg h]
  rw [e,e]
theorem law (a0:den (.sl tb)) (w0:Wf (.sl tb) a0):l_FnInboxes a0=some true:=by
 unfold l_FnInboxes l_big
 rw [obind_some]
 by_cases hb:(a0.length:Int)>(1048576:Int)
 ·rw [decide_eq_true hb,cond_true]
 rw [decide_eq_false hb,cond_false]
 have hl:a0.length≤1048576:=by omega
 obtain ⟨x,k,e1,bx,kd⟩:=data_ans hl
 obtain ⟨fa,fb,fl,e2,hfl⟩:=findXd_ans hl
 obtain ⟨cf,cx,e3,hcf,hcx⟩:=consXd_ans hl
 obtain ⟨p,q,e4,bp,bq⟩:=equalXd_ans hl
 obtain ⟨na,nb,e5⟩:=newXd_ans hl
 have hk:SmB 4294967296 tPk k:=(sm_of_tot (B:=1018) (pktD_tot kd)).mono (by decide)
 have hx:=box_sm bx
 have ih:=i_handD hx hk
 have sh:=s_handD hx hk
 have kpt:tot tPt k.2.2.2.1≤34359738368:=Nat.le_trans (path_tot kd.path) (by decide)
 have ia:=i_mkAck (x:=handD x k) kpt
 have sa:=s_mkAck (x:=handD x k) kpt
 have fi:=i_findX2 (l:=fl) (a:=fa) (b:=fb) (by omega)
 have fs:=s_findX (l:=fl) (a:=fa) (b:=fb) (by omega)
 have ci:=i_consist (f:=cf) (x:=cx) (by omega) (by omega)
 have cs:=s_consist (f:=cf) (x:=cx) (by omega) (by omega)
 obtain ⟨vb,eb1,eb2⟩:=boxes_alike bp bq
 have xi:=i_xOk (x:=x) (Nat.le_trans bx.len (by decide))
 have xs:=s_xOk (x:=x) (Nat.le_trans bx.len (by decide))
 have by4:(handD x k).2.2.2.length≤x.2.2.2.length+1∧(∀ m:List Int,m∈(show List (List Int) from (handD x k).2.2.2)→m.length≤1000)∧(handD x k).2.2.2.take x.2.2.2.length=x.2.2.2∧x.2.2.2.length≤(handD x k).2.2.2.length:=by
  unfold handD
  split
  ·refine ⟨by simp,fun m hm=> ?_,by simp,by simp⟩
   rcases List.mem_append.1 hm with hm | hm
   ·exact (bx.msg m hm).1
   ·rw [List.mem_singleton.1 hm];exact kd.len
  ·exact ⟨by omega,fun m hm=>(bx.msg m hm).1,by simp,Nat.le_refl _⟩
 obtain ⟨y1,y2,y3,y4⟩:=by4
 have hxl:=bx.len
 have eqY:l_sameBox (handD x k) (handD x k)=some true:=by
  obtain ⟨v,e,c⟩:=box_cmp (a:=handD x k) (b:=handD x k) (by omega) (fun m hm=>Nat.le_trans (y2 m hm) (by decide))
  rw [e,c rfl]
 have eqB:l_sameBodies ((handD x k).2.2.2.take x.2.2.2.length) x.2.2.2=some true:=by
  rw [y3]
  obtain ⟨v,e,c⟩:=bodies_cmp (a:=x.2.2.2) (b:=x.2.2.2) (by omega) (fun m hm=>Nat.le_trans (bx.msg m hm).1 (by decide))
  rw [e,c rfl]
 have eqA:l_samePacket (mkAck (handD x k) k) (mkAck (handD x k) k)=some true:=by
  obtain ⟨v,e,c⟩:=pkt_cmp (a:=mkAck (handD x k) k) (b:=mkAck (handD x k) k) ((sm_of_tot (B:=1018) (Nat.le_trans (mkAck_tot _ _) (pktD_tot kd))).mono (by decide))
  rw [e,c rfl]
 have eqN:l_sameBox (na,nb,0,[]) (na,nb,0,[])=some true:=by
  obtain ⟨v,e,c⟩:=box_cmp (a:=(na,nb,0,[])) (b:=(na,nb,0,[])) (by simp) (fun m hm=>(List.not_mem_nil hm).elim)
  rw [e,c rfl]
 have inew:i_NewInbox na nb=some (na,nb,0,[]):=rfl
 have hy:SmB 4294967296 tIb (handD x k):=⟨trivial,trivial,trivial,by omega,fun m hm=>⟨Nat.le_trans (y2 m hm) (by decide),fun e he=>trivial⟩⟩
 have ih2:=i_handD hy hk
 have aok:ackB (handD x k) k=true→k.2.2.2.2.2.2.2.2.1<(handD x k).2.2.1∧(mkAck (handD x k) k).1=2∧(mkAck (handD x k) k).2.2.2.2.2.2.2.2.1=k.2.2.2.2.2.2.2.2.1:=by
  intro h
  refine ⟨?_,?_,?_⟩
  ·unfold ackB at h
   simp only [Bool.and_eq_true,Bool.not_eq_true',decide_eq_false_iff_not] at h
   exact Int.not_le.1 h.2
  ·unfold mkAck;rw [if_pos h];rfl
  ·unfold mkAck;rw [if_pos h];rfl
 have twice:xOk x=true→handD (handD x k) k=handD x k:=by
  intro h
  refine handD_twice ?_
  unfold xOk at h
  simp only [Bool.and_eq_true,beq_iff_eq] at h
  rw [h.2.2.2.1]
  exact Int.natCast_nonneg _
 obtain ⟨x1,x2,x3,xm⟩:=x
 obtain ⟨k1',k2',k3',kp,k5',k6',k7',k8',k9',kb⟩:=k
 obtain ⟨c1',c2',c3',c4',cm,cp,cc,cw,cr⟩:=cf
 obtain ⟨d1',d2',d3',dm⟩:=cx
 obtain ⟨p1',p2',p3',pm⟩:=p
 obtain ⟨q1',q2',q3',qm⟩:=q
 simp only at e1 e3 e4
 generalize handD (x1,x2,x3,xm) (k1',k2',k3',kp,k5',k6',k7',k8',k9',kb)=Y at *
 generalize mkAck Y (k1',k2',k3',kp,k5',k6',k7',k8',k9',kb)=A at *
 simp only [pkB] at ia sa
 have eqA:l_samePacket (A.1,A.2.1,A.2.2.1,A.2.2.2.1,A.2.2.2.2.1,A.2.2.2.2.2.1,A.2.2.2.2.2.2.1,A.2.2.2.2.2.2.2.1,A.2.2.2.2.2.2.2.2.1,A.2.2.2.2.2.2.2.2.2) (A.1,A.2.1,A.2.2.1,A.2.2.2.1,A.2.2.2.2.1,A.2.2.2.2.2.1,A.2.2.2.2.2.2.1,A.2.2.2.2.2.2.2.1,A.2.2.2.2.2.2.2.2.1,A.2.2.2.2.2.2.2.2.2)=some true:=eqA
 have ia:i_MakeAck (Y.1,Y.2.1,Y.2.2.1,Y.2.2.2) (k1',k2',k3',kp,k5',k6',k7',k8',k9',kb)=_:=ia
 have sa:s_MakeAck (Y.1,Y.2.1,Y.2.2.1,Y.2.2.2) (k1',k2',k3',kp,k5',k6',k7',k8',k9',kb)=_:=sa
 have ih2:i_HandleData (Y.1,Y.2.1,Y.2.2.1,Y.2.2.2) (k1',k2',k3',kp,k5',k6',k7',k8',k9',kb)=_:=ih2
 have eqY:l_sameBox (Y.1,Y.2.1,Y.2.2.1,Y.2.2.2) (Y.1,Y.2.1,Y.2.2.1,Y.2.2.2)=some true:=eqY
 simp only [e1,obind_some,ih,sh,ia,sa,both_self,dup_self,dup3_self,dup4_self,dup5_self,e2,e3,e4,e5,eqY,eqA,fi,fs,ci,cs,eb1,eb2,inew,newX_s,eqN,xi,xs,Bool.not_true,cond_false,beq_self_eq_true,bne_self_eq_false]
 cases hv:xOk (x1,x2,x3,xm) with
 | false=>simp only [Bool.not_false,cond_true]
 | true=>
  have tw:=twice hv
  rw [tw] at ih2
  have hyl:Y.2.2.2.length≤xm.length+1:=y1
  have hyt:xm.length≤Y.2.2.2.length:=y4
  have hxl:xm.length≤3:=hxl
  have hw:wr ((xm.length:Int)+1)=((xm.length+1:Nat):Int):=wr_succ (by omega)
  have hs:slOk (0:Int) (xm.length:Int) (Y.2.2.2.length:Int)=true:=slOk_to hyt
  have hd:decide ((Y.2.2.2.length:Int)>((xm.length+1:Nat):Int))=false:=decide_eq_false (by omega)
  simp only [Bool.not_true,cond_false,ih2,obind_some,eqY,hw,hd,hs,cond_true,cut_take,eqB]
  cases ho:ackB Y (k1',k2',k3',kp,k5',k6',k7',k8',k9',kb) with
  | false=>simp only [Bool.not_false,cond_true,obind_some]
  | true=>
   obtain ⟨o1,o2,o3⟩:=aok ho
   have o1:k9'<Y.2.2.1:=o1
   have o3:A.2.2.2.2.2.2.2.2.1=k9':=o3
   have o4:decide (k9'<Y.2.2.1)=true:=decide_eq_true o1
   simp only [Bool.not_true,cond_false,o4,cond_true,o2,o3,beq_self_eq_true,obind_some]
end Go.Proofs.YtkdbhilbpbppiaaGreat.fnInboxes
