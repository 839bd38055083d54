/-
  The plain part of: Law FnFlows: for every code messages are sent one after the other, and without an acknowledgement the flow changes to the next path in turn. Conditions: none.
-/
import Derived.Test.YtkdbhilbpbppiaaGreatQ0FnFlows
set_option linter.unusedVariables false
set_option linter.unusedSimpArgs false
set_option maxRecDepth 100000
namespace Go.Proofs.YtkdbhilbpbppiaaGreat.fnFlows
open Go.Ab Go.V
theorem flow_self {f:den tFl} (h:SmB 1000000 tFl f):l_sameFlow (f.1,f.2.1,f.2.2.1,f.2.2.2.1,f.2.2.2.2.1,f.2.2.2.2.2.1,f.2.2.2.2.2.2.1,f.2.2.2.2.2.2.2.1,f.2.2.2.2.2.2.2.2) (f.1,f.2.1,f.2.2.1,f.2.2.2.1,f.2.2.2.2.1,f.2.2.2.2.2.1,f.2.2.2.2.2.2.1,f.2.2.2.2.2.2.2.1,f.2.2.2.2.2.2.2.2)=some true:=by
 obtain ⟨v,e,c⟩:=flow_cmp (a:=f) (b:=f) h
 have e:l_sameFlow (f.1,f.2.1,f.2.2.1,f.2.2.2.1,f.2.2.2.2.1,f.2.2.2.2.2.1,f.2.2.2.2.2.2.1,f.2.2.2.2.2.2.2.1,f.2.2.2.2.2.2.2.2) (f.1,f.2.1,f.2.2.1,f.2.2.2.1,f.2.2.2.2.1,f.2.2.2.2.2.1,f.2.2.2.2.2.2.1,f.2.2.2.2.2.2.2.1,f.2.2.2.2.2.2.2.2)=some v:=e
 rw [e,c rfl]
theorem pkt_self {p:den tPk} (h:SmB 1000000 tPk p):l_samePacket (p.1,p.2.1,p.2.2.1,p.2.2.2.1,p.2.2.2.2.1,p.2.2.2.2.2.1,p.2.2.2.2.2.2.1,p.2.2.2.2.2.2.2.1,p.2.2.2.2.2.2.2.2.1,p.2.2.2.2.2.2.2.2.2) (p.1,p.2.1,p.2.2.1,p.2.2.2.1,p.2.2.2.2.1,p.2.2.2.2.2.1,p.2.2.2.2.2.2.1,p.2.2.2.2.2.2.2.1,p.2.2.2.2.2.2.2.2.1,p.2.2.2.2.2.2.2.2.2)=some true:=by
 obtain ⟨v,e,c⟩:=pkt_cmp (a:=p) (b:=p) h
 have e:l_samePacket (p.1,p.2.1,p.2.2.1,p.2.2.2.1,p.2.2.2.2.1,p.2.2.2.2.2.1,p.2.2.2.2.2.2.1,p.2.2.2.2.2.2.2.1,p.2.2.2.2.2.2.2.2.1,p.2.2.2.2.2.2.2.2.2) (p.1,p.2.1,p.2.2.1,p.2.2.2.1,p.2.2.2.2.1,p.2.2.2.2.2.1,p.2.2.2.2.2.2.1,p.2.2.2.2.2.2.2.1,p.2.2.2.2.2.2.2.2.1,p.2.2.2.2.2.2.2.2.2)=some v:=e
 rw [e,c rfl]
abbrev FlS:=Int×Int×Int×Int×Int×Int×List (den tMs)×List (den tPt)×Int×Int×List (den tRv)
theorem turn_law {f:den tFl} (tf:tot tFl f≤3000) (vf:validF f=true) (hs:sends f=true):
  (Option.bind (loopM (fun (s37:FlS)=>cond (decide (s37.2.1<(wr ((f.2.2.2.2.2.1.length:Int) * (4:Int))))) (Option.bind (i_TickFlow s37.2.2) fun y38=>Option.bind (cond (!(y38.2.2.2.2.2.2.2.2.2.2.2.2.2.2.1==((Int.tmod s37.2.1 (4:Int))==(0:Int)))) (some true) (cond y38.2.2.2.2.2.2.2.2.2.2.2.2.2.2.1 (cond (y38.2.2.2.2.2.2.2.2.2.2.2.2.2.1 != f.2.2.2.1) (some true) (Option.bind (idx f.2.2.2.2.2.1 (wr (Int.tdiv s37.2.1 (4:Int)))) fun x39=>Option.bind (l_samePath y38.2.2.2.2.2.2.2.2.2.2.2.2.2.2.2.2.2.2.1 x39) fun y40=>cond (!y40) (some true) (Option.bind (i_ValidFlow (y38.1,y38.2.1,y38.2.2.1,y38.2.2.2.1,y38.2.2.2.2.2.2.2.2.2.2.2.2.2.2.2.1,y38.2.2.2.2.2.2.2.2.2.2.2.2.2.2.2.2.1,y38.2.2.2.2.1,y38.2.2.2.2.2.1,y38.2.2.2.2.2.2.2.2.2.2.2.2.2.2.2.2.2.1)) fun y41=>some (!y41)))) (Option.bind (i_ValidFlow (y38.1,y38.2.1,y38.2.2.1,y38.2.2.2.1,y38.2.2.2.2.2.2.2.2.2.2.2.2.2.2.2.1,y38.2.2.2.2.2.2.2.2.2.2.2.2.2.2.2.2.1,y38.2.2.2.2.1,y38.2.2.2.2.2.1,y38.2.2.2.2.2.2.2.2.2.2.2.2.2.2.2.2.2.1)) fun y42=>some (!y42)))) fun s43=>cond s43 (some (Sum.inr (Sum.inr false))) (Option.bind (cond y38.2.2.2.2.2.2.2.2.2.2.2.2.2.2.1 (some (wr (s37.1+(1:Int)))) (some s37.1)) fun s44=>some (Sum.inl (s44,wr (s37.2.1+(1:Int)),y38.1,y38.2.1,y38.2.2.1,y38.2.2.2.1,y38.2.2.2.2.2.2.2.2.2.2.2.2.2.2.2.1,y38.2.2.2.2.2.2.2.2.2.2.2.2.2.2.2.2.1,y38.2.2.2.2.1,y38.2.2.2.2.2.1,y38.2.2.2.2.2.2.2.2.2.2.2.2.2.2.2.2.2.1)))) (some (Sum.inr (Sum.inl s37.1)))) ((0:Int),(0:Int),f.1,f.2.1,f.2.2.1,f.2.2.2.1,f.2.2.2.2.1,f.2.2.2.2.2.1,(0:Int),(0:Int),f.2.2.2.2.2.2.2.2)) fun z=>Sum.elim (fun s45=>some (s45==(f.2.2.2.2.2.1.length:Int))) some z)=some true:=by
 have hv:=(validF_iff f).1 vf
 have hp:f.2.2.2.2.2.1.length≤24:=hv.2.2.2.2.2.2.1
 have wl:wr ((f.2.2.2.2.2.1.length:Int) * (4:Int))=((4 * f.2.2.2.2.2.1.length:Nat):Int):=by rw [wr_small (by omega) (by omega)];omega
 rw [wl]
 have vz: ∀ i,validF (zst f i)=true→validF (zst f (i+1))=true∨True:=fun _ _=> .inr trivial
 refine loop_up (G:=fun o=>o=some true) (4 * f.2.2.2.2.2.1.length) (fun s:FlS=>s.2.1) (fun i s=>s.1=(((i+3) / 4:Nat):Int)∧s.2.2=zst f i∧validF (zst f i)=true) (fun r:Int⊕Bool=>r= .inl (f.2.2.2.2.2.1.length:Int)) ?_ ?_ 0 _ (Nat.zero_le _) rfl ⟨rfl,rfl,?_⟩ ?_
 ·rintro i ⟨sent,_,z⟩ hi rfl ⟨g1,g2,g3⟩
  simp only at g1 g2
  right
  have tz:tot tFl (zst f i)≤34359738368:=Nat.le_trans (show tot tFl (zst f i)≤3000 from tf) (by decide)
  have et:=i_tickF (f:=zst f i) tz
  have tk:=tick_z hs hp hi
  have tv:=tickF_val g3
  rw [tk] at tv
  have tv:validF (zst f (i+1))=true:=tv
  have sv:SmB 68719476736 tFl (zst f (i+1)):=(sm_of_tot (B:=3000) (show tot tFl (zst f (i+1))≤3000 from tf)).mono (by decide)
  have ev:=i_validF sv
  rw [tv] at ev
  rw [tk] at et
  rw [← g2] at et
  simp only [decide_eq_true (show (i:Int)<((4 * f.2.2.2.2.2.1.length:Nat):Int) by omega),cond_true,et,obind_some]
  have ev:i_ValidFlow ((zst f (i+1)).1,(zst f (i+1)).2.1,(zst f (i+1)).2.2.1,(zst f (i+1)).2.2.2.1,(zst f (i+1)).2.2.2.2.1,(zst f (i+1)).2.2.2.2.2.1,(zst f (i+1)).2.2.2.2.2.2.1,(zst f (i+1)).2.2.2.2.2.2.2.1,(zst f (i+1)).2.2.2.2.2.2.2.2)=some true:=ev
  have hm:Int.tmod (i:Int) (4:Int)=((i % 4:Nat):Int):=by rw [Int.tmod_eq_emod_of_nonneg (by omega)];omega
  have hd:wr (Int.tdiv (i:Int) (4:Int))=((i / 4:Nat):Int):=by rw [Int.tdiv_eq_ediv_of_nonneg (by omega),wr_small (by omega) (by omega)];omega
  have w1:wr ((i:Int)+1)=((i+1:Nat):Int):=wr_succ (by omega)
  have w2:wr (sent+1)=(((i+3) / 4+1:Nat):Int):=by rw [g1];exact wr_succ (by omega)
  have i4:i / 4<f.2.2.2.2.2.1.length:=by omega
  obtain ⟨n1,n2⟩:=nextT_at hs i4
  have sp:l_samePath f.2.2.2.2.2.1[i / 4] f.2.2.2.2.2.1[i / 4]=some true:=by
   have tp:tot tPt f.2.2.2.2.2.1[i / 4]≤3000:=by
    have h1:=(flow_parts tf).2.1
    have h2:=tot_get (t:=tPt) (List.getElem?_eq_getElem i4)
    exact Nat.le_trans (by omega) h1
   have sm:=smB_path ((sm_of_tot tp).mono (C:=1000000) (by decide))
   obtain ⟨v,e,c⟩:=path_cmp (a:=f.2.2.2.2.2.1[i / 4]) (b:=f.2.2.2.2.2.1[i / 4]) sm.1 sm.2
   rw [e,c rfl]
  by_cases h4:i % 4=0
  ·have hb:(((i % 4:Nat):Int)==(0:Int))=true:=by rw [beq_iff_eq];omega
   simp only [tickR,if_pos h4,decide_eq_true h4,hm,hb,beq_self_eq_true,Bool.not_true,cond_false,cond_true,n2,bne_self_eq_false,hd,idx_nat,List.getElem?_eq_getElem i4,n1,sp,ev,obind_some,w1,w2]
   refine ⟨_,rfl,rfl,?_,rfl,tv⟩
   show (((i+3) / 4+1:Nat):Int)=(((i+1+3) / 4:Nat):Int)
   omega
  ·have hb:(((i % 4:Nat):Int)==(0:Int))=false:=by rw [beq_eq_false_iff_ne];omega
   simp only [tickR,if_neg h4,decide_eq_false h4,hm,hb,beq_self_eq_true,Bool.not_true,Bool.not_false,cond_false,cond_true,ev,obind_some,w1]
   refine ⟨_,rfl,rfl,?_,rfl,tv⟩
   show sent=(((i+1+3) / 4:Nat):Int)
   rw [g1]
   omega
 ·rintro ⟨sent,_,z⟩ rfl ⟨g1,g2,g3⟩
  simp only at g1
  refine ⟨.inl sent,by simp only [decide_eq_false (Int.lt_irrefl _),cond_false],?_⟩
  rw [g1]
  congr 1
  omega
 ·rw [validF_iff]
  exact ⟨hv.1,hv.2.1,hv.2.2.1,hv.2.2.2.1,hv.2.2.2.2.1,hv.2.2.2.2.2.1,hp,hv.2.2.2.2.2.2.2.1,hv.2.2.2.2.2.2.2.2.1,.inl rfl,rfl,hv.2.2.2.2.2.2.2.2.2.2.2⟩
 ·rintro r rfl
  simp only [Sum.elim_inl,beq_self_eq_true]
theorem law (a0:den (.sl tb)) (w0:Wf (.sl tb) a0):l_FnFlows a0=some true:=by
 unfold l_FnFlows l_big
 rw [obind_some]
 by_cases hb:(a0.length:Int)>(1048576:Int)
 ·rw [decide_eq_true hb,cond_true]
 rw [decide_eq_false hb,cond_false]
 have hl:a0.length≤1048576:=by omega
 obtain ⟨f,e1,tf,vf⟩:=flowF_ans hl
 obtain ⟨g,e2,tg⟩:=tickF_ans hl
 obtain ⟨h,e3,th⟩:=nextF_ans hl
 obtain ⟨a,b,e4,ta,lb⟩:=enqF_ans hl
 obtain ⟨l,ps,e5,tl,tp⟩:=setF_ans hl
 obtain ⟨n1,n2,n3,e6⟩:=newF_ans hl
 have it:=i_tickF (f:=g) (Nat.le_trans tg (by decide))
 have st:=s_tickF (f:=g) (Nat.le_trans tg (by decide))
 have inx:=i_nextT (f:=h) (Nat.le_trans th (by decide))
 have snx:=s_nextT (f:=h) (Nat.le_trans th (by decide))
 have ie:=i_enq (f:=a) (b:=b) ((sm_of_tot (B:=3000) ta).mono (by decide)) ⟨by omega,fun e he=>trivial⟩
 have se:=s_enq (f:=a) (b:=b) ((sm_of_tot (B:=3000) ta).mono (by decide)) ⟨by omega,fun e he=>trivial⟩
 have ip:=i_setP (f:=l) (p:=ps) (now:=50) (Nat.le_trans tl (by decide)) (Nat.le_trans tp (by decide))
 have sp:=s_setP (f:=l) (p:=ps) (now:=50) (Nat.le_trans tl (by decide)) (Nat.le_trans tp (by decide))
 have inw:i_NewFlow n1 n2 n3=some (n1,n2,n3,0,0,0,[],[],[]):=rfl
 have snw:s_NewFlow n1 n2 n3=some (n1,n2,n3,0,0,0,[],[],[]):=rfl
 have ivg:=i_validF (f:=g) ((sm_of_tot (B:=3000) tg).mono (by decide))
 have svg:=s_validF (f:=g) ((sm_of_tot (B:=3000) tg).mono (by decide))
 have ivf:=i_validF (f:=f) ((sm_of_tot (B:=3000) tf).mono (by decide))
 rw [vf] at ivf
 have inf:=i_nextT (f:=f) (Nat.le_trans tf (by decide))
 have q1:=flow_self (f:=(tickF g).1) ((sm_of_tot (B:=3000) (by rw [(tickF_tot g).1];exact tg)).mono (by decide))
 have q2:=pkt_self (p:=(tickF g).2.1) ((sm_of_tot (B:=3000) (Nat.le_trans (tickF_tot g).2 tg)).mono (by decide))
 have q3:=pkt_self (p:=nextT h) ((sm_of_tot (B:=3000) (Nat.le_trans (nextT_tot h) th)).mono (by decide))
 have q4:SmB 1000000 tFl ((enqR a b).1,(enqR a b).2.1,(enqR a b).2.2.1,(enqR a b).2.2.2.1,(enqR a b).2.2.2.2.2.2.2.1,(enqR a b).2.2.2.2.2.2.2.2.1,(enqR a b).2.2.2.2.1,(enqR a b).2.2.2.2.2.1,(enqR a b).2.2.2.2.2.2.2.2.2):=by
  refine (sm_of_tot (B:=4001) ?_).mono (by decide)
  have ha:tot tFl (a.1,a.2.1,a.2.2.1,a.2.2.2.1,a.2.2.2.2.1,a.2.2.2.2.2.1,a.2.2.2.2.2.2.1,a.2.2.2.2.2.2.2.1,a.2.2.2.2.2.2.2.2)≤3000:=ta
  rw [flow_tot] at ha
  unfold enqR
  split
  ·rw [flow_tot]
   have hm:tot (.sl tMs) (a.2.2.2.2.1++[b])=tot (.sl tMs) a.2.2.2.2.1+(1+b.length):=by rw [tot_app,msg_tot]
   show tot (.sl tMs) (a.2.2.2.2.1++[b])+tot (.sl tPt) a.2.2.2.2.2.1+a.2.2.2.2.2.2.2.2.length≤4001
   omega
  ·rw [flow_tot]
   show tot (.sl tMs) a.2.2.2.2.1+tot (.sl tPt) a.2.2.2.2.2.1+a.2.2.2.2.2.2.2.2.length≤4001
   omega
 have q4:=flow_self q4
 have q5:SmB 1000000 tFl (l.1,l.2.1,l.2.2.1,l.2.2.2.1,l.2.2.2.2.1,newPs l ps 50,0,0,l.2.2.2.2.2.2.2.2):=by
  refine (sm_of_tot (B:=193000) ?_).mono (by decide)
  have ha:tot tFl (l.1,l.2.1,l.2.2.1,l.2.2.2.1,l.2.2.2.2.1,l.2.2.2.2.2.1,l.2.2.2.2.2.2.1,l.2.2.2.2.2.2.2.1,l.2.2.2.2.2.2.2.2)≤3000:=tl
  have hn:=newPs_tot l ps 50
  rw [flow_tot] at ha ⊢
  omega
 have q5:=flow_self q5
 have q6:SmB 1000000 tFl (n1,n2,n3,0,[],[],0,0,[]):=(sm_of_tot (B:=0) (Nat.le_refl _)).mono (by decide)
 have q6:=flow_self q6
 have main:=fun hs=>turn_law tf vf hs
 obtain ⟨f1,f2,f3,f4,fm,fp,fc,fw,fr⟩:=f
 obtain ⟨g1,g2,g3,g4,gm,gp,gc,gw,gr⟩:=g
 obtain ⟨h1,h2,h3,h4,hm,hp,hc,hw,hr⟩:=h
 obtain ⟨a1,a2,a3,a4,am,ap,ac,aw,ar⟩:=a
 obtain ⟨l1,l2,l3,l4,lm,lp,lc,lw,lr⟩:=l
 simp only [flowD] at e1 e2 e3
 simp only at e4 e5 q5 q6 ip sp
 generalize tickF (g1,g2,g3,g4,gm,gp,gc,gw,gr)=T at *
 generalize nextT (h1,h2,h3,h4,hm,hp,hc,hw,hr)=H at *
 generalize enqR (a1,a2,a3,a4,am,ap,ac,aw,ar) b=E at *
 generalize newPs (l1,l2,l3,l4,lm,lp,lc,lw,lr) ps 50=L at *
 simp only [tickR] at it st
 simp only [pkB] at inx snx inf
 simp only at q1 q2 q3 q4 main
 simp only [e1,e2,e3,e4,e5,e6,obind_some,it,st,inx,snx,ie,se,ip,sp,inw,snw,ivg,svg,ivf,inf,q1,q2,q3,q4,q5,q6,Bool.not_true,cond_false,cond_true,beq_self_eq_true]
 cases hs:sends (f1,f2,f3,f4,fm,fp,fc,fw,fr) with
 | false=>simp only [Bool.not_false,cond_true]
 | true=>
  simp only [Bool.not_true,cond_false]
  exact main hs
end Go.Proofs.YtkdbhilbpbppiaaGreat.fnFlows
