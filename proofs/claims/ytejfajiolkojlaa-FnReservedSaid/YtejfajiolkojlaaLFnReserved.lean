/-
  The plain part of: Law FnReserved: for every code packets of a reservation leave up to its rate, whatever else has left before. Conditions: none.
-/
import Derived.Test.YtejfajiolkojlaaQ0FnReserved
set_option linter.unusedVariables false
set_option linter.unusedSimpArgs false
set_option maxRecDepth 100000
namespace Go.Proofs.Ytejfajiolkojlaa.fnReserved
open Go.Ab Go.V

def Keys (L:List (den tRs)) (k:Nat) (us:List (den tUs)):Prop:= ∀ u∈us,u.1=0∨ ∃ (j:Nat) (y:den tRs),j<k∧L[j]? =some y∧u.1=y.1∧u.2.1=y.2.1∧u.2.2.1=y.2.2.1
theorem Keys.mono {L:List (den tRs)} {k k':Nat} {us:List (den tUs)} (h:Keys L k us) (hk:k≤k'):Keys L k' us:=fun u hu=>by
 rcases h u hu with h | ⟨j,y,h1,h2⟩
 ·exact .inl h
 ·exact .inr ⟨j,y,by omega,h2⟩
theorem Keys.more0 {L:List (den tRs)} {k:Nat} {us:List (den tUs)} (h:Keys L k us) (s d:Int):Keys L k (moreU us 0 s d):=fun u hu=>by
 rcases more_keys hu with ⟨h1,_⟩ | ⟨y,hy,h1,h2,h3⟩
 ·exact .inl h1
 ·rcases h y hy with h | ⟨j,z,k1,k2,k3,k4,k5⟩
  ·exact .inl (h1.trans h)
  ·exact .inr ⟨j,z,k1,k2,h1.trans k3,h2.trans k4,h3.trans k5⟩
theorem Keys.more {L:List (den tRs)} {k:Nat} {us:List (den tUs)} {x:den tRs} (h:Keys L (k+1) us) (hx:L[k]? =some x):Keys L (k+1) (moreU us x.1 x.2.1 x.2.2.1):=fun u hu=>by
 rcases more_keys hu with ⟨h1,h2,h3⟩ | ⟨y,hy,h1,h2,h3⟩
 ·exact .inr ⟨k,x,by omega,hx,h1,h2,h3⟩
 ·rcases h y hy with h | ⟨j,z,k1,k2,k3,k4,k5⟩
  ·exact .inl (h1.trans h)
  ·exact .inr ⟨j,z,k1,k2,h1.trans k3,h2.trans k4,h3.trans k5⟩
theorem Keys.used {L:List (den tRs)} {cap:Int} {k:Nat} {us:List (den tUs)} {x:den tRs} (h:Keys L k us) (hL:OkRs L cap 45) (hx:L[k]? =some x):usedU us x.1 x.2.1 x.2.2.1=0:=by
 have hp:place us x.1 x.2.1 x.2.2.1= -1:=place_none fun u hu=>by
  cases hs:sameU x.1 x.2.1 x.2.2.1 u with
  | false=>rfl
  | true=>
   obtain ⟨a1,a2,a3⟩:=sameU_iff.1 hs
   have hv:=validR_rate (hL.val x (List.mem_of_getElem? hx))
   rcases h u hu with h0 | ⟨j,y,k1,k2,k3,k4,k5⟩
   ·rw [h0] at a1;rw [← a1] at hv;have :=hv.1;omega
   ·obtain ⟨hj,rfl⟩:=List.getElem?_eq_some_iff.1 k2
    obtain ⟨hk,rfl⟩:=List.getElem?_eq_some_iff.1 hx
    have :=List.pairwise_iff_getElem.1 hL.pw j k hj hk k1
    unfold sameR atR at this
    rw [← k3,← k4,← k5,a1,a2,a3] at this
    simp at this
 unfold usedU
 rw [hp,if_pos (by decide)]
theorem trans0 (g:den tSc) (s d now:Int):(transU g 0 s d now).2.2.2=moreU g.2.2 0 s d∨(transU g 0 s d now).2.2.2=g.2.2:=by
 unfold transU
 split
 ·exact .inl rfl
 ·exact .inr rfl
theorem rateU_res {g:den tSc} {now:Int} (hg:OkS g now) {x:den tRs} (hx:x∈g.2.1) (hn:now≤x.2.2.2.2):rateU g x.1 x.2.1 x.2.2.1 now=x.2.2.2.1:=by
 have hv:=validR_rate (hg.res.val x hx)
 unfold rateU
 rw [if_neg,resRate_rr,rr_mem hn hg.res.pw hx]
 intro h
 have h:x.1=0:=by simpa using h
 rw [h] at hv
 have :=hv.1;omega
theorem reserved_first {L:List (den tRs)} {cap:Int} {g0:den tSc} (hg:OkS g0 45) (h1:g0.1=cap) (h2:g0.2.1=L) (h3:g0.2.2=[]) {T:Type} {k:den tSc→Option T} {y:Option T} (hk: ∀ g:den tSc,OkS g 45→g.1=cap→g.2.1=L→g.2.2.length≤40→Keys L 0 g.2.2→k g=y): ∀ {step:(Int×Int×(List (den tRs))×(List (den tUs)))→Option ((Int×Int×(List (den tRs))×(List (den tUs)))⊕den tSc)},
  (∀ (n:Nat) (g:den tSc),n<40→OkS g 45→g.2.2.length≤n→ ∃ (s d:Int),step ((n:Int),g)=some (.inl (((n+1:Nat):Int),gateT (transU g 0 s d 45))))→
  (∀ g:den tSc,step ((40:Int),g)=some (.inr g))→Option.bind (loopM step ((0:Int),g0)) k=y:=by
 intro step hs he
 refine loop_bind (G:=fun o=>o=y) (fun (n:Nat) (s:Int×den tSc)=> ∃ j:Nat,s.1=(j:Int)∧j+n=40∧OkS s.2 45∧s.2.1=cap∧s.2.2.1=L∧s.2.2.2.length≤j∧Keys L 0 s.2.2.2) (fun (g:den tSc)=>OkS g 45∧g.1=cap∧g.2.1=L∧g.2.2.length≤40∧Keys L 0 g.2.2) ?_ 40 _ ⟨0,rfl,rfl,hg,h1,h2,by show g0.2.2.length≤0;rw [h3];exact Nat.le_refl 0,fun u hu=>by
  have hu:u∈g0.2.2:=hu
  rw [h3] at hu;cases hu⟩ (fun g ⟨a,b,c,d,e⟩=>hk g a b c d e)
 rintro n ⟨_,g⟩ ⟨j,rfl,a1,a2,a3,a4,a5,a6⟩
 simp only at a2 a3 a4 a5 a6
 cases n with
 | zero=>
  have :j=40:=by omega
  subst this
  exact .inl ⟨g,he g,a2,a3,a4,by omega,a6⟩
 | succ n=>
  obtain ⟨s,d,c⟩:=hs j g (by omega) a2 a5
  obtain ⟨m1,m2,m3⟩:=trans_len g 0 s d 45
  refine .inr ⟨n,_,by omega,c,j+1,rfl,by omega,a2.trans 0 s d,m2.trans a3,m1.trans a4,by show (transU g 0 s d 45).2.2.2.length≤_;omega,?_⟩
  show Keys L 0 (transU g 0 s d 45).2.2.2
  rcases trans0 g s d 45 with e | e<;>rw [e]
  ·exact a6.more0 s d
  ·exact a6
theorem reserved_turn {L:List (den tRs)} {cap:Int} {i:Nat} {x:den tRs} (hx:L[i]? =some x) (hn:45≤x.2.2.2.2) {g0:den tSc} (hg:OkS g0 45) (h1:g0.1=cap) (h2:g0.2.1=L) (h4:g0.2.2.length≤40+20 * i) (h3:Keys L i g0.2.2) {R T:Type} {k:R→Option T} {G:Option T→Prop} (z:den tSc→R)
  (hk: ∀ g:den tSc,OkS g 45→g.1=cap→g.2.1=L→g.2.2.length≤40+20 * (i+1)→Keys L (i+1) g.2.2→G (k (z g))): ∀ {step:(Int×Int×(List (den tRs))×(List (den tUs)))→Option ((Int×Int×(List (den tRs))×(List (den tUs)))⊕R)},
  (∀ (n:Nat) (g:den tSc),(n:Int)<x.2.2.2.1→OkS g 45→g.2.1=L→g.2.2.length≤100000→transU g x.1 x.2.1 x.2.2.1 45=(g.1,true,g.2.1,moreU g.2.2 x.1 x.2.1 x.2.2.1)→usedU (moreU g.2.2 x.1 x.2.1 x.2.2.1) x.1 x.2.1 x.2.2.1=(n:Int)+1→step ((n:Int),g)=some (.inl (((n+1:Nat):Int),g.1,g.2.1,moreU g.2.2 x.1 x.2.1 x.2.2.1)))→
  (∀ g:den tSc,step (x.2.2.2.1,g)=some (.inr (z g)))→G (Option.bind (loopM step ((0:Int),g0)) k):=by
 intro step hs he
 have hxm:=List.mem_of_getElem? hx
 have hL:OkRs L cap 45:=by rw [← h1,← h2];exact hg.res
 have hv:=validR_rate (hL.val x hxm)
 have hi:i<L.length:=(List.getElem?_eq_some_iff.1 hx).1
 have hl:=hL.len
 obtain ⟨r,hr⟩: ∃ r:Nat,(r:Int)=x.2.2.2.1:=⟨Int.toNat x.2.2.2.1,Int.toNat_of_nonneg (by have :=hv.2.1;omega)⟩
 have hr20:r≤20:=by have :=hv.2.2;omega
 refine loop_bind (G:=G) (fun (n:Nat) (s:Int×den tSc)=> ∃ j:Nat,s.1=(j:Int)∧j+n=r∧OkS s.2 45∧s.2.1=cap∧s.2.2.1=L∧s.2.2.2.length≤40+20 * i+j∧Keys L (i+1) s.2.2.2∧usedU s.2.2.2 x.1 x.2.1 x.2.2.1=(j:Int)) (fun (q:R)=> ∃ g:den tSc,q=z g∧OkS g 45∧g.1=cap∧g.2.1=L∧g.2.2.length≤40+20 * (i+1)∧Keys L (i+1) g.2.2) ?_ r _ ⟨0,rfl,by omega,hg,h1,h2,by show g0.2.2.length≤_;omega,h3.mono (by omega),h3.used hL hx⟩ (fun q ⟨g,e,a,b,c,d,f⟩=>by rw [e];exact hk g a b c d f)
 rintro n ⟨_,g⟩ ⟨j,rfl,a1,a2,a3,a4,a5,a6,a7⟩
 simp only at a2 a3 a4 a5 a6 a7
 cases n with
 | zero=>
  have hj:(j:Int)=x.2.2.2.1:=by rw [← hr];omega
  rw [hj]
  exact .inl ⟨z g,he g,g,rfl,a2,a3,a4,by omega,a6⟩
 | succ n=>
  have hrt:=rateU_res a2 (x:=x) (by rw [a4];exact hxm) hn
  have hlt:usedU g.2.2 x.1 x.2.1 x.2.2.1<rateU g x.1 x.2.1 x.2.2.1 45:=by rw [hrt,a7];omega
  have ht:transU g x.1 x.2.1 x.2.2.1 45=(g.1,true,g.2.1,moreU g.2.2 x.1 x.2.1 x.2.2.1):=by unfold transU;rw [if_pos hlt]
  have hum:usedU (moreU g.2.2 x.1 x.2.1 x.2.2.1) x.1 x.2.1 x.2.2.1=(j:Int)+1:=by rw [used_more (by rw [a7];omega),a7]
  have hg':=a2.trans x.1 x.2.1 x.2.2.1
  rw [ht] at hg'
  have hml:=moreU_len g.2.2 x.1 x.2.1 x.2.2.1
  exact .inr ⟨n,_,by omega,hs j g (by omega) a2 a4 (by omega) ht hum,j+1,rfl,by omega,hg',a3,a4,by show (moreU g.2.2 x.1 x.2.1 x.2.2.1).length≤_;omega,a6.more hx,by rw [show ((j+1:Nat):Int)=(j:Int)+1 by omega];exact hum⟩
def ResI (L:List (den tRs)) (cap:Int) (n:Nat) (s:Int×den tSc):Prop:= ∃ j:Nat,s.1=(j:Int)∧j+n=L.length∧OkS s.2 45∧s.2.1=cap∧s.2.2.1=L∧s.2.2.2.length≤40+20 * j∧Keys L j s.2.2.2
def ResQ (r:den tSc⊕Bool):Prop:= ∃ g:den tSc,r= .inl g∧OkS g 45∧g.2.2.length≤100000
theorem law (a0:den (.sl tb)) (w0:Wf (.sl tb) a0):l_FnReserved a0=some true:=by
 unfold l_FnReserved l_big
 rw [obind_some]
 by_cases hb:(a0.length:Int)>(1048576:Int)
 ·rw [decide_eq_true hb,cond_true]
 rw [decide_eq_false hb,cond_false]
 have hl:a0.length≤1048576:=by omega
 obtain ⟨cap,l,us,e1,ok,hu⟩:=drawS_ans hl
 have b1:=i_begin (g:=(cap,l,us)) (t:=45) (by show l.length≤_;have :=ok.res.len;simp only at this;omega)
 simp only at b1
 have hx0:OkS (cap,active l 45,[]) 45:=⟨ok.lo,ok.hi,ok.res.filter _,fun j x hj=>by simp at hj⟩
 have hact: ∀ x∈active l 45,(45:Int)≤x.2.2.2.2:=fun x hx=>by simpa using (List.mem_filter.1 hx).2
 simp only [e1,b1,obind_some,both_self,dup_self,dup3_self,dup4_self,dup5_self]
 generalize active l 45=L at hx0 hact
 refine reserved_first (L:=L) (cap:=cap) (g0:=(cap,L,[])) hx0 rfl rfl rfl (fun g hg g1 g2 g3 g4=> ?_) (fun n g hn hg hm=> ?_) (fun g=>rfl)
 ·
  have hLl:L.length≤40:=by rw [← g2];exact hg.res.len
  refine loop_bind (G:=fun o=>o=some true) (ResI L cap) ResQ ?_ L.length ((0:Int),g) ⟨0,rfl,by omega,hg,g1,g2,by simpa using g3,g4⟩ ?_
  ·rintro n ⟨_,h⟩ ⟨j,rfl,a1,a2,a3,a4,a5,a6⟩
   simp only at a2 a3 a4 a5 a6
   cases n with
   | zero=>
    refine .inl ⟨.inl h,?_,h,rfl,a2,by omega⟩
    simp only [a4,decide_eq_false (show ¬ (j:Int)<(L.length:Int) by omega),cond_false]
    rw [← a4]
   | succ n=>
    have hj:j<L.length:=by omega
    have hx:L[j]? =some L[j]:=List.getElem?_eq_getElem hj
    simp only [a4,decide_eq_true (show (j:Int)<(L.length:Int) by omega),cond_true,decide_eq_true (show (0:Int)≤(j:Int) by omega),Int.toNat_natCast,hx,obind_some]
    have hxl:(45:Int)≤L[j].2.2.2.2:=hact L[j] (List.getElem_mem hj)
    generalize L[j]=x at hx hxl
    have e:(h.1,L,h.2.2)=h:=by rw [← a4]
    rw [show ((0:Int),h.1,L,h.2.2)=((0:Int),h) from by rw [e]]
    refine reserved_turn (L:=L) (cap:=cap) (i:=j) (x:=x) hx hxl a2 a3 a4 a5 a6 (z:=fun g=>Sum.inl g) (G:=fun o=>(∃ r,o=some (Sum.inr r)∧ResQ r)∨ ∃ m s',m<n+1∧o=some (Sum.inl s')∧ResI L cap m s') (fun q hq q1 q2 q3 q4=> ?_) (fun m q hm hq q2 q3 q4 q5=> ?_) (fun q=> ?_)
    ·refine .inr ⟨n,(((j+1:Nat):Int),q),by omega,?_,j+1,rfl,by omega,hq,q1,q2,q3,q4⟩
     show some (Sum.inl (wr ((j:Int)+1),q))=_
     rw [show wr ((j:Int)+1)=((j+1:Nat):Int) from by rw [show wr ((j:Int)+1)=(j:Int)+1 from wri (by omega) (by omega)];omega]
    ·have tr:=i_trans (g:=q) (id:=x.1) (s:=x.2.1) (d:=x.2.2.1) (now:=45) (by have :=hq.res.len;omega) (by omega)
     rw [q4] at tr
     have tr:i_Transmit (q.1,q.2.1,q.2.2) x.1 x.2.1 x.2.2.1 45=some (q.1,true,q.2.1,moreU q.2.2 x.1 x.2.1 x.2.2.1):=tr
     have hml:=moreU_len q.2.2 x.1 x.2.1 x.2.2.1
     have us:=i_used (g:=(q.1,q.2.1,moreU q.2.2 x.1 x.2.1 x.2.2.1)) (id:=x.1) (s:=x.2.1) (d:=x.2.2.1) (by show (moreU q.2.2 x.1 x.2.1 x.2.2.1).length≤_;omega)
     have us:i_UsedCount (q.1,q.2.1,moreU q.2.2 x.1 x.2.1 x.2.2.1) x.1 x.2.1 x.2.2.1=some (usedU (moreU q.2.2 x.1 x.2.1 x.2.2.1) x.1 x.2.1 x.2.2.1):=us
     have hr20:=(validR_rate (hq.res.val x (by rw [q2];exact List.mem_of_getElem? hx))).2.2
     have hw:wr ((m:Int)+1)=(m:Int)+1:=wri (by omega) (by omega)
     simp only [decide_eq_true hm,cond_true,tr,obind_some,Bool.not_true,cond_false,us,q5,hw,bne_self_eq_false]
     rw [show ((m+1:Nat):Int)=(m:Int)+1 by omega]
    ·have hd: ∀ m:Int,decide (m<m)=false:=fun m=>decide_eq_false (Int.lt_irrefl m)
     simp only [hd,cond_false]
  ·rintro _ ⟨h,rfl,h1,h2⟩
   have vg:=i_validS (g:=h) (now:=45) (by have :=h1.res.len;omega) (by omega)
   rw [okS_iff.2 h1] at vg
   show Option.bind (i_ValidScheduler h 45) _=_
   rw [vg,obind_some]
 ·obtain ⟨z1,f1⟩:=at_ans hl (i:=(n:Int)) (by omega)
  obtain ⟨z2,f2⟩:=at_ans hl (i:=wr ((n:Int)+1)) (by rw [show wr ((n:Int)+1)=(n:Int)+1 from wri (by omega) (by omega)];omega)
  have tr:=i_trans (g:=g) (id:=0) (s:=Int.tmod z1 3) (d:=wr (1+Int.tmod z2 2)) (now:=45) (by have :=hg.res.len;omega) (by omega)
  have tr:i_Transmit (g.1,g.2.1,g.2.2) 0 (Int.tmod z1 3) (wr (1+Int.tmod z2 2)) 45=some (transU g 0 (Int.tmod z1 3) (wr (1+Int.tmod z2 2)) 45):=tr
  refine ⟨Int.tmod z1 3,wr (1+Int.tmod z2 2),?_⟩
  simp only [decide_eq_true (show (n:Int)<40 by omega),cond_true,f1,f2,tr,obind_some]
  rw [show wr ((n:Int)+1)=((n+1:Nat):Int) from by rw [show wr ((n:Int)+1)=(n:Int)+1 from wri (by omega) (by omega)];omega]
end Go.Proofs.Ytejfajiolkojlaa.fnReserved
