/-
  Facts and plain laws: what the functions compute, in plain words. Conditions: as each says.
-/
import Derived.Test.YtnkjolpkcmgcaaaGreatQ1FnFast
open Int renaming toNat_natCast->bWs,le_refl->bXl,le_trans->bX4,tmod_eq_emod_of_nonneg->bZr,tmod->bXa
open Bool renaming and_eq_true->bWj,true_and->bW4,eq_iff_iff->bXj,false_eq_true->bWz,not_eq_true'->bW8,or_eq_true->bX2,not_true->bWw
open List renaming getElem?_map->bXx,mem_append->bWq,mem_cons_of_mem->bWo,mem_cons_self->bWt,mem_singleton->bWp,mem_cons->bWm,mem_append_right->bXq,mem_append_left->bXn,getElem?_eq_getElem->bWl,getElem?_eq_some_iff->bWn,getElem_mem->bXt,getElem?_set_self->bYj,mem_of_getElem?->bWu,getElem?_set_ne->bYq,length_map->bXe,length_set->bYb,mem_filter->bWy,filter_cons->bYr,mem_reverse->bZ6,not_mem_nil->bW7,mem_flatMap->bXf,all_eq_true->bW5,mem_of_mem_drop->bYa,mem_iff_getElem?->bZz,getElem?_take->bXv,getElem_of_mem->bZ4,append_assoc->bW6,append_nil->bXh,pairwise_iff_getElem->bYk,length_take->bXw,length_reverse->bYz,getElem?_reverse->bZs,map_reverse->bZ5,reverse_cons->bZo,getLast?_eq_getElem?->cAf
open Nat renaming le_add_left->bX7,le_succ->bXi,le_refl->bWx,add_le_add_right->bYf,le_trans->bWk,lt_succ_self->bZx,zero_le->bW3,add_sub_cancel->bYt
open Option renaming map_eq_some_iff->bXd,getD_some->bXo
set_option linter.unusedVariables false
set_option linter.unusedSimpArgs false
set_option maxRecDepth 100000
namespace Go.Proofs.YtnkjolpkcmgcaaaGreat
open Go.Ab Go.V
theorem FC.work{A:Aim}{f:den tFl}(hA:qP A)(h:FC A f)(hc:eR f=A.c):aH9 A.t A.now A.dead ((f.2.2.2.2.2.1[f.2.2.2.2.2.2.1.toNat]?).getD []):=by
 have e:f.2.2.2.2.2.2.1=(A.c:Int):=hc;rw[h.ps,e,bWs,hA.at_];exact hA.work
def Rel(A:Aim)(p:den tPk):Prop:=(p.1=(1:Int)/\p.2.1=A.src/\p.2.2.1=A.dst)\/(p.1=(2:Int)/\p.2.1=A.dst/\p.2.2.1=A.src)
theorem aX1{A:Aim}{f:den tFl}{p:den tPk}(h:FC A f)(ha:tV f p=true):Rel A p/\p.2.2.2.2.2.2.2.2.1=bS f/\bS f<(A.ms.length:Int):=by
 unfold tV at ha;simp only[bWj,beq_iff_eq]at ha;obtain⟨h1,h2,h3,h4,h5⟩:=ha;obtain⟨_,h6⟩:=aI.1 h5;rw[h.ms]at h6;have h6:bS f<=(A.ms.length:Int) - 1:=h6;exact⟨.inr ⟨h1,h2.trans h.dst,h3.trans h.src⟩,h4,by omega⟩
theorem bNn{A:Aim}{f:den tFl}{p:den tPk}(hA:qP A)(h:FC A f)(ha:tV f p=true):FC A (iH f p)/\bS (iH f p)=bS f+1/\eR (iH f p)=eR f/\dT (iH f p)=0:=by
 obtain⟨_,_,h1⟩:=aX1 h ha;have a0:=h.a0;have hl:=hA.few;have e:wr (bS f+1)=bS f+1:=wri (by omega) (by omega);have e1:iH f p=(f.1,f.2.1,f.2.2.1,wr (f.2.2.2.1+1),f.2.2.2.2.1,f.2.2.2.2.2.1,f.2.2.2.2.2.2.1,0,f.2.2.2.2.2.2.2.2):=by unfold iH;rw[ha];rfl
 have e2:bS (iH f p)=bS f+1:=by rw[e1];exact e
 rw[e1]at e2 ⊢;exact⟨⟨h.src,h.dst,h.ms,h.ps,by rw[e2];omega,by rw[e2];omega,h.c0,h.c1,bXl _,by show (0:Int)<=4;decide⟩,e2,rfl,rfl⟩
theorem bH2{A:Aim}{f:den tFl}{p:den tPk}(hA:qP A)(h:FC A f)(hr:p.1=(3:Int)->aEy A.t A.dead p.2.2.2.2.2.2.2.2.2):FC A (iI f p)/\bS (iI f p)=bS f/\
  ((eR (iI f p)=eR f/\dT (iI f p)=dT f)\/(eR f≠A.c/\eR (iI f p)=nxI A.ps.length (eR f)/\dT (iI f p)=0)):=by
 have cn:=hA.cn
 by_cases hc:eR f=A.c
 .obtain⟨k1,k2,k3,k4⟩:=bCt (h.work hA hc) hr;have k1:bS (iI f p)=bS f:=k1;have k2:eR (iI f p)=eR f:=k2;have k3:dT (iI f p)=dT f:=k3;obtain⟨m1,m2,m3⟩:=aS8 f p;exact⟨⟨m1.trans h.src,m2.trans h.dst,m3.trans h.ms,k4.trans h.ps,by rw[k1];exact h.a0,by rw[k1];exact h.a1,by rw[k2];exact h.c0,by rw[k2];exact h.c1,by rw[k3];exact h.w0,by rw[k3];exact h.w1⟩,k1,.inl ⟨k2,k3⟩⟩
 .have hn:=aI3 (n:=A.ps.length) (c:=A.c) (cur:=eR f) (w:=0) (by omega) cn h.c0 h.c1 (.inl hc);unfold iI;cases c:(p.1==3&&(sD p.2.2.2.2.2.2.2.2.2).2.2.2) with
  | false=>exact⟨h,rfl,.inl ⟨rfl,rfl⟩⟩
  | true=>
   rw[zZ];cases c2:aKf f (sT p.2.2.2.2.2.2.2.2.2) with
   | false=>exact⟨⟨h.src,h.dst,h.ms,h.ps,h.a0,h.a1,h.c0,h.c1,h.w0,h.w1⟩,rfl,.inl ⟨rfl,rfl⟩⟩
   | true=>
    have e:nW f=nxI A.ps.length (eR f):=aAa hA h;refine⟨⟨h.src,h.dst,h.ms,h.ps,h.a0,h.a1,?_,?_,bXl _,(by show (0:Int)<=4;decide)⟩,rfl,.inr ⟨hc,e,rfl⟩⟩
    .show 0<=nW f;rw[e];exact hn.1
    .show nW f<_;rw[e];exact hn.2.1
theorem aZn{A:Aim}{f:den tFl}{p:den tPk}{r:Int}(hA:qP A)(h:FC A f)(hr:p.1=(3:Int)->aEy A.t A.dead p.2.2.2.2.2.2.2.2.2):FC A (bR r p f)/\
  ((bS (bR r p f)=bS f/\eR (bR r p f)=eR f/\dT (bR r p f)=dT f)\/
   (Rel A p/\bS f<(A.ms.length:Int)/\bS (bR r p f)=bS f+1/\eR (bR r p f)=eR f/\dT (bR r p f)=0)\/
   (eR f≠A.c/\bS (bR r p f)=bS f/\eR (bR r p f)=nxI A.ps.length (eR f)/\dT (bR r p f)=0)):=by
 unfold bR;split
 .split
  .cases ha:tV f p with
   | false=>
    have :iH f p=f:=by unfold iH;rw[ha];rfl
    rw[this];exact⟨h,.inl ⟨rfl,rfl,rfl⟩⟩
   | true=>
    obtain⟨k1,k2,k3,k4⟩:=bNn hA h ha;obtain⟨r1,_,r3⟩:=aX1 h ha;exact⟨k1,.inr (.inl ⟨r1,r3,k2,k3,k4⟩)⟩
  .obtain⟨k1,k2,k3⟩:=bH2 hA h hr;refine⟨k1,?_⟩;rcases k3 with ⟨a,b⟩ | ⟨a,b,c⟩
   .exact .inl ⟨k2,a,b⟩
   .exact .inr (.inr ⟨a,k2,b,c⟩)
 .exact⟨h,.inl ⟨rfl,rfl,rfl⟩⟩
theorem bAb{A:Aim}{f:den tFl}{p:den tPk}{r:Int}(hA:qP A)(h:FC A f)(hr:p.1=(3:Int)->aEy A.t A.dead p.2.2.2.2.2.2.2.2.2)(hw:Rel A p->dT f<=1):muF A (bR r p f)<=muF A f/\(dT (bR r p f)=dT f\/dT (bR r p f)=0):=by
 have cn:=hA.cn;obtain⟨k,h'⟩:=aZn (r:=r) hA h hr;have w1:=h.w1;have w0:=h.w0;rcases h' with ⟨a,b,c⟩ | ⟨a,b,c,d,e⟩ | ⟨a,b,c,d⟩
 .unfold muF;rw[a,b,c];exact⟨bXl _,.inl rfl⟩
 .have :=hw a;have f1:=bF3 (n:=A.ps.length) (c:=A.c) (cur:=eR f) (w:=dT f) (by omega) cn h.c0 h.c1;refine⟨?_,.inr e⟩;unfold muF;rw[c,d,e];omega
 .have f1:=aI3 (n:=A.ps.length) (c:=A.c) (cur:=eR f) (w:=dT f) (by omega) cn h.c0 h.c1 (.inl a);refine⟨?_,.inr d⟩;unfold muF;rw[b,c,d];omega
def bH4(A:Aim)(a:Int)(z:den tFy):Prop:=Arr A.t A.now A.dead z.1 z.2.1 z.2.2/\z.2.2.1=(1:Int)/\z.2.2.2.1=A.src/\z.2.2.2.2.1=A.dst/\z.2.2.2.2.2.1=A.q/\z.2.2.2.2.2.2.2.2.2.2.1=a
def bVq(A:Aim)(a:Int)(z:den tFy):Prop:=Arr A.t A.now A.dead z.1 z.2.1 z.2.2/\z.2.2.1=(2:Int)/\z.2.2.2.1=A.dst/\z.2.2.2.2.1=A.src/\z.2.2.2.2.2.2.2.2.2.2.1=a
def Trk(A:Aim)(a:Int)(z:den tFy):Prop:=bH4 A a z\/bVq A a z
def bCo(A:Aim)(f:den tFl)(L:lFy):Prop:=bS f<(A.ms.length:Int)/\muF A f<=A.m/\ ∀y∈L,¬ Rel A y.2.2
def bN1(A:Aim)(f:den tFl)(L:lFy):Prop:=muF A f+1<=A.m/\(dT f<=1\/ ∀y∈L,¬ Rel A y.2.2)
def bU3(A:Aim)(f:den tFl)(L:lFy):Prop:=eR f=A.c/\dT f=1/\bS f<(A.ms.length:Int)/\2 * ((A.ms.length:Int) - bS f)+4<=A.m/\ ∃y∈L,Trk A (bS f) y
def Flw(A:Aim)(b:Bool)(w:den tNw)(L:lFy):Prop:= ∃f,(aB w)[A.i]? =some f/\FC A f/\((b=false/\bCo A f L)\/(b=true/\(bN1 A f L\/bU3 A f L)))
def bD3(A:Aim)(L L':lFy):Prop:= ∀y∈L',Rel A y.2.2-> ∃z∈L,Rel A z.2.2
theorem Flw.same{A:Aim}{b:Bool}{w w':den tNw}{L L':lFy}(h:Flw A b w L)(e:(aB w')[A.i]? =(aB w)[A.i]?)(hr:bD3 A L L')(ht:∀a,∀y∈L,Trk A a y-> ∃z∈L',Trk A a z):Flw A b w' L':=by
 obtain⟨f,h1,h2,h3⟩:=h;have none:(∀y∈L,¬ Rel A y.2.2)-> ∀y∈L',¬ Rel A y.2.2:=λhn y hy c=>by
  obtain⟨z,hz,r⟩:=hr y hy c;exact hn z hz r
 refine⟨f,by rw[e];exact h1,h2,?_⟩;rcases h3 with ⟨hb,g1,g2,g3⟩ | ⟨hb,⟨g1,g2⟩ | ⟨g1,g2,g3,g4,y,hy,g5⟩⟩
 .exact .inl ⟨hb,g1,g2,none g3⟩
 .exact .inr ⟨hb,.inl ⟨g1,g2.elim .inl λg=> .inr (none g)⟩⟩
 .obtain⟨z,hz,g6⟩:=ht _ y hy g5;exact .inr ⟨hb,.inr ⟨g1,g2,g3,g4,z,hz,g6⟩⟩
theorem Flw.told{A:Aim}(hA:qP A){b:Bool}{w:den tNw}{L L':lFy}{r:Int}{q:den tPk}(h:Flw A b w L)(hq:q.1=(3:Int)->aEy A.t A.dead q.2.2.2.2.2.2.2.2.2)(hl:Rel A q-> ∃z∈L,Rel A z.2.2)(hr:bD3 A L L')
  (ht:∀a,∀y∈L,Trk A a y->(∃z∈L',Trk A a z)\/ ∀f,FC A f->bS f=a->a<(A.ms.length:Int)->bS (bR r q f)=bS f+1):Flw A b (oQ w r q) L':=by
 obtain⟨f,h1,h2,h3⟩:=h;have none:(∀y∈L,¬ Rel A y.2.2)-> ∀y∈L',¬ Rel A y.2.2:=λhn y hy c=>by
  obtain⟨z,hz,r⟩:=hr y hy c;exact hn z hz r
 obtain⟨k,h'⟩:=aZn (r:=r) hA h2 hq;refine⟨bR r q f,?_,k,?_⟩
 .show ((aB w).map (bR r q))[A.i]? =_;rw[bXx,h1];rfl
 rcases h3 with ⟨hb,g1,g2,g3⟩ | ⟨hb,⟨g1,g2⟩ | ⟨g1,g2,g3,g4,y,hy,g5⟩⟩
 .have nr: ¬ Rel A q:=λc=>by
   obtain⟨z,hz,r⟩:=hl c;exact g3 z hz r
  obtain⟨m1,_⟩:=bAb (r:=r) hA h2 hq λc=>absurd c nr
  refine .inl ⟨hb,?_,bX4 m1 g2,none g3⟩;rcases h' with ⟨a,_⟩ | ⟨a,_⟩ | ⟨_,a,_⟩
  .rw[a];exact g1
  .exact absurd a nr
  .rw[a];exact g1
 .have hw:Rel A q->dT f<=1:=λc=>g2.elim id λg=>by
   obtain⟨z,hz,r⟩:=hl c;exact absurd r (g z hz)
  obtain⟨m1,m2⟩:=bAb (r:=r) hA h2 hq hw;refine .inr ⟨hb,.inl ⟨by omega,?_⟩⟩;rcases m2 with m2 | m2
  .rw[m2];exact g2.elim .inl λg=> .inr (none g)
  .exact .inl (by rw[m2];decide)
 .rcases h' with ⟨a,b',c⟩ | ⟨a,b',c,d,e⟩ | ⟨a,_⟩
  .rcases ht _ y hy g5 with ⟨z,hz,g6⟩ | g6
   .exact .inr ⟨hb,.inr ⟨by rw[b'];exact g1,by rw[c];exact g2,by rw[a];exact g3,by rw[a];exact g4,z,hz,by rw[a];exact g6⟩⟩
   .have :=g6 f h2 rfl g3;omega
  .refine .inr ⟨hb,.inl ⟨?_,.inl (by rw[e];decide)⟩⟩;have z0:qA A.ps.length A.c (eR f) 0=0:=by unfold qA;rw[zT g1,zT rfl]
   unfold muF;rw[c,d,e,z0];omega
  .exact absurd g1 a
theorem aHz{t:den tTo}{r now dead inn:Int}{p:den tPk}(h:(fwd t r now dead inn p).1=1):p.2.2.1=r:=by
 have th:=mQ (.inr (.inl h));obtain⟨i,j,b,e⟩:=aDx t r now dead inn p;unfold fwd at h e;split at h
 .exact absurd h (show ¬ ((2:Int)=1) by decide)
 rename_i c1;rw[zS c1]at e;split at h
 .exact absurd h (show ¬ ((3:Int)=1) by decide)
 rename_i c2;rw[zS c2]at e;split at h
 .rw[th.go]at h;exact absurd h (show ¬ ((0:Int)=1) by decide)
 rename_i c3;rw[zS c3]at e;split at h
 .rename_i c4;rw[zT c4]at e;split at h
  .rename_i c5;rw[zT c5]at e;have :(aX t now p).2.2.2.1=p.2.2.1:=by
    have e:(aX t now p).2=goTo p i j b:=e;rw[e];rfl
   rw[<- this];exact eq_of_beq c5
  .exact absurd h (show ¬ ((2:Int)=1) by decide)
 split at h
 .exact absurd h (show ¬ ((6:Int)=1) by decide)
 split at h
 .exact absurd h (show ¬ ((7:Int)=1) by decide)
 .exact absurd h (show ¬ ((0:Int)=1) by decide)
theorem vG(t:den tTo)(now:Int)(dead:List Int)(r inn:Int)(p:den tPk):∃i j b,(aD t now dead r inn p).2.2.1=goTo p i j b:=aDx t r now (dU t dead r) inn p
theorem bJs{A:Aim}{a r inn:Int}{p:den tPk}(h:Trk A a (r,inn,p))(hc:(aD A.t A.now A.dead r inn p).1=0):Trk A a ((remote A.t r (aD A.t A.now A.dead r inn p).2.1).1,(remote A.t r (aD A.t A.now A.dead r inn p).2.1).2,(aD A.t A.now A.dead r inn p).2.2.1):=by
 obtain⟨i,j,b,e⟩:=vG A.t A.now A.dead r inn p;have key:∀(h:Arr A.t A.now A.dead r inn p),Arr A.t A.now A.dead (remote A.t r (aD A.t A.now A.dead r inn p).2.1).1 (remote A.t r (aD A.t A.now A.dead r inn p).2.1).2 (aD A.t A.now A.dead r inn p).2.2.1:=λh=>by
  rcases h.or with h1 | ⟨_,h2⟩
  .rw[hc]at h1;exact absurd h1 (by decide)
  .exact h2
 rcases h with ⟨h0,h1⟩ | ⟨h0,h1⟩
 .refine .inl ⟨key h0,?_⟩;simp only[e];exact h1
 .refine .inr ⟨key h0,?_⟩;simp only[e];exact h1
theorem aV1{A:Aim}{a:Int}{z:den tFy}(h:Trk A a z):Arr A.t A.now A.dead z.1 z.2.1 z.2.2:=h.elim (·.1) (·.1)
structure Rnd (A:Aim) (b:Bool) (e:Int×Int->Nat) (m:Nat) (w:den tNw) (L:lFy):Prop where
 mid:Mid A.t A.now A.dead e m w
 flw:Flw A b w L
 rev:∀y∈L,y.2.2.1=(3:Int)->aEy A.t A.dead y.2.2.2.2.2.2.2.2.2.2.2
theorem Rnd.fwd{A:Aim}{b:Bool}{e:Int×Int->Nat}{m:Nat}{w:den tNw}{r inn:Int}{p:den tPk}(h:Rnd A b (λd=>hH d p+e d) (m+1) w ((r,inn,p)::aE w))(hc:(aD A.t A.now A.dead r inn p).1=0):
  Rnd A b e m (dS w r (aD A.t A.now A.dead r inn p).2.1 (aD A.t A.now A.dead r inn p).2.2.1) (aE (dS w r (aD A.t A.now A.dead r inn p).2.1 (aD A.t A.now A.dead r inn p).2.2.1)):=by
 obtain⟨s1,s2,s3,_,s4⟩:=h.mid.send hc;obtain⟨i,j,b',eg⟩:=vG A.t A.now A.dead r inn p;rw[s1];refine⟨s4,h.flw.same (by rw[s2]) (λy hy c=> ?_) (λa y hy c=> ?_),λy hy c=> ?_⟩
 .rcases bWq.1 hy with hy | hy
  .exact⟨y,bWo _ hy,c⟩
  .refine⟨_,bWt ..,?_⟩;have :y=_:=bWp.1 hy;rw[this]at c;simp only[eg]at c;exact c
 .rcases bWm.1 hy with hy | hy
  .subst hy;exact⟨_,bXq _ (bWp.2 rfl),bJs c hc⟩
  .exact⟨y,bXn _ hy,c⟩
 .rcases bWq.1 hy with hy | hy
  .exact h.rev y (bWo _ hy) c
  .have :y=_:=bWp.1 hy;rw[this]at c ⊢;simp only[eg]at c ⊢;exact h.rev _ (bWt ..) c
theorem Rnd.lost{A:Aim}{b:Bool}{e:Int×Int->Nat}{m:Nat}{w:den tNw}{r inn:Int}{p:den tPk}(h:Rnd A b (λd=>hH d p+e d) (m+1) w ((r,inn,p)::aE w))(hc: ¬ Arr A.t A.now A.dead r inn p):Rnd A b e m (rX w) (aE w):=by
 refine⟨(h.mid.mono (λd=>bX7 _ _) (bXi _)).drop,h.flw.same rfl (λy hy c=>⟨y,bWo _ hy,c⟩) (λa y hy c=> ?_),λy hy=>h.rev y (bWo _ hy)⟩;rcases bWm.1 hy with hy | hy
 .subst hy;exact absurd (aV1 c) hc
 .exact⟨y,hy,c⟩
theorem Rnd.home{A:Aim}(hA:qP A){b:Bool}{e:Int×Int->Nat}{m:Nat}{w:den tNw}{r inn:Int}{p:den tPk}(h:Rnd A b (λd=>hH d p+e d) (m+1) w ((r,inn,p)::aE w))(hk:(p.1==(1:Int))=false)(hc:(aD A.t A.now A.dead r inn p).1=1):
  Rnd A b e m (oQ w r (aD A.t A.now A.dead r inn p).2.2.1) (aE w):=by
 obtain⟨i,j,b',eg⟩:=vG A.t A.now A.dead r inn p;have hd:p.2.2.1=r:=aHz hc;rw[eg];refine⟨(h.mid.mono (λd=>bX7 _ _) (bXi _)).flows _,h.flw.told hA (λc=>h.rev _ (bWt ..) c) (λc=>⟨_,bWt ..,c⟩) (λy hy c=>⟨y,bWo _ hy,c⟩) (λa y hy c=> ?_),λy hy=>h.rev y (bWo _ hy)⟩;rcases bWm.1 hy with hy | hy
 .subst hy;refine .inr λf hf e1 e2=> ?_
  rcases c with ⟨_,c,_⟩ | ⟨_,c1,c2,c3,c4⟩
  .have c:p.1=(1:Int):=c;rw[c]at hk;exact absurd hk (by decide)
  .have ha:tV f (goTo p i j b')=true:=by
    unfold tV;show ((p.1==2)&&((p.2.1==f.2.1)&&((p.2.2.1==f.1)&&((p.2.2.2.2.2.2.2.2.1==f.2.2.2.1)&&inR f.2.2.2.1 0 ((f.2.2.2.2.1.length:Int) - 1)))))=true;have c1:p.1=(2:Int):=c1;have c2:p.2.1=A.dst:=c2;have c3:p.2.2.1=A.src:=c3;have c4:p.2.2.2.2.2.2.2.2.1=a:=c4;have ef:f.2.2.2.1=a:=e1;rw[c1,c2,c3,c4,hf.src,hf.dst,ef,hf.ms];simp only[beq_self_eq_true,bW4];have :=hf.a0;exact aI.2 ⟨by omega,by omega⟩
   have :bR r (goTo p i j b') f=iH f (goTo p i j b'):=by
    unfold bR;have c1:(goTo p i j b').1=(2:Int):=c1;have c3:p.2.2.1=A.src:=c3;rw[c1];have :(f.1==r)=true:=by rw[beq_iff_eq,hf.src,<- hd];exact c3.symm
    rw[this];rfl
   rw[this];exact (bNn hA hf ha).2.1
 .exact .inl ⟨y,hy,c⟩
theorem Rnd.proc0{A:Aim}(hA:qP A){b:Bool}{e:Int×Int->Nat}{m:Nat}{w:den tNw}{r inn:Int}{p:den tPk}(h:Rnd A b (λd=>hH d p+e d) (m+1) w ((r,inn,p)::aE w))(hk:(p.1==(1:Int))=false):Rnd A b e m (proc0 w r inn p) (aE (proc0 w r inn p)):=by
 unfold Go.Proofs.YtnkjolpkcmgcaaaGreat.proc0;rw[h.mid.step r inn p];split
 .rename_i c;exact h.fwd (eq_of_beq c)
 .rename_i c0;split
  .rename_i c;exact h.home hA hk (eq_of_beq c)
  .rename_i c1;refine h.lost λg=> ?_
   rcases g.code with g | g
   .rw[g]at c0;exact c0 rfl
   .rw[g]at c1;exact c1 rfl
theorem aHv(l:lIb)(a b:Int):(cN l a b<0/\ ∀x∈l,mY a b x=false)\/ ∃(k:Nat) (x:den tIb),cN l a b=(k:Int)/\l[k]? =some x/\mY a b x=true:=by
 unfold cN;cases h:l.findIdx? (mY a b) with
 | none=>
  refine .inl ⟨by decide,λx hx=> ?_⟩;have :=List.findIdx?_eq_none_iff.1 h x hx;simpa using this
 | some i=>
  obtain⟨h1,h2,_⟩:=List.findIdx?_eq_some_iff_getElem.1 h;exact .inr ⟨i,l[i],by simp,bWl h1,h2⟩
theorem aMx{t:den tTo}{w:den tNw}(hi:aZ t w){r s:Int}(h: ¬ cN (aL w) r s<0):∃(k:Nat) (f:den tFl),cN (aL w) r s=(k:Int)/\(aB w)[k]? =some f/\(aL w)[k]? =some (gL w k)/\vH t f (gL w k)/\f.1=s/\f.2.1=r/\(gL w k).1=r/\(gL w k).2.1=s:=by
 rcases aHv (aL w) r s with ⟨h1,_⟩ | ⟨k,x,h1,h2,h3⟩
 .exact absurd h1 h
 .have hlt:=(bWn.1 h2).1;have hl:k<(aB w).length:=by rw[<- hi.lenB];exact hlt
  have hb:gL w k=x:=by unfold gL;rw[h2];rfl
  have hF:=hi.flow k _ x (bWl hl) h2;unfold mY at h3;simp only[bWj,beq_iff_eq]at h3;refine⟨k,_,h1,bWl hl,by rw[hb];exact h2,by rw[hb];exact hF,?_,?_,by rw[hb];exact h3.1,by rw[hb];exact h3.2⟩
  .rw[<- hF.xFrom];exact h3.2
  .rw[<- hF.xAS];exact h3.1
theorem yZ(x:den tIb)(p:den tPk):(bY x p).1=x.1/\(bY x p).2.1=x.2.1:=by
 unfold bY;split<;>exact⟨rfl,rfl⟩
theorem aGk{t:den tTo}{w:den tNw}(hi:aZ t w){r:Int}{p:den tPk}(hg:kI w p)(h: ¬ cN (aL w) r p.2.1<0)(ha:wU (bY (gL w (cN (aL w) r p.2.1).toNat) p) p=true):
  p.2.2.1=r/\p.1=(1:Int)/\kR (bY (gL w (cN (aL w) r p.2.1).toNat) p) p=bU 2 (cH p.2.2.2.1) p.2.2.2.2.2.2.2.1 p.2.2.2.2.2.2.2.2.1 []/\ends (cH p.2.2.2.1)=(p.2.2.1,p.2.1):=by
 obtain⟨k,f,e1,e2,e3,e4,e5,e6,e7,e8⟩:=aMx hi h;have hm:kR (bY (gL w (cN (aL w) r p.2.1).toNat) p) p=bU 2 (cH p.2.2.2.1) p.2.2.2.2.2.2.2.1 p.2.2.2.2.2.2.2.2.1 []:=by
  unfold kR;rw[ha];rfl
 rw[e1,bWs]at ha;unfold wU sA at ha;simp only[bWj,beq_iff_eq]at ha;obtain⟨⟨h1,h2,h3⟩,_⟩:=ha;have h3:p.2.2.1=r:=h3.trans ((yZ _ _).1.trans e7);obtain⟨p1,p2,_⟩:=(hg k f _ e2 e3).1 h1 e5.symm (h3.trans e6.symm);refine⟨h3,h1,hm,?_⟩;rw[aCy ((aD1 _).1.trans p2) ((aD1 _).2.trans p1),e5,e6,h3]
theorem Rnd.data{A:Aim}(hA:qP A){b:Bool}{e:Int×Int->Nat}{m:Nat}{w:den tNw}{r inn:Int}{p:den tPk}(h:Rnd A b (λd=>hH d p+e d) (m+1) w ((r,inn,p)::aE w))(hi:aZ A.t w)(hg:kI w p)(hk:(p.1==(1:Int))=true)(hc:(aD A.t A.now A.dead r inn p).1=1):
  Rnd A b e m (kL w r (aD A.t A.now A.dead r inn p).2.2.1) (aE (kL w r (aD A.t A.now A.dead r inn p).2.2.1)):=by
 obtain⟨i,j,b',eg⟩:=vG A.t A.now A.dead r inn p;have hd:p.2.2.1=r:=aHz hc;have hv:cL p=true:=(mQ (t:=A.t) (r:=r) (now:=A.now) (dead:=dU A.t A.dead r) (inn:=inn) (p:=p) (.inr (.inl hc))).val;rw[eg];have hg':kI w (goTo p i j b'):=hg.goTo i j b';have tracked:∀a,Trk A a (r,inn,p)->(∃f,(aB w)[A.i]? =some f/\FC A f/\bS f=a/\a<(A.ms.length:Int))-> ¬ cN (aL w) r (goTo p i j b').2.1<0/\wU (bY (gL w (cN (aL w) r (goTo p i j b').2.1).toNat) (goTo p i j b')) (goTo p i j b')=true/\p.2.1=A.src/\p.2.2.2.1=A.q/\p.2.2.2.2.2.2.2.2.1=a:=by
  rintro a (⟨ta,t1,t2,t3,t4,t5⟩ | ⟨_,t1,_⟩) ⟨f,f1,f2,f3,f4⟩
  .have t2:p.2.1=A.src:=t2;have t3:p.2.2.1=A.dst:=t3;have t5:p.2.2.2.2.2.2.2.2.1=a:=t5;have hlt:A.i<(aL w).length:=by rw[hi.lenB];exact (bWn.1 f1).1
   have hFi:=hi.flow A.i f _ f1 (bWl hlt);have hn: ¬ cN (aL w) r p.2.1<0:=by
    rcases aHv (aL w) r p.2.1 with ⟨_,h2⟩ | ⟨k,x,h1,_⟩
    .have :=h2 _ (bXt hlt);unfold mY at this;rw[hFi.xAS,hFi.xFrom,f2.src,f2.dst,t2,<- hd,t3]at this;simp at this
    .rw[h1];omega
   refine⟨hn,?_,t2,t4,t5⟩;obtain⟨k,g,e1,e2,e3,e4,e5,e6,e7,e8⟩:=aMx hi hn;have hki:k=A.i:=hi.one e2 f1 (by rw[e5,t2,f2.src]) (by rw[e6,<- hd,t3,f2.dst]);subst hki;rw[f1]at e2;injection e2 with e2;subst e2;show wU (bY (gL w (cN (aL w) r p.2.1).toNat) (goTo p i j b')) (goTo p i j b')=true;rw[e1,bWs];generalize gL w A.i=x at e3 e4 e7 e8;have hack:bS f<=(x.2.2.2.length:Int):=e4.ack;have hnx:x.2.2.1=(x.2.2.2.length:Int):=e4.next
   have few:=hA.few;have ha0:0<=a:=by rw[<- f3];exact f2.a0
   have hcm:sA x (goTo p i j b')=true:=by
    unfold sA;show ((p.1==1)&&((p.2.1==x.2.1)&&(p.2.2.1==x.1)))=true;rw[hk,e8,e7,hd];simp
   have hcm2:sA (bY x (goTo p i j b')) (goTo p i j b')=true:=by
    unfold sA at hcm ⊢;rw[(yZ _ _).1,(yZ _ _).2];exact hcm
   have key:a<(bY x (goTo p i j b')).2.2.1:=by
    unfold bY takes;rw[hcm];show a<(if (true&&((p.2.2.2.2.2.2.2.2.1==x.2.2.1)&&decide (x.2.2.1<20)))=true then _ else x).2.2.1;rw[t5]
    by_cases ea:a=x.2.2.1
    .have h20':a<(20:Int):=by omega
     have h20:x.2.2.1<20:=by rw[<- ea];exact h20'
     have :(a==x.2.2.1)=true:=by rw[beq_iff_eq];exact ea
     rw[this,zX h20];have wr1:∀z:Int,0<=z->z<=100->wr (z+1)=z+1:=λz h1 h2=>wri (by omega) (by omega)
     have e1:=wr1 a ha0 (by omega);show a<wr (x.2.2.1+1);rw[<- ea,e1];exact Int.lt_succ a
    .have :(a==x.2.2.1)=false:=by rw[beq_eq_false_iff_ne];exact ea
     rw[this];show a<x.2.2.1;have hx:x.2.2.1=(x.2.2.2.length:Int):=hnx;have ea: ¬ a=x.2.2.1:=ea;rw[hx]at ea ⊢;omega
   unfold wU;rw[hcm2];show (true&& !decide (p.2.2.2.2.2.2.2.2.1>=(bY x (goTo p i j b')).2.2.1))=true;rw[t5,zW (show ¬ a>=(bY x (goTo p i j b')).2.2.1 from λc=>absurd key (Int.not_lt.2 c))];rfl
  .have t1:p.1=(2:Int):=t1;rw[t1]at hk;exact absurd hk (by decide)
 have weak:Mid A.t A.now A.dead e m w:=h.mid.mono (λd=>bX7 _ _) (bXi _);obtain⟨f,f1,f2,f3⟩:=h.flw;have hT:∀a,∀y∈(r,inn,p)::aE w,Trk A a y->((b=false/\bCo A f ((r,inn,p)::aE w))\/(b=true/\bN1 A f ((r,inn,p)::aE w)))\/True:=λ_ _ _ _=> .inr trivial
 unfold kL;split
 .rename_i hx;refine⟨weak,⟨f,f1,f2,?_⟩,λy hy=>h.rev y (bWo _ hy)⟩;rcases f3 with ⟨hb,g1,g2,g3⟩ | ⟨hb,⟨g1,g2⟩ | ⟨g1,g2,g3,g4,y,hy,g5⟩⟩
  .exact .inl ⟨hb,g1,g2,λy hy=>g3 y (bWo _ hy)⟩
  .exact .inr ⟨hb,.inl ⟨g1,g2.elim .inl λg=> .inr λy hy=>g y (bWo _ hy)⟩⟩
  .rcases bWm.1 hy with hy | hy
   .subst hy;exact absurd hx (tracked _ g5 ⟨f,f1,f2,rfl,g3⟩).1
   .exact .inr ⟨hb,.inr ⟨g1,g2,g3,g4,y,hy,g5⟩⟩
 .rename_i hx;split
  .rename_i ha;obtain⟨q1,q2,q3,q4⟩:=aGk hi hg' hx ha;rw[q3];have q4:ends (cH p.2.2.2.1)=(p.2.2.1,p.2.1):=q4;refine Rnd.proc0 hA (inn:=0) ⟨(h.mid.box _ _).mono (λd=> ?_) (bWx _),⟨f,f1,f2,?_⟩,λy hy c=> ?_⟩ rfl
   .exact bYf (bWk (aAg rfl) (yI hk)) _
   .have hrel:bD3 A ((r,inn,p)::aE w) ((r,0,bU 2 (cH p.2.2.2.1) p.2.2.2.2.2.2.2.1 p.2.2.2.2.2.2.2.2.1 [])::aE w):=λy hy c=>by
     rcases bWm.1 hy with hy | hy
     .refine⟨_,bWt ..,?_⟩;rw[hy]at c;rcases c with ⟨c,_⟩ | ⟨_,c1,c2⟩
      .exact absurd c (show ¬ ((2:Int)=1) by decide)
      .have c1:(ends (cH p.2.2.2.1)).1=A.dst:=c1;have c2:(ends (cH p.2.2.2.1)).2=A.src:=c2;rw[q4]at c1 c2;exact .inl ⟨eq_of_beq hk,c2,c1⟩
     .exact⟨y,bWo _ hy,c⟩
    have none:(∀y∈(r,inn,p)::aE w,¬ Rel A y.2.2)-> ∀y∈(r,(0:Int),bU 2 (cH p.2.2.2.1) p.2.2.2.2.2.2.2.1 p.2.2.2.2.2.2.2.2.1 [])::aE w,¬ Rel A y.2.2:=λhn y hy c=>by
     obtain⟨z,hz,r⟩:=hrel y hy c;exact hn z hz r
    rcases f3 with ⟨hb,g1,g2,g3⟩ | ⟨hb,⟨g1,g2⟩ | ⟨g1,g2,g3,g4,y,hy,g5⟩⟩
    .exact .inl ⟨hb,g1,g2,none g3⟩
    .exact .inr ⟨hb,.inl ⟨g1,g2.elim .inl λg=> .inr (none g)⟩⟩
    .rcases bWm.1 hy with hy | hy
     .subst hy;obtain⟨_,_,u1,u2,u3⟩:=tracked _ g5 ⟨f,f1,f2,rfl,g3⟩;refine .inr ⟨hb,.inr ⟨g1,g2,g3,g4,_,bWt ..,.inr ⟨?_,rfl,?_,?_,u3⟩⟩⟩
      .have hw:=hA.work.2;have hends:(ends (cH A.q)).1=r:=by rw[<- u2,q4,hd]
       rw[hends]at hw;have hv':=hv;unfold cL at hv';simp only[bWj]at hv';have :=hw.set (m:=(2,p.2.2.2.2.2.2.2.1,p.2.2.2.2.2.2.2.2.1,[])) (by
        unfold okM;simp only[bWj];exact⟨by decide,hv'.2.2.2.2.2.2.2.1,hv'.2.2.2.2.2.2.2.2.1,rfl⟩)
       show Arr A.t A.now A.dead r 0 (bU 2 (cH p.2.2.2.1) p.2.2.2.2.2.2.2.1 p.2.2.2.2.2.2.2.2.1 []);rw[u2];exact this
      .show (ends (cH p.2.2.2.1)).1=A.dst;rw[q4];rcases g5 with ⟨_,_,_,g,_⟩ | ⟨_,g,_⟩
       .exact g
       .have g:p.1=(2:Int):=g;rw[g]at hk;exact absurd hk (by decide)
      .show (ends (cH p.2.2.2.1)).2=A.src;rw[q4];exact u1
     .exact .inr ⟨hb,.inr ⟨g1,g2,g3,g4,y,bWo _ hy,g5⟩⟩
   .rcases bWm.1 hy with hy | hy
    .rw[hy]at c;exact absurd c (show ¬ ((2:Int)=3) by decide)
    .exact h.rev y (bWo _ hy) c
  .rename_i ha;refine⟨weak.box _ _,⟨f,f1,f2,?_⟩,λy hy=>h.rev y (bWo _ hy)⟩;rcases f3 with ⟨hb,g1,g2,g3⟩ | ⟨hb,⟨g1,g2⟩ | ⟨g1,g2,g3,g4,y,hy,g5⟩⟩
   .exact .inl ⟨hb,g1,g2,λy hy=>g3 y (bWo _ hy)⟩
   .exact .inr ⟨hb,.inl ⟨g1,g2.elim .inl λg=> .inr λy hy=>g y (bWo _ hy)⟩⟩
   .rcases bWm.1 hy with hy | hy
    .subst hy;exact absurd (tracked _ g5 ⟨f,f1,f2,rfl,g3⟩).2.1 ha
    .exact .inr ⟨hb,.inr ⟨g1,g2,g3,g4,y,hy,g5⟩⟩
theorem Rnd.note{A:Aim}(hA:qP A){b:Bool}{e:Int×Int->Nat}{m:Nat}{w:den tNw}{r inn:Int}{p:den tPk}(h:Rnd A b (λd=>hH d p+e d) (m+1) w ((r,inn,p)::aE w))(hk:(p.1==(1:Int))=true)(hc:(aD A.t A.now A.dead r inn p).1=7):
  Rnd A b e m (nY w r (aD A.t A.now A.dead r inn p).2.2.2 p) (aE (nY w r (aD A.t A.now A.dead r inn p).2.2.2 p)):=by
 have hrev:aEy A.t A.dead (dI r (aH w) (aD A.t A.now A.dead r inn p).2.2.2 p).2.2.2.2.2.2.2.2.2:=⟨r,_,_,rfl,bJ3 hc⟩
 generalize (aD A.t A.now A.dead r inn p).2.2.2=d at hrev;have key:Rnd A b (λd'=>hH d' (dI r (aH w) d p)+e d') (m+1) w ((r,0,dI r (aH w) d p)::aE w):=by
  refine⟨h.mid.mono (λd=>bYf (bWk (aAg rfl) (yI hk)) _) (bWx _),h.flw.same rfl (λy hy c=> ?_) (λa y hy c=> ?_),λy hy c=> ?_⟩
  .rcases bWm.1 hy with hy | hy
   .rw[hy]at c;rcases c with ⟨c,_⟩ | ⟨c,_⟩
    .exact absurd c (show ¬ ((3:Int)=1) by decide)
    .exact absurd c (show ¬ ((3:Int)=2) by decide)
   .exact⟨y,bWo _ hy,c⟩
  .rcases bWm.1 hy with hy | hy
   .subst hy;rcases (aV1 c).code with g | g
    .rw[show (aD A.t A.now A.dead r inn p).1=7 from hc]at g;exact absurd g (by decide)
    .rw[show (aD A.t A.now A.dead r inn p).1=7 from hc]at g;exact absurd g (by decide)
   .exact⟨y,bWo _ hy,c⟩
  .rcases bWm.1 hy with hy | hy
   .rw[hy];exact hrev
   .exact h.rev y (bWo _ hy) c
 unfold nY;split
 .have r1:=key.proc0 hA rfl;exact⟨r1.mid.drop,r1.flw.same rfl (λy hy c=>⟨y,hy,c⟩) (λa y hy c=>⟨y,hy,c⟩),r1.rev⟩
 .refine⟨((key.mid.mono (λd=>bX7 _ _) (bXi _)).flows _).drop,Flw.same (w:=oQ w r (dI r (aH w) d p)) (L:=aE w) (key.flw.told hA (λ_=>hrev) (λc=>⟨_,bWt ..,c⟩) (λy hy c=>⟨y,bWo _ hy,c⟩) (λa y hy c=> ?_)) rfl (λy hy c=>⟨y,hy,c⟩) (λa y hy c=>⟨y,hy,c⟩),λy hy=>key.rev y (bWo _ hy)⟩;rcases bWm.1 hy with hy | hy
  .subst hy;rcases c with ⟨_,c,_⟩ | ⟨_,c,_⟩
   .exact absurd c (show ¬ ((3:Int)=1) by decide)
   .exact absurd c (show ¬ ((3:Int)=2) by decide)
  .exact .inl ⟨y,hy,c⟩
theorem Rnd.proc{A:Aim}(hA:qP A){b:Bool}{e:Int×Int->Nat}{m:Nat}{w:den tNw}{r inn:Int}{p:den tPk}(h:Rnd A b (λd=>hH d p+e d) (m+1) w ((r,inn,p)::aE w))(hi:aZ A.t w)(hg:aHr w p):Rnd A b e m (cO w r inn p) (aE (cO w r inn p)):=by
 unfold cO;rw[h.mid.step r inn p];split
 .rename_i c;exact h.fwd (eq_of_beq c)
 .rename_i c0;split
  .rename_i c1;have hv:cL p=true:=(mQ (t:=A.t) (r:=r) (now:=A.now) (dead:=dU A.t A.dead r) (inn:=inn) (p:=p) (.inr (.inl (eq_of_beq c1)))).val;split
   .rename_i hk;exact h.data hA hi (hg hv) hk (eq_of_beq c1)
   .rename_i hk;exact h.home hA (eq_false_of_ne_true hk) (eq_of_beq c1)
  .rename_i c1;split
   .rename_i c7;rw[bWj]at c7;exact h.note hA c7.2 (eq_of_beq c7.1)
   .refine h.lost λg=> ?_
    rcases g.code with g | g
    .rw[g]at c0;exact c0 rfl
    .rw[g]at c1;exact c1 rfl
theorem Rnd.out{A:Aim}(hA:qP A){b:Bool}{e:Int×Int->Nat}{m:Nat}{w:den tNw}(h:Rnd A b e m w (aE w))(hi:aZ A.t w):Rnd A b e m (outW w) (aE (outW w))/\aZ A.t (outW w):=by
 unfold outW;split
 .exact⟨h,hi⟩
 .rename_i x l hf;have hi':aZ A.t (bF w l):=hi.same rfl rfl rfl λy hy=> .inl (by rw[hf];exact bWo _ hy)
  have hg:aHr (bF w l) x.2.2:=hi.good x (by rw[hf];exact bWt ..);refine⟨Rnd.proc hA ⟨h.mid.take hf,?_,?_⟩ hi' hg,yQ hi' hg⟩
  .have :=h.flw;rw[hf]at this;exact this.same rfl (λy hy c=>⟨y,hy,c⟩) (λa y hy c=>⟨y,hy,c⟩)
  .have :=h.rev;rw[hf]at this;exact this
theorem Rnd.del{A:Aim}(hA:qP A){b:Bool}{e:Int×Int->Nat}{m:Nat}:∀(n:Nat) {w:den tNw},Rnd A b e m w (aE w)->aZ A.t w->Rnd A b e m (delW n w) (aE (delW n w))/\aZ A.t (delW n w)
 | 0,w,h,hi=>⟨h,hi⟩
 | n+1,w,h,hi=>by
  unfold delW;split
  .exact⟨h,hi⟩
  .obtain⟨h1,h2⟩:=h.out hA hi;exact Rnd.del hA n h1 h2
theorem aK1{t:den tTo}{w:den tNw}{k:Nat}{f:den tFl}(h:aZ t w)(hf:(aB w)[k]? =some f):aZ t (bK w ((aB w).set k (aF f).1))/\((aF f).2.2=true->kI (bK w ((aB w).set k (aF f).1)) (aF f).2.1):=by
 obtain⟨c,wt,e1,e2⟩:=uM f;have hset:aZ t (bK w ((aB w).set k (aF f).1)):=by
  refine h.set hf (by rw[e1];rfl) (by rw[e1];rfl) (λs m hm=>by rw[e1];exact hm) λx hx=> ?_
  have hv:=aSk hx.val;rw[e1]at hv ⊢;exact⟨hv,hx.src,hx.dst,hx.xAS,hx.xFrom,hx.next,hx.recv,hx.len,hx.ack,hx.paths⟩
 refine⟨hset,λhb=> ?_⟩;obtain⟨g1,g2⟩:=e2 hb;rw[<- e1]at g1 g2;rw[g1];refine aS1 hset (k:=k) ?_ g2;show ((aB w).set k _)[k]? =_;rw[bYj (bWn.1 hf).1]
theorem aA8{t:den tTo}{w:den tNw}{k:Nat}{f:den tFl}(h:aZ t w)(hf:(aB w)[k]? =some f)(hs:(aF f).2.2=true):(aF f).2.1.1=(1:Int)/\(aF f).2.1.2.1=f.1/\(aF f).2.1.2.2.1=f.2.1/\(aF f).1.1=f.1:=by
 obtain⟨c,wt,e1,e2⟩:=uM f;obtain⟨g1,g2⟩:=e2 hs;have hk:k<(aL w).length:=by rw[h.lenB];exact (bWn.1 hf).1
 have hfi:=h.flow k f _ hf (bWl hk);have g3:=g2;unfold sends at g3;rw[bWj]at g3;obtain⟨a0,a1⟩:=aI.1 g3.1;have hc:c.toNat<f.2.2.2.2.2.1.length:=by
  have a0:0<=c:=a0;have a1:c<=(f.2.2.2.2.2.1.length:Int) - 1:=a1;omega
 obtain⟨p1,p2⟩:=hfi.paths _ (bWu (bWl hc));have he:=aCy p1 p2;have e:kG (setCW f c wt)=bU 1 (f.2.2.2.2.2.1[c.toNat]'hc) f.2.2.1 f.2.2.2.1 ((f.2.2.2.2.1[f.2.2.2.1.toNat]?).getD []):=by
  unfold kG;rw[zT g2];show bU 1 ((f.2.2.2.2.2.1[c.toNat]?).getD []) _ _ _=_;rw[bWl hc];rfl
 rw[g1,e,e1];refine⟨rfl,?_,?_,rfl⟩
 .show (ends _).1=_;rw[he]
 .show (ends _).2=_;rw[he]
theorem Rnd.other{A:Aim}(hA:qP A){b:Bool}{e:Int×Int->Nat}{m:Nat}{w:den tNw}{k:Nat}(h:Rnd A b (λd=>2+e d) (m+1) w (aE w))(hi:aZ A.t w)(hk:k≠A.i):Rnd A b e m (stepT k w) (aE (stepT k w))/\aZ A.t (stepT k w):=by
 refine⟨?_,aBe k hi⟩;unfold stepT;split
 .rename_i f hf;obtain⟨i1,i2⟩:=aK1 hi hf;have same:(aB (bK w ((aB w).set k (aF f).1)))[A.i]? =(aB w)[A.i]? :=bYq hk;split
  .rename_i hb;obtain⟨s1,s2,s3,s4⟩:=aA8 hi hf hb;refine Rnd.proc hA (inn:=0) ⟨(h.mid.flows _).mono (λd=>bYf (aKw _ _) _) (bWx _),h.flw.same same (λy hy c=> ?_) (λa y hy c=>⟨y,bWo _ hy,c⟩),λy hy c=> ?_⟩ i1 λ_=>i2 hb
   .rcases bWm.1 hy with hy | hy
    .exfalso;rw[hy]at c;obtain⟨g,g1,g2,_⟩:=h.flw;rcases c with ⟨_,c1,c2⟩ | ⟨c0,_⟩
     .exact hk (hi.one hf g1 (by rw[g2.src,<- c1];exact s2.symm) (by rw[g2.dst,<- c2];exact s3.symm))
     .rw[s1]at c0;exact absurd c0 (by decide)
    .exact⟨y,hy,c⟩
   .rcases bWm.1 hy with hy | hy
    .rw[hy]at c;rw[s1]at c;exact absurd c (by decide)
    .exact h.rev y hy c
  .exact⟨(h.mid.flows _).mono (λd=>bX7 _ _) (bXi _),h.flw.same same (λy hy c=>⟨y,hy,c⟩) (λa y hy c=>⟨y,hy,c⟩),h.rev⟩
 .exact⟨h.mid.mono (λd=>bX7 _ _) (bXi _),h.flw,h.rev⟩
theorem FC.setCW{A:Aim}{f:den tFl}(h:FC A f){c wt:Int}(c0:0<=c)(c1:c<(A.ps.length:Int))(w0:0<=wt)(w1:wt<=4):FC A (setCW f c wt):=⟨h.src,h.dst,h.ms,h.ps,h.a0,h.a1,c0,c1,w0,w1⟩
theorem FC.sends{A:Aim}{f:den tFl}(h:FC A f)(ha:bS f<(A.ms.length:Int)):sends f=true:=by
 have c0:=h.c0;have c1:=h.c1;have a0:=h.a0;unfold Go.Proofs.YtnkjolpkcmgcaaaGreat.sends;rw[bWj];refine⟨aI.2 ⟨h.c0,?_⟩,aI.2 ⟨h.a0,?_⟩⟩
 .rw[h.ps];show eR f<=_;omega
 .rw[h.ms];show bS f<=_;omega
theorem Rnd.own{A:Aim}(hA:qP A){e:Int×Int->Nat}{m:Nat}{w:den tNw}(h:Rnd A false (λd=>2+e d) (m+1) w (aE w))(hi:aZ A.t w):Rnd A true e m (stepT A.i w) (aE (stepT A.i w))/\aZ A.t (stepT A.i w):=by
 refine⟨?_,aBe A.i hi⟩;obtain⟨f,f1,f2,f3⟩:=h.flw;have f3:bCo A f (aE w):=f3.elim (·.2) λc=>absurd c.1 (by decide)
 obtain⟨g1,g2,g3⟩:=f3;obtain⟨i1,i2⟩:=aK1 hi f1;have hlt:=(bWn.1 f1).1;have self:∀g,(aB (bK w ((aB w).set A.i g)))[A.i]? =some g:=λg=>bYj hlt
 have hs:=f2.sends g1;have cn:=hA.cn;have w0:=f2.w0;have w1:=f2.w1;have a0:=f2.a0;have few:=hA.few;have data:∀c wt:Int,c=A.c->sends (setCW f c wt)=true->bH4 A (bS f) (A.src,0,kG (setCW f c wt)):=by
  intro c wt hc hsd;have hk:A.i<(aL w).length:=by rw[hi.lenB];exact hlt
  have hv:=(lS f).1 (hi.flow _ f _ f1 (bWl hk)).val;have hms:(f.2.2.2.2.1[f.2.2.2.1.toNat]?).getD []∈f.2.2.2.2.1:=by
   have :f.2.2.2.1.toNat<f.2.2.2.2.1.length:=by
    rw[f2.ms];have key:∀(z:Int) (n:Nat),0<=z->z<(n:Int)->z.toNat<n:=λz n h1 h2=>by omega
    exact key _ _ a0 g1
   rw[bWl this];exact bXt this
  have eq:kG (setCW f c wt)=bU 1 A.q f.2.2.1 (bS f) ((f.2.2.2.2.1[f.2.2.2.1.toNat]?).getD []):=by
   unfold kG;rw[zT hsd];show bU 1 ((f.2.2.2.2.2.1[c.toNat]?).getD []) _ _ _=_;rw[f2.ps,hc,bWs,hA.at_];rfl
  have hends:ends A.q=(A.src,A.dst):=aCy hA.fst_ hA.lst_;rw[eq];have hw:=hA.work.1;rw[hends]at hw;refine⟨hw.set (m:=(1,f.2.2.1,bS f,(f.2.2.2.2.1[f.2.2.2.1.toNat]?).getD [])) ?_,rfl,?_,?_,rfl,rfl⟩
  .unfold okM;simp only[bWj];refine⟨by decide,hv.2.2.2.1,aI.2 ⟨a0,by omega⟩,?_⟩;rw[zR];have :=hv.2.2.2.2.2.2.2.1 _ hms;omega
  .show (ends A.q).1=A.src;rw[hends]
  .show (ends A.q).2=A.dst;rw[hends]
 have rest:∀(c wt:Int),aF f=(setCW f c wt,kG (setCW f c wt),true)->sends (setCW f c wt)=true->0<=c->c<(A.ps.length:Int)->wt=1->(c=A.c->2 * ((A.ms.length:Int) - bS f)+4<=A.m)->(c≠A.c->muF A (setCW f c wt)+1<=A.m)->Rnd A true e m (stepT A.i w) (aE (stepT A.i w)):=by
  intro c wt ht hsd c0 c1 hw hT hS;subst hw;have hfc:=f2.setCW c0 c1 (show (0:Int)<=1 by decide) (show (1:Int)<=4 by decide);obtain⟨s1,s2,s3,s4⟩:=aA8 hi f1 (by rw[ht]);rw[ht]at i1 i2 s1 s2 s3;have est:stepT A.i w=cO (bK w ((aB w).set A.i (setCW f c 1))) A.src 0 (kG (setCW f c 1)):=by
   unfold stepT;rw[f1];show (if (aF f).2.2=true then cO (bK w ((aB w).set A.i (aF f).1)) (aF f).1.1 0 (aF f).2.1 else _)=_;rw[ht];show cO _ (setCW f c 1).1 0 _=_;rw[show (setCW f c 1).1=A.src from f2.src]
  rw[est];refine Rnd.proc hA ⟨(h.mid.flows _).mono (λd=>bYf (aKw _ _) _) (bWx _),⟨_,self _,hfc,.inr ⟨rfl,?_⟩⟩,λy hy c=> ?_⟩ i1 λ_=>i2 rfl
  .by_cases hc:c=A.c
   .exact .inr ⟨hc,rfl,g1,hT hc,_,bWt ..,.inl (data c 1 hc hsd)⟩
   .exact .inl ⟨hS hc,.inl (show (1:Int)<=1 by decide)⟩
  .rcases bWm.1 hy with hy | hy
   .rw[hy]at c;rw[s1]at c;exact absurd c (by decide)
   .exact h.rev y hy c
 by_cases h0:dT f=0
 .have ht:aF f=(setCW f (eR f) 1,kG f,true):=by
   unfold aF;rw[hs];have :(f.2.2.2.2.2.2.2.1==0)=true:=by rw[beq_iff_eq];exact h0
   rw[this];rfl
  have e1:kG f=kG (setCW f (eR f) 1):=rfl;rw[e1]at ht;have hm:muF A f=2 * ((A.ms.length:Int) - bS f)+(5 - 0)+6 * qA A.ps.length A.c (eR f) 0:=by unfold muF;rw[h0]
  have fp:=(bKy (n:=A.ps.length) (c:=A.c) (cur:=eR f) (w:=0) (by omega) cn f2.c0 f2.c1).1;refine rest _ 1 ht hs f2.c0 f2.c1 rfl (λhc=>by omega) λhc=> ?_
  have e2:muF A (setCW f (eR f) 1)=2 * ((A.ms.length:Int) - bS f)+(5 - 1)+6 * qA A.ps.length A.c (eR f) 1:=rfl;rw[e2,aUk hc];omega
 .by_cases h4:dT f=4
  .have hn:=aI3 (n:=A.ps.length) (c:=A.c) (cur:=eR f) (w:=dT f) (by omega) cn f2.c0 f2.c1 (.inr h0);have hs2:sends (setCW f (nW f) 1)=true:=by
    have :FC A (setCW f (nW f) 1):=f2.setCW (by rw[aAa hA f2];exact hn.1) (by rw[aAa hA f2];exact hn.2.1) (by decide) (by decide);exact this.sends g1
   have ht:aF f=(setCW f (nW f) 1,kG (setCW f (nW f) 1),true):=by
    unfold aF;rw[hs];have a:(f.2.2.2.2.2.2.2.1==0)=false:=by rw[beq_eq_false_iff_ne];exact h0
    have b:(f.2.2.2.2.2.2.2.1==4)=true:=by rw[beq_iff_eq];exact h4
    rw[a,b,hs2];rfl
   have hm:muF A f=2 * ((A.ms.length:Int) - bS f)+(5 - 4)+6 * qA A.ps.length A.c (eR f) (dT f):=by unfold muF;rw[<- h4]
   refine rest _ 1 ht hs2 (by rw[aAa hA f2];exact hn.1) (by rw[aAa hA f2];exact hn.2.1) rfl (λhc=>by omega) λhc=> ?_
   have e2:muF A (setCW f (nW f) 1)=2 * ((A.ms.length:Int) - bS f)+(5 - 1)+6 * qA A.ps.length A.c (nW f) 1:=rfl;rw[e2,aUk hc,aAa hA f2];omega
  .have e:wr (dT f+1)=dT f+1:=wri (by omega) (by omega);have ht:aF f=(setCW f (eR f) (dT f+1),pk0,false):=by
    unfold aF;rw[hs];have a:(f.2.2.2.2.2.2.2.1==0)=false:=by rw[beq_eq_false_iff_ne];exact h0
    have b:(f.2.2.2.2.2.2.2.1==4)=false:=by rw[beq_eq_false_iff_ne];exact h4
    rw[a,b,<- e];rfl
   have est:stepT A.i w=bK w ((aB w).set A.i (setCW f (eR f) (dT f+1))):=by
    unfold stepT;rw[f1];show (if (aF f).2.2=true then _ else bK w ((aB w).set A.i (aF f).1))=_;rw[ht];rfl
   rw[est];refine⟨(h.mid.flows _).mono (λd=>bX7 _ _) (bXi _),⟨_,self _,f2.setCW f2.c0 f2.c1 (by omega) (by omega),.inr ⟨rfl,.inl ⟨?_,.inr g3⟩⟩⟩,h.rev⟩;have e2:muF A (setCW f (eR f) (dT f+1))=2 * ((A.ms.length:Int) - bS f)+(5 - (dT f+1))+6 * qA A.ps.length A.c (eR f) (dT f+1):=rfl;have e3:qA A.ps.length A.c (eR f) (dT f+1)=qA A.ps.length A.c (eR f) (dT f):=by
    unfold qA;rw[zS (show ¬ dT f+1=0 by omega),zS h0]
   have e4:muF A f=2 * ((A.ms.length:Int) - bS f)+(5 - dT f)+6 * qA A.ps.length A.c (eR f) (dT f):=rfl;rw[e2,e3];omega
theorem Rnd.ticks{A:Aim}(hA:qP A):∀(n k:Nat) {w:den tNw},Rnd A (decide (A.i<k)) (λ_=>2 * n) n w (aE w)->aZ A.t w->Rnd A (decide (A.i<k+n)) (λ_=>2 * 0) 0 (tickL k n w) (aE (tickL k n w))/\aZ A.t (tickL k n w)
 | 0,k,w,h,hi=>⟨h,hi⟩
 | n+1,k,w,h,hi=>by
  have h':Rnd A (decide (A.i<k)) (λd=>2+(λ_=>2 * n) d) (n+1) w (aE w):=⟨h.mid.mono (λd=>by show 2+2 * n<=2 * (n+1);omega) (bWx _),h.flw,h.rev⟩
  show Rnd A _ _ 0 (tickL (k+1) n (stepT k w)) (aE (tickL (k+1) n (stepT k w)))/\aZ A.t (tickL (k+1) n (stepT k w));have goal:Rnd A (decide (A.i<k+1)) (λ_=>2 * n) n (stepT k w) (aE (stepT k w))/\aZ A.t (stepT k w):=by
   by_cases hk:k=A.i
   .subst hk;rw[zW (Nat.lt_irrefl _)]at h';rw[zX (bZx _)];exact h'.own hA hi
   .have e:decide (A.i<k+1)=decide (A.i<k):=by
     rw[bXj,zR,zR];omega
    rw[e];exact h'.other hA hi hk
  have r:=Rnd.ticks hA n (k+1) goal.1 goal.2;rw[show k+1+n=k+(n+1) by omega]at r;exact r
structure aKa (w w':den tNw):Prop where
 cap:(nG w').1=(nG w).1
 res:(nG w').2.1=(nG w).2.1
 flow:aB w'=aB w\/ ∃r p,aB w'=(aB w).map (bR r p)
theorem aJz(w:den tNw)(r eg:Int)(p:den tPk):aKa w (dS w r eg p)/\aB (dS w r eg p)=aB w:=by
 have tr:∀(g:den tSc) (id s d now:Int),(pT g id s d now).1=g.1/\(pT g id s d now).2.2.1=g.2.1:=λg id s d now=>by
  unfold pT;split
  .exact⟨rfl,rfl⟩
  .split<;>exact⟨rfl,rfl⟩
 unfold dS;split
 .exact⟨⟨(tr _ _ _ _ _).1,(tr _ _ _ _ _).2,.inl rfl⟩,rfl⟩
 .exact⟨⟨rfl,rfl,.inl rfl⟩,rfl⟩
theorem aPq(w:den tNw)(r inn:Int)(p:den tPk):aKa w (proc0 w r inn p):=by
 unfold proc0;split
 .exact (aJz _ _ _ _).1
 .split
  .exact⟨rfl,rfl,.inr ⟨_,_,rfl⟩⟩
  .exact⟨rfl,rfl,.inl rfl⟩
theorem bJh(w:den tNw)(r:Int)(p:den tPk):aKa w (kL w r p):=by
 unfold kL;split
 .exact⟨rfl,rfl,.inl rfl⟩
 .split
  .have h:=aPq (mH w (cN (aL w) r p.2.1).toNat (bY (gL w (cN (aL w) r p.2.1).toNat) p)) r 0 (kR (bY (gL w (cN (aL w) r p.2.1).toNat) p) p);exact⟨h.cap,h.res,h.flow⟩
  .exact⟨rfl,rfl,.inl rfl⟩
theorem bGb(w:den tNw)(r d:Int)(p:den tPk):aKa w (nY w r d p):=by
 unfold nY;split
 .have h:=aPq w r 0 (dI r (aH w) d p);exact⟨h.cap,h.res,h.flow⟩
 .exact⟨rfl,rfl,.inr ⟨_,_,rfl⟩⟩
theorem wK(w:den tNw)(r inn:Int)(p:den tPk):aKa w (cO w r inn p):=by
 unfold cO;split
 .exact (aJz _ _ _ _).1
 .split
  .split
   .exact bJh _ _ _
   .exact⟨rfl,rfl,.inr ⟨_,_,rfl⟩⟩
  .split
   .exact bGb _ _ _ _
   .exact⟨rfl,rfl,.inl rfl⟩
def eO(P:Nat->den tFl->Prop)(w:den tNw):Prop:= ∀(k:Nat) (f:den tFl),(aB w)[k]? =some f->P k f
theorem eO.eq{P:Nat->den tFl->Prop}{w w':den tNw}(h:eO P w)(e:aB w'=aB w):eO P w':=λk f hf=>h k f (by rw[<- e];exact hf)
theorem eO.tame{P:Nat->den tFl->Prop}(hT:∀k r q f,P k f->P k (bR r q f)){w w':den tNw}(h:eO P w)(t:aKa w w'):eO P w':=by
 rcases t.flow with e | ⟨r,p,e⟩
 .exact h.eq e
 .intro k f hf;rw[e,bXx]at hf;obtain⟨g,hg,rfl⟩:=bXd.1 hf;exact hT k r p g (h k g hg)
theorem eO.out{P:Nat->den tFl->Prop}(hT:∀k r q f,P k f->P k (bR r q f)){w:den tNw}(h:eO P w):eO P (outW w):=by
 unfold outW;split
 .exact h
 .rename_i x l hf;exact eO.tame hT (w:=bF w l) (h.eq rfl) (wK _ _ _ _)
theorem eO.del{P:Nat->den tFl->Prop}(hT:∀k r q f,P k f->P k (bR r q f)):∀(n:Nat) {w:den tNw},eO P w->eO P (delW n w)
 | 0,_,h=>h
 | n+1,w,h=>by
  unfold delW;split
  .exact h
  .exact eO.del hT n (h.out hT)
theorem eO.set{P:Nat->den tFl->Prop}{w:den tNw}(h:eO P w){k:Nat}{g:den tFl}(hg:P k g):eO P (bK w ((aB w).set k g)):=by
 intro j f hf;have hf:((aB w).set k g)[j]? =some f:=hf
 by_cases e:k=j
 .subst e;rw[List.getElem?_set]at hf;simp only[zV]at hf;split at hf
  .injection hf with hf;subst hf;exact hg
  .cases hf
 .rw[bYq e]at hf;exact h j f hf
theorem eO.tickT{P:Nat->den tFl->Prop}(hT:∀k r q f,P k f->P k (bR r q f))(hK:∀k f,P k f->P k (aF f).1)(k:Nat){w:den tNw}(h:eO P w):eO P (stepT k w):=by
 unfold stepT;split
 .rename_i f hf;have h1:eO P (bK w ((aB w).set k (aF f).1)):=h.set (hK k f (h k f hf));split
  .exact h1.tame hT (wK _ _ _ _)
  .exact h1
 .exact h
theorem eO.tickL{P:Nat->den tFl->Prop}(hT:∀k r q f,P k f->P k (bR r q f))(hK:∀k f,P k f->P k (aF f).1):∀(n k:Nat) {w:den tNw},eO P w->eO P (tickL k n w)
 | 0,_,_,h=>h
 | n+1,k,w,h=>eO.tickL hT hK n (k+1) (eO.tickT hT hK k h)
theorem eO.tick{P:Nat->den tFl->Prop}(hT:∀k r q f,P k f->P k (bR r q f))(hK:∀k f,P k f->P k (aF f).1){w:den tNw}(h:eO P w):eO P (cJ w):=by
 unfold cJ;split
 .exact h
 .exact eO.tickL hT hK _ _ (w:=tick0 w) (h.eq rfl)
theorem eO.round{P:Nat->den tFl->Prop}(hT:∀k r q f,P k f->P k (bR r q f))(hK:∀k f,P k f->P k (aF f).1){w:den tNw}(h:eO P w):eO P (gZ w):=(h.tick hT hK).del hT _
theorem eO.rounds{P:Nat->den tFl->Prop}(hT:∀k r q f,P k f->P k (bR r q f))(hK:∀k f,P k f->P k (aF f).1):∀(n:Nat) {w:den tNw},eO P w->eO P (bC n w)
 | 0,_,h=>h
 | n+1,w,h=>eO.rounds hT hK n (h.round hT hK)
theorem aMo{w w':den tNw}(t:aKa w w'):(aB w').length=(aB w).length:=by
 rcases t.flow with e | ⟨r,p,e⟩
 .rw[e]
 .rw[e,bXe]
structure fG (w:den tNw):Prop where
 cap:(nG w).1=(12:Int)
 low:∀s d now:Int,rs s d now (nG w).2.1<=6
 pos:∀x∈(nG w).2.1,(0:Int)<=x.2.2.2.1/\(20:Int)>=x.2.2.2.1
 few:(aB w).length<=3
 pth:eO (λ_ f=>f.2.2.2.2.2.1.length<=4) w
theorem bLm:∀(k:Nat) (r:Int) (q:den tPk) (f:den tFl),f.2.2.2.2.2.1.length<=4->(bR r q f).2.2.2.2.2.1.length<=4:=λk r q f h=>by
 unfold bR;split
 .split
  .unfold iH;split<;>exact h
  .unfold iI;cases q.1==3&&(sD q.2.2.2.2.2.2.2.2.2).2.2.2<;>exact h
 .exact h
theorem bMx:∀(k:Nat) (f:den tFl),f.2.2.2.2.2.1.length<=4->(aF f).1.2.2.2.2.2.1.length<=4:=λk f h=>by
 obtain⟨c,wt,e,_⟩:=uM f;rw[e];exact h
theorem fG.tame{w w':den tNw}(h:fG w)(t:aKa w w'):fG w':=⟨t.cap.trans h.cap,by rw[t.res];exact h.low,by rw[t.res];exact h.pos,by rw[aMo t];exact h.few,h.pth.tame bLm t⟩
theorem fG.fly{w:den tNw}(h:fG w)(l:lFy):fG (bF w l):=⟨h.cap,h.low,h.pos,h.few,h.pth.eq rfl⟩
theorem fG.out{w:den tNw}(h:fG w):fG (outW w):=by
 unfold outW;split
 .exact h
 .rename_i x l _;exact (h.fly l).tame (wK _ _ _ _)
theorem fG.del:∀(n:Nat) {w:den tNw},fG w->fG (delW n w)
 | 0,_,h=>h
 | n+1,w,h=>by
  unfold delW;split
  .exact h
  .exact fG.del n h.out
theorem fG.set{w:den tNw}(h:fG w){k:Nat}{g:den tFl}(hg:g.2.2.2.2.2.1.length<=4):fG (bK w ((aB w).set k g)):=⟨h.cap,h.low,h.pos,by show ((aB w).set k g).length<=3;rw[bYb];exact h.few,h.pth.set hg⟩
theorem fG.tickT(k:Nat){w:den tNw}(h:fG w):fG (stepT k w):=by
 unfold stepT;split
 .rename_i f hf;have h1:fG (bK w ((aB w).set k (aF f).1)):=h.set (bMx k f (h.pth k f hf));split
  .exact h1.tame (wK _ _ _ _)
  .exact h1
 .exact h
theorem fG.tickL:∀(n k:Nat) {w:den tNw},fG w->fG (tickL k n w)
 | 0,_,_,h=>h
 | n+1,k,w,h=>fG.tickL n (k+1) (h.tickT k)
theorem fG.tick0{w:den tNw}(h:fG w):fG (tick0 w):=by
 refine⟨h.cap,λs d now=> ?_,λx hx=> ?_,h.few,h.pth.eq rfl⟩
 .show rs s d now (sV (nG w).2.1 (wr (aH w+1)))<=6;exact bX4 (aJ6 _ h.pos) (h.low s d now)
 .have hx:x∈sV (nG w).2.1 (wr (aH w+1)):=hx;exact h.pos x ((bWy.1 hx).1)
theorem fG.tick{w:den tNw}(h:fG w):fG (cJ w):=by
 unfold cJ;split
 .exact h
 .exact fG.tickL _ _ h.tick0
theorem fG.round{w:den tNw}(h:fG w):fG (gZ w):=h.tick.del _
theorem fG.event{w:den tNw}(h:fG w)(e:den pG):fG (doW w e).2:=by
 unfold doW;split
 .exact h.tick
 split
 .split
  .exact (fG.fly h _).tame (wK _ _ _ _)
  .exact h
 split
 .split
  .have :=h.fly ((aEa w e.2.1.toNat).2.2.2.2.2.1);exact⟨h.cap,h.low,h.pos,h.few,h.pth.eq rfl⟩
  .exact h
 split
 .split
  .exact h.fly _
  .exact h
 split
 .have hl:aB (vW w e.2.1 (e.1==5))=aB w/\nG (vW w e.2.1 (e.1==5))=nG w:=by unfold vW;first | exact⟨rfl,rfl⟩ | (split<;>exact⟨rfl,rfl⟩)
  exact⟨by rw[hl.2];exact h.cap,by rw[hl.2];exact h.low,by rw[hl.2];exact h.pos,by rw[hl.1];exact h.few,h.pth.eq hl.1⟩
 split
 .split
  .exact h.fly _
  .exact h
 split
 .split
  .rename_i f _ hf;refine h.set ?_;have hp:=h.pth _ _ hf;unfold aEz
   first | exact hp | (split<;>exact hp)
  .exact h
 .exact h
theorem aIw{w:den tNw}(h:fG w)(ho:OkS (nG w) (aH w))(hn:wr (aH w+1)=aH w+1):∀s d:Int,6<=free (sV (nG w).2.1 (aH w+1)) (nG w).1 s d (aH w+1):=by
 intro s d;have ht:=ho.tick (now':=aH w+1) (by omega);have hc:(nG w).1=(12:Int):=h.cap;have e:=aZs (l:=sV (nG w).2.1 (aH w+1)) (cap:=(nG w).1) (now:=aH w+1) ht.res (by rw[hc];decide) s d;rw[e,aSn,hc];have :=h.low s d (aH w+1);omega
theorem bG.outW(w:den tNw):bG w (outW w):=by
 unfold Go.Proofs.YtnkjolpkcmgcaaaGreat.outW;split
 .exact bG.refl w
 .rename_i x l hf;have hs:bG w (bF w l):=⟨rfl,rfl,id,λy hy=> .inl (by rw[hf];exact bWo _ hy),λhn=>by
   rw[hf]at hn;show l.length<=150;simp only[List.length_cons]at hn;omega⟩
  exact hs.trans (bG.proc _ _ _ _)
theorem bG.delW:∀(n:Nat) (w:den tNw),bG w (delW n w)
 | 0,w=>bG.refl w
 | n+1,w=>by
  unfold Go.Proofs.YtnkjolpkcmgcaaaGreat.delW;split
  .exact bG.refl w
  .exact (bG.outW w).trans (bG.delW n _)
theorem bIb{w:den tNw}(h0:0<=aH w)(h:aH w+1<=1000000):aH (gZ w)=aH w+1:=by
 have e1:aH (gZ w)=aH (cJ w):=(bG.delW 2000 (cJ w)).now;have e2:cJ w=tickL 0 (aB w).length (tick0 w):=by
  unfold cJ;rw[zS (show ¬ aH w>=1000000 by omega)]
 have e3:aH (tickL 0 (aB w).length (tick0 w))=aH (tick0 w):=(bG.tickL _ _ _).now;have e4:aH (tick0 w)=wr (aH w+1):=rfl;rw[e1,e2,e3,e4,bD (by omega) (by omega)]
theorem aOk:∀(n:Nat) (w:den tNw),aJ (delW n w)=aJ w
 | 0,_=>rfl
 | n+1,w=>by
  unfold delW;split
  .rfl
  .exact (aOk n (outW w)).trans (bF4 w)
theorem bB8(w:den tNw):aJ (gZ w)=aJ w:=(aOk 2000 (cJ w)).trans (aF6 w)
theorem bPj(w:den tNw):(aB (outW w)).length=(aB w).length:=by
 unfold outW;split
 .rfl
 .exact (aMo (wK _ _ _ _)).trans rfl
theorem aZ3:∀(n:Nat) (w:den tNw),(aB (delW n w)).length=(aB w).length
 | 0,_=>rfl
 | n+1,w=>by
  unfold delW;split
  .rfl
  .exact (aZ3 n (outW w)).trans (bPj w)
theorem bIu(k:Nat)(w:den tNw):(aB (stepT k w)).length=(aB w).length:=by
 unfold stepT;split
 .split
  .exact (aMo (wK _ _ _ _)).trans (by show ((aB w).set k _).length=_;rw[bYb])
  .show ((aB w).set k _).length=_;rw[bYb]
 .rfl
theorem aR7:∀(n k:Nat) (w:den tNw),(aB (tickL k n w)).length=(aB w).length
 | 0,_,_=>rfl
 | n+1,k,w=>by
  unfold tickL;exact (aR7 n (k+1) (stepT k w)).trans (bIu k w)
theorem bFn(w:den tNw):(aB (gZ w)).length=(aB w).length:=by
 refine (aZ3 2000 (cJ w)).trans ?_;unfold cJ;split
 .rfl
 .exact aR7 _ 0 (tick0 w)
theorem aHb{t:den tTo}{B k d:Nat}{w:den tNw}(h:gH t B k d w)(hc:fG w)(n:Nat):k+n<=1000->d+n * 4008<=800000000->gH t (B+n * 328656) (k+n) (d+n * 4008) (bC n w)/\fG (bC n w)/\aH (bC n w)=aH w+n/\aJ (bC n w)=aJ w/\(aB (bC n w)).length=(aB w).length:=by
 induction n with
 | zero=>
  intro _ _;exact⟨h.mono (by omega) (by omega) (by omega),hc,by show aH w=aH w+((0:Nat):Int);omega,rfl,rfl⟩
 | succ n ih=>
  intro hk hd;obtain⟨a,b,c,e,g⟩:=ih (by omega) (by omega);have hlo:=h.run.lo;have hhi:=h.run.hi;rw[wS];refine⟨(gH.step a (by omega) (by omega)).mono (by omega) (by omega) (by omega),b.round,?_,(bB8 _).trans e,(bFn _).trans g⟩;rw[bIb (by omega) (by omega),c];omega
theorem bE2{t:den tTo}{B k d:Nat}{w:den tNw}(h:gH t B k d w)(hc:fG w)(n:Nat):k+n<=1000->d+n * 4008<=800000000->aE (bC n w)=[]\/fF (bC n w)+1440 * n<=fF w:=by
 induction n with
 | zero=>intro _ _;exact .inr (bWx _)
 | succ n ih=>
  intro hk hd;have hf:=(aHb h hc n (by omega) (by omega)).2.1.few;rw[wS];rcases ih (by omega) (by omega) with g | g
  .exact .inl (aFg (by omega) g)
  .rcases aPe (w:=bC n w) (by omega) with g2 | g2
   .exact .inl g2
   .exact .inr (by omega)
def aCn(f0 f:den tFl):Prop:=f.1=f0.1/\f.2.1=f0.2.1/\f.2.2.2.2.1=f0.2.2.2.2.1/\f.2.2.2.2.2.1=f0.2.2.2.2.2.1
theorem aCn.trans{a b c:den tFl}(h:aCn a b)(k:aCn b c):aCn a c:=⟨k.1.trans h.1,k.2.1.trans h.2.1,k.2.2.1.trans h.2.2.1,k.2.2.2.trans h.2.2.2⟩
theorem aBj(r:Int)(q:den tPk)(f:den tFl):aCn f (bR r q f):=by
 unfold bR;split
 .split
  .unfold iH;split<;>exact⟨rfl,rfl,rfl,rfl⟩
  .unfold iI;cases q.1==3&&(sD q.2.2.2.2.2.2.2.2.2).2.2.2<;>exact⟨rfl,rfl,rfl,rfl⟩
 .exact⟨rfl,rfl,rfl,rfl⟩
theorem wA(f:den tFl):aCn f (aF f).1:=by
 obtain⟨c,wt,e,_⟩:=uM f;rw[e];exact⟨rfl,rfl,rfl,rfl⟩
def bNx(i:Nat)(f0:den tFl)(k:Nat)(f:den tFl):Prop:=k=i->aCn f0 f
theorem aYc{w:den tNw}{i:Nat}{f0:den tFl}(hf:(aB w)[i]? =some f0)(n:Nat){f:den tFl}(h:(aB (bC n w))[i]? =some f):aCn f0 f:=by
 have a:eO (bNx i f0) w:=λk g hg e=>by
  rw[e,hf]at hg;injection hg with hg;rw[hg];exact⟨rfl,rfl,rfl,rfl⟩
 exact eO.rounds (P:=bNx i f0) (λk r q g hg e=>(hg e).trans (aBj r q g)) (λk g hg e=>(hg e).trans (wA g)) n a i f h rfl
theorem bJc{s d now i:Int}:∀{l:lRs},l.Pairwise (λx y=>iJ x y=false)->(∀x∈l,x.1=i/\(0:Int)<=x.2.2.2.1/\(2:Int)>=x.2.2.2.1)->rs s d now l<=2
 | [],_,_=>by simp[rs]
 | x::l,hp,h=>by
  have ih:=bJc (s:=s) (d:=d) (now:=now) (i:=i) (List.pairwise_cons.1 hp).2 λy hy=>h y (bWo _ hy)
  have hx:=h x (bWt ..);unfold rs;cases ha:atR x s d with
  | false=>simp only[Bool.false_and,bWz,zU];omega
  | true=>
   have h0:rs s d now l=0:=by
    rcases bD2 (s:=s) (d:=d) (now:=now) (l:=l) with h0 | ⟨y,hy,e1,e2⟩
    .exact h0
    .have hn:=(List.pairwise_cons.1 hp).1 y hy;have hy':=(h y (bWo _ hy)).1;unfold atR at ha;simp only[bWj,beq_iff_eq]at ha;have :iJ x y=true:=by
      unfold iJ atR;simp only[bWj,beq_iff_eq];exact⟨hy'.trans hx.1.symm,e1.trans ha.1.symm,e2.trans ha.2.symm⟩
     rw[this]at hn;cases hn
   rw[h0];split<;>omega
theorem aVf{s d now:Int}:∀{l:lRs},(∀x∈l,(1:Int)<=x.1/\(3:Int)>=x.1)->rs s d now l=rs s d now (l.filter λx=>x.1==(1:Int))+rs s d now (l.filter λx=>x.1==(2:Int))+rs s d now (l.filter λx=>x.1==(3:Int))
 | [],_=>by simp[rs]
 | x::l,h=>by
  have ih:=aVf (s:=s) (d:=d) (now:=now) (l:=l) λy hy=>h y (bWo _ hy)
  have hx:=h x (bWt ..);have key:∀z:Int,1<=z->3>=z->z=1\/z=2\/z=3:=λz h1 h2=>by omega
  have h3:x.1=(1:Int)\/x.1=(2:Int)\/x.1=(3:Int):=key _ hx.1 hx.2;simp only[bYr];rcases h3 with e | e | e
  .rw[e];simp only[show ((1:Int)==1)=true from rfl,show ((1:Int)==2)=false from rfl,show ((1:Int)==3)=false from rfl,zV,bWz,zU,rs];omega
  .rw[e];simp only[show ((2:Int)==1)=false from rfl,show ((2:Int)==2)=true from rfl,show ((2:Int)==3)=false from rfl,zV,bWz,zU,rs];omega
  .rw[e];simp only[show ((3:Int)==1)=false from rfl,show ((3:Int)==2)=false from rfl,show ((3:Int)==3)=true from rfl,zV,bWz,zU,rs];omega
theorem nV.calm{w:den tNw}(h:nV 3 w):fG w:=by
 have hr:=rQ h.res.val;have hv:∀x∈(nG w).2.1,(1:Int)<=x.1/\(3:Int)>=x.1/\(0:Int)<=x.2.2.2.1/\(2:Int)>=x.2.2.2.1:=λx hx=>⟨(aFb (h.res.val x hx)).1,(h.low x hx).1,(hr x hx).1,(h.low x hx).2⟩
 refine⟨by rw[h.gate],λs d now=> ?_,hr,h.len,λk f hf=>(h.flows f (bWu hf)).paths.1⟩;rw[aVf λx hx=>⟨(hv x hx).1,(hv x hx).2.1⟩];have one:∀i:Int,rs s d now ((nG w).2.1.filter λx=>x.1==i)<=2:=λi=>bJc (i:=i) (h.res.pw.filter _) λx hx=>by
  obtain⟨h1,h2⟩:=bWy.1 hx;exact⟨eq_of_beq h2,(hv x h1).2.2.1,(hv x h1).2.2.2⟩
 have a:=one 1;have b:=one 2;have c:=one 3;omega
theorem Ran.calm{v:den tNw}(hv:nV 3 v){l:xH}{w:den tNw}(h:Ran v l w):fG w:=by
 induction h with
 | nil=>exact hv.calm
 | snoc h he ih=>exact ih.event _
def bNo(x:den tPp):Prop:=x.2.1<=(60:Int)/\ ∀h∈x.2.2.2,h.2.2.2.1=(5000:Int)
def aN5(q:lPp):Prop:= ∀x∈q,bNo x
theorem aN5.rev{q:lPp}(h:aN5 q):aN5 (cH q):=by
 intro x hx;unfold cH at hx;obtain⟨y,hy,rfl⟩:=List.mem_map.1 hx;have :=h y (bZ6.1 hy);exact⟨this.1,λz hz=>this.2 z (bZ6.1 hz)⟩
def Tm(a:Int):Prop:=60<=a/\a<=5000
def Sta(A:Aim)(q:den tPt):Prop:=Arr A.t A.now A.dead (ends q).1 0 (bU 1 q 0 0 [])
def Cln(A:Aim)(y:den tFy):Prop:=
 (y.2.2.1=(1:Int)->y.2.2.2.1=A.src->y.2.2.2.2.1=A.dst->y.2.2.2.2.2.1∈A.ps/\(Arr A.t A.now A.dead y.1 y.2.1 y.2.2->Sta A y.2.2.2.2.2.1))/\
 (y.2.2.1=(2:Int)->y.2.2.2.1=A.dst->y.2.2.2.2.1=A.src-> ¬ Arr A.t A.now A.dead y.1 y.2.1 y.2.2)
structure Saf (A:Aim) (w:den tNw) (L:lFy):Prop where
 top:nT w=A.t
 now:aH w=A.now
 dead:aJ w=A.dead
 flow:∃f,(aB w)[A.i]? =some f/\f.1=A.src/\f.2.1=A.dst/\f.2.2.2.2.2.1=A.ps/\bS f=A.m
 pk:∀y∈L,Cln A y
def NoW(A:Aim):Prop:= ∀q∈A.ps,¬ aH9 A.t A.now A.dead q
theorem Saf.step{A:Aim}{w:den tNw}{L:lFy}(h:Saf A w L)(r inn:Int)(p:den tPk):aD (nT w) (aH w) (aJ w) r inn p=aD A.t A.now A.dead r inn p:=by rw[h.top,h.now,h.dead]
theorem Saf.same{A:Aim}{w w':den tNw}{L L':lFy}(h:Saf A w L)(e1:nT w'=nT w)(e2:aH w'=aH w)(e3:aJ w'=aJ w)(e4:aB w'=aB w)(e5:∀y∈L',Cln A y):Saf A w' L':=
 ⟨e1.trans h.top,e2.trans h.now,e3.trans h.dead,by rw[e4];exact h.flow,e5⟩
theorem bM6{r:Int}{q:den tPk}{f:den tFl}(h:tV f q=false):bS (bR r q f)=bS f:=by
 unfold bR;split
 .split
  .unfold iH;rw[h];rfl
  .unfold iI;cases q.1==3&&(sD q.2.2.2.2.2.2.2.2.2).2.2.2<;>rfl
 .rfl
theorem Saf.told{A:Aim}{w:den tNw}{L L':lFy}{r:Int}{q:den tPk}(h:Saf A w L)(hn:∀f:den tFl,f.1=A.src->f.2.1=A.dst->tV f q=false)(e5:∀y∈L',Cln A y):Saf A (oQ w r q) L':=by
 obtain⟨f,f1,f2,f3,f4,f5⟩:=h.flow;obtain⟨t1,t2,t3,t4⟩:=aBj r q f;refine⟨h.top,h.now,h.dead,⟨bR r q f,?_,t1.trans f2,t2.trans f3,t4.trans f4,(bM6 (hn f f2 f3)).trans f5⟩,e5⟩;show ((aB w).map (bR r q))[A.i]? =_;rw[bXx,f1];rfl
theorem bLv{w:den tNw}{r eg:Int}{p:den tPk}{y:den tFy}(h:y∈aE (dS w r eg p)):y∈aE w\/y=((remote (nT w) r eg).1,(remote (nT w) r eg).2,p):=by
 unfold dS at h;split at h
 .have h:y∈aE w++[((remote (nT w) r eg).1,(remote (nT w) r eg).2,p)]:=h;rcases bWq.1 h with h | h
  .exact .inl h
  .exact .inr (bWp.1 h)
 .exact .inl h
theorem aU1(w:den tNw)(r eg:Int)(p:den tPk):nT (dS w r eg p)=nT w/\aH (dS w r eg p)=aH w:=by
 unfold dS;split<;>exact⟨rfl,rfl⟩
theorem aN8{t:den tTo}{now:Int}{dead:List Int}{r inn:Int}{p:den tPk}:(aD t now dead r inn p).2.2.1.1=p.1/\(aD t now dead r inn p).2.2.1.2.1=p.2.1/\(aD t now dead r inn p).2.2.1.2.2.1=p.2.2.1/\(aD t now dead r inn p).2.2.1.2.2.2.1=p.2.2.2.1:=by
 obtain⟨i,j,b,e⟩:=vG t now dead r inn p;rw[e];exact⟨rfl,rfl,rfl,rfl⟩
theorem Saf.fwd{A:Aim}{w:den tNw}{r inn:Int}{p:den tPk}(h:Saf A w ((r,inn,p)::aE w))(hc:(aD A.t A.now A.dead r inn p).1=0):
  Saf A (dS w r (aD A.t A.now A.dead r inn p).2.1 (aD A.t A.now A.dead r inn p).2.2.1) (aE (dS w r (aD A.t A.now A.dead r inn p).2.1 (aD A.t A.now A.dead r inn p).2.2.1)):=by
 refine h.same (aU1 _ _ _ _).1 (aU1 _ _ _ _).2 (aIa _ _ _ _) (aJz _ _ _ _).2 λy hy=> ?_
 rcases bLv hy with hy | hy
 .exact h.pk y (bWo _ hy)
 .obtain⟨g1,g2⟩:=h.pk _ (bWt ..);obtain⟨k1,k2,k3,k4⟩:=aN8 (t:=A.t) (now:=A.now) (dead:=A.dead) (r:=r) (inn:=inn) (p:=p);rw[hy,h.top];refine⟨λa b c=> ?_,λa b c d=> ?_⟩
  .obtain⟨u1,u2⟩:=g1 (k1.symm.trans a) (k2.symm.trans b) (k3.symm.trans c);refine⟨?_,λd=> ?_⟩
   .show (aD A.t A.now A.dead r inn p).2.2.1.2.2.2.1∈A.ps;rw[k4];exact u1
   .show Sta A (aD A.t A.now A.dead r inn p).2.2.1.2.2.2.1;rw[k4];exact u2 (.step hc d)
  .exact g2 (k1.symm.trans a) (k2.symm.trans b) (k3.symm.trans c) (.step hc d)
theorem Saf.lost{A:Aim}{w:den tNw}{y:den tFy}(h:Saf A w (y::aE w)):Saf A (rX w) (aE w):=h.same rfl rfl rfl rfl λz hz=>h.pk z (bWo _ hz)
theorem aHa{f:den tFl}{q:den tPk}(h:tV f q=true):q.1=(2:Int)/\q.2.1=f.2.1/\q.2.2.1=f.1:=by
 unfold tV at h;simp only[bWj,beq_iff_eq]at h;exact⟨h.1,h.2.1,h.2.2.1⟩
theorem Saf.home{A:Aim}{w:den tNw}{r inn:Int}{p:den tPk}(h:Saf A w ((r,inn,p)::aE w))(hc:(aD A.t A.now A.dead r inn p).1=1):Saf A (oQ w r (aD A.t A.now A.dead r inn p).2.2.1) (aE w):=by
 refine h.told (λf f1 f2=> ?_) λz hz=>h.pk z (bWo _ hz)
 obtain⟨_,g2⟩:=h.pk _ (bWt ..);obtain⟨k1,k2,k3,k4⟩:=aN8 (t:=A.t) (now:=A.now) (dead:=A.dead) (r:=r) (inn:=inn) (p:=p);cases ha:tV f (aD A.t A.now A.dead r inn p).2.2.1 with
 | false=>rfl
 | true=>
  obtain⟨a1,a2,a3⟩:=aHa ha;exact absurd (Arr.here hc) (g2 (k1.symm.trans a1) (k2.symm.trans (a2.trans f2)) (k3.symm.trans (a3.trans f1)))
theorem Saf.proc0{A:Aim}{w:den tNw}{r inn:Int}{p:den tPk}(h:Saf A w ((r,inn,p)::aE w)):Saf A (proc0 w r inn p) (aE (proc0 w r inn p)):=by
 unfold Go.Proofs.YtnkjolpkcmgcaaaGreat.proc0;rw[h.step r inn p];split
 .rename_i c;exact h.fwd (eq_of_beq c)
 .split
  .rename_i c;exact h.home (eq_of_beq c)
  .exact h.lost
theorem Saf.data{A:Aim}(hno:NoW A){w:den tNw}{r inn:Int}{p:den tPk}(h:Saf A w ((r,inn,p)::aE w))(hi:aZ A.t w)(hg:kI w p)(hk:(p.1==(1:Int))=true)(hc:(aD A.t A.now A.dead r inn p).1=1):
  Saf A (kL w r (aD A.t A.now A.dead r inn p).2.2.1) (aE (kL w r (aD A.t A.now A.dead r inn p).2.2.1)):=by
 obtain⟨i,j,b',eg⟩:=vG A.t A.now A.dead r inn p;obtain⟨g1,_⟩:=h.pk _ (bWt ..);have hv:cL p=true:=(mQ (t:=A.t) (r:=r) (now:=A.now) (dead:=dU A.t A.dead r) (inn:=inn) (p:=p) (.inr (.inl hc))).val;rw[eg];have hg':kI w (goTo p i j b'):=hg.goTo i j b';have tl:∀y∈aE w,Cln A y:=λy hy=>h.pk y (bWo _ hy)
 unfold kL;split
 .exact h.same rfl rfl rfl rfl tl
 .rename_i hx;split
  .rename_i ha;obtain⟨q1,q2,q3,q4⟩:=aGk hi hg' hx ha;rw[q3];have q1:p.2.2.1=r:=q1;have q4:ends (cH p.2.2.2.1)=(p.2.2.1,p.2.1):=q4;refine Saf.proc0 (inn:=0) (h.same rfl rfl rfl rfl λy hy=> ?_);rcases bWm.1 hy with hy | hy
   .rw[hy];refine⟨λa=>absurd a (show ¬ ((2:Int)=1) by decide),λ_ b c d=> ?_⟩;have b:(ends (cH p.2.2.2.1)).1=A.dst:=b;have c:(ends (cH p.2.2.2.1)).2=A.src:=c;rw[q4]at b c;obtain⟨u1,u2⟩:=g1 (eq_of_beq hk) c b;refine hno _ u1 ⟨u2 (.here hc),?_⟩;rw[q4];show Arr A.t A.now A.dead p.2.2.1 0 (bU 1 (cH p.2.2.2.1) 0 0 []);rw[q1];exact Arr.set (m:=(1,0,0,[])) rfl d
   .exact tl y hy
  .exact h.same rfl rfl rfl rfl tl
theorem Saf.note{A:Aim}{w:den tNw}{r d:Int}{p:den tPk}(h:Saf A w (aE w)):Saf A (nY w r d p) (aE (nY w r d p)):=by
 unfold nY;split
 .have key:Saf A w ((r,0,dI r (aH w) d p)::aE w):=h.same rfl rfl rfl rfl λy hy=>by
   rcases bWm.1 hy with hy | hy
   .rw[hy];exact⟨λa=>absurd a (show ¬ ((3:Int)=1) by decide),λa=>absurd a (show ¬ ((3:Int)=2) by decide)⟩
   .exact h.pk y hy
  have r1:=key.proc0;exact r1.same rfl rfl rfl rfl r1.pk
 .have r1:Saf A (oQ w r (dI r (aH w) d p)) (aE w):=h.told (λf _ _=>by
   cases ha:tV f (dI r (aH w) d p) with
   | false=>rfl
   | true=>exact absurd (aHa ha).1 (show ¬ ((3:Int)=2) by decide)) h.pk
  exact r1.same rfl rfl rfl rfl r1.pk
theorem Saf.proc{A:Aim}(hno:NoW A){w:den tNw}{r inn:Int}{p:den tPk}(h:Saf A w ((r,inn,p)::aE w))(hi:aZ A.t w)(hg:aHr w p):Saf A (cO w r inn p) (aE (cO w r inn p)):=by
 unfold cO;rw[h.step r inn p];split
 .rename_i c;exact h.fwd (eq_of_beq c)
 .split
  .rename_i c1;have hv:cL p=true:=(mQ (t:=A.t) (r:=r) (now:=A.now) (dead:=dU A.t A.dead r) (inn:=inn) (p:=p) (.inr (.inl (eq_of_beq c1)))).val;split
   .rename_i hk;exact h.data hno hi (hg hv) hk (eq_of_beq c1)
   .exact h.home (eq_of_beq c1)
  .split
   .exact Saf.note (h.same rfl rfl rfl rfl λy hy=>h.pk y (bWo _ hy))
   .exact h.lost
theorem Saf.out{A:Aim}(hno:NoW A){w:den tNw}(h:Saf A w (aE w))(hi:aZ A.t w):Saf A (outW w) (aE (outW w))/\aZ A.t (outW w):=by
 unfold outW;split
 .exact⟨h,hi⟩
 .rename_i x l hf;have hi':aZ A.t (bF w l):=hi.same rfl rfl rfl λy hy=> .inl (by rw[hf];exact bWo _ hy)
  have hg:aHr (bF w l) x.2.2:=hi.good x (by rw[hf];exact bWt ..);refine⟨Saf.proc hno (h.same rfl rfl rfl rfl ?_) hi' hg,yQ hi' hg⟩;have :=h.pk;rw[hf]at this;exact this
theorem Saf.del{A:Aim}(hno:NoW A):∀(n:Nat) {w:den tNw},Saf A w (aE w)->aZ A.t w->Saf A (delW n w) (aE (delW n w))/\aZ A.t (delW n w)
 | 0,w,h,hi=>⟨h,hi⟩
 | n+1,w,h,hi=>by
  unfold delW;split
  .exact⟨h,hi⟩
  .obtain⟨h1,h2⟩:=h.out hno hi;exact Saf.del hno n h1 h2
theorem aSw{f:den tFl}(hs:(aF f).2.2=true):(aF f).2.1.2.2.2.1∈f.2.2.2.2.2.1/\(aF f).2.1=bU 1 (aF f).2.1.2.2.2.1 f.2.2.1 f.2.2.2.1 ((f.2.2.2.2.1[f.2.2.2.1.toNat]?).getD []):=by
 obtain⟨c,wt,e1,e2⟩:=uM f;obtain⟨g1,g2⟩:=e2 hs;have g3:=g2;unfold sends at g3;rw[bWj]at g3;obtain⟨a0,a1⟩:=aI.1 g3.1;have hc:c.toNat<f.2.2.2.2.2.1.length:=by
  have a0:0<=c:=a0;have a1:c<=(f.2.2.2.2.2.1.length:Int) - 1:=a1;omega
 have e:kG (setCW f c wt)=bU 1 (f.2.2.2.2.2.1[c.toNat]'hc) f.2.2.1 f.2.2.2.1 ((f.2.2.2.2.1[f.2.2.2.1.toNat]?).getD []):=by
  unfold kG;rw[zT g2];show bU 1 ((f.2.2.2.2.2.1[c.toNat]?).getD []) _ _ _=_;rw[bWl hc];rfl
 rw[g1,e];exact⟨bXt hc,rfl⟩
theorem Saf.tickT{A:Aim}(hno:NoW A){w:den tNw}(k:Nat)(h:Saf A w (aE w))(hi:aZ A.t w):Saf A (stepT k w) (aE (stepT k w))/\aZ A.t (stepT k w):=by
 refine⟨?_,aBe k hi⟩;unfold stepT;split
 .rename_i f hf;obtain⟨i1,i2⟩:=aK1 hi hf;have hset:∀L,(∀y∈L,Cln A y)->Saf A (bK w ((aB w).set k (aF f).1)) L:=λL hL=>by
   obtain⟨g,q1,q2,q3,q4,q5⟩:=h.flow;refine⟨h.top,h.now,h.dead,?_,hL⟩
   by_cases e:k=A.i
   .subst e;rw[hf]at q1;injection q1 with q1;subst q1;obtain⟨c,wt,e1,_⟩:=uM f;refine⟨_,bYj (bWn.1 hf).1,?_⟩;rw[e1];exact⟨q2,q3,q4,q5⟩
   .exact⟨g,(bYq e).trans q1,q2,q3,q4,q5⟩
  split
  .rename_i hb;obtain⟨s1,s2,s3,s4⟩:=aA8 hi hf hb;obtain⟨m1,m2⟩:=aSw hb;refine Saf.proc hno (inn:=0) (hset _ λy hy=> ?_) i1 λ_=>i2 hb
   rcases bWm.1 hy with hy | hy
   .rw[hy];refine⟨λa b c=> ?_,λa=> ?_⟩
    .obtain⟨g,q1,q2,q3,q4,q5⟩:=h.flow;have e:k=A.i:=hi.one hf q1 (by rw[q2,<- b];exact s2.symm) (by rw[q3,<- c];exact s3.symm);subst e;rw[hf]at q1;injection q1 with q1;subst q1;refine⟨by rw[<- q4];exact m1,λd=> ?_⟩;have d:Arr A.t A.now A.dead (aF f).1.1 0 (aF f).2.1:=d;have e5:(aF f).1.1=(ends (aF f).2.1.2.2.2.1).1:=by
      have :(aF f).2.1.2.1=(ends (aF f).2.1.2.2.2.1).1:=by
       have :=congrArg (λz:den tPk=>z.2.1) m2;exact this
      rw[s4,<- s2,this]
     show Arr A.t A.now A.dead (ends (aF f).2.1.2.2.2.1).1 0 (bU 1 (aF f).2.1.2.2.2.1 0 0 []);rw[<- e5];have e6:lA (aF f).2.1 (1,0,0,[])=bU 1 (aF f).2.1.2.2.2.1 0 0 []:=by
      conv=>lhs;rw[m2]
      rfl
     rw[<- e6];exact Arr.set (m:=(1,0,0,[])) rfl d
    .have a:(aF f).2.1.1=(2:Int):=a;rw[s1]at a;exact absurd a (by decide)
   .exact h.pk y hy
  .exact hset _ h.pk
 .exact h
theorem Saf.ticks{A:Aim}(hno:NoW A):∀(n k:Nat) {w:den tNw},Saf A w (aE w)->aZ A.t w->Saf A (tickL k n w) (aE (tickL k n w))/\aZ A.t (tickL k n w)
 | 0,k,w,h,hi=>⟨h,hi⟩
 | n+1,k,w,h,hi=>by
  obtain⟨a,b⟩:=h.tickT hno k hi;exact Saf.ticks hno n (k+1) a b
theorem bCx{A:Aim}(hno:NoW A){w:den tNw}(hi:aZ A.t w)(h0:aE w=[])(hn:wr (aH w+1)=A.now)(hlt: ¬ aH w>=1000000)(hd:aJ w=A.dead){f:den tFl}(hf:(aB w)[A.i]? =some f)(h1:f.1=A.src)(h2:f.2.1=A.dst)(h3:f.2.2.2.2.2.1=A.ps)(h4:bS f=A.m):
  ∃f',(aB (gZ w))[A.i]? =some f'/\bS f'=A.m:=by
 have i0:aZ A.t (tick0 w):=hi.same rfl rfl rfl λy hy=> .inl hy
 have f0:aE (tick0 w)=[]:=h0;have r0:Saf A (tick0 w) (aE (tick0 w)):=⟨hi.top,hn,hd,⟨f,hf,h1,h2,h3,h4⟩,λy hy=>by rw[f0]at hy;cases hy⟩
 obtain⟨r1,i1⟩:=Saf.ticks hno (aB w).length 0 r0 i0;obtain⟨r2,i2⟩:=r1.del hno 2000 i1;have er:gZ w=delW 2000 (tickL 0 (aB w).length (tick0 w)):=by
  unfold gZ cJ;rw[zS hlt]
 rw[<- er]at r2;obtain⟨f',g1,_,_,_,g5⟩:=r2.flow;exact⟨f',g1,g5⟩
theorem aX8{t:den tTo}{B k d:Nat}{w:den tNw}(h:gH t B k d w)(hc:fG w)(h0:aE w=[]){i:Nat}{f0:den tFl}(hf:(aB w)[i]? =some f0)(hno:∀τ:Int,aH w<=τ->τ<=aH w+1000-> ∀q∈f0.2.2.2.2.2.1,¬ aH9 t τ (aJ w) q)(n:Nat):
  k+n<=1000->d+n * 4008<=800000000-> ∃f,(aB (bC n w))[i]? =some f/\bS f=bS f0:=by
 induction n with
 | zero=>intro _ _;exact⟨f0,hf,rfl⟩
 | succ n ih=>
  intro hk hd;obtain⟨f,g1,g2⟩:=ih (by omega) (by omega);obtain⟨a1,a2,a3,a4,a5⟩:=aHb h hc n (by omega) (by omega);have hlo:=h.run.lo;have hhi:=h.run.hi;have e0:aE (bC n w)=[]:=by
   rcases bE2 h hc n (by omega) (by omega) with g | g
   .exact g
   .have :fF w=0:=by unfold fF;rw[h0];rfl
    by_cases hn:n=0
    .subst hn;exact h0
    .omega
  obtain⟨s1,s2,s3,s4⟩:=aYc hf n g1;have wn:wr (aH (bC n w)+1)=aH (bC n w)+1:=bD (by omega) (by omega);have hn:=hno (aH (bC n w)+1) (by omega) (by omega);rw[wS];obtain⟨f',q1,q2⟩:=bCx (A:=⟨t,aH (bC n w)+1,aJ w,f0.1,f0.2.1,[],f0.2.2.2.2.2.1,0,[],i,bS f0⟩) hn (w:=bC n w) a1.inv e0 wn (by omega) a4 g1 s1 s2 s4 g2;exact⟨f',q1,q2⟩
theorem gH.event{t:den tTo}{B k d:Nat}{w:den tNw}{e:den pG}(h:gH t B k d w)(hk:k<=900)(hd:d<=10000000)(ht:t.2.length<=100)(he:EvD w e):gH t (B+2000) (k+1) (d+8) (doW w e).2 where
 run:=aP1 h.run (by omega) (by omega) he.s
 inv:=aZ4 h.inv h.run.keep.bytes.fly he.pk.2 he.harm
 drop:=h.drop.event h.run.keep.flows (by omega)
 dead:=by
  have :=aVx (w:=w) (e:=e) (by rw[h.run.top];exact h.dead);rw[h.run.top]at this;exact this
def aCk(k:den tDb)(x:den tPp):Prop:=(∃s∈k.1,∃i:Int,x=gP s 1 i\/x=gP s 4 i)\/(∃s∈k.2,x=gP s 2 0\/x=gP s 3 0)
theorem aIu{k:den tDb}{s:den tSg}{kd:Int}{p:lPp}(hs:s=fE\/aCk k (gP s kd 0))(hp:∀x∈p,aCk k x):∀x∈iC s kd p,aCk k x:=by
 intro x hx;unfold iC at hx;rcases hs with rfl | hs
 .exact hp x hx
 .cases hc:decide ((s.2.2.length:Int)>0) with
  | false=>rw[hc]at hx;exact hp x hx
  | true=>
   rw[hc]at hx;rcases bWq.1 hx with hx | hx
   .exact hp x hx
   .rw[bWp.1 hx];exact hs
theorem aOp{k:den tDb}{up core down:den tSg}{b:Bool}(h1:up=fE\/up∈k.1)(h2:core∈k.2)(h3:down=fE\/down∈k.1):∀x∈qE up core b down,aCk k x:=by
 unfold qE;refine aIu (h3.elim .inl λh=> .inr (.inl ⟨_,h,0,.inr rfl⟩)) (aIu (.inr (.inr ⟨_,h2,?_⟩)) (aIu (h1.elim .inl λh=> .inr (.inl ⟨_,h,0,.inl rfl⟩)) (λx hx=>(bW7 hx).elim)));cases b
 .exact .inl rfl
 .exact .inr rfl
theorem aA1{k:den tDb}{up down:den tSg}(h1:up=fE\/up∈k.1)(h3:down=fE\/down∈k.1)(a b:Int):∀p∈bX k.2 up a b down,∀x∈p,aCk k x:=by
 intro p hp;unfold bX at hp;rcases bWq.1 hp with hp | hp
 .obtain⟨s,hs,hp⟩:=bXf.1 hp;rw[bWp.1 hp];exact aOp h1 (bWy.1 hs).1 h3
 .obtain⟨s,hs,hp⟩:=bXf.1 hp;rw[bWp.1 hp];exact aOp h1 (bWy.1 hs).1 h3
theorem bCe{k:den tDb}{up down:den tSg}(h1:up∈k.1)(h2:down∈k.1)(n:Nat):∀x∈yW up down n,aCk k x:=by
 induction n with
 | zero=>intro x hx;exact (bW7 hx).elim
 | succ n ih=>
  intro x hx;unfold yW at hx;split at hx
  .simp only[bWm,bW7,or_false]at hx;rcases hx with rfl | rfl
   .exact .inl ⟨_,h1,_,.inl rfl⟩
   .exact .inl ⟨_,h2,_,.inr rfl⟩
  .exact ih x hx
theorem bB0{t:den tTo}{k:den tDb}(a b:Int):∀p∈mI t k a b,∀x∈p,aCk k x:=by
 intro p hp;have mu:∀r,∀s∈bV k.1 r,s∈k.1:=λr s hs=>(bWy.1 hs).1
 have one:∀(kind r:Int) (s:den tSg),s∈k.1->(kind=1\/kind=4)-> ∀p∈oF kind r s,∀x∈p,aCk k x:=λkind r s hs hk p hp=>by
  unfold oF at hp;cases hc:decide (fIx s.2.2 r>=0) with
  | false=>rw[hc]at hp;cases hp
  | true=>
   rw[hc]at hp;rw[bWp.1 hp];intro x hx;rw[bWp.1 hx];rcases hk with rfl | rfl
   .exact .inl ⟨_,hs,_,.inl rfl⟩
   .exact .inl ⟨_,hs,_,.inr rfl⟩
 unfold mI at hp;cases hc:(a==b||(!cG t a|| !cG t b)) with
 | true=>rw[hc]at hp;cases hp
 | false=>
 rw[hc]at hp;simp only[zY,bWq]at hp;rcases hp with (((((hp | hp) | hp) | hp) | hp) | hp) | hp
 .obtain⟨s,hs,hp⟩:=bXf.1 hp;exact one _ _ s (mu _ s hs) (.inl rfl) p hp
 .obtain⟨s,hs,hp⟩:=bXf.1 hp;exact one _ _ s (mu _ s hs) (.inr rfl) p hp
 .exact aA1 (.inl rfl) (.inl rfl) _ _ p hp
 .obtain⟨u,hu,hp⟩:=bXf.1 hp;obtain⟨d,hd,hp⟩:=bXf.1 hp;unfold sW at hp;cases hq:decide (((xS u d).length:Int)>0) with
  | false=>rw[hq]at hp;cases hp
  | true=>
   rw[hq]at hp;rw[bWp.1 hp];exact bCe (mu _ u hu) (mu _ d hd) _
 .cases hq:kO t a with
  | false=>rw[hq]at hp;cases hp
  | true=>
   rw[hq]at hp;obtain⟨d,hd,hp⟩:=bXf.1 hp;exact aA1 (.inl rfl) (.inr (mu _ d hd)) _ _ p hp
 .cases hq:kO t b with
  | false=>rw[hq]at hp;cases hp
  | true=>
   rw[hq]at hp;obtain⟨u,hu,hp⟩:=bXf.1 hp;exact aA1 (.inr (mu _ u hu)) (.inl rfl) _ _ p hp
 .obtain⟨u,hu,hp⟩:=bXf.1 hp;obtain⟨d,hd,hp⟩:=bXf.1 hp;exact aA1 (.inr (mu _ u hu)) (.inr (mu _ d hd)) _ _ p hp
theorem bLk{t:den tTo}{now:Int}{p:lPp}(m:List lPp):∀l:List lPp,p∈m.foldl (qJ t now) l->p∈l\/(p∈m/\aBx t p now=true):=by
 induction m with
 | nil=>exact λl h=> .inl h
 | cons q m ih=>
  intro l h;rcases ih _ h with h | ⟨h1,h2⟩
  .unfold qJ at h;cases c1:decide ((l.length:Int)<24) with
   | false=>rw[c1]at h;exact .inl h
   | true=>
    rw[c1]at h;cases c2:aBx t q now with
    | false=>rw[c2]at h;exact .inl h
    | true=>
     rw[c2]at h;cases c3:aEo l q with
     | true=>rw[c3]at h;exact .inl h
     | false=>
      rw[c3]at h;rcases bWq.1 h with h | h
      .exact .inl h
      .rw[bWp.1 h];exact .inr ⟨bWt ..,c2⟩
  .exact .inr ⟨bWo _ h1,h2⟩
theorem bGh{t:den tTo}{k:den tDb}{a b now:Int}{p:lPp}(h:p∈aEx t k a b now):p∈mI t k a b/\aBx t p now=true:=by
 rcases bLk _ _ h with h | h
 .exact (bW7 h).elim
 .exact h
theorem bCa{t:den tTo}{p:lPp}{now:Int}(h:aBx t p now=true):fV t p=true/\(∀x∈p,uC t x=true)/\ ∀x∈p,x.2.1<=now:=by
 unfold aBx at h;cases c:(fV t p&&aP8 t p) with
 | false=>rw[c]at h;cases h
 | true=>
  rw[c]at h;rw[bWj]at c;refine⟨c.1,bW5.1 c.2,λx hx=> ?_⟩;have :=bW5.1 h x hx;rw[bWj,bW8,decide_eq_false_iff_not]at this;exact Int.not_lt.1 this.1
theorem aBf{s:den tSg}{k i:Int}{h:den aR}(hh:h∈(gP s k i).2.2.2):h∈s.2.2:=by
 unfold gP at hh;split at hh
 .split at hh
  .exact bYa (bZ6.1 hh)
  .exact bYa hh
 .exact (bW7 hh).elim
theorem nV.paths{w:den tNw}{n:Nat}(h:nV n w):∀f∈aB w,∀q∈f.2.2.2.2.2.1,aN5 q/\fV (nT w) q=true/\(∀x∈q,uC (nT w) x=true)/\(∀x∈q,aCk (nK w) x)/\eB q<=29:=by
 intro f hf q hq;obtain⟨h1,h2⟩:=bGh (h.find f hf q hq);obtain⟨u1,u2,u3⟩:=bCa h2;have hfrom:=bB0 _ _ q h1;refine⟨λx hx=>⟨u3 x hx,λz hz=> ?_⟩,u1,u2,hfrom,?_⟩
 .have key:∀s:den tSg,aKn s.2.2->z∈s.2.2->z.2.2.2.1=(5000:Int):=λs hs hm=>by
   obtain⟨j,hj⟩:=bZz.1 hm;exact hs j z hj
  rcases hfrom x hx with ⟨s,hs,i,e | e⟩ | ⟨s,hs,e | e⟩<;>rw[e]at hz
  .exact key s (h.segs.1 s hs).1 (aBf hz)
  .exact key s (h.segs.1 s hs).1 (aBf hz)
  .exact key s (h.segs.2 s hs).1 (aBf hz)
  .exact key s (h.segs.2 s hs).1 (aBf hz)
 .have hD:=(h.flows f hf).paths.2 q hq;have :=aHy hD;exact bWk (aEg q) (bWk this (by decide))
def inK(k:Int):Int:=if k=1 then 2 else if k=4 then 3 else 1
def aIc(k:Int):Int:=if k=1 then 3 else if k=4 then 2 else 1
def aV8(t:den tTo)(x:den tPp):Prop:= ∀(j:Nat) (h:den aR),x.2.2.2[j]? =some h->(0<j->eF t h.1 (pIn x h)=inK x.1)/\(j+1<x.2.2.2.length->eF t h.1 (pEg x h)=aIc x.1)
structure qL (t:den tTo) (q:lPp):Prop where
 sim:fV t q=true
 ver:∀x∈q,uC t x=true
 long:aN5 q
 typ:∀x∈q,aV8 t x
theorem aRv(a b:Int):eH (wJ a b)=true:=by
 unfold wJ;split
 .rename_i h;rw[bWj]at h;have h1:=aI.1 h.1;have h2:=aI.1 h.2;rw[show wr (a - b)=a - b from wri (by omega) (by omega),show wr (a - b+2147483647)=a - b+2147483647 from wri (by omega) (by omega),bZr (by omega)];exact aI.2 ⟨by omega,by omega⟩
 .rfl
theorem aR2(a b:Int):eH (wW a b)=true:=by
 unfold wW;split
 .rename_i h;rw[bWj]at h;have h1:=aI.1 h.1;have h2:=aI.1 h.2;rw[show wr (a+b)=a+b from wri (by omega) (by omega),bZr (by omega)];exact aI.2 ⟨by omega,by omega⟩
 .rfl
theorem bDh(k b:Int)(h:den aR):eH (nE k b h)=true:=by
 unfold nE;split
 .exact aRv _ _
 .exact aR2 _ _
theorem aCe{x:den tPp}{j:Nat}{h:den aR}(hh:x.2.2.2[j]? =some h):bW x (j+1)=nE x.1 (bW x j) h:=by
 unfold bW;rw[List.take_add_one,hh,List.foldl_append];rfl
theorem aGl{x:den tPp}(h0:eH x.2.2.1=true):∀j:Nat,j<=x.2.2.2.length->eH (bW x j)=true
 | 0,_=>h0
 | j+1,hj=>by
  rw[aCe (bWl (show j<x.2.2.2.length by omega))];exact bDh _ _ _
theorem aBm{p0:den tPk}{i j:Nat}{b:Int}{x:den tPp}{h:den aR}(hx:p0.2.2.2.1[i]? =some x)(hh:x.2.2.2[j]? =some h):
  bH (goTo p0 i j b)=x/\cW (goTo p0 i j b)=h/\cB (goTo p0 i j b)=true/\bZ (goTo p0 i j b)=h.1:=by
 have hil:=(bWn.1 hx).1;have hjl:=(bWn.1 hh).1;have e1:bH (goTo p0 i j b)=x:=by
  unfold bH;show (p0.2.2.2.1[(i:Int).toNat]?).getD pt0=x;rw[bWs,hx];rfl
 have e2:cW (goTo p0 i j b)=h:=by
  unfold cW;rw[e1];show (x.2.2.2[(j:Int).toNat]?).getD h0=h;rw[bWs,hh];rfl
 have e3:cB (goTo p0 i j b)=true:=by
  unfold cB;show (inR (i:Int) 0 ((p0.2.2.2.1.length:Int) - 1)&&inR (j:Int) 0 (((((p0.2.2.2.1[(i:Int).toNat]?).getD (0,0,0,[])).2.2.2.length:Nat):Int) - 1))=true;rw[bWs,hx,bXo,bWj];have hjl':j<x.2.2.2.length:=hjl;exact⟨aI.2 ⟨by omega,by omega⟩,aI.2 ⟨by omega,by omega⟩⟩
 refine⟨e1,e2,e3,?_⟩;obtain⟨_,_,_,_,_,_,e⟩:=mR e3;rw[e,e2]
theorem aFm{t:den tTo}{x:den tPp}(hv:uC t x=true){j:Nat}{h:den aR}(hh:x.2.2.2[j]? =some h):tP t x.2.1 (vF x j) h=true:=
 (kJ (λk h=>tP t x.2.1 (vF x k) h) x.2.2.2).1 hv j h hh
theorem aOv{t:den tTo}{ts b:Int}{h:den aR}(hv:tP t ts b h=true):0<=h.1/\h.1<=7:=by
 unfold tP gS at hv;simp only[bWj]at hv;exact aI.1 hv.1.1
theorem aRa{t:den tTo}{p0:den tPk}{i j:Nat}{x:den tPp}{h:den aR}(hx:p0.2.2.2.1[i]? =some x)(hh:x.2.2.2[j]? =some h)(hv:uC t x=true):
  wL t (goTo p0 i j (bW x j))=true/\aT t (goTo p0 i j (bW x j))=goTo p0 i j (bW x (j+1)):=by
 obtain⟨e1,e2,e3,e4⟩:=aBm (b:=bW x j) hx hh;have hs:=aCe hh;have hvh:=aFm hv hh;have eb:bef (goTo p0 i j (bW x j))=vF x j:=by
  unfold bef vF;rw[e1,e2];show (if dM x.1=true then wJ (bW x j) h.2.2.2.2 else bW x j)=_;unfold nE at hs;split
  .rename_i c;rw[zT c]at hs;exact hs.symm
  .rfl
 have ea:aft (goTo p0 i j (bW x j))=bW x (j+1):=by
  unfold aft;rw[e1,e2,hs];rfl
 have so:wL t (goTo p0 i j (bW x j))=true:=by
  unfold wL;rw[e3,e1,e2,eb,hvh];rfl
 refine⟨so,?_⟩;unfold aT;rw[so,zT rfl,ea];rfl
theorem bFq{t:den tTo}{τ:Int}(hτ:Tm τ){p0:den tPk}{i j:Nat}{x:den tPp}{h:den aR}(hx:p0.2.2.2.1[i]? =some x)(hh:x.2.2.2[j]? =some h)(hv:uC t x=true)(hl:bNo x):dR t τ (goTo p0 i j (bW x j))=0:=by
 obtain⟨e1,e2,e3,e4⟩:=aBm (b:=bW x j) hx hh;have ha:=(aOv (aFm hv hh)).1;have hi:wT (goTo p0 i j (bW x j)) τ=true:=by
  unfold wT;rw[e4,e1,e2,hl.2 h (bWu hh),zW (Int.not_lt.2 ha),zX (bX4 hl.1 hτ.1),zX hτ.2];rfl
 unfold dR;rw[(aRa hx hh hv).1,zT rfl,hi,zT rfl]
theorem aDy{p0:den tPk}{i j:Nat}{b:Int}{x:den tPp}{h:den aR}(hx:p0.2.2.2.1[i]? =some x)(hh:x.2.2.2[j]? =some h):cY (goTo p0 i j b)=decide (j+1=x.2.2.2.length):=by
 obtain⟨e1,_⟩:=aBm (b:=b) hx hh;unfold cY;rw[e1,bXj,beq_iff_eq,zR];have hj:x.2.2.2.length>=0:=bW3 _;show (j:Int)=(x.2.2.2.length:Int) - 1↔j+1=x.2.2.2.length;omega
theorem aIs{t:den tTo}{p0:den tPk}{i j:Nat}{b:Int}{x:den tPp}{h:den aR}(hx:p0.2.2.2.1[i]? =some x)(hh:x.2.2.2[j]? =some h)(hv:uC t x=true):cZ (goTo p0 i j b)=(decide (j+1=x.2.2.2.length)&&decide (i+1=p0.2.2.2.1.length)):=by
 obtain⟨e1,_,_,e4⟩:=aBm (b:=b) hx hh;have ha:=(aOv (aFm hv hh)).1;unfold cZ;rw[aDy hx hh,e4,zX (show h.1>=0 from ha),bW4];congr 1;unfold aC9;rw[bXj,beq_iff_eq,zR];show (i:Int)=(p0.2.2.2.1.length:Int) - 1↔i+1=p0.2.2.2.1.length;omega
theorem bL2{t:den tTo}{q:lPp}(hg:qL t q){τ:Int}(hτ:Tm τ){p0:den tPk}(hq:p0.2.2.2.1=q):∀(n i j:Nat) (x:den tPp) (h:den aR),q[i]? =some x->x.2.2.2[j]? =some h->q.length - i<=n+1->
  ∃(i' j':Nat) (x':den tPp) (h':den aR),q[i']? =some x'/\x'.2.2.2[j']? =some h'/\h'.1=h.1/\((i'=i/\j'=j)\/(i<i'/\oB x.1<oB x'.1))/\(j'+1<x'.2.2.2.length\/(j'+1=x'.2.2.2.length/\i'+1=q.length))/\goC t τ n (goTo p0 i j (bW x j))=(0,goTo p0 i' j' (bW x' (j'+1))):=by
 intro n
 induction n with
 | zero=>
  intro i j x h hx hh hn;have hil:=(bWn.1 hx).1;have hjl:j<x.2.2.2.length:=(bWn.1 hh).1;have hm:=bWu hx;refine⟨i,j,x,h,hx,hh,rfl,.inl ⟨rfl,rfl⟩,by omega,?_⟩;unfold goC;rw[bFq hτ (by rw[hq];exact hx) hh (hg.ver x hm) (hg.long x hm),(aRa (by rw[hq];exact hx) hh (hg.ver x hm)).2]
 | succ n ih=>
  intro i j x h hx hh hn;have hil:=(bWn.1 hx).1;have hjl:j<x.2.2.2.length:=(bWn.1 hh).1;have hm:=bWu hx;have hx':p0.2.2.2.1[i]? =some x:=by rw[hq];exact hx
  unfold goC;rw[bFq hτ hx' hh (hg.ver x hm) (hg.long x hm),(aRa hx' hh (hg.ver x hm)).2,aDy hx' hh,aIs hx' hh (hg.ver x hm),hq]
  by_cases c1:j+1=x.2.2.2.length
  .by_cases c2:i+1=q.length
   .rw[zX c1,zX c2];exact⟨i,j,x,h,hx,hh,rfl,.inl ⟨rfl,rfl⟩,.inr ⟨c1,c2⟩,rfl⟩
   .rw[zX c1,zW c2];have hil2:i+1<q.length:=by omega
    have hy:q[i+1]? =some q[i+1]:=bWl hil2;have hw:=qW hg.sim;obtain⟨vy,hj⟩:=aCs hw hy;have hj:yV x q[i+1]=true:=by
     rcases hj with hj | hj
     .omega
     .rw[bYt,hx]at hj;exact hj
    have hpos:=gK vy;have hh0:q[i+1].2.2.2[0]? =some q[i+1].2.2.2[0]:=bWl hpos;unfold yV at hj;rw[bWj]at hj;have hrank:oB x.1<oB q[i+1].1:=by
     have :=hj.1;simp only[bW8,decide_eq_false_iff_not]at this;omega
    have hjoin:(h.1:Int)=q[i+1].2.2.2[0].1:=by
     have e:=eq_of_beq hj.2;unfold sB uF at e;rw[show x.2.2.2.length - 1=j by omega,hh,hh0]at e;exact e
    have ea:adv (goTo p0 i j (bW x (j+1)))=goTo p0 ((i+1:Nat):Int) ((0:Nat):Int) (bW q[i+1] 0):=by
     have ha:=(aOv (aFm (hg.ver x hm) hh)).1;unfold adv;rw[(aBm hx' hh).2.2.2,zW (Int.not_lt.2 ha),aIs hx' hh (hg.ver x hm),hq,zW c2,Bool.and_false,aDy hx' hh,zX c1];show goTo p0 ((i:Int)+1) 0 (mE (goTo p0 i j (bW x (j+1)))).2.2.1=_;have en:mE (goTo p0 i j (bW x (j+1)))=q[i+1]:=by
      unfold mE;show (p0.2.2.2.1[(i:Int).toNat+1]?).getD pt0=_;rw[bWs,hq,hy];rfl
     rw[en];rfl
    obtain⟨i',j',x',h',g1,g2,g3,g4,g5,g6⟩:=ih (i+1) 0 _ _ hy hh0 (by omega);refine⟨i',j',x',h',g1,g2,g3.trans hjoin.symm,.inr ?_,g5,?_⟩
    .rcases g4 with ⟨e1,e2⟩ | ⟨e1,e2⟩
     .subst e1;rw[hy]at g1;injection g1 with g1;rw[<- g1];exact⟨by omega,hrank⟩
     .exact⟨by omega,by omega⟩
    .show goC t τ n (adv (goTo p0 i j (bW x (j+1))))=_;rw[ea];exact g6
  .rw[zW c1];exact⟨i,j,x,h,hx,hh,rfl,.inl ⟨rfl,rfl⟩,.inl (by omega),rfl⟩
theorem bLr{α:Type}(g:α->Bool)(l:List α):∀k:Nat,bL (λk p=>if g p then some (k:Int) else none) k l=none-> ∀q∈l,g q=false:=by
 induction l with
 | nil=>exact λk _ q hq=>(bW7 hq).elim
 | cons x l ih=>
  intro k h q hq;unfold bL at h;cases hx:g x with
  | true=>rw[hx]at h;cases h
  | false=>
   rw[hx]at h;rcases bWm.1 hq with rfl | hq
   .exact hx
   .exact ih (k+1) h q hq
theorem aYd{t:den tTo}{r d:Int}(h:lP t r d<0):∀x∈t.2,bM x r d=false:=by
 unfold lP at h;cases hs:bL (λk x=>if bM x r d then some (k:Int) else none) 0 t.2 with
 | none=>exact bLr (λx=>bM x r d) t.2 0 hs
 | some i=>
  rw[hs]at h;obtain⟨j,x,h1,h2,h3⟩:=aC7 hs;have h2:i=(j:Int):=by simpa using h2
  have h:i<0:=h;omega
theorem aGa{t:den tTo}(ht:kQ t=true){j:Nat}{x:den tLk}(hx:t.2[j]? =some x):rZ t x=true/\ ∀y∈t.2.take j,bM y x.1 x.2.1=false/\bM y x.2.2.1 x.2.2.2.1=false:=by
 unfold kQ at ht;simp only[bWj]at ht;have h:=(kJ (lkP t) t.2).1 ht.2.2 j x hx;unfold lkP at h;rw[bWj]at h;refine⟨h.1,λy hy=> ?_⟩;have :=bW5.1 h.2 y hy;rw[bW8,Bool.or_eq_false_iff]at this;exact this
theorem bA5{t:den tTo}{x:den tLk}(h:rZ t x=true):x.1<x.2.2.1/\(1<=x.2.1/\x.2.1<=6)/\(1<=x.2.2.2.1/\x.2.2.2.1<=6):=by
 unfold rZ at h;simp only[bWj,bW8,decide_eq_false_iff_not]at h;have h3:=h.2.2.1;exact⟨Int.not_le.1 h3,aI.1 h.2.2.2.1,aI.1 h.2.2.2.2.1⟩
theorem aMp{x:den tLk}{r d:Int}(h:bM x r d=true):(x.1=r/\x.2.1=d)\/(x.2.2.1=r/\x.2.2.2.1=d):=by
 unfold bM at h;simp only[bX2,bWj,beq_iff_eq]at h;exact h
theorem bQe(x:den tLk):bM x x.1 x.2.1=true:=by unfold bM;simp
theorem bQq(x:den tLk):bM x x.2.2.1 x.2.2.2.1=true:=by unfold bM;simp
theorem aOg{t:den tTo}(ht:kQ t=true){j:Nat}{x:den tLk}(hx:t.2[j]? =some x){r d:Int}(he:bM x r d=true):lP t r d=(j:Int):=by
 rcases uU t r d with h | ⟨i,y,h1,h2,h3⟩
 .have :=aYd (t:=t) (r:=r) (d:=d) (by rw[h];decide) x (bWu hx);rw[he]at this;cases this
 .rw[h1];have hij:i=j:=by
   rcases Nat.lt_trichotomy i j with c | c | c
   .have :=(aGa ht hx).2 y (bWu (by rw[bXv,zT c];exact h2));rcases aMp he with ⟨e1,e2⟩ | ⟨e1,e2⟩
    .rw[e1,e2,h3]at this;cases this.1
    .rw[e1,e2,h3]at this;cases this.2
   .exact c
   .have :=(aGa ht h2).2 x (bWu (by rw[bXv,zT c];exact hx));rcases aMp h3 with ⟨e1,e2⟩ | ⟨e1,e2⟩
    .rw[e1,e2,he]at this;cases this.1
    .rw[e1,e2,he]at this;cases this.2
  rw[hij]
def bCs(k:Int):Int:=if k=2 then 3 else if k=3 then 2 else k
theorem aCo{t:den tTo}(ht:kQ t=true){r d r' d':Int}(h:remote t r d=(r',d'))(h0:0<=r'):remote t r' d'=(r,d)/\eF t r' d'=bCs (eF t r d)/\(1<=d/\d<=6)/\(1<=d'/\d'<=6):=by
 rcases uU t r d with e | ⟨j,x,e,hx,he⟩
 .unfold remote at h;rw[e,zT (by decide)]at h;have :(-1:Int)=r':=congrArg (λz:Int×Int=>z.1) h;omega
 .obtain⟨d0,d1,d2⟩:=bA5 (aGa ht hx).1;have hr:aB0 x r d=(r',d'):=by
   unfold remote at h;rw[e,zS (by omega),bWs,hx]at h;exact h
  have kk:∀(a b:Int),(1<=b/\b<=6)->lP t a b=(j:Int)->eF t a b=aAt x a b/\remote t a b=aB0 x a b:=λa b hb hl=>by
   constructor
   .unfold eF;rw[show (b==0)=false by rw[beq_eq_false_iff_ne];omega,zY,hl,zS (by omega),bWs,hx];rfl
   .unfold remote;rw[hl,zS (by omega),bWs,hx];rfl
  have ne1:(x.1==x.2.2.1)=false:=by rw[beq_eq_false_iff_ne];exact Int.ne_of_lt d0
  have hk:∀b c:Int,aAt x x.1 x.2.1=(cond (x.2.2.2.2==1) 1 (cond (x.2.2.2.2==3) 4 (cond (x.2.2.2.2==2) 2 0)):Int):=λ_ _=>by
   unfold aAt;rw[beq_self_eq_true,beq_self_eq_true];rfl
  have hk2:∀b c:Int,aAt x x.2.2.1 x.2.2.2.1=(cond (x.2.2.2.2==1) 1 (cond (x.2.2.2.2==3) 4 (cond (x.2.2.2.2==2) 3 0)):Int):=λ_ _=>by
   unfold aAt;rw[ne1];rfl
  rcases aMp he with ⟨e1,e2⟩ | ⟨e1,e2⟩
  .subst e1 e2;have hf:aB0 x x.1 x.2.1=(x.2.2.1,x.2.2.2.1):=by unfold aB0;rw[beq_self_eq_true,beq_self_eq_true];rfl
   rw[hf]at hr;have q1:x.2.2.1=r':=congrArg (λz:Int×Int=>z.1) hr;have q2:x.2.2.2.1=d':=congrArg (λz:Int×Int=>z.2) hr;subst q1 q2;obtain⟨k1,k2⟩:=kk _ _ d1 e;obtain⟨k3,k4⟩:=kk _ _ d2 (aOg ht hx (bQq x));refine⟨?_,?_,d1,d2⟩
   .rw[k4];unfold aB0;rw[ne1];rfl
   .rw[k1,k3,hk 0 0,hk2 0 0];cases x.2.2.2.2==1<;>cases x.2.2.2.2==3<;>cases x.2.2.2.2==2<;>rfl
  .subst e1 e2;have hf:aB0 x x.2.2.1 x.2.2.2.1=(x.1,x.2.1):=by unfold aB0;rw[ne1];rfl
   rw[hf]at hr;have q1:x.1=r':=congrArg (λz:Int×Int=>z.1) hr;have q2:x.2.1=d':=congrArg (λz:Int×Int=>z.2) hr;subst q1 q2;obtain⟨k1,k2⟩:=kk _ _ d2 e;obtain⟨k3,k4⟩:=kk _ _ d1 (aOg ht hx (bQe x));refine⟨?_,?_,d2,d1⟩
   .rw[k4];unfold aB0;rw[beq_self_eq_true,beq_self_eq_true];rfl
   .rw[k1,k3,hk 0 0,hk2 0 0];cases x.2.2.2.2==1<;>cases x.2.2.2.2==3<;>cases x.2.2.2.2==2<;>rfl
theorem aDm{t:den tTo}{x:den tPp}(hv:bB t x=true){j:Nat}{y z:den aR}(hy:x.2.2.2[j]? =some y)(hz:x.2.2.2[j+1]? =some z):pEg x y≠0/\remote t y.1 (pEg x y)=(z.1,pIn x z)/\0<=z.1:=by
 obtain⟨ha,hl⟩:=aMc hv hz;have h0:0<=z.1:=(aI.1 ha).1;rcases hl with hl | hl
 .omega
 .rw[bYt,hy]at hl;unfold aAp at hl;simp only[bXo,bWj,bW8,beq_eq_false_iff_ne,beq_iff_eq]at hl;exact⟨hl.1,Prod.ext hl.2.1 hl.2.2,h0⟩
theorem bQj{t:den tTo}(ht:kQ t=true){x:den tPp}(h:bB t x=true){y:Int×Int}(hy:y∈(ins x).tail):(y.2 != 0)=true:=by
 obtain⟨k,hk,e⟩:=bZ4 hy;rw[List.getElem_tail]at e;unfold ins at e hk;rw[List.length_tail,bXe]at hk;rw[List.getElem_map]at e;obtain⟨_,l2,l3⟩:=aDm h (bWl (show k<x.2.2.2.length by omega)) (bWl (show k+1<x.2.2.2.length by omega));obtain⟨_,_,_,d⟩:=aCo ht l2 l3;rw[<- e,bne_iff_ne];show pIn x _≠0;omega
theorem aUn{t:den tTo}(ht:kQ t=true):∀{p:lPp},(∀x∈p,bB t x=true)-> ∀y∈nU p,(y.2 != 0)=true
 | [],_,y,hy=>by cases hy
 | x::l,h,y,hy=>by
  rcases bWq.1 hy with hy | hy
  .exact bQj ht (h x (bWt ..)) hy
  .exact aUn ht (λz hz=>h z (bWo _ hz)) y hy
theorem aRy:∀l:cD,(l.flatMap aJc).Perm ((((iOf l).filter λx=>x.2 != 0).map num)++(((eOf l).filter λx=>x.2 != 0).map num))
 | []=>List.Perm.refl _
 | s::l=>by
  have ih:=aRy l;rw[List.flatMap_cons];have e1:((iOf (s::l)).filter λx=>x.2 != 0).map num=(cond (s.2.1 != 0) [num (s.1,s.2.1)] [])++((iOf l).filter λx=>x.2 != 0).map num:=by
   show ((((s.1,s.2.1)::iOf l).filter λx=>x.2 != 0).map num)=_;rw[bYr];show List.map num (if (s.2.1 != 0)=true then _ else _)=_;cases s.2.1 != 0<;>rfl
  have e2:((eOf (s::l)).filter λx=>x.2 != 0).map num=(cond (s.2.2 != 0) [num (s.1,s.2.2)] [])++((eOf l).filter λx=>x.2 != 0).map num:=by
   show ((((s.1,s.2.2)::eOf l).filter λx=>x.2 != 0).map num)=_;rw[bYr];show List.map num (if (s.2.2 != 0)=true then _ else _)=_;cases s.2.2 != 0<;>rfl
  rw[e1,e2];unfold aJc;rw[bW6,bW6];refine List.Perm.append_left _ ?_;refine (List.Perm.append_left _ ih).trans ?_;rw[<- bW6,<- bW6];exact List.Perm.append_right _ List.perm_append_comm
theorem aSc{t:den tTo}(ht:kQ t=true){p:lPp}(h:wfP t p=true):(cS p).Perm ((nU p).map num++(iT p).map num):=by
 have hj:=aDs h
 by_cases hp:p=[]
 .subst hp;exact List.Perm.refl _
 .obtain⟨r,r',e1,e2⟩:=aMy hj hp;rw[aMs];have :=aRy (fC p);have e4:(((r',0):Int×Int)::nU p).filter (λx=>x.2 != 0)=(nU p).filter λx=>x.2 != 0:=by rw[bYr];rfl
  rw[e1,e2,List.filter_append,List.filter_eq_self.2 (aL7 (xB hj)),e4,List.filter_eq_self.2 (aUn ht (xB hj))]at this;have e3:([((r,0):Int×Int)].filter λx=>x.2 != 0)=[]:=rfl;rw[e3,bXh]at this;exact this
theorem aH8{t:den tTo}(ht:kQ t=true){p:lPp}:fV t p=true↔wfP t p=true/\((nU p).map num++(iT p).map num).Nodup:=by
 constructor
 .intro h;have hw:=qW h;refine⟨hw,(aSc ht hw).nodup_iff.1 ?_⟩;unfold fV at h;have h:=(bWj _ _▸h:_/\_).2;have h:=(kJ (vA (cS p)) (cS p)).1 h;refine bYk.2 λi j hi hj hij e=> ?_
  have a:=h j _ (bWl hj);unfold vA at a;have :qO ((cS p).take j) (cS p)[j]=true:=by
   rw[aH5];refine bWu (i:=i) ?_;rw[List.getElem?_take_of_lt hij,bWl hi,e]
  rw[this]at a;cases a
 .rintro⟨hw,hn⟩
  have hn:=(aSc ht hw).nodup_iff.2 hn;unfold fV;rw[bWj];refine⟨hw,(kJ (vA (cS p)) (cS p)).2 λk n hk=> ?_⟩;unfold vA;rw[bW8];cases c:qO ((cS p).take k) n with
  | false=>rfl
  | true=>
   rw[aH5]at c;obtain⟨i,hi,e⟩:=bZ4 c;obtain⟨hkl,ek⟩:=bWn.1 hk;have hil:i<k:=by rw[bXw]at hi;omega
   rw[List.getElem_take]at e;exact absurd (e.trans ek.symm) ((bYk.1 hn) i k (by omega) hkl hil)
theorem bQ2{b s:Int}(hb:eH b=true)(hs:eH s=true):wJ (wW b s) s=b:=by
 obtain⟨b0,b1⟩:=aI.1 hb;obtain⟨s0,s1⟩:=aI.1 hs;have ha:=aR2 b s;have e1:wW b s=(b+s) % 2147483647:=by
  unfold wW;rw[hb,hs];show bXa (wr (b+s)) 2147483647=_;rw[show wr (b+s)=b+s from wri (by omega) (by omega),bZr (by omega)]
 unfold wJ;rw[ha,hs];show bXa (wr (wr (wW b s - s)+2147483647)) 2147483647=b;rw[e1,show wr ((b+s) % 2147483647 - s)=(b+s) % 2147483647 - s from wri (by omega) (by omega),show wr ((b+s) % 2147483647 - s+2147483647)=(b+s) % 2147483647 - s+2147483647 from wri (by omega) (by omega),bZr (by omega)];omega
theorem bO6{b s:Int}(hb:eH b=true)(hs:eH s=true):wW (wJ b s) s=b:=by
 obtain⟨b0,b1⟩:=aI.1 hb;obtain⟨s0,s1⟩:=aI.1 hs;have ha:=aRv b s;have e1:wJ b s=(b - s+2147483647) % 2147483647:=by
  unfold wJ;rw[hb,hs];show bXa (wr (wr (b - s)+2147483647)) 2147483647=_;rw[show wr (b - s)=b - s from wri (by omega) (by omega),show wr (b - s+2147483647)=b - s+2147483647 from wri (by omega) (by omega),bZr (by omega)]
 unfold wW;rw[ha,hs];show bXa (wr (wJ b s+s)) 2147483647=b;rw[e1,show wr ((b - s+2147483647) % 2147483647+s)=(b - s+2147483647) % 2147483647+s from wri (by omega) (by omega),bZr (by omega)];omega
theorem aCr{t:den tTo}{x:den tPp}(h:bB t x=true):x.1=(1:Int)\/x.1=(2:Int)\/x.1=(3:Int)\/x.1=(4:Int):=by
 unfold bB at h;simp only[bWj]at h;obtain⟨a,b⟩:=aI.1 h.2.1;have key:∀z:Int,1<=z->z<=4->z=1\/z=2\/z=3\/z=4:=λz h1 h2=>by omega
 exact key _ a b
theorem zQ{t:den tTo}{x:den tPp}(h:bB t x=true):dM (wV x.1)= !dM x.1/\inK (wV x.1)=aIc x.1/\aIc (wV x.1)=inK x.1/\oB (wV x.1)=4 - oB x.1:=by
 rcases aCr h with e | e | e | e<;>rw[e]<;>decide
theorem yH{t:den tTo}{x:den tPp}(h:bB t x=true)(y:den aR):pEg (dN x) y=pIn x y/\pIn (dN x) y=pEg x y:=by
 have e:=(zQ h).1;unfold pEg pIn;show (if dM (wV x.1)=true then _ else _)=_/\(if dM (wV x.1)=true then _ else _)=_;rw[e];cases dM x.1<;>exact⟨rfl,rfl⟩
theorem bHr{t:den tTo}{x:den tPp}(h:bB t x=true){b:Int}{y:den aR}(hb:eH b=true)(hy:eH y.2.2.2.2=true):nE (wV x.1) (nE x.1 b y) y=b:=by
 have e:=(zQ h).1;unfold nE;rw[e];cases c:dM x.1 with
 | true=>
  simp only[bWw,bWz,zU,zV];exact bO6 hb hy
 | false=>
  simp only[Bool.not_false,bWz,zU,zV];exact bQ2 hb hy
theorem aI0{l:dE}{j:Nat}{h:den aR}(hh:l.reverse[j]? =some h):j<l.length/\l[l.length - 1 - j]? =some h:=by
 have hj:j<l.length:=by
  have :=(bWn.1 hh).1;rw[bYz]at this;exact this
 refine⟨hj,?_⟩;rw[bZs hj]at hh;exact hh
theorem aOc{t:den tTo}{x:den tPp}(h:bB t x=true):eH x.2.2.1=true:=by
 unfold bB at h;simp only[bWj]at h;exact h.2.2.2.1
theorem yB{t:den tTo}{x:den tPp}(h:bB t x=true){k:Nat}{y:den aR}(hy:x.2.2.2[k]? =some y):gS y=true/\cG t y.1=true/\ ∀z∈x.2.2.2.take k,z.1≠y.1:=by
 unfold bB at h;simp only[bWj]at h;have a:=(kJ (vS t x.2.2.2) x.2.2.2).1 h.2.2.2.2.1 k y hy;unfold vS at a;simp only[bWj]at a;refine⟨a.1,a.2.1,λz hz=> ?_⟩;have :=bW5.1 a.2.2 z hz;rw[bW8,beq_eq_false_iff_ne]at this;exact this
theorem bPn{h:den aR}(hv:gS h=true):eH h.2.2.2.2=true:=by
 unfold gS at hv;simp only[bWj]at hv;exact hv.2.2.2.2.2
theorem aSg{t:den tTo}{x:den tPp}(hv:bB t x=true)(j:Nat):j<=x.2.2.2.length->bW (dN x) j=bW x (x.2.2.2.length - j):=by
 induction j with
 | zero=>intro _;rfl
 | succ j ih=>
  intro hj;obtain⟨k,hk⟩:∃k:Nat,x.2.2.2.length - (j+1)=k:=⟨_,rfl⟩
  have hkl:k<x.2.2.2.length:=by omega
  have hy:=bWl hkl;have hr:(dN x).2.2.2[j]? =some x.2.2.2[k]:=by
   show x.2.2.2.reverse[j]? =_;rw[bZs (by omega),show x.2.2.2.length - 1 - j=k by omega];exact hy
  rw[aCe hr,ih (by omega),show x.2.2.2.length - j=k+1 by omega,hk,aCe hy];exact bHr hv (aGl (aOc hv) _ (by omega)) (bPn (yB hv hy).1)
theorem bFr{t:den tTo}{x:den tPp}(hv:bB t x=true)(h:uC t x=true):uC t (dN x)=true:=by
 refine (kJ (λk y=>tP t x.2.1 (vF (dN x) k) y) x.2.2.2.reverse).2 λj y hy=> ?_
 obtain⟨hj,hy'⟩:=aI0 hy;have hz:=aFm h hy';have e:vF (dN x) j=vF x (x.2.2.2.length - 1 - j):=by
  have e:=(zQ hv).1;unfold vF;show bW (dN x) (if dM (wV x.1)=true then j+1 else j)=_;rw[e];cases c:dM x.1 with
  | true=>
   simp only[bWw,bWz,zU,zV];rw[aSg hv j (by omega),show x.2.2.2.length - 1 - j+1=x.2.2.2.length - j by omega]
  | false=>
   simp only[Bool.not_false,bWz,zU,zV];rw[aSg hv (j+1) (by omega),show x.2.2.2.length - 1 - j=x.2.2.2.length - (j+1) by omega]
 show tP t x.2.1 (vF (dN x) j) y=true;rw[e];exact hz
theorem aYm{t:den tTo}(ht:kQ t=true){x:den tPp}(hv:bB t x=true):bB t (dN x)=true:=by
 have h:=hv;unfold bB at h;simp only[bWj]at h;obtain⟨a1,a2,a3,a4,a5,a6⟩:=h;unfold bB;simp only[bWj];refine⟨?_,?_,a3,aGl a4 _ (bWx _),?_,?_⟩
 .show inR (x.2.2.2.reverse.length:Int) 1 8=true;rw[bYz];exact a1
 .show inR (wV x.1) 1 4=true;rcases aCr hv with e | e | e | e<;>rw[e]<;>decide
 .refine (kJ (vS t x.2.2.2.reverse) x.2.2.2.reverse).2 λk y hy=> ?_
  obtain⟨hk,hy'⟩:=aI0 hy;obtain⟨v1,v2,v3⟩:=yB hv hy';unfold vS;simp only[bWj];refine⟨v1,v2,bW5.2 λz hz=> ?_⟩;obtain⟨i,hi,e⟩:=bZ4 hz;rw[bXw,bYz]at hi;have hz':x.2.2.2.reverse[i]? =some z:=by
   rw[List.getElem_take]at e;rw[<- e];exact bWl _
  obtain⟨hi',hz''⟩:=aI0 hz';have :=(yB hv hz'').2.2 y (bWu (i:=x.2.2.2.length - 1 - k) (by rw[bXv,zT (by omega)];exact hy'));rw[bW8,beq_eq_false_iff_ne];exact λc=>this c.symm
 .refine (kJ (sP t (dN x)) x.2.2.2.reverse).2 λk y hy=> ?_
  obtain⟨hk,hy'⟩:=aI0 hy;unfold sP;cases k with
  | zero=>rfl
  | succ k=>
   have hz:x.2.2.2.reverse[k]? =some x.2.2.2[x.2.2.2.length - 1 - k]:=by
    rw[bZs (by omega)];exact bWl _
   have hz':=bWl (show x.2.2.2.length - 1 - k<x.2.2.2.length by omega);obtain⟨l1,l2,l3⟩:=aDm hv hy' (z:=x.2.2.2[x.2.2.2.length - 1 - k]) (by rw[show x.2.2.2.length - 1 - (k+1)+1=x.2.2.2.length - 1 - k by omega];exact hz');obtain⟨f1,f2,f3,f4⟩:=aCo ht l2 l3;rw[bX2];refine .inr ?_;show aAp t (dN x) ((x.2.2.2.reverse[k+1 - 1]?).getD h0) y=true;rw[bYt,hz,bXo];unfold aAp;rw[(yH hv _).1,(yH hv _).2,f1];simp only[bWj,bW8,beq_eq_false_iff_ne,beq_iff_eq,and_self,and_true];omega
theorem aW8{x:den tPp}(h:0<x.2.2.2.length):(sB (dN x))=uF x/\uF (dN x)=sB x:=by
 constructor
 .unfold sB uF;show ((x.2.2.2.reverse[x.2.2.2.reverse.length - 1]?).getD h0)=_;rw[bYz,bZs (by omega),show x.2.2.2.length - 1 - (x.2.2.2.length - 1)=0 by omega]
 .unfold sB uF;show ((x.2.2.2.reverse[0]?).getD h0)=_;rw[bZs h,Nat.sub_zero]
theorem bPb{q:lPp}{k:Nat}{x:den tPp}(h:(cH q)[k]? =some x):k<q.length/\ ∃y,q[q.length - 1 - k]? =some y/\x=dN y:=by
 unfold cH at h;rw[bXx]at h;obtain⟨y,hy,e⟩:=bXd.1 h;have hk:k<q.length:=by
  have :=(bWn.1 hy).1;rw[bYz]at this;exact this
 rw[bZs hk]at hy;exact⟨hk,y,hy,e.symm⟩
theorem bO4{t:den tTo}(ht:kQ t=true){q:lPp}(h:wfP t q=true):wfP t (cH q)=true:=by
 have hq:=h;unfold wfP at h;rw[bWj]at h;unfold wfP;rw[bWj];have hlen:(cH q).length=q.length:=by unfold cH;rw[bXe,bYz]
 refine⟨by rw[hlen];exact h.1,(kJ (qM t (cH q)) (cH q)).2 λk x hx=> ?_⟩;obtain⟨hk,y,hy,e⟩:=bPb hx;obtain⟨vy,_⟩:=aCs hq hy;unfold qM;rw[bWj,e];refine⟨aYm ht vy,?_⟩;cases k with
 | zero=>rfl
 | succ k=>
  have hz:=bWl (show q.length - 1 - k<q.length by omega);have hz':(cH q)[k]? =some (dN q[q.length - 1 - k]):=by
   unfold cH;rw[bXx,bZs (by omega),hz];rfl
  obtain⟨vz,hj⟩:=aCs hq hz;have hj:yV y q[q.length - 1 - k]=true:=by
   rcases hj with hj | hj
   .omega
   .rw[show q.length - 1 - k - 1=q.length - 1 - (k+1) by omega,hy]at hj;exact hj
  rw[bX2];refine .inr ?_;rw[bYt,hz',bXo];unfold yV at hj ⊢;rw[bWj]at hj ⊢;obtain⟨j1,j2⟩:=hj;have p1:=(zQ vy).2.2.2;have p2:=(zQ vz).2.2.2;constructor
  .show (!decide (oB (wV q[q.length - 1 - k].1)>=oB (wV y.1)))=true;rw[p1,p2];rw[bW8,decide_eq_false_iff_not]at j1 ⊢;omega
  .rw[(aW8 (gK vz)).1,(aW8 (gK vy)).2];rw[beq_iff_eq]at j2 ⊢;exact j2.symm
theorem bP7{t:den tTo}{x:den tPp}(h:bB t x=true):ins (dN x)=(egs x).reverse/\egs (dN x)=(ins x).reverse:=by
 unfold egs ins;rw[show (dN x).2.2.2=x.2.2.2.reverse from rfl,bZ5,bZ5];constructor
 .congr 1;exact List.map_congr_left λy _=>by rw[(yH h y).2]
 .congr 1;exact List.map_congr_left λy _=>by rw[(yH h y).1]
theorem aVt{α:Type}(l:List α):l.reverse.tail=l.dropLast.reverse/\l.reverse.dropLast=l.tail.reverse:=by
 constructor
 .rcases fI l with rfl | ⟨a,b,rfl⟩
  .rfl
  .simp
 .cases l with
  | nil=>rfl
  | cons a b=>rw[bZo,List.dropLast_concat];rfl
theorem bIp{t:den tTo}:∀{p:lPp},(∀x∈p,bB t x=true)->iT (cH p)=(nU p).reverse/\nU (cH p)=(iT p).reverse
 | [],_=>⟨rfl,rfl⟩
 | x::l,h=>by
  have e:cH (x::l)=cH l++[dN x]:=by unfold cH;rw[bZo,List.map_append];rfl
  obtain⟨i1,i2⟩:=bIp (p:=l) λz hz=>h z (bWo _ hz)
  obtain⟨r1,r2⟩:=bP7 (h x (bWt ..));rw[e,aGy,aXm,i1,i2];constructor
  .show (nU l).reverse++((egs (dN x)).dropLast++[])=((ins x).tail++nU l).reverse;rw[r2,(aVt _).2,bXh,List.reverse_append]
  .show (iT l).reverse++((ins (dN x)).tail++[])=((egs x).dropLast++iT l).reverse;rw[r1,(aVt _).1,bXh,List.reverse_append]
theorem wH{t:den tTo}{q:lPp}(h:wfP t q=true):∀x∈q,bB t x=true:=xB (aDs h)
theorem bCh{t:den tTo}(ht:kQ t=true){q:lPp}(h:fV t q=true):fV t (cH q)=true:=by
 obtain⟨hw,hn⟩:=(aH8 ht).1 h;obtain⟨e1,e2⟩:=bIp (wH hw);refine (aH8 ht).2 ⟨bO4 ht hw,?_⟩;rw[e1,e2,bZ5,bZ5];refine (List.Perm.nodup_iff ?_).1 hn;exact List.perm_append_comm.trans (List.Perm.append (List.reverse_perm _).symm (List.reverse_perm _).symm)
theorem aV8.rev{t:den tTo}{x:den tPp}(hv:bB t x=true)(h:aV8 t x):aV8 t (dN x):=by
 intro j y hy;obtain⟨hj,hy'⟩:=aI0 (l:=x.2.2.2) hy;obtain⟨h1,h2⟩:=h _ y hy';obtain⟨_,k1,k2,_⟩:=zQ hv;constructor
 .intro h0;rw[(yH hv y).2];show _=inK (wV x.1);rw[k1];exact h2 (by omega)
 .intro h0;have h0:j+1<x.2.2.2.reverse.length:=h0;rw[bYz]at h0;rw[(yH hv y).1];show _=aIc (wV x.1);rw[k2];exact h1 (by omega)
theorem qL.rev{t:den tTo}(ht:kQ t=true){q:lPp}(h:qL t q):qL t (cH q):=by
 have hw:=qW h.sim;have mem:∀x∈cH q,∃y∈q,x=dN y:=λx hx=>by
  unfold cH at hx;obtain⟨y,hy,e⟩:=List.mem_map.1 hx;exact⟨y,bZ6.1 hy,e.symm⟩
 refine⟨bCh ht h.sim,λx hx=> ?_,h.long.rev,λx hx=> ?_⟩
 .obtain⟨y,hy,rfl⟩:=mem x hx;exact bFr (wH hw y hy) (h.ver y hy)
 .obtain⟨y,hy,rfl⟩:=mem x hx;exact (h.typ y hy).rev (wH hw y hy)
theorem aUo:∀{q:lPp} {i j:Nat} {x:den tPp} {h:den aR},q[i]? =some x->x.2.2.2[j]? =some h->1<=j->(h.1,pIn x h)∈nU q
 | [],i,j,x,h,hx,_,_=>by cases hx
 | y::l,0,j,x,h,hx,hh,hj=>by
  have hx:some y=some x:=hx;injection hx with hx;subst hx;refine bXn _ (bWu (i:=j - 1) ?_);unfold ins;rw[List.getElem?_tail,bXx,show j - 1+1=j by omega,hh];rfl
 | y::l,i+1,j,x,h,hx,hh,hj=>bXq _ (aUo (q:=l) (i:=i) hx hh hj)
theorem aVb:∀{q:lPp} {i j:Nat} {x:den tPp} {h:den aR},q[i]? =some x->x.2.2.2[j]? =some h->j+1<x.2.2.2.length->(h.1,pEg x h)∈iT q
 | [],i,j,x,h,hx,_,_=>by cases hx
 | y::l,0,j,x,h,hx,hh,hj=>by
  have hx:some y=some x:=hx;injection hx with hx;subst hx;refine bXn _ (bWu (i:=j) ?_);unfold egs;rw[List.getElem?_dropLast,bXe,zT (by omega),bXx,hh];rfl
 | y::l,i+1,j,x,h,hx,hh,hj=>bXq _ (aVb (q:=l) (i:=i) hx hh hj)
theorem bI8{q:lPp}{x:den tPp}{h:den aR}(hx:q[0]? =some x)(hh:x.2.2.2[0]? =some h):zE q=some h.1:=by
 cases q with
 | nil=>cases hx
 | cons y l=>
  have hx:some y=some x:=hx;injection hx with hx;subst hx;unfold zE aBr;show (y.2.2.2.head?.map λx=>(x.1:Int))=_;rw[List.head?_eq_getElem?,hh];rfl
theorem bI1{q:lPp}{i j:Nat}{x:den tPp}{h:den aR}(hx:q[i]? =some x)(hi:i+1=q.length)(hh:x.2.2.2[j]? =some h)(hj:j+1=x.2.2.2.length):vE q=some h.1:=by
 unfold vE xL;rw[cAf,show q.length - 1=i by omega,hx];show (x.2.2.2.getLast?.map λx=>(x.1:Int))=_;rw[cAf,show x.2.2.2.length - 1=j by omega,hh];rfl
theorem aJh{t:den tTo}{q:lPp}(hw:wfP t q=true):∃a b:Int,zE q=some a/\vE q=some b/\ends q=(a,b)/\(0<=a/\a<=7)/\(0<=b/\b<=7)/\0<q.length/\q.length<=3:=by
 have hl:=hw;unfold wfP at hl;rw[bWj]at hl;have hl:=aI.1 hl.1;have h0:0<q.length:=by omega
 have h1:q.length - 1<q.length:=by omega
 have hx:=bWl h0;have hy:=bWl h1;have vx:=wH hw _ (bXt h0);have vy:=wH hw _ (bXt h1);have px:=gK vx;have py:=gK vy;have hh:=bWl px;have hg:=bWl (show q[q.length - 1].2.2.2.length - 1<q[q.length - 1].2.2.2.length by omega);have f:=bI8 hx hh;have g:=bI1 hy (by omega) hg (by omega);have as:∀{x:den tPp} {k:Nat} {y:den aR},bB t x=true->x.2.2.2[k]? =some y->0<=y.1/\y.1<=7:=λhv hy=>by
  have :=(yB hv hy).1;unfold gS at this;simp only[bWj]at this;exact aI.1 this.1
 exact⟨_,_,f,g,aCy f g,as vx hh,as vy hg,h0,by omega⟩
theorem bLn{t:den tTo}{q:lPp}(hw:wfP t q=true){i j:Nat}{b:Int}{x:den tPp}{h:den aR}(hx:q[i]? =some x)(hh:x.2.2.2[j]? =some h)(hb:eH b=true):cL (goTo (bU 1 q 0 0 []) i j b)=true:=by
 obtain⟨a,c,_,_,e,ha,hc,_,hl⟩:=aJh hw;obtain⟨_,_,hp,_⟩:=aBm (p0:=bU 1 q 0 0 []) (b:=b) hx hh;have he:aC8 q=true:=by
  unfold aC8;rw[bWj,zR];refine⟨hl,bW5.2 λy hy=> ?_⟩;have hv:=wH hw y hy;have hv':=hv;unfold bB at hv';simp only[bWj]at hv';obtain⟨a1,a2,a3,a4,a5,a6⟩:=hv';unfold aAy aGe;simp only[bWj,zR];refine⟨a2,a3,a4,by have :=(aI.1 a1).2;omega,bW5.2 λz hz=> ?_⟩;obtain⟨k,hk⟩:=bZz.1 hz;exact (yB hv hk).1
 have hf:q.all aJ1=true:=bW5.2 λy hy=>by
  have :=gK (wH hw y hy);unfold aJ1;rw[bW8,beq_eq_false_iff_ne];omega
 unfold cL;rw[hp];show (inR 1 1 3&&(aC8 q&&(true&&(eH b&&(q.all aJ1&&(inR (ends q).1 0 7&&(inR (ends q).2 0 7&&(inR 0 0 100000&&(inR 0 0 100000&&decide ((([]:List Int).length:Int)<=40))))))))))=true;rw[he,hf,hb,e,aI.2 ha,aI.2 hc];rfl
theorem aSm{t:den tTo}(ht:kQ t=true){q:lPp}(hg:qL t q){τ:Int}(hτ:Tm τ){i j:Nat}{x:den tPp}{h:den aR}(hx:q[i]? =some x)(hh:x.2.2.2[j]? =some h){inn:Int}(hin:(i=0/\j=0/\inn=0)\/(1<=j/\inn=pIn x h)):
  (aD t τ [] h.1 inn (goTo (bU 1 q 0 0 []) i j (bW x j))).1=1\/ ∃(i' j':Nat) (x':den tPp) (z:den aR),q[i']? =some x'/\x'.2.2.2[j'+1]? =some z/\(aD t τ [] h.1 inn (goTo (bU 1 q 0 0 []) i j (bW x j))).1=0/\
   remote t h.1 (aD t τ [] h.1 inn (goTo (bU 1 q 0 0 []) i j (bW x j))).2.1=(z.1,pIn x' z)/\(aD t τ [] h.1 inn (goTo (bU 1 q 0 0 []) i j (bW x j))).2.2.1=goTo (bU 1 q 0 0 []) (i':Int) ((j'+1:Nat):Int) (bW x' (j'+1)):=by
 have hw:=qW hg.sim;have hm:=bWu hx;have vx:=wH hw x hm;have hjl:j<x.2.2.2.length:=(bWn.1 hh).1;obtain⟨c1,c2,c3,c4⟩:=aBm (p0:=bU 1 q 0 0 []) (b:=bW x j) hx hh;have v:=bLn hw hx hh (aGl (aOc vx) j (by omega));obtain⟨i',j',x',h',g1,g2,g3,g4,g5,g6⟩:=bL2 hg hτ (p0:=bU 1 q 0 0 []) rfl (q.length - i) i j x h hx hh (by omega);have hm':=bWu g1;have vx':=wH hw x' hm';have gn:aX t τ (goTo (bU 1 q 0 0 []) i j (bW x j))=(0,goTo (bU 1 q 0 0 []) i' j' (bW x' (j'+1))):=by
  unfold aX;show goC t τ (q.length - ((i:Nat):Int).toNat) _=_;rw[bWs];exact g6
 have want:aEh (goTo (bU 1 q 0 0 []) i j (bW x j))=inn:=by
  unfold aEh;rw[c1,c2];show (if (((i:Nat):Int)==0&&((j:Nat):Int)==0)=true then (0:Int) else pIn x h)=inn;rcases hin with ⟨e1,e2,e3⟩ | ⟨e1,e2⟩
  .subst e1 e2;rw[e3];rfl
  .rw[show (((j:Nat):Int)==0)=false by rw[beq_eq_false_iff_ne];omega,Bool.and_false,e2];rfl
 obtain⟨d1,d2,d3,d4⟩:=aBm (p0:=bU 1 q 0 0 []) (b:=bW x' (j'+1)) g1 g2;have al:=aIs (p0:=bU 1 q 0 0 []) (b:=bW x' (j'+1)) g1 g2 (hg.ver x' hm');have al:cZ (goTo (bU 1 q 0 0 []) i' j' (bW x' (j'+1)))=(decide (j'+1=x'.2.2.2.length)&&decide (i'+1=q.length)):=al;have sm:fV t (goTo (bU 1 q 0 0 []) i j (bW x j)).2.2.2.1=true:=hg.sim;unfold aD fwd;rw[bFy,v,sm,c4,want,gn];simp only[bWw,beq_self_eq_true,Bool.or_self,bWz,zU,al,d1,d2];rcases g5 with g5 | ⟨g5,g5'⟩
 .refine .inr ⟨i',j',x',x'.2.2.2[j'+1],g1,bWl g5,?_⟩;have hz:=bWl g5;obtain⟨l1,l2,l3⟩:=aDm vx' g2 hz;rw[g3]at l2;have ko:eF t h.1 (pEg x' h')=aIc x'.1:=by rw[<- g3];exact (hg.typ x' hm' j' h' g2).2 g5
  have st:aLd t (h.1,inn,pEg x' h')=true:=by
   unfold aLd;show (aAe (eF t h.1 inn) (eF t h.1 (pEg x' h'))&&(!(inn==pEg x' h')||inn==0))=true;rw[ko];rcases hin with ⟨e1,e2,e3⟩ | ⟨e1,e2⟩
   .rw[e3];have k0:eF t h.1 0=5:=rfl;rw[k0];rcases aCr vx' with e | e | e | e<;>rw[e]<;>simp[aIc,aAe]
   .have ki:eF t h.1 inn=inK x.1:=by rw[e2];exact (hg.typ x hm j h hh).1 e1
    have tr:aAe (inK x.1) (aIc x'.1)=true:=by
     rcases g4 with ⟨e3,e4⟩ | ⟨_,e4⟩
     .rw[e3,hx]at g1;injection g1 with g1;rw[<- g1];rcases aCr vx with e | e | e | e<;>rw[e]<;>decide
     .rcases aCr vx with e | e | e | e<;>rcases aCr vx' with e' | e' | e' | e'<;>rw[e,e']at e4 ⊢ <;>first | decide | (exfalso;revert e4;decide)
    have ne:inn≠pEg x' h':=λc=>by
     have hn:=((aH8 ht).1 hg.sim).2;have m1:=List.mem_map_of_mem (f:=num) (aUo hx hh e1);have m2:=List.mem_map_of_mem (f:=num) (aVb g1 g2 g5);refine (List.nodup_append.1 hn).2.2 _ m1 _ m2 ?_;rw[g3,<- e2,c]
    rw[ki,tr,show (inn==pEg x' h')=false by rw[beq_eq_false_iff_ne];exact ne];rfl
  rw[zW (show ¬ (j'+1=x'.2.2.2.length) by omega),st,bD5];refine⟨rfl,l2,?_⟩;show adv (goTo (bU 1 q 0 0 []) i' j' (bW x' (j'+1)))=_;have ha:=(aOv (aFm (hg.ver x' hm') g2)).1;unfold adv;rw[d4,zW (Int.not_lt.2 ha),al,zW (show ¬ (j'+1=x'.2.2.2.length) by omega),aDy (p0:=bU 1 q 0 0 []) g1 g2,zW (show ¬ (j'+1=x'.2.2.2.length) by omega)];show goTo (bU 1 q 0 0 []) (i':Int) ((j':Int)+1) (bW x' (j'+1))=_;rw[show (j':Int)+1=((j'+1:Nat):Int) by omega]
 .left;obtain⟨a,c,_,hl,e,_,_,_,_⟩:=aJh hw;have hl2:=bI1 g1 g5' g2 g5;rw[hl]at hl2;injection hl2 with hl2;rw[zX g5,zX g5'];have :((goTo (bU 1 q 0 0 []) i' j' (bW x' (j'+1))).2.2.1==h.1)=true:=by
   show ((ends q).2==h.1)=true;rw[e,beq_iff_eq];exact hl2.trans g3
  simp only[Bool.and_self,zV,this]
theorem bKp{t:den tTo}(ht:kQ t=true){q:lPp}(hg:qL t q){τ:Int}(hτ:Tm τ)(m:Nat):∀(i j:Nat) (x:den tPp) (h:den aR) (inn:Int),q[i]? =some x->x.2.2.2[j]? =some h->((i=0/\j=0/\inn=0)\/(1<=j/\inn=pIn x h))->rT (goTo (bU 1 q 0 0 []) i j (bW x j))<=m->Arr t τ [] h.1 inn (goTo (bU 1 q 0 0 []) i j (bW x j)):=by
 induction m with
 | zero=>
  intro i j x h inn hx hh hin hm;rcases aSm ht hg hτ hx hh hin with c | ⟨i',j',x',z,_,_,c,_⟩
  .exact .here c
  .have :=aRj c;omega
 | succ m ih=>
  intro i j x h inn hx hh hin hm;rcases aSm ht hg hτ hx hh hin with c | ⟨i',j',x',z,g1,g2,c,g3,g4⟩
  .exact .here c
  .have hr:=aRj c;have hr:rT (aD t τ [] h.1 inn (goTo (bU 1 q 0 0 []) i j (bW x j))).2.2.1+1<=_:=hr;refine .step c ?_;rw[g3,g4];rw[g4]at hr;exact ih i' (j'+1) x' z (pIn x' z) g1 g2 (.inr ⟨by omega,rfl⟩) (by omega)
theorem aOm{t:den tTo}(ht:kQ t=true){q:lPp}(hg:qL t q){τ:Int}(hτ:Tm τ):Arr t τ [] (ends q).1 0 (bU 1 q 0 0 []):=by
 have hw:=qW hg.sim;obtain⟨a,c,hf,_,e,_,_,h0,_⟩:=aJh hw;have hx:=bWl h0;have vx:=wH hw _ (bXt h0);have hh:=bWl (gK vx);have hf2:=bI8 hx hh;rw[hf]at hf2;injection hf2 with hf2;have key:=bKp ht hg hτ _ 0 0 _ _ 0 hx hh (.inl ⟨rfl,rfl,rfl⟩) (bWx _);rw[e];show Arr t τ [] a 0 _;rw[hf2];have eb:goTo (bU 1 q 0 0 []) ((0:Nat):Int) ((0:Nat):Int) (bW q[0] 0)=bU 1 q 0 0 []:=by
  cases q with
  | nil=>exact absurd h0 (Nat.lt_irrefl 0)
  | cons y l=>rfl
 rw[eb]at key;exact key
theorem bM5{t:den tTo}(ht:kQ t=true){r d r' d':Int}(h:remote t r d=(r',d'))(h0:0<=r'):eF t r d≠0:=by
 have hd:=(aCo ht h h0).2.2.1;rcases uU t r d with e | ⟨j,x,e,hx,he⟩
 .unfold remote at h;rw[e,zT (by decide)]at h;have :(-1:Int)=r':=congrArg (λz:Int×Int=>z.1) h;omega
 .have hv:=(aGa ht hx).1;unfold rZ aK4 at hv;simp only[bWj]at hv;have hk:=hv.2.2.2.2.2;have :eF t r d=aAt x r d:=by
   unfold eF;rw[show (d==0)=false by rw[beq_eq_false_iff_ne];omega,zY,e,zS (by omega),bWs,hx];rfl
  rw[this];unfold aAt;cases c1:x.2.2.2.2==1 with
  | true=>show ¬ (1:Int)=0;decide
  | false=>
   cases c3:x.2.2.2.2==3 with
   | true=>show ¬ (4:Int)=0;decide
   | false=>
    cases c2:x.2.2.2.2==2 with
    | true=>
     show ¬ ((cond (x.1==r&&x.2.1==d) 2 3):Int)=0;cases x.1==r&&x.2.1==d<;>decide
    | false=>rw[c1,c2,c3]at hk;cases hk
theorem aOd{t:den tTo}(ht:kQ t=true){x:den tPp}(hv:bB t x=true){K:Int}(hk:∀y∈x.2.2.2,y.2.2.1≠(0:Int)->eF t y.1 y.2.2.1=K\/eF t y.1 y.2.2.1=0)(hK:(K=2/\(x.1=(1:Int)\/x.1=(4:Int)))\/(K=1/\(x.1=(2:Int)\/x.1=(3:Int)))):aV8 t x:=by
 have one:∀{y:den aR} {r' d':Int},y∈x.2.2.2->y.2.2.1≠(0:Int)->remote t y.1 y.2.2.1=(r',d')->0<=r'->eF t y.1 y.2.2.1=K:=λhm h0 hr hr0=>(hk _ hm h0).elim id λe=>absurd e (bM5 ht hr hr0)
 have as:∀{k:Nat} {y:den aR},x.2.2.2[k]? =some y->0<=y.1:=λhy=>(aI.1 (yB hv hy).2.1).1
 have dirs:(dM x.1=true/\inK x.1=K/\aIc x.1=bCs K)\/(dM x.1=false/\inK x.1=bCs K/\aIc x.1=K):=by
  rcases hK with ⟨rfl,e | e⟩ | ⟨rfl,e | e⟩<;>rw[e]<;>decide
 intro j h hh;constructor
 .intro hj;have hjl:j<x.2.2.2.length:=(bWn.1 hh).1;have hj1:j - 1<x.2.2.2.length:=by omega
  have hy:=bWl hj1;obtain⟨l1,l2,l3⟩:=aDm hv hy (z:=h) (by rw[show j - 1+1=j by omega];exact hh);obtain⟨f1,f2,f3,f4⟩:=aCo ht l2 l3;rcases dirs with ⟨r1,r2,r3⟩ | ⟨r1,r2,r3⟩
  .have e:pIn x h=h.2.2.1:=by unfold pIn;rw[r1];rfl
   rw[r2];rw[e]at f1 f4 ⊢;exact one (bWu hh) (λc=>by rw[c]at f4;exact absurd f4.1 (by decide)) f1 (as hy)
  .have e:pEg x x.2.2.2[j - 1]=x.2.2.2[j - 1].2.2.1:=by unfold pEg;rw[r1];rfl
   rw[r2,f2];rw[e]at l1 l2 ⊢;rw[one (bXt _) l1 l2 l3]
 .intro hj;have hz:=bWl hj;obtain⟨l1,l2,l3⟩:=aDm hv hh hz;obtain⟨f1,f2,f3,f4⟩:=aCo ht l2 l3;rcases dirs with ⟨r1,r2,r3⟩ | ⟨r1,r2,r3⟩
  .have e:pIn x x.2.2.2[j+1]=x.2.2.2[j+1].2.2.1:=by unfold pIn;rw[r1];rfl
   obtain⟨_,k2,_,_⟩:=aCo ht f1 (as hh);rw[r3,k2];rw[e]at f1 f4 ⊢;rw[one (bXt _) (λc=>by rw[c]at f4;exact absurd f4.1 (by decide)) f1 (as hh)]
  .have e:pEg x h=h.2.2.1:=by unfold pEg;rw[r1];rfl
   rw[r3];rw[e]at l1 l2 ⊢;exact one (bWu hh) l1 l2 l3
theorem bFt{as:lAS}{ls:lLk}(ht:aDd as ls){s:den tSg}(h:s.2.2.length<=1000):∃v:Int,cX (as,ls) s=some v/\(v≠0->(v=1\/v=2)/\ ∀y∈s.2.2,y.2.2.1≠(0:Int)->eF (as,ls) y.1 y.2.2.1=v\/eF (as,ls) y.1 y.2.2.1=0):=by
 have hlen:=ht.len;have hlk:=ht.links;obtain⟨b,eb,hb⟩:=aK5 ht h;unfold cX pj2 pj3;have eb:fR (as,ls) (s.1,s.2.1,s.2.2)=some b:=eb;rw[eb,aA];cases b with
 | false=>exact⟨0,rfl,λc=>absurd rfl c⟩
 | true=>
  obtain⟨x,hx,hok⟩:=hb rfl;obtain⟨h0,rfl⟩:=bWn.1 hx;obtain⟨y,hy,iy⟩:=aAv hok;have ef:eM (s.1,s.2.1,s.2.2)=some s.2.2[0].1:=by
   unfold eM;rw[show ((s.2.2.length:Int)==0)=false by rw[beq_eq_false_iff_ne];omega,zY,show (0:Int)=((0:Nat):Int) from rfl,aO,bWl h0,aA]
  have iy:idx as s.2.2[0].1=some y:=iy;simp only[bWw,zY,ef,iy,aA];cases y.2.1 with
  | false=>exact⟨0,rfl,λc=>absurd rfl c⟩
  | true=>
   simp only[bWw,zY];refine iM (G:=λo=> ∃v:Int,o=some v/\(v≠0->(v=1\/v=2)/\ ∀y∈s.2.2,y.2.2.1≠(0:Int)->eF (as,ls) y.1 y.2.2.1=v\/eF (as,ls) y.1 y.2.2.1=0)) s.2.2.length (λs:Int×Int=>s.2) (λi t=> ∀(j:Nat) (y:den aR),j<i->s.2.2[j]? =some y->y.2.2.1≠(0:Int)->eF (as,ls) y.1 y.2.2.1=t.1\/eF (as,ls) y.1 y.2.2.1=0) (λr:Int⊕Int=>match r with | .inl v=> ∀y∈s.2.2,y.2.2.1≠(0:Int)->eF (as,ls) y.1 y.2.2.1=v\/eF (as,ls) y.1 y.2.2.1=0 | .inr v=>v=0) ?_ ?_ 0 ((0:Int),(0:Int)) (by omega) rfl (λj y hj=>absurd hj (Nat.not_lt_zero j)) ?_
   .rintro i ⟨k,_⟩ hi rfl hJ
    simp only at hJ;have ek:=aQ6 (t:=(as,ls)) (r:=s.2.2[i].1) (d:=s.2.2[i].2.2.1) (show ls.length<=68719476736 by omega);have hx:=bWl hi;simp only[zX (show (i:Int)<(s.2.2.length:Int) by omega),zZ,aO,bWl hi,aA,ek,fJ (show i<=1000000000 by omega)];cases hz:s.2.2[i].2.2.1==(0:Int) with
    | true=>
     refine .inr ⟨_,rfl,rfl,λj y hj hy h0=> ?_⟩
     by_cases e:j=i
     .subst e;rw[hx]at hy;injection hy with hy;subst hy;exact absurd (eq_of_beq hz) h0
     .exact hJ j y (by omega) hy h0
    | false=>
     cases hk0:k != (0:Int) with
     | false=>
      refine .inr ⟨_,rfl,rfl,λj y hj hy h0=> ?_⟩;have hk:k=0:=by simpa using hk0
      by_cases e:j=i
      .subst e;rw[hx]at hy;injection hy with hy;subst hy;exact .inl rfl
      .have :=hJ j y (by omega) hy h0;rw[hk]at this;exact .inr (this.elim id id)
     | true=>
      simp only[zZ,zY,aA];cases hne:eF (as,ls) s.2.2[i].1 s.2.2[i].2.2.1 != k with
      | true=>exact .inl ⟨.inr 0,rfl,rfl⟩
      | false=>
       refine .inr ⟨_,rfl,rfl,λj y hj hy h0=> ?_⟩;have hk:eF (as,ls) s.2.2[i].1 s.2.2[i].2.2.1=k:=by simpa using hne
       by_cases e:j=i
       .subst e;rw[hx]at hy;injection hy with hy;subst hy;exact .inl rfl
       .have :=hJ j y (by omega) hy h0;rw[<- hk]at this;exact this
   .rintro⟨k,_⟩ rfl hJ
    simp only at hJ;refine⟨.inl k,by simp only[zW (Int.lt_irrefl _),zY],λy hy h0=> ?_⟩;obtain⟨j,hj⟩:=bZz.1 hy;exact hJ j y (bWn.1 hj).1 hj h0
   .rintro r hr
    cases r with
    | inr v=>
     have hr:v=0:=hr;rw[hr];exact⟨0,rfl,λc=>absurd rfl c⟩
    | inl v=>
     simp only[Sum.elim_inl];cases c1:v==(1:Int) with
     | true=>
      have c1:=eq_of_beq c1;subst c1;exact⟨1,rfl,λ_=>⟨.inl rfl,hr⟩⟩
     | false=>
      cases c2:v==(2:Int) with
      | true=>
       have c2:=eq_of_beq c2;subst c2;exact⟨2,rfl,λ_=>⟨.inr rfl,hr⟩⟩
      | false=>exact⟨0,rfl,λc=>absurd rfl c⟩
theorem bBn{as:lAS}{ls:lLk}(ht:aDd as ls){s:den tSg}(h:s.2.2.length<=1000){k:Int}(hk:aQf (as,ls) s k):k≠0:=by
 obtain⟨h1,_,h3⟩:=hk;obtain⟨b,eb,hb⟩:=aK5 ht h;obtain⟨v,ev⟩:=bAn ht h;have eb:fR (as,ls) (s.1,s.2.1,s.2.2)=some b:=eb;have ev:eZ (as,ls) (s.1,s.2.1,s.2.2)=some v:=ev;have ek:cX (as,ls) (s.1,s.2.1,s.2.2)=some k:=h3;unfold gC pj2 pj3 at h1;simp only[eb,ev,ek,qH,aC0,aA]at h1;intro e;subst e;cases b
 .cases h1
 .cases c:decide (v<0)
  .rw[c]at h1;cases h1
  .rw[c]at h1;cases h1
theorem nV.good{w:den tNw}{n:Nat}(h:nV n w):∀f∈aB w,∀q∈f.2.2.2.2.2.1,qL (nT w) q:=by
 intro f hf q hq;obtain⟨h1,h2,h3,h4,_⟩:=h.paths f hf q hq;refine⟨h2,h3,h1,λx hx=> ?_⟩;have ht:=h.top;have htv:kQ (nT w)=true:=h.top.top;have hv:=wH (qW h2) x hx;have kinds:∀s:den tSg,s.2.2.length<=5-> ∀k:Int,aQf (nT w) s k->(k=1\/k=2)/\ ∀y∈s.2.2,y.2.2.1≠(0:Int)->eF (nT w) y.1 y.2.2.1=k\/eF (nT w) y.1 y.2.2.1=0:=λs hs k hk=>by
  obtain⟨v,e,hv⟩:=bFt ht (s:=s) (by omega);have hk3:cX ((nT w).1,(nT w).2) s=some k:=hk.2.2;rw[hk3]at e;injection e with e;rw[<- e]at hv;exact hv (bBn ht (by omega) hk)
 have hkind:∀(s:den tSg) (kd i:Int),x=gP s kd i->x.1=kd/\ ∀y∈x.2.2.2,y∈s.2.2:=λs kd i e=>by
  refine⟨?_,λy hy=>aBf (by rw[<- e];exact hy)⟩;have hp:=gK hv;rw[e]at hp ⊢;unfold gP at hp ⊢;split
  .split<;>rfl
  .rename_i c;rw[zS c]at hp;exact absurd hp (Nat.lt_irrefl 0)
 rcases h4 x hx with ⟨s,hs,i,e⟩ | ⟨s,hs,e⟩
 .obtain⟨_,hk⟩:=kinds s (h.db.hd s hs) 2 (h.segs.1 s hs).2;rcases e with e | e
  .obtain⟨k1,k2⟩:=hkind s 1 i e;exact aOd htv hv (λy hy=>hk y (k2 y hy)) (.inl ⟨rfl,.inl k1⟩)
  .obtain⟨k1,k2⟩:=hkind s 4 i e;exact aOd htv hv (λy hy=>hk y (k2 y hy)) (.inl ⟨rfl,.inr k1⟩)
 .obtain⟨k,hk0,hne⟩:=(h.segs.2 s hs).2;obtain⟨hor,hk⟩:=kinds s (h.db.hc s hs) k hk0;have hk1:k=1:=hor.elim id λe=>absurd e hne
  subst hk1;rcases e with e | e
  .obtain⟨k1,k2⟩:=hkind s 2 0 e;exact aOd htv hv (λy hy=>hk y (k2 y hy)) (.inr ⟨rfl,.inl k1⟩)
  .obtain⟨k1,k2⟩:=hkind s 3 0 e;exact aOd htv hv (λy hy=>hk y (k2 y hy)) (.inr ⟨rfl,.inr k1⟩)
def OkY(A:Aim)(y:den tFy):Prop:=Arr A.t A.now A.dead y.1 y.2.1 y.2.2/\((y.2.2.1=(1:Int)/\qL A.t y.2.2.2.2.2.1)\/y.2.2.1=(2:Int))
def TkD(A:Aim)(y:den tFy):Prop:=y.2.2.1=(1:Int)/\y.2.2.2.1=A.src/\y.2.2.2.2.1=A.dst/\y.2.2.2.2.2.2.2.2.2.2.1=A.m
def TkA(A:Aim)(y:den tFy):Prop:=y.2.2.1=(2:Int)/\y.2.2.2.1=A.dst/\y.2.2.2.2.1=A.src/\y.2.2.2.2.2.2.2.2.2.2.1=A.m
theorem TkD.rel{A:Aim}{y:den tFy}(h:TkD A y):Rel A y.2.2:= .inl ⟨h.1,h.2.1,h.2.2.1⟩
theorem TkA.rel{A:Aim}{y:den tFy}(h:TkA A y):Rel A y.2.2:= .inr ⟨h.1,h.2.1,h.2.2.1⟩
def NoR(A:Aim)(L:lFy):Prop:= ∀y∈L,¬ Rel A y.2.2
def aDi(A:Aim)(T:den tFy->Prop)(L:lFy):Prop:= ∃(L1:lFy) (y:den tFy) (L2:lFy),L=L1++y::L2/\T y/\NoR A L1/\NoR A L2
theorem aDi.head{A:Aim}{T:den tFy->Prop}{z:den tFy}{l:lFy}(h:aDi A T (z::l)):(T z/\NoR A l)\/(¬ Rel A z.2.2/\aDi A T l):=by
 obtain⟨L1,y,L2,e,hy,n1,n2⟩:=h;cases L1 with
 | nil=>
  simp only[List.nil_append,List.cons.injEq]at e;obtain⟨rfl,rfl⟩:=e;exact .inl ⟨hy,n2⟩
 | cons a L1=>
  simp only[List.cons_append,List.cons.injEq]at e;obtain⟨rfl,rfl⟩:=e;exact .inr ⟨n1 _ (bWt ..),L1,y,L2,rfl,hy,λw hw=>n1 w (bWo _ hw),n2⟩
theorem aDi.snoc{A:Aim}{T:den tFy->Prop}{z:den tFy}{l:lFy}(h:aDi A T l)(hz: ¬ Rel A z.2.2):aDi A T (l++[z]):=by
 obtain⟨L1,y,L2,rfl,hy,n1,n2⟩:=h;refine⟨L1,y,L2++[z],by simp,hy,n1,λw hw=> ?_⟩;rcases bWq.1 hw with hw | hw
 .exact n2 w hw
 .rw[bWp.1 hw];exact hz
theorem aDi.cons{A:Aim}{T:den tFy->Prop}{z:den tFy}{l:lFy}(h:aDi A T l)(hz: ¬ Rel A z.2.2):aDi A T (z::l):=by
 obtain⟨L1,y,L2,rfl,hy,n1,n2⟩:=h;refine⟨z::L1,y,L2,rfl,hy,λw hw=> ?_,n2⟩;rcases bWm.1 hw with rfl | hw
 .exact hz
 .exact n1 w hw
theorem NoR.tail{A:Aim}{z:den tFy}{l:lFy}(h:NoR A (z::l)):NoR A l:=λy hy=>h y (bWo _ hy)
theorem NoR.snoc{A:Aim}{z:den tFy}{l:lFy}(h:NoR A l)(hz: ¬ Rel A z.2.2):NoR A (l++[z]):=λy hy=>by
 rcases bWq.1 hy with hy | hy
 .exact h y hy
 .rw[bWp.1 hy];exact hz
theorem NoR.cons{A:Aim}{z:den tFy}{l:lFy}(h:NoR A l)(hz: ¬ Rel A z.2.2):NoR A (z::l):=λy hy=>by
 rcases bWm.1 hy with rfl | hy
 .exact hz
 .exact h y hy
def FMd(A:Aim)(b:Bool)(f:den tFl)(x:den tIb)(L:lFy):Prop:=
 (NoR A L/\bS f=A.m/\dT f=0/\x.2.2.1=A.m/\(b=false\/A.m=(A.ms.length:Int)))\/
 (b=true/\A.m<(A.ms.length:Int)/\bS f=A.m/\x.2.2.1=A.m/\aDi A (TkD A) L)\/
 (b=true/\A.m<(A.ms.length:Int)/\bS f=A.m/\x.2.2.1=A.m+1/\aDi A (TkA A) L)\/
 (b=true/\A.m<(A.ms.length:Int)/\NoR A L/\bS f=A.m+1/\dT f=0/\x.2.2.1=A.m+1)
theorem FMd.fwd{A:Aim}{b:Bool}{f:den tFl}{x:den tIb}{z z':den tFy}{l:lFy}(h:FMd A b f x (z::l))(hr:Rel A z'.2.2->Rel A z.2.2)(h1:TkD A z->TkD A z')(h2:TkA A z->TkA A z'):FMd A b f x (l++[z']):=by
 rcases h with ⟨n,a⟩ | ⟨b1,b2,b3,b4,o⟩ | ⟨b1,b2,b3,b4,o⟩ | ⟨b1,b2,n,a⟩
 .exact .inl ⟨NoR.snoc n.tail λc=>n _ (bWt ..) (hr c),a⟩
 .refine .inr (.inl ⟨b1,b2,b3,b4,?_⟩);rcases o.head with ⟨hz,n⟩ | ⟨hz,o⟩
  .exact⟨l,z',[],rfl,h1 hz,n,λy hy=>(bW7 hy).elim⟩
  .exact o.snoc λc=>hz (hr c)
 .refine .inr (.inr (.inl ⟨b1,b2,b3,b4,?_⟩));rcases o.head with ⟨hz,n⟩ | ⟨hz,o⟩
  .exact⟨l,z',[],rfl,h2 hz,n,λy hy=>(bW7 hy).elim⟩
  .exact o.snoc λc=>hz (hr c)
 .exact .inr (.inr (.inr ⟨b1,b2,NoR.snoc n.tail λc=>n _ (bWt ..) (hr c),a⟩))
theorem FMd.skip{A:Aim}{b:Bool}{f:den tFl}{x:den tIb}{z:den tFy}{l:lFy}(h:FMd A b f x (z::l))(hz: ¬ Rel A z.2.2):FMd A b f x l:=by
 rcases h with ⟨n,a⟩ | ⟨b1,b2,b3,b4,o⟩ | ⟨b1,b2,b3,b4,o⟩ | ⟨b1,b2,n,a⟩
 .exact .inl ⟨n.tail,a⟩
 .exact .inr (.inl ⟨b1,b2,b3,b4,o.head.elim (λc=>absurd (TkD.rel c.1) hz) λc=>c.2⟩)
 .exact .inr (.inr (.inl ⟨b1,b2,b3,b4,o.head.elim (λc=>absurd (TkA.rel c.1) hz) λc=>c.2⟩))
 .exact .inr (.inr (.inr ⟨b1,b2,n.tail,a⟩))
theorem FMd.cons{A:Aim}{b:Bool}{f:den tFl}{x:den tIb}{z:den tFy}{l:lFy}(h:FMd A b f x l)(hz: ¬ Rel A z.2.2):FMd A b f x (z::l):=by
 rcases h with ⟨n,a⟩ | ⟨b1,b2,b3,b4,o⟩ | ⟨b1,b2,b3,b4,o⟩ | ⟨b1,b2,n,a⟩
 .exact .inl ⟨n.cons hz,a⟩
 .exact .inr (.inl ⟨b1,b2,b3,b4,o.cons hz⟩)
 .exact .inr (.inr (.inl ⟨b1,b2,b3,b4,o.cons hz⟩))
 .exact .inr (.inr (.inr ⟨b1,b2,n.cons hz,a⟩))
structure FMs (A:Aim) (b:Bool) (w:den tNw) (L:lFy):Prop where
 ex:∃(f:den tFl) (x:den tIb),(aB w)[A.i]? =some f/\(aL w)[A.i]? =some x/\f.1=A.src/\f.2.1=A.dst/\f.2.2.2.2.1=A.ms/\f.2.2.2.2.2.1=A.ps/\FMd A b f x L
theorem FMs.same{A:Aim}{b:Bool}{w w':den tNw}{L L':lFy}(h:FMs A b w L)(e1:(aB w')[A.i]? =(aB w)[A.i]?)(e2:(aL w')[A.i]? =(aL w)[A.i]?)(e3:∀f x,FMd A b f x L->FMd A b f x L'):FMs A b w' L':=by
 obtain⟨f,x,h1,h2,h3,h4,h5,h6,h7⟩:=h.ex;exact⟨f,x,e1.trans h1,e2.trans h2,h3,h4,h5,h6,e3 f x h7⟩
structure Fst (A:Aim) (b:Bool) (e:Int×Int->Nat) (m:Nat) (w:den tNw) (L:lFy):Prop where
 mid:Mid A.t A.now A.dead e m w
 ok:∀y∈L,OkY A y
 good:eO (λ_ f=> ∀q∈f.2.2.2.2.2.1,qL A.t q) w
 drop:dO w=0
 flw:A.ps=[]\/FMs A b w L
structure zO (A:Aim):Prop where
 top:kQ A.t=true
 tm:Tm A.now
 dead:A.dead=[]
 few:A.ms.length<=20
 m0:0<=A.m
 m1:A.m<=(A.ms.length:Int)
theorem Fst.fwd{A:Aim}{b:Bool}{e:Int×Int->Nat}{m:Nat}{w:den tNw}{r inn:Int}{p:den tPk}(h:Fst A b (λd=>hH d p+e d) (m+1) w ((r,inn,p)::aE w))(hc:(aD A.t A.now A.dead r inn p).1=0):
  Fst A b e m (dS w r (aD A.t A.now A.dead r inn p).2.1 (aD A.t A.now A.dead r inn p).2.2.1) (aE (dS w r (aD A.t A.now A.dead r inn p).2.1 (aD A.t A.now A.dead r inn p).2.2.1)):=by
 obtain⟨s1,s2,s3,s4,s5⟩:=h.mid.send hc;obtain⟨i,j,b',eg⟩:=vG A.t A.now A.dead r inn p;obtain⟨o1,o2⟩:=h.ok _ (bWt ..);rw[s1];refine⟨s5,λy hy=> ?_,h.good.eq s2,s4.trans h.drop,h.flw.imp id λhfl=>hfl.same (by rw[s2]) (by rw[s3]) λf x hd=> ?_⟩
 .rcases bWq.1 hy with hy | hy
  .exact h.ok y (bWo _ hy)
  .rw[bWp.1 hy];constructor
   .rcases Arr.or o1 with c | ⟨_,c⟩
    .have c:(aD A.t A.now A.dead r inn p).1=1:=c;rw[hc]at c;exact absurd c (by decide)
    .exact c
   .simp only[eg];exact o2
 .refine FMd.fwd hd (λc=> ?_) (λc=> ?_) λc=> ?_
  .simp only[eg]at c;exact c
  .unfold TkD;simp only[eg];exact c
  .unfold TkA;simp only[eg];exact c
theorem bGj{t:den tTo}{w:den tNw}{r:Int}{q:den tPk}(h:eO (λ_ f=> ∀q∈f.2.2.2.2.2.1,qL t q) w):eO (λ_ f=> ∀q∈f.2.2.2.2.2.1,qL t q) (oQ w r q):=λk g hg=>by
 have hg:((aB w).map (bR r q))[k]? =some g:=hg;rw[bXx]at hg;obtain⟨g0,h0,rfl⟩:=bXd.1 hg;intro z hz;have hz:z∈(bR r q g0).2.2.2.2.2.1:=hz;rw[(aBj r q g0).2.2.2]at hz;exact h k g0 h0 z hz
theorem Fst.home{A:Aim}(hA:zO A){b:Bool}{e:Int×Int->Nat}{m:Nat}{w:den tNw}{r inn:Int}{p:den tPk}(h:Fst A b (λd=>hH d p+e d) (m+1) w ((r,inn,p)::aE w))(hk:p.1=(2:Int))(hc:(aD A.t A.now A.dead r inn p).1=1):
  Fst A b e m (oQ w r (aD A.t A.now A.dead r inn p).2.2.1) (aE w):=by
 obtain⟨i,j,b',eg⟩:=vG A.t A.now A.dead r inn p;have hd:p.2.2.1=r:=aHz hc;rw[eg];refine⟨(h.mid.mono (λd=>bX7 _ _) (bXi _)).flows _,λy hy=>h.ok y (bWo _ hy),bGj h.good,h.drop,h.flw.imp id λhfl=> ?_⟩;obtain⟨f,x,f1,f2,f3,f4,f5,f6,f7⟩:=hfl.ex;obtain⟨t1,t2,t3,t4⟩:=aBj r (goTo p i j b') f;have fl:(aB (oQ w r (goTo p i j b')))[A.i]? =some (bR r (goTo p i j b') f):=by
  show ((aB w).map (bR r (goTo p i j b')))[A.i]? =_;rw[bXx,f1];rfl
 have hf: ¬ Rel A p->bR r (goTo p i j b') f=f:=λhn=>by
  have ha:tV f (goTo p i j b')=false:=by
   cases c:tV f (goTo p i j b') with
   | false=>rfl
   | true=>
    obtain⟨a1,a2,a3⟩:=aHa c;exact absurd (.inr ⟨a1,a2.trans f4,a3.trans f3⟩) hn
  unfold bR;split
  .rw[zT (show ((goTo p i j b').1==2)=true by rw[beq_iff_eq];exact hk)];unfold iH;rw[ha];rfl
  .rfl
 by_cases hrel:Rel A p
 .
  have hT:b=true/\A.m<(A.ms.length:Int)/\bS f=A.m/\x.2.2.1=A.m+1/\TkA A (r,inn,p)/\NoR A (aE w):=by
   rcases f7 with ⟨n,_⟩ | ⟨_,_,_,_,o⟩ | ⟨b1,b2,b3,b4,o⟩ | ⟨_,_,n,_⟩
   .exact absurd hrel (n _ (bWt ..))
   .rcases o.head with ⟨c,_⟩ | ⟨c,_⟩
    .have c:p.1=(1:Int):=c.1;rw[hk]at c;exact absurd c (by decide)
    .exact absurd hrel c
   .rcases o.head with ⟨c,n⟩ | ⟨c,_⟩
    .exact⟨b1,b2,b3,b4,c,n⟩
    .exact absurd hrel c
   .exact absurd hrel (n _ (bWt ..))
  obtain⟨b1,b2,b3,b4,⟨c1,c2,c3,c4⟩,n⟩:=hT;have c2:p.2.1=A.dst:=c2;have c3:p.2.2.1=A.src:=c3;have c4:p.2.2.2.2.2.2.2.2.1=A.m:=c4;have m0:=hA.m0;have few:=hA.few;have ha:tV f (goTo p i j b')=true:=by
   unfold tV;show ((p.1==2)&&((p.2.1==f.2.1)&&((p.2.2.1==f.1)&&((p.2.2.2.2.2.2.2.2.1==f.2.2.2.1)&&inR f.2.2.2.1 0 ((f.2.2.2.2.1.length:Int) - 1)))))=true;have b3:f.2.2.2.1=A.m:=b3;rw[hk,c2,c3,c4,f3,f4,b3,f5];simp only[beq_self_eq_true,bW4];exact aI.2 ⟨m0,by omega⟩
  have e1:bR r (goTo p i j b') f=(f.1,f.2.1,f.2.2.1,wr (f.2.2.2.1+1),f.2.2.2.2.1,f.2.2.2.2.2.1,f.2.2.2.2.2.2.1,0,f.2.2.2.2.2.2.2.2):=by
   unfold bR;rw[zT (show (f.1==r)=true by rw[beq_iff_eq,f3,<- hd];exact c3.symm),zT (show ((goTo p i j b').1==2)=true by rw[beq_iff_eq];exact hk)];unfold iH;rw[ha];rfl
  have ew:wr (f.2.2.2.1+1)=A.m+1:=by
   have b3:f.2.2.2.1=A.m:=b3;rw[b3];exact bD (by omega) (by omega)
  refine⟨_,x,fl,f2,t1.trans f3,t2.trans f4,t3.trans f5,t4.trans f6,.inr (.inr (.inr ⟨b1,b2,n,?_,?_,b4⟩))⟩
  .rw[e1];exact ew
  .rw[e1];rfl
 .rw[hf hrel]at fl;exact⟨f,x,fl,f2,f3,f4,f5,f6,f7.skip hrel⟩
theorem Fst.proc0{A:Aim}(hA:zO A){b:Bool}{e:Int×Int->Nat}{m:Nat}{w:den tNw}{r inn:Int}{p:den tPk}(h:Fst A b (λd=>hH d p+e d) (m+1) w ((r,inn,p)::aE w))(hk:p.1=(2:Int)):Fst A b e m (proc0 w r inn p) (aE (proc0 w r inn p)):=by
 unfold Go.Proofs.YtnkjolpkcmgcaaaGreat.proc0;rw[h.mid.step r inn p];rcases Arr.code (h.ok _ (bWt ..)).1 with c | c
 .have c:(aD A.t A.now A.dead r inn p).1=0:=c;rw[c,zT (by decide)];exact h.fwd c
 .have c:(aD A.t A.now A.dead r inn p).1=1:=c;rw[c,zS (by decide),zT (by decide)];exact h.home hA hk c
theorem Fst.data{A:Aim}(hA:zO A){b:Bool}{e:Int×Int->Nat}{m:Nat}{w:den tNw}{r inn:Int}{p:den tPk}(h:Fst A b (λd=>hH d p+e d) (m+1) w ((r,inn,p)::aE w))(hi:aZ A.t w)(hg:kI w p)(hk:p.1=(1:Int))(hc:(aD A.t A.now A.dead r inn p).1=1):
  Fst A b e m (kL w r (aD A.t A.now A.dead r inn p).2.2.1) (aE (kL w r (aD A.t A.now A.dead r inn p).2.2.1)):=by
 obtain⟨i,j,b',eg⟩:=vG A.t A.now A.dead r inn p;have hd:p.2.2.1=r:=aHz hc;have hv:cL p=true:=(mQ (t:=A.t) (r:=r) (now:=A.now) (dead:=dU A.t A.dead r) (inn:=inn) (p:=p) (.inr (.inl hc))).val;have hgood:qL A.t p.2.2.2.1:=by
  rcases (h.ok _ (bWt ..)).2 with c | c
  .exact c.2
  .have c:p.1=(2:Int):=c;rw[hk]at c;exact absurd c (by decide)
 rw[eg];have hg':kI w (goTo p i j b'):=hg.goTo i j b';have hok:∀y∈aE w,OkY A y:=λy hy=>h.ok y (bWo _ hy)
 have weak:Mid A.t A.now A.dead e m w:=h.mid.mono (λd=>bX7 _ _) (bXi _);have arr:ends (cH p.2.2.2.1)=(p.2.2.1,p.2.1)->OkY A (r,0,bU 2 (cH p.2.2.2.1) p.2.2.2.2.2.2.2.1 p.2.2.2.2.2.2.2.2.1 []):=λq4=>by
  refine⟨?_,.inr rfl⟩;have hs:=aOm hA.top (hgood.rev hA.top) hA.tm;rw[q4]at hs;have hv':=hv;unfold cL at hv';simp only[bWj]at hv';have :=Arr.set (m:=(2,p.2.2.2.2.2.2.2.1,p.2.2.2.2.2.2.2.2.1,[])) (by
   unfold okM;simp only[bWj];exact⟨by decide,hv'.2.2.2.2.2.2.2.1,hv'.2.2.2.2.2.2.2.2.1,rfl⟩) hs
  show Arr A.t A.now A.dead r 0 (bU 2 (cH p.2.2.2.1) p.2.2.2.2.2.2.2.1 p.2.2.2.2.2.2.2.2.1 []);rw[hA.dead,<- hd];exact this
 rcases h.flw with hz | hfl
 .unfold kL;split
  .exact⟨weak,hok,h.good,h.drop,.inl hz⟩
  .rename_i hx;split
   .rename_i ha;obtain⟨q1,q2,q3,q4⟩:=aGk hi hg' hx ha;rw[q3];refine Fst.proc0 hA (inn:=0) ⟨(h.mid.box _ _).mono (λd=> ?_) (bWx _),λy hy=> ?_,h.good.eq rfl,h.drop,.inl hz⟩ rfl
    .exact bYf (bWk (aAg rfl) (yI (by rw[beq_iff_eq];exact hk))) _
    .rcases bWm.1 hy with hy | hy
     .rw[hy];exact arr q4
     .exact hok y hy
   .exact⟨weak.box _ _,hok,h.good.eq rfl,h.drop,.inl hz⟩
 obtain⟨f,x,f1,f2,f3,f4,f5,f6,f7⟩:=hfl.ex;have hlt:A.i<(aL w).length:=(bWn.1 f2).1;have hFi:=hi.flow A.i f x f1 f2;have m0:=hA.m0;have few:=hA.few;have own:Rel A p->b=true/\A.m<(A.ms.length:Int)/\bS f=A.m/\x.2.2.1=A.m/\TkD A (r,inn,p)/\NoR A (aE w):=λhrel=>by
  rcases f7 with ⟨n,_⟩ | ⟨b1,b2,b3,b4,o⟩ | ⟨_,_,_,_,o⟩ | ⟨_,_,n,_⟩
  .exact absurd hrel (n _ (bWt ..))
  .rcases o.head with ⟨c,n⟩ | ⟨c,_⟩
   .exact⟨b1,b2,b3,b4,c,n⟩
   .exact absurd hrel c
  .rcases o.head with ⟨c,_⟩ | ⟨c,_⟩
   .have c:p.1=(2:Int):=c.1;rw[hk]at c;exact absurd c (by decide)
   .exact absurd hrel c
  .exact absurd hrel (n _ (bWt ..))
 have hrelE:Rel A p->p.2.1=A.src/\p.2.2.1=A.dst:=λhrel=>by
  rcases hrel with ⟨_,c⟩ | ⟨c,_⟩
  .exact c
  .rw[hk]at c;exact absurd c (by decide)
 have bNp:Rel A p-> ¬ cN (aL w) r p.2.1<0:=λhrel=>by
  obtain⟨c1,c2⟩:=hrelE hrel;rcases aHv (aL w) r p.2.1 with ⟨_,h2⟩ | ⟨k,y,h1,_⟩
  .have :=h2 _ (bWu f2);unfold mY at this;rw[hFi.xAS,hFi.xFrom,f3,f4,c1,<- hd,c2]at this;simp at this
  .rw[h1];omega
 unfold kL;split
 .rename_i hx;exact⟨weak,hok,h.good,h.drop,.inr ⟨f,x,f1,f2,f3,f4,f5,f6,f7.skip λc=>bNp c hx⟩⟩
 .rename_i hx;obtain⟨k,g,e1,e2,e3,e4,e5,e6,e7,e8⟩:=aMx hi hx;have e5:g.1=p.2.1:=e5;have same:Rel A p->k=A.i:=λhrel=>by
   obtain⟨c1,c2⟩:=hrelE hrel;exact hi.one e2 f1 (by rw[e5,c1,f3]) (by rw[e6,<- hd,c2,f4])
  have other: ¬ Rel A p->k≠A.i:=λhn c=>by
   subst c;rw[f1]at e2;injection e2 with e2;subst e2;exact hn (.inl ⟨hk,e5.symm.trans f3,hd.trans (e6.symm.trans f4)⟩)
  have hbx:∀y:den tIb,k≠A.i->(aL (mH w k y))[A.i]? =some x:=λy hne=>by
   show ((aL w).set k y)[A.i]? =_;rw[bYq hne];exact f2
  have e1':cN (aL w) r (goTo p i j b').2.1=(k:Int):=e1;have taken:Rel A p->bY (gL w k) (goTo p i j b')=(x.1,x.2.1,A.m+1,x.2.2.2++[p.2.2.2.2.2.2.2.2.2])/\wU (bY (gL w k) (goTo p i j b')) (goTo p i j b')=true:=λhrel=>by
   obtain⟨o1,o2,o3,o4,⟨_,_,_,o5⟩,o6⟩:=own hrel;obtain⟨c1,c2⟩:=hrelE hrel;have o5:p.2.2.2.2.2.2.2.2.1=A.m:=o5;have hk2:=same hrel;subst hk2;rw[f2]at e3;injection e3 with e3;rw[<- e3]at e7 e8 ⊢;have hcm:sA x (goTo p i j b')=true:=by
    unfold sA;show ((p.1==1)&&((p.2.1==x.2.1)&&(p.2.2.1==x.1)))=true;have e8:x.2.1=p.2.1:=e8;rw[hk,e8,e7,hd];simp
   have hh:bY x (goTo p i j b')=(x.1,x.2.1,A.m+1,x.2.2.2++[p.2.2.2.2.2.2.2.2.2]):=by
    unfold bY takes;rw[hcm];have h20:A.m<(20:Int):=by omega
    have :(true&&((goTo p i j b').2.2.2.2.2.2.2.2.1==x.2.2.1&&decide (x.2.2.1<20)))=true:=by
     show (true&&(p.2.2.2.2.2.2.2.2.1==x.2.2.1&&decide (x.2.2.1<20)))=true;rw[o5,o4,zX h20,beq_self_eq_true];rfl
    rw[this,zT rfl,o4,show wr (A.m+1)=A.m+1 from bD (by omega) (by omega)];rfl
   refine⟨hh,?_⟩;have hcm2:sA (bY x (goTo p i j b')) (goTo p i j b')=true:=by
    unfold sA at hcm ⊢;rw[(yZ _ _).1,(yZ _ _).2];exact hcm
   unfold wU;rw[hcm2,hh];show (true&& !decide (p.2.2.2.2.2.2.2.2.1>=A.m+1))=true;rw[o5,zW (show ¬ A.m>=A.m+1 by omega)];rfl
  split
  .rename_i ha;obtain⟨q1,q2,q3,q4⟩:=aGk hi hg' hx ha;rw[q3];have q4:ends (cH p.2.2.2.1)=(p.2.2.1,p.2.1):=q4;rw[e1',bWs];refine Fst.proc0 hA (inn:=0) ⟨(h.mid.box _ _).mono (λd=> ?_) (bWx _),λy hy=> ?_,h.good.eq rfl,h.drop,.inr ?_⟩ rfl
   .exact bYf (bWk (aAg rfl) (yI (by rw[beq_iff_eq];exact hk))) _
   .rcases bWm.1 hy with hy | hy
    .rw[hy];exact arr q4
    .exact hok y hy
   .by_cases hrel:Rel A p
    .obtain⟨o1,o2,o3,o4,⟨_,_,_,o5⟩,o6⟩:=own hrel;obtain⟨c1,c2⟩:=hrelE hrel;have hk2:=same hrel;obtain⟨t1,_⟩:=taken hrel;rw[t1];refine⟨f,(x.1,x.2.1,A.m+1,x.2.2.2++[p.2.2.2.2.2.2.2.2.2]),f1,?_,f3,f4,f5,f6,.inr (.inr (.inl ⟨o1,o2,o3,rfl,[],_,aE w,rfl,⟨rfl,?_,?_,o5⟩,λy hy=>(bW7 hy).elim,o6⟩))⟩
     .show ((aL w).set k _)[A.i]? =_;rw[hk2];exact bYj hlt
     .show (ends (cH p.2.2.2.1)).1=A.dst;rw[q4];exact c2
     .show (ends (cH p.2.2.2.1)).2=A.src;rw[q4];exact c1
    .refine⟨f,x,f1,hbx _ (other hrel),f3,f4,f5,f6,FMd.cons (f7.skip hrel) λc=> ?_⟩;rcases c with ⟨c,_⟩ | ⟨_,c1,c2⟩
     .exact absurd c (show ¬ ((2:Int)=1) by decide)
     .have c1:(ends (cH p.2.2.2.1)).1=A.dst:=c1;have c2:(ends (cH p.2.2.2.1)).2=A.src:=c2;rw[q4]at c1 c2;exact hrel (.inl ⟨hk,c2,c1⟩)
  .rename_i ha;rw[e1',bWs]at ha ⊢;have hrel: ¬ Rel A p:=λc=>ha (taken c).2
   exact⟨weak.box _ _,hok,h.good.eq rfl,h.drop,.inr ⟨f,x,f1,hbx _ (other hrel),f3,f4,f5,f6,f7.skip hrel⟩⟩
theorem Fst.proc{A:Aim}(hA:zO A){b:Bool}{e:Int×Int->Nat}{m:Nat}{w:den tNw}{r inn:Int}{p:den tPk}(h:Fst A b (λd=>hH d p+e d) (m+1) w ((r,inn,p)::aE w))(hi:aZ A.t w)(hg:aHr w p):Fst A b e m (cO w r inn p) (aE (cO w r inn p)):=by
 have ok:=h.ok _ (bWt ..);unfold cO;rw[h.mid.step r inn p];rcases Arr.code ok.1 with c | c
 .have c:(aD A.t A.now A.dead r inn p).1=0:=c;rw[c,zT (by decide)];exact h.fwd c
 .have c:(aD A.t A.now A.dead r inn p).1=1:=c;have hv:cL p=true:=(mQ (t:=A.t) (r:=r) (now:=A.now) (dead:=dU A.t A.dead r) (inn:=inn) (p:=p) (.inr (.inl c))).val;rw[c,zS (by decide),zT (by decide)];rcases ok.2 with ⟨k,_⟩ | k
  .have k:p.1=(1:Int):=k;rw[zT (show (p.1==1)=true by rw[beq_iff_eq];exact k)];exact h.data hA hi (hg hv) k c
  .have k:p.1=(2:Int):=k;rw[zS (show ¬ (p.1==1)=true by rw[beq_iff_eq,k];decide)];exact h.home hA k c
theorem Fst.out{A:Aim}(hA:zO A){b:Bool}{e:Int×Int->Nat}{m:Nat}{w:den tNw}(h:Fst A b e m w (aE w))(hi:aZ A.t w):Fst A b e m (outW w) (aE (outW w))/\aZ A.t (outW w):=by
 unfold outW;split
 .exact⟨h,hi⟩
 .rename_i x l hf;have hi':aZ A.t (bF w l):=hi.same rfl rfl rfl λy hy=> .inl (by rw[hf];exact bWo _ hy)
  have hg:aHr (bF w l) x.2.2:=hi.good x (by rw[hf];exact bWt ..);refine⟨Fst.proc hA ⟨h.mid.take hf,?_,h.good.eq rfl,h.drop,?_⟩ hi' hg,yQ hi' hg⟩
  .have :=h.ok;rw[hf]at this;exact this
  .have :=h.flw;rw[hf]at this;exact this.imp id λhfl=>hfl.same rfl rfl λ_ _ c=>c
theorem Fst.del{A:Aim}(hA:zO A){b:Bool}{e:Int×Int->Nat}{m:Nat}:∀(n:Nat) {w:den tNw},Fst A b e m w (aE w)->aZ A.t w->Fst A b e m (delW n w) (aE (delW n w))/\aZ A.t (delW n w)
 | 0,w,h,hi=>⟨h,hi⟩
 | n+1,w,h,hi=>by
  unfold delW;split
  .exact⟨h,hi⟩
  .obtain⟨h1,h2⟩:=h.out hA hi;exact Fst.del hA n h1 h2
theorem bQh{A:Aim}(hA:zO A){w:den tNw}{k:Nat}{f:den tFl}(hi:aZ A.t w)(hf:(aB w)[k]? =some f)(hgood:∀q∈f.2.2.2.2.2.1,qL A.t q)(hb:(aF f).2.2=true):OkY A ((aF f).1.1,0,(aF f).2.1)/\(aF f).2.1.2.2.2.2.2.2.2.2.1=f.2.2.2.1:=by
 obtain⟨s1,s2,s3,s4⟩:=aA8 hi hf hb;obtain⟨m1,m2⟩:=aSw hb;have hk:k<(aL w).length:=by rw[hi.lenB];exact (bWn.1 hf).1
 have hv:=(lS f).1 (hi.flow k f _ hf (bWl hk)).val;obtain⟨q1,q2,q3,q4,q5,q6,q7,q8,q9,q10,q11,q12⟩:=hv;have hseq:(aF f).2.1.2.2.2.2.2.2.2.2.1=f.2.2.2.1:=congrArg (λz:den tPk=>z.2.2.2.2.2.2.2.2.1) m2;have hsrc:(aF f).2.1.2.1=(ends (aF f).2.1.2.2.2.1).1:=congrArg (λz:den tPk=>z.2.1) m2;refine⟨⟨?_,.inl ⟨s1,hgood _ m1⟩⟩,hseq⟩;have hs:=aOm hA.top (hgood _ m1) hA.tm;have key:lA (bU 1 (aF f).2.1.2.2.2.1 0 0 []) (1,f.2.2.1,f.2.2.2.1,(f.2.2.2.2.1[f.2.2.2.1.toNat]?).getD [])=(aF f).2.1:=m2.symm;have :=Arr.set (m:=(1,f.2.2.1,f.2.2.2.1,(f.2.2.2.2.1[f.2.2.2.1.toNat]?).getD [])) (by
  unfold okM;simp only[bWj];obtain⟨a0,a1⟩:=aI.1 q6;refine⟨by decide,q4,aI.2 ⟨a0,by omega⟩,?_⟩;rw[zR];cases c:f.2.2.2.2.1[f.2.2.2.1.toNat]? with
  | none=>show ((([]:List Int).length:Nat):Int)<=40;decide
  | some z=>
   have :=q8 z (bWu c);show ((z.length:Nat):Int)<=40;omega) hs
 rw[key]at this;show Arr A.t A.now A.dead (aF f).1.1 0 (aF f).2.1;rw[hA.dead,s4,<- s2,hsrc];exact this
theorem bJ0{t:den tTo}{w:den tNw}{k:Nat}{f:den tFl}(h:eO (λ_ f=> ∀q∈f.2.2.2.2.2.1,qL t q) w)(hf:(aB w)[k]? =some f):eO (λ_ f=> ∀q∈f.2.2.2.2.2.1,qL t q) (bK w ((aB w).set k (aF f).1)):=by
 refine h.set λq hq=> ?_
 rw[(wA f).2.2.2]at hq;exact h k f hf q hq
theorem Fst.tickT{A:Aim}(hA:zO A){e:Int×Int->Nat}{m:Nat}{w:den tNw}(k:Nat)(h:Fst A (decide (A.i<k)) (λd=>2+e d) (m+1) w (aE w))(hi:aZ A.t w):Fst A (decide (A.i<k+1)) e m (stepT k w) (aE (stepT k w))/\aZ A.t (stepT k w):=by
 refine⟨?_,aBe k hi⟩;have weak:Mid A.t A.now A.dead e m w:=h.mid.mono (λd=>bX7 _ _) (bXi _);have hb1:k≠A.i->decide (A.i<k+1)=decide (A.i<k):=λhk=>by
  rw[bXj,zR,zR];omega
 have m0:=hA.m0;have m1:=hA.m1;unfold stepT;split
 .rename_i f hf;obtain⟨i1,i2⟩:=aK1 hi hf;have hgood:=bJ0 h.good hf;have hlt:=(bWn.1 hf).1;split
  .rename_i hb;obtain⟨ok,hseq⟩:=bQh hA hi hf (h.good k f hf) hb;obtain⟨s1,s2,s3,s4⟩:=aA8 hi hf hb;refine Fst.proc hA (inn:=0) ⟨(h.mid.flows _).mono (λd=>bYf (aKw _ _) _) (bWx _),λy hy=> ?_,hgood,h.drop,h.flw.imp id λhfl=> ?_⟩ i1 λ_=>i2 hb
   .rcases bWm.1 hy with hy | hy
    .rw[hy];exact ok
    .exact h.ok y hy
   .obtain⟨g,x,f1,f2,f3,f4,f5,f6,f7⟩:=hfl.ex
    by_cases hk:k=A.i
    .subst hk;rw[hf]at f1;injection f1 with f1;subst f1;rw[zX (bZx _)];rw[zW (Nat.lt_irrefl _)]at f7;obtain⟨c,wt,et,es⟩:=uM f;have hs:=(es hb).2;rcases f7 with ⟨n,a1,a2,a3,a4⟩ | ⟨c,_⟩ | ⟨c,_⟩ | ⟨c,_⟩
     .have hlt2:A.m<(A.ms.length:Int):=by
       unfold sends at hs;rw[bWj]at hs;have h2:=(aI.1 hs.2).2;have h2:f.2.2.2.1<=(f.2.2.2.2.1.length:Int) - 1:=h2;rw[f5]at h2;have a1:f.2.2.2.1=A.m:=a1;rw[a1]at h2;have key:∀a b:Int,a<=b - 1->a<b:=λa b h=>by omega
       exact key _ _ h2
      refine⟨(aF f).1,x,bYj hlt,f2,?_,?_,?_,?_,.inr (.inl ⟨rfl,hlt2,?_,a3,[],_,aE w,rfl,⟨s1,s2.trans f3,s3.trans f4,hseq.trans a1⟩,λy hy=>(bW7 hy).elim,n⟩)⟩
      .exact (wA f).1.trans f3
      .exact (wA f).2.1.trans f4
      .exact (wA f).2.2.1.trans f5
      .exact (wA f).2.2.2.trans f6
      .rw[et];exact a1
     .cases c
     .cases c
     .cases c
    .rw[hb1 hk];refine⟨g,x,(bYq hk).trans f1,f2,f3,f4,f5,f6,f7.cons λc=> ?_⟩;rcases c with ⟨_,c1,c2⟩ | ⟨c0,_⟩
     .exact hk (hi.one hf f1 (by rw[f3,<- c1];exact s2.symm) (by rw[f4,<- c2];exact s3.symm))
     .rw[s1]at c0;exact absurd c0 (by decide)
  .rename_i hb;refine⟨weak.flows _,h.ok,hgood,h.drop,?_⟩;rcases h.flw with hz | hfl
   .exact .inl hz
   obtain⟨g,x,f1,f2,f3,f4,f5,f6,f7⟩:=hfl.ex
   by_cases hk:k=A.i
   .subst hk;rw[hf]at f1;injection f1 with f1;subst f1
    by_cases hp:A.ps=[]
    .exact .inl hp
    right;rw[zX (bZx _)];rw[zW (Nat.lt_irrefl _)]at f7;have hk:A.i<(aL w).length:=(bWn.1 f2).1;have hv:=(lS f).1 (hi.flow A.i f x hf f2).val;rcases f7 with ⟨n,a1,a2,a3,a4⟩ | ⟨c,_⟩ | ⟨c,_⟩ | ⟨c,_⟩
    .have a1':f.2.2.2.1=A.m:=a1;have a2':f.2.2.2.2.2.2.2.1=0:=a2;have hs:sends f=false:=by
      cases c:sends f with
      | false=>rfl
      | true=>
       have :aF f=(setCW f f.2.2.2.2.2.2.1 1,kG f,true):=by
        unfold aF;rw[c,a2'];rfl
       rw[this]at hb;exact absurd rfl hb
     have hm:A.m=(A.ms.length:Int):=by
      by_cases hm:A.m=(A.ms.length:Int)
      .exact hm
      .have :sends f=true:=by
        unfold sends;rw[bWj];have hpl:0<A.ps.length:=List.length_pos_iff.2 hp;constructor
        .rcases hv.2.2.2.2.2.2.2.2.2.1 with c | c
         .rw[c,f6];exact aI.2 ⟨by decide,by omega⟩
         .exact c
        .rw[a1',f5];exact aI.2 ⟨m0,by omega⟩
       rw[hs]at this;cases this
     have ht:(aF f).1=setCW f f.2.2.2.2.2.2.1 0:=by
      unfold aF;rw[hs];rfl
     refine⟨setCW f f.2.2.2.2.2.2.1 0,x,?_,f2,f3,f4,f5,f6,.inl ⟨n,a1,rfl,a3,.inr hm⟩⟩;rw[<- ht];exact bYj hlt
    .cases c
    .cases c
    .cases c
   .right;rw[hb1 hk];exact⟨g,x,(bYq hk).trans f1,f2,f3,f4,f5,f6,f7⟩
 .rename_i hf;refine⟨weak,h.ok,h.good,h.drop,h.flw.imp id λhfl=> ?_⟩;obtain⟨g,x,f1,f2,f3,f4,f5,f6,f7⟩:=hfl.ex;have hk:k≠A.i:=λc=>by rw[c,f1]at hf;cases hf
  rw[hb1 hk];exact⟨g,x,f1,f2,f3,f4,f5,f6,f7⟩
theorem Fst.ticks{A:Aim}(hA:zO A):∀(n k:Nat) {w:den tNw},Fst A (decide (A.i<k)) (λ_=>2 * n) n w (aE w)->aZ A.t w->Fst A (decide (A.i<k+n)) (λ_=>2 * 0) 0 (tickL k n w) (aE (tickL k n w))/\aZ A.t (tickL k n w)
 | 0,k,w,h,hi=>⟨h,hi⟩
 | n+1,k,w,h,hi=>by
  have h':Fst A (decide (A.i<k)) (λd=>2+(λ_=>2 * n) d) (n+1) w (aE w):=⟨h.mid.mono (λd=>by show 2+2 * n<=2 * (n+1);omega) (bWx _),h.ok,h.good,h.drop,h.flw⟩
  obtain⟨a,b⟩:=h'.tickT hA k hi;have r:=Fst.ticks hA n (k+1) a b;rw[show k+1+n=k+(n+1) by omega]at r;exact r
theorem aHc{A:Aim}(hA:zO A){w:den tNw}(hi:aZ A.t w)(h0:aE w=[])(hl:(aB w).length<=3)(hn:wr (aH w+1)=A.now)(hlt: ¬ aH w>=1000000)(hd:aJ w=A.dead)
  (hc:∀s d:Int,6<=free (sV (nG w).2.1 A.now) (nG w).1 s d A.now) (hgood:eO (λ_ f=> ∀q∈f.2.2.2.2.2.1,qL A.t q) w) (hdrop:dO w=0) (hF:A.ps=[]\/FMs A false w []) (hil:A.i<(aB w).length\/A.ps=[]):
  dO (gZ w)=0/\(A.ps=[]\/FMs A true (gZ w) []):=by
 have m0:Mid A.t A.now A.dead (λ_=>2 * 3) 3 (tick0 w):=bHo hi.top hn hd (by rw[<- hn]at hc ⊢;exact hc) rfl h0;have i0:aZ A.t (tick0 w):=hi.same rfl rfl rfl λy hy=> .inl hy
 have f0:aE (tick0 w)=[]:=h0;have r0:Fst A (decide (A.i<0)) (λ_=>2 * (aB w).length) (aB w).length (tick0 w) (aE (tick0 w)):=by
  refine⟨m0.mono (λd=>by show 2 * _<=2 * 3;omega) hl,λy hy=> ?_,hgood.eq rfl,hdrop,hF.imp id λhf=> ?_⟩
  .rw[f0]at hy;cases hy
  .rw[f0];exact hf.same rfl rfl λ_ _ c=>c
 obtain⟨r1,i1⟩:=Fst.ticks hA _ _ r0 i0;obtain⟨r2,i2⟩:=r1.del hA 2000 i1;have er:gZ w=delW 2000 (tickL 0 (aB w).length (tick0 w)):=by
  unfold gZ cJ;rw[zS hlt]
 rw[<- er]at r2;have e0:aE (gZ w)=[]:=aFg (by omega) h0;refine⟨r2.drop,?_⟩;rcases r2.flw with c | c
 .exact .inl c
 .rcases hil with hil | hil
  .right;rw[e0,Nat.zero_add,zX hil]at c;exact c
  .exact .inl hil
theorem aLv{w:den tNw}(hw:nV 3 w)(i:Nat){f0:den tFl}(hf:(aB w)[i]? =some f0\/f0.2.2.2.2.2.1=[])(n:Nat):n<=100->dO (bC n w)=0/\aE (bC n w)=[]/\(f0.2.2.2.2.2.1=[]\/ ∃f x,(aB (bC n w))[i]? =some f/\(aL (bC n w))[i]? =some x/\aCn f0 f/\bS f=(if n<f0.2.2.2.2.1.length then (n:Int) else (f0.2.2.2.2.1.length:Int))/\dT f=0/\x.2.2.1=bS f):=by
 have hR:=(nV.runV hw).round;have hC:=hw.calm;have htv:=hw.top.top
 induction n with
 | zero=>
  intro _;refine⟨hw.drop,hw.fly,?_⟩;rcases hf with hf | hf
  .right;have hD:=hw.flows f0 (bWu hf);refine⟨f0,(f0.2.1,f0.1,0,[]),hf,?_,⟨rfl,rfl,rfl,rfl⟩,?_,hD.wait,hD.ack.symm⟩
   .show (aL w)[i]? =_;rw[hw.box,bXx,hf];rfl
   .have :bS f0=0:=hD.ack;rw[this];split<;>omega
  .exact .inl hf
 | succ n ih=>
  intro hn;obtain⟨d1,d2,d3⟩:=ih (by omega);obtain⟨a1,a2,a3,a4,a5⟩:=aHb hR hC n (by omega) (by omega);have hnow:=hw.now;have wn:wr (aH (bC n w)+1)=aH (bC n w)+1:=bD (by omega) (by omega);have hgood:eO (λ_ f=> ∀q∈f.2.2.2.2.2.1,qL (nT w) q) (bC n w):=by
   refine eO.rounds (P:=λ_ f=> ∀q∈f.2.2.2.2.2.1,qL (nT w) q) (λk r q f hg z hz=> ?_) (λk f hg z hz=> ?_) n λk f hf=>hw.good f (bWu hf)
   .rw[(aBj r q f).2.2.2]at hz;exact hg z hz
   .rw[(wA f).2.2.2]at hz;exact hg z hz
  rw[wS];have hlen:f0.2.2.2.2.2.1=[]\/f0.2.2.2.2.1.length<=20:=by
   rcases hf with hf | hf
   .exact .inr ((lS f0).1 (hw.flows f0 (bWu hf)).val).2.2.2.2.1
   .exact .inl hf
  have e0:aE (gZ (bC n w))=[]:=aFg (by have :=a2.few;omega) d2;rcases d3 with d3 | ⟨f,x,g1,g2,g3,g4,g5,g6⟩
  .have hA:zO ⟨nT w,aH (bC n w)+1,[],f0.1,f0.2.1,[],[],0,[],i,0⟩:=⟨htv,⟨by show (60:Int)<=aH (bC n w)+1;omega,by show aH (bC n w)+1<=(5000:Int);omega⟩,rfl,bW3 _,bXl _,bXl _⟩
   have :=aHc hA (w:=bC n w) a1.inv d2 a2.few wn (by omega) (a4.trans hw.dead) (aIw a2 a1.run.gate wn) hgood d1 (.inl rfl) (.inr rfl);exact⟨this.1,e0,.inl d3⟩
  .by_cases hp:f0.2.2.2.2.2.1=[]
   .have hA:zO ⟨nT w,aH (bC n w)+1,[],f0.1,f0.2.1,[],[],0,[],i,0⟩:=⟨htv,⟨by show (60:Int)<=aH (bC n w)+1;omega,by show aH (bC n w)+1<=(5000:Int);omega⟩,rfl,bW3 _,bXl _,bXl _⟩
    have :=aHc hA (w:=bC n w) a1.inv d2 a2.few wn (by omega) (a4.trans hw.dead) (aIw a2 a1.run.gate wn) hgood d1 (.inl rfl) (.inr rfl);exact⟨this.1,e0,.inl hp⟩
   .have hl20:=hlen.elim (λc=>absurd c hp) id;have hA:zO ⟨nT w,aH (bC n w)+1,[],f0.1,f0.2.1,f0.2.2.2.2.1,f0.2.2.2.2.2.1,0,[],i,bS f⟩:=by
     refine⟨htv,⟨by show (60:Int)<=aH (bC n w)+1;omega,by show aH (bC n w)+1<=(5000:Int);omega⟩,rfl,hl20,?_,?_⟩
     .show 0<=bS f;rw[g4];split<;>omega
     .show bS f<=(f0.2.2.2.2.1.length:Int)
      rw[g4];split<;>omega
    have hl:i<(aB (bC n w)).length:=(bWn.1 g1).1;obtain⟨r1,r2⟩:=aHc hA (w:=bC n w) a1.inv d2 a2.few wn (by omega) (a4.trans hw.dead) (aIw a2 a1.run.gate wn) hgood d1 (.inr ⟨f,x,g1,g2,g3.1,g3.2.1,g3.2.2.1,g3.2.2.2,.inl ⟨λy hy=>(bW7 hy).elim,rfl,g5,g6,.inl rfl⟩⟩) (.inl hl);refine⟨r1,e0,.inr ?_⟩;rcases r2 with c | c
    .exact absurd c hp
    .obtain⟨f',x',q1,q2,q3,q4,q5,q6,q7⟩:=c.ex;refine⟨f',x',q1,q2,⟨q3,q4,q5,q6⟩,?_⟩;rcases q7 with ⟨_,b1,b2,b3,b4⟩ | ⟨_,_,_,_,o⟩ | ⟨_,_,_,_,o⟩ | ⟨_,b1,_,b2,b3,b4⟩
     .have b4:bS f=(f0.2.2.2.2.1.length:Int):=b4.elim (λc=>by cases c) id;have b1:bS f'=bS f:=b1;have b3:x'.2.2.1=bS f:=b3;refine⟨?_,b2,b3.trans b1.symm⟩;rw[b1,b4];rw[b4]at g4;split
      .rename_i c;rw[zT (by omega)]at g4;omega
      .rfl
     .obtain⟨L1,y,L2,e,_⟩:=o;exact absurd e.symm (by simp)
     .obtain⟨L1,y,L2,e,_⟩:=o;exact absurd e.symm (by simp)
     .have b1:bS f<(f0.2.2.2.2.1.length:Int):=b1;have b2:bS f'=bS f+1:=b2;have b4:x'.2.2.1=bS f+1:=b4;refine⟨?_,b3,b4.trans b2.symm⟩;rw[b2];have hlt:n<f0.2.2.2.2.1.length:=by
       rw[g4]at b1;split at b1
       .assumption
       .omega
      rw[g4,zT hlt];split<;>omega
end Go.Proofs.YtnkjolpkcmgcaaaGreat
