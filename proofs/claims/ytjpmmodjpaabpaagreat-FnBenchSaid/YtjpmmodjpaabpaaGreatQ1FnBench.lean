/-
  Facts and plain laws: what the functions compute, in plain words. Conditions: as each says.
-/
import Derived.Test.YtjpmmodjpaabpaaGreatQ0FnBench
open List renaming length->Cr,mem_of_getElem?->Cm,nil_append->CH,append_nil->CU,getElem?_eq_some_iff->Cu,mem_cons->Cl,mem_append->C0,getElem?_eq_getElem->Cs,length_set->Ml,map_cons->CA,length_cons->C6,all_cons->Mk,mem_singleton->Cy,mem_map->Ch,length_nil->CE,mem_cons_of_mem->C1,mem_or_eq_of_mem_set->ZC,length_filter_le->H5,mem_of_mem_take->IE,mem_of_mem_drop->IH,take_append_drop->FW,mem_iff_getElem?->UR,filter_cons->PA,mem_filter->C2,getElem?_drop->Ex,append_assoc->CY,length_append->C7,length_take->Dy,length_map->CF,length_drop->IJ,getElem?_map->FV,length_flatMap->N7,not_mem_nil->Dl,mem_flatMap->Ev,foldl_cons->EX,findIdx_le_length->cRn
open Nat renaming le_trans->B5,le_refl->Cz,zero_le->C3,succ_mul->CZ,zero_add->Dc,mul_le_mul_right->DA,add_sub_cancel->PF
open Int renaming toNat_natCast->Cj,eq_ofNat_of_zero_le->Ew
open Bool renaming not_false->Cn,false_eq_true->Cg,not_true->BZ,eq_iff_iff->CG,not_eq_true'->Eu,false_and->CD,and_self->EV,and_false->DM,and_eq_true->Ck,false_or->Mj,true_and->Cw,or_true->II,true_or->GI,or_self->E7,or_eq_true->Fs
open Sum renaming inl->A7,inr->A2,elim_inl->Ea,elim_inr->R1,elim->Cd
open Option renaming getD_some->CJ
set_option linter.unusedVariables false
set_option linter.unusedSimpArgs false
set_option maxRecDepth 100000
open Option renaming some→U
open Option renaming none→W
open Decidable renaming decide→D
open Bool renaming true→X
open Bool renaming false→Y
namespace Go.Proofs.YtjpmmodjpaabpaaGreat
open Go.Ab Go.V
theorem Qp{w:den B1}(h:Cc 549755813888 B1 w):eY w=U (E6 w):=by
 obtain⟨hT,hK,hG,_,hD,hY,hF,hX,_⟩:=h;unfold eY mU aK A1 A6 B6 Ct A0 A4 A3 A8 B0 B8;simp only[aD,SK hT,MB hK.1,MB hK.2,bOy hG,bLj hD.1,aA];rw[(jJ (λk (a:CR)=>((k:Int),(nG w).1,aV w,qP w,a)) ((0:Int),(nG w).1,aV w,qP w,[]) [] (bS w) (λ_ x a=>a++[x]) Cr (λ_=>1) 549755813888 (λa=>((nG w).1,aV w,qP w,a)) rfl (B5 hY.1 (by decide)) (by rw[cT];simpa using hY.1) (λk x a hi hx hd hw hk hb=>by
  have e:=bUl (hY.2 x (Cm hx));simp only[hd,hi,hw,zZ,aA,aD,O2 e,bLx,aC (b:=128) (n:=a.length) (m:=1) (by decide) hb];exact⟨rfl,by simp⟩) (λa=>by simp)).1,dR (λx=>x)]
 simp only[aA];rw[(jJ (λk (a:CK)=>((k:Int),(nG w).1,aV w,qP w,a)) ((0:Int),(nG w).1,aV w,qP w,[]) [] (aG w) (λ_ x a=>a++[x]) Cr (λ_=>1) 549755813888 (λa=>((nG w).1,aV w,qP w,a)) rfl (B5 hF.1 (by decide)) (by rw[cT];simpa using hF.1) (λk x a hi hx hd hw hk hb=>by
  have e:=hF.2 x (Cm hx);simp only[hd,hi,hw,zZ,aA,aD,OA e,V7,aC (b:=120) (n:=a.length) (m:=1) (by decide) hb];exact⟨rfl,by simp⟩) (λa=>by simp)).1,dR (λx=>x)]
 simp only[aA];rw[(jJ (λk (a:Dj)=>((k:Int),(nG w).1,aV w,qP w,a)) ((0:Int),(nG w).1,aV w,qP w,[]) [] (cR w) (λ_ x a=>a++[x]) Cr (λ_=>1) 549755813888 (λa=>((nG w).1,aV w,qP w,a)) rfl (B5 hX.1 (by decide)) (by rw[cT];simpa using hX.1) (λk x a hi hx hd hw hk hb=>by
  have e:=hX.2 x (Cm hx);simp only[hd,hi,hw,zZ,aA,aD,bL4 e,aC (b:=48) (n:=a.length) (m:=1) (by decide) hb];simp) (λa=>by simp)).1,dR (λx=>x)]
 simp only[aA,CH,List.map_id'];rfl
theorem cMq{l:CR}(h:Cc 549755813888 (.sl C5) l):GQ l=U l:=by
 unfold GQ aK A0 A4 A3 A8 B0 B8;rw[(jJ (λk (a:CR)=>((k:Int),a)) ((0:Int),[]) [] l (λ_ x a=>a++[x]) Cr (λ_=>1) 549755813888 id rfl (B5 h.1 (by decide)) (by rw[cT];simpa using h.1) (λk x a hi hx hd hw hk hb=>by
  have e:=bUl (h.2 x (Cm hx));simp only[hd,hi,hw,zZ,aA,aD,MF e,bLx,aC (b:=128) (n:=a.length) (m:=1) (by decide) hb];exact⟨rfl,by simp⟩) (λa=>by simp)).1,dR (λx=>x)]
 simp
theorem cF7{l:CK}(h:Cc 549755813888 (.sl B7) l):uN l=U l:=by
 unfold uN Ct A0 A4 A3 A8 B0;rw[(jJ (λk (a:CK)=>((k:Int),a)) ((0:Int),[]) [] l (λ_ x a=>a++[x]) Cr (λ_=>1) 549755813888 id rfl (B5 h.1 (by decide)) (by rw[cT];simpa using h.1) (λk x a hi hx hd hw hk hb=>by
  have e:=h.2 x (Cm hx);simp only[hd,hi,hw,zZ,aA,aD,MH e,V7,aC (b:=120) (n:=a.length) (m:=1) (by decide) hb];exact⟨rfl,by simp⟩) (λa=>by simp)).1,dR (λx=>x)]
 simp
theorem cFi{l:Dj}(h:Cc 549755813888 (.sl Cq) l):uG l=U l:=by
 unfold uG B6;rw[(jJ (λk (a:Dj)=>((k:Int),a)) ((0:Int),[]) [] l (λ_ x a=>a++[x]) Cr (λ_=>1) 549755813888 id rfl (B5 h.1 (by decide)) (by rw[cT];simpa using h.1) (λk x a hi hx hd hw hk hb=>by
  have e:=h.2 x (Cm hx);simp only[hd,hi,hw,zZ,aA,aD,bNh e,aC (b:=48) (n:=a.length) (m:=1) (by decide) hb];simp) (λa=>by simp)).1,dR (λx=>x)]
 simp
theorem WY{w:den B1}(h:Cc 549755813888 B1 w):sX w=U (E6 w):=by
 obtain⟨hT,hK,hG,_,hD,hY,hF,hX,_⟩:=h;unfold sX A1 A6 aS A0 A4 A3 A8 B0 B8;simp only[aD,SP hT,Ob hK.1,Ob hK.2,bPq hG,cMq hY,cF7 hF,cFi hX,aA,aC (b:=8) (n:=([]:List Int).length) (m:=w.2.2.2.2.1.length) (by decide) (by simpa using hD.1),zZ,bB,cB,bL,bJ,bO,CH];rfl
def aN(w:den B1):q1:=
 (bS w,aG w,cR w,(nT w).1,(nT w).2,(nK w).1,(nK w).2,(nG w).1,(nG w).2.1,(nG w).2.2,aV w,bC w,qP w)
def gZ(w:den B1)(l:CK):den B1:=(nT w,nK w,nG w,aV w,bC w,bS w,l,cR w,qP w)
def EK(r:Int)(p:den A9)(f:den B7):den B7:=if f.1==r then (if p.1==2 then Ha f p else L3 f p) else f
def Ff(w:den B1)(r:Int)(p:den A9):den B1:=gZ w ((aG w).map (EK r p))
def sM(p:den A9):Prop:= ∀x∈p.2.2.2.2.2.2.2.2.2,0<=x/\x<=255
theorem Xh{α S R:Type}(enc:Nat->List α->S)(l:List α)(g:α->α)(out:List α->R){step:S->Option (S⊕R)}(hl:l.length<=4611686018427387904)
  (h:∀(k:Nat) (x:α) (a:List α),a.length=l.length->a[k]? =U x->x∈l->k<l.length->D ((k:Int)<(l.length:Int))=X->IntKind.i64.wrap ((k:Int)+1)=((k+1:Nat):Int)->step (enc k a)=U (.inl (enc (k+1) (a.set k (g x)))))
  (he:∀a,a.length=l.length->step (enc l.length a)=U (.inr (out a))):aB step (enc 0 l)=U (out (l.map g)):=by
 have key:∀(rest pre:List α),pre++rest=l->aB step (enc pre.length (pre.map g++rest))=U (out (l.map g)):=by
  intro rest
  induction rest with
  | nil=>
   intro pre hp;rw[CU]at hp;subst hp;rw[CU];exact aH (he _ (by simp))
  | cons x rest ih=>
   intro pre hp;have hlt:pre.length<l.length:=by rw[<- hp];simp
   have hx:(pre.map g++x::rest)[pre.length]? =U x:=by simp
   have hlen:(pre.map g++x::rest).length=l.length:=by rw[<- hp];simp
   rw[aO (h pre.length x _ hlen hx (by rw[<- hp];simp) hlt (by simpa using hlt) (by rw[wri (by omega) (by omega)];omega))];have hs:(pre.map g++x::rest).set pre.length (g x)=(pre++[x]).map g++rest:=by
    rw[List.set_append_right _ _ (by simp)];simp
   rw[hs];have :=ih (pre++[x]) (by simpa using hp);simpa using this
 exact key l [] rfl
theorem S4{α:Type}{a:List α}{k:Nat}{x:α}(h:a[k]? =U x):a.set k x=a:=by
 obtain⟨hlt,hx⟩:=Cu.1 h;rw[<- hx];exact List.set_getElem_self hlt
theorem Xr{f:den B7}(h:tot B7 f<=68719476736):Cc 549755813888 B7 f:=(bH h).mono (by decide)
theorem SR{α:Type}{a:List α}{k n:Nat}(h:a.length=n)(hk:k<n):D ((k:Int)<(a.length:Int))=X/\D (k<a.length)=X:=by
 constructor<;>simp<;>omega
theorem Xa{w:den B1}{r:Int}{p:den A9}(hF:∀f∈aG w,tot B7 f<=68719476736)(hl:(aG w).length<=68719476736)(hp:tot A9 p<=68719476736)(hb:sM p):kF w r p=U (aN (Ff w r p)):=by
 unfold kF BX aK Ct A0 A4 A3 A8 B0;refine Xh (λk (a:CK)=>((k:Int),a)) (aG w) (EK r p) (λl=>aN (gZ w l)) (B5 hl (by decide)) (λk f a ha hx hm hk hd hw=> ?_) (λa ha=> ?_)
 .obtain⟨d1,d2⟩:=SR ha hk;have hd:D ((k:Int)<(w.2.2.2.2.2.2.1.length:Int))=X:=hd;simp only[hd,d1,d2,bF,Cj,hx,zZ,aA,aD,kM,cFy (Xr (hF f hm)),cEw (hF f hm) hp hb,V7,hw];unfold EK;cases f.1==r
  .simp only[Cn,zZ,Cg,zU,aA,S4 hx]
  .simp only[BZ,zY,zV];cases p.1==2<;>rfl
 .simp;rfl
theorem Xo{w:den B1}{r:Int}{p:den A9}(hk3:(p.1==2)=Y)(hF:∀f∈aG w,tot B7 f<=68719476736)(hl:(aG w).length<=68719476736)(hp:tot A9 p<=68719476736)(hb:sM p):sN w r p=U (aN (Ff w r p)):=by
 unfold sN BX aK Ct A0 A4 A3 A8 B0;refine Xh (λk (a:CK)=>((k:Int),a)) (aG w) (EK r p) (λl=>aN (gZ w l)) (B5 hl (by decide)) (λk f a ha hx hm hk hd hw=> ?_) (λa ha=> ?_)
 .obtain⟨d1,d2⟩:=SR ha hk;simp only[d1,d2,bF,Cj,hx,zZ,aA,aD,cEx (hF f hm) hp hb,bB,cB,bL,bJ,bO,hw];unfold EK;rw[hk3];cases f.1==r
  .simp only[zY,Cg,zU,aA,S4 hx]
  .simp only[zZ,zV,aA,Cg,zU];rfl
 .show cond (D ((((aG w).length:Nat):Int)<(a.length:Int))) _ _=_;rw[ha,zW (by omega)];rfl
theorem bVx{w:den B1}{r:Int}{p:den A9}(hk2:(p.1==2)=X)(hF:∀f∈aG w,tot B7 f<=68719476736)(hl:(aG w).length<=68719476736){step:Int×CK->Option ((Int×CK)⊕_)}
  (hs:∀(k:Nat) (f:den B7) (a:CK),a.length=(aG w).length->a[k]? =U f->f∈aG w->k<(aG w).length->step ((k:Int),a)=U (.inl (((k+1:Nat):Int),a.set k (EK r p f)))) (he:∀a,a.length=(aG w).length->step (((aG w).length:Int),a)=U (.inr (aN (gZ w a)))):aB step ((0:Int),aG w)=U (aN (Ff w r p)):=
 Xh (λk (a:CK)=>((k:Int),a)) (aG w) (EK r p) (λl=>aN (gZ w l)) (B5 hl (by decide)) (λk f a ha hx hm hk hd hw=>hs k f a ha hx hm hk) (λa ha=>he a ha)
theorem VM(p:den A9):Er p p.2.2.2.2.1 p.2.2.2.2.2.1 p.2.2.2.2.2.2.1=p:=rfl
theorem UZ(t:den B2)(p:den A9):∃b,bV t p=Er p p.2.2.2.2.1 p.2.2.2.2.2.1 b:=by
 unfold bV;split
 .exact⟨_,rfl⟩
 .exact⟨_,(VM p).symm⟩
theorem bI3(p:den A9):∃i j b,adv p=Er p i j b:=by
 unfold adv;split
 .exact⟨_,_,_,(VM p).symm⟩
 .split<;>exact⟨_,_,_,rfl⟩
theorem bI6{t:den B2}{now:Int}:∀(n:Nat) (p:den A9),∃i j b,(De t now n p).2=Er p i j b
 | 0,p=>by obtain⟨b,hb⟩:=UZ t p;exact⟨_,_,_,hb⟩
 | n+1,p=>by
  obtain⟨b,hb⟩:=UZ t p;unfold De;split
  .obtain⟨i,j,c,h1⟩:=bI6 (t:=t) (now:=now) n (adv (bV t p));obtain⟨i',j',c',h2⟩:=bI3 (bV t p);rw[h1,h2,hb];exact⟨_,_,_,rfl⟩
  .exact⟨_,_,_,hb⟩
theorem bZg(t:den B2)(r now dead inn:Int)(p:den A9):∃i j b,(fwd t r now dead inn p).2.2.1=Er p i j b:=by
 obtain⟨i,j,b,h⟩:∃i j b,(cV t now p).2=Er p i j b:=bI6 _ p;unfold fwd
 repeat' split
 all_goals first
  | exact⟨_,_,_,(VM p).symm⟩
  | exact⟨_,_,_,h⟩
  | (obtain⟨i',j',b',h'⟩:=bI3 (cV t now p).2;exact⟨_,_,_,by rw[show (0,CV (dC (cV t now p).2) (fK (cV t now p).2),adv (cV t now p).2,CV (dC (cV t now p).2) (fK (cV t now p).2)).2.2.1=adv (cV t now p).2 from rfl,h',h];rfl⟩)
theorem Qa(t:den B2)(r now dead inn:Int)(p:den A9):(fwd t r now dead inn p).2.2.1.1=p.1/\(fwd t r now dead inn p).2.2.1.2.1=p.2.1/\(fwd t r now dead inn p).2.2.1.2.2.2.2.2.2.2.1=p.2.2.2.2.2.2.2.1/\(fwd t r now dead inn p).2.2.1.2.2.2.2.2.2.2.2.2=p.2.2.2.2.2.2.2.2.2:=by
 obtain⟨i,j,b,h⟩:=bZg t r now dead inn p;rw[h];exact⟨rfl,rfl,rfl,rfl⟩
theorem VG{t:den B2}{r now dead inn:Int}{p:den A9}(h:((fwd t r now dead inn p).1==2)=Y):sL p=X:=by
 cases hv:sL p with
 | true=>rfl
 | false=>
  unfold fwd at h;rw[hv]at h;cases h
def Ir(w:den B1):den B1:=(nT w,nK w,nG w,aV w,bC w,bS w,aG w,cR w,wr (qP w+1))
def FA(w:den B1)(r eg:Int)(p:den A9):den B1:=
 if (EZ (nG w) p.2.2.2.2.2.2.2.1 r eg (aV w)).2.1&&D ((bS w).length<150) then
  (nT w,nK w,((EZ (nG w) p.2.2.2.2.2.2.2.1 r eg (aV w)).1,(EZ (nG w) p.2.2.2.2.2.2.2.1 r eg (aV w)).2.2.1,(EZ (nG w) p.2.2.2.2.2.2.2.1 r eg (aV w)).2.2.2),aV w,bC w,bS w++[((remote (nT w) r eg).1,(remote (nT w) r eg).2,p)],aG w,cR w,qP w)
 else Ir w
structure Gl (w:den B1):Prop where
 as:(nT w).1.length<=549755813888
 links:(nT w).2.length<=68719476736
 dead:(bC w).length<=549755813888
 res:(nG w).2.1.length<=68719476736
 use:(nG w).2.2.length<=68719476736
 flowsN:(aG w).length<=68719476736
 flows:∀f∈aG w,tot B7 f<=68719476736
theorem bLi{w:den B1}{r:Int}{v:den bGy}(h:Gl w):qA w r v=U (aN (FA w r v.2.1 v.2.2)):=by
 unfold qA FA aK A1 A6 A0 A4 A3 A8 B0 B8;simp only[aD,cF6 h.res h.use,aA,bB,cB,bL,bJ,bO];have key:∀n:Nat,D ((n:Int)>=150)= !D (n<150):=λn=>by rw[CG];simp only[zR,Eu,decide_eq_false_iff_not];omega
 have h150:D ((w.2.2.2.2.2.1.length:Int)>=150)= !D ((bS w).length<150):=key _;rw[h150];cases ct:(EZ (nG w) v.2.2.2.2.2.2.2.2.2.1 r v.2.1 (aV w)).2.1
 .simp only[Cn,zZ,aA,CD,Cg,zU];rfl
 .by_cases hl:(bS w).length<150
  .rw[zX hl];simp only[BZ,zY,aA,EV,zV,KW (t:=w.1) (B5 h.links (by decide)),aC (b:=128) (n:=w.2.2.2.2.2.1.length) (m:=1) (by decide) (show (bS w).length+1<=_ by omega),zZ];rfl
  .rw[zW hl];simp only[BZ,Cn,zZ,zY,aA,DM,Cg,zU];rfl
def Eh(w:den B1)(r inn:Int)(p:den A9):den B1:=
 if (bM (nT w) (aV w) (bC w) r inn p).1==0 then FA w r (bM (nT w) (aV w) (bC w) r inn p).2.1 (bM (nT w) (aV w) (bC w) r inn p).2.2.1
 else if (bM (nT w) (aV w) (bC w) r inn p).1==1 then Ff w r (bM (nT w) (aV w) (bC w) r inn p).2.2.1
 else Ir w
structure EL (p:den A9):Prop where
 sz:tot A9 p<=68719476736
 by_:sM p
theorem EL.step{p:den A9}(h:EL p)(t:den B2)(now:Int)(dead:List Int)(r inn:Int):EL (bM t now dead r inn p).2.2.1 where
 sz:=by unfold bM;rw[Qs];exact h.sz
 by_:=λx hx=>h.by_ x (by unfold bM at hx;rwa [(Qa t r now _ inn p).2.2.2]at hx)
theorem WK{w:den B1}{r inn:Int}{p:den A9}(h:Gl w)(hp:EL p)(hk:(p.1==1)=Y):gB w r inn p=U (aN (Eh w r inn p)):=by
 have hp2:tot B4 p.2.2.2.1<=68719476736:=OI hp.sz;have hs:=hp.step (nT w) (aV w) (bC w) r inn;unfold gB cC.b BX aK eG A1 A6 B6 aL aS bA bZ A0 A4 A3 A8 B0 B8;simp only[aD,Xp h.links h.dead,YB h.as (B5 h.links (by decide)) (B5 hp.sz (by decide)) hp2,aA,bB,cB,bL,bJ,bO,hk];rw[show fwd w.1 r w.2.2.2.1 (yZ w.1 w.2.2.2.2.1 r) inn p=bM (nT w) (aV w) (bC w) r inn p from rfl];unfold Eh;generalize bM (nT w) (aV w) (bC w) r inn p=v at hs;simp only[ZI,aD];cases c0:v.1==0
 .cases c1:v.1==1
  .cases v.1==7
   .simp only[zY,aA,Cg,zU];rfl
   .simp only[zZ,zY,aA,Cg,zU];rfl
  .simp only[zZ,zY,aA,Cg,zU,zV,Xa h.flows h.flowsN hs.sz hs.by_]
 .simp only[zZ,zV,bLi h,aA]
theorem bG6:∀(k n:Nat),n<128 ^ (k+1)-> ∀x∈vi k n,0<=x/\x<=255
 | 0,n,h,x,hx=>by
  have :x=(n:Int):=by simpa [vi] using hx
  subst this;have :128 ^ (0+1)=128:=rfl;omega
 | k+1,n,h,x,hx=>by
  unfold vi at hx;split at hx
  .have :x=(n:Int):=by simpa using hx
   subst this;omega
  .rcases Cl.1 hx with rfl | hx
   .omega
   .refine bG6 k (n / 128) ?_ x hx;rw[Nat.div_lt_iff_lt_mul (by decide)]
    rwa [<- Nat.pow_succ]
def Gg(l:List Int):Prop:= ∀x∈l,0<=x/\x<=255
theorem bRk{b:List Int}{n:Int}(h:Gg b):Gg (EU b n):=by
 unfold EU;split
 .rename_i hr;have :=bQ.1 hr;intro x hx;rcases C0.1 hx with hx | hx
  .exact h x hx
  .exact bG6 5 n.toNat (by have :128 ^ (5+1)=4398046511104:=rfl;omega) x hx
 .exact h
theorem bA2:∀(l b:List Int),Gg b->Gg (JY b l)
 | [],b,h=>h
 | x::xs,b,h=>bA2 xs (EU b x) (bRk h)
theorem aYv(x:den CI):Gg (Hz x):=by
 unfold Hz;split
 .exact bA2 _ _ (λx hx=>by cases hx)
 .exact λx hx=>by cases hx
theorem bMf{r now d:Int}{p:den A9}(h:tot A9 p<=34359738368):EL (dD r now d p) where
 sz:=by have :=bD0 r now d p;omega
 by_:=aYv _
theorem Tz{x:den Cq}{p:den A9}(h:EL p):EL (xT x p) where
 sz:=B5 (bFo x p) h.sz
 by_:=by
  unfold xT;split
  .exact λx hx=>by cases hx
  .exact λx hx=>by cases hx
theorem bM8{l:Dj}{a b:Int}(h:l.length<=549755813888):rD l a b=U (oD l a b):=by
 unfold rD oD;rw[aM (l:=l) (λk x=>if yR a b x then U (k:Int) else W) (by omega) (λk x hi hd hw hm hk=>by
  simp only[hd,hi,hw,zZ,aA];unfold yR;cases x.1==a<;>cases x.2.1==b<;>rfl) (by simp),V9 (yR a b)]
 cases l.findIdx? (yR a b)<;>rfl
theorem Wc(l:Dj)(a b:Int):oD l a b= -1\/ ∃(k:Nat) (x:den Cq),oD l a b=(k:Int)/\l[k]? =U x:=by
 unfold oD;cases h:l.findIdx? (yR a b) with
 | none=>exact .inl rfl
 | some i=>
  have hlt:i<l.length:=by
   have :=List.findIdx?_eq_some_iff_findIdx_eq.1 h;exact this.1
  exact .inr ⟨i,l[i],by simp,Cs hlt⟩
def Ge(w:den B1)(i:Nat)(x:den Cq):den B1:=(nT w,nK w,nG w,aV w,bC w,bS w,aG w,(cR w).set i x,qP w)
def Gp(w:den B1)(i:Nat):den Cq:=((cR w)[i]?).getD (0,0,0,[])
def L6(w:den B1)(r:Int)(p:den A9):den B1:=
 if oD (cR w) r p.2.1<0 then w
 else if Hn (iW (Gp w (oD (cR w) r p.2.1).toNat) p) p then
  Eh (Ge w (oD (cR w) r p.2.1).toNat (iW (Gp w (oD (cR w) r p.2.1).toNat) p)) r 0 (xT (iW (Gp w (oD (cR w) r p.2.1).toNat) p) p)
 else Ge w (oD (cR w) r p.2.1).toNat (iW (Gp w (oD (cR w) r p.2.1).toNat) p)
def MS(w:den B1)(r d:Int)(p:den A9):den B1:=
 Ir (if (iD (yO p)).length>1 then Eh w r 0 (dD r (aV w) d p) else Ff w r (dD r (aV w) d p))
def pS(w:den B1)(r inn:Int)(p:den A9):den B1:=
 if (bM (nT w) (aV w) (bC w) r inn p).1==0 then FA w r (bM (nT w) (aV w) (bC w) r inn p).2.1 (bM (nT w) (aV w) (bC w) r inn p).2.2.1
 else if (bM (nT w) (aV w) (bC w) r inn p).1==1 then
  (if p.1==1 then L6 w r (bM (nT w) (aV w) (bC w) r inn p).2.2.1 else Ff w r (bM (nT w) (aV w) (bC w) r inn p).2.2.1)
 else if (bM (nT w) (aV w) (bC w) r inn p).1==7&&p.1==1 then MS w r (bM (nT w) (aV w) (bC w) r inn p).2.2.2 p
 else Ir w
theorem RQ{w:den B1}(h:Gl w){i:Nat}{x:den Cq}:Gl (Ge w i x):=⟨h.as,h.links,h.dead,h.res,h.use,h.flowsN,h.flows⟩
theorem aZe{x:den Cq}{p:den A9}(h:Hn x p=X):((xT x p).1==1)=Y:=by
 unfold xT;rw[h];rfl
theorem WE{w:den B1}{r inn:Int}{p:den A9}(h:Gl w)(hbn:(cR w).length<=549755813888)(hbx:∀x∈cR w,tot Cq x<=68719476736)(hz:tot A9 p<=34359738368)(hb:sM p):cC w r inn p=U (aN (pS w r inn p)):=by
 have hp:EL p:=⟨by omega,hb⟩
 have hp2:tot B4 p.2.2.2.1<=68719476736:=OI hp.sz;have hs:=hp.step (nT w) (aV w) (bC w) r inn;have hkeep:=Qa w.1 r w.2.2.2.1 (yZ w.1 w.2.2.2.2.1 r) inn p;unfold cC cC.b BX aK eG A1 A6 B6 aL aS bA bZ A0 A4 A3 A8 B0 B8;simp only[aD,Xp h.links h.dead,YB h.as (B5 h.links (by decide)) (B5 hp.sz (by decide)) hp2,aA,bB,cB,bL,bJ,bO];rw[show fwd w.1 r w.2.2.2.1 (yZ w.1 w.2.2.2.2.1 r) inn p=bM (nT w) (aV w) (bC w) r inn p from rfl]at hkeep ⊢;unfold pS;generalize bM (nT w) (aV w) (bC w) r inn p=v at hs hkeep;simp only[ZI,aD];cases c0:v.1==0
 .cases c1:v.1==1
  .cases c7:v.1==7
   .simp only[zY,aA,Cg,zU,CD];rfl
   .cases ck:p.1==1
    .simp only[zZ,zY,aA,Cg,zU,DM];rfl
    .have hn:EL (dD r (aV w) v.2.2.2 p):=bMf hz;have ht1:tot B4 (yO p)<=274877906944:=B5 (PN p) (B5 hp2 (by decide));have hlen:D (((iD (yO p)).length:Int)>1)=D ((iD (yO p)).length>1):=by rw[CG];simp only[zR,gt_iff_lt];omega
     have e1:gB w r 0 ((Ca (dD r w.2.2.2.1 v.2.2.2 p)).1,(Ca (dD r w.2.2.2.1 v.2.2.2 p)).2.1,(Ca (dD r w.2.2.2.1 v.2.2.2 p)).2.2.1,(Ca (dD r w.2.2.2.1 v.2.2.2 p)).2.2.2.2.2.2.2.2.1,(Ca (dD r w.2.2.2.1 v.2.2.2 p)).2.2.2.1,(Ca (dD r w.2.2.2.1 v.2.2.2 p)).2.2.2.2.1,(Ca (dD r w.2.2.2.1 v.2.2.2 p)).2.2.2.2.2.1,(Ca (dD r w.2.2.2.1 v.2.2.2 p)).2.2.2.2.2.2.1,(Ca (dD r w.2.2.2.1 v.2.2.2 p)).2.2.2.2.2.2.2.1,(Ca (dD r w.2.2.2.1 v.2.2.2 p)).2.2.2.2.2.2.2.2.2)=U (aN (Eh w r 0 (dD r (aV w) v.2.2.2 p))):=WK h hn rfl;have e2:kF w r ((Ca (dD r w.2.2.2.1 v.2.2.2 p)).1,(Ca (dD r w.2.2.2.1 v.2.2.2 p)).2.1,(Ca (dD r w.2.2.2.1 v.2.2.2 p)).2.2.1,(Ca (dD r w.2.2.2.1 v.2.2.2 p)).2.2.2.2.2.2.2.2.1,(Ca (dD r w.2.2.2.1 v.2.2.2 p)).2.2.2.1,(Ca (dD r w.2.2.2.1 v.2.2.2 p)).2.2.2.2.1,(Ca (dD r w.2.2.2.1 v.2.2.2 p)).2.2.2.2.2.1,(Ca (dD r w.2.2.2.1 v.2.2.2 p)).2.2.2.2.2.2.1,(Ca (dD r w.2.2.2.1 v.2.2.2 p)).2.2.2.2.2.2.2.1,(Ca (dD r w.2.2.2.1 v.2.2.2 p)).2.2.2.2.2.2.2.2.2)=U (aN (Ff w r (dD r (aV w) v.2.2.2 p))):=Xa h.flows h.flowsN hn.sz hn.by_;simp only[zZ,zY,aA,Cg,zU,EV,zV,cFq (t:=w.1) (r:=r) (now:=w.2.2.2.1) (d:=v.2.2.2) (B5 hp.sz (by decide)),bHb (iU (p:=p) (by omega)),bB,cB,bL,bJ,bO];unfold mP;simp only[Oy ht1,aA,hlen,e1,e2];unfold MS;cases hd:D ((iD (yO p)).length>1)
     .rw[zS (of_decide_eq_false hd)];rfl
     .rw[zT (of_decide_eq_true hd)];rfl
  .cases ck:p.1==1
   .simp only[zZ,zY,aA,Cg,zU,zV,Xa h.flows h.flowsN hs.sz hs.by_]
   .simp only[zZ,zY,aA,Cg,zU,zV,bM8 hbn];unfold L6;rw[hkeep.2.1];rcases Wc (cR w) r p.2.1 with hf | ⟨k,x,hf,hx⟩
    .rw[show oD w.2.2.2.2.2.2.2.1 r p.2.1= -1 from hf];rfl
    .have hlt:=(Cu.1 hx).1;have hx0:w.2.2.2.2.2.2.2.1[k]? =U x:=hx;have hxm:=hbx x (Cm hx);have hxs:Cc 137438953472 Cq x:=(bH hxm).mono (by decide);have hvs:Cc 137438953472 A9 v.2.2.1:=(bH hs.sz).mono (by decide);have hd1:D ((k:Int)<(w.2.2.2.2.2.2.2.1.length:Int))=X:=zX (by have :k<w.2.2.2.2.2.2.2.1.length:=hlt;omega);have hd2:D (k<w.2.2.2.2.2.2.2.1.length)=X:=zX hlt;have hset:(w.2.2.2.2.2.2.2.1.set k (iW x v.2.2.1))[k]? =U (iW x v.2.2.1):=List.getElem?_set_self hlt;have hba:Gp w k=x:=by unfold Gp;rw[hx];rfl
     rw[show oD w.2.2.2.2.2.2.2.1 r p.2.1=(k:Int) from hf,zW (show ¬ (k:Int)<0 by omega),zS (show ¬ (k:Int)<0 by omega),Cj,hba];have e1:gB (w.1,w.2.1,w.2.2.1,w.2.2.2.1,w.2.2.2.2.1,w.2.2.2.2.2.1,w.2.2.2.2.2.2.1,w.2.2.2.2.2.2.2.1.set k (iW x v.2.2.1),w.2.2.2.2.2.2.2.2) r 0 (xT (iW x v.2.2.1) v.2.2.1)=U (aN (Eh (Ge w k (iW x v.2.2.1)) r 0 (xT (iW x v.2.2.1) v.2.2.1))):=by
      cases ca:Hn (iW x v.2.2.1) v.2.2.1 with
      | true=>exact WK (RQ h) (Tz hs) (aZe ca)
      | false=>exact WK (RQ h) (Tz hs) (by unfold xT;rw[ca];rfl)
     simp only[zY,bF,hd1,hd2,zZ,hx0,aA,cFn hxs hvs,Ml,hset,cF9 (x:=iW x v.2.2.1) (p:=v.2.2.1) (B5 (OI hs.sz) (by decide)),bB,cB,bL,bJ,bO,GL,aD,e1];cases Hn (iW x v.2.2.1) v.2.2.1<;>rfl
 .simp only[zZ,zV,bLi h,aA]
def F9(p q:den A9):Prop:=p.2.2.2.1=q.2.2.2.1/\p.2.2.2.2.1=q.2.2.2.2.1/\p.2.2.2.2.2.1=q.2.2.2.2.2.1
theorem F9.cur{p q:den A9}(h:F9 p q):dQ p=dQ q/\fP p=fP q/\dC p=dC q/\fK p=fK q/\jK p=jK q/\oC p=oC q:=by
 obtain⟨h1,h2,h3⟩:=h;have a1:dQ p=dQ q:=by unfold dQ;rw[h1,h2,h3]
 have a2:fP p=fP q:=by unfold fP;rw[a1,h1,h2,h3]
 have a3:dC p=dC q:=by unfold dC;rw[h1,h2]
 have a4:fK p=fK q:=by unfold fK;rw[a3,h3]
 have a5:jK p=jK q:=by unfold jK;rw[a3,h3]
 exact⟨a1,a2,a3,a4,a5,by unfold oC MK;rw[a2,a5,h1,h2]⟩
theorem F9.adv{p q:den A9}(h:F9 p q):F9 (adv p) (adv q):=by
 obtain⟨a1,a2,a3,a4,a5,a6⟩:=h.cur;obtain⟨h1,h2,h3⟩:=id h;unfold Go.Proofs.YtjpmmodjpaabpaaGreat.adv;rw[a2,a5,a6];split
 .exact h
 .split
  .exact⟨h1,by show p.2.2.2.2.1+1=q.2.2.2.2.1+1;rw[h2],rfl⟩
  .exact⟨h1,h2,by show p.2.2.2.2.2.1+1=q.2.2.2.2.2.1+1;rw[h3]⟩
theorem PL(t:den B2)(p:den A9):F9 (bV t p) p:=by
 obtain⟨b,hb⟩:=UZ t p;rw[hb];exact⟨rfl,rfl,rfl⟩
theorem F9.trans{p q r:den A9}(h:F9 p q)(k:F9 q r):F9 p r:=⟨h.1.trans k.1,h.2.1.trans k.2.1,h.2.2.trans k.2.2⟩
theorem bFm{t:den B2}{now:Int}{n:Nat}{p:den A9}(h:(De t now n p).1=0):eF t now p=0:=by
 cases n with
 | zero=>exact h
 | succ n=>
  unfold De at h;split at h
  .rename_i hc;rw[Ck]at hc;simpa using hc.1
  .exact h
theorem bV2{t:den B2}{now:Int}{step:den A9->Option (den A9⊕den A9)}
  (H:∀q,tot A9 q<=274877906944->dQ q=X->step q=U (if jK q&&D (q.2.2.2.2.1<(q.2.2.2.1.length:Int) - 1) then .inl (adv q) else .inr q)):
  ∀(n:Nat) (p q:den A9),F9 p q->tot A9 q<=274877906944->(De t now n p).1=0->p.2.2.2.1.length - p.2.2.2.2.1.toNat<=n-> ∃r,aB step q=U r/\F9 (De t now n p).2 r/\tot A9 r<=274877906944:=by
 intro n
 induction n with
 | zero=>
  intro p q hs hq hc hm;obtain⟨hh,h0⟩:=Oa (bFm hc);obtain⟨i,j,h1,h2,h3,h4,h5⟩:=qJ hh;have hlt:=(Cu.1 h3).1;rw[h1,Cj]at hm;exact absurd hlt (by omega)
 | succ n ih=>
  intro p q hs hq hc hm;have hz:=bFm hc;obtain⟨hh,h0⟩:=Oa hz;obtain⟨a1,a2,a3,a4,a5,a6⟩:=hs.cur;obtain⟨b1,b2,b3,b4,b5,b6⟩:=(PL t p).cur;have hstep:=H q hq (a1▸hh);rw[bH0 (a1▸hh) (a2▸h0)]at hstep;cases hb:jK q&& !oC q with
  | false=>
   rw[hb]at hstep;have hg:De t now (n+1) p=(eF t now p,bV t p):=by
    show (if _ then _ else _)=_;rw[b5,b6,a5,a6,hb,DM];rfl
   rw[hg];exact⟨q,aH hstep,(PL t p).trans hs,hq⟩
  | true=>
   rw[hb,zT rfl]at hstep;have hg:De t now (n+1) p=De t now n (adv (bV t p)):=by
    show (if _ then _ else _)=_;rw[b5,b6,a5,a6,hb,hz];rfl
   rw[hg]at hc ⊢;rw[aO hstep];obtain⟨e1,e2⟩:=bHh (p:=bV t p) (by rw[b2];exact h0) (by rw[b5,b6,a5,a6];exact hb);obtain⟨i,j,h1,h2,h3,h4,h5⟩:=qJ hh;refine ih _ _ ((PL t p).trans hs).adv (by rw[O1];exact hq) hc ?_;rw[e1,e2,(PL t p).1,(PL t p).2.1,h1];rw[h1,Cj]at hm;have :((i:Int)+1).toNat=i+1:=by omega
   rw[this];omega
def Yj(t:den B2)(now:Int)(p:den A9):Int:=CV (dC (cV t now p).2) (fK (cV t now p).2)
theorem cHq{t:den B2}{now:Int}{p:den A9}(h:tot A9 p<=274877906944)(hz:(cV t now p).1=0):HJ p=U (Yj t now p):=by
 unfold HJ aK B6 A0 A4 A3 A8 B0 B8;obtain⟨r,hr,hs,ht⟩:=bV2 (t:=t) (now:=now) (step:=λs5=> @Option.bind Bool _ (Option.bind (idx s5.2.2.2.1 s5.2.2.2.2.1) λx6=>cond (s5.2.2.2.2.2.1==(wr ((x6.2.2.2.length:Int) - (1:Int)))) (U (D (s5.2.2.2.2.1<(wr ((s5.2.2.2.1.length:Int) - (1:Int)))))) (U Y)) λ(s7:Bool)=>cond s7 (Option.bind (kL (s5.1,s5.2.1,s5.2.2.1,s5.2.2.2.1,s5.2.2.2.2.1,s5.2.2.2.2.2.1,s5.2.2.2.2.2.2.1,s5.2.2.2.2.2.2.2.1,s5.2.2.2.2.2.2.2.2.1,s5.2.2.2.2.2.2.2.2.2)) λy8=>U (A7 (y8.1,y8.2.1,y8.2.2.1,y8.2.2.2.2.2.2.2.2.1,y8.2.2.2.1,y8.2.2.2.2.1,y8.2.2.2.2.2.1,y8.2.2.2.2.2.2.1,y8.2.2.2.2.2.2.2.1,y8.2.2.2.2.2.2.2.2.2))) (U (A2 (s5.1,s5.2.1,s5.2.2.1,s5.2.2.2.1,s5.2.2.2.2.1,s5.2.2.2.2.2.1,s5.2.2.2.2.2.2.1,s5.2.2.2.2.2.2.2.1,s5.2.2.2.2.2.2.2.2.1,s5.2.2.2.2.2.2.2.2.2)))) (λq hq hh=>by
   obtain⟨i,j,k1,k2,k3,k4,k5⟩:=qJ hh;have l1:Cr q.2.2.2.1<=549755813888:=(iU hq).2.2.2.1.1;have hp1:idx q.2.2.2.1 q.2.2.2.2.1=U (dC q):=by rw[k1,aQ];exact k3
   simp only[hp1,aA,dO (GY (iU hq) k3),dO l1,aD,YE (iU hq)];unfold jK;cases q.2.2.2.2.2.1==((dC q).2.2.2.length:Int) - 1<;>cases D (q.2.2.2.2.1<(q.2.2.2.1.length:Int) - 1)<;>rfl) _ p p ⟨rfl,rfl,rfl⟩ h hz (Cz _)
 have hs:F9 (cV t now p).2 r:=hs;have hr':aB _ (p.1,p.2.1,p.2.2.1,p.2.2.2.1,p.2.2.2.2.1,p.2.2.2.2.2.1,p.2.2.2.2.2.2.1,p.2.2.2.2.2.2.2.1,p.2.2.2.2.2.2.2.2.1,p.2.2.2.2.2.2.2.2.2)=U r:=hr;rw[hr',aA];obtain⟨a1,a2,a3,a4,a5,a6⟩:=hs.cur;obtain⟨g1,g2,g3⟩:=Qn _ p hz;have g1:dQ r=X:=a1▸g1;obtain⟨i,j,k1,k2,k3,k4,k5⟩:=qJ g1;have hp1:idx r.2.2.2.1 r.2.2.2.2.1=U (dC r):=by rw[k1,aQ];exact k3
 have hp2:fF (dC r) r.2.2.2.2.2.1=U (CV (dC r) (fK r)):=by rw[k2];exact T9 k4 (GY (iU ht) k3)
 rw[hp1,aA];simp only[aD,hp2,aA];unfold Yj;rw[a3,a4]
theorem bU5{t:den B2}{now:Int}:∀(n:Nat) (p:den A9),(De t now n p).1<=5
 | 0,p=>by
  show eF t now p<=5;unfold eF
  repeat' split
  all_goals decide
 | n+1,p=>by
  unfold De;split
  .exact bU5 n _
  .show eF t now p<=5;unfold eF
   repeat' split
   all_goals decide
theorem bUf{t:den B2}{r now dead inn:Int}{p:den A9}(h:(fwd t r now dead inn p).1=7):(cV t now p).1=0/\(fwd t r now dead inn p).2.2.2=Yj t now p:=by
 have hg:(cV t now p).1<=5:=bU5 _ p;unfold fwd at h|-;split at h
 .cases h
 .rename_i c1;rw[zS c1];split at h
  .cases h
  .rename_i c2;rw[zS c2];split at h
   .simp only at h;omega
   .rename_i c3;rw[zS c3];refine⟨by simpa using c3,?_⟩;split at h
    .split at h<;>cases h
    .rename_i c4;rw[zS c4];split at h
     .cases h
     .rename_i c5;rw[zS c5];split at h
      .rename_i c6;rw[zT c6];rfl
      .cases h
theorem kinds{p:den A9}(h:sL p=X)(h1:(p.1==1)=Y)(h2:(p.1==2)=Y):(p.1==3)=X:=by
 unfold sL at h;rw[Ck]at h;have hr:=bQ.1 h.1;have h1: ¬ p.1=(1:Int):=by simpa using h1
 have h2: ¬ p.1=(2:Int):=by simpa using h2
 have key:∀c:Int,1<=c->c<=3-> ¬ c=1-> ¬ c=2->c=3:=by intro c;omega
 have :p.1=(3:Int):=key p.1 hr.1 hr.2 h1 h2;rw[this];rfl
theorem cF4{w:den B1}{r:Int}{p:den A9}(h:Gl w)(hp:EL p)(hk:(p.1==1)=Y)(hv:(p.1==2)=Y->(p.1==3)=X):zO w r p=U (aN (Ff w r p)):=by
 unfold zO nJ.b BX aK eG A1 A6 B6 Ct aL aS A0 A4 A3 A8 B0 B8;rw[hk,zY];cases h2:p.1==2 with
 | true=>
  rw[zZ];refine bVx (w:=w) (r:=r) (p:=p) h2 h.flows h.flowsN (λk f a ha hx hm hk'=> ?_) (λa ha=> ?_)
  .obtain⟨d1,d2⟩:=SR ha hk';have hw:wr ((k:Int)+1)=((k+1:Nat):Int):=(wri (by have :=h.flowsN;omega) (by have :=h.flowsN;omega)).trans (by omega);simp only[d1,d2,bF,Cj,hx,zZ,aA,aD,bMa (Xr (h.flows f hm)),bB,cB,bL,bJ,bO,hw];unfold EK;rw[h2];cases f.1==r
   .simp only[zY,Cg,zU,aA,S4 hx]
   .simp only[zZ,zV,aA];rfl
  .show cond (D ((((aG w).length:Nat):Int)<(a.length:Int))) _ _=_;rw[ha,zW (by omega)];rfl
 | false=>
  rw[zY,hv h2,zZ];simp only[aD,Xo h2 h.flows h.flowsN hp.sz hp.by_,aA]
theorem cKc{w:den B1}{r:Int}{p:den A9}(h:Gl w)(hp:EL p)(hk:(p.1==1)=Y)(hv:(p.1==2)=Y->(p.1==3)=X):nJ w r p=U (aN (Ff w r p)):=by
 unfold nJ nJ.b BX aK eG A1 A6 B6 Ct aL aS A0 A4 A3 A8 B0 B8;rw[hk,zY];cases h2:p.1==2 with
 | true=>
  rw[zZ];refine bVx (w:=w) (r:=r) (p:=p) h2 h.flows h.flowsN (λk f a ha hx hm hk'=> ?_) (λa ha=> ?_)
  .obtain⟨d1,d2⟩:=SR ha hk';have hw:wr ((k:Int)+1)=((k+1:Nat):Int):=(wri (by have :=h.flowsN;omega) (by have :=h.flowsN;omega)).trans (by omega);simp only[d1,d2,bF,Cj,hx,zZ,aA,aD,bMa (Xr (h.flows f hm)),bB,cB,bL,bJ,bO,hw];unfold EK;rw[h2];cases f.1==r
   .simp only[zY,Cg,zU,aA,S4 hx]
   .simp only[zZ,zV,aA];rfl
  .show cond (D ((((aG w).length:Nat):Int)<(a.length:Int))) _ _=_;rw[ha,zW (by omega)];rfl
 | false=>
  rw[zY,hv h2,zZ];simp only[aD,Xo h2 h.flows h.flowsN hp.sz hp.by_,aA]
theorem Xy{w:den B1}{r inn:Int}{p:den A9}(h:Gl w)(hp:EL p)(hk:(p.1==1)=Y):jZ w r inn p=U (aN (Eh w r inn p)):=by
 have hp2:tot B4 p.2.2.2.1<=68719476736:=OI hp.sz;have hs:=hp.step (nT w) (aV w) (bC w) r inn;have hkeep:=Qa w.1 r w.2.2.2.1 (yZ w.1 w.2.2.2.2.1 r) inn p;have hval:=VG (t:=w.1) (r:=r) (now:=w.2.2.2.1) (dead:=yZ w.1 w.2.2.2.2.1 r) (inn:=inn) (p:=p);unfold jZ fQ.b aK DI eG A1 A6 aL aS bA bZ A0 A4 A3 A8 B0 B8;simp only[aD,Xl h.links h.dead,YK h.as (B5 h.links (by decide)) (B5 hp.sz (by decide)) hp2,aA,bB,cB,bL,bJ,bO,hk];rw[show fwd w.1 r w.2.2.2.1 (yZ w.1 w.2.2.2.2.1 r) inn p=bM (nT w) (aV w) (bC w) r inn p from rfl]at hkeep hval ⊢;unfold Eh;generalize bM (nT w) (aV w) (bC w) r inn p=v at hs hkeep hval;have hback:(((Dm v).2.2.1,(Dm v).2.2.2.1,(Dm v).2.2.2.2.1,(Dm v).2.2.2.2.2.2.2.2.2.2.1,(Dm v).2.2.2.2.2.1,(Dm v).2.2.2.2.2.2.1,(Dm v).2.2.2.2.2.2.2.1,(Dm v).2.2.2.2.2.2.2.2.1,(Dm v).2.2.2.2.2.2.2.2.2.1,(Dm v).2.2.2.2.2.2.2.2.2.2.2):den A9)=v.2.2.1:=rfl;rw[show (Dm v).1=v.1 from rfl,show (Dm v).2.1=v.2.1 from rfl];cases c1:v.1==1
 .cases c0:v.1==0
  .cases c7:v.1==7
   .simp only[zY,aA,Cg,zU,Ea];rfl
   .simp only[zZ,zY,aA,Cg,zU,Ea];rfl
  .unfold FA;rw[hkeep.2.2.1];simp only[zZ,zY,zV,Ji (t:=w.1) (B5 h.links (by decide)),bLo h.res h.use,aA];cases ct:(EZ w.2.2.1 p.2.2.2.2.2.2.2.1 r v.2.1 w.2.2.2.1).2.1
   .simp only[zY,aA,CD,Cg,zU,Ea];rfl
   .by_cases hl:(bS w).length<150
    .have h150:D ((w.2.2.2.2.2.1.length:Int)<150)=X:=zX (by have :w.2.2.2.2.2.1.length<150:=hl;omega);rw[zX hl];simp only[zZ,aA,h150,EV,zV,aC (b:=128) (n:=w.2.2.2.2.2.1.length) (m:=1) (by decide) (show (bS w).length+1<=_ by omega),R1];rfl
    .have h150:D ((w.2.2.2.2.2.1.length:Int)<150)=Y:=zW (by have : ¬ w.2.2.2.2.2.1.length<150:=hl;omega);rw[zW hl];simp only[zZ,zY,aA,h150,DM,Cg,zU,Ea];rfl
 .have c0:(v.1==0)=Y:=by
   have :v.1=1:=by simpa using c1
   rw[this];rfl
  have hv:sL p=X:=hval (by rw[show v.1=1 from by simpa using c1];rfl);have hq1:(v.2.2.1.1==1)=Y:=by rw[hkeep.1];exact hk
  have hq2:(v.2.2.1.1==2)=Y->(v.2.2.1.1==3)=X:=by rw[hkeep.1];exact kinds hv hk
  rw[hback,cF4 h hs hq1 hq2];simp only[c0,zZ,aA,Cg,zU,zV,R1]
theorem cJ7{w:den B1}{r:Int}{p:den A9}(h:Gl w)(hbn:(cR w).length<=549755813888)(hbx:∀x∈cR w,tot Cq x<=68719476736)(hp:EL p)(hk:(p.1==1)=X):nJ w r p=U (aN (L6 w r p)):=by
 unfold nJ nJ.b L6 BX aK eG A1 A6 B6 Ct aL aS A0 A4 A3 A8 B0 B8;simp only[hk,zZ,WJ hbn,aA];rcases Wc (cR w) r p.2.1 with hf | ⟨k,x,hf,hx⟩
 .rw[show oD w.2.2.2.2.2.2.2.1 r p.2.1= -1 from hf];rfl
 .have hlt:=(Cu.1 hx).1;have hx0:w.2.2.2.2.2.2.2.1[k]? =U x:=hx;have hxm:=hbx x (Cm hx);have hxs:Cc 137438953472 Cq x:=(bH hxm).mono (by decide);have hvs:Cc 137438953472 A9 p:=(bH hp.sz).mono (by decide);have hd1:D ((k:Int)<(w.2.2.2.2.2.2.2.1.length:Int))=X:=zX (by have :k<w.2.2.2.2.2.2.2.1.length:=hlt;omega);have hd2:D (k<w.2.2.2.2.2.2.2.1.length)=X:=zX hlt;have hba:Gp w k=x:=by unfold Gp;rw[hx];rfl
  rw[show oD w.2.2.2.2.2.2.2.1 r p.2.1=(k:Int) from hf,zW (show ¬ (k:Int)<0 by omega),zS (show ¬ (k:Int)<0 by omega),Cj,hba];have e1:jZ (w.1,w.2.1,w.2.2.1,w.2.2.2.1,w.2.2.2.2.1,w.2.2.2.2.2.1,w.2.2.2.2.2.2.1,w.2.2.2.2.2.2.2.1.set k (iW x p),w.2.2.2.2.2.2.2.2) r 0 (xT (iW x p) p)=U (aN (Eh (Ge w k (iW x p)) r 0 (xT (iW x p) p))):=by
   cases ca:Hn (iW x p) p with
   | true=>exact Xy (RQ h) (Tz hp) (aZe ca)
   | false=>exact Xy (RQ h) (Tz hp) (by unfold xT;rw[ca];rfl)
  simp only[zY,bF,hd1,hd2,zZ,hx0,aA,aD,cFp hxs hvs,cE5 (x:=iW x p) (p:=p) (B5 (OI hp.sz) (by decide)),bB,cB,bL,bJ,bO,GL,e1];cases Hn (iW x p) p<;>rfl
theorem Xt{w:den B1}{r inn:Int}{p:den A9}(h:Gl w)(hbn:(cR w).length<=549755813888)(hbx:∀x∈cR w,tot Cq x<=68719476736)(hz:tot A9 p<=34359738368)(hb:sM p):fQ w r inn p=U (aN (pS w r inn p)):=by
 have hp:EL p:=⟨by omega,hb⟩
 have hp2:tot B4 p.2.2.2.1<=68719476736:=OI hp.sz;have hs:=hp.step (nT w) (aV w) (bC w) r inn;have hkeep:=Qa w.1 r w.2.2.2.1 (yZ w.1 w.2.2.2.2.1 r) inn p;have hval:=VG (t:=w.1) (r:=r) (now:=w.2.2.2.1) (dead:=yZ w.1 w.2.2.2.2.1 r) (inn:=inn) (p:=p);have hsev:=bUf (t:=w.1) (r:=r) (now:=w.2.2.2.1) (dead:=yZ w.1 w.2.2.2.2.1 r) (inn:=inn) (p:=p);unfold fQ fQ.b aK DI eG A1 A6 aL aS bA bZ A0 A4 A3 A8 B0 B8;simp only[aD,Xl h.links h.dead,YK h.as (B5 h.links (by decide)) (B5 hp.sz (by decide)) hp2,aA,bB,cB,bL,bJ,bO];rw[show fwd w.1 r w.2.2.2.1 (yZ w.1 w.2.2.2.2.1 r) inn p=bM (nT w) (aV w) (bC w) r inn p from rfl]at hkeep hval hsev ⊢;unfold pS;generalize bM (nT w) (aV w) (bC w) r inn p=v at hs hkeep hval hsev;have hback:(((Dm v).2.2.1,(Dm v).2.2.2.1,(Dm v).2.2.2.2.1,(Dm v).2.2.2.2.2.2.2.2.2.2.1,(Dm v).2.2.2.2.2.1,(Dm v).2.2.2.2.2.2.1,(Dm v).2.2.2.2.2.2.2.1,(Dm v).2.2.2.2.2.2.2.2.1,(Dm v).2.2.2.2.2.2.2.2.2.1,(Dm v).2.2.2.2.2.2.2.2.2.2.2):den A9)=v.2.2.1:=rfl;rw[show (Dm v).1=v.1 from rfl,show (Dm v).2.1=v.2.1 from rfl];cases c1:v.1==1
 .cases c0:v.1==0
  .cases c7:v.1==7
   .simp only[zY,aA,Cg,zU,Ea,CD];rfl
   .cases ck:p.1==1
    .simp only[zZ,zY,aA,Cg,zU,Ea,DM];rfl
    .obtain⟨hz0,hd0⟩:=hsev (by simpa using c7);have hn:EL (dD r (aV w) v.2.2.2 p):=bMf hz;have ht1:tot B4 (yO p)<=274877906944:=B5 (PN p) (B5 hp2 (by decide));have hlen:D (((iD (yO p)).length:Int)>1)=D ((iD (yO p)).length>1):=by rw[CG];simp only[zR,gt_iff_lt];omega
     have e1:jZ w r 0 ((Ca (dD r w.2.2.2.1 v.2.2.2 p)).1,(Ca (dD r w.2.2.2.1 v.2.2.2 p)).2.1,(Ca (dD r w.2.2.2.1 v.2.2.2 p)).2.2.1,(Ca (dD r w.2.2.2.1 v.2.2.2 p)).2.2.2.2.2.2.2.2.1,(Ca (dD r w.2.2.2.1 v.2.2.2 p)).2.2.2.1,(Ca (dD r w.2.2.2.1 v.2.2.2 p)).2.2.2.2.1,(Ca (dD r w.2.2.2.1 v.2.2.2 p)).2.2.2.2.2.1,(Ca (dD r w.2.2.2.1 v.2.2.2 p)).2.2.2.2.2.2.1,(Ca (dD r w.2.2.2.1 v.2.2.2 p)).2.2.2.2.2.2.2.1,(Ca (dD r w.2.2.2.1 v.2.2.2 p)).2.2.2.2.2.2.2.2.2)=U (aN (Eh w r 0 (dD r (aV w) v.2.2.2 p))):=Xy h hn rfl;have e2:sN w r ((Ca (dD r w.2.2.2.1 v.2.2.2 p)).1,(Ca (dD r w.2.2.2.1 v.2.2.2 p)).2.1,(Ca (dD r w.2.2.2.1 v.2.2.2 p)).2.2.1,(Ca (dD r w.2.2.2.1 v.2.2.2 p)).2.2.2.2.2.2.2.2.1,(Ca (dD r w.2.2.2.1 v.2.2.2 p)).2.2.2.1,(Ca (dD r w.2.2.2.1 v.2.2.2 p)).2.2.2.2.1,(Ca (dD r w.2.2.2.1 v.2.2.2 p)).2.2.2.2.2.1,(Ca (dD r w.2.2.2.1 v.2.2.2 p)).2.2.2.2.2.2.1,(Ca (dD r w.2.2.2.1 v.2.2.2 p)).2.2.2.2.2.2.2.1,(Ca (dD r w.2.2.2.1 v.2.2.2 p)).2.2.2.2.2.2.2.2.2)=U (aN (Ff w r (dD r (aV w) v.2.2.2 p))):=Xo rfl h.flows h.flowsN hn.sz hn.by_;simp only[zZ,zY,aA,Cg,zU,EV,zV,cHq (t:=w.1) (now:=w.2.2.2.1) (p:=p) (B5 hp.sz (by decide)) hz0,<- hd0,cFd (t:=w.1) (r:=r) (now:=w.2.2.2.1) (d:=v.2.2.2) (B5 hp.sz (by decide)),bHr (iU (p:=p) (by omega)),bB,cB,bL,bJ,bO,O6 ht1,hlen,e1,e2];unfold MS;cases hd:D ((iD (yO p)).length>1)
     .rw[zS (of_decide_eq_false hd)];rfl
     .rw[zT (of_decide_eq_true hd)];rfl
  .unfold FA;rw[hkeep.2.2.1];simp only[zZ,zY,zV,Ji (t:=w.1) (B5 h.links (by decide)),bLo h.res h.use,aA];cases ct:(EZ w.2.2.1 p.2.2.2.2.2.2.2.1 r v.2.1 w.2.2.2.1).2.1
   .simp only[zY,aA,CD,Cg,zU,Ea];rfl
   .by_cases hl:(bS w).length<150
    .have h150:D ((w.2.2.2.2.2.1.length:Int)<150)=X:=zX (by have :w.2.2.2.2.2.1.length<150:=hl;omega);rw[zX hl];simp only[zZ,aA,h150,EV,zV,aC (b:=128) (n:=w.2.2.2.2.2.1.length) (m:=1) (by decide) (show (bS w).length+1<=_ by omega),R1];rfl
    .have h150:D ((w.2.2.2.2.2.1.length:Int)<150)=Y:=zW (by have : ¬ w.2.2.2.2.2.1.length<150:=hl;omega);rw[zW hl];simp only[zZ,zY,aA,h150,DM,Cg,zU,Ea];rfl
 .have c0:(v.1==0)=Y:=by
   have :v.1=1:=by simpa using c1
   rw[this];rfl
  have hv:sL p=X:=hval (by rw[show v.1=1 from by simpa using c1];rfl);rw[hback];cases ck:p.1==1 with
  | true=>
   rw[cJ7 h hbn hbx hs (by rw[hkeep.1];exact ck)];simp only[c0,zZ,aA,Cg,zU,zV,R1]
  | false=>
   have hq1:(v.2.2.1.1==1)=Y:=by rw[hkeep.1];exact ck
   have hq2:(v.2.2.1.1==2)=Y->(v.2.2.1.1==3)=X:=by rw[hkeep.1];exact kinds hv ck
   rw[cKc h hs hq1 hq2];simp only[c0,zZ,aA,Cg,zU,zV,R1]
theorem dX(w:den B1):tot B1 w=(tot (.sl CN) (nT w).1+tot (.sl C8) (nT w).2)+((tot (.sl B9) (nK w).1+tot (.sl B9) (nK w).2)+((0+(tot (.sl C9) (nG w).2.1+tot (.sl CW) (nG w).2.2))+(0+(tot (.sl ti) (bC w)+(tot (.sl C5) (bS w)+(tot (.sl B7) (aG w)+(tot (.sl Cq) (cR w)+0))))))):=rfl
theorem Qh{w:den B1}(h:tot B1 w<=68719476736):Gl w where
 as:=by have :=dX w;have :=cO (t:=CN) (nT w).1;omega
 links:=by have :=dX w;have :=cO (t:=C8) (nT w).2;omega
 dead:=by have :=dX w;have :=cO (t:=ti) (bC w);omega
 res:=by have :=dX w;have :=cO (t:=C9) (nG w).2.1;omega
 use:=by have :=dX w;have :=cO (t:=CW) (nG w).2.2;omega
 flowsN:=by have :=dX w;have :=cO (t:=B7) (aG w);omega
 flows:=λf hf=>by have :=dX w;have :=kE (t:=B7) hf;omega
theorem cK6{w:den B1}(h:tot B1 w<=68719476736):(cR w).length<=549755813888/\ ∀x∈cR w,tot Cq x<=68719476736:=
 ⟨by have :=dX w;have :=cO (t:=Cq) (cR w);omega,λx hx=>by have :=dX w;have :=kE (t:=Cq) hx;omega⟩
theorem PW(w:den B1):tot B1 (Ir w)=tot B1 w:=rfl
theorem bMp(l:Dk):tot (.sl CW) l=l.length:=qW rfl
theorem bU7(g:den Dh)(id s d now:Int):tot (.sl C9) (EZ g id s d now).2.2.1=tot (.sl C9) g.2.1/\tot (.sl CW) (EZ g id s d now).2.2.2<=tot (.sl CW) g.2.2+1:=by
 have m1:=bFl g.2.2 id s d;have m2:=bFl g.2.2 0 s d;rw[bMp,bMp];unfold EZ;split
 .exact⟨rfl,by simpa using m1⟩
 .split
  .exact⟨rfl,by simpa using m2⟩
  .exact⟨rfl,by simp⟩
theorem bE7(w:den B1)(r eg:Int)(p:den A9):tot B1 (FA w r eg p)<=tot B1 w+(2+tot A9 p):=by
 unfold FA;split
 .obtain⟨e1,e2⟩:=bU7 (nG w) p.2.2.2.2.2.2.2.1 r eg (aV w);rw[dX,dX w];simp only[nT,nK,nG,bC,bS,aG,cR]at e1 e2 ⊢;rw[wA,Lk];have e3:tot C5 ((remote w.1 r eg).1,(remote w.1 r eg).2,p)=tot A9 p:=by simp[sI,vZ]
  rw[e3];omega
 .rw[PW];omega
theorem bSh(f:den B7)(p:den A9):tot B7 (Ha f p)=tot B7 f:=by
 unfold Ha;split<;>rfl
theorem bTf(r:Int)(p:den A9)(f:den B7):tot B7 (EK r p f)<=tot B7 f+1:=by
 unfold EK;split
 .split
  .rw[bSh];omega
  .exact bTl f p
 .omega
theorem bMh(r:Int)(p:den A9):∀l:CK,tot (.sl B7) (l.map (EK r p))<=tot (.sl B7) l+l.length
 | []=>by simp
 | f::l=>by
  have h1:=bTf r p f;have h2:=bMh r p l;rw[CA,kD,kD,C6];omega
theorem R9(w:den B1)(l:CK):tot B1 (gZ w l)=(tot (.sl CN) (nT w).1+tot (.sl C8) (nT w).2)+((tot (.sl B9) (nK w).1+tot (.sl B9) (nK w).2)+((0+(tot (.sl C9) (nG w).2.1+tot (.sl CW) (nG w).2.2))+(0+(tot (.sl ti) (bC w)+(tot (.sl C5) (bS w)+(tot (.sl B7) l+(tot (.sl Cq) (cR w)+0))))))):=rfl
theorem bRp(w:den B1)(k:Nat)(x:den Cq):tot B1 (Ge w k x)=(tot (.sl CN) (nT w).1+tot (.sl C8) (nT w).2)+((tot (.sl B9) (nK w).1+tot (.sl B9) (nK w).2)+((0+(tot (.sl C9) (nG w).2.1+tot (.sl CW) (nG w).2.2))+(0+(tot (.sl ti) (bC w)+(tot (.sl C5) (bS w)+(tot (.sl B7) (aG w)+(tot (.sl Cq) ((cR w).set k x)+0))))))):=rfl
theorem V2(w:den B1)(r:Int)(p:den A9):tot B1 (Ff w r p)<=tot B1 w+(aG w).length:=by
 have h:=bMh r p (aG w);unfold Ff;rw[R9,dX w];omega
theorem bFq(w:den B1)(r inn:Int)(p:den A9):tot B1 (Eh w r inn p)<=tot B1 w+(2+tot A9 p+(aG w).length):=by
 unfold Eh;split
 .have :=bE7 w r (bM (nT w) (aV w) (bC w) r inn p).2.1 (bM (nT w) (aV w) (bC w) r inn p).2.2.1;have e:tot A9 (bM (nT w) (aV w) (bC w) r inn p).2.2.1=tot A9 p:=Qs _ _ _ _ _ _;omega
 .split
  .have :=V2 w r (bM (nT w) (aV w) (bC w) r inn p).2.2.1;omega
  .rw[PW];omega
theorem SD{t:Ty}{l:List (den t)}{k:Nat}{x y:den t}(h:l[k]? =U x):tot (.sl t) (l.set k y)+tot t x=tot (.sl t) l+tot t y:=by
 induction l generalizing k with
 | nil=>cases h
 | cons z l ih=>
  cases k with
  | zero=>
   have :z=x:=by simpa using h
   subst this;rw[List.set_cons_zero,kD,kD];omega
  | succ k=>
   have :=ih (k:=k) (by simpa using h);rw[List.set_cons_succ,kD,kD];omega
theorem bT9(x:den Cq)(p:den A9):tot Cq (iW x p)<=tot Cq x+(1+tot A9 p):=by
 have h1:=bVk x p;have h2:=(SQ (p:=p) (Cz _)).2;have e:∀y:den Cq,tot Cq y=tot (.sl Dd) y.2.2.2:=λy=>by simp[sI,vZ]
 rw[e,e];omega
theorem bSq(w:den B1)(r:Int)(p:den A9):tot B1 (L6 w r p)<=tot B1 w+(3+2 * tot A9 p+(aG w).length):=by
 unfold L6;split
 .omega
 .rcases Wc (cR w) r p.2.1 with hf | ⟨k,x,hf,hx⟩
  .rename_i hc;rw[hf]at hc;exact absurd (by decide) hc
  .have hba:Gp w k=x:=by unfold Gp;rw[hx];rfl
   rw[hf,Cj,hba];have h1:=SD (t:=Cq) (y:=iW x p) hx;have h2:=bT9 x p;have h3:tot B1 (Ge w k (iW x p))<=tot B1 w+(1+tot A9 p):=by
    rw[bRp,dX w];omega
   split
   .have h4:=bFq (Ge w k (iW x p)) r 0 (xT (iW x p) p);have h5:=bFo (iW x p) p;have h6:(aG (Ge w k (iW x p))).length=(aG w).length:=rfl;omega
   .omega
theorem bWn(w:den B1)(r d:Int)(p:den A9):tot B1 (MS w r d p)<=tot B1 w+(20+tot A9 p+(aG w).length):=by
 unfold MS;rw[PW];split
 .have h1:=bFq w r 0 (dD r (aV w) d p);have h2:=bD0 r (aV w) d p;omega
 .have :=V2 w r (dD r (aV w) d p);omega
theorem bSc(w:den B1)(r inn:Int)(p:den A9):tot B1 (pS w r inn p)<=tot B1 w+(20+2 * tot A9 p+(aG w).length):=by
 have e:tot A9 (bM (nT w) (aV w) (bC w) r inn p).2.2.1=tot A9 p:=Qs _ _ _ _ _ _;unfold pS;split
 .have :=bE7 w r (bM (nT w) (aV w) (bC w) r inn p).2.1 (bM (nT w) (aV w) (bC w) r inn p).2.2.1;omega
 .split
  .split
   .have :=bSq w r (bM (nT w) (aV w) (bC w) r inn p).2.2.1;omega
   .have :=V2 w r (bM (nT w) (aV w) (bC w) r inn p).2.2.1;omega
  .split
   .have :=bWn w r (bM (nT w) (aV w) (bC w) r inn p).2.2.2 p;omega
   .rw[PW];omega
theorem XP{w:den B1}(h:tot B1 w<=549755813888):Cc 549755813888 B1 w:=bH h
def hO(w:den B1):q6:=
 ((nT w).1,(nT w).2,(nK w).1,(nK w).2,(nG w).1,(nG w).2.1,(nG w).2.2,aV w,bC w,qP w,bS w,aG w,cR w)
theorem bV9{p:den Cb}(h:FF p=X):tot Cb p<=8:=by
 unfold FF J9 at h;simp only[Ck,zR]at h;have e:tot Cb p=tot (.sl cH) p.2.2.2:=by simp[sI,vZ]
 rw[e,qW rfl];exact h.2.2.2.1
theorem bX5{p:den B4}(h:Ho p=X):tot B4 p<=27:=by
 unfold Ho at h;rw[Ck,zR]at h;have key:∀l:Ci,l.all FF=X->tot (.sl Cb) l<=9 * l.length:=by
  intro l
  induction l with
  | nil=>intro _;exact Cz _
  | cons x l ih=>
   intro hl;rw[Mk,Ck]at hl;have h1:=bV9 hl.1;have h2:=ih hl.2;rw[kD,C6];omega
 have :=key p h.2;have h1:Cr p<=3:=h.1;show tot (.sl Cb) p<=27;omega
theorem aZc{p:den A9}(h:sL p=X):tot A9 p<=67:=by
 have h':=h;unfold sL at h';simp only[Ck,zR]at h';have h1:=bX5 h'.2.1;have h2:p.2.2.2.2.2.2.2.2.2.length<=40:=by have :=h'.2.2.2.2.2.2.2.2.2;omega
 have e:tot A9 p=tot B4 p.2.2.2.1+tot (.sl tb) p.2.2.2.2.2.2.2.2.2:=by simp[sI,vZ]
 rw[e,qW (t:=tb) rfl];omega
theorem bVa{w:den B1}{r inn:Int}{p:den A9}(h:sL p=Y):pS w r inn p=Ir w:=by
 have hv:bM (nT w) (aV w) (bC w) r inn p=(2,0,p,0):=by
  unfold bM fwd;rw[h];rfl
 unfold pS;rw[hv];rfl
theorem aZw(w:den B1)(r inn:Int)(p:den A9):tot B1 (pS w r inn p)<=tot B1 w+(160+(aG w).length):=by
 cases h:sL p with
 | true=>
  have h1:=bSc w r inn p;have h2:=aZc h;omega
 | false=>rw[bVa h,PW];omega
structure tB (w:den B1):Prop where
 fly:∀x∈bS w,sM x.2.2
 msg:∀f∈aG w,∀m∈f.2.2.2.2.1,Gg m
theorem bBd{w:den B1}(h:tB w){r eg:Int}{p:den A9}(hp:sM p):tB (FA w r eg p)/\(aG (FA w r eg p)).length=(aG w).length:=by
 unfold FA;split
 .refine⟨⟨λx hx=> ?_,h.msg⟩,rfl⟩;rcases C0.1 (show x∈bS w++_ from hx) with hx | hx
  .exact h.fly x hx
  .have :x=_:=Cy.1 hx;subst this;exact hp
 .exact⟨⟨h.fly,h.msg⟩,rfl⟩
theorem bTm(r:Int)(p:den A9)(f:den B7):(EK r p f).2.2.2.2.1=f.2.2.2.2.1:=by
 unfold EK;split
 .split
  .exact (bKz f p).1
  .unfold L3;cases p.1==3&&(DY p.2.2.2.2.2.2.2.2.2).2.2.2<;>rfl
 .rfl
theorem Vt{w:den B1}(h:tB w)(r:Int)(p:den A9):tB (Ff w r p)/\(aG (Ff w r p)).length=(aG w).length:=by
 refine⟨⟨h.fly,λf hf m hm=> ?_⟩,by show ((aG w).map _).length=_;simp⟩;obtain⟨g,hg,rfl⟩:=Ch.1 (show f∈(aG w).map (EK r p) from hf);rw[bTm]at hm;exact h.msg g hg m hm
theorem RI{w:den B1}(h:tB w):tB (Ir w)/\(aG (Ir w)).length=(aG w).length:=⟨⟨h.fly,h.msg⟩,rfl⟩
theorem aWp{w:den B1}(h:tB w)(k:Nat)(x:den Cq):tB (Ge w k x)/\(aG (Ge w k x)).length=(aG w).length:=⟨⟨h.fly,h.msg⟩,rfl⟩
theorem aWl{t:den B2}{now:Int}{dead:List Int}{r inn:Int}{p:den A9}(hp:sM p):sM (bM t now dead r inn p).2.2.1:=λx hx=>hp x (by unfold bM at hx;rwa [(Qa t r now _ inn p).2.2.2]at hx)
theorem bA1{w:den B1}(h:tB w){r inn:Int}{p:den A9}(hp:sM p):tB (Eh w r inn p)/\(aG (Eh w r inn p)).length=(aG w).length:=by
 unfold Eh;split
 .exact bBd h (aWl hp)
 .split
  .exact Vt h _ _
  .exact RI h
theorem Vo{w:den B1}(h:tB w){r inn:Int}{p:den A9}(hp:sM p):tB (pS w r inn p)/\(aG (pS w r inn p)).length=(aG w).length:=by
 unfold pS;split
 .exact bBd h (aWl hp)
 .split
  .split
   .unfold L6;split
    .exact⟨h,rfl⟩
    .split
     .obtain⟨h1,h2⟩:=aWp h (oD (cR w) r (bM (nT w) (aV w) (bC w) r inn p).2.2.1.2.1).toNat (iW (Gp w (oD (cR w) r (bM (nT w) (aV w) (bC w) r inn p).2.2.1.2.1).toNat) (bM (nT w) (aV w) (bC w) r inn p).2.2.1);obtain⟨h3,h4⟩:=bA1 h1 (r:=r) (inn:=0) (p:=xT (iW (Gp w (oD (cR w) r (bM (nT w) (aV w) (bC w) r inn p).2.2.1.2.1).toNat) (bM (nT w) (aV w) (bC w) r inn p).2.2.1) (bM (nT w) (aV w) (bC w) r inn p).2.2.1) (by
       unfold xT;split
       .exact λx hx=>by cases hx
       .exact λx hx=>by cases hx)
      exact⟨h3,h4.trans h2⟩
     .exact aWp h _ _
   .exact Vt h _ _
  .split
   .unfold MS;split
    .obtain⟨h1,h2⟩:=bA1 h (r:=r) (inn:=0) (p:=dD r (aV w) (bM (nT w) (aV w) (bC w) r inn p).2.2.2 p) (aYv _);obtain⟨h3,h4⟩:=RI h1;exact⟨h3,h4.trans h2⟩
    .obtain⟨h1,h2⟩:=Vt h r (dD r (aV w) (bM (nT w) (aV w) (bC w) r inn p).2.2.2 p);obtain⟨h3,h4⟩:=RI h1;exact⟨h3,h4.trans h2⟩
   .exact RI h
def bR(w:den B1)(l:CR):den B1:=(nT w,nK w,nG w,aV w,bC w,l,aG w,cR w,qP w)
def dG(x:den C5)(w:den B1):q25:=
 (x.1,x.2.1,x.2.2.1,x.2.2.2.1,x.2.2.2.2.1,x.2.2.2.2.2.1,x.2.2.2.2.2.2.1,x.2.2.2.2.2.2.2.1,x.2.2.2.2.2.2.2.2.1,x.2.2.2.2.2.2.2.2.2.1,x.2.2.2.2.2.2.2.2.2.2.1,x.2.2.2.2.2.2.2.2.2.2.2,aN w)
theorem cG4{w:den B1}{x:den C5}(hx:(bS w)[0]? =U x)(hl:(bS w).length<=68719476736):gR w 0=U (dG x (bR w ((bS w).drop 1))):=by
 have hlt:0<(bS w).length:=(Cu.1 hx).1;have hx:w.2.2.2.2.2.1[(0:Int).toNat]? =U x:=hx;have h1:D ((0:Int)<(w.2.2.2.2.2.1.length:Int))=X:=zX (by have :0<w.2.2.2.2.2.1.length:=hlt;omega);have e1:wr ((0:Int)+1)=((1:Nat):Int):=rfl;have h2:bG ((1:Nat):Int) (w.2.2.2.2.2.1.length:Int) (w.2.2.2.2.2.1.length:Int)=X:=wS (show 1<=w.2.2.2.2.2.1.length from hlt);have h3:bG (0:Int) (0:Int) (w.2.2.2.2.2.1.length:Int)=X:=GS (k:=0) (C3 _);have h4:cut w.2.2.2.2.2.1 (0:Int) (0:Int)=[]:=by simp[cut]
 have hl:w.2.2.2.2.2.1.length<=68719476736:=hl;unfold gR BX aK aS bA A0 A4 A3 A8 B0 B8;simp only[h1,hx,aA,zZ,e1,h2,h3,h4,HS,CU,CE,aC (b:=128) (n:=0) (m:=0) (by decide) (by decide),aC (b:=128) (n:=0) (m:=(w.2.2.2.2.2.1.drop 1).length) (by decide) (by simp;omega),zX (show (0:Int)<=0 from Int.le_refl _)];rfl
theorem cIx{w:den B1}{x:den C5}(hx:(bS w)[0]? =U x)(hl:(bS w).length<=68719476736):sQ w 0=U (dG x (bR w ((bS w).drop 1))):=by
 have hlt:0<(bS w).length:=(Cu.1 hx).1;have hx:w.2.2.2.2.2.1[(0:Int).toNat]? =U x:=hx;have h1:D ((0:Int)<(w.2.2.2.2.2.1.length:Int))=X:=zX (by have :0<w.2.2.2.2.2.1.length:=hlt;omega);have e1:wr ((0:Int)+1)=((1:Nat):Int):=rfl;have h2:bG ((1:Nat):Int) (w.2.2.2.2.2.1.length:Int) (w.2.2.2.2.2.1.length:Int)=X:=wS (show 1<=w.2.2.2.2.2.1.length from hlt);have h3:bG (0:Int) (0:Int) (w.2.2.2.2.2.1.length:Int)=X:=GS (k:=0) (C3 _);have h4:cut w.2.2.2.2.2.1 (0:Int) (0:Int)=[]:=by simp[cut]
 have hl:w.2.2.2.2.2.1.length<=68719476736:=hl;unfold sQ BX aK aS bA A0 A4 A3 A8 B0 B8;simp only[h1,hx,aA,zZ,e1,h2,h3,h4,HS,CU,CE,aC (b:=128) (n:=0) (m:=0) (by decide) (by decide),aC (b:=128) (n:=0) (m:=(w.2.2.2.2.2.1.drop 1).length) (by decide) (by simp;omega),zX (show (0:Int)<=0 from Int.le_refl _)];rfl
theorem Vj(w:den B1)(l:CR):tot B1 (bR w l)+tot (.sl C5) (bS w)=tot B1 w+tot (.sl C5) l:=by
 have e:tot B1 (bR w l)=(tot (.sl CN) (nT w).1+tot (.sl C8) (nT w).2)+((tot (.sl B9) (nK w).1+tot (.sl B9) (nK w).2)+((0+(tot (.sl C9) (nG w).2.1+tot (.sl CW) (nG w).2.2))+(0+(tot (.sl ti) (bC w)+(tot (.sl C5) l+(tot (.sl B7) (aG w)+(tot (.sl Cq) (cR w)+0))))))):=rfl;rw[e,dX w];omega
def Fn(w:den B1):den B1:=match bS w with
 | []=>w
 | x::l=>pS (bR w l) x.1 x.2.1 x.2.2
def Iy:Nat->den B1->den B1
 | 0,w=>w
 | n+1,w=>match bS w with
  | []=>w
  | _::_=>Iy n (Fn w)
structure fJ (B F:Nat) (w:den B1):Prop where
 tot:Go.V.tot B1 w<=B
 flows:(aG w).length<=F
 bytes:tB w
theorem fJ.mono{B C F:Nat}{w:den B1}(h:fJ B F w)(hb:B<=C):fJ C F w:=⟨B5 h.tot hb,h.flows,h.bytes⟩
theorem cFc{w:den B1}{x:den C5}{l:CR}(h:bS w=x::l):tot B1 (bR w l)+(1+tot A9 x.2.2)=tot B1 w:=by
 have h1:=Vj w l;rw[h,kD]at h1;have e:tot C5 x=tot A9 x.2.2:=by simp[sI,vZ]
 rw[e]at h1;omega
theorem Wq{B F:Nat}{w:den B1}{x:den C5}{l:CR}(hk:fJ B F w)(h:bS w=x::l):fJ B F (bR w l)/\tot A9 x.2.2<=B/\sM x.2.2:=by
 have h1:=cFc h;have h2:=hk.tot;refine⟨⟨by omega,hk.flows,⟨λy hy=>hk.bytes.fly y (by rw[h];exact C1 _ hy),hk.bytes.msg⟩⟩,by omega,hk.bytes.fly x (by rw[h];exact List.mem_cons_self ..)⟩
theorem aZf{B F:Nat}{w:den B1}(hk:fJ B F w){r inn:Int}{p:den A9}(hp:sM p):fJ (B+(160+F)) F (pS w r inn p):=by
 obtain⟨h1,h2⟩:=Vo hk.bytes (r:=r) (inn:=inn) hp;have h3:=aZw w r inn p;have h4:=hk.tot;have h5:=hk.flows;exact⟨by omega,by omega,h1⟩
theorem bE6{B F:Nat}{w:den B1}(hk:fJ B F w):fJ (B+(160+F)) F (Fn w):=by
 unfold Fn;split
 .exact hk.mono (by omega)
 .rename_i x l h;obtain⟨h1,h2,h3⟩:=Wq hk h;exact aZf h1 h3
theorem bD4{F:Nat}:∀(n:Nat) {B:Nat} {w:den B1},fJ B F w->fJ (B+n * (160+F)) F (Iy n w)
 | 0,B,w,hk=>hk.mono (by omega)
 | n+1,B,w,hk=>by
  unfold Iy;split
  .exact hk.mono (by omega)
  .have :=bD4 n (bE6 hk);refine this.mono ?_;rw[CZ];omega
theorem bJt{F:Nat}{S R:Type}(enc:Nat->den B1->S)(out:den B1->R)(N:Nat){step:S->Option (S⊕R)}
  (H1:∀(k:Nat) (w:den B1) (x:den C5) (l:CR),k<N->bS w=x::l->fJ 34359738368 F w->step (enc k w)=U (.inl (enc (k+1) (Fn w))))
  (H2:∀(k:Nat) (w:den B1),(k=N\/bS w=[])->step (enc k w)=U (.inr (out w))):
  ∀(m k B:Nat) (w:den B1),k+m=N->fJ B F w->B+m * (160+F)<=34359738368->aB step (enc k w)=U (out (Iy m w)):=by
 intro m
 induction m with
 | zero=>intro k B w hk hw hB;exact aH (H2 k w (.inl (by omega)))
 | succ m ih=>
  intro k B w hk hw hB;unfold Iy;split
  .rename_i h;exact aH (H2 k w (.inr h))
  .rename_i x l h;rw[CZ]at hB;rw[aO (H1 k w x l (by omega) h (hw.mono (by omega)))];exact ih (k+1) _ _ (by omega) (bE6 hw) (by omega)
theorem Jw{B F:Nat}{w:den B1}(h:fJ B F w)(hB:B<=68719476736):Gl w/\(cR w).length<=549755813888/\ ∀x∈cR w,tot Cq x<=68719476736:=
 ⟨Qh (B5 h.tot hB),cK6 (B5 h.tot hB)⟩
theorem MJ{B F:Nat}{w:den B1}(h:fJ B F w)(hB:B<=68719476736):(bS w).length<=68719476736:=by
 have :=dX w;have :=cO (t:=C5) (bS w);have :=h.tot;omega
theorem cLh{F:Nat}{w:den B1}{x:den C5}{l:CR}(h:bS w=x::l)(hk:fJ 34359738368 F w):gR (((aN w).2.2.2.1,(aN w).2.2.2.2.1),((aN w).2.2.2.2.2.1,(aN w).2.2.2.2.2.2.1),((aN w).2.2.2.2.2.2.2.1,(aN w).2.2.2.2.2.2.2.2.1,(aN w).2.2.2.2.2.2.2.2.2.1),(aN w).2.2.2.2.2.2.2.2.2.2.1,(aN w).2.2.2.2.2.2.2.2.2.2.2.1,(aN w).1,(aN w).2.1,(aN w).2.2.1,(aN w).2.2.2.2.2.2.2.2.2.2.2.2) 0=U (dG x (bR w l))/\cC (((dG x (bR w l)).2.2.2.2.2.2.2.2.2.2.2.2.2.2.2.1,(dG x (bR w l)).2.2.2.2.2.2.2.2.2.2.2.2.2.2.2.2.1),((dG x (bR w l)).2.2.2.2.2.2.2.2.2.2.2.2.2.2.2.2.2.1,(dG x (bR w l)).2.2.2.2.2.2.2.2.2.2.2.2.2.2.2.2.2.2.1),((dG x (bR w l)).2.2.2.2.2.2.2.2.2.2.2.2.2.2.2.2.2.2.2.1,(dG x (bR w l)).2.2.2.2.2.2.2.2.2.2.2.2.2.2.2.2.2.2.2.2.1,(dG x (bR w l)).2.2.2.2.2.2.2.2.2.2.2.2.2.2.2.2.2.2.2.2.2.1),(dG x (bR w l)).2.2.2.2.2.2.2.2.2.2.2.2.2.2.2.2.2.2.2.2.2.2.1,(dG x (bR w l)).2.2.2.2.2.2.2.2.2.2.2.2.2.2.2.2.2.2.2.2.2.2.2.1,(dG x (bR w l)).2.2.2.2.2.2.2.2.2.2.2.2.1,(dG x (bR w l)).2.2.2.2.2.2.2.2.2.2.2.2.2.1,(dG x (bR w l)).2.2.2.2.2.2.2.2.2.2.2.2.2.2.1,(dG x (bR w l)).2.2.2.2.2.2.2.2.2.2.2.2.2.2.2.2.2.2.2.2.2.2.2.2) (dG x (bR w l)).1 (dG x (bR w l)).2.1 ((dG x (bR w l)).2.2.1,(dG x (bR w l)).2.2.2.1,(dG x (bR w l)).2.2.2.2.1,(dG x (bR w l)).2.2.2.2.2.1,(dG x (bR w l)).2.2.2.2.2.2.1,(dG x (bR w l)).2.2.2.2.2.2.2.1,(dG x (bR w l)).2.2.2.2.2.2.2.2.1,(dG x (bR w l)).2.2.2.2.2.2.2.2.2.1,(dG x (bR w l)).2.2.2.2.2.2.2.2.2.2.1,(dG x (bR w l)).2.2.2.2.2.2.2.2.2.2.2.1)=U (aN (Fn w)):=by
 have hx:(bS w)[0]? =U x:=by rw[h];rfl
 have hd:(bS w).drop 1=l:=by rw[h];rfl
 obtain⟨k1,k2,k3⟩:=Wq hk h;obtain⟨n1,n2,n3⟩:=Jw k1 (by decide);refine⟨?_,?_⟩
 .have :=cG4 (w:=w) hx (MJ hk (by decide));rw[hd]at this;exact this
 .have e:Fn w=pS (bR w l) x.1 x.2.1 x.2.2:=by unfold Fn;rw[h]
  rw[e];exact WE (w:=bR w l) n1 n2 n3 k2 k3
theorem cL4{F:Nat}{w:den B1}{x:den C5}{l:CR}(h:bS w=x::l)(hk:fJ 34359738368 F w):sQ (((aN w).2.2.2.1,(aN w).2.2.2.2.1),((aN w).2.2.2.2.2.1,(aN w).2.2.2.2.2.2.1),((aN w).2.2.2.2.2.2.2.1,(aN w).2.2.2.2.2.2.2.2.1,(aN w).2.2.2.2.2.2.2.2.2.1),(aN w).2.2.2.2.2.2.2.2.2.2.1,(aN w).2.2.2.2.2.2.2.2.2.2.2.1,(aN w).1,(aN w).2.1,(aN w).2.2.1,(aN w).2.2.2.2.2.2.2.2.2.2.2.2) 0=U (dG x (bR w l))/\fQ (((dG x (bR w l)).2.2.2.2.2.2.2.2.2.2.2.2.2.2.2.1,(dG x (bR w l)).2.2.2.2.2.2.2.2.2.2.2.2.2.2.2.2.1),((dG x (bR w l)).2.2.2.2.2.2.2.2.2.2.2.2.2.2.2.2.2.1,(dG x (bR w l)).2.2.2.2.2.2.2.2.2.2.2.2.2.2.2.2.2.2.1),((dG x (bR w l)).2.2.2.2.2.2.2.2.2.2.2.2.2.2.2.2.2.2.2.1,(dG x (bR w l)).2.2.2.2.2.2.2.2.2.2.2.2.2.2.2.2.2.2.2.2.1,(dG x (bR w l)).2.2.2.2.2.2.2.2.2.2.2.2.2.2.2.2.2.2.2.2.2.1),(dG x (bR w l)).2.2.2.2.2.2.2.2.2.2.2.2.2.2.2.2.2.2.2.2.2.2.1,(dG x (bR w l)).2.2.2.2.2.2.2.2.2.2.2.2.2.2.2.2.2.2.2.2.2.2.2.1,(dG x (bR w l)).2.2.2.2.2.2.2.2.2.2.2.2.1,(dG x (bR w l)).2.2.2.2.2.2.2.2.2.2.2.2.2.1,(dG x (bR w l)).2.2.2.2.2.2.2.2.2.2.2.2.2.2.1,(dG x (bR w l)).2.2.2.2.2.2.2.2.2.2.2.2.2.2.2.2.2.2.2.2.2.2.2.2) (dG x (bR w l)).1 (dG x (bR w l)).2.1 ((dG x (bR w l)).2.2.1,(dG x (bR w l)).2.2.2.1,(dG x (bR w l)).2.2.2.2.1,(dG x (bR w l)).2.2.2.2.2.1,(dG x (bR w l)).2.2.2.2.2.2.1,(dG x (bR w l)).2.2.2.2.2.2.2.1,(dG x (bR w l)).2.2.2.2.2.2.2.2.1,(dG x (bR w l)).2.2.2.2.2.2.2.2.2.1,(dG x (bR w l)).2.2.2.2.2.2.2.2.2.2.1,(dG x (bR w l)).2.2.2.2.2.2.2.2.2.2.2.1)=U (aN (Fn w)):=by
 have hx:(bS w)[0]? =U x:=by rw[h];rfl
 have hd:(bS w).drop 1=l:=by rw[h];rfl
 obtain⟨k1,k2,k3⟩:=Wq hk h;obtain⟨n1,n2,n3⟩:=Jw k1 (by decide);refine⟨?_,?_⟩
 .have :=cIx (w:=w) hx (MJ hk (by decide));rw[hd]at this;exact this
 .have e:Fn w=pS (bR w l) x.1 x.2.1 x.2.2:=by unfold Fn;rw[h]
  rw[e];exact Xt (w:=bR w l) n1 n2 n3 k2 k3
theorem cLz{F:Nat}{w:den B1}{n:Int}{B:Nat}(h0:0<=n)(hn:n<=1000000)(hk:fJ B F w)(hB:B+n.toNat * (160+F)<=34359738368):jV w n=U (aN (Iy n.toNat w)):=by
 unfold jV eG aS bA bZ dS oF zA zE zH D2 D1 E4 GB Gz GD G6 A0 A4 A3 A8 B0 B8;refine bJt (F:=F) (λk w=>((k:Int),aN w)) aN n.toNat (λk w x l hk' hx hw=> ?_) (λk w hk'=> ?_) n.toNat 0 B w (Dc _) hk hB
 .obtain⟨e1,e2⟩:=cLh hx hw;have hd:D ((k:Int)<n)=X:=zX (by omega);have hp:D (((aN w).1.length:Int)>0)=X:=by rw[show (aN w).1=bS w from rfl,hx];simp
  have hwr:wr ((k:Int)+1)=((k+1:Nat):Int):=(wri (by omega) (by omega)).trans (by omega);simp only[hd,hp,zZ,aA,e1,e2,hwr]
 .rcases hk' with rfl | h
  .have hd:D (((n.toNat:Nat):Int)<n)=Y:=zW (by omega);simp only[hd,zY,aA]
  .have hp:D (((aN w).1.length:Int)>0)=Y:=by rw[show (aN w).1=bS w from rfl,h];rfl
   simp only[hp,aA];cases D ((k:Int)<n)<;>rfl
def cD1:den yP:=(2,0,[],(0,0,(0,0,0,[],0,0,0,0,0,[])))
theorem cG2{F:Nat}{w:den B1}{x:den C5}{l:CR}(h:bS w=x::l)(hk:fJ 34359738368 F w):qC w cD1=U (X,aN (Fn w)):=by
 obtain⟨e1,e2⟩:=cL4 h hk;have hl:w.2.2.2.2.2.1.length<=549755813888:=B5 (MJ hk (by decide)) (by decide);have hin:B3 (0:Int) 0 ((w.2.2.2.2.2.1.length:Int) - 1)=X:=by
  rw[bQ,show w.2.2.2.2.2.1=x::l from h,C6];omega
 unfold qC cD1 BX aK eG ET A1 aL aS bA bZ dS oF zA zE zH D2 D1 E4 GB Gz GD G6 A0 A4 A3 A8 B0 B8;simp only[fC,dO hl,hin,aA];have e1:sQ w 0=U (dG x (bR w l)):=e1;simp only[show ((2:Int)==1)=Y from rfl,show ((2:Int)==2)=X from rfl,zY,zZ,aD,e1,aA,e2]
theorem cL6{F:Nat}{w:den B1}{n:Int}{B:Nat}(h0:0<=n)(hn:n<=1000000)(hk:fJ B F w)(hB:B+n.toNat * (160+F)<=34359738368):Jq w n=U (aN (Iy n.toNat w)):=by
 unfold Jq eG aS bA bZ dS A0 A4 A3 A8 B0 B8;refine bJt (F:=F) (λk w=>((k:Int),aN w)) aN n.toNat (λk w x l hk' hx hw=> ?_) (λk w hk'=> ?_) n.toNat 0 B w (Dc _) hk hB
 .have e1:qC (((aN w).2.2.2.1,(aN w).2.2.2.2.1),((aN w).2.2.2.2.2.1,(aN w).2.2.2.2.2.2.1),((aN w).2.2.2.2.2.2.2.1,(aN w).2.2.2.2.2.2.2.2.1,(aN w).2.2.2.2.2.2.2.2.2.1),(aN w).2.2.2.2.2.2.2.2.2.2.1,(aN w).2.2.2.2.2.2.2.2.2.2.2.1,(aN w).1,(aN w).2.1,(aN w).2.2.1,(aN w).2.2.2.2.2.2.2.2.2.2.2.2) ((2:Int),(0:Int),[],((0:Int),(0:Int),((0:Int),(0:Int),(0:Int),[],(0:Int),(0:Int),(0:Int),(0:Int),(0:Int),[])))=U (X,aN (Fn w)):=cG2 hx hw;have hd:D ((k:Int)<n)=X:=zX (by omega);have hp:D (((aN w).1.length:Int)>0)=X:=by rw[show (aN w).1=bS w from rfl,hx];simp
  have hwr:wr ((k:Int)+1)=((k+1:Nat):Int):=(wri (by omega) (by omega)).trans (by omega);simp only[hd,hp,zZ,aA,e1,hwr]
 .rcases hk' with rfl | h
  .have hd:D (((n.toNat:Nat):Int)<n)=Y:=zW (by omega);simp only[hd,zY,aA]
  .have hp:D (((aN w).1.length:Int)>0)=Y:=by rw[show (aN w).1=bS w from rfl,h];rfl
   simp only[hp,aA];cases D ((k:Int)<n)<;>rfl
theorem bTw(f:den B7):(aI f).1.2.2.2.2.1=f.2.2.2.2.1:=by
 unfold aI
 repeat' split
 all_goals rfl
theorem bKp{f:den B7}(h:∀m∈f.2.2.2.2.1,Gg m):sM (Gt f):=by
 unfold Gt;split
 .intro x hx;have hx:x∈(f.2.2.2.2.1[f.2.2.2.1.toNat]?).getD []:=hx;cases hm:f.2.2.2.2.1[f.2.2.2.1.toNat]? with
  | none=>rw[hm]at hx;cases hx
  | some m=>rw[hm]at hx;exact h m (Cm hm) x hx
 .intro x hx;cases hx
theorem bKs{f:den B7}(h:∀m∈f.2.2.2.2.1,Gg m):sM (aI f).2.1:=by
 unfold aI
 repeat' split
 all_goals first
  | exact bKp h
  | (intro x hx;cases hx)
def GZ(k:Nat)(w:den B1):den B1:=match (aG w)[k]? with
 | some f=>if (aI f).2.2 then pS (gZ w ((aG w).set k (aI f).1)) (aI f).1.1 0 (aI f).2.1 else gZ w ((aG w).set k (aI f).1)
 | none=>w
def MZ:Nat->Nat->den B1->den B1
 | _,0,w=>w
 | k,n+1,w=>MZ (k+1) n (GZ k w)
def ON(w:den B1):den B1:=(nT w,nK w,((nG w).1,OG (nG w).2.1 (wr (aV w+1)),[]),wr (aV w+1),bC w,bS w,aG w,cR w,qP w)
def gK(w:den B1):den B1:=if aV w>=1000000 then w else MZ 0 (aG w).length (ON w)
theorem VL{B F:Nat}{w:den B1}{k:Nat}{f:den B7}(hk:fJ B F w)(hf:(aG w)[k]? =U f):fJ B F (gZ w ((aG w).set k (aI f).1))/\tot A9 (aI f).2.1<=B/\sM (aI f).2.1:=by
 have hm:=Cm hf;have h1:=SD (t:=B7) (y:=(aI f).1) hf;have h2:=(bFc f).1;have h3:=(bFc f).2;have h4:=kE (t:=B7) hm;have h5:=R9 w ((aG w).set k (aI f).1);have h6:=dX w;have h7:=hk.tot;refine⟨⟨by omega,?_,⟨hk.bytes.fly,λg hg m hmm=> ?_⟩⟩,by omega,bKs (hk.bytes.msg f hm)⟩
 .show ((aG w).set k _).length<=F;rw[Ml];exact hk.flows
 .rcases ZC (show g∈(aG w).set k (aI f).1 from hg) with hg | rfl
  .exact hk.bytes.msg g hg m hmm
  .rw[bTw]at hmm;exact hk.bytes.msg f hm m hmm
theorem bAu{B F:Nat}{w:den B1}(k:Nat)(hk:fJ B F w):fJ (B+(160+F)) F (GZ k w)/\(aG (GZ k w)).length=(aG w).length:=by
 unfold GZ;split
 .rename_i f hf;obtain⟨h1,h2,h3⟩:=VL hk hf;have hl:(aG (gZ w ((aG w).set k (aI f).1))).length=(aG w).length:=by show ((aG w).set k _).length=_;rw[Ml]
  split
  .exact⟨aZf h1 h3,(Vo h1.bytes h3).2.trans hl⟩
  .exact⟨h1.mono (by omega),hl⟩
 .exact⟨hk.mono (by omega),rfl⟩
theorem bAw{F:Nat}:∀(n k:Nat) {B:Nat} {w:den B1},fJ B F w->fJ (B+n * (160+F)) F (MZ k n w)/\(aG (MZ k n w)).length=(aG w).length
 | 0,k,B,w,hk=>⟨hk.mono (by omega),rfl⟩
 | n+1,k,B,w,hk=>by
  obtain⟨h1,h2⟩:=bAu k hk;obtain⟨h3,h4⟩:=bAw n (k+1) h1;unfold MZ;exact⟨h3.mono (by rw[CZ];omega),h4.trans h2⟩
theorem bV6(l:C4)(now:Int):(OG l now).length<=l.length:=H5 _ _
theorem Vi{B F:Nat}{w:den B1}(hk:fJ B F w):fJ B F (ON w):=by
 refine⟨?_,hk.flows,⟨hk.bytes.fly,hk.bytes.msg⟩⟩;have h1:=hk.tot;have h2:=dX w;have h3:=bV6 (nG w).2.1 (wr (aV w+1));have e:tot B1 (ON w)=(tot (.sl CN) (nT w).1+tot (.sl C8) (nT w).2)+((tot (.sl B9) (nK w).1+tot (.sl B9) (nK w).2)+((0+(tot (.sl C9) (OG (nG w).2.1 (wr (aV w+1)))+tot (.sl CW) []))+(0+(tot (.sl ti) (bC w)+(tot (.sl C5) (bS w)+(tot (.sl B7) (aG w)+(tot (.sl Cq) (cR w)+0))))))):=rfl;have r1:∀l:C4,tot (.sl C9) l=l.length:=λl=>qW rfl
 have r2:=r1 (OG (nG w).2.1 (wr (aV w+1)));have r3:=r1 (nG w).2.1;rw[OD]at e;omega
theorem RF{B F:Nat}{w:den B1}(hk:fJ B F w):fJ (B+F * (160+F)) F (gK w):=by
 unfold gK;split
 .exact hk.mono (by omega)
 .have :=(bAw (aG w).length 0 (Vi hk)).1;refine this.mono ?_;have h1:(aG w).length * (160+F)<=F * (160+F):=DA _ hk.flows;omega
theorem bFb{F:Nat}{S R:Type}(enc:Nat->den B1->S)(out:den B1->R)(N:Nat){step:S->Option (S⊕R)}
  (H1:∀(k:Nat) (w:den B1),k<N->(aG w).length=N->fJ 34359738368 F w->step (enc k w)=U (.inl (enc (k+1) (GZ k w))))
  (H2:∀(w:den B1),(aG w).length=N->step (enc N w)=U (.inr (out w))):
  ∀(m k B:Nat) (w:den B1),k+m=N->(aG w).length=N->fJ B F w->B+m * (160+F)<=34359738368->aB step (enc k w)=U (out (MZ k m w)):=by
 intro m
 induction m with
 | zero=>
  intro k B w hk hn hw hB;have :k=N:=by omega
  subst this;exact aH (H2 w hn)
 | succ m ih=>
  intro k B w hk hn hw hB;rw[CZ]at hB;obtain⟨h1,h2⟩:=bAu k hw;rw[aO (H1 k w (by omega) hn (hw.mono (by omega)))];exact ih (k+1) _ _ (by omega) (h2.trans hn) h1 (by omega)
theorem bMn{B F:Nat}{w0:den B1}(hF:F<=1000)(hk:fJ B F w0)(hB:B+F * (160+F)<=34359738368):nI w0=U (!D (aV w0>=1000000),aN (gK w0)):=by
 have hres:(nG w0).2.1.length<=68719476736:=(Qh (B5 hk.tot (by omega))).res;unfold nI gK BX JO eG A6 Ct aS bA bZ dS oF zA zE zH D2 D1 A0 A4 A3 A8 B0 B8
 by_cases hnow:aV w0>=1000000
 .rw[zT hnow,zX (p:=w0.2.2.2.1>=1000000) hnow];rfl
 .rw[zS hnow,zW (p:=w0.2.2.2.1>=1000000) hnow,zY];unfold Mv;simp only[bY5 hres,aA];refine Eq.trans (congrArg (λo=>Option.bind o _) (bFb (F:=F) (λk w=>((k:Int),aN w)) aN (aG w0).length (λk w hk' hn hw=> ?_) (λw hn=> ?_) (aG w0).length 0 B (ON w0) (Dc _) rfl (Vi hk) (by have :(aG w0).length * (160+F)<=F * (160+F):=DA _ hk.flows;omega))) ?_
  .obtain⟨f,hf⟩:∃f,(aG w)[k]? =U f:=⟨_,Cs (show k<(aG w).length by omega)⟩
   obtain⟨k1,k2,k3⟩:=VL hw hf;obtain⟨n1,n2,n3⟩:=Jw k1 (by decide);have hft:tot B7 f<=274877906944:=by have :=kE (t:=B7) (Cm hf);have :=dX w;have :=hw.tot;omega
   have hd:D ((k:Int)<(w0.2.2.2.2.2.2.1.length:Int))=X:=zX (by have :k<w0.2.2.2.2.2.2.1.length:=(by exact hk');omega);have hd1:D ((k:Int)<((aN w).2.1.length:Int))=X:=zX (by have :k<(aN w).2.1.length:=(show k<(aG w).length by omega);omega);have hd2:D (k<(aN w).2.1.length)=X:=zX (show k<(aG w).length by omega);have hf':(aN w).2.1[k]? =U f:=hf;have hwr:wr ((k:Int)+1)=((k+1:Nat):Int):=(wri (by have :=hk.flows;omega) (by have :=hk.flows;omega)).trans (by omega);have e:GZ k w=if (aI f).2.2 then pS (gZ w ((aG w).set k (aI f).1)) (aI f).1.1 0 (aI f).2.1 else gZ w ((aG w).set k (aI f).1):=by unfold GZ;rw[hf]
   have e1:cC (((aN w).2.2.2.1,(aN w).2.2.2.2.1),((aN w).2.2.2.2.2.1,(aN w).2.2.2.2.2.2.1),((aN w).2.2.2.2.2.2.2.1,(aN w).2.2.2.2.2.2.2.2.1,(aN w).2.2.2.2.2.2.2.2.2.1),(aN w).2.2.2.2.2.2.2.2.2.2.1,(aN w).2.2.2.2.2.2.2.2.2.2.2.1,(aN w).1,((aN w).2.1.set k ((fU (aI f).1 (aI f).2.1 (aI f).2.2).1,(fU (aI f).1 (aI f).2.1 (aI f).2.2).2.1,(fU (aI f).1 (aI f).2.1 (aI f).2.2).2.2.1,(fU (aI f).1 (aI f).2.1 (aI f).2.2).2.2.2.1,(fU (aI f).1 (aI f).2.1 (aI f).2.2).2.2.2.2.2.2.2.2.2.2.2.2.2.2.2.1,(fU (aI f).1 (aI f).2.1 (aI f).2.2).2.2.2.2.2.2.2.2.2.2.2.2.2.2.2.2.1,(fU (aI f).1 (aI f).2.1 (aI f).2.2).2.2.2.2.1,(fU (aI f).1 (aI f).2.1 (aI f).2.2).2.2.2.2.2.1,(fU (aI f).1 (aI f).2.1 (aI f).2.2).2.2.2.2.2.2.2.2.2.2.2.2.2.2.2.2.2.1)),(aN w).2.2.1,(aN w).2.2.2.2.2.2.2.2.2.2.2.2) (fU (aI f).1 (aI f).2.1 (aI f).2.2).1 0 ((fU (aI f).1 (aI f).2.1 (aI f).2.2).2.2.2.2.2.2.1,(fU (aI f).1 (aI f).2.1 (aI f).2.2).2.2.2.2.2.2.2.1,(fU (aI f).1 (aI f).2.1 (aI f).2.2).2.2.2.2.2.2.2.2.1,(fU (aI f).1 (aI f).2.1 (aI f).2.2).2.2.2.2.2.2.2.2.2.2.2.2.2.2.2.2.2.2.1,(fU (aI f).1 (aI f).2.1 (aI f).2.2).2.2.2.2.2.2.2.2.2.1,(fU (aI f).1 (aI f).2.1 (aI f).2.2).2.2.2.2.2.2.2.2.2.2.1,(fU (aI f).1 (aI f).2.1 (aI f).2.2).2.2.2.2.2.2.2.2.2.2.2.1,(fU (aI f).1 (aI f).2.1 (aI f).2.2).2.2.2.2.2.2.2.2.2.2.2.2.1,(fU (aI f).1 (aI f).2.1 (aI f).2.2).2.2.2.2.2.2.2.2.2.2.2.2.2.1,(fU (aI f).1 (aI f).2.1 (aI f).2.2).2.2.2.2.2.2.2.2.2.2.2.2.2.2.2.2.2.2.2)=U (aN (pS (gZ w ((aG w).set k (aI f).1)) (aI f).1.1 0 (aI f).2.1)):=WE (w:=gZ w ((aG w).set k (aI f).1)) n1 n2 n3 k2 k3;rw[e];simp only[hd,hd1,hd2,bF,Cj,hf',zZ,aA,aD,cEv hft,hwr];cases hb:(aI f).2.2
   .rfl
   .rw[hb]at e1;rw[zT rfl];show Option.bind (cond X _ _) _=_;rw[zZ];show Option.bind (Option.bind (cC _ _ 0 _) λy12=>_) _=_;rw[e1];rfl
  .have hd:D ((((aG w0).length:Nat):Int)<(w0.2.2.2.2.2.2.1.length:Int))=Y:=zW (by have :w0.2.2.2.2.2.2.1.length=(aG w0).length:=rfl;omega);simp only[hd,zY]
  .rfl
theorem bL2{B F:Nat}{w0:den B1}(hF:F<=1000)(hk:fJ B F w0)(hB:B+F * (160+F)<=34359738368):Je w0=U (!D (aV w0>=1000000),aN (gK w0)):=by
 have hres:(nG w0).2.1.length<=68719476736:=(Qh (B5 hk.tot (by omega))).res;unfold Je gK BX JO eG A6 Ct aS bA bZ dS oF zA zE zH D2 D1 A0 A4 A3 A8 B0 B8
 by_cases hnow:aV w0>=1000000
 .rw[zT hnow,zX (p:=w0.2.2.2.1>=1000000) hnow];rfl
 .rw[zS hnow,zW (p:=w0.2.2.2.1>=1000000) hnow,zY];unfold Mu;simp only[bXy hres,aA];refine Eq.trans (congrArg (λo=>Option.bind o _) (bFb (F:=F) (λk w=>((k:Int),aN w)) aN (aG w0).length (λk w hk' hn hw=> ?_) (λw hn=> ?_) (aG w0).length 0 B (ON w0) (Dc _) rfl (Vi hk) (by have :(aG w0).length * (160+F)<=F * (160+F):=DA _ hk.flows;omega))) ?_
  .obtain⟨f,hf⟩:∃f,(aG w)[k]? =U f:=⟨_,Cs (show k<(aG w).length by omega)⟩
   obtain⟨k1,k2,k3⟩:=VL hw hf;obtain⟨n1,n2,n3⟩:=Jw k1 (by decide);have hft:tot B7 f<=274877906944:=by have :=kE (t:=B7) (Cm hf);have :=dX w;have :=hw.tot;omega
   have hd:D ((k:Int)<((aN w).2.1.length:Int))=X:=zX (by have :k<(aN w).2.1.length:=(by show k<(aG w).length;omega);omega);have hd1:D ((k:Int)<((aN w).2.1.length:Int))=X:=zX (by have :k<(aN w).2.1.length:=(show k<(aG w).length by omega);omega);have hd2:D (k<(aN w).2.1.length)=X:=zX (show k<(aG w).length by omega);have hf':(aN w).2.1[k]? =U f:=hf;have hwr:wr ((k:Int)+1)=((k+1:Nat):Int):=(wri (by have :=hk.flows;omega) (by have :=hk.flows;omega)).trans (by omega);have e:GZ k w=if (aI f).2.2 then pS (gZ w ((aG w).set k (aI f).1)) (aI f).1.1 0 (aI f).2.1 else gZ w ((aG w).set k (aI f).1):=by unfold GZ;rw[hf]
   have e1:fQ (((aN w).2.2.2.1,(aN w).2.2.2.2.1),((aN w).2.2.2.2.2.1,(aN w).2.2.2.2.2.2.1),((aN w).2.2.2.2.2.2.2.1,(aN w).2.2.2.2.2.2.2.2.1,(aN w).2.2.2.2.2.2.2.2.2.1),(aN w).2.2.2.2.2.2.2.2.2.2.1,(aN w).2.2.2.2.2.2.2.2.2.2.2.1,(aN w).1,((aN w).2.1.set k ((fU (aI f).1 (aI f).2.1 (aI f).2.2).1,(fU (aI f).1 (aI f).2.1 (aI f).2.2).2.1,(fU (aI f).1 (aI f).2.1 (aI f).2.2).2.2.1,(fU (aI f).1 (aI f).2.1 (aI f).2.2).2.2.2.1,(fU (aI f).1 (aI f).2.1 (aI f).2.2).2.2.2.2.2.2.2.2.2.2.2.2.2.2.2.1,(fU (aI f).1 (aI f).2.1 (aI f).2.2).2.2.2.2.2.2.2.2.2.2.2.2.2.2.2.2.1,(fU (aI f).1 (aI f).2.1 (aI f).2.2).2.2.2.2.1,(fU (aI f).1 (aI f).2.1 (aI f).2.2).2.2.2.2.2.1,(fU (aI f).1 (aI f).2.1 (aI f).2.2).2.2.2.2.2.2.2.2.2.2.2.2.2.2.2.2.2.1)),(aN w).2.2.1,(aN w).2.2.2.2.2.2.2.2.2.2.2.2) (fU (aI f).1 (aI f).2.1 (aI f).2.2).1 0 ((fU (aI f).1 (aI f).2.1 (aI f).2.2).2.2.2.2.2.2.1,(fU (aI f).1 (aI f).2.1 (aI f).2.2).2.2.2.2.2.2.2.1,(fU (aI f).1 (aI f).2.1 (aI f).2.2).2.2.2.2.2.2.2.2.1,(fU (aI f).1 (aI f).2.1 (aI f).2.2).2.2.2.2.2.2.2.2.2.2.2.2.2.2.2.2.2.2.1,(fU (aI f).1 (aI f).2.1 (aI f).2.2).2.2.2.2.2.2.2.2.2.1,(fU (aI f).1 (aI f).2.1 (aI f).2.2).2.2.2.2.2.2.2.2.2.2.1,(fU (aI f).1 (aI f).2.1 (aI f).2.2).2.2.2.2.2.2.2.2.2.2.2.1,(fU (aI f).1 (aI f).2.1 (aI f).2.2).2.2.2.2.2.2.2.2.2.2.2.2.1,(fU (aI f).1 (aI f).2.1 (aI f).2.2).2.2.2.2.2.2.2.2.2.2.2.2.2.1,(fU (aI f).1 (aI f).2.1 (aI f).2.2).2.2.2.2.2.2.2.2.2.2.2.2.2.2.2.2.2.2.2)=U (aN (pS (gZ w ((aG w).set k (aI f).1)) (aI f).1.1 0 (aI f).2.1)):=Xt (w:=gZ w ((aG w).set k (aI f).1)) n1 n2 n3 k2 k3;rw[e];simp only[hd,hd1,hd2,bF,Cj,hf',zZ,aA,aD,cGl hft,hwr];cases hb:(aI f).2.2
   .rfl
   .rw[hb]at e1;rw[zT rfl];show Option.bind (cond X _ _) _=_;rw[zZ];show Option.bind (Option.bind (fQ _ _ 0 _) λy12=>_) _=_;rw[e1];rfl
  .have hd:D ((((aG w0).length:Nat):Int)<((aN w).2.1.length:Int))=Y:=zW (by have :(aN w).2.1.length=(aG w0).length:=hn;omega);simp only[hd,zY]
  .rfl
def J3(w:den B1):den B1:=Iy 2000 (gK w)
def Hj(F:Nat):Nat:=F * (160+F)+2000 * (160+F)
theorem aWs{B F:Nat}{w:den B1}(hk:fJ B F w):fJ (B+Hj F) F (J3 w):=by
 have :=bD4 2000 (RF hk);exact this.mono (by unfold Hj;omega)
theorem bXc{B F:Nat}{w:den B1}(hF:F<=1000)(hk:fJ B F w)(hB:B+Hj F<=34359738368):nV w=U (aN (J3 w)):=by
 unfold Hj at hB;unfold nV eG aL aS bA bZ dS A0 A4 A3 A8 B0 B8;have e1:=bMn hF hk (by omega);have e2:jV (((aN (gK w)).2.2.2.1,(aN (gK w)).2.2.2.2.1),((aN (gK w)).2.2.2.2.2.1,(aN (gK w)).2.2.2.2.2.2.1),((aN (gK w)).2.2.2.2.2.2.2.1,(aN (gK w)).2.2.2.2.2.2.2.2.1,(aN (gK w)).2.2.2.2.2.2.2.2.2.1),(aN (gK w)).2.2.2.2.2.2.2.2.2.2.1,(aN (gK w)).2.2.2.2.2.2.2.2.2.2.2.1,(aN (gK w)).1,(aN (gK w)).2.1,(aN (gK w)).2.2.1,(aN (gK w)).2.2.2.2.2.2.2.2.2.2.2.2) 2000=U (aN (J3 w)):=cLz (w:=gK w) (n:=2000) (by decide) (by decide) (RF hk) (by show B+F * (160+F)+2000 * (160+F)<=_;omega);simp only[aD,e1,aA,e2]
theorem bXh{B F:Nat}{w:den B1}(hF:F<=1000)(hk:fJ B F w)(hB:B+F * (160+F)<=34359738368):qC w ((1:Int),(0:Int),[],((0:Int),(0:Int),((0:Int),(0:Int),(0:Int),[],(0:Int),(0:Int),(0:Int),(0:Int),(0:Int),[])))=U (!D (aV w>=1000000),aN (gK w)):=by
 unfold qC BX aK eG ET A1 aL aS bA bZ dS oF zA zE zH D2 D1 E4 GB Gz GD G6 A0 A4 A3 A8 B0 B8;simp only[fC,aA,show ((1:Int)==1)=X from rfl,zZ,aD,bL2 hF hk hB]
theorem cAa{B F:Nat}{w:den B1}(hF:F<=1000)(hk:fJ B F w)(hB:B+Hj F<=34359738368):zG w=U (aN (J3 w)):=by
 unfold Hj at hB;unfold zG eG aL aS bA bZ dS A0 A4 A3 A8 B0 B8;have e1:=bXh hF hk (by omega);have e2:Jq (((aN (gK w)).2.2.2.1,(aN (gK w)).2.2.2.2.1),((aN (gK w)).2.2.2.2.2.1,(aN (gK w)).2.2.2.2.2.2.1),((aN (gK w)).2.2.2.2.2.2.2.1,(aN (gK w)).2.2.2.2.2.2.2.2.1,(aN (gK w)).2.2.2.2.2.2.2.2.2.1),(aN (gK w)).2.2.2.2.2.2.2.2.2.2.1,(aN (gK w)).2.2.2.2.2.2.2.2.2.2.2.1,(aN (gK w)).1,(aN (gK w)).2.1,(aN (gK w)).2.2.1,(aN (gK w)).2.2.2.2.2.2.2.2.2.2.2.2) 2000=U (aN (J3 w)):=cL6 (w:=gK w) (n:=2000) (by decide) (by decide) (RF hk) (by show B+F * (160+F)+2000 * (160+F)<=_;omega);simp only[aD,e1,aA,e2]
theorem bN8{w:den B1}(h:DZ w=X):(aG w).length<=4:=by
 unfold DZ at h;simp only[Ck,zR]at h;simp only[h]
theorem Yp{w:den B1}(hv:DZ w=X)(h:tot B1 w<=34000000000)(hb:tB w):fJ 34000000000 4 w:=⟨h,bN8 hv,hb⟩
def Qk:Nat->den B1->den B1
 | 0,w=>w
 | n+1,w=>Qk n (J3 w)
theorem UX{F:Nat}:∀(n:Nat) {B:Nat} {w:den B1},fJ B F w->fJ (B+n * Hj F) F (Qk n w)
 | 0,B,w,hk=>hk.mono (by omega)
 | n+1,B,w,hk=>by
  have :=UX n (aWs hk);exact this.mono (by rw[CZ];omega)
theorem aWj{F:Nat}{S R:Type}(enc:Nat->den B1->S)(out:den B1->R)(N:Nat){step:S->Option (S⊕R)}
  (H1:∀(k B:Nat) (w:den B1),k<N->fJ B F w->B+Hj F<=34359738368->step (enc k w)=U (.inl (enc (k+1) (J3 w))))
  (H2:∀(w:den B1),step (enc N w)=U (.inr (out w))):
  ∀(m k B:Nat) (w:den B1),k+m=N->fJ B F w->B+m * Hj F<=34359738368->aB step (enc k w)=U (out (Qk m w)):=by
 intro m
 induction m with
 | zero=>
  intro k B w hk hw hB;have :k=N:=by omega
  subst this;exact aH (H2 w)
 | succ m ih=>
  intro k B w hk hw hB;rw[CZ]at hB;rw[aO (H1 k B w (by omega) hw (by omega))];exact ih (k+1) _ _ (by omega) (aWs hw) (by omega)
def jM(w:den B1)(n:Int):den B1:=if DZ w&&B3 n 0 1000 then Qk n.toNat w else w
theorem cEh:Hj 4=328656:=rfl
theorem V1{n:Int}(h0:0<=n)(h1:n<=1000):34000000000+n.toNat * Hj 4<=34359738368:=by
 rw[cEh];have :n.toNat * 328656<=1000 * 328656:=Nat.mul_le_mul (by omega) (Cz _);omega
theorem bX3{w:den B1}{n:Int}(h:tot B1 w<=34000000000)(hb:tB w):tot B1 (jM w n)<=34359738368:=by
 unfold jM;split
 .rename_i hc;rw[Ck,bQ]at hc;have h1:=(UX n.toNat (Yp hc.1 h hb)).tot;have h2:=V1 hc.2.1 hc.2.2;omega
 .omega
theorem bS1{w:den B1}{n:Int}(h:tot B1 w<=34000000000)(hb:tB w):rK w n=U (E6 (jM w n)):=by
 have ht:=bX3 (n:=n) h hb;unfold rK eG A6 aL aS bA bZ dS A0 A4 A3 A8 B0 B8;simp only[aD,Qp (XP (w:=w) (by omega)),XE (w:=w) (by omega),gX,aA];have e3:eY (((hO (jM w n)).1,(hO (jM w n)).2.1),((hO (jM w n)).2.2.1,(hO (jM w n)).2.2.2.1),((hO (jM w n)).2.2.2.2.1,(hO (jM w n)).2.2.2.2.2.1,(hO (jM w n)).2.2.2.2.2.2.1),(hO (jM w n)).2.2.2.2.2.2.2.1,(hO (jM w n)).2.2.2.2.2.2.2.2.1,(hO (jM w n)).2.2.2.2.2.2.2.2.2.2.1,(hO (jM w n)).2.2.2.2.2.2.2.2.2.2.2.1,(hO (jM w n)).2.2.2.2.2.2.2.2.2.2.2.2,(hO (jM w n)).2.2.2.2.2.2.2.2.2.1)=U (E6 (jM w n)):=Qp (w:=jM w n) (XP (by omega));unfold jM at e3 ⊢;cases cv:DZ w
 .rw[cv]at e3;simp only[zY,aA];simp only[CD,Cg,zU]at e3 ⊢;exact congrArg (λo=>Option.bind o U) e3
 .cases cn:B3 n 0 1000
  .rw[cv,cn]at e3;simp only[zZ,zY,aA];simp only[DM,Cg,zU]at e3 ⊢;exact congrArg (λo=>Option.bind o U) e3
  .rw[cv,cn]at e3;have hr:=bQ.1 cn;simp only[zZ,aA];simp only[EV,zV]at e3 ⊢;refine Eq.trans (congrArg (λo=>Option.bind o _) (aWj (F:=4) (λk w=>((k:Int),hO w)) hO n.toNat (λk B w hk' hw hB=> ?_) (λw=> ?_) n.toNat 0 34000000000 w (Dc _) (Yp cv h hb) (V1 hr.1 hr.2))) ?_
   .have hd:D ((k:Int)<n)=X:=zX (by omega);have hwr:wr ((k:Int)+1)=((k+1:Nat):Int):=(wri (by omega) (by omega)).trans (by omega);have e1:nV (((hO w).1,(hO w).2.1),((hO w).2.2.1,(hO w).2.2.2.1),((hO w).2.2.2.2.1,(hO w).2.2.2.2.2.1,(hO w).2.2.2.2.2.2.1),(hO w).2.2.2.2.2.2.2.1,(hO w).2.2.2.2.2.2.2.2.1,(hO w).2.2.2.2.2.2.2.2.2.2.1,(hO w).2.2.2.2.2.2.2.2.2.2.2.1,(hO w).2.2.2.2.2.2.2.2.2.2.2.2,(hO w).2.2.2.2.2.2.2.2.2.1)=U (aN (J3 w)):=bXc (w:=w) (by decide) hw hB;simp only[hd,zZ,e1,aA,hwr];rfl
   .have hd:D (((n.toNat:Nat):Int)<n)=Y:=zW (by omega);simp only[hd,zY]
   .simp only[aA];exact congrArg (λo=>Option.bind o U) e3
theorem bSw{w:den B1}{n:Int}(h:tot B1 w<=34000000000)(hb:tB w):rX w n=U (hO (jM w n)):=by
 unfold rX eG A6 aL aS bA bZ dS A0 A4 A3 A8 B0 B8;simp only[aD,WY (XP (w:=w) (by omega)),XA (w:=w) (by omega),fC,aA];unfold jM;cases cv:DZ w
 .simp only[Cn,zZ,aA,CD,Cg,zU];rfl
 .cases cn:B3 n 0 1000
  .simp only[BZ,Cn,zZ,zY,aA,DM,Cg,zU];rfl
  .have hr:=bQ.1 cn;simp only[BZ,zY,aA,EV,zV];refine Eq.trans (congrArg (λo=>Option.bind o _) (aWj (F:=4) (λk w=>((k:Int),hO w)) hO n.toNat (λk B w hk' hw hB=> ?_) (λw=> ?_) n.toNat 0 34000000000 w (Dc _) (Yp cv h hb) (V1 hr.1 hr.2))) ?_
   .have hd:D ((k:Int)<n)=X:=zX (by omega);have hwr:wr ((k:Int)+1)=((k+1:Nat):Int):=(wri (by omega) (by omega)).trans (by omega);have e1:zG (((hO w).1,(hO w).2.1),((hO w).2.2.1,(hO w).2.2.2.1),((hO w).2.2.2.2.1,(hO w).2.2.2.2.2.1,(hO w).2.2.2.2.2.2.1),(hO w).2.2.2.2.2.2.2.1,(hO w).2.2.2.2.2.2.2.2.1,(hO w).2.2.2.2.2.2.2.2.2.2.1,(hO w).2.2.2.2.2.2.2.2.2.2.2.1,(hO w).2.2.2.2.2.2.2.2.2.2.2.2,(hO w).2.2.2.2.2.2.2.2.2.1)=U (aN (J3 w)):=cAa (w:=w) (by decide) hw hB;simp only[hd,zZ,e1,aA,hwr];rfl
   .have hd:D (((n.toNat:Nat):Int)<n)=Y:=zW (by omega);simp only[hd,zY]
   .rfl
theorem cKp{w:den B1}(h:tot B1 w<=34000000000)(hb:tB w):Jo w=U (E6 (jM w (wr (8+F4 w)))):=by
 unfold Jo eG aL;simp only[aD,bHu (w:=w) (Qh (by omega)).flowsN,bS1 h hb,aA]
theorem cJ8{w:den B1}(h:tot B1 w<=34000000000)(hb:tB w):Jn w=U (hO (jM w (wr (8+F4 w)))):=by
 unfold Jn eG aL;simp only[aD,bHd (w:=w) (Qh (by omega)).flowsN,bSw h hb,aA]
def Ans{α:Type}(o:Option α)(P:α->Prop):Prop:= ∃y,o=U y/\P y
theorem bYe{S R:Type}{step:S->Option (S⊕R)}(I:Nat->S->Prop)(Q:R->Prop)(h:∀n s,I n s->(∃r,step s=U (.inr r)/\Q r)\/ ∃m s',m<n/\step s=U (.inl s')/\I m s')(n:Nat):∀s,I n s->Ans (aB step s) Q:=by
 induction n using Nat.strongRecOn with
 | ind n ih=>
  intro s hs;rcases h n s hs with ⟨r,h1,h2⟩ | ⟨m,s',h1,h2,h3⟩
  .exact⟨r,aH h1,h2⟩
  .obtain⟨r,h4,h5⟩:=ih m h1 s' h3;exact⟨r,(aO h2).trans h4,h5⟩
theorem bEe{S R T:Type}{step:S->Option (S⊕R)}(I:Nat->S->Prop)(Q:R->Prop){k:R->Option T}{G:Option T->Prop}(h:∀n s,I n s->(∃r,step s=U (.inr r)/\Q r)\/ ∃m s',m<n/\step s=U (.inl s')/\I m s')(n:Nat)(s:S)(hs:I n s)(hk:∀r,Q r->G (k r)):G (Option.bind (aB step s) k):=by
 obtain⟨r,h1,h2⟩:=bYe I Q h n s hs;rw[h1];exact hk r h2
theorem bLl{S R T:Type}{step:S->Option (S⊕R)}(len:Nat)(pos:S->Int)(J:Nat->S->Prop)(Q:R->Prop){k:R->Option T}{G:Option T->Prop}
  (h:∀(i:Nat) (s:S),i<len->pos s=(i:Int)->J i s->(∃r,step s=U (.inr r)/\Q r)\/ ∃s',step s=U (.inl s')/\pos s'=((i+1:Nat):Int)/\J (i+1) s')
  (he:∀s:S,pos s=(len:Int)->J len s-> ∃r,step s=U (.inr r)/\Q r) (i0:Nat) (s0:S) (hi:i0<=len) (hp:pos s0=(i0:Int)) (hJ:J i0 s0) (hk:∀r,Q r->G (k r)):G (Option.bind (aB step s0) k):=by
 refine bEe (λn s=> ∃i:Nat,pos s=(i:Int)/\i+n=len/\J i s) Q ?_ (len - i0) s0 ⟨i0,hp,by omega,hJ⟩ hk
 rintro n s ⟨i,h1,h2,h3⟩
 cases n with
 | zero=>
  have e:i=len:=by omega
  subst e;exact .inl (he s h1 h3)
 | succ n=>
  rcases h i s (by omega) h1 h3 with h4 | ⟨s',h4,h5,h6⟩
  .exact .inl h4
  .exact .inr ⟨n,s',by omega,h4,i+1,h5,by omega,h6⟩
theorem oM{n:Int}(h0: -1000000000000<=n)(h1:n<=1000000000000):wr n=n:=wri (by omega) (by omega)
theorem Lo{n:Nat}(h:n<=4611686018427387904):wr ((n:Int)+1)=((n+1:Nat):Int):=by rw[show wr ((n:Int)+1)=(n:Int)+1 from wri (by omega) (by omega)];omega
theorem bXk{l:List Int}{n x:Int}(h:x∈yU l n):x=n\/x∈l:=by
 unfold yU at h;split at h
 .exact .inr h
 .simp only[C0,Cy]at h;rcases h with (h | h) | h
  .exact .inr (IE h)
  .exact .inl h
  .exact .inr (IH h)
theorem bVb(l:List Int)(n:Int):n∈yU l n:=by
 unfold yU;split
 .next h=>exact Cm h
 .simp
theorem bZp{l:List Int}{n x:Int}(h:x∈l):x∈yU l n:=by
 unfold yU;split
 .exact h
 .rw[<- FW (oP l n) l]at h;simp only[C0,Cy]at h ⊢;rcases h with h | h
  .exact .inl (.inl h)
  .exact .inr h
theorem bTp{α:Type}{l:List α}{j:Nat}{y:α}(h:y∈l.take j):∃i,i<j/\l[i]? =U y:=by
 obtain⟨i,hi⟩:=UR.1 h;rw[List.getElem?_take]at hi;split at hi
 .next c=>exact⟨i,c,hi⟩
 .cases hi
def Ov(w:den B1)(l:List Int):den B1:=(nT w,nK w,nG w,aV w,l,bS w,aG w,cR w,qP w)
def Gj(w:den B1)(i:Nat):den B1:=bR w ((bS w).take i++(bS w).drop (i+1))
theorem bWm{w:den B1}{i:Nat}{x:den C5}(hx:(bS w)[i]? =U x)(hl:(bS w).length<=68719476736):sQ w (i:Int)=U (dG x (Gj w i)):=by
 have hlt:i<(bS w).length:=(Cu.1 hx).1;have hx:w.2.2.2.2.2.1[((i:Nat):Int).toNat]? =U x:=by rw[Cj];exact hx
 have h1:D ((i:Int)<(w.2.2.2.2.2.1.length:Int))=X:=zX (by have :i<w.2.2.2.2.2.1.length:=hlt;omega);have e1:wr ((i:Int)+1)=((i+1:Nat):Int):=(wri (by omega) (by omega)).trans (by omega);have h2:bG ((i+1:Nat):Int) (w.2.2.2.2.2.1.length:Int) (w.2.2.2.2.2.1.length:Int)=X:=wS (show i+1<=w.2.2.2.2.2.1.length from hlt);have h3:bG (0:Int) (i:Int) (w.2.2.2.2.2.1.length:Int)=X:=GS (k:=i) (Nat.le_of_lt hlt);have hl:w.2.2.2.2.2.1.length<=68719476736:=hl;unfold sQ BX aK aS bA A0 A4 A3 A8 B0 B8;simp only[h1,hx,aA,zZ,e1,h2,h3,fL,HS,CH,aC (b:=128) (n:=([]:CR).length) (m:=(w.2.2.2.2.2.1.take i).length) (by decide) (by simp;omega),aC (b:=128) (n:=(w.2.2.2.2.2.1.take i).length) (m:=(w.2.2.2.2.2.1.drop (i+1)).length) (by decide) (by simp;omega),zX (show (0:Int)<=(i:Int) by omega)];rfl
def yV(m:Nat)(dead:List Int)(i:Int)(b:Bool):List Int:=((List.range m).map λk:Nat=>((k:Nat):Int)).filter λk:Int=>(oG dead k&&(k != i))||(b&&(k==i))
def Om(w:den B1)(i:Int)(b:Bool):Bool:=(oG (bC w) i==b)|| !B3 i 0 (((nT w).2.length:Int) - 1)
def Na(w:den B1)(i:Int)(b:Bool):den B1:=if Om w i b then w else Ov w (yV (nT w).2.length (bC w) i b)
theorem bVy{w:den B1}{i:Int}{b:Bool}(h1:(nT w).2.length<=68719476736)(h2:(bC w).length<=549755813888):KQ w i b=U (!Om w i b,aN (Na w i b)):=by
 have w1:wr ((w.1.2.length:Int) - 1)=(w.1.2.length:Int) - 1:=dO (B5 h1 (by decide));have e1:=λn=>Lq (l:=w.2.2.2.2.1) (n:=n) h2
 unfold KQ Na Om A0 A4 A3 A8 B0;simp only[e1,aA,w1,fC];cases hb:(oG w.2.2.2.2.1 i==b) with
 | true=>rfl
 | false=>
  simp only[zY,aA,Mj];cases B3 i 0 ((w.1.2.length:Int) - 1) with
  | false=>rfl
  | true=>
   simp only[BZ,zY,Cg,zU,Cn];refine bLl (G:=λo=>o=U (X,aN (Ov w (yV (nT w).2.length (bC w) i b)))) w.1.2.length (λs:Int×List Int=>s.1) (λk s=>s.2.length<=k/\s.2=yV k (bC w) i b) (λr:List Int=>r=yV w.1.2.length (bC w) i b) ?_ ?_ 0 ((0:Int),[]) (C3 _) rfl ⟨by simp,rfl⟩ ?_
   .rintro k ⟨_,l⟩ hk rfl ⟨g1,g2⟩
    simp only at g1 g2;right;have hk':k<=68719476736:=B5 (Nat.le_of_lt hk) h1;simp only[zX (show (k:Int)<(w.1.2.length:Int) by omega),zZ,aA,aC (b:=8) (n:=l.length) (m:=1) (by decide) (by omega),show wr ((k:Int)+1)=((k+1:Nat):Int) from (wri (by omega) (by omega)).trans (by omega)];have hl:yV (k+1) (bC w) i b=yV k (bC w) i b++(if (oG (bC w) (k:Int)&&((k:Int) != i))||(b&&((k:Int)==i)) then [(k:Int)] else []):=by
     unfold yV;rw[List.range_succ,List.map_append,List.filter_append];congr 1;simp only[CA,List.map_nil,PA,List.filter_nil]
    have hd:bC w=w.2.2.2.2.1:=rfl;rw[hl,<- g2,hd];cases oG w.2.2.2.2.1 (k:Int)<;>cases hki:((k:Int)==i)<;>cases b<;>simp only[bne,hki,zZ,zY,aA,BZ,Cn,Bool.and_true,DM,Cw,CD,II,Bool.or_false,GI,Mj,Cg,zV,zU,CU]<;>first
     | exact⟨_,rfl,rfl,by simp;omega,rfl⟩
     | exact⟨_,rfl,rfl,by simp only;omega,rfl⟩
   .rintro⟨_,l⟩ rfl ⟨g1,g2⟩
    exact⟨l,by simp only[zW (Int.lt_irrefl _),zY],g2⟩
   .rintro r rfl
    rfl
def LN(f:den B7)(b:List Int):den B7:=if tZ (enq f b) then enq f b else f
def Mp(w:den B1)(e:den yP):Bool×den B1:=
 if e.1==1 then (!D (aV w>=1000000),gK w)
 else if e.1==2 then (match B3 e.2.1 0 (((bS w).length:Int) - 1),(bS w)[e.2.1.toNat]? with
  | true,U x=>(X,pS (Gj w e.2.1.toNat) x.1 x.2.1 x.2.2)
  | _,_=>(Y,w))
 else if e.1==3 then (if B3 e.2.1 0 (((bS w).length:Int) - 1) then (X,Ir (Gj w e.2.1.toNat)) else (Y,w))
 else if e.1==4 then (match B3 e.2.1 0 (((bS w).length:Int) - 1)&& !D (((bS w).length:Int)>=150),(bS w)[e.2.1.toNat]? with
  | true,U x=>(X,bR w (bS w++[x]))
  | _,_=>(Y,w))
 else if e.1==5||e.1==6 then (!Om w e.2.1 (e.1==5),Na w e.2.1 (e.1==5))
 else if e.1==7 then (if cK (nT w) e.2.2.2.1&& !D (((bS w).length:Int)>=150) then (X,bR w (bS w++[e.2.2.2])) else (Y,w))
 else if e.1==8 then (match B3 e.2.1 0 (((aG w).length:Int) - 1),(aG w)[e.2.1.toNat]? with
  | true,U f=>(tZ (enq f e.2.2.1),gZ w ((aG w).set e.2.1.toNat (LN f e.2.2.1)))
  | _,_=>(Y,w))
 else (Y,w)
theorem Iw{α:Type}{l:List α}{n:Int}(hl:l.length<=68719476736)(h:B3 n 0 ((l.length:Int) - 1)=X):∃(i:Nat) (x:α),n=(i:Int)/\l[i]? =U x/\D (n<(l.length:Int))=X/\D ((0:Int)<=n)=X:=by
 obtain⟨h0,h1⟩:=bQ.1 h;obtain⟨i,rfl⟩:=Ew h0;have hi:i<l.length:=by omega
 exact⟨i,l[i],rfl,Cs hi,zX (by omega),zX h0⟩
theorem bK8{B F:Nat}{w:den B1}{r inn:Int}{p:den A9}(hk:fJ B F w)(hp:sM p):fJ (B+(160+F)) F (pS w r inn p):=by
 obtain⟨h1,h2⟩:=Vo hk.bytes hp (r:=r) (inn:=inn);have h3:=aZw w r inn p;have :=hk.flows;have :=hk.tot;exact⟨by omega,by rw[h2];exact hk.flows,h1⟩
theorem bKw{B F:Nat}{w:den B1}{l:CR}(hk:fJ B F w)(hl:tot (.sl C5) l<=tot (.sl C5) (bS w))(hb:∀x∈l,sM x.2.2):fJ B F (bR w l):=by
 have h1:=Vj w l;have :=hk.tot;exact⟨by omega,hk.flows,⟨hb,hk.bytes.msg⟩⟩
theorem Vg{B F:Nat}{w:den B1}(hk:fJ B F w)(i:Nat):fJ B F (Gj w i):=by
 refine bKw hk ?_ λx hx=>hk.bytes.fly x ?_
 .have h1:=wA (t:=C5) ((bS w).take i) ((bS w).drop i);rw[FW]at h1;rw[wA,h1];have :tot (.sl C5) ((bS w).drop (i+1))<=tot (.sl C5) ((bS w).drop i):=by
   cases h:(bS w).drop i with
   | nil=>
    have :(bS w).drop (i+1)=[]:=by rw[<- List.drop_drop,h];rfl
    rw[this];exact Cz _
   | cons x l=>
    have :(bS w).drop (i+1)=l:=by rw[<- List.drop_drop,h];rfl
    rw[this,kD];omega
  omega
 .rcases C0.1 hx with hx | hx
  .exact IE hx
  .exact IH hx
theorem cNg{B F:Nat}{w:den B1}{e:den yP}(hF:F<=1000)(hk:fJ B F w)(hB:B+(F+1) * (160+F)<=34359738368)(h9:(e.1==(9:Int))=Y)(hd:Cc 137438953472 (.sl tb) e.2.2.1)(hp:tot A9 e.2.2.2.2.2<=274877906944):qC w e=U ((Mp w e).1,aN (Mp w e).2):=by
 obtain⟨kd,n,data,to,ing,pk⟩:=e;simp only at h9 hd hp;have hB0:B<=34359738368:=by have :=C3 ((F+1) * (160+F));omega
 have hB1:B+F * (160+F)<=34359738368:=by rw[CZ]at hB;omega
 have nl:=dX w;have l1:w.2.2.2.2.2.1.length<=68719476736:=MJ hk (by omega);have l2:w.2.2.2.2.2.2.1.length<=68719476736:=B5 hk.flows (by omega);obtain⟨n1,n2,n3⟩:=Jw hk (by omega);have w1:wr ((w.2.2.2.2.2.1.length:Int) - 1)=(w.2.2.2.2.2.1.length:Int) - 1:=dO (by omega);have w2:wr ((w.2.2.2.2.2.2.1.length:Int) - 1)=(w.2.2.2.2.2.2.1.length:Int) - 1:=dO (by omega);have a1:aF 128 w.2.2.2.2.2.1.length 1=X:=aC (by decide) (by omega);unfold qC Mp BX aK eG ET A1 aL aS bA bZ dS oF zA zE zH D2 D1 E4 GB Gz GD G6 A0 A4 A3 A8 B0 B8;simp only[w1,fC,aA];cases c1:(kd==(1:Int)) with
 | true=>
  show Option.bind (Je w) _=_;rw[bL2 hF hk hB1];rfl
 | false=>
 cases c2:(kd==(2:Int)) with
 | true=>
  simp only[zY,zZ,Cg,zU,zV];cases hin:B3 n 0 ((w.2.2.2.2.2.1.length:Int) - 1) with
  | false=>rfl
  | true=>
   obtain⟨i,x,rfl,hx,_,_⟩:=Iw l1 hin;have hx:(bS w)[i]? =U x:=hx;have e1:=bWm (w:=w) hx l1;have kg:=Vg hk i;obtain⟨m1,m2,m3⟩:=Jw kg (by omega);have hxm:=Cm hx;have htx:tot A9 x.2.2<=34359738368:=by
    have h1:=kE (t:=C5) hxm;have h2:tot C5 x=tot A9 x.2.2:=by simp[sI,vZ]
    have :=hk.tot;omega
   have e2:=Xt (w:=Gj w i) (r:=x.1) (inn:=x.2.1) m1 m2 m3 htx (hk.bytes.fly x hxm);have e3:Option.bind (Option.bind (fQ (Gj w i) x.1 x.2.1 x.2.2) λy4=>U y4) (λs5=>U (X,s5))=U (X,aN (pS (Gj w i) x.1 x.2.1 x.2.2)):=by rw[e2];rfl
   rw[zZ,e1,aA];have hx':w.2.2.2.2.2.1[((i:Nat):Int).toNat]? =U x:=by rw[Cj];exact hx
   rw[hx'];exact e3
 | false=>
 cases c3:(kd==(3:Int)) with
 | true=>
  simp only[zY,zZ,Cg,zU,zV];cases hin:B3 n 0 ((w.2.2.2.2.2.1.length:Int) - 1) with
  | false=>rfl
  | true=>
   obtain⟨i,x,rfl,hx,_,_⟩:=Iw l1 hin;have hx:(bS w)[i]? =U x:=hx;have e1:=bWm (w:=w) hx l1;rw[zZ,e1,aA];rfl
 | false=>
 cases c4:(kd==(4:Int)) with
 | true=>
  simp only[zY,zZ,Cg,zU,zV];cases hin:B3 n 0 ((w.2.2.2.2.2.1.length:Int) - 1) with
  | false=>rfl
  | true=>
   obtain⟨i,x,rfl,hx,hlt,hz⟩:=Iw l1 hin;have hx:(bS w)[i]? =U x:=hx;have hxm:=Cm hx;have htx:tot A9 x.2.2<=274877906944:=by
    have h1:=kE (t:=C5) hxm;have h2:tot C5 x=tot A9 x.2.2:=by simp[sI,vZ]
    have :=hk.tot;omega
   have hx':w.2.2.2.2.2.1[((i:Nat):Int).toNat]? =U x:=by rw[Cj];exact hx
   have e1:=MF (iU htx);cases D ((w.2.2.2.2.2.1.length:Int)>=150) with
   | true=>rfl
   | false=>
    simp only[BZ,Cn,zY,zZ,aA,hlt,hz,hx',a1,EV];rw[show ((x.2.2.1,x.2.2.2.1,x.2.2.2.2.1,x.2.2.2.2.2.1,x.2.2.2.2.2.2.1,x.2.2.2.2.2.2.2.1,x.2.2.2.2.2.2.2.2.1,x.2.2.2.2.2.2.2.2.2.1,x.2.2.2.2.2.2.2.2.2.2.1,x.2.2.2.2.2.2.2.2.2.2.2):den A9)=x.2.2 from rfl,e1,aA];rfl
 | false=>
 cases c5:(kd==(5:Int)) with
 | true=>
  simp only[zY,zZ,Cg,zU,zV,aA,GI];rw[show ((w.1,w.2.1,w.2.2.1,w.2.2.2.1,w.2.2.2.2.1,w.2.2.2.2.2.1,w.2.2.2.2.2.2.1,w.2.2.2.2.2.2.2.1,w.2.2.2.2.2.2.2.2):den B1)=w from rfl,bVy n1.links n1.dead];rfl
 | false=>
 cases c6:(kd==(6:Int)) with
 | true=>
  simp only[zY,zZ,Cg,zU,zV,aA,II];rw[show ((w.1,w.2.1,w.2.2.1,w.2.2.2.1,w.2.2.2.2.1,w.2.2.2.2.2.1,w.2.2.2.2.2.2.1,w.2.2.2.2.2.2.2.1,w.2.2.2.2.2.2.2.2):den B1)=w from rfl,bVy n1.links n1.dead];rfl
 | false=>
 cases c7:(kd==(7:Int)) with
 | true=>
  simp only[zY,zZ,Cg,zU,zV,aA,E7,aD,F7 n1.as];have e1:=MF (iU hp);cases cK w.1 to with
  | false=>rfl
  | true=>
   cases D ((w.2.2.2.2.2.1.length:Int)>=150) with
   | true=>rfl
   | false=>
    simp only[BZ,Cn,zY,zZ,aA,a1,e1];rfl
 | false=>
 cases c8:(kd==(8:Int)) with
 | true=>
  simp only[zY,zZ,Cg,zU,zV,aA,E7,aD];unfold KK BX A1 Ct A0 A4 A3 A8 B0 B8;simp only[w2,fC,aA,c8,zZ];cases hin:B3 n 0 ((w.2.2.2.2.2.2.1.length:Int) - 1) with
  | false=>rfl
  | true=>
   obtain⟨i,x,rfl,hx,hlt,hz⟩:=Iw l2 hin;have hx:(aG w)[i]? =U x:=hx;have hxm:=Cm hx;have hx':w.2.2.2.2.2.2.1[((i:Nat):Int).toNat]? =U x:=by rw[Cj];exact hx
   have hfx:tot B7 x<=34359738368:=by
    have h1:=kE (t:=B7) hxm;have :=hk.tot;omega
   have e1:=cLg (f:=x) (b:=data) ((bH hfx).mono (by decide)) hd;have hlt2:D (((i:Nat):Int).toNat<w.2.2.2.2.2.2.1.length)=X:=zX (by rw[Cj];exact (Cu.1 hx).1);simp only[BZ,zY,zZ,hlt,hz,hx',hlt2,aA];rw[show ((x.1,x.2.1,x.2.2.1,x.2.2.2.1,x.2.2.2.2.1,x.2.2.2.2.2.1,x.2.2.2.2.2.2.1,x.2.2.2.2.2.2.2.1,x.2.2.2.2.2.2.2.2):den B7)=x from rfl,e1,aA];unfold Pr LN;cases tZ (enq x data)<;>rfl
 | false=>
  simp only[h9,zY,zZ,Cg,zU,zV,aA,E7];rfl
def MV(m:Nat)(l:List Int):Prop:=l.Pairwise (λa b=>a<b)/\ ∀n∈l,0<=n/\n<(m:Int)
theorem bE5(m:Nat)(dead:List Int)(i:Int)(b:Bool):MV m (yV m dead i b):=by
 unfold yV;refine⟨List.Pairwise.filter _ (List.pairwise_map.2 (List.pairwise_lt_range.imp λh=>by omega)),λn hn=> ?_⟩;obtain⟨k,hk,rfl⟩:=Ch.1 (C2.1 hn).1;have :=List.mem_range.1 hk;exact⟨by omega,by omega⟩
theorem WO:∀{a b:List Int},a.Pairwise (λx y=>x<y)->b.Pairwise (λx y=>x<y)->(∀x,x∈a↔x∈b)->a=b
 | [],[],_,_,_=>rfl
 | [],y::b,_,_,h=>absurd ((h y).2 (by simp)) (by simp)
 | x::a,[],_,_,h=>absurd ((h x).1 (by simp)) (by simp)
 | x::a,y::b,ha,hb,h=>by
  rw[List.pairwise_cons]at ha hb;have hxy:x=y:=by
   rcases Cl.1 ((h x).1 (by simp)) with e | e
   .exact e
   .rcases Cl.1 ((h y).2 (by simp)) with e' | e'
    .exact e'.symm
    .have h1:=ha.1 y e';have h2:=hb.1 x e;omega
  subst hxy;rw[WO ha.2 hb.2 λz=> ?_];constructor
  .intro hz;have :=ha.1 z hz;rcases Cl.1 ((h z).1 (C1 _ hz)) with e | e
   .omega
   .exact e
  .intro hz;have :=hb.1 z hz;rcases Cl.1 ((h z).2 (C1 _ hz)) with e | e
   .omega
   .exact e
theorem cFj{l:List Int}{n:Int}(h:l.Pairwise λx y=>x<y):(yU l n).Pairwise λx y=>x<y:=by
 unfold yU;split
 .exact h
 .rename_i hne;have hlt:∀x∈l.take (oP l n),x<n:=λx hx=>by
   obtain⟨i,hi,he⟩:=bTp hx;obtain⟨hil,e⟩:=Cu.1 he;have :=List.not_of_lt_findIdx (p:=λx=> !D (x<n)) (xs:=l) (show i<l.findIdx _ from hi);rw[e]at this;simpa using this
  have hgt:∀x∈l.drop (oP l n),n<x:=λx hx=>by
   obtain⟨i,he⟩:=UR.1 hx;rw[Ex]at he;obtain⟨hil,e⟩:=Cu.1 he;have hp:oP l n<l.length:=by omega
   have h1:=List.findIdx_getElem (p:=λx=> !D (x<n)) (xs:=l) (w:=hp);have h1: ¬ (l[oP l n]'hp<n):=by
    have h1:(!D (l[oP l n]'hp<n))=X:=h1;simpa using h1
   have h2:l[oP l n]'hp≠n:=λe'=>hne (by rw[Cs hp,e'])
   by_cases hi0:i=0
   .subst hi0;have e:l[oP l n]'hp=x:=e;omega
   .have :=(List.pairwise_iff_getElem.1 h) (oP l n) (oP l n+i) hp hil (by omega);rw[e]at this;omega
  rw[CY,List.pairwise_append];refine⟨h.sublist (List.take_sublist _ _),?_,λx hx y hy=> ?_⟩
  .rw[List.singleton_append,List.pairwise_cons];exact⟨hgt,h.sublist (List.drop_sublist _ _)⟩
  .rcases C0.1 hy with hy | hy
   .rw[Cy.1 hy];exact hlt x hx
   .have :=hlt x hx;have :=hgt y hy;omega
theorem bHa{l:List Int}{n:Int}:oG l n=X↔n∈l:=by
 unfold oG;rw[Eu,List.all_eq_false];constructor
 .rintro⟨x,hx,e⟩
  have :x=n:=by simpa using e
  rw[<- this];exact hx
 .intro h;exact⟨n,h,by simp⟩
theorem bEi{m:Nat}{dead:List Int}{i x:Int}{b:Bool}:x∈yV m dead i b↔(0<=x/\x<(m:Int))/\((x∈dead/\x≠i)\/(b=X/\x=i)):=by
 unfold yV;rw[C2];constructor
 .rintro⟨h1,h2⟩
  obtain⟨k,hk,rfl⟩:=Ch.1 h1;have :=List.mem_range.1 hk;simp only[Fs,Ck,bne_iff_ne,beq_iff_eq]at h2;exact⟨⟨by omega,by omega⟩,h2.imp (λh=>⟨bHa.1 h.1,h.2⟩) id⟩
 .rintro⟨⟨h1,h2⟩,h3⟩
  obtain⟨k,rfl⟩:=Ew h1;refine⟨Ch.2 ⟨k,List.mem_range.2 (by omega),rfl⟩,?_⟩;simp only[Fs,Ck,bne_iff_ne,beq_iff_eq];exact h3.imp (λh=>⟨bHa.2 h.1,h.2⟩) id
theorem bVr{m:Nat}{dead:List Int}{i:Int}(h:MV m dead)(hi:0<=i/\i<(m:Int)):yU dead i=yV m dead i X:=by
 refine WO (cFj h.1) (bE5 m dead i X).1 λx=> ?_
 rw[bEi];constructor
 .intro hx;rcases bXk hx with rfl | hx
  .exact⟨hi,.inr ⟨rfl,rfl⟩⟩
  .by_cases e:x=i
   .subst e;exact⟨hi,.inr ⟨rfl,rfl⟩⟩
   .exact⟨h.2 x hx,.inl ⟨hx,e⟩⟩
 .rintro⟨_,⟨hx,_⟩ | ⟨_,rfl⟩⟩
  .exact bZp hx
  .exact bVb _ _
theorem bTc{m:Nat}{dead:List Int}{i:Int}(h:MV m dead):(dead.filter λx=>x != i)=yV m dead i Y:=by
 refine WO (h.1.filter _) (bE5 m dead i Y).1 λx=> ?_
 rw[bEi,C2];constructor
 .rintro⟨hx,e⟩
  exact⟨h.2 x hx,.inl ⟨hx,by simpa using e⟩⟩
 .rintro⟨_,⟨hx,e⟩ | ⟨e,_⟩⟩
  .exact⟨hx,by simpa using e⟩
  .cases e
theorem bTb{w:den B1}{i:Nat}{x:den C5}(hx:(bS w)[i]? =U x)(hl:(bS w).length<=68719476736):gR w (i:Int)=U (dG x (Gj w i)):=by
 have hlt:i<(bS w).length:=(Cu.1 hx).1;have hx:w.2.2.2.2.2.1[((i:Nat):Int).toNat]? =U x:=by rw[Cj];exact hx
 have h1:D ((i:Int)<(w.2.2.2.2.2.1.length:Int))=X:=zX (by have :i<w.2.2.2.2.2.1.length:=hlt;omega);have e1:wr ((i:Int)+1)=((i+1:Nat):Int):=(wri (by omega) (by omega)).trans (by omega);have h2:bG ((i+1:Nat):Int) (w.2.2.2.2.2.1.length:Int) (w.2.2.2.2.2.1.length:Int)=X:=wS (show i+1<=w.2.2.2.2.2.1.length from hlt);have h3:bG (0:Int) (i:Int) (w.2.2.2.2.2.1.length:Int)=X:=GS (k:=i) (Nat.le_of_lt hlt);have hl:w.2.2.2.2.2.1.length<=68719476736:=hl;unfold gR BX aK aS bA A0 A4 A3 A8 B0 B8;simp only[h1,hx,aA,zZ,e1,h2,h3,fL,HS,CH,aC (b:=128) (n:=([]:CR).length) (m:=(w.2.2.2.2.2.1.take i).length) (by decide) (by simp;omega),aC (b:=128) (n:=(w.2.2.2.2.2.1.take i).length) (m:=(w.2.2.2.2.2.1.drop (i+1)).length) (by decide) (by simp;omega),zX (show (0:Int)<=(i:Int) by omega)];rfl
theorem cN2{B F:Nat}{w:den B1}{e:den yP}(hF:F<=1000)(hk:fJ B F w)(hB:B+(F+1) * (160+F)<=34359738368)(h9:(e.1==(9:Int))=Y)(hd:Cc 137438953472 (.sl tb) e.2.2.1)(hp:tot A9 e.2.2.2.2.2<=274877906944)(hdead:MV (nT w).2.length (bC w)):kV w e=U ((Mp w e).1,aN (Mp w e).2):=by
 obtain⟨kd,n,data,to,ing,pk⟩:=e;simp only at h9 hd hp;have hB0:B<=34359738368:=by have :=C3 ((F+1) * (160+F));omega
 have hB1:B+F * (160+F)<=34359738368:=by rw[CZ]at hB;omega
 have l1:w.2.2.2.2.2.1.length<=68719476736:=MJ hk (by omega);have l2:w.2.2.2.2.2.2.1.length<=68719476736:=B5 hk.flows (by omega);obtain⟨n1,n2,n3⟩:=Jw hk (by omega);have l3:w.1.2.length<=68719476736:=n1.links;have l4:w.2.2.2.2.1.length<=68719476736:=by
  have h1:=dX w;have h2:=cO (t:=ti) (bC w);have h3:=hk.tot;have h4:(bC w).length<=68719476736:=by omega
  exact h4
 have w1:wr ((w.2.2.2.2.2.1.length:Int) - 1)=(w.2.2.2.2.2.1.length:Int) - 1:=dO (by omega);have w2:wr ((w.2.2.2.2.2.2.1.length:Int) - 1)=(w.2.2.2.2.2.2.1.length:Int) - 1:=dO (by omega);have w3:wr ((w.1.2.length:Int) - 1)=(w.1.2.length:Int) - 1:=dO (by omega);have a1:aF 128 w.2.2.2.2.2.1.length 1=X:=aC (by decide) (by omega);unfold kV Mp BX aK eG ET A1 A6 Ct aL aS bA bZ dS oF zA zE zH D2 D1 E4 GB Gz GD G6 A0 A4 A3 A8 B0 B8;simp only[w1,w2,w3,gX,aA];cases c1:(kd==(1:Int)) with
 | true=>
  simp only[zZ];rw[show ((w.1,w.2.1,w.2.2.1,w.2.2.2.1,w.2.2.2.2.1,w.2.2.2.2.2.1,w.2.2.2.2.2.2.1,w.2.2.2.2.2.2.2.1,w.2.2.2.2.2.2.2.2):den B1)=w from rfl,bMn hF hk hB1];rfl
 | false=>
 cases c2:(kd==(2:Int)) with
 | true=>
  have c3:(kd==(3:Int))=Y:=by rw[eq_of_beq c2];rfl
  simp only[zY,zZ,aA,c3,Cg,zU,zV];cases hin:B3 n 0 ((w.2.2.2.2.2.1.length:Int) - 1) with
  | false=>rfl
  | true=>
   obtain⟨i,x,rfl,hx,_,_⟩:=Iw l1 hin;have hx:(bS w)[i]? =U x:=hx;have e1:=bTb (w:=w) hx l1;have kg:=Vg hk i;obtain⟨m1,m2,m3⟩:=Jw kg (by omega);have hxm:=Cm hx;have htx:tot A9 x.2.2<=34359738368:=by
    have h1:=kE (t:=C5) hxm;have h2:tot C5 x=tot A9 x.2.2:=by simp[sI,vZ]
    have :=dX w;have :=hk.tot;omega
   have e2:=WE (w:=Gj w i) (r:=x.1) (inn:=x.2.1) m1 m2 m3 htx (hk.bytes.fly x hxm);have e3:Option.bind (cC (Gj w i) x.1 x.2.1 x.2.2) (λy7=>(U (A7 y7):Option ((CR×CK×Dj×D7×D8×Co×Co×Int×C4×Dk×Int×List Int×Int)⊕(Bool×CR×CK×Dj×D7×D8×Co×Co×Int×C4×Dk×Int×List Int×Int))))=U (A7 (aN (pS (Gj w i) x.1 x.2.1 x.2.2))):=by rw[e2];rfl
   have hx':w.2.2.2.2.2.1[((i:Nat):Int).toNat]? =U x:=by rw[Cj];exact hx
   simp only[BZ,zY];rw[show ((w.1,w.2.1,w.2.2.1,w.2.2.2.1,w.2.2.2.2.1,w.2.2.2.2.2.1,w.2.2.2.2.2.2.1,w.2.2.2.2.2.2.2.1,w.2.2.2.2.2.2.2.2):den B1)=w from rfl,e1,aA,hx'];exact congrArg (λo=>Option.bind o λz=>Cd (λs32=>U (X,s32)) U z) e3
 | false=>
 cases c3:(kd==(3:Int)) with
 | true=>
  simp only[zY,zZ,aA,Cg,zU,zV];cases hin:B3 n 0 ((w.2.2.2.2.2.1.length:Int) - 1) with
  | false=>rfl
  | true=>
   obtain⟨i,x,rfl,hx,_,_⟩:=Iw l1 hin;have hx:(bS w)[i]? =U x:=hx;have e1:=bTb (w:=w) hx l1;simp only[BZ,zY];rw[show ((w.1,w.2.1,w.2.2.1,w.2.2.2.1,w.2.2.2.2.1,w.2.2.2.2.2.1,w.2.2.2.2.2.2.1,w.2.2.2.2.2.2.2.1,w.2.2.2.2.2.2.2.2):den B1)=w from rfl,e1,aA];rfl
 | false=>
 cases c4:(kd==(4:Int)) with
 | true=>
  simp only[zY,zZ,aA,Cg,zU,zV];cases hin:B3 n 0 ((w.2.2.2.2.2.1.length:Int) - 1) with
  | false=>rfl
  | true=>
   obtain⟨i,x,rfl,hx,hlt,hz⟩:=Iw l1 hin;have hx':w.2.2.2.2.2.1[((i:Nat):Int).toNat]? =U x:=by rw[Cj];exact hx
   cases D ((w.2.2.2.2.2.1.length:Int)>=150) with
   | true=>rfl
   | false=>
    simp only[BZ,Cn,zY,zZ,aA,hlt,hz,hx',a1,EV];rfl
 | false=>
 cases c5:(kd==(5:Int)) with
 | true=>
  simp only[zY,zZ,aA,Cg,zU,zV,GI,MN (l:=w.2.2.2.2.1) (show w.2.2.2.2.1.length<=549755813888 by omega),Q2 (l:=w.2.2.2.2.1) (show w.2.2.2.2.1.length<=137438953472 by omega)];unfold Na Om;cases hin:B3 n 0 ((w.1.2.length:Int) - 1) with
  | false=>
   cases oG (bC w) n<;>rfl
  | true=>
   obtain⟨g0,g1⟩:=bQ.1 hin;cases hh:oG (bC w) n with
   | true=>
    rfl
   | false=>
    have ef:=bVr (m:=(nT w).2.length) (dead:=bC w) (i:=n) hdead ⟨g0,Int.lt_of_le_of_lt g1 (show ((w.1.2.length:Int) - 1<(w.1.2.length:Int)) by omega)⟩;have ef:yU w.2.2.2.2.1 n=yV (nT w).2.length (bC w) n X:=ef;rw[ef];rfl
 | false=>
 cases c6:(kd==(6:Int)) with
 | true=>
  simp only[zY,zZ,aA,Cg,zU,zV,II,MN (l:=w.2.2.2.2.1) (show w.2.2.2.2.1.length<=549755813888 by omega)];unfold Na Om;cases hin:B3 n 0 ((w.1.2.length:Int) - 1) with
  | false=>
   cases oG (bC w) n<;>rfl
  | true=>
   cases hh:oG (bC w) n with
   | false=>
    rfl
   | true=>
    simp only[BZ,zY,aA];have ef:=bTc (m:=(nT w).2.length) (dead:=bC w) (i:=n) hdead;have ef:(w.2.2.2.2.1.filter λx=>x != n)=yV (nT w).2.length (bC w) n Y:=ef;refine bLl (G:=λo=>Option.bind o (λz=>Cd (λs32=>U (X,s32)) U z)=U (X,aN (Ov w (yV (nT w).2.length (bC w) n Y)))) w.2.2.2.2.1.length (λs:Int×List Int=>s.1) (λk s=>s.2.length<=k/\s.2=(w.2.2.2.2.1.take k).filter λx=>x != n) (λr:List Int=>r=w.2.2.2.2.1.filter λx=>x != n) ?_ ?_ 0 ((0:Int),[]) (C3 _) rfl ⟨by simp,by simp⟩ ?_
    .rintro k ⟨_,l⟩ hk' rfl ⟨g1,g2⟩
     simp only at g1 g2;right;have hx:w.2.2.2.2.1[k]? =U w.2.2.2.2.1[k]:=Cs hk';have ht:(w.2.2.2.2.1.take (k+1)).filter (λx=>x != n)=l++(if w.2.2.2.2.1[k] != n then [w.2.2.2.2.1[k]] else []):=by
      rw[List.take_add_one,hx,List.filter_append,g2];congr 1;show List.filter _ [w.2.2.2.2.1[k]]=_;rw[PA,List.filter_nil]
     simp only[zX (show (k:Int)<(w.2.2.2.2.1.length:Int) by omega),zZ,aQ,hx,aA,aC (b:=8) (n:=l.length) (m:=1) (by decide) (by omega),show wr ((k:Int)+1)=((k+1:Nat):Int) from (wri (by omega) (by omega)).trans (by omega)];cases hb:(w.2.2.2.2.1[k] != n) with
     | true=>rw[hb,zT rfl]at ht;exact⟨_,rfl,rfl,by simp;omega,ht.symm⟩
     | false=>rw[hb,zS (by simp),CU]at ht;exact⟨_,rfl,rfl,by show l.length<=k+1;omega,ht.symm⟩
    .rintro⟨_,l⟩ rfl ⟨g1,g2⟩
     exact⟨l,by simp only[zW (Int.lt_irrefl _),zY],by simpa using g2⟩
    .rintro r rfl
     rw[ef];rfl
 | false=>
 cases c7:(kd==(7:Int)) with
 | true=>
  simp only[zY,zZ,aA,Cg,zU,zV,E7,aD,Fa n1.as];cases cK w.1 to with
  | false=>rfl
  | true=>
   cases D ((w.2.2.2.2.2.1.length:Int)>=150) with
   | true=>rfl
   | false=>
    simp only[BZ,Cn,zY,zZ,aA,a1];rfl
 | false=>
 cases c8:(kd==(8:Int)) with
 | true=>
  simp only[zY,zZ,aA,Cg,zU,zV,E7,bB,cB,bL,bJ,bO];cases hin:B3 n 0 ((w.2.2.2.2.2.2.1.length:Int) - 1) with
  | false=>rfl
  | true=>
   obtain⟨i,x,rfl,hx,hlt,hz⟩:=Iw l2 hin;have hx:(aG w)[i]? =U x:=hx;have hxm:=Cm hx;have hx':w.2.2.2.2.2.2.1[((i:Nat):Int).toNat]? =U x:=by rw[Cj];exact hx
   have hfx:tot B7 x<=34359738368:=by
    have h1:=kE (t:=B7) hxm;have :=dX w;have :=hk.tot;omega
   have e1:=cLc (f:=x) (b:=data) ((bH hfx).mono (by decide)) hd;have hlt2:D (((i:Nat):Int).toNat<w.2.2.2.2.2.2.1.length)=X:=zX (by rw[Cj];exact (Cu.1 hx).1);simp only[BZ,zY,zZ,hlt,hz,hx',hlt2,aA];rw[show ((x.1,x.2.1,x.2.2.1,x.2.2.2.1,x.2.2.2.2.1,x.2.2.2.2.2.1,x.2.2.2.2.2.2.1,x.2.2.2.2.2.2.2.1,x.2.2.2.2.2.2.2.2):den B7)=x from rfl,e1,aA];unfold Pr LN;cases tZ (enq x data)<;>rfl
 | false=>
  simp only[h9,zY,zZ,aA,Cg,zU,zV,E7];rfl
theorem cE7{m:Nat}{l:List Int}(h:(l.zipIdx 0).all (λz=>Ek l m z.2 z.1)=X):MV m l:=by
 have hz:=(MI (Ek l m) l).1 h;have hr:∀n∈l,0<=n/\n<(m:Int):=λn hn=>by
  obtain⟨k,hk⟩:=UR.1 hn;have :=hz k n hk;unfold Ek at this;rw[Ck]at this;have :=bQ.1 this.1;omega
 refine⟨List.pairwise_iff_getElem.2 λi j hi hj hij=> ?_,hr⟩;obtain⟨d,rfl⟩:∃d,j=i+1+d:=⟨j - (i+1),by omega⟩
 induction d with
 | zero=>
  have :=hz (i+1) (l[i+1]'hj) (Cs hj);unfold Ek at this;rw[Ck,Fs,zR]at this;rcases this.2 with h0 | h0
  .omega
  .rw[show i+1 - 1=i by omega,Cs hi,CJ]at h0;have h0: ¬ (l[i]'hi>=l[i+1]'hj):=by simpa using h0
   exact Int.not_le.1 h0
 | succ d ih=>
  have h1:=ih (by omega) (by omega);have :=hz (i+1+(d+1)) (l[i+1+(d+1)]'hj) (Cs hj);unfold Ek at this;rw[Ck,Fs,zR]at this;rcases this.2 with h0 | h0
  .omega
  .rw[show i+1+(d+1) - 1=i+1+d by omega,Cs (by omega),CJ]at h0;have h0: ¬ (l[i+1+d]'(by omega)>=l[i+1+(d+1)]'hj):=by simpa using h0
   exact Int.lt_trans h1 (Int.not_le.1 h0)
theorem CO{b n m:Nat}(hb:b<=60)(h:n+m<=2000000000001):aF b n m=X:=by
 simp only[aF,zR]
 calc (n+m) * (b+1)<=2000000000001 * 61:=Nat.mul_le_mul h (by omega)
  _<=140737488355328:=by decide
theorem bAm{α β:Type}(g:α->List β):∀(l:List α) (k:Nat) (a:List β),cW (λ_ x a=>a++g x) k l a=a++l.flatMap g
 | [],_,a=>(CU a).symm
 | x::l,k,a=>by
  show cW _ (k+1) l (a++g x)=_;rw[bAm g l (k+1) (a++g x),List.flatMap_cons,CY]
theorem dK{α β R:Type}(l:List α)(g:α->List β)(out:List β->R)(a0:List β){step:Int×List β->Option ((Int×List β)⊕R)}(hl:l.length<=1000000)(hN:a0.length+(l.map λx=>(g x).length).sum<=2000000000000)
  (hs:∀(k:Nat) (x:α) (a:List β),idx l (k:Int)=U x->l[k]? =U x->x∈l->D ((k:Int)<(l.length:Int))=X->wr ((k:Int)+1)=((k+1:Nat):Int)->a.length+(g x).length<=2000000000000->step ((k:Int),a)=U (.inl (((k+1:Nat):Int),a++g x)))
  (he:∀a,step ((l.length:Int),a)=U (.inr (out a))):aB step ((0:Int),a0)=U (out (a0++l.flatMap g)):=by
 rw[fV (λk (a:List β)=>((k:Int),a)) ((0:Int),a0) a0 l (λ_ x a=>a++g x) Cr (λx=>(g x).length) 2000000000000 out rfl (by omega) hN (λk x a=>by rw[C7];exact Cz _) (λk x a h1 h2 h3 h4 h5 h6=>hs k x a h1 h2 (Cm h2) h3 h4 h6) he,bAm]
theorem Fb{α:Type}{f:α->Nat}{c:Nat}:∀{l:List α},(∀x∈l,f x<=c)->(l.map f).sum<=l.length * c
 | [],_=>C3 _
 | x::l,h=>by
  have h1:=h x (by simp);have h2:=Fb (l:=l) λy hy=>h y (C1 _ hy)
  rw[CA,List.sum_cons,C6,CZ];omega
theorem KX{α β:Type}{g:α->List β}{c:Nat}:∀{l:List α},(∀x∈l,(g x).length<=c)->(l.flatMap g).length<=l.length * c
 | [],_=>C3 _
 | x::l,h=>by
  have h1:=h x (by simp);have h2:=KX (l:=l) λy hy=>h y (C1 _ hy)
  rw[List.flatMap_cons,C7,C6,CZ];omega
def dE(s:den B9):Int:=match s.2.2 with
 | []=> -1
 | h::_=>h.1
def D3(s:den B9):Int:=if s.2.2.length=0 then -1 else ((s.2.2[s.2.2.length - 1]?).getD h0).1
theorem bWj(s:den B9):lG s=U (dE s):=by
 unfold lG dE;cases h:s.2.2 with
 | nil=>rfl
 | cons x l=>rfl
theorem XF(s:den B9):lY s=U (dE s):=by
 unfold lY dE;cases h:s.2.2 with
 | nil=>rfl
 | cons x l=>rfl
theorem bUc{s:den B9}(hl:s.2.2.length<=1000000):yC s=U (D3 s):=by
 unfold yC D3
 by_cases h:s.2.2.length=0
 .rw[zT h,h];rfl
 .rw[zS h,show ((s.2.2.length:Int)==0)=Y by rw[beq_eq_false_iff_ne];omega,zY,Te (by omega) (by omega),aQ,Cs (show s.2.2.length - 1<s.2.2.length by omega)];rfl
theorem bWe{s:den B9}(hl:s.2.2.length<=1000000):xZ s=U (D3 s):=by
 unfold xZ D3
 by_cases h:s.2.2.length=0
 .rw[zT h,h];rfl
 .rw[zS h,show ((s.2.2.length:Int)==0)=Y by rw[beq_eq_false_iff_ne];omega,zY,Te (by omega) (by omega),aQ,Cs (show s.2.2.length - 1<s.2.2.length by omega)];rfl
def XN(b:Int)(l:List Int):Int:=l.foldl JT b
def Me(l:eV):List Int:=l.map λh=>h.2.2.2.2
theorem cHb{l:eV}(hl:l.length<=1000000):La l=U (Me l):=by
 unfold La A0;rw[fV (λk (a:List Int)=>((k:Int),a)) ((0:Int),[]) [] l (λ_ x a=>a++[x.2.2.2.2]) Cr (λ_=>1) 1000000 id rfl (by omega) (by rw[cT];simpa using hl) (λk x a=>by simp) (λk x a hi hx hd hw hk hb=>by
  simp only[hd,hi,hw,zZ,aA,CO (b:=8) (n:=a.length) (m:=1) (by decide) (by omega)]) (λa=>by simp),dR (λh:den cH=>h.2.2.2.2)]
 rfl
theorem cGn{b:Int}{l:List Int}(hl:l.length<=1000000):K5 b l=U (XN b l):=by
 unfold K5;rw[fV (λk (a:Int)=>(a,(k:Int))) (b,(0:Int)) b l (λ_ x a=>JT a x) (λ_=>0) (λ_=>0) 1 id rfl (by omega) (by rw[sum_nil];omega) (λk x a=>by omega) (λk x a hi hx hd hw hk hb=>by
  simp only[hd,hi,hw,zZ,aA,XC]) (λa=>by simp),rS]
 rfl
theorem cGo{b:Int}{l:List Int}(hl:l.length<=1000000):KA b l=U (XN b l):=by
 unfold KA;rw[fV (λk (a:Int)=>(a,(k:Int))) (b,(0:Int)) b l (λ_ x a=>JT a x) (λ_=>0) (λ_=>0) 1 id rfl (by omega) (by rw[sum_nil];omega) (λk x a=>by omega) (λk x a hi hx hd hw hk hb=>by
  simp only[hd,hi,hw,zZ,aA,XT]) (λa=>by simp),rS]
 rfl
theorem cKa{s:den B9}{n:Nat}(hn:n<=s.2.2.length)(hl:s.2.2.length<=1000000):IW s (n:Int)=U (Me (s.2.2.take n)):=by
 have e:(s.2.2.take n).length=n:=by rw[Dy];omega
 unfold IW A0;rw[fV (λk (a:List Int)=>((k:Int),a)) ((0:Int),[]) [] (s.2.2.take n) (λ_ x a=>a++[x.2.2.2.2]) Cr (λ_=>1) 1000000 id rfl (by omega) (by rw[cT];simp;omega) (λk x a=>by simp) (λk x a hi hx hd hw hk hb=>by
  have hx:=(So hx).1;rw[e]at hd;simp only[hd,aQ,hx,hw,zZ,aA,CO (b:=8) (n:=a.length) (m:=1) (by decide) (by omega)]) (λa=>by rw[e];simp),dR (λh:den cH=>h.2.2.2.2)]
 rfl
def vX(s:den B9)(i:Int):Int:=if B3 i 0 (s.2.2.length:Int) then XN s.2.1 (Me (s.2.2.take i.toNat)) else 0
theorem SZ{s:den B9}{i:Int}(hl:s.2.2.length<=1000000):qL s i=U (vX s i):=by
 unfold qL vX;simp only[gX,aA];cases h:B3 i 0 (s.2.2.length:Int) with
 | false=>rfl
 | true=>
  obtain⟨g0,g1⟩:=bQ.1 h;obtain⟨n,rfl⟩:=Ew g0;have e:(s.2.2.take n).length<=1000000:=by rw[Dy];omega
  have e2:(Me (s.2.2.take n)).length<=1000000:=by unfold Me;rw[CF];exact e
  have e3:bG (0:Int) (n:Int) (s.2.2.length:Int)=X:=GS (by omega);simp only[BZ,zY,e3,zZ,fL,cHb e,aA,cGn e2,zV,Cj]
theorem SS{s:den B9}{i:Int}(hl:s.2.2.length<=1000000):sJ s i=U (vX s i):=by
 unfold sJ vX A6;simp only[fC,aA];cases h:B3 i 0 (s.2.2.length:Int) with
 | false=>rfl
 | true=>
  obtain⟨g0,g1⟩:=bQ.1 h;obtain⟨n,rfl⟩:=Ew g0;have e2:(Me (s.2.2.take n)).length<=1000000:=by unfold Me;rw[CF,Dy];omega
  have e3:IW (s.1,s.2.1,s.2.2) (n:Int)=U (Me (s.2.2.take n)):=cKa (s:=s) (by omega) hl;simp only[BZ,zY,e3,aA,cGo e2,zV,Cj]
def pV(s:den B9)(k i:Int):den Cb:=
 if B3 i 0 ((s.2.2.length:Int) - 1)&&B3 k 1 4 then
  (if uD k then (k,s.1,vX s (s.2.2.length:Int),(s.2.2.drop i.toNat).reverse) else (k,s.1,vX s i,s.2.2.drop i.toNat))
 else (0,0,0,[])
theorem Si(s:den B9)(k i:Int):(pV s k i).2.2.2.length<=s.2.2.length:=by
 unfold pV;split
 .split
  .show (s.2.2.drop i.toNat).reverse.length<=_;rw[List.length_reverse,IJ];omega
  .show (s.2.2.drop i.toNat).length<=_;rw[IJ];omega
 .exact C3 _
theorem Qx{s:den B9}{k i:Int}(hl:s.2.2.length<=1000000):gG s k i=U (pV s k i):=by
 unfold gG pV A6 B6;simp only[gX,aA,bB,cB,bL,bJ,bO,oM (n:=(s.2.2.length:Int) - 1) (by omega) (by omega)];cases c1:B3 i 0 ((s.2.2.length:Int) - 1) with
 | false=>rfl
 | true=>
  cases c2:B3 k 1 4 with
  | false=>rfl
  | true=>
   obtain⟨g0,g1⟩:=bQ.1 c1;obtain⟨n,rfl⟩:=Ew g0;have e1:bG (n:Int) (s.2.2.length:Int) (s.2.2.length:Int)=X:=wS (by omega);have e2:qL (s.1,s.2.1,s.2.2) (n:Int)=U (vX s (n:Int)):=SZ (s:=s) hl;have e3:qL (s.1,s.2.1,s.2.2) (s.2.2.length:Int)=U (vX s (s.2.2.length:Int)):=SZ (s:=s) hl;have e4:(s.2.2.drop n).length<=549755813888:=by rw[IJ];omega
   simp only[BZ,zY,aA,e1,zZ,e2,HS,Xf e4,O3,EV,zV,Cj];cases uD k with
   | false=>rfl
   | true=>simp only[zZ,e3,bUn e4,aA,zV]
theorem ML{s:den B9}{k i:Int}(hl:s.2.2.length<=1000000):eH s k i=U (pV s k i):=by
 unfold eH pV A6 B6 Cp A0;simp only[fC,aA,bB,cB,bL,bJ,bO,oM (n:=(s.2.2.length:Int) - 1) (by omega) (by omega)];cases c1:B3 i 0 ((s.2.2.length:Int) - 1) with
 | false=>rfl
 | true=>
  cases c2:B3 k 1 4 with
  | false=>rfl
  | true=>
   obtain⟨g0,g1⟩:=bQ.1 c1;obtain⟨n,rfl⟩:=Ew g0;have e1:bG (n:Int) (s.2.2.length:Int) (s.2.2.length:Int)=X:=wS (by omega);have e2:sJ (s.1,s.2.1,s.2.2) (n:Int)=U (vX s (n:Int)):=SS (s:=s) hl;have e3:sJ (s.1,s.2.1,s.2.2) (s.2.2.length:Int)=U (vX s (s.2.2.length:Int)):=SS (s:=s) hl;simp only[BZ,zY,aA,e1,zZ,e2,HS,OB,EV,zV,Cj];cases uD k with
   | false=>
    simp only[Cn,zZ,CH,CO (b:=40) (n:=([]:eV).length) (m:=(s.2.2.drop n).length) (by decide) (by simp;omega),Cg,zU]
   | true=>
    simp only[BZ,zY,e3,aA,zV];have key:∀(m:Nat) (a:eV),n+m<=s.2.2.length->a.length+m<=s.2.2.length->aB (λs11:Int×Int×Int×Int×eV=>cond (D (s11.1>=(n:Int))) (Option.bind (idx s.2.2 s11.1) λx12=>cond (aF 40 s11.2.2.2.2.length 1) (U (A7 (wr (s11.1 - (1:Int)),s11.2.1,s11.2.2.1,s11.2.2.2.1,s11.2.2.2.2++[x12]))) W) (U (A2 (s11.2.1,s11.2.2.1,s11.2.2.2.1,s11.2.2.2.2)))) (((n+m:Nat):Int) - 1,k,s.1,vX s (s.2.2.length:Int),a)=U (k,s.1,vX s (s.2.2.length:Int),a++((s.2.2.drop n).take m).reverse):=by
     intro m
     induction m with
     | zero=>
      intro a h1 h2;refine aH ?_;simp only[zW (show ¬ (((n+0:Nat):Int) - 1>=(n:Int)) by omega),zY,List.take_zero,List.reverse_nil,CU]
     | succ m ih=>
      intro a h1 h2;have hx:s.2.2[n+m]? =U (s.2.2[n+m]'(by omega)):=Cs (by omega);have hw:((n+(m+1):Nat):Int) - 1=((n+m:Nat):Int):=by omega
      refine (aO (s':=(((n+m:Nat):Int) - 1,k,s.1,vX s (s.2.2.length:Int),a++[s.2.2[n+m]'(by omega)])) ?_).trans ?_
      .simp only[hw,zX (show ((n+m:Nat):Int)>=(n:Int) by omega),zZ,aQ,hx,aA,CO (b:=40) (n:=a.length) (m:=1) (by decide) (by omega),oM (n:=((n+m:Nat):Int) - 1) (by omega) (by omega)]
      .rw[ih (a++[s.2.2[n+m]'(by omega)]) (by omega) (by simp;omega)];have hd:(s.2.2.drop n)[m]? =U (s.2.2[n+m]'(by omega)):=by rw[Ex];exact hx
       rw[List.take_add_one,hd,List.reverse_append];simp
    have :=key (s.2.2.length - n) [] (by omega) (by simp);rw[show n+(s.2.2.length - n)=s.2.2.length by omega,CH,List.take_of_length_le (by rw[IJ];omega)]at this;rw[this];rfl
def cY(d:Co)(r:Int):Co:=d.filter λs=>D3 s==r
def qF(c:Co)(a b:Int):Co:=c.filter λs=>dE s==a&&D3 s==b
theorem PJ{α:Type}(p:α->Bool):∀l:List α,(l.flatMap λx=>cond (p x) [x] [])=l.filter p
 | []=>rfl
 | x::l=>by
  rw[List.flatMap_cons,PJ p l,PA];cases p x<;>rfl
theorem S6{α:Type}(p:α->Bool)(l:List α):(l.map λx=>(cond (p x) [x] []:List α).length).sum<=l.length:=by
 have :=Fb (f:=λx=>(cond (p x) [x] []:List α).length) (c:=1) (l:=l) λx _=>by cases p x<;>simp
 omega
theorem bJp{k:den CS}{r:Int}(hl:k.1.length<=1000000)(hh:∀s∈k.1,s.2.2.length<=1000000):kO k r=U (cY k.1 r):=by
 unfold kO cY A6;have hf:=S6 (λs=>D3 s==r) k.1;rw[dK k.1 (λs=>cond (D3 s==r) [s] []) id [] hl (by simpa using B5 hf (B5 hl (by decide))) (λi x a hi hx hm hd hw hb=>by
  have h1:=hh x hm;have e1:yC (x.1,x.2.1,x.2.2)=U (D3 x):=bUc (s:=x) h1;have e2:cG (x.1,x.2.1,x.2.2)=U x:=Lf (x:=x) (by omega);simp only[hd,zZ,hi,aA,e1,e2,hw];cases c:D3 x==r
  .simp
  .rw[c]at hb;simp only[zZ,CO (b:=40) (n:=a.length) (m:=1) (by decide) (by simp at hb;omega),aA]) (λa=>by simp)]
 rw[PJ,CH];rfl
theorem Ss{k:den CS}{r:Int}(hl:k.1.length<=1000000)(hh:∀s∈k.1,s.2.2.length<=1000000):eR k r=U (cY k.1 r):=by
 unfold eR cY A6;have hf:=S6 (λs=>D3 s==r) k.1;rw[dK k.1 (λs=>cond (D3 s==r) [s] []) id [] hl (by simpa using B5 hf (B5 hl (by decide))) (λi x a hi hx hm hd hw hb=>by
  have h1:=hh x hm;have e1:xZ (x.1,x.2.1,x.2.2)=U (D3 x):=bWe (s:=x) h1;have e2:eB (x.1,x.2.1,x.2.2)=U x:=Jx (x:=x) (by omega);simp only[hd,zZ,hi,aA,e1,e2,hw];cases c:D3 x==r
  .simp
  .rw[c]at hb;simp only[zZ,CO (b:=40) (n:=a.length) (m:=1) (by decide) (by simp at hb;omega),aA]) (λa=>by simp)]
 rw[PJ,CH];rfl
theorem bM3{k:den CS}{p q:Int}(hl:k.2.length<=1000000)(hh:∀s∈k.2,s.2.2.length<=1000000):uJ k p q=U (qF k.2 p q):=by
 unfold uJ qF A6;have hf:=S6 (λs=>dE s==p&&D3 s==q) k.2;rw[dK k.2 (λs=>cond (dE s==p&&D3 s==q) [s] []) id [] hl (by simpa using B5 hf (B5 hl (by decide))) (λi x a hi hx hm hd hw hb=>by
  have h1:=hh x hm;have e0:lG (x.1,x.2.1,x.2.2)=U (dE x):=bWj x;have e1:yC (x.1,x.2.1,x.2.2)=U (D3 x):=bUc (s:=x) h1;have e2:cG (x.1,x.2.1,x.2.2)=U x:=Lf (x:=x) (by omega);simp only[hd,zZ,hi,aA,e0,e1,e2,hw];cases c:dE x==p
  .simp
  .cases c2:D3 x==q
   .simp
   .rw[c,c2]at hb;simp only[zZ,EV,CO (b:=40) (n:=a.length) (m:=1) (by decide) (by simp at hb;omega),aA]) (λa=>by simp)]
 rw[PJ,CH];rfl
theorem bLr{k:den CS}{p q:Int}(hl:k.2.length<=1000000)(hh:∀s∈k.2,s.2.2.length<=1000000):pC k p q=U (qF k.2 p q):=by
 unfold pC qF A6;have hf:=S6 (λs=>dE s==p&&D3 s==q) k.2;rw[dK k.2 (λs=>cond (dE s==p&&D3 s==q) [s] []) id [] hl (by simpa using B5 hf (B5 hl (by decide))) (λi x a hi hx hm hd hw hb=>by
  have h1:=hh x hm;have e0:lY (x.1,x.2.1,x.2.2)=U (dE x):=XF x;have e1:xZ (x.1,x.2.1,x.2.2)=U (D3 x):=bWe (s:=x) h1;have e2:eB (x.1,x.2.1,x.2.2)=U x:=Jx (x:=x) (by omega);simp only[hd,zZ,hi,aA,e0,e1,e2,hw];cases c:dE x==p
  .simp
  .cases c2:D3 x==q
   .simp
   .rw[c,c2]at hb;simp only[zZ,EV,CO (b:=40) (n:=a.length) (m:=1) (by decide) (by simp at hb;omega),aA]) (λa=>by simp)]
 rw[PJ,CH];rfl
def Dt(l:eV)(r:Int):Int:=match dH (λk (x:den cH)=>if x.1==r then U (k:Int) else W) 0 l with
 | some v=>v
 | none=> -1
theorem cD0{s:den B9}{r:Int}(hl:s.2.2.length<=1000000):oL s r=U (Dt s.2.2 r):=by
 unfold oL Dt;rw[aM (l:=s.2.2) (λk (x:den cH)=>if x.1==r then U (k:Int) else W) (by omega) (λk x hi hd hw hx hk=>by
  simp only[hd,hi,hw,zZ,aA];cases x.1==r<;>rfl) (by simp)]
 cases dH (λk (x:den cH)=>if x.1==r then U (k:Int) else W) 0 s.2.2<;>rfl
theorem cAu{s:den B9}{r:Int}(hl:s.2.2.length<=1000000):tN s r=U (Dt s.2.2 r):=by
 unfold tN Dt;rw[aM (l:=s.2.2) (λk (x:den cH)=>if x.1==r then U (k:Int) else W) (by omega) (λk x hi hd hw hx hk=>by
  simp only[hd,hi,hw,zZ,aA];cases x.1==r<;>rfl) (by simp)]
 cases dH (λk (x:den cH)=>if x.1==r then U (k:Int) else W) 0 s.2.2<;>rfl
def Eb(l:eV)(r:Int):Nat->Int
 | 0=> -1
 | n+1=>if ((l[n]?).getD h0).1==r then (n:Int) else Eb l r n
theorem cLf{s:den B9}{r:Int}(hl:s.2.2.length<=1000000):wN s r=U (Eb s.2.2 r s.2.2.length):=by
 unfold wN;rw[oM (n:=(s.2.2.length:Int) - 1) (by omega) (by omega)];have key:∀n:Nat,n<=s.2.2.length->Option.bind (aB (λs3:Int=>cond (D (s3>=(0:Int))) (Option.bind (idx s.2.2 s3) λx4=>cond (x4.1==r) (U (A2 (A2 s3))) (U (A7 (wr (s3 - (1:Int)))))) (U (A2 (A7 ())))) ((n:Int) - 1)) (λz:Unit⊕Int=>Cd (λs5=>U (-1:Int)) U z)=U (Eb s.2.2 r n):=by
  intro n
  induction n with
  | zero=>intro _;rw[aH (r:=A7 ()) (by simp)];rfl
  | succ n ih=>
   intro hn;have hx:s.2.2[n]? =U (s.2.2[n]'(by omega)):=Cs (by omega);have hw:((n+1:Nat):Int) - 1=(n:Int):=by omega
   rw[hw];unfold Eb;rw[hx,CJ];cases c:(s.2.2[n]'(by omega)).1==r with
   | true=>rw[aH (r:=A2 (n:Int)) (by simp only[Oe,zZ,aQ,hx,aA,c])];rfl
   | false=>
    rw[aO (s':=(n:Int) - 1) (by simp only[Oe,zZ,aQ,hx,aA,c,zY,oM (n:=(n:Int) - 1) (by omega) (by omega)]),ih (by omega)];rfl
 exact key s.2.2.length (Cz _)
def LC(up down:den B9):Nat->Ci
 | 0=>[]
 | n+1=>if Eb down.2.2 ((up.2.2[n]?).getD h0).1 down.2.2.length>=0 then [pV up 1 (n:Int),pV down 4 (Eb down.2.2 ((up.2.2[n]?).getD h0).1 down.2.2.length)] else LC up down n
def FD(up down:den B9):Ci:=LC up down up.2.2.length
theorem cK9{up down:den B9}(h1:up.2.2.length<=1000000)(h2:down.2.2.length<=1000000):tT up down=U (FD up down):=by
 unfold tT FD A6 B6;rw[oM (n:=(up.2.2.length:Int) - 1) (by omega) (by omega)];have key:∀(G:Int->Option (Int⊕(Unit⊕Ci))) (n:Nat),n<=up.2.2.length->
   (∀m:Nat,m<up.2.2.length->G (m:Int)=if Eb down.2.2 ((up.2.2[m]?).getD h0).1 down.2.2.length>=0 then U (.inr (.inr [pV up 1 (m:Int),pV down 4 (Eb down.2.2 ((up.2.2[m]?).getD h0).1 down.2.2.length)])) else U (.inl ((m:Int) - 1)))->G (-1)=U (.inr (.inl ()))->
   Option.bind (aB G ((n:Int) - 1)) (λz:Unit⊕Ci=>Cd (λ_=>U []) U z)=U (LC up down n):=by
  intro G n
  induction n with
  | zero=>intro _ _ hG;rw[aH (r:=A7 ()) (show G (((0:Nat):Int) - 1)=_ from hG)];rfl
  | succ n ih=>
   intro hn hs he;have hw:((n+1:Nat):Int) - 1=(n:Int):=by omega
   rw[hw];have hg:=hs n (by omega);unfold LC
   by_cases c:Eb down.2.2 ((up.2.2[n]?).getD h0).1 down.2.2.length>=0
   .rw[zT c]at hg ⊢;rw[aH hg];rfl
   .rw[zS c]at hg ⊢;rw[aO hg];exact ih (by omega) hs he
 refine key _ up.2.2.length (Cz _) (λm hm=> ?_) (by simp);have hx:up.2.2[m]? =U (up.2.2[m]'hm):=Cs hm;have e1:∀r,wN (down.1,down.2.1,down.2.2) r=U (Eb down.2.2 r down.2.2.length):=λr=>cLf (s:=down) h2
 have e2:∀i,gG (up.1,up.2.1,up.2.2) 1 i=U (pV up 1 i):=λi=>Qx (s:=up) h1
 have e3:∀i,gG (down.1,down.2.1,down.2.2) 4 i=U (pV down 4 i):=λi=>Qx (s:=down) h2
 simp only[Oe,zZ,aQ,hx,aA,CJ,e1,e2,e3,oM (n:=(m:Int) - 1) (by omega) (by omega)]
 by_cases c:Eb down.2.2 (up.2.2[m]'hm).1 down.2.2.length>=0
 .rw[zT c,zX c,zZ]
 .rw[zS c,zW c,zY]
theorem OL{s:den B9}(hl:s.2.2.length<=1000000):eX s=U (s.2.2.map λh=>(h.1:Int)):=by
 unfold eX;rw[fV (λk (a:List Int)=>((k:Int),a)) ((0:Int),[]) [] s.2.2 (λ_ x a=>a++[x.1]) Cr (λ_=>1) 1000000 id rfl (by omega) (by rw[cT];simpa using hl) (λk x a=>by simp) (λk x a hi hx hd hw hk hb=>by
  simp only[hd,hi,hw,zZ,aA,CO (b:=8) (n:=a.length) (m:=1) (by decide) (by omega)]) (λa=>by simp),dR (λh:den cH=>(h.1:Int))]
 rfl
theorem cHd{up down:den B9}(h1:up.2.2.length<=1000000)(h2:down.2.2.length<=1000000):vA up down=U (FD up down):=by
 have e0:KN up down=U (FD up down):=by
  unfold KN FD BX A6 B6;simp only[OL h1,OL h2,aA,CF];rw[oM (n:=(up.2.2.length:Int) - 1) (by omega) (by omega)];have key:∀(G:Int->Option (Int⊕(Unit⊕Ci))) (n:Nat),n<=up.2.2.length->
    (∀m:Nat,m<up.2.2.length->G (m:Int)=if Eb down.2.2 ((up.2.2[m]?).getD h0).1 down.2.2.length>=0 then U (.inr (.inr [pV up 1 (m:Int),pV down 4 (Eb down.2.2 ((up.2.2[m]?).getD h0).1 down.2.2.length)])) else U (.inl ((m:Int) - 1)))->G (-1)=U (.inr (.inl ()))->
    Option.bind (aB G ((n:Int) - 1)) (λz:Unit⊕Ci=>Cd (λ_=>U []) U z)=U (LC up down n):=by
   intro G n
   induction n with
   | zero=>intro _ _ hG;rw[aH (r:=A7 ()) (show G (((0:Nat):Int) - 1)=_ from hG)];rfl
   | succ n ih=>
    intro hn hs he;have hw:((n+1:Nat):Int) - 1=(n:Int):=by omega
    rw[hw];have hg:=hs n (by omega);unfold LC
    by_cases c:Eb down.2.2 ((up.2.2[n]?).getD h0).1 down.2.2.length>=0
    .rw[zT c]at hg ⊢;rw[aH hg];rfl
    .rw[zS c]at hg ⊢;rw[aO hg];exact ih (by omega) hs he
  refine key _ up.2.2.length (Cz _) (λm hm=> ?_) (by simp);have hx:up.2.2[m]? =U (up.2.2[m]'hm):=Cs hm;have e2:∀i,eH (up.1,up.2.1,up.2.2) 1 i=U (pV up 1 i):=λi=>ML (s:=up) h1
  have e3:∀i,eH (down.1,down.2.1,down.2.2) 4 i=U (pV down 4 i):=λi=>ML (s:=down) h2
  have hxm:(up.2.2.map λh=>(h.1:Int))[m]? =U (up.2.2[m]'hm).1:=by rw[FV,hx];rfl
  simp only[Oe,bF,zZ,zX (show (m:Int)<(up.2.2.length:Int) by omega),Cj,hxm,hx,CJ,oM (n:=(m:Int) - 1) (by omega) (by omega),oM (n:=(down.2.2.length:Int) - 1) (by omega) (by omega),aA,e2,e3];have inner:∀(R:Type) (G:Int->Option (Int⊕(Unit⊕R))) (f:Int->R) (n:Nat),n<=down.2.2.length->
    (∀j:Nat,j<down.2.2.length->G (j:Int)=if ((down.2.2[j]?).getD h0).1==(up.2.2[m]'hm).1 then U (.inr (.inr (f (j:Int)))) else U (.inl ((j:Int) - 1)))->G (-1)=U (.inr (.inl ()))->
    aB G ((n:Int) - 1)=U (if Eb down.2.2 (up.2.2[m]'hm).1 n>=0 then .inr (f (Eb down.2.2 (up.2.2[m]'hm).1 n)) else .inl ()):=by
   intro R G f n
   induction n with
   | zero=>intro _ _ hG;rw[aH (r:=A7 ()) (show G (((0:Nat):Int) - 1)=_ from hG)];rfl
   | succ n ih=>
    intro hn hs he;have hw:((n+1:Nat):Int) - 1=(n:Int):=by omega
    rw[hw];have hg:=hs n (by omega);unfold Eb;cases c:((down.2.2[n]?).getD h0).1==(up.2.2[m]'hm).1 with
    | true=>
     rw[c,zT rfl]at hg;rw[aH hg,zT rfl,zT (by omega)]
    | false=>
     rw[c,zS (by decide)]at hg;rw[aO hg];simp only[Cg,zU];exact ih (by omega) hs he
  rw[inner _ _ (λj=>(A2 (A2 [pV up 1 (m:Int),pV down 4 j]):Int⊕(Unit⊕Ci))) down.2.2.length (Cz _) (λj hj=> ?_) (by simp)]
  .by_cases c:Eb down.2.2 (up.2.2[m]'hm).1 down.2.2.length>=0
   .rw[zT c,zT c];rfl
   .rw[zS c,zS c];rfl
  .have hy:down.2.2[j]? =U (down.2.2[j]'hj):=Cs hj;have hym:(down.2.2.map λh=>(h.1:Int))[j]? =U (down.2.2[j]'hj).1:=by rw[FV,hy];rfl
   simp only[Oe,bF,zZ,zX (show (j:Int)<(down.2.2.length:Int) by omega),Cj,hym,hy,CJ,aA,oM (n:=(j:Int) - 1) (by omega) (by omega)];rw[show ((up.2.2[m]'hm).1==(down.2.2[j]'hj).1)=((down.2.2[j]'hj).1==(up.2.2[m]'hm).1) from CG.2 ⟨λh=>by rw[beq_iff_eq]at h ⊢;exact h.symm,λh=>by rw[beq_iff_eq]at h ⊢;exact h.symm⟩];cases (down.2.2[j]'hj).1==(up.2.2[m]'hm).1<;>rfl
 unfold vA A6;rw[show ((up.1,up.2.1,up.2.2):den B9)=up from rfl,show ((down.1,down.2.1,down.2.2):den B9)=down from rfl,e0];rfl
def jF(s:den B9)(k:Int)(p:Ci):Ci:=cond (D ((s.2.2.length:Int)>0)) (p++[pV s k 0]) p
theorem S1(s:den B9)(k:Int)(p:Ci):(jF s k p).length<=p.length+1:=by
 unfold jF;cases D ((s.2.2.length:Int)>0)
 .simp
 .simp
def sC(up core:den B9)(b:Bool)(down:den B9):Ci:=jF down 4 (jF core (cond b 3 2) (jF up 1 []))
theorem Xj{s:den B9}{k:Int}{p:Ci}(h:s.2.2.length<=1000000)(hp:p.length<=1000000):iH s k p=U (jF s k p):=by
 have e2:gG (s.1,s.2.1,s.2.2) k 0=U (pV s k 0):=Qx (s:=s) h;unfold iH jF A6 B6;simp only[e2,aA,CO (b:=48) (n:=p.length) (m:=1) (by decide) (by omega),zZ];cases D ((s.2.2.length:Int)>0)<;>rfl
theorem bM1{up core down:den B9}{b:Bool}(h1:up.2.2.length<=1000000)(h2:core.2.2.length<=1000000)(h3:down.2.2.length<=1000000):rQ up core b down=U (sC up core b down):=by
 have l1:=S1 up 1 [];have l2:=S1 core (cond b 3 2) (jF up 1 []);simp only[CE]at l1;have e1:iH (up.1,up.2.1,up.2.2) 1 []=U (jF up 1 []):=Xj (s:=up) h1 (by simp);have e2:iH (core.1,core.2.1,core.2.2) (cond b 3 2) (jF up 1 [])=U _:=Xj (s:=core) (k:=cond b 3 2) h2 (by omega);have e3:iH (down.1,down.2.1,down.2.2) 4 (jF core (cond b 3 2) (jF up 1 []))=U _:=Xj (s:=down) h3 (by omega);have eb:(cond b (U (3:Int)) (U (2:Int)))=U (cond b 3 2):=by cases b<;>rfl
 unfold rQ sC A6;rw[eb];simp only[e1,e2,e3,aA]
theorem bLh{up core down:den B9}{b:Bool}(h1:up.2.2.length<=1000000)(h2:core.2.2.length<=1000000)(h3:down.2.2.length<=1000000):rP up core b down=U (sC up core b down):=by
 have l1:=S1 up 1 [];have l2:=S1 core (cond b 3 2) (jF up 1 []);simp only[CE]at l1;have e1:eH (up.1,up.2.1,up.2.2) 1 0=U (pV up 1 0):=ML (s:=up) h1;have e2:eH (core.1,core.2.1,core.2.2) (cond b 3 2) 0=U (pV core (cond b 3 2) 0):=ML (s:=core) h2;have e3:eH (down.1,down.2.1,down.2.2) 4 0=U (pV down 4 0):=ML (s:=down) h3;have eb:(cond b (U (3:Int)) (U (2:Int)))=U (cond b 3 2):=by cases b<;>rfl
 have f1:(cond (D ((up.2.2.length:Int)>(0:Int))) (U [pV up 1 0]) (U []))=U (jF up 1 []):=by unfold jF;cases D ((up.2.2.length:Int)>0)<;>rfl
 have f2:(cond (D ((core.2.2.length:Int)>(0:Int))) (U (jF up 1 []++[pV core (cond b 3 2) 0])) (U (jF up 1 [])))=U (jF core (cond b 3 2) (jF up 1 [])):=by
  rw[show jF core (cond b 3 2) (jF up 1 [])=cond (D ((core.2.2.length:Int)>0)) (jF up 1 []++[pV core (cond b 3 2) 0]) (jF up 1 []) from rfl];cases D ((core.2.2.length:Int)>0)<;>rfl
 have f3:(cond (D ((down.2.2.length:Int)>(0:Int))) (U (jF core (cond b 3 2) (jF up 1 [])++[pV down 4 0])) (U (jF core (cond b 3 2) (jF up 1 []))))=U (jF down 4 (jF core (cond b 3 2) (jF up 1 []))):=by
  rw[show jF down 4 (jF core (cond b 3 2) (jF up 1 []))=cond (D ((down.2.2.length:Int)>0)) (jF core (cond b 3 2) (jF up 1 [])++[pV down 4 0]) (jF core (cond b 3 2) (jF up 1 [])) from rfl];cases D ((down.2.2.length:Int)>0)<;>rfl
 unfold rP sC A6 B6;rw[eb];simp only[e1,e2,e3,aA,CO (b:=48) (n:=0) (m:=1) (by decide) (by omega),zZ,f1,CO (b:=48) (n:=(jF up 1 []).length) (m:=1) (by decide) (by omega),f2,CO (b:=48) (n:=(jF core (cond b 3 2) (jF up 1 [])).length) (m:=1) (by decide) (by omega),f3]
def cA(c:Co)(up:den B9)(a b:Int)(down:den B9):List Ci:=
 (qF c a b).flatMap (λs=>[sC up s Y down])++(qF c b a).flatMap (λs=>[sC up s X down])
theorem VV(c:Co)(a b:Int):(qF c a b).length<=c.length:=H5 _ _
theorem bSg(c:Co)(a:Int):(cY c a).length<=c.length:=H5 _ _
theorem Sj{α β:Type}(f:α->β)(l:List α):(l.flatMap λs=>[f s]).length<=l.length:=by
 have :=KX (g:=λs=>[f s]) (c:=1) (l:=l) λx _=>by simp
 omega
theorem NP{c:Co}(hc:c.length<=8000)(up:den B9)(a b:Int)(down:den B9):(cA c up a b down).length<=16000:=by
 unfold cA;rw[C7];have h1:=Sj (λs=>sC up s Y down) (qF c a b);have h2:=Sj (λs=>sC up s X down) (qF c b a);have h3:=VV c a b;have h4:=VV c b a;omega
structure Dv (k:den CS):Prop where
 down:k.1.length<=8000
 core:k.2.length<=8000
 hd1:∀s∈k.1,s.2.2.length<=8
 hc1:∀s∈k.2,s.2.2.length<=8
theorem Dv.hd{k:den CS}(h:Dv k):∀s∈k.1,s.2.2.length<=1000000:=λs hs=>B5 (h.hd1 s hs) (by decide)
theorem Dv.hc{k:den CS}(h:Dv k):∀s∈k.2,s.2.2.length<=1000000:=λs hs=>B5 (h.hc1 s hs) (by decide)
theorem Dv.downs{k:den CS}(h:Dv k)(r:Int):(cY k.1 r).length<=8000/\ ∀s∈cY k.1 r,s.2.2.length<=1000000:=⟨B5 (bSg _ _) h.down,λs hs=>h.hd s (C2.1 hs).1⟩
theorem Dv.betw{k:den CS}(h:Dv k)(a b:Int):(qF k.2 a b).length<=8000/\ ∀s∈qF k.2 a b,s.2.2.length<=1000000:=⟨B5 (VV _ _ _) h.core,λs hs=>h.hc s (C2.1 hs).1⟩
theorem cFf{k:den CS}(h:Dv k){up down:den B9}(h1:up.2.2.length<=1000000)(h3:down.2.2.length<=1000000)(a b:Int):fA k up a b down=U (cA k.2 up a b down):=by
 have e1:uJ (k.1,k.2) a b=U (qF k.2 a b):=bM3 (k:=k) (B5 h.core (by decide)) h.hc;have e2:uJ (k.1,k.2) b a=U (qF k.2 b a):=bM3 (k:=k) (B5 h.core (by decide)) h.hc;obtain⟨l1,m1⟩:=h.betw a b;obtain⟨l2,m2⟩:=h.betw b a;have n1:=Sj (λs=>sC up s Y down) (qF k.2 a b);unfold fA cA BX A1 A6;rw[e1,aA];rw[dK (qF k.2 a b) (λs=>[sC up s Y down]) (λx=>x) [] (by omega) (by have :=Fb (f:=λs=>([sC up s Y down]:List Ci).length) (c:=1) (l:=qF k.2 a b) (λ_ _=>by simp);simp only[CE];omega) (λi x y hi hx hm hd hw hb=>by
  have e:rQ (up.1,up.2.1,up.2.2) (x.1,x.2.1,x.2.2) Y (down.1,down.2.1,down.2.2)=U (sC up x Y down):=bM1 (up:=up) (core:=x) (down:=down) h1 (m1 x hm) h3;simp only[hd,bF,zZ,Cj,hx,aA,e,hw,CO (b:=24) (n:=y.length) (m:=1) (by decide) (by simp at hb;omega)]) (λy=>by simp)]
 rw[aA,e2,aA,CH];rw[dK (qF k.2 b a) (λs=>[sC up s X down]) (λx=>x) ((qF k.2 a b).flatMap λs=>[sC up s Y down]) (by omega) (by have :=Fb (f:=λs=>([sC up s X down]:List Ci).length) (c:=1) (l:=qF k.2 b a) (λ_ _=>by simp);omega) (λi x y hi hx hm hd hw hb=>by
  have e:rQ (up.1,up.2.1,up.2.2) (x.1,x.2.1,x.2.2) X (down.1,down.2.1,down.2.2)=U (sC up x X down):=bM1 (up:=up) (core:=x) (down:=down) h1 (m2 x hm) h3;simp only[hd,bF,zZ,Cj,hx,aA,e,hw,CO (b:=24) (n:=y.length) (m:=1) (by decide) (by simp at hb;omega)]) (λy=>by simp)]
 rfl
theorem bMc{k:den CS}(h:Dv k){up down:den B9}(h1:up.2.2.length<=1000000)(h3:down.2.2.length<=1000000)(a b:Int):iI k up a b down=U (cA k.2 up a b down):=by
 have e1:pC (k.1,k.2) a b=U (qF k.2 a b):=bLr (k:=k) (B5 h.core (by decide)) h.hc;have e2:pC (k.1,k.2) b a=U (qF k.2 b a):=bLr (k:=k) (B5 h.core (by decide)) h.hc;obtain⟨l1,m1⟩:=h.betw a b;obtain⟨l2,m2⟩:=h.betw b a;have n1:=Sj (λs=>sC up s Y down) (qF k.2 a b);unfold iI cA BX A1 A6;rw[e1,aA];rw[dK (qF k.2 a b) (λs=>[sC up s Y down]) (λx=>x) [] (by omega) (by have :=Fb (f:=λs=>([sC up s Y down]:List Ci).length) (c:=1) (l:=qF k.2 a b) (λ_ _=>by simp);simp only[CE];omega) (λi x y hi hx hm hd hw hb=>by
  have e:rP (up.1,up.2.1,up.2.2) (x.1,x.2.1,x.2.2) Y (down.1,down.2.1,down.2.2)=U (sC up x Y down):=bLh (up:=up) (core:=x) (down:=down) h1 (m1 x hm) h3;simp only[hd,bF,zZ,Cj,hx,aA,e,hw,CO (b:=24) (n:=y.length) (m:=1) (by decide) (by simp at hb;omega)]) (λy=>by simp)]
 rw[aA,e2,aA,CH];rw[dK (qF k.2 b a) (λs=>[sC up s X down]) (λx=>x) ((qF k.2 a b).flatMap λs=>[sC up s Y down]) (by omega) (by have :=Fb (f:=λs=>([sC up s X down]:List Ci).length) (c:=1) (l:=qF k.2 b a) (λ_ _=>by simp);omega) (λi x y hi hx hm hd hw hb=>by
  have e:rP (up.1,up.2.1,up.2.2) (x.1,x.2.1,x.2.2) X (down.1,down.2.1,down.2.2)=U (sC up x X down):=bLh (up:=up) (core:=x) (down:=down) h1 (m2 x hm) h3;simp only[hd,bF,zZ,Cj,hx,aA,e,hw,CO (b:=24) (n:=y.length) (m:=1) (by decide) (by simp at hb;omega)]) (λy=>by simp)]
 rfl
def dW:den B9:=(0,0,[])
def rF(kind r:Int)(s:den B9):List Ci:=cond (D (Dt s.2.2 r>=0)) [[pV s kind (Dt s.2.2 r)]] []
def uF(u d:den B9):List Ci:=cond (D (((FD u d).length:Int)>0)) [FD u d] []
def eD(t:den B2)(r:Int):Bool:=((t.1[r.toNat]?).getD (0,Y,0)).2.1
theorem Su(kind r:Int)(s:den B9):(rF kind r s).length<=1:=by unfold rF;cases D (Dt s.2.2 r>=0)<;>simp
theorem bS3(u d:den B9):(uF u d).length<=1:=by unfold uF;cases D (((FD u d).length:Int)>0)<;>simp
def vB(t:den B2)(k:den CS)(a b:Int):List Ci:=
 cond (a==b||(!cK t a|| !cK t b)) [] (((((((cY k.1 a).flatMap (rF 1 b)++(cY k.1 b).flatMap (rF 4 a))++cA k.2 dW a b dW)
  ++(cY k.1 a).flatMap λu=>(cY k.1 b).flatMap λd=>uF u d)
  ++cond (eD t a) ((cY k.1 b).flatMap λd=>cA k.2 dW a (dE d) d) [])
  ++cond (eD t b) ((cY k.1 a).flatMap λu=>cA k.2 u (dE u) b dW) [])
  ++(cY k.1 a).flatMap λu=>(cY k.1 b).flatMap λd=>cA k.2 u (dE u) (dE d) d)
theorem X5{t:den B2}{r:Int}(ht:t.1.length<=1000000)(h:cK t r=X):sK t r=U (eD t r):=by
 obtain⟨x,hx,ex⟩:=Gq h;unfold sK eD A1;simp only[aD,Fa (t:=t) (r:=r) (by omega),h,aA,zZ,ex,hx,CJ]
theorem Od{α β:Type}{g:α->List β}{c n:Nat}{l:List α}(hl:l.length<=n)(h:∀x∈l,(g x).length<=c):(l.map λx=>(g x).length).sum<=n * c:=
 B5 (Fb h) (DA _ hl)
theorem M1{α β:Type}{g:α->List β}{c n:Nat}{l:List α}(hl:l.length<=n)(h:∀x∈l,(g x).length<=c):(l.flatMap g).length<=n * c:=
 B5 (KX h) (DA _ hl)
theorem bFf{downs:Co}(h:downs.length<=8000)(u:den B9):(downs.flatMap λd=>uF u d).length<=8000:=
 B5 (M1 (c:=1) h λd _=>bS3 u d) (by decide)
theorem bG7{c downs:Co}(hc:c.length<=8000)(h:downs.length<=8000)(u:den B9):(downs.flatMap λd=>cA c u (dE u) (dE d) d).length<=128000000:=
 B5 (M1 (c:=16000) h λd _=>NP hc _ _ _ _) (by decide)
theorem RK{k:den CS}(h:Dv k)(a b:Int):(((cY k.1 a).flatMap (rF 1 b)).length<=8000)/\(((cY k.1 b).flatMap (rF 4 a)).length<=8000)/\((cA k.2 dW a b dW).length<=16000)/\(((cY k.1 a).flatMap λu=>(cY k.1 b).flatMap λd=>uF u d).length<=64000000)/\(((cY k.1 b).flatMap λd=>cA k.2 dW a (dE d) d).length<=128000000)/\(((cY k.1 a).flatMap λu=>cA k.2 u (dE u) b dW).length<=128000000)/\(((cY k.1 a).map λs=>(rF 1 b s).length).sum<=8000)/\(((cY k.1 b).map λs=>(rF 4 a s).length).sum<=8000)/\(((cY k.1 a).map λu=>((cY k.1 b).flatMap λd=>uF u d).length).sum<=64000000)/\(((cY k.1 b).map λd=>(cA k.2 dW a (dE d) d).length).sum<=128000000)/\(((cY k.1 a).map λu=>(cA k.2 u (dE u) b dW).length).sum<=128000000)/\(((cY k.1 a).map λu=>((cY k.1 b).flatMap λd=>cA k.2 u (dE u) (dE d) d).length).sum<=1024000000000):=by
 obtain⟨lu,mu⟩:=h.downs a;obtain⟨ld,md⟩:=h.downs b;exact⟨B5 (M1 (c:=1) lu λs _=>Su 1 b s) (by decide),B5 (M1 (c:=1) ld λs _=>Su 4 a s) (by decide),NP h.core dW a b dW,B5 (M1 (c:=8000) lu λu _=>bFf ld u) (by decide),B5 (M1 (c:=16000) ld λd _=>NP h.core _ _ _ _) (by decide),B5 (M1 (c:=16000) lu λd _=>NP h.core _ _ _ _) (by decide),B5 (Od (c:=1) lu λs _=>Su 1 b s) (by decide),B5 (Od (c:=1) ld λs _=>Su 4 a s) (by decide),B5 (Od (c:=8000) lu λu _=>bFf ld u) (by decide),B5 (Od (c:=16000) ld λd _=>NP h.core _ _ _ _) (by decide),B5 (Od (c:=16000) lu λd _=>NP h.core _ _ _ _) (by decide),B5 (Od (c:=128000000) lu λu _=>bG7 h.core ld u) (by decide)⟩
theorem cJn{t:den B2}{k:den CS}(ht:t.1.length<=1000000)(h:Dv k)(a b:Int):qB t k a b=U (vB t k a b):=by
 have hA:=Fa (t:=t) (r:=a) (by omega);have hB:=Fa (t:=t) (r:=b) (by omega);unfold qB vB BX A1 A6 B6;rw[show ((t.1,t.2):den B2)=t from rfl,hA,hB];cases c0:a==b with
 | true=>rfl
 | false=>
 cases c1:cK t a with
 | false=>rfl
 | true=>
 cases c2:cK t b with
 | false=>rfl
 | true=>
 have e1:kO (k.1,k.2) a=U (cY k.1 a):=bJp (k:=k) (B5 h.down (by decide)) h.hd;have e2:kO (k.1,k.2) b=U (cY k.1 b):=bJp (k:=k) (B5 h.down (by decide)) h.hd;obtain⟨lu,mu⟩:=h.downs a;obtain⟨ld,md⟩:=h.downs b;have ec1:=X5 ht c1;have ec2:=X5 ht c2;have hcz:∀(u:den B9) (x y:Int) (d:den B9),u.2.2.length<=1000000->d.2.2.length<=1000000->fA (k.1,k.2) (u.1,u.2.1,u.2.2) x y (d.1,d.2.1,d.2.2)=U (cA k.2 u x y d):=λu x y d h1 h2=>cFf (k:=k) h (up:=u) (down:=d) h1 h2 x y
 have hz1:∀(x y:Int),fA (k.1,k.2) (0,0,[]) x y (0,0,[])=U (cA k.2 dW x y dW):=λx y=>hcz dW x y dW (by decide) (by decide)
 have hz2:∀(x y:Int) (d:den B9),d.2.2.length<=1000000->fA (k.1,k.2) (0,0,[]) x y (d.1,d.2.1,d.2.2)=U (cA k.2 dW x y d):=λx y d hd=>hcz dW x y d (by decide) hd
 have hz3:∀(u:den B9) (x y:Int),u.2.2.length<=1000000->fA (k.1,k.2) (u.1,u.2.1,u.2.2) x y (0,0,[])=U (cA k.2 u x y dW):=λu x y hu=>hcz u x y dW hu (by decide)
 have hf:∀s:den B9,lG (s.1,s.2.1,s.2.2)=U (dE s):=λs=>bWj s
 obtain⟨n1,n2,n3,n4,n5,n6,s1,s2,s4,s5,s6,s7⟩:=RK h a b;simp only[zY,zZ,aA,BZ,E7,e1,e2];generalize hU:cY k.1 a=ups at *;generalize hD:cY k.1 b=downs at *;rw[dK ups (rF 1 b) (λx=>x) [] (by omega) (by simp only[CE];omega) (λi x y hi hx hm hd hw hb=>by
  have e:oL (x.1,x.2.1,x.2.2) b=U (Dt x.2.2 b):=cD0 (s:=x) (mu x hm);have e':gG (x.1,x.2.1,x.2.2) 1 (Dt x.2.2 b)=U (pV x 1 (Dt x.2.2 b)):=Qx (s:=x) (mu x hm);have hb:y.length<=2000000000000:=by omega
  unfold rF;simp only[hd,bF,zZ,Cj,hx,aA,e,e',hw,CO (b:=24) (n:=y.length) (m:=1) (by decide) (by omega)];cases D (Dt x.2.2 b>=0)
  .simp
  .rfl) (λy=>by simp)]
 rw[aA,CH];rw[dK downs (rF 4 a) (λx=>x) (ups.flatMap (rF 1 b)) (by omega) (by omega) (λi x y hi hx hm hd hw hb=>by
  have e:oL (x.1,x.2.1,x.2.2) a=U (Dt x.2.2 a):=cD0 (s:=x) (md x hm);have e':gG (x.1,x.2.1,x.2.2) 4 (Dt x.2.2 a)=U (pV x 4 (Dt x.2.2 a)):=Qx (s:=x) (md x hm);have hb:y.length<=2000000000000:=by omega
  unfold rF;simp only[hd,bF,zZ,Cj,hx,aA,e,e',hw,CO (b:=24) (n:=y.length) (m:=1) (by decide) (by omega)];cases D (Dt x.2.2 a>=0)
  .simp
  .rfl) (λy=>by simp)]
 rw[aA,hz1,aA];have q3:(ups.flatMap (rF 1 b)++downs.flatMap (rF 4 a)).length<=16000:=by rw[C7];omega
 generalize ups.flatMap (rF 1 b)++downs.flatMap (rF 4 a)=l3 at *;rw[CO (b:=24) (n:=l3.length) (m:=(cA k.2 dW a b dW).length) (by decide) (by omega),zZ];have q4:(l3++cA k.2 dW a b dW).length<=32000:=by rw[C7];omega
 generalize l3++cA k.2 dW a b dW=l4 at *;rw[dK ups (λu=>downs.flatMap λd=>uF u d) (λx=>x) l4 (by omega) (by omega) (λi u y hi hx hm hd hw hb=>by
  have hy:y.length<=2000000000000:=by omega
  have hb0:y.length+(downs.flatMap λd=>uF u d).length<=2000000000000:=hb;have hsum:(downs.map λd=>(uF u d).length).sum=(downs.flatMap λd=>uF u d).length:=by rw[N7]
  simp only[hd,bF,zZ,Cj,hx,aA,hw];rw[dK downs (λd=>uF u d) (λx=>x) y (by omega) (by rw[hsum];exact hb0) (λj d z hj hx' hm' hd' hw' hb'=>by
   have e:tT (u.1,u.2.1,u.2.2) (d.1,d.2.1,d.2.2)=U (FD u d):=cK9 (up:=u) (down:=d) (mu u hm) (md d hm');have hb:z.length<=2000000000000:=by omega
   unfold uF;simp only[hd',bF,zZ,Cj,hx',aA,e,hw',CO (b:=24) (n:=z.length) (m:=1) (by decide) (by omega)];cases D (((FD u d).length:Int)>0)
   .simp
   .rfl) (λy=>by simp)]
  rfl) (λy=>by simp)]
 rw[aA,ec1,aA];have q5:(l4++ups.flatMap λu=>downs.flatMap λd=>uF u d).length<=64032000:=by rw[C7];omega
 generalize (l4++ups.flatMap λu=>downs.flatMap λd=>uF u d)=l5 at *;have st5:(cond (eD t a) (aB (λs57:Int×List Ci=>cond (D (s57.1<(downs.length:Int))) (cond (D ((0:Int)<=s57.1)) (cond (D (s57.1<(downs.length:Int))) (Option.bind downs[s57.1.toNat]? λx58=>Option.bind (lG (x58.1,x58.2.1,x58.2.2)) λy59=>Option.bind (fA (k.1,k.2) ((0:Int),(0:Int),[]) a y59 (x58.1,x58.2.1,x58.2.2)) λy60=>cond (aF 24 s57.2.length y60.length) (U (A7 (wr (s57.1+(1:Int)),s57.2++y60))) W) W) W) (U (A2 s57.2))) ((0:Int),l5)) (U l5))=U (l5++cond (eD t a) (downs.flatMap λd=>cA k.2 dW a (dE d) d) []):=by
  cases eD t a with
  | false=>simp
  | true=>
   simp only[zZ];exact dK downs (λd=>cA k.2 dW a (dE d) d) (λx=>x) l5 (by omega) (by omega) (λi d y hi hx hm hd hw hb=>by
    simp only[hd,bF,zZ,Cj,hx,aA,hf,hz2 _ _ d (md d hm),hw];rw[CO (b:=24) (n:=y.length) (m:=(cA k.2 dW a (dE d) d).length) (by decide) (by omega)];rfl) (λy=>by simp)
 rw[st5,aA,ec2,aA];have q6:(l5++cond (eD t a) (downs.flatMap λd=>cA k.2 dW a (dE d) d) []).length<=192032000:=by
  rw[C7];cases eD t a
  .simp only[zY,CE];omega
  .simp only[zZ];omega
 generalize (l5++cond (eD t a) (downs.flatMap λd=>cA k.2 dW a (dE d) d) [])=l6 at *;have st6:(cond (eD t b) (aB (λs67:Int×List Ci=>cond (D (s67.1<(ups.length:Int))) (cond (D ((0:Int)<=s67.1)) (cond (D (s67.1<(ups.length:Int))) (Option.bind ups[s67.1.toNat]? λx68=>Option.bind (lG (x68.1,x68.2.1,x68.2.2)) λy69=>Option.bind (fA (k.1,k.2) (x68.1,x68.2.1,x68.2.2) y69 b ((0:Int),(0:Int),[])) λy70=>cond (aF 24 s67.2.length y70.length) (U (A7 (wr (s67.1+(1:Int)),s67.2++y70))) W) W) W) (U (A2 s67.2))) ((0:Int),l6)) (U l6))=U (l6++cond (eD t b) (ups.flatMap λu=>cA k.2 u (dE u) b dW) []):=by
  cases eD t b with
  | false=>simp
  | true=>
   simp only[zZ];exact dK ups (λu=>cA k.2 u (dE u) b dW) (λx=>x) l6 (by omega) (by omega) (λi d y hi hx hm hd hw hb=>by
    simp only[hd,bF,zZ,Cj,hx,aA,hf,hz3 d _ _ (mu d hm),hw];rw[CO (b:=24) (n:=y.length) (m:=(cA k.2 d (dE d) b dW).length) (by decide) (by omega)];rfl) (λy=>by simp)
 rw[st6,aA];have q7:(l6++cond (eD t b) (ups.flatMap λu=>cA k.2 u (dE u) b dW) []).length<=320032000:=by
  rw[C7];cases eD t b
  .simp only[zY,CE];omega
  .simp only[zZ];omega
 generalize (l6++cond (eD t b) (ups.flatMap λu=>cA k.2 u (dE u) b dW) [])=l7 at *;rw[dK ups (λu=>downs.flatMap λd=>cA k.2 u (dE u) (dE d) d) (λx=>x) l7 (by omega) (by omega) (λi u y hi hx hm hd hw hb=>by
  have hb0:y.length+(downs.flatMap λd=>cA k.2 u (dE u) (dE d) d).length<=2000000000000:=hb;have hsum:(downs.map λd=>(cA k.2 u (dE u) (dE d) d).length).sum=(downs.flatMap λd=>cA k.2 u (dE u) (dE d) d).length:=by rw[N7]
  simp only[hd,bF,zZ,Cj,hx,aA,hw];rw[dK downs (λd=>cA k.2 u (dE u) (dE d) d) (λx=>x) y (by omega) (by rw[hsum];exact hb0) (λj d z hj hx' hm' hd' hw' hb'=>by
   simp only[hd',bF,zZ,Cj,hx',aA,hf,hcz u _ _ d (mu u hm) (md d hm'),hw'];rw[CO (b:=24) (n:=z.length) (m:=(cA k.2 u (dE u) (dE d) d).length) (by decide) (by omega)];rfl) (λy=>by simp)]
  rfl) (λy=>by simp)]
 rfl
theorem cEi{k:den CS}(h:Dv k)(a b:Int):yX k a b=U ((((cY k.1 a).flatMap (rF 1 b)++(cY k.1 b).flatMap (rF 4 a))++cA k.2 dW a b dW)):=by
 have e1:eR (k.1,k.2) a=U (cY k.1 a):=Ss (k:=k) (B5 h.down (by decide)) h.hd;have e2:eR (k.1,k.2) b=U (cY k.1 b):=Ss (k:=k) (B5 h.down (by decide)) h.hd;obtain⟨lu,mu⟩:=h.downs a;obtain⟨ld,md⟩:=h.downs b;have hz1:iI (k.1,k.2) (0,0,[]) a b (0,0,[])=U (cA k.2 dW a b dW):=bMc (k:=k) h (up:=dW) (down:=dW) (by decide) (by decide) a b;obtain⟨n1,n2,n3,n4,n5,n6,s1,s2,s4,s5,s6,s7⟩:=RK h a b;unfold yX BX A1 A6 B6;rw[e1,aA];rw[dK (cY k.1 a) (rF 1 b) (λx=>x) [] (by omega) (by simp only[CE];omega) (λi x y hi hx hm hd hw hb=>by
  have e:tN (x.1,x.2.1,x.2.2) b=U (Dt x.2.2 b):=cAu (s:=x) (mu x hm);have e':eH (x.1,x.2.1,x.2.2) 1 (Dt x.2.2 b)=U (pV x 1 (Dt x.2.2 b)):=ML (s:=x) (mu x hm);have hb:y.length<=2000000000000:=by omega
  unfold rF;simp only[hd,bF,zZ,Cj,hx,aA,e,e',hw,CO (b:=24) (n:=y.length) (m:=1) (by decide) (by omega)];cases D (Dt x.2.2 b>=0)
  .simp
  .rfl) (λy=>by simp)]
 rw[aA,CH,e2,aA];rw[dK (cY k.1 b) (rF 4 a) (λx=>x) ((cY k.1 a).flatMap (rF 1 b)) (by omega) (by omega) (λi x y hi hx hm hd hw hb=>by
  have e:tN (x.1,x.2.1,x.2.2) a=U (Dt x.2.2 a):=cAu (s:=x) (md x hm);have e':eH (x.1,x.2.1,x.2.2) 4 (Dt x.2.2 a)=U (pV x 4 (Dt x.2.2 a)):=ML (s:=x) (md x hm);have hb:y.length<=2000000000000:=by omega
  unfold rF;simp only[hd,bF,zZ,Cj,hx,aA,e,e',hw,CO (b:=24) (n:=y.length) (m:=1) (by decide) (by omega)];cases D (Dt x.2.2 a>=0)
  .simp
  .rfl) (λy=>by simp)]
 rw[aA,hz1,aA,CO (b:=24) (n:=((cY k.1 a).flatMap (rF 1 b)++(cY k.1 b).flatMap (rF 4 a)).length) (m:=(cA k.2 dW a b dW).length) (by decide) (by rw[C7];omega)];rfl
theorem bEh{α β:Type}(l:List α)(g:α->List β)(c:Bool)(a0:List β){step:Int×List β->Option ((Int×List β)⊕List β)}(hl:l.length<=1000000)(hN:a0.length+(l.map λx=>(g x).length).sum<=2000000000000)
  (hs:c=X-> ∀(k:Nat) (x:α) (a:List β),idx l (k:Int)=U x->l[k]? =U x->x∈l->D ((k:Int)<(l.length:Int))=X->wr ((k:Int)+1)=((k+1:Nat):Int)->a.length+(g x).length<=2000000000000->step ((k:Int),a)=U (.inl (((k+1:Nat):Int),a++g x)))
  (he:∀a,step ((l.length:Int),a)=U (.inr a)) (hc:c=Y->step ((0:Int),a0)=U (.inr a0)):aB step ((0:Int),a0)=U (a0++cond c (l.flatMap g) []):=by
 cases c with
 | true=>exact dK l g (λx=>x) a0 hl hN (hs rfl) he
 | false=>rw[zY,CU];exact aH (hc rfl)
theorem cIk{t:den B2}{k:den CS}(ht:t.1.length<=1000000)(h:Dv k)(a b:Int):qD t k a b=U (vB t k a b):=by
 have hA:=F7 (t:=t) (r:=a) (by omega);have hB:=F7 (t:=t) (r:=b) (by omega);unfold qD vB BX A1 A6;rw[show ((t.1,t.2):den B2)=t from rfl,hA,hB];cases c0:a==b with
 | true=>rfl
 | false=>
 cases c1:cK t a with
 | false=>rfl
 | true=>
 cases c2:cK t b with
 | false=>rfl
 | true=>
 have e1:eR (k.1,k.2) a=U (cY k.1 a):=Ss (k:=k) (B5 h.down (by decide)) h.hd;have e2:eR (k.1,k.2) b=U (cY k.1 b):=Ss (k:=k) (B5 h.down (by decide)) h.hd;obtain⟨lu,mu⟩:=h.downs a;obtain⟨ld,md⟩:=h.downs b;obtain⟨xa,hxa,ea⟩:=Gq c1;obtain⟨xb,hxb,eb⟩:=Gq c2;have ca:eD t a=xa.2.1:=by unfold eD;rw[hxa];rfl
 have cb:eD t b=xb.2.1:=by unfold eD;rw[hxb];rfl
 have hal:yX (k.1,k.2) a b=U _:=cEi (k:=k) h a b;have hcz:∀(u:den B9) (x y:Int) (d:den B9),u.2.2.length<=1000000->d.2.2.length<=1000000->iI (k.1,k.2) (u.1,u.2.1,u.2.2) x y (d.1,d.2.1,d.2.2)=U (cA k.2 u x y d):=λu x y d h1 h2=>bMc (k:=k) h (up:=u) (down:=d) h1 h2 x y
 have hz1:∀(x y:Int),iI (k.1,k.2) (0,0,[]) x y (0,0,[])=U (cA k.2 dW x y dW):=λx y=>hcz dW x y dW (by decide) (by decide)
 have hz2:∀(x y:Int) (d:den B9),d.2.2.length<=1000000->iI (k.1,k.2) (0,0,[]) x y (d.1,d.2.1,d.2.2)=U (cA k.2 dW x y d):=λx y d hd=>hcz dW x y d (by decide) hd
 have hz3:∀(u:den B9) (x y:Int),u.2.2.length<=1000000->iI (k.1,k.2) (u.1,u.2.1,u.2.2) x y (0,0,[])=U (cA k.2 u x y dW):=λu x y hu=>hcz u x y dW hu (by decide)
 have hf:∀s:den B9,lY (s.1,s.2.1,s.2.2)=U (dE s):=λs=>XF s
 obtain⟨n1,n2,n3,n4,n5,n6,s1,s2,s4,s5,s6,s7⟩:=RK h a b;simp only[zY,zZ,aA,BZ,E7,hal,e1,e2,bB,cB,bL,bJ,bO];generalize hU:cY k.1 a=ups at *;generalize hD:cY k.1 b=downs at *;have q3:(ups.flatMap (rF 1 b)++downs.flatMap (rF 4 a)).length<=16000:=by rw[C7];omega
 generalize ups.flatMap (rF 1 b)++downs.flatMap (rF 4 a)=l3 at *;have q4:(l3++cA k.2 dW a b dW).length<=32000:=by rw[C7];omega
 generalize l3++cA k.2 dW a b dW=l4 at *;rw[dK ups (λu=>downs.flatMap λd=>uF u d) (λx=>x) l4 (by omega) (by omega) (λi u y hi hx hm hd hw hb=>by
  have hy:y.length<=2000000000000:=by omega
  have hb0:y.length+(downs.flatMap λd=>uF u d).length<=2000000000000:=hb;have hsum:(downs.map λd=>(uF u d).length).sum=(downs.flatMap λd=>uF u d).length:=by rw[N7]
  simp only[hd,bF,zZ,Cj,hx,aA,hw];rw[dK downs (λd=>uF u d) (λx=>x) y (by omega) (by rw[hsum];exact hb0) (λj d z hj hx' hm' hd' hw' hb'=>by
   have e:vA (u.1,u.2.1,u.2.2) (d.1,d.2.1,d.2.2)=U (FD u d):=cHd (up:=u) (down:=d) (mu u hm) (md d hm');have hb:z.length<=2000000000000:=by omega
   unfold uF;simp only[hd',bF,zZ,Cj,hx',aA,e,hw',CO (b:=24) (n:=z.length) (m:=1) (by decide) (by omega)];cases D (((FD u d).length:Int)>0)
   .simp
   .rfl) (λy=>by simp)]
  rfl) (λy=>by simp)]
 rw[aA];have q5:(l4++ups.flatMap λu=>downs.flatMap λd=>uF u d).length<=64032000:=by rw[C7];omega
 generalize (l4++ups.flatMap λu=>downs.flatMap λd=>uF u d)=l5 at *;rw[bEh downs (λd=>cA k.2 dW a (dE d) d) (eD t a) l5 (by omega) (by omega) (λhc i d y hi hx hm hd hw hb=>by
  rw[ca]at hc;simp only[hd,bF,zZ,ea,hc,Cj,hx,aA,hf,hz2 _ _ d (md d hm),hw];rw[CO (b:=24) (n:=y.length) (m:=(cA k.2 dW a (dE d) d).length) (by decide) (by omega)];rfl) (λy=>by simp) (λhc=>by
  rw[ca]at hc;simp only[ea,aA,hc];cases D ((0:Int)<(downs.length:Int))<;>rfl),aA]
 have q6:(l5++cond (eD t a) (downs.flatMap λd=>cA k.2 dW a (dE d) d) []).length<=192032000:=by
  rw[C7];cases eD t a
  .simp only[zY,CE];omega
  .simp only[zZ];omega
 generalize (l5++cond (eD t a) (downs.flatMap λd=>cA k.2 dW a (dE d) d) [])=l6 at *;rw[bEh ups (λu=>cA k.2 u (dE u) b dW) (eD t b) l6 (by omega) (by omega) (λhc i d y hi hx hm hd hw hb=>by
  rw[cb]at hc;simp only[hd,bF,zZ,eb,hc,Cj,hx,aA,hf,hz3 d _ _ (mu d hm),hw];rw[CO (b:=24) (n:=y.length) (m:=(cA k.2 d (dE d) b dW).length) (by decide) (by omega)];rfl) (λy=>by simp) (λhc=>by
  rw[cb]at hc;simp only[eb,aA,hc];cases D ((0:Int)<(ups.length:Int))<;>rfl),aA]
 have q7:(l6++cond (eD t b) (ups.flatMap λu=>cA k.2 u (dE u) b dW) []).length<=320032000:=by
  rw[C7];cases eD t b
  .simp only[zY,CE];omega
  .simp only[zZ];omega
 generalize (l6++cond (eD t b) (ups.flatMap λu=>cA k.2 u (dE u) b dW) [])=l7 at *;rw[dK ups (λu=>downs.flatMap λd=>cA k.2 u (dE u) (dE d) d) (λx=>x) l7 (by omega) (by omega) (λi u y hi hx hm hd hw hb=>by
  have hb0:y.length+(downs.flatMap λd=>cA k.2 u (dE u) (dE d) d).length<=2000000000000:=hb;have hsum:(downs.map λd=>(cA k.2 u (dE u) (dE d) d).length).sum=(downs.flatMap λd=>cA k.2 u (dE u) (dE d) d).length:=by rw[N7]
  simp only[hd,bF,zZ,Cj,hx,aA,hw];rw[dK downs (λd=>cA k.2 u (dE u) (dE d) d) (λx=>x) y (by omega) (by rw[hsum];exact hb0) (λj d z hj hx' hm' hd' hw' hb'=>by
   simp only[hd',bF,zZ,Cj,hx',aA,hf,hcz u _ _ d (mu u hm) (md d hm'),hw'];rw[CO (b:=24) (n:=z.length) (m:=(cA k.2 u (dE u) (dE d) d).length) (by decide) (by omega)];rfl) (λy=>by simp)]
  rfl) (λy=>by simp)]
 rfl
def oJ(p:den B4):Prop:=Cr (α:=den Cb) p<=3/\ ∀x:den Cb,x∈(show Ci from p)->x.2.2.2.length<=8
def bWg(n:Nat)(l:Cf):Prop:=l.length<=n/\ ∀p∈l,oJ p
theorem bY7:oJ []:=⟨by simp,λx hx=>(Dl hx).elim⟩
theorem S9{t:Ty}{B:Nat}:∀{l:List (den t)},(∀x∈l,tot t x<=B)->tot (.sl t) l<=(B+1) * l.length
 | [],_=>by simp[tot]
 | x::l,h=>by
  have ih:=S9 (l:=l) λy hy=>h y (C1 _ hy)
  have hx:=h x (by simp);rw[kD,C6,Nat.mul_add,Nat.mul_one];omega
theorem bW2{q:den Cb}(h:q.2.2.2.length<=8):tot Cb q<=8:=by
 show tot ti q.1+(tot ti q.2.1+(tot ti q.2.2.1+tot (.sl cH) q.2.2.2))<=8;rw[qW (t:=cH) rfl];show 0+(0+(0+q.2.2.2.length))<=8;omega
theorem bJ3{p:den B4}(h:oJ p):tot B4 p<=27:=by
 have h1:=S9 (t:=Cb) (B:=8) (l:=p) λx hx=>bW2 (h.2 x hx)
 have h2:=h.1;show tot (.sl Cb) p<=27;have :(8+1) * Cr (α:=den Cb) p<=27:=by omega
 exact B5 h1 this
theorem bEq{n:Nat}{l:Cf}(h:bWg n l):tot (.sl B4) l<=28 * n:=by
 have h1:=S9 (t:=B4) (B:=27) (l:=l) λx hx=>bJ3 (h.2 x hx)
 have h2:=h.1;have :(27+1) * l.length<=28 * n:=by omega
 exact B5 h1 this
theorem bMx{up down:den B9}(h1:up.2.2.length<=8)(h2:down.2.2.length<=8):∀n:Nat,oJ (LC up down n)
 | 0=>bY7
 | n+1=>by
  unfold LC;split
  .refine⟨by simp,λx hx=> ?_⟩;simp only[Cl,Dl,or_false]at hx;rcases hx with rfl | rfl
   .exact B5 (Si _ _ _) h1
   .exact B5 (Si _ _ _) h2
  .exact bMx h1 h2 n
theorem W3{p:Ci}(h:oJ p):tot B4 p<=68719476736:=B5 (bJ3 h) (by decide)
theorem bV0{x:den Cb}(h:x.2.2.2.length<=8):oJ [x]:=⟨by simp,λy hy=>by rw[Cy.1 hy];exact h⟩
theorem XJ{s:den B9}(hs:s.2.2.length<=8)(k:Int){p:Ci}{n:Nat}(hp:p.length<=n/\ ∀x∈p,x.2.2.2.length<=8):(jF s k p).length<=n+1/\ ∀x∈jF s k p,x.2.2.2.length<=8:=by
 unfold jF;cases D ((s.2.2.length:Int)>0) with
 | false=>exact⟨B5 hp.1 (Nat.le_succ _),hp.2⟩
 | true=>
  refine⟨by simp;exact hp.1,λx hx=> ?_⟩;rcases C0.1 (show x∈p++[pV s k 0] from hx) with hx | hx
  .exact hp.2 x hx
  .rw[Cy.1 hx];exact B5 (Si s k 0) hs
theorem bMu{up core down:den B9}(h1:up.2.2.length<=8)(h2:core.2.2.length<=8)(h3:down.2.2.length<=8)(b:Bool):oJ (sC up core b down):=
 XJ h3 4 (n:=2) (XJ h2 (cond b 3 2) (n:=1) (XJ h1 1 (n:=0) ⟨by simp,λx hx=>(Dl hx).elim⟩))
theorem Sc{k:den CS}(h:Dv k){up down:den B9}(h1:up.2.2.length<=8)(h3:down.2.2.length<=8)(a b:Int):∀p∈cA k.2 up a b down,oJ p:=by
 intro p hp;unfold cA at hp;rcases C0.1 hp with hp | hp
 .obtain⟨s,hs,hp⟩:=Ev.1 hp;rw[Cy.1 hp];exact bMu h1 (h.hc1 s (C2.1 hs).1) h3 Y
 .obtain⟨s,hs,hp⟩:=Ev.1 hp;rw[Cy.1 hp];exact bMu h1 (h.hc1 s (C2.1 hs).1) h3 X
theorem WD{t:den B2}{k:den CS}(h:Dv k)(a b:Int):∀p∈vB t k a b,oJ p:=by
 intro p hp;have mu:∀s∈cY k.1 a,s.2.2.length<=8:=λs hs=>h.hd1 s (C2.1 hs).1
 have md:∀s∈cY k.1 b,s.2.2.length<=8:=λs hs=>h.hd1 s (C2.1 hs).1
 have one:∀(kind r:Int) (s:den B9),s.2.2.length<=8-> ∀p∈rF kind r s,oJ p:=λkind r s hs p hp=>by
  unfold rF at hp;cases hc:D (Dt s.2.2 r>=0) with
  | false=>rw[hc]at hp;cases hp
  | true=>
   rw[hc]at hp;rw[Cy.1 hp];exact bV0 (B5 (Si _ _ _) hs)
 unfold vB at hp;cases hc:(a==b||(!cK t a|| !cK t b)) with
 | true=>rw[hc]at hp;cases hp
 | false=>
 rw[hc]at hp;simp only[zY,C0]at hp;rcases hp with (((((hp | hp) | hp) | hp) | hp) | hp) | hp
 .obtain⟨s,hs,hp⟩:=Ev.1 hp;exact one _ _ s (mu s hs) p hp
 .obtain⟨s,hs,hp⟩:=Ev.1 hp;exact one _ _ s (md s hs) p hp
 .exact Sc h (by decide) (by decide) _ _ p hp
 .obtain⟨u,hu,hp⟩:=Ev.1 hp;obtain⟨d,hd,hp⟩:=Ev.1 hp;unfold uF at hp;cases hq:D (((FD u d).length:Int)>0) with
  | false=>rw[hq]at hp;cases hp
  | true=>
   rw[hq]at hp;rw[Cy.1 hp];exact bMx (mu u hu) (md d hd) _
 .cases hq:eD t a with
  | false=>rw[hq]at hp;cases hp
  | true=>
   rw[hq]at hp;obtain⟨d,hd,hp⟩:=Ev.1 hp;exact Sc h (by decide) (md d hd) _ _ p hp
 .cases hq:eD t b with
  | false=>rw[hq]at hp;cases hp
  | true=>
   rw[hq]at hp;obtain⟨u,hu,hp⟩:=Ev.1 hp;exact Sc h (mu u hu) (by decide) _ _ p hp
 .obtain⟨u,hu,hp⟩:=Ev.1 hp;obtain⟨d,hd,hp⟩:=Ev.1 hp;exact Sc h (mu u hu) (md d hd) _ _ p hp
theorem bFg{t:den B2}{k:den CS}(h:Dv k)(a b:Int):(vB t k a b).length<=2000000000000:=by
 obtain⟨n1,n2,n3,n4,n5,n6,s1,s2,s4,s5,s6,s7⟩:=RK h a b;have n7:((cY k.1 a).flatMap λu=>(cY k.1 b).flatMap λd=>cA k.2 u (dE u) (dE d) d).length<=1024000000000:=by rw[N7];exact s7
 unfold vB;cases (a==b||(!cK t a|| !cK t b)) with
 | true=>exact C3 _
 | false=>
 cases eD t a<;>cases eD t b<;>simp only[zY,zZ,C7,CE]<;>omega
def JC(q:den Cb)(i:Nat):Int:=EJ q (if uD q.1 then i+1 else i)
def FC(t:den B2)(q:den Cb):Bool:=(q.2.2.2.zipIdx 0).all λz=>vW t q.2.1 (JC q z.2) z.1
def JV(t:den B2)(p:Ci):Bool:=p.all (FC t)
theorem cFm{t:den B2}{q:den Cb}(ht:t.1.length<=1000000)(h:q.2.2.2.length<=1000000):uR t q=U (FC t q):=by
 unfold uR FC A1 B6 Cp;rw[aM (l:=q.2.2.2) (λk (x:den cH)=>if vW t q.2.1 (JC q k) x then W else U Y) (by omega) (λk x hi hd hw hx hk=>by
  have e1:mY (q.1,q.2.1,q.2.2.1,q.2.2.2) (k:Int)=U (EJ q k):=WL (p:=q) (by omega) (by omega);have e2:mY (q.1,q.2.1,q.2.2.1,q.2.2.2) ((k+1:Nat):Int)=U (EJ q (k+1)):=WL (p:=q) (by omega) (by omega);have e3:∀b,nD (t.1,t.2) q.2.1 b (x.1,x.2.1,x.2.2.1,x.2.2.2.1,x.2.2.2.2)=U (vW t q.2.1 b x):=λb=>Tt (t:=t) (h:=x) (by omega)
  simp only[hd,hi,hw,zZ,aA,e1,e2,e3,O3];unfold JC;cases uD q.1 with
  | true=>
   simp only[zZ,aA,e3,zV];cases vW t q.2.1 (EJ q (k+1)) x<;>rfl
  | false=>
   simp only[zY,aA,e3,Cg,zU];cases vW t q.2.1 (EJ q k) x<;>rfl) (by simp),EI]
 cases (q.2.2.2.zipIdx 0).all λz=>vW t q.2.1 (JC q z.2) z.1<;>rfl
theorem cEr{t:den B2}{q:den Cb}(ht:t.1.length<=1000000)(h:q.2.2.2.length<=1000000):tP t q=U (FC t q):=by
 unfold tP FC A1 B6 Cp;rw[aM (l:=q.2.2.2) (λk (x:den cH)=>if vW t q.2.1 (JC q k) x then W else U Y) (by omega) (λk x hi hd hw hx hk=>by
  have e1:kT (q.1,q.2.1,q.2.2.1,q.2.2.2) (k:Int)=U (EJ q k):=WN (p:=q) (by omega) (by omega);have e2:kT (q.1,q.2.1,q.2.2.1,q.2.2.2) ((k+1:Nat):Int)=U (EJ q (k+1)):=WN (p:=q) (by omega) (by omega);have e3:∀b,kY (t.1,t.2) q.2.1 b (x.1,x.2.1,x.2.2.1,x.2.2.2.1,x.2.2.2.2)=U (vW t q.2.1 b x):=λb=>XW (t:=t) (h:=x) (by omega)
  have eb:KR (q.1,q.2.1,q.2.2.1,q.2.2.2) (k:Int)=U (JC q k):=by
   unfold KR JC B6;simp only[OB,aA,hw,e1,e2];cases uD q.1<;>rfl
  simp only[hd,hi,hw,zZ,aA,eb,e3];cases vW t q.2.1 (JC q k) x<;>rfl) (by simp),EI]
 cases (q.2.2.2.zipIdx 0).all λz=>vW t q.2.1 (JC q z.2) z.1<;>rfl
theorem cIr{t:den B2}{p:Ci}(ht:t.1.length<=1000000)(h:oJ p):uY t p=U (JV t p):=by
 have h3:=h.1;unfold uY JV A1 B6;rw[aM (l:=p) (λ_ (x:den Cb)=>if FC t x then W else U Y) (by omega) (λk x hi hd hw hx hk=>by
  have e:uR (t.1,t.2) (x.1,x.2.1,x.2.2.1,x.2.2.2)=U (FC t x):=cFm (t:=t) (q:=x) ht (B5 (h.2 x hx) (by decide));simp only[hd,hi,hw,zZ,aA,e];cases FC t x<;>rfl) (by simp),iO]
 cases p.all (FC t)<;>rfl
theorem cKb{t:den B2}{p:Ci}(ht:t.1.length<=1000000)(h:oJ p):uT t p=U (JV t p):=by
 have h3:=h.1;unfold uT JV A1 B6;rw[aM (l:=p) (λ_ (x:den Cb)=>if FC t x then W else U Y) (by omega) (λk x hi hd hw hx hk=>by
  have e:tP (t.1,t.2) (x.1,x.2.1,x.2.2.1,x.2.2.2)=U (FC t x):=cEr (t:=t) (q:=x) ht (B5 (h.2 x hx) (by decide));simp only[hd,hi,hw,zZ,aA,e];cases FC t x<;>rfl) (by simp),iO]
 cases p.all (FC t)<;>rfl
def FI(now:Int)(l:eV):Bool:=l.all λh=>D (now<=h.2.2.2.1)
def I7(t:den B2)(p:Ci)(now:Int):Bool:=cond (xW t p&&JV t p) (p.all λx=> !D (x.2.1>now)&&FI now x.2.2.2) Y
theorem Wa(now:Int):∀(l:eV) (a:Int),D (now>(l.foldl tA (a,X)).1)= !(D (now<=a)&&FI now l)
 | [],a=>by
  show D (now>a)= !(D (now<=a)&&X)
  by_cases h:now<=a
  .rw[zX h,zW (by omega)];rfl
  .rw[zW h,zX (by omega)];rfl
 | h::l,a=>by
  rw[EX];unfold FI;rw[Mk]
  by_cases c:h.2.2.2.1<a
  .have e2:tA (a,X) h=(h.2.2.2.1,X):=by unfold tA;simp[c]
   rw[e2,Wa now l];unfold FI
   by_cases d:now<=h.2.2.2.1
   .rw[zX d,zX (Int.le_trans d (Int.le_of_lt c))];rfl
   .rw[zW d];simp
  .have e2:tA (a,X) h=(a,X):=by unfold tA;simp[c]
   rw[e2,Wa now l];unfold FI
   by_cases d:now<=a
   .rw[zX d,zX (Int.le_trans d (Int.not_lt.1 c))];rfl
   .rw[zW d];rfl
theorem bZ4{now:Int}{l:eV}(h:l≠[]):D (now>Ee l)= !FI now l:=by
 cases l with
 | nil=>exact absurd rfl h
 | cons x l=>
  unfold Ee;rw[EX];have e2:tA (0,Y) x=(x.2.2.2.1,X):=by unfold tA;simp
  rw[e2,Wa];unfold FI;rw[Mk]
theorem bYk{l:eV}(hl:l.length<=1000000):jY l=U (Ee l):=by
 unfold jY;rw[fV (λk (a:Int)=>(a,(k:Int))) ((0:Int),(0:Int)) 0 l Gf (λ_=>0) (λ_=>0) 1 id rfl (by omega) (by rw[sum_nil];omega) (λk x a=>by omega) (λk x a hi hx hd hw hk hb=>by
  simp only[hd,hi,hw,zZ,aA];unfold Gf
  by_cases h0:k=0
  .subst h0;rw[zT (.inl rfl)];rfl
  .rw[show ((k:Int)==0)=Y by rw[beq_eq_false_iff_ne];omega];simp only[zY,aA]
   by_cases c:x.2.2.2.1<a
   .rw[zX c,zT (.inr c)];rfl
   .rw[zW c,zS (by rintro (e | e);exact h0 e;exact c e)];rfl) (λa=>by simp),bGr]
 rfl
theorem cFz{t:den B2}{p:den B4}(h:Km t p=X){k:Nat}{x:den Cb}(hx:p[k]? =U x):FX t x=X/\(k=0\/T6 ((p[k - 1]?).getD pt0) x=X):=by
 unfold Km at h;rw[Ck]at h;have :=(MI (DH t p) p).1 h.2 k x hx;unfold DH at this;rw[Ck,Fs,zR]at this;exact this
theorem bZt{t:den B2}{x:den Cb}(h:FX t x=X):0<x.2.2.2.length:=by
 unfold FX at h;rw[Ck]at h;have :=(bQ.1 h.1).1;omega
theorem bKv{t:den B2}{p:Ci}(h:xW t p=X):∀x∈p,x.2.2.2≠[]:=by
 intro x hx e;unfold xW at h;rw[Ck]at h;obtain⟨k,hk⟩:=UR.1 hx;have :=bZt (cFz h.1 hk).1;rw[e]at this;exact absurd this (by decide)
theorem cIc{t:den B2}{p:Ci}(ht:t.1.length<=1000000)(h2:t.2.length<=1000000)(h:oJ p)(now:Int):tX t p now=U (I7 t p now):=by
 have h3:=h.1;have e1:oO (t.1,t.2) p=U (xW t p):=bD3 (t:=t) (p:=p) (by omega) (by omega) (W3 h);have e2:uY (t.1,t.2) p=U (JV t p):=cIr (t:=t) ht h;unfold tX I7 A1;simp only[e1,e2,aA];cases c1:xW t p with
 | false=>rfl
 | true=>
  cases c2:JV t p with
  | false=>rfl
  | true=>
   simp only[BZ,zY,aA,EV,zZ];rw[aM (l:=p) (λ_ (x:den Cb)=>if !D (x.2.1>now)&&FI now x.2.2.2 then W else U Y) (by omega) (λk x hi hd hw hx hk=>by
    have e:jY x.2.2.2=U (Ee x.2.2.2):=bYk (B5 (h.2 x hx) (by decide));simp only[hd,hi,hw,zZ,aA,e,bZ4 (now:=now) (bKv c1 x hx)];cases D (x.2.1>now)<;>cases FI now x.2.2.2<;>rfl) (by simp),iO]
   cases p.all λx=> !D (x.2.1>now)&&FI now x.2.2.2<;>rfl
theorem cH8{t:den B2}{p:Ci}(ht:t.1.length<=1000000)(h2:t.2.length<=1000000)(h:oJ p)(now:Int):tR t p now=U (I7 t p now):=by
 have h3:=h.1;have e1:oU (t.1,t.2) p=U (xW t p):=bEz (t:=t) (p:=p) (by omega) (by omega) (W3 h);have e2:uT (t.1,t.2) p=U (JV t p):=cKb (t:=t) ht h;unfold tR I7 A1 Cp;simp only[e1,e2,aA];cases c1:xW t p with
 | false=>rfl
 | true=>
  cases c2:JV t p with
  | false=>rfl
  | true=>
   simp only[BZ,zY,aA,EV,zZ];rw[aM (l:=p) (λ_ (x:den Cb)=>if !D (x.2.1>now)&&FI now x.2.2.2 then W else U Y) (by omega) (λk x hi hd hw hx hk=>by
    have hx3:=h.2 x hx;simp only[hd,hi,hw,zZ,aA];cases c:D (x.2.1>now) with
    | true=>rfl
    | false=>
     simp only[zY];rw[aM (l:=x.2.2.2) (λ_ (y:den cH)=>if D (now<=y.2.2.2.1) then W else U (A2 (A2 Y))) (by omega) (λj y hj hd' hw' hy hk'=>by
      have ehv:∀(hp:den cH) (n:Int),rN hp n=U (D (n<=hp.2.2.2.1)):=λ_ _=>rfl
      simp only[hd',hj,hw',zZ,aA,ehv];cases D (now<=y.2.2.2.1)<;>rfl) (by simp),iO]
     unfold FI;cases x.2.2.2.all λy=>D (now<=y.2.2.2.1)<;>rfl) (by simp),iO]
   cases p.all λx=> !D (x.2.1>now)&&FI now x.2.2.2<;>rfl
noncomputable def Is(l:List Ci)(p:Ci):Bool:=l.any λx=>EH x p
theorem M6{α:Type}(p:α->Bool):∀(l:List α) (k:Nat),dH (λ_ x=>if p x then U X else W) k l=if l.any p then U X else W
 | [],_=>rfl
 | x::l,k=>by
  rw[List.any_cons];unfold dH
  by_cases h:p x=X
  .rw[zT h,h];rfl
  .rw[zS h];have h':p x=Y:=by simpa using h
   rw[h',Mj];exact M6 p l (k+1)
theorem Sy{p:Ci}(h:oJ p):Cc 549755813888 (.sl Cb) p:=(bH (t:=B4) (W3 h)).mono (by decide)
theorem cE3{l:List Ci}{p:Ci}(hl:l.length<=1000000)(h:∀x∈l,oJ x)(hp:oJ p):Ja l p=U (Is l p):=by
 unfold Ja Is;rw[aM (l:=l) (λ_ (x:Ci)=>if EH x p then U X else W) (by omega) (λk x hi hd hw hx hk=>by
  have e:tM x p=U (EH x p):=cGd (Sy (h x hx)) (Sy hp);simp only[hd,hi,hw,zZ,aA,e];cases EH x p<;>rfl) (by simp),M6 (λx=>EH x p)]
 cases l.any λx=>EH x p<;>rfl
theorem cE4{l:List Ci}{p:Ci}(hl:l.length<=1000000)(h:∀x∈l,oJ x)(hp:oJ p):Jd l p=U (Is l p):=by
 unfold Jd Is;rw[aM (l:=l) (λ_ (x:Ci)=>if EH x p then U X else W) (by omega) (λk x hi hd hw hx hk=>by
  have e:uK x p=U (EH x p):=cFl (Sy (h x hx)) (Sy hp);simp only[hd,hi,hw,zZ,aA,e];cases EH x p<;>rfl) (by simp),M6 (λx=>EH x p)]
 cases l.any λx=>EH x p<;>rfl
noncomputable def EF(t:den B2)(now:Int)(l:List Ci)(p:Ci):List Ci:=
 cond (D ((l.length:Int)<24)) (cond (I7 t p now) (cond (Is l p) l (l++[p])) l) l
noncomputable def hZ(t:den B2)(k:den CS)(a b now:Int):List Ci:=(vB t k a b).foldl (EF t now) []
theorem XM{t:den B2}{now:Int}{l:List Ci}{p:Ci}(h:l.length<=24/\ ∀x∈l,oJ x)(hp:oJ p):(EF t now l p).length<=24/\ ∀x∈EF t now l p,oJ x:=by
 unfold EF
 by_cases hc:(l.length:Int)<24
 .rw[zX hc,zZ];cases I7 t p now with
  | false=>exact h
  | true=>
   cases Is l p with
   | true=>exact h
   | false=>
    refine⟨by simp;omega,λx hx=> ?_⟩;rcases C0.1 (show x∈l++[p] from hx) with hx | hx
    .exact h.2 x hx
    .rw[Cy.1 hx];exact hp
 .rw[zW hc];exact h
theorem bVv{t:den B2}{now:Int}:∀(m l:List Ci),(∀p∈m,oJ p)->l.length<=24->(∀x∈l,oJ x)->(m.foldl (EF t now) l).length<=24/\ ∀x∈m.foldl (EF t now) l,oJ x
 | [],l,_,h1,h2=>⟨h1,h2⟩
 | p::m,l,h,h1,h2=>by
  obtain⟨a,b⟩:=XM (t:=t) (now:=now) ⟨h1,h2⟩ (h p (by simp));exact bVv m _ (λq hq=>h q (C1 _ hq)) a b
theorem bD7{t:den B2}{now:Int}:∀(m l:List Ci),¬ ((l.length:Int)<24)->m.foldl (EF t now) l=l
 | [],_,_=>rfl
 | p::m,l,h=>by
  have e:EF t now l p=l:=by unfold EF;rw[zW h];rfl
  rw[EX,e];exact bD7 m l h
theorem Xq{t:den B2}{k:den CS}(ht:t.1.length<=1000000)(h2:t.2.length<=1000000)(h:Dv k)(a b now:Int):iC t k a b now=U (hZ t k a b now):=by
 have e0:qB (t.1,t.2) (k.1,k.2) a b=U (vB t k a b):=cJn (t:=t) (k:=k) ht h a b;have hB:=WD (t:=t) h a b;have hL:=bFg (t:=t) h a b;unfold iC hZ A1;rw[e0,aA];rw[(KP (l:=vB t k a b) (EF t now) (λ_ l=>l.length<=24/\ ∀x∈l,oJ x) (out:=λx=>x) (by omega) ⟨by simp,λx hx=>(Dl hx).elim⟩ (λi p l hi hd hw hp hk hI=>by
  have e1:tX (t.1,t.2) p now=U (I7 t p now):=cIc (t:=t) ht h2 (hB p hp) now;have e2:Ja l p=U (Is l p):=cE3 (by omega) hI.2 (hB p hp);refine⟨?_,XM hI (hB p hp)⟩;unfold EF;simp only[hd,hi,hw,zZ,aA,e1,e2,aC (b:=24) (n:=l.length) (m:=1) (by decide) (by omega)];cases D ((l.length:Int)<24)<;>cases I7 t p now<;>cases Is l p<;>rfl) (λl=>by simp)).1]
 rfl
theorem WF{t:den B2}{k:den CS}(ht:t.1.length<=1000000)(h2:t.2.length<=1000000)(h:Dv k)(a b now:Int):fO t k a b now=U (hZ t k a b now):=by
 have e0:qD (t.1,t.2) (k.1,k.2) a b=U (vB t k a b):=cIk (t:=t) (k:=k) ht h a b;have hB:=WD (t:=t) h a b;have hL:=bFg (t:=t) h a b;unfold fO hZ BX A1;rw[e0,aA];have key:∀(G:Int×List Ci->Option ((Int×List Ci)⊕List Ci)),
   (∀(i:Nat) (p:Ci) (l:List Ci),(vB t k a b)[i]? =U p->i<(vB t k a b).length->p∈vB t k a b->l.length<=24->(∀x∈l,oJ x)->(l.length:Int)<24->G ((i:Int),l)=U (.inl (((i+1:Nat):Int),EF t now l p)))->
   (∀(i:Nat) (l:List Ci),i<=(vB t k a b).length->(i=(vB t k a b).length\/ ¬ ((l.length:Int)<24))->G ((i:Int),l)=U (.inr l))->
   ∀(rest pre l:List Ci),pre++rest=vB t k a b->l.length<=24->(∀x∈l,oJ x)->aB G ((pre.length:Int),l)=U (rest.foldl (EF t now) l):=by
  intro G hs he rest
  induction rest with
  | nil=>intro pre l hp h1 h3;exact aH (he pre.length l (by rw[<- hp];simp) (.inl (by rw[<- hp];simp)))
  | cons p rest ih=>
   intro pre l hp h1 h3;have hlt:pre.length<(vB t k a b).length:=by rw[<- hp];simp
   have hx:(vB t k a b)[pre.length]? =U p:=by rw[<- hp];simp
   by_cases hc:(l.length:Int)<24
   .have hpB:=hB p (Cm hx);obtain⟨q1,q2⟩:=XM (t:=t) (now:=now) ⟨h1,h3⟩ hpB;rw[aO (hs pre.length p l hx hlt (Cm hx) h1 h3 hc),EX];have :=ih (pre++[p]) (EF t now l p) (by simpa using hp) q1 q2;simpa using this
   .rw[bD7 _ _ hc];exact aH (he pre.length l (by omega) (.inr hc))
 refine (congrArg (λo=>Option.bind o _) (key _ (λi p l hx hi hp h1 h3 hc=> ?_) (λi l hi hc=> ?_) (vB t k a b) [] [] rfl (by simp) (λx hx=>(Dl hx).elim))).trans ?_
 .have e1:tR (t.1,t.2) p now=U (I7 t p now):=cH8 (t:=t) ht h2 (hB p hp) now;have e2:Jd l p=U (Is l p):=cE4 (by omega) h3 (hB p hp);have hd:D ((i:Int)<((vB t k a b).length:Int))=X:=zX (by omega);have hw:wr ((i:Int)+1)=((i+1:Nat):Int):=Lo (by omega);unfold EF;simp only[hd,bF,hw,zZ,Cj,hx,aA,e1,e2,zX hc,aC (b:=24) (n:=l.length) (m:=1) (by decide) (by omega)];cases I7 t p now<;>cases Is l p<;>rfl
 .rcases hc with rfl | hc
  .simp only[zW (Int.lt_irrefl _),zY,aA]
  .cases D ((i:Int)<((vB t k a b).length:Int)) with
   | false=>simp only[zY,aA]
   | true=>simp only[zZ,aA,zW hc,zY]
 .rfl
theorem WI{t:den B2}{k:den CS}(h:Dv k)(a b now:Int):bWg 24 (hZ t k a b now):=bVv _ _ (WD h a b) (by simp) (λx hx=>(Dl hx).elim)
theorem cHr(a b:Int):Mx a b=U (a,b,0,[]):=rfl
theorem Jm(a b c d cu wa:Int)(ms:Dq)(ps:Cf)(rv:CB):tot B7 (a,b,c,d,ms,ps,cu,wa,rv)=tot (.sl Dd) ms+tot (.sl B4) ps+rv.length:=by
 show tot ti a+(tot ti b+(tot ti c+(tot ti d+(tot (.sl Dd) ms+(tot (.sl B4) ps+(tot ti cu+(tot ti wa+tot (.sl CI) rv)))))))=_;rw[qW (t:=CI) rfl];show 0+(0+(0+(0+(_+(_+(0+(0+_)))))))=_;omega
theorem cFt(b:List Int):tot (.sl Dd) [b]=1+b.length:=by
 rw[kD];show 1+tot (.sl tb) b+tot (.sl Dd) []=_;rw[qW (t:=tb) rfl];rfl
def EC(w:den B1)(f:den B7):Bool:= !tZ f|| !cK (nT w) f.1|| !cK (nT w) f.2.1||(f.2.2.2.1 != 0)||D (((aG w).length:Int)>=4)||D (oD (cR w) f.2.1 f.1>=0)
def Hd(f:den B7)(l:Cf)(now:Int):den B7:=(f.1,f.2.1,f.2.2.1,f.2.2.2.1,f.2.2.2.2.1,JE f l now,0,0,f.2.2.2.2.2.2.2.2)
def Mc(w:den B1)(f:den B7)(l:Cf):den B1:=(nT w,nK w,nG w,aV w,bC w,bS w,aG w++[Hd f l (aV w)],cR w++[(f.2.1,f.1,0,[])],qP w)
def I3(w:den B1)(b:Bool):q34:=
 ((nG w).1,aV w,qP w,b,(nT w).1,(nT w).2,(nK w).1,(nK w).2,(nG w).2.1,(nG w).2.2,bC w,bS w,aG w,cR w)
theorem bYw{w:den B1}{f:den B7}{l:Cf}(hw:tot B1 w<=68719476736)(hf:tot B7 f<=68719476736)(hl:tot (.sl B4) l<=68719476736)(el:fO (nT w) (nK w) f.1 f.2.1 (aV w)=U l):
  wY w f=U (I3 (if EC w f then w else Mc w f l) (!EC w f)):=by
 have sw:Cc 549755813888 B1 w:=(bH hw).mono (by decide);have sf:Cc 549755813888 B7 f:=(bH hf).mono (by decide);have n1:w.1.1.length<=549755813888:=sw.1.1.1;have n2:w.2.2.2.2.2.2.2.1.length<=68719476736:=(bH hw).2.2.2.2.2.2.2.1.1;have n3:w.2.2.2.2.2.2.1.length<=68719476736:=(bH hw).2.2.2.2.2.2.1.1;have el:fO w.1 w.2.1 f.1 f.2.1 w.2.2.2.1=U l:=el;have a1:aF 120 w.2.2.2.2.2.2.1.length 1=X:=aC (by decide) (by omega);have a2:aF 48 w.2.2.2.2.2.2.2.1.length 1=X:=aC (by decide) (by omega);unfold wY EC aK A1 B6 Ct aL aS bA bZ A0 A4 A3 A8 B0 B8;simp only[aD,WY sw,W1 sf,F7 n1,WJ (show w.2.2.2.2.2.2.2.1.length<=549755813888 by omega),el,bSx hf hl,cHr,aA,E6,a1,a2,zZ];cases tZ f
 .rfl
 cases cK w.1 f.1
 .rfl
 cases cK w.1 f.2.1
 .rfl
 cases f.2.2.2.1 != 0 with
 | true=>rfl
 | false=>cases D ((w.2.2.2.2.2.2.1.length:Int)>=4) with
  | true=>rfl
  | false=>cases D (oD w.2.2.2.2.2.2.2.1 f.2.1 f.1>=0)<;>rfl
theorem aWr{t:den B2}{now:Int}{dead:List Int}{r inn:Int}{p:den A9}(h:((bM t now dead r inn p).1==0)=X):tot A9 (bM t now dead r inn p).2.2.1<=1100:=by
 have hv:sL p=X:=VG (t:=t) (r:=r) (now:=now) (dead:=yZ t dead r) (inn:=inn) (by
  have h:((fwd t r now (yZ t dead r) inn p).1==0)=X:=h;rw[eq_of_beq h];rfl)
 unfold bM;rw[Qs];exact B5 (aZc hv) (by decide)
theorem cEu{w:den B1}{x:den C5}:tot B1 (bR w (bS w++[x]))=tot B1 w+(1+tot A9 x.2.2):=by
 have h1:=Vj w (bS w++[x]);rw[wA,Lk]at h1;have e:tot C5 x=tot A9 x.2.2:=by simp[sI,vZ]
 omega
theorem bSn(m:Nat)(dead:List Int)(i:Int)(b:Bool):(yV m dead i b).length<=m:=by
 unfold yV;exact B5 (H5 ..) (by simp)
theorem bKt(w:den B1)(l:List Int):tot B1 (Ov w l)+(bC w).length=tot B1 w+l.length:=by
 have e:tot B1 (Ov w l)=(tot (.sl CN) (nT w).1+tot (.sl C8) (nT w).2)+((tot (.sl B9) (nK w).1+tot (.sl B9) (nK w).2)+((0+(tot (.sl C9) (nG w).2.1+tot (.sl CW) (nG w).2.2))+(0+(tot (.sl ti) l+(tot (.sl C5) (bS w)+(tot (.sl B7) (aG w)+(tot (.sl Cq) (cR w)+0))))))):=rfl;have r:∀l:List Int,tot (.sl ti) l=l.length:=λl=>qW rfl
 rw[e,dX w,r,r];omega
def cCo(w:den B1)(b:Bool):D7×D8×Co×Co×Int×C4×Dk×Int×lI×Int×Bool×CR×CK×Dj:=
 ((nT w).1,(nT w).2,(nK w).1,(nK w).2,(nG w).1,(nG w).2.1,(nG w).2.2,aV w,bC w,qP w,b,bS w,aG w,cR w)
noncomputable def cLe(w:den B1)(i:Nat)(f:den B7):den B1:=gZ w ((aG w).set i (Hd f (hZ (nT w) (nK w) f.1 f.2.1 (aV w)) (aV w)))
noncomputable def Sd(w:den B1)(n:Int):Bool×den B1:=match B3 n 0 (((aG w).length:Int) - 1),(aG w)[n.toNat]? with
 | true,U f=>(X,cLe w n.toNat f)
 | _,_=>(Y,w)
noncomputable def Fv(w:den B1)(e:den yP):Bool×den B1:=if e.1==9 then Sd w e.2.1 else Mp w e
structure Qv (w:den B1):Prop where
 as:(nT w).1.length<=1000000
 links:(nT w).2.length<=1000000
 db:Dv (nK w)
theorem Qv.find{w:den B1}(h:Qv w)(a b now:Int):tot (.sl B4) (hZ (nT w) (nK w) a b now)<=100000/\(hZ (nT w) (nK w) a b now).length<=24:=⟨B5 (bEq (WI h.db a b now)) (by decide),(WI h.db a b now).1⟩
theorem cLw{B F:Nat}{w:den B1}{e:den yP}(hF:F<=1000)(hk:fJ B F w)(hB:B+(F+1) * (160+F)<=34359738368)(hd:Cc 137438953472 (.sl tb) e.2.2.1)(hp:tot A9 e.2.2.2.2.2<=274877906944)(hdead:MV (nT w).2.length (bC w))(hf:Qv w):kV w e=U ((Fv w e).1,aN (Fv w e).2):=by
 unfold Fv;cases c:e.1==(9:Int) with
 | false=>exact cN2 hF hk hB c hd hp hdead
 | true=>
  rw[zT rfl];obtain⟨kd,n,data,to,ing,pk⟩:=e;have c:kd=(9:Int):=eq_of_beq c;subst c;have hB0:B<=34359738368:=by have :=C3 ((F+1) * (160+F));omega
  have l1:w.2.2.2.2.2.1.length<=68719476736:=MJ hk (by omega);have l2:w.2.2.2.2.2.2.1.length<=68719476736:=B5 hk.flows (by omega);obtain⟨n1,n2,n3⟩:=Jw hk (by omega);have l3:w.1.2.length<=68719476736:=n1.links;have w1:wr ((w.2.2.2.2.2.1.length:Int) - 1)=(w.2.2.2.2.2.1.length:Int) - 1:=dO (by omega);have w2:wr ((w.2.2.2.2.2.2.1.length:Int) - 1)=(w.2.2.2.2.2.2.1.length:Int) - 1:=dO (by omega);have w3:wr ((w.1.2.length:Int) - 1)=(w.1.2.length:Int) - 1:=dO (by omega);unfold kV Sd BX aK eG ET A1 A6 Ct aL aS bA bZ dS oF zA zE zH D2 D1 E4 GB Gz GD G6 A0 A4 A3 A8 B0 B8;simp only[w1,w2,w3,gX,aA,show ((9:Int)==1)=Y from rfl,show ((9:Int)==2)=Y from rfl,show ((9:Int)==3)=Y from rfl,show ((9:Int)==4)=Y from rfl,show ((9:Int)==5)=Y from rfl,show ((9:Int)==6)=Y from rfl,show ((9:Int)==7)=Y from rfl,show ((9:Int)==8)=Y from rfl,show ((9:Int)==9)=X from rfl,zY,zZ];cases hin:B3 n 0 ((w.2.2.2.2.2.2.1.length:Int) - 1) with
  | false=>rfl
  | true=>
   obtain⟨i,x,rfl,hx,hlt,hz⟩:=Iw l2 hin;have hx:(aG w)[i]? =U x:=hx;have hx':w.2.2.2.2.2.2.1[((i:Nat):Int).toNat]? =U x:=by rw[Cj];exact hx
   have hfx:tot B7 x<=34359738368:=by
    have h1:=kE (t:=B7) (Cm hx);have :=dX w;have :=hk.tot;omega
   obtain⟨q1,q2⟩:=hf.find x.1 x.2.1 (aV w);have e1:iC (w.1.1,w.1.2) (w.2.1.1,w.2.1.2) x.1 x.2.1 w.2.2.2.1=U (hZ (nT w) (nK w) x.1 x.2.1 (aV w)):=Xq (t:=nT w) (k:=nK w) hf.as hf.links hf.db _ _ _;have e2:tU (x.1,x.2.1,x.2.2.1,x.2.2.2.1,x.2.2.2.2.1,x.2.2.2.2.2.1,x.2.2.2.2.2.2.1,x.2.2.2.2.2.2.2.1,x.2.2.2.2.2.2.2.2) (hZ (nT w) (nK w) x.1 x.2.1 (aV w)) w.2.2.2.1=U _:=bTu (f:=x) (by omega) (B5 q1 (by decide));have hlt2:D (((i:Nat):Int).toNat<w.2.2.2.2.2.2.1.length)=X:=zX (by rw[Cj];exact (Cu.1 hx).1);simp only[BZ,zY,zZ,hlt,hz,hx',hlt2,aA,e1,e2,Ea];rfl
theorem cL0{B F:Nat}{w:den B1}{e:den yP}(hF:F<=1000)(hk:fJ B F w)(hB:B+(F+1) * (160+F)<=34359738368)(hd:Cc 137438953472 (.sl tb) e.2.2.1)(hp:tot A9 e.2.2.2.2.2<=274877906944)(hf:Qv w):qC w e=U ((Fv w e).1,aN (Fv w e).2):=by
 unfold Fv;cases c:e.1==(9:Int) with
 | false=>exact cNg hF hk hB c hd hp
 | true=>
  rw[zT rfl];obtain⟨kd,n,data,to,ing,pk⟩:=e;have c:kd=(9:Int):=eq_of_beq c;subst c;have hB0:B<=34359738368:=by have :=C3 ((F+1) * (160+F));omega
  have l1:w.2.2.2.2.2.1.length<=68719476736:=MJ hk (by omega);have l2:w.2.2.2.2.2.2.1.length<=68719476736:=B5 hk.flows (by omega);have w1:wr ((w.2.2.2.2.2.1.length:Int) - 1)=(w.2.2.2.2.2.1.length:Int) - 1:=dO (by omega);have w2:wr ((w.2.2.2.2.2.2.1.length:Int) - 1)=(w.2.2.2.2.2.2.1.length:Int) - 1:=dO (by omega);unfold qC Sd KK BX aK eG ET A1 Ct aL aS bA bZ dS oF zA zE zH D2 D1 E4 GB Gz GD G6 A0 A4 A3 A8 B0 B8;simp only[w1,w2,fC,aA,show ((9:Int)==1)=Y from rfl,show ((9:Int)==2)=Y from rfl,show ((9:Int)==3)=Y from rfl,show ((9:Int)==4)=Y from rfl,show ((9:Int)==5)=Y from rfl,show ((9:Int)==6)=Y from rfl,show ((9:Int)==7)=Y from rfl,show ((9:Int)==8)=Y from rfl,show ((9:Int)==9)=X from rfl,zY,zZ];cases hin:B3 n 0 ((w.2.2.2.2.2.2.1.length:Int) - 1) with
  | false=>rfl
  | true=>
   obtain⟨i,x,rfl,hx,hlt,hz⟩:=Iw l2 hin;have hx:(aG w)[i]? =U x:=hx;have hx':w.2.2.2.2.2.2.1[((i:Nat):Int).toNat]? =U x:=by rw[Cj];exact hx
   have hfx:tot B7 x<=34359738368:=by
    have h1:=kE (t:=B7) (Cm hx);have :=dX w;have :=hk.tot;omega
   obtain⟨q1,q2⟩:=hf.find x.1 x.2.1 (aV w);have e1:fO (w.1.1,w.1.2) (w.2.1.1,w.2.1.2) x.1 x.2.1 w.2.2.2.1=U (hZ (nT w) (nK w) x.1 x.2.1 (aV w)):=WF (t:=nT w) (k:=nK w) hf.as hf.links hf.db _ _ _;have e2:uE (x.1,x.2.1,x.2.2.1,x.2.2.2.1,x.2.2.2.2.1,x.2.2.2.2.2.1,x.2.2.2.2.2.2.1,x.2.2.2.2.2.2.2.1,x.2.2.2.2.2.2.2.2) (hZ (nT w) (nK w) x.1 x.2.1 (aV w)) w.2.2.2.1=U _:=bSx (f:=x) (by omega) (B5 q1 (by decide));have hlt2:D (((i:Nat):Int).toNat<w.2.2.2.2.2.2.1.length)=X:=zX (by rw[Cj];exact (Cu.1 hx).1);simp only[BZ,zY,zZ,hlt,hz,hx',hlt2,aA,e1,e2];rfl
noncomputable def Gd(w:den B1)(e:den yP):Bool×den B1:=if DZ w then (if (Fv w e).1 then Fv w e else (Y,w)) else (Y,w)
structure Df (w w':den B1):Prop where
 top:nT w'=nT w
 book:nK w'=nK w
 fly:(∀x∈bS w,tot A9 x.2.2<=1100)-> ∀x∈bS w',tot A9 x.2.2<=1100
theorem Df.refl(w:den B1):Df w w:=⟨rfl,rfl,id⟩
theorem Df.trans{a b c:den B1}(h:Df a b)(k:Df b c):Df a c:=⟨k.top.trans h.top,k.book.trans h.book,λx=>k.fly (h.fly x)⟩
theorem bMo(w:den B1)(i:Nat)(x:den Cq):Df w (Ge w i x):=⟨rfl,rfl,id⟩
theorem RR(w:den B1)(l:CK):Df w (gZ w l):=⟨rfl,rfl,id⟩
theorem Wu(w:den B1):Df w (Ir w):=⟨rfl,rfl,id⟩
theorem bSo(w:den B1):Df w (ON w):=⟨rfl,rfl,id⟩
theorem bIo{w:den B1}{r eg:Int}{p:den A9}(hp:tot A9 p<=1100):Df w (FA w r eg p):=by
 unfold FA;split
 .refine⟨rfl,rfl,λh x hx=> ?_⟩;rcases C0.1 (show x∈bS w++_ from hx) with hx | hx
  .exact h x hx
  .rw[Cy.1 hx];exact hp
 .exact⟨rfl,rfl,id⟩
theorem bEc(w:den B1)(r inn:Int)(p:den A9):Df w (Eh w r inn p):=by
 unfold Eh;split
 .rename_i h;exact bIo (aWr h)
 .split<;>exact⟨rfl,rfl,id⟩
theorem VS(w:den B1)(r inn:Int)(p:den A9):Df w (pS w r inn p):=by
 unfold pS;split
 .rename_i h;exact bIo (aWr h)
 .split
  .split
   .unfold L6;split
    .exact Df.refl w
    .split
     .exact (bMo _ _ _).trans (bEc _ _ _ _)
     .exact bMo _ _ _
   .exact RR _ _
  .split
   .unfold MS;split
    .exact (bEc _ _ _ _).trans (Wu _)
    .exact (RR _ _).trans (Wu _)
   .exact Wu _
theorem bUz(k:Nat)(w:den B1):Df w (GZ k w):=by
 unfold GZ;split
 .split
  .exact (RR _ _).trans (VS _ _ _ _)
  .exact RR _ _
 .exact Df.refl w
theorem bD1:∀(n k:Nat) (w:den B1),Df w (MZ k n w)
 | 0,_,w=>Df.refl w
 | n+1,k,w=>(bUz k w).trans (bD1 n (k+1) _)
theorem bJ0(w:den B1):Df w (gK w):=by
 unfold gK;split
 .exact Df.refl w
 .exact (bSo w).trans (bD1 _ _ _)
theorem cE9(w:den B1):Df w (Fn w):=by
 unfold Fn;split
 .exact Df.refl w
 .rename_i x l hf;have a:Df w (bR w l):=⟨rfl,rfl,λh y hy=>h y (by rw[hf];exact C1 _ hy)⟩
  exact a.trans (VS _ _ _ _)
theorem bNn:∀(n:Nat) (w:den B1),Df w (Iy n w)
 | 0,w=>Df.refl w
 | n+1,w=>by
  unfold Iy;split
  .exact Df.refl w
  .exact (cE9 w).trans (bNn n _)
theorem aZa:∀(n:Nat) (w:den B1),Df w (Qk n w)
 | 0,w=>Df.refl w
 | n+1,w=>((bJ0 w).trans (bNn 2000 _)).trans (aZa n _)
structure NB (B:Nat) (w:den B1):Prop where
 keep:fJ B 4 w
 fly:∀x∈bS w,tot A9 x.2.2<=1100
 find:Qv w
theorem NB.mono{B C:Nat}{w:den B1}(h:NB B w)(hb:B<=C):NB C w:=⟨h.keep.mono hb,h.fly,h.find⟩
theorem NB.st{B C:Nat}{w w':den B1}(h:NB B w)(s:Df w w')(hk:fJ C 4 w'):NB C w':=⟨hk,s.fly h.fly,by rw[s.top];exact h.find.as,by rw[s.top];exact h.find.links,by rw[s.book];exact h.find.db⟩
structure ND (e:den yP):Prop where
 data:e.2.2.1.length<=5000/\Gg e.2.2.1
 pk:tot A9 e.2.2.2.2.2<=1100/\sM e.2.2.2.2.2
theorem X8{B:Nat}{w:den B1}{n:Int}(h:NB B w):NB (B+328656000) (jM w n):=by
 unfold jM;split
 .rename_i hc;rw[Ck,bQ]at hc;refine h.st (aZa _ _) ((UX n.toNat h.keep).mono ?_);rw[cEh];have :n.toNat * 328656<=1000 * 328656:=Nat.mul_le_mul (by omega) (Cz _);omega
 .exact h.mono (by omega)
theorem bL8{B:Nat}{w:den B1}(h:NB B w)(i:Nat):NB B (Gj w i):=
 h.st ⟨rfl,rfl,λhf y hy=>hf y ((C0.1 (show y∈(bS w).take _++(bS w).drop _ from hy)).elim IE IH)⟩ (Vg h.keep _)
theorem bS2{B:Nat}{w:den B1}(h:NB B w){x:den C5}(hx:tot A9 x.2.2<=1100/\sM x.2.2):NB (B+1101) (bR w (bS w++[x])):=by
 have h1:=cEu (w:=w) (x:=x);have h2:=h.keep.tot;refine h.st ⟨rfl,rfl,λhf y hy=> ?_⟩ ⟨by omega,h.keep.flows,λy hy=> ?_,h.keep.bytes.msg⟩
 .rcases C0.1 (show y∈bS w++[x] from hy) with hy | hy
  .exact hf y hy
  .rw[Cy.1 hy];exact hx.1
 .rcases C0.1 (show y∈bS w++[x] from hy) with hy | hy
  .exact h.keep.bytes.fly y hy
  .rw[Cy.1 hy];exact hx.2
theorem bUb{B:Nat}{w:den B1}{e:den yP}(h:NB B w)(he:ND e):NB (B+2000000) (Fv w e).2:=by
 have same:NB (B+2000000) w:=h.mono (by omega);have ht:=h.keep.tot;unfold Fv;split
 .unfold Sd;split
  .rename_i f hi hf;have h1:=SD (t:=B7) (y:=Hd f (hZ (nT w) (nK w) f.1 f.2.1 (aV w)) (aV w)) hf;have h5:=R9 w ((aG w).set e.2.1.toNat (Hd f (hZ (nT w) (nK w) f.1 f.2.1 (aV w)) (aV w)));have h6:=dX w;have h8:=bFu f (hZ (nT w) (nK w) f.1 f.2.1 (aV w)) (aV w);have h9:=(h.find.find f.1 f.2.1 (aV w)).1;have h10:tot B7 (Hd f (hZ (nT w) (nK w) f.1 f.2.1 (aV w)) (aV w))<=tot B7 f+100000:=by
    generalize hZ (nT w) (nK w) f.1 f.2.1 (aV w)=l at *;have hq:tot B7 (Hd f l (aV w))=tot (.sl Dd) f.2.2.2.2.1+tot (.sl B4) (JE f l (aV w))+f.2.2.2.2.2.2.2.2.length:=Jm _ _ _ _ _ _ _ _ _;have hr:tot B7 f=tot (.sl Dd) f.2.2.2.2.1+tot (.sl B4) f.2.2.2.2.2.1+f.2.2.2.2.2.2.2.2.length:=Jm _ _ _ _ _ _ _ _ _;omega
   refine h.st (w':=gZ w _) ⟨rfl,rfl,id⟩ ⟨by omega,by show ((aG w).set _ _).length<=4;rw[Ml];exact h.keep.flows,h.keep.bytes.fly,λg hg m hm=> ?_⟩;rcases ZC (show g∈(aG w).set _ _ from hg) with hg | rfl
   .exact h.keep.bytes.msg g hg m hm
   .exact h.keep.bytes.msg f (Cm hf) m hm
  .exact same
 .unfold Mp;split
  .exact h.st (bJ0 w) ((RF h.keep).mono (by omega))
  .split
   .split
    .rename_i x hi hx;have hg:=bL8 h e.2.1.toNat;exact hg.st (VS _ _ _ _) ((bK8 hg.keep (h.keep.bytes.fly x (Cm hx))).mono (by omega))
    .exact same
   .split
    .split
     .have hg:=bL8 h e.2.1.toNat;exact NB.mono (B:=B) (hg.st ⟨rfl,rfl,id⟩ ⟨hg.keep.tot,hg.keep.flows,hg.keep.bytes.fly,hg.keep.bytes.msg⟩) (by omega)
     .exact same
    .split
     .split
      .rename_i x hi hx;have hm:=Cm hx;exact (bS2 h ⟨h.fly x hm,h.keep.bytes.fly x hm⟩).mono (by omega)
      .exact same
     .split
      .show NB _ (Na w e.2.1 (e.1==5));unfold Na;split
       .exact same
       .have h1:=bKt w (yV (nT w).2.length (bC w) e.2.1 (e.1==5));have h2:=bSn (nT w).2.length (bC w) e.2.1 (e.1==5);have h3:=h.find.links;exact h.st (w':=Ov w _) ⟨rfl,rfl,id⟩ ⟨by omega,h.keep.flows,h.keep.bytes.fly,h.keep.bytes.msg⟩
      .split
       .split
        .exact (bS2 h (x:=e.2.2.2) he.pk).mono (by omega)
        .exact same
       .split
        .split
         .rename_i f hi hf;have h1:=SD (t:=B7) (y:=LN f e.2.2.1) hf;have h5:=R9 w ((aG w).set e.2.1.toNat (LN f e.2.2.1));have h6:=dX w;have h2:tot B7 (LN f e.2.2.1)<=tot B7 f+5001:=by
           unfold LN;split
           .obtain⟨a,b,c,d,ms,ps,cu,wa,rv⟩:=f;show tot B7 (a,b,c,d,ms++[e.2.2.1],ps,cu,wa,rv)<=tot B7 (a,b,c,d,ms,ps,cu,wa,rv)+5001;rw[Jm,Jm,wA,cFt];have :=he.data.1;omega
           .omega
          refine h.st (w':=gZ w _) ⟨rfl,rfl,id⟩ ⟨by omega,by show ((aG w).set _ _).length<=4;rw[Ml];exact h.keep.flows,h.keep.bytes.fly,λg hg m hmm=> ?_⟩;rcases ZC (show g∈(aG w).set _ _ from hg) with hg | rfl
          .exact h.keep.bytes.msg g hg m hmm
          .unfold LN at hmm;have old:=h.keep.bytes.msg f (Cm hf) m;split at hmm
           .rcases C0.1 (show m∈f.2.2.2.2.1++[e.2.2.1] from hmm) with hmm | hmm
            .exact old hmm
            .rw[Cy.1 hmm];exact he.data.2
           .exact old hmm
         .exact same
        .exact same
theorem bW5{B:Nat}{w:den B1}{e:den yP}(h:NB B w)(he:ND e):NB (B+2000000) (Gd w e).2:=by
 unfold Gd;split
 .split
  .exact bUb h he
  .exact h.mono (by omega)
 .exact h.mono (by omega)
theorem bWc{w:den B1}(hv:DZ w=X):MV (nT w).2.length (bC w):=by
 unfold DZ at hv;simp only[Ck,zR,Eu,decide_eq_false_iff_not]at hv;exact cE7 hv.2.2.2.1
theorem cHm{B:Nat}{w:den B1}{e:den yP}(h:NB B w)(hB:B<=34000000000)(he:ND e):rV w e=U (I3 (Gd w e).2 (Gd w e).1):=by
 have ht:=h.keep.tot;have e0:=XE (w:=w) (by omega);have e1:=Qp (w:=w) ((bH (show tot B1 w<=68719476736 by omega)).mono (by decide));unfold Gd;cases hv:DZ w with
 | false=>
  rw[hv]at e0;obtain⟨⟨as,ls⟩,⟨dn,co⟩,⟨cap,res,us⟩,now,dead,fly,flows,box,drop⟩:=w;unfold rV aK aL aS bA bZ dS A0 A4 A3 A8 B0 B8;simp only[e0,e1,aA,Cn,zZ,E6,nT,nK,nG,aV,bC,bS,aG,cR,qP,Cg,zU];rfl
 | true=>
  rw[hv]at e0;have hD:=bWc hv;have e2:=cLw (w:=w) (e:=e) (F:=4) (B:=B) (by decide) h.keep (by omega) ⟨by have :=he.data.1;omega,λx hx=>trivial⟩ (B5 he.pk.1 (by decide)) hD h.find;have ht':=(bUb h he).keep.tot;have e3:=Qp (w:=(Fv w e).2) ((bH (show tot B1 (Fv w e).2<=68719476736 by omega)).mono (by decide));generalize Fv w e=r at *;obtain⟨b,w'⟩:=r;obtain⟨⟨as,ls⟩,⟨dn,co⟩,⟨cap,res,us⟩,now,dead,fly,flows,box,drop⟩:=w;obtain⟨⟨as',ls'⟩,⟨dn',co'⟩,⟨cap',res',us'⟩,now',dead',fly',flows',box',drop'⟩:=w';obtain⟨kd,en,data,to,ing,k1,k2,k3,k4,k5,k6,k7,k8,k9,k10⟩:=e;unfold rV aK aL aS bA bZ dS A0 A4 A3 A8 B0 B8;simp only[E6,aN,nT,nK,nG,aV,bC,bS,aG,cR,qP]at e1 e2 e3;simp only[e0,e1,aA,BZ,zY,e2,zV];cases b with
  | false=>simp only[Cn,zZ,e1,aA,Cg,zU];rfl
  | true=>simp only[BZ,zY,e3,aA,zV];rfl
theorem cHs{B:Nat}{w:den B1}{e:den yP}(h:NB B w)(hB:B<=34000000000)(he:ND e):rL w e=U (cCo (Gd w e).2 (Gd w e).1):=by
 have ht:=h.keep.tot;have e0:=XA (w:=w) (by omega);have e1:=WY (w:=w) ((bH (show tot B1 w<=68719476736 by omega)).mono (by decide));unfold Gd;cases hv:DZ w with
 | false=>
  rw[hv]at e0;obtain⟨⟨as,ls⟩,⟨dn,co⟩,⟨cap,res,us⟩,now,dead,fly,flows,box,drop⟩:=w;unfold rL aK A6 aL aS bA bZ dS A0 A4 A3 A8 B0 B8;simp only[e0,e1,aA,Cn,zZ,E6,nT,nK,nG,aV,bC,bS,aG,cR,qP,Cg,zU];rfl
 | true=>
  rw[hv]at e0;have e2:=cL0 (w:=w) (e:=e) (F:=4) (B:=B) (by decide) h.keep (by omega) ⟨by have :=he.data.1;omega,λx hx=>trivial⟩ (B5 he.pk.1 (by decide)) h.find;generalize Fv w e=r at *;obtain⟨b,w'⟩:=r;obtain⟨⟨as,ls⟩,⟨dn,co⟩,⟨cap,res,us⟩,now,dead,fly,flows,box,drop⟩:=w;obtain⟨⟨as',ls'⟩,⟨dn',co'⟩,⟨cap',res',us'⟩,now',dead',fly',flows',box',drop'⟩:=w';obtain⟨kd,en,data,to,ing,k1,k2,k3,k4,k5,k6,k7,k8,k9,k10⟩:=e;unfold rL aK A6 aL aS bA bZ dS A0 A4 A3 A8 B0 B8;simp only[E6,aN,nT,nK,nG,aV,bC,bS,aG,cR,qP]at e1 e2;simp only[e0,e1,aA,BZ,zY,e2,zV];cases b with
  | false=>simp only[Cn,zZ,e1,aA,Cg,zU];rfl
  | true=>simp only[BZ,zY,aA,zV];rfl
theorem cHw(a b:Int):My a b=U (a,b,0,[]):=rfl
theorem cKl{w:den B1}{f:den B7}{l:Cf}(hw:tot B1 w<=68719476736)(hf:tot B7 f<=68719476736)(hl:tot (.sl B4) l<=68719476736)(el:iC (nT w) (nK w) f.1 f.2.1 (aV w)=U l):
  wQ w f=U (I3 (if EC w f then w else Mc w f l) (!EC w f)):=by
 have sw:Cc 549755813888 B1 w:=(bH hw).mono (by decide);have sf:Cc 549755813888 B7 f:=(bH hf).mono (by decide);have n1:w.1.1.length<=549755813888:=sw.1.1.1;have n2:w.2.2.2.2.2.2.2.1.length<=68719476736:=(bH hw).2.2.2.2.2.2.2.1.1;have n3:w.2.2.2.2.2.2.1.length<=68719476736:=(bH hw).2.2.2.2.2.2.1.1;have el:iC w.1 w.2.1 f.1 f.2.1 w.2.2.2.1=U l:=el;have a1:aF 120 w.2.2.2.2.2.2.1.length 1=X:=aC (by decide) (by omega);have a2:aF 48 w.2.2.2.2.2.2.2.1.length 1=X:=aC (by decide) (by omega);unfold wQ EC aK A1 B6 Ct aL aS bA bZ A0 A4 A3 A8 B0 B8;simp only[aD,Qp sw,Ws sf,Fa n1,bM8 (show w.2.2.2.2.2.2.2.1.length<=549755813888 by omega),el,bTu hf hl,cHw,aA,E6,a1,a2,zZ];cases tZ f
 .rfl
 cases cK w.1 f.1
 .rfl
 cases cK w.1 f.2.1
 .rfl
 cases f.2.2.2.1 != 0 with
 | true=>rfl
 | false=>cases D ((w.2.2.2.2.2.2.1.length:Int)>=4) with
  | true=>cases D (oD w.2.2.2.2.2.2.2.1 f.2.1 f.1>=0)<;>rfl
  | false=>cases D (oD w.2.2.2.2.2.2.2.1 f.2.1 f.1>=0)<;>rfl
noncomputable def Np(w:den B1)(f:den B7):den B1:=if EC w f then w else Mc w f (hZ (nT w) (nK w) f.1 f.2.1 (aV w))
theorem cI1{B:Nat}{w:den B1}{f:den B7}(h:NB B w)(hB:B<=34000000000)(hf:tot B7 f<=1000):wQ w f=U (I3 (Np w f) (!EC w f)):=
 cKl (B5 h.keep.tot (by omega)) (by omega) (B5 (h.find.find f.1 f.2.1 (aV w)).1 (by decide)) (Xq h.find.as h.find.links h.find.db _ _ _)
theorem cJ0{B:Nat}{w:den B1}{f:den B7}(h:NB B w)(hB:B<=34000000000)(hf:tot B7 f<=1000):wY w f=U (I3 (Np w f) (!EC w f)):=
 bYw (B5 h.keep.tot (by omega)) (by omega) (B5 (h.find.find f.1 f.2.1 (aV w)).1 (by decide)) (WF h.find.as h.find.links h.find.db _ _ _)
theorem bK1{B:Nat}{w:den B1}{f:den B7}(h:NB B w)(hf:tot B7 f<=1000)(hm:f.2.2.2.2.1=[]):NB (B+2000000) (Np w f):=by
 unfold Np;split
 .exact h.mono (by omega)
 .rename_i hb;have h9:=(h.find.find f.1 f.2.1 (aV w)).1;have h8:=bFu f (hZ (nT w) (nK w) f.1 f.2.1 (aV w)) (aV w);have ht:=h.keep.tot;generalize hZ (nT w) (nK w) f.1 f.2.1 (aV w)=l at *;have hq:tot B7 (Hd f l (aV w))=tot (.sl Dd) f.2.2.2.2.1+tot (.sl B4) (JE f l (aV w))+f.2.2.2.2.2.2.2.2.length:=Jm _ _ _ _ _ _ _ _ _;have hr:tot B7 f=tot (.sl Dd) f.2.2.2.2.1+tot (.sl B4) f.2.2.2.2.2.1+f.2.2.2.2.2.2.2.2.length:=Jm _ _ _ _ _ _ _ _ _;have e1:tot (.sl B7) (aG w++[Hd f l (aV w)])=tot (.sl B7) (aG w)+(1+tot B7 (Hd f l (aV w))):=by rw[wA,Lk]
  have e2:tot (.sl Cq) (cR w++[((f.2.1,f.1,0,[]):den Cq)])=tot (.sl Cq) (cR w)+1:=by rw[wA,Lk];rfl
  have e3:=dX (Mc w f l);have e4:=dX w;have e5:aG (Mc w f l)=aG w++[Hd f l (aV w)]:=rfl;have e6:cR (Mc w f l)=cR w++[(f.2.1,f.1,0,[])]:=rfl;rw[e5,e6,e1,e2]at e3;have hlen:(aG w).length<4:=by
   unfold EC at hb;simp only[Fs,not_or,zR]at hb;omega
  refine h.st (w':=Mc w f l) ⟨rfl,rfl,id⟩ ⟨?_,by show (aG w++_).length<=4;simp;omega,h.keep.bytes.fly,λg hg m hmm=> ?_⟩
  .have q:tot B1 (Mc w f l)=tot B1 w+(1+tot B7 (Hd f l (aV w)))+1:=by
    rw[e3,e4];show (tot (.sl CN) (nT w).1+tot (.sl C8) (nT w).2)+((tot (.sl B9) (nK w).1+tot (.sl B9) (nK w).2)+((0+(tot (.sl C9) (nG w).2.1+tot (.sl CW) (nG w).2.2))+(0+(tot (.sl ti) (bC w)+(tot (.sl C5) (bS w)+_)))))=_;omega
   omega
  .rcases C0.1 (show g∈aG w++[_] from hg) with hg | hg
   .exact h.keep.bytes.msg g hg m hmm
   .rw[Cy.1 hg]at hmm;have hmm:m∈f.2.2.2.2.1:=hmm;rw[hm]at hmm;cases hmm
structure eU (t:den B2):Prop where
 as:t.1.length<=1000000
 links:t.2.length<=1000000
theorem eU.a{t:den B2}(h:eU t):t.1.length<=549755813888:=B5 h.as (by decide)
theorem eU.l{t:den B2}(h:eU t):t.2.length<=549755813888:=B5 h.links (by decide)
theorem eU.sm{t:den B2}(h:eU t):Cc 549755813888 B2 t:=⟨⟨h.a,λx _=>Cc.flat rfl⟩,h.l,λx _=>Cc.flat rfl⟩
theorem cDc{σ S S' R R':Type}(n:Nat)(eI:Nat->σ->S)(eS:Nat->σ->S')(oI:σ->R)(oS:σ->R')(I:Nat->σ->Prop){fI:S->Option (S⊕R)}{fS:S'->Option (S'⊕R')}
  (h:∀(k:Nat) (a:σ),k<n->I k a-> ∃b,fI (eI k a)=U (.inl (eI (k+1) b))/\fS (eS k a)=U (.inl (eS (k+1) b))/\I (k+1) b)
  (he:∀a,I n a->fI (eI n a)=U (.inr (oI a))/\fS (eS n a)=U (.inr (oS a))) (a0:σ) (h0:I 0 a0):∃a,aB fI (eI 0 a0)=U (oI a)/\aB fS (eS 0 a0)=U (oS a)/\I n a:=by
 have key:∀(m k:Nat) (a:σ),k+m=n->I k a-> ∃b,aB fI (eI k a)=U (oI b)/\aB fS (eS k a)=U (oS b)/\I n b:=by
  intro m
  induction m with
  | zero=>
   intro k a hk hI;have :k=n:=by omega
   subst this;exact⟨a,aH (he a hI).1,aH (he a hI).2,hI⟩
  | succ m ih=>
   intro k a hk hI;obtain⟨b,h1,h2,h3⟩:=h k a (by omega) hI;rw[aO h1,aO h2];exact ih (k+1) b (by omega) h3
 exact key n 0 a0 (Dc n) h0
def TK(s:Int):Bool:=B3 s 0 65535
def Gs(p:den cJ):Bool:=B3 p.1 1 8&&(TK p.2.1&&(TK p.2.2.1&&B3 p.2.2.2 1 1000))
theorem bMg(p:den cJ):pF p=U (Gs p):=by
 unfold pF nX Gs TK;simp only[gX,aA];cases B3 p.1 1 8<;>cases B3 p.2.1 0 65535<;>cases B3 p.2.2.1 0 65535<;>rfl
theorem bL1(p:den cJ):mR p=U (Gs p):=by
 unfold mR nZ Gs TK;simp only[fC,aA];cases B3 p.1 1 8<;>cases B3 p.2.1 0 65535<;>cases B3 p.2.2.1 0 65535<;>rfl
def G7:den cJ:=(8,0,0,100)
def cE(l:dF)(r:Int):den cJ:=if B3 r 0 ((l.length:Int) - 1)&&Gs ((l[r.toNat]?).getD G7) then (l[r.toNat]?).getD G7 else G7
theorem bSz{α:Type}{l:List α}{r:Int}(d:α)(h:B3 r 0 ((l.length:Int) - 1)=X):idx l r=U ((l[r.toNat]?).getD d):=by
 obtain⟨g0,g1⟩:=bQ.1 h;rw[OF g0 (by omega),Cs (by omega)];rfl
theorem WW{l:dF}{r:Int}(h:l.length<=1000000):kX l r=U (cE l r):=by
 unfold kX cE B6;rw[show wr ((l.length:Int) - 1)=(l.length:Int) - 1 from dO (by omega),gX];cases c:B3 r 0 ((l.length:Int) - 1) with
 | false=>rfl
 | true=>
  rw[bSz G7 c];simp only[aA,BZ,zY,aD,bMg];cases Gs ((l[r.toNat]?).getD G7)<;>rfl
theorem WC{l:dF}{r:Int}(h:l.length<=1000000):lA l r=U (cE l r):=by
 unfold lA cE B6;rw[show wr ((l.length:Int) - 1)=(l.length:Int) - 1 from dO (by omega),fC];cases c:B3 r 0 ((l.length:Int) - 1) with
 | false=>rfl
 | true=>
  rw[bSz G7 c];simp only[aA,BZ,zY,aD,bL1];cases Gs ((l[r.toNat]?).getD G7)<;>rfl
theorem XD{s:den B9}(hl:s.2.2.length<=1000000):kC s=U (s.2.2.map λh=>(h.1:Int)):=by
 unfold kC M7;rw[(jJ (λk (a:List Int)=>((k:Int),a)) ((0:Int),[]) [] s.2.2 (λ_ x a=>a++[x.1]) Cr (λ_=>1) 1000000 id rfl (by omega) (by rw[cT];simpa using hl) (λk x a hi hx hd hw hk hb=>by
  simp only[hd,hi,hw,zZ,aA,aC (b:=8) (n:=a.length) (m:=1) (by decide) (by omega)];simp) (λa=>by simp)).1,dR (λx:den cH=>(x.1:Int))]
 simp
def vF(p:den cJ)(l:eV)(o:Int):Bool:=D ((l.length:Int)<p.1)&&(!zB p.2.2.1 o&&(l.map λh=>(h.1:Int)).all λr=> !zB p.2.1 r)
theorem W8{p:den cJ}{s:den B9}{o:Int}(hl:s.2.2.length<=1000000):uV p s o=U (vF p s.2.2 o):=by
 unfold uV vF BX A6;simp only[aD,XD hl,aA,bL7];rw[aM (l:=s.2.2.map λh=>(h.1:Int)) (λ_ r=>if !zB p.2.1 r then W else U Y) (by simp;omega) (λk x hi hd hw hx hk=>by
  have hk':(s.2.2.map λh=>(h.1:Int))[k]? =U x:=by rw[<- aQ];exact hi
  simp only[hd,bF,zZ,Cj,hk',aA,hw];cases zB p.2.1 x<;>rfl) (by simp),iO (λr=> !zB p.2.1 r)]
 by_cases c:(s.2.2.length:Int)<p.1
 .rw[zW (show ¬ ((s.2.2.length:Int)>=p.1) by omega),zX c];cases zB p.2.2.1 o<;>cases (s.2.2.map λh=>(h.1:Int)).all (λr=> !zB p.2.1 r)<;>rfl
 .rw[zX (show (s.2.2.length:Int)>=p.1 by omega),zW c];rfl
theorem Wj{p:den cJ}{s:den B9}{o:Int}(hl:s.2.2.length<=1000000):uC p s o=U (vF p s.2.2 o):=by
 unfold uC vF BX A6;simp only[aD,OL hl,aA,bLf];rw[aM (l:=s.2.2.map λh=>(h.1:Int)) (λ_ r=>if !zB p.2.1 r then W else U Y) (by simp;omega) (λk x hi hd hw hx hk=>by
  have hk':(s.2.2.map λh=>(h.1:Int))[k]? =U x:=by rw[<- aQ];exact hi
  simp only[hd,bF,zZ,Cj,hk',aA,hw];cases zB p.2.1 x<;>rfl) (by simp),iO (λr=> !zB p.2.1 r)]
 cases D ((s.2.2.length:Int)<p.1)<;>cases zB p.2.2.1 o<;>cases (s.2.2.map λh=>(h.1:Int)).all (λr=> !zB p.2.1 r)<;>rfl
def Uq(p:den cJ)(ts:Int):Int:=if (1000000:Int)<wr (ts+p.2.2.2) then 1000000 else wr (ts+p.2.2.2)
theorem cG7(p:den cJ)(ts:Int):Kt p ts=U (Uq p ts):=by
 unfold Kt;rw[Yv];rfl
theorem bTk(p:den cJ)(ts:Int):tH p ts=U (Uq p ts):=by
 unfold tH;rw[Y8];rfl
def G3(t:den B2)(l:eV)(k:Nat)(x:den cH):Bool:=
 !((x.2.2.1==(0:Int))&&D ((k:Int)<(l.length:Int) - 1))&&(D (k=0)||((remote t ((l[k - 1]?).getD h0).1 ((l[k - 1]?).getD h0).2.2.1).1==x.1&&(remote t ((l[k - 1]?).getD h0).1 ((l[k - 1]?).getD h0).2.2.1).2==x.2.1))
def EY(t:den B2)(l:eV):Bool:=B3 (l.length:Int) 1 8&&((((l[0]?).getD h0).2.1==(0:Int))&&(FH t l&&(l.zipIdx 0).all λz=>G3 t l z.2 z.1))
theorem YI{l:eV}(h:B3 (l.length:Int) 1 8=X):idx l (0:Int)=U ((l[0]?).getD h0):=by
 have :=bQ.1 h;rw[OF (by decide) (by omega)];show U (l[(0:Int).toNat]'_)=_;rw[Cs (by omega)];rfl
theorem cBj{t:den B2}{s:den B9}(ht:eU t)(hl:s.2.2.length<=1000000):rM t s=U (EY t s.2.2):=by
 unfold rM EY A1;rw[aM (l:=s.2.2) (λk x=>if G3 t s.2.2 k x then W else U Y) (by omega) (λk x hi hd hw hm hk=>by
  have w1:wr ((s.2.2.length:Int) - 1)=(s.2.2.length:Int) - 1:=dO (by omega);simp only[hd,zZ,hi,aA,hw,w1];unfold G3;cases k with
  | zero=>
   rw[show D (((0:Nat):Int)>0)=Y from by decide];cases x.2.2.1==(0:Int)<;>cases D (((0:Nat):Int)<(s.2.2.length:Int) - 1)<;>rfl
  | succ j=>
   have hw1:wr (((j+1:Nat):Int) - 1)=(j:Int):=(wri (by omega) (by omega)).trans (by omega);obtain⟨y,hy⟩:∃y,s.2.2[j]? =U y:=⟨_,Cs (by omega)⟩
   rw[show D (((j+1:Nat):Int)>0)=X from by simp];simp only[hw1,aQ,hy,aA,aD,KW ht.l,zZ,kM,PF,CJ];cases x.2.2.1==(0:Int)<;>cases D (((j+1:Nat):Int)<(s.2.2.length:Int) - 1)<;>cases (remote t y.1 y.2.2.1).1==x.1<;>cases (remote t y.1 y.2.2.1).2==x.2.1<;>rfl) (by simp),EI (G3 t s.2.2)]
 simp only[aD,bLm ht.a (show s.2.2.length<=549755813888 by omega),aA];cases c:B3 (s.2.2.length:Int) 1 8 with
 | false=>rfl
 | true=>
  rw[YI c];simp only[aA,Cw,kM];cases FH t s.2.2<;>cases ((s.2.2[0]?).getD h0).2.1==(0:Int)<;>cases (s.2.2.zipIdx 0).all (λz=>G3 t s.2.2 z.2 z.1)<;>rfl
theorem cB7{t:den B2}{s:den B9}(ht:eU t)(hl:s.2.2.length<=1000000):rG t s=U (EY t s.2.2):=by
 unfold rG EY A1 A6 Cp;simp only[aD,OL hl,aA];have hR:(s.2.2.map λh=>(h.1:Int)).length=s.2.2.length:=by simp
 rw[Hi (λk (_:Unit)=>((s.2.2.map λh=>(h.1:Int)),(k:Int))) ((s.2.2.map λh=>(h.1:Int)),(0:Int)) () s.2.2 (λk x _=>if (Em t s.2.2 k x&&G3 t s.2.2 k x) then .inl () else .inr (.inr Y)) (λ_ _=>True) (λ_=> .inl ()) rfl (by omega) trivial (λk x a hi hx hd hw hk _=>by
  refine⟨?_,λ_ _=>trivial⟩;have w1:wr ((s.2.2.length:Int) - 1)=(s.2.2.length:Int) - 1:=dO (by omega);have hs:bG (0:Int) (k:Int) ((s.2.2.map λh=>(h.1:Int)).length:Int)=X:=by rw[hR];exact KS hk
  have hh:gU ((s.2.2.map λh=>(h.1:Int)).take k) x.1=U (!((s.2.2.take k).all λy=> !(y.1==x.1))):=by
   rw[Lq (by simp;omega)];exact congrArg U (bIq _ _ _)
  simp only[hd,zZ,hi,aA,Sl,F7 ht.a,hs,fL,hh,hw,w1];cases k with
  | zero=>
   rw[show D (((0:Nat):Int)>0)=Y from by decide];unfold Em G3;cases oA x<;>cases cK t x.1<;>cases (s.2.2.take 0).all (λy=> !(y.1==x.1))<;>cases x.2.2.1==(0:Int)<;>cases D (((0:Nat):Int)<(s.2.2.length:Int) - 1)<;>rfl
  | succ j=>
   have hw1:wr (((j+1:Nat):Int) - 1)=(j:Int):=(wri (by omega) (by omega)).trans (by omega);obtain⟨y,hy⟩:∃y,s.2.2[j]? =U y:=⟨_,Cs (by omega)⟩
   rw[show D (((j+1:Nat):Int)>0)=X from by simp];simp only[hw1,aQ,hy,aA,Ji ht.l,zZ,kM];unfold Em G3;rw[PF,hy,CJ];cases oA x<;>cases cK t x.1<;>cases (s.2.2.take (j+1)).all (λy=> !(y.1==x.1))<;>cases x.2.2.1==(0:Int)<;>cases D (((j+1:Nat):Int)<(s.2.2.length:Int) - 1)<;>cases (remote t y.1 y.2.2.1).1==x.1<;>cases (remote t y.1 y.2.2.1).2==x.2.1<;>rfl) (λa _=>by simp)]
 rw[MC (λk x=>Em t s.2.2 k x&&G3 t s.2.2 k x)];have hsplit:(s.2.2.zipIdx 0).all (λz=>Em t s.2.2 z.2 z.1&&G3 t s.2.2 z.2 z.1)=(FH t s.2.2&&(s.2.2.zipIdx 0).all λz=>G3 t s.2.2 z.2 z.1):=by
  unfold FH;rw[CG];simp only[List.all_eq_true,Ck];exact⟨λh=>⟨λz hz=>(h z hz).1,λz hz=>(h z hz).2⟩,λh z hz=>⟨h.1 z hz,h.2 z hz⟩⟩
 rw[hsplit,fC];cases c:B3 (s.2.2.length:Int) 1 8 with
 | false=>rfl
 | true=>
  rw[YI c];simp only[aA,kM];cases FH t s.2.2<;>cases ((s.2.2[0]?).getD h0).2.1==(0:Int)<;>cases (s.2.2.zipIdx 0).all (λz=>G3 t s.2.2 z.2 z.1)<;>rfl
theorem SI{t:den B2}{l:eV}(h:EY t l=X):1<=l.length/\l.length<=8:=by
 unfold EY at h;rw[Ck]at h;have :=bQ.1 h.1;omega
theorem bVe{t:den B2}{l:eV}(h:EY t l=X):cK t ((l[0]?).getD h0).1=X:=by
 have hl:=SI h;unfold EY FH at h;simp only[Ck]at h;have h1:=(MI (Em t l) l).1 h.2.2.1 0 l[0] (Cs (by omega));unfold Em at h1;simp only[Ck]at h1;rw[Cs (show 0<l.length by omega)];exact h1.2.1
def Ny(t:den B2)(s:den B9):Int:=match dH (λk (x:den cH)=>if vW t s.1 (vX s (k:Int)) x then W else U (k:Int)) 0 s.2.2 with
 | some r=>r
 | none=> -1
theorem cIg{t:den B2}{s:den B9}(ht:eU t)(hl:s.2.2.length<=1000000):nQ t s=U (Ny t s):=by
 unfold nQ Ny A1 A6 Cp;rw[aM (l:=s.2.2) (λk (x:den cH)=>if vW t s.1 (vX s (k:Int)) x then W else U (k:Int)) (by omega) (λk x hi hd hw hm hk=>by
  simp only[hd,zZ,hi,aA,aD,SZ hl,Tt ht.a,hw];cases vW t s.1 (vX s (k:Int)) x<;>rfl) (by simp)]
 cases dH (λk (x:den cH)=>if vW t s.1 (vX s (k:Int)) x then W else U (k:Int)) 0 s.2.2<;>rfl
theorem cIh{t:den B2}{s:den B9}(ht:eU t)(hl:s.2.2.length<=1000000):nS t s=U (Ny t s):=by
 unfold nS Ny A1 A6 Cp;rw[aM (l:=s.2.2) (λk (x:den cH)=>if vW t s.1 (vX s (k:Int)) x then W else U (k:Int)) (by omega) (λk x hi hd hw hm hk=>by
  simp only[hd,zZ,hi,aA,aD,SS hl,XW ht.a,hw];cases vW t s.1 (vX s (k:Int)) x<;>rfl) (by simp)]
 cases dH (λk (x:den cH)=>if vW t s.1 (vX s (k:Int)) x then W else U (k:Int)) 0 s.2.2<;>rfl
def L9(t:den B2)(r:Int):Bool:=cK t r&&eD t r
theorem bLd{t:den B2}(ht:eU t)(r:Int):sK t r=U (L9 t r):=by
 unfold L9;cases c:cK t r with
 | true=>rw[X5 ht.as c];rfl
 | false=>
  unfold sK A1;rw[show fT (t.1,t.2) r=U (cK t r) from Fa ht.a,c];rfl
theorem Oi{t:den B2}{r:Int}(h:cK t r=X):∃x:den CN,idx t.1 r=U x/\x.2.1=eD t r/\x.2.2=Gh t r:=by
 obtain⟨x,hx,ix⟩:=Gq h;exact⟨x,ix,by unfold eD;rw[hx];rfl,by unfold Gh;rw[hx];rfl⟩
def kB(t:den B2)(x:den cH)(a:Int):Int⊕(Int⊕Int):=cond (x.2.2.1==(0:Int)) (.inl a) (cond (!(a==(0:Int))&& !(tF t x.1 x.2.2.1==a)) (.inr (.inr 0)) (.inl (tF t x.1 x.2.2.1)))
def LF(t:den B2)(l:eV):Int⊕Int:=DV (λ_ x a=>kB t x a) A7 0 l 0
def qH(t:den B2)(l:eV):Int:=cond (EY t l&&eD t ((l[0]?).getD h0).1) ((LF t l).elim (λa=>cond (a==1) 1 (cond (a==2) 2 0)) id) 0
theorem bXw(t:den B2)(l:eV):qH t l=0\/qH t l=1\/qH t l=2:=by
 have key:∀(l:eV) (k:Nat) (a:Int),(∃b,DV (λ_ x a=>kB t x a) A7 k l a=A7 b)\/DV (λ_ x a=>kB t x a) A7 k l a=(A2 0:Int⊕Int):=by
  intro l
  induction l with
  | nil=>intro k a;exact .inl ⟨a,rfl⟩
  | cons x l ih=>
   intro k a;unfold DV;simp only[kB];cases x.2.2.1==(0:Int) with
   | true=>exact ih _ _
   | false=>cases !(a==(0:Int))&& !(tF t x.1 x.2.2.1==a) with
    | true=>exact .inr rfl
    | false=>exact ih _ _
 unfold qH LF;cases EY t l&&eD t ((l[0]?).getD h0).1 with
 | false=>exact .inl rfl
 | true=>
  rcases key l 0 0 with ⟨b,e⟩ | e
  .rw[e];show cond (b==1) (1:Int) (cond (b==2) 2 0)=0\/cond (b==1) (1:Int) (cond (b==2) 2 0)=1\/cond (b==1) (1:Int) (cond (b==2) 2 0)=2;cases b==1<;>cases b==2<;>simp
  .rw[e];exact .inl rfl
theorem Xb{t:den B2}{s:den B9}(ht:eU t)(hl:s.2.2.length<=1000000):jW t s=U (qH t s.2.2):=by
 unfold jW qH A1 A6;rw[Hi (λk (a:Int)=>(a,(k:Int))) ((0:Int),(0:Int)) 0 s.2.2 (λ_ x a=>kB t x a) (λ_ _=>True) A7 rfl (by omega) trivial (λk x a hi hx hd hw hk _=>by
  refine⟨?_,λ_ _=>trivial⟩;simp only[hd,zZ,hi,aA,aD,SO ht.l,hw,kM];unfold kB;cases x.2.2.1==(0:Int)
  .cases c:a==(0:Int)
   .cases c2:tF t x.1 x.2.2.1==a
    .rfl
    .rw[eq_of_beq c2];rfl
   .rfl
  .rfl) (λa _=>by simp)]
 simp only[aD,cBj ht hl,aA];cases c:EY t s.2.2 with
 | false=>rfl
 | true=>
  have hq:=bVe c;have hc:B3 (s.2.2.length:Int) 1 8=X:=bQ.2 (by have :=SI c;omega);rw[YI hc];simp only[aA,bLd ht];unfold L9;rw[hq];simp only[Cw,BZ,zY,aA];cases eD t ((s.2.2[0]?).getD h0).1 with
  | false=>rfl
  | true=>
   show Option.bind (U (LF t s.2.2)) _=U (Cd _ id (LF t s.2.2));cases LF t s.2.2 with
   | inl a=>
    show cond (a==1) (U (1:Int)) (cond (a==2) (U 2) (U 0))=U (cond (a==1) (1:Int) (cond (a==2) 2 0));cases a==1<;>cases a==2<;>rfl
   | inr r=>rfl
theorem SB{t:den B2}{s:den B9}(ht:eU t)(hl:s.2.2.length<=1000000):fN t s=U (qH t s.2.2):=by
 unfold fN qH A1 A6;rw[Hi (λk (a:Int)=>(a,(k:Int))) ((0:Int),(0:Int)) 0 s.2.2 (λ_ x a=>kB t x a) (λ_ _=>True) A7 rfl (by omega) trivial (λk x a hi hx hd hw hk _=>by
  refine⟨?_,λ_ _=>trivial⟩;simp only[hd,zZ,hi,aA,aD,SC ht.l,hw,kM];unfold kB;cases x.2.2.1==(0:Int)<;>cases a==(0:Int)<;>cases tF t x.1 x.2.2.1==a<;>rfl) (λa _=>by simp)]
 simp only[aD,cB7 ht hl,aA];cases c:EY t s.2.2 with
 | false=>rfl
 | true=>
  have hq:=bVe c;have hn:=SI c;obtain⟨x,ix,cx,_⟩:=Oi hq;have hf:dE s=((s.2.2[0]?).getD h0).1:=by
   obtain⟨a,b,l⟩:=s;unfold dE;cases l with
   | nil=>exact absurd hn.1 (show ¬ 1<=0 by decide)
   | cons y l=>rfl
  simp only[XF,aA,hf,ix,cx,BZ,zY];cases eD t ((s.2.2[0]?).getD h0).1 with
  | false=>rfl
  | true=>
   show Option.bind (U (LF t s.2.2)) _=U (Cd _ id (LF t s.2.2));cases LF t s.2.2 with
   | inl a=>
    show cond (a==1) (U (1:Int)) (cond (a==2) (U 2) (U 0))=U (cond (a==1) (1:Int) (cond (a==2) 2 0));cases a==1<;>cases a==2<;>rfl
   | inr r=>rfl
def yN(t:den B2)(s:den B9):Bool:=EY t s.2.2&&(D (Ny t s<0)&&(!(qH t s.2.2==0)&&(B3 s.1 0 1000000&&kR s.2.1)))
theorem bHy{t:den B2}{s:den B9}(ht:eU t)(hl:s.2.2.length<=1000000):nB t s=U (yN t s):=by
 unfold nB yN A1 A6;simp only[aD,cBj ht hl,cIg ht hl,Xb ht hl,gX,Lh,aA,kM];cases EY t s.2.2<;>cases D (Ny t s<0)<;>cases qH t s.2.2==0<;>cases B3 s.1 0 1000000<;>rfl
theorem bJ2{t:den B2}{s:den B9}(ht:eU t)(hl:s.2.2.length<=1000000):mT t s=U (yN t s):=by
 unfold mT yN A1 A6;simp only[aD,cB7 ht hl,cIh ht hl,SB ht hl,fC,Ln,aA,kM];cases EY t s.2.2<;>cases D (Ny t s<0)<;>cases qH t s.2.2==0<;>cases B3 s.1 0 1000000<;>rfl
def Hp(l:eV):den cH:=(l[l.length - 1]?).getD h0
theorem Wz{l:eV}(h:0<l.length)(hl:l.length<=1000000):idx l (wr ((l.length:Int) - 1))=U (Hp l):=by
 rw[show wr ((l.length:Int) - 1)=((l.length - 1:Nat):Int) from (dO (by omega)).trans (by omega),aQ];unfold Hp;rw[Cs (by omega)];rfl
def He(l:eV):Bool:=D ((l.length:Int)>0)&&((Hp l).2.2.1==(0:Int))
theorem WM{s:den B9}(hl:s.2.2.length<=1000000):mV s=U (He s.2.2):=by
 unfold mV He
 by_cases h:0<s.2.2.length
 .rw[Wz h hl,zX (show (s.2.2.length:Int)>0 by omega)];rfl
 .rw[zW (show ¬ (s.2.2.length:Int)>0 by omega)];rfl
theorem bL9{s:den B9}(hl:s.2.2.length<=1000000):pX s=U (He s.2.2):=WM hl
def DE(t:den B2)(s:den B9)(r inn:Int):Bool:=cK t r&&(yN t s&&(!He s.2.2&&(!oG (s.2.2.map λh=>(h.1:Int)) r&&((remote t (Hp s.2.2).1 (Hp s.2.2).2.2.1).1==r&&(remote t (Hp s.2.2).1 (Hp s.2.2).2.2.1).2==inn))))
theorem RL{t:den B2}{s:den B9}(h:yN t s=X):1<=s.2.2.length/\s.2.2.length<=8:=by
 unfold yN at h;rw[Ck]at h;exact SI h.1
theorem X7{t:den B2}{s:den B9}(ht:eU t)(hl:s.2.2.length<=1000000)(r inn:Int):mZ t s r inn=U (DE t s r inn):=by
 have hh:jE (s.2.2.map λh=>(h.1:Int)) r=U (oG (s.2.2.map λh=>(h.1:Int)) r):=MN (by simp;omega);unfold mZ DE A1 A6;simp only[aD,Fa ht.a,bHy ht hl,bL9 hl,XD hl,aA,hh];cases cK t r with
 | false=>rfl
 | true=>cases c:yN t s with
  | false=>rfl
  | true=>
   rw[Wz (RL c).1 hl];simp only[aA,KW ht.l];cases He s.2.2<;>cases oG (s.2.2.map λh=>(h.1:Int)) r<;>cases (remote t (Hp s.2.2).1 (Hp s.2.2).2.2.1).1==r<;>rfl
theorem XS{t:den B2}{s:den B9}(ht:eU t)(hl:s.2.2.length<=1000000)(r inn:Int):nE t s r inn=U (DE t s r inn):=by
 have hh:gU (s.2.2.map λh=>(h.1:Int)) r=U (oG (s.2.2.map λh=>(h.1:Int)) r):=Lq (by simp;omega);unfold nE DE A1 A6;simp only[aD,F7 ht.a,bJ2 ht hl,WM hl,OL hl,aA,hh];cases cK t r with
 | false=>rfl
 | true=>cases c:yN t s with
  | false=>rfl
  | true=>
   rw[Wz (RL c).1 hl];simp only[aA,Ji ht.l];cases He s.2.2<;>cases oG (s.2.2.map λh=>(h.1:Int)) r<;>cases (remote t (Hp s.2.2).1 (Hp s.2.2).2.2.1).1==r<;>rfl
theorem cIa(key ts b:Int)(h:den cH):nM key ts b h=U (h.1,h.2.1,h.2.2.1,h.2.2.2.1,LZ key ts b h):=by
 unfold nM Cp;simp only[aD,bU3,aA]
theorem bTh(key ts b:Int)(h:den cH):iA key ts b h=U (h.1,h.2.1,h.2.2.1,h.2.2.2.1,LZ key ts b h):=by
 unfold iA Cp;simp only[aD,bSy,aA]
def UD(t:den B2)(p:den cJ)(s:den B9)(r inn o:Int):den cH:=(r,inn,o,Uq p s.1,LZ (Gh t r) s.1 (vX s (s.2.2.length:Int)) (r,inn,o,Uq p s.1,0))
def JM(t:den B2)(p:den cJ)(s:den B9)(r inn o:Int):den B9:=(s.1,s.2.1,s.2.2++[UD t p s r inn o])
theorem Xc{t:den B2}{p:den cJ}{s:den B9}{r inn o:Int}(hl:s.2.2.length<=1000000)(hr:cK t r=X):F6 t p s r inn o=U (JM t p s r inn o):=by
 obtain⟨x,ix,_,kx⟩:=Oi hr;unfold F6 JM UD A6 B6 Cp;simp only[aD,cG7,Lf (show s.2.2.length<=549755813888 by omega),SZ hl,aA,ix,cIa,kx,aC (b:=40) (n:=s.2.2.length) (m:=1) (by decide) (by omega),zZ]
theorem bMr{t:den B2}{p:den cJ}{s:den B9}{r inn o:Int}(hl:s.2.2.length<=1000000)(hr:cK t r=X):HU t p s r inn o=U (JM t p s r inn o):=by
 obtain⟨x,ix,_,kx⟩:=Oi hr;unfold HU JM UD A6 B6 Cp;simp only[aD,bTk,Jx (show s.2.2.length<=549755813888 by omega),SS hl,aA,ix,bTh,kx,aC (b:=40) (n:=s.2.2.length) (m:=1) (by decide) (by omega),zZ]
abbrev N0:=Int×Int×Bool×eV
def Rk(s:den B9)(b:Bool):N0:=(s.1,s.2.1,b,s.2.2)
def OZ(t:den B2)(p:den cJ)(r o ts b:Int):Bool:=L9 t r&&(B3 o 1 6&&((tF t r o==1||tF t r o==2)&&(vF p [] o&&(B3 ts 0 1000000&&kR b))))
def wJ(t:den B2)(p:den cJ)(r o ts b:Int):N0:=cond (OZ t p r o ts b) (Rk (JM t p (ts,b,[]) r 0 o) X) (0,0,Y,[])
theorem bLu{t:den B2}(ht:eU t)(p:den cJ)(r o ts b:Int):pG t p r o ts b=U (wJ t p r o ts b):=by
 have ha:uV p (0,0,[]) o=U (vF p [] o):=W8 (s:=(0,0,[])) (by simp);unfold pG wJ OZ A1 B6;simp only[aD,bLd ht,gX,SO ht.l,ha,Lh,aA,kM];cases c:L9 t r with
 | false=>rfl
 | true=>
  have hr:cK t r=X:=by unfold L9 at c;rw[Ck]at c;exact c.1
  have hg:F6 t p (ts,b,[]) r 0 o=U (JM t p (ts,b,[]) r 0 o):=Xc (s:=(ts,b,[])) (by simp) hr;rw[hg];cases B3 o 1 6<;>cases tF t r o==1<;>cases tF t r o==2<;>cases vF p [] o<;>cases B3 ts 0 1000000<;>cases kR b<;>rfl
theorem bLy{t:den B2}(ht:eU t)(p:den cJ)(r o ts b:Int):pJ t p r o ts b=U (wJ t p r o ts b):=by
 have ha:uC p (ts,b,[]) o=U (vF p [] o):=Wj (s:=(ts,b,[])) (by simp);unfold pJ wJ OZ A1 B6 Cp;simp only[aD,F7 ht.a,fC,SC ht.l,ha,Ln,bTk,bTh,aA,kM,aC (b:=40) (n:=0) (m:=1) (by decide) (by decide),zZ];unfold L9;cases hr:cK t r with
 | false=>rfl
 | true=>
  obtain⟨x,ix,cx,kx⟩:=Oi hr;have hb:vX (ts,b,[]) 0=b:=rfl;rw[ix];simp only[aA,cx,kx,Cw,BZ,zY];cases eD t r<;>cases B3 o 1 6<;>cases B3 ts 0 1000000<;>cases kR b<;>cases tF t r o==1<;>cases tF t r o==2<;>cases vF p [] o<;>first | rfl | (unfold JM UD;rw[show ((([]:eV).length:Nat):Int)=0 from rfl,hb];rfl)
def Rx(t:den B2)(p:den cJ)(s:den B9)(r inn o:Int):Bool:=DE t s r inn&&(B3 o 1 6&&(!(o==inn)&&(vF p s.2.2 o&&(tF t r o==qH t s.2.2))))
def D9(t:den B2)(p:den cJ)(s:den B9)(r inn o:Int):N0:=cond (Rx t p s r inn o) (Rk (JM t p s r inn o) X) (Rk s Y)
theorem OC{t:den B2}{s:den B9}{r inn:Int}(h:DE t s r inn=X):cK t r=X/\yN t s=X:=by
 unfold DE at h;simp only[Ck]at h;exact⟨h.1,h.2.1⟩
theorem bEs{t:den B2}{s:den B9}{r inn:Int}(h:DE t s r inn=X):qH t s.2.2=1\/qH t s.2.2=2:=by
 have h1:=(OC h).2;unfold yN at h1;simp only[Ck,Eu,beq_eq_false_iff_ne]at h1;exact (bXw t s.2.2).resolve_left h1.2.2.1
theorem bV5{t:den B2}{p:den cJ}{s:den B9}(ht:eU t)(hl:s.2.2.length<=1000000)(r inn o:Int):GM t p s r inn o=U (D9 t p s r inn o):=by
 unfold GM D9 Rx A1 A6 B6;simp only[aD,X7 ht hl,gX,W8 hl,Lf (show s.2.2.length<=549755813888 by omega),Xb ht hl,SO ht.l,aA,kM];cases c:DE t s r inn with
 | false=>rfl
 | true=>
  rw[Xc hl (OC c).1];rw[show (cond (qH t s.2.2==(2:Int)) (U (2:Int)) (U (1:Int)))=U (qH t s.2.2) from by rcases bEs c with e | e<;>rw[e]<;>rfl,aA];cases B3 o 1 6<;>cases o==inn<;>cases vF p s.2.2 o<;>cases tF t r o==qH t s.2.2<;>rfl
theorem bUq{t:den B2}{p:den cJ}{s:den B9}(ht:eU t)(hl:s.2.2.length<=1000000)(r inn o:Int):GN t p s r inn o=U (D9 t p s r inn o):=by
 unfold GN D9 Rx A1 A6 B6;simp only[aD,XS ht hl,fC,Wj hl,Jx (show s.2.2.length<=549755813888 by omega),SB ht hl,SC ht.l,aA,kM];cases c:DE t s r inn with
 | false=>rfl
 | true=>
  rw[bMr hl (OC c).1];rw[show (cond (qH t s.2.2==(1:Int)) (U (1:Int)) (U (2:Int)))=U (qH t s.2.2) from by rcases bEs c with e | e<;>rw[e]<;>rfl,aA];cases B3 o 1 6<;>cases o==inn<;>cases vF p s.2.2 o<;>cases tF t r o==qH t s.2.2<;>rfl
def Fh(t:den B2)(p:den cJ)(s:den B9)(r inn:Int):N0:=cond (DE t s r inn&&vF p s.2.2 0) (Rk (JM t p s r inn 0) X) (Rk s Y)
theorem cJz{t:den B2}{p:den cJ}{s:den B9}(ht:eU t)(hl:s.2.2.length<=1000000)(r inn:Int):rE t p s r inn=U (Fh t p s r inn):=by
 unfold rE Fh A1 A6 B6;simp only[aD,X7 ht hl,W8 hl,Lf (show s.2.2.length<=549755813888 by omega),aA];cases c:DE t s r inn with
 | false=>rfl
 | true=>
  rw[Xc hl (OC c).1];cases vF p s.2.2 0<;>rfl
theorem cKi{t:den B2}{p:den cJ}{s:den B9}(ht:eU t)(hl:s.2.2.length<=1000000)(r inn:Int):rZ t p s r inn=U (Fh t p s r inn):=by
 unfold rZ Fh A1 A6 B6;simp only[aD,XS ht hl,Wj hl,Jx (show s.2.2.length<=549755813888 by omega),aA];cases c:DE t s r inn with
 | false=>rfl
 | true=>
  rw[bMr hl (OC c).1];cases vF p s.2.2 0<;>rfl
def six:List Int:=[1,2,3,4,5,6]
theorem cI3{k:Nat}{x:Int}(h:six[k]? =U x):x=((k+1:Nat):Int)/\k<6:=by
 obtain⟨hk,e⟩:=Cu.1 h;have hk:k<6:=hk;refine⟨?_,hk⟩;rw[<- e];have :k=0\/k=1\/k=2\/k=3\/k=4\/k=5:=by omega
 rcases this with rfl | rfl | rfl | rfl | rfl | rfl<;>rfl
theorem Sz(p:Int->Bool){step:Int×List Int->Option ((Int×List Int)⊕List Int)}
  (h:∀(x:Int) (a:List Int),D (x<=(6:Int))=X->aF 8 a.length 1=X->step (x,a)=U (.inl (wr (x+1),cond (p x) (a++[x]) a)))
  (he:∀a,step ((7:Int),a)=U (.inr a)):aB step ((1:Int),[])=U (six.filter p):=by
 rw[(jJ (λk (a:List Int)=>(((k+1:Nat):Int),a)) ((1:Int),[]) [] six (λ_ x a=>if p x then a++[x] else a) Cr (λ_=>1) 1000 id rfl (by decide) (by decide) (λk x a hi hx hd hw hk hb=>by
  obtain⟨e,hk6⟩:=cI3 hx;rw[<- e,h x a (zX (by omega)) (aC (by decide) (by omega)),show wr (x+1)=((k+1+1:Nat):Int) from (wri (by omega) (by omega)).trans (by omega)];cases p x<;>simp) (λa=>he a)).1,NH]
 simp
def Fm(t:den B2)(p:den cJ)(r:Int):List Int:=six.filter λo=>(wJ t p r o 0 0).2.2.1
theorem cK8{t:den B2}(ht:eU t)(p:den cJ)(r:Int):lM t p r=U (Fm t p r):=by
 unfold lM Fm A1 B6;rw[Sz (λo=>(wJ t p r o 0 0).2.2.1) (λx a hx ha=>by
  simp only[hx,zZ,aD,bLu ht,aA,ha];cases (wJ t p r x 0 0).2.2.1<;>rfl) (λa=>rfl)]
 rfl
theorem cKk{t:den B2}(ht:eU t)(p:den cJ)(r:Int):lV t p r=U (Fm t p r):=by
 unfold lV Fm A1 B6;rw[Sz (λo=>(wJ t p r o 0 0).2.2.1) (λx a hx ha=>by
  simp only[hx,zZ,aD,bLy ht,aA,ha];cases (wJ t p r x 0 0).2.2.1<;>rfl) (λa=>rfl)]
 rfl
def Pi(t:den B2)(p:den cJ)(s:den B9)(r inn o:Int):Bool:=(D9 t p s r inn o).2.2.1&&(!((remote t r o).1==r)&& !oG (s.2.2.map λh=>(h.1:Int)) (remote t r o).1)
def EM(t:den B2)(p:den cJ)(s:den B9)(r inn:Int):List Int:=six.filter (Pi t p s r inn)
theorem cJd{t:den B2}{p:den cJ}{s:den B9}(ht:eU t)(hl:s.2.2.length<=1000000)(r inn:Int):lH t p s r inn=U (EM t p s r inn):=by
 have hh:∀n,jE (s.2.2.map λh=>(h.1:Int)) n=U (oG (s.2.2.map λh=>(h.1:Int)) n):=λn=>MN (by simp;omega)
 unfold lH EM A1 A6 B6;rw[Sz (Pi t p s r inn) (λx a hx ha=>by
  simp only[hx,zZ,aD,bV5 ht hl,KW ht.l,XD hl,hh,aA,ha,kM];unfold Pi;cases (D9 t p s r inn x).2.2.1<;>cases (remote t r x).1==r<;>cases oG (s.2.2.map λh=>(h.1:Int)) (remote t r x).1<;>rfl) (λa=>rfl)]
 rfl
theorem cJh{t:den B2}{p:den cJ}{s:den B9}(ht:eU t)(hl:s.2.2.length<=1000000)(r inn:Int):lK t p s r inn=U (EM t p s r inn):=by
 have hh:∀n,gU (s.2.2.map λh=>(h.1:Int)) n=U (oG (s.2.2.map λh=>(h.1:Int)) n):=λn=>Lq (by simp;omega)
 unfold lK EM A1 A6 B6;rw[Sz (Pi t p s r inn) (λx a hx ha=>by
  simp only[hx,zZ,aD,bUq ht hl,Ji ht.l,OL hl,hh,aA,ha,kM];unfold Pi;cases (D9 t p s r inn x).2.2.1<;>cases (remote t r x).1==r<;>cases oG (s.2.2.map λh=>(h.1:Int)) (remote t r x).1<;>rfl) (λa=>rfl)]
 rfl
theorem O4(p:Int->Bool):(six.filter p).length<=6:=H5 p six
def JS(t:den B2)(r o:Int)(b:N0):den sT:=((remote t r o).1,((remote t r o).2,(b.1,b.2.1,b.2.2.2)))
def Mf(t:den B2)(r ts o:Int):Int:=EB (([Gh t r]++[ts,o])++[Gh t r])
theorem cLj(k a b:Int):kK k [a,b]=U (EB (([k]++[a,b])++[k])):=by
 unfold kK;rw[aC (b:=8) (n:=[k].length) (by decide) (by simp),aC (b:=8) (by decide) (by simp),Sb (by simp)];rfl
theorem cL3(k a b:Int):kG k [a,b]=U (EB (([k]++[a,b])++[k])):=by
 unfold kG;rw[aC (b:=8) (n:=[k].length) (by decide) (by simp),aC (b:=8) (by decide) (by simp),Sf (by simp)];rfl
def ES(t:den B2)(p:den cJ)(r ts o:Int):aZ:=cond (wJ t p r o ts (Mf t r ts o)).2.2.1 [JS t r o (wJ t p r o ts (Mf t r ts o))] []
def En(t:den B2)(l:dF)(r ts:Int):aZ:=cond (mO t) ((Fm t (cE l r) r).flatMap (ES t (cE l r) r ts)) []
theorem bMe{t:den B2}{p:den cJ}{r o:Int}(h:o∈Fm t p r):cK t r=X:=by
 have h2:(wJ t p r o 0 0).2.2.1=X:=(C2.1 h).2;unfold wJ at h2;cases c:OZ t p r o 0 0 with
 | false=>rw[c]at h2;cases h2
 | true=>
  unfold OZ L9 at c;simp only[Ck]at c;exact c.1.1
theorem WV{α β:Type}(l:List α)(g:α->List β)(h:∀x∈l,(g x).length<=1):(l.map λx=>(g x).length).sum<=l.length:=by
 have :=Fb (f:=λx=>(g x).length) (c:=1) (l:=l) h;omega
theorem VQ(t:den B2)(p:den cJ)(r ts o:Int):(ES t p r ts o).length<=1:=by
 unfold ES;cases (wJ t p r o ts (Mf t r ts o)).2.2.1<;>simp
theorem cJ5{t:den B2}{l:dF}(ht:eU t)(hl:l.length<=1000000)(r ts:Int):pZ t l r ts=U (En t l r ts,l):=by
 unfold pZ En BX A1 A6 B6;simp only[aD,MR ht.sm,WW hl,cK8 ht,aA];cases mO t with
 | false=>rfl
 | true=>
  have h6:=O4 λo=>(wJ t (cE l r) r o 0 0).2.2.1
  have h6:(Fm t (cE l r) r).length<=6:=h6;simp only[BZ,zY,zZ];rw[dK (Fm t (cE l r) r) (ES t (cE l r) r ts) (λx=>x) [] (by omega) (by have :=WV _ (ES t (cE l r) r ts) λx (_:x∈Fm t (cE l r) r)=>VQ _ _ _ _ _;simp only[CE];omega) (λk o a hi hx hm hd hw hb=>by
   obtain⟨x,ix,_,kx⟩:=Oi (bMe hm);have hrem:∀b:N0,vM t r o (b.1,b.2.1,b.2.2.2)=U ((remote t r o).1,(remote t r o).2,b.1,b.2.1,b.2.2.2):=λb=>by
    unfold vM A1 A6;simp only[aD,KW ht.l,aA]
   have ha:aF 56 a.length 1=X\/(ES t (cE l r) r ts o).length=0:=by
    by_cases c:(ES t (cE l r) r ts o).length=0
    .exact .inr c
    .exact .inl (CO (by decide) (by omega))
   simp only[hd,bF,zZ,Cj,hx,aA,ix,cLj,kx,bLu ht,hw,bB,cB,bL,bJ,bO];unfold ES Mf at *;generalize wJ t (cE l r) r o ts (EB (([Gh t r]++[ts,o])++[Gh t r]))=b at *;obtain⟨b1,b2,b3,b4⟩:=b;cases b3 with
   | false=>simp only[zY,aA,CU]
   | true=>
    have ha:aF 56 a.length 1=X:=ha.resolve_right (by simp);have hr:=hrem (b1,b2,X,b4);simp only at hr;simp only[zZ,hr,aA,ha];rfl) (λa=>by simp)]
  rfl
theorem cH9{t:den B2}{l:dF}(ht:eU t)(hl:l.length<=1000000)(r ts:Int):uP t l r ts=U (En t l r ts):=by
 unfold uP En BX A1 A6 B6;simp only[aD,GU ht.sm,WC hl,cKk ht,aA];cases mO t with
 | false=>rfl
 | true=>
  have h6:=O4 λo=>(wJ t (cE l r) r o 0 0).2.2.1
  have h6:(Fm t (cE l r) r).length<=6:=h6;simp only[BZ,zY,zZ];rw[dK (Fm t (cE l r) r) (ES t (cE l r) r ts) (λx=>x) [] (by omega) (by have :=WV _ (ES t (cE l r) r ts) λx (_:x∈Fm t (cE l r) r)=>VQ _ _ _ _ _;simp only[CE];omega) (λk o a hi hx hm hd hw hb=>by
   obtain⟨x,ix,_,kx⟩:=Oi (bMe hm);have ha:aF 56 a.length 1=X\/(ES t (cE l r) r ts o).length=0:=by
    by_cases c:(ES t (cE l r) r ts o).length=0
    .exact .inr c
    .exact .inl (CO (by decide) (by omega))
   simp only[hd,bF,zZ,Cj,hx,aA,ix,cL3,kx,bLy ht,hw,bB,cB,bL,bJ,bO,Ji ht.l];unfold ES Mf at *;generalize wJ t (cE l r) r o ts (EB (([Gh t r]++[ts,o])++[Gh t r]))=b at *;obtain⟨b1,b2,b3,b4⟩:=b;cases b3 with
   | false=>simp only[zY,aA,CU]
   | true=>
    have ha:aF 56 a.length 1=X:=ha.resolve_right (by simp);simp only[zZ,aA,ha];rfl) (λa=>by simp)]
  rfl
def Fw(t:den B2)(p:den cJ)(r:Int)(g:den fM):aZ:=(EM t p g.2 r g.1).flatMap λo=>[JS t r o (D9 t p g.2 r g.1 o)]
def EN(t:den B2)(l:dF)(r:Int)(m:bX):aZ:=cond (mO t) (m.flatMap (Fw t (cE l r) r)) []
theorem SG(t:den B2)(p:den cJ)(r:Int)(g:den fM):(Fw t p r g).length<=6:=by
 have h:=KX (g:=λo=>[JS t r o (D9 t p g.2 r g.1 o)]) (c:=1) (l:=EM t p g.2 r g.1) λx _=>by simp
 have h6:(EM t p g.2 r g.1).length<=6:=O4 _;unfold Fw;omega
theorem cHx{t:den B2}{l:dF}{m:bX}(ht:eU t)(hl:l.length<=1000000)(hm:m.length<=1000000)(hs:∀g∈m,g.2.2.2.length<=1000000)(r:Int):pR t l r m=U (EN t l r m,l):=by
 unfold pR EN BX A1 A6 B6;simp only[aD,MR ht.sm,WW hl,aA];cases mO t with
 | false=>rfl
 | true=>
  simp only[BZ,zY,zZ];rw[dK m (Fw t (cE l r) r) (λx=>x) [] hm (by have :=Fb (f:=λg=>(Fw t (cE l r) r g).length) (c:=6) (l:=m) λx _=>SG _ _ _ _;simp only[CE];omega) (λk g a hi hx hgm hd hw hb=>by
   have h6:(EM t (cE l r) g.2 r g.1).length<=6:=O4 _;have e1:∀o,GM t (cE l r) g.2 r g.1 o=U (D9 t (cE l r) g.2 r g.1 o):=λo=>bV5 ht (hs g hgm) r g.1 o
   simp only[hd,zZ,hi,aA,aD,cJd ht (hs g hgm)];rw[dK (EM t (cE l r) g.2 r g.1) (λo=>[JS t r o (D9 t (cE l r) g.2 r g.1 o)]) (λx=>x) a (by omega) (by
    have h1:=WV (EM t (cE l r) g.2 r g.1) (λo=>[JS t r o (D9 t (cE l r) g.2 r g.1 o)]) (λx _=>by simp);have h2:=KX (g:=λo=>[JS t r o (D9 t (cE l r) g.2 r g.1 o)]) (c:=1) (l:=EM t (cE l r) g.2 r g.1) λx _=>by simp
    have h3:=Fb (f:=λg=>(Fw t (cE l r) r g).length) (c:=6) (l:=m) λx _=>SG _ _ _ _
    have h4:(Fw t (cE l r) r g).length=((EM t (cE l r) g.2 r g.1).map λo=>([JS t r o (D9 t (cE l r) g.2 r g.1 o)]:aZ).length).sum:=by unfold Fw;rw[N7]
    omega) (λj o b hj hy hom hd' hw' hb'=>by
    have hrem:∀b:N0,vM t r o (b.1,b.2.1,b.2.2.2)=U ((remote t r o).1,(remote t r o).2,b.1,b.2.1,b.2.2.2):=λb=>by
     unfold vM A1 A6;simp only[aD,KW ht.l,aA]
    have hr:=hrem (D9 t (cE l r) g.2 r g.1 o);have ha:aF 56 b.length 1=X:=CO (by decide) (by have :b.length+1<=2000000000000:=hb';omega);simp only[hd',bF,zZ,Cj,hy,aA,e1,hr,ha,hw'];rfl) (λb=>by simp)]
   simp only[aA,hw];rfl) (λa=>by simp)]
  rfl
theorem cKn{t:den B2}{l:dF}{m:bX}(ht:eU t)(hl:l.length<=1000000)(hm:m.length<=1000000)(hs:∀g∈m,g.2.2.2.length<=1000000)(r:Int):uQ t l r m=U (EN t l r m):=by
 unfold uQ EN BX A1 A6 B6;simp only[aD,GU ht.sm,WC hl,aA];cases mO t with
 | false=>
  rw[aH (r:=[]) (by cases D ((0:Int)<(m.length:Int))<;>rfl)];rfl
 | true=>
  simp only[zZ];rw[dK m (Fw t (cE l r) r) (λx=>x) [] hm (by have :=Fb (f:=λg=>(Fw t (cE l r) r g).length) (c:=6) (l:=m) λx _=>SG _ _ _ _;simp only[CE];omega) (λk g a hi hx hgm hd hw hb=>by
   have h6:(EM t (cE l r) g.2 r g.1).length<=6:=O4 _;have e1:∀o,GN t (cE l r) g.2 r g.1 o=U (D9 t (cE l r) g.2 r g.1 o):=λo=>bUq ht (hs g hgm) r g.1 o
   simp only[hd,zZ,hi,aA,aD,cJh ht (hs g hgm)];rw[dK (EM t (cE l r) g.2 r g.1) (λo=>[JS t r o (D9 t (cE l r) g.2 r g.1 o)]) (λx=>x) a (by omega) (by
    have h4:(Fw t (cE l r) r g).length=((EM t (cE l r) g.2 r g.1).map λo=>([JS t r o (D9 t (cE l r) g.2 r g.1 o)]:aZ).length).sum:=by unfold Fw;rw[N7]
    omega) (λj o b hj hy hom hd' hw' hb'=>by
    have hok:(D9 t (cE l r) g.2 r g.1 o).2.2.1=X:=by
     have :=(C2.1 hom).2;unfold Pi at this;rw[Ck]at this;exact this.1
    have ha:aF 56 b.length 1=X:=CO (by decide) (by have :b.length+1<=2000000000000:=hb';omega);simp only[hd',bF,zZ,Cj,hy,aA,e1,Ji ht.l,ha,hw',bB,cB,bL,bJ,bO,hok];rfl) (λb=>by simp)]
   simp only[aA,hw];rfl) (λa=>by simp)]
  rfl
def FM(l:bX):Prop:= ∀g∈l,g.2.2.2.length<=9
theorem bJ8{g:den fM}(h:g.2.2.2.length<=9):oQ g=U g:=by
 unfold oQ A6;rw[show cG (g.2.1,g.2.2.1,g.2.2.2)=U g.2 from Lf (x:=g.2) (by omega)];rfl
theorem bIw{l:bX}(hl:l.length<=1000000)(h:FM l):pL l=U l:=by
 unfold pL A6;rw[(jJ (λk (a:bX)=>((k:Int),a)) ((0:Int),[]) [] l (λ_ x a=>a++[x]) Cr (λ_=>1) 1000000 id rfl (by omega) (by rw[cT];simpa using hl) (λk x a hi hx hd hw hk hb=>by
  have e:oQ x=U x:=bJ8 (h x (Cm hx));simp only[hd,hi,hw,zZ,aA,aD,e,aC (b:=48) (n:=a.length) (m:=1) (by decide) (by omega)];simp) (λa=>by simp)).1,dR (λx=>x)]
 simp
theorem bJ6{l:bX}(hl:l.length<=1000000)(h:FM l):HG l=U l:=by
 unfold HG A6;rw[(jJ (λk (a:bX)=>((k:Int),a)) ((0:Int),[]) [] l (λ_ x a=>a++[x]) Cr (λ_=>1) 1000000 id rfl (by omega) (by rw[cT];simpa using hl) (λk x a hi hx hd hw hk hb=>by
  have e:eB x.2=U x.2:=Jx (by have :=h x (Cm hx);omega);simp only[hd,hi,hw,zZ,aA,aD,e,aC (b:=48) (n:=a.length) (m:=1) (by decide) (by omega)];simp) (λa=>by simp)).1,dR (λx=>x)]
 simp
def tD(l:List bX):Prop:= ∀m∈l,m.length<=12/\FM m
theorem bY2{b:den hP}(hl:b.2.length<=1000000)(h:tD b.2):qZ b=U b:=by
 unfold qZ A1;rw[(jJ (λk (a:List bX)=>((k:Int),b.1,a)) ((0:Int),b.1,[]) [] b.2 (λ_ x a=>a++[x]) Cr (λ_=>1) 1000000 (λa=>(b.1,a)) rfl (by omega) (by rw[cT];simpa using hl) (λk x a hi hx hd hw hk hb=>by
  obtain⟨h1,h2⟩:=h x (Cm hx);simp only[hd,hi,hw,zZ,aA,bIw (B5 h1 (by decide)) h2,aC (b:=24) (n:=a.length) (m:=1) (by decide) (by omega)];simp) (λa=>by simp)).1,dR (λx=>x)]
 simp
theorem bZ3{b:den hP}(hl:b.2.length<=1000000)(h:tD b.2):KJ b=U b:=by
 unfold KJ A1;rw[(jJ (λk (a:List bX)=>((k:Int),b.1,a)) ((0:Int),b.1,[]) [] b.2 (λ_ x a=>a++[x]) Cr (λ_=>1) 1000000 (λa=>(b.1,a)) rfl (by omega) (by rw[cT];simpa using hl) (λk x a hi hx hd hw hk hb=>by
  obtain⟨h1,h2⟩:=h x (Cm hx);simp only[hd,hi,hw,zZ,aA,bJ6 (B5 h1 (by decide)) h2,aC (b:=24) (n:=a.length) (m:=1) (by decide) (by omega)];simp) (λa=>by simp)).1,dR (λx=>x)]
 simp
theorem Kd{s:den B9}(h:s.2.2.length<=1000000):Cc 549755813888 B9 s:=⟨trivial,trivial,by show s.2.2.length<=_;omega,λx _=>Cc.flat rfl⟩
noncomputable def L4(l:bX)(g:den fM):Bool:=l.any λx=>(x.1==g.1)&&nW x.2 g.2
theorem cG0{l:bX}{g:den fM}(hl:l.length<=1000000)(h:FM l)(hg:g.2.2.2.length<=9):K1 l g=U (L4 l g):=by
 unfold K1 L4 A6;rw[aM (l:=l) (λ_ (x:den fM)=>if (x.1==g.1)&&nW x.2 g.2 then U X else W) (by omega) (λk x hi hd hw hm hk=>by
  have e:iM x.2 g.2=U (nW x.2 g.2):=bL6 (Kd (by have :=h x hm;omega)) (Kd (by omega));unfold yE A6;simp only[hd,hi,hw,zZ,aA,aD,e];cases x.1==g.1<;>cases nW x.2 g.2<;>rfl) (by simp),M6 (λx:den fM=>(x.1==g.1)&&nW x.2 g.2)]
 cases l.any λx=>(x.1==g.1)&&nW x.2 g.2<;>rfl
theorem cGw{l:bX}{g:den fM}(hl:l.length<=1000000)(h:FM l)(hg:g.2.2.2.length<=9):K0 l g=U (L4 l g):=by
 unfold K0 L4 A6;rw[aM (l:=l) (λ_ (x:den fM)=>if (x.1==g.1)&&nW x.2 g.2 then U X else W) (by omega) (λk x hi hd hw hm hk=>by
  have e:iT x.2 g.2=U (nW x.2 g.2):=bMs (Kd (by have :=h x hm;omega)) (Kd (by omega));unfold M3 A6;simp only[hd,hi,hw,zZ,aA,aD,e];cases x.1==g.1<;>cases nW x.2 g.2<;>rfl) (by simp),M6 (λx:den fM=>(x.1==g.1)&&nW x.2 g.2)]
 cases l.any λx=>(x.1==g.1)&&nW x.2 g.2<;>rfl
def GK(s:den B9):Int:=EB ([s.1,s.2.1]++s.2.2.flatMap λh=>[h.1,h.2.1,h.2.2.1,h.2.2.2.1])
theorem bLb{s:den B9}(h:s.2.2.length<=9):([s.1,s.2.1]++s.2.2.flatMap λh=>[h.1,h.2.1,h.2.2.1,h.2.2.2.1]).length<=549755813888:=by
 have :=KX (g:=λh:den cH=>([h.1,h.2.1,h.2.2.1,h.2.2.2.1]:List Int)) (c:=4) (l:=s.2.2) λx _=>by simp
 rw[C7];simp only[C6,CE];omega
theorem cAj{s:den B9}(h:s.2.2.length<=9):rO s=U (GK s):=by
 unfold rO GK;rw[dK s.2.2 (λh=>[h.1,h.2.1,h.2.2.1,h.2.2.2.1]) (λx=>x) [s.1,s.2.1] (by omega) (by
  have :=Fb (f:=λh:den cH=>([h.1,h.2.1,h.2.2.1,h.2.2.2.1]:List Int).length) (c:=4) (l:=s.2.2) λx _=>by simp
  simp only[C6,CE]at this ⊢;omega) (λk x a hi hx hm hd hw hb=>by
  simp only[hd,zZ,hi,aA,hw,CO (b:=8) (n:=a.length) (m:=4) (by decide) (by have :a.length+4<=2000000000000:=hb;omega)]) (λa=>by simp)]
 simp only[aA,Sb (bLb h)]
theorem cCg{s:den B9}(h:s.2.2.length<=9):wM s=U (GK s):=by
 unfold wM GK;rw[dK s.2.2 (λh=>[h.1,h.2.1,h.2.2.1,h.2.2.2.1]) (λx=>x) [s.1,s.2.1] (by omega) (by
  have :=Fb (f:=λh:den cH=>([h.1,h.2.1,h.2.2.1,h.2.2.2.1]:List Int).length) (c:=4) (l:=s.2.2) λx _=>by simp
  simp only[C6,CE]at this ⊢;omega) (λk x a hi hx hm hd hw hb=>by
  simp only[hd,zZ,hi,aA,hw,CO (b:=8) (n:=a.length) (m:=4) (by decide) (by have :a.length+4<=2000000000000:=hb;omega)]) (λa=>by simp)]
 simp only[aA,Sf (bLb h)]
def zI(a b:den fM):Bool:=cond ((a.2.2.2.length:Int) != (b.2.2.2.length:Int)) (D ((a.2.2.2.length:Int)<(b.2.2.2.length:Int))) (cond (a.2.1 != b.2.1) (D (a.2.1>b.2.1)) (cond (GK a.2 != GK b.2) (D (GK a.2<GK b.2)) (D (a.1<b.1))))
theorem cEz{a b:den fM}(ha:a.2.2.2.length<=9)(hb:b.2.2.2.length<=9):Kn a b=U (zI a b):=by
 unfold Kn zI A6 A4;simp only[bB,cB,bL,bJ,bO,aA,aD,cAj ha,cAj hb];cases (a.2.2.2.length:Int) != (b.2.2.2.length:Int)<;>cases a.2.1 != b.2.1<;>cases GK a.2 != GK b.2<;>rfl
theorem cEo{a b:den fM}(ha:a.2.2.2.length<=9)(hb:b.2.2.2.length<=9):Ko a b=U (zI a b):=by
 unfold Ko zI A6;simp only[aA,aD,cCg ha,cCg hb];cases (a.2.2.2.length:Int) != (b.2.2.2.length:Int)<;>cases a.2.1 != b.2.1<;>cases GK a.2 != GK b.2<;>rfl
theorem bJk{α:Type}{l:List α}(p:α->Bool){step:Int->Option (Int⊕Int)}(hl:l.length<=1000000)
  (h:∀(k:Nat) (x:α),l[k]? =U x->x∈l->D ((k:Int)<(l.length:Int))=X->wr ((k:Int)+1)=((k+1:Nat):Int)->step (k:Int)=U (cond (p x) (.inr (k:Int)) (.inl ((k+1:Nat):Int))))
  (he:step (l.length:Int)=U (.inr (l.length:Int))):aB step (0:Int)=U ((l.findIdx p:Nat):Int):=by
 have key:∀(rest pre:List α),pre++rest=l->aB step (pre.length:Int)=U ((pre.length+rest.findIdx p:Nat):Int):=by
  intro rest
  induction rest with
  | nil=>intro pre hp;rw[CU]at hp;subst hp;exact aH he
  | cons x rest ih=>
   intro pre hp;have hlt:pre.length<l.length:=by rw[<- hp];simp
   have hx:l[pre.length]? =U x:=by rw[<- hp];simp
   have hs:=h pre.length x hx (Cm hx) (zX (by omega)) (Lo (by omega));rw[List.findIdx_cons];cases hp':p x with
   | true=>rw[hp']at hs;exact aH hs
   | false=>
    rw[hp']at hs;rw[aO hs];have :=ih (pre++[x]) (by simpa using hp);rw[C7,List.length_singleton]at this;rw[this];congr 2;simp;omega
 have :=key l [] rfl;simpa using this
def qK(l:bX)(g:den fM)(k:Nat):bX:=(([]++l.take k)++[g])++l.drop k
noncomputable def Lu(t:den B2)(r:Int)(l:bX)(g:den fM):bX:=
 cond (!DE t g.2 r g.1||L4 l g) l (cond (D (((qK l g (l.findIdx (zI g))).length:Int)>12)) ((qK l g (l.findIdx (zI g))).take ((qK l g (l.findIdx (zI g))).length - 1)) (qK l g (l.findIdx (zI g))))
theorem Wn{l:bX}{g:den fM}{k:Nat}(h:k<=l.length):(qK l g k).length=l.length+1:=by
 unfold qK;simp;omega
theorem bY6{l:bX}{g x:den fM}{k:Nat}(h:x∈qK l g k):x∈l\/x=g:=by
 unfold qK at h;simp only[CH,C0,Cy]at h;rcases h with (h | h) | h
 .exact .inl (IE h)
 .exact .inr h
 .exact .inl (IH h)
theorem bSe{t:den B2}{r:Int}{l:bX}{g:den fM}(hl:l.length<=12)(h:FM l)(hg:g.2.2.2.length<=9):(Lu t r l g).length<=12/\FM (Lu t r l g):=by
 have hk:l.findIdx (zI g)<=l.length:=cRn;have hn:=Wn (g:=g) hk;have hm:∀x∈qK l g (l.findIdx (zI g)),x.2.2.2.length<=9:=λx hx=>(bY6 hx).elim (h x) λe=>e▸hg
 unfold Lu;cases !DE t g.2 r g.1||L4 l g with
 | true=>exact⟨hl,h⟩
 | false=>
  by_cases c:((qK l g (l.findIdx (zI g))).length:Int)>12
  .rw[zX c];refine⟨?_,λx hx=>hm x (IE hx)⟩;show (List.take _ _).length<=12;rw[Dy];omega
  .rw[zW c];exact⟨by show (qK _ _ _).length<=12;omega,hm⟩
theorem bZz{t:den B2}{r:Int}{l:bX}{g:den fM}(ht:eU t)(hl:l.length<=12)(h:FM l)(hg:g.2.2.2.length<=9):sG t r l g=U (Lu t r l g):=by
 have hl':l.length<=1000000:=by omega
 have hc:mZ t g.2 r g.1=U (DE t g.2 r g.1):=X7 ht (by omega) r g.1;have hk:l.findIdx (zI g)<=l.length:=cRn;unfold sG Lu BX A1 A6;simp only[aD,bIw hl' h,hc,cG0 hl' h hg,aA];rw[bJk (l:=l) (zI g) hl' (λk x hx hm hd hw=>by
  simp only[hd,bF,zZ,Cj,hx,aA,cEz hg (h x hm),hw];cases zI g x<;>rfl) (by simp)]
 have hn:=Wn (g:=g) hk;generalize l.findIdx (zI g)=k at *;cases DE t g.2 r g.1 with
 | false=>rfl
 | true=>cases L4 l g with
  | true=>rfl
  | false=>
   simp only[BZ,Cn,zY,aA,E7];rw[show bG (0:Int) (k:Int) (l.length:Int)=X from GS hk,show bG (k:Int) (l.length:Int) (l.length:Int)=X from wS hk,fL,HS];simp only[zZ,bJ8 hg,aA,aC (b:=48) (n:=([]:bX).length) (m:=(l.take k).length) (by decide) (by simp;omega),aC (b:=48) (n:=(([]:bX)++l.take k).length) (m:=1) (by decide) (by simp;omega),aC (b:=48) (n:=((([]:bX)++l.take k)++[g]).length) (m:=(l.drop k).length) (by decide) (by simp;omega)];show Option.bind (Option.bind (U (D (((qK l g k).length:Int)>12))) λs15=>cond s15 (cond (bG (0:Int) (wr (((qK l g k).length:Int) - 1)) ((qK l g k).length:Int)) (U (cut (qK l g k) (0:Int) (wr (((qK l g k).length:Int) - 1)))) W) (U (qK l g k))) (λs16=>U s16)=_;rw[show wr (((qK l g k).length:Int) - 1)=(((qK l g k).length - 1:Nat):Int) from (dO (by omega)).trans (by omega),fL,show bG (0:Int) (((qK l g k).length - 1:Nat):Int) ((qK l g k).length:Int)=X from GS (Nat.sub_le _ _)];simp only[aA];cases D (((qK l g k).length:Int)>12)<;>rfl
end Go.Proofs.YtjpmmodjpaabpaaGreat
