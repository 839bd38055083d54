/-
  Facts and plain laws: what the functions compute, in plain words. Conditions: as each says.
-/
import Derived.Test.YtjpmmodjpaabpaaGreatQ0XExecute
open List renaming length->cMy,mem_of_getElem?->cMw,nil_append->cNf,append_nil->cNn,getElem?_eq_some_iff->cM0,mem_cons->cMv,mem_append->cM3,getElem?_eq_getElem->cMz,length_set->cOv,map_cons->cNb,length_cons->cM8,all_cons->cOj,mem_singleton->cM2,mem_map->cMs,length_nil->cNd,mem_cons_of_mem->cM4,mem_or_eq_of_mem_set->cPr,length_filter_le->cOq,mem_of_mem_take->cOn,mem_of_mem_drop->cOr,take_append_drop->cOc,mem_iff_getElem?->cPs,filter_cons->cPd,mem_filter->cM6,getElem?_drop->cN8,append_assoc->cNp,length_append->cNa,length_take->cNv,length_map->cNg,length_drop->cOz,getElem?_map->cOk,length_flatMap->cPf,not_mem_nil->cNr,mem_flatMap->cN6,foldl_cons->cOf,findIdx_le_length->cP2
open Nat renaming le_trans->cMo,le_refl->cM5,zero_le->cM7,succ_mul->cNk,zero_add->cNo,mul_le_mul_right->cNw,add_sub_cancel->cPt
open Int renaming toNat_natCast->cMt,eq_ofNat_of_zero_le->cO3
open Bool renaming not_false->cMx,false_eq_true->cMr,not_true->cMp,eq_iff_iff->cNe,not_eq_true'->cN3,false_and->cNc,and_self->cN7,and_false->cNz,and_eq_true->cMu,false_or->cOi,true_and->cM1,or_true->cOw,true_or->cOm,or_self->cN5,or_eq_true->cOe
open Sum renaming inl->cMn,inr->cMm,elim_inl->cN4,elim_inr->cPe,elim->cMq
open Option renaming getD_some->cNh
set_option linter.unusedVariables false
set_option linter.unusedSimpArgs false
set_option maxRecDepth 100000
open Option renaming some→U
open Option renaming none→W
open Decidable renaming decide→D
open Bool renaming true→X
open Bool renaming false→Y
set_option linter.defProp false
namespace Go.Proofs.YtjpmmodjpaabpaaGreat
open Go.Ab Go.V
def aPu{w:den tNw}(h:SmB 549755813888 tNw w):eX w=U (aGx w):=by
 obtain⟨hT,hK,hG,_,hD,hY,hF,hX,_⟩:=h;unfold eX mS aK pj2 pj3 pj4 pj9 zz4 zz5 zz6 zz7 zz8 zz9;simp only[aD,aUn hT,aHu hK.1,aHu hK.2,bNu hG,bKh hD.1,aA];rw[(jG (λk (a:lFy)=>((k:Int),(nG w).1,aV w,qL w,a)) ((0:Int),(nG w).1,aV w,qL w,[]) [] (bS w) (λ_ x a=>a++[x]) cMy (λ_=>1) 549755813888 (λa=>((nG w).1,aV w,qL w,a)) rfl (cMo hY.1 (by decide)) (by rw[cS];simpa using hY.1) (λk x a hi hx hd hw hk hb=>by
  have e:=bS9 (hY.2 x (cMw hx));simp only[hd,hi,hw,zZ,aA,aD,aMs e,bKu,aC (b:=128) (n:=a.length) (m:=1) (by decide) hb];exact⟨rfl,by simp⟩) (λa=>by simp)).1,dQ (λx=>x)]
 simp only[aA];rw[(jG (λk (a:lFl)=>((k:Int),(nG w).1,aV w,qL w,a)) ((0:Int),(nG w).1,aV w,qL w,[]) [] (aG w) (λ_ x a=>a++[x]) cMy (λ_=>1) 549755813888 (λa=>((nG w).1,aV w,qL w,a)) rfl (cMo hF.1 (by decide)) (by rw[cS];simpa using hF.1) (λk x a hi hx hd hw hk hb=>by
  have e:=hF.2 x (cMw hx);simp only[hd,hi,hw,zZ,aA,aD,aMz e,aSy,aC (b:=120) (n:=a.length) (m:=1) (by decide) hb];exact⟨rfl,by simp⟩) (λa=>by simp)).1,dQ (λx=>x)]
 simp only[aA];rw[(jG (λk (a:lIb)=>((k:Int),(nG w).1,aV w,qL w,a)) ((0:Int),(nG w).1,aV w,qL w,[]) [] (cQ w) (λ_ x a=>a++[x]) cMy (λ_=>1) 549755813888 (λa=>((nG w).1,aV w,qL w,a)) rfl (cMo hX.1 (by decide)) (by rw[cS];simpa using hX.1) (λk x a hi hx hd hw hk hb=>by
  have e:=hX.2 x (cMw hx);simp only[hd,hi,hw,zZ,aA,aD,bK1 e,aC (b:=48) (n:=a.length) (m:=1) (by decide) hb];simp) (λa=>by simp)).1,dQ (λx=>x)]
 simp only[aA,cNf,List.map_id'];rfl
def cK4{l:lFy}(h:SmB 549755813888 (.sl tFy) l):aA3 l=U l:=by
 unfold aA3 aK zz4 zz5 zz6 zz7 zz8 zz9;rw[(jG (λk (a:lFy)=>((k:Int),a)) ((0:Int),[]) [] l (λ_ x a=>a++[x]) cMy (λ_=>1) 549755813888 id rfl (cMo h.1 (by decide)) (by rw[cS];simpa using h.1) (λk x a hi hx hd hw hk hb=>by
  have e:=bS9 (h.2 x (cMw hx));simp only[hd,hi,hw,zZ,aA,aD,aJu e,bKu,aC (b:=128) (n:=a.length) (m:=1) (by decide) hb];exact⟨rfl,by simp⟩) (λa=>by simp)).1,dQ (λx=>x)]
 simp
def cEn{l:lFl}(h:SmB 549755813888 (.sl tFl) l):uK l=U l:=by
 unfold uK pj9 zz4 zz5 zz6 zz7 zz8;rw[(jG (λk (a:lFl)=>((k:Int),a)) ((0:Int),[]) [] l (λ_ x a=>a++[x]) cMy (λ_=>1) 549755813888 id rfl (cMo h.1 (by decide)) (by rw[cS];simpa using h.1) (λk x a hi hx hd hw hk hb=>by
  have e:=h.2 x (cMw hx);simp only[hd,hi,hw,zZ,aA,aD,aJ5 e,aSy,aC (b:=120) (n:=a.length) (m:=1) (by decide) hb];exact⟨rfl,by simp⟩) (λa=>by simp)).1,dQ (λx=>x)]
 simp
def cDy{l:lIb}(h:SmB 549755813888 (.sl tIb) l):uD l=U l:=by
 unfold uD pj4;rw[(jG (λk (a:lIb)=>((k:Int),a)) ((0:Int),[]) [] l (λ_ x a=>a++[x]) cMy (λ_=>1) 549755813888 id rfl (cMo h.1 (by decide)) (by rw[cS];simpa using h.1) (λk x a hi hx hd hw hk hb=>by
  have e:=h.2 x (cMw hx);simp only[hd,hi,hw,zZ,aA,aD,bMd e,aC (b:=48) (n:=a.length) (m:=1) (by decide) hb];simp) (λa=>by simp)).1,dQ (λx=>x)]
 simp
def bCf{w:den tNw}(h:SmB 549755813888 tNw w):sT w=U (aGx w):=by
 obtain⟨hT,hK,hG,_,hD,hY,hF,hX,_⟩:=h;unfold sT pj2 pj3 aS zz4 zz5 zz6 zz7 zz8 zz9;simp only[aD,aUz hT,aJx hK.1,aJx hK.2,bOl hG,cK4 hY,cEn hF,cDy hX,aA,aC (b:=8) (n:=([]:List Int).length) (m:=w.2.2.2.2.1.length) (by decide) (by simpa using hD.1),zZ,bB,cB,bL,bJ,bO,cNf];rfl
def aN(w:den tNw):q1:=
 (bS w,aG w,cQ w,(nT w).1,(nT w).2,(nK w).1,(nK w).2,(nG w).1,(nG w).2.1,(nG w).2.2,aV w,bC w,qL w)
def gW(w:den tNw)(l:lFl):den tNw:=(nT w,nK w,nG w,aV w,bC w,bS w,l,cQ w,qL w)
def aEk(r:Int)(p:den tPk)(f:den tFl):den tFl:=if f.1==r then (if p.1==2 then aIn f p else aOm f p) else f
def aFi(w:den tNw)(r:Int)(p:den tPk):den tNw:=gW w ((aG w).map (aEk r p))
def sI(p:den tPk):Prop:= ∀x∈p.2.2.2.2.2.2.2.2.2,0<=x/\x<=255
def bBt{α S R:Type}(enc:Nat->List α->S)(l:List α)(g:α->α)(out:List α->R){step:S->Option (S⊕R)}(hl:l.length<=4611686018427387904)
  (h:∀(k:Nat) (x:α) (a:List α),a.length=l.length->a[k]? =U x->x∈l->k<l.length->D ((k:Int)<(l.length:Int))=X->IntKind.i64.wrap ((k:Int)+1)=((k+1:Nat):Int)->step (enc k a)=U (.inl (enc (k+1) (a.set k (g x)))))
  (he:∀a,a.length=l.length->step (enc l.length a)=U (.inr (out a))):aB step (enc 0 l)=U (out (l.map g)):=by
 have key:∀(rest pre:List α),pre++rest=l->aB step (enc pre.length (pre.map g++rest))=U (out (l.map g)):=by
  intro rest
  induction rest with
  | nil=>
   intro pre hp;rw[cNn]at hp;subst hp;rw[cNn];exact aI (he _ (by simp))
  | cons x rest ih=>
   intro pre hp;have hlt:pre.length<l.length:=by rw[<- hp];simp
   have hx:(pre.map g++x::rest)[pre.length]? =U x:=by simp
   have hlen:(pre.map g++x::rest).length=l.length:=by rw[<- hp];simp
   rw[aP (h pre.length x _ hlen hx (by rw[<- hp];simp) hlt (by simpa using hlt) (by rw[wri (by omega) (by omega)];omega))];have hs:(pre.map g++x::rest).set pre.length (g x)=(pre++[x]).map g++rest:=by
    rw[List.set_append_right _ _ (by simp)];simp
   rw[hs];have :=ih (pre++[x]) (by simpa using hp);simpa using this
 exact key l [] rfl
def aRn{α:Type}{a:List α}{k:Nat}{x:α}(h:a[k]? =U x):a.set k x=a:=by
 obtain⟨hlt,hx⟩:=cM0.1 h;rw[<- hx];exact List.set_getElem_self hlt
def bCl{f:den tFl}(h:tot tFl f<=68719476736):SmB 549755813888 tFl f:=(bG h).mono (by decide)
def aU3{α:Type}{a:List α}{k n:Nat}(h:a.length=n)(hk:k<n):D ((k:Int)<(a.length:Int))=X/\D (k<a.length)=X:=by
 constructor<;>simp<;>omega
def bBj{w:den tNw}{r:Int}{p:den tPk}(hF:∀f∈aG w,tot tFl f<=68719476736)(hl:(aG w).length<=68719476736)(hp:tot tPk p<=68719476736)(hb:sI p):kC w r p=U (aN (aFi w r p)):=by
 unfold kC ixb aK pj9 zz4 zz5 zz6 zz7 zz8;refine bBt (λk (a:lFl)=>((k:Int),a)) (aG w) (aEk r p) (λl=>aN (gW w l)) (cMo hl (by decide)) (λk f a ha hx hm hk hd hw=> ?_) (λa ha=> ?_)
 .obtain⟨d1,d2⟩:=aU3 ha hk;have hd:D ((k:Int)<(w.2.2.2.2.2.2.1.length:Int))=X:=hd;simp only[hd,d1,d2,bF,cMt,hx,zZ,aA,aD,kJ,cEe (bCl (hF f hm)),cDc (hF f hm) hp hb,aSy,hw];unfold aEk;cases f.1==r
  .simp only[cMx,zZ,cMr,zU,aA,aRn hx]
  .simp only[cMp,zY,zV];cases p.1==2<;>rfl
 .simp;rfl
def bB4{w:den tNw}{r:Int}{p:den tPk}(hk3:(p.1==2)=Y)(hF:∀f∈aG w,tot tFl f<=68719476736)(hl:(aG w).length<=68719476736)(hp:tot tPk p<=68719476736)(hb:sI p):sJ w r p=U (aN (aFi w r p)):=by
 unfold sJ ixb aK pj9 zz4 zz5 zz6 zz7 zz8;refine bBt (λk (a:lFl)=>((k:Int),a)) (aG w) (aEk r p) (λl=>aN (gW w l)) (cMo hl (by decide)) (λk f a ha hx hm hk hd hw=> ?_) (λa ha=> ?_)
 .obtain⟨d1,d2⟩:=aU3 ha hk;simp only[d1,d2,bF,cMt,hx,zZ,aA,aD,cDd (hF f hm) hp hb,bB,cB,bL,bJ,bO,hw];unfold aEk;rw[hk3];cases f.1==r
  .simp only[zY,cMr,zU,aA,aRn hx]
  .simp only[zZ,zV,aA,cMr,zU];rfl
 .show cond (D ((((aG w).length:Nat):Int)<(a.length:Int))) _ _=_;rw[ha,zW (by omega)];rfl
def bUj{w:den tNw}{r:Int}{p:den tPk}(hk2:(p.1==2)=X)(hF:∀f∈aG w,tot tFl f<=68719476736)(hl:(aG w).length<=68719476736){step:Int×lFl->Option ((Int×lFl)⊕_)}
  (hs:∀(k:Nat) (f:den tFl) (a:lFl),a.length=(aG w).length->a[k]? =U f->f∈aG w->k<(aG w).length->step ((k:Int),a)=U (.inl (((k+1:Nat):Int),a.set k (aEk r p f)))) (he:∀a,a.length=(aG w).length->step (((aG w).length:Int),a)=U (.inr (aN (gW w a)))):aB step ((0:Int),aG w)=U (aN (aFi w r p)):=
 bBt (λk (a:lFl)=>((k:Int),a)) (aG w) (aEk r p) (λl=>aN (gW w l)) (cMo hl (by decide)) (λk f a ha hx hm hk hd hw=>hs k f a ha hx hm hk) (λa ha=>he a ha)
def aT6(p:den tPk):aF6 p p.2.2.2.2.1 p.2.2.2.2.2.1 p.2.2.2.2.2.2.1=p:=rfl
def aO4(t:den tTo)(p:den tPk):∃b,bV t p=aF6 p p.2.2.2.2.1 p.2.2.2.2.2.1 b:=by
 unfold bV;split
 .exact⟨_,rfl⟩
 .exact⟨_,(aT6 p).symm⟩
def bH1(p:den tPk):∃i j b,adv p=aF6 p i j b:=by
 unfold adv;split
 .exact⟨_,_,_,(aT6 p).symm⟩
 .split<;>exact⟨_,_,_,rfl⟩
def bH4{t:den tTo}{now:Int}:∀(n:Nat) (p:den tPk),∃i j b,(goC t now n p).2=aF6 p i j b
 | 0,p=>by obtain⟨b,hb⟩:=aO4 t p;exact⟨_,_,_,hb⟩
 | n+1,p=>by
  obtain⟨b,hb⟩:=aO4 t p;unfold goC;split
  .obtain⟨i,j,c,h1⟩:=bH4 (t:=t) (now:=now) n (adv (bV t p));obtain⟨i',j',c',h2⟩:=bH1 (bV t p);rw[h1,h2,hb];exact⟨_,_,_,rfl⟩
  .exact⟨_,_,_,hb⟩
def bXz(t:den tTo)(r now dead inn:Int)(p:den tPk):∃i j b,(fwd t r now dead inn p).2.2.1=aF6 p i j b:=by
 obtain⟨i,j,b,h⟩:∃i j b,(cU t now p).2=aF6 p i j b:=bH4 _ p;unfold fwd
 repeat' split
 all_goals first
  | exact⟨_,_,_,(aT6 p).symm⟩
  | exact⟨_,_,_,h⟩
  | (obtain⟨i',j',b',h'⟩:=bH1 (cU t now p).2;exact⟨_,_,_,by rw[show (0,pEg (dB (cU t now p).2) (fK (cU t now p).2),adv (cU t now p).2,pEg (dB (cU t now p).2) (fK (cU t now p).2)).2.2.1=adv (cU t now p).2 from rfl,h',h];rfl⟩)
def aK8(t:den tTo)(r now dead inn:Int)(p:den tPk):(fwd t r now dead inn p).2.2.1.1=p.1/\(fwd t r now dead inn p).2.2.1.2.1=p.2.1/\(fwd t r now dead inn p).2.2.1.2.2.2.2.2.2.2.1=p.2.2.2.2.2.2.2.1/\(fwd t r now dead inn p).2.2.1.2.2.2.2.2.2.2.2.2=p.2.2.2.2.2.2.2.2.2:=by
 obtain⟨i,j,b,h⟩:=bXz t r now dead inn p;rw[h];exact⟨rfl,rfl,rfl,rfl⟩
def aTr{t:den tTo}{r now dead inn:Int}{p:den tPk}(h:((fwd t r now dead inn p).1==2)=Y):sH p=X:=by
 cases hv:sH p with
 | true=>rfl
 | false=>
  unfold fwd at h;rw[hv]at h;cases h
def aKo(w:den tNw):den tNw:=(nT w,nK w,nG w,aV w,bC w,bS w,aG w,cQ w,wr (qL w+1))
def aGp(w:den tNw)(r eg:Int)(p:den tPk):den tNw:=
 if (aBl (nG w) p.2.2.2.2.2.2.2.1 r eg (aV w)).2.1&&D ((bS w).length<150) then
  (nT w,nK w,((aBl (nG w) p.2.2.2.2.2.2.2.1 r eg (aV w)).1,(aBl (nG w) p.2.2.2.2.2.2.2.1 r eg (aV w)).2.2.1,(aBl (nG w) p.2.2.2.2.2.2.2.1 r eg (aV w)).2.2.2),aV w,bC w,bS w++[((remote (nT w) r eg).1,(remote (nT w) r eg).2,p)],aG w,cQ w,qL w)
 else aKo w
structure aG9 (w:den tNw):Prop where
 as:(nT w).1.length<=549755813888
 links:(nT w).2.length<=68719476736
 dead:(bC w).length<=549755813888
 res:(nG w).2.1.length<=68719476736
 use:(nG w).2.2.length<=68719476736
 flowsN:(aG w).length<=68719476736
 flows:∀f∈aG w,tot tFl f<=68719476736
def bKg{w:den tNw}{r:Int}{v:den bFz}(h:aG9 w):pW w r v=U (aN (aGp w r v.2.1 v.2.2)):=by
 unfold pW aGp aK pj2 pj3 zz4 zz5 zz6 zz7 zz8 zz9;simp only[aD,cEm h.res h.use,aA,bB,cB,bL,bJ,bO];have key:∀n:Nat,D ((n:Int)>=150)= !D (n<150):=λn=>by rw[cNe];simp only[zR,cN3,decide_eq_false_iff_not];omega
 have h150:D ((w.2.2.2.2.2.1.length:Int)>=150)= !D ((bS w).length<150):=key _;rw[h150];cases ct:(aBl (nG w) v.2.2.2.2.2.2.2.2.2.1 r v.2.1 (aV w)).2.1
 .simp only[cMx,zZ,aA,cNc,cMr,zU];rfl
 .by_cases hl:(bS w).length<150
  .rw[zX hl];simp only[cMp,zY,aA,cN7,zV,aFk (t:=w.1) (cMo h.links (by decide)),aC (b:=128) (n:=w.2.2.2.2.2.1.length) (m:=1) (by decide) (show (bS w).length+1<=_ by omega),zZ];rfl
  .rw[zW hl];simp only[cMp,cMx,zZ,zY,aA,cNz,cMr,zU];rfl
def aB7(w:den tNw)(r inn:Int)(p:den tPk):den tNw:=
 if (bM (nT w) (aV w) (bC w) r inn p).1==0 then aGp w r (bM (nT w) (aV w) (bC w) r inn p).2.1 (bM (nT w) (aV w) (bC w) r inn p).2.2.1
 else if (bM (nT w) (aV w) (bC w) r inn p).1==1 then aFi w r (bM (nT w) (aV w) (bC w) r inn p).2.2.1
 else aKo w
structure aHj (p:den tPk):Prop where
 sz:tot tPk p<=68719476736
 by_:sI p
def aHj.step{p:den tPk}(h:aHj p)(t:den tTo)(now:Int)(dead:List Int)(r inn:Int):aHj (bM t now dead r inn p).2.2.1 where
 sz:=by unfold bM;rw[aPy];exact h.sz
 by_:=λx hx=>h.by_ x (by unfold bM at hx;rwa [(aK8 t r now _ inn p).2.2.2]at hx)
def bAu{w:den tNw}{r inn:Int}{p:den tPk}(h:aG9 w)(hp:aHj p)(hk:(p.1==1)=Y):gB w r inn p=U (aN (aB7 w r inn p)):=by
 have hp2:tot tPt p.2.2.2.1<=68719476736:=aPs hp.sz;have hs:=hp.step (nT w) (aV w) (bC w) r inn;unfold gB cC.b ixb aK eG pj2 pj3 pj4 aL aS bA bZ zz4 zz5 zz6 zz7 zz8 zz9;simp only[aD,bCi h.links h.dead,bPi h.as (cMo h.links (by decide)) (cMo hp.sz (by decide)) hp2,aA,bB,cB,bL,bJ,bO,hk];rw[show fwd w.1 r w.2.2.2.1 (yQ w.1 w.2.2.2.2.1 r) inn p=bM (nT w) (aV w) (bC w) r inn p from rfl];unfold aB7;generalize bM (nT w) (aV w) (bC w) r inn p=v at hs;simp only[fwI,aD];cases c0:v.1==0
 .cases c1:v.1==1
  .cases v.1==7
   .simp only[zY,aA,cMr,zU];rfl
   .simp only[zZ,zY,aA,cMr,zU];rfl
  .simp only[zZ,zY,aA,cMr,zU,zV,bBj h.flows h.flowsN hs.sz hs.by_]
 .simp only[zZ,zV,bKg h,aA]
def bF7:∀(k n:Nat),n<128 ^ (k+1)-> ∀x∈vi k n,0<=x/\x<=255
 | 0,n,h,x,hx=>by
  have :x=(n:Int):=by simpa [vi] using hx
  subst this;have :128 ^ (0+1)=128:=rfl;omega
 | k+1,n,h,x,hx=>by
  unfold vi at hx;split at hx
  .have :x=(n:Int):=by simpa using hx
   subst this;omega
  .rcases cMv.1 hx with rfl | hx
   .omega
   .refine bF7 k (n / 128) ?_ x hx;rw[Nat.div_lt_iff_lt_mul (by decide)]
    rwa [<- Nat.pow_succ]
def aE1(l:List Int):Prop:= ∀x∈l,0<=x/\x<=255
def bQa{b:List Int}{n:Int}(h:aE1 b):aE1 (aH0 b n):=by
 unfold aH0;split
 .rename_i hr;have :=bQ.1 hr;intro x hx;rcases cM3.1 hx with hx | hx
  .exact h x hx
  .exact bF7 5 n.toNat (by have :128 ^ (5+1)=4398046511104:=rfl;omega) x hx
 .exact h
def aZ9:∀(l b:List Int),aE1 b->aE1 (aRx b l)
 | [],b,h=>h
 | x::xs,b,h=>aZ9 xs (aH0 b x) (bQa h)
def aX5(x:den tRv):aE1 (aNa x):=by
 unfold aNa;split
 .exact aZ9 _ _ (λx hx=>by cases hx)
 .exact λx hx=>by cases hx
def bLc{r now d:Int}{p:den tPk}(h:tot tPk p<=34359738368):aHj (dC r now d p) where
 sz:=by have :=bC6 r now d p;omega
 by_:=aX5 _
def bAm{x:den tIb}{p:den tPk}(h:aHj p):aHj (xN x p) where
 sz:=cMo (bEr x p) h.sz
 by_:=by
  unfold xN;split
  .exact λx hx=>by cases hx
  .exact λx hx=>by cases hx
def bL5{l:lIb}{a b:Int}(h:l.length<=549755813888):qZ l a b=U (oA l a b):=by
 unfold qZ oA;rw[aM (l:=l) (λk x=>if yI a b x then U (k:Int) else W) (by omega) (λk x hi hd hw hm hk=>by
  simp only[hd,hi,hw,zZ,aA];unfold yI;cases x.1==a<;>cases x.2.1==b<;>rfl) (by simp),aS2 (yI a b)]
 cases l.findIdx? (yI a b)<;>rfl
def aXg(l:lIb)(a b:Int):oA l a b= -1\/ ∃(k:Nat) (x:den tIb),oA l a b=(k:Int)/\l[k]? =U x:=by
 unfold oA;cases h:l.findIdx? (yI a b) with
 | none=>exact .inl rfl
 | some i=>
  have hlt:i<l.length:=by
   have :=List.findIdx?_eq_some_iff_findIdx_eq.1 h;exact this.1
  exact .inr ⟨i,l[i],by simp,cMz hlt⟩
def aEz(w:den tNw)(i:Nat)(x:den tIb):den tNw:=(nT w,nK w,nG w,aV w,bC w,bS w,aG w,(cQ w).set i x,qL w)
def aHc(w:den tNw)(i:Nat):den tIb:=((cQ w)[i]?).getD (0,0,0,[])
def aN6(w:den tNw)(r:Int)(p:den tPk):den tNw:=
 if oA (cQ w) r p.2.1<0 then w
 else if aNg (iT (aHc w (oA (cQ w) r p.2.1).toNat) p) p then
  aB7 (aEz w (oA (cQ w) r p.2.1).toNat (iT (aHc w (oA (cQ w) r p.2.1).toNat) p)) r 0 (xN (iT (aHc w (oA (cQ w) r p.2.1).toNat) p) p)
 else aEz w (oA (cQ w) r p.2.1).toNat (iT (aHc w (oA (cQ w) r p.2.1).toNat) p)
def aQk(w:den tNw)(r d:Int)(p:den tPk):den tNw:=
 aKo (if (iA (yF p)).length>1 then aB7 w r 0 (dC r (aV w) d p) else aFi w r (dC r (aV w) d p))
def pO(w:den tNw)(r inn:Int)(p:den tPk):den tNw:=
 if (bM (nT w) (aV w) (bC w) r inn p).1==0 then aGp w r (bM (nT w) (aV w) (bC w) r inn p).2.1 (bM (nT w) (aV w) (bC w) r inn p).2.2.1
 else if (bM (nT w) (aV w) (bC w) r inn p).1==1 then
  (if p.1==1 then aN6 w r (bM (nT w) (aV w) (bC w) r inn p).2.2.1 else aFi w r (bM (nT w) (aV w) (bC w) r inn p).2.2.1)
 else if (bM (nT w) (aV w) (bC w) r inn p).1==7&&p.1==1 then aQk w r (bM (nT w) (aV w) (bC w) r inn p).2.2.2 p
 else aKo w
def aN3{w:den tNw}(h:aG9 w){i:Nat}{x:den tIb}:aG9 (aEz w i x):=⟨h.as,h.links,h.dead,h.res,h.use,h.flowsN,h.flows⟩
def aYo{x:den tIb}{p:den tPk}(h:aNg x p=X):((xN x p).1==1)=Y:=by
 unfold xN;rw[h];rfl
def bBa{w:den tNw}{r inn:Int}{p:den tPk}(h:aG9 w)(hbn:(cQ w).length<=549755813888)(hbx:∀x∈cQ w,tot tIb x<=68719476736)(hz:tot tPk p<=34359738368)(hb:sI p):cC w r inn p=U (aN (pO w r inn p)):=by
 have hp:aHj p:=⟨by omega,hb⟩
 have hp2:tot tPt p.2.2.2.1<=68719476736:=aPs hp.sz;have hs:=hp.step (nT w) (aV w) (bC w) r inn;have hkeep:=aK8 w.1 r w.2.2.2.1 (yQ w.1 w.2.2.2.2.1 r) inn p;unfold cC cC.b ixb aK eG pj2 pj3 pj4 aL aS bA bZ zz4 zz5 zz6 zz7 zz8 zz9;simp only[aD,bCi h.links h.dead,bPi h.as (cMo h.links (by decide)) (cMo hp.sz (by decide)) hp2,aA,bB,cB,bL,bJ,bO];rw[show fwd w.1 r w.2.2.2.1 (yQ w.1 w.2.2.2.2.1 r) inn p=bM (nT w) (aV w) (bC w) r inn p from rfl]at hkeep ⊢;unfold pO;generalize bM (nT w) (aV w) (bC w) r inn p=v at hs hkeep;simp only[fwI,aD];cases c0:v.1==0
 .cases c1:v.1==1
  .cases c7:v.1==7
   .simp only[zY,aA,cMr,zU,cNc];rfl
   .cases ck:p.1==1
    .simp only[zZ,zY,aA,cMr,zU,cNz];rfl
    .have hn:aHj (dC r (aV w) v.2.2.2 p):=bLc hz;have ht1:tot tPt (yF p)<=274877906944:=cMo (aI2 p) (cMo hp2 (by decide));have hlen:D (((iA (yF p)).length:Int)>1)=D ((iA (yF p)).length>1):=by rw[cNe];simp only[zR,gt_iff_lt];omega
     have e1:gB w r 0 ((pkR (dC r w.2.2.2.1 v.2.2.2 p)).1,(pkR (dC r w.2.2.2.1 v.2.2.2 p)).2.1,(pkR (dC r w.2.2.2.1 v.2.2.2 p)).2.2.1,(pkR (dC r w.2.2.2.1 v.2.2.2 p)).2.2.2.2.2.2.2.2.1,(pkR (dC r w.2.2.2.1 v.2.2.2 p)).2.2.2.1,(pkR (dC r w.2.2.2.1 v.2.2.2 p)).2.2.2.2.1,(pkR (dC r w.2.2.2.1 v.2.2.2 p)).2.2.2.2.2.1,(pkR (dC r w.2.2.2.1 v.2.2.2 p)).2.2.2.2.2.2.1,(pkR (dC r w.2.2.2.1 v.2.2.2 p)).2.2.2.2.2.2.2.1,(pkR (dC r w.2.2.2.1 v.2.2.2 p)).2.2.2.2.2.2.2.2.2)=U (aN (aB7 w r 0 (dC r (aV w) v.2.2.2 p))):=bAu h hn rfl;have e2:kC w r ((pkR (dC r w.2.2.2.1 v.2.2.2 p)).1,(pkR (dC r w.2.2.2.1 v.2.2.2 p)).2.1,(pkR (dC r w.2.2.2.1 v.2.2.2 p)).2.2.1,(pkR (dC r w.2.2.2.1 v.2.2.2 p)).2.2.2.2.2.2.2.2.1,(pkR (dC r w.2.2.2.1 v.2.2.2 p)).2.2.2.1,(pkR (dC r w.2.2.2.1 v.2.2.2 p)).2.2.2.2.1,(pkR (dC r w.2.2.2.1 v.2.2.2 p)).2.2.2.2.2.1,(pkR (dC r w.2.2.2.1 v.2.2.2 p)).2.2.2.2.2.2.1,(pkR (dC r w.2.2.2.1 v.2.2.2 p)).2.2.2.2.2.2.2.1,(pkR (dC r w.2.2.2.1 v.2.2.2 p)).2.2.2.2.2.2.2.2.2)=U (aN (aFi w r (dC r (aV w) v.2.2.2 p))):=bBj h.flows h.flowsN hn.sz hn.by_;simp only[zZ,zY,aA,cMr,zU,cN7,zV,cD6 (t:=w.1) (r:=r) (now:=w.2.2.2.1) (d:=v.2.2.2) (cMo hp.sz (by decide)),bGc (iR (p:=p) (by omega)),bB,cB,bL,bJ,bO];unfold mN;simp only[aMe ht1,aA,hlen,e1,e2];unfold aQk;cases hd:D ((iA (yF p)).length>1)
     .rw[zS (of_decide_eq_false hd)];rfl
     .rw[zT (of_decide_eq_true hd)];rfl
  .cases ck:p.1==1
   .simp only[zZ,zY,aA,cMr,zU,zV,bBj h.flows h.flowsN hs.sz hs.by_]
   .simp only[zZ,zY,aA,cMr,zU,zV,bL5 hbn];unfold aN6;rw[hkeep.2.1];rcases aXg (cQ w) r p.2.1 with hf | ⟨k,x,hf,hx⟩
    .rw[show oA w.2.2.2.2.2.2.2.1 r p.2.1= -1 from hf];rfl
    .have hlt:=(cM0.1 hx).1;have hx0:w.2.2.2.2.2.2.2.1[k]? =U x:=hx;have hxm:=hbx x (cMw hx);have hxs:SmB 137438953472 tIb x:=(bG hxm).mono (by decide);have hvs:SmB 137438953472 tPk v.2.2.1:=(bG hs.sz).mono (by decide);have hd1:D ((k:Int)<(w.2.2.2.2.2.2.2.1.length:Int))=X:=zX (by have :k<w.2.2.2.2.2.2.2.1.length:=hlt;omega);have hd2:D (k<w.2.2.2.2.2.2.2.1.length)=X:=zX hlt;have hset:(w.2.2.2.2.2.2.2.1.set k (iT x v.2.2.1))[k]? =U (iT x v.2.2.1):=List.getElem?_set_self hlt;have hba:aHc w k=x:=by unfold aHc;rw[hx];rfl
     rw[show oA w.2.2.2.2.2.2.2.1 r p.2.1=(k:Int) from hf,zW (show ¬ (k:Int)<0 by omega),zS (show ¬ (k:Int)<0 by omega),cMt,hba];have e1:gB (w.1,w.2.1,w.2.2.1,w.2.2.2.1,w.2.2.2.2.1,w.2.2.2.2.2.1,w.2.2.2.2.2.2.1,w.2.2.2.2.2.2.2.1.set k (iT x v.2.2.1),w.2.2.2.2.2.2.2.2) r 0 (xN (iT x v.2.2.1) v.2.2.1)=U (aN (aB7 (aEz w k (iT x v.2.2.1)) r 0 (xN (iT x v.2.2.1) v.2.2.1))):=by
      cases ca:aNg (iT x v.2.2.1) v.2.2.1 with
      | true=>exact bAu (aN3 h) (bAm hs) (aYo ca)
      | false=>exact bAu (aN3 h) (bAm hs) (by unfold xN;rw[ca];rfl)
     simp only[zY,bF,hd1,hd2,zZ,hx0,aA,cD3 hxs hvs,cOv,hset,cEp (x:=iT x v.2.2.1) (p:=v.2.2.1) (cMo (aPs hs.sz) (by decide)),bB,cB,bL,bJ,bO,pkB,aD,e1];cases aNg (iT x v.2.2.1) v.2.2.1<;>rfl
 .simp only[zZ,zV,bKg h,aA]
def aGm(p q:den tPk):Prop:=p.2.2.2.1=q.2.2.2.1/\p.2.2.2.2.1=q.2.2.2.2.1/\p.2.2.2.2.2.1=q.2.2.2.2.2.1
def aGm.cur{p q:den tPk}(h:aGm p q):dP p=dP q/\fP p=fP q/\dB p=dB q/\fK p=fK q/\jH p=jH q/\nZ p=nZ q:=by
 obtain⟨h1,h2,h3⟩:=h;have a1:dP p=dP q:=by unfold dP;rw[h1,h2,h3]
 have a2:fP p=fP q:=by unfold fP;rw[a1,h1,h2,h3]
 have a3:dB p=dB q:=by unfold dB;rw[h1,h2]
 have a4:fK p=fK q:=by unfold fK;rw[a3,h3]
 have a5:jH p=jH q:=by unfold jH;rw[a3,h3]
 exact⟨a1,a2,a3,a4,a5,by unfold nZ aNj;rw[a2,a5,h1,h2]⟩
def aGm.adv{p q:den tPk}(h:aGm p q):aGm (adv p) (adv q):=by
 obtain⟨a1,a2,a3,a4,a5,a6⟩:=h.cur;obtain⟨h1,h2,h3⟩:=id h;unfold Go.Proofs.YtjpmmodjpaabpaaGreat.adv;rw[a2,a5,a6];split
 .exact h
 .split
  .exact⟨h1,by show p.2.2.2.2.1+1=q.2.2.2.2.1+1;rw[h2],rfl⟩
  .exact⟨h1,h2,by show p.2.2.2.2.2.1+1=q.2.2.2.2.2.1+1;rw[h3]⟩
def aG5(t:den tTo)(p:den tPk):aGm (bV t p) p:=by
 obtain⟨b,hb⟩:=aO4 t p;rw[hb];exact⟨rfl,rfl,rfl⟩
def aGm.trans{p q r:den tPk}(h:aGm p q)(k:aGm q r):aGm p r:=⟨h.1.trans k.1,h.2.1.trans k.2.1,h.2.2.trans k.2.2⟩
def bEp{t:den tTo}{now:Int}{n:Nat}{p:den tPk}(h:(goC t now n p).1=0):eF t now p=0:=by
 cases n with
 | zero=>exact h
 | succ n=>
  unfold goC at h;split at h
  .rename_i hc;rw[cMu]at hc;simpa using hc.1
  .exact h
def bUo{t:den tTo}{now:Int}{step:den tPk->Option (den tPk⊕den tPk)}
  (H:∀q,tot tPk q<=274877906944->dP q=X->step q=U (if jH q&&D (q.2.2.2.2.1<(q.2.2.2.1.length:Int) - 1) then .inl (adv q) else .inr q)):
  ∀(n:Nat) (p q:den tPk),aGm p q->tot tPk q<=274877906944->(goC t now n p).1=0->p.2.2.2.1.length - p.2.2.2.2.1.toNat<=n-> ∃r,aB step q=U r/\aGm (goC t now n p).2 r/\tot tPk r<=274877906944:=by
 intro n
 induction n with
 | zero=>
  intro p q hs hq hc hm;obtain⟨hh,h0⟩:=aJw (bEp hc);obtain⟨i,j,h1,h2,h3,h4,h5⟩:=qF hh;have hlt:=(cM0.1 h3).1;rw[h1,cMt]at hm;exact absurd hlt (by omega)
 | succ n ih=>
  intro p q hs hq hc hm;have hz:=bEp hc;obtain⟨hh,h0⟩:=aJw hz;obtain⟨a1,a2,a3,a4,a5,a6⟩:=hs.cur;obtain⟨b1,b2,b3,b4,b5,b6⟩:=(aG5 t p).cur;have hstep:=H q hq (a1▸hh);rw[bG1 (a1▸hh) (a2▸h0)]at hstep;cases hb:jH q&& !nZ q with
  | false=>
   rw[hb]at hstep;have hg:goC t now (n+1) p=(eF t now p,bV t p):=by
    show (if _ then _ else _)=_;rw[b5,b6,a5,a6,hb,cNz];rfl
   rw[hg];exact⟨q,aI hstep,(aG5 t p).trans hs,hq⟩
  | true=>
   rw[hb,zT rfl]at hstep;have hg:goC t now (n+1) p=goC t now n (adv (bV t p)):=by
    show (if _ then _ else _)=_;rw[b5,b6,a5,a6,hb,hz];rfl
   rw[hg]at hc ⊢;rw[aP hstep];obtain⟨e1,e2⟩:=bGj (p:=bV t p) (by rw[b2];exact h0) (by rw[b5,b6,a5,a6];exact hb);obtain⟨i,j,h1,h2,h3,h4,h5⟩:=qF hh;refine ih _ _ ((aG5 t p).trans hs).adv (by rw[aMr];exact hq) hc ?_;rw[e1,e2,(aG5 t p).1,(aG5 t p).2.1,h1];rw[h1,cMt]at hm;have :((i:Int)+1).toNat=i+1:=by omega
   rw[this];omega
def bNh(t:den tTo)(now:Int)(p:den tPk):Int:=pEg (dB (cU t now p).2) (fK (cU t now p).2)
def cF3{t:den tTo}{now:Int}{p:den tPk}(h:tot tPk p<=274877906944)(hz:(cU t now p).1=0):aAi p=U (bNh t now p):=by
 unfold aAi aK pj4 zz4 zz5 zz6 zz7 zz8 zz9;obtain⟨r,hr,hs,ht⟩:=bUo (t:=t) (now:=now) (step:=λs5=> @Option.bind Bool _ (Option.bind (idx s5.2.2.2.1 s5.2.2.2.2.1) λx6=>cond (s5.2.2.2.2.2.1==(wr ((x6.2.2.2.length:Int) - (1:Int)))) (U (D (s5.2.2.2.2.1<(wr ((s5.2.2.2.1.length:Int) - (1:Int)))))) (U Y)) λ(s7:Bool)=>cond s7 (Option.bind (kI (s5.1,s5.2.1,s5.2.2.1,s5.2.2.2.1,s5.2.2.2.2.1,s5.2.2.2.2.2.1,s5.2.2.2.2.2.2.1,s5.2.2.2.2.2.2.2.1,s5.2.2.2.2.2.2.2.2.1,s5.2.2.2.2.2.2.2.2.2)) λy8=>U (cMn (y8.1,y8.2.1,y8.2.2.1,y8.2.2.2.2.2.2.2.2.1,y8.2.2.2.1,y8.2.2.2.2.1,y8.2.2.2.2.2.1,y8.2.2.2.2.2.2.1,y8.2.2.2.2.2.2.2.1,y8.2.2.2.2.2.2.2.2.2))) (U (cMm (s5.1,s5.2.1,s5.2.2.1,s5.2.2.2.1,s5.2.2.2.2.1,s5.2.2.2.2.2.1,s5.2.2.2.2.2.2.1,s5.2.2.2.2.2.2.2.1,s5.2.2.2.2.2.2.2.2.1,s5.2.2.2.2.2.2.2.2.2)))) (λq hq hh=>by
   obtain⟨i,j,k1,k2,k3,k4,k5⟩:=qF hh;have l1:cMy q.2.2.2.1<=549755813888:=(iR hq).2.2.2.1.1;have hp1:idx q.2.2.2.1 q.2.2.2.2.1=U (dB q):=by rw[k1,aR];exact k3
   simp only[hp1,aA,dN (aF5 (iR hq) k3),dN l1,aD,bPq (iR hq)];unfold jH;cases q.2.2.2.2.2.1==((dB q).2.2.2.length:Int) - 1<;>cases D (q.2.2.2.2.1<(q.2.2.2.1.length:Int) - 1)<;>rfl) _ p p ⟨rfl,rfl,rfl⟩ h hz (cM5 _)
 have hs:aGm (cU t now p).2 r:=hs;have hr':aB _ (p.1,p.2.1,p.2.2.1,p.2.2.2.1,p.2.2.2.2.1,p.2.2.2.2.2.1,p.2.2.2.2.2.2.1,p.2.2.2.2.2.2.2.1,p.2.2.2.2.2.2.2.2.1,p.2.2.2.2.2.2.2.2.2)=U r:=hr;rw[hr',aA];obtain⟨a1,a2,a3,a4,a5,a6⟩:=hs.cur;obtain⟨g1,g2,g3⟩:=aPr _ p hz;have g1:dP r=X:=a1▸g1;obtain⟨i,j,k1,k2,k3,k4,k5⟩:=qF g1;have hp1:idx r.2.2.2.1 r.2.2.2.2.1=U (dB r):=by rw[k1,aR];exact k3
 have hp2:fE (dB r) r.2.2.2.2.2.1=U (pEg (dB r) (fK r)):=by rw[k2];exact bE8 k4 (aF5 (iR ht) k3)
 rw[hp1,aA];simp only[aD,hp2,aA];unfold bNh;rw[a3,a4]
def bTt{t:den tTo}{now:Int}:∀(n:Nat) (p:den tPk),(goC t now n p).1<=5
 | 0,p=>by
  show eF t now p<=5;unfold eF
  repeat' split
  all_goals decide
 | n+1,p=>by
  unfold goC;split
  .exact bTt n _
  .show eF t now p<=5;unfold eF
   repeat' split
   all_goals decide
def bS3{t:den tTo}{r now dead inn:Int}{p:den tPk}(h:(fwd t r now dead inn p).1=7):(cU t now p).1=0/\(fwd t r now dead inn p).2.2.2=bNh t now p:=by
 have hg:(cU t now p).1<=5:=bTt _ p;unfold fwd at h|-;split at h
 .cases h
 .rename_i c1;rw[zS c1];split at h
  .cases h
  .rename_i c2;rw[zS c2];split at h
   .simp only at h;omega
   .rename_i c3;rw[zS c3];refine⟨by simpa using c3,?_⟩;split at h
    .split at h<;>cases h
    .rename_i c4;rw[zS c4];split at h
     .cases h
     .rename_i c5;rw[zS c5];split at h
      .rename_i c6;rw[zT c6];rfl
      .cases h
def kinds{p:den tPk}(h:sH p=X)(h1:(p.1==1)=Y)(h2:(p.1==2)=Y):(p.1==3)=X:=by
 unfold sH at h;rw[cMu]at h;have hr:=bQ.1 h.1;have h1: ¬ p.1=(1:Int):=by simpa using h1
 have h2: ¬ p.1=(2:Int):=by simpa using h2
 have key:∀c:Int,1<=c->c<=3-> ¬ c=1-> ¬ c=2->c=3:=by intro c;omega
 have :p.1=(3:Int):=key p.1 hr.1 hr.2 h1 h2;rw[this];rfl
def cEk{w:den tNw}{r:Int}{p:den tPk}(h:aG9 w)(hp:aHj p)(hk:(p.1==1)=Y)(hv:(p.1==2)=Y->(p.1==3)=X):zF w r p=U (aN (aFi w r p)):=by
 unfold zF nH.b ixb aK eG pj2 pj3 pj4 pj9 aL aS zz4 zz5 zz6 zz7 zz8 zz9;rw[hk,zY];cases h2:p.1==2 with
 | true=>
  rw[zZ];refine bUj (w:=w) (r:=r) (p:=p) h2 h.flows h.flowsN (λk f a ha hx hm hk'=> ?_) (λa ha=> ?_)
  .obtain⟨d1,d2⟩:=aU3 ha hk';have hw:wr ((k:Int)+1)=((k+1:Nat):Int):=(wri (by have :=h.flowsN;omega) (by have :=h.flowsN;omega)).trans (by omega);simp only[d1,d2,bF,cMt,hx,zZ,aA,aD,bK7 (bCl (h.flows f hm)),bB,cB,bL,bJ,bO,hw];unfold aEk;rw[h2];cases f.1==r
   .simp only[zY,cMr,zU,aA,aRn hx]
   .simp only[zZ,zV,aA];rfl
  .show cond (D ((((aG w).length:Nat):Int)<(a.length:Int))) _ _=_;rw[ha,zW (by omega)];rfl
 | false=>
  rw[zY,hv h2,zZ];simp only[aD,bB4 h2 h.flows h.flowsN hp.sz hp.by_,aA]
def cIp{w:den tNw}{r:Int}{p:den tPk}(h:aG9 w)(hp:aHj p)(hk:(p.1==1)=Y)(hv:(p.1==2)=Y->(p.1==3)=X):nH w r p=U (aN (aFi w r p)):=by
 unfold nH nH.b ixb aK eG pj2 pj3 pj4 pj9 aL aS zz4 zz5 zz6 zz7 zz8 zz9;rw[hk,zY];cases h2:p.1==2 with
 | true=>
  rw[zZ];refine bUj (w:=w) (r:=r) (p:=p) h2 h.flows h.flowsN (λk f a ha hx hm hk'=> ?_) (λa ha=> ?_)
  .obtain⟨d1,d2⟩:=aU3 ha hk';have hw:wr ((k:Int)+1)=((k+1:Nat):Int):=(wri (by have :=h.flowsN;omega) (by have :=h.flowsN;omega)).trans (by omega);simp only[d1,d2,bF,cMt,hx,zZ,aA,aD,bK7 (bCl (h.flows f hm)),bB,cB,bL,bJ,bO,hw];unfold aEk;rw[h2];cases f.1==r
   .simp only[zY,cMr,zU,aA,aRn hx]
   .simp only[zZ,zV,aA];rfl
  .show cond (D ((((aG w).length:Nat):Int)<(a.length:Int))) _ _=_;rw[ha,zW (by omega)];rfl
 | false=>
  rw[zY,hv h2,zZ];simp only[aD,bB4 h2 h.flows h.flowsN hp.sz hp.by_,aA]
def bCv{w:den tNw}{r inn:Int}{p:den tPk}(h:aG9 w)(hp:aHj p)(hk:(p.1==1)=Y):jW w r inn p=U (aN (aB7 w r inn p)):=by
 have hp2:tot tPt p.2.2.2.1<=68719476736:=aPs hp.sz;have hs:=hp.step (nT w) (aV w) (bC w) r inn;have hkeep:=aK8 w.1 r w.2.2.2.1 (yQ w.1 w.2.2.2.2.1 r) inn p;have hval:=aTr (t:=w.1) (r:=r) (now:=w.2.2.2.1) (dead:=yQ w.1 w.2.2.2.2.1 r) (inn:=inn) (p:=p);unfold jW fQ.b aK aEf eG pj2 pj3 aL aS bA bZ zz4 zz5 zz6 zz7 zz8 zz9;simp only[aD,bBy h.links h.dead,bQx h.as (cMo h.links (by decide)) (cMo hp.sz (by decide)) hp2,aA,bB,cB,bL,bJ,bO,hk];rw[show fwd w.1 r w.2.2.2.1 (yQ w.1 w.2.2.2.2.1 r) inn p=bM (nT w) (aV w) (bC w) r inn p from rfl]at hkeep hval ⊢;unfold aB7;generalize bM (nT w) (aV w) (bC w) r inn p=v at hs hkeep hval;have hback:(((fwS v).2.2.1,(fwS v).2.2.2.1,(fwS v).2.2.2.2.1,(fwS v).2.2.2.2.2.2.2.2.2.2.1,(fwS v).2.2.2.2.2.1,(fwS v).2.2.2.2.2.2.1,(fwS v).2.2.2.2.2.2.2.1,(fwS v).2.2.2.2.2.2.2.2.1,(fwS v).2.2.2.2.2.2.2.2.2.1,(fwS v).2.2.2.2.2.2.2.2.2.2.2):den tPk)=v.2.2.1:=rfl;rw[show (fwS v).1=v.1 from rfl,show (fwS v).2.1=v.2.1 from rfl];cases c1:v.1==1
 .cases c0:v.1==0
  .cases c7:v.1==7
   .simp only[zY,aA,cMr,zU,cN4];rfl
   .simp only[zZ,zY,aA,cMr,zU,cN4];rfl
  .unfold aGp;rw[hkeep.2.2.1];simp only[zZ,zY,zV,aEn (t:=w.1) (cMo h.links (by decide)),bKl h.res h.use,aA];cases ct:(aBl w.2.2.1 p.2.2.2.2.2.2.2.1 r v.2.1 w.2.2.2.1).2.1
   .simp only[zY,aA,cNc,cMr,zU,cN4];rfl
   .by_cases hl:(bS w).length<150
    .have h150:D ((w.2.2.2.2.2.1.length:Int)<150)=X:=zX (by have :w.2.2.2.2.2.1.length<150:=hl;omega);rw[zX hl];simp only[zZ,aA,h150,cN7,zV,aC (b:=128) (n:=w.2.2.2.2.2.1.length) (m:=1) (by decide) (show (bS w).length+1<=_ by omega),cPe];rfl
    .have h150:D ((w.2.2.2.2.2.1.length:Int)<150)=Y:=zW (by have : ¬ w.2.2.2.2.2.1.length<150:=hl;omega);rw[zW hl];simp only[zZ,zY,aA,h150,cNz,cMr,zU,cN4];rfl
 .have c0:(v.1==0)=Y:=by
   have :v.1=1:=by simpa using c1
   rw[this];rfl
  have hv:sH p=X:=hval (by rw[show v.1=1 from by simpa using c1];rfl);have hq1:(v.2.2.1.1==1)=Y:=by rw[hkeep.1];exact hk
  have hq2:(v.2.2.1.1==2)=Y->(v.2.2.1.1==3)=X:=by rw[hkeep.1];exact kinds hv hk
  rw[hback,cEk h hs hq1 hq2];simp only[c0,zZ,aA,cMr,zU,zV,cPe]
def cIk{w:den tNw}{r:Int}{p:den tPk}(h:aG9 w)(hbn:(cQ w).length<=549755813888)(hbx:∀x∈cQ w,tot tIb x<=68719476736)(hp:aHj p)(hk:(p.1==1)=X):nH w r p=U (aN (aN6 w r p)):=by
 unfold nH nH.b aN6 ixb aK eG pj2 pj3 pj4 pj9 aL aS zz4 zz5 zz6 zz7 zz8 zz9;simp only[hk,zZ,bAt hbn,aA];rcases aXg (cQ w) r p.2.1 with hf | ⟨k,x,hf,hx⟩
 .rw[show oA w.2.2.2.2.2.2.2.1 r p.2.1= -1 from hf];rfl
 .have hlt:=(cM0.1 hx).1;have hx0:w.2.2.2.2.2.2.2.1[k]? =U x:=hx;have hxm:=hbx x (cMw hx);have hxs:SmB 137438953472 tIb x:=(bG hxm).mono (by decide);have hvs:SmB 137438953472 tPk p:=(bG hp.sz).mono (by decide);have hd1:D ((k:Int)<(w.2.2.2.2.2.2.2.1.length:Int))=X:=zX (by have :k<w.2.2.2.2.2.2.2.1.length:=hlt;omega);have hd2:D (k<w.2.2.2.2.2.2.2.1.length)=X:=zX hlt;have hba:aHc w k=x:=by unfold aHc;rw[hx];rfl
  rw[show oA w.2.2.2.2.2.2.2.1 r p.2.1=(k:Int) from hf,zW (show ¬ (k:Int)<0 by omega),zS (show ¬ (k:Int)<0 by omega),cMt,hba];have e1:jW (w.1,w.2.1,w.2.2.1,w.2.2.2.1,w.2.2.2.2.1,w.2.2.2.2.2.1,w.2.2.2.2.2.2.1,w.2.2.2.2.2.2.2.1.set k (iT x p),w.2.2.2.2.2.2.2.2) r 0 (xN (iT x p) p)=U (aN (aB7 (aEz w k (iT x p)) r 0 (xN (iT x p) p))):=by
   cases ca:aNg (iT x p) p with
   | true=>exact bCv (aN3 h) (bAm hp) (aYo ca)
   | false=>exact bCv (aN3 h) (bAm hp) (by unfold xN;rw[ca];rfl)
  simp only[zY,bF,hd1,hd2,zZ,hx0,aA,aD,cD5 hxs hvs,cDl (x:=iT x p) (p:=p) (cMo (aPs hp.sz) (by decide)),bB,cB,bL,bJ,bO,pkB,e1];cases aNg (iT x p) p<;>rfl
def bCp{w:den tNw}{r inn:Int}{p:den tPk}(h:aG9 w)(hbn:(cQ w).length<=549755813888)(hbx:∀x∈cQ w,tot tIb x<=68719476736)(hz:tot tPk p<=34359738368)(hb:sI p):fQ w r inn p=U (aN (pO w r inn p)):=by
 have hp:aHj p:=⟨by omega,hb⟩
 have hp2:tot tPt p.2.2.2.1<=68719476736:=aPs hp.sz;have hs:=hp.step (nT w) (aV w) (bC w) r inn;have hkeep:=aK8 w.1 r w.2.2.2.1 (yQ w.1 w.2.2.2.2.1 r) inn p;have hval:=aTr (t:=w.1) (r:=r) (now:=w.2.2.2.1) (dead:=yQ w.1 w.2.2.2.2.1 r) (inn:=inn) (p:=p);have hsev:=bS3 (t:=w.1) (r:=r) (now:=w.2.2.2.1) (dead:=yQ w.1 w.2.2.2.2.1 r) (inn:=inn) (p:=p);unfold fQ fQ.b aK aEf eG pj2 pj3 aL aS bA bZ zz4 zz5 zz6 zz7 zz8 zz9;simp only[aD,bBy h.links h.dead,bQx h.as (cMo h.links (by decide)) (cMo hp.sz (by decide)) hp2,aA,bB,cB,bL,bJ,bO];rw[show fwd w.1 r w.2.2.2.1 (yQ w.1 w.2.2.2.2.1 r) inn p=bM (nT w) (aV w) (bC w) r inn p from rfl]at hkeep hval hsev ⊢;unfold pO;generalize bM (nT w) (aV w) (bC w) r inn p=v at hs hkeep hval hsev;have hback:(((fwS v).2.2.1,(fwS v).2.2.2.1,(fwS v).2.2.2.2.1,(fwS v).2.2.2.2.2.2.2.2.2.2.1,(fwS v).2.2.2.2.2.1,(fwS v).2.2.2.2.2.2.1,(fwS v).2.2.2.2.2.2.2.1,(fwS v).2.2.2.2.2.2.2.2.1,(fwS v).2.2.2.2.2.2.2.2.2.1,(fwS v).2.2.2.2.2.2.2.2.2.2.2):den tPk)=v.2.2.1:=rfl;rw[show (fwS v).1=v.1 from rfl,show (fwS v).2.1=v.2.1 from rfl];cases c1:v.1==1
 .cases c0:v.1==0
  .cases c7:v.1==7
   .simp only[zY,aA,cMr,zU,cN4,cNc];rfl
   .cases ck:p.1==1
    .simp only[zZ,zY,aA,cMr,zU,cN4,cNz];rfl
    .obtain⟨hz0,hd0⟩:=hsev (by simpa using c7);have hn:aHj (dC r (aV w) v.2.2.2 p):=bLc hz;have ht1:tot tPt (yF p)<=274877906944:=cMo (aI2 p) (cMo hp2 (by decide));have hlen:D (((iA (yF p)).length:Int)>1)=D ((iA (yF p)).length>1):=by rw[cNe];simp only[zR,gt_iff_lt];omega
     have e1:jW w r 0 ((pkR (dC r w.2.2.2.1 v.2.2.2 p)).1,(pkR (dC r w.2.2.2.1 v.2.2.2 p)).2.1,(pkR (dC r w.2.2.2.1 v.2.2.2 p)).2.2.1,(pkR (dC r w.2.2.2.1 v.2.2.2 p)).2.2.2.2.2.2.2.2.1,(pkR (dC r w.2.2.2.1 v.2.2.2 p)).2.2.2.1,(pkR (dC r w.2.2.2.1 v.2.2.2 p)).2.2.2.2.1,(pkR (dC r w.2.2.2.1 v.2.2.2 p)).2.2.2.2.2.1,(pkR (dC r w.2.2.2.1 v.2.2.2 p)).2.2.2.2.2.2.1,(pkR (dC r w.2.2.2.1 v.2.2.2 p)).2.2.2.2.2.2.2.1,(pkR (dC r w.2.2.2.1 v.2.2.2 p)).2.2.2.2.2.2.2.2.2)=U (aN (aB7 w r 0 (dC r (aV w) v.2.2.2 p))):=bCv h hn rfl;have e2:sJ w r ((pkR (dC r w.2.2.2.1 v.2.2.2 p)).1,(pkR (dC r w.2.2.2.1 v.2.2.2 p)).2.1,(pkR (dC r w.2.2.2.1 v.2.2.2 p)).2.2.1,(pkR (dC r w.2.2.2.1 v.2.2.2 p)).2.2.2.2.2.2.2.2.1,(pkR (dC r w.2.2.2.1 v.2.2.2 p)).2.2.2.1,(pkR (dC r w.2.2.2.1 v.2.2.2 p)).2.2.2.2.1,(pkR (dC r w.2.2.2.1 v.2.2.2 p)).2.2.2.2.2.1,(pkR (dC r w.2.2.2.1 v.2.2.2 p)).2.2.2.2.2.2.1,(pkR (dC r w.2.2.2.1 v.2.2.2 p)).2.2.2.2.2.2.2.1,(pkR (dC r w.2.2.2.1 v.2.2.2 p)).2.2.2.2.2.2.2.2.2)=U (aN (aFi w r (dC r (aV w) v.2.2.2 p))):=bB4 rfl h.flows h.flowsN hn.sz hn.by_;simp only[zZ,zY,aA,cMr,zU,cN7,zV,cF3 (t:=w.1) (now:=w.2.2.2.1) (p:=p) (cMo hp.sz (by decide)) hz0,<- hd0,cDt (t:=w.1) (r:=r) (now:=w.2.2.2.1) (d:=v.2.2.2) (cMo hp.sz (by decide)),bGs (iR (p:=p) (by omega)),bB,cB,bL,bJ,bO,aMw ht1,hlen,e1,e2];unfold aQk;cases hd:D ((iA (yF p)).length>1)
     .rw[zS (of_decide_eq_false hd)];rfl
     .rw[zT (of_decide_eq_true hd)];rfl
  .unfold aGp;rw[hkeep.2.2.1];simp only[zZ,zY,zV,aEn (t:=w.1) (cMo h.links (by decide)),bKl h.res h.use,aA];cases ct:(aBl w.2.2.1 p.2.2.2.2.2.2.2.1 r v.2.1 w.2.2.2.1).2.1
   .simp only[zY,aA,cNc,cMr,zU,cN4];rfl
   .by_cases hl:(bS w).length<150
    .have h150:D ((w.2.2.2.2.2.1.length:Int)<150)=X:=zX (by have :w.2.2.2.2.2.1.length<150:=hl;omega);rw[zX hl];simp only[zZ,aA,h150,cN7,zV,aC (b:=128) (n:=w.2.2.2.2.2.1.length) (m:=1) (by decide) (show (bS w).length+1<=_ by omega),cPe];rfl
    .have h150:D ((w.2.2.2.2.2.1.length:Int)<150)=Y:=zW (by have : ¬ w.2.2.2.2.2.1.length<150:=hl;omega);rw[zW hl];simp only[zZ,zY,aA,h150,cNz,cMr,zU,cN4];rfl
 .have c0:(v.1==0)=Y:=by
   have :v.1=1:=by simpa using c1
   rw[this];rfl
  have hv:sH p=X:=hval (by rw[show v.1=1 from by simpa using c1];rfl);rw[hback];cases ck:p.1==1 with
  | true=>
   rw[cIk h hbn hbx hs (by rw[hkeep.1];exact ck)];simp only[c0,zZ,aA,cMr,zU,zV,cPe]
  | false=>
   have hq1:(v.2.2.1.1==1)=Y:=by rw[hkeep.1];exact ck
   have hq2:(v.2.2.1.1==2)=Y->(v.2.2.1.1==3)=X:=by rw[hkeep.1];exact kinds hv ck
   rw[cIp h hs hq1 hq2];simp only[c0,zZ,aA,cMr,zU,zV,cPe]
def dX(w:den tNw):tot tNw w=(tot (.sl tAS) (nT w).1+tot (.sl tLk) (nT w).2)+((tot (.sl tSg) (nK w).1+tot (.sl tSg) (nK w).2)+((0+(tot (.sl tRs) (nG w).2.1+tot (.sl tUs) (nG w).2.2))+(0+(tot (.sl ti) (bC w)+(tot (.sl tFy) (bS w)+(tot (.sl tFl) (aG w)+(tot (.sl tIb) (cQ w)+0))))))):=rfl
def aN0{w:den tNw}(h:tot tNw w<=68719476736):aG9 w where
 as:=by have :=dX w;have :=cO (t:=tAS) (nT w).1;omega
 links:=by have :=dX w;have :=cO (t:=tLk) (nT w).2;omega
 dead:=by have :=dX w;have :=cO (t:=ti) (bC w);omega
 res:=by have :=dX w;have :=cO (t:=tRs) (nG w).2.1;omega
 use:=by have :=dX w;have :=cO (t:=tUs) (nG w).2.2;omega
 flowsN:=by have :=dX w;have :=cO (t:=tFl) (aG w);omega
 flows:=λf hf=>by have :=dX w;have :=kA (t:=tFl) hf;omega
def cJl{w:den tNw}(h:tot tNw w<=68719476736):(cQ w).length<=549755813888/\ ∀x∈cQ w,tot tIb x<=68719476736:=
 ⟨by have :=dX w;have :=cO (t:=tIb) (cQ w);omega,λx hx=>by have :=dX w;have :=kA (t:=tIb) hx;omega⟩
def aK3(w:den tNw):tot tNw (aKo w)=tot tNw w:=rfl
def bLm(l:lUs):tot (.sl tUs) l=l.length:=qS rfl
def bTv(g:den tSc)(id s d now:Int):tot (.sl tRs) (aBl g id s d now).2.2.1=tot (.sl tRs) g.2.1/\tot (.sl tUs) (aBl g id s d now).2.2.2<=tot (.sl tUs) g.2.2+1:=by
 have m1:=bEo g.2.2 id s d;have m2:=bEo g.2.2 0 s d;rw[bLm,bLm];unfold aBl;split
 .exact⟨rfl,by simpa using m1⟩
 .split
  .exact⟨rfl,by simpa using m2⟩
  .exact⟨rfl,by simp⟩
def bEc(w:den tNw)(r eg:Int)(p:den tPk):tot tNw (aGp w r eg p)<=tot tNw w+(2+tot tPk p):=by
 unfold aGp;split
 .obtain⟨e1,e2⟩:=bTv (nG w) p.2.2.2.2.2.2.2.1 r eg (aV w);rw[dX,dX w];simp only[nT,nK,nG,bC,bS,aG,cQ]at e1 e2 ⊢;rw[vV,aH8];have e3:tot tFy ((remote w.1 r eg).1,(remote w.1 r eg).2,p)=tot tPk p:=by simp[sE,vU]
  rw[e3];omega
 .rw[aK3];omega
def bQ5(f:den tFl)(p:den tPk):tot tFl (aIn f p)=tot tFl f:=by
 unfold aIn;split<;>rfl
def bR2(r:Int)(p:den tPk)(f:den tFl):tot tFl (aEk r p f)<=tot tFl f+1:=by
 unfold aEk;split
 .split
  .rw[bQ5];omega
  .exact bR9 f p
 .omega
def bLe(r:Int)(p:den tPk):∀l:lFl,tot (.sl tFl) (l.map (aEk r p))<=tot (.sl tFl) l+l.length
 | []=>by simp
 | f::l=>by
  have h1:=bR2 r p f;have h2:=bLe r p l;rw[cNb,jZ,jZ,cM8];omega
def aI4(w:den tNw)(l:lFl):tot tNw (gW w l)=(tot (.sl tAS) (nT w).1+tot (.sl tLk) (nT w).2)+((tot (.sl tSg) (nK w).1+tot (.sl tSg) (nK w).2)+((0+(tot (.sl tRs) (nG w).2.1+tot (.sl tUs) (nG w).2.2))+(0+(tot (.sl ti) (bC w)+(tot (.sl tFy) (bS w)+(tot (.sl tFl) l+(tot (.sl tIb) (cQ w)+0))))))):=rfl
def bQf(w:den tNw)(k:Nat)(x:den tIb):tot tNw (aEz w k x)=(tot (.sl tAS) (nT w).1+tot (.sl tLk) (nT w).2)+((tot (.sl tSg) (nK w).1+tot (.sl tSg) (nK w).2)+((0+(tot (.sl tRs) (nG w).2.1+tot (.sl tUs) (nG w).2.2))+(0+(tot (.sl ti) (bC w)+(tot (.sl tFy) (bS w)+(tot (.sl tFl) (aG w)+(tot (.sl tIb) ((cQ w).set k x)+0))))))):=rfl
def aSn(w:den tNw)(r:Int)(p:den tPk):tot tNw (aFi w r p)<=tot tNw w+(aG w).length:=by
 have h:=bLe r p (aG w);unfold aFi;rw[aI4,dX w];omega
def bEs(w:den tNw)(r inn:Int)(p:den tPk):tot tNw (aB7 w r inn p)<=tot tNw w+(2+tot tPk p+(aG w).length):=by
 unfold aB7;split
 .have :=bEc w r (bM (nT w) (aV w) (bC w) r inn p).2.1 (bM (nT w) (aV w) (bC w) r inn p).2.2.1;have e:tot tPk (bM (nT w) (aV w) (bC w) r inn p).2.2.1=tot tPk p:=aPy _ _ _ _ _ _;omega
 .split
  .have :=aSn w r (bM (nT w) (aV w) (bC w) r inn p).2.2.1;omega
  .rw[aK3];omega
def aVe{t:Ty}{l:List (den t)}{k:Nat}{x y:den t}(h:l[k]? =U x):tot (.sl t) (l.set k y)+tot t x=tot (.sl t) l+tot t y:=by
 induction l generalizing k with
 | nil=>cases h
 | cons z l ih=>
  cases k with
  | zero=>
   have :z=x:=by simpa using h
   subst this;rw[List.set_cons_zero,jZ,jZ];omega
  | succ k=>
   have :=ih (k:=k) (by simpa using h);rw[List.set_cons_succ,jZ,jZ];omega
def bSx(x:den tIb)(p:den tPk):tot tIb (iT x p)<=tot tIb x+(1+tot tPk p):=by
 have h1:=bT8 x p;have h2:=(aU0 (p:=p) (cM5 _)).2;have e:∀y:den tIb,tot tIb y=tot (.sl tMs) y.2.2.2:=λy=>by simp[sE,vU]
 rw[e,e];omega
def bRe(w:den tNw)(r:Int)(p:den tPk):tot tNw (aN6 w r p)<=tot tNw w+(3+2 * tot tPk p+(aG w).length):=by
 unfold aN6;split
 .omega
 .rcases aXg (cQ w) r p.2.1 with hf | ⟨k,x,hf,hx⟩
  .rename_i hc;rw[hf]at hc;exact absurd (by decide) hc
  .have hba:aHc w k=x:=by unfold aHc;rw[hx];rfl
   rw[hf,cMt,hba];have h1:=aVe (t:=tIb) (y:=iT x p) hx;have h2:=bSx x p;have h3:tot tNw (aEz w k (iT x p))<=tot tNw w+(1+tot tPk p):=by
    rw[bQf,dX w];omega
   split
   .have h4:=bEs (aEz w k (iT x p)) r 0 (xN (iT x p) p);have h5:=bEr (iT x p) p;have h6:(aG (aEz w k (iT x p))).length=(aG w).length:=rfl;omega
   .omega
def bU8(w:den tNw)(r d:Int)(p:den tPk):tot tNw (aQk w r d p)<=tot tNw w+(20+tot tPk p+(aG w).length):=by
 unfold aQk;rw[aK3];split
 .have h1:=bEs w r 0 (dC r (aV w) d p);have h2:=bC6 r (aV w) d p;omega
 .have :=aSn w r (dC r (aV w) d p);omega
def bQ0(w:den tNw)(r inn:Int)(p:den tPk):tot tNw (pO w r inn p)<=tot tNw w+(20+2 * tot tPk p+(aG w).length):=by
 have e:tot tPk (bM (nT w) (aV w) (bC w) r inn p).2.2.1=tot tPk p:=aPy _ _ _ _ _ _;unfold pO;split
 .have :=bEc w r (bM (nT w) (aV w) (bC w) r inn p).2.1 (bM (nT w) (aV w) (bC w) r inn p).2.2.1;omega
 .split
  .split
   .have :=bRe w r (bM (nT w) (aV w) (bC w) r inn p).2.2.1;omega
   .have :=aSn w r (bM (nT w) (aV w) (bC w) r inn p).2.2.1;omega
  .split
   .have :=bU8 w r (bM (nT w) (aV w) (bC w) r inn p).2.2.2 p;omega
   .rw[aK3];omega
def bHg{w:den tNw}(h:tot tNw w<=549755813888):SmB 549755813888 tNw w:=bG h
def gY(w:den tNw):q6:=
 ((nT w).1,(nT w).2,(nK w).1,(nK w).2,(nG w).1,(nG w).2.1,(nG w).2.2,aV w,bC w,qL w,bS w,aG w,cQ w)
def bUv{p:den tPp}(h:aGa p=X):tot tPp p<=8:=by
 unfold aGa aLr at h;simp only[cMu,zR]at h;have e:tot tPp p=tot (.sl cH) p.2.2.2:=by simp[sE,vU]
 rw[e,qS rfl];exact h.2.2.2.1
def bWr{p:den tPt}(h:aNh p=X):tot tPt p<=27:=by
 unfold aNh at h;rw[cMu,zR]at h;have key:∀l:lPp,l.all aGa=X->tot (.sl tPp) l<=9 * l.length:=by
  intro l
  induction l with
  | nil=>intro _;exact cM5 _
  | cons x l ih=>
   intro hl;rw[cOj,cMu]at hl;have h1:=bUv hl.1;have h2:=ih hl.2;rw[jZ,cM8];omega
 have :=key p h.2;have h1:cMy p<=3:=h.1;show tot (.sl tPp) p<=27;omega
def aYm{p:den tPk}(h:sH p=X):tot tPk p<=67:=by
 have h':=h;unfold sH at h';simp only[cMu,zR]at h';have h1:=bWr h'.2.1;have h2:p.2.2.2.2.2.2.2.2.2.length<=40:=by have :=h'.2.2.2.2.2.2.2.2.2;omega
 have e:tot tPk p=tot tPt p.2.2.2.1+tot (.sl tb) p.2.2.2.2.2.2.2.2.2:=by simp[sE,vU]
 rw[e,qS (t:=tb) rfl];omega
def bTy{w:den tNw}{r inn:Int}{p:den tPk}(h:sH p=Y):pO w r inn p=aKo w:=by
 have hv:bM (nT w) (aV w) (bC w) r inn p=(2,0,p,0):=by
  unfold bM fwd;rw[h];rfl
 unfold pO;rw[hv];rfl
def aY5(w:den tNw)(r inn:Int)(p:den tPk):tot tNw (pO w r inn p)<=tot tNw w+(160+(aG w).length):=by
 cases h:sH p with
 | true=>
  have h1:=bQ0 w r inn p;have h2:=aYm h;omega
 | false=>rw[bTy h,aK3];omega
structure sY (w:den tNw):Prop where
 fly:∀x∈bS w,sI x.2.2
 msg:∀f∈aG w,∀m∈f.2.2.2.2.1,aE1 m
def bAj{w:den tNw}(h:sY w){r eg:Int}{p:den tPk}(hp:sI p):sY (aGp w r eg p)/\(aG (aGp w r eg p)).length=(aG w).length:=by
 unfold aGp;split
 .refine⟨⟨λx hx=> ?_,h.msg⟩,rfl⟩;rcases cM3.1 (show x∈bS w++_ from hx) with hx | hx
  .exact h.fly x hx
  .have :x=_:=cM2.1 hx;subst this;exact hp
 .exact⟨⟨h.fly,h.msg⟩,rfl⟩
def bSa(r:Int)(p:den tPk)(f:den tFl):(aEk r p f).2.2.2.2.1=f.2.2.2.2.1:=by
 unfold aEk;split
 .split
  .exact (bJx f p).1
  .unfold aOm;cases p.1==3&&(aFd p.2.2.2.2.2.2.2.2.2).2.2.2<;>rfl
 .rfl
def aRo{w:den tNw}(h:sY w)(r:Int)(p:den tPk):sY (aFi w r p)/\(aG (aFi w r p)).length=(aG w).length:=by
 refine⟨⟨h.fly,λf hf m hm=> ?_⟩,by show ((aG w).map _).length=_;simp⟩;obtain⟨g,hg,rfl⟩:=cMs.1 (show f∈(aG w).map (aEk r p) from hf);rw[bSa]at hm;exact h.msg g hg m hm
def aL8{w:den tNw}(h:sY w):sY (aKo w)/\(aG (aKo w)).length=(aG w).length:=⟨⟨h.fly,h.msg⟩,rfl⟩
def aV1{w:den tNw}(h:sY w)(k:Nat)(x:den tIb):sY (aEz w k x)/\(aG (aEz w k x)).length=(aG w).length:=⟨⟨h.fly,h.msg⟩,rfl⟩
def aVx{t:den tTo}{now:Int}{dead:List Int}{r inn:Int}{p:den tPk}(hp:sI p):sI (bM t now dead r inn p).2.2.1:=λx hx=>hp x (by unfold bM at hx;rwa [(aK8 t r now _ inn p).2.2.2]at hx)
def aZ8{w:den tNw}(h:sY w){r inn:Int}{p:den tPk}(hp:sI p):sY (aB7 w r inn p)/\(aG (aB7 w r inn p)).length=(aG w).length:=by
 unfold aB7;split
 .exact bAj h (aVx hp)
 .split
  .exact aRo h _ _
  .exact aL8 h
def aQ7{w:den tNw}(h:sY w){r inn:Int}{p:den tPk}(hp:sI p):sY (pO w r inn p)/\(aG (pO w r inn p)).length=(aG w).length:=by
 unfold pO;split
 .exact bAj h (aVx hp)
 .split
  .split
   .unfold aN6;split
    .exact⟨h,rfl⟩
    .split
     .obtain⟨h1,h2⟩:=aV1 h (oA (cQ w) r (bM (nT w) (aV w) (bC w) r inn p).2.2.1.2.1).toNat (iT (aHc w (oA (cQ w) r (bM (nT w) (aV w) (bC w) r inn p).2.2.1.2.1).toNat) (bM (nT w) (aV w) (bC w) r inn p).2.2.1);obtain⟨h3,h4⟩:=aZ8 h1 (r:=r) (inn:=0) (p:=xN (iT (aHc w (oA (cQ w) r (bM (nT w) (aV w) (bC w) r inn p).2.2.1.2.1).toNat) (bM (nT w) (aV w) (bC w) r inn p).2.2.1) (bM (nT w) (aV w) (bC w) r inn p).2.2.1) (by
       unfold xN;split
       .exact λx hx=>by cases hx
       .exact λx hx=>by cases hx)
      exact⟨h3,h4.trans h2⟩
     .exact aV1 h _ _
   .exact aRo h _ _
  .split
   .unfold aQk;split
    .obtain⟨h1,h2⟩:=aZ8 h (r:=r) (inn:=0) (p:=dC r (aV w) (bM (nT w) (aV w) (bC w) r inn p).2.2.2 p) (aX5 _);obtain⟨h3,h4⟩:=aL8 h1;exact⟨h3,h4.trans h2⟩
    .obtain⟨h1,h2⟩:=aRo h r (dC r (aV w) (bM (nT w) (aV w) (bC w) r inn p).2.2.2 p);obtain⟨h3,h4⟩:=aL8 h1;exact⟨h3,h4.trans h2⟩
   .exact aL8 h
def bR(w:den tNw)(l:lFy):den tNw:=(nT w,nK w,nG w,aV w,bC w,l,aG w,cQ w,qL w)
def dF(x:den tFy)(w:den tNw):q25:=
 (x.1,x.2.1,x.2.2.1,x.2.2.2.1,x.2.2.2.2.1,x.2.2.2.2.2.1,x.2.2.2.2.2.2.1,x.2.2.2.2.2.2.2.1,x.2.2.2.2.2.2.2.2.1,x.2.2.2.2.2.2.2.2.2.1,x.2.2.2.2.2.2.2.2.2.2.1,x.2.2.2.2.2.2.2.2.2.2.2,aN w)
def cFi{w:den tNw}{x:den tFy}(hx:(bS w)[0]? =U x)(hl:(bS w).length<=68719476736):gO w 0=U (dF x (bR w ((bS w).drop 1))):=by
 have hlt:0<(bS w).length:=(cM0.1 hx).1;have hx:w.2.2.2.2.2.1[(0:Int).toNat]? =U x:=hx;have h1:D ((0:Int)<(w.2.2.2.2.2.1.length:Int))=X:=zX (by have :0<w.2.2.2.2.2.1.length:=hlt;omega);have e1:wr ((0:Int)+1)=((1:Nat):Int):=rfl;have h2:bH ((1:Nat):Int) (w.2.2.2.2.2.1.length:Int) (w.2.2.2.2.2.1.length:Int)=X:=wM (show 1<=w.2.2.2.2.2.1.length from hlt);have h3:bH (0:Int) (0:Int) (w.2.2.2.2.2.1.length:Int)=X:=aDn (k:=0) (cM7 _);have h4:cut w.2.2.2.2.2.1 (0:Int) (0:Int)=[]:=by simp[cut]
 have hl:w.2.2.2.2.2.1.length<=68719476736:=hl;unfold gO ixb aK aS bA zz4 zz5 zz6 zz7 zz8 zz9;simp only[h1,hx,aA,zZ,e1,h2,h3,h4,aC0,cNn,cNd,aC (b:=128) (n:=0) (m:=0) (by decide) (by decide),aC (b:=128) (n:=0) (m:=(w.2.2.2.2.2.1.drop 1).length) (by decide) (by simp;omega),zX (show (0:Int)<=0 from Int.le_refl _)];rfl
def cG9{w:den tNw}{x:den tFy}(hx:(bS w)[0]? =U x)(hl:(bS w).length<=68719476736):sM w 0=U (dF x (bR w ((bS w).drop 1))):=by
 have hlt:0<(bS w).length:=(cM0.1 hx).1;have hx:w.2.2.2.2.2.1[(0:Int).toNat]? =U x:=hx;have h1:D ((0:Int)<(w.2.2.2.2.2.1.length:Int))=X:=zX (by have :0<w.2.2.2.2.2.1.length:=hlt;omega);have e1:wr ((0:Int)+1)=((1:Nat):Int):=rfl;have h2:bH ((1:Nat):Int) (w.2.2.2.2.2.1.length:Int) (w.2.2.2.2.2.1.length:Int)=X:=wM (show 1<=w.2.2.2.2.2.1.length from hlt);have h3:bH (0:Int) (0:Int) (w.2.2.2.2.2.1.length:Int)=X:=aDn (k:=0) (cM7 _);have h4:cut w.2.2.2.2.2.1 (0:Int) (0:Int)=[]:=by simp[cut]
 have hl:w.2.2.2.2.2.1.length<=68719476736:=hl;unfold sM ixb aK aS bA zz4 zz5 zz6 zz7 zz8 zz9;simp only[h1,hx,aA,zZ,e1,h2,h3,h4,aC0,cNn,cNd,aC (b:=128) (n:=0) (m:=0) (by decide) (by decide),aC (b:=128) (n:=0) (m:=(w.2.2.2.2.2.1.drop 1).length) (by decide) (by simp;omega),zX (show (0:Int)<=0 from Int.le_refl _)];rfl
def aQb(w:den tNw)(l:lFy):tot tNw (bR w l)+tot (.sl tFy) (bS w)=tot tNw w+tot (.sl tFy) l:=by
 have e:tot tNw (bR w l)=(tot (.sl tAS) (nT w).1+tot (.sl tLk) (nT w).2)+((tot (.sl tSg) (nK w).1+tot (.sl tSg) (nK w).2)+((0+(tot (.sl tRs) (nG w).2.1+tot (.sl tUs) (nG w).2.2))+(0+(tot (.sl ti) (bC w)+(tot (.sl tFy) l+(tot (.sl tFl) (aG w)+(tot (.sl tIb) (cQ w)+0))))))):=rfl;rw[e,dX w];omega
def aJi(w:den tNw):den tNw:=match bS w with
 | []=>w
 | x::l=>pO (bR w l) x.1 x.2.1 x.2.2
def aPf:Nat->den tNw->den tNw
 | 0,w=>w
 | n+1,w=>match bS w with
  | []=>w
  | _::_=>aPf n (aJi w)
structure fH (B F:Nat) (w:den tNw):Prop where
 tot:Go.V.tot tNw w<=B
 flows:(aG w).length<=F
 bytes:sY w
def fH.mono{B C F:Nat}{w:den tNw}(h:fH B F w)(hb:B<=C):fH C F w:=⟨cMo h.tot hb,h.flows,h.bytes⟩
def cDs{w:den tNw}{x:den tFy}{l:lFy}(h:bS w=x::l):tot tNw (bR w l)+(1+tot tPk x.2.2)=tot tNw w:=by
 have h1:=aQb w l;rw[h,jZ]at h1;have e:tot tFy x=tot tPk x.2.2:=by simp[sE,vU]
 rw[e]at h1;omega
def aW3{B F:Nat}{w:den tNw}{x:den tFy}{l:lFy}(hk:fH B F w)(h:bS w=x::l):fH B F (bR w l)/\tot tPk x.2.2<=B/\sI x.2.2:=by
 have h1:=cDs h;have h2:=hk.tot;refine⟨⟨by omega,hk.flows,⟨λy hy=>hk.bytes.fly y (by rw[h];exact cM4 _ hy),hk.bytes.msg⟩⟩,by omega,hk.bytes.fly x (by rw[h];exact List.mem_cons_self ..)⟩
def aYp{B F:Nat}{w:den tNw}(hk:fH B F w){r inn:Int}{p:den tPk}(hp:sI p):fH (B+(160+F)) F (pO w r inn p):=by
 obtain⟨h1,h2⟩:=aQ7 hk.bytes (r:=r) (inn:=inn) hp;have h3:=aY5 w r inn p;have h4:=hk.tot;have h5:=hk.flows;exact⟨by omega,by omega,h1⟩
def bEb{B F:Nat}{w:den tNw}(hk:fH B F w):fH (B+(160+F)) F (aJi w):=by
 unfold aJi;split
 .exact hk.mono (by omega)
 .rename_i x l h;obtain⟨h1,h2,h3⟩:=aW3 hk h;exact aYp h1 h3
def bDa{F:Nat}:∀(n:Nat) {B:Nat} {w:den tNw},fH B F w->fH (B+n * (160+F)) F (aPf n w)
 | 0,B,w,hk=>hk.mono (by omega)
 | n+1,B,w,hk=>by
  unfold aPf;split
  .exact hk.mono (by omega)
  .have :=bDa n (bEb hk);refine this.mono ?_;rw[cNk];omega
def bIr{F:Nat}{S R:Type}(enc:Nat->den tNw->S)(out:den tNw->R)(N:Nat){step:S->Option (S⊕R)}
  (H1:∀(k:Nat) (w:den tNw) (x:den tFy) (l:lFy),k<N->bS w=x::l->fH 34359738368 F w->step (enc k w)=U (.inl (enc (k+1) (aJi w))))
  (H2:∀(k:Nat) (w:den tNw),(k=N\/bS w=[])->step (enc k w)=U (.inr (out w))):
  ∀(m k B:Nat) (w:den tNw),k+m=N->fH B F w->B+m * (160+F)<=34359738368->aB step (enc k w)=U (out (aPf m w)):=by
 intro m
 induction m with
 | zero=>intro k B w hk hw hB;exact aI (H2 k w (.inl (by omega)))
 | succ m ih=>
  intro k B w hk hw hB;unfold aPf;split
  .rename_i h;exact aI (H2 k w (.inr h))
  .rename_i x l h;rw[cNk]at hB;rw[aP (H1 k w x l (by omega) h (hw.mono (by omega)))];exact ih (k+1) _ _ (by omega) (bEb hw) (by omega)
def aGo{B F:Nat}{w:den tNw}(h:fH B F w)(hB:B<=68719476736):aG9 w/\(cQ w).length<=549755813888/\ ∀x∈cQ w,tot tIb x<=68719476736:=
 ⟨aN0 (cMo h.tot hB),cJl (cMo h.tot hB)⟩
def aKd{B F:Nat}{w:den tNw}(h:fH B F w)(hB:B<=68719476736):(bS w).length<=68719476736:=by
 have :=dX w;have :=cO (t:=tFy) (bS w);have :=h.tot;omega
def cJw{F:Nat}{w:den tNw}{x:den tFy}{l:lFy}(h:bS w=x::l)(hk:fH 34359738368 F w):gO (((aN w).2.2.2.1,(aN w).2.2.2.2.1),((aN w).2.2.2.2.2.1,(aN w).2.2.2.2.2.2.1),((aN w).2.2.2.2.2.2.2.1,(aN w).2.2.2.2.2.2.2.2.1,(aN w).2.2.2.2.2.2.2.2.2.1),(aN w).2.2.2.2.2.2.2.2.2.2.1,(aN w).2.2.2.2.2.2.2.2.2.2.2.1,(aN w).1,(aN w).2.1,(aN w).2.2.1,(aN w).2.2.2.2.2.2.2.2.2.2.2.2) 0=U (dF x (bR w l))/\cC (((dF x (bR w l)).2.2.2.2.2.2.2.2.2.2.2.2.2.2.2.1,(dF x (bR w l)).2.2.2.2.2.2.2.2.2.2.2.2.2.2.2.2.1),((dF x (bR w l)).2.2.2.2.2.2.2.2.2.2.2.2.2.2.2.2.2.1,(dF x (bR w l)).2.2.2.2.2.2.2.2.2.2.2.2.2.2.2.2.2.2.1),((dF x (bR w l)).2.2.2.2.2.2.2.2.2.2.2.2.2.2.2.2.2.2.2.1,(dF x (bR w l)).2.2.2.2.2.2.2.2.2.2.2.2.2.2.2.2.2.2.2.2.1,(dF x (bR w l)).2.2.2.2.2.2.2.2.2.2.2.2.2.2.2.2.2.2.2.2.2.1),(dF x (bR w l)).2.2.2.2.2.2.2.2.2.2.2.2.2.2.2.2.2.2.2.2.2.2.1,(dF x (bR w l)).2.2.2.2.2.2.2.2.2.2.2.2.2.2.2.2.2.2.2.2.2.2.2.1,(dF x (bR w l)).2.2.2.2.2.2.2.2.2.2.2.2.1,(dF x (bR w l)).2.2.2.2.2.2.2.2.2.2.2.2.2.1,(dF x (bR w l)).2.2.2.2.2.2.2.2.2.2.2.2.2.2.1,(dF x (bR w l)).2.2.2.2.2.2.2.2.2.2.2.2.2.2.2.2.2.2.2.2.2.2.2.2) (dF x (bR w l)).1 (dF x (bR w l)).2.1 ((dF x (bR w l)).2.2.1,(dF x (bR w l)).2.2.2.1,(dF x (bR w l)).2.2.2.2.1,(dF x (bR w l)).2.2.2.2.2.1,(dF x (bR w l)).2.2.2.2.2.2.1,(dF x (bR w l)).2.2.2.2.2.2.2.1,(dF x (bR w l)).2.2.2.2.2.2.2.2.1,(dF x (bR w l)).2.2.2.2.2.2.2.2.2.1,(dF x (bR w l)).2.2.2.2.2.2.2.2.2.2.1,(dF x (bR w l)).2.2.2.2.2.2.2.2.2.2.2.1)=U (aN (aJi w)):=by
 have hx:(bS w)[0]? =U x:=by rw[h];rfl
 have hd:(bS w).drop 1=l:=by rw[h];rfl
 obtain⟨k1,k2,k3⟩:=aW3 hk h;obtain⟨n1,n2,n3⟩:=aGo k1 (by decide);refine⟨?_,?_⟩
 .have :=cFi (w:=w) hx (aKd hk (by decide));rw[hd]at this;exact this
 .have e:aJi w=pO (bR w l) x.1 x.2.1 x.2.2:=by unfold aJi;rw[h]
  rw[e];exact bBa (w:=bR w l) n1 n2 n3 k2 k3
def cKj{F:Nat}{w:den tNw}{x:den tFy}{l:lFy}(h:bS w=x::l)(hk:fH 34359738368 F w):sM (((aN w).2.2.2.1,(aN w).2.2.2.2.1),((aN w).2.2.2.2.2.1,(aN w).2.2.2.2.2.2.1),((aN w).2.2.2.2.2.2.2.1,(aN w).2.2.2.2.2.2.2.2.1,(aN w).2.2.2.2.2.2.2.2.2.1),(aN w).2.2.2.2.2.2.2.2.2.2.1,(aN w).2.2.2.2.2.2.2.2.2.2.2.1,(aN w).1,(aN w).2.1,(aN w).2.2.1,(aN w).2.2.2.2.2.2.2.2.2.2.2.2) 0=U (dF x (bR w l))/\fQ (((dF x (bR w l)).2.2.2.2.2.2.2.2.2.2.2.2.2.2.2.1,(dF x (bR w l)).2.2.2.2.2.2.2.2.2.2.2.2.2.2.2.2.1),((dF x (bR w l)).2.2.2.2.2.2.2.2.2.2.2.2.2.2.2.2.2.1,(dF x (bR w l)).2.2.2.2.2.2.2.2.2.2.2.2.2.2.2.2.2.2.1),((dF x (bR w l)).2.2.2.2.2.2.2.2.2.2.2.2.2.2.2.2.2.2.2.1,(dF x (bR w l)).2.2.2.2.2.2.2.2.2.2.2.2.2.2.2.2.2.2.2.2.1,(dF x (bR w l)).2.2.2.2.2.2.2.2.2.2.2.2.2.2.2.2.2.2.2.2.2.1),(dF x (bR w l)).2.2.2.2.2.2.2.2.2.2.2.2.2.2.2.2.2.2.2.2.2.2.1,(dF x (bR w l)).2.2.2.2.2.2.2.2.2.2.2.2.2.2.2.2.2.2.2.2.2.2.2.1,(dF x (bR w l)).2.2.2.2.2.2.2.2.2.2.2.2.1,(dF x (bR w l)).2.2.2.2.2.2.2.2.2.2.2.2.2.1,(dF x (bR w l)).2.2.2.2.2.2.2.2.2.2.2.2.2.2.1,(dF x (bR w l)).2.2.2.2.2.2.2.2.2.2.2.2.2.2.2.2.2.2.2.2.2.2.2.2) (dF x (bR w l)).1 (dF x (bR w l)).2.1 ((dF x (bR w l)).2.2.1,(dF x (bR w l)).2.2.2.1,(dF x (bR w l)).2.2.2.2.1,(dF x (bR w l)).2.2.2.2.2.1,(dF x (bR w l)).2.2.2.2.2.2.1,(dF x (bR w l)).2.2.2.2.2.2.2.1,(dF x (bR w l)).2.2.2.2.2.2.2.2.1,(dF x (bR w l)).2.2.2.2.2.2.2.2.2.1,(dF x (bR w l)).2.2.2.2.2.2.2.2.2.2.1,(dF x (bR w l)).2.2.2.2.2.2.2.2.2.2.2.1)=U (aN (aJi w)):=by
 have hx:(bS w)[0]? =U x:=by rw[h];rfl
 have hd:(bS w).drop 1=l:=by rw[h];rfl
 obtain⟨k1,k2,k3⟩:=aW3 hk h;obtain⟨n1,n2,n3⟩:=aGo k1 (by decide);refine⟨?_,?_⟩
 .have :=cG9 (w:=w) hx (aKd hk (by decide));rw[hd]at this;exact this
 .have e:aJi w=pO (bR w l) x.1 x.2.1 x.2.2:=by unfold aJi;rw[h]
  rw[e];exact bCp (w:=bR w l) n1 n2 n3 k2 k3
def cKe{F:Nat}{w:den tNw}{n:Int}{B:Nat}(h0:0<=n)(hn:n<=1000000)(hk:fH B F w)(hB:B+n.toNat * (160+F)<=34359738368):jS w n=U (aN (aPf n.toNat w)):=by
 unfold jS eG aS bA bZ dR oC yR yU yX aBb aBa aGu aLc aLj aLd aLn zz4 zz5 zz6 zz7 zz8 zz9;refine bIr (F:=F) (λk w=>((k:Int),aN w)) aN n.toNat (λk w x l hk' hx hw=> ?_) (λk w hk'=> ?_) n.toNat 0 B w (cNo _) hk hB
 .obtain⟨e1,e2⟩:=cJw hx hw;have hd:D ((k:Int)<n)=X:=zX (by omega);have hp:D (((aN w).1.length:Int)>0)=X:=by rw[show (aN w).1=bS w from rfl,hx];simp
  have hwr:wr ((k:Int)+1)=((k+1:Nat):Int):=(wri (by omega) (by omega)).trans (by omega);simp only[hd,hp,zZ,aA,e1,e2,hwr]
 .rcases hk' with rfl | h
  .have hd:D (((n.toNat:Nat):Int)<n)=Y:=zW (by omega);simp only[hd,zY,aA]
  .have hp:D (((aN w).1.length:Int)>0)=Y:=by rw[show (aN w).1=bS w from rfl,h];rfl
   simp only[hp,aA];cases D ((k:Int)<n)<;>rfl
def cCj:den yG:=(2,0,[],(0,0,(0,0,0,[],0,0,0,0,0,[])))
def cFg{F:Nat}{w:den tNw}{x:den tFy}{l:lFy}(h:bS w=x::l)(hk:fH 34359738368 F w):pY w cCj=U (X,aN (aJi w)):=by
 obtain⟨e1,e2⟩:=cKj h hk;have hl:w.2.2.2.2.2.1.length<=549755813888:=cMo (aKd hk (by decide)) (by decide);have hin:inR (0:Int) 0 ((w.2.2.2.2.2.1.length:Int) - 1)=X:=by
  rw[bQ,show w.2.2.2.2.2.1=x::l from h,cM8];omega
 unfold pY cCj ixb aK eG aHz pj2 aL aS bA bZ dR oC yR yU yX aBb aBa aGu aLc aLj aLd aLn zz4 zz5 zz6 zz7 zz8 zz9;simp only[fB,dN hl,hin,aA];have e1:sM w 0=U (dF x (bR w l)):=e1;simp only[show ((2:Int)==1)=Y from rfl,show ((2:Int)==2)=X from rfl,zY,zZ,aD,e1,aA,e2]
def cKl{F:Nat}{w:den tNw}{n:Int}{B:Nat}(h0:0<=n)(hn:n<=1000000)(hk:fH B F w)(hB:B+n.toNat * (160+F)<=34359738368):aEd w n=U (aN (aPf n.toNat w)):=by
 unfold aEd eG aS bA bZ dR zz4 zz5 zz6 zz7 zz8 zz9;refine bIr (F:=F) (λk w=>((k:Int),aN w)) aN n.toNat (λk w x l hk' hx hw=> ?_) (λk w hk'=> ?_) n.toNat 0 B w (cNo _) hk hB
 .have e1:pY (((aN w).2.2.2.1,(aN w).2.2.2.2.1),((aN w).2.2.2.2.2.1,(aN w).2.2.2.2.2.2.1),((aN w).2.2.2.2.2.2.2.1,(aN w).2.2.2.2.2.2.2.2.1,(aN w).2.2.2.2.2.2.2.2.2.1),(aN w).2.2.2.2.2.2.2.2.2.2.1,(aN w).2.2.2.2.2.2.2.2.2.2.2.1,(aN w).1,(aN w).2.1,(aN w).2.2.1,(aN w).2.2.2.2.2.2.2.2.2.2.2.2) ((2:Int),(0:Int),[],((0:Int),(0:Int),((0:Int),(0:Int),(0:Int),[],(0:Int),(0:Int),(0:Int),(0:Int),(0:Int),[])))=U (X,aN (aJi w)):=cFg hx hw;have hd:D ((k:Int)<n)=X:=zX (by omega);have hp:D (((aN w).1.length:Int)>0)=X:=by rw[show (aN w).1=bS w from rfl,hx];simp
  have hwr:wr ((k:Int)+1)=((k+1:Nat):Int):=(wri (by omega) (by omega)).trans (by omega);simp only[hd,hp,zZ,aA,e1,hwr]
 .rcases hk' with rfl | h
  .have hd:D (((n.toNat:Nat):Int)<n)=Y:=zW (by omega);simp only[hd,zY,aA]
  .have hp:D (((aN w).1.length:Int)>0)=Y:=by rw[show (aN w).1=bS w from rfl,h];rfl
   simp only[hp,aA];cases D ((k:Int)<n)<;>rfl
def bSk(f:den tFl):(aH f).1.2.2.2.2.1=f.2.2.2.2.1:=by
 unfold aH
 repeat' split
 all_goals rfl
def bJn{f:den tFl}(h:∀m∈f.2.2.2.2.1,aE1 m):sI (aHf f):=by
 unfold aHf;split
 .intro x hx;have hx:x∈(f.2.2.2.2.1[f.2.2.2.1.toNat]?).getD []:=hx;cases hm:f.2.2.2.2.1[f.2.2.2.1.toNat]? with
  | none=>rw[hm]at hx;cases hx
  | some m=>rw[hm]at hx;exact h m (cMw hm) x hx
 .intro x hx;cases hx
def bJq{f:den tFl}(h:∀m∈f.2.2.2.2.1,aE1 m):sI (aH f).2.1:=by
 unfold aH
 repeat' split
 all_goals first
  | exact bJn h
  | (intro x hx;cases hx)
def aIj(k:Nat)(w:den tNw):den tNw:=match (aG w)[k]? with
 | some f=>if (aH f).2.2 then pO (gW w ((aG w).set k (aH f).1)) (aH f).1.1 0 (aH f).2.1 else gW w ((aG w).set k (aH f).1)
 | none=>w
def aQx:Nat->Nat->den tNw->den tNw
 | _,0,w=>w
 | k,n+1,w=>aQx (k+1) n (aIj k w)
def aUi(w:den tNw):den tNw:=(nT w,nK w,((nG w).1,aPm (nG w).2.1 (wr (aV w+1)),[]),wr (aV w+1),bC w,bS w,aG w,cQ w,qL w)
def gH(w:den tNw):den tNw:=if aV w>=1000000 then w else aQx 0 (aG w).length (aUi w)
def aT4{B F:Nat}{w:den tNw}{k:Nat}{f:den tFl}(hk:fH B F w)(hf:(aG w)[k]? =U f):fH B F (gW w ((aG w).set k (aH f).1))/\tot tPk (aH f).2.1<=B/\sI (aH f).2.1:=by
 have hm:=cMw hf;have h1:=aVe (t:=tFl) (y:=(aH f).1) hf;have h2:=(bEh f).1;have h3:=(bEh f).2;have h4:=kA (t:=tFl) hm;have h5:=aI4 w ((aG w).set k (aH f).1);have h6:=dX w;have h7:=hk.tot;refine⟨⟨by omega,?_,⟨hk.bytes.fly,λg hg m hmm=> ?_⟩⟩,by omega,bJq (hk.bytes.msg f hm)⟩
 .show ((aG w).set k _).length<=F;rw[cOv];exact hk.flows
 .rcases cPr (show g∈(aG w).set k (aH f).1 from hg) with hg | rfl
  .exact hk.bytes.msg g hg m hmm
  .rw[bSk]at hmm;exact hk.bytes.msg f hm m hmm
def aZ1{B F:Nat}{w:den tNw}(k:Nat)(hk:fH B F w):fH (B+(160+F)) F (aIj k w)/\(aG (aIj k w)).length=(aG w).length:=by
 unfold aIj;split
 .rename_i f hf;obtain⟨h1,h2,h3⟩:=aT4 hk hf;have hl:(aG (gW w ((aG w).set k (aH f).1))).length=(aG w).length:=by show ((aG w).set k _).length=_;rw[cOv]
  split
  .exact⟨aYp h1 h3,(aQ7 h1.bytes h3).2.trans hl⟩
  .exact⟨h1.mono (by omega),hl⟩
 .exact⟨hk.mono (by omega),rfl⟩
def aZ3{F:Nat}:∀(n k:Nat) {B:Nat} {w:den tNw},fH B F w->fH (B+n * (160+F)) F (aQx k n w)/\(aG (aQx k n w)).length=(aG w).length
 | 0,k,B,w,hk=>⟨hk.mono (by omega),rfl⟩
 | n+1,k,B,w,hk=>by
  obtain⟨h1,h2⟩:=aZ1 k hk;obtain⟨h3,h4⟩:=aZ3 n (k+1) h1;unfold aQx;exact⟨h3.mono (by rw[cNk];omega),h4.trans h2⟩
def bUs(l:lRs)(now:Int):(aPm l now).length<=l.length:=cOq _ _
def aP9{B F:Nat}{w:den tNw}(hk:fH B F w):fH B F (aUi w):=by
 refine⟨?_,hk.flows,⟨hk.bytes.fly,hk.bytes.msg⟩⟩;have h1:=hk.tot;have h2:=dX w;have h3:=bUs (nG w).2.1 (wr (aV w+1));have e:tot tNw (aUi w)=(tot (.sl tAS) (nT w).1+tot (.sl tLk) (nT w).2)+((tot (.sl tSg) (nK w).1+tot (.sl tSg) (nK w).2)+((0+(tot (.sl tRs) (aPm (nG w).2.1 (wr (aV w+1)))+tot (.sl tUs) []))+(0+(tot (.sl ti) (bC w)+(tot (.sl tFy) (bS w)+(tot (.sl tFl) (aG w)+(tot (.sl tIb) (cQ w)+0))))))):=rfl;have r1:∀l:lRs,tot (.sl tRs) l=l.length:=λl=>qS rfl
 have r2:=r1 (aPm (nG w).2.1 (wr (aV w+1)));have r3:=r1 (nG w).2.1;rw[aM2]at e;omega
def aLu{B F:Nat}{w:den tNw}(hk:fH B F w):fH (B+F * (160+F)) F (gH w):=by
 unfold gH;split
 .exact hk.mono (by omega)
 .have :=(aZ3 (aG w).length 0 (aP9 hk)).1;refine this.mono ?_;have h1:(aG w).length * (160+F)<=F * (160+F):=cNw _ hk.flows;omega
def bEg{F:Nat}{S R:Type}(enc:Nat->den tNw->S)(out:den tNw->R)(N:Nat){step:S->Option (S⊕R)}
  (H1:∀(k:Nat) (w:den tNw),k<N->(aG w).length=N->fH 34359738368 F w->step (enc k w)=U (.inl (enc (k+1) (aIj k w))))
  (H2:∀(w:den tNw),(aG w).length=N->step (enc N w)=U (.inr (out w))):
  ∀(m k B:Nat) (w:den tNw),k+m=N->(aG w).length=N->fH B F w->B+m * (160+F)<=34359738368->aB step (enc k w)=U (out (aQx k m w)):=by
 intro m
 induction m with
 | zero=>
  intro k B w hk hn hw hB;have :k=N:=by omega
  subst this;exact aI (H2 w hn)
 | succ m ih=>
  intro k B w hk hn hw hB;rw[cNk]at hB;obtain⟨h1,h2⟩:=aZ1 k hw;rw[aP (H1 k w (by omega) hn (hw.mono (by omega)))];exact ih (k+1) _ _ (by omega) (h2.trans hn) h1 (by omega)
def bLk{B F:Nat}{w0:den tNw}(hF:F<=1000)(hk:fH B F w0)(hB:B+F * (160+F)<=34359738368):nF w0=U (!D (aV w0>=1000000),aN (gH w0)):=by
 have hres:(nG w0).2.1.length<=68719476736:=(aN0 (cMo hk.tot (by omega))).res;unfold nF gH ixb aQd eG pj3 pj9 aS bA bZ dR oC yR yU yX aBb aBa zz4 zz5 zz6 zz7 zz8 zz9
 by_cases hnow:aV w0>=1000000
 .rw[zT hnow,zX (p:=w0.2.2.2.1>=1000000) hnow];rfl
 .rw[zS hnow,zW (p:=w0.2.2.2.1>=1000000) hnow,zY];unfold aCu;simp only[bXm hres,aA];refine Eq.trans (congrArg (λo=>Option.bind o _) (bEg (F:=F) (λk w=>((k:Int),aN w)) aN (aG w0).length (λk w hk' hn hw=> ?_) (λw hn=> ?_) (aG w0).length 0 B (aUi w0) (cNo _) rfl (aP9 hk) (by have :(aG w0).length * (160+F)<=F * (160+F):=cNw _ hk.flows;omega))) ?_
  .obtain⟨f,hf⟩:∃f,(aG w)[k]? =U f:=⟨_,cMz (show k<(aG w).length by omega)⟩
   obtain⟨k1,k2,k3⟩:=aT4 hw hf;obtain⟨n1,n2,n3⟩:=aGo k1 (by decide);have hft:tot tFl f<=274877906944:=by have :=kA (t:=tFl) (cMw hf);have :=dX w;have :=hw.tot;omega
   have hd:D ((k:Int)<(w0.2.2.2.2.2.2.1.length:Int))=X:=zX (by have :k<w0.2.2.2.2.2.2.1.length:=(by exact hk');omega);have hd1:D ((k:Int)<((aN w).2.1.length:Int))=X:=zX (by have :k<(aN w).2.1.length:=(show k<(aG w).length by omega);omega);have hd2:D (k<(aN w).2.1.length)=X:=zX (show k<(aG w).length by omega);have hf':(aN w).2.1[k]? =U f:=hf;have hwr:wr ((k:Int)+1)=((k+1:Nat):Int):=(wri (by have :=hk.flows;omega) (by have :=hk.flows;omega)).trans (by omega);have e:aIj k w=if (aH f).2.2 then pO (gW w ((aG w).set k (aH f).1)) (aH f).1.1 0 (aH f).2.1 else gW w ((aG w).set k (aH f).1):=by unfold aIj;rw[hf]
   have e1:cC (((aN w).2.2.2.1,(aN w).2.2.2.2.1),((aN w).2.2.2.2.2.1,(aN w).2.2.2.2.2.2.1),((aN w).2.2.2.2.2.2.2.1,(aN w).2.2.2.2.2.2.2.2.1,(aN w).2.2.2.2.2.2.2.2.2.1),(aN w).2.2.2.2.2.2.2.2.2.2.1,(aN w).2.2.2.2.2.2.2.2.2.2.2.1,(aN w).1,((aN w).2.1.set k ((fU (aH f).1 (aH f).2.1 (aH f).2.2).1,(fU (aH f).1 (aH f).2.1 (aH f).2.2).2.1,(fU (aH f).1 (aH f).2.1 (aH f).2.2).2.2.1,(fU (aH f).1 (aH f).2.1 (aH f).2.2).2.2.2.1,(fU (aH f).1 (aH f).2.1 (aH f).2.2).2.2.2.2.2.2.2.2.2.2.2.2.2.2.2.1,(fU (aH f).1 (aH f).2.1 (aH f).2.2).2.2.2.2.2.2.2.2.2.2.2.2.2.2.2.2.1,(fU (aH f).1 (aH f).2.1 (aH f).2.2).2.2.2.2.1,(fU (aH f).1 (aH f).2.1 (aH f).2.2).2.2.2.2.2.1,(fU (aH f).1 (aH f).2.1 (aH f).2.2).2.2.2.2.2.2.2.2.2.2.2.2.2.2.2.2.2.1)),(aN w).2.2.1,(aN w).2.2.2.2.2.2.2.2.2.2.2.2) (fU (aH f).1 (aH f).2.1 (aH f).2.2).1 0 ((fU (aH f).1 (aH f).2.1 (aH f).2.2).2.2.2.2.2.2.1,(fU (aH f).1 (aH f).2.1 (aH f).2.2).2.2.2.2.2.2.2.1,(fU (aH f).1 (aH f).2.1 (aH f).2.2).2.2.2.2.2.2.2.2.1,(fU (aH f).1 (aH f).2.1 (aH f).2.2).2.2.2.2.2.2.2.2.2.2.2.2.2.2.2.2.2.2.1,(fU (aH f).1 (aH f).2.1 (aH f).2.2).2.2.2.2.2.2.2.2.2.1,(fU (aH f).1 (aH f).2.1 (aH f).2.2).2.2.2.2.2.2.2.2.2.2.1,(fU (aH f).1 (aH f).2.1 (aH f).2.2).2.2.2.2.2.2.2.2.2.2.2.1,(fU (aH f).1 (aH f).2.1 (aH f).2.2).2.2.2.2.2.2.2.2.2.2.2.2.1,(fU (aH f).1 (aH f).2.1 (aH f).2.2).2.2.2.2.2.2.2.2.2.2.2.2.2.1,(fU (aH f).1 (aH f).2.1 (aH f).2.2).2.2.2.2.2.2.2.2.2.2.2.2.2.2.2.2.2.2.2)=U (aN (pO (gW w ((aG w).set k (aH f).1)) (aH f).1.1 0 (aH f).2.1)):=bBa (w:=gW w ((aG w).set k (aH f).1)) n1 n2 n3 k2 k3;rw[e];simp only[hd,hd1,hd2,bF,cMt,hf',zZ,aA,aD,cDb hft,hwr];cases hb:(aH f).2.2
   .rfl
   .rw[hb]at e1;rw[zT rfl];show Option.bind (cond X _ _) _=_;rw[zZ];show Option.bind (Option.bind (cC _ _ 0 _) λy12=>_) _=_;rw[e1];rfl
  .have hd:D ((((aG w0).length:Nat):Int)<(w0.2.2.2.2.2.2.1.length:Int))=Y:=zW (by have :w0.2.2.2.2.2.2.1.length=(aG w0).length:=rfl;omega);simp only[hd,zY]
  .rfl
def bKz{B F:Nat}{w0:den tNw}(hF:F<=1000)(hk:fH B F w0)(hB:B+F * (160+F)<=34359738368):aCd w0=U (!D (aV w0>=1000000),aN (gH w0)):=by
 have hres:(nG w0).2.1.length<=68719476736:=(aN0 (cMo hk.tot (by omega))).res;unfold aCd gH ixb aQd eG pj3 pj9 aS bA bZ dR oC yR yU yX aBb aBa zz4 zz5 zz6 zz7 zz8 zz9
 by_cases hnow:aV w0>=1000000
 .rw[zT hnow,zX (p:=w0.2.2.2.1>=1000000) hnow];rfl
 .rw[zS hnow,zW (p:=w0.2.2.2.1>=1000000) hnow,zY];unfold aCs;simp only[bWj hres,aA];refine Eq.trans (congrArg (λo=>Option.bind o _) (bEg (F:=F) (λk w=>((k:Int),aN w)) aN (aG w0).length (λk w hk' hn hw=> ?_) (λw hn=> ?_) (aG w0).length 0 B (aUi w0) (cNo _) rfl (aP9 hk) (by have :(aG w0).length * (160+F)<=F * (160+F):=cNw _ hk.flows;omega))) ?_
  .obtain⟨f,hf⟩:∃f,(aG w)[k]? =U f:=⟨_,cMz (show k<(aG w).length by omega)⟩
   obtain⟨k1,k2,k3⟩:=aT4 hw hf;obtain⟨n1,n2,n3⟩:=aGo k1 (by decide);have hft:tot tFl f<=274877906944:=by have :=kA (t:=tFl) (cMw hf);have :=dX w;have :=hw.tot;omega
   have hd:D ((k:Int)<((aN w).2.1.length:Int))=X:=zX (by have :k<(aN w).2.1.length:=(by show k<(aG w).length;omega);omega);have hd1:D ((k:Int)<((aN w).2.1.length:Int))=X:=zX (by have :k<(aN w).2.1.length:=(show k<(aG w).length by omega);omega);have hd2:D (k<(aN w).2.1.length)=X:=zX (show k<(aG w).length by omega);have hf':(aN w).2.1[k]? =U f:=hf;have hwr:wr ((k:Int)+1)=((k+1:Nat):Int):=(wri (by have :=hk.flows;omega) (by have :=hk.flows;omega)).trans (by omega);have e:aIj k w=if (aH f).2.2 then pO (gW w ((aG w).set k (aH f).1)) (aH f).1.1 0 (aH f).2.1 else gW w ((aG w).set k (aH f).1):=by unfold aIj;rw[hf]
   have e1:fQ (((aN w).2.2.2.1,(aN w).2.2.2.2.1),((aN w).2.2.2.2.2.1,(aN w).2.2.2.2.2.2.1),((aN w).2.2.2.2.2.2.2.1,(aN w).2.2.2.2.2.2.2.2.1,(aN w).2.2.2.2.2.2.2.2.2.1),(aN w).2.2.2.2.2.2.2.2.2.2.1,(aN w).2.2.2.2.2.2.2.2.2.2.2.1,(aN w).1,((aN w).2.1.set k ((fU (aH f).1 (aH f).2.1 (aH f).2.2).1,(fU (aH f).1 (aH f).2.1 (aH f).2.2).2.1,(fU (aH f).1 (aH f).2.1 (aH f).2.2).2.2.1,(fU (aH f).1 (aH f).2.1 (aH f).2.2).2.2.2.1,(fU (aH f).1 (aH f).2.1 (aH f).2.2).2.2.2.2.2.2.2.2.2.2.2.2.2.2.2.1,(fU (aH f).1 (aH f).2.1 (aH f).2.2).2.2.2.2.2.2.2.2.2.2.2.2.2.2.2.2.1,(fU (aH f).1 (aH f).2.1 (aH f).2.2).2.2.2.2.1,(fU (aH f).1 (aH f).2.1 (aH f).2.2).2.2.2.2.2.1,(fU (aH f).1 (aH f).2.1 (aH f).2.2).2.2.2.2.2.2.2.2.2.2.2.2.2.2.2.2.2.1)),(aN w).2.2.1,(aN w).2.2.2.2.2.2.2.2.2.2.2.2) (fU (aH f).1 (aH f).2.1 (aH f).2.2).1 0 ((fU (aH f).1 (aH f).2.1 (aH f).2.2).2.2.2.2.2.2.1,(fU (aH f).1 (aH f).2.1 (aH f).2.2).2.2.2.2.2.2.2.1,(fU (aH f).1 (aH f).2.1 (aH f).2.2).2.2.2.2.2.2.2.2.1,(fU (aH f).1 (aH f).2.1 (aH f).2.2).2.2.2.2.2.2.2.2.2.2.2.2.2.2.2.2.2.2.1,(fU (aH f).1 (aH f).2.1 (aH f).2.2).2.2.2.2.2.2.2.2.2.1,(fU (aH f).1 (aH f).2.1 (aH f).2.2).2.2.2.2.2.2.2.2.2.2.1,(fU (aH f).1 (aH f).2.1 (aH f).2.2).2.2.2.2.2.2.2.2.2.2.2.1,(fU (aH f).1 (aH f).2.1 (aH f).2.2).2.2.2.2.2.2.2.2.2.2.2.2.1,(fU (aH f).1 (aH f).2.1 (aH f).2.2).2.2.2.2.2.2.2.2.2.2.2.2.2.1,(fU (aH f).1 (aH f).2.1 (aH f).2.2).2.2.2.2.2.2.2.2.2.2.2.2.2.2.2.2.2.2.2)=U (aN (pO (gW w ((aG w).set k (aH f).1)) (aH f).1.1 0 (aH f).2.1)):=bCp (w:=gW w ((aG w).set k (aH f).1)) n1 n2 n3 k2 k3;rw[e];simp only[hd,hd1,hd2,bF,cMt,hf',zZ,aA,aD,cE1 hft,hwr];cases hb:(aH f).2.2
   .rfl
   .rw[hb]at e1;rw[zT rfl];show Option.bind (cond X _ _) _=_;rw[zZ];show Option.bind (Option.bind (fQ _ _ 0 _) λy12=>_) _=_;rw[e1];rfl
  .have hd:D ((((aG w0).length:Nat):Int)<((aN w).2.1.length:Int))=Y:=zW (by have :(aN w).2.1.length=(aG w0).length:=hn;omega);simp only[hd,zY]
  .rfl
def aIt(w:den tNw):den tNw:=aPf 2000 (gH w)
def aJb(F:Nat):Nat:=F * (160+F)+2000 * (160+F)
def aV4{B F:Nat}{w:den tNw}(hk:fH B F w):fH (B+aJb F) F (aIt w):=by
 have :=bDa 2000 (aLu hk);exact this.mono (by unfold aJb;omega)
def bVy{B F:Nat}{w:den tNw}(hF:F<=1000)(hk:fH B F w)(hB:B+aJb F<=34359738368):nR w=U (aN (aIt w)):=by
 unfold aJb at hB;unfold nR eG aL aS bA bZ dR zz4 zz5 zz6 zz7 zz8 zz9;have e1:=bLk hF hk (by omega);have e2:jS (((aN (gH w)).2.2.2.1,(aN (gH w)).2.2.2.2.1),((aN (gH w)).2.2.2.2.2.1,(aN (gH w)).2.2.2.2.2.2.1),((aN (gH w)).2.2.2.2.2.2.2.1,(aN (gH w)).2.2.2.2.2.2.2.2.1,(aN (gH w)).2.2.2.2.2.2.2.2.2.1),(aN (gH w)).2.2.2.2.2.2.2.2.2.2.1,(aN (gH w)).2.2.2.2.2.2.2.2.2.2.2.1,(aN (gH w)).1,(aN (gH w)).2.1,(aN (gH w)).2.2.1,(aN (gH w)).2.2.2.2.2.2.2.2.2.2.2.2) 2000=U (aN (aIt w)):=cKe (w:=gH w) (n:=2000) (by decide) (by decide) (aLu hk) (by show B+F * (160+F)+2000 * (160+F)<=_;omega);simp only[aD,e1,aA,e2]
def bV3{B F:Nat}{w:den tNw}(hF:F<=1000)(hk:fH B F w)(hB:B+F * (160+F)<=34359738368):pY w ((1:Int),(0:Int),[],((0:Int),(0:Int),((0:Int),(0:Int),(0:Int),[],(0:Int),(0:Int),(0:Int),(0:Int),(0:Int),[])))=U (!D (aV w>=1000000),aN (gH w)):=by
 unfold pY ixb aK eG aHz pj2 aL aS bA bZ dR oC yR yU yX aBb aBa aGu aLc aLj aLd aLn zz4 zz5 zz6 zz7 zz8 zz9;simp only[fB,aA,show ((1:Int)==1)=X from rfl,zZ,aD,bKz hF hk hB]
def bYr{B F:Nat}{w:den tNw}(hF:F<=1000)(hk:fH B F w)(hB:B+aJb F<=34359738368):yW w=U (aN (aIt w)):=by
 unfold aJb at hB;unfold yW eG aL aS bA bZ dR zz4 zz5 zz6 zz7 zz8 zz9;have e1:=bV3 hF hk (by omega);have e2:aEd (((aN (gH w)).2.2.2.1,(aN (gH w)).2.2.2.2.1),((aN (gH w)).2.2.2.2.2.1,(aN (gH w)).2.2.2.2.2.2.1),((aN (gH w)).2.2.2.2.2.2.2.1,(aN (gH w)).2.2.2.2.2.2.2.2.1,(aN (gH w)).2.2.2.2.2.2.2.2.2.1),(aN (gH w)).2.2.2.2.2.2.2.2.2.2.1,(aN (gH w)).2.2.2.2.2.2.2.2.2.2.2.1,(aN (gH w)).1,(aN (gH w)).2.1,(aN (gH w)).2.2.1,(aN (gH w)).2.2.2.2.2.2.2.2.2.2.2.2) 2000=U (aN (aIt w)):=cKl (w:=gH w) (n:=2000) (by decide) (by decide) (aLu hk) (by show B+F * (160+F)+2000 * (160+F)<=_;omega);simp only[aD,e1,aA,e2]
def bM5{w:den tNw}(h:aFe w=X):(aG w).length<=4:=by
 unfold aFe at h;simp only[cMu,zR]at h;simp only[h]
def bOx{w:den tNw}(hv:aFe w=X)(h:tot tNw w<=34000000000)(hb:sY w):fH 34000000000 4 w:=⟨h,bM5 hv,hb⟩
def aPn:Nat->den tNw->den tNw
 | 0,w=>w
 | n+1,w=>aPn n (aIt w)
def aM5{F:Nat}:∀(n:Nat) {B:Nat} {w:den tNw},fH B F w->fH (B+n * aJb F) F (aPn n w)
 | 0,B,w,hk=>hk.mono (by omega)
 | n+1,B,w,hk=>by
  have :=aM5 n (aV4 hk);exact this.mono (by rw[cNk];omega)
def aVv{F:Nat}{S R:Type}(enc:Nat->den tNw->S)(out:den tNw->R)(N:Nat){step:S->Option (S⊕R)}
  (H1:∀(k B:Nat) (w:den tNw),k<N->fH B F w->B+aJb F<=34359738368->step (enc k w)=U (.inl (enc (k+1) (aIt w))))
  (H2:∀(w:den tNw),step (enc N w)=U (.inr (out w))):
  ∀(m k B:Nat) (w:den tNw),k+m=N->fH B F w->B+m * aJb F<=34359738368->aB step (enc k w)=U (out (aPn m w)):=by
 intro m
 induction m with
 | zero=>
  intro k B w hk hw hB;have :k=N:=by omega
  subst this;exact aI (H2 w)
 | succ m ih=>
  intro k B w hk hw hB;rw[cNk]at hB;rw[aP (H1 k B w (by omega) hw (by omega))];exact ih (k+1) _ _ (by omega) (aV4 hw) (by omega)
def jJ(w:den tNw)(n:Int):den tNw:=if aFe w&&inR n 0 1000 then aPn n.toNat w else w
def cCy:aJb 4=328656:=rfl
def aSm{n:Int}(h0:0<=n)(h1:n<=1000):34000000000+n.toNat * aJb 4<=34359738368:=by
 rw[cCy];have :n.toNat * 328656<=1000 * 328656:=Nat.mul_le_mul (by omega) (cM5 _);omega
def bWo{w:den tNw}{n:Int}(h:tot tNw w<=34000000000)(hb:sY w):tot tNw (jJ w n)<=34359738368:=by
 unfold jJ;split
 .rename_i hc;rw[cMu,bQ]at hc;have h1:=(aM5 n.toNat (bOx hc.1 h hb)).tot;have h2:=aSm hc.2.1 hc.2.2;omega
 .omega
def bRo{w:den tNw}{n:Int}(h:tot tNw w<=34000000000)(hb:sY w):rG w n=U (aGx (jJ w n)):=by
 have ht:=bWo (n:=n) h hb;unfold rG eG pj3 aL aS bA bZ dR zz4 zz5 zz6 zz7 zz8 zz9;simp only[aD,aPu (bHg (w:=w) (by omega)),bG9 (w:=w) (by omega),gU,aA];have e3:eX (((gY (jJ w n)).1,(gY (jJ w n)).2.1),((gY (jJ w n)).2.2.1,(gY (jJ w n)).2.2.2.1),((gY (jJ w n)).2.2.2.2.1,(gY (jJ w n)).2.2.2.2.2.1,(gY (jJ w n)).2.2.2.2.2.2.1),(gY (jJ w n)).2.2.2.2.2.2.2.1,(gY (jJ w n)).2.2.2.2.2.2.2.2.1,(gY (jJ w n)).2.2.2.2.2.2.2.2.2.2.1,(gY (jJ w n)).2.2.2.2.2.2.2.2.2.2.2.1,(gY (jJ w n)).2.2.2.2.2.2.2.2.2.2.2.2,(gY (jJ w n)).2.2.2.2.2.2.2.2.2.1)=U (aGx (jJ w n)):=aPu (w:=jJ w n) (bHg (by omega));unfold jJ at e3 ⊢;cases cv:aFe w
 .rw[cv]at e3;simp only[zY,aA];simp only[cNc,cMr,zU]at e3 ⊢;exact congrArg (λo=>Option.bind o U) e3
 .cases cn:inR n 0 1000
  .rw[cv,cn]at e3;simp only[zZ,zY,aA];simp only[cNz,cMr,zU]at e3 ⊢;exact congrArg (λo=>Option.bind o U) e3
  .rw[cv,cn]at e3;have hr:=bQ.1 cn;simp only[zZ,aA];simp only[cN7,zV]at e3 ⊢;refine Eq.trans (congrArg (λo=>Option.bind o _) (aVv (F:=4) (λk w=>((k:Int),gY w)) gY n.toNat (λk B w hk' hw hB=> ?_) (λw=> ?_) n.toNat 0 34000000000 w (cNo _) (bOx cv h hb) (aSm hr.1 hr.2))) ?_
   .have hd:D ((k:Int)<n)=X:=zX (by omega);have hwr:wr ((k:Int)+1)=((k+1:Nat):Int):=(wri (by omega) (by omega)).trans (by omega);have e1:nR (((gY w).1,(gY w).2.1),((gY w).2.2.1,(gY w).2.2.2.1),((gY w).2.2.2.2.1,(gY w).2.2.2.2.2.1,(gY w).2.2.2.2.2.2.1),(gY w).2.2.2.2.2.2.2.1,(gY w).2.2.2.2.2.2.2.2.1,(gY w).2.2.2.2.2.2.2.2.2.2.1,(gY w).2.2.2.2.2.2.2.2.2.2.2.1,(gY w).2.2.2.2.2.2.2.2.2.2.2.2,(gY w).2.2.2.2.2.2.2.2.2.1)=U (aN (aIt w)):=bVy (w:=w) (by decide) hw hB;simp only[hd,zZ,e1,aA,hwr];rfl
   .have hd:D (((n.toNat:Nat):Int)<n)=Y:=zW (by omega);simp only[hd,zY]
   .simp only[aA];exact congrArg (λo=>Option.bind o U) e3
def bRk{w:den tNw}{n:Int}(h:tot tNw w<=34000000000)(hb:sY w):rT w n=U (gY (jJ w n)):=by
 unfold rT eG pj3 aL aS bA bZ dR zz4 zz5 zz6 zz7 zz8 zz9;simp only[aD,bCf (bHg (w:=w) (by omega)),bFx (w:=w) (by omega),fB,aA];unfold jJ;cases cv:aFe w
 .simp only[cMx,zZ,aA,cNc,cMr,zU];rfl
 .cases cn:inR n 0 1000
  .simp only[cMp,cMx,zZ,zY,aA,cNz,cMr,zU];rfl
  .have hr:=bQ.1 cn;simp only[cMp,zY,aA,cN7,zV];refine Eq.trans (congrArg (λo=>Option.bind o _) (aVv (F:=4) (λk w=>((k:Int),gY w)) gY n.toNat (λk B w hk' hw hB=> ?_) (λw=> ?_) n.toNat 0 34000000000 w (cNo _) (bOx cv h hb) (aSm hr.1 hr.2))) ?_
   .have hd:D ((k:Int)<n)=X:=zX (by omega);have hwr:wr ((k:Int)+1)=((k+1:Nat):Int):=(wri (by omega) (by omega)).trans (by omega);have e1:yW (((gY w).1,(gY w).2.1),((gY w).2.2.1,(gY w).2.2.2.1),((gY w).2.2.2.2.1,(gY w).2.2.2.2.2.1,(gY w).2.2.2.2.2.2.1),(gY w).2.2.2.2.2.2.2.1,(gY w).2.2.2.2.2.2.2.2.1,(gY w).2.2.2.2.2.2.2.2.2.2.1,(gY w).2.2.2.2.2.2.2.2.2.2.2.1,(gY w).2.2.2.2.2.2.2.2.2.2.2.2,(gY w).2.2.2.2.2.2.2.2.2.1)=U (aN (aIt w)):=bYr (w:=w) (by decide) hw hB;simp only[hd,zZ,e1,aA,hwr];rfl
   .have hd:D (((n.toNat:Nat):Int)<n)=Y:=zW (by omega);simp only[hd,zY]
   .rfl
def cI2{w:den tNw}(h:tot tNw w<=34000000000)(hb:sY w):aD5 w=U (aGx (jJ w (wr (8+aAq w)))):=by
 unfold aD5 eG aL;simp only[aD,bGv (w:=w) (aN0 (by omega)).flowsN,bRo h hb,aA]
def cIl{w:den tNw}(h:tot tNw w<=34000000000)(hb:sY w):aEv w=U (gY (jJ w (wr (8+aAq w)))):=by
 unfold aEv eG aL;simp only[aD,bGe (w:=w) (aN0 (by omega)).flowsN,bRk h hb,aA]
def Ans{α:Type}(o:Option α)(P:α->Prop):Prop:= ∃y,o=U y/\P y
def bWy{S R:Type}{step:S->Option (S⊕R)}(I:Nat->S->Prop)(Q:R->Prop)(h:∀n s,I n s->(∃r,step s=U (.inr r)/\Q r)\/ ∃m s',m<n/\step s=U (.inl s')/\I m s')(n:Nat):∀s,I n s->Ans (aB step s) Q:=by
 induction n using Nat.strongRecOn with
 | ind n ih=>
  intro s hs;rcases h n s hs with ⟨r,h1,h2⟩ | ⟨m,s',h1,h2,h3⟩
  .exact⟨r,aI h1,h2⟩
  .obtain⟨r,h4,h5⟩:=ih m h1 s' h3;exact⟨r,(aP h2).trans h4,h5⟩
def bR7{S R T:Type}{step:S->Option (S⊕R)}(I:Nat->S->Prop)(Q:R->Prop){k:R->Option T}{G:Option T->Prop}(h:∀n s,I n s->(∃r,step s=U (.inr r)/\Q r)\/ ∃m s',m<n/\step s=U (.inl s')/\I m s')(n:Nat)(s:S)(hs:I n s)(hk:∀r,Q r->G (k r)):G (Option.bind (aB step s) k):=by
 obtain⟨r,h1,h2⟩:=bWy I Q h n s hs;rw[h1];exact hk r h2
def bKj{S R T:Type}{step:S->Option (S⊕R)}(len:Nat)(pos:S->Int)(J:Nat->S->Prop)(Q:R->Prop){k:R->Option T}{G:Option T->Prop}
  (h:∀(i:Nat) (s:S),i<len->pos s=(i:Int)->J i s->(∃r,step s=U (.inr r)/\Q r)\/ ∃s',step s=U (.inl s')/\pos s'=((i+1:Nat):Int)/\J (i+1) s')
  (he:∀s:S,pos s=(len:Int)->J len s-> ∃r,step s=U (.inr r)/\Q r) (i0:Nat) (s0:S) (hi:i0<=len) (hp:pos s0=(i0:Int)) (hJ:J i0 s0) (hk:∀r,Q r->G (k r)):G (Option.bind (aB step s0) k):=by
 refine bR7 (λn s=> ∃i:Nat,pos s=(i:Int)/\i+n=len/\J i s) Q ?_ (len - i0) s0 ⟨i0,hp,by omega,hJ⟩ hk
 rintro n s ⟨i,h1,h2,h3⟩
 cases n with
 | zero=>
  have e:i=len:=by omega
  subst e;exact .inl (he s h1 h3)
 | succ n=>
  rcases h i s (by omega) h1 h3 with h4 | ⟨s',h4,h5,h6⟩
  .exact .inl h4
  .exact .inr ⟨n,s',by omega,h4,i+1,h5,by omega,h6⟩
def aAr{n:Int}(h0: -1000000000000<=n)(h1:n<=1000000000000):wr n=n:=wri (by omega) (by omega)
def aId{n:Nat}(h:n<=4611686018427387904):wr ((n:Int)+1)=((n+1:Nat):Int):=by rw[show wr ((n:Int)+1)=(n:Int)+1 from wri (by omega) (by omega)];omega
def bV5{l:List Int}{n x:Int}(h:x∈yL l n):x=n\/x∈l:=by
 unfold yL at h;split at h
 .exact .inr h
 .simp only[cM3,cM2]at h;rcases h with (h | h) | h
  .exact .inr (cOn h)
  .exact .inl h
  .exact .inr (cOr h)
def bTz(l:List Int)(n:Int):n∈yL l n:=by
 unfold yL;split
 .next h=>exact cMw h
 .simp
def bX7{l:List Int}{n x:Int}(h:x∈l):x∈yL l n:=by
 unfold yL;split
 .exact h
 .rw[<- cOc (oK l n) l]at h;simp only[cM3,cM2]at h ⊢;rcases h with h | h
  .exact .inl (.inl h)
  .exact .inr h
def bSd{α:Type}{l:List α}{j:Nat}{y:α}(h:y∈l.take j):∃i,i<j/\l[i]? =U y:=by
 obtain⟨i,hi⟩:=cPs.1 h;rw[List.getElem?_take]at hi;split at hi
 .next c=>exact⟨i,c,hi⟩
 .cases hi
def aMn(w:den tNw)(l:List Int):den tNw:=(nT w,nK w,nG w,aV w,l,bS w,aG w,cQ w,qL w)
def aG7(w:den tNw)(i:Nat):den tNw:=bR w ((bS w).take i++(bS w).drop (i+1))
def bU7{w:den tNw}{i:Nat}{x:den tFy}(hx:(bS w)[i]? =U x)(hl:(bS w).length<=68719476736):sM w (i:Int)=U (dF x (aG7 w i)):=by
 have hlt:i<(bS w).length:=(cM0.1 hx).1;have hx:w.2.2.2.2.2.1[((i:Nat):Int).toNat]? =U x:=by rw[cMt];exact hx
 have h1:D ((i:Int)<(w.2.2.2.2.2.1.length:Int))=X:=zX (by have :i<w.2.2.2.2.2.1.length:=hlt;omega);have e1:wr ((i:Int)+1)=((i+1:Nat):Int):=(wri (by omega) (by omega)).trans (by omega);have h2:bH ((i+1:Nat):Int) (w.2.2.2.2.2.1.length:Int) (w.2.2.2.2.2.1.length:Int)=X:=wM (show i+1<=w.2.2.2.2.2.1.length from hlt);have h3:bH (0:Int) (i:Int) (w.2.2.2.2.2.1.length:Int)=X:=aDn (k:=i) (Nat.le_of_lt hlt);have hl:w.2.2.2.2.2.1.length<=68719476736:=hl;unfold sM ixb aK aS bA zz4 zz5 zz6 zz7 zz8 zz9;simp only[h1,hx,aA,zZ,e1,h2,h3,fL,aC0,cNf,aC (b:=128) (n:=([]:lFy).length) (m:=(w.2.2.2.2.2.1.take i).length) (by decide) (by simp;omega),aC (b:=128) (n:=(w.2.2.2.2.2.1.take i).length) (m:=(w.2.2.2.2.2.1.drop (i+1)).length) (by decide) (by simp;omega),zX (show (0:Int)<=(i:Int) by omega)];rfl
def yM(m:Nat)(dead:List Int)(i:Int)(b:Bool):List Int:=((List.range m).map λk:Nat=>((k:Nat):Int)).filter λk:Int=>(oD dead k&&(k != i))||(b&&(k==i))
def aMh(w:den tNw)(i:Int)(b:Bool):Bool:=(oD (bC w) i==b)|| !inR i 0 (((nT w).2.length:Int) - 1)
def aQ5(w:den tNw)(i:Int)(b:Bool):den tNw:=if aMh w i b then w else aMn w (yM (nT w).2.length (bC w) i b)
def bUk{w:den tNw}{i:Int}{b:Bool}(h1:(nT w).2.length<=68719476736)(h2:(bC w).length<=549755813888):aDz w i b=U (!aMh w i b,aN (aQ5 w i b)):=by
 have w1:wr ((w.1.2.length:Int) - 1)=(w.1.2.length:Int) - 1:=dN (cMo h1 (by decide));have e1:=λn=>aKt (l:=w.2.2.2.2.1) (n:=n) h2
 unfold aDz aQ5 aMh zz4 zz5 zz6 zz7 zz8;simp only[e1,aA,w1,fB];cases hb:(oD w.2.2.2.2.1 i==b) with
 | true=>rfl
 | false=>
  simp only[zY,aA,cOi];cases inR i 0 ((w.1.2.length:Int) - 1) with
  | false=>rfl
  | true=>
   simp only[cMp,zY,cMr,zU,cMx];refine bKj (G:=λo=>o=U (X,aN (aMn w (yM (nT w).2.length (bC w) i b)))) w.1.2.length (λs:Int×List Int=>s.1) (λk s=>s.2.length<=k/\s.2=yM k (bC w) i b) (λr:List Int=>r=yM w.1.2.length (bC w) i b) ?_ ?_ 0 ((0:Int),[]) (cM7 _) rfl ⟨by simp,rfl⟩ ?_
   .rintro k ⟨_,l⟩ hk rfl ⟨g1,g2⟩
    simp only at g1 g2;right;have hk':k<=68719476736:=cMo (Nat.le_of_lt hk) h1;simp only[zX (show (k:Int)<(w.1.2.length:Int) by omega),zZ,aA,aC (b:=8) (n:=l.length) (m:=1) (by decide) (by omega),show wr ((k:Int)+1)=((k+1:Nat):Int) from (wri (by omega) (by omega)).trans (by omega)];have hl:yM (k+1) (bC w) i b=yM k (bC w) i b++(if (oD (bC w) (k:Int)&&((k:Int) != i))||(b&&((k:Int)==i)) then [(k:Int)] else []):=by
     unfold yM;rw[List.range_succ,List.map_append,List.filter_append];congr 1;simp only[cNb,List.map_nil,cPd,List.filter_nil]
    have hd:bC w=w.2.2.2.2.1:=rfl;rw[hl,<- g2,hd];cases oD w.2.2.2.2.1 (k:Int)<;>cases hki:((k:Int)==i)<;>cases b<;>simp only[bne,hki,zZ,zY,aA,cMp,cMx,Bool.and_true,cNz,cM1,cNc,cOw,Bool.or_false,cOm,cOi,cMr,zV,zU,cNn]<;>first
     | exact⟨_,rfl,rfl,by simp;omega,rfl⟩
     | exact⟨_,rfl,rfl,by simp only;omega,rfl⟩
   .rintro⟨_,l⟩ rfl ⟨g1,g2⟩
    exact⟨l,by simp only[zW (Int.lt_irrefl _),zY],g2⟩
   .rintro r rfl
    rfl
def aTh(f:den tFl)(b:List Int):den tFl:=if tW (enq f b) then enq f b else f
def doW(w:den tNw)(e:den yG):Bool×den tNw:=
 if e.1==1 then (!D (aV w>=1000000),gH w)
 else if e.1==2 then (match inR e.2.1 0 (((bS w).length:Int) - 1),(bS w)[e.2.1.toNat]? with
  | true,U x=>(X,pO (aG7 w e.2.1.toNat) x.1 x.2.1 x.2.2)
  | _,_=>(Y,w))
 else if e.1==3 then (if inR e.2.1 0 (((bS w).length:Int) - 1) then (X,aKo (aG7 w e.2.1.toNat)) else (Y,w))
 else if e.1==4 then (match inR e.2.1 0 (((bS w).length:Int) - 1)&& !D (((bS w).length:Int)>=150),(bS w)[e.2.1.toNat]? with
  | true,U x=>(X,bR w (bS w++[x]))
  | _,_=>(Y,w))
 else if e.1==5||e.1==6 then (!aMh w e.2.1 (e.1==5),aQ5 w e.2.1 (e.1==5))
 else if e.1==7 then (if cK (nT w) e.2.2.2.1&& !D (((bS w).length:Int)>=150) then (X,bR w (bS w++[e.2.2.2])) else (Y,w))
 else if e.1==8 then (match inR e.2.1 0 (((aG w).length:Int) - 1),(aG w)[e.2.1.toNat]? with
  | true,U f=>(tW (enq f e.2.2.1),gW w ((aG w).set e.2.1.toNat (aTh f e.2.2.1)))
  | _,_=>(Y,w))
 else (Y,w)
def aKg{α:Type}{l:List α}{n:Int}(hl:l.length<=68719476736)(h:inR n 0 ((l.length:Int) - 1)=X):∃(i:Nat) (x:α),n=(i:Int)/\l[i]? =U x/\D (n<(l.length:Int))=X/\D ((0:Int)<=n)=X:=by
 obtain⟨h0,h1⟩:=bQ.1 h;obtain⟨i,rfl⟩:=cO3 h0;have hi:i<l.length:=by omega
 exact⟨i,l[i],rfl,cMz hi,zX (by omega),zX h0⟩
def bJ6{B F:Nat}{w:den tNw}{r inn:Int}{p:den tPk}(hk:fH B F w)(hp:sI p):fH (B+(160+F)) F (pO w r inn p):=by
 obtain⟨h1,h2⟩:=aQ7 hk.bytes hp (r:=r) (inn:=inn);have h3:=aY5 w r inn p;have :=hk.flows;have :=hk.tot;exact⟨by omega,by rw[h2];exact hk.flows,h1⟩
def bJu{B F:Nat}{w:den tNw}{l:lFy}(hk:fH B F w)(hl:tot (.sl tFy) l<=tot (.sl tFy) (bS w))(hb:∀x∈l,sI x.2.2):fH B F (bR w l):=by
 have h1:=aQb w l;have :=hk.tot;exact⟨by omega,hk.flows,⟨hb,hk.bytes.msg⟩⟩
def aQl{B F:Nat}{w:den tNw}(hk:fH B F w)(i:Nat):fH B F (aG7 w i):=by
 refine bJu hk ?_ λx hx=>hk.bytes.fly x ?_
 .have h1:=vV (t:=tFy) ((bS w).take i) ((bS w).drop i);rw[cOc]at h1;rw[vV,h1];have :tot (.sl tFy) ((bS w).drop (i+1))<=tot (.sl tFy) ((bS w).drop i):=by
   cases h:(bS w).drop i with
   | nil=>
    have :(bS w).drop (i+1)=[]:=by rw[<- List.drop_drop,h];rfl
    rw[this];exact cM5 _
   | cons x l=>
    have :(bS w).drop (i+1)=l:=by rw[<- List.drop_drop,h];rfl
    rw[this,jZ];omega
  omega
 .rcases cM3.1 hx with hx | hx
  .exact cOn hx
  .exact cOr hx
def cLw{B F:Nat}{w:den tNw}{e:den yG}(hF:F<=1000)(hk:fH B F w)(hB:B+(F+1) * (160+F)<=34359738368)(h9:(e.1==(9:Int))=Y)(hd:SmB 137438953472 (.sl tb) e.2.2.1)(hp:tot tPk e.2.2.2.2.2<=274877906944):pY w e=U ((doW w e).1,aN (doW w e).2):=by
 obtain⟨kd,n,data,to,ing,pk⟩:=e;simp only at h9 hd hp;have hB0:B<=34359738368:=by have :=cM7 ((F+1) * (160+F));omega
 have hB1:B+F * (160+F)<=34359738368:=by rw[cNk]at hB;omega
 have nl:=dX w;have l1:w.2.2.2.2.2.1.length<=68719476736:=aKd hk (by omega);have l2:w.2.2.2.2.2.2.1.length<=68719476736:=cMo hk.flows (by omega);obtain⟨n1,n2,n3⟩:=aGo hk (by omega);have w1:wr ((w.2.2.2.2.2.1.length:Int) - 1)=(w.2.2.2.2.2.1.length:Int) - 1:=dN (by omega);have w2:wr ((w.2.2.2.2.2.2.1.length:Int) - 1)=(w.2.2.2.2.2.2.1.length:Int) - 1:=dN (by omega);have a1:aF 128 w.2.2.2.2.2.1.length 1=X:=aC (by decide) (by omega);unfold pY doW ixb aK eG aHz pj2 aL aS bA bZ dR oC yR yU yX aBb aBa aGu aLc aLj aLd aLn zz4 zz5 zz6 zz7 zz8 zz9;simp only[w1,fB,aA];cases c1:(kd==(1:Int)) with
 | true=>
  show Option.bind (aCd w) _=_;rw[bKz hF hk hB1];rfl
 | false=>
 cases c2:(kd==(2:Int)) with
 | true=>
  simp only[zY,zZ,cMr,zU,zV];cases hin:inR n 0 ((w.2.2.2.2.2.1.length:Int) - 1) with
  | false=>rfl
  | true=>
   obtain⟨i,x,rfl,hx,_,_⟩:=aKg l1 hin;have hx:(bS w)[i]? =U x:=hx;have e1:=bU7 (w:=w) hx l1;have kg:=aQl hk i;obtain⟨m1,m2,m3⟩:=aGo kg (by omega);have hxm:=cMw hx;have htx:tot tPk x.2.2<=34359738368:=by
    have h1:=kA (t:=tFy) hxm;have h2:tot tFy x=tot tPk x.2.2:=by simp[sE,vU]
    have :=hk.tot;omega
   have e2:=bCp (w:=aG7 w i) (r:=x.1) (inn:=x.2.1) m1 m2 m3 htx (hk.bytes.fly x hxm);have e3:Option.bind (Option.bind (fQ (aG7 w i) x.1 x.2.1 x.2.2) λy4=>U y4) (λs5=>U (X,s5))=U (X,aN (pO (aG7 w i) x.1 x.2.1 x.2.2)):=by rw[e2];rfl
   rw[zZ,e1,aA];have hx':w.2.2.2.2.2.1[((i:Nat):Int).toNat]? =U x:=by rw[cMt];exact hx
   rw[hx'];exact e3
 | false=>
 cases c3:(kd==(3:Int)) with
 | true=>
  simp only[zY,zZ,cMr,zU,zV];cases hin:inR n 0 ((w.2.2.2.2.2.1.length:Int) - 1) with
  | false=>rfl
  | true=>
   obtain⟨i,x,rfl,hx,_,_⟩:=aKg l1 hin;have hx:(bS w)[i]? =U x:=hx;have e1:=bU7 (w:=w) hx l1;rw[zZ,e1,aA];rfl
 | false=>
 cases c4:(kd==(4:Int)) with
 | true=>
  simp only[zY,zZ,cMr,zU,zV];cases hin:inR n 0 ((w.2.2.2.2.2.1.length:Int) - 1) with
  | false=>rfl
  | true=>
   obtain⟨i,x,rfl,hx,hlt,hz⟩:=aKg l1 hin;have hx:(bS w)[i]? =U x:=hx;have hxm:=cMw hx;have htx:tot tPk x.2.2<=274877906944:=by
    have h1:=kA (t:=tFy) hxm;have h2:tot tFy x=tot tPk x.2.2:=by simp[sE,vU]
    have :=hk.tot;omega
   have hx':w.2.2.2.2.2.1[((i:Nat):Int).toNat]? =U x:=by rw[cMt];exact hx
   have e1:=aJu (iR htx);cases D ((w.2.2.2.2.2.1.length:Int)>=150) with
   | true=>rfl
   | false=>
    simp only[cMp,cMx,zY,zZ,aA,hlt,hz,hx',a1,cN7];rw[show ((x.2.2.1,x.2.2.2.1,x.2.2.2.2.1,x.2.2.2.2.2.1,x.2.2.2.2.2.2.1,x.2.2.2.2.2.2.2.1,x.2.2.2.2.2.2.2.2.1,x.2.2.2.2.2.2.2.2.2.1,x.2.2.2.2.2.2.2.2.2.2.1,x.2.2.2.2.2.2.2.2.2.2.2):den tPk)=x.2.2 from rfl,e1,aA];rfl
 | false=>
 cases c5:(kd==(5:Int)) with
 | true=>
  simp only[zY,zZ,cMr,zU,zV,aA,cOm];rw[show ((w.1,w.2.1,w.2.2.1,w.2.2.2.1,w.2.2.2.2.1,w.2.2.2.2.2.1,w.2.2.2.2.2.2.1,w.2.2.2.2.2.2.2.1,w.2.2.2.2.2.2.2.2):den tNw)=w from rfl,bUk n1.links n1.dead];rfl
 | false=>
 cases c6:(kd==(6:Int)) with
 | true=>
  simp only[zY,zZ,cMr,zU,zV,aA,cOw];rw[show ((w.1,w.2.1,w.2.2.1,w.2.2.2.1,w.2.2.2.2.1,w.2.2.2.2.2.1,w.2.2.2.2.2.2.1,w.2.2.2.2.2.2.2.1,w.2.2.2.2.2.2.2.2):den tNw)=w from rfl,bUk n1.links n1.dead];rfl
 | false=>
 cases c7:(kd==(7:Int)) with
 | true=>
  simp only[zY,zZ,cMr,zU,zV,aA,cN5,aD,aDg n1.as];have e1:=aJu (iR hp);cases cK w.1 to with
  | false=>rfl
  | true=>
   cases D ((w.2.2.2.2.2.1.length:Int)>=150) with
   | true=>rfl
   | false=>
    simp only[cMp,cMx,zY,zZ,aA,a1,e1];rfl
 | false=>
 cases c8:(kd==(8:Int)) with
 | true=>
  simp only[zY,zZ,cMr,zU,zV,aA,cN5,aD];unfold aDs ixb pj2 pj9 zz4 zz5 zz6 zz7 zz8 zz9;simp only[w2,fB,aA,c8,zZ];cases hin:inR n 0 ((w.2.2.2.2.2.2.1.length:Int) - 1) with
  | false=>rfl
  | true=>
   obtain⟨i,x,rfl,hx,hlt,hz⟩:=aKg l2 hin;have hx:(aG w)[i]? =U x:=hx;have hxm:=cMw hx;have hx':w.2.2.2.2.2.2.1[((i:Nat):Int).toNat]? =U x:=by rw[cMt];exact hx
   have hfx:tot tFl x<=34359738368:=by
    have h1:=kA (t:=tFl) hxm;have :=hk.tot;omega
   have e1:=cJv (f:=x) (b:=data) ((bG hfx).mono (by decide)) hd;have hlt2:D (((i:Nat):Int).toNat<w.2.2.2.2.2.2.1.length)=X:=zX (by rw[cMt];exact (cM0.1 hx).1);simp only[cMp,zY,zZ,hlt,hz,hx',hlt2,aA];rw[show ((x.1,x.2.1,x.2.2.1,x.2.2.2.1,x.2.2.2.2.1,x.2.2.2.2.2.1,x.2.2.2.2.2.2.1,x.2.2.2.2.2.2.2.1,x.2.2.2.2.2.2.2.2):den tFl)=x from rfl,e1,aA];unfold bBh aTh;cases tW (enq x data)<;>rfl
 | false=>
  simp only[h9,zY,zZ,cMr,zU,zV,aA,cN5];rfl
def aQq(m:Nat)(l:List Int):Prop:=l.Pairwise (λa b=>a<b)/\ ∀n∈l,0<=n/\n<(m:Int)
def bEa(m:Nat)(dead:List Int)(i:Int)(b:Bool):aQq m (yM m dead i b):=by
 unfold yM;refine⟨List.Pairwise.filter _ (List.pairwise_map.2 (List.pairwise_lt_range.imp λh=>by omega)),λn hn=> ?_⟩;obtain⟨k,hk,rfl⟩:=cMs.1 (cM6.1 hn).1;have :=List.mem_range.1 hk;exact⟨by omega,by omega⟩
def bA1:∀{a b:List Int},a.Pairwise (λx y=>x<y)->b.Pairwise (λx y=>x<y)->(∀x,x∈a↔x∈b)->a=b
 | [],[],_,_,_=>rfl
 | [],y::b,_,_,h=>absurd ((h y).2 (by simp)) (by simp)
 | x::a,[],_,_,h=>absurd ((h x).1 (by simp)) (by simp)
 | x::a,y::b,ha,hb,h=>by
  rw[List.pairwise_cons]at ha hb;have hxy:x=y:=by
   rcases cMv.1 ((h x).1 (by simp)) with e | e
   .exact e
   .rcases cMv.1 ((h y).2 (by simp)) with e' | e'
    .exact e'.symm
    .have h1:=ha.1 y e';have h2:=hb.1 x e;omega
  subst hxy;rw[bA1 ha.2 hb.2 λz=> ?_];constructor
  .intro hz;have :=ha.1 z hz;rcases cMv.1 ((h z).1 (cM4 _ hz)) with e | e
   .omega
   .exact e
  .intro hz;have :=hb.1 z hz;rcases cMv.1 ((h z).2 (cM4 _ hz)) with e | e
   .omega
   .exact e
def cDz{l:List Int}{n:Int}(h:l.Pairwise λx y=>x<y):(yL l n).Pairwise λx y=>x<y:=by
 unfold yL;split
 .exact h
 .rename_i hne;have hlt:∀x∈l.take (oK l n),x<n:=λx hx=>by
   obtain⟨i,hi,he⟩:=bSd hx;obtain⟨hil,e⟩:=cM0.1 he;have :=List.not_of_lt_findIdx (p:=λx=> !D (x<n)) (xs:=l) (show i<l.findIdx _ from hi);rw[e]at this;simpa using this
  have hgt:∀x∈l.drop (oK l n),n<x:=λx hx=>by
   obtain⟨i,he⟩:=cPs.1 hx;rw[cN8]at he;obtain⟨hil,e⟩:=cM0.1 he;have hp:oK l n<l.length:=by omega
   have h1:=List.findIdx_getElem (p:=λx=> !D (x<n)) (xs:=l) (w:=hp);have h1: ¬ (l[oK l n]'hp<n):=by
    have h1:(!D (l[oK l n]'hp<n))=X:=h1;simpa using h1
   have h2:l[oK l n]'hp≠n:=λe'=>hne (by rw[cMz hp,e'])
   by_cases hi0:i=0
   .subst hi0;have e:l[oK l n]'hp=x:=e;omega
   .have :=(List.pairwise_iff_getElem.1 h) (oK l n) (oK l n+i) hp hil (by omega);rw[e]at this;omega
  rw[cNp,List.pairwise_append];refine⟨h.sublist (List.take_sublist _ _),?_,λx hx y hy=> ?_⟩
  .rw[List.singleton_append,List.pairwise_cons];exact⟨hgt,h.sublist (List.drop_sublist _ _)⟩
  .rcases cM3.1 hy with hy | hy
   .rw[cM2.1 hy];exact hlt x hx
   .have :=hlt x hx;have :=hgt y hy;omega
def bGb{l:List Int}{n:Int}:oD l n=X↔n∈l:=by
 unfold oD;rw[cN3,List.all_eq_false];constructor
 .rintro⟨x,hx,e⟩
  have :x=n:=by simpa using e
  rw[<- this];exact hx
 .intro h;exact⟨n,h,by simp⟩
def bDn{m:Nat}{dead:List Int}{i x:Int}{b:Bool}:x∈yM m dead i b↔(0<=x/\x<(m:Int))/\((x∈dead/\x≠i)\/(b=X/\x=i)):=by
 unfold yM;rw[cM6];constructor
 .rintro⟨h1,h2⟩
  obtain⟨k,hk,rfl⟩:=cMs.1 h1;have :=List.mem_range.1 hk;simp only[cOe,cMu,bne_iff_ne,beq_iff_eq]at h2;exact⟨⟨by omega,by omega⟩,h2.imp (λh=>⟨bGb.1 h.1,h.2⟩) id⟩
 .rintro⟨⟨h1,h2⟩,h3⟩
  obtain⟨k,rfl⟩:=cO3 h1;refine⟨cMs.2 ⟨k,List.mem_range.2 (by omega),rfl⟩,?_⟩;simp only[cOe,cMu,bne_iff_ne,beq_iff_eq];exact h3.imp (λh=>⟨bGb.2 h.1,h.2⟩) id
def bUf{m:Nat}{dead:List Int}{i:Int}(h:aQq m dead)(hi:0<=i/\i<(m:Int)):yL dead i=yM m dead i X:=by
 refine bA1 (cDz h.1) (bEa m dead i X).1 λx=> ?_
 rw[bDn];constructor
 .intro hx;rcases bV5 hx with rfl | hx
  .exact⟨hi,.inr ⟨rfl,rfl⟩⟩
  .by_cases e:x=i
   .subst e;exact⟨hi,.inr ⟨rfl,rfl⟩⟩
   .exact⟨h.2 x hx,.inl ⟨hx,e⟩⟩
 .rintro⟨_,⟨hx,_⟩ | ⟨_,rfl⟩⟩
  .exact bX7 hx
  .exact bTz _ _
def bRz{m:Nat}{dead:List Int}{i:Int}(h:aQq m dead):(dead.filter λx=>x != i)=yM m dead i Y:=by
 refine bA1 (h.1.filter _) (bEa m dead i Y).1 λx=> ?_
 rw[bDn,cM6];constructor
 .rintro⟨hx,e⟩
  exact⟨h.2 x hx,.inl ⟨hx,by simpa using e⟩⟩
 .rintro⟨_,⟨hx,e⟩ | ⟨e,_⟩⟩
  .exact⟨hx,by simpa using e⟩
  .cases e
def bRy{w:den tNw}{i:Nat}{x:den tFy}(hx:(bS w)[i]? =U x)(hl:(bS w).length<=68719476736):gO w (i:Int)=U (dF x (aG7 w i)):=by
 have hlt:i<(bS w).length:=(cM0.1 hx).1;have hx:w.2.2.2.2.2.1[((i:Nat):Int).toNat]? =U x:=by rw[cMt];exact hx
 have h1:D ((i:Int)<(w.2.2.2.2.2.1.length:Int))=X:=zX (by have :i<w.2.2.2.2.2.1.length:=hlt;omega);have e1:wr ((i:Int)+1)=((i+1:Nat):Int):=(wri (by omega) (by omega)).trans (by omega);have h2:bH ((i+1:Nat):Int) (w.2.2.2.2.2.1.length:Int) (w.2.2.2.2.2.1.length:Int)=X:=wM (show i+1<=w.2.2.2.2.2.1.length from hlt);have h3:bH (0:Int) (i:Int) (w.2.2.2.2.2.1.length:Int)=X:=aDn (k:=i) (Nat.le_of_lt hlt);have hl:w.2.2.2.2.2.1.length<=68719476736:=hl;unfold gO ixb aK aS bA zz4 zz5 zz6 zz7 zz8 zz9;simp only[h1,hx,aA,zZ,e1,h2,h3,fL,aC0,cNf,aC (b:=128) (n:=([]:lFy).length) (m:=(w.2.2.2.2.2.1.take i).length) (by decide) (by simp;omega),aC (b:=128) (n:=(w.2.2.2.2.2.1.take i).length) (m:=(w.2.2.2.2.2.1.drop (i+1)).length) (by decide) (by simp;omega),zX (show (0:Int)<=(i:Int) by omega)];rfl
def cMi{B F:Nat}{w:den tNw}{e:den yG}(hF:F<=1000)(hk:fH B F w)(hB:B+(F+1) * (160+F)<=34359738368)(h9:(e.1==(9:Int))=Y)(hd:SmB 137438953472 (.sl tb) e.2.2.1)(hp:tot tPk e.2.2.2.2.2<=274877906944)(hdead:aQq (nT w).2.length (bC w)):kS w e=U ((doW w e).1,aN (doW w e).2):=by
 obtain⟨kd,n,data,to,ing,pk⟩:=e;simp only at h9 hd hp;have hB0:B<=34359738368:=by have :=cM7 ((F+1) * (160+F));omega
 have hB1:B+F * (160+F)<=34359738368:=by rw[cNk]at hB;omega
 have l1:w.2.2.2.2.2.1.length<=68719476736:=aKd hk (by omega);have l2:w.2.2.2.2.2.2.1.length<=68719476736:=cMo hk.flows (by omega);obtain⟨n1,n2,n3⟩:=aGo hk (by omega);have l3:w.1.2.length<=68719476736:=n1.links;have l4:w.2.2.2.2.1.length<=68719476736:=by
  have h1:=dX w;have h2:=cO (t:=ti) (bC w);have h3:=hk.tot;have h4:(bC w).length<=68719476736:=by omega
  exact h4
 have w1:wr ((w.2.2.2.2.2.1.length:Int) - 1)=(w.2.2.2.2.2.1.length:Int) - 1:=dN (by omega);have w2:wr ((w.2.2.2.2.2.2.1.length:Int) - 1)=(w.2.2.2.2.2.2.1.length:Int) - 1:=dN (by omega);have w3:wr ((w.1.2.length:Int) - 1)=(w.1.2.length:Int) - 1:=dN (by omega);have a1:aF 128 w.2.2.2.2.2.1.length 1=X:=aC (by decide) (by omega);unfold kS doW ixb aK eG aHz pj2 pj3 pj9 aL aS bA bZ dR oC yR yU yX aBb aBa aGu aLc aLj aLd aLn zz4 zz5 zz6 zz7 zz8 zz9;simp only[w1,w2,w3,gU,aA];cases c1:(kd==(1:Int)) with
 | true=>
  simp only[zZ];rw[show ((w.1,w.2.1,w.2.2.1,w.2.2.2.1,w.2.2.2.2.1,w.2.2.2.2.2.1,w.2.2.2.2.2.2.1,w.2.2.2.2.2.2.2.1,w.2.2.2.2.2.2.2.2):den tNw)=w from rfl,bLk hF hk hB1];rfl
 | false=>
 cases c2:(kd==(2:Int)) with
 | true=>
  have c3:(kd==(3:Int))=Y:=by rw[eq_of_beq c2];rfl
  simp only[zY,zZ,aA,c3,cMr,zU,zV];cases hin:inR n 0 ((w.2.2.2.2.2.1.length:Int) - 1) with
  | false=>rfl
  | true=>
   obtain⟨i,x,rfl,hx,_,_⟩:=aKg l1 hin;have hx:(bS w)[i]? =U x:=hx;have e1:=bRy (w:=w) hx l1;have kg:=aQl hk i;obtain⟨m1,m2,m3⟩:=aGo kg (by omega);have hxm:=cMw hx;have htx:tot tPk x.2.2<=34359738368:=by
    have h1:=kA (t:=tFy) hxm;have h2:tot tFy x=tot tPk x.2.2:=by simp[sE,vU]
    have :=dX w;have :=hk.tot;omega
   have e2:=bBa (w:=aG7 w i) (r:=x.1) (inn:=x.2.1) m1 m2 m3 htx (hk.bytes.fly x hxm);have e3:Option.bind (cC (aG7 w i) x.1 x.2.1 x.2.2) (λy7=>(U (cMn y7):Option ((lFy×lFl×lIb×lAS×lLk×lSg×lSg×Int×lRs×lUs×Int×List Int×Int)⊕(Bool×lFy×lFl×lIb×lAS×lLk×lSg×lSg×Int×lRs×lUs×Int×List Int×Int))))=U (cMn (aN (pO (aG7 w i) x.1 x.2.1 x.2.2))):=by rw[e2];rfl
   have hx':w.2.2.2.2.2.1[((i:Nat):Int).toNat]? =U x:=by rw[cMt];exact hx
   simp only[cMp,zY];rw[show ((w.1,w.2.1,w.2.2.1,w.2.2.2.1,w.2.2.2.2.1,w.2.2.2.2.2.1,w.2.2.2.2.2.2.1,w.2.2.2.2.2.2.2.1,w.2.2.2.2.2.2.2.2):den tNw)=w from rfl,e1,aA,hx'];exact congrArg (λo=>Option.bind o λz=>cMq (λs32=>U (X,s32)) U z) e3
 | false=>
 cases c3:(kd==(3:Int)) with
 | true=>
  simp only[zY,zZ,aA,cMr,zU,zV];cases hin:inR n 0 ((w.2.2.2.2.2.1.length:Int) - 1) with
  | false=>rfl
  | true=>
   obtain⟨i,x,rfl,hx,_,_⟩:=aKg l1 hin;have hx:(bS w)[i]? =U x:=hx;have e1:=bRy (w:=w) hx l1;simp only[cMp,zY];rw[show ((w.1,w.2.1,w.2.2.1,w.2.2.2.1,w.2.2.2.2.1,w.2.2.2.2.2.1,w.2.2.2.2.2.2.1,w.2.2.2.2.2.2.2.1,w.2.2.2.2.2.2.2.2):den tNw)=w from rfl,e1,aA];rfl
 | false=>
 cases c4:(kd==(4:Int)) with
 | true=>
  simp only[zY,zZ,aA,cMr,zU,zV];cases hin:inR n 0 ((w.2.2.2.2.2.1.length:Int) - 1) with
  | false=>rfl
  | true=>
   obtain⟨i,x,rfl,hx,hlt,hz⟩:=aKg l1 hin;have hx':w.2.2.2.2.2.1[((i:Nat):Int).toNat]? =U x:=by rw[cMt];exact hx
   cases D ((w.2.2.2.2.2.1.length:Int)>=150) with
   | true=>rfl
   | false=>
    simp only[cMp,cMx,zY,zZ,aA,hlt,hz,hx',a1,cN7];rfl
 | false=>
 cases c5:(kd==(5:Int)) with
 | true=>
  simp only[zY,zZ,aA,cMr,zU,zV,cOm,aNq (l:=w.2.2.2.2.1) (show w.2.2.2.2.1.length<=549755813888 by omega),aTw (l:=w.2.2.2.2.1) (show w.2.2.2.2.1.length<=137438953472 by omega)];unfold aQ5 aMh;cases hin:inR n 0 ((w.1.2.length:Int) - 1) with
  | false=>
   cases oD (bC w) n<;>rfl
  | true=>
   obtain⟨g0,g1⟩:=bQ.1 hin;cases hh:oD (bC w) n with
   | true=>
    rfl
   | false=>
    have ef:=bUf (m:=(nT w).2.length) (dead:=bC w) (i:=n) hdead ⟨g0,Int.lt_of_le_of_lt g1 (show ((w.1.2.length:Int) - 1<(w.1.2.length:Int)) by omega)⟩;have ef:yL w.2.2.2.2.1 n=yM (nT w).2.length (bC w) n X:=ef;rw[ef];rfl
 | false=>
 cases c6:(kd==(6:Int)) with
 | true=>
  simp only[zY,zZ,aA,cMr,zU,zV,cOw,aNq (l:=w.2.2.2.2.1) (show w.2.2.2.2.1.length<=549755813888 by omega)];unfold aQ5 aMh;cases hin:inR n 0 ((w.1.2.length:Int) - 1) with
  | false=>
   cases oD (bC w) n<;>rfl
  | true=>
   cases hh:oD (bC w) n with
   | false=>
    rfl
   | true=>
    simp only[cMp,zY,aA];have ef:=bRz (m:=(nT w).2.length) (dead:=bC w) (i:=n) hdead;have ef:(w.2.2.2.2.1.filter λx=>x != n)=yM (nT w).2.length (bC w) n Y:=ef;refine bKj (G:=λo=>Option.bind o (λz=>cMq (λs32=>U (X,s32)) U z)=U (X,aN (aMn w (yM (nT w).2.length (bC w) n Y)))) w.2.2.2.2.1.length (λs:Int×List Int=>s.1) (λk s=>s.2.length<=k/\s.2=(w.2.2.2.2.1.take k).filter λx=>x != n) (λr:List Int=>r=w.2.2.2.2.1.filter λx=>x != n) ?_ ?_ 0 ((0:Int),[]) (cM7 _) rfl ⟨by simp,by simp⟩ ?_
    .rintro k ⟨_,l⟩ hk' rfl ⟨g1,g2⟩
     simp only at g1 g2;right;have hx:w.2.2.2.2.1[k]? =U w.2.2.2.2.1[k]:=cMz hk';have ht:(w.2.2.2.2.1.take (k+1)).filter (λx=>x != n)=l++(if w.2.2.2.2.1[k] != n then [w.2.2.2.2.1[k]] else []):=by
      rw[List.take_add_one,hx,List.filter_append,g2];congr 1;show List.filter _ [w.2.2.2.2.1[k]]=_;rw[cPd,List.filter_nil]
     simp only[zX (show (k:Int)<(w.2.2.2.2.1.length:Int) by omega),zZ,aR,hx,aA,aC (b:=8) (n:=l.length) (m:=1) (by decide) (by omega),show wr ((k:Int)+1)=((k+1:Nat):Int) from (wri (by omega) (by omega)).trans (by omega)];cases hb:(w.2.2.2.2.1[k] != n) with
     | true=>rw[hb,zT rfl]at ht;exact⟨_,rfl,rfl,by simp;omega,ht.symm⟩
     | false=>rw[hb,zS (by simp),cNn]at ht;exact⟨_,rfl,rfl,by show l.length<=k+1;omega,ht.symm⟩
    .rintro⟨_,l⟩ rfl ⟨g1,g2⟩
     exact⟨l,by simp only[zW (Int.lt_irrefl _),zY],by simpa using g2⟩
    .rintro r rfl
     rw[ef];rfl
 | false=>
 cases c7:(kd==(7:Int)) with
 | true=>
  simp only[zY,zZ,aA,cMr,zU,zV,cN5,aD,aBy n1.as];cases cK w.1 to with
  | false=>rfl
  | true=>
   cases D ((w.2.2.2.2.2.1.length:Int)>=150) with
   | true=>rfl
   | false=>
    simp only[cMp,cMx,zY,zZ,aA,a1];rfl
 | false=>
 cases c8:(kd==(8:Int)) with
 | true=>
  simp only[zY,zZ,aA,cMr,zU,zV,cN5,bB,cB,bL,bJ,bO];cases hin:inR n 0 ((w.2.2.2.2.2.2.1.length:Int) - 1) with
  | false=>rfl
  | true=>
   obtain⟨i,x,rfl,hx,hlt,hz⟩:=aKg l2 hin;have hx:(aG w)[i]? =U x:=hx;have hxm:=cMw hx;have hx':w.2.2.2.2.2.2.1[((i:Nat):Int).toNat]? =U x:=by rw[cMt];exact hx
   have hfx:tot tFl x<=34359738368:=by
    have h1:=kA (t:=tFl) hxm;have :=dX w;have :=hk.tot;omega
   have e1:=cJr (f:=x) (b:=data) ((bG hfx).mono (by decide)) hd;have hlt2:D (((i:Nat):Int).toNat<w.2.2.2.2.2.2.1.length)=X:=zX (by rw[cMt];exact (cM0.1 hx).1);simp only[cMp,zY,zZ,hlt,hz,hx',hlt2,aA];rw[show ((x.1,x.2.1,x.2.2.1,x.2.2.2.1,x.2.2.2.2.1,x.2.2.2.2.2.1,x.2.2.2.2.2.2.1,x.2.2.2.2.2.2.2.1,x.2.2.2.2.2.2.2.2):den tFl)=x from rfl,e1,aA];unfold bBh aTh;cases tW (enq x data)<;>rfl
 | false=>
  simp only[h9,zY,zZ,aA,cMr,zU,zV,cN5];rfl
def cDn{m:Nat}{l:List Int}(h:(l.zipIdx 0).all (λz=>aCh l m z.2 z.1)=X):aQq m l:=by
 have hz:=(aJ9 (aCh l m) l).1 h;have hr:∀n∈l,0<=n/\n<(m:Int):=λn hn=>by
  obtain⟨k,hk⟩:=cPs.1 hn;have :=hz k n hk;unfold aCh at this;rw[cMu]at this;have :=bQ.1 this.1;omega
 refine⟨List.pairwise_iff_getElem.2 λi j hi hj hij=> ?_,hr⟩;obtain⟨d,rfl⟩:∃d,j=i+1+d:=⟨j - (i+1),by omega⟩
 induction d with
 | zero=>
  have :=hz (i+1) (l[i+1]'hj) (cMz hj);unfold aCh at this;rw[cMu,cOe,zR]at this;rcases this.2 with h0 | h0
  .omega
  .rw[show i+1 - 1=i by omega,cMz hi,cNh]at h0;have h0: ¬ (l[i]'hi>=l[i+1]'hj):=by simpa using h0
   exact Int.not_le.1 h0
 | succ d ih=>
  have h1:=ih (by omega) (by omega);have :=hz (i+1+(d+1)) (l[i+1+(d+1)]'hj) (cMz hj);unfold aCh at this;rw[cMu,cOe,zR]at this;rcases this.2 with h0 | h0
  .omega
  .rw[show i+1+(d+1) - 1=i+1+d by omega,cMz (by omega),cNh]at h0;have h0: ¬ (l[i+1+d]'(by omega)>=l[i+1+(d+1)]'hj):=by simpa using h0
   exact Int.lt_trans h1 (Int.not_le.1 h0)
def apP{b n m:Nat}(hb:b<=60)(h:n+m<=2000000000001):aF b n m=X:=by
 simp only[aF,zR]
 calc (n+m) * (b+1)<=2000000000001 * 61:=Nat.mul_le_mul h (by omega)
  _<=140737488355328:=by decide
def aZt{α β:Type}(g:α->List β):∀(l:List α) (k:Nat) (a:List β),cV (λ_ x a=>a++g x) k l a=a++l.flatMap g
 | [],_,a=>(cNn a).symm
 | x::l,k,a=>by
  show cV _ (k+1) l (a++g x)=_;rw[aZt g l (k+1) (a++g x),List.flatMap_cons,cNp]
def dJ{α β R:Type}(l:List α)(g:α->List β)(out:List β->R)(a0:List β){step:Int×List β->Option ((Int×List β)⊕R)}(hl:l.length<=1000000)(hN:a0.length+(l.map λx=>(g x).length).sum<=2000000000000)
  (hs:∀(k:Nat) (x:α) (a:List β),idx l (k:Int)=U x->l[k]? =U x->x∈l->D ((k:Int)<(l.length:Int))=X->wr ((k:Int)+1)=((k+1:Nat):Int)->a.length+(g x).length<=2000000000000->step ((k:Int),a)=U (.inl (((k+1:Nat):Int),a++g x)))
  (he:∀a,step ((l.length:Int),a)=U (.inr (out a))):aB step ((0:Int),a0)=U (out (a0++l.flatMap g)):=by
 rw[fV (λk (a:List β)=>((k:Int),a)) ((0:Int),a0) a0 l (λ_ x a=>a++g x) cMy (λx=>(g x).length) 2000000000000 out rfl (by omega) hN (λk x a=>by rw[cNa];exact cM5 _) (λk x a h1 h2 h3 h4 h5 h6=>hs k x a h1 h2 (cMw h2) h3 h4 h6) he,aZt]
def aB3{α:Type}{f:α->Nat}{c:Nat}:∀{l:List α},(∀x∈l,f x<=c)->(l.map f).sum<=l.length * c
 | [],_=>cM7 _
 | x::l,h=>by
  have h1:=h x (by simp);have h2:=aB3 (l:=l) λy hy=>h y (cM4 _ hy)
  rw[cNb,List.sum_cons,cM8,cNk];omega
def aFl{α β:Type}{g:α->List β}{c:Nat}:∀{l:List α},(∀x∈l,(g x).length<=c)->(l.flatMap g).length<=l.length * c
 | [],_=>cM7 _
 | x::l,h=>by
  have h1:=h x (by simp);have h2:=aFl (l:=l) λy hy=>h y (cM4 _ hy)
  rw[List.flatMap_cons,cNa,cM8,cNk];omega
def dD(s:den tSg):Int:=match s.2.2 with
 | []=> -1
 | h::_=>h.1
def aBc(s:den tSg):Int:=if s.2.2.length=0 then -1 else ((s.2.2[s.2.2.length - 1]?).getD h0).1
def bU4(s:den tSg):lB s=U (dD s):=by
 unfold lB dD;cases h:s.2.2 with
 | nil=>rfl
 | cons x l=>rfl
def bGd(s:den tSg):lU s=U (dD s):=by
 unfold lU dD;cases h:s.2.2 with
 | nil=>rfl
 | cons x l=>rfl
def bS0{s:den tSg}(hl:s.2.2.length<=1000000):xW s=U (aBc s):=by
 unfold xW aBc
 by_cases h:s.2.2.length=0
 .rw[zT h,h];rfl
 .rw[zS h,show ((s.2.2.length:Int)==0)=Y by rw[beq_eq_false_iff_ne];omega,zY,aZg (by omega) (by omega),aR,cMz (show s.2.2.length - 1<s.2.2.length by omega)];rfl
def bU0{s:den tSg}(hl:s.2.2.length<=1000000):xT s=U (aBc s):=by
 unfold xT aBc
 by_cases h:s.2.2.length=0
 .rw[zT h,h];rfl
 .rw[zS h,show ((s.2.2.length:Int)==0)=Y by rw[beq_eq_false_iff_ne];omega,zY,aZg (by omega) (by omega),aR,cMz (show s.2.2.length - 1<s.2.2.length by omega)];rfl
def bHe(b:Int)(l:List Int):Int:=l.foldl aQ2 b
def aTs(l:eU):List Int:=l.map λh=>h.2.2.2.2
def cFp{l:eU}(hl:l.length<=1000000):aFu l=U (aTs l):=by
 unfold aFu zz4;rw[fV (λk (a:List Int)=>((k:Int),a)) ((0:Int),[]) [] l (λ_ x a=>a++[x.2.2.2.2]) cMy (λ_=>1) 1000000 id rfl (by omega) (by rw[cS];simpa using hl) (λk x a=>by simp) (λk x a hi hx hd hw hk hb=>by
  simp only[hd,hi,hw,zZ,aA,apP (b:=8) (n:=a.length) (m:=1) (by decide) (by omega)]) (λa=>by simp),dQ (λh:den cH=>h.2.2.2.2)]
 rfl
def cE3{b:Int}{l:List Int}(hl:l.length<=1000000):aBp b l=U (bHe b l):=by
 unfold aBp;rw[fV (λk (a:Int)=>(a,(k:Int))) (b,(0:Int)) b l (λ_ x a=>aQ2 a x) (λ_=>0) (λ_=>0) 1 id rfl (by omega) (by rw[sum_nil];omega) (λk x a=>by omega) (λk x a hi hx hd hw hk hb=>by
  simp only[hd,hi,hw,zZ,aA,bG6]) (λa=>by simp),rO]
 rfl
def cE4{b:Int}{l:List Int}(hl:l.length<=1000000):aB5 b l=U (bHe b l):=by
 unfold aB5;rw[fV (λk (a:Int)=>(a,(k:Int))) (b,(0:Int)) b l (λ_ x a=>aQ2 a x) (λ_=>0) (λ_=>0) 1 id rfl (by omega) (by rw[sum_nil];omega) (λk x a=>by omega) (λk x a hi hx hd hw hk hb=>by
  simp only[hd,hi,hw,zZ,aA,bH8]) (λa=>by simp),rO]
 rfl
def cIn{s:den tSg}{n:Nat}(hn:n<=s.2.2.length)(hl:s.2.2.length<=1000000):aCn s (n:Int)=U (aTs (s.2.2.take n)):=by
 have e:(s.2.2.take n).length=n:=by rw[cNv];omega
 unfold aCn zz4;rw[fV (λk (a:List Int)=>((k:Int),a)) ((0:Int),[]) [] (s.2.2.take n) (λ_ x a=>a++[x.2.2.2.2]) cMy (λ_=>1) 1000000 id rfl (by omega) (by rw[cS];simp;omega) (λk x a=>by simp) (λk x a hi hx hd hw hk hb=>by
  have hx:=(aRj hx).1;rw[e]at hd;simp only[hd,aR,hx,hw,zZ,aA,apP (b:=8) (n:=a.length) (m:=1) (by decide) (by omega)]) (λa=>by rw[e];simp),dQ (λh:den cH=>h.2.2.2.2)]
 rfl
def vS(s:den tSg)(i:Int):Int:=if inR i 0 (s.2.2.length:Int) then bHe s.2.1 (aTs (s.2.2.take i.toNat)) else 0
def aVb{s:den tSg}{i:Int}(hl:s.2.2.length<=1000000):qH s i=U (vS s i):=by
 unfold qH vS;simp only[gU,aA];cases h:inR i 0 (s.2.2.length:Int) with
 | false=>rfl
 | true=>
  obtain⟨g0,g1⟩:=bQ.1 h;obtain⟨n,rfl⟩:=cO3 g0;have e:(s.2.2.take n).length<=1000000:=by rw[cNv];omega
  have e2:(aTs (s.2.2.take n)).length<=1000000:=by unfold aTs;rw[cNg];exact e
  have e3:bH (0:Int) (n:Int) (s.2.2.length:Int)=X:=aDn (by omega);simp only[cMp,zY,e3,zZ,fL,cFp e,aA,cE3 e2,zV,cMt]
def aU4{s:den tSg}{i:Int}(hl:s.2.2.length<=1000000):sF s i=U (vS s i):=by
 unfold sF vS pj3;simp only[fB,aA];cases h:inR i 0 (s.2.2.length:Int) with
 | false=>rfl
 | true=>
  obtain⟨g0,g1⟩:=bQ.1 h;obtain⟨n,rfl⟩:=cO3 g0;have e2:(aTs (s.2.2.take n)).length<=1000000:=by unfold aTs;rw[cNg,cNv];omega
  have e3:aCn (s.1,s.2.1,s.2.2) (n:Int)=U (aTs (s.2.2.take n)):=cIn (s:=s) (by omega) hl;simp only[cMp,zY,e3,aA,cE4 e2,zV,cMt]
def pR(s:den tSg)(k i:Int):den tPp:=
 if inR i 0 ((s.2.2.length:Int) - 1)&&inR k 1 4 then
  (if uA k then (k,s.1,vS s (s.2.2.length:Int),(s.2.2.drop i.toNat).reverse) else (k,s.1,vS s i,s.2.2.drop i.toNat))
 else (0,0,0,[])
def aP7(s:den tSg)(k i:Int):(pR s k i).2.2.2.length<=s.2.2.length:=by
 unfold pR;split
 .split
  .show (s.2.2.drop i.toNat).reverse.length<=_;rw[List.length_reverse,cOz];omega
  .show (s.2.2.drop i.toNat).length<=_;rw[cOz];omega
 .exact cM7 _
def aSw{s:den tSg}{k i:Int}(hl:s.2.2.length<=1000000):gE s k i=U (pR s k i):=by
 unfold gE pR pj3 pj4;simp only[gU,aA,bB,cB,bL,bJ,bO,aAr (n:=(s.2.2.length:Int) - 1) (by omega) (by omega)];cases c1:inR i 0 ((s.2.2.length:Int) - 1) with
 | false=>rfl
 | true=>
  cases c2:inR k 1 4 with
  | false=>rfl
  | true=>
   obtain⟨g0,g1⟩:=bQ.1 c1;obtain⟨n,rfl⟩:=cO3 g0;have e1:bH (n:Int) (s.2.2.length:Int) (s.2.2.length:Int)=X:=wM (by omega);have e2:qH (s.1,s.2.1,s.2.2) (n:Int)=U (vS s (n:Int)):=aVb (s:=s) hl;have e3:qH (s.1,s.2.1,s.2.2) (s.2.2.length:Int)=U (vS s (s.2.2.length:Int)):=aVb (s:=s) hl;have e4:(s.2.2.drop n).length<=549755813888:=by rw[cOz];omega
   simp only[cMp,zY,aA,e1,zZ,e2,aC0,bBq e4,aMt,cN7,zV,cMt];cases uA k with
   | false=>rfl
   | true=>simp only[zZ,e3,bTb e4,aA,zV]
def aNk{s:den tSg}{k i:Int}(hl:s.2.2.length<=1000000):eH s k i=U (pR s k i):=by
 unfold eH pR pj3 pj4 pj5 zz4;simp only[fB,aA,bB,cB,bL,bJ,bO,aAr (n:=(s.2.2.length:Int) - 1) (by omega) (by omega)];cases c1:inR i 0 ((s.2.2.length:Int) - 1) with
 | false=>rfl
 | true=>
  cases c2:inR k 1 4 with
  | false=>rfl
  | true=>
   obtain⟨g0,g1⟩:=bQ.1 c1;obtain⟨n,rfl⟩:=cO3 g0;have e1:bH (n:Int) (s.2.2.length:Int) (s.2.2.length:Int)=X:=wM (by omega);have e2:sF (s.1,s.2.1,s.2.2) (n:Int)=U (vS s (n:Int)):=aU4 (s:=s) hl;have e3:sF (s.1,s.2.1,s.2.2) (s.2.2.length:Int)=U (vS s (s.2.2.length:Int)):=aU4 (s:=s) hl;simp only[cMp,zY,aA,e1,zZ,e2,aC0,aM0,cN7,zV,cMt];cases uA k with
   | false=>
    simp only[cMx,zZ,cNf,apP (b:=40) (n:=([]:eU).length) (m:=(s.2.2.drop n).length) (by decide) (by simp;omega),cMr,zU]
   | true=>
    simp only[cMp,zY,e3,aA,zV];have key:∀(m:Nat) (a:eU),n+m<=s.2.2.length->a.length+m<=s.2.2.length->aB (λs11:Int×Int×Int×Int×eU=>cond (D (s11.1>=(n:Int))) (Option.bind (idx s.2.2 s11.1) λx12=>cond (aF 40 s11.2.2.2.2.length 1) (U (cMn (wr (s11.1 - (1:Int)),s11.2.1,s11.2.2.1,s11.2.2.2.1,s11.2.2.2.2++[x12]))) W) (U (cMm (s11.2.1,s11.2.2.1,s11.2.2.2.1,s11.2.2.2.2)))) (((n+m:Nat):Int) - 1,k,s.1,vS s (s.2.2.length:Int),a)=U (k,s.1,vS s (s.2.2.length:Int),a++((s.2.2.drop n).take m).reverse):=by
     intro m
     induction m with
     | zero=>
      intro a h1 h2;refine aI ?_;simp only[zW (show ¬ (((n+0:Nat):Int) - 1>=(n:Int)) by omega),zY,List.take_zero,List.reverse_nil,cNn]
     | succ m ih=>
      intro a h1 h2;have hx:s.2.2[n+m]? =U (s.2.2[n+m]'(by omega)):=cMz (by omega);have hw:((n+(m+1):Nat):Int) - 1=((n+m:Nat):Int):=by omega
      refine (aP (s':=(((n+m:Nat):Int) - 1,k,s.1,vS s (s.2.2.length:Int),a++[s.2.2[n+m]'(by omega)])) ?_).trans ?_
      .simp only[hw,zX (show ((n+m:Nat):Int)>=(n:Int) by omega),zZ,aR,hx,aA,apP (b:=40) (n:=a.length) (m:=1) (by decide) (by omega),aAr (n:=((n+m:Nat):Int) - 1) (by omega) (by omega)]
      .rw[ih (a++[s.2.2[n+m]'(by omega)]) (by omega) (by simp;omega)];have hd:(s.2.2.drop n)[m]? =U (s.2.2[n+m]'(by omega)):=by rw[cN8];exact hx
       rw[List.take_add_one,hd,List.reverse_append];simp
    have :=key (s.2.2.length - n) [] (by omega) (by simp);rw[show n+(s.2.2.length - n)=s.2.2.length by omega,cNf,List.take_of_length_le (by rw[cOz];omega)]at this;rw[this];rfl
def cX(d:lSg)(r:Int):lSg:=d.filter λs=>aBc s==r
def qB(c:lSg)(a b:Int):lSg:=c.filter λs=>dD s==a&&aBc s==b
def aG2{α:Type}(p:α->Bool):∀l:List α,(l.flatMap λx=>cond (p x) [x] [])=l.filter p
 | []=>rfl
 | x::l=>by
  rw[List.flatMap_cons,aG2 p l,cPd];cases p x<;>rfl
def aR0{α:Type}(p:α->Bool)(l:List α):(l.map λx=>(cond (p x) [x] []:List α).length).sum<=l.length:=by
 have :=aB3 (f:=λx=>(cond (p x) [x] []:List α).length) (c:=1) (l:=l) λx _=>by cases p x<;>simp
 omega
def bIn{k:den tDb}{r:Int}(hl:k.1.length<=1000000)(hh:∀s∈k.1,s.2.2.length<=1000000):kK k r=U (cX k.1 r):=by
 unfold kK cX pj3;have hf:=aR0 (λs=>aBc s==r) k.1;rw[dJ k.1 (λs=>cond (aBc s==r) [s] []) id [] hl (by simpa using cMo hf (cMo hl (by decide))) (λi x a hi hx hm hd hw hb=>by
  have h1:=hh x hm;have e1:xW (x.1,x.2.1,x.2.2)=U (aBc x):=bS0 (s:=x) h1;have e2:cG (x.1,x.2.1,x.2.2)=U x:=aH1 (x:=x) (by omega);simp only[hd,zZ,hi,aA,e1,e2,hw];cases c:aBc x==r
  .simp
  .rw[c]at hb;simp only[zZ,apP (b:=40) (n:=a.length) (m:=1) (by decide) (by simp at hb;omega),aA]) (λa=>by simp)]
 rw[aG2,cNf];rfl
def aQr{k:den tDb}{r:Int}(hl:k.1.length<=1000000)(hh:∀s∈k.1,s.2.2.length<=1000000):eP k r=U (cX k.1 r):=by
 unfold eP cX pj3;have hf:=aR0 (λs=>aBc s==r) k.1;rw[dJ k.1 (λs=>cond (aBc s==r) [s] []) id [] hl (by simpa using cMo hf (cMo hl (by decide))) (λi x a hi hx hm hd hw hb=>by
  have h1:=hh x hm;have e1:xT (x.1,x.2.1,x.2.2)=U (aBc x):=bU0 (s:=x) h1;have e2:eB (x.1,x.2.1,x.2.2)=U x:=aGs (x:=x) (by omega);simp only[hd,zZ,hi,aA,e1,e2,hw];cases c:aBc x==r
  .simp
  .rw[c]at hb;simp only[zZ,apP (b:=40) (n:=a.length) (m:=1) (by decide) (by simp at hb;omega),aA]) (λa=>by simp)]
 rw[aG2,cNf];rfl
def bL0{k:den tDb}{p q:Int}(hl:k.2.length<=1000000)(hh:∀s∈k.2,s.2.2.length<=1000000):uG k p q=U (qB k.2 p q):=by
 unfold uG qB pj3;have hf:=aR0 (λs=>dD s==p&&aBc s==q) k.2;rw[dJ k.2 (λs=>cond (dD s==p&&aBc s==q) [s] []) id [] hl (by simpa using cMo hf (cMo hl (by decide))) (λi x a hi hx hm hd hw hb=>by
  have h1:=hh x hm;have e0:lB (x.1,x.2.1,x.2.2)=U (dD x):=bU4 x;have e1:xW (x.1,x.2.1,x.2.2)=U (aBc x):=bS0 (s:=x) h1;have e2:cG (x.1,x.2.1,x.2.2)=U x:=aH1 (x:=x) (by omega);simp only[hd,zZ,hi,aA,e0,e1,e2,hw];cases c:dD x==p
  .simp
  .cases c2:aBc x==q
   .simp
   .rw[c,c2]at hb;simp only[zZ,cN7,apP (b:=40) (n:=a.length) (m:=1) (by decide) (by simp at hb;omega),aA]) (λa=>by simp)]
 rw[aG2,cNf];rfl
def bKo{k:den tDb}{p q:Int}(hl:k.2.length<=1000000)(hh:∀s∈k.2,s.2.2.length<=1000000):oY k p q=U (qB k.2 p q):=by
 unfold oY qB pj3;have hf:=aR0 (λs=>dD s==p&&aBc s==q) k.2;rw[dJ k.2 (λs=>cond (dD s==p&&aBc s==q) [s] []) id [] hl (by simpa using cMo hf (cMo hl (by decide))) (λi x a hi hx hm hd hw hb=>by
  have h1:=hh x hm;have e0:lU (x.1,x.2.1,x.2.2)=U (dD x):=bGd x;have e1:xT (x.1,x.2.1,x.2.2)=U (aBc x):=bU0 (s:=x) h1;have e2:eB (x.1,x.2.1,x.2.2)=U x:=aGs (x:=x) (by omega);simp only[hd,zZ,hi,aA,e0,e1,e2,hw];cases c:dD x==p
  .simp
  .cases c2:aBc x==q
   .simp
   .rw[c,c2]at hb;simp only[zZ,cN7,apP (b:=40) (n:=a.length) (m:=1) (by decide) (by simp at hb;omega),aA]) (λa=>by simp)]
 rw[aG2,cNf];rfl
def fIx(l:eU)(r:Int):Int:=match dG (λk (x:den cH)=>if x.1==r then U (k:Int) else W) 0 l with
 | some v=>v
 | none=> -1
def cCi{s:den tSg}{r:Int}(hl:s.2.2.length<=1000000):oG s r=U (fIx s.2.2 r):=by
 unfold oG fIx;rw[aM (l:=s.2.2) (λk (x:den cH)=>if x.1==r then U (k:Int) else W) (by omega) (λk x hi hd hw hx hk=>by
  simp only[hd,hi,hw,zZ,aA];cases x.1==r<;>rfl) (by simp)]
 cases dG (λk (x:den cH)=>if x.1==r then U (k:Int) else W) 0 s.2.2<;>rfl
def bZb{s:den tSg}{r:Int}(hl:s.2.2.length<=1000000):tK s r=U (fIx s.2.2 r):=by
 unfold tK fIx;rw[aM (l:=s.2.2) (λk (x:den cH)=>if x.1==r then U (k:Int) else W) (by omega) (λk x hi hd hw hx hk=>by
  simp only[hd,hi,hw,zZ,aA];cases x.1==r<;>rfl) (by simp)]
 cases dG (λk (x:den cH)=>if x.1==r then U (k:Int) else W) 0 s.2.2<;>rfl
def lIx(l:eU)(r:Int):Nat->Int
 | 0=> -1
 | n+1=>if ((l[n]?).getD h0).1==r then (n:Int) else lIx l r n
def cJu{s:den tSg}{r:Int}(hl:s.2.2.length<=1000000):wI s r=U (lIx s.2.2 r s.2.2.length):=by
 unfold wI;rw[aAr (n:=(s.2.2.length:Int) - 1) (by omega) (by omega)];have key:∀n:Nat,n<=s.2.2.length->Option.bind (aB (λs3:Int=>cond (D (s3>=(0:Int))) (Option.bind (idx s.2.2 s3) λx4=>cond (x4.1==r) (U (cMm (cMm s3))) (U (cMn (wr (s3 - (1:Int)))))) (U (cMm (cMn ())))) ((n:Int) - 1)) (λz:Unit⊕Int=>cMq (λs5=>U (-1:Int)) U z)=U (lIx s.2.2 r n):=by
  intro n
  induction n with
  | zero=>intro _;rw[aI (r:=cMn ()) (by simp)];rfl
  | succ n ih=>
   intro hn;have hx:s.2.2[n]? =U (s.2.2[n]'(by omega)):=cMz (by omega);have hw:((n+1:Nat):Int) - 1=(n:Int):=by omega
   rw[hw];unfold lIx;rw[hx,cNh];cases c:(s.2.2[n]'(by omega)).1==r with
   | true=>rw[aI (r:=cMm (n:Int)) (by simp only[aJ2,zZ,aR,hx,aA,c])];rfl
   | false=>
    rw[aP (s':=(n:Int) - 1) (by simp only[aJ2,zZ,aR,hx,aA,c,zY,aAr (n:=(n:Int) - 1) (by omega) (by omega)]),ih (by omega)];rfl
 exact key s.2.2.length (cM5 _)
def aOf(up down:den tSg):Nat->lPp
 | 0=>[]
 | n+1=>if lIx down.2.2 ((up.2.2[n]?).getD h0).1 down.2.2.length>=0 then [pR up 1 (n:Int),pR down 4 (lIx down.2.2 ((up.2.2[n]?).getD h0).1 down.2.2.length)] else aOf up down n
def aF7(up down:den tSg):lPp:=aOf up down up.2.2.length
def cJo{up down:den tSg}(h1:up.2.2.length<=1000000)(h2:down.2.2.length<=1000000):tQ up down=U (aF7 up down):=by
 unfold tQ aF7 pj3 pj4;rw[aAr (n:=(up.2.2.length:Int) - 1) (by omega) (by omega)];have key:∀(G:Int->Option (Int⊕(Unit⊕lPp))) (n:Nat),n<=up.2.2.length->
   (∀m:Nat,m<up.2.2.length->G (m:Int)=if lIx down.2.2 ((up.2.2[m]?).getD h0).1 down.2.2.length>=0 then U (.inr (.inr [pR up 1 (m:Int),pR down 4 (lIx down.2.2 ((up.2.2[m]?).getD h0).1 down.2.2.length)])) else U (.inl ((m:Int) - 1)))->G (-1)=U (.inr (.inl ()))->
   Option.bind (aB G ((n:Int) - 1)) (λz:Unit⊕lPp=>cMq (λ_=>U []) U z)=U (aOf up down n):=by
  intro G n
  induction n with
  | zero=>intro _ _ hG;rw[aI (r:=cMn ()) (show G (((0:Nat):Int) - 1)=_ from hG)];rfl
  | succ n ih=>
   intro hn hs he;have hw:((n+1:Nat):Int) - 1=(n:Int):=by omega
   rw[hw];have hg:=hs n (by omega);unfold aOf
   by_cases c:lIx down.2.2 ((up.2.2[n]?).getD h0).1 down.2.2.length>=0
   .rw[zT c]at hg ⊢;rw[aI hg];rfl
   .rw[zS c]at hg ⊢;rw[aP hg];exact ih (by omega) hs he
 refine key _ up.2.2.length (cM5 _) (λm hm=> ?_) (by simp);have hx:up.2.2[m]? =U (up.2.2[m]'hm):=cMz hm;have e1:∀r,wI (down.1,down.2.1,down.2.2) r=U (lIx down.2.2 r down.2.2.length):=λr=>cJu (s:=down) h2
 have e2:∀i,gE (up.1,up.2.1,up.2.2) 1 i=U (pR up 1 i):=λi=>aSw (s:=up) h1
 have e3:∀i,gE (down.1,down.2.1,down.2.2) 4 i=U (pR down 4 i):=λi=>aSw (s:=down) h2
 simp only[aJ2,zZ,aR,hx,aA,cNh,e1,e2,e3,aAr (n:=(m:Int) - 1) (by omega) (by omega)]
 by_cases c:lIx down.2.2 (up.2.2[m]'hm).1 down.2.2.length>=0
 .rw[zT c,zX c,zZ]
 .rw[zS c,zW c,zY]
def aPz{s:den tSg}(hl:s.2.2.length<=1000000):eW s=U (s.2.2.map λh=>(h.1:Int)):=by
 unfold eW;rw[fV (λk (a:List Int)=>((k:Int),a)) ((0:Int),[]) [] s.2.2 (λ_ x a=>a++[x.1]) cMy (λ_=>1) 1000000 id rfl (by omega) (by rw[cS];simpa using hl) (λk x a=>by simp) (λk x a hi hx hd hw hk hb=>by
  simp only[hd,hi,hw,zZ,aA,apP (b:=8) (n:=a.length) (m:=1) (by decide) (by omega)]) (λa=>by simp),dQ (λh:den cH=>(h.1:Int))]
 rfl
def cFs{up down:den tSg}(h1:up.2.2.length<=1000000)(h2:down.2.2.length<=1000000):uX up down=U (aF7 up down):=by
 have e0:aDw up down=U (aF7 up down):=by
  unfold aDw aF7 ixb pj3 pj4;simp only[aPz h1,aPz h2,aA,cNg];rw[aAr (n:=(up.2.2.length:Int) - 1) (by omega) (by omega)];have key:∀(G:Int->Option (Int⊕(Unit⊕lPp))) (n:Nat),n<=up.2.2.length->
    (∀m:Nat,m<up.2.2.length->G (m:Int)=if lIx down.2.2 ((up.2.2[m]?).getD h0).1 down.2.2.length>=0 then U (.inr (.inr [pR up 1 (m:Int),pR down 4 (lIx down.2.2 ((up.2.2[m]?).getD h0).1 down.2.2.length)])) else U (.inl ((m:Int) - 1)))->G (-1)=U (.inr (.inl ()))->
    Option.bind (aB G ((n:Int) - 1)) (λz:Unit⊕lPp=>cMq (λ_=>U []) U z)=U (aOf up down n):=by
   intro G n
   induction n with
   | zero=>intro _ _ hG;rw[aI (r:=cMn ()) (show G (((0:Nat):Int) - 1)=_ from hG)];rfl
   | succ n ih=>
    intro hn hs he;have hw:((n+1:Nat):Int) - 1=(n:Int):=by omega
    rw[hw];have hg:=hs n (by omega);unfold aOf
    by_cases c:lIx down.2.2 ((up.2.2[n]?).getD h0).1 down.2.2.length>=0
    .rw[zT c]at hg ⊢;rw[aI hg];rfl
    .rw[zS c]at hg ⊢;rw[aP hg];exact ih (by omega) hs he
  refine key _ up.2.2.length (cM5 _) (λm hm=> ?_) (by simp);have hx:up.2.2[m]? =U (up.2.2[m]'hm):=cMz hm;have e2:∀i,eH (up.1,up.2.1,up.2.2) 1 i=U (pR up 1 i):=λi=>aNk (s:=up) h1
  have e3:∀i,eH (down.1,down.2.1,down.2.2) 4 i=U (pR down 4 i):=λi=>aNk (s:=down) h2
  have hxm:(up.2.2.map λh=>(h.1:Int))[m]? =U (up.2.2[m]'hm).1:=by rw[cOk,hx];rfl
  simp only[aJ2,bF,zZ,zX (show (m:Int)<(up.2.2.length:Int) by omega),cMt,hxm,hx,cNh,aAr (n:=(m:Int) - 1) (by omega) (by omega),aAr (n:=(down.2.2.length:Int) - 1) (by omega) (by omega),aA,e2,e3];have inner:∀(R:Type) (G:Int->Option (Int⊕(Unit⊕R))) (f:Int->R) (n:Nat),n<=down.2.2.length->
    (∀j:Nat,j<down.2.2.length->G (j:Int)=if ((down.2.2[j]?).getD h0).1==(up.2.2[m]'hm).1 then U (.inr (.inr (f (j:Int)))) else U (.inl ((j:Int) - 1)))->G (-1)=U (.inr (.inl ()))->
    aB G ((n:Int) - 1)=U (if lIx down.2.2 (up.2.2[m]'hm).1 n>=0 then .inr (f (lIx down.2.2 (up.2.2[m]'hm).1 n)) else .inl ()):=by
   intro R G f n
   induction n with
   | zero=>intro _ _ hG;rw[aI (r:=cMn ()) (show G (((0:Nat):Int) - 1)=_ from hG)];rfl
   | succ n ih=>
    intro hn hs he;have hw:((n+1:Nat):Int) - 1=(n:Int):=by omega
    rw[hw];have hg:=hs n (by omega);unfold lIx;cases c:((down.2.2[n]?).getD h0).1==(up.2.2[m]'hm).1 with
    | true=>
     rw[c,zT rfl]at hg;rw[aI hg,zT rfl,zT (by omega)]
    | false=>
     rw[c,zS (by decide)]at hg;rw[aP hg];simp only[cMr,zU];exact ih (by omega) hs he
  rw[inner _ _ (λj=>(cMm (cMm [pR up 1 (m:Int),pR down 4 j]):Int⊕(Unit⊕lPp))) down.2.2.length (cM5 _) (λj hj=> ?_) (by simp)]
  .by_cases c:lIx down.2.2 (up.2.2[m]'hm).1 down.2.2.length>=0
   .rw[zT c,zT c];rfl
   .rw[zS c,zS c];rfl
  .have hy:down.2.2[j]? =U (down.2.2[j]'hj):=cMz hj;have hym:(down.2.2.map λh=>(h.1:Int))[j]? =U (down.2.2[j]'hj).1:=by rw[cOk,hy];rfl
   simp only[aJ2,bF,zZ,zX (show (j:Int)<(down.2.2.length:Int) by omega),cMt,hym,hy,cNh,aA,aAr (n:=(j:Int) - 1) (by omega) (by omega)];rw[show ((up.2.2[m]'hm).1==(down.2.2[j]'hj).1)=((down.2.2[j]'hj).1==(up.2.2[m]'hm).1) from cNe.2 ⟨λh=>by rw[beq_iff_eq]at h ⊢;exact h.symm,λh=>by rw[beq_iff_eq]at h ⊢;exact h.symm⟩];cases (down.2.2[j]'hj).1==(up.2.2[m]'hm).1<;>rfl
 unfold uX pj3;rw[show ((up.1,up.2.1,up.2.2):den tSg)=up from rfl,show ((down.1,down.2.1,down.2.2):den tSg)=down from rfl,e0];rfl
def jC(s:den tSg)(k:Int)(p:lPp):lPp:=cond (D ((s.2.2.length:Int)>0)) (p++[pR s k 0]) p
def aRc(s:den tSg)(k:Int)(p:lPp):(jC s k p).length<=p.length+1:=by
 unfold jC;cases D ((s.2.2.length:Int)>0)
 .simp
 .simp
def rY(up core:den tSg)(b:Bool)(down:den tSg):lPp:=jC down 4 (jC core (cond b 3 2) (jC up 1 []))
def bBw{s:den tSg}{k:Int}{p:lPp}(h:s.2.2.length<=1000000)(hp:p.length<=1000000):iE s k p=U (jC s k p):=by
 have e2:gE (s.1,s.2.1,s.2.2) k 0=U (pR s k 0):=aSw (s:=s) h;unfold iE jC pj3 pj4;simp only[e2,aA,apP (b:=48) (n:=p.length) (m:=1) (by decide) (by omega),zZ];cases D ((s.2.2.length:Int)>0)<;>rfl
def bLy{up core down:den tSg}{b:Bool}(h1:up.2.2.length<=1000000)(h2:core.2.2.length<=1000000)(h3:down.2.2.length<=1000000):rM up core b down=U (rY up core b down):=by
 have l1:=aRc up 1 [];have l2:=aRc core (cond b 3 2) (jC up 1 []);simp only[cNd]at l1;have e1:iE (up.1,up.2.1,up.2.2) 1 []=U (jC up 1 []):=bBw (s:=up) h1 (by simp);have e2:iE (core.1,core.2.1,core.2.2) (cond b 3 2) (jC up 1 [])=U _:=bBw (s:=core) (k:=cond b 3 2) h2 (by omega);have e3:iE (down.1,down.2.1,down.2.2) 4 (jC core (cond b 3 2) (jC up 1 []))=U _:=bBw (s:=down) h3 (by omega);have eb:(cond b (U (3:Int)) (U (2:Int)))=U (cond b 3 2):=by cases b<;>rfl
 unfold rM rY pj3;rw[eb];simp only[e1,e2,e3,aA]
def bKf{up core down:den tSg}{b:Bool}(h1:up.2.2.length<=1000000)(h2:core.2.2.length<=1000000)(h3:down.2.2.length<=1000000):rL up core b down=U (rY up core b down):=by
 have l1:=aRc up 1 [];have l2:=aRc core (cond b 3 2) (jC up 1 []);simp only[cNd]at l1;have e1:eH (up.1,up.2.1,up.2.2) 1 0=U (pR up 1 0):=aNk (s:=up) h1;have e2:eH (core.1,core.2.1,core.2.2) (cond b 3 2) 0=U (pR core (cond b 3 2) 0):=aNk (s:=core) h2;have e3:eH (down.1,down.2.1,down.2.2) 4 0=U (pR down 4 0):=aNk (s:=down) h3;have eb:(cond b (U (3:Int)) (U (2:Int)))=U (cond b 3 2):=by cases b<;>rfl
 have f1:(cond (D ((up.2.2.length:Int)>(0:Int))) (U [pR up 1 0]) (U []))=U (jC up 1 []):=by unfold jC;cases D ((up.2.2.length:Int)>0)<;>rfl
 have f2:(cond (D ((core.2.2.length:Int)>(0:Int))) (U (jC up 1 []++[pR core (cond b 3 2) 0])) (U (jC up 1 [])))=U (jC core (cond b 3 2) (jC up 1 [])):=by
  rw[show jC core (cond b 3 2) (jC up 1 [])=cond (D ((core.2.2.length:Int)>0)) (jC up 1 []++[pR core (cond b 3 2) 0]) (jC up 1 []) from rfl];cases D ((core.2.2.length:Int)>0)<;>rfl
 have f3:(cond (D ((down.2.2.length:Int)>(0:Int))) (U (jC core (cond b 3 2) (jC up 1 [])++[pR down 4 0])) (U (jC core (cond b 3 2) (jC up 1 []))))=U (jC down 4 (jC core (cond b 3 2) (jC up 1 []))):=by
  rw[show jC down 4 (jC core (cond b 3 2) (jC up 1 []))=cond (D ((down.2.2.length:Int)>0)) (jC core (cond b 3 2) (jC up 1 [])++[pR down 4 0]) (jC core (cond b 3 2) (jC up 1 [])) from rfl];cases D ((down.2.2.length:Int)>0)<;>rfl
 unfold rL rY pj3 pj4;rw[eb];simp only[e1,e2,e3,aA,apP (b:=48) (n:=0) (m:=1) (by decide) (by omega),zZ,f1,apP (b:=48) (n:=(jC up 1 []).length) (m:=1) (by decide) (by omega),f2,apP (b:=48) (n:=(jC core (cond b 3 2) (jC up 1 [])).length) (m:=1) (by decide) (by omega),f3]
def cA(c:lSg)(up:den tSg)(a b:Int)(down:den tSg):List lPp:=
 (qB c a b).flatMap (λs=>[rY up s Y down])++(qB c b a).flatMap (λs=>[rY up s X down])
def aV7(c:lSg)(a b:Int):(qB c a b).length<=c.length:=cOq _ _
def bQ4(c:lSg)(a:Int):(cX c a).length<=c.length:=cOq _ _
def aP8{α β:Type}(f:α->β)(l:List α):(l.flatMap λs=>[f s]).length<=l.length:=by
 have :=aFl (g:=λs=>[f s]) (c:=1) (l:=l) λx _=>by simp
 omega
def aGe{c:lSg}(hc:c.length<=8000)(up:den tSg)(a b:Int)(down:den tSg):(cA c up a b down).length<=16000:=by
 unfold cA;rw[cNa];have h1:=aP8 (λs=>rY up s Y down) (qB c a b);have h2:=aP8 (λs=>rY up s X down) (qB c b a);have h3:=aV7 c a b;have h4:=aV7 c b a;omega
structure DbS (k:den tDb):Prop where
 down:k.1.length<=8000
 core:k.2.length<=8000
 hd1:∀s∈k.1,s.2.2.length<=8
 hc1:∀s∈k.2,s.2.2.length<=8
def DbS.hd{k:den tDb}(h:DbS k):∀s∈k.1,s.2.2.length<=1000000:=λs hs=>cMo (h.hd1 s hs) (by decide)
def DbS.hc{k:den tDb}(h:DbS k):∀s∈k.2,s.2.2.length<=1000000:=λs hs=>cMo (h.hc1 s hs) (by decide)
def DbS.downs{k:den tDb}(h:DbS k)(r:Int):(cX k.1 r).length<=8000/\ ∀s∈cX k.1 r,s.2.2.length<=1000000:=⟨cMo (bQ4 _ _) h.down,λs hs=>h.hd s (cM6.1 hs).1⟩
def DbS.betw{k:den tDb}(h:DbS k)(a b:Int):(qB k.2 a b).length<=8000/\ ∀s∈qB k.2 a b,s.2.2.length<=1000000:=⟨cMo (aV7 _ _ _) h.core,λs hs=>h.hc s (cM6.1 hs).1⟩
def cDv{k:den tDb}(h:DbS k){up down:den tSg}(h1:up.2.2.length<=1000000)(h3:down.2.2.length<=1000000)(a b:Int):eZ k up a b down=U (cA k.2 up a b down):=by
 have e1:uG (k.1,k.2) a b=U (qB k.2 a b):=bL0 (k:=k) (cMo h.core (by decide)) h.hc;have e2:uG (k.1,k.2) b a=U (qB k.2 b a):=bL0 (k:=k) (cMo h.core (by decide)) h.hc;obtain⟨l1,m1⟩:=h.betw a b;obtain⟨l2,m2⟩:=h.betw b a;have n1:=aP8 (λs=>rY up s Y down) (qB k.2 a b);unfold eZ cA ixb pj2 pj3;rw[e1,aA];rw[dJ (qB k.2 a b) (λs=>[rY up s Y down]) (λx=>x) [] (by omega) (by have :=aB3 (f:=λs=>([rY up s Y down]:List lPp).length) (c:=1) (l:=qB k.2 a b) (λ_ _=>by simp);simp only[cNd];omega) (λi x y hi hx hm hd hw hb=>by
  have e:rM (up.1,up.2.1,up.2.2) (x.1,x.2.1,x.2.2) Y (down.1,down.2.1,down.2.2)=U (rY up x Y down):=bLy (up:=up) (core:=x) (down:=down) h1 (m1 x hm) h3;simp only[hd,bF,zZ,cMt,hx,aA,e,hw,apP (b:=24) (n:=y.length) (m:=1) (by decide) (by simp at hb;omega)]) (λy=>by simp)]
 rw[aA,e2,aA,cNf];rw[dJ (qB k.2 b a) (λs=>[rY up s X down]) (λx=>x) ((qB k.2 a b).flatMap λs=>[rY up s Y down]) (by omega) (by have :=aB3 (f:=λs=>([rY up s X down]:List lPp).length) (c:=1) (l:=qB k.2 b a) (λ_ _=>by simp);omega) (λi x y hi hx hm hd hw hb=>by
  have e:rM (up.1,up.2.1,up.2.2) (x.1,x.2.1,x.2.2) X (down.1,down.2.1,down.2.2)=U (rY up x X down):=bLy (up:=up) (core:=x) (down:=down) h1 (m2 x hm) h3;simp only[hd,bF,zZ,cMt,hx,aA,e,hw,apP (b:=24) (n:=y.length) (m:=1) (by decide) (by simp at hb;omega)]) (λy=>by simp)]
 rfl
def bK9{k:den tDb}(h:DbS k){up down:den tSg}(h1:up.2.2.length<=1000000)(h3:down.2.2.length<=1000000)(a b:Int):iF k up a b down=U (cA k.2 up a b down):=by
 have e1:oY (k.1,k.2) a b=U (qB k.2 a b):=bKo (k:=k) (cMo h.core (by decide)) h.hc;have e2:oY (k.1,k.2) b a=U (qB k.2 b a):=bKo (k:=k) (cMo h.core (by decide)) h.hc;obtain⟨l1,m1⟩:=h.betw a b;obtain⟨l2,m2⟩:=h.betw b a;have n1:=aP8 (λs=>rY up s Y down) (qB k.2 a b);unfold iF cA ixb pj2 pj3;rw[e1,aA];rw[dJ (qB k.2 a b) (λs=>[rY up s Y down]) (λx=>x) [] (by omega) (by have :=aB3 (f:=λs=>([rY up s Y down]:List lPp).length) (c:=1) (l:=qB k.2 a b) (λ_ _=>by simp);simp only[cNd];omega) (λi x y hi hx hm hd hw hb=>by
  have e:rL (up.1,up.2.1,up.2.2) (x.1,x.2.1,x.2.2) Y (down.1,down.2.1,down.2.2)=U (rY up x Y down):=bKf (up:=up) (core:=x) (down:=down) h1 (m1 x hm) h3;simp only[hd,bF,zZ,cMt,hx,aA,e,hw,apP (b:=24) (n:=y.length) (m:=1) (by decide) (by simp at hb;omega)]) (λy=>by simp)]
 rw[aA,e2,aA,cNf];rw[dJ (qB k.2 b a) (λs=>[rY up s X down]) (λx=>x) ((qB k.2 a b).flatMap λs=>[rY up s Y down]) (by omega) (by have :=aB3 (f:=λs=>([rY up s X down]:List lPp).length) (c:=1) (l:=qB k.2 b a) (λ_ _=>by simp);omega) (λi x y hi hx hm hd hw hb=>by
  have e:rL (up.1,up.2.1,up.2.2) (x.1,x.2.1,x.2.2) X (down.1,down.2.1,down.2.2)=U (rY up x X down):=bKf (up:=up) (core:=x) (down:=down) h1 (m2 x hm) h3;simp only[hd,bF,zZ,cMt,hx,aA,e,hw,apP (b:=24) (n:=y.length) (m:=1) (by decide) (by simp at hb;omega)]) (λy=>by simp)]
 rfl
def dV:den tSg:=(0,0,[])
def rB(kind r:Int)(s:den tSg):List lPp:=cond (D (fIx s.2.2 r>=0)) [[pR s kind (fIx s.2.2 r)]] []
def uC(u d:den tSg):List lPp:=cond (D (((aF7 u d).length:Int)>0)) [aF7 u d] []
def eD(t:den tTo)(r:Int):Bool:=((t.1[r.toNat]?).getD (0,Y,0)).2.1
def aQu(kind r:Int)(s:den tSg):(rB kind r s).length<=1:=by unfold rB;cases D (fIx s.2.2 r>=0)<;>simp
def bRq(u d:den tSg):(uC u d).length<=1:=by unfold uC;cases D (((aF7 u d).length:Int)>0)<;>simp
def uY(t:den tTo)(k:den tDb)(a b:Int):List lPp:=
 cond (a==b||(!cK t a|| !cK t b)) [] (((((((cX k.1 a).flatMap (rB 1 b)++(cX k.1 b).flatMap (rB 4 a))++cA k.2 dV a b dV)
  ++(cX k.1 a).flatMap λu=>(cX k.1 b).flatMap λd=>uC u d)
  ++cond (eD t a) ((cX k.1 b).flatMap λd=>cA k.2 dV a (dD d) d) [])
  ++cond (eD t b) ((cX k.1 a).flatMap λu=>cA k.2 u (dD u) b dV) [])
  ++(cX k.1 a).flatMap λu=>(cX k.1 b).flatMap λd=>cA k.2 u (dD u) (dD d) d)
def bGa{t:den tTo}{r:Int}(ht:t.1.length<=1000000)(h:cK t r=X):sG t r=U (eD t r):=by
 obtain⟨x,hx,ex⟩:=aHd h;unfold sG eD pj2;simp only[aD,aBy (t:=t) (r:=r) (by omega),h,aA,zZ,ex,hx,cNh]
def aJz{α β:Type}{g:α->List β}{c n:Nat}{l:List α}(hl:l.length<=n)(h:∀x∈l,(g x).length<=c):(l.map λx=>(g x).length).sum<=n * c:=
 cMo (aB3 h) (cNw _ hl)
def aFn{α β:Type}{g:α->List β}{c n:Nat}{l:List α}(hl:l.length<=n)(h:∀x∈l,(g x).length<=c):(l.flatMap g).length<=n * c:=
 cMo (aFl h) (cNw _ hl)
def bEi{downs:lSg}(h:downs.length<=8000)(u:den tSg):(downs.flatMap λd=>uC u d).length<=8000:=
 cMo (aFn (c:=1) h λd _=>bRq u d) (by decide)
def bF8{c downs:lSg}(hc:c.length<=8000)(h:downs.length<=8000)(u:den tSg):(downs.flatMap λd=>cA c u (dD u) (dD d) d).length<=128000000:=
 cMo (aFn (c:=16000) h λd _=>aGe hc _ _ _ _) (by decide)
def aMb{k:den tDb}(h:DbS k)(a b:Int):(((cX k.1 a).flatMap (rB 1 b)).length<=8000)/\(((cX k.1 b).flatMap (rB 4 a)).length<=8000)/\((cA k.2 dV a b dV).length<=16000)/\(((cX k.1 a).flatMap λu=>(cX k.1 b).flatMap λd=>uC u d).length<=64000000)/\(((cX k.1 b).flatMap λd=>cA k.2 dV a (dD d) d).length<=128000000)/\(((cX k.1 a).flatMap λu=>cA k.2 u (dD u) b dV).length<=128000000)/\(((cX k.1 a).map λs=>(rB 1 b s).length).sum<=8000)/\(((cX k.1 b).map λs=>(rB 4 a s).length).sum<=8000)/\(((cX k.1 a).map λu=>((cX k.1 b).flatMap λd=>uC u d).length).sum<=64000000)/\(((cX k.1 b).map λd=>(cA k.2 dV a (dD d) d).length).sum<=128000000)/\(((cX k.1 a).map λu=>(cA k.2 u (dD u) b dV).length).sum<=128000000)/\(((cX k.1 a).map λu=>((cX k.1 b).flatMap λd=>cA k.2 u (dD u) (dD d) d).length).sum<=1024000000000):=by
 obtain⟨lu,mu⟩:=h.downs a;obtain⟨ld,md⟩:=h.downs b;exact⟨cMo (aFn (c:=1) lu λs _=>aQu 1 b s) (by decide),cMo (aFn (c:=1) ld λs _=>aQu 4 a s) (by decide),aGe h.core dV a b dV,cMo (aFn (c:=8000) lu λu _=>bEi ld u) (by decide),cMo (aFn (c:=16000) ld λd _=>aGe h.core _ _ _ _) (by decide),cMo (aFn (c:=16000) lu λd _=>aGe h.core _ _ _ _) (by decide),cMo (aJz (c:=1) lu λs _=>aQu 1 b s) (by decide),cMo (aJz (c:=1) ld λs _=>aQu 4 a s) (by decide),cMo (aJz (c:=8000) lu λu _=>bEi ld u) (by decide),cMo (aJz (c:=16000) ld λd _=>aGe h.core _ _ _ _) (by decide),cMo (aJz (c:=16000) lu λd _=>aGe h.core _ _ _ _) (by decide),cMo (aJz (c:=128000000) lu λu _=>bF8 h.core ld u) (by decide)⟩
def cHy{t:den tTo}{k:den tDb}(ht:t.1.length<=1000000)(h:DbS k)(a b:Int):pX t k a b=U (uY t k a b):=by
 have hA:=aBy (t:=t) (r:=a) (by omega);have hB:=aBy (t:=t) (r:=b) (by omega);unfold pX uY ixb pj2 pj3 pj4;rw[show ((t.1,t.2):den tTo)=t from rfl,hA,hB];cases c0:a==b with
 | true=>rfl
 | false=>
 cases c1:cK t a with
 | false=>rfl
 | true=>
 cases c2:cK t b with
 | false=>rfl
 | true=>
 have e1:kK (k.1,k.2) a=U (cX k.1 a):=bIn (k:=k) (cMo h.down (by decide)) h.hd;have e2:kK (k.1,k.2) b=U (cX k.1 b):=bIn (k:=k) (cMo h.down (by decide)) h.hd;obtain⟨lu,mu⟩:=h.downs a;obtain⟨ld,md⟩:=h.downs b;have ec1:=bGa ht c1;have ec2:=bGa ht c2;have hcz:∀(u:den tSg) (x y:Int) (d:den tSg),u.2.2.length<=1000000->d.2.2.length<=1000000->eZ (k.1,k.2) (u.1,u.2.1,u.2.2) x y (d.1,d.2.1,d.2.2)=U (cA k.2 u x y d):=λu x y d h1 h2=>cDv (k:=k) h (up:=u) (down:=d) h1 h2 x y
 have hz1:∀(x y:Int),eZ (k.1,k.2) (0,0,[]) x y (0,0,[])=U (cA k.2 dV x y dV):=λx y=>hcz dV x y dV (by decide) (by decide)
 have hz2:∀(x y:Int) (d:den tSg),d.2.2.length<=1000000->eZ (k.1,k.2) (0,0,[]) x y (d.1,d.2.1,d.2.2)=U (cA k.2 dV x y d):=λx y d hd=>hcz dV x y d (by decide) hd
 have hz3:∀(u:den tSg) (x y:Int),u.2.2.length<=1000000->eZ (k.1,k.2) (u.1,u.2.1,u.2.2) x y (0,0,[])=U (cA k.2 u x y dV):=λu x y hu=>hcz u x y dV hu (by decide)
 have hf:∀s:den tSg,lB (s.1,s.2.1,s.2.2)=U (dD s):=λs=>bU4 s
 obtain⟨n1,n2,n3,n4,n5,n6,s1,s2,s4,s5,s6,s7⟩:=aMb h a b;simp only[zY,zZ,aA,cMp,cN5,e1,e2];generalize hU:cX k.1 a=ups at *;generalize hD:cX k.1 b=downs at *;rw[dJ ups (rB 1 b) (λx=>x) [] (by omega) (by simp only[cNd];omega) (λi x y hi hx hm hd hw hb=>by
  have e:oG (x.1,x.2.1,x.2.2) b=U (fIx x.2.2 b):=cCi (s:=x) (mu x hm);have e':gE (x.1,x.2.1,x.2.2) 1 (fIx x.2.2 b)=U (pR x 1 (fIx x.2.2 b)):=aSw (s:=x) (mu x hm);have hb:y.length<=2000000000000:=by omega
  unfold rB;simp only[hd,bF,zZ,cMt,hx,aA,e,e',hw,apP (b:=24) (n:=y.length) (m:=1) (by decide) (by omega)];cases D (fIx x.2.2 b>=0)
  .simp
  .rfl) (λy=>by simp)]
 rw[aA,cNf];rw[dJ downs (rB 4 a) (λx=>x) (ups.flatMap (rB 1 b)) (by omega) (by omega) (λi x y hi hx hm hd hw hb=>by
  have e:oG (x.1,x.2.1,x.2.2) a=U (fIx x.2.2 a):=cCi (s:=x) (md x hm);have e':gE (x.1,x.2.1,x.2.2) 4 (fIx x.2.2 a)=U (pR x 4 (fIx x.2.2 a)):=aSw (s:=x) (md x hm);have hb:y.length<=2000000000000:=by omega
  unfold rB;simp only[hd,bF,zZ,cMt,hx,aA,e,e',hw,apP (b:=24) (n:=y.length) (m:=1) (by decide) (by omega)];cases D (fIx x.2.2 a>=0)
  .simp
  .rfl) (λy=>by simp)]
 rw[aA,hz1,aA];have q3:(ups.flatMap (rB 1 b)++downs.flatMap (rB 4 a)).length<=16000:=by rw[cNa];omega
 generalize ups.flatMap (rB 1 b)++downs.flatMap (rB 4 a)=l3 at *;rw[apP (b:=24) (n:=l3.length) (m:=(cA k.2 dV a b dV).length) (by decide) (by omega),zZ];have q4:(l3++cA k.2 dV a b dV).length<=32000:=by rw[cNa];omega
 generalize l3++cA k.2 dV a b dV=l4 at *;rw[dJ ups (λu=>downs.flatMap λd=>uC u d) (λx=>x) l4 (by omega) (by omega) (λi u y hi hx hm hd hw hb=>by
  have hy:y.length<=2000000000000:=by omega
  have hb0:y.length+(downs.flatMap λd=>uC u d).length<=2000000000000:=hb;have hsum:(downs.map λd=>(uC u d).length).sum=(downs.flatMap λd=>uC u d).length:=by rw[cPf]
  simp only[hd,bF,zZ,cMt,hx,aA,hw];rw[dJ downs (λd=>uC u d) (λx=>x) y (by omega) (by rw[hsum];exact hb0) (λj d z hj hx' hm' hd' hw' hb'=>by
   have e:tQ (u.1,u.2.1,u.2.2) (d.1,d.2.1,d.2.2)=U (aF7 u d):=cJo (up:=u) (down:=d) (mu u hm) (md d hm');have hb:z.length<=2000000000000:=by omega
   unfold uC;simp only[hd',bF,zZ,cMt,hx',aA,e,hw',apP (b:=24) (n:=z.length) (m:=1) (by decide) (by omega)];cases D (((aF7 u d).length:Int)>0)
   .simp
   .rfl) (λy=>by simp)]
  rfl) (λy=>by simp)]
 rw[aA,ec1,aA];have q5:(l4++ups.flatMap λu=>downs.flatMap λd=>uC u d).length<=64032000:=by rw[cNa];omega
 generalize (l4++ups.flatMap λu=>downs.flatMap λd=>uC u d)=l5 at *;have st5:(cond (eD t a) (aB (λs57:Int×List lPp=>cond (D (s57.1<(downs.length:Int))) (cond (D ((0:Int)<=s57.1)) (cond (D (s57.1<(downs.length:Int))) (Option.bind downs[s57.1.toNat]? λx58=>Option.bind (lB (x58.1,x58.2.1,x58.2.2)) λy59=>Option.bind (eZ (k.1,k.2) ((0:Int),(0:Int),[]) a y59 (x58.1,x58.2.1,x58.2.2)) λy60=>cond (aF 24 s57.2.length y60.length) (U (cMn (wr (s57.1+(1:Int)),s57.2++y60))) W) W) W) (U (cMm s57.2))) ((0:Int),l5)) (U l5))=U (l5++cond (eD t a) (downs.flatMap λd=>cA k.2 dV a (dD d) d) []):=by
  cases eD t a with
  | false=>simp
  | true=>
   simp only[zZ];exact dJ downs (λd=>cA k.2 dV a (dD d) d) (λx=>x) l5 (by omega) (by omega) (λi d y hi hx hm hd hw hb=>by
    simp only[hd,bF,zZ,cMt,hx,aA,hf,hz2 _ _ d (md d hm),hw];rw[apP (b:=24) (n:=y.length) (m:=(cA k.2 dV a (dD d) d).length) (by decide) (by omega)];rfl) (λy=>by simp)
 rw[st5,aA,ec2,aA];have q6:(l5++cond (eD t a) (downs.flatMap λd=>cA k.2 dV a (dD d) d) []).length<=192032000:=by
  rw[cNa];cases eD t a
  .simp only[zY,cNd];omega
  .simp only[zZ];omega
 generalize (l5++cond (eD t a) (downs.flatMap λd=>cA k.2 dV a (dD d) d) [])=l6 at *;have st6:(cond (eD t b) (aB (λs67:Int×List lPp=>cond (D (s67.1<(ups.length:Int))) (cond (D ((0:Int)<=s67.1)) (cond (D (s67.1<(ups.length:Int))) (Option.bind ups[s67.1.toNat]? λx68=>Option.bind (lB (x68.1,x68.2.1,x68.2.2)) λy69=>Option.bind (eZ (k.1,k.2) (x68.1,x68.2.1,x68.2.2) y69 b ((0:Int),(0:Int),[])) λy70=>cond (aF 24 s67.2.length y70.length) (U (cMn (wr (s67.1+(1:Int)),s67.2++y70))) W) W) W) (U (cMm s67.2))) ((0:Int),l6)) (U l6))=U (l6++cond (eD t b) (ups.flatMap λu=>cA k.2 u (dD u) b dV) []):=by
  cases eD t b with
  | false=>simp
  | true=>
   simp only[zZ];exact dJ ups (λu=>cA k.2 u (dD u) b dV) (λx=>x) l6 (by omega) (by omega) (λi d y hi hx hm hd hw hb=>by
    simp only[hd,bF,zZ,cMt,hx,aA,hf,hz3 d _ _ (mu d hm),hw];rw[apP (b:=24) (n:=y.length) (m:=(cA k.2 d (dD d) b dV).length) (by decide) (by omega)];rfl) (λy=>by simp)
 rw[st6,aA];have q7:(l6++cond (eD t b) (ups.flatMap λu=>cA k.2 u (dD u) b dV) []).length<=320032000:=by
  rw[cNa];cases eD t b
  .simp only[zY,cNd];omega
  .simp only[zZ];omega
 generalize (l6++cond (eD t b) (ups.flatMap λu=>cA k.2 u (dD u) b dV) [])=l7 at *;rw[dJ ups (λu=>downs.flatMap λd=>cA k.2 u (dD u) (dD d) d) (λx=>x) l7 (by omega) (by omega) (λi u y hi hx hm hd hw hb=>by
  have hb0:y.length+(downs.flatMap λd=>cA k.2 u (dD u) (dD d) d).length<=2000000000000:=hb;have hsum:(downs.map λd=>(cA k.2 u (dD u) (dD d) d).length).sum=(downs.flatMap λd=>cA k.2 u (dD u) (dD d) d).length:=by rw[cPf]
  simp only[hd,bF,zZ,cMt,hx,aA,hw];rw[dJ downs (λd=>cA k.2 u (dD u) (dD d) d) (λx=>x) y (by omega) (by rw[hsum];exact hb0) (λj d z hj hx' hm' hd' hw' hb'=>by
   simp only[hd',bF,zZ,cMt,hx',aA,hf,hcz u _ _ d (mu u hm) (md d hm'),hw'];rw[apP (b:=24) (n:=z.length) (m:=(cA k.2 u (dD u) (dD d) d).length) (by decide) (by omega)];rfl) (λy=>by simp)]
  rfl) (λy=>by simp)]
 rfl
def cCz{k:den tDb}(h:DbS k)(a b:Int):yO k a b=U ((((cX k.1 a).flatMap (rB 1 b)++(cX k.1 b).flatMap (rB 4 a))++cA k.2 dV a b dV)):=by
 have e1:eP (k.1,k.2) a=U (cX k.1 a):=aQr (k:=k) (cMo h.down (by decide)) h.hd;have e2:eP (k.1,k.2) b=U (cX k.1 b):=aQr (k:=k) (cMo h.down (by decide)) h.hd;obtain⟨lu,mu⟩:=h.downs a;obtain⟨ld,md⟩:=h.downs b;have hz1:iF (k.1,k.2) (0,0,[]) a b (0,0,[])=U (cA k.2 dV a b dV):=bK9 (k:=k) h (up:=dV) (down:=dV) (by decide) (by decide) a b;obtain⟨n1,n2,n3,n4,n5,n6,s1,s2,s4,s5,s6,s7⟩:=aMb h a b;unfold yO ixb pj2 pj3 pj4;rw[e1,aA];rw[dJ (cX k.1 a) (rB 1 b) (λx=>x) [] (by omega) (by simp only[cNd];omega) (λi x y hi hx hm hd hw hb=>by
  have e:tK (x.1,x.2.1,x.2.2) b=U (fIx x.2.2 b):=bZb (s:=x) (mu x hm);have e':eH (x.1,x.2.1,x.2.2) 1 (fIx x.2.2 b)=U (pR x 1 (fIx x.2.2 b)):=aNk (s:=x) (mu x hm);have hb:y.length<=2000000000000:=by omega
  unfold rB;simp only[hd,bF,zZ,cMt,hx,aA,e,e',hw,apP (b:=24) (n:=y.length) (m:=1) (by decide) (by omega)];cases D (fIx x.2.2 b>=0)
  .simp
  .rfl) (λy=>by simp)]
 rw[aA,cNf,e2,aA];rw[dJ (cX k.1 b) (rB 4 a) (λx=>x) ((cX k.1 a).flatMap (rB 1 b)) (by omega) (by omega) (λi x y hi hx hm hd hw hb=>by
  have e:tK (x.1,x.2.1,x.2.2) a=U (fIx x.2.2 a):=bZb (s:=x) (md x hm);have e':eH (x.1,x.2.1,x.2.2) 4 (fIx x.2.2 a)=U (pR x 4 (fIx x.2.2 a)):=aNk (s:=x) (md x hm);have hb:y.length<=2000000000000:=by omega
  unfold rB;simp only[hd,bF,zZ,cMt,hx,aA,e,e',hw,apP (b:=24) (n:=y.length) (m:=1) (by decide) (by omega)];cases D (fIx x.2.2 a>=0)
  .simp
  .rfl) (λy=>by simp)]
 rw[aA,hz1,aA,apP (b:=24) (n:=((cX k.1 a).flatMap (rB 1 b)++(cX k.1 b).flatMap (rB 4 a)).length) (m:=(cA k.2 dV a b dV).length) (by decide) (by rw[cNa];omega)];rfl
def bDm{α β:Type}(l:List α)(g:α->List β)(c:Bool)(a0:List β){step:Int×List β->Option ((Int×List β)⊕List β)}(hl:l.length<=1000000)(hN:a0.length+(l.map λx=>(g x).length).sum<=2000000000000)
  (hs:c=X-> ∀(k:Nat) (x:α) (a:List β),idx l (k:Int)=U x->l[k]? =U x->x∈l->D ((k:Int)<(l.length:Int))=X->wr ((k:Int)+1)=((k+1:Nat):Int)->a.length+(g x).length<=2000000000000->step ((k:Int),a)=U (.inl (((k+1:Nat):Int),a++g x)))
  (he:∀a,step ((l.length:Int),a)=U (.inr a)) (hc:c=Y->step ((0:Int),a0)=U (.inr a0)):aB step ((0:Int),a0)=U (a0++cond c (l.flatMap g) []):=by
 cases c with
 | true=>exact dJ l g (λx=>x) a0 hl hN (hs rfl) he
 | false=>rw[zY,cNn];exact aI (hc rfl)
def cGx{t:den tTo}{k:den tDb}(ht:t.1.length<=1000000)(h:DbS k)(a b:Int):pZ t k a b=U (uY t k a b):=by
 have hA:=aDg (t:=t) (r:=a) (by omega);have hB:=aDg (t:=t) (r:=b) (by omega);unfold pZ uY ixb pj2 pj3;rw[show ((t.1,t.2):den tTo)=t from rfl,hA,hB];cases c0:a==b with
 | true=>rfl
 | false=>
 cases c1:cK t a with
 | false=>rfl
 | true=>
 cases c2:cK t b with
 | false=>rfl
 | true=>
 have e1:eP (k.1,k.2) a=U (cX k.1 a):=aQr (k:=k) (cMo h.down (by decide)) h.hd;have e2:eP (k.1,k.2) b=U (cX k.1 b):=aQr (k:=k) (cMo h.down (by decide)) h.hd;obtain⟨lu,mu⟩:=h.downs a;obtain⟨ld,md⟩:=h.downs b;obtain⟨xa,hxa,ea⟩:=aHd c1;obtain⟨xb,hxb,eb⟩:=aHd c2;have ca:eD t a=xa.2.1:=by unfold eD;rw[hxa];rfl
 have cb:eD t b=xb.2.1:=by unfold eD;rw[hxb];rfl
 have hal:yO (k.1,k.2) a b=U _:=cCz (k:=k) h a b;have hcz:∀(u:den tSg) (x y:Int) (d:den tSg),u.2.2.length<=1000000->d.2.2.length<=1000000->iF (k.1,k.2) (u.1,u.2.1,u.2.2) x y (d.1,d.2.1,d.2.2)=U (cA k.2 u x y d):=λu x y d h1 h2=>bK9 (k:=k) h (up:=u) (down:=d) h1 h2 x y
 have hz1:∀(x y:Int),iF (k.1,k.2) (0,0,[]) x y (0,0,[])=U (cA k.2 dV x y dV):=λx y=>hcz dV x y dV (by decide) (by decide)
 have hz2:∀(x y:Int) (d:den tSg),d.2.2.length<=1000000->iF (k.1,k.2) (0,0,[]) x y (d.1,d.2.1,d.2.2)=U (cA k.2 dV x y d):=λx y d hd=>hcz dV x y d (by decide) hd
 have hz3:∀(u:den tSg) (x y:Int),u.2.2.length<=1000000->iF (k.1,k.2) (u.1,u.2.1,u.2.2) x y (0,0,[])=U (cA k.2 u x y dV):=λu x y hu=>hcz u x y dV hu (by decide)
 have hf:∀s:den tSg,lU (s.1,s.2.1,s.2.2)=U (dD s):=λs=>bGd s
 obtain⟨n1,n2,n3,n4,n5,n6,s1,s2,s4,s5,s6,s7⟩:=aMb h a b;simp only[zY,zZ,aA,cMp,cN5,hal,e1,e2,bB,cB,bL,bJ,bO];generalize hU:cX k.1 a=ups at *;generalize hD:cX k.1 b=downs at *;have q3:(ups.flatMap (rB 1 b)++downs.flatMap (rB 4 a)).length<=16000:=by rw[cNa];omega
 generalize ups.flatMap (rB 1 b)++downs.flatMap (rB 4 a)=l3 at *;have q4:(l3++cA k.2 dV a b dV).length<=32000:=by rw[cNa];omega
 generalize l3++cA k.2 dV a b dV=l4 at *;rw[dJ ups (λu=>downs.flatMap λd=>uC u d) (λx=>x) l4 (by omega) (by omega) (λi u y hi hx hm hd hw hb=>by
  have hy:y.length<=2000000000000:=by omega
  have hb0:y.length+(downs.flatMap λd=>uC u d).length<=2000000000000:=hb;have hsum:(downs.map λd=>(uC u d).length).sum=(downs.flatMap λd=>uC u d).length:=by rw[cPf]
  simp only[hd,bF,zZ,cMt,hx,aA,hw];rw[dJ downs (λd=>uC u d) (λx=>x) y (by omega) (by rw[hsum];exact hb0) (λj d z hj hx' hm' hd' hw' hb'=>by
   have e:uX (u.1,u.2.1,u.2.2) (d.1,d.2.1,d.2.2)=U (aF7 u d):=cFs (up:=u) (down:=d) (mu u hm) (md d hm');have hb:z.length<=2000000000000:=by omega
   unfold uC;simp only[hd',bF,zZ,cMt,hx',aA,e,hw',apP (b:=24) (n:=z.length) (m:=1) (by decide) (by omega)];cases D (((aF7 u d).length:Int)>0)
   .simp
   .rfl) (λy=>by simp)]
  rfl) (λy=>by simp)]
 rw[aA];have q5:(l4++ups.flatMap λu=>downs.flatMap λd=>uC u d).length<=64032000:=by rw[cNa];omega
 generalize (l4++ups.flatMap λu=>downs.flatMap λd=>uC u d)=l5 at *;rw[bDm downs (λd=>cA k.2 dV a (dD d) d) (eD t a) l5 (by omega) (by omega) (λhc i d y hi hx hm hd hw hb=>by
  rw[ca]at hc;simp only[hd,bF,zZ,ea,hc,cMt,hx,aA,hf,hz2 _ _ d (md d hm),hw];rw[apP (b:=24) (n:=y.length) (m:=(cA k.2 dV a (dD d) d).length) (by decide) (by omega)];rfl) (λy=>by simp) (λhc=>by
  rw[ca]at hc;simp only[ea,aA,hc];cases D ((0:Int)<(downs.length:Int))<;>rfl),aA]
 have q6:(l5++cond (eD t a) (downs.flatMap λd=>cA k.2 dV a (dD d) d) []).length<=192032000:=by
  rw[cNa];cases eD t a
  .simp only[zY,cNd];omega
  .simp only[zZ];omega
 generalize (l5++cond (eD t a) (downs.flatMap λd=>cA k.2 dV a (dD d) d) [])=l6 at *;rw[bDm ups (λu=>cA k.2 u (dD u) b dV) (eD t b) l6 (by omega) (by omega) (λhc i d y hi hx hm hd hw hb=>by
  rw[cb]at hc;simp only[hd,bF,zZ,eb,hc,cMt,hx,aA,hf,hz3 d _ _ (mu d hm),hw];rw[apP (b:=24) (n:=y.length) (m:=(cA k.2 d (dD d) b dV).length) (by decide) (by omega)];rfl) (λy=>by simp) (λhc=>by
  rw[cb]at hc;simp only[eb,aA,hc];cases D ((0:Int)<(ups.length:Int))<;>rfl),aA]
 have q7:(l6++cond (eD t b) (ups.flatMap λu=>cA k.2 u (dD u) b dV) []).length<=320032000:=by
  rw[cNa];cases eD t b
  .simp only[zY,cNd];omega
  .simp only[zZ];omega
 generalize (l6++cond (eD t b) (ups.flatMap λu=>cA k.2 u (dD u) b dV) [])=l7 at *;rw[dJ ups (λu=>downs.flatMap λd=>cA k.2 u (dD u) (dD d) d) (λx=>x) l7 (by omega) (by omega) (λi u y hi hx hm hd hw hb=>by
  have hb0:y.length+(downs.flatMap λd=>cA k.2 u (dD u) (dD d) d).length<=2000000000000:=hb;have hsum:(downs.map λd=>(cA k.2 u (dD u) (dD d) d).length).sum=(downs.flatMap λd=>cA k.2 u (dD u) (dD d) d).length:=by rw[cPf]
  simp only[hd,bF,zZ,cMt,hx,aA,hw];rw[dJ downs (λd=>cA k.2 u (dD u) (dD d) d) (λx=>x) y (by omega) (by rw[hsum];exact hb0) (λj d z hj hx' hm' hd' hw' hb'=>by
   simp only[hd',bF,zZ,cMt,hx',aA,hf,hcz u _ _ d (mu u hm) (md d hm'),hw'];rw[apP (b:=24) (n:=z.length) (m:=(cA k.2 u (dD u) (dD d) d).length) (by decide) (by omega)];rfl) (λy=>by simp)]
  rfl) (λy=>by simp)]
 rfl
def oE(p:den tPt):Prop:=cMy (α:=den tPp) p<=3/\ ∀x:den tPp,x∈(show lPp from p)->x.2.2.2.length<=8
def bU1(n:Nat)(l:lPt):Prop:=l.length<=n/\ ∀p∈l,oE p
def bXo:oE []:=⟨by simp,λx hx=>(cNr hx).elim⟩
def aSa{t:Ty}{B:Nat}:∀{l:List (den t)},(∀x∈l,tot t x<=B)->tot (.sl t) l<=(B+1) * l.length
 | [],_=>by simp[tot]
 | x::l,h=>by
  have ih:=aSa (l:=l) λy hy=>h y (cM4 _ hy)
  have hx:=h x (by simp);rw[jZ,cM8,Nat.mul_add,Nat.mul_one];omega
def bVn{q:den tPp}(h:q.2.2.2.length<=8):tot tPp q<=8:=by
 show tot ti q.1+(tot ti q.2.1+(tot ti q.2.2.1+tot (.sl cH) q.2.2.2))<=8;rw[qS (t:=cH) rfl];show 0+(0+(0+q.2.2.2.length))<=8;omega
def bI1{p:den tPt}(h:oE p):tot tPt p<=27:=by
 have h1:=aSa (t:=tPp) (B:=8) (l:=p) λx hx=>bVn (h.2 x hx)
 have h2:=h.1;show tot (.sl tPp) p<=27;have :(8+1) * cMy (α:=den tPp) p<=27:=by omega
 exact cMo h1 this
def bDv{n:Nat}{l:lPt}(h:bU1 n l):tot (.sl tPt) l<=28 * n:=by
 have h1:=aSa (t:=tPt) (B:=27) (l:=l) λx hx=>bI1 (h.2 x hx)
 have h2:=h.1;have :(27+1) * l.length<=28 * n:=by omega
 exact cMo h1 this
def bLu{up down:den tSg}(h1:up.2.2.length<=8)(h2:down.2.2.length<=8):∀n:Nat,oE (aOf up down n)
 | 0=>bXo
 | n+1=>by
  unfold aOf;split
  .refine⟨by simp,λx hx=> ?_⟩;simp only[cMv,cNr,or_false]at hx;rcases hx with rfl | rfl
   .exact cMo (aP7 _ _ _) h1
   .exact cMo (aP7 _ _ _) h2
  .exact bLu h1 h2 n
def aXt{p:lPp}(h:oE p):tot tPt p<=68719476736:=cMo (bI1 h) (by decide)
def bUm{x:den tPp}(h:x.2.2.2.length<=8):oE [x]:=⟨by simp,λy hy=>by rw[cM2.1 hy];exact h⟩
def bGy{s:den tSg}(hs:s.2.2.length<=8)(k:Int){p:lPp}{n:Nat}(hp:p.length<=n/\ ∀x∈p,x.2.2.2.length<=8):(jC s k p).length<=n+1/\ ∀x∈jC s k p,x.2.2.2.length<=8:=by
 unfold jC;cases D ((s.2.2.length:Int)>0) with
 | false=>exact⟨cMo hp.1 (Nat.le_succ _),hp.2⟩
 | true=>
  refine⟨by simp;exact hp.1,λx hx=> ?_⟩;rcases cM3.1 (show x∈p++[pR s k 0] from hx) with hx | hx
  .exact hp.2 x hx
  .rw[cM2.1 hx];exact cMo (aP7 s k 0) hs
def bLr{up core down:den tSg}(h1:up.2.2.length<=8)(h2:core.2.2.length<=8)(h3:down.2.2.length<=8)(b:Bool):oE (rY up core b down):=
 bGy h3 4 (n:=2) (bGy h2 (cond b 3 2) (n:=1) (bGy h1 1 (n:=0) ⟨by simp,λx hx=>(cNr hx).elim⟩))
def aQi{k:den tDb}(h:DbS k){up down:den tSg}(h1:up.2.2.length<=8)(h3:down.2.2.length<=8)(a b:Int):∀p∈cA k.2 up a b down,oE p:=by
 intro p hp;unfold cA at hp;rcases cM3.1 hp with hp | hp
 .obtain⟨s,hs,hp⟩:=cN6.1 hp;rw[cM2.1 hp];exact bLr h1 (h.hc1 s (cM6.1 hs).1) h3 Y
 .obtain⟨s,hs,hp⟩:=cN6.1 hp;rw[cM2.1 hp];exact bLr h1 (h.hc1 s (cM6.1 hs).1) h3 X
def bA9{t:den tTo}{k:den tDb}(h:DbS k)(a b:Int):∀p∈uY t k a b,oE p:=by
 intro p hp;have mu:∀s∈cX k.1 a,s.2.2.length<=8:=λs hs=>h.hd1 s (cM6.1 hs).1
 have md:∀s∈cX k.1 b,s.2.2.length<=8:=λs hs=>h.hd1 s (cM6.1 hs).1
 have one:∀(kind r:Int) (s:den tSg),s.2.2.length<=8-> ∀p∈rB kind r s,oE p:=λkind r s hs p hp=>by
  unfold rB at hp;cases hc:D (fIx s.2.2 r>=0) with
  | false=>rw[hc]at hp;cases hp
  | true=>
   rw[hc]at hp;rw[cM2.1 hp];exact bUm (cMo (aP7 _ _ _) hs)
 unfold uY at hp;cases hc:(a==b||(!cK t a|| !cK t b)) with
 | true=>rw[hc]at hp;cases hp
 | false=>
 rw[hc]at hp;simp only[zY,cM3]at hp;rcases hp with (((((hp | hp) | hp) | hp) | hp) | hp) | hp
 .obtain⟨s,hs,hp⟩:=cN6.1 hp;exact one _ _ s (mu s hs) p hp
 .obtain⟨s,hs,hp⟩:=cN6.1 hp;exact one _ _ s (md s hs) p hp
 .exact aQi h (by decide) (by decide) _ _ p hp
 .obtain⟨u,hu,hp⟩:=cN6.1 hp;obtain⟨d,hd,hp⟩:=cN6.1 hp;unfold uC at hp;cases hq:D (((aF7 u d).length:Int)>0) with
  | false=>rw[hq]at hp;cases hp
  | true=>
   rw[hq]at hp;rw[cM2.1 hp];exact bLu (mu u hu) (md d hd) _
 .cases hq:eD t a with
  | false=>rw[hq]at hp;cases hp
  | true=>
   rw[hq]at hp;obtain⟨d,hd,hp⟩:=cN6.1 hp;exact aQi h (by decide) (md d hd) _ _ p hp
 .cases hq:eD t b with
  | false=>rw[hq]at hp;cases hp
  | true=>
   rw[hq]at hp;obtain⟨u,hu,hp⟩:=cN6.1 hp;exact aQi h (mu u hu) (by decide) _ _ p hp
 .obtain⟨u,hu,hp⟩:=cN6.1 hp;obtain⟨d,hd,hp⟩:=cN6.1 hp;exact aQi h (mu u hu) (md d hd) _ _ p hp
def bEj{t:den tTo}{k:den tDb}(h:DbS k)(a b:Int):(uY t k a b).length<=2000000000000:=by
 obtain⟨n1,n2,n3,n4,n5,n6,s1,s2,s4,s5,s6,s7⟩:=aMb h a b;have n7:((cX k.1 a).flatMap λu=>(cX k.1 b).flatMap λd=>cA k.2 u (dD u) (dD d) d).length<=1024000000000:=by rw[cPf];exact s7
 unfold uY;cases (a==b||(!cK t a|| !cK t b)) with
 | true=>exact cM7 _
 | false=>
 cases eD t a<;>cases eD t b<;>simp only[zY,zZ,cNa,cNd]<;>omega
def aLz(q:den tPp)(i:Nat):Int:=aEg q (if uA q.1 then i+1 else i)
def aGr(t:den tTo)(q:den tPp):Bool:=(q.2.2.2.zipIdx 0).all λz=>vR t q.2.1 (aLz q z.2) z.1
def aRs(t:den tTo)(p:lPp):Bool:=p.all (aGr t)
def cD2{t:den tTo}{q:den tPp}(ht:t.1.length<=1000000)(h:q.2.2.2.length<=1000000):uO t q=U (aGr t q):=by
 unfold uO aGr pj2 pj4 pj5;rw[aM (l:=q.2.2.2) (λk (x:den cH)=>if vR t q.2.1 (aLz q k) x then W else U Y) (by omega) (λk x hi hd hw hx hk=>by
  have e1:mW (q.1,q.2.1,q.2.2.1,q.2.2.2) (k:Int)=U (aEg q k):=bAv (p:=q) (by omega) (by omega);have e2:mW (q.1,q.2.1,q.2.2.1,q.2.2.2) ((k+1:Nat):Int)=U (aEg q (k+1)):=bAv (p:=q) (by omega) (by omega);have e3:∀b,nB (t.1,t.2) q.2.1 b (x.1,x.2.1,x.2.2.1,x.2.2.2.1,x.2.2.2.2)=U (vR t q.2.1 b x):=λb=>aZz (t:=t) (h:=x) (by omega)
  simp only[hd,hi,hw,zZ,aA,e1,e2,e3,aMt];unfold aLz;cases uA q.1 with
  | true=>
   simp only[zZ,aA,e3,zV];cases vR t q.2.1 (aEg q (k+1)) x<;>rfl
  | false=>
   simp only[zY,aA,e3,cMr,zU];cases vR t q.2.1 (aEg q k) x<;>rfl) (by simp),aEa]
 cases (q.2.2.2.zipIdx 0).all λz=>vR t q.2.1 (aLz q z.2) z.1<;>rfl
def cC8{t:den tTo}{q:den tPp}(ht:t.1.length<=1000000)(h:q.2.2.2.length<=1000000):tM t q=U (aGr t q):=by
 unfold tM aGr pj2 pj4 pj5;rw[aM (l:=q.2.2.2) (λk (x:den cH)=>if vR t q.2.1 (aLz q k) x then W else U Y) (by omega) (λk x hi hd hw hx hk=>by
  have e1:kQ (q.1,q.2.1,q.2.2.1,q.2.2.2) (k:Int)=U (aEg q k):=bA0 (p:=q) (by omega) (by omega);have e2:kQ (q.1,q.2.1,q.2.2.1,q.2.2.2) ((k+1:Nat):Int)=U (aEg q (k+1)):=bA0 (p:=q) (by omega) (by omega);have e3:∀b,kV (t.1,t.2) q.2.1 b (x.1,x.2.1,x.2.2.1,x.2.2.2.1,x.2.2.2.2)=U (vR t q.2.1 b x):=λb=>bIl (t:=t) (h:=x) (by omega)
  have eb:aD0 (q.1,q.2.1,q.2.2.1,q.2.2.2) (k:Int)=U (aLz q k):=by
   unfold aD0 aLz pj4;simp only[aM0,aA,hw,e1,e2];cases uA q.1<;>rfl
  simp only[hd,hi,hw,zZ,aA,eb,e3];cases vR t q.2.1 (aLz q k) x<;>rfl) (by simp),aEa]
 cases (q.2.2.2.zipIdx 0).all λz=>vR t q.2.1 (aLz q z.2) z.1<;>rfl
def cG3{t:den tTo}{p:lPp}(ht:t.1.length<=1000000)(h:oE p):uV t p=U (aRs t p):=by
 have h3:=h.1;unfold uV aRs pj2 pj4;rw[aM (l:=p) (λ_ (x:den tPp)=>if aGr t x then W else U Y) (by omega) (λk x hi hd hw hx hk=>by
  have e:uO (t.1,t.2) (x.1,x.2.1,x.2.2.1,x.2.2.2)=U (aGr t x):=cD2 (t:=t) (q:=x) ht (cMo (h.2 x hx) (by decide));simp only[hd,hi,hw,zZ,aA,e];cases aGr t x<;>rfl) (by simp),iL]
 cases p.all (aGr t)<;>rfl
def cIo{t:den tTo}{p:lPp}(ht:t.1.length<=1000000)(h:oE p):uQ t p=U (aRs t p):=by
 have h3:=h.1;unfold uQ aRs pj2 pj4;rw[aM (l:=p) (λ_ (x:den tPp)=>if aGr t x then W else U Y) (by omega) (λk x hi hd hw hx hk=>by
  have e:tM (t.1,t.2) (x.1,x.2.1,x.2.2.1,x.2.2.2)=U (aGr t x):=cC8 (t:=t) (q:=x) ht (cMo (h.2 x hx) (by decide));simp only[hd,hi,hw,zZ,aA,e];cases aGr t x<;>rfl) (by simp),iL]
 cases p.all (aGr t)<;>rfl
def aGf(now:Int)(l:eU):Bool:=l.all λh=>D (now<=h.2.2.2.1)
def aO7(t:den tTo)(p:lPp)(now:Int):Bool:=cond (xQ t p&&aRs t p) (p.all λx=> !D (x.2.1>now)&&aGf now x.2.2.2) Y
def aXf(now:Int):∀(l:eU) (a:Int),D (now>(l.foldl sX (a,X)).1)= !(D (now<=a)&&aGf now l)
 | [],a=>by
  show D (now>a)= !(D (now<=a)&&X)
  by_cases h:now<=a
  .rw[zX h,zW (by omega)];rfl
  .rw[zW h,zX (by omega)];rfl
 | h::l,a=>by
  rw[cOf];unfold aGf;rw[cOj]
  by_cases c:h.2.2.2.1<a
  .have e2:sX (a,X) h=(h.2.2.2.1,X):=by unfold sX;simp[c]
   rw[e2,aXf now l];unfold aGf
   by_cases d:now<=h.2.2.2.1
   .rw[zX d,zX (Int.le_trans d (Int.le_of_lt c))];rfl
   .rw[zW d];simp
  .have e2:sX (a,X) h=(a,X):=by unfold sX;simp[c]
   rw[e2,aXf now l];unfold aGf
   by_cases d:now<=a
   .rw[zX d,zX (Int.le_trans d (Int.not_lt.1 c))];rfl
   .rw[zW d];rfl
def bYl{now:Int}{l:eU}(h:l≠[]):D (now>aCo l)= !aGf now l:=by
 cases l with
 | nil=>exact absurd rfl h
 | cons x l=>
  unfold aCo;rw[cOf];have e2:sX (0,Y) x=(x.2.2.2.1,X):=by unfold sX;simp
  rw[e2,aXf];unfold aGf;rw[cOj]
def bW4{l:eU}(hl:l.length<=1000000):jV l=U (aCo l):=by
 unfold jV;rw[fV (λk (a:Int)=>(a,(k:Int))) ((0:Int),(0:Int)) 0 l aE0 (λ_=>0) (λ_=>0) 1 id rfl (by omega) (by rw[sum_nil];omega) (λk x a=>by omega) (λk x a hi hx hd hw hk hb=>by
  simp only[hd,hi,hw,zZ,aA];unfold aE0
  by_cases h0:k=0
  .subst h0;rw[zT (.inl rfl)];rfl
  .rw[show ((k:Int)==0)=Y by rw[beq_eq_false_iff_ne];omega];simp only[zY,aA]
   by_cases c:x.2.2.2.1<a
   .rw[zX c,zT (.inr c)];rfl
   .rw[zW c,zS (by rintro (e | e);exact h0 e;exact c e)];rfl) (λa=>by simp),bFs]
 rfl
def cEf{t:den tTo}{p:den tPt}(h:wfP t p=X){k:Nat}{x:den tPp}(hx:p[k]? =U x):aBe t x=X/\(k=0\/bE5 ((p[k - 1]?).getD pt0) x=X):=by
 unfold wfP at h;rw[cMu]at h;have :=(aJ9 (aEc t p) p).1 h.2 k x hx;unfold aEc at this;rw[cMu,cOe,zR]at this;exact this
def bYa{t:den tTo}{x:den tPp}(h:aBe t x=X):0<x.2.2.2.length:=by
 unfold aBe at h;rw[cMu]at h;have :=(bQ.1 h.1).1;omega
def bJt{t:den tTo}{p:lPp}(h:xQ t p=X):∀x∈p,x.2.2.2≠[]:=by
 intro x hx e;unfold xQ at h;rw[cMu]at h;obtain⟨k,hk⟩:=cPs.1 hx;have :=bYa (cEf h.1 hk).1;rw[e]at this;exact absurd this (by decide)
def cGp{t:den tTo}{p:lPp}(ht:t.1.length<=1000000)(h2:t.2.length<=1000000)(h:oE p)(now:Int):tU t p now=U (aO7 t p now):=by
 have h3:=h.1;have e1:oJ (t.1,t.2) p=U (xQ t p):=bC9 (t:=t) (p:=p) (by omega) (by omega) (aXt h);have e2:uV (t.1,t.2) p=U (aRs t p):=cG3 (t:=t) ht h;unfold tU aO7 pj2;simp only[e1,e2,aA];cases c1:xQ t p with
 | false=>rfl
 | true=>
  cases c2:aRs t p with
  | false=>rfl
  | true=>
   simp only[cMp,zY,aA,cN7,zZ];rw[aM (l:=p) (λ_ (x:den tPp)=>if !D (x.2.1>now)&&aGf now x.2.2.2 then W else U Y) (by omega) (λk x hi hd hw hx hk=>by
    have e:jV x.2.2.2=U (aCo x.2.2.2):=bW4 (cMo (h.2 x hx) (by decide));simp only[hd,hi,hw,zZ,aA,e,bYl (now:=now) (bJt c1 x hx)];cases D (x.2.1>now)<;>cases aGf now x.2.2.2<;>rfl) (by simp),iL]
   cases p.all λx=> !D (x.2.1>now)&&aGf now x.2.2.2<;>rfl
def cGk{t:den tTo}{p:lPp}(ht:t.1.length<=1000000)(h2:t.2.length<=1000000)(h:oE p)(now:Int):tO t p now=U (aO7 t p now):=by
 have h3:=h.1;have e1:oO (t.1,t.2) p=U (xQ t p):=bD4 (t:=t) (p:=p) (by omega) (by omega) (aXt h);have e2:uQ (t.1,t.2) p=U (aRs t p):=cIo (t:=t) ht h;unfold tO aO7 pj2 pj5;simp only[e1,e2,aA];cases c1:xQ t p with
 | false=>rfl
 | true=>
  cases c2:aRs t p with
  | false=>rfl
  | true=>
   simp only[cMp,zY,aA,cN7,zZ];rw[aM (l:=p) (λ_ (x:den tPp)=>if !D (x.2.1>now)&&aGf now x.2.2.2 then W else U Y) (by omega) (λk x hi hd hw hx hk=>by
    have hx3:=h.2 x hx;simp only[hd,hi,hw,zZ,aA];cases c:D (x.2.1>now) with
    | true=>rfl
    | false=>
     simp only[zY];rw[aM (l:=x.2.2.2) (λ_ (y:den cH)=>if D (now<=y.2.2.2.1) then W else U (cMm (cMm Y))) (by omega) (λj y hj hd' hw' hy hk'=>by
      have ehv:∀(hp:den cH) (n:Int),rJ hp n=U (D (n<=hp.2.2.2.1)):=λ_ _=>rfl
      simp only[hd',hj,hw',zZ,aA,ehv];cases D (now<=y.2.2.2.1)<;>rfl) (by simp),iL]
     unfold aGf;cases x.2.2.2.all λy=>D (now<=y.2.2.2.1)<;>rfl) (by simp),iL]
   cases p.all λx=> !D (x.2.1>now)&&aGf now x.2.2.2<;>rfl
noncomputable def aKp(l:List lPp)(p:lPp):Bool:=l.any λx=>aD9 x p
def aHm{α:Type}(p:α->Bool):∀(l:List α) (k:Nat),dG (λ_ x=>if p x then U X else W) k l=if l.any p then U X else W
 | [],_=>rfl
 | x::l,k=>by
  rw[List.any_cons];unfold dG
  by_cases h:p x=X
  .rw[zT h,h];rfl
  .rw[zS h];have h':p x=Y:=by simpa using h
   rw[h',cOi];exact aHm p l (k+1)
def aQ1{p:lPp}(h:oE p):SmB 549755813888 (.sl tPp) p:=(bG (t:=tPt) (aXt h)).mono (by decide)
def cDj{l:List lPp}{p:lPp}(hl:l.length<=1000000)(h:∀x∈l,oE x)(hp:oE p):aB6 l p=U (aKp l p):=by
 unfold aB6 aKp;rw[aM (l:=l) (λ_ (x:lPp)=>if aD9 x p then U X else W) (by omega) (λk x hi hd hw hx hk=>by
  have e:tJ x p=U (aD9 x p):=cEt (aQ1 (h x hx)) (aQ1 hp);simp only[hd,hi,hw,zZ,aA,e];cases aD9 x p<;>rfl) (by simp),aHm (λx=>aD9 x p)]
 cases l.any λx=>aD9 x p<;>rfl
def cDk{l:List lPp}{p:lPp}(hl:l.length<=1000000)(h:∀x∈l,oE x)(hp:oE p):aCc l p=U (aKp l p):=by
 unfold aCc aKp;rw[aM (l:=l) (λ_ (x:lPp)=>if aD9 x p then U X else W) (by omega) (λk x hi hd hw hx hk=>by
  have e:uH x p=U (aD9 x p):=cD1 (aQ1 (h x hx)) (aQ1 hp);simp only[hd,hi,hw,zZ,aA,e];cases aD9 x p<;>rfl) (by simp),aHm (λx=>aD9 x p)]
 cases l.any λx=>aD9 x p<;>rfl
noncomputable def aEt(t:den tTo)(now:Int)(l:List lPp)(p:lPp):List lPp:=
 cond (D ((l.length:Int)<24)) (cond (aO7 t p now) (cond (aKp l p) l (l++[p])) l) l
noncomputable def hH(t:den tTo)(k:den tDb)(a b now:Int):List lPp:=(uY t k a b).foldl (aEt t now) []
def bH6{t:den tTo}{now:Int}{l:List lPp}{p:lPp}(h:l.length<=24/\ ∀x∈l,oE x)(hp:oE p):(aEt t now l p).length<=24/\ ∀x∈aEt t now l p,oE x:=by
 unfold aEt
 by_cases hc:(l.length:Int)<24
 .rw[zX hc,zZ];cases aO7 t p now with
  | false=>exact h
  | true=>
   cases aKp l p with
   | true=>exact h
   | false=>
    refine⟨by simp;omega,λx hx=> ?_⟩;rcases cM3.1 (show x∈l++[p] from hx) with hx | hx
    .exact h.2 x hx
    .rw[cM2.1 hx];exact hp
 .rw[zW hc];exact h
def bUh{t:den tTo}{now:Int}:∀(m l:List lPp),(∀p∈m,oE p)->l.length<=24->(∀x∈l,oE x)->(m.foldl (aEt t now) l).length<=24/\ ∀x∈m.foldl (aEt t now) l,oE x
 | [],l,_,h1,h2=>⟨h1,h2⟩
 | p::m,l,h,h1,h2=>by
  obtain⟨a,b⟩:=bH6 (t:=t) (now:=now) ⟨h1,h2⟩ (h p (by simp));exact bUh m _ (λq hq=>h q (cM4 _ hq)) a b
def bDd{t:den tTo}{now:Int}:∀(m l:List lPp),¬ ((l.length:Int)<24)->m.foldl (aEt t now) l=l
 | [],_,_=>rfl
 | p::m,l,h=>by
  have e:aEt t now l p=l:=by unfold aEt;rw[zW h];rfl
  rw[cOf,e];exact bDd m l h
def bCk{t:den tTo}{k:den tDb}(ht:t.1.length<=1000000)(h2:t.2.length<=1000000)(h:DbS k)(a b now:Int):hZ t k a b now=U (hH t k a b now):=by
 have e0:pX (t.1,t.2) (k.1,k.2) a b=U (uY t k a b):=cHy (t:=t) (k:=k) ht h a b;have hB:=bA9 (t:=t) h a b;have hL:=bEj (t:=t) h a b;unfold hZ hH pj2;rw[e0,aA];rw[(aDy (l:=uY t k a b) (aEt t now) (λ_ l=>l.length<=24/\ ∀x∈l,oE x) (out:=λx=>x) (by omega) ⟨by simp,λx hx=>(cNr hx).elim⟩ (λi p l hi hd hw hp hk hI=>by
  have e1:tU (t.1,t.2) p now=U (aO7 t p now):=cGp (t:=t) ht h2 (hB p hp) now;have e2:aB6 l p=U (aKp l p):=cDj (by omega) hI.2 (hB p hp);refine⟨?_,bH6 hI (hB p hp)⟩;unfold aEt;simp only[hd,hi,hw,zZ,aA,e1,e2,aC (b:=24) (n:=l.length) (m:=1) (by decide) (by omega)];cases D ((l.length:Int)<24)<;>cases aO7 t p now<;>cases aKp l p<;>rfl) (λl=>by simp)).1]
 rfl
def bBb{t:den tTo}{k:den tDb}(ht:t.1.length<=1000000)(h2:t.2.length<=1000000)(h:DbS k)(a b now:Int):fO t k a b now=U (hH t k a b now):=by
 have e0:pZ (t.1,t.2) (k.1,k.2) a b=U (uY t k a b):=cGx (t:=t) (k:=k) ht h a b;have hB:=bA9 (t:=t) h a b;have hL:=bEj (t:=t) h a b;unfold fO hH ixb pj2;rw[e0,aA];have key:∀(G:Int×List lPp->Option ((Int×List lPp)⊕List lPp)),
   (∀(i:Nat) (p:lPp) (l:List lPp),(uY t k a b)[i]? =U p->i<(uY t k a b).length->p∈uY t k a b->l.length<=24->(∀x∈l,oE x)->(l.length:Int)<24->G ((i:Int),l)=U (.inl (((i+1:Nat):Int),aEt t now l p)))->
   (∀(i:Nat) (l:List lPp),i<=(uY t k a b).length->(i=(uY t k a b).length\/ ¬ ((l.length:Int)<24))->G ((i:Int),l)=U (.inr l))->
   ∀(rest pre l:List lPp),pre++rest=uY t k a b->l.length<=24->(∀x∈l,oE x)->aB G ((pre.length:Int),l)=U (rest.foldl (aEt t now) l):=by
  intro G hs he rest
  induction rest with
  | nil=>intro pre l hp h1 h3;exact aI (he pre.length l (by rw[<- hp];simp) (.inl (by rw[<- hp];simp)))
  | cons p rest ih=>
   intro pre l hp h1 h3;have hlt:pre.length<(uY t k a b).length:=by rw[<- hp];simp
   have hx:(uY t k a b)[pre.length]? =U p:=by rw[<- hp];simp
   by_cases hc:(l.length:Int)<24
   .have hpB:=hB p (cMw hx);obtain⟨q1,q2⟩:=bH6 (t:=t) (now:=now) ⟨h1,h3⟩ hpB;rw[aP (hs pre.length p l hx hlt (cMw hx) h1 h3 hc),cOf];have :=ih (pre++[p]) (aEt t now l p) (by simpa using hp) q1 q2;simpa using this
   .rw[bDd _ _ hc];exact aI (he pre.length l (by omega) (.inr hc))
 refine (congrArg (λo=>Option.bind o _) (key _ (λi p l hx hi hp h1 h3 hc=> ?_) (λi l hi hc=> ?_) (uY t k a b) [] [] rfl (by simp) (λx hx=>(cNr hx).elim))).trans ?_
 .have e1:tO (t.1,t.2) p now=U (aO7 t p now):=cGk (t:=t) ht h2 (hB p hp) now;have e2:aCc l p=U (aKp l p):=cDk (by omega) h3 (hB p hp);have hd:D ((i:Int)<((uY t k a b).length:Int))=X:=zX (by omega);have hw:wr ((i:Int)+1)=((i+1:Nat):Int):=aId (by omega);unfold aEt;simp only[hd,bF,hw,zZ,cMt,hx,aA,e1,e2,zX hc,aC (b:=24) (n:=l.length) (m:=1) (by decide) (by omega)];cases aO7 t p now<;>cases aKp l p<;>rfl
 .rcases hc with rfl | hc
  .simp only[zW (Int.lt_irrefl _),zY,aA]
  .cases D ((i:Int)<((uY t k a b).length:Int)) with
   | false=>simp only[zY,aA]
   | true=>simp only[zZ,aA,zW hc,zY]
 .rfl
def bAr{t:den tTo}{k:den tDb}(h:DbS k)(a b now:Int):bU1 24 (hH t k a b now):=bUh _ _ (bA9 h a b) (by simp) (λx hx=>(cNr hx).elim)
def cF4(a b:Int):aD6 a b=U (a,b,0,[]):=rfl
def aEu(a b c d cu wa:Int)(ms:lMs)(ps:lPt)(rv:lRv):tot tFl (a,b,c,d,ms,ps,cu,wa,rv)=tot (.sl tMs) ms+tot (.sl tPt) ps+rv.length:=by
 show tot ti a+(tot ti b+(tot ti c+(tot ti d+(tot (.sl tMs) ms+(tot (.sl tPt) ps+(tot ti cu+(tot ti wa+tot (.sl tRv) rv)))))))=_;rw[qS (t:=tRv) rfl];show 0+(0+(0+(0+(_+(_+(0+(0+_)))))))=_;omega
def cD9(b:List Int):tot (.sl tMs) [b]=1+b.length:=by
 rw[jZ];show 1+tot (.sl tb) b+tot (.sl tMs) []=_;rw[qS (t:=tb) rfl];rfl
def aAx(w:den tNw)(f:den tFl):Bool:= !tW f|| !cK (nT w) f.1|| !cK (nT w) f.2.1||(f.2.2.2.1 != 0)||D (((aG w).length:Int)>=4)||D (oA (cQ w) f.2.1 f.1>=0)
def aIw(f:den tFl)(l:lPt)(now:Int):den tFl:=(f.1,f.2.1,f.2.2.1,f.2.2.2.1,f.2.2.2.2.1,aL1 f l now,0,0,f.2.2.2.2.2.2.2.2)
def aTp(w:den tNw)(f:den tFl)(l:lPt):den tNw:=(nT w,nK w,nG w,aV w,bC w,bS w,aG w++[aIw f l (aV w)],cQ w++[(f.2.1,f.1,0,[])],qL w)
def aO2(w:den tNw)(b:Bool):q33:=
 ((nG w).1,aV w,qL w,b,(nT w).1,(nT w).2,(nK w).1,(nK w).2,(nG w).2.1,(nG w).2.2,bC w,bS w,aG w,cQ w)
def bXe{w:den tNw}{f:den tFl}{l:lPt}(hw:tot tNw w<=68719476736)(hf:tot tFl f<=68719476736)(hl:tot (.sl tPt) l<=68719476736)(el:fO (nT w) (nK w) f.1 f.2.1 (aV w)=U l):
  wS w f=U (aO2 (if aAx w f then w else aTp w f l) (!aAx w f)):=by
 have sw:SmB 549755813888 tNw w:=(bG hw).mono (by decide);have sf:SmB 549755813888 tFl f:=(bG hf).mono (by decide);have n1:w.1.1.length<=549755813888:=sw.1.1.1;have n2:w.2.2.2.2.2.2.2.1.length<=68719476736:=(bG hw).2.2.2.2.2.2.2.1.1;have n3:w.2.2.2.2.2.2.1.length<=68719476736:=(bG hw).2.2.2.2.2.2.1.1;have el:fO w.1 w.2.1 f.1 f.2.1 w.2.2.2.1=U l:=el;have a1:aF 120 w.2.2.2.2.2.2.1.length 1=X:=aC (by decide) (by omega);have a2:aF 48 w.2.2.2.2.2.2.2.1.length 1=X:=aC (by decide) (by omega);unfold wS aAx aK pj2 pj4 pj9 aL aS bA bZ zz4 zz5 zz6 zz7 zz8 zz9;simp only[aD,bCf sw,aXs sf,aDg n1,bAt (show w.2.2.2.2.2.2.2.1.length<=549755813888 by omega),el,bRl hf hl,cF4,aA,aGx,a1,a2,zZ];cases tW f
 .rfl
 cases cK w.1 f.1
 .rfl
 cases cK w.1 f.2.1
 .rfl
 cases f.2.2.2.1 != 0 with
 | true=>rfl
 | false=>cases D ((w.2.2.2.2.2.2.1.length:Int)>=4) with
  | true=>rfl
  | false=>cases D (oA w.2.2.2.2.2.2.2.1 f.2.1 f.1>=0)<;>rfl
def aV3{t:den tTo}{now:Int}{dead:List Int}{r inn:Int}{p:den tPk}(h:((bM t now dead r inn p).1==0)=X):tot tPk (bM t now dead r inn p).2.2.1<=1100:=by
 have hv:sH p=X:=aTr (t:=t) (r:=r) (now:=now) (dead:=yQ t dead r) (inn:=inn) (by
  have h:((fwd t r now (yQ t dead r) inn p).1==0)=X:=h;rw[eq_of_beq h];rfl)
 unfold bM;rw[aPy];exact cMo (aYm hv) (by decide)
def cDa{w:den tNw}{x:den tFy}:tot tNw (bR w (bS w++[x]))=tot tNw w+(1+tot tPk x.2.2):=by
 have h1:=aQb w (bS w++[x]);rw[vV,aH8]at h1;have e:tot tFy x=tot tPk x.2.2:=by simp[sE,vU]
 omega
def bRb(m:Nat)(dead:List Int)(i:Int)(b:Bool):(yM m dead i b).length<=m:=by
 unfold yM;exact cMo (cOq ..) (by simp)
def bJr(w:den tNw)(l:List Int):tot tNw (aMn w l)+(bC w).length=tot tNw w+l.length:=by
 have e:tot tNw (aMn w l)=(tot (.sl tAS) (nT w).1+tot (.sl tLk) (nT w).2)+((tot (.sl tSg) (nK w).1+tot (.sl tSg) (nK w).2)+((0+(tot (.sl tRs) (nG w).2.1+tot (.sl tUs) (nG w).2.2))+(0+(tot (.sl ti) l+(tot (.sl tFy) (bS w)+(tot (.sl tFl) (aG w)+(tot (.sl tIb) (cQ w)+0))))))):=rfl;have r:∀l:List Int,tot (.sl ti) l=l.length:=λl=>qS rfl
 rw[e,dX w,r,r];omega
def cA5(w:den tNw)(b:Bool):lAS×lLk×lSg×lSg×Int×lRs×lUs×Int×lI×Int×Bool×lFy×lFl×lIb:=
 ((nT w).1,(nT w).2,(nK w).1,(nK w).2,(nG w).1,(nG w).2.1,(nG w).2.2,aV w,bC w,qL w,b,bS w,aG w,cQ w)
noncomputable def cJt(w:den tNw)(i:Nat)(f:den tFl):den tNw:=gW w ((aG w).set i (aIw f (hH (nT w) (nK w) f.1 f.2.1 (aV w)) (aV w)))
noncomputable def aQj(w:den tNw)(n:Int):Bool×den tNw:=match inR n 0 (((aG w).length:Int) - 1),(aG w)[n.toNat]? with
 | true,U f=>(X,cJt w n.toNat f)
 | _,_=>(Y,w)
noncomputable def doX(w:den tNw)(e:den yG):Bool×den tNw:=if e.1==9 then aQj w e.2.1 else doW w e
structure aTi (w:den tNw):Prop where
 as:(nT w).1.length<=1000000
 links:(nT w).2.length<=1000000
 db:DbS (nK w)
def aTi.find{w:den tNw}(h:aTi w)(a b now:Int):tot (.sl tPt) (hH (nT w) (nK w) a b now)<=100000/\(hH (nT w) (nK w) a b now).length<=24:=⟨cMo (bDv (bAr h.db a b now)) (by decide),(bAr h.db a b now).1⟩
def cKb{B F:Nat}{w:den tNw}{e:den yG}(hF:F<=1000)(hk:fH B F w)(hB:B+(F+1) * (160+F)<=34359738368)(hd:SmB 137438953472 (.sl tb) e.2.2.1)(hp:tot tPk e.2.2.2.2.2<=274877906944)(hdead:aQq (nT w).2.length (bC w))(hf:aTi w):kS w e=U ((doX w e).1,aN (doX w e).2):=by
 unfold doX;cases c:e.1==(9:Int) with
 | false=>exact cMi hF hk hB c hd hp hdead
 | true=>
  rw[zT rfl];obtain⟨kd,n,data,to,ing,pk⟩:=e;have c:kd=(9:Int):=eq_of_beq c;subst c;have hB0:B<=34359738368:=by have :=cM7 ((F+1) * (160+F));omega
  have l1:w.2.2.2.2.2.1.length<=68719476736:=aKd hk (by omega);have l2:w.2.2.2.2.2.2.1.length<=68719476736:=cMo hk.flows (by omega);obtain⟨n1,n2,n3⟩:=aGo hk (by omega);have l3:w.1.2.length<=68719476736:=n1.links;have w1:wr ((w.2.2.2.2.2.1.length:Int) - 1)=(w.2.2.2.2.2.1.length:Int) - 1:=dN (by omega);have w2:wr ((w.2.2.2.2.2.2.1.length:Int) - 1)=(w.2.2.2.2.2.2.1.length:Int) - 1:=dN (by omega);have w3:wr ((w.1.2.length:Int) - 1)=(w.1.2.length:Int) - 1:=dN (by omega);unfold kS aQj ixb aK eG aHz pj2 pj3 pj9 aL aS bA bZ dR oC yR yU yX aBb aBa aGu aLc aLj aLd aLn zz4 zz5 zz6 zz7 zz8 zz9;simp only[w1,w2,w3,gU,aA,show ((9:Int)==1)=Y from rfl,show ((9:Int)==2)=Y from rfl,show ((9:Int)==3)=Y from rfl,show ((9:Int)==4)=Y from rfl,show ((9:Int)==5)=Y from rfl,show ((9:Int)==6)=Y from rfl,show ((9:Int)==7)=Y from rfl,show ((9:Int)==8)=Y from rfl,show ((9:Int)==9)=X from rfl,zY,zZ];cases hin:inR n 0 ((w.2.2.2.2.2.2.1.length:Int) - 1) with
  | false=>rfl
  | true=>
   obtain⟨i,x,rfl,hx,hlt,hz⟩:=aKg l2 hin;have hx:(aG w)[i]? =U x:=hx;have hx':w.2.2.2.2.2.2.1[((i:Nat):Int).toNat]? =U x:=by rw[cMt];exact hx
   have hfx:tot tFl x<=34359738368:=by
    have h1:=kA (t:=tFl) (cMw hx);have :=dX w;have :=hk.tot;omega
   obtain⟨q1,q2⟩:=hf.find x.1 x.2.1 (aV w);have e1:hZ (w.1.1,w.1.2) (w.2.1.1,w.2.1.2) x.1 x.2.1 w.2.2.2.1=U (hH (nT w) (nK w) x.1 x.2.1 (aV w)):=bCk (t:=nT w) (k:=nK w) hf.as hf.links hf.db _ _ _;have e2:tR (x.1,x.2.1,x.2.2.1,x.2.2.2.1,x.2.2.2.2.1,x.2.2.2.2.2.1,x.2.2.2.2.2.2.1,x.2.2.2.2.2.2.2.1,x.2.2.2.2.2.2.2.2) (hH (nT w) (nK w) x.1 x.2.1 (aV w)) w.2.2.2.1=U _:=bSi (f:=x) (by omega) (cMo q1 (by decide));have hlt2:D (((i:Nat):Int).toNat<w.2.2.2.2.2.2.1.length)=X:=zX (by rw[cMt];exact (cM0.1 hx).1);simp only[cMp,zY,zZ,hlt,hz,hx',hlt2,aA,e1,e2,cN4];rfl
def cKf{B F:Nat}{w:den tNw}{e:den yG}(hF:F<=1000)(hk:fH B F w)(hB:B+(F+1) * (160+F)<=34359738368)(hd:SmB 137438953472 (.sl tb) e.2.2.1)(hp:tot tPk e.2.2.2.2.2<=274877906944)(hf:aTi w):pY w e=U ((doX w e).1,aN (doX w e).2):=by
 unfold doX;cases c:e.1==(9:Int) with
 | false=>exact cLw hF hk hB c hd hp
 | true=>
  rw[zT rfl];obtain⟨kd,n,data,to,ing,pk⟩:=e;have c:kd=(9:Int):=eq_of_beq c;subst c;have hB0:B<=34359738368:=by have :=cM7 ((F+1) * (160+F));omega
  have l1:w.2.2.2.2.2.1.length<=68719476736:=aKd hk (by omega);have l2:w.2.2.2.2.2.2.1.length<=68719476736:=cMo hk.flows (by omega);have w1:wr ((w.2.2.2.2.2.1.length:Int) - 1)=(w.2.2.2.2.2.1.length:Int) - 1:=dN (by omega);have w2:wr ((w.2.2.2.2.2.2.1.length:Int) - 1)=(w.2.2.2.2.2.2.1.length:Int) - 1:=dN (by omega);unfold pY aQj aDs ixb aK eG aHz pj2 pj9 aL aS bA bZ dR oC yR yU yX aBb aBa aGu aLc aLj aLd aLn zz4 zz5 zz6 zz7 zz8 zz9;simp only[w1,w2,fB,aA,show ((9:Int)==1)=Y from rfl,show ((9:Int)==2)=Y from rfl,show ((9:Int)==3)=Y from rfl,show ((9:Int)==4)=Y from rfl,show ((9:Int)==5)=Y from rfl,show ((9:Int)==6)=Y from rfl,show ((9:Int)==7)=Y from rfl,show ((9:Int)==8)=Y from rfl,show ((9:Int)==9)=X from rfl,zY,zZ];cases hin:inR n 0 ((w.2.2.2.2.2.2.1.length:Int) - 1) with
  | false=>rfl
  | true=>
   obtain⟨i,x,rfl,hx,hlt,hz⟩:=aKg l2 hin;have hx:(aG w)[i]? =U x:=hx;have hx':w.2.2.2.2.2.2.1[((i:Nat):Int).toNat]? =U x:=by rw[cMt];exact hx
   have hfx:tot tFl x<=34359738368:=by
    have h1:=kA (t:=tFl) (cMw hx);have :=dX w;have :=hk.tot;omega
   obtain⟨q1,q2⟩:=hf.find x.1 x.2.1 (aV w);have e1:fO (w.1.1,w.1.2) (w.2.1.1,w.2.1.2) x.1 x.2.1 w.2.2.2.1=U (hH (nT w) (nK w) x.1 x.2.1 (aV w)):=bBb (t:=nT w) (k:=nK w) hf.as hf.links hf.db _ _ _;have e2:uB (x.1,x.2.1,x.2.2.1,x.2.2.2.1,x.2.2.2.2.1,x.2.2.2.2.2.1,x.2.2.2.2.2.2.1,x.2.2.2.2.2.2.2.1,x.2.2.2.2.2.2.2.2) (hH (nT w) (nK w) x.1 x.2.1 (aV w)) w.2.2.2.1=U _:=bRl (f:=x) (by omega) (cMo q1 (by decide));have hlt2:D (((i:Nat):Int).toNat<w.2.2.2.2.2.2.1.length)=X:=zX (by rw[cMt];exact (cM0.1 hx).1);simp only[cMp,zY,zZ,hlt,hz,hx',hlt2,aA,e1,e2];rfl
noncomputable def aEy(w:den tNw)(e:den yG):Bool×den tNw:=if aFe w then (if (doX w e).1 then doX w e else (Y,w)) else (Y,w)
structure StX (w w':den tNw):Prop where
 top:nT w'=nT w
 book:nK w'=nK w
 fly:(∀x∈bS w,tot tPk x.2.2<=1100)-> ∀x∈bS w',tot tPk x.2.2<=1100
def StX.refl(w:den tNw):StX w w:=⟨rfl,rfl,id⟩
def StX.trans{a b c:den tNw}(h:StX a b)(k:StX b c):StX a c:=⟨k.top.trans h.top,k.book.trans h.book,λx=>k.fly (h.fly x)⟩
def bLl(w:den tNw)(i:Nat)(x:den tIb):StX w (aEz w i x):=⟨rfl,rfl,id⟩
def aN4(w:den tNw)(l:lFl):StX w (gW w l):=⟨rfl,rfl,id⟩
def aW9(w:den tNw):StX w (aKo w):=⟨rfl,rfl,id⟩
def bRc(w:den tNw):StX w (aUi w):=⟨rfl,rfl,id⟩
def bHo{w:den tNw}{r eg:Int}{p:den tPk}(hp:tot tPk p<=1100):StX w (aGp w r eg p):=by
 unfold aGp;split
 .refine⟨rfl,rfl,λh x hx=> ?_⟩;rcases cM3.1 (show x∈bS w++_ from hx) with hx | hx
  .exact h x hx
  .rw[cM2.1 hx];exact hp
 .exact⟨rfl,rfl,id⟩
def bDi(w:den tNw)(r inn:Int)(p:den tPk):StX w (aB7 w r inn p):=by
 unfold aB7;split
 .rename_i h;exact bHo (aV3 h)
 .split<;>exact⟨rfl,rfl,id⟩
def aWi(w:den tNw)(r inn:Int)(p:den tPk):StX w (pO w r inn p):=by
 unfold pO;split
 .rename_i h;exact bHo (aV3 h)
 .split
  .split
   .unfold aN6;split
    .exact StX.refl w
    .split
     .exact (bLl _ _ _).trans (bDi _ _ _ _)
     .exact bLl _ _ _
   .exact aN4 _ _
  .split
   .unfold aQk;split
    .exact (bDi _ _ _ _).trans (aW9 _)
    .exact (aN4 _ _).trans (aW9 _)
   .exact aW9 _
def bTn(k:Nat)(w:den tNw):StX w (aIj k w):=by
 unfold aIj;split
 .split
  .exact (aN4 _ _).trans (aWi _ _ _ _)
  .exact aN4 _ _
 .exact StX.refl w
def bC7:∀(n k:Nat) (w:den tNw),StX w (aQx k n w)
 | 0,_,w=>StX.refl w
 | n+1,k,w=>(bTn k w).trans (bC7 n (k+1) _)
def bIy(w:den tNw):StX w (gH w):=by
 unfold gH;split
 .exact StX.refl w
 .exact (bRc w).trans (bC7 _ _ _)
def cDp(w:den tNw):StX w (aJi w):=by
 unfold aJi;split
 .exact StX.refl w
 .rename_i x l hf;have a:StX w (bR w l):=⟨rfl,rfl,λh y hy=>h y (by rw[hf];exact cM4 _ hy)⟩
  exact a.trans (aWi _ _ _ _)
def bMj:∀(n:Nat) (w:den tNw),StX w (aPf n w)
 | 0,w=>StX.refl w
 | n+1,w=>by
  unfold aPf;split
  .exact StX.refl w
  .exact (cDp w).trans (bMj n _)
def aYk:∀(n:Nat) (w:den tNw),StX w (aPn n w)
 | 0,w=>StX.refl w
 | n+1,w=>((bIy w).trans (bMj 2000 _)).trans (aYk n _)
structure NB (B:Nat) (w:den tNw):Prop where
 keep:fH B 4 w
 fly:∀x∈bS w,tot tPk x.2.2<=1100
 find:aTi w
def NB.mono{B C:Nat}{w:den tNw}(h:NB B w)(hb:B<=C):NB C w:=⟨h.keep.mono hb,h.fly,h.find⟩
def NB.st{B C:Nat}{w w':den tNw}(h:NB B w)(s:StX w w')(hk:fH C 4 w'):NB C w':=⟨hk,s.fly h.fly,by rw[s.top];exact h.find.as,by rw[s.top];exact h.find.links,by rw[s.book];exact h.find.db⟩
structure EvX (e:den yG):Prop where
 data:e.2.2.1.length<=5000/\aE1 e.2.2.1
 pk:tot tPk e.2.2.2.2.2<=1100/\sI e.2.2.2.2.2
def bFu{B:Nat}{w:den tNw}{n:Int}(h:NB B w):NB (B+328656000) (jJ w n):=by
 unfold jJ;split
 .rename_i hc;rw[cMu,bQ]at hc;refine h.st (aYk _ _) ((aM5 n.toNat h.keep).mono ?_);rw[cCy];have :n.toNat * 328656<=1000 * 328656:=Nat.mul_le_mul (by omega) (cM5 _);omega
 .exact h.mono (by omega)
def bK5{B:Nat}{w:den tNw}(h:NB B w)(i:Nat):NB B (aG7 w i):=
 h.st ⟨rfl,rfl,λhf y hy=>hf y ((cM3.1 (show y∈(bS w).take _++(bS w).drop _ from hy)).elim cOn cOr)⟩ (aQl h.keep _)
def bRp{B:Nat}{w:den tNw}(h:NB B w){x:den tFy}(hx:tot tPk x.2.2<=1100/\sI x.2.2):NB (B+1101) (bR w (bS w++[x])):=by
 have h1:=cDa (w:=w) (x:=x);have h2:=h.keep.tot;refine h.st ⟨rfl,rfl,λhf y hy=> ?_⟩ ⟨by omega,h.keep.flows,λy hy=> ?_,h.keep.bytes.msg⟩
 .rcases cM3.1 (show y∈bS w++[x] from hy) with hy | hy
  .exact hf y hy
  .rw[cM2.1 hy];exact hx.1
 .rcases cM3.1 (show y∈bS w++[x] from hy) with hy | hy
  .exact h.keep.bytes.fly y hy
  .rw[cM2.1 hy];exact hx.2
def bSz{B:Nat}{w:den tNw}{e:den yG}(h:NB B w)(he:EvX e):NB (B+2000000) (doX w e).2:=by
 have same:NB (B+2000000) w:=h.mono (by omega);have ht:=h.keep.tot;unfold doX;split
 .unfold aQj;split
  .rename_i f hi hf;have h1:=aVe (t:=tFl) (y:=aIw f (hH (nT w) (nK w) f.1 f.2.1 (aV w)) (aV w)) hf;have h5:=aI4 w ((aG w).set e.2.1.toNat (aIw f (hH (nT w) (nK w) f.1 f.2.1 (aV w)) (aV w)));have h6:=dX w;have h8:=bEw f (hH (nT w) (nK w) f.1 f.2.1 (aV w)) (aV w);have h9:=(h.find.find f.1 f.2.1 (aV w)).1;have h10:tot tFl (aIw f (hH (nT w) (nK w) f.1 f.2.1 (aV w)) (aV w))<=tot tFl f+100000:=by
    generalize hH (nT w) (nK w) f.1 f.2.1 (aV w)=l at *;have hq:tot tFl (aIw f l (aV w))=tot (.sl tMs) f.2.2.2.2.1+tot (.sl tPt) (aL1 f l (aV w))+f.2.2.2.2.2.2.2.2.length:=aEu _ _ _ _ _ _ _ _ _;have hr:tot tFl f=tot (.sl tMs) f.2.2.2.2.1+tot (.sl tPt) f.2.2.2.2.2.1+f.2.2.2.2.2.2.2.2.length:=aEu _ _ _ _ _ _ _ _ _;omega
   refine h.st (w':=gW w _) ⟨rfl,rfl,id⟩ ⟨by omega,by show ((aG w).set _ _).length<=4;rw[cOv];exact h.keep.flows,h.keep.bytes.fly,λg hg m hm=> ?_⟩;rcases cPr (show g∈(aG w).set _ _ from hg) with hg | rfl
   .exact h.keep.bytes.msg g hg m hm
   .exact h.keep.bytes.msg f (cMw hf) m hm
  .exact same
 .unfold doW;split
  .exact h.st (bIy w) ((aLu h.keep).mono (by omega))
  .split
   .split
    .rename_i x hi hx;have hg:=bK5 h e.2.1.toNat;exact hg.st (aWi _ _ _ _) ((bJ6 hg.keep (h.keep.bytes.fly x (cMw hx))).mono (by omega))
    .exact same
   .split
    .split
     .have hg:=bK5 h e.2.1.toNat;exact NB.mono (B:=B) (hg.st ⟨rfl,rfl,id⟩ ⟨hg.keep.tot,hg.keep.flows,hg.keep.bytes.fly,hg.keep.bytes.msg⟩) (by omega)
     .exact same
    .split
     .split
      .rename_i x hi hx;have hm:=cMw hx;exact (bRp h ⟨h.fly x hm,h.keep.bytes.fly x hm⟩).mono (by omega)
      .exact same
     .split
      .show NB _ (aQ5 w e.2.1 (e.1==5));unfold aQ5;split
       .exact same
       .have h1:=bJr w (yM (nT w).2.length (bC w) e.2.1 (e.1==5));have h2:=bRb (nT w).2.length (bC w) e.2.1 (e.1==5);have h3:=h.find.links;exact h.st (w':=aMn w _) ⟨rfl,rfl,id⟩ ⟨by omega,h.keep.flows,h.keep.bytes.fly,h.keep.bytes.msg⟩
      .split
       .split
        .exact (bRp h (x:=e.2.2.2) he.pk).mono (by omega)
        .exact same
       .split
        .split
         .rename_i f hi hf;have h1:=aVe (t:=tFl) (y:=aTh f e.2.2.1) hf;have h5:=aI4 w ((aG w).set e.2.1.toNat (aTh f e.2.2.1));have h6:=dX w;have h2:tot tFl (aTh f e.2.2.1)<=tot tFl f+5001:=by
           unfold aTh;split
           .obtain⟨a,b,c,d,ms,ps,cu,wa,rv⟩:=f;show tot tFl (a,b,c,d,ms++[e.2.2.1],ps,cu,wa,rv)<=tot tFl (a,b,c,d,ms,ps,cu,wa,rv)+5001;rw[aEu,aEu,vV,cD9];have :=he.data.1;omega
           .omega
          refine h.st (w':=gW w _) ⟨rfl,rfl,id⟩ ⟨by omega,by show ((aG w).set _ _).length<=4;rw[cOv];exact h.keep.flows,h.keep.bytes.fly,λg hg m hmm=> ?_⟩;rcases cPr (show g∈(aG w).set _ _ from hg) with hg | rfl
          .exact h.keep.bytes.msg g hg m hmm
          .unfold aTh at hmm;have old:=h.keep.bytes.msg f (cMw hf) m;split at hmm
           .rcases cM3.1 (show m∈f.2.2.2.2.1++[e.2.2.1] from hmm) with hmm | hmm
            .exact old hmm
            .rw[cM2.1 hmm];exact he.data.2
           .exact old hmm
         .exact same
        .exact same
def bVq{B:Nat}{w:den tNw}{e:den yG}(h:NB B w)(he:EvX e):NB (B+2000000) (aEy w e).2:=by
 unfold aEy;split
 .split
  .exact bSz h he
  .exact h.mono (by omega)
 .exact h.mono (by omega)
def bUy{w:den tNw}(hv:aFe w=X):aQq (nT w).2.length (bC w):=by
 unfold aFe at hv;simp only[cMu,zR,cN3,decide_eq_false_iff_not]at hv;exact cDn hv.2.2.2.1
def cFy{B:Nat}{w:den tNw}{e:den yG}(h:NB B w)(hB:B<=34000000000)(he:EvX e):rR w e=U (aO2 (aEy w e).2 (aEy w e).1):=by
 have ht:=h.keep.tot;have e0:=bG9 (w:=w) (by omega);have e1:=aPu (w:=w) ((bG (show tot tNw w<=68719476736 by omega)).mono (by decide));unfold aEy;cases hv:aFe w with
 | false=>
  rw[hv]at e0;obtain⟨⟨as,ls⟩,⟨dn,co⟩,⟨cap,res,us⟩,now,dead,fly,flows,box,drop⟩:=w;unfold rR aK aL aS bA bZ dR zz4 zz5 zz6 zz7 zz8 zz9;simp only[e0,e1,aA,cMx,zZ,aGx,nT,nK,nG,aV,bC,bS,aG,cQ,qL,cMr,zU];rfl
 | true=>
  rw[hv]at e0;have hD:=bUy hv;have e2:=cKb (w:=w) (e:=e) (F:=4) (B:=B) (by decide) h.keep (by omega) ⟨by have :=he.data.1;omega,λx hx=>trivial⟩ (cMo he.pk.1 (by decide)) hD h.find;have ht':=(bSz h he).keep.tot;have e3:=aPu (w:=(doX w e).2) ((bG (show tot tNw (doX w e).2<=68719476736 by omega)).mono (by decide));generalize doX w e=r at *;obtain⟨b,w'⟩:=r;obtain⟨⟨as,ls⟩,⟨dn,co⟩,⟨cap,res,us⟩,now,dead,fly,flows,box,drop⟩:=w;obtain⟨⟨as',ls'⟩,⟨dn',co'⟩,⟨cap',res',us'⟩,now',dead',fly',flows',box',drop'⟩:=w';obtain⟨kd,en,data,to,ing,k1,k2,k3,k4,k5,k6,k7,k8,k9,k10⟩:=e;unfold rR aK aL aS bA bZ dR zz4 zz5 zz6 zz7 zz8 zz9;simp only[aGx,aN,nT,nK,nG,aV,bC,bS,aG,cQ,qL]at e1 e2 e3;simp only[e0,e1,aA,cMp,zY,e2,zV];cases b with
  | false=>simp only[cMx,zZ,e1,aA,cMr,zU];rfl
  | true=>simp only[cMp,zY,e3,aA,zV];rfl
def cF5{B:Nat}{w:den tNw}{e:den yG}(h:NB B w)(hB:B<=34000000000)(he:EvX e):rH w e=U (cA5 (aEy w e).2 (aEy w e).1):=by
 have ht:=h.keep.tot;have e0:=bFx (w:=w) (by omega);have e1:=bCf (w:=w) ((bG (show tot tNw w<=68719476736 by omega)).mono (by decide));unfold aEy;cases hv:aFe w with
 | false=>
  rw[hv]at e0;obtain⟨⟨as,ls⟩,⟨dn,co⟩,⟨cap,res,us⟩,now,dead,fly,flows,box,drop⟩:=w;unfold rH aK pj3 aL aS bA bZ dR zz4 zz5 zz6 zz7 zz8 zz9;simp only[e0,e1,aA,cMx,zZ,aGx,nT,nK,nG,aV,bC,bS,aG,cQ,qL,cMr,zU];rfl
 | true=>
  rw[hv]at e0;have e2:=cKf (w:=w) (e:=e) (F:=4) (B:=B) (by decide) h.keep (by omega) ⟨by have :=he.data.1;omega,λx hx=>trivial⟩ (cMo he.pk.1 (by decide)) h.find;generalize doX w e=r at *;obtain⟨b,w'⟩:=r;obtain⟨⟨as,ls⟩,⟨dn,co⟩,⟨cap,res,us⟩,now,dead,fly,flows,box,drop⟩:=w;obtain⟨⟨as',ls'⟩,⟨dn',co'⟩,⟨cap',res',us'⟩,now',dead',fly',flows',box',drop'⟩:=w';obtain⟨kd,en,data,to,ing,k1,k2,k3,k4,k5,k6,k7,k8,k9,k10⟩:=e;unfold rH aK pj3 aL aS bA bZ dR zz4 zz5 zz6 zz7 zz8 zz9;simp only[aGx,aN,nT,nK,nG,aV,bC,bS,aG,cQ,qL]at e1 e2;simp only[e0,e1,aA,cMp,zY,e2,zV];cases b with
  | false=>simp only[cMx,zZ,e1,aA,cMr,zU];rfl
  | true=>simp only[cMp,zY,aA,zV];rfl
def cF9(a b:Int):aEb a b=U (a,b,0,[]):=rfl
def cIy{w:den tNw}{f:den tFl}{l:lPt}(hw:tot tNw w<=68719476736)(hf:tot tFl f<=68719476736)(hl:tot (.sl tPt) l<=68719476736)(el:hZ (nT w) (nK w) f.1 f.2.1 (aV w)=U l):
  wK w f=U (aO2 (if aAx w f then w else aTp w f l) (!aAx w f)):=by
 have sw:SmB 549755813888 tNw w:=(bG hw).mono (by decide);have sf:SmB 549755813888 tFl f:=(bG hf).mono (by decide);have n1:w.1.1.length<=549755813888:=sw.1.1.1;have n2:w.2.2.2.2.2.2.2.1.length<=68719476736:=(bG hw).2.2.2.2.2.2.2.1.1;have n3:w.2.2.2.2.2.2.1.length<=68719476736:=(bG hw).2.2.2.2.2.2.1.1;have el:hZ w.1 w.2.1 f.1 f.2.1 w.2.2.2.1=U l:=el;have a1:aF 120 w.2.2.2.2.2.2.1.length 1=X:=aC (by decide) (by omega);have a2:aF 48 w.2.2.2.2.2.2.2.1.length 1=X:=aC (by decide) (by omega);unfold wK aAx aK pj2 pj4 pj9 aL aS bA bZ zz4 zz5 zz6 zz7 zz8 zz9;simp only[aD,aPu sw,aW7 sf,aBy n1,bL5 (show w.2.2.2.2.2.2.2.1.length<=549755813888 by omega),el,bSi hf hl,cF9,aA,aGx,a1,a2,zZ];cases tW f
 .rfl
 cases cK w.1 f.1
 .rfl
 cases cK w.1 f.2.1
 .rfl
 cases f.2.2.2.1 != 0 with
 | true=>rfl
 | false=>cases D ((w.2.2.2.2.2.2.1.length:Int)>=4) with
  | true=>cases D (oA w.2.2.2.2.2.2.2.1 f.2.1 f.1>=0)<;>rfl
  | false=>cases D (oA w.2.2.2.2.2.2.2.1 f.2.1 f.1>=0)<;>rfl
noncomputable def aXd(w:den tNw)(f:den tFl):den tNw:=if aAx w f then w else aTp w f (hH (nT w) (nK w) f.1 f.2.1 (aV w))
def cHd{B:Nat}{w:den tNw}{f:den tFl}(h:NB B w)(hB:B<=34000000000)(hf:tot tFl f<=1000):wK w f=U (aO2 (aXd w f) (!aAx w f)):=
 cIy (cMo h.keep.tot (by omega)) (by omega) (cMo (h.find.find f.1 f.2.1 (aV w)).1 (by decide)) (bCk h.find.as h.find.links h.find.db _ _ _)
def cId{B:Nat}{w:den tNw}{f:den tFl}(h:NB B w)(hB:B<=34000000000)(hf:tot tFl f<=1000):wS w f=U (aO2 (aXd w f) (!aAx w f)):=
 bXe (cMo h.keep.tot (by omega)) (by omega) (cMo (h.find.find f.1 f.2.1 (aV w)).1 (by decide)) (bBb h.find.as h.find.links h.find.db _ _ _)
def bJz{B:Nat}{w:den tNw}{f:den tFl}(h:NB B w)(hf:tot tFl f<=1000)(hm:f.2.2.2.2.1=[]):NB (B+2000000) (aXd w f):=by
 unfold aXd;split
 .exact h.mono (by omega)
 .rename_i hb;have h9:=(h.find.find f.1 f.2.1 (aV w)).1;have h8:=bEw f (hH (nT w) (nK w) f.1 f.2.1 (aV w)) (aV w);have ht:=h.keep.tot;generalize hH (nT w) (nK w) f.1 f.2.1 (aV w)=l at *;have hq:tot tFl (aIw f l (aV w))=tot (.sl tMs) f.2.2.2.2.1+tot (.sl tPt) (aL1 f l (aV w))+f.2.2.2.2.2.2.2.2.length:=aEu _ _ _ _ _ _ _ _ _;have hr:tot tFl f=tot (.sl tMs) f.2.2.2.2.1+tot (.sl tPt) f.2.2.2.2.2.1+f.2.2.2.2.2.2.2.2.length:=aEu _ _ _ _ _ _ _ _ _;have e1:tot (.sl tFl) (aG w++[aIw f l (aV w)])=tot (.sl tFl) (aG w)+(1+tot tFl (aIw f l (aV w))):=by rw[vV,aH8]
  have e2:tot (.sl tIb) (cQ w++[((f.2.1,f.1,0,[]):den tIb)])=tot (.sl tIb) (cQ w)+1:=by rw[vV,aH8];rfl
  have e3:=dX (aTp w f l);have e4:=dX w;have e5:aG (aTp w f l)=aG w++[aIw f l (aV w)]:=rfl;have e6:cQ (aTp w f l)=cQ w++[(f.2.1,f.1,0,[])]:=rfl;rw[e5,e6,e1,e2]at e3;have hlen:(aG w).length<4:=by
   unfold aAx at hb;simp only[cOe,not_or,zR]at hb;omega
  refine h.st (w':=aTp w f l) ⟨rfl,rfl,id⟩ ⟨?_,by show (aG w++_).length<=4;simp;omega,h.keep.bytes.fly,λg hg m hmm=> ?_⟩
  .have q:tot tNw (aTp w f l)=tot tNw w+(1+tot tFl (aIw f l (aV w)))+1:=by
    rw[e3,e4];show (tot (.sl tAS) (nT w).1+tot (.sl tLk) (nT w).2)+((tot (.sl tSg) (nK w).1+tot (.sl tSg) (nK w).2)+((0+(tot (.sl tRs) (nG w).2.1+tot (.sl tUs) (nG w).2.2))+(0+(tot (.sl ti) (bC w)+(tot (.sl tFy) (bS w)+_)))))=_;omega
   omega
  .rcases cM3.1 (show g∈aG w++[_] from hg) with hg | hg
   .exact h.keep.bytes.msg g hg m hmm
   .rw[cM2.1 hg]at hmm;have hmm:m∈f.2.2.2.2.1:=hmm;rw[hm]at hmm;cases hmm
structure eR (t:den tTo):Prop where
 as:t.1.length<=1000000
 links:t.2.length<=1000000
def eR.a{t:den tTo}(h:eR t):t.1.length<=549755813888:=cMo h.as (by decide)
def eR.l{t:den tTo}(h:eR t):t.2.length<=549755813888:=cMo h.links (by decide)
def eR.sm{t:den tTo}(h:eR t):SmB 549755813888 tTo t:=⟨⟨h.a,λx _=>SmB.flat rfl⟩,h.l,λx _=>SmB.flat rfl⟩
def cBs{σ S S' R R':Type}(n:Nat)(eI:Nat->σ->S)(eS:Nat->σ->S')(oI:σ->R)(oS:σ->R')(I:Nat->σ->Prop){fI:S->Option (S⊕R)}{fS:S'->Option (S'⊕R')}
  (h:∀(k:Nat) (a:σ),k<n->I k a-> ∃b,fI (eI k a)=U (.inl (eI (k+1) b))/\fS (eS k a)=U (.inl (eS (k+1) b))/\I (k+1) b)
  (he:∀a,I n a->fI (eI n a)=U (.inr (oI a))/\fS (eS n a)=U (.inr (oS a))) (a0:σ) (h0:I 0 a0):∃a,aB fI (eI 0 a0)=U (oI a)/\aB fS (eS 0 a0)=U (oS a)/\I n a:=by
 have key:∀(m k:Nat) (a:σ),k+m=n->I k a-> ∃b,aB fI (eI k a)=U (oI b)/\aB fS (eS k a)=U (oS b)/\I n b:=by
  intro m
  induction m with
  | zero=>
   intro k a hk hI;have :k=n:=by omega
   subst this;exact⟨a,aI (he a hI).1,aI (he a hI).2,hI⟩
  | succ m ih=>
   intro k a hk hI;obtain⟨b,h1,h2,h3⟩:=h k a (by omega) hI;rw[aP h1,aP h2];exact ih (k+1) b (by omega) h3
 exact key n 0 a0 (cNo n) h0
def bFj(s:Int):Bool:=inR s 0 65535
def aHe(p:den cJ):Bool:=inR p.1 1 8&&(bFj p.2.1&&(bFj p.2.2.1&&inR p.2.2.2 1 1000))
def bLd(p:den cJ):pB p=U (aHe p):=by
 unfold pB nU aHe bFj;simp only[gU,aA];cases inR p.1 1 8<;>cases inR p.2.1 0 65535<;>cases inR p.2.2.1 0 65535<;>rfl
def bKy(p:den cJ):mP p=U (aHe p):=by
 unfold mP nW aHe bFj;simp only[fB,aA];cases inR p.1 1 8<;>cases inR p.2.1 0 65535<;>cases inR p.2.2.1 0 65535<;>rfl
def aLo:den cJ:=(8,0,0,100)
def cE(l:dE)(r:Int):den cJ:=if inR r 0 ((l.length:Int) - 1)&&aHe ((l[r.toNat]?).getD aLo) then (l[r.toNat]?).getD aLo else aLo
def bRn{α:Type}{l:List α}{r:Int}(d:α)(h:inR r 0 ((l.length:Int) - 1)=X):idx l r=U ((l[r.toNat]?).getD d):=by
 obtain⟨g0,g1⟩:=bQ.1 h;rw[aPl g0 (by omega),cMz (by omega)];rfl
def bCb{l:dE}{r:Int}(h:l.length<=1000000):kU l r=U (cE l r):=by
 unfold kU cE pj4;rw[show wr ((l.length:Int) - 1)=(l.length:Int) - 1 from dN (by omega),gU];cases c:inR r 0 ((l.length:Int) - 1) with
 | false=>rfl
 | true=>
  rw[bRn aLo c];simp only[aA,cMp,zY,aD,bLd];cases aHe ((l[r.toNat]?).getD aLo)<;>rfl
def bA7{l:dE}{r:Int}(h:l.length<=1000000):kX l r=U (cE l r):=by
 unfold kX cE pj4;rw[show wr ((l.length:Int) - 1)=(l.length:Int) - 1 from dN (by omega),fB];cases c:inR r 0 ((l.length:Int) - 1) with
 | false=>rfl
 | true=>
  rw[bRn aLo c];simp only[aA,cMp,zY,aD,bKy];cases aHe ((l[r.toNat]?).getD aLo)<;>rfl
def bG8{s:den tSg}(hl:s.2.2.length<=1000000):jY s=U (s.2.2.map λh=>(h.1:Int)):=by
 unfold jY aHp;rw[(jG (λk (a:List Int)=>((k:Int),a)) ((0:Int),[]) [] s.2.2 (λ_ x a=>a++[x.1]) cMy (λ_=>1) 1000000 id rfl (by omega) (by rw[cS];simpa using hl) (λk x a hi hx hd hw hk hb=>by
  simp only[hd,hi,hw,zZ,aA,aC (b:=8) (n:=a.length) (m:=1) (by decide) (by omega)];simp) (λa=>by simp)).1,dQ (λx:den cH=>(x.1:Int))]
 simp
def vC(p:den cJ)(l:eU)(o:Int):Bool:=D ((l.length:Int)<p.1)&&(!yS p.2.2.1 o&&(l.map λh=>(h.1:Int)).all λr=> !yS p.2.1 r)
def aXx{p:den cJ}{s:den tSg}{o:Int}(hl:s.2.2.length<=1000000):uS p s o=U (vC p s.2.2 o):=by
 unfold uS vC ixb pj3;simp only[aD,bG8 hl,aA,bK4];rw[aM (l:=s.2.2.map λh=>(h.1:Int)) (λ_ r=>if !yS p.2.1 r then W else U Y) (by simp;omega) (λk x hi hd hw hx hk=>by
  have hk':(s.2.2.map λh=>(h.1:Int))[k]? =U x:=by rw[<- aR];exact hi
  simp only[hd,bF,zZ,cMt,hk',aA,hw];cases yS p.2.1 x<;>rfl) (by simp),iL (λr=> !yS p.2.1 r)]
 by_cases c:(s.2.2.length:Int)<p.1
 .rw[zW (show ¬ ((s.2.2.length:Int)>=p.1) by omega),zX c];cases yS p.2.2.1 o<;>cases (s.2.2.map λh=>(h.1:Int)).all (λr=> !yS p.2.1 r)<;>rfl
 .rw[zX (show (s.2.2.length:Int)>=p.1 by omega),zW c];rfl
def aWs{p:den cJ}{s:den tSg}{o:Int}(hl:s.2.2.length<=1000000):tZ p s o=U (vC p s.2.2 o):=by
 unfold tZ vC ixb pj3;simp only[aD,aPz hl,aA,bKd];rw[aM (l:=s.2.2.map λh=>(h.1:Int)) (λ_ r=>if !yS p.2.1 r then W else U Y) (by simp;omega) (λk x hi hd hw hx hk=>by
  have hk':(s.2.2.map λh=>(h.1:Int))[k]? =U x:=by rw[<- aR];exact hi
  simp only[hd,bF,zZ,cMt,hk',aA,hw];cases yS p.2.1 x<;>rfl) (by simp),iL (λr=> !yS p.2.1 r)]
 cases D ((s.2.2.length:Int)<p.1)<;>cases yS p.2.2.1 o<;>cases (s.2.2.map λh=>(h.1:Int)).all (λr=> !yS p.2.1 r)<;>rfl
def bOy(p:den cJ)(ts:Int):Int:=if (1000000:Int)<wr (ts+p.2.2.2) then 1000000 else wr (ts+p.2.2.2)
def cFl(p:den cJ)(ts:Int):zM p ts=U (bOy p ts):=by
 unfold zM;rw[bOc];rfl
def bR8(p:den cJ)(ts:Int):tE p ts=U (bOy p ts):=by
 unfold tE;rw[bO9];rfl
def aLk(t:den tTo)(l:eU)(k:Nat)(x:den cH):Bool:=
 !((x.2.2.1==(0:Int))&&D ((k:Int)<(l.length:Int) - 1))&&(D (k=0)||((remote t ((l[k - 1]?).getD h0).1 ((l[k - 1]?).getD h0).2.2.1).1==x.1&&(remote t ((l[k - 1]?).getD h0).1 ((l[k - 1]?).getD h0).2.2.1).2==x.2.1))
def wfG(t:den tTo)(l:eU):Bool:=inR (l.length:Int) 1 8&&((((l[0]?).getD h0).2.1==(0:Int))&&(aGd t l&&(l.zipIdx 0).all λz=>aLk t l z.2 z.1))
def bQt{l:eU}(h:inR (l.length:Int) 1 8=X):idx l (0:Int)=U ((l[0]?).getD h0):=by
 have :=bQ.1 h;rw[aPl (by decide) (by omega)];show U (l[(0:Int).toNat]'_)=_;rw[cMz (by omega)];rfl
def bZz{t:den tTo}{s:den tSg}(ht:eR t)(hl:s.2.2.length<=1000000):rI t s=U (wfG t s.2.2):=by
 unfold rI wfG pj2;rw[aM (l:=s.2.2) (λk x=>if aLk t s.2.2 k x then W else U Y) (by omega) (λk x hi hd hw hm hk=>by
  have w1:wr ((s.2.2.length:Int) - 1)=(s.2.2.length:Int) - 1:=dN (by omega);simp only[hd,zZ,hi,aA,hw,w1];unfold aLk;cases k with
  | zero=>
   rw[show D (((0:Nat):Int)>0)=Y from by decide];cases x.2.2.1==(0:Int)<;>cases D (((0:Nat):Int)<(s.2.2.length:Int) - 1)<;>rfl
  | succ j=>
   have hw1:wr (((j+1:Nat):Int) - 1)=(j:Int):=(wri (by omega) (by omega)).trans (by omega);obtain⟨y,hy⟩:∃y,s.2.2[j]? =U y:=⟨_,cMz (by omega)⟩
   rw[show D (((j+1:Nat):Int)>0)=X from by simp];simp only[hw1,aR,hy,aA,aD,aFk ht.l,zZ,kJ,cPt,cNh];cases x.2.2.1==(0:Int)<;>cases D (((j+1:Nat):Int)<(s.2.2.length:Int) - 1)<;>cases (remote t y.1 y.2.2.1).1==x.1<;>cases (remote t y.1 y.2.2.1).2==x.2.1<;>rfl) (by simp),aEa (aLk t s.2.2)]
 simp only[aD,bKk ht.a (show s.2.2.length<=549755813888 by omega),aA];cases c:inR (s.2.2.length:Int) 1 8 with
 | false=>rfl
 | true=>
  rw[bQt c];simp only[aA,cM1,kJ];cases aGd t s.2.2<;>cases ((s.2.2[0]?).getD h0).2.1==(0:Int)<;>cases (s.2.2.zipIdx 0).all (λz=>aLk t s.2.2 z.2 z.1)<;>rfl
def cAn{t:den tTo}{s:den tSg}(ht:eR t)(hl:s.2.2.length<=1000000):rC t s=U (wfG t s.2.2):=by
 unfold rC wfG pj2 pj3 pj5;simp only[aD,aPz hl,aA];have hR:(s.2.2.map λh=>(h.1:Int)).length=s.2.2.length:=by simp
 rw[aI6 (λk (_:Unit)=>((s.2.2.map λh=>(h.1:Int)),(k:Int))) ((s.2.2.map λh=>(h.1:Int)),(0:Int)) () s.2.2 (λk x _=>if (aFm t s.2.2 k x&&aLk t s.2.2 k x) then .inl () else .inr (.inr Y)) (λ_ _=>True) (λ_=> .inl ()) rfl (by omega) trivial (λk x a hi hx hd hw hk _=>by
  refine⟨?_,λ_ _=>trivial⟩;have w1:wr ((s.2.2.length:Int) - 1)=(s.2.2.length:Int) - 1:=dN (by omega);have hs:bH (0:Int) (k:Int) ((s.2.2.map λh=>(h.1:Int)).length:Int)=X:=by rw[hR];exact aD1 hk
  have hh:gR ((s.2.2.map λh=>(h.1:Int)).take k) x.1=U (!((s.2.2.take k).all λy=> !(y.1==x.1))):=by
   rw[aKt (by simp;omega)];exact congrArg U (bHq _ _ _)
  simp only[hd,zZ,hi,aA,aRg,aDg ht.a,hs,fL,hh,hw,w1];cases k with
  | zero=>
   rw[show D (((0:Nat):Int)>0)=Y from by decide];unfold aFm aLk;cases nX x<;>cases cK t x.1<;>cases (s.2.2.take 0).all (λy=> !(y.1==x.1))<;>cases x.2.2.1==(0:Int)<;>cases D (((0:Nat):Int)<(s.2.2.length:Int) - 1)<;>rfl
  | succ j=>
   have hw1:wr (((j+1:Nat):Int) - 1)=(j:Int):=(wri (by omega) (by omega)).trans (by omega);obtain⟨y,hy⟩:∃y,s.2.2[j]? =U y:=⟨_,cMz (by omega)⟩
   rw[show D (((j+1:Nat):Int)>0)=X from by simp];simp only[hw1,aR,hy,aA,aEn ht.l,zZ,kJ];unfold aFm aLk;rw[cPt,hy,cNh];cases nX x<;>cases cK t x.1<;>cases (s.2.2.take (j+1)).all (λy=> !(y.1==x.1))<;>cases x.2.2.1==(0:Int)<;>cases D (((j+1:Nat):Int)<(s.2.2.length:Int) - 1)<;>cases (remote t y.1 y.2.2.1).1==x.1<;>cases (remote t y.1 y.2.2.1).2==x.2.1<;>rfl) (λa _=>by simp)]
 rw[aHv (λk x=>aFm t s.2.2 k x&&aLk t s.2.2 k x)];have hsplit:(s.2.2.zipIdx 0).all (λz=>aFm t s.2.2 z.2 z.1&&aLk t s.2.2 z.2 z.1)=(aGd t s.2.2&&(s.2.2.zipIdx 0).all λz=>aLk t s.2.2 z.2 z.1):=by
  unfold aGd;rw[cNe];simp only[List.all_eq_true,cMu];exact⟨λh=>⟨λz hz=>(h z hz).1,λz hz=>(h z hz).2⟩,λh z hz=>⟨h.1 z hz,h.2 z hz⟩⟩
 rw[hsplit,fB];cases c:inR (s.2.2.length:Int) 1 8 with
 | false=>rfl
 | true=>
  rw[bQt c];simp only[aA,kJ];cases aGd t s.2.2<;>cases ((s.2.2[0]?).getD h0).2.1==(0:Int)<;>cases (s.2.2.zipIdx 0).all (λz=>aLk t s.2.2 z.2 z.1)<;>rfl
def aVl{t:den tTo}{l:eU}(h:wfG t l=X):1<=l.length/\l.length<=8:=by
 unfold wfG at h;rw[cMu]at h;have :=bQ.1 h.1;omega
def bT2{t:den tTo}{l:eU}(h:wfG t l=X):cK t ((l[0]?).getD h0).1=X:=by
 have hl:=aVl h;unfold wfG aGd at h;simp only[cMu]at h;have h1:=(aJ9 (aFm t l) l).1 h.2.2.1 0 l[0] (cMz (by omega));unfold aFm at h1;simp only[cMu]at h1;rw[cMz (show 0<l.length by omega)];exact h1.2.1
def aWy(t:den tTo)(s:den tSg):Int:=match dG (λk (x:den cH)=>if vR t s.1 (vS s (k:Int)) x then W else U (k:Int)) 0 s.2.2 with
 | some r=>r
 | none=> -1
def cGt{t:den tTo}{s:den tSg}(ht:eR t)(hl:s.2.2.length<=1000000):nN t s=U (aWy t s):=by
 unfold nN aWy pj2 pj3 pj5;rw[aM (l:=s.2.2) (λk (x:den cH)=>if vR t s.1 (vS s (k:Int)) x then W else U (k:Int)) (by omega) (λk x hi hd hw hm hk=>by
  simp only[hd,zZ,hi,aA,aD,aVb hl,aZz ht.a,hw];cases vR t s.1 (vS s (k:Int)) x<;>rfl) (by simp)]
 cases dG (λk (x:den cH)=>if vR t s.1 (vS s (k:Int)) x then W else U (k:Int)) 0 s.2.2<;>rfl
def cGu{t:den tTo}{s:den tSg}(ht:eR t)(hl:s.2.2.length<=1000000):nP t s=U (aWy t s):=by
 unfold nP aWy pj2 pj3 pj5;rw[aM (l:=s.2.2) (λk (x:den cH)=>if vR t s.1 (vS s (k:Int)) x then W else U (k:Int)) (by omega) (λk x hi hd hw hm hk=>by
  simp only[hd,zZ,hi,aA,aD,aU4 hl,bIl ht.a,hw];cases vR t s.1 (vS s (k:Int)) x<;>rfl) (by simp)]
 cases dG (λk (x:den cH)=>if vR t s.1 (vS s (k:Int)) x then W else U (k:Int)) 0 s.2.2<;>rfl
def aOa(t:den tTo)(r:Int):Bool:=cK t r&&eD t r
def bKb{t:den tTo}(ht:eR t)(r:Int):sG t r=U (aOa t r):=by
 unfold aOa;cases c:cK t r with
 | true=>rw[bGa ht.as c];rfl
 | false=>
  unfold sG pj2;rw[show fT (t.1,t.2) r=U (cK t r) from aBy ht.a,c];rfl
def aKb{t:den tTo}{r:Int}(h:cK t r=X):∃x:den tAS,idx t.1 r=U x/\x.2.1=eD t r/\x.2.2=aHi t r:=by
 obtain⟨x,hx,ix⟩:=aHd h;exact⟨x,ix,by unfold eD;rw[hx];rfl,by unfold aHi;rw[hx];rfl⟩
def kB(t:den tTo)(x:den cH)(a:Int):Int⊕(Int⊕Int):=cond (x.2.2.1==(0:Int)) (.inl a) (cond (!(a==(0:Int))&& !(tC t x.1 x.2.2.1==a)) (.inr (.inr 0)) (.inl (tC t x.1 x.2.2.1)))
def aOr(t:den tTo)(l:eU):Int⊕Int:=aFa (λ_ x a=>kB t x a) cMn 0 l 0
def qD(t:den tTo)(l:eU):Int:=cond (wfG t l&&eD t ((l[0]?).getD h0).1) ((aOr t l).elim (λa=>cond (a==1) 1 (cond (a==2) 2 0)) id) 0
def bWh(t:den tTo)(l:eU):qD t l=0\/qD t l=1\/qD t l=2:=by
 have key:∀(l:eU) (k:Nat) (a:Int),(∃b,aFa (λ_ x a=>kB t x a) cMn k l a=cMn b)\/aFa (λ_ x a=>kB t x a) cMn k l a=(cMm 0:Int⊕Int):=by
  intro l
  induction l with
  | nil=>intro k a;exact .inl ⟨a,rfl⟩
  | cons x l ih=>
   intro k a;unfold aFa;simp only[kB];cases x.2.2.1==(0:Int) with
   | true=>exact ih _ _
   | false=>cases !(a==(0:Int))&& !(tC t x.1 x.2.2.1==a) with
    | true=>exact .inr rfl
    | false=>exact ih _ _
 unfold qD aOr;cases wfG t l&&eD t ((l[0]?).getD h0).1 with
 | false=>exact .inl rfl
 | true=>
  rcases key l 0 0 with ⟨b,e⟩ | e
  .rw[e];show cond (b==1) (1:Int) (cond (b==2) 2 0)=0\/cond (b==1) (1:Int) (cond (b==2) 2 0)=1\/cond (b==1) (1:Int) (cond (b==2) 2 0)=2;cases b==1<;>cases b==2<;>simp
  .rw[e];exact .inl rfl
def bBl{t:den tTo}{s:den tSg}(ht:eR t)(hl:s.2.2.length<=1000000):jT t s=U (qD t s.2.2):=by
 unfold jT qD pj2 pj3;rw[aI6 (λk (a:Int)=>(a,(k:Int))) ((0:Int),(0:Int)) 0 s.2.2 (λ_ x a=>kB t x a) (λ_ _=>True) cMn rfl (by omega) trivial (λk x a hi hx hd hw hk _=>by
  refine⟨?_,λ_ _=>trivial⟩;simp only[hd,zZ,hi,aA,aD,aUy ht.l,hw,kJ];unfold kB;cases x.2.2.1==(0:Int)
  .cases c:a==(0:Int)
   .cases c2:tC t x.1 x.2.2.1==a
    .rfl
    .rw[eq_of_beq c2];rfl
   .rfl
  .rfl) (λa _=>by simp)]
 simp only[aD,bZz ht hl,aA];cases c:wfG t s.2.2 with
 | false=>rfl
 | true=>
  have hq:=bT2 c;have hc:inR (s.2.2.length:Int) 1 8=X:=bQ.2 (by have :=aVl c;omega);rw[bQt hc];simp only[aA,bKb ht];unfold aOa;rw[hq];simp only[cM1,cMp,zY,aA];cases eD t ((s.2.2[0]?).getD h0).1 with
  | false=>rfl
  | true=>
   show Option.bind (U (aOr t s.2.2)) _=U (cMq _ id (aOr t s.2.2));cases aOr t s.2.2 with
   | inl a=>
    show cond (a==1) (U (1:Int)) (cond (a==2) (U 2) (U 0))=U (cond (a==1) (1:Int) (cond (a==2) 2 0));cases a==1<;>cases a==2<;>rfl
   | inr r=>rfl
def aUk{t:den tTo}{s:den tSg}(ht:eR t)(hl:s.2.2.length<=1000000):fN t s=U (qD t s.2.2):=by
 unfold fN qD pj2 pj3;rw[aI6 (λk (a:Int)=>(a,(k:Int))) ((0:Int),(0:Int)) 0 s.2.2 (λ_ x a=>kB t x a) (λ_ _=>True) cMn rfl (by omega) trivial (λk x a hi hx hd hw hk _=>by
  refine⟨?_,λ_ _=>trivial⟩;simp only[hd,zZ,hi,aA,aD,aVd ht.l,hw,kJ];unfold kB;cases x.2.2.1==(0:Int)<;>cases a==(0:Int)<;>cases tC t x.1 x.2.2.1==a<;>rfl) (λa _=>by simp)]
 simp only[aD,cAn ht hl,aA];cases c:wfG t s.2.2 with
 | false=>rfl
 | true=>
  have hq:=bT2 c;have hn:=aVl c;obtain⟨x,ix,cx,_⟩:=aKb hq;have hf:dD s=((s.2.2[0]?).getD h0).1:=by
   obtain⟨a,b,l⟩:=s;unfold dD;cases l with
   | nil=>exact absurd hn.1 (show ¬ 1<=0 by decide)
   | cons y l=>rfl
  simp only[bGd,aA,hf,ix,cx,cMp,zY];cases eD t ((s.2.2[0]?).getD h0).1 with
  | false=>rfl
  | true=>
   show Option.bind (U (aOr t s.2.2)) _=U (cMq _ id (aOr t s.2.2));cases aOr t s.2.2 with
   | inl a=>
    show cond (a==1) (U (1:Int)) (cond (a==2) (U 2) (U 0))=U (cond (a==1) (1:Int) (cond (a==2) 2 0));cases a==1<;>cases a==2<;>rfl
   | inr r=>rfl
def yE(t:den tTo)(s:den tSg):Bool:=wfG t s.2.2&&(D (aWy t s<0)&&(!(qD t s.2.2==0)&&(inR s.1 0 1000000&&kO s.2.1)))
def bGz{t:den tTo}{s:den tSg}(ht:eR t)(hl:s.2.2.length<=1000000):mZ t s=U (yE t s):=by
 unfold mZ yE pj2 pj3;simp only[aD,bZz ht hl,cGt ht hl,bBl ht hl,gU,aH4,aA,kJ];cases wfG t s.2.2<;>cases D (aWy t s<0)<;>cases qD t s.2.2==0<;>cases inR s.1 0 1000000<;>rfl
def bI0{t:den tTo}{s:den tSg}(ht:eR t)(hl:s.2.2.length<=1000000):mR t s=U (yE t s):=by
 unfold mR yE pj2 pj3;simp only[aD,cAn ht hl,cGu ht hl,aUk ht hl,fB,aIc,aA,kJ];cases wfG t s.2.2<;>cases D (aWy t s<0)<;>cases qD t s.2.2==0<;>cases inR s.1 0 1000000<;>rfl
def aNi(l:eU):den cH:=(l[l.length - 1]?).getD h0
def aXq{l:eU}(h:0<l.length)(hl:l.length<=1000000):idx l (wr ((l.length:Int) - 1))=U (aNi l):=by
 rw[show wr ((l.length:Int) - 1)=((l.length - 1:Nat):Int) from (dN (by omega)).trans (by omega),aR];unfold aNi;rw[cMz (by omega)];rfl
def aIy(l:eU):Bool:=D ((l.length:Int)>0)&&((aNi l).2.2.1==(0:Int))
def bAx{s:den tSg}(hl:s.2.2.length<=1000000):mT s=U (aIy s.2.2):=by
 unfold mT aIy
 by_cases h:0<s.2.2.length
 .rw[aXq h hl,zX (show (s.2.2.length:Int)>0 by omega)];rfl
 .rw[zW (show ¬ (s.2.2.length:Int)>0 by omega)];rfl
def bK6{s:den tSg}(hl:s.2.2.length<=1000000):pT s=U (aIy s.2.2):=bAx hl
def aDe(t:den tTo)(s:den tSg)(r inn:Int):Bool:=cK t r&&(yE t s&&(!aIy s.2.2&&(!oD (s.2.2.map λh=>(h.1:Int)) r&&((remote t (aNi s.2.2).1 (aNi s.2.2).2.2.1).1==r&&(remote t (aNi s.2.2).1 (aNi s.2.2).2.2.1).2==inn))))
def aMc{t:den tTo}{s:den tSg}(h:yE t s=X):1<=s.2.2.length/\s.2.2.length<=8:=by
 unfold yE at h;rw[cMu]at h;exact aVl h.1
def bFq{t:den tTo}{s:den tSg}(ht:eR t)(hl:s.2.2.length<=1000000)(r inn:Int):mX t s r inn=U (aDe t s r inn):=by
 have hh:jB (s.2.2.map λh=>(h.1:Int)) r=U (oD (s.2.2.map λh=>(h.1:Int)) r):=aNq (by simp;omega);unfold mX aDe pj2 pj3;simp only[aD,aBy ht.a,bGz ht hl,bK6 hl,bG8 hl,aA,hh];cases cK t r with
 | false=>rfl
 | true=>cases c:yE t s with
  | false=>rfl
  | true=>
   rw[aXq (aMc c).1 hl];simp only[aA,aFk ht.l];cases aIy s.2.2<;>cases oD (s.2.2.map λh=>(h.1:Int)) r<;>cases (remote t (aNi s.2.2).1 (aNi s.2.2).2.2.1).1==r<;>rfl
def bI8{t:den tTo}{s:den tSg}(ht:eR t)(hl:s.2.2.length<=1000000)(r inn:Int):nC t s r inn=U (aDe t s r inn):=by
 have hh:gR (s.2.2.map λh=>(h.1:Int)) r=U (oD (s.2.2.map λh=>(h.1:Int)) r):=aKt (by simp;omega);unfold nC aDe pj2 pj3;simp only[aD,aDg ht.a,bI0 ht hl,bAx hl,aPz hl,aA,hh];cases cK t r with
 | false=>rfl
 | true=>cases c:yE t s with
  | false=>rfl
  | true=>
   rw[aXq (aMc c).1 hl];simp only[aA,aEn ht.l];cases aIy s.2.2<;>cases oD (s.2.2.map λh=>(h.1:Int)) r<;>cases (remote t (aNi s.2.2).1 (aNi s.2.2).2.2.1).1==r<;>rfl
def cGm(key ts b:Int)(h:den cH):nJ key ts b h=U (h.1,h.2.1,h.2.2.1,h.2.2.2.1,aUf key ts b h):=by
 unfold nJ pj5;simp only[aD,bTr,aA]
def bR4(key ts b:Int)(h:den cH):hO key ts b h=U (h.1,h.2.1,h.2.2.1,h.2.2.2.1,aUf key ts b h):=by
 unfold hO pj5;simp only[aD,bRm,aA]
def bQv(t:den tTo)(p:den cJ)(s:den tSg)(r inn o:Int):den cH:=(r,inn,o,bOy p s.1,aUf (aHi t r) s.1 (vS s (s.2.2.length:Int)) (r,inn,o,bOy p s.1,0))
def aL9(t:den tTo)(p:den cJ)(s:den tSg)(r inn o:Int):den tSg:=(s.1,s.2.1,s.2.2++[bQv t p s r inn o])
def bBm{t:den tTo}{p:den cJ}{s:den tSg}{r inn o:Int}(hl:s.2.2.length<=1000000)(hr:cK t r=X):aAn t p s r inn o=U (aL9 t p s r inn o):=by
 obtain⟨x,ix,_,kx⟩:=aKb hr;unfold aAn aL9 bQv pj3 pj4 pj5;simp only[aD,cFl,aH1 (show s.2.2.length<=549755813888 by omega),aVb hl,aA,ix,cGm,kx,aC (b:=40) (n:=s.2.2.length) (m:=1) (by decide) (by omega),zZ]
def bLo{t:den tTo}{p:den cJ}{s:den tSg}{r inn o:Int}(hl:s.2.2.length<=1000000)(hr:cK t r=X):aC2 t p s r inn o=U (aL9 t p s r inn o):=by
 obtain⟨x,ix,_,kx⟩:=aKb hr;unfold aC2 aL9 bQv pj3 pj4 pj5;simp only[aD,bR8,aGs (show s.2.2.length<=549755813888 by omega),aU4 hl,aA,ix,bR4,kx,aC (b:=40) (n:=s.2.2.length) (m:=1) (by decide) (by omega),zZ]
abbrev aW2:=Int×Int×Bool×eU
def bGt(s:den tSg)(b:Bool):aW2:=(s.1,s.2.1,b,s.2.2)
def aUx(t:den tTo)(p:den cJ)(r o ts b:Int):Bool:=aOa t r&&(inR o 1 6&&((tC t r o==1||tC t r o==2)&&(vC p [] o&&(inR ts 0 1000000&&kO b))))
def wE(t:den tTo)(p:den cJ)(r o ts b:Int):aW2:=cond (aUx t p r o ts b) (bGt (aL9 t p (ts,b,[]) r 0 o) X) (0,0,Y,[])
def bKr{t:den tTo}(ht:eR t)(p:den cJ)(r o ts b:Int):pC t p r o ts b=U (wE t p r o ts b):=by
 have ha:uS p (0,0,[]) o=U (vC p [] o):=aXx (s:=(0,0,[])) (by simp);unfold pC wE aUx pj2 pj4;simp only[aD,bKb ht,gU,aUy ht.l,ha,aH4,aA,kJ];cases c:aOa t r with
 | false=>rfl
 | true=>
  have hr:cK t r=X:=by unfold aOa at c;rw[cMu]at c;exact c.1
  have hg:aAn t p (ts,b,[]) r 0 o=U (aL9 t p (ts,b,[]) r 0 o):=bBm (s:=(ts,b,[])) (by simp) hr;rw[hg];cases inR o 1 6<;>cases tC t r o==1<;>cases tC t r o==2<;>cases vC p [] o<;>cases inR ts 0 1000000<;>cases kO b<;>rfl
def bKv{t:den tTo}(ht:eR t)(p:den cJ)(r o ts b:Int):pF t p r o ts b=U (wE t p r o ts b):=by
 have ha:tZ p (ts,b,[]) o=U (vC p [] o):=aWs (s:=(ts,b,[])) (by simp);unfold pF wE aUx pj2 pj4 pj5;simp only[aD,aDg ht.a,fB,aVd ht.l,ha,aIc,bR8,bR4,aA,kJ,aC (b:=40) (n:=0) (m:=1) (by decide) (by decide),zZ];unfold aOa;cases hr:cK t r with
 | false=>rfl
 | true=>
  obtain⟨x,ix,cx,kx⟩:=aKb hr;have hb:vS (ts,b,[]) 0=b:=rfl;rw[ix];simp only[aA,cx,kx,cM1,cMp,zY];cases eD t r<;>cases inR o 1 6<;>cases inR ts 0 1000000<;>cases kO b<;>cases tC t r o==1<;>cases tC t r o==2<;>cases vC p [] o<;>first | rfl | (unfold aL9 bQv;rw[show ((([]:eU).length:Nat):Int)=0 from rfl,hb];rfl)
def bIv(t:den tTo)(p:den cJ)(s:den tSg)(r inn o:Int):Bool:=aDe t s r inn&&(inR o 1 6&&(!(o==inn)&&(vC p s.2.2 o&&(tC t r o==qD t s.2.2))))
def aCv(t:den tTo)(p:den cJ)(s:den tSg)(r inn o:Int):aW2:=cond (bIv t p s r inn o) (bGt (aL9 t p s r inn o) X) (bGt s Y)
def aM1{t:den tTo}{s:den tSg}{r inn:Int}(h:aDe t s r inn=X):cK t r=X/\yE t s=X:=by
 unfold aDe at h;simp only[cMu]at h;exact⟨h.1,h.2.1⟩
def bDx{t:den tTo}{s:den tSg}{r inn:Int}(h:aDe t s r inn=X):qD t s.2.2=1\/qD t s.2.2=2:=by
 have h1:=(aM1 h).2;unfold yE at h1;simp only[cMu,cN3,beq_eq_false_iff_ne]at h1;exact (bWh t s.2.2).resolve_left h1.2.2.1
def bUr{t:den tTo}{p:den cJ}{s:den tSg}(ht:eR t)(hl:s.2.2.length<=1000000)(r inn o:Int):aAs t p s r inn o=U (aCv t p s r inn o):=by
 unfold aAs aCv bIv pj2 pj3 pj4;simp only[aD,bFq ht hl,gU,aXx hl,aH1 (show s.2.2.length<=549755813888 by omega),bBl ht hl,aUy ht.l,aA,kJ];cases c:aDe t s r inn with
 | false=>rfl
 | true=>
  rw[bBm hl (aM1 c).1];rw[show (cond (qD t s.2.2==(2:Int)) (U (2:Int)) (U (1:Int)))=U (qD t s.2.2) from by rcases bDx c with e | e<;>rw[e]<;>rfl,aA];cases inR o 1 6<;>cases o==inn<;>cases vC p s.2.2 o<;>cases tC t r o==qD t s.2.2<;>rfl
def bTe{t:den tTo}{p:den cJ}{s:den tSg}(ht:eR t)(hl:s.2.2.length<=1000000)(r inn o:Int):aAv t p s r inn o=U (aCv t p s r inn o):=by
 unfold aAv aCv bIv pj2 pj3 pj4;simp only[aD,bI8 ht hl,fB,aWs hl,aGs (show s.2.2.length<=549755813888 by omega),aUk ht hl,aVd ht.l,aA,kJ];cases c:aDe t s r inn with
 | false=>rfl
 | true=>
  rw[bLo hl (aM1 c).1];rw[show (cond (qD t s.2.2==(1:Int)) (U (1:Int)) (U (2:Int)))=U (qD t s.2.2) from by rcases bDx c with e | e<;>rw[e]<;>rfl,aA];cases inR o 1 6<;>cases o==inn<;>cases vC p s.2.2 o<;>cases tC t r o==qD t s.2.2<;>rfl
def aIk(t:den tTo)(p:den cJ)(s:den tSg)(r inn:Int):aW2:=cond (aDe t s r inn&&vC p s.2.2 0) (bGt (aL9 t p s r inn 0) X) (bGt s Y)
def cIb{t:den tTo}{p:den cJ}{s:den tSg}(ht:eR t)(hl:s.2.2.length<=1000000)(r inn:Int):rA t p s r inn=U (aIk t p s r inn):=by
 unfold rA aIk pj2 pj3 pj4;simp only[aD,bFq ht hl,aXx hl,aH1 (show s.2.2.length<=549755813888 by omega),aA];cases c:aDe t s r inn with
 | false=>rfl
 | true=>
  rw[bBm hl (aM1 c).1];cases vC p s.2.2 0<;>rfl
def cIv{t:den tTo}{p:den cJ}{s:den tSg}(ht:eR t)(hl:s.2.2.length<=1000000)(r inn:Int):rV t p s r inn=U (aIk t p s r inn):=by
 unfold rV aIk pj2 pj3 pj4;simp only[aD,bI8 ht hl,aWs hl,aGs (show s.2.2.length<=549755813888 by omega),aA];cases c:aDe t s r inn with
 | false=>rfl
 | true=>
  rw[bLo hl (aM1 c).1];cases vC p s.2.2 0<;>rfl
def six:List Int:=[1,2,3,4,5,6]
def cHf{k:Nat}{x:Int}(h:six[k]? =U x):x=((k+1:Nat):Int)/\k<6:=by
 obtain⟨hk,e⟩:=cM0.1 h;have hk:k<6:=hk;refine⟨?_,hk⟩;rw[<- e];have :k=0\/k=1\/k=2\/k=3\/k=4\/k=5:=by omega
 rcases this with rfl | rfl | rfl | rfl | rfl | rfl<;>rfl
def aQ3(p:Int->Bool){step:Int×List Int->Option ((Int×List Int)⊕List Int)}
  (h:∀(x:Int) (a:List Int),D (x<=(6:Int))=X->aF 8 a.length 1=X->step (x,a)=U (.inl (wr (x+1),cond (p x) (a++[x]) a)))
  (he:∀a,step ((7:Int),a)=U (.inr a)):aB step ((1:Int),[])=U (six.filter p):=by
 rw[(jG (λk (a:List Int)=>(((k+1:Nat):Int),a)) ((1:Int),[]) [] six (λ_ x a=>if p x then a++[x] else a) cMy (λ_=>1) 1000 id rfl (by decide) (by decide) (λk x a hi hx hd hw hk hb=>by
  obtain⟨e,hk6⟩:=cHf hx;rw[<- e,h x a (zX (by omega)) (aC (by decide) (by omega)),show wr (x+1)=((k+1+1:Nat):Int) from (wri (by omega) (by omega)).trans (by omega)];cases p x<;>simp) (λa=>he a)).1,aDl]
 simp
def aIh(t:den tTo)(p:den cJ)(r:Int):List Int:=six.filter λo=>(wE t p r o 0 0).2.2.1
def cJn{t:den tTo}(ht:eR t)(p:den cJ)(r:Int):lH t p r=U (aIh t p r):=by
 unfold lH aIh pj2 pj4;rw[aQ3 (λo=>(wE t p r o 0 0).2.2.1) (λx a hx ha=>by
  simp only[hx,zZ,aD,bKr ht,aA,ha];cases (wE t p r x 0 0).2.2.1<;>rfl) (λa=>rfl)]
 rfl
def cIx{t:den tTo}(ht:eR t)(p:den cJ)(r:Int):lR t p r=U (aIh t p r):=by
 unfold lR aIh pj2 pj4;rw[aQ3 (λo=>(wE t p r o 0 0).2.2.1) (λx a hx ha=>by
  simp only[hx,zZ,aD,bKv ht,aA,ha];cases (wE t p r x 0 0).2.2.1<;>rfl) (λa=>rfl)]
 rfl
def bAs(t:den tTo)(p:den cJ)(s:den tSg)(r inn o:Int):Bool:=(aCv t p s r inn o).2.2.1&&(!((remote t r o).1==r)&& !oD (s.2.2.map λh=>(h.1:Int)) (remote t r o).1)
def aHk(t:den tTo)(p:den cJ)(s:den tSg)(r inn:Int):List Int:=six.filter (bAs t p s r inn)
def cHq{t:den tTo}{p:den cJ}{s:den tSg}(ht:eR t)(hl:s.2.2.length<=1000000)(r inn:Int):lC t p s r inn=U (aHk t p s r inn):=by
 have hh:∀n,jB (s.2.2.map λh=>(h.1:Int)) n=U (oD (s.2.2.map λh=>(h.1:Int)) n):=λn=>aNq (by simp;omega)
 unfold lC aHk pj2 pj3 pj4;rw[aQ3 (bAs t p s r inn) (λx a hx ha=>by
  simp only[hx,zZ,aD,bUr ht hl,aFk ht.l,bG8 hl,hh,aA,ha,kJ];unfold bAs;cases (aCv t p s r inn x).2.2.1<;>cases (remote t r x).1==r<;>cases oD (s.2.2.map λh=>(h.1:Int)) (remote t r x).1<;>rfl) (λa=>rfl)]
 rfl
def cHt{t:den tTo}{p:den cJ}{s:den tSg}(ht:eR t)(hl:s.2.2.length<=1000000)(r inn:Int):lG t p s r inn=U (aHk t p s r inn):=by
 have hh:∀n,gR (s.2.2.map λh=>(h.1:Int)) n=U (oD (s.2.2.map λh=>(h.1:Int)) n):=λn=>aKt (by simp;omega)
 unfold lG aHk pj2 pj3 pj4;rw[aQ3 (bAs t p s r inn) (λx a hx ha=>by
  simp only[hx,zZ,aD,bTe ht hl,aEn ht.l,aPz hl,hh,aA,ha,kJ];unfold bAs;cases (aCv t p s r inn x).2.2.1<;>cases (remote t r x).1==r<;>cases oD (s.2.2.map λh=>(h.1:Int)) (remote t r x).1<;>rfl) (λa=>rfl)]
 rfl
def aMu(p:Int->Bool):(six.filter p).length<=6:=cOq p six
def aQm(t:den tTo)(r o:Int)(b:aW2):den sP:=((remote t r o).1,((remote t r o).2,(b.1,b.2.1,b.2.2.2)))
def aTy(t:den tTo)(r ts o:Int):Int:=aAt (([aHi t r]++[ts,o])++[aHi t r])
def cJy(k a b:Int):kH k [a,b]=U (aAt (([k]++[a,b])++[k])):=by
 unfold kH;rw[aC (b:=8) (n:=[k].length) (by decide) (by simp),aC (b:=8) (by decide) (by simp),aQg (by simp)];rfl
def cKi(k a b:Int):kD k [a,b]=U (aAt (([k]++[a,b])++[k])):=by
 unfold kD;rw[aC (b:=8) (n:=[k].length) (by decide) (by simp),aC (b:=8) (by decide) (by simp),aP4 (by simp)];rfl
def aHy(t:den tTo)(p:den cJ)(r ts o:Int):aZ:=cond (wE t p r o ts (aTy t r ts o)).2.2.1 [aQm t r o (wE t p r o ts (aTy t r ts o))] []
def aFs(t:den tTo)(l:dE)(r ts:Int):aZ:=cond (mM t) ((aIh t (cE l r) r).flatMap (aHy t (cE l r) r ts)) []
def bLb{t:den tTo}{p:den cJ}{r o:Int}(h:o∈aIh t p r):cK t r=X:=by
 have h2:(wE t p r o 0 0).2.2.1=X:=(cM6.1 h).2;unfold wE at h2;cases c:aUx t p r o 0 0 with
 | false=>rw[c]at h2;cases h2
 | true=>
  unfold aUx aOa at c;simp only[cMu]at c;exact c.1.1
def bB9{α β:Type}(l:List α)(g:α->List β)(h:∀x∈l,(g x).length<=1):(l.map λx=>(g x).length).sum<=l.length:=by
 have :=aB3 (f:=λx=>(g x).length) (c:=1) (l:=l) h;omega
def aWd(t:den tTo)(p:den cJ)(r ts o:Int):(aHy t p r ts o).length<=1:=by
 unfold aHy;cases (wE t p r o ts (aTy t r ts o)).2.2.1<;>simp
def cIi{t:den tTo}{l:dE}(ht:eR t)(hl:l.length<=1000000)(r ts:Int):pV t l r ts=U (aFs t l r ts,l):=by
 unfold pV aFs ixb pj2 pj3 pj4;simp only[aD,aNz ht.sm,bCb hl,cJn ht,aA];cases mM t with
 | false=>rfl
 | true=>
  have h6:=aMu λo=>(wE t (cE l r) r o 0 0).2.2.1
  have h6:(aIh t (cE l r) r).length<=6:=h6;simp only[cMp,zY,zZ];rw[dJ (aIh t (cE l r) r) (aHy t (cE l r) r ts) (λx=>x) [] (by omega) (by have :=bB9 _ (aHy t (cE l r) r ts) λx (_:x∈aIh t (cE l r) r)=>aWd _ _ _ _ _;simp only[cNd];omega) (λk o a hi hx hm hd hw hb=>by
   obtain⟨x,ix,_,kx⟩:=aKb (bLb hm);have hrem:∀b:aW2,vI t r o (b.1,b.2.1,b.2.2.2)=U ((remote t r o).1,(remote t r o).2,b.1,b.2.1,b.2.2.2):=λb=>by
    unfold vI pj2 pj3;simp only[aD,aFk ht.l,aA]
   have ha:aF 56 a.length 1=X\/(aHy t (cE l r) r ts o).length=0:=by
    by_cases c:(aHy t (cE l r) r ts o).length=0
    .exact .inr c
    .exact .inl (apP (by decide) (by omega))
   simp only[hd,bF,zZ,cMt,hx,aA,ix,cJy,kx,bKr ht,hw,bB,cB,bL,bJ,bO];unfold aHy aTy at *;generalize wE t (cE l r) r o ts (aAt (([aHi t r]++[ts,o])++[aHi t r]))=b at *;obtain⟨b1,b2,b3,b4⟩:=b;cases b3 with
   | false=>simp only[zY,aA,cNn]
   | true=>
    have ha:aF 56 a.length 1=X:=ha.resolve_right (by simp);have hr:=hrem (b1,b2,X,b4);simp only at hr;simp only[zZ,hr,aA,ha];rfl) (λa=>by simp)]
  rfl
def cGl{t:den tTo}{l:dE}(ht:eR t)(hl:l.length<=1000000)(r ts:Int):uM t l r ts=U (aFs t l r ts):=by
 unfold uM aFs ixb pj2 pj3 pj4;simp only[aD,aFo ht.sm,bA7 hl,cIx ht,aA];cases mM t with
 | false=>rfl
 | true=>
  have h6:=aMu λo=>(wE t (cE l r) r o 0 0).2.2.1
  have h6:(aIh t (cE l r) r).length<=6:=h6;simp only[cMp,zY,zZ];rw[dJ (aIh t (cE l r) r) (aHy t (cE l r) r ts) (λx=>x) [] (by omega) (by have :=bB9 _ (aHy t (cE l r) r ts) λx (_:x∈aIh t (cE l r) r)=>aWd _ _ _ _ _;simp only[cNd];omega) (λk o a hi hx hm hd hw hb=>by
   obtain⟨x,ix,_,kx⟩:=aKb (bLb hm);have ha:aF 56 a.length 1=X\/(aHy t (cE l r) r ts o).length=0:=by
    by_cases c:(aHy t (cE l r) r ts o).length=0
    .exact .inr c
    .exact .inl (apP (by decide) (by omega))
   simp only[hd,bF,zZ,cMt,hx,aA,ix,cKi,kx,bKv ht,hw,bB,cB,bL,bJ,bO,aEn ht.l];unfold aHy aTy at *;generalize wE t (cE l r) r o ts (aAt (([aHi t r]++[ts,o])++[aHi t r]))=b at *;obtain⟨b1,b2,b3,b4⟩:=b;cases b3 with
   | false=>simp only[zY,aA,cNn]
   | true=>
    have ha:aF 56 a.length 1=X:=ha.resolve_right (by simp);simp only[zZ,aA,ha];rfl) (λa=>by simp)]
  rfl
def onM(t:den tTo)(p:den cJ)(r:Int)(g:den fM):aZ:=(aHk t p g.2 r g.1).flatMap λo=>[aQm t r o (aCv t p g.2 r g.1 o)]
def aHn(t:den tTo)(l:dE)(r:Int)(m:bX):aZ:=cond (mM t) (m.flatMap (onM t (cE l r) r)) []
def aVi(t:den tTo)(p:den cJ)(r:Int)(g:den fM):(onM t p r g).length<=6:=by
 have h:=aFl (g:=λo=>[aQm t r o (aCv t p g.2 r g.1 o)]) (c:=1) (l:=aHk t p g.2 r g.1) λx _=>by simp
 have h6:(aHk t p g.2 r g.1).length<=6:=aMu _;unfold onM;omega
def cGa{t:den tTo}{l:dE}{m:bX}(ht:eR t)(hl:l.length<=1000000)(hm:m.length<=1000000)(hs:∀g∈m,g.2.2.2.length<=1000000)(r:Int):pN t l r m=U (aHn t l r m,l):=by
 unfold pN aHn ixb pj2 pj3 pj4;simp only[aD,aNz ht.sm,bCb hl,aA];cases mM t with
 | false=>rfl
 | true=>
  simp only[cMp,zY,zZ];rw[dJ m (onM t (cE l r) r) (λx=>x) [] hm (by have :=aB3 (f:=λg=>(onM t (cE l r) r g).length) (c:=6) (l:=m) λx _=>aVi _ _ _ _;simp only[cNd];omega) (λk g a hi hx hgm hd hw hb=>by
   have h6:(aHk t (cE l r) g.2 r g.1).length<=6:=aMu _;have e1:∀o,aAs t (cE l r) g.2 r g.1 o=U (aCv t (cE l r) g.2 r g.1 o):=λo=>bUr ht (hs g hgm) r g.1 o
   simp only[hd,zZ,hi,aA,aD,cHq ht (hs g hgm)];rw[dJ (aHk t (cE l r) g.2 r g.1) (λo=>[aQm t r o (aCv t (cE l r) g.2 r g.1 o)]) (λx=>x) a (by omega) (by
    have h1:=bB9 (aHk t (cE l r) g.2 r g.1) (λo=>[aQm t r o (aCv t (cE l r) g.2 r g.1 o)]) (λx _=>by simp);have h2:=aFl (g:=λo=>[aQm t r o (aCv t (cE l r) g.2 r g.1 o)]) (c:=1) (l:=aHk t (cE l r) g.2 r g.1) λx _=>by simp
    have h3:=aB3 (f:=λg=>(onM t (cE l r) r g).length) (c:=6) (l:=m) λx _=>aVi _ _ _ _
    have h4:(onM t (cE l r) r g).length=((aHk t (cE l r) g.2 r g.1).map λo=>([aQm t r o (aCv t (cE l r) g.2 r g.1 o)]:aZ).length).sum:=by unfold onM;rw[cPf]
    omega) (λj o b hj hy hom hd' hw' hb'=>by
    have hrem:∀b:aW2,vI t r o (b.1,b.2.1,b.2.2.2)=U ((remote t r o).1,(remote t r o).2,b.1,b.2.1,b.2.2.2):=λb=>by
     unfold vI pj2 pj3;simp only[aD,aFk ht.l,aA]
    have hr:=hrem (aCv t (cE l r) g.2 r g.1 o);have ha:aF 56 b.length 1=X:=apP (by decide) (by have :b.length+1<=2000000000000:=hb';omega);simp only[hd',bF,zZ,cMt,hy,aA,e1,hr,ha,hw'];rfl) (λb=>by simp)]
   simp only[aA,hw];rfl) (λa=>by simp)]
  rfl
def cI0{t:den tTo}{l:dE}{m:bX}(ht:eR t)(hl:l.length<=1000000)(hm:m.length<=1000000)(hs:∀g∈m,g.2.2.2.length<=1000000)(r:Int):uN t l r m=U (aHn t l r m):=by
 unfold uN aHn ixb pj2 pj3 pj4;simp only[aD,aFo ht.sm,bA7 hl,aA];cases mM t with
 | false=>
  rw[aI (r:=[]) (by cases D ((0:Int)<(m.length:Int))<;>rfl)];rfl
 | true=>
  simp only[zZ];rw[dJ m (onM t (cE l r) r) (λx=>x) [] hm (by have :=aB3 (f:=λg=>(onM t (cE l r) r g).length) (c:=6) (l:=m) λx _=>aVi _ _ _ _;simp only[cNd];omega) (λk g a hi hx hgm hd hw hb=>by
   have h6:(aHk t (cE l r) g.2 r g.1).length<=6:=aMu _;have e1:∀o,aAv t (cE l r) g.2 r g.1 o=U (aCv t (cE l r) g.2 r g.1 o):=λo=>bTe ht (hs g hgm) r g.1 o
   simp only[hd,zZ,hi,aA,aD,cHt ht (hs g hgm)];rw[dJ (aHk t (cE l r) g.2 r g.1) (λo=>[aQm t r o (aCv t (cE l r) g.2 r g.1 o)]) (λx=>x) a (by omega) (by
    have h4:(onM t (cE l r) r g).length=((aHk t (cE l r) g.2 r g.1).map λo=>([aQm t r o (aCv t (cE l r) g.2 r g.1 o)]:aZ).length).sum:=by unfold onM;rw[cPf]
    omega) (λj o b hj hy hom hd' hw' hb'=>by
    have hok:(aCv t (cE l r) g.2 r g.1 o).2.2.1=X:=by
     have :=(cM6.1 hom).2;unfold bAs at this;rw[cMu]at this;exact this.1
    have ha:aF 56 b.length 1=X:=apP (by decide) (by have :b.length+1<=2000000000000:=hb';omega);simp only[hd',bF,zZ,cMt,hy,aA,e1,aEn ht.l,ha,hw',bB,cB,bL,bJ,bO,hok];rfl) (λb=>by simp)]
   simp only[aA,hw];rfl) (λa=>by simp)]
  rfl
def aJl(l:bX):Prop:= ∀g∈l,g.2.2.2.length<=9
def bI7{g:den fM}(h:g.2.2.2.length<=9):oL g=U g:=by
 unfold oL pj3;rw[show cG (g.2.1,g.2.2.1,g.2.2.2)=U g.2 from aH1 (x:=g.2) (by omega)];rfl
def bHv{l:bX}(hl:l.length<=1000000)(h:aJl l):pH l=U l:=by
 unfold pH pj3;rw[(jG (λk (a:bX)=>((k:Int),a)) ((0:Int),[]) [] l (λ_ x a=>a++[x]) cMy (λ_=>1) 1000000 id rfl (by omega) (by rw[cS];simpa using hl) (λk x a hi hx hd hw hk hb=>by
  have e:oL x=U x:=bI7 (h x (cMw hx));simp only[hd,hi,hw,zZ,aA,aD,e,aC (b:=48) (n:=a.length) (m:=1) (by decide) (by omega)];simp) (λa=>by simp)).1,dQ (λx=>x)]
 simp
def bI4{l:bX}(hl:l.length<=1000000)(h:aJl l):aAf l=U l:=by
 unfold aAf pj3;rw[(jG (λk (a:bX)=>((k:Int),a)) ((0:Int),[]) [] l (λ_ x a=>a++[x]) cMy (λ_=>1) 1000000 id rfl (by omega) (by rw[cS];simpa using hl) (λk x a hi hx hd hw hk hb=>by
  have e:eB x.2=U x.2:=aGs (by have :=h x (cMw hx);omega);simp only[hd,hi,hw,zZ,aA,aD,e,aC (b:=48) (n:=a.length) (m:=1) (by decide) (by omega)];simp) (λa=>by simp)).1,dQ (λx=>x)]
 simp
def tA(l:List bX):Prop:= ∀m∈l,m.length<=12/\aJl m
def bXj{b:den gZ}(hl:b.2.length<=1000000)(h:tA b.2):qV b=U b:=by
 unfold qV pj2;rw[(jG (λk (a:List bX)=>((k:Int),b.1,a)) ((0:Int),b.1,[]) [] b.2 (λ_ x a=>a++[x]) cMy (λ_=>1) 1000000 (λa=>(b.1,a)) rfl (by omega) (by rw[cS];simpa using hl) (λk x a hi hx hd hw hk hb=>by
  obtain⟨h1,h2⟩:=h x (cMw hx);simp only[hd,hi,hw,zZ,aA,bHv (cMo h1 (by decide)) h2,aC (b:=24) (n:=a.length) (m:=1) (by decide) (by omega)];simp) (λa=>by simp)).1,dQ (λx=>x)]
 simp
def bYk{b:den gZ}(hl:b.2.length<=1000000)(h:tA b.2):aDr b=U b:=by
 unfold aDr pj2;rw[(jG (λk (a:List bX)=>((k:Int),b.1,a)) ((0:Int),b.1,[]) [] b.2 (λ_ x a=>a++[x]) cMy (λ_=>1) 1000000 (λa=>(b.1,a)) rfl (by omega) (by rw[cS];simpa using hl) (λk x a hi hx hd hw hk hb=>by
  obtain⟨h1,h2⟩:=h x (cMw hx);simp only[hd,hi,hw,zZ,aA,bI4 (cMo h1 (by decide)) h2,aC (b:=24) (n:=a.length) (m:=1) (by decide) (by omega)];simp) (λa=>by simp)).1,dQ (λx=>x)]
 simp
def aR9{s:den tSg}(h:s.2.2.length<=1000000):SmB 549755813888 tSg s:=⟨trivial,trivial,by show s.2.2.length<=_;omega,λx _=>SmB.flat rfl⟩
noncomputable def aOo(l:bX)(g:den fM):Bool:=l.any λx=>(x.1==g.1)&&nS x.2 g.2
def cFe{l:bX}{g:den fM}(hl:l.length<=1000000)(h:aJl l)(hg:g.2.2.2.length<=9):aAl l g=U (aOo l g):=by
 unfold aAl aOo pj3;rw[aM (l:=l) (λ_ (x:den fM)=>if (x.1==g.1)&&nS x.2 g.2 then U X else W) (by omega) (λk x hi hd hw hm hk=>by
  have e:iJ x.2 g.2=U (nS x.2 g.2):=bK3 (aR9 (by have :=h x hm;omega)) (aR9 (by omega));unfold xY pj3;simp only[hd,hi,hw,zZ,aA,aD,e];cases x.1==g.1<;>cases nS x.2 g.2<;>rfl) (by simp),aHm (λx:den fM=>(x.1==g.1)&&nS x.2 g.2)]
 cases l.any λx=>(x.1==g.1)&&nS x.2 g.2<;>rfl
def cFb{l:bX}{g:den fM}(hl:l.length<=1000000)(h:aJl l)(hg:g.2.2.2.length<=9):aAk l g=U (aOo l g):=by
 unfold aAk aOo pj3;rw[aM (l:=l) (λ_ (x:den fM)=>if (x.1==g.1)&&nS x.2 g.2 then U X else W) (by omega) (λk x hi hd hw hm hk=>by
  have e:iQ x.2 g.2=U (nS x.2 g.2):=bLp (aR9 (by have :=h x hm;omega)) (aR9 (by omega));unfold aFv pj3;simp only[hd,hi,hw,zZ,aA,aD,e];cases x.1==g.1<;>cases nS x.2 g.2<;>rfl) (by simp),aHm (λx:den fM=>(x.1==g.1)&&nS x.2 g.2)]
 cases l.any λx=>(x.1==g.1)&&nS x.2 g.2<;>rfl
def idG(s:den tSg):Int:=aAt ([s.1,s.2.1]++s.2.2.flatMap λh=>[h.1,h.2.1,h.2.2.1,h.2.2.2.1])
def bJ9{s:den tSg}(h:s.2.2.length<=9):([s.1,s.2.1]++s.2.2.flatMap λh=>[h.1,h.2.1,h.2.2.1,h.2.2.2.1]).length<=549755813888:=by
 have :=aFl (g:=λh:den cH=>([h.1,h.2.1,h.2.2.1,h.2.2.2.1]:List Int)) (c:=4) (l:=s.2.2) λx _=>by simp
 rw[cNa];simp only[cM8,cNd];omega
def bY1{s:den tSg}(h:s.2.2.length<=9):rK s=U (idG s):=by
 unfold rK idG;rw[dJ s.2.2 (λh=>[h.1,h.2.1,h.2.2.1,h.2.2.2.1]) (λx=>x) [s.1,s.2.1] (by omega) (by
  have :=aB3 (f:=λh:den cH=>([h.1,h.2.1,h.2.2.1,h.2.2.2.1]:List Int).length) (c:=4) (l:=s.2.2) λx _=>by simp
  simp only[cM8,cNd]at this ⊢;omega) (λk x a hi hx hm hd hw hb=>by
  simp only[hd,zZ,hi,aA,hw,apP (b:=8) (n:=a.length) (m:=4) (by decide) (by have :a.length+4<=2000000000000:=hb;omega)]) (λa=>by simp)]
 simp only[aA,aQg (bJ9 h)]
def cAx{s:den tSg}(h:s.2.2.length<=9):wH s=U (idG s):=by
 unfold wH idG;rw[dJ s.2.2 (λh=>[h.1,h.2.1,h.2.2.1,h.2.2.2.1]) (λx=>x) [s.1,s.2.1] (by omega) (by
  have :=aB3 (f:=λh:den cH=>([h.1,h.2.1,h.2.2.1,h.2.2.2.1]:List Int).length) (c:=4) (l:=s.2.2) λx _=>by simp
  simp only[cM8,cNd]at this ⊢;omega) (λk x a hi hx hm hd hw hb=>by
  simp only[hd,zZ,hi,aA,hw,apP (b:=8) (n:=a.length) (m:=4) (by decide) (by have :a.length+4<=2000000000000:=hb;omega)]) (λa=>by simp)]
 simp only[aA,aP4 (bJ9 h)]
def yY(a b:den fM):Bool:=cond ((a.2.2.2.length:Int) != (b.2.2.2.length:Int)) (D ((a.2.2.2.length:Int)<(b.2.2.2.length:Int))) (cond (a.2.1 != b.2.1) (D (a.2.1>b.2.1)) (cond (idG a.2 != idG b.2) (D (idG a.2<idG b.2)) (D (a.1<b.1))))
def cDf{a b:den fM}(ha:a.2.2.2.length<=9)(hb:b.2.2.2.length<=9):zH a b=U (yY a b):=by
 unfold zH yY pj3 zz5;simp only[bB,cB,bL,bJ,bO,aA,aD,bY1 ha,bY1 hb];cases (a.2.2.2.length:Int) != (b.2.2.2.length:Int)<;>cases a.2.1 != b.2.1<;>cases idG a.2 != idG b.2<;>rfl
def cC5{a b:den fM}(ha:a.2.2.2.length<=9)(hb:b.2.2.2.length<=9):zI a b=U (yY a b):=by
 unfold zI yY pj3;simp only[aA,aD,cAx ha,cAx hb];cases (a.2.2.2.length:Int) != (b.2.2.2.length:Int)<;>cases a.2.1 != b.2.1<;>cases idG a.2 != idG b.2<;>rfl
def bIi{α:Type}{l:List α}(p:α->Bool){step:Int->Option (Int⊕Int)}(hl:l.length<=1000000)
  (h:∀(k:Nat) (x:α),l[k]? =U x->x∈l->D ((k:Int)<(l.length:Int))=X->wr ((k:Int)+1)=((k+1:Nat):Int)->step (k:Int)=U (cond (p x) (.inr (k:Int)) (.inl ((k+1:Nat):Int))))
  (he:step (l.length:Int)=U (.inr (l.length:Int))):aB step (0:Int)=U ((l.findIdx p:Nat):Int):=by
 have key:∀(rest pre:List α),pre++rest=l->aB step (pre.length:Int)=U ((pre.length+rest.findIdx p:Nat):Int):=by
  intro rest
  induction rest with
  | nil=>intro pre hp;rw[cNn]at hp;subst hp;exact aI he
  | cons x rest ih=>
   intro pre hp;have hlt:pre.length<l.length:=by rw[<- hp];simp
   have hx:l[pre.length]? =U x:=by rw[<- hp];simp
   have hs:=h pre.length x hx (cMw hx) (zX (by omega)) (aId (by omega));rw[List.findIdx_cons];cases hp':p x with
   | true=>rw[hp']at hs;exact aI hs
   | false=>
    rw[hp']at hs;rw[aP hs];have :=ih (pre++[x]) (by simpa using hp);rw[cNa,List.length_singleton]at this;rw[this];congr 2;simp;omega
 have :=key l [] rfl;simpa using this
def qG(l:bX)(g:den fM)(k:Nat):bX:=(([]++l.take k)++[g])++l.drop k
noncomputable def aK0(t:den tTo)(r:Int)(l:bX)(g:den fM):bX:=
 cond (!aDe t g.2 r g.1||aOo l g) l (cond (D (((qG l g (l.findIdx (yY g))).length:Int)>12)) ((qG l g (l.findIdx (yY g))).take ((qG l g (l.findIdx (yY g))).length - 1)) (qG l g (l.findIdx (yY g))))
def aWx{l:bX}{g:den fM}{k:Nat}(h:k<=l.length):(qG l g k).length=l.length+1:=by
 unfold qG;simp;omega
def bXn{l:bX}{g x:den fM}{k:Nat}(h:x∈qG l g k):x∈l\/x=g:=by
 unfold qG at h;simp only[cNf,cM3,cM2]at h;rcases h with (h | h) | h
 .exact .inl (cOn h)
 .exact .inr h
 .exact .inl (cOr h)
def bQ2{t:den tTo}{r:Int}{l:bX}{g:den fM}(hl:l.length<=12)(h:aJl l)(hg:g.2.2.2.length<=9):(aK0 t r l g).length<=12/\aJl (aK0 t r l g):=by
 have hk:l.findIdx (yY g)<=l.length:=cP2;have hn:=aWx (g:=g) hk;have hm:∀x∈qG l g (l.findIdx (yY g)),x.2.2.2.length<=9:=λx hx=>(bXn hx).elim (h x) λe=>e▸hg
 unfold aK0;cases !aDe t g.2 r g.1||aOo l g with
 | true=>exact⟨hl,h⟩
 | false=>
  by_cases c:((qG l g (l.findIdx (yY g))).length:Int)>12
  .rw[zX c];refine⟨?_,λx hx=>hm x (cOn hx)⟩;show (List.take _ _).length<=12;rw[cNv];omega
  .rw[zW c];exact⟨by show (qG _ _ _).length<=12;omega,hm⟩
def bYg{t:den tTo}{r:Int}{l:bX}{g:den fM}(ht:eR t)(hl:l.length<=12)(h:aJl l)(hg:g.2.2.2.length<=9):sC t r l g=U (aK0 t r l g):=by
 have hl':l.length<=1000000:=by omega
 have hc:mX t g.2 r g.1=U (aDe t g.2 r g.1):=bFq ht (by omega) r g.1;have hk:l.findIdx (yY g)<=l.length:=cP2;unfold sC aK0 ixb pj2 pj3;simp only[aD,bHv hl' h,hc,cFe hl' h hg,aA];rw[bIi (l:=l) (yY g) hl' (λk x hx hm hd hw=>by
  simp only[hd,bF,zZ,cMt,hx,aA,cDf hg (h x hm),hw];cases yY g x<;>rfl) (by simp)]
 have hn:=aWx (g:=g) hk;generalize l.findIdx (yY g)=k at *;cases aDe t g.2 r g.1 with
 | false=>rfl
 | true=>cases aOo l g with
  | true=>rfl
  | false=>
   simp only[cMp,cMx,zY,aA,cN5];rw[show bH (0:Int) (k:Int) (l.length:Int)=X from aDn hk,show bH (k:Int) (l.length:Int) (l.length:Int)=X from wM hk,fL,aC0];simp only[zZ,bI7 hg,aA,aC (b:=48) (n:=([]:bX).length) (m:=(l.take k).length) (by decide) (by simp;omega),aC (b:=48) (n:=(([]:bX)++l.take k).length) (m:=1) (by decide) (by simp;omega),aC (b:=48) (n:=((([]:bX)++l.take k)++[g]).length) (m:=(l.drop k).length) (by decide) (by simp;omega)];show Option.bind (Option.bind (U (D (((qG l g k).length:Int)>12))) λs15=>cond s15 (cond (bH (0:Int) (wr (((qG l g k).length:Int) - 1)) ((qG l g k).length:Int)) (U (cut (qG l g k) (0:Int) (wr (((qG l g k).length:Int) - 1)))) W) (U (qG l g k))) (λs16=>U s16)=_;rw[show wr (((qG l g k).length:Int) - 1)=(((qG l g k).length - 1:Nat):Int) from (dN (by omega)).trans (by omega),fL,show bH (0:Int) (((qG l g k).length - 1:Nat):Int) ((qG l g k).length:Int)=X from aDn (Nat.sub_le _ _)];simp only[aA];cases D (((qG l g k).length:Int)>12)<;>rfl
end Go.Proofs.YtjpmmodjpaabpaaGreat
