/-
  Facts and plain laws: what the functions compute, in plain words. Conditions: as each says.
-/
import Derived.Test.YtjpmmodjpaabpaaGreatT1XExecute
open List renaming length->cMy,mem_of_getElem?->cMw,nil_append->cNf,getElem?_eq_getElem->cMz,length_take->cNv,length_append->cNa,length_singleton->cOd,getElem?_eq_some_iff->cM0,map_cons->cNb,sum_cons->cNy,getLast?_concat->cP1,length_nil->cNd,length_cons->cM8,append_assoc->cNp,singleton_append->cPq,foldl_cons->cOf,all_eq_true->cNq,length_filter_le->cOq,filter_cons->cPd,getElem?_drop->cN8,length_drop->cOz,getElem?_map->cOk
open Nat renaming le_trans->cMo,zero_add->cNo,le_refl->cM5,zero_le->cM7,le_of_eq->cOg,add_sub_cancel->cPt
open Bool renaming eq_false_or_eq_true->cPc,true_and->cM1,eq_iff_iff->cNe,not_true->cMp,not_false->cMx,false_and->cNc,false_eq_true->cMr,and_eq_true->cMu,or_self->cN5,not_eq_true'->cN3,true_or->cOm,or_true->cOw
open Sum renaming elim_inl->cN4,inl->cMn,inr->cMm
open Int renaming toNat_natCast->cMt,tmod->cNi,toNat_of_nonneg->cO6,eq_ofNat_of_zero_le->cO3
open Option renaming getD_some->cNh
set_option linter.unusedVariables false
set_option linter.unusedSimpArgs false
set_option maxRecDepth 100000
open Option renaming some→U
open Option renaming none→W
open Decidable renaming decide→D
open Bool renaming true→X
open Bool renaming false→Y
set_option linter.defProp false
namespace Go.Proofs.YtjpmmodjpaabpaaGreat
open Go.Ab Go.V
def inR(n a b:Int):Bool:=D (a<=n)&&D (n<=b)
def gU(n a b:Int):aY n a b=U (inR n a b):=by
 unfold aY inR
 by_cases h:a<=n<;>simp[h]
def fB(n a b:Int):aJ n a b=U (inR n a b):=by
 unfold aJ inR
 by_cases h:a<=n<;>simp[h]
def bQ{n a b:Int}:inR n a b=X↔a<=n/\n<=b:=by simp[inR]
def aUu{n a b:Int}:inR n a b=Y↔ ¬ (a<=n/\n<=b):=by rw[<- bQ];simp
def bQl(a b:Int):aIo a b=U (if b>a then b else a):=rfl
def bFd(a b:Int):aFh a b=U (if b>a then b else a):=by
 unfold aFh
 by_cases h:b>a<;>simp[h]
def bOc(a b:Int):aJc a b=U (if b<a then b else a):=rfl
def bO9(a b:Int):aHh a b=U (if b<a then b else a):=by
 unfold aHh
 by_cases h:b<a<;>simp[h]
def aMi{b:List Int}(h:b.length<=549755813888):fZ b=U b:=by
 unfold fZ;rw[aC (by decide) (by simpa using h)];simp
def bBq{l:eU}(h:l.length<=549755813888):pL l=U l:=by
 unfold pL;rw[aC (by decide) (by simpa using h)];simp
def bCq{l:lRv}(h:l.length<=549755813888):gD l=U l:=by
 unfold gD;rw[aC (by decide) (by simpa using h)];simp
def bGw{p:den tPp}(h:SmB 549755813888 tPp p):zP p=U p:=by
 unfold zP;rw[aC (by decide) (by simpa using h.2.2.2.1)];simp
def aMv{p:den tPt}(h:SmB 549755813888 tPt p):gG p=U p:=by
 unfold gG;rw[(jG (λk (a:lPp)=>((k:Int),a)) ((0:Int),[]) [] p (λ_ x a=>a++[x]) cMy (λ_=>1) 549755813888 id rfl (cMo h.1 (by decide)) (by rw[cS];simpa using h.1) (λk x a hi hx hd hw hk hb=>by
  have e:=h.2 x (cMw hx);simp only[hd,hi,hw,zZ,aA,bBq e.2.2.2.1,aD,aC (b:=48) (by decide) hb];simp) (λa=>by simp)).1,dQ (λx=>x)]
 simp
def aMj{p:den tPt}(h:SmB 549755813888 tPt p):lE p=U p:=by
 unfold lE pj4;rw[(jG (λk (a:lPp)=>((k:Int),a)) ((0:Int),[]) [] p (λ_ x a=>a++[x]) cMy (λ_=>1) 549755813888 id rfl (cMo h.1 (by decide)) (by rw[cS];simpa using h.1) (λk x a hi hx hd hw hk hb=>by
  have e:=h.2 x (cMw hx);simp only[hd,hi,hw,zZ,aA,aD,bGw e,aC (b:=48) (by decide) hb];simp) (λa=>by simp)).1,dQ (λx=>x)]
 simp
def bV7{l:lPt}(h:SmB 549755813888 (.sl tPt) l):zD l=U l:=by
 unfold zD;rw[(jG (λk (a:lPt)=>((k:Int),a)) ((0:Int),[]) [] l (λ_ x a=>a++[x]) cMy (λ_=>1) 549755813888 id rfl (cMo h.1 (by decide)) (by rw[cS];simpa using h.1) (λk x a hi hx hd hw hk hb=>by
  have e:=h.2 x (cMw hx);simp only[hd,hi,hw,zZ,aA,aMv e,aC (b:=24) (by decide) hb];simp) (λa=>by simp)).1,dQ (λx=>x)]
 simp
def bWv{l:lPt}(h:SmB 549755813888 (.sl tPt) l):aD3 l=U l:=by
 unfold aD3;rw[(jG (λk (a:lPt)=>((k:Int),a)) ((0:Int),[]) [] l (λ_ x a=>a++[x]) cMy (λ_=>1) 549755813888 id rfl (cMo h.1 (by decide)) (by rw[cS];simpa using h.1) (λk x a hi hx hd hw hk hb=>by
  have e:=h.2 x (cMw hx);simp only[hd,hi,hw,zZ,aA,aMj e,aC (b:=24) (by decide) hb];simp) (λa=>by simp)).1,dQ (λx=>x)]
 simp
def bLz{l:lMs}(h:SmB 549755813888 (.sl tMs) l):mV l=U l:=by
 unfold mV;rw[(jG (λk (a:lMs)=>((k:Int),a)) ((0:Int),[]) [] l (λ_ x a=>a++[x]) cMy (λ_=>1) 549755813888 id rfl (cMo h.1 (by decide)) (by rw[cS];simpa using h.1) (λk x a hi hx hd hw hk hb=>by
  have e:=h.2 x (cMw hx);simp only[hd,hi,hw,zZ,aA,aMi e.1,aC (b:=24) (by decide) hb];simp) (λa=>by simp)).1,dQ (λx=>x)]
 simp
def bKm{l:lMs}(h:SmB 549755813888 (.sl tMs) l):wG l=U l:=by
 unfold wG;rw[(jG (λk (a:lMs)=>((k:Int),a)) ((0:Int),[]) [] l (λ_ x a=>a++[x]) cMy (λ_=>1) 549755813888 id rfl (cMo h.1 (by decide)) (by rw[cS];simpa using h.1) (λk x a hi hx hd hw hk hb=>by
  have e:=h.2 x (cMw hx);simp only[hd,hi,hw,zZ,aA,aC (b:=1) (n:=([]:List Int).length) (by decide) (by simpa using e.1),aC (b:=24) (by decide) hb];simp) (λa=>by simp)).1,dQ (λx=>x)]
 simp
def tP(f:den tFl):q7:=(f.1,f.2.1,f.2.2.1,f.2.2.2.1,f.2.2.2.2.2.2.1,f.2.2.2.2.2.2.2.1,f.2.2.2.2.1,f.2.2.2.2.2.1,f.2.2.2.2.2.2.2.2)
def aMz{f:den tFl}(h:SmB 549755813888 tFl f):gF f=U (tP f):=by
 unfold gF tP zz4 zz5 zz6 zz7 zz8;simp only[bLz h.2.2.2.2.1,bV7 h.2.2.2.2.2.1,bCq h.2.2.2.2.2.2.2.2.1,aA]
def aJ5{f:den tFl}(h:SmB 549755813888 tFl f):gL f=U (tP f):=by
 unfold gL tP zz4 zz5 zz6 zz7 zz8;simp only[bKm h.2.2.2.2.1,bWv h.2.2.2.2.2.1,aA,aC (b:=24) (n:=([]:lRv).length) (by decide) (by simpa using h.2.2.2.2.2.2.2.2.1),zZ,cNf]
def bK1{x:den tIb}(h:SmB 549755813888 tIb x):tH x=U x:=by
 unfold tH;simp only[bLz h.2.2.2,aA,aD]
def bMd{x:den tIb}(h:SmB 549755813888 tIb x):aAd x=U x:=by
 unfold aAd;simp only[bKm h.2.2.2,aA,aD]
def iI(x:den tRv):Bool:=inR x.1 0 7&&(inR x.2.1 1 6&&inR x.2.2 0 1000000)
def aJ6(x:den tRv):cL x=U (iI x):=by
 unfold cL iI;simp only[gU,aA];cases inR x.1 0 7<;>cases inR x.2.1 1 6<;>cases inR x.2.2 0 1000000<;>rfl
def aJm(x:den tRv):cN x=U (iI x):=by
 unfold cN iI;simp only[fB,aA];cases inR x.1 0 7<;>cases inR x.2.1 1 6<;>cases inR x.2.2 0 1000000<;>rfl
def aEa{α S:Type}(p:Nat->α->Bool):∀(l:List α) (k:Nat) (ρ:S),dG (λk x=>if p k x then W else U ρ) k l=if (l.zipIdx k).all (λx=>p x.2 x.1) then W else U ρ
 | [],_,_=>rfl
 | x::xs,k,ρ=>by
  simp only[dG,List.zipIdx_cons,List.all_cons];rcases cPc (p k x) with h | h
  .simp only[h,zV,cM1];exact aEa p xs (k+1) ρ
  .simp[h]
def bMi{α:Type}(p:α->Bool):∀(l:List α) (k:Nat),(l.zipIdx k).all (λx=>p x.1)=l.all p
 | [],_=>rfl
 | x::xs,k=>by simp[List.zipIdx_cons,bMi p xs]
def iL{α S:Type}(p:α->Bool)(l:List α)(ρ:S):dG (λ_ x=>if p x then W else U ρ) 0 l=if l.all p then W else U ρ:=by
 rw[aEa (λ_ x=>p x),bMi p]
def tW(f:den tFl):Bool:=
 inR f.1 0 7&&(inR f.2.1 0 7&&(!(f.1==f.2.1)&&(inR f.2.2.1 0 100000&&(D (f.2.2.2.2.1.length<=20)&&(inR f.2.2.2.1 0 (f.2.2.2.2.1.length:Int)&&(D (f.2.2.2.2.2.1.length<=24)&&
  (f.2.2.2.2.1.all (λm=>D (m.length<=40))&&(f.2.2.2.2.2.2.2.2.all iI&&((f.2.2.2.2.2.2.1==0||inR f.2.2.2.2.2.2.1 0 ((f.2.2.2.2.2.1.length:Int) - 1))&&(inR f.2.2.2.2.2.2.2.1 0 4&&D (f.2.2.2.2.2.2.2.2.length<=16)))))))))))
def aW7{f:den tFl}(h:SmB 549755813888 tFl f):mQ f=U (tW f):=by
 have h1:=h.2.2.2.2.1.1;have h2:=h.2.2.2.2.2.1.1;have h3:=h.2.2.2.2.2.2.2.2.1;unfold mQ tW pj3 zz4 zz5 zz6 zz7 zz8;rw[aM (l:=f.2.2.2.2.1) (λ_ m=>if D (m.length<=40) then W else U Y) (by omega) (λk m hi hd hw hx hk=>by
  simp only[hd,hi,hw,zZ,aA]
  by_cases hm:m.length<=40
  .simp[hm,show ¬ ((m.length:Int)>40) by omega]
  .simp[hm,show (m.length:Int)>40 by omega]) (by simp)]
 rw[aM (l:=f.2.2.2.2.2.2.2.2) (λ_ x=>if iI x then W else U Y) (by omega) (λk x hi hd hw hx hk=>by
  simp only[hd,hi,hw,zZ,aA,aD,aJ6];cases iI x<;>rfl) (by simp)]
 rw[iL (λm:List Int=>D (m.length<=40)),iL iI];have e1:D ((f.2.2.2.2.1.length:Int)>20)= !D (f.2.2.2.2.1.length<=20):=by rw[cNe];simp;omega
 have e2:D ((f.2.2.2.2.2.1.length:Int)>24)= !D (f.2.2.2.2.2.1.length<=24):=by rw[cNe];simp;omega
 have e3:D ((f.2.2.2.2.2.2.2.2.length:Int)<=16)=D (f.2.2.2.2.2.2.2.2.length<=16):=by rw[cNe];simp;omega
 have e5:wr ((f.2.2.2.2.2.1.length:Int) - 1)=(f.2.2.2.2.2.1.length:Int) - 1:=wri (by omega) (by omega);rw[e5];simp only[gU,aA,e1,e2,e3];cases inR f.1 0 7<;>simp only[cMp,cMx,zZ,zY,aA,cNc,cM1];cases inR f.2.1 0 7<;>simp only[cMp,cMx,zZ,zY,aA,cNc,cM1];cases f.1==f.2.1<;>simp only[cMp,cMx,zZ,zY,aA,cNc,cM1];cases inR f.2.2.1 0 100000<;>simp only[cMp,cMx,zZ,zY,aA,cNc,cM1];cases D (f.2.2.2.2.1.length<=20)<;>simp only[cMp,cMx,zZ,zY,aA,cNc,cM1];cases inR f.2.2.2.1 0 (f.2.2.2.2.1.length:Int)<;>simp only[cMp,cMx,zZ,zY,aA,cNc,cM1];cases D (f.2.2.2.2.2.1.length<=24)<;>simp only[cMp,cMx,zZ,zY,aA,cNc,cM1];cases f.2.2.2.2.1.all (λm=>D (m.length<=40))<;>simp only[cMr,zV,zU,aA,cN4,Sum.elim_inr,cNc,cM1];cases f.2.2.2.2.2.2.2.2.all iI<;>simp only[cMr,zV,zU,aA,cN4,Sum.elim_inr,cNc,cM1];cases f.2.2.2.2.2.2.1==0<;>cases inR f.2.2.2.2.2.2.1 0 ((f.2.2.2.2.2.1.length:Int) - 1)<;>cases inR f.2.2.2.2.2.2.2.1 0 4<;>rfl
def aXs{f:den tFl}(h:SmB 549755813888 tFl f):nA f=U (tW f):=by
 have h1:=h.2.2.2.2.1.1;have h2:=h.2.2.2.2.2.1.1;have h3:=h.2.2.2.2.2.2.2.2.1;unfold nA tW pj3 zz4 zz5 zz6 zz7 zz8;rw[aM (l:=f.2.2.2.2.1) (λ_ m=>if D (m.length<=40) then W else U Y) (by omega) (λk m hi hd hw hx hk=>by
  simp only[hd,hi,hw,zZ,aA]
  by_cases hm:m.length<=40
  .simp[hm,show ¬ ((m.length:Int)>40) by omega]
  .simp[hm,show (m.length:Int)>40 by omega]) (by simp)]
 rw[aM (l:=f.2.2.2.2.2.2.2.2) (λ_ x=>if iI x then W else U Y) (by omega) (λk x hi hd hw hx hk=>by
  simp only[hd,hi,hw,zZ,aA,aD,aJm];cases iI x<;>rfl) (by simp)]
 rw[iL (λm:List Int=>D (m.length<=40)),iL iI];have e1:D ((f.2.2.2.2.1.length:Int)>20)= !D (f.2.2.2.2.1.length<=20):=by rw[cNe];simp;omega
 have e2:D ((f.2.2.2.2.2.1.length:Int)>24)= !D (f.2.2.2.2.2.1.length<=24):=by rw[cNe];simp;omega
 have e3:D ((f.2.2.2.2.2.2.2.2.length:Int)>16)= !D (f.2.2.2.2.2.2.2.2.length<=16):=by rw[cNe];simp;omega
 have e4:inR f.2.2.2.2.2.2.1 0 (if ((f.2.2.2.2.2.1.length:Int) - 1)>0 then ((f.2.2.2.2.2.1.length:Int) - 1) else 0)=(f.2.2.2.2.2.2.1==0||inR f.2.2.2.2.2.2.1 0 ((f.2.2.2.2.2.1.length:Int) - 1)):=by
  have key:∀(c n:Int),0<=n->inR c 0 (if n - 1>0 then n - 1 else 0)=(c==0||inR c 0 (n - 1)):=λc n hn=>by
   unfold inR
   by_cases h1:n - 1>0
   .rw[zT h1]
    by_cases h2:c=0
    .subst h2;simp;omega
    .simp[h2]
   .rw[zS h1]
    by_cases h2:c=0
    .subst h2;simp
    .rw[cNe];simp[h2];omega
  exact key _ _ (by omega)
 have e5:wr ((f.2.2.2.2.2.1.length:Int) - 1)=(f.2.2.2.2.2.1.length:Int) - 1:=wri (by omega) (by omega);rw[e5];simp only[fB,bFd,aA,e1,e2,e3,e4];cases inR f.1 0 7<;>simp only[cMp,cMx,zZ,zY,aA,cNc,cM1];cases inR f.2.1 0 7<;>simp only[cMp,cMx,zZ,zY,aA,cNc,cM1];cases f.1==f.2.1<;>simp only[cMp,cMx,zZ,zY,aA,cNc,cM1];cases inR f.2.2.1 0 100000<;>simp only[cMp,cMx,zZ,zY,aA,cNc,cM1];cases D (f.2.2.2.2.1.length<=20)<;>simp only[cMp,cMx,zZ,zY,aA,cNc,cM1];cases inR f.2.2.2.1 0 (f.2.2.2.2.1.length:Int)<;>simp only[cMp,cMx,zZ,zY,aA,cNc,cM1];cases D (f.2.2.2.2.2.1.length<=24)<;>simp only[cMp,cMx,zZ,zY,aA,cNc,cM1];cases f.2.2.2.2.2.2.1==0||inR f.2.2.2.2.2.2.1 0 ((f.2.2.2.2.2.1.length:Int) - 1)<;>cases inR f.2.2.2.2.2.2.2.1 0 4<;>cases D (f.2.2.2.2.2.2.2.2.length<=16)<;>cases f.2.2.2.2.1.all (λm=>D (m.length<=40))<;>cases f.2.2.2.2.2.2.2.2.all iI<;>rfl
def aL0(a b:List Int):Bool:=(eV a).toList==(eV b).toList
def cEa(a b:List Int):aAw a b=U (aL0 a b):=rfl
def cFc(a b:List Int):aA0 a b=U (aL0 a b):=rfl
def aFw:lMs->lMs->Bool
 | [],_=>X
 | _::_,[]=>X
 | a::as,b::bs=>aL0 a b&&aFw as bs
def aU2{α S:Type}(p:α->α->Bool)(l:List α)(ρ:S)(k:Nat)(x:α):Option S:=Option.elim l[k]? W λy=>if p x y then W else U ρ
def bO4{α S:Type}(p:α->α->Bool)(q:List α->List α->Bool)(h0:∀b,q [] b=X)(h1:∀x a y b,q (x::a) (y::b)=(p x y&&q a b))(ρ:S):∀(a b:List α),a.length<=b.length-> ∀(k:Nat) (l:List α),(∀j,b[j]? =l[k+j]?)->dG (aU2 p l ρ) k a=if q a b then W else U ρ
 | [],b,_,k,l,_=>by rw[h0];rfl
 | x::a,[],h,_,_,_=>by simp at h
 | x::a,y::b,h,k,l,hl=>by
  have e0:=hl 0;simp only[Nat.add_zero,List.getElem?_cons_zero]at e0;simp only[dG,aU2,<- e0,h1,Option.elim_some];rcases cPc (p x y) with hp | hp
  .simp only[hp,zV,cM1];exact bO4 p q h0 h1 ρ a b (by simpa using h) (k+1) l λj=>by
    have :=hl (j+1);rw[List.getElem?_cons_succ]at this;rw[this];congr 1;omega
  .simp[hp]
def bWb{a b:lMs}(ha:a.length<=549755813888)(hb:b.length<=549755813888):qO a b=U (D (a.length=b.length)&&aFw a b):=by
 unfold qO
 by_cases hl:a.length=b.length
 .have h0:((a.length:Int) != (b.length:Int))=Y:=by simp[hl]
  rw[h0,zY,aM (l:=a) (aU2 aL0 b Y) (by omega) (λk x hi hd hw hx hk=>by
    have hy:b[k]? =U b[k]:=cMz (by omega);simp only[hd,hi,hw,zZ,aA,aR,hy,cEa,aU2,Option.elim_some];cases aL0 x b[k]<;>rfl) (by simp)]
  rw[bO4 aL0 aFw (λb=>by cases b<;>rfl) (λ_ _ _ _=>rfl) Y a b (by omega) 0 b (λj=>by rw[cNo])];cases aFw a b<;>simp[hl]
 .have h0:((a.length:Int) != (b.length:Int))=X:=by simp;omega
  rw[h0,zZ];simp[hl]
def aH9(f:den tFl)(x:den tIb):Bool:=
 x.1==f.2.1&&(x.2.1==f.1&&(D (x.2.2.2.length<=f.2.2.2.2.1.length)&&(aFw x.2.2.2 f.2.2.2.2.1&&D ((x.2.2.2.length:Int)>=f.2.2.2.1))))
def aVw:∀(a b:lMs),aFw a (b.take a.length)=aFw a b
 | [],b=>by cases b<;>rfl
 | x::a,[]=>rfl
 | x::a,y::b=>by simp[aFw,aVw a b]
def bSc{f:den tFl}{x:den tIb}(hf:f.2.2.2.2.1.length<=549755813888)(hx:x.2.2.2.length<=549755813888):oT f x=U (aH9 f x):=by
 unfold oT aH9 zz4;cases x.1==f.2.1
 .rfl
 cases x.2.1==f.1
 .rfl
 by_cases hl:x.2.2.2.length<=f.2.2.2.2.1.length
 .have h1:D ((x.2.2.2.length:Int)<=(f.2.2.2.2.1.length:Int))=X:=by simpa using hl
  have h2:bH (0:Int) (x.2.2.2.length:Int) (f.2.2.2.2.1.length:Int)=X:=by simp[bH];omega
  rw[h1,h2,fL,bWb hx (by rw[cNv];omega),aVw];have h3:D (x.2.2.2.length=(List.take x.2.2.2.length f.2.2.2.2.1).length)=X:=by simp[cNv];omega
  rw[h3];simp only[zZ,aA,cM1,zX hl];cases aFw x.2.2.2 f.2.2.2.2.1<;>rfl
 .have h1:D ((x.2.2.2.length:Int)<=(f.2.2.2.2.1.length:Int))=Y:=by simp;omega
  rw[h1];simp[hl]
def bR0{f:den tFl}{x:den tIb}(hf:f.2.2.2.2.1.length<=549755813888)(hx:x.2.2.2.length<=549755813888):oQ f x=U (aH9 f x):=by
 unfold oQ aH9 zz4;simp only[bne];cases x.1==f.2.1
 .rfl
 cases x.2.1==f.1
 .rfl
 by_cases hl:x.2.2.2.length<=f.2.2.2.2.1.length
 .have h1:D ((x.2.2.2.length:Int)>(f.2.2.2.2.1.length:Int))=Y:=by simp;omega
  have h4:D ((x.2.2.2.length:Int)<f.2.2.2.1)= !D ((x.2.2.2.length:Int)>=f.2.2.2.1):=by rw[cNe];simp
  rw[h1,h4,aM (l:=x.2.2.2) (aU2 aL0 f.2.2.2.2.1 Y) (by omega) (λk m hi hd hw hm hk=>by
    have hy:f.2.2.2.2.1[k]? =U f.2.2.2.2.1[k]:=cMz (by omega);simp only[hd,hi,hw,zZ,aA,aR,hy,cFc,aU2,Option.elim_some];cases aL0 m f.2.2.2.2.1[k]<;>rfl) (by simp)]
  rw[bO4 aL0 aFw (λb=>by cases b<;>rfl) (λ_ _ _ _=>rfl) Y x.2.2.2 f.2.2.2.2.1 hl 0 f.2.2.2.2.1 (λj=>by rw[cNo])];rw[zX hl];cases D ((x.2.2.2.length:Int)>=f.2.2.2.1)<;>cases aFw x.2.2.2 f.2.2.2.2.1<;>rfl
 .have h1:D ((x.2.2.2.length:Int)>(f.2.2.2.2.1.length:Int))=X:=by simp;omega
  rw[h1];simp[hl]
def aKf(x:den tIb)(p:den tPk):Bool:=p.1==1&&(p.2.1==x.2.1&&p.2.2.1==x.1)
def bL3(x:den tIb)(p:den tPk):zL x p=U (aKf x p):=by
 unfold zL aKf;cases p.1==1<;>cases p.2.1==x.2.1<;>rfl
def bMh(x:den tIb)(p:den tPk):aCt x p=U (aKf x p):=by
 unfold aCt aKf;cases p.1==1<;>cases p.2.1==x.2.1<;>rfl
def bPs(x:den tIb)(p:den tPk):Bool:=aKf x p&&(p.2.2.2.2.2.2.2.2.1==x.2.2.1&&D (x.2.2.1<20))
def iT(x:den tIb)(p:den tPk):den tIb:=if bPs x p then (x.1,x.2.1,wr (x.2.2.1+1),x.2.2.2++[p.2.2.2.2.2.2.2.2.2]) else x
def cD3{x:den tIb}{p:den tPk}(hx:SmB 137438953472 tIb x)(hp:SmB 137438953472 tPk p):uP x p=U (iT x p):=by
 have hx':SmB 549755813888 tIb x:=hx.mono (by decide);have hp':=(hp.mono (C:=549755813888) (by decide)).2.2.2.2.2.2.2.2.2.1;unfold uP iT bPs aK pj4 zz8 zz9;have ha:=hx.2.2.2.1;simp only[aD,bK1 hx',bL3,aMi hp',aA,aC (b:=24) (n:=x.2.2.2.length) (m:=1) (by decide) (by omega),zZ];cases aKf x p<;>cases p.2.2.2.2.2.2.2.2.1==x.2.2.1<;>cases D (x.2.2.1<20)<;>rfl
def cD5{x:den tIb}{p:den tPk}(hx:SmB 137438953472 tIb x)(hp:SmB 137438953472 tPk p):uJ x p=U (iT x p):=by
 have hx':SmB 549755813888 tIb x:=hx.mono (by decide);have hp':=(hp.mono (C:=549755813888) (by decide)).2.2.2.2.2.2.2.2.2.1;unfold uJ iT bPs aK pj4 zz8 zz9;have ha:=hx.2.2.2.1;simp only[aD,bMd hx',bMh,aA,aC (b:=1) (n:=([]:List Int).length) (by decide) (by simpa using hp'),aC (b:=24) (n:=x.2.2.2.length) (m:=1) (by decide) (by omega),zZ,cNf];cases aKf x p<;>cases p.2.2.2.2.2.2.2.2.1==x.2.2.1<;>cases D (x.2.2.1<20)<;>rfl
def bT8(x:den tIb)(p:den tPk):tot (.sl tMs) (iT x p).2.2.2<=tot (.sl tMs) x.2.2.2+1+tot (.sl tb) p.2.2.2.2.2.2.2.2.2:=by
 unfold iT;split
 .rw[vV,aH8];show _+(1+tot (.sl tb) _)<=_;omega
 .omega
def bWn(f:den tFl)(p:den tPk):Bool:=p.1==2&&(p.2.1==f.2.1&&(p.2.2.1==f.1&&(p.2.2.2.2.2.2.2.2.1==f.2.2.2.1&&inR f.2.2.2.1 0 ((f.2.2.2.2.1.length:Int) - 1))))
def aIn(f:den tFl)(p:den tPk):den tFl:=if bWn f p then (f.1,f.2.1,f.2.2.1,wr (f.2.2.2.1+1),f.2.2.2.2.1,f.2.2.2.2.2.1,f.2.2.2.2.2.2.1,0,f.2.2.2.2.2.2.2.2) else f
def cEe{f:den tFl}{p:den tPk}(hf:SmB 549755813888 tFl f):aAc f p=U (tP (aIn f p)):=by
 unfold aAc aIn bWn pj3 pj9 zz4 zz5 zz6 zz8;have e5:wr ((f.2.2.2.2.1.length:Int) - 1)=(f.2.2.2.2.1.length:Int) - 1:=wri (by have :=hf.2.2.2.2.1.1;omega) (by have :=hf.2.2.2.2.1.1;omega);simp only[aD,aMz hf,aA,gU,e5];cases p.1==2<;>cases p.2.1==f.2.1<;>cases p.2.2.1==f.1<;>cases p.2.2.2.2.2.2.2.2.1==f.2.2.2.1<;>cases inR f.2.2.2.1 0 ((f.2.2.2.2.1.length:Int) - 1)<;>rfl
def bK7{f:den tFl}{p:den tPk}(hf:SmB 549755813888 tFl f):wD f p=U (tP (aIn f p)):=by
 unfold wD aIn bWn pj3 pj9 zz4 zz5 zz6 zz8;have e5:wr ((f.2.2.2.2.1.length:Int) - 1)=(f.2.2.2.2.1.length:Int) - 1:=wri (by have :=hf.2.2.2.2.1.1;omega) (by have :=hf.2.2.2.2.1.1;omega);simp only[aD,aJ5 hf,aA,fB,e5];cases p.1==2<;>cases p.2.1==f.2.1<;>cases p.2.2.1==f.1<;>cases p.2.2.2.2.2.2.2.2.1==f.2.2.2.1<;>cases inR f.2.2.2.1 0 ((f.2.2.2.2.1.length:Int) - 1)<;>rfl
def bJx(f:den tFl)(p:den tPk):(aIn f p).2.2.2.2.1=f.2.2.2.2.1/\(aIn f p).2.2.2.2.2.1=f.2.2.2.2.2.1/\(aIn f p).2.2.2.2.2.2.2.2=f.2.2.2.2.2.2.2.2:=by
 unfold aIn;split<;>exact⟨rfl,rfl,rfl⟩
def enq(f:den tFl)(b:List Int):den tFl:=(f.1,f.2.1,f.2.2.1,f.2.2.2.1,f.2.2.2.2.1++[b],f.2.2.2.2.2.1,f.2.2.2.2.2.2.1,f.2.2.2.2.2.2.2.1,f.2.2.2.2.2.2.2.2)
def bBh(f:den tFl)(b:List Int):Int×Int×Int×Int×Int×Int×Bool×lMs×lPt×lRv:=
 if tW (enq f b) then (f.1,f.2.1,f.2.2.1,f.2.2.2.1,f.2.2.2.2.2.2.1,f.2.2.2.2.2.2.2.1,X,f.2.2.2.2.1++[b],f.2.2.2.2.2.1,f.2.2.2.2.2.2.2.2)
 else (f.1,f.2.1,f.2.2.1,f.2.2.2.1,f.2.2.2.2.2.2.1,f.2.2.2.2.2.2.2.1,Y,f.2.2.2.2.1,f.2.2.2.2.2.1,f.2.2.2.2.2.2.2.2)
def bU2{f:den tFl}{b:List Int}(hf:SmB 137438953472 tFl f)(hb:SmB 137438953472 (.sl tb) b):SmB 549755813888 tFl (enq f b):=by
 have hf':=hf.mono (C:=549755813888) (by decide);refine⟨hf'.1,hf'.2.1,hf'.2.2.1,hf'.2.2.2.1,⟨?_,λe he=> ?_⟩,hf'.2.2.2.2.2.1,hf'.2.2.2.2.2.2.1,hf'.2.2.2.2.2.2.2.1,hf'.2.2.2.2.2.2.2.2⟩
 .show (f.2.2.2.2.1++[b]).length<=_;have :=hf.2.2.2.2.1.1;rw[cNa,cOd];omega
 .rcases List.mem_append.1 he with he | he
  .exact hf'.2.2.2.2.1.2 e he
  .rw[List.mem_singleton.1 he];exact hb.mono (by decide)
def cJr{f:den tFl}{b:List Int}(hf:SmB 137438953472 tFl f)(hb:SmB 137438953472 (.sl tb) b):aDu f b=U (bBh f b):=by
 unfold aDu bBh pj2 pj3 pj9 zz4 zz5 zz6 zz7 zz8;have hf':=hf.mono (C:=549755813888) (by decide);have h1:=hf.2.2.2.2.1.1;have h2:mQ (f.1,f.2.1,f.2.2.1,f.2.2.2.1,f.2.2.2.2.1++[b],f.2.2.2.2.2.1,f.2.2.2.2.2.2.1,f.2.2.2.2.2.2.2.1,f.2.2.2.2.2.2.2.2)=U (tW (enq f b)):=aW7 (f:=enq f b) (bU2 hf hb);simp only[aD,aMz hf',aMi (b:=b) (cMo hb.1 (by decide)),aA,tP,aC (b:=24) (n:=f.2.2.2.2.1.length) (m:=1) (by decide) (by omega),zZ,h2];cases tW (enq f b)<;>rfl
def cJv{f:den tFl}{b:List Int}(hf:SmB 137438953472 tFl f)(hb:SmB 137438953472 (.sl tb) b):aDx f b=U (bBh f b):=by
 unfold aDx bBh pj2 pj3 pj9 zz4 zz5 zz6 zz7 zz8;have hf':=hf.mono (C:=549755813888) (by decide);have h1:=hf.2.2.2.2.1.1;have h2:nA (f.1,f.2.1,f.2.2.1,f.2.2.2.1,f.2.2.2.2.1++[b],f.2.2.2.2.2.1,f.2.2.2.2.2.2.1,f.2.2.2.2.2.2.2.1,f.2.2.2.2.2.2.2.2)=U (tW (enq f b)):=aXs (f:=enq f b) (bU2 hf hb);simp only[aD,aJ5 hf',aA,tP,aC (b:=1) (n:=([]:List Int).length) (m:=b.length) (by decide) (by have :=hb.1;simp;omega),aC (b:=24) (n:=f.2.2.2.2.1.length) (m:=1) (by decide) (by omega),zZ,cNf,h2];cases tW (enq f b)<;>rfl
def uA(k:Int):Bool:=k==1||k==3
def aMt(k:Int):fG k=U (uA k):=by
 unfold fG uA;cases k==1<;>rfl
def aM0(k:Int):fF k=U (uA k):=by
 unfold fF uA;cases k==1<;>rfl
def pIn(p:den tPp)(h:den cH):Int:=if uA p.1 then h.2.2.1 else h.2.1
def pEg(p:den tPp)(h:den cH):Int:=if uA p.1 then h.2.1 else h.2.2.1
def rF{n:Nat}(h:n<=549755813888):wr ((n:Int) - 1)=(n:Int) - 1:=wri (by omega) (by omega)
def aVj{k n:Nat}(h:k<n):inR (k:Int) 0 ((n:Int) - 1)=X:=by rw[bQ];omega
def bOm{p:den tPp}{k:Nat}{h:den cH}(hk:p.2.2.2[k]? =U h)(hl:p.2.2.2.length<=549755813888):iD p (k:Int)=U (pIn p h):=by
 have hlt:k<p.2.2.2.length:=(cM0.1 hk).1;unfold iD pIn;simp only[gU,rF hl,aVj hlt,aA,cMp,zY,aMt,aR,hk];cases uA p.1<;>rfl
def bOi{p:den tPp}{k:Nat}{h:den cH}(hk:p.2.2.2[k]? =U h)(hl:p.2.2.2.length<=549755813888):gS p (k:Int)=U (pIn p h):=by
 have hlt:k<p.2.2.2.length:=(cM0.1 hk).1;unfold gS pIn;simp only[fB,rF hl,aVj hlt,aA,cMp,zY,aM0,aR,hk];cases uA p.1<;>rfl
def bOs{p:den tPp}{k:Nat}{h:den cH}(hk:p.2.2.2[k]? =U h)(hl:p.2.2.2.length<=549755813888):iU p (k:Int)=U (pEg p h):=by
 have hlt:k<p.2.2.2.length:=(cM0.1 hk).1;unfold iU pEg;simp only[gU,rF hl,aVj hlt,aA,cMp,zY,aMt,aR,hk];cases uA p.1<;>rfl
def bE8{p:den tPp}{k:Nat}{h:den cH}(hk:p.2.2.2[k]? =U h)(hl:p.2.2.2.length<=549755813888):fE p (k:Int)=U (pEg p h):=by
 have hlt:k<p.2.2.2.length:=(cM0.1 hk).1;unfold fE pEg;simp only[fB,rF hl,aVj hlt,aA,cMp,zY,aM0,aR,hk];cases uA p.1<;>rfl
def aSp(nf:Bool)(p:den tPp)(i:Nat)(h:den cH)(out:eE):eE:=
 match out.getLast? with
 | some z=>if nf&&(D (i=0)&&z.1==h.1) then out.dropLast++[(h.1,z.2.1,pEg p h)] else out++[(h.1,pIn p h,pEg p h)]
 | none=>out++[(h.1,pIn p h,pEg p h)]
def aWm(nf:Bool)(p:den tPp)(i:Nat)(h:den cH)(out:eE):(aSp nf p i h out).length<=out.length+1:=by
 unfold aSp;split
 .split
  .simp only[cNa,List.length_dropLast,cOd];omega
  .simp
 .simp
def aUr(nf:Bool)(p:den tPp)(a:eE):eE:=cV (λi h b=>aSp nf p i h b) 0 p.2.2.2 a
def aJk(p:den tPt):eE:=cV (λk x a=>aUr (D (0<k)) x a) 0 p []
def aX2(l:eE):eE:=
 match l with
 | []=>[]
 | x::xs=>let m:=(x.1,0,x.2.2)::xs
  match m.getLast? with
  | some y=>m.dropLast++[(y.1,y.2.1,0)]
  | none=>[]
def iA(p:den tPt):eE:=aX2 (aJk p)
def bXp(l:eE):(aX2 l).length=l.length:=by
 unfold aX2;split
 .rfl
 .rename_i x xs;simp only;rw[List.getLast?_eq_some_getLast (by simp)];simp
def aJ8(p:den tPt):(p.map λx=>x.2.2.2.length).sum<=tot tPt p:=by
 show _<=tot (.sl tPp) p;rw[<- aPq]
 induction p with
 | nil=>exact cM5 _
 | cons x p ih=>
  simp only[cNb,cNy];have h1:x.2.2.2.length<=tot tPp x:=by
   show _<=tot ti x.1+(tot ti x.2.1+(tot ti x.2.2.1+tot (.sl cH) x.2.2.2));rw[qS rfl];omega
  omega
def aZg{n:Nat}(h:n<=549755813888)(h0:0<n):wr ((n:Int) - 1)=((n - 1:Nat):Int):=by
 rw[rF h];omega
def aMx{α:Type}{m:List α}{z:α}(h:(m++[z]).length<=549755813888):wr (((m++[z]).length:Int) - 1)=(m.length:Int):=by
 rw[aZg h (by simp)];simp
def aTu(nf:Bool)(p:den tPp)(a:eE):(aUr nf p a).length<=a.length+p.2.2.2.length:=by
 have :=aE8 (m:=cMy) (cost:=λ_=>1) (λi h b=>aWm nf p i h b) p.2.2.2 0 a;rw[cS]at this;exact this
def aR5(p:den tPt):(aJk p).length<=tot tPt p:=by
 have :=aE8 (m:=cMy) (cost:=λx:den tPp=>x.2.2.2.length) (λk x a=>aTu (D (0<k)) x a) p 0 [];have h2:=aJ8 p;have h3:(aJk p).length<=0+(p.map λx=>x.2.2.2.length).sum:=this;omega
def aB9(p:den tPt):(iA p).length<=tot tPt p:=by
 unfold iA;rw[bXp];exact aR5 p
def bLs(k:Nat):D ((k:Int)>0)=D (0<k):=by rw[cNe];simp
def bHs(i:Nat):((i:Int)==0)=D (i=0):=by rw[cNe];simp
def bHk(nf:Bool)(p:den tPp)(i:Nat)(h:den cH):aSp nf p i h []=[(h.1,pIn p h,pEg p h)]:=rfl
def bEm(nf:Bool)(p:den tPp)(i:Nat)(h:den cH)(m:eE)(z:den aEl):aSp nf p i h (m++[z])=if nf&&(D (i=0)&&z.1==h.1) then m++[(h.1,z.2.1,pEg p h)] else (m++[z])++[(h.1,pIn p h,pEg p h)]:=by
 unfold aSp;rw[cP1,List.dropLast_concat]
def bDz{m:eE}{x z:den aEl}{xs:eE}(h:(x.1,(0:Int),x.2.2)::xs=m++[z]):aX2 (x::xs)=m++[(z.1,z.2.1,0)]:=by
 unfold aX2;simp only;rw[h,cP1,List.dropLast_concat]
def aMe{p:den tPt}(h:tot tPt p<=274877906944):kR p=U (iA p):=by
 have hs:=aJ8 p;have sm:SmB 274877906944 tPt p:=bG h;have hl:=aR5 p;unfold kR ixb pj4;rw[fV (λk (a:eE)=>((k:Int),a)) ((0:Int),[]) [] p (λk x a=>aUr (D (0<k)) x a) cMy (λx=>x.2.2.2.length) 274877906944 id rfl (cMo sm.1 (by decide)) (by simp only[cNd];omega) (λk x a=>aTu _ x a) (λk x a hi hx hd hw hk hb=>by
  have hxl:x.2.2.2.length<=274877906944:=(sm.2 x (cMw hx)).2.2.2.1;simp only[hd,hi,hw,zZ,aA];rw[fV (λi (b:eE)=>((i:Int),b)) ((0:Int),a) a x.2.2.2 (λi h b=>aSp (D (0<k)) x i h b) cMy (λ_=>1) 274877906944 id rfl (cMo hxl (by decide)) (by rw[cS];exact hb) (λi h b=>aWm _ x i h b) (λi g b hi2 hg hd2 hw2 hk2 hb2=>by
   have hl2:x.2.2.2.length<=549755813888:=by omega
   simp only[hd2,hi2,hw2,zZ,aA,aD,bOm hg hl2,bOs hg hl2,bLs,bHs,aC (b:=24) (n:=b.length) (m:=1) (by decide) (by omega)];rcases xV b with rfl | ⟨m,z,rfl⟩
   .rw[bHk];cases D (0<k)<;>cases D (i=0)<;>rfl
   .rw[bEm,aMx (by omega)];simp only[bF,aJ2,aMg,aP3,zZ,cMt,aA,aWb];cases D (0<k)<;>cases D (i=0)<;>cases hz:z.1==g.1<;>simp[hz];simpa using hz) (λb=>by simp)]
  rfl) (λa=>by simp)]
 simp only[aA,id];rw[show cV (λk x a=>aUr (D (0<k)) x a) 0 p []=aJk p from rfl];show _=U (aX2 (aJk p));generalize aJk p=l at hl;cases l with
 | nil=>rfl
 | cons x xs=>
  have e1:D ((((x::xs).length:Nat):Int)>0)=X:=by simp
  have e2:D ((0:Int)<(((x::xs).length:Nat):Int))=X:=by simp
  have e3:(0:Int).toNat=0:=rfl;have e4:D ((0:Int)<=0)=X:=rfl;simp only[e1,e2,e3,e4,zZ,List.getElem?_cons_zero,aA,List.set_cons_zero];rcases xV ((x.1,(0:Int),x.2.2)::xs) with h0 | ⟨m,z,hm⟩
  .cases h0
  .have hlen:((x.1,(0:Int),x.2.2)::xs).length=(x::xs).length:=rfl;rw[bDz hm];rw[hm]at hlen ⊢;rw[aMx (by omega)];simp only[bF,aMg,aP3,zZ,cMt,aA,aWb]
def aMw{p:den tPt}(h:tot tPt p<=274877906944):gJ p=U (iA p):=by
 have hs:=aJ8 p;have sm:SmB 274877906944 tPt p:=bG h;have hl:=aR5 p;unfold gJ ixb pj4;rw[fV (λk (a:eE)=>((k:Int),a)) ((0:Int),[]) [] p (λk x a=>aUr (D (0<k)) x a) cMy (λx=>x.2.2.2.length) 274877906944 id rfl (cMo sm.1 (by decide)) (by simp only[cNd];omega) (λk x a=>aTu _ x a) (λk x a hi hx hd hw hk hb=>by
  have hxl:x.2.2.2.length<=274877906944:=(sm.2 x (cMw hx)).2.2.2.1;simp only[hd,hi,hw,zZ,aA];rw[fV (λi (b:eE)=>((i:Int),b)) ((0:Int),a) a x.2.2.2 (λi h b=>aSp (D (0<k)) x i h b) cMy (λ_=>1) 274877906944 id rfl (cMo hxl (by decide)) (by rw[cS];exact hb) (λi h b=>aWm _ x i h b) (λi g b hi2 hg hd2 hw2 hk2 hb2=>by
   have hl2:x.2.2.2.length<=549755813888:=by omega
   simp only[hd2,hi2,hw2,zZ,aA,aD,bOi hg hl2,bE8 hg hl2,bB,cB,bL,bJ,bO,bLs,bHs];rcases xV b with rfl | ⟨m,z,rfl⟩
   .rw[bHk];cases D (0<k)<;>cases D (i=0)<;>rfl
   .rw[bEm,aMx (by omega)];have e1:D (((m++[z]).length:Int)>0)=X:=by simp
    have e2:bH (0:Int) (m.length:Int) ((m++[z]).length:Int)=X:=by simp[bH];omega
    have e3:(m++[z]).take m.length=m:=by simp
    have e4:=aC (b:=24) (n:=m.length) (m:=1) (by decide) (by simp at hb2;omega);have e5:=aC (b:=24) (n:=m.length+1) (m:=1) (by decide) (by simp at hb2;omega);simp only[bF,e1,e2,e3,aMg,aP3,zZ,cMt,aA];cases D (0<k)<;>cases D (i=0)<;>cases hz:z.1==g.1<;>simp[hz,e4,e5]) (λb=>by simp[hi])]
  rfl) (λa=>by simp)]
 simp only[aA,id];rw[show cV (λk x a=>aUr (D (0<k)) x a) 0 p []=aJk p from rfl];show _=U (aX2 (aJk p));generalize aJk p=l at hl;cases l with
 | nil=>rfl
 | cons x xs=>
  have e1:D ((((x::xs).length:Nat):Int)>0)=X:=by simp
  have e2:D ((0:Int)<(((x::xs).length:Nat):Int))=X:=by simp
  have e3:(0:Int).toNat=0:=rfl;have e4:D ((0:Int)<=0)=X:=rfl;have e5:D (0<(x::xs).length)=X:=by simp
  simp only[e1,e2,e3,e4,e5,zZ,List.getElem?_cons_zero,aA,List.set_cons_zero];rcases xV ((x.1,(0:Int),x.2.2)::xs) with h0 | ⟨m,z,hm⟩
  .cases h0
  .have hlen:((x.1,(0:Int),x.2.2)::xs).length=(x::xs).length:=rfl;rw[bDz hm];rw[hm]at hlen ⊢;rw[aMx (by omega)];have e6:D (m.length<(m++[z]).length)=X:=by simp
   simp only[bF,aMg,aP3,e6,zZ,cMt,aA,aWb]
def bB1(p:den tPt):q20:=
 match (iA p).head?,(iA p).getLast? with
 | some x,U y=>(x.1,y.1)
 | _,_=>(-1,-1)
def cHi{p:den tPt}(h:tot tPt p<=274877906944):zK p=U (bB1 p):=by
 unfold zK bB1 ixb;have hl:=aB9 p;rw[aMe h,aA];generalize iA p=l at hl;rcases xV l with rfl | ⟨m,z,rfl⟩
 .rfl
 .rw[aMx (by omega)];have e1:(((m++[z]).length:Int)==0)=Y:=by simp<;>omega
  have e2:D ((0:Int)<((m++[z]).length:Int))=X:=by simp<;>omega
  have e3:D ((0:Int)<=0)=X:=rfl;rw[e1,e2,e3,bF,aMg,cP1];cases m with
  | nil=>rfl
  | cons x m=>simp
def cIz{p:den tPt}(h:tot tPt p<=274877906944):zJ p=U (bB1 p):=by
 unfold zJ bB1 ixb;have hl:=aB9 p;rw[aMw h,aA];generalize iA p=l at hl;rcases xV l with rfl | ⟨m,z,rfl⟩
 .rfl
 .rw[aMx (by omega)];have e1:(((m++[z]).length:Int)==0)=Y:=by simp<;>omega
  have e2:D ((0:Int)<((m++[z]).length:Int))=X:=by simp<;>omega
  have e3:D ((0:Int)<=0)=X:=rfl;rw[e1,e2,e3,bF,aMg,cP1];cases m with
  | nil=>rfl
  | cons x m=>simp
def pkR(p:den tPk):q3:=(p.1,p.2.1,p.2.2.1,p.2.2.2.2.1,p.2.2.2.2.2.1,p.2.2.2.2.2.2.1,p.2.2.2.2.2.2.2.1,p.2.2.2.2.2.2.2.2.1,p.2.2.2.1,p.2.2.2.2.2.2.2.2.2)
def cJx(p:den tPt):Int:=match p with
 | []=>0
 | x::_=>x.2.2.1
def mH(kind:Int)(p:den tPt)(res seq:Int)(pay:List Int):den tPk:=(kind,(bB1 p).1,(bB1 p).2,p,0,0,cJx p,res,seq,pay)
def aUm{kind res seq:Int}{p:den tPt}{pay:List Int}(h:tot tPt p<=274877906944)(hp:pay.length<=549755813888):kW kind p res seq pay=U (pkR (mH kind p res seq pay)):=by
 unfold kW zz4 zz5 zz6 zz7;rw[aMv ((bG h).mono (by decide)),aMi hp,cHi h];simp only[aA];cases p with
 | nil=>rfl
 | cons x p=>
  have e1:D (((x::p).length:Int)>0)=X:=by simp
  rw[e1];rfl
def aU6{kind res seq:Int}{p:den tPt}{pay:List Int}(h:tot tPt p<=274877906944)(hp:pay.length<=549755813888):kP kind p res seq pay=U (pkR (mH kind p res seq pay)):=by
 unfold kP zz4 zz5 zz6 zz7;rw[aMj ((bG h).mono (by decide)),cIz h,aC (b:=1) (n:=([]:List Int).length) (by decide) (by simpa using hp)];simp only[aA,zZ,cNf];cases p with
 | nil=>rfl
 | cons x p=>
  have e1:D (((x::p).length:Int)>0)=X:=by simp
  rw[e1];rfl
def aSt(k:Int):Int:=if k=1 then 4 else if k=4 then 1 else if k=2 then 3 else if k=3 then 2 else k
def cG5(k:Int):vK k=U (aSt k):=by
 unfold vK aSt
 by_cases h1:k=1
 .subst h1;rfl
 by_cases h2:k=4
 .subst h2;rfl
 by_cases h3:k=2
 .subst h3;rfl
 by_cases h4:k=3
 .subst h4;rfl
 have b1:(k==1)=Y:=by simpa using h1
 have b2:(k==4)=Y:=by simpa using h2
 have b3:(k==2)=Y:=by simpa using h3
 have b4:(k==3)=Y:=by simpa using h4
 rw[b1,b2,b3,b4,zS h1,zS h2,zS h3,zS h4];rfl
def cGi(k:Int):sB k=U (aSt k):=by
 unfold sB aSt
 by_cases h1:k=1
 .subst h1;rfl
 by_cases h2:k=4
 .subst h2;rfl
 by_cases h3:k=2
 .subst h3;rfl
 by_cases h4:k=3
 .subst h4;rfl
 have b1:(k==1)=Y:=by simpa using h1
 have b2:(k==4)=Y:=by simpa using h2
 have b3:(k==2)=Y:=by simpa using h3
 have b4:(k==3)=Y:=by simpa using h4
 rw[b1,b2,b3,b4,zS h1,zS h2,zS h3,zS h4];rfl
def kO(n:Int):Bool:=inR n 0 2147483646
def aH4(n:Int):dK n=U (kO n):=by unfold dK kO;rw[gU];rfl
def aIc(n:Int):nV n=U (kO n):=by unfold nV kO;rw[fB];rfl
def aQ2(b s:Int):Int:=if kO b&&kO s then cNi (wr (b+s)) 2147483647 else 0
def aRv(b s:Int):Int:=if kO b&&kO s then cNi (wr ((wr (b - s))+2147483647)) 2147483647 else 0
def bG6(b s:Int):xX b s=U (aQ2 b s):=by
 unfold xX aQ2;simp only[aH4,aA];cases kO b<;>cases kO s<;>rfl
def bH8(b s:Int):xZ b s=U (aQ2 b s):=by
 unfold xZ aQ2;simp only[aIc,aA];cases kO b<;>cases kO s<;>rfl
def bTk(b s:Int):aCw b s=U (aRv b s):=by
 unfold aCw aRv;simp only[aH4,aA];cases kO b<;>cases kO s<;>rfl
def bT9(b s:Int):aCr b s=U (aRv b s):=by
 unfold aCr aRv;simp only[aIc,aA];cases kO b<;>cases kO s<;>rfl
def aHl(k:Int)(b:Int)(h:den cH):Int:=if uA k then aRv b h.2.2.2.2 else aQ2 b h.2.2.2.2
def aEg(p:den tPp)(n:Nat):Int:=(p.2.2.2.take n).foldl (aHl p.1) p.2.2.1
def bAv{p:den tPp}{n:Nat}(hn:n<=p.2.2.2.length)(hl:p.2.2.2.length<=549755813888):mW p (n:Int)=U (aEg p n):=by
 unfold mW aEg zz4;have e1:inR (n:Int) 0 (p.2.2.2.length:Int)=X:=by rw[bQ];omega
 have e2:bH (0:Int) (n:Int) (p.2.2.2.length:Int)=X:=by simp[bH];omega
 rw[gU,e1,aA,e2,fL];have hlen:(p.2.2.2.take n).length<=4611686018427387904:=by rw[cNv];omega
 rw[fV (λk (b:Int)=>(b,(k:Int))) (p.2.2.1,(0:Int)) p.2.2.1 (p.2.2.2.take n) (λ_ h b=>aHl p.1 b h) (λ_=>0) (λ_=>0) 0 id rfl hlen (by rw[sum_nil];exact cM5 _) (λ_ _ _=>cM5 _) (λk x b hi hx hd hw hk hb=>by
  simp only[hd,hi,hw,zZ,aA,aMt,bTk,bG6,aHl];cases uA p.1<;>rfl) (λb=>by simp),rO (λb h=>aHl p.1 b h)]
 rfl
def bA0{p:den tPp}{n:Nat}(hn:n<=p.2.2.2.length)(hl:p.2.2.2.length<=549755813888):kQ p (n:Int)=U (aEg p n):=by
 unfold kQ aEg zz4;have e1:inR (n:Int) 0 (p.2.2.2.length:Int)=X:=by rw[bQ];omega
 have e3:(p.2.2.2.take n).length=n:=by rw[cNv];omega
 rw[fB,e1,aA];rw[fV (λk (b:Int)=>(b,(k:Int))) (p.2.2.1,(0:Int)) p.2.2.1 (p.2.2.2.take n) (λ_ h b=>aHl p.1 b h) (λ_=>0) (λ_=>0) 0 id rfl (by rw[e3];omega) (by rw[sum_nil];exact cM5 _) (λ_ _ _=>cM5 _) (λk x b hi hx hd hw hk hb=>by
  have hx':p.2.2.2[k]? =U x:=by rw[List.getElem?_take]at hx;split at hx;exact hx;cases hx
  rw[e3]at hd;simp only[hd,hw,zZ,aA,aR,hx',aM0,bT9,bH8,aHl];cases uA p.1<;>rfl) (λb=>by rw[e3];simp),rO (λb h=>aHl p.1 b h)]
 rfl
def aG6(p:den tPp):den tPp:=(aSt p.1,p.2.1,aEg p p.2.2.2.length,p.2.2.2.reverse)
def bTb{l:eU}(hl:l.length<=549755813888):mY l=U l.reverse:=by
 unfold mY pj5;have e:wr ((l.length:Int) - 1)=(l.length:Int) - 1:=rF hl;rw[e,bFo (λk (a:eU)=>(k,a)) ((l.length:Int) - 1,[]) [] l (λx a=>a++[x]) cMy (λ_=>1) 549755813888 id rfl (by omega) (by rw[cS];simpa using hl) (λx a=>by simp) (λk x a hi hx hd hw hk hb=>by
  simp only[hd,hi,hw,zZ,aA,aD,aC (b:=40) (n:=a.length) (m:=1) (by decide) hb]) (λa=>by simp),aKw (λx=>x)]
 simp
def cDg{p:den tPp}(hl:p.2.2.2.length<=549755813888):vG p=U (aG6 p):=by
 unfold vG aG6 pj4;simp only[cG5,aD,bAv (cM5 _) hl,bTb hl,aA]
def cEd{p:den tPp}(hl:p.2.2.2.length<=549755813888):vJ p=U (aG6 p):=by
 unfold vJ aG6 pj4 pj5 zz4;simp only[cGi,aD,bA0 (cM5 _) hl,bB,cB,bL,bJ,bO,aA];have e:wr ((p.2.2.2.length:Int) - 1)=(p.2.2.2.length:Int) - 1:=rF hl;rw[e,bFo (λk (a:eU)=>(k,aSt p.1,p.2.1,aEg p p.2.2.2.length,a)) ((p.2.2.2.length:Int) - 1,aSt p.1,p.2.1,aEg p p.2.2.2.length,[]) [] p.2.2.2 (λx a=>a++[x]) cMy (λ_=>1) 549755813888 (λa=>(aSt p.1,p.2.1,aEg p p.2.2.2.length,a)) rfl (by omega) (by rw[cS];simpa using hl) (λx a=>by simp) (λk x a hi hx hd hw hk hb=>by
  simp only[hd,hi,hw,zZ,aA,aD,aC (b:=40) (n:=a.length) (m:=1) (by decide) hb]) (λa=>by simp),aKw (λx=>x)]
 simp
def aPa(p:den tPt):den tPt:=p.reverse.map aG6
def bIk{p:den tPt}(h:SmB 549755813888 tPt p):jX p=U (aPa p):=by
 unfold jX aPa pj4;have e:wr ((p.length:Int) - 1)=(p.length:Int) - 1:=rF h.1;rw[e,bFo (λk (a:lPp)=>(k,a)) ((p.length:Int) - 1,[]) [] p (λx a=>a++[aG6 x]) cMy (λ_=>1) 549755813888 id rfl (by have :=h.1;omega) (by rw[cS];simpa using h.1) (λx a=>by simp) (λk x a hi hx hd hw hk hb=>by
  have hxl:=(h.2 x (cMw hx)).2.2.2.1;simp only[hd,hi,hw,zZ,aA,aD,cDg hxl,aC (b:=48) (n:=a.length) (m:=1) (by decide) hb]) (λa=>by simp),aKw aG6]
 simp
def bG2{p:den tPt}(h:SmB 549755813888 tPt p):jU p=U (aPa p):=by
 unfold jU aPa pj4;have e:wr ((p.length:Int) - 1)=(p.length:Int) - 1:=rF h.1;rw[e,bFo (λk (a:lPp)=>(k,a)) ((p.length:Int) - 1,[]) [] p (λx a=>a++[aG6 x]) cMy (λ_=>1) 549755813888 id rfl (by have :=h.1;omega) (by rw[cS];simpa using h.1) (λx a=>by simp) (λk x a hi hx hd hw hk hb=>by
  have hxl:=(h.2 x (cMw hx)).2.2.2.1;simp only[hd,hi,hw,zZ,aA,aD,cEd hxl,aC (b:=48) (n:=a.length) (m:=1) (by decide) hb]) (λa=>by simp),aKw aG6]
 simp
def bRi(p:den tPp):tot tPp (aG6 p)=tot tPp p:=by
 show tot ti _+(tot ti _+(tot ti _+tot (.sl cH) p.2.2.2.reverse))=tot ti _+(tot ti _+(tot ti _+tot (.sl cH) p.2.2.2));rw[bC3];rfl
def aYh{t:Ty}(g:den t->den t)(hg:∀x,tot t (g x)=tot t x):∀l:List (den t),tot (.sl t) (l.map g)=tot (.sl t) l
 | []=>rfl
 | x::l=>by rw[cNb,jZ,jZ,hg,aYh g hg l]
def aFq(p:den tPt):tot tPt (aPa p)=tot tPt p:=by
 show tot (.sl tPp) (p.reverse.map aG6)=tot (.sl tPp) p;rw[aYh aG6 bRi,bC3]
def aUl(pk:den tPk)(kind seq:Int)(pay:List Int):den tPk:=mH kind (aPa pk.2.2.2.1) pk.2.2.2.2.2.2.2.1 seq pay
def cDh{pk:den tPk}{kind seq:Int}{pay:List Int}(h:tot tPt pk.2.2.2.1<=274877906944)(hp:pay.length<=549755813888):aIa pk kind seq pay=U (pkR (aUl pk kind seq pay)):=by
 unfold aIa aUl aK zz7;rw[bIk ((bG h).mono (by decide)),aA,aUm (by rw[aFq];exact h) hp];rfl
def cDi{pk:den tPk}{kind seq:Int}{pay:List Int}(h:tot tPt pk.2.2.2.1<=274877906944)(hp:pay.length<=549755813888):aIf pk kind seq pay=U (pkR (aUl pk kind seq pay)):=by
 unfold aIf aUl aK zz7;rw[bG2 ((bG h).mono (by decide)),aA,aU6 (by rw[aFq];exact h) hp];rfl
def pk0:den tPk:=(0,0,0,[],0,0,0,0,0,[])
def pkB(p:den tPk)(b:Bool):q10:=(p.1,p.2.1,p.2.2.1,p.2.2.2.2.1,p.2.2.2.2.2.1,p.2.2.2.2.2.2.1,p.2.2.2.2.2.2.2.1,p.2.2.2.2.2.2.2.2.1,b,p.2.2.2.1,p.2.2.2.2.2.2.2.2.2)
def aNg(x:den tIb)(p:den tPk):Bool:=aKf x p&& !D (p.2.2.2.2.2.2.2.2.1>=x.2.2.1)
def xN(x:den tIb)(p:den tPk):den tPk:=if aNg x p then aUl p 2 p.2.2.2.2.2.2.2.2.1 [] else pk0
def cEp{x:den tIb}{p:den tPk}(h:tot tPt p.2.2.2.1<=274877906944):aB2 x p=U (pkB (xN x p) (aNg x p)):=by
 unfold aB2 xN aNg aK pj2 pj4 zz4 zz5 zz6 zz7 zz8;simp only[aD,bL3,aA,cDh (pay:=[]) h (by simp)];cases aKf x p<;>cases D (p.2.2.2.2.2.2.2.2.1>=x.2.2.1)<;>rfl
def cDl{x:den tIb}{p:den tPk}(h:tot tPt p.2.2.2.1<=274877906944):aCa x p=U (pkB (xN x p) (aNg x p)):=by
 unfold aCa xN aNg aK pj2 pj4 zz4 zz5 zz6 zz7 zz8;simp only[aD,bMh,aA,cDi (pay:=[]) h (by simp)];cases aKf x p<;>cases D (p.2.2.2.2.2.2.2.2.1>=x.2.2.1)<;>rfl
def tN(f:den tFl):Bool:=inR f.2.2.2.2.2.2.1 0 ((f.2.2.2.2.2.1.length:Int) - 1)&&inR f.2.2.2.1 0 ((f.2.2.2.2.1.length:Int) - 1)
def aHf(f:den tFl):den tPk:=
 if tN f then mH 1 ((f.2.2.2.2.2.1[f.2.2.2.2.2.2.1.toNat]?).getD []) f.2.2.1 f.2.2.2.1 ((f.2.2.2.2.1[f.2.2.2.1.toNat]?).getD []) else pk0
def bG0{t:Ty}{l:List (den t)}{d:den t}{i:Nat}(hd:tot t d=0):tot t ((l[i]?).getD d)<=tot (.sl t) l:=by
 cases h:l[i]? with
 | none=>simp[hd]
 | some x=>have :=aBf h;simp;omega
def bB6{f:den tFl}(h:tot tFl f<=274877906944):fA f=U (pkB (aHf f) (tN f)):=by
 have h0:=aO (aO (aO (aO h)));have hm:=aA7 h0;have hp:=aA7 (aO h0);have l1:=cO f.2.2.2.2.1;have l2:=cO f.2.2.2.2.2.1;unfold fA aHf tN pj2 zz4 zz5 zz6 zz7 zz8;simp only[gU,rF (n:=f.2.2.2.2.2.1.length) (by omega),rF (n:=f.2.2.2.2.1.length) (by omega),aA];cases c1:inR f.2.2.2.2.2.2.1 0 ((f.2.2.2.2.2.1.length:Int) - 1) with
 | false=>rfl
 | true=>
  cases c2:inR f.2.2.2.1 0 ((f.2.2.2.2.1.length:Int) - 1) with
  | false=>rfl
  | true=>
   rw[bQ]at c1 c2;rw[aPl c1.1 (by omega),aPl c2.1 (by omega)];have e1:f.2.2.2.2.2.1[f.2.2.2.2.2.2.1.toNat]? =U (f.2.2.2.2.2.1[f.2.2.2.2.2.2.1.toNat]'(by omega)):=cMz (by omega);have e2:f.2.2.2.2.1[f.2.2.2.1.toNat]? =U (f.2.2.2.2.1[f.2.2.2.1.toNat]'(by omega)):=cMz (by omega);have t1:=aBf e1;have t2:=aBf e2;have t3:=cO (t:=tb) (f.2.2.2.2.1[f.2.2.2.1.toNat]'(by omega));simp only[aA,cMp,zY];rw[aUm (by omega) (by have t2:1+tot (.sl tb) _<=_:=t2;omega),e1,e2];rfl
def bB7{f:den tFl}(h:tot tFl f<=274877906944):eY f=U (pkB (aHf f) (tN f)):=by
 have h0:=aO (aO (aO (aO h)));have hm:=aA7 h0;have hp:=aA7 (aO h0);have l1:=cO f.2.2.2.2.1;have l2:=cO f.2.2.2.2.2.1;unfold eY aHf tN pj2 zz4 zz5 zz6 zz7 zz8;simp only[fB,rF (n:=f.2.2.2.2.2.1.length) (by omega),rF (n:=f.2.2.2.2.1.length) (by omega),aA];cases c1:inR f.2.2.2.2.2.2.1 0 ((f.2.2.2.2.2.1.length:Int) - 1) with
 | false=>cases inR f.2.2.2.1 0 ((f.2.2.2.2.1.length:Int) - 1)<;>rfl
 | true=>
  cases c2:inR f.2.2.2.1 0 ((f.2.2.2.2.1.length:Int) - 1) with
  | false=>rfl
  | true=>
   rw[bQ]at c1 c2;rw[aPl c1.1 (by omega),aPl c2.1 (by omega)];have e1:f.2.2.2.2.2.1[f.2.2.2.2.2.2.1.toNat]? =U (f.2.2.2.2.2.1[f.2.2.2.2.2.2.1.toNat]'(by omega)):=cMz (by omega);have e2:f.2.2.2.2.1[f.2.2.2.1.toNat]? =U (f.2.2.2.2.1[f.2.2.2.1.toNat]'(by omega)):=cMz (by omega);have t1:=aBf e1;have t2:=aBf e2;have t3:=cO (t:=tb) (f.2.2.2.2.1[f.2.2.2.1.toNat]'(by omega));simp only[aA,cMp,zY];rw[aU6 (by omega) (by have t2:1+tot (.sl tb) _<=_:=t2;omega),e1,e2];rfl
def aB0(f:den tFl):Int:=if wr (f.2.2.2.2.2.2.1+1)>=(f.2.2.2.2.2.1.length:Int) then 0 else wr (f.2.2.2.2.2.2.1+1)
def aC8(f:den tFl)(c w:Int):den tFl:=(f.1,f.2.1,f.2.2.1,f.2.2.2.1,f.2.2.2.2.1,f.2.2.2.2.2.1,c,w,f.2.2.2.2.2.2.2.2)
def aOc(f:den tFl)(c w:Int):tot tFl (aC8 f c w)=tot tFl f:=rfl
def aH(f:den tFl):den tFl×den tPk×Bool:=
 if tN f then
  if f.2.2.2.2.2.2.2.1==0 then (aC8 f f.2.2.2.2.2.2.1 1,aHf f,X)
  else if f.2.2.2.2.2.2.2.1==4 then (aC8 f (aB0 f) 1,aHf (aC8 f (aB0 f) 1),tN (aC8 f (aB0 f) 1))
  else (aC8 f f.2.2.2.2.2.2.1 (wr (f.2.2.2.2.2.2.2.1+1)),pk0,Y)
 else (aC8 f f.2.2.2.2.2.2.1 0,pk0,Y)
def fU(f:den tFl)(p:den tPk)(b:Bool):q11:=
 (f.1,f.2.1,f.2.2.1,f.2.2.2.1,f.2.2.2.2.2.2.1,f.2.2.2.2.2.2.2.1,p.1,p.2.1,p.2.2.1,p.2.2.2.2.1,p.2.2.2.2.2.1,p.2.2.2.2.2.2.1,p.2.2.2.2.2.2.2.1,p.2.2.2.2.2.2.2.2.1,b,f.2.2.2.2.1,f.2.2.2.2.2.1,f.2.2.2.2.2.2.2.2,p.2.2.2.1,p.2.2.2.2.2.2.2.2.2)
def bKp(f:den tFl):vY f=U (aB0 f):=by
 unfold vY aB0 zz5 zz6
 by_cases h:wr (f.2.2.2.2.2.2.1+1)>=(f.2.2.2.2.2.1.length:Int)
 .rw[zX h,zT h];rfl
 .rw[zW h,zS h];rfl
def cDb{f:den tFl}(h:tot tFl f<=274877906944):aBm f=U (fU (aH f).1 (aH f).2.1 (aH f).2.2):=by
 unfold aBm aH pj2 pj9 aS bA bZ dR oC zz4 zz5 zz6 zz7 zz8 zz9;have e:fA (f.1,f.2.1,f.2.2.1,f.2.2.2.1,f.2.2.2.2.1,f.2.2.2.2.2.1,aB0 f,1,f.2.2.2.2.2.2.2.2)=U (pkB (aHf (aC8 f (aB0 f) 1)) (tN (aC8 f (aB0 f) 1))):=bB6 (f:=aC8 f (aB0 f) 1) h;simp only[aD,aMz ((bG h).mono (by decide)),bB6 h,bKp,aA,bB,cB,bL,bJ,bO,tP,e];cases c1:tN f with
 | false=>simp only[pkB,cMx,zZ];rfl
 | true=>
  simp only[pkB,cMp,zY,zV];cases c2:f.2.2.2.2.2.2.2.1==0 with
  | true=>rfl
  | false=>
   cases c3:f.2.2.2.2.2.2.2.1==4 with
   | true=>rfl
   | false=>rfl
def bVp{c:Int}{n:Nat}(h0:0<=c)(h1:c<=(n:Int) - 1)(hn:n<=549755813888):inR c 0 (wr ((n:Int) - 2))= !D (wr (c+1)>=(n:Int)):=by
 have e1:wr ((n:Int) - 2)=(n:Int) - 2:=wri (by omega) (by omega);have e2:wr (c+1)=c+1:=wri (by omega) (by omega);rw[e1,e2,cNe,bQ];simp;omega
def bTh{f:den tFl}(h:SmB 549755813888 tFl f)(hs:inR f.2.2.2.2.2.2.1 0 ((f.2.2.2.2.2.1.length:Int) - 1)=X):aAe f=U (tP (aC8 f (aB0 f) f.2.2.2.2.2.2.2.1)):=by
 unfold aAe aB0 pj3 pj9 zz4 zz5 zz6;have hl:=h.2.2.2.2.2.1.1;rw[bQ]at hs;simp only[aD,aJ5 h,fB,bVp hs.1 hs.2 hl,aA,tP]
 by_cases hc:wr (f.2.2.2.2.2.2.1+1)>=(f.2.2.2.2.2.1.length:Int)
 .rw[zX hc,zT hc];rfl
 .rw[zW hc,zS hc];rfl
def cE1{f:den tFl}(h:tot tFl f<=274877906944):aCe f=U (fU (aH f).1 (aH f).2.1 (aH f).2.2):=by
 unfold aCe aH pj2 pj9 aS bA bZ dR oC zz4 zz5 zz6 zz7 zz8 zz9;have sm:SmB 549755813888 tFl f:=(bG h).mono (by decide);have e:eY (f.1,f.2.1,f.2.2.1,f.2.2.2.1,f.2.2.2.2.1,f.2.2.2.2.2.1,aB0 f,1,f.2.2.2.2.2.2.2.2)=U (pkB (aHf (aC8 f (aB0 f) 1)) (tN (aC8 f (aB0 f) 1))):=bB7 (f:=aC8 f (aB0 f) 1) h;simp only[aD,aJ5 sm,bB7 h,aA,bB,cB,bL,bJ,bO];cases c1:tN f with
 | false=>simp only[pkB,tP,cMx,zZ];rfl
 | true=>
  have hs:inR f.2.2.2.2.2.2.1 0 ((f.2.2.2.2.2.1.length:Int) - 1)=X:=by
   unfold tN at c1;simp only[cMu]at c1;exact c1.1
  rw[bTh sm hs];simp only[pkB,tP,aC8,aA,cMp,zY,zV,e];cases c2:f.2.2.2.2.2.2.2.1==0 with
  | true=>rfl
  | false=>
   cases c3:f.2.2.2.2.2.2.2.1==4 with
   | true=>rfl
   | false=>rfl
def dP(p:den tPk):Bool:=inR p.2.2.2.2.1 0 ((p.2.2.2.1.length:Int) - 1)&&inR p.2.2.2.2.2.1 0 (((((p.2.2.2.1[p.2.2.2.2.1.toNat]?).getD (0,0,0,[])).2.2.2.length:Nat):Int) - 1)
def fP(p:den tPk):Int:=if dP p then ((((p.2.2.2.1[p.2.2.2.2.1.toNat]?).getD (0,0,0,[])).2.2.2[p.2.2.2.2.2.1.toNat]?).getD (0,0,0,0,0)).1 else -1
def aI9{p:den tPk}(h:dP p=X):∃(i j:Nat) (x:den tPp) (y:den cH),p.2.2.2.2.1=(i:Int)/\p.2.2.2.2.2.1=(j:Int)/\p.2.2.2.1[i]? =U x/\x.2.2.2[j]? =U y/\fP p=y.1:=by
 have h':=h;unfold dP at h';simp only[cMu,bQ]at h';obtain⟨⟨h1,h2⟩,h3,h4⟩:=h';obtain⟨x,hx⟩:=aF2 h1 h2;rw[hx,cNh]at h4;obtain⟨y,hy⟩:=aF2 h3 h4;refine⟨p.2.2.2.2.1.toNat,p.2.2.2.2.2.1.toNat,x,y,(cO6 h1).symm,(cO6 h3).symm,hx,hy,?_⟩;unfold fP;rw[h,zT rfl,hx,cNh,hy,cNh]
def aFt{p:den tPk}(c:dP p=Y):fP p= -1:=by unfold fP;rw[c];rfl
def cAr{p:den tPk}(h:SmB 549755813888 tPk p):aCq p=U (dP p):=by
 unfold aCq dP zz4 zz5;have l1:=h.2.2.2.1.1;rw[gU,rF l1,aA];cases c1:inR p.2.2.2.2.1 0 ((p.2.2.2.1.length:Int) - 1) with
 | false=>rfl
 | true=>
  rw[bQ]at c1;obtain⟨x,hx⟩:=aF2 c1.1 c1.2;rw[aI7 c1.1 hx,hx];have l2:=(h.2.2.2.1.2 _ (cMw hx)).2.2.2.1;simp only[zZ,aA,gU,rF l2,cNh,cM1]
def aMl{p:den tPk}(h:SmB 549755813888 tPk p):fY p=U (fP p):=by
 unfold fY aK zz4 zz5;simp only[aD,cAr h,aA];cases c:dP p with
 | false=>rw[aFt c];rfl
 | true=>
  obtain⟨i,j,x,y,h1,h2,h3,h4,h5⟩:=aI9 c;rw[h1,h2,h5];simp only[cMp,zY,aR,h3,h4,aA]
def aMy{p:den tPk}(h:SmB 549755813888 tPk p):gA p=U (fP p):=by
 unfold gA zz4 zz5;have l1:=h.2.2.2.1.1;rw[fB,rF l1,aA];cases c1:inR p.2.2.2.2.1 0 ((p.2.2.2.1.length:Int) - 1) with
 | false=>rw[aFt (by unfold dP;rw[c1];rfl)];rfl
 | true=>
  have c1':=c1;rw[bQ]at c1';obtain⟨x,hx⟩:=aF2 c1'.1 c1'.2;rw[aI7 c1'.1 hx];have l2:=(h.2.2.2.1.2 _ (cMw hx)).2.2.2.1;simp only[cMp,zY,aA,fB,rF l2];cases c2:inR p.2.2.2.2.2.1 0 ((x.2.2.2.length:Int) - 1) with
  | false=>rw[aFt (by unfold dP;rw[c1,hx,cNh,c2];rfl)];rfl
  | true=>
   have c:dP p=X:=by unfold dP;rw[c1,hx,cNh,c2];rfl
   rw[bQ]at c2;obtain⟨y,hy⟩:=aF2 c2.1 c2.2;rw[aI7 c2.1 hy];unfold fP;rw[c,zT rfl,hx,cNh,hy,cNh];rfl
def aPv(p:den tPt)(i j:Nat):den tPt:=
 match p[i]? with
 | some x=>p.take i++[(x.1,x.2.1,x.2.2.1,x.2.2.2.take (j+1))]
 | none=>[]
def yF(p:den tPk):den tPt:=if fP p<0 then [] else aPv p.2.2.2.1 p.2.2.2.2.1.toNat p.2.2.2.2.2.1.toNat
def bGc{p:den tPk}(h:SmB 549755813888 tPk p):kG p=U (yF p):=by
 unfold kG yF aK zz4 zz5;simp only[aD,aMl h,aA]
 by_cases hc:fP p<0
 .rw[zX hc,zZ,zT hc]
 .rw[zW hc,zY,zS hc];cases c:dP p with
  | false=>rw[aFt c]at hc;exact absurd (by decide) hc
  | true=>
   obtain⟨i,j,x,y,h1,h2,h3,h4,h5⟩:=aI9 c;have l1:=h.2.2.2.1.1;have l2:=(h.2.2.2.1.2 _ (cMw h3)).2.2.2.1;have hi:=(cM0.1 h3).1;have hj:=(cM0.1 h4).1;have e1:wr ((i:Int)+1)=((i+1:Nat):Int):=by have :wr ((i:Int)+1)=(i:Int)+1:=wri (by omega) (by omega);rw[this];rfl
   have e2:wr ((j:Int)+1)=((j+1:Nat):Int):=by have :wr ((j:Int)+1)=(j:Int)+1:=wri (by omega) (by omega);rw[this];rfl
   have e3:bH (0:Int) ((i+1:Nat):Int) (p.2.2.2.1.length:Int)=X:=by simp[bH];omega
   have e4:bH (0:Int) ((j+1:Nat):Int) (x.2.2.2.length:Int)=X:=by simp[bH];omega
   have e5:p.2.2.2.1.take (i+1)=p.2.2.2.1.take i++[x]:=aUc h3;have e6:(p.2.2.2.1.take i).length=i:=by rw[cNv];omega
   rw[h1,h2,e1,e2,aMv h.2.2.2.1,aA,e3,zZ];simp only[cMt,e5];have e7:D ((i:Int)<((p.2.2.2.1.take i++[x]).length:Int))=X:=by simp;omega
   have e8:(p.2.2.2.1.take i++[x])[i]? =U x:=by rw[List.getElem?_append_right (by omega),e6];simp
   have e9:∀z,(p.2.2.2.1.take i++[x]).set i z=p.2.2.2.1.take i++[z]:=λz=>by rw[List.set_append_right _ _ (by omega),e6];simp
   simp only[bF,e7,e8,e4,e9,zZ,aA,fL,decide_true];unfold aPv;rw[h3]
def bGs{p:den tPk}(h:SmB 549755813888 tPk p):kF p=U (yF p):=by
 unfold kF yF aK pj4 zz4 zz5;simp only[aD,aMy h,aA]
 by_cases hc:fP p<0
 .rw[zX hc,zZ,zT hc]
 .rw[zW hc,zY,zS hc];cases c:dP p with
  | false=>rw[aFt c]at hc;exact absurd (by decide) hc
  | true=>
   obtain⟨i,j,x,y,h1,h2,h3,h4,h5⟩:=aI9 c;have l1:=h.2.2.2.1.1;have hi:=(cM0.1 h3).1;have hj:=(cM0.1 h4).1;have l2:=(h.2.2.2.1.2 _ (cMw h3)).2.2.2.1;have e2:wr ((j:Int)+1)=((j+1:Nat):Int):=by have :wr ((j:Int)+1)=(j:Int)+1:=wri (by omega) (by omega);rw[this];rfl
   have e4:bH (0:Int) ((j+1:Nat):Int) (x.2.2.2.length:Int)=X:=by simp[bH];omega
   have e5:p.2.2.2.1.take (i+1)=p.2.2.2.1.take i++[x]:=aUc h3;have e6:(p.2.2.2.1.take (i+1)).length=i+1:=by rw[cNv];omega
   rw[h1,h2,e2]
   let cutX:Nat->den tPp->den tPp:=λk z=>if k=i then (z.1,z.2.1,z.2.2.1,z.2.2.2.take (j+1)) else z
   rw[fV (λk (a:lPp)=>((k:Int),a)) ((0:Int),[]) [] (p.2.2.2.1.take (i+1)) (λk z a=>a++[cutX k z]) cMy (λ_=>1) 549755813888 id rfl (by omega) (by rw[cS];simp;omega) (λk z a=>by simp) (λk z a hz hx hd hw hk hb=>by
    rw[e6]at hd hk;have hz':=(aRj hx).1;have hd':D ((k:Int)<=(i:Int))=X:=by simp;omega
    have sz:=h.2.2.2.1.2 _ (cMw hz');simp only[hd',hw,zZ,aA,aR,hz',aD,bGw sz]
    by_cases hki:k=i
    .subst hki;rw[h3]at hz';injection hz' with hz';subst hz';have e7:((k:Int)==(k:Int))=X:=by simp
     simp only[e7,zZ,e4,aA,fL,aC (b:=48) (n:=a.length) (m:=1) (by decide) hb,cutX,zV]
    .have e7:((k:Int)==(i:Int))=Y:=by simp;omega
     simp only[e7,zY,aA,aC (b:=48) (n:=a.length) (m:=1) (by decide) hb,zZ,cutX,zS hki]) (λa=>by
    have e10:D (((i+1:Nat):Int)<=(i:Int))=Y:=by simp<;>omega
    rw[e6];simp only[e10,zY];rfl)]
   have key:∀(l:lPp) (k:Nat) (a:lPp),k+l.length<=i->cV (λk z a=>a++[cutX k z]) k l a=a++l:=by
    intro l
    induction l with
    | nil=>intro k a _;simp[cV]
    | cons z l ih=>
     intro k a hk;simp only[cM8]at hk;simp only[cV];rw[ih (k+1) _ (by omega)];have :cutX k z=z:=zS (by omega);rw[this];simp
   have fa:∀(l:lPp) (z:den tPp) (k:Nat) (a:lPp),cV (λk z a=>a++[cutX k z]) k (l++[z]) a=cV (λk z a=>a++[cutX k z]) k l a++[cutX (k+l.length) z]:=by
    intro l
    induction l with
    | nil=>intro z k a;rfl
    | cons y l ih=>
     intro z k a;simp only[List.cons_append,cV,cM8];rw[ih];congr 3;omega
   have e8:(p.2.2.2.1.take i).length=i:=by rw[cNv];omega
   rw[e5,fa,key _ 0 [] (by omega),e8];have :cutX (0+i) x=(x.1,x.2.1,x.2.2.1,x.2.2.2.take (j+1)):=zT (by omega);rw[this];unfold aPv;rw[cMt,cMt,h3];rfl
def bJo(p:den tPt)(i j:Nat):tot tPt (aPv p i j)<=tot tPt p:=by
 unfold aPv;cases h:p[i]? with
 | none=>exact cM7 _
 | some x=>
  have h1:tot tPt (p.take (i+1))<=tot tPt p:=aXe (t:=tPp) p (i+1);rw[aUc h]at h1;have h2:tot (.sl tPp) (p.take i++[x])<=tot (.sl tPp) p:=h1;show tot (.sl tPp) (p.take i++[(x.1,x.2.1,x.2.2.1,x.2.2.2.take (j+1))])<=tot (.sl tPp) p;rw[vV,aH8]at h2 ⊢;have h3:tot tPp (x.1,x.2.1,x.2.2.1,x.2.2.2.take (j+1))<=tot tPp x:=by
   have :=aXe (t:=cH) x.2.2.2 (j+1);show 0+(0+(0+tot (.sl cH) (x.2.2.2.take (j+1))))<=0+(0+(0+tot (.sl cH) x.2.2.2));omega
  omega
def aI2(p:den tPk):tot tPt (yF p)<=tot tPt p.2.2.2.1:=by
 unfold yF;split
 .exact cM7 _
 .exact bJo _ _ _
def vi:Nat->Nat->List Int
 | 0,n=>[(n:Int)]
 | k+1,n=>if n<128 then [(n:Int)] else (((n % 128+128:Nat):Int))::vi k (n / 128)
def bRu:∀(k n:Nat),(vi k n).length<=k+1
 | 0,n=>by simp[vi]
 | k+1,n=>by
  unfold vi;split
  .simp
  .have :=bRu k (n / 128);simp only[cM8];omega
def aMk{n:Nat}(h:n<256):IntKind.wrap .u8 (n:Int)=(n:Int):=by
 simp only[IntKind.wrap,IntKind.signed,IntKind.bits];simp;omega
def cFn:∀(k n:Nat) (out:List Int),n<128 ^ (k+1)->out.length+k+1<=549755813888->n<9223372036854775808->(@Option.bind q27 (lI) (@aB q27 q27 (λ(s4:Int×lI)=>cond (D (s4.1>=(128:Int))) (cond (aF 1 s4.2.length 1) (U (cMn (wr (Int.tdiv s4.1 (128:Int)),s4.2++[IntKind.wrap .u8 (wr ((cNi s4.1 (128:Int))+(128:Int)))]))) W) (U (cMm (s4.1,s4.2)))) ((n:Int),out)) λ(s5:Int×lI)=>cond (aF 1 s5.2.length 1) (U (s5.2++[IntKind.wrap .u8 s5.1])) W)=U (out++vi k n)
 | 0,n,out,hn,ho,hb=>by
  have hn:n<128:=by simpa using hn
  have e1:D ((n:Int)>=128)=Y:=by simp;omega
  rw[aI (r:=((n:Int),out)) (by simp only[e1,zY]),aA];simp only[aC (b:=1) (n:=out.length) (m:=1) (by decide) (by omega),zZ,aMk (n:=n) (by omega),vi]
 | k+1,n,out,hn,ho,hb=>by
  by_cases h:n<128
  .have e1:D ((n:Int)>=128)=Y:=by simp;omega
   rw[aI (r:=((n:Int),out)) (by simp only[e1,zY]),aA];simp only[aC (b:=1) (n:=out.length) (m:=1) (by decide) (by omega),zZ,aMk (n:=n) (by omega),vi,zT h]
  .have e1:D ((n:Int)>=128)=X:=by simp;omega
   have hd:n / 128<128 ^ (k+1):=by rw[Nat.div_lt_iff_lt_mul (by decide)];rw[Nat.pow_succ]at hn;exact hn
   have e2:Int.tdiv (n:Int) 128=((n / 128:Nat):Int):=rfl;have e3:cNi (n:Int) 128=((n % 128:Nat):Int):=rfl;have e4:wr (((n % 128:Nat):Int)+128)=((n % 128+128:Nat):Int):=by
    have :wr (((n % 128:Nat):Int)+128)=((n % 128:Nat):Int)+128:=wri (by omega) (by omega);rw[this];rfl
   have e5:wr ((n / 128:Nat):Int)=((n / 128:Nat):Int):=wri (by omega) (by omega);rw[aP (s':=(((n / 128:Nat):Int),out++[((n % 128+128:Nat):Int)])) (by
    simp only[e1,zZ,aC (b:=1) (n:=out.length) (m:=1) (by decide) (by omega),e2,e3,e4,e5,aMk (n:=n % 128+128) (by omega)])]
   rw[cFn k (n / 128) _ hd (by simp;omega) (by omega)];simp only[vi,zS h,cNp,cPq]
def bJc{n:Nat}(h:n<9223372036854775808):aLg .i64 (n:Int) 127=((n % 128:Nat):Int):=by
 have e:(BitVec.ofInt 64 (n:Int) &&& BitVec.ofInt 64 127).toNat=n % 128:=by
  rw[BitVec.toNat_and];have e1:(BitVec.ofInt 64 (n:Int)).toNat=n:=by simp;omega
  have e2:(BitVec.ofInt 64 127).toNat=2 ^ 7 - 1:=by decide
  rw[e1,e2,Nat.and_two_pow_sub_one_eq_mod]
 unfold aLg;show IntKind.i64.wrap (((BitVec.ofInt 64 (n:Int) &&& BitVec.ofInt 64 127).toNat:Nat):Int)=_;rw[e];exact wri (by omega) (by omega)
def cFf{n:Nat}(h:n<128):bOr .i64 (n:Int) 128=((n+128:Nat):Int):=by
 have e:(BitVec.ofInt 64 (n:Int) ||| BitVec.ofInt 64 128).toNat=n+128:=by
  rw[BitVec.toNat_or];have e1:(BitVec.ofInt 64 (n:Int)).toNat=n:=by simp;omega
  have e2:(BitVec.ofInt 64 128).toNat=128:=by decide
  rw[e1,e2,Nat.or_comm];have :=Nat.two_pow_add_eq_or_of_lt (i:=7) (b:=n) h 1;simp only[Nat.mul_one]at this;rw[<- this];omega
 unfold bOr;show IntKind.i64.wrap (((BitVec.ofInt 64 (n:Int) ||| BitVec.ofInt 64 128).toNat:Nat):Int)=_;rw[e];exact wri (by omega) (by omega)
def cKr(n:Nat):shr .i64 (n:Int) 7=((n / 128:Nat):Int):=by
 unfold shr;show Int.fdiv (n:Int) (2 ^ 7)=_;rw[Int.fdiv_eq_ediv_of_nonneg _ (by decide)];rfl
def cIw:∀(k n:Nat) (out:List Int),n<128 ^ (k+1)->out.length+k+1<=549755813888->n<9223372036854775808->(@Option.bind q27 (lI) (@aB q27 q27 (λ(s3:Int×lI)=>cond (D (s3.1>(127:Int))) (cond (aF 1 s3.2.length 1) (U (cMn (shr .i64 s3.1 (7:Int),s3.2++[IntKind.wrap .u8 (bOr .i64 (aLg .i64 s3.1 (127:Int)) (128:Int))]))) W) (U (cMm (s3.1,s3.2)))) ((n:Int),out)) λ(s4:Int×lI)=>cond (aF 1 s4.2.length 1) (U (s4.2++[IntKind.wrap .u8 s4.1])) W)=U (out++vi k n)
 | 0,n,out,hn,ho,hb=>by
  have hn:n<128:=by simpa using hn
  have e1:D ((n:Int)>127)=Y:=by simp;omega
  rw[aI (r:=((n:Int),out)) (by simp only[e1,zY]),aA];simp only[aC (b:=1) (n:=out.length) (m:=1) (by decide) (by omega),zZ,aMk (n:=n) (by omega),vi]
 | k+1,n,out,hn,ho,hb=>by
  by_cases h:n<128
  .have e1:D ((n:Int)>127)=Y:=by simp;omega
   rw[aI (r:=((n:Int),out)) (by simp only[e1,zY]),aA];simp only[aC (b:=1) (n:=out.length) (m:=1) (by decide) (by omega),zZ,aMk (n:=n) (by omega),vi,zT h]
  .have e1:D ((n:Int)>127)=X:=by simp;omega
   have hd:n / 128<128 ^ (k+1):=by rw[Nat.div_lt_iff_lt_mul (by decide)];rw[Nat.pow_succ]at hn;exact hn
   rw[aP (s':=(((n / 128:Nat):Int),out++[((n % 128+128:Nat):Int)])) (by
    simp only[e1,zZ,aC (b:=1) (n:=out.length) (m:=1) (by decide) (by omega),cKr,bJc hb,cFf (n:=n % 128) (by omega),aMk (n:=n % 128+128) (by omega)])]
   rw[cIw k (n / 128) _ hd (by simp;omega) (by omega)];simp only[vi,zS h,cNp,cPq]
def aH0(b:List Int)(n:Int):List Int:=if inR n 0 1000000000000 then b++vi 5 n.toNat else b
def aW1(b:List Int)(n:Int):(aH0 b n).length<=b.length+6:=by
 unfold aH0;split
 .have :=bRu 5 n.toNat;rw[cNa];omega
 .omega
def cHe{b:List Int}{n:Int}(h:b.length+6<=549755813888):sS b n=U (aH0 b n):=by
 unfold sS aH0 pj2;rw[aMi (by omega),gU];cases c:inR n 0 1000000000000 with
 | false=>rfl
 | true=>
  rw[bQ]at c;obtain⟨m,rfl⟩:=cO3 c.1;have :=cFn 5 m b (by simp only[show (128:Nat) ^ (5+1)=4398046511104 from by decide];omega) (by omega) (by omega);exact this
def cGd{b:List Int}{n:Int}(h:b.length+6<=549755813888):sO b n=U (aH0 b n):=by
 unfold sO aH0 pj2;rw[aC (b:=1) (n:=([]:List Int).length) (by decide) (by simp;omega),fB];cases c:inR n 0 1000000000000 with
 | false=>rfl
 | true=>
  rw[bQ]at c;obtain⟨m,rfl⟩:=cO3 c.1;have :=cIw 5 m b (by simp only[show (128:Nat) ^ (5+1)=4398046511104 from by decide];omega) (by omega) (by omega);exact this
def aRx(b l:List Int):List Int:=l.foldl aH0 b
def bX6(b l:List Int):(aRx b l).length<=b.length+6 * l.length:=by
 unfold aRx
 induction l generalizing b with
 | nil=>simp
 | cons x l ih=>
  have h1:=ih (aH0 b x);have h2:=aW1 b x;simp only[cOf,cM8];omega
def bL8{α:Type}(l:List α):(l.map λ_=>6).sum=6 * l.length:=by
 induction l with
 | nil=>rfl
 | cons x l ih=>rw[cNb,cNy,ih,cM8];omega
def cH2{b l:List Int}(h:b.length+6 * l.length<=549755813888):xG b l=U (aRx b l):=by
 unfold xG aRx;rw[fV (λk (a:List Int)=>(a,(k:Int))) (b,(0:Int)) b l (λ_ x a=>aH0 a x) cMy (λ_=>6) 549755813888 id rfl (by omega) (by rw[bL8];exact h) (λ_ x a=>aW1 a x) (λk x a hi hx hd hw hk hb=>by
  simp only[hd,hi,hw,zZ,aA,cHe (b:=a) (n:=x) hb]) (λa=>by simp),rO aH0]
 rfl
def bSe{l:List Int}(h:6 * l.length<=549755813888):wV l=U (aRx [] l):=by
 unfold wV;rw[cH2 (by simpa using h)];rfl
def bR3{l:List Int}(h:6 * l.length<=549755813888):wO l=U (aRx [] l):=by
 unfold wO aRx;rw[fV (λk (a:List Int)=>((k:Int),a)) ((0:Int),[]) [] l (λ_ x a=>aH0 a x) cMy (λ_=>6) 549755813888 id rfl (by omega) (by rw[bL8];simpa using h) (λ_ x a=>aW1 a x) (λk x a hi hx hd hw hk hb=>by
  simp only[hd,hi,hw,zZ,aA,cGd (b:=a) (n:=x) hb]) (λa=>by simp),rO aH0]
 rfl
def aNa(x:den tRv):List Int:=if iI x then aRx [] [x.1,x.2.1,x.2.2] else []
def aWn(x:den tRv):(aNa x).length<=18:=by
 unfold aNa;split
 .exact bX6 [] [x.1,x.2.1,x.2.2]
 .simp
def cIf(x:den tRv):lJ x=U (aNa x):=by
 unfold lJ aNa pj3;rw[bSe (l:=[x.1,x.2.1,x.2.2]) (by simp)];simp only[aD,aJ6,aA];cases iI x<;>rfl
def cHx(x:den tRv):lW x=U (aNa x):=by
 unfold lW aNa pj3;rw[bR3 (l:=[x.1,x.2.1,x.2.2]) (by simp)];simp only[aD,aJm,aA];cases iI x<;>rfl
def dC(r now d:Int)(p:den tPk):den tPk:=mH 3 (aPa (yF p)) p.2.2.2.2.2.2.2.1 p.2.2.2.2.2.2.2.2.1 (aNa (r,d,if 1000000<wr (now+10) then 1000000 else wr (now+10)))
def cD6{t:den tTo}{r now d:Int}{p:den tPk}(h:tot tPk p<=274877906944):mB t r now d p=U (pkR (dC r now d p)):=by
 have h1:tot tPt p.2.2.2.1<=274877906944:=aA7 (aO (aO (aO h)));have h2:=aI2 p;have sm:SmB 549755813888 tPk p:=(bG h).mono (by decide);have h3:=aWn (r,d,if 1000000<wr (now+10) then 1000000 else wr (now+10));unfold mB dC aK zz7 zz8;simp only[aD,bOc,aA,bGc sm];rw[bIk ((bG (cMo h2 h1)).mono (by decide)),aA,cIf,aA,aUm (by rw[aFq];omega) (by omega)];rfl
def cDt{t:den tTo}{r now d:Int}{p:den tPk}(h:tot tPk p<=274877906944):iY t r now d p=U (pkR (dC r now d p)):=by
 have h1:tot tPt p.2.2.2.1<=274877906944:=aA7 (aO (aO (aO h)));have h2:=aI2 p;have sm:SmB 549755813888 tPk p:=(bG h).mono (by decide);have h3:=aWn (r,d,if 1000000<wr (now+10) then 1000000 else wr (now+10));unfold iY dC aK zz7 zz8;simp only[aD,bO9,aA,bGs sm];rw[bG2 ((bG (cMo h2 h1)).mono (by decide)),aA,cHx,aA,aU6 (by rw[aFq];omega) (by omega)];rfl
def aKz{kind res seq:Int}{p:den tPt}{pay:List Int}:tot tPk (mH kind p res seq pay)=tot tPt p+tot (.sl tb) pay:=by
 show 0+(0+(0+(tot tPt p+(0+(0+(0+(0+(0+tot (.sl tb) pay))))))))=_;omega
def bD2(f:den tFl):tot tPk (aHf f)<=tot tFl f:=by
 unfold aHf;split
 .rw[aKz];have h1:=bG0 (t:=tPt) (l:=f.2.2.2.2.2.1) (d:=[]) (i:=f.2.2.2.2.2.2.1.toNat) rfl;have h2:=bG0 (t:= .sl tb) (l:=f.2.2.2.2.1) (d:=[]) (i:=f.2.2.2.1.toNat) rfl;show _<=0+(0+(0+(0+(tot (.sl (.sl tb)) f.2.2.2.2.1+(tot (.sl tPt) f.2.2.2.2.2.1+(0+(0+tot (.sl tRv) f.2.2.2.2.2.2.2.2)))))));omega
 .exact cM7 _
def aU0{p:den tPk}{N:Nat}(h:tot tPk p<=N):tot (.sl tPp) p.2.2.2.1<=N/\tot (.sl tb) p.2.2.2.2.2.2.2.2.2<=N:=
 ⟨aA7 (aO (aO (aO h))),aO (aO (aO (aO (aO (aO (aO (aO (aO h))))))))⟩
def bEr(x:den tIb)(p:den tPk):tot tPk (xN x p)<=tot tPk p:=by
 unfold xN;split
 .unfold aUl;rw[aKz,aFq];have h:=(aU0 (cM5 (tot tPk p))).1;show tot (.sl tPp) p.2.2.2.1+0<=_;omega
 .exact cM7 _
def bEh(f:den tFl):tot tFl (aH f).1=tot tFl f/\tot tPk (aH f).2.1<=tot tFl f:=by
 unfold aH;split
 .split
  .exact⟨aOc f _ _,bD2 f⟩
  .split
   .exact⟨aOc f _ _,bD2 (aC8 f (aB0 f) 1)⟩
   .exact⟨aOc f _ _,cM7 _⟩
 .exact⟨aOc f _ _,cM7 _⟩
def aLy{f:den tFl}{N:Nat}(h:tot tFl f<=N):tot (.sl tMs) f.2.2.2.2.1<=N/\tot (.sl tPt) f.2.2.2.2.2.1<=N/\tot (.sl tRv) f.2.2.2.2.2.2.2.2<=N:=by
 have h0:=aO (aO (aO (aO h)));exact⟨aA7 h0,aA7 (aO h0),aO (aO (aO (aO h0)))⟩
def bC6(r now d:Int)(p:den tPk):tot tPk (dC r now d p)<=tot tPk p+18:=by
 unfold dC;rw[aKz,aFq];have h1:=aI2 p;have h2:=(aU0 (cM5 (tot tPk p))).1;have h2:tot tPt p.2.2.2.1<=tot tPk p:=h2;have h3:=aWn (r,d,if 1000000<wr (now+10) then 1000000 else wr (now+10));have e:tot (.sl tb) (aNa (r,d,if 1000000<wr (now+10) then 1000000 else wr (now+10)))=(aNa (r,d,if 1000000<wr (now+10) then 1000000 else wr (now+10))).length:=qS rfl;rw[e];omega
def aO6{α β:Type}(p:α->β->Bool):List α->List β->Bool
 | x::xs,y::ys=>p x y&&aO6 p xs ys
 | _,_=>X
def aQz{α β R:Type}{a:List α}{b:List β}(p:α->β->Bool){step:Int->Option (Int⊕(Unit⊕R))}(ρ:R)(hlen:a.length=b.length)(hl:a.length<=4611686018427387904)
  (h:∀(k:Nat) (x:α) (y:β),x∈a->y∈b->idx a (k:Int)=U x->idx b (k:Int)=U y->D ((k:Int)<(a.length:Int))=X->IntKind.i64.wrap ((k:Int)+1)=((k+1:Nat):Int)->step (k:Int)=U (cond (p x y) (.inl ((k+1:Nat):Int)) (.inr (.inr ρ))))
  (he:step (a.length:Int)=U (.inr (.inl ()))):aB step (0:Int)=U (cond (aO6 p a b) (.inl ()) (.inr ρ)):=by
 have key:∀(ra pa:List α) (rb pb:List β),pa++ra=a->pb++rb=b->pa.length=pb.length->aB step (pa.length:Int)=U (cond (aO6 p ra rb) (.inl ()) (.inr ρ)):=by
  intro ra
  induction ra with
  | nil=>intro pa rb pb h1 _ _;rw[List.append_nil]at h1;subst h1;exact aI he
  | cons x ra ih=>
   intro pa rb pb h1 h2 h3;cases rb with
   | nil=>exfalso;have e1:=congrArg cMy h1;have e2:=congrArg cMy h2;simp at e1 e2;omega
   | cons y rb=>
    have hx:a[pa.length]? =U x:=by rw[<- h1];simp
    have hy:b[pa.length]? =U y:=by rw[<- h2,h3];simp
    have hlt:pa.length<a.length:=by rw[<- h1];simp
    have hs:=h pa.length x y (cMw hx) (cMw hy) (by rw[aR];exact hx) (by rw[aR];exact hy) (by simpa using hlt) (by rw[wri (by omega) (by omega)];omega);simp only[aO6];cases hp:p x y with
    | true=>rw[hp]at hs;rw[aP hs];have :=ih (pa++[x]) rb (pb++[y]) (by simpa using h1) (by simpa using h2) (by simp[h3]);simpa using this
    | false=>rw[hp]at hs;exact aI hs
 exact key a [] b [] rfl rfl rfl
def aBh{α:Type}(b:Bool)(x y:α):cond b (U x) (U y)=U (cond b x y):=by cases b<;>rfl
def aZc{β:Type}(c:Bool)(f:Unit->Option β)(r:β):Sum.elim f U (cond c (cMn ()) (cMm r))=cond c (f ()) (U r):=by cases c<;>rfl
def aY1{α β:Type}(a:List α)(b:List β):((a.length:Int) != (b.length:Int))= !D (a.length=b.length):=by
 rw[cNe];simp;omega
def aUj{α:Type}{p:Prop}[Decidable p]{x y z:α}(h:p->y=z):cond (!decide p) x y=cond (!decide p) x z:=by
 by_cases hp:p
 .rw[h hp]
 .simp[hp]
noncomputable def aUv(a b:eU):Bool:=cond (!D (a.length=b.length)) Y (cond (aO6 (λx y=>(x.1==y.1)&&((x.2.1==y.2.1)&&((x.2.2.1==y.2.2.1)&&((x.2.2.2.1==y.2.2.2.1)&&((x.2.2.2.2==y.2.2.2.2)&&X))))) a b) X Y)
def bKs{a b:eU}(ha:a.length<=549755813888):kT a b=U (aUv a b):=by
 unfold kT aUv zz4;rw[aY1];rw[aUj (z:=U (cond (aO6 (λx y=>(x.1==y.1)&&((x.2.1==y.2.1)&&((x.2.2.1==y.2.2.1)&&((x.2.2.2.1==y.2.2.2.1)&&((x.2.2.2.2==y.2.2.2.2)&&X))))) a b) X Y)) (λhlen=>by
  rw[aQz (a:=a) (b:=b) (λx y=>(x.1==y.1)&&((x.2.1==y.2.1)&&((x.2.2.1==y.2.2.1)&&((x.2.2.2.1==y.2.2.2.1)&&((x.2.2.2.2==y.2.2.2.2)&&X))))) Y hlen (cMo ha (by decide)) (λk x y mx my ix iy hd hw=>by
   simp only[hd,ix,iy,hw,zZ,aA,aD,bne];generalize ((x.1==y.1)&&((x.2.1==y.2.1)&&((x.2.2.1==y.2.2.1)&&((x.2.2.2.1==y.2.2.2.1)&&((x.2.2.2.2==y.2.2.2.2)&&X)))))=c;cases c<;>rfl) (by simp)]
  simp only[aA,aZc,aBh]),aBh]
def bMl{a b:eU}(ha:a.length<=549755813888):rP a b=U (aUv a b):=by
 unfold rP aUv zz4;rw[aY1];rw[aUj (z:=U (cond (aO6 (λx y=>(x.1==y.1)&&((x.2.1==y.2.1)&&((x.2.2.1==y.2.2.1)&&((x.2.2.2.1==y.2.2.2.1)&&((x.2.2.2.2==y.2.2.2.2)&&X))))) a b) X Y)) (λhlen=>by
  rw[aQz (a:=a) (b:=b) (λx y=>(x.1==y.1)&&((x.2.1==y.2.1)&&((x.2.2.1==y.2.2.1)&&((x.2.2.2.1==y.2.2.2.1)&&((x.2.2.2.2==y.2.2.2.2)&&X))))) Y hlen (cMo ha (by decide)) (λk x y mx my ix iy hd hw=>by
   simp only[hd,ix,iy,hw,zZ,aA,aD,bne];generalize ((x.1==y.1)&&((x.2.1==y.2.1)&&((x.2.2.1==y.2.2.1)&&((x.2.2.2.1==y.2.2.2.1)&&((x.2.2.2.2==y.2.2.2.2)&&X)))))=c;cases c<;>rfl) (by simp)]
  simp only[aA,aZc,aBh]),aBh]
noncomputable def aFr(a b:den tPp):Bool:=cond (a.1==b.1) (cond (a.2.1==b.2.1) (cond (a.2.2.1==b.2.2.1) (aUv a.2.2.2 b.2.2.2) Y) Y) Y
def bVa{a b:den tPp}(ha:SmB 549755813888 tPp a)(hb:SmB 549755813888 tPp b):xJ a b=U (aFr a b):=by
 unfold xJ aFr;simp only[aA,aBh,aD,bKs ha.2.2.2.1]
def bXw{a b:den tPp}(ha:SmB 549755813888 tPp a)(hb:SmB 549755813888 tPp b):wW a b=U (aFr a b):=by
 unfold wW aFr;simp only[aA,aBh,aD,bMl ha.2.2.2.1]
noncomputable def aD9(a b:lPp):Bool:=cond (!D (a.length=b.length)) Y (cond (aO6 (λx y=>aFr x y) a b) X Y)
def cEt{a b:lPp}(ha:SmB 549755813888 (.sl tPp) a)(hb:SmB 549755813888 (.sl tPp) b):tJ a b=U (aD9 a b):=by
 unfold tJ aD9 pj4;rw[aY1];rw[aUj (z:=U (cond (aO6 (λx y=>aFr x y) a b) X Y)) (λhlen=>by
  rw[aQz (a:=a) (b:=b) (λx y=>aFr x y) Y hlen (cMo ha.1 (by decide)) (λk x y mx my ix iy hd hw=>by
   simp only[hd,ix,iy,hw,zZ,aA,aD,bVa (ha.2 x mx) (hb.2 y my)];generalize (aFr x y)=c;cases c<;>rfl) (by simp)]
  simp only[aA,aZc,aBh]),aBh]
def cD1{a b:lPp}(ha:SmB 549755813888 (.sl tPp) a)(hb:SmB 549755813888 (.sl tPp) b):uH a b=U (aD9 a b):=by
 unfold uH aD9 pj4;rw[aY1];rw[aUj (z:=U (cond (aO6 (λx y=>aFr x y) a b) X Y)) (λhlen=>by
  rw[aQz (a:=a) (b:=b) (λx y=>aFr x y) Y hlen (cMo ha.1 (by decide)) (λk x y mx my ix iy hd hw=>by
   simp only[hd,ix,iy,hw,zZ,aA,aD,bXw (ha.2 x mx) (hb.2 y my)];generalize (aFr x y)=c;cases c<;>rfl) (by simp)]
  simp only[aA,aZc,aBh]),aBh]
noncomputable def nS(a b:den tSg):Bool:=cond (a.1==b.1) (cond (a.2.1==b.2.1) (aUv a.2.2 b.2.2) Y) Y
def bK3{a b:den tSg}(ha:SmB 549755813888 tSg a)(hb:SmB 549755813888 tSg b):iJ a b=U (nS a b):=by
 unfold iJ nS;simp only[aA,aBh,aD,bKs ha.2.2.1]
def bLp{a b:den tSg}(ha:SmB 549755813888 tSg a)(hb:SmB 549755813888 tSg b):iQ a b=U (nS a b):=by
 unfold iQ nS;simp only[aA,aBh,aD,bMl ha.2.2.1]
def aUg{w:den tNw}(h:tot tNw w<=68719476736):tot (.sl tFl) w.2.2.2.2.2.2.1<=68719476736:=aA7 (aO (aO (aO (aO (aO (aO h))))))
def aQv(w:den tNw):Bool:=cond (w.2.2.2.2.2.2.1.all λf=> !tN f) (((w.2.2.2.2.2.1.length:Int)==(0:Int))) Y
def cIu{w:den tNw}(h:tot tNw w<=68719476736):aD8 w=U (aQv w):=by
 have hf:=aUg h;have hl:=cO (t:=tFl) w.2.2.2.2.2.2.1;unfold aD8 aQv pj9 zz5 zz6 zz8;rw[aM (l:=w.2.2.2.2.2.2.1) (λ_ f=>if !tN f then W else U Y) (by omega) (λk x hi hd hw hx hk=>by
  have :=kA (t:=tFl) hx;simp only[hd,hi,hw,zZ,aA,aD,bB6 (f:=x) (by omega)];show cond (tN x) _ _=_;cases tN x<;>rfl) (by simp)]
 rw[iL (λf:den tFl=> !tN f)];cases w.2.2.2.2.2.2.1.all (λf=> !tN f)<;>rfl
def cH8{w:den tNw}(h:tot tNw w<=68719476736):aEw w=U (aQv w):=by
 have hf:=aUg h;have hl:=cO (t:=tFl) w.2.2.2.2.2.2.1;unfold aEw aQv pj9 zz5 zz6 zz8;rw[aM (l:=w.2.2.2.2.2.2.1) (λ_ f=>if !tN f then W else U Y) (by omega) (λk x hi hd hw hx hk=>by
  have :=kA (t:=tFl) hx;simp only[hd,hi,hw,zZ,aA,aD,bB7 (f:=x) (by omega)];show cond (tN x) _ _=_;cases tN x<;>rfl) (by simp)]
 rw[iL (λf:den tFl=> !tN f)];cases w.2.2.2.2.2.2.1.all (λf=> !tN f)<;>rfl
def aHw(w:den tNw):List Int:=[w.2.2.2.1,(w.2.2.2.2.2.1.length:Int),w.2.2.2.2.2.2.2.2,(w.2.2.2.2.1.length:Int)]++w.2.2.2.2.2.2.1.map λf=>f.2.2.2.1
def cCn{w:den tNw}(h:tot tNw w<=68719476736):wF w=U (aHw w):=by
 have hf:=aUg h;have hl:=cO (t:=tFl) w.2.2.2.2.2.2.1;unfold wF aHw zz4 zz5 zz6 zz8;rw[fV (λk (a:List Int)=>((k:Int),a)) ((0:Int),[w.2.2.2.1,(w.2.2.2.2.2.1.length:Int),w.2.2.2.2.2.2.2.2,(w.2.2.2.2.1.length:Int)]) [w.2.2.2.1,(w.2.2.2.2.2.1.length:Int),w.2.2.2.2.2.2.2.2,(w.2.2.2.2.1.length:Int)] w.2.2.2.2.2.2.1 (λ_ x a=>a++[x.2.2.2.1]) cMy (λ_=>1) 549755813888 id rfl (by omega) (by rw[cS];simp;omega) (λk x a=>by simp) (λk x a hi hx hd hw hk hb=>by
  simp only[hd,hi,hw,zZ,aA,aD,aC (b:=8) (by decide) hb]) (λa=>by simp),dQ (λf:den tFl=>f.2.2.2.1)]
 rfl
def cJs{w:den tNw}(h:tot tNw w<=68719476736):aBn w=U (aHw w):=cCn h
def aMf(f:den tFl):Int:=wr ((wr ((wr ((f.2.2.2.2.2.1.length:Int)+(2:Int))) * (21:Int)))+(wr ((2:Int) * (f.2.2.2.2.1.length:Int))))
def aAq(w:den tNw):Int:=cV (λ_ f a=>if aMf f>a then aMf f else a) 0 w.2.2.2.2.2.2.1 0
def bGv{w:den tNw}(h:w.2.2.2.2.2.2.1.length<=68719476736):iX w=U (wr (8+aAq w)):=by
 unfold iX aAq zz4 zz5 zz6;rw[fV (λk (a:Int)=>(a,(k:Int))) ((0:Int),(0:Int)) 0 w.2.2.2.2.2.2.1 (λ_ f a=>if aMf f>a then aMf f else a) (λ_=>0) (λ_=>0) 1 id rfl (by omega) (by rw[sum_nil];omega) (λk x a=>by omega) (λk x a hi hx hd hw hk hb=>by
  simp only[hd,hi,hw,zZ,aA,bQl];rfl) (λa=>by simp)]
 rfl
def bGe{w:den tNw}(h:w.2.2.2.2.2.2.1.length<=68719476736):iW w=U (wr (8+aAq w)):=by
 unfold iW aAq zz4 zz5 zz6;rw[fV (λk (a:Int)=>(a,(k:Int))) ((0:Int),(0:Int)) 0 w.2.2.2.2.2.2.1 (λ_ f a=>if aMf f>a then aMf f else a) (λ_=>0) (λ_=>0) 1 id rfl (by omega) (by rw[sum_nil];omega) (λk x a=>by omega) (λk x a hi hx hd hw hk hb=>by
  simp only[hd,hi,hw,zZ,aA,bFd];rfl) (λa=>by simp)]
 rw[aA,Int.add_comm];rfl
def aXm(b:List Int)(p:Nat):Nat->Nat->Nat->Int×Int×Bool
 | 0,_,_=>(0,0,Y)
 | f+1,k,n=>match b[p+k]? with
  | none=>(0,0,Y)
  | some x=>
   if x.toNat<128 then (if (D (x.toNat=0)&&D (0<k))||D (1000000000000<n+x.toNat % 128 * 2 ^ (7 * k)) then (0,0,Y) else (((n+x.toNat % 128 * 2 ^ (7 * k):Nat):Int),((p+k+1:Nat):Int),X))
   else aXm b p f (k+1) (n+x.toNat % 128 * 2 ^ (7 * k))
def bCs{k:Nat}(h:k<6):2 ^ (7 * k)<=34359738368:=cMo (Nat.pow_le_pow_right (by decide) (show 7 * k<=35 by omega)) (by decide)
def bTo{n c k:Nat}(h:n<2 ^ (7 * k))(hc:c<128):n+c * 2 ^ (7 * k)<2 ^ (7 * (k+1)):=by
 have e:2 ^ (7 * (k+1))=128 * 2 ^ (7 * k):=by rw[show 7 * (k+1)=7 * k+7 by omega,Nat.pow_add];omega
 have :c * 2 ^ (7 * k)<=127 * 2 ^ (7 * k):=Nat.mul_le_mul_right _ (by omega);omega
def bB0{c k:Nat}(hk:k<6)(hc:c<128):c * 2 ^ (7 * k)<=4398046511104:=cMo (Nat.mul_le_mul (show c<=128 by omega) (bCs hk)) (by decide)
def bLt{S:Type}(b:List Int)(p:Nat)(hb:∀x∈b,0<=x/\x<=255)(enc:Nat->Nat->S){step:S->Option (S⊕(Unit⊕q41))}
  (h0:∀n,step (enc 6 n)=U (.inr (.inl ())))
  (h1:∀k n,k<6->b[p+k]? =W->step (enc k n)=U (.inr (.inl ()))\/step (enc k n)=U (.inr (.inr (0,0,Y))))
  (h2:∀k n (m:Nat),k<6->n<2 ^ (7 * k)->m<=255->b[p+k]? =U (m:Int)->step (enc k n)=U (if m<128 then .inr (.inr (if (D (m=0)&&D (0<k))||D (1000000000000<n+m % 128 * 2 ^ (7 * k)) then (0,0,Y) else (((n+m % 128 * 2 ^ (7 * k):Nat):Int),((p+k+1:Nat):Int),X))) else .inl (enc (k+1) (n+m % 128 * 2 ^ (7 * k))))):
  ∀f k n,f+k=6->n<2 ^ (7 * k)-> @Option.bind (Unit⊕q41) q41 (aB step (enc k n)) (λz=>Sum.elim (λ_=>U ((0:Int),(0:Int),Y)) U z)=U (aXm b p f k n):=by
 intro f
 induction f with
 | zero=>
  intro k n hk hn;have :k=6:=by omega
  subst this;rw[aI (h0 n)];rfl
 | succ f ih=>
  intro k n hk hn;have hk6:k<6:=by omega
  unfold aXm;cases hx:b[p+k]? with
  | none=>rcases h1 k n hk6 hx with h | h<;>rw[aI h]<;>rfl
  | some x=>
   obtain⟨x0,x1⟩:=hb x (cMw hx);obtain⟨m,rfl⟩:∃m:Nat,x=(m:Int):=⟨x.toNat,by omega⟩
   have hs:=h2 k n m hk6 hn (by omega) hx;simp only[cMt]
   by_cases hm:m<128
   .rw[zT hm]at hs ⊢;rw[aI hs];rfl
   .rw[zS hm]at hs ⊢;rw[aP hs];exact ih (k+1) _ (by omega) (bTo hn (Nat.mod_lt _ (by decide)))
def bLj{a c:Nat}(hc:c<=35)(h:a * 2 ^ c<=4398046511104):shl .i64 (a:Int) (c:Int)=((a * 2 ^ c:Nat):Int):=by
 unfold shl;have e:min ((c:Int)).toNat IntKind.i64.bits=c:=by simp[IntKind.bits];omega
 rw[e];have e2:(a:Int) * 2 ^ c=((a * 2 ^ c:Nat):Int):=by simp
 rw[e2];exact wri (by omega) (by omega)
def cEc{n c k:Nat}(hk:k<6)(hn:n<2 ^ (7 * k))(hc:c<128):bOr .i64 (n:Int) ((c * 2 ^ (7 * k):Nat):Int)=((n+c * 2 ^ (7 * k):Nat):Int):=by
 have hm:=bB0 hk hc;have hp:=bCs hk;have e:(BitVec.ofInt 64 (n:Int) ||| BitVec.ofInt 64 ((c * 2 ^ (7 * k):Nat):Int)).toNat=n+c * 2 ^ (7 * k):=by
  rw[BitVec.toNat_or];have e1:(BitVec.ofInt 64 (n:Int)).toNat=n:=by simp;omega
  have e2:(BitVec.ofInt 64 ((c * 2 ^ (7 * k):Nat):Int)).toNat=c * 2 ^ (7 * k):=by
   generalize c * 2 ^ (7 * k)=q at hm;simp;omega
  rw[e1,e2,Nat.or_comm];have :=Nat.two_pow_add_eq_or_of_lt (i:=7 * k) (b:=n) hn c;rw[Nat.mul_comm c,<- this];omega
 unfold bOr;show IntKind.i64.wrap (((BitVec.ofInt 64 (n:Int) ||| BitVec.ofInt 64 ((c * 2 ^ (7 * k):Nat):Int)).toNat:Nat):Int)=_;rw[e];exact wri (by omega) (by omega)
def bHc{n:Nat}(h:n<256):IntKind.wrap .u64 (n:Int)=(n:Int):=by
 simp only[IntKind.wrap,IntKind.signed,IntKind.bits];simp;omega
def rv(b:List Int)(p:Nat):q41:=aXm b p 6 0 0
def bDt(k:Nat):(7:Int) * (k:Int)=((7 * k:Nat):Int):=by omega
def cLy{b:List Int}{p:Nat}(hb:∀x∈b,0<=x/\x<=255)(hl:b.length<=549755813888)(hp:p<=b.length):wU b (p:Int)=U (rv b p):=by
 unfold wU;have e0:D ((p:Int)<0)=Y:=by simp
 rw[e0,zY];refine bLt b p hb (λk n=>(((p+k:Nat):Int),(n:Int),(k:Int))) (λn=>by simp) (λk n hk hx=> ?_) (λk n m hk hn hm hx=> ?_) 6 0 0 rfl (by simp)
 .left;have h1:D (((p+k:Nat):Int)<(b.length:Int))=Y:=by
   have :=List.getElem?_eq_none_iff.1 hx;simp;omega
  simp only[h1];cases D ((k:Int)<6)<;>rfl
 .have h0:=(cM0.1 hx).1;have h1:D (((p+k:Nat):Int)<(b.length:Int))=X:=by simp;omega
  have h2:D ((k:Int)<6)=X:=by simp;omega
  have h3:idx b ((p+k:Nat):Int)=U (m:Int):=by rw[aR];exact hx
  have h4:wr ((7 * k:Nat):Int)=((7 * k:Nat):Int):=wri (by omega) (by omega);have h5:wr (m:Int)=(m:Int):=wri (by omega) (by omega);have h6:D (((7 * k:Nat):Int)<0)=Y:=by simp;omega
  have h7:cNi (m:Int) 128=((m % 128:Nat):Int):=rfl;have hq:=bB0 (c:=m % 128) hk (Nat.mod_lt _ (by decide));have hr:=bCs hk;have h8:wr ((n:Int)+((m % 128 * 2 ^ (7 * k):Nat):Int))=((n+m % 128 * 2 ^ (7 * k):Nat):Int):=by
   generalize m % 128 * 2 ^ (7 * k)=q at hq;have :wr ((n:Int)+(q:Int))=(n:Int)+(q:Int):=wri (by omega) (by omega);rw[this];omega
  have h9:wr (((p+k:Nat):Int)+1)=((p+k+1:Nat):Int):=by
   have :wr (((p+k:Nat):Int)+1)=((p+k:Nat):Int)+1:=wri (by omega) (by omega);rw[this];omega
  have ha:wr ((k:Int)+1)=((k+1:Nat):Int):=by
   have :wr ((k:Int)+1)=(k:Int)+1:=wri (by omega) (by omega);rw[this];omega
  simp only[h1,h2,h3,zZ,aA,bDt,h4,bHc (n:=7 * k) (by omega),h6,zY,h5,h7,bLj (a:=m % 128) (c:=7 * k) (by omega) hq,h8,h9,ha];generalize n+m % 128 * 2 ^ (7 * k)=q
  by_cases c1:m<128
  .have e1:D ((m:Int)<128)=X:=by simp;omega
   have e2:((m:Int)==0)=D (m=0):=by rw[cNe];simp
   have e3:D ((k:Int)>0)=D (0<k):=by rw[cNe];simp
   have e4:D ((q:Int)>1000000000000)=D (1000000000000<q):=by rw[cNe];simp;omega
   simp only[e1,e2,e3,e4,zZ,zT c1];cases D (m=0)<;>cases D (0<k)<;>cases D (1000000000000<q)<;>rfl
  .have e1:D ((m:Int)<128)=Y:=by simp;omega
   simp only[e1,zY,zS c1];rfl
def cK8{b:List Int}{p:Nat}(hb:∀x∈b,0<=x/\x<=255)(hl:b.length<=549755813888)(hp:p<=b.length):wX b (p:Int)=U (rv b p):=by
 unfold wX;have e0:D ((p:Int)<0)=Y:=by simp
 refine bLt b p hb (λk n=>((n:Int),(k:Int))) (λn=>by simp) (λk n hk hx=> ?_) (λk n m hk hn hm hx=> ?_) 6 0 0 rfl (by simp)
 .right;have hw:wr ((b.length:Int) - (k:Int))=(b.length:Int) - (k:Int):=wri (by omega) (by omega);have h1:D ((p:Int)>=(b.length:Int) - (k:Int))=X:=by
   have :=List.getElem?_eq_none_iff.1 hx;simp;omega
  have h2:D ((k:Int)<6)=X:=by simp;omega
  simp only[h2,e0,hw,h1,zZ,zY,aA]
 .have h0:=(cM0.1 hx).1;have hw:wr ((b.length:Int) - (k:Int))=(b.length:Int) - (k:Int):=wri (by omega) (by omega);have h1:D ((p:Int)>=(b.length:Int) - (k:Int))=Y:=by simp;omega
  have h2:D ((k:Int)<6)=X:=by simp;omega
  have hpk:wr ((p:Int)+(k:Int))=((p+k:Nat):Int):=by
   have :wr ((p:Int)+(k:Int))=(p:Int)+(k:Int):=wri (by omega) (by omega);rw[this];omega
  have h3:idx b ((p+k:Nat):Int)=U (m:Int):=by rw[aR];exact hx
  have h4:wr ((7 * k:Nat):Int)=((7 * k:Nat):Int):=wri (by omega) (by omega);have h5:wr (m:Int)=(m:Int):=wri (by omega) (by omega);have h6:D (((7 * k:Nat):Int)<0)=Y:=by simp;omega
  have hq:=bB0 (c:=m % 128) hk (Nat.mod_lt _ (by decide));have h9:wr (((p+k:Nat):Int)+1)=((p+k+1:Nat):Int):=by
   have :wr (((p+k:Nat):Int)+1)=((p+k:Nat):Int)+1:=wri (by omega) (by omega);rw[this];omega
  have ha:wr ((k:Int)+1)=((k+1:Nat):Int):=by
   have :wr ((k:Int)+1)=(k:Int)+1:=wri (by omega) (by omega);rw[this];omega
  simp only[h1,h2,hw,e0,hpk,h3,zZ,zY,aA,bDt,h4,h6,h5,bJc (n:=m) (by omega),bLj (a:=m % 128) (c:=7 * k) (by omega) hq,cEc (c:=m % 128) hk hn (Nat.mod_lt _ (by decide)),h9,ha];generalize n+m % 128 * 2 ^ (7 * k)=q
  by_cases c1:m<128
  .have e1:D ((m:Int)<128)=X:=by simp;omega
   have e2:((m:Int)==0)=D (m=0):=by rw[cNe];simp
   have e3:D ((k:Int)>0)=D (0<k):=by rw[cNe];simp
   have e4:D ((q:Int)>1000000000000)=D (1000000000000<q):=by rw[cNe];simp;omega
   simp only[e1,e2,e3,e4,zZ,zT c1];cases D (m=0)<;>cases D (0<k)<;>cases D (1000000000000<q)<;>rfl
  .have e1:D ((m:Int)<128)=Y:=by simp;omega
   simp only[e1,zY,zS c1]
def bLx{b:List Int}{p:Nat}:∀(f k n:Nat),(aXm b p f k n).2.2=X-> ∃q:Nat,(aXm b p f k n).2.1=(q:Int)/\q<=b.length
 | 0,k,n,h=>by cases h
 | f+1,k,n,h=>by
  unfold aXm at h|-;cases hx:b[p+k]? with
  | none=>rw[hx]at h;cases h
  | some x=>
   rw[hx]at h;have hlt:=(cM0.1 hx).1;simp only at h|-
   by_cases c:x.toNat<128
   .rw[zT c]at h ⊢;split at h
    .cases h
    .rename_i c2;rw[zS c2];exact⟨p+k+1,rfl,hlt⟩
   .rw[zS c]at h ⊢;exact bLx f (k+1) _ h
def cAf{b:List Int}{p:Nat}(h:(rv b p).2.2=X):∃q:Nat,(rv b p).2.1=(q:Int)/\q<=b.length:=bLx 6 0 0 h
def aTa(b:List Int):Int×Bool×List Int:=
 cond (rv b 0).2.2 (cond (rv b (rv b 0).2.1.toNat).2.2 (cond (rv b (rv b (rv b 0).2.1.toNat).2.1.toNat).2.2
  ((rv b (rv b (rv b 0).2.1.toNat).2.1.toNat).2.1,X,[(rv b 0).1,(rv b (rv b 0).2.1.toNat).1,(rv b (rv b (rv b 0).2.1.toNat).2.1.toNat).1]) (0,Y,[])) (0,Y,[])) (0,Y,[])
def bL9(b:List Int):aTa b=(0,Y,[])\/ ∃q x y z,aTa b=(q,X,[x,y,z]):=by
 unfold aTa;cases (rv b 0).2.2
 .exact .inl rfl
 .cases (rv b (rv b 0).2.1.toNat).2.2
  .exact .inl rfl
  .cases (rv b (rv b (rv b 0).2.1.toNat).2.1.toNat).2.2
   .exact .inl rfl
   .exact .inr ⟨_,_,_,_,rfl⟩
def bFt{b:List Int}{step:Int×Int×List Int->Option ((Int×Int×List Int)⊕((Int×List Int)⊕(Int×Bool×List Int)))}
  (hs:∀(p:Nat) (i:Nat) (out:List Int),p<=b.length->i<3->out.length<=3->step ((p:Int),(i:Int),out)=U (cond (rv b p).2.2 (.inl ((rv b p).2.1,((i+1:Nat):Int),out++[(rv b p).1])) (.inr (.inr (0,Y,[])))))
  (he:∀p out,step (p,3,out)=U (.inr (.inl (p,out)))):
  @Option.bind ((Int×List Int)⊕(Int×Bool×List Int)) (Int×Bool×List Int) (aB step ((0:Int),(0:Int),([]:List Int))) (λz=>Sum.elim (λs8=>U (s8.1,X,s8.2)) U z)=U (aTa b):=by
 have h1:=hs 0 0 [] (cM7 _) (by decide) (by decide);unfold aTa;cases c1:(rv b 0).2.2 with
 | false=>rw[c1]at h1;rw[aI (s:=((0:Int),(0:Int),([]:List Int))) h1];rfl
 | true=>
  rw[c1]at h1;obtain⟨q1,e1,l1⟩:=cAf c1;rw[aP (s:=((0:Int),(0:Int),([]:List Int))) h1];rw[e1];simp only[zZ,cMt];have h2:=hs q1 (0+1) ([]++[(rv b 0).1]) l1 (by decide) (by simp);cases c2:(rv b q1).2.2 with
  | false=>rw[c2]at h2;rw[aI h2];rfl
  | true=>
   rw[c2]at h2;obtain⟨q2,e2,l2⟩:=cAf c2;rw[aP h2];rw[e2];simp only[zZ,cMt];have h3:=hs q2 (0+1+1) ([]++[(rv b 0).1]++[(rv b q1).1]) l2 (by decide) (by simp);cases c3:(rv b q2).2.2 with
   | false=>rw[c3]at h3;rw[aI h3];rfl
   | true=>
    rw[c3]at h3;rw[aP h3];rw[aI (s:=((rv b q2).2.1,((0+1+1+1:Nat):Int),[]++[(rv b 0).1]++[(rv b q1).1]++[(rv b q2).1])) (he _ _)];rfl
def cHr{b:List Int}(hb:∀x∈b,0<=x/\x<=255)(hl:b.length<=549755813888):wR b 0 3=U (aTa b):=by
 unfold wR;have r1:inR 3 0 100=X:=by decide
 have r2:inR 0 0 (b.length:Int)=X:=by rw[bQ];omega
 simp only[gU,aA,r1,r2,cMp,zY];refine bFt (λp i out hp hi ho=> ?_) (λp out=>by simp);have e1:D ((i:Int)<3)=X:=by simp;omega
 have e2:wr ((i:Int)+1)=((i+1:Nat):Int):=by
  have :wr ((i:Int)+1)=(i:Int)+1:=wri (by omega) (by omega);rw[this];omega
 simp only[e1,zZ,cLy hb hl hp,aA,e2,aC (b:=8) (n:=out.length) (m:=1) (by decide) (by omega)];cases (rv b p).2.2<;>rfl
def cGj{b:List Int}(hb:∀x∈b,0<=x/\x<=255)(hl:b.length<=549755813888):wZ b 0 3=U (aTa b):=by
 unfold wZ;have r1:inR 3 0 100=X:=by decide
 have r2:inR 0 0 (b.length:Int)=X:=by rw[bQ];omega
 simp only[fB,aA,r1,r2,cMp,zY];refine bFt (λp i out hp hi ho=> ?_) (λp out=>by simp);have e1:D ((i:Int)<3)=X:=by simp;omega
 have e2:wr ((i:Int)+1)=((i+1:Nat):Int):=by
  have :wr ((i:Int)+1)=(i:Int)+1:=wri (by omega) (by omega);rw[this];omega
 simp only[e1,zZ,cK8 hb hl hp,aA,e2,aC (b:=8) (n:=out.length) (m:=1) (by decide) (by omega)];cases (rv b p).2.2<;>rfl
def aFd(b:List Int):Int×q41:=
 match aTa b with
 | (q,X,[x,y,z])=>cond (q==(b.length:Int)) (cond (iI (x,y,z)) (x,y,z,X) (0,0,0,Y)) (0,0,0,Y)
 | _=>(0,0,0,Y)
def cHu{b:List Int}(hb:∀x∈b,0<=x/\x<=255)(hl:b.length<=549755813888):lY b=U (aFd b):=by
 unfold lY aFd ixb;rw[cHr hb hl];rcases bL9 b with h | ⟨q,x,y,z,h⟩
 .rw[h];rfl
 .rw[h];simp only[aA,cMp,zY,bne,aJ6];cases q==(b.length:Int)
  .rfl
  .cases hv:iI (x,y,z)<;>simp[hv]
def cJg{b:List Int}(hb:∀x∈b,0<=x/\x<=255)(hl:b.length<=549755813888):lN b=U (aFd b):=by
 unfold lN aFd ixb;rw[cGj hb hl];rcases bL9 b with h | ⟨q,x,y,z,h⟩
 .rw[h];rfl
 .rw[h];simp only[aA,cMp,zY,bne,aJm];cases q==(b.length:Int)
  .rfl
  .cases hv:iI (x,y,z)<;>simp[hv]
def aKq(x:den tRv)(l:lRv)(k:Nat)(y:den tRv):Option lRv:=
 cond (y.1==x.1) (cond (y.2.1==x.2.1) (U (l.set k (y.1,y.2.1,if x.2.2>y.2.2 then x.2.2 else y.2.2))) W) W
def aXh(l:lRv)(x:den tRv):lRv:=
 cond (iI x) (match dG (aKq x l) 0 l with
  | some r=>r
  | none=>if 16<l.length+1 then (l++[x]).drop 1 else l++[x]) l
def bKc{α:Type}{l:List α}(h:0<l.length):cut l (1:Int) (l.length:Int)=l.drop 1:=aR2 (k:=1) h
def bI9(l:lRv)(x:den tRv):D (((l++[x]).length:Int)>16)=D (16<l.length+1):=by
 rw[cNe];simp;omega
def cGf{l:lRv}{x:den tRv}(h:l.length<=68719476736):qM l x=U (aXh l x):=by
 unfold qM aXh ixb pj3;rw[bCq (show l.length<=549755813888 by omega)];simp only[aA,aD,aJ6];cases hv:iI x with
 | false=>rfl
 | true=>
  simp only[cMp,zY,zZ];rw[aM (l:=l) (aKq x l) (by omega) (λk y hi hd hw hm hk=>by
   have hy:l[k]? =U y:=by rw[<- aR];exact hi
   simp only[hd,zZ,bF,cMt,hy,aA,bQl,hw];unfold aKq;cases y.1==x.1
   .rfl
   .cases y.2.1==x.2.1<;>rfl) (by simp)]
  cases dG (aKq x l) 0 l with
  | some r=>rfl
  | none=>
   have e1:bH (1:Int) ((l++[x]).length:Int) ((l++[x]).length:Int)=X:=by
    have :=aAz (a:=1) (b:=(l++[x]).length) (n:=(l++[x]).length);rw[show ((1:Nat):Int)=1 from rfl]at this;rw[this];simp
   have e2:=bKc (l:=l++[x]) (by simp);simp only[aA,cN4,aC (b:=24) (n:=l.length) (m:=1) (by decide) (by omega),zZ,bI9,e1,e2,bCq (l:=(l++[x]).drop 1) (by simp;omega)]
   by_cases c:16<l.length+1
   .have c2:(16:Int)<(l.length:Int)+1:=by omega
    simp[c,c2]
   .have c2: ¬ (16:Int)<(l.length:Int)+1:=by omega
    simp[c,c2]
def cHl{l:lRv}{x:den tRv}(h:l.length<=68719476736):qN l x=U (aXh l x):=by
 unfold qN aXh ixb pj3;rw[aC (b:=24) (n:=([]:lRv).length) (by decide) (by simp;omega)];simp only[zZ,aA,aD,aJm,cNf];cases hv:iI x with
 | false=>rfl
 | true=>
  simp only[cMp,zY,zZ];rw[aM (l:=l) (aKq x l) (by omega) (λk y hi hd hw hm hk=>by
   have hy:l[k]? =U y:=by rw[<- aR];exact hi
   have hk2:D (k<l.length)=X:=by simpa using hk
   simp only[hd,zZ,bF,cMt,hy,aA,bFd,hw,hk2];unfold aKq;cases y.1==x.1
   .rfl
   .cases y.2.1==x.2.1<;>rfl) (by simp)]
  cases dG (aKq x l) 0 l with
  | some r=>rfl
  | none=>
   have e1:bH (1:Int) ((l++[x]).length:Int) ((l++[x]).length:Int)=X:=by
    have :=aAz (a:=1) (b:=(l++[x]).length) (n:=(l++[x]).length);rw[show ((1:Nat):Int)=1 from rfl]at this;rw[this];simp
   have e2:=bKc (l:=l++[x]) (by simp);simp only[aA,cN4,aC (b:=24) (n:=l.length) (m:=1) (by decide) (by omega),zZ,bI9,e1,e2]
   by_cases c:16<l.length+1
   .have c2:(16:Int)<(l.length:Int)+1:=by omega
    simp[c,c2]
   .have c2: ¬ (16:Int)<(l.length:Int)+1:=by omega
    simp[c,c2]
def aT0(s:den aEl)(a:List Int):List Int:=
 (λb=>cond (s.2.2 != 0) (b++[wr (wr (8 * s.1)+s.2.2)]) b) (cond (s.2.1 != 0) (a++[wr (wr (8 * s.1)+s.2.1)]) a)
def aXr(s:den aEl)(a:List Int):(aT0 s a).length<=a.length+2:=by
 unfold aT0;cases s.2.1 != 0<;>cases s.2.2 != 0<;>simp
def mC(p:den tPt):List Int:=cV (λ_ s a=>aT0 s a) 0 (iA p) []
def aM3{α:Type}(l:List α):(l.map λ_=>2).sum=2 * l.length:=by
 induction l with
 | nil=>rfl
 | cons x l ih=>simp only[cNb,cNy,ih,cM8];omega
def bKx{p:den tPt}(h:tot tPt p<=68719476736):jA p=U (mC p):=by
 have hl:=aB9 p;unfold jA aEh mC;rw[aMe (cMo h (by decide))];simp only[aA];rw[fV (λk (a:List Int)=>((k:Int),a)) ((0:Int),[]) [] (iA p) (λ_ s a=>aT0 s a) cMy (λ_=>2) 549755813888 id rfl (by omega) (by rw[aM3];simp;omega) (λk x a=>aXr x a) (λk x a hi hx hd hw hk hb=>by
  simp only[hd,hi,hw,zZ,aA,aC (b:=8) (n:=a.length) (m:=1) (by decide) (by omega)];unfold aT0;cases x.2.1 != 0<;>cases x.2.2 != 0<;>simp[aC (b:=8) (n:=a.length) (m:=1) (by decide) (by omega),aC (b:=8) (n:=a.length+1) (m:=1) (by decide) (by omega)]) (λa=>by simp)]
 rfl
def bLv{p:den tPt}(h:tot tPt p<=68719476736):iZ p=U (mC p):=by
 have hl:=aB9 p;unfold iZ mC ixb;rw[aMw (cMo h (by decide))];simp only[aA];rw[fV (λk (a:List Int)=>((k:Int),a)) ((0:Int),[]) [] (iA p) (λ_ s a=>aT0 s a) cMy (λ_=>2) 549755813888 id rfl (by omega) (by rw[aM3];simp;omega) (λk x a=>aXr x a) (λk x a hi hx hd hw hk hb=>by
  simp only[hd,hx,hw,zZ,aA,bF,cMt,aC (b:=8) (n:=a.length) (m:=1) (by decide) (by omega)];unfold aT0;cases x.2.1 != 0<;>cases x.2.2 != 0<;>simp[aC (b:=8) (n:=a.length) (m:=1) (by decide) (by omega),aC (b:=8) (n:=a.length+1) (m:=1) (by decide) (by omega)]) (λa=>by simp)]
 rfl
def oD(l:List Int)(n:Int):Bool:= !(l.all λx=> !(x==n))
def aNq{l:List Int}{n:Int}(h:l.length<=549755813888):jB l n=U (oD l n):=by
 unfold jB oD;rw[aM (l:=l) (λ_ x=>if !(x==n) then W else U X) (by omega) (λk x hi hd hw hm hk=>by
  simp only[hd,hi,hw,zZ,aA];cases x==n<;>rfl) (by simp),iL (λx:Int=> !(x==n))]
 cases l.all (λx=> !(x==n))<;>rfl
def aKt{l:List Int}{n:Int}(h:l.length<=549755813888):gR l n=U (oD l n):=by
 unfold gR oD;rw[aM (l:=l) (λ_ x=>if !(x==n) then W else U X) (by omega) (λk x hi hd hw hm hk=>by
  simp only[hd,hi,hw,zZ,aA];cases x==n<;>rfl) (by simp),iL (λx:Int=> !(x==n))]
 cases l.all (λx=> !(x==n))<;>rfl
def aOn(p:den tPt):(mC p).length<=2 * tot tPt p:=by
 have h:=aE8 (f:=λ_ s (a:List Int)=>aT0 s a) (m:=cMy) (cost:=λ_=>2) (λk x a=>aXr x a) (iA p) 0 [];have hl:=aB9 p;rw[aM3]at h;unfold mC;simp at h;omega
def qW(p:den tPt)(x:den tRv):Bool:=iI x&&oD (mC p) (wr (wr (8 * x.1)+x.2.1))
def bD9{p:den tPt}{x:den tRv}(h:tot tPt p<=68719476736):wY p x=U (qW p x):=by
 have :=aOn p;unfold wY qW pj3;simp only[aD,aJ6,aA,bKx h,aNq (l:=mC p) (by omega)];cases iI x<;>rfl
def bDg{p:den tPt}{x:den tRv}(h:tot tPt p<=68719476736):xK p x=U (qW p x):=by
 have :=aOn p;unfold xK qW pj3;simp only[aD,aJm,aA,bLv h,aKt (l:=mC p) (by omega)];cases iI x<;>rfl
def bDw{α R:Type}(m:R->Nat)(B:Nat){g:Nat->α->Option R}:∀{l:List α} {k:Nat},(∀j x r,l[j]? =U x->g (k+j) x=U r->m r<=B)-> ∀r,dG g k l=U r->m r<=B
 | [],_,_,r,h=>by cases h
 | x::xs,k,hg,r,h=>by
  simp only[dG]at h;cases hx:g k x with
  | some r'=>rw[hx]at h;injection h with h;subst h;exact hg 0 x r' rfl hx
  | none=>
   rw[hx]at h;exact bDw m B (λj y r hy hr=>hg (j+1) y r (by simpa using hy) (by rw[show k+(j+1)=k+1+j by omega];exact hr)) r h
def bR6(l:lRv):tot (.sl tRv) l=l.length:=by
 induction l with
 | nil=>rfl
 | cons x l ih=>rw[jZ,ih];simp[tot];omega
def bWu(l:lRv)(x:den tRv):tot (.sl tRv) (aXh l x)<=l.length+1:=by
 rw[bR6];unfold aXh;cases iI x with
 | false=>simp
 | true=>
  simp only[zZ];cases hs:dG (aKq x l) 0 l with
  | some r=>
   refine bDw cMy (l.length+1) (g:=aKq x l) (l:=l) (k:=0) (λj y r' hy hr=> ?_) r hs;unfold aKq at hr;cases c1:y.1==x.1 with
   | false=>rw[c1]at hr;cases hr
   | true=>
    cases c2:y.2.1==x.2.1 with
    | false=>rw[c1,c2]at hr;cases hr
    | true=>rw[c1,c2]at hr;injection hr with hr;rw[<- hr];simp
  | none=>
   by_cases c:16<l.length+1
   .simp[c]
   .simp[c]
def bN3(f:den tFl)(x:den tRv):Bool:=inR f.2.2.2.2.2.2.1 0 ((f.2.2.2.2.2.1.length:Int) - 1)&&qW ((f.2.2.2.2.2.1[f.2.2.2.2.2.2.1.toNat]?).getD []) x
def aKh(b:List Int):den tRv:=((aFd b).1,(aFd b).2.1,(aFd b).2.2.1)
def aOm(f:den tFl)(p:den tPk):den tFl:=
 cond (p.1==3&&(aFd p.2.2.2.2.2.2.2.2.2).2.2.2)
  (f.1,f.2.1,f.2.2.1,f.2.2.2.1,f.2.2.2.2.1,f.2.2.2.2.2.1,cond (bN3 f (aKh p.2.2.2.2.2.2.2.2.2)) (aB0 f) f.2.2.2.2.2.2.1,cond (bN3 f (aKh p.2.2.2.2.2.2.2.2.2)) 0 f.2.2.2.2.2.2.2.1,aXh f.2.2.2.2.2.2.2.2 (aKh p.2.2.2.2.2.2.2.2.2)) f
def cKs(f:den tFl):q32:=(f.1,f.2.1,f.2.2.1,f.2.2.2.1,f.2.2.2.2.2.2.1,f.2.2.2.2.2.2.2.1,f.2.2.2.2.2.2.2.2,f.2.2.2.2.1,f.2.2.2.2.2.1)
def bMk{f:den tFl}(h:tot tFl f<=68719476736)(hr:inR f.2.2.2.2.2.2.1 0 ((f.2.2.2.2.2.1.length:Int) - 1)=X):∃q,f.2.2.2.2.2.1[f.2.2.2.2.2.2.1.toNat]? =U q/\idx f.2.2.2.2.2.1 f.2.2.2.2.2.2.1=U q/\tot tPt q<=68719476736:=by
 obtain⟨h0,h1⟩:=bQ.1 hr;obtain⟨q,hq⟩:=aF2 h0 h1;have ht:=aBf (t:=tPt) hq;have hp:tot (.sl tPt) f.2.2.2.2.2.1<=68719476736:=aA7 (aO (aO (aO (aO (aO h)))));exact⟨q,hq,aI7 h0 hq,by omega⟩
def cDc{f:den tFl}{p:den tPk}{now:Int}(h:tot tFl f<=68719476736)(hp:tot tPk p<=68719476736)(hb:∀x∈p.2.2.2.2.2.2.2.2.2,0<=x/\x<=255):lS f p now=U (tP (aOm f p)):=by
 have hf:SmB 549755813888 tFl f:=(bG h).mono (by decide);have hl:p.2.2.2.2.2.2.2.2.2.length<=549755813888:=cMo (cO (t:=tb) _) (cMo (aO (aO (aO (aO (aO (aO (aO (aO (aO hp))))))))) (by decide));have hv:f.2.2.2.2.2.2.2.2.length<=68719476736:=cMo (cO (t:=tRv) _) (aO (aO (aO (aO (aO (aO (aO (aO h))))))));have hn:f.2.2.2.2.2.1.length<=549755813888:=hf.2.2.2.2.2.1.1;unfold lS aOm pj9 zz4 zz5 zz6 zz7 zz8 zz9;simp only[aD,aMz hf,aA,cHu hb hl,gU,rF hn,bKp,cGf hv,bne];cases c1:p.1==3
 .simp only[cMx,zZ,aA,cNc,zY]
 .cases c2:(aFd p.2.2.2.2.2.2.2.2.2).2.2.2
  .simp only[cMp,cMx,zZ,zY,aA,cM1]
  .simp only[cMp,zZ,zY,aA,cM1];unfold bN3;cases c3:inR f.2.2.2.2.2.2.1 0 ((f.2.2.2.2.2.1.length:Int) - 1)
   .simp only[zY,aA,cNc];rfl
   .obtain⟨q,hq,hi,ht⟩:=bMk h c3;have ha:=bD9 (p:=q) (x:=aKh p.2.2.2.2.2.2.2.2.2) ht;have ha:wY q ((aFd p.2.2.2.2.2.2.2.2.2).1,(aFd p.2.2.2.2.2.2.2.2.2).2.1,(aFd p.2.2.2.2.2.2.2.2.2).2.2.1)=U (qW q (aKh p.2.2.2.2.2.2.2.2.2)):=ha;simp only[zZ,hi,hq,cNh,aA,ha,cM1];cases qW q (aKh p.2.2.2.2.2.2.2.2.2)<;>rfl
def cDd{f:den tFl}{p:den tPk}{now:Int}(h:tot tFl f<=68719476736)(hp:tot tPk p<=68719476736)(hb:∀x∈p.2.2.2.2.2.2.2.2.2,0<=x/\x<=255):lV f p now=U (cKs (aOm f p)):=by
 have hf:SmB 549755813888 tFl f:=(bG h).mono (by decide);have hl:p.2.2.2.2.2.2.2.2.2.length<=549755813888:=cMo (cO (t:=tb) _) (cMo (aO (aO (aO (aO (aO (aO (aO (aO (aO hp))))))))) (by decide));have hv:f.2.2.2.2.2.2.2.2.length<=68719476736:=cMo (cO (t:=tRv) _) (aO (aO (aO (aO (aO (aO (aO (aO h))))))));have hn:f.2.2.2.2.2.1.length<=549755813888:=hf.2.2.2.2.2.1.1;unfold lV aOm pj3 pj9 zz4 zz5 zz6 zz7 zz8 zz9;simp only[aD,aJ5 hf,aA,cJg hb hl,fB,rF hn,cHl hv,bne];cases c1:p.1==3
 .simp only[cMx,zZ,aA,cNc,zY];rfl
 .cases c2:(aFd p.2.2.2.2.2.2.2.2.2).2.2.2
  .simp only[cMp,cMx,zZ,zY,aA,cM1];rfl
  .simp only[cMp,zZ,zY,aA,cM1];unfold bN3;cases c3:inR f.2.2.2.2.2.2.1 0 ((f.2.2.2.2.2.1.length:Int) - 1)
   .simp only[zY,aA,cNc];rfl
   .obtain⟨q,hq,hi,ht⟩:=bMk h c3;have ha:=bDg (p:=q) (x:=aKh p.2.2.2.2.2.2.2.2.2) ht;have ha:xK q ((aFd p.2.2.2.2.2.2.2.2.2).1,(aFd p.2.2.2.2.2.2.2.2.2).2.1,(aFd p.2.2.2.2.2.2.2.2.2).2.2.1)=U (qW q (aKh p.2.2.2.2.2.2.2.2.2)):=ha;simp only[zZ,hi,hq,cNh,aA,ha,cM1,bTh hf c3];cases qW q (aKh p.2.2.2.2.2.2.2.2.2)<;>rfl
def bR9(f:den tFl)(p:den tPk):tot tFl (aOm f p)<=tot tFl f+1:=by
 unfold aOm;cases (p.1==3&&(aFd p.2.2.2.2.2.2.2.2.2).2.2.2)
 .simp
 .have h1:=bWu f.2.2.2.2.2.2.2.2 (aKh p.2.2.2.2.2.2.2.2.2);have h2:=bR6 f.2.2.2.2.2.2.2.2;simp only[zZ,sE,vU];omega
def nX(h:den cH):Bool:=inR h.1 0 7&&(inR h.2.1 0 6&&(inR h.2.2.1 0 6&&(!(h.2.1==h.2.2.1)&&(inR h.2.2.2.1 0 1000000&&kO h.2.2.2.2))))
def aXw(h:den cH):rW h=U (nX h):=by
 unfold rW nX zz4;simp only[gU,aH4,aA,bne];cases inR h.1 0 7<;>cases inR h.2.1 0 6<;>cases inR h.2.2.1 0 6<;>cases h.2.1==h.2.2.1<;>cases inR h.2.2.2.1 0 1000000<;>rfl
def aRg(h:den cH):nY h=U (nX h):=by
 unfold nY nX zz4;simp only[fB,aIc,aA,bne];cases inR h.1 0 7<;>cases inR h.2.1 0 6<;>cases inR h.2.2.1 0 6<;>cases h.2.1==h.2.2.1<;>cases inR h.2.2.2.1 0 1000000<;>rfl
def aYx(n k:Nat):D ((n:Int)>(k:Int))= !D (n<=k):=by rw[cNe];simp
def aLr(l:eU):Bool:=D (l.length<=8)&&l.all nX
def cDx{l:eU}(h:l.length<=549755813888):qT l=U (aLr l):=by
 unfold qT aLr pj5;rw[aM (l:=l) (λ_ x=>if nX x then W else U Y) (by omega) (λk x hi hd hw hm hk=>by
  simp only[hd,hi,hw,zZ,aA,aD,aXw];cases nX x<;>rfl) (by simp),iL nX]
 have e:=aYx l.length 8;rw[show ((8:Nat):Int)=8 from rfl]at e;rw[e];cases D (l.length<=8)<;>cases l.all nX<;>rfl
def aGa(p:den tPp):Bool:=inR p.1 1 4&&(inR p.2.1 0 1000000&&(kO p.2.2.1&&aLr p.2.2.2))
def cI3{p:den tSg}(h:p.2.2.length<=549755813888):aAj p=U (inR p.1 0 1000000&&(kO p.2.1&&aLr p.2.2)):=by
 unfold aAj aLr pj5;rw[aM (l:=p.2.2) (λ_ x=>if nX x then W else U Y) (by omega) (λk x hi hd hw hm hk=>by
  simp only[hd,hi,hw,zZ,aA,aD,aRg];cases nX x<;>rfl) (by simp),iL nX]
 have e:=aYx p.2.2.length 8;rw[show ((8:Nat):Int)=8 from rfl]at e;rw[e,fB,aIc];cases inR p.1 0 1000000<;>cases kO p.2.1<;>cases D (p.2.2.length<=8)<;>cases p.2.2.all nX<;>rfl
def aNh(p:den tPt):Bool:=D (p.length<=3)&&p.all aGa
def cGy{p:den tPt}(h:SmB 549755813888 tPt p):qK p=U (aNh p):=by
 unfold qK aNh;rw[aM (l:=p) (λ_ x=>if aGa x then W else U Y) (cMo h.1 (by decide)) (λk x hi hd hw hm hk=>by
  have hx:=(h.2 x hm).2.2.2.1;simp only[hd,hi,hw,zZ,aA,aD,gU,aH4,cDx hx];unfold aGa;cases inR x.1 1 4<;>cases inR x.2.1 0 1000000<;>cases kO x.2.2.1<;>cases aLr x.2.2.2<;>rfl) (by simp),iL aGa]
 have e:=aYx p.length 3;rw[show ((3:Nat):Int)=3 from rfl]at e;rw[e];cases D (p.length<=3)<;>cases p.all aGa<;>rfl
def cFt{p:den tPt}(h:SmB 549755813888 tPt p):qQ p=U (aNh p):=by
 unfold qQ aNh pj3;rw[aM (l:=p) (λ_ x=>if aGa x then W else U Y) (cMo h.1 (by decide)) (λk x hi hd hw hm hk=>by
  have hx:=(h.2 x hm).2.2.2.1;have hs:=cI3 (p:=(x.2.1,x.2.2.1,x.2.2.2)) hx;simp only[hd,hi,hw,zZ,aA,aD,fB];simp only[aD]at hs;simp only[hs,aA];unfold aGa;cases inR x.1 1 4<;>cases inR x.2.1 0 1000000<;>cases kO x.2.2.1<;>cases aLr x.2.2.2<;>rfl) (by simp),iL aGa]
 have e:=aYx p.length 3;rw[show ((3:Nat):Int)=3 from rfl]at e;rw[e];cases D (p.length<=3)<;>cases p.all aGa<;>rfl
def aGw(x:den tPp):Bool:= !((x.2.2.2.length:Int)==0)
def sH(p:den tPk):Bool:=inR p.1 1 3&&(aNh p.2.2.2.1&&(dP p&&(kO p.2.2.2.2.2.2.1&&(p.2.2.2.1.all aGw&&(inR p.2.1 0 7&&(inR p.2.2.1 0 7&&(inR p.2.2.2.2.2.2.2.1 0 100000&&(inR p.2.2.2.2.2.2.2.2.1 0 100000&&D ((p.2.2.2.2.2.2.2.2.2.length:Int)<=40)))))))))
def cHv{p:den tPk}(h:aNh p.2.2.2.1=X):D (fP p<0)= !dP p:=by
 cases c:dP p with
 | false=>rw[aFt c];rfl
 | true=>
  obtain⟨i,j,x,y,h1,h2,h3,h4,h5⟩:=aI9 c;rw[h5];unfold aNh at h;have ha:=(cMu _ _▸h:_/\_).2;have hx:=cNq.1 ha x (cMw h3);unfold aGa aLr at hx;simp only[cMu]at hx;have hy:=cNq.1 hx.2.2.2.2 y (cMw h4);unfold nX at hy;simp only[cMu,bQ]at hy;have :=hy.1.1;simp;omega
def bV8{p:den tPk}(h:SmB 549755813888 tPk p):vH p=U (sH p):=by
 unfold vH sH aK zz6 zz7 zz8 zz9;rw[aM (l:=p.2.2.2.1) (λ_ x=>if aGw x then W else U Y) (cMo h.2.2.2.1.1 (by decide)) (λk x hi hd hw hm hk=>by
  simp only[hd,hi,hw,zZ,aA];unfold aGw;cases (x.2.2.2.length:Int)==0<;>rfl) (by simp),iL aGw]
 simp only[gU,aD,aMl h,cGy h.2.2.2.1,aH4,aA];cases inR p.1 1 3
 .rfl
 .cases he:aNh p.2.2.2.1
  .rfl
  .rw[cHv he];cases hz:(p.2.2.2.1.length:Int)==0
   .cases dP p<;>simp only[cMp,cMx,zZ,zY,aA,cNc,cM1];cases kO p.2.2.2.2.2.2.1<;>simp only[cMp,cMx,zZ,zY,aA,cNc,cM1];cases p.2.2.2.1.all aGw<;>cases inR p.2.1 0 7<;>cases inR p.2.2.1 0 7<;>cases inR p.2.2.2.2.2.2.2.1 0 100000<;>cases inR p.2.2.2.2.2.2.2.2.1 0 100000<;>rfl
   .have hh:dP p=Y:=by
     have hl:(p.2.2.2.1.length:Int)=0:=by simpa using hz
     unfold dP;have :inR p.2.2.2.2.1 0 ((p.2.2.2.1.length:Int) - 1)=Y:=by rw[aUu];omega
     rw[this];rfl
    rw[hh];rfl
def bXi{p:den tPk}(h:SmB 549755813888 tPk p):vF p=U (sH p):=by
 have l1:=h.2.2.2.1.1;unfold vF sH zz4 zz5 zz6 zz7 zz8 zz9;rw[aM (l:=p.2.2.2.1) (λ_ x=>if aGw x then W else U Y) (cMo h.2.2.2.1.1 (by decide)) (λk x hi hd hw hm hk=>by
  simp only[hd,hi,hw,zZ,aA];unfold aGw;cases (x.2.2.2.length:Int)==0<;>rfl) (by simp),iL aGw]
 simp only[fB,rF l1,cFt h.2.2.2.1,aIc,aA];unfold dP;cases inR p.1 1 3
 .rfl
 .cases he:aNh p.2.2.2.1
  .rfl
  .cases c1:inR p.2.2.2.2.1 0 ((p.2.2.2.1.length:Int) - 1)
   .rfl
   .rw[bQ]at c1;obtain⟨x,hx⟩:=aF2 c1.1 c1.2;have l2:=(h.2.2.2.1.2 _ (cMw hx)).2.2.2.1;rw[aI7 c1.1 hx,hx];simp only[cMp,zY,aA,cNh,rF l2,cM1];cases kO p.2.2.2.2.2.2.1<;>cases inR p.2.2.2.2.2.1 0 ((x.2.2.2.length:Int) - 1)<;>cases p.2.2.2.1.all aGw<;>cases inR p.2.1 0 7<;>cases inR p.2.2.1 0 7<;>cases inR p.2.2.2.2.2.2.2.1 0 100000<;>cases inR p.2.2.2.2.2.2.2.2.1 0 100000<;>rfl
abbrev aPm(l:lRs)(now:Int):lRs:=l.filter λx=>D (now<=x.2.2.2.2)
def bXm{l:lRs}{now:Int}(h:l.length<=68719476736):iG l now=U (aPm l now):=by
 unfold iG pj5 zz4;rw[(aDy (l:=l) (out:=λa=>a) (λ(a:lRs) x=>if D (now<=x.2.2.2.2) then a++[x] else a) (λk a=>a.length<=k) (by omega) (by simp) (λk x a hi hd hw hx hk hI=>by
  simp only[hd,hi,hw,zZ,aA]
  by_cases hp:now<=x.2.2.2.2
  .simp[hp,aC (b:=40) (n:=a.length) (m:=1) (by decide) (by omega)];omega
  .simp[hp];omega) (λa=>by simp)).1]
 simp only[aI1,cNf,aA]
def bWj{l:lRs}{now:Int}(h:l.length<=68719476736):iM l now=U (aPm l now):=by
 unfold iM pj5 zz4;rw[(aDy (l:=l) (out:=λa=>a) (λ(a:lRs) x=>if D (now<=x.2.2.2.2) then a++[x] else a) (λk a=>a.length<=k) (by omega) (by simp) (λk x a hi hd hw hx hk hI=>by
  simp only[hd,hi,hw,zZ,aA]
  by_cases hp:now<=x.2.2.2.2
  .simp[hp,aC (b:=40) (n:=a.length) (m:=1) (by decide) (by omega)];omega
  .simp[hp];omega) (λa=>by simp)).1]
 simp only[aI1,cNf,aA]
def atR(x:den tRs)(s d:Int):Bool:=x.2.1==s&&x.2.2.1==d
def bW8(x:den tRs)(s d:Int):gC x s d=U (atR x s d):=by
 unfold gC atR;cases x.2.1==s<;>simp
def cHb(x:den tRs)(s d now:Int):aE4 x s d now=U (atR x s d&&D (now<=x.2.2.2.2)):=by
 unfold aE4 atR zz4;cases x.2.1==s<;>cases x.2.2.1==d<;>simp
def aXo(l:lRs)(s d now:Int):Int:=l.foldl (λa x=>if atR x s d&&D (now<=x.2.2.2.2) then wr (a+x.2.2.2.1) else a) 0
def bSy{l:lRs}{s d now:Int}(h:l.length<=68719476736):nD l s d now=U (aXo l s d now):=by
 unfold nD pj5 zz4;rw[(aX7 (l:=l) (out:=λa=>a) (λ(a:Int) x=>if atR x s d&&D (now<=x.2.2.2.2) then wr (a+x.2.2.2.1) else a) (λ_ _=>True) (by omega) trivial (λk x a hi hd hw hx hk hI=>by
  refine⟨?_,trivial⟩;simp only[hd,hi,hw,zZ,aA];rw[show ((x.1,x.2.1,x.2.2.1,x.2.2.2.1,x.2.2.2.2):den tRs)=x from rfl,bW8];cases atR x s d<;>cases D (now<=x.2.2.2.2)<;>rfl) (λa=>by simp)).1]
 rfl
def bS2{l:lRs}{s d now:Int}(h:l.length<=68719476736):nE l s d now=U (aXo l s d now):=by
 unfold nE pj5;rw[(aX7 (l:=l) (out:=λa=>a) (λ(a:Int) x=>if atR x s d&&D (now<=x.2.2.2.2) then wr (a+x.2.2.2.1) else a) (λ_ _=>True) (by omega) trivial (λk x a hi hd hw hx hk hI=>by
  refine⟨?_,trivial⟩;simp only[hd,hi,hw,zZ,aA];rw[show ((x.1,x.2.1,x.2.2.1,x.2.2.2.1,x.2.2.2.2):den tRs)=x from rfl,cHb];cases atR x s d<;>cases D (now<=x.2.2.2.2)<;>rfl) (λa=>by simp)).1]
 rfl
def free(l:lRs)(cap s d now:Int):Int:=if wr (cap - aXo l s d now)>0 then wr (cap - aXo l s d now) else 0
def cI4{l:lRs}{cap s d now:Int}(h:l.length<=68719476736):aBw l cap s d now=U (free l cap s d now):=by
 unfold aBw;simp only[bSy h,aA,bQl];rfl
def bTm{l:lRs}{cap s d now:Int}(h:l.length<=68719476736):vZ l cap s d now=U (free l cap s d now):=by
 unfold vZ;simp only[bS2 h,aA,bFd];rfl
def aJr(l:lRs)(id s d now:Int):Int:=
 match dG (λ_ (x:den tRs)=>if x.1==id&&(atR x s d&&D (now<=x.2.2.2.2)) then U x.2.2.2.1 else W) 0 l with
 | some r=>r
 | none=>0
def bRj{l:lRs}{id s d now:Int}(h:l.length<=68719476736):nI l id s d now=U (aJr l id s d now):=by
 unfold nI pj5 zz4;rw[aM (l:=l) (λ_ (x:den tRs)=>if x.1==id&&(atR x s d&&D (now<=x.2.2.2.2)) then U x.2.2.2.1 else W) (by omega) (λk x hi hd hw hx hk=>by
  simp only[hd,hi,hw,zZ,aA];rw[show ((x.1,x.2.1,x.2.2.1,x.2.2.2.1,x.2.2.2.2):den tRs)=x from rfl,bW8];cases x.1==id<;>cases atR x s d<;>cases D (now<=x.2.2.2.2)<;>rfl) (by simp)]
 unfold aJr;cases dG (λ_ (x:den tRs)=>if x.1==id&&(atR x s d&&D (now<=x.2.2.2.2)) then U x.2.2.2.1 else W) 0 l<;>rfl
def bDu{l:lRs}{id s d now:Int}(h:l.length<=68719476736):hP l id s d now=U (aJr l id s d now):=by
 unfold hP pj5;rw[aM (l:=l) (λ_ (x:den tRs)=>if x.1==id&&(atR x s d&&D (now<=x.2.2.2.2)) then U x.2.2.2.1 else W) (by omega) (λk x hi hd hw hx hk=>by
  simp only[hd,hi,hw,zZ,aA];rw[show ((x.1,x.2.1,x.2.2.1,x.2.2.2.1,x.2.2.2.2):den tRs)=x from rfl,cHb];cases x.1==id<;>cases atR x s d<;>cases D (now<=x.2.2.2.2)<;>rfl) (by simp)]
 unfold aJr;cases dG (λ_ (x:den tRs)=>if x.1==id&&(atR x s d&&D (now<=x.2.2.2.2)) then U x.2.2.2.1 else W) 0 l<;>rfl
def aNm(x:den tRs):Bool:=inR x.1 1 100000&&(inR x.2.2.2.1 1 20&&iI (x.2.1,x.2.2.1,x.2.2.2.2))
def bYm(x:den tRs):lO x=U (aNm x):=by
 unfold lO aNm zz4;simp only[gU,aJ6,aA];cases inR x.1 1 100000<;>cases inR x.2.2.2.1 1 20<;>cases iI (x.2.1,x.2.2.1,x.2.2.2.2)<;>rfl
def bV6(x:den tRs):lP x=U (aNm x):=by
 unfold lP aNm zz4;simp only[fB,aJm,aA];cases inR x.1 1 100000<;>cases inR x.2.2.2.1 1 20<;>cases iI (x.2.1,x.2.2.1,x.2.2.2.2)<;>rfl
def aC7(x y:den tRs):Bool:=y.1==x.1&&atR y x.2.1 x.2.2.1
def bUe{l:lRs}{x:den tRs}(h:l.length<=68719476736):wP l x=U (l.filter λy=> !aC7 x y):=by
 unfold wP pj5;rw[(aDy (l:=l) (out:=λa=>a) (λ(a:lRs) y=>if !aC7 x y then a++[y] else a) (λk a=>a.length<=k) (by omega) (by simp) (λk y a hi hd hw hx hk hI=>by
  simp only[hd,hi,hw,zZ,aA];have hap:=aC (b:=40) (n:=a.length) (m:=1) (by decide) (by omega);unfold aC7 atR;simp only[bne];cases h1:y.1==x.1<;>cases h2:y.2.1==x.2.1<;>cases h3:y.2.2.1==x.2.2.1<;>simp[hap]<;>omega) (λa=>by simp)).1]
 simp only[aI1,cNf,aA]
def okR(l:lRs)(cap now:Int)(k:Nat)(x:den tRs):Bool:=aNm x&&(!D (aXo l x.2.1 x.2.2.1 now>cap)&& !(l.take k).any (aC7 x))
def aJ1(l:lRs)(cap now:Int):Bool:=
 D (l.length<=40)&&(dG (λk x=>if okR l cap now k x then W else U ()) 0 l).isNone
def aEo{α R S:Type}(p:Nat->α->Bool)(r:R)(s:S):∀(l:List α) (k:Nat),(dG (λk x=>if p k x then W else U r) k l).isNone=(dG (λk x=>if p k x then W else U s) k l).isNone/\ ∀q,dG (λk x=>if p k x then W else U r) k l=U q->q=r
 | [],_=>⟨rfl,λq h=>by cases h⟩
 | x::xs,k=>by
  simp only[dG];cases p k x with
  | true=>simpa using aEo p r s xs (k+1)
  | false=>simp
def bQe{α:Type}(p:Nat->α->Bool)(l:List α):(match dG (λk x=>if p k x then W else U Y) 0 l with
  | some r=>U r
  | none=>U X)=U (dG (λk x=>if p k x then W else U ()) 0 l).isNone:=by
 obtain⟨h1,h2⟩:=aEo p Y () l 0;rw[<- h1];cases h:dG (λk x=>if p k x then W else U Y) 0 l with
 | none=>rfl
 | some q=>rw[h2 q h];rfl
def bTx{l:lRs}{cap now:Int}(h:l.length<=68719476736):jL l cap now=U (aJ1 l cap now):=by
 unfold jL aJ1 pj5
 by_cases hl:l.length<=40
 .rw[zW (by omega),zY,zX hl,cM1];rw[aM (l:=l) (λk x=>if okR l cap now k x then W else U Y) (by omega) (λk x hi hd hw hx hk=>by
   have hslo:bH (0:Int) (k:Int) (l.length:Int)=X:=by simp[bH];omega
   have hlen:(l.take k).length<=68719476736:=by simp;omega
   simp only[hd,hi,hw,zZ,aA,hslo,fL];rw[show ((x.1,x.2.1,x.2.2.1,x.2.2.2.1,x.2.2.2.2):den tRs)=x from rfl,bYm,bSy h];unfold okR;cases hv:aNm x with
   | false=>rfl
   | true=>
    cases hr:D (aXo l x.2.1 x.2.2.1 now>cap) with
    | true=>simp[hr]
    | false=>
     simp only[aA,cMp,zY,hr,cMx,cM1];rw[aM (l:=l.take k) (R:=Int⊕(Unit⊕Bool)) (λ_ y=>if aC7 x y then U (cMm (cMm Y)) else W) (by omega) (λj y hi2 hd2 hw2 hx2 hk2=>by
      simp only[hd2,hi2,hw2,zZ,aA];rw[show ((y.1,y.2.1,y.2.2.1,y.2.2.2.1,y.2.2.2.2):den tRs)=y from rfl,bW8];unfold aC7;cases y.1==x.1<;>cases atR y x.2.1 x.2.2.1<;>rfl) (by simp)]
     have key:∀(m:lRs) (j:Nat),dG (λ_ y=>if aC7 x y then U (cMm (cMm Y):Int⊕(Unit⊕Bool)) else W) j m=if m.any (aC7 x) then U (cMm (cMm Y)) else W:=by
      intro m
      induction m with
      | nil=>intro j;rfl
      | cons y m ih=>
       intro j;simp only[dG,List.any_cons];rcases cPc (aC7 x y) with hs | hs
       .simp[hs]
       .simp only[hs,ih,cMr,zU];rfl
     rw[key];cases (l.take k).any (aC7 x)<;>simp) (by simp)]
  rw[<- bQe];cases dG (λk x=>if okR l cap now k x then W else U Y) 0 l<;>rfl
 .rw[zX (by omega),zZ,zW hl];rfl
def bTw{l:lRs}{cap now:Int}(h:l.length<=68719476736):jK l cap now=U (aJ1 l cap now):=by
 unfold jK aJ1 pj5;rw[aM (l:=l) (λk x=>if okR l cap now k x then W else U Y) (by omega) (λk x hi hd hw hx hk=>by
  have hslo:bH (0:Int) (k:Int) (l.length:Int)=X:=by simp[bH];omega
  have hlen:(l.take k).length<=68719476736:=by simp;omega
  simp only[hd,hi,hw,zZ,aA,hslo,fL];rw[show ((x.1,x.2.1,x.2.2.1,x.2.2.2.1,x.2.2.2.2):den tRs)=x from rfl,bV6,bUe hlen,bS2 h];unfold okR;cases hv:aNm x with
  | false=>rfl
  | true=>
   simp only[aA,cMp,zY,cM1];have hany:((((l.take k).filter λy=> !aC7 x y).length:Int) != (k:Int))=(l.take k).any (aC7 x):=by
    have hk':(l.take k).length=k:=by simp;omega
    cases ha:(l.take k).any (aC7 x) with
    | false=>
     have :(l.take k).filter (λy=> !aC7 x y)=l.take k:=by
      rw[List.filter_eq_self];intro y hy;have :=List.any_eq_false.1 ha y hy;simpa using this
     rw[this,hk'];simp
    | true=>
     obtain⟨y,hy,hs⟩:=List.any_eq_true.1 ha;have hlt:((l.take k).filter λy=> !aC7 x y).length<(l.take k).length:=by
      refine Nat.lt_of_le_of_ne (cOq ..) λhe=> ?_
      have :=(List.length_filter_eq_length_iff.1 he) y hy;rw[hs]at this;cases this
     rw[bne_iff_ne];omega
   rw[hany];cases (l.take k).any (aC7 x)<;>cases D (aXo l x.2.1 x.2.2.1 now>cap)<;>rfl) (by simp)]
 obtain⟨h1,h2⟩:=aEo (okR l cap now) Y () l 0;rw[<- h1];cases hsc:dG (λk x=>if okR l cap now k x then W else U Y) 0 l with
 | none=>simp;omega
 | some q=>rw[h2 q hsc];simp
def aOh(id s d:Int)(x:den tUs):Bool:=x.1==id&&(x.2.1==s&&x.2.2.1==d)
def place(l:lUs)(id s d:Int):Int:=
 match dG (λk x=>if aOh id s d x then U (k:Int) else W) 0 l with
 | some i=>i
 | none=> -1
def aQf(l:lUs)(id s d:Int):place l id s d= -1\/ ∃(j:Nat) (x:den tUs),place l id s d=(j:Int)/\l[j]? =U x/\j<l.length:=by
 unfold place;cases h:dG (λk x=>if aOh id s d x then U (k:Int) else W) 0 l with
 | none=>exact .inl rfl
 | some i=>
  obtain⟨j,x,h1,h2,h3⟩:=aWv h;exact .inr ⟨j,x,by simpa using h2,h1,(cM0.1 h1).1⟩
def bB8{g:den tSc}{id s d:Int}(h:g.2.2.length<=68719476736):vN g id s d=U (place g.2.2 id s d):=by
 unfold vN;rw[aM (l:=g.2.2) (λk x=>if aOh id s d x then U (k:Int) else W) (by omega) (λk x hi hd hw hx hk=>by
  simp only[hd,hi,hw,zZ,aA];unfold aOh;cases x.1==id<;>cases x.2.1==s<;>cases x.2.2.1==d<;>rfl) (by simp)]
 unfold place;cases dG (λk x=>if aOh id s d x then U (k:Int) else W) 0 g.2.2<;>rfl
def bBi{l:lUs}{id s d:Int}(h:l.length<=68719476736):sD l id s d=U (place l id s d):=by
 unfold sD;rw[aM (l:=l) (λk x=>if aOh id s d x then U (k:Int) else W) (by omega) (λk x hi hd hw hx hk=>by
  simp only[hd,hi,hw,zZ,aA];unfold aOh;cases x.1==id<;>cases x.2.1==s<;>cases x.2.2.1==d<;>rfl) (by simp)]
 unfold place;cases dG (λk x=>if aOh id s d x then U (k:Int) else W) 0 l<;>rfl
def aFj(g:den tSc)(id s d now:Int):Int:=if id==0 then free g.2.1 g.1 s d now else aJr g.2.1 id s d now
def bLw{g:den tSc}{id s d now:Int}(h:g.2.1.length<=68719476736):aCp g id s d now=U (aFj g id s d now):=by
 unfold aCp aFj;rw[cI4 h,bRj h];cases id==0<;>rfl
def okU(g:den tSc)(now:Int)(k:Nat)(x:den tUs):Bool:=place g.2.2 x.1 x.2.1 x.2.2.1==(k:Int)&&inR x.2.2.2 1 (aFj g x.1 x.2.1 x.2.2.1 now)
def aJh(g:den tSc)(now:Int):Bool:=inR g.1 1 20&&(aJ1 g.2.1 g.1 now&&(dG (λk x=>if okU g now k x then W else U ()) 0 g.2.2).isNone)
def bXa{g:den tSc}{now:Int}(h1:g.2.1.length<=68719476736)(h2:g.2.2.length<=68719476736):oU g now=U (aJh g now):=by
 unfold oU aJh pj3;rw[aM (l:=g.2.2) (λk x=>if okU g now k x then W else U Y) (by omega) (λk x hi hd hw hx hk=>by
  simp only[hd,hi,hw,zZ,aA];rw[show ((g.1,g.2.1,g.2.2):den tSc)=g from rfl,bB8 h2,bLw h1];unfold okU;simp only[aA,gU,bne];cases place g.2.2 x.1 x.2.1 x.2.2.1==(k:Int)<;>cases inR x.2.2.2 1 (aFj g x.1 x.2.1 x.2.2.1 now)<;>rfl) (by simp)]
 rw[<- aEo (okU g now) Y () g.2.2 0 |>.1];have h3:=(aEo (okU g now) Y () g.2.2 0).2;simp only[gU,bTx h1,aA];cases inR g.1 1 20<;>cases aJ1 g.2.1 g.1 now<;>(cases hsc:dG (λk x=>if okU g now k x then W else U Y) 0 g.2.2 with
  | none=>rfl
  | some q=>rw[h3 q hsc];rfl)
def bYw{g:den tSc}{now:Int}(h1:g.2.1.length<=68719476736)(h2:g.2.2.length<=68719476736):pA g now=U (aJh g now):=by
 unfold pA aJh;rw[aM (l:=g.2.2) (λk x=>if okU g now k x then W else U Y) (by omega) (λk x hi hd hw hx hk=>by
  simp only[hd,hi,hw,zZ,aA,bBi h2,bTm h1,bDu h1,fB];unfold okU aFj;simp only[bne];cases x.1==0<;>simp only[zZ,zY,aA,fB,zV,cMr,zU]<;>cases place g.2.2 x.1 x.2.1 x.2.2.1==(k:Int)<;>simp only[cMp,cMx,zZ,zY,aA,cM1,cNc]<;>(first | rfl | (split<;>simp_all))) (by simp)]
 rw[<- aEo (okU g now) Y () g.2.2 0 |>.1];have h3:=(aEo (okU g now) Y () g.2.2 0).2;simp only[fB,bTw h1,aA];cases inR g.1 1 20<;>cases aJ1 g.2.1 g.1 now<;>(cases hsc:dG (λk x=>if okU g now k x then W else U Y) 0 g.2.2 with
  | none=>rfl
  | some q=>rw[h3 q hsc];rfl)
def dN{n:Nat}(h:n<=549755813888):wr ((n:Int) - 1)=(n:Int) - 1:=wri (by omega) (by omega)
def cK(t:den tTo)(r:Int):Bool:=inR r 0 ((t.1.length:Int) - 1)
def aBy{t:den tTo}{r:Int}(h:t.1.length<=549755813888):fT t r=U (cK t r):=by
 unfold fT cK;rw[dN h,gU];rfl
def aDg{t:den tTo}{r:Int}(h:t.1.length<=549755813888):cW t r=U (cK t r):=by
 unfold cW cK;rw[dN h,fB];rfl
def cKz(n:Int):aCk n=U (inR n 1 2147483646):=by unfold aCk;rw[gU];rfl
def cJ2(n:Int):aBo n=U (inR n 1 2147483646):=by unfold aBo;rw[fB];rfl
def mG(l:den tLk)(r d:Int):Bool:=(l.1==r&&l.2.1==d)||(l.2.2.1==r&&l.2.2.2.1==d)
def bLg(l:den tLk)(r d:Int):iV l r d=U (mG l r d):=by
 unfold iV mG;cases l.1==r<;>cases l.2.1==d<;>cases l.2.2.1==r<;>cases l.2.2.2.1==d<;>rfl
def bLi(l:den tLk)(r d:Int):aA4 l r d=U (mG l r d):=by
 unfold aA4 mG;cases l.1==r<;>cases l.2.1==d<;>cases l.2.2.1==r<;>cases l.2.2.2.1==d<;>rfl
def bBx(k:Int)(x y:den tAS):Bool:=cond (k==1) (x.2.1&&y.2.1) (cond (k==2) (x.1==y.1&& !y.2.1) (cond (k==3) (!x.2.1&& !y.2.1) Y))
def aRr(t:den tTo)(l:den tLk):Bool:=
 cK t l.1&&(cK t l.2.2.1&&(!D (l.1>=l.2.2.1)&&(inR l.2.1 1 6&&(inR l.2.2.2.1 1 6&&bBx l.2.2.2.2 ((t.1[l.1.toNat]?).getD (0,Y,0)) ((t.1[l.2.2.1.toNat]?).getD (0,Y,0))))))
def aHd{t:den tTo}{r:Int}(h:cK t r=X):∃x,t.1[r.toNat]? =U x/\idx t.1 r=U x:=by
 obtain⟨h0,h1⟩:=bQ.1 h;obtain⟨x,hx⟩:=aF2 h0 h1;exact⟨x,hx,aI7 h0 hx⟩
def cE9{t:den tTo}{l:den tLk}(h:t.1.length<=549755813888):aFx t l=U (aRr t l):=by
 unfold aFx aRr pj2 pj3 zz4;simp only[aD,aBy h,gU,aA];cases c1:cK t l.1
 .rfl
 .cases c2:cK t l.2.2.1
  .rfl
  .obtain⟨x,hx,ix⟩:=aHd c1;obtain⟨y,hy,iy⟩:=aHd c2;rw[ix,iy,hx,hy];simp only[bB,cB,bL,bJ,bO,aA,cNh,cMp,zY,cM1];unfold bBx;cases D (l.1>=l.2.2.1)
   .cases inR l.2.1 1 6
    .rfl
    .cases inR l.2.2.2.1 1 6
     .rfl
     .cases l.2.2.2.2==1
      .cases l.2.2.2.2==2
       .cases l.2.2.2.2==3
        .rfl
        .cases x.2.1<;>rfl
       .cases x.1==y.1<;>rfl
      .cases x.2.1<;>rfl
   .rfl
def cE7{t:den tTo}{l:den tLk}(h:t.1.length<=549755813888):aCj t l=U (aRr t l):=by
 unfold aCj aRr pj2 zz4;simp only[aD,aDg h,fB,aA];cases c1:cK t l.1
 .rfl
 .cases c2:cK t l.2.2.1
  .rfl
  .obtain⟨x,hx,ix⟩:=aHd c1;obtain⟨y,hy,iy⟩:=aHd c2;rw[ix,iy,hx,hy];simp only[aA,cNh,cMp,zY,cM1];unfold bBx;cases D (l.1>=l.2.2.1)
   .cases inR l.2.1 1 6
    .rfl
    .cases inR l.2.2.2.1 1 6
     .rfl
     .cases l.2.2.2.2==1
      .cases l.2.2.2.2==2
       .cases l.2.2.2.2==3
        .rfl
        .cases x.2.1<;>rfl
       .cases x.1==y.1<;>rfl
      .cases x.2.1<;>rfl
   .rfl
def asP(t:den tTo)(k:Nat)(x:den tAS):Bool:=inR x.1 0 2&&(inR x.2.2 1 2147483646&&(t.1.take k).all λy=> !(x.2.2==y.2.2))
def lkP(t:den tTo)(k:Nat)(x:den tLk):Bool:=aRr t x&&(t.2.take k).all λy=> !(mG y x.1 x.2.1||mG y x.2.2.1 x.2.2.2.1)
def mM(t:den tTo):Bool:=inR (t.1.length:Int) 1 8&&((t.1.zipIdx 0).all (λz=>asP t z.2 z.1)&&(t.2.zipIdx 0).all λz=>lkP t z.2 z.1)
def aD1{k n:Nat}(h:k<n):bH (0:Int) (k:Int) (n:Int)=X:=by
 have :=aAz (a:=0) (b:=k) (n:=n);rw[show ((0:Nat):Int)=0 from rfl]at this;rw[this];simp;omega
def bIp{α:Type}{l:List α}{k j:Nat}{x:α}(h:idx (l.take k) (j:Int)=U x):idx l (j:Int)=U x:=by
 rw[aR]at h ⊢;exact (aRj h).1
def aCx{α:Type}{l:List α}{k:Nat}(h:k<l.length):(l.take k).length=k:=by simp;omega
def aNz{t:den tTo}(h:SmB 549755813888 tTo t):cR t=U (mM t):=by
 have l1:=h.1.1;have l2:=h.2.1;unfold cR mM pj2 pj5;rw[aM (l:=t.1) (λk x=>if asP t k x then W else U Y) (cMo l1 (by decide)) (λk x hi hd hw hm hk=>by
  simp only[hd,hi,zZ,aA,gU,cKz,aD1 hk,fL,hw];rw[aM (l:=t.1.take k) (λ_ y=>if !(x.2.2==y.2.2) then W else U (cMm (cMm Y))) (by rw[aCx hk];omega) (λj y hi hd hw hm hk=>by
   simp only[hd,hi,hw,zZ,aA];cases x.2.2==y.2.2<;>rfl) (by simp),iL (λy:den tAS=> !(x.2.2==y.2.2))]
  unfold asP;cases inR x.1 0 2<;>cases inR x.2.2 1 2147483646<;>cases (t.1.take k).all (λy=> !(x.2.2==y.2.2))<;>rfl) (by simp),aEa (asP t)]
 rw[aM (l:=t.2) (λk x=>if lkP t k x then W else U Y) (cMo l2 (by decide)) (λk x hi hd hw hm hk=>by
  simp only[hd,hi,zZ,aA,aD,cE9 l1,aD1 hk,fL,hw];rw[aM (l:=t.2.take k) (λ_ y=>if !(mG y x.1 x.2.1||mG y x.2.2.1 x.2.2.2.1) then W else U (cMm (cMm Y))) (by rw[aCx hk];omega) (λj y hi hd hw hm hk=>by
   simp only[hd,hi,hw,zZ,aA,aD,bLg];cases mG y x.1 x.2.1<;>cases mG y x.2.2.1 x.2.2.2.1<;>rfl) (by simp),iL (λy:den tLk=> !(mG y x.1 x.2.1||mG y x.2.2.1 x.2.2.2.1))]
  unfold lkP;cases aRr t x<;>cases (t.2.take k).all (λy=> !(mG y x.1 x.2.1||mG y x.2.2.1 x.2.2.2.1))<;>rfl) (by simp),aEa (lkP t)]
 rw[gU,aA];cases inR (t.1.length:Int) 1 8<;>cases (t.1.zipIdx 0).all (λz=>asP t z.2 z.1)<;>cases (t.2.zipIdx 0).all (λz=>lkP t z.2 z.1)<;>rfl
def bVz(a b:Int):(a==b)=(b==a):=by rw[cNe];simp;exact eq_comm
def aFo{t:den tTo}(h:SmB 549755813888 tTo t):bY t=U (mM t):=by
 have l1:=h.1.1;have l2:=h.2.1;unfold bY mM pj2 pj5;rw[aM (l:=t.1) (λk x=>if asP t k x then W else U Y) (cMo l1 (by decide)) (λk x hi hd hw hm hk=>by
  simp only[hd,hi,zZ,aA,fB,cJ2,hw];rw[aM (l:=t.1.take k) (λ_ y=>if !(x.2.2==y.2.2) then W else U (cMm (cMm Y))) (by rw[aCx hk];omega) (λj y hi2 hd hw hm hk2=>by
   rw[aCx hk]at hd;simp only[hd,bIp hi2,hi,hw,zZ,aA,bVz y.2.2 x.2.2];cases x.2.2==y.2.2<;>rfl) (by rw[aCx hk];simp),iL (λy:den tAS=> !(x.2.2==y.2.2))]
  unfold asP;cases inR x.1 0 2<;>cases inR x.2.2 1 2147483646<;>cases (t.1.take k).all (λy=> !(x.2.2==y.2.2))<;>rfl) (by simp),aEa (asP t)]
 rw[aM (l:=t.2) (λk x=>if lkP t k x then W else U Y) (cMo l2 (by decide)) (λk x hi hd hw hm hk=>by
  simp only[hd,hi,zZ,aA,aD,cE7 l1,hw];rw[aM (l:=t.2.take k) (λ_ y=>if !(mG y x.1 x.2.1||mG y x.2.2.1 x.2.2.2.1) then W else U (cMm (cMm Y))) (by rw[aCx hk];omega) (λj y hi2 hd hw hm hk2=>by
   rw[aCx hk]at hd;simp only[hd,bIp hi2,hi,hw,zZ,aA,aD,bLi];cases mG y x.1 x.2.1<;>cases mG y x.2.2.1 x.2.2.2.1<;>rfl) (by rw[aCx hk];simp),iL (λy:den tLk=> !(mG y x.1 x.2.1||mG y x.2.2.1 x.2.2.2.1))]
  unfold lkP;cases aRr t x<;>cases (t.2.take k).all (λy=> !(mG y x.1 x.2.1||mG y x.2.2.1 x.2.2.2.1))<;>rfl) (by simp),aEa (lkP t)]
 rw[fB,aA];cases inR (t.1.length:Int) 1 8<;>cases (t.1.zipIdx 0).all (λz=>asP t z.2 z.1)<;>cases (t.2.zipIdx 0).all (λz=>lkP t z.2 z.1)<;>rfl
def xOk(x:den tIb):Bool:=inR x.1 0 7&&(inR x.2.1 0 7&&(!(x.1==x.2.1)&&((x.2.2.1==(x.2.2.2.length:Int))&&(D (x.2.2.1<=20)&&x.2.2.2.all λm=>D (m.length<=40)))))
def cKc(a b:Int):D (a>b)= !D (a<=b):=by rw[cNe];simp
def cKo{x:den tIb}(h:x.2.2.2.length<=549755813888):xB x=U (xOk x):=by
 unfold xB xOk;rw[aM (l:=x.2.2.2) (λ_ m=>if D (m.length<=40) then W else U Y) (by omega) (λk m hi hd hw hx hk=>by
  simp only[hd,hi,hw,zZ,aA]
  by_cases hm:m.length<=40
  .simp[hm,show ¬ ((m.length:Int)>40) by omega]
  .simp[hm,show (m.length:Int)>40 by omega]) (by simp),iL (λm:List Int=>D (m.length<=40))]
 simp only[gU,aA,bne,cKc];cases inR x.1 0 7<;>cases inR x.2.1 0 7<;>cases x.1==x.2.1<;>cases x.2.2.1==(x.2.2.2.length:Int)<;>cases D (x.2.2.1<=20)<;>cases x.2.2.2.all (λm=>D (m.length<=40))<;>rfl
def cKk{x:den tIb}(h:x.2.2.2.length<=549755813888):xA x=U (xOk x):=by
 unfold xA xOk;rw[aM (l:=x.2.2.2) (λ_ m=>if D (m.length<=40) then W else U Y) (by omega) (λk m hi hd hw hx hk=>by
  simp only[hd,hi,hw,zZ,aA]
  by_cases hm:m.length<=40
  .simp[hm,show ¬ ((m.length:Int)>40) by omega]
  .simp[hm,show (m.length:Int)>40 by omega]) (by simp),iL (λm:List Int=>D (m.length<=40))]
 simp only[fB,aA,bne];cases inR x.1 0 7<;>cases inR x.2.1 0 7<;>cases x.1==x.2.1<;>cases x.2.2.1==(x.2.2.2.length:Int)<;>cases D (x.2.2.1<=20)<;>cases x.2.2.2.all (λm=>D (m.length<=40))<;>rfl
def aUn{t:den tTo}(h:SmB 549755813888 tTo t):eO t=U t:=by
 unfold eO pj2;simp only[aC (b:=24) (n:=([]:lAS).length) (m:=t.1.length) (by decide) (by simpa using h.1.1),aC (b:=40) (n:=([]:lLk).length) (m:=t.2.length) (by decide) (by simpa using h.2.1),zZ,bB,cB,bL,bJ,bO,aA,cNf,aD]
def aUz{t:den tTo}(h:SmB 549755813888 tTo t):lZ t=U t:=by
 unfold lZ pj2;simp only[aC (b:=24) (n:=([]:lAS).length) (m:=t.1.length) (by decide) (by simpa using h.1.1),aC (b:=40) (n:=([]:lLk).length) (m:=t.2.length) (by decide) (by simpa using h.2.1),zZ,bB,cB,bL,bJ,bO,aA,cNf,aD]
def aH1{x:den tSg}(h:x.2.2.length<=549755813888):cG x=U x:=by
 unfold cG;rw[bBq h];rfl
def aGs{x:den tSg}(h:x.2.2.length<=549755813888):eB x=U x:=by
 unfold eB;rw[aC (b:=40) (n:=([]:eU).length) (by decide) (by simpa using h)];rfl
def aHu{l:lSg}(h:SmB 549755813888 (.sl tSg) l):dY l=U l:=by
 unfold dY pj3;rw[(jG (λk (a:lSg)=>((k:Int),a)) ((0:Int),[]) [] l (λ_ x a=>a++[x]) cMy (λ_=>1) 549755813888 id rfl (cMo h.1 (by decide)) (by rw[cS];simpa using h.1) (λk x a hi hx hd hw hk hb=>by
  have e:=h.2 x (cMw hx);simp only[hd,hi,hw,zZ,aA,aD,aH1 e.2.2.1,aC (b:=40) (by decide) hb];simp) (λa=>by simp)).1,dQ (λx=>x)]
 simp
def aJx{l:lSg}(h:SmB 549755813888 (.sl tSg) l):iC l=U l:=by
 unfold iC pj3;rw[(jG (λk (a:lSg)=>((k:Int),a)) ((0:Int),[]) [] l (λ_ x a=>a++[x]) cMy (λ_=>1) 549755813888 id rfl (cMo h.1 (by decide)) (by rw[cS];simpa using h.1) (λk x a hi hx hd hw hk hb=>by
  have e:=h.2 x (cMw hx);simp only[hd,hi,hw,zZ,aA,aD,aGs e.2.2.1,aC (b:=40) (by decide) hb];simp) (λa=>by simp)).1,dQ (λx=>x)]
 simp
def cJj(c:Int):sN c=U (cond (inR c 1 20) c 1,[],[]):=by
 unfold sN;rw[gU];cases inR c 1 20<;>rfl
def cFj(c:Int):sQ c=U (cond (inR c 1 20) c 1,[],[]):=by
 unfold sQ;rw[fB];cases inR c 1 20<;>rfl
def aOq(t:den tTo)(now:Int):Bool:=mM t&&inR now 0 1000000
def cGn{t:den tTo}{k:den tDb}{c now:Int}(ht:SmB 549755813888 tTo t)(hk:SmB 549755813888 tDb k):tV t k c now=U (cond (aOq t now) (cond (inR c 1 20) c 1,now,0,t.1,t.2,k.1,k.2,[],[],[],[],[],[]) (0,0,0,[],[],[],[],[],[],[],[],[],[])):=by
 unfold tV mS aOq pj2;simp only[aD,aNz ht,gU,aUn ht,aHu hk.1,aHu hk.2,cJj,aA];cases mM t<;>cases inR now 0 1000000<;>rfl
def cH1{t:den tTo}{k:den tDb}{c now:Int}(ht:SmB 549755813888 tTo t)(hk:SmB 549755813888 tDb k):rS t k c now=U (cond (aOq t now) (cond (inR c 1 20) c 1,now,0,t.1,t.2,k.1,k.2,[],[],[],[],[],[]) (0,0,0,[],[],[],[],[],[],[],[],[],[])):=by
 unfold rS aOq pj2;simp only[aD,aFo ht,fB,aUz ht,aJx hk.1,aJx hk.2,cFj,aA];cases mM t<;>cases inR now 0 1000000<;>rfl
def yI(a b:Int)(x:den tIb):Bool:=x.1==a&&x.2.1==b
def aS2{α:Type}(p:α->Bool):∀(l:List α) (k:Nat),dG (λk x=>if p x then U (k:Int) else W) k l=(l.findIdx? p).map (λi=>((k+i:Nat):Int))
 | [],_=>rfl
 | x::xs,k=>by
  simp only[dG,List.findIdx?_cons];cases h:p x with
  | true=>simp
  | false=>
   simp only[cMr,zU];rw[aS2 p xs (k+1)];cases xs.findIdx? p with
   | none=>rfl
   | some i=>simp<;>omega
def oA(l:lIb)(a b:Int):Int:=((l.findIdx? (yI a b)).map (λi=>((0+i:Nat):Int))).getD (-1)
def bAt{l:lIb}{a b:Int}(h:l.length<=549755813888):mU l a b=U (oA l a b):=by
 unfold mU oA;rw[aM (l:=l) (λk x=>if yI a b x then U (k:Int) else W) (by omega) (λk x hi hd hw hm hk=>by
  simp only[hd,hi,hw,zZ,aA];unfold yI;cases x.1==a<;>cases x.2.1==b<;>rfl) (by simp),aS2 (yI a b)]
 cases l.findIdx? (yI a b)<;>rfl
def bT4{l:lIb}{a b:Int}{k:Nat}:oA l a b=(k:Int)↔(∃x,l[k]? =U x/\yI a b x=X)/\ ∀j,j<k-> ∀y,l[j]? =U y->yI a b y=Y:=by
 unfold oA;cases h:l.findIdx? (yI a b) with
 | none=>
  have hn:=List.findIdx?_eq_none_iff.1 h;constructor
  .intro e;exfalso;revert e;simp only[Option.map_none,Option.getD_none];omega
  .rintro⟨⟨x,hx,hp⟩,_⟩
   have :=hn x (cMw hx);rw[hp]at this;cases this
 | some i=>
  obtain⟨hi,hp,hj⟩:=List.findIdx?_eq_some_iff_getElem.1 h;simp only[Option.map_some,cNh,cNo];constructor
  .intro e;have e:i=k:=by omega
   subst e;refine⟨⟨l[i],cMz hi,hp⟩,λj hlt y hy=> ?_⟩;have h2:=hj j hlt;have h3:l[j]? =U l[j]:=cMz (by omega);rw[h3]at hy;injection hy with hy;subst hy
   simpa using h2
  .rintro⟨⟨x,hx,hp2⟩,hl⟩
   have hik:i=k:=by
    rcases Nat.lt_trichotomy i k with c | c | c
    .have :=hl i c l[i] (cMz hi);rw[hp]at this;cases this
    .exact c
    .have h2:=hj k c;obtain⟨hk,e⟩:=cM0.1 hx;rw[e,hp2]at h2;simp at h2
   rw[hik]
def aDb(w:den tNw)(k:Nat)(f:den tFl):Bool:=match w.2.2.2.2.2.2.2.1[k]? with
 | some x=>tW f&&(cK w.1 f.1&&(cK w.1 f.2.1&&(xOk x&&aH9 f x)))
 | none=>Y
def aHq(f g:den tFl):Bool:=g.1==f.1&&g.2.1==f.2.1
def aL3(w:den tNw)(k:Nat)(f:den tFl):Bool:=(w.2.2.2.2.2.2.1.take k).all λg=> !aHq f g
def aOg(w:den tNw)(k:Nat)(f:den tFl):Bool:=oA w.2.2.2.2.2.2.2.1 f.2.1 f.1==(k:Int)
def aXa{w:den tNw}{k:Nat}{f:den tFl}(h:aDb w k f=X):∃x,w.2.2.2.2.2.2.2.1[k]? =U x/\x.1=f.2.1/\x.2.1=f.1:=by
 unfold aDb at h;cases hx:w.2.2.2.2.2.2.2.1[k]? with
 | none=>rw[hx]at h;cases h
 | some x=>
  rw[hx]at h;unfold aH9 at h;simp only[cMu,beq_iff_eq]at h;exact⟨x,rfl,h.2.2.2.2.1,h.2.2.2.2.2.1⟩
def aVq{w:den tNw}(hA:∀k f,w.2.2.2.2.2.2.1[k]? =U f->aDb w k f=X){k:Nat}{f:den tFl}(hf:w.2.2.2.2.2.2.1[k]? =U f):aL3 w k f=aOg w k f:=by
 have hk:=(cM0.1 hf).1;rw[cNe];unfold aL3 aOg;rw[cNq,beq_iff_eq,bT4];constructor
 .intro h;obtain⟨x,hx,e1,e2⟩:=aXa (hA k f hf);refine⟨⟨x,hx,by unfold yI;rw[e1,e2];simp⟩,λj hj y hy=> ?_⟩;have hg:w.2.2.2.2.2.2.1[j]? =U w.2.2.2.2.2.2.1[j]:=cMz (by omega);obtain⟨x2,hx2,d1,d2⟩:=aXa (hA j _ hg);rw[hx2]at hy;injection hy with hy;subst hy
  have hm:w.2.2.2.2.2.2.1[j]∈w.2.2.2.2.2.2.1.take k:=cMw (i:=j) (by rw[List.getElem?_take_of_lt hj];exact hg);have :=h _ hm;unfold aHq at this;unfold yI;rw[d1,d2]
  revert this
  generalize (w.2.2.2.2.2.2.1[j].1==f.1)=p;generalize (w.2.2.2.2.2.2.1[j].2.1==f.2.1)=q;cases p<;>cases q<;>simp
 .rintro⟨_,h⟩ g hg
  obtain⟨j,hj⟩:=List.mem_iff_getElem?.1 hg;obtain⟨hj1,hj2⟩:=aRj hj;obtain⟨x2,hx2,d1,d2⟩:=aXa (hA j g hj1);have :=h j hj2 x2 hx2;unfold yI at this;rw[d1,d2]at this;unfold aHq
  revert this
  generalize (g.1==f.1)=p;generalize (g.2.1==f.2.1)=q;cases p<;>cases q<;>simp
def aJ9{α:Type}(p:Nat->α->Bool)(l:List α):(l.zipIdx 0).all (λz=>p z.2 z.1)=X↔ ∀k x,l[k]? =U x->p k x=X:=by
 rw[cNq];constructor
 .intro h k x hx;exact h (x,k) (List.mem_zipIdx_iff_getElem?.2 (by simpa using hx))
 .rintro h ⟨x,k⟩ hz
  exact h k x (by simpa using List.mem_zipIdx_iff_getElem?.1 hz)
def bPa(w:den tNw):(w.2.2.2.2.2.2.1.zipIdx 0).all (λz=>aDb w z.2 z.1&&aL3 w z.2 z.1)=(w.2.2.2.2.2.2.1.zipIdx 0).all (λz=>aDb w z.2 z.1&&aOg w z.2 z.1):=by
 rw[cNe,aJ9 (λk f=>aDb w k f&&aL3 w k f),aJ9 (λk f=>aDb w k f&&aOg w k f)];simp only[cMu];constructor
 .intro h k f hf;exact⟨(h k f hf).1,by rw[<- aVq (λk f hf=>(h k f hf).1) hf];exact (h k f hf).2⟩
 .intro h k f hf;exact⟨(h k f hf).1,by rw[aVq (λk f hf=>(h k f hf).1) hf];exact (h k f hf).2⟩
def aCh(l:List Int)(m:Nat)(k:Nat)(n:Int):Bool:=inR n 0 ((m:Int) - 1)&&(D (k=0)|| !D ((l[k - 1]?).getD 0>=n))
def aFe(w:den tNw):Bool:=
 mM w.1&&(inR w.2.2.2.1 0 1000000&&(aJh w.2.2.1 w.2.2.2.1&&((w.2.2.2.2.1.zipIdx 0).all (λz=>aCh w.2.2.2.2.1 w.1.2.length z.2 z.1)&&(D (w.2.2.2.2.2.1.length<=150)&&(D (w.2.2.2.2.2.2.1.length<=4)&&(D (w.2.2.2.2.2.2.2.1.length=w.2.2.2.2.2.2.1.length)&&(!D (w.2.2.2.2.2.2.2.2<0)&&
  (w.2.2.2.2.2.1.all (λx=>cK w.1 x.1)&&(w.2.2.2.2.2.2.1.zipIdx 0).all (λz=>aDb w z.2 z.1&&aL3 w z.2 z.1)))))))))
def bAg(n k:Nat):D ((n:Int)>(k:Int))= !D (n<=k):=by rw[cNe];simp
def bTc(a b:Nat):((a:Int) != (b:Int))= !D (a=b):=by rw[cNe];simp;omega
def bDk{l:List Int}{k:Nat}(hk:k<l.length)(h0:0<k)(hl:l.length<=549755813888):idx l (wr ((k:Int) - 1))=U ((l[k - 1]?).getD 0):=by
 have e:wr ((k:Int) - 1)=((k - 1:Nat):Int):=by
  have :wr ((k:Int) - 1)=(k:Int) - 1:=wri (by omega) (by omega);rw[this];omega
 rw[e,aR,cMz (show k - 1<l.length by omega)];rfl
def bG9{w:den tNw}(h:tot tNw w<=68719476736):gP w=U (aFe w):=by
 have sm:SmB 549755813888 tNw w:=(bG h).mono (by decide);have sms:SmB 68719476736 tNw w:=bG h;have lT:=sm.1.1.1;have lL:=sm.1.2.1;have lD:=sms.2.2.2.2.1.1;have lQ:=sms.2.2.2.2.2.1.1;have lF:=sms.2.2.2.2.2.2.1.1;have lX:=sms.2.2.2.2.2.2.2.1.1;have eT:=aNz sm.1;have eS:=bXa (now:=w.2.2.2.1) sms.2.2.1.2.1.1 sms.2.2.1.2.2.1;have q1:D ((w.2.2.2.2.2.1.length:Int)>150)= !D (w.2.2.2.2.2.1.length<=150):=bAg _ 150;have q2:D ((w.2.2.2.2.2.2.1.length:Int)>4)= !D (w.2.2.2.2.2.2.1.length<=4):=bAg _ 4;unfold gP aFe pj2 pj3 pj4 pj9 zz4 zz5 zz6 zz7 zz8;rw[q1,q2,bTc];simp only[aD,eT,gU,eS,aA]
 by_cases hX:w.2.2.2.2.2.2.2.1.length=w.2.2.2.2.2.2.1.length
 .rw[aM (l:=w.2.2.2.2.1) (λk n=>if aCh w.2.2.2.2.1 w.1.2.length k n then W else U Y) (by omega) (λk n hi hd hw hm hk=>by
   simp only[hd,hi,hw,zZ,aA,gU,dN lL];unfold aCh;cases inR n 0 ((w.1.2.length:Int) - 1)
   .rfl
   .by_cases h0:k=0
    .subst h0;rfl
    .have e1:D ((k:Int)>0)=X:=by simp;omega
     rw[e1,bDk hk (by omega) (by omega),zW h0];simp only[cMp,zY,zZ,aA,Bool.false_or,cM1];cases D ((w.2.2.2.2.1[k - 1]?).getD 0>=n)<;>rfl) (by simp),aEa (aCh w.2.2.2.2.1 w.1.2.length)]
  rw[aM (l:=w.2.2.2.2.2.1) (λ_ x=>if cK w.1 x.1 then W else U Y) (by omega) (λk x hi hd hw hm hk=>by
   simp only[hd,hi,hw,zZ,aA,aBy lT];cases cK w.1 x.1<;>rfl) (by simp),iL (λx:den tFy=>cK w.1 x.1)]
  rw[aM (l:=w.2.2.2.2.2.2.1) (λk f=>if aDb w k f&&aL3 w k f then W else U Y) (by omega) (λk f hi hd hw hm hk=>by
   have hx:w.2.2.2.2.2.2.2.1[k]? =U w.2.2.2.2.2.2.2.1[k]:=cMz (by omega);have hix:idx w.2.2.2.2.2.2.2.1 (k:Int)=U w.2.2.2.2.2.2.2.1[k]:=by rw[aR];exact hx
   have fs:=sm.2.2.2.2.2.2.1.2 f hm;have xs:=(sm.2.2.2.2.2.2.2.1.2 _ (cMw hx)).2.2.2.1;simp only[hd,hi,zZ,aA,aBy lT,aW7 fs,hix,cKo xs,bSc fs.2.2.2.2.1.1 xs,aD1 hk,fL,hw];rw[aM (l:=w.2.2.2.2.2.2.1.take k) (λ_ g=>if !aHq f g then W else U (cMm (cMm Y))) (by rw[aCx hk];omega) (λj g hi hd hw hm hk=>by
    simp only[hd,hi,hw,zZ,aA];unfold aHq;cases g.1==f.1<;>cases g.2.1==f.2.1<;>rfl) (by simp),iL (λg:den tFl=> !aHq f g)]
   unfold aDb aL3;rw[hx];simp only;cases tW f<;>simp only[cMp,cMx,zZ,zY,aA,cNc,cM1,cMr,zU]
   .rfl
   cases cK w.1 f.1<;>simp only[cMp,cMx,zZ,zY,aA,cNc,cM1,cMr,zU]
   .rfl
   cases cK w.1 f.2.1<;>simp only[cMp,cMx,zZ,zY,aA,cNc,cM1,cMr,zU]
   .rfl
   cases xOk w.2.2.2.2.2.2.2.1[k]<;>simp only[cMp,cMx,zZ,zY,aA,cNc,cM1,cMr,zU]
   .rfl
   cases aH9 f w.2.2.2.2.2.2.2.1[k]<;>cases (w.2.2.2.2.2.2.1.take k).all (λg=> !aHq f g)<;>rfl) (by simp),aEa (λk f=>aDb w k f&&aL3 w k f)]
  cases mM w.1<;>simp only[cMp,cMx,zZ,zY,aA,cNc,cM1];cases inR w.2.2.2.1 0 1000000<;>simp only[cMp,cMx,zZ,zY,aA,cNc,cM1];cases aJh w.2.2.1 w.2.2.2.1<;>simp only[cMp,cMx,zZ,zY,aA,cNc,cM1];cases (w.2.2.2.2.1.zipIdx 0).all (λz=>aCh w.2.2.2.2.1 w.1.2.length z.2 z.1)<;>cases D (w.2.2.2.2.2.1.length<=150)<;>cases D (w.2.2.2.2.2.2.1.length<=4)<;>cases D (w.2.2.2.2.2.2.2.1.length=w.2.2.2.2.2.2.1.length)<;>cases D (w.2.2.2.2.2.2.2.2<0)<;>cases w.2.2.2.2.2.1.all (λx=>cK w.1 x.1)<;>cases (w.2.2.2.2.2.2.1.zipIdx 0).all (λz=>aDb w z.2 z.1&&aL3 w z.2 z.1)<;>rfl
 .have e:D (w.2.2.2.2.2.2.2.1.length=w.2.2.2.2.2.2.1.length)=Y:=by simpa using hX
  rw[e];cases mM w.1
  .rfl
  .cases inR w.2.2.2.1 0 1000000
   .rfl
   .cases aJh w.2.2.1 w.2.2.2.1
    .rfl
    .cases D (w.2.2.2.2.2.1.length<=150)<;>cases D (w.2.2.2.2.2.2.1.length<=4)<;>simp
def cEg{w:den tNw}(lD:w.2.2.2.2.1.length<=68719476736)(lL:w.1.2.length<=549755813888):aDt w=U ((w.2.2.2.2.1.zipIdx 0).all (λz=>aCh w.2.2.2.2.1 w.1.2.length z.2 z.1)):=by
 unfold aDt zz4;rw[aM (l:=w.2.2.2.2.1) (λk n=>if aCh w.2.2.2.2.1 w.1.2.length k n then W else U Y) (by omega) (λk n hi hd hw hm hk=>by
   simp only[hd,hi,hw,zZ,aA,fB,dN lL];unfold aCh;cases inR n 0 ((w.1.2.length:Int) - 1)
   .rfl
   .by_cases h0:k=0
    .subst h0;rfl
    .have e1:D ((k:Int)>0)=X:=by simp;omega
     rw[e1,bDk hk (by omega) (by omega),zW h0];simp only[cMp,zY,zZ,aA,Bool.false_or,cM1];cases D ((w.2.2.2.2.1[k - 1]?).getD 0>=n)<;>rfl) (by simp),aEa (aCh w.2.2.2.2.1 w.1.2.length)]
 cases (w.2.2.2.2.1.zipIdx 0).all (λz=>aCh w.2.2.2.2.1 w.1.2.length z.2 z.1)<;>rfl
def bFx{w:den tNw}(h:tot tNw w<=68719476736):gQ w=U (aFe w):=by
 have sm:SmB 549755813888 tNw w:=(bG h).mono (by decide);have sms:SmB 68719476736 tNw w:=bG h;have lT:=sm.1.1.1;have lL:=sm.1.2.1;have lD:=sms.2.2.2.2.1.1;have lQ:=sms.2.2.2.2.2.1.1;have lF:=sms.2.2.2.2.2.2.1.1;have lX:=sms.2.2.2.2.2.2.2.1.1;have eT:=aFo sm.1;have eS:=bYw (now:=w.2.2.2.1) sms.2.2.1.2.1.1 sms.2.2.1.2.2.1;have q1:D ((w.2.2.2.2.2.1.length:Int)>150)= !D (w.2.2.2.2.2.1.length<=150):=bAg _ 150;have q2:D ((w.2.2.2.2.2.2.1.length:Int)>4)= !D (w.2.2.2.2.2.2.1.length<=4):=bAg _ 4;unfold gQ aFe pj2 pj3 pj4 pj9 aL zz5 zz6 zz7 zz8;rw[q1,q2,bTc,bPa];simp only[aD,eT,fB,eS,cEg lD lL,aA]
 by_cases hX:w.2.2.2.2.2.2.2.1.length=w.2.2.2.2.2.2.1.length
 .rw[aM (l:=w.2.2.2.2.2.1) (λ_ x=>if cK w.1 x.1 then W else U Y) (by omega) (λk x hi hd hw hm hk=>by
   simp only[hd,hi,hw,zZ,aA,aDg lT];cases cK w.1 x.1<;>rfl) (by simp),iL (λx:den tFy=>cK w.1 x.1)]
  rw[aM (l:=w.2.2.2.2.2.2.1) (λk f=>if aDb w k f&&aOg w k f then W else U Y) (by omega) (λk f hi hd hw hm hk=>by
   have hx:w.2.2.2.2.2.2.2.1[k]? =U w.2.2.2.2.2.2.2.1[k]:=cMz (by omega);have hix:idx w.2.2.2.2.2.2.2.1 (k:Int)=U w.2.2.2.2.2.2.2.1[k]:=by rw[aR];exact hx
   have fs:=sm.2.2.2.2.2.2.1.2 f hm;have xs:=(sm.2.2.2.2.2.2.2.1.2 _ (cMw hx)).2.2.2.1;simp only[hd,hi,zZ,aA,aDg lT,aXs fs,hix,cKk xs,bR0 fs.2.2.2.2.1.1 xs,bAt (l:=w.2.2.2.2.2.2.2.1) (by omega),bne,hw];unfold aDb aOg;rw[hx];simp only;cases tW f<;>simp only[cMp,cMx,zZ,zY,aA,cNc,cM1,cMr,zU];cases cK w.1 f.1<;>simp only[cMp,cMx,zZ,zY,aA,cNc,cM1,cMr,zU];cases cK w.1 f.2.1<;>simp only[cMp,cMx,zZ,zY,aA,cNc,cM1,cMr,zU];cases xOk w.2.2.2.2.2.2.2.1[k]<;>simp only[cMp,cMx,zZ,zY,aA,cNc,cM1,cMr,zU];cases aH9 f w.2.2.2.2.2.2.2.1[k]<;>cases (oA w.2.2.2.2.2.2.2.1 f.2.1 f.1==(k:Int))<;>rfl) (by simp),aEa (λk f=>aDb w k f&&aOg w k f)]
  cases mM w.1<;>simp only[cMp,cMx,zZ,zY,aA,cNc,cM1];cases inR w.2.2.2.1 0 1000000<;>simp only[cMp,cMx,zZ,zY,aA,cNc,cM1];cases aJh w.2.2.1 w.2.2.2.1<;>simp only[cMp,cMx,zZ,zY,aA,cNc,cM1];cases (w.2.2.2.2.1.zipIdx 0).all (λz=>aCh w.2.2.2.2.1 w.1.2.length z.2 z.1)<;>cases D (w.2.2.2.2.2.1.length<=150)<;>cases D (w.2.2.2.2.2.2.1.length<=4)<;>cases D (w.2.2.2.2.2.2.2.1.length=w.2.2.2.2.2.2.1.length)<;>cases D (w.2.2.2.2.2.2.2.2<0)<;>cases w.2.2.2.2.2.1.all (λx=>cK w.1 x.1)<;>cases (w.2.2.2.2.2.2.1.zipIdx 0).all (λz=>aDb w z.2 z.1&&aOg w z.2 z.1)<;>rfl
 .have e:D (w.2.2.2.2.2.2.2.1.length=w.2.2.2.2.2.2.1.length)=Y:=by simpa using hX
  rw[e];cases mM w.1
  .rfl
  .cases inR w.2.2.2.1 0 1000000
   .rfl
   .cases aJh w.2.2.1 w.2.2.2.1
    .rfl
    .cases (w.2.2.2.2.1.zipIdx 0).all (λz=>aCh w.2.2.2.2.1 w.1.2.length z.2 z.1)<;>cases D (w.2.2.2.2.2.1.length<=150)<;>cases D (w.2.2.2.2.2.2.1.length<=4)<;>simp
def bWx(n:Int):Int:=cNi (wr ((cNi n 2147483647)+2147483647)) 2147483647
def cFv(n:Int):aN9 n 2147483647=U (bWx n):=by unfold aN9;rw[gU];rfl
def cIe(n:Int):aOd n 2147483647=U (bWx n):=by unfold aOd;rw[fB];rfl
def bX5(a x:Int):Int:=cNi (wr ((wr ((wr (a * (1000003:Int)))+bWx x))+(11:Int))) (2147483647:Int)
def aAt(l:List Int):Int:=cV (λ_ x a=>bX5 a x) 0 l 7
def aQg{l:List Int}(h:l.length<=549755813888):yD l=U (aAt l):=by
 unfold yD aAt;rw[fV (λk (a:Int)=>(a,(k:Int))) ((7:Int),(0:Int)) 7 l (λ_ x a=>bX5 a x) (λ_=>0) (λ_=>0) 1 id rfl (by omega) (by rw[sum_nil];omega) (λk x a=>by omega) (λk x a hi hx hd hw hk hb=>by
  simp only[hd,hi,hw,zZ,aA,cFv];rfl) (λa=>by simp)]
 rfl
def aP4{l:List Int}(h:l.length<=549755813888):yB l=U (aAt l):=by
 unfold yB aAt;rw[fV (λk (a:Int)=>(a,(k:Int))) ((7:Int),(0:Int)) 7 l (λ_ x a=>bX5 a x) (λ_=>0) (λ_=>0) 1 id rfl (by omega) (by rw[sum_nil];omega) (λk x a=>by omega) (λk x a hi hx hd hw hk hb=>by
  simp only[hd,hi,hw,zZ,aA,cIe];rfl) (λa=>by simp)]
 rfl
def aW0(h:den cH)(a:List Int):List Int:=a++[h.1,h.2.1,h.2.2.1]
def aN8(x:den tPp)(a:List Int):List Int:=cV (λ_ h a=>aW0 h a) 0 x.2.2.2 (a++[x.1,x.2.1,x.2.2.1])
def aKl(p:den tPt):List Int:=cV (λ_ x a=>aN8 x a) 0 p []
def bOf{α:Type}(c:Nat)(l:List α):(l.map λ_=>c).sum=c * l.length:=by
 induction l with
 | nil=>rfl
 | cons x l ih=>simp only[cNb,cNy,ih,cM8,Nat.mul_succ];omega
def aTm(x:den tPp)(a:List Int):(aN8 x a).length<=a.length+(3+3 * x.2.2.2.length):=by
 have h:=aE8 (f:=λ_ h (a:List Int)=>aW0 h a) (m:=cMy) (cost:=λ_=>3) (λk x a=>by simp[aW0]) x.2.2.2 0 (a++[x.1,x.2.1,x.2.2.1]);rw[bOf]at h;unfold aN8;simp at h;omega
def aOw:∀p:den tPt,(p.map λx:den tPp=>3+3 * x.2.2.2.length).sum<=3 * tot tPt p
 | []=>by simp
 | x::p=>by
  have h1:=jZ (t:=tPp) x p;have h2:x.2.2.2.length<=tot tPp x:=cMo (cO (t:=cH) x.2.2.2) (by simp only[sE,vU];omega);have h3:=aOw p;simp only[cNb,cNy];show _<=3 * tot (.sl tPp) (x::p);rw[h1];have h3:(p.map λx:den tPp=>3+3 * x.2.2.2.length).sum<=3 * tot (.sl tPp) p:=h3;omega
def bDy(p:den tPt):(aKl p).length<=3 * tot tPt p:=by
 have h:=aE8 (f:=λ_ x (a:List Int)=>aN8 x a) (m:=cMy) (cost:=λx:den tPp=>3+3 * x.2.2.2.length) (λk x a=>aTm x a) p 0 [];have h2:=aOw p;unfold aKl;simp only[cNd,cNo]at h;omega
def bEk{p:den tPt}(h:tot tPt p<=68719476736):uZ p=U (aAt (aKl p)):=by
 have hl:=cO (t:=tPp) p;have hl:p.length<=68719476736:=cMo hl h;have hs:=aOw p;have hd':=bDy p;unfold uZ;rw[fV (λk (a:List Int)=>((k:Int),a)) ((0:Int),[]) [] p (λ_ x a=>aN8 x a) cMy (λx:den tPp=>3+3 * x.2.2.2.length) 549755813888 id rfl (by omega) (by simp only[cNd];omega) (λk x a=>aTm x a) (λk x a hi hx hd hw hk hb=>by
  simp only[hd,hi,hw,zZ,aA,aC (b:=8) (n:=a.length) (m:=3) (by decide) (by omega)];rw[fV (λk (a:List Int)=>((k:Int),a)) ((0:Int),a++[x.1,x.2.1,x.2.2.1]) (a++[x.1,x.2.1,x.2.2.1]) x.2.2.2 (λ_ h a=>aW0 h a) cMy (λ_=>3) 549755813888 id rfl (by omega) (by rw[bOf];simp;omega) (λk h a=>by simp[aW0]) (λk h a hi hx hd hw hk hb=>by
   simp only[hd,hi,hw,zZ,aA,aC (b:=8) (n:=a.length) (m:=3) (by decide) (by omega)];rfl) (λa=>by simp)]
  rfl) (λa=>by simp)]
 simp only[aA];rw[show cV (λ_ x a=>aN8 x a) 0 p []=aKl p from rfl];simp only[id,aQg (l:=aKl p) (by omega),aA]
def bD5{p:den tPt}(h:tot tPt p<=68719476736):tS p=U (aAt (aKl p)):=by
 have hl:=cO (t:=tPp) p;have hl:p.length<=68719476736:=cMo hl h;have hs:=aOw p;have hd':=bDy p;unfold tS;rw[fV (λk (a:List Int)=>((k:Int),a)) ((0:Int),[]) [] p (λ_ x a=>aN8 x a) cMy (λx:den tPp=>3+3 * x.2.2.2.length) 549755813888 id rfl (by omega) (by simp only[cNd];omega) (λk x a=>aTm x a) (λk x a hi hx hd hw hk hb=>by
  simp only[hd,hi,hw,zZ,aA,aC (b:=8) (n:=a.length) (m:=3) (by decide) (by omega)];rw[fV (λk (a:List Int)=>((k:Int),a)) ((0:Int),a++[x.1,x.2.1,x.2.2.1]) (a++[x.1,x.2.1,x.2.2.1]) x.2.2.2 (λ_ h a=>aW0 h a) cMy (λ_=>3) 549755813888 id rfl (by omega) (by rw[bOf];simp;omega) (λk h a=>by simp[aW0]) (λk h a hi hx hd hw hk hb=>by
   simp only[hd,hi,hw,zZ,aA,aC (b:=8) (n:=a.length) (m:=3) (by decide) (by omega)];rfl) (λa=>by simp)]
  rfl) (λa=>by simp)]
 simp only[aA];rw[show cV (λ_ x a=>aN8 x a) 0 p []=aKl p from rfl];simp only[id,aP4 (l:=aKl p) (by omega),aA]
def sX(a:Int×Bool)(h:den cH):q23:=cond (!a.2||D (h.2.2.2.1<a.1)) (h.2.2.2.1,X) a
def aCo(l:eU):Int:=(l.foldl sX (0,Y)).1
def hops(p:den tPt):eU:=cV (λ_ x a=>a++x.2.2.2) 0 p []
def bIa:∀(p:den tPt) (k:Nat) (a:eU),cV (λ_ (x:den tPp) a=>a++x.2.2.2) k p a=a++p.flatMap (λx:den tPp=>x.2.2.2)
 | [],_,a=>by simp[cV]
 | x::p,k,a=>by
  simp only[cV];rw[bIa p (k+1)];simp
def bXx(p:den tPt):(hops p).length<=tot tPt p:=by
 have h:=aE8 (f:=λ_ (x:den tPp) (a:eU)=>a++x.2.2.2) (m:=cMy) (cost:=λx:den tPp=>x.2.2.2.length) (λk x a=>by simp) p 0 [];have h2:=aJ8 p;unfold hops;simp only[cNd,cNo]at h;omega
def aE0(k:Nat)(h:den cH)(a:Int):Int:=if k=0\/h.2.2.2.1<a then h.2.2.2.1 else a
def aWc:∀(l:eU) (k:Nat) (a:Int),0<k->cV aE0 k l a=(l.foldl sX (a,X)).1
 | [],_,_,_=>rfl
 | h::l,k,a,hk=>by
  simp only[cV,cOf]
  by_cases c:h.2.2.2.1<a
  .have e1:aE0 k h a=h.2.2.2.1:=by unfold aE0;rw[zT (.inr c)]
   have e2:sX (a,X) h=(h.2.2.2.1,X):=by unfold sX;simp[c]
   rw[e1,e2];exact aWc l (k+1) _ (by omega)
  .have e1:aE0 k h a=a:=by unfold aE0;rw[zS (λhc=>hc.elim (λe=>by omega) c)]
   have e2:sX (a,X) h=(a,X):=by unfold sX;simp[c]
   rw[e1,e2];exact aWc l (k+1) _ (by omega)
def bFs(l:eU):cV aE0 0 l 0=aCo l:=by
 cases l with
 | nil=>rfl
 | cons h l=>
  unfold aCo;simp only[cV,cOf];have e1:aE0 0 h 0=h.2.2.2.1:=by unfold aE0;rw[zT (.inl rfl)]
  have e2:sX (0,Y) h=(h.2.2.2.1,X):=by unfold sX;simp
  rw[e1,e2];exact aWc l 1 _ (by omega)
def bH0{p:den tPt}(h:tot tPt p<=68719476736):uT p=U (aCo (hops p)):=by
 have hl:p.length<=68719476736:=cMo (cO (t:=tPp) p) h;have hs:=aJ8 p;have hh:=bXx p;unfold uT aFp jV;rw[fV (λk (a:eU)=>((k:Int),a)) ((0:Int),[]) [] p (λ_ x a=>a++x.2.2.2) cMy (λx:den tPp=>x.2.2.2.length) 549755813888 id rfl (by omega) (by simp only[cNd];omega) (λk x a=>by simp) (λk x a hi hx hd hw hk hb=>by
  simp only[hd,hi,hw,zZ,aA,aC (b:=40) (n:=a.length) (m:=x.2.2.2.length) (by decide) (by omega)]) (λa=>by simp)]
 simp only[aA];rw[show cV (λ_ (x:den tPp) a=>a++x.2.2.2) 0 p []=hops p from rfl];simp only[id];rw[fV (λk (a:Int)=>(a,(k:Int))) ((0:Int),(0:Int)) 0 (hops p) aE0 (λ_=>0) (λ_=>0) 1 id rfl (by omega) (by rw[sum_nil];omega) (λk x a=>by omega) (λk x a hi hx hd hw hk hb=>by
  simp only[hd,hi,hw,zZ,aA];unfold aE0;have e1:((k:Int)==0)=D (k=0):=by rw[cNe];simp
  rw[e1]
  by_cases c:k=0
  .simp[c]
  .by_cases c2:x.2.2.2.1<a
   .simp[c,c2]
   .simp[c,c2]) (λa=>by simp)]
 rw[bFs];rfl
def aYj:∀(p:den tPt) (k:Nat) (a:Int×Bool),cV (λ_ (x:den tPp) a=>cV (λ_ h a=>sX a h) 0 x.2.2.2 a) k p a=(p.flatMap λx:den tPp=>x.2.2.2).foldl sX a
 | [],_,_=>rfl
 | x::p,k,a=>by
  simp only[cV,List.flatMap_cons,List.foldl_append];rw[aYj p (k+1),rO]
def bG7{p:den tPt}(h:tot tPt p<=68719476736):oZ p=U (aCo (hops p)):=by
 have hl:p.length<=68719476736:=cMo (cO (t:=tPp) p) h;have hs:=aJ8 p;unfold oZ;rw[fV (λk (a:Int×Bool)=>(a.1,a.2,(k:Int))) ((0:Int),Y,(0:Int)) ((0:Int),Y) p (λ_ (x:den tPp) a=>cV (λ_ h a=>sX a h) 0 x.2.2.2 a) (λ_=>0) (λ_=>0) 1 (λa=>a.1) rfl (by omega) (by rw[sum_nil];omega) (λk x a=>by omega) (λk x a hi hx hd hw hk hb=>by
  have hxl:x.2.2.2.length<=68719476736:=by
   have h1:=aBf (t:=tPp) hx;have h2:x.2.2.2.length<=tot tPp x:=cMo (cO (t:=cH) x.2.2.2) (by simp only[sE,vU];omega);have h3:tot (.sl tPp) p<=68719476736:=h;omega
  simp only[hd,hi,hw,zZ,aA];rw[fV (λk (a:Int×Bool)=>(a.1,a.2,(k:Int))) (a.1,a.2,(0:Int)) a x.2.2.2 (λ_ h a=>sX a h) (λ_=>0) (λ_=>0) 1 id rfl (by omega) (by rw[sum_nil];omega) (λk x a=>by omega) (λk h a hi hx hd hw hk hb=>by
   simp only[hd,hi,hw,zZ,aA];unfold sX;cases ca:a.2
   .rfl
   .cases c:D (h.2.2.2.1<a.1)<;>simp[c,ca]) (λa=>by simp)]
  rfl) (λa=>by simp)]
 rw[aYj];unfold aCo hops;rw[bIa];rfl
def aG0(a b:den tPt):Bool:=
 cond (((iA a).length:Int) != ((iA b).length:Int)) (D (((iA a).length:Int)<((iA b).length:Int)))
  (cond (aCo (hops a) != aCo (hops b)) (D (aCo (hops a)>aCo (hops b))) (D (aAt (aKl a)<aAt (aKl b))))
def bWf{a b:den tPt}(ha:tot tPt a<=68719476736)(hb:tot tPt b<=68719476736):xF a b=U (aG0 a b):=by
 unfold xF mN aG0;simp only[aMe (p:=a) (cMo ha (by decide)),aMe (p:=b) (cMo hb (by decide)),bH0 ha,bH0 hb,bEk ha,bEk hb,aA];cases ((iA a).length:Int) != ((iA b).length:Int)
 .cases aCo (hops a) != aCo (hops b)<;>rfl
 .rfl
def bX1{a b:den tPt}(ha:tot tPt a<=68719476736)(hb:tot tPt b<=68719476736):xH a b=U (aG0 a b):=by
 unfold xH rD aG0;simp only[aMw (p:=a) (cMo ha (by decide)),aMw (p:=b) (cMo hb (by decide)),bG7 ha,bG7 hb,bD5 ha,bD5 hb,aA];cases ((iA a).length:Int) != ((iA b).length:Int)
 .cases aCo (hops a) != aCo (hops b)<;>rfl
 .rfl
def aHo(x:den tPt)(out:lPt):Nat->Nat
 | 0=>0
 | k+1=>cond (aG0 x ((out[k]?).getD [])) (aHo x out k) (k+1)
def bCr(x:den tPt)(out:lPt):∀k,aHo x out k<=k
 | 0=>cM5 _
 | k+1=>by
  unfold aHo;cases aG0 x ((out[k]?).getD [])
  .exact cM5 _
  .exact Nat.le_succ_of_le (bCr x out k)
def aS6{x:den tPt}{out:lPt}{step:Int->Option (Int⊕Int)}(hl:out.length<=549755813888)
  (h0:step 0=U (.inr 0)) (h1:∀k (y:den tPt),out[k]? =U y->step ((k+1:Nat):Int)=U (cond (aG0 x y) (.inl (k:Int)) (.inr ((k+1:Nat):Int)))):
  ∀k,k<=out.length->aB step (k:Int)=U ((aHo x out k:Nat):Int)
 | 0,_=>aI h0
 | k+1,hk=>by
  have hy:out[k]? =U out[k]:=cMz (by omega);have hs:=h1 k _ hy;unfold aHo;rw[hy,cNh];cases hb:aG0 x out[k] with
  | true=>rw[hb]at hs;rw[aP hs];exact aS6 hl h0 h1 k (by omega)
  | false=>rw[hb]at hs;exact aI hs
def bA3(x:den tPt)(out:lPt):lPt:=out.take (aHo x out out.length)++[x]++out.drop (aHo x out out.length)
def aWf(x:den tPt)(out:lPt):tot (.sl tPt) (bA3 x out)=tot (.sl tPt) out+(1+tot tPt x):=by
 have h:=vV (t:=tPt) (out.take (aHo x out out.length)) (out.drop (aHo x out out.length));rw[List.take_append_drop]at h;unfold bA3;rw[vV,vV,aH8];omega
def uI(l:lPt):lPt:=cV (λ_ x a=>bA3 x a) 0 l []
def aN7(l:lPt):tot (.sl tPt) (uI l)<=tot (.sl tPt) l:=by
 have h:=aE8 (f:=λ_ x (a:lPt)=>bA3 x a) (m:=tot (.sl tPt)) (cost:=λx=>1+tot tPt x) (λk x a=>cOg (aWf x a)) l 0 [];rw[aPq,aM2]at h;unfold uI;omega
def bLh{l:lPt}(h:tot (.sl tPt) l<=68719476736):tF l=U (uI l):=by
 have hl:=cO (t:=tPt) l;unfold tF uI ixb;rw[fV (λk (a:lPt)=>((k:Int),a)) ((0:Int),[]) [] l (λ_ x a=>bA3 x a) (tot (.sl tPt)) (λx=>1+tot tPt x) 68719476736 id rfl (by omega) (by rw[aPq,aM2];omega) (λk x a=>cOg (aWf x a)) (λk x a hi hx hd hw hk hb=>by
  have ha:=cO (t:=tPt) a;have hsm:SmB 549755813888 tPt x:=(bG (B:=68719476736) (t:=tPt) (by omega)).mono (by decide);simp only[hd,hi,hw,zZ,aA];rw[aS6 (x:=x) (out:=a) (by omega) (by rfl) (λj y hy=>by
   have hlt:=(cM0.1 hy).1;have hty:=aBf (t:=tPt) hy;have e1:D (((j+1:Nat):Int)>0)=X:=by simp<;>omega
   have e2:wr (((j+1:Nat):Int) - 1)=(j:Int):=by
    have :wr (((j+1:Nat):Int) - 1)=((j+1:Nat):Int) - 1:=wri (by omega) (by omega);rw[this];omega
   have e3:D ((j:Int)<(a.length:Int))=X:=by simp;omega
   simp only[e1,e2,e3,bF,zZ,cMt,hy,aA,bWf (a:=x) (b:=y) (by omega) (by omega)];cases aG0 x y<;>rfl) a.length (cM5 _)]
  have hp:=bCr x a a.length;have s1:bH (0:Int) ((aHo x a a.length:Nat):Int) (a.length:Int)=X:=by
   have :=aAz (a:=0) (b:=aHo x a a.length) (n:=a.length);rw[show ((0:Nat):Int)=0 from rfl]at this;rw[this];simp;omega
  have s2:bH ((aHo x a a.length:Nat):Int) (a.length:Int) (a.length:Int)=X:=by rw[aAz];simp;omega
  simp only[aA,s1,s2,zZ,fL,aR2 hp,aMv hsm];rw[aC (b:=24) (by decide) (by simp<;>omega),aC (b:=24) (by decide) (by simp<;>omega),aC (b:=24) (by decide) (by simp<;>omega)];simp only[zZ,cNf];rfl) (λa=>by simp)]
 rfl
def bKq{l:lPt}(h:tot (.sl tPt) l<=68719476736):tG l=U (uI l):=by
 have hl:=cO (t:=tPt) l;unfold tG uI ixb;rw[fV (λk (a:lPt)=>((k:Int),a)) ((0:Int),[]) [] l (λ_ x a=>bA3 x a) (tot (.sl tPt)) (λx=>1+tot tPt x) 68719476736 id rfl (by omega) (by rw[aPq,aM2];omega) (λk x a=>cOg (aWf x a)) (λk x a hi hx hd hw hk hb=>by
  have ha:=cO (t:=tPt) a;have hsm:SmB 549755813888 tPt x:=(bG (B:=68719476736) (t:=tPt) (by omega)).mono (by decide);simp only[hd,hi,hw,zZ,aA,bB,cB,bL,bJ,bO];rw[aS6 (x:=x) (out:=a) (by omega) (by rfl) (λj y hy=>by
   have hlt:=(cM0.1 hy).1;have hty:=aBf (t:=tPt) hy;have e1:D (((j+1:Nat):Int)>0)=X:=by simp<;>omega
   have e2:wr (((j+1:Nat):Int) - 1)=(j:Int):=by
    have :wr (((j+1:Nat):Int) - 1)=((j+1:Nat):Int) - 1:=wri (by omega) (by omega);rw[this];omega
   have e3:D ((j:Int)<(a.length:Int))=X:=by simp;omega
   simp only[e1,e2,e3,bF,zZ,cMt,hy,aA,bX1 (a:=x) (b:=y) (by omega) (by omega)];cases aG0 x y<;>rfl) a.length (cM5 _)]
  have hp:=bCr x a a.length;have s1:bH (0:Int) ((aHo x a a.length:Nat):Int) (a.length:Int)=X:=by
   have :=aAz (a:=0) (b:=aHo x a a.length) (n:=a.length);rw[show ((0:Nat):Int)=0 from rfl]at this;rw[this];simp;omega
  have s2:bH ((aHo x a a.length:Nat):Int) (a.length:Int) (a.length:Int)=X:=by rw[aAz];simp;omega
  simp only[aA,s1,s2,zZ,fL,aR2 hp,aMj hsm];rw[aC (b:=24) (by decide) (by simp<;>omega),aC (b:=24) (by decide) (by simp<;>omega),aC (b:=24) (by decide) (by simp<;>omega)];simp only[zZ,cNf,aA];rfl) (λa=>by simp)]
 rfl
def aBg(l:lRv)(now:Int):lRv:=l.filter λx=>D (now<=x.2.2)
def bRv{l:lRv}{now:Int}(h:l.length<=68719476736):jN l now=U (aBg l now):=by
 unfold jN aBg pj3;rw[fV (λk (a:lRv)=>((k:Int),a)) ((0:Int),[]) [] l (λ_ x a=>if D (now<=x.2.2)=X then a++[x] else a) cMy (λ_=>1) 549755813888 id rfl (by omega) (by rw[cS];simp;omega) (λk x a=>by split<;>simp) (λk x a hi hx hd hw hk hb=>by
  simp only[hd,hi,hw,zZ,aA,aD,aC (b:=24) (n:=a.length) (m:=1) (by decide) (by omega)];cases D (now<=x.2.2)<;>simp) (λa=>by simp),aDl (λx:den tRv=>D (now<=x.2.2))]
 simp
def bTq{l:lRv}{now:Int}(h:l.length<=68719476736):jM l now=U (aBg l now):=by
 unfold jM aBg pj3;rw[fV (λk (a:lRv)=>((k:Int),a)) ((0:Int),[]) [] l (λ_ x a=>if D (now<=x.2.2)=X then a++[x] else a) cMy (λ_=>1) 549755813888 id rfl (by omega) (by rw[cS];simp;omega) (λk x a=>by split<;>simp) (λk x a hi hx hd hw hk hb=>by
  simp only[hd,hi,hw,zZ,aA,aD,aC (b:=24) (n:=a.length) (m:=1) (by decide) (by omega)];cases D (now<=x.2.2)<;>simp) (λa=>by simp),aDl (λx:den tRv=>D (now<=x.2.2))]
 simp
def aA9(l:lRv)(p:den tPt)(now:Int):Bool:= !((aBg l now).all λx=> !qW p x)
def aZd(l:lRv)(now:Int):(aBg l now).length<=l.length:=cOq _ _
def cFu{l:lRv}{p:den tPt}{now:Int}(h:l.length<=68719476736)(hp:tot tPt p<=68719476736):aD2 l p now=U (aA9 l p now):=by
 have ha:=aZd l now;unfold aD2 aA9 ixb pj3;rw[bRv h,aA];rw[aM (l:=aBg l now) (λ_ x=>if !qW p x then W else U X) (by omega) (λk x hi hd hw hm hk=>by
  have hy:(aBg l now)[k]? =U x:=by rw[<- aR];exact hi
  simp only[hd,hy,hw,zZ,aA,bF,cMt,aD,bD9 hp];cases qW p x<;>rfl) (by simp),iL (λx:den tRv=> !qW p x)]
 cases (aBg l now).all (λx=> !qW p x)<;>rfl
def bSn{l:lRv}{p:den tPt}{now:Int}(h:l.length<=68719476736)(hp:tot tPt p<=68719476736):aBz l p now=U (aA9 l p now):=by
 have ha:=aZd l now;unfold aBz aA9 ixb pj3;rw[bTq h,aA];rw[aM (l:=aBg l now) (λ_ x=>if !qW p x then W else U X) (by omega) (λk x hi hd hw hm hk=>by
  have hy:(aBg l now)[k]? =U x:=by rw[<- aR];exact hi
  simp only[hd,hy,hw,zZ,aA,bF,cMt,aD,bDg hp];cases qW p x<;>rfl) (by simp),iL (λx:den tRv=> !qW p x)]
 cases (aBg l now).all (λx=> !qW p x)<;>rfl
def aE6(l:lRv)(p:lPt)(now:Int):lPt:=(p.filter λx=> !aA9 l x now)++p.filter λx=>aA9 l x now
def two(r:den tPt->Bool)(x:den tPt)(a:lPt×lPt):lPt×lPt:=cond (r x) (a.1,a.2++[x]) (a.1++[x],a.2)
def cEy(r:den tPt->Bool)(x:den tPt)(a:lPt×lPt):(two r x a).1.length+(two r x a).2.length<=a.1.length+a.2.length+1:=by
 unfold two;cases r x<;>simp<;>omega
def aZw(r:den tPt->Bool):∀(l:lPt) (k:Nat) (a:lPt×lPt),cV (λ_ x a=>two r x a) k l a=(a.1++l.filter (λx=> !r x),a.2++l.filter r)
 | [],_,a=>by simp[cV]
 | x::l,k,a=>by
  simp only[cV];rw[aZw r l (k+1)];unfold two;cases h:r x<;>simp[h]
def bU6{l:lRv}{p:lPt}{now:Int}(h:l.length<=68719476736)(hp:tot (.sl tPt) p<=68719476736):nM l p now=U (aE6 l p now):=by
 have hl:=cO (t:=tPt) p;unfold nM aE6 pj2;rw[fV (λk (a:lPt×lPt)=>((k:Int),a.1,a.2)) ((0:Int),[],[]) ([],[]) p (λ_ x a=>two (λx=>aA9 l x now) x a) (λa=>a.1.length+a.2.length) (λ_=>1) 549755813888 (λa=>(a.1,a.2)) rfl (by omega) (by rw[cS];simp;omega) (λk x a=>cEy _ x a) (λk x a hi hx hd hw hk hb=>by
  have ht:=aBf (t:=tPt) hx;have hsm:SmB 549755813888 tPt x:=(bG (B:=68719476736) (t:=tPt) (by omega)).mono (by decide);simp only[hd,hi,hw,zZ,aA,cFu (l:=l) (p:=x) (now:=now) h (by omega),aMv hsm,aC (b:=24) (n:=a.1.length) (m:=1) (by decide) (by omega),aC (b:=24) (n:=a.2.length) (m:=1) (by decide) (by omega)];have e:two (λx=>aA9 l x now) x a=cond (aA9 l x now) (a.1,a.2++[x]) (a.1++[x],a.2):=rfl;rw[e];cases aA9 l x now<;>rfl) (λa=>by simp),aZw]
 have e:(p.filter λx=> !aA9 l x now).length<=p.length:=cOq _ _;have e2:(p.filter λx=>aA9 l x now).length<=p.length:=cOq _ _;simp only[aA,cNf];rw[aC (b:=24) (by decide) (by omega),zZ]
def bRg{l:lRv}{p:lPt}{now:Int}(h:l.length<=68719476736)(hp:tot (.sl tPt) p<=68719476736):nQ l p now=U (aE6 l p now):=by
 have hl:=cO (t:=tPt) p;unfold nQ aE6;rw[fV (λk (a:lPt)=>((k:Int),a)) ((0:Int),[]) [] p (λ_ x a=>if (!aA9 l x now)=X then a++[x] else a) cMy (λ_=>1) 549755813888 id rfl (by omega) (by rw[cS];simp;omega) (λk x a=>by split<;>simp) (λk x a hi hx hd hw hk hb=>by
  have ht:=aBf (t:=tPt) hx;have hsm:SmB 549755813888 tPt x:=(bG (B:=68719476736) (t:=tPt) (by omega)).mono (by decide);simp only[hd,hi,hw,zZ,aA,bSn (l:=l) (p:=x) (now:=now) h (by omega),aMj hsm,aC (b:=24) (n:=a.length) (m:=1) (by decide) (by omega)];cases aA9 l x now<;>simp) (λa=>by simp),aDl (λx:den tPt=> !aA9 l x now)]
 have e:(p.filter λx=> !aA9 l x now).length<=p.length:=cOq _ _;simp only[id,aA,cNf];rw[fV (λk (a:lPt)=>((k:Int),a)) ((0:Int),p.filter λx=> !aA9 l x now) (p.filter λx=> !aA9 l x now) p (λ_ x a=>if aA9 l x now=X then a++[x] else a) cMy (λ_=>1) 549755813888 id rfl (by omega) (by rw[cS];omega) (λk x a=>by split<;>simp) (λk x a hi hx hd hw hk hb=>by
  have ht:=aBf (t:=tPt) hx;have hsm:SmB 549755813888 tPt x:=(bG (B:=68719476736) (t:=tPt) (by omega)).mono (by decide);simp only[hd,hi,hw,zZ,aA,bSn (l:=l) (p:=x) (now:=now) h (by omega),aMj hsm,aC (b:=24) (n:=a.length) (m:=1) (by decide) (by omega)];cases aA9 l x now<;>simp) (λa=>by simp),aDl (λx:den tPt=>aA9 l x now)]
 rfl
def aYi(r:den tPt->Bool):∀p:lPt,tot (.sl tPt) (p.filter (λx=> !r x))+tot (.sl tPt) (p.filter r)=tot (.sl tPt) p
 | []=>rfl
 | x::p=>by
  have ih:=aYi r p;rw[jZ];cases h:r x
  .have e:=jZ (t:=tPt) x (p.filter λx=> !r x);simp only[cPd,h,cMx,zV,cMr,zU];omega
  .have e:=jZ (t:=tPt) x (p.filter r);simp only[cPd,h,cMp,zV,cMr,zU];omega
def bJ2(l:lRv)(p:lPt)(now:Int):tot (.sl tPt) (aE6 l p now)=tot (.sl tPt) p:=by
 unfold aE6;rw[vV];exact aYi (λx=>aA9 l x now) p
def aL1(f:den tFl)(p:lPt)(now:Int):lPt:=(aE6 f.2.2.2.2.2.2.2.2 (uI p) now).take (min (aE6 f.2.2.2.2.2.2.2.2 (uI p) now).length 24)
def bMf(n:Nat):(if (24:Int)<(n:Int) then (24:Int) else (n:Int))=((min n 24:Nat):Int):=by
 by_cases c:24<n
 .rw[zT (by omega),Nat.min_eq_right (by omega)];rfl
 .rw[zS (by omega),Nat.min_eq_left (by omega)]
def bI2(n:Nat):bH (0:Int) ((min n 24:Nat):Int) (n:Int)=X:=by
 have :=aAz (a:=0) (b:=min n 24) (n:=n);rw[show ((0:Nat):Int)=0 from rfl]at this;rw[this];simp;omega
def bSi{f:den tFl}{p:lPt}{now:Int}(h:tot tFl f<=68719476736)(hp:tot (.sl tPt) p<=68719476736):tR f p now=U (f.1,f.2.1,f.2.2.1,f.2.2.2.1,0,0,f.2.2.2.2.1,aL1 f p now,f.2.2.2.2.2.2.2.2):=by
 have hf:SmB 549755813888 tFl f:=(bG h).mono (by decide);have hv:f.2.2.2.2.2.2.2.2.length<=68719476736:=cMo (cO (t:=tRv) _) (aO (aO (aO (aO (aO (aO (aO (aO h))))))));have hs:=aN7 p;unfold tR aL1 pj9 zz6 zz8;simp only[aD,aMz hf,bLh hp,bU6 (l:=f.2.2.2.2.2.2.2.2) (p:=uI p) (now:=now) hv (by omega),bOc,aA,bMf,bI2,zZ,cMt];rfl
def bRl{f:den tFl}{p:lPt}{now:Int}(h:tot tFl f<=68719476736)(hp:tot (.sl tPt) p<=68719476736):uB f p now=U (f.1,f.2.1,f.2.2.1,f.2.2.2.1,aL1 f p now,0,0,f.2.2.2.2.1,f.2.2.2.2.2.2.2.2):=by
 have hf:SmB 549755813888 tFl f:=(bG h).mono (by decide);have hv:f.2.2.2.2.2.2.2.2.length<=68719476736:=cMo (cO (t:=tRv) _) (aO (aO (aO (aO (aO (aO (aO (aO h))))))));have hs:=aN7 p;unfold uB aL1 pj9 zz6 zz8;simp only[aD,aJ5 hf,bKq hp,bRg (l:=f.2.2.2.2.2.2.2.2) (p:=uI p) (now:=now) hv (by omega),bO9,aA,bMf,bI2,zZ,fL];rfl
def bEw(f:den tFl)(p:lPt)(now:Int):tot (.sl tPt) (aL1 f p now)<=tot (.sl tPt) p:=by
 have h1:=aN7 p;have h2:=bJ2 f.2.2.2.2.2.2.2.2 (uI p) now;have h3:=aXe (t:=tPt) (aE6 f.2.2.2.2.2.2.2.2 (uI p) now) (min (aE6 f.2.2.2.2.2.2.2.2 (uI p) now).length 24);unfold aL1;omega
def cEq{l:lRs}(h:l.length<=68719476736):gI l=U l:=by
 unfold gI;rw[aC (by decide) (by simp;omega)];simp
def cC9{g:den tSc}(h1:g.2.1.length<=68719476736)(h2:g.2.2.length<=68719476736):gT g=U g:=by
 unfold gT;rw[cEq h1,aA,aC (by decide) (by simp;omega)];simp
def bL6{g:den tSc}(h1:g.2.1.length<=68719476736)(h2:g.2.2.length<=68719476736):lM g=U g:=by
 unfold lM pj3;rw[aC (b:=40) (by decide) (by simp;omega),aC (b:=32) (by decide) (by simp;omega)];simp[bB,cB,bL,bJ,bO]
def aGg(l:lUs)(id s d:Int):Int:=if place l id s d<0 then 0 else ((l[(place l id s d).toNat]?).map (·.2.2.2)).getD 0
def cIm{g:den tSc}{id s d:Int}(h:g.2.2.length<=68719476736):zO g id s d=U (aGg g.2.2 id s d):=by
 unfold zO aGg pj3;rw[show ((g.1,g.2.1,g.2.2):den tSc)=g from rfl,bB8 h,aA];rcases aQf g.2.2 id s d with hp | ⟨j,x,hp,hx,hj⟩
 .rw[hp];rfl
 .rw[hp,zX (by omega),zZ,aR,hx,zS (by omega)];simp[hx]
def cHn{g:den tSc}{id s d:Int}(h:g.2.2.length<=68719476736):wB g id s d=U (aGg g.2.2 id s d):=by
 unfold wB aGg;rw[bBi h,aA];rcases aQf g.2.2 id s d with hp | ⟨j,x,hp,hx,hj⟩
 .rw[hp];rfl
 .rw[hp,zW (by omega),zY,aR,hx,zS (by omega)];simp[hx]
def aOe(l:lUs)(id s d:Int):lUs:=
 if place l id s d<0 then l++[(id,s,d,1)] else match l[(place l id s d).toNat]? with
  | some x=>l.set (place l id s d).toNat (x.1,x.2.1,x.2.2.1,wr (x.2.2.2+1))
  | none=>l
def bEo(l:lUs)(id s d:Int):(aOe l id s d).length<=l.length+1:=by
 unfold aOe;split
 .simp
 .split<;>simp
def cHm{g:den tSc}{id s d:Int}(h1:g.2.1.length<=68719476736)(h2:g.2.2.length<=68719476736):aB1 g id s d=U (g.1,g.2.1,aOe g.2.2 id s d):=by
 unfold aB1 aOe ixb pj3;rw[show ((g.1,g.2.1,g.2.2):den tSc)=g from rfl,bL6 h1 h2,aA,bBi h2,aA];rcases aQf g.2.2 id s d with hp | ⟨j,x,hp,hx,hj⟩
 .rw[hp,aC (b:=32) (by decide) (by omega)];rfl
 .have hd:D ((j:Int)<(g.2.2.length:Int))=X:=by simpa using hj
  have hd2:D (j<g.2.2.length)=X:=by simpa using hj
  have hd0:D ((0:Int)<=(j:Int))=X:=by simp
  rw[hp,zW (show ¬ (j:Int)<0 by omega),zY,zS (by omega)];simp only[hd,hd0,hd2,zZ,cMt,hx,aA]
def aBl(g:den tSc)(id s d now:Int):q35:=
 if aGg g.2.2 id s d<aFj g id s d now then (g.1,X,g.2.1,aOe g.2.2 id s d)
 else if aGg g.2.2 0 s d<aFj g 0 s d now then (g.1,X,g.2.1,aOe g.2.2 0 s d)
 else (g.1,Y,g.2.1,g.2.2)
def cEm{g:den tSc}{id s d now:Int}(h1:g.2.1.length<=68719476736)(h2:g.2.2.length<=68719476736):aCb g id s d now=U (aBl g id s d now):=by
 unfold aCb ixb pj2 pj3;rw[show ((g.1,g.2.1,g.2.2):den tSc)=g from rfl,cC9 h1 h2,aA];rw[aM (l:=[id,0]) (λ_ n=>if aGg g.2.2 n s d<aFj g n s d now then U (g.1,X,g.2.1,aOe g.2.2 n s d) else W) (by simp) (λk n hi hd hw hx hk=>by
  rw[aR]at hi;have hd0:D ((0:Int)<=(k:Int))=X:=by simp
  simp only[hd,hd0,hi,hw,zZ,aA,cMt,cIm h2,bLw h1,bB8 h2]
  by_cases hu:aGg g.2.2 n s d<aFj g n s d now
  .rw[zW (by omega),zY,zT hu];unfold aOe;rcases aQf g.2.2 n s d with hp | ⟨j,x,hp,hx,hj⟩
   .rw[hp,aC (b:=32) (by decide) (by omega)];rfl
   .have hd1:D ((j:Int)<(g.2.2.length:Int))=X:=by simpa using hj
    have hd2:D ((j:Int)>=0)=X:=by simp
    have hd3:D ((0:Int)<=(j:Int))=X:=by simp
    rw[hp,zS (by omega)];simp only[hd1,hd2,hd3,zZ,cMt,hx,aA]
  .rw[zX (by omega),zZ,zS hu]) (by simp)]
 unfold aBl;simp only[dG]
 by_cases hu:aGg g.2.2 id s d<aFj g id s d now
 .simp[hu]
 .by_cases hv:aGg g.2.2 0 s d<aFj g 0 s d now<;>simp[hu,hv]
def bKl{g:den tSc}{id s d now:Int}(h1:g.2.1.length<=68719476736)(h2:g.2.2.length<=68719476736):zA g id s d now=U (aBl g id s d now):=by
 unfold zA aBl pj2 pj3;rw[show ((g.1,g.2.1,g.2.2):den tSc)=g from rfl];simp only[cHn h2,bDu h1,bTm h1,cHm h1 h2,bL6 h1 h2,aA];have h0:aFj g 0 s d now=free g.2.1 g.1 s d now:=rfl;rw[h0]
 by_cases hid:id=0
 .subst hid;rw[h0]
  by_cases hv:aGg g.2.2 0 s d<free g.2.1 g.1 s d now<;>simp[hv]
 .have hr:aFj g id s d now=aJr g.2.1 id s d now:=by unfold aFj;simp[hid]
  have hne:(id != 0)=X:=by simpa using hid
  rw[hr,hne,zZ,aA]
  by_cases hu:aGg g.2.2 id s d<aJr g.2.1 id s d now
  .simp[hu]
  .by_cases hv:aGg g.2.2 0 s d<free g.2.1 g.1 s d now<;>simp[hu,hv]
def yH(t:den tTo)(r d:Int):Int:=
 match dG (λk x=>if mG x r d then U (k:Int) else W) 0 t.2 with
 | some i=>i
 | none=> -1
def aOi(t:den tTo)(r d:Int):yH t r d= -1\/ ∃(j:Nat) (x:den tLk),yH t r d=(j:Int)/\t.2[j]? =U x/\mG x r d=X:=by
 unfold yH;cases h:dG (λk x=>if mG x r d then U (k:Int) else W) 0 t.2 with
 | none=>exact .inl rfl
 | some i=>
  obtain⟨j,x,h1,h2,h3⟩:=aWv h;exact .inr ⟨j,x,by simpa using h2,h1,h3⟩
def aXi{t:den tTo}{r d:Int}(h:t.2.length<=549755813888):pG t r d=U (yH t r d):=by
 unfold pG pj5;rw[aM (l:=t.2) (λk x=>if mG x r d then U (k:Int) else W) (by omega) (λk x hi hd hw hx hk=>by
  simp only[hd,hi,hw,zZ,aA,bLg];cases mG x r d<;>rfl) (by simp)]
 unfold yH;cases dG (λk x=>if mG x r d then U (k:Int) else W) 0 t.2<;>rfl
def aXv{t:den tTo}{r d:Int}(h:t.2.length<=549755813888):pD t r d=U (yH t r d):=by
 unfold pD pj5;rw[aM (l:=t.2) (λk x=>if mG x r d then U (k:Int) else W) (by omega) (λk x hi hd hw hx hk=>by
  simp only[hd,hi,hw,zZ,aA,bLi];cases mG x r d<;>rfl) (by simp)]
 unfold yH;cases dG (λk x=>if mG x r d then U (k:Int) else W) 0 t.2<;>rfl
def bWt(x:den tLk)(r d:Int):q20:=cond (x.1==r&&x.2.1==d) (x.2.2.1,x.2.2.2.1) (x.1,x.2.1)
def remote(t:den tTo)(r d:Int):q20:=if yH t r d<0 then (-1,0) else bWt ((t.2[(yH t r d).toNat]?).getD (0,0,0,0,0)) r d
def aFk{t:den tTo}{r d:Int}(h:t.2.length<=549755813888):fC t r d=U (remote t r d):=by
 unfold fC remote pj2;simp only[aD,aXi h,aA];rcases aOi t r d with e | ⟨j,x,e,hx,he⟩
 .rw[e];rfl
 .rw[e,zW (by omega),zY,zS (by omega),aR,hx,cMt,hx,aA,cNh];unfold bWt;cases x.1==r<;>cases x.2.1==d<;>rfl
def aEn{t:den tTo}{r d:Int}(h:t.2.length<=549755813888):dM t r d=U (remote t r d):=by
 unfold dM remote pj2;simp only[aD,aXv h,aA];rcases aOi t r d with e | ⟨j,x,e,hx,he⟩
 .rw[e];rfl
 .rw[e,zW (by omega),zY,zS (by omega),aR,hx,cMt,hx,aA,cNh];unfold bWt;cases x.1==r<;>cases x.2.1==d<;>rfl
def bNr(x:den tLk)(r d:Int):Int:=cond (x.2.2.2.2==1) 1 (cond (x.2.2.2.2==3) 4 (cond (x.2.2.2.2==2) (cond (x.1==r&&x.2.1==d) 2 3) 0))
def tC(t:den tTo)(r d:Int):Int:=cond (d==0) 5 (if yH t r d<0 then 0 else bNr ((t.2[(yH t r d).toNat]?).getD (0,0,0,0,0)) r d)
def aUy{t:den tTo}{r d:Int}(h:t.2.length<=549755813888):eK t r d=U (tC t r d):=by
 unfold eK tC pj2 zz4;simp only[aD,aXi h,aA];cases d==0
 .rcases aOi t r d with e | ⟨j,x,e,hx,he⟩
  .rw[e];rfl
  .rw[e,zW (by omega),zY,zY,zY,zS (by omega),aR,hx,cMt,hx,aA,cNh];unfold bNr;rw[show (x.2.2.2.2 != 2)= !(x.2.2.2.2==2) from rfl];cases x.2.2.2.2==1<;>cases x.2.2.2.2==3<;>cases x.2.2.2.2==2<;>cases x.1==r<;>cases x.2.1==d<;>rfl
 .rfl
def aVd{t:den tTo}{r d:Int}(h:t.2.length<=549755813888):eN t r d=U (tC t r d):=by
 unfold eN tC pj2 zz4;simp only[aD,aXv h,aA];cases d==0
 .rcases aOi t r d with e | ⟨j,x,e,hx,he⟩
  .rw[e];rfl
  .rw[e,zW (by omega),zY,zY,zY,zS (by omega),aR,hx,cMt,hx,aA,cNh];unfold bNr;cases x.2.2.2.2==1<;>cases x.2.2.2.2==3<;>cases x.2.2.2.2==2<;>cases x.1==r<;>cases x.2.1==d<;>rfl
 .rfl
def aJt(a b:Int):Bool:=cond (a==5||a==2) (b==2||b==5||(b==1||b==3)) (cond (a==3) (b==2||b==5) (cond (a==1) (b==2||b==5||b==1) Y))
def bTg(a b:Int):oV a b=U (aJt a b):=by
 unfold oV aJt;cases c5:a==5<;>cases c2:a==2<;>cases a==3<;>cases a==1<;>cases b==2<;>cases b==5<;>cases b==1<;>cases b==3<;>first | rfl | (simp at c5 c2;omega)
def bUd(a b:Int):oM a b=U (aJt a b):=by
 unfold oM aJt;cases c5:a==5<;>cases c2:a==2<;>cases a==3<;>cases a==1<;>cases b==2<;>cases b==5<;>cases b==1<;>cases b==3<;>first | rfl | (simp at c5 c2;omega)
def aR1(t:den tTo)(s:den aEl):Bool:=aJt (tC t s.1 s.2.1) (tC t s.1 s.2.2)&&(!(s.2.1==s.2.2)||s.2.1==0)
def cD4{t:den tTo}{s:den aEl}(h:t.2.length<=549755813888):vP t s=U (aR1 t s):=by
 unfold vP aR1 pj2;simp only[aD,aUy h,bTg,aA];rw[show (s.2.1 != s.2.2)= !(s.2.1==s.2.2) from rfl];cases aJt (tC t s.1 s.2.1) (tC t s.1 s.2.2)<;>cases s.2.1==s.2.2<;>cases s.2.1==0<;>rfl
def cDo{t:den tTo}{s:den aEl}(h:t.2.length<=549755813888):vM t s=U (aR1 t s):=by
 unfold vM aR1 pj2;simp only[aD,aVd h,bUd,aA];rw[show (s.2.1 != 0)= !(s.2.1==0) from rfl];cases aJt (tC t s.1 s.2.1) (tC t s.1 s.2.2)<;>cases s.2.1==s.2.2<;>cases s.2.1==0<;>rfl
def yS(s i:Int):Bool:=inR s 0 65535&&(inR i 0 15&&(aLg .i64 (shr .i64 s i) 1==1))
def bDs{i:Int}(h:inR i 0 15=X):IntKind.wrap .u64 i=i:=by
 obtain⟨h0,h1⟩:=bQ.1 h;have :=bHc (n:=i.toNat) (by omega)
 rwa [cO6 h0]at this
def bK4(s i:Int):uR s i=U (yS s i):=by
 unfold uR yS nU;simp only[gU,aA];cases inR s 0 65535
 .rfl
 .cases c:inR i 0 15
  .rfl
  .rw[bDs c,zW (by have :=bQ.1 c;omega)];rfl
def bKd(s i:Int):tL s i=U (yS s i):=by
 unfold tL yS nW aE7;simp only[fB,aA];cases inR s 0 65535
 .rfl
 .cases c:inR i 0 15
  .rfl
  .simp only[zZ,aA,zW (show ¬ i<0 by have :=bQ.1 c;omega),zY,cM1]
def aWp(s i:Int):Int:=cond (inR s 0 65535&&inR i 0 15) (bOr .i64 s (shl .i64 1 i)) s
def cG2(s i:Int):xL s i=U (aWp s i):=by
 unfold xL aWp nU;simp only[gU,aA];cases inR s 0 65535
 .rfl
 .cases c:inR i 0 15
  .rfl
  .rw[bDs c,zW (by have :=bQ.1 c;omega)];rfl
def cJc(s i:Int):wN s i=U (aWp s i):=by
 unfold wN aWp nW aE7;simp only[fB,aA];cases inR s 0 65535
 .rfl
 .cases c:inR i 0 15
  .rfl
  .rw[zW (by have :=bQ.1 c;omega)];rfl
def bF0{α:Type}(p:α->Bool)(N:Int):∀(l:List α) (k:Nat),N=((k+l.length:Nat):Int)->aFa (λk x (_:Unit)=>if p x then .inl () else .inr (k:Int)) (λ_=>N) k l ()=((k+l.findIdx (λx=> !p x):Nat):Int)
 | [],k,h=>by simpa [aFa] using h
 | x::xs,k,h=>by
  simp only[aFa,List.findIdx_cons];cases hp:p x with
  | true=>
   have :=bF0 p N xs (k+1) (by rw[h];simp;omega);simp only[zV,this,cMp,zY];omega
  | false=>simp
def oK(l:List Int)(n:Int):Nat:=l.findIdx λx=> !D (x<n)
def bL2(l:List Int)(n:Int):oK l n<=l.length:=List.findIdx_le_length
def bEe{l:List Int}{n:Int}{step:Int->Option (Int⊕Int)}(hl:l.length<=549755813888)
  (h:∀(k:Nat) (x:Int),idx l (k:Int)=U x->l[k]? =U x->D ((k:Int)<(l.length:Int))=X->IntKind.i64.wrap ((k:Int)+1)=((k+1:Nat):Int)->step (k:Int)=U (if D (x<n) then .inl ((k+1:Nat):Int) else .inr (k:Int)))
  (he:step (l.length:Int)=U (.inr (l.length:Int))):aB step (0:Int)=U (oK l n:Int):=by
 rw[aI6 (λk (_:Unit)=>(k:Int)) (0:Int) () l (λk x _=>if D (x<n) then .inl () else .inr (k:Int)) (λ_ _=>True) (λ_=>(l.length:Int)) rfl (by omega) trivial (λk x a hi hx hd hw hk _=>by
  refine⟨?_,λ_ _=>trivial⟩;rw[h k x hi hx hd hw];cases D (x<n)<;>rfl) (λ_ _=>he)]
 rw[bF0 (λx=>D (x<n)) (l.length:Int) l 0 (by simp)];simp[oK]
def yL(l:List Int)(n:Int):List Int:=if l[oK l n]? =U n then l else l.take (oK l n)++[n]++l.drop (oK l n)
def aNs(l:List Int)(n:Int):(yL l n).length<=l.length+1:=by
 unfold yL;split
 .omega
 .simp;omega
def aDn{k n:Nat}(h:k<=n):bH (0:Int) (k:Int) (n:Int)=X:=by
 simp only[bH,cMu,zR];omega
def wM{k n:Nat}(h:k<=n):bH (k:Int) (n:Int) (n:Int)=X:=by
 simp only[bH,cMu,zR];omega
def aC0{α:Type}{l:List α}{k:Nat}:cut l (k:Int) (l.length:Int)=l.drop k:=by
 unfold cut;rw[cMt];apply List.take_of_length_le;simp
def bKh{l:List Int}(h:l.length<=549755813888):vX l=U l:=by
 unfold vX;rw[aC (n:=([]:List Int).length) (by decide) (by simpa using h)];rfl
def aY2{l:List Int}{n:Int}{b:Bool}(hb:(l[oK l n]? =U n)=(b=X)):yL l n=cond b l (l.take (oK l n)++[n]++l.drop (oK l n)):=by
 unfold yL;cases b with
 | true=>rw[zT (by rw[hb])];rfl
 | false=>rw[zS (by rw[hb];simp)];rfl
def aTw{l:List Int}{n:Int}(h:l.length<=137438953472):rN l n=U (yL l n):=by
 have hp:=bL2 l n;unfold rN;rw[bEe (l:=l) (n:=n) (by omega) (λk x hi hx hd hw=>by
  simp only[hd,zZ,hi,aA,hw];cases D (x<n)<;>rfl) (by simp)]
 simp only[aA,aDn hp,wM hp,fL,aC0,zZ,bB,cB,bL,bJ,bO,bKh (l:=l.take (oK l n)) (by simp;omega)];rw[aC (b:=8) (n:=(l.take (oK l n)).length) (m:=1) (by decide) (by simp;omega),aC (b:=8) (m:=(l.drop (oK l n)).length) (by decide) (by simp;omega)]
 by_cases hlt:oK l n<l.length
 .have hx:l[oK l n]? =U l[oK l n]:=cMz hlt;rw[zX (by omega),zZ,aR,hx,aA,aA];rw[aY2 (b:=l[oK l n]==n) (by rw[hx];simp)];cases l[oK l n]==n<;>rfl
 .rw[zW (by omega),zY,aA];rw[aY2 (b:=Y) (by rw[List.getElem?_eq_none (by omega)];simp)];rfl
def aYr{l:List Int}{n:Int}(h:l.length<=137438953472):aCi l n=U (yL l n):=by
 have hp:=bL2 l n;unfold aCi ixb;rw[bEe (l:=l) (n:=n) (by omega) (λk x hi hx hd hw=>by
  simp only[hd,zZ,bF,cMt,hx,aA,hw];cases D (x<n)<;>rfl) (by simp)]
 simp only[aA,aDn hp,wM hp,fL,aC0,zZ,bB,cB,bL,bJ,bO,cNf,cNd];rw[aC (b:=8) (n:=0) (m:=(l.take (oK l n)).length) (by decide) (by simp;omega),aC (b:=8) (n:=(l.take (oK l n)).length) (m:=1) (by decide) (by simp;omega),aC (b:=8) (m:=(l.drop (oK l n)).length) (by decide) (by simp;omega)]
 by_cases hlt:oK l n<l.length
 .have hx:l[oK l n]? =U l[oK l n]:=cMz hlt;rw[zX (by omega),zZ,bF,zZ,zZ,cMt,hx,aA,aA];rw[aY2 (b:=l[oK l n]==n) (by rw[hx];simp)];cases l[oK l n]==n<;>rfl
 .rw[zW (by omega),zY,aA];rw[aY2 (b:=Y) (by rw[List.getElem?_eq_none (by omega)];simp)];rfl
def aOy(r:Int)(x:den tLk)(a:List Int):List Int:=cond (x.2.2.1==r) (yL (cond (x.1==r) (yL a x.2.1) a) x.2.2.2.1) (cond (x.1==r) (yL a x.2.1) a)
def aTf(r:Int)(x:den tLk)(a:List Int):(aOy r x a).length<=a.length+2:=by
 unfold aOy;have h1:=aNs a x.2.1;have h2:=aNs (yL a x.2.1) x.2.2.2.1;have h3:=aNs a x.2.2.2.1;cases x.1==r<;>cases x.2.2.1==r<;>simp only[zZ,zY]<;>omega
def aQt(t:den tTo)(r:Int):List Int:=cV (λ_ x a=>aOy r x a) 0 t.2 []
def bEd(t:den tTo)(r:Int):(aQt t r).length<=2 * t.2.length:=by
 have h:=aE8 (f:=λ_ x (a:List Int)=>aOy r x a) (m:=cMy) (cost:=λ_=>2) (λk x a=>aTf r x a) t.2 0 [];rw[aM3]at h;simpa [aQt] using h
def cEl{t:den tTo}{r:Int}(h:t.2.length<=68719476736):xE t r=U (aQt t r):=by
 unfold xE;rw[(jG (λk (a:List Int)=>(a,(k:Int))) ([],(0:Int)) [] t.2 (λ_ x a=>aOy r x a) cMy (λ_=>2) 137438953472 id rfl (by omega) (by rw[aM3];simp;omega) (λk x a hi hx hd hw hk hb=>by
  refine⟨?_,aTf r x a⟩;have h1:=aNs a x.2.1;simp only[hd,hi,hw,zZ,aA,aTw (l:=a) (by omega),aTw (l:=yL a x.2.1) (by omega)];unfold aOy;cases x.1==r<;>cases x.2.2.1==r<;>simp only[zZ,zY,aA,aTw (l:=a) (by omega),aTw (l:=yL a x.2.1) (by omega)]) (λa=>by simp)).1]
 rfl
def cEv{t:den tTo}{r:Int}(h:t.2.length<=68719476736):wQ t r=U (aQt t r):=by
 unfold wQ;rw[(jG (λk (a:List Int)=>((k:Int),a)) ((0:Int),[]) [] t.2 (λ_ x a=>aOy r x a) cMy (λ_=>2) 137438953472 id rfl (by omega) (by rw[aM3];simp;omega) (λk x a hi hx hd hw hk hb=>by
  refine⟨?_,aTf r x a⟩;have h1:=aNs a x.2.1;simp only[hd,hi,hw,zZ,aA,aYr (l:=a) (by omega),aYr (l:=yL a x.2.1) (by omega)];unfold aOy;cases x.1==r<;>cases x.2.2.1==r<;>simp only[zZ,zY,aA,aYr (l:=a) (by omega),aYr (l:=yL a x.2.1) (by omega)]) (λa=>by simp)).1]
 rfl
def aSd{α:Type}(l:List α):(l.map λ_=>0).sum=0:=by
 induction l with
 | nil=>rfl
 | cons x l ih=>rw[cNb,cNy,ih]
def yQ(t:den tTo)(dead:List Int)(r:Int):Int:=cV (λ_ x a=>cond (oD dead (yH t r x)) (aWp a x) a) 0 (aQt t r) 0
def bCi{t:den tTo}{dead:List Int}{r:Int}(h:t.2.length<=68719476736)(hd:dead.length<=549755813888):dZ t dead r=U (yQ t dead r):=by
 have hl:=bEd t r;unfold dZ pj2;simp only[aD,cEl h,aA];rw[fV (λk (a:Int)=>(a,(k:Int))) ((0:Int),(0:Int)) 0 (aQt t r) (λ_ x a=>cond (oD dead (yH t r x)) (aWp a x) a) (λ_=>0) (λ_=>0) 0 id rfl (by omega) (by rw[aSd];exact cM5 _) (λ_ _ _=>cM5 _) (λk x a hi hx hd' hw hk hb=>by
  simp only[hd',hi,hw,zZ,aA,aXi (t:=t) (r:=r) (d:=x) (by omega),aNq hd,cG2];cases oD dead (yH t r x)<;>rfl) (λa=>by simp)]
 rfl
def bBy{t:den tTo}{dead:List Int}{r:Int}(h:t.2.length<=68719476736)(hd:dead.length<=549755813888):dI t dead r=U (yQ t dead r):=by
 have hl:=bEd t r;unfold dI ixb pj2;simp only[aD,cEv h,aA];rw[fV (λk (a:Int)=>(a,(k:Int))) ((0:Int),(0:Int)) 0 (aQt t r) (λ_ x a=>cond (oD dead (yH t r x)) (aWp a x) a) (λ_=>0) (λ_=>0) 0 id rfl (by omega) (by rw[aSd];exact cM5 _) (λ_ _ _=>cM5 _) (λk x a hi hx hd' hw hk hb=>by
  simp only[hd',bF,cMt,hx,hw,zZ,aA,aXv (t:=t) (r:=r) (d:=x) (by omega),aKt hd,cJc];cases oD dead (yH t r x)<;>rfl) (λa=>by simp)]
 rfl
def aUf(key ts beta:Int)(h:den cH):Int:=aAt (([key]++[ts,beta,h.1,h.2.1,h.2.2.1,h.2.2.2.1])++[key])
def bTr(key ts beta:Int)(h:den cH):aCz key ts beta h=U (aUf key ts beta h):=by
 unfold aCz kH aUf;rw[aC (b:=8) (n:=[key].length) (by decide) (by simp),aC (b:=8) (by decide) (by simp),aQg (by simp)];rfl
def bRm(key ts beta:Int)(h:den cH):aCy key ts beta h=U (aUf key ts beta h):=by
 unfold aCy kD aUf;rw[aC (b:=8) (n:=[key].length) (by decide) (by simp),aC (b:=8) (by decide) (by simp),aP4 (by simp)];rfl
def h0:den cH:=(0,0,0,0,0)
def aHi(t:den tTo)(r:Int):Int:=((t.1[r.toNat]?).getD (0,Y,0)).2.2
def vR(t:den tTo)(ts beta:Int)(h:den cH):Bool:=nX h&&(cK t h.1&&(h.2.2.2.2==aUf (aHi t h.1) ts beta h))
def aZz{t:den tTo}{ts beta:Int}{h:den cH}(ht:t.1.length<=549755813888):nB t ts beta h=U (vR t ts beta h):=by
 unfold nB vR pj2 pj5 zz4;simp only[aD,aXw,aBy ht,aA,bTr];cases nX h
 .rfl
 .cases c:cK t h.1
  .rfl
  .obtain⟨x,hx,ix⟩:=aHd c;rw[ix,aHi,hx];rfl
def bIl{t:den tTo}{ts beta:Int}{h:den cH}(ht:t.1.length<=549755813888):kV t ts beta h=U (vR t ts beta h):=by
 unfold kV vR pj2 pj5 zz4;simp only[aD,aRg,aDg ht,aA,bRm];cases nX h
 .rfl
 .cases c:cK t h.1
  .rfl
  .obtain⟨x,hx,ix⟩:=aHd c;rw[ix,aHi,hx];rfl
def aFm(t:den tTo)(l:eU)(k:Nat)(x:den cH):Bool:=nX x&&(cK t x.1&&(l.take k).all λy=> !(y.1==x.1))
def aGd(t:den tTo)(l:eU):Bool:=(l.zipIdx 0).all λz=>aFm t l z.2 z.1
def bKk{t:den tTo}{l:eU}(ht:t.1.length<=549755813888)(hl:l.length<=549755813888):aC1 t l=U (inR (l.length:Int) 1 8&&aGd t l):=by
 unfold aC1 aGd pj2 pj5;rw[aM (l:=l) (λk x=>if aFm t l k x then W else U Y) (by omega) (λk x hi hd hw hm hk=>by
  simp only[hd,hi,zZ,aA,aD,aXw,aBy ht,aD1 hk,fL,hw];rw[aM (l:=l.take k) (λ_ y=>if !(y.1==x.1) then W else U (cMm (cMm Y))) (by rw[aCx hk];omega) (λj y hi hd hw hm hk=>by
   simp only[hd,hi,hw,zZ,aA];cases y.1==x.1<;>rfl) (by simp),iL (λy:den cH=> !(y.1==x.1))]
  unfold aFm;cases nX x<;>cases cK t x.1<;>cases (l.take k).all (λy=> !(y.1==x.1))<;>rfl) (by simp),aEa (aFm t l)]
 rw[gU,aA];cases inR (l.length:Int) 1 8<;>cases (l.zipIdx 0).all (λz=>aFm t l z.2 z.1)<;>rfl
def aV9(t:den tTo)(p:den tPp)(x y:den cH):Bool:= !(pEg p x==0)&&((remote t x.1 (pEg p x)).1==y.1&&(remote t x.1 (pEg p x)).2==pIn p y)
def aGq(t:den tTo)(p:den tPp)(k:Nat)(y:den cH):Bool:=D (k=0)||aV9 t p ((p.2.2.2[k - 1]?).getD h0) y
def aBe(t:den tTo)(p:den tPp):Bool:=
 inR (p.2.2.2.length:Int) 1 8&&(inR p.1 1 4&&(inR p.2.1 0 1000000&&(kO p.2.2.1&&(aGd t p.2.2.2&&(p.2.2.2.zipIdx 0).all λz=>aGq t p z.2 z.1))))
def bVr(t:den tTo)(p:den tPp):((p.2.2.2.drop 1).zipIdx 0).all (λz=>aV9 t p ((p.2.2.2[z.2]?).getD h0) z.1)=(p.2.2.2.zipIdx 0).all (λz=>aGq t p z.2 z.1):=by
 rw[cNe,aJ9 (λk x=>aV9 t p ((p.2.2.2[k]?).getD h0) x),aJ9 (aGq t p)];constructor
 .intro h k x hx;cases k with
  | zero=>rfl
  | succ k=>
   have :=h k x (by rw[cN8,Nat.add_comm];exact hx);simpa [aGq] using this
 .intro h k x hx;rw[cN8,Nat.add_comm]at hx;have :=h (k+1) x hx;simpa [aGq] using this
def kJ(a b:Int):(a != b)= !(a==b):=rfl
def bUu{t:den tTo}{p:den tPp}(ht:t.1.length<=549755813888)(ht2:t.2.length<=549755813888)(hl:p.2.2.2.length<=549755813888):zE t p=U (aBe t p):=by
 unfold zE aBe pj2 pj4;rw[aM (l:=p.2.2.2.drop 1) (λk y=>if aV9 t p ((p.2.2.2[k]?).getD h0) y then W else U Y) (by rw[cOz];omega) (λk y hi hd hw hm hk=>by
  have hy:p.2.2.2[k+1]? =U y:=by rw[aR,cN8,Nat.add_comm]at hi;exact hi
  have hlt:k+1<p.2.2.2.length:=(cM0.1 hy).1;obtain⟨x,hx⟩:∃x,p.2.2.2[k]? =U x:=⟨_,cMz (by omega)⟩
  have hd':D ((k:Int)<wr ((p.2.2.2.length:Int) - 1))=X:=by rw[dN hl];simp;omega
  have hy':idx p.2.2.2 ((k+1:Nat):Int)=U y:=by rw[aR];exact hy
  simp only[hd',zZ,aD,bOs hx hl,aA,aR,hx,hw,hy,bOm hy hl,aFk ht2,cNh,kJ];unfold aV9;cases pEg p x==0<;>cases (remote t x.1 (pEg p x)).1==y.1<;>cases (remote t x.1 (pEg p x)).2==pIn p y<;>rfl) (by
   rw[cOz,dN hl,zW (by omega)];rfl),aEa (λk y=>aV9 t p ((p.2.2.2[k]?).getD h0) y),bVr]
 simp only[aD,gU,bKk ht hl,aH4,aA];cases inR (p.2.2.2.length:Int) 1 8<;>cases inR p.1 1 4<;>cases inR p.2.1 0 1000000<;>cases kO p.2.2.1<;>cases aGd t p.2.2.2<;>cases (p.2.2.2.zipIdx 0).all (λz=>aGq t p z.2 z.1)<;>rfl
def aHv{α S:Type}(p:Nat->α->Bool)(o r:S):∀(l:List α) (k:Nat),aFa (λk x (_:Unit)=>if p k x then .inl () else .inr r) (λ_=>o) k l ()=if (l.zipIdx k).all (λz=>p z.2 z.1) then o else r
 | [],_=>rfl
 | x::xs,k=>by
  simp only[aFa,List.zipIdx_cons,List.all_cons];rcases cPc (p k x) with h | h
  .simp only[h,zV,cM1];exact aHv p o r xs (k+1)
  .simp[h]
def bYt{p:den tPp}(hl:p.2.2.2.length<=549755813888):aAa p=U (p.2.2.2.map (·.1)):=by
 unfold aAa;rw[(jG (λk (a:List Int)=>((k:Int),a)) ((0:Int),[]) [] p.2.2.2 (λ_ x a=>a++[x.1]) cMy (λ_=>1) 549755813888 id rfl (by omega) (by rw[cS];simpa using hl) (λk x a hi hx hd hw hk hb=>by
  simp only[hd,hi,hw,zZ,aA,aC (b:=8) (by decide) hb];simp) (λa=>by simp)).1,dQ (λx:den cH=>x.1)]
 simp
def bHq(l:eU)(k:Nat)(n:Int):oD ((l.map (·.1)).take k) n= !((l.take k).all λy=> !(y.1==n)):=by
 unfold oD;rw[<- List.map_take,List.all_map];rfl
def bRf{t:den tTo}{p:den tPp}(ht:t.1.length<=549755813888)(ht2:t.2.length<=549755813888)(hl:p.2.2.2.length<=549755813888):zG t p=U (aBe t p):=by
 unfold zG aBe pj2 pj4 pj5;simp only[aD,bYt hl,aA];have hR:(p.2.2.2.map (·.1)).length=p.2.2.2.length:=by simp
 rw[aI6 (λk (_:Unit)=>(p.2.2.2.map (·.1),(k:Int))) (p.2.2.2.map (·.1),(0:Int)) () p.2.2.2 (λk x _=>if (aFm t p.2.2.2 k x&&aGq t p k x) then .inl () else .inr (.inr Y)) (λ_ _=>True) (λ_=> .inl ()) rfl (by omega) trivial (λk x a hi hx hd hw hk _=>by
  refine⟨?_,λ_ _=>trivial⟩;have hr:(p.2.2.2.map (·.1))[k]? =U x.1:=by rw[cOk,hx];rfl
  have hs:bH (0:Int) (k:Int) ((p.2.2.2.map (·.1)).length:Int)=X:=by rw[hR];exact aD1 hk
  have hh:gR ((p.2.2.2.map (·.1)).take k) x.1=U (!((p.2.2.2.take k).all λy=> !(y.1==x.1))):=by
   rw[aKt (by simp;omega),bHq]
  simp only[hd,zZ,hi,aR,hr,aA,aRg,aDg ht,hs,fL,hh,hw];cases k with
  | zero=>
   rw[show D (((0:Nat):Int)>0)=Y from by decide];unfold aFm aGq;cases nX x<;>cases cK t x.1<;>cases (p.2.2.2.take 0).all (λy=> !(y.1==x.1))<;>rfl
  | succ j=>
   have hw1:wr (((j+1:Nat):Int) - 1)=(j:Int):=(wri (by omega) (by omega)).trans (by omega);obtain⟨y,hy⟩:∃y,p.2.2.2[j]? =U y:=⟨_,cMz (by omega)⟩
   have hr1:(p.2.2.2.map (·.1))[j]? =U y.1:=by rw[cOk,hy];rfl
   rw[show D (((j+1:Nat):Int)>0)=X from by simp];simp only[hw1,aR,hr1,aA,bE8 hy hl,bOi hx hl,aEn ht2,zZ,kJ];unfold aFm aGq aV9;rw[cPt,hy,cNh];cases nX x<;>cases cK t x.1<;>cases (p.2.2.2.take (j+1)).all (λy=> !(y.1==x.1))<;>cases pEg p y==0<;>cases (remote t y.1 (pEg p y)).1==x.1<;>cases (remote t y.1 (pEg p y)).2==pIn p x<;>rfl) (λa _=>by simp)]
 rw[aHv (λk x=>aFm t p.2.2.2 k x&&aGq t p k x)];have hsplit:(p.2.2.2.zipIdx 0).all (λz=>aFm t p.2.2.2 z.2 z.1&&aGq t p z.2 z.1)=(aGd t p.2.2.2&&(p.2.2.2.zipIdx 0).all λz=>aGq t p z.2 z.1):=by
  unfold aGd;rw[cNe];simp only[cNq,cMu];exact⟨λh=>⟨λz hz=>(h z hz).1,λz hz=>(h z hz).2⟩,λh z hz=>⟨h.1 z hz,h.2 z hz⟩⟩
 rw[hsplit];simp only[fB,aIc,aA];cases inR (p.2.2.2.length:Int) 1 8<;>cases inR p.1 1 4<;>cases inR p.2.1 0 1000000<;>cases kO p.2.2.1<;>cases aGd t p.2.2.2<;>cases (p.2.2.2.zipIdx 0).all (λz=>aGq t p z.2 z.1)<;>rfl
def aG1(k:Int):Int:=cond (k==1) 1 (cond (k==2||k==3) 2 3)
def bXk(k:Int):aBj k=U (aG1 k):=by
 unfold aBj aG1;cases k==1<;>cases k==2<;>cases k==3<;>rfl
def bVf(k:Int):aBr k=U (aG1 k):=by
 unfold aBr aG1;cases k==1<;>cases k==2<;>cases k==3<;>rfl
def pt0:den tPp:=(0,0,0,[])
def aZh(y:den tPp):den cH:=(y.2.2.2[y.2.2.2.length - 1]?).getD h0
def aY4(y:den tPp):den cH:=(y.2.2.2[0]?).getD h0
def bE5(y x:den tPp):Bool:= !D (aG1 y.1>=aG1 x.1)&&(aZh y).1==(aY4 x).1
def aEc(t:den tTo)(p:den tPt)(k:Nat)(x:den tPp):Bool:=aBe t x&&(D (k=0)||bE5 ((p[k - 1]?).getD pt0) x)
def wfP(t:den tTo)(p:den tPt):Bool:=inR (p.length:Int) 1 3&&(p.zipIdx 0).all λz=>aEc t p z.2 z.1
def aKi{t:den tTo}{p:den tPp}(h:aBe t p=X):0<p.2.2.2.length:=by
 unfold aBe at h;rw[cMu]at h;have :=bQ.1 h.1;omega
def bIo{y:den tPp}(h:0<y.2.2.2.length)(hl:y.2.2.2.length<=549755813888):idx y.2.2.2 (wr ((y.2.2.2.length:Int) - 1))=U (aZh y):=by
 rw[aZg hl h,aR];unfold aZh;rw[cMz (show y.2.2.2.length - 1<y.2.2.2.length by omega)];rfl
def bI3{y:den tPp}(h:0<y.2.2.2.length):idx y.2.2.2 (0:Int)=U (aY4 y):=by
 have :idx y.2.2.2 ((0:Nat):Int)=y.2.2.2[0]? :=aR;rw[show (0:Int)=((0:Nat):Int) from rfl,this];unfold aY4;rw[cMz h];rfl
def cK0{t:den tTo}{p:den tPt}(ht:t.1.length<=549755813888)(ht2:t.2.length<=549755813888)(h:SmB 549755813888 tPt p):oX t p=U (wfP t p):=by
 have lp:=h.1;have lh:∀(k:Nat) (x:den tPp),p[k]? =U x->x.2.2.2.length<=549755813888:=λk x hx=>(h.2 x (cMw hx)).2.2.2.1
 unfold oX wfP pj2 pj4;rw[aI6 (λk (_:Unit)=>(k:Int)) (0:Int) () p (λk x _=>if aEc t p k x then .inl () else .inr (.inr Y)) (λk _=> ∀j y,j<k->p[j]? =U y->0<y.2.2.2.length) (λ_=> .inl ()) rfl (by omega) (λj y hj=>absurd hj (Nat.not_lt_zero _)) (λk x a hi hx hd hw hk hI=>by
  have hlx:=lh k x hx;refine⟨?_,λa' ha j y hj hy=> ?_⟩
  .simp only[hd,zZ,hi,aA,aD,bUu ht ht2 hlx,hw];cases hv:aBe t x with
   | false=>unfold aEc;rw[hv];rfl
   | true=>
    cases k with
    | zero=>
     rw[show D (((0:Nat):Int)>0)=Y from by decide];unfold aEc;rw[hv];rfl
    | succ j=>
     have hw1:wr (((j+1:Nat):Int) - 1)=(j:Int):=(wri (by omega) (by omega)).trans (by omega);obtain⟨y,hy⟩:∃y,p[j]? =U y:=⟨_,cMz (by omega)⟩
     rw[show D (((j+1:Nat):Int)>0)=X from by simp];simp only[hw1,aR,hy,aA,bXk,bIo (hI j y (Nat.lt_succ_self j) hy) (lh j y hy),bI3 (aKi hv),zZ,kJ,cMp,zY];unfold aEc bE5;rw[cPt,hy,cNh,hv];cases D (aG1 y.1>=aG1 x.1)<;>cases (aZh y).1==(aY4 x).1<;>rfl
  .rcases Nat.lt_succ_iff_lt_or_eq.1 hj with hj | rfl
   .exact hI j y hj hy
   .rw[hx]at hy;injection hy with hy;subst hy;rcases cPc (aEc t p j x) with hb | hb
    .unfold aEc at hb;rw[cMu]at hb;exact aKi hb.1
    .simp[hb]at ha) (λa _=>by simp)]
 rw[aHv (aEc t p),gU,aA];cases inR (p.length:Int) 1 3<;>cases (p.zipIdx 0).all (λz=>aEc t p z.2 z.1)<;>rfl
def cJ7{t:den tTo}{p:den tPt}(ht:t.1.length<=549755813888)(ht2:t.2.length<=549755813888)(h:SmB 549755813888 tPt p):oN t p=U (wfP t p):=by
 have lp:=h.1;have lh:∀(k:Nat) (x:den tPp),p[k]? =U x->x.2.2.2.length<=549755813888:=λk x hx=>(h.2 x (cMw hx)).2.2.2.1
 unfold oN wfP pj2 pj4;rw[aI6 (λk (_:Unit)=>(k:Int)) (0:Int) () p (λk x _=>if aEc t p k x then .inl () else .inr (.inr Y)) (λk _=> ∀j y,j<k->p[j]? =U y->0<y.2.2.2.length) (λ_=> .inl ()) rfl (by omega) (λj y hj=>absurd hj (Nat.not_lt_zero _)) (λk x a hi hx hd hw hk hI=>by
  have hlx:=lh k x hx;refine⟨?_,λa' ha j y hj hy=> ?_⟩
  .simp only[hd,zZ,hi,aA,aD,bRf ht ht2 hlx,hw];cases hv:aBe t x with
   | false=>unfold aEc;rw[hv];rfl
   | true=>
    cases k with
    | zero=>
     rw[show D (((0:Nat):Int)>0)=Y from by decide];unfold aEc;rw[hv];rfl
    | succ j=>
     have hw1:wr (((j+1:Nat):Int) - 1)=(j:Int):=(wri (by omega) (by omega)).trans (by omega);obtain⟨y,hy⟩:∃y,p[j]? =U y:=⟨_,cMz (by omega)⟩
     rw[show D (((j+1:Nat):Int)>0)=X from by simp];simp only[hw1,aR,hy,aA,bVf,bIo (hI j y (Nat.lt_succ_self j) hy) (lh j y hy),bI3 (aKi hv),zZ,kJ,cMp,zY];unfold aEc bE5;rw[cPt,hy,cNh,hv];cases D (aG1 y.1>=aG1 x.1)<;>cases (aZh y).1==(aY4 x).1<;>rfl
  .rcases Nat.lt_succ_iff_lt_or_eq.1 hj with hj | rfl
   .exact hI j y hj hy
   .rw[hx]at hy;injection hy with hy;subst hy;rcases cPc (aEc t p j x) with hb | hb
    .unfold aEc at hb;rw[cMu]at hb;exact aKi hb.1
    .simp[hb]at ha) (λa _=>by simp)]
 rw[aHv (aEc t p),fB,aA];cases inR (p.length:Int) 1 3<;>cases (p.zipIdx 0).all (λz=>aEc t p z.2 z.1)<;>rfl
def aLv(l:List Int)(k:Nat)(n:Int):Bool:= !oD (l.take k) n
def xQ(t:den tTo)(p:den tPt):Bool:=wfP t p&&((mC p).zipIdx 0).all λz=>aLv (mC p) z.2 z.1
def aVm{p:den tPt}(h:tot tPt p<=68719476736):SmB 549755813888 tPt p:=(bG h).mono (by decide)
def bC9{t:den tTo}{p:den tPt}(ht:t.1.length<=549755813888)(ht2:t.2.length<=549755813888)(h:tot tPt p<=68719476736):oJ t p=U (xQ t p):=by
 have hu:=aOn p;unfold oJ xQ pj2;simp only[aD,cK0 ht ht2 (aVm h),bKx h,aA];rw[aI6 (λk (_:Unit)=>(mC p,mC p,(k:Int))) (mC p,mC p,(0:Int)) () (mC p) (λk x _=>if aLv (mC p) k x then .inl () else .inr (.inr Y)) (λ_ _=>True) (λ_=> .inl ()) rfl (by omega) trivial (λk x a hi hx hd hw hk _=>by
  refine⟨?_,λ_ _=>trivial⟩;simp only[hd,zZ,hi,aA,aD1 hk,fL,hw,aNq (l:=(mC p).take k) (n:=x) (by simp;omega)];unfold aLv;cases oD ((mC p).take k) x<;>rfl) (λa _=>by simp)]
 rw[aHv (aLv (mC p))];cases wfP t p<;>cases ((mC p).zipIdx 0).all (λz=>aLv (mC p) z.2 z.1)<;>rfl
def bD4{t:den tTo}{p:den tPt}(ht:t.1.length<=549755813888)(ht2:t.2.length<=549755813888)(h:tot tPt p<=68719476736):oO t p=U (xQ t p):=by
 have hu:=aOn p;unfold oO xQ pj2;simp only[aD,cJ7 ht ht2 (aVm h),bLv h,aA];rw[aI6 (λk (_:Unit)=>(mC p,(k:Int))) (mC p,(0:Int)) () (mC p) (λk x _=>if aLv (mC p) k x then .inl () else .inr (.inr Y)) (λ_ _=>True) (λ_=> .inl ()) rfl (by omega) trivial (λk x a hi hx hd hw hk _=>by
  refine⟨?_,λ_ _=>trivial⟩;simp only[hd,zZ,hi,aA,aD1 hk,fL,hw,aKt (l:=(mC p).take k) (n:=x) (by simp;omega)];unfold aLv;cases oD ((mC p).take k) x<;>rfl) (λa _=>by simp)]
 rw[aHv (aLv (mC p))];cases wfP t p<;>cases ((mC p).zipIdx 0).all (λz=>aLv (mC p) z.2 z.1)<;>rfl
def dB(p:den tPk):den tPp:=(p.2.2.2.1[p.2.2.2.2.1.toNat]?).getD pt0
def fK(p:den tPk):den cH:=((dB p).2.2.2[p.2.2.2.2.2.1.toNat]?).getD h0
def qF{p:den tPk}(h:dP p=X):∃(i j:Nat),p.2.2.2.2.1=(i:Int)/\p.2.2.2.2.2.1=(j:Int)/\p.2.2.2.1[i]? =U (dB p)/\(dB p).2.2.2[j]? =U (fK p)/\fP p=(fK p).1:=by
 obtain⟨i,j,x,y,h1,h2,h3,h4,h5⟩:=aI9 h;have e1:dB p=x:=by unfold dB;rw[h1,cMt,h3];rfl
 have e2:fK p=y:=by unfold fK;rw[e1,h2,cMt,h4];rfl
 exact⟨i,j,h1,h2,by rw[e1];exact h3,by rw[e1,e2];exact h4,by rw[e2];exact h5⟩
def aMq{p:den tPk}(h:0<=fP p):dP p=X:=by
 cases c:dP p with
 | true=>rfl
 | false=>rw[aFt c]at h;omega
def iR{p:den tPk}(h:tot tPk p<=274877906944):SmB 549755813888 tPk p:=(bG h).mono (by decide)
def aF5{p:den tPk}(h:SmB 549755813888 tPk p){i:Nat}{x:den tPp}(hx:p.2.2.2.1[i]? =U x):x.2.2.2.length<=549755813888:=(h.2.2.2.1.2 x (cMw hx)).2.2.2.1
def jH(p:den tPk):Bool:=p.2.2.2.2.2.1==((dB p).2.2.2.length:Int) - 1
def aNj(p:den tPk):Bool:=p.2.2.2.2.1==(p.2.2.2.1.length:Int) - 1
def nZ(p:den tPk):Bool:=D (fP p>=0)&&(jH p&&aNj p)
def aXu{p:den tPk}(h:SmB 549755813888 tPk p)(hh:dP p=X):kE p=U (jH p):=by
 obtain⟨i,j,h1,h2,h3,h4,_⟩:=qF hh;unfold kE jH zz4 zz5;rw[h1,aR,h3,aA,dN (aF5 h h3)]
def aX1{p:den tPk}(h:SmB 549755813888 tPk p):pE p=U (nZ p):=by
 unfold pE nZ aK zz4;simp only[aD,aMl h,aA];cases c:D (fP p>=0)
 .rfl
 .have hh:=aMq (of_decide_eq_true c);have l1:=h.2.2.2.1.1;simp only[zZ,aXu h hh,aA,dN l1];unfold aNj;cases jH p<;>rfl
def bF2{p:den tPk}(h:SmB 549755813888 tPk p):rE p=U (nZ p):=by
 unfold rE nZ aK zz4 zz5;simp only[aD,aMy h,aA];cases c:D (fP p>=0)
 .rfl
 .have hh:=aMq (of_decide_eq_true c);have l1:=h.2.2.2.1.1;obtain⟨i,j,h1,h2,h3,h4,_⟩:=qF hh;simp only[zZ,dN l1];unfold aNj jH;rw[h1,aR,h3,aA,dN (aF5 h h3)];cases p.2.2.2.2.2.1==((dB p).2.2.2.length:Int) - 1<;>cases (i:Int)==(p.2.2.2.1.length:Int) - 1<;>rfl
def aMs{p:den tPk}(h:SmB 549755813888 tPk p):eL p=U (pkR p):=by
 unfold eL pkR zz4 zz5 zz6 zz7 zz8 zz9;rw[aMv h.2.2.2.1,aMi h.2.2.2.2.2.2.2.2.2.1];rfl
def aJu{p:den tPk}(h:SmB 549755813888 tPk p):iN p=U (pkR p):=by
 unfold iN pkR zz4 zz5 zz6 zz7 zz8 zz9;rw[aMj h.2.2.2.1,aC (b:=1) (n:=([]:List Int).length) (by decide) (by simpa using h.2.2.2.2.2.2.2.2.2.1)];simp
def aF6(p:den tPk)(i j b:Int):den tPk:=(p.1,p.2.1,p.2.2.1,p.2.2.2.1,i,j,b,p.2.2.2.2.2.2.2.1,p.2.2.2.2.2.2.2.2.1,p.2.2.2.2.2.2.2.2.2)
def bH2(p:den tPk):den tPp:=(p.2.2.2.1[p.2.2.2.2.1.toNat+1]?).getD pt0
def adv(p:den tPk):den tPk:=
 if D (fP p<0)||nZ p then p
 else if jH p then aF6 p (p.2.2.2.2.1+1) 0 (bH2 p).2.2.1 else aF6 p p.2.2.2.2.1 (p.2.2.2.2.2.1+1) p.2.2.2.2.2.2.1
def bKt{p:den tPk}(hh:dP p=X)(h0:0<=fP p)(hl:jH p=X)(ha:nZ p=Y):∃i:Nat,p.2.2.2.2.1=(i:Int)/\p.2.2.2.1[i+1]? =U (bH2 p):=by
 obtain⟨i,j,h1,h2,h3,h4,_⟩:=qF hh;refine⟨i,h1,?_⟩;have hlt:=(cM0.1 h3).1;have hne:aNj p=Y:=by
  unfold nZ at ha;rw[hl,zX h0]at ha;simpa using ha
 unfold aNj at hne;rw[h1]at hne;have hne: ¬ ((i:Int)=(p.2.2.2.1.length:Int) - 1):=by simpa using hne
 unfold bH2;rw[h1,cMt,cMz (show i+1<p.2.2.2.1.length by omega)];rfl
def bZs{p:den tPk}(h:SmB 549755813888 tPk p):rU p=U (pkR (adv p)):=by
 unfold rU adv aK pj2 zz4 zz5 zz6 zz7 zz8;simp only[aD,aMs h,aMl h,aX1 h,aA];cases c:D (fP p<0)
 .cases ca:nZ p
  .have h0:0<=fP p:=by have :=of_decide_eq_false c;omega
   have hh:=aMq h0;obtain⟨i,j,h1,h2,h3,h4,_⟩:=qF hh;have hlt:=(cM0.1 h3).1;have hlt2:=(cM0.1 h4).1;have l1:cMy p.2.2.2.1<=549755813888:=h.2.2.2.1.1;have l2:=aF5 h h3;simp only[zY,aA,aXu h hh,cN5,cMr,zU];cases cl:jH p
   .simp only[zY,aA,cMr,zU];unfold pkR aF6;rw[h2,show wr ((j:Int)+1)=(j:Int)+1 from wri (by omega) (by omega)]
   .obtain⟨i',e1,e2⟩:=bKt hh h0 cl ca;have :i'=i:=Int.ofNat.inj (e1.symm.trans h1);subst this;have hw:wr (((i':Nat):Int)+1)=((i'+1:Nat):Int):=(wri (by omega) (by omega)).trans (by omega);simp only[zZ,zV];unfold pkR aF6;simp only[h1,hw,aR,e2,aA];rw[show ((i'+1:Nat):Int)=(i':Int)+1 by omega]
  .rfl
 .rfl
def bPq{p:den tPk}(h:SmB 549755813888 tPk p):kI p=U (pkR (adv p)):=by
 unfold kI adv aK pj4 pj5 zz4 zz5 zz6;simp only[aD,aJu h,aMy h,bF2 h,aA];cases c:D (fP p<0)
 .cases ca:nZ p
  .have h0:0<=fP p:=by have :=of_decide_eq_false c;omega
   have hh:=aMq h0;obtain⟨i,j,h1,h2,h3,h4,_⟩:=qF hh;have hlt:=(cM0.1 h3).1;have hlt2:=(cM0.1 h4).1;have l1:cMy p.2.2.2.1<=549755813888:=h.2.2.2.1.1;have l2:=aF5 h h3;have hd:D ((j:Int)<((dB p).2.2.2.length:Int) - 1)= !jH p:=by
    have key:D ((j:Int)<((dB p).2.2.2.length:Int) - 1)= !((j:Int)==((dB p).2.2.2.length:Int) - 1):=by
     rw[cNe];simp only[zR,cN3,beq_eq_false_iff_ne,ne_eq];omega
    unfold jH;rw[h2];exact key
   simp only[zY,aA,cN5,cMr,zU,h1,h2,aR,h3,dN l2,hd];cases cl:jH p
   .simp only[cMx,zZ,cMr,zU];unfold pkR aF6;rw[show wr ((j:Int)+1)=(j:Int)+1 from wri (by omega) (by omega)];simp only[h1]
   .obtain⟨i',e1,e2⟩:=bKt hh h0 cl ca;have :i'=i:=Int.ofNat.inj (e1.symm.trans h1);subst this;have hw:wr (((i':Nat):Int)+1)=((i'+1:Nat):Int):=(wri (by omega) (by omega)).trans (by omega);simp only[cMp,zY,zV];unfold pkR aF6;simp only[hw,aR,e2,aA];rw[show ((i'+1:Nat):Int)=(i':Int)+1 by omega]
  .rfl
 .rfl
def bef(p:den tPk):Int:=if uA (dB p).1 then aRv p.2.2.2.2.2.2.1 (fK p).2.2.2.2 else p.2.2.2.2.2.2.1
def aft(p:den tPk):Int:=if uA (dB p).1 then aRv p.2.2.2.2.2.2.1 (fK p).2.2.2.2 else aQ2 p.2.2.2.2.2.2.1 (fK p).2.2.2.2
def aJf(t:den tTo)(p:den tPk):Bool:=dP p&&vR t (dB p).2.1 (bef p) (fK p)
def bV(t:den tTo)(p:den tPk):den tPk:=if aJf t p then aF6 p p.2.2.2.2.1 p.2.2.2.2.2.1 (aft p) else p
def tB(p:den tPk)(b:Bool):q10:=(p.1,p.2.1,p.2.2.1,p.2.2.2.2.1,p.2.2.2.2.2.1,p.2.2.2.2.2.2.1,p.2.2.2.2.2.2.2.1,p.2.2.2.2.2.2.2.2.1,b,p.2.2.2.1,p.2.2.2.2.2.2.2.2.2)
def cG1{t:den tTo}{p:den tPk}(ht:t.1.length<=549755813888)(h:SmB 549755813888 tPk p):lK t p=U (tB (bV t p) (aJf t p)):=by
 unfold lK bV aJf aK pj2 pj5 zz4 zz5 zz6 zz7 zz8;simp only[aD,aMs h,cAr h,aA];cases c:dP p
 .rfl
 .obtain⟨i,j,h1,h2,h3,h4,_⟩:=qF c;simp only[h1,h2,aR,h3,h4,aA,aMt,bG6,bTk,cMp,zY,cM1];unfold bef aft;cases uA (dB p).1
  .simp only[zY,aA,aZz ht,cMr,zU];cases vR t (dB p).2.1 p.2.2.2.2.2.2.1 (fK p)
   .simp only[cMx,zZ,cMr,zU];unfold tB pkR;simp only[h1,h2]
   .simp only[cMp,zY,zV];unfold tB pkR aF6;simp only[h1,h2]
  .simp only[zZ,aA,aZz ht,zV];cases vR t (dB p).2.1 (aRv p.2.2.2.2.2.2.1 (fK p).2.2.2.2) (fK p)
   .simp only[cMx,zZ,cMr,zU];unfold tB pkR;simp only[h1,h2]
   .simp only[cMp,zY,zV];unfold tB pkR aF6;simp only[h1,h2]
def bKi{t:den tTo}{ts b:Int}{h:den cH}(hv:h.1<0):vR t ts b h=Y:=by
 unfold vR nX;rw[aUu.2 (λhh=>absurd hv (Int.not_lt.2 hh.1))];rfl
def cGc{t:den tTo}{p:den tPk}(ht:t.1.length<=549755813888)(h:SmB 549755813888 tPk p):lA t p=U (tB (bV t p) (aJf t p)):=by
 unfold lA bV aJf aK pj2 pj5 zz4 zz5 zz6 zz7 zz8;simp only[aD,aJu h,aMy h,aA];cases c:dP p
 .rw[aFt c];rfl
 .obtain⟨i,j,h1,h2,h3,h4,h5⟩:=qF c;rw[h5]
  by_cases hn:(fK p).1<0
  .rw[zX hn,bKi hn];rfl
  .simp only[zW hn,zY,h1,h2,aR,h3,h4,aA,aM0,bH8,bT9,cM1,bIl ht];unfold bef aft;cases uA (dB p).1
   .simp only[zY,cMr,zU];cases vR t (dB p).2.1 p.2.2.2.2.2.2.1 (fK p)
    .simp only[cMx,zZ,cMr,zU];unfold tB pkR;simp only[h1,h2]
    .simp only[cMp,zY,zV];unfold tB pkR aF6;simp only[h1,h2]
   .simp only[zZ,zV];cases vR t (dB p).2.1 (aRv p.2.2.2.2.2.2.1 (fK p).2.2.2.2) (fK p)
    .simp only[cMx,zZ,cMr,zU];unfold tB pkR;simp only[h1,h2]
    .simp only[cMp,zY,zV];unfold tB pkR aF6;simp only[h1,h2]
def aGz(p:den tPk)(now:Int):Bool:= !D (fP p<0)&&(D ((dB p).2.1<=now)&&D (now<=(fK p).2.2.2.1))
def bYq{p:den tPk}{now:Int}(h:SmB 549755813888 tPk p):jQ p now=U (aGz p now):=by
 unfold jQ aGz aK pj5 zz4 zz5;simp only[aD,aMl h,aA];cases c:D (fP p<0)
 .have hh:=aMq (p:=p) (by have :=of_decide_eq_false c;omega);obtain⟨i,j,h1,h2,h3,h4,h5⟩:=qF hh;simp only[zY,h1,h2,aR,h3,h4,aA,aA2];cases D ((dB p).2.1<=now)<;>rfl
 .rfl
def bV4{p:den tPk}{now:Int}(h:SmB 549755813888 tPk p):nO p now=U (aGz p now):=by
 unfold nO aGz aK pj5 zz4 zz5;simp only[aD,aMy h,aA];cases c:D (fP p<0)
 .have hh:=aMq (p:=p) (by have :=of_decide_eq_false c;omega);obtain⟨i,j,h1,h2,h3,h4,h5⟩:=qF hh;simp only[zY,h1,h2,aR,h3,h4,aA,rJ];cases D ((dB p).2.1<=now)<;>rfl
 .rfl
def eF(t:den tTo)(now:Int)(p:den tPk):Int:=if aJf t p then (if aGz p now then 0 else 5) else 4
def goC(t:den tTo)(now:Int):Nat->den tPk->Int×den tPk
 | 0,p=>(eF t now p,bV t p)
 | n+1,p=>if eF t now p==0&&(jH (bV t p)&& !nZ (bV t p)) then goC t now n (adv (bV t p)) else (eF t now p,bV t p)
def aGj(t:den tTo)(p:den tPk):tot tPk (bV t p)=tot tPk p:=by
 unfold bV;split<;>rfl
def aMr(p:den tPk):tot tPk (adv p)=tot tPk p:=by
 unfold adv;split
 .rfl
 .split<;>rfl
def bJe(t:den tTo)(p:den tPk)(now:Int):aGz (bV t p) now=aGz p now:=by
 unfold bV;split<;>rfl
def aGb(t:den tTo)(p:den tPk):dP (bV t p)=dP p/\fP (bV t p)=fP p/\fK (bV t p)=fK p/\(bV t p).2.2.2.1=p.2.2.2.1/\(bV t p).2.2.2.2.1=p.2.2.2.2.1:=by
 unfold bV;split<;>exact⟨rfl,rfl,rfl,rfl,rfl⟩
def aJw{t:den tTo}{now:Int}{p:den tPk}(h:eF t now p=0):dP p=X/\0<=fP p:=by
 unfold eF at h;split at h
 .rename_i hs;unfold aJf at hs;rw[cMu]at hs;refine⟨hs.1,?_⟩;obtain⟨i,j,h1,h2,h3,h4,h5⟩:=qF hs.1;rw[h5]
  by_cases hn:(fK p).1<0
  .rw[bKi hn]at hs;cases hs.2
  .exact Int.not_lt.1 hn
 .cases h
def bGj{p:den tPk}(h0:0<=fP p)(hc:(jH p&& !nZ p)=X):(adv p).2.2.2.1=p.2.2.2.1/\(adv p).2.2.2.2.1=p.2.2.2.2.1+1:=by
 rw[cMu]at hc;have ha:nZ p=Y:=by simpa using hc.2
 unfold adv;rw[zW (by omega),ha,hc.1];exact⟨rfl,rfl⟩
def bKe{t:den tTo}{now:Int}{S R:Type}(enc:Int->den tPk->S)(out:S->R){step:S->Option (S⊕R)}(st:den tPk->den tPk)(hst:∀p,eF t now p=0->st p=bV t p)
  (hstop:∀c p,c≠0->step (enc c p)=U (.inr (out (enc c p))))
  (hgo:∀q,tot tPk q<=274877906944->dP q=X->0<=fP q->step (enc 0 q)=U (if jH q&& !nZ q then .inl (enc (eF t now (adv q)) (st (adv q))) else .inr (out (enc 0 q)))):
  ∀(n:Nat) (p:den tPk),tot tPk p<=274877906944->p.2.2.2.1.length - p.2.2.2.2.1.toNat<=n-> ∃r,aB step (enc (eF t now p) (st p))=U (out (enc (goC t now n p).1 r))/\((goC t now n p).1=0->r=(goC t now n p).2):=by
 intro n
 induction n with
 | zero=>
  intro p hp hm
  by_cases hc:eF t now p=0
  .obtain⟨hh,h0⟩:=aJw hc;obtain⟨i,j,h1,h2,h3,h4,h5⟩:=qF hh;have hlt:=(cM0.1 h3).1;rw[h1,cMt]at hm;exact absurd hlt (by omega)
  .exact⟨_,aI (hstop _ _ hc),λh=>absurd h hc⟩
 | succ n ih=>
  intro p hp hm
  by_cases hc:eF t now p=0
  .obtain⟨hh,h0⟩:=aJw hc;obtain⟨e1,e2,e3,e4,e5⟩:=aGb t p;have hq:=hgo (bV t p) (by rw[aGj];exact hp) (by rw[e1];exact hh) (by rw[e2];exact h0);rw[hst p hc];cases hb:jH (bV t p)&& !nZ (bV t p) with
   | false=>
    rw[hb]at hq;have hg:goC t now (n+1) p=(eF t now p,bV t p):=by
     show (if _ then _ else _)=_;rw[hb,Bool.and_false];rfl
    rw[hg,hc];exact⟨bV t p,aI hq,λ_=>rfl⟩
   | true=>
    rw[hb,zT rfl]at hq;have hg:goC t now (n+1) p=goC t now n (adv (bV t p)):=by
     show (if _ then _ else _)=_;rw[hb,hc];rfl
    rw[hg,hc,aP hq];obtain⟨a1,a2⟩:=bGj (p:=bV t p) (by rw[e2];exact h0) hb;obtain⟨i,j,h1,h2,h3,h4,h5⟩:=qF hh;refine ih (adv (bV t p)) (by rw[aMr,aGj];exact hp) ?_;rw[a1,a2,e4,e5,h1];rw[h1,cMt]at hm;have :((i:Int)+1).toNat=i+1:=by omega
    rw[this];omega
  .have hg:goC t now (n+1) p=(eF t now p,bV t p):=by
    show (if _ then _ else _)=_;rw[show (eF t now p==0)=Y from by simpa using hc];rfl
   rw[hg];exact⟨_,aI (hstop _ _ hc),λh=>absurd h hc⟩
def aQw(p:den tPk):Int:=if p.2.2.2.2.1==0&&p.2.2.2.2.2.1==0 then 0 else pIn (dB p) (fK p)
def cU(t:den tTo)(now:Int)(p:den tPk):Int×den tPk:=goC t now (p.2.2.2.1.length - p.2.2.2.2.1.toNat) p
def fwd(t:den tTo)(r now dead inn:Int)(p:den tPk):Int×Int×den tPk×Int:=
 if !sH p||(!xQ t p.2.2.2.1|| !(fP p==r)) then (2,0,p,0)
 else if !(inn==aQw p) then (3,0,p,0)
 else if !((cU t now p).1==0) then ((cU t now p).1,0,p,0)
 else if nZ (cU t now p).2 then (if (cU t now p).2.2.2.1==r then (1,0,(cU t now p).2,0) else (2,0,p,0))
 else if !aR1 t (r,inn,pEg (dB (cU t now p).2) (fK (cU t now p).2)) then (6,0,p,0)
 else if yS dead (pEg (dB (cU t now p).2) (fK (cU t now p).2)) then (7,0,p,pEg (dB (cU t now p).2) (fK (cU t now p).2))
 else (0,pEg (dB (cU t now p).2) (fK (cU t now p).2),adv (cU t now p).2,pEg (dB (cU t now p).2) (fK (cU t now p).2))
def fwI(v:Int×Int×den tPk×Int):Int×Int×q18:=
 (v.1,v.2.1,v.2.2.1.1,v.2.2.1.2.1,v.2.2.1.2.2.1,v.2.2.1.2.2.2.1,v.2.2.1.2.2.2.2.1,v.2.2.1.2.2.2.2.2.1,v.2.2.1.2.2.2.2.2.2.1,v.2.2.1.2.2.2.2.2.2.2.1,v.2.2.1.2.2.2.2.2.2.2.2.1,v.2.2.1.2.2.2.2.2.2.2.2.2,v.2.2.2)
def fwS(v:Int×Int×den tPk×Int):Int×Int×q3:=(v.1,v.2.1,pkR v.2.2.1)
def aPr{t:den tTo}{now:Int}:∀(n:Nat) (p:den tPk),(goC t now n p).1=0->dP (goC t now n p).2=X/\0<=fP (goC t now n p).2/\tot tPk (goC t now n p).2=tot tPk p
 | 0,p,h=>by
  obtain⟨h1,h2⟩:=aJw (show eF t now p=0 from h);obtain⟨e1,e2,_⟩:=aGb t p;exact⟨e1.trans h1,by rw[show (goC t now 0 p).2=bV t p from rfl,e2];exact h2,aGj t p⟩
 | n+1,p,h=>by
  unfold goC at h|-;split at h
  .rename_i hc;rw[zT hc];obtain⟨h1,h2,h3⟩:=aPr n _ h;exact⟨h1,h2,by rw[h3,aMr,aGj]⟩
  .rename_i hc;rw[zS hc];obtain⟨h1,h2⟩:=aJw (show eF t now p=0 from h);obtain⟨e1,e2,_⟩:=aGb t p;exact⟨e1.trans h1,by rw[show (eF t now p,bV t p).2=bV t p from rfl,e2];exact h2,aGj t p⟩
def aFb(t:den tTo)(now:Int)(p:den tPk):den tPk:=if eF t now p=0 then bV t p else p
def aIz(p:den tPk)(c:Int):q18:=(p.1,p.2.1,p.2.2.1,p.2.2.2.1,p.2.2.2.2.1,p.2.2.2.2.2.1,p.2.2.2.2.2.2.1,p.2.2.2.2.2.2.2.1,p.2.2.2.2.2.2.2.2.1,p.2.2.2.2.2.2.2.2.2,c)
def aJ0(p:den tPk)(c:Int):Int×q3:=(p.1,p.2.1,p.2.2.1,p.2.2.2.2.1,p.2.2.2.2.2.1,p.2.2.2.2.2.2.1,p.2.2.2.2.2.2.2.1,p.2.2.2.2.2.2.2.2.1,c,p.2.2.2.1,p.2.2.2.2.2.2.2.2.2)
def bZm{t:den tTo}{now:Int}{p:den tPk}(ht:t.1.length<=549755813888)(h:tot tPk p<=274877906944):pI t now p=U (aIz (aFb t now p) (eF t now p)):=by
 unfold pI aK pj2 aS zz4 zz5 zz6 zz7 zz8 zz9;simp only[aD,cG1 ht (iR h),aA];unfold aFb eF;cases c:aJf t p
 .simp only[tB,cMx,zZ,cMr,zU];rfl
 .have hs:tot tPk (bV t p)<=274877906944:=by rw[aGj];exact h
  have key:jQ ((tB (bV t p) X).1,(tB (bV t p) X).2.1,(tB (bV t p) X).2.2.1,(tB (bV t p) X).2.2.2.2.2.2.2.2.2.1,(tB (bV t p) X).2.2.2.1,(tB (bV t p) X).2.2.2.2.1,(tB (bV t p) X).2.2.2.2.2.1,(tB (bV t p) X).2.2.2.2.2.2.1,(tB (bV t p) X).2.2.2.2.2.2.2.1,(tB (bV t p) X).2.2.2.2.2.2.2.2.2.2) now=U (aGz p now):=by
   rw[<- bJe t p now];exact bYq (iR hs)
  rw[key];simp only[tB,cMp,zY,aA,zV];cases aGz p now
  .simp only[cMx,zZ,cMr,zU];rfl
  .simp only[cMp,zY,zV];rfl
def cBl{t:den tTo}{now:Int}{p:den tPk}(ht:t.1.length<=549755813888)(h:tot tPk p<=274877906944):uW t now p=U (aJ0 (bV t p) (eF t now p)):=by
 unfold uW aK pj2 zz4 zz5 zz6 zz7 zz8 zz9;simp only[aD,cGc ht (iR h),bV4 (iR h),aA];unfold eF;cases c:aJf t p
 .simp only[tB,cMx,zZ,cMr,zU];rfl
 .simp only[tB,cMp,zY,zV];cases aGz p now
  .simp only[cMx,zZ,cMr,zU];rfl
  .simp only[cMp,zY,zV];rfl
def aZy{p:den tPk}(h:sH p=X):dP p=X:=by
 unfold sH at h;simp only[cMu]at h;exact h.2.2.1
def cBb{c:Int}{p:den tPk}(h:tot tPk p<=274877906944):pM c p=U (c,0,p.1,p.2.1,p.2.2.1,p.2.2.2.2.1,p.2.2.2.2.2.1,p.2.2.2.2.2.2.1,p.2.2.2.2.2.2.2.1,p.2.2.2.2.2.2.2.2.1,p.2.2.2.1,p.2.2.2.2.2.2.2.2.2,p.1,p.2.1,p.2.2.1,p.2.2.2.1,p.2.2.2.2.1,p.2.2.2.2.2.1,p.2.2.2.2.2.2.1,p.2.2.2.2.2.2.2.1,p.2.2.2.2.2.2.2.2.1,p.2.2.2.2.2.2.2.2.2):=by
 unfold pM aK zz4 zz5 zz6 zz7 zz8 zz9;simp only[aD,aMs (iR h),aA];rfl
def bZg{c:Int}{p:den tPk}(h:tot tPk p<=274877906944):aAp c p=U (c,0,pkR p):=by
 unfold aAp aK;simp only[aD,aJu (iR h),aA]
def aPs{p:den tPk}{N:Nat}(h:tot tPk p<=N):tot tPt p.2.2.2.1<=N:=(aU0 h).1
def bPi{t:den tTo}{r now dead inn:Int}{p:den tPk}(ht:t.1.length<=549755813888)(ht2:t.2.length<=549755813888)(h:tot tPk p<=274877906944)(hpp:tot tPt p.2.2.2.1<=68719476736):xU t r now dead inn p=U (fwI (fwd t r now dead inn p)):=by
 unfold xU fwd aK aQd pj2 pj4 aS bA zz4 zz5 zz6 zz7 zz8 zz9;simp only[aD,bV8 (iR h),bC9 ht ht2 hpp,aMl (iR h),aA,kJ,cBb h];cases cv:sH p
 .simp only[cMx,cOm,zZ,aA,zV];rfl
 .cases cs:xQ t p.2.2.2.1
  .simp only[cMp,cMx,cOm,cOw,zZ,zY,aA,zV];rfl
  .cases cr:fP p==r
   .simp only[cMp,cMx,cOm,cOw,zZ,zY,aA,zV];rfl
   .simp only[cMp,cN5,zY,aA,cMr,zU];obtain⟨i,j,h1,h2,h3,h4,h5⟩:=qF (aZy cv);have hl:=aF5 (iR h) h3;have hw:(@Option.bind Bool Int (cond (p.2.2.2.2.1==(0:Int)) (U (p.2.2.2.2.2.1==(0:Int))) (U Y)) λ(s8:Bool)=>cond s8 (U (0:Int)) (U (pIn (dB p) (fK p))))=U (aQw p):=by
     unfold aQw;cases p.2.2.2.2.1==0<;>cases p.2.2.2.2.2.1==0<;>rfl
    have hp1:idx p.2.2.2.1 p.2.2.2.2.1=U (dB p):=by rw[h1,aR];exact h3
    have hp2:iD (dB p) p.2.2.2.2.2.1=U (pIn (dB p) (fK p)):=by rw[h2];exact bOm h4 hl
    rw[hp1,aA,hp2,aA,hw,aA];cases ci:inn==aQw p
    .simp only[cMx,zZ,zV,aA];rfl
    .simp only[cMp,zY,cMr,zU,aMs (iR h),aA];have hc:pI t now ((pkR p).1,(pkR p).2.1,(pkR p).2.2.1,(pkR p).2.2.2.2.2.2.2.2.1,(pkR p).2.2.2.1,(pkR p).2.2.2.2.1,(pkR p).2.2.2.2.2.1,(pkR p).2.2.2.2.2.2.1,(pkR p).2.2.2.2.2.2.2.1,(pkR p).2.2.2.2.2.2.2.2.2)=U (aIz (aFb t now p) (eF t now p)):=bZm ht h;rw[hc];simp only[aA,bB,cB,bL,bJ,bO];obtain⟨q,hq1,hq2⟩:=bKe (t:=t) (now:=now) (S:=Int×den tPk) (R:=Int×den tPk) (λc p=>(c,p)) id (step:=λs23=> @Option.bind Bool _ (cond (s23.1==(0:Int)) (Option.bind (kE s23.2) λy24=>cond y24 (Option.bind (pE s23.2) λy25=>U (!y25)) (U Y)) (U Y)) λ(s26:Bool)=>cond s26 (Option.bind (rU s23.2) λy27=>Option.bind (pI t now (y27.1,y27.2.1,y27.2.2.1,y27.2.2.2.2.2.2.2.2.1,y27.2.2.2.1,y27.2.2.2.2.1,y27.2.2.2.2.2.1,y27.2.2.2.2.2.2.1,y27.2.2.2.2.2.2.2.1,y27.2.2.2.2.2.2.2.2.2)) λy28=>U (cMn (y28.2.2.2.2.2.2.2.2.2.2,y28.1,y28.2.1,y28.2.2.1,y28.2.2.2.1,y28.2.2.2.2.1,y28.2.2.2.2.2.1,y28.2.2.2.2.2.2.1,y28.2.2.2.2.2.2.2.1,y28.2.2.2.2.2.2.2.2.1,y28.2.2.2.2.2.2.2.2.2.1))) (U (cMm s23))) (aFb t now) (λp hp=>zT hp) (λc p hc=>by
       have :(c==0)=Y:=by simpa using hc
       simp only[this,zY,aA,id]) (λq hq hh h0=>by
       have e:pI t now ((pkR (adv q)).1,(pkR (adv q)).2.1,(pkR (adv q)).2.2.1,(pkR (adv q)).2.2.2.2.2.2.2.2.1,(pkR (adv q)).2.2.2.1,(pkR (adv q)).2.2.2.2.1,(pkR (adv q)).2.2.2.2.2.1,(pkR (adv q)).2.2.2.2.2.2.1,(pkR (adv q)).2.2.2.2.2.2.2.1,(pkR (adv q)).2.2.2.2.2.2.2.2.2)=U (aIz (aFb t now (adv q)) (eF t now (adv q))):=bZm (p:=adv q) ht (by rw[aMr];exact hq);simp only[beq_self_eq_true,zZ,aXu (iR hq) hh,aX1 (iR hq),bZs (iR hq),aA,e];cases jH q<;>cases nZ q<;>rfl) _ p h (cM5 _)
     have hq1:aB _ (eF t now p,aFb t now p)=U ((cU t now p).1,q):=hq1;have hq2:(cU t now p).1=0->q=(cU t now p).2:=hq2;have e0:(((aIz (aFb t now p) (eF t now p)).2.2.2.2.2.2.2.2.2.2,(aIz (aFb t now p) (eF t now p)).1,(aIz (aFb t now p) (eF t now p)).2.1,(aIz (aFb t now p) (eF t now p)).2.2.1,(aIz (aFb t now p) (eF t now p)).2.2.2.1,(aIz (aFb t now p) (eF t now p)).2.2.2.2.1,(aIz (aFb t now p) (eF t now p)).2.2.2.2.2.1,(aIz (aFb t now p) (eF t now p)).2.2.2.2.2.2.1,(aIz (aFb t now p) (eF t now p)).2.2.2.2.2.2.2.1,(aIz (aFb t now p) (eF t now p)).2.2.2.2.2.2.2.2.1,(aIz (aFb t now p) (eF t now p)).2.2.2.2.2.2.2.2.2.1):Int×den tPk)=(eF t now p,aFb t now p):=rfl;rw[e0,hq1,aA]
     by_cases hz:(cU t now p).1=0
     .have hqq:=hq2 hz;subst hqq;obtain⟨g1,g2,g3⟩:=aPr _ p hz;have g1:dP (cU t now p).2=X:=g1;have g2:0<=fP (cU t now p).2:=g2;have g3:tot tPk (cU t now p).2=tot tPk p:=g3;have hg:tot tPk (cU t now p).2<=274877906944:=by rw[g3];exact h
      obtain⟨i',j',k1,k2,k3,k4,k5⟩:=qF g1;have hl':=aF5 (iR hg) k3;have q1:idx (cU t now p).2.2.2.2.1 (cU t now p).2.2.2.2.2.1=U (dB (cU t now p).2):=by rw[k1,aR];exact k3
      have q2:iU (dB (cU t now p).2) (cU t now p).2.2.2.2.2.2.1=U (pEg (dB (cU t now p).2) (fK (cU t now p).2)):=by rw[k2];exact bOs k4 hl'
      simp only[hz,beq_self_eq_true,cMp,zY,cMr,zU,aX1 (iR hg),aA];cases ca:nZ (cU t now p).2
      .simp only[zY,cMr,zU,q1,q2,aA,cD4 ht2,bK4];cases aR1 t (r,inn,pEg (dB (cU t now p).2) (fK (cU t now p).2))
       .simp only[cMx,zZ,zV];rfl
       .simp only[cMp,zY,cMr,zU];cases yS dead (pEg (dB (cU t now p).2) (fK (cU t now p).2))
        .simp only[zY,cMr,zU,bZs (iR hg),aA];rfl
        .simp only[zZ,zV];rfl
      .simp only[zZ,zV];cases (cU t now p).2.2.2.1==r
       .simp only[cMx,zZ,cMr,zU];rfl
       .simp only[cMp,zY,zV];rfl
     .have hz':((cU t now p).1==0)=Y:=by simpa using hz
      simp only[hz',cMx,zZ,zV,cBb h,aA];rfl
def bU3{t:den tTo}{r now dead inn:Int}{p:den tPk}(ht:t.1.length<=549755813888)(ht2:t.2.length<=549755813888)(h:tot tPk p<=274877906944)(hpp:tot tPt p.2.2.2.1<=68719476736):aBk t r now dead inn p=U ((fwd t r now dead inn p).1,(fwd t r now dead inn p).2.1,(fwd t r now dead inn p).2.2.1):=by
 unfold aBk aK pj2 aS bA zz4 zz5 zz6 zz7 zz8 zz9;simp only[aD,bPi ht ht2 h hpp,aA];rfl
def aS0(c:Int)(p:den tPk):Int×q3:=(c,p.1,p.2.1,p.2.2.1,p.2.2.2.2.1,p.2.2.2.2.2.1,p.2.2.2.2.2.2.1,p.2.2.2.2.2.2.2.1,p.2.2.2.2.2.2.2.2.1,p.2.2.2.1,p.2.2.2.2.2.2.2.2.2)
def bG1{q:den tPk}(hh:dP q=X)(h0:0<=fP q):(jH q&&D (q.2.2.2.2.1<(q.2.2.2.1.length:Int) - 1))=(jH q&& !nZ q):=by
 obtain⟨i,j,h1,h2,h3,h4,h5⟩:=qF hh;have hlt:=(cM0.1 h3).1;unfold nZ aNj;rw[zX (p:=fP q>=0) h0,h1];have key:D ((i:Int)<(q.2.2.2.1.length:Int) - 1)= !((i:Int)==(q.2.2.2.1.length:Int) - 1):=by
  rw[cNe];simp only[zR,cN3,beq_eq_false_iff_ne,ne_eq];omega
 rw[key];cases jH q<;>simp
def bQx{t:den tTo}{r now dead inn:Int}{p:den tPk}(ht:t.1.length<=549755813888)(ht2:t.2.length<=549755813888)(h:tot tPk p<=274877906944)(hpp:tot tPt p.2.2.2.1<=68719476736):nL t r now dead inn p=U (fwS (fwd t r now dead inn p)):=by
 unfold nL fwd ixb aK aQd aEf pj2 pj4 aS zz4 zz5 zz6 zz7 zz8 zz9;simp only[aD,bXi (iR h),bD4 ht ht2 hpp,aMy (iR h),aA,kJ,bZg h];cases cv:sH p
 .simp only[cMx,cOm,zZ,aA,zV];rfl
 .cases cs:xQ t p.2.2.2.1
  .simp only[cMp,cMx,cOm,cOw,zZ,zY,aA,zV];rfl
  .cases cr:fP p==r
   .simp only[cMp,cMx,cOm,cOw,zZ,zY,aA,zV];rfl
   .simp only[cMp,cN5,zY,aA,cMr,zU];obtain⟨i,j,h1,h2,h3,h4,h5⟩:=qF (aZy cv);have hl:=aF5 (iR h) h3;have hw:(@Option.bind Bool Int (cond (p.2.2.2.2.1==(0:Int)) (U (p.2.2.2.2.2.1==(0:Int))) (U Y)) λ(s8:Bool)=>cond s8 (U (0:Int)) (U (pIn (dB p) (fK p))))=U (aQw p):=by
     unfold aQw;cases p.2.2.2.2.1==0<;>cases p.2.2.2.2.2.1==0<;>rfl
    have hp1:idx p.2.2.2.1 p.2.2.2.2.1=U (dB p):=by rw[h1,aR];exact h3
    have hp2:gS (dB p) p.2.2.2.2.2.1=U (pIn (dB p) (fK p)):=by rw[h2];exact bOi h4 hl
    rw[hp1,aA,hp2,aA,hw,aA];cases ci:inn==aQw p
    .simp only[cMx,zZ,zV,aA];rfl
    .simp only[cMp,zY,cMr,zU,cBl ht h,aA];obtain⟨q,hq1,hq2⟩:=bKe (t:=t) (now:=now) aS0 id (step:=λs17=> @Option.bind Bool _ (cond (s17.1==(0:Int)) (cond (D ((0:Int)<=s17.2.2.2.2.1)) (cond (D (s17.2.2.2.2.1<(s17.2.2.2.2.2.2.2.2.2.1.length:Int))) (Option.bind s17.2.2.2.2.2.2.2.2.2.1[s17.2.2.2.2.1.toNat]? λx18=>cond (s17.2.2.2.2.2.1==(wr ((x18.2.2.2.length:Int) - (1:Int)))) (U (D (s17.2.2.2.2.1<(wr ((s17.2.2.2.2.2.2.2.2.2.1.length:Int) - (1:Int)))))) (U Y)) W) W) (U Y)) λ(s19:Bool)=>cond s19 (Option.bind (kI (s17.2.1,s17.2.2.1,s17.2.2.2.1,s17.2.2.2.2.2.2.2.2.2.1,s17.2.2.2.2.1,s17.2.2.2.2.2.1,s17.2.2.2.2.2.2.1,s17.2.2.2.2.2.2.2.1,s17.2.2.2.2.2.2.2.2.1,s17.2.2.2.2.2.2.2.2.2.2)) λy20=>Option.bind (uW t now (y20.1,y20.2.1,y20.2.2.1,y20.2.2.2.2.2.2.2.2.1,y20.2.2.2.1,y20.2.2.2.2.1,y20.2.2.2.2.2.1,y20.2.2.2.2.2.2.1,y20.2.2.2.2.2.2.2.1,y20.2.2.2.2.2.2.2.2.2)) λy21=>U (cMn (y21.2.2.2.2.2.2.2.2.1,y21.1,y21.2.1,y21.2.2.1,y21.2.2.2.1,y21.2.2.2.2.1,y21.2.2.2.2.2.1,y21.2.2.2.2.2.2.1,y21.2.2.2.2.2.2.2.1,y21.2.2.2.2.2.2.2.2.2.1,y21.2.2.2.2.2.2.2.2.2.2))) (U (cMm s17))) (bV t) (λp hp=>rfl) (λc p hc=>by
       have :(c==0)=Y:=by simpa using hc
       simp only[aS0,this,zY,aA,id]) (λq hq hh h0=>by
       have e:uW t now ((pkR (adv q)).1,(pkR (adv q)).2.1,(pkR (adv q)).2.2.1,(pkR (adv q)).2.2.2.2.2.2.2.2.1,(pkR (adv q)).2.2.2.1,(pkR (adv q)).2.2.2.2.1,(pkR (adv q)).2.2.2.2.2.1,(pkR (adv q)).2.2.2.2.2.2.1,(pkR (adv q)).2.2.2.2.2.2.2.1,(pkR (adv q)).2.2.2.2.2.2.2.2.2)=U (aJ0 (bV t (adv q)) (eF t now (adv q))):=cBl (p:=adv q) ht (by rw[aMr];exact hq);obtain⟨i',j',k1,k2,k3,k4,k5⟩:=qF hh;have hlt:=(cM0.1 k3).1;have l1:cMy q.2.2.2.1<=549755813888:=(iR hq).2.2.2.1.1;have hm:=bG1 hh h0;simp only[aS0,beq_self_eq_true,zZ,aD,bPq (iR hq),aA,e];rw[<- hm];have hd:D ((i':Int)<(q.2.2.2.1.length:Int))=X:=zX (by omega);simp only[k1,bF,hd,zZ,cMt,k3,aA,dN (aF5 (iR hq) k3),dN l1];unfold jH;cases q.2.2.2.2.2.1==((dB q).2.2.2.length:Int) - 1<;>cases D ((i':Int)<(q.2.2.2.1.length:Int) - 1)<;>rfl) _ p h (cM5 _)
     have hq1:aB _ (aS0 (eF t now p) (bV t p))=U (aS0 (cU t now p).1 q):=hq1;have hq2:(cU t now p).1=0->q=(cU t now p).2:=hq2;have e0:(((aJ0 (bV t p) (eF t now p)).2.2.2.2.2.2.2.2.1,(aJ0 (bV t p) (eF t now p)).1,(aJ0 (bV t p) (eF t now p)).2.1,(aJ0 (bV t p) (eF t now p)).2.2.1,(aJ0 (bV t p) (eF t now p)).2.2.2.1,(aJ0 (bV t p) (eF t now p)).2.2.2.2.1,(aJ0 (bV t p) (eF t now p)).2.2.2.2.2.1,(aJ0 (bV t p) (eF t now p)).2.2.2.2.2.2.1,(aJ0 (bV t p) (eF t now p)).2.2.2.2.2.2.2.1,(aJ0 (bV t p) (eF t now p)).2.2.2.2.2.2.2.2.2.1,(aJ0 (bV t p) (eF t now p)).2.2.2.2.2.2.2.2.2.2))=aS0 (eF t now p) (bV t p):=rfl;rw[e0,hq1,aA]
     by_cases hz:(cU t now p).1=0
     .have hqq:=hq2 hz;subst hqq;obtain⟨g1,g2,g3⟩:=aPr _ p hz;have g1:dP (cU t now p).2=X:=g1;have g2:0<=fP (cU t now p).2:=g2;have g3:tot tPk (cU t now p).2=tot tPk p:=g3;have hg:tot tPk (cU t now p).2<=274877906944:=by rw[g3];exact h
      obtain⟨i',j',k1,k2,k3,k4,k5⟩:=qF g1;have hlt:=(cM0.1 k3).1;have hl':=aF5 (iR hg) k3;have q2:fE (dB (cU t now p).2) (cU t now p).2.2.2.2.2.2.1=U (pEg (dB (cU t now p).2) (fK (cU t now p).2)):=by rw[k2];exact bE8 k4 hl'
      simp only[aS0,aD,hz,beq_self_eq_true,cMp,zY,cMr,zU,bF2 (iR hg),aA];cases ca:nZ (cU t now p).2
      .simp only[zY,aA,cMr,zU];have hd:D ((i':Int)<((cU t now p).2.2.2.2.1.length:Int))=X:=zX (by omega);simp only[k1,bF,hd,zZ,cMt,k3,aA,q2,cDo ht2,bKd];cases aR1 t (r,inn,pEg (dB (cU t now p).2) (fK (cU t now p).2))
       .simp only[cMx,zZ,zV];rfl
       .simp only[cMp,zY,cMr,zU];cases yS dead (pEg (dB (cU t now p).2) (fK (cU t now p).2))
        .simp only[zY,cMr,zU,bPq (iR hg),aA];rfl
        .simp only[zZ,zV];rfl
      .simp only[zZ,aA];cases (cU t now p).2.2.2.1==r
       .simp only[zY,zZ,cMr,zU,zV];rfl
       .simp only[zZ,zV];rfl
     .have hz':((cU t now p).1==0)=Y:=by simpa using hz
      simp only[aS0,hz',cMx,zZ,zV,bZg h,aA];rfl
def aPy(t:den tTo)(r now dead inn:Int)(p:den tPk):tot tPk (fwd t r now dead inn p).2.2.1=tot tPk p:=by
 unfold fwd;split
 .rfl
 .split
  .rfl
  .split
   .rfl
   .rename_i hz;have hz:(cU t now p).1=0:=by simpa using hz
    obtain⟨_,_,g3⟩:=aPr _ p hz;have g3:tot tPk (cU t now p).2=tot tPk p:=g3;split
    .split
     .exact g3
     .rfl
    .split
     .rfl
     .split
      .rfl
      .show tot tPk (adv (cU t now p).2)=_;rw[aMr];exact g3
def bIf{t:den tTo}{now:Int}:∀(n:Nat) (p:den tPk),(goC t now n p).2.2.2.2.1=p.2.2.2.1
 | 0,p=>(aGb t p).2.2.2.1
 | n+1,p=>by
  unfold goC;split
  .rw[bIf n];rw[<- (aGb t p).2.2.2.1];unfold adv;split
   .rfl
   .split<;>rfl
  .exact (aGb t p).2.2.2.1
def bXs(p:den tPk):(adv p).2.2.2.1=p.2.2.2.1:=by
 unfold adv;split
 .rfl
 .split<;>rfl
def bYc(t:den tTo)(r now dead inn:Int)(p:den tPk):(fwd t r now dead inn p).2.2.1.2.2.2.1=p.2.2.2.1:=by
 have hg:(cU t now p).2.2.2.2.1=p.2.2.2.1:=bIf _ p;unfold fwd
 repeat' split
 all_goals first
  | rfl
  | exact hg
  | exact (bXs _).trans hg
def bHr{t:den tTo}{now:Int}:∀(n:Nat) (p:den tPk),0<=(goC t now n p).1
 | 0,p=>by
  show 0<=eF t now p;unfold eF
  repeat' split
  all_goals decide
 | n+1,p=>by
  unfold goC;split
  .exact bHr n _
  .show 0<=eF t now p;unfold eF
   repeat' split
   all_goals decide
def bXb(t:den tTo)(r now dead inn:Int)(p:den tPk):0<=(fwd t r now dead inn p).1:=by
 have hg:0<=(cU t now p).1:=bHr _ p;unfold fwd
 repeat' split
 all_goals first
  | exact hg
  | simp
def cFo(t:den tTo)(r now dead inn:Int)(p:den tPk):D ((fwd t r now dead inn p).1>1)= !((fwd t r now dead inn p).1==0||(fwd t r now dead inn p).1==1):=by
 have h:=bXb t r now dead inn p;generalize (fwd t r now dead inn p).1=c at h;rw[cNe];simp only[zR,cN3,Bool.or_eq_false_iff,beq_eq_false_iff_ne,ne_eq];omega
def bM(t:den tTo)(now:Int)(dead:List Int)(r inn:Int)(p:den tPk):Int×Int×den tPk×Int:=fwd t r now (yQ t dead r) inn p
def bGp(t:den tTo)(now:Int)(dead:List Int):Nat->Int->Int->den tPk->eE->Int×den tPk×eE
 | 0,_,_,p,st=>(0,p,st)
 | n+1,r,inn,p,st=>
  if (bM t now dead r inn p).1==0||(bM t now dead r inn p).1==1 then
   (if (bM t now dead r inn p).1==1 then (1,(bM t now dead r inn p).2.2.1,st++[(r,inn,(bM t now dead r inn p).2.1)])
    else bGp t now dead n (remote t r (bM t now dead r inn p).2.1).1 (remote t r (bM t now dead r inn p).2.1).2 (bM t now dead r inn p).2.2.1 (st++[(r,inn,(bM t now dead r inn p).2.1)]))
  else ((bM t now dead r inn p).1,(bM t now dead r inn p).2.2.1,st)
def bEu{t:den tTo}{now:Int}{dead:List Int}{S R:Type}(enc:Nat->Int->Int->den tPk->eE->S)(out out2:Int×den tPk×eE->R)(N:Nat)(b:Bool){step:S->Option (S⊕R)}
  (H:∀(k:Nat) (r inn:Int) (p:den tPk) (st:eE),k<N->st.length<=k->tot tPk p<=274877906944->tot tPt p.2.2.2.1<=68719476736->step (enc k r inn p st)=U (
   if (bM t now dead r inn p).1==0||(bM t now dead r inn p).1==1 then
    (if (bM t now dead r inn p).1==1 then .inr (out (1,(bM t now dead r inn p).2.2.1,st++[(r,inn,(bM t now dead r inn p).2.1)]))
     else if b&&D (k+1=N) then .inr (out (0,(bM t now dead r inn p).2.2.1,st++[(r,inn,(bM t now dead r inn p).2.1)]))
     else .inl (enc (k+1) (remote t r (bM t now dead r inn p).2.1).1 (remote t r (bM t now dead r inn p).2.1).2 (bM t now dead r inn p).2.2.1 (st++[(r,inn,(bM t now dead r inn p).2.1)])))
   else .inr (out ((bM t now dead r inn p).1,(bM t now dead r inn p).2.2.1,st))))
  (he:b=Y-> ∀r inn p st,step (enc N r inn p st)=U (.inr (out2 (0,p,st)))):
  ∀(n k:Nat) (r inn:Int) (p:den tPk) (st:eE),k+n=N->(n=0->b=Y)->st.length<=k->tot tPk p<=274877906944->tot tPt p.2.2.2.1<=68719476736->aB step (enc k r inn p st)=U (out (bGp t now dead n r inn p st))\/aB step (enc k r inn p st)=U (out2 (bGp t now dead n r inn p st)):=by
 intro n
 induction n with
 | zero=>
  intro k r inn p st hk hb hs hp hq;have :k=N:=by omega
  subst this;exact .inr (aI (he (hb rfl) r inn p st))
 | succ n ih=>
  intro k r inn p st hk hb hs hp hq;have h:=H k r inn p st (by omega) hs hp hq;unfold bGp;cases c01:(bM t now dead r inn p).1==0||(bM t now dead r inn p).1==1 with
  | false=>
   rw[c01]at h;exact .inl (aI h)
  | true=>
   rw[c01,zT rfl]at h;rw[zT rfl];cases c1:(bM t now dead r inn p).1==1 with
   | true=>
    rw[c1]at h;exact .inl (aI h)
   | false=>
    rw[c1]at h;simp only[cMr,zU]at h ⊢;cases hl:b&&D (k+1=N) with
    | true=>
     rw[hl,zT rfl]at h;rw[cMu,zR]at hl;have :n=0:=by omega
     subst this;exact .inl (aI h)
    | false=>
     rw[hl]at h;simp only[cMr,zU]at h;rw[aP h];refine ih (k+1) _ _ _ _ (by omega) (λhn=> ?_) (by simp;omega) ?_ ?_
     .subst hn;cases b with
      | false=>rfl
      | true=>simp at hl;omega
     .unfold bM;rw[aPy];exact hp
     .unfold bM;rw[bYc];exact hq
def bFi(x:Int×den tPk×eE):q13:=
 (x.1,x.2.1.1,x.2.1.2.1,x.2.1.2.2.1,x.2.1.2.2.2.1,x.2.1.2.2.2.2.1,x.2.1.2.2.2.2.2.1,x.2.1.2.2.2.2.2.2.1,x.2.1.2.2.2.2.2.2.2.1,x.2.1.2.2.2.2.2.2.2.2.1,x.2.1.2.2.2.2.2.2.2.2.2,x.2.2)
def bMq(k:Nat)(r inn:Int)(p:den tPk)(st:eE):Int×Int×Int×q13:=
 (r,inn,((k+1:Nat):Int),0,p.1,p.2.1,p.2.2.1,p.2.2.2.1,p.2.2.2.2.1,p.2.2.2.2.2.1,p.2.2.2.2.2.2.1,p.2.2.2.2.2.2.2.1,p.2.2.2.2.2.2.2.2.1,p.2.2.2.2.2.2.2.2.2,st)
def aWw(t:den tTo)(now:Int)(dead:List Int)(p:den tPk):Int×den tPk×eE:=bGp t now dead 30 p.2.1 0 p []
def cFw{t:den tTo}{now:Int}{dead:List Int}{p:den tPk}(ht:t.1.length<=549755813888)(ht2:t.2.length<=68719476736)(hd:dead.length<=549755813888)(h:tot tPk p<=274877906944)(hpp:tot tPt p.2.2.2.1<=68719476736):yT t now dead p=U (bFi (aWw t now dead p)):=by
 unfold yT aK aEf pj2 aS bA bZ dR oC zz4 zz5 zz6 zz7 zz8 zz9;simp only[aD,aMs (iR h),aA];have e0:(p.2.1,(0:Int),(1:Int),(0:Int),(pkR p).1,(pkR p).2.1,(pkR p).2.2.1,(pkR p).2.2.2.2.2.2.2.2.1,(pkR p).2.2.2.1,(pkR p).2.2.2.2.1,(pkR p).2.2.2.2.2.1,(pkR p).2.2.2.2.2.2.1,(pkR p).2.2.2.2.2.2.2.1,(pkR p).2.2.2.2.2.2.2.2.2,([]:eE))=bMq 0 p.2.1 0 p []:=rfl;rw[e0];refine (bEu (t:=t) (now:=now) (dead:=dead) bMq bFi bFi 30 X ?_ (λhb=>by cases hb) 30 0 p.2.1 0 p [] rfl (λh=>by cases h) (cM5 _) h hpp).elim id id;intro k r inn p st hk hs hp hq;have hw:wr (((k+1:Nat):Int)+1)=((k+1+1:Nat):Int):=(wri (by omega) (by omega)).trans (by omega);have h30:(((k+1:Nat):Int)==30)=D (k+1=30):=by rw[cNe];simp only[beq_iff_eq,zR];omega
 simp only[bMq,aD,bCi ht2 hd,bU3 ht (cMo ht2 (by decide)) hp hq,aFk (t:=t) (cMo ht2 (by decide)),aA,bB,cB,bL,bJ,bO,kJ,aC (b:=24) (n:=st.length) (m:=1) (by decide) (by omega),zZ,hw,h30];rw[show fwd t r now (yQ t dead r) inn p=bM t now dead r inn p from rfl];have hx:∀c:Int,(c==0)=X->(c==1)=Y:=λc hc=>by
  have :c=0:=by simpa using hc
  subst this;rfl
 cases c0:(bM t now dead r inn p).1==0 with
 | true=>
  rw[hx _ c0];have e0:(bM t now dead r inn p).1=0:=by simpa using c0
  simp only[cMp,cMx,zY,zZ,aA,cOm,zV,cMr,zU,cM1,e0];cases D (k+1=30)<;>rfl
 | false=>
  cases c1:(bM t now dead r inn p).1==1 with
  | true=>
   have e1:(bM t now dead r inn p).1=1:=by simpa using c1
   simp only[cMp,cMx,zY,zZ,aA,cOw,zV,e1];rfl
  | false=>
   simp only[cMx,zZ,aA,cN5,cMr,zU];rfl
def aU1(x:Int×den tPk×eE):q9:=
 (x.1,x.2.1.1,x.2.1.2.1,x.2.1.2.2.1,x.2.1.2.2.2.2.1,x.2.1.2.2.2.2.2.1,x.2.1.2.2.2.2.2.2.1,x.2.1.2.2.2.2.2.2.2.1,x.2.1.2.2.2.2.2.2.2.2.1,x.2.2,x.2.1.2.2.2.1,x.2.1.2.2.2.2.2.2.2.2.2)
def bE6(k:Nat)(r inn:Int)(p:den tPk)(st:eE):Int×Int×Int×q9:=
 (r,inn,(k:Int),0,p.1,p.2.1,p.2.2.1,p.2.2.2.2.1,p.2.2.2.2.2.1,p.2.2.2.2.2.2.1,p.2.2.2.2.2.2.2.1,p.2.2.2.2.2.2.2.2.1,st,p.2.2.2.1,p.2.2.2.2.2.2.2.2.2)
def cHw{t:den tTo}{now:Int}{dead:List Int}{p:den tPk}(ht:t.1.length<=549755813888)(ht2:t.2.length<=68719476736)(hd:dead.length<=549755813888)(h:tot tPk p<=274877906944)(hpp:tot tPt p.2.2.2.1<=68719476736):yP t now dead p=U (aU1 (aWw t now dead p)):=by
 unfold yP aK aEf pj2 aS bA bZ dR oC zz4 zz5 zz6 zz7 zz8 zz9;simp only[aD,aJu (iR h),aA];have e0:(p.2.1,(0:Int),(0:Int),(0:Int),(pkR p).1,(pkR p).2.1,(pkR p).2.2.1,(pkR p).2.2.2.1,(pkR p).2.2.2.2.1,(pkR p).2.2.2.2.2.1,(pkR p).2.2.2.2.2.2.1,(pkR p).2.2.2.2.2.2.2.1,([]:eE),(pkR p).2.2.2.2.2.2.2.2.1,(pkR p).2.2.2.2.2.2.2.2.2)=bE6 0 p.2.1 0 p []:=rfl;have hl:=bEu (t:=t) (now:=now) (dead:=dead) bE6 (λx=>(cMm (aU1 x):_⊕_)) (λx=>cMn (aU1 x)) 30 Y (step:=λs10=>cond (D (s10.2.2.1<(30:Int))) (Option.bind (fD (Option.bind (dI t dead s10.1) λy11=>fD (Option.bind (nL t s10.1 now y11 s10.2.1 (s10.2.2.2.2.1,s10.2.2.2.2.2.1,s10.2.2.2.2.2.2.1,s10.2.2.2.2.2.2.2.2.2.2.2.2.2.1,s10.2.2.2.2.2.2.2.1,s10.2.2.2.2.2.2.2.2.1,s10.2.2.2.2.2.2.2.2.2.1,s10.2.2.2.2.2.2.2.2.2.2.1,s10.2.2.2.2.2.2.2.2.2.2.2.1,s10.2.2.2.2.2.2.2.2.2.2.2.2.2.2)) λy12=>U y12) (Option.bind (nL t s10.1 now y11 s10.2.1 (s10.2.2.2.2.1,s10.2.2.2.2.2.1,s10.2.2.2.2.2.2.1,s10.2.2.2.2.2.2.2.2.2.2.2.2.2.1,s10.2.2.2.2.2.2.2.1,s10.2.2.2.2.2.2.2.2.1,s10.2.2.2.2.2.2.2.2.2.1,s10.2.2.2.2.2.2.2.2.2.2.1,s10.2.2.2.2.2.2.2.2.2.2.2.1,s10.2.2.2.2.2.2.2.2.2.2.2.2.2.2)) λy13=>U y13)) (Option.bind (dI t dead s10.1) λy14=>Option.bind (nL t s10.1 now y14 s10.2.1 (s10.2.2.2.2.1,s10.2.2.2.2.2.1,s10.2.2.2.2.2.2.1,s10.2.2.2.2.2.2.2.2.2.2.2.2.2.1,s10.2.2.2.2.2.2.2.1,s10.2.2.2.2.2.2.2.2.1,s10.2.2.2.2.2.2.2.2.2.1,s10.2.2.2.2.2.2.2.2.2.2.1,s10.2.2.2.2.2.2.2.2.2.2.2.1,s10.2.2.2.2.2.2.2.2.2.2.2.2.2.2)) λy15=>U y15)) λs16=>cond (D (s16.1>(1:Int))) (U (cMm (cMm (s16.1,s16.2.2.1,s16.2.2.2.1,s16.2.2.2.2.1,s16.2.2.2.2.2.1,s16.2.2.2.2.2.2.1,s16.2.2.2.2.2.2.2.1,s16.2.2.2.2.2.2.2.2.1,s16.2.2.2.2.2.2.2.2.2.1,s10.2.2.2.2.2.2.2.2.2.2.2.2.1,s16.2.2.2.2.2.2.2.2.2.2.1,s16.2.2.2.2.2.2.2.2.2.2.2)))) (cond (aF 24 s10.2.2.2.2.2.2.2.2.2.2.2.2.1.length 1) (cond (s16.1==(1:Int)) (U (cMm (cMm (s16.1,s16.2.2.1,s16.2.2.2.1,s16.2.2.2.2.1,s16.2.2.2.2.2.1,s16.2.2.2.2.2.2.1,s16.2.2.2.2.2.2.2.1,s16.2.2.2.2.2.2.2.2.1,s16.2.2.2.2.2.2.2.2.2.1,s10.2.2.2.2.2.2.2.2.2.2.2.2.1++[(s10.1,s10.2.1,s16.2.1)],s16.2.2.2.2.2.2.2.2.2.2.1,s16.2.2.2.2.2.2.2.2.2.2.2)))) (Option.bind (dM t s10.1 s16.2.1) λy17=>U (cMn (y17.1,y17.2,wr (s10.2.2.1+(1:Int)),s16.1,s16.2.2.1,s16.2.2.2.1,s16.2.2.2.2.1,s16.2.2.2.2.2.1,s16.2.2.2.2.2.2.1,s16.2.2.2.2.2.2.2.1,s16.2.2.2.2.2.2.2.2.1,s16.2.2.2.2.2.2.2.2.2.1,s10.2.2.2.2.2.2.2.2.2.2.2.2.1++[(s10.1,s10.2.1,s16.2.1)],s16.2.2.2.2.2.2.2.2.2.2.1,s16.2.2.2.2.2.2.2.2.2.2.2)))) W)) (U (cMm (cMn s10.2.2.2)))) (by
   intro k r inn p st hk hs hp hq;have hw:wr ((k:Int)+1)=((k+1:Nat):Int):=(wri (by omega) (by omega)).trans (by omega);have h30:D ((k:Int)<30)=X:=zX (by omega);show cond (D ((k:Int)<(30:Int))) _ _=U _;rw[h30,zZ];simp only[bE6,aD,bBy ht2 hd,bQx ht (cMo ht2 (by decide)) hp hq,aEn (t:=t) (cMo ht2 (by decide)),aA,bB,cB,bL,bJ,bO,aC (b:=24) (n:=st.length) (m:=1) (by decide) (by omega),zZ,hw,h30,cNc];rw[show (fwS (fwd t r now (yQ t dead r) inn p)).1=(fwd t r now (yQ t dead r) inn p).1 from rfl,cFo];rw[show fwd t r now (yQ t dead r) inn p=bM t now dead r inn p from rfl];have hx:∀c:Int,(c==0)=X->(c==1)=Y:=λc hc=>by
    have :c=0:=by simpa using hc
    subst this;rfl
   cases c0:(bM t now dead r inn p).1==0 with
   | true=>
    rw[hx _ c0];have e0:(bM t now dead r inn p).1=0:=by simpa using c0
    simp only[cMp,zY,aA,cOm,zV,cMr,zU,e0];rfl
   | false=>
    cases c1:(bM t now dead r inn p).1==1 with
    | true=>
     have e1:(bM t now dead r inn p).1=1:=by simpa using c1
     simp only[cMp,zY,zZ,cOw,zV,e1];rfl
    | false=>
     simp only[cMx,zZ,cN5,cMr,zU];rfl) (λ_ r inn p st=>rfl) 30 0 p.2.1 0 p [] rfl (λ_=>rfl) (cM5 _) h hpp
 have hl':∀{s:_},s=bE6 0 p.2.1 0 p []->aB _ s=U (cMm (aU1 (aWw t now dead p)))\/aB _ s=U (cMn (aU1 (aWw t now dead p))):=λhs=>by rw[hs];exact hl
 rcases hl' e0 with hl | hl
 .rw[hl];rfl
 .rw[hl];rfl
def aK5(t:den tTo)(now:Int)(dead:List Int)(p:den tPt):Bool:=(aWw t now dead (mH 1 p 0 0 [])).1==1
def bGi{t:den tTo}{now:Int}{dead:List Int}{p:den tPt}(ht:t.1.length<=549755813888)(ht2:t.2.length<=68719476736)(hd:dead.length<=549755813888)(hp:tot tPt p<=68719476736):aBs t now dead p=U (aK5 t now dead p):=by
 unfold aBs aK5 pj2 zz4 zz5 zz6 zz7 zz8 zz9;have h1:tot tPk (mH 1 p 0 0 [])<=274877906944:=by rw[aKz,aM2];omega
 have e:yT t now dead ((pkR (mH 1 p 0 0 [])).1,(pkR (mH 1 p 0 0 [])).2.1,(pkR (mH 1 p 0 0 [])).2.2.1,(pkR (mH 1 p 0 0 [])).2.2.2.2.2.2.2.2.1,(pkR (mH 1 p 0 0 [])).2.2.2.1,(pkR (mH 1 p 0 0 [])).2.2.2.2.1,(pkR (mH 1 p 0 0 [])).2.2.2.2.2.1,(pkR (mH 1 p 0 0 [])).2.2.2.2.2.2.1,(pkR (mH 1 p 0 0 [])).2.2.2.2.2.2.2.1,(pkR (mH 1 p 0 0 [])).2.2.2.2.2.2.2.2.2)=U (bFi (aWw t now dead (mH 1 p 0 0 []))):=cFw ht ht2 hd h1 hp;simp only[aD,aUm (kind:=1) (res:=0) (seq:=0) (p:=p) (pay:=[]) (by omega) (by simp),aA,e];rfl
def bGm{t:den tTo}{now:Int}{dead:List Int}{p:den tPt}(ht:t.1.length<=549755813888)(ht2:t.2.length<=68719476736)(hd:dead.length<=549755813888)(hp:tot tPt p<=68719476736):aBi t now dead p=U (aK5 t now dead p):=by
 unfold aBi aK5 pj2 zz4 zz5 zz6 zz7 zz8 zz9;have h1:tot tPk (mH 1 p 0 0 [])<=274877906944:=by rw[aKz,aM2];omega
 have e:yP t now dead ((pkR (mH 1 p 0 0 [])).1,(pkR (mH 1 p 0 0 [])).2.1,(pkR (mH 1 p 0 0 [])).2.2.1,(pkR (mH 1 p 0 0 [])).2.2.2.2.2.2.2.2.1,(pkR (mH 1 p 0 0 [])).2.2.2.1,(pkR (mH 1 p 0 0 [])).2.2.2.2.1,(pkR (mH 1 p 0 0 [])).2.2.2.2.2.1,(pkR (mH 1 p 0 0 [])).2.2.2.2.2.2.1,(pkR (mH 1 p 0 0 [])).2.2.2.2.2.2.2.1,(pkR (mH 1 p 0 0 [])).2.2.2.2.2.2.2.2.2)=U (aU1 (aWw t now dead (mH 1 p 0 0 []))):=cHw ht ht2 hd h1 hp;simp only[aD,aU6 (kind:=1) (res:=0) (seq:=0) (p:=p) (pay:=[]) (by omega) (by simp),aA,e];rfl
def aI0(w:den tNw)(p:den tPt)(now:Int):Bool:=aK5 w.1 now w.2.2.2.2.1 p&&aK5 w.1 now w.2.2.2.2.1 (aPa p)
def aUb(w:den tNw):Int:=wr (w.2.2.2.1+wr (8+aAq w))
def aNx(w:den tNw)(p:den tPt):Bool:=aI0 w p w.2.2.2.1&&aI0 w p (aUb w)
def aRw(w:den tNw)(f:den tFl):Int:=
 match dG (λk p=>if aNx w p then U (k:Int) else W) 0 f.2.2.2.2.2.1 with
 | some i=>i
 | none=> -1
structure bFa (w:den tNw):Prop where
 as:w.1.1.length<=549755813888
 links:w.1.2.length<=68719476736
 dead:w.2.2.2.2.1.length<=549755813888
 flows:w.2.2.2.2.2.2.1.length<=68719476736
def bZa{w:den tNw}(h:tot tNw w<=68719476736):bFa w where
 as:=cMo (cO (t:=tAS) _) (cMo (aA7 (aA7 h)) (by decide))
 links:=cMo (cO (t:=tLk) _) (cMo (aO (aA7 h)) (by decide))
 dead:=cMo (cO (t:=ti) _) (cMo (aA7 (aO (aO (aO (aO h))))) (by decide))
 flows:=cMo (cO (t:=tFl) _) (aA7 (aO (aO (aO (aO (aO (aO h)))))))
def cC7{w:den tNw}{p:den tPt}{now:Int}(h:bFa w)(hp:tot tPt p<=68719476736):aCf w p now=U (aI0 w p now):=by
 unfold aCf aI0 pj2 zz4;simp only[aD,bGm h.as h.links h.dead hp,bG2 (aVm hp),aA,bGm h.as h.links h.dead (p:=aPa p) (by rw[aFq];exact hp)];cases aK5 w.1 now w.2.2.2.2.1 p<;>rfl
def cEi{w:den tNw}{f:den tFl}(h:bFa w)(hf:tot tFl f<=68719476736):vL w f=U (aRw w f):=by
 have hl:f.2.2.2.2.2.1.length<=68719476736:=cMo (cO (t:=tPt) _) (aLy hf).2.1;unfold vL aL zz5;simp only[aD,bGe h.flows,aA];rw[aM (l:=f.2.2.2.2.2.1) (λk p=>if aNx w p then U (k:Int) else W) (by omega) (λk p hi hd hw hm hk=>by
  have hp:tot tPt p<=68719476736:=by have :=kA (t:=tPt) hm;have :=(aLy hf).2.1;omega
  simp only[hd,hi,hw,zZ,aA,aD,cC7 h hp];unfold aNx aUb;cases aI0 w p w.2.2.2.1<;>cases aI0 w p (wr (w.2.2.2.1+wr (8+aAq w)))<;>rfl) (by simp)]
 unfold aRw;cases dG (λk p=>if aNx w p then U (k:Int) else W) 0 f.2.2.2.2.2.1<;>rfl
def cEb{w:den tNw}{f:den tFl}(h:bFa w)(hf:tot tFl f<=68719476736):vE w f=U (aRw w f):=by
 have hl:f.2.2.2.2.2.1.length<=68719476736:=cMo (cO (t:=tPt) _) (aLy hf).2.1;unfold vE ixb pj2 aL zz4 zz5;simp only[aD,bGv h.flows,aA];rw[aM (l:=f.2.2.2.2.2.1) (λk p=>if aNx w p then U (k:Int) else W) (by omega) (λk p hi hd hw hm hk=>by
  have hp:tot tPt p<=68719476736:=by have :=kA (t:=tPt) hm;have :=(aLy hf).2.1;omega
  have hr:=λnow=>bGi h.as h.links h.dead (now:=now) hp
  have hr2:=λnow=>bGi h.as h.links h.dead (now:=now) (p:=aPa p) (by rw[aFq];exact hp)
  simp only[hd,hi,hw,zZ,aA,aD,bIk (aVm hp),hr,hr2];rw[fV (λk (b:Bool)=>(b,(k:Int))) (X,(0:Int)) X [w.2.2.2.1,aUb w] (λ_ n b=>b&&aI0 w p n) (λ_=>0) (λ_=>0) 0 id rfl (by simp) (by simp) (λ_ _ _=>cM5 _) (λk n b hi hx hd hw hk hb=>by
   have hd:D ((k:Int)<(([w.2.2.2.1,wr (w.2.2.2.1+wr (8+aAq w))]:List Int).length:Int))=X:=hd;have hx:([w.2.2.2.1,wr (w.2.2.2.1+wr (8+aAq w))]:List Int)[k]? =U n:=hx;simp only[hd,bF,cMt,hx,hw,zZ,aA];unfold aI0;cases b<;>cases aK5 w.1 n w.2.2.2.2.1 p<;>rfl) (λa=>by simp)]
  show Option.bind (U (id (cV (λ_ n b=>b&&aI0 w p n) 0 [w.2.2.2.1,aUb w] X))) _=_;simp only[cV,aA,id,cM1];unfold aNx;cases aI0 w p w.2.2.2.1&&aI0 w p (aUb w)<;>rfl) (by simp)]
 unfold aRw;cases dG (λk p=>if aNx w p then U (k:Int) else W) 0 f.2.2.2.2.2.1<;>rfl
def aF8(w:den tNw)(f:den tFl):Bool:=f.2.2.2.1==(f.2.2.2.2.1.length:Int)|| !D (aRw w f>=0)
def cEr{w:den tNw}(h:tot tNw w<=68719476736):pK w=U (w.2.2.2.2.2.2.1.all (aF8 w)):=by
 have hs:=bZa h;have hF:tot (.sl tFl) w.2.2.2.2.2.2.1<=68719476736:=aA7 (aO (aO (aO (aO (aO (aO h))))));unfold pK pj9 aL zz4 zz6;rw[aM (l:=w.2.2.2.2.2.2.1) (λ_ f=>if aF8 w f then W else U Y) (cMo hs.flows (by decide)) (λk f hi hd hw hm hk=>by
  have hf:tot tFl f<=68719476736:=by have :=kA (t:=tFl) hm;omega
  simp only[hd,hi,hw,zZ,aA,aD,cEb hs hf,kJ];unfold aF8;cases f.2.2.2.1==(f.2.2.2.2.1.length:Int)<;>cases D (aRw w f>=0)<;>rfl) (by simp),iL (aF8 w)]
 cases w.2.2.2.2.2.2.1.all (aF8 w)<;>rfl
def cEo{w:den tNw}(h:tot tNw w<=68719476736):pQ w=U (w.2.2.2.2.2.2.1.all (aF8 w)):=by
 have hs:=bZa h;have hF:tot (.sl tFl) w.2.2.2.2.2.2.1<=68719476736:=aA7 (aO (aO (aO (aO (aO (aO h))))));unfold pQ pj9 aL zz4 zz6;rw[aM (l:=w.2.2.2.2.2.2.1) (λ_ f=>if aF8 w f then W else U Y) (cMo hs.flows (by decide)) (λk f hi hd hw hm hk=>by
  have hf:tot tFl f<=68719476736:=by have :=kA (t:=tFl) hm;omega
  simp only[hd,hi,hw,zZ,aA,aD,cEi hs hf,kJ];unfold aF8;cases f.2.2.2.1==(f.2.2.2.2.1.length:Int)<;>cases D (aRw w f>=0)<;>rfl) (by simp),iL (aF8 w)]
 cases w.2.2.2.2.2.2.1.all (aF8 w)<;>rfl
abbrev nT(w:den tNw):den tTo:=w.1
abbrev nK(w:den tNw):den tDb:=w.2.1
abbrev nG(w:den tNw):den tSc:=w.2.2.1
abbrev aV(w:den tNw):Int:=w.2.2.2.1
abbrev bC(w:den tNw):List Int:=w.2.2.2.2.1
abbrev bS(w:den tNw):lFy:=w.2.2.2.2.2.1
abbrev aG(w:den tNw):lFl:=w.2.2.2.2.2.2.1
abbrev cQ(w:den tNw):lIb:=w.2.2.2.2.2.2.2.1
abbrev qL(w:den tNw):Int:=w.2.2.2.2.2.2.2.2
def aGx(w:den tNw):q21:=
 ((nG w).1,aV w,qL w,(nT w).1,(nT w).2,(nK w).1,(nK w).2,(nG w).2.1,(nG w).2.2,bC w,bS w,aG w,cQ w)
def bR1{l:lRs}(h:l.length<=549755813888):gI l=U l:=by
 unfold gI;rw[aC (n:=([]:lRs).length) (by decide) (by simpa using h)];rfl
def bNu{g:den tSc}(h:SmB 549755813888 tSc g):gT g=U g:=by
 unfold gT;rw[bR1 h.2.1.1,aA,aC (n:=([]:lUs).length) (by decide) (by simpa using h.2.2.1)];rfl
def bOl{g:den tSc}(h:SmB 549755813888 tSc g):lM g=U g:=by
 unfold lM pj3;rw[aC (b:=40) (n:=([]:lRs).length) (by decide) (by simpa using h.2.1.1),aC (b:=32) (n:=([]:lUs).length) (by decide) (by simpa using h.2.2.1)];simp only[bB,cB,bL,bJ,bO,zZ,aA,cNf]
def aSy(f:den tFl):(((tP f).1,(tP f).2.1,(tP f).2.2.1,(tP f).2.2.2.1,(tP f).2.2.2.2.2.2.1,(tP f).2.2.2.2.2.2.2.1,(tP f).2.2.2.2.1,(tP f).2.2.2.2.2.1,(tP f).2.2.2.2.2.2.2.2):den tFl)=f:=rfl
def bKu(p:den tPk):(((pkR p).1,(pkR p).2.1,(pkR p).2.2.1,(pkR p).2.2.2.2.2.2.2.2.1,(pkR p).2.2.2.1,(pkR p).2.2.2.2.1,(pkR p).2.2.2.2.2.1,(pkR p).2.2.2.2.2.2.1,(pkR p).2.2.2.2.2.2.2.1,(pkR p).2.2.2.2.2.2.2.2.2):den tPk)=p:=rfl
def bS9{x:den tFy}(h:SmB 549755813888 tFy x):SmB 549755813888 tPk x.2.2:=h.2.2
end Go.Proofs.YtjpmmodjpaabpaaGreat
