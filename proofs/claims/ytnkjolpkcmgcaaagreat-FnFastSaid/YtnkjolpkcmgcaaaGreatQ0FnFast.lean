/-
  Facts and plain laws: what the functions compute, in plain words. Conditions: as each says.
-/
import Derived.Test.YtnkjolpkcmgcaaaGreatT0FnFast
open List renaming length->bW0,mem_of_getElem?->bWu,nil_append->bXc,all_cons->bY4,getElem?_cons_zero->bZy,getElem?_eq_getElem->bWl,length_take->bXw,length_append->bW9,length_singleton->bX5,mem_append->bWq,mem_singleton->bWp,getElem?_eq_some_iff->bWn,map_cons->bW2,sum_cons->bX3,getLast?_concat->bYi,dropLast_concat->bYs,length_nil->bYc,getElem?_append_right->bY7,length_cons->bXp,foldl_cons->bY1,append_nil->bXh,all_eq_true->bW5,mem_zipIdx_iff_getElem?->cAe,take_append_drop->bX0,length_filter_le->bZb,getElem?_drop->bYd,length_drop->bYy,getElem?_map->bXx,mem_cons->bWm,getElem?_set_self->bYj,length_set->bYb,mem_cons_of_mem->bWo,getElem_mem->bXt,pairwise_iff_getElem->bYk,filter_cons->bYr,mem_iff_getElem?->bZz,mem_filter->bWy,getElem?_set_ne->bYq,not_mem_nil->bW7
open Nat renaming le_trans->bWk,zero_add->bXm,le_refl->bWx,zero_le->bW3,mul_le_mul_right->bX1,add_sub_cancel->bYt,not_lt_zero->bZm,lt_succ_self->bZx,succ_mul->bXk
open Bool renaming eq_false_or_eq_true->bZl,true_and->bW4,eq_iff_iff->bXj,not_true->bWw,not_false->bW1,false_and->bXb,false_eq_true->bWz,and_eq_true->bWj,or_self->bZq,and_false->bYu,not_eq_true'->bW8,and_self->bZc,or_eq_true->bX2
open Sum renaming elim_inl->bYm,inr->bWh
open Int renaming toNat_natCast->bWs,tmod->bXa,toNat_of_nonneg->bY3,eq_ofNat_of_zero_le->bXs,le_refl->bXl
open Option renaming getD_some->bXo
set_option linter.unusedVariables false
set_option linter.unusedSimpArgs false
set_option maxRecDepth 100000
namespace Go.Proofs.YtnkjolpkcmgcaaaGreat
open Go.Ab Go.V
def inR(n a b:Int):Bool:=decide (a<=n)&&decide (n<=b)
theorem kN(n a b:Int):bA n a b=some (inR n a b):=by
 unfold bA inR
 by_cases h:a<=n<;>simp[h]
theorem qH(n a b:Int):aV n a b=some (inR n a b):=by
 unfold aV inR
 by_cases h:a<=n<;>simp[h]
theorem aI{n a b:Int}:inR n a b=true↔a<=n/\n<=b:=by simp[inR]
theorem bAy{n a b:Int}:inR n a b=false↔ ¬ (a<=n/\n<=b):=by rw[<- aI];simp
theorem bOn(a b:Int):aB6 a b=some (if b>a then b else a):=rfl
theorem bVj(a b:Int):aEb a b=some (if b>a then b else a):=by
 unfold aEb
 by_cases h:b>a<;>simp[h]
theorem bNw(a b:Int):aCi a b=some (if b<a then b else a):=rfl
theorem bNl(a b:Int):aAz a b=some (if b<a then b else a):=by
 unfold aAz
 by_cases h:b<a<;>simp[h]
theorem aF1{b:List Int}(h:b.length<=68719476736):fA b=some b:=by
 unfold fA;rw[aG (by decide) (by simpa using h)];simp
theorem bAq{l:dE}(h:l.length<=68719476736):oW l=some l:=by
 unfold oW;rw[aG (by decide) (by simpa using h)];simp
theorem aRe{l:lRv}(h:l.length<=68719476736):eC l=some l:=by
 unfold eC;rw[aG (by decide) (by simpa using h)];simp
theorem bL3{p:den tPp}(h:SmB 68719476736 tPp p):uO p=some p:=by
 unfold uO;rw[aG (by decide) (by simpa using h.2.2.2.1)];simp
theorem aKs{p:den tPt}(h:SmB 68719476736 tPt p):iW p=some p:=by
 unfold iW;rw[(rY (λk (a:lPp)=>((k:Int),a)) ((0:Int),[]) [] p (λ_ x a=>a++[x]) bW0 (λ_=>1) 68719476736 id rfl (bWk h.1 (by decide)) (by rw[fK];simpa using h.1) (λk x a hi hx hd hw hk hb=>by
  have e:=h.2 x (bWu hx);simp only[hd,hi,hw,zZ,aA,bAq e.2.2.2.1,bE,aG (b:=48) (by decide) hb];simp) (λa=>by simp)).1,fX (λx=>x)]
 simp
theorem aFl{p:den tPt}(h:SmB 68719476736 tPt p):jL p=some p:=by
 unfold jL pj4;rw[(rY (λk (a:lPp)=>((k:Int),a)) ((0:Int),[]) [] p (λ_ x a=>a++[x]) bW0 (λ_=>1) 68719476736 id rfl (bWk h.1 (by decide)) (by rw[fK];simpa using h.1) (λk x a hi hx hd hw hk hb=>by
  have e:=h.2 x (bWu hx);simp only[hd,hi,hw,zZ,aA,bE,bL3 e,aG (b:=48) (by decide) hb];simp) (λa=>by simp)).1,fX (λx=>x)]
 simp
theorem bMh{l:lPt}(h:SmB 68719476736 (.sl tPt) l):qR l=some l:=by
 unfold qR;rw[(rY (λk (a:lPt)=>((k:Int),a)) ((0:Int),[]) [] l (λ_ x a=>a++[x]) bW0 (λ_=>1) 68719476736 id rfl (bWk h.1 (by decide)) (by rw[fK];simpa using h.1) (λk x a hi hx hd hw hk hb=>by
  have e:=h.2 x (bWu hx);simp only[hd,hi,hw,zZ,aA,aKs e,aG (b:=24) (by decide) hb];simp) (λa=>by simp)).1,fX (λx=>x)]
 simp
theorem bNe{l:lPt}(h:SmB 68719476736 (.sl tPt) l):uQ l=some l:=by
 unfold uQ;rw[(rY (λk (a:lPt)=>((k:Int),a)) ((0:Int),[]) [] l (λ_ x a=>a++[x]) bW0 (λ_=>1) 68719476736 id rfl (bWk h.1 (by decide)) (by rw[fK];simpa using h.1) (λk x a hi hx hd hw hk hb=>by
  have e:=h.2 x (bWu hx);simp only[hd,hi,hw,zZ,aA,aFl e,aG (b:=24) (by decide) hb];simp) (λa=>by simp)).1,fX (λx=>x)]
 simp
theorem aZj{l:lMs}(h:SmB 68719476736 (.sl tMs) l):iK l=some l:=by
 unfold iK;rw[(rY (λk (a:lMs)=>((k:Int),a)) ((0:Int),[]) [] l (λ_ x a=>a++[x]) bW0 (λ_=>1) 68719476736 id rfl (bWk h.1 (by decide)) (by rw[fK];simpa using h.1) (λk x a hi hx hd hw hk hb=>by
  have e:=h.2 x (bWu hx);simp only[hd,hi,hw,zZ,aA,aF1 e.1,aG (b:=24) (by decide) hb];simp) (λa=>by simp)).1,fX (λx=>x)]
 simp
theorem aZw{l:lMs}(h:SmB 68719476736 (.sl tMs) l):oT l=some l:=by
 unfold oT;rw[(rY (λk (a:lMs)=>((k:Int),a)) ((0:Int),[]) [] l (λ_ x a=>a++[x]) bW0 (λ_=>1) 68719476736 id rfl (bWk h.1 (by decide)) (by rw[fK];simpa using h.1) (λk x a hi hx hd hw hk hb=>by
  have e:=h.2 x (bWu hx);simp only[hd,hi,hw,zZ,aA,aG (b:=1) (n:=([]:List Int).length) (by decide) (by simpa using e.1),aG (b:=24) (by decide) hb];simp) (λa=>by simp)).1,fX (λx=>x)]
 simp
def sQ(f:den tFl):q7:=(f.1,f.2.1,f.2.2.1,f.2.2.2.1,f.2.2.2.2.2.2.1,f.2.2.2.2.2.2.2.1,f.2.2.2.2.1,f.2.2.2.2.2.1,f.2.2.2.2.2.2.2.2)
theorem aLa{f:den tFl}(h:SmB 68719476736 tFl f):jC f=some (sQ f):=by
 unfold jC sQ zz4 zz5 zz6 zz7 zz8;simp only[aZj h.2.2.2.2.1,bMh h.2.2.2.2.2.1,aRe h.2.2.2.2.2.2.2.2.1,aA]
theorem aRh{f:den tFl}(h:SmB 68719476736 tFl f):mF f=some (sQ f):=by
 unfold mF sQ zz4 zz5 zz6 zz7 zz8;simp only[aZw h.2.2.2.2.1,bNe h.2.2.2.2.2.1,aA,aG (b:=24) (n:=([]:lRv).length) (by decide) (by simpa using h.2.2.2.2.2.2.2.2.1),zZ,bXc]
theorem aZb{x:den tIb}(h:SmB 68719476736 tIb x):mK x=some x:=by
 unfold mK;simp only[aZj h.2.2.2,aA,bE]
theorem bQ3{x:den tIb}(h:SmB 68719476736 tIb x):uV x=some x:=by
 unfold uV;simp only[aZw h.2.2.2,aA,bE]
def dJ(x:den tRv):Bool:=inR x.1 0 7&&(inR x.2.1 1 6&&inR x.2.2 0 1000000)
theorem zP(x:den tRv):bI x=some (dJ x):=by
 unfold bI dJ;simp only[kN,aA];cases inR x.1 0 7<;>cases inR x.2.1 1 6<;>cases inR x.2.2 0 1000000<;>rfl
theorem aM0(x:den tRv):dL x=some (dJ x):=by
 unfold dL dJ;simp only[qH,aA];cases inR x.1 0 7<;>cases inR x.2.1 1 6<;>cases inR x.2.2 0 1000000<;>rfl
theorem zG{α S:Type}(p:Nat->α->Bool):∀(l:List α) (k:Nat) (ρ:S),bL (λk x=>if p k x then none else some ρ) k l=if (l.zipIdx k).all (λx=>p x.2 x.1) then none else some ρ
 | [],_,_=>rfl
 | x::xs,k,ρ=>by
  simp only[bL,List.zipIdx_cons,bY4];rcases bZl (p k x) with h | h
  .simp only[h,zV,bW4];exact zG p xs (k+1) ρ
  .simp[h]
theorem aZf{α:Type}(p:α->Bool):∀(l:List α) (k:Nat),(l.zipIdx k).all (λx=>p x.1)=l.all p
 | [],_=>rfl
 | x::xs,k=>by simp[List.zipIdx_cons,aZf p xs]
theorem oN{α S:Type}(p:α->Bool)(l:List α)(ρ:S):bL (λ_ x=>if p x then none else some ρ) 0 l=if l.all p then none else some ρ:=by
 rw[zG (λ_ x=>p x),aZf p]
def lR(f:den tFl):Bool:=
 inR f.1 0 7&&(inR f.2.1 0 7&&(!(f.1==f.2.1)&&(inR f.2.2.1 0 100000&&(decide (f.2.2.2.2.1.length<=20)&&(inR f.2.2.2.1 0 (f.2.2.2.2.1.length:Int)&&(decide (f.2.2.2.2.2.1.length<=24)&&
  (f.2.2.2.2.1.all (λm=>decide (m.length<=40))&&(f.2.2.2.2.2.2.2.2.all dJ&&((f.2.2.2.2.2.2.1==0||inR f.2.2.2.2.2.2.1 0 ((f.2.2.2.2.2.1.length:Int) - 1))&&(inR f.2.2.2.2.2.2.2.1 0 4&&decide (f.2.2.2.2.2.2.2.2.length<=16)))))))))))
theorem bM7{f:den tFl}(h:SmB 68719476736 tFl f):qQ f=some (lR f):=by
 have h1:=h.2.2.2.2.1.1;have h2:=h.2.2.2.2.2.1.1;have h3:=h.2.2.2.2.2.2.2.2.1;unfold qQ lR pj3 zz4 zz5 zz6 zz7 zz8;rw[aU (l:=f.2.2.2.2.1) (λ_ m=>if decide (m.length<=40) then none else some false) (by omega) (λk m hi hd hw hx hk=>by
  simp only[hd,hi,hw,zZ,aA]
  by_cases hm:m.length<=40
  .simp[hm,show ¬ ((m.length:Int)>40) by omega]
  .simp[hm,show (m.length:Int)>40 by omega]) (by simp)]
 rw[aU (l:=f.2.2.2.2.2.2.2.2) (λ_ x=>if dJ x then none else some false) (by omega) (λk x hi hd hw hx hk=>by
  simp only[hd,hi,hw,zZ,aA,bE,zP];cases dJ x<;>rfl) (by simp)]
 rw[oN (λm:List Int=>decide (m.length<=40)),oN dJ];have e1:decide ((f.2.2.2.2.1.length:Int)>20)= !decide (f.2.2.2.2.1.length<=20):=by rw[bXj];simp;omega
 have e2:decide ((f.2.2.2.2.2.1.length:Int)>24)= !decide (f.2.2.2.2.2.1.length<=24):=by rw[bXj];simp;omega
 have e3:decide ((f.2.2.2.2.2.2.2.2.length:Int)<=16)=decide (f.2.2.2.2.2.2.2.2.length<=16):=by rw[bXj];simp;omega
 have e5:wr ((f.2.2.2.2.2.1.length:Int) - 1)=(f.2.2.2.2.2.1.length:Int) - 1:=wri (by omega) (by omega);rw[e5];simp only[kN,aA,e1,e2,e3];cases inR f.1 0 7<;>simp only[bWw,bW1,zZ,zY,aA,bXb,bW4];cases inR f.2.1 0 7<;>simp only[bWw,bW1,zZ,zY,aA,bXb,bW4];cases f.1==f.2.1<;>simp only[bWw,bW1,zZ,zY,aA,bXb,bW4];cases inR f.2.2.1 0 100000<;>simp only[bWw,bW1,zZ,zY,aA,bXb,bW4];cases decide (f.2.2.2.2.1.length<=20)<;>simp only[bWw,bW1,zZ,zY,aA,bXb,bW4];cases inR f.2.2.2.1 0 (f.2.2.2.2.1.length:Int)<;>simp only[bWw,bW1,zZ,zY,aA,bXb,bW4];cases decide (f.2.2.2.2.2.1.length<=24)<;>simp only[bWw,bW1,zZ,zY,aA,bXb,bW4];cases f.2.2.2.2.1.all (λm=>decide (m.length<=40))<;>simp only[bWz,zV,zU,aA,bYm,Sum.elim_inr,bXb,bW4];cases f.2.2.2.2.2.2.2.2.all dJ<;>simp only[bWz,zV,zU,aA,bYm,Sum.elim_inr,bXb,bW4];cases f.2.2.2.2.2.2.1==0<;>cases inR f.2.2.2.2.2.2.1 0 ((f.2.2.2.2.2.1.length:Int) - 1)<;>cases inR f.2.2.2.2.2.2.2.1 0 4<;>rfl
theorem aUv{f:den tFl}(h:SmB 68719476736 tFl f):lG f=some (lR f):=by
 have h1:=h.2.2.2.2.1.1;have h2:=h.2.2.2.2.2.1.1;have h3:=h.2.2.2.2.2.2.2.2.1;unfold lG lR pj3 zz4 zz5 zz6 zz7 zz8;rw[aU (l:=f.2.2.2.2.1) (λ_ m=>if decide (m.length<=40) then none else some false) (by omega) (λk m hi hd hw hx hk=>by
  simp only[hd,hi,hw,zZ,aA]
  by_cases hm:m.length<=40
  .simp[hm,show ¬ ((m.length:Int)>40) by omega]
  .simp[hm,show (m.length:Int)>40 by omega]) (by simp)]
 rw[aU (l:=f.2.2.2.2.2.2.2.2) (λ_ x=>if dJ x then none else some false) (by omega) (λk x hi hd hw hx hk=>by
  simp only[hd,hi,hw,zZ,aA,bE,aM0];cases dJ x<;>rfl) (by simp)]
 rw[oN (λm:List Int=>decide (m.length<=40)),oN dJ];have e1:decide ((f.2.2.2.2.1.length:Int)>20)= !decide (f.2.2.2.2.1.length<=20):=by rw[bXj];simp;omega
 have e2:decide ((f.2.2.2.2.2.1.length:Int)>24)= !decide (f.2.2.2.2.2.1.length<=24):=by rw[bXj];simp;omega
 have e3:decide ((f.2.2.2.2.2.2.2.2.length:Int)>16)= !decide (f.2.2.2.2.2.2.2.2.length<=16):=by rw[bXj];simp;omega
 have e4:inR f.2.2.2.2.2.2.1 0 (if ((f.2.2.2.2.2.1.length:Int) - 1)>0 then ((f.2.2.2.2.2.1.length:Int) - 1) else 0)=(f.2.2.2.2.2.2.1==0||inR f.2.2.2.2.2.2.1 0 ((f.2.2.2.2.2.1.length:Int) - 1)):=by
  have key:∀(c n:Int),0<=n->inR c 0 (if n - 1>0 then n - 1 else 0)=(c==0||inR c 0 (n - 1)):=λc n hn=>by
   unfold inR
   by_cases h1:n - 1>0
   .rw[zT h1]
    by_cases h2:c=0
    .subst h2;simp;omega
    .simp[h2]
   .rw[zS h1]
    by_cases h2:c=0
    .subst h2;simp
    .rw[bXj];simp[h2];omega
  exact key _ _ (by omega)
 have e5:wr ((f.2.2.2.2.2.1.length:Int) - 1)=(f.2.2.2.2.2.1.length:Int) - 1:=wri (by omega) (by omega);rw[e5];simp only[qH,bVj,aA,e1,e2,e3,e4];cases inR f.1 0 7<;>simp only[bWw,bW1,zZ,zY,aA,bXb,bW4];cases inR f.2.1 0 7<;>simp only[bWw,bW1,zZ,zY,aA,bXb,bW4];cases f.1==f.2.1<;>simp only[bWw,bW1,zZ,zY,aA,bXb,bW4];cases inR f.2.2.1 0 100000<;>simp only[bWw,bW1,zZ,zY,aA,bXb,bW4];cases decide (f.2.2.2.2.1.length<=20)<;>simp only[bWw,bW1,zZ,zY,aA,bXb,bW4];cases inR f.2.2.2.1 0 (f.2.2.2.2.1.length:Int)<;>simp only[bWw,bW1,zZ,zY,aA,bXb,bW4];cases decide (f.2.2.2.2.2.1.length<=24)<;>simp only[bWw,bW1,zZ,zY,aA,bXb,bW4];cases f.2.2.2.2.2.2.1==0||inR f.2.2.2.2.2.2.1 0 ((f.2.2.2.2.2.1.length:Int) - 1)<;>cases inR f.2.2.2.2.2.2.2.1 0 4<;>cases decide (f.2.2.2.2.2.2.2.2.length<=16)<;>cases f.2.2.2.2.1.all (λm=>decide (m.length<=40))<;>cases f.2.2.2.2.2.2.2.2.all dJ<;>rfl
def aG1(a b:List Int):Bool:=(wZ a).toList==(wZ b).toList
theorem bPc(a b:List Int):rK a b=some (aG1 a b):=rfl
def wN:lMs->lMs->Bool
 | [],_=>true
 | _::_,[]=>true
 | a::as,b::bs=>aG1 a b&&wN as bs
def aUb{α S:Type}(p:α->α->Bool)(l:List α)(ρ:S)(k:Nat)(x:α):Option S:=Option.elim l[k]? none λy=>if p x y then none else some ρ
theorem bNs{α S:Type}(p:α->α->Bool)(q:List α->List α->Bool)(h0:∀b,q [] b=true)(h1:∀x a y b,q (x::a) (y::b)=(p x y&&q a b))(ρ:S):∀(a b:List α),a.length<=b.length-> ∀(k:Nat) (l:List α),(∀j,b[j]? =l[k+j]?)->bL (aUb p l ρ) k a=if q a b then none else some ρ
 | [],b,_,k,l,_=>by rw[h0];rfl
 | x::a,[],h,_,_,_=>by simp at h
 | x::a,y::b,h,k,l,hl=>by
  have e0:=hl 0;simp only[Nat.add_zero,bZy]at e0;simp only[bL,aUb,<- e0,h1,Option.elim_some];rcases bZl (p x y) with hp | hp
  .simp only[hp,zV,bW4];exact bNs p q h0 h1 ρ a b (by simpa using h) (k+1) l λj=>by
    have :=hl (j+1);rw[List.getElem?_cons_succ]at this;rw[this];congr 1;omega
  .simp[hp]
theorem bJx{a b:lMs}(ha:a.length<=68719476736)(hb:b.length<=68719476736):kU a b=some (decide (a.length=b.length)&&wN a b):=by
 unfold kU
 by_cases hl:a.length=b.length
 .have h0:((a.length:Int) != (b.length:Int))=false:=by simp[hl]
  rw[h0,zY,aU (l:=a) (aUb aG1 b false) (by omega) (λk x hi hd hw hx hk=>by
    have hy:b[k]? =some b[k]:=bWl (by omega);simp only[hd,hi,hw,zZ,aA,aO,hy,bPc,aUb,Option.elim_some];cases aG1 x b[k]<;>rfl) (by simp)]
  rw[bNs aG1 wN (λb=>by cases b<;>rfl) (λ_ _ _ _=>rfl) false a b (by omega) 0 b (λj=>by rw[bXm])];cases wN a b<;>simp[hl]
 .have h0:((a.length:Int) != (b.length:Int))=true:=by simp;omega
  rw[h0,zZ];simp[hl]
def aCv(f:den tFl)(x:den tIb):Bool:=
 x.1==f.2.1&&(x.2.1==f.1&&(decide (x.2.2.2.length<=f.2.2.2.2.1.length)&&(wN x.2.2.2 f.2.2.2.2.1&&decide ((x.2.2.2.length:Int)>=f.2.2.2.1))))
theorem aE6:∀(a b:lMs),wN a (b.take a.length)=wN a b
 | [],b=>by cases b<;>rfl
 | x::a,[]=>rfl
 | x::a,y::b=>by simp[wN,aE6 a b]
theorem bFz{f:den tFl}{x:den tIb}(hf:f.2.2.2.2.1.length<=68719476736)(hx:x.2.2.2.length<=68719476736):jR f x=some (aCv f x):=by
 unfold jR aCv zz4;cases x.1==f.2.1
 .rfl
 cases x.2.1==f.1
 .rfl
 by_cases hl:x.2.2.2.length<=f.2.2.2.2.1.length
 .have h1:decide ((x.2.2.2.length:Int)<=(f.2.2.2.2.1.length:Int))=true:=by simpa using hl
  have h2:cQ (0:Int) (x.2.2.2.length:Int) (f.2.2.2.2.1.length:Int)=true:=by simp[cQ];omega
  rw[h1,h2,jP,bJx hx (by rw[bXw];omega),aE6];have h3:decide (x.2.2.2.length=(List.take x.2.2.2.length f.2.2.2.2.1).length)=true:=by simp[bXw];omega
  rw[h3];simp only[zZ,aA,bW4,zX hl];cases wN x.2.2.2 f.2.2.2.2.1<;>rfl
 .have h1:decide ((x.2.2.2.length:Int)<=(f.2.2.2.2.1.length:Int))=false:=by simp;omega
  rw[h1];simp[hl]
def sA(x:den tIb)(p:den tPk):Bool:=p.1==1&&(p.2.1==x.2.1&&p.2.2.1==x.1)
theorem aY0(x:den tIb)(p:den tPk):rC x p=some (sA x p):=by
 unfold rC sA;cases p.1==1<;>cases p.2.1==x.2.1<;>rfl
def takes(x:den tIb)(p:den tPk):Bool:=sA x p&&(p.2.2.2.2.2.2.2.2.1==x.2.2.1&&decide (x.2.2.1<20))
def bY(x:den tIb)(p:den tPk):den tIb:=if takes x p then (x.1,x.2.1,wr (x.2.2.1+1),x.2.2.2++[p.2.2.2.2.2.2.2.2.2]) else x
theorem bQd{x:den tIb}{p:den tPk}(hx:SmB 4294967296 tIb x)(hp:SmB 4294967296 tPk p):nA x p=some (bY x p):=by
 have hx':SmB 68719476736 tIb x:=hx.mono (by decide);have hp':=(hp.mono (C:=68719476736) (by decide)).2.2.2.2.2.2.2.2.2.1;unfold nA bY takes bQ pj4 zz8 zz9;have ha:=hx.2.2.2.1;simp only[bE,aZb hx',aY0,aF1 hp',aA,aG (b:=24) (n:=x.2.2.2.length) (m:=1) (by decide) (by omega),zZ];cases sA x p<;>cases p.2.2.2.2.2.2.2.2.1==x.2.2.1<;>cases decide (x.2.2.1<20)<;>rfl
theorem bJe(x:den tIb)(p:den tPk):tot (.sl tMs) (bY x p).2.2.2<=tot (.sl tMs) x.2.2.2+1+tot (.sl tb) p.2.2.2.2.2.2.2.2.2:=by
 unfold bY;split
 .rw[rF,aCw];show _+(1+tot (.sl tb) _)<=_;omega
 .omega
def tV(f:den tFl)(p:den tPk):Bool:=p.1==2&&(p.2.1==f.2.1&&(p.2.2.1==f.1&&(p.2.2.2.2.2.2.2.2.1==f.2.2.2.1&&inR f.2.2.2.1 0 ((f.2.2.2.2.1.length:Int) - 1))))
def iH(f:den tFl)(p:den tPk):den tFl:=if tV f p then (f.1,f.2.1,f.2.2.1,wr (f.2.2.2.1+1),f.2.2.2.2.1,f.2.2.2.2.2.1,f.2.2.2.2.2.2.1,0,f.2.2.2.2.2.2.2.2) else f
theorem bOx{f:den tFl}{p:den tPk}(hf:SmB 68719476736 tFl f):qZ f p=some (sQ (iH f p)):=by
 unfold qZ iH tV pj3 pj9 zz4 zz5 zz6 zz8;have e5:wr ((f.2.2.2.2.1.length:Int) - 1)=(f.2.2.2.2.1.length:Int) - 1:=wri (by have :=hf.2.2.2.2.1.1;omega) (by have :=hf.2.2.2.2.1.1;omega);simp only[bE,aLa hf,aA,kN,e5];cases p.1==2<;>cases p.2.1==f.2.1<;>cases p.2.2.1==f.1<;>cases p.2.2.2.2.2.2.2.2.1==f.2.2.2.1<;>cases inR f.2.2.2.1 0 ((f.2.2.2.2.1.length:Int) - 1)<;>rfl
theorem aYs(f:den tFl)(p:den tPk):(iH f p).2.2.2.2.1=f.2.2.2.2.1/\(iH f p).2.2.2.2.2.1=f.2.2.2.2.2.1/\(iH f p).2.2.2.2.2.2.2.2=f.2.2.2.2.2.2.2.2:=by
 unfold iH;split<;>exact⟨rfl,rfl,rfl⟩
def enq(f:den tFl)(b:List Int):den tFl:=(f.1,f.2.1,f.2.2.1,f.2.2.2.1,f.2.2.2.2.1++[b],f.2.2.2.2.2.1,f.2.2.2.2.2.2.1,f.2.2.2.2.2.2.2.1,f.2.2.2.2.2.2.2.2)
def bMw(f:den tFl)(b:List Int):Int×Int×Int×Int×Int×Int×Bool×lMs×lPt×lRv:=
 if lR (enq f b) then (f.1,f.2.1,f.2.2.1,f.2.2.2.1,f.2.2.2.2.2.2.1,f.2.2.2.2.2.2.2.1,true,f.2.2.2.2.1++[b],f.2.2.2.2.2.1,f.2.2.2.2.2.2.2.2)
 else (f.1,f.2.1,f.2.2.1,f.2.2.2.1,f.2.2.2.2.2.2.1,f.2.2.2.2.2.2.2.1,false,f.2.2.2.2.1,f.2.2.2.2.2.1,f.2.2.2.2.2.2.2.2)
theorem bSa{f:den tFl}{b:List Int}(hf:SmB 4294967296 tFl f)(hb:SmB 4294967296 (.sl tb) b):SmB 68719476736 tFl (enq f b):=by
 have hf':=hf.mono (C:=68719476736) (by decide);refine⟨hf'.1,hf'.2.1,hf'.2.2.1,hf'.2.2.2.1,⟨?_,λe he=> ?_⟩,hf'.2.2.2.2.2.1,hf'.2.2.2.2.2.2.1,hf'.2.2.2.2.2.2.2.1,hf'.2.2.2.2.2.2.2.2⟩
 .show (f.2.2.2.2.1++[b]).length<=_;have :=hf.2.2.2.2.1.1;rw[bW9,bX5];omega
 .rcases bWq.1 he with he | he
  .exact hf'.2.2.2.2.1.2 e he
  .rw[bWp.1 he];exact hb.mono (by decide)
theorem bU1{f:den tFl}{b:List Int}(hf:SmB 4294967296 tFl f)(hb:SmB 4294967296 (.sl tb) b):tH f b=some (bMw f b):=by
 unfold tH bMw pj2 pj3 pj9 zz4 zz5 zz6 zz7 zz8;have hf':=hf.mono (C:=68719476736) (by decide);have h1:=hf.2.2.2.2.1.1;have h2:lG (f.1,f.2.1,f.2.2.1,f.2.2.2.1,f.2.2.2.2.1++[b],f.2.2.2.2.2.1,f.2.2.2.2.2.2.1,f.2.2.2.2.2.2.2.1,f.2.2.2.2.2.2.2.2)=some (lR (enq f b)):=aUv (f:=enq f b) (bSa hf hb);simp only[bE,aRh hf',aA,sQ,aG (b:=1) (n:=([]:List Int).length) (m:=b.length) (by decide) (by have :=hb.1;simp;omega),aG (b:=24) (n:=f.2.2.2.2.1.length) (m:=1) (by decide) (by omega),zZ,bXc,h2];cases lR (enq f b)<;>rfl
def dM(k:Int):Bool:=k==1||k==3
theorem aKt(k:Int):fP k=some (dM k):=by
 unfold fP dM;cases k==1<;>rfl
theorem aFv(k:Int):eD k=some (dM k):=by
 unfold eD dM;cases k==1<;>rfl
def pIn(p:den tPp)(h:den aR):Int:=if dM p.1 then h.2.2.1 else h.2.1
def pEg(p:den tPp)(h:den aR):Int:=if dM p.1 then h.2.1 else h.2.2.1
theorem vO{n:Nat}(h:n<=68719476736):wr ((n:Int) - 1)=(n:Int) - 1:=wri (by omega) (by omega)
theorem aLf{k n:Nat}(h:k<n):inR (k:Int) 0 ((n:Int) - 1)=true:=by rw[aI];omega
theorem bBd{p:den tPp}{k:Nat}{h:den aR}(hk:p.2.2.2[k]? =some h)(hl:p.2.2.2.length<=68719476736):fH p (k:Int)=some (pIn p h):=by
 have hlt:k<p.2.2.2.length:=(bWn.1 hk).1;unfold fH pIn;simp only[kN,vO hl,aLf hlt,aA,bWw,zY,aKt,aO,hk];cases dM p.1<;>rfl
theorem bOj{p:den tPp}{k:Nat}{h:den aR}(hk:p.2.2.2[k]? =some h)(hl:p.2.2.2.length<=68719476736):iE p (k:Int)=some (pIn p h):=by
 have hlt:k<p.2.2.2.length:=(bWn.1 hk).1;unfold iE pIn;simp only[qH,vO hl,aLf hlt,aA,bWw,zY,aFv,aO,hk];cases dM p.1<;>rfl
theorem bC7{p:den tPp}{k:Nat}{h:den aR}(hk:p.2.2.2[k]? =some h)(hl:p.2.2.2.length<=68719476736):fQ p (k:Int)=some (pEg p h):=by
 have hlt:k<p.2.2.2.length:=(bWn.1 hk).1;unfold fQ pEg;simp only[kN,vO hl,aLf hlt,aA,bWw,zY,aKt,aO,hk];cases dM p.1<;>rfl
theorem bNj{p:den tPp}{k:Nat}{h:den aR}(hk:p.2.2.2[k]? =some h)(hl:p.2.2.2.length<=68719476736):iF p (k:Int)=some (pEg p h):=by
 have hlt:k<p.2.2.2.length:=(bWn.1 hk).1;unfold iF pEg;simp only[qH,vO hl,aLf hlt,aA,bWw,zY,aFv,aO,hk];cases dM p.1<;>rfl
def pY(nf:Bool)(p:den tPp)(i:Nat)(h:den aR)(out:cD):cD:=
 match out.getLast? with
 | some z=>if nf&&(decide (i=0)&&z.1==h.1) then out.dropLast++[(h.1,z.2.1,pEg p h)] else out++[(h.1,pIn p h,pEg p h)]
 | none=>out++[(h.1,pIn p h,pEg p h)]
theorem aMg(nf:Bool)(p:den tPp)(i:Nat)(h:den aR)(out:cD):(pY nf p i h out).length<=out.length+1:=by
 unfold pY;split
 .split
  .simp only[bW9,List.length_dropLast,bX5];omega
  .simp
 .simp
def iA(nf:Bool)(p:den tPp)(a:cD):cD:=bN (λi h b=>pY nf p i h b) 0 p.2.2.2 a
def wB(p:den tPt):cD:=bN (λk x a=>iA (decide (0<k)) x a) 0 p []
def aB3(l:cD):cD:=
 match l with
 | []=>[]
 | x::xs=>let m:=(x.1,0,x.2.2)::xs
  match m.getLast? with
  | some y=>m.dropLast++[(y.1,y.2.1,0)]
  | none=>[]
def fC(p:den tPt):cD:=aB3 (wB p)
theorem bK4(l:cD):(aB3 l).length=l.length:=by
 unfold aB3;split
 .rfl
 .rename_i x xs;simp only;rw[List.getLast?_eq_some_getLast (by simp)];simp
theorem aHu(p:den tPt):(p.map λx=>x.2.2.2.length).sum<=tot tPt p:=by
 show _<=tot (.sl tPp) p;rw[<- aP2]
 induction p with
 | nil=>exact bWx _
 | cons x p ih=>
  simp only[bW2,bX3];have h1:x.2.2.2.length<=tot tPp x:=by
   show _<=tot ti x.1+(tot ti x.2.1+(tot ti x.2.2.1+tot (.sl aR) x.2.2.2));rw[jH rfl];omega
  omega
theorem aU5{n:Nat}(h:n<=68719476736)(h0:0<n):wr ((n:Int) - 1)=((n - 1:Nat):Int):=by
 rw[vO h];omega
theorem aFp{α:Type}{m:List α}{z:α}(h:(m++[z]).length<=68719476736):wr (((m++[z]).length:Int) - 1)=(m.length:Int):=by
 rw[aU5 h (by simp)];simp
theorem aJm(nf:Bool)(p:den tPp)(a:cD):(iA nf p a).length<=a.length+p.2.2.2.length:=by
 have :=yF (m:=bW0) (cost:=λ_=>1) (λi h b=>aMg nf p i h b) p.2.2.2 0 a;rw[fK]at this;exact this
theorem aH3(p:den tPt):(wB p).length<=tot tPt p:=by
 have :=yF (m:=bW0) (cost:=λx:den tPp=>x.2.2.2.length) (λk x a=>aJm (decide (0<k)) x a) p 0 [];have h2:=aHu p;have h3:(wB p).length<=0+(p.map λx=>x.2.2.2.length).sum:=this;omega
theorem aA6(p:den tPt):(fC p).length<=tot tPt p:=by
 unfold fC;rw[bK4];exact aH3 p
theorem bAh(k:Nat):decide ((k:Int)>0)=decide (0<k):=by rw[bXj];simp
theorem aVe(i:Nat):((i:Int)==0)=decide (i=0):=by rw[bXj];simp
theorem aUw(nf:Bool)(p:den tPp)(i:Nat)(h:den aR):pY nf p i h []=[(h.1,pIn p h,pEg p h)]:=rfl
theorem aS7(nf:Bool)(p:den tPp)(i:Nat)(h:den aR)(m:cD)(z:den kY):pY nf p i h (m++[z])=if nf&&(decide (i=0)&&z.1==h.1) then m++[(h.1,z.2.1,pEg p h)] else (m++[z])++[(h.1,pIn p h,pEg p h)]:=by
 unfold pY;rw[bYi,bYs]
theorem aSo{m:cD}{x z:den kY}{xs:cD}(h:(x.1,(0:Int),x.2.2)::xs=m++[z]):aB3 (x::xs)=m++[(z.1,z.2.1,0)]:=by
 unfold aB3;simp only;rw[h,bYi,bYs]
theorem aQc{p:den tPt}(h:tot tPt p<=34359738368):jU p=some (fC p):=by
 have hs:=aHu p;have sm:SmB 34359738368 tPt p:=cF h;have hl:=aH3 p;unfold jU ixb pj4;rw[mJ (λk (a:cD)=>((k:Int),a)) ((0:Int),[]) [] p (λk x a=>iA (decide (0<k)) x a) bW0 (λx=>x.2.2.2.length) 34359738368 id rfl (bWk sm.1 (by decide)) (by simp only[bYc];omega) (λk x a=>aJm _ x a) (λk x a hi hx hd hw hk hb=>by
  have hxl:x.2.2.2.length<=34359738368:=(sm.2 x (bWu hx)).2.2.2.1;simp only[hd,hi,hw,zZ,aA];rw[mJ (λi (b:cD)=>((i:Int),b)) ((0:Int),a) a x.2.2.2 (λi h b=>pY (decide (0<k)) x i h b) bW0 (λ_=>1) 34359738368 id rfl (bWk hxl (by decide)) (by rw[fK];exact hb) (λi h b=>aMg _ x i h b) (λi g b hi2 hg hd2 hw2 hk2 hb2=>by
   have hl2:x.2.2.2.length<=68719476736:=by omega
   simp only[hd2,hi2,hw2,zZ,aA,bE,bBd hg hl2,bC7 hg hl2,bAh,aVe,aG (b:=24) (n:=b.length) (m:=1) (by decide) (by omega)];rcases fI b with rfl | ⟨m,z,rfl⟩
   .rw[aUw];cases decide (0<k)<;>cases decide (i=0)<;>rfl
   .rw[aS7,aFp (by omega)];simp only[eE,aM7,aFy,aHi,zZ,bWs,aA,aMa];cases decide (0<k)<;>cases decide (i=0)<;>cases hz:z.1==g.1<;>simp[hz];simpa using hz) (λb=>by simp)]
  rfl) (λa=>by simp)]
 simp only[aA,id];rw[show bN (λk x a=>iA (decide (0<k)) x a) 0 p []=wB p from rfl];show _=some (aB3 (wB p));generalize wB p=l at hl;cases l with
 | nil=>rfl
 | cons x xs=>
  have e1:decide ((((x::xs).length:Nat):Int)>0)=true:=by simp
  have e2:decide ((0:Int)<(((x::xs).length:Nat):Int))=true:=by simp
  have e3:(0:Int).toNat=0:=rfl;have e4:decide ((0:Int)<=0)=true:=rfl;simp only[e1,e2,e3,e4,zZ,bZy,aA,List.set_cons_zero];rcases fI ((x.1,(0:Int),x.2.2)::xs) with h0 | ⟨m,z,hm⟩
  .cases h0
  .have hlen:((x.1,(0:Int),x.2.2)::xs).length=(x::xs).length:=rfl;rw[aSo hm];rw[hm]at hlen ⊢;rw[aFp (by omega)];simp only[eE,aFy,aHi,zZ,bWs,aA,aMa]
theorem aKu{p:den tPt}(h:tot tPt p<=34359738368):jY p=some (fC p):=by
 have hs:=aHu p;have sm:SmB 34359738368 tPt p:=cF h;have hl:=aH3 p;unfold jY ixb pj4;rw[mJ (λk (a:cD)=>((k:Int),a)) ((0:Int),[]) [] p (λk x a=>iA (decide (0<k)) x a) bW0 (λx=>x.2.2.2.length) 34359738368 id rfl (bWk sm.1 (by decide)) (by simp only[bYc];omega) (λk x a=>aJm _ x a) (λk x a hi hx hd hw hk hb=>by
  have hxl:x.2.2.2.length<=34359738368:=(sm.2 x (bWu hx)).2.2.2.1;simp only[hd,hi,hw,zZ,aA];rw[mJ (λi (b:cD)=>((i:Int),b)) ((0:Int),a) a x.2.2.2 (λi h b=>pY (decide (0<k)) x i h b) bW0 (λ_=>1) 34359738368 id rfl (bWk hxl (by decide)) (by rw[fK];exact hb) (λi h b=>aMg _ x i h b) (λi g b hi2 hg hd2 hw2 hk2 hb2=>by
   have hl2:x.2.2.2.length<=68719476736:=by omega
   simp only[hd2,hi2,hw2,zZ,aA,bE,bOj hg hl2,bNj hg hl2,cC,eG,dC,dA,dH,bAh,aVe];rcases fI b with rfl | ⟨m,z,rfl⟩
   .rw[aUw];cases decide (0<k)<;>cases decide (i=0)<;>rfl
   .rw[aS7,aFp (by omega)];have e1:decide (((m++[z]).length:Int)>0)=true:=by simp
    have e2:cQ (0:Int) (m.length:Int) ((m++[z]).length:Int)=true:=by simp[cQ];omega
    have e3:(m++[z]).take m.length=m:=by simp
    have e4:=aG (b:=24) (n:=m.length) (m:=1) (by decide) (by simp at hb2;omega);have e5:=aG (b:=24) (n:=m.length+1) (m:=1) (by decide) (by simp at hb2;omega);simp only[eE,e1,e2,e3,aFy,aHi,zZ,bWs,aA];cases decide (0<k)<;>cases decide (i=0)<;>cases hz:z.1==g.1<;>simp[hz,e4,e5]) (λb=>by simp[hi])]
  rfl) (λa=>by simp)]
 simp only[aA,id];rw[show bN (λk x a=>iA (decide (0<k)) x a) 0 p []=wB p from rfl];show _=some (aB3 (wB p));generalize wB p=l at hl;cases l with
 | nil=>rfl
 | cons x xs=>
  have e1:decide ((((x::xs).length:Nat):Int)>0)=true:=by simp
  have e2:decide ((0:Int)<(((x::xs).length:Nat):Int))=true:=by simp
  have e3:(0:Int).toNat=0:=rfl;have e4:decide ((0:Int)<=0)=true:=rfl;have e5:decide (0<(x::xs).length)=true:=by simp
  simp only[e1,e2,e3,e4,e5,zZ,bZy,aA,List.set_cons_zero];rcases fI ((x.1,(0:Int),x.2.2)::xs) with h0 | ⟨m,z,hm⟩
  .cases h0
  .have hlen:((x.1,(0:Int),x.2.2)::xs).length=(x::xs).length:=rfl;rw[aSo hm];rw[hm]at hlen ⊢;rw[aFp (by omega)];have e6:decide (m.length<(m++[z]).length)=true:=by simp
   simp only[eE,aFy,aHi,e6,zZ,bWs,aA,aMa]
def ends(p:den tPt):q17:=
 match (fC p).head?,(fC p).getLast? with
 | some x,some y=>(x.1,y.1)
 | _,_=>(-1,-1)
theorem bSy{p:den tPt}(h:tot tPt p<=34359738368):qS p=some (ends p):=by
 unfold qS ends ixb;have hl:=aA6 p;rw[aQc h,aA];generalize fC p=l at hl;rcases fI l with rfl | ⟨m,z,rfl⟩
 .rfl
 .rw[aFp (by omega)];have e1:(((m++[z]).length:Int)==0)=false:=by simp<;>omega
  have e2:decide ((0:Int)<((m++[z]).length:Int))=true:=by simp<;>omega
  have e3:decide ((0:Int)<=0)=true:=rfl;rw[e1,e2,e3,eE,aFy,bYi];cases m with
  | nil=>rfl
  | cons x m=>simp
def pkR(p:den tPk):q4:=(p.1,p.2.1,p.2.2.1,p.2.2.2.2.1,p.2.2.2.2.2.1,p.2.2.2.2.2.2.1,p.2.2.2.2.2.2.2.1,p.2.2.2.2.2.2.2.2.1,p.2.2.2.1,p.2.2.2.2.2.2.2.2.2)
def bVh(p:den tPt):Int:=match p with
 | []=>0
 | x::_=>x.2.2.1
def bU(kind:Int)(p:den tPt)(res seq:Int)(pay:List Int):den tPk:=(kind,(ends p).1,(ends p).2,p,0,0,bVh p,res,seq,pay)
theorem aRb{kind res seq:Int}{p:den tPt}{pay:List Int}(h:tot tPt p<=34359738368)(hp:pay.length<=68719476736):kB kind p res seq pay=some (pkR (bU kind p res seq pay)):=by
 unfold kB zz4 zz5 zz6 zz7;rw[aKs ((cF h).mono (by decide)),aF1 hp,bSy h];simp only[aA];cases p with
 | nil=>rfl
 | cons x p=>
  have e1:decide (((x::p).length:Int)>0)=true:=by simp
  rw[e1];rfl
def wV(k:Int):Int:=if k=1 then 4 else if k=4 then 1 else if k=2 then 3 else if k=3 then 2 else k
theorem bUo(k:Int):nJ k=some (wV k):=by
 unfold nJ wV
 by_cases h1:k=1
 .subst h1;rfl
 by_cases h2:k=4
 .subst h2;rfl
 by_cases h3:k=2
 .subst h3;rfl
 by_cases h4:k=3
 .subst h4;rfl
 have b1:(k==1)=false:=by simpa using h1
 have b2:(k==4)=false:=by simpa using h2
 have b3:(k==2)=false:=by simpa using h3
 have b4:(k==3)=false:=by simpa using h4
 rw[b1,b2,b3,b4,zS h1,zS h2,zS h3,zS h4];rfl
def eH(n:Int):Bool:=inR n 0 2147483646
theorem aCt(n:Int):dF n=some (eH n):=by unfold dF eH;rw[kN];rfl
theorem aC0(n:Int):oA n=some (eH n):=by unfold oA eH;rw[qH];rfl
def wW(b s:Int):Int:=if eH b&&eH s then bXa (wr (b+s)) 2147483647 else 0
def wJ(b s:Int):Int:=if eH b&&eH s then bXa (wr ((wr (b - s))+2147483647)) 2147483647 else 0
theorem bF8(b s:Int):tQ b s=some (wW b s):=by
 unfold tQ wW;simp only[aCt,aA];cases eH b<;>cases eH s<;>rfl
theorem aU8(b s:Int):tX b s=some (wW b s):=by
 unfold tX wW;simp only[aC0,aA];cases eH b<;>cases eH s<;>rfl
theorem bFw(b s:Int):tT b s=some (wJ b s):=by
 unfold tT wJ;simp only[aCt,aA];cases eH b<;>cases eH s<;>rfl
theorem bSj(b s:Int):vZ b s=some (wJ b s):=by
 unfold vZ wJ;simp only[aC0,aA];cases eH b<;>cases eH s<;>rfl
def nE(k:Int)(b:Int)(h:den aR):Int:=if dM k then wJ b h.2.2.2.2 else wW b h.2.2.2.2
def bW(p:den tPp)(n:Nat):Int:=(p.2.2.2.take n).foldl (nE p.1) p.2.2.1
theorem bQm{p:den tPp}{n:Nat}(hn:n<=p.2.2.2.length)(hl:p.2.2.2.length<=68719476736):qT p (n:Int)=some (bW p n):=by
 unfold qT bW zz4;have e1:inR (n:Int) 0 (p.2.2.2.length:Int)=true:=by rw[aI];omega
 have e2:cQ (0:Int) (n:Int) (p.2.2.2.length:Int)=true:=by simp[cQ];omega
 rw[kN,e1,aA,e2,jP];have hlen:(p.2.2.2.take n).length<=4611686018427387904:=by rw[bXw];omega
 rw[mJ (λk (b:Int)=>(b,(k:Int))) (p.2.2.1,(0:Int)) p.2.2.1 (p.2.2.2.take n) (λ_ h b=>nE p.1 b h) (λ_=>0) (λ_=>0) 0 id rfl hlen (by rw[sum_nil];exact bWx _) (λ_ _ _=>bWx _) (λk x b hi hx hd hw hk hb=>by
  simp only[hd,hi,hw,zZ,aA,aKt,bFw,bF8,nE];cases dM p.1<;>rfl) (λb=>by simp),tZ (λb h=>nE p.1 b h)]
 rfl
theorem aZp{p:den tPp}{n:Nat}(hn:n<=p.2.2.2.length)(hl:p.2.2.2.length<=68719476736):lB p (n:Int)=some (bW p n):=by
 unfold lB bW zz4;have e1:inR (n:Int) 0 (p.2.2.2.length:Int)=true:=by rw[aI];omega
 have e3:(p.2.2.2.take n).length=n:=by rw[bXw];omega
 rw[qH,e1,aA];rw[mJ (λk (b:Int)=>(b,(k:Int))) (p.2.2.1,(0:Int)) p.2.2.1 (p.2.2.2.take n) (λ_ h b=>nE p.1 b h) (λ_=>0) (λ_=>0) 0 id rfl (by rw[e3];omega) (by rw[sum_nil];exact bWx _) (λ_ _ _=>bWx _) (λk x b hi hx hd hw hk hb=>by
  have hx':p.2.2.2[k]? =some x:=by rw[List.getElem?_take]at hx;split at hx;exact hx;cases hx
  rw[e3]at hd;simp only[hd,hw,zZ,aA,aO,hx',aFv,bSj,aU8,nE];cases dM p.1<;>rfl) (λb=>by rw[e3];simp),tZ (λb h=>nE p.1 b h)]
 rfl
def dN(p:den tPp):den tPp:=(wV p.1,p.2.1,bW p p.2.2.2.length,p.2.2.2.reverse)
theorem bTa{l:dE}(hl:l.length<=68719476736):mB l=some l.reverse:=by
 unfold mB pj5;have e:wr ((l.length:Int) - 1)=(l.length:Int) - 1:=vO hl;rw[e,bN5 (λk (a:dE)=>(k,a)) ((l.length:Int) - 1,[]) [] l (λx a=>a++[x]) bW0 (λ_=>1) 68719476736 id rfl (by omega) (by rw[fK];simpa using hl) (λx a=>by simp) (λk x a hi hx hd hw hk hb=>by
  simp only[hd,hi,hw,zZ,aA,bE,aG (b:=40) (n:=a.length) (m:=1) (by decide) hb]) (λa=>by simp),aIz (λx=>x)]
 simp
theorem bRh{p:den tPp}(hl:p.2.2.2.length<=68719476736):nM p=some (dN p):=by
 unfold nM dN pj4;simp only[bUo,bE,bQm (bWx _) hl,bTa hl,aA]
def cH(p:den tPt):den tPt:=p.reverse.map dN
theorem bFx{p:den tPt}(h:SmB 68719476736 tPt p):jV p=some (cH p):=by
 unfold jV cH pj4;have e:wr ((p.length:Int) - 1)=(p.length:Int) - 1:=vO h.1;rw[e,bN5 (λk (a:lPp)=>(k,a)) ((p.length:Int) - 1,[]) [] p (λx a=>a++[dN x]) bW0 (λ_=>1) 68719476736 id rfl (by have :=h.1;omega) (by rw[fK];simpa using h.1) (λx a=>by simp) (λk x a hi hx hd hw hk hb=>by
  have hxl:=(h.2 x (bWu hx)).2.2.2.1;simp only[hd,hi,hw,zZ,aA,bE,bRh hxl,aG (b:=48) (n:=a.length) (m:=1) (by decide) hb]) (λa=>by simp),aIz dN]
 simp
theorem bF6(p:den tPp):tot tPp (dN p)=tot tPp p:=by
 show tot ti _+(tot ti _+(tot ti _+tot (.sl aR) p.2.2.2.reverse))=tot ti _+(tot ti _+(tot ti _+tot (.sl aR) p.2.2.2));rw[aRc];rfl
theorem aNu{t:Ty}(g:den t->den t)(hg:∀x,tot t (g x)=tot t x):∀l:List (den t),tot (.sl t) (l.map g)=tot (.sl t) l
 | []=>rfl
 | x::l=>by rw[bW2,iU,iU,hg,aNu g hg l]
theorem aIb(p:den tPt):tot tPt (cH p)=tot tPt p:=by
 show tot (.sl tPp) (p.reverse.map dN)=tot (.sl tPp) p;rw[aNu dN bF6,aRc]
def aTy(pk:den tPk)(kind seq:Int)(pay:List Int):den tPk:=bU kind (cH pk.2.2.2.1) pk.2.2.2.2.2.2.2.1 seq pay
theorem bRk{pk:den tPk}{kind seq:Int}{pay:List Int}(h:tot tPt pk.2.2.2.1<=34359738368)(hp:pay.length<=68719476736):yN pk kind seq pay=some (pkR (aTy pk kind seq pay)):=by
 unfold yN aTy bQ zz7;rw[bFx ((cF h).mono (by decide)),aA,aRb (by rw[aIb];exact h) hp];rfl
def pk0:den tPk:=(0,0,0,[],0,0,0,0,0,[])
def pkB(p:den tPk)(b:Bool):q10:=(p.1,p.2.1,p.2.2.1,p.2.2.2.2.1,p.2.2.2.2.2.1,p.2.2.2.2.2.2.1,p.2.2.2.2.2.2.2.1,p.2.2.2.2.2.2.2.2.1,b,p.2.2.2.1,p.2.2.2.2.2.2.2.2.2)
def wU(x:den tIb)(p:den tPk):Bool:=sA x p&& !decide (p.2.2.2.2.2.2.2.2.1>=x.2.2.1)
def kR(x:den tIb)(p:den tPk):den tPk:=if wU x p then aTy p 2 p.2.2.2.2.2.2.2.2.1 [] else pk0
theorem bPo{x:den tIb}{p:den tPk}(h:tot tPt p.2.2.2.1<=34359738368):tL x p=some (pkB (kR x p) (wU x p)):=by
 unfold tL kR wU bQ pj2 pj4 zz4 zz5 zz6 zz7 zz8;simp only[bE,aY0,aA,bRk (pay:=[]) h (by simp)];cases sA x p<;>cases decide (p.2.2.2.2.2.2.2.2.1>=x.2.2.1)<;>rfl
def sends(f:den tFl):Bool:=inR f.2.2.2.2.2.2.1 0 ((f.2.2.2.2.2.1.length:Int) - 1)&&inR f.2.2.2.1 0 ((f.2.2.2.2.1.length:Int) - 1)
def kG(f:den tFl):den tPk:=
 if sends f then bU 1 ((f.2.2.2.2.2.1[f.2.2.2.2.2.2.1.toNat]?).getD []) f.2.2.1 f.2.2.2.1 ((f.2.2.2.2.1[f.2.2.2.1.toNat]?).getD []) else pk0
theorem aVn{t:Ty}{l:List (den t)}{d:den t}{i:Nat}(hd:tot t d=0):tot t ((l[i]?).getD d)<=tot (.sl t) l:=by
 cases h:l[i]? with
 | none=>simp[hd]
 | some x=>have :=yK h;simp;omega
theorem aY5{f:den tFl}(h:tot tFl f<=34359738368):eJ f=some (pkB (kG f) (sends f)):=by
 have h0:=cM (cM (cM (cM h)));have hm:=aOn h0;have hp:=aOn (cM h0);have l1:=iN f.2.2.2.2.1;have l2:=iN f.2.2.2.2.2.1;unfold eJ kG sends pj2 zz4 zz5 zz6 zz7 zz8;simp only[kN,vO (n:=f.2.2.2.2.2.1.length) (by omega),vO (n:=f.2.2.2.2.1.length) (by omega),aA];cases c1:inR f.2.2.2.2.2.2.1 0 ((f.2.2.2.2.2.1.length:Int) - 1) with
 | false=>rfl
 | true=>
  cases c2:inR f.2.2.2.1 0 ((f.2.2.2.2.1.length:Int) - 1) with
  | false=>rfl
  | true=>
   rw[aI]at c1 c2;rw[bHh c1.1 (by omega),bHh c2.1 (by omega)];have e1:f.2.2.2.2.2.1[f.2.2.2.2.2.2.1.toNat]? =some (f.2.2.2.2.2.1[f.2.2.2.2.2.2.1.toNat]'(by omega)):=bWl (by omega);have e2:f.2.2.2.2.1[f.2.2.2.1.toNat]? =some (f.2.2.2.2.1[f.2.2.2.1.toNat]'(by omega)):=bWl (by omega);have t1:=yK e1;have t2:=yK e2;have t3:=iN (t:=tb) (f.2.2.2.2.1[f.2.2.2.1.toNat]'(by omega));simp only[aA,bWw,zY];rw[aRb (by omega) (by have t2:1+tot (.sl tb) _<=_:=t2;omega),e1,e2];rfl
def nW(f:den tFl):Int:=if wr (f.2.2.2.2.2.2.1+1)>=(f.2.2.2.2.2.1.length:Int) then 0 else wr (f.2.2.2.2.2.2.1+1)
def setCW(f:den tFl)(c w:Int):den tFl:=(f.1,f.2.1,f.2.2.1,f.2.2.2.1,f.2.2.2.2.1,f.2.2.2.2.2.1,c,w,f.2.2.2.2.2.2.2.2)
theorem aEw(f:den tFl)(c w:Int):tot tFl (setCW f c w)=tot tFl f:=rfl
def aF(f:den tFl):den tFl×den tPk×Bool:=
 if sends f then
  if f.2.2.2.2.2.2.2.1==0 then (setCW f f.2.2.2.2.2.2.1 1,kG f,true)
  else if f.2.2.2.2.2.2.2.1==4 then (setCW f (nW f) 1,kG (setCW f (nW f) 1),sends (setCW f (nW f) 1))
  else (setCW f f.2.2.2.2.2.2.1 (wr (f.2.2.2.2.2.2.2.1+1)),pk0,false)
 else (setCW f f.2.2.2.2.2.2.1 0,pk0,false)
def oS(f:den tFl)(p:den tPk)(b:Bool):q15:=
 (f.1,f.2.1,f.2.2.1,f.2.2.2.1,f.2.2.2.2.2.2.1,f.2.2.2.2.2.2.2.1,p.1,p.2.1,p.2.2.1,p.2.2.2.2.1,p.2.2.2.2.2.1,p.2.2.2.2.2.2.1,p.2.2.2.2.2.2.2.1,p.2.2.2.2.2.2.2.2.1,b,f.2.2.2.2.1,f.2.2.2.2.2.1,f.2.2.2.2.2.2.2.2,p.2.2.2.1,p.2.2.2.2.2.2.2.2.2)
theorem aZl(f:den tFl):oL f=some (nW f):=by
 unfold oL nW zz5 zz6
 by_cases h:wr (f.2.2.2.2.2.2.1+1)>=(f.2.2.2.2.2.1.length:Int)
 .rw[zX h,zT h];rfl
 .rw[zW h,zS h];rfl
theorem bPx{f:den tFl}(h:tot tFl f<=34359738368):sH f=some (oS (aF f).1 (aF f).2.1 (aF f).2.2):=by
 unfold sH aF pj2 pj9 dD eV eX qG aHo zz4 zz5 zz6 zz7 zz8 zz9;have e:eJ (f.1,f.2.1,f.2.2.1,f.2.2.2.1,f.2.2.2.2.1,f.2.2.2.2.2.1,nW f,1,f.2.2.2.2.2.2.2.2)=some (pkB (kG (setCW f (nW f) 1)) (sends (setCW f (nW f) 1))):=aY5 (f:=setCW f (nW f) 1) h;simp only[bE,aLa ((cF h).mono (by decide)),aY5 h,aZl,aA,cC,eG,dC,dA,dH,sQ,e];cases c1:sends f with
 | false=>simp only[pkB,bW1,zZ];rfl
 | true=>
  simp only[pkB,bWw,zY,zV];cases c2:f.2.2.2.2.2.2.2.1==0 with
  | true=>rfl
  | false=>
   cases c3:f.2.2.2.2.2.2.2.1==4 with
   | true=>rfl
   | false=>rfl
def cB(p:den tPk):Bool:=inR p.2.2.2.2.1 0 ((p.2.2.2.1.length:Int) - 1)&&inR p.2.2.2.2.2.1 0 (((((p.2.2.2.1[p.2.2.2.2.1.toNat]?).getD (0,0,0,[])).2.2.2.length:Nat):Int) - 1)
def bZ(p:den tPk):Int:=if cB p then ((((p.2.2.2.1[p.2.2.2.2.1.toNat]?).getD (0,0,0,[])).2.2.2[p.2.2.2.2.2.1.toNat]?).getD (0,0,0,0,0)).1 else -1
theorem aB8{p:den tPk}(h:cB p=true):∃(i j:Nat) (x:den tPp) (y:den aR),p.2.2.2.2.1=(i:Int)/\p.2.2.2.2.2.1=(j:Int)/\p.2.2.2.1[i]? =some x/\x.2.2.2[j]? =some y/\bZ p=y.1:=by
 have h':=h;unfold cB at h';simp only[bWj,aI]at h';obtain⟨⟨h1,h2⟩,h3,h4⟩:=h';obtain⟨x,hx⟩:=aDg h1 h2;rw[hx,bXo]at h4;obtain⟨y,hy⟩:=aDg h3 h4;refine⟨p.2.2.2.2.1.toNat,p.2.2.2.2.2.1.toNat,x,y,(bY3 h1).symm,(bY3 h3).symm,hx,hy,?_⟩;unfold bZ;rw[h,zT rfl,hx,bXo,hy,bXo]
theorem aG8{p:den tPk}(c:cB p=false):bZ p= -1:=by unfold bZ;rw[c];rfl
theorem bOb{p:den tPk}(h:SmB 68719476736 tPk p):uB p=some (cB p):=by
 unfold uB cB zz4 zz5;have l1:=h.2.2.2.1.1;rw[kN,vO l1,aA];cases c1:inR p.2.2.2.2.1 0 ((p.2.2.2.1.length:Int) - 1) with
 | false=>rfl
 | true=>
  rw[aI]at c1;obtain⟨x,hx⟩:=aDg c1.1 c1.2;rw[aVz c1.1 hx,hx];have l2:=(h.2.2.2.1.2 _ (bWu hx)).2.2.2.1;simp only[zZ,aA,kN,vO l2,bXo,bW4]
theorem aCu{p:den tPk}(h:SmB 68719476736 tPk p):dY p=some (bZ p):=by
 unfold dY bQ zz4 zz5;simp only[bE,bOb h,aA];cases c:cB p with
 | false=>rw[aG8 c];rfl
 | true=>
  obtain⟨i,j,x,y,h1,h2,h3,h4,h5⟩:=aB8 c;rw[h1,h2,h5];simp only[bWw,zY,aO,h3,h4,aA]
def aC1(p:den tPt)(i j:Nat):den tPt:=
 match p[i]? with
 | some x=>p.take i++[(x.1,x.2.1,x.2.2.1,x.2.2.2.take (j+1))]
 | none=>[]
def uI(p:den tPk):den tPt:=if bZ p<0 then [] else aC1 p.2.2.2.1 p.2.2.2.2.1.toNat p.2.2.2.2.2.1.toNat
theorem aUx{p:den tPk}(h:SmB 68719476736 tPk p):gF p=some (uI p):=by
 unfold gF uI bQ zz4 zz5;simp only[bE,aCu h,aA]
 by_cases hc:bZ p<0
 .rw[zX hc,zZ,zT hc]
 .rw[zW hc,zY,zS hc];cases c:cB p with
  | false=>rw[aG8 c]at hc;exact absurd (by decide) hc
  | true=>
   obtain⟨i,j,x,y,h1,h2,h3,h4,h5⟩:=aB8 c;have l1:=h.2.2.2.1.1;have l2:=(h.2.2.2.1.2 _ (bWu h3)).2.2.2.1;have hi:=(bWn.1 h3).1;have hj:=(bWn.1 h4).1;have e1:wr ((i:Int)+1)=((i+1:Nat):Int):=by have :wr ((i:Int)+1)=(i:Int)+1:=wri (by omega) (by omega);rw[this];rfl
   have e2:wr ((j:Int)+1)=((j+1:Nat):Int):=by have :wr ((j:Int)+1)=(j:Int)+1:=wri (by omega) (by omega);rw[this];rfl
   have e3:cQ (0:Int) ((i+1:Nat):Int) (p.2.2.2.1.length:Int)=true:=by simp[cQ];omega
   have e4:cQ (0:Int) ((j+1:Nat):Int) (x.2.2.2.length:Int)=true:=by simp[cQ];omega
   have e5:p.2.2.2.1.take (i+1)=p.2.2.2.1.take i++[x]:=aRz h3;have e6:(p.2.2.2.1.take i).length=i:=by rw[bXw];omega
   rw[h1,h2,e1,e2,aKs h.2.2.2.1,aA,e3,zZ];simp only[bWs,e5];have e7:decide ((i:Int)<((p.2.2.2.1.take i++[x]).length:Int))=true:=by simp;omega
   have e8:(p.2.2.2.1.take i++[x])[i]? =some x:=by rw[bY7 (by omega),e6];simp
   have e9:∀z,(p.2.2.2.1.take i++[x]).set i z=p.2.2.2.1.take i++[z]:=λz=>by rw[List.set_append_right _ _ (by omega),e6];simp
   simp only[eE,e7,e8,e4,e9,zZ,aA,jP,decide_true];unfold aC1;rw[h3]
theorem aYl(p:den tPt)(i j:Nat):tot tPt (aC1 p i j)<=tot tPt p:=by
 unfold aC1;cases h:p[i]? with
 | none=>exact bW3 _
 | some x=>
  have h1:tot tPt (p.take (i+1))<=tot tPt p:=aVj (t:=tPp) p (i+1);rw[aRz h]at h1;have h2:tot (.sl tPp) (p.take i++[x])<=tot (.sl tPp) p:=h1;show tot (.sl tPp) (p.take i++[(x.1,x.2.1,x.2.2.1,x.2.2.2.take (j+1))])<=tot (.sl tPp) p;rw[rF,aCw]at h2 ⊢;have h3:tot tPp (x.1,x.2.1,x.2.2.1,x.2.2.2.take (j+1))<=tot tPp x:=by
   have :=aVj (t:=aR) x.2.2.2 (j+1);show 0+(0+(0+tot (.sl aR) (x.2.2.2.take (j+1))))<=0+(0+(0+tot (.sl aR) x.2.2.2));omega
  omega
theorem aG3(p:den tPk):tot tPt (uI p)<=tot tPt p.2.2.2.1:=by
 unfold uI;split
 .exact bW3 _
 .exact aYl _ _ _
def vi:Nat->Nat->List Int
 | 0,n=>[(n:Int)]
 | k+1,n=>if n<128 then [(n:Int)] else (((n % 128+128:Nat):Int))::vi k (n / 128)
theorem bJm:∀(k n:Nat),(vi k n).length<=k+1
 | 0,n=>by simp[vi]
 | k+1,n=>by
  unfold vi;split
  .simp
  .have :=bJm k (n / 128);simp only[bXp];omega
theorem aLi{n:Nat}(h:n<256):IntKind.wrap .u8 (n:Int)=(n:Int):=by
 simp only[IntKind.wrap,IntKind.signed,IntKind.bits];simp;omega
theorem bS6:∀(k n:Nat) (out:List Int),n<128 ^ (k+1)->out.length+k+1<=68719476736->n<9223372036854775808->(@Option.bind q27 (lI) (@aC q27 q27 (λ(s4:Int×lI)=>cond (decide (s4.1>=(128:Int))) (cond (aP 1 s4.2.length 1) (some (Sum.inl (wr (Int.tdiv s4.1 (128:Int)),s4.2++[IntKind.wrap .u8 (wr ((bXa s4.1 (128:Int))+(128:Int)))]))) none) (some (bWh (s4.1,s4.2)))) ((n:Int),out)) λ(s5:Int×lI)=>cond (aP 1 s5.2.length 1) (some (s5.2++[IntKind.wrap .u8 s5.1])) none)=some (out++vi k n)
 | 0,n,out,hn,ho,hb=>by
  have hn:n<128:=by simpa using hn
  have e1:decide ((n:Int)>=128)=false:=by simp;omega
  rw[aW (r:=((n:Int),out)) (by simp only[e1,zY]),aA];simp only[aG (b:=1) (n:=out.length) (m:=1) (by decide) (by omega),zZ,aLi (n:=n) (by omega),vi]
 | k+1,n,out,hn,ho,hb=>by
  by_cases h:n<128
  .have e1:decide ((n:Int)>=128)=false:=by simp;omega
   rw[aW (r:=((n:Int),out)) (by simp only[e1,zY]),aA];simp only[aG (b:=1) (n:=out.length) (m:=1) (by decide) (by omega),zZ,aLi (n:=n) (by omega),vi,zT h]
  .have e1:decide ((n:Int)>=128)=true:=by simp;omega
   have hd:n / 128<128 ^ (k+1):=by rw[Nat.div_lt_iff_lt_mul (by decide)];rw[Nat.pow_succ]at hn;exact hn
   have e2:Int.tdiv (n:Int) 128=((n / 128:Nat):Int):=rfl;have e3:bXa (n:Int) 128=((n % 128:Nat):Int):=rfl;have e4:wr (((n % 128:Nat):Int)+128)=((n % 128+128:Nat):Int):=by
    have :wr (((n % 128:Nat):Int)+128)=((n % 128:Nat):Int)+128:=wri (by omega) (by omega);rw[this];rfl
   have e5:wr ((n / 128:Nat):Int)=((n / 128:Nat):Int):=wri (by omega) (by omega);rw[cU (s':=(((n / 128:Nat):Int),out++[((n % 128+128:Nat):Int)])) (by
    simp only[e1,zZ,aG (b:=1) (n:=out.length) (m:=1) (by decide) (by omega),e2,e3,e4,e5,aLi (n:=n % 128+128) (by omega)])]
   rw[bS6 k (n / 128) _ hd (by simp;omega) (by omega)];simp only[vi,zS h,List.append_assoc,List.singleton_append]
def aBy(b:List Int)(n:Int):List Int:=if inR n 0 1000000000000 then b++vi 5 n.toNat else b
theorem aXp(b:List Int)(n:Int):(aBy b n).length<=b.length+6:=by
 unfold aBy;split
 .have :=bJm 5 n.toNat;rw[bW9];omega
 .omega
theorem bTh{b:List Int}{n:Int}(h:b.length+6<=68719476736):mA b n=some (aBy b n):=by
 unfold mA aBy pj2;rw[aF1 (by omega),kN];cases c:inR n 0 1000000000000 with
 | false=>rfl
 | true=>
  rw[aI]at c;obtain⟨m,rfl⟩:=bXs c.1;have :=bS6 5 m b (by simp only[show (128:Nat) ^ (5+1)=4398046511104 from by decide];omega) (by omega) (by omega);exact this
def aKg(b l:List Int):List Int:=l.foldl aBy b
theorem bKq(b l:List Int):(aKg b l).length<=b.length+6 * l.length:=by
 unfold aKg
 induction l generalizing b with
 | nil=>simp
 | cons x l ih=>
  have h1:=ih (aBy b x);have h2:=aXp b x;simp only[bY1,bXp];omega
theorem bP2{α:Type}(l:List α):(l.map λ_=>6).sum=6 * l.length:=by
 induction l with
 | nil=>rfl
 | cons x l ih=>rw[bW2,bX3,ih,bXp];omega
theorem bSb{b l:List Int}(h:b.length+6 * l.length<=68719476736):oY b l=some (aKg b l):=by
 unfold oY aKg;rw[mJ (λk (a:List Int)=>(a,(k:Int))) (b,(0:Int)) b l (λ_ x a=>aBy a x) bW0 (λ_=>6) 68719476736 id rfl (by omega) (by rw[bP2];exact h) (λ_ x a=>aXp a x) (λk x a hi hx hd hw hk hb=>by
  simp only[hd,hi,hw,zZ,aA,bTh (b:=a) (n:=x) hb]) (λa=>by simp),tZ aBy]
 rfl
theorem bIk{l:List Int}(h:6 * l.length<=68719476736):pU l=some (aKg [] l):=by
 unfold pU;rw[bSb (by simpa using h)];rfl
def rI(x:den tRv):List Int:=if dJ x then aKg [] [x.1,x.2.1,x.2.2] else []
theorem aXe(x:den tRv):(rI x).length<=18:=by
 unfold rI;split
 .exact bKq [] [x.1,x.2.1,x.2.2]
 .simp
theorem bR2(x:den tRv):gV x=some (rI x):=by
 unfold gV rI pj3;rw[bIk (l:=[x.1,x.2.1,x.2.2]) (by simp)];simp only[bE,zP,aA];cases dJ x<;>rfl
def dI(r now d:Int)(p:den tPk):den tPk:=bU 3 (cH (uI p)) p.2.2.2.2.2.2.2.1 p.2.2.2.2.2.2.2.2.1 (rI (r,d,if 1000000<wr (now+10) then 1000000 else wr (now+10)))
theorem bQy{t:den tTo}{r now d:Int}{p:den tPk}(h:tot tPk p<=34359738368):hP t r now d p=some (pkR (dI r now d p)):=by
 have h1:tot tPt p.2.2.2.1<=34359738368:=aOn (cM (cM (cM h)));have h2:=aG3 p;have sm:SmB 68719476736 tPk p:=(cF h).mono (by decide);have h3:=aXe (r,d,if 1000000<wr (now+10) then 1000000 else wr (now+10));unfold hP dI bQ zz7 zz8;simp only[bE,bNw,aA,aUx sm];rw[bFx ((cF (bWk h2 h1)).mono (by decide)),aA,bR2,aA,aRb (by rw[aIb];omega) (by omega)];rfl
theorem aJ0{kind res seq:Int}{p:den tPt}{pay:List Int}:tot tPk (bU kind p res seq pay)=tot tPt p+tot (.sl tb) pay:=by
 show 0+(0+(0+(tot tPt p+(0+(0+(0+(0+(0+tot (.sl tb) pay))))))))=_;omega
theorem aRx(f:den tFl):tot tPk (kG f)<=tot tFl f:=by
 unfold kG;split
 .rw[aJ0];have h1:=aVn (t:=tPt) (l:=f.2.2.2.2.2.1) (d:=[]) (i:=f.2.2.2.2.2.2.1.toNat) rfl;have h2:=aVn (t:= .sl tb) (l:=f.2.2.2.2.1) (d:=[]) (i:=f.2.2.2.1.toNat) rfl;show _<=0+(0+(0+(0+(tot (.sl (.sl tb)) f.2.2.2.2.1+(tot (.sl tPt) f.2.2.2.2.2.1+(0+(0+tot (.sl tRv) f.2.2.2.2.2.2.2.2)))))));omega
 .exact bW3 _
theorem aLb{p:den tPk}{N:Nat}(h:tot tPk p<=N):tot (.sl tPp) p.2.2.2.1<=N/\tot (.sl tb) p.2.2.2.2.2.2.2.2.2<=N:=
 ⟨aOn (cM (cM (cM h))),cM (cM (cM (cM (cM (cM (cM (cM (cM h))))))))⟩
theorem aSa(x:den tIb)(p:den tPk):tot tPk (kR x p)<=tot tPk p:=by
 unfold kR;split
 .unfold aTy;rw[aJ0,aIb];have h:=(aLb (bWx (tot tPk p))).1;show tot (.sl tPp) p.2.2.2.1+0<=_;omega
 .exact bW3 _
theorem aRu(f:den tFl):tot tFl (aF f).1=tot tFl f/\tot tPk (aF f).2.1<=tot tFl f:=by
 unfold aF;split
 .split
  .exact⟨aEw f _ _,aRx f⟩
  .split
   .exact⟨aEw f _ _,aRx (setCW f (nW f) 1)⟩
   .exact⟨aEw f _ _,bW3 _⟩
 .exact⟨aEw f _ _,bW3 _⟩
theorem aRs(r now d:Int)(p:den tPk):tot tPk (dI r now d p)<=tot tPk p+18:=by
 unfold dI;rw[aJ0,aIb];have h1:=aG3 p;have h2:=(aLb (bWx (tot tPk p))).1;have h2:tot tPt p.2.2.2.1<=tot tPk p:=h2;have h3:=aXe (r,d,if 1000000<wr (now+10) then 1000000 else wr (now+10));have e:tot (.sl tb) (rI (r,d,if 1000000<wr (now+10) then 1000000 else wr (now+10)))=(rI (r,d,if 1000000<wr (now+10) then 1000000 else wr (now+10))).length:=jH rfl;rw[e];omega
def aE0{α β:Type}(p:α->β->Bool):List α->List β->Bool
 | x::xs,y::ys=>p x y&&aE0 p xs ys
 | _,_=>true
theorem aX2{α β R:Type}{a:List α}{b:List β}(p:α->β->Bool){step:Int->Option (Int⊕(Unit⊕R))}(ρ:R)(hlen:a.length=b.length)(hl:a.length<=4611686018427387904)
  (h:∀(k:Nat) (x:α) (y:β),x∈a->y∈b->idx a (k:Int)=some x->idx b (k:Int)=some y->decide ((k:Int)<(a.length:Int))=true->IntKind.i64.wrap ((k:Int)+1)=((k+1:Nat):Int)->step (k:Int)=some (cond (p x y) (.inl ((k+1:Nat):Int)) (.inr (.inr ρ))))
  (he:step (a.length:Int)=some (.inr (.inl ()))):aC step (0:Int)=some (cond (aE0 p a b) (.inl ()) (.inr ρ)):=by
 have key:∀(ra pa:List α) (rb pb:List β),pa++ra=a->pb++rb=b->pa.length=pb.length->aC step (pa.length:Int)=some (cond (aE0 p ra rb) (.inl ()) (.inr ρ)):=by
  intro ra
  induction ra with
  | nil=>intro pa rb pb h1 _ _;rw[bXh]at h1;subst h1;exact aW he
  | cons x ra ih=>
   intro pa rb pb h1 h2 h3;cases rb with
   | nil=>exfalso;have e1:=congrArg bW0 h1;have e2:=congrArg bW0 h2;simp at e1 e2;omega
   | cons y rb=>
    have hx:a[pa.length]? =some x:=by rw[<- h1];simp
    have hy:b[pa.length]? =some y:=by rw[<- h2,h3];simp
    have hlt:pa.length<a.length:=by rw[<- h1];simp
    have hs:=h pa.length x y (bWu hx) (bWu hy) (by rw[aO];exact hx) (by rw[aO];exact hy) (by simpa using hlt) (by rw[wri (by omega) (by omega)];omega);simp only[aE0];cases hp:p x y with
    | true=>rw[hp]at hs;rw[cU hs];have :=ih (pa++[x]) rb (pb++[y]) (by simpa using h1) (by simpa using h2) (by simp[h3]);simpa using this
    | false=>rw[hp]at hs;exact aW hs
 exact key a [] b [] rfl rfl rfl
theorem aFx{α:Type}(b:Bool)(x y:α):cond b (some x) (some y)=some (cond b x y):=by cases b<;>rfl
theorem bIi{β:Type}(c:Bool)(f:Unit->Option β)(r:β):Sum.elim f some (cond c (Sum.inl ()) (bWh r))=cond c (f ()) (some r):=by cases c<;>rfl
theorem bHq{α β:Type}(a:List α)(b:List β):((a.length:Int) != (b.length:Int))= !decide (a.length=b.length):=by
 rw[bXj];simp;omega
theorem bAg{α:Type}{p:Prop}[Decidable p]{x y z:α}(h:p->y=z):cond (!decide p) x y=cond (!decide p) x z:=by
 by_cases hp:p
 .rw[h hp]
 .simp[hp]
noncomputable def aPk(a b:dE):Bool:=cond (!decide (a.length=b.length)) false (cond (aE0 (λx y=>(x.1==y.1)&&((x.2.1==y.2.1)&&((x.2.2.1==y.2.2.1)&&((x.2.2.2.1==y.2.2.2.1)&&((x.2.2.2.2==y.2.2.2.2)&&true))))) a b) true false)
theorem bRe{a b:dE}(ha:a.length<=68719476736):iD a b=some (aPk a b):=by
 unfold iD aPk zz4;rw[bHq];rw[bAg (z:=some (cond (aE0 (λx y=>(x.1==y.1)&&((x.2.1==y.2.1)&&((x.2.2.1==y.2.2.1)&&((x.2.2.2.1==y.2.2.2.1)&&((x.2.2.2.2==y.2.2.2.2)&&true))))) a b) true false)) (λhlen=>by
  rw[aX2 (a:=a) (b:=b) (λx y=>(x.1==y.1)&&((x.2.1==y.2.1)&&((x.2.2.1==y.2.2.1)&&((x.2.2.2.1==y.2.2.2.1)&&((x.2.2.2.2==y.2.2.2.2)&&true))))) false hlen (bWk ha (by decide)) (λk x y mx my ix iy hd hw=>by
   simp only[hd,ix,iy,hw,zZ,aA,bE,bne];generalize ((x.1==y.1)&&((x.2.1==y.2.1)&&((x.2.2.1==y.2.2.1)&&((x.2.2.2.1==y.2.2.2.1)&&((x.2.2.2.2==y.2.2.2.2)&&true)))))=c;cases c<;>rfl) (by simp)]
  simp only[aA,bIi,aFx]),aFx]
noncomputable def aA7(a b:den tPp):Bool:=cond (a.1==b.1) (cond (a.2.1==b.2.1) (cond (a.2.2.1==b.2.2.1) (aPk a.2.2.2 b.2.2.2) false) false) false
theorem bJ6{a b:den tPp}(ha:SmB 68719476736 tPp a)(hb:SmB 68719476736 tPp b):oZ a b=some (aA7 a b):=by
 unfold oZ aA7;simp only[aA,aFx,bE,bRe ha.2.2.2.1]
noncomputable def zI(a b:lPp):Bool:=cond (!decide (a.length=b.length)) false (cond (aE0 (λx y=>aA7 x y) a b) true false)
theorem bQc{a b:lPp}(ha:SmB 68719476736 (.sl tPp) a)(hb:SmB 68719476736 (.sl tPp) b):nB a b=some (zI a b):=by
 unfold nB zI pj4;rw[bHq];rw[bAg (z:=some (cond (aE0 (λx y=>aA7 x y) a b) true false)) (λhlen=>by
  rw[aX2 (a:=a) (b:=b) (λx y=>aA7 x y) false hlen (bWk ha.1 (by decide)) (λk x y mx my ix iy hd hw=>by
   simp only[hd,ix,iy,hw,zZ,aA,bE,bJ6 (ha.2 x mx) (hb.2 y my)];generalize (aA7 x y)=c;cases c<;>rfl) (by simp)]
  simp only[aA,bIi,aFx]),aFx]
noncomputable def bVg(a b:List Int):Bool:=(wZ a).toList==(wZ b).toList
noncomputable def aO4(a b:den tPk):Bool:=cond (a.1==b.1) (cond (a.2.1==b.2.1) (cond (a.2.2.1==b.2.2.1) (cond (zI a.2.2.2.1 b.2.2.2.1) (cond (a.2.2.2.2.1==b.2.2.2.2.1) (cond (a.2.2.2.2.2.1==b.2.2.2.2.2.1) (cond (a.2.2.2.2.2.2.1==b.2.2.2.2.2.2.1) (cond (a.2.2.2.2.2.2.2.1==b.2.2.2.2.2.2.2.1) (cond (a.2.2.2.2.2.2.2.2.1==b.2.2.2.2.2.2.2.2.1) (bVg a.2.2.2.2.2.2.2.2.2 b.2.2.2.2.2.2.2.2.2) false) false) false) false) false) false) false) false) false
def aH4(b:List Int)(p:Nat):Nat->Nat->Nat->Int×Int×Bool
 | 0,_,_=>(0,0,false)
 | f+1,k,n=>match b[p+k]? with
  | none=>(0,0,false)
  | some x=>
   if x.toNat<128 then (if (decide (x.toNat=0)&&decide (0<k))||decide (1000000000000<n+x.toNat % 128 * 2 ^ (7 * k)) then (0,0,false) else (((n+x.toNat % 128 * 2 ^ (7 * k):Nat):Int),((p+k+1:Nat):Int),true))
   else aH4 b p f (k+1) (n+x.toNat % 128 * 2 ^ (7 * k))
theorem aZ2{k:Nat}(h:k<6):2 ^ (7 * k)<=34359738368:=bWk (Nat.pow_le_pow_right (by decide) (show 7 * k<=35 by omega)) (by decide)
theorem bGf{n c k:Nat}(h:n<2 ^ (7 * k))(hc:c<128):n+c * 2 ^ (7 * k)<2 ^ (7 * (k+1)):=by
 have e:2 ^ (7 * (k+1))=128 * 2 ^ (7 * k):=by rw[show 7 * (k+1)=7 * k+7 by omega,Nat.pow_add];omega
 have :c * 2 ^ (7 * k)<=127 * 2 ^ (7 * k):=bX1 _ (by omega);omega
theorem bQ0{c k:Nat}(hk:k<6)(hc:c<128):c * 2 ^ (7 * k)<=4398046511104:=bWk (Nat.mul_le_mul (show c<=128 by omega) (aZ2 hk)) (by decide)
theorem bRi{S:Type}(b:List Int)(p:Nat)(hb:∀x∈b,0<=x/\x<=255)(enc:Nat->Nat->S){step:S->Option (S⊕(Unit⊕q25))}
  (h0:∀n,step (enc 6 n)=some (.inr (.inl ())))
  (h1:∀k n,k<6->b[p+k]? =none->step (enc k n)=some (.inr (.inl ()))\/step (enc k n)=some (.inr (.inr (0,0,false))))
  (h2:∀k n (m:Nat),k<6->n<2 ^ (7 * k)->m<=255->b[p+k]? =some (m:Int)->step (enc k n)=some (if m<128 then .inr (.inr (if (decide (m=0)&&decide (0<k))||decide (1000000000000<n+m % 128 * 2 ^ (7 * k)) then (0,0,false) else (((n+m % 128 * 2 ^ (7 * k):Nat):Int),((p+k+1:Nat):Int),true))) else .inl (enc (k+1) (n+m % 128 * 2 ^ (7 * k))))):
  ∀f k n,f+k=6->n<2 ^ (7 * k)-> @Option.bind (Unit⊕q25) q25 (aC step (enc k n)) (λz=>Sum.elim (λ_=>some ((0:Int),(0:Int),false)) some z)=some (aH4 b p f k n):=by
 intro f
 induction f with
 | zero=>
  intro k n hk hn;have :k=6:=by omega
  subst this;rw[aW (h0 n)];rfl
 | succ f ih=>
  intro k n hk hn;have hk6:k<6:=by omega
  unfold aH4;cases hx:b[p+k]? with
  | none=>rcases h1 k n hk6 hx with h | h<;>rw[aW h]<;>rfl
  | some x=>
   obtain⟨x0,x1⟩:=hb x (bWu hx);obtain⟨m,rfl⟩:∃m:Nat,x=(m:Int):=⟨x.toNat,by omega⟩
   have hs:=h2 k n m hk6 hn (by omega) hx;simp only[bWs]
   by_cases hm:m<128
   .rw[zT hm]at hs ⊢;rw[aW hs];rfl
   .rw[zS hm]at hs ⊢;rw[cU hs];exact ih (k+1) _ (by omega) (bGf hn (Nat.mod_lt _ (by decide)))
theorem bPl{a c:Nat}(hc:c<=35)(h:a * 2 ^ c<=4398046511104):shl .i64 (a:Int) (c:Int)=((a * 2 ^ c:Nat):Int):=by
 unfold shl;have e:min ((c:Int)).toNat IntKind.i64.bits=c:=by simp[IntKind.bits];omega
 rw[e];have e2:(a:Int) * 2 ^ c=((a * 2 ^ c:Nat):Int):=by simp
 rw[e2];exact wri (by omega) (by omega)
theorem aUp{n:Nat}(h:n<256):IntKind.wrap .u64 (n:Int)=(n:Int):=by
 simp only[IntKind.wrap,IntKind.signed,IntKind.bits];simp;omega
def rv(b:List Int)(p:Nat):q25:=aH4 b p 6 0 0
theorem bIr(k:Nat):(7:Int) * (k:Int)=((7 * k:Nat):Int):=by omega
theorem bV0{b:List Int}{p:Nat}(hb:∀x∈b,0<=x/\x<=255)(hl:b.length<=68719476736)(hp:p<=b.length):pQ b (p:Int)=some (rv b p):=by
 unfold pQ;have e0:decide ((p:Int)<0)=false:=by simp
 rw[e0,zY];refine bRi b p hb (λk n=>(((p+k:Nat):Int),(n:Int),(k:Int))) (λn=>by simp) (λk n hk hx=> ?_) (λk n m hk hn hm hx=> ?_) 6 0 0 rfl (by simp)
 .left;have h1:decide (((p+k:Nat):Int)<(b.length:Int))=false:=by
   have :=List.getElem?_eq_none_iff.1 hx;simp;omega
  simp only[h1];cases decide ((k:Int)<6)<;>rfl
 .have h0:=(bWn.1 hx).1;have h1:decide (((p+k:Nat):Int)<(b.length:Int))=true:=by simp;omega
  have h2:decide ((k:Int)<6)=true:=by simp;omega
  have h3:idx b ((p+k:Nat):Int)=some (m:Int):=by rw[aO];exact hx
  have h4:wr ((7 * k:Nat):Int)=((7 * k:Nat):Int):=wri (by omega) (by omega);have h5:wr (m:Int)=(m:Int):=wri (by omega) (by omega);have h6:decide (((7 * k:Nat):Int)<0)=false:=by simp;omega
  have h7:bXa (m:Int) 128=((m % 128:Nat):Int):=rfl;have hq:=bQ0 (c:=m % 128) hk (Nat.mod_lt _ (by decide));have hr:=aZ2 hk;have h8:wr ((n:Int)+((m % 128 * 2 ^ (7 * k):Nat):Int))=((n+m % 128 * 2 ^ (7 * k):Nat):Int):=by
   generalize m % 128 * 2 ^ (7 * k)=q at hq;have :wr ((n:Int)+(q:Int))=(n:Int)+(q:Int):=wri (by omega) (by omega);rw[this];omega
  have h9:wr (((p+k:Nat):Int)+1)=((p+k+1:Nat):Int):=by
   have :wr (((p+k:Nat):Int)+1)=((p+k:Nat):Int)+1:=wri (by omega) (by omega);rw[this];omega
  have ha:wr ((k:Int)+1)=((k+1:Nat):Int):=by
   have :wr ((k:Int)+1)=(k:Int)+1:=wri (by omega) (by omega);rw[this];omega
  simp only[h1,h2,h3,zZ,aA,bIr,h4,aUp (n:=7 * k) (by omega),h6,zY,h5,h7,bPl (a:=m % 128) (c:=7 * k) (by omega) hq,h8,h9,ha];generalize n+m % 128 * 2 ^ (7 * k)=q
  by_cases c1:m<128
  .have e1:decide ((m:Int)<128)=true:=by simp;omega
   have e2:((m:Int)==0)=decide (m=0):=by rw[bXj];simp
   have e3:decide ((k:Int)>0)=decide (0<k):=by rw[bXj];simp
   have e4:decide ((q:Int)>1000000000000)=decide (1000000000000<q):=by rw[bXj];simp;omega
   simp only[e1,e2,e3,e4,zZ,zT c1];cases decide (m=0)<;>cases decide (0<k)<;>cases decide (1000000000000<q)<;>rfl
  .have e1:decide ((m:Int)<128)=false:=by simp;omega
   simp only[e1,zY,zS c1];rfl
theorem bAr{b:List Int}{p:Nat}:∀(f k n:Nat),(aH4 b p f k n).2.2=true-> ∃q:Nat,(aH4 b p f k n).2.1=(q:Int)/\q<=b.length
 | 0,k,n,h=>by cases h
 | f+1,k,n,h=>by
  unfold aH4 at h|-;cases hx:b[p+k]? with
  | none=>rw[hx]at h;cases h
  | some x=>
   rw[hx]at h;have hlt:=(bWn.1 hx).1;simp only at h|-
   by_cases c:x.toNat<128
   .rw[zT c]at h ⊢;split at h
    .cases h
    .rename_i c2;rw[zS c2];exact⟨p+k+1,rfl,hlt⟩
   .rw[zS c]at h ⊢;exact bAr f (k+1) _ h
theorem bOf{b:List Int}{p:Nat}(h:(rv b p).2.2=true):∃q:Nat,(rv b p).2.1=(q:Int)/\q<=b.length:=bAr 6 0 0 h
def aG9(b:List Int):Int×Bool×List Int:=
 cond (rv b 0).2.2 (cond (rv b (rv b 0).2.1.toNat).2.2 (cond (rv b (rv b (rv b 0).2.1.toNat).2.1.toNat).2.2
  ((rv b (rv b (rv b 0).2.1.toNat).2.1.toNat).2.1,true,[(rv b 0).1,(rv b (rv b 0).2.1.toNat).1,(rv b (rv b (rv b 0).2.1.toNat).2.1.toNat).1]) (0,false,[])) (0,false,[])) (0,false,[])
theorem bOq(b:List Int):aG9 b=(0,false,[])\/ ∃q x y z,aG9 b=(q,true,[x,y,z]):=by
 unfold aG9;cases (rv b 0).2.2
 .exact .inl rfl
 .cases (rv b (rv b 0).2.1.toNat).2.2
  .exact .inl rfl
  .cases (rv b (rv b (rv b 0).2.1.toNat).2.1.toNat).2.2
   .exact .inl rfl
   .exact .inr ⟨_,_,_,_,rfl⟩
theorem bL9{b:List Int}{step:Int×Int×List Int->Option ((Int×Int×List Int)⊕((Int×List Int)⊕(Int×Bool×List Int)))}
  (hs:∀(p:Nat) (i:Nat) (out:List Int),p<=b.length->i<3->out.length<=3->step ((p:Int),(i:Int),out)=some (cond (rv b p).2.2 (.inl ((rv b p).2.1,((i+1:Nat):Int),out++[(rv b p).1])) (.inr (.inr (0,false,[])))))
  (he:∀p out,step (p,3,out)=some (.inr (.inl (p,out)))):
  @Option.bind ((Int×List Int)⊕(Int×Bool×List Int)) (Int×Bool×List Int) (aC step ((0:Int),(0:Int),([]:List Int))) (λz=>Sum.elim (λs8=>some (s8.1,true,s8.2)) some z)=some (aG9 b):=by
 have h1:=hs 0 0 [] (bW3 _) (by decide) (by decide);unfold aG9;cases c1:(rv b 0).2.2 with
 | false=>rw[c1]at h1;rw[aW (s:=((0:Int),(0:Int),([]:List Int))) h1];rfl
 | true=>
  rw[c1]at h1;obtain⟨q1,e1,l1⟩:=bOf c1;rw[cU (s:=((0:Int),(0:Int),([]:List Int))) h1];rw[e1];simp only[zZ,bWs];have h2:=hs q1 (0+1) ([]++[(rv b 0).1]) l1 (by decide) (by simp);cases c2:(rv b q1).2.2 with
  | false=>rw[c2]at h2;rw[aW h2];rfl
  | true=>
   rw[c2]at h2;obtain⟨q2,e2,l2⟩:=bOf c2;rw[cU h2];rw[e2];simp only[zZ,bWs];have h3:=hs q2 (0+1+1) ([]++[(rv b 0).1]++[(rv b q1).1]) l2 (by decide) (by simp);cases c3:(rv b q2).2.2 with
   | false=>rw[c3]at h3;rw[aW h3];rfl
   | true=>
    rw[c3]at h3;rw[cU h3];rw[aW (s:=((rv b q2).2.1,((0+1+1+1:Nat):Int),[]++[(rv b 0).1]++[(rv b q1).1]++[(rv b q2).1])) (he _ _)];rfl
theorem bSi{b:List Int}(hb:∀x∈b,0<=x/\x<=255)(hl:b.length<=68719476736):pR b 0 3=some (aG9 b):=by
 unfold pR;have r1:inR 3 0 100=true:=by decide
 have r2:inR 0 0 (b.length:Int)=true:=by rw[aI];omega
 simp only[kN,aA,r1,r2,bWw,zY];refine bL9 (λp i out hp hi ho=> ?_) (λp out=>by simp);have e1:decide ((i:Int)<3)=true:=by simp;omega
 have e2:wr ((i:Int)+1)=((i+1:Nat):Int):=by
  have :wr ((i:Int)+1)=(i:Int)+1:=wri (by omega) (by omega);rw[this];omega
 simp only[e1,zZ,bV0 hb hl hp,aA,e2,aG (b:=8) (n:=out.length) (m:=1) (by decide) (by omega)];cases (rv b p).2.2<;>rfl
def sD(b:List Int):Int×q25:=
 match aG9 b with
 | (q,true,[x,y,z])=>cond (q==(b.length:Int)) (cond (dJ (x,y,z)) (x,y,z,true) (0,0,0,false)) (0,0,0,false)
 | _=>(0,0,0,false)
theorem bRz{b:List Int}(hb:∀x∈b,0<=x/\x<=255)(hl:b.length<=68719476736):gT b=some (sD b):=by
 unfold gT sD ixb;rw[bSi hb hl];rcases bOq b with h | ⟨q,x,y,z,h⟩
 .rw[h];rfl
 .rw[h];simp only[aA,bWw,zY,bne,zP];cases q==(b.length:Int)
  .rfl
  .cases hv:dJ (x,y,z)<;>simp[hv]
def aA0(x:den tRv)(l:lRv)(k:Nat)(y:den tRv):Option lRv:=
 cond (y.1==x.1) (cond (y.2.1==x.2.1) (some (l.set k (y.1,y.2.1,if x.2.2>y.2.2 then x.2.2 else y.2.2))) none) none
def aMq(l:lRv)(x:den tRv):lRv:=
 cond (dJ x) (match bL (aA0 x l) 0 l with
  | some r=>r
  | none=>if 16<l.length+1 then (l++[x]).drop 1 else l++[x]) l
theorem bP8{α:Type}{l:List α}(h:0<l.length):cut l (1:Int) (l.length:Int)=l.drop 1:=aXo (k:=1) h
theorem bLu(l:lRv)(x:den tRv):decide (((l++[x]).length:Int)>16)=decide (16<l.length+1):=by
 rw[bXj];simp;omega
theorem bTq{l:lRv}{x:den tRv}(h:l.length<=1073741824):kS l x=some (aMq l x):=by
 unfold kS aMq ixb pj3;rw[aRe (show l.length<=68719476736 by omega)];simp only[aA,bE,zP];cases hv:dJ x with
 | false=>rfl
 | true=>
  simp only[bWw,zY,zZ];rw[aU (l:=l) (aA0 x l) (by omega) (λk y hi hd hw hm hk=>by
   have hy:l[k]? =some y:=by rw[<- aO];exact hi
   simp only[hd,zZ,eE,bWs,hy,aA,bOn,hw];unfold aA0;cases y.1==x.1
   .rfl
   .cases y.2.1==x.2.1<;>rfl) (by simp)]
  cases bL (aA0 x l) 0 l with
  | some r=>rfl
  | none=>
   have e1:cQ (1:Int) ((l++[x]).length:Int) ((l++[x]).length:Int)=true:=by
    have :=aDc (a:=1) (b:=(l++[x]).length) (n:=(l++[x]).length);rw[show ((1:Nat):Int)=1 from rfl]at this;rw[this];simp
   have e2:=bP8 (l:=l++[x]) (by simp);simp only[aA,bYm,aG (b:=24) (n:=l.length) (m:=1) (by decide) (by omega),zZ,bLu,e1,e2,aRe (l:=(l++[x]).drop 1) (by simp;omega)]
   by_cases c:16<l.length+1
   .have c2:(16:Int)<(l.length:Int)+1:=by omega
    simp[c,c2]
   .have c2: ¬ (16:Int)<(l.length:Int)+1:=by omega
    simp[c,c2]
def aDl(s:den kY)(a:List Int):List Int:=
 (λb=>cond (s.2.2 != 0) (b++[wr (wr (8 * s.1)+s.2.2)]) b) (cond (s.2.1 != 0) (a++[wr (wr (8 * s.1)+s.2.1)]) a)
theorem aM1(s:den kY)(a:List Int):(aDl s a).length<=a.length+2:=by
 unfold aDl;cases s.2.1 != 0<;>cases s.2.2 != 0<;>simp
def cS(p:den tPt):List Int:=bN (λ_ s a=>aDl s a) 0 (fC p) []
theorem aCx{α:Type}(l:List α):(l.map λ_=>2).sum=2 * l.length:=by
 induction l with
 | nil=>rfl
 | cons x l ih=>simp only[bW2,bX3,ih,bXp];omega
theorem bAa{p:den tPt}(h:tot tPt p<=1073741824):fU p=some (cS p):=by
 have hl:=aA6 p;unfold fU vB cS;rw[aQc (bWk h (by decide))];simp only[aA];rw[mJ (λk (a:List Int)=>((k:Int),a)) ((0:Int),[]) [] (fC p) (λ_ s a=>aDl s a) bW0 (λ_=>2) 68719476736 id rfl (by omega) (by rw[aCx];simp;omega) (λk x a=>aM1 x a) (λk x a hi hx hd hw hk hb=>by
  simp only[hd,hi,hw,zZ,aA,aG (b:=8) (n:=a.length) (m:=1) (by decide) (by omega)];unfold aDl;cases x.2.1 != 0<;>cases x.2.2 != 0<;>simp[aG (b:=8) (n:=a.length) (m:=1) (by decide) (by omega),aG (b:=8) (n:=a.length+1) (m:=1) (by decide) (by omega)]) (λa=>by simp)]
 rfl
theorem bA0{p:den tPt}(h:tot tPt p<=1073741824):fT p=some (cS p):=by
 have hl:=aA6 p;unfold fT cS ixb;rw[aKu (bWk h (by decide))];simp only[aA];rw[mJ (λk (a:List Int)=>((k:Int),a)) ((0:Int),[]) [] (fC p) (λ_ s a=>aDl s a) bW0 (λ_=>2) 68719476736 id rfl (by omega) (by rw[aCx];simp;omega) (λk x a=>aM1 x a) (λk x a hi hx hd hw hk hb=>by
  simp only[hd,hx,hw,zZ,aA,eE,bWs,aG (b:=8) (n:=a.length) (m:=1) (by decide) (by omega)];unfold aDl;cases x.2.1 != 0<;>cases x.2.2 != 0<;>simp[aG (b:=8) (n:=a.length) (m:=1) (by decide) (by omega),aG (b:=8) (n:=a.length+1) (m:=1) (by decide) (by omega)]) (λa=>by simp)]
 rfl
def qO(l:List Int)(n:Int):Bool:= !(l.all λx=> !(x==n))
theorem aW0{l:List Int}{n:Int}(h:l.length<=68719476736):pZ l n=some (qO l n):=by
 unfold pZ qO;rw[aU (l:=l) (λ_ x=>if !(x==n) then none else some true) (by omega) (λk x hi hd hw hm hk=>by
  simp only[hd,hi,hw,zZ,aA];cases x==n<;>rfl) (by simp),oN (λx:Int=> !(x==n))]
 cases l.all (λx=> !(x==n))<;>rfl
theorem aJ9{l:List Int}{n:Int}(h:l.length<=68719476736):jE l n=some (qO l n):=by
 unfold jE qO;rw[aU (l:=l) (λ_ x=>if !(x==n) then none else some true) (by omega) (λk x hi hd hw hm hk=>by
  simp only[hd,hi,hw,zZ,aA];cases x==n<;>rfl) (by simp),oN (λx:Int=> !(x==n))]
 cases l.all (λx=> !(x==n))<;>rfl
theorem aEt(p:den tPt):(cS p).length<=2 * tot tPt p:=by
 have h:=yF (f:=λ_ s (a:List Int)=>aDl s a) (m:=bW0) (cost:=λ_=>2) (λk x a=>aM1 x a) (fC p) 0 [];have hl:=aA6 p;rw[aCx]at h;unfold cS;simp at h;omega
def oE(p:den tPt)(x:den tRv):Bool:=dJ x&&qO (cS p) (wr (wr (8 * x.1)+x.2.1))
theorem bF1{p:den tPt}{x:den tRv}(h:tot tPt p<=1073741824):sY p x=some (oE p x):=by
 have :=aEt p;unfold sY oE pj3;simp only[bE,zP,aA,bAa h,aW0 (l:=cS p) (by omega)];cases dJ x<;>rfl
theorem bG4{p:den tPt}{x:den tRv}(h:tot tPt p<=1073741824):uT p x=some (oE p x):=by
 have :=aEt p;unfold uT oE pj3;simp only[bE,aM0,aA,bA0 h,aJ9 (l:=cS p) (by omega)];cases dJ x<;>rfl
theorem aJv{α R:Type}(m:R->Nat)(B:Nat){g:Nat->α->Option R}:∀{l:List α} {k:Nat},(∀j x r,l[j]? =some x->g (k+j) x=some r->m r<=B)-> ∀r,bL g k l=some r->m r<=B
 | [],_,_,r,h=>by cases h
 | x::xs,k,hg,r,h=>by
  simp only[bL]at h;cases hx:g k x with
  | some r'=>rw[hx]at h;injection h with h;subst h;exact hg 0 x r' rfl hx
  | none=>
   rw[hx]at h;exact aJv m B (λj y r hy hr=>hg (j+1) y r (by simpa using hy) (by rw[show k+(j+1)=k+1+j by omega];exact hr)) r h
theorem bG7(l:lRv):tot (.sl tRv) l=l.length:=by
 induction l with
 | nil=>rfl
 | cons x l ih=>rw[iU,ih];simp[tot];omega
theorem bMv(l:lRv)(x:den tRv):tot (.sl tRv) (aMq l x)<=l.length+1:=by
 rw[bG7];unfold aMq;cases dJ x with
 | false=>simp
 | true=>
  simp only[zZ];cases hs:bL (aA0 x l) 0 l with
  | some r=>
   refine aJv bW0 (l.length+1) (g:=aA0 x l) (l:=l) (k:=0) (λj y r' hy hr=> ?_) r hs;unfold aA0 at hr;cases c1:y.1==x.1 with
   | false=>rw[c1]at hr;cases hr
   | true=>
    cases c2:y.2.1==x.2.1 with
    | false=>rw[c1,c2]at hr;cases hr
    | true=>rw[c1,c2]at hr;injection hr with hr;rw[<- hr];simp
  | none=>
   by_cases c:16<l.length+1
   .simp[c]
   .simp[c]
def aKf(f:den tFl)(x:den tRv):Bool:=inR f.2.2.2.2.2.2.1 0 ((f.2.2.2.2.2.1.length:Int) - 1)&&oE ((f.2.2.2.2.2.1[f.2.2.2.2.2.2.1.toNat]?).getD []) x
def sT(b:List Int):den tRv:=((sD b).1,(sD b).2.1,(sD b).2.2.1)
def iI(f:den tFl)(p:den tPk):den tFl:=
 cond (p.1==3&&(sD p.2.2.2.2.2.2.2.2.2).2.2.2)
  (f.1,f.2.1,f.2.2.1,f.2.2.2.1,f.2.2.2.2.1,f.2.2.2.2.2.1,cond (aKf f (sT p.2.2.2.2.2.2.2.2.2)) (nW f) f.2.2.2.2.2.2.1,cond (aKf f (sT p.2.2.2.2.2.2.2.2.2)) 0 f.2.2.2.2.2.2.2.1,aMq f.2.2.2.2.2.2.2.2 (sT p.2.2.2.2.2.2.2.2.2)) f
theorem bQg{f:den tFl}(h:tot tFl f<=1073741824)(hr:inR f.2.2.2.2.2.2.1 0 ((f.2.2.2.2.2.1.length:Int) - 1)=true):∃q,f.2.2.2.2.2.1[f.2.2.2.2.2.2.1.toNat]? =some q/\idx f.2.2.2.2.2.1 f.2.2.2.2.2.2.1=some q/\tot tPt q<=1073741824:=by
 obtain⟨h0,h1⟩:=aI.1 hr;obtain⟨q,hq⟩:=aDg h0 h1;have ht:=yK (t:=tPt) hq;have hp:tot (.sl tPt) f.2.2.2.2.2.1<=1073741824:=aOn (cM (cM (cM (cM (cM h)))));exact⟨q,hq,aVz h0 hq,by omega⟩
theorem bP6{f:den tFl}{p:den tPk}{now:Int}(h:tot tFl f<=1073741824)(hp:tot tPk p<=1073741824)(hb:∀x∈p.2.2.2.2.2.2.2.2.2,0<=x/\x<=255):gR f p now=some (sQ (iI f p)):=by
 have hf:SmB 68719476736 tFl f:=(cF h).mono (by decide);have hl:p.2.2.2.2.2.2.2.2.2.length<=68719476736:=bWk (iN (t:=tb) _) (bWk (cM (cM (cM (cM (cM (cM (cM (cM (cM hp))))))))) (by decide));have hv:f.2.2.2.2.2.2.2.2.length<=1073741824:=bWk (iN (t:=tRv) _) (cM (cM (cM (cM (cM (cM (cM (cM h))))))));have hn:f.2.2.2.2.2.1.length<=68719476736:=hf.2.2.2.2.2.1.1;unfold gR iI pj9 zz4 zz5 zz6 zz7 zz8 zz9;simp only[bE,aLa hf,aA,bRz hb hl,kN,vO hn,aZl,bTq hv,bne];cases c1:p.1==3
 .simp only[bW1,zZ,aA,bXb,zY]
 .cases c2:(sD p.2.2.2.2.2.2.2.2.2).2.2.2
  .simp only[bWw,bW1,zZ,zY,aA,bW4]
  .simp only[bWw,zZ,zY,aA,bW4];unfold aKf;cases c3:inR f.2.2.2.2.2.2.1 0 ((f.2.2.2.2.2.1.length:Int) - 1)
   .simp only[zY,aA,bXb];rfl
   .obtain⟨q,hq,hi,ht⟩:=bQg h c3;have ha:=bF1 (p:=q) (x:=sT p.2.2.2.2.2.2.2.2.2) ht;have ha:sY q ((sD p.2.2.2.2.2.2.2.2.2).1,(sD p.2.2.2.2.2.2.2.2.2).2.1,(sD p.2.2.2.2.2.2.2.2.2).2.2.1)=some (oE q (sT p.2.2.2.2.2.2.2.2.2)):=ha;simp only[zZ,hi,hq,bXo,aA,ha,bW4];cases oE q (sT p.2.2.2.2.2.2.2.2.2)<;>rfl
theorem bIt(f:den tFl)(p:den tPk):tot tFl (iI f p)<=tot tFl f+1:=by
 unfold iI;cases (p.1==3&&(sD p.2.2.2.2.2.2.2.2.2).2.2.2)
 .simp
 .have h1:=bMv f.2.2.2.2.2.2.2.2 (sT p.2.2.2.2.2.2.2.2.2);have h2:=bG7 f.2.2.2.2.2.2.2.2;simp only[zZ,rH,sF];omega
def gS(h:den aR):Bool:=inR h.1 0 7&&(inR h.2.1 0 6&&(inR h.2.2.1 0 6&&(!(h.2.1==h.2.2.1)&&(inR h.2.2.2.1 0 1000000&&eH h.2.2.2.2))))
theorem aM2(h:den aR):lU h=some (gS h):=by
 unfold lU gS zz4;simp only[kN,aCt,aA,bne];cases inR h.1 0 7<;>cases inR h.2.1 0 6<;>cases inR h.2.2.1 0 6<;>cases h.2.1==h.2.2.1<;>cases inR h.2.2.2.1 0 1000000<;>rfl
theorem aMd(h:den aR):lV h=some (gS h):=by
 unfold lV gS zz4;simp only[qH,aC0,aA,bne];cases inR h.1 0 7<;>cases inR h.2.1 0 6<;>cases inR h.2.2.1 0 6<;>cases h.2.1==h.2.2.1<;>cases inR h.2.2.2.1 0 1000000<;>rfl
theorem bG0(n k:Nat):decide ((n:Int)>(k:Int))= !decide (n<=k):=by rw[bXj];simp
def aGe(l:dE):Bool:=decide (l.length<=8)&&l.all gS
theorem bQv{l:dE}(h:l.length<=68719476736):kV l=some (aGe l):=by
 unfold kV aGe pj5;rw[aU (l:=l) (λ_ x=>if gS x then none else some false) (by omega) (λk x hi hd hw hm hk=>by
  simp only[hd,hi,hw,zZ,aA,bE,aM2];cases gS x<;>rfl) (by simp),oN gS]
 have e:=bG0 l.length 8;rw[show ((8:Nat):Int)=8 from rfl]at e;rw[e];cases decide (l.length<=8)<;>cases l.all gS<;>rfl
def aAy(p:den tPp):Bool:=inR p.1 1 4&&(inR p.2.1 0 1000000&&(eH p.2.2.1&&aGe p.2.2.2))
def aC8(p:den tPt):Bool:=decide (p.length<=3)&&p.all aAy
theorem bS8{p:den tPt}(h:SmB 68719476736 tPt p):kX p=some (aC8 p):=by
 unfold kX aC8;rw[aU (l:=p) (λ_ x=>if aAy x then none else some false) (bWk h.1 (by decide)) (λk x hi hd hw hm hk=>by
  have hx:=(h.2 x hm).2.2.2.1;simp only[hd,hi,hw,zZ,aA,bE,kN,aCt,bQv hx];unfold aAy;cases inR x.1 1 4<;>cases inR x.2.1 0 1000000<;>cases eH x.2.2.1<;>cases aGe x.2.2.2<;>rfl) (by simp),oN aAy]
 have e:=bG0 p.length 3;rw[show ((3:Nat):Int)=3 from rfl]at e;rw[e];cases decide (p.length<=3)<;>cases p.all aAy<;>rfl
def aJ1(x:den tPp):Bool:= !((x.2.2.2.length:Int)==0)
def cL(p:den tPk):Bool:=inR p.1 1 3&&(aC8 p.2.2.2.1&&(cB p&&(eH p.2.2.2.2.2.2.1&&(p.2.2.2.1.all aJ1&&(inR p.2.1 0 7&&(inR p.2.2.1 0 7&&(inR p.2.2.2.2.2.2.2.1 0 100000&&(inR p.2.2.2.2.2.2.2.2.1 0 100000&&decide ((p.2.2.2.2.2.2.2.2.2.length:Int)<=40)))))))))
theorem bTx{p:den tPk}(h:aC8 p.2.2.2.1=true):decide (bZ p<0)= !cB p:=by
 cases c:cB p with
 | false=>rw[aG8 c];rfl
 | true=>
  obtain⟨i,j,x,y,h1,h2,h3,h4,h5⟩:=aB8 c;rw[h5];unfold aC8 at h;have ha:=(bWj _ _▸h:_/\_).2;have hx:=bW5.1 ha x (bWu h3);unfold aAy aGe at hx;simp only[bWj]at hx;have hy:=bW5.1 hx.2.2.2.2 y (bWu h4);unfold gS at hy;simp only[bWj,aI]at hy;have :=hy.1.1;simp;omega
theorem bLs{p:den tPk}(h:SmB 68719476736 tPk p):nP p=some (cL p):=by
 unfold nP cL bQ zz6 zz7 zz8 zz9;rw[aU (l:=p.2.2.2.1) (λ_ x=>if aJ1 x then none else some false) (bWk h.2.2.2.1.1 (by decide)) (λk x hi hd hw hm hk=>by
  simp only[hd,hi,hw,zZ,aA];unfold aJ1;cases (x.2.2.2.length:Int)==0<;>rfl) (by simp),oN aJ1]
 simp only[kN,bE,aCu h,bS8 h.2.2.2.1,aCt,aA];cases inR p.1 1 3
 .rfl
 .cases he:aC8 p.2.2.2.1
  .rfl
  .rw[bTx he];cases hz:(p.2.2.2.1.length:Int)==0
   .cases cB p<;>simp only[bWw,bW1,zZ,zY,aA,bXb,bW4];cases eH p.2.2.2.2.2.2.1<;>simp only[bWw,bW1,zZ,zY,aA,bXb,bW4];cases p.2.2.2.1.all aJ1<;>cases inR p.2.1 0 7<;>cases inR p.2.2.1 0 7<;>cases inR p.2.2.2.2.2.2.2.1 0 100000<;>cases inR p.2.2.2.2.2.2.2.2.1 0 100000<;>rfl
   .have hh:cB p=false:=by
     have hl:(p.2.2.2.1.length:Int)=0:=by simpa using hz
     unfold cB;have :inR p.2.2.2.2.1 0 ((p.2.2.2.1.length:Int) - 1)=false:=by rw[bAy];omega
     rw[this];rfl
    rw[hh];rfl
def bAv(a b:Int)(f:den tFl):Bool:=(f.1==a&&f.2.1==b)||(f.1==b&&f.2.1==a)
def aQn(e:den pG):den tPk:=e.2.2.2.2.2
noncomputable def harm(w:den tNw)(e:den pG):Bool:=
 cond (!(e.1==7)||(!cL (aQn e)||(aQn e).1==3)) true (cond (w.2.2.2.2.2.1.all λx=> !aO4 x.2.2 (aQn e)) (w.2.2.2.2.2.2.1.all λf=> !bAv (aQn e).2.1 (aQn e).2.2.1 f) true)
abbrev sV(l:lRs)(now:Int):lRs:=l.filter λx=>decide (now<=x.2.2.2.2)
theorem bL6{l:lRs}{now:Int}(h:l.length<=1073741824):fM l now=some (sV l now):=by
 unfold fM pj5 zz4;rw[(aTl (l:=l) (out:=λa=>a) (λ(a:lRs) x=>if decide (now<=x.2.2.2.2) then a++[x] else a) (λk a=>a.length<=k) (by omega) (by simp) (λk x a hi hd hw hx hk hI=>by
  simp only[hd,hi,hw,zZ,aA]
  by_cases hp:now<=x.2.2.2.2
  .simp[hp,aG (b:=40) (n:=a.length) (m:=1) (by decide) (by omega)];omega
  .simp[hp];omega) (λa=>by simp)).1]
 simp only[aDo,bXc,aA]
def atR(x:den tRs)(s d:Int):Bool:=x.2.1==s&&x.2.2.1==d
theorem bLp(x:den tRs)(s d:Int):dZ x s d=some (atR x s d):=by
 unfold dZ atR;cases x.2.1==s<;>simp
theorem bV3(x:den tRs)(s d now:Int):yR x s d now=some (atR x s d&&decide (now<=x.2.2.2.2)):=by
 unfold yR atR zz4;cases x.2.1==s<;>cases x.2.2.1==d<;>simp
def rate(l:lRs)(s d now:Int):Int:=l.foldl (λa x=>if atR x s d&&decide (now<=x.2.2.2.2) then wr (a+x.2.2.2.1) else a) 0
theorem bI5{l:lRs}{s d now:Int}(h:l.length<=1073741824):iO l s d now=some (rate l s d now):=by
 unfold iO pj5 zz4;rw[(aN4 (l:=l) (out:=λa=>a) (λ(a:Int) x=>if atR x s d&&decide (now<=x.2.2.2.2) then wr (a+x.2.2.2.1) else a) (λ_ _=>True) (by omega) trivial (λk x a hi hd hw hx hk hI=>by
  refine⟨?_,trivial⟩;simp only[hd,hi,hw,zZ,aA];rw[show ((x.1,x.2.1,x.2.2.1,x.2.2.2.1,x.2.2.2.2):den tRs)=x from rfl,bLp];cases atR x s d<;>cases decide (now<=x.2.2.2.2)<;>rfl) (λa=>by simp)).1]
 rfl
theorem bT4{l:lRs}{s d now:Int}(h:l.length<=1073741824):lW l s d now=some (rate l s d now):=by
 unfold lW pj5;rw[(aN4 (l:=l) (out:=λa=>a) (λ(a:Int) x=>if atR x s d&&decide (now<=x.2.2.2.2) then wr (a+x.2.2.2.1) else a) (λ_ _=>True) (by omega) trivial (λk x a hi hd hw hx hk hI=>by
  refine⟨?_,trivial⟩;simp only[hd,hi,hw,zZ,aA];rw[show ((x.1,x.2.1,x.2.2.1,x.2.2.2.1,x.2.2.2.2):den tRs)=x from rfl,bV3];cases atR x s d<;>cases decide (now<=x.2.2.2.2)<;>rfl) (λa=>by simp)).1]
 rfl
def free(l:lRs)(cap s d now:Int):Int:=if wr (cap - rate l s d now)>0 then wr (cap - rate l s d now) else 0
theorem bTk{l:lRs}{cap s d now:Int}(h:l.length<=1073741824):sU l cap s d now=some (free l cap s d now):=by
 unfold sU;simp only[bI5 h,aA,bOn];rfl
def aF0(l:lRs)(id s d now:Int):Int:=
 match bL (λ_ (x:den tRs)=>if x.1==id&&(atR x s d&&decide (now<=x.2.2.2.2)) then some x.2.2.2.1 else none) 0 l with
 | some r=>r
 | none=>0
theorem bIa{l:lRs}{id s d now:Int}(h:l.length<=1073741824):iR l id s d now=some (aF0 l id s d now):=by
 unfold iR pj5 zz4;rw[aU (l:=l) (λ_ (x:den tRs)=>if x.1==id&&(atR x s d&&decide (now<=x.2.2.2.2)) then some x.2.2.2.1 else none) (by omega) (λk x hi hd hw hx hk=>by
  simp only[hd,hi,hw,zZ,aA];rw[show ((x.1,x.2.1,x.2.2.1,x.2.2.2.1,x.2.2.2.2):den tRs)=x from rfl,bLp];cases x.1==id<;>cases atR x s d<;>cases decide (now<=x.2.2.2.2)<;>rfl) (by simp)]
 unfold aF0;cases bL (λ_ (x:den tRs)=>if x.1==id&&(atR x s d&&decide (now<=x.2.2.2.2)) then some x.2.2.2.1 else none) 0 l<;>rfl
def sZ(x:den tRs):Bool:=inR x.1 1 100000&&(inR x.2.2.2.1 1 20&&dJ (x.2.1,x.2.2.1,x.2.2.2.2))
theorem bJq(x:den tRs):gU x=some (sZ x):=by
 unfold gU sZ zz4;simp only[kN,zP,aA];cases inR x.1 1 100000<;>cases inR x.2.2.2.1 1 20<;>cases dJ (x.2.1,x.2.2.1,x.2.2.2.2)<;>rfl
theorem bM9(x:den tRs):gY x=some (sZ x):=by
 unfold gY sZ zz4;simp only[qH,aM0,aA];cases inR x.1 1 100000<;>cases inR x.2.2.2.1 1 20<;>cases dJ (x.2.1,x.2.2.1,x.2.2.2.2)<;>rfl
def iJ(x y:den tRs):Bool:=y.1==x.1&&atR y x.2.1 x.2.2.1
theorem bHz{l:lRs}{x:den tRs}(h:l.length<=1073741824):pL l x=some (l.filter λy=> !iJ x y):=by
 unfold pL pj5;rw[(aTl (l:=l) (out:=λa=>a) (λ(a:lRs) y=>if !iJ x y then a++[y] else a) (λk a=>a.length<=k) (by omega) (by simp) (λk y a hi hd hw hx hk hI=>by
  simp only[hd,hi,hw,zZ,aA];have hap:=aG (b:=40) (n:=a.length) (m:=1) (by decide) (by omega);unfold iJ atR;simp only[bne];cases h1:y.1==x.1<;>cases h2:y.2.1==x.2.1<;>cases h3:y.2.2.1==x.2.2.1<;>simp[hap]<;>omega) (λa=>by simp)).1]
 simp only[aDo,bXc,aA]
def okR(l:lRs)(cap now:Int)(k:Nat)(x:den tRs):Bool:=sZ x&&(!decide (rate l x.2.1 x.2.2.1 now>cap)&& !(l.take k).any (iJ x))
def yM(l:lRs)(cap now:Int):Bool:=
 decide (l.length<=40)&&(bL (λk x=>if okR l cap now k x then none else some ()) 0 l).isNone
theorem aCa{α R S:Type}(p:Nat->α->Bool)(r:R)(s:S):∀(l:List α) (k:Nat),(bL (λk x=>if p k x then none else some r) k l).isNone=(bL (λk x=>if p k x then none else some s) k l).isNone/\ ∀q,bL (λk x=>if p k x then none else some r) k l=some q->q=r
 | [],_=>⟨rfl,λq h=>by cases h⟩
 | x::xs,k=>by
  simp only[bL];cases p k x with
  | true=>simpa using aCa p r s xs (k+1)
  | false=>simp
theorem bD9{α:Type}(p:Nat->α->Bool)(l:List α):(match bL (λk x=>if p k x then none else some false) 0 l with
  | some r=>some r
  | none=>some true)=some (bL (λk x=>if p k x then none else some ()) 0 l).isNone:=by
 obtain⟨h1,h2⟩:=aCa p false () l 0;rw[<- h1];cases h:bL (λk x=>if p k x then none else some false) 0 l with
 | none=>rfl
 | some q=>rw[h2 q h];rfl
theorem bF0{l:lRs}{cap now:Int}(h:l.length<=1073741824):fY l cap now=some (yM l cap now):=by
 unfold fY yM pj5
 by_cases hl:l.length<=40
 .rw[zW (by omega),zY,zX hl,bW4];rw[aU (l:=l) (λk x=>if okR l cap now k x then none else some false) (by omega) (λk x hi hd hw hx hk=>by
   have hslo:cQ (0:Int) (k:Int) (l.length:Int)=true:=by simp[cQ];omega
   have hlen:(l.take k).length<=1073741824:=by simp;omega
   simp only[hd,hi,hw,zZ,aA,hslo,jP];rw[show ((x.1,x.2.1,x.2.2.1,x.2.2.2.1,x.2.2.2.2):den tRs)=x from rfl,bJq,bI5 h];unfold okR;cases hv:sZ x with
   | false=>rfl
   | true=>
    cases hr:decide (rate l x.2.1 x.2.2.1 now>cap) with
    | true=>simp[hr]
    | false=>
     simp only[aA,bWw,zY,hr,bW1,bW4];rw[aU (l:=l.take k) (R:=Int⊕(Unit⊕Bool)) (λ_ y=>if iJ x y then some (bWh (bWh false)) else none) (by omega) (λj y hi2 hd2 hw2 hx2 hk2=>by
      simp only[hd2,hi2,hw2,zZ,aA];rw[show ((y.1,y.2.1,y.2.2.1,y.2.2.2.1,y.2.2.2.2):den tRs)=y from rfl,bLp];unfold iJ;cases y.1==x.1<;>cases atR y x.2.1 x.2.2.1<;>rfl) (by simp)]
     have key:∀(m:lRs) (j:Nat),bL (λ_ y=>if iJ x y then some (bWh (bWh false):Int⊕(Unit⊕Bool)) else none) j m=if m.any (iJ x) then some (bWh (bWh false)) else none:=by
      intro m
      induction m with
      | nil=>intro j;rfl
      | cons y m ih=>
       intro j;simp only[bL,List.any_cons];rcases bZl (iJ x y) with hs | hs
       .simp[hs]
       .simp only[hs,ih,bWz,zU];rfl
     rw[key];cases (l.take k).any (iJ x)<;>simp) (by simp)]
  rw[<- bD9];cases bL (λk x=>if okR l cap now k x then none else some false) 0 l<;>rfl
 .rw[zX (by omega),zZ,zW hl];rfl
def iV(id s d:Int)(x:den tUs):Bool:=x.1==id&&(x.2.1==s&&x.2.2.1==d)
def place(l:lUs)(id s d:Int):Int:=
 match bL (λk x=>if iV id s d x then some (k:Int) else none) 0 l with
 | some i=>i
 | none=> -1
theorem aXs(l:lUs)(id s d:Int):place l id s d= -1\/ ∃(j:Nat) (x:den tUs),place l id s d=(j:Int)/\l[j]? =some x/\j<l.length:=by
 unfold place;cases h:bL (λk x=>if iV id s d x then some (k:Int) else none) 0 l with
 | none=>exact .inl rfl
 | some i=>
  obtain⟨j,x,h1,h2,h3⟩:=aC7 h;exact .inr ⟨j,x,by simpa using h2,h1,(bWn.1 h1).1⟩
theorem aQ4{g:den tSc}{id s d:Int}(h:g.2.2.length<=1073741824):nQ g id s d=some (place g.2.2 id s d):=by
 unfold nQ;rw[aU (l:=g.2.2) (λk x=>if iV id s d x then some (k:Int) else none) (by omega) (λk x hi hd hw hx hk=>by
  simp only[hd,hi,hw,zZ,aA];unfold iV;cases x.1==id<;>cases x.2.1==s<;>cases x.2.2.1==d<;>rfl) (by simp)]
 unfold place;cases bL (λk x=>if iV id s d x then some (k:Int) else none) 0 g.2.2<;>rfl
def oU(g:den tSc)(id s d now:Int):Int:=if id==0 then free g.2.1 g.1 s d now else aF0 g.2.1 id s d now
theorem bAo{g:den tSc}{id s d now:Int}(h:g.2.1.length<=1073741824):tW g id s d now=some (oU g id s d now):=by
 unfold tW oU;rw[bTk h,bIa h];cases id==0<;>rfl
def okU(g:den tSc)(now:Int)(k:Nat)(x:den tUs):Bool:=place g.2.2 x.1 x.2.1 x.2.2.1==(k:Int)&&inR x.2.2.2 1 (oU g x.1 x.2.1 x.2.2.1 now)
def aBl(g:den tSc)(now:Int):Bool:=inR g.1 1 20&&(yM g.2.1 g.1 now&&(bL (λk x=>if okU g now k x then none else some ()) 0 g.2.2).isNone)
theorem bKg{g:den tSc}{now:Int}(h1:g.2.1.length<=1073741824)(h2:g.2.2.length<=1073741824):jO g now=some (aBl g now):=by
 unfold jO aBl pj3;rw[aU (l:=g.2.2) (λk x=>if okU g now k x then none else some false) (by omega) (λk x hi hd hw hx hk=>by
  simp only[hd,hi,hw,zZ,aA];rw[show ((g.1,g.2.1,g.2.2):den tSc)=g from rfl,aQ4 h2,bAo h1];unfold okU;simp only[aA,kN,bne];cases place g.2.2 x.1 x.2.1 x.2.2.1==(k:Int)<;>cases inR x.2.2.2 1 (oU g x.1 x.2.1 x.2.2.1 now)<;>rfl) (by simp)]
 rw[<- aCa (okU g now) false () g.2.2 0 |>.1];have h3:=(aCa (okU g now) false () g.2.2 0).2;simp only[kN,bF0 h1,aA];cases inR g.1 1 20<;>cases yM g.2.1 g.1 now<;>(cases hsc:bL (λk x=>if okU g now k x then none else some false) 0 g.2.2 with
  | none=>rfl
  | some q=>rw[h3 q hsc];rfl)
theorem aAo{n:Nat}(h:n<=68719476736):wr ((n:Int) - 1)=(n:Int) - 1:=wri (by omega) (by omega)
def cG(t:den tTo)(r:Int):Bool:=inR r 0 ((t.1.length:Int) - 1)
theorem aJe{t:den tTo}{r:Int}(h:t.1.length<=68719476736):pF t r=some (cG t r):=by
 unfold pF cG;rw[aAo h,kN];rfl
theorem aDn{t:den tTo}{r:Int}(h:t.1.length<=68719476736):eN t r=some (cG t r):=by
 unfold eN cG;rw[aAo h,qH];rfl
theorem bU0(n:Int):sG n=some (inR n 1 2147483646):=by unfold sG;rw[kN];rfl
theorem bVw(n:Int):tJ n=some (inR n 1 2147483646):=by unfold tJ;rw[qH];rfl
def bM(l:den tLk)(r d:Int):Bool:=(l.1==r&&l.2.1==d)||(l.2.2.1==r&&l.2.2.2.1==d)
theorem aZa(l:den tLk)(r d:Int):fS l r d=some (bM l r d):=by
 unfold fS bM;cases l.1==r<;>cases l.2.1==d<;>cases l.2.2.1==r<;>cases l.2.2.2.1==d<;>rfl
theorem bAe(l:den tLk)(r d:Int):rN l r d=some (bM l r d):=by
 unfold rN bM;cases l.1==r<;>cases l.2.1==d<;>cases l.2.2.1==r<;>cases l.2.2.2.1==d<;>rfl
def aK4(k:Int)(x y:den tAS):Bool:=cond (k==1) (x.2.1&&y.2.1) (cond (k==2) (x.1==y.1&& !y.2.1) (cond (k==3) (!x.2.1&& !y.2.1) false))
def rZ(t:den tTo)(l:den tLk):Bool:=
 cG t l.1&&(cG t l.2.2.1&&(!decide (l.1>=l.2.2.1)&&(inR l.2.1 1 6&&(inR l.2.2.2.1 1 6&&aK4 l.2.2.2.2 ((t.1[l.1.toNat]?).getD (0,false,0)) ((t.1[l.2.2.1.toNat]?).getD (0,false,0))))))
theorem aAv{t:den tTo}{r:Int}(h:cG t r=true):∃x,t.1[r.toNat]? =some x/\idx t.1 r=some x:=by
 obtain⟨h0,h1⟩:=aI.1 h;obtain⟨x,hx⟩:=aDg h0 h1;exact⟨x,hx,aVz h0 hx⟩
theorem bQu{t:den tTo}{l:den tLk}(h:t.1.length<=68719476736):wI t l=some (rZ t l):=by
 unfold wI rZ pj2 pj3 zz4;simp only[bE,aJe h,kN,aA];cases c1:cG t l.1
 .rfl
 .cases c2:cG t l.2.2.1
  .rfl
  .obtain⟨x,hx,ix⟩:=aAv c1;obtain⟨y,hy,iy⟩:=aAv c2;rw[ix,iy,hx,hy];simp only[cC,eG,dC,dA,dH,aA,bXo,bWw,zY,bW4];unfold aK4;cases decide (l.1>=l.2.2.1)
   .cases inR l.2.1 1 6
    .rfl
    .cases inR l.2.2.2.1 1 6
     .rfl
     .cases l.2.2.2.2==1
      .cases l.2.2.2.2==2
       .cases l.2.2.2.2==3
        .rfl
        .cases x.2.1<;>rfl
       .cases x.1==y.1<;>rfl
      .cases x.2.1<;>rfl
   .rfl
theorem aZ1{t:den tTo}{l:den tLk}(h:t.1.length<=68719476736):oP t l=some (rZ t l):=by
 unfold oP rZ pj2 zz4;simp only[bE,aDn h,qH,aA];cases c1:cG t l.1
 .rfl
 .cases c2:cG t l.2.2.1
  .rfl
  .obtain⟨x,hx,ix⟩:=aAv c1;obtain⟨y,hy,iy⟩:=aAv c2;rw[ix,iy,hx,hy];simp only[aA,bXo,bWw,zY,bW4];unfold aK4;cases decide (l.1>=l.2.2.1)
   .cases inR l.2.1 1 6
    .rfl
    .cases inR l.2.2.2.1 1 6
     .rfl
     .cases l.2.2.2.2==1
      .cases l.2.2.2.2==2
       .cases l.2.2.2.2==3
        .rfl
        .cases x.2.1<;>rfl
       .cases x.1==y.1<;>rfl
      .cases x.2.1<;>rfl
   .rfl
def asP(t:den tTo)(k:Nat)(x:den tAS):Bool:=inR x.1 0 2&&(inR x.2.2 1 2147483646&&(t.1.take k).all λy=> !(x.2.2==y.2.2))
def lkP(t:den tTo)(k:Nat)(x:den tLk):Bool:=rZ t x&&(t.2.take k).all λy=> !(bM y x.1 x.2.1||bM y x.2.2.1 x.2.2.2.1)
def kQ(t:den tTo):Bool:=inR (t.1.length:Int) 1 8&&((t.1.zipIdx 0).all (λz=>asP t z.2 z.1)&&(t.2.zipIdx 0).all λz=>lkP t z.2 z.1)
theorem uP{k n:Nat}(h:k<n):cQ (0:Int) (k:Int) (n:Int)=true:=by
 have :=aDc (a:=0) (b:=k) (n:=n);rw[show ((0:Nat):Int)=0 from rfl]at this;rw[this];simp;omega
theorem aUl{α:Type}{l:List α}{k j:Nat}{x:α}(h:idx (l.take k) (j:Int)=some x):idx l (j:Int)=some x:=by
 rw[aO]at h ⊢;exact (aWg h).1
theorem tS{α:Type}{l:List α}{k:Nat}(h:k<l.length):(l.take k).length=k:=by simp;omega
theorem bR4{t:den tTo}(h:SmB 68719476736 tTo t):kW t=some (kQ t):=by
 have l1:=h.1.1;have l2:=h.2.1;unfold kW kQ pj2 pj5;rw[aU (l:=t.1) (λk x=>if asP t k x then none else some false) (bWk l1 (by decide)) (λk x hi hd hw hm hk=>by
  simp only[hd,hi,zZ,aA,kN,bU0,uP hk,jP,hw];rw[aU (l:=t.1.take k) (λ_ y=>if !(x.2.2==y.2.2) then none else some (bWh (bWh false))) (by rw[tS hk];omega) (λj y hi hd hw hm hk=>by
   simp only[hd,hi,hw,zZ,aA];cases x.2.2==y.2.2<;>rfl) (by simp),oN (λy:den tAS=> !(x.2.2==y.2.2))]
  unfold asP;cases inR x.1 0 2<;>cases inR x.2.2 1 2147483646<;>cases (t.1.take k).all (λy=> !(x.2.2==y.2.2))<;>rfl) (by simp),zG (asP t)]
 rw[aU (l:=t.2) (λk x=>if lkP t k x then none else some false) (bWk l2 (by decide)) (λk x hi hd hw hm hk=>by
  simp only[hd,hi,zZ,aA,bE,bQu l1,uP hk,jP,hw];rw[aU (l:=t.2.take k) (λ_ y=>if !(bM y x.1 x.2.1||bM y x.2.2.1 x.2.2.2.1) then none else some (bWh (bWh false))) (by rw[tS hk];omega) (λj y hi hd hw hm hk=>by
   simp only[hd,hi,hw,zZ,aA,bE,aZa];cases bM y x.1 x.2.1<;>cases bM y x.2.2.1 x.2.2.2.1<;>rfl) (by simp),oN (λy:den tLk=> !(bM y x.1 x.2.1||bM y x.2.2.1 x.2.2.2.1))]
  unfold lkP;cases rZ t x<;>cases (t.2.take k).all (λy=> !(bM y x.1 x.2.1||bM y x.2.2.1 x.2.2.2.1))<;>rfl) (by simp),zG (lkP t)]
 rw[kN,aA];cases inR (t.1.length:Int) 1 8<;>cases (t.1.zipIdx 0).all (λz=>asP t z.2 z.1)<;>cases (t.2.zipIdx 0).all (λz=>lkP t z.2 z.1)<;>rfl
theorem bK1(a b:Int):(a==b)=(b==a):=by rw[bXj];simp;exact eq_comm
theorem bT7{t:den tTo}(h:SmB 68719476736 tTo t):kT t=some (kQ t):=by
 have l1:=h.1.1;have l2:=h.2.1;unfold kT kQ pj2 pj5;rw[aU (l:=t.1) (λk x=>if asP t k x then none else some false) (bWk l1 (by decide)) (λk x hi hd hw hm hk=>by
  simp only[hd,hi,zZ,aA,qH,bVw,hw];rw[aU (l:=t.1.take k) (λ_ y=>if !(x.2.2==y.2.2) then none else some (bWh (bWh false))) (by rw[tS hk];omega) (λj y hi2 hd hw hm hk2=>by
   rw[tS hk]at hd;simp only[hd,aUl hi2,hi,hw,zZ,aA,bK1 y.2.2 x.2.2];cases x.2.2==y.2.2<;>rfl) (by rw[tS hk];simp),oN (λy:den tAS=> !(x.2.2==y.2.2))]
  unfold asP;cases inR x.1 0 2<;>cases inR x.2.2 1 2147483646<;>cases (t.1.take k).all (λy=> !(x.2.2==y.2.2))<;>rfl) (by simp),zG (asP t)]
 rw[aU (l:=t.2) (λk x=>if lkP t k x then none else some false) (bWk l2 (by decide)) (λk x hi hd hw hm hk=>by
  simp only[hd,hi,zZ,aA,bE,aZ1 l1,hw];rw[aU (l:=t.2.take k) (λ_ y=>if !(bM y x.1 x.2.1||bM y x.2.2.1 x.2.2.2.1) then none else some (bWh (bWh false))) (by rw[tS hk];omega) (λj y hi2 hd hw hm hk2=>by
   rw[tS hk]at hd;simp only[hd,aUl hi2,hi,hw,zZ,aA,bE,bAe];cases bM y x.1 x.2.1<;>cases bM y x.2.2.1 x.2.2.2.1<;>rfl) (by rw[tS hk];simp),oN (λy:den tLk=> !(bM y x.1 x.2.1||bM y x.2.2.1 x.2.2.2.1))]
  unfold lkP;cases rZ t x<;>cases (t.2.take k).all (λy=> !(bM y x.1 x.2.1||bM y x.2.2.1 x.2.2.2.1))<;>rfl) (by simp),zG (lkP t)]
 rw[qH,aA];cases inR (t.1.length:Int) 1 8<;>cases (t.1.zipIdx 0).all (λz=>asP t z.2 z.1)<;>cases (t.2.zipIdx 0).all (λz=>lkP t z.2 z.1)<;>rfl
def xOk(x:den tIb):Bool:=inR x.1 0 7&&(inR x.2.1 0 7&&(!(x.1==x.2.1)&&((x.2.2.1==(x.2.2.2.length:Int))&&(decide (x.2.2.1<=20)&&x.2.2.2.all λm=>decide (m.length<=40)))))
theorem bVt(a b:Int):decide (a>b)= !decide (a<=b):=by rw[bXj];simp
theorem bVu{x:den tIb}(h:x.2.2.2.length<=68719476736):pB x=some (xOk x):=by
 unfold pB xOk;rw[aU (l:=x.2.2.2) (λ_ m=>if decide (m.length<=40) then none else some false) (by omega) (λk m hi hd hw hx hk=>by
  simp only[hd,hi,hw,zZ,aA]
  by_cases hm:m.length<=40
  .simp[hm,show ¬ ((m.length:Int)>40) by omega]
  .simp[hm,show (m.length:Int)>40 by omega]) (by simp),oN (λm:List Int=>decide (m.length<=40))]
 simp only[kN,aA,bne,bVt];cases inR x.1 0 7<;>cases inR x.2.1 0 7<;>cases x.1==x.2.1<;>cases x.2.2.1==(x.2.2.2.length:Int)<;>cases decide (x.2.2.1<=20)<;>cases x.2.2.2.all (λm=>decide (m.length<=40))<;>rfl
theorem bO9{t:den tTo}(h:SmB 68719476736 tTo t):lZ t=some t:=by
 unfold lZ pj2;simp only[aG (b:=24) (n:=([]:lAS).length) (m:=t.1.length) (by decide) (by simpa using h.1.1),aG (b:=40) (n:=([]:lLk).length) (m:=t.2.length) (by decide) (by simpa using h.2.1),zZ,cC,eG,dC,dA,dH,aA,bXc,bE]
theorem aY9{t:den tTo}(h:SmB 68719476736 tTo t):pM t=some t:=by
 unfold pM pj2;simp only[aG (b:=24) (n:=([]:lAS).length) (m:=t.1.length) (by decide) (by simpa using h.1.1),aG (b:=40) (n:=([]:lLk).length) (m:=t.2.length) (by decide) (by simpa using h.2.1),zZ,cC,eG,dC,dA,dH,aA,bXc,bE]
theorem bPf{x:den tSg}(h:x.2.2.length<=68719476736):nR x=some x:=by
 unfold nR;rw[bAq h];rfl
theorem aFu{x:den tSg}(h:x.2.2.length<=68719476736):gI x=some x:=by
 unfold gI;rw[aG (b:=40) (n:=([]:dE).length) (by decide) (by simpa using h)];rfl
theorem aVr{l:lSg}(h:SmB 68719476736 (.sl tSg) l):kD l=some l:=by
 unfold kD pj3;rw[(rY (λk (a:lSg)=>((k:Int),a)) ((0:Int),[]) [] l (λ_ x a=>a++[x]) bW0 (λ_=>1) 68719476736 id rfl (bWk h.1 (by decide)) (by rw[fK];simpa using h.1) (λk x a hi hx hd hw hk hb=>by
  have e:=h.2 x (bWu hx);simp only[hd,hi,hw,zZ,aA,bE,bPf e.2.2.1,aG (b:=40) (by decide) hb];simp) (λa=>by simp)).1,fX (λx=>x)]
 simp
theorem aAd{l:lSg}(h:SmB 68719476736 (.sl tSg) l):fD l=some l:=by
 unfold fD pj3;rw[(rY (λk (a:lSg)=>((k:Int),a)) ((0:Int),[]) [] l (λ_ x a=>a++[x]) bW0 (λ_=>1) 68719476736 id rfl (bWk h.1 (by decide)) (by rw[fK];simpa using h.1) (λk x a hi hx hd hw hk hb=>by
  have e:=h.2 x (bWu hx);simp only[hd,hi,hw,zZ,aA,bE,aFu e.2.2.1,aG (b:=40) (by decide) hb];simp) (λa=>by simp)).1,fX (λx=>x)]
 simp
theorem bTm(c:Int):lY c=some (cond (inR c 1 20) c 1,[],[]):=by
 unfold lY;rw[qH];cases inR c 1 20<;>rfl
def aUe(t:den tTo)(now:Int):Bool:=kQ t&&inR now 0 1000000
theorem bT9{t:den tTo}{k:den tDb}{c now:Int}(ht:SmB 68719476736 tTo t)(hk:SmB 68719476736 tDb k):pO t k c now=some (cond (aUe t now) (cond (inR c 1 20) c 1,now,0,t.1,t.2,k.1,k.2,[],[],[],[],[],[]) (0,0,0,[],[],[],[],[],[],[],[],[],[])):=by
 unfold pO aUe pj2;simp only[bE,bT7 ht,qH,aY9 ht,aAd hk.1,aAd hk.2,bTm,aA];cases kQ t<;>cases inR now 0 1000000<;>rfl
def mY(a b:Int)(x:den tIb):Bool:=x.1==a&&x.2.1==b
theorem aI5{α:Type}(p:α->Bool):∀(l:List α) (k:Nat),bL (λk x=>if p x then some (k:Int) else none) k l=(l.findIdx? p).map (λi=>((k+i:Nat):Int))
 | [],_=>rfl
 | x::xs,k=>by
  simp only[bL,List.findIdx?_cons];cases h:p x with
  | true=>simp
  | false=>
   simp only[bWz,zU];rw[aI5 p xs (k+1)];cases xs.findIdx? p with
   | none=>rfl
   | some i=>simp<;>omega
def cN(l:lIb)(a b:Int):Int:=((l.findIdx? (mY a b)).map (λi=>((0+i:Nat):Int))).getD (-1)
theorem bO7{l:lIb}{a b:Int}(h:l.length<=68719476736):rA l a b=some (cN l a b):=by
 unfold rA cN;rw[aU (l:=l) (λk x=>if mY a b x then some (k:Int) else none) (by omega) (λk x hi hd hw hm hk=>by
  simp only[hd,hi,hw,zZ,aA];unfold mY;cases x.1==a<;>cases x.2.1==b<;>rfl) (by simp),aI5 (mY a b)]
 cases l.findIdx? (mY a b)<;>rfl
def aD8(w:den tNw)(k:Nat)(f:den tFl):Bool:=match w.2.2.2.2.2.2.2.1[k]? with
 | some x=>lR f&&(cG w.1 f.1&&(cG w.1 f.2.1&&(xOk x&&aCv f x)))
 | none=>false
def rL(f g:den tFl):Bool:=g.1==f.1&&g.2.1==f.2.1
def aEi(w:den tNw)(k:Nat)(f:den tFl):Bool:=(w.2.2.2.2.2.2.1.take k).all λg=> !rL f g
def bNp(w:den tNw)(k:Nat)(f:den tFl):Bool:=cN w.2.2.2.2.2.2.2.1 f.2.1 f.1==(k:Int)
theorem kJ{α:Type}(p:Nat->α->Bool)(l:List α):(l.zipIdx 0).all (λz=>p z.2 z.1)=true↔ ∀k x,l[k]? =some x->p k x=true:=by
 rw[bW5];constructor
 .intro h k x hx;exact h (x,k) (cAe.2 (by simpa using hx))
 .rintro h ⟨x,k⟩ hz
  exact h k x (by simpa using cAe.1 hz)
def aD4(l:List Int)(m:Nat)(k:Nat)(n:Int):Bool:=inR n 0 ((m:Int) - 1)&&(decide (k=0)|| !decide ((l[k - 1]?).getD 0>=n))
def aE1(w:den tNw):Bool:=
 kQ w.1&&(inR w.2.2.2.1 0 1000000&&(aBl w.2.2.1 w.2.2.2.1&&((w.2.2.2.2.1.zipIdx 0).all (λz=>aD4 w.2.2.2.2.1 w.1.2.length z.2 z.1)&&(decide (w.2.2.2.2.2.1.length<=150)&&(decide (w.2.2.2.2.2.2.1.length<=4)&&(decide (w.2.2.2.2.2.2.2.1.length=w.2.2.2.2.2.2.1.length)&&(!decide (w.2.2.2.2.2.2.2.2<0)&&
  (w.2.2.2.2.2.1.all (λx=>cG w.1 x.1)&&(w.2.2.2.2.2.2.1.zipIdx 0).all (λz=>aD8 w z.2 z.1&&aEi w z.2 z.1)))))))))
theorem bF2(n k:Nat):decide ((n:Int)>(k:Int))= !decide (n<=k):=by rw[bXj];simp
theorem bSk(a b:Nat):((a:Int) != (b:Int))= !decide (a=b):=by rw[bXj];simp;omega
theorem bGq{l:List Int}{k:Nat}(hk:k<l.length)(h0:0<k)(hl:l.length<=68719476736):idx l (wr ((k:Int) - 1))=some ((l[k - 1]?).getD 0):=by
 have e:wr ((k:Int) - 1)=((k - 1:Nat):Int):=by
  have :wr ((k:Int) - 1)=(k:Int) - 1:=wri (by omega) (by omega);rw[this];omega
 rw[e,aO,bWl (show k - 1<l.length by omega)];rfl
theorem bUb{w:den tNw}(h:tot tNw w<=1073741824):mC w=some (aE1 w):=by
 have sm:SmB 68719476736 tNw w:=(cF h).mono (by decide);have sms:SmB 1073741824 tNw w:=cF h;have lT:=sm.1.1.1;have lL:=sm.1.2.1;have lD:=sms.2.2.2.2.1.1;have lQ:=sms.2.2.2.2.2.1.1;have lF:=sms.2.2.2.2.2.2.1.1;have lX:=sms.2.2.2.2.2.2.2.1.1;have eT:=bR4 sm.1;have eS:=bKg (now:=w.2.2.2.1) sms.2.2.1.2.1.1 sms.2.2.1.2.2.1;have q1:decide ((w.2.2.2.2.2.1.length:Int)>150)= !decide (w.2.2.2.2.2.1.length<=150):=bF2 _ 150;have q2:decide ((w.2.2.2.2.2.2.1.length:Int)>4)= !decide (w.2.2.2.2.2.2.1.length<=4):=bF2 _ 4;unfold mC aE1 pj2 pj3 pj4 pj9 zz4 zz5 zz6 zz7 zz8;rw[q1,q2,bSk];simp only[bE,eT,kN,eS,aA]
 by_cases hX:w.2.2.2.2.2.2.2.1.length=w.2.2.2.2.2.2.1.length
 .rw[aU (l:=w.2.2.2.2.1) (λk n=>if aD4 w.2.2.2.2.1 w.1.2.length k n then none else some false) (by omega) (λk n hi hd hw hm hk=>by
   simp only[hd,hi,hw,zZ,aA,kN,aAo lL];unfold aD4;cases inR n 0 ((w.1.2.length:Int) - 1)
   .rfl
   .by_cases h0:k=0
    .subst h0;rfl
    .have e1:decide ((k:Int)>0)=true:=by simp;omega
     rw[e1,bGq hk (by omega) (by omega),zW h0];simp only[bWw,zY,zZ,aA,Bool.false_or,bW4];cases decide ((w.2.2.2.2.1[k - 1]?).getD 0>=n)<;>rfl) (by simp),zG (aD4 w.2.2.2.2.1 w.1.2.length)]
  rw[aU (l:=w.2.2.2.2.2.1) (λ_ x=>if cG w.1 x.1 then none else some false) (by omega) (λk x hi hd hw hm hk=>by
   simp only[hd,hi,hw,zZ,aA,aJe lT];cases cG w.1 x.1<;>rfl) (by simp),oN (λx:den tFy=>cG w.1 x.1)]
  rw[aU (l:=w.2.2.2.2.2.2.1) (λk f=>if aD8 w k f&&aEi w k f then none else some false) (by omega) (λk f hi hd hw hm hk=>by
   have hx:w.2.2.2.2.2.2.2.1[k]? =some w.2.2.2.2.2.2.2.1[k]:=bWl (by omega);have hix:idx w.2.2.2.2.2.2.2.1 (k:Int)=some w.2.2.2.2.2.2.2.1[k]:=by rw[aO];exact hx
   have fs:=sm.2.2.2.2.2.2.1.2 f hm;have xs:=(sm.2.2.2.2.2.2.2.1.2 _ (bWu hx)).2.2.2.1;simp only[hd,hi,zZ,aA,aJe lT,bM7 fs,hix,bVu xs,bFz fs.2.2.2.2.1.1 xs,uP hk,jP,hw];rw[aU (l:=w.2.2.2.2.2.2.1.take k) (λ_ g=>if !rL f g then none else some (bWh (bWh false))) (by rw[tS hk];omega) (λj g hi hd hw hm hk=>by
    simp only[hd,hi,hw,zZ,aA];unfold rL;cases g.1==f.1<;>cases g.2.1==f.2.1<;>rfl) (by simp),oN (λg:den tFl=> !rL f g)]
   unfold aD8 aEi;rw[hx];simp only;cases lR f<;>simp only[bWw,bW1,zZ,zY,aA,bXb,bW4,bWz,zU]
   .rfl
   cases cG w.1 f.1<;>simp only[bWw,bW1,zZ,zY,aA,bXb,bW4,bWz,zU]
   .rfl
   cases cG w.1 f.2.1<;>simp only[bWw,bW1,zZ,zY,aA,bXb,bW4,bWz,zU]
   .rfl
   cases xOk w.2.2.2.2.2.2.2.1[k]<;>simp only[bWw,bW1,zZ,zY,aA,bXb,bW4,bWz,zU]
   .rfl
   cases aCv f w.2.2.2.2.2.2.2.1[k]<;>cases (w.2.2.2.2.2.2.1.take k).all (λg=> !rL f g)<;>rfl) (by simp),zG (λk f=>aD8 w k f&&aEi w k f)]
  cases kQ w.1<;>simp only[bWw,bW1,zZ,zY,aA,bXb,bW4];cases inR w.2.2.2.1 0 1000000<;>simp only[bWw,bW1,zZ,zY,aA,bXb,bW4];cases aBl w.2.2.1 w.2.2.2.1<;>simp only[bWw,bW1,zZ,zY,aA,bXb,bW4];cases (w.2.2.2.2.1.zipIdx 0).all (λz=>aD4 w.2.2.2.2.1 w.1.2.length z.2 z.1)<;>cases decide (w.2.2.2.2.2.1.length<=150)<;>cases decide (w.2.2.2.2.2.2.1.length<=4)<;>cases decide (w.2.2.2.2.2.2.2.1.length=w.2.2.2.2.2.2.1.length)<;>cases decide (w.2.2.2.2.2.2.2.2<0)<;>cases w.2.2.2.2.2.1.all (λx=>cG w.1 x.1)<;>cases (w.2.2.2.2.2.2.1.zipIdx 0).all (λz=>aD8 w z.2 z.1&&aEi w z.2 z.1)<;>rfl
 .have e:decide (w.2.2.2.2.2.2.2.1.length=w.2.2.2.2.2.2.1.length)=false:=by simpa using hX
  rw[e];cases kQ w.1
  .rfl
  .cases inR w.2.2.2.1 0 1000000
   .rfl
   .cases aBl w.2.2.1 w.2.2.2.1
    .rfl
    .cases decide (w.2.2.2.2.2.1.length<=150)<;>cases decide (w.2.2.2.2.2.2.1.length<=4)<;>simp
def bMd(n:Int):Int:=bXa (wr ((bXa n 2147483647)+2147483647)) 2147483647
theorem bTl(n:Int):aEf n 2147483647=some (bMd n):=by unfold aEf;rw[kN];rfl
theorem bSp(n:Int):aEj n 2147483647=some (bMd n):=by unfold aEj;rw[qH];rfl
def bMe(a x:Int):Int:=bXa (wr ((wr ((wr (a * (1000003:Int)))+bMd x))+(11:Int))) (2147483647:Int)
def aBg(l:List Int):Int:=bN (λ_ x a=>bMe a x) 0 l 7
theorem bLq{l:List Int}(h:l.length<=68719476736):wG l=some (aBg l):=by
 unfold wG aBg;rw[mJ (λk (a:Int)=>(a,(k:Int))) ((7:Int),(0:Int)) 7 l (λ_ x a=>bMe a x) (λ_=>0) (λ_=>0) 1 id rfl (by omega) (by rw[sum_nil];omega) (λk x a=>by omega) (λk x a hi hx hd hw hk hb=>by
  simp only[hd,hi,hw,zZ,aA,bTl];rfl) (λa=>by simp)]
 rfl
theorem aVw{l:List Int}(h:l.length<=68719476736):tO l=some (aBg l):=by
 unfold tO aBg;rw[mJ (λk (a:Int)=>(a,(k:Int))) ((7:Int),(0:Int)) 7 l (λ_ x a=>bMe a x) (λ_=>0) (λ_=>0) 1 id rfl (by omega) (by rw[sum_nil];omega) (λk x a=>by omega) (λk x a hi hx hd hw hk hb=>by
  simp only[hd,hi,hw,zZ,aA,bSp];rfl) (λa=>by simp)]
 rfl
def aWf(h:den aR)(a:List Int):List Int:=a++[h.1,h.2.1,h.2.2.1]
def aKq(x:den tPp)(a:List Int):List Int:=bN (λ_ h a=>aWf h a) 0 x.2.2.2 (a++[x.1,x.2.1,x.2.2.1])
def aHl(p:den tPt):List Int:=bN (λ_ x a=>aKq x a) 0 p []
theorem bOk{α:Type}(c:Nat)(l:List α):(l.map λ_=>c).sum=c * l.length:=by
 induction l with
 | nil=>rfl
 | cons x l ih=>simp only[bW2,bX3,ih,bXp,Nat.mul_succ];omega
theorem aRr(x:den tPp)(a:List Int):(aKq x a).length<=a.length+(3+3 * x.2.2.2.length):=by
 have h:=yF (f:=λ_ h (a:List Int)=>aWf h a) (m:=bW0) (cost:=λ_=>3) (λk x a=>by simp[aWf]) x.2.2.2 0 (a++[x.1,x.2.1,x.2.2.1]);rw[bOk]at h;unfold aKq;simp at h;omega
theorem aKc:∀p:den tPt,(p.map λx:den tPp=>3+3 * x.2.2.2.length).sum<=3 * tot tPt p
 | []=>by simp
 | x::p=>by
  have h1:=iU (t:=tPp) x p;have h2:x.2.2.2.length<=tot tPp x:=bWk (iN (t:=aR) x.2.2.2) (by simp only[rH,sF];omega);have h3:=aKc p;simp only[bW2,bX3];show _<=3 * tot (.sl tPp) (x::p);rw[h1];have h3:(p.map λx:den tPp=>3+3 * x.2.2.2.length).sum<=3 * tot (.sl tPp) p:=h3;omega
theorem bFl(p:den tPt):(aHl p).length<=3 * tot tPt p:=by
 have h:=yF (f:=λ_ x (a:List Int)=>aKq x a) (m:=bW0) (cost:=λx:den tPp=>3+3 * x.2.2.2.length) (λk x a=>aRr x a) p 0 [];have h2:=aKc p;unfold aHl;simp only[bYc,bXm]at h;omega
theorem aSr{p:den tPt}(h:tot tPt p<=1073741824):nC p=some (aBg (aHl p)):=by
 have hl:=iN (t:=tPp) p;have hl:p.length<=1073741824:=bWk hl h;have hs:=aKc p;have hd':=bFl p;unfold nC;rw[mJ (λk (a:List Int)=>((k:Int),a)) ((0:Int),[]) [] p (λ_ x a=>aKq x a) bW0 (λx:den tPp=>3+3 * x.2.2.2.length) 68719476736 id rfl (by omega) (by simp only[bYc];omega) (λk x a=>aRr x a) (λk x a hi hx hd hw hk hb=>by
  simp only[hd,hi,hw,zZ,aA,aG (b:=8) (n:=a.length) (m:=3) (by decide) (by omega)];rw[mJ (λk (a:List Int)=>((k:Int),a)) ((0:Int),a++[x.1,x.2.1,x.2.2.1]) (a++[x.1,x.2.1,x.2.2.1]) x.2.2.2 (λ_ h a=>aWf h a) bW0 (λ_=>3) 68719476736 id rfl (by omega) (by rw[bOk];simp;omega) (λk h a=>by simp[aWf]) (λk h a hi hx hd hw hk hb=>by
   simp only[hd,hi,hw,zZ,aA,aG (b:=8) (n:=a.length) (m:=3) (by decide) (by omega)];rfl) (λa=>by simp)]
  rfl) (λa=>by simp)]
 simp only[aA];rw[show bN (λ_ x a=>aKq x a) 0 p []=aHl p from rfl];simp only[id,aVw (l:=aHl p) (by omega),aA]
def aF5(a:Int×Bool)(h:den aR):Int×Bool:=cond (!a.2||decide (h.2.2.2.1<a.1)) (h.2.2.2.1,true) a
def aD5(l:dE):Int:=(l.foldl aF5 (0,false)).1
def aJp(p:den tPt):dE:=bN (λ_ x a=>a++x.2.2.2) 0 p []
theorem aXb:∀(p:den tPt) (k:Nat) (a:dE),bN (λ_ (x:den tPp) a=>a++x.2.2.2) k p a=a++p.flatMap (λx:den tPp=>x.2.2.2)
 | [],_,a=>by simp[bN]
 | x::p,k,a=>by
  simp only[bN];rw[aXb p (k+1)];simp
theorem aPc:∀(p:den tPt) (k:Nat) (a:Int×Bool),bN (λ_ (x:den tPp) a=>bN (λ_ h a=>aF5 a h) 0 x.2.2.2 a) k p a=(p.flatMap λx:den tPp=>x.2.2.2).foldl aF5 a
 | [],_,_=>rfl
 | x::p,k,a=>by
  simp only[bN,List.flatMap_cons,List.foldl_append];rw[aPc p (k+1),tZ]
theorem aU3{p:den tPt}(h:tot tPt p<=1073741824):jK p=some (aD5 (aJp p)):=by
 have hl:p.length<=1073741824:=bWk (iN (t:=tPp) p) h;have hs:=aHu p;unfold jK;rw[mJ (λk (a:Int×Bool)=>(a.1,a.2,(k:Int))) ((0:Int),false,(0:Int)) ((0:Int),false) p (λ_ (x:den tPp) a=>bN (λ_ h a=>aF5 a h) 0 x.2.2.2 a) (λ_=>0) (λ_=>0) 1 (λa=>a.1) rfl (by omega) (by rw[sum_nil];omega) (λk x a=>by omega) (λk x a hi hx hd hw hk hb=>by
  have hxl:x.2.2.2.length<=1073741824:=by
   have h1:=yK (t:=tPp) hx;have h2:x.2.2.2.length<=tot tPp x:=bWk (iN (t:=aR) x.2.2.2) (by simp only[rH,sF];omega);have h3:tot (.sl tPp) p<=1073741824:=h;omega
  simp only[hd,hi,hw,zZ,aA];rw[mJ (λk (a:Int×Bool)=>(a.1,a.2,(k:Int))) (a.1,a.2,(0:Int)) a x.2.2.2 (λ_ h a=>aF5 a h) (λ_=>0) (λ_=>0) 1 id rfl (by omega) (by rw[sum_nil];omega) (λk x a=>by omega) (λk h a hi hx hd hw hk hb=>by
   simp only[hd,hi,hw,zZ,aA];unfold aF5;cases ca:a.2
   .rfl
   .cases c:decide (h.2.2.2.1<a.1)<;>simp[c,ca]) (λa=>by simp)]
  rfl) (λa=>by simp)]
 rw[aPc];unfold aD5 aJp;rw[aXb];rfl
def aDv(a b:den tPt):Bool:=
 cond (((fC a).length:Int) != ((fC b).length:Int)) (decide (((fC a).length:Int)<((fC b).length:Int)))
  (cond (aD5 (aJp a) != aD5 (aJp b)) (decide (aD5 (aJp a)>aD5 (aJp b))) (decide (aBg (aHl a)<aBg (aHl b))))
theorem bNb{a b:den tPt}(ha:tot tPt a<=1073741824)(hb:tot tPt b<=1073741824):pI a b=some (aDv a b):=by
 unfold pI lC aDv;simp only[aKu (p:=a) (bWk ha (by decide)),aKu (p:=b) (bWk hb (by decide)),aU3 ha,aU3 hb,aSr ha,aSr hb,aA];cases ((fC a).length:Int) != ((fC b).length:Int)
 .cases aD5 (aJp a) != aD5 (aJp b)<;>rfl
 .rfl
def aBz(x:den tPt)(out:lPt):Nat->Nat
 | 0=>0
 | k+1=>cond (aDv x ((out[k]?).getD [])) (aBz x out k) (k+1)
theorem bAx(x:den tPt)(out:lPt):∀k,aBz x out k<=k
 | 0=>bWx _
 | k+1=>by
  unfold aBz;cases aDv x ((out[k]?).getD [])
  .exact bWx _
  .exact Nat.le_succ_of_le (bAx x out k)
theorem aRn{x:den tPt}{out:lPt}{step:Int->Option (Int⊕Int)}(hl:out.length<=68719476736)
  (h0:step 0=some (.inr 0)) (h1:∀k (y:den tPt),out[k]? =some y->step ((k+1:Nat):Int)=some (cond (aDv x y) (.inl (k:Int)) (.inr ((k+1:Nat):Int)))):
  ∀k,k<=out.length->aC step (k:Int)=some ((aBz x out k:Nat):Int)
 | 0,_=>aW h0
 | k+1,hk=>by
  have hy:out[k]? =some out[k]:=bWl (by omega);have hs:=h1 k _ hy;unfold aBz;rw[hy,bXo];cases hb:aDv x out[k] with
  | true=>rw[hb]at hs;rw[cU hs];exact aRn hl h0 h1 k (by omega)
  | false=>rw[hb]at hs;exact aW hs
def aGx(x:den tPt)(out:lPt):lPt:=out.take (aBz x out out.length)++[x]++out.drop (aBz x out out.length)
theorem aUu(x:den tPt)(out:lPt):tot (.sl tPt) (aGx x out)=tot (.sl tPt) out+(1+tot tPt x):=by
 have h:=rF (t:=tPt) (out.take (aBz x out out.length)) (out.drop (aBz x out out.length));rw[bX0]at h;unfold aGx;rw[rF,rF,aCw];omega
def aEp(l:lPt):lPt:=bN (λ_ x a=>aGx x a) 0 l []
theorem bFs(l:lPt):tot (.sl tPt) (aEp l)<=tot (.sl tPt) l:=by
 have h:=yF (f:=λ_ x (a:lPt)=>aGx x a) (m:=tot (.sl tPt)) (cost:=λx=>1+tot tPt x) (λk x a=>Nat.le_of_eq (aUu x a)) l 0 [];rw[aP2,aAi]at h;unfold aEp;omega
theorem bRf{l:lPt}(h:tot (.sl tPt) l<=1073741824):rD l=some (aEp l):=by
 have hl:=iN (t:=tPt) l;unfold rD aEp ixb;rw[mJ (λk (a:lPt)=>((k:Int),a)) ((0:Int),[]) [] l (λ_ x a=>aGx x a) (tot (.sl tPt)) (λx=>1+tot tPt x) 1073741824 id rfl (by omega) (by rw[aP2,aAi];omega) (λk x a=>Nat.le_of_eq (aUu x a)) (λk x a hi hx hd hw hk hb=>by
  have ha:=iN (t:=tPt) a;have hsm:SmB 68719476736 tPt x:=(cF (B:=1073741824) (t:=tPt) (by omega)).mono (by decide);simp only[hd,hi,hw,zZ,aA,cC,eG,dC,dA,dH];rw[aRn (x:=x) (out:=a) (by omega) (by rfl) (λj y hy=>by
   have hlt:=(bWn.1 hy).1;have hty:=yK (t:=tPt) hy;have e1:decide (((j+1:Nat):Int)>0)=true:=by simp<;>omega
   have e2:wr (((j+1:Nat):Int) - 1)=(j:Int):=by
    have :wr (((j+1:Nat):Int) - 1)=((j+1:Nat):Int) - 1:=wri (by omega) (by omega);rw[this];omega
   have e3:decide ((j:Int)<(a.length:Int))=true:=by simp;omega
   simp only[e1,e2,e3,eE,zZ,bWs,hy,aA,bNb (a:=x) (b:=y) (by omega) (by omega)];cases aDv x y<;>rfl) a.length (bWx _)]
  have hp:=bAx x a a.length;have s1:cQ (0:Int) ((aBz x a a.length:Nat):Int) (a.length:Int)=true:=by
   have :=aDc (a:=0) (b:=aBz x a a.length) (n:=a.length);rw[show ((0:Nat):Int)=0 from rfl]at this;rw[this];simp;omega
  have s2:cQ ((aBz x a a.length:Nat):Int) (a.length:Int) (a.length:Int)=true:=by rw[aDc];simp;omega
  simp only[aA,s1,s2,zZ,jP,aXo hp,aFl hsm];rw[aG (b:=24) (by decide) (by simp<;>omega),aG (b:=24) (by decide) (by simp<;>omega),aG (b:=24) (by decide) (by simp<;>omega)];simp only[zZ,bXc,aA];rfl) (λa=>by simp)]
 rfl
def aAm(l:lRv)(now:Int):lRv:=l.filter λx=>decide (now<=x.2.2)
theorem bG9{l:lRv}{now:Int}(h:l.length<=1073741824):fW l now=some (aAm l now):=by
 unfold fW aAm pj3;rw[mJ (λk (a:lRv)=>((k:Int),a)) ((0:Int),[]) [] l (λ_ x a=>if decide (now<=x.2.2)=true then a++[x] else a) bW0 (λ_=>1) 68719476736 id rfl (by omega) (by rw[fK];simp;omega) (λk x a=>by split<;>simp) (λk x a hi hx hd hw hk hb=>by
  simp only[hd,hi,hw,zZ,aA,bE,aG (b:=24) (n:=a.length) (m:=1) (by decide) (by omega)];cases decide (now<=x.2.2)<;>simp) (λa=>by simp),yU (λx:den tRv=>decide (now<=x.2.2))]
 simp
def aAj(l:lRv)(p:den tPt)(now:Int):Bool:= !((aAm l now).all λx=> !oE p x)
theorem bCm(l:lRv)(now:Int):(aAm l now).length<=l.length:=bZb _ _
theorem bFc{l:lRv}{p:den tPt}{now:Int}(h:l.length<=1073741824)(hp:tot tPt p<=1073741824):sN l p now=some (aAj l p now):=by
 have ha:=bCm l now;unfold sN aAj ixb pj3;rw[bG9 h,aA];rw[aU (l:=aAm l now) (λ_ x=>if !oE p x then none else some true) (by omega) (λk x hi hd hw hm hk=>by
  have hy:(aAm l now)[k]? =some x:=by rw[<- aO];exact hi
  simp only[hd,hy,hw,zZ,aA,eE,bWs,bE,bG4 hp];cases oE p x<;>rfl) (by simp),oN (λx:den tRv=> !oE p x)]
 cases (aAm l now).all (λx=> !oE p x)<;>rfl
def aFt(l:lRv)(p:lPt)(now:Int):lPt:=(p.filter λx=> !aAj l x now)++p.filter λx=>aAj l x now
theorem bI0{l:lRv}{p:lPt}{now:Int}(h:l.length<=1073741824)(hp:tot (.sl tPt) p<=1073741824):iS l p now=some (aFt l p now):=by
 have hl:=iN (t:=tPt) p;unfold iS aFt;rw[mJ (λk (a:lPt)=>((k:Int),a)) ((0:Int),[]) [] p (λ_ x a=>if (!aAj l x now)=true then a++[x] else a) bW0 (λ_=>1) 68719476736 id rfl (by omega) (by rw[fK];simp;omega) (λk x a=>by split<;>simp) (λk x a hi hx hd hw hk hb=>by
  have ht:=yK (t:=tPt) hx;have hsm:SmB 68719476736 tPt x:=(cF (B:=1073741824) (t:=tPt) (by omega)).mono (by decide);simp only[hd,hi,hw,zZ,aA,bFc (l:=l) (p:=x) (now:=now) h (by omega),aFl hsm,aG (b:=24) (n:=a.length) (m:=1) (by decide) (by omega)];cases aAj l x now<;>simp) (λa=>by simp),yU (λx:den tPt=> !aAj l x now)]
 have e:(p.filter λx=> !aAj l x now).length<=p.length:=bZb _ _;simp only[id,aA,bXc];rw[mJ (λk (a:lPt)=>((k:Int),a)) ((0:Int),p.filter λx=> !aAj l x now) (p.filter λx=> !aAj l x now) p (λ_ x a=>if aAj l x now=true then a++[x] else a) bW0 (λ_=>1) 68719476736 id rfl (by omega) (by rw[fK];omega) (λk x a=>by split<;>simp) (λk x a hi hx hd hw hk hb=>by
  have ht:=yK (t:=tPt) hx;have hsm:SmB 68719476736 tPt x:=(cF (B:=1073741824) (t:=tPt) (by omega)).mono (by decide);simp only[hd,hi,hw,zZ,aA,bFc (l:=l) (p:=x) (now:=now) h (by omega),aFl hsm,aG (b:=24) (n:=a.length) (m:=1) (by decide) (by omega)];cases aAj l x now<;>simp) (λa=>by simp),yU (λx:den tPt=>aAj l x now)]
 rfl
def aKp(f:den tFl)(p:lPt)(now:Int):lPt:=(aFt f.2.2.2.2.2.2.2.2 (aEp p) now).take (min (aFt f.2.2.2.2.2.2.2.2 (aEp p) now).length 24)
theorem bQ8(n:Nat):(if (24:Int)<(n:Int) then (24:Int) else (n:Int))=((min n 24:Nat):Int):=by
 by_cases c:24<n
 .rw[zT (by omega),Nat.min_eq_right (by omega)];rfl
 .rw[zS (by omega),Nat.min_eq_left (by omega)]
theorem bKv(n:Nat):cQ (0:Int) ((min n 24:Nat):Int) (n:Int)=true:=by
 have :=aDc (a:=0) (b:=min n 24) (n:=n);rw[show ((0:Nat):Int)=0 from rfl]at this;rw[this];simp;omega
theorem bUt{f:den tFl}{p:lPt}{now:Int}(h:tot tFl f<=1073741824)(hp:tot (.sl tPt) p<=1073741824):tG f p now=some (f.1,f.2.1,f.2.2.1,f.2.2.2.1,aKp f p now,0,0,f.2.2.2.2.1,f.2.2.2.2.2.2.2.2):=by
 have hf:SmB 68719476736 tFl f:=(cF h).mono (by decide);have hv:f.2.2.2.2.2.2.2.2.length<=1073741824:=bWk (iN (t:=tRv) _) (cM (cM (cM (cM (cM (cM (cM (cM h))))))));have hs:=bFs p;unfold tG aKp pj9 zz6 zz8;simp only[bE,aRh hf,bRf hp,bI0 (l:=f.2.2.2.2.2.2.2.2) (p:=aEp p) (now:=now) hv (by omega),bNl,aA,bQ8,bKv,zZ,jP];rfl
theorem bO3{l:lRs}(h:l.length<=1073741824):eK l=some l:=by
 unfold eK;rw[aG (by decide) (by simp;omega)];simp
theorem bRc{g:den tSc}(h1:g.2.1.length<=1073741824)(h2:g.2.2.length<=1073741824):eQ g=some g:=by
 unfold eQ;rw[bO3 h1,aA,aG (by decide) (by simp;omega)];simp
def dG(l:lUs)(id s d:Int):Int:=if place l id s d<0 then 0 else ((l[(place l id s d).toNat]?).map (·.2.2.2)).getD 0
theorem bRn{g:den tSc}{id s d:Int}(h:g.2.2.length<=1073741824):rB g id s d=some (dG g.2.2 id s d):=by
 unfold rB dG pj3;rw[show ((g.1,g.2.1,g.2.2):den tSc)=g from rfl,aQ4 h,aA];rcases aXs g.2.2 id s d with hp | ⟨j,x,hp,hx,hj⟩
 .rw[hp];rfl
 .rw[hp,zX (by omega),zZ,aO,hx,zS (by omega)];simp[hx]
def qK(l:lUs)(id s d:Int):lUs:=
 if place l id s d<0 then l++[(id,s,d,1)] else match l[(place l id s d).toNat]? with
  | some x=>l.set (place l id s d).toNat (x.1,x.2.1,x.2.2.1,wr (x.2.2.2+1))
  | none=>l
theorem aTg(l:lUs)(id s d:Int):(qK l id s d).length<=l.length+1:=by
 unfold qK;split
 .simp
 .split<;>simp
def pT(g:den tSc)(id s d now:Int):q26:=
 if dG g.2.2 id s d<oU g id s d now then (g.1,true,g.2.1,qK g.2.2 id s d)
 else if dG g.2.2 0 s d<oU g 0 s d now then (g.1,true,g.2.1,qK g.2.2 0 s d)
 else (g.1,false,g.2.1,g.2.2)
theorem bQl{g:den tSc}{id s d now:Int}(h1:g.2.1.length<=1073741824)(h2:g.2.2.length<=1073741824):tC g id s d now=some (pT g id s d now):=by
 unfold tC ixb pj2 pj3;rw[show ((g.1,g.2.1,g.2.2):den tSc)=g from rfl,bRc h1 h2,aA];rw[aU (l:=[id,0]) (λ_ n=>if dG g.2.2 n s d<oU g n s d now then some (g.1,true,g.2.1,qK g.2.2 n s d) else none) (by simp) (λk n hi hd hw hx hk=>by
  rw[aO]at hi;have hd0:decide ((0:Int)<=(k:Int))=true:=by simp
  simp only[hd,hd0,hi,hw,zZ,aA,bWs,bRn h2,bAo h1,aQ4 h2]
  by_cases hu:dG g.2.2 n s d<oU g n s d now
  .rw[zW (by omega),zY,zT hu];unfold qK;rcases aXs g.2.2 n s d with hp | ⟨j,x,hp,hx,hj⟩
   .rw[hp,aG (b:=32) (by decide) (by omega)];rfl
   .have hd1:decide ((j:Int)<(g.2.2.length:Int))=true:=by simpa using hj
    have hd2:decide ((j:Int)>=0)=true:=by simp
    have hd3:decide ((0:Int)<=(j:Int))=true:=by simp
    rw[hp,zS (by omega)];simp only[hd1,hd2,hd3,zZ,bWs,hx,aA]
  .rw[zX (by omega),zZ,zS hu]) (by simp)]
 unfold pT;simp only[bL]
 by_cases hu:dG g.2.2 id s d<oU g id s d now
 .simp[hu]
 .by_cases hv:dG g.2.2 0 s d<oU g 0 s d now<;>simp[hu,hv]
def lP(t:den tTo)(r d:Int):Int:=
 match bL (λk x=>if bM x r d then some (k:Int) else none) 0 t.2 with
 | some i=>i
 | none=> -1
theorem uU(t:den tTo)(r d:Int):lP t r d= -1\/ ∃(j:Nat) (x:den tLk),lP t r d=(j:Int)/\t.2[j]? =some x/\bM x r d=true:=by
 unfold lP;cases h:bL (λk x=>if bM x r d then some (k:Int) else none) 0 t.2 with
 | none=>exact .inl rfl
 | some i=>
  obtain⟨j,x,h1,h2,h3⟩:=aC7 h;exact .inr ⟨j,x,by simpa using h2,h1,h3⟩
theorem aM9{t:den tTo}{r d:Int}(h:t.2.length<=68719476736):jW t r d=some (lP t r d):=by
 unfold jW pj5;rw[aU (l:=t.2) (λk x=>if bM x r d then some (k:Int) else none) (by omega) (λk x hi hd hw hx hk=>by
  simp only[hd,hi,hw,zZ,aA,aZa];cases bM x r d<;>rfl) (by simp)]
 unfold lP;cases bL (λk x=>if bM x r d then some (k:Int) else none) 0 t.2<;>rfl
theorem aWc{t:den tTo}{r d:Int}(h:t.2.length<=68719476736):mL t r d=some (lP t r d):=by
 unfold mL pj5;rw[aU (l:=t.2) (λk x=>if bM x r d then some (k:Int) else none) (by omega) (λk x hi hd hw hx hk=>by
  simp only[hd,hi,hw,zZ,aA,bAe];cases bM x r d<;>rfl) (by simp)]
 unfold lP;cases bL (λk x=>if bM x r d then some (k:Int) else none) 0 t.2<;>rfl
def aB0(x:den tLk)(r d:Int):q17:=cond (x.1==r&&x.2.1==d) (x.2.2.1,x.2.2.2.1) (x.1,x.2.1)
def remote(t:den tTo)(r d:Int):q17:=if lP t r d<0 then (-1,0) else aB0 ((t.2[(lP t r d).toNat]?).getD (0,0,0,0,0)) r d
theorem aXr{t:den tTo}{r d:Int}(h:t.2.length<=68719476736):mM t r d=some (remote t r d):=by
 unfold mM remote pj2;simp only[bE,aM9 h,aA];rcases uU t r d with e | ⟨j,x,e,hx,he⟩
 .rw[e];rfl
 .rw[e,zW (by omega),zY,zS (by omega),aO,hx,bWs,hx,aA,bXo];unfold aB0;cases x.1==r<;>cases x.2.1==d<;>rfl
theorem aNd{t:den tTo}{r d:Int}(h:t.2.length<=68719476736):jZ t r d=some (remote t r d):=by
 unfold jZ remote pj2;simp only[bE,aWc h,aA];rcases uU t r d with e | ⟨j,x,e,hx,he⟩
 .rw[e];rfl
 .rw[e,zW (by omega),zY,zS (by omega),aO,hx,bWs,hx,aA,bXo];unfold aB0;cases x.1==r<;>cases x.2.1==d<;>rfl
def aAt(x:den tLk)(r d:Int):Int:=cond (x.2.2.2.2==1) 1 (cond (x.2.2.2.2==3) 4 (cond (x.2.2.2.2==2) (cond (x.1==r&&x.2.1==d) 2 3) 0))
def eF(t:den tTo)(r d:Int):Int:=cond (d==0) 5 (if lP t r d<0 then 0 else aAt ((t.2[(lP t r d).toNat]?).getD (0,0,0,0,0)) r d)
theorem bPv{t:den tTo}{r d:Int}(h:t.2.length<=68719476736):iZ t r d=some (eF t r d):=by
 unfold iZ eF pj2 zz4;simp only[bE,aM9 h,aA];cases d==0
 .rcases uU t r d with e | ⟨j,x,e,hx,he⟩
  .rw[e];rfl
  .rw[e,zW (by omega),zY,zY,zY,zS (by omega),aO,hx,bWs,hx,aA,bXo];unfold aAt;rw[show (x.2.2.2.2 != 2)= !(x.2.2.2.2==2) from rfl];cases x.2.2.2.2==1<;>cases x.2.2.2.2==3<;>cases x.2.2.2.2==2<;>cases x.1==r<;>cases x.2.1==d<;>rfl
 .rfl
theorem aQ6{t:den tTo}{r d:Int}(h:t.2.length<=68719476736):gM t r d=some (eF t r d):=by
 unfold gM eF pj2 zz4;simp only[bE,aWc h,aA];cases d==0
 .rcases uU t r d with e | ⟨j,x,e,hx,he⟩
  .rw[e];rfl
  .rw[e,zW (by omega),zY,zY,zY,zS (by omega),aO,hx,bWs,hx,aA,bXo];unfold aAt;cases x.2.2.2.2==1<;>cases x.2.2.2.2==3<;>cases x.2.2.2.2==2<;>cases x.1==r<;>cases x.2.1==d<;>rfl
 .rfl
def aAe(a b:Int):Bool:=cond (a==5||a==2) (b==2||b==5||(b==1||b==3)) (cond (a==3) (b==2||b==5) (cond (a==1) (b==2||b==5||b==1) false))
theorem bHt(a b:Int):jM a b=some (aAe a b):=by
 unfold jM aAe;cases c5:a==5<;>cases c2:a==2<;>cases a==3<;>cases a==1<;>cases b==2<;>cases b==5<;>cases b==1<;>cases b==3<;>first | rfl | (simp at c5 c2;omega)
def aLd(t:den tTo)(s:den kY):Bool:=aAe (eF t s.1 s.2.1) (eF t s.1 s.2.2)&&(!(s.2.1==s.2.2)||s.2.1==0)
theorem bRl{t:den tTo}{s:den kY}(h:t.2.length<=68719476736):nO t s=some (aLd t s):=by
 unfold nO aLd pj2;simp only[bE,bPv h,bHt,aA];rw[show (s.2.1 != s.2.2)= !(s.2.1==s.2.2) from rfl];cases aAe (eF t s.1 s.2.1) (eF t s.1 s.2.2)<;>cases s.2.1==s.2.2<;>cases s.2.1==0<;>rfl
def xR(s i:Int):Bool:=inR s 0 65535&&(inR i 0 15&&(aFe .i64 (shr .i64 s i) 1==1))
theorem aTj{i:Int}(h:inR i 0 15=true):IntKind.wrap .u64 i=i:=by
 obtain⟨h0,h1⟩:=aI.1 h;have :=aUp (n:=i.toNat) (by omega)
 rwa [bY3 h0]at this
theorem bQt(s i:Int):sI s i=some (xR s i):=by
 unfold sI xR oM;simp only[kN,aA];cases inR s 0 65535
 .rfl
 .cases c:inR i 0 15
  .rfl
  .rw[aTj c,zW (by have :=aI.1 c;omega)];rfl
def aV6(s i:Int):Int:=cond (inR s 0 65535&&inR i 0 15) (bOr .i64 s (shl .i64 1 i)) s
theorem bUp(s i:Int):pH s i=some (aV6 s i):=by
 unfold pH aV6 oM;simp only[kN,aA];cases inR s 0 65535
 .rfl
 .cases c:inR i 0 15
  .rfl
  .rw[aTj c,zW (by have :=aI.1 c;omega)];rfl
theorem aW1{α:Type}(p:α->Bool)(N:Int):∀(l:List α) (k:Nat),N=((k+l.length:Nat):Int)->aGw (λk x (_:Unit)=>if p x then .inl () else .inr (k:Int)) (λ_=>N) k l ()=((k+l.findIdx (λx=> !p x):Nat):Int)
 | [],k,h=>by simpa [aGw] using h
 | x::xs,k,h=>by
  simp only[aGw,List.findIdx_cons];cases hp:p x with
  | true=>
   have :=aW1 p N xs (k+1) (by rw[h];simp;omega);simp only[zV,this,bWw,zY];omega
  | false=>simp
def pJ(l:List Int)(n:Int):Nat:=l.findIdx λx=> !decide (x<n)
theorem aP6(l:List Int)(n:Int):pJ l n<=l.length:=List.findIdx_le_length
theorem aSi{l:List Int}{n:Int}{step:Int->Option (Int⊕Int)}(hl:l.length<=68719476736)
  (h:∀(k:Nat) (x:Int),idx l (k:Int)=some x->l[k]? =some x->decide ((k:Int)<(l.length:Int))=true->IntKind.i64.wrap ((k:Int)+1)=((k+1:Nat):Int)->step (k:Int)=some (if decide (x<n) then .inl ((k+1:Nat):Int) else .inr (k:Int)))
  (he:step (l.length:Int)=some (.inr (l.length:Int))):aC step (0:Int)=some (pJ l n:Int):=by
 rw[aLg (λk (_:Unit)=>(k:Int)) (0:Int) () l (λk x _=>if decide (x<n) then .inl () else .inr (k:Int)) (λ_ _=>True) (λ_=>(l.length:Int)) rfl (by omega) trivial (λk x a hi hx hd hw hk _=>by
  refine⟨?_,λ_ _=>trivial⟩;rw[h k x hi hx hd hw];cases decide (x<n)<;>rfl) (λ_ _=>he)]
 rw[aW1 (λx=>decide (x<n)) (l.length:Int) l 0 (by simp)];simp[pJ]
def qD(l:List Int)(n:Int):List Int:=if l[pJ l n]? =some n then l else l.take (pJ l n)++[n]++l.drop (pJ l n)
theorem aDt(l:List Int)(n:Int):(qD l n).length<=l.length+1:=by
 unfold qD;split
 .omega
 .simp;omega
theorem aKl{k n:Nat}(h:k<=n):cQ (0:Int) (k:Int) (n:Int)=true:=by
 simp only[cQ,bWj,zR];omega
theorem aEe{k n:Nat}(h:k<=n):cQ (k:Int) (n:Int) (n:Int)=true:=by
 simp only[cQ,bWj,zR];omega
theorem aIe{α:Type}{l:List α}{k:Nat}:cut l (k:Int) (l.length:Int)=l.drop k:=by
 unfold cut;rw[bWs];apply List.take_of_length_le;simp
theorem aZk{l:List Int}(h:l.length<=68719476736):oX l=some l:=by
 unfold oX;rw[aG (n:=([]:List Int).length) (by decide) (by simpa using h)];rfl
theorem aPp{l:List Int}{n:Int}{b:Bool}(hb:(l[pJ l n]? =some n)=(b=true)):qD l n=cond b l (l.take (pJ l n)++[n]++l.drop (pJ l n)):=by
 unfold qD;cases b with
 | true=>rw[zT (by rw[hb])];rfl
 | false=>rw[zS (by rw[hb];simp)];rfl
theorem aO2{l:List Int}{n:Int}(h:l.length<=4294967296):oR l n=some (qD l n):=by
 have hp:=aP6 l n;unfold oR;rw[aSi (l:=l) (n:=n) (by omega) (λk x hi hx hd hw=>by
  simp only[hd,zZ,hi,aA,hw];cases decide (x<n)<;>rfl) (by simp)]
 simp only[aA,aKl hp,aEe hp,jP,aIe,zZ,cC,eG,dC,dA,dH,aZk (l:=l.take (pJ l n)) (by simp;omega)];rw[aG (b:=8) (n:=(l.take (pJ l n)).length) (m:=1) (by decide) (by simp;omega),aG (b:=8) (m:=(l.drop (pJ l n)).length) (by decide) (by simp;omega)]
 by_cases hlt:pJ l n<l.length
 .have hx:l[pJ l n]? =some l[pJ l n]:=bWl hlt;rw[zX (by omega),zZ,aO,hx,aA,aA];rw[aPp (b:=l[pJ l n]==n) (by rw[hx];simp)];cases l[pJ l n]==n<;>rfl
 .rw[zW (by omega),zY,aA];rw[aPp (b:=false) (by rw[List.getElem?_eq_none (by omega)];simp)];rfl
theorem aPo{l:List Int}{n:Int}(h:l.length<=4294967296):tK l n=some (qD l n):=by
 have hp:=aP6 l n;unfold tK ixb;rw[aSi (l:=l) (n:=n) (by omega) (λk x hi hx hd hw=>by
  simp only[hd,zZ,eE,bWs,hx,aA,hw];cases decide (x<n)<;>rfl) (by simp)]
 simp only[aA,aKl hp,aEe hp,jP,aIe,zZ,cC,eG,dC,dA,dH,bXc,bYc];rw[aG (b:=8) (n:=0) (m:=(l.take (pJ l n)).length) (by decide) (by simp;omega),aG (b:=8) (n:=(l.take (pJ l n)).length) (m:=1) (by decide) (by simp;omega),aG (b:=8) (m:=(l.drop (pJ l n)).length) (by decide) (by simp;omega)]
 by_cases hlt:pJ l n<l.length
 .have hx:l[pJ l n]? =some l[pJ l n]:=bWl hlt;rw[zX (by omega),zZ,eE,zZ,zZ,bWs,hx,aA,aA];rw[aPp (b:=l[pJ l n]==n) (by rw[hx];simp)];cases l[pJ l n]==n<;>rfl
 .rw[zW (by omega),zY,aA];rw[aPp (b:=false) (by rw[List.getElem?_eq_none (by omega)];simp)];rfl
def mO(r:Int)(x:den tLk)(a:List Int):List Int:=cond (x.2.2.1==r) (qD (cond (x.1==r) (qD a x.2.1) a) x.2.2.2.1) (cond (x.1==r) (qD a x.2.1) a)
theorem aJn(r:Int)(x:den tLk)(a:List Int):(mO r x a).length<=a.length+2:=by
 unfold mO;have h1:=aDt a x.2.1;have h2:=aDt (qD a x.2.1) x.2.2.2.1;have h3:=aDt a x.2.2.2.1;cases x.1==r<;>cases x.2.2.1==r<;>simp only[zZ,zY]<;>omega
def gB(t:den tTo)(r:Int):List Int:=bN (λ_ x a=>mO r x a) 0 t.2 []
theorem aEq(t:den tTo)(r:Int):(gB t r).length<=2 * t.2.length:=by
 have h:=yF (f:=λ_ x (a:List Int)=>mO r x a) (m:=bW0) (cost:=λ_=>2) (λk x a=>aJn r x a) t.2 0 [];rw[aCx]at h;simpa [gB] using h
theorem bPt{t:den tTo}{r:Int}(h:t.2.length<=1073741824):pN t r=some (gB t r):=by
 unfold pN;rw[(rY (λk (a:List Int)=>(a,(k:Int))) ([],(0:Int)) [] t.2 (λ_ x a=>mO r x a) bW0 (λ_=>2) 4294967296 id rfl (by omega) (by rw[aCx];simp;omega) (λk x a hi hx hd hw hk hb=>by
  refine⟨?_,aJn r x a⟩;have h1:=aDt a x.2.1;simp only[hd,hi,hw,zZ,aA,aO2 (l:=a) (by omega),aO2 (l:=qD a x.2.1) (by omega)];unfold mO;cases x.1==r<;>cases x.2.2.1==r<;>simp only[zZ,zY,aA,aO2 (l:=a) (by omega),aO2 (l:=qD a x.2.1) (by omega)]) (λa=>by simp)).1]
 rfl
theorem aPw{t:den tTo}{r:Int}(h:t.2.length<=1073741824):jJ t r=some (gB t r):=by
 unfold jJ;rw[(rY (λk (a:List Int)=>((k:Int),a)) ((0:Int),[]) [] t.2 (λ_ x a=>mO r x a) bW0 (λ_=>2) 4294967296 id rfl (by omega) (by rw[aCx];simp;omega) (λk x a hi hx hd hw hk hb=>by
  refine⟨?_,aJn r x a⟩;have h1:=aDt a x.2.1;simp only[hd,hi,hw,zZ,aA,aPo (l:=a) (by omega),aPo (l:=qD a x.2.1) (by omega)];unfold mO;cases x.1==r<;>cases x.2.2.1==r<;>simp only[zZ,zY,aA,aPo (l:=a) (by omega),aPo (l:=qD a x.2.1) (by omega)]) (λa=>by simp)).1]
 rfl
theorem aL5{α:Type}(l:List α):(l.map λ_=>0).sum=0:=by
 induction l with
 | nil=>rfl
 | cons x l ih=>rw[bW2,bX3,ih]
def dU(t:den tTo)(dead:List Int)(r:Int):Int:=bN (λ_ x a=>cond (qO dead (lP t r x)) (aV6 a x) a) 0 (gB t r) 0
theorem bAw{t:den tTo}{dead:List Int}{r:Int}(h:t.2.length<=1073741824)(hd:dead.length<=68719476736):eL t dead r=some (dU t dead r):=by
 have hl:=aEq t r;unfold eL pj2;simp only[bE,bPt h,aA];rw[mJ (λk (a:Int)=>(a,(k:Int))) ((0:Int),(0:Int)) 0 (gB t r) (λ_ x a=>cond (qO dead (lP t r x)) (aV6 a x) a) (λ_=>0) (λ_=>0) 0 id rfl (by omega) (by rw[aL5];exact bWx _) (λ_ _ _=>bWx _) (λk x a hi hx hd' hw hk hb=>by
  simp only[hd',hi,hw,zZ,aA,aM9 (t:=t) (r:=r) (d:=x) (by omega),aW0 hd,bUp];cases qO dead (lP t r x)<;>rfl) (λa=>by simp)]
 rfl
def aFf(key ts beta:Int)(h:den aR):Int:=aBg (([key]++[ts,beta,h.1,h.2.1,h.2.2.1,h.2.2.2.1])++[key])
theorem bUg(key ts beta:Int)(h:den aR):wF key ts beta h=some (aFf key ts beta h):=by
 unfold wF rR aFf;rw[aG (b:=8) (n:=[key].length) (by decide) (by simp),aG (b:=8) (by decide) (by simp),bLq (by simp)];rfl
theorem bGg(key ts beta:Int)(h:den aR):tR key ts beta h=some (aFf key ts beta h):=by
 unfold tR rJ aFf;rw[aG (b:=8) (n:=[key].length) (by decide) (by simp),aG (b:=8) (by decide) (by simp),aVw (by simp)];rfl
def h0:den aR:=(0,0,0,0,0)
def bC6(t:den tTo)(r:Int):Int:=((t.1[r.toNat]?).getD (0,false,0)).2.2
def tP(t:den tTo)(ts beta:Int)(h:den aR):Bool:=gS h&&(cG t h.1&&(h.2.2.2.2==aFf (bC6 t h.1) ts beta h))
theorem bGu{t:den tTo}{ts beta:Int}{h:den aR}(ht:t.1.length<=68719476736):qX t ts beta h=some (tP t ts beta h):=by
 unfold qX tP pj2 pj5 zz4;simp only[bE,aM2,aJe ht,aA,bUg];cases gS h
 .rfl
 .cases c:cG t h.1
  .rfl
  .obtain⟨x,hx,ix⟩:=aAv c;rw[ix,bC6,hx];rfl
theorem bH6{t:den tTo}{ts beta:Int}{h:den aR}(ht:t.1.length<=68719476736):jT t ts beta h=some (tP t ts beta h):=by
 unfold jT tP pj2 pj5 zz4;simp only[bE,aMd,aDn ht,aA,bGg];cases gS h
 .rfl
 .cases c:cG t h.1
  .rfl
  .obtain⟨x,hx,ix⟩:=aAv c;rw[ix,bC6,hx];rfl
def vS(t:den tTo)(l:dE)(k:Nat)(x:den aR):Bool:=gS x&&(cG t x.1&&(l.take k).all λy=> !(y.1==x.1))
def aH6(t:den tTo)(l:dE):Bool:=(l.zipIdx 0).all λz=>vS t l z.2 z.1
theorem bO0{t:den tTo}{l:dE}(ht:t.1.length<=68719476736)(hl:l.length<=68719476736):wQ t l=some (inR (l.length:Int) 1 8&&aH6 t l):=by
 unfold wQ aH6 pj2 pj5;rw[aU (l:=l) (λk x=>if vS t l k x then none else some false) (by omega) (λk x hi hd hw hm hk=>by
  simp only[hd,hi,zZ,aA,bE,aM2,aJe ht,uP hk,jP,hw];rw[aU (l:=l.take k) (λ_ y=>if !(y.1==x.1) then none else some (bWh (bWh false))) (by rw[tS hk];omega) (λj y hi hd hw hm hk=>by
   simp only[hd,hi,hw,zZ,aA];cases y.1==x.1<;>rfl) (by simp),oN (λy:den aR=> !(y.1==x.1))]
  unfold vS;cases gS x<;>cases cG t x.1<;>cases (l.take k).all (λy=> !(y.1==x.1))<;>rfl) (by simp),zG (vS t l)]
 rw[kN,aA];cases inR (l.length:Int) 1 8<;>cases (l.zipIdx 0).all (λz=>vS t l z.2 z.1)<;>rfl
def aAp(t:den tTo)(p:den tPp)(x y:den aR):Bool:= !(pEg p x==0)&&((remote t x.1 (pEg p x)).1==y.1&&(remote t x.1 (pEg p x)).2==pIn p y)
def sP(t:den tTo)(p:den tPp)(k:Nat)(y:den aR):Bool:=decide (k=0)||aAp t p ((p.2.2.2[k - 1]?).getD h0) y
def bB(t:den tTo)(p:den tPp):Bool:=
 inR (p.2.2.2.length:Int) 1 8&&(inR p.1 1 4&&(inR p.2.1 0 1000000&&(eH p.2.2.1&&(aH6 t p.2.2.2&&(p.2.2.2.zipIdx 0).all λz=>sP t p z.2 z.1))))
theorem bJ2(t:den tTo)(p:den tPp):((p.2.2.2.drop 1).zipIdx 0).all (λz=>aAp t p ((p.2.2.2[z.2]?).getD h0) z.1)=(p.2.2.2.zipIdx 0).all (λz=>sP t p z.2 z.1):=by
 rw[bXj,kJ (λk x=>aAp t p ((p.2.2.2[k]?).getD h0) x),kJ (sP t p)];constructor
 .intro h k x hx;cases k with
  | zero=>rfl
  | succ k=>
   have :=h k x (by rw[bYd,Nat.add_comm];exact hx);simpa [sP] using this
 .intro h k x hx;rw[bYd,Nat.add_comm]at hx;have :=h (k+1) x hx;simpa [sP] using this
theorem aF4(a b:Int):(a != b)= !(a==b):=rfl
theorem bHg{t:den tTo}{p:den tPp}(ht:t.1.length<=68719476736)(ht2:t.2.length<=68719476736)(hl:p.2.2.2.length<=68719476736):qY t p=some (bB t p):=by
 unfold qY bB pj2 pj4;rw[aU (l:=p.2.2.2.drop 1) (λk y=>if aAp t p ((p.2.2.2[k]?).getD h0) y then none else some false) (by rw[bYy];omega) (λk y hi hd hw hm hk=>by
  have hy:p.2.2.2[k+1]? =some y:=by rw[aO,bYd,Nat.add_comm]at hi;exact hi
  have hlt:k+1<p.2.2.2.length:=(bWn.1 hy).1;obtain⟨x,hx⟩:∃x,p.2.2.2[k]? =some x:=⟨_,bWl (by omega)⟩
  have hd':decide ((k:Int)<wr ((p.2.2.2.length:Int) - 1))=true:=by rw[aAo hl];simp;omega
  have hy':idx p.2.2.2 ((k+1:Nat):Int)=some y:=by rw[aO];exact hy
  simp only[hd',zZ,bE,bC7 hx hl,aA,aO,hx,hw,hy,bBd hy hl,aXr ht2,bXo,aF4];unfold aAp;cases pEg p x==0<;>cases (remote t x.1 (pEg p x)).1==y.1<;>cases (remote t x.1 (pEg p x)).2==pIn p y<;>rfl) (by
   rw[bYy,aAo hl,zW (by omega)];rfl),zG (λk y=>aAp t p ((p.2.2.2[k]?).getD h0) y),bJ2]
 simp only[bE,kN,bO0 ht hl,aCt,aA];cases inR (p.2.2.2.length:Int) 1 8<;>cases inR p.1 1 4<;>cases inR p.2.1 0 1000000<;>cases eH p.2.2.1<;>cases aH6 t p.2.2.2<;>cases (p.2.2.2.zipIdx 0).all (λz=>sP t p z.2 z.1)<;>rfl
theorem aAh{α S:Type}(p:Nat->α->Bool)(o r:S):∀(l:List α) (k:Nat),aGw (λk x (_:Unit)=>if p k x then .inl () else .inr r) (λ_=>o) k l ()=if (l.zipIdx k).all (λz=>p z.2 z.1) then o else r
 | [],_=>rfl
 | x::xs,k=>by
  simp only[aGw,List.zipIdx_cons,bY4];rcases bZl (p k x) with h | h
  .simp only[h,zV,bW4];exact aAh p o r xs (k+1)
  .simp[h]
theorem bJw{p:den tPp}(hl:p.2.2.2.length<=68719476736):rE p=some (p.2.2.2.map (·.1)):=by
 unfold rE;rw[(rY (λk (a:List Int)=>((k:Int),a)) ((0:Int),[]) [] p.2.2.2 (λ_ x a=>a++[x.1]) bW0 (λ_=>1) 68719476736 id rfl (by omega) (by rw[fK];simpa using hl) (λk x a hi hx hd hw hk hb=>by
  simp only[hd,hi,hw,zZ,aA,aG (b:=8) (by decide) hb];simp) (λa=>by simp)).1,fX (λx:den aR=>x.1)]
 simp
theorem bLc(l:dE)(k:Nat)(n:Int):qO ((l.map (·.1)).take k) n= !((l.take k).all λy=> !(y.1==n)):=by
 unfold qO;rw[<- List.map_take,List.all_map];rfl
theorem bHf{t:den tTo}{p:den tPp}(ht:t.1.length<=68719476736)(ht2:t.2.length<=68719476736)(hl:p.2.2.2.length<=68719476736):qU t p=some (bB t p):=by
 unfold qU bB pj2 pj4 pj5;simp only[bE,bJw hl,aA];have hR:(p.2.2.2.map (·.1)).length=p.2.2.2.length:=by simp
 rw[aLg (λk (_:Unit)=>(p.2.2.2.map (·.1),(k:Int))) (p.2.2.2.map (·.1),(0:Int)) () p.2.2.2 (λk x _=>if (vS t p.2.2.2 k x&&sP t p k x) then .inl () else .inr (.inr false)) (λ_ _=>True) (λ_=> .inl ()) rfl (by omega) trivial (λk x a hi hx hd hw hk _=>by
  refine⟨?_,λ_ _=>trivial⟩;have hr:(p.2.2.2.map (·.1))[k]? =some x.1:=by rw[bXx,hx];rfl
  have hs:cQ (0:Int) (k:Int) ((p.2.2.2.map (·.1)).length:Int)=true:=by rw[hR];exact uP hk
  have hh:jE ((p.2.2.2.map (·.1)).take k) x.1=some (!((p.2.2.2.take k).all λy=> !(y.1==x.1))):=by
   rw[aJ9 (by simp;omega),bLc]
  simp only[hd,zZ,hi,aO,hr,aA,aMd,aDn ht,hs,jP,hh,hw];cases k with
  | zero=>
   rw[show decide (((0:Nat):Int)>0)=false from by decide];unfold vS sP;cases gS x<;>cases cG t x.1<;>cases (p.2.2.2.take 0).all (λy=> !(y.1==x.1))<;>rfl
  | succ j=>
   have hw1:wr (((j+1:Nat):Int) - 1)=(j:Int):=(wri (by omega) (by omega)).trans (by omega);obtain⟨y,hy⟩:∃y,p.2.2.2[j]? =some y:=⟨_,bWl (by omega)⟩
   have hr1:(p.2.2.2.map (·.1))[j]? =some y.1:=by rw[bXx,hy];rfl
   rw[show decide (((j+1:Nat):Int)>0)=true from by simp];simp only[hw1,aO,hr1,aA,bNj hy hl,bOj hx hl,aNd ht2,zZ,aF4];unfold vS sP aAp;rw[bYt,hy,bXo];cases gS x<;>cases cG t x.1<;>cases (p.2.2.2.take (j+1)).all (λy=> !(y.1==x.1))<;>cases pEg p y==0<;>cases (remote t y.1 (pEg p y)).1==x.1<;>cases (remote t y.1 (pEg p y)).2==pIn p x<;>rfl) (λa _=>by simp)]
 rw[aAh (λk x=>vS t p.2.2.2 k x&&sP t p k x)];have hsplit:(p.2.2.2.zipIdx 0).all (λz=>vS t p.2.2.2 z.2 z.1&&sP t p z.2 z.1)=(aH6 t p.2.2.2&&(p.2.2.2.zipIdx 0).all λz=>sP t p z.2 z.1):=by
  unfold aH6;rw[bXj];simp only[bW5,bWj];exact⟨λh=>⟨λz hz=>(h z hz).1,λz hz=>(h z hz).2⟩,λh z hz=>⟨h.1 z hz,h.2 z hz⟩⟩
 rw[hsplit];simp only[qH,aC0,aA];cases inR (p.2.2.2.length:Int) 1 8<;>cases inR p.1 1 4<;>cases inR p.2.1 0 1000000<;>cases eH p.2.2.1<;>cases aH6 t p.2.2.2<;>cases (p.2.2.2.zipIdx 0).all (λz=>sP t p z.2 z.1)<;>rfl
def oB(k:Int):Int:=cond (k==1) 1 (cond (k==2||k==3) 2 3)
theorem bMn(k:Int):tM k=some (oB k):=by
 unfold tM oB;cases k==1<;>cases k==2<;>cases k==3<;>rfl
theorem bJ4(k:Int):sJ k=some (oB k):=by
 unfold sJ oB;cases k==1<;>cases k==2<;>cases k==3<;>rfl
def pt0:den tPp:=(0,0,0,[])
def sB(y:den tPp):den aR:=(y.2.2.2[y.2.2.2.length - 1]?).getD h0
def uF(y:den tPp):den aR:=(y.2.2.2[0]?).getD h0
def yV(y x:den tPp):Bool:= !decide (oB y.1>=oB x.1)&&(sB y).1==(uF x).1
def qM(t:den tTo)(p:den tPt)(k:Nat)(x:den tPp):Bool:=bB t x&&(decide (k=0)||yV ((p[k - 1]?).getD pt0) x)
def wfP(t:den tTo)(p:den tPt):Bool:=inR (p.length:Int) 1 3&&(p.zipIdx 0).all λz=>qM t p z.2 z.1
theorem gK{t:den tTo}{p:den tPp}(h:bB t p=true):0<p.2.2.2.length:=by
 unfold bB at h;rw[bWj]at h;have :=aI.1 h.1;omega
theorem aWw{y:den tPp}(h:0<y.2.2.2.length)(hl:y.2.2.2.length<=68719476736):idx y.2.2.2 (wr ((y.2.2.2.length:Int) - 1))=some (sB y):=by
 rw[aU5 hl h,aO];unfold sB;rw[bWl (show y.2.2.2.length - 1<y.2.2.2.length by omega)];rfl
theorem aWh{y:den tPp}(h:0<y.2.2.2.length):idx y.2.2.2 (0:Int)=some (uF y):=by
 have :idx y.2.2.2 ((0:Nat):Int)=y.2.2.2[0]? :=aO;rw[show (0:Int)=((0:Nat):Int) from rfl,this];unfold uF;rw[bWl h];rfl
theorem bU4{t:den tTo}{p:den tPt}(ht:t.1.length<=68719476736)(ht2:t.2.length<=68719476736)(h:SmB 68719476736 tPt p):jN t p=some (wfP t p):=by
 have lp:=h.1;have lh:∀(k:Nat) (x:den tPp),p[k]? =some x->x.2.2.2.length<=68719476736:=λk x hx=>(h.2 x (bWu hx)).2.2.2.1
 unfold jN wfP pj2 pj4;rw[aLg (λk (_:Unit)=>(k:Int)) (0:Int) () p (λk x _=>if qM t p k x then .inl () else .inr (.inr false)) (λk _=> ∀j y,j<k->p[j]? =some y->0<y.2.2.2.length) (λ_=> .inl ()) rfl (by omega) (λj y hj=>absurd hj (bZm _)) (λk x a hi hx hd hw hk hI=>by
  have hlx:=lh k x hx;refine⟨?_,λa' ha j y hj hy=> ?_⟩
  .simp only[hd,zZ,hi,aA,bE,bHg ht ht2 hlx,hw];cases hv:bB t x with
   | false=>unfold qM;rw[hv];rfl
   | true=>
    cases k with
    | zero=>
     rw[show decide (((0:Nat):Int)>0)=false from by decide];unfold qM;rw[hv];rfl
    | succ j=>
     have hw1:wr (((j+1:Nat):Int) - 1)=(j:Int):=(wri (by omega) (by omega)).trans (by omega);obtain⟨y,hy⟩:∃y,p[j]? =some y:=⟨_,bWl (by omega)⟩
     rw[show decide (((j+1:Nat):Int)>0)=true from by simp];simp only[hw1,aO,hy,aA,bMn,aWw (hI j y (bZx j) hy) (lh j y hy),aWh (gK hv),zZ,aF4,bWw,zY];unfold qM yV;rw[bYt,hy,bXo,hv];cases decide (oB y.1>=oB x.1)<;>cases (sB y).1==(uF x).1<;>rfl
  .rcases Nat.lt_succ_iff_lt_or_eq.1 hj with hj | rfl
   .exact hI j y hj hy
   .rw[hx]at hy;injection hy with hy;subst hy;rcases bZl (qM t p j x) with hb | hb
    .unfold qM at hb;rw[bWj]at hb;exact gK hb.1
    .simp[hb]at ha) (λa _=>by simp)]
 rw[aAh (qM t p),kN,aA];cases inR (p.length:Int) 1 3<;>cases (p.zipIdx 0).all (λz=>qM t p z.2 z.1)<;>rfl
theorem bU9{t:den tTo}{p:den tPt}(ht:t.1.length<=68719476736)(ht2:t.2.length<=68719476736)(h:SmB 68719476736 tPt p):jS t p=some (wfP t p):=by
 have lp:=h.1;have lh:∀(k:Nat) (x:den tPp),p[k]? =some x->x.2.2.2.length<=68719476736:=λk x hx=>(h.2 x (bWu hx)).2.2.2.1
 unfold jS wfP pj2 pj4;rw[aLg (λk (_:Unit)=>(k:Int)) (0:Int) () p (λk x _=>if qM t p k x then .inl () else .inr (.inr false)) (λk _=> ∀j y,j<k->p[j]? =some y->0<y.2.2.2.length) (λ_=> .inl ()) rfl (by omega) (λj y hj=>absurd hj (bZm _)) (λk x a hi hx hd hw hk hI=>by
  have hlx:=lh k x hx;refine⟨?_,λa' ha j y hj hy=> ?_⟩
  .simp only[hd,zZ,hi,aA,bE,bHf ht ht2 hlx,hw];cases hv:bB t x with
   | false=>unfold qM;rw[hv];rfl
   | true=>
    cases k with
    | zero=>
     rw[show decide (((0:Nat):Int)>0)=false from by decide];unfold qM;rw[hv];rfl
    | succ j=>
     have hw1:wr (((j+1:Nat):Int) - 1)=(j:Int):=(wri (by omega) (by omega)).trans (by omega);obtain⟨y,hy⟩:∃y,p[j]? =some y:=⟨_,bWl (by omega)⟩
     rw[show decide (((j+1:Nat):Int)>0)=true from by simp];simp only[hw1,aO,hy,aA,bJ4,aWw (hI j y (bZx j) hy) (lh j y hy),aWh (gK hv),zZ,aF4,bWw,zY];unfold qM yV;rw[bYt,hy,bXo,hv];cases decide (oB y.1>=oB x.1)<;>cases (sB y).1==(uF x).1<;>rfl
  .rcases Nat.lt_succ_iff_lt_or_eq.1 hj with hj | rfl
   .exact hI j y hj hy
   .rw[hx]at hy;injection hy with hy;subst hy;rcases bZl (qM t p j x) with hb | hb
    .unfold qM at hb;rw[bWj]at hb;exact gK hb.1
    .simp[hb]at ha) (λa _=>by simp)]
 rw[aAh (qM t p),qH,aA];cases inR (p.length:Int) 1 3<;>cases (p.zipIdx 0).all (λz=>qM t p z.2 z.1)<;>rfl
def vA(l:List Int)(k:Nat)(n:Int):Bool:= !qO (l.take k) n
def fV(t:den tTo)(p:den tPt):Bool:=wfP t p&&((cS p).zipIdx 0).all λz=>vA (cS p) z.2 z.1
theorem aY4{p:den tPt}(h:tot tPt p<=1073741824):SmB 68719476736 tPt p:=(cF h).mono (by decide)
theorem bGn{t:den tTo}{p:den tPt}(ht:t.1.length<=68719476736)(ht2:t.2.length<=68719476736)(h:tot tPt p<=1073741824):pK t p=some (fV t p):=by
 have hu:=aEt p;unfold pK fV pj2;simp only[bE,bU4 ht ht2 (aY4 h),bAa h,aA];rw[aLg (λk (_:Unit)=>(cS p,cS p,(k:Int))) (cS p,cS p,(0:Int)) () (cS p) (λk x _=>if vA (cS p) k x then .inl () else .inr (.inr false)) (λ_ _=>True) (λ_=> .inl ()) rfl (by omega) trivial (λk x a hi hx hd hw hk _=>by
  refine⟨?_,λ_ _=>trivial⟩;simp only[hd,zZ,hi,aA,uP hk,jP,hw,aW0 (l:=(cS p).take k) (n:=x) (by simp;omega)];unfold vA;cases qO ((cS p).take k) x<;>rfl) (λa _=>by simp)]
 rw[aAh (vA (cS p))];cases wfP t p<;>cases ((cS p).zipIdx 0).all (λz=>vA (cS p) z.2 z.1)<;>rfl
theorem bHj{t:den tTo}{p:den tPt}(ht:t.1.length<=68719476736)(ht2:t.2.length<=68719476736)(h:tot tPt p<=1073741824):mN t p=some (fV t p):=by
 have hu:=aEt p;unfold mN fV pj2;simp only[bE,bU9 ht ht2 (aY4 h),bA0 h,aA];rw[aLg (λk (_:Unit)=>(cS p,(k:Int))) (cS p,(0:Int)) () (cS p) (λk x _=>if vA (cS p) k x then .inl () else .inr (.inr false)) (λ_ _=>True) (λ_=> .inl ()) rfl (by omega) trivial (λk x a hi hx hd hw hk _=>by
  refine⟨?_,λ_ _=>trivial⟩;simp only[hd,zZ,hi,aA,uP hk,jP,hw,aJ9 (l:=(cS p).take k) (n:=x) (by simp;omega)];unfold vA;cases qO ((cS p).take k) x<;>rfl) (λa _=>by simp)]
 rw[aAh (vA (cS p))];cases wfP t p<;>cases ((cS p).zipIdx 0).all (λz=>vA (cS p) z.2 z.1)<;>rfl
def bH(p:den tPk):den tPp:=(p.2.2.2.1[p.2.2.2.2.1.toNat]?).getD pt0
def cW(p:den tPk):den aR:=((bH p).2.2.2[p.2.2.2.2.2.1.toNat]?).getD h0
theorem mR{p:den tPk}(h:cB p=true):∃(i j:Nat),p.2.2.2.2.1=(i:Int)/\p.2.2.2.2.2.1=(j:Int)/\p.2.2.2.1[i]? =some (bH p)/\(bH p).2.2.2[j]? =some (cW p)/\bZ p=(cW p).1:=by
 obtain⟨i,j,x,y,h1,h2,h3,h4,h5⟩:=aB8 h;have e1:bH p=x:=by unfold bH;rw[h1,bWs,h3];rfl
 have e2:cW p=y:=by unfold cW;rw[e1,h2,bWs,h4];rfl
 exact⟨i,j,h1,h2,by rw[e1];exact h3,by rw[e1,e2];exact h4,by rw[e2];exact h5⟩
theorem aQ5{p:den tPk}(h:0<=bZ p):cB p=true:=by
 cases c:cB p with
 | true=>rfl
 | false=>rw[aG8 c]at h;omega
theorem vV{p:den tPk}(h:tot tPk p<=34359738368):SmB 68719476736 tPk p:=(cF h).mono (by decide)
theorem aNo{p:den tPk}(h:SmB 68719476736 tPk p){i:Nat}{x:den tPp}(hx:p.2.2.2.1[i]? =some x):x.2.2.2.length<=68719476736:=(h.2.2.2.1.2 x (bWu hx)).2.2.2.1
def cY(p:den tPk):Bool:=p.2.2.2.2.2.1==((bH p).2.2.2.length:Int) - 1
def aC9(p:den tPk):Bool:=p.2.2.2.2.1==(p.2.2.2.1.length:Int) - 1
def cZ(p:den tPk):Bool:=decide (bZ p>=0)&&(cY p&&aC9 p)
theorem aMk{p:den tPk}(h:SmB 68719476736 tPk p)(hh:cB p=true):gJ p=some (cY p):=by
 obtain⟨i,j,h1,h2,h3,h4,_⟩:=mR hh;unfold gJ cY zz4 zz5;rw[h1,aO,h3,aA,aAo (aNo h h3)]
theorem aL4{p:den tPk}(h:SmB 68719476736 tPk p):jX p=some (cZ p):=by
 unfold jX cZ bQ zz4;simp only[bE,aCu h,aA];cases c:decide (bZ p>=0)
 .rfl
 .have hh:=aQ5 (of_decide_eq_true c);have l1:=h.2.2.2.1.1;simp only[zZ,aMk h hh,aA,aAo l1];unfold aC9;cases cY p<;>rfl
theorem aFz{p:den tPk}(h:SmB 68719476736 tPk p):dP p=some (pkR p):=by
 unfold dP pkR zz4 zz5 zz6 zz7 zz8 zz9;rw[aKs h.2.2.2.1,aF1 h.2.2.2.2.2.2.2.2.2.1];rfl
theorem bQb{p:den tPk}(h:SmB 68719476736 tPk p):uW p=some (pkR p):=by
 unfold uW pkR zz4 zz5 zz6 zz7 zz8 zz9;rw[aFl h.2.2.2.1,aG (b:=1) (n:=([]:List Int).length) (by decide) (by simpa using h.2.2.2.2.2.2.2.2.2.1)];simp
def goTo(p:den tPk)(i j b:Int):den tPk:=(p.1,p.2.1,p.2.2.1,p.2.2.2.1,i,j,b,p.2.2.2.2.2.2.2.1,p.2.2.2.2.2.2.2.2.1,p.2.2.2.2.2.2.2.2.2)
def mE(p:den tPk):den tPp:=(p.2.2.2.1[p.2.2.2.2.1.toNat+1]?).getD pt0
def adv(p:den tPk):den tPk:=
 if decide (bZ p<0)||cZ p then p
 else if cY p then goTo p (p.2.2.2.2.1+1) 0 (mE p).2.2.1 else goTo p p.2.2.2.2.1 (p.2.2.2.2.2.1+1) p.2.2.2.2.2.2.1
theorem aZv{p:den tPk}(hh:cB p=true)(h0:0<=bZ p)(hl:cY p=true)(ha:cZ p=false):∃i:Nat,p.2.2.2.2.1=(i:Int)/\p.2.2.2.1[i+1]? =some (mE p):=by
 obtain⟨i,j,h1,h2,h3,h4,_⟩:=mR hh;refine⟨i,h1,?_⟩;have hlt:=(bWn.1 h3).1;have hne:aC9 p=false:=by
  unfold cZ at ha;rw[hl,zX h0]at ha;simpa using ha
 unfold aC9 at hne;rw[h1]at hne;have hne: ¬ ((i:Int)=(p.2.2.2.1.length:Int) - 1):=by simpa using hne
 unfold mE;rw[h1,bWs,bWl (show i+1<p.2.2.2.1.length by omega)];rfl
theorem bOh{p:den tPk}(h:SmB 68719476736 tPk p):lE p=some (pkR (adv p)):=by
 unfold lE adv bQ pj2 zz4 zz5 zz6 zz7 zz8;simp only[bE,aFz h,aCu h,aL4 h,aA];cases c:decide (bZ p<0)
 .cases ca:cZ p
  .have h0:0<=bZ p:=by have :=of_decide_eq_false c;omega
   have hh:=aQ5 h0;obtain⟨i,j,h1,h2,h3,h4,_⟩:=mR hh;have hlt:=(bWn.1 h3).1;have hlt2:=(bWn.1 h4).1;have l1:bW0 p.2.2.2.1<=68719476736:=h.2.2.2.1.1;have l2:=aNo h h3;simp only[zY,aA,aMk h hh,bZq,bWz,zU];cases cl:cY p
   .simp only[zY,aA,bWz,zU];unfold pkR goTo;rw[h2,show wr ((j:Int)+1)=(j:Int)+1 from wri (by omega) (by omega)]
   .obtain⟨i',e1,e2⟩:=aZv hh h0 cl ca;have :i'=i:=Int.ofNat.inj (e1.symm.trans h1);subst this;have hw:wr (((i':Nat):Int)+1)=((i'+1:Nat):Int):=(wri (by omega) (by omega)).trans (by omega);simp only[zZ,zV];unfold pkR goTo;simp only[h1,hw,aO,e2,aA];rw[show ((i'+1:Nat):Int)=(i':Int)+1 by omega]
  .rfl
 .rfl
def bef(p:den tPk):Int:=if dM (bH p).1 then wJ p.2.2.2.2.2.2.1 (cW p).2.2.2.2 else p.2.2.2.2.2.2.1
def aft(p:den tPk):Int:=if dM (bH p).1 then wJ p.2.2.2.2.2.2.1 (cW p).2.2.2.2 else wW p.2.2.2.2.2.2.1 (cW p).2.2.2.2
def wL(t:den tTo)(p:den tPk):Bool:=cB p&&tP t (bH p).2.1 (bef p) (cW p)
def aT(t:den tTo)(p:den tPk):den tPk:=if wL t p then goTo p p.2.2.2.2.1 p.2.2.2.2.2.1 (aft p) else p
def tF(p:den tPk)(b:Bool):q10:=(p.1,p.2.1,p.2.2.1,p.2.2.2.2.1,p.2.2.2.2.2.1,p.2.2.2.2.2.2.1,p.2.2.2.2.2.2.2.1,p.2.2.2.2.2.2.2.2.1,b,p.2.2.2.1,p.2.2.2.2.2.2.2.2.2)
theorem bTv{t:den tTo}{p:den tPk}(ht:t.1.length<=68719476736)(h:SmB 68719476736 tPk p):gW t p=some (tF (aT t p) (wL t p)):=by
 unfold gW aT wL bQ pj2 pj5 zz4 zz5 zz6 zz7 zz8;simp only[bE,aFz h,bOb h,aA];cases c:cB p
 .rfl
 .obtain⟨i,j,h1,h2,h3,h4,_⟩:=mR c;simp only[h1,h2,aO,h3,h4,aA,aKt,bF8,bFw,bWw,zY,bW4];unfold bef aft;cases dM (bH p).1
  .simp only[zY,aA,bGu ht,bWz,zU];cases tP t (bH p).2.1 p.2.2.2.2.2.2.1 (cW p)
   .simp only[bW1,zZ,bWz,zU];unfold tF pkR;simp only[h1,h2]
   .simp only[bWw,zY,zV];unfold tF pkR goTo;simp only[h1,h2]
  .simp only[zZ,aA,bGu ht,zV];cases tP t (bH p).2.1 (wJ p.2.2.2.2.2.2.1 (cW p).2.2.2.2) (cW p)
   .simp only[bW1,zZ,bWz,zU];unfold tF pkR;simp only[h1,h2]
   .simp only[bWw,zY,zV];unfold tF pkR goTo;simp only[h1,h2]
theorem bPp{t:den tTo}{ts b:Int}{h:den aR}(hv:h.1<0):tP t ts b h=false:=by
 unfold tP gS;rw[bAy.2 (λhh=>absurd hv (Int.not_lt.2 hh.1))];rfl
def wT(p:den tPk)(now:Int):Bool:= !decide (bZ p<0)&&(decide ((bH p).2.1<=now)&&decide (now<=(cW p).2.2.2.1))
theorem bMc{p:den tPk}{now:Int}(h:SmB 68719476736 tPk p):fZ p now=some (wT p now):=by
 unfold fZ wT bQ pj5 zz4 zz5;simp only[bE,aCu h,aA];cases c:decide (bZ p<0)
 .have hh:=aQ5 (p:=p) (by have :=of_decide_eq_false c;omega);obtain⟨i,j,h1,h2,h3,h4,h5⟩:=mR hh;simp only[zY,h1,h2,aO,h3,h4,aA,rU];cases decide ((bH p).2.1<=now)<;>rfl
 .rfl
def dR(t:den tTo)(now:Int)(p:den tPk):Int:=if wL t p then (if wT p now then 0 else 5) else 4
def goC(t:den tTo)(now:Int):Nat->den tPk->Int×den tPk
 | 0,p=>(dR t now p,aT t p)
 | n+1,p=>if dR t now p==0&&(cY (aT t p)&& !cZ (aT t p)) then goC t now n (adv (aT t p)) else (dR t now p,aT t p)
theorem xI(t:den tTo)(p:den tPk):tot tPk (aT t p)=tot tPk p:=by
 unfold aT;split<;>rfl
theorem aKm(p:den tPk):tot tPk (adv p)=tot tPk p:=by
 unfold adv;split
 .rfl
 .split<;>rfl
theorem aYj(t:den tTo)(p:den tPk)(now:Int):wT (aT t p) now=wT p now:=by
 unfold aT;split<;>rfl
theorem zM(t:den tTo)(p:den tPk):cB (aT t p)=cB p/\bZ (aT t p)=bZ p/\cW (aT t p)=cW p/\(aT t p).2.2.2.1=p.2.2.2.1/\(aT t p).2.2.2.2.1=p.2.2.2.2.1:=by
 unfold aT;split<;>exact⟨rfl,rfl,rfl,rfl,rfl⟩
theorem vM{t:den tTo}{now:Int}{p:den tPk}(h:dR t now p=0):cB p=true/\0<=bZ p:=by
 unfold dR at h;split at h
 .rename_i hs;unfold wL at hs;rw[bWj]at hs;refine⟨hs.1,?_⟩;obtain⟨i,j,h1,h2,h3,h4,h5⟩:=mR hs.1;rw[h5]
  by_cases hn:(cW p).1<0
  .rw[bPp hn]at hs;cases hs.2
  .exact Int.not_lt.1 hn
 .cases h
theorem bLh{p:den tPk}(h0:0<=bZ p)(hc:(cY p&& !cZ p)=true):(adv p).2.2.2.1=p.2.2.2.1/\(adv p).2.2.2.2.1=p.2.2.2.2.1+1:=by
 rw[bWj]at hc;have ha:cZ p=false:=by simpa using hc.2
 unfold adv;rw[zW (by omega),ha,hc.1];exact⟨rfl,rfl⟩
theorem bP0{t:den tTo}{now:Int}{S R:Type}(enc:Int->den tPk->S)(out:S->R){step:S->Option (S⊕R)}(st:den tPk->den tPk)(hst:∀p,dR t now p=0->st p=aT t p)
  (hstop:∀c p,c≠0->step (enc c p)=some (.inr (out (enc c p))))
  (hgo:∀q,tot tPk q<=34359738368->cB q=true->0<=bZ q->step (enc 0 q)=some (if cY q&& !cZ q then .inl (enc (dR t now (adv q)) (st (adv q))) else .inr (out (enc 0 q)))):
  ∀(n:Nat) (p:den tPk),tot tPk p<=34359738368->p.2.2.2.1.length - p.2.2.2.2.1.toNat<=n-> ∃r,aC step (enc (dR t now p) (st p))=some (out (enc (goC t now n p).1 r))/\((goC t now n p).1=0->r=(goC t now n p).2):=by
 intro n
 induction n with
 | zero=>
  intro p hp hm
  by_cases hc:dR t now p=0
  .obtain⟨hh,h0⟩:=vM hc;obtain⟨i,j,h1,h2,h3,h4,h5⟩:=mR hh;have hlt:=(bWn.1 h3).1;rw[h1,bWs]at hm;exact absurd hlt (by omega)
  .exact⟨_,aW (hstop _ _ hc),λh=>absurd h hc⟩
 | succ n ih=>
  intro p hp hm
  by_cases hc:dR t now p=0
  .obtain⟨hh,h0⟩:=vM hc;obtain⟨e1,e2,e3,e4,e5⟩:=zM t p;have hq:=hgo (aT t p) (by rw[xI];exact hp) (by rw[e1];exact hh) (by rw[e2];exact h0);rw[hst p hc];cases hb:cY (aT t p)&& !cZ (aT t p) with
   | false=>
    rw[hb]at hq;have hg:goC t now (n+1) p=(dR t now p,aT t p):=by
     show (if _ then _ else _)=_;rw[hb,bYu];rfl
    rw[hg,hc];exact⟨aT t p,aW hq,λ_=>rfl⟩
   | true=>
    rw[hb,zT rfl]at hq;have hg:goC t now (n+1) p=goC t now n (adv (aT t p)):=by
     show (if _ then _ else _)=_;rw[hb,hc];rfl
    rw[hg,hc,cU hq];obtain⟨a1,a2⟩:=bLh (p:=aT t p) (by rw[e2];exact h0) hb;obtain⟨i,j,h1,h2,h3,h4,h5⟩:=mR hh;refine ih (adv (aT t p)) (by rw[aKm,xI];exact hp) ?_;rw[a1,a2,e4,e5,h1];rw[h1,bWs]at hm;have :((i:Int)+1).toNat=i+1:=by omega
    rw[this];omega
  .have hg:goC t now (n+1) p=(dR t now p,aT t p):=by
    show (if _ then _ else _)=_;rw[show (dR t now p==0)=false from by simpa using hc];rfl
   rw[hg];exact⟨_,aW (hstop _ _ hc),λh=>absurd h hc⟩
def aEh(p:den tPk):Int:=if p.2.2.2.2.1==0&&p.2.2.2.2.2.1==0 then 0 else pIn (bH p) (cW p)
def aX(t:den tTo)(now:Int)(p:den tPk):Int×den tPk:=goC t now (p.2.2.2.1.length - p.2.2.2.2.1.toNat) p
def fwd(t:den tTo)(r now dead inn:Int)(p:den tPk):Int×Int×den tPk×Int:=
 if !cL p||(!fV t p.2.2.2.1|| !(bZ p==r)) then (2,0,p,0)
 else if !(inn==aEh p) then (3,0,p,0)
 else if !((aX t now p).1==0) then ((aX t now p).1,0,p,0)
 else if cZ (aX t now p).2 then (if (aX t now p).2.2.2.1==r then (1,0,(aX t now p).2,0) else (2,0,p,0))
 else if !aLd t (r,inn,pEg (bH (aX t now p).2) (cW (aX t now p).2)) then (6,0,p,0)
 else if xR dead (pEg (bH (aX t now p).2) (cW (aX t now p).2)) then (7,0,p,pEg (bH (aX t now p).2) (cW (aX t now p).2))
 else (0,pEg (bH (aX t now p).2) (cW (aX t now p).2),adv (aX t now p).2,pEg (bH (aX t now p).2) (cW (aX t now p).2))
def fwI(v:Int×Int×den tPk×Int):Int×Int×q11:=
 (v.1,v.2.1,v.2.2.1.1,v.2.2.1.2.1,v.2.2.1.2.2.1,v.2.2.1.2.2.2.1,v.2.2.1.2.2.2.2.1,v.2.2.1.2.2.2.2.2.1,v.2.2.1.2.2.2.2.2.2.1,v.2.2.1.2.2.2.2.2.2.2.1,v.2.2.1.2.2.2.2.2.2.2.2.1,v.2.2.1.2.2.2.2.2.2.2.2.2,v.2.2.2)
theorem aAk{t:den tTo}{now:Int}:∀(n:Nat) (p:den tPk),(goC t now n p).1=0->cB (goC t now n p).2=true/\0<=bZ (goC t now n p).2/\tot tPk (goC t now n p).2=tot tPk p
 | 0,p,h=>by
  obtain⟨h1,h2⟩:=vM (show dR t now p=0 from h);obtain⟨e1,e2,_⟩:=zM t p;exact⟨e1.trans h1,by rw[show (goC t now 0 p).2=aT t p from rfl,e2];exact h2,xI t p⟩
 | n+1,p,h=>by
  unfold goC at h|-;split at h
  .rename_i hc;rw[zT hc];obtain⟨h1,h2,h3⟩:=aAk n _ h;exact⟨h1,h2,by rw[h3,aKm,xI]⟩
  .rename_i hc;rw[zS hc];obtain⟨h1,h2⟩:=vM (show dR t now p=0 from h);obtain⟨e1,e2,_⟩:=zM t p;exact⟨e1.trans h1,by rw[show (dR t now p,aT t p).2=aT t p from rfl,e2];exact h2,xI t p⟩
def vT(t:den tTo)(now:Int)(p:den tPk):den tPk:=if dR t now p=0 then aT t p else p
def yT(p:den tPk)(c:Int):q11:=(p.1,p.2.1,p.2.2.1,p.2.2.2.1,p.2.2.2.2.1,p.2.2.2.2.2.1,p.2.2.2.2.2.2.1,p.2.2.2.2.2.2.2.1,p.2.2.2.2.2.2.2.2.1,p.2.2.2.2.2.2.2.2.2,c)
theorem bN9{t:den tTo}{now:Int}{p:den tPk}(ht:t.1.length<=68719476736)(h:tot tPk p<=34359738368):kH t now p=some (yT (vT t now p) (dR t now p)):=by
 unfold kH bQ pj2 dD zz4 zz5 zz6 zz7 zz8 zz9;simp only[bE,bTv ht (vV h),aA];unfold vT dR;cases c:wL t p
 .simp only[tF,bW1,zZ,bWz,zU];rfl
 .have hs:tot tPk (aT t p)<=34359738368:=by rw[xI];exact h
  have key:fZ ((tF (aT t p) true).1,(tF (aT t p) true).2.1,(tF (aT t p) true).2.2.1,(tF (aT t p) true).2.2.2.2.2.2.2.2.2.1,(tF (aT t p) true).2.2.2.1,(tF (aT t p) true).2.2.2.2.1,(tF (aT t p) true).2.2.2.2.2.1,(tF (aT t p) true).2.2.2.2.2.2.1,(tF (aT t p) true).2.2.2.2.2.2.2.1,(tF (aT t p) true).2.2.2.2.2.2.2.2.2.2) now=some (wT p now):=by
   rw[<- aYj t p now];exact bMc (vV hs)
  rw[key];simp only[tF,bWw,zY,aA,zV];cases wT p now
  .simp only[bW1,zZ,bWz,zU];rfl
  .simp only[bWw,zY,zV];rfl
theorem bDi{p:den tPk}(h:cL p=true):cB p=true:=by
 unfold cL at h;simp only[bWj]at h;exact h.2.2.1
theorem bOc{c:Int}{p:den tPk}(h:tot tPk p<=34359738368):kK c p=some (c,0,p.1,p.2.1,p.2.2.1,p.2.2.2.2.1,p.2.2.2.2.2.1,p.2.2.2.2.2.2.1,p.2.2.2.2.2.2.2.1,p.2.2.2.2.2.2.2.2.1,p.2.2.2.1,p.2.2.2.2.2.2.2.2.2,p.1,p.2.1,p.2.2.1,p.2.2.2.1,p.2.2.2.2.1,p.2.2.2.2.2.1,p.2.2.2.2.2.2.1,p.2.2.2.2.2.2.2.1,p.2.2.2.2.2.2.2.2.1,p.2.2.2.2.2.2.2.2.2):=by
 unfold kK bQ zz4 zz5 zz6 zz7 zz8 zz9;simp only[bE,aFz (vV h),aA];rfl
theorem aXj{p:den tPk}{N:Nat}(h:tot tPk p<=N):tot tPt p.2.2.2.1<=N:=(aLb h).1
theorem bN6{t:den tTo}{r now dead inn:Int}{p:den tPk}(ht:t.1.length<=68719476736)(ht2:t.2.length<=68719476736)(h:tot tPk p<=34359738368)(hpp:tot tPt p.2.2.2.1<=1073741824):tY t r now dead inn p=some (fwI (fwd t r now dead inn p)):=by
 unfold tY fwd bQ aWx pj2 pj4 dD eV zz4 zz5 zz6 zz7 zz8 zz9;simp only[bE,bLs (vV h),bGn ht ht2 hpp,aCu (vV h),aA,aF4,bOc h];cases cv:cL p
 .simp only[bW1,Bool.true_or,zZ,aA,zV];rfl
 .cases cs:fV t p.2.2.2.1
  .simp only[bWw,bW1,Bool.true_or,Bool.or_true,zZ,zY,aA,zV];rfl
  .cases cr:bZ p==r
   .simp only[bWw,bW1,Bool.true_or,Bool.or_true,zZ,zY,aA,zV];rfl
   .simp only[bWw,bZq,zY,aA,bWz,zU];obtain⟨i,j,h1,h2,h3,h4,h5⟩:=mR (bDi cv);have hl:=aNo (vV h) h3;have hw:(@Option.bind Bool Int (cond (p.2.2.2.2.1==(0:Int)) (some (p.2.2.2.2.2.1==(0:Int))) (some false)) λ(s8:Bool)=>cond s8 (some (0:Int)) (some (pIn (bH p) (cW p))))=some (aEh p):=by
     unfold aEh;cases p.2.2.2.2.1==0<;>cases p.2.2.2.2.2.1==0<;>rfl
    have hp1:idx p.2.2.2.1 p.2.2.2.2.1=some (bH p):=by rw[h1,aO];exact h3
    have hp2:fH (bH p) p.2.2.2.2.2.1=some (pIn (bH p) (cW p)):=by rw[h2];exact bBd h4 hl
    rw[hp1,aA,hp2,aA,hw,aA];cases ci:inn==aEh p
    .simp only[bW1,zZ,zV,aA];rfl
    .simp only[bWw,zY,bWz,zU,aFz (vV h),aA];have hc:kH t now ((pkR p).1,(pkR p).2.1,(pkR p).2.2.1,(pkR p).2.2.2.2.2.2.2.2.1,(pkR p).2.2.2.1,(pkR p).2.2.2.2.1,(pkR p).2.2.2.2.2.1,(pkR p).2.2.2.2.2.2.1,(pkR p).2.2.2.2.2.2.2.1,(pkR p).2.2.2.2.2.2.2.2.2)=some (yT (vT t now p) (dR t now p)):=bN9 ht h;rw[hc];simp only[aA,cC,eG,dC,dA,dH];obtain⟨q,hq1,hq2⟩:=bP0 (t:=t) (now:=now) (S:=Int×den tPk) (R:=Int×den tPk) (λc p=>(c,p)) id (step:=λs23=> @Option.bind Bool _ (cond (s23.1==(0:Int)) (Option.bind (gJ s23.2) λy24=>cond y24 (Option.bind (jX s23.2) λy25=>some (!y25)) (some false)) (some false)) λ(s26:Bool)=>cond s26 (Option.bind (lE s23.2) λy27=>Option.bind (kH t now (y27.1,y27.2.1,y27.2.2.1,y27.2.2.2.2.2.2.2.2.1,y27.2.2.2.1,y27.2.2.2.2.1,y27.2.2.2.2.2.1,y27.2.2.2.2.2.2.1,y27.2.2.2.2.2.2.2.1,y27.2.2.2.2.2.2.2.2.2)) λy28=>some (Sum.inl (y28.2.2.2.2.2.2.2.2.2.2,y28.1,y28.2.1,y28.2.2.1,y28.2.2.2.1,y28.2.2.2.2.1,y28.2.2.2.2.2.1,y28.2.2.2.2.2.2.1,y28.2.2.2.2.2.2.2.1,y28.2.2.2.2.2.2.2.2.1,y28.2.2.2.2.2.2.2.2.2.1))) (some (bWh s23))) (vT t now) (λp hp=>zT hp) (λc p hc=>by
       have :(c==0)=false:=by simpa using hc
       simp only[this,zY,aA,id]) (λq hq hh h0=>by
       have e:kH t now ((pkR (adv q)).1,(pkR (adv q)).2.1,(pkR (adv q)).2.2.1,(pkR (adv q)).2.2.2.2.2.2.2.2.1,(pkR (adv q)).2.2.2.1,(pkR (adv q)).2.2.2.2.1,(pkR (adv q)).2.2.2.2.2.1,(pkR (adv q)).2.2.2.2.2.2.1,(pkR (adv q)).2.2.2.2.2.2.2.1,(pkR (adv q)).2.2.2.2.2.2.2.2.2)=some (yT (vT t now (adv q)) (dR t now (adv q))):=bN9 (p:=adv q) ht (by rw[aKm];exact hq);simp only[beq_self_eq_true,zZ,aMk (vV hq) hh,aL4 (vV hq),bOh (vV hq),aA,e];cases cY q<;>cases cZ q<;>rfl) _ p h (bWx _)
     have hq1:aC _ (dR t now p,vT t now p)=some ((aX t now p).1,q):=hq1;have hq2:(aX t now p).1=0->q=(aX t now p).2:=hq2;have e0:(((yT (vT t now p) (dR t now p)).2.2.2.2.2.2.2.2.2.2,(yT (vT t now p) (dR t now p)).1,(yT (vT t now p) (dR t now p)).2.1,(yT (vT t now p) (dR t now p)).2.2.1,(yT (vT t now p) (dR t now p)).2.2.2.1,(yT (vT t now p) (dR t now p)).2.2.2.2.1,(yT (vT t now p) (dR t now p)).2.2.2.2.2.1,(yT (vT t now p) (dR t now p)).2.2.2.2.2.2.1,(yT (vT t now p) (dR t now p)).2.2.2.2.2.2.2.1,(yT (vT t now p) (dR t now p)).2.2.2.2.2.2.2.2.1,(yT (vT t now p) (dR t now p)).2.2.2.2.2.2.2.2.2.1):Int×den tPk)=(dR t now p,vT t now p):=rfl;rw[e0,hq1,aA]
     by_cases hz:(aX t now p).1=0
     .have hqq:=hq2 hz;subst hqq;obtain⟨g1,g2,g3⟩:=aAk _ p hz;have g1:cB (aX t now p).2=true:=g1;have g2:0<=bZ (aX t now p).2:=g2;have g3:tot tPk (aX t now p).2=tot tPk p:=g3;have hg:tot tPk (aX t now p).2<=34359738368:=by rw[g3];exact h
      obtain⟨i',j',k1,k2,k3,k4,k5⟩:=mR g1;have hl':=aNo (vV hg) k3;have q1:idx (aX t now p).2.2.2.2.1 (aX t now p).2.2.2.2.2.1=some (bH (aX t now p).2):=by rw[k1,aO];exact k3
      have q2:fQ (bH (aX t now p).2) (aX t now p).2.2.2.2.2.2.1=some (pEg (bH (aX t now p).2) (cW (aX t now p).2)):=by rw[k2];exact bC7 k4 hl'
      simp only[hz,beq_self_eq_true,bWw,zY,bWz,zU,aL4 (vV hg),aA];cases ca:cZ (aX t now p).2
      .simp only[zY,bWz,zU,q1,q2,aA,bRl ht2,bQt];cases aLd t (r,inn,pEg (bH (aX t now p).2) (cW (aX t now p).2))
       .simp only[bW1,zZ,zV];rfl
       .simp only[bWw,zY,bWz,zU];cases xR dead (pEg (bH (aX t now p).2) (cW (aX t now p).2))
        .simp only[zY,bWz,zU,bOh (vV hg),aA];rfl
        .simp only[zZ,zV];rfl
      .simp only[zZ,zV];cases (aX t now p).2.2.2.1==r
       .simp only[bW1,zZ,bWz,zU];rfl
       .simp only[bWw,zY,zV];rfl
     .have hz':((aX t now p).1==0)=false:=by simpa using hz
      simp only[hz',bW1,zZ,zV,bOc h,aA];rfl
theorem aKz(t:den tTo)(r now dead inn:Int)(p:den tPk):tot tPk (fwd t r now dead inn p).2.2.1=tot tPk p:=by
 unfold fwd;split
 .rfl
 .split
  .rfl
  .split
   .rfl
   .rename_i hz;have hz:(aX t now p).1=0:=by simpa using hz
    obtain⟨_,_,g3⟩:=aAk _ p hz;have g3:tot tPk (aX t now p).2=tot tPk p:=g3;split
    .split
     .exact g3
     .rfl
    .split
     .rfl
     .split
      .rfl
      .show tot tPk (adv (aX t now p).2)=_;rw[aKm];exact g3
def aD(t:den tTo)(now:Int)(dead:List Int)(r inn:Int)(p:den tPk):Int×Int×den tPk×Int:=fwd t r now (dU t dead r) inn p
abbrev nT(w:den tNw):den tTo:=w.1
abbrev nK(w:den tNw):den tDb:=w.2.1
abbrev nG(w:den tNw):den tSc:=w.2.2.1
abbrev aH(w:den tNw):Int:=w.2.2.2.1
abbrev aJ(w:den tNw):List Int:=w.2.2.2.2.1
abbrev aE(w:den tNw):lFy:=w.2.2.2.2.2.1
abbrev aB(w:den tNw):lFl:=w.2.2.2.2.2.2.1
abbrev aL(w:den tNw):lIb:=w.2.2.2.2.2.2.2.1
abbrev dO(w:den tNw):Int:=w.2.2.2.2.2.2.2.2
def aPv(w:den tNw):q3:=
 ((nG w).1,aH w,dO w,(nT w).1,(nT w).2,(nK w).1,(nK w).2,(nG w).2.1,(nG w).2.2,aJ w,aE w,aB w,aL w)
theorem bH1{l:lRs}(h:l.length<=68719476736):eK l=some l:=by
 unfold eK;rw[aG (n:=([]:lRs).length) (by decide) (by simpa using h)];rfl
theorem bEm{g:den tSc}(h:SmB 68719476736 tSc g):eQ g=some g:=by
 unfold eQ;rw[bH1 h.2.1.1,aA,aG (n:=([]:lUs).length) (by decide) (by simpa using h.2.2.1)];rfl
theorem bE1{g:den tSc}(h:SmB 68719476736 tSc g):pE g=some g:=by
 unfold pE pj3;rw[aG (b:=40) (n:=([]:lRs).length) (by decide) (by simpa using h.2.1.1),aG (b:=32) (n:=([]:lUs).length) (by decide) (by simpa using h.2.2.1)];simp only[cC,eG,dC,dA,dH,zZ,aA,bXc]
theorem aJi(f:den tFl):(((sQ f).1,(sQ f).2.1,(sQ f).2.2.1,(sQ f).2.2.2.1,(sQ f).2.2.2.2.2.2.1,(sQ f).2.2.2.2.2.2.2.1,(sQ f).2.2.2.2.1,(sQ f).2.2.2.2.2.1,(sQ f).2.2.2.2.2.2.2.2):den tFl)=f:=rfl
theorem bAj(p:den tPk):(((pkR p).1,(pkR p).2.1,(pkR p).2.2.1,(pkR p).2.2.2.2.2.2.2.2.1,(pkR p).2.2.2.1,(pkR p).2.2.2.2.1,(pkR p).2.2.2.2.2.1,(pkR p).2.2.2.2.2.2.1,(pkR p).2.2.2.2.2.2.2.1,(pkR p).2.2.2.2.2.2.2.2.2):den tPk)=p:=rfl
theorem bJa{x:den tFy}(h:SmB 68719476736 tFy x):SmB 68719476736 tPk x.2.2:=h.2.2
theorem aY1{w:den tNw}(h:SmB 68719476736 tNw w):kA w=some (aPv w):=by
 obtain⟨hT,hK,hG,_,hD,hY,hF,hX,_⟩:=h;unfold kA oG bQ pj2 pj3 pj4 pj9 zz4 zz5 zz6 zz7 zz8 zz9;simp only[bE,bO9 hT,aVr hK.1,aVr hK.2,bEm hG,aZk hD.1,aA];rw[(rY (λk (a:lFy)=>((k:Int),(nG w).1,aH w,dO w,a)) ((0:Int),(nG w).1,aH w,dO w,[]) [] (aE w) (λ_ x a=>a++[x]) bW0 (λ_=>1) 68719476736 (λa=>((nG w).1,aH w,dO w,a)) rfl (bWk hY.1 (by decide)) (by rw[fK];simpa using hY.1) (λk x a hi hx hd hw hk hb=>by
  have e:=bJa (hY.2 x (bWu hx));simp only[hd,hi,hw,zZ,aA,bE,aFz e,bAj,aG (b:=128) (n:=a.length) (m:=1) (by decide) hb];exact⟨rfl,by simp⟩) (λa=>by simp)).1,fX (λx=>x)]
 simp only[aA];rw[(rY (λk (a:lFl)=>((k:Int),(nG w).1,aH w,dO w,a)) ((0:Int),(nG w).1,aH w,dO w,[]) [] (aB w) (λ_ x a=>a++[x]) bW0 (λ_=>1) 68719476736 (λa=>((nG w).1,aH w,dO w,a)) rfl (bWk hF.1 (by decide)) (by rw[fK];simpa using hF.1) (λk x a hi hx hd hw hk hb=>by
  have e:=hF.2 x (bWu hx);simp only[hd,hi,hw,zZ,aA,bE,aLa e,aJi,aG (b:=120) (n:=a.length) (m:=1) (by decide) hb];exact⟨rfl,by simp⟩) (λa=>by simp)).1,fX (λx=>x)]
 simp only[aA];rw[(rY (λk (a:lIb)=>((k:Int),(nG w).1,aH w,dO w,a)) ((0:Int),(nG w).1,aH w,dO w,[]) [] (aL w) (λ_ x a=>a++[x]) bW0 (λ_=>1) 68719476736 (λa=>((nG w).1,aH w,dO w,a)) rfl (bWk hX.1 (by decide)) (by rw[fK];simpa using hX.1) (λk x a hi hx hd hw hk hb=>by
  have e:=hX.2 x (bWu hx);simp only[hd,hi,hw,zZ,aA,bE,aZb e,aG (b:=48) (n:=a.length) (m:=1) (by decide) hb];simp) (λa=>by simp)).1,fX (λx=>x)]
 simp only[aA,bXc,List.map_id'];rfl
theorem bVn{l:lFy}(h:SmB 68719476736 (.sl tFy) l):rV l=some l:=by
 unfold rV bQ zz4 zz5 zz6 zz7 zz8 zz9;rw[(rY (λk (a:lFy)=>((k:Int),a)) ((0:Int),[]) [] l (λ_ x a=>a++[x]) bW0 (λ_=>1) 68719476736 id rfl (bWk h.1 (by decide)) (by rw[fK];simpa using h.1) (λk x a hi hx hd hw hk hb=>by
  have e:=bJa (h.2 x (bWu hx));simp only[hd,hi,hw,zZ,aA,bE,bQb e,bAj,aG (b:=128) (n:=a.length) (m:=1) (by decide) hb];exact⟨rfl,by simp⟩) (λa=>by simp)).1,fX (λx=>x)]
 simp
theorem bQp{l:lFl}(h:SmB 68719476736 (.sl tFl) l):mX l=some l:=by
 unfold mX pj9 zz4 zz5 zz6 zz7 zz8;rw[(rY (λk (a:lFl)=>((k:Int),a)) ((0:Int),[]) [] l (λ_ x a=>a++[x]) bW0 (λ_=>1) 68719476736 id rfl (bWk h.1 (by decide)) (by rw[fK];simpa using h.1) (λk x a hi hx hd hw hk hb=>by
  have e:=h.2 x (bWu hx);simp only[hd,hi,hw,zZ,aA,bE,aRh e,aJi,aG (b:=120) (n:=a.length) (m:=1) (by decide) hb];exact⟨rfl,by simp⟩) (λa=>by simp)).1,fX (λx=>x)]
 simp
theorem bOv{l:lIb}(h:SmB 68719476736 (.sl tIb) l):nD l=some l:=by
 unfold nD pj4;rw[(rY (λk (a:lIb)=>((k:Int),a)) ((0:Int),[]) [] l (λ_ x a=>a++[x]) bW0 (λ_=>1) 68719476736 id rfl (bWk h.1 (by decide)) (by rw[fK];simpa using h.1) (λk x a hi hx hd hw hk hb=>by
  have e:=h.2 x (bWu hx);simp only[hd,hi,hw,zZ,aA,bE,bQ3 e,aG (b:=48) (n:=a.length) (m:=1) (by decide) hb];simp) (λa=>by simp)).1,fX (λx=>x)]
 simp
theorem bP1{w:den tNw}(h:SmB 68719476736 tNw w):uN w=some (aPv w):=by
 obtain⟨hT,hK,hG,_,hD,hY,hF,hX,_⟩:=h;unfold uN pj2 pj3 dD zz4 zz5 zz6 zz7 zz8 zz9;simp only[bE,aY9 hT,aAd hK.1,aAd hK.2,bE1 hG,bVn hY,bQp hF,bOv hX,aA,aG (b:=8) (n:=([]:List Int).length) (m:=w.2.2.2.2.1.length) (by decide) (by simpa using hD.1),zZ,cC,eG,dC,dA,dH,bXc];rfl
def cA(w:den tNw):q1:=
 (aE w,aB w,aL w,(nT w).1,(nT w).2,(nK w).1,(nK w).2,(nG w).1,(nG w).2.1,(nG w).2.2,aH w,aJ w,dO w)
def bK(w:den tNw)(l:lFl):den tNw:=(nT w,nK w,nG w,aH w,aJ w,aE w,l,aL w,dO w)
def bR(r:Int)(p:den tPk)(f:den tFl):den tFl:=if f.1==r then (if p.1==2 then iH f p else iI f p) else f
def oQ(w:den tNw)(r:Int)(p:den tPk):den tNw:=bK w ((aB w).map (bR r p))
def iY(p:den tPk):Prop:= ∀x∈p.2.2.2.2.2.2.2.2.2,0<=x/\x<=255
theorem bPq{α S R:Type}(enc:Nat->List α->S)(l:List α)(g:α->α)(out:List α->R){step:S->Option (S⊕R)}(hl:l.length<=4611686018427387904)
  (h:∀(k:Nat) (x:α) (a:List α),a.length=l.length->a[k]? =some x->x∈l->k<l.length->decide ((k:Int)<(l.length:Int))=true->IntKind.i64.wrap ((k:Int)+1)=((k+1:Nat):Int)->step (enc k a)=some (.inl (enc (k+1) (a.set k (g x)))))
  (he:∀a,a.length=l.length->step (enc l.length a)=some (.inr (out a))):aC step (enc 0 l)=some (out (l.map g)):=by
 have key:∀(rest pre:List α),pre++rest=l->aC step (enc pre.length (pre.map g++rest))=some (out (l.map g)):=by
  intro rest
  induction rest with
  | nil=>
   intro pre hp;rw[bXh]at hp;subst hp;rw[bXh];exact aW (he _ (by simp))
  | cons x rest ih=>
   intro pre hp;have hlt:pre.length<l.length:=by rw[<- hp];simp
   have hx:(pre.map g++x::rest)[pre.length]? =some x:=by simp
   have hlen:(pre.map g++x::rest).length=l.length:=by rw[<- hp];simp
   rw[cU (h pre.length x _ hlen hx (by rw[<- hp];simp) hlt (by simpa using hlt) (by rw[wri (by omega) (by omega)];omega))];have hs:(pre.map g++x::rest).set pre.length (g x)=(pre++[x]).map g++rest:=by
    rw[List.set_append_right _ _ (by simp)];simp
   rw[hs];have :=ih (pre++[x]) (by simpa using hp);simpa using this
 exact key l [] rfl
theorem bLy{α:Type}{a:List α}{k:Nat}{x:α}(h:a[k]? =some x):a.set k x=a:=by
 obtain⟨hlt,hx⟩:=bWn.1 h;rw[<- hx];exact List.set_getElem_self hlt
theorem bQw{f:den tFl}(h:tot tFl f<=1073741824):SmB 68719476736 tFl f:=(cF h).mono (by decide)
theorem bOy{α:Type}{a:List α}{k n:Nat}(h:a.length=n)(hk:k<n):decide ((k:Int)<(a.length:Int))=true/\decide (k<a.length)=true:=by
 constructor<;>simp<;>omega
theorem aQy{w:den tNw}{r:Int}{p:den tPk}(hF:∀f∈aB w,tot tFl f<=1073741824)(hl:(aB w).length<=1073741824)(hp:tot tPk p<=1073741824)(hb:iY p):gD w r p=some (cA (oQ w r p)):=by
 unfold gD ixb bQ pj9 zz4 zz5 zz6 zz7 zz8;refine bPq (λk (a:lFl)=>((k:Int),a)) (aB w) (bR r p) (λl=>cA (bK w l)) (bWk hl (by decide)) (λk f a ha hx hm hk hd hw=> ?_) (λa ha=> ?_)
 .obtain⟨d1,d2⟩:=bOy ha hk;have hd:decide ((k:Int)<(w.2.2.2.2.2.2.1.length:Int))=true:=hd;simp only[hd,d1,d2,eE,bWs,hx,zZ,aA,bE,aF4,bOx (bQw (hF f hm)),bP6 (hF f hm) hp hb,aJi,hw];unfold bR;cases f.1==r
  .simp only[bW1,zZ,bWz,zU,aA,bLy hx]
  .simp only[bWw,zY,zV];cases p.1==2<;>rfl
 .simp;rfl
theorem aIr(p:den tPk):goTo p p.2.2.2.2.1 p.2.2.2.2.2.1 p.2.2.2.2.2.2.1=p:=rfl
theorem aFi(t:den tTo)(p:den tPk):∃b,aT t p=goTo p p.2.2.2.2.1 p.2.2.2.2.2.1 b:=by
 unfold aT;split
 .exact⟨_,rfl⟩
 .exact⟨_,(aIr p).symm⟩
theorem aWt(p:den tPk):∃i j b,adv p=goTo p i j b:=by
 unfold adv;split
 .exact⟨_,_,_,(aIr p).symm⟩
 .split<;>exact⟨_,_,_,rfl⟩
theorem aXu{t:den tTo}{now:Int}:∀(n:Nat) (p:den tPk),∃i j b,(goC t now n p).2=goTo p i j b
 | 0,p=>by obtain⟨b,hb⟩:=aFi t p;exact⟨_,_,_,hb⟩
 | n+1,p=>by
  obtain⟨b,hb⟩:=aFi t p;unfold goC;split
  .obtain⟨i,j,c,h1⟩:=aXu (t:=t) (now:=now) n (adv (aT t p));obtain⟨i',j',c',h2⟩:=aWt (aT t p);rw[h1,h2,hb];exact⟨_,_,_,rfl⟩
  .exact⟨_,_,_,hb⟩
theorem aDx(t:den tTo)(r now dead inn:Int)(p:den tPk):∃i j b,(fwd t r now dead inn p).2.2.1=goTo p i j b:=by
 obtain⟨i,j,b,h⟩:∃i j b,(aX t now p).2=goTo p i j b:=aXu _ p;unfold fwd
 repeat' split
 all_goals first
  | exact⟨_,_,_,(aIr p).symm⟩
  | exact⟨_,_,_,h⟩
  | (obtain⟨i',j',b',h'⟩:=aWt (aX t now p).2;exact⟨_,_,_,by rw[show (0,pEg (bH (aX t now p).2) (cW (aX t now p).2),adv (aX t now p).2,pEg (bH (aX t now p).2) (cW (aX t now p).2)).2.2.1=adv (aX t now p).2 from rfl,h',h];rfl⟩)
theorem aBh(t:den tTo)(r now dead inn:Int)(p:den tPk):(fwd t r now dead inn p).2.2.1.1=p.1/\(fwd t r now dead inn p).2.2.1.2.1=p.2.1/\(fwd t r now dead inn p).2.2.1.2.2.2.2.2.2.2.1=p.2.2.2.2.2.2.2.1/\(fwd t r now dead inn p).2.2.1.2.2.2.2.2.2.2.2.2=p.2.2.2.2.2.2.2.2.2:=by
 obtain⟨i,j,b,h⟩:=aDx t r now dead inn p;rw[h];exact⟨rfl,rfl,rfl,rfl⟩
theorem aEv{t:den tTo}{r now dead inn:Int}{p:den tPk}(h:((fwd t r now dead inn p).1==2)=false):cL p=true:=by
 cases hv:cL p with
 | true=>rfl
 | false=>
  unfold fwd at h;rw[hv]at h;cases h
def rX(w:den tNw):den tNw:=(nT w,nK w,nG w,aH w,aJ w,aE w,aB w,aL w,wr (dO w+1))
def dS(w:den tNw)(r eg:Int)(p:den tPk):den tNw:=
 if (pT (nG w) p.2.2.2.2.2.2.2.1 r eg (aH w)).2.1&&decide ((aE w).length<150) then
  (nT w,nK w,((pT (nG w) p.2.2.2.2.2.2.2.1 r eg (aH w)).1,(pT (nG w) p.2.2.2.2.2.2.2.1 r eg (aH w)).2.2.1,(pT (nG w) p.2.2.2.2.2.2.2.1 r eg (aH w)).2.2.2),aH w,aJ w,aE w++[((remote (nT w) r eg).1,(remote (nT w) r eg).2,p)],aB w,aL w,dO w)
 else rX w
structure aHx (w:den tNw):Prop where
 as:(nT w).1.length<=68719476736
 links:(nT w).2.length<=1073741824
 dead:(aJ w).length<=68719476736
 res:(nG w).2.1.length<=1073741824
 use:(nG w).2.2.length<=1073741824
 flowsN:(aB w).length<=1073741824
 flows:∀f∈aB w,tot tFl f<=1073741824
theorem aZ9{w:den tNw}{r:Int}{v:den aV2}(h:aHx w):kE w r v=some (cA (dS w r v.2.1 v.2.2)):=by
 unfold kE dS bQ pj2 pj3 zz4 zz5 zz6 zz7 zz8 zz9;simp only[bE,bQl h.res h.use,aA,cC,eG,dC,dA,dH];have key:∀n:Nat,decide ((n:Int)>=150)= !decide (n<150):=λn=>by rw[bXj];simp only[zR,bW8,decide_eq_false_iff_not];omega
 have h150:decide ((w.2.2.2.2.2.1.length:Int)>=150)= !decide ((aE w).length<150):=key _;rw[h150];cases ct:(pT (nG w) v.2.2.2.2.2.2.2.2.2.1 r v.2.1 (aH w)).2.1
 .simp only[bW1,zZ,aA,bXb,bWz,zU];rfl
 .by_cases hl:(aE w).length<150
  .rw[zX hl];simp only[bWw,zY,aA,bZc,zV,aXr (t:=w.1) (bWk h.links (by decide)),aG (b:=128) (n:=w.2.2.2.2.2.1.length) (m:=1) (by decide) (show (aE w).length+1<=_ by omega),zZ];rfl
  .rw[zW hl];simp only[bWw,bW1,zZ,zY,aA,bYu,bWz,zU];rfl
def proc0(w:den tNw)(r inn:Int)(p:den tPk):den tNw:=
 if (aD (nT w) (aH w) (aJ w) r inn p).1==0 then dS w r (aD (nT w) (aH w) (aJ w) r inn p).2.1 (aD (nT w) (aH w) (aJ w) r inn p).2.2.1
 else if (aD (nT w) (aH w) (aJ w) r inn p).1==1 then oQ w r (aD (nT w) (aH w) (aJ w) r inn p).2.2.1
 else rX w
structure aHk (p:den tPk):Prop where
 sz:tot tPk p<=1073741824
 by_:iY p
theorem aHk.step{p:den tPk}(h:aHk p)(t:den tTo)(now:Int)(dead:List Int)(r inn:Int):aHk (aD t now dead r inn p).2.2.1 where
 sz:=by unfold aD;rw[aKz];exact h.sz
 by_:=λx hx=>h.by_ x (by unfold aD at hx;rwa [(aBh t r now _ inn p).2.2.2]at hx)
theorem aP4{w:den tNw}{r inn:Int}{p:den tPk}(h:aHx w)(hp:aHk p)(hk:(p.1==1)=false):dX w r inn p=some (cA (proc0 w r inn p)):=by
 have hp2:tot tPt p.2.2.2.1<=1073741824:=aXj hp.sz;have hs:=hp.step (nT w) (aH w) (aJ w) r inn;unfold dX bJ.b ixb bQ uJ pj2 pj3 pj4 xD dD eV eX zz4 zz5 zz6 zz7 zz8 zz9;simp only[bE,bAw h.links h.dead,bN6 h.as (bWk h.links (by decide)) (bWk hp.sz (by decide)) hp2,aA,cC,eG,dC,dA,dH,hk];rw[show fwd w.1 r w.2.2.2.1 (dU w.1 w.2.2.2.2.1 r) inn p=aD (nT w) (aH w) (aJ w) r inn p from rfl];unfold proc0;generalize aD (nT w) (aH w) (aJ w) r inn p=v at hs;simp only[fwI,bE];cases c0:v.1==0
 .cases c1:v.1==1
  .cases v.1==7
   .simp only[zY,aA,bWz,zU];rfl
   .simp only[zZ,zY,aA,bWz,zU];rfl
  .simp only[zZ,zY,aA,bWz,zU,zV,aQy h.flows h.flowsN hs.sz hs.by_]
 .simp only[zZ,zV,aZ9 h,aA]
theorem aW3:∀(k n:Nat),n<128 ^ (k+1)-> ∀x∈vi k n,0<=x/\x<=255
 | 0,n,h,x,hx=>by
  have :x=(n:Int):=by simpa [vi] using hx
  subst this;have :128 ^ (0+1)=128:=rfl;omega
 | k+1,n,h,x,hx=>by
  unfold vi at hx;split at hx
  .have :x=(n:Int):=by simpa using hx
   subst this;omega
  .rcases bWm.1 hx with rfl | hx
   .omega
   .refine aW3 k (n / 128) ?_ x hx;rw[Nat.div_lt_iff_lt_mul (by decide)]
    rwa [<- Nat.pow_succ]
def tI(l:List Int):Prop:= ∀x∈l,0<=x/\x<=255
theorem bDd{b:List Int}{n:Int}(h:tI b):tI (aBy b n):=by
 unfold aBy;split
 .rename_i hr;have :=aI.1 hr;intro x hx;rcases bWq.1 hx with hx | hx
  .exact h x hx
  .exact aW3 5 n.toNat (by have :128 ^ (5+1)=4398046511104:=rfl;omega) x hx
 .exact h
theorem aN3:∀(l b:List Int),tI b->tI (aKg b l)
 | [],b,h=>h
 | x::xs,b,h=>aN3 xs (aBy b x) (bDd h)
theorem aPb(x:den tRv):tI (rI x):=by
 unfold rI;split
 .exact aN3 _ _ (λx hx=>by cases hx)
 .exact λx hx=>by cases hx
theorem bQf{r now d:Int}{p:den tPk}(h:tot tPk p<=536870912):aHk (dI r now d p) where
 sz:=by have :=aRs r now d p;omega
 by_:=aPb _
theorem bGy{x:den tIb}{p:den tPk}(h:aHk p):aHk (kR x p) where
 sz:=bWk (aSa x p) h.sz
 by_:=by
  unfold kR;split
  .exact λx hx=>by cases hx
  .exact λx hx=>by cases hx
theorem bQn{l:lIb}{a b:Int}(h:l.length<=68719476736):oK l a b=some (cN l a b):=by
 unfold oK cN;rw[aU (l:=l) (λk x=>if mY a b x then some (k:Int) else none) (by omega) (λk x hi hd hw hm hk=>by
  simp only[hd,hi,hw,zZ,aA];unfold mY;cases x.1==a<;>cases x.2.1==b<;>rfl) (by simp),aI5 (mY a b)]
 cases l.findIdx? (mY a b)<;>rfl
theorem aMh(l:lIb)(a b:Int):cN l a b= -1\/ ∃(k:Nat) (x:den tIb),cN l a b=(k:Int)/\l[k]? =some x:=by
 unfold cN;cases h:l.findIdx? (mY a b) with
 | none=>exact .inl rfl
 | some i=>
  have hlt:i<l.length:=by
   have :=List.findIdx?_eq_some_iff_findIdx_eq.1 h;exact this.1
  exact .inr ⟨i,l[i],by simp,bWl hlt⟩
def mH(w:den tNw)(i:Nat)(x:den tIb):den tNw:=(nT w,nK w,nG w,aH w,aJ w,aE w,aB w,(aL w).set i x,dO w)
def gL(w:den tNw)(i:Nat):den tIb:=((aL w)[i]?).getD (0,0,0,[])
def kL(w:den tNw)(r:Int)(p:den tPk):den tNw:=
 if cN (aL w) r p.2.1<0 then w
 else if wU (bY (gL w (cN (aL w) r p.2.1).toNat) p) p then
  proc0 (mH w (cN (aL w) r p.2.1).toNat (bY (gL w (cN (aL w) r p.2.1).toNat) p)) r 0 (kR (bY (gL w (cN (aL w) r p.2.1).toNat) p) p)
 else mH w (cN (aL w) r p.2.1).toNat (bY (gL w (cN (aL w) r p.2.1).toNat) p)
def nY(w:den tNw)(r d:Int)(p:den tPk):den tNw:=
 rX (if (fC (uI p)).length>1 then proc0 w r 0 (dI r (aH w) d p) else oQ w r (dI r (aH w) d p))
def cO(w:den tNw)(r inn:Int)(p:den tPk):den tNw:=
 if (aD (nT w) (aH w) (aJ w) r inn p).1==0 then dS w r (aD (nT w) (aH w) (aJ w) r inn p).2.1 (aD (nT w) (aH w) (aJ w) r inn p).2.2.1
 else if (aD (nT w) (aH w) (aJ w) r inn p).1==1 then
  (if p.1==1 then kL w r (aD (nT w) (aH w) (aJ w) r inn p).2.2.1 else oQ w r (aD (nT w) (aH w) (aJ w) r inn p).2.2.1)
 else if (aD (nT w) (aH w) (aJ w) r inn p).1==7&&p.1==1 then nY w r (aD (nT w) (aH w) (aJ w) r inn p).2.2.2 p
 else rX w
theorem aR9{w:den tNw}(h:aHx w){i:Nat}{x:den tIb}:aHx (mH w i x):=⟨h.as,h.links,h.dead,h.res,h.use,h.flowsN,h.flows⟩
theorem aGu{x:den tIb}{p:den tPk}(h:wU x p=true):((kR x p).1==1)=false:=by
 unfold kR;rw[h];rfl
theorem aY2{w:den tNw}{r inn:Int}{p:den tPk}(h:aHx w)(hbn:(aL w).length<=68719476736)(hbx:∀x∈aL w,tot tIb x<=1073741824)(hz:tot tPk p<=536870912)(hb:iY p):bJ w r inn p=some (cA (cO w r inn p)):=by
 have hp:aHk p:=⟨by omega,hb⟩
 have hp2:tot tPt p.2.2.2.1<=1073741824:=aXj hp.sz;have hs:=hp.step (nT w) (aH w) (aJ w) r inn;have hkeep:=aBh w.1 r w.2.2.2.1 (dU w.1 w.2.2.2.2.1 r) inn p;unfold bJ bJ.b ixb bQ uJ pj2 pj3 pj4 xD dD eV eX zz4 zz5 zz6 zz7 zz8 zz9;simp only[bE,bAw h.links h.dead,bN6 h.as (bWk h.links (by decide)) (bWk hp.sz (by decide)) hp2,aA,cC,eG,dC,dA,dH];rw[show fwd w.1 r w.2.2.2.1 (dU w.1 w.2.2.2.2.1 r) inn p=aD (nT w) (aH w) (aJ w) r inn p from rfl]at hkeep ⊢;unfold cO;generalize aD (nT w) (aH w) (aJ w) r inn p=v at hs hkeep;simp only[fwI,bE];cases c0:v.1==0
 .cases c1:v.1==1
  .cases c7:v.1==7
   .simp only[zY,aA,bWz,zU,bXb];rfl
   .cases ck:p.1==1
    .simp only[zZ,zY,aA,bWz,zU,bYu];rfl
    .have hn:aHk (dI r (aH w) v.2.2.2 p):=bQf hz;have ht1:tot tPt (uI p)<=34359738368:=bWk (aG3 p) (bWk hp2 (by decide));have hlen:decide (((fC (uI p)).length:Int)>1)=decide ((fC (uI p)).length>1):=by rw[bXj];simp only[zR,gt_iff_lt];omega
     have e1:dX w r 0 ((pkR (dI r w.2.2.2.1 v.2.2.2 p)).1,(pkR (dI r w.2.2.2.1 v.2.2.2 p)).2.1,(pkR (dI r w.2.2.2.1 v.2.2.2 p)).2.2.1,(pkR (dI r w.2.2.2.1 v.2.2.2 p)).2.2.2.2.2.2.2.2.1,(pkR (dI r w.2.2.2.1 v.2.2.2 p)).2.2.2.1,(pkR (dI r w.2.2.2.1 v.2.2.2 p)).2.2.2.2.1,(pkR (dI r w.2.2.2.1 v.2.2.2 p)).2.2.2.2.2.1,(pkR (dI r w.2.2.2.1 v.2.2.2 p)).2.2.2.2.2.2.1,(pkR (dI r w.2.2.2.1 v.2.2.2 p)).2.2.2.2.2.2.2.1,(pkR (dI r w.2.2.2.1 v.2.2.2 p)).2.2.2.2.2.2.2.2.2)=some (cA (proc0 w r 0 (dI r (aH w) v.2.2.2 p))):=aP4 h hn rfl;have e2:gD w r ((pkR (dI r w.2.2.2.1 v.2.2.2 p)).1,(pkR (dI r w.2.2.2.1 v.2.2.2 p)).2.1,(pkR (dI r w.2.2.2.1 v.2.2.2 p)).2.2.1,(pkR (dI r w.2.2.2.1 v.2.2.2 p)).2.2.2.2.2.2.2.2.1,(pkR (dI r w.2.2.2.1 v.2.2.2 p)).2.2.2.1,(pkR (dI r w.2.2.2.1 v.2.2.2 p)).2.2.2.2.1,(pkR (dI r w.2.2.2.1 v.2.2.2 p)).2.2.2.2.2.1,(pkR (dI r w.2.2.2.1 v.2.2.2 p)).2.2.2.2.2.2.1,(pkR (dI r w.2.2.2.1 v.2.2.2 p)).2.2.2.2.2.2.2.1,(pkR (dI r w.2.2.2.1 v.2.2.2 p)).2.2.2.2.2.2.2.2.2)=some (cA (oQ w r (dI r (aH w) v.2.2.2 p))):=aQy h.flows h.flowsN hn.sz hn.by_;simp only[zZ,zY,aA,bWz,zU,bZc,zV,bQy (t:=w.1) (r:=r) (now:=w.2.2.2.1) (d:=v.2.2.2) (bWk hp.sz (by decide)),aUx (vV (p:=p) (by omega)),cC,eG,dC,dA,dH];unfold pP;simp only[aQc ht1,aA,hlen,e1,e2];unfold nY;cases hd:decide ((fC (uI p)).length>1)
     .rw[zS (of_decide_eq_false hd)];rfl
     .rw[zT (of_decide_eq_true hd)];rfl
  .cases ck:p.1==1
   .simp only[zZ,zY,aA,bWz,zU,zV,aQy h.flows h.flowsN hs.sz hs.by_]
   .simp only[zZ,zY,aA,bWz,zU,zV,bQn hbn];unfold kL;rw[hkeep.2.1];rcases aMh (aL w) r p.2.1 with hf | ⟨k,x,hf,hx⟩
    .rw[show cN w.2.2.2.2.2.2.2.1 r p.2.1= -1 from hf];rfl
    .have hlt:=(bWn.1 hx).1;have hx0:w.2.2.2.2.2.2.2.1[k]? =some x:=hx;have hxm:=hbx x (bWu hx);have hxs:SmB 4294967296 tIb x:=(cF hxm).mono (by decide);have hvs:SmB 4294967296 tPk v.2.2.1:=(cF hs.sz).mono (by decide);have hd1:decide ((k:Int)<(w.2.2.2.2.2.2.2.1.length:Int))=true:=zX (by have :k<w.2.2.2.2.2.2.2.1.length:=hlt;omega);have hd2:decide (k<w.2.2.2.2.2.2.2.1.length)=true:=zX hlt;have hset:(w.2.2.2.2.2.2.2.1.set k (bY x v.2.2.1))[k]? =some (bY x v.2.2.1):=bYj hlt;have hba:gL w k=x:=by unfold gL;rw[hx];rfl
     rw[show cN w.2.2.2.2.2.2.2.1 r p.2.1=(k:Int) from hf,zW (show ¬ (k:Int)<0 by omega),zS (show ¬ (k:Int)<0 by omega),bWs,hba];have e1:dX (w.1,w.2.1,w.2.2.1,w.2.2.2.1,w.2.2.2.2.1,w.2.2.2.2.2.1,w.2.2.2.2.2.2.1,w.2.2.2.2.2.2.2.1.set k (bY x v.2.2.1),w.2.2.2.2.2.2.2.2) r 0 (kR (bY x v.2.2.1) v.2.2.1)=some (cA (proc0 (mH w k (bY x v.2.2.1)) r 0 (kR (bY x v.2.2.1) v.2.2.1))):=by
      cases ca:wU (bY x v.2.2.1) v.2.2.1 with
      | true=>exact aP4 (aR9 h) (bGy hs) (aGu ca)
      | false=>exact aP4 (aR9 h) (bGy hs) (by unfold kR;rw[ca];rfl)
     simp only[zY,eE,hd1,hd2,zZ,hx0,aA,bQd hxs hvs,bYb,hset,bPo (x:=bY x v.2.2.1) (p:=v.2.2.1) (bWk (aXj hs.sz) (by decide)),cC,eG,dC,dA,dH,pkB,bE,e1];cases wU (bY x v.2.2.1) v.2.2.1<;>rfl
 .simp only[zZ,zV,aZ9 h,aA]
def aGc(p q:den tPk):Prop:=p.2.2.2.1=q.2.2.2.1/\p.2.2.2.2.1=q.2.2.2.2.1/\p.2.2.2.2.2.1=q.2.2.2.2.2.1
theorem aGc.cur{p q:den tPk}(h:aGc p q):cB p=cB q/\bZ p=bZ q/\bH p=bH q/\cW p=cW q/\cY p=cY q/\cZ p=cZ q:=by
 obtain⟨h1,h2,h3⟩:=h;have a1:cB p=cB q:=by unfold cB;rw[h1,h2,h3]
 have a2:bZ p=bZ q:=by unfold bZ;rw[a1,h1,h2,h3]
 have a3:bH p=bH q:=by unfold bH;rw[h1,h2]
 have a4:cW p=cW q:=by unfold cW;rw[a3,h3]
 have a5:cY p=cY q:=by unfold cY;rw[a3,h3]
 exact⟨a1,a2,a3,a4,a5,by unfold cZ aC9;rw[a2,a5,h1,h2]⟩
theorem aE9(t:den tTo)(p:den tPk):aGc (aT t p) p:=by
 obtain⟨b,hb⟩:=aFi t p;rw[hb];exact⟨rfl,rfl,rfl⟩
theorem aGc.trans{p q r:den tPk}(h:aGc p q)(k:aGc q r):aGc p r:=⟨h.1.trans k.1,h.2.1.trans k.2.1,h.2.2.trans k.2.2⟩
theorem yG{t:den tTo}{now:Int}{n:Nat}{p:den tPk}(h:(goC t now n p).1=0):dR t now p=0:=by
 cases n with
 | zero=>exact h
 | succ n=>
  unfold goC at h;split at h
  .rename_i hc;rw[bWj]at hc;simpa using hc.1
  .exact h
theorem bFu{t:den tTo}{now:Int}:∀(n:Nat) (p:den tPk),(goC t now n p).1<=5
 | 0,p=>by
  show dR t now p<=5;unfold dR
  repeat' split
  all_goals decide
 | n+1,p=>by
  unfold goC;split
  .exact bFu n _
  .show dR t now p<=5;unfold dR
   repeat' split
   all_goals decide
theorem kinds{p:den tPk}(h:cL p=true)(h1:(p.1==1)=false)(h2:(p.1==2)=false):(p.1==3)=true:=by
 unfold cL at h;rw[bWj]at h;have hr:=aI.1 h.1;have h1: ¬ p.1=(1:Int):=by simpa using h1
 have h2: ¬ p.1=(2:Int):=by simpa using h2
 have key:∀c:Int,1<=c->c<=3-> ¬ c=1-> ¬ c=2->c=3:=by intro c;omega
 have :p.1=(3:Int):=key p.1 hr.1 hr.2 h1 h2;rw[this];rfl
theorem iL(w:den tNw):tot tNw w=(tot (.sl tAS) (nT w).1+tot (.sl tLk) (nT w).2)+((tot (.sl tSg) (nK w).1+tot (.sl tSg) (nK w).2)+((0+(tot (.sl tRs) (nG w).2.1+tot (.sl tUs) (nG w).2.2))+(0+(tot (.sl ti) (aJ w)+(tot (.sl tFy) (aE w)+(tot (.sl tFl) (aB w)+(tot (.sl tIb) (aL w)+0))))))):=rfl
theorem aWl{w:den tNw}(h:tot tNw w<=1073741824):aHx w where
 as:=by have :=iL w;have :=iN (t:=tAS) (nT w).1;omega
 links:=by have :=iL w;have :=iN (t:=tLk) (nT w).2;omega
 dead:=by have :=iL w;have :=iN (t:=ti) (aJ w);omega
 res:=by have :=iL w;have :=iN (t:=tRs) (nG w).2.1;omega
 use:=by have :=iL w;have :=iN (t:=tUs) (nG w).2.2;omega
 flowsN:=by have :=iL w;have :=iN (t:=tFl) (aB w);omega
 flows:=λf hf=>by have :=iL w;have :=aFs (t:=tFl) hf;omega
theorem bTt{w:den tNw}(h:tot tNw w<=1073741824):(aL w).length<=68719476736/\ ∀x∈aL w,tot tIb x<=1073741824:=
 ⟨by have :=iL w;have :=iN (t:=tIb) (aL w);omega,λx hx=>by have :=iL w;have :=aFs (t:=tIb) hx;omega⟩
theorem aBn(w:den tNw):tot tNw (rX w)=tot tNw w:=rfl
theorem bA3(l:lUs):tot (.sl tUs) l=l.length:=jH rfl
theorem bGm(g:den tSc)(id s d now:Int):tot (.sl tRs) (pT g id s d now).2.2.1=tot (.sl tRs) g.2.1/\tot (.sl tUs) (pT g id s d now).2.2.2<=tot (.sl tUs) g.2.2+1:=by
 have m1:=aTg g.2.2 id s d;have m2:=aTg g.2.2 0 s d;rw[bA3,bA3];unfold pT;split
 .exact⟨rfl,by simpa using m1⟩
 .split
  .exact⟨rfl,by simpa using m2⟩
  .exact⟨rfl,by simp⟩
theorem aSx(w:den tNw)(r eg:Int)(p:den tPk):tot tNw (dS w r eg p)<=tot tNw w+(2+tot tPk p):=by
 unfold dS;split
 .obtain⟨e1,e2⟩:=bGm (nG w) p.2.2.2.2.2.2.2.1 r eg (aH w);rw[iL,iL w];simp only[nT,nK,nG,aJ,aE,aB,aL]at e1 e2 ⊢;rw[rF,aCw];have e3:tot tFy ((remote w.1 r eg).1,(remote w.1 r eg).2,p)=tot tPk p:=by simp[rH,sF]
  rw[e3];omega
 .rw[aBn];omega
theorem bIh(f:den tFl)(p:den tPk):tot tFl (iH f p)=tot tFl f:=by
 unfold iH;split<;>rfl
theorem bIg(r:Int)(p:den tPk)(f:den tFl):tot tFl (bR r p f)<=tot tFl f+1:=by
 unfold bR;split
 .split
  .rw[bIh];omega
  .exact bIt f p
 .omega
theorem aZq(r:Int)(p:den tPk):∀l:lFl,tot (.sl tFl) (l.map (bR r p))<=tot (.sl tFl) l+l.length
 | []=>by simp
 | f::l=>by
  have h1:=bIg r p f;have h2:=aZq r p l;rw[bW2,iU,iU,bXp];omega
theorem aC2(w:den tNw)(l:lFl):tot tNw (bK w l)=(tot (.sl tAS) (nT w).1+tot (.sl tLk) (nT w).2)+((tot (.sl tSg) (nK w).1+tot (.sl tSg) (nK w).2)+((0+(tot (.sl tRs) (nG w).2.1+tot (.sl tUs) (nG w).2.2))+(0+(tot (.sl ti) (aJ w)+(tot (.sl tFy) (aE w)+(tot (.sl tFl) l+(tot (.sl tIb) (aL w)+0))))))):=rfl
theorem bDo(w:den tNw)(k:Nat)(x:den tIb):tot tNw (mH w k x)=(tot (.sl tAS) (nT w).1+tot (.sl tLk) (nT w).2)+((tot (.sl tSg) (nK w).1+tot (.sl tSg) (nK w).2)+((0+(tot (.sl tRs) (nG w).2.1+tot (.sl tUs) (nG w).2.2))+(0+(tot (.sl ti) (aJ w)+(tot (.sl tFy) (aE w)+(tot (.sl tFl) (aB w)+(tot (.sl tIb) ((aL w).set k x)+0))))))):=rfl
theorem aIo(w:den tNw)(r:Int)(p:den tPk):tot tNw (oQ w r p)<=tot tNw w+(aB w).length:=by
 have h:=aZq r p (aB w);unfold oQ;rw[aC2,iL w];omega
theorem aSq(w:den tNw)(r inn:Int)(p:den tPk):tot tNw (proc0 w r inn p)<=tot tNw w+(2+tot tPk p+(aB w).length):=by
 unfold proc0;split
 .have :=aSx w r (aD (nT w) (aH w) (aJ w) r inn p).2.1 (aD (nT w) (aH w) (aJ w) r inn p).2.2.1;have e:tot tPk (aD (nT w) (aH w) (aJ w) r inn p).2.2.1=tot tPk p:=aKz _ _ _ _ _ _;omega
 .split
  .have :=aIo w r (aD (nT w) (aH w) (aJ w) r inn p).2.2.1;omega
  .rw[aBn];omega
theorem aQ9{t:Ty}{l:List (den t)}{k:Nat}{x y:den t}(h:l[k]? =some x):tot (.sl t) (l.set k y)+tot t x=tot (.sl t) l+tot t y:=by
 induction l generalizing k with
 | nil=>cases h
 | cons z l ih=>
  cases k with
  | zero=>
   have :z=x:=by simpa using h
   subst this;rw[List.set_cons_zero,iU,iU];omega
  | succ k=>
   have :=ih (k:=k) (by simpa using h);rw[List.set_cons_succ,iU,iU];omega
theorem bFp(x:den tIb)(p:den tPk):tot tIb (bY x p)<=tot tIb x+(1+tot tPk p):=by
 have h1:=bJe x p;have h2:=(aLb (p:=p) (bWx _)).2;have e:∀y:den tIb,tot tIb y=tot (.sl tMs) y.2.2.2:=λy=>by simp[rH,sF]
 rw[e,e];omega
theorem bHx(w:den tNw)(r:Int)(p:den tPk):tot tNw (kL w r p)<=tot tNw w+(3+2 * tot tPk p+(aB w).length):=by
 unfold kL;split
 .omega
 .rcases aMh (aL w) r p.2.1 with hf | ⟨k,x,hf,hx⟩
  .rename_i hc;rw[hf]at hc;exact absurd (by decide) hc
  .have hba:gL w k=x:=by unfold gL;rw[hx];rfl
   rw[hf,bWs,hba];have h1:=aQ9 (t:=tIb) (y:=bY x p) hx;have h2:=bFp x p;have h3:tot tNw (mH w k (bY x p))<=tot tNw w+(1+tot tPk p):=by
    rw[bDo,iL w];omega
   split
   .have h4:=aSq (mH w k (bY x p)) r 0 (kR (bY x p) p);have h5:=aSa (bY x p) p;have h6:(aB (mH w k (bY x p))).length=(aB w).length:=rfl;omega
   .omega
theorem bIo(w:den tNw)(r d:Int)(p:den tPk):tot tNw (nY w r d p)<=tot tNw w+(20+tot tPk p+(aB w).length):=by
 unfold nY;rw[aBn];split
 .have h1:=aSq w r 0 (dI r (aH w) d p);have h2:=aRs r (aH w) d p;omega
 .have :=aIo w r (dI r (aH w) d p);omega
theorem bIv(w:den tNw)(r inn:Int)(p:den tPk):tot tNw (cO w r inn p)<=tot tNw w+(20+2 * tot tPk p+(aB w).length):=by
 have e:tot tPk (aD (nT w) (aH w) (aJ w) r inn p).2.2.1=tot tPk p:=aKz _ _ _ _ _ _;unfold cO;split
 .have :=aSx w r (aD (nT w) (aH w) (aJ w) r inn p).2.1 (aD (nT w) (aH w) (aJ w) r inn p).2.2.1;omega
 .split
  .split
   .have :=bHx w r (aD (nT w) (aH w) (aJ w) r inn p).2.2.1;omega
   .have :=aIo w r (aD (nT w) (aH w) (aJ w) r inn p).2.2.1;omega
  .split
   .have :=bIo w r (aD (nT w) (aH w) (aJ w) r inn p).2.2.2 p;omega
   .rw[aBn];omega
theorem bFh{w:den tNw}(h:tot tNw w<=68719476736):SmB 68719476736 tNw w:=cF h
def nS(w:den tNw):q16:=
 ((nT w).1,(nT w).2,(nK w).1,(nK w).2,(nG w).1,(nG w).2.1,(nG w).2.2,aH w,aJ w,dO w,aE w,aB w,aL w)
theorem bGv{p:den tPp}(h:aAy p=true):tot tPp p<=8:=by
 unfold aAy aGe at h;simp only[bWj,zR]at h;have e:tot tPp p=tot (.sl aR) p.2.2.2:=by simp[rH,sF]
 rw[e,jH rfl];exact h.2.2.2.1
theorem bJp{p:den tPt}(h:aC8 p=true):tot tPt p<=27:=by
 unfold aC8 at h;rw[bWj,zR]at h;have key:∀l:lPp,l.all aAy=true->tot (.sl tPp) l<=9 * l.length:=by
  intro l
  induction l with
  | nil=>intro _;exact bWx _
  | cons x l ih=>
   intro hl;rw[bY4,bWj]at hl;have h1:=bGv hl.1;have h2:=ih hl.2;rw[iU,bXp];omega
 have :=key p h.2;have h1:bW0 p<=3:=h.1;show tot (.sl tPp) p<=27;omega
theorem aCj{p:den tPk}(h:cL p=true):tot tPk p<=67:=by
 have h':=h;unfold cL at h';simp only[bWj,zR]at h';have h1:=bJp h'.2.1;have h2:p.2.2.2.2.2.2.2.2.2.length<=40:=by have :=h'.2.2.2.2.2.2.2.2.2;omega
 have e:tot tPk p=tot tPt p.2.2.2.1+tot (.sl tb) p.2.2.2.2.2.2.2.2.2:=by simp[rH,sF]
 rw[e,jH (t:=tb) rfl];omega
theorem aTe{w:den tNw}{r inn:Int}{p:den tPk}(h:cL p=false):cO w r inn p=rX w:=by
 have hv:aD (nT w) (aH w) (aJ w) r inn p=(2,0,p,0):=by
  unfold aD fwd;rw[h];rfl
 unfold cO;rw[hv];rfl
theorem aNn(w:den tNw)(r inn:Int)(p:den tPk):tot tNw (cO w r inn p)<=tot tNw w+(160+(aB w).length):=by
 cases h:cL p with
 | true=>
  have h1:=bIv w r inn p;have h2:=aCj h;omega
 | false=>rw[aTe h,aBn];omega
structure qB (w:den tNw):Prop where
 fly:∀x∈aE w,iY x.2.2
 msg:∀f∈aB w,∀m∈f.2.2.2.2.1,tI m
theorem aOi{w:den tNw}(h:qB w){r eg:Int}{p:den tPk}(hp:iY p):qB (dS w r eg p)/\(aB (dS w r eg p)).length=(aB w).length:=by
 unfold dS;split
 .refine⟨⟨λx hx=> ?_,h.msg⟩,rfl⟩;rcases bWq.1 (show x∈aE w++_ from hx) with hx | hx
  .exact h.fly x hx
  .have :x=_:=bWp.1 hx;subst this;exact hp
 .exact⟨⟨h.fly,h.msg⟩,rfl⟩
theorem bGt(r:Int)(p:den tPk)(f:den tFl):(bR r p f).2.2.2.2.1=f.2.2.2.2.1:=by
 unfold bR;split
 .split
  .exact (aYs f p).1
  .unfold iI;cases p.1==3&&(sD p.2.2.2.2.2.2.2.2.2).2.2.2<;>rfl
 .rfl
theorem aGp{w:den tNw}(h:qB w)(r:Int)(p:den tPk):qB (oQ w r p)/\(aB (oQ w r p)).length=(aB w).length:=by
 refine⟨⟨h.fly,λf hf m hm=> ?_⟩,by show ((aB w).map _).length=_;simp⟩;obtain⟨g,hg,rfl⟩:=List.mem_map.1 (show f∈(aB w).map (bR r p) from hf);rw[bGt]at hm;exact h.msg g hg m hm
theorem aCc{w:den tNw}(h:qB w):qB (rX w)/\(aB (rX w)).length=(aB w).length:=⟨⟨h.fly,h.msg⟩,rfl⟩
theorem aLn{w:den tNw}(h:qB w)(k:Nat)(x:den tIb):qB (mH w k x)/\(aB (mH w k x)).length=(aB w).length:=⟨⟨h.fly,h.msg⟩,rfl⟩
theorem aLt{t:den tTo}{now:Int}{dead:List Int}{r inn:Int}{p:den tPk}(hp:iY p):iY (aD t now dead r inn p).2.2.1:=λx hx=>hp x (by unfold aD at hx;rwa [(aBh t r now _ inn p).2.2.2]at hx)
theorem aNp{w:den tNw}(h:qB w){r inn:Int}{p:den tPk}(hp:iY p):qB (proc0 w r inn p)/\(aB (proc0 w r inn p)).length=(aB w).length:=by
 unfold proc0;split
 .exact aOi h (aLt hp)
 .split
  .exact aGp h _ _
  .exact aCc h
theorem aGj{w:den tNw}(h:qB w){r inn:Int}{p:den tPk}(hp:iY p):qB (cO w r inn p)/\(aB (cO w r inn p)).length=(aB w).length:=by
 unfold cO;split
 .exact aOi h (aLt hp)
 .split
  .split
   .unfold kL;split
    .exact⟨h,rfl⟩
    .split
     .obtain⟨h1,h2⟩:=aLn h (cN (aL w) r (aD (nT w) (aH w) (aJ w) r inn p).2.2.1.2.1).toNat (bY (gL w (cN (aL w) r (aD (nT w) (aH w) (aJ w) r inn p).2.2.1.2.1).toNat) (aD (nT w) (aH w) (aJ w) r inn p).2.2.1);obtain⟨h3,h4⟩:=aNp h1 (r:=r) (inn:=0) (p:=kR (bY (gL w (cN (aL w) r (aD (nT w) (aH w) (aJ w) r inn p).2.2.1.2.1).toNat) (aD (nT w) (aH w) (aJ w) r inn p).2.2.1) (aD (nT w) (aH w) (aJ w) r inn p).2.2.1) (by
       unfold kR;split
       .exact λx hx=>by cases hx
       .exact λx hx=>by cases hx)
      exact⟨h3,h4.trans h2⟩
     .exact aLn h _ _
   .exact aGp h _ _
  .split
   .unfold nY;split
    .obtain⟨h1,h2⟩:=aNp h (r:=r) (inn:=0) (p:=dI r (aH w) (aD (nT w) (aH w) (aJ w) r inn p).2.2.2 p) (aPb _);obtain⟨h3,h4⟩:=aCc h1;exact⟨h3,h4.trans h2⟩
    .obtain⟨h1,h2⟩:=aGp h r (dI r (aH w) (aD (nT w) (aH w) (aJ w) r inn p).2.2.2 p);obtain⟨h3,h4⟩:=aCc h1;exact⟨h3,h4.trans h2⟩
   .exact aCc h
def bF(w:den tNw)(l:lFy):den tNw:=(nT w,nK w,nG w,aH w,aJ w,l,aB w,aL w,dO w)
def kM(x:den tFy)(w:den tNw):Int×Int×Int×Int×Int×lPp×Int×Int×Int×Int×Int×lI×q1:=
 (x.1,x.2.1,x.2.2.1,x.2.2.2.1,x.2.2.2.2.1,x.2.2.2.2.2.1,x.2.2.2.2.2.2.1,x.2.2.2.2.2.2.2.1,x.2.2.2.2.2.2.2.2.1,x.2.2.2.2.2.2.2.2.2.1,x.2.2.2.2.2.2.2.2.2.2.1,x.2.2.2.2.2.2.2.2.2.2.2,cA w)
theorem bRy{w:den tNw}{x:den tFy}(hx:(aE w)[0]? =some x)(hl:(aE w).length<=1073741824):kF w 0=some (kM x (bF w ((aE w).drop 1))):=by
 have hlt:0<(aE w).length:=(bWn.1 hx).1;have hx:w.2.2.2.2.2.1[(0:Int).toNat]? =some x:=hx;have h1:decide ((0:Int)<(w.2.2.2.2.2.1.length:Int))=true:=zX (by have :0<w.2.2.2.2.2.1.length:=hlt;omega);have e1:wr ((0:Int)+1)=((1:Nat):Int):=rfl;have h2:cQ ((1:Nat):Int) (w.2.2.2.2.2.1.length:Int) (w.2.2.2.2.2.1.length:Int)=true:=aEe (show 1<=w.2.2.2.2.2.1.length from hlt);have h3:cQ (0:Int) (0:Int) (w.2.2.2.2.2.1.length:Int)=true:=aKl (k:=0) (bW3 _);have h4:cut w.2.2.2.2.2.1 (0:Int) (0:Int)=[]:=by simp[cut]
 have hl:w.2.2.2.2.2.1.length<=1073741824:=hl;unfold kF ixb bQ dD eV zz4 zz5 zz6 zz7 zz8 zz9;simp only[h1,hx,aA,zZ,e1,h2,h3,h4,aIe,bXh,bYc,aG (b:=128) (n:=0) (m:=0) (by decide) (by decide),aG (b:=128) (n:=0) (m:=(w.2.2.2.2.2.1.drop 1).length) (by decide) (by simp;omega),zX (show (0:Int)<=0 from bXl _)];rfl
theorem aGs(w:den tNw)(l:lFy):tot tNw (bF w l)+tot (.sl tFy) (aE w)=tot tNw w+tot (.sl tFy) l:=by
 have e:tot tNw (bF w l)=(tot (.sl tAS) (nT w).1+tot (.sl tLk) (nT w).2)+((tot (.sl tSg) (nK w).1+tot (.sl tSg) (nK w).2)+((0+(tot (.sl tRs) (nG w).2.1+tot (.sl tUs) (nG w).2.2))+(0+(tot (.sl ti) (aJ w)+(tot (.sl tFy) l+(tot (.sl tFl) (aB w)+(tot (.sl tIb) (aL w)+0))))))):=rfl;rw[e,iL w];omega
def outW(w:den tNw):den tNw:=match aE w with
 | []=>w
 | x::l=>cO (bF w l) x.1 x.2.1 x.2.2
def delW:Nat->den tNw->den tNw
 | 0,w=>w
 | n+1,w=>match aE w with
  | []=>w
  | _::_=>delW n (outW w)
structure eY (B F:Nat) (w:den tNw):Prop where
 tot:Go.V.tot tNw w<=B
 flows:(aB w).length<=F
 bytes:qB w
theorem eY.mono{B C F:Nat}{w:den tNw}(h:eY B F w)(hb:B<=C):eY C F w:=⟨bWk h.tot hb,h.flows,h.bytes⟩
theorem bPr{w:den tNw}{x:den tFy}{l:lFy}(h:aE w=x::l):tot tNw (bF w l)+(1+tot tPk x.2.2)=tot tNw w:=by
 have h1:=aGs w l;rw[h,iU]at h1;have e:tot tFy x=tot tPk x.2.2:=by simp[rH,sF]
 rw[e]at h1;omega
theorem aMi{B F:Nat}{w:den tNw}{x:den tFy}{l:lFy}(hk:eY B F w)(h:aE w=x::l):eY B F (bF w l)/\tot tPk x.2.2<=B/\iY x.2.2:=by
 have h1:=bPr h;have h2:=hk.tot;refine⟨⟨by omega,hk.flows,⟨λy hy=>hk.bytes.fly y (by rw[h];exact bWo _ hy),hk.bytes.msg⟩⟩,by omega,hk.bytes.fly x (by rw[h];exact List.mem_cons_self ..)⟩
theorem aHm{B F:Nat}{w:den tNw}(hk:eY B F w){r inn:Int}{p:den tPk}(hp:iY p):eY (B+(160+F)) F (cO w r inn p):=by
 obtain⟨h1,h2⟩:=aGj hk.bytes (r:=r) (inn:=inn) hp;have h3:=aNn w r inn p;have h4:=hk.tot;have h5:=hk.flows;exact⟨by omega,by omega,h1⟩
theorem aTh{B F:Nat}{w:den tNw}(hk:eY B F w):eY (B+(160+F)) F (outW w):=by
 unfold outW;split
 .exact hk.mono (by omega)
 .rename_i x l h;obtain⟨h1,h2,h3⟩:=aMi hk h;exact aHm h1 h3
theorem aSp{F:Nat}:∀(n:Nat) {B:Nat} {w:den tNw},eY B F w->eY (B+n * (160+F)) F (delW n w)
 | 0,B,w,hk=>hk.mono (by omega)
 | n+1,B,w,hk=>by
  unfold delW;split
  .exact hk.mono (by omega)
  .have :=aSp n (aTh hk);refine this.mono ?_;rw[bXk];omega
theorem bLj{F:Nat}{S R:Type}(enc:Nat->den tNw->S)(out:den tNw->R)(N:Nat){step:S->Option (S⊕R)}
  (H1:∀(k:Nat) (w:den tNw) (x:den tFy) (l:lFy),k<N->aE w=x::l->eY 536870912 F w->step (enc k w)=some (.inl (enc (k+1) (outW w))))
  (H2:∀(k:Nat) (w:den tNw),(k=N\/aE w=[])->step (enc k w)=some (.inr (out w))):
  ∀(m k B:Nat) (w:den tNw),k+m=N->eY B F w->B+m * (160+F)<=536870912->aC step (enc k w)=some (out (delW m w)):=by
 intro m
 induction m with
 | zero=>intro k B w hk hw hB;exact aW (H2 k w (.inl (by omega)))
 | succ m ih=>
  intro k B w hk hw hB;unfold delW;split
  .rename_i h;exact aW (H2 k w (.inr h))
  .rename_i x l h;rw[bXk]at hB;rw[cU (H1 k w x l (by omega) h (hw.mono (by omega)))];exact ih (k+1) _ _ (by omega) (aTh hw) (by omega)
theorem bAs{B F:Nat}{w:den tNw}(h:eY B F w)(hB:B<=1073741824):aHx w/\(aL w).length<=68719476736/\ ∀x∈aL w,tot tIb x<=1073741824:=
 ⟨aWl (bWk h.tot hB),bTt (bWk h.tot hB)⟩
theorem bO5{B F:Nat}{w:den tNw}(h:eY B F w)(hB:B<=1073741824):(aE w).length<=1073741824:=by
 have :=iL w;have :=iN (t:=tFy) (aE w);have :=h.tot;omega
theorem bVf{F:Nat}{w:den tNw}{x:den tFy}{l:lFy}(h:aE w=x::l)(hk:eY 536870912 F w):kF (((cA w).2.2.2.1,(cA w).2.2.2.2.1),((cA w).2.2.2.2.2.1,(cA w).2.2.2.2.2.2.1),((cA w).2.2.2.2.2.2.2.1,(cA w).2.2.2.2.2.2.2.2.1,(cA w).2.2.2.2.2.2.2.2.2.1),(cA w).2.2.2.2.2.2.2.2.2.2.1,(cA w).2.2.2.2.2.2.2.2.2.2.2.1,(cA w).1,(cA w).2.1,(cA w).2.2.1,(cA w).2.2.2.2.2.2.2.2.2.2.2.2) 0=some (kM x (bF w l))/\bJ (((kM x (bF w l)).2.2.2.2.2.2.2.2.2.2.2.2.2.2.2.1,(kM x (bF w l)).2.2.2.2.2.2.2.2.2.2.2.2.2.2.2.2.1),((kM x (bF w l)).2.2.2.2.2.2.2.2.2.2.2.2.2.2.2.2.2.1,(kM x (bF w l)).2.2.2.2.2.2.2.2.2.2.2.2.2.2.2.2.2.2.1),((kM x (bF w l)).2.2.2.2.2.2.2.2.2.2.2.2.2.2.2.2.2.2.2.1,(kM x (bF w l)).2.2.2.2.2.2.2.2.2.2.2.2.2.2.2.2.2.2.2.2.1,(kM x (bF w l)).2.2.2.2.2.2.2.2.2.2.2.2.2.2.2.2.2.2.2.2.2.1),(kM x (bF w l)).2.2.2.2.2.2.2.2.2.2.2.2.2.2.2.2.2.2.2.2.2.2.1,(kM x (bF w l)).2.2.2.2.2.2.2.2.2.2.2.2.2.2.2.2.2.2.2.2.2.2.2.1,(kM x (bF w l)).2.2.2.2.2.2.2.2.2.2.2.2.1,(kM x (bF w l)).2.2.2.2.2.2.2.2.2.2.2.2.2.1,(kM x (bF w l)).2.2.2.2.2.2.2.2.2.2.2.2.2.2.1,(kM x (bF w l)).2.2.2.2.2.2.2.2.2.2.2.2.2.2.2.2.2.2.2.2.2.2.2.2) (kM x (bF w l)).1 (kM x (bF w l)).2.1 ((kM x (bF w l)).2.2.1,(kM x (bF w l)).2.2.2.1,(kM x (bF w l)).2.2.2.2.1,(kM x (bF w l)).2.2.2.2.2.1,(kM x (bF w l)).2.2.2.2.2.2.1,(kM x (bF w l)).2.2.2.2.2.2.2.1,(kM x (bF w l)).2.2.2.2.2.2.2.2.1,(kM x (bF w l)).2.2.2.2.2.2.2.2.2.1,(kM x (bF w l)).2.2.2.2.2.2.2.2.2.2.1,(kM x (bF w l)).2.2.2.2.2.2.2.2.2.2.2.1)=some (cA (outW w)):=by
 have hx:(aE w)[0]? =some x:=by rw[h];rfl
 have hd:(aE w).drop 1=l:=by rw[h];rfl
 obtain⟨k1,k2,k3⟩:=aMi hk h;obtain⟨n1,n2,n3⟩:=bAs k1 (by decide);refine⟨?_,?_⟩
 .have :=bRy (w:=w) hx (bO5 hk (by decide));rw[hd]at this;exact this
 .have e:outW w=cO (bF w l) x.1 x.2.1 x.2.2:=by unfold outW;rw[h]
  rw[e];exact aY2 (w:=bF w l) n1 n2 n3 k2 k3
theorem bVm{F:Nat}{w:den tNw}{n:Int}{B:Nat}(h0:0<=n)(hn:n<=1000000)(hk:eY B F w)(hB:B+n.toNat * (160+F)<=536870912):gA w n=some (cA (delW n.toNat w)):=by
 unfold gA uJ dD eV eX qG aHo aMu aNb aUj bEa bCk bSg bS4 bTs bUw bS5 zz4 zz5 zz6 zz7 zz8 zz9;refine bLj (F:=F) (λk w=>((k:Int),cA w)) cA n.toNat (λk w x l hk' hx hw=> ?_) (λk w hk'=> ?_) n.toNat 0 B w (bXm _) hk hB
 .obtain⟨e1,e2⟩:=bVf hx hw;have hd:decide ((k:Int)<n)=true:=zX (by omega);have hp:decide (((cA w).1.length:Int)>0)=true:=by rw[show (cA w).1=aE w from rfl,hx];simp
  have hwr:wr ((k:Int)+1)=((k+1:Nat):Int):=(wri (by omega) (by omega)).trans (by omega);simp only[hd,hp,zZ,aA,e1,e2,hwr]
 .rcases hk' with rfl | h
  .have hd:decide (((n.toNat:Nat):Int)<n)=false:=zW (by omega);simp only[hd,zY,aA]
  .have hp:decide (((cA w).1.length:Int)>0)=false:=by rw[show (cA w).1=aE w from rfl,h];rfl
   simp only[hp,aA];cases decide ((k:Int)<n)<;>rfl
theorem bIc(f:den tFl):(aF f).1.2.2.2.2.1=f.2.2.2.2.1:=by
 unfold aF
 repeat' split
 all_goals rfl
theorem aYi{f:den tFl}(h:∀m∈f.2.2.2.2.1,tI m):iY (kG f):=by
 unfold kG;split
 .intro x hx;have hx:x∈(f.2.2.2.2.1[f.2.2.2.1.toNat]?).getD []:=hx;cases hm:f.2.2.2.2.1[f.2.2.2.1.toNat]? with
  | none=>rw[hm]at hx;cases hx
  | some m=>rw[hm]at hx;exact h m (bWu hm) x hx
 .intro x hx;cases hx
theorem aX5{f:den tFl}(h:∀m∈f.2.2.2.2.1,tI m):iY (aF f).2.1:=by
 unfold aF
 repeat' split
 all_goals first
  | exact aYi h
  | (intro x hx;cases hx)
def stepT(k:Nat)(w:den tNw):den tNw:=match (aB w)[k]? with
 | some f=>if (aF f).2.2 then cO (bK w ((aB w).set k (aF f).1)) (aF f).1.1 0 (aF f).2.1 else bK w ((aB w).set k (aF f).1)
 | none=>w
def tickL:Nat->Nat->den tNw->den tNw
 | _,0,w=>w
 | k,n+1,w=>tickL (k+1) n (stepT k w)
def tick0(w:den tNw):den tNw:=(nT w,nK w,((nG w).1,sV (nG w).2.1 (wr (aH w+1)),[]),wr (aH w+1),aJ w,aE w,aB w,aL w,dO w)
def cJ(w:den tNw):den tNw:=if aH w>=1000000 then w else tickL 0 (aB w).length (tick0 w)
theorem aRm{B F:Nat}{w:den tNw}{k:Nat}{f:den tFl}(hk:eY B F w)(hf:(aB w)[k]? =some f):eY B F (bK w ((aB w).set k (aF f).1))/\tot tPk (aF f).2.1<=B/\iY (aF f).2.1:=by
 have hm:=bWu hf;have h1:=aQ9 (t:=tFl) (y:=(aF f).1) hf;have h2:=(aRu f).1;have h3:=(aRu f).2;have h4:=aFs (t:=tFl) hm;have h5:=aC2 w ((aB w).set k (aF f).1);have h6:=iL w;have h7:=hk.tot;refine⟨⟨by omega,?_,⟨hk.bytes.fly,λg hg m hmm=> ?_⟩⟩,by omega,aX5 (hk.bytes.msg f hm)⟩
 .show ((aB w).set k _).length<=F;rw[bYb];exact hk.flows
 .rcases List.mem_or_eq_of_mem_set (show g∈(aB w).set k (aF f).1 from hg) with hg | rfl
  .exact hk.bytes.msg g hg m hmm
  .rw[bIc]at hmm;exact hk.bytes.msg f hm m hmm
theorem aOy{B F:Nat}{w:den tNw}(k:Nat)(hk:eY B F w):eY (B+(160+F)) F (stepT k w)/\(aB (stepT k w)).length=(aB w).length:=by
 unfold stepT;split
 .rename_i f hf;obtain⟨h1,h2,h3⟩:=aRm hk hf;have hl:(aB (bK w ((aB w).set k (aF f).1))).length=(aB w).length:=by show ((aB w).set k _).length=_;rw[bYb]
  split
  .exact⟨aHm h1 h3,(aGj h1.bytes h3).2.trans hl⟩
  .exact⟨h1.mono (by omega),hl⟩
 .exact⟨hk.mono (by omega),rfl⟩
theorem aPr{F:Nat}:∀(n k:Nat) {B:Nat} {w:den tNw},eY B F w->eY (B+n * (160+F)) F (tickL k n w)/\(aB (tickL k n w)).length=(aB w).length
 | 0,k,B,w,hk=>⟨hk.mono (by omega),rfl⟩
 | n+1,k,B,w,hk=>by
  obtain⟨h1,h2⟩:=aOy k hk;obtain⟨h3,h4⟩:=aPr n (k+1) h1;unfold tickL;exact⟨h3.mono (by rw[bXk];omega),h4.trans h2⟩
theorem bFg(l:lRs)(now:Int):(sV l now).length<=l.length:=bZb _ _
theorem aIg{B F:Nat}{w:den tNw}(hk:eY B F w):eY B F (tick0 w):=by
 refine⟨?_,hk.flows,⟨hk.bytes.fly,hk.bytes.msg⟩⟩;have h1:=hk.tot;have h2:=iL w;have h3:=bFg (nG w).2.1 (wr (aH w+1));have e:tot tNw (tick0 w)=(tot (.sl tAS) (nT w).1+tot (.sl tLk) (nT w).2)+((tot (.sl tSg) (nK w).1+tot (.sl tSg) (nK w).2)+((0+(tot (.sl tRs) (sV (nG w).2.1 (wr (aH w+1)))+tot (.sl tUs) []))+(0+(tot (.sl ti) (aJ w)+(tot (.sl tFy) (aE w)+(tot (.sl tFl) (aB w)+(tot (.sl tIb) (aL w)+0))))))):=rfl;have r1:∀l:lRs,tot (.sl tRs) l=l.length:=λl=>jH rfl
 have r2:=r1 (sV (nG w).2.1 (wr (aH w+1)));have r3:=r1 (nG w).2.1;rw[aAi]at e;omega
theorem aIf{B F:Nat}{w:den tNw}(hk:eY B F w):eY (B+F * (160+F)) F (cJ w):=by
 unfold cJ;split
 .exact hk.mono (by omega)
 .have :=(aPr (aB w).length 0 (aIg hk)).1;refine this.mono ?_;have h1:(aB w).length * (160+F)<=F * (160+F):=bX1 _ hk.flows;omega
theorem bHc{F:Nat}{S R:Type}(enc:Nat->den tNw->S)(out:den tNw->R)(N:Nat){step:S->Option (S⊕R)}
  (H1:∀(k:Nat) (w:den tNw),k<N->(aB w).length=N->eY 536870912 F w->step (enc k w)=some (.inl (enc (k+1) (stepT k w))))
  (H2:∀(w:den tNw),(aB w).length=N->step (enc N w)=some (.inr (out w))):
  ∀(m k B:Nat) (w:den tNw),k+m=N->(aB w).length=N->eY B F w->B+m * (160+F)<=536870912->aC step (enc k w)=some (out (tickL k m w)):=by
 intro m
 induction m with
 | zero=>
  intro k B w hk hn hw hB;have :k=N:=by omega
  subst this;exact aW (H2 w hn)
 | succ m ih=>
  intro k B w hk hn hw hB;rw[bXk]at hB;obtain⟨h1,h2⟩:=aOy k hw;rw[cU (H1 k w (by omega) hn (hw.mono (by omega)))];exact ih (k+1) _ _ (by omega) (h2.trans hn) h1 (by omega)
theorem bOz{B F:Nat}{w0:den tNw}(hF:F<=1000)(hk:eY B F w0)(hB:B+F * (160+F)<=536870912):mD w0=some (!decide (aH w0>=1000000),cA (cJ w0)):=by
 have hres:(nG w0).2.1.length<=1073741824:=(aWl (bWk hk.tot (by omega))).res;unfold mD cJ ixb aWx uJ pj3 pj9 dD eV eX qG aHo aMu aNb aUj bEa bCk zz4 zz5 zz6 zz7 zz8 zz9
 by_cases hnow:aH w0>=1000000
 .rw[zT hnow,zX (p:=w0.2.2.2.1>=1000000) hnow];rfl
 .rw[zS hnow,zW (p:=w0.2.2.2.1>=1000000) hnow,zY];unfold tU;simp only[bL6 hres,aA];refine Eq.trans (congrArg (λo=>Option.bind o _) (bHc (F:=F) (λk w=>((k:Int),cA w)) cA (aB w0).length (λk w hk' hn hw=> ?_) (λw hn=> ?_) (aB w0).length 0 B (tick0 w0) (bXm _) rfl (aIg hk) (by have :(aB w0).length * (160+F)<=F * (160+F):=bX1 _ hk.flows;omega))) ?_
  .obtain⟨f,hf⟩:∃f,(aB w)[k]? =some f:=⟨_,bWl (show k<(aB w).length by omega)⟩
   obtain⟨k1,k2,k3⟩:=aRm hw hf;obtain⟨n1,n2,n3⟩:=bAs k1 (by decide);have hft:tot tFl f<=34359738368:=by have :=aFs (t:=tFl) (bWu hf);have :=iL w;have :=hw.tot;omega
   have hd:decide ((k:Int)<(w0.2.2.2.2.2.2.1.length:Int))=true:=zX (by have :k<w0.2.2.2.2.2.2.1.length:=(by exact hk');omega);have hd1:decide ((k:Int)<((cA w).2.1.length:Int))=true:=zX (by have :k<(cA w).2.1.length:=(show k<(aB w).length by omega);omega);have hd2:decide (k<(cA w).2.1.length)=true:=zX (show k<(aB w).length by omega);have hf':(cA w).2.1[k]? =some f:=hf;have hwr:wr ((k:Int)+1)=((k+1:Nat):Int):=(wri (by have :=hk.flows;omega) (by have :=hk.flows;omega)).trans (by omega);have e:stepT k w=if (aF f).2.2 then cO (bK w ((aB w).set k (aF f).1)) (aF f).1.1 0 (aF f).2.1 else bK w ((aB w).set k (aF f).1):=by unfold stepT;rw[hf]
   have e1:bJ (((cA w).2.2.2.1,(cA w).2.2.2.2.1),((cA w).2.2.2.2.2.1,(cA w).2.2.2.2.2.2.1),((cA w).2.2.2.2.2.2.2.1,(cA w).2.2.2.2.2.2.2.2.1,(cA w).2.2.2.2.2.2.2.2.2.1),(cA w).2.2.2.2.2.2.2.2.2.2.1,(cA w).2.2.2.2.2.2.2.2.2.2.2.1,(cA w).1,((cA w).2.1.set k ((oS (aF f).1 (aF f).2.1 (aF f).2.2).1,(oS (aF f).1 (aF f).2.1 (aF f).2.2).2.1,(oS (aF f).1 (aF f).2.1 (aF f).2.2).2.2.1,(oS (aF f).1 (aF f).2.1 (aF f).2.2).2.2.2.1,(oS (aF f).1 (aF f).2.1 (aF f).2.2).2.2.2.2.2.2.2.2.2.2.2.2.2.2.2.1,(oS (aF f).1 (aF f).2.1 (aF f).2.2).2.2.2.2.2.2.2.2.2.2.2.2.2.2.2.2.1,(oS (aF f).1 (aF f).2.1 (aF f).2.2).2.2.2.2.1,(oS (aF f).1 (aF f).2.1 (aF f).2.2).2.2.2.2.2.1,(oS (aF f).1 (aF f).2.1 (aF f).2.2).2.2.2.2.2.2.2.2.2.2.2.2.2.2.2.2.2.1)),(cA w).2.2.1,(cA w).2.2.2.2.2.2.2.2.2.2.2.2) (oS (aF f).1 (aF f).2.1 (aF f).2.2).1 0 ((oS (aF f).1 (aF f).2.1 (aF f).2.2).2.2.2.2.2.2.1,(oS (aF f).1 (aF f).2.1 (aF f).2.2).2.2.2.2.2.2.2.1,(oS (aF f).1 (aF f).2.1 (aF f).2.2).2.2.2.2.2.2.2.2.1,(oS (aF f).1 (aF f).2.1 (aF f).2.2).2.2.2.2.2.2.2.2.2.2.2.2.2.2.2.2.2.2.1,(oS (aF f).1 (aF f).2.1 (aF f).2.2).2.2.2.2.2.2.2.2.2.1,(oS (aF f).1 (aF f).2.1 (aF f).2.2).2.2.2.2.2.2.2.2.2.2.1,(oS (aF f).1 (aF f).2.1 (aF f).2.2).2.2.2.2.2.2.2.2.2.2.2.1,(oS (aF f).1 (aF f).2.1 (aF f).2.2).2.2.2.2.2.2.2.2.2.2.2.2.1,(oS (aF f).1 (aF f).2.1 (aF f).2.2).2.2.2.2.2.2.2.2.2.2.2.2.2.1,(oS (aF f).1 (aF f).2.1 (aF f).2.2).2.2.2.2.2.2.2.2.2.2.2.2.2.2.2.2.2.2.2)=some (cA (cO (bK w ((aB w).set k (aF f).1)) (aF f).1.1 0 (aF f).2.1)):=aY2 (w:=bK w ((aB w).set k (aF f).1)) n1 n2 n3 k2 k3;rw[e];simp only[hd,hd1,hd2,eE,bWs,hf',zZ,aA,bE,bPx hft,hwr];cases hb:(aF f).2.2
   .rfl
   .rw[hb]at e1;rw[zT rfl];show Option.bind (cond true _ _) _=_;rw[zZ];show Option.bind (Option.bind (bJ _ _ 0 _) λy12=>_) _=_;rw[e1];rfl
  .have hd:decide ((((aB w0).length:Nat):Int)<(w0.2.2.2.2.2.2.1.length:Int))=false:=zW (by have :w0.2.2.2.2.2.2.1.length=(aB w0).length:=rfl;omega);simp only[hd,zY]
  .rfl
def gZ(w:den tNw):den tNw:=delW 2000 (cJ w)
def aB5(F:Nat):Nat:=F * (160+F)+2000 * (160+F)
theorem aLm{B F:Nat}{w:den tNw}(hk:eY B F w):eY (B+aB5 F) F (gZ w):=by
 have :=aSp 2000 (aIf hk);exact this.mono (by unfold aB5;omega)
theorem bJt{B F:Nat}{w:den tNw}(hF:F<=1000)(hk:eY B F w)(hB:B+aB5 F<=536870912):jB w=some (cA (gZ w)):=by
 unfold aB5 at hB;unfold jB uJ xD dD eV eX qG zz4 zz5 zz6 zz7 zz8 zz9;have e1:=bOz hF hk (by omega);have e2:gA (((cA (cJ w)).2.2.2.1,(cA (cJ w)).2.2.2.2.1),((cA (cJ w)).2.2.2.2.2.1,(cA (cJ w)).2.2.2.2.2.2.1),((cA (cJ w)).2.2.2.2.2.2.2.1,(cA (cJ w)).2.2.2.2.2.2.2.2.1,(cA (cJ w)).2.2.2.2.2.2.2.2.2.1),(cA (cJ w)).2.2.2.2.2.2.2.2.2.2.1,(cA (cJ w)).2.2.2.2.2.2.2.2.2.2.2.1,(cA (cJ w)).1,(cA (cJ w)).2.1,(cA (cJ w)).2.2.1,(cA (cJ w)).2.2.2.2.2.2.2.2.2.2.2.2) 2000=some (cA (gZ w)):=bVm (w:=cJ w) (n:=2000) (by decide) (by decide) (aIf hk) (by show B+F * (160+F)+2000 * (160+F)<=_;omega);simp only[bE,e1,aA,e2]
theorem bDt{w:den tNw}(h:aE1 w=true):(aB w).length<=4:=by
 unfold aE1 at h;simp only[bWj,zR]at h;simp only[h]
theorem bN0{w:den tNw}(hv:aE1 w=true)(h:tot tNw w<=134217728)(hb:qB w):eY 134217728 4 w:=⟨h,bDt hv,hb⟩
def bC:Nat->den tNw->den tNw
 | 0,w=>w
 | n+1,w=>bC n (gZ w)
theorem aJy{F:Nat}:∀(n:Nat) {B:Nat} {w:den tNw},eY B F w->eY (B+n * aB5 F) F (bC n w)
 | 0,B,w,hk=>hk.mono (by omega)
 | n+1,B,w,hk=>by
  have :=aJy n (aLm hk);exact this.mono (by rw[bXk];omega)
theorem aYz{F:Nat}{S R:Type}(enc:Nat->den tNw->S)(out:den tNw->R)(N:Nat){step:S->Option (S⊕R)}
  (H1:∀(k B:Nat) (w:den tNw),k<N->eY B F w->B+aB5 F<=536870912->step (enc k w)=some (.inl (enc (k+1) (gZ w))))
  (H2:∀(w:den tNw),step (enc N w)=some (.inr (out w))):
  ∀(m k B:Nat) (w:den tNw),k+m=N->eY B F w->B+m * aB5 F<=536870912->aC step (enc k w)=some (out (bC m w)):=by
 intro m
 induction m with
 | zero=>
  intro k B w hk hw hB;have :k=N:=by omega
  subst this;exact aW (H2 w)
 | succ m ih=>
  intro k B w hk hw hB;rw[bXk]at hB;rw[cU (H1 k B w (by omega) hw (by omega))];exact ih (k+1) _ _ (by omega) (aLm hw) (by omega)
def tN(w:den tNw)(n:Int):den tNw:=if aE1 w&&inR n 0 1000 then bC n.toNat w else w
theorem bVl:aB5 4=328656:=rfl
theorem aS3{n:Int}(h0:0<=n)(h1:n<=1000):134217728+n.toNat * aB5 4<=536870912:=by
 rw[bVl];have :n.toNat * 328656<=1000 * 328656:=Nat.mul_le_mul (by omega) (bWx _);omega
theorem bLw{w:den tNw}{n:Int}(h:tot tNw w<=134217728)(hb:qB w):tot tNw (tN w n)<=536870912:=by
 unfold tN;split
 .rename_i hc;rw[bWj,aI]at hc;have h1:=(aJy n.toNat (bN0 hc.1 h hb)).tot;have h2:=aS3 hc.2.1 hc.2.2;omega
 .omega
theorem bR1{w:den tNw}{n:Int}(h:tot tNw w<=134217728)(hb:qB w):qV w n=some (aPv (tN w n)):=by
 have ht:=bLw (n:=n) h hb;unfold qV uJ pj3 xD dD eV eX qG zz4 zz5 zz6 zz7 zz8 zz9;simp only[bE,aY1 (bFh (w:=w) (by omega)),bUb (w:=w) (by omega),kN,aA];have e3:kA (((nS (tN w n)).1,(nS (tN w n)).2.1),((nS (tN w n)).2.2.1,(nS (tN w n)).2.2.2.1),((nS (tN w n)).2.2.2.2.1,(nS (tN w n)).2.2.2.2.2.1,(nS (tN w n)).2.2.2.2.2.2.1),(nS (tN w n)).2.2.2.2.2.2.2.1,(nS (tN w n)).2.2.2.2.2.2.2.2.1,(nS (tN w n)).2.2.2.2.2.2.2.2.2.2.1,(nS (tN w n)).2.2.2.2.2.2.2.2.2.2.2.1,(nS (tN w n)).2.2.2.2.2.2.2.2.2.2.2.2,(nS (tN w n)).2.2.2.2.2.2.2.2.2.1)=some (aPv (tN w n)):=aY1 (w:=tN w n) (bFh (by omega));unfold tN at e3 ⊢;cases cv:aE1 w
 .rw[cv]at e3;simp only[zY,aA];simp only[bXb,bWz,zU]at e3 ⊢;exact congrArg (λo=>Option.bind o some) e3
 .cases cn:inR n 0 1000
  .rw[cv,cn]at e3;simp only[zZ,zY,aA];simp only[bYu,bWz,zU]at e3 ⊢;exact congrArg (λo=>Option.bind o some) e3
  .rw[cv,cn]at e3;have hr:=aI.1 cn;simp only[zZ,aA];simp only[bZc,zV]at e3 ⊢;refine Eq.trans (congrArg (λo=>Option.bind o _) (aYz (F:=4) (λk w=>((k:Int),nS w)) nS n.toNat (λk B w hk' hw hB=> ?_) (λw=> ?_) n.toNat 0 134217728 w (bXm _) (bN0 cv h hb) (aS3 hr.1 hr.2))) ?_
   .have hd:decide ((k:Int)<n)=true:=zX (by omega);have hwr:wr ((k:Int)+1)=((k+1:Nat):Int):=(wri (by omega) (by omega)).trans (by omega);have e1:jB (((nS w).1,(nS w).2.1),((nS w).2.2.1,(nS w).2.2.2.1),((nS w).2.2.2.2.1,(nS w).2.2.2.2.2.1,(nS w).2.2.2.2.2.2.1),(nS w).2.2.2.2.2.2.2.1,(nS w).2.2.2.2.2.2.2.2.1,(nS w).2.2.2.2.2.2.2.2.2.2.1,(nS w).2.2.2.2.2.2.2.2.2.2.2.1,(nS w).2.2.2.2.2.2.2.2.2.2.2.2,(nS w).2.2.2.2.2.2.2.2.2.1)=some (cA (gZ w)):=bJt (w:=w) (by decide) hw hB;simp only[hd,zZ,e1,aA,hwr];rfl
   .have hd:decide (((n.toNat:Nat):Int)<n)=false:=zW (by omega);simp only[hd,zY]
   .simp only[aA];exact congrArg (λo=>Option.bind o some) e3
def Ans{α:Type}(o:Option α)(P:α->Prop):Prop:= ∃y,o=some y/\P y
theorem bMm{S R:Type}{step:S->Option (S⊕R)}(I:Nat->S->Prop)(Q:R->Prop)(h:∀n s,I n s->(∃r,step s=some (.inr r)/\Q r)\/ ∃m s',m<n/\step s=some (.inl s')/\I m s')(n:Nat):∀s,I n s->Ans (aC step s) Q:=by
 induction n using Nat.strongRecOn with
 | ind n ih=>
  intro s hs;rcases h n s hs with ⟨r,h1,h2⟩ | ⟨m,s',h1,h2,h3⟩
  .exact⟨r,aW h1,h2⟩
  .obtain⟨r,h4,h5⟩:=ih m h1 s' h3;exact⟨r,(cU h2).trans h4,h5⟩
theorem xZ{S R T:Type}{step:S->Option (S⊕R)}(I:Nat->S->Prop)(Q:R->Prop){k:R->Option T}{G:Option T->Prop}(h:∀n s,I n s->(∃r,step s=some (.inr r)/\Q r)\/ ∃m s',m<n/\step s=some (.inl s')/\I m s')(n:Nat)(s:S)(hs:I n s)(hk:∀r,Q r->G (k r)):G (Option.bind (aC step s) k):=by
 obtain⟨r,h1,h2⟩:=bMm I Q h n s hs;rw[h1];exact hk r h2
theorem iM{S R T:Type}{step:S->Option (S⊕R)}(len:Nat)(pos:S->Int)(J:Nat->S->Prop)(Q:R->Prop){k:R->Option T}{G:Option T->Prop}
  (h:∀(i:Nat) (s:S),i<len->pos s=(i:Int)->J i s->(∃r,step s=some (.inr r)/\Q r)\/ ∃s',step s=some (.inl s')/\pos s'=((i+1:Nat):Int)/\J (i+1) s')
  (he:∀s:S,pos s=(len:Int)->J len s-> ∃r,step s=some (.inr r)/\Q r) (i0:Nat) (s0:S) (hi:i0<=len) (hp:pos s0=(i0:Int)) (hJ:J i0 s0) (hk:∀r,Q r->G (k r)):G (Option.bind (aC step s0) k):=by
 refine xZ (λn s=> ∃i:Nat,pos s=(i:Int)/\i+n=len/\J i s) Q ?_ (len - i0) s0 ⟨i0,hp,by omega,hJ⟩ hk
 rintro n s ⟨i,h1,h2,h3⟩
 cases n with
 | zero=>
  have e:i=len:=by omega
  subst e;exact .inl (he s h1 h3)
 | succ n=>
  rcases h i s (by omega) h1 h3 with h4 | ⟨s',h4,h5,h6⟩
  .exact .inl h4
  .exact .inr ⟨n,s',by omega,h4,i+1,h5,by omega,h6⟩
theorem bD{n:Int}(h0: -1000000000000<=n)(h1:n<=1000000000000):wr n=n:=wri (by omega) (by omega)
theorem fJ{n:Nat}(h:n<=1000000000):wr ((n:Int)+1)=((n+1:Nat):Int):=by rw[bD (by omega) (by omega)];omega
theorem aW7(a:Int):0<=aFe .i64 a 255/\aFe .i64 a 255<=255:=by
 have h:((BitVec.ofInt 64 a &&& BitVec.ofInt 64 255).toNat)<=255:=by
  rw[BitVec.toNat_and];exact bWk Nat.and_le_right (by decide)
 have e:aFe .i64 a 255=wr (((BitVec.ofInt 64 a &&& BitVec.ofInt 64 255).toNat:Nat):Int):=rfl;rw[e,show wr (((BitVec.ofInt 64 a &&& BitVec.ofInt 64 255).toNat:Nat):Int)=_ from wri (by omega) (by omega)];omega
def Cur(code:List Int)(c:List Int×q17):Prop:=c.1=code/\0<=c.2.1/\c.2.1<=(code.length:Int)
theorem aDe{code:List Int}(hl:code.length<=1048576){c:List Int}{p h:Int}(hc:Cur code (c,p,h)):∃v c' p' h',oI (c,p,h)=some (v,c',p',h')/\(0<=v/\v<=255)/\Cur code (c',p',h'):=by
 obtain⟨h1,h2,h3⟩:=hc;simp only at h1 h2 h3;subst h1;unfold oI pj4;simp only[aA]
 by_cases hp:p<(c.length:Int)
 .obtain⟨m,rfl⟩:=bXs h2;have hm:m<c.length:=by omega
  rw[zX hp,zZ,aO,bWl hm];refine⟨_,_,_,_,rfl,aW7 _,rfl,?_,?_⟩
  .show 0<=wr ((m:Int)+1);rw[show wr ((m:Int)+1)=(m:Int)+1 from wri (by omega) (by omega)];omega
  .show wr ((m:Int)+1)<=_;rw[show wr ((m:Int)+1)=(m:Int)+1 from wri (by omega) (by omega)];omega
 .rw[zW hp,zY];exact⟨_,_,_,_,rfl,aW7 _,rfl,h2,h3⟩
theorem dQ{code:List Int}(hl:code.length<=1048576){n:Int}(h0:0<n)(h1:n<=256){c:List Int}{p h:Int}(hc:Cur code (c,p,h)):∃v c' p' h',aN (c,p,h) n=some (v,c',p',h')/\(0<=v/\v<n)/\Cur code (c',p',h'):=by
 obtain⟨v,c',p',h',hb,hv,hc'⟩:=aDe hl hc;refine⟨bXa v n,c',p',h',?_,⟨Int.tmod_nonneg _ hv.1,Int.tmod_lt_of_pos _ h0⟩,hc'⟩;unfold aN pj3;rw[zW (by omega),zY,zX h1,zZ];simp only[hb,aA];rw[show (n==0)=false by rw[beq_eq_false_iff_ne];omega,zY]
theorem aRq{code:List Int}(hl:code.length<=1048576){n:Int}(h1:256<n){c:List Int}{p h:Int}(hc:Cur code (c,p,h)):∃v c' p' h',aN (c,p,h) n=some (v,c',p',h')/\(0<=v/\v<n)/\Cur code (c',p',h'):=by
 obtain⟨v1,c1,p1,h1',e1,r1,k1⟩:=aDe hl hc;obtain⟨v2,c2,p2,h2',e2,r2,k2⟩:=aDe hl k1;obtain⟨v3,c3,p3,h3',e3,r3,k3⟩:=aDe hl k2;have w1:wr (v1 * 65536)=v1 * 65536:=bD (by omega) (by omega);have w2:wr (v2 * 256)=v2 * 256:=bD (by omega) (by omega);have w3:wr (v1 * 65536+v2 * 256)=v1 * 65536+v2 * 256:=bD (by omega) (by omega);have w4:wr (v1 * 65536+v2 * 256+v3)=v1 * 65536+v2 * 256+v3:=bD (by omega) (by omega);refine⟨bXa (v1 * 65536+v2 * 256+v3) n,c3,p3,h3',?_,⟨Int.tmod_nonneg _ (by omega),Int.tmod_lt_of_pos _ (by omega)⟩,k3⟩;unfold aN pj3;rw[zW (by omega),zY,zW (by omega),zY];simp only[e1,e2,e3,aA,w1,w2,w3,w4];rw[show (n==0)=false by rw[beq_eq_false_iff_ne];omega,zY]
theorem bQa{code:List Int}(hl:code.length<=1048576){l:List Int}(h0:0<l.length)(h1:l.length<=256){c:List Int}{p h:Int}(hc:Cur code (c,p,h)):∃v c' p' h',yD (c,p,h) l=some (v,c',p',h')/\v∈l/\Cur code (c',p',h'):=by
 obtain⟨v,c',p',h',hb,hv,hc'⟩:=dQ hl (n:=(l.length:Int)) (by omega) (by omega) hc;obtain⟨m,rfl⟩:=bXs hv.1;have hm:m<l.length:=by omega
 refine⟨l[m],c',p',h',?_,bXt hm,hc'⟩;unfold yD pj3;simp only[hb,aA,aO,bWl hm]
theorem aAn{code:List Int}(hl:code.length<=1048576){n:Int}(h0:0<n)(h1:n<=256){c:List Int}{p h:Int}(hc:Cur code (c,p,h)):∃b c' p' h',iB (c,p,h) n=some (b,c',p',h')/\Cur code (c',p',h'):=by
 obtain⟨v,c',p',h',hb,hv,hc'⟩:=dQ hl h0 h1 hc;refine⟨v==0,c',p',h',?_,hc'⟩;unfold iB pj3;simp only[hb,aA]
theorem bPs{code:List Int}(hl:code.length<=1048576):∃c p h,yO code=some (c,p,h)/\Cur code (c,p,h):=by
 unfold yO;refine xZ (G:=λo=> ∃c p h,o=some (c,p,h)/\Cur code (c,p,h)) (λn s=> ∃k:Nat,s.2=(k:Int)/\k+n=code.length) (λ_=>True) ?_ code.length _ ⟨0,rfl,by omega⟩ ?_
 .rintro n ⟨a,b⟩ ⟨k,hk,hn⟩
  simp only at hk;subst hk
  by_cases h1:(k:Int)<(code.length:Int)
  .by_cases h2:(k:Int)<4000
   .right;have hk:k<code.length:=by omega
    refine⟨n - 1,(aFe .i64 (wr ((wr ((wr (a * (137:Int)))+(wr code[k])))+(11:Int))) (1073741823:Int),((k+1:Nat):Int)),by omega,?_,k+1,rfl,by omega⟩;simp only[zX h1,zX h2,zZ,aA,aO,bWl hk];rw[show wr ((k:Int)+1)=((k+1:Nat):Int) from by rw[show wr ((k:Int)+1)=(k:Int)+1 from wri (by omega) (by omega)];omega]
   .left;refine⟨a,?_,trivial⟩;simp only[zX h1,zW h2,zZ,zY,aA]
  .left;refine⟨a,?_,trivial⟩;simp only[zW h1,zY,aA]
 .intro r _;exact⟨_,_,_,rfl,rfl,bXl 0,by show (0:Int)<=_;omega⟩
theorem aL1{α:Type}(p:Nat->α->Bool):∀(l:List α) (k:Nat),(bL (λk x=>if p k x then none else some ()) k l).isNone=true↔ ∀j x,l[j]? =some x->p (k+j) x=true
 | [],k=>by simp[bL]
 | x::l,k=>by
  have ih:=aL1 p l (k+1);cases hp:p k x with
  | true=>
   simp only[bL,hp,zV];rw[ih];constructor
   .intro h j y hy;cases j with
    | zero=>simp only[bZy,Option.some.injEq]at hy;subst hy;exact hp
    | succ j=>simp only[List.getElem?_cons_succ]at hy;have :=h j y hy;rwa [show k+1+j=k+(j+1) by omega]at this
   .intro h j y hy;have :=h (j+1) y (by simpa using hy);rwa [show k+(j+1)=k+1+j by omega]at this
  | false=>
   simp only[bL,hp];constructor
   .intro h;simp at h
   .intro h;have :=h 0 x (by simp);rw[Nat.add_zero,hp]at this;cases this
def plc(id s d:Int):Nat->lUs->Int
 | _,[]=> -1
 | k,x::l=>if iV id s d x then (k:Int) else plc id s d (k+1) l
theorem aBa(l:lUs)(id s d:Int):place l id s d=plc id s d 0 l:=by
 unfold place;have :∀(l:lUs) (k:Nat),(match bL (λk x=>if iV id s d x then some (k:Int) else none) k l with
  | some i=>i
  | none=> -1)=plc id s d k l:=by
  intro l
  induction l with
  | nil=>intro k;rfl
  | cons x l ih=>
   intro k;cases hp:iV id s d x with
   | true=>simp only[bL,plc,hp,zV]
   | false=>simp only[bL,plc,hp];exact ih (k+1)
 exact this l 0
theorem aWy{id s d:Int}:∀(l:lUs) (k:Nat),(plc id s d k l= -1/\ ∀x∈l,iV id s d x=false)\/ ∃j x,plc id s d k l=((k+j:Nat):Int)/\l[j]? =some x/\iV id s d x=true
 | [],_=> .inl ⟨rfl,λx hx=>by cases hx⟩
 | x::l,k=>by
  unfold plc;cases hp:iV id s d x with
  | true=>exact .inr ⟨0,x,by simp,by simp,hp⟩
  | false=>
   rcases aWy l (k+1) with ⟨h1,h2⟩ | ⟨j,y,h1,h2,h3⟩
   .refine .inl ⟨by simpa using h1,λy hy=> ?_⟩;rcases bWm.1 hy with rfl | hy
    .exact hp
    .exact h2 y hy
   .exact .inr ⟨j+1,y,by rw[zS (by simp),h1];congr 1;omega,by simpa using h2,h3⟩
theorem aG0(l:lUs)(id s d:Int):(place l id s d= -1/\ ∀x∈l,iV id s d x=false)\/ ∃(j:Nat) (x:den tUs),place l id s d=(j:Int)/\l[j]? =some x/\iV id s d x=true:=by
 rw[aBa];rcases aWy (id:=id) (s:=s) (d:=d) l 0 with h | ⟨j,x,h1,h2,h3⟩
 .exact .inl h
 .exact .inr ⟨j,x,by rw[h1,bXm],h2,h3⟩
theorem bAf{id s d:Int}(z:lUs):∀(l:lUs) (k:Nat),plc id s d k (l++z)=if plc id s d k l<0 then plc id s d (k+l.length) z else plc id s d k l
 | [],k=>by simp[plc]
 | x::l,k=>by
  have e1:plc id s d k (x::l)=if iV id s d x then (k:Int) else plc id s d (k+1) l:=rfl
  have e2:plc id s d k (x::l++z)=if iV id s d x then (k:Int) else plc id s d (k+1) (l++z):=rfl
  by_cases hp:iV id s d x=true
  .rw[zT hp]at e1 e2;rw[e1,e2,zS (by omega)]
  .rw[zS hp]at e1 e2;rw[e1,e2,bAf z l (k+1),show k+(x::l).length=k+1+l.length by simp only[bXp];omega]
theorem aU0{id s d:Int}:∀(l m:lUs) (k:Nat),l.map (λx=>(x.1,x.2.1,x.2.2.1))=m.map (λx=>(x.1,x.2.1,x.2.2.1))->plc id s d k l=plc id s d k m
 | [],[],_,_=>rfl
 | [],_::_,_,h=>by simp at h
 | _::_,[],_,h=>by simp at h
 | x::l,y::m,k,h=>by
  simp only[bW2,List.cons.injEq,Prod.mk.injEq]at h;obtain⟨⟨h1,h2,h3⟩,h4⟩:=h;have e:iV id s d x=iV id s d y:=by unfold iV;rw[h1,h2,h3]
  simp only[plc,e,aU0 l m (k+1) h4]
theorem wR{id s d:Int}{x:den tUs}:iV id s d x=true↔x.1=id/\x.2.1=s/\x.2.2.1=d:=by unfold iV;simp
def aQ0(g:den tSc)(now:Int):Prop:= ∀(j:Nat) (x:den tUs),g.2.2[j]? =some x->place g.2.2 x.1 x.2.1 x.2.2.1=(j:Int)/\(1:Int)<=x.2.2.2/\oU g x.1 x.2.1 x.2.2.1 now>=x.2.2.2
theorem bBq{g:den tSc}{now:Int}:aBl g now=true↔(1:Int)<=g.1/\(20:Int)>=g.1/\yM g.2.1 g.1 now=true/\aQ0 g now:=by
 unfold aBl aQ0;rw[bWj,bWj,aL1];unfold inR okU;simp only[bWj,zR,beq_iff_eq,bXm,inR,and_assoc]
theorem aYa{l:lRs}{cap now:Int}:yM l cap now=true↔l.length<=40/\ ∀(j:Nat) (x:den tRs),l[j]? =some x->sZ x=true/\rate l x.2.1 x.2.2.1 now<=cap/\ ∀y∈l.take j,iJ x y=false:=by
 unfold yM;rw[bWj,aL1];unfold okR;simp only[bWj,zR,bXm,bW8,decide_eq_false_iff_not,List.any_eq_false,Bool.not_eq_true,Int.not_lt,gt_iff_lt]
theorem aF9(x y:den tRs):iJ x y=iJ y x:=by
 unfold iJ atR;rw[bXj];simp only[bWj,beq_iff_eq];constructor<;>(rintro⟨a,b,c⟩;exact⟨a.symm,b.symm,c.symm⟩)
theorem bIy{l:lRs}:(∀(j:Nat) (x:den tRs),l[j]? =some x-> ∀y∈l.take j,iJ x y=false)↔l.Pairwise λx y=>iJ x y=false:=by
 rw[bYk];constructor
 .intro h i j hi hj hij;rw[aF9];exact h j l[j] (bWl hj) l[i] (List.mem_take_iff_getElem.2 ⟨i,by omega,rfl⟩)
 .intro h j x hx y hy;obtain⟨i,hi,rfl⟩:=List.mem_take_iff_getElem.1 hy;obtain⟨hj,rfl⟩:=bWn.1 hx;rw[aF9];exact h i j (by omega) hj (by omega)
def rs(s d now:Int):lRs->Int
 | []=>0
 | x::l=>(if atR x s d&&decide (now<=x.2.2.2.2) then x.2.2.2.1 else 0)+rs s d now l
theorem aO6{s d now:Int}:∀{l:lRs},(∀x∈l,(0:Int)<=x.2.2.2.1/\(20:Int)>=x.2.2.2.1)->0<=rs s d now l/\rs s d now l<=20 * l.length
 | [],_=>by simp[rs]
 | x::l,h=>by
  have ih:=aO6 (s:=s) (d:=d) (now:=now) (l:=l) λy hy=>h y (bWo _ hy)
  have hx:=h x (by simp);have e:((x::l).length:Int)=l.length+1:=by simp
  unfold rs;rw[e];split<;>omega
theorem aJq{s d now:Int}:∀(l:lRs) (a:Int),(∀x∈l,(0:Int)<=x.2.2.2.1/\(20:Int)>=x.2.2.2.1)->0<=a->a+20 * l.length<=1000000000000->
  l.foldl (λa x=>if atR x s d&&decide (now<=x.2.2.2.2) then wr (a+x.2.2.2.1) else a) a=a+rs s d now l
 | [],a,_,_,_=>by simp[rs]
 | x::l,a,h,h0,hb=>by
  have hx:=h x (by simp);simp only[bXp,Int.natCast_add,Int.natCast_one]at hb;simp only[bY1,rs];split
  .rw[show wr (a+x.2.2.2.1)=a+x.2.2.2.1 from wri (by omega) (by omega),aJq l _ (λy hy=>h y (bWo _ hy)) (by omega) (by omega)];omega
  .rw[aJq l a (λy hy=>h y (bWo _ hy)) h0 (by omega)];omega
theorem aK9{s d now:Int}{l:lRs}(h:∀x∈l,(0:Int)<=x.2.2.2.1/\(20:Int)>=x.2.2.2.1)(hl:l.length<=1000000):rate l s d now=rs s d now l:=by
 unfold rate;rw[aJq l 0 h (by omega) (by omega)];omega
theorem bGc{s d now:Int}(m:lRs):∀l:lRs,rs s d now (l++m)=rs s d now l+rs s d now m
 | []=>by simp[rs]
 | x::l=>by simp only[List.cons_append,rs,bGc m l];omega
theorem aJ6{s d now:Int}(p:den tRs->Bool):∀{l:lRs},(∀x∈l,(0:Int)<=x.2.2.2.1/\(20:Int)>=x.2.2.2.1)->rs s d now (l.filter p)<=rs s d now l
 | [],_=>by simp[rs]
 | x::l,h=>by
  have ih:=aJ6 (s:=s) (d:=d) (now:=now) p (l:=l) λy hy=>h y (bWo _ hy)
  have hx:=h x (by simp);rw[bYr];split
  .simp only[rs];omega
  .simp only[rs];split<;>omega
theorem aSn{s d now:Int}:∀l:lRs,rs s d now (sV l now)=rs s d now l
 | []=>rfl
 | x::l=>by
  have ih:=aSn (s:=s) (d:=d) (now:=now) l;unfold sV at ih ⊢;rw[bYr];cases hd:decide (now<=x.2.2.2.2) with
  | true=>rw[zT rfl];simp only[rs,ih]
  | false=>rw[zS (by simp)];simp only[rs,hd,bYu,bWz,zU,ih];omega
structure rO (l:lRs) (cap now:Int):Prop where
 len:l.length<=40
 val:∀x∈l,sZ x=true
 rate:∀x∈l,rs x.2.1 x.2.2.1 now l<=cap
 pw:l.Pairwise λx y=>iJ x y=false
theorem aFb{x:den tRs}(h:sZ x=true):(1:Int)<=x.1/\(1:Int)<=x.2.2.2.1/\(20:Int)>=x.2.2.2.1:=by
 unfold sZ inR at h;simp only[bWj,zR]at h;exact⟨h.1.1,h.2.1.1,h.2.1.2⟩
theorem rQ{l:lRs}(h:∀x∈l,sZ x=true):∀x∈l,(0:Int)<=x.2.2.2.1/\(20:Int)>=x.2.2.2.1:=λx hx=>by
 have :=aFb (h x hx);omega
theorem bK8{l:lRs}{cap now:Int}:yM l cap now=true↔rO l cap now:=by
 rw[aYa];constructor
 .rintro⟨h1,h2⟩
  have hv:∀x∈l,sZ x=true:=λx hx=>by
   obtain⟨j,hj⟩:=bZz.1 hx;exact (h2 j x hj).1
  exact⟨h1,hv,λx hx=>by
   obtain⟨j,hj⟩:=bZz.1 hx;rw[<- aK9 (rQ hv) (by omega)];exact (h2 j x hj).2.1,bIy.1 λj x hj=>(h2 j x hj).2.2⟩
 .rintro⟨h1,h2,h3,h4⟩
  refine⟨h1,λj x hj=> ?_⟩;have hx:=bWu hj;exact⟨h2 x hx,by rw[aK9 (rQ h2) (by omega)];exact h3 x hx,bIy.2 h4 j x hj⟩
theorem rO.filter{l:lRs}{cap now:Int}(h:rO l cap now)(p:den tRs->Bool):rO (l.filter p) cap now:=
 ⟨bWk (bZb ..) h.len,λx hx=>h.val x (bWy.1 hx).1,λx hx=>Int.le_trans (aJ6 p (rQ h.val)) (h.rate x (bWy.1 hx).1),h.pw.filter _⟩
def admR(l:lRs)(x:den tRs)(cap now:Int):lRs:=
 if !sZ x||decide (x.2.2.2.2<now)||decide (wr (rate (l.filter λy=> !iJ x y) x.2.1 x.2.2.1 now+x.2.2.2.1)>cap)||decide (((l.filter λy=> !iJ x y).length:Int)>=40) then l else (l.filter λy=> !iJ x y)++[x]
theorem rO.admR{l:lRs}{cap now:Int}(h:rO l cap now)(x:den tRs):rO (admR l x cap now) cap now:=by
 unfold Go.Proofs.YtnkjolpkcmgcaaaGreat.admR;split
 .exact h
 .rename_i hc;simp only[bX2,bW8,zR,not_or,Bool.not_eq_false]at hc;obtain⟨⟨⟨c1,c2⟩,c3⟩,c4⟩:=hc;have hf:=h.filter λy=> !iJ x y
  have hx:=aFb c1;have hr:rO (l.filter λy=> !iJ x y) cap now:=hf;rw[aK9 (rQ hf.val) (by have :=hf.len;omega)]at c3;have hb:=aO6 (s:=x.2.1) (d:=x.2.2.1) (now:=now) (rQ hf.val);have hl:=hf.len;rw[show wr (rs x.2.1 x.2.2.1 now (l.filter λy=> !iJ x y)+x.2.2.2.1)=rs x.2.1 x.2.2.1 now (l.filter λy=> !iJ x y)+x.2.2.2.1 from wri (by omega) (by omega)]at c3;refine⟨by simp only[bW9,bX5];omega,?_,?_,?_⟩
  .intro y hy;rcases bWq.1 hy with hy | hy
   .exact hf.val y hy
   .rw[bWp.1 hy];exact c1
  .intro y hy;rw[bGc];simp only[rs];rcases bWq.1 hy with hy | hy
   .have h1:=hf.rate y hy;cases ha:atR x y.2.1 y.2.2.1 with
    | false=>simp only[bXb,bWz,zU];omega
    | true=>
     have ha':=ha;unfold atR at ha';simp only[bWj,beq_iff_eq]at ha';rw[<- ha'.1,<- ha'.2];split<;>omega
   .rw[bWp.1 hy];split<;>omega
  .rw[List.pairwise_append];refine⟨hf.pw,List.pairwise_singleton _ _,λy hy z hz=> ?_⟩;rw[bWp.1 hz,aF9];have :=(bWy.1 hy).2;simpa using this
theorem aIv{l:lUs}{id s d:Int}(z:lUs):place (l++z) id s d=if place l id s d<0 then plc id s d l.length z else place l id s d:=by
 rw[aBa,aBa,bAf,bXm]
theorem aHf{l m:lUs}{id s d:Int}(h:l.map (λx=>(x.1,x.2.1,x.2.2.1))=m.map (λx=>(x.1,x.2.1,x.2.2.1))):place l id s d=place m id s d:=by
 rw[aBa,aBa,aU0 l m 0 h]
theorem aHp(l:lUs)(id s d:Int):(place l id s d= -1/\(∀x∈l,iV id s d x=false)/\dG l id s d=0/\qK l id s d=l++[(id,s,d,1)])\/
  ∃(j:Nat) (x:den tUs),place l id s d=(j:Int)/\l[j]? =some x/\iV id s d x=true/\dG l id s d=x.2.2.2/\qK l id s d=l.set j (x.1,x.2.1,x.2.2.1,wr (x.2.2.2+1)):=by
 rcases aG0 l id s d with ⟨h1,h2⟩ | ⟨j,x,h1,h2,h3⟩
 .refine .inl ⟨h1,h2,?_,?_⟩
  .unfold dG;rw[h1,zT (by decide)]
  .unfold qK;rw[h1,zT (by decide)]
 .refine .inr ⟨j,x,h1,h2,h3,?_,?_⟩
  .unfold dG;rw[h1,zS (by omega),bWs,h2];rfl
  .unfold qK;rw[h1,zS (by omega),bWs];simp only[h2]
theorem aM8{l:lUs}{j:Nat}{x:den tUs}(h:l[j]? =some x)(c:Int):(l.set j (x.1,x.2.1,x.2.2.1,c)).map (λx=>(x.1,x.2.1,x.2.2.1))=l.map (λx=>(x.1,x.2.1,x.2.2.1)):=by
 rw[List.map_set];apply List.ext_getElem?;intro i
 by_cases hij:j=i
 .subst hij;obtain⟨hlt,rfl⟩:=bWn.1 h;rw[bYj (by simpa using hlt),bXx,bWl hlt];rfl
 .rw[bYq hij]
theorem aQ0.more{g:den tSc}{now id s d:Int}(h:aQ0 g now)(hu:dG g.2.2 id s d<oU g id s d now)(hb:oU g id s d now<=1000000):aQ0 (g.1,g.2.1,qK g.2.2 id s d) now:=by
 have hr:∀i s d,oU (g.1,g.2.1,qK g.2.2 id s d) i s d now=oU g i s d now:=λ_ _ _=>rfl
 intro j x hx;have hx:(qK g.2.2 id s d)[j]? =some x:=hx;show place (qK g.2.2 id s d) x.1 x.2.1 x.2.2.1=(j:Int)/\(1:Int)<=x.2.2.2/\oU g x.1 x.2.1 x.2.2.1 now>=x.2.2.2;rcases aHp g.2.2 id s d with ⟨h1,h2,h3,h4⟩ | ⟨i,y,h1,h2,h3,h4,h5⟩
 .rw[h4]at hx ⊢;rw[aIv]
  by_cases hj:j<g.2.2.length
  .rw[List.getElem?_append_left hj]at hx;obtain⟨a,b,c⟩:=h j x hx;rw[a,zS (by omega)];exact⟨rfl,b,c⟩
  .rw[bY7 (by omega)]at hx;have hj0:j - g.2.2.length=0:=by
    cases hk:j - g.2.2.length with
    | zero=>rfl
    | succ k=>rw[hk]at hx;simp at hx
   rw[hj0]at hx;simp only[bZy,Option.some.injEq]at hx;subst hx;have hj':j=g.2.2.length:=by omega
   simp only;rw[h1,zT (by decide),hj'];refine⟨?_,bXl 1,?_⟩
   .unfold plc;rw[zT (show iV id s d (id,s,d,1)=true from wR.2 ⟨rfl,rfl,rfl⟩)]
   .rw[h3]at hu;omega
 .rw[h5]at hx ⊢;rw[aHf (aM8 h2 _)]
  by_cases hij:i=j
  .subst hij;rw[bYj (bWn.1 h2).1]at hx;simp only[Option.some.injEq]at hx;subst hx;obtain⟨a,b,c⟩:=h i y h2;obtain⟨k1,k2,k3⟩:=wR.1 h3;simp only;rw[k1,k2,k3]at a c ⊢;rw[h4]at hu;have hw:wr (y.2.2.2+1)=y.2.2.2+1:=wri (by omega) (by omega);rw[hw];exact⟨a,by omega,by omega⟩
  .rw[bYq hij]at hx;exact h j x hx
def rr(id s d now:Int):lRs->Int
 | []=>0
 | x::l=>if x.1==id&&(atR x s d&&decide (now<=x.2.2.2.2)) then x.2.2.2.1 else rr id s d now l
theorem bBu(l:lRs)(id s d now:Int):aF0 l id s d now=rr id s d now l:=by
 unfold aF0;have :∀(l:lRs) (k:Nat),(match bL (λ_ (x:den tRs)=>if x.1==id&&(atR x s d&&decide (now<=x.2.2.2.2)) then some x.2.2.2.1 else none) k l with
  | some r=>r
  | none=>0)=rr id s d now l:=by
  intro l
  induction l with
  | nil=>intro k;rfl
  | cons x l ih=>
   intro k;cases hp:(x.1==id&&(atR x s d&&decide (now<=x.2.2.2.2))) with
   | true=>simp only[bL,rr,hp,zV]
   | false=>simp only[bL,rr,hp];exact ih (k+1)
 exact this l 0
theorem bFm{id s d now:Int}:∀{l:lRs},(∀x∈l,(0:Int)<=x.2.2.2.1/\(20:Int)>=x.2.2.2.1)->0<=rr id s d now l/\rr id s d now l<=20
 | [],_=>by simp[rr]
 | x::l,h=>by
  have ih:=bFm (id:=id) (s:=s) (d:=d) (now:=now) (l:=l) λy hy=>h y (bWo _ hy)
  have hx:=h x (by simp);unfold rr;split<;>omega
theorem bD2{s d now:Int}:∀{l:lRs},rs s d now l=0\/ ∃x∈l,x.2.1=s/\x.2.2.1=d
 | []=> .inl rfl
 | x::l=>by
  by_cases ha:atR x s d=true
  .unfold atR at ha;simp only[bWj,beq_iff_eq]at ha;exact .inr ⟨x,by simp,ha⟩
  .rcases bD2 (s:=s) (d:=d) (now:=now) (l:=l) with h | ⟨y,hy,h⟩
   .left;unfold rs;rw[h];simp[ha]
   .exact .inr ⟨y,bWo _ hy,h⟩
theorem rO.rs_le{l:lRs}{cap now:Int}(h:rO l cap now)(hc:0<=cap)(s d:Int):rs s d now l<=cap:=by
 rcases bD2 (s:=s) (d:=d) (now:=now) (l:=l) with h0 | ⟨x,hx,h1,h2⟩
 .omega
 .have :=h.rate x hx;rw[h1,h2]at this;exact this
theorem aZs{l:lRs}{cap now:Int}(h:rO l cap now)(hc:1<=cap/\cap<=20)(s d:Int):free l cap s d now=cap - rs s d now l:=by
 have h1:=h.rs_le (by omega) s d;have h2:=aO6 (s:=s) (d:=d) (now:=now) (rQ h.val);unfold free;rw[aK9 (rQ h.val) (by have :=h.len;omega),show wr (cap - rs s d now l)=cap - rs s d now l from wri (by omega) (by omega)];split<;>omega
structure OkS (g:den tSc) (now:Int):Prop where
 lo:(1:Int)<=g.1
 hi:(20:Int)>=g.1
 res:rO g.2.1 g.1 now
 use:aQ0 g now
theorem bO8{g:den tSc}{now:Int}:aBl g now=true↔OkS g now:=by
 rw[bBq,bK8];exact⟨λ⟨a,b,c,d⟩=>⟨a,b,c,d⟩,λ⟨a,b,c,d⟩=>⟨a,b,c,d⟩⟩
theorem OkS.rate_le{g:den tSc}{now:Int}(h:OkS g now)(id s d:Int):0<=oU g id s d now/\oU g id s d now<=20:=by
 unfold oU;split
 .rw[aZs h.res ⟨h.lo,h.hi⟩];have h1:=h.res.rs_le (by have :=h.lo;omega) s d;have h2:=aO6 (s:=s) (d:=d) (now:=now) (rQ h.res.val);have :=h.hi;omega
 .rw[bBu];exact bFm (rQ h.res.val)
abbrev bUz(p:Int×Bool×lRs×lUs):den tSc:=(p.1,p.2.2.1,p.2.2.2)
theorem OkS.trans{g:den tSc}{now:Int}(h:OkS g now)(id s d:Int):OkS (bUz (pT g id s d now)) now:=by
 unfold pT;split
 .rename_i hu;exact⟨h.lo,h.hi,h.res,h.use.more hu (by have :=h.rate_le id s d;omega)⟩
 .split
  .rename_i hu;exact⟨h.lo,h.hi,h.res,h.use.more hu (by have :=h.rate_le 0 s d;omega)⟩
  .exact h
theorem OkS.pw{g:den tSc}{now:Int}(h:OkS g now):g.2.2.Pairwise λx y=>iV x.1 x.2.1 x.2.2.1 y=false:=by
 rw[bYk];intro i j hi hj hij;cases hs:iV g.2.2[i].1 g.2.2[i].2.1 g.2.2[i].2.2.1 g.2.2[j] with
 | false=>rfl
 | true=>
  obtain⟨k1,k2,k3⟩:=wR.1 hs;have a:=(h.use i _ (bWl hi)).1;have b:=(h.use j _ (bWl hj)).1;rw[k1,k2,k3,a]at b;omega
theorem bI9{l:lUs}{id s d:Int}(h:0<=dG l id s d/\dG l id s d<=1000000):dG (qK l id s d) id s d=dG l id s d+1:=by
 rcases aHp l id s d with ⟨h1,h2,h3,h4⟩ | ⟨j,y,h1,h2,h3,h4,h5⟩
 .rw[h3,h4];unfold dG;have e:place (l++[(id,s,d,1)]) id s d=(l.length:Int):=by
   rw[aIv,h1,zT (by decide)];unfold plc;rw[zT (show iV id s d (id,s,d,1)=true from wR.2 ⟨rfl,rfl,rfl⟩)]
  rw[e,zS (by omega),bWs];simp
 .rw[h4]at h ⊢;rw[h5];unfold dG;rw[aHf (aM8 h2 _),h1,zS (by omega),bWs,bYj (bWn.1 h2).1];simp only[Option.map_some,bXo];exact wri (by omega) (by omega)
theorem bPy{l:lRs}{x:den tRs}{cap now:Int}(h:l.length<=1000000):∃b,yP l x cap now=some (b,admR l x cap now):=by
 have hf:(l.filter λy=> !iJ x y).length<=1000000:=bWk (bZb ..) h;unfold yP admR pj5 zz4;rw[show ((x.1,x.2.1,x.2.2.1,x.2.2.2.1,x.2.2.2.2):den tRs)=x from rfl,bHz (by omega),aA,bM9,aA,bT4 (by omega),aA];rw[aG (b:=40) (by decide) (by simp;omega),aG (b:=40) (by decide) (by omega)];cases c1:sZ x
 .exact⟨false,by simp⟩
 .cases c2:decide (x.2.2.2.2<now)
  .cases c3:decide (wr (rate (l.filter λy=> !iJ x y) x.2.1 x.2.2.1 now+x.2.2.2.1)>cap)
   .cases c4:decide (((l.filter λy=> !iJ x y).length:Int)>=40)
    .exact⟨true,by simp only[bWw,zY,zZ,aA,bZq,bWz,zU]⟩
    .exact⟨false,by simp[aA]⟩
   .exact⟨false,by simp[aA]⟩
  .exact⟨false,by simp[aA]⟩
theorem aDr{l:List Int}{n x:Int}(h:x∈qD l n):x=n\/x∈l:=by
 unfold qD at h;split at h
 .exact .inr h
 .simp only[bWq,bWp]at h;rcases h with (h | h) | h
  .exact .inr (List.mem_of_mem_take h)
  .exact .inl h
  .exact .inr (List.mem_of_mem_drop h)
theorem bHi{r d:Int}{x:den tLk}{a:List Int}(h:d∈mO r x a):bM x r d=true\/d∈a:=by
 unfold mO at h;unfold bM;cases c1:x.1==r<;>cases c2:x.2.2.1==r<;>rw[c1,c2]at h<;>simp only[zZ,zY]at h
 .exact .inr h
 .rcases aDr h with e | h
  .left;simp[e]
  .exact .inr h
 .rcases aDr h with e | h
  .left;simp[e]
  .exact .inr h
 .rcases aDr h with e | h
  .left;simp[e]
  .rcases aDr h with e | h
   .left;simp[e]
   .exact .inr h
theorem bF5{t:den tTo}{r d:Int}(h:d∈gB t r):∃x∈t.2,bM x r d=true:=by
 have :∀(l:lLk) (k:Nat) (a:List Int),d∈bN (λ_ x a=>mO r x a) k l a->(∃x∈l,bM x r d=true)\/d∈a:=by
  intro l
  induction l with
  | nil=>intro k a h;exact .inr h
  | cons x l ih=>
   intro k a h;rcases ih (k+1) (mO r x a) h with ⟨y,hy,e⟩ | h
   .exact .inl ⟨y,bWo _ hy,e⟩
   .rcases bHi h with e | h
    .exact .inl ⟨x,by simp,e⟩
    .exact .inr h
 rcases this t.2 0 [] h with h | h
 .exact h
 .cases h
theorem aXa{t:den tTo}{r d:Int}(h:∃x∈t.2,bM x r d=true):∃(j:Nat) (x:den tLk),lP t r d=(j:Int)/\t.2[j]? =some x/\bM x r d=true:=by
 rcases uU t r d with e | h
 .exfalso;have :∀(l:lLk) (k:Nat),(∃x∈l,bM x r d=true)-> ∃i,bL (λk x=>if bM x r d then some ((k:Nat):Int) else none) k l=some i/\0<=i:=by
   intro l
   induction l with
   | nil=>rintro k ⟨x,hx,_⟩;cases hx
   | cons y l ih=>
    rintro k ⟨x,hx,hxe⟩
    cases c:bM y r d with
    | true=>exact⟨(k:Int),by simp[bL,c],by omega⟩
    | false=>
     rcases bWm.1 hx with rfl | hx
     .rw[c]at hxe;cases hxe
     .obtain⟨i,h1,h2⟩:=ih (k+1) ⟨x,hx,hxe⟩;exact⟨i,by simp only[bL,c];exact h1,h2⟩
  obtain⟨i,h1,h2⟩:=this t.2 0 h;unfold lP at e;rw[h1]at e;have e:i= -1:=e;omega
 .exact h
theorem bJk{t:den tTo}(hv:∀x∈t.2,rZ t x=true){r d:Int}(h:d∈gB t r):cG t (remote t r d).1=true:=by
 obtain⟨j,x,e,hx,he⟩:=aXa (bF5 h);have hl:=hv x (bWu hx);unfold remote;rw[e,zS (by omega),bWs,hx];unfold rZ at hl;simp only[bWj]at hl;unfold aB0;simp only[bXo];cases x.1==r&&x.2.1==d with
 | true=>exact hl.2.1
 | false=>exact hl.1
theorem bFk{t:den tTo}{r k:Int}(h:t.2.length<=1000000):∃l,gX t r k=some l/\l.length<=2 * t.2.length/\ ∀d∈l,d∈gB t r:=by
 have hd:=aEq t r;unfold gX ixb pj2;rw[show ((t.1,t.2):den tTo)=t from rfl,aPw (t:=t) (by omega),aA];refine iM (G:=λo=> ∃l,o=some l/\l.length<=2 * t.2.length/\ ∀d∈l,d∈gB t r) (gB t r).length (λs:Int×List Int=>s.1) (λi s=>s.2.length<=i/\ ∀d∈s.2,d∈gB t r) (λl:List Int=>l.length<=2 * t.2.length/\ ∀d∈l,d∈gB t r) ?_ ?_ 0 ((0:Int),[]) (by omega) rfl ⟨by simp,λd hd=>(bW7 hd).elim⟩ (λl hl=>⟨l,rfl,hl⟩)
 .rintro i ⟨_,l⟩ hi rfl ⟨h1,h2⟩
  right;simp only at h1 h2;simp only[zX (show (i:Int)<((gB t r).length:Int) by omega),zX (show (0:Int)<=(i:Int) by omega),zZ,bWs,bWl hi,aA,aQ6 (t:=t) (show t.2.length<=68719476736 by omega),fJ (show i<=1000000000 by omega)];rw[aG (b:=8) (n:=l.length) (m:=1) (by decide) (by omega),zZ];cases eF t r (gB t r)[i]==k with
  | true=>exact⟨_,rfl,rfl,by simp;omega,λd hd=>by
    rcases bWq.1 hd with hd | hd
    .exact h2 d hd
    .rw[bWp.1 hd];exact bXt hi⟩
  | false=>exact⟨_,rfl,rfl,by show l.length<=i+1;omega,h2⟩
 .rintro⟨_,l⟩ rfl ⟨h1,h2⟩
  exact⟨l,by simp only[zW (Int.lt_irrefl _),zY],by simp only at h1;omega,h2⟩
theorem aJ4(l:List Int)(n:Int):n∈qD l n:=by
 unfold qD;split
 .next h=>exact bWu h
 .simp
theorem aDj{l:List Int}{n x:Int}(h:x∈l):x∈qD l n:=by
 unfold qD;split
 .exact h
 .rw[<- bX0 (pJ l n) l]at h;simp only[bWq,bWp]at h ⊢;rcases h with h | h
  .exact .inl (.inl h)
  .exact .inr h
theorem bMp{l:List Int}{n:Int}(h:n∉l):(qD l n).length=l.length+1:=by
 unfold qD;rw[zS (λe=>h (bWu e))];have :=aP6 l n;simp;omega
theorem bG2{r d:Int}{x:den tLk}{a:List Int}(h:d∈a):d∈mO r x a:=by
 unfold mO;cases x.2.2.1==r<;>cases x.1==r<;>simp only[zZ,zY]
 .exact h
 .exact aDj h
 .exact aDj h
 .exact aDj (aDj h)
theorem bF7{r d:Int}{x:den tLk}{a:List Int}(h:bM x r d=true):d∈mO r x a:=by
 unfold bM at h;unfold mO;simp only[bX2,bWj]at h;rcases h with ⟨h1,h2⟩ | ⟨h1,h2⟩
 .rw[h1,eq_of_beq h2];cases x.2.2.1==r<;>simp only[zZ,zY]
  .exact aJ4 _ _
  .exact aDj (aJ4 _ _)
 .rw[h1,eq_of_beq h2];cases x.1==r<;>simp only[zZ,zY]<;>exact aJ4 _ _
theorem aGg(as:lAS)(ls:lLk)(r:Int):gB (as,ls) r=ls.foldl (λa x=>mO r x a) []:=tZ (λa x=>mO r x a) ls 0 []
theorem bIz{as:lAS}{ls:lLk}{r d:Int}{x:den tLk}(hx:x∈ls)(h:bM x r d=true):d∈gB (as,ls) r:=by
 rw[aGg];have keep:∀(l:lLk) (a:List Int),d∈a->d∈l.foldl (λa x=>mO r x a) a:=by
  intro l
  induction l with
  | nil=>exact λa h=>h
  | cons y l ih=>exact λa h=>ih _ (bG2 h)
 have :∀(l:lLk) (a:List Int),x∈l->d∈l.foldl (λa x=>mO r x a) a:=by
  intro l
  induction l with
  | nil=>exact λa h=>(bW7 h).elim
  | cons y l ih=>
   intro a hm;rcases bWm.1 hm with rfl | hm
   .exact keep l _ (bF7 h)
   .exact ih _ hm
 exact this ls [] hx
structure pA (ls:lLk):Prop where
 num:∀r d:Int,d∈gB ([],ls) r->1<=d/\d<=((gB ([],ls) r).length:Int)
 pw:ls.Pairwise λy x=>bM y x.1 x.2.1=false/\bM y x.2.2.1 x.2.2.2.1=false
theorem bDm:pA []:=⟨λr d h=>(bW7 h).elim,List.Pairwise.nil⟩
theorem pA.no{ls:lLk}(h:pA ls){y:den tLk}(hy:y∈ls)(r:Int):bM y r (((gB ([],ls) r).length:Int)+1)=false:=by
 cases e:bM y r (((gB ([],ls) r).length:Int)+1) with
 | false=>rfl
 | true=>have :=(h.num r _ (bIz hy e)).2;omega
theorem pA.grow{L:List Int}(h:∀d∈L,(1:Int)<=d/\d<=(L.length:Int)):∀d∈qD L ((L.length:Int)+1),(1:Int)<=d/\d<=((qD L ((L.length:Int)+1)).length:Int):=by
 have hn:((L.length:Int)+1)∉L:=λe=>by have :=(h _ e).2;omega
 rw[bMp hn];intro d hd;rcases aDr hd with rfl | hd
 .omega
 .have :=h d hd;omega
theorem pA.snoc{ls:lLk}(h:pA ls){a b:Int}(hab:a≠b)(k:Int):pA (ls++[(a,((gB ([],ls) a).length:Int)+1,b,((gB ([],ls) b).length:Int)+1,k)]):=by
 constructor
 .intro r;rw[aGg,List.foldl_append,<- aGg];show ∀d,d∈mO r _ _->_/\_<=((mO r _ _).length:Int)
  unfold mO
  by_cases ha:a=r
  .subst ha;have hb:(b==a)=false:=by simp;exact λe=>hab e.symm
   simp only[hb,beq_self_eq_true,zZ,zY];exact pA.grow (h.num a)
  .have ha':(a==r)=false:=by simpa using ha
   by_cases hb:b=r
   .subst hb;simp only[ha',beq_self_eq_true,zZ,zY];exact pA.grow (h.num b)
   .have hb':(b==r)=false:=by simpa using hb
    simp only[ha',hb',zY];exact h.num r
 .rw[List.pairwise_append];refine⟨h.pw,List.pairwise_singleton _ _,λy hy x hx=> ?_⟩;rw[bWp.1 hx];exact⟨h.no hy a,h.no hy b⟩
theorem aEn{t:den tTo}{a b k:Int}(h:t.2.length<=1000000)(hab:a≠b)(hf:pA t.2):∃ls,sE t a b k=some (t.1,ls)/\ls.length<=t.2.length+1/\pA ls:=by
 have la:=aEq t a;have lb:=aEq t b;unfold sE pj2;rw[show ((t.1,t.2):den tTo)=t from rfl,aPw (t:=t) (by omega),aPw (t:=t) (by omega),aA,aA,aG (b:=40) (n:=t.2.length) (m:=1) (by decide) (by omega)];have w1:wr (((gB t a).length:Int)+1)=((gB t a).length:Int)+1:=bD (by omega) (by omega);have w2:wr (((gB t b).length:Int)+1)=((gB t b).length:Int)+1:=bD (by omega) (by omega);cases decide (wr (((gB t a).length:Int)+1)<=6) with
 | false=>exact⟨t.2,rfl,by omega,hf⟩
 | true=>
  cases decide (wr (((gB t b).length:Int)+1)<=6) with
  | false=>exact⟨t.2,rfl,by omega,hf⟩
  | true=>
   refine⟨t.2++[(a,wr (((gB t a).length:Int)+1),b,wr (((gB t b).length:Int)+1),k)],rfl,by simp,?_⟩;rw[w1,w2];exact hf.snoc hab k
def AsI(as:lAS):Prop:= ∀(j:Nat) (x:den tAS),as[j]? =some x->((0:Int)<=x.1/\(1:Int)>=x.1)/\ ∃v:Int,0<=v/\v<1000000/\1+8 * v+(j:Int)=x.2.2
theorem bQx:AsI []:=λj x h=>by simp at h
end Go.Proofs.YtnkjolpkcmgcaaaGreat
