/-
  Facts and plain laws: what the functions compute, in plain words. Conditions: as each says.
-/
import Derived.Test.YtnkjolpkcmgcaaaGreatT0FnTop
open List renaming length->cGd,mem_of_getElem?->cF9,nil_append->cGk,getElem?_cons_zero->cI7,getElem?_eq_getElem->cFx,length_take->cG7,length_append->cGh,length_singleton->cHf,mem_append->cF6,getElem?_eq_some_iff->cFz,map_cons->cGg,sum_cons->cHg,getLast?_concat->cHs,dropLast_concat->cIa,length_nil->cHn,length_cons->cGv,append_assoc->cGj,singleton_append->cI3,append_nil->cGq,all_eq_true->cGm,mem_zipIdx_iff_getElem?->cJo,length_filter_le->cIn,getElem?_drop->cHo,length_drop->cH7,getElem?_map->cHz
open Nat renaming le_trans->cFv,le_refl->cF8,zero_le->cGe,add_sub_cancel->cI9,not_lt_zero->cI6
open Bool renaming eq_false_or_eq_true->cIx,true_and->cGf,eq_iff_iff->cGl,not_true->cF0,not_false->cGa,false_and->cGi,false_eq_true->cF1,and_eq_true->cFw,or_self->cHj,not_eq_true'->cGw,and_false->cHt,true_or->cH0,or_true->cH4,and_self->cHw
open Sum renaming elim_inl->cG6,elim_inr->cIz,inl->cFu,inr->cFt
open Int renaming toNat_natCast->cF2,tmod->cG0,toNat_of_nonneg->cIf,eq_ofNat_of_zero_le->cGr
open Option renaming getD_some->cGy
set_option linter.unusedVariables false
set_option linter.unusedSimpArgs false
set_option maxRecDepth 100000
namespace Go.Proofs.YtnkjolpkcmgcaaaGreat
open Go.Ab Go.V
def inR(n a b:Int):Bool:=decide (a<=n)&&decide (n<=b)
theorem lR(n a b:Int):bK n a b=some (inR n a b):=by
 unfold bK inR
 by_cases h:a<=n<;>simp[h]
theorem jU(n a b:Int):aM n a b=some (inR n a b):=by
 unfold aM inR
 by_cases h:a<=n<;>simp[h]
theorem aV{n a b:Int}:inR n a b=true↔a<=n/\n<=b:=by simp[inR]
theorem bEg{n a b:Int}:inR n a b=false↔ ¬ (a<=n/\n<=b):=by rw[<- aV];simp
theorem bKx(a b:Int):aEg a b=some (if b>a then b else a):=rfl
theorem bI2(a b:Int):aCy a b=some (if b>a then b else a):=by
 unfold aCy
 by_cases h:b>a<;>simp[h]
theorem cEd(a b:Int):aG8 a b=some (if b<a then b else a):=rfl
theorem aY7(a b:Int):aA3 a b=some (if b<a then b else a):=by
 unfold aA3
 by_cases h:b<a<;>simp[h]
theorem aHn{b:List Int}(h:b.length<=68719476736):eQ b=some b:=by
 unfold eQ;rw[aE (by decide) (by simpa using h)];simp
theorem bGn{l:cR}(h:l.length<=68719476736):mX l=some l:=by
 unfold mX;rw[aE (by decide) (by simpa using h)];simp
theorem aVl{l:lRv}(h:l.length<=68719476736):fA l=some l:=by
 unfold fA;rw[aE (by decide) (by simpa using h)];simp
theorem aRh{p:den tPp}(h:SmB 68719476736 tPp p):qI p=some p:=by
 unfold qI;rw[aE (by decide) (by simpa using h.2.2.2.1)];simp
theorem aPy{p:den tPt}(h:SmB 68719476736 tPt p):fC p=some p:=by
 unfold fC;rw[(vZ (λk (a:lPp)=>((k:Int),a)) ((0:Int),[]) [] p (λ_ x a=>a++[x]) cGd (λ_=>1) 68719476736 id rfl (cFv h.1 (by decide)) (by rw[fB];simpa using h.1) (λk x a hi hx hd hw hk hb=>by
  have e:=h.2 x (cF9 hx);simp only[hd,hi,hw,zZ,aA,bGn e.2.2.2.1,aP,aE (b:=48) (by decide) hb];simp) (λa=>by simp)).1,iC (λx=>x)]
 simp
theorem aHe{p:den tPt}(h:SmB 68719476736 tPt p):jN p=some p:=by
 unfold jN pj4;rw[(vZ (λk (a:lPp)=>((k:Int),a)) ((0:Int),[]) [] p (λ_ x a=>a++[x]) cGd (λ_=>1) 68719476736 id rfl (cFv h.1 (by decide)) (by rw[fB];simpa using h.1) (λk x a hi hx hd hw hk hb=>by
  have e:=h.2 x (cF9 hx);simp only[hd,hi,hw,zZ,aA,aP,aRh e,aE (b:=48) (by decide) hb];simp) (λa=>by simp)).1,iC (λx=>x)]
 simp
theorem bRo{l:lPt}(h:SmB 68719476736 (.sl tPt) l):uW l=some l:=by
 unfold uW;rw[(vZ (λk (a:lPt)=>((k:Int),a)) ((0:Int),[]) [] l (λ_ x a=>a++[x]) cGd (λ_=>1) 68719476736 id rfl (cFv h.1 (by decide)) (by rw[fB];simpa using h.1) (λk x a hi hx hd hw hk hb=>by
  have e:=h.2 x (cF9 hx);simp only[hd,hi,hw,zZ,aA,aPy e,aE (b:=24) (by decide) hb];simp) (λa=>by simp)).1,iC (λx=>x)]
 simp
theorem bSt{l:lPt}(h:SmB 68719476736 (.sl tPt) l):zI l=some l:=by
 unfold zI;rw[(vZ (λk (a:lPt)=>((k:Int),a)) ((0:Int),[]) [] l (λ_ x a=>a++[x]) cGd (λ_=>1) 68719476736 id rfl (cFv h.1 (by decide)) (by rw[fB];simpa using h.1) (λk x a hi hx hd hw hk hb=>by
  have e:=h.2 x (cF9 hx);simp only[hd,hi,hw,zZ,aA,aHe e,aE (b:=24) (by decide) hb];simp) (λa=>by simp)).1,iC (λx=>x)]
 simp
theorem bF1{l:lMs}(h:SmB 68719476736 (.sl tMs) l):kJ l=some l:=by
 unfold kJ;rw[(vZ (λk (a:lMs)=>((k:Int),a)) ((0:Int),[]) [] l (λ_ x a=>a++[x]) cGd (λ_=>1) 68719476736 id rfl (cFv h.1 (by decide)) (by rw[fB];simpa using h.1) (λk x a hi hx hd hw hk hb=>by
  have e:=h.2 x (cF9 hx);simp only[hd,hi,hw,zZ,aA,aHn e.1,aE (b:=24) (by decide) hb];simp) (λa=>by simp)).1,iC (λx=>x)]
 simp
theorem bEh{l:lMs}(h:SmB 68719476736 (.sl tMs) l):sA l=some l:=by
 unfold sA;rw[(vZ (λk (a:lMs)=>((k:Int),a)) ((0:Int),[]) [] l (λ_ x a=>a++[x]) cGd (λ_=>1) 68719476736 id rfl (cFv h.1 (by decide)) (by rw[fB];simpa using h.1) (λk x a hi hx hd hw hk hb=>by
  have e:=h.2 x (cF9 hx);simp only[hd,hi,hw,zZ,aA,aE (b:=1) (n:=([]:List Int).length) (by decide) (by simpa using e.1),aE (b:=24) (by decide) hb];simp) (λa=>by simp)).1,iC (λx=>x)]
 simp
def pW(f:den tFl):q6:=(f.1,f.2.1,f.2.2.1,f.2.2.2.1,f.2.2.2.2.2.2.1,f.2.2.2.2.2.2.2.1,f.2.2.2.2.1,f.2.2.2.2.2.1,f.2.2.2.2.2.2.2.2)
theorem aKi{f:den tFl}(h:SmB 68719476736 tFl f):fE f=some (pW f):=by
 unfold fE pW zz4 zz5 zz6 zz7 zz8;simp only[bF1 h.2.2.2.2.1,bRo h.2.2.2.2.2.1,aVl h.2.2.2.2.2.2.2.2.1,aA]
theorem aEw{f:den tFl}(h:SmB 68719476736 tFl f):fK f=some (pW f):=by
 unfold fK pW zz4 zz5 zz6 zz7 zz8;simp only[bEh h.2.2.2.2.1,bSt h.2.2.2.2.2.1,aA,aE (b:=24) (n:=([]:lRv).length) (by decide) (by simpa using h.2.2.2.2.2.2.2.2.1),zZ,cGk]
theorem bF6{x:den tIb}(h:SmB 68719476736 tIb x):pG x=some x:=by
 unfold pG;simp only[bF1 h.2.2.2,aA,aP]
theorem bE6{x:den tIb}(h:SmB 68719476736 tIb x):uY x=some x:=by
 unfold uY;simp only[bEh h.2.2.2,aA,aP]
def dO(x:den tRv):Bool:=inR x.1 0 7&&(inR x.2.1 1 6&&inR x.2.2 0 1000000)
theorem aE5(x:den tRv):cG x=some (dO x):=by
 unfold cG dO;simp only[lR,aA];cases inR x.1 0 7<;>cases inR x.2.1 1 6<;>cases inR x.2.2 0 1000000<;>rfl
theorem aFh(x:den tRv):cH x=some (dO x):=by
 unfold cH dO;simp only[jU,aA];cases inR x.1 0 7<;>cases inR x.2.1 1 6<;>cases inR x.2.2 0 1000000<;>rfl
theorem aEd{α S:Type}(p:Nat->α->Bool):∀(l:List α) (k:Nat) (ρ:S),bW (λk x=>if p k x then none else some ρ) k l=if (l.zipIdx k).all (λx=>p x.2 x.1) then none else some ρ
 | [],_,_=>rfl
 | x::xs,k,ρ=>by
  simp only[bW,List.zipIdx_cons,List.all_cons];rcases cIx (p k x) with h | h
  .simp only[h,zV,cGf];exact aEd p xs (k+1) ρ
  .simp[h]
theorem bFa{α:Type}(p:α->Bool):∀(l:List α) (k:Nat),(l.zipIdx k).all (λx=>p x.1)=l.all p
 | [],_=>rfl
 | x::xs,k=>by simp[List.zipIdx_cons,bFa p xs]
theorem nD{α S:Type}(p:α->Bool)(l:List α)(ρ:S):bW (λ_ x=>if p x then none else some ρ) 0 l=if l.all p then none else some ρ:=by
 rw[aEd (λ_ x=>p x),bFa p]
def iR(f:den tFl):Bool:=
 inR f.1 0 7&&(inR f.2.1 0 7&&(!(f.1==f.2.1)&&(inR f.2.2.1 0 100000&&(decide (f.2.2.2.2.1.length<=20)&&(inR f.2.2.2.1 0 (f.2.2.2.2.1.length:Int)&&(decide (f.2.2.2.2.2.1.length<=24)&&
  (f.2.2.2.2.1.all (λm=>decide (m.length<=40))&&(f.2.2.2.2.2.2.2.2.all dO&&((f.2.2.2.2.2.2.1==0||inR f.2.2.2.2.2.2.1 0 ((f.2.2.2.2.2.1.length:Int) - 1))&&(inR f.2.2.2.2.2.2.2.1 0 4&&decide (f.2.2.2.2.2.2.2.2.length<=16)))))))))))
theorem bCx{f:den tFl}(h:SmB 68719476736 tFl f):oA f=some (iR f):=by
 have h1:=h.2.2.2.2.1.1;have h2:=h.2.2.2.2.2.1.1;have h3:=h.2.2.2.2.2.2.2.2.1;unfold oA iR pj3 zz4 zz5 zz6 zz7 zz8;rw[aY (l:=f.2.2.2.2.1) (λ_ m=>if decide (m.length<=40) then none else some false) (by omega) (λk m hi hd hw hx hk=>by
  simp only[hd,hi,hw,zZ,aA]
  by_cases hm:m.length<=40
  .simp[hm,show ¬ ((m.length:Int)>40) by omega]
  .simp[hm,show (m.length:Int)>40 by omega]) (by simp)]
 rw[aY (l:=f.2.2.2.2.2.2.2.2) (λ_ x=>if dO x then none else some false) (by omega) (λk x hi hd hw hx hk=>by
  simp only[hd,hi,hw,zZ,aA,aP,aE5];cases dO x<;>rfl) (by simp)]
 rw[nD (λm:List Int=>decide (m.length<=40)),nD dO];have e1:decide ((f.2.2.2.2.1.length:Int)>20)= !decide (f.2.2.2.2.1.length<=20):=by rw[cGl];simp;omega
 have e2:decide ((f.2.2.2.2.2.1.length:Int)>24)= !decide (f.2.2.2.2.2.1.length<=24):=by rw[cGl];simp;omega
 have e3:decide ((f.2.2.2.2.2.2.2.2.length:Int)<=16)=decide (f.2.2.2.2.2.2.2.2.length<=16):=by rw[cGl];simp;omega
 have e5:wr ((f.2.2.2.2.2.1.length:Int) - 1)=(f.2.2.2.2.2.1.length:Int) - 1:=wri (by omega) (by omega);rw[e5];simp only[lR,aA,e1,e2,e3];cases inR f.1 0 7<;>simp only[cF0,cGa,zZ,zY,aA,cGi,cGf];cases inR f.2.1 0 7<;>simp only[cF0,cGa,zZ,zY,aA,cGi,cGf];cases f.1==f.2.1<;>simp only[cF0,cGa,zZ,zY,aA,cGi,cGf];cases inR f.2.2.1 0 100000<;>simp only[cF0,cGa,zZ,zY,aA,cGi,cGf];cases decide (f.2.2.2.2.1.length<=20)<;>simp only[cF0,cGa,zZ,zY,aA,cGi,cGf];cases inR f.2.2.2.1 0 (f.2.2.2.2.1.length:Int)<;>simp only[cF0,cGa,zZ,zY,aA,cGi,cGf];cases decide (f.2.2.2.2.2.1.length<=24)<;>simp only[cF0,cGa,zZ,zY,aA,cGi,cGf];cases f.2.2.2.2.1.all (λm=>decide (m.length<=40))<;>simp only[cF1,zV,zU,aA,cG6,cIz,cGi,cGf];cases f.2.2.2.2.2.2.2.2.all dO<;>simp only[cF1,zV,zU,aA,cG6,cIz,cGi,cGf];cases f.2.2.2.2.2.2.1==0<;>cases inR f.2.2.2.2.2.2.1 0 ((f.2.2.2.2.2.1.length:Int) - 1)<;>cases inR f.2.2.2.2.2.2.2.1 0 4<;>rfl
theorem bA9{f:den tFl}(h:SmB 68719476736 tFl f):nW f=some (iR f):=by
 have h1:=h.2.2.2.2.1.1;have h2:=h.2.2.2.2.2.1.1;have h3:=h.2.2.2.2.2.2.2.2.1;unfold nW iR pj3 zz4 zz5 zz6 zz7 zz8;rw[aY (l:=f.2.2.2.2.1) (λ_ m=>if decide (m.length<=40) then none else some false) (by omega) (λk m hi hd hw hx hk=>by
  simp only[hd,hi,hw,zZ,aA]
  by_cases hm:m.length<=40
  .simp[hm,show ¬ ((m.length:Int)>40) by omega]
  .simp[hm,show (m.length:Int)>40 by omega]) (by simp)]
 rw[aY (l:=f.2.2.2.2.2.2.2.2) (λ_ x=>if dO x then none else some false) (by omega) (λk x hi hd hw hx hk=>by
  simp only[hd,hi,hw,zZ,aA,aP,aFh];cases dO x<;>rfl) (by simp)]
 rw[nD (λm:List Int=>decide (m.length<=40)),nD dO];have e1:decide ((f.2.2.2.2.1.length:Int)>20)= !decide (f.2.2.2.2.1.length<=20):=by rw[cGl];simp;omega
 have e2:decide ((f.2.2.2.2.2.1.length:Int)>24)= !decide (f.2.2.2.2.2.1.length<=24):=by rw[cGl];simp;omega
 have e3:decide ((f.2.2.2.2.2.2.2.2.length:Int)>16)= !decide (f.2.2.2.2.2.2.2.2.length<=16):=by rw[cGl];simp;omega
 have e4:inR f.2.2.2.2.2.2.1 0 (if ((f.2.2.2.2.2.1.length:Int) - 1)>0 then ((f.2.2.2.2.2.1.length:Int) - 1) else 0)=(f.2.2.2.2.2.2.1==0||inR f.2.2.2.2.2.2.1 0 ((f.2.2.2.2.2.1.length:Int) - 1)):=by
  have key:∀(c n:Int),0<=n->inR c 0 (if n - 1>0 then n - 1 else 0)=(c==0||inR c 0 (n - 1)):=λc n hn=>by
   unfold inR
   by_cases h1:n - 1>0
   .rw[zT h1]
    by_cases h2:c=0
    .subst h2;simp;omega
    .simp[h2]
   .rw[zS h1]
    by_cases h2:c=0
    .subst h2;simp
    .rw[cGl];simp[h2];omega
  exact key _ _ (by omega)
 have e5:wr ((f.2.2.2.2.2.1.length:Int) - 1)=(f.2.2.2.2.2.1.length:Int) - 1:=wri (by omega) (by omega);rw[e5];simp only[jU,bI2,aA,e1,e2,e3,e4];cases inR f.1 0 7<;>simp only[cF0,cGa,zZ,zY,aA,cGi,cGf];cases inR f.2.1 0 7<;>simp only[cF0,cGa,zZ,zY,aA,cGi,cGf];cases f.1==f.2.1<;>simp only[cF0,cGa,zZ,zY,aA,cGi,cGf];cases inR f.2.2.1 0 100000<;>simp only[cF0,cGa,zZ,zY,aA,cGi,cGf];cases decide (f.2.2.2.2.1.length<=20)<;>simp only[cF0,cGa,zZ,zY,aA,cGi,cGf];cases inR f.2.2.2.1 0 (f.2.2.2.2.1.length:Int)<;>simp only[cF0,cGa,zZ,zY,aA,cGi,cGf];cases decide (f.2.2.2.2.2.1.length<=24)<;>simp only[cF0,cGa,zZ,zY,aA,cGi,cGf];cases f.2.2.2.2.2.2.1==0||inR f.2.2.2.2.2.2.1 0 ((f.2.2.2.2.2.1.length:Int) - 1)<;>cases inR f.2.2.2.2.2.2.2.1 0 4<;>cases decide (f.2.2.2.2.2.2.2.2.length<=16)<;>cases f.2.2.2.2.1.all (λm=>decide (m.length<=40))<;>cases f.2.2.2.2.2.2.2.2.all dO<;>rfl
def aLz(a b:List Int):Bool:=(aAf a).toList==(aAf b).toList
theorem bY8(a b:List Int):vR a b=some (aLz a b):=rfl
def aBf:lMs->lMs->Bool
 | [],_=>true
 | _::_,[]=>true
 | a::as,b::bs=>aLz a b&&aBf as bs
def aYv{α S:Type}(p:α->α->Bool)(l:List α)(ρ:S)(k:Nat)(x:α):Option S:=Option.elim l[k]? none λy=>if p x y then none else some ρ
theorem bT8{α S:Type}(p:α->α->Bool)(q:List α->List α->Bool)(h0:∀b,q [] b=true)(h1:∀x a y b,q (x::a) (y::b)=(p x y&&q a b))(ρ:S):∀(a b:List α),a.length<=b.length-> ∀(k:Nat) (l:List α),(∀j,b[j]? =l[k+j]?)->bW (aYv p l ρ) k a=if q a b then none else some ρ
 | [],b,_,k,l,_=>by rw[h0];rfl
 | x::a,[],h,_,_,_=>by simp at h
 | x::a,y::b,h,k,l,hl=>by
  have e0:=hl 0;simp only[Nat.add_zero,cI7]at e0;simp only[bW,aYv,<- e0,h1,Option.elim_some];rcases cIx (p x y) with hp | hp
  .simp only[hp,zV,cGf];exact bT8 p q h0 h1 ρ a b (by simpa using h) (k+1) l λj=>by
    have :=hl (j+1);rw[List.getElem?_cons_succ]at this;rw[this];congr 1;omega
  .simp[hp]
theorem bSk{a b:lMs}(ha:a.length<=68719476736)(hb:b.length<=68719476736):nH a b=some (decide (a.length=b.length)&&aBf a b):=by
 unfold nH
 by_cases hl:a.length=b.length
 .have h0:((a.length:Int) != (b.length:Int))=false:=by simp[hl]
  rw[h0,zY,aY (l:=a) (aYv aLz b false) (by omega) (λk x hi hd hw hx hk=>by
    have hy:b[k]? =some b[k]:=cFx (by omega);simp only[hd,hi,hw,zZ,aA,aN,hy,bY8,aYv,Option.elim_some];cases aLz x b[k]<;>rfl) (by simp)]
  rw[bT8 aLz aBf (λb=>by cases b<;>rfl) (λ_ _ _ _=>rfl) false a b (by omega) 0 b (λj=>by rw[Nat.zero_add])];cases aBf a b<;>simp[hl]
 .have h0:((a.length:Int) != (b.length:Int))=true:=by simp;omega
  rw[h0,zZ];simp[hl]
def aHw(f:den tFl)(x:den tIb):Bool:=
 x.1==f.2.1&&(x.2.1==f.1&&(decide (x.2.2.2.length<=f.2.2.2.2.1.length)&&(aBf x.2.2.2 f.2.2.2.2.1&&decide ((x.2.2.2.length:Int)>=f.2.2.2.1))))
theorem aJ5:∀(a b:lMs),aBf a (b.take a.length)=aBf a b
 | [],b=>by cases b<;>rfl
 | x::a,[]=>rfl
 | x::a,y::b=>by simp[aBf,aJ5 a b]
theorem aWu{f:den tFl}{x:den tIb}(hf:f.2.2.2.2.1.length<=68719476736)(hx:x.2.2.2.length<=68719476736):fZ f x=some (aHw f x):=by
 unfold fZ aHw zz4;cases x.1==f.2.1
 .rfl
 cases x.2.1==f.1
 .rfl
 by_cases hl:x.2.2.2.length<=f.2.2.2.2.1.length
 .have h1:decide ((x.2.2.2.length:Int)<=(f.2.2.2.2.1.length:Int))=true:=by simpa using hl
  have h2:cJ (0:Int) (x.2.2.2.length:Int) (f.2.2.2.2.1.length:Int)=true:=by simp[cJ];omega
  rw[h1,h2,iQ,bSk hx (by rw[cG7];omega),aJ5];have h3:decide (x.2.2.2.length=(List.take x.2.2.2.length f.2.2.2.2.1).length)=true:=by simp[cG7];omega
  rw[h3];simp only[zZ,aA,cGf,zX hl];cases aBf x.2.2.2 f.2.2.2.2.1<;>rfl
 .have h1:decide ((x.2.2.2.length:Int)<=(f.2.2.2.2.1.length:Int))=false:=by simp;omega
  rw[h1];simp[hl]
def vY(x:den tIb)(p:den tPk):Bool:=p.1==1&&(p.2.1==x.2.1&&p.2.2.1==x.1)
theorem bFx(x:den tIb)(p:den tPk):uI x p=some (vY x p):=by
 unfold uI vY;cases p.1==1<;>cases p.2.1==x.2.1<;>rfl
theorem bF0(x:den tIb)(p:den tPk):yB x p=some (vY x p):=by
 unfold yB vY;cases p.1==1<;>cases p.2.1==x.2.1<;>rfl
def aSh(x:den tIb)(p:den tPk):Bool:=vY x p&&(p.2.2.2.2.2.2.2.2.1==x.2.2.1&&decide (x.2.2.1<20))
def cO(x:den tIb)(p:den tPk):den tIb:=if aSh x p then (x.1,x.2.1,wr (x.2.2.1+1),x.2.2.2++[p.2.2.2.2.2.2.2.2.2]) else x
theorem bY0{x:den tIb}{p:den tPk}(hx:SmB 4294967296 tIb x)(hp:SmB 4294967296 tPk p):pR x p=some (cO x p):=by
 have hx':SmB 68719476736 tIb x:=hx.mono (by decide);have hp':=(hp.mono (C:=68719476736) (by decide)).2.2.2.2.2.2.2.2.2.1;unfold pR cO aSh aL pj4 zz8 zz9;have ha:=hx.2.2.2.1;simp only[aP,bF6 hx',bFx,aHn hp',aA,aE (b:=24) (n:=x.2.2.2.length) (m:=1) (by decide) (by omega),zZ];cases vY x p<;>cases p.2.2.2.2.2.2.2.2.1==x.2.2.1<;>cases decide (x.2.2.1<20)<;>rfl
theorem bXx{x:den tIb}{p:den tPk}(hx:SmB 4294967296 tIb x)(hp:SmB 4294967296 tPk p):pK x p=some (cO x p):=by
 have hx':SmB 68719476736 tIb x:=hx.mono (by decide);have hp':=(hp.mono (C:=68719476736) (by decide)).2.2.2.2.2.2.2.2.2.1;unfold pK cO aSh aL pj4 zz8 zz9;have ha:=hx.2.2.2.1;simp only[aP,bE6 hx',bF0,aA,aE (b:=1) (n:=([]:List Int).length) (by decide) (by simpa using hp'),aE (b:=24) (n:=x.2.2.2.length) (m:=1) (by decide) (by omega),zZ,cGk];cases vY x p<;>cases p.2.2.2.2.2.2.2.2.1==x.2.2.1<;>cases decide (x.2.2.1<20)<;>rfl
theorem bNk(x:den tIb)(p:den tPk):tot (.sl tMs) (cO x p).2.2.2<=tot (.sl tMs) x.2.2.2+1+tot (.sl tb) p.2.2.2.2.2.2.2.2.2:=by
 unfold cO;split
 .rw[vB,aHp];show _+(1+tot (.sl tb) _)<=_;omega
 .omega
def aEf(f:den tFl)(p:den tPk):Bool:=p.1==2&&(p.2.1==f.2.1&&(p.2.2.1==f.1&&(p.2.2.2.2.2.2.2.2.1==f.2.2.2.1&&inR f.2.2.2.1 0 ((f.2.2.2.2.1.length:Int) - 1))))
def kG(f:den tFl)(p:den tPk):den tFl:=if aEf f p then (f.1,f.2.1,f.2.2.1,wr (f.2.2.2.1+1),f.2.2.2.2.1,f.2.2.2.2.2.1,f.2.2.2.2.2.2.1,0,f.2.2.2.2.2.2.2.2) else f
theorem bYv{f:den tFl}{p:den tPk}(hf:SmB 68719476736 tFl f):uM f p=some (pW (kG f p)):=by
 unfold uM kG aEf pj3 pj9 zz4 zz5 zz6 zz8;have e5:wr ((f.2.2.2.2.1.length:Int) - 1)=(f.2.2.2.2.1.length:Int) - 1:=wri (by have :=hf.2.2.2.2.1.1;omega) (by have :=hf.2.2.2.2.1.1;omega);simp only[aP,aKi hf,aA,lR,e5];cases p.1==2<;>cases p.2.1==f.2.1<;>cases p.2.2.1==f.1<;>cases p.2.2.2.2.2.2.2.2.1==f.2.2.2.1<;>cases inR f.2.2.2.1 0 ((f.2.2.2.2.1.length:Int) - 1)<;>rfl
theorem bEp{f:den tFl}{p:den tPk}(hf:SmB 68719476736 tFl f):rZ f p=some (pW (kG f p)):=by
 unfold rZ kG aEf pj3 pj9 zz4 zz5 zz6 zz8;have e5:wr ((f.2.2.2.2.1.length:Int) - 1)=(f.2.2.2.2.1.length:Int) - 1:=wri (by have :=hf.2.2.2.2.1.1;omega) (by have :=hf.2.2.2.2.1.1;omega);simp only[aP,aEw hf,aA,jU,e5];cases p.1==2<;>cases p.2.1==f.2.1<;>cases p.2.2.1==f.1<;>cases p.2.2.2.2.2.2.2.2.1==f.2.2.2.1<;>cases inR f.2.2.2.1 0 ((f.2.2.2.2.1.length:Int) - 1)<;>rfl
theorem bDo(f:den tFl)(p:den tPk):(kG f p).2.2.2.2.1=f.2.2.2.2.1/\(kG f p).2.2.2.2.2.1=f.2.2.2.2.2.1/\(kG f p).2.2.2.2.2.2.2.2=f.2.2.2.2.2.2.2.2:=by
 unfold kG;split<;>exact⟨rfl,rfl,rfl⟩
def enq(f:den tFl)(b:List Int):den tFl:=(f.1,f.2.1,f.2.2.1,f.2.2.2.1,f.2.2.2.2.1++[b],f.2.2.2.2.2.1,f.2.2.2.2.2.2.1,f.2.2.2.2.2.2.2.1,f.2.2.2.2.2.2.2.2)
def aRt(f:den tFl)(b:List Int):Int×Int×Int×Int×Int×Int×Bool×lMs×lPt×lRv:=
 if iR (enq f b) then (f.1,f.2.1,f.2.2.1,f.2.2.2.1,f.2.2.2.2.2.2.1,f.2.2.2.2.2.2.2.1,true,f.2.2.2.2.1++[b],f.2.2.2.2.2.1,f.2.2.2.2.2.2.2.2)
 else (f.1,f.2.1,f.2.2.1,f.2.2.2.1,f.2.2.2.2.2.2.1,f.2.2.2.2.2.2.2.1,false,f.2.2.2.2.1,f.2.2.2.2.2.1,f.2.2.2.2.2.2.2.2)
theorem bMg{f:den tFl}{b:List Int}(hf:SmB 4294967296 tFl f)(hb:SmB 4294967296 (.sl tb) b):SmB 68719476736 tFl (enq f b):=by
 have hf':=hf.mono (C:=68719476736) (by decide);refine⟨hf'.1,hf'.2.1,hf'.2.2.1,hf'.2.2.2.1,⟨?_,λe he=> ?_⟩,hf'.2.2.2.2.2.1,hf'.2.2.2.2.2.2.1,hf'.2.2.2.2.2.2.2.1,hf'.2.2.2.2.2.2.2.2⟩
 .show (f.2.2.2.2.1++[b]).length<=_;have :=hf.2.2.2.2.1.1;rw[cGh,cHf];omega
 .rcases cF6.1 he with he | he
  .exact hf'.2.2.2.2.1.2 e he
  .rw[List.mem_singleton.1 he];exact hb.mono (by decide)
theorem cDn{f:den tFl}{b:List Int}(hf:SmB 4294967296 tFl f)(hb:SmB 4294967296 (.sl tb) b):zN f b=some (aRt f b):=by
 unfold zN aRt pj2 pj3 pj9 zz4 zz5 zz6 zz7 zz8;have hf':=hf.mono (C:=68719476736) (by decide);have h1:=hf.2.2.2.2.1.1;have h2:oA (f.1,f.2.1,f.2.2.1,f.2.2.2.1,f.2.2.2.2.1++[b],f.2.2.2.2.2.1,f.2.2.2.2.2.2.1,f.2.2.2.2.2.2.2.1,f.2.2.2.2.2.2.2.2)=some (iR (enq f b)):=bCx (f:=enq f b) (bMg hf hb);simp only[aP,aKi hf',aHn (b:=b) (cFv hb.1 (by decide)),aA,pW,aE (b:=24) (n:=f.2.2.2.2.1.length) (m:=1) (by decide) (by omega),zZ,h2];cases iR (enq f b)<;>rfl
theorem bWi{f:den tFl}{b:List Int}(hf:SmB 4294967296 tFl f)(hb:SmB 4294967296 (.sl tb) b):sK f b=some (aRt f b):=by
 unfold sK aRt pj2 pj3 pj9 zz4 zz5 zz6 zz7 zz8;have hf':=hf.mono (C:=68719476736) (by decide);have h1:=hf.2.2.2.2.1.1;have h2:nW (f.1,f.2.1,f.2.2.1,f.2.2.2.1,f.2.2.2.2.1++[b],f.2.2.2.2.2.1,f.2.2.2.2.2.2.1,f.2.2.2.2.2.2.2.1,f.2.2.2.2.2.2.2.2)=some (iR (enq f b)):=bA9 (f:=enq f b) (bMg hf hb);simp only[aP,aEw hf',aA,pW,aE (b:=1) (n:=([]:List Int).length) (m:=b.length) (by decide) (by have :=hb.1;simp;omega),aE (b:=24) (n:=f.2.2.2.2.1.length) (m:=1) (by decide) (by omega),zZ,cGk,h2];cases iR (enq f b)<;>rfl
def iH(k:Int):Bool:=k==1||k==3
theorem aP2(k:Int):eA k=some (iH k):=by
 unfold eA iH;cases k==1<;>rfl
theorem aHu(k:Int):eB k=some (iH k):=by
 unfold eB iH;cases k==1<;>rfl
def pIn(p:den tPp)(h:den bV):Int:=if iH p.1 then h.2.2.1 else h.2.1
def pEg(p:den tPp)(h:den bV):Int:=if iH p.1 then h.2.1 else h.2.2.1
theorem nZ{n:Nat}(h:n<=68719476736):wr ((n:Int) - 1)=(n:Int) - 1:=wri (by omega) (by omega)
theorem aPe{k n:Nat}(h:k<n):inR (k:Int) 0 ((n:Int) - 1)=true:=by rw[aV];omega
theorem bH5{p:den tPp}{k:Nat}{h:den bV}(hk:p.2.2.2[k]? =some h)(hl:p.2.2.2.length<=68719476736):gI p (k:Int)=some (pIn p h):=by
 have hlt:k<p.2.2.2.length:=(cFz.1 hk).1;unfold gI pIn;simp only[lR,nZ hl,aPe hlt,aA,cF0,zY,aP2,aN,hk];cases iH p.1<;>rfl
theorem bK5{p:den tPp}{k:Nat}{h:den bV}(hk:p.2.2.2[k]? =some h)(hl:p.2.2.2.length<=68719476736):fX p (k:Int)=some (pIn p h):=by
 have hlt:k<p.2.2.2.length:=(cFz.1 hk).1;unfold fX pIn;simp only[jU,nZ hl,aPe hlt,aA,cF0,zY,aHu,aN,hk];cases iH p.1<;>rfl
theorem bKk{p:den tPp}{k:Nat}{h:den bV}(hk:p.2.2.2[k]? =some h)(hl:p.2.2.2.length<=68719476736):gQ p (k:Int)=some (pEg p h):=by
 have hlt:k<p.2.2.2.length:=(cFz.1 hk).1;unfold gQ pEg;simp only[lR,nZ hl,aPe hlt,aA,cF0,zY,aP2,aN,hk];cases iH p.1<;>rfl
theorem aZa{p:den tPp}{k:Nat}{h:den bV}(hk:p.2.2.2[k]? =some h)(hl:p.2.2.2.length<=68719476736):dZ p (k:Int)=some (pEg p h):=by
 have hlt:k<p.2.2.2.length:=(cFz.1 hk).1;unfold dZ pEg;simp only[jU,nZ hl,aPe hlt,aA,cF0,zY,aHu,aN,hk];cases iH p.1<;>rfl
def tS(nf:Bool)(p:den tPp)(i:Nat)(h:den bV)(out:cE):cE:=
 match out.getLast? with
 | some z=>if nf&&(decide (i=0)&&z.1==h.1) then out.dropLast++[(h.1,z.2.1,pEg p h)] else out++[(h.1,pIn p h,pEg p h)]
 | none=>out++[(h.1,pIn p h,pEg p h)]
theorem aRe(nf:Bool)(p:den tPp)(i:Nat)(h:den bV)(out:cE):(tS nf p i h out).length<=out.length+1:=by
 unfold tS;split
 .split
  .simp only[cGh,List.length_dropLast,cHf];omega
  .simp
 .simp
def jW(nf:Bool)(p:den tPp)(a:cE):cE:=bO (λi h b=>tS nf p i h b) 0 p.2.2.2 a
def aBd(p:den tPt):cE:=bO (λk x a=>jW (decide (0<k)) x a) 0 p []
def aGk(l:cE):cE:=
 match l with
 | []=>[]
 | x::xs=>let m:=(x.1,0,x.2.2)::xs
  match m.getLast? with
  | some y=>m.dropLast++[(y.1,y.2.1,0)]
  | none=>[]
def fD(p:den tPt):cE:=aGk (aBd p)
theorem bQp(l:cE):(aGk l).length=l.length:=by
 unfold aGk;split
 .rfl
 .rename_i x xs;simp only;rw[List.getLast?_eq_some_getLast (by simp)];simp
theorem aK9(p:den tPt):(p.map λx=>x.2.2.2.length).sum<=tot tPt p:=by
 show _<=tot (.sl tPp) p;rw[<- aVp]
 induction p with
 | nil=>exact cF8 _
 | cons x p ih=>
  simp only[cGg,cHg];have h1:x.2.2.2.length<=tot tPp x:=by
   show _<=tot ti x.1+(tot ti x.2.1+(tot ti x.2.2.1+tot (.sl bV) x.2.2.2));rw[kS rfl];omega
  omega
theorem bCd{n:Nat}(h:n<=68719476736)(h0:0<n):wr ((n:Int) - 1)=((n - 1:Nat):Int):=by
 rw[nZ h];omega
theorem aHf{α:Type}{m:List α}{z:α}(h:(m++[z]).length<=68719476736):wr (((m++[z]).length:Int) - 1)=(m.length:Int):=by
 rw[bCd h (by simp)];simp
theorem aNv(nf:Bool)(p:den tPp)(a:cE):(jW nf p a).length<=a.length+p.2.2.2.length:=by
 have :=aDp (m:=cGd) (cost:=λ_=>1) (λi h b=>aRe nf p i h b) p.2.2.2 0 a;rw[fB]at this;exact this
theorem aL7(p:den tPt):(aBd p).length<=tot tPt p:=by
 have :=aDp (m:=cGd) (cost:=λx:den tPp=>x.2.2.2.length) (λk x a=>aNv (decide (0<k)) x a) p 0 [];have h2:=aK9 p;have h3:(aBd p).length<=0+(p.map λx=>x.2.2.2.length).sum:=this;omega
theorem aDj(p:den tPt):(fD p).length<=tot tPt p:=by
 unfold fD;rw[bQp];exact aL7 p
theorem bFo(k:Nat):decide ((k:Int)>0)=decide (0<k):=by rw[cGl];simp
theorem bCz(i:Nat):((i:Int)==0)=decide (i=0):=by rw[cGl];simp
theorem bBv(nf:Bool)(p:den tPp)(i:Nat)(h:den bV):tS nf p i h []=[(h.1,pIn p h,pEg p h)]:=rfl
theorem aXb(nf:Bool)(p:den tPp)(i:Nat)(h:den bV)(m:cE)(z:den mY):tS nf p i h (m++[z])=if nf&&(decide (i=0)&&z.1==h.1) then m++[(h.1,z.2.1,pEg p h)] else (m++[z])++[(h.1,pIn p h,pEg p h)]:=by
 unfold tS;rw[cHs,cIa]
theorem aWp{m:cE}{x z:den mY}{xs:cE}(h:(x.1,(0:Int),x.2.2)::xs=m++[z]):aGk (x::xs)=m++[(z.1,z.2.1,0)]:=by
 unfold aGk;simp only;rw[h,cHs,cIa]
theorem aU8{p:den tPt}(h:tot tPt p<=34359738368):mK p=some (fD p):=by
 have hs:=aK9 p;have sm:SmB 34359738368 tPt p:=bM h;have hl:=aL7 p;unfold mK ixb pj4;rw[lJ (λk (a:cE)=>((k:Int),a)) ((0:Int),[]) [] p (λk x a=>jW (decide (0<k)) x a) cGd (λx=>x.2.2.2.length) 34359738368 id rfl (cFv sm.1 (by decide)) (by simp only[cHn];omega) (λk x a=>aNv _ x a) (λk x a hi hx hd hw hk hb=>by
  have hxl:x.2.2.2.length<=34359738368:=(sm.2 x (cF9 hx)).2.2.2.1;simp only[hd,hi,hw,zZ,aA];rw[lJ (λi (b:cE)=>((i:Int),b)) ((0:Int),a) a x.2.2.2 (λi h b=>tS (decide (0<k)) x i h b) cGd (λ_=>1) 34359738368 id rfl (cFv hxl (by decide)) (by rw[fB];exact hb) (λi h b=>aRe _ x i h b) (λi g b hi2 hg hd2 hw2 hk2 hb2=>by
   have hl2:x.2.2.2.length<=68719476736:=by omega
   simp only[hd2,hi2,hw2,zZ,aA,aP,bH5 hg hl2,bKk hg hl2,bFo,bCz,aE (b:=24) (n:=b.length) (m:=1) (by decide) (by omega)];rcases gH b with rfl | ⟨m,z,rfl⟩
   .rw[bBv];cases decide (0<k)<;>cases decide (i=0)<;>rfl
   .rw[aXb,aHf (by omega)];simp only[cU,aR0,aHo,aMj,zZ,cF2,aA,aRa];cases decide (0<k)<;>cases decide (i=0)<;>cases hz:z.1==g.1<;>simp[hz];simpa using hz) (λb=>by simp)]
  rfl) (λa=>by simp)]
 simp only[aA,id];rw[show bO (λk x a=>jW (decide (0<k)) x a) 0 p []=aBd p from rfl];show _=some (aGk (aBd p));generalize aBd p=l at hl;cases l with
 | nil=>rfl
 | cons x xs=>
  have e1:decide ((((x::xs).length:Nat):Int)>0)=true:=by simp
  have e2:decide ((0:Int)<(((x::xs).length:Nat):Int))=true:=by simp
  have e3:(0:Int).toNat=0:=rfl;have e4:decide ((0:Int)<=0)=true:=rfl;simp only[e1,e2,e3,e4,zZ,cI7,aA,List.set_cons_zero];rcases gH ((x.1,(0:Int),x.2.2)::xs) with h0 | ⟨m,z,hm⟩
  .cases h0
  .have hlen:((x.1,(0:Int),x.2.2)::xs).length=(x::xs).length:=rfl;rw[aWp hm];rw[hm]at hlen ⊢;rw[aHf (by omega)];simp only[cU,aHo,aMj,zZ,cF2,aA,aRa]
theorem aHt{p:den tPt}(h:tot tPt p<=34359738368):fJ p=some (fD p):=by
 have hs:=aK9 p;have sm:SmB 34359738368 tPt p:=bM h;have hl:=aL7 p;unfold fJ ixb pj4;rw[lJ (λk (a:cE)=>((k:Int),a)) ((0:Int),[]) [] p (λk x a=>jW (decide (0<k)) x a) cGd (λx=>x.2.2.2.length) 34359738368 id rfl (cFv sm.1 (by decide)) (by simp only[cHn];omega) (λk x a=>aNv _ x a) (λk x a hi hx hd hw hk hb=>by
  have hxl:x.2.2.2.length<=34359738368:=(sm.2 x (cF9 hx)).2.2.2.1;simp only[hd,hi,hw,zZ,aA];rw[lJ (λi (b:cE)=>((i:Int),b)) ((0:Int),a) a x.2.2.2 (λi h b=>tS (decide (0<k)) x i h b) cGd (λ_=>1) 34359738368 id rfl (cFv hxl (by decide)) (by rw[fB];exact hb) (λi h b=>aRe _ x i h b) (λi g b hi2 hg hd2 hw2 hk2 hb2=>by
   have hl2:x.2.2.2.length<=68719476736:=by omega
   simp only[hd2,hi2,hw2,zZ,aA,aP,bK5 hg hl2,aZa hg hl2,bC,bT,bH,bI,bL,bFo,bCz];rcases gH b with rfl | ⟨m,z,rfl⟩
   .rw[bBv];cases decide (0<k)<;>cases decide (i=0)<;>rfl
   .rw[aXb,aHf (by omega)];have e1:decide (((m++[z]).length:Int)>0)=true:=by simp
    have e2:cJ (0:Int) (m.length:Int) ((m++[z]).length:Int)=true:=by simp[cJ];omega
    have e3:(m++[z]).take m.length=m:=by simp
    have e4:=aE (b:=24) (n:=m.length) (m:=1) (by decide) (by simp at hb2;omega);have e5:=aE (b:=24) (n:=m.length+1) (m:=1) (by decide) (by simp at hb2;omega);simp only[cU,e1,e2,e3,aHo,aMj,zZ,cF2,aA];cases decide (0<k)<;>cases decide (i=0)<;>cases hz:z.1==g.1<;>simp[hz,e4,e5]) (λb=>by simp[hi])]
  rfl) (λa=>by simp)]
 simp only[aA,id];rw[show bO (λk x a=>jW (decide (0<k)) x a) 0 p []=aBd p from rfl];show _=some (aGk (aBd p));generalize aBd p=l at hl;cases l with
 | nil=>rfl
 | cons x xs=>
  have e1:decide ((((x::xs).length:Nat):Int)>0)=true:=by simp
  have e2:decide ((0:Int)<(((x::xs).length:Nat):Int))=true:=by simp
  have e3:(0:Int).toNat=0:=rfl;have e4:decide ((0:Int)<=0)=true:=rfl;have e5:decide (0<(x::xs).length)=true:=by simp
  simp only[e1,e2,e3,e4,e5,zZ,cI7,aA,List.set_cons_zero];rcases gH ((x.1,(0:Int),x.2.2)::xs) with h0 | ⟨m,z,hm⟩
  .cases h0
  .have hlen:((x.1,(0:Int),x.2.2)::xs).length=(x::xs).length:=rfl;rw[aWp hm];rw[hm]at hlen ⊢;rw[aHf (by omega)];have e6:decide (m.length<(m++[z]).length)=true:=by simp
   simp only[cU,aHo,aMj,e6,zZ,cF2,aA,aRa]
def ends(p:den tPt):q31:=
 match (fD p).head?,(fD p).getLast? with
 | some x,some y=>(x.1,y.1)
 | _,_=>(-1,-1)
theorem cCr{p:den tPt}(h:tot tPt p<=34359738368):uH p=some (ends p):=by
 unfold uH ends ixb;have hl:=aDj p;rw[aU8 h,aA];generalize fD p=l at hl;rcases gH l with rfl | ⟨m,z,rfl⟩
 .rfl
 .rw[aHf (by omega)];have e1:(((m++[z]).length:Int)==0)=false:=by simp<;>omega
  have e2:decide ((0:Int)<((m++[z]).length:Int))=true:=by simp<;>omega
  have e3:decide ((0:Int)<=0)=true:=rfl;rw[e1,e2,e3,cU,aHo,cHs];cases m with
  | nil=>rfl
  | cons x m=>simp
theorem bZ9{p:den tPt}(h:tot tPt p<=34359738368):uL p=some (ends p):=by
 unfold uL ends ixb;have hl:=aDj p;rw[aHt h,aA];generalize fD p=l at hl;rcases gH l with rfl | ⟨m,z,rfl⟩
 .rfl
 .rw[aHf (by omega)];have e1:(((m++[z]).length:Int)==0)=false:=by simp<;>omega
  have e2:decide ((0:Int)<((m++[z]).length:Int))=true:=by simp<;>omega
  have e3:decide ((0:Int)<=0)=true:=rfl;rw[e1,e2,e3,cU,aHo,cHs];cases m with
  | nil=>rfl
  | cons x m=>simp
def pkR(p:den tPk):q4:=(p.1,p.2.1,p.2.2.1,p.2.2.2.2.1,p.2.2.2.2.2.1,p.2.2.2.2.2.2.1,p.2.2.2.2.2.2.2.1,p.2.2.2.2.2.2.2.2.1,p.2.2.2.1,p.2.2.2.2.2.2.2.2.2)
def cEg(p:den tPt):Int:=match p with
 | []=>0
 | x::_=>x.2.2.1
def gF(kind:Int)(p:den tPt)(res seq:Int)(pay:List Int):den tPk:=(kind,(ends p).1,(ends p).2,p,0,0,cEg p,res,seq,pay)
theorem aP5{kind res seq:Int}{p:den tPt}{pay:List Int}(h:tot tPt p<=34359738368)(hp:pay.length<=68719476736):jA kind p res seq pay=some (pkR (gF kind p res seq pay)):=by
 unfold jA zz4 zz5 zz6 zz7;rw[aPy ((bM h).mono (by decide)),aHn hp,cCr h];simp only[aA];cases p with
 | nil=>rfl
 | cons x p=>
  have e1:decide (((x::p).length:Int)>0)=true:=by simp
  rw[e1];rfl
theorem aPx{kind res seq:Int}{p:den tPt}{pay:List Int}(h:tot tPt p<=34359738368)(hp:pay.length<=68719476736):cY kind p res seq pay=some (pkR (gF kind p res seq pay)):=by
 unfold cY zz4 zz5 zz6 zz7;rw[aHe ((bM h).mono (by decide)),bZ9 h,aE (b:=1) (n:=([]:List Int).length) (by decide) (by simpa using hp)];simp only[aA,zZ,cGk];cases p with
 | nil=>rfl
 | cons x p=>
  have e1:decide (((x::p).length:Int)>0)=true:=by simp
  rw[e1];rfl
def aLs(k:Int):Int:=if k=1 then 4 else if k=4 then 1 else if k=2 then 3 else if k=3 then 2 else k
theorem cBq(k:Int):qG k=some (aLs k):=by
 unfold qG aLs
 by_cases h1:k=1
 .subst h1;rfl
 by_cases h2:k=4
 .subst h2;rfl
 by_cases h3:k=2
 .subst h3;rfl
 by_cases h4:k=3
 .subst h4;rfl
 have b1:(k==1)=false:=by simpa using h1
 have b2:(k==4)=false:=by simpa using h2
 have b3:(k==2)=false:=by simpa using h3
 have b4:(k==3)=false:=by simpa using h4
 rw[b1,b2,b3,b4,zS h1,zS h2,zS h3,zS h4];rfl
theorem cBo(k:Int):oH k=some (aLs k):=by
 unfold oH aLs
 by_cases h1:k=1
 .subst h1;rfl
 by_cases h2:k=4
 .subst h2;rfl
 by_cases h3:k=2
 .subst h3;rfl
 by_cases h4:k=3
 .subst h4;rfl
 have b1:(k==1)=false:=by simpa using h1
 have b2:(k==4)=false:=by simpa using h2
 have b3:(k==2)=false:=by simpa using h3
 have b4:(k==3)=false:=by simpa using h4
 rw[b1,b2,b3,b4,zS h1,zS h2,zS h3,zS h4];rfl
def lO(n:Int):Bool:=inR n 0 2147483646
theorem aHx(n:Int):dY n=some (lO n):=by unfold dY lO;rw[lR];rfl
theorem aEs(n:Int):nA n=some (lO n):=by unfold nA lO;rw[jU];rfl
def aLw(b s:Int):Int:=if lO b&&lO s then cG0 (wr (b+s)) 2147483647 else 0
def aMn(b s:Int):Int:=if lO b&&lO s then cG0 (wr ((wr (b - s))+2147483647)) 2147483647 else 0
theorem bMv(b s:Int):tR b s=some (aLw b s):=by
 unfold tR aLw;simp only[aHx,aA];cases lO b<;>cases lO s<;>rfl
theorem aSp(b s:Int):tU b s=some (aLw b s):=by
 unfold tU aLw;simp only[aEs,aA];cases lO b<;>cases lO s<;>rfl
theorem bMn(b s:Int):xY b s=some (aMn b s):=by
 unfold xY aMn;simp only[aHx,aA];cases lO b<;>cases lO s<;>rfl
theorem bNg(b s:Int):xZ b s=some (aMn b s):=by
 unfold xZ aMn;simp only[aEs,aA];cases lO b<;>cases lO s<;>rfl
def aC5(k:Int)(b:Int)(h:den bV):Int:=if iH k then aMn b h.2.2.2.2 else aLw b h.2.2.2.2
def aD8(p:den tPp)(n:Nat):Int:=(p.2.2.2.take n).foldl (aC5 p.1) p.2.2.1
theorem bX1{p:den tPp}{n:Nat}(hn:n<=p.2.2.2.length)(hl:p.2.2.2.length<=68719476736):oB p (n:Int)=some (aD8 p n):=by
 unfold oB aD8 zz4;have e1:inR (n:Int) 0 (p.2.2.2.length:Int)=true:=by rw[aV];omega
 have e2:cJ (0:Int) (n:Int) (p.2.2.2.length:Int)=true:=by simp[cJ];omega
 rw[lR,e1,aA,e2,iQ];have hlen:(p.2.2.2.take n).length<=4611686018427387904:=by rw[cG7];omega
 rw[lJ (λk (b:Int)=>(b,(k:Int))) (p.2.2.1,(0:Int)) p.2.2.1 (p.2.2.2.take n) (λ_ h b=>aC5 p.1 b h) (λ_=>0) (λ_=>0) 0 id rfl hlen (by rw[sum_nil];exact cF8 _) (λ_ _ _=>cF8 _) (λk x b hi hx hd hw hk hb=>by
  simp only[hd,hi,hw,zZ,aA,aP2,bMn,bMv,aC5];cases iH p.1<;>rfl) (λb=>by simp),uE (λb h=>aC5 p.1 b h)]
 rfl
theorem aVn{p:den tPp}{n:Nat}(hn:n<=p.2.2.2.length)(hl:p.2.2.2.length<=68719476736):jB p (n:Int)=some (aD8 p n):=by
 unfold jB aD8 zz4;have e1:inR (n:Int) 0 (p.2.2.2.length:Int)=true:=by rw[aV];omega
 have e3:(p.2.2.2.take n).length=n:=by rw[cG7];omega
 rw[jU,e1,aA];rw[lJ (λk (b:Int)=>(b,(k:Int))) (p.2.2.1,(0:Int)) p.2.2.1 (p.2.2.2.take n) (λ_ h b=>aC5 p.1 b h) (λ_=>0) (λ_=>0) 0 id rfl (by rw[e3];omega) (by rw[sum_nil];exact cF8 _) (λ_ _ _=>cF8 _) (λk x b hi hx hd hw hk hb=>by
  have hx':p.2.2.2[k]? =some x:=by rw[List.getElem?_take]at hx;split at hx;exact hx;cases hx
  rw[e3]at hd;simp only[hd,hw,zZ,aA,aN,hx',aHu,bNg,aSp,aC5];cases iH p.1<;>rfl) (λb=>by rw[e3];simp),uE (λb h=>aC5 p.1 b h)]
 rfl
def pJ(p:den tPp):den tPp:=(aLs p.1,p.2.1,aD8 p p.2.2.2.length,p.2.2.2.reverse)
theorem bZt{l:cR}(hl:l.length<=68719476736):kL l=some l.reverse:=by
 unfold kL pj5;have e:wr ((l.length:Int) - 1)=(l.length:Int) - 1:=nZ hl;rw[e,aY2 (λk (a:cR)=>(k,a)) ((l.length:Int) - 1,[]) [] l (λx a=>a++[x]) cGd (λ_=>1) 68719476736 id rfl (by omega) (by rw[fB];simpa using hl) (λx a=>by simp) (λk x a hi hx hd hw hk hb=>by
  simp only[hd,hi,hw,zZ,aA,aP,aE (b:=40) (n:=a.length) (m:=1) (by decide) hb]) (λa=>by simp),aFv (λx=>x)]
 simp
theorem bXr{p:den tPp}(hl:p.2.2.2.length<=68719476736):qH p=some (pJ p):=by
 unfold qH pJ pj4;simp only[cBq,aP,bX1 (cF8 _) hl,bZt hl,aA]
theorem bW9{p:den tPp}(hl:p.2.2.2.length<=68719476736):qS p=some (pJ p):=by
 unfold qS pJ pj4 pj5 zz4;simp only[cBo,aP,aVn (cF8 _) hl,bC,bT,bH,bI,bL,aA];have e:wr ((p.2.2.2.length:Int) - 1)=(p.2.2.2.length:Int) - 1:=nZ hl;rw[e,aY2 (λk (a:cR)=>(k,aLs p.1,p.2.1,aD8 p p.2.2.2.length,a)) ((p.2.2.2.length:Int) - 1,aLs p.1,p.2.1,aD8 p p.2.2.2.length,[]) [] p.2.2.2 (λx a=>a++[x]) cGd (λ_=>1) 68719476736 (λa=>(aLs p.1,p.2.1,aD8 p p.2.2.2.length,a)) rfl (by omega) (by rw[fB];simpa using hl) (λx a=>by simp) (λk x a hi hx hd hw hk hb=>by
  simp only[hd,hi,hw,zZ,aA,aP,aE (b:=40) (n:=a.length) (m:=1) (by decide) hb]) (λa=>by simp),aFv (λx=>x)]
 simp
def kA(p:den tPt):den tPt:=p.reverse.map pJ
theorem bC9{p:den tPt}(h:SmB 68719476736 tPt p):iJ p=some (kA p):=by
 unfold iJ kA pj4;have e:wr ((p.length:Int) - 1)=(p.length:Int) - 1:=nZ h.1;rw[e,aY2 (λk (a:lPp)=>(k,a)) ((p.length:Int) - 1,[]) [] p (λx a=>a++[pJ x]) cGd (λ_=>1) 68719476736 id rfl (by have :=h.1;omega) (by rw[fB];simpa using h.1) (λx a=>by simp) (λk x a hi hx hd hw hk hb=>by
  have hxl:=(h.2 x (cF9 hx)).2.2.2.1;simp only[hd,hi,hw,zZ,aA,aP,bXr hxl,aE (b:=48) (n:=a.length) (m:=1) (by decide) hb]) (λa=>by simp),aFv pJ]
 simp
theorem bMi{p:den tPt}(h:SmB 68719476736 tPt p):mL p=some (kA p):=by
 unfold mL kA pj4;have e:wr ((p.length:Int) - 1)=(p.length:Int) - 1:=nZ h.1;rw[e,aY2 (λk (a:lPp)=>(k,a)) ((p.length:Int) - 1,[]) [] p (λx a=>a++[pJ x]) cGd (λ_=>1) 68719476736 id rfl (by have :=h.1;omega) (by rw[fB];simpa using h.1) (λx a=>by simp) (λk x a hi hx hd hw hk hb=>by
  have hxl:=(h.2 x (cF9 hx)).2.2.2.1;simp only[hd,hi,hw,zZ,aA,aP,bW9 hxl,aE (b:=48) (n:=a.length) (m:=1) (by decide) hb]) (λa=>by simp),aFv pJ]
 simp
theorem bM2(p:den tPp):tot tPp (pJ p)=tot tPp p:=by
 show tot ti _+(tot ti _+(tot ti _+tot (.sl bV) p.2.2.2.reverse))=tot ti _+(tot ti _+(tot ti _+tot (.sl bV) p.2.2.2));rw[aVh];rfl
theorem aTv{t:Ty}(g:den t->den t)(hg:∀x,tot t (g x)=tot t x):∀l:List (den t),tot (.sl t) (l.map g)=tot (.sl t) l
 | []=>rfl
 | x::l=>by rw[cGg,kW,kW,hg,aTv g hg l]
theorem aDc(p:den tPt):tot tPt (kA p)=tot tPt p:=by
 show tot (.sl tPp) (p.reverse.map pJ)=tot (.sl tPp) p;rw[aTv pJ bM2,aVh]
def aP8(pk:den tPk)(kind seq:Int)(pay:List Int):den tPk:=gF kind (kA pk.2.2.2.1) pk.2.2.2.2.2.2.2.1 seq pay
theorem bZe{pk:den tPk}{kind seq:Int}{pay:List Int}(h:tot tPt pk.2.2.2.1<=34359738368)(hp:pay.length<=68719476736):aDd pk kind seq pay=some (pkR (aP8 pk kind seq pay)):=by
 unfold aDd aP8 aL zz7;rw[bC9 ((bM h).mono (by decide)),aA,aP5 (by rw[aDc];exact h) hp];rfl
theorem bXh{pk:den tPk}{kind seq:Int}{pay:List Int}(h:tot tPt pk.2.2.2.1<=34359738368)(hp:pay.length<=68719476736):aDe pk kind seq pay=some (pkR (aP8 pk kind seq pay)):=by
 unfold aDe aP8 aL zz7;rw[bMi ((bM h).mono (by decide)),aA,aPx (by rw[aDc];exact h) hp];rfl
def pk0:den tPk:=(0,0,0,[],0,0,0,0,0,[])
def pkB(p:den tPk)(b:Bool):q8:=(p.1,p.2.1,p.2.2.1,p.2.2.2.2.1,p.2.2.2.2.2.1,p.2.2.2.2.2.2.1,p.2.2.2.2.2.2.2.1,p.2.2.2.2.2.2.2.2.1,b,p.2.2.2.1,p.2.2.2.2.2.2.2.2.2)
def aAl(x:den tIb)(p:den tPk):Bool:=vY x p&& !decide (p.2.2.2.2.2.2.2.2.1>=x.2.2.1)
def jV(x:den tIb)(p:den tPk):den tPk:=if aAl x p then aP8 p 2 p.2.2.2.2.2.2.2.2.1 [] else pk0
theorem bXv{x:den tIb}{p:den tPk}(h:tot tPt p.2.2.2.1<=34359738368):xX x p=some (pkB (jV x p) (aAl x p)):=by
 unfold xX jV aAl aL pj2 pj4 zz4 zz5 zz6 zz7 zz8;simp only[aP,bFx,aA,bZe (pay:=[]) h (by simp)];cases vY x p<;>cases decide (p.2.2.2.2.2.2.2.2.1>=x.2.2.1)<;>rfl
theorem bYm{x:den tIb}{p:den tPk}(h:tot tPt p.2.2.2.1<=34359738368):xP x p=some (pkB (jV x p) (aAl x p)):=by
 unfold xP jV aAl aL pj2 pj4 zz4 zz5 zz6 zz7 zz8;simp only[aP,bF0,aA,bXh (pay:=[]) h (by simp)];cases vY x p<;>cases decide (p.2.2.2.2.2.2.2.2.1>=x.2.2.1)<;>rfl
def sends(f:den tFl):Bool:=inR f.2.2.2.2.2.2.1 0 ((f.2.2.2.2.2.1.length:Int) - 1)&&inR f.2.2.2.1 0 ((f.2.2.2.2.1.length:Int) - 1)
def mV(f:den tFl):den tPk:=
 if sends f then gF 1 ((f.2.2.2.2.2.1[f.2.2.2.2.2.2.1.toNat]?).getD []) f.2.2.1 f.2.2.2.1 ((f.2.2.2.2.1[f.2.2.2.1.toNat]?).getD []) else pk0
theorem bAe{t:Ty}{l:List (den t)}{d:den t}{i:Nat}(hd:tot t d=0):tot t ((l[i]?).getD d)<=tot (.sl t) l:=by
 cases h:l[i]? with
 | none=>simp[hd]
 | some x=>have :=aAu h;simp;omega
theorem bEn{f:den tFl}(h:tot tFl f<=34359738368):fO f=some (pkB (mV f) (sends f)):=by
 have h0:=aT (aT (aT (aT h)));have hm:=xS h0;have hp:=xS (aT h0);have l1:=dX f.2.2.2.2.1;have l2:=dX f.2.2.2.2.2.1;unfold fO mV sends pj2 zz4 zz5 zz6 zz7 zz8;simp only[lR,nZ (n:=f.2.2.2.2.2.1.length) (by omega),nZ (n:=f.2.2.2.2.1.length) (by omega),aA];cases c1:inR f.2.2.2.2.2.2.1 0 ((f.2.2.2.2.2.1.length:Int) - 1) with
 | false=>rfl
 | true=>
  cases c2:inR f.2.2.2.1 0 ((f.2.2.2.2.1.length:Int) - 1) with
  | false=>rfl
  | true=>
   rw[aV]at c1 c2;rw[aTj c1.1 (by omega),aTj c2.1 (by omega)];have e1:f.2.2.2.2.2.1[f.2.2.2.2.2.2.1.toNat]? =some (f.2.2.2.2.2.1[f.2.2.2.2.2.2.1.toNat]'(by omega)):=cFx (by omega);have e2:f.2.2.2.2.1[f.2.2.2.1.toNat]? =some (f.2.2.2.2.1[f.2.2.2.1.toNat]'(by omega)):=cFx (by omega);have t1:=aAu e1;have t2:=aAu e2;have t3:=dX (t:=tb) (f.2.2.2.2.1[f.2.2.2.1.toNat]'(by omega));simp only[aA,cF0,zY];rw[aP5 (by omega) (by have t2:1+tot (.sl tb) _<=_:=t2;omega),e1,e2];rfl
theorem bFm{f:den tFl}(h:tot tFl f<=34359738368):fI f=some (pkB (mV f) (sends f)):=by
 have h0:=aT (aT (aT (aT h)));have hm:=xS h0;have hp:=xS (aT h0);have l1:=dX f.2.2.2.2.1;have l2:=dX f.2.2.2.2.2.1;unfold fI mV sends pj2 zz4 zz5 zz6 zz7 zz8;simp only[jU,nZ (n:=f.2.2.2.2.2.1.length) (by omega),nZ (n:=f.2.2.2.2.1.length) (by omega),aA];cases c1:inR f.2.2.2.2.2.2.1 0 ((f.2.2.2.2.2.1.length:Int) - 1) with
 | false=>cases inR f.2.2.2.1 0 ((f.2.2.2.2.1.length:Int) - 1)<;>rfl
 | true=>
  cases c2:inR f.2.2.2.1 0 ((f.2.2.2.2.1.length:Int) - 1) with
  | false=>rfl
  | true=>
   rw[aV]at c1 c2;rw[aTj c1.1 (by omega),aTj c2.1 (by omega)];have e1:f.2.2.2.2.2.1[f.2.2.2.2.2.2.1.toNat]? =some (f.2.2.2.2.2.1[f.2.2.2.2.2.2.1.toNat]'(by omega)):=cFx (by omega);have e2:f.2.2.2.2.1[f.2.2.2.1.toNat]? =some (f.2.2.2.2.1[f.2.2.2.1.toNat]'(by omega)):=cFx (by omega);have t1:=aAu e1;have t2:=aAu e2;have t3:=dX (t:=tb) (f.2.2.2.2.1[f.2.2.2.1.toNat]'(by omega));simp only[aA,cF0,zY];rw[aPx (by omega) (by have t2:1+tot (.sl tb) _<=_:=t2;omega),e1,e2];rfl
def lN(f:den tFl):Int:=if wr (f.2.2.2.2.2.2.1+1)>=(f.2.2.2.2.2.1.length:Int) then 0 else wr (f.2.2.2.2.2.2.1+1)
def setCW(f:den tFl)(c w:Int):den tFl:=(f.1,f.2.1,f.2.2.1,f.2.2.2.1,f.2.2.2.2.1,f.2.2.2.2.2.1,c,w,f.2.2.2.2.2.2.2.2)
theorem aJm(f:den tFl)(c w:Int):tot tFl (setCW f c w)=tot tFl f:=rfl
def aD(f:den tFl):den tFl×den tPk×Bool:=
 if sends f then
  if f.2.2.2.2.2.2.2.1==0 then (setCW f f.2.2.2.2.2.2.1 1,mV f,true)
  else if f.2.2.2.2.2.2.2.1==4 then (setCW f (lN f) 1,mV (setCW f (lN f) 1),sends (setCW f (lN f) 1))
  else (setCW f f.2.2.2.2.2.2.1 (wr (f.2.2.2.2.2.2.2.1+1)),pk0,false)
 else (setCW f f.2.2.2.2.2.2.1 0,pk0,false)
def eL(f:den tFl)(p:den tPk)(b:Bool):q9:=
 (f.1,f.2.1,f.2.2.1,f.2.2.2.1,f.2.2.2.2.2.2.1,f.2.2.2.2.2.2.2.1,p.1,p.2.1,p.2.2.1,p.2.2.2.2.1,p.2.2.2.2.2.1,p.2.2.2.2.2.2.1,p.2.2.2.2.2.2.2.1,p.2.2.2.2.2.2.2.2.1,b,f.2.2.2.2.1,f.2.2.2.2.2.1,f.2.2.2.2.2.2.2.2,p.2.2.2.1,p.2.2.2.2.2.2.2.2.2)
theorem bF4(f:den tFl):rS f=some (lN f):=by
 unfold rS lN zz5 zz6
 by_cases h:wr (f.2.2.2.2.2.2.1+1)>=(f.2.2.2.2.2.1.length:Int)
 .rw[zX h,zT h];rfl
 .rw[zW h,zS h];rfl
theorem bXz{f:den tFl}(h:tot tFl f<=34359738368):xK f=some (eL (aD f).1 (aD f).2.1 (aD f).2.2):=by
 unfold xK aD pj2 pj9 aS bD bR eC kX zz4 zz5 zz6 zz7 zz8 zz9;have e:fO (f.1,f.2.1,f.2.2.1,f.2.2.2.1,f.2.2.2.2.1,f.2.2.2.2.2.1,lN f,1,f.2.2.2.2.2.2.2.2)=some (pkB (mV (setCW f (lN f) 1)) (sends (setCW f (lN f) 1))):=bEn (f:=setCW f (lN f) 1) h;simp only[aP,aKi ((bM h).mono (by decide)),bEn h,bF4,aA,bC,bT,bH,bI,bL,pW,e];cases c1:sends f with
 | false=>simp only[pkB,cGa,zZ];rfl
 | true=>
  simp only[pkB,cF0,zY,zV];cases c2:f.2.2.2.2.2.2.2.1==0 with
  | true=>rfl
  | false=>
   cases c3:f.2.2.2.2.2.2.2.1==4 with
   | true=>rfl
   | false=>rfl
theorem bQb{c:Int}{n:Nat}(h0:0<=c)(h1:c<=(n:Int) - 1)(hn:n<=68719476736):inR c 0 (wr ((n:Int) - 2))= !decide (wr (c+1)>=(n:Int)):=by
 have e1:wr ((n:Int) - 2)=(n:Int) - 2:=wri (by omega) (by omega);have e2:wr (c+1)=c+1:=wri (by omega) (by omega);rw[e1,e2,cGl,aV];simp;omega
theorem bL3{f:den tFl}(h:SmB 68719476736 tFl f)(hs:inR f.2.2.2.2.2.2.1 0 ((f.2.2.2.2.2.1.length:Int) - 1)=true):uU f=some (pW (setCW f (lN f) f.2.2.2.2.2.2.2.1)):=by
 unfold uU lN pj3 pj9 zz4 zz5 zz6;have hl:=h.2.2.2.2.2.1.1;rw[aV]at hs;simp only[aP,aEw h,jU,bQb hs.1 hs.2 hl,aA,pW]
 by_cases hc:wr (f.2.2.2.2.2.2.1+1)>=(f.2.2.2.2.2.1.length:Int)
 .rw[zX hc,zT hc];rfl
 .rw[zW hc,zS hc];rfl
theorem bW0{f:den tFl}(h:tot tFl f<=34359738368):xN f=some (eL (aD f).1 (aD f).2.1 (aD f).2.2):=by
 unfold xN aD pj2 pj9 aS bD bR eC kX zz4 zz5 zz6 zz7 zz8 zz9;have sm:SmB 68719476736 tFl f:=(bM h).mono (by decide);have e:fI (f.1,f.2.1,f.2.2.1,f.2.2.2.1,f.2.2.2.2.1,f.2.2.2.2.2.1,lN f,1,f.2.2.2.2.2.2.2.2)=some (pkB (mV (setCW f (lN f) 1)) (sends (setCW f (lN f) 1))):=bFm (f:=setCW f (lN f) 1) h;simp only[aP,aEw sm,bFm h,aA,bC,bT,bH,bI,bL];cases c1:sends f with
 | false=>simp only[pkB,pW,cGa,zZ];rfl
 | true=>
  have hs:inR f.2.2.2.2.2.2.1 0 ((f.2.2.2.2.2.1.length:Int) - 1)=true:=by
   unfold sends at c1;simp only[cFw]at c1;exact c1.1
  rw[bL3 sm hs];simp only[pkB,pW,setCW,aA,cF0,zY,zV,e];cases c2:f.2.2.2.2.2.2.2.1==0 with
  | true=>rfl
  | false=>
   cases c3:f.2.2.2.2.2.2.2.1==4 with
   | true=>rfl
   | false=>rfl
def cI(p:den tPk):Bool:=inR p.2.2.2.2.1 0 ((p.2.2.2.1.length:Int) - 1)&&inR p.2.2.2.2.2.1 0 (((((p.2.2.2.1[p.2.2.2.2.1.toNat]?).getD (0,0,0,[])).2.2.2.length:Nat):Int) - 1)
def cA(p:den tPk):Int:=if cI p then ((((p.2.2.2.1[p.2.2.2.2.1.toNat]?).getD (0,0,0,[])).2.2.2[p.2.2.2.2.2.1.toNat]?).getD (0,0,0,0,0)).1 else -1
theorem aEn{p:den tPk}(h:cI p=true):∃(i j:Nat) (x:den tPp) (y:den bV),p.2.2.2.2.1=(i:Int)/\p.2.2.2.2.2.1=(j:Int)/\p.2.2.2.1[i]? =some x/\x.2.2.2[j]? =some y/\cA p=y.1:=by
 have h':=h;unfold cI at h';simp only[cFw,aV]at h';obtain⟨⟨h1,h2⟩,h3,h4⟩:=h';obtain⟨x,hx⟩:=aBv h1 h2;rw[hx,cGy]at h4;obtain⟨y,hy⟩:=aBv h3 h4;refine⟨p.2.2.2.2.1.toNat,p.2.2.2.2.2.1.toNat,x,y,(cIf h1).symm,(cIf h3).symm,hx,hy,?_⟩;unfold cA;rw[h,zT rfl,hx,cGy,hy,cGy]
theorem aBu{p:den tPk}(c:cI p=false):cA p= -1:=by unfold cA;rw[c];rfl
theorem bUa{p:den tPk}(h:SmB 68719476736 tPk p):yL p=some (cI p):=by
 unfold yL cI zz4 zz5;have l1:=h.2.2.2.1.1;rw[lR,nZ l1,aA];cases c1:inR p.2.2.2.2.1 0 ((p.2.2.2.1.length:Int) - 1) with
 | false=>rfl
 | true=>
  rw[aV]at c1;obtain⟨x,hx⟩:=aBv c1.1 c1.2;rw[aKu c1.1 hx,hx];have l2:=(h.2.2.2.1.2 _ (cF9 hx)).2.2.2.1;simp only[zZ,aA,lR,nZ l2,cGy,cGf]
theorem aFf{p:den tPk}(h:SmB 68719476736 tPk p):dN p=some (cA p):=by
 unfold dN aL zz4 zz5;simp only[aP,bUa h,aA];cases c:cI p with
 | false=>rw[aBu c];rfl
 | true=>
  obtain⟨i,j,x,y,h1,h2,h3,h4,h5⟩:=aEn c;rw[h1,h2,h5];simp only[cF0,zY,aN,h3,h4,aA]
theorem aHd{p:den tPk}(h:SmB 68719476736 tPk p):eU p=some (cA p):=by
 unfold eU zz4 zz5;have l1:=h.2.2.2.1.1;rw[jU,nZ l1,aA];cases c1:inR p.2.2.2.2.1 0 ((p.2.2.2.1.length:Int) - 1) with
 | false=>rw[aBu (by unfold cI;rw[c1];rfl)];rfl
 | true=>
  have c1':=c1;rw[aV]at c1';obtain⟨x,hx⟩:=aBv c1'.1 c1'.2;rw[aKu c1'.1 hx];have l2:=(h.2.2.2.1.2 _ (cF9 hx)).2.2.2.1;simp only[cF0,zY,aA,jU,nZ l2];cases c2:inR p.2.2.2.2.2.1 0 ((x.2.2.2.length:Int) - 1) with
  | false=>rw[aBu (by unfold cI;rw[c1,hx,cGy,c2];rfl)];rfl
  | true=>
   have c:cI p=true:=by unfold cI;rw[c1,hx,cGy,c2];rfl
   rw[aV]at c2;obtain⟨y,hy⟩:=aBv c2.1 c2.2;rw[aKu c2.1 hy];unfold cA;rw[c,zT rfl,hx,cGy,hy,cGy];rfl
def aE3(p:den tPt)(i j:Nat):den tPt:=
 match p[i]? with
 | some x=>p.take i++[(x.1,x.2.1,x.2.2.1,x.2.2.2.take (j+1))]
 | none=>[]
def qA(p:den tPk):den tPt:=if cA p<0 then [] else aE3 p.2.2.2.1 p.2.2.2.2.1.toNat p.2.2.2.2.2.1.toNat
theorem bCa{p:den tPk}(h:SmB 68719476736 tPk p):iX p=some (qA p):=by
 unfold iX qA aL zz4 zz5;simp only[aP,aFf h,aA]
 by_cases hc:cA p<0
 .rw[zX hc,zZ,zT hc]
 .rw[zW hc,zY,zS hc];cases c:cI p with
  | false=>rw[aBu c]at hc;exact absurd (by decide) hc
  | true=>
   obtain⟨i,j,x,y,h1,h2,h3,h4,h5⟩:=aEn c;have l1:=h.2.2.2.1.1;have l2:=(h.2.2.2.1.2 _ (cF9 h3)).2.2.2.1;have hi:=(cFz.1 h3).1;have hj:=(cFz.1 h4).1;have e1:wr ((i:Int)+1)=((i+1:Nat):Int):=by have :wr ((i:Int)+1)=(i:Int)+1:=wri (by omega) (by omega);rw[this];rfl
   have e2:wr ((j:Int)+1)=((j+1:Nat):Int):=by have :wr ((j:Int)+1)=(j:Int)+1:=wri (by omega) (by omega);rw[this];rfl
   have e3:cJ (0:Int) ((i+1:Nat):Int) (p.2.2.2.1.length:Int)=true:=by simp[cJ];omega
   have e4:cJ (0:Int) ((j+1:Nat):Int) (x.2.2.2.length:Int)=true:=by simp[cJ];omega
   have e5:p.2.2.2.1.take (i+1)=p.2.2.2.1.take i++[x]:=aN2 h3;have e6:(p.2.2.2.1.take i).length=i:=by rw[cG7];omega
   rw[h1,h2,e1,e2,aPy h.2.2.2.1,aA,e3,zZ];simp only[cF2,e5];have e7:decide ((i:Int)<((p.2.2.2.1.take i++[x]).length:Int))=true:=by simp;omega
   have e8:(p.2.2.2.1.take i++[x])[i]? =some x:=by rw[List.getElem?_append_right (by omega),e6];simp
   have e9:∀z,(p.2.2.2.1.take i++[x]).set i z=p.2.2.2.1.take i++[z]:=λz=>by rw[List.set_append_right _ _ (by omega),e6];simp
   simp only[cU,e7,e8,e4,e9,zZ,aA,iQ,decide_true];unfold aE3;rw[h3]
theorem bA0{p:den tPk}(h:SmB 68719476736 tPk p):iU p=some (qA p):=by
 unfold iU qA aL pj4 zz4 zz5;simp only[aP,aHd h,aA]
 by_cases hc:cA p<0
 .rw[zX hc,zZ,zT hc]
 .rw[zW hc,zY,zS hc];cases c:cI p with
  | false=>rw[aBu c]at hc;exact absurd (by decide) hc
  | true=>
   obtain⟨i,j,x,y,h1,h2,h3,h4,h5⟩:=aEn c;have l1:=h.2.2.2.1.1;have hi:=(cFz.1 h3).1;have hj:=(cFz.1 h4).1;have l2:=(h.2.2.2.1.2 _ (cF9 h3)).2.2.2.1;have e2:wr ((j:Int)+1)=((j+1:Nat):Int):=by have :wr ((j:Int)+1)=(j:Int)+1:=wri (by omega) (by omega);rw[this];rfl
   have e4:cJ (0:Int) ((j+1:Nat):Int) (x.2.2.2.length:Int)=true:=by simp[cJ];omega
   have e5:p.2.2.2.1.take (i+1)=p.2.2.2.1.take i++[x]:=aN2 h3;have e6:(p.2.2.2.1.take (i+1)).length=i+1:=by rw[cG7];omega
   rw[h1,h2,e2]
   let cutX:Nat->den tPp->den tPp:=λk z=>if k=i then (z.1,z.2.1,z.2.2.1,z.2.2.2.take (j+1)) else z
   rw[lJ (λk (a:lPp)=>((k:Int),a)) ((0:Int),[]) [] (p.2.2.2.1.take (i+1)) (λk z a=>a++[cutX k z]) cGd (λ_=>1) 68719476736 id rfl (by omega) (by rw[fB];simp;omega) (λk z a=>by simp) (λk z a hz hx hd hw hk hb=>by
    rw[e6]at hd hk;have hz':=(aRs hx).1;have hd':decide ((k:Int)<=(i:Int))=true:=by simp;omega
    have sz:=h.2.2.2.1.2 _ (cF9 hz');simp only[hd',hw,zZ,aA,aN,hz',aP,aRh sz]
    by_cases hki:k=i
    .subst hki;rw[h3]at hz';injection hz' with hz';subst hz';have e7:((k:Int)==(k:Int))=true:=by simp
     simp only[e7,zZ,e4,aA,iQ,aE (b:=48) (n:=a.length) (m:=1) (by decide) hb,cutX,zV]
    .have e7:((k:Int)==(i:Int))=false:=by simp;omega
     simp only[e7,zY,aA,aE (b:=48) (n:=a.length) (m:=1) (by decide) hb,zZ,cutX,zS hki]) (λa=>by
    have e10:decide (((i+1:Nat):Int)<=(i:Int))=false:=by simp<;>omega
    rw[e6];simp only[e10,zY];rfl)]
   have key:∀(l:lPp) (k:Nat) (a:lPp),k+l.length<=i->bO (λk z a=>a++[cutX k z]) k l a=a++l:=by
    intro l
    induction l with
    | nil=>intro k a _;simp[bO]
    | cons z l ih=>
     intro k a hk;simp only[cGv]at hk;simp only[bO];rw[ih (k+1) _ (by omega)];have :cutX k z=z:=zS (by omega);rw[this];simp
   have fa:∀(l:lPp) (z:den tPp) (k:Nat) (a:lPp),bO (λk z a=>a++[cutX k z]) k (l++[z]) a=bO (λk z a=>a++[cutX k z]) k l a++[cutX (k+l.length) z]:=by
    intro l
    induction l with
    | nil=>intro z k a;rfl
    | cons y l ih=>
     intro z k a;simp only[List.cons_append,bO,cGv];rw[ih];congr 3;omega
   have e8:(p.2.2.2.1.take i).length=i:=by rw[cG7];omega
   rw[e5,fa,key _ 0 [] (by omega),e8];have :cutX (0+i) x=(x.1,x.2.1,x.2.2.1,x.2.2.2.take (j+1)):=zT (by omega);rw[this];unfold aE3;rw[cF2,cF2,h3];rfl
theorem bDz(p:den tPt)(i j:Nat):tot tPt (aE3 p i j)<=tot tPt p:=by
 unfold aE3;cases h:p[i]? with
 | none=>exact cGe _
 | some x=>
  have h1:tot tPt (p.take (i+1))<=tot tPt p:=aZ0 (t:=tPp) p (i+1);rw[aN2 h]at h1;have h2:tot (.sl tPp) (p.take i++[x])<=tot (.sl tPp) p:=h1;show tot (.sl tPp) (p.take i++[(x.1,x.2.1,x.2.2.1,x.2.2.2.take (j+1))])<=tot (.sl tPp) p;rw[vB,aHp]at h2 ⊢;have h3:tot tPp (x.1,x.2.1,x.2.2.1,x.2.2.2.take (j+1))<=tot tPp x:=by
   have :=aZ0 (t:=bV) x.2.2.2 (j+1);show 0+(0+(0+tot (.sl bV) (x.2.2.2.take (j+1))))<=0+(0+(0+tot (.sl bV) x.2.2.2));omega
  omega
theorem aEq(p:den tPk):tot tPt (qA p)<=tot tPt p.2.2.2.1:=by
 unfold qA;split
 .exact cGe _
 .exact bDz _ _ _
def vi:Nat->Nat->List Int
 | 0,n=>[(n:Int)]
 | k+1,n=>if n<128 then [(n:Int)] else (((n % 128+128:Nat):Int))::vi k (n / 128)
theorem bL4:∀(k n:Nat),(vi k n).length<=k+1
 | 0,n=>by simp[vi]
 | k+1,n=>by
  unfold vi;split
  .simp
  .have :=bL4 k (n / 128);simp only[cGv];omega
theorem aFe{n:Nat}(h:n<256):IntKind.wrap .u8 (n:Int)=(n:Int):=by
 simp only[IntKind.wrap,IntKind.signed,IntKind.bits];simp;omega
theorem cA0:∀(k n:Nat) (out:List Int),n<128 ^ (k+1)->out.length+k+1<=68719476736->n<9223372036854775808->(@Option.bind q35 (lI) (@aC q35 q35 (λ(s4:Int×lI)=>cond (decide (s4.1>=(128:Int))) (cond (aK 1 s4.2.length 1) (some (cFu (wr (Int.tdiv s4.1 (128:Int)),s4.2++[IntKind.wrap .u8 (wr ((cG0 s4.1 (128:Int))+(128:Int)))]))) none) (some (cFt (s4.1,s4.2)))) ((n:Int),out)) λ(s5:Int×lI)=>cond (aK 1 s5.2.length 1) (some (s5.2++[IntKind.wrap .u8 s5.1])) none)=some (out++vi k n)
 | 0,n,out,hn,ho,hb=>by
  have hn:n<128:=by simpa using hn
  have e1:decide ((n:Int)>=128)=false:=by simp;omega
  rw[bA (r:=((n:Int),out)) (by simp only[e1,zY]),aA];simp only[aE (b:=1) (n:=out.length) (m:=1) (by decide) (by omega),zZ,aFe (n:=n) (by omega),vi]
 | k+1,n,out,hn,ho,hb=>by
  by_cases h:n<128
  .have e1:decide ((n:Int)>=128)=false:=by simp;omega
   rw[bA (r:=((n:Int),out)) (by simp only[e1,zY]),aA];simp only[aE (b:=1) (n:=out.length) (m:=1) (by decide) (by omega),zZ,aFe (n:=n) (by omega),vi,zT h]
  .have e1:decide ((n:Int)>=128)=true:=by simp;omega
   have hd:n / 128<128 ^ (k+1):=by rw[Nat.div_lt_iff_lt_mul (by decide)];rw[Nat.pow_succ]at hn;exact hn
   have e2:Int.tdiv (n:Int) 128=((n / 128:Nat):Int):=rfl;have e3:cG0 (n:Int) 128=((n % 128:Nat):Int):=rfl;have e4:wr (((n % 128:Nat):Int)+128)=((n % 128+128:Nat):Int):=by
    have :wr (((n % 128:Nat):Int)+128)=((n % 128:Nat):Int)+128:=wri (by omega) (by omega);rw[this];rfl
   have e5:wr ((n / 128:Nat):Int)=((n / 128:Nat):Int):=wri (by omega) (by omega);rw[cQ (s':=(((n / 128:Nat):Int),out++[((n % 128+128:Nat):Int)])) (by
    simp only[e1,zZ,aE (b:=1) (n:=out.length) (m:=1) (by decide) (by omega),e2,e3,e4,e5,aFe (n:=n % 128+128) (by omega)])]
   rw[cA0 k (n / 128) _ hd (by simp;omega) (by omega)];simp only[vi,zS h,cGj,cI3]
theorem bBh{n:Nat}(h:n<9223372036854775808):aAg .i64 (n:Int) 127=((n % 128:Nat):Int):=by
 have e:(BitVec.ofInt 64 (n:Int) &&& BitVec.ofInt 64 127).toNat=n % 128:=by
  rw[BitVec.toNat_and];have e1:(BitVec.ofInt 64 (n:Int)).toNat=n:=by simp;omega
  have e2:(BitVec.ofInt 64 127).toNat=2 ^ 7 - 1:=by decide
  rw[e1,e2,Nat.and_two_pow_sub_one_eq_mod]
 unfold aAg;show IntKind.i64.wrap (((BitVec.ofInt 64 (n:Int) &&& BitVec.ofInt 64 127).toNat:Nat):Int)=_;rw[e];exact wri (by omega) (by omega)
theorem bXa{n:Nat}(h:n<128):bOr .i64 (n:Int) 128=((n+128:Nat):Int):=by
 have e:(BitVec.ofInt 64 (n:Int) ||| BitVec.ofInt 64 128).toNat=n+128:=by
  rw[BitVec.toNat_or];have e1:(BitVec.ofInt 64 (n:Int)).toNat=n:=by simp;omega
  have e2:(BitVec.ofInt 64 128).toNat=128:=by decide
  rw[e1,e2,Nat.or_comm];have :=Nat.two_pow_add_eq_or_of_lt (i:=7) (b:=n) h 1;simp only[Nat.mul_one]at this;rw[<- this];omega
 unfold bOr;show IntKind.i64.wrap (((BitVec.ofInt 64 (n:Int) ||| BitVec.ofInt 64 128).toNat:Nat):Int)=_;rw[e];exact wri (by omega) (by omega)
theorem cDa(n:Nat):shr .i64 (n:Int) 7=((n / 128:Nat):Int):=by
 unfold shr;show Int.fdiv (n:Int) (2 ^ 7)=_;rw[Int.fdiv_eq_ediv_of_nonneg _ (by decide)];rfl
theorem cCt:∀(k n:Nat) (out:List Int),n<128 ^ (k+1)->out.length+k+1<=68719476736->n<9223372036854775808->(@Option.bind q35 (lI) (@aC q35 q35 (λ(s3:Int×lI)=>cond (decide (s3.1>(127:Int))) (cond (aK 1 s3.2.length 1) (some (cFu (shr .i64 s3.1 (7:Int),s3.2++[IntKind.wrap .u8 (bOr .i64 (aAg .i64 s3.1 (127:Int)) (128:Int))]))) none) (some (cFt (s3.1,s3.2)))) ((n:Int),out)) λ(s4:Int×lI)=>cond (aK 1 s4.2.length 1) (some (s4.2++[IntKind.wrap .u8 s4.1])) none)=some (out++vi k n)
 | 0,n,out,hn,ho,hb=>by
  have hn:n<128:=by simpa using hn
  have e1:decide ((n:Int)>127)=false:=by simp;omega
  rw[bA (r:=((n:Int),out)) (by simp only[e1,zY]),aA];simp only[aE (b:=1) (n:=out.length) (m:=1) (by decide) (by omega),zZ,aFe (n:=n) (by omega),vi]
 | k+1,n,out,hn,ho,hb=>by
  by_cases h:n<128
  .have e1:decide ((n:Int)>127)=false:=by simp;omega
   rw[bA (r:=((n:Int),out)) (by simp only[e1,zY]),aA];simp only[aE (b:=1) (n:=out.length) (m:=1) (by decide) (by omega),zZ,aFe (n:=n) (by omega),vi,zT h]
  .have e1:decide ((n:Int)>127)=true:=by simp;omega
   have hd:n / 128<128 ^ (k+1):=by rw[Nat.div_lt_iff_lt_mul (by decide)];rw[Nat.pow_succ]at hn;exact hn
   rw[cQ (s':=(((n / 128:Nat):Int),out++[((n % 128+128:Nat):Int)])) (by
    simp only[e1,zZ,aE (b:=1) (n:=out.length) (m:=1) (by decide) (by omega),cDa,bBh hb,bXa (n:=n % 128) (by omega),aFe (n:=n % 128+128) (by omega)])]
   rw[cCt k (n / 128) _ hd (by simp;omega) (by omega)];simp only[vi,zS h,cGj,cI3]
def aCm(b:List Int)(n:Int):List Int:=if inR n 0 1000000000000 then b++vi 5 n.toNat else b
theorem aRg(b:List Int)(n:Int):(aCm b n).length<=b.length+6:=by
 unfold aCm;split
 .have :=bL4 5 n.toNat;rw[cGh];omega
 .omega
theorem cBs{b:List Int}{n:Int}(h:b.length+6<=68719476736):oW b n=some (aCm b n):=by
 unfold oW aCm pj2;rw[aHn (by omega),lR];cases c:inR n 0 1000000000000 with
 | false=>rfl
 | true=>
  rw[aV]at c;obtain⟨m,rfl⟩:=cGr c.1;have :=cA0 5 m b (by simp only[show (128:Nat) ^ (5+1)=4398046511104 from by decide];omega) (by omega) (by omega);exact this
theorem cC2{b:List Int}{n:Int}(h:b.length+6<=68719476736):oU b n=some (aCm b n):=by
 unfold oU aCm pj2;rw[aE (b:=1) (n:=([]:List Int).length) (by decide) (by simp;omega),jU];cases c:inR n 0 1000000000000 with
 | false=>rfl
 | true=>
  rw[aV]at c;obtain⟨m,rfl⟩:=cGr c.1;have :=cCt 5 m b (by simp only[show (128:Nat) ^ (5+1)=4398046511104 from by decide];omega) (by omega) (by omega);exact this
def aJ0(b l:List Int):List Int:=l.foldl aCm b
theorem bRg(b l:List Int):(aJ0 b l).length<=b.length+6 * l.length:=by
 unfold aJ0
 induction l generalizing b with
 | nil=>simp
 | cons x l ih=>
  have h1:=ih (aCm b x);have h2:=aRg b x;simp only[List.foldl_cons,cGv];omega
theorem bEb{α:Type}(l:List α):(l.map λ_=>6).sum=6 * l.length:=by
 induction l with
 | nil=>rfl
 | cons x l ih=>rw[cGg,cHg,ih,cGv];omega
theorem cAk{b l:List Int}(h:b.length+6 * l.length<=68719476736):sF b l=some (aJ0 b l):=by
 unfold sF aJ0;rw[lJ (λk (a:List Int)=>(a,(k:Int))) (b,(0:Int)) b l (λ_ x a=>aCm a x) cGd (λ_=>6) 68719476736 id rfl (by omega) (by rw[bEb];exact h) (λ_ x a=>aRg a x) (λk x a hi hx hd hw hk hb=>by
  simp only[hd,hi,hw,zZ,aA,cBs (b:=a) (n:=x) hb]) (λa=>by simp),uE aCm]
 rfl
theorem bNl{l:List Int}(h:6 * l.length<=68719476736):tA l=some (aJ0 [] l):=by
 unfold tA;rw[cAk (by simpa using h)];rfl
theorem bP0{l:List Int}(h:6 * l.length<=68719476736):sU l=some (aJ0 [] l):=by
 unfold sU aJ0;rw[lJ (λk (a:List Int)=>((k:Int),a)) ((0:Int),[]) [] l (λ_ x a=>aCm a x) cGd (λ_=>6) 68719476736 id rfl (by omega) (by rw[bEb];simpa using h) (λ_ x a=>aRg a x) (λk x a hi hx hd hw hk hb=>by
  simp only[hd,hi,hw,zZ,aA,cC2 (b:=a) (n:=x) hb]) (λa=>by simp),uE aCm]
 rfl
def tW(x:den tRv):List Int:=if dO x then aJ0 [] [x.1,x.2.1,x.2.2] else []
theorem aQu(x:den tRv):(tW x).length<=18:=by
 unfold tW;split
 .exact bRg [] [x.1,x.2.1,x.2.2]
 .simp
theorem cBd(x:den tRv):jP x=some (tW x):=by
 unfold jP tW pj3;rw[bNl (l:=[x.1,x.2.1,x.2.2]) (by simp)];simp only[aP,aE5,aA];cases dO x<;>rfl
theorem cAs(x:den tRv):jJ x=some (tW x):=by
 unfold jJ tW pj3;rw[bP0 (l:=[x.1,x.2.1,x.2.2]) (by simp)];simp only[aP,aFh,aA];cases dO x<;>rfl
def cB(r now d:Int)(p:den tPk):den tPk:=gF 3 (kA (qA p)) p.2.2.2.2.2.2.2.1 p.2.2.2.2.2.2.2.2.1 (tW (r,d,if 1000000<wr (now+10) then 1000000 else wr (now+10)))
theorem bW4{t:den tTo}{r now d:Int}{p:den tPk}(h:tot tPk p<=34359738368):jY t r now d p=some (pkR (cB r now d p)):=by
 have h1:tot tPt p.2.2.2.1<=34359738368:=xS (aT (aT (aT h)));have h2:=aEq p;have sm:SmB 68719476736 tPk p:=(bM h).mono (by decide);have h3:=aQu (r,d,if 1000000<wr (now+10) then 1000000 else wr (now+10));unfold jY cB aL zz7 zz8;simp only[aP,cEd,aA,bCa sm];rw[bC9 ((bM (cFv h2 h1)).mono (by decide)),aA,cBd,aA,aP5 (by rw[aDc];omega) (by omega)];rfl
theorem bXe{t:den tTo}{r now d:Int}{p:den tPk}(h:tot tPk p<=34359738368):hP t r now d p=some (pkR (cB r now d p)):=by
 have h1:tot tPt p.2.2.2.1<=34359738368:=xS (aT (aT (aT h)));have h2:=aEq p;have sm:SmB 68719476736 tPk p:=(bM h).mono (by decide);have h3:=aQu (r,d,if 1000000<wr (now+10) then 1000000 else wr (now+10));unfold hP cB aL zz7 zz8;simp only[aP,aY7,aA,bA0 sm];rw[bMi ((bM (cFv h2 h1)).mono (by decide)),aA,cAs,aA,aPx (by rw[aDc];omega) (by omega)];rfl
theorem aJs{kind res seq:Int}{p:den tPt}{pay:List Int}:tot tPk (gF kind p res seq pay)=tot tPt p+tot (.sl tb) pay:=by
 show 0+(0+(0+(tot tPt p+(0+(0+(0+(0+(0+tot (.sl tb) pay))))))))=_;omega
theorem aYa(f:den tFl):tot tPk (mV f)<=tot tFl f:=by
 unfold mV;split
 .rw[aJs];have h1:=bAe (t:=tPt) (l:=f.2.2.2.2.2.1) (d:=[]) (i:=f.2.2.2.2.2.2.1.toNat) rfl;have h2:=bAe (t:= .sl tb) (l:=f.2.2.2.2.1) (d:=[]) (i:=f.2.2.2.1.toNat) rfl;show _<=0+(0+(0+(0+(tot (.sl (.sl tb)) f.2.2.2.2.1+(tot (.sl tPt) f.2.2.2.2.2.1+(0+(0+tot (.sl tRv) f.2.2.2.2.2.2.2.2)))))));omega
 .exact cGe _
theorem aPl{p:den tPk}{N:Nat}(h:tot tPk p<=N):tot (.sl tPp) p.2.2.2.1<=N/\tot (.sl tb) p.2.2.2.2.2.2.2.2.2<=N:=
 ⟨xS (aT (aT (aT h))),aT (aT (aT (aT (aT (aT (aT (aT (aT h))))))))⟩
theorem aWq(x:den tIb)(p:den tPk):tot tPk (jV x p)<=tot tPk p:=by
 unfold jV;split
 .unfold aP8;rw[aJs,aDc];have h:=(aPl (cF8 (tot tPk p))).1;show tot (.sl tPp) p.2.2.2.1+0<=_;omega
 .exact cGe _
theorem aW1(f:den tFl):tot tFl (aD f).1=tot tFl f/\tot tPk (aD f).2.1<=tot tFl f:=by
 unfold aD;split
 .split
  .exact⟨aJm f _ _,aYa f⟩
  .split
   .exact⟨aJm f _ _,aYa (setCW f (lN f) 1)⟩
   .exact⟨aJm f _ _,cGe _⟩
 .exact⟨aJm f _ _,cGe _⟩
theorem aT6{f:den tFl}{N:Nat}(h:tot tFl f<=N):tot (.sl tMs) f.2.2.2.2.1<=N/\tot (.sl tPt) f.2.2.2.2.2.1<=N/\tot (.sl tRv) f.2.2.2.2.2.2.2.2<=N:=by
 have h0:=aT (aT (aT (aT h)));exact⟨xS h0,xS (aT h0),aT (aT (aT (aT h0)))⟩
theorem aXl(r now d:Int)(p:den tPk):tot tPk (cB r now d p)<=tot tPk p+18:=by
 unfold cB;rw[aJs,aDc];have h1:=aEq p;have h2:=(aPl (cF8 (tot tPk p))).1;have h2:tot tPt p.2.2.2.1<=tot tPk p:=h2;have h3:=aQu (r,d,if 1000000<wr (now+10) then 1000000 else wr (now+10));have e:tot (.sl tb) (tW (r,d,if 1000000<wr (now+10) then 1000000 else wr (now+10)))=(tW (r,d,if 1000000<wr (now+10) then 1000000 else wr (now+10))).length:=kS rfl;rw[e];omega
def aJ8{α β:Type}(p:α->β->Bool):List α->List β->Bool
 | x::xs,y::ys=>p x y&&aJ8 p xs ys
 | _,_=>true
theorem bCb{α β R:Type}{a:List α}{b:List β}(p:α->β->Bool){step:Int->Option (Int⊕(Unit⊕R))}(ρ:R)(hlen:a.length=b.length)(hl:a.length<=4611686018427387904)
  (h:∀(k:Nat) (x:α) (y:β),x∈a->y∈b->idx a (k:Int)=some x->idx b (k:Int)=some y->decide ((k:Int)<(a.length:Int))=true->IntKind.i64.wrap ((k:Int)+1)=((k+1:Nat):Int)->step (k:Int)=some (cond (p x y) (.inl ((k+1:Nat):Int)) (.inr (.inr ρ))))
  (he:step (a.length:Int)=some (.inr (.inl ()))):aC step (0:Int)=some (cond (aJ8 p a b) (.inl ()) (.inr ρ)):=by
 have key:∀(ra pa:List α) (rb pb:List β),pa++ra=a->pb++rb=b->pa.length=pb.length->aC step (pa.length:Int)=some (cond (aJ8 p ra rb) (.inl ()) (.inr ρ)):=by
  intro ra
  induction ra with
  | nil=>intro pa rb pb h1 _ _;rw[cGq]at h1;subst h1;exact bA he
  | cons x ra ih=>
   intro pa rb pb h1 h2 h3;cases rb with
   | nil=>exfalso;have e1:=congrArg cGd h1;have e2:=congrArg cGd h2;simp at e1 e2;omega
   | cons y rb=>
    have hx:a[pa.length]? =some x:=by rw[<- h1];simp
    have hy:b[pa.length]? =some y:=by rw[<- h2,h3];simp
    have hlt:pa.length<a.length:=by rw[<- h1];simp
    have hs:=h pa.length x y (cF9 hx) (cF9 hy) (by rw[aN];exact hx) (by rw[aN];exact hy) (by simpa using hlt) (by rw[wri (by omega) (by omega)];omega);simp only[aJ8];cases hp:p x y with
    | true=>rw[hp]at hs;rw[cQ hs];have :=ih (pa++[x]) rb (pb++[y]) (by simpa using h1) (by simpa using h2) (by simp[h3]);simpa using this
    | false=>rw[hp]at hs;exact bA hs
 exact key a [] b [] rfl rfl rfl
theorem aHq{α:Type}(b:Bool)(x y:α):cond b (some x) (some y)=some (cond b x y):=by cases b<;>rfl
theorem bOj{β:Type}(c:Bool)(f:Unit->Option β)(r:β):Sum.elim f some (cond c (cFu ()) (cFt r))=cond c (f ()) (some r):=by cases c<;>rfl
theorem bO5{α β:Type}(a:List α)(b:List β):((a.length:Int) != (b.length:Int))= !decide (a.length=b.length):=by
 rw[cGl];simp;omega
theorem bFh{α:Type}{p:Prop}[Decidable p]{x y z:α}(h:p->y=z):cond (!decide p) x y=cond (!decide p) x z:=by
 by_cases hp:p
 .rw[h hp]
 .simp[hp]
noncomputable def aTg(a b:cR):Bool:=cond (!decide (a.length=b.length)) false (cond (aJ8 (λx y=>(x.1==y.1)&&((x.2.1==y.2.1)&&((x.2.2.1==y.2.2.1)&&((x.2.2.2.1==y.2.2.2.1)&&((x.2.2.2.2==y.2.2.2.2)&&true))))) a b) true false)
theorem bXk{a b:cR}(ha:a.length<=68719476736):kB a b=some (aTg a b):=by
 unfold kB aTg zz4;rw[bO5];rw[bFh (z:=some (cond (aJ8 (λx y=>(x.1==y.1)&&((x.2.1==y.2.1)&&((x.2.2.1==y.2.2.1)&&((x.2.2.2.1==y.2.2.2.1)&&((x.2.2.2.2==y.2.2.2.2)&&true))))) a b) true false)) (λhlen=>by
  rw[bCb (a:=a) (b:=b) (λx y=>(x.1==y.1)&&((x.2.1==y.2.1)&&((x.2.2.1==y.2.2.1)&&((x.2.2.2.1==y.2.2.2.1)&&((x.2.2.2.2==y.2.2.2.2)&&true))))) false hlen (cFv ha (by decide)) (λk x y mx my ix iy hd hw=>by
   simp only[hd,ix,iy,hw,zZ,aA,aP,bne];generalize ((x.1==y.1)&&((x.2.1==y.2.1)&&((x.2.2.1==y.2.2.1)&&((x.2.2.2.1==y.2.2.2.1)&&((x.2.2.2.2==y.2.2.2.2)&&true)))))=c;cases c<;>rfl) (by simp)]
  simp only[aA,bOj,aHq]),aHq]
noncomputable def aGd(a b:den tPp):Bool:=cond (a.1==b.1) (cond (a.2.1==b.2.1) (cond (a.2.2.1==b.2.2.1) (aTg a.2.2.2 b.2.2.2) false) false) false
theorem bQv{a b:den tPp}(ha:SmB 68719476736 tPp a)(hb:SmB 68719476736 tPp b):tG a b=some (aGd a b):=by
 unfold tG aGd;simp only[aA,aHq,aP,bXk ha.2.2.2.1]
noncomputable def aD6(a b:lPp):Bool:=cond (!decide (a.length=b.length)) false (cond (aJ8 (λx y=>aGd x y) a b) true false)
theorem bEf{a b:lPp}(ha:SmB 68719476736 (.sl tPp) a)(hb:SmB 68719476736 (.sl tPp) b):lS a b=some (aD6 a b):=by
 unfold lS aD6 pj4;rw[bO5];rw[bFh (z:=some (cond (aJ8 (λx y=>aGd x y) a b) true false)) (λhlen=>by
  rw[bCb (a:=a) (b:=b) (λx y=>aGd x y) false hlen (cFv ha.1 (by decide)) (λk x y mx my ix iy hd hw=>by
   simp only[hd,ix,iy,hw,zZ,aA,aP,bQv (ha.2 x mx) (hb.2 y my)];generalize (aGd x y)=c;cases c<;>rfl) (by simp)]
  simp only[aA,bOj,aHq]),aHq]
noncomputable def bWn(a b:List Int):Bool:=(aAf a).toList==(aAf b).toList
theorem bW7(a b:List Int):vM a b=some (bWn a b):=rfl
noncomputable def aCz(a b:den tPk):Bool:=cond (a.1==b.1) (cond (a.2.1==b.2.1) (cond (a.2.2.1==b.2.2.1) (cond (aD6 a.2.2.2.1 b.2.2.2.1) (cond (a.2.2.2.2.1==b.2.2.2.2.1) (cond (a.2.2.2.2.2.1==b.2.2.2.2.2.1) (cond (a.2.2.2.2.2.2.1==b.2.2.2.2.2.2.1) (cond (a.2.2.2.2.2.2.2.1==b.2.2.2.2.2.2.2.1) (cond (a.2.2.2.2.2.2.2.2.1==b.2.2.2.2.2.2.2.2.1) (bWn a.2.2.2.2.2.2.2.2.2 b.2.2.2.2.2.2.2.2.2) false) false) false) false) false) false) false) false) false
theorem bX4{a b:den tPk}(ha:SmB 68719476736 tPk a)(hb:SmB 68719476736 tPk b):mW a b=some (aCz a b):=by
 unfold mW aCz zz4 zz5 zz6 zz7 zz8 zz9;simp only[aA,aHq,aP,bW7,bEf ha.2.2.2.1 hb.2.2.2.1]
def aDx(f:den tFl):Int:=wr ((wr ((wr ((f.2.2.2.2.2.1.length:Int)+(2:Int))) * (21:Int)))+(wr ((2:Int) * (f.2.2.2.2.1.length:Int))))
def oV(w:den tNw):Int:=bO (λ_ f a=>if aDx f>a then aDx f else a) 0 w.2.2.2.2.2.2.1 0
theorem bA3{w:den tNw}(h:w.2.2.2.2.2.2.1.length<=1073741824):hH w=some (wr (8+oV w)):=by
 unfold hH oV zz4 zz5 zz6;rw[lJ (λk (a:Int)=>(a,(k:Int))) ((0:Int),(0:Int)) 0 w.2.2.2.2.2.2.1 (λ_ f a=>if aDx f>a then aDx f else a) (λ_=>0) (λ_=>0) 1 id rfl (by omega) (by rw[sum_nil];omega) (λk x a=>by omega) (λk x a hi hx hd hw hk hb=>by
  simp only[hd,hi,hw,zZ,aA,bKx];rfl) (λa=>by simp)]
 rfl
def aMo(b:List Int)(p:Nat):Nat->Nat->Nat->Int×Int×Bool
 | 0,_,_=>(0,0,false)
 | f+1,k,n=>match b[p+k]? with
  | none=>(0,0,false)
  | some x=>
   if x.toNat<128 then (if (decide (x.toNat=0)&&decide (0<k))||decide (1000000000000<n+x.toNat % 128 * 2 ^ (7 * k)) then (0,0,false) else (((n+x.toNat % 128 * 2 ^ (7 * k):Nat):Int),((p+k+1:Nat):Int),true))
   else aMo b p f (k+1) (n+x.toNat % 128 * 2 ^ (7 * k))
theorem aUu{k:Nat}(h:k<6):2 ^ (7 * k)<=34359738368:=cFv (Nat.pow_le_pow_right (by decide) (show 7 * k<=35 by omega)) (by decide)
theorem bPj{n c k:Nat}(h:n<2 ^ (7 * k))(hc:c<128):n+c * 2 ^ (7 * k)<2 ^ (7 * (k+1)):=by
 have e:2 ^ (7 * (k+1))=128 * 2 ^ (7 * k):=by rw[show 7 * (k+1)=7 * k+7 by omega,Nat.pow_add];omega
 have :c * 2 ^ (7 * k)<=127 * 2 ^ (7 * k):=Nat.mul_le_mul_right _ (by omega);omega
theorem aWa{c k:Nat}(hk:k<6)(hc:c<128):c * 2 ^ (7 * k)<=4398046511104:=cFv (Nat.mul_le_mul (show c<=128 by omega) (aUu hk)) (by decide)
theorem bF3{S:Type}(b:List Int)(p:Nat)(hb:∀x∈b,0<=x/\x<=255)(enc:Nat->Nat->S){step:S->Option (S⊕(Unit⊕q29))}
  (h0:∀n,step (enc 6 n)=some (.inr (.inl ())))
  (h1:∀k n,k<6->b[p+k]? =none->step (enc k n)=some (.inr (.inl ()))\/step (enc k n)=some (.inr (.inr (0,0,false))))
  (h2:∀k n (m:Nat),k<6->n<2 ^ (7 * k)->m<=255->b[p+k]? =some (m:Int)->step (enc k n)=some (if m<128 then .inr (.inr (if (decide (m=0)&&decide (0<k))||decide (1000000000000<n+m % 128 * 2 ^ (7 * k)) then (0,0,false) else (((n+m % 128 * 2 ^ (7 * k):Nat):Int),((p+k+1:Nat):Int),true))) else .inl (enc (k+1) (n+m % 128 * 2 ^ (7 * k))))):
  ∀f k n,f+k=6->n<2 ^ (7 * k)-> @Option.bind (Unit⊕q29) q29 (aC step (enc k n)) (λz=>Sum.elim (λ_=>some ((0:Int),(0:Int),false)) some z)=some (aMo b p f k n):=by
 intro f
 induction f with
 | zero=>
  intro k n hk hn;have :k=6:=by omega
  subst this;rw[bA (h0 n)];rfl
 | succ f ih=>
  intro k n hk hn;have hk6:k<6:=by omega
  unfold aMo;cases hx:b[p+k]? with
  | none=>rcases h1 k n hk6 hx with h | h<;>rw[bA h]<;>rfl
  | some x=>
   obtain⟨x0,x1⟩:=hb x (cF9 hx);obtain⟨m,rfl⟩:∃m:Nat,x=(m:Int):=⟨x.toNat,by omega⟩
   have hs:=h2 k n m hk6 hn (by omega) hx;simp only[cF2]
   by_cases hm:m<128
   .rw[zT hm]at hs ⊢;rw[bA hs];rfl
   .rw[zS hm]at hs ⊢;rw[cQ hs];exact ih (k+1) _ (by omega) (bPj hn (Nat.mod_lt _ (by decide)))
theorem bFi{a c:Nat}(hc:c<=35)(h:a * 2 ^ c<=4398046511104):shl .i64 (a:Int) (c:Int)=((a * 2 ^ c:Nat):Int):=by
 unfold shl;have e:min ((c:Int)).toNat IntKind.i64.bits=c:=by simp[IntKind.bits];omega
 rw[e];have e2:(a:Int) * 2 ^ c=((a * 2 ^ c:Nat):Int):=by simp
 rw[e2];exact wri (by omega) (by omega)
theorem bXj{n c k:Nat}(hk:k<6)(hn:n<2 ^ (7 * k))(hc:c<128):bOr .i64 (n:Int) ((c * 2 ^ (7 * k):Nat):Int)=((n+c * 2 ^ (7 * k):Nat):Int):=by
 have hm:=aWa hk hc;have hp:=aUu hk;have e:(BitVec.ofInt 64 (n:Int) ||| BitVec.ofInt 64 ((c * 2 ^ (7 * k):Nat):Int)).toNat=n+c * 2 ^ (7 * k):=by
  rw[BitVec.toNat_or];have e1:(BitVec.ofInt 64 (n:Int)).toNat=n:=by simp;omega
  have e2:(BitVec.ofInt 64 ((c * 2 ^ (7 * k):Nat):Int)).toNat=c * 2 ^ (7 * k):=by
   generalize c * 2 ^ (7 * k)=q at hm;simp;omega
  rw[e1,e2,Nat.or_comm];have :=Nat.two_pow_add_eq_or_of_lt (i:=7 * k) (b:=n) hn c;rw[Nat.mul_comm c,<- this];omega
 unfold bOr;show IntKind.i64.wrap (((BitVec.ofInt 64 (n:Int) ||| BitVec.ofInt 64 ((c * 2 ^ (7 * k):Nat):Int)).toNat:Nat):Int)=_;rw[e];exact wri (by omega) (by omega)
theorem bAl{n:Nat}(h:n<256):IntKind.wrap .u64 (n:Int)=(n:Int):=by
 simp only[IntKind.wrap,IntKind.signed,IntKind.bits];simp;omega
def rv(b:List Int)(p:Nat):q29:=aMo b p 6 0 0
theorem aYb(k:Nat):(7:Int) * (k:Int)=((7 * k:Nat):Int):=by omega
theorem cEx{b:List Int}{p:Nat}(hb:∀x∈b,0<=x/\x<=255)(hl:b.length<=68719476736)(hp:p<=b.length):sG b (p:Int)=some (rv b p):=by
 unfold sG;have e0:decide ((p:Int)<0)=false:=by simp
 rw[e0,zY];refine bF3 b p hb (λk n=>(((p+k:Nat):Int),(n:Int),(k:Int))) (λn=>by simp) (λk n hk hx=> ?_) (λk n m hk hn hm hx=> ?_) 6 0 0 rfl (by simp)
 .left;have h1:decide (((p+k:Nat):Int)<(b.length:Int))=false:=by
   have :=List.getElem?_eq_none_iff.1 hx;simp;omega
  simp only[h1];cases decide ((k:Int)<6)<;>rfl
 .have h0:=(cFz.1 hx).1;have h1:decide (((p+k:Nat):Int)<(b.length:Int))=true:=by simp;omega
  have h2:decide ((k:Int)<6)=true:=by simp;omega
  have h3:idx b ((p+k:Nat):Int)=some (m:Int):=by rw[aN];exact hx
  have h4:wr ((7 * k:Nat):Int)=((7 * k:Nat):Int):=wri (by omega) (by omega);have h5:wr (m:Int)=(m:Int):=wri (by omega) (by omega);have h6:decide (((7 * k:Nat):Int)<0)=false:=by simp;omega
  have h7:cG0 (m:Int) 128=((m % 128:Nat):Int):=rfl;have hq:=aWa (c:=m % 128) hk (Nat.mod_lt _ (by decide));have hr:=aUu hk;have h8:wr ((n:Int)+((m % 128 * 2 ^ (7 * k):Nat):Int))=((n+m % 128 * 2 ^ (7 * k):Nat):Int):=by
   generalize m % 128 * 2 ^ (7 * k)=q at hq;have :wr ((n:Int)+(q:Int))=(n:Int)+(q:Int):=wri (by omega) (by omega);rw[this];omega
  have h9:wr (((p+k:Nat):Int)+1)=((p+k+1:Nat):Int):=by
   have :wr (((p+k:Nat):Int)+1)=((p+k:Nat):Int)+1:=wri (by omega) (by omega);rw[this];omega
  have ha:wr ((k:Int)+1)=((k+1:Nat):Int):=by
   have :wr ((k:Int)+1)=(k:Int)+1:=wri (by omega) (by omega);rw[this];omega
  simp only[h1,h2,h3,zZ,aA,aYb,h4,bAl (n:=7 * k) (by omega),h6,zY,h5,h7,bFi (a:=m % 128) (c:=7 * k) (by omega) hq,h8,h9,ha];generalize n+m % 128 * 2 ^ (7 * k)=q
  by_cases c1:m<128
  .have e1:decide ((m:Int)<128)=true:=by simp;omega
   have e2:((m:Int)==0)=decide (m=0):=by rw[cGl];simp
   have e3:decide ((k:Int)>0)=decide (0<k):=by rw[cGl];simp
   have e4:decide ((q:Int)>1000000000000)=decide (1000000000000<q):=by rw[cGl];simp;omega
   simp only[e1,e2,e3,e4,zZ,zT c1];cases decide (m=0)<;>cases decide (0<k)<;>cases decide (1000000000000<q)<;>rfl
  .have e1:decide ((m:Int)<128)=false:=by simp;omega
   simp only[e1,zY,zS c1];rfl
theorem cFp{b:List Int}{p:Nat}(hb:∀x∈b,0<=x/\x<=255)(hl:b.length<=68719476736)(hp:p<=b.length):sX b (p:Int)=some (rv b p):=by
 unfold sX;have e0:decide ((p:Int)<0)=false:=by simp
 refine bF3 b p hb (λk n=>((n:Int),(k:Int))) (λn=>by simp) (λk n hk hx=> ?_) (λk n m hk hn hm hx=> ?_) 6 0 0 rfl (by simp)
 .right;have hw:wr ((b.length:Int) - (k:Int))=(b.length:Int) - (k:Int):=wri (by omega) (by omega);have h1:decide ((p:Int)>=(b.length:Int) - (k:Int))=true:=by
   have :=List.getElem?_eq_none_iff.1 hx;simp;omega
  have h2:decide ((k:Int)<6)=true:=by simp;omega
  simp only[h2,e0,hw,h1,zZ,zY,aA]
 .have h0:=(cFz.1 hx).1;have hw:wr ((b.length:Int) - (k:Int))=(b.length:Int) - (k:Int):=wri (by omega) (by omega);have h1:decide ((p:Int)>=(b.length:Int) - (k:Int))=false:=by simp;omega
  have h2:decide ((k:Int)<6)=true:=by simp;omega
  have hpk:wr ((p:Int)+(k:Int))=((p+k:Nat):Int):=by
   have :wr ((p:Int)+(k:Int))=(p:Int)+(k:Int):=wri (by omega) (by omega);rw[this];omega
  have h3:idx b ((p+k:Nat):Int)=some (m:Int):=by rw[aN];exact hx
  have h4:wr ((7 * k:Nat):Int)=((7 * k:Nat):Int):=wri (by omega) (by omega);have h5:wr (m:Int)=(m:Int):=wri (by omega) (by omega);have h6:decide (((7 * k:Nat):Int)<0)=false:=by simp;omega
  have hq:=aWa (c:=m % 128) hk (Nat.mod_lt _ (by decide));have h9:wr (((p+k:Nat):Int)+1)=((p+k+1:Nat):Int):=by
   have :wr (((p+k:Nat):Int)+1)=((p+k:Nat):Int)+1:=wri (by omega) (by omega);rw[this];omega
  have ha:wr ((k:Int)+1)=((k+1:Nat):Int):=by
   have :wr ((k:Int)+1)=(k:Int)+1:=wri (by omega) (by omega);rw[this];omega
  simp only[h1,h2,hw,e0,hpk,h3,zZ,zY,aA,aYb,h4,h6,h5,bBh (n:=m) (by omega),bFi (a:=m % 128) (c:=7 * k) (by omega) hq,bXj (c:=m % 128) hk hn (Nat.mod_lt _ (by decide)),h9,ha];generalize n+m % 128 * 2 ^ (7 * k)=q
  by_cases c1:m<128
  .have e1:decide ((m:Int)<128)=true:=by simp;omega
   have e2:((m:Int)==0)=decide (m=0):=by rw[cGl];simp
   have e3:decide ((k:Int)>0)=decide (0<k):=by rw[cGl];simp
   have e4:decide ((q:Int)>1000000000000)=decide (1000000000000<q):=by rw[cGl];simp;omega
   simp only[e1,e2,e3,e4,zZ,zT c1];cases decide (m=0)<;>cases decide (0<k)<;>cases decide (1000000000000<q)<;>rfl
  .have e1:decide ((m:Int)<128)=false:=by simp;omega
   simp only[e1,zY,zS c1]
theorem bE2{b:List Int}{p:Nat}:∀(f k n:Nat),(aMo b p f k n).2.2=true-> ∃q:Nat,(aMo b p f k n).2.1=(q:Int)/\q<=b.length
 | 0,k,n,h=>by cases h
 | f+1,k,n,h=>by
  unfold aMo at h|-;cases hx:b[p+k]? with
  | none=>rw[hx]at h;cases h
  | some x=>
   rw[hx]at h;have hlt:=(cFz.1 hx).1;simp only at h|-
   by_cases c:x.toNat<128
   .rw[zT c]at h ⊢;split at h
    .cases h
    .rename_i c2;rw[zS c2];exact⟨p+k+1,rfl,hlt⟩
   .rw[zS c]at h ⊢;exact bE2 f (k+1) _ h
theorem bU7{b:List Int}{p:Nat}(h:(rv b p).2.2=true):∃q:Nat,(rv b p).2.1=(q:Int)/\q<=b.length:=bE2 6 0 0 h
def aKe(b:List Int):Int×Bool×List Int:=
 cond (rv b 0).2.2 (cond (rv b (rv b 0).2.1.toNat).2.2 (cond (rv b (rv b (rv b 0).2.1.toNat).2.1.toNat).2.2
  ((rv b (rv b (rv b 0).2.1.toNat).2.1.toNat).2.1,true,[(rv b 0).1,(rv b (rv b 0).2.1.toNat).1,(rv b (rv b (rv b 0).2.1.toNat).2.1.toNat).1]) (0,false,[])) (0,false,[])) (0,false,[])
theorem bGh(b:List Int):aKe b=(0,false,[])\/ ∃q x y z,aKe b=(q,true,[x,y,z]):=by
 unfold aKe;cases (rv b 0).2.2
 .exact .inl rfl
 .cases (rv b (rv b 0).2.1.toNat).2.2
  .exact .inl rfl
  .cases (rv b (rv b (rv b 0).2.1.toNat).2.1.toNat).2.2
   .exact .inl rfl
   .exact .inr ⟨_,_,_,_,rfl⟩
theorem bAi{b:List Int}{step:Int×Int×List Int->Option ((Int×Int×List Int)⊕((Int×List Int)⊕(Int×Bool×List Int)))}
  (hs:∀(p:Nat) (i:Nat) (out:List Int),p<=b.length->i<3->out.length<=3->step ((p:Int),(i:Int),out)=some (cond (rv b p).2.2 (.inl ((rv b p).2.1,((i+1:Nat):Int),out++[(rv b p).1])) (.inr (.inr (0,false,[])))))
  (he:∀p out,step (p,3,out)=some (.inr (.inl (p,out)))):
  @Option.bind ((Int×List Int)⊕(Int×Bool×List Int)) (Int×Bool×List Int) (aC step ((0:Int),(0:Int),([]:List Int))) (λz=>Sum.elim (λs8=>some (s8.1,true,s8.2)) some z)=some (aKe b):=by
 have h1:=hs 0 0 [] (cGe _) (by decide) (by decide);unfold aKe;cases c1:(rv b 0).2.2 with
 | false=>rw[c1]at h1;rw[bA (s:=((0:Int),(0:Int),([]:List Int))) h1];rfl
 | true=>
  rw[c1]at h1;obtain⟨q1,e1,l1⟩:=bU7 c1;rw[cQ (s:=((0:Int),(0:Int),([]:List Int))) h1];rw[e1];simp only[zZ,cF2];have h2:=hs q1 (0+1) ([]++[(rv b 0).1]) l1 (by decide) (by simp);cases c2:(rv b q1).2.2 with
  | false=>rw[c2]at h2;rw[bA h2];rfl
  | true=>
   rw[c2]at h2;obtain⟨q2,e2,l2⟩:=bU7 c2;rw[cQ h2];rw[e2];simp only[zZ,cF2];have h3:=hs q2 (0+1+1) ([]++[(rv b 0).1]++[(rv b q1).1]) l2 (by decide) (by simp);cases c3:(rv b q2).2.2 with
   | false=>rw[c3]at h3;rw[bA h3];rfl
   | true=>
    rw[c3]at h3;rw[cQ h3];rw[bA (s:=((rv b q2).2.1,((0+1+1+1:Nat):Int),[]++[(rv b 0).1]++[(rv b q1).1]++[(rv b q2).1])) (he _ _)];rfl
theorem cA2{b:List Int}(hb:∀x∈b,0<=x/\x<=255)(hl:b.length<=68719476736):sL b 0 3=some (aKe b):=by
 unfold sL;have r1:inR 3 0 100=true:=by decide
 have r2:inR 0 0 (b.length:Int)=true:=by rw[aV];omega
 simp only[lR,aA,r1,r2,cF0,zY];refine bAi (λp i out hp hi ho=> ?_) (λp out=>by simp);have e1:decide ((i:Int)<3)=true:=by simp;omega
 have e2:wr ((i:Int)+1)=((i+1:Nat):Int):=by
  have :wr ((i:Int)+1)=(i:Int)+1:=wri (by omega) (by omega);rw[this];omega
 simp only[e1,zZ,cEx hb hl hp,aA,e2,aE (b:=8) (n:=out.length) (m:=1) (by decide) (by omega)];cases (rv b p).2.2<;>rfl
theorem cBl{b:List Int}(hb:∀x∈b,0<=x/\x<=255)(hl:b.length<=68719476736):sT b 0 3=some (aKe b):=by
 unfold sT;have r1:inR 3 0 100=true:=by decide
 have r2:inR 0 0 (b.length:Int)=true:=by rw[aV];omega
 simp only[jU,aA,r1,r2,cF0,zY];refine bAi (λp i out hp hi ho=> ?_) (λp out=>by simp);have e1:decide ((i:Int)<3)=true:=by simp;omega
 have e2:wr ((i:Int)+1)=((i+1:Nat):Int):=by
  have :wr ((i:Int)+1)=(i:Int)+1:=wri (by omega) (by omega);rw[this];omega
 simp only[e1,zZ,cFp hb hl hp,aA,e2,aE (b:=8) (n:=out.length) (m:=1) (by decide) (by omega)];cases (rv b p).2.2<;>rfl
def qW(b:List Int):Int×q29:=
 match aKe b with
 | (q,true,[x,y,z])=>cond (q==(b.length:Int)) (cond (dO (x,y,z)) (x,y,z,true) (0,0,0,false)) (0,0,0,false)
 | _=>(0,0,0,false)
theorem bZ8{b:List Int}(hb:∀x∈b,0<=x/\x<=255)(hl:b.length<=68719476736):jR b=some (qW b):=by
 unfold jR qW ixb;rw[cA2 hb hl];rcases bGh b with h | ⟨q,x,y,z,h⟩
 .rw[h];rfl
 .rw[h];simp only[aA,cF0,zY,bne,aE5];cases q==(b.length:Int)
  .rfl
  .cases hv:dO (x,y,z)<;>simp[hv]
theorem cBa{b:List Int}(hb:∀x∈b,0<=x/\x<=255)(hl:b.length<=68719476736):jI b=some (qW b):=by
 unfold jI qW ixb;rw[cBl hb hl];rcases bGh b with h | ⟨q,x,y,z,h⟩
 .rw[h];rfl
 .rw[h];simp only[aA,cF0,zY,bne,aFh];cases q==(b.length:Int)
  .rfl
  .cases hv:dO (x,y,z)<;>simp[hv]
def aB1(x:den tRv)(l:lRv)(k:Nat)(y:den tRv):Option lRv:=
 cond (y.1==x.1) (cond (y.2.1==x.2.1) (some (l.set k (y.1,y.2.1,if x.2.2>y.2.2 then x.2.2 else y.2.2))) none) none
def aLd(l:lRv)(x:den tRv):lRv:=
 cond (dO x) (match bW (aB1 x l) 0 l with
  | some r=>r
  | none=>if 16<l.length+1 then (l++[x]).drop 1 else l++[x]) l
theorem bFd{α:Type}{l:List α}(h:0<l.length):cut l (1:Int) (l.length:Int)=l.drop 1:=bC1 (k:=1) h
theorem aZw(l:lRv)(x:den tRv):decide (((l++[x]).length:Int)>16)=decide (16<l.length+1):=by
 rw[cGl];simp;omega
theorem bZr{l:lRv}{x:den tRv}(h:l.length<=1073741824):nO l x=some (aLd l x):=by
 unfold nO aLd ixb pj3;rw[aVl (show l.length<=68719476736 by omega)];simp only[aA,aP,aE5];cases hv:dO x with
 | false=>rfl
 | true=>
  simp only[cF0,zY,zZ];rw[aY (l:=l) (aB1 x l) (by omega) (λk y hi hd hw hm hk=>by
   have hy:l[k]? =some y:=by rw[<- aN];exact hi
   simp only[hd,zZ,cU,cF2,hy,aA,bKx,hw];unfold aB1;cases y.1==x.1
   .rfl
   .cases y.2.1==x.2.1<;>rfl) (by simp)]
  cases bW (aB1 x l) 0 l with
  | some r=>rfl
  | none=>
   have e1:cJ (1:Int) ((l++[x]).length:Int) ((l++[x]).length:Int)=true:=by
    have :=aE1 (a:=1) (b:=(l++[x]).length) (n:=(l++[x]).length);rw[show ((1:Nat):Int)=1 from rfl]at this;rw[this];simp
   have e2:=bFd (l:=l++[x]) (by simp);simp only[aA,cG6,aE (b:=24) (n:=l.length) (m:=1) (by decide) (by omega),zZ,aZw,e1,e2,aVl (l:=(l++[x]).drop 1) (by simp;omega)]
   by_cases c:16<l.length+1
   .have c2:(16:Int)<(l.length:Int)+1:=by omega
    simp[c,c2]
   .have c2: ¬ (16:Int)<(l.length:Int)+1:=by omega
    simp[c,c2]
theorem cA3{l:lRv}{x:den tRv}(h:l.length<=1073741824):nJ l x=some (aLd l x):=by
 unfold nJ aLd ixb pj3;rw[aE (b:=24) (n:=([]:lRv).length) (by decide) (by simp;omega)];simp only[zZ,aA,aP,aFh,cGk];cases hv:dO x with
 | false=>rfl
 | true=>
  simp only[cF0,zY,zZ];rw[aY (l:=l) (aB1 x l) (by omega) (λk y hi hd hw hm hk=>by
   have hy:l[k]? =some y:=by rw[<- aN];exact hi
   have hk2:decide (k<l.length)=true:=by simpa using hk
   simp only[hd,zZ,cU,cF2,hy,aA,bI2,hw,hk2];unfold aB1;cases y.1==x.1
   .rfl
   .cases y.2.1==x.2.1<;>rfl) (by simp)]
  cases bW (aB1 x l) 0 l with
  | some r=>rfl
  | none=>
   have e1:cJ (1:Int) ((l++[x]).length:Int) ((l++[x]).length:Int)=true:=by
    have :=aE1 (a:=1) (b:=(l++[x]).length) (n:=(l++[x]).length);rw[show ((1:Nat):Int)=1 from rfl]at this;rw[this];simp
   have e2:=bFd (l:=l++[x]) (by simp);simp only[aA,cG6,aE (b:=24) (n:=l.length) (m:=1) (by decide) (by omega),zZ,aZw,e1,e2]
   by_cases c:16<l.length+1
   .have c2:(16:Int)<(l.length:Int)+1:=by omega
    simp[c,c2]
   .have c2: ¬ (16:Int)<(l.length:Int)+1:=by omega
    simp[c,c2]
def aIe(s:den mY)(a:List Int):List Int:=
 (λb=>cond (s.2.2 != 0) (b++[wr (wr (8 * s.1)+s.2.2)]) b) (cond (s.2.1 != 0) (a++[wr (wr (8 * s.1)+s.2.1)]) a)
theorem aRn(s:den mY)(a:List Int):(aIe s a).length<=a.length+2:=by
 unfold aIe;cases s.2.1 != 0<;>cases s.2.2 != 0<;>simp
def fG(p:den tPt):List Int:=bO (λ_ s a=>aIe s a) 0 (fD p) []
theorem aHv{α:Type}(l:List α):(l.map λ_=>2).sum=2 * l.length:=by
 induction l with
 | nil=>rfl
 | cons x l ih=>simp only[cGg,cHg,ih,cGv];omega
theorem bD9{p:den tPt}(h:tot tPt p<=1073741824):hO p=some (fG p):=by
 have hl:=aDj p;unfold hO zO fG;rw[aU8 (cFv h (by decide))];simp only[aA];rw[lJ (λk (a:List Int)=>((k:Int),a)) ((0:Int),[]) [] (fD p) (λ_ s a=>aIe s a) cGd (λ_=>2) 68719476736 id rfl (by omega) (by rw[aHv];simp;omega) (λk x a=>aRn x a) (λk x a hi hx hd hw hk hb=>by
  simp only[hd,hi,hw,zZ,aA,aE (b:=8) (n:=a.length) (m:=1) (by decide) (by omega)];unfold aIe;cases x.2.1 != 0<;>cases x.2.2 != 0<;>simp[aE (b:=8) (n:=a.length) (m:=1) (by decide) (by omega),aE (b:=8) (n:=a.length+1) (m:=1) (by decide) (by omega)]) (λa=>by simp)]
 rfl
theorem bE9{p:den tPt}(h:tot tPt p<=1073741824):gZ p=some (fG p):=by
 have hl:=aDj p;unfold gZ fG ixb;rw[aHt (cFv h (by decide))];simp only[aA];rw[lJ (λk (a:List Int)=>((k:Int),a)) ((0:Int),[]) [] (fD p) (λ_ s a=>aIe s a) cGd (λ_=>2) 68719476736 id rfl (by omega) (by rw[aHv];simp;omega) (λk x a=>aRn x a) (λk x a hi hx hd hw hk hb=>by
  simp only[hd,hx,hw,zZ,aA,cU,cF2,aE (b:=8) (n:=a.length) (m:=1) (by decide) (by omega)];unfold aIe;cases x.2.1 != 0<;>cases x.2.2 != 0<;>simp[aE (b:=8) (n:=a.length) (m:=1) (by decide) (by omega),aE (b:=8) (n:=a.length+1) (m:=1) (by decide) (by omega)]) (λa=>by simp)]
 rfl
def pF(l:List Int)(n:Int):Bool:= !(l.all λx=> !(x==n))
theorem aOn{l:List Int}{n:Int}(h:l.length<=68719476736):oM l n=some (pF l n):=by
 unfold oM pF;rw[aY (l:=l) (λ_ x=>if !(x==n) then none else some true) (by omega) (λk x hi hd hw hm hk=>by
  simp only[hd,hi,hw,zZ,aA];cases x==n<;>rfl) (by simp),nD (λx:Int=> !(x==n))]
 cases l.all (λx=> !(x==n))<;>rfl
theorem aH2{l:List Int}{n:Int}(h:l.length<=68719476736):gJ l n=some (pF l n):=by
 unfold gJ pF;rw[aY (l:=l) (λ_ x=>if !(x==n) then none else some true) (by omega) (λk x hi hd hw hm hk=>by
  simp only[hd,hi,hw,zZ,aA];cases x==n<;>rfl) (by simp),nD (λx:Int=> !(x==n))]
 cases l.all (λx=> !(x==n))<;>rfl
theorem aJa(p:den tPt):(fG p).length<=2 * tot tPt p:=by
 have h:=aDp (f:=λ_ s (a:List Int)=>aIe s a) (m:=cGd) (cost:=λ_=>2) (λk x a=>aRn x a) (fD p) 0 [];have hl:=aDj p;rw[aHv]at h;unfold fG;simp at h;omega
def oZ(p:den tPt)(x:den tRv):Bool:=dO x&&pF (fG p) (wr (wr (8 * x.1)+x.2.1))
theorem bMe{p:den tPt}{x:den tRv}(h:tot tPt p<=1073741824):sH p x=some (oZ p x):=by
 have :=aJa p;unfold sH oZ pj3;simp only[aP,aE5,aA,bD9 h,aOn (l:=fG p) (by omega)];cases dO x<;>rfl
theorem aWm{p:den tPt}{x:den tRv}(h:tot tPt p<=1073741824):sQ p x=some (oZ p x):=by
 have :=aJa p;unfold sQ oZ pj3;simp only[aP,aFh,aA,bE9 h,aH2 (l:=fG p) (by omega)];cases dO x<;>rfl
theorem aNw{α R:Type}(m:R->Nat)(B:Nat){g:Nat->α->Option R}:∀{l:List α} {k:Nat},(∀j x r,l[j]? =some x->g (k+j) x=some r->m r<=B)-> ∀r,bW g k l=some r->m r<=B
 | [],_,_,r,h=>by cases h
 | x::xs,k,hg,r,h=>by
  simp only[bW]at h;cases hx:g k x with
  | some r'=>rw[hx]at h;injection h with h;subst h;exact hg 0 x r' rfl hx
  | none=>
   rw[hx]at h;exact aNw m B (λj y r hy hr=>hg (j+1) y r (by simpa using hy) (by rw[show k+(j+1)=k+1+j by omega];exact hr)) r h
theorem bN8(l:lRv):tot (.sl tRv) l=l.length:=by
 induction l with
 | nil=>rfl
 | cons x l ih=>rw[kW,ih];simp[tot];omega
theorem bTw(l:lRv)(x:den tRv):tot (.sl tRv) (aLd l x)<=l.length+1:=by
 rw[bN8];unfold aLd;cases dO x with
 | false=>simp
 | true=>
  simp only[zZ];cases hs:bW (aB1 x l) 0 l with
  | some r=>
   refine aNw cGd (l.length+1) (g:=aB1 x l) (l:=l) (k:=0) (λj y r' hy hr=> ?_) r hs;unfold aB1 at hr;cases c1:y.1==x.1 with
   | false=>rw[c1]at hr;cases hr
   | true=>
    cases c2:y.2.1==x.2.1 with
    | false=>rw[c1,c2]at hr;cases hr
    | true=>rw[c1,c2]at hr;injection hr with hr;rw[<- hr];simp
  | none=>
   by_cases c:16<l.length+1
   .simp[c]
   .simp[c]
def aMx(f:den tFl)(x:den tRv):Bool:=inR f.2.2.2.2.2.2.1 0 ((f.2.2.2.2.2.1.length:Int) - 1)&&oZ ((f.2.2.2.2.2.1[f.2.2.2.2.2.2.1.toNat]?).getD []) x
def tP(b:List Int):den tRv:=((qW b).1,(qW b).2.1,(qW b).2.2.1)
def iY(f:den tFl)(p:den tPk):den tFl:=
 cond (p.1==3&&(qW p.2.2.2.2.2.2.2.2.2).2.2.2)
  (f.1,f.2.1,f.2.2.1,f.2.2.2.1,f.2.2.2.2.1,f.2.2.2.2.2.1,cond (aMx f (tP p.2.2.2.2.2.2.2.2.2)) (lN f) f.2.2.2.2.2.2.1,cond (aMx f (tP p.2.2.2.2.2.2.2.2.2)) 0 f.2.2.2.2.2.2.2.1,aLd f.2.2.2.2.2.2.2.2 (tP p.2.2.2.2.2.2.2.2.2)) f
def cDr(f:den tFl):q39:=(f.1,f.2.1,f.2.2.1,f.2.2.2.1,f.2.2.2.2.2.2.1,f.2.2.2.2.2.2.2.1,f.2.2.2.2.2.2.2.2,f.2.2.2.2.1,f.2.2.2.2.2.1)
theorem bGr{f:den tFl}(h:tot tFl f<=1073741824)(hr:inR f.2.2.2.2.2.2.1 0 ((f.2.2.2.2.2.1.length:Int) - 1)=true):∃q,f.2.2.2.2.2.1[f.2.2.2.2.2.2.1.toNat]? =some q/\idx f.2.2.2.2.2.1 f.2.2.2.2.2.2.1=some q/\tot tPt q<=1073741824:=by
 obtain⟨h0,h1⟩:=aV.1 hr;obtain⟨q,hq⟩:=aBv h0 h1;have ht:=aAu (t:=tPt) hq;have hp:tot (.sl tPt) f.2.2.2.2.2.1<=1073741824:=xS (aT (aT (aT (aT (aT h)))));exact⟨q,hq,aKu h0 hq,by omega⟩
theorem bY4{f:den tFl}{p:den tPk}{now:Int}(h:tot tFl f<=1073741824)(hp:tot tPk p<=1073741824)(hb:∀x∈p.2.2.2.2.2.2.2.2.2,0<=x/\x<=255):jL f p now=some (pW (iY f p)):=by
 have hf:SmB 68719476736 tFl f:=(bM h).mono (by decide);have hl:p.2.2.2.2.2.2.2.2.2.length<=68719476736:=cFv (dX (t:=tb) _) (cFv (aT (aT (aT (aT (aT (aT (aT (aT (aT hp))))))))) (by decide));have hv:f.2.2.2.2.2.2.2.2.length<=1073741824:=cFv (dX (t:=tRv) _) (aT (aT (aT (aT (aT (aT (aT (aT h))))))));have hn:f.2.2.2.2.2.1.length<=68719476736:=hf.2.2.2.2.2.1.1;unfold jL iY pj9 zz4 zz5 zz6 zz7 zz8 zz9;simp only[aP,aKi hf,aA,bZ8 hb hl,lR,nZ hn,bF4,bZr hv,bne];cases c1:p.1==3
 .simp only[cGa,zZ,aA,cGi,zY]
 .cases c2:(qW p.2.2.2.2.2.2.2.2.2).2.2.2
  .simp only[cF0,cGa,zZ,zY,aA,cGf]
  .simp only[cF0,zZ,zY,aA,cGf];unfold aMx;cases c3:inR f.2.2.2.2.2.2.1 0 ((f.2.2.2.2.2.1.length:Int) - 1)
   .simp only[zY,aA,cGi];rfl
   .obtain⟨q,hq,hi,ht⟩:=bGr h c3;have ha:=bMe (p:=q) (x:=tP p.2.2.2.2.2.2.2.2.2) ht;have ha:sH q ((qW p.2.2.2.2.2.2.2.2.2).1,(qW p.2.2.2.2.2.2.2.2.2).2.1,(qW p.2.2.2.2.2.2.2.2.2).2.2.1)=some (oZ q (tP p.2.2.2.2.2.2.2.2.2)):=ha;simp only[zZ,hi,hq,cGy,aA,ha,cGf];cases oZ q (tP p.2.2.2.2.2.2.2.2.2)<;>rfl
theorem bXn{f:den tFl}{p:den tPk}{now:Int}(h:tot tFl f<=1073741824)(hp:tot tPk p<=1073741824)(hb:∀x∈p.2.2.2.2.2.2.2.2.2,0<=x/\x<=255):jK f p now=some (cDr (iY f p)):=by
 have hf:SmB 68719476736 tFl f:=(bM h).mono (by decide);have hl:p.2.2.2.2.2.2.2.2.2.length<=68719476736:=cFv (dX (t:=tb) _) (cFv (aT (aT (aT (aT (aT (aT (aT (aT (aT hp))))))))) (by decide));have hv:f.2.2.2.2.2.2.2.2.length<=1073741824:=cFv (dX (t:=tRv) _) (aT (aT (aT (aT (aT (aT (aT (aT h))))))));have hn:f.2.2.2.2.2.1.length<=68719476736:=hf.2.2.2.2.2.1.1;unfold jK iY pj3 pj9 zz4 zz5 zz6 zz7 zz8 zz9;simp only[aP,aEw hf,aA,cBa hb hl,jU,nZ hn,cA3 hv,bne];cases c1:p.1==3
 .simp only[cGa,zZ,aA,cGi,zY];rfl
 .cases c2:(qW p.2.2.2.2.2.2.2.2.2).2.2.2
  .simp only[cF0,cGa,zZ,zY,aA,cGf];rfl
  .simp only[cF0,zZ,zY,aA,cGf];unfold aMx;cases c3:inR f.2.2.2.2.2.2.1 0 ((f.2.2.2.2.2.1.length:Int) - 1)
   .simp only[zY,aA,cGi];rfl
   .obtain⟨q,hq,hi,ht⟩:=bGr h c3;have ha:=aWm (p:=q) (x:=tP p.2.2.2.2.2.2.2.2.2) ht;have ha:sQ q ((qW p.2.2.2.2.2.2.2.2.2).1,(qW p.2.2.2.2.2.2.2.2.2).2.1,(qW p.2.2.2.2.2.2.2.2.2).2.2.1)=some (oZ q (tP p.2.2.2.2.2.2.2.2.2)):=ha;simp only[zZ,hi,hq,cGy,aA,ha,cGf,bL3 hf c3];cases oZ q (tP p.2.2.2.2.2.2.2.2.2)<;>rfl
theorem bMu(f:den tFl)(p:den tPk):tot tFl (iY f p)<=tot tFl f+1:=by
 unfold iY;cases (p.1==3&&(qW p.2.2.2.2.2.2.2.2.2).2.2.2)
 .simp
 .have h1:=bTw f.2.2.2.2.2.2.2.2 (tP p.2.2.2.2.2.2.2.2.2);have h2:=bN8 f.2.2.2.2.2.2.2.2;simp only[zZ,oO,qC];omega
def jZ(h:den bV):Bool:=inR h.1 0 7&&(inR h.2.1 0 6&&(inR h.2.2.1 0 6&&(!(h.2.1==h.2.2.1)&&(inR h.2.2.2.1 0 1000000&&lO h.2.2.2.2))))
theorem aQv(h:den bV):oJ h=some (jZ h):=by
 unfold oJ jZ zz4;simp only[lR,aHx,aA,bne];cases inR h.1 0 7<;>cases inR h.2.1 0 6<;>cases inR h.2.2.1 0 6<;>cases h.2.1==h.2.2.1<;>cases inR h.2.2.2.1 0 1000000<;>rfl
theorem aM6(h:den bV):lE h=some (jZ h):=by
 unfold lE jZ zz4;simp only[jU,aEs,aA,bne];cases inR h.1 0 7<;>cases inR h.2.1 0 6<;>cases inR h.2.2.1 0 6<;>cases h.2.1==h.2.2.1<;>cases inR h.2.2.2.1 0 1000000<;>rfl
theorem aSz(n k:Nat):decide ((n:Int)>(k:Int))= !decide (n<=k):=by rw[cGl];simp
def aGt(l:cR):Bool:=decide (l.length<=8)&&l.all jZ
theorem bXg{l:cR}(h:l.length<=68719476736):nC l=some (aGt l):=by
 unfold nC aGt pj5;rw[aY (l:=l) (λ_ x=>if jZ x then none else some false) (by omega) (λk x hi hd hw hm hk=>by
  simp only[hd,hi,hw,zZ,aA,aP,aQv];cases jZ x<;>rfl) (by simp),nD jZ]
 have e:=aSz l.length 8;rw[show ((8:Nat):Int)=8 from rfl]at e;rw[e];cases decide (l.length<=8)<;>cases l.all jZ<;>rfl
def aB4(p:den tPp):Bool:=inR p.1 1 4&&(inR p.2.1 0 1000000&&(lO p.2.2.1&&aGt p.2.2.2))
theorem cB2{p:den tSg}(h:p.2.2.length<=68719476736):uS p=some (inR p.1 0 1000000&&(lO p.2.1&&aGt p.2.2)):=by
 unfold uS aGt pj5;rw[aY (l:=p.2.2) (λ_ x=>if jZ x then none else some false) (by omega) (λk x hi hd hw hm hk=>by
  simp only[hd,hi,hw,zZ,aA,aP,aM6];cases jZ x<;>rfl) (by simp),nD jZ]
 have e:=aSz p.2.2.length 8;rw[show ((8:Nat):Int)=8 from rfl]at e;rw[e,jU,aEs];cases inR p.1 0 1000000<;>cases lO p.2.1<;>cases decide (p.2.2.length<=8)<;>cases p.2.2.all jZ<;>rfl
def aH4(p:den tPt):Bool:=decide (p.length<=3)&&p.all aB4
theorem cBb{p:den tPt}(h:SmB 68719476736 tPt p):nI p=some (aH4 p):=by
 unfold nI aH4;rw[aY (l:=p) (λ_ x=>if aB4 x then none else some false) (cFv h.1 (by decide)) (λk x hi hd hw hm hk=>by
  have hx:=(h.2 x hm).2.2.2.1;simp only[hd,hi,hw,zZ,aA,aP,lR,aHx,bXg hx];unfold aB4;cases inR x.1 1 4<;>cases inR x.2.1 0 1000000<;>cases lO x.2.2.1<;>cases aGt x.2.2.2<;>rfl) (by simp),nD aB4]
 have e:=aSz p.length 3;rw[show ((3:Nat):Int)=3 from rfl]at e;rw[e];cases decide (p.length<=3)<;>cases p.all aB4<;>rfl
theorem cBm{p:den tPt}(h:SmB 68719476736 tPt p):nM p=some (aH4 p):=by
 unfold nM aH4 pj3;rw[aY (l:=p) (λ_ x=>if aB4 x then none else some false) (cFv h.1 (by decide)) (λk x hi hd hw hm hk=>by
  have hx:=(h.2 x hm).2.2.2.1;have hs:=cB2 (p:=(x.2.1,x.2.2.1,x.2.2.2)) hx;simp only[hd,hi,hw,zZ,aA,aP,jU];simp only[aP]at hs;simp only[hs,aA];unfold aB4;cases inR x.1 1 4<;>cases inR x.2.1 0 1000000<;>cases lO x.2.2.1<;>cases aGt x.2.2.2<;>rfl) (by simp),nD aB4]
 have e:=aSz p.length 3;rw[show ((3:Nat):Int)=3 from rfl]at e;rw[e];cases decide (p.length<=3)<;>cases p.all aB4<;>rfl
def aA0(x:den tPp):Bool:= !((x.2.2.2.length:Int)==0)
def dD(p:den tPk):Bool:=inR p.1 1 3&&(aH4 p.2.2.2.1&&(cI p&&(lO p.2.2.2.2.2.2.1&&(p.2.2.2.1.all aA0&&(inR p.2.1 0 7&&(inR p.2.2.1 0 7&&(inR p.2.2.2.2.2.2.2.1 0 100000&&(inR p.2.2.2.2.2.2.2.2.1 0 100000&&decide ((p.2.2.2.2.2.2.2.2.2.length:Int)<=40)))))))))
theorem bZq{p:den tPk}(h:aH4 p.2.2.2.1=true):decide (cA p<0)= !cI p:=by
 cases c:cI p with
 | false=>rw[aBu c];rfl
 | true=>
  obtain⟨i,j,x,y,h1,h2,h3,h4,h5⟩:=aEn c;rw[h5];unfold aH4 at h;have ha:=(cFw _ _▸h:_/\_).2;have hx:=cGm.1 ha x (cF9 h3);unfold aB4 aGt at hx;simp only[cFw]at hx;have hy:=cGm.1 hx.2.2.2.2 y (cF9 h4);unfold jZ at hy;simp only[cFw,aV]at hy;have :=hy.1.1;simp;omega
theorem bS8{p:den tPk}(h:SmB 68719476736 tPk p):qJ p=some (dD p):=by
 unfold qJ dD aL zz6 zz7 zz8 zz9;rw[aY (l:=p.2.2.2.1) (λ_ x=>if aA0 x then none else some false) (cFv h.2.2.2.1.1 (by decide)) (λk x hi hd hw hm hk=>by
  simp only[hd,hi,hw,zZ,aA];unfold aA0;cases (x.2.2.2.length:Int)==0<;>rfl) (by simp),nD aA0]
 simp only[lR,aP,aFf h,cBb h.2.2.2.1,aHx,aA];cases inR p.1 1 3
 .rfl
 .cases he:aH4 p.2.2.2.1
  .rfl
  .rw[bZq he];cases hz:(p.2.2.2.1.length:Int)==0
   .cases cI p<;>simp only[cF0,cGa,zZ,zY,aA,cGi,cGf];cases lO p.2.2.2.2.2.2.1<;>simp only[cF0,cGa,zZ,zY,aA,cGi,cGf];cases p.2.2.2.1.all aA0<;>cases inR p.2.1 0 7<;>cases inR p.2.2.1 0 7<;>cases inR p.2.2.2.2.2.2.2.1 0 100000<;>cases inR p.2.2.2.2.2.2.2.2.1 0 100000<;>rfl
   .have hh:cI p=false:=by
     have hl:(p.2.2.2.1.length:Int)=0:=by simpa using hz
     unfold cI;have :inR p.2.2.2.2.1 0 ((p.2.2.2.1.length:Int) - 1)=false:=by rw[bEg];omega
     rw[this];rfl
    rw[hh];rfl
theorem bBf{p:den tPk}(h:SmB 68719476736 tPk p):kD p=some (dD p):=by
 have l1:=h.2.2.2.1.1;unfold kD dD zz4 zz5 zz6 zz7 zz8 zz9;rw[aY (l:=p.2.2.2.1) (λ_ x=>if aA0 x then none else some false) (cFv h.2.2.2.1.1 (by decide)) (λk x hi hd hw hm hk=>by
  simp only[hd,hi,hw,zZ,aA];unfold aA0;cases (x.2.2.2.length:Int)==0<;>rfl) (by simp),nD aA0]
 simp only[jU,nZ l1,cBm h.2.2.2.1,aEs,aA];unfold cI;cases inR p.1 1 3
 .rfl
 .cases he:aH4 p.2.2.2.1
  .rfl
  .cases c1:inR p.2.2.2.2.1 0 ((p.2.2.2.1.length:Int) - 1)
   .rfl
   .rw[aV]at c1;obtain⟨x,hx⟩:=aBv c1.1 c1.2;have l2:=(h.2.2.2.1.2 _ (cF9 hx)).2.2.2.1;rw[aKu c1.1 hx,hx];simp only[cF0,zY,aA,cGy,nZ l2,cGf];cases lO p.2.2.2.2.2.2.1<;>cases inR p.2.2.2.2.2.1 0 ((x.2.2.2.length:Int) - 1)<;>cases p.2.2.2.1.all aA0<;>cases inR p.2.1 0 7<;>cases inR p.2.2.1 0 7<;>cases inR p.2.2.2.2.2.2.2.1 0 100000<;>cases inR p.2.2.2.2.2.2.2.2.1 0 100000<;>rfl
def aCb(a b:Int)(f:den tFl):Bool:=(f.1==a&&f.2.1==b)||(f.1==b&&f.2.1==a)
def wF(e:den gA):den tPk:=e.2.2.2.2.2
noncomputable def harm(w:den tNw)(e:den gA):Bool:=
 cond (!(e.1==7)||(!dD (wF e)||(wF e).1==3)) true (cond (w.2.2.2.2.2.1.all λx=> !aCz x.2.2 (wF e)) (w.2.2.2.2.2.2.1.all λf=> !aCb (wF e).2.1 (wF e).2.2.1 f) true)
theorem bPu{w:den tNw}{a b:Int}(hw:SmB 68719476736 tNw w):pN w a b=some (!(w.2.2.2.2.2.2.1.all λf=> !aCb a b f)):=by
 unfold pN zz6;rw[aY (l:=w.2.2.2.2.2.2.1) (λ_ f=>if !aCb a b f then none else some true) (cFv hw.2.2.2.2.2.2.1.1 (by decide)) (λk x hi hd hw hm hk=>by
  simp only[hd,hi,hw,zZ,aA];unfold aCb;cases x.1==a<;>cases x.2.1==b<;>cases x.1==b<;>cases x.2.1==a<;>rfl) (by simp),nD (λf:den tFl=> !aCb a b f)]
 cases w.2.2.2.2.2.2.1.all (λf=> !aCb a b f)<;>rfl
theorem cAj{w:den tNw}{e:den gA}(hw:SmB 68719476736 tNw w)(he:SmB 68719476736 gA e):rK w e=some (harm w e):=by
 have hp:SmB 68719476736 tPk (wF e):=he.2.2.2.2.2;unfold rK harm aL dT zz5 zz6 zz7;rw[aY (l:=w.2.2.2.2.2.1) (λ_ x=>if !aCz x.2.2 (wF e) then none else some true) (cFv hw.2.2.2.2.2.1.1 (by decide)) (λk x hi hd hw2 hm hk=>by
  have hs:mW x.2.2 e.2.2.2.2.2=some (aCz x.2.2 (wF e)):=bX4 (hw.2.2.2.2.2.1.2 x hm).2.2 hp;simp only[hd,hi,hw2,zZ,aA,aP,hs];cases aCz x.2.2 (wF e)<;>rfl) (by simp),nD (λx:den tFy=> !aCz x.2.2 (wF e))]
 have hv:kD e.2.2.2.2.2=some (dD (wF e)):=bBf hp;have hf:pN w e.2.2.2.2.2.2.1 e.2.2.2.2.2.2.2.1=some (!(w.2.2.2.2.2.2.1.all λf=> !aCb (wF e).2.1 (wF e).2.2.1 f)):=bPu hw;simp only[aP,hv,hf,aA,bne];show @Option.bind Bool Bool (cond (!(e.1==7)) (some true) (cond (!dD (wF e)) (some true) (cond ((wF e).1==3) (some true) _))) _=_;cases e.1==7
 .rfl
 .cases dD (wF e)
  .rfl
  .cases (wF e).1==3
   .cases w.2.2.2.2.2.1.all (λx=> !aCz x.2.2 (wF e))<;>cases w.2.2.2.2.2.2.1.all (λf=> !aCb (wF e).2.1 (wF e).2.2.1 f)<;>rfl
   .rfl
abbrev vJ(l:lRs)(now:Int):lRs:=l.filter λx=>decide (now<=x.2.2.2.2)
theorem bQo{l:lRs}{now:Int}(h:l.length<=1073741824):gL l now=some (vJ l now):=by
 unfold gL pj5 zz4;rw[(aOm (l:=l) (out:=λa=>a) (λ(a:lRs) x=>if decide (now<=x.2.2.2.2) then a++[x] else a) (λk a=>a.length<=k) (by omega) (by simp) (λk x a hi hd hw hx hk hI=>by
  simp only[hd,hi,hw,zZ,aA]
  by_cases hp:now<=x.2.2.2.2
  .simp[hp,aE (b:=40) (n:=a.length) (m:=1) (by decide) (by omega)];omega
  .simp[hp];omega) (λa=>by simp)).1]
 simp only[aEa,cGk,aA]
theorem bTd{l:lRs}{now:Int}(h:l.length<=1073741824):gO l now=some (vJ l now):=by
 unfold gO pj5 zz4;rw[(aOm (l:=l) (out:=λa=>a) (λ(a:lRs) x=>if decide (now<=x.2.2.2.2) then a++[x] else a) (λk a=>a.length<=k) (by omega) (by simp) (λk x a hi hd hw hx hk hI=>by
  simp only[hd,hi,hw,zZ,aA]
  by_cases hp:now<=x.2.2.2.2
  .simp[hp,aE (b:=40) (n:=a.length) (m:=1) (by decide) (by omega)];omega
  .simp[hp];omega) (λa=>by simp)).1]
 simp only[aEa,cGk,aA]
def atR(x:den tRs)(s d:Int):Bool:=x.2.1==s&&x.2.2.1==d
theorem bRl(x:den tRs)(s d:Int):eX x s d=some (atR x s d):=by
 unfold eX atR;cases x.2.1==s<;>simp
theorem bZ0(x:den tRs)(s d now:Int):aAw x s d now=some (atR x s d&&decide (now<=x.2.2.2.2)):=by
 unfold aAw atR zz4;cases x.2.1==s<;>cases x.2.2.1==d<;>simp
def rate(l:lRs)(s d now:Int):Int:=l.foldl (λa x=>if atR x s d&&decide (now<=x.2.2.2.2) then wr (a+x.2.2.2.1) else a) 0
theorem bPe{l:lRs}{s d now:Int}(h:l.length<=1073741824):kH l s d now=some (rate l s d now):=by
 unfold kH pj5 zz4;rw[(aUe (l:=l) (out:=λa=>a) (λ(a:Int) x=>if atR x s d&&decide (now<=x.2.2.2.2) then wr (a+x.2.2.2.1) else a) (λ_ _=>True) (by omega) trivial (λk x a hi hd hw hx hk hI=>by
  refine⟨?_,trivial⟩;simp only[hd,hi,hw,zZ,aA];rw[show ((x.1,x.2.1,x.2.2.1,x.2.2.2.1,x.2.2.2.2):den tRs)=x from rfl,bRl];cases atR x s d<;>cases decide (now<=x.2.2.2.2)<;>rfl) (λa=>by simp)).1]
 rfl
theorem bPv{l:lRs}{s d now:Int}(h:l.length<=1073741824):kN l s d now=some (rate l s d now):=by
 unfold kN pj5;rw[(aUe (l:=l) (out:=λa=>a) (λ(a:Int) x=>if atR x s d&&decide (now<=x.2.2.2.2) then wr (a+x.2.2.2.1) else a) (λ_ _=>True) (by omega) trivial (λk x a hi hd hw hx hk hI=>by
  refine⟨?_,trivial⟩;simp only[hd,hi,hw,zZ,aA];rw[show ((x.1,x.2.1,x.2.2.1,x.2.2.2.1,x.2.2.2.2):den tRs)=x from rfl,bZ0];cases atR x s d<;>cases decide (now<=x.2.2.2.2)<;>rfl) (λa=>by simp)).1]
 rfl
def free(l:lRs)(cap s d now:Int):Int:=if wr (cap - rate l s d now)>0 then wr (cap - rate l s d now) else 0
theorem cBv{l:lRs}{cap s d now:Int}(h:l.length<=1073741824):xL l cap s d now=some (free l cap s d now):=by
 unfold xL;simp only[bPe h,aA,bKx];rfl
theorem cBf{l:lRs}{cap s d now:Int}(h:l.length<=1073741824):xR l cap s d now=some (free l cap s d now):=by
 unfold xR;simp only[bPv h,aA,bI2];rfl
def aCf(l:lRs)(id s d now:Int):Int:=
 match bW (λ_ (x:den tRs)=>if x.1==id&&(atR x s d&&decide (now<=x.2.2.2.2)) then some x.2.2.2.1 else none) 0 l with
 | some r=>r
 | none=>0
theorem bOi{l:lRs}{id s d now:Int}(h:l.length<=1073741824):kU l id s d now=some (aCf l id s d now):=by
 unfold kU pj5 zz4;rw[aY (l:=l) (λ_ (x:den tRs)=>if x.1==id&&(atR x s d&&decide (now<=x.2.2.2.2)) then some x.2.2.2.1 else none) (by omega) (λk x hi hd hw hx hk=>by
  simp only[hd,hi,hw,zZ,aA];rw[show ((x.1,x.2.1,x.2.2.1,x.2.2.2.1,x.2.2.2.2):den tRs)=x from rfl,bRl];cases x.1==id<;>cases atR x s d<;>cases decide (now<=x.2.2.2.2)<;>rfl) (by simp)]
 unfold aCf;cases bW (λ_ (x:den tRs)=>if x.1==id&&(atR x s d&&decide (now<=x.2.2.2.2)) then some x.2.2.2.1 else none) 0 l<;>rfl
theorem bL5{l:lRs}{id s d now:Int}(h:l.length<=1073741824):kP l id s d now=some (aCf l id s d now):=by
 unfold kP pj5;rw[aY (l:=l) (λ_ (x:den tRs)=>if x.1==id&&(atR x s d&&decide (now<=x.2.2.2.2)) then some x.2.2.2.1 else none) (by omega) (λk x hi hd hw hx hk=>by
  simp only[hd,hi,hw,zZ,aA];rw[show ((x.1,x.2.1,x.2.2.1,x.2.2.2.1,x.2.2.2.2):den tRs)=x from rfl,bZ0];cases x.1==id<;>cases atR x s d<;>cases decide (now<=x.2.2.2.2)<;>rfl) (by simp)]
 unfold aCf;cases bW (λ_ (x:den tRs)=>if x.1==id&&(atR x s d&&decide (now<=x.2.2.2.2)) then some x.2.2.2.1 else none) 0 l<;>rfl
def xI(x:den tRs):Bool:=inR x.1 1 100000&&(inR x.2.2.2.1 1 20&&dO (x.2.1,x.2.2.1,x.2.2.2.2))
theorem bQ0(x:den tRs):jQ x=some (xI x):=by
 unfold jQ xI zz4;simp only[lR,aE5,aA];cases inR x.1 1 100000<;>cases inR x.2.2.2.1 1 20<;>cases dO (x.2.1,x.2.2.1,x.2.2.2.2)<;>rfl
theorem bT3(x:den tRs):jS x=some (xI x):=by
 unfold jS xI zz4;simp only[jU,aFh,aA];cases inR x.1 1 100000<;>cases inR x.2.2.2.1 1 20<;>cases dO (x.2.1,x.2.2.1,x.2.2.2.2)<;>rfl
def kF(x y:den tRs):Bool:=y.1==x.1&&atR y x.2.1 x.2.2.1
theorem bP5{l:lRs}{x:den tRs}(h:l.length<=1073741824):tC l x=some (l.filter λy=> !kF x y):=by
 unfold tC pj5;rw[(aOm (l:=l) (out:=λa=>a) (λ(a:lRs) y=>if !kF x y then a++[y] else a) (λk a=>a.length<=k) (by omega) (by simp) (λk y a hi hd hw hx hk hI=>by
  simp only[hd,hi,hw,zZ,aA];have hap:=aE (b:=40) (n:=a.length) (m:=1) (by decide) (by omega);unfold kF atR;simp only[bne];cases h1:y.1==x.1<;>cases h2:y.2.1==x.2.1<;>cases h3:y.2.2.1==x.2.2.1<;>simp[hap]<;>omega) (λa=>by simp)).1]
 simp only[aEa,cGk,aA]
def okR(l:lRs)(cap now:Int)(k:Nat)(x:den tRs):Bool:=xI x&&(!decide (rate l x.2.1 x.2.2.1 now>cap)&& !(l.take k).any (kF x))
def aDq(l:lRs)(cap now:Int):Bool:=
 decide (l.length<=40)&&(bW (λk x=>if okR l cap now k x then none else some ()) 0 l).isNone
theorem aHb{α R S:Type}(p:Nat->α->Bool)(r:R)(s:S):∀(l:List α) (k:Nat),(bW (λk x=>if p k x then none else some r) k l).isNone=(bW (λk x=>if p k x then none else some s) k l).isNone/\ ∀q,bW (λk x=>if p k x then none else some r) k l=some q->q=r
 | [],_=>⟨rfl,λq h=>by cases h⟩
 | x::xs,k=>by
  simp only[bW];cases p k x with
  | true=>simpa using aHb p r s xs (k+1)
  | false=>simp
theorem bIn{α:Type}(p:Nat->α->Bool)(l:List α):(match bW (λk x=>if p k x then none else some false) 0 l with
  | some r=>some r
  | none=>some true)=some (bW (λk x=>if p k x then none else some ()) 0 l).isNone:=by
 obtain⟨h1,h2⟩:=aHb p false () l 0;rw[<- h1];cases h:bW (λk x=>if p k x then none else some false) 0 l with
 | none=>rfl
 | some q=>rw[h2 q h];rfl
theorem bOk{l:lRs}{cap now:Int}(h:l.length<=1073741824):iD l cap now=some (aDq l cap now):=by
 unfold iD aDq pj5
 by_cases hl:l.length<=40
 .rw[zW (by omega),zY,zX hl,cGf];rw[aY (l:=l) (λk x=>if okR l cap now k x then none else some false) (by omega) (λk x hi hd hw hx hk=>by
   have hslo:cJ (0:Int) (k:Int) (l.length:Int)=true:=by simp[cJ];omega
   have hlen:(l.take k).length<=1073741824:=by simp;omega
   simp only[hd,hi,hw,zZ,aA,hslo,iQ];rw[show ((x.1,x.2.1,x.2.2.1,x.2.2.2.1,x.2.2.2.2):den tRs)=x from rfl,bQ0,bPe h];unfold okR;cases hv:xI x with
   | false=>rfl
   | true=>
    cases hr:decide (rate l x.2.1 x.2.2.1 now>cap) with
    | true=>simp[hr]
    | false=>
     simp only[aA,cF0,zY,hr,cGa,cGf];rw[aY (l:=l.take k) (R:=Int⊕(Unit⊕Bool)) (λ_ y=>if kF x y then some (cFt (cFt false)) else none) (by omega) (λj y hi2 hd2 hw2 hx2 hk2=>by
      simp only[hd2,hi2,hw2,zZ,aA];rw[show ((y.1,y.2.1,y.2.2.1,y.2.2.2.1,y.2.2.2.2):den tRs)=y from rfl,bRl];unfold kF;cases y.1==x.1<;>cases atR y x.2.1 x.2.2.1<;>rfl) (by simp)]
     have key:∀(m:lRs) (j:Nat),bW (λ_ y=>if kF x y then some (cFt (cFt false):Int⊕(Unit⊕Bool)) else none) j m=if m.any (kF x) then some (cFt (cFt false)) else none:=by
      intro m
      induction m with
      | nil=>intro j;rfl
      | cons y m ih=>
       intro j;simp only[bW,List.any_cons];rcases cIx (kF x y) with hs | hs
       .simp[hs]
       .simp only[hs,ih,cF1,zU];rfl
     rw[key];cases (l.take k).any (kF x)<;>simp) (by simp)]
  rw[<- bIn];cases bW (λk x=>if okR l cap now k x then none else some false) 0 l<;>rfl
 .rw[zX (by omega),zZ,zW hl];rfl
def jC(id s d:Int)(x:den tUs):Bool:=x.1==id&&(x.2.1==s&&x.2.2.1==d)
def place(l:lUs)(id s d:Int):Int:=
 match bW (λk x=>if jC id s d x then some (k:Int) else none) 0 l with
 | some i=>i
 | none=> -1
theorem aL9(l:lUs)(id s d:Int):place l id s d= -1\/ ∃(j:Nat) (x:den tUs),place l id s d=(j:Int)/\l[j]? =some x/\j<l.length:=by
 unfold place;cases h:bW (λk x=>if jC id s d x then some (k:Int) else none) 0 l with
 | none=>exact .inl rfl
 | some i=>
  obtain⟨j,x,h1,h2,h3⟩:=aMl h;exact .inr ⟨j,x,by simpa using h2,h1,(cFz.1 h1).1⟩
theorem aUv{g:den tSc}{id s d:Int}(h:g.2.2.length<=1073741824):qQ g id s d=some (place g.2.2 id s d):=by
 unfold qQ;rw[aY (l:=g.2.2) (λk x=>if jC id s d x then some (k:Int) else none) (by omega) (λk x hi hd hw hx hk=>by
  simp only[hd,hi,hw,zZ,aA];unfold jC;cases x.1==id<;>cases x.2.1==s<;>cases x.2.2.1==d<;>rfl) (by simp)]
 unfold place;cases bW (λk x=>if jC id s d x then some (k:Int) else none) 0 g.2.2<;>rfl
theorem bEr{l:lUs}{id s d:Int}(h:l.length<=1073741824):rR l id s d=some (place l id s d):=by
 unfold rR;rw[aY (l:=l) (λk x=>if jC id s d x then some (k:Int) else none) (by omega) (λk x hi hd hw hx hk=>by
  simp only[hd,hi,hw,zZ,aA];unfold jC;cases x.1==id<;>cases x.2.1==s<;>cases x.2.2.1==d<;>rfl) (by simp)]
 unfold place;cases bW (λk x=>if jC id s d x then some (k:Int) else none) 0 l<;>rfl
def pB(g:den tSc)(id s d now:Int):Int:=if id==0 then free g.2.1 g.1 s d now else aCf g.2.1 id s d now
theorem bEc{g:den tSc}{id s d now:Int}(h:g.2.1.length<=1073741824):yD g id s d now=some (pB g id s d now):=by
 unfold yD pB;rw[cBv h,bOi h];cases id==0<;>rfl
def okU(g:den tSc)(now:Int)(k:Nat)(x:den tUs):Bool:=place g.2.2 x.1 x.2.1 x.2.2.1==(k:Int)&&inR x.2.2.2 1 (pB g x.1 x.2.1 x.2.2.1 now)
def aFz(g:den tSc)(now:Int):Bool:=inR g.1 1 20&&(aDq g.2.1 g.1 now&&(bW (λk x=>if okU g now k x then none else some ()) 0 g.2.2).isNone)
theorem bRf{g:den tSc}{now:Int}(h1:g.2.1.length<=1073741824)(h2:g.2.2.length<=1073741824):mH g now=some (aFz g now):=by
 unfold mH aFz pj3;rw[aY (l:=g.2.2) (λk x=>if okU g now k x then none else some false) (by omega) (λk x hi hd hw hx hk=>by
  simp only[hd,hi,hw,zZ,aA];rw[show ((g.1,g.2.1,g.2.2):den tSc)=g from rfl,aUv h2,bEc h1];unfold okU;simp only[aA,lR,bne];cases place g.2.2 x.1 x.2.1 x.2.2.1==(k:Int)<;>cases inR x.2.2.2 1 (pB g x.1 x.2.1 x.2.2.1 now)<;>rfl) (by simp)]
 rw[<- aHb (okU g now) false () g.2.2 0 |>.1];have h3:=(aHb (okU g now) false () g.2.2 0).2;simp only[lR,bOk h1,aA];cases inR g.1 1 20<;>cases aDq g.2.1 g.1 now<;>(cases hsc:bW (λk x=>if okU g now k x then none else some false) 0 g.2.2 with
  | none=>rfl
  | some q=>rw[h3 q hsc];rfl)
theorem lM{n:Nat}(h:n<=68719476736):wr ((n:Int) - 1)=(n:Int) - 1:=wri (by omega) (by omega)
def dE(t:den tTo)(r:Int):Bool:=inR r 0 ((t.1.length:Int) - 1)
theorem aKm{t:den tTo}{r:Int}(h:t.1.length<=68719476736):lB t r=some (dE t r):=by
 unfold lB dE;rw[lM h,lR];rfl
theorem aFx{t:den tTo}{r:Int}(h:t.1.length<=68719476736):eI t r=some (dE t r):=by
 unfold eI dE;rw[lM h,jU];rfl
theorem cC8(n:Int):wR n=some (inR n 1 2147483646):=by unfold wR;rw[lR];rfl
theorem cDd(n:Int):xC n=some (inR n 1 2147483646):=by unfold xC;rw[jU];rfl
def dL(l:den tLk)(r d:Int):Bool:=(l.1==r&&l.2.1==d)||(l.2.2.1==r&&l.2.2.2.1==d)
theorem bFl(l:den tLk)(r d:Int):gS l r d=some (dL l r d):=by
 unfold gS dL;cases l.1==r<;>cases l.2.1==d<;>cases l.2.2.1==r<;>cases l.2.2.2.1==d<;>rfl
theorem bEu(l:den tLk)(r d:Int):vL l r d=some (dL l r d):=by
 unfold vL dL;cases l.1==r<;>cases l.2.1==d<;>cases l.2.2.1==r<;>cases l.2.2.2.1==d<;>rfl
def aUq(k:Int)(x y:den tAS):Bool:=cond (k==1) (x.2.1&&y.2.1) (cond (k==2) (x.1==y.1&& !y.2.1) (cond (k==3) (!x.2.1&& !y.2.1) false))
def aA4(t:den tTo)(l:den tLk):Bool:=
 dE t l.1&&(dE t l.2.2.1&&(!decide (l.1>=l.2.2.1)&&(inR l.2.1 1 6&&(inR l.2.2.2.1 1 6&&aUq l.2.2.2.2 ((t.1[l.1.toNat]?).getD (0,false,0)) ((t.1[l.2.2.1.toNat]?).getD (0,false,0))))))
theorem aG1{t:den tTo}{r:Int}(h:dE t r=true):∃x,t.1[r.toNat]? =some x/\idx t.1 r=some x:=by
 obtain⟨h0,h1⟩:=aV.1 h;obtain⟨x,hx⟩:=aBv h0 h1;exact⟨x,hx,aKu h0 hx⟩
theorem bYi{t:den tTo}{l:den tLk}(h:t.1.length<=68719476736):aA6 t l=some (aA4 t l):=by
 unfold aA6 aA4 pj2 pj3 zz4;simp only[aP,aKm h,lR,aA];cases c1:dE t l.1
 .rfl
 .cases c2:dE t l.2.2.1
  .rfl
  .obtain⟨x,hx,ix⟩:=aG1 c1;obtain⟨y,hy,iy⟩:=aG1 c2;rw[ix,iy,hx,hy];simp only[bC,bT,bH,bI,bL,aA,cGy,cF0,zY,cGf];unfold aUq;cases decide (l.1>=l.2.2.1)
   .cases inR l.2.1 1 6
    .rfl
    .cases inR l.2.2.2.1 1 6
     .rfl
     .cases l.2.2.2.2==1
      .cases l.2.2.2.2==2
       .cases l.2.2.2.2==3
        .rfl
        .cases x.2.1<;>rfl
       .cases x.1==y.1<;>rfl
      .cases x.2.1<;>rfl
   .rfl
theorem bF5{t:den tTo}{l:den tLk}(h:t.1.length<=68719476736):rU t l=some (aA4 t l):=by
 unfold rU aA4 pj2 zz4;simp only[aP,aFx h,jU,aA];cases c1:dE t l.1
 .rfl
 .cases c2:dE t l.2.2.1
  .rfl
  .obtain⟨x,hx,ix⟩:=aG1 c1;obtain⟨y,hy,iy⟩:=aG1 c2;rw[ix,iy,hx,hy];simp only[aA,cGy,cF0,zY,cGf];unfold aUq;cases decide (l.1>=l.2.2.1)
   .cases inR l.2.1 1 6
    .rfl
    .cases inR l.2.2.2.1 1 6
     .rfl
     .cases l.2.2.2.2==1
      .cases l.2.2.2.2==2
       .cases l.2.2.2.2==3
        .rfl
        .cases x.2.1<;>rfl
       .cases x.1==y.1<;>rfl
      .cases x.2.1<;>rfl
   .rfl
def asP(t:den tTo)(k:Nat)(x:den tAS):Bool:=inR x.1 0 2&&(inR x.2.2 1 2147483646&&(t.1.take k).all λy=> !(x.2.2==y.2.2))
def lkP(t:den tTo)(k:Nat)(x:den tLk):Bool:=aA4 t x&&(t.2.take k).all λy=> !(dL y x.1 x.2.1||dL y x.2.2.1 x.2.2.2.1)
def aCl(t:den tTo):Bool:=inR (t.1.length:Int) 1 8&&((t.1.zipIdx 0).all (λz=>asP t z.2 z.1)&&(t.2.zipIdx 0).all λz=>lkP t z.2 z.1)
theorem zG{k n:Nat}(h:k<n):cJ (0:Int) (k:Int) (n:Int)=true:=by
 have :=aE1 (a:=0) (b:=k) (n:=n);rw[show ((0:Nat):Int)=0 from rfl]at this;rw[this];simp;omega
theorem aZo{α:Type}{l:List α}{k j:Nat}{x:α}(h:idx (l.take k) (j:Int)=some x):idx l (j:Int)=some x:=by
 rw[aN]at h ⊢;exact (aRs h).1
theorem yG{α:Type}{l:List α}{k:Nat}(h:k<l.length):(l.take k).length=k:=by simp;omega
theorem cB8{t:den tTo}(h:SmB 68719476736 tTo t):nN t=some (aCl t):=by
 have l1:=h.1.1;have l2:=h.2.1;unfold nN aCl pj2 pj5;rw[aY (l:=t.1) (λk x=>if asP t k x then none else some false) (cFv l1 (by decide)) (λk x hi hd hw hm hk=>by
  simp only[hd,hi,zZ,aA,lR,cC8,zG hk,iQ,hw];rw[aY (l:=t.1.take k) (λ_ y=>if !(x.2.2==y.2.2) then none else some (cFt (cFt false))) (by rw[yG hk];omega) (λj y hi hd hw hm hk=>by
   simp only[hd,hi,hw,zZ,aA];cases x.2.2==y.2.2<;>rfl) (by simp),nD (λy:den tAS=> !(x.2.2==y.2.2))]
  unfold asP;cases inR x.1 0 2<;>cases inR x.2.2 1 2147483646<;>cases (t.1.take k).all (λy=> !(x.2.2==y.2.2))<;>rfl) (by simp),aEd (asP t)]
 rw[aY (l:=t.2) (λk x=>if lkP t k x then none else some false) (cFv l2 (by decide)) (λk x hi hd hw hm hk=>by
  simp only[hd,hi,zZ,aA,aP,bYi l1,zG hk,iQ,hw];rw[aY (l:=t.2.take k) (λ_ y=>if !(dL y x.1 x.2.1||dL y x.2.2.1 x.2.2.2.1) then none else some (cFt (cFt false))) (by rw[yG hk];omega) (λj y hi hd hw hm hk=>by
   simp only[hd,hi,hw,zZ,aA,aP,bFl];cases dL y x.1 x.2.1<;>cases dL y x.2.2.1 x.2.2.2.1<;>rfl) (by simp),nD (λy:den tLk=> !(dL y x.1 x.2.1||dL y x.2.2.1 x.2.2.2.1))]
  unfold lkP;cases aA4 t x<;>cases (t.2.take k).all (λy=> !(dL y x.1 x.2.1||dL y x.2.2.1 x.2.2.2.1))<;>rfl) (by simp),aEd (lkP t)]
 rw[lR,aA];cases inR (t.1.length:Int) 1 8<;>cases (t.1.zipIdx 0).all (λz=>asP t z.2 z.1)<;>cases (t.2.zipIdx 0).all (λz=>lkP t z.2 z.1)<;>rfl
theorem bR3(a b:Int):(a==b)=(b==a):=by rw[cGl];simp;exact eq_comm
theorem cB0{t:den tTo}(h:SmB 68719476736 tTo t):nE t=some (aCl t):=by
 have l1:=h.1.1;have l2:=h.2.1;unfold nE aCl pj2 pj5;rw[aY (l:=t.1) (λk x=>if asP t k x then none else some false) (cFv l1 (by decide)) (λk x hi hd hw hm hk=>by
  simp only[hd,hi,zZ,aA,jU,cDd,hw];rw[aY (l:=t.1.take k) (λ_ y=>if !(x.2.2==y.2.2) then none else some (cFt (cFt false))) (by rw[yG hk];omega) (λj y hi2 hd hw hm hk2=>by
   rw[yG hk]at hd;simp only[hd,aZo hi2,hi,hw,zZ,aA,bR3 y.2.2 x.2.2];cases x.2.2==y.2.2<;>rfl) (by rw[yG hk];simp),nD (λy:den tAS=> !(x.2.2==y.2.2))]
  unfold asP;cases inR x.1 0 2<;>cases inR x.2.2 1 2147483646<;>cases (t.1.take k).all (λy=> !(x.2.2==y.2.2))<;>rfl) (by simp),aEd (asP t)]
 rw[aY (l:=t.2) (λk x=>if lkP t k x then none else some false) (cFv l2 (by decide)) (λk x hi hd hw hm hk=>by
  simp only[hd,hi,zZ,aA,aP,bF5 l1,hw];rw[aY (l:=t.2.take k) (λ_ y=>if !(dL y x.1 x.2.1||dL y x.2.2.1 x.2.2.2.1) then none else some (cFt (cFt false))) (by rw[yG hk];omega) (λj y hi2 hd hw hm hk2=>by
   rw[yG hk]at hd;simp only[hd,aZo hi2,hi,hw,zZ,aA,aP,bEu];cases dL y x.1 x.2.1<;>cases dL y x.2.2.1 x.2.2.2.1<;>rfl) (by rw[yG hk];simp),nD (λy:den tLk=> !(dL y x.1 x.2.1||dL y x.2.2.1 x.2.2.2.1))]
  unfold lkP;cases aA4 t x<;>cases (t.2.take k).all (λy=> !(dL y x.1 x.2.1||dL y x.2.2.1 x.2.2.2.1))<;>rfl) (by simp),aEd (lkP t)]
 rw[jU,aA];cases inR (t.1.length:Int) 1 8<;>cases (t.1.zipIdx 0).all (λz=>asP t z.2 z.1)<;>cases (t.2.zipIdx 0).all (λz=>lkP t z.2 z.1)<;>rfl
def xOk(x:den tIb):Bool:=inR x.1 0 7&&(inR x.2.1 0 7&&(!(x.1==x.2.1)&&((x.2.2.1==(x.2.2.2.length:Int))&&(decide (x.2.2.1<=20)&&x.2.2.2.all λm=>decide (m.length<=40)))))
theorem cD5(a b:Int):decide (a>b)= !decide (a<=b):=by rw[cGl];simp
theorem cDh{x:den tIb}(h:x.2.2.2.length<=68719476736):sV x=some (xOk x):=by
 unfold sV xOk;rw[aY (l:=x.2.2.2) (λ_ m=>if decide (m.length<=40) then none else some false) (by omega) (λk m hi hd hw hx hk=>by
  simp only[hd,hi,hw,zZ,aA]
  by_cases hm:m.length<=40
  .simp[hm,show ¬ ((m.length:Int)>40) by omega]
  .simp[hm,show (m.length:Int)>40 by omega]) (by simp),nD (λm:List Int=>decide (m.length<=40))]
 simp only[lR,aA,bne,cD5];cases inR x.1 0 7<;>cases inR x.2.1 0 7<;>cases x.1==x.2.1<;>cases x.2.2.1==(x.2.2.2.length:Int)<;>cases decide (x.2.2.1<=20)<;>cases x.2.2.2.all (λm=>decide (m.length<=40))<;>rfl
theorem bY9{t:den tTo}(h:SmB 68719476736 tTo t):oX t=some t:=by
 unfold oX pj2;simp only[aE (b:=24) (n:=([]:lAS).length) (m:=t.1.length) (by decide) (by simpa using h.1.1),aE (b:=40) (n:=([]:lLk).length) (m:=t.2.length) (by decide) (by simpa using h.2.1),zZ,bC,bT,bH,bI,bL,aA,cGk,aP]
theorem bGj{t:den tTo}(h:SmB 68719476736 tTo t):sC t=some t:=by
 unfold sC pj2;simp only[aE (b:=24) (n:=([]:lAS).length) (m:=t.1.length) (by decide) (by simpa using h.1.1),aE (b:=40) (n:=([]:lLk).length) (m:=t.2.length) (by decide) (by simpa using h.2.1),zZ,bC,bT,bH,bI,bL,aA,cGk,aP]
theorem bZn{x:den tSg}(h:x.2.2.length<=68719476736):iI x=some x:=by
 unfold iI;rw[bGn h];rfl
theorem aKr{x:den tSg}(h:x.2.2.length<=68719476736):iV x=some x:=by
 unfold iV;rw[aE (b:=40) (n:=([]:cR).length) (by decide) (by simpa using h)];rfl
theorem bBa{l:lSg}(h:SmB 68719476736 (.sl tSg) l):mR l=some l:=by
 unfold mR pj3;rw[(vZ (λk (a:lSg)=>((k:Int),a)) ((0:Int),[]) [] l (λ_ x a=>a++[x]) cGd (λ_=>1) 68719476736 id rfl (cFv h.1 (by decide)) (by rw[fB];simpa using h.1) (λk x a hi hx hd hw hk hb=>by
  have e:=h.2 x (cF9 hx);simp only[hd,hi,hw,zZ,aA,aP,bZn e.2.2.1,aE (b:=40) (by decide) hb];simp) (λa=>by simp)).1,iC (λx=>x)]
 simp
theorem aFa{l:lSg}(h:SmB 68719476736 (.sl tSg) l):gG l=some l:=by
 unfold gG pj3;rw[(vZ (λk (a:lSg)=>((k:Int),a)) ((0:Int),[]) [] l (λ_ x a=>a++[x]) cGd (λ_=>1) 68719476736 id rfl (cFv h.1 (by decide)) (by rw[fB];simpa using h.1) (λk x a hi hx hd hw hk hb=>by
  have e:=h.2 x (cF9 hx);simp only[hd,hi,hw,zZ,aA,aP,aKr e.2.2.1,aE (b:=40) (by decide) hb];simp) (λa=>by simp)).1,iC (λx=>x)]
 simp
theorem bZ3(c:Int):pA c=some (cond (inR c 1 20) c 1,[],[]):=by
 unfold pA;rw[jU];cases inR c 1 20<;>rfl
def aY3(t:den tTo)(now:Int):Bool:=aCl t&&inR now 0 1000000
theorem bZx{t:den tTo}{k:den tDb}{c now:Int}(ht:SmB 68719476736 tTo t)(hk:SmB 68719476736 tDb k):tF t k c now=some (cond (aY3 t now) (cond (inR c 1 20) c 1,now,0,t.1,t.2,k.1,k.2,[],[],[],[],[],[]) (0,0,0,[],[],[],[],[],[],[],[],[],[])):=by
 unfold tF aY3 pj2;simp only[aP,cB0 ht,jU,bGj ht,aFa hk.1,aFa hk.2,bZ3,aA];cases aCl t<;>cases inR now 0 1000000<;>rfl
def rB(a b:Int)(x:den tIb):Bool:=x.1==a&&x.2.1==b
theorem aO7{α:Type}(p:α->Bool):∀(l:List α) (k:Nat),bW (λk x=>if p x then some (k:Int) else none) k l=(l.findIdx? p).map (λi=>((k+i:Nat):Int))
 | [],_=>rfl
 | x::xs,k=>by
  simp only[bW,List.findIdx?_cons];cases h:p x with
  | true=>simp
  | false=>
   simp only[cF1,zU];rw[aO7 p xs (k+1)];cases xs.findIdx? p with
   | none=>rfl
   | some i=>simp<;>omega
def dS(l:lIb)(a b:Int):Int:=((l.findIdx? (rB a b)).map (λi=>((0+i:Nat):Int))).getD (-1)
theorem bFf{l:lIb}{a b:Int}(h:l.length<=68719476736):nX l a b=some (dS l a b):=by
 unfold nX dS;rw[aY (l:=l) (λk x=>if rB a b x then some (k:Int) else none) (by omega) (λk x hi hd hw hm hk=>by
  simp only[hd,hi,hw,zZ,aA];unfold rB;cases x.1==a<;>cases x.2.1==b<;>rfl) (by simp),aO7 (rB a b)]
 cases l.findIdx? (rB a b)<;>rfl
def aIx(w:den tNw)(k:Nat)(f:den tFl):Bool:=match w.2.2.2.2.2.2.2.1[k]? with
 | some x=>iR f&&(dE w.1 f.1&&(dE w.1 f.2.1&&(xOk x&&aHw f x)))
 | none=>false
def vV(f g:den tFl):Bool:=g.1==f.1&&g.2.1==f.2.1
def aJr(w:den tNw)(k:Nat)(f:den tFl):Bool:=(w.2.2.2.2.2.2.1.take k).all λg=> !vV f g
theorem aAt{α:Type}(p:Nat->α->Bool)(l:List α):(l.zipIdx 0).all (λz=>p z.2 z.1)=true↔ ∀k x,l[k]? =some x->p k x=true:=by
 rw[cGm];constructor
 .intro h k x hx;exact h (x,k) (cJo.2 (by simpa using hx))
 .rintro h ⟨x,k⟩ hz
  exact h k x (by simpa using cJo.1 hz)
def aI0(l:List Int)(m:Nat)(k:Nat)(n:Int):Bool:=inR n 0 ((m:Int) - 1)&&(decide (k=0)|| !decide ((l[k - 1]?).getD 0>=n))
def aKh(w:den tNw):Bool:=
 aCl w.1&&(inR w.2.2.2.1 0 1000000&&(aFz w.2.2.1 w.2.2.2.1&&((w.2.2.2.2.1.zipIdx 0).all (λz=>aI0 w.2.2.2.2.1 w.1.2.length z.2 z.1)&&(decide (w.2.2.2.2.2.1.length<=150)&&(decide (w.2.2.2.2.2.2.1.length<=4)&&(decide (w.2.2.2.2.2.2.2.1.length=w.2.2.2.2.2.2.1.length)&&(!decide (w.2.2.2.2.2.2.2.2<0)&&
  (w.2.2.2.2.2.1.all (λx=>dE w.1 x.1)&&(w.2.2.2.2.2.2.1.zipIdx 0).all (λz=>aIx w z.2 z.1&&aJr w z.2 z.1)))))))))
theorem bP1(n k:Nat):decide ((n:Int)>(k:Int))= !decide (n<=k):=by rw[cGl];simp
theorem cAi(a b:Nat):((a:Int) != (b:Int))= !decide (a=b):=by rw[cGl];simp;omega
theorem bPp{l:List Int}{k:Nat}(hk:k<l.length)(h0:0<k)(hl:l.length<=68719476736):idx l (wr ((k:Int) - 1))=some ((l[k - 1]?).getD 0):=by
 have e:wr ((k:Int) - 1)=((k - 1:Nat):Int):=by
  have :wr ((k:Int) - 1)=(k:Int) - 1:=wri (by omega) (by omega);rw[this];omega
 rw[e,aN,cFx (show k - 1<l.length by omega)];rfl
theorem aT2{w:den tNw}(h:tot tNw w<=1073741824):fP w=some (aKh w):=by
 have sm:SmB 68719476736 tNw w:=(bM h).mono (by decide);have sms:SmB 1073741824 tNw w:=bM h;have lT:=sm.1.1.1;have lL:=sm.1.2.1;have lD:=sms.2.2.2.2.1.1;have lQ:=sms.2.2.2.2.2.1.1;have lF:=sms.2.2.2.2.2.2.1.1;have lX:=sms.2.2.2.2.2.2.2.1.1;have eT:=cB8 sm.1;have eS:=bRf (now:=w.2.2.2.1) sms.2.2.1.2.1.1 sms.2.2.1.2.2.1;have q1:decide ((w.2.2.2.2.2.1.length:Int)>150)= !decide (w.2.2.2.2.2.1.length<=150):=bP1 _ 150;have q2:decide ((w.2.2.2.2.2.2.1.length:Int)>4)= !decide (w.2.2.2.2.2.2.1.length<=4):=bP1 _ 4;unfold fP aKh pj2 pj3 pj4 pj9 zz4 zz5 zz6 zz7 zz8;rw[q1,q2,cAi];simp only[aP,eT,lR,eS,aA]
 by_cases hX:w.2.2.2.2.2.2.2.1.length=w.2.2.2.2.2.2.1.length
 .rw[aY (l:=w.2.2.2.2.1) (λk n=>if aI0 w.2.2.2.2.1 w.1.2.length k n then none else some false) (by omega) (λk n hi hd hw hm hk=>by
   simp only[hd,hi,hw,zZ,aA,lR,lM lL];unfold aI0;cases inR n 0 ((w.1.2.length:Int) - 1)
   .rfl
   .by_cases h0:k=0
    .subst h0;rfl
    .have e1:decide ((k:Int)>0)=true:=by simp;omega
     rw[e1,bPp hk (by omega) (by omega),zW h0];simp only[cF0,zY,zZ,aA,Bool.false_or,cGf];cases decide ((w.2.2.2.2.1[k - 1]?).getD 0>=n)<;>rfl) (by simp),aEd (aI0 w.2.2.2.2.1 w.1.2.length)]
  rw[aY (l:=w.2.2.2.2.2.1) (λ_ x=>if dE w.1 x.1 then none else some false) (by omega) (λk x hi hd hw hm hk=>by
   simp only[hd,hi,hw,zZ,aA,aKm lT];cases dE w.1 x.1<;>rfl) (by simp),nD (λx:den tFy=>dE w.1 x.1)]
  rw[aY (l:=w.2.2.2.2.2.2.1) (λk f=>if aIx w k f&&aJr w k f then none else some false) (by omega) (λk f hi hd hw hm hk=>by
   have hx:w.2.2.2.2.2.2.2.1[k]? =some w.2.2.2.2.2.2.2.1[k]:=cFx (by omega);have hix:idx w.2.2.2.2.2.2.2.1 (k:Int)=some w.2.2.2.2.2.2.2.1[k]:=by rw[aN];exact hx
   have fs:=sm.2.2.2.2.2.2.1.2 f hm;have xs:=(sm.2.2.2.2.2.2.2.1.2 _ (cF9 hx)).2.2.2.1;simp only[hd,hi,zZ,aA,aKm lT,bCx fs,hix,cDh xs,aWu fs.2.2.2.2.1.1 xs,zG hk,iQ,hw];rw[aY (l:=w.2.2.2.2.2.2.1.take k) (λ_ g=>if !vV f g then none else some (cFt (cFt false))) (by rw[yG hk];omega) (λj g hi hd hw hm hk=>by
    simp only[hd,hi,hw,zZ,aA];unfold vV;cases g.1==f.1<;>cases g.2.1==f.2.1<;>rfl) (by simp),nD (λg:den tFl=> !vV f g)]
   unfold aIx aJr;rw[hx];simp only;cases iR f<;>simp only[cF0,cGa,zZ,zY,aA,cGi,cGf,cF1,zU]
   .rfl
   cases dE w.1 f.1<;>simp only[cF0,cGa,zZ,zY,aA,cGi,cGf,cF1,zU]
   .rfl
   cases dE w.1 f.2.1<;>simp only[cF0,cGa,zZ,zY,aA,cGi,cGf,cF1,zU]
   .rfl
   cases xOk w.2.2.2.2.2.2.2.1[k]<;>simp only[cF0,cGa,zZ,zY,aA,cGi,cGf,cF1,zU]
   .rfl
   cases aHw f w.2.2.2.2.2.2.2.1[k]<;>cases (w.2.2.2.2.2.2.1.take k).all (λg=> !vV f g)<;>rfl) (by simp),aEd (λk f=>aIx w k f&&aJr w k f)]
  cases aCl w.1<;>simp only[cF0,cGa,zZ,zY,aA,cGi,cGf];cases inR w.2.2.2.1 0 1000000<;>simp only[cF0,cGa,zZ,zY,aA,cGi,cGf];cases aFz w.2.2.1 w.2.2.2.1<;>simp only[cF0,cGa,zZ,zY,aA,cGi,cGf];cases (w.2.2.2.2.1.zipIdx 0).all (λz=>aI0 w.2.2.2.2.1 w.1.2.length z.2 z.1)<;>cases decide (w.2.2.2.2.2.1.length<=150)<;>cases decide (w.2.2.2.2.2.2.1.length<=4)<;>cases decide (w.2.2.2.2.2.2.2.1.length=w.2.2.2.2.2.2.1.length)<;>cases decide (w.2.2.2.2.2.2.2.2<0)<;>cases w.2.2.2.2.2.1.all (λx=>dE w.1 x.1)<;>cases (w.2.2.2.2.2.2.1.zipIdx 0).all (λz=>aIx w z.2 z.1&&aJr w z.2 z.1)<;>rfl
 .have e:decide (w.2.2.2.2.2.2.2.1.length=w.2.2.2.2.2.2.1.length)=false:=by simpa using hX
  rw[e];cases aCl w.1
  .rfl
  .cases inR w.2.2.2.1 0 1000000
   .rfl
   .cases aFz w.2.2.1 w.2.2.2.1
    .rfl
    .cases decide (w.2.2.2.2.2.1.length<=150)<;>cases decide (w.2.2.2.2.2.2.1.length<=4)<;>simp
def bTn(n:Int):Int:=cG0 (wr ((cG0 n 2147483647)+2147483647)) 2147483647
theorem cAp(n:Int):aJn n 2147483647=some (bTn n):=by unfold aJn;rw[lR];rfl
theorem bZu(n:Int):aIu n 2147483647=some (bTn n):=by unfold aIu;rw[jU];rfl
def bQz(a x:Int):Int:=cG0 (wr ((wr ((wr (a * (1000003:Int)))+bTn x))+(11:Int))) (2147483647:Int)
def aF3(l:List Int):Int:=bO (λ_ x a=>bQz a x) 0 l 7
theorem bR5{l:List Int}(h:l.length<=68719476736):yC l=some (aF3 l):=by
 unfold yC aF3;rw[lJ (λk (a:Int)=>(a,(k:Int))) ((7:Int),(0:Int)) 7 l (λ_ x a=>bQz a x) (λ_=>0) (λ_=>0) 1 id rfl (by omega) (by rw[sum_nil];omega) (λk x a=>by omega) (λk x a hi hx hd hw hk hb=>by
  simp only[hd,hi,hw,zZ,aA,cAp];rfl) (λa=>by simp)]
 rfl
theorem aZz{l:List Int}(h:l.length<=68719476736):yH l=some (aF3 l):=by
 unfold yH aF3;rw[lJ (λk (a:Int)=>(a,(k:Int))) ((7:Int),(0:Int)) 7 l (λ_ x a=>bQz a x) (λ_=>0) (λ_=>0) 1 id rfl (by omega) (by rw[sum_nil];omega) (λk x a=>by omega) (λk x a hi hx hd hw hk hb=>by
  simp only[hd,hi,hw,zZ,aA,bZu];rfl) (λa=>by simp)]
 rfl
def aZg(h:den bV)(a:List Int):List Int:=a++[h.1,h.2.1,h.2.2.1]
def aPt(x:den tPp)(a:List Int):List Int:=bO (λ_ h a=>aZg h a) 0 x.2.2.2 (a++[x.1,x.2.1,x.2.2.1])
def aNf(p:den tPt):List Int:=bO (λ_ x a=>aPt x a) 0 p []
theorem bUc{α:Type}(c:Nat)(l:List α):(l.map λ_=>c).sum=c * l.length:=by
 induction l with
 | nil=>rfl
 | cons x l ih=>simp only[cGg,cHg,ih,cGv,Nat.mul_succ];omega
theorem aWd(x:den tPp)(a:List Int):(aPt x a).length<=a.length+(3+3 * x.2.2.2.length):=by
 have h:=aDp (f:=λ_ h (a:List Int)=>aZg h a) (m:=cGd) (cost:=λ_=>3) (λk x a=>by simp[aZg]) x.2.2.2 0 (a++[x.1,x.2.1,x.2.2.1]);rw[bUc]at h;unfold aPt;simp at h;omega
theorem aN1:∀p:den tPt,(p.map λx:den tPp=>3+3 * x.2.2.2.length).sum<=3 * tot tPt p
 | []=>by simp
 | x::p=>by
  have h1:=kW (t:=tPp) x p;have h2:x.2.2.2.length<=tot tPp x:=cFv (dX (t:=bV) x.2.2.2) (by simp only[oO,qC];omega);have h3:=aN1 p;simp only[cGg,cHg];show _<=3 * tot (.sl tPp) (x::p);rw[h1];have h3:(p.map λx:den tPp=>3+3 * x.2.2.2.length).sum<=3 * tot (.sl tPp) p:=h3;omega
theorem bOh(p:den tPt):(aNf p).length<=3 * tot tPt p:=by
 have h:=aDp (f:=λ_ x (a:List Int)=>aPt x a) (m:=cGd) (cost:=λx:den tPp=>3+3 * x.2.2.2.length) (λk x a=>aWd x a) p 0 [];have h2:=aN1 p;unfold aNf;simp only[cHn,Nat.zero_add]at h;omega
theorem aXr{p:den tPt}(h:tot tPt p<=1073741824):pP p=some (aF3 (aNf p)):=by
 have hl:=dX (t:=tPp) p;have hl:p.length<=1073741824:=cFv hl h;have hs:=aN1 p;have hd':=bOh p;unfold pP;rw[lJ (λk (a:List Int)=>((k:Int),a)) ((0:Int),[]) [] p (λ_ x a=>aPt x a) cGd (λx:den tPp=>3+3 * x.2.2.2.length) 68719476736 id rfl (by omega) (by simp only[cHn];omega) (λk x a=>aWd x a) (λk x a hi hx hd hw hk hb=>by
  simp only[hd,hi,hw,zZ,aA,aE (b:=8) (n:=a.length) (m:=3) (by decide) (by omega)];rw[lJ (λk (a:List Int)=>((k:Int),a)) ((0:Int),a++[x.1,x.2.1,x.2.2.1]) (a++[x.1,x.2.1,x.2.2.1]) x.2.2.2 (λ_ h a=>aZg h a) cGd (λ_=>3) 68719476736 id rfl (by omega) (by rw[bUc];simp;omega) (λk h a=>by simp[aZg]) (λk h a hi hx hd hw hk hb=>by
   simp only[hd,hi,hw,zZ,aA,aE (b:=8) (n:=a.length) (m:=3) (by decide) (by omega)];rfl) (λa=>by simp)]
  rfl) (λa=>by simp)]
 simp only[aA];rw[show bO (λ_ x a=>aPt x a) 0 p []=aNf p from rfl];simp only[id,aZz (l:=aNf p) (by omega),aA]
def aKs(a:Int×Bool)(h:den bV):Int×Bool:=cond (!a.2||decide (h.2.2.2.1<a.1)) (h.2.2.2.1,true) a
def aJj(l:cR):Int:=(l.foldl aKs (0,false)).1
def aN9(p:den tPt):cR:=bO (λ_ x a=>a++x.2.2.2) 0 p []
theorem bC5:∀(p:den tPt) (k:Nat) (a:cR),bO (λ_ (x:den tPp) a=>a++x.2.2.2) k p a=a++p.flatMap (λx:den tPp=>x.2.2.2)
 | [],_,a=>by simp[bO]
 | x::p,k,a=>by
  simp only[bO];rw[bC5 p (k+1)];simp
theorem aTu:∀(p:den tPt) (k:Nat) (a:Int×Bool),bO (λ_ (x:den tPp) a=>bO (λ_ h a=>aKs a h) 0 x.2.2.2 a) k p a=(p.flatMap λx:den tPp=>x.2.2.2).foldl aKs a
 | [],_,_=>rfl
 | x::p,k,a=>by
  simp only[bO,List.flatMap_cons,List.foldl_append];rw[aTu p (k+1),uE]
theorem bAa{p:den tPt}(h:tot tPt p<=1073741824):lP p=some (aJj (aN9 p)):=by
 have hl:p.length<=1073741824:=cFv (dX (t:=tPp) p) h;have hs:=aK9 p;unfold lP;rw[lJ (λk (a:Int×Bool)=>(a.1,a.2,(k:Int))) ((0:Int),false,(0:Int)) ((0:Int),false) p (λ_ (x:den tPp) a=>bO (λ_ h a=>aKs a h) 0 x.2.2.2 a) (λ_=>0) (λ_=>0) 1 (λa=>a.1) rfl (by omega) (by rw[sum_nil];omega) (λk x a=>by omega) (λk x a hi hx hd hw hk hb=>by
  have hxl:x.2.2.2.length<=1073741824:=by
   have h1:=aAu (t:=tPp) hx;have h2:x.2.2.2.length<=tot tPp x:=cFv (dX (t:=bV) x.2.2.2) (by simp only[oO,qC];omega);have h3:tot (.sl tPp) p<=1073741824:=h;omega
  simp only[hd,hi,hw,zZ,aA];rw[lJ (λk (a:Int×Bool)=>(a.1,a.2,(k:Int))) (a.1,a.2,(0:Int)) a x.2.2.2 (λ_ h a=>aKs a h) (λ_=>0) (λ_=>0) 1 id rfl (by omega) (by rw[sum_nil];omega) (λk x a=>by omega) (λk h a hi hx hd hw hk hb=>by
   simp only[hd,hi,hw,zZ,aA];unfold aKs;cases ca:a.2
   .rfl
   .cases c:decide (h.2.2.2.1<a.1)<;>simp[c,ca]) (λa=>by simp)]
  rfl) (λa=>by simp)]
 rw[aTu];unfold aJj aN9;rw[bC5];rfl
def aIn(a b:den tPt):Bool:=
 cond (((fD a).length:Int) != ((fD b).length:Int)) (decide (((fD a).length:Int)<((fD b).length:Int)))
  (cond (aJj (aN9 a) != aJj (aN9 b)) (decide (aJj (aN9 a)>aJj (aN9 b))) (decide (aF3 (aNf a)<aF3 (aNf b))))
theorem bRh{a b:den tPt}(ha:tot tPt a<=1073741824)(hb:tot tPt b<=1073741824):sM a b=some (aIn a b):=by
 unfold sM oE aIn;simp only[aHt (p:=a) (cFv ha (by decide)),aHt (p:=b) (cFv hb (by decide)),bAa ha,bAa hb,aXr ha,aXr hb,aA];cases ((fD a).length:Int) != ((fD b).length:Int)
 .cases aJj (aN9 a) != aJj (aN9 b)<;>rfl
 .rfl
def aGn(x:den tPt)(out:lPt):Nat->Nat
 | 0=>0
 | k+1=>cond (aIn x ((out[k]?).getD [])) (aGn x out k) (k+1)
theorem bEm(x:den tPt)(out:lPt):∀k,aGn x out k<=k
 | 0=>cF8 _
 | k+1=>by
  unfold aGn;cases aIn x ((out[k]?).getD [])
  .exact cF8 _
  .exact Nat.le_succ_of_le (bEm x out k)
theorem aX4{x:den tPt}{out:lPt}{step:Int->Option (Int⊕Int)}(hl:out.length<=68719476736)
  (h0:step 0=some (.inr 0)) (h1:∀k (y:den tPt),out[k]? =some y->step ((k+1:Nat):Int)=some (cond (aIn x y) (.inl (k:Int)) (.inr ((k+1:Nat):Int)))):
  ∀k,k<=out.length->aC step (k:Int)=some ((aGn x out k:Nat):Int)
 | 0,_=>bA h0
 | k+1,hk=>by
  have hy:out[k]? =some out[k]:=cFx (by omega);have hs:=h1 k _ hy;unfold aGn;rw[hy,cGy];cases hb:aIn x out[k] with
  | true=>rw[hb]at hs;rw[cQ hs];exact aX4 hl h0 h1 k (by omega)
  | false=>rw[hb]at hs;exact bA hs
def aLv(x:den tPt)(out:lPt):lPt:=out.take (aGn x out out.length)++[x]++out.drop (aGn x out out.length)
theorem bA1(x:den tPt)(out:lPt):tot (.sl tPt) (aLv x out)=tot (.sl tPt) out+(1+tot tPt x):=by
 have h:=vB (t:=tPt) (out.take (aGn x out out.length)) (out.drop (aGn x out out.length));rw[List.take_append_drop]at h;unfold aLv;rw[vB,vB,aHp];omega
def aIy(l:lPt):lPt:=bO (λ_ x a=>aLv x a) 0 l []
theorem bO9(l:lPt):tot (.sl tPt) (aIy l)<=tot (.sl tPt) l:=by
 have h:=aDp (f:=λ_ x (a:lPt)=>aLv x a) (m:=tot (.sl tPt)) (cost:=λx=>1+tot tPt x) (λk x a=>Nat.le_of_eq (bA1 x a)) l 0 [];rw[aVp,aDo]at h;unfold aIy;omega
theorem bYf{l:lPt}(h:tot (.sl tPt) l<=1073741824):uX l=some (aIy l):=by
 have hl:=dX (t:=tPt) l;unfold uX aIy ixb;rw[lJ (λk (a:lPt)=>((k:Int),a)) ((0:Int),[]) [] l (λ_ x a=>aLv x a) (tot (.sl tPt)) (λx=>1+tot tPt x) 1073741824 id rfl (by omega) (by rw[aVp,aDo];omega) (λk x a=>Nat.le_of_eq (bA1 x a)) (λk x a hi hx hd hw hk hb=>by
  have ha:=dX (t:=tPt) a;have hsm:SmB 68719476736 tPt x:=(bM (B:=1073741824) (t:=tPt) (by omega)).mono (by decide);simp only[hd,hi,hw,zZ,aA,bC,bT,bH,bI,bL];rw[aX4 (x:=x) (out:=a) (by omega) (by rfl) (λj y hy=>by
   have hlt:=(cFz.1 hy).1;have hty:=aAu (t:=tPt) hy;have e1:decide (((j+1:Nat):Int)>0)=true:=by simp<;>omega
   have e2:wr (((j+1:Nat):Int) - 1)=(j:Int):=by
    have :wr (((j+1:Nat):Int) - 1)=((j+1:Nat):Int) - 1:=wri (by omega) (by omega);rw[this];omega
   have e3:decide ((j:Int)<(a.length:Int))=true:=by simp;omega
   simp only[e1,e2,e3,cU,zZ,cF2,hy,aA,bRh (a:=x) (b:=y) (by omega) (by omega)];cases aIn x y<;>rfl) a.length (cF8 _)]
  have hp:=bEm x a a.length;have s1:cJ (0:Int) ((aGn x a a.length:Nat):Int) (a.length:Int)=true:=by
   have :=aE1 (a:=0) (b:=aGn x a a.length) (n:=a.length);rw[show ((0:Nat):Int)=0 from rfl]at this;rw[this];simp;omega
  have s2:cJ ((aGn x a a.length:Nat):Int) (a.length:Int) (a.length:Int)=true:=by rw[aE1];simp;omega
  simp only[aA,s1,s2,zZ,iQ,bC1 hp,aHe hsm];rw[aE (b:=24) (by decide) (by simp<;>omega),aE (b:=24) (by decide) (by simp<;>omega),aE (b:=24) (by decide) (by simp<;>omega)];simp only[zZ,cGk,aA];rfl) (λa=>by simp)]
 rfl
def aE4(l:lRv)(now:Int):lRv:=l.filter λx=>decide (now<=x.2.2)
theorem bNv{l:lRv}{now:Int}(h:l.length<=1073741824):iE l now=some (aE4 l now):=by
 unfold iE aE4 pj3;rw[lJ (λk (a:lRv)=>((k:Int),a)) ((0:Int),[]) [] l (λ_ x a=>if decide (now<=x.2.2)=true then a++[x] else a) cGd (λ_=>1) 68719476736 id rfl (by omega) (by rw[fB];simp;omega) (λk x a=>by split<;>simp) (λk x a hi hx hd hw hk hb=>by
  simp only[hd,hi,hw,zZ,aA,aP,aE (b:=24) (n:=a.length) (m:=1) (by decide) (by omega)];cases decide (now<=x.2.2)<;>simp) (λa=>by simp),aD4 (λx:den tRv=>decide (now<=x.2.2))]
 simp
def aE7(l:lRv)(p:den tPt)(now:Int):Bool:= !((aE4 l now).all λx=> !oZ p x)
theorem bI5(l:lRv)(now:Int):(aE4 l now).length<=l.length:=cIn _ _
theorem bOu{l:lRv}{p:den tPt}{now:Int}(h:l.length<=1073741824)(hp:tot tPt p<=1073741824):xE l p now=some (aE7 l p now):=by
 have ha:=bI5 l now;unfold xE aE7 ixb pj3;rw[bNv h,aA];rw[aY (l:=aE4 l now) (λ_ x=>if !oZ p x then none else some true) (by omega) (λk x hi hd hw hm hk=>by
  have hy:(aE4 l now)[k]? =some x:=by rw[<- aN];exact hi
  simp only[hd,hy,hw,zZ,aA,cU,cF2,aP,aWm hp];cases oZ p x<;>rfl) (by simp),nD (λx:den tRv=> !oZ p x)]
 cases (aE4 l now).all (λx=> !oZ p x)<;>rfl
def aKn(l:lRv)(p:lPt)(now:Int):lPt:=(p.filter λx=> !aE7 l x now)++p.filter λx=>aE7 l x now
theorem bL9{l:lRv}{p:lPt}{now:Int}(h:l.length<=1073741824)(hp:tot (.sl tPt) p<=1073741824):kQ l p now=some (aKn l p now):=by
 have hl:=dX (t:=tPt) p;unfold kQ aKn;rw[lJ (λk (a:lPt)=>((k:Int),a)) ((0:Int),[]) [] p (λ_ x a=>if (!aE7 l x now)=true then a++[x] else a) cGd (λ_=>1) 68719476736 id rfl (by omega) (by rw[fB];simp;omega) (λk x a=>by split<;>simp) (λk x a hi hx hd hw hk hb=>by
  have ht:=aAu (t:=tPt) hx;have hsm:SmB 68719476736 tPt x:=(bM (B:=1073741824) (t:=tPt) (by omega)).mono (by decide);simp only[hd,hi,hw,zZ,aA,bOu (l:=l) (p:=x) (now:=now) h (by omega),aHe hsm,aE (b:=24) (n:=a.length) (m:=1) (by decide) (by omega)];cases aE7 l x now<;>simp) (λa=>by simp),aD4 (λx:den tPt=> !aE7 l x now)]
 have e:(p.filter λx=> !aE7 l x now).length<=p.length:=cIn _ _;simp only[id,aA,cGk];rw[lJ (λk (a:lPt)=>((k:Int),a)) ((0:Int),p.filter λx=> !aE7 l x now) (p.filter λx=> !aE7 l x now) p (λ_ x a=>if aE7 l x now=true then a++[x] else a) cGd (λ_=>1) 68719476736 id rfl (by omega) (by rw[fB];omega) (λk x a=>by split<;>simp) (λk x a hi hx hd hw hk hb=>by
  have ht:=aAu (t:=tPt) hx;have hsm:SmB 68719476736 tPt x:=(bM (B:=1073741824) (t:=tPt) (by omega)).mono (by decide);simp only[hd,hi,hw,zZ,aA,bOu (l:=l) (p:=x) (now:=now) h (by omega),aHe hsm,aE (b:=24) (n:=a.length) (m:=1) (by decide) (by omega)];cases aE7 l x now<;>simp) (λa=>by simp),aD4 (λx:den tPt=>aE7 l x now)]
 rfl
def aPn(f:den tFl)(p:lPt)(now:Int):lPt:=(aKn f.2.2.2.2.2.2.2.2 (aIy p) now).take (min (aKn f.2.2.2.2.2.2.2.2 (aIy p) now).length 24)
theorem bXp(n:Nat):(if (24:Int)<(n:Int) then (24:Int) else (n:Int))=((min n 24:Nat):Int):=by
 by_cases c:24<n
 .rw[zT (by omega),Nat.min_eq_right (by omega)];rfl
 .rw[zS (by omega),Nat.min_eq_left (by omega)]
theorem bQc(n:Nat):cJ (0:Int) ((min n 24:Nat):Int) (n:Int)=true:=by
 have :=aE1 (a:=0) (b:=min n 24) (n:=n);rw[show ((0:Nat):Int)=0 from rfl]at this;rw[this];simp;omega
theorem cA1{f:den tFl}{p:lPt}{now:Int}(h:tot tFl f<=1073741824)(hp:tot (.sl tPt) p<=1073741824):rQ f p now=some (f.1,f.2.1,f.2.2.1,f.2.2.2.1,aPn f p now,0,0,f.2.2.2.2.1,f.2.2.2.2.2.2.2.2):=by
 have hf:SmB 68719476736 tFl f:=(bM h).mono (by decide);have hv:f.2.2.2.2.2.2.2.2.length<=1073741824:=cFv (dX (t:=tRv) _) (aT (aT (aT (aT (aT (aT (aT (aT h))))))));have hs:=bO9 p;unfold rQ aPn pj9 zz6 zz8;simp only[aP,aEw hf,bYf hp,bL9 (l:=f.2.2.2.2.2.2.2.2) (p:=aIy p) (now:=now) hv (by omega),aY7,aA,bXp,bQc,zZ,iQ];rfl
theorem bZh{l:lRs}(h:l.length<=1073741824):fL l=some l:=by
 unfold fL;rw[aE (by decide) (by simp;omega)];simp
theorem bZl{g:den tSc}(h1:g.2.1.length<=1073741824)(h2:g.2.2.length<=1073741824):fW g=some g:=by
 unfold fW;rw[bZh h1,aA,aE (by decide) (by simp;omega)];simp
theorem bGc{g:den tSc}(h1:g.2.1.length<=1073741824)(h2:g.2.2.length<=1073741824):jM g=some g:=by
 unfold jM pj3;rw[aE (b:=40) (by decide) (by simp;omega),aE (b:=32) (by decide) (by simp;omega)];simp[bC,bT,bH,bI,bL]
def dK(l:lUs)(id s d:Int):Int:=if place l id s d<0 then 0 else ((l[(place l id s d).toNat]?).map (·.2.2.2)).getD 0
theorem cAb{g:den tSc}{id s d:Int}(h:g.2.2.length<=1073741824):uP g id s d=some (dK g.2.2 id s d):=by
 unfold uP dK pj3;rw[show ((g.1,g.2.1,g.2.2):den tSc)=g from rfl,aUv h,aA];rcases aL9 g.2.2 id s d with hp | ⟨j,x,hp,hx,hj⟩
 .rw[hp];rfl
 .rw[hp,zX (by omega),zZ,aN,hx,zS (by omega)];simp[hx]
theorem cBr{g:den tSc}{id s d:Int}(h:g.2.2.length<=1073741824):rN g id s d=some (dK g.2.2 id s d):=by
 unfold rN dK;rw[bEr h,aA];rcases aL9 g.2.2 id s d with hp | ⟨j,x,hp,hx,hj⟩
 .rw[hp];rfl
 .rw[hp,zW (by omega),zY,aN,hx,zS (by omega)];simp[hx]
def rW(l:lUs)(id s d:Int):lUs:=
 if place l id s d<0 then l++[(id,s,d,1)] else match l[(place l id s d).toNat]? with
  | some x=>l.set (place l id s d).toNat (x.1,x.2.1,x.2.2.1,wr (x.2.2.2+1))
  | none=>l
theorem aYc(l:lUs)(id s d:Int):(rW l id s d).length<=l.length+1:=by
 unfold rW;split
 .simp
 .split<;>simp
theorem cCh{g:den tSc}{id s d:Int}(h1:g.2.1.length<=1073741824)(h2:g.2.2.length<=1073741824):xO g id s d=some (g.1,g.2.1,rW g.2.2 id s d):=by
 unfold xO rW ixb pj3;rw[show ((g.1,g.2.1,g.2.2):den tSc)=g from rfl,bGc h1 h2,aA,bEr h2,aA];rcases aL9 g.2.2 id s d with hp | ⟨j,x,hp,hx,hj⟩
 .rw[hp,aE (b:=32) (by decide) (by omega)];rfl
 .have hd:decide ((j:Int)<(g.2.2.length:Int))=true:=by simpa using hj
  have hd2:decide (j<g.2.2.length)=true:=by simpa using hj
  have hd0:decide ((0:Int)<=(j:Int))=true:=by simp
  rw[hp,zW (show ¬ (j:Int)<0 by omega),zY,zS (by omega)];simp only[hd,hd0,hd2,zZ,cF2,hx,aA]
def oC(g:den tSc)(id s d now:Int):q40:=
 if dK g.2.2 id s d<pB g id s d now then (g.1,true,g.2.1,rW g.2.2 id s d)
 else if dK g.2.2 0 s d<pB g 0 s d now then (g.1,true,g.2.1,rW g.2.2 0 s d)
 else (g.1,false,g.2.1,g.2.2)
theorem bXu{g:den tSc}{id s d now:Int}(h1:g.2.1.length<=1073741824)(h2:g.2.2.length<=1073741824):wV g id s d now=some (oC g id s d now):=by
 unfold wV ixb pj2 pj3;rw[show ((g.1,g.2.1,g.2.2):den tSc)=g from rfl,bZl h1 h2,aA];rw[aY (l:=[id,0]) (λ_ n=>if dK g.2.2 n s d<pB g n s d now then some (g.1,true,g.2.1,rW g.2.2 n s d) else none) (by simp) (λk n hi hd hw hx hk=>by
  rw[aN]at hi;have hd0:decide ((0:Int)<=(k:Int))=true:=by simp
  simp only[hd,hd0,hi,hw,zZ,aA,cF2,cAb h2,bEc h1,aUv h2]
  by_cases hu:dK g.2.2 n s d<pB g n s d now
  .rw[zW (by omega),zY,zT hu];unfold rW;rcases aL9 g.2.2 n s d with hp | ⟨j,x,hp,hx,hj⟩
   .rw[hp,aE (b:=32) (by decide) (by omega)];rfl
   .have hd1:decide ((j:Int)<(g.2.2.length:Int))=true:=by simpa using hj
    have hd2:decide ((j:Int)>=0)=true:=by simp
    have hd3:decide ((0:Int)<=(j:Int))=true:=by simp
    rw[hp,zS (by omega)];simp only[hd1,hd2,hd3,zZ,cF2,hx,aA]
  .rw[zX (by omega),zZ,zS hu]) (by simp)]
 unfold oC;simp only[bW]
 by_cases hu:dK g.2.2 id s d<pB g id s d now
 .simp[hu]
 .by_cases hv:dK g.2.2 0 s d<pB g 0 s d now<;>simp[hu,hv]
theorem bGq{g:den tSc}{id s d now:Int}(h1:g.2.1.length<=1073741824)(h2:g.2.2.length<=1073741824):uA g id s d now=some (oC g id s d now):=by
 unfold uA oC pj2 pj3;rw[show ((g.1,g.2.1,g.2.2):den tSc)=g from rfl];simp only[cBr h2,bL5 h1,cBf h1,cCh h1 h2,bGc h1 h2,aA];have h0:pB g 0 s d now=free g.2.1 g.1 s d now:=rfl;rw[h0]
 by_cases hid:id=0
 .subst hid;rw[h0]
  by_cases hv:dK g.2.2 0 s d<free g.2.1 g.1 s d now<;>simp[hv]
 .have hr:pB g id s d now=aCf g.2.1 id s d now:=by unfold pB;simp[hid]
  have hne:(id != 0)=true:=by simpa using hid
  rw[hr,hne,zZ,aA]
  by_cases hu:dK g.2.2 id s d<aCf g.2.1 id s d now
  .simp[hu]
  .by_cases hv:dK g.2.2 0 s d<free g.2.1 g.1 s d now<;>simp[hu,hv]
def rA(t:den tTo)(r d:Int):Int:=
 match bW (λk x=>if dL x r d then some (k:Int) else none) 0 t.2 with
 | some i=>i
 | none=> -1
theorem aF7(t:den tTo)(r d:Int):rA t r d= -1\/ ∃(j:Nat) (x:den tLk),rA t r d=(j:Int)/\t.2[j]? =some x/\dL x r d=true:=by
 unfold rA;cases h:bW (λk x=>if dL x r d then some (k:Int) else none) 0 t.2 with
 | none=>exact .inl rfl
 | some i=>
  obtain⟨j,x,h1,h2,h3⟩:=aMl h;exact .inr ⟨j,x,by simpa using h2,h1,h3⟩
theorem aQr{t:den tTo}{r d:Int}(h:t.2.length<=68719476736):mI t r d=some (rA t r d):=by
 unfold mI pj5;rw[aY (l:=t.2) (λk x=>if dL x r d then some (k:Int) else none) (by omega) (λk x hi hd hw hx hk=>by
  simp only[hd,hi,hw,zZ,aA,bFl];cases dL x r d<;>rfl) (by simp)]
 unfold rA;cases bW (λk x=>if dL x r d then some (k:Int) else none) 0 t.2<;>rfl
theorem aRo{t:den tTo}{r d:Int}(h:t.2.length<=68719476736):mN t r d=some (rA t r d):=by
 unfold mN pj5;rw[aY (l:=t.2) (λk x=>if dL x r d then some (k:Int) else none) (by omega) (λk x hi hd hw hx hk=>by
  simp only[hd,hi,hw,zZ,aA,bEu];cases dL x r d<;>rfl) (by simp)]
 unfold rA;cases bW (λk x=>if dL x r d then some (k:Int) else none) 0 t.2<;>rfl
def bGw(x:den tLk)(r d:Int):q31:=cond (x.1==r&&x.2.1==d) (x.2.2.1,x.2.2.2.1) (x.1,x.2.1)
def remote(t:den tTo)(r d:Int):q31:=if rA t r d<0 then (-1,0) else bGw ((t.2[(rA t r d).toNat]?).getD (0,0,0,0,0)) r d
theorem aQz{t:den tTo}{r d:Int}(h:t.2.length<=68719476736):mO t r d=some (remote t r d):=by
 unfold mO remote pj2;simp only[aP,aQr h,aA];rcases aF7 t r d with e | ⟨j,x,e,hx,he⟩
 .rw[e];rfl
 .rw[e,zW (by omega),zY,zS (by omega),aN,hx,cF2,hx,aA,cGy];unfold bGw;cases x.1==r<;>cases x.2.1==d<;>rfl
theorem aIa{t:den tTo}{r d:Int}(h:t.2.length<=68719476736):gY t r d=some (remote t r d):=by
 unfold gY remote pj2;simp only[aP,aRo h,aA];rcases aF7 t r d with e | ⟨j,x,e,hx,he⟩
 .rw[e];rfl
 .rw[e,zW (by omega),zY,zS (by omega),aN,hx,cF2,hx,aA,cGy];unfold bGw;cases x.1==r<;>cases x.2.1==d<;>rfl
def bKu(x:den tLk)(r d:Int):Int:=cond (x.2.2.2.2==1) 1 (cond (x.2.2.2.2==3) 4 (cond (x.2.2.2.2==2) (cond (x.1==r&&x.2.1==d) 2 3) 0))
def aCx(t:den tTo)(r d:Int):Int:=cond (d==0) 5 (if rA t r d<0 then 0 else bKu ((t.2[(rA t r d).toNat]?).getD (0,0,0,0,0)) r d)
theorem bY2{t:den tTo}{r d:Int}(h:t.2.length<=68719476736):lG t r d=some (aCx t r d):=by
 unfold lG aCx pj2 zz4;simp only[aP,aQr h,aA];cases d==0
 .rcases aF7 t r d with e | ⟨j,x,e,hx,he⟩
  .rw[e];rfl
  .rw[e,zW (by omega),zY,zY,zY,zS (by omega),aN,hx,cF2,hx,aA,cGy];unfold bKu;rw[show (x.2.2.2.2 != 2)= !(x.2.2.2.2==2) from rfl];cases x.2.2.2.2==1<;>cases x.2.2.2.2==3<;>cases x.2.2.2.2==2<;>cases x.1==r<;>cases x.2.1==d<;>rfl
 .rfl
theorem aVg{t:den tTo}{r d:Int}(h:t.2.length<=68719476736):eM t r d=some (aCx t r d):=by
 unfold eM aCx pj2 zz4;simp only[aP,aRo h,aA];cases d==0
 .rcases aF7 t r d with e | ⟨j,x,e,hx,he⟩
  .rw[e];rfl
  .rw[e,zW (by omega),zY,zY,zY,zS (by omega),aN,hx,cF2,hx,aA,cGy];unfold bKu;cases x.2.2.2.2==1<;>cases x.2.2.2.2==3<;>cases x.2.2.2.2==2<;>cases x.1==r<;>cases x.2.1==d<;>rfl
 .rfl
def aFb(a b:Int):Bool:=cond (a==5||a==2) (b==2||b==5||(b==1||b==3)) (cond (a==3) (b==2||b==5) (cond (a==1) (b==2||b==5||b==1) false))
theorem bNn(a b:Int):lZ a b=some (aFb a b):=by
 unfold lZ aFb;cases c5:a==5<;>cases c2:a==2<;>cases a==3<;>cases a==1<;>cases b==2<;>cases b==5<;>cases b==1<;>cases b==3<;>first | rfl | (simp at c5 c2;omega)
theorem bP3(a b:Int):lU a b=some (aFb a b):=by
 unfold lU aFb;cases c5:a==5<;>cases c2:a==2<;>cases a==3<;>cases a==1<;>cases b==2<;>cases b==5<;>cases b==1<;>cases b==3<;>first | rfl | (simp at c5 c2;omega)
def aNb(t:den tTo)(s:den mY):Bool:=aFb (aCx t s.1 s.2.1) (aCx t s.1 s.2.2)&&(!(s.2.1==s.2.2)||s.2.1==0)
theorem bYc{t:den tTo}{s:den mY}(h:t.2.length<=68719476736):qM t s=some (aNb t s):=by
 unfold qM aNb pj2;simp only[aP,bY2 h,bNn,aA];rw[show (s.2.1 != s.2.2)= !(s.2.1==s.2.2) from rfl];cases aFb (aCx t s.1 s.2.1) (aCx t s.1 s.2.2)<;>cases s.2.1==s.2.2<;>cases s.2.1==0<;>rfl
theorem bZa{t:den tTo}{s:den mY}(h:t.2.length<=68719476736):qR t s=some (aNb t s):=by
 unfold qR aNb pj2;simp only[aP,aVg h,bP3,aA];rw[show (s.2.1 != 0)= !(s.2.1==0) from rfl];cases aFb (aCx t s.1 s.2.1) (aCx t s.1 s.2.2)<;>cases s.2.1==s.2.2<;>cases s.2.1==0<;>rfl
def aB2(s i:Int):Bool:=inR s 0 65535&&(inR i 0 15&&(aAg .i64 (shr .i64 s i) 1==1))
theorem aX6{i:Int}(h:inR i 0 15=true):IntKind.wrap .u64 i=i:=by
 obtain⟨h0,h1⟩:=aV.1 h;have :=bAl (n:=i.toNat) (by omega)
 rwa [cIf h0]at this
theorem bXb(s i:Int):wU s i=some (aB2 s i):=by
 unfold wU aB2 sB;simp only[lR,aA];cases inR s 0 65535
 .rfl
 .cases c:inR i 0 15
  .rfl
  .rw[aX6 c,zW (by have :=aV.1 c;omega)];rfl
theorem bYj(s i:Int):wX s i=some (aB2 s i):=by
 unfold wX aB2 rP aAp;simp only[jU,aA];cases inR s 0 65535
 .rfl
 .cases c:inR i 0 15
  .rfl
  .simp only[zZ,aA,zW (show ¬ i<0 by have :=aV.1 c;omega),zY,cGf]
def aQt(s i:Int):Int:=cond (inR s 0 65535&&inR i 0 15) (bOr .i64 s (shl .i64 1 i)) s
theorem cCy(s i:Int):tH s i=some (aQt s i):=by
 unfold tH aQt sB;simp only[lR,aA];cases inR s 0 65535
 .rfl
 .cases c:inR i 0 15
  .rfl
  .rw[aX6 c,zW (by have :=aV.1 c;omega)];rfl
theorem bZz(s i:Int):sE s i=some (aQt s i):=by
 unfold sE aQt rP aAp;simp only[jU,aA];cases inR s 0 65535
 .rfl
 .cases c:inR i 0 15
  .rfl
  .rw[zW (by have :=aV.1 c;omega)];rfl
theorem aZm{α:Type}(p:α->Bool)(N:Int):∀(l:List α) (k:Nat),N=((k+l.length:Nat):Int)->aLr (λk x (_:Unit)=>if p x then .inl () else .inr (k:Int)) (λ_=>N) k l ()=((k+l.findIdx (λx=> !p x):Nat):Int)
 | [],k,h=>by simpa [aLr] using h
 | x::xs,k,h=>by
  simp only[aLr,List.findIdx_cons];cases hp:p x with
  | true=>
   have :=aZm p N xs (k+1) (by rw[h];simp;omega);simp only[zV,this,cF0,zY];omega
  | false=>simp
def mE(l:List Int)(n:Int):Nat:=l.findIdx λx=> !decide (x<n)
theorem aUs(l:List Int)(n:Int):mE l n<=l.length:=List.findIdx_le_length
theorem aXm{l:List Int}{n:Int}{step:Int->Option (Int⊕Int)}(hl:l.length<=68719476736)
  (h:∀(k:Nat) (x:Int),idx l (k:Int)=some x->l[k]? =some x->decide ((k:Int)<(l.length:Int))=true->IntKind.i64.wrap ((k:Int)+1)=((k+1:Nat):Int)->step (k:Int)=some (if decide (x<n) then .inl ((k+1:Nat):Int) else .inr (k:Int)))
  (he:step (l.length:Int)=some (.inr (l.length:Int))):aC step (0:Int)=some (mE l n:Int):=by
 rw[aPw (λk (_:Unit)=>(k:Int)) (0:Int) () l (λk x _=>if decide (x<n) then .inl () else .inr (k:Int)) (λ_ _=>True) (λ_=>(l.length:Int)) rfl (by omega) trivial (λk x a hi hx hd hw hk _=>by
  refine⟨?_,λ_ _=>trivial⟩;rw[h k x hi hx hd hw];cases decide (x<n)<;>rfl) (λ_ _=>he)]
 rw[aZm (λx=>decide (x<n)) (l.length:Int) l 0 (by simp)];simp[mE]
def qV(l:List Int)(n:Int):List Int:=if l[mE l n]? =some n then l else l.take (mE l n)++[n]++l.drop (mE l n)
theorem aIj(l:List Int)(n:Int):(qV l n).length<=l.length+1:=by
 unfold qV;split
 .omega
 .simp;omega
theorem aHh{k n:Nat}(h:k<=n):cJ (0:Int) (k:Int) (n:Int)=true:=by
 simp only[cJ,cFw,zR];omega
theorem aBw{k n:Nat}(h:k<=n):cJ (k:Int) (n:Int) (n:Int)=true:=by
 simp only[cJ,cFw,zR];omega
theorem aC7{α:Type}{l:List α}{k:Nat}:cut l (k:Int) (l.length:Int)=l.drop k:=by
 unfold cut;rw[cF2];apply List.take_of_length_le;simp
theorem bE3{l:List Int}(h:l.length<=68719476736):rY l=some l:=by
 unfold rY;rw[aE (n:=([]:List Int).length) (by decide) (by simpa using h)];rfl
theorem aTq{l:List Int}{n:Int}{b:Bool}(hb:(l[mE l n]? =some n)=(b=true)):qV l n=cond b l (l.take (mE l n)++[n]++l.drop (mE l n)):=by
 unfold qV;cases b with
 | true=>rw[zT (by rw[hb])];rfl
 | false=>rw[zS (by rw[hb];simp)];rfl
theorem aPb{l:List Int}{n:Int}(h:l.length<=4294967296):nY l n=some (qV l n):=by
 have hp:=aUs l n;unfold nY;rw[aXm (l:=l) (n:=n) (by omega) (λk x hi hx hd hw=>by
  simp only[hd,zZ,hi,aA,hw];cases decide (x<n)<;>rfl) (by simp)]
 simp only[aA,aHh hp,aBw hp,iQ,aC7,zZ,bC,bT,bH,bI,bL,bE3 (l:=l.take (mE l n)) (by simp;omega)];rw[aE (b:=8) (n:=(l.take (mE l n)).length) (m:=1) (by decide) (by simp;omega),aE (b:=8) (m:=(l.drop (mE l n)).length) (by decide) (by simp;omega)]
 by_cases hlt:mE l n<l.length
 .have hx:l[mE l n]? =some l[mE l n]:=cFx hlt;rw[zX (by omega),zZ,aN,hx,aA,aA];rw[aTq (b:=l[mE l n]==n) (by rw[hx];simp)];cases l[mE l n]==n<;>rfl
 .rw[zW (by omega),zY,aA];rw[aTq (b:=false) (by rw[List.getElem?_eq_none (by omega)];simp)];rfl
theorem aT4{l:List Int}{n:Int}(h:l.length<=4294967296):xW l n=some (qV l n):=by
 have hp:=aUs l n;unfold xW ixb;rw[aXm (l:=l) (n:=n) (by omega) (λk x hi hx hd hw=>by
  simp only[hd,zZ,cU,cF2,hx,aA,hw];cases decide (x<n)<;>rfl) (by simp)]
 simp only[aA,aHh hp,aBw hp,iQ,aC7,zZ,bC,bT,bH,bI,bL,cGk,cHn];rw[aE (b:=8) (n:=0) (m:=(l.take (mE l n)).length) (by decide) (by simp;omega),aE (b:=8) (n:=(l.take (mE l n)).length) (m:=1) (by decide) (by simp;omega),aE (b:=8) (m:=(l.drop (mE l n)).length) (by decide) (by simp;omega)]
 by_cases hlt:mE l n<l.length
 .have hx:l[mE l n]? =some l[mE l n]:=cFx hlt;rw[zX (by omega),zZ,cU,zZ,zZ,cF2,hx,aA,aA];rw[aTq (b:=l[mE l n]==n) (by rw[hx];simp)];cases l[mE l n]==n<;>rfl
 .rw[zW (by omega),zY,aA];rw[aTq (b:=false) (by rw[List.getElem?_eq_none (by omega)];simp)];rfl
def pS(r:Int)(x:den tLk)(a:List Int):List Int:=cond (x.2.2.1==r) (qV (cond (x.1==r) (qV a x.2.1) a) x.2.2.2.1) (cond (x.1==r) (qV a x.2.1) a)
theorem aO8(r:Int)(x:den tLk)(a:List Int):(pS r x a).length<=a.length+2:=by
 unfold pS;have h1:=aIj a x.2.1;have h2:=aIj (qV a x.2.1) x.2.2.2.1;have h3:=aIj a x.2.2.2.1;cases x.1==r<;>cases x.2.2.1==r<;>simp only[zZ,zY]<;>omega
def hZ(t:den tTo)(r:Int):List Int:=bO (λ_ x a=>pS r x a) 0 t.2 []
theorem aF4(t:den tTo)(r:Int):(hZ t r).length<=2 * t.2.length:=by
 have h:=aDp (f:=λ_ x (a:List Int)=>pS r x a) (m:=cGd) (cost:=λ_=>2) (λk x a=>aO8 r x a) t.2 0 [];rw[aHv]at h;simpa [hZ] using h
theorem bZi{t:den tTo}{r:Int}(h:t.2.length<=1073741824):sY t r=some (hZ t r):=by
 unfold sY;rw[(vZ (λk (a:List Int)=>(a,(k:Int))) ([],(0:Int)) [] t.2 (λ_ x a=>pS r x a) cGd (λ_=>2) 4294967296 id rfl (by omega) (by rw[aHv];simp;omega) (λk x a hi hx hd hw hk hb=>by
  refine⟨?_,aO8 r x a⟩;have h1:=aIj a x.2.1;simp only[hd,hi,hw,zZ,aA,aPb (l:=a) (by omega),aPb (l:=qV a x.2.1) (by omega)];unfold pS;cases x.1==r<;>cases x.2.2.1==r<;>simp only[zZ,zY,aA,aPb (l:=a) (by omega),aPb (l:=qV a x.2.1) (by omega)]) (λa=>by simp)).1]
 rfl
theorem aPg{t:den tTo}{r:Int}(h:t.2.length<=1073741824):iP t r=some (hZ t r):=by
 unfold iP;rw[(vZ (λk (a:List Int)=>((k:Int),a)) ((0:Int),[]) [] t.2 (λ_ x a=>pS r x a) cGd (λ_=>2) 4294967296 id rfl (by omega) (by rw[aHv];simp;omega) (λk x a hi hx hd hw hk hb=>by
  refine⟨?_,aO8 r x a⟩;have h1:=aIj a x.2.1;simp only[hd,hi,hw,zZ,aA,aT4 (l:=a) (by omega),aT4 (l:=qV a x.2.1) (by omega)];unfold pS;cases x.1==r<;>cases x.2.2.1==r<;>simp only[zZ,zY,aA,aT4 (l:=a) (by omega),aT4 (l:=qV a x.2.1) (by omega)]) (λa=>by simp)).1]
 rfl
theorem aLq{α:Type}(l:List α):(l.map λ_=>0).sum=0:=by
 induction l with
 | nil=>rfl
 | cons x l ih=>rw[cGg,cHg,ih]
def dI(t:den tTo)(dead:List Int)(r:Int):Int:=bO (λ_ x a=>cond (pF dead (rA t r x)) (aQt a x) a) 0 (hZ t r) 0
theorem aPm{t:den tTo}{dead:List Int}{r:Int}(h:t.2.length<=1073741824)(hd:dead.length<=68719476736):cF t dead r=some (dI t dead r):=by
 have hl:=aF4 t r;unfold cF pj2;simp only[aP,bZi h,aA];rw[lJ (λk (a:Int)=>(a,(k:Int))) ((0:Int),(0:Int)) 0 (hZ t r) (λ_ x a=>cond (pF dead (rA t r x)) (aQt a x) a) (λ_=>0) (λ_=>0) 0 id rfl (by omega) (by rw[aLq];exact cF8 _) (λ_ _ _=>cF8 _) (λk x a hi hx hd' hw hk hb=>by
  simp only[hd',hi,hw,zZ,aA,aQr (t:=t) (r:=r) (d:=x) (by omega),aOn hd,cCy];cases pF dead (rA t r x)<;>rfl) (λa=>by simp)]
 rfl
theorem bF9{t:den tTo}{dead:List Int}{r:Int}(h:t.2.length<=1073741824)(hd:dead.length<=68719476736):fN t dead r=some (dI t dead r):=by
 have hl:=aF4 t r;unfold fN ixb pj2;simp only[aP,aPg h,aA];rw[lJ (λk (a:Int)=>(a,(k:Int))) ((0:Int),(0:Int)) 0 (hZ t r) (λ_ x a=>cond (pF dead (rA t r x)) (aQt a x) a) (λ_=>0) (λ_=>0) 0 id rfl (by omega) (by rw[aLq];exact cF8 _) (λ_ _ _=>cF8 _) (λk x a hi hx hd' hw hk hb=>by
  simp only[hd',cU,cF2,hx,hw,zZ,aA,aRo (t:=t) (r:=r) (d:=x) (by omega),aH2 hd,bZz];cases pF dead (rA t r x)<;>rfl) (λa=>by simp)]
 rfl
def aKf(key ts beta:Int)(h:den bV):Int:=aF3 (([key]++[ts,beta,h.1,h.2.1,h.2.2.1,h.2.2.2.1])++[key])
theorem bZ7(key ts beta:Int)(h:den bV):aBt key ts beta h=some (aKf key ts beta h):=by
 unfold aBt vW aKf;rw[aE (b:=8) (n:=[key].length) (by decide) (by simp),aE (b:=8) (by decide) (by simp),bR5 (by simp)];rfl
theorem bNy(key ts beta:Int)(h:den bV):yE key ts beta h=some (aKf key ts beta h):=by
 unfold yE vQ aKf;rw[aE (b:=8) (n:=[key].length) (by decide) (by simp),aE (b:=8) (by decide) (by simp),aZz (by simp)];rfl
def h0:den bV:=(0,0,0,0,0)
def bGv(t:den tTo)(r:Int):Int:=((t.1[r.toNat]?).getD (0,false,0)).2.2
def aBy(t:den tTo)(ts beta:Int)(h:den bV):Bool:=jZ h&&(dE t h.1&&(h.2.2.2.2==aKf (bGv t h.1) ts beta h))
theorem bPr{t:den tTo}{ts beta:Int}{h:den bV}(ht:t.1.length<=68719476736):pH t ts beta h=some (aBy t ts beta h):=by
 unfold pH aBy pj2 pj5 zz4;simp only[aP,aQv,aKm ht,aA,bZ7];cases jZ h
 .rfl
 .cases c:dE t h.1
  .rfl
  .obtain⟨x,hx,ix⟩:=aG1 c;rw[ix,bGv,hx];rfl
theorem bA2{t:den tTo}{ts beta:Int}{h:den bV}(ht:t.1.length<=68719476736):gX t ts beta h=some (aBy t ts beta h):=by
 unfold gX aBy pj2 pj5 zz4;simp only[aP,aM6,aFx ht,aA,bNy];cases jZ h
 .rfl
 .cases c:dE t h.1
  .rfl
  .obtain⟨x,hx,ix⟩:=aG1 c;rw[ix,bGv,hx];rfl
def aD2(t:den tTo)(l:cR)(k:Nat)(x:den bV):Bool:=jZ x&&(dE t x.1&&(l.take k).all λy=> !(y.1==x.1))
def aK4(t:den tTo)(l:cR):Bool:=(l.zipIdx 0).all λz=>aD2 t l z.2 z.1
theorem bX2{t:den tTo}{l:cR}(ht:t.1.length<=68719476736)(hl:l.length<=68719476736):aBg t l=some (inR (l.length:Int) 1 8&&aK4 t l):=by
 unfold aBg aK4 pj2 pj5;rw[aY (l:=l) (λk x=>if aD2 t l k x then none else some false) (by omega) (λk x hi hd hw hm hk=>by
  simp only[hd,hi,zZ,aA,aP,aQv,aKm ht,zG hk,iQ,hw];rw[aY (l:=l.take k) (λ_ y=>if !(y.1==x.1) then none else some (cFt (cFt false))) (by rw[yG hk];omega) (λj y hi hd hw hm hk=>by
   simp only[hd,hi,hw,zZ,aA];cases y.1==x.1<;>rfl) (by simp),nD (λy:den bV=> !(y.1==x.1))]
  unfold aD2;cases jZ x<;>cases dE t x.1<;>cases (l.take k).all (λy=> !(y.1==x.1))<;>rfl) (by simp),aEd (aD2 t l)]
 rw[lR,aA];cases inR (l.length:Int) 1 8<;>cases (l.zipIdx 0).all (λz=>aD2 t l z.2 z.1)<;>rfl
def aJ9(t:den tTo)(p:den tPp)(x y:den bV):Bool:= !(pEg p x==0)&&((remote t x.1 (pEg p x)).1==y.1&&(remote t x.1 (pEg p x)).2==pIn p y)
def aAo(t:den tTo)(p:den tPp)(k:Nat)(y:den bV):Bool:=decide (k=0)||aJ9 t p ((p.2.2.2[k - 1]?).getD h0) y
def fU(t:den tTo)(p:den tPp):Bool:=
 inR (p.2.2.2.length:Int) 1 8&&(inR p.1 1 4&&(inR p.2.1 0 1000000&&(lO p.2.2.1&&(aK4 t p.2.2.2&&(p.2.2.2.zipIdx 0).all λz=>aAo t p z.2 z.1))))
theorem bQr(t:den tTo)(p:den tPp):((p.2.2.2.drop 1).zipIdx 0).all (λz=>aJ9 t p ((p.2.2.2[z.2]?).getD h0) z.1)=(p.2.2.2.zipIdx 0).all (λz=>aAo t p z.2 z.1):=by
 rw[cGl,aAt (λk x=>aJ9 t p ((p.2.2.2[k]?).getD h0) x),aAt (aAo t p)];constructor
 .intro h k x hx;cases k with
  | zero=>rfl
  | succ k=>
   have :=h k x (by rw[cHo,Nat.add_comm];exact hx);simpa [aAo] using this
 .intro h k x hx;rw[cHo,Nat.add_comm]at hx;have :=h (k+1) x hx;simpa [aAo] using this
theorem aF9(a b:Int):(a != b)= !(a==b):=rfl
theorem bM6{t:den tTo}{p:den tPp}(ht:t.1.length<=68719476736)(ht2:t.2.length<=68719476736)(hl:p.2.2.2.length<=68719476736):uT t p=some (fU t p):=by
 unfold uT fU pj2 pj4;rw[aY (l:=p.2.2.2.drop 1) (λk y=>if aJ9 t p ((p.2.2.2[k]?).getD h0) y then none else some false) (by rw[cH7];omega) (λk y hi hd hw hm hk=>by
  have hy:p.2.2.2[k+1]? =some y:=by rw[aN,cHo,Nat.add_comm]at hi;exact hi
  have hlt:k+1<p.2.2.2.length:=(cFz.1 hy).1;obtain⟨x,hx⟩:∃x,p.2.2.2[k]? =some x:=⟨_,cFx (by omega)⟩
  have hd':decide ((k:Int)<wr ((p.2.2.2.length:Int) - 1))=true:=by rw[lM hl];simp;omega
  have hy':idx p.2.2.2 ((k+1:Nat):Int)=some y:=by rw[aN];exact hy
  simp only[hd',zZ,aP,bKk hx hl,aA,aN,hx,hw,hy,bH5 hy hl,aQz ht2,cGy,aF9];unfold aJ9;cases pEg p x==0<;>cases (remote t x.1 (pEg p x)).1==y.1<;>cases (remote t x.1 (pEg p x)).2==pIn p y<;>rfl) (by
   rw[cH7,lM hl,zW (by omega)];rfl),aEd (λk y=>aJ9 t p ((p.2.2.2[k]?).getD h0) y),bQr]
 simp only[aP,lR,bX2 ht hl,aHx,aA];cases inR (p.2.2.2.length:Int) 1 8<;>cases inR p.1 1 4<;>cases inR p.2.1 0 1000000<;>cases lO p.2.2.1<;>cases aK4 t p.2.2.2<;>cases (p.2.2.2.zipIdx 0).all (λz=>aAo t p z.2 z.1)<;>rfl
theorem aE8{α S:Type}(p:Nat->α->Bool)(o r:S):∀(l:List α) (k:Nat),aLr (λk x (_:Unit)=>if p k x then .inl () else .inr r) (λ_=>o) k l ()=if (l.zipIdx k).all (λz=>p z.2 z.1) then o else r
 | [],_=>rfl
 | x::xs,k=>by
  simp only[aLr,List.zipIdx_cons,List.all_cons];rcases cIx (p k x) with h | h
  .simp only[h,zV,cGf];exact aE8 p o r xs (k+1)
  .simp[h]
theorem bQ3{p:den tPp}(hl:p.2.2.2.length<=68719476736):uO p=some (p.2.2.2.map (·.1)):=by
 unfold uO;rw[(vZ (λk (a:List Int)=>((k:Int),a)) ((0:Int),[]) [] p.2.2.2 (λ_ x a=>a++[x.1]) cGd (λ_=>1) 68719476736 id rfl (by omega) (by rw[fB];simpa using hl) (λk x a hi hx hd hw hk hb=>by
  simp only[hd,hi,hw,zZ,aA,aE (b:=8) (by decide) hb];simp) (λa=>by simp)).1,iC (λx:den bV=>x.1)]
 simp
theorem bRt(l:cR)(k:Nat)(n:Int):pF ((l.map (·.1)).take k) n= !((l.take k).all λy=> !(y.1==n)):=by
 unfold pF;rw[<- List.map_take,List.all_map];rfl
theorem bLx{t:den tTo}{p:den tPp}(ht:t.1.length<=68719476736)(ht2:t.2.length<=68719476736)(hl:p.2.2.2.length<=68719476736):uV t p=some (fU t p):=by
 unfold uV fU pj2 pj4 pj5;simp only[aP,bQ3 hl,aA];have hR:(p.2.2.2.map (·.1)).length=p.2.2.2.length:=by simp
 rw[aPw (λk (_:Unit)=>(p.2.2.2.map (·.1),(k:Int))) (p.2.2.2.map (·.1),(0:Int)) () p.2.2.2 (λk x _=>if (aD2 t p.2.2.2 k x&&aAo t p k x) then .inl () else .inr (.inr false)) (λ_ _=>True) (λ_=> .inl ()) rfl (by omega) trivial (λk x a hi hx hd hw hk _=>by
  refine⟨?_,λ_ _=>trivial⟩;have hr:(p.2.2.2.map (·.1))[k]? =some x.1:=by rw[cHz,hx];rfl
  have hs:cJ (0:Int) (k:Int) ((p.2.2.2.map (·.1)).length:Int)=true:=by rw[hR];exact zG hk
  have hh:gJ ((p.2.2.2.map (·.1)).take k) x.1=some (!((p.2.2.2.take k).all λy=> !(y.1==x.1))):=by
   rw[aH2 (by simp;omega),bRt]
  simp only[hd,zZ,hi,aN,hr,aA,aM6,aFx ht,hs,iQ,hh,hw];cases k with
  | zero=>
   rw[show decide (((0:Nat):Int)>0)=false from by decide];unfold aD2 aAo;cases jZ x<;>cases dE t x.1<;>cases (p.2.2.2.take 0).all (λy=> !(y.1==x.1))<;>rfl
  | succ j=>
   have hw1:wr (((j+1:Nat):Int) - 1)=(j:Int):=(wri (by omega) (by omega)).trans (by omega);obtain⟨y,hy⟩:∃y,p.2.2.2[j]? =some y:=⟨_,cFx (by omega)⟩
   have hr1:(p.2.2.2.map (·.1))[j]? =some y.1:=by rw[cHz,hy];rfl
   rw[show decide (((j+1:Nat):Int)>0)=true from by simp];simp only[hw1,aN,hr1,aA,aZa hy hl,bK5 hx hl,aIa ht2,zZ,aF9];unfold aD2 aAo aJ9;rw[cI9,hy,cGy];cases jZ x<;>cases dE t x.1<;>cases (p.2.2.2.take (j+1)).all (λy=> !(y.1==x.1))<;>cases pEg p y==0<;>cases (remote t y.1 (pEg p y)).1==x.1<;>cases (remote t y.1 (pEg p y)).2==pIn p x<;>rfl) (λa _=>by simp)]
 rw[aE8 (λk x=>aD2 t p.2.2.2 k x&&aAo t p k x)];have hsplit:(p.2.2.2.zipIdx 0).all (λz=>aD2 t p.2.2.2 z.2 z.1&&aAo t p z.2 z.1)=(aK4 t p.2.2.2&&(p.2.2.2.zipIdx 0).all λz=>aAo t p z.2 z.1):=by
  unfold aK4;rw[cGl];simp only[cGm,cFw];exact⟨λh=>⟨λz hz=>(h z hz).1,λz hz=>(h z hz).2⟩,λh z hz=>⟨h.1 z hz,h.2 z hz⟩⟩
 rw[hsplit];simp only[jU,aEs,aA];cases inR (p.2.2.2.length:Int) 1 8<;>cases inR p.1 1 4<;>cases inR p.2.1 0 1000000<;>cases lO p.2.2.1<;>cases aK4 t p.2.2.2<;>cases (p.2.2.2.zipIdx 0).all (λz=>aAo t p z.2 z.1)<;>rfl
def aCq(k:Int):Int:=cond (k==1) 1 (cond (k==2||k==3) 2 3)
theorem bSe(k:Int):xM k=some (aCq k):=by
 unfold xM aCq;cases k==1<;>cases k==2<;>cases k==3<;>rfl
theorem bSa(k:Int):xV k=some (aCq k):=by
 unfold xV aCq;cases k==1<;>cases k==2<;>cases k==3<;>rfl
def pt0:den tPp:=(0,0,0,[])
def aB8(y:den tPp):den bV:=(y.2.2.2[y.2.2.2.length - 1]?).getD h0
def aEk(y:den tPp):den bV:=(y.2.2.2[0]?).getD h0
def aLa(y x:den tPp):Bool:= !decide (aCq y.1>=aCq x.1)&&(aB8 y).1==(aEk x).1
def wG(t:den tTo)(p:den tPt)(k:Nat)(x:den tPp):Bool:=fU t x&&(decide (k=0)||aLa ((p[k - 1]?).getD pt0) x)
def wfP(t:den tTo)(p:den tPt):Bool:=inR (p.length:Int) 1 3&&(p.zipIdx 0).all λz=>wG t p z.2 z.1
theorem aAr{t:den tTo}{p:den tPp}(h:fU t p=true):0<p.2.2.2.length:=by
 unfold fU at h;rw[cFw]at h;have :=aV.1 h.1;omega
theorem bCn{y:den tPp}(h:0<y.2.2.2.length)(hl:y.2.2.2.length<=68719476736):idx y.2.2.2 (wr ((y.2.2.2.length:Int) - 1))=some (aB8 y):=by
 rw[bCd hl h,aN];unfold aB8;rw[cFx (show y.2.2.2.length - 1<y.2.2.2.length by omega)];rfl
theorem bAc{y:den tPp}(h:0<y.2.2.2.length):idx y.2.2.2 (0:Int)=some (aEk y):=by
 have :idx y.2.2.2 ((0:Nat):Int)=y.2.2.2[0]? :=aN;rw[show (0:Int)=((0:Nat):Int) from rfl,this];unfold aEk;rw[cFx h];rfl
theorem cDz{t:den tTo}{p:den tPt}(ht:t.1.length<=68719476736)(ht2:t.2.length<=68719476736)(h:SmB 68719476736 tPt p):mF t p=some (wfP t p):=by
 have lp:=h.1;have lh:∀(k:Nat) (x:den tPp),p[k]? =some x->x.2.2.2.length<=68719476736:=λk x hx=>(h.2 x (cF9 hx)).2.2.2.1
 unfold mF wfP pj2 pj4;rw[aPw (λk (_:Unit)=>(k:Int)) (0:Int) () p (λk x _=>if wG t p k x then .inl () else .inr (.inr false)) (λk _=> ∀j y,j<k->p[j]? =some y->0<y.2.2.2.length) (λ_=> .inl ()) rfl (by omega) (λj y hj=>absurd hj (cI6 _)) (λk x a hi hx hd hw hk hI=>by
  have hlx:=lh k x hx;refine⟨?_,λa' ha j y hj hy=> ?_⟩
  .simp only[hd,zZ,hi,aA,aP,bM6 ht ht2 hlx,hw];cases hv:fU t x with
   | false=>unfold wG;rw[hv];rfl
   | true=>
    cases k with
    | zero=>
     rw[show decide (((0:Nat):Int)>0)=false from by decide];unfold wG;rw[hv];rfl
    | succ j=>
     have hw1:wr (((j+1:Nat):Int) - 1)=(j:Int):=(wri (by omega) (by omega)).trans (by omega);obtain⟨y,hy⟩:∃y,p[j]? =some y:=⟨_,cFx (by omega)⟩
     rw[show decide (((j+1:Nat):Int)>0)=true from by simp];simp only[hw1,aN,hy,aA,bSe,bCn (hI j y (Nat.lt_succ_self j) hy) (lh j y hy),bAc (aAr hv),zZ,aF9,cF0,zY];unfold wG aLa;rw[cI9,hy,cGy,hv];cases decide (aCq y.1>=aCq x.1)<;>cases (aB8 y).1==(aEk x).1<;>rfl
  .rcases Nat.lt_succ_iff_lt_or_eq.1 hj with hj | rfl
   .exact hI j y hj hy
   .rw[hx]at hy;injection hy with hy;subst hy;rcases cIx (wG t p j x) with hb | hb
    .unfold wG at hb;rw[cFw]at hb;exact aAr hb.1
    .simp[hb]at ha) (λa _=>by simp)]
 rw[aE8 (wG t p),lR,aA];cases inR (p.length:Int) 1 3<;>cases (p.zipIdx 0).all (λz=>wG t p z.2 z.1)<;>rfl
theorem cDt{t:den tTo}{p:den tPt}(ht:t.1.length<=68719476736)(ht2:t.2.length<=68719476736)(h:SmB 68719476736 tPt p):mB t p=some (wfP t p):=by
 have lp:=h.1;have lh:∀(k:Nat) (x:den tPp),p[k]? =some x->x.2.2.2.length<=68719476736:=λk x hx=>(h.2 x (cF9 hx)).2.2.2.1
 unfold mB wfP pj2 pj4;rw[aPw (λk (_:Unit)=>(k:Int)) (0:Int) () p (λk x _=>if wG t p k x then .inl () else .inr (.inr false)) (λk _=> ∀j y,j<k->p[j]? =some y->0<y.2.2.2.length) (λ_=> .inl ()) rfl (by omega) (λj y hj=>absurd hj (cI6 _)) (λk x a hi hx hd hw hk hI=>by
  have hlx:=lh k x hx;refine⟨?_,λa' ha j y hj hy=> ?_⟩
  .simp only[hd,zZ,hi,aA,aP,bLx ht ht2 hlx,hw];cases hv:fU t x with
   | false=>unfold wG;rw[hv];rfl
   | true=>
    cases k with
    | zero=>
     rw[show decide (((0:Nat):Int)>0)=false from by decide];unfold wG;rw[hv];rfl
    | succ j=>
     have hw1:wr (((j+1:Nat):Int) - 1)=(j:Int):=(wri (by omega) (by omega)).trans (by omega);obtain⟨y,hy⟩:∃y,p[j]? =some y:=⟨_,cFx (by omega)⟩
     rw[show decide (((j+1:Nat):Int)>0)=true from by simp];simp only[hw1,aN,hy,aA,bSa,bCn (hI j y (Nat.lt_succ_self j) hy) (lh j y hy),bAc (aAr hv),zZ,aF9,cF0,zY];unfold wG aLa;rw[cI9,hy,cGy,hv];cases decide (aCq y.1>=aCq x.1)<;>cases (aB8 y).1==(aEk x).1<;>rfl
  .rcases Nat.lt_succ_iff_lt_or_eq.1 hj with hj | rfl
   .exact hI j y hj hy
   .rw[hx]at hy;injection hy with hy;subst hy;rcases cIx (wG t p j x) with hb | hb
    .unfold wG at hb;rw[cFw]at hb;exact aAr hb.1
    .simp[hb]at ha) (λa _=>by simp)]
 rw[aE8 (wG t p),jU,aA];cases inR (p.length:Int) 1 3<;>cases (p.zipIdx 0).all (λz=>wG t p z.2 z.1)<;>rfl
def aEc(l:List Int)(k:Nat)(n:Int):Bool:= !pF (l.take k) n
def nP(t:den tTo)(p:den tPt):Bool:=wfP t p&&((fG p).zipIdx 0).all λz=>aEc (fG p) z.2 z.1
theorem aVb{p:den tPt}(h:tot tPt p<=1073741824):SmB 68719476736 tPt p:=(bM h).mono (by decide)
theorem aX9{t:den tTo}{p:den tPt}(ht:t.1.length<=68719476736)(ht2:t.2.length<=68719476736)(h:tot tPt p<=1073741824):iS t p=some (nP t p):=by
 have hu:=aJa p;unfold iS nP pj2;simp only[aP,cDz ht ht2 (aVb h),bD9 h,aA];rw[aPw (λk (_:Unit)=>(fG p,fG p,(k:Int))) (fG p,fG p,(0:Int)) () (fG p) (λk x _=>if aEc (fG p) k x then .inl () else .inr (.inr false)) (λ_ _=>True) (λ_=> .inl ()) rfl (by omega) trivial (λk x a hi hx hd hw hk _=>by
  refine⟨?_,λ_ _=>trivial⟩;simp only[hd,zZ,hi,aA,zG hk,iQ,hw,aOn (l:=(fG p).take k) (n:=x) (by simp;omega)];unfold aEc;cases pF ((fG p).take k) x<;>rfl) (λa _=>by simp)]
 rw[aE8 (aEc (fG p))];cases wfP t p<;>cases ((fG p).zipIdx 0).all (λz=>aEc (fG p) z.2 z.1)<;>rfl
theorem aX2{t:den tTo}{p:den tPt}(ht:t.1.length<=68719476736)(ht2:t.2.length<=68719476736)(h:tot tPt p<=1073741824):mD t p=some (nP t p):=by
 have hu:=aJa p;unfold mD nP pj2;simp only[aP,cDt ht ht2 (aVb h),bE9 h,aA];rw[aPw (λk (_:Unit)=>(fG p,(k:Int))) (fG p,(0:Int)) () (fG p) (λk x _=>if aEc (fG p) k x then .inl () else .inr (.inr false)) (λ_ _=>True) (λ_=> .inl ()) rfl (by omega) trivial (λk x a hi hx hd hw hk _=>by
  refine⟨?_,λ_ _=>trivial⟩;simp only[hd,zZ,hi,aA,zG hk,iQ,hw,aH2 (l:=(fG p).take k) (n:=x) (by simp;omega)];unfold aEc;cases pF ((fG p).take k) x<;>rfl) (λa _=>by simp)]
 rw[aE8 (aEc (fG p))];cases wfP t p<;>cases ((fG p).zipIdx 0).all (λz=>aEc (fG p) z.2 z.1)<;>rfl
def bG(p:den tPk):den tPp:=(p.2.2.2.1[p.2.2.2.2.1.toNat]?).getD pt0
def cW(p:den tPk):den bV:=((bG p).2.2.2[p.2.2.2.2.2.1.toNat]?).getD h0
theorem gD{p:den tPk}(h:cI p=true):∃(i j:Nat),p.2.2.2.2.1=(i:Int)/\p.2.2.2.2.2.1=(j:Int)/\p.2.2.2.1[i]? =some (bG p)/\(bG p).2.2.2[j]? =some (cW p)/\cA p=(cW p).1:=by
 obtain⟨i,j,x,y,h1,h2,h3,h4,h5⟩:=aEn h;have e1:bG p=x:=by unfold bG;rw[h1,cF2,h3];rfl
 have e2:cW p=y:=by unfold cW;rw[e1,h2,cF2,h4];rfl
 exact⟨i,j,h1,h2,by rw[e1];exact h3,by rw[e1,e2];exact h4,by rw[e2];exact h5⟩
theorem aHi{p:den tPk}(h:0<=cA p):cI p=true:=by
 cases c:cI p with
 | true=>rfl
 | false=>rw[aBu c]at h;omega
theorem fV{p:den tPk}(h:tot tPk p<=34359738368):SmB 68719476736 tPk p:=(bM h).mono (by decide)
theorem aBa{p:den tPk}(h:SmB 68719476736 tPk p){i:Nat}{x:den tPp}(hx:p.2.2.2.1[i]? =some x):x.2.2.2.length<=68719476736:=(h.2.2.2.1.2 x (cF9 hx)).2.2.2.1
def cS(p:den tPk):Bool:=p.2.2.2.2.2.1==((bG p).2.2.2.length:Int) - 1
def aFt(p:den tPk):Bool:=p.2.2.2.2.1==(p.2.2.2.1.length:Int) - 1
def dJ(p:den tPk):Bool:=decide (cA p>=0)&&(cS p&&aFt p)
theorem aRd{p:den tPk}(h:SmB 68719476736 tPk p)(hh:cI p=true):iL p=some (cS p):=by
 obtain⟨i,j,h1,h2,h3,h4,_⟩:=gD hh;unfold iL cS zz4 zz5;rw[h1,aN,h3,aA,lM (aBa h h3)]
theorem aRu{p:den tPk}(h:SmB 68719476736 tPk p):mJ p=some (dJ p):=by
 unfold mJ dJ aL zz4;simp only[aP,aFf h,aA];cases c:decide (cA p>=0)
 .rfl
 .have hh:=aHi (of_decide_eq_true c);have l1:=h.2.2.2.1.1;simp only[zZ,aRd h hh,aA,lM l1];unfold aFt;cases cS p<;>rfl
theorem bAx{p:den tPk}(h:SmB 68719476736 tPk p):nU p=some (dJ p):=by
 unfold nU dJ aL zz4 zz5;simp only[aP,aHd h,aA];cases c:decide (cA p>=0)
 .rfl
 .have hh:=aHi (of_decide_eq_true c);have l1:=h.2.2.2.1.1;obtain⟨i,j,h1,h2,h3,h4,_⟩:=gD hh;simp only[zZ,lM l1];unfold aFt cS;rw[h1,aN,h3,aA,lM (aBa h h3)];cases p.2.2.2.2.2.1==((bG p).2.2.2.length:Int) - 1<;>cases (i:Int)==(p.2.2.2.1.length:Int) - 1<;>rfl
theorem aHm{p:den tPk}(h:SmB 68719476736 tPk p):dP p=some (pkR p):=by
 unfold dP pkR zz4 zz5 zz6 zz7 zz8 zz9;rw[aPy h.2.2.2.1,aHn h.2.2.2.2.2.2.2.2.2.1];rfl
theorem aFj{p:den tPk}(h:SmB 68719476736 tPk p):gP p=some (pkR p):=by
 unfold gP pkR zz4 zz5 zz6 zz7 zz8 zz9;rw[aHe h.2.2.2.1,aE (b:=1) (n:=([]:List Int).length) (by decide) (by simpa using h.2.2.2.2.2.2.2.2.2.1)];simp
def goTo(p:den tPk)(i j b:Int):den tPk:=(p.1,p.2.1,p.2.2.1,p.2.2.2.1,i,j,b,p.2.2.2.2.2.2.2.1,p.2.2.2.2.2.2.2.2.1,p.2.2.2.2.2.2.2.2.2)
def sD(p:den tPk):den tPp:=(p.2.2.2.1[p.2.2.2.2.1.toNat+1]?).getD pt0
def adv(p:den tPk):den tPk:=
 if decide (cA p<0)||dJ p then p
 else if cS p then goTo p (p.2.2.2.2.1+1) 0 (sD p).2.2.1 else goTo p p.2.2.2.2.1 (p.2.2.2.2.2.1+1) p.2.2.2.2.2.2.1
theorem aVk{p:den tPk}(hh:cI p=true)(h0:0<=cA p)(hl:cS p=true)(ha:dJ p=false):∃i:Nat,p.2.2.2.2.1=(i:Int)/\p.2.2.2.1[i+1]? =some (sD p):=by
 obtain⟨i,j,h1,h2,h3,h4,_⟩:=gD hh;refine⟨i,h1,?_⟩;have hlt:=(cFz.1 h3).1;have hne:aFt p=false:=by
  unfold dJ at ha;rw[hl,zX h0]at ha;simpa using ha
 unfold aFt at hne;rw[h1]at hne;have hne: ¬ ((i:Int)=(p.2.2.2.1.length:Int) - 1):=by simpa using hne
 unfold sD;rw[h1,cF2,cFx (show i+1<p.2.2.2.1.length by omega)];rfl
theorem bT9{p:den tPk}(h:SmB 68719476736 tPk p):oD p=some (pkR (adv p)):=by
 unfold oD adv aL pj2 zz4 zz5 zz6 zz7 zz8;simp only[aP,aHm h,aFf h,aRu h,aA];cases c:decide (cA p<0)
 .cases ca:dJ p
  .have h0:0<=cA p:=by have :=of_decide_eq_false c;omega
   have hh:=aHi h0;obtain⟨i,j,h1,h2,h3,h4,_⟩:=gD hh;have hlt:=(cFz.1 h3).1;have hlt2:=(cFz.1 h4).1;have l1:cGd p.2.2.2.1<=68719476736:=h.2.2.2.1.1;have l2:=aBa h h3;simp only[zY,aA,aRd h hh,cHj,cF1,zU];cases cl:cS p
   .simp only[zY,aA,cF1,zU];unfold pkR goTo;rw[h2,show wr ((j:Int)+1)=(j:Int)+1 from wri (by omega) (by omega)]
   .obtain⟨i',e1,e2⟩:=aVk hh h0 cl ca;have :i'=i:=Int.ofNat.inj (e1.symm.trans h1);subst this;have hw:wr (((i':Nat):Int)+1)=((i'+1:Nat):Int):=(wri (by omega) (by omega)).trans (by omega);simp only[zZ,zV];unfold pkR goTo;simp only[h1,hw,aN,e2,aA];rw[show ((i'+1:Nat):Int)=(i':Int)+1 by omega]
  .rfl
 .rfl
theorem bJw{p:den tPk}(h:SmB 68719476736 tPk p):iN p=some (pkR (adv p)):=by
 unfold iN adv aL pj4 pj5 zz4 zz5 zz6;simp only[aP,aFj h,aHd h,bAx h,aA];cases c:decide (cA p<0)
 .cases ca:dJ p
  .have h0:0<=cA p:=by have :=of_decide_eq_false c;omega
   have hh:=aHi h0;obtain⟨i,j,h1,h2,h3,h4,_⟩:=gD hh;have hlt:=(cFz.1 h3).1;have hlt2:=(cFz.1 h4).1;have l1:cGd p.2.2.2.1<=68719476736:=h.2.2.2.1.1;have l2:=aBa h h3;have hd:decide ((j:Int)<((bG p).2.2.2.length:Int) - 1)= !cS p:=by
    have key:decide ((j:Int)<((bG p).2.2.2.length:Int) - 1)= !((j:Int)==((bG p).2.2.2.length:Int) - 1):=by
     rw[cGl];simp only[zR,cGw,beq_eq_false_iff_ne,ne_eq];omega
    unfold cS;rw[h2];exact key
   simp only[zY,aA,cHj,cF1,zU,h1,h2,aN,h3,lM l2,hd];cases cl:cS p
   .simp only[cGa,zZ,cF1,zU];unfold pkR goTo;rw[show wr ((j:Int)+1)=(j:Int)+1 from wri (by omega) (by omega)];simp only[h1]
   .obtain⟨i',e1,e2⟩:=aVk hh h0 cl ca;have :i'=i:=Int.ofNat.inj (e1.symm.trans h1);subst this;have hw:wr (((i':Nat):Int)+1)=((i'+1:Nat):Int):=(wri (by omega) (by omega)).trans (by omega);simp only[cF0,zY,zV];unfold pkR goTo;simp only[hw,aN,e2,aA];rw[show ((i'+1:Nat):Int)=(i':Int)+1 by omega]
  .rfl
 .rfl
def bef(p:den tPk):Int:=if iH (bG p).1 then aMn p.2.2.2.2.2.2.1 (cW p).2.2.2.2 else p.2.2.2.2.2.2.1
def aft(p:den tPk):Int:=if iH (bG p).1 then aMn p.2.2.2.2.2.2.1 (cW p).2.2.2.2 else aLw p.2.2.2.2.2.2.1 (cW p).2.2.2.2
def zD(t:den tTo)(p:den tPk):Bool:=cI p&&aBy t (bG p).2.1 (bef p) (cW p)
def sealed(t:den tTo)(p:den tPk):den tPk:=if zD t p then goTo p p.2.2.2.2.1 p.2.2.2.2.2.1 (aft p) else p
def nL(p:den tPk)(b:Bool):q8:=(p.1,p.2.1,p.2.2.1,p.2.2.2.2.1,p.2.2.2.2.2.1,p.2.2.2.2.2.2.1,p.2.2.2.2.2.2.2.1,p.2.2.2.2.2.2.2.2.1,b,p.2.2.2.1,p.2.2.2.2.2.2.2.2.2)
theorem bMh{t:den tTo}{p:den tPk}(ht:t.1.length<=68719476736)(h:SmB 68719476736 tPk p):eJ t p=some (nL (sealed t p) (zD t p)):=by
 unfold eJ sealed zD aL pj2 pj5 zz4 zz5 zz6 zz7 zz8;simp only[aP,aHm h,bUa h,aA];cases c:cI p
 .rfl
 .obtain⟨i,j,h1,h2,h3,h4,_⟩:=gD c;simp only[h1,h2,aN,h3,h4,aA,aP2,bMv,bMn,cF0,zY,cGf];unfold bef aft;cases iH (bG p).1
  .simp only[zY,aA,bPr ht,cF1,zU];cases aBy t (bG p).2.1 p.2.2.2.2.2.2.1 (cW p)
   .simp only[cGa,zZ,cF1,zU];unfold nL pkR;simp only[h1,h2]
   .simp only[cF0,zY,zV];unfold nL pkR goTo;simp only[h1,h2]
  .simp only[zZ,aA,bPr ht,zV];cases aBy t (bG p).2.1 (aMn p.2.2.2.2.2.2.1 (cW p).2.2.2.2) (cW p)
   .simp only[cGa,zZ,cF1,zU];unfold nL pkR;simp only[h1,h2]
   .simp only[cF0,zY,zV];unfold nL pkR goTo;simp only[h1,h2]
theorem bE5{t:den tTo}{ts b:Int}{h:den bV}(hv:h.1<0):aBy t ts b h=false:=by
 unfold aBy jZ;rw[bEg.2 (λhh=>absurd hv (Int.not_lt.2 hh.1))];rfl
theorem cBe{t:den tTo}{p:den tPk}(ht:t.1.length<=68719476736)(h:SmB 68719476736 tPk p):jO t p=some (nL (sealed t p) (zD t p)):=by
 unfold jO sealed zD aL pj2 pj5 zz4 zz5 zz6 zz7 zz8;simp only[aP,aFj h,aHd h,aA];cases c:cI p
 .rw[aBu c];rfl
 .obtain⟨i,j,h1,h2,h3,h4,h5⟩:=gD c;rw[h5]
  by_cases hn:(cW p).1<0
  .rw[zX hn,bE5 hn];rfl
  .simp only[zW hn,zY,h1,h2,aN,h3,h4,aA,aHu,aSp,bNg,cGf,bA2 ht];unfold bef aft;cases iH (bG p).1
   .simp only[zY,cF1,zU];cases aBy t (bG p).2.1 p.2.2.2.2.2.2.1 (cW p)
    .simp only[cGa,zZ,cF1,zU];unfold nL pkR;simp only[h1,h2]
    .simp only[cF0,zY,zV];unfold nL pkR goTo;simp only[h1,h2]
   .simp only[zZ,zV];cases aBy t (bG p).2.1 (aMn p.2.2.2.2.2.2.1 (cW p).2.2.2.2) (cW p)
    .simp only[cGa,zZ,cF1,zU];unfold nL pkR;simp only[h1,h2]
    .simp only[cF0,zY,zV];unfold nL pkR goTo;simp only[h1,h2]
def wT(p:den tPk)(now:Int):Bool:= !decide (cA p<0)&&(decide ((bG p).2.1<=now)&&decide (now<=(cW p).2.2.2.1))
theorem bBn{p:den tPk}{now:Int}(h:SmB 68719476736 tPk p):eG p now=some (wT p now):=by
 unfold eG wT aL pj5 zz4 zz5;simp only[aP,aFf h,aA];cases c:decide (cA p<0)
 .have hh:=aHi (p:=p) (by have :=of_decide_eq_false c;omega);obtain⟨i,j,h1,h2,h3,h4,h5⟩:=gD hh;simp only[zY,h1,h2,aN,h3,h4,aA,vT];cases decide ((bG p).2.1<=now)<;>rfl
 .rfl
theorem bQe{p:den tPk}{now:Int}(h:SmB 68719476736 tPk p):kR p now=some (wT p now):=by
 unfold kR wT aL pj5 zz4 zz5;simp only[aP,aHd h,aA];cases c:decide (cA p<0)
 .have hh:=aHi (p:=p) (by have :=of_decide_eq_false c;omega);obtain⟨i,j,h1,h2,h3,h4,h5⟩:=gD hh;simp only[zY,h1,h2,aN,h3,h4,aA,oF];cases decide ((bG p).2.1<=now)<;>rfl
 .rfl
def cN(t:den tTo)(now:Int)(p:den tPk):Int:=if zD t p then (if wT p now then 0 else 5) else 4
def goC(t:den tTo)(now:Int):Nat->den tPk->Int×den tPk
 | 0,p=>(cN t now p,sealed t p)
 | n+1,p=>if cN t now p==0&&(cS (sealed t p)&& !dJ (sealed t p)) then goC t now n (adv (sealed t p)) else (cN t now p,sealed t p)
theorem aB3(t:den tTo)(p:den tPk):tot tPk (sealed t p)=tot tPk p:=by
 unfold sealed;split<;>rfl
theorem aHs(p:den tPk):tot tPk (adv p)=tot tPk p:=by
 unfold adv;split
 .rfl
 .split<;>rfl
theorem bD4(t:den tTo)(p:den tPk)(now:Int):wT (sealed t p) now=wT p now:=by
 unfold sealed;split<;>rfl
theorem xD(t:den tTo)(p:den tPk):cI (sealed t p)=cI p/\cA (sealed t p)=cA p/\cW (sealed t p)=cW p/\(sealed t p).2.2.2.1=p.2.2.2.1/\(sealed t p).2.2.2.2.1=p.2.2.2.2.1:=by
 unfold sealed;split<;>exact⟨rfl,rfl,rfl,rfl,rfl⟩
theorem vN{t:den tTo}{now:Int}{p:den tPk}(h:cN t now p=0):cI p=true/\0<=cA p:=by
 unfold cN at h;split at h
 .rename_i hs;unfold zD at hs;rw[cFw]at hs;refine⟨hs.1,?_⟩;obtain⟨i,j,h1,h2,h3,h4,h5⟩:=gD hs.1;rw[h5]
  by_cases hn:(cW p).1<0
  .rw[bE5 hn]at hs;cases hs.2
  .exact Int.not_lt.1 hn
 .cases h
theorem bB4{p:den tPk}(h0:0<=cA p)(hc:(cS p&& !dJ p)=true):(adv p).2.2.2.1=p.2.2.2.1/\(adv p).2.2.2.2.1=p.2.2.2.2.1+1:=by
 rw[cFw]at hc;have ha:dJ p=false:=by simpa using hc.2
 unfold adv;rw[zW (by omega),ha,hc.1];exact⟨rfl,rfl⟩
theorem bGb{t:den tTo}{now:Int}{S R:Type}(enc:Int->den tPk->S)(out:S->R){step:S->Option (S⊕R)}(st:den tPk->den tPk)(hst:∀p,cN t now p=0->st p=sealed t p)
  (hstop:∀c p,c≠0->step (enc c p)=some (.inr (out (enc c p))))
  (hgo:∀q,tot tPk q<=34359738368->cI q=true->0<=cA q->step (enc 0 q)=some (if cS q&& !dJ q then .inl (enc (cN t now (adv q)) (st (adv q))) else .inr (out (enc 0 q)))):
  ∀(n:Nat) (p:den tPk),tot tPk p<=34359738368->p.2.2.2.1.length - p.2.2.2.2.1.toNat<=n-> ∃r,aC step (enc (cN t now p) (st p))=some (out (enc (goC t now n p).1 r))/\((goC t now n p).1=0->r=(goC t now n p).2):=by
 intro n
 induction n with
 | zero=>
  intro p hp hm
  by_cases hc:cN t now p=0
  .obtain⟨hh,h0⟩:=vN hc;obtain⟨i,j,h1,h2,h3,h4,h5⟩:=gD hh;have hlt:=(cFz.1 h3).1;rw[h1,cF2]at hm;exact absurd hlt (by omega)
  .exact⟨_,bA (hstop _ _ hc),λh=>absurd h hc⟩
 | succ n ih=>
  intro p hp hm
  by_cases hc:cN t now p=0
  .obtain⟨hh,h0⟩:=vN hc;obtain⟨e1,e2,e3,e4,e5⟩:=xD t p;have hq:=hgo (sealed t p) (by rw[aB3];exact hp) (by rw[e1];exact hh) (by rw[e2];exact h0);rw[hst p hc];cases hb:cS (sealed t p)&& !dJ (sealed t p) with
   | false=>
    rw[hb]at hq;have hg:goC t now (n+1) p=(cN t now p,sealed t p):=by
     show (if _ then _ else _)=_;rw[hb,cHt];rfl
    rw[hg,hc];exact⟨sealed t p,bA hq,λ_=>rfl⟩
   | true=>
    rw[hb,zT rfl]at hq;have hg:goC t now (n+1) p=goC t now n (adv (sealed t p)):=by
     show (if _ then _ else _)=_;rw[hb,hc];rfl
    rw[hg,hc,cQ hq];obtain⟨a1,a2⟩:=bB4 (p:=sealed t p) (by rw[e2];exact h0) hb;obtain⟨i,j,h1,h2,h3,h4,h5⟩:=gD hh;refine ih (adv (sealed t p)) (by rw[aHs,aB3];exact hp) ?_;rw[a1,a2,e4,e5,h1];rw[h1,cF2]at hm;have :((i:Int)+1).toNat=i+1:=by omega
    rw[this];omega
  .have hg:goC t now (n+1) p=(cN t now p,sealed t p):=by
    show (if _ then _ else _)=_;rw[show (cN t now p==0)=false from by simpa using hc];rfl
   rw[hg];exact⟨_,bA (hstop _ _ hc),λh=>absurd h hc⟩
def aGr(p:den tPk):Int:=if p.2.2.2.2.1==0&&p.2.2.2.2.2.1==0 then 0 else pIn (bG p) (cW p)
def aX(t:den tTo)(now:Int)(p:den tPk):Int×den tPk:=goC t now (p.2.2.2.1.length - p.2.2.2.2.1.toNat) p
def fwd(t:den tTo)(r now dead inn:Int)(p:den tPk):Int×Int×den tPk×Int:=
 if !dD p||(!nP t p.2.2.2.1|| !(cA p==r)) then (2,0,p,0)
 else if !(inn==aGr p) then (3,0,p,0)
 else if !((aX t now p).1==0) then ((aX t now p).1,0,p,0)
 else if dJ (aX t now p).2 then (if (aX t now p).2.2.2.1==r then (1,0,(aX t now p).2,0) else (2,0,p,0))
 else if !aNb t (r,inn,pEg (bG (aX t now p).2) (cW (aX t now p).2)) then (6,0,p,0)
 else if aB2 dead (pEg (bG (aX t now p).2) (cW (aX t now p).2)) then (7,0,p,pEg (bG (aX t now p).2) (cW (aX t now p).2))
 else (0,pEg (bG (aX t now p).2) (cW (aX t now p).2),adv (aX t now p).2,pEg (bG (aX t now p).2) (cW (aX t now p).2))
def fwI(v:Int×Int×den tPk×Int):Int×Int×q19:=
 (v.1,v.2.1,v.2.2.1.1,v.2.2.1.2.1,v.2.2.1.2.2.1,v.2.2.1.2.2.2.1,v.2.2.1.2.2.2.2.1,v.2.2.1.2.2.2.2.2.1,v.2.2.1.2.2.2.2.2.2.1,v.2.2.1.2.2.2.2.2.2.2.1,v.2.2.1.2.2.2.2.2.2.2.2.1,v.2.2.1.2.2.2.2.2.2.2.2.2,v.2.2.2)
def fwS(v:Int×Int×den tPk×Int):Int×Int×q4:=(v.1,v.2.1,pkR v.2.2.1)
theorem aCa{t:den tTo}{now:Int}:∀(n:Nat) (p:den tPk),(goC t now n p).1=0->cI (goC t now n p).2=true/\0<=cA (goC t now n p).2/\tot tPk (goC t now n p).2=tot tPk p
 | 0,p,h=>by
  obtain⟨h1,h2⟩:=vN (show cN t now p=0 from h);obtain⟨e1,e2,_⟩:=xD t p;exact⟨e1.trans h1,by rw[show (goC t now 0 p).2=sealed t p from rfl,e2];exact h2,aB3 t p⟩
 | n+1,p,h=>by
  unfold goC at h|-;split at h
  .rename_i hc;rw[zT hc];obtain⟨h1,h2,h3⟩:=aCa n _ h;exact⟨h1,h2,by rw[h3,aHs,aB3]⟩
  .rename_i hc;rw[zS hc];obtain⟨h1,h2⟩:=vN (show cN t now p=0 from h);obtain⟨e1,e2,_⟩:=xD t p;exact⟨e1.trans h1,by rw[show (cN t now p,sealed t p).2=sealed t p from rfl,e2];exact h2,aB3 t p⟩
def aA2(t:den tTo)(now:Int)(p:den tPk):den tPk:=if cN t now p=0 then sealed t p else p
def aEj(p:den tPk)(c:Int):q19:=(p.1,p.2.1,p.2.2.1,p.2.2.2.1,p.2.2.2.2.1,p.2.2.2.2.2.1,p.2.2.2.2.2.2.1,p.2.2.2.2.2.2.2.1,p.2.2.2.2.2.2.2.2.1,p.2.2.2.2.2.2.2.2.2,c)
def aFc(p:den tPk)(c:Int):Int×q4:=(p.1,p.2.1,p.2.2.1,p.2.2.2.2.1,p.2.2.2.2.2.1,p.2.2.2.2.2.2.1,p.2.2.2.2.2.2.2.1,p.2.2.2.2.2.2.2.2.1,c,p.2.2.2.1,p.2.2.2.2.2.2.2.2.2)
theorem bU6{t:den tTo}{now:Int}{p:den tPk}(ht:t.1.length<=68719476736)(h:tot tPk p<=34359738368):mQ t now p=some (aEj (aA2 t now p) (cN t now p)):=by
 unfold mQ aL pj2 aS zz4 zz5 zz6 zz7 zz8 zz9;simp only[aP,bMh ht (fV h),aA];unfold aA2 cN;cases c:zD t p
 .simp only[nL,cGa,zZ,cF1,zU];rfl
 .have hs:tot tPk (sealed t p)<=34359738368:=by rw[aB3];exact h
  have key:eG ((nL (sealed t p) true).1,(nL (sealed t p) true).2.1,(nL (sealed t p) true).2.2.1,(nL (sealed t p) true).2.2.2.2.2.2.2.2.2.1,(nL (sealed t p) true).2.2.2.1,(nL (sealed t p) true).2.2.2.2.1,(nL (sealed t p) true).2.2.2.2.2.1,(nL (sealed t p) true).2.2.2.2.2.2.1,(nL (sealed t p) true).2.2.2.2.2.2.2.1,(nL (sealed t p) true).2.2.2.2.2.2.2.2.2.2) now=some (wT p now):=by
   rw[<- bD4 t p now];exact bBn (fV hs)
  rw[key];simp only[nL,cF0,zY,aA,zV];cases wT p now
  .simp only[cGa,zZ,cF1,zU];rfl
  .simp only[cF0,zY,zV];rfl
theorem bWx{t:den tTo}{now:Int}{p:den tPk}(ht:t.1.length<=68719476736)(h:tot tPk p<=34359738368):pT t now p=some (aFc (sealed t p) (cN t now p)):=by
 unfold pT aL pj2 zz4 zz5 zz6 zz7 zz8 zz9;simp only[aP,cBe ht (fV h),bQe (fV h),aA];unfold cN;cases c:zD t p
 .simp only[nL,cGa,zZ,cF1,zU];rfl
 .simp only[nL,cF0,zY,zV];cases wT p now
  .simp only[cGa,zZ,cF1,zU];rfl
  .simp only[cF0,zY,zV];rfl
theorem aTr{p:den tPk}(h:dD p=true):cI p=true:=by
 unfold dD at h;simp only[cFw]at h;exact h.2.2.1
theorem bV2{c:Int}{p:den tPk}(h:tot tPk p<=34359738368):mZ c p=some (c,0,p.1,p.2.1,p.2.2.1,p.2.2.2.2.1,p.2.2.2.2.2.1,p.2.2.2.2.2.2.1,p.2.2.2.2.2.2.2.1,p.2.2.2.2.2.2.2.2.1,p.2.2.2.1,p.2.2.2.2.2.2.2.2.2,p.1,p.2.1,p.2.2.1,p.2.2.2.1,p.2.2.2.2.1,p.2.2.2.2.2.1,p.2.2.2.2.2.2.1,p.2.2.2.2.2.2.2.1,p.2.2.2.2.2.2.2.2.1,p.2.2.2.2.2.2.2.2.2):=by
 unfold mZ aL zz4 zz5 zz6 zz7 zz8 zz9;simp only[aP,aHm (fV h),aA];rfl
theorem bV3{c:Int}{p:den tPk}(h:tot tPk p<=34359738368):vA c p=some (c,0,pkR p):=by
 unfold vA aL;simp only[aP,aFj (fV h),aA]
theorem aKy{p:den tPk}{N:Nat}(h:tot tPk p<=N):tot tPt p.2.2.2.1<=N:=(aPl h).1
theorem bG9{t:den tTo}{r now dead inn:Int}{p:den tPk}(ht:t.1.length<=68719476736)(ht2:t.2.length<=68719476736)(h:tot tPk p<=34359738368)(hpp:tot tPt p.2.2.2.1<=1073741824):tT t r now dead inn p=some (fwI (fwd t r now dead inn p)):=by
 unfold tT fwd aL aK8 pj2 pj4 aS bD zz4 zz5 zz6 zz7 zz8 zz9;simp only[aP,bS8 (fV h),aX9 ht ht2 hpp,aFf (fV h),aA,aF9,bV2 h];cases cv:dD p
 .simp only[cGa,cH0,zZ,aA,zV];rfl
 .cases cs:nP t p.2.2.2.1
  .simp only[cF0,cGa,cH0,cH4,zZ,zY,aA,zV];rfl
  .cases cr:cA p==r
   .simp only[cF0,cGa,cH0,cH4,zZ,zY,aA,zV];rfl
   .simp only[cF0,cHj,zY,aA,cF1,zU];obtain⟨i,j,h1,h2,h3,h4,h5⟩:=gD (aTr cv);have hl:=aBa (fV h) h3;have hw:(@Option.bind Bool Int (cond (p.2.2.2.2.1==(0:Int)) (some (p.2.2.2.2.2.1==(0:Int))) (some false)) λ(s8:Bool)=>cond s8 (some (0:Int)) (some (pIn (bG p) (cW p))))=some (aGr p):=by
     unfold aGr;cases p.2.2.2.2.1==0<;>cases p.2.2.2.2.2.1==0<;>rfl
    have hp1:idx p.2.2.2.1 p.2.2.2.2.1=some (bG p):=by rw[h1,aN];exact h3
    have hp2:gI (bG p) p.2.2.2.2.2.1=some (pIn (bG p) (cW p)):=by rw[h2];exact bH5 h4 hl
    rw[hp1,aA,hp2,aA,hw,aA];cases ci:inn==aGr p
    .simp only[cGa,zZ,zV,aA];rfl
    .simp only[cF0,zY,cF1,zU,aHm (fV h),aA];have hc:mQ t now ((pkR p).1,(pkR p).2.1,(pkR p).2.2.1,(pkR p).2.2.2.2.2.2.2.2.1,(pkR p).2.2.2.1,(pkR p).2.2.2.2.1,(pkR p).2.2.2.2.2.1,(pkR p).2.2.2.2.2.2.1,(pkR p).2.2.2.2.2.2.2.1,(pkR p).2.2.2.2.2.2.2.2.2)=some (aEj (aA2 t now p) (cN t now p)):=bU6 ht h;rw[hc];simp only[aA,bC,bT,bH,bI,bL];obtain⟨q,hq1,hq2⟩:=bGb (t:=t) (now:=now) (S:=Int×den tPk) (R:=Int×den tPk) (λc p=>(c,p)) id (step:=λs23=> @Option.bind Bool _ (cond (s23.1==(0:Int)) (Option.bind (iL s23.2) λy24=>cond y24 (Option.bind (mJ s23.2) λy25=>some (!y25)) (some false)) (some false)) λ(s26:Bool)=>cond s26 (Option.bind (oD s23.2) λy27=>Option.bind (mQ t now (y27.1,y27.2.1,y27.2.2.1,y27.2.2.2.2.2.2.2.2.1,y27.2.2.2.1,y27.2.2.2.2.1,y27.2.2.2.2.2.1,y27.2.2.2.2.2.2.1,y27.2.2.2.2.2.2.2.1,y27.2.2.2.2.2.2.2.2.2)) λy28=>some (cFu (y28.2.2.2.2.2.2.2.2.2.2,y28.1,y28.2.1,y28.2.2.1,y28.2.2.2.1,y28.2.2.2.2.1,y28.2.2.2.2.2.1,y28.2.2.2.2.2.2.1,y28.2.2.2.2.2.2.2.1,y28.2.2.2.2.2.2.2.2.1,y28.2.2.2.2.2.2.2.2.2.1))) (some (cFt s23))) (aA2 t now) (λp hp=>zT hp) (λc p hc=>by
       have :(c==0)=false:=by simpa using hc
       simp only[this,zY,aA,id]) (λq hq hh h0=>by
       have e:mQ t now ((pkR (adv q)).1,(pkR (adv q)).2.1,(pkR (adv q)).2.2.1,(pkR (adv q)).2.2.2.2.2.2.2.2.1,(pkR (adv q)).2.2.2.1,(pkR (adv q)).2.2.2.2.1,(pkR (adv q)).2.2.2.2.2.1,(pkR (adv q)).2.2.2.2.2.2.1,(pkR (adv q)).2.2.2.2.2.2.2.1,(pkR (adv q)).2.2.2.2.2.2.2.2.2)=some (aEj (aA2 t now (adv q)) (cN t now (adv q))):=bU6 (p:=adv q) ht (by rw[aHs];exact hq);simp only[beq_self_eq_true,zZ,aRd (fV hq) hh,aRu (fV hq),bT9 (fV hq),aA,e];cases cS q<;>cases dJ q<;>rfl) _ p h (cF8 _)
     have hq1:aC _ (cN t now p,aA2 t now p)=some ((aX t now p).1,q):=hq1;have hq2:(aX t now p).1=0->q=(aX t now p).2:=hq2;have e0:(((aEj (aA2 t now p) (cN t now p)).2.2.2.2.2.2.2.2.2.2,(aEj (aA2 t now p) (cN t now p)).1,(aEj (aA2 t now p) (cN t now p)).2.1,(aEj (aA2 t now p) (cN t now p)).2.2.1,(aEj (aA2 t now p) (cN t now p)).2.2.2.1,(aEj (aA2 t now p) (cN t now p)).2.2.2.2.1,(aEj (aA2 t now p) (cN t now p)).2.2.2.2.2.1,(aEj (aA2 t now p) (cN t now p)).2.2.2.2.2.2.1,(aEj (aA2 t now p) (cN t now p)).2.2.2.2.2.2.2.1,(aEj (aA2 t now p) (cN t now p)).2.2.2.2.2.2.2.2.1,(aEj (aA2 t now p) (cN t now p)).2.2.2.2.2.2.2.2.2.1):Int×den tPk)=(cN t now p,aA2 t now p):=rfl;rw[e0,hq1,aA]
     by_cases hz:(aX t now p).1=0
     .have hqq:=hq2 hz;subst hqq;obtain⟨g1,g2,g3⟩:=aCa _ p hz;have g1:cI (aX t now p).2=true:=g1;have g2:0<=cA (aX t now p).2:=g2;have g3:tot tPk (aX t now p).2=tot tPk p:=g3;have hg:tot tPk (aX t now p).2<=34359738368:=by rw[g3];exact h
      obtain⟨i',j',k1,k2,k3,k4,k5⟩:=gD g1;have hl':=aBa (fV hg) k3;have q1:idx (aX t now p).2.2.2.2.1 (aX t now p).2.2.2.2.2.1=some (bG (aX t now p).2):=by rw[k1,aN];exact k3
      have q2:gQ (bG (aX t now p).2) (aX t now p).2.2.2.2.2.2.1=some (pEg (bG (aX t now p).2) (cW (aX t now p).2)):=by rw[k2];exact bKk k4 hl'
      simp only[hz,beq_self_eq_true,cF0,zY,cF1,zU,aRu (fV hg),aA];cases ca:dJ (aX t now p).2
      .simp only[zY,cF1,zU,q1,q2,aA,bYc ht2,bXb];cases aNb t (r,inn,pEg (bG (aX t now p).2) (cW (aX t now p).2))
       .simp only[cGa,zZ,zV];rfl
       .simp only[cF0,zY,cF1,zU];cases aB2 dead (pEg (bG (aX t now p).2) (cW (aX t now p).2))
        .simp only[zY,cF1,zU,bT9 (fV hg),aA];rfl
        .simp only[zZ,zV];rfl
      .simp only[zZ,zV];cases (aX t now p).2.2.2.1==r
       .simp only[cGa,zZ,cF1,zU];rfl
       .simp only[cF0,zY,zV];rfl
     .have hz':((aX t now p).1==0)=false:=by simpa using hz
      simp only[hz',cGa,zZ,zV,bV2 h,aA];rfl
theorem aWx{t:den tTo}{r now dead inn:Int}{p:den tPk}(ht:t.1.length<=68719476736)(ht2:t.2.length<=68719476736)(h:tot tPk p<=34359738368)(hpp:tot tPt p.2.2.2.1<=1073741824):oS t r now dead inn p=some ((fwd t r now dead inn p).1,(fwd t r now dead inn p).2.1,(fwd t r now dead inn p).2.2.1):=by
 unfold oS aL pj2 aS bD zz4 zz5 zz6 zz7 zz8 zz9;simp only[aP,bG9 ht ht2 h hpp,aA];rfl
def aOq(c:Int)(p:den tPk):Int×q4:=(c,p.1,p.2.1,p.2.2.1,p.2.2.2.2.1,p.2.2.2.2.2.1,p.2.2.2.2.2.2.1,p.2.2.2.2.2.2.2.1,p.2.2.2.2.2.2.2.2.1,p.2.2.2.1,p.2.2.2.2.2.2.2.2.2)
theorem bA8{q:den tPk}(hh:cI q=true)(h0:0<=cA q):(cS q&&decide (q.2.2.2.2.1<(q.2.2.2.1.length:Int) - 1))=(cS q&& !dJ q):=by
 obtain⟨i,j,h1,h2,h3,h4,h5⟩:=gD hh;have hlt:=(cFz.1 h3).1;unfold dJ aFt;rw[zX (p:=cA q>=0) h0,h1];have key:decide ((i:Int)<(q.2.2.2.1.length:Int) - 1)= !((i:Int)==(q.2.2.2.1.length:Int) - 1):=by
  rw[cGl];simp only[zR,cGw,beq_eq_false_iff_ne,ne_eq];omega
 rw[key];cases cS q<;>simp
theorem bU0{t:den tTo}{r now dead inn:Int}{p:den tPk}(ht:t.1.length<=68719476736)(ht2:t.2.length<=68719476736)(h:tot tPk p<=34359738368)(hpp:tot tPt p.2.2.2.1<=1073741824):uG t r now dead inn p=some (fwS (fwd t r now dead inn p)):=by
 unfold uG fwd ixb aL aK8 yJ pj2 pj4 aS zz4 zz5 zz6 zz7 zz8 zz9;simp only[aP,bBf (fV h),aX2 ht ht2 hpp,aHd (fV h),aA,aF9,bV3 h];cases cv:dD p
 .simp only[cGa,cH0,zZ,aA,zV];rfl
 .cases cs:nP t p.2.2.2.1
  .simp only[cF0,cGa,cH0,cH4,zZ,zY,aA,zV];rfl
  .cases cr:cA p==r
   .simp only[cF0,cGa,cH0,cH4,zZ,zY,aA,zV];rfl
   .simp only[cF0,cHj,zY,aA,cF1,zU];obtain⟨i,j,h1,h2,h3,h4,h5⟩:=gD (aTr cv);have hl:=aBa (fV h) h3;have hw:(@Option.bind Bool Int (cond (p.2.2.2.2.1==(0:Int)) (some (p.2.2.2.2.2.1==(0:Int))) (some false)) λ(s8:Bool)=>cond s8 (some (0:Int)) (some (pIn (bG p) (cW p))))=some (aGr p):=by
     unfold aGr;cases p.2.2.2.2.1==0<;>cases p.2.2.2.2.2.1==0<;>rfl
    have hp1:idx p.2.2.2.1 p.2.2.2.2.1=some (bG p):=by rw[h1,aN];exact h3
    have hp2:fX (bG p) p.2.2.2.2.2.1=some (pIn (bG p) (cW p)):=by rw[h2];exact bK5 h4 hl
    rw[hp1,aA,hp2,aA,hw,aA];cases ci:inn==aGr p
    .simp only[cGa,zZ,zV,aA];rfl
    .simp only[cF0,zY,cF1,zU,bWx ht h,aA];obtain⟨q,hq1,hq2⟩:=bGb (t:=t) (now:=now) aOq id (step:=λs17=> @Option.bind Bool _ (cond (s17.1==(0:Int)) (cond (decide ((0:Int)<=s17.2.2.2.2.1)) (cond (decide (s17.2.2.2.2.1<(s17.2.2.2.2.2.2.2.2.2.1.length:Int))) (Option.bind s17.2.2.2.2.2.2.2.2.2.1[s17.2.2.2.2.1.toNat]? λx18=>cond (s17.2.2.2.2.2.1==(wr ((x18.2.2.2.length:Int) - (1:Int)))) (some (decide (s17.2.2.2.2.1<(wr ((s17.2.2.2.2.2.2.2.2.2.1.length:Int) - (1:Int)))))) (some false)) none) none) (some false)) λ(s19:Bool)=>cond s19 (Option.bind (iN (s17.2.1,s17.2.2.1,s17.2.2.2.1,s17.2.2.2.2.2.2.2.2.2.1,s17.2.2.2.2.1,s17.2.2.2.2.2.1,s17.2.2.2.2.2.2.1,s17.2.2.2.2.2.2.2.1,s17.2.2.2.2.2.2.2.2.1,s17.2.2.2.2.2.2.2.2.2.2)) λy20=>Option.bind (pT t now (y20.1,y20.2.1,y20.2.2.1,y20.2.2.2.2.2.2.2.2.1,y20.2.2.2.1,y20.2.2.2.2.1,y20.2.2.2.2.2.1,y20.2.2.2.2.2.2.1,y20.2.2.2.2.2.2.2.1,y20.2.2.2.2.2.2.2.2.2)) λy21=>some (cFu (y21.2.2.2.2.2.2.2.2.1,y21.1,y21.2.1,y21.2.2.1,y21.2.2.2.1,y21.2.2.2.2.1,y21.2.2.2.2.2.1,y21.2.2.2.2.2.2.1,y21.2.2.2.2.2.2.2.1,y21.2.2.2.2.2.2.2.2.2.1,y21.2.2.2.2.2.2.2.2.2.2))) (some (cFt s17))) (sealed t) (λp hp=>rfl) (λc p hc=>by
       have :(c==0)=false:=by simpa using hc
       simp only[aOq,this,zY,aA,id]) (λq hq hh h0=>by
       have e:pT t now ((pkR (adv q)).1,(pkR (adv q)).2.1,(pkR (adv q)).2.2.1,(pkR (adv q)).2.2.2.2.2.2.2.2.1,(pkR (adv q)).2.2.2.1,(pkR (adv q)).2.2.2.2.1,(pkR (adv q)).2.2.2.2.2.1,(pkR (adv q)).2.2.2.2.2.2.1,(pkR (adv q)).2.2.2.2.2.2.2.1,(pkR (adv q)).2.2.2.2.2.2.2.2.2)=some (aFc (sealed t (adv q)) (cN t now (adv q))):=bWx (p:=adv q) ht (by rw[aHs];exact hq);obtain⟨i',j',k1,k2,k3,k4,k5⟩:=gD hh;have hlt:=(cFz.1 k3).1;have l1:cGd q.2.2.2.1<=68719476736:=(fV hq).2.2.2.1.1;have hm:=bA8 hh h0;simp only[aOq,beq_self_eq_true,zZ,aP,bJw (fV hq),aA,e];rw[<- hm];have hd:decide ((i':Int)<(q.2.2.2.1.length:Int))=true:=zX (by omega);simp only[k1,cU,hd,zZ,cF2,k3,aA,lM (aBa (fV hq) k3),lM l1];unfold cS;cases q.2.2.2.2.2.1==((bG q).2.2.2.length:Int) - 1<;>cases decide ((i':Int)<(q.2.2.2.1.length:Int) - 1)<;>rfl) _ p h (cF8 _)
     have hq1:aC _ (aOq (cN t now p) (sealed t p))=some (aOq (aX t now p).1 q):=hq1;have hq2:(aX t now p).1=0->q=(aX t now p).2:=hq2;have e0:(((aFc (sealed t p) (cN t now p)).2.2.2.2.2.2.2.2.1,(aFc (sealed t p) (cN t now p)).1,(aFc (sealed t p) (cN t now p)).2.1,(aFc (sealed t p) (cN t now p)).2.2.1,(aFc (sealed t p) (cN t now p)).2.2.2.1,(aFc (sealed t p) (cN t now p)).2.2.2.2.1,(aFc (sealed t p) (cN t now p)).2.2.2.2.2.1,(aFc (sealed t p) (cN t now p)).2.2.2.2.2.2.1,(aFc (sealed t p) (cN t now p)).2.2.2.2.2.2.2.1,(aFc (sealed t p) (cN t now p)).2.2.2.2.2.2.2.2.2.1,(aFc (sealed t p) (cN t now p)).2.2.2.2.2.2.2.2.2.2))=aOq (cN t now p) (sealed t p):=rfl;rw[e0,hq1,aA]
     by_cases hz:(aX t now p).1=0
     .have hqq:=hq2 hz;subst hqq;obtain⟨g1,g2,g3⟩:=aCa _ p hz;have g1:cI (aX t now p).2=true:=g1;have g2:0<=cA (aX t now p).2:=g2;have g3:tot tPk (aX t now p).2=tot tPk p:=g3;have hg:tot tPk (aX t now p).2<=34359738368:=by rw[g3];exact h
      obtain⟨i',j',k1,k2,k3,k4,k5⟩:=gD g1;have hlt:=(cFz.1 k3).1;have hl':=aBa (fV hg) k3;have q2:dZ (bG (aX t now p).2) (aX t now p).2.2.2.2.2.2.1=some (pEg (bG (aX t now p).2) (cW (aX t now p).2)):=by rw[k2];exact aZa k4 hl'
      simp only[aOq,aP,hz,beq_self_eq_true,cF0,zY,cF1,zU,bAx (fV hg),aA];cases ca:dJ (aX t now p).2
      .simp only[zY,aA,cF1,zU];have hd:decide ((i':Int)<((aX t now p).2.2.2.2.1.length:Int))=true:=zX (by omega);simp only[k1,cU,hd,zZ,cF2,k3,aA,q2,bZa ht2,bYj];cases aNb t (r,inn,pEg (bG (aX t now p).2) (cW (aX t now p).2))
       .simp only[cGa,zZ,zV];rfl
       .simp only[cF0,zY,cF1,zU];cases aB2 dead (pEg (bG (aX t now p).2) (cW (aX t now p).2))
        .simp only[zY,cF1,zU,bJw (fV hg),aA];rfl
        .simp only[zZ,zV];rfl
      .simp only[zZ,aA];cases (aX t now p).2.2.2.1==r
       .simp only[zY,zZ,cF1,zU,zV];rfl
       .simp only[zZ,zV];rfl
     .have hz':((aX t now p).1==0)=false:=by simpa using hz
      simp only[aOq,hz',cGa,zZ,zV,bV3 h,aA];rfl
theorem aKv(t:den tTo)(r now dead inn:Int)(p:den tPk):tot tPk (fwd t r now dead inn p).2.2.1=tot tPk p:=by
 unfold fwd;split
 .rfl
 .split
  .rfl
  .split
   .rfl
   .rename_i hz;have hz:(aX t now p).1=0:=by simpa using hz
    obtain⟨_,_,g3⟩:=aCa _ p hz;have g3:tot tPk (aX t now p).2=tot tPk p:=g3;split
    .split
     .exact g3
     .rfl
    .split
     .rfl
     .split
      .rfl
      .show tot tPk (adv (aX t now p).2)=_;rw[aHs];exact g3
theorem bCp{t:den tTo}{now:Int}:∀(n:Nat) (p:den tPk),(goC t now n p).2.2.2.2.1=p.2.2.2.1
 | 0,p=>(xD t p).2.2.2.1
 | n+1,p=>by
  unfold goC;split
  .rw[bCp n];rw[<- (xD t p).2.2.2.1];unfold adv;split
   .rfl
   .split<;>rfl
  .exact (xD t p).2.2.2.1
theorem bQj(p:den tPk):(adv p).2.2.2.1=p.2.2.2.1:=by
 unfold adv;split
 .rfl
 .split<;>rfl
theorem bQ5(t:den tTo)(r now dead inn:Int)(p:den tPk):(fwd t r now dead inn p).2.2.1.2.2.2.1=p.2.2.2.1:=by
 have hg:(aX t now p).2.2.2.2.1=p.2.2.2.1:=bCp _ p;unfold fwd
 repeat' split
 all_goals first
  | rfl
  | exact hg
  | exact (bQj _).trans hg
def aG(t:den tTo)(now:Int)(dead:List Int)(r inn:Int)(p:den tPk):Int×Int×den tPk×Int:=fwd t r now (dI t dead r) inn p
def aRq(t:den tTo)(now:Int)(dead:List Int):Nat->Int->Int->den tPk->cE->Int×den tPk×cE
 | 0,_,_,p,st=>(0,p,st)
 | n+1,r,inn,p,st=>
  if (aG t now dead r inn p).1==0||(aG t now dead r inn p).1==1 then
   (if (aG t now dead r inn p).1==1 then (1,(aG t now dead r inn p).2.2.1,st++[(r,inn,(aG t now dead r inn p).2.1)])
    else aRq t now dead n (remote t r (aG t now dead r inn p).2.1).1 (remote t r (aG t now dead r inn p).2.1).2 (aG t now dead r inn p).2.2.1 (st++[(r,inn,(aG t now dead r inn p).2.1)]))
  else ((aG t now dead r inn p).1,(aG t now dead r inn p).2.2.1,st)
theorem bNu{t:den tTo}{now:Int}{dead:List Int}{S R:Type}(enc:Nat->Int->Int->den tPk->cE->S)(out out2:Int×den tPk×cE->R)(N:Nat)(b:Bool){step:S->Option (S⊕R)}
  (H:∀(k:Nat) (r inn:Int) (p:den tPk) (st:cE),k<N->st.length<=k->tot tPk p<=34359738368->tot tPt p.2.2.2.1<=1073741824->step (enc k r inn p st)=some (
   if (aG t now dead r inn p).1==0||(aG t now dead r inn p).1==1 then
    (if (aG t now dead r inn p).1==1 then .inr (out (1,(aG t now dead r inn p).2.2.1,st++[(r,inn,(aG t now dead r inn p).2.1)]))
     else if b&&decide (k+1=N) then .inr (out (0,(aG t now dead r inn p).2.2.1,st++[(r,inn,(aG t now dead r inn p).2.1)]))
     else .inl (enc (k+1) (remote t r (aG t now dead r inn p).2.1).1 (remote t r (aG t now dead r inn p).2.1).2 (aG t now dead r inn p).2.2.1 (st++[(r,inn,(aG t now dead r inn p).2.1)])))
   else .inr (out ((aG t now dead r inn p).1,(aG t now dead r inn p).2.2.1,st))))
  (he:b=false-> ∀r inn p st,step (enc N r inn p st)=some (.inr (out2 (0,p,st)))):
  ∀(n k:Nat) (r inn:Int) (p:den tPk) (st:cE),k+n=N->(n=0->b=false)->st.length<=k->tot tPk p<=34359738368->tot tPt p.2.2.2.1<=1073741824->aC step (enc k r inn p st)=some (out (aRq t now dead n r inn p st))\/aC step (enc k r inn p st)=some (out2 (aRq t now dead n r inn p st)):=by
 intro n
 induction n with
 | zero=>
  intro k r inn p st hk hb hs hp hq;have :k=N:=by omega
  subst this;exact .inr (bA (he (hb rfl) r inn p st))
 | succ n ih=>
  intro k r inn p st hk hb hs hp hq;have h:=H k r inn p st (by omega) hs hp hq;unfold aRq;cases c01:(aG t now dead r inn p).1==0||(aG t now dead r inn p).1==1 with
  | false=>
   rw[c01]at h;exact .inl (bA h)
  | true=>
   rw[c01,zT rfl]at h;rw[zT rfl];cases c1:(aG t now dead r inn p).1==1 with
   | true=>
    rw[c1]at h;exact .inl (bA h)
   | false=>
    rw[c1]at h;simp only[cF1,zU]at h ⊢;cases hl:b&&decide (k+1=N) with
    | true=>
     rw[hl,zT rfl]at h;rw[cFw,zR]at hl;have :n=0:=by omega
     subst this;exact .inl (bA h)
    | false=>
     rw[hl]at h;simp only[cF1,zU]at h;rw[cQ h];refine ih (k+1) _ _ _ _ (by omega) (λhn=> ?_) (by simp;omega) ?_ ?_
     .subst hn;cases b with
      | false=>rfl
      | true=>simp at hl;omega
     .unfold aG;rw[aKv];exact hp
     .unfold aG;rw[bQ5];exact hq
def aYn(x:Int×den tPk×cE):q10:=
 (x.1,x.2.1.1,x.2.1.2.1,x.2.1.2.2.1,x.2.1.2.2.2.1,x.2.1.2.2.2.2.1,x.2.1.2.2.2.2.2.1,x.2.1.2.2.2.2.2.2.1,x.2.1.2.2.2.2.2.2.2.1,x.2.1.2.2.2.2.2.2.2.2.1,x.2.1.2.2.2.2.2.2.2.2.2,x.2.2)
def bIh(k:Nat)(r inn:Int)(p:den tPk)(st:cE):Int×Int×Int×q10:=
 (r,inn,((k+1:Nat):Int),0,p.1,p.2.1,p.2.2.1,p.2.2.2.1,p.2.2.2.2.1,p.2.2.2.2.2.1,p.2.2.2.2.2.2.1,p.2.2.2.2.2.2.2.1,p.2.2.2.2.2.2.2.2.1,p.2.2.2.2.2.2.2.2.2,st)
def bSm(t:den tTo)(now:Int)(dead:List Int)(p:den tPk):Int×den tPk×cE:=aRq t now dead 30 p.2.1 0 p []
theorem bZ2{t:den tTo}{now:Int}{dead:List Int}{p:den tPk}(ht:t.1.length<=68719476736)(ht2:t.2.length<=1073741824)(hd:dead.length<=68719476736)(h:tot tPk p<=34359738368)(hpp:tot tPt p.2.2.2.1<=1073741824):uB t now dead p=some (aYn (bSm t now dead p)):=by
 unfold uB aL yJ pj2 aS bD bR eC kX zz4 zz5 zz6 zz7 zz8 zz9;simp only[aP,aHm (fV h),aA];have e0:(p.2.1,(0:Int),(1:Int),(0:Int),(pkR p).1,(pkR p).2.1,(pkR p).2.2.1,(pkR p).2.2.2.2.2.2.2.2.1,(pkR p).2.2.2.1,(pkR p).2.2.2.2.1,(pkR p).2.2.2.2.2.1,(pkR p).2.2.2.2.2.2.1,(pkR p).2.2.2.2.2.2.2.1,(pkR p).2.2.2.2.2.2.2.2.2,([]:cE))=bIh 0 p.2.1 0 p []:=rfl;rw[e0];refine (bNu (t:=t) (now:=now) (dead:=dead) bIh aYn aYn 30 true ?_ (λhb=>by cases hb) 30 0 p.2.1 0 p [] rfl (λh=>by cases h) (cF8 _) h hpp).elim id id;intro k r inn p st hk hs hp hq;have hw:wr (((k+1:Nat):Int)+1)=((k+1+1:Nat):Int):=(wri (by omega) (by omega)).trans (by omega);have h30:(((k+1:Nat):Int)==30)=decide (k+1=30):=by rw[cGl];simp only[beq_iff_eq,zR];omega
 simp only[bIh,aP,aPm ht2 hd,aWx ht (cFv ht2 (by decide)) hp hq,aQz (t:=t) (cFv ht2 (by decide)),aA,bC,bT,bH,bI,bL,aF9,aE (b:=24) (n:=st.length) (m:=1) (by decide) (by omega),zZ,hw,h30];rw[show fwd t r now (dI t dead r) inn p=aG t now dead r inn p from rfl];have hx:∀c:Int,(c==0)=true->(c==1)=false:=λc hc=>by
  have :c=0:=by simpa using hc
  subst this;rfl
 cases c0:(aG t now dead r inn p).1==0 with
 | true=>
  rw[hx _ c0];have e0:(aG t now dead r inn p).1=0:=by simpa using c0
  simp only[cF0,cGa,zY,zZ,aA,cH0,zV,cF1,zU,cGf,e0];cases decide (k+1=30)<;>rfl
 | false=>
  cases c1:(aG t now dead r inn p).1==1 with
  | true=>
   have e1:(aG t now dead r inn p).1=1:=by simpa using c1
   simp only[cF0,cGa,zY,zZ,aA,cH4,zV,e1];rfl
  | false=>
   simp only[cGa,zZ,aA,cHj,cF1,zU];rfl
def aKw(t:den tTo)(now:Int)(dead:List Int)(p:den tPt):Bool:=(bSm t now dead (gF 1 p 0 0 [])).1==1
theorem bCl{t:den tTo}{now:Int}{dead:List Int}{p:den tPt}(ht:t.1.length<=68719476736)(ht2:t.2.length<=1073741824)(hd:dead.length<=68719476736)(hp:tot tPt p<=1073741824):wN t now dead p=some (aKw t now dead p):=by
 unfold wN aKw pj2 zz4 zz5 zz6 zz7 zz8 zz9;have h1:tot tPk (gF 1 p 0 0 [])<=34359738368:=by rw[aJs,aDo];omega
 have e:uB t now dead ((pkR (gF 1 p 0 0 [])).1,(pkR (gF 1 p 0 0 [])).2.1,(pkR (gF 1 p 0 0 [])).2.2.1,(pkR (gF 1 p 0 0 [])).2.2.2.2.2.2.2.2.1,(pkR (gF 1 p 0 0 [])).2.2.2.1,(pkR (gF 1 p 0 0 [])).2.2.2.2.1,(pkR (gF 1 p 0 0 [])).2.2.2.2.2.1,(pkR (gF 1 p 0 0 [])).2.2.2.2.2.2.1,(pkR (gF 1 p 0 0 [])).2.2.2.2.2.2.2.1,(pkR (gF 1 p 0 0 [])).2.2.2.2.2.2.2.2.2)=some (aYn (bSm t now dead (gF 1 p 0 0 []))):=bZ2 ht ht2 hd h1 hp;simp only[aP,aP5 (kind:=1) (res:=0) (seq:=0) (p:=p) (pay:=[]) (by omega) (by simp),aA,e];rfl
def aJh(w:den tNw)(p:den tPt)(now:Int):Bool:=aKw w.1 now w.2.2.2.2.1 p&&aKw w.1 now w.2.2.2.2.1 (kA p)
def aH5(w:den tNw):Int:=wr (w.2.2.2.1+wr (8+oV w))
def aF8(w:den tNw)(p:den tPt):Bool:=aJh w p w.2.2.2.1&&aJh w p (aH5 w)
def aD0(w:den tNw)(f:den tFl):Int:=
 match bW (λk p=>if aF8 w p then some (k:Int) else none) 0 f.2.2.2.2.2.1 with
 | some i=>i
 | none=> -1
structure bUl (w:den tNw):Prop where
 as:w.1.1.length<=68719476736
 links:w.1.2.length<=1073741824
 dead:w.2.2.2.2.1.length<=68719476736
 flows:w.2.2.2.2.2.2.1.length<=1073741824
theorem bVs{w:den tNw}(h:tot tNw w<=1073741824):bUl w where
 as:=cFv (dX (t:=tAS) _) (cFv (xS (xS h)) (by decide))
 links:=cFv (dX (t:=tLk) _) (cFv (aT (xS h)) (by decide))
 dead:=cFv (dX (t:=ti) _) (cFv (xS (aT (aT (aT (aT h))))) (by decide))
 flows:=cFv (dX (t:=tFl) _) (xS (aT (aT (aT (aT (aT (aT h)))))))
theorem bZo{w:den tNw}{f:den tFl}(h:bUl w)(hf:tot tFl f<=1073741824):mM w f=some (aD0 w f):=by
 have hl:f.2.2.2.2.2.1.length<=1073741824:=cFv (dX (t:=tPt) _) (aT6 hf).2.1;unfold mM ixb pj2 dT zz4 zz5;simp only[aP,bA3 h.flows,aA];rw[aY (l:=f.2.2.2.2.2.1) (λk p=>if aF8 w p then some (k:Int) else none) (by omega) (λk p hi hd hw hm hk=>by
  have hp:tot tPt p<=1073741824:=by have :=vC (t:=tPt) hm;have :=(aT6 hf).2.1;omega
  have hr:=λnow=>bCl h.as h.links h.dead (now:=now) hp
  have hr2:=λnow=>bCl h.as h.links h.dead (now:=now) (p:=kA p) (by rw[aDc];exact hp)
  simp only[hd,hi,hw,zZ,aA,aP,bC9 (aVb hp),hr,hr2];rw[lJ (λk (b:Bool)=>(b,(k:Int))) (true,(0:Int)) true [w.2.2.2.1,aH5 w] (λ_ n b=>b&&aJh w p n) (λ_=>0) (λ_=>0) 0 id rfl (by simp) (by simp) (λ_ _ _=>cF8 _) (λk n b hi hx hd hw hk hb=>by
   have hd:decide ((k:Int)<(([w.2.2.2.1,wr (w.2.2.2.1+wr (8+oV w))]:List Int).length:Int))=true:=hd;have hx:([w.2.2.2.1,wr (w.2.2.2.1+wr (8+oV w))]:List Int)[k]? =some n:=hx;simp only[hd,cU,cF2,hx,hw,zZ,aA];unfold aJh;cases b<;>cases aKw w.1 n w.2.2.2.2.1 p<;>rfl) (λa=>by simp)]
  show Option.bind (some (id (bO (λ_ n b=>b&&aJh w p n) 0 [w.2.2.2.1,aH5 w] true))) _=_;simp only[bO,aA,id,cGf];unfold aF8;cases aJh w p w.2.2.2.1&&aJh w p (aH5 w)<;>rfl) (by simp)]
 unfold aD0;cases bW (λk p=>if aF8 w p then some (k:Int) else none) 0 f.2.2.2.2.2.1<;>rfl
abbrev nT(w:den tNw):den tTo:=w.1
abbrev nK(w:den tNw):den tDb:=w.2.1
abbrev nG(w:den tNw):den tSc:=w.2.2.1
abbrev aJ(w:den tNw):Int:=w.2.2.2.1
abbrev aH(w:den tNw):List Int:=w.2.2.2.2.1
abbrev aI(w:den tNw):lFy:=w.2.2.2.2.2.1
abbrev aB(w:den tNw):lFl:=w.2.2.2.2.2.2.1
abbrev aR(w:den tNw):lIb:=w.2.2.2.2.2.2.2.1
abbrev dR(w:den tNw):Int:=w.2.2.2.2.2.2.2.2
def aGh(w:den tNw):q2:=
 ((nG w).1,aJ w,dR w,(nT w).1,(nT w).2,(nK w).1,(nK w).2,(nG w).2.1,(nG w).2.2,aH w,aI w,aB w,aR w)
theorem bLn{l:lRs}(h:l.length<=68719476736):fL l=some l:=by
 unfold fL;rw[aE (n:=([]:lRs).length) (by decide) (by simpa using h)];rfl
theorem bJq{g:den tSc}(h:SmB 68719476736 tSc g):fW g=some g:=by
 unfold fW;rw[bLn h.2.1.1,aA,aE (n:=([]:lUs).length) (by decide) (by simpa using h.2.2.1)];rfl
theorem bIr{g:den tSc}(h:SmB 68719476736 tSc g):jM g=some g:=by
 unfold jM pj3;rw[aE (b:=40) (n:=([]:lRs).length) (by decide) (by simpa using h.2.1.1),aE (b:=32) (n:=([]:lUs).length) (by decide) (by simpa using h.2.2.1)];simp only[bC,bT,bH,bI,bL,zZ,aA,cGk]
theorem aN7(f:den tFl):(((pW f).1,(pW f).2.1,(pW f).2.2.1,(pW f).2.2.2.1,(pW f).2.2.2.2.2.2.1,(pW f).2.2.2.2.2.2.2.1,(pW f).2.2.2.2.1,(pW f).2.2.2.2.2.1,(pW f).2.2.2.2.2.2.2.2):den tFl)=f:=rfl
theorem bGs(p:den tPk):(((pkR p).1,(pkR p).2.1,(pkR p).2.2.1,(pkR p).2.2.2.2.2.2.2.2.1,(pkR p).2.2.2.1,(pkR p).2.2.2.2.1,(pkR p).2.2.2.2.2.1,(pkR p).2.2.2.2.2.2.1,(pkR p).2.2.2.2.2.2.2.1,(pkR p).2.2.2.2.2.2.2.2.2):den tPk)=p:=rfl
theorem bMy{x:den tFy}(h:SmB 68719476736 tFy x):SmB 68719476736 tPk x.2.2:=h.2.2
theorem aP7{w:den tNw}(h:SmB 68719476736 tNw w):eY w=some (aGh w):=by
 obtain⟨hT,hK,hG,_,hD,hY,hF,hX,_⟩:=h;unfold eY rH aL pj2 pj3 pj4 pj9 zz4 zz5 zz6 zz7 zz8 zz9;simp only[aP,bY9 hT,bBa hK.1,bBa hK.2,bJq hG,bE3 hD.1,aA];rw[(vZ (λk (a:lFy)=>((k:Int),(nG w).1,aJ w,dR w,a)) ((0:Int),(nG w).1,aJ w,dR w,[]) [] (aI w) (λ_ x a=>a++[x]) cGd (λ_=>1) 68719476736 (λa=>((nG w).1,aJ w,dR w,a)) rfl (cFv hY.1 (by decide)) (by rw[fB];simpa using hY.1) (λk x a hi hx hd hw hk hb=>by
  have e:=bMy (hY.2 x (cF9 hx));simp only[hd,hi,hw,zZ,aA,aP,aHm e,bGs,aE (b:=128) (n:=a.length) (m:=1) (by decide) hb];exact⟨rfl,by simp⟩) (λa=>by simp)).1,iC (λx=>x)]
 simp only[aA];rw[(vZ (λk (a:lFl)=>((k:Int),(nG w).1,aJ w,dR w,a)) ((0:Int),(nG w).1,aJ w,dR w,[]) [] (aB w) (λ_ x a=>a++[x]) cGd (λ_=>1) 68719476736 (λa=>((nG w).1,aJ w,dR w,a)) rfl (cFv hF.1 (by decide)) (by rw[fB];simpa using hF.1) (λk x a hi hx hd hw hk hb=>by
  have e:=hF.2 x (cF9 hx);simp only[hd,hi,hw,zZ,aA,aP,aKi e,aN7,aE (b:=120) (n:=a.length) (m:=1) (by decide) hb];exact⟨rfl,by simp⟩) (λa=>by simp)).1,iC (λx=>x)]
 simp only[aA];rw[(vZ (λk (a:lIb)=>((k:Int),(nG w).1,aJ w,dR w,a)) ((0:Int),(nG w).1,aJ w,dR w,[]) [] (aR w) (λ_ x a=>a++[x]) cGd (λ_=>1) 68719476736 (λa=>((nG w).1,aJ w,dR w,a)) rfl (cFv hX.1 (by decide)) (by rw[fB];simpa using hX.1) (λk x a hi hx hd hw hk hb=>by
  have e:=hX.2 x (cF9 hx);simp only[hd,hi,hw,zZ,aA,aP,bF6 e,aE (b:=48) (n:=a.length) (m:=1) (by decide) hb];simp) (λa=>by simp)).1,iC (λx=>x)]
 simp only[aA,cGk,List.map_id'];rfl
theorem cD1{l:lFy}(h:SmB 68719476736 (.sl tFy) l):vH l=some l:=by
 unfold vH aL zz4 zz5 zz6 zz7 zz8 zz9;rw[(vZ (λk (a:lFy)=>((k:Int),a)) ((0:Int),[]) [] l (λ_ x a=>a++[x]) cGd (λ_=>1) 68719476736 id rfl (cFv h.1 (by decide)) (by rw[fB];simpa using h.1) (λk x a hi hx hd hw hk hb=>by
  have e:=bMy (h.2 x (cF9 hx));simp only[hd,hi,hw,zZ,aA,aP,aFj e,bGs,aE (b:=128) (n:=a.length) (m:=1) (by decide) hb];exact⟨rfl,by simp⟩) (λa=>by simp)).1,iC (λx=>x)]
 simp
theorem bXq{l:lFl}(h:SmB 68719476736 (.sl tFl) l):pY l=some l:=by
 unfold pY pj9 zz4 zz5 zz6 zz7 zz8;rw[(vZ (λk (a:lFl)=>((k:Int),a)) ((0:Int),[]) [] l (λ_ x a=>a++[x]) cGd (λ_=>1) 68719476736 id rfl (cFv h.1 (by decide)) (by rw[fB];simpa using h.1) (λk x a hi hx hd hw hk hb=>by
  have e:=h.2 x (cF9 hx);simp only[hd,hi,hw,zZ,aA,aP,aEw e,aN7,aE (b:=120) (n:=a.length) (m:=1) (by decide) hb];exact⟨rfl,by simp⟩) (λa=>by simp)).1,iC (λx=>x)]
 simp
theorem bZk{l:lIb}(h:SmB 68719476736 (.sl tIb) l):pQ l=some l:=by
 unfold pQ pj4;rw[(vZ (λk (a:lIb)=>((k:Int),a)) ((0:Int),[]) [] l (λ_ x a=>a++[x]) cGd (λ_=>1) 68719476736 id rfl (cFv h.1 (by decide)) (by rw[fB];simpa using h.1) (λk x a hi hx hd hw hk hb=>by
  have e:=h.2 x (cF9 hx);simp only[hd,hi,hw,zZ,aA,aP,bE6 e,aE (b:=48) (n:=a.length) (m:=1) (by decide) hb];simp) (λa=>by simp)).1,iC (λx=>x)]
 simp
theorem bFq{w:den tNw}(h:SmB 68719476736 tNw w):sJ w=some (aGh w):=by
 obtain⟨hT,hK,hG,_,hD,hY,hF,hX,_⟩:=h;unfold sJ pj2 pj3 aS zz4 zz5 zz6 zz7 zz8 zz9;simp only[aP,bGj hT,aFa hK.1,aFa hK.2,bIr hG,cD1 hY,bXq hF,bZk hX,aA,aE (b:=8) (n:=([]:List Int).length) (m:=w.2.2.2.2.1.length) (by decide) (by simpa using hD.1),zZ,bC,bT,bH,bI,bL,cGk];rfl
def bB(w:den tNw):q1:=
 (aI w,aB w,aR w,(nT w).1,(nT w).2,(nK w).1,(nK w).2,(nG w).1,(nG w).2.1,(nG w).2.2,aJ w,aH w,dR w)
def bS(w:den tNw)(l:lFl):den tNw:=(nT w,nK w,nG w,aJ w,aH w,aI w,l,aR w,dR w)
def cX(r:Int)(p:den tPk)(f:den tFl):den tFl:=if f.1==r then (if p.1==2 then kG f p else iY f p) else f
def tI(w:den tNw)(r:Int)(p:den tPk):den tNw:=bS w ((aB w).map (cX r p))
def gE(p:den tPk):Prop:= ∀x∈p.2.2.2.2.2.2.2.2.2,0<=x/\x<=255
theorem aVu{α S R:Type}(enc:Nat->List α->S)(l:List α)(g:α->α)(out:List α->R){step:S->Option (S⊕R)}(hl:l.length<=4611686018427387904)
  (h:∀(k:Nat) (x:α) (a:List α),a.length=l.length->a[k]? =some x->x∈l->k<l.length->decide ((k:Int)<(l.length:Int))=true->IntKind.i64.wrap ((k:Int)+1)=((k+1:Nat):Int)->step (enc k a)=some (.inl (enc (k+1) (a.set k (g x)))))
  (he:∀a,a.length=l.length->step (enc l.length a)=some (.inr (out a))):aC step (enc 0 l)=some (out (l.map g)):=by
 have key:∀(rest pre:List α),pre++rest=l->aC step (enc pre.length (pre.map g++rest))=some (out (l.map g)):=by
  intro rest
  induction rest with
  | nil=>
   intro pre hp;rw[cGq]at hp;subst hp;rw[cGq];exact bA (he _ (by simp))
  | cons x rest ih=>
   intro pre hp;have hlt:pre.length<l.length:=by rw[<- hp];simp
   have hx:(pre.map g++x::rest)[pre.length]? =some x:=by simp
   have hlen:(pre.map g++x::rest).length=l.length:=by rw[<- hp];simp
   rw[cQ (h pre.length x _ hlen hx (by rw[<- hp];simp) hlt (by simpa using hlt) (by rw[wri (by omega) (by omega)];omega))];have hs:(pre.map g++x::rest).set pre.length (g x)=(pre++[x]).map g++rest:=by
    rw[List.set_append_right _ _ (by simp)];simp
   rw[hs];have :=ih (pre++[x]) (by simpa using hp);simpa using this
 exact key l [] rfl
theorem aLc{α:Type}{a:List α}{k:Nat}{x:α}(h:a[k]? =some x):a.set k x=a:=by
 obtain⟨hlt,hx⟩:=cFz.1 h;rw[<- hx];exact List.set_getElem_self hlt
theorem aU1{f:den tFl}(h:tot tFl f<=1073741824):SmB 68719476736 tFl f:=(bM h).mono (by decide)
theorem aPr{α:Type}{a:List α}{k n:Nat}(h:a.length=n)(hk:k<n):decide ((k:Int)<(a.length:Int))=true/\decide (k<a.length)=true:=by
 constructor<;>simp<;>omega
theorem aV6{w:den tNw}{r:Int}{p:den tPk}(hF:∀f∈aB w,tot tFl f<=1073741824)(hl:(aB w).length<=1073741824)(hp:tot tPk p<=1073741824)(hb:gE p):iM w r p=some (bB (tI w r p)):=by
 unfold iM ixb aL pj9 zz4 zz5 zz6 zz7 zz8;refine aVu (λk (a:lFl)=>((k:Int),a)) (aB w) (cX r p) (λl=>bB (bS w l)) (cFv hl (by decide)) (λk f a ha hx hm hk hd hw=> ?_) (λa ha=> ?_)
 .obtain⟨d1,d2⟩:=aPr ha hk;have hd:decide ((k:Int)<(w.2.2.2.2.2.2.1.length:Int))=true:=hd;simp only[hd,d1,d2,cU,cF2,hx,zZ,aA,aP,aF9,bYv (aU1 (hF f hm)),bY4 (hF f hm) hp hb,aN7,hw];unfold cX;cases f.1==r
  .simp only[cGa,zZ,cF1,zU,aA,aLc hx]
  .simp only[cF0,zY,zV];cases p.1==2<;>rfl
 .simp;rfl
theorem aVz{w:den tNw}{r:Int}{p:den tPk}(hk3:(p.1==2)=false)(hF:∀f∈aB w,tot tFl f<=1073741824)(hl:(aB w).length<=1073741824)(hp:tot tPk p<=1073741824)(hb:gE p):oR w r p=some (bB (tI w r p)):=by
 unfold oR ixb aL pj9 zz4 zz5 zz6 zz7 zz8;refine aVu (λk (a:lFl)=>((k:Int),a)) (aB w) (cX r p) (λl=>bB (bS w l)) (cFv hl (by decide)) (λk f a ha hx hm hk hd hw=> ?_) (λa ha=> ?_)
 .obtain⟨d1,d2⟩:=aPr ha hk;simp only[d1,d2,cU,cF2,hx,zZ,aA,aP,bXn (hF f hm) hp hb,bC,bT,bH,bI,bL,hw];unfold cX;rw[hk3];cases f.1==r
  .simp only[zY,cF1,zU,aA,aLc hx]
  .simp only[zZ,zV,aA,cF1,zU];rfl
 .show cond (decide ((((aB w).length:Nat):Int)<(a.length:Int))) _ _=_;rw[ha,zW (by omega)];rfl
theorem bPc{w:den tNw}{r:Int}{p:den tPk}(hk2:(p.1==2)=true)(hF:∀f∈aB w,tot tFl f<=1073741824)(hl:(aB w).length<=1073741824){step:Int×lFl->Option ((Int×lFl)⊕_)}
  (hs:∀(k:Nat) (f:den tFl) (a:lFl),a.length=(aB w).length->a[k]? =some f->f∈aB w->k<(aB w).length->step ((k:Int),a)=some (.inl (((k+1:Nat):Int),a.set k (cX r p f)))) (he:∀a,a.length=(aB w).length->step (((aB w).length:Int),a)=some (.inr (bB (bS w a)))):aC step ((0:Int),aB w)=some (bB (tI w r p)):=
 aVu (λk (a:lFl)=>((k:Int),a)) (aB w) (cX r p) (λl=>bB (bS w l)) (cFv hl (by decide)) (λk f a ha hx hm hk hd hw=>hs k f a ha hx hm hk) (λa ha=>he a ha)
theorem aOs(p:den tPk):goTo p p.2.2.2.2.1 p.2.2.2.2.2.1 p.2.2.2.2.2.2.1=p:=rfl
theorem aJz(t:den tTo)(p:den tPk):∃b,sealed t p=goTo p p.2.2.2.2.1 p.2.2.2.2.2.1 b:=by
 unfold sealed;split
 .exact⟨_,rfl⟩
 .exact⟨_,(aOs p).symm⟩
theorem bB9(p:den tPk):∃i j b,adv p=goTo p i j b:=by
 unfold adv;split
 .exact⟨_,_,_,(aOs p).symm⟩
 .split<;>exact⟨_,_,_,rfl⟩
theorem bB3{t:den tTo}{now:Int}:∀(n:Nat) (p:den tPk),∃i j b,(goC t now n p).2=goTo p i j b
 | 0,p=>by obtain⟨b,hb⟩:=aJz t p;exact⟨_,_,_,hb⟩
 | n+1,p=>by
  obtain⟨b,hb⟩:=aJz t p;unfold goC;split
  .obtain⟨i,j,c,h1⟩:=bB3 (t:=t) (now:=now) n (adv (sealed t p));obtain⟨i',j',c',h2⟩:=bB9 (sealed t p);rw[h1,h2,hb];exact⟨_,_,_,rfl⟩
  .exact⟨_,_,_,hb⟩
theorem aIc(t:den tTo)(r now dead inn:Int)(p:den tPk):∃i j b,(fwd t r now dead inn p).2.2.1=goTo p i j b:=by
 obtain⟨i,j,b,h⟩:∃i j b,(aX t now p).2=goTo p i j b:=bB3 _ p;unfold fwd
 repeat' split
 all_goals first
  | exact⟨_,_,_,(aOs p).symm⟩
  | exact⟨_,_,_,h⟩
  | (obtain⟨i',j',b',h'⟩:=bB9 (aX t now p).2;exact⟨_,_,_,by rw[show (0,pEg (bG (aX t now p).2) (cW (aX t now p).2),adv (aX t now p).2,pEg (bG (aX t now p).2) (cW (aX t now p).2)).2.2.1=adv (aX t now p).2 from rfl,h',h];rfl⟩)
theorem aBe(t:den tTo)(r now dead inn:Int)(p:den tPk):(fwd t r now dead inn p).2.2.1.1=p.1/\(fwd t r now dead inn p).2.2.1.2.1=p.2.1/\(fwd t r now dead inn p).2.2.1.2.2.2.2.2.2.2.1=p.2.2.2.2.2.2.2.1/\(fwd t r now dead inn p).2.2.1.2.2.2.2.2.2.2.2.2=p.2.2.2.2.2.2.2.2.2:=by
 obtain⟨i,j,b,h⟩:=aIc t r now dead inn p;rw[h];exact⟨rfl,rfl,rfl,rfl⟩
theorem aDi{t:den tTo}{r now dead inn:Int}{p:den tPk}(h:((fwd t r now dead inn p).1==2)=false):dD p=true:=by
 cases hv:dD p with
 | true=>rfl
 | false=>
  unfold fwd at h;rw[hv]at h;cases h
def wP(w:den tNw):den tNw:=(nT w,nK w,nG w,aJ w,aH w,aI w,aB w,aR w,wr (dR w+1))
def gU(w:den tNw)(r eg:Int)(p:den tPk):den tNw:=
 if (oC (nG w) p.2.2.2.2.2.2.2.1 r eg (aJ w)).2.1&&decide ((aI w).length<150) then
  (nT w,nK w,((oC (nG w) p.2.2.2.2.2.2.2.1 r eg (aJ w)).1,(oC (nG w) p.2.2.2.2.2.2.2.1 r eg (aJ w)).2.2.1,(oC (nG w) p.2.2.2.2.2.2.2.1 r eg (aJ w)).2.2.2),aJ w,aH w,aI w++[((remote (nT w) r eg).1,(remote (nT w) r eg).2,p)],aB w,aR w,dR w)
 else wP w
structure aCw (w:den tNw):Prop where
 as:(nT w).1.length<=68719476736
 links:(nT w).2.length<=1073741824
 dead:(aH w).length<=68719476736
 res:(nG w).2.1.length<=1073741824
 use:(nG w).2.2.length<=1073741824
 flowsN:(aB w).length<=1073741824
 flows:∀f∈aB w,tot tFl f<=1073741824
theorem bEv{w:den tNw}{r:Int}{v:den bCj}(h:aCw w):mP w r v=some (bB (gU w r v.2.1 v.2.2)):=by
 unfold mP gU aL pj2 pj3 zz4 zz5 zz6 zz7 zz8 zz9;simp only[aP,bXu h.res h.use,aA,bC,bT,bH,bI,bL];have key:∀n:Nat,decide ((n:Int)>=150)= !decide (n<150):=λn=>by rw[cGl];simp only[zR,cGw,decide_eq_false_iff_not];omega
 have h150:decide ((w.2.2.2.2.2.1.length:Int)>=150)= !decide ((aI w).length<150):=key _;rw[h150];cases ct:(oC (nG w) v.2.2.2.2.2.2.2.2.2.1 r v.2.1 (aJ w)).2.1
 .simp only[cGa,zZ,aA,cGi,cF1,zU];rfl
 .by_cases hl:(aI w).length<150
  .rw[zX hl];simp only[cF0,zY,aA,cHw,zV,aQz (t:=w.1) (cFv h.links (by decide)),aE (b:=128) (n:=w.2.2.2.2.2.1.length) (m:=1) (by decide) (show (aI w).length+1<=_ by omega),zZ];rfl
  .rw[zW hl];simp only[cF0,cGa,zZ,zY,aA,cHt,cF1,zU];rfl
def proc0(w:den tNw)(r inn:Int)(p:den tPk):den tNw:=
 if (aG (nT w) (aJ w) (aH w) r inn p).1==0 then gU w r (aG (nT w) (aJ w) (aH w) r inn p).2.1 (aG (nT w) (aJ w) (aH w) r inn p).2.2.1
 else if (aG (nT w) (aJ w) (aH w) r inn p).1==1 then tI w r (aG (nT w) (aJ w) (aH w) r inn p).2.2.1
 else wP w
structure aC4 (p:den tPk):Prop where
 sz:tot tPk p<=1073741824
 by_:gE p
theorem aC4.step{p:den tPk}(h:aC4 p)(t:den tTo)(now:Int)(dead:List Int)(r inn:Int):aC4 (aG t now dead r inn p).2.2.1 where
 sz:=by unfold aG;rw[aKv];exact h.sz
 by_:=λx hx=>h.by_ x (by unfold aG at hx;rwa [(aBe t r now _ inn p).2.2.2]at hx)
theorem aVd{w:den tNw}{r inn:Int}{p:den tPk}(h:aCw w)(hp:aC4 p)(hk:(p.1==1)=false):eR w r inn p=some (bB (proc0 w r inn p)):=by
 have hp2:tot tPt p.2.2.2.1<=1073741824:=aKy hp.sz;have hs:=hp.step (nT w) (aJ w) (aH w) r inn;unfold eR bP.b ixb aL fT pj2 pj3 pj4 dT aS bD bR zz4 zz5 zz6 zz7 zz8 zz9;simp only[aP,aPm h.links h.dead,bG9 h.as (cFv h.links (by decide)) (cFv hp.sz (by decide)) hp2,aA,bC,bT,bH,bI,bL,hk];rw[show fwd w.1 r w.2.2.2.1 (dI w.1 w.2.2.2.2.1 r) inn p=aG (nT w) (aJ w) (aH w) r inn p from rfl];unfold proc0;generalize aG (nT w) (aJ w) (aH w) r inn p=v at hs;simp only[fwI,aP];cases c0:v.1==0
 .cases c1:v.1==1
  .cases v.1==7
   .simp only[zY,aA,cF1,zU];rfl
   .simp only[zZ,zY,aA,cF1,zU];rfl
  .simp only[zZ,zY,aA,cF1,zU,zV,aV6 h.flows h.flowsN hs.sz hs.by_]
 .simp only[zZ,zV,bEv h,aA]
theorem bAf:∀(k n:Nat),n<128 ^ (k+1)-> ∀x∈vi k n,0<=x/\x<=255
 | 0,n,h,x,hx=>by
  have :x=(n:Int):=by simpa [vi] using hx
  subst this;have :128 ^ (0+1)=128:=rfl;omega
 | k+1,n,h,x,hx=>by
  unfold vi at hx;split at hx
  .have :x=(n:Int):=by simpa using hx
   subst this;omega
  .rcases List.mem_cons.1 hx with rfl | hx
   .omega
   .refine bAf k (n / 128) ?_ x hx;rw[Nat.div_lt_iff_lt_mul (by decide)]
    rwa [<- Nat.pow_succ]
def tY(l:List Int):Prop:= ∀x∈l,0<=x/\x<=255
theorem bJa{b:List Int}{n:Int}(h:tY b):tY (aCm b n):=by
 unfold aCm;split
 .rename_i hr;have :=aV.1 hr;intro x hx;rcases cF6.1 hx with hx | hx
  .exact h x hx
  .exact bAf 5 n.toNat (by have :128 ^ (5+1)=4398046511104:=rfl;omega) x hx
 .exact h
theorem aSc:∀(l b:List Int),tY b->tY (aJ0 b l)
 | [],b,h=>h
 | x::xs,b,h=>aSc xs (aCm b x) (bJa h)
theorem aS2(x:den tRv):tY (tW x):=by
 unfold tW;split
 .exact aSc _ _ (λx hx=>by cases hx)
 .exact λx hx=>by cases hx
theorem bGm{r now d:Int}{p:den tPk}(h:tot tPk p<=536870912):aC4 (cB r now d p) where
 sz:=by have :=aXl r now d p;omega
 by_:=aS2 _
theorem aTh{x:den tIb}{p:den tPk}(h:aC4 p):aC4 (jV x p) where
 sz:=cFv (aWq x p) h.sz
 by_:=by
  unfold jV;split
  .exact λx hx=>by cases hx
  .exact λx hx=>by cases hx
theorem bYd{l:lIb}{a b:Int}(h:l.length<=68719476736):rX l a b=some (dS l a b):=by
 unfold rX dS;rw[aY (l:=l) (λk x=>if rB a b x then some (k:Int) else none) (by omega) (λk x hi hd hw hm hk=>by
  simp only[hd,hi,hw,zZ,aA];unfold rB;cases x.1==a<;>cases x.2.1==b<;>rfl) (by simp),aO7 (rB a b)]
 cases l.findIdx? (rB a b)<;>rfl
theorem aLe(l:lIb)(a b:Int):dS l a b= -1\/ ∃(k:Nat) (x:den tIb),dS l a b=(k:Int)/\l[k]? =some x:=by
 unfold dS;cases h:l.findIdx? (rB a b) with
 | none=>exact .inl rfl
 | some i=>
  have hlt:i<l.length:=by
   have :=List.findIdx?_eq_some_iff_findIdx_eq.1 h;exact this.1
  exact .inr ⟨i,l[i],by simp,cFx hlt⟩
def oQ(w:den tNw)(i:Nat)(x:den tIb):den tNw:=(nT w,nK w,nG w,aJ w,aH w,aI w,aB w,(aR w).set i x,dR w)
def jD(w:den tNw)(i:Nat):den tIb:=((aR w)[i]?).getD (0,0,0,[])
def qX(w:den tNw)(r:Int)(p:den tPk):den tNw:=
 if dS (aR w) r p.2.1<0 then w
 else if aAl (cO (jD w (dS (aR w) r p.2.1).toNat) p) p then
  proc0 (oQ w (dS (aR w) r p.2.1).toNat (cO (jD w (dS (aR w) r p.2.1).toNat) p)) r 0 (jV (cO (jD w (dS (aR w) r p.2.1).toNat) p) p)
 else oQ w (dS (aR w) r p.2.1).toNat (cO (jD w (dS (aR w) r p.2.1).toNat) p)
def tQ(w:den tNw)(r d:Int)(p:den tPk):den tNw:=
 wP (if (fD (qA p)).length>1 then proc0 w r 0 (cB r (aJ w) d p) else tI w r (cB r (aJ w) d p))
def dM(w:den tNw)(r inn:Int)(p:den tPk):den tNw:=
 if (aG (nT w) (aJ w) (aH w) r inn p).1==0 then gU w r (aG (nT w) (aJ w) (aH w) r inn p).2.1 (aG (nT w) (aJ w) (aH w) r inn p).2.2.1
 else if (aG (nT w) (aJ w) (aH w) r inn p).1==1 then
  (if p.1==1 then qX w r (aG (nT w) (aJ w) (aH w) r inn p).2.2.1 else tI w r (aG (nT w) (aJ w) (aH w) r inn p).2.2.1)
 else if (aG (nT w) (aJ w) (aH w) r inn p).1==7&&p.1==1 then tQ w r (aG (nT w) (aJ w) (aH w) r inn p).2.2.2 p
 else wP w
theorem aI3{w:den tNw}(h:aCw w){i:Nat}{x:den tIb}:aCw (oQ w i x):=⟨h.as,h.links,h.dead,h.res,h.use,h.flowsN,h.flows⟩
theorem aHa{x:den tIb}{p:den tPk}(h:aAl x p=true):((jV x p).1==1)=false:=by
 unfold jV;rw[h];rfl
theorem aVe{w:den tNw}{r inn:Int}{p:den tPk}(h:aCw w)(hbn:(aR w).length<=68719476736)(hbx:∀x∈aR w,tot tIb x<=1073741824)(hz:tot tPk p<=536870912)(hb:gE p):bP w r inn p=some (bB (dM w r inn p)):=by
 have hp:aC4 p:=⟨by omega,hb⟩
 have hp2:tot tPt p.2.2.2.1<=1073741824:=aKy hp.sz;have hs:=hp.step (nT w) (aJ w) (aH w) r inn;have hkeep:=aBe w.1 r w.2.2.2.1 (dI w.1 w.2.2.2.2.1 r) inn p;unfold bP bP.b ixb aL fT pj2 pj3 pj4 dT aS bD bR zz4 zz5 zz6 zz7 zz8 zz9;simp only[aP,aPm h.links h.dead,bG9 h.as (cFv h.links (by decide)) (cFv hp.sz (by decide)) hp2,aA,bC,bT,bH,bI,bL];rw[show fwd w.1 r w.2.2.2.1 (dI w.1 w.2.2.2.2.1 r) inn p=aG (nT w) (aJ w) (aH w) r inn p from rfl]at hkeep ⊢;unfold dM;generalize aG (nT w) (aJ w) (aH w) r inn p=v at hs hkeep;simp only[fwI,aP];cases c0:v.1==0
 .cases c1:v.1==1
  .cases c7:v.1==7
   .simp only[zY,aA,cF1,zU,cGi];rfl
   .cases ck:p.1==1
    .simp only[zZ,zY,aA,cF1,zU,cHt];rfl
    .have hn:aC4 (cB r (aJ w) v.2.2.2 p):=bGm hz;have ht1:tot tPt (qA p)<=34359738368:=cFv (aEq p) (cFv hp2 (by decide));have hlen:decide (((fD (qA p)).length:Int)>1)=decide ((fD (qA p)).length>1):=by rw[cGl];simp only[zR,gt_iff_lt];omega
     have e1:eR w r 0 ((pkR (cB r w.2.2.2.1 v.2.2.2 p)).1,(pkR (cB r w.2.2.2.1 v.2.2.2 p)).2.1,(pkR (cB r w.2.2.2.1 v.2.2.2 p)).2.2.1,(pkR (cB r w.2.2.2.1 v.2.2.2 p)).2.2.2.2.2.2.2.2.1,(pkR (cB r w.2.2.2.1 v.2.2.2 p)).2.2.2.1,(pkR (cB r w.2.2.2.1 v.2.2.2 p)).2.2.2.2.1,(pkR (cB r w.2.2.2.1 v.2.2.2 p)).2.2.2.2.2.1,(pkR (cB r w.2.2.2.1 v.2.2.2 p)).2.2.2.2.2.2.1,(pkR (cB r w.2.2.2.1 v.2.2.2 p)).2.2.2.2.2.2.2.1,(pkR (cB r w.2.2.2.1 v.2.2.2 p)).2.2.2.2.2.2.2.2.2)=some (bB (proc0 w r 0 (cB r (aJ w) v.2.2.2 p))):=aVd h hn rfl;have e2:iM w r ((pkR (cB r w.2.2.2.1 v.2.2.2 p)).1,(pkR (cB r w.2.2.2.1 v.2.2.2 p)).2.1,(pkR (cB r w.2.2.2.1 v.2.2.2 p)).2.2.1,(pkR (cB r w.2.2.2.1 v.2.2.2 p)).2.2.2.2.2.2.2.2.1,(pkR (cB r w.2.2.2.1 v.2.2.2 p)).2.2.2.1,(pkR (cB r w.2.2.2.1 v.2.2.2 p)).2.2.2.2.1,(pkR (cB r w.2.2.2.1 v.2.2.2 p)).2.2.2.2.2.1,(pkR (cB r w.2.2.2.1 v.2.2.2 p)).2.2.2.2.2.2.1,(pkR (cB r w.2.2.2.1 v.2.2.2 p)).2.2.2.2.2.2.2.1,(pkR (cB r w.2.2.2.1 v.2.2.2 p)).2.2.2.2.2.2.2.2.2)=some (bB (tI w r (cB r (aJ w) v.2.2.2 p))):=aV6 h.flows h.flowsN hn.sz hn.by_;simp only[zZ,zY,aA,cF1,zU,cHw,zV,bW4 (t:=w.1) (r:=r) (now:=w.2.2.2.1) (d:=v.2.2.2) (cFv hp.sz (by decide)),bCa (fV (p:=p) (by omega)),bC,bT,bH,bI,bL];unfold lV;simp only[aU8 ht1,aA,hlen,e1,e2];unfold tQ;cases hd:decide ((fD (qA p)).length>1)
     .rw[zS (of_decide_eq_false hd)];rfl
     .rw[zT (of_decide_eq_true hd)];rfl
  .cases ck:p.1==1
   .simp only[zZ,zY,aA,cF1,zU,zV,aV6 h.flows h.flowsN hs.sz hs.by_]
   .simp only[zZ,zY,aA,cF1,zU,zV,bYd hbn];unfold qX;rw[hkeep.2.1];rcases aLe (aR w) r p.2.1 with hf | ⟨k,x,hf,hx⟩
    .rw[show dS w.2.2.2.2.2.2.2.1 r p.2.1= -1 from hf];rfl
    .have hlt:=(cFz.1 hx).1;have hx0:w.2.2.2.2.2.2.2.1[k]? =some x:=hx;have hxm:=hbx x (cF9 hx);have hxs:SmB 4294967296 tIb x:=(bM hxm).mono (by decide);have hvs:SmB 4294967296 tPk v.2.2.1:=(bM hs.sz).mono (by decide);have hd1:decide ((k:Int)<(w.2.2.2.2.2.2.2.1.length:Int))=true:=zX (by have :k<w.2.2.2.2.2.2.2.1.length:=hlt;omega);have hd2:decide (k<w.2.2.2.2.2.2.2.1.length)=true:=zX hlt;have hset:(w.2.2.2.2.2.2.2.1.set k (cO x v.2.2.1))[k]? =some (cO x v.2.2.1):=List.getElem?_set_self hlt;have hba:jD w k=x:=by unfold jD;rw[hx];rfl
     rw[show dS w.2.2.2.2.2.2.2.1 r p.2.1=(k:Int) from hf,zW (show ¬ (k:Int)<0 by omega),zS (show ¬ (k:Int)<0 by omega),cF2,hba];have e1:eR (w.1,w.2.1,w.2.2.1,w.2.2.2.1,w.2.2.2.2.1,w.2.2.2.2.2.1,w.2.2.2.2.2.2.1,w.2.2.2.2.2.2.2.1.set k (cO x v.2.2.1),w.2.2.2.2.2.2.2.2) r 0 (jV (cO x v.2.2.1) v.2.2.1)=some (bB (proc0 (oQ w k (cO x v.2.2.1)) r 0 (jV (cO x v.2.2.1) v.2.2.1))):=by
      cases ca:aAl (cO x v.2.2.1) v.2.2.1 with
      | true=>exact aVd (aI3 h) (aTh hs) (aHa ca)
      | false=>exact aVd (aI3 h) (aTh hs) (by unfold jV;rw[ca];rfl)
     simp only[zY,cU,hd1,hd2,zZ,hx0,aA,bY0 hxs hvs,List.length_set,hset,bXv (x:=cO x v.2.2.1) (p:=v.2.2.1) (cFv (aKy hs.sz) (by decide)),bC,bT,bH,bI,bL,pkB,aP,e1];cases aAl (cO x v.2.2.1) v.2.2.1<;>rfl
 .simp only[zZ,zV,bEv h,aA]
def aCd(p q:den tPk):Prop:=p.2.2.2.1=q.2.2.2.1/\p.2.2.2.2.1=q.2.2.2.2.1/\p.2.2.2.2.2.1=q.2.2.2.2.2.1
theorem aCd.cur{p q:den tPk}(h:aCd p q):cI p=cI q/\cA p=cA q/\bG p=bG q/\cW p=cW q/\cS p=cS q/\dJ p=dJ q:=by
 obtain⟨h1,h2,h3⟩:=h;have a1:cI p=cI q:=by unfold cI;rw[h1,h2,h3]
 have a2:cA p=cA q:=by unfold cA;rw[a1,h1,h2,h3]
 have a3:bG p=bG q:=by unfold bG;rw[h1,h2]
 have a4:cW p=cW q:=by unfold cW;rw[a3,h3]
 have a5:cS p=cS q:=by unfold cS;rw[a3,h3]
 exact⟨a1,a2,a3,a4,a5,by unfold dJ aFt;rw[a2,a5,h1,h2]⟩
theorem aCd.adv{p q:den tPk}(h:aCd p q):aCd (adv p) (adv q):=by
 obtain⟨a1,a2,a3,a4,a5,a6⟩:=h.cur;obtain⟨h1,h2,h3⟩:=id h;unfold Go.Proofs.YtnkjolpkcmgcaaaGreat.adv;rw[a2,a5,a6];split
 .exact h
 .split
  .exact⟨h1,by show p.2.2.2.2.1+1=q.2.2.2.2.1+1;rw[h2],rfl⟩
  .exact⟨h1,h2,by show p.2.2.2.2.2.1+1=q.2.2.2.2.2.1+1;rw[h3]⟩
theorem uQ(t:den tTo)(p:den tPk):aCd (sealed t p) p:=by
 obtain⟨b,hb⟩:=aJz t p;rw[hb];exact⟨rfl,rfl,rfl⟩
theorem aCd.trans{p q r:den tPk}(h:aCd p q)(k:aCd q r):aCd p r:=⟨h.1.trans k.1,h.2.1.trans k.2.1,h.2.2.trans k.2.2⟩
theorem xH{t:den tTo}{now:Int}{n:Nat}{p:den tPk}(h:(goC t now n p).1=0):cN t now p=0:=by
 cases n with
 | zero=>exact h
 | succ n=>
  unfold goC at h;split at h
  .rename_i hc;rw[cFw]at hc;simpa using hc.1
  .exact h
theorem bOp{t:den tTo}{now:Int}{step:den tPk->Option (den tPk⊕den tPk)}
  (H:∀q,tot tPk q<=34359738368->cI q=true->step q=some (if cS q&&decide (q.2.2.2.2.1<(q.2.2.2.1.length:Int) - 1) then .inl (adv q) else .inr q)):
  ∀(n:Nat) (p q:den tPk),aCd p q->tot tPk q<=34359738368->(goC t now n p).1=0->p.2.2.2.1.length - p.2.2.2.2.1.toNat<=n-> ∃r,aC step q=some r/\aCd (goC t now n p).2 r/\tot tPk r<=34359738368:=by
 intro n
 induction n with
 | zero=>
  intro p q hs hq hc hm;obtain⟨hh,h0⟩:=vN (xH hc);obtain⟨i,j,h1,h2,h3,h4,h5⟩:=gD hh;have hlt:=(cFz.1 h3).1;rw[h1,cF2]at hm;exact absurd hlt (by omega)
 | succ n ih=>
  intro p q hs hq hc hm;have hz:=xH hc;obtain⟨hh,h0⟩:=vN hz;obtain⟨a1,a2,a3,a4,a5,a6⟩:=hs.cur;obtain⟨b1,b2,b3,b4,b5,b6⟩:=(uQ t p).cur;have hstep:=H q hq (a1▸hh);rw[bA8 (a1▸hh) (a2▸h0)]at hstep;cases hb:cS q&& !dJ q with
  | false=>
   rw[hb]at hstep;have hg:goC t now (n+1) p=(cN t now p,sealed t p):=by
    show (if _ then _ else _)=_;rw[b5,b6,a5,a6,hb,cHt];rfl
   rw[hg];exact⟨q,bA hstep,(uQ t p).trans hs,hq⟩
  | true=>
   rw[hb,zT rfl]at hstep;have hg:goC t now (n+1) p=goC t now n (adv (sealed t p)):=by
    show (if _ then _ else _)=_;rw[b5,b6,a5,a6,hb,hz];rfl
   rw[hg]at hc ⊢;rw[cQ hstep];obtain⟨e1,e2⟩:=bB4 (p:=sealed t p) (by rw[b2];exact h0) (by rw[b5,b6,a5,a6];exact hb);obtain⟨i,j,h1,h2,h3,h4,h5⟩:=gD hh;refine ih _ _ ((uQ t p).trans hs).adv (by rw[aHs];exact hq) hc ?_;rw[e1,e2,(uQ t p).1,(uQ t p).2.1,h1];rw[h1,cF2]at hm;have :((i:Int)+1).toNat=i+1:=by omega
   rw[this];omega
def bHv(t:den tTo)(now:Int)(p:den tPk):Int:=pEg (bG (aX t now p).2) (cW (aX t now p).2)
theorem cB9{t:den tTo}{now:Int}{p:den tPk}(h:tot tPk p<=34359738368)(hz:(aX t now p).1=0):uF p=some (bHv t now p):=by
 unfold uF aL pj4 zz4 zz5 zz6 zz7 zz8 zz9;obtain⟨r,hr,hs,ht⟩:=bOp (t:=t) (now:=now) (step:=λs5=> @Option.bind Bool _ (Option.bind (idx s5.2.2.2.1 s5.2.2.2.2.1) λx6=>cond (s5.2.2.2.2.2.1==(wr ((x6.2.2.2.length:Int) - (1:Int)))) (some (decide (s5.2.2.2.2.1<(wr ((s5.2.2.2.1.length:Int) - (1:Int)))))) (some false)) λ(s7:Bool)=>cond s7 (Option.bind (iN (s5.1,s5.2.1,s5.2.2.1,s5.2.2.2.1,s5.2.2.2.2.1,s5.2.2.2.2.2.1,s5.2.2.2.2.2.2.1,s5.2.2.2.2.2.2.2.1,s5.2.2.2.2.2.2.2.2.1,s5.2.2.2.2.2.2.2.2.2)) λy8=>some (cFu (y8.1,y8.2.1,y8.2.2.1,y8.2.2.2.2.2.2.2.2.1,y8.2.2.2.1,y8.2.2.2.2.1,y8.2.2.2.2.2.1,y8.2.2.2.2.2.2.1,y8.2.2.2.2.2.2.2.1,y8.2.2.2.2.2.2.2.2.2))) (some (cFt (s5.1,s5.2.1,s5.2.2.1,s5.2.2.2.1,s5.2.2.2.2.1,s5.2.2.2.2.2.1,s5.2.2.2.2.2.2.1,s5.2.2.2.2.2.2.2.1,s5.2.2.2.2.2.2.2.2.1,s5.2.2.2.2.2.2.2.2.2)))) (λq hq hh=>by
   obtain⟨i,j,k1,k2,k3,k4,k5⟩:=gD hh;have l1:cGd q.2.2.2.1<=68719476736:=(fV hq).2.2.2.1.1;have hp1:idx q.2.2.2.1 q.2.2.2.2.1=some (bG q):=by rw[k1,aN];exact k3
   simp only[hp1,aA,lM (aBa (fV hq) k3),lM l1,aP,bJw (fV hq)];unfold cS;cases q.2.2.2.2.2.1==((bG q).2.2.2.length:Int) - 1<;>cases decide (q.2.2.2.2.1<(q.2.2.2.1.length:Int) - 1)<;>rfl) _ p p ⟨rfl,rfl,rfl⟩ h hz (cF8 _)
 have hs:aCd (aX t now p).2 r:=hs;have hr':aC _ (p.1,p.2.1,p.2.2.1,p.2.2.2.1,p.2.2.2.2.1,p.2.2.2.2.2.1,p.2.2.2.2.2.2.1,p.2.2.2.2.2.2.2.1,p.2.2.2.2.2.2.2.2.1,p.2.2.2.2.2.2.2.2.2)=some r:=hr;rw[hr',aA];obtain⟨a1,a2,a3,a4,a5,a6⟩:=hs.cur;obtain⟨g1,g2,g3⟩:=aCa _ p hz;have g1:cI r=true:=a1▸g1;obtain⟨i,j,k1,k2,k3,k4,k5⟩:=gD g1;have hp1:idx r.2.2.2.1 r.2.2.2.2.1=some (bG r):=by rw[k1,aN];exact k3
 have hp2:dZ (bG r) r.2.2.2.2.2.1=some (pEg (bG r) (cW r)):=by rw[k2];exact aZa k4 (aBa (fV ht) k3)
 rw[hp1,aA];simp only[aP,hp2,aA];unfold bHv;rw[a3,a4]
theorem bC3{t:den tTo}{now:Int}:∀(n:Nat) (p:den tPk),(goC t now n p).1<=5
 | 0,p=>by
  show cN t now p<=5;unfold cN
  repeat' split
  all_goals decide
 | n+1,p=>by
  unfold goC;split
  .exact bC3 n _
  .show cN t now p<=5;unfold cN
   repeat' split
   all_goals decide
theorem bMp{t:den tTo}{r now dead inn:Int}{p:den tPk}(h:(fwd t r now dead inn p).1=7):(aX t now p).1=0/\(fwd t r now dead inn p).2.2.2=bHv t now p:=by
 have hg:(aX t now p).1<=5:=bC3 _ p;unfold fwd at h|-;split at h
 .cases h
 .rename_i c1;rw[zS c1];split at h
  .cases h
  .rename_i c2;rw[zS c2];split at h
   .simp only at h;omega
   .rename_i c3;rw[zS c3];refine⟨by simpa using c3,?_⟩;split at h
    .split at h<;>cases h
    .rename_i c4;rw[zS c4];split at h
     .cases h
     .rename_i c5;rw[zS c5];split at h
      .rename_i c6;rw[zT c6];rfl
      .cases h
theorem kinds{p:den tPk}(h:dD p=true)(h1:(p.1==1)=false)(h2:(p.1==2)=false):(p.1==3)=true:=by
 unfold dD at h;rw[cFw]at h;have hr:=aV.1 h.1;have h1: ¬ p.1=(1:Int):=by simpa using h1
 have h2: ¬ p.1=(2:Int):=by simpa using h2
 have key:∀c:Int,1<=c->c<=3-> ¬ c=1-> ¬ c=2->c=3:=by intro c;omega
 have :p.1=(3:Int):=key p.1 hr.1 hr.2 h1 h2;rw[this];rfl
theorem bYb{w:den tNw}{r:Int}{p:den tPk}(h:aCw w)(hp:aC4 p)(hk:(p.1==1)=false)(hv:(p.1==2)=false->(p.1==3)=true):uZ w r p=some (bB (tI w r p)):=by
 unfold uZ kT.b ixb aL fT pj2 pj3 pj4 pj9 dT aS zz4 zz5 zz6 zz7 zz8 zz9;rw[hk,zY];cases h2:p.1==2 with
 | true=>
  rw[zZ];refine bPc (w:=w) (r:=r) (p:=p) h2 h.flows h.flowsN (λk f a ha hx hm hk'=> ?_) (λa ha=> ?_)
  .obtain⟨d1,d2⟩:=aPr ha hk';have hw:wr ((k:Int)+1)=((k+1:Nat):Int):=(wri (by have :=h.flowsN;omega) (by have :=h.flowsN;omega)).trans (by omega);simp only[d1,d2,cU,cF2,hx,zZ,aA,aP,bEp (aU1 (h.flows f hm)),bC,bT,bH,bI,bL,hw];unfold cX;rw[h2];cases f.1==r
   .simp only[zY,cF1,zU,aA,aLc hx]
   .simp only[zZ,zV,aA];rfl
  .show cond (decide ((((aB w).length:Nat):Int)<(a.length:Int))) _ _=_;rw[ha,zW (by omega)];rfl
 | false=>
  rw[zY,hv h2,zZ];simp only[aP,aVz h2 h.flows h.flowsN hp.sz hp.by_,aA]
theorem cBp{w:den tNw}{r:Int}{p:den tPk}(h:aCw w)(hp:aC4 p)(hk:(p.1==1)=false)(hv:(p.1==2)=false->(p.1==3)=true):kT w r p=some (bB (tI w r p)):=by
 unfold kT kT.b ixb aL fT pj2 pj3 pj4 pj9 dT aS zz4 zz5 zz6 zz7 zz8 zz9;rw[hk,zY];cases h2:p.1==2 with
 | true=>
  rw[zZ];refine bPc (w:=w) (r:=r) (p:=p) h2 h.flows h.flowsN (λk f a ha hx hm hk'=> ?_) (λa ha=> ?_)
  .obtain⟨d1,d2⟩:=aPr ha hk';have hw:wr ((k:Int)+1)=((k+1:Nat):Int):=(wri (by have :=h.flowsN;omega) (by have :=h.flowsN;omega)).trans (by omega);simp only[d1,d2,cU,cF2,hx,zZ,aA,aP,bEp (aU1 (h.flows f hm)),bC,bT,bH,bI,bL,hw];unfold cX;rw[h2];cases f.1==r
   .simp only[zY,cF1,zU,aA,aLc hx]
   .simp only[zZ,zV,aA];rfl
  .show cond (decide ((((aB w).length:Nat):Int)<(a.length:Int))) _ _=_;rw[ha,zW (by omega)];rfl
 | false=>
  rw[zY,hv h2,zZ];simp only[aP,aVz h2 h.flows h.flowsN hp.sz hp.by_,aA]
theorem aV4{w:den tNw}{r inn:Int}{p:den tPk}(h:aCw w)(hp:aC4 p)(hk:(p.1==1)=false):iK w r inn p=some (bB (proc0 w r inn p)):=by
 have hp2:tot tPt p.2.2.2.1<=1073741824:=aKy hp.sz;have hs:=hp.step (nT w) (aJ w) (aH w) r inn;have hkeep:=aBe w.1 r w.2.2.2.1 (dI w.1 w.2.2.2.2.1 r) inn p;have hval:=aDi (t:=w.1) (r:=r) (now:=w.2.2.2.1) (dead:=dI w.1 w.2.2.2.2.1 r) (inn:=inn) (p:=p);unfold iK eP.b aL yJ fT pj2 pj3 dT aS bD bR zz4 zz5 zz6 zz7 zz8 zz9;simp only[aP,bF9 h.links h.dead,bU0 h.as (cFv h.links (by decide)) (cFv hp.sz (by decide)) hp2,aA,bC,bT,bH,bI,bL,hk];rw[show fwd w.1 r w.2.2.2.1 (dI w.1 w.2.2.2.2.1 r) inn p=aG (nT w) (aJ w) (aH w) r inn p from rfl]at hkeep hval ⊢;unfold proc0;generalize aG (nT w) (aJ w) (aH w) r inn p=v at hs hkeep hval;have hback:(((fwS v).2.2.1,(fwS v).2.2.2.1,(fwS v).2.2.2.2.1,(fwS v).2.2.2.2.2.2.2.2.2.2.1,(fwS v).2.2.2.2.2.1,(fwS v).2.2.2.2.2.2.1,(fwS v).2.2.2.2.2.2.2.1,(fwS v).2.2.2.2.2.2.2.2.1,(fwS v).2.2.2.2.2.2.2.2.2.1,(fwS v).2.2.2.2.2.2.2.2.2.2.2):den tPk)=v.2.2.1:=rfl;rw[show (fwS v).1=v.1 from rfl,show (fwS v).2.1=v.2.1 from rfl];cases c1:v.1==1
 .cases c0:v.1==0
  .cases c7:v.1==7
   .simp only[zY,aA,cF1,zU,cG6];rfl
   .simp only[zZ,zY,aA,cF1,zU,cG6];rfl
  .unfold gU;rw[hkeep.2.2.1];simp only[zZ,zY,zV,aIa (t:=w.1) (cFv h.links (by decide)),bGq h.res h.use,aA];cases ct:(oC w.2.2.1 p.2.2.2.2.2.2.2.1 r v.2.1 w.2.2.2.1).2.1
   .simp only[zY,aA,cGi,cF1,zU,cG6];rfl
   .by_cases hl:(aI w).length<150
    .have h150:decide ((w.2.2.2.2.2.1.length:Int)<150)=true:=zX (by have :w.2.2.2.2.2.1.length<150:=hl;omega);rw[zX hl];simp only[zZ,aA,h150,cHw,zV,aE (b:=128) (n:=w.2.2.2.2.2.1.length) (m:=1) (by decide) (show (aI w).length+1<=_ by omega),cIz];rfl
    .have h150:decide ((w.2.2.2.2.2.1.length:Int)<150)=false:=zW (by have : ¬ w.2.2.2.2.2.1.length<150:=hl;omega);rw[zW hl];simp only[zZ,zY,aA,h150,cHt,cF1,zU,cG6];rfl
 .have c0:(v.1==0)=false:=by
   have :v.1=1:=by simpa using c1
   rw[this];rfl
  have hv:dD p=true:=hval (by rw[show v.1=1 from by simpa using c1];rfl);have hq1:(v.2.2.1.1==1)=false:=by rw[hkeep.1];exact hk
  have hq2:(v.2.2.1.1==2)=false->(v.2.2.1.1==3)=true:=by rw[hkeep.1];exact kinds hv hk
  rw[hback,bYb h hs hq1 hq2];simp only[c0,zZ,aA,cF1,zU,zV,cIz]
end Go.Proofs.YtnkjolpkcmgcaaaGreat
