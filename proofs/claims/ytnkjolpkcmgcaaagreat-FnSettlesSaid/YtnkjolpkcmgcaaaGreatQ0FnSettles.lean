/-
  Facts and plain laws: what the functions compute, in plain words. Conditions: as each says.
-/
import Derived.Test.YtnkjolpkcmgcaaaGreatT0FnSettles
open List renaming length->cFd,mem_of_getElem?->cE9,nil_append->cFl,getElem?_cons_zero->cH7,getElem?_eq_getElem->cEx,length_take->cF6,length_append->cFj,length_singleton->cGe,mem_append->cE4,getElem?_eq_some_iff->cEz,map_cons->cFg,sum_cons->cGf,getLast?_concat->cGs,dropLast_concat->cG9,length_nil->cGl,length_cons->cFw,append_assoc->cFk,singleton_append->cId,append_nil->cFv,all_eq_true->cFn,mem_zipIdx_iff_getElem?->cIn,length_filter_le->cHn,getElem?_drop->cGo,length_drop->cG8,getElem?_map->cGy
open Nat renaming le_trans->cEv,le_refl->cE8,zero_le->cFe,add_sub_cancel->cH9,not_lt_zero->cH6
open Bool renaming eq_false_or_eq_true->cHy,true_and->cFf,eq_iff_iff->cFm,not_true->cE2,not_false->cFa,false_and->cFh,false_eq_true->cE1,and_eq_true->cEw,or_self->cGn,not_eq_true'->cFu,and_false->cGt,true_or->cGz,or_true->cG4
open Sum renaming elim_inl->cGg,inl->cEu,inr->cEt
open Int renaming toNat_natCast->cE0,tmod->cF0,toNat_of_nonneg->cHe,eq_ofNat_of_zero_le->cFo
open Option renaming getD_some->cFy
set_option linter.unusedVariables false
set_option linter.unusedSimpArgs false
set_option maxRecDepth 100000
namespace Go.Proofs.YtnkjolpkcmgcaaaGreat
open Go.Ab Go.V
def inR(n a b:Int):Bool:=decide (a<=n)&&decide (n<=b)
theorem mN(n a b:Int):bP n a b=some (inR n a b):=by
 unfold bP inR
 by_cases h:a<=n<;>simp[h]
theorem iY(n a b:Int):aN n a b=some (inR n a b):=by
 unfold aN inR
 by_cases h:a<=n<;>simp[h]
theorem aZ{n a b:Int}:inR n a b=true↔a<=n/\n<=b:=by simp[inR]
theorem bFw{n a b:Int}:inR n a b=false↔ ¬ (a<=n/\n<=b):=by rw[<- aZ];simp
theorem bJ1(a b:Int):aC9 a b=some (if b>a then b else a):=rfl
theorem aX8(a b:Int):aAc a b=some (if b>a then b else a):=by
 unfold aAc
 by_cases h:b>a<;>simp[h]
theorem cC2(a b:Int):aKe a b=some (if b<a then b else a):=rfl
theorem aXp(a b:Int):aAf a b=some (if b<a then b else a):=by
 unfold aAf
 by_cases h:b<a<;>simp[h]
theorem aJy{b:List Int}(h:b.length<=68719476736):fV b=some b:=by
 unfold fV;rw[aF (by decide) (by simpa using h)];simp
theorem bFd{l:cV}(h:l.length<=68719476736):rK l=some l:=by
 unfold rK;rw[aF (by decide) (by simpa using h)];simp
theorem aT1{l:lRv}(h:l.length<=68719476736):eX l=some l:=by
 unfold eX;rw[aF (by decide) (by simpa using h)];simp
theorem aP8{p:den tPp}(h:SmB 68719476736 tPp p):pT p=some p:=by
 unfold pT;rw[aF (by decide) (by simpa using h.2.2.2.1)];simp
theorem aOl{p:den tPt}(h:SmB 68719476736 tPt p):kX p=some p:=by
 unfold kX;rw[(vP (λk (a:lPp)=>((k:Int),a)) ((0:Int),[]) [] p (λ_ x a=>a++[x]) cFd (λ_=>1) 68719476736 id rfl (cEv h.1 (by decide)) (by rw[eY];simpa using h.1) (λk x a hi hx hd hw hk hb=>by
  have e:=h.2 x (cE9 hx);simp only[hd,hi,hw,zZ,aA,bFd e.2.2.2.1,aP,aF (b:=48) (by decide) hb];simp) (λa=>by simp)).1,hH (λx=>x)]
 simp
theorem aGu{p:den tPt}(h:SmB 68719476736 tPt p):jM p=some p:=by
 unfold jM pj4;rw[(vP (λk (a:lPp)=>((k:Int),a)) ((0:Int),[]) [] p (λ_ x a=>a++[x]) cFd (λ_=>1) 68719476736 id rfl (cEv h.1 (by decide)) (by rw[eY];simpa using h.1) (λk x a hi hx hd hw hk hb=>by
  have e:=h.2 x (cE9 hx);simp only[hd,hi,hw,zZ,aA,aP,aP8 e,aF (b:=48) (by decide) hb];simp) (λa=>by simp)).1,hH (λx=>x)]
 simp
theorem bSp{l:lPt}(h:SmB 68719476736 (.sl tPt) l):uW l=some l:=by
 unfold uW;rw[(vP (λk (a:lPt)=>((k:Int),a)) ((0:Int),[]) [] l (λ_ x a=>a++[x]) cFd (λ_=>1) 68719476736 id rfl (cEv h.1 (by decide)) (by rw[eY];simpa using h.1) (λk x a hi hx hd hw hk hb=>by
  have e:=h.2 x (cE9 hx);simp only[hd,hi,hw,zZ,aA,aOl e,aF (b:=24) (by decide) hb];simp) (λa=>by simp)).1,hH (λx=>x)]
 simp
theorem bS7{l:lPt}(h:SmB 68719476736 (.sl tPt) l):yN l=some l:=by
 unfold yN;rw[(vP (λk (a:lPt)=>((k:Int),a)) ((0:Int),[]) [] l (λ_ x a=>a++[x]) cFd (λ_=>1) 68719476736 id rfl (cEv h.1 (by decide)) (by rw[eY];simpa using h.1) (λk x a hi hx hd hw hk hb=>by
  have e:=h.2 x (cE9 hx);simp only[hd,hi,hw,zZ,aA,aGu e,aF (b:=24) (by decide) hb];simp) (λa=>by simp)).1,hH (λx=>x)]
 simp
theorem bEi{l:lMs}(h:SmB 68719476736 (.sl tMs) l):kK l=some l:=by
 unfold kK;rw[(vP (λk (a:lMs)=>((k:Int),a)) ((0:Int),[]) [] l (λ_ x a=>a++[x]) cFd (λ_=>1) 68719476736 id rfl (cEv h.1 (by decide)) (by rw[eY];simpa using h.1) (λk x a hi hx hd hw hk hb=>by
  have e:=h.2 x (cE9 hx);simp only[hd,hi,hw,zZ,aA,aJy e.1,aF (b:=24) (by decide) hb];simp) (λa=>by simp)).1,hH (λx=>x)]
 simp
theorem bEy{l:lMs}(h:SmB 68719476736 (.sl tMs) l):qX l=some l:=by
 unfold qX;rw[(vP (λk (a:lMs)=>((k:Int),a)) ((0:Int),[]) [] l (λ_ x a=>a++[x]) cFd (λ_=>1) 68719476736 id rfl (cEv h.1 (by decide)) (by rw[eY];simpa using h.1) (λk x a hi hx hd hw hk hb=>by
  have e:=h.2 x (cE9 hx);simp only[hd,hi,hw,zZ,aA,aF (b:=1) (n:=([]:List Int).length) (by decide) (by simpa using e.1),aF (b:=24) (by decide) hb];simp) (λa=>by simp)).1,hH (λx=>x)]
 simp
def qG(f:den tFl):q8:=(f.1,f.2.1,f.2.2.1,f.2.2.2.1,f.2.2.2.2.2.2.1,f.2.2.2.2.2.2.2.1,f.2.2.2.2.1,f.2.2.2.2.2.1,f.2.2.2.2.2.2.2.2)
theorem aOe{f:den tFl}(h:SmB 68719476736 tFl f):kW f=some (qG f):=by
 unfold kW qG zz4 zz5 zz6 zz7 zz8;simp only[bEi h.2.2.2.2.1,bSp h.2.2.2.2.2.1,aT1 h.2.2.2.2.2.2.2.2.1,aA]
theorem aEj{f:den tFl}(h:SmB 68719476736 tFl f):fH f=some (qG f):=by
 unfold fH qG zz4 zz5 zz6 zz7 zz8;simp only[bEy h.2.2.2.2.1,bS7 h.2.2.2.2.2.1,aA,aF (b:=24) (n:=([]:lRv).length) (by decide) (by simpa using h.2.2.2.2.2.2.2.2.1),zZ,cFl]
theorem bD8{x:den tIb}(h:SmB 68719476736 tIb x):oT x=some x:=by
 unfold oT;simp only[bEi h.2.2.2,aA,aP]
theorem bFn{x:den tIb}(h:SmB 68719476736 tIb x):uS x=some x:=by
 unfold uS;simp only[bEy h.2.2.2,aA,aP]
def dR(x:den tRv):Bool:=inR x.1 0 7&&(inR x.2.1 1 6&&inR x.2.2 0 1000000)
theorem aEl(x:den tRv):cG x=some (dR x):=by
 unfold cG dR;simp only[mN,aA];cases inR x.1 0 7<;>cases inR x.2.1 1 6<;>cases inR x.2.2 0 1000000<;>rfl
theorem aD3(x:den tRv):cE x=some (dR x):=by
 unfold cE dR;simp only[iY,aA];cases inR x.1 0 7<;>cases inR x.2.1 1 6<;>cases inR x.2.2 0 1000000<;>rfl
theorem aDh{α S:Type}(p:Nat->α->Bool):∀(l:List α) (k:Nat) (ρ:S),bW (λk x=>if p k x then none else some ρ) k l=if (l.zipIdx k).all (λx=>p x.2 x.1) then none else some ρ
 | [],_,_=>rfl
 | x::xs,k,ρ=>by
  simp only[bW,List.zipIdx_cons,List.all_cons];rcases cHy (p k x) with h | h
  .simp only[h,zV,cFf];exact aDh p xs (k+1) ρ
  .simp[h]
theorem bEf{α:Type}(p:α->Bool):∀(l:List α) (k:Nat),(l.zipIdx k).all (λx=>p x.1)=l.all p
 | [],_=>rfl
 | x::xs,k=>by simp[List.zipIdx_cons,bEf p xs]
theorem lH{α S:Type}(p:α->Bool)(l:List α)(ρ:S):bW (λ_ x=>if p x then none else some ρ) 0 l=if l.all p then none else some ρ:=by
 rw[aDh (λ_ x=>p x),bEf p]
def lV(f:den tFl):Bool:=
 inR f.1 0 7&&(inR f.2.1 0 7&&(!(f.1==f.2.1)&&(inR f.2.2.1 0 100000&&(decide (f.2.2.2.2.1.length<=20)&&(inR f.2.2.2.1 0 (f.2.2.2.2.1.length:Int)&&(decide (f.2.2.2.2.2.1.length<=24)&&
  (f.2.2.2.2.1.all (λm=>decide (m.length<=40))&&(f.2.2.2.2.2.2.2.2.all dR&&((f.2.2.2.2.2.2.1==0||inR f.2.2.2.2.2.2.1 0 ((f.2.2.2.2.2.1.length:Int) - 1))&&(inR f.2.2.2.2.2.2.2.1 0 4&&decide (f.2.2.2.2.2.2.2.2.length<=16)))))))))))
theorem bS0{f:den tFl}(h:SmB 68719476736 tFl f):uT f=some (lV f):=by
 have h1:=h.2.2.2.2.1.1;have h2:=h.2.2.2.2.2.1.1;have h3:=h.2.2.2.2.2.2.2.2.1;unfold uT lV pj3 zz4 zz5 zz6 zz7 zz8;rw[aX (l:=f.2.2.2.2.1) (λ_ m=>if decide (m.length<=40) then none else some false) (by omega) (λk m hi hd hw hx hk=>by
  simp only[hd,hi,hw,zZ,aA]
  by_cases hm:m.length<=40
  .simp[hm,show ¬ ((m.length:Int)>40) by omega]
  .simp[hm,show (m.length:Int)>40 by omega]) (by simp)]
 rw[aX (l:=f.2.2.2.2.2.2.2.2) (λ_ x=>if dR x then none else some false) (by omega) (λk x hi hd hw hx hk=>by
  simp only[hd,hi,hw,zZ,aA,aP,aEl];cases dR x<;>rfl) (by simp)]
 rw[lH (λm:List Int=>decide (m.length<=40)),lH dR];have e1:decide ((f.2.2.2.2.1.length:Int)>20)= !decide (f.2.2.2.2.1.length<=20):=by rw[cFm];simp;omega
 have e2:decide ((f.2.2.2.2.2.1.length:Int)>24)= !decide (f.2.2.2.2.2.1.length<=24):=by rw[cFm];simp;omega
 have e3:decide ((f.2.2.2.2.2.2.2.2.length:Int)<=16)=decide (f.2.2.2.2.2.2.2.2.length<=16):=by rw[cFm];simp;omega
 have e5:wr ((f.2.2.2.2.2.1.length:Int) - 1)=(f.2.2.2.2.2.1.length:Int) - 1:=wri (by omega) (by omega);rw[e5];simp only[mN,aA,e1,e2,e3];cases inR f.1 0 7<;>simp only[cE2,cFa,zZ,zY,aA,cFh,cFf];cases inR f.2.1 0 7<;>simp only[cE2,cFa,zZ,zY,aA,cFh,cFf];cases f.1==f.2.1<;>simp only[cE2,cFa,zZ,zY,aA,cFh,cFf];cases inR f.2.2.1 0 100000<;>simp only[cE2,cFa,zZ,zY,aA,cFh,cFf];cases decide (f.2.2.2.2.1.length<=20)<;>simp only[cE2,cFa,zZ,zY,aA,cFh,cFf];cases inR f.2.2.2.1 0 (f.2.2.2.2.1.length:Int)<;>simp only[cE2,cFa,zZ,zY,aA,cFh,cFf];cases decide (f.2.2.2.2.2.1.length<=24)<;>simp only[cE2,cFa,zZ,zY,aA,cFh,cFf];cases f.2.2.2.2.1.all (λm=>decide (m.length<=40))<;>simp only[cE1,zV,zU,aA,cGg,Sum.elim_inr,cFh,cFf];cases f.2.2.2.2.2.2.2.2.all dR<;>simp only[cE1,zV,zU,aA,cGg,Sum.elim_inr,cFh,cFf];cases f.2.2.2.2.2.2.1==0<;>cases inR f.2.2.2.2.2.2.1 0 ((f.2.2.2.2.2.1.length:Int) - 1)<;>cases inR f.2.2.2.2.2.2.2.1 0 4<;>rfl
theorem aY5{f:den tFl}(h:SmB 68719476736 tFl f):nL f=some (lV f):=by
 have h1:=h.2.2.2.2.1.1;have h2:=h.2.2.2.2.2.1.1;have h3:=h.2.2.2.2.2.2.2.2.1;unfold nL lV pj3 zz4 zz5 zz6 zz7 zz8;rw[aX (l:=f.2.2.2.2.1) (λ_ m=>if decide (m.length<=40) then none else some false) (by omega) (λk m hi hd hw hx hk=>by
  simp only[hd,hi,hw,zZ,aA]
  by_cases hm:m.length<=40
  .simp[hm,show ¬ ((m.length:Int)>40) by omega]
  .simp[hm,show (m.length:Int)>40 by omega]) (by simp)]
 rw[aX (l:=f.2.2.2.2.2.2.2.2) (λ_ x=>if dR x then none else some false) (by omega) (λk x hi hd hw hx hk=>by
  simp only[hd,hi,hw,zZ,aA,aP,aD3];cases dR x<;>rfl) (by simp)]
 rw[lH (λm:List Int=>decide (m.length<=40)),lH dR];have e1:decide ((f.2.2.2.2.1.length:Int)>20)= !decide (f.2.2.2.2.1.length<=20):=by rw[cFm];simp;omega
 have e2:decide ((f.2.2.2.2.2.1.length:Int)>24)= !decide (f.2.2.2.2.2.1.length<=24):=by rw[cFm];simp;omega
 have e3:decide ((f.2.2.2.2.2.2.2.2.length:Int)>16)= !decide (f.2.2.2.2.2.2.2.2.length<=16):=by rw[cFm];simp;omega
 have e4:inR f.2.2.2.2.2.2.1 0 (if ((f.2.2.2.2.2.1.length:Int) - 1)>0 then ((f.2.2.2.2.2.1.length:Int) - 1) else 0)=(f.2.2.2.2.2.2.1==0||inR f.2.2.2.2.2.2.1 0 ((f.2.2.2.2.2.1.length:Int) - 1)):=by
  have key:∀(c n:Int),0<=n->inR c 0 (if n - 1>0 then n - 1 else 0)=(c==0||inR c 0 (n - 1)):=λc n hn=>by
   unfold inR
   by_cases h1:n - 1>0
   .rw[zT h1]
    by_cases h2:c=0
    .subst h2;simp;omega
    .simp[h2]
   .rw[zS h1]
    by_cases h2:c=0
    .subst h2;simp
    .rw[cFm];simp[h2];omega
  exact key _ _ (by omega)
 have e5:wr ((f.2.2.2.2.2.1.length:Int) - 1)=(f.2.2.2.2.2.1.length:Int) - 1:=wri (by omega) (by omega);rw[e5];simp only[iY,aX8,aA,e1,e2,e3,e4];cases inR f.1 0 7<;>simp only[cE2,cFa,zZ,zY,aA,cFh,cFf];cases inR f.2.1 0 7<;>simp only[cE2,cFa,zZ,zY,aA,cFh,cFf];cases f.1==f.2.1<;>simp only[cE2,cFa,zZ,zY,aA,cFh,cFf];cases inR f.2.2.1 0 100000<;>simp only[cE2,cFa,zZ,zY,aA,cFh,cFf];cases decide (f.2.2.2.2.1.length<=20)<;>simp only[cE2,cFa,zZ,zY,aA,cFh,cFf];cases inR f.2.2.2.1 0 (f.2.2.2.2.1.length:Int)<;>simp only[cE2,cFa,zZ,zY,aA,cFh,cFf];cases decide (f.2.2.2.2.2.1.length<=24)<;>simp only[cE2,cFa,zZ,zY,aA,cFh,cFf];cases f.2.2.2.2.2.2.1==0||inR f.2.2.2.2.2.2.1 0 ((f.2.2.2.2.2.1.length:Int) - 1)<;>cases inR f.2.2.2.2.2.2.2.1 0 4<;>cases decide (f.2.2.2.2.2.2.2.2.length<=16)<;>cases f.2.2.2.2.1.all (λm=>decide (m.length<=40))<;>cases f.2.2.2.2.2.2.2.2.all dR<;>rfl
def aKg(a b:List Int):Bool:=(yW a).toList==(yW b).toList
theorem bWd(a b:List Int):uZ a b=some (aKg a b):=rfl
def aBb:lMs->lMs->Bool
 | [],_=>true
 | _::_,[]=>true
 | a::as,b::bs=>aKg a b&&aBb as bs
def aXr{α S:Type}(p:α->α->Bool)(l:List α)(ρ:S)(k:Nat)(x:α):Option S:=Option.elim l[k]? none λy=>if p x y then none else some ρ
theorem bVv{α S:Type}(p:α->α->Bool)(q:List α->List α->Bool)(h0:∀b,q [] b=true)(h1:∀x a y b,q (x::a) (y::b)=(p x y&&q a b))(ρ:S):∀(a b:List α),a.length<=b.length-> ∀(k:Nat) (l:List α),(∀j,b[j]? =l[k+j]?)->bW (aXr p l ρ) k a=if q a b then none else some ρ
 | [],b,_,k,l,_=>by rw[h0];rfl
 | x::a,[],h,_,_,_=>by simp at h
 | x::a,y::b,h,k,l,hl=>by
  have e0:=hl 0;simp only[Nat.add_zero,cH7]at e0;simp only[bW,aXr,<- e0,h1,Option.elim_some];rcases cHy (p x y) with hp | hp
  .simp only[hp,zV,cFf];exact bVv p q h0 h1 ρ a b (by simpa using h) (k+1) l λj=>by
    have :=hl (j+1);rw[List.getElem?_cons_succ]at this;rw[this];congr 1;omega
  .simp[hp]
theorem bSh{a b:lMs}(ha:a.length<=68719476736)(hb:b.length<=68719476736):nB a b=some (decide (a.length=b.length)&&aBb a b):=by
 unfold nB
 by_cases hl:a.length=b.length
 .have h0:((a.length:Int) != (b.length:Int))=false:=by simp[hl]
  rw[h0,zY,aX (l:=a) (aXr aKg b false) (by omega) (λk x hi hd hw hx hk=>by
    have hy:b[k]? =some b[k]:=cEx (by omega);simp only[hd,hi,hw,zZ,aA,aR,hy,bWd,aXr,Option.elim_some];cases aKg x b[k]<;>rfl) (by simp)]
  rw[bVv aKg aBb (λb=>by cases b<;>rfl) (λ_ _ _ _=>rfl) false a b (by omega) 0 b (λj=>by rw[Nat.zero_add])];cases aBb a b<;>simp[hl]
 .have h0:((a.length:Int) != (b.length:Int))=true:=by simp;omega
  rw[h0,zZ];simp[hl]
def aGq(f:den tFl)(x:den tIb):Bool:=
 x.1==f.2.1&&(x.2.1==f.1&&(decide (x.2.2.2.length<=f.2.2.2.2.1.length)&&(aBb x.2.2.2 f.2.2.2.2.1&&decide ((x.2.2.2.length:Int)>=f.2.2.2.1))))
theorem aJc:∀(a b:lMs),aBb a (b.take a.length)=aBb a b
 | [],b=>by cases b<;>rfl
 | x::a,[]=>rfl
 | x::a,y::b=>by simp[aBb,aJc a b]
theorem bMx{f:den tFl}{x:den tIb}(hf:f.2.2.2.2.1.length<=68719476736)(hx:x.2.2.2.length<=68719476736):lO f x=some (aGq f x):=by
 unfold lO aGq zz4;cases x.1==f.2.1
 .rfl
 cases x.2.1==f.1
 .rfl
 by_cases hl:x.2.2.2.length<=f.2.2.2.2.1.length
 .have h1:decide ((x.2.2.2.length:Int)<=(f.2.2.2.2.1.length:Int))=true:=by simpa using hl
  have h2:cO (0:Int) (x.2.2.2.length:Int) (f.2.2.2.2.1.length:Int)=true:=by simp[cO];omega
  rw[h1,h2,jU,bSh hx (by rw[cF6];omega),aJc];have h3:decide (x.2.2.2.length=(List.take x.2.2.2.length f.2.2.2.2.1).length)=true:=by simp[cF6];omega
  rw[h3];simp only[zZ,aA,cFf,zX hl];cases aBb x.2.2.2 f.2.2.2.2.1<;>rfl
 .have h1:decide ((x.2.2.2.length:Int)<=(f.2.2.2.2.1.length:Int))=false:=by simp;omega
  rw[h1];simp[hl]
def vQ(x:den tIb)(p:den tPk):Bool:=p.1==1&&(p.2.1==x.2.1&&p.2.2.1==x.1)
theorem bE7(x:den tIb)(p:den tPk):uX x p=some (vQ x p):=by
 unfold uX vQ;cases p.1==1<;>cases p.2.1==x.2.1<;>rfl
theorem bE8(x:den tIb)(p:den tPk):xU x p=some (vQ x p):=by
 unfold xU vQ;cases p.1==1<;>cases p.2.1==x.2.1<;>rfl
def aRd(x:den tIb)(p:den tPk):Bool:=vQ x p&&(p.2.2.2.2.2.2.2.2.1==x.2.2.1&&decide (x.2.2.1<20))
def cM(x:den tIb)(p:den tPk):den tIb:=if aRd x p then (x.1,x.2.1,wr (x.2.2.1+1),x.2.2.2++[p.2.2.2.2.2.2.2.2.2]) else x
theorem bW7{x:den tIb}{p:den tPk}(hx:SmB 4294967296 tIb x)(hp:SmB 4294967296 tPk p):oU x p=some (cM x p):=by
 have hx':SmB 68719476736 tIb x:=hx.mono (by decide);have hp':=(hp.mono (C:=68719476736) (by decide)).2.2.2.2.2.2.2.2.2.1;unfold oU cM aRd aM pj4 zz8 zz9;have ha:=hx.2.2.2.1;simp only[aP,bD8 hx',bE7,aJy hp',aA,aF (b:=24) (n:=x.2.2.2.length) (m:=1) (by decide) (by omega),zZ];cases vQ x p<;>cases p.2.2.2.2.2.2.2.2.1==x.2.2.1<;>cases decide (x.2.2.1<20)<;>rfl
theorem bWn{x:den tIb}{p:den tPk}(hx:SmB 4294967296 tIb x)(hp:SmB 4294967296 tPk p):pH x p=some (cM x p):=by
 have hx':SmB 68719476736 tIb x:=hx.mono (by decide);have hp':=(hp.mono (C:=68719476736) (by decide)).2.2.2.2.2.2.2.2.2.1;unfold pH cM aRd aM pj4 zz8 zz9;have ha:=hx.2.2.2.1;simp only[aP,bFn hx',bE8,aA,aF (b:=1) (n:=([]:List Int).length) (by decide) (by simpa using hp'),aF (b:=24) (n:=x.2.2.2.length) (m:=1) (by decide) (by omega),zZ,cFl];cases vQ x p<;>cases p.2.2.2.2.2.2.2.2.1==x.2.2.1<;>cases decide (x.2.2.1<20)<;>rfl
theorem bNv(x:den tIb)(p:den tPk):tot (.sl tMs) (cM x p).2.2.2<=tot (.sl tMs) x.2.2.2+1+tot (.sl tb) p.2.2.2.2.2.2.2.2.2:=by
 unfold cM;split
 .rw[sY,aD8];show _+(1+tot (.sl tb) _)<=_;omega
 .omega
def aDl(f:den tFl)(p:den tPk):Bool:=p.1==2&&(p.2.1==f.2.1&&(p.2.2.1==f.1&&(p.2.2.2.2.2.2.2.2.1==f.2.2.2.1&&inR f.2.2.2.1 0 ((f.2.2.2.2.1.length:Int) - 1))))
def kC(f:den tFl)(p:den tPk):den tFl:=if aDl f p then (f.1,f.2.1,f.2.2.1,wr (f.2.2.2.1+1),f.2.2.2.2.1,f.2.2.2.2.2.1,f.2.2.2.2.2.2.1,0,f.2.2.2.2.2.2.2.2) else f
theorem bXs{f:den tFl}{p:den tPk}(hf:SmB 68719476736 tFl f):uP f p=some (qG (kC f p)):=by
 unfold uP kC aDl pj3 pj9 zz4 zz5 zz6 zz8;have e5:wr ((f.2.2.2.2.1.length:Int) - 1)=(f.2.2.2.2.1.length:Int) - 1:=wri (by have :=hf.2.2.2.2.1.1;omega) (by have :=hf.2.2.2.2.1.1;omega);simp only[aP,aOe hf,aA,mN,e5];cases p.1==2<;>cases p.2.1==f.2.1<;>cases p.2.2.1==f.1<;>cases p.2.2.2.2.2.2.2.2.1==f.2.2.2.1<;>cases inR f.2.2.2.1 0 ((f.2.2.2.2.1.length:Int) - 1)<;>rfl
theorem bFx{f:den tFl}{p:den tPk}(hf:SmB 68719476736 tFl f):rF f p=some (qG (kC f p)):=by
 unfold rF kC aDl pj3 pj9 zz4 zz5 zz6 zz8;have e5:wr ((f.2.2.2.2.1.length:Int) - 1)=(f.2.2.2.2.1.length:Int) - 1:=wri (by have :=hf.2.2.2.2.1.1;omega) (by have :=hf.2.2.2.2.1.1;omega);simp only[aP,aEj hf,aA,iY,e5];cases p.1==2<;>cases p.2.1==f.2.1<;>cases p.2.2.1==f.1<;>cases p.2.2.2.2.2.2.2.2.1==f.2.2.2.1<;>cases inR f.2.2.2.1 0 ((f.2.2.2.2.1.length:Int) - 1)<;>rfl
theorem bDi(f:den tFl)(p:den tPk):(kC f p).2.2.2.2.1=f.2.2.2.2.1/\(kC f p).2.2.2.2.2.1=f.2.2.2.2.2.1/\(kC f p).2.2.2.2.2.2.2.2=f.2.2.2.2.2.2.2.2:=by
 unfold kC;split<;>exact⟨rfl,rfl,rfl⟩
def enq(f:den tFl)(b:List Int):den tFl:=(f.1,f.2.1,f.2.2.1,f.2.2.2.1,f.2.2.2.2.1++[b],f.2.2.2.2.2.1,f.2.2.2.2.2.2.1,f.2.2.2.2.2.2.2.1,f.2.2.2.2.2.2.2.2)
def bJa(f:den tFl)(b:List Int):Int×Int×Int×Int×Int×Int×Bool×lMs×lPt×lRv:=
 if lV (enq f b) then (f.1,f.2.1,f.2.2.1,f.2.2.2.1,f.2.2.2.2.2.2.1,f.2.2.2.2.2.2.2.1,true,f.2.2.2.2.1++[b],f.2.2.2.2.2.1,f.2.2.2.2.2.2.2.2)
 else (f.1,f.2.1,f.2.2.1,f.2.2.2.1,f.2.2.2.2.2.2.1,f.2.2.2.2.2.2.2.1,false,f.2.2.2.2.1,f.2.2.2.2.2.1,f.2.2.2.2.2.2.2.2)
theorem bZ7{f:den tFl}{b:List Int}(hf:SmB 4294967296 tFl f)(hb:SmB 4294967296 (.sl tb) b):SmB 68719476736 tFl (enq f b):=by
 have hf':=hf.mono (C:=68719476736) (by decide);refine⟨hf'.1,hf'.2.1,hf'.2.2.1,hf'.2.2.2.1,⟨?_,λe he=> ?_⟩,hf'.2.2.2.2.2.1,hf'.2.2.2.2.2.2.1,hf'.2.2.2.2.2.2.2.1,hf'.2.2.2.2.2.2.2.2⟩
 .show (f.2.2.2.2.1++[b]).length<=_;have :=hf.2.2.2.2.1.1;rw[cFj,cGe];omega
 .rcases cE4.1 he with he | he
  .exact hf'.2.2.2.2.1.2 e he
  .rw[List.mem_singleton.1 he];exact hb.mono (by decide)
theorem bT2{f:den tFl}{b:List Int}(hf:SmB 4294967296 tFl f)(hb:SmB 4294967296 (.sl tb) b):sL f b=some (bJa f b):=by
 unfold sL bJa pj2 pj3 pj9 zz4 zz5 zz6 zz7 zz8;have hf':=hf.mono (C:=68719476736) (by decide);have h1:=hf.2.2.2.2.1.1;have h2:nL (f.1,f.2.1,f.2.2.1,f.2.2.2.1,f.2.2.2.2.1++[b],f.2.2.2.2.2.1,f.2.2.2.2.2.2.1,f.2.2.2.2.2.2.2.1,f.2.2.2.2.2.2.2.2)=some (lV (enq f b)):=aY5 (f:=enq f b) (bZ7 hf hb);simp only[aP,aEj hf',aA,qG,aF (b:=1) (n:=([]:List Int).length) (m:=b.length) (by decide) (by have :=hb.1;simp;omega),aF (b:=24) (n:=f.2.2.2.2.1.length) (m:=1) (by decide) (by omega),zZ,cFl,h2];cases lV (enq f b)<;>rfl
def hZ(k:Int):Bool:=k==1||k==3
theorem aOc(k:Int):gK k=some (hZ k):=by
 unfold gK hZ;cases k==1<;>rfl
theorem aGz(k:Int):eC k=some (hZ k):=by
 unfold eC hZ;cases k==1<;>rfl
def pIn(p:den tPp)(h:den bU):Int:=if hZ p.1 then h.2.2.1 else h.2.1
def pEg(p:den tPp)(h:den bU):Int:=if hZ p.1 then h.2.1 else h.2.2.1
theorem nN{n:Nat}(h:n<=68719476736):wr ((n:Int) - 1)=(n:Int) - 1:=wri (by omega) (by omega)
theorem aOr{k n:Nat}(h:k<n):inR (k:Int) 0 ((n:Int) - 1)=true:=by rw[aZ];omega
theorem bJs{p:den tPp}{k:Nat}{h:den bU}(hk:p.2.2.2[k]? =some h)(hl:p.2.2.2.length<=68719476736):gC p (k:Int)=some (pIn p h):=by
 have hlt:k<p.2.2.2.length:=(cEz.1 hk).1;unfold gC pIn;simp only[mN,nN hl,aOr hlt,aA,cE2,zY,aOc,aR,hk];cases hZ p.1<;>rfl
theorem bHi{p:den tPp}{k:Nat}{h:den bU}(hk:p.2.2.2[k]? =some h)(hl:p.2.2.2.length<=68719476736):fP p (k:Int)=some (pIn p h):=by
 have hlt:k<p.2.2.2.length:=(cEz.1 hk).1;unfold fP pIn;simp only[iY,nN hl,aOr hlt,aA,cE2,zY,aGz,aR,hk];cases hZ p.1<;>rfl
theorem bJ9{p:den tPp}{k:Nat}{h:den bU}(hk:p.2.2.2[k]? =some h)(hl:p.2.2.2.length<=68719476736):gP p (k:Int)=some (pEg p h):=by
 have hlt:k<p.2.2.2.length:=(cEz.1 hk).1;unfold gP pEg;simp only[mN,nN hl,aOr hlt,aA,cE2,zY,aOc,aR,hk];cases hZ p.1<;>rfl
theorem aYp{p:den tPp}{k:Nat}{h:den bU}(hk:p.2.2.2[k]? =some h)(hl:p.2.2.2.length<=68719476736):eD p (k:Int)=some (pEg p h):=by
 have hlt:k<p.2.2.2.length:=(cEz.1 hk).1;unfold eD pEg;simp only[iY,nN hl,aOr hlt,aA,cE2,zY,aGz,aR,hk];cases hZ p.1<;>rfl
def tK(nf:Bool)(p:den tPp)(i:Nat)(h:den bU)(out:bV):bV:=
 match out.getLast? with
 | some z=>if nf&&(decide (i=0)&&z.1==h.1) then out.dropLast++[(h.1,z.2.1,pEg p h)] else out++[(h.1,pIn p h,pEg p h)]
 | none=>out++[(h.1,pIn p h,pEg p h)]
theorem aQm(nf:Bool)(p:den tPp)(i:Nat)(h:den bU)(out:bV):(tK nf p i h out).length<=out.length+1:=by
 unfold tK;split
 .split
  .simp only[cFj,List.length_dropLast,cGe];omega
  .simp
 .simp
def jV(nf:Bool)(p:den tPp)(a:bV):bV:=bQ (λi h b=>tK nf p i h b) 0 p.2.2.2 a
def aAs(p:den tPt):bV:=bQ (λk x a=>jV (decide (0<k)) x a) 0 p []
def aFv(l:bV):bV:=
 match l with
 | []=>[]
 | x::xs=>let m:=(x.1,0,x.2.2)::xs
  match m.getLast? with
  | some y=>m.dropLast++[(y.1,y.2.1,0)]
  | none=>[]
def fD(p:den tPt):bV:=aFv (aAs p)
theorem bRv(l:bV):(aFv l).length=l.length:=by
 unfold aFv;split
 .rfl
 .rename_i x xs;simp only;rw[List.getLast?_eq_some_getLast (by simp)];simp
theorem aKj(p:den tPt):(p.map λx=>x.2.2.2.length).sum<=tot tPt p:=by
 show _<=tot (.sl tPp) p;rw[<- aVb]
 induction p with
 | nil=>exact cE8 _
 | cons x p ih=>
  simp only[cFg,cGf];have h1:x.2.2.2.length<=tot tPp x:=by
   show _<=tot ti x.1+(tot ti x.2.1+(tot ti x.2.2.1+tot (.sl bU) x.2.2.2));rw[dQ rfl];omega
  omega
theorem bCb{n:Nat}(h:n<=68719476736)(h0:0<n):wr ((n:Int) - 1)=((n - 1:Nat):Int):=by
 rw[nN h];omega
theorem aGs{α:Type}{m:List α}{z:α}(h:(m++[z]).length<=68719476736):wr (((m++[z]).length:Int) - 1)=(m.length:Int):=by
 rw[bCb h (by simp)];simp
theorem aMt(nf:Bool)(p:den tPp)(a:bV):(jV nf p a).length<=a.length+p.2.2.2.length:=by
 have :=aC7 (m:=cFd) (cost:=λ_=>1) (λi h b=>aQm nf p i h b) p.2.2.2 0 a;rw[eY]at this;exact this
theorem aL9(p:den tPt):(aAs p).length<=tot tPt p:=by
 have :=aC7 (m:=cFd) (cost:=λx:den tPp=>x.2.2.2.length) (λk x a=>aMt (decide (0<k)) x a) p 0 [];have h2:=aKj p;have h3:(aAs p).length<=0+(p.map λx=>x.2.2.2.length).sum:=this;omega
theorem aC6(p:den tPt):(fD p).length<=tot tPt p:=by
 unfold fD;rw[bRv];exact aL9 p
theorem bEa(k:Nat):decide ((k:Int)>0)=decide (0<k):=by rw[cFm];simp
theorem bAv(i:Nat):((i:Int)==0)=decide (i=0):=by rw[cFm];simp
theorem bAc(nf:Bool)(p:den tPp)(i:Nat)(h:den bU):tK nf p i h []=[(h.1,pIn p h,pEg p h)]:=rfl
theorem aW6(nf:Bool)(p:den tPp)(i:Nat)(h:den bU)(m:bV)(z:den mR):tK nf p i h (m++[z])=if nf&&(decide (i=0)&&z.1==h.1) then m++[(h.1,z.2.1,pEg p h)] else (m++[z])++[(h.1,pIn p h,pEg p h)]:=by
 unfold tK;rw[cGs,cG9]
theorem aVm{m:bV}{x z:den mR}{xs:bV}(h:(x.1,(0:Int),x.2.2)::xs=m++[z]):aFv (x::xs)=m++[(z.1,z.2.1,0)]:=by
 unfold aFv;simp only;rw[h,cGs,cG9]
theorem aUw{p:den tPt}(h:tot tPt p<=34359738368):mH p=some (fD p):=by
 have hs:=aKj p;have sm:SmB 34359738368 tPt p:=bR h;have hl:=aL9 p;unfold mH ixb pj4;rw[kD (λk (a:bV)=>((k:Int),a)) ((0:Int),[]) [] p (λk x a=>jV (decide (0<k)) x a) cFd (λx=>x.2.2.2.length) 34359738368 id rfl (cEv sm.1 (by decide)) (by simp only[cGl];omega) (λk x a=>aMt _ x a) (λk x a hi hx hd hw hk hb=>by
  have hxl:x.2.2.2.length<=34359738368:=(sm.2 x (cE9 hx)).2.2.2.1;simp only[hd,hi,hw,zZ,aA];rw[kD (λi (b:bV)=>((i:Int),b)) ((0:Int),a) a x.2.2.2 (λi h b=>tK (decide (0<k)) x i h b) cFd (λ_=>1) 34359738368 id rfl (cEv hxl (by decide)) (by rw[eY];exact hb) (λi h b=>aQm _ x i h b) (λi g b hi2 hg hd2 hw2 hk2 hb2=>by
   have hl2:x.2.2.2.length<=68719476736:=by omega
   simp only[hd2,hi2,hw2,zZ,aA,aP,bJs hg hl2,bJ9 hg hl2,bEa,bAv,aF (b:=24) (n:=b.length) (m:=1) (by decide) (by omega)];rcases gF b with rfl | ⟨m,z,rfl⟩
   .rw[bAc];cases decide (0<k)<;>cases decide (i=0)<;>rfl
   .rw[aW6,aGs (by omega)];simp only[cT,aP3,aGx,aL2,zZ,cE0,aA,aQn];cases decide (0<k)<;>cases decide (i=0)<;>cases hz:z.1==g.1<;>simp[hz];simpa using hz) (λb=>by simp)]
  rfl) (λa=>by simp)]
 simp only[aA,id];rw[show bQ (λk x a=>jV (decide (0<k)) x a) 0 p []=aAs p from rfl];show _=some (aFv (aAs p));generalize aAs p=l at hl;cases l with
 | nil=>rfl
 | cons x xs=>
  have e1:decide ((((x::xs).length:Nat):Int)>0)=true:=by simp
  have e2:decide ((0:Int)<(((x::xs).length:Nat):Int))=true:=by simp
  have e3:(0:Int).toNat=0:=rfl;have e4:decide ((0:Int)<=0)=true:=rfl;simp only[e1,e2,e3,e4,zZ,cH7,aA,List.set_cons_zero];rcases gF ((x.1,(0:Int),x.2.2)::xs) with h0 | ⟨m,z,hm⟩
  .cases h0
  .have hlen:((x.1,(0:Int),x.2.2)::xs).length=(x::xs).length:=rfl;rw[aVm hm];rw[hm]at hlen ⊢;rw[aGs (by omega)];simp only[cT,aGx,aL2,zZ,cE0,aA,aQn]
theorem aGm{p:den tPt}(h:tot tPt p<=34359738368):fJ p=some (fD p):=by
 have hs:=aKj p;have sm:SmB 34359738368 tPt p:=bR h;have hl:=aL9 p;unfold fJ ixb pj4;rw[kD (λk (a:bV)=>((k:Int),a)) ((0:Int),[]) [] p (λk x a=>jV (decide (0<k)) x a) cFd (λx=>x.2.2.2.length) 34359738368 id rfl (cEv sm.1 (by decide)) (by simp only[cGl];omega) (λk x a=>aMt _ x a) (λk x a hi hx hd hw hk hb=>by
  have hxl:x.2.2.2.length<=34359738368:=(sm.2 x (cE9 hx)).2.2.2.1;simp only[hd,hi,hw,zZ,aA];rw[kD (λi (b:bV)=>((i:Int),b)) ((0:Int),a) a x.2.2.2 (λi h b=>tK (decide (0<k)) x i h b) cFd (λ_=>1) 34359738368 id rfl (cEv hxl (by decide)) (by rw[eY];exact hb) (λi h b=>aQm _ x i h b) (λi g b hi2 hg hd2 hw2 hk2 hb2=>by
   have hl2:x.2.2.2.length<=68719476736:=by omega
   simp only[hd2,hi2,hw2,zZ,aA,aP,bHi hg hl2,aYp hg hl2,aW,bN,bF,bE,bG,bEa,bAv];rcases gF b with rfl | ⟨m,z,rfl⟩
   .rw[bAc];cases decide (0<k)<;>cases decide (i=0)<;>rfl
   .rw[aW6,aGs (by omega)];have e1:decide (((m++[z]).length:Int)>0)=true:=by simp
    have e2:cO (0:Int) (m.length:Int) ((m++[z]).length:Int)=true:=by simp[cO];omega
    have e3:(m++[z]).take m.length=m:=by simp
    have e4:=aF (b:=24) (n:=m.length) (m:=1) (by decide) (by simp at hb2;omega);have e5:=aF (b:=24) (n:=m.length+1) (m:=1) (by decide) (by simp at hb2;omega);simp only[cT,e1,e2,e3,aGx,aL2,zZ,cE0,aA];cases decide (0<k)<;>cases decide (i=0)<;>cases hz:z.1==g.1<;>simp[hz,e4,e5]) (λb=>by simp[hi])]
  rfl) (λa=>by simp)]
 simp only[aA,id];rw[show bQ (λk x a=>jV (decide (0<k)) x a) 0 p []=aAs p from rfl];show _=some (aFv (aAs p));generalize aAs p=l at hl;cases l with
 | nil=>rfl
 | cons x xs=>
  have e1:decide ((((x::xs).length:Nat):Int)>0)=true:=by simp
  have e2:decide ((0:Int)<(((x::xs).length:Nat):Int))=true:=by simp
  have e3:(0:Int).toNat=0:=rfl;have e4:decide ((0:Int)<=0)=true:=rfl;have e5:decide (0<(x::xs).length)=true:=by simp
  simp only[e1,e2,e3,e4,e5,zZ,cH7,aA,List.set_cons_zero];rcases gF ((x.1,(0:Int),x.2.2)::xs) with h0 | ⟨m,z,hm⟩
  .cases h0
  .have hlen:((x.1,(0:Int),x.2.2)::xs).length=(x::xs).length:=rfl;rw[aVm hm];rw[hm]at hlen ⊢;rw[aGs (by omega)];have e6:decide (m.length<(m++[z]).length)=true:=by simp
   simp only[cT,aGx,aL2,e6,zZ,cE0,aA,aQn]
def ends(p:den tPt):q26:=
 match (fD p).head?,(fD p).getLast? with
 | some x,some y=>(x.1,y.1)
 | _,_=>(-1,-1)
theorem bZr{p:den tPt}(h:tot tPt p<=34359738368):uA p=some (ends p):=by
 unfold uA ends ixb;have hl:=aC6 p;rw[aUw h,aA];generalize fD p=l at hl;rcases gF l with rfl | ⟨m,z,rfl⟩
 .rfl
 .rw[aGs (by omega)];have e1:(((m++[z]).length:Int)==0)=false:=by simp<;>omega
  have e2:decide ((0:Int)<((m++[z]).length:Int))=true:=by simp<;>omega
  have e3:decide ((0:Int)<=0)=true:=rfl;rw[e1,e2,e3,cT,aGx,cGs];cases m with
  | nil=>rfl
  | cons x m=>simp
theorem cCe{p:den tPt}(h:tot tPt p<=34359738368):uM p=some (ends p):=by
 unfold uM ends ixb;have hl:=aC6 p;rw[aGm h,aA];generalize fD p=l at hl;rcases gF l with rfl | ⟨m,z,rfl⟩
 .rfl
 .rw[aGs (by omega)];have e1:(((m++[z]).length:Int)==0)=false:=by simp<;>omega
  have e2:decide ((0:Int)<((m++[z]).length:Int))=true:=by simp<;>omega
  have e3:decide ((0:Int)<=0)=true:=rfl;rw[e1,e2,e3,cT,aGx,cGs];cases m with
  | nil=>rfl
  | cons x m=>simp
def pkR(p:den tPk):q3:=(p.1,p.2.1,p.2.2.1,p.2.2.2.2.1,p.2.2.2.2.2.1,p.2.2.2.2.2.2.1,p.2.2.2.2.2.2.2.1,p.2.2.2.2.2.2.2.2.1,p.2.2.2.1,p.2.2.2.2.2.2.2.2.2)
def cDp(p:den tPt):Int:=match p with
 | []=>0
 | x::_=>x.2.2.1
def dM(kind:Int)(p:den tPt)(res seq:Int)(pay:List Int):den tPk:=(kind,(ends p).1,(ends p).2,p,0,0,cDp p,res,seq,pay)
theorem aO5{kind res seq:Int}{p:den tPt}{pay:List Int}(h:tot tPt p<=34359738368)(hp:pay.length<=68719476736):iU kind p res seq pay=some (pkR (dM kind p res seq pay)):=by
 unfold iU zz4 zz5 zz6 zz7;rw[aOl ((bR h).mono (by decide)),aJy hp,bZr h];simp only[aA];cases p with
 | nil=>rfl
 | cons x p=>
  have e1:decide (((x::p).length:Int)>0)=true:=by simp
  rw[e1];rfl
theorem aJl{kind res seq:Int}{p:den tPt}{pay:List Int}(h:tot tPt p<=34359738368)(hp:pay.length<=68719476736):cL kind p res seq pay=some (pkR (dM kind p res seq pay)):=by
 unfold cL zz4 zz5 zz6 zz7;rw[aGu ((bR h).mono (by decide)),cCe h,aF (b:=1) (n:=([]:List Int).length) (by decide) (by simpa using hp)];simp only[aA,zZ,cFl];cases p with
 | nil=>rfl
 | cons x p=>
  have e1:decide (((x::p).length:Int)>0)=true:=by simp
  rw[e1];rfl
def aLa(k:Int):Int:=if k=1 then 4 else if k=4 then 1 else if k=2 then 3 else if k=3 then 2 else k
theorem cB5(k:Int):qA k=some (aLa k):=by
 unfold qA aLa
 by_cases h1:k=1
 .subst h1;rfl
 by_cases h2:k=4
 .subst h2;rfl
 by_cases h3:k=2
 .subst h3;rfl
 by_cases h4:k=3
 .subst h4;rfl
 have b1:(k==1)=false:=by simpa using h1
 have b2:(k==4)=false:=by simpa using h2
 have b3:(k==2)=false:=by simpa using h3
 have b4:(k==3)=false:=by simpa using h4
 rw[b1,b2,b3,b4,zS h1,zS h2,zS h3,zS h4];rfl
theorem bY7(k:Int):nV k=some (aLa k):=by
 unfold nV aLa
 by_cases h1:k=1
 .subst h1;rfl
 by_cases h2:k=4
 .subst h2;rfl
 by_cases h3:k=2
 .subst h3;rfl
 by_cases h4:k=3
 .subst h4;rfl
 have b1:(k==1)=false:=by simpa using h1
 have b2:(k==4)=false:=by simpa using h2
 have b3:(k==2)=false:=by simpa using h3
 have b4:(k==3)=false:=by simpa using h4
 rw[b1,b2,b3,b4,zS h1,zS h2,zS h3,zS h4];rfl
def lK(n:Int):Bool:=inR n 0 2147483646
theorem aGj(n:Int):eB n=some (lK n):=by unfold eB lK;rw[mN];rfl
theorem aEb(n:Int):mY n=some (lK n):=by unfold mY lK;rw[iY];rfl
def aK6(b s:Int):Int:=if lK b&&lK s then cF0 (wr (b+s)) 2147483647 else 0
def aLr(b s:Int):Int:=if lK b&&lK s then cF0 (wr ((wr (b - s))+2147483647)) 2147483647 else 0
theorem bMw(b s:Int):xT b s=some (aK6 b s):=by
 unfold xT aK6;simp only[aGj,aA];cases lK b<;>cases lK s<;>rfl
theorem aRp(b s:Int):tO b s=some (aK6 b s):=by
 unfold tO aK6;simp only[aEb,aA];cases lK b<;>cases lK s<;>rfl
theorem bO7(b s:Int):xV b s=some (aLr b s):=by
 unfold xV aLr;simp only[aGj,aA];cases lK b<;>cases lK s<;>rfl
theorem bN9(b s:Int):xK b s=some (aLr b s):=by
 unfold xK aLr;simp only[aEb,aA];cases lK b<;>cases lK s<;>rfl
def aCp(k:Int)(b:Int)(h:den bU):Int:=if hZ k then aLr b h.2.2.2.2 else aK6 b h.2.2.2.2
def aDn(p:den tPp)(n:Nat):Int:=(p.2.2.2.take n).foldl (aCp p.1) p.2.2.1
theorem bWr{p:den tPp}{n:Nat}(hn:n<=p.2.2.2.length)(hl:p.2.2.2.length<=68719476736):uN p (n:Int)=some (aDn p n):=by
 unfold uN aDn zz4;have e1:inR (n:Int) 0 (p.2.2.2.length:Int)=true:=by rw[aZ];omega
 have e2:cO (0:Int) (n:Int) (p.2.2.2.length:Int)=true:=by simp[cO];omega
 rw[mN,e1,aA,e2,jU];have hlen:(p.2.2.2.take n).length<=4611686018427387904:=by rw[cF6];omega
 rw[kD (λk (b:Int)=>(b,(k:Int))) (p.2.2.1,(0:Int)) p.2.2.1 (p.2.2.2.take n) (λ_ h b=>aCp p.1 b h) (λ_=>0) (λ_=>0) 0 id rfl hlen (by rw[sum_nil];exact cE8 _) (λ_ _ _=>cE8 _) (λk x b hi hx hd hw hk hb=>by
  simp only[hd,hi,hw,zZ,aA,aOc,bO7,bMw,aCp];cases hZ p.1<;>rfl) (λb=>by simp),uV (λb h=>aCp p.1 b h)]
 rfl
theorem aTp{p:den tPp}{n:Nat}(hn:n<=p.2.2.2.length)(hl:p.2.2.2.length<=68719476736):iS p (n:Int)=some (aDn p n):=by
 unfold iS aDn zz4;have e1:inR (n:Int) 0 (p.2.2.2.length:Int)=true:=by rw[aZ];omega
 have e3:(p.2.2.2.take n).length=n:=by rw[cF6];omega
 rw[iY,e1,aA];rw[kD (λk (b:Int)=>(b,(k:Int))) (p.2.2.1,(0:Int)) p.2.2.1 (p.2.2.2.take n) (λ_ h b=>aCp p.1 b h) (λ_=>0) (λ_=>0) 0 id rfl (by rw[e3];omega) (by rw[sum_nil];exact cE8 _) (λ_ _ _=>cE8 _) (λk x b hi hx hd hw hk hb=>by
  have hx':p.2.2.2[k]? =some x:=by rw[List.getElem?_take]at hx;split at hx;exact hx;cases hx
  rw[e3]at hd;simp only[hd,hw,zZ,aA,aR,hx',aGz,bN9,aRp,aCp];cases hZ p.1<;>rfl) (λb=>by rw[e3];simp),uV (λb h=>aCp p.1 b h)]
 rfl
def pJ(p:den tPp):den tPp:=(aLa p.1,p.2.1,aDn p p.2.2.2.length,p.2.2.2.reverse)
theorem cBa{l:cV}(hl:l.length<=68719476736):oK l=some l.reverse:=by
 unfold oK pj5;have e:wr ((l.length:Int) - 1)=(l.length:Int) - 1:=nN hl;rw[e,aYg (λk (a:cV)=>(k,a)) ((l.length:Int) - 1,[]) [] l (λx a=>a++[x]) cFd (λ_=>1) 68719476736 id rfl (by omega) (by rw[eY];simpa using hl) (λx a=>by simp) (λk x a hi hx hd hw hk hb=>by
  simp only[hd,hi,hw,zZ,aA,aP,aF (b:=40) (n:=a.length) (m:=1) (by decide) hb]) (λa=>by simp),aFe (λx=>x)]
 simp
theorem bXj{p:den tPp}(hl:p.2.2.2.length<=68719476736):pQ p=some (pJ p):=by
 unfold pQ pJ pj4;simp only[cB5,aP,bWr (cE8 _) hl,cBa hl,aA]
theorem bYm{p:den tPp}(hl:p.2.2.2.length<=68719476736):pR p=some (pJ p):=by
 unfold pR pJ pj4 pj5 zz4;simp only[bY7,aP,aTp (cE8 _) hl,aW,bN,bF,bE,bG,aA];have e:wr ((p.2.2.2.length:Int) - 1)=(p.2.2.2.length:Int) - 1:=nN hl;rw[e,aYg (λk (a:cV)=>(k,aLa p.1,p.2.1,aDn p p.2.2.2.length,a)) ((p.2.2.2.length:Int) - 1,aLa p.1,p.2.1,aDn p p.2.2.2.length,[]) [] p.2.2.2 (λx a=>a++[x]) cFd (λ_=>1) 68719476736 (λa=>(aLa p.1,p.2.1,aDn p p.2.2.2.length,a)) rfl (by omega) (by rw[eY];simpa using hl) (λx a=>by simp) (λk x a hi hx hd hw hk hb=>by
  simp only[hd,hi,hw,zZ,aA,aP,aF (b:=40) (n:=a.length) (m:=1) (by decide) hb]) (λa=>by simp),aFe (λx=>x)]
 simp
def jS(p:den tPt):den tPt:=p.reverse.map pJ
theorem bBw{p:den tPt}(h:SmB 68719476736 tPt p):iE p=some (jS p):=by
 unfold iE jS pj4;have e:wr ((p.length:Int) - 1)=(p.length:Int) - 1:=nN h.1;rw[e,aYg (λk (a:lPp)=>(k,a)) ((p.length:Int) - 1,[]) [] p (λx a=>a++[pJ x]) cFd (λ_=>1) 68719476736 id rfl (by have :=h.1;omega) (by rw[eY];simpa using h.1) (λx a=>by simp) (λk x a hi hx hd hw hk hb=>by
  have hxl:=(h.2 x (cE9 hx)).2.2.2.1;simp only[hd,hi,hw,zZ,aA,aP,bXj hxl,aF (b:=48) (n:=a.length) (m:=1) (by decide) hb]) (λa=>by simp),aFe pJ]
 simp
theorem bBv{p:den tPt}(h:SmB 68719476736 tPt p):iD p=some (jS p):=by
 unfold iD jS pj4;have e:wr ((p.length:Int) - 1)=(p.length:Int) - 1:=nN h.1;rw[e,aYg (λk (a:lPp)=>(k,a)) ((p.length:Int) - 1,[]) [] p (λx a=>a++[pJ x]) cFd (λ_=>1) 68719476736 id rfl (by have :=h.1;omega) (by rw[eY];simpa using h.1) (λx a=>by simp) (λk x a hi hx hd hw hk hb=>by
  have hxl:=(h.2 x (cE9 hx)).2.2.2.1;simp only[hd,hi,hw,zZ,aA,aP,bYm hxl,aF (b:=48) (n:=a.length) (m:=1) (by decide) hb]) (λa=>by simp),aFe pJ]
 simp
theorem bMy(p:den tPp):tot tPp (pJ p)=tot tPp p:=by
 show tot ti _+(tot ti _+(tot ti _+tot (.sl bU) p.2.2.2.reverse))=tot ti _+(tot ti _+(tot ti _+tot (.sl bU) p.2.2.2));rw[aU3];rfl
theorem aRg{t:Ty}(g:den t->den t)(hg:∀x,tot t (g x)=tot t x):∀l:List (den t),tot (.sl t) (l.map g)=tot (.sl t) l
 | []=>rfl
 | x::l=>by rw[cFg,kT,kT,hg,aRg g hg l]
theorem aA3(p:den tPt):tot tPt (jS p)=tot tPt p:=by
 show tot (.sl tPp) (p.reverse.map pJ)=tot (.sl tPp) p;rw[aRg pJ bMy,aU3]
def aOo(pk:den tPk)(kind seq:Int)(pay:List Int):den tPk:=dM kind (jS pk.2.2.2.1) pk.2.2.2.2.2.2.2.1 seq pay
theorem bYa{pk:den tPk}{kind seq:Int}{pay:List Int}(h:tot tPt pk.2.2.2.1<=34359738368)(hp:pay.length<=68719476736):aC4 pk kind seq pay=some (pkR (aOo pk kind seq pay)):=by
 unfold aC4 aOo aM zz7;rw[bBw ((bR h).mono (by decide)),aA,aO5 (by rw[aA3];exact h) hp];rfl
theorem bX5{pk:den tPk}{kind seq:Int}{pay:List Int}(h:tot tPt pk.2.2.2.1<=34359738368)(hp:pay.length<=68719476736):aC0 pk kind seq pay=some (pkR (aOo pk kind seq pay)):=by
 unfold aC0 aOo aM zz7;rw[bBv ((bR h).mono (by decide)),aA,aJl (by rw[aA3];exact h) hp];rfl
def pk0:den tPk:=(0,0,0,[],0,0,0,0,0,[])
def pkB(p:den tPk)(b:Bool):q9:=(p.1,p.2.1,p.2.2.1,p.2.2.2.2.1,p.2.2.2.2.2.1,p.2.2.2.2.2.2.1,p.2.2.2.2.2.2.2.1,p.2.2.2.2.2.2.2.2.1,b,p.2.2.2.1,p.2.2.2.2.2.2.2.2.2)
def yS(x:den tIb)(p:den tPk):Bool:=vQ x p&& !decide (p.2.2.2.2.2.2.2.2.1>=x.2.2.1)
def jT(x:den tIb)(p:den tPk):den tPk:=if yS x p then aOo p 2 p.2.2.2.2.2.2.2.2.1 [] else pk0
theorem bV6{x:den tIb}{p:den tPk}(h:tot tPt p.2.2.2.1<=34359738368):wB x p=some (pkB (jT x p) (yS x p)):=by
 unfold wB jT yS aM pj2 pj4 zz4 zz5 zz6 zz7 zz8;simp only[aP,bE7,aA,bYa (pay:=[]) h (by simp)];cases vQ x p<;>cases decide (p.2.2.2.2.2.2.2.2.1>=x.2.2.1)<;>rfl
theorem bWf{x:den tIb}{p:den tPk}(h:tot tPt p.2.2.2.1<=34359738368):xH x p=some (pkB (jT x p) (yS x p)):=by
 unfold xH jT yS aM pj2 pj4 zz4 zz5 zz6 zz7 zz8;simp only[aP,bE8,aA,bX5 (pay:=[]) h (by simp)];cases vQ x p<;>cases decide (p.2.2.2.2.2.2.2.2.1>=x.2.2.1)<;>rfl
def sends(f:den tFl):Bool:=inR f.2.2.2.2.2.2.1 0 ((f.2.2.2.2.2.1.length:Int) - 1)&&inR f.2.2.2.1 0 ((f.2.2.2.2.1.length:Int) - 1)
def mO(f:den tFl):den tPk:=
 if sends f then dM 1 ((f.2.2.2.2.2.1[f.2.2.2.2.2.2.1.toNat]?).getD []) f.2.2.1 f.2.2.2.1 ((f.2.2.2.2.1[f.2.2.2.1.toNat]?).getD []) else pk0
theorem bCo{t:Ty}{l:List (den t)}{d:den t}{i:Nat}(hd:tot t d=0):tot t ((l[i]?).getD d)<=tot (.sl t) l:=by
 cases h:l[i]? with
 | none=>simp[hd]
 | some x=>have :=zK h;simp;omega
theorem bEs{f:den tFl}(h:tot tFl f<=34359738368):fE f=some (pkB (mO f) (sends f)):=by
 have h0:=aQ (aQ (aQ (aQ h)));have hm:=tT h0;have hp:=tT (aQ h0);have l1:=dP f.2.2.2.2.1;have l2:=dP f.2.2.2.2.2.1;unfold fE mO sends pj2 zz4 zz5 zz6 zz7 zz8;simp only[mN,nN (n:=f.2.2.2.2.2.1.length) (by omega),nN (n:=f.2.2.2.2.1.length) (by omega),aA];cases c1:inR f.2.2.2.2.2.2.1 0 ((f.2.2.2.2.2.1.length:Int) - 1) with
 | false=>rfl
 | true=>
  cases c2:inR f.2.2.2.1 0 ((f.2.2.2.2.1.length:Int) - 1) with
  | false=>rfl
  | true=>
   rw[aZ]at c1 c2;rw[aS3 c1.1 (by omega),aS3 c2.1 (by omega)];have e1:f.2.2.2.2.2.1[f.2.2.2.2.2.2.1.toNat]? =some (f.2.2.2.2.2.1[f.2.2.2.2.2.2.1.toNat]'(by omega)):=cEx (by omega);have e2:f.2.2.2.2.1[f.2.2.2.1.toNat]? =some (f.2.2.2.2.1[f.2.2.2.1.toNat]'(by omega)):=cEx (by omega);have t1:=zK e1;have t2:=zK e2;have t3:=dP (t:=tb) (f.2.2.2.2.1[f.2.2.2.1.toNat]'(by omega));simp only[aA,cE2,zY];rw[aO5 (by omega) (by have t2:1+tot (.sl tb) _<=_:=t2;omega),e1,e2];rfl
theorem bF0{f:den tFl}(h:tot tFl f<=34359738368):fF f=some (pkB (mO f) (sends f)):=by
 have h0:=aQ (aQ (aQ (aQ h)));have hm:=tT h0;have hp:=tT (aQ h0);have l1:=dP f.2.2.2.2.1;have l2:=dP f.2.2.2.2.2.1;unfold fF mO sends pj2 zz4 zz5 zz6 zz7 zz8;simp only[iY,nN (n:=f.2.2.2.2.2.1.length) (by omega),nN (n:=f.2.2.2.2.1.length) (by omega),aA];cases c1:inR f.2.2.2.2.2.2.1 0 ((f.2.2.2.2.2.1.length:Int) - 1) with
 | false=>cases inR f.2.2.2.1 0 ((f.2.2.2.2.1.length:Int) - 1)<;>rfl
 | true=>
  cases c2:inR f.2.2.2.1 0 ((f.2.2.2.2.1.length:Int) - 1) with
  | false=>rfl
  | true=>
   rw[aZ]at c1 c2;rw[aS3 c1.1 (by omega),aS3 c2.1 (by omega)];have e1:f.2.2.2.2.2.1[f.2.2.2.2.2.2.1.toNat]? =some (f.2.2.2.2.2.1[f.2.2.2.2.2.2.1.toNat]'(by omega)):=cEx (by omega);have e2:f.2.2.2.2.1[f.2.2.2.1.toNat]? =some (f.2.2.2.2.1[f.2.2.2.1.toNat]'(by omega)):=cEx (by omega);have t1:=zK e1;have t2:=zK e2;have t3:=dP (t:=tb) (f.2.2.2.2.1[f.2.2.2.1.toNat]'(by omega));simp only[aA,cE2,zY];rw[aJl (by omega) (by have t2:1+tot (.sl tb) _<=_:=t2;omega),e1,e2];rfl
def lJ(f:den tFl):Int:=if wr (f.2.2.2.2.2.2.1+1)>=(f.2.2.2.2.2.1.length:Int) then 0 else wr (f.2.2.2.2.2.2.1+1)
def setCW(f:den tFl)(c w:Int):den tFl:=(f.1,f.2.1,f.2.2.1,f.2.2.2.1,f.2.2.2.2.1,f.2.2.2.2.2.1,c,w,f.2.2.2.2.2.2.2.2)
theorem aH8(f:den tFl)(c w:Int):tot tFl (setCW f c w)=tot tFl f:=rfl
def aE(f:den tFl):den tFl×den tPk×Bool:=
 if sends f then
  if f.2.2.2.2.2.2.2.1==0 then (setCW f f.2.2.2.2.2.2.1 1,mO f,true)
  else if f.2.2.2.2.2.2.2.1==4 then (setCW f (lJ f) 1,mO (setCW f (lJ f) 1),sends (setCW f (lJ f) 1))
  else (setCW f f.2.2.2.2.2.2.1 (wr (f.2.2.2.2.2.2.2.1+1)),pk0,false)
 else (setCW f f.2.2.2.2.2.2.1 0,pk0,false)
def eH(f:den tFl)(p:den tPk)(b:Bool):q10:=
 (f.1,f.2.1,f.2.2.1,f.2.2.2.1,f.2.2.2.2.2.2.1,f.2.2.2.2.2.2.2.1,p.1,p.2.1,p.2.2.1,p.2.2.2.2.1,p.2.2.2.2.2.1,p.2.2.2.2.2.2.1,p.2.2.2.2.2.2.2.1,p.2.2.2.2.2.2.2.2.1,b,f.2.2.2.2.1,f.2.2.2.2.2.1,f.2.2.2.2.2.2.2.2,p.2.2.2.1,p.2.2.2.2.2.2.2.2.2)
theorem bFp(f:den tFl):rE f=some (lJ f):=by
 unfold rE lJ zz5 zz6
 by_cases h:wr (f.2.2.2.2.2.2.1+1)>=(f.2.2.2.2.2.1.length:Int)
 .rw[zX h,zT h];rfl
 .rw[zW h,zS h];rfl
theorem bWz{f:den tFl}(h:tot tFl f<=34359738368):wV f=some (eH (aE f).1 (aE f).2.1 (aE f).2.2):=by
 unfold wV aE pj2 pj9 aO bC bK dY kV zz4 zz5 zz6 zz7 zz8 zz9;have e:fE (f.1,f.2.1,f.2.2.1,f.2.2.2.1,f.2.2.2.2.1,f.2.2.2.2.2.1,lJ f,1,f.2.2.2.2.2.2.2.2)=some (pkB (mO (setCW f (lJ f) 1)) (sends (setCW f (lJ f) 1))):=bEs (f:=setCW f (lJ f) 1) h;simp only[aP,aOe ((bR h).mono (by decide)),bEs h,bFp,aA,aW,bN,bF,bE,bG,qG,e];cases c1:sends f with
 | false=>simp only[pkB,cFa,zZ];rfl
 | true=>
  simp only[pkB,cE2,zY,zV];cases c2:f.2.2.2.2.2.2.2.1==0 with
  | true=>rfl
  | false=>
   cases c3:f.2.2.2.2.2.2.2.1==4 with
   | true=>rfl
   | false=>rfl
theorem bP9{c:Int}{n:Nat}(h0:0<=c)(h1:c<=(n:Int) - 1)(hn:n<=68719476736):inR c 0 (wr ((n:Int) - 2))= !decide (wr (c+1)>=(n:Int)):=by
 have e1:wr ((n:Int) - 2)=(n:Int) - 2:=wri (by omega) (by omega);have e2:wr (c+1)=c+1:=wri (by omega) (by omega);rw[e1,e2,cFm,aZ];simp;omega
theorem bK5{f:den tFl}(h:SmB 68719476736 tFl f)(hs:inR f.2.2.2.2.2.2.1 0 ((f.2.2.2.2.2.1.length:Int) - 1)=true):uI f=some (qG (setCW f (lJ f) f.2.2.2.2.2.2.2.1)):=by
 unfold uI lJ pj3 pj9 zz4 zz5 zz6;have hl:=h.2.2.2.2.2.1.1;rw[aZ]at hs;simp only[aP,aEj h,iY,bP9 hs.1 hs.2 hl,aA,qG]
 by_cases hc:wr (f.2.2.2.2.2.2.1+1)>=(f.2.2.2.2.2.1.length:Int)
 .rw[zX hc,zT hc];rfl
 .rw[zW hc,zS hc];rfl
theorem bXy{f:den tFl}(h:tot tFl f<=34359738368):wZ f=some (eH (aE f).1 (aE f).2.1 (aE f).2.2):=by
 unfold wZ aE pj2 pj9 aO bC bK dY kV zz4 zz5 zz6 zz7 zz8 zz9;have sm:SmB 68719476736 tFl f:=(bR h).mono (by decide);have e:fF (f.1,f.2.1,f.2.2.1,f.2.2.2.1,f.2.2.2.2.1,f.2.2.2.2.2.1,lJ f,1,f.2.2.2.2.2.2.2.2)=some (pkB (mO (setCW f (lJ f) 1)) (sends (setCW f (lJ f) 1))):=bF0 (f:=setCW f (lJ f) 1) h;simp only[aP,aEj sm,bF0 h,aA,aW,bN,bF,bE,bG];cases c1:sends f with
 | false=>simp only[pkB,qG,cFa,zZ];rfl
 | true=>
  have hs:inR f.2.2.2.2.2.2.1 0 ((f.2.2.2.2.2.1.length:Int) - 1)=true:=by
   unfold sends at c1;simp only[cEw]at c1;exact c1.1
  rw[bK5 sm hs];simp only[pkB,qG,setCW,aA,cE2,zY,zV,e];cases c2:f.2.2.2.2.2.2.2.1==0 with
  | true=>rfl
  | false=>
   cases c3:f.2.2.2.2.2.2.2.1==4 with
   | true=>rfl
   | false=>rfl
def cH(p:den tPk):Bool:=inR p.2.2.2.2.1 0 ((p.2.2.2.1.length:Int) - 1)&&inR p.2.2.2.2.2.1 0 (((((p.2.2.2.1[p.2.2.2.2.1.toNat]?).getD (0,0,0,[])).2.2.2.length:Nat):Int) - 1)
def cD(p:den tPk):Int:=if cH p then ((((p.2.2.2.1[p.2.2.2.2.1.toNat]?).getD (0,0,0,[])).2.2.2[p.2.2.2.2.2.1.toNat]?).getD (0,0,0,0,0)).1 else -1
theorem aDj{p:den tPk}(h:cH p=true):∃(i j:Nat) (x:den tPp) (y:den bU),p.2.2.2.2.1=(i:Int)/\p.2.2.2.2.2.1=(j:Int)/\p.2.2.2.1[i]? =some x/\x.2.2.2[j]? =some y/\cD p=y.1:=by
 have h':=h;unfold cH at h';simp only[cEw,aZ]at h';obtain⟨⟨h1,h2⟩,h3,h4⟩:=h';obtain⟨x,hx⟩:=aA7 h1 h2;rw[hx,cFy]at h4;obtain⟨y,hy⟩:=aA7 h3 h4;refine⟨p.2.2.2.2.1.toNat,p.2.2.2.2.2.1.toNat,x,y,(cHe h1).symm,(cHe h3).symm,hx,hy,?_⟩;unfold cD;rw[h,zT rfl,hx,cFy,hy,cFy]
theorem aAg{p:den tPk}(c:cH p=false):cD p= -1:=by unfold cD;rw[c];rfl
theorem bVd{p:den tPk}(h:SmB 68719476736 tPk p):xQ p=some (cH p):=by
 unfold xQ cH zz4 zz5;have l1:=h.2.2.2.1.1;rw[mN,nN l1,aA];cases c1:inR p.2.2.2.2.1 0 ((p.2.2.2.1.length:Int) - 1) with
 | false=>rfl
 | true=>
  rw[aZ]at c1;obtain⟨x,hx⟩:=aA7 c1.1 c1.2;rw[aJv c1.1 hx,hx];have l2:=(h.2.2.2.1.2 _ (cE9 hx)).2.2.2.1;simp only[zZ,aA,mN,nN l2,cFy,cFf]
theorem aGk{p:den tPk}(h:SmB 68719476736 tPk p):eP p=some (cD p):=by
 unfold eP aM zz4 zz5;simp only[aP,bVd h,aA];cases c:cH p with
 | false=>rw[aAg c];rfl
 | true=>
  obtain⟨i,j,x,y,h1,h2,h3,h4,h5⟩:=aDj c;rw[h1,h2,h5];simp only[cE2,zY,aR,h3,h4,aA]
theorem aGn{p:den tPk}(h:SmB 68719476736 tPk p):eO p=some (cD p):=by
 unfold eO zz4 zz5;have l1:=h.2.2.2.1.1;rw[iY,nN l1,aA];cases c1:inR p.2.2.2.2.1 0 ((p.2.2.2.1.length:Int) - 1) with
 | false=>rw[aAg (by unfold cH;rw[c1];rfl)];rfl
 | true=>
  have c1':=c1;rw[aZ]at c1';obtain⟨x,hx⟩:=aA7 c1'.1 c1'.2;rw[aJv c1'.1 hx];have l2:=(h.2.2.2.1.2 _ (cE9 hx)).2.2.2.1;simp only[cE2,zY,aA,iY,nN l2];cases c2:inR p.2.2.2.2.2.1 0 ((x.2.2.2.length:Int) - 1) with
  | false=>rw[aAg (by unfold cH;rw[c1,hx,cFy,c2];rfl)];rfl
  | true=>
   have c:cH p=true:=by unfold cH;rw[c1,hx,cFy,c2];rfl
   rw[aZ]at c2;obtain⟨y,hy⟩:=aA7 c2.1 c2.2;rw[aJv c2.1 hy];unfold cD;rw[c,zT rfl,hx,cFy,hy,cFy];rfl
def aEd(p:den tPt)(i j:Nat):den tPt:=
 match p[i]? with
 | some x=>p.take i++[(x.1,x.2.1,x.2.2.1,x.2.2.2.take (j+1))]
 | none=>[]
def oV(p:den tPk):den tPt:=if cD p<0 then [] else aEd p.2.2.2.1 p.2.2.2.2.1.toNat p.2.2.2.2.2.1.toNat
theorem aZt{p:den tPk}(h:SmB 68719476736 tPk p):iQ p=some (oV p):=by
 unfold iQ oV aM zz4 zz5;simp only[aP,aGk h,aA]
 by_cases hc:cD p<0
 .rw[zX hc,zZ,zT hc]
 .rw[zW hc,zY,zS hc];cases c:cH p with
  | false=>rw[aAg c]at hc;exact absurd (by decide) hc
  | true=>
   obtain⟨i,j,x,y,h1,h2,h3,h4,h5⟩:=aDj c;have l1:=h.2.2.2.1.1;have l2:=(h.2.2.2.1.2 _ (cE9 h3)).2.2.2.1;have hi:=(cEz.1 h3).1;have hj:=(cEz.1 h4).1;have e1:wr ((i:Int)+1)=((i+1:Nat):Int):=by have :wr ((i:Int)+1)=(i:Int)+1:=wri (by omega) (by omega);rw[this];rfl
   have e2:wr ((j:Int)+1)=((j+1:Nat):Int):=by have :wr ((j:Int)+1)=(j:Int)+1:=wri (by omega) (by omega);rw[this];rfl
   have e3:cO (0:Int) ((i+1:Nat):Int) (p.2.2.2.1.length:Int)=true:=by simp[cO];omega
   have e4:cO (0:Int) ((j+1:Nat):Int) (x.2.2.2.length:Int)=true:=by simp[cO];omega
   have e5:p.2.2.2.1.take (i+1)=p.2.2.2.1.take i++[x]:=aMe h3;have e6:(p.2.2.2.1.take i).length=i:=by rw[cF6];omega
   rw[h1,h2,e1,e2,aOl h.2.2.2.1,aA,e3,zZ];simp only[cE0,e5];have e7:decide ((i:Int)<((p.2.2.2.1.take i++[x]).length:Int))=true:=by simp;omega
   have e8:(p.2.2.2.1.take i++[x])[i]? =some x:=by rw[List.getElem?_append_right (by omega),e6];simp
   have e9:∀z,(p.2.2.2.1.take i++[x]).set i z=p.2.2.2.1.take i++[z]:=λz=>by rw[List.set_append_right _ _ (by omega),e6];simp
   simp only[cT,e7,e8,e4,e9,zZ,aA,jU,decide_true];unfold aEd;rw[h3]
theorem bBo{p:den tPk}(h:SmB 68719476736 tPk p):iH p=some (oV p):=by
 unfold iH oV aM pj4 zz4 zz5;simp only[aP,aGn h,aA]
 by_cases hc:cD p<0
 .rw[zX hc,zZ,zT hc]
 .rw[zW hc,zY,zS hc];cases c:cH p with
  | false=>rw[aAg c]at hc;exact absurd (by decide) hc
  | true=>
   obtain⟨i,j,x,y,h1,h2,h3,h4,h5⟩:=aDj c;have l1:=h.2.2.2.1.1;have hi:=(cEz.1 h3).1;have hj:=(cEz.1 h4).1;have l2:=(h.2.2.2.1.2 _ (cE9 h3)).2.2.2.1;have e2:wr ((j:Int)+1)=((j+1:Nat):Int):=by have :wr ((j:Int)+1)=(j:Int)+1:=wri (by omega) (by omega);rw[this];rfl
   have e4:cO (0:Int) ((j+1:Nat):Int) (x.2.2.2.length:Int)=true:=by simp[cO];omega
   have e5:p.2.2.2.1.take (i+1)=p.2.2.2.1.take i++[x]:=aMe h3;have e6:(p.2.2.2.1.take (i+1)).length=i+1:=by rw[cF6];omega
   rw[h1,h2,e2]
   let cutX:Nat->den tPp->den tPp:=λk z=>if k=i then (z.1,z.2.1,z.2.2.1,z.2.2.2.take (j+1)) else z
   rw[kD (λk (a:lPp)=>((k:Int),a)) ((0:Int),[]) [] (p.2.2.2.1.take (i+1)) (λk z a=>a++[cutX k z]) cFd (λ_=>1) 68719476736 id rfl (by omega) (by rw[eY];simp;omega) (λk z a=>by simp) (λk z a hz hx hd hw hk hb=>by
    rw[e6]at hd hk;have hz':=(aPr hx).1;have hd':decide ((k:Int)<=(i:Int))=true:=by simp;omega
    have sz:=h.2.2.2.1.2 _ (cE9 hz');simp only[hd',hw,zZ,aA,aR,hz',aP,aP8 sz]
    by_cases hki:k=i
    .subst hki;rw[h3]at hz';injection hz' with hz';subst hz';have e7:((k:Int)==(k:Int))=true:=by simp
     simp only[e7,zZ,e4,aA,jU,aF (b:=48) (n:=a.length) (m:=1) (by decide) hb,cutX,zV]
    .have e7:((k:Int)==(i:Int))=false:=by simp;omega
     simp only[e7,zY,aA,aF (b:=48) (n:=a.length) (m:=1) (by decide) hb,zZ,cutX,zS hki]) (λa=>by
    have e10:decide (((i+1:Nat):Int)<=(i:Int))=false:=by simp<;>omega
    rw[e6];simp only[e10,zY];rfl)]
   have key:∀(l:lPp) (k:Nat) (a:lPp),k+l.length<=i->bQ (λk z a=>a++[cutX k z]) k l a=a++l:=by
    intro l
    induction l with
    | nil=>intro k a _;simp[bQ]
    | cons z l ih=>
     intro k a hk;simp only[cFw]at hk;simp only[bQ];rw[ih (k+1) _ (by omega)];have :cutX k z=z:=zS (by omega);rw[this];simp
   have fa:∀(l:lPp) (z:den tPp) (k:Nat) (a:lPp),bQ (λk z a=>a++[cutX k z]) k (l++[z]) a=bQ (λk z a=>a++[cutX k z]) k l a++[cutX (k+l.length) z]:=by
    intro l
    induction l with
    | nil=>intro z k a;rfl
    | cons y l ih=>
     intro z k a;simp only[List.cons_append,bQ,cFw];rw[ih];congr 3;omega
   have e8:(p.2.2.2.1.take i).length=i:=by rw[cF6];omega
   rw[e5,fa,key _ 0 [] (by omega),e8];have :cutX (0+i) x=(x.1,x.2.1,x.2.2.1,x.2.2.2.take (j+1)):=zT (by omega);rw[this];unfold aEd;rw[cE0,cE0,h3];rfl
theorem bDn(p:den tPt)(i j:Nat):tot tPt (aEd p i j)<=tot tPt p:=by
 unfold aEd;cases h:p[i]? with
 | none=>exact cFe _
 | some x=>
  have h1:tot tPt (p.take (i+1))<=tot tPt p:=bCf (t:=tPp) p (i+1);rw[aMe h]at h1;have h2:tot (.sl tPp) (p.take i++[x])<=tot (.sl tPp) p:=h1;show tot (.sl tPp) (p.take i++[(x.1,x.2.1,x.2.2.1,x.2.2.2.take (j+1))])<=tot (.sl tPp) p;rw[sY,aD8]at h2 ⊢;have h3:tot tPp (x.1,x.2.1,x.2.2.1,x.2.2.2.take (j+1))<=tot tPp x:=by
   have :=bCf (t:=bU) x.2.2.2 (j+1);show 0+(0+(0+tot (.sl bU) (x.2.2.2.take (j+1))))<=0+(0+(0+tot (.sl bU) x.2.2.2));omega
  omega
theorem aDv(p:den tPk):tot tPt (oV p)<=tot tPt p.2.2.2.1:=by
 unfold oV;split
 .exact cFe _
 .exact bDn _ _ _
def vi:Nat->Nat->List Int
 | 0,n=>[(n:Int)]
 | k+1,n=>if n<128 then [(n:Int)] else (((n % 128+128:Nat):Int))::vi k (n / 128)
theorem bM6:∀(k n:Nat),(vi k n).length<=k+1
 | 0,n=>by simp[vi]
 | k+1,n=>by
  unfold vi;split
  .simp
  .have :=bM6 k (n / 128);simp only[cFw];omega
theorem aEk{n:Nat}(h:n<256):IntKind.wrap .u8 (n:Int)=(n:Int):=by
 simp only[IntKind.wrap,IntKind.signed,IntKind.bits];simp;omega
theorem bZb:∀(k n:Nat) (out:List Int),n<128 ^ (k+1)->out.length+k+1<=68719476736->n<9223372036854775808->(@Option.bind q40 (lI) (@aD q40 q40 (λ(s4:Int×lI)=>cond (decide (s4.1>=(128:Int))) (cond (aK 1 s4.2.length 1) (some (cEu (wr (Int.tdiv s4.1 (128:Int)),s4.2++[IntKind.wrap .u8 (wr ((cF0 s4.1 (128:Int))+(128:Int)))]))) none) (some (cEt (s4.1,s4.2)))) ((n:Int),out)) λ(s5:Int×lI)=>cond (aK 1 s5.2.length 1) (some (s5.2++[IntKind.wrap .u8 s5.1])) none)=some (out++vi k n)
 | 0,n,out,hn,ho,hb=>by
  have hn:n<128:=by simpa using hn
  have e1:decide ((n:Int)>=128)=false:=by simp;omega
  rw[bH (r:=((n:Int),out)) (by simp only[e1,zY]),aA];simp only[aF (b:=1) (n:=out.length) (m:=1) (by decide) (by omega),zZ,aEk (n:=n) (by omega),vi]
 | k+1,n,out,hn,ho,hb=>by
  by_cases h:n<128
  .have e1:decide ((n:Int)>=128)=false:=by simp;omega
   rw[bH (r:=((n:Int),out)) (by simp only[e1,zY]),aA];simp only[aF (b:=1) (n:=out.length) (m:=1) (by decide) (by omega),zZ,aEk (n:=n) (by omega),vi,zT h]
  .have e1:decide ((n:Int)>=128)=true:=by simp;omega
   have hd:n / 128<128 ^ (k+1):=by rw[Nat.div_lt_iff_lt_mul (by decide)];rw[Nat.pow_succ]at hn;exact hn
   have e2:Int.tdiv (n:Int) 128=((n / 128:Nat):Int):=rfl;have e3:cF0 (n:Int) 128=((n % 128:Nat):Int):=rfl;have e4:wr (((n % 128:Nat):Int)+128)=((n % 128+128:Nat):Int):=by
    have :wr (((n % 128:Nat):Int)+128)=((n % 128:Nat):Int)+128:=wri (by omega) (by omega);rw[this];rfl
   have e5:wr ((n / 128:Nat):Int)=((n / 128:Nat):Int):=wri (by omega) (by omega);rw[cY (s':=(((n / 128:Nat):Int),out++[((n % 128+128:Nat):Int)])) (by
    simp only[e1,zZ,aF (b:=1) (n:=out.length) (m:=1) (by decide) (by omega),e2,e3,e4,e5,aEk (n:=n % 128+128) (by omega)])]
   rw[bZb k (n / 128) _ hd (by simp;omega) (by omega)];simp only[vi,zS h,cFk,cId]
theorem bB4{n:Nat}(h:n<9223372036854775808):yR .i64 (n:Int) 127=((n % 128:Nat):Int):=by
 have e:(BitVec.ofInt 64 (n:Int) &&& BitVec.ofInt 64 127).toNat=n % 128:=by
  rw[BitVec.toNat_and];have e1:(BitVec.ofInt 64 (n:Int)).toNat=n:=by simp;omega
  have e2:(BitVec.ofInt 64 127).toNat=2 ^ 7 - 1:=by decide
  rw[e1,e2,Nat.and_two_pow_sub_one_eq_mod]
 unfold yR;show IntKind.i64.wrap (((BitVec.ofInt 64 (n:Int) &&& BitVec.ofInt 64 127).toNat:Nat):Int)=_;rw[e];exact wri (by omega) (by omega)
theorem bWi{n:Nat}(h:n<128):bOr .i64 (n:Int) 128=((n+128:Nat):Int):=by
 have e:(BitVec.ofInt 64 (n:Int) ||| BitVec.ofInt 64 128).toNat=n+128:=by
  rw[BitVec.toNat_or];have e1:(BitVec.ofInt 64 (n:Int)).toNat=n:=by simp;omega
  have e2:(BitVec.ofInt 64 128).toNat=128:=by decide
  rw[e1,e2,Nat.or_comm];have :=Nat.two_pow_add_eq_or_of_lt (i:=7) (b:=n) h 1;simp only[Nat.mul_one]at this;rw[<- this];omega
 unfold bOr;show IntKind.i64.wrap (((BitVec.ofInt 64 (n:Int) ||| BitVec.ofInt 64 128).toNat:Nat):Int)=_;rw[e];exact wri (by omega) (by omega)
theorem cC3(n:Nat):shr .i64 (n:Int) 7=((n / 128:Nat):Int):=by
 unfold shr;show Int.fdiv (n:Int) (2 ^ 7)=_;rw[Int.fdiv_eq_ediv_of_nonneg _ (by decide)];rfl
theorem bYy:∀(k n:Nat) (out:List Int),n<128 ^ (k+1)->out.length+k+1<=68719476736->n<9223372036854775808->(@Option.bind q40 (lI) (@aD q40 q40 (λ(s3:Int×lI)=>cond (decide (s3.1>(127:Int))) (cond (aK 1 s3.2.length 1) (some (cEu (shr .i64 s3.1 (7:Int),s3.2++[IntKind.wrap .u8 (bOr .i64 (yR .i64 s3.1 (127:Int)) (128:Int))]))) none) (some (cEt (s3.1,s3.2)))) ((n:Int),out)) λ(s4:Int×lI)=>cond (aK 1 s4.2.length 1) (some (s4.2++[IntKind.wrap .u8 s4.1])) none)=some (out++vi k n)
 | 0,n,out,hn,ho,hb=>by
  have hn:n<128:=by simpa using hn
  have e1:decide ((n:Int)>127)=false:=by simp;omega
  rw[bH (r:=((n:Int),out)) (by simp only[e1,zY]),aA];simp only[aF (b:=1) (n:=out.length) (m:=1) (by decide) (by omega),zZ,aEk (n:=n) (by omega),vi]
 | k+1,n,out,hn,ho,hb=>by
  by_cases h:n<128
  .have e1:decide ((n:Int)>127)=false:=by simp;omega
   rw[bH (r:=((n:Int),out)) (by simp only[e1,zY]),aA];simp only[aF (b:=1) (n:=out.length) (m:=1) (by decide) (by omega),zZ,aEk (n:=n) (by omega),vi,zT h]
  .have e1:decide ((n:Int)>127)=true:=by simp;omega
   have hd:n / 128<128 ^ (k+1):=by rw[Nat.div_lt_iff_lt_mul (by decide)];rw[Nat.pow_succ]at hn;exact hn
   rw[cY (s':=(((n / 128:Nat):Int),out++[((n % 128+128:Nat):Int)])) (by
    simp only[e1,zZ,aF (b:=1) (n:=out.length) (m:=1) (by decide) (by omega),cC3,bB4 hb,bWi (n:=n % 128) (by omega),aEk (n:=n % 128+128) (by omega)])]
   rw[bYy k (n / 128) _ hd (by simp;omega) (by omega)];simp only[vi,zS h,cFk,cId]
def aBw(b:List Int)(n:Int):List Int:=if inR n 0 1000000000000 then b++vi 5 n.toNat else b
theorem aQb(b:List Int)(n:Int):(aBw b n).length<=b.length+6:=by
 unfold aBw;split
 .have :=bM6 5 n.toNat;rw[cFj];omega
 .omega
theorem cCc{b:List Int}{n:Int}(h:b.length+6<=68719476736):oL b n=some (aBw b n):=by
 unfold oL aBw pj2;rw[aJy (by omega),mN];cases c:inR n 0 1000000000000 with
 | false=>rfl
 | true=>
  rw[aZ]at c;obtain⟨m,rfl⟩:=cFo c.1;have :=bZb 5 m b (by simp only[show (128:Nat) ^ (5+1)=4398046511104 from by decide];omega) (by omega) (by omega);exact this
theorem cAp{b:List Int}{n:Int}(h:b.length+6<=68719476736):oC b n=some (aBw b n):=by
 unfold oC aBw pj2;rw[aF (b:=1) (n:=([]:List Int).length) (by decide) (by simp;omega),iY];cases c:inR n 0 1000000000000 with
 | false=>rfl
 | true=>
  rw[aZ]at c;obtain⟨m,rfl⟩:=cFo c.1;have :=bYy 5 m b (by simp only[show (128:Nat) ^ (5+1)=4398046511104 from by decide];omega) (by omega) (by omega);exact this
def aI2(b l:List Int):List Int:=l.foldl aBw b
theorem bSg(b l:List Int):(aI2 b l).length<=b.length+6 * l.length:=by
 unfold aI2
 induction l generalizing b with
 | nil=>simp
 | cons x l ih=>
  have h1:=ih (aBw b x);have h2:=aQb b x;simp only[List.foldl_cons,cFw];omega
theorem bEq{α:Type}(l:List α):(l.map λ_=>6).sum=6 * l.length:=by
 induction l with
 | nil=>rfl
 | cons x l ih=>rw[cFg,cGf,ih,cFw];omega
theorem bZx{b l:List Int}(h:b.length+6 * l.length<=68719476736):sJ b l=some (aI2 b l):=by
 unfold sJ aI2;rw[kD (λk (a:List Int)=>(a,(k:Int))) (b,(0:Int)) b l (λ_ x a=>aBw a x) cFd (λ_=>6) 68719476736 id rfl (by omega) (by rw[bEq];exact h) (λ_ x a=>aQb a x) (λk x a hi hx hd hw hk hb=>by
  simp only[hd,hi,hw,zZ,aA,cCc (b:=a) (n:=x) hb]) (λa=>by simp),uV aBw]
 rfl
theorem bO4{l:List Int}(h:6 * l.length<=68719476736):rR l=some (aI2 [] l):=by
 unfold rR;rw[bZx (by simpa using h)];rfl
theorem bPb{l:List Int}(h:6 * l.length<=68719476736):sO l=some (aI2 [] l):=by
 unfold sO aI2;rw[kD (λk (a:List Int)=>((k:Int),a)) ((0:Int),[]) [] l (λ_ x a=>aBw a x) cFd (λ_=>6) 68719476736 id rfl (by omega) (by rw[bEq];simpa using h) (λ_ x a=>aQb a x) (λk x a hi hx hd hw hk hb=>by
  simp only[hd,hi,hw,zZ,aA,cAp (b:=a) (n:=x) hb]) (λa=>by simp),uV aBw]
 rfl
def tH(x:den tRv):List Int:=if dR x then aI2 [] [x.1,x.2.1,x.2.2] else []
theorem aPu(x:den tRv):(tH x).length<=18:=by
 unfold tH;split
 .exact bSg [] [x.1,x.2.1,x.2.2]
 .simp
theorem cA8(x:den tRv):jG x=some (tH x):=by
 unfold jG tH pj3;rw[bO4 (l:=[x.1,x.2.1,x.2.2]) (by simp)];simp only[aP,aEl,aA];cases dR x<;>rfl
theorem bZy(x:den tRv):jE x=some (tH x):=by
 unfold jE tH pj3;rw[bPb (l:=[x.1,x.2.1,x.2.2]) (by simp)];simp only[aP,aD3,aA];cases dR x<;>rfl
def cB(r now d:Int)(p:den tPk):den tPk:=dM 3 (jS (oV p)) p.2.2.2.2.2.2.2.1 p.2.2.2.2.2.2.2.2.1 (tH (r,d,if 1000000<wr (now+10) then 1000000 else wr (now+10)))
theorem bXm{t:den tTo}{r now d:Int}{p:den tPk}(h:tot tPk p<=34359738368):jR t r now d p=some (pkR (cB r now d p)):=by
 have h1:tot tPt p.2.2.2.1<=34359738368:=tT (aQ (aQ (aQ h)));have h2:=aDv p;have sm:SmB 68719476736 tPk p:=(bR h).mono (by decide);have h3:=aPu (r,d,if 1000000<wr (now+10) then 1000000 else wr (now+10));unfold jR cB aM zz7 zz8;simp only[aP,cC2,aA,aZt sm];rw[bBw ((bR (cEv h2 h1)).mono (by decide)),aA,cA8,aA,aO5 (by rw[aA3];omega) (by omega)];rfl
theorem bYg{t:den tTo}{r now d:Int}{p:den tPk}(h:tot tPk p<=34359738368):gU t r now d p=some (pkR (cB r now d p)):=by
 have h1:tot tPt p.2.2.2.1<=34359738368:=tT (aQ (aQ (aQ h)));have h2:=aDv p;have sm:SmB 68719476736 tPk p:=(bR h).mono (by decide);have h3:=aPu (r,d,if 1000000<wr (now+10) then 1000000 else wr (now+10));unfold gU cB aM zz7 zz8;simp only[aP,aXp,aA,bBo sm];rw[bBv ((bR (cEv h2 h1)).mono (by decide)),aA,bZy,aA,aJl (by rw[aA3];omega) (by omega)];rfl
theorem aFj{kind res seq:Int}{p:den tPt}{pay:List Int}:tot tPk (dM kind p res seq pay)=tot tPt p+tot (.sl tb) pay:=by
 show 0+(0+(0+(tot tPt p+(0+(0+(0+(0+(0+tot (.sl tb) pay))))))))=_;omega
theorem aVt(f:den tFl):tot tPk (mO f)<=tot tFl f:=by
 unfold mO;split
 .rw[aFj];have h1:=bCo (t:=tPt) (l:=f.2.2.2.2.2.1) (d:=[]) (i:=f.2.2.2.2.2.2.1.toNat) rfl;have h2:=bCo (t:= .sl tb) (l:=f.2.2.2.2.1) (d:=[]) (i:=f.2.2.2.1.toNat) rfl;show _<=0+(0+(0+(0+(tot (.sl (.sl tb)) f.2.2.2.2.1+(tot (.sl tPt) f.2.2.2.2.2.1+(0+(0+tot (.sl tRv) f.2.2.2.2.2.2.2.2)))))));omega
 .exact cFe _
theorem aOx{p:den tPk}{N:Nat}(h:tot tPk p<=N):tot (.sl tPp) p.2.2.2.1<=N/\tot (.sl tb) p.2.2.2.2.2.2.2.2.2<=N:=
 ⟨tT (aQ (aQ (aQ h))),aQ (aQ (aQ (aQ (aQ (aQ (aQ (aQ (aQ h))))))))⟩
theorem aWq(x:den tIb)(p:den tPk):tot tPk (jT x p)<=tot tPk p:=by
 unfold jT;split
 .unfold aOo;rw[aFj,aA3];have h:=(aOx (cE8 (tot tPk p))).1;show tot (.sl tPp) p.2.2.2.1+0<=_;omega
 .exact cFe _
theorem aWl(f:den tFl):tot tFl (aE f).1=tot tFl f/\tot tPk (aE f).2.1<=tot tFl f:=by
 unfold aE;split
 .split
  .exact⟨aH8 f _ _,aVt f⟩
  .split
   .exact⟨aH8 f _ _,aVt (setCW f (lJ f) 1)⟩
   .exact⟨aH8 f _ _,cFe _⟩
 .exact⟨aH8 f _ _,cFe _⟩
theorem aF8{f:den tFl}{N:Nat}(h:tot tFl f<=N):tot (.sl tMs) f.2.2.2.2.1<=N/\tot (.sl tPt) f.2.2.2.2.2.1<=N/\tot (.sl tRv) f.2.2.2.2.2.2.2.2<=N:=by
 have h0:=aQ (aQ (aQ (aQ h)));exact⟨tT h0,tT (aQ h0),aQ (aQ (aQ (aQ h0)))⟩
theorem aWd(r now d:Int)(p:den tPk):tot tPk (cB r now d p)<=tot tPk p+18:=by
 unfold cB;rw[aFj,aA3];have h1:=aDv p;have h2:=(aOx (cE8 (tot tPk p))).1;have h2:tot tPt p.2.2.2.1<=tot tPk p:=h2;have h3:=aPu (r,d,if 1000000<wr (now+10) then 1000000 else wr (now+10));have e:tot (.sl tb) (tH (r,d,if 1000000<wr (now+10) then 1000000 else wr (now+10)))=(tH (r,d,if 1000000<wr (now+10) then 1000000 else wr (now+10))).length:=dQ rfl;rw[e];omega
def aIy{α β:Type}(p:α->β->Bool):List α->List β->Bool
 | x::xs,y::ys=>p x y&&aIy p xs ys
 | _,_=>true
theorem bAf{α β R:Type}{a:List α}{b:List β}(p:α->β->Bool){step:Int->Option (Int⊕(Unit⊕R))}(ρ:R)(hlen:a.length=b.length)(hl:a.length<=4611686018427387904)
  (h:∀(k:Nat) (x:α) (y:β),x∈a->y∈b->idx a (k:Int)=some x->idx b (k:Int)=some y->decide ((k:Int)<(a.length:Int))=true->IntKind.i64.wrap ((k:Int)+1)=((k+1:Nat):Int)->step (k:Int)=some (cond (p x y) (.inl ((k+1:Nat):Int)) (.inr (.inr ρ))))
  (he:step (a.length:Int)=some (.inr (.inl ()))):aD step (0:Int)=some (cond (aIy p a b) (.inl ()) (.inr ρ)):=by
 have key:∀(ra pa:List α) (rb pb:List β),pa++ra=a->pb++rb=b->pa.length=pb.length->aD step (pa.length:Int)=some (cond (aIy p ra rb) (.inl ()) (.inr ρ)):=by
  intro ra
  induction ra with
  | nil=>intro pa rb pb h1 _ _;rw[cFv]at h1;subst h1;exact bH he
  | cons x ra ih=>
   intro pa rb pb h1 h2 h3;cases rb with
   | nil=>exfalso;have e1:=congrArg cFd h1;have e2:=congrArg cFd h2;simp at e1 e2;omega
   | cons y rb=>
    have hx:a[pa.length]? =some x:=by rw[<- h1];simp
    have hy:b[pa.length]? =some y:=by rw[<- h2,h3];simp
    have hlt:pa.length<a.length:=by rw[<- h1];simp
    have hs:=h pa.length x y (cE9 hx) (cE9 hy) (by rw[aR];exact hx) (by rw[aR];exact hy) (by simpa using hlt) (by rw[wri (by omega) (by omega)];omega);simp only[aIy];cases hp:p x y with
    | true=>rw[hp]at hs;rw[cY hs];have :=ih (pa++[x]) rb (pb++[y]) (by simpa using h1) (by simpa using h2) (by simp[h3]);simpa using this
    | false=>rw[hp]at hs;exact bH hs
 exact key a [] b [] rfl rfl rfl
theorem aGo{α:Type}(b:Bool)(x y:α):cond b (some x) (some y)=some (cond b x y):=by cases b<;>rfl
theorem bO1{β:Type}(c:Bool)(f:Unit->Option β)(r:β):Sum.elim f some (cond c (cEu ()) (cEt r))=cond c (f ()) (some r):=by cases c<;>rfl
theorem bMc{α β:Type}(a:List α)(b:List β):((a.length:Int) != (b.length:Int))= !decide (a.length=b.length):=by
 rw[cFm];simp;omega
theorem bF3{α:Type}{p:Prop}[Decidable p]{x y z:α}(h:p->y=z):cond (!decide p) x y=cond (!decide p) x z:=by
 by_cases hp:p
 .rw[h hp]
 .simp[hp]
noncomputable def aSo(a b:cV):Bool:=cond (!decide (a.length=b.length)) false (cond (aIy (λx y=>(x.1==y.1)&&((x.2.1==y.2.1)&&((x.2.2.1==y.2.2.1)&&((x.2.2.2.1==y.2.2.2.1)&&((x.2.2.2.2==y.2.2.2.2)&&true))))) a b) true false)
theorem bWe{a b:cV}(ha:a.length<=68719476736):jY a b=some (aSo a b):=by
 unfold jY aSo zz4;rw[bMc];rw[bF3 (z:=some (cond (aIy (λx y=>(x.1==y.1)&&((x.2.1==y.2.1)&&((x.2.2.1==y.2.2.1)&&((x.2.2.2.1==y.2.2.2.1)&&((x.2.2.2.2==y.2.2.2.2)&&true))))) a b) true false)) (λhlen=>by
  rw[bAf (a:=a) (b:=b) (λx y=>(x.1==y.1)&&((x.2.1==y.2.1)&&((x.2.2.1==y.2.2.1)&&((x.2.2.2.1==y.2.2.2.1)&&((x.2.2.2.2==y.2.2.2.2)&&true))))) false hlen (cEv ha (by decide)) (λk x y mx my ix iy hd hw=>by
   simp only[hd,ix,iy,hw,zZ,aA,aP,bne];generalize ((x.1==y.1)&&((x.2.1==y.2.1)&&((x.2.2.1==y.2.2.1)&&((x.2.2.2.1==y.2.2.2.1)&&((x.2.2.2.2==y.2.2.2.2)&&true)))))=c;cases c<;>rfl) (by simp)]
  simp only[aA,bO1,aGo]),aGo]
noncomputable def aE9(a b:den tPp):Bool:=cond (a.1==b.1) (cond (a.2.1==b.2.1) (cond (a.2.2.1==b.2.2.1) (aSo a.2.2.2 b.2.2.2) false) false) false
theorem bP5{a b:den tPp}(ha:SmB 68719476736 tPp a)(hb:SmB 68719476736 tPp b):sN a b=some (aE9 a b):=by
 unfold sN aE9;simp only[aA,aGo,aP,bWe ha.2.2.2.1]
noncomputable def aDb(a b:lPp):Bool:=cond (!decide (a.length=b.length)) false (cond (aIy (λx y=>aE9 x y) a b) true false)
theorem bFz{a b:lPp}(ha:SmB 68719476736 (.sl tPp) a)(hb:SmB 68719476736 (.sl tPp) b):mC a b=some (aDb a b):=by
 unfold mC aDb pj4;rw[bMc];rw[bF3 (z:=some (cond (aIy (λx y=>aE9 x y) a b) true false)) (λhlen=>by
  rw[bAf (a:=a) (b:=b) (λx y=>aE9 x y) false hlen (cEv ha.1 (by decide)) (λk x y mx my ix iy hd hw=>by
   simp only[hd,ix,iy,hw,zZ,aA,aP,bP5 (ha.2 x mx) (hb.2 y my)];generalize (aE9 x y)=c;cases c<;>rfl) (by simp)]
  simp only[aA,bO1,aGo]),aGo]
noncomputable def bUs(a b:List Int):Bool:=(yW a).toList==(yW b).toList
theorem bWu(a b:List Int):vF a b=some (bUs a b):=rfl
noncomputable def aCe(a b:den tPk):Bool:=cond (a.1==b.1) (cond (a.2.1==b.2.1) (cond (a.2.2.1==b.2.2.1) (cond (aDb a.2.2.2.1 b.2.2.2.1) (cond (a.2.2.2.2.1==b.2.2.2.2.1) (cond (a.2.2.2.2.2.1==b.2.2.2.2.2.1) (cond (a.2.2.2.2.2.2.1==b.2.2.2.2.2.2.1) (cond (a.2.2.2.2.2.2.2.1==b.2.2.2.2.2.2.2.1) (cond (a.2.2.2.2.2.2.2.2.1==b.2.2.2.2.2.2.2.2.1) (bUs a.2.2.2.2.2.2.2.2.2 b.2.2.2.2.2.2.2.2.2) false) false) false) false) false) false) false) false) false
theorem bV8{a b:den tPk}(ha:SmB 68719476736 tPk a)(hb:SmB 68719476736 tPk b):mU a b=some (aCe a b):=by
 unfold mU aCe zz4 zz5 zz6 zz7 zz8 zz9;simp only[aA,aGo,aP,bWu,bFz ha.2.2.2.1 hb.2.2.2.1]
def zH(f:den tFl):Int:=wr ((wr ((wr ((f.2.2.2.2.2.1.length:Int)+(2:Int))) * (21:Int)))+(wr ((2:Int) * (f.2.2.2.2.1.length:Int))))
def lG(w:den tNw):Int:=bQ (λ_ f a=>if zH f>a then zH f else a) 0 w.2.2.2.2.2.2.1 0
theorem aQi{w:den tNw}(h:w.2.2.2.2.2.2.1.length<=1073741824):eV w=some (wr (8+lG w)):=by
 unfold eV lG zz4 zz5 zz6;rw[kD (λk (a:Int)=>(a,(k:Int))) ((0:Int),(0:Int)) 0 w.2.2.2.2.2.2.1 (λ_ f a=>if zH f>a then zH f else a) (λ_=>0) (λ_=>0) 1 id rfl (by omega) (by rw[sum_nil];omega) (λk x a=>by omega) (λk x a hi hx hd hw hk hb=>by
  simp only[hd,hi,hw,zZ,aA,bJ1];rfl) (λa=>by simp)]
 rfl
theorem bRi{w:den tNw}(h:w.2.2.2.2.2.2.1.length<=1073741824):mD w=some (wr (8+lG w)):=by
 unfold mD lG zz4 zz5 zz6;rw[kD (λk (a:Int)=>(a,(k:Int))) ((0:Int),(0:Int)) 0 w.2.2.2.2.2.2.1 (λ_ f a=>if zH f>a then zH f else a) (λ_=>0) (λ_=>0) 1 id rfl (by omega) (by rw[sum_nil];omega) (λk x a=>by omega) (λk x a hi hx hd hw hk hb=>by
  simp only[hd,hi,hw,zZ,aA,aX8];rfl) (λa=>by simp)]
 rw[aA,Int.add_comm];rfl
def aKh(b:List Int)(p:Nat):Nat->Nat->Nat->Int×Int×Bool
 | 0,_,_=>(0,0,false)
 | f+1,k,n=>match b[p+k]? with
  | none=>(0,0,false)
  | some x=>
   if x.toNat<128 then (if (decide (x.toNat=0)&&decide (0<k))||decide (1000000000000<n+x.toNat % 128 * 2 ^ (7 * k)) then (0,0,false) else (((n+x.toNat % 128 * 2 ^ (7 * k):Nat):Int),((p+k+1:Nat):Int),true))
   else aKh b p f (k+1) (n+x.toNat % 128 * 2 ^ (7 * k))
theorem aU1{k:Nat}(h:k<6):2 ^ (7 * k)<=34359738368:=cEv (Nat.pow_le_pow_right (by decide) (show 7 * k<=35 by omega)) (by decide)
theorem bMa{n c k:Nat}(h:n<2 ^ (7 * k))(hc:c<128):n+c * 2 ^ (7 * k)<2 ^ (7 * (k+1)):=by
 have e:2 ^ (7 * (k+1))=128 * 2 ^ (7 * k):=by rw[show 7 * (k+1)=7 * k+7 by omega,Nat.pow_add];omega
 have :c * 2 ^ (7 * k)<=127 * 2 ^ (7 * k):=Nat.mul_le_mul_right _ (by omega);omega
theorem aT9{c k:Nat}(hk:k<6)(hc:c<128):c * 2 ^ (7 * k)<=4398046511104:=cEv (Nat.mul_le_mul (show c<=128 by omega) (aU1 hk)) (by decide)
theorem bEh{S:Type}(b:List Int)(p:Nat)(hb:∀x∈b,0<=x/\x<=255)(enc:Nat->Nat->S){step:S->Option (S⊕(Unit⊕q29))}
  (h0:∀n,step (enc 6 n)=some (.inr (.inl ())))
  (h1:∀k n,k<6->b[p+k]? =none->step (enc k n)=some (.inr (.inl ()))\/step (enc k n)=some (.inr (.inr (0,0,false))))
  (h2:∀k n (m:Nat),k<6->n<2 ^ (7 * k)->m<=255->b[p+k]? =some (m:Int)->step (enc k n)=some (if m<128 then .inr (.inr (if (decide (m=0)&&decide (0<k))||decide (1000000000000<n+m % 128 * 2 ^ (7 * k)) then (0,0,false) else (((n+m % 128 * 2 ^ (7 * k):Nat):Int),((p+k+1:Nat):Int),true))) else .inl (enc (k+1) (n+m % 128 * 2 ^ (7 * k))))):
  ∀f k n,f+k=6->n<2 ^ (7 * k)-> @Option.bind (Unit⊕q29) q29 (aD step (enc k n)) (λz=>Sum.elim (λ_=>some ((0:Int),(0:Int),false)) some z)=some (aKh b p f k n):=by
 intro f
 induction f with
 | zero=>
  intro k n hk hn;have :k=6:=by omega
  subst this;rw[bH (h0 n)];rfl
 | succ f ih=>
  intro k n hk hn;have hk6:k<6:=by omega
  unfold aKh;cases hx:b[p+k]? with
  | none=>rcases h1 k n hk6 hx with h | h<;>rw[bH h]<;>rfl
  | some x=>
   obtain⟨x0,x1⟩:=hb x (cE9 hx);obtain⟨m,rfl⟩:∃m:Nat,x=(m:Int):=⟨x.toNat,by omega⟩
   have hs:=h2 k n m hk6 hn (by omega) hx;simp only[cE0]
   by_cases hm:m<128
   .rw[zT hm]at hs ⊢;rw[bH hs];rfl
   .rw[zS hm]at hs ⊢;rw[cY hs];exact ih (k+1) _ (by omega) (bMa hn (Nat.mod_lt _ (by decide)))
theorem bF5{a c:Nat}(hc:c<=35)(h:a * 2 ^ c<=4398046511104):shl .i64 (a:Int) (c:Int)=((a * 2 ^ c:Nat):Int):=by
 unfold shl;have e:min ((c:Int)).toNat IntKind.i64.bits=c:=by simp[IntKind.bits];omega
 rw[e];have e2:(a:Int) * 2 ^ c=((a * 2 ^ c:Nat):Int):=by simp
 rw[e2];exact wri (by omega) (by omega)
theorem bXo{n c k:Nat}(hk:k<6)(hn:n<2 ^ (7 * k))(hc:c<128):bOr .i64 (n:Int) ((c * 2 ^ (7 * k):Nat):Int)=((n+c * 2 ^ (7 * k):Nat):Int):=by
 have hm:=aT9 hk hc;have hp:=aU1 hk;have e:(BitVec.ofInt 64 (n:Int) ||| BitVec.ofInt 64 ((c * 2 ^ (7 * k):Nat):Int)).toNat=n+c * 2 ^ (7 * k):=by
  rw[BitVec.toNat_or];have e1:(BitVec.ofInt 64 (n:Int)).toNat=n:=by simp;omega
  have e2:(BitVec.ofInt 64 ((c * 2 ^ (7 * k):Nat):Int)).toNat=c * 2 ^ (7 * k):=by
   generalize c * 2 ^ (7 * k)=q at hm;simp;omega
  rw[e1,e2,Nat.or_comm];have :=Nat.two_pow_add_eq_or_of_lt (i:=7 * k) (b:=n) hn c;rw[Nat.mul_comm c,<- this];omega
 unfold bOr;show IntKind.i64.wrap (((BitVec.ofInt 64 (n:Int) ||| BitVec.ofInt 64 ((c * 2 ^ (7 * k):Nat):Int)).toNat:Nat):Int)=_;rw[e];exact wri (by omega) (by omega)
theorem bAp{n:Nat}(h:n<256):IntKind.wrap .u64 (n:Int)=(n:Int):=by
 simp only[IntKind.wrap,IntKind.signed,IntKind.bits];simp;omega
def rv(b:List Int)(p:Nat):q29:=aKh b p 6 0 0
theorem aVr(k:Nat):(7:Int) * (k:Int)=((7 * k:Nat):Int):=by omega
theorem cD7{b:List Int}{p:Nat}(hb:∀x∈b,0<=x/\x<=255)(hl:b.length<=68719476736)(hp:p<=b.length):rY b (p:Int)=some (rv b p):=by
 unfold rY;have e0:decide ((p:Int)<0)=false:=by simp
 rw[e0,zY];refine bEh b p hb (λk n=>(((p+k:Nat):Int),(n:Int),(k:Int))) (λn=>by simp) (λk n hk hx=> ?_) (λk n m hk hn hm hx=> ?_) 6 0 0 rfl (by simp)
 .left;have h1:decide (((p+k:Nat):Int)<(b.length:Int))=false:=by
   have :=List.getElem?_eq_none_iff.1 hx;simp;omega
  simp only[h1];cases decide ((k:Int)<6)<;>rfl
 .have h0:=(cEz.1 hx).1;have h1:decide (((p+k:Nat):Int)<(b.length:Int))=true:=by simp;omega
  have h2:decide ((k:Int)<6)=true:=by simp;omega
  have h3:idx b ((p+k:Nat):Int)=some (m:Int):=by rw[aR];exact hx
  have h4:wr ((7 * k:Nat):Int)=((7 * k:Nat):Int):=wri (by omega) (by omega);have h5:wr (m:Int)=(m:Int):=wri (by omega) (by omega);have h6:decide (((7 * k:Nat):Int)<0)=false:=by simp;omega
  have h7:cF0 (m:Int) 128=((m % 128:Nat):Int):=rfl;have hq:=aT9 (c:=m % 128) hk (Nat.mod_lt _ (by decide));have hr:=aU1 hk;have h8:wr ((n:Int)+((m % 128 * 2 ^ (7 * k):Nat):Int))=((n+m % 128 * 2 ^ (7 * k):Nat):Int):=by
   generalize m % 128 * 2 ^ (7 * k)=q at hq;have :wr ((n:Int)+(q:Int))=(n:Int)+(q:Int):=wri (by omega) (by omega);rw[this];omega
  have h9:wr (((p+k:Nat):Int)+1)=((p+k+1:Nat):Int):=by
   have :wr (((p+k:Nat):Int)+1)=((p+k:Nat):Int)+1:=wri (by omega) (by omega);rw[this];omega
  have ha:wr ((k:Int)+1)=((k+1:Nat):Int):=by
   have :wr ((k:Int)+1)=(k:Int)+1:=wri (by omega) (by omega);rw[this];omega
  simp only[h1,h2,h3,zZ,aA,aVr,h4,bAp (n:=7 * k) (by omega),h6,zY,h5,h7,bF5 (a:=m % 128) (c:=7 * k) (by omega) hq,h8,h9,ha];generalize n+m % 128 * 2 ^ (7 * k)=q
  by_cases c1:m<128
  .have e1:decide ((m:Int)<128)=true:=by simp;omega
   have e2:((m:Int)==0)=decide (m=0):=by rw[cFm];simp
   have e3:decide ((k:Int)>0)=decide (0<k):=by rw[cFm];simp
   have e4:decide ((q:Int)>1000000000000)=decide (1000000000000<q):=by rw[cFm];simp;omega
   simp only[e1,e2,e3,e4,zZ,zT c1];cases decide (m=0)<;>cases decide (0<k)<;>cases decide (1000000000000<q)<;>rfl
  .have e1:decide ((m:Int)<128)=false:=by simp;omega
   simp only[e1,zY,zS c1];rfl
theorem cEo{b:List Int}{p:Nat}(hb:∀x∈b,0<=x/\x<=255)(hl:b.length<=68719476736)(hp:p<=b.length):rT b (p:Int)=some (rv b p):=by
 unfold rT;have e0:decide ((p:Int)<0)=false:=by simp
 refine bEh b p hb (λk n=>((n:Int),(k:Int))) (λn=>by simp) (λk n hk hx=> ?_) (λk n m hk hn hm hx=> ?_) 6 0 0 rfl (by simp)
 .right;have hw:wr ((b.length:Int) - (k:Int))=(b.length:Int) - (k:Int):=wri (by omega) (by omega);have h1:decide ((p:Int)>=(b.length:Int) - (k:Int))=true:=by
   have :=List.getElem?_eq_none_iff.1 hx;simp;omega
  have h2:decide ((k:Int)<6)=true:=by simp;omega
  simp only[h2,e0,hw,h1,zZ,zY,aA]
 .have h0:=(cEz.1 hx).1;have hw:wr ((b.length:Int) - (k:Int))=(b.length:Int) - (k:Int):=wri (by omega) (by omega);have h1:decide ((p:Int)>=(b.length:Int) - (k:Int))=false:=by simp;omega
  have h2:decide ((k:Int)<6)=true:=by simp;omega
  have hpk:wr ((p:Int)+(k:Int))=((p+k:Nat):Int):=by
   have :wr ((p:Int)+(k:Int))=(p:Int)+(k:Int):=wri (by omega) (by omega);rw[this];omega
  have h3:idx b ((p+k:Nat):Int)=some (m:Int):=by rw[aR];exact hx
  have h4:wr ((7 * k:Nat):Int)=((7 * k:Nat):Int):=wri (by omega) (by omega);have h5:wr (m:Int)=(m:Int):=wri (by omega) (by omega);have h6:decide (((7 * k:Nat):Int)<0)=false:=by simp;omega
  have hq:=aT9 (c:=m % 128) hk (Nat.mod_lt _ (by decide));have h9:wr (((p+k:Nat):Int)+1)=((p+k+1:Nat):Int):=by
   have :wr (((p+k:Nat):Int)+1)=((p+k:Nat):Int)+1:=wri (by omega) (by omega);rw[this];omega
  have ha:wr ((k:Int)+1)=((k+1:Nat):Int):=by
   have :wr ((k:Int)+1)=(k:Int)+1:=wri (by omega) (by omega);rw[this];omega
  simp only[h1,h2,hw,e0,hpk,h3,zZ,zY,aA,aVr,h4,h6,h5,bB4 (n:=m) (by omega),bF5 (a:=m % 128) (c:=7 * k) (by omega) hq,bXo (c:=m % 128) hk hn (Nat.mod_lt _ (by decide)),h9,ha];generalize n+m % 128 * 2 ^ (7 * k)=q
  by_cases c1:m<128
  .have e1:decide ((m:Int)<128)=true:=by simp;omega
   have e2:((m:Int)==0)=decide (m=0):=by rw[cFm];simp
   have e3:decide ((k:Int)>0)=decide (0<k):=by rw[cFm];simp
   have e4:decide ((q:Int)>1000000000000)=decide (1000000000000<q):=by rw[cFm];simp;omega
   simp only[e1,e2,e3,e4,zZ,zT c1];cases decide (m=0)<;>cases decide (0<k)<;>cases decide (1000000000000<q)<;>rfl
  .have e1:decide ((m:Int)<128)=false:=by simp;omega
   simp only[e1,zY,zS c1]
theorem bFy{b:List Int}{p:Nat}:∀(f k n:Nat),(aKh b p f k n).2.2=true-> ∃q:Nat,(aKh b p f k n).2.1=(q:Int)/\q<=b.length
 | 0,k,n,h=>by cases h
 | f+1,k,n,h=>by
  unfold aKh at h|-;cases hx:b[p+k]? with
  | none=>rw[hx]at h;cases h
  | some x=>
   rw[hx]at h;have hlt:=(cEz.1 hx).1;simp only at h|-
   by_cases c:x.toNat<128
   .rw[zT c]at h ⊢;split at h
    .cases h
    .rename_i c2;rw[zS c2];exact⟨p+k+1,rfl,hlt⟩
   .rw[zS c]at h ⊢;exact bFy f (k+1) _ h
theorem bUl{b:List Int}{p:Nat}(h:(rv b p).2.2=true):∃q:Nat,(rv b p).2.1=(q:Int)/\q<=b.length:=bFy 6 0 0 h
def aJe(b:List Int):Int×Bool×List Int:=
 cond (rv b 0).2.2 (cond (rv b (rv b 0).2.1.toNat).2.2 (cond (rv b (rv b (rv b 0).2.1.toNat).2.1.toNat).2.2
  ((rv b (rv b (rv b 0).2.1.toNat).2.1.toNat).2.1,true,[(rv b 0).1,(rv b (rv b 0).2.1.toNat).1,(rv b (rv b (rv b 0).2.1.toNat).2.1.toNat).1]) (0,false,[])) (0,false,[])) (0,false,[])
theorem bEd(b:List Int):aJe b=(0,false,[])\/ ∃q x y z,aJe b=(q,true,[x,y,z]):=by
 unfold aJe;cases (rv b 0).2.2
 .exact .inl rfl
 .cases (rv b (rv b 0).2.1.toNat).2.2
  .exact .inl rfl
  .cases (rv b (rv b (rv b 0).2.1.toNat).2.1.toNat).2.2
   .exact .inl rfl
   .exact .inr ⟨_,_,_,_,rfl⟩
theorem bAo{b:List Int}{step:Int×Int×List Int->Option ((Int×Int×List Int)⊕((Int×List Int)⊕(Int×Bool×List Int)))}
  (hs:∀(p:Nat) (i:Nat) (out:List Int),p<=b.length->i<3->out.length<=3->step ((p:Int),(i:Int),out)=some (cond (rv b p).2.2 (.inl ((rv b p).2.1,((i+1:Nat):Int),out++[(rv b p).1])) (.inr (.inr (0,false,[])))))
  (he:∀p out,step (p,3,out)=some (.inr (.inl (p,out)))):
  @Option.bind ((Int×List Int)⊕(Int×Bool×List Int)) (Int×Bool×List Int) (aD step ((0:Int),(0:Int),([]:List Int))) (λz=>Sum.elim (λs8=>some (s8.1,true,s8.2)) some z)=some (aJe b):=by
 have h1:=hs 0 0 [] (cFe _) (by decide) (by decide);unfold aJe;cases c1:(rv b 0).2.2 with
 | false=>rw[c1]at h1;rw[bH (s:=((0:Int),(0:Int),([]:List Int))) h1];rfl
 | true=>
  rw[c1]at h1;obtain⟨q1,e1,l1⟩:=bUl c1;rw[cY (s:=((0:Int),(0:Int),([]:List Int))) h1];rw[e1];simp only[zZ,cE0];have h2:=hs q1 (0+1) ([]++[(rv b 0).1]) l1 (by decide) (by simp);cases c2:(rv b q1).2.2 with
  | false=>rw[c2]at h2;rw[bH h2];rfl
  | true=>
   rw[c2]at h2;obtain⟨q2,e2,l2⟩:=bUl c2;rw[cY h2];rw[e2];simp only[zZ,cE0];have h3:=hs q2 (0+1+1) ([]++[(rv b 0).1]++[(rv b q1).1]) l2 (by decide) (by simp);cases c3:(rv b q2).2.2 with
   | false=>rw[c3]at h3;rw[bH h3];rfl
   | true=>
    rw[c3]at h3;rw[cY h3];rw[bH (s:=((rv b q2).2.1,((0+1+1+1:Nat):Int),[]++[(rv b 0).1]++[(rv b q1).1]++[(rv b q2).1])) (he _ _)];rfl
theorem cCd{b:List Int}(hb:∀x∈b,0<=x/\x<=255)(hl:b.length<=68719476736):rX b 0 3=some (aJe b):=by
 unfold rX;have r1:inR 3 0 100=true:=by decide
 have r2:inR 0 0 (b.length:Int)=true:=by rw[aZ];omega
 simp only[mN,aA,r1,r2,cE2,zY];refine bAo (λp i out hp hi ho=> ?_) (λp out=>by simp);have e1:decide ((i:Int)<3)=true:=by simp;omega
 have e2:wr ((i:Int)+1)=((i+1:Nat):Int):=by
  have :wr ((i:Int)+1)=(i:Int)+1:=wri (by omega) (by omega);rw[this];omega
 simp only[e1,zZ,cD7 hb hl hp,aA,e2,aF (b:=8) (n:=out.length) (m:=1) (by decide) (by omega)];cases (rv b p).2.2<;>rfl
theorem bZo{b:List Int}(hb:∀x∈b,0<=x/\x<=255)(hl:b.length<=68719476736):rS b 0 3=some (aJe b):=by
 unfold rS;have r1:inR 3 0 100=true:=by decide
 have r2:inR 0 0 (b.length:Int)=true:=by rw[aZ];omega
 simp only[iY,aA,r1,r2,cE2,zY];refine bAo (λp i out hp hi ho=> ?_) (λp out=>by simp);have e1:decide ((i:Int)<3)=true:=by simp;omega
 have e2:wr ((i:Int)+1)=((i+1:Nat):Int):=by
  have :wr ((i:Int)+1)=(i:Int)+1:=wri (by omega) (by omega);rw[this];omega
 simp only[e1,zZ,cEo hb hl hp,aA,e2,aF (b:=8) (n:=out.length) (m:=1) (by decide) (by omega)];cases (rv b p).2.2<;>rfl
def qE(b:List Int):Int×q29:=
 match aJe b with
 | (q,true,[x,y,z])=>cond (q==(b.length:Int)) (cond (dR (x,y,z)) (x,y,z,true) (0,0,0,false)) (0,0,0,false)
 | _=>(0,0,0,false)
theorem cAd{b:List Int}(hb:∀x∈b,0<=x/\x<=255)(hl:b.length<=68719476736):jO b=some (qE b):=by
 unfold jO qE ixb;rw[cCd hb hl];rcases bEd b with h | ⟨q,x,y,z,h⟩
 .rw[h];rfl
 .rw[h];simp only[aA,cE2,zY,bne,aEl];cases q==(b.length:Int)
  .rfl
  .cases hv:dR (x,y,z)<;>simp[hv]
theorem cAv{b:List Int}(hb:∀x∈b,0<=x/\x<=255)(hl:b.length<=68719476736):jJ b=some (qE b):=by
 unfold jJ qE ixb;rw[bZo hb hl];rcases bEd b with h | ⟨q,x,y,z,h⟩
 .rw[h];rfl
 .rw[h];simp only[aA,cE2,zY,bne,aD3];cases q==(b.length:Int)
  .rfl
  .cases hv:dR (x,y,z)<;>simp[hv]
def aBi(x:den tRv)(l:lRv)(k:Nat)(y:den tRv):Option lRv:=
 cond (y.1==x.1) (cond (y.2.1==x.2.1) (some (l.set k (y.1,y.2.1,if x.2.2>y.2.2 then x.2.2 else y.2.2))) none) none
def aKu(l:lRv)(x:den tRv):lRv:=
 cond (dR x) (match bW (aBi x l) 0 l with
  | some r=>r
  | none=>if 16<l.length+1 then (l++[x]).drop 1 else l++[x]) l
theorem bEt{α:Type}{l:List α}(h:0<l.length):cut l (1:Int) (l.length:Int)=l.drop 1:=aZu (k:=1) h
theorem bCj(l:lRv)(x:den tRv):decide (((l++[x]).length:Int)>16)=decide (16<l.length+1):=by
 rw[cFm];simp;omega
theorem cA1{l:lRv}{x:den tRv}(h:l.length<=1073741824):nH l x=some (aKu l x):=by
 unfold nH aKu ixb pj3;rw[aT1 (show l.length<=68719476736 by omega)];simp only[aA,aP,aEl];cases hv:dR x with
 | false=>rfl
 | true=>
  simp only[cE2,zY,zZ];rw[aX (l:=l) (aBi x l) (by omega) (λk y hi hd hw hm hk=>by
   have hy:l[k]? =some y:=by rw[<- aR];exact hi
   simp only[hd,zZ,cT,cE0,hy,aA,bJ1,hw];unfold aBi;cases y.1==x.1
   .rfl
   .cases y.2.1==x.2.1<;>rfl) (by simp)]
  cases bW (aBi x l) 0 l with
  | some r=>rfl
  | none=>
   have e1:cO (1:Int) ((l++[x]).length:Int) ((l++[x]).length:Int)=true:=by
    have :=aD5 (a:=1) (b:=(l++[x]).length) (n:=(l++[x]).length);rw[show ((1:Nat):Int)=1 from rfl]at this;rw[this];simp
   have e2:=bEt (l:=l++[x]) (by simp);simp only[aA,cGg,aF (b:=24) (n:=l.length) (m:=1) (by decide) (by omega),zZ,bCj,e1,e2,aT1 (l:=(l++[x]).drop 1) (by simp;omega)]
   by_cases c:16<l.length+1
   .have c2:(16:Int)<(l.length:Int)+1:=by omega
    simp[c,c2]
   .have c2: ¬ (16:Int)<(l.length:Int)+1:=by omega
    simp[c,c2]
theorem bZk{l:lRv}{x:den tRv}(h:l.length<=1073741824):mZ l x=some (aKu l x):=by
 unfold mZ aKu ixb pj3;rw[aF (b:=24) (n:=([]:lRv).length) (by decide) (by simp;omega)];simp only[zZ,aA,aP,aD3,cFl];cases hv:dR x with
 | false=>rfl
 | true=>
  simp only[cE2,zY,zZ];rw[aX (l:=l) (aBi x l) (by omega) (λk y hi hd hw hm hk=>by
   have hy:l[k]? =some y:=by rw[<- aR];exact hi
   have hk2:decide (k<l.length)=true:=by simpa using hk
   simp only[hd,zZ,cT,cE0,hy,aA,aX8,hw,hk2];unfold aBi;cases y.1==x.1
   .rfl
   .cases y.2.1==x.2.1<;>rfl) (by simp)]
  cases bW (aBi x l) 0 l with
  | some r=>rfl
  | none=>
   have e1:cO (1:Int) ((l++[x]).length:Int) ((l++[x]).length:Int)=true:=by
    have :=aD5 (a:=1) (b:=(l++[x]).length) (n:=(l++[x]).length);rw[show ((1:Nat):Int)=1 from rfl]at this;rw[this];simp
   have e2:=bEt (l:=l++[x]) (by simp);simp only[aA,cGg,aF (b:=24) (n:=l.length) (m:=1) (by decide) (by omega),zZ,bCj,e1,e2]
   by_cases c:16<l.length+1
   .have c2:(16:Int)<(l.length:Int)+1:=by omega
    simp[c,c2]
   .have c2: ¬ (16:Int)<(l.length:Int)+1:=by omega
    simp[c,c2]
def aG5(s:den mR)(a:List Int):List Int:=
 (λb=>cond (s.2.2 != 0) (b++[wr (wr (8 * s.1)+s.2.2)]) b) (cond (s.2.1 != 0) (a++[wr (wr (8 * s.1)+s.2.1)]) a)
theorem aPo(s:den mR)(a:List Int):(aG5 s a).length<=a.length+2:=by
 unfold aG5;cases s.2.1 != 0<;>cases s.2.2 != 0<;>simp
def fC(p:den tPt):List Int:=bQ (λ_ s a=>aG5 s a) 0 (fD p) []
theorem aG0{α:Type}(l:List α):(l.map λ_=>2).sum=2 * l.length:=by
 induction l with
 | nil=>rfl
 | cons x l ih=>simp only[cFg,cGf,ih,cFw];omega
theorem bD9{p:den tPt}(h:tot tPt p<=1073741824):gS p=some (fC p):=by
 have hl:=aC6 p;unfold gS zB fC;rw[aUw (cEv h (by decide))];simp only[aA];rw[kD (λk (a:List Int)=>((k:Int),a)) ((0:Int),[]) [] (fD p) (λ_ s a=>aG5 s a) cFd (λ_=>2) 68719476736 id rfl (by omega) (by rw[aG0];simp;omega) (λk x a=>aPo x a) (λk x a hi hx hd hw hk hb=>by
  simp only[hd,hi,hw,zZ,aA,aF (b:=8) (n:=a.length) (m:=1) (by decide) (by omega)];unfold aG5;cases x.2.1 != 0<;>cases x.2.2 != 0<;>simp[aF (b:=8) (n:=a.length) (m:=1) (by decide) (by omega),aF (b:=8) (n:=a.length+1) (m:=1) (by decide) (by omega)]) (λa=>by simp)]
 rfl
theorem bDv{p:den tPt}(h:tot tPt p<=1073741824):gR p=some (fC p):=by
 have hl:=aC6 p;unfold gR fC ixb;rw[aGm (cEv h (by decide))];simp only[aA];rw[kD (λk (a:List Int)=>((k:Int),a)) ((0:Int),[]) [] (fD p) (λ_ s a=>aG5 s a) cFd (λ_=>2) 68719476736 id rfl (by omega) (by rw[aG0];simp;omega) (λk x a=>aPo x a) (λk x a hi hx hd hw hk hb=>by
  simp only[hd,hx,hw,zZ,aA,cT,cE0,aF (b:=8) (n:=a.length) (m:=1) (by decide) (by omega)];unfold aG5;cases x.2.1 != 0<;>cases x.2.2 != 0<;>simp[aF (b:=8) (n:=a.length) (m:=1) (by decide) (by omega),aF (b:=8) (n:=a.length+1) (m:=1) (by decide) (by omega)]) (λa=>by simp)]
 rfl
def rV(l:List Int)(n:Int):Bool:= !(l.all λx=> !(x==n))
theorem aY8{l:List Int}{n:Int}(h:l.length<=68719476736):tL l n=some (rV l n):=by
 unfold tL rV;rw[aX (l:=l) (λ_ x=>if !(x==n) then none else some true) (by omega) (λk x hi hd hw hm hk=>by
  simp only[hd,hi,hw,zZ,aA];cases x==n<;>rfl) (by simp),lH (λx:Int=> !(x==n))]
 cases l.all (λx=> !(x==n))<;>rfl
theorem aHq{l:List Int}{n:Int}(h:l.length<=68719476736):gB l n=some (rV l n):=by
 unfold gB rV;rw[aX (l:=l) (λ_ x=>if !(x==n) then none else some true) (by omega) (λk x hi hd hw hm hk=>by
  simp only[hd,hi,hw,zZ,aA];cases x==n<;>rfl) (by simp),lH (λx:Int=> !(x==n))]
 cases l.all (λx=> !(x==n))<;>rfl
theorem aIs(p:den tPt):(fC p).length<=2 * tot tPt p:=by
 have h:=aC7 (f:=λ_ s (a:List Int)=>aG5 s a) (m:=cFd) (cost:=λ_=>2) (λk x a=>aPo x a) (fD p) 0 [];have hl:=aC6 p;rw[aG0]at h;unfold fC;simp at h;omega
def oM(p:den tPt)(x:den tRv):Bool:=dR x&&rV (fC p) (wr (wr (8 * x.1)+x.2.1))
theorem bMe{p:den tPt}{x:den tRv}(h:tot tPt p<=1073741824):wM p x=some (oM p x):=by
 have :=aIs p;unfold wM oM pj3;simp only[aP,aEl,aA,bD9 h,aY8 (l:=fC p) (by omega)];cases dR x<;>rfl
theorem aWs{p:den tPt}{x:den tRv}(h:tot tPt p<=1073741824):sD p x=some (oM p x):=by
 have :=aIs p;unfold sD oM pj3;simp only[aP,aD3,aA,bDv h,aHq (l:=fC p) (by omega)];cases dR x<;>rfl
theorem aN0{α R:Type}(m:R->Nat)(B:Nat){g:Nat->α->Option R}:∀{l:List α} {k:Nat},(∀j x r,l[j]? =some x->g (k+j) x=some r->m r<=B)-> ∀r,bW g k l=some r->m r<=B
 | [],_,_,r,h=>by cases h
 | x::xs,k,hg,r,h=>by
  simp only[bW]at h;cases hx:g k x with
  | some r'=>rw[hx]at h;injection h with h;subst h;exact hg 0 x r' rfl hx
  | none=>
   rw[hx]at h;exact aN0 m B (λj y r hy hr=>hg (j+1) y r (by simpa using hy) (by rw[show k+(j+1)=k+1+j by omega];exact hr)) r h
theorem bLn(l:lRv):tot (.sl tRv) l=l.length:=by
 induction l with
 | nil=>rfl
 | cons x l ih=>rw[kT,ih];simp[tot];omega
theorem bSf(l:lRv)(x:den tRv):tot (.sl tRv) (aKu l x)<=l.length+1:=by
 rw[bLn];unfold aKu;cases dR x with
 | false=>simp
 | true=>
  simp only[zZ];cases hs:bW (aBi x l) 0 l with
  | some r=>
   refine aN0 cFd (l.length+1) (g:=aBi x l) (l:=l) (k:=0) (λj y r' hy hr=> ?_) r hs;unfold aBi at hr;cases c1:y.1==x.1 with
   | false=>rw[c1]at hr;cases hr
   | true=>
    cases c2:y.2.1==x.2.1 with
    | false=>rw[c1,c2]at hr;cases hr
    | true=>rw[c1,c2]at hr;injection hr with hr;rw[<- hr];simp
  | none=>
   by_cases c:16<l.length+1
   .simp[c]
   .simp[c]
def aJz(f:den tFl)(x:den tRv):Bool:=inR f.2.2.2.2.2.2.1 0 ((f.2.2.2.2.2.1.length:Int) - 1)&&oM ((f.2.2.2.2.2.1[f.2.2.2.2.2.2.1.toNat]?).getD []) x
def tE(b:List Int):den tRv:=((qE b).1,(qE b).2.1,(qE b).2.2.1)
def iT(f:den tFl)(p:den tPk):den tFl:=
 cond (p.1==3&&(qE p.2.2.2.2.2.2.2.2.2).2.2.2)
  (f.1,f.2.1,f.2.2.1,f.2.2.2.1,f.2.2.2.2.1,f.2.2.2.2.2.1,cond (aJz f (tE p.2.2.2.2.2.2.2.2.2)) (lJ f) f.2.2.2.2.2.2.1,cond (aJz f (tE p.2.2.2.2.2.2.2.2.2)) 0 f.2.2.2.2.2.2.2.1,aKu f.2.2.2.2.2.2.2.2 (tE p.2.2.2.2.2.2.2.2.2)) f
def cC1(f:den tFl):q38:=(f.1,f.2.1,f.2.2.1,f.2.2.2.1,f.2.2.2.2.2.2.1,f.2.2.2.2.2.2.2.1,f.2.2.2.2.2.2.2.2,f.2.2.2.2.1,f.2.2.2.2.2.1)
theorem bFf{f:den tFl}(h:tot tFl f<=1073741824)(hr:inR f.2.2.2.2.2.2.1 0 ((f.2.2.2.2.2.1.length:Int) - 1)=true):∃q,f.2.2.2.2.2.1[f.2.2.2.2.2.2.1.toNat]? =some q/\idx f.2.2.2.2.2.1 f.2.2.2.2.2.2.1=some q/\tot tPt q<=1073741824:=by
 obtain⟨h0,h1⟩:=aZ.1 hr;obtain⟨q,hq⟩:=aA7 h0 h1;have ht:=zK (t:=tPt) hq;have hp:tot (.sl tPt) f.2.2.2.2.2.1<=1073741824:=tT (aQ (aQ (aQ (aQ (aQ h)))));exact⟨q,hq,aJv h0 hq,by omega⟩
theorem bWo{f:den tFl}{p:den tPk}{now:Int}(h:tot tFl f<=1073741824)(hp:tot tPk p<=1073741824)(hb:∀x∈p.2.2.2.2.2.2.2.2.2,0<=x/\x<=255):jB f p now=some (qG (iT f p)):=by
 have hf:SmB 68719476736 tFl f:=(bR h).mono (by decide);have hl:p.2.2.2.2.2.2.2.2.2.length<=68719476736:=cEv (dP (t:=tb) _) (cEv (aQ (aQ (aQ (aQ (aQ (aQ (aQ (aQ (aQ hp))))))))) (by decide));have hv:f.2.2.2.2.2.2.2.2.length<=1073741824:=cEv (dP (t:=tRv) _) (aQ (aQ (aQ (aQ (aQ (aQ (aQ (aQ h))))))));have hn:f.2.2.2.2.2.1.length<=68719476736:=hf.2.2.2.2.2.1.1;unfold jB iT pj9 zz4 zz5 zz6 zz7 zz8 zz9;simp only[aP,aOe hf,aA,cAd hb hl,mN,nN hn,bFp,cA1 hv,bne];cases c1:p.1==3
 .simp only[cFa,zZ,aA,cFh,zY]
 .cases c2:(qE p.2.2.2.2.2.2.2.2.2).2.2.2
  .simp only[cE2,cFa,zZ,zY,aA,cFf]
  .simp only[cE2,zZ,zY,aA,cFf];unfold aJz;cases c3:inR f.2.2.2.2.2.2.1 0 ((f.2.2.2.2.2.1.length:Int) - 1)
   .simp only[zY,aA,cFh];rfl
   .obtain⟨q,hq,hi,ht⟩:=bFf h c3;have ha:=bMe (p:=q) (x:=tE p.2.2.2.2.2.2.2.2.2) ht;have ha:wM q ((qE p.2.2.2.2.2.2.2.2.2).1,(qE p.2.2.2.2.2.2.2.2.2).2.1,(qE p.2.2.2.2.2.2.2.2.2).2.2.1)=some (oM q (tE p.2.2.2.2.2.2.2.2.2)):=ha;simp only[zZ,hi,hq,cFy,aA,ha,cFf];cases oM q (tE p.2.2.2.2.2.2.2.2.2)<;>rfl
theorem bWw{f:den tFl}{p:den tPk}{now:Int}(h:tot tFl f<=1073741824)(hp:tot tPk p<=1073741824)(hb:∀x∈p.2.2.2.2.2.2.2.2.2,0<=x/\x<=255):jF f p now=some (cC1 (iT f p)):=by
 have hf:SmB 68719476736 tFl f:=(bR h).mono (by decide);have hl:p.2.2.2.2.2.2.2.2.2.length<=68719476736:=cEv (dP (t:=tb) _) (cEv (aQ (aQ (aQ (aQ (aQ (aQ (aQ (aQ (aQ hp))))))))) (by decide));have hv:f.2.2.2.2.2.2.2.2.length<=1073741824:=cEv (dP (t:=tRv) _) (aQ (aQ (aQ (aQ (aQ (aQ (aQ (aQ h))))))));have hn:f.2.2.2.2.2.1.length<=68719476736:=hf.2.2.2.2.2.1.1;unfold jF iT pj3 pj9 zz4 zz5 zz6 zz7 zz8 zz9;simp only[aP,aEj hf,aA,cAv hb hl,iY,nN hn,bZk hv,bne];cases c1:p.1==3
 .simp only[cFa,zZ,aA,cFh,zY];rfl
 .cases c2:(qE p.2.2.2.2.2.2.2.2.2).2.2.2
  .simp only[cE2,cFa,zZ,zY,aA,cFf];rfl
  .simp only[cE2,zZ,zY,aA,cFf];unfold aJz;cases c3:inR f.2.2.2.2.2.2.1 0 ((f.2.2.2.2.2.1.length:Int) - 1)
   .simp only[zY,aA,cFh];rfl
   .obtain⟨q,hq,hi,ht⟩:=bFf h c3;have ha:=aWs (p:=q) (x:=tE p.2.2.2.2.2.2.2.2.2) ht;have ha:sD q ((qE p.2.2.2.2.2.2.2.2.2).1,(qE p.2.2.2.2.2.2.2.2.2).2.1,(qE p.2.2.2.2.2.2.2.2.2).2.2.1)=some (oM q (tE p.2.2.2.2.2.2.2.2.2)):=ha;simp only[zZ,hi,hq,cFy,aA,ha,cFf,bK5 hf c3];cases oM q (tE p.2.2.2.2.2.2.2.2.2)<;>rfl
theorem bNl(f:den tFl)(p:den tPk):tot tFl (iT f p)<=tot tFl f+1:=by
 unfold iT;cases (p.1==3&&(qE p.2.2.2.2.2.2.2.2.2).2.2.2)
 .simp
 .have h1:=bSf f.2.2.2.2.2.2.2.2 (tE p.2.2.2.2.2.2.2.2.2);have h2:=bLn f.2.2.2.2.2.2.2.2;simp only[zZ,pC,qU];omega
def jW(h:den bU):Bool:=inR h.1 0 7&&(inR h.2.1 0 6&&(inR h.2.2.1 0 6&&(!(h.2.1==h.2.2.1)&&(inR h.2.2.2.1 0 1000000&&lK h.2.2.2.2))))
theorem aPw(h:den bU):nX h=some (jW h):=by
 unfold nX jW zz4;simp only[mN,aGj,aA,bne];cases inR h.1 0 7<;>cases inR h.2.1 0 6<;>cases inR h.2.2.1 0 6<;>cases h.2.1==h.2.2.1<;>cases inR h.2.2.2.1 0 1000000<;>rfl
theorem aLk(h:den bU):lA h=some (jW h):=by
 unfold lA jW zz4;simp only[iY,aEb,aA,bne];cases inR h.1 0 7<;>cases inR h.2.1 0 6<;>cases inR h.2.2.1 0 6<;>cases h.2.1==h.2.2.1<;>cases inR h.2.2.2.1 0 1000000<;>rfl
theorem aTg(n k:Nat):decide ((n:Int)>(k:Int))= !decide (n<=k):=by rw[cFm];simp
def aF0(l:cV):Bool:=decide (l.length<=8)&&l.all jW
theorem bXk{l:cV}(h:l.length<=68719476736):nE l=some (aF0 l):=by
 unfold nE aF0 pj5;rw[aX (l:=l) (λ_ x=>if jW x then none else some false) (by omega) (λk x hi hd hw hm hk=>by
  simp only[hd,hi,hw,zZ,aA,aP,aPw];cases jW x<;>rfl) (by simp),lH jW]
 have e:=aTg l.length 8;rw[show ((8:Nat):Int)=8 from rfl]at e;rw[e];cases decide (l.length<=8)<;>cases l.all jW<;>rfl
def aBt(p:den tPp):Bool:=inR p.1 1 4&&(inR p.2.1 0 1000000&&(lK p.2.2.1&&aF0 p.2.2.2))
theorem cAn{p:den tSg}(h:p.2.2.length<=68719476736):uO p=some (inR p.1 0 1000000&&(lK p.2.1&&aF0 p.2.2)):=by
 unfold uO aF0 pj5;rw[aX (l:=p.2.2) (λ_ x=>if jW x then none else some false) (by omega) (λk x hi hd hw hm hk=>by
  simp only[hd,hi,hw,zZ,aA,aP,aLk];cases jW x<;>rfl) (by simp),lH jW]
 have e:=aTg p.2.2.length 8;rw[show ((8:Nat):Int)=8 from rfl]at e;rw[e,iY,aEb];cases inR p.1 0 1000000<;>cases lK p.2.1<;>cases decide (p.2.2.length<=8)<;>cases p.2.2.all jW<;>rfl
def aHj(p:den tPt):Bool:=decide (p.length<=3)&&p.all aBt
theorem bYw{p:den tPt}(h:SmB 68719476736 tPt p):nA p=some (aHj p):=by
 unfold nA aHj;rw[aX (l:=p) (λ_ x=>if aBt x then none else some false) (cEv h.1 (by decide)) (λk x hi hd hw hm hk=>by
  have hx:=(h.2 x hm).2.2.2.1;simp only[hd,hi,hw,zZ,aA,aP,mN,aGj,bXk hx];unfold aBt;cases inR x.1 1 4<;>cases inR x.2.1 0 1000000<;>cases lK x.2.2.1<;>cases aF0 x.2.2.2<;>rfl) (by simp),lH aBt]
 have e:=aTg p.length 3;rw[show ((3:Nat):Int)=3 from rfl]at e;rw[e];cases decide (p.length<=3)<;>cases p.all aBt<;>rfl
theorem cCa{p:den tPt}(h:SmB 68719476736 tPt p):nF p=some (aHj p):=by
 unfold nF aHj pj3;rw[aX (l:=p) (λ_ x=>if aBt x then none else some false) (cEv h.1 (by decide)) (λk x hi hd hw hm hk=>by
  have hx:=(h.2 x hm).2.2.2.1;have hs:=cAn (p:=(x.2.1,x.2.2.1,x.2.2.2)) hx;simp only[hd,hi,hw,zZ,aA,aP,iY];simp only[aP]at hs;simp only[hs,aA];unfold aBt;cases inR x.1 1 4<;>cases inR x.2.1 0 1000000<;>cases lK x.2.2.1<;>cases aF0 x.2.2.2<;>rfl) (by simp),lH aBt]
 have e:=aTg p.length 3;rw[show ((3:Nat):Int)=3 from rfl]at e;rw[e];cases decide (p.length<=3)<;>cases p.all aBt<;>rfl
def aKf(x:den tPp):Bool:= !((x.2.2.2.length:Int)==0)
def dC(p:den tPk):Bool:=inR p.1 1 3&&(aHj p.2.2.2.1&&(cH p&&(lK p.2.2.2.2.2.2.1&&(p.2.2.2.1.all aKf&&(inR p.2.1 0 7&&(inR p.2.2.1 0 7&&(inR p.2.2.2.2.2.2.2.1 0 100000&&(inR p.2.2.2.2.2.2.2.2.1 0 100000&&decide ((p.2.2.2.2.2.2.2.2.2.length:Int)<=40)))))))))
theorem cA6{p:den tPk}(h:aHj p.2.2.2.1=true):decide (cD p<0)= !cH p:=by
 cases c:cH p with
 | false=>rw[aAg c];rfl
 | true=>
  obtain⟨i,j,x,y,h1,h2,h3,h4,h5⟩:=aDj c;rw[h5];unfold aHj at h;have ha:=(cEw _ _▸h:_/\_).2;have hx:=cFn.1 ha x (cE9 h3);unfold aBt aF0 at hx;simp only[cEw]at hx;have hy:=cFn.1 hx.2.2.2.2 y (cE9 h4);unfold jW at hy;simp only[cEw,aZ]at hy;have :=hy.1.1;simp;omega
theorem bP2{p:den tPk}(h:SmB 68719476736 tPk p):qB p=some (dC p):=by
 unfold qB dC aM zz6 zz7 zz8 zz9;rw[aX (l:=p.2.2.2.1) (λ_ x=>if aKf x then none else some false) (cEv h.2.2.2.1.1 (by decide)) (λk x hi hd hw hm hk=>by
  simp only[hd,hi,hw,zZ,aA];unfold aKf;cases (x.2.2.2.length:Int)==0<;>rfl) (by simp),lH aKf]
 simp only[mN,aP,aGk h,bYw h.2.2.2.1,aGj,aA];cases inR p.1 1 3
 .rfl
 .cases he:aHj p.2.2.2.1
  .rfl
  .rw[cA6 he];cases hz:(p.2.2.2.1.length:Int)==0
   .cases cH p<;>simp only[cE2,cFa,zZ,zY,aA,cFh,cFf];cases lK p.2.2.2.2.2.2.1<;>simp only[cE2,cFa,zZ,zY,aA,cFh,cFf];cases p.2.2.2.1.all aKf<;>cases inR p.2.1 0 7<;>cases inR p.2.2.1 0 7<;>cases inR p.2.2.2.2.2.2.2.1 0 100000<;>cases inR p.2.2.2.2.2.2.2.2.1 0 100000<;>rfl
   .have hh:cH p=false:=by
     have hl:(p.2.2.2.1.length:Int)=0:=by simpa using hz
     unfold cH;have :inR p.2.2.2.2.1 0 ((p.2.2.2.1.length:Int) - 1)=false:=by rw[bFw];omega
     rw[this];rfl
    rw[hh];rfl
theorem bA6{p:den tPk}(h:SmB 68719476736 tPk p):jX p=some (dC p):=by
 have l1:=h.2.2.2.1.1;unfold jX dC zz4 zz5 zz6 zz7 zz8 zz9;rw[aX (l:=p.2.2.2.1) (λ_ x=>if aKf x then none else some false) (cEv h.2.2.2.1.1 (by decide)) (λk x hi hd hw hm hk=>by
  simp only[hd,hi,hw,zZ,aA];unfold aKf;cases (x.2.2.2.length:Int)==0<;>rfl) (by simp),lH aKf]
 simp only[iY,nN l1,cCa h.2.2.2.1,aEb,aA];unfold cH;cases inR p.1 1 3
 .rfl
 .cases he:aHj p.2.2.2.1
  .rfl
  .cases c1:inR p.2.2.2.2.1 0 ((p.2.2.2.1.length:Int) - 1)
   .rfl
   .rw[aZ]at c1;obtain⟨x,hx⟩:=aA7 c1.1 c1.2;have l2:=(h.2.2.2.1.2 _ (cE9 hx)).2.2.2.1;rw[aJv c1.1 hx,hx];simp only[cE2,zY,aA,cFy,nN l2,cFf];cases lK p.2.2.2.2.2.2.1<;>cases inR p.2.2.2.2.2.1 0 ((x.2.2.2.length:Int) - 1)<;>cases p.2.2.2.1.all aKf<;>cases inR p.2.1 0 7<;>cases inR p.2.2.1 0 7<;>cases inR p.2.2.2.2.2.2.2.1 0 100000<;>cases inR p.2.2.2.2.2.2.2.2.1 0 100000<;>rfl
def aBp(a b:Int)(f:den tFl):Bool:=(f.1==a&&f.2.1==b)||(f.1==b&&f.2.1==a)
def vV(e:den iJ):den tPk:=e.2.2.2.2.2
noncomputable def harm(w:den tNw)(e:den iJ):Bool:=
 cond (!(e.1==7)||(!dC (vV e)||(vV e).1==3)) true (cond (w.2.2.2.2.2.1.all λx=> !aCe x.2.2 (vV e)) (w.2.2.2.2.2.2.1.all λf=> !aBp (vV e).2.1 (vV e).2.2.1 f) true)
theorem bLl{w:den tNw}{a b:Int}(hw:SmB 68719476736 tNw w):pI w a b=some (!(w.2.2.2.2.2.2.1.all λf=> !aBp a b f)):=by
 unfold pI zz6;rw[aX (l:=w.2.2.2.2.2.2.1) (λ_ f=>if !aBp a b f then none else some true) (cEv hw.2.2.2.2.2.2.1.1 (by decide)) (λk x hi hd hw hm hk=>by
  simp only[hd,hi,hw,zZ,aA];unfold aBp;cases x.1==a<;>cases x.2.1==b<;>cases x.1==b<;>cases x.2.1==a<;>rfl) (by simp),lH (λf:den tFl=> !aBp a b f)]
 cases w.2.2.2.2.2.2.1.all (λf=> !aBp a b f)<;>rfl
theorem cBq{w:den tNw}{e:den iJ}(hw:SmB 68719476736 tNw w)(he:SmB 68719476736 iJ e):qV w e=some (harm w e):=by
 have hp:SmB 68719476736 tPk (vV e):=he.2.2.2.2.2;unfold qV harm aM dS zz5 zz6 zz7;rw[aX (l:=w.2.2.2.2.2.1) (λ_ x=>if !aCe x.2.2 (vV e) then none else some true) (cEv hw.2.2.2.2.2.1.1 (by decide)) (λk x hi hd hw2 hm hk=>by
  have hs:mU x.2.2 e.2.2.2.2.2=some (aCe x.2.2 (vV e)):=bV8 (hw.2.2.2.2.2.1.2 x hm).2.2 hp;simp only[hd,hi,hw2,zZ,aA,aP,hs];cases aCe x.2.2 (vV e)<;>rfl) (by simp),lH (λx:den tFy=> !aCe x.2.2 (vV e))]
 have hv:jX e.2.2.2.2.2=some (dC (vV e)):=bA6 hp;have hf:pI w e.2.2.2.2.2.2.1 e.2.2.2.2.2.2.2.1=some (!(w.2.2.2.2.2.2.1.all λf=> !aBp (vV e).2.1 (vV e).2.2.1 f)):=bLl hw;simp only[aP,hv,hf,aA,bne];show @Option.bind Bool Bool (cond (!(e.1==7)) (some true) (cond (!dC (vV e)) (some true) (cond ((vV e).1==3) (some true) _))) _=_;cases e.1==7
 .rfl
 .cases dC (vV e)
  .rfl
  .cases (vV e).1==3
   .cases w.2.2.2.2.2.1.all (λx=> !aCe x.2.2 (vV e))<;>cases w.2.2.2.2.2.2.1.all (λf=> !aBp (vV e).2.1 (vV e).2.2.1 f)<;>rfl
   .rfl
abbrev vL(l:lRs)(now:Int):lRs:=l.filter λx=>decide (now<=x.2.2.2.2)
theorem bS6{l:lRs}{now:Int}(h:l.length<=1073741824):gQ l now=some (vL l now):=by
 unfold gQ pj5 zz4;rw[(aMu (l:=l) (out:=λa=>a) (λ(a:lRs) x=>if decide (now<=x.2.2.2.2) then a++[x] else a) (λk a=>a.length<=k) (by omega) (by simp) (λk x a hi hd hw hx hk hI=>by
  simp only[hd,hi,hw,zZ,aA]
  by_cases hp:now<=x.2.2.2.2
  .simp[hp,aF (b:=40) (n:=a.length) (m:=1) (by decide) (by omega)];omega
  .simp[hp];omega) (λa=>by simp)).1]
 simp only[aDr,cFl,aA]
theorem bR9{l:lRs}{now:Int}(h:l.length<=1073741824):gN l now=some (vL l now):=by
 unfold gN pj5 zz4;rw[(aMu (l:=l) (out:=λa=>a) (λ(a:lRs) x=>if decide (now<=x.2.2.2.2) then a++[x] else a) (λk a=>a.length<=k) (by omega) (by simp) (λk x a hi hd hw hx hk hI=>by
  simp only[hd,hi,hw,zZ,aA]
  by_cases hp:now<=x.2.2.2.2
  .simp[hp,aF (b:=40) (n:=a.length) (m:=1) (by decide) (by omega)];omega
  .simp[hp];omega) (λa=>by simp)).1]
 simp only[aDr,cFl,aA]
def atR(x:den tRs)(s d:Int):Bool:=x.2.1==s&&x.2.2.1==d
theorem bQz(x:den tRs)(s d:Int):eR x s d=some (atR x s d):=by
 unfold eR atR;cases x.2.1==s<;>simp
theorem cBj(x:den tRs)(s d now:Int):zM x s d now=some (atR x s d&&decide (now<=x.2.2.2.2)):=by
 unfold zM atR zz4;cases x.2.1==s<;>cases x.2.2.1==d<;>simp
def rate(l:lRs)(s d now:Int):Int:=l.foldl (λa x=>if atR x s d&&decide (now<=x.2.2.2.2) then wr (a+x.2.2.2.1) else a) 0
theorem bO0{l:lRs}{s d now:Int}(h:l.length<=1073741824):kI l s d now=some (rate l s d now):=by
 unfold kI pj5 zz4;rw[(aQ6 (l:=l) (out:=λa=>a) (λ(a:Int) x=>if atR x s d&&decide (now<=x.2.2.2.2) then wr (a+x.2.2.2.1) else a) (λ_ _=>True) (by omega) trivial (λk x a hi hd hw hx hk hI=>by
  refine⟨?_,trivial⟩;simp only[hd,hi,hw,zZ,aA];rw[show ((x.1,x.2.1,x.2.2.1,x.2.2.2.1,x.2.2.2.2):den tRs)=x from rfl,bQz];cases atR x s d<;>cases decide (now<=x.2.2.2.2)<;>rfl) (λa=>by simp)).1]
 rfl
theorem bOj{l:lRs}{s d now:Int}(h:l.length<=1073741824):kG l s d now=some (rate l s d now):=by
 unfold kG pj5;rw[(aQ6 (l:=l) (out:=λa=>a) (λ(a:Int) x=>if atR x s d&&decide (now<=x.2.2.2.2) then wr (a+x.2.2.2.1) else a) (λ_ _=>True) (by omega) trivial (λk x a hi hd hw hx hk hI=>by
  refine⟨?_,trivial⟩;simp only[hd,hi,hw,zZ,aA];rw[show ((x.1,x.2.1,x.2.2.1,x.2.2.2.1,x.2.2.2.2):den tRs)=x from rfl,cBj];cases atR x s d<;>cases decide (now<=x.2.2.2.2)<;>rfl) (λa=>by simp)).1]
 rfl
def free(l:lRs)(cap s d now:Int):Int:=if wr (cap - rate l s d now)>0 then wr (cap - rate l s d now) else 0
theorem cB0{l:lRs}{cap s d now:Int}(h:l.length<=1073741824):wA l cap s d now=some (free l cap s d now):=by
 unfold wA;simp only[bO0 h,aA,bJ1];rfl
theorem bZp{l:lRs}{cap s d now:Int}(h:l.length<=1073741824):wS l cap s d now=some (free l cap s d now):=by
 unfold wS;simp only[bOj h,aA,aX8];rfl
def aBg(l:lRs)(id s d now:Int):Int:=
 match bW (λ_ (x:den tRs)=>if x.1==id&&(atR x s d&&decide (now<=x.2.2.2.2)) then some x.2.2.2.1 else none) 0 l with
 | some r=>r
 | none=>0
theorem bNi{l:lRs}{id s d now:Int}(h:l.length<=1073741824):kO l id s d now=some (aBg l id s d now):=by
 unfold kO pj5 zz4;rw[aX (l:=l) (λ_ (x:den tRs)=>if x.1==id&&(atR x s d&&decide (now<=x.2.2.2.2)) then some x.2.2.2.1 else none) (by omega) (λk x hi hd hw hx hk=>by
  simp only[hd,hi,hw,zZ,aA];rw[show ((x.1,x.2.1,x.2.2.1,x.2.2.2.1,x.2.2.2.2):den tRs)=x from rfl,bQz];cases x.1==id<;>cases atR x s d<;>cases decide (now<=x.2.2.2.2)<;>rfl) (by simp)]
 unfold aBg;cases bW (λ_ (x:den tRs)=>if x.1==id&&(atR x s d&&decide (now<=x.2.2.2.2)) then some x.2.2.2.1 else none) 0 l<;>rfl
theorem bPc{l:lRs}{id s d now:Int}(h:l.length<=1073741824):kN l id s d now=some (aBg l id s d now):=by
 unfold kN pj5;rw[aX (l:=l) (λ_ (x:den tRs)=>if x.1==id&&(atR x s d&&decide (now<=x.2.2.2.2)) then some x.2.2.2.1 else none) (by omega) (λk x hi hd hw hx hk=>by
  simp only[hd,hi,hw,zZ,aA];rw[show ((x.1,x.2.1,x.2.2.1,x.2.2.2.1,x.2.2.2.2):den tRs)=x from rfl,cBj];cases x.1==id<;>cases atR x s d<;>cases decide (now<=x.2.2.2.2)<;>rfl) (by simp)]
 unfold aBg;cases bW (λ_ (x:den tRs)=>if x.1==id&&(atR x s d&&decide (now<=x.2.2.2.2)) then some x.2.2.2.1 else none) 0 l<;>rfl
def wE(x:den tRs):Bool:=inR x.1 1 100000&&(inR x.2.2.2.1 1 20&&dR (x.2.1,x.2.2.1,x.2.2.2.2))
theorem bRh(x:den tRs):jC x=some (wE x):=by
 unfold jC wE zz4;simp only[mN,aEl,aA];cases inR x.1 1 100000<;>cases inR x.2.2.2.1 1 20<;>cases dR (x.2.1,x.2.2.1,x.2.2.2.2)<;>rfl
theorem bRc(x:den tRs):jN x=some (wE x):=by
 unfold jN wE zz4;simp only[iY,aD3,aA];cases inR x.1 1 100000<;>cases inR x.2.2.2.1 1 20<;>cases dR (x.2.1,x.2.2.1,x.2.2.2.2)<;>rfl
def kB(x y:den tRs):Bool:=y.1==x.1&&atR y x.2.1 x.2.2.1
theorem bPa{l:lRs}{x:den tRs}(h:l.length<=1073741824):sW l x=some (l.filter λy=> !kB x y):=by
 unfold sW pj5;rw[(aMu (l:=l) (out:=λa=>a) (λ(a:lRs) y=>if !kB x y then a++[y] else a) (λk a=>a.length<=k) (by omega) (by simp) (λk y a hi hd hw hx hk hI=>by
  simp only[hd,hi,hw,zZ,aA];have hap:=aF (b:=40) (n:=a.length) (m:=1) (by decide) (by omega);unfold kB atR;simp only[bne];cases h1:y.1==x.1<;>cases h2:y.2.1==x.2.1<;>cases h3:y.2.2.1==x.2.2.1<;>simp[hap]<;>omega) (λa=>by simp)).1]
 simp only[aDr,cFl,aA]
def okR(l:lRs)(cap now:Int)(k:Nat)(x:den tRs):Bool:=wE x&&(!decide (rate l x.2.1 x.2.2.1 now>cap)&& !(l.take k).any (kB x))
def aCw(l:lRs)(cap now:Int):Bool:=
 decide (l.length<=40)&&(bW (λk x=>if okR l cap now k x then none else some ()) 0 l).isNone
theorem aF2{α R S:Type}(p:Nat->α->Bool)(r:R)(s:S):∀(l:List α) (k:Nat),(bW (λk x=>if p k x then none else some r) k l).isNone=(bW (λk x=>if p k x then none else some s) k l).isNone/\ ∀q,bW (λk x=>if p k x then none else some r) k l=some q->q=r
 | [],_=>⟨rfl,λq h=>by cases h⟩
 | x::xs,k=>by
  simp only[bW];cases p k x with
  | true=>simpa using aF2 p r s xs (k+1)
  | false=>simp
theorem bGu{α:Type}(p:Nat->α->Bool)(l:List α):(match bW (λk x=>if p k x then none else some false) 0 l with
  | some r=>some r
  | none=>some true)=some (bW (λk x=>if p k x then none else some ()) 0 l).isNone:=by
 obtain⟨h1,h2⟩:=aF2 p false () l 0;rw[<- h1];cases h:bW (λk x=>if p k x then none else some false) 0 l with
 | none=>rfl
 | some q=>rw[h2 q h];rfl
theorem bNf{l:lRs}{cap now:Int}(h:l.length<=1073741824):gZ l cap now=some (aCw l cap now):=by
 unfold gZ aCw pj5
 by_cases hl:l.length<=40
 .rw[zW (by omega),zY,zX hl,cFf];rw[aX (l:=l) (λk x=>if okR l cap now k x then none else some false) (by omega) (λk x hi hd hw hx hk=>by
   have hslo:cO (0:Int) (k:Int) (l.length:Int)=true:=by simp[cO];omega
   have hlen:(l.take k).length<=1073741824:=by simp;omega
   simp only[hd,hi,hw,zZ,aA,hslo,jU];rw[show ((x.1,x.2.1,x.2.2.1,x.2.2.2.1,x.2.2.2.2):den tRs)=x from rfl,bRh,bO0 h];unfold okR;cases hv:wE x with
   | false=>rfl
   | true=>
    cases hr:decide (rate l x.2.1 x.2.2.1 now>cap) with
    | true=>simp[hr]
    | false=>
     simp only[aA,cE2,zY,hr,cFa,cFf];rw[aX (l:=l.take k) (R:=Int⊕(Unit⊕Bool)) (λ_ y=>if kB x y then some (cEt (cEt false)) else none) (by omega) (λj y hi2 hd2 hw2 hx2 hk2=>by
      simp only[hd2,hi2,hw2,zZ,aA];rw[show ((y.1,y.2.1,y.2.2.1,y.2.2.2.1,y.2.2.2.2):den tRs)=y from rfl,bQz];unfold kB;cases y.1==x.1<;>cases atR y x.2.1 x.2.2.1<;>rfl) (by simp)]
     have key:∀(m:lRs) (j:Nat),bW (λ_ y=>if kB x y then some (cEt (cEt false):Int⊕(Unit⊕Bool)) else none) j m=if m.any (kB x) then some (cEt (cEt false)) else none:=by
      intro m
      induction m with
      | nil=>intro j;rfl
      | cons y m ih=>
       intro j;simp only[bW,List.any_cons];rcases cHy (kB x y) with hs | hs
       .simp[hs]
       .simp only[hs,ih,cE1,zU];rfl
     rw[key];cases (l.take k).any (kB x)<;>simp) (by simp)]
  rw[<- bGu];cases bW (λk x=>if okR l cap now k x then none else some false) 0 l<;>rfl
 .rw[zX (by omega),zZ,zW hl];rfl
def iW(id s d:Int)(x:den tUs):Bool:=x.1==id&&(x.2.1==s&&x.2.2.1==d)
def place(l:lUs)(id s d:Int):Int:=
 match bW (λk x=>if iW id s d x then some (k:Int) else none) 0 l with
 | some i=>i
 | none=> -1
theorem aLp(l:lUs)(id s d:Int):place l id s d= -1\/ ∃(j:Nat) (x:den tUs),place l id s d=(j:Int)/\l[j]? =some x/\j<l.length:=by
 unfold place;cases h:bW (λk x=>if iW id s d x then some (k:Int) else none) 0 l with
 | none=>exact .inl rfl
 | some i=>
  obtain⟨j,x,h1,h2,h3⟩:=aKo h;exact .inr ⟨j,x,by simpa using h2,h1,(cEz.1 h1).1⟩
theorem aTw{g:den tSc}{id s d:Int}(h:g.2.2.length<=1073741824):pW g id s d=some (place g.2.2 id s d):=by
 unfold pW;rw[aX (l:=g.2.2) (λk x=>if iW id s d x then some (k:Int) else none) (by omega) (λk x hi hd hw hx hk=>by
  simp only[hd,hi,hw,zZ,aA];unfold iW;cases x.1==id<;>cases x.2.1==s<;>cases x.2.2.1==d<;>rfl) (by simp)]
 unfold place;cases bW (λk x=>if iW id s d x then some (k:Int) else none) 0 g.2.2<;>rfl
theorem bFs{l:lUs}{id s d:Int}(h:l.length<=1073741824):rO l id s d=some (place l id s d):=by
 unfold rO;rw[aX (l:=l) (λk x=>if iW id s d x then some (k:Int) else none) (by omega) (λk x hi hd hw hx hk=>by
  simp only[hd,hi,hw,zZ,aA];unfold iW;cases x.1==id<;>cases x.2.1==s<;>cases x.2.2.1==d<;>rfl) (by simp)]
 unfold place;cases bW (λk x=>if iW id s d x then some (k:Int) else none) 0 l<;>rfl
def oO(g:den tSc)(id s d now:Int):Int:=if id==0 then free g.2.1 g.1 s d now else aBg g.2.1 id s d now
theorem bFk{g:den tSc}{id s d now:Int}(h:g.2.1.length<=1073741824):xN g id s d now=some (oO g id s d now):=by
 unfold xN oO;rw[cB0 h,bNi h];cases id==0<;>rfl
def okU(g:den tSc)(now:Int)(k:Nat)(x:den tUs):Bool:=place g.2.2 x.1 x.2.1 x.2.2.1==(k:Int)&&inR x.2.2.2 1 (oO g x.1 x.2.1 x.2.2.1 now)
def aE8(g:den tSc)(now:Int):Bool:=inR g.1 1 20&&(aCw g.2.1 g.1 now&&(bW (λk x=>if okU g now k x then none else some ()) 0 g.2.2).isNone)
theorem bQm{g:den tSc}{now:Int}(h1:g.2.1.length<=1073741824)(h2:g.2.2.length<=1073741824):lU g now=some (aE8 g now):=by
 unfold lU aE8 pj3;rw[aX (l:=g.2.2) (λk x=>if okU g now k x then none else some false) (by omega) (λk x hi hd hw hx hk=>by
  simp only[hd,hi,hw,zZ,aA];rw[show ((g.1,g.2.1,g.2.2):den tSc)=g from rfl,aTw h2,bFk h1];unfold okU;simp only[aA,mN,bne];cases place g.2.2 x.1 x.2.1 x.2.2.1==(k:Int)<;>cases inR x.2.2.2 1 (oO g x.1 x.2.1 x.2.2.1 now)<;>rfl) (by simp)]
 rw[<- aF2 (okU g now) false () g.2.2 0 |>.1];have h3:=(aF2 (okU g now) false () g.2.2 0).2;simp only[mN,bNf h1,aA];cases inR g.1 1 20<;>cases aCw g.2.1 g.1 now<;>(cases hsc:bW (λk x=>if okU g now k x then none else some false) 0 g.2.2 with
  | none=>rfl
  | some q=>rw[h3 q hsc];rfl)
theorem oI{n:Nat}(h:n<=68719476736):wr ((n:Int) - 1)=(n:Int) - 1:=wri (by omega) (by omega)
def dF(t:den tTo)(r:Int):Bool:=inR r 0 ((t.1.length:Int) - 1)
theorem aNo{t:den tTo}{r:Int}(h:t.1.length<=68719476736):sQ t r=some (dF t r):=by
 unfold sQ dF;rw[oI h,mN];rfl
theorem aFi{t:den tTo}{r:Int}(h:t.1.length<=68719476736):eG t r=some (dF t r):=by
 unfold eG dF;rw[oI h,iY];rfl
theorem cDi(n:Int):wU n=some (inR n 1 2147483646):=by unfold wU;rw[mN];rfl
theorem cCr(n:Int):xF n=some (inR n 1 2147483646):=by unfold xF;rw[iY];rfl
def dJ(l:den tLk)(r d:Int):Bool:=(l.1==r&&l.2.1==d)||(l.2.2.1==r&&l.2.2.2.1==d)
theorem bE1(l:den tLk)(r d:Int):gG l r d=some (dJ l r d):=by
 unfold gG dJ;cases l.1==r<;>cases l.2.1==d<;>cases l.2.2.1==r<;>cases l.2.2.2.1==d<;>rfl
theorem bGb(l:den tLk)(r d:Int):vB l r d=some (dJ l r d):=by
 unfold vB dJ;cases l.1==r<;>cases l.2.1==d<;>cases l.2.2.1==r<;>cases l.2.2.2.1==d<;>rfl
def aT0(k:Int)(x y:den tAS):Bool:=cond (k==1) (x.2.1&&y.2.1) (cond (k==2) (x.1==y.1&& !y.2.1) (cond (k==3) (!x.2.1&& !y.2.1) false))
def aAd(t:den tTo)(l:den tLk):Bool:=
 dF t l.1&&(dF t l.2.2.1&&(!decide (l.1>=l.2.2.1)&&(inR l.2.1 1 6&&(inR l.2.2.2.1 1 6&&aT0 l.2.2.2.2 ((t.1[l.1.toNat]?).getD (0,false,0)) ((t.1[l.2.2.1.toNat]?).getD (0,false,0))))))
theorem aGd{t:den tTo}{r:Int}(h:dF t r=true):∃x,t.1[r.toNat]? =some x/\idx t.1 r=some x:=by
 obtain⟨h0,h1⟩:=aZ.1 h;obtain⟨x,hx⟩:=aA7 h0 h1;exact⟨x,hx,aJv h0 hx⟩
theorem bWs{t:den tTo}{l:den tLk}(h:t.1.length<=68719476736):aA5 t l=some (aAd t l):=by
 unfold aA5 aAd pj2 pj3 zz4;simp only[aP,aNo h,mN,aA];cases c1:dF t l.1
 .rfl
 .cases c2:dF t l.2.2.1
  .rfl
  .obtain⟨x,hx,ix⟩:=aGd c1;obtain⟨y,hy,iy⟩:=aGd c2;rw[ix,iy,hx,hy];simp only[aW,bN,bF,bE,bG,aA,cFy,cE2,zY,cFf];unfold aT0;cases decide (l.1>=l.2.2.1)
   .cases inR l.2.1 1 6
    .rfl
    .cases inR l.2.2.2.1 1 6
     .rfl
     .cases l.2.2.2.2==1
      .cases l.2.2.2.2==2
       .cases l.2.2.2.2==3
        .rfl
        .cases x.2.1<;>rfl
       .cases x.1==y.1<;>rfl
      .cases x.2.1<;>rfl
   .rfl
theorem bDz{t:den tTo}{l:den tLk}(h:t.1.length<=68719476736):rD t l=some (aAd t l):=by
 unfold rD aAd pj2 zz4;simp only[aP,aFi h,iY,aA];cases c1:dF t l.1
 .rfl
 .cases c2:dF t l.2.2.1
  .rfl
  .obtain⟨x,hx,ix⟩:=aGd c1;obtain⟨y,hy,iy⟩:=aGd c2;rw[ix,iy,hx,hy];simp only[aA,cFy,cE2,zY,cFf];unfold aT0;cases decide (l.1>=l.2.2.1)
   .cases inR l.2.1 1 6
    .rfl
    .cases inR l.2.2.2.1 1 6
     .rfl
     .cases l.2.2.2.2==1
      .cases l.2.2.2.2==2
       .cases l.2.2.2.2==3
        .rfl
        .cases x.2.1<;>rfl
       .cases x.1==y.1<;>rfl
      .cases x.2.1<;>rfl
   .rfl
def asP(t:den tTo)(k:Nat)(x:den tAS):Bool:=inR x.1 0 2&&(inR x.2.2 1 2147483646&&(t.1.take k).all λy=> !(x.2.2==y.2.2))
def lkP(t:den tTo)(k:Nat)(x:den tLk):Bool:=aAd t x&&(t.2.take k).all λy=> !(dJ y x.1 x.2.1||dJ y x.2.2.1 x.2.2.2.1)
def aCq(t:den tTo):Bool:=inR (t.1.length:Int) 1 8&&((t.1.zipIdx 0).all (λz=>asP t z.2 z.1)&&(t.2.zipIdx 0).all λz=>lkP t z.2 z.1)
theorem yK{k n:Nat}(h:k<n):cO (0:Int) (k:Int) (n:Int)=true:=by
 have :=aD5 (a:=0) (b:=k) (n:=n);rw[show ((0:Nat):Int)=0 from rfl]at this;rw[this];simp;omega
theorem bCz{α:Type}{l:List α}{k j:Nat}{x:α}(h:idx (l.take k) (j:Int)=some x):idx l (j:Int)=some x:=by
 rw[aR]at h ⊢;exact (aPr h).1
theorem xM{α:Type}{l:List α}{k:Nat}(h:k<l.length):(l.take k).length=k:=by simp;omega
theorem bZm{t:den tTo}(h:SmB 68719476736 tTo t):nD t=some (aCq t):=by
 have l1:=h.1.1;have l2:=h.2.1;unfold nD aCq pj2 pj5;rw[aX (l:=t.1) (λk x=>if asP t k x then none else some false) (cEv l1 (by decide)) (λk x hi hd hw hm hk=>by
  simp only[hd,hi,zZ,aA,mN,cDi,yK hk,jU,hw];rw[aX (l:=t.1.take k) (λ_ y=>if !(x.2.2==y.2.2) then none else some (cEt (cEt false))) (by rw[xM hk];omega) (λj y hi hd hw hm hk=>by
   simp only[hd,hi,hw,zZ,aA];cases x.2.2==y.2.2<;>rfl) (by simp),lH (λy:den tAS=> !(x.2.2==y.2.2))]
  unfold asP;cases inR x.1 0 2<;>cases inR x.2.2 1 2147483646<;>cases (t.1.take k).all (λy=> !(x.2.2==y.2.2))<;>rfl) (by simp),aDh (asP t)]
 rw[aX (l:=t.2) (λk x=>if lkP t k x then none else some false) (cEv l2 (by decide)) (λk x hi hd hw hm hk=>by
  simp only[hd,hi,zZ,aA,aP,bWs l1,yK hk,jU,hw];rw[aX (l:=t.2.take k) (λ_ y=>if !(dJ y x.1 x.2.1||dJ y x.2.2.1 x.2.2.2.1) then none else some (cEt (cEt false))) (by rw[xM hk];omega) (λj y hi hd hw hm hk=>by
   simp only[hd,hi,hw,zZ,aA,aP,bE1];cases dJ y x.1 x.2.1<;>cases dJ y x.2.2.1 x.2.2.2.1<;>rfl) (by simp),lH (λy:den tLk=> !(dJ y x.1 x.2.1||dJ y x.2.2.1 x.2.2.2.1))]
  unfold lkP;cases aAd t x<;>cases (t.2.take k).all (λy=> !(dJ y x.1 x.2.1||dJ y x.2.2.1 x.2.2.2.1))<;>rfl) (by simp),aDh (lkP t)]
 rw[mN,aA];cases inR (t.1.length:Int) 1 8<;>cases (t.1.zipIdx 0).all (λz=>asP t z.2 z.1)<;>cases (t.2.zipIdx 0).all (λz=>lkP t z.2 z.1)<;>rfl
theorem bRr(a b:Int):(a==b)=(b==a):=by rw[cFm];simp;exact eq_comm
theorem cBr{t:den tTo}(h:SmB 68719476736 tTo t):nC t=some (aCq t):=by
 have l1:=h.1.1;have l2:=h.2.1;unfold nC aCq pj2 pj5;rw[aX (l:=t.1) (λk x=>if asP t k x then none else some false) (cEv l1 (by decide)) (λk x hi hd hw hm hk=>by
  simp only[hd,hi,zZ,aA,iY,cCr,hw];rw[aX (l:=t.1.take k) (λ_ y=>if !(x.2.2==y.2.2) then none else some (cEt (cEt false))) (by rw[xM hk];omega) (λj y hi2 hd hw hm hk2=>by
   rw[xM hk]at hd;simp only[hd,bCz hi2,hi,hw,zZ,aA,bRr y.2.2 x.2.2];cases x.2.2==y.2.2<;>rfl) (by rw[xM hk];simp),lH (λy:den tAS=> !(x.2.2==y.2.2))]
  unfold asP;cases inR x.1 0 2<;>cases inR x.2.2 1 2147483646<;>cases (t.1.take k).all (λy=> !(x.2.2==y.2.2))<;>rfl) (by simp),aDh (asP t)]
 rw[aX (l:=t.2) (λk x=>if lkP t k x then none else some false) (cEv l2 (by decide)) (λk x hi hd hw hm hk=>by
  simp only[hd,hi,zZ,aA,aP,bDz l1,hw];rw[aX (l:=t.2.take k) (λ_ y=>if !(dJ y x.1 x.2.1||dJ y x.2.2.1 x.2.2.2.1) then none else some (cEt (cEt false))) (by rw[xM hk];omega) (λj y hi2 hd hw hm hk2=>by
   rw[xM hk]at hd;simp only[hd,bCz hi2,hi,hw,zZ,aA,aP,bGb];cases dJ y x.1 x.2.1<;>cases dJ y x.2.2.1 x.2.2.2.1<;>rfl) (by rw[xM hk];simp),lH (λy:den tLk=> !(dJ y x.1 x.2.1||dJ y x.2.2.1 x.2.2.2.1))]
  unfold lkP;cases aAd t x<;>cases (t.2.take k).all (λy=> !(dJ y x.1 x.2.1||dJ y x.2.2.1 x.2.2.2.1))<;>rfl) (by simp),aDh (lkP t)]
 rw[iY,aA];cases inR (t.1.length:Int) 1 8<;>cases (t.1.zipIdx 0).all (λz=>asP t z.2 z.1)<;>cases (t.2.zipIdx 0).all (λz=>lkP t z.2 z.1)<;>rfl
def xOk(x:den tIb):Bool:=inR x.1 0 7&&(inR x.2.1 0 7&&(!(x.1==x.2.1)&&((x.2.2.1==(x.2.2.2.length:Int))&&(decide (x.2.2.1<=20)&&x.2.2.2.all λm=>decide (m.length<=40)))))
theorem cCj(a b:Int):decide (a>b)= !decide (a<=b):=by rw[cFm];simp
theorem cDk{x:den tIb}(h:x.2.2.2.length<=68719476736):rU x=some (xOk x):=by
 unfold rU xOk;rw[aX (l:=x.2.2.2) (λ_ m=>if decide (m.length<=40) then none else some false) (by omega) (λk m hi hd hw hx hk=>by
  simp only[hd,hi,hw,zZ,aA]
  by_cases hm:m.length<=40
  .simp[hm,show ¬ ((m.length:Int)>40) by omega]
  .simp[hm,show (m.length:Int)>40 by omega]) (by simp),lH (λm:List Int=>decide (m.length<=40))]
 simp only[mN,aA,bne,cCj];cases inR x.1 0 7<;>cases inR x.2.1 0 7<;>cases x.1==x.2.1<;>cases x.2.2.1==(x.2.2.2.length:Int)<;>cases decide (x.2.2.1<=20)<;>cases x.2.2.2.all (λm=>decide (m.length<=40))<;>rfl
theorem bXl{t:den tTo}(h:SmB 68719476736 tTo t):oH t=some t:=by
 unfold oH pj2;simp only[aF (b:=24) (n:=([]:lAS).length) (m:=t.1.length) (by decide) (by simpa using h.1.1),aF (b:=40) (n:=([]:lLk).length) (m:=t.2.length) (by decide) (by simpa using h.2.1),zZ,aW,bN,bF,bE,bG,aA,cFl,aP]
theorem bGf{t:den tTo}(h:SmB 68719476736 tTo t):rZ t=some t:=by
 unfold rZ pj2;simp only[aF (b:=24) (n:=([]:lAS).length) (m:=t.1.length) (by decide) (by simpa using h.1.1),aF (b:=40) (n:=([]:lLk).length) (m:=t.2.length) (by decide) (by simpa using h.2.1),zZ,aW,bN,bF,bE,bG,aA,cFl,aP]
theorem bWx{x:den tSg}(h:x.2.2.length<=68719476736):pU x=some x:=by
 unfold pU;rw[bFd h];rfl
theorem aJo{x:den tSg}(h:x.2.2.length<=68719476736):iG x=some x:=by
 unfold iG;rw[aF (b:=40) (n:=([]:cV).length) (by decide) (by simpa using h)];rfl
theorem aY7{l:lSg}(h:SmB 68719476736 (.sl tSg) l):mV l=some l:=by
 unfold mV pj3;rw[(vP (λk (a:lSg)=>((k:Int),a)) ((0:Int),[]) [] l (λ_ x a=>a++[x]) cFd (λ_=>1) 68719476736 id rfl (cEv h.1 (by decide)) (by rw[eY];simpa using h.1) (λk x a hi hx hd hw hk hb=>by
  have e:=h.2 x (cE9 hx);simp only[hd,hi,hw,zZ,aA,aP,bWx e.2.2.1,aF (b:=40) (by decide) hb];simp) (λa=>by simp)).1,hH (λx=>x)]
 simp
theorem aD9{l:lSg}(h:SmB 68719476736 (.sl tSg) l):fZ l=some l:=by
 unfold fZ pj3;rw[(vP (λk (a:lSg)=>((k:Int),a)) ((0:Int),[]) [] l (λ_ x a=>a++[x]) cFd (λ_=>1) 68719476736 id rfl (cEv h.1 (by decide)) (by rw[eY];simpa using h.1) (λk x a hi hx hd hw hk hb=>by
  have e:=h.2 x (cE9 hx);simp only[hd,hi,hw,zZ,aA,aP,aJo e.2.2.1,aF (b:=40) (by decide) hb];simp) (λa=>by simp)).1,hH (λx=>x)]
 simp
theorem cBm(c:Int):gD c=some (cond (inR c 1 20) c 1,[],[]):=by
 unfold gD;rw[iY];cases inR c 1 20<;>rfl
def aX7(t:den tTo)(now:Int):Bool:=aCq t&&inR now 0 1000000
theorem bYz{t:den tTo}{k:den tDb}{c now:Int}(ht:SmB 68719476736 tTo t)(hk:SmB 68719476736 tDb k):sA t k c now=some (cond (aX7 t now) (cond (inR c 1 20) c 1,now,0,t.1,t.2,k.1,k.2,[],[],[],[],[],[]) (0,0,0,[],[],[],[],[],[],[],[],[],[])):=by
 unfold sA aX7 pj2;simp only[aP,cBr ht,iY,bGf ht,aD9 hk.1,aD9 hk.2,cBm,aA];cases aCq t<;>cases inR now 0 1000000<;>rfl
def qL(a b:Int)(x:den tIb):Bool:=x.1==a&&x.2.1==b
theorem aM5{α:Type}(p:α->Bool):∀(l:List α) (k:Nat),bW (λk x=>if p x then some (k:Int) else none) k l=(l.findIdx? p).map (λi=>((k+i:Nat):Int))
 | [],_=>rfl
 | x::xs,k=>by
  simp only[bW,List.findIdx?_cons];cases h:p x with
  | true=>simp
  | false=>
   simp only[cE1,zU];rw[aM5 p xs (k+1)];cases xs.findIdx? p with
   | none=>rfl
   | some i=>simp<;>omega
def dU(l:lIb)(a b:Int):Int:=((l.findIdx? (qL a b)).map (λi=>((0+i:Nat):Int))).getD (-1)
theorem bE6{l:lIb}{a b:Int}(h:l.length<=68719476736):nQ l a b=some (dU l a b):=by
 unfold nQ dU;rw[aX (l:=l) (λk x=>if qL a b x then some (k:Int) else none) (by omega) (λk x hi hd hw hm hk=>by
  simp only[hd,hi,hw,zZ,aA];unfold qL;cases x.1==a<;>cases x.2.1==b<;>rfl) (by simp),aM5 (qL a b)]
 cases l.findIdx? (qL a b)<;>rfl
def aH6(w:den tNw)(k:Nat)(f:den tFl):Bool:=match w.2.2.2.2.2.2.2.1[k]? with
 | some x=>lV f&&(dF w.1 f.1&&(dF w.1 f.2.1&&(xOk x&&aGq f x)))
 | none=>false
def vH(f g:den tFl):Bool:=g.1==f.1&&g.2.1==f.2.1
def aH9(w:den tNw)(k:Nat)(f:den tFl):Bool:=(w.2.2.2.2.2.2.1.take k).all λg=> !vH f g
theorem zI{α:Type}(p:Nat->α->Bool)(l:List α):(l.zipIdx 0).all (λz=>p z.2 z.1)=true↔ ∀k x,l[k]? =some x->p k x=true:=by
 rw[cFn];constructor
 .intro h k x hx;exact h (x,k) (cIn.2 (by simpa using hx))
 .rintro h ⟨x,k⟩ hz
  exact h k x (by simpa using cIn.1 hz)
def aH1(l:List Int)(m:Nat)(k:Nat)(n:Int):Bool:=inR n 0 ((m:Int) - 1)&&(decide (k=0)|| !decide ((l[k - 1]?).getD 0>=n))
def aI8(w:den tNw):Bool:=
 aCq w.1&&(inR w.2.2.2.1 0 1000000&&(aE8 w.2.2.1 w.2.2.2.1&&((w.2.2.2.2.1.zipIdx 0).all (λz=>aH1 w.2.2.2.2.1 w.1.2.length z.2 z.1)&&(decide (w.2.2.2.2.2.1.length<=150)&&(decide (w.2.2.2.2.2.2.1.length<=4)&&(decide (w.2.2.2.2.2.2.2.1.length=w.2.2.2.2.2.2.1.length)&&(!decide (w.2.2.2.2.2.2.2.2<0)&&
  (w.2.2.2.2.2.1.all (λx=>dF w.1 x.1)&&(w.2.2.2.2.2.2.1.zipIdx 0).all (λz=>aH6 w z.2 z.1&&aH9 w z.2 z.1)))))))))
theorem bL8(n k:Nat):decide ((n:Int)>(k:Int))= !decide (n<=k):=by rw[cFm];simp
theorem cAm(a b:Nat):((a:Int) != (b:Int))= !decide (a=b):=by rw[cFm];simp;omega
theorem bMr{l:List Int}{k:Nat}(hk:k<l.length)(h0:0<k)(hl:l.length<=68719476736):idx l (wr ((k:Int) - 1))=some ((l[k - 1]?).getD 0):=by
 have e:wr ((k:Int) - 1)=((k - 1:Nat):Int):=by
  have :wr ((k:Int) - 1)=(k:Int) - 1:=wri (by omega) (by omega);rw[this];omega
 rw[e,aR,cEx (show k - 1<l.length by omega)];rfl
theorem bLb{w:den tNw}(h:tot tNw w<=1073741824):kF w=some (aI8 w):=by
 have sm:SmB 68719476736 tNw w:=(bR h).mono (by decide);have sms:SmB 1073741824 tNw w:=bR h;have lT:=sm.1.1.1;have lL:=sm.1.2.1;have lD:=sms.2.2.2.2.1.1;have lQ:=sms.2.2.2.2.2.1.1;have lF:=sms.2.2.2.2.2.2.1.1;have lX:=sms.2.2.2.2.2.2.2.1.1;have eT:=bZm sm.1;have eS:=bQm (now:=w.2.2.2.1) sms.2.2.1.2.1.1 sms.2.2.1.2.2.1;have q1:decide ((w.2.2.2.2.2.1.length:Int)>150)= !decide (w.2.2.2.2.2.1.length<=150):=bL8 _ 150;have q2:decide ((w.2.2.2.2.2.2.1.length:Int)>4)= !decide (w.2.2.2.2.2.2.1.length<=4):=bL8 _ 4;unfold kF aI8 pj2 pj3 pj4 pj9 zz4 zz5 zz6 zz7 zz8;rw[q1,q2,cAm];simp only[aP,eT,mN,eS,aA]
 by_cases hX:w.2.2.2.2.2.2.2.1.length=w.2.2.2.2.2.2.1.length
 .rw[aX (l:=w.2.2.2.2.1) (λk n=>if aH1 w.2.2.2.2.1 w.1.2.length k n then none else some false) (by omega) (λk n hi hd hw hm hk=>by
   simp only[hd,hi,hw,zZ,aA,mN,oI lL];unfold aH1;cases inR n 0 ((w.1.2.length:Int) - 1)
   .rfl
   .by_cases h0:k=0
    .subst h0;rfl
    .have e1:decide ((k:Int)>0)=true:=by simp;omega
     rw[e1,bMr hk (by omega) (by omega),zW h0];simp only[cE2,zY,zZ,aA,Bool.false_or,cFf];cases decide ((w.2.2.2.2.1[k - 1]?).getD 0>=n)<;>rfl) (by simp),aDh (aH1 w.2.2.2.2.1 w.1.2.length)]
  rw[aX (l:=w.2.2.2.2.2.1) (λ_ x=>if dF w.1 x.1 then none else some false) (by omega) (λk x hi hd hw hm hk=>by
   simp only[hd,hi,hw,zZ,aA,aNo lT];cases dF w.1 x.1<;>rfl) (by simp),lH (λx:den tFy=>dF w.1 x.1)]
  rw[aX (l:=w.2.2.2.2.2.2.1) (λk f=>if aH6 w k f&&aH9 w k f then none else some false) (by omega) (λk f hi hd hw hm hk=>by
   have hx:w.2.2.2.2.2.2.2.1[k]? =some w.2.2.2.2.2.2.2.1[k]:=cEx (by omega);have hix:idx w.2.2.2.2.2.2.2.1 (k:Int)=some w.2.2.2.2.2.2.2.1[k]:=by rw[aR];exact hx
   have fs:=sm.2.2.2.2.2.2.1.2 f hm;have xs:=(sm.2.2.2.2.2.2.2.1.2 _ (cE9 hx)).2.2.2.1;simp only[hd,hi,zZ,aA,aNo lT,bS0 fs,hix,cDk xs,bMx fs.2.2.2.2.1.1 xs,yK hk,jU,hw];rw[aX (l:=w.2.2.2.2.2.2.1.take k) (λ_ g=>if !vH f g then none else some (cEt (cEt false))) (by rw[xM hk];omega) (λj g hi hd hw hm hk=>by
    simp only[hd,hi,hw,zZ,aA];unfold vH;cases g.1==f.1<;>cases g.2.1==f.2.1<;>rfl) (by simp),lH (λg:den tFl=> !vH f g)]
   unfold aH6 aH9;rw[hx];simp only;cases lV f<;>simp only[cE2,cFa,zZ,zY,aA,cFh,cFf,cE1,zU]
   .rfl
   cases dF w.1 f.1<;>simp only[cE2,cFa,zZ,zY,aA,cFh,cFf,cE1,zU]
   .rfl
   cases dF w.1 f.2.1<;>simp only[cE2,cFa,zZ,zY,aA,cFh,cFf,cE1,zU]
   .rfl
   cases xOk w.2.2.2.2.2.2.2.1[k]<;>simp only[cE2,cFa,zZ,zY,aA,cFh,cFf,cE1,zU]
   .rfl
   cases aGq f w.2.2.2.2.2.2.2.1[k]<;>cases (w.2.2.2.2.2.2.1.take k).all (λg=> !vH f g)<;>rfl) (by simp),aDh (λk f=>aH6 w k f&&aH9 w k f)]
  cases aCq w.1<;>simp only[cE2,cFa,zZ,zY,aA,cFh,cFf];cases inR w.2.2.2.1 0 1000000<;>simp only[cE2,cFa,zZ,zY,aA,cFh,cFf];cases aE8 w.2.2.1 w.2.2.2.1<;>simp only[cE2,cFa,zZ,zY,aA,cFh,cFf];cases (w.2.2.2.2.1.zipIdx 0).all (λz=>aH1 w.2.2.2.2.1 w.1.2.length z.2 z.1)<;>cases decide (w.2.2.2.2.2.1.length<=150)<;>cases decide (w.2.2.2.2.2.2.1.length<=4)<;>cases decide (w.2.2.2.2.2.2.2.1.length=w.2.2.2.2.2.2.1.length)<;>cases decide (w.2.2.2.2.2.2.2.2<0)<;>cases w.2.2.2.2.2.1.all (λx=>dF w.1 x.1)<;>cases (w.2.2.2.2.2.2.1.zipIdx 0).all (λz=>aH6 w z.2 z.1&&aH9 w z.2 z.1)<;>rfl
 .have e:decide (w.2.2.2.2.2.2.2.1.length=w.2.2.2.2.2.2.1.length)=false:=by simpa using hX
  rw[e];cases aCq w.1
  .rfl
  .cases inR w.2.2.2.1 0 1000000
   .rfl
   .cases aE8 w.2.2.1 w.2.2.2.1
    .rfl
    .cases decide (w.2.2.2.2.2.1.length<=150)<;>cases decide (w.2.2.2.2.2.2.1.length<=4)<;>simp
def bRz(n:Int):Int:=cF0 (wr ((cF0 n 2147483647)+2147483647)) 2147483647
theorem bYu(n:Int):aH4 n 2147483647=some (bRz n):=by unfold aH4;rw[mN];rfl
theorem cCg(n:Int):aIo n 2147483647=some (bRz n):=by unfold aIo;rw[iY];rfl
def bQs(a x:Int):Int:=cF0 (wr ((wr ((wr (a * (1000003:Int)))+bRz x))+(11:Int))) (2147483647:Int)
def aFd(l:List Int):Int:=bQ (λ_ x a=>bQs a x) 0 l 7
theorem bQ3{l:List Int}(h:l.length<=68719476736):aA4 l=some (aFd l):=by
 unfold aA4 aFd;rw[kD (λk (a:Int)=>(a,(k:Int))) ((7:Int),(0:Int)) 7 l (λ_ x a=>bQs a x) (λ_=>0) (λ_=>0) 1 id rfl (by omega) (by rw[sum_nil];omega) (λk x a=>by omega) (λk x a hi hx hd hw hk hb=>by
  simp only[hd,hi,hw,zZ,aA,bYu];rfl) (λa=>by simp)]
 rfl
theorem bCr{l:List Int}(h:l.length<=68719476736):xL l=some (aFd l):=by
 unfold xL aFd;rw[kD (λk (a:Int)=>(a,(k:Int))) ((7:Int),(0:Int)) 7 l (λ_ x a=>bQs a x) (λ_=>0) (λ_=>0) 1 id rfl (by omega) (by rw[sum_nil];omega) (λk x a=>by omega) (λk x a hi hx hd hw hk hb=>by
  simp only[hd,hi,hw,zZ,aA,cCg];rfl) (λa=>by simp)]
 rfl
def aZe(h:den bU)(a:List Int):List Int:=a++[h.1,h.2.1,h.2.2.1]
def aOt(x:den tPp)(a:List Int):List Int:=bQ (λ_ h a=>aZe h a) 0 x.2.2.2 (a++[x.1,x.2.1,x.2.2.1])
def aL1(p:den tPt):List Int:=bQ (λ_ x a=>aOt x a) 0 p []
theorem bT0{α:Type}(c:Nat)(l:List α):(l.map λ_=>c).sum=c * l.length:=by
 induction l with
 | nil=>rfl
 | cons x l ih=>simp only[cFg,cGf,ih,cFw,Nat.mul_succ];omega
theorem aWr(x:den tPp)(a:List Int):(aOt x a).length<=a.length+(3+3 * x.2.2.2.length):=by
 have h:=aC7 (f:=λ_ h (a:List Int)=>aZe h a) (m:=cFd) (cost:=λ_=>3) (λk x a=>by simp[aZe]) x.2.2.2 0 (a++[x.1,x.2.1,x.2.2.1]);rw[bT0]at h;unfold aOt;simp at h;omega
theorem aN1:∀p:den tPt,(p.map λx:den tPp=>3+3 * x.2.2.2.length).sum<=3 * tot tPt p
 | []=>by simp
 | x::p=>by
  have h1:=kT (t:=tPp) x p;have h2:x.2.2.2.length<=tot tPp x:=cEv (dP (t:=bU) x.2.2.2) (by simp only[pC,qU];omega);have h3:=aN1 p;simp only[cFg,cGf];show _<=3 * tot (.sl tPp) (x::p);rw[h1];have h3:(p.map λx:den tPp=>3+3 * x.2.2.2.length).sum<=3 * tot (.sl tPp) p:=h3;omega
theorem bPg(p:den tPt):(aL1 p).length<=3 * tot tPt p:=by
 have h:=aC7 (f:=λ_ x (a:List Int)=>aOt x a) (m:=cFd) (cost:=λx:den tPp=>3+3 * x.2.2.2.length) (λk x a=>aWr x a) p 0 [];have h2:=aN1 p;unfold aL1;simp only[cGl,Nat.zero_add]at h;omega
theorem aVn{p:den tPt}(h:tot tPt p<=1073741824):pB p=some (aFd (aL1 p)):=by
 have hl:=dP (t:=tPp) p;have hl:p.length<=1073741824:=cEv hl h;have hs:=aN1 p;have hd':=bPg p;unfold pB;rw[kD (λk (a:List Int)=>((k:Int),a)) ((0:Int),[]) [] p (λ_ x a=>aOt x a) cFd (λx:den tPp=>3+3 * x.2.2.2.length) 68719476736 id rfl (by omega) (by simp only[cGl];omega) (λk x a=>aWr x a) (λk x a hi hx hd hw hk hb=>by
  simp only[hd,hi,hw,zZ,aA,aF (b:=8) (n:=a.length) (m:=3) (by decide) (by omega)];rw[kD (λk (a:List Int)=>((k:Int),a)) ((0:Int),a++[x.1,x.2.1,x.2.2.1]) (a++[x.1,x.2.1,x.2.2.1]) x.2.2.2 (λ_ h a=>aZe h a) cFd (λ_=>3) 68719476736 id rfl (by omega) (by rw[bT0];simp;omega) (λk h a=>by simp[aZe]) (λk h a hi hx hd hw hk hb=>by
   simp only[hd,hi,hw,zZ,aA,aF (b:=8) (n:=a.length) (m:=3) (by decide) (by omega)];rfl) (λa=>by simp)]
  rfl) (λa=>by simp)]
 simp only[aA];rw[show bQ (λ_ x a=>aOt x a) 0 p []=aL1 p from rfl];simp only[id,bCr (l:=aL1 p) (by omega),aA]
def aJh(a:Int×Bool)(h:den bU):Int×Bool:=cond (!a.2||decide (h.2.2.2.1<a.1)) (h.2.2.2.1,true) a
def aIj(l:cV):Int:=(l.foldl aJh (0,false)).1
def aNh(p:den tPt):cV:=bQ (λ_ x a=>a++x.2.2.2) 0 p []
theorem bCa:∀(p:den tPt) (k:Nat) (a:cV),bQ (λ_ (x:den tPp) a=>a++x.2.2.2) k p a=a++p.flatMap (λx:den tPp=>x.2.2.2)
 | [],_,a=>by simp[bQ]
 | x::p,k,a=>by
  simp only[bQ];rw[bCa p (k+1)];simp
theorem aSm:∀(p:den tPt) (k:Nat) (a:Int×Bool),bQ (λ_ (x:den tPp) a=>bQ (λ_ h a=>aJh a h) 0 x.2.2.2 a) k p a=(p.flatMap λx:den tPp=>x.2.2.2).foldl aJh a
 | [],_,_=>rfl
 | x::p,k,a=>by
  simp only[bQ,List.flatMap_cons,List.foldl_append];rw[aSm p (k+1),uV]
theorem aZy{p:den tPt}(h:tot tPt p<=1073741824):mE p=some (aIj (aNh p)):=by
 have hl:p.length<=1073741824:=cEv (dP (t:=tPp) p) h;have hs:=aKj p;unfold mE;rw[kD (λk (a:Int×Bool)=>(a.1,a.2,(k:Int))) ((0:Int),false,(0:Int)) ((0:Int),false) p (λ_ (x:den tPp) a=>bQ (λ_ h a=>aJh a h) 0 x.2.2.2 a) (λ_=>0) (λ_=>0) 1 (λa=>a.1) rfl (by omega) (by rw[sum_nil];omega) (λk x a=>by omega) (λk x a hi hx hd hw hk hb=>by
  have hxl:x.2.2.2.length<=1073741824:=by
   have h1:=zK (t:=tPp) hx;have h2:x.2.2.2.length<=tot tPp x:=cEv (dP (t:=bU) x.2.2.2) (by simp only[pC,qU];omega);have h3:tot (.sl tPp) p<=1073741824:=h;omega
  simp only[hd,hi,hw,zZ,aA];rw[kD (λk (a:Int×Bool)=>(a.1,a.2,(k:Int))) (a.1,a.2,(0:Int)) a x.2.2.2 (λ_ h a=>aJh a h) (λ_=>0) (λ_=>0) 1 id rfl (by omega) (by rw[sum_nil];omega) (λk x a=>by omega) (λk h a hi hx hd hw hk hb=>by
   simp only[hd,hi,hw,zZ,aA];unfold aJh;cases ca:a.2
   .rfl
   .cases c:decide (h.2.2.2.1<a.1)<;>simp[c,ca]) (λa=>by simp)]
  rfl) (λa=>by simp)]
 rw[aSm];unfold aIj aNh;rw[bCa];rfl
def aHi(a b:den tPt):Bool:=
 cond (((fD a).length:Int) != ((fD b).length:Int)) (decide (((fD a).length:Int)<((fD b).length:Int)))
  (cond (aIj (aNh a) != aIj (aNh b)) (decide (aIj (aNh a)>aIj (aNh b))) (decide (aFd (aL1 a)<aFd (aL1 b))))
theorem bRo{a b:den tPt}(ha:tot tPt a<=1073741824)(hb:tot tPt b<=1073741824):sB a b=some (aHi a b):=by
 unfold sB nP aHi;simp only[aGm (p:=a) (cEv ha (by decide)),aGm (p:=b) (cEv hb (by decide)),aZy ha,aZy hb,aVn ha,aVn hb,aA];cases ((fD a).length:Int) != ((fD b).length:Int)
 .cases aIj (aNh a) != aIj (aNh b)<;>rfl
 .rfl
def aFx(x:den tPt)(out:lPt):Nat->Nat
 | 0=>0
 | k+1=>cond (aHi x ((out[k]?).getD [])) (aFx x out k) (k+1)
theorem bE4(x:den tPt)(out:lPt):∀k,aFx x out k<=k
 | 0=>cE8 _
 | k+1=>by
  unfold aFx;cases aHi x ((out[k]?).getD [])
  .exact cE8 _
  .exact Nat.le_succ_of_le (bE4 x out k)
theorem aVw{x:den tPt}{out:lPt}{step:Int->Option (Int⊕Int)}(hl:out.length<=68719476736)
  (h0:step 0=some (.inr 0)) (h1:∀k (y:den tPt),out[k]? =some y->step ((k+1:Nat):Int)=some (cond (aHi x y) (.inl (k:Int)) (.inr ((k+1:Nat):Int)))):
  ∀k,k<=out.length->aD step (k:Int)=some ((aFx x out k:Nat):Int)
 | 0,_=>bH h0
 | k+1,hk=>by
  have hy:out[k]? =some out[k]:=cEx (by omega);have hs:=h1 k _ hy;unfold aFx;rw[hy,cFy];cases hb:aHi x out[k] with
  | true=>rw[hb]at hs;rw[cY hs];exact aVw hl h0 h1 k (by omega)
  | false=>rw[hb]at hs;exact bH hs
def aL0(x:den tPt)(out:lPt):lPt:=out.take (aFx x out out.length)++[x]++out.drop (aFx x out out.length)
theorem bA3(x:den tPt)(out:lPt):tot (.sl tPt) (aL0 x out)=tot (.sl tPt) out+(1+tot tPt x):=by
 have h:=sY (t:=tPt) (out.take (aFx x out out.length)) (out.drop (aFx x out out.length));rw[List.take_append_drop]at h;unfold aL0;rw[sY,sY,aD8];omega
def aIk(l:lPt):lPt:=bQ (λ_ x a=>aL0 x a) 0 l []
theorem bNs(l:lPt):tot (.sl tPt) (aIk l)<=tot (.sl tPt) l:=by
 have h:=aC7 (f:=λ_ x (a:lPt)=>aL0 x a) (m:=tot (.sl tPt)) (cost:=λx=>1+tot tPt x) (λk x a=>Nat.le_of_eq (bA3 x a)) l 0 [];rw[aVb,aBm]at h;unfold aIk;omega
theorem bYb{l:lPt}(h:tot (.sl tPt) l<=1073741824):uF l=some (aIk l):=by
 have hl:=dP (t:=tPt) l;unfold uF aIk ixb;rw[kD (λk (a:lPt)=>((k:Int),a)) ((0:Int),[]) [] l (λ_ x a=>aL0 x a) (tot (.sl tPt)) (λx=>1+tot tPt x) 1073741824 id rfl (by omega) (by rw[aVb,aBm];omega) (λk x a=>Nat.le_of_eq (bA3 x a)) (λk x a hi hx hd hw hk hb=>by
  have ha:=dP (t:=tPt) a;have hsm:SmB 68719476736 tPt x:=(bR (B:=1073741824) (t:=tPt) (by omega)).mono (by decide);simp only[hd,hi,hw,zZ,aA,aW,bN,bF,bE,bG];rw[aVw (x:=x) (out:=a) (by omega) (by rfl) (λj y hy=>by
   have hlt:=(cEz.1 hy).1;have hty:=zK (t:=tPt) hy;have e1:decide (((j+1:Nat):Int)>0)=true:=by simp<;>omega
   have e2:wr (((j+1:Nat):Int) - 1)=(j:Int):=by
    have :wr (((j+1:Nat):Int) - 1)=((j+1:Nat):Int) - 1:=wri (by omega) (by omega);rw[this];omega
   have e3:decide ((j:Int)<(a.length:Int))=true:=by simp;omega
   simp only[e1,e2,e3,cT,zZ,cE0,hy,aA,bRo (a:=x) (b:=y) (by omega) (by omega)];cases aHi x y<;>rfl) a.length (cE8 _)]
  have hp:=bE4 x a a.length;have s1:cO (0:Int) ((aFx x a a.length:Nat):Int) (a.length:Int)=true:=by
   have :=aD5 (a:=0) (b:=aFx x a a.length) (n:=a.length);rw[show ((0:Nat):Int)=0 from rfl]at this;rw[this];simp;omega
  have s2:cO ((aFx x a a.length:Nat):Int) (a.length:Int) (a.length:Int)=true:=by rw[aD5];simp;omega
  simp only[aA,s1,s2,zZ,jU,aZu hp,aGu hsm];rw[aF (b:=24) (by decide) (by simp<;>omega),aF (b:=24) (by decide) (by simp<;>omega),aF (b:=24) (by decide) (by simp<;>omega)];simp only[zZ,cFl,aA];rfl) (λa=>by simp)]
 rfl
def aEp(l:lRv)(now:Int):lRv:=l.filter λx=>decide (now<=x.2.2)
theorem bLj{l:lRv}{now:Int}(h:l.length<=1073741824):hO l now=some (aEp l now):=by
 unfold hO aEp pj3;rw[kD (λk (a:lRv)=>((k:Int),a)) ((0:Int),[]) [] l (λ_ x a=>if decide (now<=x.2.2)=true then a++[x] else a) cFd (λ_=>1) 68719476736 id rfl (by omega) (by rw[eY];simp;omega) (λk x a=>by split<;>simp) (λk x a hi hx hd hw hk hb=>by
  simp only[hd,hi,hw,zZ,aA,aP,aF (b:=24) (n:=a.length) (m:=1) (by decide) (by omega)];cases decide (now<=x.2.2)<;>simp) (λa=>by simp),aDw (λx:den tRv=>decide (now<=x.2.2))]
 simp
def aEo(l:lRv)(p:den tPt)(now:Int):Bool:= !((aEp l now).all λx=> !oM p x)
theorem bKm(l:lRv)(now:Int):(aEp l now).length<=l.length:=cHn _ _
theorem bM5{l:lRv}{p:den tPt}{now:Int}(h:l.length<=1073741824)(hp:tot tPt p<=1073741824):xE l p now=some (aEo l p now):=by
 have ha:=bKm l now;unfold xE aEo ixb pj3;rw[bLj h,aA];rw[aX (l:=aEp l now) (λ_ x=>if !oM p x then none else some true) (by omega) (λk x hi hd hw hm hk=>by
  have hy:(aEp l now)[k]? =some x:=by rw[<- aR];exact hi
  simp only[hd,hy,hw,zZ,aA,cT,cE0,aP,aWs hp];cases oM p x<;>rfl) (by simp),lH (λx:den tRv=> !oM p x)]
 cases (aEp l now).all (λx=> !oM p x)<;>rfl
def aJx(l:lRv)(p:lPt)(now:Int):lPt:=(p.filter λx=> !aEo l x now)++p.filter λx=>aEo l x now
theorem bOy{l:lRv}{p:lPt}{now:Int}(h:l.length<=1073741824)(hp:tot (.sl tPt) p<=1073741824):kR l p now=some (aJx l p now):=by
 have hl:=dP (t:=tPt) p;unfold kR aJx;rw[kD (λk (a:lPt)=>((k:Int),a)) ((0:Int),[]) [] p (λ_ x a=>if (!aEo l x now)=true then a++[x] else a) cFd (λ_=>1) 68719476736 id rfl (by omega) (by rw[eY];simp;omega) (λk x a=>by split<;>simp) (λk x a hi hx hd hw hk hb=>by
  have ht:=zK (t:=tPt) hx;have hsm:SmB 68719476736 tPt x:=(bR (B:=1073741824) (t:=tPt) (by omega)).mono (by decide);simp only[hd,hi,hw,zZ,aA,bM5 (l:=l) (p:=x) (now:=now) h (by omega),aGu hsm,aF (b:=24) (n:=a.length) (m:=1) (by decide) (by omega)];cases aEo l x now<;>simp) (λa=>by simp),aDw (λx:den tPt=> !aEo l x now)]
 have e:(p.filter λx=> !aEo l x now).length<=p.length:=cHn _ _;simp only[id,aA,cFl];rw[kD (λk (a:lPt)=>((k:Int),a)) ((0:Int),p.filter λx=> !aEo l x now) (p.filter λx=> !aEo l x now) p (λ_ x a=>if aEo l x now=true then a++[x] else a) cFd (λ_=>1) 68719476736 id rfl (by omega) (by rw[eY];omega) (λk x a=>by split<;>simp) (λk x a hi hx hd hw hk hb=>by
  have ht:=zK (t:=tPt) hx;have hsm:SmB 68719476736 tPt x:=(bR (B:=1073741824) (t:=tPt) (by omega)).mono (by decide);simp only[hd,hi,hw,zZ,aA,bM5 (l:=l) (p:=x) (now:=now) h (by omega),aGu hsm,aF (b:=24) (n:=a.length) (m:=1) (by decide) (by omega)];cases aEo l x now<;>simp) (λa=>by simp),aDw (λx:den tPt=>aEo l x now)]
 rfl
def aOy(f:den tFl)(p:lPt)(now:Int):lPt:=(aJx f.2.2.2.2.2.2.2.2 (aIk p) now).take (min (aJx f.2.2.2.2.2.2.2.2 (aIk p) now).length 24)
theorem bXb(n:Nat):(if (24:Int)<(n:Int) then (24:Int) else (n:Int))=((min n 24:Nat):Int):=by
 by_cases c:24<n
 .rw[zT (by omega),Nat.min_eq_right (by omega)];rfl
 .rw[zS (by omega),Nat.min_eq_left (by omega)]
theorem bPx(n:Nat):cO (0:Int) ((min n 24:Nat):Int) (n:Int)=true:=by
 have :=aD5 (a:=0) (b:=min n 24) (n:=n);rw[show ((0:Nat):Int)=0 from rfl]at this;rw[this];simp;omega
theorem cAg{f:den tFl}{p:lPt}{now:Int}(h:tot tFl f<=1073741824)(hp:tot (.sl tPt) p<=1073741824):rJ f p now=some (f.1,f.2.1,f.2.2.1,f.2.2.2.1,aOy f p now,0,0,f.2.2.2.2.1,f.2.2.2.2.2.2.2.2):=by
 have hf:SmB 68719476736 tFl f:=(bR h).mono (by decide);have hv:f.2.2.2.2.2.2.2.2.length<=1073741824:=cEv (dP (t:=tRv) _) (aQ (aQ (aQ (aQ (aQ (aQ (aQ (aQ h))))))));have hs:=bNs p;unfold rJ aOy pj9 zz6 zz8;simp only[aP,aEj hf,bYb hp,bOy (l:=f.2.2.2.2.2.2.2.2) (p:=aIk p) (now:=now) hv (by omega),aXp,aA,bXb,bPx,zZ,jU];rfl
theorem bYn{l:lRs}(h:l.length<=1073741824):fG l=some l:=by
 unfold fG;rw[aF (by decide) (by simp;omega)];simp
theorem bW4{g:den tSc}(h1:g.2.1.length<=1073741824)(h2:g.2.2.length<=1073741824):fQ g=some g:=by
 unfold fQ;rw[bYn h1,aA,aF (by decide) (by simp;omega)];simp
theorem bF6{g:den tSc}(h1:g.2.1.length<=1073741824)(h2:g.2.2.length<=1073741824):jD g=some g:=by
 unfold jD pj3;rw[aF (b:=40) (by decide) (by simp;omega),aF (b:=32) (by decide) (by simp;omega)];simp[aW,bN,bF,bE,bG]
def dH(l:lUs)(id s d:Int):Int:=if place l id s d<0 then 0 else ((l[(place l id s d).toNat]?).map (·.2.2.2)).getD 0
theorem cA7{g:den tSc}{id s d:Int}(h:g.2.2.length<=1073741824):uR g id s d=some (dH g.2.2 id s d):=by
 unfold uR dH pj3;rw[show ((g.1,g.2.1,g.2.2):den tSc)=g from rfl,aTw h,aA];rcases aLp g.2.2 id s d with hp | ⟨j,x,hp,hx,hj⟩
 .rw[hp];rfl
 .rw[hp,zX (by omega),zZ,aR,hx,zS (by omega)];simp[hx]
theorem bZc{g:den tSc}{id s d:Int}(h:g.2.2.length<=1073741824):rC g id s d=some (dH g.2.2 id s d):=by
 unfold rC dH;rw[bFs h,aA];rcases aLp g.2.2 id s d with hp | ⟨j,x,hp,hx,hj⟩
 .rw[hp];rfl
 .rw[hp,zW (by omega),zY,aR,hx,zS (by omega)];simp[hx]
def rG(l:lUs)(id s d:Int):lUs:=
 if place l id s d<0 then l++[(id,s,d,1)] else match l[(place l id s d).toNat]? with
  | some x=>l.set (place l id s d).toNat (x.1,x.2.1,x.2.2.1,wr (x.2.2.2+1))
  | none=>l
theorem aIg(l:lUs)(id s d:Int):(rG l id s d).length<=l.length+1:=by
 unfold rG;split
 .simp
 .split<;>simp
theorem cAs{g:den tSc}{id s d:Int}(h1:g.2.1.length<=1073741824)(h2:g.2.2.length<=1073741824):xG g id s d=some (g.1,g.2.1,rG g.2.2 id s d):=by
 unfold xG rG ixb pj3;rw[show ((g.1,g.2.1,g.2.2):den tSc)=g from rfl,bF6 h1 h2,aA,bFs h2,aA];rcases aLp g.2.2 id s d with hp | ⟨j,x,hp,hx,hj⟩
 .rw[hp,aF (b:=32) (by decide) (by omega)];rfl
 .have hd:decide ((j:Int)<(g.2.2.length:Int))=true:=by simpa using hj
  have hd2:decide (j<g.2.2.length)=true:=by simpa using hj
  have hd0:decide ((0:Int)<=(j:Int))=true:=by simp
  rw[hp,zW (show ¬ (j:Int)<0 by omega),zY,zS (by omega)];simp only[hd,hd0,hd2,zZ,cE0,hx,aA]
def gX(g:den tSc)(id s d now:Int):q41:=
 if dH g.2.2 id s d<oO g id s d now then (g.1,true,g.2.1,rG g.2.2 id s d)
 else if dH g.2.2 0 s d<oO g 0 s d now then (g.1,true,g.2.1,rG g.2.2 0 s d)
 else (g.1,false,g.2.1,g.2.2)
theorem bYe{g:den tSc}{id s d now:Int}(h1:g.2.1.length<=1073741824)(h2:g.2.2.length<=1073741824):wH g id s d now=some (gX g id s d now):=by
 unfold wH ixb pj2 pj3;rw[show ((g.1,g.2.1,g.2.2):den tSc)=g from rfl,bW4 h1 h2,aA];rw[aX (l:=[id,0]) (λ_ n=>if dH g.2.2 n s d<oO g n s d now then some (g.1,true,g.2.1,rG g.2.2 n s d) else none) (by simp) (λk n hi hd hw hx hk=>by
  rw[aR]at hi;have hd0:decide ((0:Int)<=(k:Int))=true:=by simp
  simp only[hd,hd0,hi,hw,zZ,aA,cE0,cA7 h2,bFk h1,aTw h2]
  by_cases hu:dH g.2.2 n s d<oO g n s d now
  .rw[zW (by omega),zY,zT hu];unfold rG;rcases aLp g.2.2 n s d with hp | ⟨j,x,hp,hx,hj⟩
   .rw[hp,aF (b:=32) (by decide) (by omega)];rfl
   .have hd1:decide ((j:Int)<(g.2.2.length:Int))=true:=by simpa using hj
    have hd2:decide ((j:Int)>=0)=true:=by simp
    have hd3:decide ((0:Int)<=(j:Int))=true:=by simp
    rw[hp,zS (by omega)];simp only[hd1,hd2,hd3,zZ,cE0,hx,aA]
  .rw[zX (by omega),zZ,zS hu]) (by simp)]
 unfold gX;simp only[bW]
 by_cases hu:dH g.2.2 id s d<oO g id s d now
 .simp[hu]
 .by_cases hv:dH g.2.2 0 s d<oO g 0 s d now<;>simp[hu,hv]
theorem aUt{g:den tSc}{id s d now:Int}(h1:g.2.1.length<=1073741824)(h2:g.2.2.length<=1073741824):mS g id s d now=some (gX g id s d now):=by
 unfold mS gX pj2 pj3;rw[show ((g.1,g.2.1,g.2.2):den tSc)=g from rfl];simp only[bZc h2,bPc h1,bZp h1,cAs h1 h2,bF6 h1 h2,aA];have h0:oO g 0 s d now=free g.2.1 g.1 s d now:=rfl;rw[h0]
 by_cases hid:id=0
 .subst hid;rw[h0]
  by_cases hv:dH g.2.2 0 s d<free g.2.1 g.1 s d now<;>simp[hv]
 .have hr:oO g id s d now=aBg g.2.1 id s d now:=by unfold oO;simp[hid]
  have hne:(id != 0)=true:=by simpa using hid
  rw[hr,hne,zZ,aA]
  by_cases hu:dH g.2.2 id s d<aBg g.2.1 id s d now
  .simp[hu]
  .by_cases hv:dH g.2.2 0 s d<free g.2.1 g.1 s d now<;>simp[hu,hv]
def qK(t:den tTo)(r d:Int):Int:=
 match bW (λk x=>if dJ x r d then some (k:Int) else none) 0 t.2 with
 | some i=>i
 | none=> -1
theorem aE7(t:den tTo)(r d:Int):qK t r d= -1\/ ∃(j:Nat) (x:den tLk),qK t r d=(j:Int)/\t.2[j]? =some x/\dJ x r d=true:=by
 unfold qK;cases h:bW (λk x=>if dJ x r d then some (k:Int) else none) 0 t.2 with
 | none=>exact .inl rfl
 | some i=>
  obtain⟨j,x,h1,h2,h3⟩:=aKo h;exact .inr ⟨j,x,by simpa using h2,h1,h3⟩
theorem aQp{t:den tTo}{r d:Int}(h:t.2.length<=68719476736):mG t r d=some (qK t r d):=by
 unfold mG pj5;rw[aX (l:=t.2) (λk x=>if dJ x r d then some (k:Int) else none) (by omega) (λk x hi hd hw hx hk=>by
  simp only[hd,hi,hw,zZ,aA,bE1];cases dJ x r d<;>rfl) (by simp)]
 unfold qK;cases bW (λk x=>if dJ x r d then some (k:Int) else none) 0 t.2<;>rfl
theorem aQs{t:den tTo}{r d:Int}(h:t.2.length<=68719476736):mF t r d=some (qK t r d):=by
 unfold mF pj5;rw[aX (l:=t.2) (λk x=>if dJ x r d then some (k:Int) else none) (by omega) (λk x hi hd hw hx hk=>by
  simp only[hd,hi,hw,zZ,aA,bGb];cases dJ x r d<;>rfl) (by simp)]
 unfold qK;cases bW (λk x=>if dJ x r d then some (k:Int) else none) 0 t.2<;>rfl
def bI3(x:den tLk)(r d:Int):q26:=cond (x.1==r&&x.2.1==d) (x.2.2.1,x.2.2.2.1) (x.1,x.2.1)
def remote(t:den tTo)(r d:Int):q26:=if qK t r d<0 then (-1,0) else bI3 ((t.2[(qK t r d).toNat]?).getD (0,0,0,0,0)) r d
theorem aP6{t:den tTo}{r d:Int}(h:t.2.length<=68719476736):mK t r d=some (remote t r d):=by
 unfold mK remote pj2;simp only[aP,aQp h,aA];rcases aE7 t r d with e | ⟨j,x,e,hx,he⟩
 .rw[e];rfl
 .rw[e,zW (by omega),zY,zS (by omega),aR,hx,cE0,hx,aA,cFy];unfold bI3;cases x.1==r<;>cases x.2.1==d<;>rfl
theorem aEe{t:den tTo}{r d:Int}(h:t.2.length<=68719476736):eQ t r d=some (remote t r d):=by
 unfold eQ remote pj2;simp only[aP,aQs h,aA];rcases aE7 t r d with e | ⟨j,x,e,hx,he⟩
 .rw[e];rfl
 .rw[e,zW (by omega),zY,zS (by omega),aR,hx,cE0,hx,aA,cFy];unfold bI3;cases x.1==r<;>cases x.2.1==d<;>rfl
def bIo(x:den tLk)(r d:Int):Int:=cond (x.2.2.2.2==1) 1 (cond (x.2.2.2.2==3) 4 (cond (x.2.2.2.2==2) (cond (x.1==r&&x.2.1==d) 2 3) 0))
def aCa(t:den tTo)(r d:Int):Int:=cond (d==0) 5 (if qK t r d<0 then 0 else bIo ((t.2[(qK t r d).toNat]?).getD (0,0,0,0,0)) r d)
theorem bXh{t:den tTo}{r d:Int}(h:t.2.length<=68719476736):lC t r d=some (aCa t r d):=by
 unfold lC aCa pj2 zz4;simp only[aP,aQp h,aA];cases d==0
 .rcases aE7 t r d with e | ⟨j,x,e,hx,he⟩
  .rw[e];rfl
  .rw[e,zW (by omega),zY,zY,zY,zS (by omega),aR,hx,cE0,hx,aA,cFy];unfold bIo;rw[show (x.2.2.2.2 != 2)= !(x.2.2.2.2==2) from rfl];cases x.2.2.2.2==1<;>cases x.2.2.2.2==3<;>cases x.2.2.2.2==2<;>cases x.1==r<;>cases x.2.1==d<;>rfl
 .rfl
theorem aT8{t:den tTo}{r d:Int}(h:t.2.length<=68719476736):eL t r d=some (aCa t r d):=by
 unfold eL aCa pj2 zz4;simp only[aP,aQs h,aA];cases d==0
 .rcases aE7 t r d with e | ⟨j,x,e,hx,he⟩
  .rw[e];rfl
  .rw[e,zW (by omega),zY,zY,zY,zS (by omega),aR,hx,cE0,hx,aA,cFy];unfold bIo;cases x.2.2.2.2==1<;>cases x.2.2.2.2==3<;>cases x.2.2.2.2==2<;>cases x.1==r<;>cases x.2.1==d<;>rfl
 .rfl
def aEi(a b:Int):Bool:=cond (a==5||a==2) (b==2||b==5||(b==1||b==3)) (cond (a==3) (b==2||b==5) (cond (a==1) (b==2||b==5||b==1) false))
theorem bMs(a b:Int):lS a b=some (aEi a b):=by
 unfold lS aEi;cases c5:a==5<;>cases c2:a==2<;>cases a==3<;>cases a==1<;>cases b==2<;>cases b==5<;>cases b==1<;>cases b==3<;>first | rfl | (simp at c5 c2;omega)
theorem bL3(a b:Int):lW a b=some (aEi a b):=by
 unfold lW aEi;cases c5:a==5<;>cases c2:a==2<;>cases a==3<;>cases a==1<;>cases b==2<;>cases b==5<;>cases b==1<;>cases b==3<;>first | rfl | (simp at c5 c2;omega)
def aLn(t:den tTo)(s:den mR):Bool:=aEi (aCa t s.1 s.2.1) (aCa t s.1 s.2.2)&&(!(s.2.1==s.2.2)||s.2.1==0)
theorem bYi{t:den tTo}{s:den mR}(h:t.2.length<=68719476736):pS t s=some (aLn t s):=by
 unfold pS aLn pj2;simp only[aP,bXh h,bMs,aA];rw[show (s.2.1 != s.2.2)= !(s.2.1==s.2.2) from rfl];cases aEi (aCa t s.1 s.2.1) (aCa t s.1 s.2.2)<;>cases s.2.1==s.2.2<;>cases s.2.1==0<;>rfl
theorem bV4{t:den tTo}{s:den mR}(h:t.2.length<=68719476736):pZ t s=some (aLn t s):=by
 unfold pZ aLn pj2;simp only[aP,aT8 h,bL3,aA];rw[show (s.2.1 != 0)= !(s.2.1==0) from rfl];cases aEi (aCa t s.1 s.2.1) (aCa t s.1 s.2.2)<;>cases s.2.1==s.2.2<;>cases s.2.1==0<;>rfl
def aBj(s i:Int):Bool:=inR s 0 65535&&(inR i 0 15&&(yR .i64 (shr .i64 s i) 1==1))
theorem aW0{i:Int}(h:inR i 0 15=true):IntKind.wrap .u64 i=i:=by
 obtain⟨h0,h1⟩:=aZ.1 h;have :=bAp (n:=i.toNat) (by omega)
 rwa [cHe h0]at this
theorem bW9(s i:Int):wD s i=some (aBj s i):=by
 unfold wD aBj rP;simp only[mN,aA];cases inR s 0 65535
 .rfl
 .cases c:inR i 0 15
  .rfl
  .rw[aW0 c,zW (by have :=aZ.1 c;omega)];rfl
theorem bXc(s i:Int):xI s i=some (aBj s i):=by
 unfold xI aBj qW zN;simp only[iY,aA];cases inR s 0 65535
 .rfl
 .cases c:inR i 0 15
  .rfl
  .simp only[zZ,aA,zW (show ¬ i<0 by have :=aZ.1 c;omega),zY,cFf]
def aQy(s i:Int):Int:=cond (inR s 0 65535&&inR i 0 15) (bOr .i64 s (shl .i64 1 i)) s
theorem cB2(s i:Int):sF s i=some (aQy s i):=by
 unfold sF aQy rP;simp only[mN,aA];cases inR s 0 65535
 .rfl
 .cases c:inR i 0 15
  .rfl
  .rw[aW0 c,zW (by have :=aZ.1 c;omega)];rfl
theorem bZq(s i:Int):sU s i=some (aQy s i):=by
 unfold sU aQy qW zN;simp only[iY,aA];cases inR s 0 65535
 .rfl
 .cases c:inR i 0 15
  .rfl
  .rw[zW (by have :=aZ.1 c;omega)];rfl
theorem aY1{α:Type}(p:α->Bool)(N:Int):∀(l:List α) (k:Nat),N=((k+l.length:Nat):Int)->aLb (λk x (_:Unit)=>if p x then .inl () else .inr (k:Int)) (λ_=>N) k l ()=((k+l.findIdx (λx=> !p x):Nat):Int)
 | [],k,h=>by simpa [aLb] using h
 | x::xs,k,h=>by
  simp only[aLb,List.findIdx_cons];cases hp:p x with
  | true=>
   have :=aY1 p N xs (k+1) (by rw[h];simp;omega);simp only[zV,this,cE2,zY];omega
  | false=>simp
def sR(l:List Int)(n:Int):Nat:=l.findIdx λx=> !decide (x<n)
theorem aUb(l:List Int)(n:Int):sR l n<=l.length:=List.findIdx_le_length
theorem aV2{l:List Int}{n:Int}{step:Int->Option (Int⊕Int)}(hl:l.length<=68719476736)
  (h:∀(k:Nat) (x:Int),idx l (k:Int)=some x->l[k]? =some x->decide ((k:Int)<(l.length:Int))=true->IntKind.i64.wrap ((k:Int)+1)=((k+1:Nat):Int)->step (k:Int)=some (if decide (x<n) then .inl ((k+1:Nat):Int) else .inr (k:Int)))
  (he:step (l.length:Int)=some (.inr (l.length:Int))):aD step (0:Int)=some (sR l n:Int):=by
 rw[aOs (λk (_:Unit)=>(k:Int)) (0:Int) () l (λk x _=>if decide (x<n) then .inl () else .inr (k:Int)) (λ_ _=>True) (λ_=>(l.length:Int)) rfl (by omega) trivial (λk x a hi hx hd hw hk _=>by
  refine⟨?_,λ_ _=>trivial⟩;rw[h k x hi hx hd hw];cases decide (x<n)<;>rfl) (λ_ _=>he)]
 rw[aY1 (λx=>decide (x<n)) (l.length:Int) l 0 (by simp)];simp[sR]
def tX(l:List Int)(n:Int):List Int:=if l[sR l n]? =some n then l else l.take (sR l n)++[n]++l.drop (sR l n)
theorem aHb(l:List Int)(n:Int):(tX l n).length<=l.length+1:=by
 unfold tX;split
 .omega
 .simp;omega
theorem aJn{k n:Nat}(h:k<=n):cO (0:Int) (k:Int) (n:Int)=true:=by
 simp only[cO,cEw,zR];omega
theorem aCv{k n:Nat}(h:k<=n):cO (k:Int) (n:Int) (n:Int)=true:=by
 simp only[cO,cEw,zR];omega
theorem aEc{α:Type}{l:List α}{k:Nat}:cut l (k:Int) (l.length:Int)=l.drop k:=by
 unfold cut;rw[cE0];apply List.take_of_length_le;simp
theorem bFt{l:List Int}(h:l.length<=68719476736):rB l=some l:=by
 unfold rB;rw[aF (n:=([]:List Int).length) (by decide) (by simpa using h)];rfl
theorem aRm{l:List Int}{n:Int}{b:Bool}(hb:(l[sR l n]? =some n)=(b=true)):tX l n=cond b l (l.take (sR l n)++[n]++l.drop (sR l n)):=by
 unfold tX;cases b with
 | true=>rw[zT (by rw[hb])];rfl
 | false=>rw[zS (by rw[hb];simp)];rfl
theorem aSj{l:List Int}{n:Int}(h:l.length<=4294967296):rI l n=some (tX l n):=by
 have hp:=aUb l n;unfold rI;rw[aV2 (l:=l) (n:=n) (by omega) (λk x hi hx hd hw=>by
  simp only[hd,zZ,hi,aA,hw];cases decide (x<n)<;>rfl) (by simp)]
 simp only[aA,aJn hp,aCv hp,jU,aEc,zZ,aW,bN,bF,bE,bG,bFt (l:=l.take (sR l n)) (by simp;omega)];rw[aF (b:=8) (n:=(l.take (sR l n)).length) (m:=1) (by decide) (by simp;omega),aF (b:=8) (m:=(l.drop (sR l n)).length) (by decide) (by simp;omega)]
 by_cases hlt:sR l n<l.length
 .have hx:l[sR l n]? =some l[sR l n]:=cEx hlt;rw[zX (by omega),zZ,aR,hx,aA,aA];rw[aRm (b:=l[sR l n]==n) (by rw[hx];simp)];cases l[sR l n]==n<;>rfl
 .rw[zW (by omega),zY,aA];rw[aRm (b:=false) (by rw[List.getElem?_eq_none (by omega)];simp)];rfl
theorem aSs{l:List Int}{n:Int}(h:l.length<=4294967296):xB l n=some (tX l n):=by
 have hp:=aUb l n;unfold xB ixb;rw[aV2 (l:=l) (n:=n) (by omega) (λk x hi hx hd hw=>by
  simp only[hd,zZ,cT,cE0,hx,aA,hw];cases decide (x<n)<;>rfl) (by simp)]
 simp only[aA,aJn hp,aCv hp,jU,aEc,zZ,aW,bN,bF,bE,bG,cFl,cGl];rw[aF (b:=8) (n:=0) (m:=(l.take (sR l n)).length) (by decide) (by simp;omega),aF (b:=8) (n:=(l.take (sR l n)).length) (m:=1) (by decide) (by simp;omega),aF (b:=8) (m:=(l.drop (sR l n)).length) (by decide) (by simp;omega)]
 by_cases hlt:sR l n<l.length
 .have hx:l[sR l n]? =some l[sR l n]:=cEx hlt;rw[zX (by omega),zZ,cT,zZ,zZ,cE0,hx,aA,aA];rw[aRm (b:=l[sR l n]==n) (by rw[hx];simp)];cases l[sR l n]==n<;>rfl
 .rw[zW (by omega),zY,aA];rw[aRm (b:=false) (by rw[List.getElem?_eq_none (by omega)];simp)];rfl
def oW(r:Int)(x:den tLk)(a:List Int):List Int:=cond (x.2.2.1==r) (tX (cond (x.1==r) (tX a x.2.1) a) x.2.2.2.1) (cond (x.1==r) (tX a x.2.1) a)
theorem aMm(r:Int)(x:den tLk)(a:List Int):(oW r x a).length<=a.length+2:=by
 unfold oW;have h1:=aHb a x.2.1;have h2:=aHb (tX a x.2.1) x.2.2.2.1;have h3:=aHb a x.2.2.2.1;cases x.1==r<;>cases x.2.2.1==r<;>simp only[zZ,zY]<;>omega
def gV(t:den tTo)(r:Int):List Int:=bQ (λ_ x a=>oW r x a) 0 t.2 []
theorem aFf(t:den tTo)(r:Int):(gV t r).length<=2 * t.2.length:=by
 have h:=aC7 (f:=λ_ x (a:List Int)=>oW r x a) (m:=cFd) (cost:=λ_=>2) (λk x a=>aMm r x a) t.2 0 [];rw[aG0]at h;simpa [gV] using h
theorem bYk{t:den tTo}{r:Int}(h:t.2.length<=1073741824):sH t r=some (gV t r):=by
 unfold sH;rw[(vP (λk (a:List Int)=>(a,(k:Int))) ([],(0:Int)) [] t.2 (λ_ x a=>oW r x a) cFd (λ_=>2) 4294967296 id rfl (by omega) (by rw[aG0];simp;omega) (λk x a hi hx hd hw hk hb=>by
  refine⟨?_,aMm r x a⟩;have h1:=aHb a x.2.1;simp only[hd,hi,hw,zZ,aA,aSj (l:=a) (by omega),aSj (l:=tX a x.2.1) (by omega)];unfold oW;cases x.1==r<;>cases x.2.2.1==r<;>simp only[zZ,zY,aA,aSj (l:=a) (by omega),aSj (l:=tX a x.2.1) (by omega)]) (λa=>by simp)).1]
 rfl
theorem aOp{t:den tTo}{r:Int}(h:t.2.length<=1073741824):iN t r=some (gV t r):=by
 unfold iN;rw[(vP (λk (a:List Int)=>((k:Int),a)) ((0:Int),[]) [] t.2 (λ_ x a=>oW r x a) cFd (λ_=>2) 4294967296 id rfl (by omega) (by rw[aG0];simp;omega) (λk x a hi hx hd hw hk hb=>by
  refine⟨?_,aMm r x a⟩;have h1:=aHb a x.2.1;simp only[hd,hi,hw,zZ,aA,aSs (l:=a) (by omega),aSs (l:=tX a x.2.1) (by omega)];unfold oW;cases x.1==r<;>cases x.2.2.1==r<;>simp only[zZ,zY,aA,aSs (l:=a) (by omega),aSs (l:=tX a x.2.1) (by omega)]) (λa=>by simp)).1]
 rfl
theorem aLg{α:Type}(l:List α):(l.map λ_=>0).sum=0:=by
 induction l with
 | nil=>rfl
 | cons x l ih=>rw[cFg,cGf,ih]
def dL(t:den tTo)(dead:List Int)(r:Int):Int:=bQ (λ_ x a=>cond (rV dead (qK t r x)) (aQy a x) a) 0 (gV t r) 0
theorem aT6{t:den tTo}{dead:List Int}{r:Int}(h:t.2.length<=1073741824)(hd:dead.length<=68719476736):dI t dead r=some (dL t dead r):=by
 have hl:=aFf t r;unfold dI pj2;simp only[aP,bYk h,aA];rw[kD (λk (a:Int)=>(a,(k:Int))) ((0:Int),(0:Int)) 0 (gV t r) (λ_ x a=>cond (rV dead (qK t r x)) (aQy a x) a) (λ_=>0) (λ_=>0) 0 id rfl (by omega) (by rw[aLg];exact cE8 _) (λ_ _ _=>cE8 _) (λk x a hi hx hd' hw hk hb=>by
  simp only[hd',hi,hw,zZ,aA,aQp (t:=t) (r:=r) (d:=x) (by omega),aY8 hd,cB2];cases rV dead (qK t r x)<;>rfl) (λa=>by simp)]
 rfl
theorem aU7{t:den tTo}{dead:List Int}{r:Int}(h:t.2.length<=1073741824)(hd:dead.length<=68719476736):cR t dead r=some (dL t dead r):=by
 have hl:=aFf t r;unfold cR ixb pj2;simp only[aP,aOp h,aA];rw[kD (λk (a:Int)=>(a,(k:Int))) ((0:Int),(0:Int)) 0 (gV t r) (λ_ x a=>cond (rV dead (qK t r x)) (aQy a x) a) (λ_=>0) (λ_=>0) 0 id rfl (by omega) (by rw[aLg];exact cE8 _) (λ_ _ _=>cE8 _) (λk x a hi hx hd' hw hk hb=>by
  simp only[hd',cT,cE0,hx,hw,zZ,aA,aQs (t:=t) (r:=r) (d:=x) (by omega),aHq hd,bZq];cases rV dead (qK t r x)<;>rfl) (λa=>by simp)]
 rfl
def aJb(key ts beta:Int)(h:den bU):Int:=aFd (([key]++[ts,beta,h.1,h.2.1,h.2.2.1,h.2.2.2.1])++[key])
theorem bZ8(key ts beta:Int)(h:den bU):aBc key ts beta h=some (aJb key ts beta h):=by
 unfold aBc vC aJb;rw[aF (b:=8) (n:=[key].length) (by decide) (by simp),aF (b:=8) (by decide) (by simp),bQ3 (by simp)];rfl
theorem bMt(key ts beta:Int)(h:den bU):xJ key ts beta h=some (aJb key ts beta h):=by
 unfold xJ vJ aJb;rw[aF (b:=8) (n:=[key].length) (by decide) (by simp),aF (b:=8) (by decide) (by simp),bCr (by simp)];rfl
def h0:den bU:=(0,0,0,0,0)
def bIv(t:den tTo)(r:Int):Int:=((t.1[r.toNat]?).getD (0,false,0)).2.2
def aAn(t:den tTo)(ts beta:Int)(h:den bU):Bool:=jW h&&(dF t h.1&&(h.2.2.2.2==aJb (bIv t h.1) ts beta h))
theorem bLu{t:den tTo}{ts beta:Int}{h:den bU}(ht:t.1.length<=68719476736):uJ t ts beta h=some (aAn t ts beta h):=by
 unfold uJ aAn pj2 pj5 zz4;simp only[aP,aPw,aNo ht,aA,bZ8];cases jW h
 .rfl
 .cases c:dF t h.1
  .rfl
  .obtain⟨x,hx,ix⟩:=aGd c;rw[ix,bIv,hx];rfl
theorem aYu{t:den tTo}{ts beta:Int}{h:den bU}(ht:t.1.length<=68719476736):gT t ts beta h=some (aAn t ts beta h):=by
 unfold gT aAn pj2 pj5 zz4;simp only[aP,aLk,aFi ht,aA,bMt];cases jW h
 .rfl
 .cases c:dF t h.1
  .rfl
  .obtain⟨x,hx,ix⟩:=aGd c;rw[ix,bIv,hx];rfl
def aDe(t:den tTo)(l:cV)(k:Nat)(x:den bU):Bool:=jW x&&(dF t x.1&&(l.take k).all λy=> !(y.1==x.1))
def aLo(t:den tTo)(l:cV):Bool:=(l.zipIdx 0).all λz=>aDe t l z.2 z.1
theorem bW8{t:den tTo}{l:cV}(ht:t.1.length<=68719476736)(hl:l.length<=68719476736):aA1 t l=some (inR (l.length:Int) 1 8&&aLo t l):=by
 unfold aA1 aLo pj2 pj5;rw[aX (l:=l) (λk x=>if aDe t l k x then none else some false) (by omega) (λk x hi hd hw hm hk=>by
  simp only[hd,hi,zZ,aA,aP,aPw,aNo ht,yK hk,jU,hw];rw[aX (l:=l.take k) (λ_ y=>if !(y.1==x.1) then none else some (cEt (cEt false))) (by rw[xM hk];omega) (λj y hi hd hw hm hk=>by
   simp only[hd,hi,hw,zZ,aA];cases y.1==x.1<;>rfl) (by simp),lH (λy:den bU=> !(y.1==x.1))]
  unfold aDe;cases jW x<;>cases dF t x.1<;>cases (l.take k).all (λy=> !(y.1==x.1))<;>rfl) (by simp),aDh (aDe t l)]
 rw[mN,aA];cases inR (l.length:Int) 1 8<;>cases (l.zipIdx 0).all (λz=>aDe t l z.2 z.1)<;>rfl
def aI1(t:den tTo)(p:den tPp)(x y:den bU):Bool:= !(pEg p x==0)&&((remote t x.1 (pEg p x)).1==y.1&&(remote t x.1 (pEg p x)).2==pIn p y)
def yY(t:den tTo)(p:den tPp)(k:Nat)(y:den bU):Bool:=decide (k=0)||aI1 t p ((p.2.2.2[k - 1]?).getD h0) y
def fO(t:den tTo)(p:den tPp):Bool:=
 inR (p.2.2.2.length:Int) 1 8&&(inR p.1 1 4&&(inR p.2.1 0 1000000&&(lK p.2.2.1&&(aLo t p.2.2.2&&(p.2.2.2.zipIdx 0).all λz=>yY t p z.2 z.1))))
theorem bQl(t:den tTo)(p:den tPp):((p.2.2.2.drop 1).zipIdx 0).all (λz=>aI1 t p ((p.2.2.2[z.2]?).getD h0) z.1)=(p.2.2.2.zipIdx 0).all (λz=>yY t p z.2 z.1):=by
 rw[cFm,zI (λk x=>aI1 t p ((p.2.2.2[k]?).getD h0) x),zI (yY t p)];constructor
 .intro h k x hx;cases k with
  | zero=>rfl
  | succ k=>
   have :=h k x (by rw[cGo,Nat.add_comm];exact hx);simpa [yY] using this
 .intro h k x hx;rw[cGo,Nat.add_comm]at hx;have :=h (k+1) x hx;simpa [yY] using this
theorem aBy(a b:Int):(a != b)= !(a==b):=rfl
theorem bMm{t:den tTo}{p:den tPp}(ht:t.1.length<=68719476736)(ht2:t.2.length<=68719476736)(hl:p.2.2.2.length<=68719476736):uL t p=some (fO t p):=by
 unfold uL fO pj2 pj4;rw[aX (l:=p.2.2.2.drop 1) (λk y=>if aI1 t p ((p.2.2.2[k]?).getD h0) y then none else some false) (by rw[cG8];omega) (λk y hi hd hw hm hk=>by
  have hy:p.2.2.2[k+1]? =some y:=by rw[aR,cGo,Nat.add_comm]at hi;exact hi
  have hlt:k+1<p.2.2.2.length:=(cEz.1 hy).1;obtain⟨x,hx⟩:∃x,p.2.2.2[k]? =some x:=⟨_,cEx (by omega)⟩
  have hd':decide ((k:Int)<wr ((p.2.2.2.length:Int) - 1))=true:=by rw[oI hl];simp;omega
  have hy':idx p.2.2.2 ((k+1:Nat):Int)=some y:=by rw[aR];exact hy
  simp only[hd',zZ,aP,bJ9 hx hl,aA,aR,hx,hw,hy,bJs hy hl,aP6 ht2,cFy,aBy];unfold aI1;cases pEg p x==0<;>cases (remote t x.1 (pEg p x)).1==y.1<;>cases (remote t x.1 (pEg p x)).2==pIn p y<;>rfl) (by
   rw[cG8,oI hl,zW (by omega)];rfl),aDh (λk y=>aI1 t p ((p.2.2.2[k]?).getD h0) y),bQl]
 simp only[aP,mN,bW8 ht hl,aGj,aA];cases inR (p.2.2.2.length:Int) 1 8<;>cases inR p.1 1 4<;>cases inR p.2.1 0 1000000<;>cases lK p.2.2.1<;>cases aLo t p.2.2.2<;>cases (p.2.2.2.zipIdx 0).all (λz=>yY t p z.2 z.1)<;>rfl
theorem aD2{α S:Type}(p:Nat->α->Bool)(o r:S):∀(l:List α) (k:Nat),aLb (λk x (_:Unit)=>if p k x then .inl () else .inr r) (λ_=>o) k l ()=if (l.zipIdx k).all (λz=>p z.2 z.1) then o else r
 | [],_=>rfl
 | x::xs,k=>by
  simp only[aLb,List.zipIdx_cons,List.all_cons];rcases cHy (p k x) with h | h
  .simp only[h,zV,cFf];exact aD2 p o r xs (k+1)
  .simp[h]
theorem bSi{p:den tPp}(hl:p.2.2.2.length<=68719476736):uU p=some (p.2.2.2.map (·.1)):=by
 unfold uU;rw[(vP (λk (a:List Int)=>((k:Int),a)) ((0:Int),[]) [] p.2.2.2 (λ_ x a=>a++[x.1]) cFd (λ_=>1) 68719476736 id rfl (by omega) (by rw[eY];simpa using hl) (λk x a hi hx hd hw hk hb=>by
  simp only[hd,hi,hw,zZ,aA,aF (b:=8) (by decide) hb];simp) (λa=>by simp)).1,hH (λx:den bU=>x.1)]
 simp
theorem bSy(l:cV)(k:Nat)(n:Int):rV ((l.map (·.1)).take k) n= !((l.take k).all λy=> !(y.1==n)):=by
 unfold rV;rw[<- List.map_take,List.all_map];rfl
theorem bM1{t:den tTo}{p:den tPp}(ht:t.1.length<=68719476736)(ht2:t.2.length<=68719476736)(hl:p.2.2.2.length<=68719476736):uG t p=some (fO t p):=by
 unfold uG fO pj2 pj4 pj5;simp only[aP,bSi hl,aA];have hR:(p.2.2.2.map (·.1)).length=p.2.2.2.length:=by simp
 rw[aOs (λk (_:Unit)=>(p.2.2.2.map (·.1),(k:Int))) (p.2.2.2.map (·.1),(0:Int)) () p.2.2.2 (λk x _=>if (aDe t p.2.2.2 k x&&yY t p k x) then .inl () else .inr (.inr false)) (λ_ _=>True) (λ_=> .inl ()) rfl (by omega) trivial (λk x a hi hx hd hw hk _=>by
  refine⟨?_,λ_ _=>trivial⟩;have hr:(p.2.2.2.map (·.1))[k]? =some x.1:=by rw[cGy,hx];rfl
  have hs:cO (0:Int) (k:Int) ((p.2.2.2.map (·.1)).length:Int)=true:=by rw[hR];exact yK hk
  have hh:gB ((p.2.2.2.map (·.1)).take k) x.1=some (!((p.2.2.2.take k).all λy=> !(y.1==x.1))):=by
   rw[aHq (by simp;omega),bSy]
  simp only[hd,zZ,hi,aR,hr,aA,aLk,aFi ht,hs,jU,hh,hw];cases k with
  | zero=>
   rw[show decide (((0:Nat):Int)>0)=false from by decide];unfold aDe yY;cases jW x<;>cases dF t x.1<;>cases (p.2.2.2.take 0).all (λy=> !(y.1==x.1))<;>rfl
  | succ j=>
   have hw1:wr (((j+1:Nat):Int) - 1)=(j:Int):=(wri (by omega) (by omega)).trans (by omega);obtain⟨y,hy⟩:∃y,p.2.2.2[j]? =some y:=⟨_,cEx (by omega)⟩
   have hr1:(p.2.2.2.map (·.1))[j]? =some y.1:=by rw[cGy,hy];rfl
   rw[show decide (((j+1:Nat):Int)>0)=true from by simp];simp only[hw1,aR,hr1,aA,aYp hy hl,bHi hx hl,aEe ht2,zZ,aBy];unfold aDe yY aI1;rw[cH9,hy,cFy];cases jW x<;>cases dF t x.1<;>cases (p.2.2.2.take (j+1)).all (λy=> !(y.1==x.1))<;>cases pEg p y==0<;>cases (remote t y.1 (pEg p y)).1==x.1<;>cases (remote t y.1 (pEg p y)).2==pIn p x<;>rfl) (λa _=>by simp)]
 rw[aD2 (λk x=>aDe t p.2.2.2 k x&&yY t p k x)];have hsplit:(p.2.2.2.zipIdx 0).all (λz=>aDe t p.2.2.2 z.2 z.1&&yY t p z.2 z.1)=(aLo t p.2.2.2&&(p.2.2.2.zipIdx 0).all λz=>yY t p z.2 z.1):=by
  unfold aLo;rw[cFm];simp only[cFn,cEw];exact⟨λh=>⟨λz hz=>(h z hz).1,λz hz=>(h z hz).2⟩,λh z hz=>⟨h.1 z hz,h.2 z hz⟩⟩
 rw[hsplit];simp only[iY,aEb,aA];cases inR (p.2.2.2.length:Int) 1 8<;>cases inR p.1 1 4<;>cases inR p.2.1 0 1000000<;>cases lK p.2.2.1<;>cases aLo t p.2.2.2<;>cases (p.2.2.2.zipIdx 0).all (λz=>yY t p z.2 z.1)<;>rfl
def aB3(k:Int):Int:=cond (k==1) 1 (cond (k==2||k==3) 2 3)
theorem bQy(k:Int):wG k=some (aB3 k):=by
 unfold wG aB3;cases k==1<;>cases k==2<;>cases k==3<;>rfl
theorem bP8(k:Int):wY k=some (aB3 k):=by
 unfold wY aB3;cases k==1<;>cases k==2<;>cases k==3<;>rfl
def pt0:den tPp:=(0,0,0,[])
def aBo(y:den tPp):den bU:=(y.2.2.2[y.2.2.2.length - 1]?).getD h0
def aDa(y:den tPp):den bU:=(y.2.2.2[0]?).getD h0
def aLc(y x:den tPp):Bool:= !decide (aB3 y.1>=aB3 x.1)&&(aBo y).1==(aDa x).1
def vT(t:den tTo)(p:den tPt)(k:Nat)(x:den tPp):Bool:=fO t x&&(decide (k=0)||aLc ((p[k - 1]?).getD pt0) x)
def wfP(t:den tTo)(p:den tPt):Bool:=inR (p.length:Int) 1 3&&(p.zipIdx 0).all λz=>vT t p z.2 z.1
theorem zG{t:den tTo}{p:den tPp}(h:fO t p=true):0<p.2.2.2.length:=by
 unfold fO at h;rw[cEw]at h;have :=aZ.1 h.1;omega
theorem bAb{y:den tPp}(h:0<y.2.2.2.length)(hl:y.2.2.2.length<=68719476736):idx y.2.2.2 (wr ((y.2.2.2.length:Int) - 1))=some (aBo y):=by
 rw[bCb hl h,aR];unfold aBo;rw[cEx (show y.2.2.2.length - 1<y.2.2.2.length by omega)];rfl
theorem aZ8{y:den tPp}(h:0<y.2.2.2.length):idx y.2.2.2 (0:Int)=some (aDa y):=by
 have :idx y.2.2.2 ((0:Nat):Int)=y.2.2.2[0]? :=aR;rw[show (0:Int)=((0:Nat):Int) from rfl,this];unfold aDa;rw[cEx h];rfl
theorem cDj{t:den tTo}{p:den tPt}(ht:t.1.length<=68719476736)(ht2:t.2.length<=68719476736)(h:SmB 68719476736 tPt p):lN t p=some (wfP t p):=by
 have lp:=h.1;have lh:∀(k:Nat) (x:den tPp),p[k]? =some x->x.2.2.2.length<=68719476736:=λk x hx=>(h.2 x (cE9 hx)).2.2.2.1
 unfold lN wfP pj2 pj4;rw[aOs (λk (_:Unit)=>(k:Int)) (0:Int) () p (λk x _=>if vT t p k x then .inl () else .inr (.inr false)) (λk _=> ∀j y,j<k->p[j]? =some y->0<y.2.2.2.length) (λ_=> .inl ()) rfl (by omega) (λj y hj=>absurd hj (cH6 _)) (λk x a hi hx hd hw hk hI=>by
  have hlx:=lh k x hx;refine⟨?_,λa' ha j y hj hy=> ?_⟩
  .simp only[hd,zZ,hi,aA,aP,bMm ht ht2 hlx,hw];cases hv:fO t x with
   | false=>unfold vT;rw[hv];rfl
   | true=>
    cases k with
    | zero=>
     rw[show decide (((0:Nat):Int)>0)=false from by decide];unfold vT;rw[hv];rfl
    | succ j=>
     have hw1:wr (((j+1:Nat):Int) - 1)=(j:Int):=(wri (by omega) (by omega)).trans (by omega);obtain⟨y,hy⟩:∃y,p[j]? =some y:=⟨_,cEx (by omega)⟩
     rw[show decide (((j+1:Nat):Int)>0)=true from by simp];simp only[hw1,aR,hy,aA,bQy,bAb (hI j y (Nat.lt_succ_self j) hy) (lh j y hy),aZ8 (zG hv),zZ,aBy,cE2,zY];unfold vT aLc;rw[cH9,hy,cFy,hv];cases decide (aB3 y.1>=aB3 x.1)<;>cases (aBo y).1==(aDa x).1<;>rfl
  .rcases Nat.lt_succ_iff_lt_or_eq.1 hj with hj | rfl
   .exact hI j y hj hy
   .rw[hx]at hy;injection hy with hy;subst hy;rcases cHy (vT t p j x) with hb | hb
    .unfold vT at hb;rw[cEw]at hb;exact zG hb.1
    .simp[hb]at ha) (λa _=>by simp)]
 rw[aD2 (vT t p),mN,aA];cases inR (p.length:Int) 1 3<;>cases (p.zipIdx 0).all (λz=>vT t p z.2 z.1)<;>rfl
theorem cC6{t:den tTo}{p:den tPt}(ht:t.1.length<=68719476736)(ht2:t.2.length<=68719476736)(h:SmB 68719476736 tPt p):mA t p=some (wfP t p):=by
 have lp:=h.1;have lh:∀(k:Nat) (x:den tPp),p[k]? =some x->x.2.2.2.length<=68719476736:=λk x hx=>(h.2 x (cE9 hx)).2.2.2.1
 unfold mA wfP pj2 pj4;rw[aOs (λk (_:Unit)=>(k:Int)) (0:Int) () p (λk x _=>if vT t p k x then .inl () else .inr (.inr false)) (λk _=> ∀j y,j<k->p[j]? =some y->0<y.2.2.2.length) (λ_=> .inl ()) rfl (by omega) (λj y hj=>absurd hj (cH6 _)) (λk x a hi hx hd hw hk hI=>by
  have hlx:=lh k x hx;refine⟨?_,λa' ha j y hj hy=> ?_⟩
  .simp only[hd,zZ,hi,aA,aP,bM1 ht ht2 hlx,hw];cases hv:fO t x with
   | false=>unfold vT;rw[hv];rfl
   | true=>
    cases k with
    | zero=>
     rw[show decide (((0:Nat):Int)>0)=false from by decide];unfold vT;rw[hv];rfl
    | succ j=>
     have hw1:wr (((j+1:Nat):Int) - 1)=(j:Int):=(wri (by omega) (by omega)).trans (by omega);obtain⟨y,hy⟩:∃y,p[j]? =some y:=⟨_,cEx (by omega)⟩
     rw[show decide (((j+1:Nat):Int)>0)=true from by simp];simp only[hw1,aR,hy,aA,bP8,bAb (hI j y (Nat.lt_succ_self j) hy) (lh j y hy),aZ8 (zG hv),zZ,aBy,cE2,zY];unfold vT aLc;rw[cH9,hy,cFy,hv];cases decide (aB3 y.1>=aB3 x.1)<;>cases (aBo y).1==(aDa x).1<;>rfl
  .rcases Nat.lt_succ_iff_lt_or_eq.1 hj with hj | rfl
   .exact hI j y hj hy
   .rw[hx]at hy;injection hy with hy;subst hy;rcases cHy (vT t p j x) with hb | hb
    .unfold vT at hb;rw[cEw]at hb;exact zG hb.1
    .simp[hb]at ha) (λa _=>by simp)]
 rw[aD2 (vT t p),iY,aA];cases inR (p.length:Int) 1 3<;>cases (p.zipIdx 0).all (λz=>vT t p z.2 z.1)<;>rfl
def aDs(l:List Int)(k:Nat)(n:Int):Bool:= !rV (l.take k) n
def qQ(t:den tTo)(p:den tPt):Bool:=wfP t p&&((fC p).zipIdx 0).all λz=>aDs (fC p) z.2 z.1
theorem aO2{p:den tPt}(h:tot tPt p<=1073741824):SmB 68719476736 tPt p:=(bR h).mono (by decide)
theorem bNb{t:den tTo}{p:den tPt}(ht:t.1.length<=68719476736)(ht2:t.2.length<=68719476736)(h:tot tPt p<=1073741824):sS t p=some (qQ t p):=by
 have hu:=aIs p;unfold sS qQ pj2;simp only[aP,cDj ht ht2 (aO2 h),bD9 h,aA];rw[aOs (λk (_:Unit)=>(fC p,fC p,(k:Int))) (fC p,fC p,(0:Int)) () (fC p) (λk x _=>if aDs (fC p) k x then .inl () else .inr (.inr false)) (λ_ _=>True) (λ_=> .inl ()) rfl (by omega) trivial (λk x a hi hx hd hw hk _=>by
  refine⟨?_,λ_ _=>trivial⟩;simp only[hd,zZ,hi,aA,yK hk,jU,hw,aY8 (l:=(fC p).take k) (n:=x) (by simp;omega)];unfold aDs;cases rV ((fC p).take k) x<;>rfl) (λa _=>by simp)]
 rw[aD2 (aDs (fC p))];cases wfP t p<;>cases ((fC p).zipIdx 0).all (λz=>aDs (fC p) z.2 z.1)<;>rfl
theorem aVq{t:den tTo}{p:den tPt}(ht:t.1.length<=68719476736)(ht2:t.2.length<=68719476736)(h:tot tPt p<=1073741824):lP t p=some (qQ t p):=by
 have hu:=aIs p;unfold lP qQ pj2;simp only[aP,cC6 ht ht2 (aO2 h),bDv h,aA];rw[aOs (λk (_:Unit)=>(fC p,(k:Int))) (fC p,(0:Int)) () (fC p) (λk x _=>if aDs (fC p) k x then .inl () else .inr (.inr false)) (λ_ _=>True) (λ_=> .inl ()) rfl (by omega) trivial (λk x a hi hx hd hw hk _=>by
  refine⟨?_,λ_ _=>trivial⟩;simp only[hd,zZ,hi,aA,yK hk,jU,hw,aHq (l:=(fC p).take k) (n:=x) (by simp;omega)];unfold aDs;cases rV ((fC p).take k) x<;>rfl) (λa _=>by simp)]
 rw[aD2 (aDs (fC p))];cases wfP t p<;>cases ((fC p).zipIdx 0).all (λz=>aDs (fC p) z.2 z.1)<;>rfl
def bM(p:den tPk):den tPp:=(p.2.2.2.1[p.2.2.2.2.1.toNat]?).getD pt0
def cW(p:den tPk):den bU:=((bM p).2.2.2[p.2.2.2.2.2.1.toNat]?).getD h0
theorem fX{p:den tPk}(h:cH p=true):∃(i j:Nat),p.2.2.2.2.1=(i:Int)/\p.2.2.2.2.2.1=(j:Int)/\p.2.2.2.1[i]? =some (bM p)/\(bM p).2.2.2[j]? =some (cW p)/\cD p=(cW p).1:=by
 obtain⟨i,j,x,y,h1,h2,h3,h4,h5⟩:=aDj h;have e1:bM p=x:=by unfold bM;rw[h1,cE0,h3];rfl
 have e2:cW p=y:=by unfold cW;rw[e1,h2,cE0,h4];rfl
 exact⟨i,j,h1,h2,by rw[e1];exact h3,by rw[e1,e2];exact h4,by rw[e2];exact h5⟩
theorem aGv{p:den tPk}(h:0<=cD p):cH p=true:=by
 cases c:cH p with
 | true=>rfl
 | false=>rw[aAg c]at h;omega
theorem fY{p:den tPk}(h:tot tPk p<=34359738368):SmB 68719476736 tPk p:=(bR h).mono (by decide)
theorem aA8{p:den tPk}(h:SmB 68719476736 tPk p){i:Nat}{x:den tPp}(hx:p.2.2.2.1[i]? =some x):x.2.2.2.length<=68719476736:=(h.2.2.2.1.2 x (cE9 hx)).2.2.2.1
def cQ(p:den tPk):Bool:=p.2.2.2.2.2.1==((bM p).2.2.2.length:Int) - 1
def aE0(p:den tPk):Bool:=p.2.2.2.2.1==(p.2.2.2.1.length:Int) - 1
def dG(p:den tPk):Bool:=decide (cD p>=0)&&(cQ p&&aE0 p)
theorem aQr{p:den tPk}(h:SmB 68719476736 tPk p)(hh:cH p=true):iL p=some (cQ p):=by
 obtain⟨i,j,h1,h2,h3,h4,_⟩:=fX hh;unfold iL cQ zz4 zz5;rw[h1,aR,h3,aA,oI (aA8 h h3)]
theorem aQe{p:den tPk}(h:SmB 68719476736 tPk p):mI p=some (dG p):=by
 unfold mI dG aM zz4;simp only[aP,aGk h,aA];cases c:decide (cD p>=0)
 .rfl
 .have hh:=aGv (of_decide_eq_true c);have l1:=h.2.2.2.1.1;simp only[zZ,aQr h hh,aA,oI l1];unfold aE0;cases cQ p<;>rfl
theorem bBy{p:den tPk}(h:SmB 68719476736 tPk p):nM p=some (dG p):=by
 unfold nM dG aM zz4 zz5;simp only[aP,aGn h,aA];cases c:decide (cD p>=0)
 .rfl
 .have hh:=aGv (of_decide_eq_true c);have l1:=h.2.2.2.1.1;obtain⟨i,j,h1,h2,h3,h4,_⟩:=fX hh;simp only[zZ,oI l1];unfold aE0 cQ;rw[h1,aR,h3,aA,oI (aA8 h h3)];cases p.2.2.2.2.2.1==((bM p).2.2.2.length:Int) - 1<;>cases (i:Int)==(p.2.2.2.1.length:Int) - 1<;>rfl
theorem aGt{p:den tPk}(h:SmB 68719476736 tPk p):dV p=some (pkR p):=by
 unfold dV pkR zz4 zz5 zz6 zz7 zz8 zz9;rw[aOl h.2.2.2.1,aJy h.2.2.2.2.2.2.2.2.2.1];rfl
theorem aCs{p:den tPk}(h:SmB 68719476736 tPk p):fK p=some (pkR p):=by
 unfold fK pkR zz4 zz5 zz6 zz7 zz8 zz9;rw[aGu h.2.2.2.1,aF (b:=1) (n:=([]:List Int).length) (by decide) (by simpa using h.2.2.2.2.2.2.2.2.2.1)];simp
def goTo(p:den tPk)(i j b:Int):den tPk:=(p.1,p.2.1,p.2.2.1,p.2.2.2.1,i,j,b,p.2.2.2.2.2.2.2.1,p.2.2.2.2.2.2.2.2.1,p.2.2.2.2.2.2.2.2.2)
def sK(p:den tPk):den tPp:=(p.2.2.2.1[p.2.2.2.2.1.toNat+1]?).getD pt0
def adv(p:den tPk):den tPk:=
 if decide (cD p<0)||dG p then p
 else if cQ p then goTo p (p.2.2.2.2.1+1) 0 (sK p).2.2.1 else goTo p p.2.2.2.2.1 (p.2.2.2.2.2.1+1) p.2.2.2.2.2.2.1
theorem aTz{p:den tPk}(hh:cH p=true)(h0:0<=cD p)(hl:cQ p=true)(ha:dG p=false):∃i:Nat,p.2.2.2.2.1=(i:Int)/\p.2.2.2.1[i+1]? =some (sK p):=by
 obtain⟨i,j,h1,h2,h3,h4,_⟩:=fX hh;refine⟨i,h1,?_⟩;have hlt:=(cEz.1 h3).1;have hne:aE0 p=false:=by
  unfold dG at ha;rw[hl,zX h0]at ha;simpa using ha
 unfold aE0 at hne;rw[h1]at hne;have hne: ¬ ((i:Int)=(p.2.2.2.1.length:Int) - 1):=by simpa using hne
 unfold sK;rw[h1,cE0,cEx (show i+1<p.2.2.2.1.length by omega)];rfl
theorem bTx{p:den tPk}(h:SmB 68719476736 tPk p):nS p=some (pkR (adv p)):=by
 unfold nS adv aM pj2 zz4 zz5 zz6 zz7 zz8;simp only[aP,aGt h,aGk h,aQe h,aA];cases c:decide (cD p<0)
 .cases ca:dG p
  .have h0:0<=cD p:=by have :=of_decide_eq_false c;omega
   have hh:=aGv h0;obtain⟨i,j,h1,h2,h3,h4,_⟩:=fX hh;have hlt:=(cEz.1 h3).1;have hlt2:=(cEz.1 h4).1;have l1:cFd p.2.2.2.1<=68719476736:=h.2.2.2.1.1;have l2:=aA8 h h3;simp only[zY,aA,aQr h hh,cGn,cE1,zU];cases cl:cQ p
   .simp only[zY,aA,cE1,zU];unfold pkR goTo;rw[h2,show wr ((j:Int)+1)=(j:Int)+1 from wri (by omega) (by omega)]
   .obtain⟨i',e1,e2⟩:=aTz hh h0 cl ca;have :i'=i:=Int.ofNat.inj (e1.symm.trans h1);subst this;have hw:wr (((i':Nat):Int)+1)=((i'+1:Nat):Int):=(wri (by omega) (by omega)).trans (by omega);simp only[zZ,zV];unfold pkR goTo;simp only[h1,hw,aR,e2,aA];rw[show ((i'+1:Nat):Int)=(i':Int)+1 by omega]
  .rfl
 .rfl
theorem bIj{p:den tPk}(h:SmB 68719476736 tPk p):iP p=some (pkR (adv p)):=by
 unfold iP adv aM pj4 pj5 zz4 zz5 zz6;simp only[aP,aCs h,aGn h,bBy h,aA];cases c:decide (cD p<0)
 .cases ca:dG p
  .have h0:0<=cD p:=by have :=of_decide_eq_false c;omega
   have hh:=aGv h0;obtain⟨i,j,h1,h2,h3,h4,_⟩:=fX hh;have hlt:=(cEz.1 h3).1;have hlt2:=(cEz.1 h4).1;have l1:cFd p.2.2.2.1<=68719476736:=h.2.2.2.1.1;have l2:=aA8 h h3;have hd:decide ((j:Int)<((bM p).2.2.2.length:Int) - 1)= !cQ p:=by
    have key:decide ((j:Int)<((bM p).2.2.2.length:Int) - 1)= !((j:Int)==((bM p).2.2.2.length:Int) - 1):=by
     rw[cFm];simp only[zR,cFu,beq_eq_false_iff_ne,ne_eq];omega
    unfold cQ;rw[h2];exact key
   simp only[zY,aA,cGn,cE1,zU,h1,h2,aR,h3,oI l2,hd];cases cl:cQ p
   .simp only[cFa,zZ,cE1,zU];unfold pkR goTo;rw[show wr ((j:Int)+1)=(j:Int)+1 from wri (by omega) (by omega)];simp only[h1]
   .obtain⟨i',e1,e2⟩:=aTz hh h0 cl ca;have :i'=i:=Int.ofNat.inj (e1.symm.trans h1);subst this;have hw:wr (((i':Nat):Int)+1)=((i'+1:Nat):Int):=(wri (by omega) (by omega)).trans (by omega);simp only[cE2,zY,zV];unfold pkR goTo;simp only[hw,aR,e2,aA];rw[show ((i'+1:Nat):Int)=(i':Int)+1 by omega]
  .rfl
 .rfl
def bef(p:den tPk):Int:=if hZ (bM p).1 then aLr p.2.2.2.2.2.2.1 (cW p).2.2.2.2 else p.2.2.2.2.2.2.1
def aft(p:den tPk):Int:=if hZ (bM p).1 then aLr p.2.2.2.2.2.2.1 (cW p).2.2.2.2 else aK6 p.2.2.2.2.2.2.1 (cW p).2.2.2.2
def aBe(t:den tTo)(p:den tPk):Bool:=cH p&&aAn t (bM p).2.1 (bef p) (cW p)
def aT(t:den tTo)(p:den tPk):den tPk:=if aBe t p then goTo p p.2.2.2.2.1 p.2.2.2.2.2.1 (aft p) else p
def oP(p:den tPk)(b:Bool):q9:=(p.1,p.2.1,p.2.2.1,p.2.2.2.2.1,p.2.2.2.2.2.1,p.2.2.2.2.2.2.1,p.2.2.2.2.2.2.2.1,p.2.2.2.2.2.2.2.2.1,b,p.2.2.2.1,p.2.2.2.2.2.2.2.2.2)
theorem cAx{t:den tTo}{p:den tPk}(ht:t.1.length<=68719476736)(h:SmB 68719476736 tPk p):jK t p=some (oP (aT t p) (aBe t p)):=by
 unfold jK aT aBe aM pj2 pj5 zz4 zz5 zz6 zz7 zz8;simp only[aP,aGt h,bVd h,aA];cases c:cH p
 .rfl
 .obtain⟨i,j,h1,h2,h3,h4,_⟩:=fX c;simp only[h1,h2,aR,h3,h4,aA,aOc,bMw,bO7,cE2,zY,cFf];unfold bef aft;cases hZ (bM p).1
  .simp only[zY,aA,bLu ht,cE1,zU];cases aAn t (bM p).2.1 p.2.2.2.2.2.2.1 (cW p)
   .simp only[cFa,zZ,cE1,zU];unfold oP pkR;simp only[h1,h2]
   .simp only[cE2,zY,zV];unfold oP pkR goTo;simp only[h1,h2]
  .simp only[zZ,aA,bLu ht,zV];cases aAn t (bM p).2.1 (aLr p.2.2.2.2.2.2.1 (cW p).2.2.2.2) (cW p)
   .simp only[cFa,zZ,cE1,zU];unfold oP pkR;simp only[h1,h2]
   .simp only[cE2,zY,zV];unfold oP pkR goTo;simp only[h1,h2]
theorem bFj{t:den tTo}{ts b:Int}{h:den bU}(hv:h.1<0):aAn t ts b h=false:=by
 unfold aAn jW;rw[bFw.2 (λhh=>absurd hv (Int.not_lt.2 hh.1))];rfl
theorem cBg{t:den tTo}{p:den tPk}(ht:t.1.length<=68719476736)(h:SmB 68719476736 tPk p):jI t p=some (oP (aT t p) (aBe t p)):=by
 unfold jI aT aBe aM pj2 pj5 zz4 zz5 zz6 zz7 zz8;simp only[aP,aCs h,aGn h,aA];cases c:cH p
 .rw[aAg c];rfl
 .obtain⟨i,j,h1,h2,h3,h4,h5⟩:=fX c;rw[h5]
  by_cases hn:(cW p).1<0
  .rw[zX hn,bFj hn];rfl
  .simp only[zW hn,zY,h1,h2,aR,h3,h4,aA,aGz,aRp,bN9,cFf,aYu ht];unfold bef aft;cases hZ (bM p).1
   .simp only[zY,cE1,zU];cases aAn t (bM p).2.1 p.2.2.2.2.2.2.1 (cW p)
    .simp only[cFa,zZ,cE1,zU];unfold oP pkR;simp only[h1,h2]
    .simp only[cE2,zY,zV];unfold oP pkR goTo;simp only[h1,h2]
   .simp only[zZ,zV];cases aAn t (bM p).2.1 (aLr p.2.2.2.2.2.2.1 (cW p).2.2.2.2) (cW p)
    .simp only[cFa,zZ,cE1,zU];unfold oP pkR;simp only[h1,h2]
    .simp only[cE2,zY,zV];unfold oP pkR goTo;simp only[h1,h2]
def zF(p:den tPk)(now:Int):Bool:= !decide (cD p<0)&&(decide ((bM p).2.1<=now)&&decide (now<=(cW p).2.2.2.1))
theorem bTk{p:den tPk}{now:Int}(h:SmB 68719476736 tPk p):hP p now=some (zF p now):=by
 unfold hP zF aM pj5 zz4 zz5;simp only[aP,aGk h,aA];cases c:decide (cD p<0)
 .have hh:=aGv (p:=p) (by have :=of_decide_eq_false c;omega);obtain⟨i,j,h1,h2,h3,h4,h5⟩:=fX hh;simp only[zY,h1,h2,aR,h3,h4,aA,vG];cases decide ((bM p).2.1<=now)<;>rfl
 .rfl
theorem bQn{p:den tPk}{now:Int}(h:SmB 68719476736 tPk p):kP p now=some (zF p now):=by
 unfold kP zF aM pj5 zz4 zz5;simp only[aP,aGn h,aA];cases c:decide (cD p<0)
 .have hh:=aGv (p:=p) (by have :=of_decide_eq_false c;omega);obtain⟨i,j,h1,h2,h3,h4,h5⟩:=fX hh;simp only[zY,h1,h2,aR,h3,h4,aA,nO];cases decide ((bM p).2.1<=now)<;>rfl
 .rfl
def cN(t:den tTo)(now:Int)(p:den tPk):Int:=if aBe t p then (if zF p now then 0 else 5) else 4
def goC(t:den tTo)(now:Int):Nat->den tPk->Int×den tPk
 | 0,p=>(cN t now p,aT t p)
 | n+1,p=>if cN t now p==0&&(cQ (aT t p)&& !dG (aT t p)) then goC t now n (adv (aT t p)) else (cN t now p,aT t p)
theorem aBs(t:den tTo)(p:den tPk):tot tPk (aT t p)=tot tPk p:=by
 unfold aT;split<;>rfl
theorem aGw(p:den tPk):tot tPk (adv p)=tot tPk p:=by
 unfold adv;split
 .rfl
 .split<;>rfl
theorem bDk(t:den tTo)(p:den tPk)(now:Int):zF (aT t p) now=zF p now:=by
 unfold aT;split<;>rfl
theorem wR(t:den tTo)(p:den tPk):cH (aT t p)=cH p/\cD (aT t p)=cD p/\cW (aT t p)=cW p/\(aT t p).2.2.2.1=p.2.2.2.1/\(aT t p).2.2.2.2.1=p.2.2.2.2.1:=by
 unfold aT;split<;>exact⟨rfl,rfl,rfl,rfl,rfl⟩
theorem vD{t:den tTo}{now:Int}{p:den tPk}(h:cN t now p=0):cH p=true/\0<=cD p:=by
 unfold cN at h;split at h
 .rename_i hs;unfold aBe at hs;rw[cEw]at hs;refine⟨hs.1,?_⟩;obtain⟨i,j,h1,h2,h3,h4,h5⟩:=fX hs.1;rw[h5]
  by_cases hn:(cW p).1<0
  .rw[bFj hn]at hs;cases hs.2
  .exact Int.not_lt.1 hn
 .cases h
theorem aZi{p:den tPk}(h0:0<=cD p)(hc:(cQ p&& !dG p)=true):(adv p).2.2.2.1=p.2.2.2.1/\(adv p).2.2.2.2.1=p.2.2.2.2.1+1:=by
 rw[cEw]at hc;have ha:dG p=false:=by simpa using hc.2
 unfold adv;rw[zW (by omega),ha,hc.1];exact⟨rfl,rfl⟩
theorem bE9{t:den tTo}{now:Int}{S R:Type}(enc:Int->den tPk->S)(out:S->R){step:S->Option (S⊕R)}(st:den tPk->den tPk)(hst:∀p,cN t now p=0->st p=aT t p)
  (hstop:∀c p,c≠0->step (enc c p)=some (.inr (out (enc c p))))
  (hgo:∀q,tot tPk q<=34359738368->cH q=true->0<=cD q->step (enc 0 q)=some (if cQ q&& !dG q then .inl (enc (cN t now (adv q)) (st (adv q))) else .inr (out (enc 0 q)))):
  ∀(n:Nat) (p:den tPk),tot tPk p<=34359738368->p.2.2.2.1.length - p.2.2.2.2.1.toNat<=n-> ∃r,aD step (enc (cN t now p) (st p))=some (out (enc (goC t now n p).1 r))/\((goC t now n p).1=0->r=(goC t now n p).2):=by
 intro n
 induction n with
 | zero=>
  intro p hp hm
  by_cases hc:cN t now p=0
  .obtain⟨hh,h0⟩:=vD hc;obtain⟨i,j,h1,h2,h3,h4,h5⟩:=fX hh;have hlt:=(cEz.1 h3).1;rw[h1,cE0]at hm;exact absurd hlt (by omega)
  .exact⟨_,bH (hstop _ _ hc),λh=>absurd h hc⟩
 | succ n ih=>
  intro p hp hm
  by_cases hc:cN t now p=0
  .obtain⟨hh,h0⟩:=vD hc;obtain⟨e1,e2,e3,e4,e5⟩:=wR t p;have hq:=hgo (aT t p) (by rw[aBs];exact hp) (by rw[e1];exact hh) (by rw[e2];exact h0);rw[hst p hc];cases hb:cQ (aT t p)&& !dG (aT t p) with
   | false=>
    rw[hb]at hq;have hg:goC t now (n+1) p=(cN t now p,aT t p):=by
     show (if _ then _ else _)=_;rw[hb,cGt];rfl
    rw[hg,hc];exact⟨aT t p,bH hq,λ_=>rfl⟩
   | true=>
    rw[hb,zT rfl]at hq;have hg:goC t now (n+1) p=goC t now n (adv (aT t p)):=by
     show (if _ then _ else _)=_;rw[hb,hc];rfl
    rw[hg,hc,cY hq];obtain⟨a1,a2⟩:=aZi (p:=aT t p) (by rw[e2];exact h0) hb;obtain⟨i,j,h1,h2,h3,h4,h5⟩:=fX hh;refine ih (adv (aT t p)) (by rw[aGw,aBs];exact hp) ?_;rw[a1,a2,e4,e5,h1];rw[h1,cE0]at hm;have :((i:Int)+1).toNat=i+1:=by omega
    rw[this];omega
  .have hg:goC t now (n+1) p=(cN t now p,aT t p):=by
    show (if _ then _ else _)=_;rw[show (cN t now p==0)=false from by simpa using hc];rfl
   rw[hg];exact⟨_,bH (hstop _ _ hc),λh=>absurd h hc⟩
def aGg(p:den tPk):Int:=if p.2.2.2.2.1==0&&p.2.2.2.2.2.1==0 then 0 else pIn (bM p) (cW p)
def bB(t:den tTo)(now:Int)(p:den tPk):Int×den tPk:=goC t now (p.2.2.2.1.length - p.2.2.2.2.1.toNat) p
def fwd(t:den tTo)(r now dead inn:Int)(p:den tPk):Int×Int×den tPk×Int:=
 if !dC p||(!qQ t p.2.2.2.1|| !(cD p==r)) then (2,0,p,0)
 else if !(inn==aGg p) then (3,0,p,0)
 else if !((bB t now p).1==0) then ((bB t now p).1,0,p,0)
 else if dG (bB t now p).2 then (if (bB t now p).2.2.2.1==r then (1,0,(bB t now p).2,0) else (2,0,p,0))
 else if !aLn t (r,inn,pEg (bM (bB t now p).2) (cW (bB t now p).2)) then (6,0,p,0)
 else if aBj dead (pEg (bM (bB t now p).2) (cW (bB t now p).2)) then (7,0,p,pEg (bM (bB t now p).2) (cW (bB t now p).2))
 else (0,pEg (bM (bB t now p).2) (cW (bB t now p).2),adv (bB t now p).2,pEg (bM (bB t now p).2) (cW (bB t now p).2))
def fwI(v:Int×Int×den tPk×Int):Int×Int×q20:=
 (v.1,v.2.1,v.2.2.1.1,v.2.2.1.2.1,v.2.2.1.2.2.1,v.2.2.1.2.2.2.1,v.2.2.1.2.2.2.2.1,v.2.2.1.2.2.2.2.2.1,v.2.2.1.2.2.2.2.2.2.1,v.2.2.1.2.2.2.2.2.2.2.1,v.2.2.1.2.2.2.2.2.2.2.2.1,v.2.2.1.2.2.2.2.2.2.2.2.2,v.2.2.2)
def fwS(v:Int×Int×den tPk×Int):Int×Int×q3:=(v.1,v.2.1,pkR v.2.2.1)
theorem aBv{t:den tTo}{now:Int}:∀(n:Nat) (p:den tPk),(goC t now n p).1=0->cH (goC t now n p).2=true/\0<=cD (goC t now n p).2/\tot tPk (goC t now n p).2=tot tPk p
 | 0,p,h=>by
  obtain⟨h1,h2⟩:=vD (show cN t now p=0 from h);obtain⟨e1,e2,_⟩:=wR t p;exact⟨e1.trans h1,by rw[show (goC t now 0 p).2=aT t p from rfl,e2];exact h2,aBs t p⟩
 | n+1,p,h=>by
  unfold goC at h|-;split at h
  .rename_i hc;rw[zT hc];obtain⟨h1,h2,h3⟩:=aBv n _ h;exact⟨h1,h2,by rw[h3,aGw,aBs]⟩
  .rename_i hc;rw[zS hc];obtain⟨h1,h2⟩:=vD (show cN t now p=0 from h);obtain⟨e1,e2,_⟩:=wR t p;exact⟨e1.trans h1,by rw[show (cN t now p,aT t p).2=aT t p from rfl,e2];exact h2,aBs t p⟩
def aAa(t:den tTo)(now:Int)(p:den tPk):den tPk:=if cN t now p=0 then aT t p else p
def aDo(p:den tPk)(c:Int):q20:=(p.1,p.2.1,p.2.2.1,p.2.2.2.1,p.2.2.2.2.1,p.2.2.2.2.2.1,p.2.2.2.2.2.2.1,p.2.2.2.2.2.2.2.1,p.2.2.2.2.2.2.2.2.1,p.2.2.2.2.2.2.2.2.2,c)
def aEh(p:den tPk)(c:Int):Int×q3:=(p.1,p.2.1,p.2.2.1,p.2.2.2.2.1,p.2.2.2.2.2.1,p.2.2.2.2.2.2.1,p.2.2.2.2.2.2.2.1,p.2.2.2.2.2.2.2.2.1,c,p.2.2.2.1,p.2.2.2.2.2.2.2.2.2)
theorem bT4{t:den tTo}{now:Int}{p:den tPk}(ht:t.1.length<=68719476736)(h:tot tPk p<=34359738368):mP t now p=some (aDo (aAa t now p) (cN t now p)):=by
 unfold mP aM pj2 aO zz4 zz5 zz6 zz7 zz8 zz9;simp only[aP,cAx ht (fY h),aA];unfold aAa cN;cases c:aBe t p
 .simp only[oP,cFa,zZ,cE1,zU];rfl
 .have hs:tot tPk (aT t p)<=34359738368:=by rw[aBs];exact h
  have key:hP ((oP (aT t p) true).1,(oP (aT t p) true).2.1,(oP (aT t p) true).2.2.1,(oP (aT t p) true).2.2.2.2.2.2.2.2.2.1,(oP (aT t p) true).2.2.2.1,(oP (aT t p) true).2.2.2.2.1,(oP (aT t p) true).2.2.2.2.2.1,(oP (aT t p) true).2.2.2.2.2.2.1,(oP (aT t p) true).2.2.2.2.2.2.2.1,(oP (aT t p) true).2.2.2.2.2.2.2.2.2.2) now=some (zF p now):=by
   rw[<- bDk t p now];exact bTk (fY hs)
  rw[key];simp only[oP,cE2,zY,aA,zV];cases zF p now
  .simp only[cFa,zZ,cE1,zU];rfl
  .simp only[cE2,zY,zV];rfl
theorem bUm{t:den tTo}{now:Int}{p:den tPk}(ht:t.1.length<=68719476736)(h:tot tPk p<=34359738368):pG t now p=some (aEh (aT t p) (cN t now p)):=by
 unfold pG aM pj2 zz4 zz5 zz6 zz7 zz8 zz9;simp only[aP,cBg ht (fY h),bQn (fY h),aA];unfold cN;cases c:aBe t p
 .simp only[oP,cFa,zZ,cE1,zU];rfl
 .simp only[oP,cE2,zY,zV];cases zF p now
  .simp only[cFa,zZ,cE1,zU];rfl
  .simp only[cE2,zY,zV];rfl
theorem aQ4{p:den tPk}(h:dC p=true):cH p=true:=by
 unfold dC at h;simp only[cEw]at h;exact h.2.2.1
theorem bUk{c:Int}{p:den tPk}(h:tot tPk p<=34359738368):mT c p=some (c,0,p.1,p.2.1,p.2.2.1,p.2.2.2.2.1,p.2.2.2.2.2.1,p.2.2.2.2.2.2.1,p.2.2.2.2.2.2.2.1,p.2.2.2.2.2.2.2.2.1,p.2.2.2.1,p.2.2.2.2.2.2.2.2.2,p.1,p.2.1,p.2.2.1,p.2.2.2.1,p.2.2.2.2.1,p.2.2.2.2.2.1,p.2.2.2.2.2.2.1,p.2.2.2.2.2.2.2.1,p.2.2.2.2.2.2.2.2.1,p.2.2.2.2.2.2.2.2.2):=by
 unfold mT aM zz4 zz5 zz6 zz7 zz8 zz9;simp only[aP,aGt (fY h),aA];rfl
theorem bUa{c:Int}{p:den tPk}(h:tot tPk p<=34359738368):uY c p=some (c,0,pkR p):=by
 unfold uY aM;simp only[aP,aCs (fY h),aA]
theorem aJf{p:den tPk}{N:Nat}(h:tot tPk p<=N):tot tPt p.2.2.2.1<=N:=(aOx h).1
theorem bIl{t:den tTo}{r now dead inn:Int}{p:den tPk}(ht:t.1.length<=68719476736)(ht2:t.2.length<=68719476736)(h:tot tPk p<=34359738368)(hpp:tot tPt p.2.2.2.1<=1073741824):tM t r now dead inn p=some (fwI (fwd t r now dead inn p)):=by
 unfold tM fwd aM aK1 pj2 pj4 aO bC zz4 zz5 zz6 zz7 zz8 zz9;simp only[aP,bP2 (fY h),bNb ht ht2 hpp,aGk (fY h),aA,aBy,bUk h];cases cv:dC p
 .simp only[cFa,cGz,zZ,aA,zV];rfl
 .cases cs:qQ t p.2.2.2.1
  .simp only[cE2,cFa,cGz,cG4,zZ,zY,aA,zV];rfl
  .cases cr:cD p==r
   .simp only[cE2,cFa,cGz,cG4,zZ,zY,aA,zV];rfl
   .simp only[cE2,cGn,zY,aA,cE1,zU];obtain⟨i,j,h1,h2,h3,h4,h5⟩:=fX (aQ4 cv);have hl:=aA8 (fY h) h3;have hw:(@Option.bind Bool Int (cond (p.2.2.2.2.1==(0:Int)) (some (p.2.2.2.2.2.1==(0:Int))) (some false)) λ(s8:Bool)=>cond s8 (some (0:Int)) (some (pIn (bM p) (cW p))))=some (aGg p):=by
     unfold aGg;cases p.2.2.2.2.1==0<;>cases p.2.2.2.2.2.1==0<;>rfl
    have hp1:idx p.2.2.2.1 p.2.2.2.2.1=some (bM p):=by rw[h1,aR];exact h3
    have hp2:gC (bM p) p.2.2.2.2.2.1=some (pIn (bM p) (cW p)):=by rw[h2];exact bJs h4 hl
    rw[hp1,aA,hp2,aA,hw,aA];cases ci:inn==aGg p
    .simp only[cFa,zZ,zV,aA];rfl
    .simp only[cE2,zY,cE1,zU,aGt (fY h),aA];have hc:mP t now ((pkR p).1,(pkR p).2.1,(pkR p).2.2.1,(pkR p).2.2.2.2.2.2.2.2.1,(pkR p).2.2.2.1,(pkR p).2.2.2.2.1,(pkR p).2.2.2.2.2.1,(pkR p).2.2.2.2.2.2.1,(pkR p).2.2.2.2.2.2.2.1,(pkR p).2.2.2.2.2.2.2.2.2)=some (aDo (aAa t now p) (cN t now p)):=bT4 ht h;rw[hc];simp only[aA,aW,bN,bF,bE,bG];obtain⟨q,hq1,hq2⟩:=bE9 (t:=t) (now:=now) (S:=Int×den tPk) (R:=Int×den tPk) (λc p=>(c,p)) id (step:=λs23=> @Option.bind Bool _ (cond (s23.1==(0:Int)) (Option.bind (iL s23.2) λy24=>cond y24 (Option.bind (mI s23.2) λy25=>some (!y25)) (some false)) (some false)) λ(s26:Bool)=>cond s26 (Option.bind (nS s23.2) λy27=>Option.bind (mP t now (y27.1,y27.2.1,y27.2.2.1,y27.2.2.2.2.2.2.2.2.1,y27.2.2.2.1,y27.2.2.2.2.1,y27.2.2.2.2.2.1,y27.2.2.2.2.2.2.1,y27.2.2.2.2.2.2.2.1,y27.2.2.2.2.2.2.2.2.2)) λy28=>some (cEu (y28.2.2.2.2.2.2.2.2.2.2,y28.1,y28.2.1,y28.2.2.1,y28.2.2.2.1,y28.2.2.2.2.1,y28.2.2.2.2.2.1,y28.2.2.2.2.2.2.1,y28.2.2.2.2.2.2.2.1,y28.2.2.2.2.2.2.2.2.1,y28.2.2.2.2.2.2.2.2.2.1))) (some (cEt s23))) (aAa t now) (λp hp=>zT hp) (λc p hc=>by
       have :(c==0)=false:=by simpa using hc
       simp only[this,zY,aA,id]) (λq hq hh h0=>by
       have e:mP t now ((pkR (adv q)).1,(pkR (adv q)).2.1,(pkR (adv q)).2.2.1,(pkR (adv q)).2.2.2.2.2.2.2.2.1,(pkR (adv q)).2.2.2.1,(pkR (adv q)).2.2.2.2.1,(pkR (adv q)).2.2.2.2.2.1,(pkR (adv q)).2.2.2.2.2.2.1,(pkR (adv q)).2.2.2.2.2.2.2.1,(pkR (adv q)).2.2.2.2.2.2.2.2.2)=some (aDo (aAa t now (adv q)) (cN t now (adv q))):=bT4 (p:=adv q) ht (by rw[aGw];exact hq);simp only[beq_self_eq_true,zZ,aQr (fY hq) hh,aQe (fY hq),bTx (fY hq),aA,e];cases cQ q<;>cases dG q<;>rfl) _ p h (cE8 _)
     have hq1:aD _ (cN t now p,aAa t now p)=some ((bB t now p).1,q):=hq1;have hq2:(bB t now p).1=0->q=(bB t now p).2:=hq2;have e0:(((aDo (aAa t now p) (cN t now p)).2.2.2.2.2.2.2.2.2.2,(aDo (aAa t now p) (cN t now p)).1,(aDo (aAa t now p) (cN t now p)).2.1,(aDo (aAa t now p) (cN t now p)).2.2.1,(aDo (aAa t now p) (cN t now p)).2.2.2.1,(aDo (aAa t now p) (cN t now p)).2.2.2.2.1,(aDo (aAa t now p) (cN t now p)).2.2.2.2.2.1,(aDo (aAa t now p) (cN t now p)).2.2.2.2.2.2.1,(aDo (aAa t now p) (cN t now p)).2.2.2.2.2.2.2.1,(aDo (aAa t now p) (cN t now p)).2.2.2.2.2.2.2.2.1,(aDo (aAa t now p) (cN t now p)).2.2.2.2.2.2.2.2.2.1):Int×den tPk)=(cN t now p,aAa t now p):=rfl;rw[e0,hq1,aA]
     by_cases hz:(bB t now p).1=0
     .have hqq:=hq2 hz;subst hqq;obtain⟨g1,g2,g3⟩:=aBv _ p hz;have g1:cH (bB t now p).2=true:=g1;have g2:0<=cD (bB t now p).2:=g2;have g3:tot tPk (bB t now p).2=tot tPk p:=g3;have hg:tot tPk (bB t now p).2<=34359738368:=by rw[g3];exact h
      obtain⟨i',j',k1,k2,k3,k4,k5⟩:=fX g1;have hl':=aA8 (fY hg) k3;have q1:idx (bB t now p).2.2.2.2.1 (bB t now p).2.2.2.2.2.1=some (bM (bB t now p).2):=by rw[k1,aR];exact k3
      have q2:gP (bM (bB t now p).2) (bB t now p).2.2.2.2.2.2.1=some (pEg (bM (bB t now p).2) (cW (bB t now p).2)):=by rw[k2];exact bJ9 k4 hl'
      simp only[hz,beq_self_eq_true,cE2,zY,cE1,zU,aQe (fY hg),aA];cases ca:dG (bB t now p).2
      .simp only[zY,cE1,zU,q1,q2,aA,bYi ht2,bW9];cases aLn t (r,inn,pEg (bM (bB t now p).2) (cW (bB t now p).2))
       .simp only[cFa,zZ,zV];rfl
       .simp only[cE2,zY,cE1,zU];cases aBj dead (pEg (bM (bB t now p).2) (cW (bB t now p).2))
        .simp only[zY,cE1,zU,bTx (fY hg),aA];rfl
        .simp only[zZ,zV];rfl
      .simp only[zZ,zV];cases (bB t now p).2.2.2.1==r
       .simp only[cFa,zZ,cE1,zU];rfl
       .simp only[cE2,zY,zV];rfl
     .have hz':((bB t now p).1==0)=false:=by simpa using hz
      simp only[hz',cFa,zZ,zV,bUk h,aA];rfl
theorem bPe{t:den tTo}{r now dead inn:Int}{p:den tPk}(ht:t.1.length<=68719476736)(ht2:t.2.length<=68719476736)(h:tot tPk p<=34359738368)(hpp:tot tPt p.2.2.2.1<=1073741824):wL t r now dead inn p=some ((fwd t r now dead inn p).1,(fwd t r now dead inn p).2.1,(fwd t r now dead inn p).2.2.1):=by
 unfold wL aM pj2 aO bC zz4 zz5 zz6 zz7 zz8 zz9;simp only[aP,bIl ht ht2 h hpp,aA];rfl
def aMq(c:Int)(p:den tPk):Int×q3:=(c,p.1,p.2.1,p.2.2.1,p.2.2.2.2.1,p.2.2.2.2.2.1,p.2.2.2.2.2.2.1,p.2.2.2.2.2.2.2.1,p.2.2.2.2.2.2.2.2.1,p.2.2.2.1,p.2.2.2.2.2.2.2.2.2)
theorem bBu{q:den tPk}(hh:cH q=true)(h0:0<=cD q):(cQ q&&decide (q.2.2.2.2.1<(q.2.2.2.1.length:Int) - 1))=(cQ q&& !dG q):=by
 obtain⟨i,j,h1,h2,h3,h4,h5⟩:=fX hh;have hlt:=(cEz.1 h3).1;unfold dG aE0;rw[zX (p:=cD q>=0) h0,h1];have key:decide ((i:Int)<(q.2.2.2.1.length:Int) - 1)= !((i:Int)==(q.2.2.2.1.length:Int) - 1):=by
  rw[cFm];simp only[zR,cFu,beq_eq_false_iff_ne,ne_eq];omega
 rw[key];cases cQ q<;>simp
theorem bHy{t:den tTo}{r now dead inn:Int}{p:den tPk}(ht:t.1.length<=68719476736)(ht2:t.2.length<=68719476736)(h:tot tPk p<=34359738368)(hpp:tot tPt p.2.2.2.1<=1073741824):kM t r now dead inn p=some (fwS (fwd t r now dead inn p)):=by
 unfold kM fwd ixb aM aK1 vU pj2 pj4 aO zz4 zz5 zz6 zz7 zz8 zz9;simp only[aP,bA6 (fY h),aVq ht ht2 hpp,aGn (fY h),aA,aBy,bUa h];cases cv:dC p
 .simp only[cFa,cGz,zZ,aA,zV];rfl
 .cases cs:qQ t p.2.2.2.1
  .simp only[cE2,cFa,cGz,cG4,zZ,zY,aA,zV];rfl
  .cases cr:cD p==r
   .simp only[cE2,cFa,cGz,cG4,zZ,zY,aA,zV];rfl
   .simp only[cE2,cGn,zY,aA,cE1,zU];obtain⟨i,j,h1,h2,h3,h4,h5⟩:=fX (aQ4 cv);have hl:=aA8 (fY h) h3;have hw:(@Option.bind Bool Int (cond (p.2.2.2.2.1==(0:Int)) (some (p.2.2.2.2.2.1==(0:Int))) (some false)) λ(s8:Bool)=>cond s8 (some (0:Int)) (some (pIn (bM p) (cW p))))=some (aGg p):=by
     unfold aGg;cases p.2.2.2.2.1==0<;>cases p.2.2.2.2.2.1==0<;>rfl
    have hp1:idx p.2.2.2.1 p.2.2.2.2.1=some (bM p):=by rw[h1,aR];exact h3
    have hp2:fP (bM p) p.2.2.2.2.2.1=some (pIn (bM p) (cW p)):=by rw[h2];exact bHi h4 hl
    rw[hp1,aA,hp2,aA,hw,aA];cases ci:inn==aGg p
    .simp only[cFa,zZ,zV,aA];rfl
    .simp only[cE2,zY,cE1,zU,bUm ht h,aA];obtain⟨q,hq1,hq2⟩:=bE9 (t:=t) (now:=now) aMq id (step:=λs17=> @Option.bind Bool _ (cond (s17.1==(0:Int)) (cond (decide ((0:Int)<=s17.2.2.2.2.1)) (cond (decide (s17.2.2.2.2.1<(s17.2.2.2.2.2.2.2.2.2.1.length:Int))) (Option.bind s17.2.2.2.2.2.2.2.2.2.1[s17.2.2.2.2.1.toNat]? λx18=>cond (s17.2.2.2.2.2.1==(wr ((x18.2.2.2.length:Int) - (1:Int)))) (some (decide (s17.2.2.2.2.1<(wr ((s17.2.2.2.2.2.2.2.2.2.1.length:Int) - (1:Int)))))) (some false)) none) none) (some false)) λ(s19:Bool)=>cond s19 (Option.bind (iP (s17.2.1,s17.2.2.1,s17.2.2.2.1,s17.2.2.2.2.2.2.2.2.2.1,s17.2.2.2.2.1,s17.2.2.2.2.2.1,s17.2.2.2.2.2.2.1,s17.2.2.2.2.2.2.2.1,s17.2.2.2.2.2.2.2.2.1,s17.2.2.2.2.2.2.2.2.2.2)) λy20=>Option.bind (pG t now (y20.1,y20.2.1,y20.2.2.1,y20.2.2.2.2.2.2.2.2.1,y20.2.2.2.1,y20.2.2.2.2.1,y20.2.2.2.2.2.1,y20.2.2.2.2.2.2.1,y20.2.2.2.2.2.2.2.1,y20.2.2.2.2.2.2.2.2.2)) λy21=>some (cEu (y21.2.2.2.2.2.2.2.2.1,y21.1,y21.2.1,y21.2.2.1,y21.2.2.2.1,y21.2.2.2.2.1,y21.2.2.2.2.2.1,y21.2.2.2.2.2.2.1,y21.2.2.2.2.2.2.2.1,y21.2.2.2.2.2.2.2.2.2.1,y21.2.2.2.2.2.2.2.2.2.2))) (some (cEt s17))) (aT t) (λp hp=>rfl) (λc p hc=>by
       have :(c==0)=false:=by simpa using hc
       simp only[aMq,this,zY,aA,id]) (λq hq hh h0=>by
       have e:pG t now ((pkR (adv q)).1,(pkR (adv q)).2.1,(pkR (adv q)).2.2.1,(pkR (adv q)).2.2.2.2.2.2.2.2.1,(pkR (adv q)).2.2.2.1,(pkR (adv q)).2.2.2.2.1,(pkR (adv q)).2.2.2.2.2.1,(pkR (adv q)).2.2.2.2.2.2.1,(pkR (adv q)).2.2.2.2.2.2.2.1,(pkR (adv q)).2.2.2.2.2.2.2.2.2)=some (aEh (aT t (adv q)) (cN t now (adv q))):=bUm (p:=adv q) ht (by rw[aGw];exact hq);obtain⟨i',j',k1,k2,k3,k4,k5⟩:=fX hh;have hlt:=(cEz.1 k3).1;have l1:cFd q.2.2.2.1<=68719476736:=(fY hq).2.2.2.1.1;have hm:=bBu hh h0;simp only[aMq,beq_self_eq_true,zZ,aP,bIj (fY hq),aA,e];rw[<- hm];have hd:decide ((i':Int)<(q.2.2.2.1.length:Int))=true:=zX (by omega);simp only[k1,cT,hd,zZ,cE0,k3,aA,oI (aA8 (fY hq) k3),oI l1];unfold cQ;cases q.2.2.2.2.2.1==((bM q).2.2.2.length:Int) - 1<;>cases decide ((i':Int)<(q.2.2.2.1.length:Int) - 1)<;>rfl) _ p h (cE8 _)
     have hq1:aD _ (aMq (cN t now p) (aT t p))=some (aMq (bB t now p).1 q):=hq1;have hq2:(bB t now p).1=0->q=(bB t now p).2:=hq2;have e0:(((aEh (aT t p) (cN t now p)).2.2.2.2.2.2.2.2.1,(aEh (aT t p) (cN t now p)).1,(aEh (aT t p) (cN t now p)).2.1,(aEh (aT t p) (cN t now p)).2.2.1,(aEh (aT t p) (cN t now p)).2.2.2.1,(aEh (aT t p) (cN t now p)).2.2.2.2.1,(aEh (aT t p) (cN t now p)).2.2.2.2.2.1,(aEh (aT t p) (cN t now p)).2.2.2.2.2.2.1,(aEh (aT t p) (cN t now p)).2.2.2.2.2.2.2.1,(aEh (aT t p) (cN t now p)).2.2.2.2.2.2.2.2.2.1,(aEh (aT t p) (cN t now p)).2.2.2.2.2.2.2.2.2.2))=aMq (cN t now p) (aT t p):=rfl;rw[e0,hq1,aA]
     by_cases hz:(bB t now p).1=0
     .have hqq:=hq2 hz;subst hqq;obtain⟨g1,g2,g3⟩:=aBv _ p hz;have g1:cH (bB t now p).2=true:=g1;have g2:0<=cD (bB t now p).2:=g2;have g3:tot tPk (bB t now p).2=tot tPk p:=g3;have hg:tot tPk (bB t now p).2<=34359738368:=by rw[g3];exact h
      obtain⟨i',j',k1,k2,k3,k4,k5⟩:=fX g1;have hlt:=(cEz.1 k3).1;have hl':=aA8 (fY hg) k3;have q2:eD (bM (bB t now p).2) (bB t now p).2.2.2.2.2.2.1=some (pEg (bM (bB t now p).2) (cW (bB t now p).2)):=by rw[k2];exact aYp k4 hl'
      simp only[aMq,aP,hz,beq_self_eq_true,cE2,zY,cE1,zU,bBy (fY hg),aA];cases ca:dG (bB t now p).2
      .simp only[zY,aA,cE1,zU];have hd:decide ((i':Int)<((bB t now p).2.2.2.2.1.length:Int))=true:=zX (by omega);simp only[k1,cT,hd,zZ,cE0,k3,aA,q2,bV4 ht2,bXc];cases aLn t (r,inn,pEg (bM (bB t now p).2) (cW (bB t now p).2))
       .simp only[cFa,zZ,zV];rfl
       .simp only[cE2,zY,cE1,zU];cases aBj dead (pEg (bM (bB t now p).2) (cW (bB t now p).2))
        .simp only[zY,cE1,zU,bIj (fY hg),aA];rfl
        .simp only[zZ,zV];rfl
      .simp only[zZ,aA];cases (bB t now p).2.2.2.1==r
       .simp only[zY,zZ,cE1,zU,zV];rfl
       .simp only[zZ,zV];rfl
     .have hz':((bB t now p).1==0)=false:=by simpa using hz
      simp only[aMq,hz',cFa,zZ,zV,bUa h,aA];rfl
theorem aJr(t:den tTo)(r now dead inn:Int)(p:den tPk):tot tPk (fwd t r now dead inn p).2.2.1=tot tPk p:=by
 unfold fwd;split
 .rfl
 .split
  .rfl
  .split
   .rfl
   .rename_i hz;have hz:(bB t now p).1=0:=by simpa using hz
    obtain⟨_,_,g3⟩:=aBv _ p hz;have g3:tot tPk (bB t now p).2=tot tPk p:=g3;split
    .split
     .exact g3
     .rfl
    .split
     .rfl
     .split
      .rfl
      .show tot tPk (adv (bB t now p).2)=_;rw[aGw];exact g3
theorem aZm{t:den tTo}{now:Int}:∀(n:Nat) (p:den tPk),(goC t now n p).2.2.2.2.1=p.2.2.2.1
 | 0,p=>(wR t p).2.2.2.1
 | n+1,p=>by
  unfold goC;split
  .rw[aZm n];rw[<- (wR t p).2.2.2.1];unfold adv;split
   .rfl
   .split<;>rfl
  .exact (wR t p).2.2.2.1
theorem bTe(p:den tPk):(adv p).2.2.2.1=p.2.2.2.1:=by
 unfold adv;split
 .rfl
 .split<;>rfl
theorem bRq(t:den tTo)(r now dead inn:Int)(p:den tPk):(fwd t r now dead inn p).2.2.1.2.2.2.1=p.2.2.2.1:=by
 have hg:(bB t now p).2.2.2.2.1=p.2.2.2.1:=aZm _ p;unfold fwd
 repeat' split
 all_goals first
  | rfl
  | exact hg
  | exact (bTe _).trans hg
theorem aZ3{t:den tTo}{now:Int}:∀(n:Nat) (p:den tPk),0<=(goC t now n p).1
 | 0,p=>by
  show 0<=cN t now p;unfold cN
  repeat' split
  all_goals decide
 | n+1,p=>by
  unfold goC;split
  .exact aZ3 n _
  .show 0<=cN t now p;unfold cN
   repeat' split
   all_goals decide
theorem bPn(t:den tTo)(r now dead inn:Int)(p:den tPk):0<=(fwd t r now dead inn p).1:=by
 have hg:0<=(bB t now p).1:=aZ3 _ p;unfold fwd
 repeat' split
 all_goals first
  | exact hg
  | simp
theorem bYr(t:den tTo)(r now dead inn:Int)(p:den tPk):decide ((fwd t r now dead inn p).1>1)= !((fwd t r now dead inn p).1==0||(fwd t r now dead inn p).1==1):=by
 have h:=bPn t r now dead inn p;generalize (fwd t r now dead inn p).1=c at h;rw[cFm];simp only[zR,cFu,Bool.or_eq_false_iff,beq_eq_false_iff_ne,ne_eq];omega
def aG(t:den tTo)(now:Int)(dead:List Int)(r inn:Int)(p:den tPk):Int×Int×den tPk×Int:=fwd t r now (dL t dead r) inn p
def aQh(t:den tTo)(now:Int)(dead:List Int):Nat->Int->Int->den tPk->bV->Int×den tPk×bV
 | 0,_,_,p,st=>(0,p,st)
 | n+1,r,inn,p,st=>
  if (aG t now dead r inn p).1==0||(aG t now dead r inn p).1==1 then
   (if (aG t now dead r inn p).1==1 then (1,(aG t now dead r inn p).2.2.1,st++[(r,inn,(aG t now dead r inn p).2.1)])
    else aQh t now dead n (remote t r (aG t now dead r inn p).2.1).1 (remote t r (aG t now dead r inn p).2.1).2 (aG t now dead r inn p).2.2.1 (st++[(r,inn,(aG t now dead r inn p).2.1)]))
  else ((aG t now dead r inn p).1,(aG t now dead r inn p).2.2.1,st)
theorem aW3{t:den tTo}{now:Int}{dead:List Int}{S R:Type}(enc:Nat->Int->Int->den tPk->bV->S)(out out2:Int×den tPk×bV->R)(N:Nat)(b:Bool){step:S->Option (S⊕R)}
  (H:∀(k:Nat) (r inn:Int) (p:den tPk) (st:bV),k<N->st.length<=k->tot tPk p<=34359738368->tot tPt p.2.2.2.1<=1073741824->step (enc k r inn p st)=some (
   if (aG t now dead r inn p).1==0||(aG t now dead r inn p).1==1 then
    (if (aG t now dead r inn p).1==1 then .inr (out (1,(aG t now dead r inn p).2.2.1,st++[(r,inn,(aG t now dead r inn p).2.1)]))
     else if b&&decide (k+1=N) then .inr (out (0,(aG t now dead r inn p).2.2.1,st++[(r,inn,(aG t now dead r inn p).2.1)]))
     else .inl (enc (k+1) (remote t r (aG t now dead r inn p).2.1).1 (remote t r (aG t now dead r inn p).2.1).2 (aG t now dead r inn p).2.2.1 (st++[(r,inn,(aG t now dead r inn p).2.1)])))
   else .inr (out ((aG t now dead r inn p).1,(aG t now dead r inn p).2.2.1,st))))
  (he:b=false-> ∀r inn p st,step (enc N r inn p st)=some (.inr (out2 (0,p,st)))):
  ∀(n k:Nat) (r inn:Int) (p:den tPk) (st:bV),k+n=N->(n=0->b=false)->st.length<=k->tot tPk p<=34359738368->tot tPt p.2.2.2.1<=1073741824->aD step (enc k r inn p st)=some (out (aQh t now dead n r inn p st))\/aD step (enc k r inn p st)=some (out2 (aQh t now dead n r inn p st)):=by
 intro n
 induction n with
 | zero=>
  intro k r inn p st hk hb hs hp hq;have :k=N:=by omega
  subst this;exact .inr (bH (he (hb rfl) r inn p st))
 | succ n ih=>
  intro k r inn p st hk hb hs hp hq;have h:=H k r inn p st (by omega) hs hp hq;unfold aQh;cases c01:(aG t now dead r inn p).1==0||(aG t now dead r inn p).1==1 with
  | false=>
   rw[c01]at h;exact .inl (bH h)
  | true=>
   rw[c01,zT rfl]at h;rw[zT rfl];cases c1:(aG t now dead r inn p).1==1 with
   | true=>
    rw[c1]at h;exact .inl (bH h)
   | false=>
    rw[c1]at h;simp only[cE1,zU]at h ⊢;cases hl:b&&decide (k+1=N) with
    | true=>
     rw[hl,zT rfl]at h;rw[cEw,zR]at hl;have :n=0:=by omega
     subst this;exact .inl (bH h)
    | false=>
     rw[hl]at h;simp only[cE1,zU]at h;rw[cY h];refine ih (k+1) _ _ _ _ (by omega) (λhn=> ?_) (by simp;omega) ?_ ?_
     .subst hn;cases b with
      | false=>rfl
      | true=>simp at hl;omega
     .unfold aG;rw[aJr];exact hp
     .unfold aG;rw[bRq];exact hq
def aXx(x:Int×den tPk×bV):q11:=
 (x.1,x.2.1.1,x.2.1.2.1,x.2.1.2.2.1,x.2.1.2.2.2.1,x.2.1.2.2.2.2.1,x.2.1.2.2.2.2.2.1,x.2.1.2.2.2.2.2.2.1,x.2.1.2.2.2.2.2.2.2.1,x.2.1.2.2.2.2.2.2.2.2.1,x.2.1.2.2.2.2.2.2.2.2.2,x.2.2)
def bKi(k:Nat)(r inn:Int)(p:den tPk)(st:bV):Int×Int×Int×q11:=
 (r,inn,((k+1:Nat):Int),0,p.1,p.2.1,p.2.2.1,p.2.2.2.1,p.2.2.2.2.1,p.2.2.2.2.2.1,p.2.2.2.2.2.2.1,p.2.2.2.2.2.2.2.1,p.2.2.2.2.2.2.2.2.1,p.2.2.2.2.2.2.2.2.2,st)
def aP0(t:den tTo)(now:Int)(dead:List Int)(p:den tPk):Int×den tPk×bV:=aQh t now dead 30 p.2.1 0 p []
theorem cB4{t:den tTo}{now:Int}{dead:List Int}{p:den tPk}(ht:t.1.length<=68719476736)(ht2:t.2.length<=1073741824)(hd:dead.length<=68719476736)(h:tot tPk p<=34359738368)(hpp:tot tPt p.2.2.2.1<=1073741824):tW t now dead p=some (aXx (aP0 t now dead p)):=by
 unfold tW aM vU pj2 aO bC bK dY kV zz4 zz5 zz6 zz7 zz8 zz9;simp only[aP,aGt (fY h),aA];have e0:(p.2.1,(0:Int),(1:Int),(0:Int),(pkR p).1,(pkR p).2.1,(pkR p).2.2.1,(pkR p).2.2.2.2.2.2.2.2.1,(pkR p).2.2.2.1,(pkR p).2.2.2.2.1,(pkR p).2.2.2.2.2.1,(pkR p).2.2.2.2.2.2.1,(pkR p).2.2.2.2.2.2.2.1,(pkR p).2.2.2.2.2.2.2.2.2,([]:bV))=bKi 0 p.2.1 0 p []:=rfl;rw[e0];refine (aW3 (t:=t) (now:=now) (dead:=dead) bKi aXx aXx 30 true ?_ (λhb=>by cases hb) 30 0 p.2.1 0 p [] rfl (λh=>by cases h) (cE8 _) h hpp).elim id id;intro k r inn p st hk hs hp hq;have hw:wr (((k+1:Nat):Int)+1)=((k+1+1:Nat):Int):=(wri (by omega) (by omega)).trans (by omega);have h30:(((k+1:Nat):Int)==30)=decide (k+1=30):=by rw[cFm];simp only[beq_iff_eq,zR];omega
 simp only[bKi,aP,aT6 ht2 hd,bPe ht (cEv ht2 (by decide)) hp hq,aP6 (t:=t) (cEv ht2 (by decide)),aA,aW,bN,bF,bE,bG,aBy,aF (b:=24) (n:=st.length) (m:=1) (by decide) (by omega),zZ,hw,h30];rw[show fwd t r now (dL t dead r) inn p=aG t now dead r inn p from rfl];have hx:∀c:Int,(c==0)=true->(c==1)=false:=λc hc=>by
  have :c=0:=by simpa using hc
  subst this;rfl
 cases c0:(aG t now dead r inn p).1==0 with
 | true=>
  rw[hx _ c0];have e0:(aG t now dead r inn p).1=0:=by simpa using c0
  simp only[cE2,cFa,zY,zZ,aA,cGz,zV,cE1,zU,cFf,e0];cases decide (k+1=30)<;>rfl
 | false=>
  cases c1:(aG t now dead r inn p).1==1 with
  | true=>
   have e1:(aG t now dead r inn p).1=1:=by simpa using c1
   simp only[cE2,cFa,zY,zZ,aA,cG4,zV,e1];rfl
  | false=>
   simp only[cFa,zZ,aA,cGn,cE1,zU];rfl
def aOd(x:Int×den tPk×bV):q5:=
 (x.1,x.2.1.1,x.2.1.2.1,x.2.1.2.2.1,x.2.1.2.2.2.2.1,x.2.1.2.2.2.2.2.1,x.2.1.2.2.2.2.2.2.1,x.2.1.2.2.2.2.2.2.2.1,x.2.1.2.2.2.2.2.2.2.2.1,x.2.2,x.2.1.2.2.2.1,x.2.1.2.2.2.2.2.2.2.2.2)
def aXo(k:Nat)(r inn:Int)(p:den tPk)(st:bV):Int×Int×Int×q5:=
 (r,inn,(k:Int),0,p.1,p.2.1,p.2.2.1,p.2.2.2.2.1,p.2.2.2.2.2.1,p.2.2.2.2.2.2.1,p.2.2.2.2.2.2.2.1,p.2.2.2.2.2.2.2.2.1,st,p.2.2.2.1,p.2.2.2.2.2.2.2.2.2)
theorem bZg{t:den tTo}{now:Int}{dead:List Int}{p:den tPk}(ht:t.1.length<=68719476736)(ht2:t.2.length<=1073741824)(hd:dead.length<=68719476736)(h:tot tPk p<=34359738368)(hpp:tot tPt p.2.2.2.1<=1073741824):tY t now dead p=some (aOd (aP0 t now dead p)):=by
 unfold tY aM vU pj2 aO bC bK dY kV zz4 zz5 zz6 zz7 zz8 zz9;simp only[aP,aCs (fY h),aA];have e0:(p.2.1,(0:Int),(0:Int),(0:Int),(pkR p).1,(pkR p).2.1,(pkR p).2.2.1,(pkR p).2.2.2.1,(pkR p).2.2.2.2.1,(pkR p).2.2.2.2.2.1,(pkR p).2.2.2.2.2.2.1,(pkR p).2.2.2.2.2.2.2.1,([]:bV),(pkR p).2.2.2.2.2.2.2.2.1,(pkR p).2.2.2.2.2.2.2.2.2)=aXo 0 p.2.1 0 p []:=rfl;have hl:=aW3 (t:=t) (now:=now) (dead:=dead) aXo (λx=>(cEt (aOd x):_⊕_)) (λx=>cEu (aOd x)) 30 false (step:=λs10=>cond (decide (s10.2.2.1<(30:Int))) (Option.bind (both (Option.bind (cR t dead s10.1) λy11=>both (Option.bind (kM t s10.1 now y11 s10.2.1 (s10.2.2.2.2.1,s10.2.2.2.2.2.1,s10.2.2.2.2.2.2.1,s10.2.2.2.2.2.2.2.2.2.2.2.2.2.1,s10.2.2.2.2.2.2.2.1,s10.2.2.2.2.2.2.2.2.1,s10.2.2.2.2.2.2.2.2.2.1,s10.2.2.2.2.2.2.2.2.2.2.1,s10.2.2.2.2.2.2.2.2.2.2.2.1,s10.2.2.2.2.2.2.2.2.2.2.2.2.2.2)) λy12=>some y12) (Option.bind (kM t s10.1 now y11 s10.2.1 (s10.2.2.2.2.1,s10.2.2.2.2.2.1,s10.2.2.2.2.2.2.1,s10.2.2.2.2.2.2.2.2.2.2.2.2.2.1,s10.2.2.2.2.2.2.2.1,s10.2.2.2.2.2.2.2.2.1,s10.2.2.2.2.2.2.2.2.2.1,s10.2.2.2.2.2.2.2.2.2.2.1,s10.2.2.2.2.2.2.2.2.2.2.2.1,s10.2.2.2.2.2.2.2.2.2.2.2.2.2.2)) λy13=>some y13)) (Option.bind (cR t dead s10.1) λy14=>Option.bind (kM t s10.1 now y14 s10.2.1 (s10.2.2.2.2.1,s10.2.2.2.2.2.1,s10.2.2.2.2.2.2.1,s10.2.2.2.2.2.2.2.2.2.2.2.2.2.1,s10.2.2.2.2.2.2.2.1,s10.2.2.2.2.2.2.2.2.1,s10.2.2.2.2.2.2.2.2.2.1,s10.2.2.2.2.2.2.2.2.2.2.1,s10.2.2.2.2.2.2.2.2.2.2.2.1,s10.2.2.2.2.2.2.2.2.2.2.2.2.2.2)) λy15=>some y15)) λs16=>cond (decide (s16.1>(1:Int))) (some (cEt (cEt (s16.1,s16.2.2.1,s16.2.2.2.1,s16.2.2.2.2.1,s16.2.2.2.2.2.1,s16.2.2.2.2.2.2.1,s16.2.2.2.2.2.2.2.1,s16.2.2.2.2.2.2.2.2.1,s16.2.2.2.2.2.2.2.2.2.1,s10.2.2.2.2.2.2.2.2.2.2.2.2.1,s16.2.2.2.2.2.2.2.2.2.2.1,s16.2.2.2.2.2.2.2.2.2.2.2)))) (cond (aK 24 s10.2.2.2.2.2.2.2.2.2.2.2.2.1.length 1) (cond (s16.1==(1:Int)) (some (cEt (cEt (s16.1,s16.2.2.1,s16.2.2.2.1,s16.2.2.2.2.1,s16.2.2.2.2.2.1,s16.2.2.2.2.2.2.1,s16.2.2.2.2.2.2.2.1,s16.2.2.2.2.2.2.2.2.1,s16.2.2.2.2.2.2.2.2.2.1,s10.2.2.2.2.2.2.2.2.2.2.2.2.1++[(s10.1,s10.2.1,s16.2.1)],s16.2.2.2.2.2.2.2.2.2.2.1,s16.2.2.2.2.2.2.2.2.2.2.2)))) (Option.bind (eQ t s10.1 s16.2.1) λy17=>some (cEu (y17.1,y17.2,wr (s10.2.2.1+(1:Int)),s16.1,s16.2.2.1,s16.2.2.2.1,s16.2.2.2.2.1,s16.2.2.2.2.2.1,s16.2.2.2.2.2.2.1,s16.2.2.2.2.2.2.2.1,s16.2.2.2.2.2.2.2.2.1,s16.2.2.2.2.2.2.2.2.2.1,s10.2.2.2.2.2.2.2.2.2.2.2.2.1++[(s10.1,s10.2.1,s16.2.1)],s16.2.2.2.2.2.2.2.2.2.2.1,s16.2.2.2.2.2.2.2.2.2.2.2)))) none)) (some (cEt (cEu s10.2.2.2)))) (by
   intro k r inn p st hk hs hp hq;have hw:wr ((k:Int)+1)=((k+1:Nat):Int):=(wri (by omega) (by omega)).trans (by omega);have h30:decide ((k:Int)<30)=true:=zX (by omega);show cond (decide ((k:Int)<(30:Int))) _ _=some _;rw[h30,zZ];simp only[aXo,aP,aU7 ht2 hd,bHy ht (cEv ht2 (by decide)) hp hq,aEe (t:=t) (cEv ht2 (by decide)),aA,aW,bN,bF,bE,bG,aF (b:=24) (n:=st.length) (m:=1) (by decide) (by omega),zZ,hw,h30,cFh];rw[show (fwS (fwd t r now (dL t dead r) inn p)).1=(fwd t r now (dL t dead r) inn p).1 from rfl,bYr];rw[show fwd t r now (dL t dead r) inn p=aG t now dead r inn p from rfl];have hx:∀c:Int,(c==0)=true->(c==1)=false:=λc hc=>by
    have :c=0:=by simpa using hc
    subst this;rfl
   cases c0:(aG t now dead r inn p).1==0 with
   | true=>
    rw[hx _ c0];have e0:(aG t now dead r inn p).1=0:=by simpa using c0
    simp only[cE2,zY,aA,cGz,zV,cE1,zU,e0];rfl
   | false=>
    cases c1:(aG t now dead r inn p).1==1 with
    | true=>
     have e1:(aG t now dead r inn p).1=1:=by simpa using c1
     simp only[cE2,zY,zZ,cG4,zV,e1];rfl
    | false=>
     simp only[cFa,zZ,cGn,cE1,zU];rfl) (λ_ r inn p st=>rfl) 30 0 p.2.1 0 p [] rfl (λ_=>rfl) (cE8 _) h hpp
 have hl':∀{s:_},s=aXo 0 p.2.1 0 p []->aD _ s=some (cEt (aOd (aP0 t now dead p)))\/aD _ s=some (cEu (aOd (aP0 t now dead p))):=λhs=>by rw[hs];exact hl
 rcases hl' e0 with hl | hl
 .rw[hl];rfl
 .rw[hl];rfl
def aDc(t:den tTo)(now:Int)(dead:List Int)(p:den tPt):Bool:=(aP0 t now dead (dM 1 p 0 0 [])).1==1
theorem bAn{t:den tTo}{now:Int}{dead:List Int}{p:den tPt}(ht:t.1.length<=68719476736)(ht2:t.2.length<=1073741824)(hd:dead.length<=68719476736)(hp:tot tPt p<=1073741824):xD t now dead p=some (aDc t now dead p):=by
 unfold xD aDc pj2 zz4 zz5 zz6 zz7 zz8 zz9;have h1:tot tPk (dM 1 p 0 0 [])<=34359738368:=by rw[aFj,aBm];omega
 have e:tW t now dead ((pkR (dM 1 p 0 0 [])).1,(pkR (dM 1 p 0 0 [])).2.1,(pkR (dM 1 p 0 0 [])).2.2.1,(pkR (dM 1 p 0 0 [])).2.2.2.2.2.2.2.2.1,(pkR (dM 1 p 0 0 [])).2.2.2.1,(pkR (dM 1 p 0 0 [])).2.2.2.2.1,(pkR (dM 1 p 0 0 [])).2.2.2.2.2.1,(pkR (dM 1 p 0 0 [])).2.2.2.2.2.2.1,(pkR (dM 1 p 0 0 [])).2.2.2.2.2.2.2.1,(pkR (dM 1 p 0 0 [])).2.2.2.2.2.2.2.2.2)=some (aXx (aP0 t now dead (dM 1 p 0 0 []))):=cB4 ht ht2 hd h1 hp;simp only[aP,aO5 (kind:=1) (res:=0) (seq:=0) (p:=p) (pay:=[]) (by omega) (by simp),aA,e];rfl
theorem bAq{t:den tTo}{now:Int}{dead:List Int}{p:den tPt}(ht:t.1.length<=68719476736)(ht2:t.2.length<=1073741824)(hd:dead.length<=68719476736)(hp:tot tPt p<=1073741824):wT t now dead p=some (aDc t now dead p):=by
 unfold wT aDc pj2 zz4 zz5 zz6 zz7 zz8 zz9;have h1:tot tPk (dM 1 p 0 0 [])<=34359738368:=by rw[aFj,aBm];omega
 have e:tY t now dead ((pkR (dM 1 p 0 0 [])).1,(pkR (dM 1 p 0 0 [])).2.1,(pkR (dM 1 p 0 0 [])).2.2.1,(pkR (dM 1 p 0 0 [])).2.2.2.2.2.2.2.2.1,(pkR (dM 1 p 0 0 [])).2.2.2.1,(pkR (dM 1 p 0 0 [])).2.2.2.2.1,(pkR (dM 1 p 0 0 [])).2.2.2.2.2.1,(pkR (dM 1 p 0 0 [])).2.2.2.2.2.2.1,(pkR (dM 1 p 0 0 [])).2.2.2.2.2.2.2.1,(pkR (dM 1 p 0 0 [])).2.2.2.2.2.2.2.2.2)=some (aOd (aP0 t now dead (dM 1 p 0 0 []))):=bZg ht ht2 hd h1 hp;simp only[aP,aJl (kind:=1) (res:=0) (seq:=0) (p:=p) (pay:=[]) (by omega) (by simp),aA,e];rfl
def aB5(w:den tNw)(p:den tPt)(now:Int):Bool:=aDc w.1 now w.2.2.2.2.1 p&&aDc w.1 now w.2.2.2.2.1 (jS p)
def aFh(w:den tNw):Int:=wr (w.2.2.2.1+wr (8+lG w))
def aA0(w:den tNw)(p:den tPt):Bool:=aB5 w p w.2.2.2.1&&aB5 w p (aFh w)
def yA(w:den tNw)(f:den tFl):Int:=
 match bW (λk p=>if aA0 w p then some (k:Int) else none) 0 f.2.2.2.2.2.1 with
 | some i=>i
 | none=> -1
structure aX1 (w:den tNw):Prop where
 as:w.1.1.length<=68719476736
 links:w.1.2.length<=1073741824
 dead:w.2.2.2.2.1.length<=68719476736
 flows:w.2.2.2.2.2.2.1.length<=1073741824
theorem bKy{w:den tNw}(h:tot tNw w<=1073741824):aX1 w where
 as:=cEv (dP (t:=tAS) _) (cEv (tT (tT h)) (by decide))
 links:=cEv (dP (t:=tLk) _) (cEv (aQ (tT h)) (by decide))
 dead:=cEv (dP (t:=ti) _) (cEv (tT (aQ (aQ (aQ (aQ h))))) (by decide))
 flows:=cEv (dP (t:=tFl) _) (tT (aQ (aQ (aQ (aQ (aQ (aQ h)))))))
theorem bV7{w:den tNw}{p:den tPt}{now:Int}(h:aX1 w)(hp:tot tPt p<=1073741824):xA w p now=some (aB5 w p now):=by
 unfold xA aB5 pj2 zz4;simp only[aP,bAq h.as h.links h.dead hp,bBv (aO2 hp),aA,bAq h.as h.links h.dead (p:=jS p) (by rw[aA3];exact hp)];cases aDc w.1 now w.2.2.2.2.1 p<;>rfl
theorem bXa{w:den tNw}{f:den tFl}(h:aX1 w)(hf:tot tFl f<=1073741824):pP w f=some (yA w f):=by
 have hl:f.2.2.2.2.2.1.length<=1073741824:=cEv (dP (t:=tPt) _) (aF8 hf).2.1;unfold pP dS zz5;simp only[aP,bRi h.flows,aA];rw[aX (l:=f.2.2.2.2.2.1) (λk p=>if aA0 w p then some (k:Int) else none) (by omega) (λk p hi hd hw hm hk=>by
  have hp:tot tPt p<=1073741824:=by have :=tG (t:=tPt) hm;have :=(aF8 hf).2.1;omega
  simp only[hd,hi,hw,zZ,aA,aP,bV7 h hp];unfold aA0 aFh;cases aB5 w p w.2.2.2.1<;>cases aB5 w p (wr (w.2.2.2.1+wr (8+lG w)))<;>rfl) (by simp)]
 unfold yA;cases bW (λk p=>if aA0 w p then some (k:Int) else none) 0 f.2.2.2.2.2.1<;>rfl
theorem bFb{w:den tNw}{f:den tFl}(h:aX1 w)(hf:tot tFl f<=1073741824):iF w f=some (yA w f):=by
 have hl:f.2.2.2.2.2.1.length<=1073741824:=cEv (dP (t:=tPt) _) (aF8 hf).2.1;unfold iF ixb pj2 dS zz4 zz5;simp only[aP,aQi h.flows,aA];rw[aX (l:=f.2.2.2.2.2.1) (λk p=>if aA0 w p then some (k:Int) else none) (by omega) (λk p hi hd hw hm hk=>by
  have hp:tot tPt p<=1073741824:=by have :=tG (t:=tPt) hm;have :=(aF8 hf).2.1;omega
  have hr:=λnow=>bAn h.as h.links h.dead (now:=now) hp
  have hr2:=λnow=>bAn h.as h.links h.dead (now:=now) (p:=jS p) (by rw[aA3];exact hp)
  simp only[hd,hi,hw,zZ,aA,aP,bBw (aO2 hp),hr,hr2];rw[kD (λk (b:Bool)=>(b,(k:Int))) (true,(0:Int)) true [w.2.2.2.1,aFh w] (λ_ n b=>b&&aB5 w p n) (λ_=>0) (λ_=>0) 0 id rfl (by simp) (by simp) (λ_ _ _=>cE8 _) (λk n b hi hx hd hw hk hb=>by
   have hd:decide ((k:Int)<(([w.2.2.2.1,wr (w.2.2.2.1+wr (8+lG w))]:List Int).length:Int))=true:=hd;have hx:([w.2.2.2.1,wr (w.2.2.2.1+wr (8+lG w))]:List Int)[k]? =some n:=hx;simp only[hd,cT,cE0,hx,hw,zZ,aA];unfold aB5;cases b<;>cases aDc w.1 n w.2.2.2.2.1 p<;>rfl) (λa=>by simp)]
  show Option.bind (some (id (bQ (λ_ n b=>b&&aB5 w p n) 0 [w.2.2.2.1,aFh w] true))) _=_;simp only[bQ,aA,id,cFf];unfold aA0;cases aB5 w p w.2.2.2.1&&aB5 w p (aFh w)<;>rfl) (by simp)]
 unfold yA;cases bW (λk p=>if aA0 w p then some (k:Int) else none) 0 f.2.2.2.2.2.1<;>rfl
def aEs(w:den tNw)(f:den tFl):Bool:=f.2.2.2.1==(f.2.2.2.2.1.length:Int)|| !decide (yA w f>=0)
theorem bYc{w:den tNw}(h:tot tNw w<=1073741824):oG w=some (w.2.2.2.2.2.2.1.all (aEs w)):=by
 have hs:=bKy h;have hF:tot (.sl tFl) w.2.2.2.2.2.2.1<=1073741824:=tT (aQ (aQ (aQ (aQ (aQ (aQ h))))));unfold oG pj9 dS zz4 zz6;rw[aX (l:=w.2.2.2.2.2.2.1) (λ_ f=>if aEs w f then none else some false) (cEv hs.flows (by decide)) (λk f hi hd hw hm hk=>by
  have hf:tot tFl f<=1073741824:=by have :=tG (t:=tFl) hm;omega
  simp only[hd,hi,hw,zZ,aA,aP,bFb hs hf,aBy];unfold aEs;cases f.2.2.2.1==(f.2.2.2.2.1.length:Int)<;>cases decide (yA w f>=0)<;>rfl) (by simp),lH (aEs w)]
 cases w.2.2.2.2.2.2.1.all (aEs w)<;>rfl
theorem bXp{w:den tNw}(h:tot tNw w<=1073741824):oJ w=some (w.2.2.2.2.2.2.1.all (aEs w)):=by
 have hs:=bKy h;have hF:tot (.sl tFl) w.2.2.2.2.2.2.1<=1073741824:=tT (aQ (aQ (aQ (aQ (aQ (aQ h))))));unfold oJ pj9 dS zz4 zz6;rw[aX (l:=w.2.2.2.2.2.2.1) (λ_ f=>if aEs w f then none else some false) (cEv hs.flows (by decide)) (λk f hi hd hw hm hk=>by
  have hf:tot tFl f<=1073741824:=by have :=tG (t:=tFl) hm;omega
  simp only[hd,hi,hw,zZ,aA,aP,bXa hs hf,aBy];unfold aEs;cases f.2.2.2.1==(f.2.2.2.2.1.length:Int)<;>cases decide (yA w f>=0)<;>rfl) (by simp),lH (aEs w)]
 cases w.2.2.2.2.2.2.1.all (aEs w)<;>rfl
abbrev nT(w:den tNw):den tTo:=w.1
abbrev nK(w:den tNw):den tDb:=w.2.1
abbrev nG(w:den tNw):den tSc:=w.2.2.1
abbrev aI(w:den tNw):Int:=w.2.2.2.1
abbrev aJ(w:den tNw):List Int:=w.2.2.2.2.1
abbrev aH(w:den tNw):lFy:=w.2.2.2.2.2.1
abbrev aB(w:den tNw):lFl:=w.2.2.2.2.2.2.1
abbrev aS(w:den tNw):lIb:=w.2.2.2.2.2.2.2.1
abbrev dN(w:den tNw):Int:=w.2.2.2.2.2.2.2.2
def aNq(w:den tNw):q6:=
 ((nG w).1,aI w,dN w,(nT w).1,(nT w).2,(nK w).1,(nK w).2,(nG w).2.1,(nG w).2.2,aJ w,aH w,aB w,aS w)
theorem bPf{l:lRs}(h:l.length<=68719476736):fG l=some l:=by
 unfold fG;rw[aF (n:=([]:lRs).length) (by decide) (by simpa using h)];rfl
theorem bKu{g:den tSc}(h:SmB 68719476736 tSc g):fQ g=some g:=by
 unfold fQ;rw[bPf h.2.1.1,aA,aF (n:=([]:lUs).length) (by decide) (by simpa using h.2.2.1)];rfl
theorem bI0{g:den tSc}(h:SmB 68719476736 tSc g):jD g=some g:=by
 unfold jD pj3;rw[aF (b:=40) (n:=([]:lRs).length) (by decide) (by simpa using h.2.1.1),aF (b:=32) (n:=([]:lUs).length) (by decide) (by simpa using h.2.2.1)];simp only[aW,bN,bF,bE,bG,zZ,aA,cFl]
theorem aNm(f:den tFl):(((qG f).1,(qG f).2.1,(qG f).2.2.1,(qG f).2.2.2.1,(qG f).2.2.2.2.2.2.1,(qG f).2.2.2.2.2.2.2.1,(qG f).2.2.2.2.1,(qG f).2.2.2.2.2.1,(qG f).2.2.2.2.2.2.2.2):den tFl)=f:=rfl
theorem bEv(p:den tPk):(((pkR p).1,(pkR p).2.1,(pkR p).2.2.1,(pkR p).2.2.2.2.2.2.2.2.1,(pkR p).2.2.2.1,(pkR p).2.2.2.2.1,(pkR p).2.2.2.2.2.1,(pkR p).2.2.2.2.2.2.1,(pkR p).2.2.2.2.2.2.2.1,(pkR p).2.2.2.2.2.2.2.2.2):den tPk)=p:=rfl
theorem bMv{x:den tFy}(h:SmB 68719476736 tFy x):SmB 68719476736 tPk x.2.2:=h.2.2
theorem bEo{w:den tNw}(h:SmB 68719476736 tNw w):mJ w=some (aNq w):=by
 obtain⟨hT,hK,hG,_,hD,hY,hF,hX,_⟩:=h;unfold mJ qP aM pj2 pj3 pj4 pj9 zz4 zz5 zz6 zz7 zz8 zz9;simp only[aP,bXl hT,aY7 hK.1,aY7 hK.2,bKu hG,bFt hD.1,aA];rw[(vP (λk (a:lFy)=>((k:Int),(nG w).1,aI w,dN w,a)) ((0:Int),(nG w).1,aI w,dN w,[]) [] (aH w) (λ_ x a=>a++[x]) cFd (λ_=>1) 68719476736 (λa=>((nG w).1,aI w,dN w,a)) rfl (cEv hY.1 (by decide)) (by rw[eY];simpa using hY.1) (λk x a hi hx hd hw hk hb=>by
  have e:=bMv (hY.2 x (cE9 hx));simp only[hd,hi,hw,zZ,aA,aP,aGt e,bEv,aF (b:=128) (n:=a.length) (m:=1) (by decide) hb];exact⟨rfl,by simp⟩) (λa=>by simp)).1,hH (λx=>x)]
 simp only[aA];rw[(vP (λk (a:lFl)=>((k:Int),(nG w).1,aI w,dN w,a)) ((0:Int),(nG w).1,aI w,dN w,[]) [] (aB w) (λ_ x a=>a++[x]) cFd (λ_=>1) 68719476736 (λa=>((nG w).1,aI w,dN w,a)) rfl (cEv hF.1 (by decide)) (by rw[eY];simpa using hF.1) (λk x a hi hx hd hw hk hb=>by
  have e:=hF.2 x (cE9 hx);simp only[hd,hi,hw,zZ,aA,aP,aOe e,aNm,aF (b:=120) (n:=a.length) (m:=1) (by decide) hb];exact⟨rfl,by simp⟩) (λa=>by simp)).1,hH (λx=>x)]
 simp only[aA];rw[(vP (λk (a:lIb)=>((k:Int),(nG w).1,aI w,dN w,a)) ((0:Int),(nG w).1,aI w,dN w,[]) [] (aS w) (λ_ x a=>a++[x]) cFd (λ_=>1) 68719476736 (λa=>((nG w).1,aI w,dN w,a)) rfl (cEv hX.1 (by decide)) (by rw[eY];simpa using hX.1) (λk x a hi hx hd hw hk hb=>by
  have e:=hX.2 x (cE9 hx);simp only[hd,hi,hw,zZ,aA,aP,bD8 e,aF (b:=48) (n:=a.length) (m:=1) (by decide) hb];simp) (λa=>by simp)).1,hH (λx=>x)]
 simp only[aA,cFl,List.map_id'];rfl
theorem cCx{l:lFy}(h:SmB 68719476736 (.sl tFy) l):vA l=some l:=by
 unfold vA aM zz4 zz5 zz6 zz7 zz8 zz9;rw[(vP (λk (a:lFy)=>((k:Int),a)) ((0:Int),[]) [] l (λ_ x a=>a++[x]) cFd (λ_=>1) 68719476736 id rfl (cEv h.1 (by decide)) (by rw[eY];simpa using h.1) (λk x a hi hx hd hw hk hb=>by
  have e:=bMv (h.2 x (cE9 hx));simp only[hd,hi,hw,zZ,aA,aP,aCs e,bEv,aF (b:=128) (n:=a.length) (m:=1) (by decide) hb];exact⟨rfl,by simp⟩) (λa=>by simp)).1,hH (λx=>x)]
 simp
theorem bW6{l:lFl}(h:SmB 68719476736 (.sl tFl) l):pK l=some l:=by
 unfold pK pj9 zz4 zz5 zz6 zz7 zz8;rw[(vP (λk (a:lFl)=>((k:Int),a)) ((0:Int),[]) [] l (λ_ x a=>a++[x]) cFd (λ_=>1) 68719476736 id rfl (cEv h.1 (by decide)) (by rw[eY];simpa using h.1) (λk x a hi hx hd hw hk hb=>by
  have e:=h.2 x (cE9 hx);simp only[hd,hi,hw,zZ,aA,aP,aEj e,aNm,aF (b:=120) (n:=a.length) (m:=1) (by decide) hb];exact⟨rfl,by simp⟩) (λa=>by simp)).1,hH (λx=>x)]
 simp
theorem bWk{l:lIb}(h:SmB 68719476736 (.sl tIb) l):pM l=some l:=by
 unfold pM pj4;rw[(vP (λk (a:lIb)=>((k:Int),a)) ((0:Int),[]) [] l (λ_ x a=>a++[x]) cFd (λ_=>1) 68719476736 id rfl (cEv h.1 (by decide)) (by rw[eY];simpa using h.1) (λk x a hi hx hd hw hk hb=>by
  have e:=h.2 x (cE9 hx);simp only[hd,hi,hw,zZ,aA,aP,bFn e,aF (b:=48) (n:=a.length) (m:=1) (by decide) hb];simp) (λa=>by simp)).1,hH (λx=>x)]
 simp
theorem bGa{w:den tNw}(h:SmB 68719476736 tNw w):sM w=some (aNq w):=by
 obtain⟨hT,hK,hG,_,hD,hY,hF,hX,_⟩:=h;unfold sM pj2 pj3 aO zz4 zz5 zz6 zz7 zz8 zz9;simp only[aP,bGf hT,aD9 hK.1,aD9 hK.2,bI0 hG,cCx hY,bW6 hF,bWk hX,aA,aF (b:=8) (n:=([]:List Int).length) (m:=w.2.2.2.2.1.length) (by decide) (by simpa using hD.1),zZ,aW,bN,bF,bE,bG,cFl];rfl
def bI(w:den tNw):q1:=
 (aH w,aB w,aS w,(nT w).1,(nT w).2,(nK w).1,(nK w).2,(nG w).1,(nG w).2.1,(nG w).2.2,aI w,aJ w,dN w)
def bS(w:den tNw)(l:lFl):den tNw:=(nT w,nK w,nG w,aI w,aJ w,aH w,l,aS w,dN w)
def cX(r:Int)(p:den tPk)(f:den tFl):den tFl:=if f.1==r then (if p.1==2 then kC f p else iT f p) else f
def tF(w:den tNw)(r:Int)(p:den tPk):den tNw:=bS w ((aB w).map (cX r p))
def fR(p:den tPk):Prop:= ∀x∈p.2.2.2.2.2.2.2.2.2,0<=x/\x<=255
theorem aUf{α S R:Type}(enc:Nat->List α->S)(l:List α)(g:α->α)(out:List α->R){step:S->Option (S⊕R)}(hl:l.length<=4611686018427387904)
  (h:∀(k:Nat) (x:α) (a:List α),a.length=l.length->a[k]? =some x->x∈l->k<l.length->decide ((k:Int)<(l.length:Int))=true->IntKind.i64.wrap ((k:Int)+1)=((k+1:Nat):Int)->step (enc k a)=some (.inl (enc (k+1) (a.set k (g x)))))
  (he:∀a,a.length=l.length->step (enc l.length a)=some (.inr (out a))):aD step (enc 0 l)=some (out (l.map g)):=by
 have key:∀(rest pre:List α),pre++rest=l->aD step (enc pre.length (pre.map g++rest))=some (out (l.map g)):=by
  intro rest
  induction rest with
  | nil=>
   intro pre hp;rw[cFv]at hp;subst hp;rw[cFv];exact bH (he _ (by simp))
  | cons x rest ih=>
   intro pre hp;have hlt:pre.length<l.length:=by rw[<- hp];simp
   have hx:(pre.map g++x::rest)[pre.length]? =some x:=by simp
   have hlen:(pre.map g++x::rest).length=l.length:=by rw[<- hp];simp
   rw[cY (h pre.length x _ hlen hx (by rw[<- hp];simp) hlt (by simpa using hlt) (by rw[wri (by omega) (by omega)];omega))];have hs:(pre.map g++x::rest).set pre.length (g x)=(pre++[x]).map g++rest:=by
    rw[List.set_append_right _ _ (by simp)];simp
   rw[hs];have :=ih (pre++[x]) (by simpa using hp);simpa using this
 exact key l [] rfl
theorem aK0{α:Type}{a:List α}{k:Nat}{x:α}(h:a[k]? =some x):a.set k x=a:=by
 obtain⟨hlt,hx⟩:=cEz.1 h;rw[<- hx];exact List.set_getElem_self hlt
theorem aUa{f:den tFl}(h:tot tFl f<=1073741824):SmB 68719476736 tFl f:=(bR h).mono (by decide)
theorem aN8{α:Type}{a:List α}{k n:Nat}(h:a.length=n)(hk:k<n):decide ((k:Int)<(a.length:Int))=true/\decide (k<a.length)=true:=by
 constructor<;>simp<;>omega
theorem aUr{w:den tNw}{r:Int}{p:den tPk}(hF:∀f∈aB w,tot tFl f<=1073741824)(hl:(aB w).length<=1073741824)(hp:tot tPk p<=1073741824)(hb:fR p):iI w r p=some (bI (tF w r p)):=by
 unfold iI ixb aM pj9 zz4 zz5 zz6 zz7 zz8;refine aUf (λk (a:lFl)=>((k:Int),a)) (aB w) (cX r p) (λl=>bI (bS w l)) (cEv hl (by decide)) (λk f a ha hx hm hk hd hw=> ?_) (λa ha=> ?_)
 .obtain⟨d1,d2⟩:=aN8 ha hk;have hd:decide ((k:Int)<(w.2.2.2.2.2.2.1.length:Int))=true:=hd;simp only[hd,d1,d2,cT,cE0,hx,zZ,aA,aP,aBy,bXs (aUa (hF f hm)),bWo (hF f hm) hp hb,aNm,hw];unfold cX;cases f.1==r
  .simp only[cFa,zZ,cE1,zU,aA,aK0 hx]
  .simp only[cE2,zY,zV];cases p.1==2<;>rfl
 .simp;rfl
theorem aUy{w:den tNw}{r:Int}{p:den tPk}(hk3:(p.1==2)=false)(hF:∀f∈aB w,tot tFl f<=1073741824)(hl:(aB w).length<=1073741824)(hp:tot tPk p<=1073741824)(hb:fR p):oN w r p=some (bI (tF w r p)):=by
 unfold oN ixb aM pj9 zz4 zz5 zz6 zz7 zz8;refine aUf (λk (a:lFl)=>((k:Int),a)) (aB w) (cX r p) (λl=>bI (bS w l)) (cEv hl (by decide)) (λk f a ha hx hm hk hd hw=> ?_) (λa ha=> ?_)
 .obtain⟨d1,d2⟩:=aN8 ha hk;simp only[d1,d2,cT,cE0,hx,zZ,aA,aP,bWw (hF f hm) hp hb,aW,bN,bF,bE,bG,hw];unfold cX;rw[hk3];cases f.1==r
  .simp only[zY,cE1,zU,aA,aK0 hx]
  .simp only[zZ,zV,aA,cE1,zU];rfl
 .show cond (decide ((((aB w).length:Nat):Int)<(a.length:Int))) _ _=_;rw[ha,zW (by omega)];rfl
theorem bOu{w:den tNw}{r:Int}{p:den tPk}(hk2:(p.1==2)=true)(hF:∀f∈aB w,tot tFl f<=1073741824)(hl:(aB w).length<=1073741824){step:Int×lFl->Option ((Int×lFl)⊕_)}
  (hs:∀(k:Nat) (f:den tFl) (a:lFl),a.length=(aB w).length->a[k]? =some f->f∈aB w->k<(aB w).length->step ((k:Int),a)=some (.inl (((k+1:Nat):Int),a.set k (cX r p f)))) (he:∀a,a.length=(aB w).length->step (((aB w).length:Int),a)=some (.inr (bI (bS w a)))):aD step ((0:Int),aB w)=some (bI (tF w r p)):=
 aUf (λk (a:lFl)=>((k:Int),a)) (aB w) (cX r p) (λl=>bI (bS w l)) (cEv hl (by decide)) (λk f a ha hx hm hk hd hw=>hs k f a ha hx hm hk) (λa ha=>he a ha)
theorem aNe(p:den tPk):goTo p p.2.2.2.2.1 p.2.2.2.2.2.1 p.2.2.2.2.2.2.1=p:=rfl
theorem aIu(t:den tTo)(p:den tPk):∃b,aT t p=goTo p p.2.2.2.2.1 p.2.2.2.2.2.1 b:=by
 unfold aT;split
 .exact⟨_,rfl⟩
 .exact⟨_,(aNe p).symm⟩
theorem bBi(p:den tPk):∃i j b,adv p=goTo p i j b:=by
 unfold adv;split
 .exact⟨_,_,_,(aNe p).symm⟩
 .split<;>exact⟨_,_,_,rfl⟩
theorem bAs{t:den tTo}{now:Int}:∀(n:Nat) (p:den tPk),∃i j b,(goC t now n p).2=goTo p i j b
 | 0,p=>by obtain⟨b,hb⟩:=aIu t p;exact⟨_,_,_,hb⟩
 | n+1,p=>by
  obtain⟨b,hb⟩:=aIu t p;unfold goC;split
  .obtain⟨i,j,c,h1⟩:=bAs (t:=t) (now:=now) n (adv (aT t p));obtain⟨i',j',c',h2⟩:=bBi (aT t p);rw[h1,h2,hb];exact⟨_,_,_,rfl⟩
  .exact⟨_,_,_,hb⟩
theorem aHu(t:den tTo)(r now dead inn:Int)(p:den tPk):∃i j b,(fwd t r now dead inn p).2.2.1=goTo p i j b:=by
 obtain⟨i,j,b,h⟩:∃i j b,(bB t now p).2=goTo p i j b:=bAs _ p;unfold fwd
 repeat' split
 all_goals first
  | exact⟨_,_,_,(aNe p).symm⟩
  | exact⟨_,_,_,h⟩
  | (obtain⟨i',j',b',h'⟩:=bBi (bB t now p).2;exact⟨_,_,_,by rw[show (0,pEg (bM (bB t now p).2) (cW (bB t now p).2),adv (bB t now p).2,pEg (bM (bB t now p).2) (cW (bB t now p).2)).2.2.1=adv (bB t now p).2 from rfl,h',h];rfl⟩)
theorem aAh(t:den tTo)(r now dead inn:Int)(p:den tPk):(fwd t r now dead inn p).2.2.1.1=p.1/\(fwd t r now dead inn p).2.2.1.2.1=p.2.1/\(fwd t r now dead inn p).2.2.1.2.2.2.2.2.2.2.1=p.2.2.2.2.2.2.2.1/\(fwd t r now dead inn p).2.2.1.2.2.2.2.2.2.2.2.2=p.2.2.2.2.2.2.2.2.2:=by
 obtain⟨i,j,b,h⟩:=aHu t r now dead inn p;rw[h];exact⟨rfl,rfl,rfl,rfl⟩
theorem aC1{t:den tTo}{r now dead inn:Int}{p:den tPk}(h:((fwd t r now dead inn p).1==2)=false):dC p=true:=by
 cases hv:dC p with
 | true=>rfl
 | false=>
  unfold fwd at h;rw[hv]at h;cases h
def wX(w:den tNw):den tNw:=(nT w,nK w,nG w,aI w,aJ w,aH w,aB w,aS w,wr (dN w+1))
def gM(w:den tNw)(r eg:Int)(p:den tPk):den tNw:=
 if (gX (nG w) p.2.2.2.2.2.2.2.1 r eg (aI w)).2.1&&decide ((aH w).length<150) then
  (nT w,nK w,((gX (nG w) p.2.2.2.2.2.2.2.1 r eg (aI w)).1,(gX (nG w) p.2.2.2.2.2.2.2.1 r eg (aI w)).2.2.1,(gX (nG w) p.2.2.2.2.2.2.2.1 r eg (aI w)).2.2.2),aI w,aJ w,aH w++[((remote (nT w) r eg).1,(remote (nT w) r eg).2,p)],aB w,aS w,dN w)
 else wX w
structure aCg (w:den tNw):Prop where
 as:(nT w).1.length<=68719476736
 links:(nT w).2.length<=1073741824
 dead:(aJ w).length<=68719476736
 res:(nG w).2.1.length<=1073741824
 use:(nG w).2.2.length<=1073741824
 flowsN:(aB w).length<=1073741824
 flows:∀f∈aB w,tot tFl f<=1073741824
theorem bGe{w:den tNw}{r:Int}{v:den aZ6}(h:aCg w):mL w r v=some (bI (gM w r v.2.1 v.2.2)):=by
 unfold mL gM aM pj2 pj3 zz4 zz5 zz6 zz7 zz8 zz9;simp only[aP,bYe h.res h.use,aA,aW,bN,bF,bE,bG];have key:∀n:Nat,decide ((n:Int)>=150)= !decide (n<150):=λn=>by rw[cFm];simp only[zR,cFu,decide_eq_false_iff_not];omega
 have h150:decide ((w.2.2.2.2.2.1.length:Int)>=150)= !decide ((aH w).length<150):=key _;rw[h150];cases ct:(gX (nG w) v.2.2.2.2.2.2.2.2.2.1 r v.2.1 (aI w)).2.1
 .simp only[cFa,zZ,aA,cFh,cE1,zU];rfl
 .by_cases hl:(aH w).length<150
  .rw[zX hl];simp only[cE2,zY,aA,Bool.and_self,zV,aP6 (t:=w.1) (cEv h.links (by decide)),aF (b:=128) (n:=w.2.2.2.2.2.1.length) (m:=1) (by decide) (show (aH w).length+1<=_ by omega),zZ];rfl
  .rw[zW hl];simp only[cE2,cFa,zZ,zY,aA,cGt,cE1,zU];rfl
def proc0(w:den tNw)(r inn:Int)(p:den tPk):den tNw:=
 if (aG (nT w) (aI w) (aJ w) r inn p).1==0 then gM w r (aG (nT w) (aI w) (aJ w) r inn p).2.1 (aG (nT w) (aI w) (aJ w) r inn p).2.2.1
 else if (aG (nT w) (aI w) (aJ w) r inn p).1==1 then tF w r (aG (nT w) (aI w) (aJ w) r inn p).2.2.1
 else wX w
structure aCl (p:den tPk):Prop where
 sz:tot tPk p<=1073741824
 by_:fR p
theorem aCl.step{p:den tPk}(h:aCl p)(t:den tTo)(now:Int)(dead:List Int)(r inn:Int):aCl (aG t now dead r inn p).2.2.1 where
 sz:=by unfold aG;rw[aJr];exact h.sz
 by_:=λx hx=>h.by_ x (by unfold aG at hx;rwa [(aAh t r now _ inn p).2.2.2]at hx)
theorem aUs{w:den tNw}{r inn:Int}{p:den tPk}(h:aCg w)(hp:aCl p)(hk:(p.1==1)=false):eM w r inn p=some (bI (proc0 w r inn p)):=by
 have hp2:tot tPt p.2.2.2.1<=1073741824:=aJf hp.sz;have hs:=hp.step (nT w) (aI w) (aJ w) r inn;unfold eM cF.b ixb aM iK pj2 pj3 pj4 dS aO bC bK zz4 zz5 zz6 zz7 zz8 zz9;simp only[aP,aT6 h.links h.dead,bIl h.as (cEv h.links (by decide)) (cEv hp.sz (by decide)) hp2,aA,aW,bN,bF,bE,bG,hk];rw[show fwd w.1 r w.2.2.2.1 (dL w.1 w.2.2.2.2.1 r) inn p=aG (nT w) (aI w) (aJ w) r inn p from rfl];unfold proc0;generalize aG (nT w) (aI w) (aJ w) r inn p=v at hs;simp only[fwI,aP];cases c0:v.1==0
 .cases c1:v.1==1
  .cases v.1==7
   .simp only[zY,aA,cE1,zU];rfl
   .simp only[zZ,zY,aA,cE1,zU];rfl
  .simp only[zZ,zY,aA,cE1,zU,zV,aUr h.flows h.flowsN hs.sz hs.by_]
 .simp only[zZ,zV,bGe h,aA]
theorem aZh:∀(k n:Nat),n<128 ^ (k+1)-> ∀x∈vi k n,0<=x/\x<=255
 | 0,n,h,x,hx=>by
  have :x=(n:Int):=by simpa [vi] using hx
  subst this;have :128 ^ (0+1)=128:=rfl;omega
 | k+1,n,h,x,hx=>by
  unfold vi at hx;split at hx
  .have :x=(n:Int):=by simpa using hx
   subst this;omega
  .rcases List.mem_cons.1 hx with rfl | hx
   .omega
   .refine aZh k (n / 128) ?_ x hx;rw[Nat.div_lt_iff_lt_mul (by decide)]
    rwa [<- Nat.pow_succ]
def sG(l:List Int):Prop:= ∀x∈l,0<=x/\x<=255
theorem bHd{b:List Int}{n:Int}(h:sG b):sG (aBw b n):=by
 unfold aBw;split
 .rename_i hr;have :=aZ.1 hr;intro x hx;rcases cE4.1 hx with hx | hx
  .exact h x hx
  .exact aZh 5 n.toNat (by have :128 ^ (5+1)=4398046511104:=rfl;omega) x hx
 .exact h
theorem aR2:∀(l b:List Int),sG b->sG (aI2 b l)
 | [],b,h=>h
 | x::xs,b,h=>aR2 xs (aBw b x) (bHd h)
theorem aQ7(x:den tRv):sG (tH x):=by
 unfold tH;split
 .exact aR2 _ _ (λx hx=>by cases hx)
 .exact λx hx=>by cases hx
theorem bE5{r now d:Int}{p:den tPk}(h:tot tPk p<=536870912):aCl (cB r now d p) where
 sz:=by have :=aWd r now d p;omega
 by_:=aQ7 _
theorem aRf{x:den tIb}{p:den tPk}(h:aCl p):aCl (jT x p) where
 sz:=cEv (aWq x p) h.sz
 by_:=by
  unfold jT;split
  .exact λx hx=>by cases hx
  .exact λx hx=>by cases hx
theorem bXz{l:lIb}{a b:Int}(h:l.length<=68719476736):rN l a b=some (dU l a b):=by
 unfold rN dU;rw[aX (l:=l) (λk x=>if qL a b x then some (k:Int) else none) (by omega) (λk x hi hd hw hm hk=>by
  simp only[hd,hi,hw,zZ,aA];unfold qL;cases x.1==a<;>cases x.2.1==b<;>rfl) (by simp),aM5 (qL a b)]
 cases l.findIdx? (qL a b)<;>rfl
theorem aJ7(l:lIb)(a b:Int):dU l a b= -1\/ ∃(k:Nat) (x:den tIb),dU l a b=(k:Int)/\l[k]? =some x:=by
 unfold dU;cases h:l.findIdx? (qL a b) with
 | none=>exact .inl rfl
 | some i=>
  have hlt:i<l.length:=by
   have :=List.findIdx?_eq_some_iff_findIdx_eq.1 h;exact this.1
  exact .inr ⟨i,l[i],by simp,cEx hlt⟩
def oB(w:den tNw)(i:Nat)(x:den tIb):den tNw:=(nT w,nK w,nG w,aI w,aJ w,aH w,aB w,(aS w).set i x,dN w)
def iV(w:den tNw)(i:Nat):den tIb:=((aS w)[i]?).getD (0,0,0,[])
def qJ(w:den tNw)(r:Int)(p:den tPk):den tNw:=
 if dU (aS w) r p.2.1<0 then w
 else if yS (cM (iV w (dU (aS w) r p.2.1).toNat) p) p then
  proc0 (oB w (dU (aS w) r p.2.1).toNat (cM (iV w (dU (aS w) r p.2.1).toNat) p)) r 0 (jT (cM (iV w (dU (aS w) r p.2.1).toNat) p) p)
 else oB w (dU (aS w) r p.2.1).toNat (cM (iV w (dU (aS w) r p.2.1).toNat) p)
def tA(w:den tNw)(r d:Int)(p:den tPk):den tNw:=
 wX (if (fD (oV p)).length>1 then proc0 w r 0 (cB r (aI w) d p) else tF w r (cB r (aI w) d p))
def dW(w:den tNw)(r inn:Int)(p:den tPk):den tNw:=
 if (aG (nT w) (aI w) (aJ w) r inn p).1==0 then gM w r (aG (nT w) (aI w) (aJ w) r inn p).2.1 (aG (nT w) (aI w) (aJ w) r inn p).2.2.1
 else if (aG (nT w) (aI w) (aJ w) r inn p).1==1 then
  (if p.1==1 then qJ w r (aG (nT w) (aI w) (aJ w) r inn p).2.2.1 else tF w r (aG (nT w) (aI w) (aJ w) r inn p).2.2.1)
 else if (aG (nT w) (aI w) (aJ w) r inn p).1==7&&p.1==1 then tA w r (aG (nT w) (aI w) (aJ w) r inn p).2.2.2 p
 else wX w
theorem aIh{w:den tNw}(h:aCg w){i:Nat}{x:den tIb}:aCg (oB w i x):=⟨h.as,h.links,h.dead,h.res,h.use,h.flowsN,h.flows⟩
theorem aF7{x:den tIb}{p:den tPk}(h:yS x p=true):((jT x p).1==1)=false:=by
 unfold jT;rw[h];rfl
theorem bEm{w:den tNw}{r inn:Int}{p:den tPk}(h:aCg w)(hbn:(aS w).length<=68719476736)(hbx:∀x∈aS w,tot tIb x<=1073741824)(hz:tot tPk p<=536870912)(hb:fR p):cF w r inn p=some (bI (dW w r inn p)):=by
 have hp:aCl p:=⟨by omega,hb⟩
 have hp2:tot tPt p.2.2.2.1<=1073741824:=aJf hp.sz;have hs:=hp.step (nT w) (aI w) (aJ w) r inn;have hkeep:=aAh w.1 r w.2.2.2.1 (dL w.1 w.2.2.2.2.1 r) inn p;unfold cF cF.b ixb aM iK pj2 pj3 pj4 dS aO bC bK zz4 zz5 zz6 zz7 zz8 zz9;simp only[aP,aT6 h.links h.dead,bIl h.as (cEv h.links (by decide)) (cEv hp.sz (by decide)) hp2,aA,aW,bN,bF,bE,bG];rw[show fwd w.1 r w.2.2.2.1 (dL w.1 w.2.2.2.2.1 r) inn p=aG (nT w) (aI w) (aJ w) r inn p from rfl]at hkeep ⊢;unfold dW;generalize aG (nT w) (aI w) (aJ w) r inn p=v at hs hkeep;simp only[fwI,aP];cases c0:v.1==0
 .cases c1:v.1==1
  .cases c7:v.1==7
   .simp only[zY,aA,cE1,zU,cFh];rfl
   .cases ck:p.1==1
    .simp only[zZ,zY,aA,cE1,zU,cGt];rfl
    .have hn:aCl (cB r (aI w) v.2.2.2 p):=bE5 hz;have ht1:tot tPt (oV p)<=34359738368:=cEv (aDv p) (cEv hp2 (by decide));have hlen:decide (((fD (oV p)).length:Int)>1)=decide ((fD (oV p)).length>1):=by rw[cFm];simp only[zR,gt_iff_lt];omega
     have e1:eM w r 0 ((pkR (cB r w.2.2.2.1 v.2.2.2 p)).1,(pkR (cB r w.2.2.2.1 v.2.2.2 p)).2.1,(pkR (cB r w.2.2.2.1 v.2.2.2 p)).2.2.1,(pkR (cB r w.2.2.2.1 v.2.2.2 p)).2.2.2.2.2.2.2.2.1,(pkR (cB r w.2.2.2.1 v.2.2.2 p)).2.2.2.1,(pkR (cB r w.2.2.2.1 v.2.2.2 p)).2.2.2.2.1,(pkR (cB r w.2.2.2.1 v.2.2.2 p)).2.2.2.2.2.1,(pkR (cB r w.2.2.2.1 v.2.2.2 p)).2.2.2.2.2.2.1,(pkR (cB r w.2.2.2.1 v.2.2.2 p)).2.2.2.2.2.2.2.1,(pkR (cB r w.2.2.2.1 v.2.2.2 p)).2.2.2.2.2.2.2.2.2)=some (bI (proc0 w r 0 (cB r (aI w) v.2.2.2 p))):=aUs h hn rfl;have e2:iI w r ((pkR (cB r w.2.2.2.1 v.2.2.2 p)).1,(pkR (cB r w.2.2.2.1 v.2.2.2 p)).2.1,(pkR (cB r w.2.2.2.1 v.2.2.2 p)).2.2.1,(pkR (cB r w.2.2.2.1 v.2.2.2 p)).2.2.2.2.2.2.2.2.1,(pkR (cB r w.2.2.2.1 v.2.2.2 p)).2.2.2.1,(pkR (cB r w.2.2.2.1 v.2.2.2 p)).2.2.2.2.1,(pkR (cB r w.2.2.2.1 v.2.2.2 p)).2.2.2.2.2.1,(pkR (cB r w.2.2.2.1 v.2.2.2 p)).2.2.2.2.2.2.1,(pkR (cB r w.2.2.2.1 v.2.2.2 p)).2.2.2.2.2.2.2.1,(pkR (cB r w.2.2.2.1 v.2.2.2 p)).2.2.2.2.2.2.2.2.2)=some (bI (tF w r (cB r (aI w) v.2.2.2 p))):=aUr h.flows h.flowsN hn.sz hn.by_;simp only[zZ,zY,aA,cE1,zU,Bool.and_self,zV,bXm (t:=w.1) (r:=r) (now:=w.2.2.2.1) (d:=v.2.2.2) (cEv hp.sz (by decide)),aZt (fY (p:=p) (by omega)),aW,bN,bF,bE,bG];unfold sV;simp only[aUw ht1,aA,hlen,e1,e2];unfold tA;cases hd:decide ((fD (oV p)).length>1)
     .rw[zS (of_decide_eq_false hd)];rfl
     .rw[zT (of_decide_eq_true hd)];rfl
  .cases ck:p.1==1
   .simp only[zZ,zY,aA,cE1,zU,zV,aUr h.flows h.flowsN hs.sz hs.by_]
   .simp only[zZ,zY,aA,cE1,zU,zV,bXz hbn];unfold qJ;rw[hkeep.2.1];rcases aJ7 (aS w) r p.2.1 with hf | ⟨k,x,hf,hx⟩
    .rw[show dU w.2.2.2.2.2.2.2.1 r p.2.1= -1 from hf];rfl
    .have hlt:=(cEz.1 hx).1;have hx0:w.2.2.2.2.2.2.2.1[k]? =some x:=hx;have hxm:=hbx x (cE9 hx);have hxs:SmB 4294967296 tIb x:=(bR hxm).mono (by decide);have hvs:SmB 4294967296 tPk v.2.2.1:=(bR hs.sz).mono (by decide);have hd1:decide ((k:Int)<(w.2.2.2.2.2.2.2.1.length:Int))=true:=zX (by have :k<w.2.2.2.2.2.2.2.1.length:=hlt;omega);have hd2:decide (k<w.2.2.2.2.2.2.2.1.length)=true:=zX hlt;have hset:(w.2.2.2.2.2.2.2.1.set k (cM x v.2.2.1))[k]? =some (cM x v.2.2.1):=List.getElem?_set_self hlt;have hba:iV w k=x:=by unfold iV;rw[hx];rfl
     rw[show dU w.2.2.2.2.2.2.2.1 r p.2.1=(k:Int) from hf,zW (show ¬ (k:Int)<0 by omega),zS (show ¬ (k:Int)<0 by omega),cE0,hba];have e1:eM (w.1,w.2.1,w.2.2.1,w.2.2.2.1,w.2.2.2.2.1,w.2.2.2.2.2.1,w.2.2.2.2.2.2.1,w.2.2.2.2.2.2.2.1.set k (cM x v.2.2.1),w.2.2.2.2.2.2.2.2) r 0 (jT (cM x v.2.2.1) v.2.2.1)=some (bI (proc0 (oB w k (cM x v.2.2.1)) r 0 (jT (cM x v.2.2.1) v.2.2.1))):=by
      cases ca:yS (cM x v.2.2.1) v.2.2.1 with
      | true=>exact aUs (aIh h) (aRf hs) (aF7 ca)
      | false=>exact aUs (aIh h) (aRf hs) (by unfold jT;rw[ca];rfl)
     simp only[zY,cT,hd1,hd2,zZ,hx0,aA,bW7 hxs hvs,List.length_set,hset,bV6 (x:=cM x v.2.2.1) (p:=v.2.2.1) (cEv (aJf hs.sz) (by decide)),aW,bN,bF,bE,bG,pkB,aP,e1];cases yS (cM x v.2.2.1) v.2.2.1<;>rfl
 .simp only[zZ,zV,bGe h,aA]
def aBk(p q:den tPk):Prop:=p.2.2.2.1=q.2.2.2.1/\p.2.2.2.2.1=q.2.2.2.2.1/\p.2.2.2.2.2.1=q.2.2.2.2.2.1
theorem aBk.cur{p q:den tPk}(h:aBk p q):cH p=cH q/\cD p=cD q/\bM p=bM q/\cW p=cW q/\cQ p=cQ q/\dG p=dG q:=by
 obtain⟨h1,h2,h3⟩:=h;have a1:cH p=cH q:=by unfold cH;rw[h1,h2,h3]
 have a2:cD p=cD q:=by unfold cD;rw[a1,h1,h2,h3]
 have a3:bM p=bM q:=by unfold bM;rw[h1,h2]
 have a4:cW p=cW q:=by unfold cW;rw[a3,h3]
 have a5:cQ p=cQ q:=by unfold cQ;rw[a3,h3]
 exact⟨a1,a2,a3,a4,a5,by unfold dG aE0;rw[a2,a5,h1,h2]⟩
theorem aBk.adv{p q:den tPk}(h:aBk p q):aBk (adv p) (adv q):=by
 obtain⟨a1,a2,a3,a4,a5,a6⟩:=h.cur;obtain⟨h1,h2,h3⟩:=id h;unfold Go.Proofs.YtnkjolpkcmgcaaaGreat.adv;rw[a2,a5,a6];split
 .exact h
 .split
  .exact⟨h1,by show p.2.2.2.2.1+1=q.2.2.2.2.1+1;rw[h2],rfl⟩
  .exact⟨h1,h2,by show p.2.2.2.2.2.1+1=q.2.2.2.2.2.1+1;rw[h3]⟩
theorem uB(t:den tTo)(p:den tPk):aBk (aT t p) p:=by
 obtain⟨b,hb⟩:=aIu t p;rw[hb];exact⟨rfl,rfl,rfl⟩
theorem aBk.trans{p q r:den tPk}(h:aBk p q)(k:aBk q r):aBk p r:=⟨h.1.trans k.1,h.2.1.trans k.2.1,h.2.2.trans k.2.2⟩
theorem yH{t:den tTo}{now:Int}{n:Nat}{p:den tPk}(h:(goC t now n p).1=0):cN t now p=0:=by
 cases n with
 | zero=>exact h
 | succ n=>
  unfold goC at h;split at h
  .rename_i hc;rw[cEw]at hc;simpa using hc.1
  .exact h
end Go.Proofs.YtnkjolpkcmgcaaaGreat
