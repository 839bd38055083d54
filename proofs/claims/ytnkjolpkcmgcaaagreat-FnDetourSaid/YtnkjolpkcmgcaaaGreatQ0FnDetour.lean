/-
  Facts and plain laws: what the functions compute, in plain words. Conditions: as each says.
-/
import Derived.Test.YtnkjolpkcmgcaaaGreatT0FnDetour
open List renaming length->cAc,mem_of_getElem?->bZ9,nil_append->cAl,all_cons->cCa,getElem?_cons_zero->cC3,getElem?_eq_getElem->bZw,length_take->cA8,length_append->cAh,length_singleton->cBe,mem_append->bZ2,mem_singleton->bZz,getElem?_eq_some_iff->bZy,map_cons->cAd,sum_cons->cBc,getLast?_concat->cBs,dropLast_concat->cB3,length_nil->cBm,getElem?_append_right->cCd,length_cons->cAy,foldl_cons->cB6,append_nil->cAs,all_eq_true->cAi,mem_zipIdx_iff_getElem?->cDk,length_filter_le->cCk,getElem?_drop->cBj,length_drop->cB1,getElem?_map->cBq,getElem?_set_self->cB4,length_set->cBl,mem_cons_of_mem->bZ0,filter_cons->cCi,mem_iff_getElem?->cC6,mem_filter->cAa,getElem?_set_ne->cCu
open Nat renaming le_trans->bZv,zero_add->cAt,le_refl->bZ7,zero_le->cAe,mul_le_mul_right->cA4,add_sub_cancel->cC5,not_lt_zero->cCh,succ_mul->cAo
open Bool renaming eq_false_or_eq_true->cCv,true_and->cAf,eq_iff_iff->cAv,not_true->bZ5,not_false->cAb,false_and->cAk,false_eq_true->bZ8,and_eq_true->bZu,or_self->cBu,and_false->cCl,not_eq_true'->cAx,and_self->cCm
open Sum renaming elim_inl->cCj,inr->bZs
open Int renaming toNat_natCast->bZ4,tmod->cAq,toNat_of_nonneg->cB9,eq_ofNat_of_zero_le->cA0,le_refl->cAu
open Option renaming getD_some->cA3
set_option linter.unusedVariables false
set_option linter.unusedSimpArgs false
set_option maxRecDepth 100000
namespace Go.Proofs.YtnkjolpkcmgcaaaGreat
open Go.Ab Go.V
def inR(n a b:Int):Bool:=decide (a<=n)&&decide (n<=b)
theorem jX(n a b:Int):aU n a b=some (inR n a b):=by
 unfold aU inR
 by_cases h:a<=n<;>simp[h]
theorem sG(n a b:Int):bB n a b=some (inR n a b):=by
 unfold bB inR
 by_cases h:a<=n<;>simp[h]
theorem aS{n a b:Int}:inR n a b=true↔a<=n/\n<=b:=by simp[inR]
theorem bCu{n a b:Int}:inR n a b=false↔ ¬ (a<=n/\n<=b):=by rw[<- aS];simp
theorem bFp(a b:Int):aA9 a b=some (if b>a then b else a):=rfl
theorem bYa(a b:Int):aFv a b=some (if b>a then b else a):=by
 unfold aFv
 by_cases h:b>a<;>simp[h]
theorem bXz(a b:Int):aDk a b=some (if b<a then b else a):=rfl
theorem bQv(a b:Int):aB4 a b=some (if b<a then b else a):=by
 unfold aB4
 by_cases h:b<a<;>simp[h]
theorem aDz{b:List Int}(h:b.length<=68719476736):eB b=some b:=by
 unfold eB;rw[aF (by decide) (by simpa using h)];simp
theorem bBr{l:cR}(h:l.length<=68719476736):kO l=some l:=by
 unfold kO;rw[aF (by decide) (by simpa using h)];simp
theorem aTh{l:lRv}(h:l.length<=68719476736):eK l=some l:=by
 unfold eK;rw[aF (by decide) (by simpa using h)];simp
theorem bMs{p:den tPp}(h:SmB 68719476736 tPp p):vL p=some p:=by
 unfold vL;rw[aF (by decide) (by simpa using h.2.2.2.1)];simp
theorem aL7{p:den tPt}(h:SmB 68719476736 tPt p):eN p=some p:=by
 unfold eN;rw[(sR (λk (a:lPp)=>((k:Int),a)) ((0:Int),[]) [] p (λ_ x a=>a++[x]) cAc (λ_=>1) 68719476736 id rfl (bZv h.1 (by decide)) (by rw[fI];simpa using h.1) (λk x a hi hx hd hw hk hb=>by
  have e:=h.2 x (bZ9 hx);simp only[hd,hi,hw,zZ,aA,bBr e.2.2.2.1,aZ,aF (b:=48) (by decide) hb];simp) (λa=>by simp)).1,gD (λx=>x)]
 simp
theorem aGy{p:den tPt}(h:SmB 68719476736 tPt p):jV p=some p:=by
 unfold jV pj4;rw[(sR (λk (a:lPp)=>((k:Int),a)) ((0:Int),[]) [] p (λ_ x a=>a++[x]) cAc (λ_=>1) 68719476736 id rfl (bZv h.1 (by decide)) (by rw[fI];simpa using h.1) (λk x a hi hx hd hw hk hb=>by
  have e:=h.2 x (bZ9 hx);simp only[hd,hi,hw,zZ,aA,aZ,bMs e,aF (b:=48) (by decide) hb];simp) (λa=>by simp)).1,gD (λx=>x)]
 simp
theorem bOm{l:lPt}(h:SmB 68719476736 (.sl tPt) l):rQ l=some l:=by
 unfold rQ;rw[(sR (λk (a:lPt)=>((k:Int),a)) ((0:Int),[]) [] l (λ_ x a=>a++[x]) cAc (λ_=>1) 68719476736 id rfl (bZv h.1 (by decide)) (by rw[fI];simpa using h.1) (λk x a hi hx hd hw hk hb=>by
  have e:=h.2 x (bZ9 hx);simp only[hd,hi,hw,zZ,aA,aL7 e,aF (b:=24) (by decide) hb];simp) (λa=>by simp)).1,gD (λx=>x)]
 simp
theorem bP0{l:lPt}(h:SmB 68719476736 (.sl tPt) l):vP l=some l:=by
 unfold vP;rw[(sR (λk (a:lPt)=>((k:Int),a)) ((0:Int),[]) [] l (λ_ x a=>a++[x]) cAc (λ_=>1) 68719476736 id rfl (bZv h.1 (by decide)) (by rw[fI];simpa using h.1) (λk x a hi hx hd hw hk hb=>by
  have e:=h.2 x (bZ9 hx);simp only[hd,hi,hw,zZ,aA,aGy e,aF (b:=24) (by decide) hb];simp) (λa=>by simp)).1,gD (λx=>x)]
 simp
theorem bB6{l:lMs}(h:SmB 68719476736 (.sl tMs) l):iZ l=some l:=by
 unfold iZ;rw[(sR (λk (a:lMs)=>((k:Int),a)) ((0:Int),[]) [] l (λ_ x a=>a++[x]) cAc (λ_=>1) 68719476736 id rfl (bZv h.1 (by decide)) (by rw[fI];simpa using h.1) (λk x a hi hx hd hw hk hb=>by
  have e:=h.2 x (bZ9 hx);simp only[hd,hi,hw,zZ,aA,aDz e.1,aF (b:=24) (by decide) hb];simp) (λa=>by simp)).1,gD (λx=>x)]
 simp
theorem bDf{l:lMs}(h:SmB 68719476736 (.sl tMs) l):pG l=some l:=by
 unfold pG;rw[(sR (λk (a:lMs)=>((k:Int),a)) ((0:Int),[]) [] l (λ_ x a=>a++[x]) cAc (λ_=>1) 68719476736 id rfl (bZv h.1 (by decide)) (by rw[fI];simpa using h.1) (λk x a hi hx hd hw hk hb=>by
  have e:=h.2 x (bZ9 hx);simp only[hd,hi,hw,zZ,aA,aF (b:=1) (n:=([]:List Int).length) (by decide) (by simpa using e.1),aF (b:=24) (by decide) hb];simp) (λa=>by simp)).1,gD (λx=>x)]
 simp
def sP(f:den tFl):q8:=(f.1,f.2.1,f.2.2.1,f.2.2.2.1,f.2.2.2.2.2.2.1,f.2.2.2.2.2.2.2.1,f.2.2.2.2.1,f.2.2.2.2.2.1,f.2.2.2.2.2.2.2.2)
theorem aG4{f:den tFl}(h:SmB 68719476736 tFl f):eO f=some (sP f):=by
 unfold eO sP zz4 zz5 zz6 zz7 zz8;simp only[bB6 h.2.2.2.2.1,bOm h.2.2.2.2.2.1,aTh h.2.2.2.2.2.2.2.2.1,aA]
theorem aTq{f:den tFl}(h:SmB 68719476736 tFl f):mQ f=some (sP f):=by
 unfold mQ sP zz4 zz5 zz6 zz7 zz8;simp only[bDf h.2.2.2.2.1,bP0 h.2.2.2.2.2.1,aA,aF (b:=24) (n:=([]:lRv).length) (by decide) (by simpa using h.2.2.2.2.2.2.2.2.1),zZ,cAl]
theorem bDn{x:den tIb}(h:SmB 68719476736 tIb x):nA x=some x:=by
 unfold nA;simp only[bB6 h.2.2.2,aA,aZ]
theorem bSg{x:den tIb}(h:SmB 68719476736 tIb x):vO x=some x:=by
 unfold vO;simp only[bDf h.2.2.2,aA,aZ]
def dJ(x:den tRv):Bool:=inR x.1 0 7&&(inR x.2.1 1 6&&inR x.2.2 0 1000000)
theorem aBk(x:den tRv):bP x=some (dJ x):=by
 unfold bP dJ;simp only[jX,aA];cases inR x.1 0 7<;>cases inR x.2.1 1 6<;>cases inR x.2.2 0 1000000<;>rfl
theorem aOf(x:den tRv):dL x=some (dJ x):=by
 unfold dL dJ;simp only[sG,aA];cases inR x.1 0 7<;>cases inR x.2.1 1 6<;>cases inR x.2.2 0 1000000<;>rfl
theorem aAu{α S:Type}(p:Nat->α->Bool):∀(l:List α) (k:Nat) (ρ:S),bN (λk x=>if p k x then none else some ρ) k l=if (l.zipIdx k).all (λx=>p x.2 x.1) then none else some ρ
 | [],_,_=>rfl
 | x::xs,k,ρ=>by
  simp only[bN,List.zipIdx_cons,cCa];rcases cCv (p k x) with h | h
  .simp only[h,zV,cAf];exact aAu p xs (k+1) ρ
  .simp[h]
theorem bBw{α:Type}(p:α->Bool):∀(l:List α) (k:Nat),(l.zipIdx k).all (λx=>p x.1)=l.all p
 | [],_=>rfl
 | x::xs,k=>by simp[List.zipIdx_cons,bBw p xs]
theorem pA{α S:Type}(p:α->Bool)(l:List α)(ρ:S):bN (λ_ x=>if p x then none else some ρ) 0 l=if l.all p then none else some ρ:=by
 rw[aAu (λ_ x=>p x),bBw p]
def hO(f:den tFl):Bool:=
 inR f.1 0 7&&(inR f.2.1 0 7&&(!(f.1==f.2.1)&&(inR f.2.2.1 0 100000&&(decide (f.2.2.2.2.1.length<=20)&&(inR f.2.2.2.1 0 (f.2.2.2.2.1.length:Int)&&(decide (f.2.2.2.2.2.1.length<=24)&&
  (f.2.2.2.2.1.all (λm=>decide (m.length<=40))&&(f.2.2.2.2.2.2.2.2.all dJ&&((f.2.2.2.2.2.2.1==0||inR f.2.2.2.2.2.2.1 0 ((f.2.2.2.2.2.1.length:Int) - 1))&&(inR f.2.2.2.2.2.2.2.1 0 4&&decide (f.2.2.2.2.2.2.2.2.length<=16)))))))))))
theorem aY4{f:den tFl}(h:SmB 68719476736 tFl f):lP f=some (hO f):=by
 have h1:=h.2.2.2.2.1.1;have h2:=h.2.2.2.2.2.1.1;have h3:=h.2.2.2.2.2.2.2.2.1;unfold lP hO pj3 zz4 zz5 zz6 zz7 zz8;rw[aW (l:=f.2.2.2.2.1) (λ_ m=>if decide (m.length<=40) then none else some false) (by omega) (λk m hi hd hw hx hk=>by
  simp only[hd,hi,hw,zZ,aA]
  by_cases hm:m.length<=40
  .simp[hm,show ¬ ((m.length:Int)>40) by omega]
  .simp[hm,show (m.length:Int)>40 by omega]) (by simp)]
 rw[aW (l:=f.2.2.2.2.2.2.2.2) (λ_ x=>if dJ x then none else some false) (by omega) (λk x hi hd hw hx hk=>by
  simp only[hd,hi,hw,zZ,aA,aZ,aBk];cases dJ x<;>rfl) (by simp)]
 rw[pA (λm:List Int=>decide (m.length<=40)),pA dJ];have e1:decide ((f.2.2.2.2.1.length:Int)>20)= !decide (f.2.2.2.2.1.length<=20):=by rw[cAv];simp;omega
 have e2:decide ((f.2.2.2.2.2.1.length:Int)>24)= !decide (f.2.2.2.2.2.1.length<=24):=by rw[cAv];simp;omega
 have e3:decide ((f.2.2.2.2.2.2.2.2.length:Int)<=16)=decide (f.2.2.2.2.2.2.2.2.length<=16):=by rw[cAv];simp;omega
 have e5:wr ((f.2.2.2.2.2.1.length:Int) - 1)=(f.2.2.2.2.2.1.length:Int) - 1:=wri (by omega) (by omega);rw[e5];simp only[jX,aA,e1,e2,e3];cases inR f.1 0 7<;>simp only[bZ5,cAb,zZ,zY,aA,cAk,cAf];cases inR f.2.1 0 7<;>simp only[bZ5,cAb,zZ,zY,aA,cAk,cAf];cases f.1==f.2.1<;>simp only[bZ5,cAb,zZ,zY,aA,cAk,cAf];cases inR f.2.2.1 0 100000<;>simp only[bZ5,cAb,zZ,zY,aA,cAk,cAf];cases decide (f.2.2.2.2.1.length<=20)<;>simp only[bZ5,cAb,zZ,zY,aA,cAk,cAf];cases inR f.2.2.2.1 0 (f.2.2.2.2.1.length:Int)<;>simp only[bZ5,cAb,zZ,zY,aA,cAk,cAf];cases decide (f.2.2.2.2.2.1.length<=24)<;>simp only[bZ5,cAb,zZ,zY,aA,cAk,cAf];cases f.2.2.2.2.1.all (λm=>decide (m.length<=40))<;>simp only[bZ8,zV,zU,aA,cCj,Sum.elim_inr,cAk,cAf];cases f.2.2.2.2.2.2.2.2.all dJ<;>simp only[bZ8,zV,zU,aA,cCj,Sum.elim_inr,cAk,cAf];cases f.2.2.2.2.2.2.1==0<;>cases inR f.2.2.2.2.2.2.1 0 ((f.2.2.2.2.2.1.length:Int) - 1)<;>cases inR f.2.2.2.2.2.2.2.1 0 4<;>rfl
theorem aZj{f:den tFl}(h:SmB 68719476736 tFl f):mC f=some (hO f):=by
 have h1:=h.2.2.2.2.1.1;have h2:=h.2.2.2.2.2.1.1;have h3:=h.2.2.2.2.2.2.2.2.1;unfold mC hO pj3 zz4 zz5 zz6 zz7 zz8;rw[aW (l:=f.2.2.2.2.1) (λ_ m=>if decide (m.length<=40) then none else some false) (by omega) (λk m hi hd hw hx hk=>by
  simp only[hd,hi,hw,zZ,aA]
  by_cases hm:m.length<=40
  .simp[hm,show ¬ ((m.length:Int)>40) by omega]
  .simp[hm,show (m.length:Int)>40 by omega]) (by simp)]
 rw[aW (l:=f.2.2.2.2.2.2.2.2) (λ_ x=>if dJ x then none else some false) (by omega) (λk x hi hd hw hx hk=>by
  simp only[hd,hi,hw,zZ,aA,aZ,aOf];cases dJ x<;>rfl) (by simp)]
 rw[pA (λm:List Int=>decide (m.length<=40)),pA dJ];have e1:decide ((f.2.2.2.2.1.length:Int)>20)= !decide (f.2.2.2.2.1.length<=20):=by rw[cAv];simp;omega
 have e2:decide ((f.2.2.2.2.2.1.length:Int)>24)= !decide (f.2.2.2.2.2.1.length<=24):=by rw[cAv];simp;omega
 have e3:decide ((f.2.2.2.2.2.2.2.2.length:Int)>16)= !decide (f.2.2.2.2.2.2.2.2.length<=16):=by rw[cAv];simp;omega
 have e4:inR f.2.2.2.2.2.2.1 0 (if ((f.2.2.2.2.2.1.length:Int) - 1)>0 then ((f.2.2.2.2.2.1.length:Int) - 1) else 0)=(f.2.2.2.2.2.2.1==0||inR f.2.2.2.2.2.2.1 0 ((f.2.2.2.2.2.1.length:Int) - 1)):=by
  have key:∀(c n:Int),0<=n->inR c 0 (if n - 1>0 then n - 1 else 0)=(c==0||inR c 0 (n - 1)):=λc n hn=>by
   unfold inR
   by_cases h1:n - 1>0
   .rw[zT h1]
    by_cases h2:c=0
    .subst h2;simp;omega
    .simp[h2]
   .rw[zS h1]
    by_cases h2:c=0
    .subst h2;simp
    .rw[cAv];simp[h2];omega
  exact key _ _ (by omega)
 have e5:wr ((f.2.2.2.2.2.1.length:Int) - 1)=(f.2.2.2.2.2.1.length:Int) - 1:=wri (by omega) (by omega);rw[e5];simp only[sG,bYa,aA,e1,e2,e3,e4];cases inR f.1 0 7<;>simp only[bZ5,cAb,zZ,zY,aA,cAk,cAf];cases inR f.2.1 0 7<;>simp only[bZ5,cAb,zZ,zY,aA,cAk,cAf];cases f.1==f.2.1<;>simp only[bZ5,cAb,zZ,zY,aA,cAk,cAf];cases inR f.2.2.1 0 100000<;>simp only[bZ5,cAb,zZ,zY,aA,cAk,cAf];cases decide (f.2.2.2.2.1.length<=20)<;>simp only[bZ5,cAb,zZ,zY,aA,cAk,cAf];cases inR f.2.2.2.1 0 (f.2.2.2.2.1.length:Int)<;>simp only[bZ5,cAb,zZ,zY,aA,cAk,cAf];cases decide (f.2.2.2.2.2.1.length<=24)<;>simp only[bZ5,cAb,zZ,zY,aA,cAk,cAf];cases f.2.2.2.2.2.2.1==0||inR f.2.2.2.2.2.2.1 0 ((f.2.2.2.2.2.1.length:Int) - 1)<;>cases inR f.2.2.2.2.2.2.2.1 0 4<;>cases decide (f.2.2.2.2.2.2.2.2.length<=16)<;>cases f.2.2.2.2.1.all (λm=>decide (m.length<=40))<;>cases f.2.2.2.2.2.2.2.2.all dJ<;>rfl
def aH2(a b:List Int):Bool:=(yH a).toList==(yH b).toList
theorem bSa(a b:List Int):sA a b=some (aH2 a b):=rfl
def xS:lMs->lMs->Bool
 | [],_=>true
 | _::_,[]=>true
 | a::as,b::bs=>aH2 a b&&xS as bs
def aWc{α S:Type}(p:α->α->Bool)(l:List α)(ρ:S)(k:Nat)(x:α):Option S:=Option.elim l[k]? none λy=>if p x y then none else some ρ
theorem bQg{α S:Type}(p:α->α->Bool)(q:List α->List α->Bool)(h0:∀b,q [] b=true)(h1:∀x a y b,q (x::a) (y::b)=(p x y&&q a b))(ρ:S):∀(a b:List α),a.length<=b.length-> ∀(k:Nat) (l:List α),(∀j,b[j]? =l[k+j]?)->bN (aWc p l ρ) k a=if q a b then none else some ρ
 | [],b,_,k,l,_=>by rw[h0];rfl
 | x::a,[],h,_,_,_=>by simp at h
 | x::a,y::b,h,k,l,hl=>by
  have e0:=hl 0;simp only[Nat.add_zero,cC3]at e0;simp only[bN,aWc,<- e0,h1,Option.elim_some];rcases cCv (p x y) with hp | hp
  .simp only[hp,zV,cAf];exact bQg p q h0 h1 ρ a b (by simpa using h) (k+1) l λj=>by
    have :=hl (j+1);rw[List.getElem?_cons_succ]at this;rw[this];congr 1;omega
  .simp[hp]
theorem bOi{a b:lMs}(ha:a.length<=68719476736)(hb:b.length<=68719476736):kY a b=some (decide (a.length=b.length)&&xS a b):=by
 unfold kY
 by_cases hl:a.length=b.length
 .have h0:((a.length:Int) != (b.length:Int))=false:=by simp[hl]
  rw[h0,zY,aW (l:=a) (aWc aH2 b false) (by omega) (λk x hi hd hw hx hk=>by
    have hy:b[k]? =some b[k]:=bZw (by omega);simp only[hd,hi,hw,zZ,aA,aP,hy,bSa,aWc,Option.elim_some];cases aH2 x b[k]<;>rfl) (by simp)]
  rw[bQg aH2 xS (λb=>by cases b<;>rfl) (λ_ _ _ _=>rfl) false a b (by omega) 0 b (λj=>by rw[cAt])];cases xS a b<;>simp[hl]
 .have h0:((a.length:Int) != (b.length:Int))=true:=by simp;omega
  rw[h0,zZ];simp[hl]
def aDx(f:den tFl)(x:den tIb):Bool:=
 x.1==f.2.1&&(x.2.1==f.1&&(decide (x.2.2.2.length<=f.2.2.2.2.1.length)&&(xS x.2.2.2 f.2.2.2.2.1&&decide ((x.2.2.2.length:Int)>=f.2.2.2.1))))
theorem aGr:∀(a b:lMs),xS a (b.take a.length)=xS a b
 | [],b=>by cases b<;>rfl
 | x::a,[]=>rfl
 | x::a,y::b=>by simp[xS,aGr a b]
theorem bJ6{f:den tFl}{x:den tIb}(hf:f.2.2.2.2.1.length<=68719476736)(hx:x.2.2.2.length<=68719476736):kC f x=some (aDx f x):=by
 unfold kC aDx zz4;cases x.1==f.2.1
 .rfl
 cases x.2.1==f.1
 .rfl
 by_cases hl:x.2.2.2.length<=f.2.2.2.2.1.length
 .have h1:decide ((x.2.2.2.length:Int)<=(f.2.2.2.2.1.length:Int))=true:=by simpa using hl
  have h2:cC (0:Int) (x.2.2.2.length:Int) (f.2.2.2.2.1.length:Int)=true:=by simp[cC];omega
  rw[h1,h2,jE,bOi hx (by rw[cA8];omega),aGr];have h3:decide (x.2.2.2.length=(List.take x.2.2.2.length f.2.2.2.2.1).length)=true:=by simp[cA8];omega
  rw[h3];simp only[zZ,aA,cAf,zX hl];cases xS x.2.2.2 f.2.2.2.2.1<;>rfl
 .have h1:decide ((x.2.2.2.length:Int)<=(f.2.2.2.2.1.length:Int))=false:=by simp;omega
  rw[h1];simp[hl]
def xC(x:den tIb)(p:den tPk):Bool:=p.1==1&&(p.2.1==x.2.1&&p.2.2.1==x.1)
theorem bBp(x:den tIb)(p:den tPk):rL x p=some (xC x p):=by
 unfold rL xC;cases p.1==1<;>cases p.2.1==x.2.1<;>rfl
def aWp(x:den tIb)(p:den tPk):Bool:=xC x p&&(p.2.2.2.2.2.2.2.2.1==x.2.2.1&&decide (x.2.2.1<20))
def cV(x:den tIb)(p:den tPk):den tIb:=if aWp x p then (x.1,x.2.1,wr (x.2.2.1+1),x.2.2.2++[p.2.2.2.2.2.2.2.2.2]) else x
theorem bTu{x:den tIb}{p:den tPk}(hx:SmB 4294967296 tIb x)(hp:SmB 4294967296 tPk p):nF x p=some (cV x p):=by
 have hx':SmB 68719476736 tIb x:=hx.mono (by decide);have hp':=(hp.mono (C:=68719476736) (by decide)).2.2.2.2.2.2.2.2.2.1;unfold nF cV aWp bF pj4 zz8 zz9;have ha:=hx.2.2.2.1;simp only[aZ,bDn hx',bBp,aDz hp',aA,aF (b:=24) (n:=x.2.2.2.length) (m:=1) (by decide) (by omega),zZ];cases xC x p<;>cases p.2.2.2.2.2.2.2.2.1==x.2.2.1<;>cases decide (x.2.2.1<20)<;>rfl
theorem bIq(x:den tIb)(p:den tPk):tot (.sl tMs) (cV x p).2.2.2<=tot (.sl tMs) x.2.2.2+1+tot (.sl tb) p.2.2.2.2.2.2.2.2.2:=by
 unfold cV;split
 .rw[rU,aD6];show _+(1+tot (.sl tb) _)<=_;omega
 .omega
def vZ(f:den tFl)(p:den tPk):Bool:=p.1==2&&(p.2.1==f.2.1&&(p.2.2.1==f.1&&(p.2.2.2.2.2.2.2.2.1==f.2.2.2.1&&inR f.2.2.2.1 0 ((f.2.2.2.2.1.length:Int) - 1))))
def jH(f:den tFl)(p:den tPk):den tFl:=if vZ f p then (f.1,f.2.1,f.2.2.1,wr (f.2.2.2.1+1),f.2.2.2.2.1,f.2.2.2.2.2.1,f.2.2.2.2.2.2.1,0,f.2.2.2.2.2.2.2.2) else f
theorem bTi{f:den tFl}{p:den tPk}(hf:SmB 68719476736 tFl f):rO f p=some (sP (jH f p)):=by
 unfold rO jH vZ pj3 pj9 zz4 zz5 zz6 zz8;have e5:wr ((f.2.2.2.2.1.length:Int) - 1)=(f.2.2.2.2.1.length:Int) - 1:=wri (by have :=hf.2.2.2.2.1.1;omega) (by have :=hf.2.2.2.2.1.1;omega);simp only[aZ,aG4 hf,aA,jX,e5];cases p.1==2<;>cases p.2.1==f.2.1<;>cases p.2.2.1==f.1<;>cases p.2.2.2.2.2.2.2.2.1==f.2.2.2.1<;>cases inR f.2.2.2.1 0 ((f.2.2.2.2.1.length:Int) - 1)<;>rfl
theorem bBf(f:den tFl)(p:den tPk):(jH f p).2.2.2.2.1=f.2.2.2.2.1/\(jH f p).2.2.2.2.2.1=f.2.2.2.2.2.1/\(jH f p).2.2.2.2.2.2.2.2=f.2.2.2.2.2.2.2.2:=by
 unfold jH;split<;>exact⟨rfl,rfl,rfl⟩
def enq(f:den tFl)(b:List Int):den tFl:=(f.1,f.2.1,f.2.2.1,f.2.2.2.1,f.2.2.2.2.1++[b],f.2.2.2.2.2.1,f.2.2.2.2.2.2.1,f.2.2.2.2.2.2.2.1,f.2.2.2.2.2.2.2.2)
def aR7(f:den tFl)(b:List Int):Int×Int×Int×Int×Int×Int×Bool×lMs×lPt×lRv:=
 if hO (enq f b) then (f.1,f.2.1,f.2.2.1,f.2.2.2.1,f.2.2.2.2.2.2.1,f.2.2.2.2.2.2.2.1,true,f.2.2.2.2.1++[b],f.2.2.2.2.2.1,f.2.2.2.2.2.2.2.2)
 else (f.1,f.2.1,f.2.2.1,f.2.2.2.1,f.2.2.2.2.2.2.1,f.2.2.2.2.2.2.2.1,false,f.2.2.2.2.1,f.2.2.2.2.2.1,f.2.2.2.2.2.2.2.2)
theorem bKw{f:den tFl}{b:List Int}(hf:SmB 4294967296 tFl f)(hb:SmB 4294967296 (.sl tb) b):SmB 68719476736 tFl (enq f b):=by
 have hf':=hf.mono (C:=68719476736) (by decide);refine⟨hf'.1,hf'.2.1,hf'.2.2.1,hf'.2.2.2.1,⟨?_,λe he=> ?_⟩,hf'.2.2.2.2.2.1,hf'.2.2.2.2.2.2.1,hf'.2.2.2.2.2.2.2.1,hf'.2.2.2.2.2.2.2.2⟩
 .show (f.2.2.2.2.1++[b]).length<=_;have :=hf.2.2.2.2.1.1;rw[cAh,cBe];omega
 .rcases bZ2.1 he with he | he
  .exact hf'.2.2.2.2.1.2 e he
  .rw[bZz.1 he];exact hb.mono (by decide)
theorem bYy{f:den tFl}{b:List Int}(hf:SmB 4294967296 tFl f)(hb:SmB 4294967296 (.sl tb) b):vU f b=some (aR7 f b):=by
 unfold vU aR7 pj2 pj3 pj9 zz4 zz5 zz6 zz7 zz8;have hf':=hf.mono (C:=68719476736) (by decide);have h1:=hf.2.2.2.2.1.1;have h2:lP (f.1,f.2.1,f.2.2.1,f.2.2.2.1,f.2.2.2.2.1++[b],f.2.2.2.2.2.1,f.2.2.2.2.2.2.1,f.2.2.2.2.2.2.2.1,f.2.2.2.2.2.2.2.2)=some (hO (enq f b)):=aY4 (f:=enq f b) (bKw hf hb);simp only[aZ,aG4 hf',aDz (b:=b) (bZv hb.1 (by decide)),aA,sP,aF (b:=24) (n:=f.2.2.2.2.1.length) (m:=1) (by decide) (by omega),zZ,h2];cases hO (enq f b)<;>rfl
theorem bYo{f:den tFl}{b:List Int}(hf:SmB 4294967296 tFl f)(hb:SmB 4294967296 (.sl tb) b):tX f b=some (aR7 f b):=by
 unfold tX aR7 pj2 pj3 pj9 zz4 zz5 zz6 zz7 zz8;have hf':=hf.mono (C:=68719476736) (by decide);have h1:=hf.2.2.2.2.1.1;have h2:mC (f.1,f.2.1,f.2.2.1,f.2.2.2.1,f.2.2.2.2.1++[b],f.2.2.2.2.2.1,f.2.2.2.2.2.2.1,f.2.2.2.2.2.2.2.1,f.2.2.2.2.2.2.2.2)=some (hO (enq f b)):=aZj (f:=enq f b) (bKw hf hb);simp only[aZ,aTq hf',aA,sP,aF (b:=1) (n:=([]:List Int).length) (m:=b.length) (by decide) (by have :=hb.1;simp;omega),aF (b:=24) (n:=f.2.2.2.2.1.length) (m:=1) (by decide) (by omega),zZ,cAl,h2];cases hO (enq f b)<;>rfl
def gV(k:Int):Bool:=k==1||k==3
theorem aL2(k:Int):dF k=some (gV k):=by
 unfold dF gV;cases k==1<;>rfl
theorem aHf(k:Int):eJ k=some (gV k):=by
 unfold eJ gV;cases k==1<;>rfl
def pIn(p:den tPp)(h:den bG):Int:=if gV p.1 then h.2.2.1 else h.2.1
def pEg(p:den tPp)(h:den bG):Int:=if gV p.1 then h.2.1 else h.2.2.1
theorem wP{n:Nat}(h:n<=68719476736):wr ((n:Int) - 1)=(n:Int) - 1:=wri (by omega) (by omega)
theorem aLj{k n:Nat}(h:k<n):inR (k:Int) 0 ((n:Int) - 1)=true:=by rw[aS];omega
theorem bGj{p:den tPp}{k:Nat}{h:den bG}(hk:p.2.2.2[k]? =some h)(hl:p.2.2.2.length<=68719476736):fK p (k:Int)=some (pIn p h):=by
 have hlt:k<p.2.2.2.length:=(bZy.1 hk).1;unfold fK pIn;simp only[jX,wP hl,aLj hlt,aA,bZ5,zY,aL2,aP,hk];cases gV p.1<;>rfl
theorem bRe{p:den tPp}{k:Nat}{h:den bG}(hk:p.2.2.2[k]? =some h)(hl:p.2.2.2.length<=68719476736):iL p (k:Int)=some (pIn p h):=by
 have hlt:k<p.2.2.2.length:=(bZy.1 hk).1;unfold iL pIn;simp only[sG,wP hl,aLj hlt,aA,bZ5,zY,aHf,aP,hk];cases gV p.1<;>rfl
theorem bHb{p:den tPp}{k:Nat}{h:den bG}(hk:p.2.2.2[k]? =some h)(hl:p.2.2.2.length<=68719476736):fP p (k:Int)=some (pEg p h):=by
 have hlt:k<p.2.2.2.length:=(bZy.1 hk).1;unfold fP pEg;simp only[jX,wP hl,aLj hlt,aA,bZ5,zY,aL2,aP,hk];cases gV p.1<;>rfl
theorem bRo{p:den tPp}{k:Nat}{h:den bG}(hk:p.2.2.2[k]? =some h)(hl:p.2.2.2.length<=68719476736):iN p (k:Int)=some (pEg p h):=by
 have hlt:k<p.2.2.2.length:=(bZy.1 hk).1;unfold iN pEg;simp only[sG,wP hl,aLj hlt,aA,bZ5,zY,aHf,aP,hk];cases gV p.1<;>rfl
def qU(nf:Bool)(p:den tPp)(i:Nat)(h:den bG)(out:bM):bM:=
 match out.getLast? with
 | some z=>if nf&&(decide (i=0)&&z.1==h.1) then out.dropLast++[(h.1,z.2.1,pEg p h)] else out++[(h.1,pIn p h,pEg p h)]
 | none=>out++[(h.1,pIn p h,pEg p h)]
theorem aNw(nf:Bool)(p:den tPp)(i:Nat)(h:den bG)(out:bM):(qU nf p i h out).length<=out.length+1:=by
 unfold qU;split
 .split
  .simp only[cAh,List.length_dropLast,cBe];omega
  .simp
 .simp
def iG(nf:Bool)(p:den tPp)(a:bM):bM:=bI (λi h b=>qU nf p i h b) 0 p.2.2.2 a
def xK(p:den tPt):bM:=bI (λk x a=>iG (decide (0<k)) x a) 0 p []
def aC5(l:bM):bM:=
 match l with
 | []=>[]
 | x::xs=>let m:=(x.1,0,x.2.2)::xs
  match m.getLast? with
  | some y=>m.dropLast++[(y.1,y.2.1,0)]
  | none=>[]
def fT(p:den tPt):bM:=aC5 (xK p)
theorem bMv(l:bM):(aC5 l).length=l.length:=by
 unfold aC5;split
 .rfl
 .rename_i x xs;simp only;rw[List.getLast?_eq_some_getLast (by simp)];simp
theorem aH7(p:den tPt):(p.map λx=>x.2.2.2.length).sum<=tot tPt p:=by
 show _<=tot (.sl tPp) p;rw[<- aSk]
 induction p with
 | nil=>exact bZ7 _
 | cons x p ih=>
  simp only[cAd,cBc];have h1:x.2.2.2.length<=tot tPp x:=by
   show _<=tot ti x.1+(tot ti x.2.1+(tot ti x.2.2.1+tot (.sl bG) x.2.2.2));rw[jB rfl];omega
  omega
theorem aZw{n:Nat}(h:n<=68719476736)(h0:0<n):wr ((n:Int) - 1)=((n - 1:Nat):Int):=by
 rw[wP h];omega
theorem aHd{α:Type}{m:List α}{z:α}(h:(m++[z]).length<=68719476736):wr (((m++[z]).length:Int) - 1)=(m.length:Int):=by
 rw[aZw h (by simp)];simp
theorem aJ9(nf:Bool)(p:den tPp)(a:bM):(iG nf p a).length<=a.length+p.2.2.2.length:=by
 have :=aAf (m:=cAc) (cost:=λ_=>1) (λi h b=>aNw nf p i h b) p.2.2.2 0 a;rw[fI]at this;exact this
theorem aI5(p:den tPt):(xK p).length<=tot tPt p:=by
 have :=aAf (m:=cAc) (cost:=λx:den tPp=>x.2.2.2.length) (λk x a=>aJ9 (decide (0<k)) x a) p 0 [];have h2:=aH7 p;have h3:(xK p).length<=0+(p.map λx=>x.2.2.2.length).sum:=this;omega
theorem aCs(p:den tPt):(fT p).length<=tot tPt p:=by
 unfold fT;rw[bMv];exact aI5 p
theorem bB8(k:Nat):decide ((k:Int)>0)=decide (0<k):=by rw[cAv];simp
theorem aY0(i:Nat):((i:Int)==0)=decide (i=0):=by rw[cAv];simp
theorem aX6(nf:Bool)(p:den tPp)(i:Nat)(h:den bG):qU nf p i h []=[(h.1,pIn p h,pEg p h)]:=rfl
theorem aU4(nf:Bool)(p:den tPp)(i:Nat)(h:den bG)(m:bM)(z:den lJ):qU nf p i h (m++[z])=if nf&&(decide (i=0)&&z.1==h.1) then m++[(h.1,z.2.1,pEg p h)] else (m++[z])++[(h.1,pIn p h,pEg p h)]:=by
 unfold qU;rw[cBs,cB3]
theorem aVi{m:bM}{x z:den lJ}{xs:bM}(h:(x.1,(0:Int),x.2.2)::xs=m++[z]):aC5 (x::xs)=m++[(z.1,z.2.1,0)]:=by
 unfold aC5;simp only;rw[h,cBs,cB3]
theorem aRy{p:den tPt}(h:tot tPt p<=34359738368):kI p=some (fT p):=by
 have hs:=aH7 p;have sm:SmB 34359738368 tPt p:=bW h;have hl:=aI5 p;unfold kI ixb pj4;rw[lC (λk (a:bM)=>((k:Int),a)) ((0:Int),[]) [] p (λk x a=>iG (decide (0<k)) x a) cAc (λx=>x.2.2.2.length) 34359738368 id rfl (bZv sm.1 (by decide)) (by simp only[cBm];omega) (λk x a=>aJ9 _ x a) (λk x a hi hx hd hw hk hb=>by
  have hxl:x.2.2.2.length<=34359738368:=(sm.2 x (bZ9 hx)).2.2.2.1;simp only[hd,hi,hw,zZ,aA];rw[lC (λi (b:bM)=>((i:Int),b)) ((0:Int),a) a x.2.2.2 (λi h b=>qU (decide (0<k)) x i h b) cAc (λ_=>1) 34359738368 id rfl (bZv hxl (by decide)) (by rw[fI];exact hb) (λi h b=>aNw _ x i h b) (λi g b hi2 hg hd2 hw2 hk2 hb2=>by
   have hl2:x.2.2.2.length<=68719476736:=by omega
   simp only[hd2,hi2,hw2,zZ,aA,aZ,bGj hg hl2,bHb hg hl2,bB8,aY0,aF (b:=24) (n:=b.length) (m:=1) (by decide) (by omega)];rcases gK b with rfl | ⟨m,z,rfl⟩
   .rw[aX6];cases decide (0<k)<;>cases decide (i=0)<;>rfl
   .rw[aU4,aHd (by omega)];simp only[dW,aOe,aG9,aIg,zZ,bZ4,aA,aNh];cases decide (0<k)<;>cases decide (i=0)<;>cases hz:z.1==g.1<;>simp[hz];simpa using hz) (λb=>by simp)]
  rfl) (λa=>by simp)]
 simp only[aA,id];rw[show bI (λk x a=>iG (decide (0<k)) x a) 0 p []=xK p from rfl];show _=some (aC5 (xK p));generalize xK p=l at hl;cases l with
 | nil=>rfl
 | cons x xs=>
  have e1:decide ((((x::xs).length:Nat):Int)>0)=true:=by simp
  have e2:decide ((0:Int)<(((x::xs).length:Nat):Int))=true:=by simp
  have e3:(0:Int).toNat=0:=rfl;have e4:decide ((0:Int)<=0)=true:=rfl;simp only[e1,e2,e3,e4,zZ,cC3,aA,List.set_cons_zero];rcases gK ((x.1,(0:Int),x.2.2)::xs) with h0 | ⟨m,z,hm⟩
  .cases h0
  .have hlen:((x.1,(0:Int),x.2.2)::xs).length=(x::xs).length:=rfl;rw[aVi hm];rw[hm]at hlen ⊢;rw[aHd (by omega)];simp only[dW,aG9,aIg,zZ,bZ4,aA,aNh]
theorem aMg{p:den tPt}(h:tot tPt p<=34359738368):kK p=some (fT p):=by
 have hs:=aH7 p;have sm:SmB 34359738368 tPt p:=bW h;have hl:=aI5 p;unfold kK ixb pj4;rw[lC (λk (a:bM)=>((k:Int),a)) ((0:Int),[]) [] p (λk x a=>iG (decide (0<k)) x a) cAc (λx=>x.2.2.2.length) 34359738368 id rfl (bZv sm.1 (by decide)) (by simp only[cBm];omega) (λk x a=>aJ9 _ x a) (λk x a hi hx hd hw hk hb=>by
  have hxl:x.2.2.2.length<=34359738368:=(sm.2 x (bZ9 hx)).2.2.2.1;simp only[hd,hi,hw,zZ,aA];rw[lC (λi (b:bM)=>((i:Int),b)) ((0:Int),a) a x.2.2.2 (λi h b=>qU (decide (0<k)) x i h b) cAc (λ_=>1) 34359738368 id rfl (bZv hxl (by decide)) (by rw[fI];exact hb) (λi h b=>aNw _ x i h b) (λi g b hi2 hg hd2 hw2 hk2 hb2=>by
   have hl2:x.2.2.2.length<=68719476736:=by omega
   simp only[hd2,hi2,hw2,zZ,aA,aZ,bRe hg hl2,bRo hg hl2,bU,dH,cL,cK,cS,bB8,aY0];rcases gK b with rfl | ⟨m,z,rfl⟩
   .rw[aX6];cases decide (0<k)<;>cases decide (i=0)<;>rfl
   .rw[aU4,aHd (by omega)];have e1:decide (((m++[z]).length:Int)>0)=true:=by simp
    have e2:cC (0:Int) (m.length:Int) ((m++[z]).length:Int)=true:=by simp[cC];omega
    have e3:(m++[z]).take m.length=m:=by simp
    have e4:=aF (b:=24) (n:=m.length) (m:=1) (by decide) (by simp at hb2;omega);have e5:=aF (b:=24) (n:=m.length+1) (m:=1) (by decide) (by simp at hb2;omega);simp only[dW,e1,e2,e3,aG9,aIg,zZ,bZ4,aA];cases decide (0<k)<;>cases decide (i=0)<;>cases hz:z.1==g.1<;>simp[hz,e4,e5]) (λb=>by simp[hi])]
  rfl) (λa=>by simp)]
 simp only[aA,id];rw[show bI (λk x a=>iG (decide (0<k)) x a) 0 p []=xK p from rfl];show _=some (aC5 (xK p));generalize xK p=l at hl;cases l with
 | nil=>rfl
 | cons x xs=>
  have e1:decide ((((x::xs).length:Nat):Int)>0)=true:=by simp
  have e2:decide ((0:Int)<(((x::xs).length:Nat):Int))=true:=by simp
  have e3:(0:Int).toNat=0:=rfl;have e4:decide ((0:Int)<=0)=true:=rfl;have e5:decide (0<(x::xs).length)=true:=by simp
  simp only[e1,e2,e3,e4,e5,zZ,cC3,aA,List.set_cons_zero];rcases gK ((x.1,(0:Int),x.2.2)::xs) with h0 | ⟨m,z,hm⟩
  .cases h0
  .have hlen:((x.1,(0:Int),x.2.2)::xs).length=(x::xs).length:=rfl;rw[aVi hm];rw[hm]at hlen ⊢;rw[aHd (by omega)];have e6:decide (m.length<(m++[z]).length)=true:=by simp
   simp only[dW,aG9,aIg,e6,zZ,bZ4,aA,aNh]
def ends(p:den tPt):q21:=
 match (fT p).head?,(fT p).getLast? with
 | some x,some y=>(x.1,y.1)
 | _,_=>(-1,-1)
theorem bXj{p:den tPt}(h:tot tPt p<=34359738368):rM p=some (ends p):=by
 unfold rM ends ixb;have hl:=aCs p;rw[aRy h,aA];generalize fT p=l at hl;rcases gK l with rfl | ⟨m,z,rfl⟩
 .rfl
 .rw[aHd (by omega)];have e1:(((m++[z]).length:Int)==0)=false:=by simp<;>omega
  have e2:decide ((0:Int)<((m++[z]).length:Int))=true:=by simp<;>omega
  have e3:decide ((0:Int)<=0)=true:=rfl;rw[e1,e2,e3,dW,aG9,cBs];cases m with
  | nil=>rfl
  | cons x m=>simp
def pkR(p:den tPk):q5:=(p.1,p.2.1,p.2.2.1,p.2.2.2.2.1,p.2.2.2.2.2.1,p.2.2.2.2.2.2.1,p.2.2.2.2.2.2.2.1,p.2.2.2.2.2.2.2.2.1,p.2.2.2.1,p.2.2.2.2.2.2.2.2.2)
def bX3(p:den tPt):Int:=match p with
 | []=>0
 | x::_=>x.2.2.1
def dT(kind:Int)(p:den tPt)(res seq:Int)(pay:List Int):den tPk:=(kind,(ends p).1,(ends p).2,p,0,0,bX3 p,res,seq,pay)
theorem aL1{kind res seq:Int}{p:den tPt}{pay:List Int}(h:tot tPt p<=34359738368)(hp:pay.length<=68719476736):gU kind p res seq pay=some (pkR (dT kind p res seq pay)):=by
 unfold gU zz4 zz5 zz6 zz7;rw[aL7 ((bW h).mono (by decide)),aDz hp,bXj h];simp only[aA];cases p with
 | nil=>rfl
 | cons x p=>
  have e1:decide (((x::p).length:Int)>0)=true:=by simp
  rw[e1];rfl
def bG3(k:Int):Int:=if k=1 then 4 else if k=4 then 1 else if k=2 then 3 else if k=3 then 2 else k
theorem bWe(k:Int):oD k=some (bG3 k):=by
 unfold oD bG3
 by_cases h1:k=1
 .subst h1;rfl
 by_cases h2:k=4
 .subst h2;rfl
 by_cases h3:k=2
 .subst h3;rfl
 by_cases h4:k=3
 .subst h4;rfl
 have b1:(k==1)=false:=by simpa using h1
 have b2:(k==4)=false:=by simpa using h2
 have b3:(k==2)=false:=by simpa using h3
 have b4:(k==3)=false:=by simpa using h4
 rw[b1,b2,b3,b4,zS h1,zS h2,zS h3,zS h4];rfl
def mV(n:Int):Bool:=inR n 0 2147483646
theorem aD2(n:Int):dB n=some (mV n):=by unfold dB mV;rw[jX];rfl
theorem aG6(n:Int):oP n=some (mV n):=by unfold oP mV;rw[sG];rfl
def aJh(b s:Int):Int:=if mV b&&mV s then cAq (wr (b+s)) 2147483647 else 0
def aJu(b s:Int):Int:=if mV b&&mV s then cAq (wr ((wr (b - s))+2147483647)) 2147483647 else 0
theorem bLt(b s:Int):qR b s=some (aJh b s):=by
 unfold qR aJh;simp only[aD2,aA];cases mV b<;>cases mV s<;>rfl
theorem aXq(b s:Int):uL b s=some (aJh b s):=by
 unfold uL aJh;simp only[aG6,aA];cases mV b<;>cases mV s<;>rfl
theorem bK4(b s:Int):uU b s=some (aJu b s):=by
 unfold uU aJu;simp only[aD2,aA];cases mV b<;>cases mV s<;>rfl
theorem bV5(b s:Int):xR b s=some (aJu b s):=by
 unfold xR aJu;simp only[aG6,aA];cases mV b<;>cases mV s<;>rfl
def zM(k:Int)(b:Int)(h:den bG):Int:=if gV k then aJu b h.2.2.2.2 else aJh b h.2.2.2.2
def aFn(p:den tPp)(n:Nat):Int:=(p.2.2.2.take n).foldl (zM p.1) p.2.2.1
theorem bSj{p:den tPp}{n:Nat}(hn:n<=p.2.2.2.length)(hl:p.2.2.2.length<=68719476736):mD p (n:Int)=some (aFn p n):=by
 unfold mD aFn zz4;have e1:inR (n:Int) 0 (p.2.2.2.length:Int)=true:=by rw[aS];omega
 have e2:cC (0:Int) (n:Int) (p.2.2.2.length:Int)=true:=by simp[cC];omega
 rw[jX,e1,aA,e2,jE];have hlen:(p.2.2.2.take n).length<=4611686018427387904:=by rw[cA8];omega
 rw[lC (λk (b:Int)=>(b,(k:Int))) (p.2.2.1,(0:Int)) p.2.2.1 (p.2.2.2.take n) (λ_ h b=>zM p.1 b h) (λ_=>0) (λ_=>0) 0 id rfl hlen (by rw[sum_nil];exact bZ7 _) (λ_ _ _=>bZ7 _) (λk x b hi hx hd hw hk hb=>by
  simp only[hd,hi,hw,zZ,aA,aL2,bK4,bLt,zM];cases gV p.1<;>rfl) (λb=>by simp),uO (λb h=>zM p.1 b h)]
 rfl
theorem bCe{p:den tPp}{n:Nat}(hn:n<=p.2.2.2.length)(hl:p.2.2.2.length<=68719476736):lW p (n:Int)=some (aFn p n):=by
 unfold lW aFn zz4;have e1:inR (n:Int) 0 (p.2.2.2.length:Int)=true:=by rw[aS];omega
 have e3:(p.2.2.2.take n).length=n:=by rw[cA8];omega
 rw[sG,e1,aA];rw[lC (λk (b:Int)=>(b,(k:Int))) (p.2.2.1,(0:Int)) p.2.2.1 (p.2.2.2.take n) (λ_ h b=>zM p.1 b h) (λ_=>0) (λ_=>0) 0 id rfl (by rw[e3];omega) (by rw[sum_nil];exact bZ7 _) (λ_ _ _=>bZ7 _) (λk x b hi hx hd hw hk hb=>by
  have hx':p.2.2.2[k]? =some x:=by rw[List.getElem?_take]at hx;split at hx;exact hx;cases hx
  rw[e3]at hd;simp only[hd,hw,zZ,aA,aP,hx',aHf,bV5,aXq,zM];cases gV p.1<;>rfl) (λb=>by rw[e3];simp),uO (λb h=>zM p.1 b h)]
 rfl
def rC(p:den tPp):den tPp:=(bG3 p.1,p.2.1,aFn p p.2.2.2.length,p.2.2.2.reverse)
theorem bU5{l:cR}(hl:l.length<=68719476736):jA l=some l.reverse:=by
 unfold jA pj5;have e:wr ((l.length:Int) - 1)=(l.length:Int) - 1:=wP hl;rw[e,bRu (λk (a:cR)=>(k,a)) ((l.length:Int) - 1,[]) [] l (λx a=>a++[x]) cAc (λ_=>1) 68719476736 id rfl (by omega) (by rw[fI];simpa using hl) (λx a=>by simp) (λk x a hi hx hd hw hk hb=>by
  simp only[hd,hi,hw,zZ,aA,aZ,aF (b:=40) (n:=a.length) (m:=1) (by decide) hb]) (λa=>by simp),aKa (λx=>x)]
 simp
theorem bR8{p:den tPp}(hl:p.2.2.2.length<=68719476736):oH p=some (rC p):=by
 unfold oH rC pj4;simp only[bWe,aZ,bSj (bZ7 _) hl,bU5 hl,aA]
def fF(p:den tPt):den tPt:=p.reverse.map rC
theorem aXy{p:den tPt}(h:SmB 68719476736 tPt p):gJ p=some (fF p):=by
 unfold gJ fF pj4;have e:wr ((p.length:Int) - 1)=(p.length:Int) - 1:=wP h.1;rw[e,bRu (λk (a:lPp)=>(k,a)) ((p.length:Int) - 1,[]) [] p (λx a=>a++[rC x]) cAc (λ_=>1) 68719476736 id rfl (by have :=h.1;omega) (by rw[fI];simpa using h.1) (λx a=>by simp) (λk x a hi hx hd hw hk hb=>by
  have hxl:=(h.2 x (bZ9 hx)).2.2.2.1;simp only[hd,hi,hw,zZ,aA,aZ,bR8 hxl,aF (b:=48) (n:=a.length) (m:=1) (by decide) hb]) (λa=>by simp),aKa rC]
 simp
theorem bKs(p:den tPp):tot tPp (rC p)=tot tPp p:=by
 show tot ti _+(tot ti _+(tot ti _+tot (.sl bG) p.2.2.2.reverse))=tot ti _+(tot ti _+(tot ti _+tot (.sl bG) p.2.2.2));rw[aR1];rfl
theorem aOu{t:Ty}(g:den t->den t)(hg:∀x,tot t (g x)=tot t x):∀l:List (den t),tot (.sl t) (l.map g)=tot (.sl t) l
 | []=>rfl
 | x::l=>by rw[cAd,jF,jF,hg,aOu g hg l]
theorem aEp(p:den tPt):tot tPt (fF p)=tot tPt p:=by
 show tot (.sl tPp) (p.reverse.map rC)=tot (.sl tPp) p;rw[aOu rC bKs,aR1]
def aV6(pk:den tPk)(kind seq:Int)(pay:List Int):den tPk:=dT kind (fF pk.2.2.2.1) pk.2.2.2.2.2.2.2.1 seq pay
theorem bR0{pk:den tPk}{kind seq:Int}{pay:List Int}(h:tot tPt pk.2.2.2.1<=34359738368)(hp:pay.length<=68719476736):aAp pk kind seq pay=some (pkR (aV6 pk kind seq pay)):=by
 unfold aAp aV6 bF zz7;rw[aXy ((bW h).mono (by decide)),aA,aL1 (by rw[aEp];exact h) hp];rfl
def pk0:den tPk:=(0,0,0,[],0,0,0,0,0,[])
def pkB(p:den tPk)(b:Bool):q11:=(p.1,p.2.1,p.2.2.1,p.2.2.2.2.1,p.2.2.2.2.2.1,p.2.2.2.2.2.2.1,p.2.2.2.2.2.2.2.1,p.2.2.2.2.2.2.2.2.1,b,p.2.2.2.1,p.2.2.2.2.2.2.2.2.2)
def zJ(x:den tIb)(p:den tPk):Bool:=xC x p&& !decide (p.2.2.2.2.2.2.2.2.1>=x.2.2.1)
def lB(x:den tIb)(p:den tPk):den tPk:=if zJ x p then aV6 p 2 p.2.2.2.2.2.2.2.2.1 [] else pk0
theorem bSz{x:den tIb}{p:den tPk}(h:tot tPt p.2.2.2.1<=34359738368):tK x p=some (pkB (lB x p) (zJ x p)):=by
 unfold tK lB zJ bF pj2 pj4 zz4 zz5 zz6 zz7 zz8;simp only[aZ,bBp,aA,bR0 (pay:=[]) h (by simp)];cases xC x p<;>cases decide (p.2.2.2.2.2.2.2.2.1>=x.2.2.1)<;>rfl
def sends(f:den tFl):Bool:=inR f.2.2.2.2.2.2.1 0 ((f.2.2.2.2.2.1.length:Int) - 1)&&inR f.2.2.2.1 0 ((f.2.2.2.2.1.length:Int) - 1)
def lE(f:den tFl):den tPk:=
 if sends f then dT 1 ((f.2.2.2.2.2.1[f.2.2.2.2.2.2.1.toNat]?).getD []) f.2.2.1 f.2.2.2.1 ((f.2.2.2.2.1[f.2.2.2.1.toNat]?).getD []) else pk0
theorem aWu{t:Ty}{l:List (den t)}{d:den t}{i:Nat}(hd:tot t d=0):tot t ((l[i]?).getD d)<=tot (.sl t) l:=by
 cases h:l[i]? with
 | none=>simp[hd]
 | some x=>have :=zN h;simp;omega
theorem bCi{f:den tFl}(h:tot tFl f<=34359738368):eU f=some (pkB (lE f) (sends f)):=by
 have h0:=bD (bD (bD (bD h)));have hm:=yC h0;have hp:=yC (bD h0);have l1:=fB f.2.2.2.2.1;have l2:=fB f.2.2.2.2.2.1;unfold eU lE sends pj2 zz4 zz5 zz6 zz7 zz8;simp only[jX,wP (n:=f.2.2.2.2.2.1.length) (by omega),wP (n:=f.2.2.2.2.1.length) (by omega),aA];cases c1:inR f.2.2.2.2.2.2.1 0 ((f.2.2.2.2.2.1.length:Int) - 1) with
 | false=>rfl
 | true=>
  cases c2:inR f.2.2.2.1 0 ((f.2.2.2.2.1.length:Int) - 1) with
  | false=>rfl
  | true=>
   rw[aS]at c1 c2;rw[bH4 c1.1 (by omega),bH4 c2.1 (by omega)];have e1:f.2.2.2.2.2.1[f.2.2.2.2.2.2.1.toNat]? =some (f.2.2.2.2.2.1[f.2.2.2.2.2.2.1.toNat]'(by omega)):=bZw (by omega);have e2:f.2.2.2.2.1[f.2.2.2.1.toNat]? =some (f.2.2.2.2.1[f.2.2.2.1.toNat]'(by omega)):=bZw (by omega);have t1:=zN e1;have t2:=zN e2;have t3:=fB (t:=tb) (f.2.2.2.2.1[f.2.2.2.1.toNat]'(by omega));simp only[aA,bZ5,zY];rw[aL1 (by omega) (by have t2:1+tot (.sl tb) _<=_:=t2;omega),e1,e2];rfl
def oN(f:den tFl):Int:=if wr (f.2.2.2.2.2.2.1+1)>=(f.2.2.2.2.2.1.length:Int) then 0 else wr (f.2.2.2.2.2.2.1+1)
def setCW(f:den tFl)(c w:Int):den tFl:=(f.1,f.2.1,f.2.2.1,f.2.2.2.1,f.2.2.2.2.1,f.2.2.2.2.2.1,c,w,f.2.2.2.2.2.2.2.2)
theorem aF5(f:den tFl)(c w:Int):tot tFl (setCW f c w)=tot tFl f:=rfl
def aI(f:den tFl):den tFl×den tPk×Bool:=
 if sends f then
  if f.2.2.2.2.2.2.2.1==0 then (setCW f f.2.2.2.2.2.2.1 1,lE f,true)
  else if f.2.2.2.2.2.2.2.1==4 then (setCW f (oN f) 1,lE (setCW f (oN f) 1),sends (setCW f (oN f) 1))
  else (setCW f f.2.2.2.2.2.2.1 (wr (f.2.2.2.2.2.2.2.1+1)),pk0,false)
 else (setCW f f.2.2.2.2.2.2.1 0,pk0,false)
def pD(f:den tFl)(p:den tPk)(b:Bool):q19:=
 (f.1,f.2.1,f.2.2.1,f.2.2.2.1,f.2.2.2.2.2.2.1,f.2.2.2.2.2.2.2.1,p.1,p.2.1,p.2.2.1,p.2.2.2.2.1,p.2.2.2.2.2.1,p.2.2.2.2.2.2.1,p.2.2.2.2.2.2.2.1,p.2.2.2.2.2.2.2.2.1,b,f.2.2.2.2.1,f.2.2.2.2.2.1,f.2.2.2.2.2.2.2.2,p.2.2.2.1,p.2.2.2.2.2.2.2.2.2)
theorem bCh(f:den tFl):pJ f=some (oN f):=by
 unfold pJ oN zz5 zz6
 by_cases h:wr (f.2.2.2.2.2.2.1+1)>=(f.2.2.2.2.2.1.length:Int)
 .rw[zX h,zT h];rfl
 .rw[zW h,zS h];rfl
theorem bUo{f:den tFl}(h:tot tFl f<=34359738368):tC f=some (pD (aI f).1 (aI f).2.1 (aI f).2.2):=by
 unfold tC aI pj2 pj9 bO bV cJ iH xO zz4 zz5 zz6 zz7 zz8 zz9;have e:eU (f.1,f.2.1,f.2.2.1,f.2.2.2.1,f.2.2.2.2.1,f.2.2.2.2.2.1,oN f,1,f.2.2.2.2.2.2.2.2)=some (pkB (lE (setCW f (oN f) 1)) (sends (setCW f (oN f) 1))):=bCi (f:=setCW f (oN f) 1) h;simp only[aZ,aG4 ((bW h).mono (by decide)),bCi h,bCh,aA,bU,dH,cL,cK,cS,sP,e];cases c1:sends f with
 | false=>simp only[pkB,cAb,zZ];rfl
 | true=>
  simp only[pkB,bZ5,zY,zV];cases c2:f.2.2.2.2.2.2.2.1==0 with
  | true=>rfl
  | false=>
   cases c3:f.2.2.2.2.2.2.2.1==4 with
   | true=>rfl
   | false=>rfl
def cO(p:den tPk):Bool:=inR p.2.2.2.2.1 0 ((p.2.2.2.1.length:Int) - 1)&&inR p.2.2.2.2.2.1 0 (((((p.2.2.2.1[p.2.2.2.2.1.toNat]?).getD (0,0,0,[])).2.2.2.length:Nat):Int) - 1)
def cF(p:den tPk):Int:=if cO p then ((((p.2.2.2.1[p.2.2.2.2.1.toNat]?).getD (0,0,0,[])).2.2.2[p.2.2.2.2.2.1.toNat]?).getD (0,0,0,0,0)).1 else -1
theorem aDe{p:den tPk}(h:cO p=true):∃(i j:Nat) (x:den tPp) (y:den bG),p.2.2.2.2.1=(i:Int)/\p.2.2.2.2.2.1=(j:Int)/\p.2.2.2.1[i]? =some x/\x.2.2.2[j]? =some y/\cF p=y.1:=by
 have h':=h;unfold cO at h';simp only[bZu,aS]at h';obtain⟨⟨h1,h2⟩,h3,h4⟩:=h';obtain⟨x,hx⟩:=aEf h1 h2;rw[hx,cA3]at h4;obtain⟨y,hy⟩:=aEf h3 h4;refine⟨p.2.2.2.2.1.toNat,p.2.2.2.2.2.1.toNat,x,y,(cB9 h1).symm,(cB9 h3).symm,hx,hy,?_⟩;unfold cF;rw[h,zT rfl,hx,cA3,hy,cA3]
theorem aId{p:den tPk}(c:cO p=false):cF p= -1:=by unfold cF;rw[c];rfl
theorem bQs{p:den tPk}(h:SmB 68719476736 tPk p):uQ p=some (cO p):=by
 unfold uQ cO zz4 zz5;have l1:=h.2.2.2.1.1;rw[jX,wP l1,aA];cases c1:inR p.2.2.2.2.1 0 ((p.2.2.2.1.length:Int) - 1) with
 | false=>rfl
 | true=>
  rw[aS]at c1;obtain⟨x,hx⟩:=aEf c1.1 c1.2;rw[bAb c1.1 hx,hx];have l2:=(h.2.2.2.1.2 _ (bZ9 hx)).2.2.2.1;simp only[zZ,aA,jX,wP l2,cA3,cAf]
theorem aDv{p:den tPk}(h:SmB 68719476736 tPk p):eA p=some (cF p):=by
 unfold eA bF zz4 zz5;simp only[aZ,bQs h,aA];cases c:cO p with
 | false=>rw[aId c];rfl
 | true=>
  obtain⟨i,j,x,y,h1,h2,h3,h4,h5⟩:=aDe c;rw[h1,h2,h5];simp only[bZ5,zY,aP,h3,h4,aA]
def aD0(p:den tPt)(i j:Nat):den tPt:=
 match p[i]? with
 | some x=>p.take i++[(x.1,x.2.1,x.2.2.1,x.2.2.2.take (j+1))]
 | none=>[]
def vE(p:den tPk):den tPt:=if cF p<0 then [] else aD0 p.2.2.2.1 p.2.2.2.2.1.toNat p.2.2.2.2.2.1.toNat
theorem aXd{p:den tPk}(h:SmB 68719476736 tPk p):gS p=some (vE p):=by
 unfold gS vE bF zz4 zz5;simp only[aZ,aDv h,aA]
 by_cases hc:cF p<0
 .rw[zX hc,zZ,zT hc]
 .rw[zW hc,zY,zS hc];cases c:cO p with
  | false=>rw[aId c]at hc;exact absurd (by decide) hc
  | true=>
   obtain⟨i,j,x,y,h1,h2,h3,h4,h5⟩:=aDe c;have l1:=h.2.2.2.1.1;have l2:=(h.2.2.2.1.2 _ (bZ9 h3)).2.2.2.1;have hi:=(bZy.1 h3).1;have hj:=(bZy.1 h4).1;have e1:wr ((i:Int)+1)=((i+1:Nat):Int):=by have :wr ((i:Int)+1)=(i:Int)+1:=wri (by omega) (by omega);rw[this];rfl
   have e2:wr ((j:Int)+1)=((j+1:Nat):Int):=by have :wr ((j:Int)+1)=(j:Int)+1:=wri (by omega) (by omega);rw[this];rfl
   have e3:cC (0:Int) ((i+1:Nat):Int) (p.2.2.2.1.length:Int)=true:=by simp[cC];omega
   have e4:cC (0:Int) ((j+1:Nat):Int) (x.2.2.2.length:Int)=true:=by simp[cC];omega
   have e5:p.2.2.2.1.take (i+1)=p.2.2.2.1.take i++[x]:=aVp h3;have e6:(p.2.2.2.1.take i).length=i:=by rw[cA8];omega
   rw[h1,h2,e1,e2,aL7 h.2.2.2.1,aA,e3,zZ];simp only[bZ4,e5];have e7:decide ((i:Int)<((p.2.2.2.1.take i++[x]).length:Int))=true:=by simp;omega
   have e8:(p.2.2.2.1.take i++[x])[i]? =some x:=by rw[cCd (by omega),e6];simp
   have e9:∀z,(p.2.2.2.1.take i++[x]).set i z=p.2.2.2.1.take i++[z]:=λz=>by rw[List.set_append_right _ _ (by omega),e6];simp
   simp only[dW,e7,e8,e4,e9,zZ,aA,jE,decide_true];unfold aD0;rw[h3]
theorem bA9(p:den tPt)(i j:Nat):tot tPt (aD0 p i j)<=tot tPt p:=by
 unfold aD0;cases h:p[i]? with
 | none=>exact cAe _
 | some x=>
  have h1:tot tPt (p.take (i+1))<=tot tPt p:=aYm (t:=tPp) p (i+1);rw[aVp h]at h1;have h2:tot (.sl tPp) (p.take i++[x])<=tot (.sl tPp) p:=h1;show tot (.sl tPp) (p.take i++[(x.1,x.2.1,x.2.2.1,x.2.2.2.take (j+1))])<=tot (.sl tPp) p;rw[rU,aD6]at h2 ⊢;have h3:tot tPp (x.1,x.2.1,x.2.2.1,x.2.2.2.take (j+1))<=tot tPp x:=by
   have :=aYm (t:=bG) x.2.2.2 (j+1);show 0+(0+(0+tot (.sl bG) (x.2.2.2.take (j+1))))<=0+(0+(0+tot (.sl bG) x.2.2.2));omega
  omega
theorem aI0(p:den tPk):tot tPt (vE p)<=tot tPt p.2.2.2.1:=by
 unfold vE;split
 .exact cAe _
 .exact bA9 _ _ _
def vi:Nat->Nat->List Int
 | 0,n=>[(n:Int)]
 | k+1,n=>if n<128 then [(n:Int)] else (((n % 128+128:Nat):Int))::vi k (n / 128)
theorem bL8:∀(k n:Nat),(vi k n).length<=k+1
 | 0,n=>by simp[vi]
 | k+1,n=>by
  unfold vi;split
  .simp
  .have :=bL8 k (n / 128);simp only[cAy];omega
theorem aLz{n:Nat}(h:n<256):IntKind.wrap .u8 (n:Int)=(n:Int):=by
 simp only[IntKind.wrap,IntKind.signed,IntKind.bits];simp;omega
theorem bU4:∀(k n:Nat) (out:List Int),n<128 ^ (k+1)->out.length+k+1<=68719476736->n<9223372036854775808->(@Option.bind q23 (lI) (@aC q23 q23 (λ(s4:Int×lI)=>cond (decide (s4.1>=(128:Int))) (cond (aJ 1 s4.2.length 1) (some (Sum.inl (wr (Int.tdiv s4.1 (128:Int)),s4.2++[IntKind.wrap .u8 (wr ((cAq s4.1 (128:Int))+(128:Int)))]))) none) (some (bZs (s4.1,s4.2)))) ((n:Int),out)) λ(s5:Int×lI)=>cond (aJ 1 s5.2.length 1) (some (s5.2++[IntKind.wrap .u8 s5.1])) none)=some (out++vi k n)
 | 0,n,out,hn,ho,hb=>by
  have hn:n<128:=by simpa using hn
  have e1:decide ((n:Int)>=128)=false:=by simp;omega
  rw[aT (r:=((n:Int),out)) (by simp only[e1,zY]),aA];simp only[aF (b:=1) (n:=out.length) (m:=1) (by decide) (by omega),zZ,aLz (n:=n) (by omega),vi]
 | k+1,n,out,hn,ho,hb=>by
  by_cases h:n<128
  .have e1:decide ((n:Int)>=128)=false:=by simp;omega
   rw[aT (r:=((n:Int),out)) (by simp only[e1,zY]),aA];simp only[aF (b:=1) (n:=out.length) (m:=1) (by decide) (by omega),zZ,aLz (n:=n) (by omega),vi,zT h]
  .have e1:decide ((n:Int)>=128)=true:=by simp;omega
   have hd:n / 128<128 ^ (k+1):=by rw[Nat.div_lt_iff_lt_mul (by decide)];rw[Nat.pow_succ]at hn;exact hn
   have e2:Int.tdiv (n:Int) 128=((n / 128:Nat):Int):=rfl;have e3:cAq (n:Int) 128=((n % 128:Nat):Int):=rfl;have e4:wr (((n % 128:Nat):Int)+128)=((n % 128+128:Nat):Int):=by
    have :wr (((n % 128:Nat):Int)+128)=((n % 128:Nat):Int)+128:=wri (by omega) (by omega);rw[this];rfl
   have e5:wr ((n / 128:Nat):Int)=((n / 128:Nat):Int):=wri (by omega) (by omega);rw[cT (s':=(((n / 128:Nat):Int),out++[((n % 128+128:Nat):Int)])) (by
    simp only[e1,zZ,aF (b:=1) (n:=out.length) (m:=1) (by decide) (by omega),e2,e3,e4,e5,aLz (n:=n % 128+128) (by omega)])]
   rw[bU4 k (n / 128) _ hd (by simp;omega) (by omega)];simp only[vi,zS h,List.append_assoc,List.singleton_append]
def aC0(b:List Int)(n:Int):List Int:=if inR n 0 1000000000000 then b++vi 5 n.toNat else b
theorem aYq(b:List Int)(n:Int):(aC0 b n).length<=b.length+6:=by
 unfold aC0;split
 .have :=bL8 5 n.toNat;rw[cAh];omega
 .omega
theorem bUx{b:List Int}{n:Int}(h:b.length+6<=68719476736):mT b n=some (aC0 b n):=by
 unfold mT aC0 pj2;rw[aDz (by omega),jX];cases c:inR n 0 1000000000000 with
 | false=>rfl
 | true=>
  rw[aS]at c;obtain⟨m,rfl⟩:=cA0 c.1;have :=bU4 5 m b (by simp only[show (128:Nat) ^ (5+1)=4398046511104 from by decide];omega) (by omega) (by omega);exact this
def aLe(b l:List Int):List Int:=l.foldl aC0 b
theorem bN8(b l:List Int):(aLe b l).length<=b.length+6 * l.length:=by
 unfold aLe
 induction l generalizing b with
 | nil=>simp
 | cons x l ih=>
  have h1:=ih (aC0 b x);have h2:=aYq b x;simp only[cB6,cAy];omega
theorem bTd{α:Type}(l:List α):(l.map λ_=>6).sum=6 * l.length:=by
 induction l with
 | nil=>rfl
 | cons x l ih=>rw[cAd,cBc,ih,cAy];omega
theorem bV1{b l:List Int}(h:b.length+6 * l.length<=68719476736):pX b l=some (aLe b l):=by
 unfold pX aLe;rw[lC (λk (a:List Int)=>(a,(k:Int))) (b,(0:Int)) b l (λ_ x a=>aC0 a x) cAc (λ_=>6) 68719476736 id rfl (by omega) (by rw[bTd];exact h) (λ_ x a=>aYq a x) (λk x a hi hx hd hw hk hb=>by
  simp only[hd,hi,hw,zZ,aA,bUx (b:=a) (n:=x) hb]) (λa=>by simp),uO aC0]
 rfl
theorem bLy{l:List Int}(h:6 * l.length<=68719476736):pY l=some (aLe [] l):=by
 unfold pY;rw[bV1 (by simpa using h)];rfl
def sB(x:den tRv):List Int:=if dJ x then aLe [] [x.1,x.2.1,x.2.2] else []
theorem aZs(x:den tRv):(sB x).length<=18:=by
 unfold sB;split
 .exact bN8 [] [x.1,x.2.1,x.2.2]
 .simp
theorem bW0(x:den tRv):hZ x=some (sB x):=by
 unfold hZ sB pj3;rw[bLy (l:=[x.1,x.2.1,x.2.2]) (by simp)];simp only[aZ,aBk,aA];cases dJ x<;>rfl
def dG(r now d:Int)(p:den tPk):den tPk:=dT 3 (fF (vE p)) p.2.2.2.2.2.2.2.1 p.2.2.2.2.2.2.2.2.1 (sB (r,d,if 1000000<wr (now+10) then 1000000 else wr (now+10)))
theorem bTc{t:den tTo}{r now d:Int}{p:den tPk}(h:tot tPk p<=34359738368):iJ t r now d p=some (pkR (dG r now d p)):=by
 have h1:tot tPt p.2.2.2.1<=34359738368:=yC (bD (bD (bD h)));have h2:=aI0 p;have sm:SmB 68719476736 tPk p:=(bW h).mono (by decide);have h3:=aZs (r,d,if 1000000<wr (now+10) then 1000000 else wr (now+10));unfold iJ dG bF zz7 zz8;simp only[aZ,bXz,aA,aXd sm];rw[aXy ((bW (bZv h2 h1)).mono (by decide)),aA,bW0,aA,aL1 (by rw[aEp];omega) (by omega)];rfl
theorem aFl{kind res seq:Int}{p:den tPt}{pay:List Int}:tot tPk (dT kind p res seq pay)=tot tPt p+tot (.sl tb) pay:=by
 show 0+(0+(0+(tot tPt p+(0+(0+(0+(0+(0+tot (.sl tb) pay))))))))=_;omega
theorem aU7(f:den tFl):tot tPk (lE f)<=tot tFl f:=by
 unfold lE;split
 .rw[aFl];have h1:=aWu (t:=tPt) (l:=f.2.2.2.2.2.1) (d:=[]) (i:=f.2.2.2.2.2.2.1.toNat) rfl;have h2:=aWu (t:= .sl tb) (l:=f.2.2.2.2.1) (d:=[]) (i:=f.2.2.2.1.toNat) rfl;show _<=0+(0+(0+(0+(tot (.sl (.sl tb)) f.2.2.2.2.1+(tot (.sl tPt) f.2.2.2.2.2.1+(0+(0+tot (.sl tRv) f.2.2.2.2.2.2.2.2)))))));omega
 .exact cAe _
theorem aLm{p:den tPk}{N:Nat}(h:tot tPk p<=N):tot (.sl tPp) p.2.2.2.1<=N/\tot (.sl tb) p.2.2.2.2.2.2.2.2.2<=N:=
 ⟨yC (bD (bD (bD h))),bD (bD (bD (bD (bD (bD (bD (bD (bD h))))))))⟩
theorem aTw(x:den tIb)(p:den tPk):tot tPk (lB x p)<=tot tPk p:=by
 unfold lB;split
 .unfold aV6;rw[aFl,aEp];have h:=(aLm (bZ7 (tot tPk p))).1;show tot (.sl tPp) p.2.2.2.1+0<=_;omega
 .exact cAe _
theorem aUu(f:den tFl):tot tFl (aI f).1=tot tFl f/\tot tPk (aI f).2.1<=tot tFl f:=by
 unfold aI;split
 .split
  .exact⟨aF5 f _ _,aU7 f⟩
  .split
   .exact⟨aF5 f _ _,aU7 (setCW f (oN f) 1)⟩
   .exact⟨aF5 f _ _,cAe _⟩
 .exact⟨aF5 f _ _,cAe _⟩
theorem aP9{f:den tFl}{N:Nat}(h:tot tFl f<=N):tot (.sl tMs) f.2.2.2.2.1<=N/\tot (.sl tPt) f.2.2.2.2.2.1<=N/\tot (.sl tRv) f.2.2.2.2.2.2.2.2<=N:=by
 have h0:=bD (bD (bD (bD h)));exact⟨yC h0,yC (bD h0),bD (bD (bD (bD h0)))⟩
theorem aU5(r now d:Int)(p:den tPk):tot tPk (dG r now d p)<=tot tPk p+18:=by
 unfold dG;rw[aFl,aEp];have h1:=aI0 p;have h2:=(aLm (bZ7 (tot tPk p))).1;have h2:tot tPt p.2.2.2.1<=tot tPk p:=h2;have h3:=aZs (r,d,if 1000000<wr (now+10) then 1000000 else wr (now+10));have e:tot (.sl tb) (sB (r,d,if 1000000<wr (now+10) then 1000000 else wr (now+10)))=(sB (r,d,if 1000000<wr (now+10) then 1000000 else wr (now+10))).length:=jB rfl;rw[e];omega
def aGa{α β:Type}(p:α->β->Bool):List α->List β->Bool
 | x::xs,y::ys=>p x y&&aGa p xs ys
 | _,_=>true
theorem aWt{α β R:Type}{a:List α}{b:List β}(p:α->β->Bool){step:Int->Option (Int⊕(Unit⊕R))}(ρ:R)(hlen:a.length=b.length)(hl:a.length<=4611686018427387904)
  (h:∀(k:Nat) (x:α) (y:β),x∈a->y∈b->idx a (k:Int)=some x->idx b (k:Int)=some y->decide ((k:Int)<(a.length:Int))=true->IntKind.i64.wrap ((k:Int)+1)=((k+1:Nat):Int)->step (k:Int)=some (cond (p x y) (.inl ((k+1:Nat):Int)) (.inr (.inr ρ))))
  (he:step (a.length:Int)=some (.inr (.inl ()))):aC step (0:Int)=some (cond (aGa p a b) (.inl ()) (.inr ρ)):=by
 have key:∀(ra pa:List α) (rb pb:List β),pa++ra=a->pb++rb=b->pa.length=pb.length->aC step (pa.length:Int)=some (cond (aGa p ra rb) (.inl ()) (.inr ρ)):=by
  intro ra
  induction ra with
  | nil=>intro pa rb pb h1 _ _;rw[cAs]at h1;subst h1;exact aT he
  | cons x ra ih=>
   intro pa rb pb h1 h2 h3;cases rb with
   | nil=>exfalso;have e1:=congrArg cAc h1;have e2:=congrArg cAc h2;simp at e1 e2;omega
   | cons y rb=>
    have hx:a[pa.length]? =some x:=by rw[<- h1];simp
    have hy:b[pa.length]? =some y:=by rw[<- h2,h3];simp
    have hlt:pa.length<a.length:=by rw[<- h1];simp
    have hs:=h pa.length x y (bZ9 hx) (bZ9 hy) (by rw[aP];exact hx) (by rw[aP];exact hy) (by simpa using hlt) (by rw[wri (by omega) (by omega)];omega);simp only[aGa];cases hp:p x y with
    | true=>rw[hp]at hs;rw[cT hs];have :=ih (pa++[x]) rb (pb++[y]) (by simpa using h1) (by simpa using h2) (by simp[h3]);simpa using this
    | false=>rw[hp]at hs;exact aT hs
 exact key a [] b [] rfl rfl rfl
theorem aG0{α:Type}(b:Bool)(x y:α):cond b (some x) (some y)=some (cond b x y):=by cases b<;>rfl
theorem bH7{β:Type}(c:Bool)(f:Unit->Option β)(r:β):Sum.elim f some (cond c (Sum.inl ()) (bZs r))=cond c (f ()) (some r):=by cases c<;>rfl
theorem bLk{α β:Type}(a:List α)(b:List β):((a.length:Int) != (b.length:Int))= !decide (a.length=b.length):=by
 rw[cAv];simp;omega
theorem bBt{α:Type}{p:Prop}[Decidable p]{x y z:α}(h:p->y=z):cond (!decide p) x y=cond (!decide p) x z:=by
 by_cases hp:p
 .rw[h hp]
 .simp[hp]
noncomputable def aP7(a b:cR):Bool:=cond (!decide (a.length=b.length)) false (cond (aGa (λx y=>(x.1==y.1)&&((x.2.1==y.2.1)&&((x.2.2.1==y.2.2.1)&&((x.2.2.2.1==y.2.2.2.1)&&((x.2.2.2.2==y.2.2.2.2)&&true))))) a b) true false)
theorem bS1{a b:cR}(ha:a.length<=68719476736):iQ a b=some (aP7 a b):=by
 unfold iQ aP7 zz4;rw[bLk];rw[bBt (z:=some (cond (aGa (λx y=>(x.1==y.1)&&((x.2.1==y.2.1)&&((x.2.2.1==y.2.2.1)&&((x.2.2.2.1==y.2.2.2.1)&&((x.2.2.2.2==y.2.2.2.2)&&true))))) a b) true false)) (λhlen=>by
  rw[aWt (a:=a) (b:=b) (λx y=>(x.1==y.1)&&((x.2.1==y.2.1)&&((x.2.2.1==y.2.2.1)&&((x.2.2.2.1==y.2.2.2.1)&&((x.2.2.2.2==y.2.2.2.2)&&true))))) false hlen (bZv ha (by decide)) (λk x y mx my ix iy hd hw=>by
   simp only[hd,ix,iy,hw,zZ,aA,aZ,bne];generalize ((x.1==y.1)&&((x.2.1==y.2.1)&&((x.2.2.1==y.2.2.1)&&((x.2.2.2.1==y.2.2.2.1)&&((x.2.2.2.2==y.2.2.2.2)&&true)))))=c;cases c<;>rfl) (by simp)]
  simp only[aA,bH7,aG0]),aG0]
noncomputable def aCr(a b:den tPp):Bool:=cond (a.1==b.1) (cond (a.2.1==b.2.1) (cond (a.2.2.1==b.2.2.1) (aP7 a.2.2.2 b.2.2.2) false) false) false
theorem bP4{a b:den tPp}(ha:SmB 68719476736 tPp a)(hb:SmB 68719476736 tPp b):qF a b=some (aCr a b):=by
 unfold qF aCr;simp only[aA,aG0,aZ,bS1 ha.2.2.2.1]
noncomputable def aA6(a b:lPp):Bool:=cond (!decide (a.length=b.length)) false (cond (aGa (λx y=>aCr x y) a b) true false)
theorem bUl{a b:lPp}(ha:SmB 68719476736 (.sl tPp) a)(hb:SmB 68719476736 (.sl tPp) b):nQ a b=some (aA6 a b):=by
 unfold nQ aA6 pj4;rw[bLk];rw[bBt (z:=some (cond (aGa (λx y=>aCr x y) a b) true false)) (λhlen=>by
  rw[aWt (a:=a) (b:=b) (λx y=>aCr x y) false hlen (bZv ha.1 (by decide)) (λk x y mx my ix iy hd hw=>by
   simp only[hd,ix,iy,hw,zZ,aA,aZ,bP4 (ha.2 x mx) (hb.2 y my)];generalize (aCr x y)=c;cases c<;>rfl) (by simp)]
  simp only[aA,bH7,aG0]),aG0]
noncomputable def bYq(a b:List Int):Bool:=(yH a).toList==(yH b).toList
noncomputable def aO9(a b:den tPk):Bool:=cond (a.1==b.1) (cond (a.2.1==b.2.1) (cond (a.2.2.1==b.2.2.1) (cond (aA6 a.2.2.2.1 b.2.2.2.1) (cond (a.2.2.2.2.1==b.2.2.2.2.1) (cond (a.2.2.2.2.2.1==b.2.2.2.2.2.1) (cond (a.2.2.2.2.2.2.1==b.2.2.2.2.2.2.1) (cond (a.2.2.2.2.2.2.2.1==b.2.2.2.2.2.2.2.1) (cond (a.2.2.2.2.2.2.2.2.1==b.2.2.2.2.2.2.2.2.1) (bYq a.2.2.2.2.2.2.2.2.2 b.2.2.2.2.2.2.2.2.2) false) false) false) false) false) false) false) false) false
def aAj(f:den tFl):Int:=wr ((wr ((wr ((f.2.2.2.2.2.1.length:Int)+(2:Int))) * (21:Int)))+(wr ((2:Int) * (f.2.2.2.2.1.length:Int))))
def mO(w:den tNw):Int:=bI (λ_ f a=>if aAj f>a then aAj f else a) 0 w.2.2.2.2.2.2.1 0
theorem aW3{w:den tNw}(h:w.2.2.2.2.2.2.1.length<=1073741824):fX w=some (wr (8+mO w)):=by
 unfold fX mO zz4 zz5 zz6;rw[lC (λk (a:Int)=>(a,(k:Int))) ((0:Int),(0:Int)) 0 w.2.2.2.2.2.2.1 (λ_ f a=>if aAj f>a then aAj f else a) (λ_=>0) (λ_=>0) 1 id rfl (by omega) (by rw[sum_nil];omega) (λk x a=>by omega) (λk x a hi hx hd hw hk hb=>by
  simp only[hd,hi,hw,zZ,aA,bFp];rfl) (λa=>by simp)]
 rfl
def aIk(b:List Int)(p:Nat):Nat->Nat->Nat->Int×Int×Bool
 | 0,_,_=>(0,0,false)
 | f+1,k,n=>match b[p+k]? with
  | none=>(0,0,false)
  | some x=>
   if x.toNat<128 then (if (decide (x.toNat=0)&&decide (0<k))||decide (1000000000000<n+x.toNat % 128 * 2 ^ (7 * k)) then (0,0,false) else (((n+x.toNat % 128 * 2 ^ (7 * k):Nat):Int),((p+k+1:Nat):Int),true))
   else aIk b p f (k+1) (n+x.toNat % 128 * 2 ^ (7 * k))
theorem bCs{k:Nat}(h:k<6):2 ^ (7 * k)<=34359738368:=bZv (Nat.pow_le_pow_right (by decide) (show 7 * k<=35 by omega)) (by decide)
theorem bIc{n c k:Nat}(h:n<2 ^ (7 * k))(hc:c<128):n+c * 2 ^ (7 * k)<2 ^ (7 * (k+1)):=by
 have e:2 ^ (7 * (k+1))=128 * 2 ^ (7 * k):=by rw[show 7 * (k+1)=7 * k+7 by omega,Nat.pow_add];omega
 have :c * 2 ^ (7 * k)<=127 * 2 ^ (7 * k):=cA4 _ (by omega);omega
theorem bSi{c k:Nat}(hk:k<6)(hc:c<128):c * 2 ^ (7 * k)<=4398046511104:=bZv (Nat.mul_le_mul (show c<=128 by omega) (bCs hk)) (by decide)
theorem bTq{S:Type}(b:List Int)(p:Nat)(hb:∀x∈b,0<=x/\x<=255)(enc:Nat->Nat->S){step:S->Option (S⊕(Unit⊕q27))}
  (h0:∀n,step (enc 6 n)=some (.inr (.inl ())))
  (h1:∀k n,k<6->b[p+k]? =none->step (enc k n)=some (.inr (.inl ()))\/step (enc k n)=some (.inr (.inr (0,0,false))))
  (h2:∀k n (m:Nat),k<6->n<2 ^ (7 * k)->m<=255->b[p+k]? =some (m:Int)->step (enc k n)=some (if m<128 then .inr (.inr (if (decide (m=0)&&decide (0<k))||decide (1000000000000<n+m % 128 * 2 ^ (7 * k)) then (0,0,false) else (((n+m % 128 * 2 ^ (7 * k):Nat):Int),((p+k+1:Nat):Int),true))) else .inl (enc (k+1) (n+m % 128 * 2 ^ (7 * k))))):
  ∀f k n,f+k=6->n<2 ^ (7 * k)-> @Option.bind (Unit⊕q27) q27 (aC step (enc k n)) (λz=>Sum.elim (λ_=>some ((0:Int),(0:Int),false)) some z)=some (aIk b p f k n):=by
 intro f
 induction f with
 | zero=>
  intro k n hk hn;have :k=6:=by omega
  subst this;rw[aT (h0 n)];rfl
 | succ f ih=>
  intro k n hk hn;have hk6:k<6:=by omega
  unfold aIk;cases hx:b[p+k]? with
  | none=>rcases h1 k n hk6 hx with h | h<;>rw[aT h]<;>rfl
  | some x=>
   obtain⟨x0,x1⟩:=hb x (bZ9 hx);obtain⟨m,rfl⟩:∃m:Nat,x=(m:Int):=⟨x.toNat,by omega⟩
   have hs:=h2 k n m hk6 hn (by omega) hx;simp only[bZ4]
   by_cases hm:m<128
   .rw[zT hm]at hs ⊢;rw[aT hs];rfl
   .rw[zS hm]at hs ⊢;rw[cT hs];exact ih (k+1) _ (by omega) (bIc hn (Nat.mod_lt _ (by decide)))
theorem bUj{a c:Nat}(hc:c<=35)(h:a * 2 ^ c<=4398046511104):shl .i64 (a:Int) (c:Int)=((a * 2 ^ c:Nat):Int):=by
 unfold shl;have e:min ((c:Int)).toNat IntKind.i64.bits=c:=by simp[IntKind.bits];omega
 rw[e];have e2:(a:Int) * 2 ^ c=((a * 2 ^ c:Nat):Int):=by simp
 rw[e2];exact wri (by omega) (by omega)
theorem bAg{n:Nat}(h:n<256):IntKind.wrap .u64 (n:Int)=(n:Int):=by
 simp only[IntKind.wrap,IntKind.signed,IntKind.bits];simp;omega
def rv(b:List Int)(p:Nat):q27:=aIk b p 6 0 0
theorem bKj(k:Nat):(7:Int) * (k:Int)=((7 * k:Nat):Int):=by omega
theorem bZd{b:List Int}{p:Nat}(hb:∀x∈b,0<=x/\x<=255)(hl:b.length<=68719476736)(hp:p<=b.length):pO b (p:Int)=some (rv b p):=by
 unfold pO;have e0:decide ((p:Int)<0)=false:=by simp
 rw[e0,zY];refine bTq b p hb (λk n=>(((p+k:Nat):Int),(n:Int),(k:Int))) (λn=>by simp) (λk n hk hx=> ?_) (λk n m hk hn hm hx=> ?_) 6 0 0 rfl (by simp)
 .left;have h1:decide (((p+k:Nat):Int)<(b.length:Int))=false:=by
   have :=List.getElem?_eq_none_iff.1 hx;simp;omega
  simp only[h1];cases decide ((k:Int)<6)<;>rfl
 .have h0:=(bZy.1 hx).1;have h1:decide (((p+k:Nat):Int)<(b.length:Int))=true:=by simp;omega
  have h2:decide ((k:Int)<6)=true:=by simp;omega
  have h3:idx b ((p+k:Nat):Int)=some (m:Int):=by rw[aP];exact hx
  have h4:wr ((7 * k:Nat):Int)=((7 * k:Nat):Int):=wri (by omega) (by omega);have h5:wr (m:Int)=(m:Int):=wri (by omega) (by omega);have h6:decide (((7 * k:Nat):Int)<0)=false:=by simp;omega
  have h7:cAq (m:Int) 128=((m % 128:Nat):Int):=rfl;have hq:=bSi (c:=m % 128) hk (Nat.mod_lt _ (by decide));have hr:=bCs hk;have h8:wr ((n:Int)+((m % 128 * 2 ^ (7 * k):Nat):Int))=((n+m % 128 * 2 ^ (7 * k):Nat):Int):=by
   generalize m % 128 * 2 ^ (7 * k)=q at hq;have :wr ((n:Int)+(q:Int))=(n:Int)+(q:Int):=wri (by omega) (by omega);rw[this];omega
  have h9:wr (((p+k:Nat):Int)+1)=((p+k+1:Nat):Int):=by
   have :wr (((p+k:Nat):Int)+1)=((p+k:Nat):Int)+1:=wri (by omega) (by omega);rw[this];omega
  have ha:wr ((k:Int)+1)=((k+1:Nat):Int):=by
   have :wr ((k:Int)+1)=(k:Int)+1:=wri (by omega) (by omega);rw[this];omega
  simp only[h1,h2,h3,zZ,aA,bKj,h4,bAg (n:=7 * k) (by omega),h6,zY,h5,h7,bUj (a:=m % 128) (c:=7 * k) (by omega) hq,h8,h9,ha];generalize n+m % 128 * 2 ^ (7 * k)=q
  by_cases c1:m<128
  .have e1:decide ((m:Int)<128)=true:=by simp;omega
   have e2:((m:Int)==0)=decide (m=0):=by rw[cAv];simp
   have e3:decide ((k:Int)>0)=decide (0<k):=by rw[cAv];simp
   have e4:decide ((q:Int)>1000000000000)=decide (1000000000000<q):=by rw[cAv];simp;omega
   simp only[e1,e2,e3,e4,zZ,zT c1];cases decide (m=0)<;>cases decide (0<k)<;>cases decide (1000000000000<q)<;>rfl
  .have e1:decide ((m:Int)<128)=false:=by simp;omega
   simp only[e1,zY,zS c1];rfl
theorem bBu{b:List Int}{p:Nat}:∀(f k n:Nat),(aIk b p f k n).2.2=true-> ∃q:Nat,(aIk b p f k n).2.1=(q:Int)/\q<=b.length
 | 0,k,n,h=>by cases h
 | f+1,k,n,h=>by
  unfold aIk at h|-;cases hx:b[p+k]? with
  | none=>rw[hx]at h;cases h
  | some x=>
   rw[hx]at h;have hlt:=(bZy.1 hx).1;simp only at h|-
   by_cases c:x.toNat<128
   .rw[zT c]at h ⊢;split at h
    .cases h
    .rename_i c2;rw[zS c2];exact⟨p+k+1,rfl,hlt⟩
   .rw[zS c]at h ⊢;exact bBu f (k+1) _ h
theorem bQq{b:List Int}{p:Nat}(h:(rv b p).2.2=true):∃q:Nat,(rv b p).2.1=(q:Int)/\q<=b.length:=bBu 6 0 0 h
def aJk(b:List Int):Int×Bool×List Int:=
 cond (rv b 0).2.2 (cond (rv b (rv b 0).2.1.toNat).2.2 (cond (rv b (rv b (rv b 0).2.1.toNat).2.1.toNat).2.2
  ((rv b (rv b (rv b 0).2.1.toNat).2.1.toNat).2.1,true,[(rv b 0).1,(rv b (rv b 0).2.1.toNat).1,(rv b (rv b (rv b 0).2.1.toNat).2.1.toNat).1]) (0,false,[])) (0,false,[])) (0,false,[])
theorem bSp(b:List Int):aJk b=(0,false,[])\/ ∃q x y z,aJk b=(q,true,[x,y,z]):=by
 unfold aJk;cases (rv b 0).2.2
 .exact .inl rfl
 .cases (rv b (rv b 0).2.1.toNat).2.2
  .exact .inl rfl
  .cases (rv b (rv b (rv b 0).2.1.toNat).2.1.toNat).2.2
   .exact .inl rfl
   .exact .inr ⟨_,_,_,_,rfl⟩
theorem bOy{b:List Int}{step:Int×Int×List Int->Option ((Int×Int×List Int)⊕((Int×List Int)⊕(Int×Bool×List Int)))}
  (hs:∀(p:Nat) (i:Nat) (out:List Int),p<=b.length->i<3->out.length<=3->step ((p:Int),(i:Int),out)=some (cond (rv b p).2.2 (.inl ((rv b p).2.1,((i+1:Nat):Int),out++[(rv b p).1])) (.inr (.inr (0,false,[])))))
  (he:∀p out,step (p,3,out)=some (.inr (.inl (p,out)))):
  @Option.bind ((Int×List Int)⊕(Int×Bool×List Int)) (Int×Bool×List Int) (aC step ((0:Int),(0:Int),([]:List Int))) (λz=>Sum.elim (λs8=>some (s8.1,true,s8.2)) some z)=some (aJk b):=by
 have h1:=hs 0 0 [] (cAe _) (by decide) (by decide);unfold aJk;cases c1:(rv b 0).2.2 with
 | false=>rw[c1]at h1;rw[aT (s:=((0:Int),(0:Int),([]:List Int))) h1];rfl
 | true=>
  rw[c1]at h1;obtain⟨q1,e1,l1⟩:=bQq c1;rw[cT (s:=((0:Int),(0:Int),([]:List Int))) h1];rw[e1];simp only[zZ,bZ4];have h2:=hs q1 (0+1) ([]++[(rv b 0).1]) l1 (by decide) (by simp);cases c2:(rv b q1).2.2 with
  | false=>rw[c2]at h2;rw[aT h2];rfl
  | true=>
   rw[c2]at h2;obtain⟨q2,e2,l2⟩:=bQq c2;rw[cT h2];rw[e2];simp only[zZ,bZ4];have h3:=hs q2 (0+1+1) ([]++[(rv b 0).1]++[(rv b q1).1]) l2 (by decide) (by simp);cases c3:(rv b q2).2.2 with
   | false=>rw[c3]at h3;rw[aT h3];rfl
   | true=>
    rw[c3]at h3;rw[cT h3];rw[aT (s:=((rv b q2).2.1,((0+1+1+1:Nat):Int),[]++[(rv b 0).1]++[(rv b q1).1]++[(rv b q2).1])) (he _ _)];rfl
theorem bU6{b:List Int}(hb:∀x∈b,0<=x/\x<=255)(hl:b.length<=68719476736):pP b 0 3=some (aJk b):=by
 unfold pP;have r1:inR 3 0 100=true:=by decide
 have r2:inR 0 0 (b.length:Int)=true:=by rw[aS];omega
 simp only[jX,aA,r1,r2,bZ5,zY];refine bOy (λp i out hp hi ho=> ?_) (λp out=>by simp);have e1:decide ((i:Int)<3)=true:=by simp;omega
 have e2:wr ((i:Int)+1)=((i+1:Nat):Int):=by
  have :wr ((i:Int)+1)=(i:Int)+1:=wri (by omega) (by omega);rw[this];omega
 simp only[e1,zZ,bZd hb hl hp,aA,e2,aF (b:=8) (n:=out.length) (m:=1) (by decide) (by omega)];cases (rv b p).2.2<;>rfl
def sD(b:List Int):Int×q27:=
 match aJk b with
 | (q,true,[x,y,z])=>cond (q==(b.length:Int)) (cond (dJ (x,y,z)) (x,y,z,true) (0,0,0,false)) (0,0,0,false)
 | _=>(0,0,0,false)
theorem bVx{b:List Int}(hb:∀x∈b,0<=x/\x<=255)(hl:b.length<=68719476736):hH b=some (sD b):=by
 unfold hH sD ixb;rw[bU6 hb hl];rcases bSp b with h | ⟨q,x,y,z,h⟩
 .rw[h];rfl
 .rw[h];simp only[aA,bZ5,zY,bne,aBk];cases q==(b.length:Int)
  .rfl
  .cases hv:dJ (x,y,z)<;>simp[hv]
def aBx(x:den tRv)(l:lRv)(k:Nat)(y:den tRv):Option lRv:=
 cond (y.1==x.1) (cond (y.2.1==x.2.1) (some (l.set k (y.1,y.2.1,if x.2.2>y.2.2 then x.2.2 else y.2.2))) none) none
def aNy(l:lRv)(x:den tRv):lRv:=
 cond (dJ x) (match bN (aBx x l) 0 l with
  | some r=>r
  | none=>if 16<l.length+1 then (l++[x]).drop 1 else l++[x]) l
theorem bTe{α:Type}{l:List α}(h:0<l.length):cut l (1:Int) (l.length:Int)=l.drop 1:=aW9 (k:=1) h
theorem bP2(l:lRv)(x:den tRv):decide (((l++[x]).length:Int)>16)=decide (16<l.length+1):=by
 rw[cAv];simp;omega
theorem bVo{l:lRv}{x:den tRv}(h:l.length<=1073741824):kZ l x=some (aNy l x):=by
 unfold kZ aNy ixb pj3;rw[aTh (show l.length<=68719476736 by omega)];simp only[aA,aZ,aBk];cases hv:dJ x with
 | false=>rfl
 | true=>
  simp only[bZ5,zY,zZ];rw[aW (l:=l) (aBx x l) (by omega) (λk y hi hd hw hm hk=>by
   have hy:l[k]? =some y:=by rw[<- aP];exact hi
   simp only[hd,zZ,dW,bZ4,hy,aA,bFp,hw];unfold aBx;cases y.1==x.1
   .rfl
   .cases y.2.1==x.2.1<;>rfl) (by simp)]
  cases bN (aBx x l) 0 l with
  | some r=>rfl
  | none=>
   have e1:cC (1:Int) ((l++[x]).length:Int) ((l++[x]).length:Int)=true:=by
    have :=aEb (a:=1) (b:=(l++[x]).length) (n:=(l++[x]).length);rw[show ((1:Nat):Int)=1 from rfl]at this;rw[this];simp
   have e2:=bTe (l:=l++[x]) (by simp);simp only[aA,cCj,aF (b:=24) (n:=l.length) (m:=1) (by decide) (by omega),zZ,bP2,e1,e2,aTh (l:=(l++[x]).drop 1) (by simp;omega)]
   by_cases c:16<l.length+1
   .have c2:(16:Int)<(l.length:Int)+1:=by omega
    simp[c,c2]
   .have c2: ¬ (16:Int)<(l.length:Int)+1:=by omega
    simp[c,c2]
def aD7(s:den lJ)(a:List Int):List Int:=
 (λb=>cond (s.2.2 != 0) (b++[wr (wr (8 * s.1)+s.2.2)]) b) (cond (s.2.1 != 0) (a++[wr (wr (8 * s.1)+s.2.1)]) a)
theorem aN4(s:den lJ)(a:List Int):(aD7 s a).length<=a.length+2:=by
 unfold aD7;cases s.2.1 != 0<;>cases s.2.2 != 0<;>simp
def eP(p:den tPt):List Int:=bI (λ_ s a=>aD7 s a) 0 (fT p) []
theorem aD1{α:Type}(l:List α):(l.map λ_=>2).sum=2 * l.length:=by
 induction l with
 | nil=>rfl
 | cons x l ih=>simp only[cAd,cBc,ih,cAy];omega
theorem bDk{p:den tPt}(h:tot tPt p<=1073741824):fV p=some (eP p):=by
 have hl:=aCs p;unfold fV wD eP;rw[aRy (bZv h (by decide))];simp only[aA];rw[lC (λk (a:List Int)=>((k:Int),a)) ((0:Int),[]) [] (fT p) (λ_ s a=>aD7 s a) cAc (λ_=>2) 68719476736 id rfl (by omega) (by rw[aD1];simp;omega) (λk x a=>aN4 x a) (λk x a hi hx hd hw hk hb=>by
  simp only[hd,hi,hw,zZ,aA,aF (b:=8) (n:=a.length) (m:=1) (by decide) (by omega)];unfold aD7;cases x.2.1 != 0<;>cases x.2.2 != 0<;>simp[aF (b:=8) (n:=a.length) (m:=1) (by decide) (by omega),aF (b:=8) (n:=a.length+1) (m:=1) (by decide) (by omega)]) (λa=>by simp)]
 rfl
theorem bB2{p:den tPt}(h:tot tPt p<=1073741824):fU p=some (eP p):=by
 have hl:=aCs p;unfold fU eP ixb;rw[aMg (bZv h (by decide))];simp only[aA];rw[lC (λk (a:List Int)=>((k:Int),a)) ((0:Int),[]) [] (fT p) (λ_ s a=>aD7 s a) cAc (λ_=>2) 68719476736 id rfl (by omega) (by rw[aD1];simp;omega) (λk x a=>aN4 x a) (λk x a hi hx hd hw hk hb=>by
  simp only[hd,hx,hw,zZ,aA,dW,bZ4,aF (b:=8) (n:=a.length) (m:=1) (by decide) (by omega)];unfold aD7;cases x.2.1 != 0<;>cases x.2.2 != 0<;>simp[aF (b:=8) (n:=a.length) (m:=1) (by decide) (by omega),aF (b:=8) (n:=a.length+1) (m:=1) (by decide) (by omega)]) (λa=>by simp)]
 rfl
def qQ(l:List Int)(n:Int):Bool:= !(l.all λx=> !(x==n))
theorem aLc{l:List Int}{n:Int}(h:l.length<=68719476736):mL l n=some (qQ l n):=by
 unfold mL qQ;rw[aW (l:=l) (λ_ x=>if !(x==n) then none else some true) (by omega) (λk x hi hd hw hm hk=>by
  simp only[hd,hi,hw,zZ,aA];cases x==n<;>rfl) (by simp),pA (λx:Int=> !(x==n))]
 cases l.all (λx=> !(x==n))<;>rfl
theorem aKm{l:List Int}{n:Int}(h:l.length<=68719476736):jQ l n=some (qQ l n):=by
 unfold jQ qQ;rw[aW (l:=l) (λ_ x=>if !(x==n) then none else some true) (by omega) (λk x hi hd hw hm hk=>by
  simp only[hd,hi,hw,zZ,aA];cases x==n<;>rfl) (by simp),pA (λx:Int=> !(x==n))]
 cases l.all (λx=> !(x==n))<;>rfl
theorem aF7(p:den tPt):(eP p).length<=2 * tot tPt p:=by
 have h:=aAf (f:=λ_ s (a:List Int)=>aD7 s a) (m:=cAc) (cost:=λ_=>2) (λk x a=>aN4 x a) (fT p) 0 [];have hl:=aCs p;rw[aD1]at h;unfold eP;simp at h;omega
def oQ(p:den tPt)(x:den tRv):Bool:=dJ x&&qQ (eP p) (wr (wr (8 * x.1)+x.2.1))
theorem bJa{p:den tPt}{x:den tRv}(h:tot tPt p<=1073741824):pZ p x=some (oQ p x):=by
 have :=aF7 p;unfold pZ oQ pj3;simp only[aZ,aBk,aA,bDk h,aLc (l:=eP p) (by omega)];cases dJ x<;>rfl
theorem bIs{p:den tPt}{x:den tRv}(h:tot tPt p<=1073741824):vM p x=some (oQ p x):=by
 have :=aF7 p;unfold vM oQ pj3;simp only[aZ,aOf,aA,bB2 h,aKm (l:=eP p) (by omega)];cases dJ x<;>rfl
theorem aKt{α R:Type}(m:R->Nat)(B:Nat){g:Nat->α->Option R}:∀{l:List α} {k:Nat},(∀j x r,l[j]? =some x->g (k+j) x=some r->m r<=B)-> ∀r,bN g k l=some r->m r<=B
 | [],_,_,r,h=>by cases h
 | x::xs,k,hg,r,h=>by
  simp only[bN]at h;cases hx:g k x with
  | some r'=>rw[hx]at h;injection h with h;subst h;exact hg 0 x r' rfl hx
  | none=>
   rw[hx]at h;exact aKt m B (λj y r hy hr=>hg (j+1) y r (by simpa using hy) (by rw[show k+(j+1)=k+1+j by omega];exact hr)) r h
theorem bL3(l:lRv):tot (.sl tRv) l=l.length:=by
 induction l with
 | nil=>rfl
 | cons x l ih=>rw[jF,ih];simp[tot];omega
theorem bOe(l:lRv)(x:den tRv):tot (.sl tRv) (aNy l x)<=l.length+1:=by
 rw[bL3];unfold aNy;cases dJ x with
 | false=>simp
 | true=>
  simp only[zZ];cases hs:bN (aBx x l) 0 l with
  | some r=>
   refine aKt cAc (l.length+1) (g:=aBx x l) (l:=l) (k:=0) (λj y r' hy hr=> ?_) r hs;unfold aBx at hr;cases c1:y.1==x.1 with
   | false=>rw[c1]at hr;cases hr
   | true=>
    cases c2:y.2.1==x.2.1 with
    | false=>rw[c1,c2]at hr;cases hr
    | true=>rw[c1,c2]at hr;injection hr with hr;rw[<- hr];simp
  | none=>
   by_cases c:16<l.length+1
   .simp[c]
   .simp[c]
def aJ6(f:den tFl)(x:den tRv):Bool:=inR f.2.2.2.2.2.2.1 0 ((f.2.2.2.2.2.1.length:Int) - 1)&&oQ ((f.2.2.2.2.2.1[f.2.2.2.2.2.2.1.toNat]?).getD []) x
def tE(b:List Int):den tRv:=((sD b).1,(sD b).2.1,(sD b).2.2.1)
def iK(f:den tFl)(p:den tPk):den tFl:=
 cond (p.1==3&&(sD p.2.2.2.2.2.2.2.2.2).2.2.2)
  (f.1,f.2.1,f.2.2.1,f.2.2.2.1,f.2.2.2.2.1,f.2.2.2.2.2.1,cond (aJ6 f (tE p.2.2.2.2.2.2.2.2.2)) (oN f) f.2.2.2.2.2.2.1,cond (aJ6 f (tE p.2.2.2.2.2.2.2.2.2)) 0 f.2.2.2.2.2.2.2.1,aNy f.2.2.2.2.2.2.2.2 (tE p.2.2.2.2.2.2.2.2.2)) f
theorem bSs{f:den tFl}(h:tot tFl f<=1073741824)(hr:inR f.2.2.2.2.2.2.1 0 ((f.2.2.2.2.2.1.length:Int) - 1)=true):∃q,f.2.2.2.2.2.1[f.2.2.2.2.2.2.1.toNat]? =some q/\idx f.2.2.2.2.2.1 f.2.2.2.2.2.2.1=some q/\tot tPt q<=1073741824:=by
 obtain⟨h0,h1⟩:=aS.1 hr;obtain⟨q,hq⟩:=aEf h0 h1;have ht:=zN (t:=tPt) hq;have hp:tot (.sl tPt) f.2.2.2.2.2.1<=1073741824:=yC (bD (bD (bD (bD (bD h)))));exact⟨q,hq,bAb h0 hq,by omega⟩
theorem bSc{f:den tFl}{p:den tPk}{now:Int}(h:tot tFl f<=1073741824)(hp:tot tPk p<=1073741824)(hb:∀x∈p.2.2.2.2.2.2.2.2.2,0<=x/\x<=255):gZ f p now=some (sP (iK f p)):=by
 have hf:SmB 68719476736 tFl f:=(bW h).mono (by decide);have hl:p.2.2.2.2.2.2.2.2.2.length<=68719476736:=bZv (fB (t:=tb) _) (bZv (bD (bD (bD (bD (bD (bD (bD (bD (bD hp))))))))) (by decide));have hv:f.2.2.2.2.2.2.2.2.length<=1073741824:=bZv (fB (t:=tRv) _) (bD (bD (bD (bD (bD (bD (bD (bD h))))))));have hn:f.2.2.2.2.2.1.length<=68719476736:=hf.2.2.2.2.2.1.1;unfold gZ iK pj9 zz4 zz5 zz6 zz7 zz8 zz9;simp only[aZ,aG4 hf,aA,bVx hb hl,jX,wP hn,bCh,bVo hv,bne];cases c1:p.1==3
 .simp only[cAb,zZ,aA,cAk,zY]
 .cases c2:(sD p.2.2.2.2.2.2.2.2.2).2.2.2
  .simp only[bZ5,cAb,zZ,zY,aA,cAf]
  .simp only[bZ5,zZ,zY,aA,cAf];unfold aJ6;cases c3:inR f.2.2.2.2.2.2.1 0 ((f.2.2.2.2.2.1.length:Int) - 1)
   .simp only[zY,aA,cAk];rfl
   .obtain⟨q,hq,hi,ht⟩:=bSs h c3;have ha:=bJa (p:=q) (x:=tE p.2.2.2.2.2.2.2.2.2) ht;have ha:pZ q ((sD p.2.2.2.2.2.2.2.2.2).1,(sD p.2.2.2.2.2.2.2.2.2).2.1,(sD p.2.2.2.2.2.2.2.2.2).2.2.1)=some (oQ q (tE p.2.2.2.2.2.2.2.2.2)):=ha;simp only[zZ,hi,hq,cA3,aA,ha,cAf];cases oQ q (tE p.2.2.2.2.2.2.2.2.2)<;>rfl
theorem bJp(f:den tFl)(p:den tPk):tot tFl (iK f p)<=tot tFl f+1:=by
 unfold iK;cases (p.1==3&&(sD p.2.2.2.2.2.2.2.2.2).2.2.2)
 .simp
 .have h1:=bOe f.2.2.2.2.2.2.2.2 (tE p.2.2.2.2.2.2.2.2.2);have h2:=bL3 f.2.2.2.2.2.2.2.2;simp only[zZ,oV,qM];omega
def lZ(h:den bG):Bool:=inR h.1 0 7&&(inR h.2.1 0 6&&(inR h.2.2.1 0 6&&(!(h.2.1==h.2.2.1)&&(inR h.2.2.2.1 0 1000000&&mV h.2.2.2.2))))
theorem aNv(h:den bG):mI h=some (lZ h):=by
 unfold mI lZ zz4;simp only[jX,aD2,aA,bne];cases inR h.1 0 7<;>cases inR h.2.1 0 6<;>cases inR h.2.2.1 0 6<;>cases h.2.1==h.2.2.1<;>cases inR h.2.2.2.1 0 1000000<;>rfl
theorem aOg(h:den bG):mG h=some (lZ h):=by
 unfold mG lZ zz4;simp only[sG,aG6,aA,bne];cases inR h.1 0 7<;>cases inR h.2.1 0 6<;>cases inR h.2.2.1 0 6<;>cases h.2.1==h.2.2.1<;>cases inR h.2.2.2.1 0 1000000<;>rfl
theorem bK7(n k:Nat):decide ((n:Int)>(k:Int))= !decide (n<=k):=by rw[cAv];simp
def aMl(l:cR):Bool:=decide (l.length<=8)&&l.all lZ
theorem bTa{l:cR}(h:l.length<=68719476736):lK l=some (aMl l):=by
 unfold lK aMl pj5;rw[aW (l:=l) (λ_ x=>if lZ x then none else some false) (by omega) (λk x hi hd hw hm hk=>by
  simp only[hd,hi,hw,zZ,aA,aZ,aNv];cases lZ x<;>rfl) (by simp),pA lZ]
 have e:=bK7 l.length 8;rw[show ((8:Nat):Int)=8 from rfl]at e;rw[e];cases decide (l.length<=8)<;>cases l.all lZ<;>rfl
def aDc(p:den tPp):Bool:=inR p.1 1 4&&(inR p.2.1 0 1000000&&(mV p.2.2.1&&aMl p.2.2.2))
def aKd(p:den tPt):Bool:=decide (p.length<=3)&&p.all aDc
theorem bXd{p:den tPt}(h:SmB 68719476736 tPt p):lA p=some (aKd p):=by
 unfold lA aKd;rw[aW (l:=p) (λ_ x=>if aDc x then none else some false) (bZv h.1 (by decide)) (λk x hi hd hw hm hk=>by
  have hx:=(h.2 x hm).2.2.2.1;simp only[hd,hi,hw,zZ,aA,aZ,jX,aD2,bTa hx];unfold aDc;cases inR x.1 1 4<;>cases inR x.2.1 0 1000000<;>cases mV x.2.2.1<;>cases aMl x.2.2.2<;>rfl) (by simp),pA aDc]
 have e:=bK7 p.length 3;rw[show ((3:Nat):Int)=3 from rfl]at e;rw[e];cases decide (p.length<=3)<;>cases p.all aDc<;>rfl
def aZh(x:den tPp):Bool:= !((x.2.2.2.length:Int)==0)
def dR(p:den tPk):Bool:=inR p.1 1 3&&(aKd p.2.2.2.1&&(cO p&&(mV p.2.2.2.2.2.2.1&&(p.2.2.2.1.all aZh&&(inR p.2.1 0 7&&(inR p.2.2.1 0 7&&(inR p.2.2.2.2.2.2.2.1 0 100000&&(inR p.2.2.2.2.2.2.2.2.1 0 100000&&decide ((p.2.2.2.2.2.2.2.2.2.length:Int)<=40)))))))))
theorem bVp{p:den tPk}(h:aKd p.2.2.2.1=true):decide (cF p<0)= !cO p:=by
 cases c:cO p with
 | false=>rw[aId c];rfl
 | true=>
  obtain⟨i,j,x,y,h1,h2,h3,h4,h5⟩:=aDe c;rw[h5];unfold aKd at h;have ha:=(bZu _ _▸h:_/\_).2;have hx:=cAi.1 ha x (bZ9 h3);unfold aDc aMl at hx;simp only[bZu]at hx;have hy:=cAi.1 hx.2.2.2.2 y (bZ9 h4);unfold lZ at hy;simp only[bZu,aS]at hy;have :=hy.1.1;simp;omega
theorem bN3{p:den tPk}(h:SmB 68719476736 tPk p):oA p=some (dR p):=by
 unfold oA dR bF zz6 zz7 zz8 zz9;rw[aW (l:=p.2.2.2.1) (λ_ x=>if aZh x then none else some false) (bZv h.2.2.2.1.1 (by decide)) (λk x hi hd hw hm hk=>by
  simp only[hd,hi,hw,zZ,aA];unfold aZh;cases (x.2.2.2.length:Int)==0<;>rfl) (by simp),pA aZh]
 simp only[jX,aZ,aDv h,bXd h.2.2.2.1,aD2,aA];cases inR p.1 1 3
 .rfl
 .cases he:aKd p.2.2.2.1
  .rfl
  .rw[bVp he];cases hz:(p.2.2.2.1.length:Int)==0
   .cases cO p<;>simp only[bZ5,cAb,zZ,zY,aA,cAk,cAf];cases mV p.2.2.2.2.2.2.1<;>simp only[bZ5,cAb,zZ,zY,aA,cAk,cAf];cases p.2.2.2.1.all aZh<;>cases inR p.2.1 0 7<;>cases inR p.2.2.1 0 7<;>cases inR p.2.2.2.2.2.2.2.1 0 100000<;>cases inR p.2.2.2.2.2.2.2.2.1 0 100000<;>rfl
   .have hh:cO p=false:=by
     have hl:(p.2.2.2.1.length:Int)=0:=by simpa using hz
     unfold cO;have :inR p.2.2.2.2.1 0 ((p.2.2.2.1.length:Int) - 1)=false:=by rw[bCu];omega
     rw[this];rfl
    rw[hh];rfl
def bBv(a b:Int)(f:den tFl):Bool:=(f.1==a&&f.2.1==b)||(f.1==b&&f.2.1==a)
def aTf(e:den jJ):den tPk:=e.2.2.2.2.2
noncomputable def harm(w:den tNw)(e:den jJ):Bool:=
 cond (!(e.1==7)||(!dR (aTf e)||(aTf e).1==3)) true (cond (w.2.2.2.2.2.1.all λx=> !aO9 x.2.2 (aTf e)) (w.2.2.2.2.2.2.1.all λf=> !bBv (aTf e).2.1 (aTf e).2.2.1 f) true)
abbrev tU(l:lRs)(now:Int):lRs:=l.filter λx=>decide (now<=x.2.2.2.2)
theorem bPf{l:lRs}{now:Int}(h:l.length<=1073741824):fN l now=some (tU l now):=by
 unfold fN pj5 zz4;rw[(aUb (l:=l) (out:=λa=>a) (λ(a:lRs) x=>if decide (now<=x.2.2.2.2) then a++[x] else a) (λk a=>a.length<=k) (by omega) (by simp) (λk x a hi hd hw hx hk hI=>by
  simp only[hd,hi,hw,zZ,aA]
  by_cases hp:now<=x.2.2.2.2
  .simp[hp,aF (b:=40) (n:=a.length) (m:=1) (by decide) (by omega)];omega
  .simp[hp];omega) (λa=>by simp)).1]
 simp only[aEh,cAl,aA]
def atR(x:den tRs)(s d:Int):Bool:=x.2.1==s&&x.2.2.1==d
theorem bOn(x:den tRs)(s d:Int):eD x s d=some (atR x s d):=by
 unfold eD atR;cases x.2.1==s<;>simp
theorem bZe(x:den tRs)(s d now:Int):aAa x s d now=some (atR x s d&&decide (now<=x.2.2.2.2)):=by
 unfold aAa atR zz4;cases x.2.1==s<;>cases x.2.2.1==d<;>simp
def rate(l:lRs)(s d now:Int):Int:=l.foldl (λa x=>if atR x s d&&decide (now<=x.2.2.2.2) then wr (a+x.2.2.2.1) else a) 0
theorem bJy{l:lRs}{s d now:Int}(h:l.length<=1073741824):iX l s d now=some (rate l s d now):=by
 unfold iX pj5 zz4;rw[(aPo (l:=l) (out:=λa=>a) (λ(a:Int) x=>if atR x s d&&decide (now<=x.2.2.2.2) then wr (a+x.2.2.2.1) else a) (λ_ _=>True) (by omega) trivial (λk x a hi hd hw hx hk hI=>by
  refine⟨?_,trivial⟩;simp only[hd,hi,hw,zZ,aA];rw[show ((x.1,x.2.1,x.2.2.1,x.2.2.2.1,x.2.2.2.2):den tRs)=x from rfl,bOn];cases atR x s d<;>cases decide (now<=x.2.2.2.2)<;>rfl) (λa=>by simp)).1]
 rfl
theorem bV2{l:lRs}{s d now:Int}(h:l.length<=1073741824):mP l s d now=some (rate l s d now):=by
 unfold mP pj5;rw[(aPo (l:=l) (out:=λa=>a) (λ(a:Int) x=>if atR x s d&&decide (now<=x.2.2.2.2) then wr (a+x.2.2.2.1) else a) (λ_ _=>True) (by omega) trivial (λk x a hi hd hw hx hk hI=>by
  refine⟨?_,trivial⟩;simp only[hd,hi,hw,zZ,aA];rw[show ((x.1,x.2.1,x.2.2.1,x.2.2.2.1,x.2.2.2.2):den tRs)=x from rfl,bZe];cases atR x s d<;>cases decide (now<=x.2.2.2.2)<;>rfl) (λa=>by simp)).1]
 rfl
def free(l:lRs)(cap s d now:Int):Int:=if wr (cap - rate l s d now)>0 then wr (cap - rate l s d now) else 0
theorem bVn{l:lRs}{cap s d now:Int}(h:l.length<=1073741824):uG l cap s d now=some (free l cap s d now):=by
 unfold uG;simp only[bJy h,aA,bFp];rfl
def aGz(l:lRs)(id s d now:Int):Int:=
 match bN (λ_ (x:den tRs)=>if x.1==id&&(atR x s d&&decide (now<=x.2.2.2.2)) then some x.2.2.2.1 else none) 0 l with
 | some r=>r
 | none=>0
theorem bJ2{l:lRs}{id s d now:Int}(h:l.length<=1073741824):jD l id s d now=some (aGz l id s d now):=by
 unfold jD pj5 zz4;rw[aW (l:=l) (λ_ (x:den tRs)=>if x.1==id&&(atR x s d&&decide (now<=x.2.2.2.2)) then some x.2.2.2.1 else none) (by omega) (λk x hi hd hw hx hk=>by
  simp only[hd,hi,hw,zZ,aA];rw[show ((x.1,x.2.1,x.2.2.1,x.2.2.2.1,x.2.2.2.2):den tRs)=x from rfl,bOn];cases x.1==id<;>cases atR x s d<;>cases decide (now<=x.2.2.2.2)<;>rfl) (by simp)]
 unfold aGz;cases bN (λ_ (x:den tRs)=>if x.1==id&&(atR x s d&&decide (now<=x.2.2.2.2)) then some x.2.2.2.1 else none) 0 l<;>rfl
def tR(x:den tRs):Bool:=inR x.1 1 100000&&(inR x.2.2.2.1 1 20&&dJ (x.2.1,x.2.2.1,x.2.2.2.2))
theorem bPk(x:den tRs):hP x=some (tR x):=by
 unfold hP tR zz4;simp only[jX,aBk,aA];cases inR x.1 1 100000<;>cases inR x.2.2.2.1 1 20<;>cases dJ (x.2.1,x.2.2.1,x.2.2.2.2)<;>rfl
theorem bMo(x:den tRs):iC x=some (tR x):=by
 unfold iC tR zz4;simp only[sG,aOf,aA];cases inR x.1 1 100000<;>cases inR x.2.2.2.1 1 20<;>cases dJ (x.2.1,x.2.2.1,x.2.2.2.2)<;>rfl
def iS(x y:den tRs):Bool:=y.1==x.1&&atR y x.2.1 x.2.2.1
theorem bJc{l:lRs}{x:den tRs}(h:l.length<=1073741824):pS l x=some (l.filter λy=> !iS x y):=by
 unfold pS pj5;rw[(aUb (l:=l) (out:=λa=>a) (λ(a:lRs) y=>if !iS x y then a++[y] else a) (λk a=>a.length<=k) (by omega) (by simp) (λk y a hi hd hw hx hk hI=>by
  simp only[hd,hi,hw,zZ,aA];have hap:=aF (b:=40) (n:=a.length) (m:=1) (by decide) (by omega);unfold iS atR;simp only[bne];cases h1:y.1==x.1<;>cases h2:y.2.1==x.2.1<;>cases h3:y.2.2.1==x.2.2.1<;>simp[hap]<;>omega) (λa=>by simp)).1]
 simp only[aEh,cAl,aA]
def okR(l:lRs)(cap now:Int)(k:Nat)(x:den tRs):Bool:=tR x&&(!decide (rate l x.2.1 x.2.2.1 now>cap)&& !(l.take k).any (iS x))
def aAc(l:lRs)(cap now:Int):Bool:=
 decide (l.length<=40)&&(bN (λk x=>if okR l cap now k x then none else some ()) 0 l).isNone
theorem aC9{α R S:Type}(p:Nat->α->Bool)(r:R)(s:S):∀(l:List α) (k:Nat),(bN (λk x=>if p k x then none else some r) k l).isNone=(bN (λk x=>if p k x then none else some s) k l).isNone/\ ∀q,bN (λk x=>if p k x then none else some r) k l=some q->q=r
 | [],_=>⟨rfl,λq h=>by cases h⟩
 | x::xs,k=>by
  simp only[bN];cases p k x with
  | true=>simpa using aC9 p r s xs (k+1)
  | false=>simp
theorem bFs{α:Type}(p:Nat->α->Bool)(l:List α):(match bN (λk x=>if p k x then none else some false) 0 l with
  | some r=>some r
  | none=>some true)=some (bN (λk x=>if p k x then none else some ()) 0 l).isNone:=by
 obtain⟨h1,h2⟩:=aC9 p false () l 0;rw[<- h1];cases h:bN (λk x=>if p k x then none else some false) 0 l with
 | none=>rfl
 | some q=>rw[h2 q h];rfl
theorem bHz{l:lRs}{cap now:Int}(h:l.length<=1073741824):gC l cap now=some (aAc l cap now):=by
 unfold gC aAc pj5
 by_cases hl:l.length<=40
 .rw[zW (by omega),zY,zX hl,cAf];rw[aW (l:=l) (λk x=>if okR l cap now k x then none else some false) (by omega) (λk x hi hd hw hx hk=>by
   have hslo:cC (0:Int) (k:Int) (l.length:Int)=true:=by simp[cC];omega
   have hlen:(l.take k).length<=1073741824:=by simp;omega
   simp only[hd,hi,hw,zZ,aA,hslo,jE];rw[show ((x.1,x.2.1,x.2.2.1,x.2.2.2.1,x.2.2.2.2):den tRs)=x from rfl,bPk,bJy h];unfold okR;cases hv:tR x with
   | false=>rfl
   | true=>
    cases hr:decide (rate l x.2.1 x.2.2.1 now>cap) with
    | true=>simp[hr]
    | false=>
     simp only[aA,bZ5,zY,hr,cAb,cAf];rw[aW (l:=l.take k) (R:=Int⊕(Unit⊕Bool)) (λ_ y=>if iS x y then some (bZs (bZs false)) else none) (by omega) (λj y hi2 hd2 hw2 hx2 hk2=>by
      simp only[hd2,hi2,hw2,zZ,aA];rw[show ((y.1,y.2.1,y.2.2.1,y.2.2.2.1,y.2.2.2.2):den tRs)=y from rfl,bOn];unfold iS;cases y.1==x.1<;>cases atR y x.2.1 x.2.2.1<;>rfl) (by simp)]
     have key:∀(m:lRs) (j:Nat),bN (λ_ y=>if iS x y then some (bZs (bZs false):Int⊕(Unit⊕Bool)) else none) j m=if m.any (iS x) then some (bZs (bZs false)) else none:=by
      intro m
      induction m with
      | nil=>intro j;rfl
      | cons y m ih=>
       intro j;simp only[bN,List.any_cons];rcases cCv (iS x y) with hs | hs
       .simp[hs]
       .simp only[hs,ih,bZ8,zU];rfl
     rw[key];cases (l.take k).any (iS x)<;>simp) (by simp)]
  rw[<- bFs];cases bN (λk x=>if okR l cap now k x then none else some false) 0 l<;>rfl
 .rw[zX (by omega),zZ,zW hl];rfl
def jL(id s d:Int)(x:den tUs):Bool:=x.1==id&&(x.2.1==s&&x.2.2.1==d)
def place(l:lUs)(id s d:Int):Int:=
 match bN (λk x=>if jL id s d x then some (k:Int) else none) 0 l with
 | some i=>i
 | none=> -1
theorem bAo(l:lUs)(id s d:Int):place l id s d= -1\/ ∃(j:Nat) (x:den tUs),place l id s d=(j:Int)/\l[j]? =some x/\j<l.length:=by
 unfold place;cases h:bN (λk x=>if jL id s d x then some (k:Int) else none) 0 l with
 | none=>exact .inl rfl
 | some i=>
  obtain⟨j,x,h1,h2,h3⟩:=aHw h;exact .inr ⟨j,x,by simpa using h2,h1,(bZy.1 h1).1⟩
theorem aSa{g:den tSc}{id s d:Int}(h:g.2.2.length<=1073741824):oC g id s d=some (place g.2.2 id s d):=by
 unfold oC;rw[aW (l:=g.2.2) (λk x=>if jL id s d x then some (k:Int) else none) (by omega) (λk x hi hd hw hx hk=>by
  simp only[hd,hi,hw,zZ,aA];unfold jL;cases x.1==id<;>cases x.2.1==s<;>cases x.2.2.1==d<;>rfl) (by simp)]
 unfold place;cases bN (λk x=>if jL id s d x then some (k:Int) else none) 0 g.2.2<;>rfl
def pI(g:den tSc)(id s d now:Int):Int:=if id==0 then free g.2.1 g.1 s d now else aGz g.2.1 id s d now
theorem bCj{g:den tSc}{id s d now:Int}(h:g.2.1.length<=1073741824):uM g id s d now=some (pI g id s d now):=by
 unfold uM pI;rw[bVn h,bJ2 h];cases id==0<;>rfl
def okU(g:den tSc)(now:Int)(k:Nat)(x:den tUs):Bool:=place g.2.2 x.1 x.2.1 x.2.2.1==(k:Int)&&inR x.2.2.2 1 (pI g x.1 x.2.1 x.2.2.1 now)
def aCe(g:den tSc)(now:Int):Bool:=inR g.1 1 20&&(aAc g.2.1 g.1 now&&(bN (λk x=>if okU g now k x then none else some ()) 0 g.2.2).isNone)
theorem bPy{g:den tSc}{now:Int}(h1:g.2.1.length<=1073741824)(h2:g.2.2.length<=1073741824):kD g now=some (aCe g now):=by
 unfold kD aCe pj3;rw[aW (l:=g.2.2) (λk x=>if okU g now k x then none else some false) (by omega) (λk x hi hd hw hx hk=>by
  simp only[hd,hi,hw,zZ,aA];rw[show ((g.1,g.2.1,g.2.2):den tSc)=g from rfl,aSa h2,bCj h1];unfold okU;simp only[aA,jX,bne];cases place g.2.2 x.1 x.2.1 x.2.2.1==(k:Int)<;>cases inR x.2.2.2 1 (pI g x.1 x.2.1 x.2.2.1 now)<;>rfl) (by simp)]
 rw[<- aC9 (okU g now) false () g.2.2 0 |>.1];have h3:=(aC9 (okU g now) false () g.2.2 0).2;simp only[jX,bHz h1,aA];cases inR g.1 1 20<;>cases aAc g.2.1 g.1 now<;>(cases hsc:bN (λk x=>if okU g now k x then none else some false) 0 g.2.2 with
  | none=>rfl
  | some q=>rw[h3 q hsc];rfl)
theorem wR{n:Nat}(h:n<=68719476736):wr ((n:Int) - 1)=(n:Int) - 1:=wri (by omega) (by omega)
def cH(t:den tTo)(r:Int):Bool:=inR r 0 ((t.1.length:Int) - 1)
theorem aGw{t:den tTo}{r:Int}(h:t.1.length<=68719476736):jG t r=some (cH t r):=by
 unfold jG cH;rw[wR h,jX];rfl
theorem aEs{t:den tTo}{r:Int}(h:t.1.length<=68719476736):eV t r=some (cH t r):=by
 unfold eV cH;rw[wR h,sG];rfl
theorem bYs(n:Int):uD n=some (inR n 1 2147483646):=by unfold uD;rw[jX];rfl
theorem bYj(n:Int):tT n=some (inR n 1 2147483646):=by unfold tT;rw[sG];rfl
def cU(l:den tLk)(r d:Int):Bool:=(l.1==r&&l.2.1==d)||(l.2.2.1==r&&l.2.2.2.1==d)
theorem bB1(l:den tLk)(r d:Int):fO l r d=some (cU l r d):=by
 unfold fO cU;cases l.1==r<;>cases l.2.1==d<;>cases l.2.2.1==r<;>cases l.2.2.2.1==d<;>rfl
theorem bB5(l:den tLk)(r d:Int):rV l r d=some (cU l r d):=by
 unfold rV cU;cases l.1==r<;>cases l.2.1==d<;>cases l.2.2.1==r<;>cases l.2.2.2.1==d<;>rfl
def aTg(k:Int)(x y:den tAS):Bool:=cond (k==1) (x.2.1&&y.2.1) (cond (k==2) (x.1==y.1&& !y.2.1) (cond (k==3) (!x.2.1&& !y.2.1) false))
def xA(t:den tTo)(l:den tLk):Bool:=
 cH t l.1&&(cH t l.2.2.1&&(!decide (l.1>=l.2.2.1)&&(inR l.2.1 1 6&&(inR l.2.2.2.1 1 6&&aTg l.2.2.2.2 ((t.1[l.1.toNat]?).getD (0,false,0)) ((t.1[l.2.2.1.toNat]?).getD (0,false,0))))))
theorem aDd{t:den tTo}{r:Int}(h:cH t r=true):∃x,t.1[r.toNat]? =some x/\idx t.1 r=some x:=by
 obtain⟨h0,h1⟩:=aS.1 h;obtain⟨x,hx⟩:=aEf h0 h1;exact⟨x,hx,bAb h0 hx⟩
theorem bT6{t:den tTo}{l:den tLk}(h:t.1.length<=68719476736):xG t l=some (xA t l):=by
 unfold xG xA pj2 pj3 zz4;simp only[aZ,aGw h,jX,aA];cases c1:cH t l.1
 .rfl
 .cases c2:cH t l.2.2.1
  .rfl
  .obtain⟨x,hx,ix⟩:=aDd c1;obtain⟨y,hy,iy⟩:=aDd c2;rw[ix,iy,hx,hy];simp only[bU,dH,cL,cK,cS,aA,cA3,bZ5,zY,cAf];unfold aTg;cases decide (l.1>=l.2.2.1)
   .cases inR l.2.1 1 6
    .rfl
    .cases inR l.2.2.2.1 1 6
     .rfl
     .cases l.2.2.2.2==1
      .cases l.2.2.2.2==2
       .cases l.2.2.2.2==3
        .rfl
        .cases x.2.1<;>rfl
       .cases x.1==y.1<;>rfl
      .cases x.2.1<;>rfl
   .rfl
theorem bCn{t:den tTo}{l:den tLk}(h:t.1.length<=68719476736):pL t l=some (xA t l):=by
 unfold pL xA pj2 zz4;simp only[aZ,aEs h,sG,aA];cases c1:cH t l.1
 .rfl
 .cases c2:cH t l.2.2.1
  .rfl
  .obtain⟨x,hx,ix⟩:=aDd c1;obtain⟨y,hy,iy⟩:=aDd c2;rw[ix,iy,hx,hy];simp only[aA,cA3,bZ5,zY,cAf];unfold aTg;cases decide (l.1>=l.2.2.1)
   .cases inR l.2.1 1 6
    .rfl
    .cases inR l.2.2.2.1 1 6
     .rfl
     .cases l.2.2.2.2==1
      .cases l.2.2.2.2==2
       .cases l.2.2.2.2==3
        .rfl
        .cases x.2.1<;>rfl
       .cases x.1==y.1<;>rfl
      .cases x.2.1<;>rfl
   .rfl
def asP(t:den tTo)(k:Nat)(x:den tAS):Bool:=inR x.1 0 2&&(inR x.2.2 1 2147483646&&(t.1.take k).all λy=> !(x.2.2==y.2.2))
def lkP(t:den tTo)(k:Nat)(x:den tLk):Bool:=xA t x&&(t.2.take k).all λy=> !(cU y x.1 x.2.1||cU y x.2.2.1 x.2.2.2.1)
def yP(t:den tTo):Bool:=inR (t.1.length:Int) 1 8&&((t.1.zipIdx 0).all (λz=>asP t z.2 z.1)&&(t.2.zipIdx 0).all λz=>lkP t z.2 z.1)
theorem vV{k n:Nat}(h:k<n):cC (0:Int) (k:Int) (n:Int)=true:=by
 have :=aEb (a:=0) (b:=k) (n:=n);rw[show ((0:Nat):Int)=0 from rfl]at this;rw[this];simp;omega
theorem aXk{α:Type}{l:List α}{k j:Nat}{x:α}(h:idx (l.take k) (j:Int)=some x):idx l (j:Int)=some x:=by
 rw[aP]at h ⊢;exact (aXi h).1
theorem uN{α:Type}{l:List α}{k:Nat}(h:k<l.length):(l.take k).length=k:=by simp;omega
theorem bWt{t:den tTo}(h:SmB 68719476736 tTo t):lH t=some (yP t):=by
 have l1:=h.1.1;have l2:=h.2.1;unfold lH yP pj2 pj5;rw[aW (l:=t.1) (λk x=>if asP t k x then none else some false) (bZv l1 (by decide)) (λk x hi hd hw hm hk=>by
  simp only[hd,hi,zZ,aA,jX,bYs,vV hk,jE,hw];rw[aW (l:=t.1.take k) (λ_ y=>if !(x.2.2==y.2.2) then none else some (bZs (bZs false))) (by rw[uN hk];omega) (λj y hi hd hw hm hk=>by
   simp only[hd,hi,hw,zZ,aA];cases x.2.2==y.2.2<;>rfl) (by simp),pA (λy:den tAS=> !(x.2.2==y.2.2))]
  unfold asP;cases inR x.1 0 2<;>cases inR x.2.2 1 2147483646<;>cases (t.1.take k).all (λy=> !(x.2.2==y.2.2))<;>rfl) (by simp),aAu (asP t)]
 rw[aW (l:=t.2) (λk x=>if lkP t k x then none else some false) (bZv l2 (by decide)) (λk x hi hd hw hm hk=>by
  simp only[hd,hi,zZ,aA,aZ,bT6 l1,vV hk,jE,hw];rw[aW (l:=t.2.take k) (λ_ y=>if !(cU y x.1 x.2.1||cU y x.2.2.1 x.2.2.2.1) then none else some (bZs (bZs false))) (by rw[uN hk];omega) (λj y hi hd hw hm hk=>by
   simp only[hd,hi,hw,zZ,aA,aZ,bB1];cases cU y x.1 x.2.1<;>cases cU y x.2.2.1 x.2.2.2.1<;>rfl) (by simp),pA (λy:den tLk=> !(cU y x.1 x.2.1||cU y x.2.2.1 x.2.2.2.1))]
  unfold lkP;cases xA t x<;>cases (t.2.take k).all (λy=> !(cU y x.1 x.2.1||cU y x.2.2.1 x.2.2.2.1))<;>rfl) (by simp),aAu (lkP t)]
 rw[jX,aA];cases inR (t.1.length:Int) 1 8<;>cases (t.1.zipIdx 0).all (λz=>asP t z.2 z.1)<;>cases (t.2.zipIdx 0).all (λz=>lkP t z.2 z.1)<;>rfl
theorem bMu(a b:Int):(a==b)=(b==a):=by rw[cAv];simp;exact eq_comm
theorem bUy{t:den tTo}(h:SmB 68719476736 tTo t):lG t=some (yP t):=by
 have l1:=h.1.1;have l2:=h.2.1;unfold lG yP pj2 pj5;rw[aW (l:=t.1) (λk x=>if asP t k x then none else some false) (bZv l1 (by decide)) (λk x hi hd hw hm hk=>by
  simp only[hd,hi,zZ,aA,sG,bYj,hw];rw[aW (l:=t.1.take k) (λ_ y=>if !(x.2.2==y.2.2) then none else some (bZs (bZs false))) (by rw[uN hk];omega) (λj y hi2 hd hw hm hk2=>by
   rw[uN hk]at hd;simp only[hd,aXk hi2,hi,hw,zZ,aA,bMu y.2.2 x.2.2];cases x.2.2==y.2.2<;>rfl) (by rw[uN hk];simp),pA (λy:den tAS=> !(x.2.2==y.2.2))]
  unfold asP;cases inR x.1 0 2<;>cases inR x.2.2 1 2147483646<;>cases (t.1.take k).all (λy=> !(x.2.2==y.2.2))<;>rfl) (by simp),aAu (asP t)]
 rw[aW (l:=t.2) (λk x=>if lkP t k x then none else some false) (bZv l2 (by decide)) (λk x hi hd hw hm hk=>by
  simp only[hd,hi,zZ,aA,aZ,bCn l1,hw];rw[aW (l:=t.2.take k) (λ_ y=>if !(cU y x.1 x.2.1||cU y x.2.2.1 x.2.2.2.1) then none else some (bZs (bZs false))) (by rw[uN hk];omega) (λj y hi2 hd hw hm hk2=>by
   rw[uN hk]at hd;simp only[hd,aXk hi2,hi,hw,zZ,aA,aZ,bB5];cases cU y x.1 x.2.1<;>cases cU y x.2.2.1 x.2.2.2.1<;>rfl) (by rw[uN hk];simp),pA (λy:den tLk=> !(cU y x.1 x.2.1||cU y x.2.2.1 x.2.2.2.1))]
  unfold lkP;cases xA t x<;>cases (t.2.take k).all (λy=> !(cU y x.1 x.2.1||cU y x.2.2.1 x.2.2.2.1))<;>rfl) (by simp),aAu (lkP t)]
 rw[sG,aA];cases inR (t.1.length:Int) 1 8<;>cases (t.1.zipIdx 0).all (λz=>asP t z.2 z.1)<;>cases (t.2.zipIdx 0).all (λz=>lkP t z.2 z.1)<;>rfl
def xOk(x:den tIb):Bool:=inR x.1 0 7&&(inR x.2.1 0 7&&(!(x.1==x.2.1)&&((x.2.2.1==(x.2.2.2.length:Int))&&(decide (x.2.2.1<=20)&&x.2.2.2.all λm=>decide (m.length<=40)))))
theorem bYt(a b:Int):decide (a>b)= !decide (a<=b):=by rw[cAv];simp
theorem bYr{x:den tIb}(h:x.2.2.2.length<=68719476736):qI x=some (xOk x):=by
 unfold qI xOk;rw[aW (l:=x.2.2.2) (λ_ m=>if decide (m.length<=40) then none else some false) (by omega) (λk m hi hd hw hx hk=>by
  simp only[hd,hi,hw,zZ,aA]
  by_cases hm:m.length<=40
  .simp[hm,show ¬ ((m.length:Int)>40) by omega]
  .simp[hm,show (m.length:Int)>40 by omega]) (by simp),pA (λm:List Int=>decide (m.length<=40))]
 simp only[jX,aA,bne,bYt];cases inR x.1 0 7<;>cases inR x.2.1 0 7<;>cases x.1==x.2.1<;>cases x.2.2.1==(x.2.2.2.length:Int)<;>cases decide (x.2.2.1<=20)<;>cases x.2.2.2.all (λm=>decide (m.length<=40))<;>rfl
theorem bS8{t:den tTo}(h:SmB 68719476736 tTo t):mR t=some t:=by
 unfold mR pj2;simp only[aF (b:=24) (n:=([]:lAS).length) (m:=t.1.length) (by decide) (by simpa using h.1.1),aF (b:=40) (n:=([]:lLk).length) (m:=t.2.length) (by decide) (by simpa using h.2.1),zZ,bU,dH,cL,cK,cS,aA,cAl,aZ]
theorem bBq{t:den tTo}(h:SmB 68719476736 tTo t):pN t=some t:=by
 unfold pN pj2;simp only[aF (b:=24) (n:=([]:lAS).length) (m:=t.1.length) (by decide) (by simpa using h.1.1),aF (b:=40) (n:=([]:lLk).length) (m:=t.2.length) (by decide) (by simpa using h.2.1),zZ,bU,dH,cL,cK,cS,aA,cAl,aZ]
theorem bR7{x:den tSg}(h:x.2.2.length<=68719476736):gI x=some x:=by
 unfold gI;rw[bBr h];rfl
theorem aG5{x:den tSg}(h:x.2.2.length<=68719476736):gO x=some x:=by
 unfold gO;rw[aF (b:=40) (n:=([]:cR).length) (by decide) (by simpa using h)];rfl
theorem aZ4{l:lSg}(h:SmB 68719476736 (.sl tSg) l):kQ l=some l:=by
 unfold kQ pj3;rw[(sR (λk (a:lSg)=>((k:Int),a)) ((0:Int),[]) [] l (λ_ x a=>a++[x]) cAc (λ_=>1) 68719476736 id rfl (bZv h.1 (by decide)) (by rw[fI];simpa using h.1) (λk x a hi hx hd hw hk hb=>by
  have e:=h.2 x (bZ9 hx);simp only[hd,hi,hw,zZ,aA,aZ,bR7 e.2.2.1,aF (b:=40) (by decide) hb];simp) (λa=>by simp)).1,gD (λx=>x)]
 simp
theorem aBs{l:lSg}(h:SmB 68719476736 (.sl tSg) l):fH l=some l:=by
 unfold fH pj3;rw[(sR (λk (a:lSg)=>((k:Int),a)) ((0:Int),[]) [] l (λ_ x a=>a++[x]) cAc (λ_=>1) 68719476736 id rfl (bZv h.1 (by decide)) (by rw[fI];simpa using h.1) (λk x a hi hx hd hw hk hb=>by
  have e:=h.2 x (bZ9 hx);simp only[hd,hi,hw,zZ,aA,aZ,aG5 e.2.2.1,aF (b:=40) (by decide) hb];simp) (λa=>by simp)).1,gD (λx=>x)]
 simp
theorem bUw(c:Int):mS c=some (cond (inR c 1 20) c 1,[],[]):=by
 unfold mS;rw[sG];cases inR c 1 20<;>rfl
def aWn(t:den tTo)(now:Int):Bool:=yP t&&inR now 0 1000000
theorem bXm{t:den tTo}{k:den tDb}{c now:Int}(ht:SmB 68719476736 tTo t)(hk:SmB 68719476736 tDb k):pR t k c now=some (cond (aWn t now) (cond (inR c 1 20) c 1,now,0,t.1,t.2,k.1,k.2,[],[],[],[],[],[]) (0,0,0,[],[],[],[],[],[],[],[],[],[])):=by
 unfold pR aWn pj2;simp only[aZ,bUy ht,sG,bBq ht,aBs hk.1,aBs hk.2,bUw,aA];cases yP t<;>cases inR now 0 1000000<;>rfl
def oO(a b:Int)(x:den tIb):Bool:=x.1==a&&x.2.1==b
theorem aKu{α:Type}(p:α->Bool):∀(l:List α) (k:Nat),bN (λk x=>if p x then some (k:Int) else none) k l=(l.findIdx? p).map (λi=>((k+i:Nat):Int))
 | [],_=>rfl
 | x::xs,k=>by
  simp only[bN,List.findIdx?_cons];cases h:p x with
  | true=>simp
  | false=>
   simp only[bZ8,zU];rw[aKu p xs (k+1)];cases xs.findIdx? p with
   | none=>rfl
   | some i=>simp<;>omega
def dD(l:lIb)(a b:Int):Int:=((l.findIdx? (oO a b)).map (λi=>((0+i:Nat):Int))).getD (-1)
theorem bSe{l:lIb}{a b:Int}(h:l.length<=68719476736):rK l a b=some (dD l a b):=by
 unfold rK dD;rw[aW (l:=l) (λk x=>if oO a b x then some (k:Int) else none) (by omega) (λk x hi hd hw hm hk=>by
  simp only[hd,hi,hw,zZ,aA];unfold oO;cases x.1==a<;>cases x.2.1==b<;>rfl) (by simp),aKu (oO a b)]
 cases l.findIdx? (oO a b)<;>rfl
def aFm(w:den tNw)(k:Nat)(f:den tFl):Bool:=match w.2.2.2.2.2.2.2.1[k]? with
 | some x=>hO f&&(cH w.1 f.1&&(cH w.1 f.2.1&&(xOk x&&aDx f x)))
 | none=>false
def sF(f g:den tFl):Bool:=g.1==f.1&&g.2.1==f.2.1
def aE8(w:den tNw)(k:Nat)(f:den tFl):Bool:=(w.2.2.2.2.2.2.1.take k).all λg=> !sF f g
theorem wX{α:Type}(p:Nat->α->Bool)(l:List α):(l.zipIdx 0).all (λz=>p z.2 z.1)=true↔ ∀k x,l[k]? =some x->p k x=true:=by
 rw[cAi];constructor
 .intro h k x hx;exact h (x,k) (cDk.2 (by simpa using hx))
 .rintro h ⟨x,k⟩ hz
  exact h k x (by simpa using cDk.1 hz)
def aE4(l:List Int)(m:Nat)(k:Nat)(n:Int):Bool:=inR n 0 ((m:Int) - 1)&&(decide (k=0)|| !decide ((l[k - 1]?).getD 0>=n))
def aGj(w:den tNw):Bool:=
 yP w.1&&(inR w.2.2.2.1 0 1000000&&(aCe w.2.2.1 w.2.2.2.1&&((w.2.2.2.2.1.zipIdx 0).all (λz=>aE4 w.2.2.2.2.1 w.1.2.length z.2 z.1)&&(decide (w.2.2.2.2.2.1.length<=150)&&(decide (w.2.2.2.2.2.2.1.length<=4)&&(decide (w.2.2.2.2.2.2.2.1.length=w.2.2.2.2.2.2.1.length)&&(!decide (w.2.2.2.2.2.2.2.2<0)&&
  (w.2.2.2.2.2.1.all (λx=>cH w.1 x.1)&&(w.2.2.2.2.2.2.1.zipIdx 0).all (λz=>aFm w z.2 z.1&&aE8 w z.2 z.1)))))))))
theorem bIm(n k:Nat):decide ((n:Int)>(k:Int))= !decide (n<=k):=by rw[cAv];simp
theorem bVr(a b:Nat):((a:Int) != (b:Int))= !decide (a=b):=by rw[cAv];simp;omega
theorem bJk{l:List Int}{k:Nat}(hk:k<l.length)(h0:0<k)(hl:l.length<=68719476736):idx l (wr ((k:Int) - 1))=some ((l[k - 1]?).getD 0):=by
 have e:wr ((k:Int) - 1)=((k - 1:Nat):Int):=by
  have :wr ((k:Int) - 1)=(k:Int) - 1:=wri (by omega) (by omega);rw[this];omega
 rw[e,aP,bZw (show k - 1<l.length by omega)];rfl
theorem aO0{w:den tNw}(h:tot tNw w<=1073741824):eZ w=some (aGj w):=by
 have sm:SmB 68719476736 tNw w:=(bW h).mono (by decide);have sms:SmB 1073741824 tNw w:=bW h;have lT:=sm.1.1.1;have lL:=sm.1.2.1;have lD:=sms.2.2.2.2.1.1;have lQ:=sms.2.2.2.2.2.1.1;have lF:=sms.2.2.2.2.2.2.1.1;have lX:=sms.2.2.2.2.2.2.2.1.1;have eT:=bWt sm.1;have eS:=bPy (now:=w.2.2.2.1) sms.2.2.1.2.1.1 sms.2.2.1.2.2.1;have q1:decide ((w.2.2.2.2.2.1.length:Int)>150)= !decide (w.2.2.2.2.2.1.length<=150):=bIm _ 150;have q2:decide ((w.2.2.2.2.2.2.1.length:Int)>4)= !decide (w.2.2.2.2.2.2.1.length<=4):=bIm _ 4;unfold eZ aGj pj2 pj3 pj4 pj9 zz4 zz5 zz6 zz7 zz8;rw[q1,q2,bVr];simp only[aZ,eT,jX,eS,aA]
 by_cases hX:w.2.2.2.2.2.2.2.1.length=w.2.2.2.2.2.2.1.length
 .rw[aW (l:=w.2.2.2.2.1) (λk n=>if aE4 w.2.2.2.2.1 w.1.2.length k n then none else some false) (by omega) (λk n hi hd hw hm hk=>by
   simp only[hd,hi,hw,zZ,aA,jX,wR lL];unfold aE4;cases inR n 0 ((w.1.2.length:Int) - 1)
   .rfl
   .by_cases h0:k=0
    .subst h0;rfl
    .have e1:decide ((k:Int)>0)=true:=by simp;omega
     rw[e1,bJk hk (by omega) (by omega),zW h0];simp only[bZ5,zY,zZ,aA,Bool.false_or,cAf];cases decide ((w.2.2.2.2.1[k - 1]?).getD 0>=n)<;>rfl) (by simp),aAu (aE4 w.2.2.2.2.1 w.1.2.length)]
  rw[aW (l:=w.2.2.2.2.2.1) (λ_ x=>if cH w.1 x.1 then none else some false) (by omega) (λk x hi hd hw hm hk=>by
   simp only[hd,hi,hw,zZ,aA,aGw lT];cases cH w.1 x.1<;>rfl) (by simp),pA (λx:den tFy=>cH w.1 x.1)]
  rw[aW (l:=w.2.2.2.2.2.2.1) (λk f=>if aFm w k f&&aE8 w k f then none else some false) (by omega) (λk f hi hd hw hm hk=>by
   have hx:w.2.2.2.2.2.2.2.1[k]? =some w.2.2.2.2.2.2.2.1[k]:=bZw (by omega);have hix:idx w.2.2.2.2.2.2.2.1 (k:Int)=some w.2.2.2.2.2.2.2.1[k]:=by rw[aP];exact hx
   have fs:=sm.2.2.2.2.2.2.1.2 f hm;have xs:=(sm.2.2.2.2.2.2.2.1.2 _ (bZ9 hx)).2.2.2.1;simp only[hd,hi,zZ,aA,aGw lT,aY4 fs,hix,bYr xs,bJ6 fs.2.2.2.2.1.1 xs,vV hk,jE,hw];rw[aW (l:=w.2.2.2.2.2.2.1.take k) (λ_ g=>if !sF f g then none else some (bZs (bZs false))) (by rw[uN hk];omega) (λj g hi hd hw hm hk=>by
    simp only[hd,hi,hw,zZ,aA];unfold sF;cases g.1==f.1<;>cases g.2.1==f.2.1<;>rfl) (by simp),pA (λg:den tFl=> !sF f g)]
   unfold aFm aE8;rw[hx];simp only;cases hO f<;>simp only[bZ5,cAb,zZ,zY,aA,cAk,cAf,bZ8,zU]
   .rfl
   cases cH w.1 f.1<;>simp only[bZ5,cAb,zZ,zY,aA,cAk,cAf,bZ8,zU]
   .rfl
   cases cH w.1 f.2.1<;>simp only[bZ5,cAb,zZ,zY,aA,cAk,cAf,bZ8,zU]
   .rfl
   cases xOk w.2.2.2.2.2.2.2.1[k]<;>simp only[bZ5,cAb,zZ,zY,aA,cAk,cAf,bZ8,zU]
   .rfl
   cases aDx f w.2.2.2.2.2.2.2.1[k]<;>cases (w.2.2.2.2.2.2.1.take k).all (λg=> !sF f g)<;>rfl) (by simp),aAu (λk f=>aFm w k f&&aE8 w k f)]
  cases yP w.1<;>simp only[bZ5,cAb,zZ,zY,aA,cAk,cAf];cases inR w.2.2.2.1 0 1000000<;>simp only[bZ5,cAb,zZ,zY,aA,cAk,cAf];cases aCe w.2.2.1 w.2.2.2.1<;>simp only[bZ5,cAb,zZ,zY,aA,cAk,cAf];cases (w.2.2.2.2.1.zipIdx 0).all (λz=>aE4 w.2.2.2.2.1 w.1.2.length z.2 z.1)<;>cases decide (w.2.2.2.2.2.1.length<=150)<;>cases decide (w.2.2.2.2.2.2.1.length<=4)<;>cases decide (w.2.2.2.2.2.2.2.1.length=w.2.2.2.2.2.2.1.length)<;>cases decide (w.2.2.2.2.2.2.2.2<0)<;>cases w.2.2.2.2.2.1.all (λx=>cH w.1 x.1)<;>cases (w.2.2.2.2.2.2.1.zipIdx 0).all (λz=>aFm w z.2 z.1&&aE8 w z.2 z.1)<;>rfl
 .have e:decide (w.2.2.2.2.2.2.2.1.length=w.2.2.2.2.2.2.1.length)=false:=by simpa using hX
  rw[e];cases yP w.1
  .rfl
  .cases inR w.2.2.2.1 0 1000000
   .rfl
   .cases aCe w.2.2.1 w.2.2.2.1
    .rfl
    .cases decide (w.2.2.2.2.2.1.length<=150)<;>cases decide (w.2.2.2.2.2.2.1.length<=4)<;>simp
def bNy(n:Int):Int:=cAq (wr ((cAq n 2147483647)+2147483647)) 2147483647
theorem bWb(n:Int):aFa n 2147483647=some (bNy n):=by unfold aFa;rw[jX];rfl
theorem bWx(n:Int):aFw n 2147483647=some (bNy n):=by unfold aFw;rw[sG];rfl
def bM5(a x:Int):Int:=cAq (wr ((wr ((wr (a * (1000003:Int)))+bNy x))+(11:Int))) (2147483647:Int)
def aCo(l:List Int):Int:=bI (λ_ x a=>bM5 a x) 0 l 7
theorem bP1{l:List Int}(h:l.length<=68719476736):uJ l=some (aCo l):=by
 unfold uJ aCo;rw[lC (λk (a:Int)=>(a,(k:Int))) ((7:Int),(0:Int)) 7 l (λ_ x a=>bM5 a x) (λ_=>0) (λ_=>0) 1 id rfl (by omega) (by rw[sum_nil];omega) (λk x a=>by omega) (λk x a hi hx hd hw hk hb=>by
  simp only[hd,hi,hw,zZ,aA,bWb];rfl) (λa=>by simp)]
 rfl
theorem aXh{l:List Int}(h:l.length<=68719476736):uS l=some (aCo l):=by
 unfold uS aCo;rw[lC (λk (a:Int)=>(a,(k:Int))) ((7:Int),(0:Int)) 7 l (λ_ x a=>bM5 a x) (λ_=>0) (λ_=>0) 1 id rfl (by omega) (by rw[sum_nil];omega) (λk x a=>by omega) (λk x a hi hx hd hw hk hb=>by
  simp only[hd,hi,hw,zZ,aA,bWx];rfl) (λa=>by simp)]
 rfl
def aZr(h:den bG)(a:List Int):List Int:=a++[h.1,h.2.1,h.2.2.1]
def aL3(x:den tPp)(a:List Int):List Int:=bI (λ_ h a=>aZr h a) 0 x.2.2.2 (a++[x.1,x.2.1,x.2.2.1])
def aI7(p:den tPt):List Int:=bI (λ_ x a=>aL3 x a) 0 p []
theorem bQh{α:Type}(c:Nat)(l:List α):(l.map λ_=>c).sum=c * l.length:=by
 induction l with
 | nil=>rfl
 | cons x l ih=>simp only[cAd,cBc,ih,cAy,Nat.mul_succ];omega
theorem aT3(x:den tPp)(a:List Int):(aL3 x a).length<=a.length+(3+3 * x.2.2.2.length):=by
 have h:=aAf (f:=λ_ h (a:List Int)=>aZr h a) (m:=cAc) (cost:=λ_=>3) (λk x a=>by simp[aZr]) x.2.2.2 0 (a++[x.1,x.2.1,x.2.2.1]);rw[bQh]at h;unfold aL3;simp at h;omega
theorem aKr:∀p:den tPt,(p.map λx:den tPp=>3+3 * x.2.2.2.length).sum<=3 * tot tPt p
 | []=>by simp
 | x::p=>by
  have h1:=jF (t:=tPp) x p;have h2:x.2.2.2.length<=tot tPp x:=bZv (fB (t:=bG) x.2.2.2) (by simp only[oV,qM];omega);have h3:=aKr p;simp only[cAd,cBc];show _<=3 * tot (.sl tPp) (x::p);rw[h1];have h3:(p.map λx:den tPp=>3+3 * x.2.2.2.length).sum<=3 * tot (.sl tPp) p:=h3;omega
theorem bH2(p:den tPt):(aI7 p).length<=3 * tot tPt p:=by
 have h:=aAf (f:=λ_ x (a:List Int)=>aL3 x a) (m:=cAc) (cost:=λx:den tPp=>3+3 * x.2.2.2.length) (λk x a=>aT3 x a) p 0 [];have h2:=aKr p;unfold aI7;simp only[cBm,cAt]at h;omega
theorem aUq{p:den tPt}(h:tot tPt p<=1073741824):nU p=some (aCo (aI7 p)):=by
 have hl:=fB (t:=tPp) p;have hl:p.length<=1073741824:=bZv hl h;have hs:=aKr p;have hd':=bH2 p;unfold nU;rw[lC (λk (a:List Int)=>((k:Int),a)) ((0:Int),[]) [] p (λ_ x a=>aL3 x a) cAc (λx:den tPp=>3+3 * x.2.2.2.length) 68719476736 id rfl (by omega) (by simp only[cBm];omega) (λk x a=>aT3 x a) (λk x a hi hx hd hw hk hb=>by
  simp only[hd,hi,hw,zZ,aA,aF (b:=8) (n:=a.length) (m:=3) (by decide) (by omega)];rw[lC (λk (a:List Int)=>((k:Int),a)) ((0:Int),a++[x.1,x.2.1,x.2.2.1]) (a++[x.1,x.2.1,x.2.2.1]) x.2.2.2 (λ_ h a=>aZr h a) cAc (λ_=>3) 68719476736 id rfl (by omega) (by rw[bQh];simp;omega) (λk h a=>by simp[aZr]) (λk h a hi hx hd hw hk hb=>by
   simp only[hd,hi,hw,zZ,aA,aF (b:=8) (n:=a.length) (m:=3) (by decide) (by omega)];rfl) (λa=>by simp)]
  rfl) (λa=>by simp)]
 simp only[aA];rw[show bI (λ_ x a=>aL3 x a) 0 p []=aI7 p from rfl];simp only[id,aXh (l:=aI7 p) (by omega),aA]
def aG3(a:Int×Bool)(h:den bG):Int×Bool:=cond (!a.2||decide (h.2.2.2.1<a.1)) (h.2.2.2.1,true) a
def aFu(l:cR):Int:=(l.foldl aG3 (0,false)).1
def aJv(p:den tPt):cR:=bI (λ_ x a=>a++x.2.2.2) 0 p []
theorem bAl:∀(p:den tPt) (k:Nat) (a:cR),bI (λ_ (x:den tPp) a=>a++x.2.2.2) k p a=a++p.flatMap (λx:den tPp=>x.2.2.2)
 | [],_,a=>by simp[bI]
 | x::p,k,a=>by
  simp only[bI];rw[bAl p (k+1)];simp
theorem aPt:∀(p:den tPt) (k:Nat) (a:Int×Bool),bI (λ_ (x:den tPp) a=>bI (λ_ h a=>aG3 a h) 0 x.2.2.2 a) k p a=(p.flatMap λx:den tPp=>x.2.2.2).foldl aG3 a
 | [],_,_=>rfl
 | x::p,k,a=>by
  simp only[bI,List.flatMap_cons,List.foldl_append];rw[aPt p (k+1),uO]
theorem aW2{p:den tPt}(h:tot tPt p<=1073741824):kF p=some (aFu (aJv p)):=by
 have hl:p.length<=1073741824:=bZv (fB (t:=tPp) p) h;have hs:=aH7 p;unfold kF;rw[lC (λk (a:Int×Bool)=>(a.1,a.2,(k:Int))) ((0:Int),false,(0:Int)) ((0:Int),false) p (λ_ (x:den tPp) a=>bI (λ_ h a=>aG3 a h) 0 x.2.2.2 a) (λ_=>0) (λ_=>0) 1 (λa=>a.1) rfl (by omega) (by rw[sum_nil];omega) (λk x a=>by omega) (λk x a hi hx hd hw hk hb=>by
  have hxl:x.2.2.2.length<=1073741824:=by
   have h1:=zN (t:=tPp) hx;have h2:x.2.2.2.length<=tot tPp x:=bZv (fB (t:=bG) x.2.2.2) (by simp only[oV,qM];omega);have h3:tot (.sl tPp) p<=1073741824:=h;omega
  simp only[hd,hi,hw,zZ,aA];rw[lC (λk (a:Int×Bool)=>(a.1,a.2,(k:Int))) (a.1,a.2,(0:Int)) a x.2.2.2 (λ_ h a=>aG3 a h) (λ_=>0) (λ_=>0) 1 id rfl (by omega) (by rw[sum_nil];omega) (λk x a=>by omega) (λk h a hi hx hd hw hk hb=>by
   simp only[hd,hi,hw,zZ,aA];unfold aG3;cases ca:a.2
   .rfl
   .cases c:decide (h.2.2.2.1<a.1)<;>simp[c,ca]) (λa=>by simp)]
  rfl) (λa=>by simp)]
 rw[aPt];unfold aFu aJv;rw[bAl];rfl
def aEr(a b:den tPt):Bool:=
 cond (((fT a).length:Int) != ((fT b).length:Int)) (decide (((fT a).length:Int)<((fT b).length:Int)))
  (cond (aFu (aJv a) != aFu (aJv b)) (decide (aFu (aJv a)>aFu (aJv b))) (decide (aCo (aI7 a)<aCo (aI7 b))))
theorem bP8{a b:den tPt}(ha:tot tPt a<=1073741824)(hb:tot tPt b<=1073741824):pT a b=some (aEr a b):=by
 unfold pT mA aEr;simp only[aMg (p:=a) (bZv ha (by decide)),aMg (p:=b) (bZv hb (by decide)),aW2 ha,aW2 hb,aUq ha,aUq hb,aA];cases ((fT a).length:Int) != ((fT b).length:Int)
 .cases aFu (aJv a) != aFu (aJv b)<;>rfl
 .rfl
def aC4(x:den tPt)(out:lPt):Nat->Nat
 | 0=>0
 | k+1=>cond (aEr x ((out[k]?).getD [])) (aC4 x out k) (k+1)
theorem bDj(x:den tPt)(out:lPt):∀k,aC4 x out k<=k
 | 0=>bZ7 _
 | k+1=>by
  unfold aC4;cases aEr x ((out[k]?).getD [])
  .exact bZ7 _
  .exact Nat.le_succ_of_le (bDj x out k)
theorem aUw{x:den tPt}{out:lPt}{step:Int->Option (Int⊕Int)}(hl:out.length<=68719476736)
  (h0:step 0=some (.inr 0)) (h1:∀k (y:den tPt),out[k]? =some y->step ((k+1:Nat):Int)=some (cond (aEr x y) (.inl (k:Int)) (.inr ((k+1:Nat):Int)))):
  ∀k,k<=out.length->aC step (k:Int)=some ((aC4 x out k:Nat):Int)
 | 0,_=>aT h0
 | k+1,hk=>by
  have hy:out[k]? =some out[k]:=bZw (by omega);have hs:=h1 k _ hy;unfold aC4;rw[hy,cA3];cases hb:aEr x out[k] with
  | true=>rw[hb]at hs;rw[cT hs];exact aUw hl h0 h1 k (by omega)
  | false=>rw[hb]at hs;exact aT hs
def aJd(x:den tPt)(out:lPt):lPt:=out.take (aC4 x out out.length)++[x]++out.drop (aC4 x out out.length)
theorem aXl(x:den tPt)(out:lPt):tot (.sl tPt) (aJd x out)=tot (.sl tPt) out+(1+tot tPt x):=by
 have h:=rU (t:=tPt) (out.take (aC4 x out out.length)) (out.drop (aC4 x out out.length));rw[List.take_append_drop]at h;unfold aJd;rw[rU,rU,aD6];omega
def aE9(l:lPt):lPt:=bI (λ_ x a=>aJd x a) 0 l []
theorem bKu(l:lPt):tot (.sl tPt) (aE9 l)<=tot (.sl tPt) l:=by
 have h:=aAf (f:=λ_ x (a:lPt)=>aJd x a) (m:=tot (.sl tPt)) (cost:=λx=>1+tot tPt x) (λk x a=>Nat.le_of_eq (aXl x a)) l 0 [];rw[aSk,aAn]at h;unfold aE9;omega
theorem bR5{l:lPt}(h:tot (.sl tPt) l<=1073741824):rR l=some (aE9 l):=by
 have hl:=fB (t:=tPt) l;unfold rR aE9 ixb;rw[lC (λk (a:lPt)=>((k:Int),a)) ((0:Int),[]) [] l (λ_ x a=>aJd x a) (tot (.sl tPt)) (λx=>1+tot tPt x) 1073741824 id rfl (by omega) (by rw[aSk,aAn];omega) (λk x a=>Nat.le_of_eq (aXl x a)) (λk x a hi hx hd hw hk hb=>by
  have ha:=fB (t:=tPt) a;have hsm:SmB 68719476736 tPt x:=(bW (B:=1073741824) (t:=tPt) (by omega)).mono (by decide);simp only[hd,hi,hw,zZ,aA,bU,dH,cL,cK,cS];rw[aUw (x:=x) (out:=a) (by omega) (by rfl) (λj y hy=>by
   have hlt:=(bZy.1 hy).1;have hty:=zN (t:=tPt) hy;have e1:decide (((j+1:Nat):Int)>0)=true:=by simp<;>omega
   have e2:wr (((j+1:Nat):Int) - 1)=(j:Int):=by
    have :wr (((j+1:Nat):Int) - 1)=((j+1:Nat):Int) - 1:=wri (by omega) (by omega);rw[this];omega
   have e3:decide ((j:Int)<(a.length:Int))=true:=by simp;omega
   simp only[e1,e2,e3,dW,zZ,bZ4,hy,aA,bP8 (a:=x) (b:=y) (by omega) (by omega)];cases aEr x y<;>rfl) a.length (bZ7 _)]
  have hp:=bDj x a a.length;have s1:cC (0:Int) ((aC4 x a a.length:Nat):Int) (a.length:Int)=true:=by
   have :=aEb (a:=0) (b:=aC4 x a a.length) (n:=a.length);rw[show ((0:Nat):Int)=0 from rfl]at this;rw[this];simp;omega
  have s2:cC ((aC4 x a a.length:Nat):Int) (a.length:Int) (a.length:Int)=true:=by rw[aEb];simp;omega
  simp only[aA,s1,s2,zZ,jE,aW9 hp,aGy hsm];rw[aF (b:=24) (by decide) (by simp<;>omega),aF (b:=24) (by decide) (by simp<;>omega),aF (b:=24) (by decide) (by simp<;>omega)];simp only[zZ,cAl,aA];rfl) (λa=>by simp)]
 rfl
def aBt(l:lRv)(now:Int):lRv:=l.filter λx=>decide (now<=x.2.2)
theorem bH3{l:lRv}{now:Int}(h:l.length<=1073741824):gB l now=some (aBt l now):=by
 unfold gB aBt pj3;rw[lC (λk (a:lRv)=>((k:Int),a)) ((0:Int),[]) [] l (λ_ x a=>if decide (now<=x.2.2)=true then a++[x] else a) cAc (λ_=>1) 68719476736 id rfl (by omega) (by rw[fI];simp;omega) (λk x a=>by split<;>simp) (λk x a hi hx hd hw hk hb=>by
  simp only[hd,hi,hw,zZ,aA,aZ,aF (b:=24) (n:=a.length) (m:=1) (by decide) (by omega)];cases decide (now<=x.2.2)<;>simp) (λa=>by simp),aAz (λx:den tRv=>decide (now<=x.2.2))]
 simp
def aBp(l:lRv)(p:den tPt)(now:Int):Bool:= !((aBt l now).all λx=> !oQ p x)
theorem bE3(l:lRv)(now:Int):(aBt l now).length<=l.length:=cCk _ _
theorem bLp{l:lRv}{p:den tPt}{now:Int}(h:l.length<=1073741824)(hp:tot tPt p<=1073741824):tQ l p now=some (aBp l p now):=by
 have ha:=bE3 l now;unfold tQ aBp ixb pj3;rw[bH3 h,aA];rw[aW (l:=aBt l now) (λ_ x=>if !oQ p x then none else some true) (by omega) (λk x hi hd hw hm hk=>by
  have hy:(aBt l now)[k]? =some x:=by rw[<- aP];exact hi
  simp only[hd,hy,hw,zZ,aA,dW,bZ4,aZ,bIs hp];cases oQ p x<;>rfl) (by simp),pA (λx:den tRv=> !oQ p x)]
 cases (aBt l now).all (λx=> !oQ p x)<;>rfl
def aHc(l:lRv)(p:lPt)(now:Int):lPt:=(p.filter λx=> !aBp l x now)++p.filter λx=>aBp l x now
theorem bLq{l:lRv}{p:lPt}{now:Int}(h:l.length<=1073741824)(hp:tot (.sl tPt) p<=1073741824):jC l p now=some (aHc l p now):=by
 have hl:=fB (t:=tPt) p;unfold jC aHc;rw[lC (λk (a:lPt)=>((k:Int),a)) ((0:Int),[]) [] p (λ_ x a=>if (!aBp l x now)=true then a++[x] else a) cAc (λ_=>1) 68719476736 id rfl (by omega) (by rw[fI];simp;omega) (λk x a=>by split<;>simp) (λk x a hi hx hd hw hk hb=>by
  have ht:=zN (t:=tPt) hx;have hsm:SmB 68719476736 tPt x:=(bW (B:=1073741824) (t:=tPt) (by omega)).mono (by decide);simp only[hd,hi,hw,zZ,aA,bLp (l:=l) (p:=x) (now:=now) h (by omega),aGy hsm,aF (b:=24) (n:=a.length) (m:=1) (by decide) (by omega)];cases aBp l x now<;>simp) (λa=>by simp),aAz (λx:den tPt=> !aBp l x now)]
 have e:(p.filter λx=> !aBp l x now).length<=p.length:=cCk _ _;simp only[id,aA,cAl];rw[lC (λk (a:lPt)=>((k:Int),a)) ((0:Int),p.filter λx=> !aBp l x now) (p.filter λx=> !aBp l x now) p (λ_ x a=>if aBp l x now=true then a++[x] else a) cAc (λ_=>1) 68719476736 id rfl (by omega) (by rw[fI];omega) (λk x a=>by split<;>simp) (λk x a hi hx hd hw hk hb=>by
  have ht:=zN (t:=tPt) hx;have hsm:SmB 68719476736 tPt x:=(bW (B:=1073741824) (t:=tPt) (by omega)).mono (by decide);simp only[hd,hi,hw,zZ,aA,bLp (l:=l) (p:=x) (now:=now) h (by omega),aGy hsm,aF (b:=24) (n:=a.length) (m:=1) (by decide) (by omega)];cases aBp l x now<;>simp) (λa=>by simp),aAz (λx:den tPt=>aBp l x now)]
 rfl
def aLx(f:den tFl)(p:lPt)(now:Int):lPt:=(aHc f.2.2.2.2.2.2.2.2 (aE9 p) now).take (min (aHc f.2.2.2.2.2.2.2.2 (aE9 p) now).length 24)
theorem bTh(n:Nat):(if (24:Int)<(n:Int) then (24:Int) else (n:Int))=((min n 24:Nat):Int):=by
 by_cases c:24<n
 .rw[zT (by omega),Nat.min_eq_right (by omega)];rfl
 .rw[zS (by omega),Nat.min_eq_left (by omega)]
theorem bNt(n:Nat):cC (0:Int) ((min n 24:Nat):Int) (n:Int)=true:=by
 have :=aEb (a:=0) (b:=min n 24) (n:=n);rw[show ((0:Nat):Int)=0 from rfl]at this;rw[this];simp;omega
theorem bWj{f:den tFl}{p:lPt}{now:Int}(h:tot tFl f<=1073741824)(hp:tot (.sl tPt) p<=1073741824):sY f p now=some (f.1,f.2.1,f.2.2.1,f.2.2.2.1,aLx f p now,0,0,f.2.2.2.2.1,f.2.2.2.2.2.2.2.2):=by
 have hf:SmB 68719476736 tFl f:=(bW h).mono (by decide);have hv:f.2.2.2.2.2.2.2.2.length<=1073741824:=bZv (fB (t:=tRv) _) (bD (bD (bD (bD (bD (bD (bD (bD h))))))));have hs:=bKu p;unfold sY aLx pj9 zz6 zz8;simp only[aZ,aTq hf,bR5 hp,bLq (l:=f.2.2.2.2.2.2.2.2) (p:=aE9 p) (now:=now) hv (by omega),bQv,aA,bTh,bNt,zZ,jE];rfl
theorem bTy{l:lRs}(h:l.length<=1073741824):eR l=some l:=by
 unfold eR;rw[aF (by decide) (by simp;omega)];simp
theorem bSl{g:den tSc}(h1:g.2.1.length<=1073741824)(h2:g.2.2.length<=1073741824):fC g=some g:=by
 unfold fC;rw[bTy h1,aA,aF (by decide) (by simp;omega)];simp
def dC(l:lUs)(id s d:Int):Int:=if place l id s d<0 then 0 else ((l[(place l id s d).toNat]?).map (·.2.2.2)).getD 0
theorem bUt{g:den tSc}{id s d:Int}(h:g.2.2.length<=1073741824):rN g id s d=some (dC g.2.2 id s d):=by
 unfold rN dC pj3;rw[show ((g.1,g.2.1,g.2.2):den tSc)=g from rfl,aSa h,aA];rcases bAo g.2.2 id s d with hp | ⟨j,x,hp,hx,hj⟩
 .rw[hp];rfl
 .rw[hp,zX (by omega),zZ,aP,hx,zS (by omega)];simp[hx]
def rF(l:lUs)(id s d:Int):lUs:=
 if place l id s d<0 then l++[(id,s,d,1)] else match l[(place l id s d).toNat]? with
  | some x=>l.set (place l id s d).toNat (x.1,x.2.1,x.2.2.1,wr (x.2.2.2+1))
  | none=>l
theorem aVj(l:lUs)(id s d:Int):(rF l id s d).length<=l.length+1:=by
 unfold rF;split
 .simp
 .split<;>simp
def pQ(g:den tSc)(id s d now:Int):q28:=
 if dC g.2.2 id s d<pI g id s d now then (g.1,true,g.2.1,rF g.2.2 id s d)
 else if dC g.2.2 0 s d<pI g 0 s d now then (g.1,true,g.2.1,rF g.2.2 0 s d)
 else (g.1,false,g.2.1,g.2.2)
theorem bSq{g:den tSc}{id s d now:Int}(h1:g.2.1.length<=1073741824)(h2:g.2.2.length<=1073741824):uF g id s d now=some (pQ g id s d now):=by
 unfold uF ixb pj2 pj3;rw[show ((g.1,g.2.1,g.2.2):den tSc)=g from rfl,bSl h1 h2,aA];rw[aW (l:=[id,0]) (λ_ n=>if dC g.2.2 n s d<pI g n s d now then some (g.1,true,g.2.1,rF g.2.2 n s d) else none) (by simp) (λk n hi hd hw hx hk=>by
  rw[aP]at hi;have hd0:decide ((0:Int)<=(k:Int))=true:=by simp
  simp only[hd,hd0,hi,hw,zZ,aA,bZ4,bUt h2,bCj h1,aSa h2]
  by_cases hu:dC g.2.2 n s d<pI g n s d now
  .rw[zW (by omega),zY,zT hu];unfold rF;rcases bAo g.2.2 n s d with hp | ⟨j,x,hp,hx,hj⟩
   .rw[hp,aF (b:=32) (by decide) (by omega)];rfl
   .have hd1:decide ((j:Int)<(g.2.2.length:Int))=true:=by simpa using hj
    have hd2:decide ((j:Int)>=0)=true:=by simp
    have hd3:decide ((0:Int)<=(j:Int))=true:=by simp
    rw[hp,zS (by omega)];simp only[hd1,hd2,hd3,zZ,bZ4,hx,aA]
  .rw[zX (by omega),zZ,zS hu]) (by simp)]
 unfold pQ;simp only[bN]
 by_cases hu:dC g.2.2 id s d<pI g id s d now
 .simp[hu]
 .by_cases hv:dC g.2.2 0 s d<pI g 0 s d now<;>simp[hu,hv]
def qV(t:den tTo)(r d:Int):Int:=
 match bN (λk x=>if cU x r d then some (k:Int) else none) 0 t.2 with
 | some i=>i
 | none=> -1
theorem aCb(t:den tTo)(r d:Int):qV t r d= -1\/ ∃(j:Nat) (x:den tLk),qV t r d=(j:Int)/\t.2[j]? =some x/\cU x r d=true:=by
 unfold qV;cases h:bN (λk x=>if cU x r d then some (k:Int) else none) 0 t.2 with
 | none=>exact .inl rfl
 | some i=>
  obtain⟨j,x,h1,h2,h3⟩:=aHw h;exact .inr ⟨j,x,by simpa using h2,h1,h3⟩
theorem aNu{t:den tTo}{r d:Int}(h:t.2.length<=68719476736):kM t r d=some (qV t r d):=by
 unfold kM pj5;rw[aW (l:=t.2) (λk x=>if cU x r d then some (k:Int) else none) (by omega) (λk x hi hd hw hx hk=>by
  simp only[hd,hi,hw,zZ,aA,bB1];cases cU x r d<;>rfl) (by simp)]
 unfold qV;cases bN (λk x=>if cU x r d then some (k:Int) else none) 0 t.2<;>rfl
theorem aW4{t:den tTo}{r d:Int}(h:t.2.length<=68719476736):mZ t r d=some (qV t r d):=by
 unfold mZ pj5;rw[aW (l:=t.2) (λk x=>if cU x r d then some (k:Int) else none) (by omega) (λk x hi hd hw hx hk=>by
  simp only[hd,hi,hw,zZ,aA,bB5];cases cU x r d<;>rfl) (by simp)]
 unfold qV;cases bN (λk x=>if cU x r d then some (k:Int) else none) 0 t.2<;>rfl
def bEh(x:den tLk)(r d:Int):q21:=cond (x.1==r&&x.2.1==d) (x.2.2.1,x.2.2.2.1) (x.1,x.2.1)
def remote(t:den tTo)(r d:Int):q21:=if qV t r d<0 then (-1,0) else bEh ((t.2[(qV t r d).toNat]?).getD (0,0,0,0,0)) r d
theorem aOl{t:den tTo}{r d:Int}(h:t.2.length<=68719476736):kH t r d=some (remote t r d):=by
 unfold kH remote pj2;simp only[aZ,aNu h,aA];rcases aCb t r d with e | ⟨j,x,e,hx,he⟩
 .rw[e];rfl
 .rw[e,zW (by omega),zY,zS (by omega),aP,hx,bZ4,hx,aA,cA3];unfold bEh;cases x.1==r<;>cases x.2.1==d<;>rfl
theorem aOj{t:den tTo}{r d:Int}(h:t.2.length<=68719476736):kL t r d=some (remote t r d):=by
 unfold kL remote pj2;simp only[aZ,aW4 h,aA];rcases aCb t r d with e | ⟨j,x,e,hx,he⟩
 .rw[e];rfl
 .rw[e,zW (by omega),zY,zS (by omega),aP,hx,bZ4,hx,aA,cA3];unfold bEh;cases x.1==r<;>cases x.2.1==d<;>rfl
def bFy(x:den tLk)(r d:Int):Int:=cond (x.2.2.2.2==1) 1 (cond (x.2.2.2.2==3) 4 (cond (x.2.2.2.2==2) (cond (x.1==r&&x.2.1==d) 2 3) 0))
def aB8(t:den tTo)(r d:Int):Int:=cond (d==0) 5 (if qV t r d<0 then 0 else bFy ((t.2[(qV t r d).toNat]?).getD (0,0,0,0,0)) r d)
theorem bT5{t:den tTo}{r d:Int}(h:t.2.length<=68719476736):jI t r d=some (aB8 t r d):=by
 unfold jI aB8 pj2 zz4;simp only[aZ,aNu h,aA];cases d==0
 .rcases aCb t r d with e | ⟨j,x,e,hx,he⟩
  .rw[e];rfl
  .rw[e,zW (by omega),zY,zY,zY,zS (by omega),aP,hx,bZ4,hx,aA,cA3];unfold bFy;rw[show (x.2.2.2.2 != 2)= !(x.2.2.2.2==2) from rfl];cases x.2.2.2.2==1<;>cases x.2.2.2.2==3<;>cases x.2.2.2.2==2<;>cases x.1==r<;>cases x.2.1==d<;>rfl
 .rfl
theorem bBy{t:den tTo}{r d:Int}(h:t.2.length<=68719476736):gT t r d=some (aB8 t r d):=by
 unfold gT aB8 pj2 zz4;simp only[aZ,aW4 h,aA];cases d==0
 .rcases aCb t r d with e | ⟨j,x,e,hx,he⟩
  .rw[e];rfl
  .rw[e,zW (by omega),zY,zY,zY,zS (by omega),aP,hx,bZ4,hx,aA,cA3];unfold bFy;cases x.2.2.2.2==1<;>cases x.2.2.2.2==3<;>cases x.2.2.2.2==2<;>cases x.1==r<;>cases x.2.1==d<;>rfl
 .rfl
def aMe(a b:Int):Bool:=cond (a==5||a==2) (b==2||b==5||(b==1||b==3)) (cond (a==3) (b==2||b==5) (cond (a==1) (b==2||b==5||b==1) false))
theorem bKl(a b:Int):kA a b=some (aMe a b):=by
 unfold kA aMe;cases c5:a==5<;>cases c2:a==2<;>cases a==3<;>cases a==1<;>cases b==2<;>cases b==5<;>cases b==1<;>cases b==3<;>first | rfl | (simp at c5 c2;omega)
def aV3(t:den tTo)(s:den lJ):Bool:=aMe (aB8 t s.1 s.2.1) (aB8 t s.1 s.2.2)&&(!(s.2.1==s.2.2)||s.2.1==0)
theorem bUk{t:den tTo}{s:den lJ}(h:t.2.length<=68719476736):oG t s=some (aV3 t s):=by
 unfold oG aV3 pj2;simp only[aZ,bT5 h,bKl,aA];rw[show (s.2.1 != s.2.2)= !(s.2.1==s.2.2) from rfl];cases aMe (aB8 t s.1 s.2.1) (aB8 t s.1 s.2.2)<;>cases s.2.1==s.2.2<;>cases s.2.1==0<;>rfl
def aBy(s i:Int):Bool:=inR s 0 65535&&(inR i 0 15&&(aGp .i64 (shr .i64 s i) 1==1))
theorem aVh{i:Int}(h:inR i 0 15=true):IntKind.wrap .u64 i=i:=by
 obtain⟨h0,h1⟩:=aS.1 h;have :=bAg (n:=i.toNat) (by omega)
 rwa [cB9 h0]at this
theorem bT9(s i:Int):tF s i=some (aBy s i):=by
 unfold tF aBy pK;simp only[jX,aA];cases inR s 0 65535
 .rfl
 .cases c:inR i 0 15
  .rfl
  .rw[aVh c,zW (by have :=aS.1 c;omega)];rfl
def bEk(s i:Int):Int:=cond (inR s 0 65535&&inR i 0 15) (bOr .i64 s (shl .i64 1 i)) s
theorem bWn(s i:Int):pW s i=some (bEk s i):=by
 unfold pW bEk pK;simp only[jX,aA];cases inR s 0 65535
 .rfl
 .cases c:inR i 0 15
  .rfl
  .rw[aVh c,zW (by have :=aS.1 c;omega)];rfl
theorem aW0{α:Type}(p:α->Bool)(N:Int):∀(l:List α) (k:Nat),N=((k+l.length:Nat):Int)->aIe (λk x (_:Unit)=>if p x then .inl () else .inr (k:Int)) (λ_=>N) k l ()=((k+l.findIdx (λx=> !p x):Nat):Int)
 | [],k,h=>by simpa [aIe] using h
 | x::xs,k,h=>by
  simp only[aIe,List.findIdx_cons];cases hp:p x with
  | true=>
   have :=aW0 p N xs (k+1) (by rw[h];simp;omega);simp only[zV,this,bZ5,zY];omega
  | false=>simp
def jU(l:List Int)(n:Int):Nat:=l.findIdx λx=> !decide (x<n)
theorem aTb(l:List Int)(n:Int):jU l n<=l.length:=List.findIdx_le_length
theorem aTs{l:List Int}{n:Int}{step:Int->Option (Int⊕Int)}(hl:l.length<=68719476736)
  (h:∀(k:Nat) (x:Int),idx l (k:Int)=some x->l[k]? =some x->decide ((k:Int)<(l.length:Int))=true->IntKind.i64.wrap ((k:Int)+1)=((k+1:Nat):Int)->step (k:Int)=some (if decide (x<n) then .inl ((k+1:Nat):Int) else .inr (k:Int)))
  (he:step (l.length:Int)=some (.inr (l.length:Int))):aC step (0:Int)=some (jU l n:Int):=by
 rw[aLu (λk (_:Unit)=>(k:Int)) (0:Int) () l (λk x _=>if decide (x<n) then .inl () else .inr (k:Int)) (λ_ _=>True) (λ_=>(l.length:Int)) rfl (by omega) trivial (λk x a hi hx hd hw hk _=>by
  refine⟨?_,λ_ _=>trivial⟩;rw[h k x hi hx hd hw];cases decide (x<n)<;>rfl) (λ_ _=>he)]
 rw[aW0 (λx=>decide (x<n)) (l.length:Int) l 0 (by simp)];simp[jU]
def oI(l:List Int)(n:Int):List Int:=if l[jU l n]? =some n then l else l.take (jU l n)++[n]++l.drop (jU l n)
theorem aD8(l:List Int)(n:Int):(oI l n).length<=l.length+1:=by
 unfold oI;split
 .omega
 .simp;omega
theorem aG2{k n:Nat}(h:k<=n):cC (0:Int) (k:Int) (n:Int)=true:=by
 simp only[cC,bZu,zR];omega
theorem aCl{k n:Nat}(h:k<=n):cC (k:Int) (n:Int) (n:Int)=true:=by
 simp only[cC,bZu,zR];omega
theorem aEt{α:Type}{l:List α}{k:Nat}:cut l (k:Int) (l.length:Int)=l.drop k:=by
 unfold cut;rw[bZ4];apply List.take_of_length_le;simp
theorem bC9{l:List Int}(h:l.length<=68719476736):pE l=some l:=by
 unfold pE;rw[aF (n:=([]:List Int).length) (by decide) (by simpa using h)];rfl
theorem aRn{l:List Int}{n:Int}{b:Bool}(hb:(l[jU l n]? =some n)=(b=true)):oI l n=cond b l (l.take (jU l n)++[n]++l.drop (jU l n)):=by
 unfold oI;cases b with
 | true=>rw[zT (by rw[hb])];rfl
 | false=>rw[zS (by rw[hb];simp)];rfl
theorem aKo{l:List Int}{n:Int}(h:l.length<=4294967296):mB l n=some (oI l n):=by
 have hp:=aTb l n;unfold mB;rw[aTs (l:=l) (n:=n) (by omega) (λk x hi hx hd hw=>by
  simp only[hd,zZ,hi,aA,hw];cases decide (x<n)<;>rfl) (by simp)]
 simp only[aA,aG2 hp,aCl hp,jE,aEt,zZ,bU,dH,cL,cK,cS,bC9 (l:=l.take (jU l n)) (by simp;omega)];rw[aF (b:=8) (n:=(l.take (jU l n)).length) (m:=1) (by decide) (by simp;omega),aF (b:=8) (m:=(l.drop (jU l n)).length) (by decide) (by simp;omega)]
 by_cases hlt:jU l n<l.length
 .have hx:l[jU l n]? =some l[jU l n]:=bZw hlt;rw[zX (by omega),zZ,aP,hx,aA,aA];rw[aRn (b:=l[jU l n]==n) (by rw[hx];simp)];cases l[jU l n]==n<;>rfl
 .rw[zW (by omega),zY,aA];rw[aRn (b:=false) (by rw[List.getElem?_eq_none (by omega)];simp)];rfl
theorem aQ6{l:List Int}{n:Int}(h:l.length<=4294967296):tJ l n=some (oI l n):=by
 have hp:=aTb l n;unfold tJ ixb;rw[aTs (l:=l) (n:=n) (by omega) (λk x hi hx hd hw=>by
  simp only[hd,zZ,dW,bZ4,hx,aA,hw];cases decide (x<n)<;>rfl) (by simp)]
 simp only[aA,aG2 hp,aCl hp,jE,aEt,zZ,bU,dH,cL,cK,cS,cAl,cBm];rw[aF (b:=8) (n:=0) (m:=(l.take (jU l n)).length) (by decide) (by simp;omega),aF (b:=8) (n:=(l.take (jU l n)).length) (m:=1) (by decide) (by simp;omega),aF (b:=8) (m:=(l.drop (jU l n)).length) (by decide) (by simp;omega)]
 by_cases hlt:jU l n<l.length
 .have hx:l[jU l n]? =some l[jU l n]:=bZw hlt;rw[zX (by omega),zZ,dW,zZ,zZ,bZ4,hx,aA,aA];rw[aRn (b:=l[jU l n]==n) (by rw[hx];simp)];cases l[jU l n]==n<;>rfl
 .rw[zW (by omega),zY,aA];rw[aRn (b:=false) (by rw[List.getElem?_eq_none (by omega)];simp)];rfl
def nC(r:Int)(x:den tLk)(a:List Int):List Int:=cond (x.2.2.1==r) (oI (cond (x.1==r) (oI a x.2.1) a) x.2.2.2.1) (cond (x.1==r) (oI a x.2.1) a)
theorem aJ5(r:Int)(x:den tLk)(a:List Int):(nC r x a).length<=a.length+2:=by
 unfold nC;have h1:=aD8 a x.2.1;have h2:=aD8 (oI a x.2.1) x.2.2.2.1;have h3:=aD8 a x.2.2.2.1;cases x.1==r<;>cases x.2.2.1==r<;>simp only[zZ,zY]<;>omega
def gF(t:den tTo)(r:Int):List Int:=bI (λ_ x a=>nC r x a) 0 t.2 []
theorem aFe(t:den tTo)(r:Int):(gF t r).length<=2 * t.2.length:=by
 have h:=aAf (f:=λ_ x (a:List Int)=>nC r x a) (m:=cAc) (cost:=λ_=>2) (λk x a=>aJ5 r x a) t.2 0 [];rw[aD1]at h;simpa [gF] using h
theorem bSf{t:den tTo}{r:Int}(h:t.2.length<=1073741824):qA t r=some (gF t r):=by
 unfold qA;rw[(sR (λk (a:List Int)=>(a,(k:Int))) ([],(0:Int)) [] t.2 (λ_ x a=>nC r x a) cAc (λ_=>2) 4294967296 id rfl (by omega) (by rw[aD1];simp;omega) (λk x a hi hx hd hw hk hb=>by
  refine⟨?_,aJ5 r x a⟩;have h1:=aD8 a x.2.1;simp only[hd,hi,hw,zZ,aA,aKo (l:=a) (by omega),aKo (l:=oI a x.2.1) (by omega)];unfold nC;cases x.1==r<;>cases x.2.2.1==r<;>simp only[zZ,zY,aA,aKo (l:=a) (by omega),aKo (l:=oI a x.2.1) (by omega)]) (λa=>by simp)).1]
 rfl
theorem aR6{t:den tTo}{r:Int}(h:t.2.length<=1073741824):jY t r=some (gF t r):=by
 unfold jY;rw[(sR (λk (a:List Int)=>((k:Int),a)) ((0:Int),[]) [] t.2 (λ_ x a=>nC r x a) cAc (λ_=>2) 4294967296 id rfl (by omega) (by rw[aD1];simp;omega) (λk x a hi hx hd hw hk hb=>by
  refine⟨?_,aJ5 r x a⟩;have h1:=aD8 a x.2.1;simp only[hd,hi,hw,zZ,aA,aQ6 (l:=a) (by omega),aQ6 (l:=oI a x.2.1) (by omega)];unfold nC;cases x.1==r<;>cases x.2.2.1==r<;>simp only[zZ,zY,aA,aQ6 (l:=a) (by omega),aQ6 (l:=oI a x.2.1) (by omega)]) (λa=>by simp)).1]
 rfl
theorem aOc{α:Type}(l:List α):(l.map λ_=>0).sum=0:=by
 induction l with
 | nil=>rfl
 | cons x l ih=>rw[cAd,cBc,ih]
def eG(t:den tTo)(dead:List Int)(r:Int):Int:=bI (λ_ x a=>cond (qQ dead (qV t r x)) (bEk a x) a) 0 (gF t r) 0
theorem aR5{t:den tTo}{dead:List Int}{r:Int}(h:t.2.length<=1073741824)(hd:dead.length<=68719476736):cQ t dead r=some (eG t dead r):=by
 have hl:=aFe t r;unfold cQ pj2;simp only[aZ,bSf h,aA];rw[lC (λk (a:Int)=>(a,(k:Int))) ((0:Int),(0:Int)) 0 (gF t r) (λ_ x a=>cond (qQ dead (qV t r x)) (bEk a x) a) (λ_=>0) (λ_=>0) 0 id rfl (by omega) (by rw[aOc];exact bZ7 _) (λ_ _ _=>bZ7 _) (λk x a hi hx hd' hw hk hb=>by
  simp only[hd',hi,hw,zZ,aA,aNu (t:=t) (r:=r) (d:=x) (by omega),aLc hd,bWn];cases qQ dead (qV t r x)<;>rfl) (λa=>by simp)]
 rfl
def aGn(key ts beta:Int)(h:den bG):Int:=aCo (([key]++[ts,beta,h.1,h.2.1,h.2.2.1,h.2.2.2.1])++[key])
theorem bVc(key ts beta:Int)(h:den bG):xQ key ts beta h=some (aGn key ts beta h):=by
 unfold xQ rY aGn;rw[aF (b:=8) (n:=[key].length) (by decide) (by simp),aF (b:=8) (by decide) (by simp),bP1 (by simp)];rfl
theorem bLh(key ts beta:Int)(h:den bG):uT key ts beta h=some (aGn key ts beta h):=by
 unfold uT sH aGn;rw[aF (b:=8) (n:=[key].length) (by decide) (by simp),aF (b:=8) (by decide) (by simp),aXh (by simp)];rfl
def h0:den bG:=(0,0,0,0,0)
def bHd(t:den tTo)(r:Int):Int:=((t.1[r.toNat]?).getD (0,false,0)).2.2
def zK(t:den tTo)(ts beta:Int)(h:den bG):Bool:=lZ h&&(cH t h.1&&(h.2.2.2.2==aGn (bHd t h.1) ts beta h))
theorem bKm{t:den tTo}{ts beta:Int}{h:den bG}(ht:t.1.length<=68719476736):mY t ts beta h=some (zK t ts beta h):=by
 unfold mY zK pj2 pj5 zz4;simp only[aZ,aNv,aGw ht,aA,bVc];cases lZ h
 .rfl
 .cases c:cH t h.1
  .rfl
  .obtain⟨x,hx,ix⟩:=aDd c;rw[ix,bHd,hx];rfl
theorem bJj{t:den tTo}{ts beta:Int}{h:den bG}(ht:t.1.length<=68719476736):kJ t ts beta h=some (zK t ts beta h):=by
 unfold kJ zK pj2 pj5 zz4;simp only[aZ,aOg,aEs ht,aA,bLh];cases lZ h
 .rfl
 .cases c:cH t h.1
  .rfl
  .obtain⟨x,hx,ix⟩:=aDd c;rw[ix,bHd,hx];rfl
def aA7(t:den tTo)(l:cR)(k:Nat)(x:den bG):Bool:=lZ x&&(cH t x.1&&(l.take k).all λy=> !(y.1==x.1))
def aHj(t:den tTo)(l:cR):Bool:=(l.zipIdx 0).all λz=>aA7 t l z.2 z.1
theorem bSb{t:den tTo}{l:cR}(ht:t.1.length<=68719476736)(hl:l.length<=68719476736):xM t l=some (inR (l.length:Int) 1 8&&aHj t l):=by
 unfold xM aHj pj2 pj5;rw[aW (l:=l) (λk x=>if aA7 t l k x then none else some false) (by omega) (λk x hi hd hw hm hk=>by
  simp only[hd,hi,zZ,aA,aZ,aNv,aGw ht,vV hk,jE,hw];rw[aW (l:=l.take k) (λ_ y=>if !(y.1==x.1) then none else some (bZs (bZs false))) (by rw[uN hk];omega) (λj y hi hd hw hm hk=>by
   simp only[hd,hi,hw,zZ,aA];cases y.1==x.1<;>rfl) (by simp),pA (λy:den bG=> !(y.1==x.1))]
  unfold aA7;cases lZ x<;>cases cH t x.1<;>cases (l.take k).all (λy=> !(y.1==x.1))<;>rfl) (by simp),aAu (aA7 t l)]
 rw[jX,aA];cases inR (l.length:Int) 1 8<;>cases (l.zipIdx 0).all (λz=>aA7 t l z.2 z.1)<;>rfl
def aGt(t:den tTo)(p:den tPp)(x y:den bG):Bool:= !(pEg p x==0)&&((remote t x.1 (pEg p x)).1==y.1&&(remote t x.1 (pEg p x)).2==pIn p y)
def wA(t:den tTo)(p:den tPp)(k:Nat)(y:den bG):Bool:=decide (k=0)||aGt t p ((p.2.2.2[k - 1]?).getD h0) y
def fA(t:den tTo)(p:den tPp):Bool:=
 inR (p.2.2.2.length:Int) 1 8&&(inR p.1 1 4&&(inR p.2.1 0 1000000&&(mV p.2.2.1&&(aHj t p.2.2.2&&(p.2.2.2.zipIdx 0).all λz=>wA t p z.2 z.1))))
theorem bMm(t:den tTo)(p:den tPp):((p.2.2.2.drop 1).zipIdx 0).all (λz=>aGt t p ((p.2.2.2[z.2]?).getD h0) z.1)=(p.2.2.2.zipIdx 0).all (λz=>wA t p z.2 z.1):=by
 rw[cAv,wX (λk x=>aGt t p ((p.2.2.2[k]?).getD h0) x),wX (wA t p)];constructor
 .intro h k x hx;cases k with
  | zero=>rfl
  | succ k=>
   have :=h k x (by rw[cBj,Nat.add_comm];exact hx);simpa [wA] using this
 .intro h k x hx;rw[cBj,Nat.add_comm]at hx;have :=h (k+1) x hx;simpa [wA] using this
theorem aEk(a b:Int):(a != b)= !(a==b):=rfl
theorem bLm{t:den tTo}{p:den tPp}(ht:t.1.length<=68719476736)(ht2:t.2.length<=68719476736)(hl:p.2.2.2.length<=68719476736):rP t p=some (fA t p):=by
 unfold rP fA pj2 pj4;rw[aW (l:=p.2.2.2.drop 1) (λk y=>if aGt t p ((p.2.2.2[k]?).getD h0) y then none else some false) (by rw[cB1];omega) (λk y hi hd hw hm hk=>by
  have hy:p.2.2.2[k+1]? =some y:=by rw[aP,cBj,Nat.add_comm]at hi;exact hi
  have hlt:k+1<p.2.2.2.length:=(bZy.1 hy).1;obtain⟨x,hx⟩:∃x,p.2.2.2[k]? =some x:=⟨_,bZw (by omega)⟩
  have hd':decide ((k:Int)<wr ((p.2.2.2.length:Int) - 1))=true:=by rw[wR hl];simp;omega
  have hy':idx p.2.2.2 ((k+1:Nat):Int)=some y:=by rw[aP];exact hy
  simp only[hd',zZ,aZ,bHb hx hl,aA,aP,hx,hw,hy,bGj hy hl,aOl ht2,cA3,aEk];unfold aGt;cases pEg p x==0<;>cases (remote t x.1 (pEg p x)).1==y.1<;>cases (remote t x.1 (pEg p x)).2==pIn p y<;>rfl) (by
   rw[cB1,wR hl,zW (by omega)];rfl),aAu (λk y=>aGt t p ((p.2.2.2[k]?).getD h0) y),bMm]
 simp only[aZ,jX,bSb ht hl,aD2,aA];cases inR (p.2.2.2.length:Int) 1 8<;>cases inR p.1 1 4<;>cases inR p.2.1 0 1000000<;>cases mV p.2.2.1<;>cases aHj t p.2.2.2<;>cases (p.2.2.2.zipIdx 0).all (λz=>wA t p z.2 z.1)<;>rfl
theorem aBg{α S:Type}(p:Nat->α->Bool)(o r:S):∀(l:List α) (k:Nat),aIe (λk x (_:Unit)=>if p k x then .inl () else .inr r) (λ_=>o) k l ()=if (l.zipIdx k).all (λz=>p z.2 z.1) then o else r
 | [],_=>rfl
 | x::xs,k=>by
  simp only[aIe,List.zipIdx_cons,cCa];rcases cCv (p k x) with h | h
  .simp only[h,zV,cAf];exact aBg p o r xs (k+1)
  .simp[h]
theorem bPt{p:den tPp}(hl:p.2.2.2.length<=68719476736):rI p=some (p.2.2.2.map (·.1)):=by
 unfold rI;rw[(sR (λk (a:List Int)=>((k:Int),a)) ((0:Int),[]) [] p.2.2.2 (λ_ x a=>a++[x.1]) cAc (λ_=>1) 68719476736 id rfl (by omega) (by rw[fI];simpa using hl) (λk x a hi hx hd hw hk hb=>by
  simp only[hd,hi,hw,zZ,aA,aF (b:=8) (by decide) hb];simp) (λa=>by simp)).1,gD (λx:den bG=>x.1)]
 simp
theorem bNu(l:cR)(k:Nat)(n:Int):qQ ((l.map (·.1)).take k) n= !((l.take k).all λy=> !(y.1==n)):=by
 unfold qQ;rw[<- List.map_take,List.all_map];rfl
theorem bKq{t:den tTo}{p:den tPp}(ht:t.1.length<=68719476736)(ht2:t.2.length<=68719476736)(hl:p.2.2.2.length<=68719476736):rJ t p=some (fA t p):=by
 unfold rJ fA pj2 pj4 pj5;simp only[aZ,bPt hl,aA];have hR:(p.2.2.2.map (·.1)).length=p.2.2.2.length:=by simp
 rw[aLu (λk (_:Unit)=>(p.2.2.2.map (·.1),(k:Int))) (p.2.2.2.map (·.1),(0:Int)) () p.2.2.2 (λk x _=>if (aA7 t p.2.2.2 k x&&wA t p k x) then .inl () else .inr (.inr false)) (λ_ _=>True) (λ_=> .inl ()) rfl (by omega) trivial (λk x a hi hx hd hw hk _=>by
  refine⟨?_,λ_ _=>trivial⟩;have hr:(p.2.2.2.map (·.1))[k]? =some x.1:=by rw[cBq,hx];rfl
  have hs:cC (0:Int) (k:Int) ((p.2.2.2.map (·.1)).length:Int)=true:=by rw[hR];exact vV hk
  have hh:jQ ((p.2.2.2.map (·.1)).take k) x.1=some (!((p.2.2.2.take k).all λy=> !(y.1==x.1))):=by
   rw[aKm (by simp;omega),bNu]
  simp only[hd,zZ,hi,aP,hr,aA,aOg,aEs ht,hs,jE,hh,hw];cases k with
  | zero=>
   rw[show decide (((0:Nat):Int)>0)=false from by decide];unfold aA7 wA;cases lZ x<;>cases cH t x.1<;>cases (p.2.2.2.take 0).all (λy=> !(y.1==x.1))<;>rfl
  | succ j=>
   have hw1:wr (((j+1:Nat):Int) - 1)=(j:Int):=(wri (by omega) (by omega)).trans (by omega);obtain⟨y,hy⟩:∃y,p.2.2.2[j]? =some y:=⟨_,bZw (by omega)⟩
   have hr1:(p.2.2.2.map (·.1))[j]? =some y.1:=by rw[cBq,hy];rfl
   rw[show decide (((j+1:Nat):Int)>0)=true from by simp];simp only[hw1,aP,hr1,aA,bRo hy hl,bRe hx hl,aOj ht2,zZ,aEk];unfold aA7 wA aGt;rw[cC5,hy,cA3];cases lZ x<;>cases cH t x.1<;>cases (p.2.2.2.take (j+1)).all (λy=> !(y.1==x.1))<;>cases pEg p y==0<;>cases (remote t y.1 (pEg p y)).1==x.1<;>cases (remote t y.1 (pEg p y)).2==pIn p x<;>rfl) (λa _=>by simp)]
 rw[aBg (λk x=>aA7 t p.2.2.2 k x&&wA t p k x)];have hsplit:(p.2.2.2.zipIdx 0).all (λz=>aA7 t p.2.2.2 z.2 z.1&&wA t p z.2 z.1)=(aHj t p.2.2.2&&(p.2.2.2.zipIdx 0).all λz=>wA t p z.2 z.1):=by
  unfold aHj;rw[cAv];simp only[cAi,bZu];exact⟨λh=>⟨λz hz=>(h z hz).1,λz hz=>(h z hz).2⟩,λh z hz=>⟨h.1 z hz,h.2 z hz⟩⟩
 rw[hsplit];simp only[sG,aG6,aA];cases inR (p.2.2.2.length:Int) 1 8<;>cases inR p.1 1 4<;>cases inR p.2.1 0 1000000<;>cases mV p.2.2.1<;>cases aHj t p.2.2.2<;>cases (p.2.2.2.zipIdx 0).all (λz=>wA t p z.2 z.1)<;>rfl
def yR(k:Int):Int:=cond (k==1) 1 (cond (k==2||k==3) 2 3)
theorem bPm(k:Int):tP k=some (yR k):=by
 unfold tP yR;cases k==1<;>cases k==2<;>cases k==3<;>rfl
theorem bPr(k:Int):tB k=some (yR k):=by
 unfold tB yR;cases k==1<;>cases k==2<;>cases k==3<;>rfl
def pt0:den tPp:=(0,0,0,[])
def xZ(y:den tPp):den bG:=(y.2.2.2[y.2.2.2.length - 1]?).getD h0
def aA0(y:den tPp):den bG:=(y.2.2.2[0]?).getD h0
def aHs(y x:den tPp):Bool:= !decide (yR y.1>=yR x.1)&&(xZ y).1==(aA0 x).1
def sW(t:den tTo)(p:den tPt)(k:Nat)(x:den tPp):Bool:=fA t x&&(decide (k=0)||aHs ((p[k - 1]?).getD pt0) x)
def wfP(t:den tTo)(p:den tPt):Bool:=inR (p.length:Int) 1 3&&(p.zipIdx 0).all λz=>sW t p z.2 z.1
theorem wT{t:den tTo}{p:den tPp}(h:fA t p=true):0<p.2.2.2.length:=by
 unfold fA at h;rw[bZu]at h;have :=aS.1 h.1;omega
theorem aW7{y:den tPp}(h:0<y.2.2.2.length)(hl:y.2.2.2.length<=68719476736):idx y.2.2.2 (wr ((y.2.2.2.length:Int) - 1))=some (xZ y):=by
 rw[aZw hl h,aP];unfold xZ;rw[bZw (show y.2.2.2.length - 1<y.2.2.2.length by omega)];rfl
theorem aYl{y:den tPp}(h:0<y.2.2.2.length):idx y.2.2.2 (0:Int)=some (aA0 y):=by
 have :idx y.2.2.2 ((0:Nat):Int)=y.2.2.2[0]? :=aP;rw[show (0:Int)=((0:Nat):Int) from rfl,this];unfold aA0;rw[bZw h];rfl
theorem bYe{t:den tTo}{p:den tPt}(ht:t.1.length<=68719476736)(ht2:t.2.length<=68719476736)(h:SmB 68719476736 tPt p):jT t p=some (wfP t p):=by
 have lp:=h.1;have lh:∀(k:Nat) (x:den tPp),p[k]? =some x->x.2.2.2.length<=68719476736:=λk x hx=>(h.2 x (bZ9 hx)).2.2.2.1
 unfold jT wfP pj2 pj4;rw[aLu (λk (_:Unit)=>(k:Int)) (0:Int) () p (λk x _=>if sW t p k x then .inl () else .inr (.inr false)) (λk _=> ∀j y,j<k->p[j]? =some y->0<y.2.2.2.length) (λ_=> .inl ()) rfl (by omega) (λj y hj=>absurd hj (cCh _)) (λk x a hi hx hd hw hk hI=>by
  have hlx:=lh k x hx;refine⟨?_,λa' ha j y hj hy=> ?_⟩
  .simp only[hd,zZ,hi,aA,aZ,bLm ht ht2 hlx,hw];cases hv:fA t x with
   | false=>unfold sW;rw[hv];rfl
   | true=>
    cases k with
    | zero=>
     rw[show decide (((0:Nat):Int)>0)=false from by decide];unfold sW;rw[hv];rfl
    | succ j=>
     have hw1:wr (((j+1:Nat):Int) - 1)=(j:Int):=(wri (by omega) (by omega)).trans (by omega);obtain⟨y,hy⟩:∃y,p[j]? =some y:=⟨_,bZw (by omega)⟩
     rw[show decide (((j+1:Nat):Int)>0)=true from by simp];simp only[hw1,aP,hy,aA,bPm,aW7 (hI j y (Nat.lt_succ_self j) hy) (lh j y hy),aYl (wT hv),zZ,aEk,bZ5,zY];unfold sW aHs;rw[cC5,hy,cA3,hv];cases decide (yR y.1>=yR x.1)<;>cases (xZ y).1==(aA0 x).1<;>rfl
  .rcases Nat.lt_succ_iff_lt_or_eq.1 hj with hj | rfl
   .exact hI j y hj hy
   .rw[hx]at hy;injection hy with hy;subst hy;rcases cCv (sW t p j x) with hb | hb
    .unfold sW at hb;rw[bZu]at hb;exact wT hb.1
    .simp[hb]at ha) (λa _=>by simp)]
 rw[aBg (sW t p),jX,aA];cases inR (p.length:Int) 1 3<;>cases (p.zipIdx 0).all (λz=>sW t p z.2 z.1)<;>rfl
theorem bXx{t:den tTo}{p:den tPt}(ht:t.1.length<=68719476736)(ht2:t.2.length<=68719476736)(h:SmB 68719476736 tPt p):jW t p=some (wfP t p):=by
 have lp:=h.1;have lh:∀(k:Nat) (x:den tPp),p[k]? =some x->x.2.2.2.length<=68719476736:=λk x hx=>(h.2 x (bZ9 hx)).2.2.2.1
 unfold jW wfP pj2 pj4;rw[aLu (λk (_:Unit)=>(k:Int)) (0:Int) () p (λk x _=>if sW t p k x then .inl () else .inr (.inr false)) (λk _=> ∀j y,j<k->p[j]? =some y->0<y.2.2.2.length) (λ_=> .inl ()) rfl (by omega) (λj y hj=>absurd hj (cCh _)) (λk x a hi hx hd hw hk hI=>by
  have hlx:=lh k x hx;refine⟨?_,λa' ha j y hj hy=> ?_⟩
  .simp only[hd,zZ,hi,aA,aZ,bKq ht ht2 hlx,hw];cases hv:fA t x with
   | false=>unfold sW;rw[hv];rfl
   | true=>
    cases k with
    | zero=>
     rw[show decide (((0:Nat):Int)>0)=false from by decide];unfold sW;rw[hv];rfl
    | succ j=>
     have hw1:wr (((j+1:Nat):Int) - 1)=(j:Int):=(wri (by omega) (by omega)).trans (by omega);obtain⟨y,hy⟩:∃y,p[j]? =some y:=⟨_,bZw (by omega)⟩
     rw[show decide (((j+1:Nat):Int)>0)=true from by simp];simp only[hw1,aP,hy,aA,bPr,aW7 (hI j y (Nat.lt_succ_self j) hy) (lh j y hy),aYl (wT hv),zZ,aEk,bZ5,zY];unfold sW aHs;rw[cC5,hy,cA3,hv];cases decide (yR y.1>=yR x.1)<;>cases (xZ y).1==(aA0 x).1<;>rfl
  .rcases Nat.lt_succ_iff_lt_or_eq.1 hj with hj | rfl
   .exact hI j y hj hy
   .rw[hx]at hy;injection hy with hy;subst hy;rcases cCv (sW t p j x) with hb | hb
    .unfold sW at hb;rw[bZu]at hb;exact wT hb.1
    .simp[hb]at ha) (λa _=>by simp)]
 rw[aBg (sW t p),sG,aA];cases inR (p.length:Int) 1 3<;>cases (p.zipIdx 0).all (λz=>sW t p z.2 z.1)<;>rfl
def aA3(l:List Int)(k:Nat)(n:Int):Bool:= !qQ (l.take k) n
def mN(t:den tTo)(p:den tPt):Bool:=wfP t p&&((eP p).zipIdx 0).all λz=>aA3 (eP p) z.2 z.1
theorem aR0{p:den tPt}(h:tot tPt p<=1073741824):SmB 68719476736 tPt p:=(bW h).mono (by decide)
theorem bJu{t:den tTo}{p:den tPt}(ht:t.1.length<=68719476736)(ht2:t.2.length<=68719476736)(h:tot tPt p<=1073741824):lO t p=some (mN t p):=by
 have hu:=aF7 p;unfold lO mN pj2;simp only[aZ,bYe ht ht2 (aR0 h),bDk h,aA];rw[aLu (λk (_:Unit)=>(eP p,eP p,(k:Int))) (eP p,eP p,(0:Int)) () (eP p) (λk x _=>if aA3 (eP p) k x then .inl () else .inr (.inr false)) (λ_ _=>True) (λ_=> .inl ()) rfl (by omega) trivial (λk x a hi hx hd hw hk _=>by
  refine⟨?_,λ_ _=>trivial⟩;simp only[hd,zZ,hi,aA,vV hk,jE,hw,aLc (l:=(eP p).take k) (n:=x) (by simp;omega)];unfold aA3;cases qQ ((eP p).take k) x<;>rfl) (λa _=>by simp)]
 rw[aBg (aA3 (eP p))];cases wfP t p<;>cases ((eP p).zipIdx 0).all (λz=>aA3 (eP p) z.2 z.1)<;>rfl
theorem bI1{t:den tTo}{p:den tPt}(ht:t.1.length<=68719476736)(ht2:t.2.length<=68719476736)(h:tot tPt p<=1073741824):nN t p=some (mN t p):=by
 have hu:=aF7 p;unfold nN mN pj2;simp only[aZ,bXx ht ht2 (aR0 h),bB2 h,aA];rw[aLu (λk (_:Unit)=>(eP p,(k:Int))) (eP p,(0:Int)) () (eP p) (λk x _=>if aA3 (eP p) k x then .inl () else .inr (.inr false)) (λ_ _=>True) (λ_=> .inl ()) rfl (by omega) trivial (λk x a hi hx hd hw hk _=>by
  refine⟨?_,λ_ _=>trivial⟩;simp only[hd,zZ,hi,aA,vV hk,jE,hw,aKm (l:=(eP p).take k) (n:=x) (by simp;omega)];unfold aA3;cases qQ ((eP p).take k) x<;>rfl) (λa _=>by simp)]
 rw[aBg (aA3 (eP p))];cases wfP t p<;>cases ((eP p).zipIdx 0).all (λz=>aA3 (eP p) z.2 z.1)<;>rfl
def bQ(p:den tPk):den tPp:=(p.2.2.2.1[p.2.2.2.2.1.toNat]?).getD pt0
def dN(p:den tPk):den bG:=((bQ p).2.2.2[p.2.2.2.2.2.1.toNat]?).getD h0
theorem nE{p:den tPk}(h:cO p=true):∃(i j:Nat),p.2.2.2.2.1=(i:Int)/\p.2.2.2.2.2.1=(j:Int)/\p.2.2.2.1[i]? =some (bQ p)/\(bQ p).2.2.2[j]? =some (dN p)/\cF p=(dN p).1:=by
 obtain⟨i,j,x,y,h1,h2,h3,h4,h5⟩:=aDe h;have e1:bQ p=x:=by unfold bQ;rw[h1,bZ4,h3];rfl
 have e2:dN p=y:=by unfold dN;rw[e1,h2,bZ4,h4];rfl
 exact⟨i,j,h1,h2,by rw[e1];exact h3,by rw[e1,e2];exact h4,by rw[e2];exact h5⟩
theorem aSj{p:den tPk}(h:0<=cF p):cO p=true:=by
 cases c:cO p with
 | true=>rfl
 | false=>rw[aId c]at h;omega
theorem wJ{p:den tPk}(h:tot tPk p<=34359738368):SmB 68719476736 tPk p:=(bW h).mono (by decide)
theorem aQ4{p:den tPk}(h:SmB 68719476736 tPk p){i:Nat}{x:den tPp}(hx:p.2.2.2.1[i]? =some x):x.2.2.2.length<=68719476736:=(h.2.2.2.1.2 x (bZ9 hx)).2.2.2.1
def dI(p:den tPk):Bool:=p.2.2.2.2.2.1==((bQ p).2.2.2.length:Int) - 1
def aHa(p:den tPk):Bool:=p.2.2.2.2.1==(p.2.2.2.1.length:Int) - 1
def dQ(p:den tPk):Bool:=decide (cF p>=0)&&(dI p&&aHa p)
theorem aN9{p:den tPk}(h:SmB 68719476736 tPk p)(hh:cO p=true):gM p=some (dI p):=by
 obtain⟨i,j,h1,h2,h3,h4,_⟩:=nE hh;unfold gM dI zz4 zz5;rw[h1,aP,h3,aA,wR (aQ4 h h3)]
theorem aN3{p:den tPk}(h:SmB 68719476736 tPk p):kG p=some (dQ p):=by
 unfold kG dQ bF zz4;simp only[aZ,aDv h,aA];cases c:decide (cF p>=0)
 .rfl
 .have hh:=aSj (of_decide_eq_true c);have l1:=h.2.2.2.1.1;simp only[zZ,aN9 h hh,aA,wR l1];unfold aHa;cases dI p<;>rfl
theorem aD4{p:den tPk}(h:SmB 68719476736 tPk p):cX p=some (pkR p):=by
 unfold cX pkR zz4 zz5 zz6 zz7 zz8 zz9;rw[aL7 h.2.2.2.1,aDz h.2.2.2.2.2.2.2.2.2.1];rfl
theorem bTt{p:den tPk}(h:SmB 68719476736 tPk p):vR p=some (pkR p):=by
 unfold vR pkR zz4 zz5 zz6 zz7 zz8 zz9;rw[aGy h.2.2.2.1,aF (b:=1) (n:=([]:List Int).length) (by decide) (by simpa using h.2.2.2.2.2.2.2.2.2.1)];simp
def goTo(p:den tPk)(i j b:Int):den tPk:=(p.1,p.2.1,p.2.2.1,p.2.2.2.1,i,j,b,p.2.2.2.2.2.2.2.1,p.2.2.2.2.2.2.2.2.1,p.2.2.2.2.2.2.2.2.2)
def qH(p:den tPk):den tPp:=(p.2.2.2.1[p.2.2.2.2.1.toNat+1]?).getD pt0
def adv(p:den tPk):den tPk:=
 if decide (cF p<0)||dQ p then p
 else if dI p then goTo p (p.2.2.2.2.1+1) 0 (qH p).2.2.1 else goTo p p.2.2.2.2.1 (p.2.2.2.2.2.1+1) p.2.2.2.2.2.2.1
theorem bDq{p:den tPk}(hh:cO p=true)(h0:0<=cF p)(hl:dI p=true)(ha:dQ p=false):∃i:Nat,p.2.2.2.2.1=(i:Int)/\p.2.2.2.1[i+1]? =some (qH p):=by
 obtain⟨i,j,h1,h2,h3,h4,_⟩:=nE hh;refine⟨i,h1,?_⟩;have hlt:=(bZy.1 h3).1;have hne:aHa p=false:=by
  unfold dQ at ha;rw[hl,zX h0]at ha;simpa using ha
 unfold aHa at hne;rw[h1]at hne;have hne: ¬ ((i:Int)=(p.2.2.2.1.length:Int) - 1):=by simpa using hne
 unfold qH;rw[h1,bZ4,bZw (show i+1<p.2.2.2.1.length by omega)];rfl
theorem bRl{p:den tPk}(h:SmB 68719476736 tPk p):lU p=some (pkR (adv p)):=by
 unfold lU adv bF pj2 zz4 zz5 zz6 zz7 zz8;simp only[aZ,aD4 h,aDv h,aN3 h,aA];cases c:decide (cF p<0)
 .cases ca:dQ p
  .have h0:0<=cF p:=by have :=of_decide_eq_false c;omega
   have hh:=aSj h0;obtain⟨i,j,h1,h2,h3,h4,_⟩:=nE hh;have hlt:=(bZy.1 h3).1;have hlt2:=(bZy.1 h4).1;have l1:cAc p.2.2.2.1<=68719476736:=h.2.2.2.1.1;have l2:=aQ4 h h3;simp only[zY,aA,aN9 h hh,cBu,bZ8,zU];cases cl:dI p
   .simp only[zY,aA,bZ8,zU];unfold pkR goTo;rw[h2,show wr ((j:Int)+1)=(j:Int)+1 from wri (by omega) (by omega)]
   .obtain⟨i',e1,e2⟩:=bDq hh h0 cl ca;have :i'=i:=Int.ofNat.inj (e1.symm.trans h1);subst this;have hw:wr (((i':Nat):Int)+1)=((i'+1:Nat):Int):=(wri (by omega) (by omega)).trans (by omega);simp only[zZ,zV];unfold pkR goTo;simp only[h1,hw,aP,e2,aA];rw[show ((i'+1:Nat):Int)=(i':Int)+1 by omega]
  .rfl
 .rfl
def bef(p:den tPk):Int:=if gV (bQ p).1 then aJu p.2.2.2.2.2.2.1 (dN p).2.2.2.2 else p.2.2.2.2.2.2.1
def aft(p:den tPk):Int:=if gV (bQ p).1 then aJu p.2.2.2.2.2.2.1 (dN p).2.2.2.2 else aJh p.2.2.2.2.2.2.1 (dN p).2.2.2.2
def yU(t:den tTo)(p:den tPk):Bool:=cO p&&zK t (bQ p).2.1 (bef p) (dN p)
def aX(t:den tTo)(p:den tPk):den tPk:=if yU t p then goTo p p.2.2.2.2.1 p.2.2.2.2.2.1 (aft p) else p
def tO(p:den tPk)(b:Bool):q11:=(p.1,p.2.1,p.2.2.1,p.2.2.2.2.1,p.2.2.2.2.2.1,p.2.2.2.2.2.2.1,p.2.2.2.2.2.2.2.1,p.2.2.2.2.2.2.2.2.1,b,p.2.2.2.1,p.2.2.2.2.2.2.2.2.2)
theorem bVa{t:den tTo}{p:den tPk}(ht:t.1.length<=68719476736)(h:SmB 68719476736 tPk p):iA t p=some (tO (aX t p) (yU t p)):=by
 unfold iA aX yU bF pj2 pj5 zz4 zz5 zz6 zz7 zz8;simp only[aZ,aD4 h,bQs h,aA];cases c:cO p
 .rfl
 .obtain⟨i,j,h1,h2,h3,h4,_⟩:=nE c;simp only[h1,h2,aP,h3,h4,aA,aL2,bLt,bK4,bZ5,zY,cAf];unfold bef aft;cases gV (bQ p).1
  .simp only[zY,aA,bKm ht,bZ8,zU];cases zK t (bQ p).2.1 p.2.2.2.2.2.2.1 (dN p)
   .simp only[cAb,zZ,bZ8,zU];unfold tO pkR;simp only[h1,h2]
   .simp only[bZ5,zY,zV];unfold tO pkR goTo;simp only[h1,h2]
  .simp only[zZ,aA,bKm ht,zV];cases zK t (bQ p).2.1 (aJu p.2.2.2.2.2.2.1 (dN p).2.2.2.2) (dN p)
   .simp only[cAb,zZ,bZ8,zU];unfold tO pkR;simp only[h1,h2]
   .simp only[bZ5,zY,zV];unfold tO pkR goTo;simp only[h1,h2]
theorem bUi{t:den tTo}{ts b:Int}{h:den bG}(hv:h.1<0):zK t ts b h=false:=by
 unfold zK lZ;rw[bCu.2 (λhh=>absurd hv (Int.not_lt.2 hh.1))];rfl
def wN(p:den tPk)(now:Int):Bool:= !decide (cF p<0)&&(decide ((bQ p).2.1<=now)&&decide (now<=(dN p).2.2.2.1))
theorem bN5{p:den tPk}{now:Int}(h:SmB 68719476736 tPk p):gE p now=some (wN p now):=by
 unfold gE wN bF pj5 zz4 zz5;simp only[aZ,aDv h,aA];cases c:decide (cF p<0)
 .have hh:=aSj (p:=p) (by have :=of_decide_eq_false c;omega);obtain⟨i,j,h1,h2,h3,h4,h5⟩:=nE hh;simp only[zY,h1,h2,aP,h3,h4,aA,sN];cases decide ((bQ p).2.1<=now)<;>rfl
 .rfl
def dO(t:den tTo)(now:Int)(p:den tPk):Int:=if yU t p then (if wN p now then 0 else 5) else 4
def goC(t:den tTo)(now:Int):Nat->den tPk->Int×den tPk
 | 0,p=>(dO t now p,aX t p)
 | n+1,p=>if dO t now p==0&&(dI (aX t p)&& !dQ (aX t p)) then goC t now n (adv (aX t p)) else (dO t now p,aX t p)
theorem yM(t:den tTo)(p:den tPk):tot tPk (aX t p)=tot tPk p:=by
 unfold aX;split<;>rfl
theorem aMf(p:den tPk):tot tPk (adv p)=tot tPk p:=by
 unfold adv;split
 .rfl
 .split<;>rfl
theorem bA1(t:den tTo)(p:den tPk)(now:Int):wN (aX t p) now=wN p now:=by
 unfold aX;split<;>rfl
theorem qY(t:den tTo)(p:den tPk):cO (aX t p)=cO p/\cF (aX t p)=cF p/\dN (aX t p)=dN p/\(aX t p).2.2.2.1=p.2.2.2.1/\(aX t p).2.2.2.2.1=p.2.2.2.2.1:=by
 unfold aX;split<;>exact⟨rfl,rfl,rfl,rfl,rfl⟩
theorem wC{t:den tTo}{now:Int}{p:den tPk}(h:dO t now p=0):cO p=true/\0<=cF p:=by
 unfold dO at h;split at h
 .rename_i hs;unfold yU at hs;rw[bZu]at hs;refine⟨hs.1,?_⟩;obtain⟨i,j,h1,h2,h3,h4,h5⟩:=nE hs.1;rw[h5]
  by_cases hn:(dN p).1<0
  .rw[bUi hn]at hs;cases hs.2
  .exact Int.not_lt.1 hn
 .cases h
theorem bNx{p:den tPk}(h0:0<=cF p)(hc:(dI p&& !dQ p)=true):(adv p).2.2.2.1=p.2.2.2.1/\(adv p).2.2.2.2.1=p.2.2.2.2.1+1:=by
 rw[bZu]at hc;have ha:dQ p=false:=by simpa using hc.2
 unfold adv;rw[zW (by omega),ha,hc.1];exact⟨rfl,rfl⟩
theorem bUf{t:den tTo}{now:Int}{S R:Type}(enc:Int->den tPk->S)(out:S->R){step:S->Option (S⊕R)}(st:den tPk->den tPk)(hst:∀p,dO t now p=0->st p=aX t p)
  (hstop:∀c p,c≠0->step (enc c p)=some (.inr (out (enc c p))))
  (hgo:∀q,tot tPk q<=34359738368->cO q=true->0<=cF q->step (enc 0 q)=some (if dI q&& !dQ q then .inl (enc (dO t now (adv q)) (st (adv q))) else .inr (out (enc 0 q)))):
  ∀(n:Nat) (p:den tPk),tot tPk p<=34359738368->p.2.2.2.1.length - p.2.2.2.2.1.toNat<=n-> ∃r,aC step (enc (dO t now p) (st p))=some (out (enc (goC t now n p).1 r))/\((goC t now n p).1=0->r=(goC t now n p).2):=by
 intro n
 induction n with
 | zero=>
  intro p hp hm
  by_cases hc:dO t now p=0
  .obtain⟨hh,h0⟩:=wC hc;obtain⟨i,j,h1,h2,h3,h4,h5⟩:=nE hh;have hlt:=(bZy.1 h3).1;rw[h1,bZ4]at hm;exact absurd hlt (by omega)
  .exact⟨_,aT (hstop _ _ hc),λh=>absurd h hc⟩
 | succ n ih=>
  intro p hp hm
  by_cases hc:dO t now p=0
  .obtain⟨hh,h0⟩:=wC hc;obtain⟨e1,e2,e3,e4,e5⟩:=qY t p;have hq:=hgo (aX t p) (by rw[yM];exact hp) (by rw[e1];exact hh) (by rw[e2];exact h0);rw[hst p hc];cases hb:dI (aX t p)&& !dQ (aX t p) with
   | false=>
    rw[hb]at hq;have hg:goC t now (n+1) p=(dO t now p,aX t p):=by
     show (if _ then _ else _)=_;rw[hb,cCl];rfl
    rw[hg,hc];exact⟨aX t p,aT hq,λ_=>rfl⟩
   | true=>
    rw[hb,zT rfl]at hq;have hg:goC t now (n+1) p=goC t now n (adv (aX t p)):=by
     show (if _ then _ else _)=_;rw[hb,hc];rfl
    rw[hg,hc,cT hq];obtain⟨a1,a2⟩:=bNx (p:=aX t p) (by rw[e2];exact h0) hb;obtain⟨i,j,h1,h2,h3,h4,h5⟩:=nE hh;refine ih (adv (aX t p)) (by rw[aMf,yM];exact hp) ?_;rw[a1,a2,e4,e5,h1];rw[h1,bZ4]at hm;have :((i:Int)+1).toNat=i+1:=by omega
    rw[this];omega
  .have hg:goC t now (n+1) p=(dO t now p,aX t p):=by
    show (if _ then _ else _)=_;rw[show (dO t now p==0)=false from by simpa using hc];rfl
   rw[hg];exact⟨_,aT (hstop _ _ hc),λh=>absurd h hc⟩
def aL4(p:den tPk):Int:=if p.2.2.2.2.1==0&&p.2.2.2.2.2.1==0 then 0 else pIn (bQ p) (dN p)
def bA(t:den tTo)(now:Int)(p:den tPk):Int×den tPk:=goC t now (p.2.2.2.1.length - p.2.2.2.2.1.toNat) p
def fwd(t:den tTo)(r now dead inn:Int)(p:den tPk):Int×Int×den tPk×Int:=
 if !dR p||(!mN t p.2.2.2.1|| !(cF p==r)) then (2,0,p,0)
 else if !(inn==aL4 p) then (3,0,p,0)
 else if !((bA t now p).1==0) then ((bA t now p).1,0,p,0)
 else if dQ (bA t now p).2 then (if (bA t now p).2.2.2.1==r then (1,0,(bA t now p).2,0) else (2,0,p,0))
 else if !aV3 t (r,inn,pEg (bQ (bA t now p).2) (dN (bA t now p).2)) then (6,0,p,0)
 else if aBy dead (pEg (bQ (bA t now p).2) (dN (bA t now p).2)) then (7,0,p,pEg (bQ (bA t now p).2) (dN (bA t now p).2))
 else (0,pEg (bQ (bA t now p).2) (dN (bA t now p).2),adv (bA t now p).2,pEg (bQ (bA t now p).2) (dN (bA t now p).2))
def fwI(v:Int×Int×den tPk×Int):Int×Int×q12:=
 (v.1,v.2.1,v.2.2.1.1,v.2.2.1.2.1,v.2.2.1.2.2.1,v.2.2.1.2.2.2.1,v.2.2.1.2.2.2.2.1,v.2.2.1.2.2.2.2.2.1,v.2.2.1.2.2.2.2.2.2.1,v.2.2.1.2.2.2.2.2.2.2.1,v.2.2.1.2.2.2.2.2.2.2.2.1,v.2.2.1.2.2.2.2.2.2.2.2.2,v.2.2.2)
theorem aBd{t:den tTo}{now:Int}:∀(n:Nat) (p:den tPk),(goC t now n p).1=0->cO (goC t now n p).2=true/\0<=cF (goC t now n p).2/\tot tPk (goC t now n p).2=tot tPk p
 | 0,p,h=>by
  obtain⟨h1,h2⟩:=wC (show dO t now p=0 from h);obtain⟨e1,e2,_⟩:=qY t p;exact⟨e1.trans h1,by rw[show (goC t now 0 p).2=aX t p from rfl,e2];exact h2,yM t p⟩
 | n+1,p,h=>by
  unfold goC at h|-;split at h
  .rename_i hc;rw[zT hc];obtain⟨h1,h2,h3⟩:=aBd n _ h;exact⟨h1,h2,by rw[h3,aMf,yM]⟩
  .rename_i hc;rw[zS hc];obtain⟨h1,h2⟩:=wC (show dO t now p=0 from h);obtain⟨e1,e2,_⟩:=qY t p;exact⟨e1.trans h1,by rw[show (dO t now p,aX t p).2=aX t p from rfl,e2];exact h2,yM t p⟩
def wZ(t:den tTo)(now:Int)(p:den tPk):den tPk:=if dO t now p=0 then aX t p else p
def aAw(p:den tPk)(c:Int):q12:=(p.1,p.2.1,p.2.2.1,p.2.2.2.1,p.2.2.2.2.1,p.2.2.2.2.2.1,p.2.2.2.2.2.2.1,p.2.2.2.2.2.2.2.1,p.2.2.2.2.2.2.2.2.1,p.2.2.2.2.2.2.2.2.2,c)
theorem bRd{t:den tTo}{now:Int}{p:den tPk}(ht:t.1.length<=68719476736)(h:tot tPk p<=34359738368):kN t now p=some (aAw (wZ t now p) (dO t now p)):=by
 unfold kN bF pj2 bO zz4 zz5 zz6 zz7 zz8 zz9;simp only[aZ,bVa ht (wJ h),aA];unfold wZ dO;cases c:yU t p
 .simp only[tO,cAb,zZ,bZ8,zU];rfl
 .have hs:tot tPk (aX t p)<=34359738368:=by rw[yM];exact h
  have key:gE ((tO (aX t p) true).1,(tO (aX t p) true).2.1,(tO (aX t p) true).2.2.1,(tO (aX t p) true).2.2.2.2.2.2.2.2.2.1,(tO (aX t p) true).2.2.2.1,(tO (aX t p) true).2.2.2.2.1,(tO (aX t p) true).2.2.2.2.2.1,(tO (aX t p) true).2.2.2.2.2.2.1,(tO (aX t p) true).2.2.2.2.2.2.2.1,(tO (aX t p) true).2.2.2.2.2.2.2.2.2.2) now=some (wN p now):=by
   rw[<- bA1 t p now];exact bN5 (wJ hs)
  rw[key];simp only[tO,bZ5,zY,aA,zV];cases wN p now
  .simp only[cAb,zZ,bZ8,zU];rfl
  .simp only[bZ5,zY,zV];rfl
theorem bDv{p:den tPk}(h:dR p=true):cO p=true:=by
 unfold dR at h;simp only[bZu]at h;exact h.2.2.1
theorem bRy{c:Int}{p:den tPk}(h:tot tPk p<=34359738368):kR c p=some (c,0,p.1,p.2.1,p.2.2.1,p.2.2.2.2.1,p.2.2.2.2.2.1,p.2.2.2.2.2.2.1,p.2.2.2.2.2.2.2.1,p.2.2.2.2.2.2.2.2.1,p.2.2.2.1,p.2.2.2.2.2.2.2.2.2,p.1,p.2.1,p.2.2.1,p.2.2.2.1,p.2.2.2.2.1,p.2.2.2.2.2.1,p.2.2.2.2.2.2.1,p.2.2.2.2.2.2.2.1,p.2.2.2.2.2.2.2.2.1,p.2.2.2.2.2.2.2.2.2):=by
 unfold kR bF zz4 zz5 zz6 zz7 zz8 zz9;simp only[aZ,aD4 (wJ h),aA];rfl
theorem bAm{p:den tPk}{N:Nat}(h:tot tPk p<=N):tot tPt p.2.2.2.1<=N:=(aLm h).1
theorem bGq{t:den tTo}{r now dead inn:Int}{p:den tPk}(ht:t.1.length<=68719476736)(ht2:t.2.length<=68719476736)(h:tot tPk p<=34359738368)(hpp:tot tPt p.2.2.2.1<=1073741824):qP t r now dead inn p=some (fwI (fwd t r now dead inn p)):=by
 unfold qP fwd bF aXs pj2 pj4 bO bV zz4 zz5 zz6 zz7 zz8 zz9;simp only[aZ,bN3 (wJ h),bJu ht ht2 hpp,aDv (wJ h),aA,aEk,bRy h];cases cv:dR p
 .simp only[cAb,Bool.true_or,zZ,aA,zV];rfl
 .cases cs:mN t p.2.2.2.1
  .simp only[bZ5,cAb,Bool.true_or,Bool.or_true,zZ,zY,aA,zV];rfl
  .cases cr:cF p==r
   .simp only[bZ5,cAb,Bool.true_or,Bool.or_true,zZ,zY,aA,zV];rfl
   .simp only[bZ5,cBu,zY,aA,bZ8,zU];obtain⟨i,j,h1,h2,h3,h4,h5⟩:=nE (bDv cv);have hl:=aQ4 (wJ h) h3;have hw:(@Option.bind Bool Int (cond (p.2.2.2.2.1==(0:Int)) (some (p.2.2.2.2.2.1==(0:Int))) (some false)) λ(s8:Bool)=>cond s8 (some (0:Int)) (some (pIn (bQ p) (dN p))))=some (aL4 p):=by
     unfold aL4;cases p.2.2.2.2.1==0<;>cases p.2.2.2.2.2.1==0<;>rfl
    have hp1:idx p.2.2.2.1 p.2.2.2.2.1=some (bQ p):=by rw[h1,aP];exact h3
    have hp2:fK (bQ p) p.2.2.2.2.2.1=some (pIn (bQ p) (dN p)):=by rw[h2];exact bGj h4 hl
    rw[hp1,aA,hp2,aA,hw,aA];cases ci:inn==aL4 p
    .simp only[cAb,zZ,zV,aA];rfl
    .simp only[bZ5,zY,bZ8,zU,aD4 (wJ h),aA];have hc:kN t now ((pkR p).1,(pkR p).2.1,(pkR p).2.2.1,(pkR p).2.2.2.2.2.2.2.2.1,(pkR p).2.2.2.1,(pkR p).2.2.2.2.1,(pkR p).2.2.2.2.2.1,(pkR p).2.2.2.2.2.2.1,(pkR p).2.2.2.2.2.2.2.1,(pkR p).2.2.2.2.2.2.2.2.2)=some (aAw (wZ t now p) (dO t now p)):=bRd ht h;rw[hc];simp only[aA,bU,dH,cL,cK,cS];obtain⟨q,hq1,hq2⟩:=bUf (t:=t) (now:=now) (S:=Int×den tPk) (R:=Int×den tPk) (λc p=>(c,p)) id (step:=λs23=> @Option.bind Bool _ (cond (s23.1==(0:Int)) (Option.bind (gM s23.2) λy24=>cond y24 (Option.bind (kG s23.2) λy25=>some (!y25)) (some false)) (some false)) λ(s26:Bool)=>cond s26 (Option.bind (lU s23.2) λy27=>Option.bind (kN t now (y27.1,y27.2.1,y27.2.2.1,y27.2.2.2.2.2.2.2.2.1,y27.2.2.2.1,y27.2.2.2.2.1,y27.2.2.2.2.2.1,y27.2.2.2.2.2.2.1,y27.2.2.2.2.2.2.2.1,y27.2.2.2.2.2.2.2.2.2)) λy28=>some (Sum.inl (y28.2.2.2.2.2.2.2.2.2.2,y28.1,y28.2.1,y28.2.2.1,y28.2.2.2.1,y28.2.2.2.2.1,y28.2.2.2.2.2.1,y28.2.2.2.2.2.2.1,y28.2.2.2.2.2.2.2.1,y28.2.2.2.2.2.2.2.2.1,y28.2.2.2.2.2.2.2.2.2.1))) (some (bZs s23))) (wZ t now) (λp hp=>zT hp) (λc p hc=>by
       have :(c==0)=false:=by simpa using hc
       simp only[this,zY,aA,id]) (λq hq hh h0=>by
       have e:kN t now ((pkR (adv q)).1,(pkR (adv q)).2.1,(pkR (adv q)).2.2.1,(pkR (adv q)).2.2.2.2.2.2.2.2.1,(pkR (adv q)).2.2.2.1,(pkR (adv q)).2.2.2.2.1,(pkR (adv q)).2.2.2.2.2.1,(pkR (adv q)).2.2.2.2.2.2.1,(pkR (adv q)).2.2.2.2.2.2.2.1,(pkR (adv q)).2.2.2.2.2.2.2.2.2)=some (aAw (wZ t now (adv q)) (dO t now (adv q))):=bRd (p:=adv q) ht (by rw[aMf];exact hq);simp only[beq_self_eq_true,zZ,aN9 (wJ hq) hh,aN3 (wJ hq),bRl (wJ hq),aA,e];cases dI q<;>cases dQ q<;>rfl) _ p h (bZ7 _)
     have hq1:aC _ (dO t now p,wZ t now p)=some ((bA t now p).1,q):=hq1;have hq2:(bA t now p).1=0->q=(bA t now p).2:=hq2;have e0:(((aAw (wZ t now p) (dO t now p)).2.2.2.2.2.2.2.2.2.2,(aAw (wZ t now p) (dO t now p)).1,(aAw (wZ t now p) (dO t now p)).2.1,(aAw (wZ t now p) (dO t now p)).2.2.1,(aAw (wZ t now p) (dO t now p)).2.2.2.1,(aAw (wZ t now p) (dO t now p)).2.2.2.2.1,(aAw (wZ t now p) (dO t now p)).2.2.2.2.2.1,(aAw (wZ t now p) (dO t now p)).2.2.2.2.2.2.1,(aAw (wZ t now p) (dO t now p)).2.2.2.2.2.2.2.1,(aAw (wZ t now p) (dO t now p)).2.2.2.2.2.2.2.2.1,(aAw (wZ t now p) (dO t now p)).2.2.2.2.2.2.2.2.2.1):Int×den tPk)=(dO t now p,wZ t now p):=rfl;rw[e0,hq1,aA]
     by_cases hz:(bA t now p).1=0
     .have hqq:=hq2 hz;subst hqq;obtain⟨g1,g2,g3⟩:=aBd _ p hz;have g1:cO (bA t now p).2=true:=g1;have g2:0<=cF (bA t now p).2:=g2;have g3:tot tPk (bA t now p).2=tot tPk p:=g3;have hg:tot tPk (bA t now p).2<=34359738368:=by rw[g3];exact h
      obtain⟨i',j',k1,k2,k3,k4,k5⟩:=nE g1;have hl':=aQ4 (wJ hg) k3;have q1:idx (bA t now p).2.2.2.2.1 (bA t now p).2.2.2.2.2.1=some (bQ (bA t now p).2):=by rw[k1,aP];exact k3
      have q2:fP (bQ (bA t now p).2) (bA t now p).2.2.2.2.2.2.1=some (pEg (bQ (bA t now p).2) (dN (bA t now p).2)):=by rw[k2];exact bHb k4 hl'
      simp only[hz,beq_self_eq_true,bZ5,zY,bZ8,zU,aN3 (wJ hg),aA];cases ca:dQ (bA t now p).2
      .simp only[zY,bZ8,zU,q1,q2,aA,bUk ht2,bT9];cases aV3 t (r,inn,pEg (bQ (bA t now p).2) (dN (bA t now p).2))
       .simp only[cAb,zZ,zV];rfl
       .simp only[bZ5,zY,bZ8,zU];cases aBy dead (pEg (bQ (bA t now p).2) (dN (bA t now p).2))
        .simp only[zY,bZ8,zU,bRl (wJ hg),aA];rfl
        .simp only[zZ,zV];rfl
      .simp only[zZ,zV];cases (bA t now p).2.2.2.1==r
       .simp only[cAb,zZ,bZ8,zU];rfl
       .simp only[bZ5,zY,zV];rfl
     .have hz':((bA t now p).1==0)=false:=by simpa using hz
      simp only[hz',cAb,zZ,zV,bRy h,aA];rfl
theorem bLi{t:den tTo}{r now dead inn:Int}{p:den tPk}(ht:t.1.length<=68719476736)(ht2:t.2.length<=68719476736)(h:tot tPk p<=34359738368)(hpp:tot tPt p.2.2.2.1<=1073741824):tI t r now dead inn p=some ((fwd t r now dead inn p).1,(fwd t r now dead inn p).2.1,(fwd t r now dead inn p).2.2.1):=by
 unfold tI bF pj2 bO bV zz4 zz5 zz6 zz7 zz8 zz9;simp only[aZ,bGq ht ht2 h hpp,aA];rfl
theorem aG1(t:den tTo)(r now dead inn:Int)(p:den tPk):tot tPk (fwd t r now dead inn p).2.2.1=tot tPk p:=by
 unfold fwd;split
 .rfl
 .split
  .rfl
  .split
   .rfl
   .rename_i hz;have hz:(bA t now p).1=0:=by simpa using hz
    obtain⟨_,_,g3⟩:=aBd _ p hz;have g3:tot tPk (bA t now p).2=tot tPk p:=g3;split
    .split
     .exact g3
     .rfl
    .split
     .rfl
     .split
      .rfl
      .show tot tPk (adv (bA t now p).2)=_;rw[aMf];exact g3
theorem aW6{t:den tTo}{now:Int}:∀(n:Nat) (p:den tPk),(goC t now n p).2.2.2.2.1=p.2.2.2.1
 | 0,p=>(qY t p).2.2.2.1
 | n+1,p=>by
  unfold goC;split
  .rw[aW6 n];rw[<- (qY t p).2.2.2.1];unfold adv;split
   .rfl
   .split<;>rfl
  .exact (qY t p).2.2.2.1
theorem bM6(p:den tPk):(adv p).2.2.2.1=p.2.2.2.1:=by
 unfold adv;split
 .rfl
 .split<;>rfl
theorem bOw(t:den tTo)(r now dead inn:Int)(p:den tPk):(fwd t r now dead inn p).2.2.1.2.2.2.1=p.2.2.2.1:=by
 have hg:(bA t now p).2.2.2.2.1=p.2.2.2.1:=aW6 _ p;unfold fwd
 repeat' split
 all_goals first
  | rfl
  | exact hg
  | exact (bM6 _).trans hg
def aD(t:den tTo)(now:Int)(dead:List Int)(r inn:Int)(p:den tPk):Int×Int×den tPk×Int:=fwd t r now (eG t dead r) inn p
def aEv(t:den tTo)(now:Int)(dead:List Int):Nat->Int->Int->den tPk->bM->Int×den tPk×bM
 | 0,_,_,p,st=>(0,p,st)
 | n+1,r,inn,p,st=>
  if (aD t now dead r inn p).1==0||(aD t now dead r inn p).1==1 then
   (if (aD t now dead r inn p).1==1 then (1,(aD t now dead r inn p).2.2.1,st++[(r,inn,(aD t now dead r inn p).2.1)])
    else aEv t now dead n (remote t r (aD t now dead r inn p).2.1).1 (remote t r (aD t now dead r inn p).2.1).2 (aD t now dead r inn p).2.2.1 (st++[(r,inn,(aD t now dead r inn p).2.1)]))
  else ((aD t now dead r inn p).1,(aD t now dead r inn p).2.2.1,st)
theorem bJz{t:den tTo}{now:Int}{dead:List Int}{S R:Type}(enc:Nat->Int->Int->den tPk->bM->S)(out out2:Int×den tPk×bM->R)(N:Nat)(b:Bool){step:S->Option (S⊕R)}
  (H:∀(k:Nat) (r inn:Int) (p:den tPk) (st:bM),k<N->st.length<=k->tot tPk p<=34359738368->tot tPt p.2.2.2.1<=1073741824->step (enc k r inn p st)=some (
   if (aD t now dead r inn p).1==0||(aD t now dead r inn p).1==1 then
    (if (aD t now dead r inn p).1==1 then .inr (out (1,(aD t now dead r inn p).2.2.1,st++[(r,inn,(aD t now dead r inn p).2.1)]))
     else if b&&decide (k+1=N) then .inr (out (0,(aD t now dead r inn p).2.2.1,st++[(r,inn,(aD t now dead r inn p).2.1)]))
     else .inl (enc (k+1) (remote t r (aD t now dead r inn p).2.1).1 (remote t r (aD t now dead r inn p).2.1).2 (aD t now dead r inn p).2.2.1 (st++[(r,inn,(aD t now dead r inn p).2.1)])))
   else .inr (out ((aD t now dead r inn p).1,(aD t now dead r inn p).2.2.1,st))))
  (he:b=false-> ∀r inn p st,step (enc N r inn p st)=some (.inr (out2 (0,p,st)))):
  ∀(n k:Nat) (r inn:Int) (p:den tPk) (st:bM),k+n=N->(n=0->b=false)->st.length<=k->tot tPk p<=34359738368->tot tPt p.2.2.2.1<=1073741824->aC step (enc k r inn p st)=some (out (aEv t now dead n r inn p st))\/aC step (enc k r inn p st)=some (out2 (aEv t now dead n r inn p st)):=by
 intro n
 induction n with
 | zero=>
  intro k r inn p st hk hb hs hp hq;have :k=N:=by omega
  subst this;exact .inr (aT (he (hb rfl) r inn p st))
 | succ n ih=>
  intro k r inn p st hk hb hs hp hq;have h:=H k r inn p st (by omega) hs hp hq;unfold aEv;cases c01:(aD t now dead r inn p).1==0||(aD t now dead r inn p).1==1 with
  | false=>
   rw[c01]at h;exact .inl (aT h)
  | true=>
   rw[c01,zT rfl]at h;rw[zT rfl];cases c1:(aD t now dead r inn p).1==1 with
   | true=>
    rw[c1]at h;exact .inl (aT h)
   | false=>
    rw[c1]at h;simp only[bZ8,zU]at h ⊢;cases hl:b&&decide (k+1=N) with
    | true=>
     rw[hl,zT rfl]at h;rw[bZu,zR]at hl;have :n=0:=by omega
     subst this;exact .inl (aT h)
    | false=>
     rw[hl]at h;simp only[bZ8,zU]at h;rw[cT h];refine ih (k+1) _ _ _ _ (by omega) (λhn=> ?_) (by simp;omega) ?_ ?_
     .subst hn;cases b with
      | false=>rfl
      | true=>simp at hl;omega
     .unfold aD;rw[aG1];exact hp
     .unfold aD;rw[bOw];exact hq
def aVy(x:Int×den tPk×bM):q4:=
 (x.1,x.2.1.1,x.2.1.2.1,x.2.1.2.2.1,x.2.1.2.2.2.1,x.2.1.2.2.2.2.1,x.2.1.2.2.2.2.2.1,x.2.1.2.2.2.2.2.2.1,x.2.1.2.2.2.2.2.2.2.1,x.2.1.2.2.2.2.2.2.2.2.1,x.2.1.2.2.2.2.2.2.2.2.2,x.2.2)
def bD5(k:Nat)(r inn:Int)(p:den tPk)(st:bM):Int×Int×Int×q4:=
 (r,inn,((k+1:Nat):Int),0,p.1,p.2.1,p.2.2.1,p.2.2.2.1,p.2.2.2.2.1,p.2.2.2.2.2.1,p.2.2.2.2.2.2.1,p.2.2.2.2.2.2.2.1,p.2.2.2.2.2.2.2.2.1,p.2.2.2.2.2.2.2.2.2,st)
def bGv(t:den tTo)(now:Int)(dead:List Int)(p:den tPk):Int×den tPk×bM:=aEv t now dead 30 p.2.1 0 p []
theorem bWq{t:den tTo}{now:Int}{dead:List Int}{p:den tPk}(ht:t.1.length<=68719476736)(ht2:t.2.length<=1073741824)(hd:dead.length<=68719476736)(h:tot tPk p<=34359738368)(hpp:tot tPt p.2.2.2.1<=1073741824):qZ t now dead p=some (aVy (bGv t now dead p)):=by
 unfold qZ bF aSv pj2 bO bV cJ iH xO zz4 zz5 zz6 zz7 zz8 zz9;simp only[aZ,aD4 (wJ h),aA];have e0:(p.2.1,(0:Int),(1:Int),(0:Int),(pkR p).1,(pkR p).2.1,(pkR p).2.2.1,(pkR p).2.2.2.2.2.2.2.2.1,(pkR p).2.2.2.1,(pkR p).2.2.2.2.1,(pkR p).2.2.2.2.2.1,(pkR p).2.2.2.2.2.2.1,(pkR p).2.2.2.2.2.2.2.1,(pkR p).2.2.2.2.2.2.2.2.2,([]:bM))=bD5 0 p.2.1 0 p []:=rfl;rw[e0];refine (bJz (t:=t) (now:=now) (dead:=dead) bD5 aVy aVy 30 true ?_ (λhb=>by cases hb) 30 0 p.2.1 0 p [] rfl (λh=>by cases h) (bZ7 _) h hpp).elim id id;intro k r inn p st hk hs hp hq;have hw:wr (((k+1:Nat):Int)+1)=((k+1+1:Nat):Int):=(wri (by omega) (by omega)).trans (by omega);have h30:(((k+1:Nat):Int)==30)=decide (k+1=30):=by rw[cAv];simp only[beq_iff_eq,zR];omega
 simp only[bD5,aZ,aR5 ht2 hd,bLi ht (bZv ht2 (by decide)) hp hq,aOl (t:=t) (bZv ht2 (by decide)),aA,bU,dH,cL,cK,cS,aEk,aF (b:=24) (n:=st.length) (m:=1) (by decide) (by omega),zZ,hw,h30];rw[show fwd t r now (eG t dead r) inn p=aD t now dead r inn p from rfl];have hx:∀c:Int,(c==0)=true->(c==1)=false:=λc hc=>by
  have :c=0:=by simpa using hc
  subst this;rfl
 cases c0:(aD t now dead r inn p).1==0 with
 | true=>
  rw[hx _ c0];have e0:(aD t now dead r inn p).1=0:=by simpa using c0
  simp only[bZ5,cAb,zY,zZ,aA,Bool.true_or,zV,bZ8,zU,cAf,e0];cases decide (k+1=30)<;>rfl
 | false=>
  cases c1:(aD t now dead r inn p).1==1 with
  | true=>
   have e1:(aD t now dead r inn p).1=1:=by simpa using c1
   simp only[bZ5,cAb,zY,zZ,aA,Bool.or_true,zV,e1];rfl
  | false=>
   simp only[cAb,zZ,aA,cBu,bZ8,zU];rfl
def wO(t:den tTo)(now:Int)(dead:List Int)(p:den tPt):Bool:=(bGv t now dead (dT 1 p 0 0 [])).1==1
theorem bAr{t:den tTo}{now:Int}{dead:List Int}{p:den tPt}(ht:t.1.length<=68719476736)(ht2:t.2.length<=1073741824)(hd:dead.length<=68719476736)(hp:tot tPt p<=1073741824):tV t now dead p=some (wO t now dead p):=by
 unfold tV wO pj2 zz4 zz5 zz6 zz7 zz8 zz9;have h1:tot tPk (dT 1 p 0 0 [])<=34359738368:=by rw[aFl,aAn];omega
 have e:qZ t now dead ((pkR (dT 1 p 0 0 [])).1,(pkR (dT 1 p 0 0 [])).2.1,(pkR (dT 1 p 0 0 [])).2.2.1,(pkR (dT 1 p 0 0 [])).2.2.2.2.2.2.2.2.1,(pkR (dT 1 p 0 0 [])).2.2.2.1,(pkR (dT 1 p 0 0 [])).2.2.2.2.1,(pkR (dT 1 p 0 0 [])).2.2.2.2.2.1,(pkR (dT 1 p 0 0 [])).2.2.2.2.2.2.1,(pkR (dT 1 p 0 0 [])).2.2.2.2.2.2.2.1,(pkR (dT 1 p 0 0 [])).2.2.2.2.2.2.2.2.2)=some (aVy (bGv t now dead (dT 1 p 0 0 []))):=bWq ht ht2 hd h1 hp;simp only[aZ,aL1 (kind:=1) (res:=0) (seq:=0) (p:=p) (pay:=[]) (by omega) (by simp),aA,e];rfl
def aDn(w:den tNw)(p:den tPt)(now:Int):Bool:=wO w.1 now w.2.2.2.2.1 p&&wO w.1 now w.2.2.2.2.1 (fF p)
def yQ(w:den tNw):Int:=wr (w.2.2.2.1+wr (8+mO w))
def xJ(w:den tNw)(p:den tPt):Bool:=aDn w p w.2.2.2.1&&aDn w p (yQ w)
def pH(w:den tNw)(f:den tFl):Int:=
 match bN (λk p=>if xJ w p then some (k:Int) else none) 0 f.2.2.2.2.2.1 with
 | some i=>i
 | none=> -1
structure bRk (w:den tNw):Prop where
 as:w.1.1.length<=68719476736
 links:w.1.2.length<=1073741824
 dead:w.2.2.2.2.1.length<=68719476736
 flows:w.2.2.2.2.2.2.1.length<=1073741824
theorem bXy{w:den tNw}(h:tot tNw w<=1073741824):bRk w where
 as:=bZv (fB (t:=tAS) _) (bZv (yC (yC h)) (by decide))
 links:=bZv (fB (t:=tLk) _) (bZv (bD (yC h)) (by decide))
 dead:=bZv (fB (t:=ti) _) (bZv (yC (bD (bD (bD (bD h))))) (by decide))
 flows:=bZv (fB (t:=tFl) _) (yC (bD (bD (bD (bD (bD (bD h)))))))
theorem bR6{w:den tNw}{f:den tFl}(h:bRk w)(hf:tot tFl f<=1073741824):fJ w f=some (pH w f):=by
 have hl:f.2.2.2.2.2.1.length<=1073741824:=bZv (fB (t:=tPt) _) (aP9 hf).2.1;unfold fJ ixb pj2 kW zz4 zz5;simp only[aZ,aW3 h.flows,aA];rw[aW (l:=f.2.2.2.2.2.1) (λk p=>if xJ w p then some (k:Int) else none) (by omega) (λk p hi hd hw hm hk=>by
  have hp:tot tPt p<=1073741824:=by have :=yK (t:=tPt) hm;have :=(aP9 hf).2.1;omega
  have hr:=λnow=>bAr h.as h.links h.dead (now:=now) hp
  have hr2:=λnow=>bAr h.as h.links h.dead (now:=now) (p:=fF p) (by rw[aEp];exact hp)
  simp only[hd,hi,hw,zZ,aA,aZ,aXy (aR0 hp),hr,hr2];rw[lC (λk (b:Bool)=>(b,(k:Int))) (true,(0:Int)) true [w.2.2.2.1,yQ w] (λ_ n b=>b&&aDn w p n) (λ_=>0) (λ_=>0) 0 id rfl (by simp) (by simp) (λ_ _ _=>bZ7 _) (λk n b hi hx hd hw hk hb=>by
   have hd:decide ((k:Int)<(([w.2.2.2.1,wr (w.2.2.2.1+wr (8+mO w))]:List Int).length:Int))=true:=hd;have hx:([w.2.2.2.1,wr (w.2.2.2.1+wr (8+mO w))]:List Int)[k]? =some n:=hx;simp only[hd,dW,bZ4,hx,hw,zZ,aA];unfold aDn;cases b<;>cases wO w.1 n w.2.2.2.2.1 p<;>rfl) (λa=>by simp)]
  show Option.bind (some (id (bI (λ_ n b=>b&&aDn w p n) 0 [w.2.2.2.1,yQ w] true))) _=_;simp only[bI,aA,id,cAf];unfold xJ;cases aDn w p w.2.2.2.1&&aDn w p (yQ w)<;>rfl) (by simp)]
 unfold pH;cases bN (λk p=>if xJ w p then some (k:Int) else none) 0 f.2.2.2.2.2.1<;>rfl
abbrev nT(w:den tNw):den tTo:=w.1
abbrev nK(w:den tNw):den tDb:=w.2.1
abbrev nG(w:den tNw):den tSc:=w.2.2.1
abbrev aG(w:den tNw):Int:=w.2.2.2.1
abbrev aH(w:den tNw):List Int:=w.2.2.2.2.1
abbrev aE(w:den tNw):lFy:=w.2.2.2.2.2.1
abbrev aB(w:den tNw):lFl:=w.2.2.2.2.2.2.1
abbrev aQ(w:den tNw):lIb:=w.2.2.2.2.2.2.2.1
abbrev dX(w:den tNw):Int:=w.2.2.2.2.2.2.2.2
def aIw(w:den tNw):q3:=
 ((nG w).1,aG w,dX w,(nT w).1,(nT w).2,(nK w).1,(nK w).2,(nG w).2.1,(nG w).2.2,aH w,aE w,aB w,aQ w)
theorem bMd{l:lRs}(h:l.length<=68719476736):eR l=some l:=by
 unfold eR;rw[aF (n:=([]:lRs).length) (by decide) (by simpa using h)];rfl
theorem bHi{g:den tSc}(h:SmB 68719476736 tSc g):fC g=some g:=by
 unfold fC;rw[bMd h.2.1.1,aA,aF (n:=([]:lUs).length) (by decide) (by simpa using h.2.2.1)];rfl
theorem bGz{g:den tSc}(h:SmB 68719476736 tSc g):qG g=some g:=by
 unfold qG pj3;rw[aF (b:=40) (n:=([]:lRs).length) (by decide) (by simpa using h.2.1.1),aF (b:=32) (n:=([]:lUs).length) (by decide) (by simpa using h.2.2.1)];simp only[bU,dH,cL,cK,cS,zZ,aA,cAl]
theorem aKi(f:den tFl):(((sP f).1,(sP f).2.1,(sP f).2.2.1,(sP f).2.2.2.1,(sP f).2.2.2.2.2.2.1,(sP f).2.2.2.2.2.2.2.1,(sP f).2.2.2.2.1,(sP f).2.2.2.2.2.1,(sP f).2.2.2.2.2.2.2.2):den tFl)=f:=rfl
theorem bDb(p:den tPk):(((pkR p).1,(pkR p).2.1,(pkR p).2.2.1,(pkR p).2.2.2.2.2.2.2.2.1,(pkR p).2.2.2.1,(pkR p).2.2.2.2.1,(pkR p).2.2.2.2.2.1,(pkR p).2.2.2.2.2.2.1,(pkR p).2.2.2.2.2.2.2.1,(pkR p).2.2.2.2.2.2.2.2.2):den tPk)=p:=rfl
theorem bH6{x:den tFy}(h:SmB 68719476736 tFy x):SmB 68719476736 tPk x.2.2:=h.2.2
theorem aLs{w:den tNw}(h:SmB 68719476736 tNw w):eC w=some (aIw w):=by
 obtain⟨hT,hK,hG,_,hD,hY,hF,hX,_⟩:=h;unfold eC oR bF pj2 pj3 pj4 pj9 zz4 zz5 zz6 zz7 zz8 zz9;simp only[aZ,bS8 hT,aZ4 hK.1,aZ4 hK.2,bHi hG,bC9 hD.1,aA];rw[(sR (λk (a:lFy)=>((k:Int),(nG w).1,aG w,dX w,a)) ((0:Int),(nG w).1,aG w,dX w,[]) [] (aE w) (λ_ x a=>a++[x]) cAc (λ_=>1) 68719476736 (λa=>((nG w).1,aG w,dX w,a)) rfl (bZv hY.1 (by decide)) (by rw[fI];simpa using hY.1) (λk x a hi hx hd hw hk hb=>by
  have e:=bH6 (hY.2 x (bZ9 hx));simp only[hd,hi,hw,zZ,aA,aZ,aD4 e,bDb,aF (b:=128) (n:=a.length) (m:=1) (by decide) hb];exact⟨rfl,by simp⟩) (λa=>by simp)).1,gD (λx=>x)]
 simp only[aA];rw[(sR (λk (a:lFl)=>((k:Int),(nG w).1,aG w,dX w,a)) ((0:Int),(nG w).1,aG w,dX w,[]) [] (aB w) (λ_ x a=>a++[x]) cAc (λ_=>1) 68719476736 (λa=>((nG w).1,aG w,dX w,a)) rfl (bZv hF.1 (by decide)) (by rw[fI];simpa using hF.1) (λk x a hi hx hd hw hk hb=>by
  have e:=hF.2 x (bZ9 hx);simp only[hd,hi,hw,zZ,aA,aZ,aG4 e,aKi,aF (b:=120) (n:=a.length) (m:=1) (by decide) hb];exact⟨rfl,by simp⟩) (λa=>by simp)).1,gD (λx=>x)]
 simp only[aA];rw[(sR (λk (a:lIb)=>((k:Int),(nG w).1,aG w,dX w,a)) ((0:Int),(nG w).1,aG w,dX w,[]) [] (aQ w) (λ_ x a=>a++[x]) cAc (λ_=>1) 68719476736 (λa=>((nG w).1,aG w,dX w,a)) rfl (bZv hX.1 (by decide)) (by rw[fI];simpa using hX.1) (λk x a hi hx hd hw hk hb=>by
  have e:=hX.2 x (bZ9 hx);simp only[hd,hi,hw,zZ,aA,aZ,bDn e,aF (b:=48) (n:=a.length) (m:=1) (by decide) hb];simp) (λa=>by simp)).1,gD (λx=>x)]
 simp only[aA,cAl,List.map_id'];rfl
theorem bX1{l:lFy}(h:SmB 68719476736 (.sl tFy) l):rX l=some l:=by
 unfold rX bF zz4 zz5 zz6 zz7 zz8 zz9;rw[(sR (λk (a:lFy)=>((k:Int),a)) ((0:Int),[]) [] l (λ_ x a=>a++[x]) cAc (λ_=>1) 68719476736 id rfl (bZv h.1 (by decide)) (by rw[fI];simpa using h.1) (λk x a hi hx hd hw hk hb=>by
  have e:=bH6 (h.2 x (bZ9 hx));simp only[hd,hi,hw,zZ,aA,aZ,bTt e,bDb,aF (b:=128) (n:=a.length) (m:=1) (by decide) hb];exact⟨rfl,by simp⟩) (λa=>by simp)).1,gD (λx=>x)]
 simp
theorem bTn{l:lFl}(h:SmB 68719476736 (.sl tFl) l):nJ l=some l:=by
 unfold nJ pj9 zz4 zz5 zz6 zz7 zz8;rw[(sR (λk (a:lFl)=>((k:Int),a)) ((0:Int),[]) [] l (λ_ x a=>a++[x]) cAc (λ_=>1) 68719476736 id rfl (bZv h.1 (by decide)) (by rw[fI];simpa using h.1) (λk x a hi hx hd hw hk hb=>by
  have e:=h.2 x (bZ9 hx);simp only[hd,hi,hw,zZ,aA,aZ,aTq e,aKi,aF (b:=120) (n:=a.length) (m:=1) (by decide) hb];exact⟨rfl,by simp⟩) (λa=>by simp)).1,gD (λx=>x)]
 simp
theorem bSd{l:lIb}(h:SmB 68719476736 (.sl tIb) l):nP l=some l:=by
 unfold nP pj4;rw[(sR (λk (a:lIb)=>((k:Int),a)) ((0:Int),[]) [] l (λ_ x a=>a++[x]) cAc (λ_=>1) 68719476736 id rfl (bZv h.1 (by decide)) (by rw[fI];simpa using h.1) (λk x a hi hx hd hw hk hb=>by
  have e:=h.2 x (bZ9 hx);simp only[hd,hi,hw,zZ,aA,aZ,bSg e,aF (b:=48) (n:=a.length) (m:=1) (by decide) hb];simp) (λa=>by simp)).1,gD (λx=>x)]
 simp
theorem bSk{w:den tNw}(h:SmB 68719476736 tNw w):vN w=some (aIw w):=by
 obtain⟨hT,hK,hG,_,hD,hY,hF,hX,_⟩:=h;unfold vN pj2 pj3 bO zz4 zz5 zz6 zz7 zz8 zz9;simp only[aZ,bBq hT,aBs hK.1,aBs hK.2,bGz hG,bX1 hY,bTn hF,bSd hX,aA,aF (b:=8) (n:=([]:List Int).length) (m:=w.2.2.2.2.1.length) (by decide) (by simpa using hD.1),zZ,bU,dH,cL,cK,cS,cAl];rfl
def bX(w:den tNw):q1:=
 (aE w,aB w,aQ w,(nT w).1,(nT w).2,(nK w).1,(nK w).2,(nG w).1,(nG w).2.1,(nG w).2.2,aG w,aH w,dX w)
def bR(w:den tNw)(l:lFl):den tNw:=(nT w,nK w,nG w,aG w,aH w,aE w,l,aQ w,dX w)
def cI(r:Int)(p:den tPk)(f:den tFl):den tFl:=if f.1==r then (if p.1==2 then jH f p else iK f p) else f
def sS(w:den tNw)(r:Int)(p:den tPk):den tNw:=bR w ((aB w).map (cI r p))
def jO(p:den tPk):Prop:= ∀x∈p.2.2.2.2.2.2.2.2.2,0<=x/\x<=255
theorem bSx{α S R:Type}(enc:Nat->List α->S)(l:List α)(g:α->α)(out:List α->R){step:S->Option (S⊕R)}(hl:l.length<=4611686018427387904)
  (h:∀(k:Nat) (x:α) (a:List α),a.length=l.length->a[k]? =some x->x∈l->k<l.length->decide ((k:Int)<(l.length:Int))=true->IntKind.i64.wrap ((k:Int)+1)=((k+1:Nat):Int)->step (enc k a)=some (.inl (enc (k+1) (a.set k (g x)))))
  (he:∀a,a.length=l.length->step (enc l.length a)=some (.inr (out a))):aC step (enc 0 l)=some (out (l.map g)):=by
 have key:∀(rest pre:List α),pre++rest=l->aC step (enc pre.length (pre.map g++rest))=some (out (l.map g)):=by
  intro rest
  induction rest with
  | nil=>
   intro pre hp;rw[cAs]at hp;subst hp;rw[cAs];exact aT (he _ (by simp))
  | cons x rest ih=>
   intro pre hp;have hlt:pre.length<l.length:=by rw[<- hp];simp
   have hx:(pre.map g++x::rest)[pre.length]? =some x:=by simp
   have hlen:(pre.map g++x::rest).length=l.length:=by rw[<- hp];simp
   rw[cT (h pre.length x _ hlen hx (by rw[<- hp];simp) hlt (by simpa using hlt) (by rw[wri (by omega) (by omega)];omega))];have hs:(pre.map g++x::rest).set pre.length (g x)=(pre++[x]).map g++rest:=by
    rw[List.set_append_right _ _ (by simp)];simp
   rw[hs];have :=ih (pre++[x]) (by simpa using hp);simpa using this
 exact key l [] rfl
theorem bN6{α:Type}{a:List α}{k:Nat}{x:α}(h:a[k]? =some x):a.set k x=a:=by
 obtain⟨hlt,hx⟩:=bZy.1 h;rw[<- hx];exact List.set_getElem_self hlt
theorem bTb{f:den tFl}(h:tot tFl f<=1073741824):SmB 68719476736 tFl f:=(bW h).mono (by decide)
theorem bR9{α:Type}{a:List α}{k n:Nat}(h:a.length=n)(hk:k<n):decide ((k:Int)<(a.length:Int))=true/\decide (k<a.length)=true:=by
 constructor<;>simp<;>omega
theorem aRw{w:den tNw}{r:Int}{p:den tPk}(hF:∀f∈aB w,tot tFl f<=1073741824)(hl:(aB w).length<=1073741824)(hp:tot tPk p<=1073741824)(hb:jO p):gQ w r p=some (bX (sS w r p)):=by
 unfold gQ ixb bF pj9 zz4 zz5 zz6 zz7 zz8;refine bSx (λk (a:lFl)=>((k:Int),a)) (aB w) (cI r p) (λl=>bX (bR w l)) (bZv hl (by decide)) (λk f a ha hx hm hk hd hw=> ?_) (λa ha=> ?_)
 .obtain⟨d1,d2⟩:=bR9 ha hk;have hd:decide ((k:Int)<(w.2.2.2.2.2.2.1.length:Int))=true:=hd;simp only[hd,d1,d2,dW,bZ4,hx,zZ,aA,aZ,aEk,bTi (bTb (hF f hm)),bSc (hF f hm) hp hb,aKi,hw];unfold cI;cases f.1==r
  .simp only[cAb,zZ,bZ8,zU,aA,bN6 hx]
  .simp only[bZ5,zY,zV];cases p.1==2<;>rfl
 .simp;rfl
theorem aKb(p:den tPk):goTo p p.2.2.2.2.1 p.2.2.2.2.2.1 p.2.2.2.2.2.2.1=p:=rfl
theorem aGg(t:den tTo)(p:den tPk):∃b,aX t p=goTo p p.2.2.2.2.1 p.2.2.2.2.2.1 b:=by
 unfold aX;split
 .exact⟨_,rfl⟩
 .exact⟨_,(aKb p).symm⟩
theorem aZc(p:den tPk):∃i j b,adv p=goTo p i j b:=by
 unfold adv;split
 .exact⟨_,_,_,(aKb p).symm⟩
 .split<;>exact⟨_,_,_,rfl⟩
theorem aYc{t:den tTo}{now:Int}:∀(n:Nat) (p:den tPk),∃i j b,(goC t now n p).2=goTo p i j b
 | 0,p=>by obtain⟨b,hb⟩:=aGg t p;exact⟨_,_,_,hb⟩
 | n+1,p=>by
  obtain⟨b,hb⟩:=aGg t p;unfold goC;split
  .obtain⟨i,j,c,h1⟩:=aYc (t:=t) (now:=now) n (adv (aX t p));obtain⟨i',j',c',h2⟩:=aZc (aX t p);rw[h1,h2,hb];exact⟨_,_,_,rfl⟩
  .exact⟨_,_,_,hb⟩
theorem aEa(t:den tTo)(r now dead inn:Int)(p:den tPk):∃i j b,(fwd t r now dead inn p).2.2.1=goTo p i j b:=by
 obtain⟨i,j,b,h⟩:∃i j b,(bA t now p).2=goTo p i j b:=aYc _ p;unfold fwd
 repeat' split
 all_goals first
  | exact⟨_,_,_,(aKb p).symm⟩
  | exact⟨_,_,_,h⟩
  | (obtain⟨i',j',b',h'⟩:=aZc (bA t now p).2;exact⟨_,_,_,by rw[show (0,pEg (bQ (bA t now p).2) (dN (bA t now p).2),adv (bA t now p).2,pEg (bQ (bA t now p).2) (dN (bA t now p).2)).2.2.1=adv (bA t now p).2 from rfl,h',h];rfl⟩)
theorem aCk(t:den tTo)(r now dead inn:Int)(p:den tPk):(fwd t r now dead inn p).2.2.1.1=p.1/\(fwd t r now dead inn p).2.2.1.2.1=p.2.1/\(fwd t r now dead inn p).2.2.1.2.2.2.2.2.2.2.1=p.2.2.2.2.2.2.2.1/\(fwd t r now dead inn p).2.2.1.2.2.2.2.2.2.2.2.2=p.2.2.2.2.2.2.2.2.2:=by
 obtain⟨i,j,b,h⟩:=aEa t r now dead inn p;rw[h];exact⟨rfl,rfl,rfl,rfl⟩
theorem aFk{t:den tTo}{r now dead inn:Int}{p:den tPk}(h:((fwd t r now dead inn p).1==2)=false):dR p=true:=by
 cases hv:dR p with
 | true=>rfl
 | false=>
  unfold fwd at h;rw[hv]at h;cases h
def sT(w:den tNw):den tNw:=(nT w,nK w,nG w,aG w,aH w,aE w,aB w,aQ w,wr (dX w+1))
def eH(w:den tNw)(r eg:Int)(p:den tPk):den tNw:=
 if (pQ (nG w) p.2.2.2.2.2.2.2.1 r eg (aG w)).2.1&&decide ((aE w).length<150) then
  (nT w,nK w,((pQ (nG w) p.2.2.2.2.2.2.2.1 r eg (aG w)).1,(pQ (nG w) p.2.2.2.2.2.2.2.1 r eg (aG w)).2.2.1,(pQ (nG w) p.2.2.2.2.2.2.2.1 r eg (aG w)).2.2.2),aG w,aH w,aE w++[((remote (nT w) r eg).1,(remote (nT w) r eg).2,p)],aB w,aQ w,dX w)
 else sT w
structure aIo (w:den tNw):Prop where
 as:(nT w).1.length<=68719476736
 links:(nT w).2.length<=1073741824
 dead:(aH w).length<=68719476736
 res:(nG w).2.1.length<=1073741824
 use:(nG w).2.2.length<=1073741824
 flowsN:(aB w).length<=1073741824
 flows:∀f∈aB w,tot tFl f<=1073741824
theorem bDp{w:den tNw}{r:Int}{v:den aY5}(h:aIo w):kT w r v=some (bX (eH w r v.2.1 v.2.2)):=by
 unfold kT eH bF pj2 pj3 zz4 zz5 zz6 zz7 zz8 zz9;simp only[aZ,bSq h.res h.use,aA,bU,dH,cL,cK,cS];have key:∀n:Nat,decide ((n:Int)>=150)= !decide (n<150):=λn=>by rw[cAv];simp only[zR,cAx,decide_eq_false_iff_not];omega
 have h150:decide ((w.2.2.2.2.2.1.length:Int)>=150)= !decide ((aE w).length<150):=key _;rw[h150];cases ct:(pQ (nG w) v.2.2.2.2.2.2.2.2.2.1 r v.2.1 (aG w)).2.1
 .simp only[cAb,zZ,aA,cAk,bZ8,zU];rfl
 .by_cases hl:(aE w).length<150
  .rw[zX hl];simp only[bZ5,zY,aA,cCm,zV,aOl (t:=w.1) (bZv h.links (by decide)),aF (b:=128) (n:=w.2.2.2.2.2.1.length) (m:=1) (by decide) (show (aE w).length+1<=_ by omega),zZ];rfl
  .rw[zW hl];simp only[bZ5,cAb,zZ,zY,aA,cCl,bZ8,zU];rfl
def proc0(w:den tNw)(r inn:Int)(p:den tPk):den tNw:=
 if (aD (nT w) (aG w) (aH w) r inn p).1==0 then eH w r (aD (nT w) (aG w) (aH w) r inn p).2.1 (aD (nT w) (aG w) (aH w) r inn p).2.2.1
 else if (aD (nT w) (aG w) (aH w) r inn p).1==1 then sS w r (aD (nT w) (aG w) (aH w) r inn p).2.2.1
 else sT w
structure aIl (p:den tPk):Prop where
 sz:tot tPk p<=1073741824
 by_:jO p
theorem aIl.step{p:den tPk}(h:aIl p)(t:den tTo)(now:Int)(dead:List Int)(r inn:Int):aIl (aD t now dead r inn p).2.2.1 where
 sz:=by unfold aD;rw[aG1];exact h.sz
 by_:=λx hx=>h.by_ x (by unfold aD at hx;rwa [(aCk t r now _ inn p).2.2.2]at hx)
theorem aRx{w:den tNw}{r inn:Int}{p:den tPk}(h:aIo w)(hp:aIl p)(hk:(p.1==1)=false):dZ w r inn p=some (bX (proc0 w r inn p)):=by
 have hp2:tot tPt p.2.2.2.1<=1073741824:=bAm hp.sz;have hs:=hp.step (nT w) (aG w) (aH w) r inn;unfold dZ bE.b ixb bF qN pj2 pj3 pj4 kW bO bV cJ zz4 zz5 zz6 zz7 zz8 zz9;simp only[aZ,aR5 h.links h.dead,bGq h.as (bZv h.links (by decide)) (bZv hp.sz (by decide)) hp2,aA,bU,dH,cL,cK,cS,hk];rw[show fwd w.1 r w.2.2.2.1 (eG w.1 w.2.2.2.2.1 r) inn p=aD (nT w) (aG w) (aH w) r inn p from rfl];unfold proc0;generalize aD (nT w) (aG w) (aH w) r inn p=v at hs;simp only[fwI,aZ];cases c0:v.1==0
 .cases c1:v.1==1
  .cases v.1==7
   .simp only[zY,aA,bZ8,zU];rfl
   .simp only[zZ,zY,aA,bZ8,zU];rfl
  .simp only[zZ,zY,aA,bZ8,zU,zV,aRw h.flows h.flowsN hs.sz hs.by_]
 .simp only[zZ,zV,bDp h,aA]
theorem aWx:∀(k n:Nat),n<128 ^ (k+1)-> ∀x∈vi k n,0<=x/\x<=255
 | 0,n,h,x,hx=>by
  have :x=(n:Int):=by simpa [vi] using hx
  subst this;have :128 ^ (0+1)=128:=rfl;omega
 | k+1,n,h,x,hx=>by
  unfold vi at hx;split at hx
  .have :x=(n:Int):=by simpa using hx
   subst this;omega
  .rcases List.mem_cons.1 hx with rfl | hx
   .omega
   .refine aWx k (n / 128) ?_ x hx;rw[Nat.div_lt_iff_lt_mul (by decide)]
    rwa [<- Nat.pow_succ]
def uH(l:List Int):Prop:= ∀x∈l,0<=x/\x<=255
theorem bG8{b:List Int}{n:Int}(h:uH b):uH (aC0 b n):=by
 unfold aC0;split
 .rename_i hr;have :=aS.1 hr;intro x hx;rcases bZ2.1 hx with hx | hx
  .exact h x hx
  .exact aWx 5 n.toNat (by have :128 ^ (5+1)=4398046511104:=rfl;omega) x hx
 .exact h
theorem aPq:∀(l b:List Int),uH b->uH (aLe b l)
 | [],b,h=>h
 | x::xs,b,h=>aPq xs (aC0 b x) (bG8 h)
theorem aRg(x:den tRv):uH (sB x):=by
 unfold sB;split
 .exact aPq _ _ (λx hx=>by cases hx)
 .exact λx hx=>by cases hx
theorem bSw{r now d:Int}{p:den tPk}(h:tot tPk p<=536870912):aIl (dG r now d p) where
 sz:=by have :=aU5 r now d p;omega
 by_:=aRg _
theorem bLg{x:den tIb}{p:den tPk}(h:aIl p):aIl (lB x p) where
 sz:=bZv (aTw x p) h.sz
 by_:=by
  unfold lB;split
  .exact λx hx=>by cases hx
  .exact λx hx=>by cases hx
theorem bR2{l:lIb}{a b:Int}(h:l.length<=68719476736):pB l a b=some (dD l a b):=by
 unfold pB dD;rw[aW (l:=l) (λk x=>if oO a b x then some (k:Int) else none) (by omega) (λk x hi hd hw hm hk=>by
  simp only[hd,hi,hw,zZ,aA];unfold oO;cases x.1==a<;>cases x.2.1==b<;>rfl) (by simp),aKu (oO a b)]
 cases l.findIdx? (oO a b)<;>rfl
theorem aNd(l:lIb)(a b:Int):dD l a b= -1\/ ∃(k:Nat) (x:den tIb),dD l a b=(k:Int)/\l[k]? =some x:=by
 unfold dD;cases h:l.findIdx? (oO a b) with
 | none=>exact .inl rfl
 | some i=>
  have hlt:i<l.length:=by
   have :=List.findIdx?_eq_some_iff_findIdx_eq.1 h;exact this.1
  exact .inr ⟨i,l[i],by simp,bZw hlt⟩
def nV(w:den tNw)(i:Nat)(x:den tIb):den tNw:=(nT w,nK w,nG w,aG w,aH w,aE w,aB w,(aQ w).set i x,dX w)
def iT(w:den tNw)(i:Nat):den tIb:=((aQ w)[i]?).getD (0,0,0,[])
def nB(w:den tNw)(r:Int)(p:den tPk):den tNw:=
 if dD (aQ w) r p.2.1<0 then w
 else if zJ (cV (iT w (dD (aQ w) r p.2.1).toNat) p) p then
  proc0 (nV w (dD (aQ w) r p.2.1).toNat (cV (iT w (dD (aQ w) r p.2.1).toNat) p)) r 0 (lB (cV (iT w (dD (aQ w) r p.2.1).toNat) p) p)
 else nV w (dD (aQ w) r p.2.1).toNat (cV (iT w (dD (aQ w) r p.2.1).toNat) p)
def oM(w:den tNw)(r d:Int)(p:den tPk):den tNw:=
 sT (if (fT (vE p)).length>1 then proc0 w r 0 (dG r (aG w) d p) else sS w r (dG r (aG w) d p))
def cZ(w:den tNw)(r inn:Int)(p:den tPk):den tNw:=
 if (aD (nT w) (aG w) (aH w) r inn p).1==0 then eH w r (aD (nT w) (aG w) (aH w) r inn p).2.1 (aD (nT w) (aG w) (aH w) r inn p).2.2.1
 else if (aD (nT w) (aG w) (aH w) r inn p).1==1 then
  (if p.1==1 then nB w r (aD (nT w) (aG w) (aH w) r inn p).2.2.1 else sS w r (aD (nT w) (aG w) (aH w) r inn p).2.2.1)
 else if (aD (nT w) (aG w) (aH w) r inn p).1==7&&p.1==1 then oM w r (aD (nT w) (aG w) (aH w) r inn p).2.2.2 p
 else sT w
theorem aT1{w:den tNw}(h:aIo w){i:Nat}{x:den tIb}:aIo (nV w i x):=⟨h.as,h.links,h.dead,h.res,h.use,h.flowsN,h.flows⟩
theorem aIs{x:den tIb}{p:den tPk}(h:zJ x p=true):((lB x p).1==1)=false:=by
 unfold lB;rw[h];rfl
theorem aSw{w:den tNw}{r inn:Int}{p:den tPk}(h:aIo w)(hbn:(aQ w).length<=68719476736)(hbx:∀x∈aQ w,tot tIb x<=1073741824)(hz:tot tPk p<=536870912)(hb:jO p):bE w r inn p=some (bX (cZ w r inn p)):=by
 have hp:aIl p:=⟨by omega,hb⟩
 have hp2:tot tPt p.2.2.2.1<=1073741824:=bAm hp.sz;have hs:=hp.step (nT w) (aG w) (aH w) r inn;have hkeep:=aCk w.1 r w.2.2.2.1 (eG w.1 w.2.2.2.2.1 r) inn p;unfold bE bE.b ixb bF qN pj2 pj3 pj4 kW bO bV cJ zz4 zz5 zz6 zz7 zz8 zz9;simp only[aZ,aR5 h.links h.dead,bGq h.as (bZv h.links (by decide)) (bZv hp.sz (by decide)) hp2,aA,bU,dH,cL,cK,cS];rw[show fwd w.1 r w.2.2.2.1 (eG w.1 w.2.2.2.2.1 r) inn p=aD (nT w) (aG w) (aH w) r inn p from rfl]at hkeep ⊢;unfold cZ;generalize aD (nT w) (aG w) (aH w) r inn p=v at hs hkeep;simp only[fwI,aZ];cases c0:v.1==0
 .cases c1:v.1==1
  .cases c7:v.1==7
   .simp only[zY,aA,bZ8,zU,cAk];rfl
   .cases ck:p.1==1
    .simp only[zZ,zY,aA,bZ8,zU,cCl];rfl
    .have hn:aIl (dG r (aG w) v.2.2.2 p):=bSw hz;have ht1:tot tPt (vE p)<=34359738368:=bZv (aI0 p) (bZv hp2 (by decide));have hlen:decide (((fT (vE p)).length:Int)>1)=decide ((fT (vE p)).length>1):=by rw[cAv];simp only[zR,gt_iff_lt];omega
     have e1:dZ w r 0 ((pkR (dG r w.2.2.2.1 v.2.2.2 p)).1,(pkR (dG r w.2.2.2.1 v.2.2.2 p)).2.1,(pkR (dG r w.2.2.2.1 v.2.2.2 p)).2.2.1,(pkR (dG r w.2.2.2.1 v.2.2.2 p)).2.2.2.2.2.2.2.2.1,(pkR (dG r w.2.2.2.1 v.2.2.2 p)).2.2.2.1,(pkR (dG r w.2.2.2.1 v.2.2.2 p)).2.2.2.2.1,(pkR (dG r w.2.2.2.1 v.2.2.2 p)).2.2.2.2.2.1,(pkR (dG r w.2.2.2.1 v.2.2.2 p)).2.2.2.2.2.2.1,(pkR (dG r w.2.2.2.1 v.2.2.2 p)).2.2.2.2.2.2.2.1,(pkR (dG r w.2.2.2.1 v.2.2.2 p)).2.2.2.2.2.2.2.2.2)=some (bX (proc0 w r 0 (dG r (aG w) v.2.2.2 p))):=aRx h hn rfl;have e2:gQ w r ((pkR (dG r w.2.2.2.1 v.2.2.2 p)).1,(pkR (dG r w.2.2.2.1 v.2.2.2 p)).2.1,(pkR (dG r w.2.2.2.1 v.2.2.2 p)).2.2.1,(pkR (dG r w.2.2.2.1 v.2.2.2 p)).2.2.2.2.2.2.2.2.1,(pkR (dG r w.2.2.2.1 v.2.2.2 p)).2.2.2.1,(pkR (dG r w.2.2.2.1 v.2.2.2 p)).2.2.2.2.1,(pkR (dG r w.2.2.2.1 v.2.2.2 p)).2.2.2.2.2.1,(pkR (dG r w.2.2.2.1 v.2.2.2 p)).2.2.2.2.2.2.1,(pkR (dG r w.2.2.2.1 v.2.2.2 p)).2.2.2.2.2.2.2.1,(pkR (dG r w.2.2.2.1 v.2.2.2 p)).2.2.2.2.2.2.2.2.2)=some (bX (sS w r (dG r (aG w) v.2.2.2 p))):=aRw h.flows h.flowsN hn.sz hn.by_;simp only[zZ,zY,aA,bZ8,zU,cCm,zV,bTc (t:=w.1) (r:=r) (now:=w.2.2.2.1) (d:=v.2.2.2) (bZv hp.sz (by decide)),aXd (wJ (p:=p) (by omega)),bU,dH,cL,cK,cS];unfold kB;simp only[aRy ht1,aA,hlen,e1,e2];unfold oM;cases hd:decide ((fT (vE p)).length>1)
     .rw[zS (of_decide_eq_false hd)];rfl
     .rw[zT (of_decide_eq_true hd)];rfl
  .cases ck:p.1==1
   .simp only[zZ,zY,aA,bZ8,zU,zV,aRw h.flows h.flowsN hs.sz hs.by_]
   .simp only[zZ,zY,aA,bZ8,zU,zV,bR2 hbn];unfold nB;rw[hkeep.2.1];rcases aNd (aQ w) r p.2.1 with hf | ⟨k,x,hf,hx⟩
    .rw[show dD w.2.2.2.2.2.2.2.1 r p.2.1= -1 from hf];rfl
    .have hlt:=(bZy.1 hx).1;have hx0:w.2.2.2.2.2.2.2.1[k]? =some x:=hx;have hxm:=hbx x (bZ9 hx);have hxs:SmB 4294967296 tIb x:=(bW hxm).mono (by decide);have hvs:SmB 4294967296 tPk v.2.2.1:=(bW hs.sz).mono (by decide);have hd1:decide ((k:Int)<(w.2.2.2.2.2.2.2.1.length:Int))=true:=zX (by have :k<w.2.2.2.2.2.2.2.1.length:=hlt;omega);have hd2:decide (k<w.2.2.2.2.2.2.2.1.length)=true:=zX hlt;have hset:(w.2.2.2.2.2.2.2.1.set k (cV x v.2.2.1))[k]? =some (cV x v.2.2.1):=cB4 hlt;have hba:iT w k=x:=by unfold iT;rw[hx];rfl
     rw[show dD w.2.2.2.2.2.2.2.1 r p.2.1=(k:Int) from hf,zW (show ¬ (k:Int)<0 by omega),zS (show ¬ (k:Int)<0 by omega),bZ4,hba];have e1:dZ (w.1,w.2.1,w.2.2.1,w.2.2.2.1,w.2.2.2.2.1,w.2.2.2.2.2.1,w.2.2.2.2.2.2.1,w.2.2.2.2.2.2.2.1.set k (cV x v.2.2.1),w.2.2.2.2.2.2.2.2) r 0 (lB (cV x v.2.2.1) v.2.2.1)=some (bX (proc0 (nV w k (cV x v.2.2.1)) r 0 (lB (cV x v.2.2.1) v.2.2.1))):=by
      cases ca:zJ (cV x v.2.2.1) v.2.2.1 with
      | true=>exact aRx (aT1 h) (bLg hs) (aIs ca)
      | false=>exact aRx (aT1 h) (bLg hs) (by unfold lB;rw[ca];rfl)
     simp only[zY,dW,hd1,hd2,zZ,hx0,aA,bTu hxs hvs,cBl,hset,bSz (x:=cV x v.2.2.1) (p:=v.2.2.1) (bZv (bAm hs.sz) (by decide)),bU,dH,cL,cK,cS,pkB,aZ,e1];cases zJ (cV x v.2.2.1) v.2.2.1<;>rfl
 .simp only[zZ,zV,bDp h,aA]
def aIb(p q:den tPk):Prop:=p.2.2.2.1=q.2.2.2.1/\p.2.2.2.2.1=q.2.2.2.2.1/\p.2.2.2.2.2.1=q.2.2.2.2.2.1
theorem aIb.cur{p q:den tPk}(h:aIb p q):cO p=cO q/\cF p=cF q/\bQ p=bQ q/\dN p=dN q/\dI p=dI q/\dQ p=dQ q:=by
 obtain⟨h1,h2,h3⟩:=h;have a1:cO p=cO q:=by unfold cO;rw[h1,h2,h3]
 have a2:cF p=cF q:=by unfold cF;rw[a1,h1,h2,h3]
 have a3:bQ p=bQ q:=by unfold bQ;rw[h1,h2]
 have a4:dN p=dN q:=by unfold dN;rw[a3,h3]
 have a5:dI p=dI q:=by unfold dI;rw[a3,h3]
 exact⟨a1,a2,a3,a4,a5,by unfold dQ aHa;rw[a2,a5,h1,h2]⟩
theorem aGi(t:den tTo)(p:den tPk):aIb (aX t p) p:=by
 obtain⟨b,hb⟩:=aGg t p;rw[hb];exact⟨rfl,rfl,rfl⟩
theorem aIb.trans{p q r:den tPk}(h:aIb p q)(k:aIb q r):aIb p r:=⟨h.1.trans k.1,h.2.1.trans k.2.1,h.2.2.trans k.2.2⟩
theorem zO{t:den tTo}{now:Int}{n:Nat}{p:den tPk}(h:(goC t now n p).1=0):dO t now p=0:=by
 cases n with
 | zero=>exact h
 | succ n=>
  unfold goC at h;split at h
  .rename_i hc;rw[bZu]at hc;simpa using hc.1
  .exact h
theorem bI4{t:den tTo}{now:Int}:∀(n:Nat) (p:den tPk),(goC t now n p).1<=5
 | 0,p=>by
  show dO t now p<=5;unfold dO
  repeat' split
  all_goals decide
 | n+1,p=>by
  unfold goC;split
  .exact bI4 n _
  .show dO t now p<=5;unfold dO
   repeat' split
   all_goals decide
theorem fY(w:den tNw):tot tNw w=(tot (.sl tAS) (nT w).1+tot (.sl tLk) (nT w).2)+((tot (.sl tSg) (nK w).1+tot (.sl tSg) (nK w).2)+((0+(tot (.sl tRs) (nG w).2.1+tot (.sl tUs) (nG w).2.2))+(0+(tot (.sl ti) (aH w)+(tot (.sl tFy) (aE w)+(tot (.sl tFl) (aB w)+(tot (.sl tIb) (aQ w)+0))))))):=rfl
theorem aNq{w:den tNw}(h:tot tNw w<=1073741824):aIo w where
 as:=by have :=fY w;have :=fB (t:=tAS) (nT w).1;omega
 links:=by have :=fY w;have :=fB (t:=tLk) (nT w).2;omega
 dead:=by have :=fY w;have :=fB (t:=ti) (aH w);omega
 res:=by have :=fY w;have :=fB (t:=tRs) (nG w).2.1;omega
 use:=by have :=fY w;have :=fB (t:=tUs) (nG w).2.2;omega
 flowsN:=by have :=fY w;have :=fB (t:=tFl) (aB w);omega
 flows:=λf hf=>by have :=fY w;have :=yK (t:=tFl) hf;omega
theorem bVe{w:den tNw}(h:tot tNw w<=1073741824):(aQ w).length<=68719476736/\ ∀x∈aQ w,tot tIb x<=1073741824:=
 ⟨by have :=fY w;have :=fB (t:=tIb) (aQ w);omega,λx hx=>by have :=fY w;have :=yK (t:=tIb) hx;omega⟩
theorem aCf(w:den tNw):tot tNw (sT w)=tot tNw w:=rfl
theorem bCv(l:lUs):tot (.sl tUs) l=l.length:=jB rfl
theorem bJf(g:den tSc)(id s d now:Int):tot (.sl tRs) (pQ g id s d now).2.2.1=tot (.sl tRs) g.2.1/\tot (.sl tUs) (pQ g id s d now).2.2.2<=tot (.sl tUs) g.2.2+1:=by
 have m1:=aVj g.2.2 id s d;have m2:=aVj g.2.2 0 s d;rw[bCv,bCv];unfold pQ;split
 .exact⟨rfl,by simpa using m1⟩
 .split
  .exact⟨rfl,by simpa using m2⟩
  .exact⟨rfl,by simp⟩
theorem aTz(w:den tNw)(r eg:Int)(p:den tPk):tot tNw (eH w r eg p)<=tot tNw w+(2+tot tPk p):=by
 unfold eH;split
 .obtain⟨e1,e2⟩:=bJf (nG w) p.2.2.2.2.2.2.2.1 r eg (aG w);rw[fY,fY w];simp only[nT,nK,nG,aH,aE,aB,aQ]at e1 e2 ⊢;rw[rU,aD6];have e3:tot tFy ((remote w.1 r eg).1,(remote w.1 r eg).2,p)=tot tPk p:=by simp[oV,qM]
  rw[e3];omega
 .rw[aCf];omega
theorem bLc(f:den tFl)(p:den tPk):tot tFl (jH f p)=tot tFl f:=by
 unfold jH;split<;>rfl
theorem bL1(r:Int)(p:den tPk)(f:den tFl):tot tFl (cI r p f)<=tot tFl f+1:=by
 unfold cI;split
 .split
  .rw[bLc];omega
  .exact bJp f p
 .omega
theorem bCg(r:Int)(p:den tPk):∀l:lFl,tot (.sl tFl) (l.map (cI r p))<=tot (.sl tFl) l+l.length
 | []=>by simp
 | f::l=>by
  have h1:=bL1 r p f;have h2:=bCg r p l;rw[cAd,jF,jF,cAy];omega
theorem aEz(w:den tNw)(l:lFl):tot tNw (bR w l)=(tot (.sl tAS) (nT w).1+tot (.sl tLk) (nT w).2)+((tot (.sl tSg) (nK w).1+tot (.sl tSg) (nK w).2)+((0+(tot (.sl tRs) (nG w).2.1+tot (.sl tUs) (nG w).2.2))+(0+(tot (.sl ti) (aH w)+(tot (.sl tFy) (aE w)+(tot (.sl tFl) l+(tot (.sl tIb) (aQ w)+0))))))):=rfl
theorem bE6(w:den tNw)(k:Nat)(x:den tIb):tot tNw (nV w k x)=(tot (.sl tAS) (nT w).1+tot (.sl tLk) (nT w).2)+((tot (.sl tSg) (nK w).1+tot (.sl tSg) (nK w).2)+((0+(tot (.sl tRs) (nG w).2.1+tot (.sl tUs) (nG w).2.2))+(0+(tot (.sl ti) (aH w)+(tot (.sl tFy) (aE w)+(tot (.sl tFl) (aB w)+(tot (.sl tIb) ((aQ w).set k x)+0))))))):=rfl
theorem aKq(w:den tNw)(r:Int)(p:den tPk):tot tNw (sS w r p)<=tot tNw w+(aB w).length:=by
 have h:=bCg r p (aB w);unfold sS;rw[aEz,fY w];omega
theorem aVe(w:den tNw)(r inn:Int)(p:den tPk):tot tNw (proc0 w r inn p)<=tot tNw w+(2+tot tPk p+(aB w).length):=by
 unfold proc0;split
 .have :=aTz w r (aD (nT w) (aG w) (aH w) r inn p).2.1 (aD (nT w) (aG w) (aH w) r inn p).2.2.1;have e:tot tPk (aD (nT w) (aG w) (aH w) r inn p).2.2.1=tot tPk p:=aG1 _ _ _ _ _ _;omega
 .split
  .have :=aKq w r (aD (nT w) (aG w) (aH w) r inn p).2.2.1;omega
  .rw[aCf];omega
theorem aS6{t:Ty}{l:List (den t)}{k:Nat}{x y:den t}(h:l[k]? =some x):tot (.sl t) (l.set k y)+tot t x=tot (.sl t) l+tot t y:=by
 induction l generalizing k with
 | nil=>cases h
 | cons z l ih=>
  cases k with
  | zero=>
   have :z=x:=by simpa using h
   subst this;rw[List.set_cons_zero,jF,jF];omega
  | succ k=>
   have :=ih (k:=k) (by simpa using h);rw[List.set_cons_succ,jF,jF];omega
theorem bK6(x:den tIb)(p:den tPk):tot tIb (cV x p)<=tot tIb x+(1+tot tPk p):=by
 have h1:=bIq x p;have h2:=(aLm (p:=p) (bZ7 _)).2;have e:∀y:den tIb,tot tIb y=tot (.sl tMs) y.2.2.2:=λy=>by simp[oV,qM]
 rw[e,e];omega
theorem bKc(w:den tNw)(r:Int)(p:den tPk):tot tNw (nB w r p)<=tot tNw w+(3+2 * tot tPk p+(aB w).length):=by
 unfold nB;split
 .omega
 .rcases aNd (aQ w) r p.2.1 with hf | ⟨k,x,hf,hx⟩
  .rename_i hc;rw[hf]at hc;exact absurd (by decide) hc
  .have hba:iT w k=x:=by unfold iT;rw[hx];rfl
   rw[hf,bZ4,hba];have h1:=aS6 (t:=tIb) (y:=cV x p) hx;have h2:=bK6 x p;have h3:tot tNw (nV w k (cV x p))<=tot tNw w+(1+tot tPk p):=by
    rw[bE6,fY w];omega
   split
   .have h4:=aVe (nV w k (cV x p)) r 0 (lB (cV x p) p);have h5:=aTw (cV x p) p;have h6:(aB (nV w k (cV x p))).length=(aB w).length:=rfl;omega
   .omega
theorem bLj(w:den tNw)(r d:Int)(p:den tPk):tot tNw (oM w r d p)<=tot tNw w+(20+tot tPk p+(aB w).length):=by
 unfold oM;rw[aCf];split
 .have h1:=aVe w r 0 (dG r (aG w) d p);have h2:=aU5 r (aG w) d p;omega
 .have :=aKq w r (dG r (aG w) d p);omega
theorem bJ0(w:den tNw)(r inn:Int)(p:den tPk):tot tNw (cZ w r inn p)<=tot tNw w+(20+2 * tot tPk p+(aB w).length):=by
 have e:tot tPk (aD (nT w) (aG w) (aH w) r inn p).2.2.1=tot tPk p:=aG1 _ _ _ _ _ _;unfold cZ;split
 .have :=aTz w r (aD (nT w) (aG w) (aH w) r inn p).2.1 (aD (nT w) (aG w) (aH w) r inn p).2.2.1;omega
 .split
  .split
   .have :=bKc w r (aD (nT w) (aG w) (aH w) r inn p).2.2.1;omega
   .have :=aKq w r (aD (nT w) (aG w) (aH w) r inn p).2.2.1;omega
  .split
   .have :=bLj w r (aD (nT w) (aG w) (aH w) r inn p).2.2.2 p;omega
   .rw[aCf];omega
theorem bIo{w:den tNw}(h:tot tNw w<=68719476736):SmB 68719476736 tNw w:=bW h
def oJ(w:den tNw):q20:=
 ((nT w).1,(nT w).2,(nK w).1,(nK w).2,(nG w).1,(nG w).2.1,(nG w).2.2,aG w,aH w,dX w,aE w,aB w,aQ w)
theorem bJm{p:den tPp}(h:aDc p=true):tot tPp p<=8:=by
 unfold aDc aMl at h;simp only[bZu,zR]at h;have e:tot tPp p=tot (.sl bG) p.2.2.2:=by simp[oV,qM]
 rw[e,jB rfl];exact h.2.2.2.1
theorem bMy{p:den tPt}(h:aKd p=true):tot tPt p<=27:=by
 unfold aKd at h;rw[bZu,zR]at h;have key:∀l:lPp,l.all aDc=true->tot (.sl tPp) l<=9 * l.length:=by
  intro l
  induction l with
  | nil=>intro _;exact bZ7 _
  | cons x l ih=>
   intro hl;rw[cCa,bZu]at hl;have h1:=bJm hl.1;have h2:=ih hl.2;rw[jF,cAy];omega
 have :=key p h.2;have h1:cAc p<=3:=h.1;show tot (.sl tPp) p<=27;omega
theorem aDj{p:den tPk}(h:dR p=true):tot tPk p<=67:=by
 have h':=h;unfold dR at h';simp only[bZu,zR]at h';have h1:=bMy h'.2.1;have h2:p.2.2.2.2.2.2.2.2.2.length<=40:=by have :=h'.2.2.2.2.2.2.2.2.2;omega
 have e:tot tPk p=tot tPt p.2.2.2.1+tot (.sl tb) p.2.2.2.2.2.2.2.2.2:=by simp[oV,qM]
 rw[e,jB (t:=tb) rfl];omega
theorem aT8{w:den tNw}{r inn:Int}{p:den tPk}(h:dR p=false):cZ w r inn p=sT w:=by
 have hv:aD (nT w) (aG w) (aH w) r inn p=(2,0,p,0):=by
  unfold aD fwd;rw[h];rfl
 unfold cZ;rw[hv];rfl
theorem aQm(w:den tNw)(r inn:Int)(p:den tPk):tot tNw (cZ w r inn p)<=tot tNw w+(160+(aB w).length):=by
 cases h:dR p with
 | true=>
  have h1:=bJ0 w r inn p;have h2:=aDj h;omega
 | false=>rw[aT8 h,aCf];omega
structure pV (w:den tNw):Prop where
 fly:∀x∈aE w,jO x.2.2
 msg:∀f∈aB w,∀m∈f.2.2.2.2.1,uH m
theorem aOt{w:den tNw}(h:pV w){r eg:Int}{p:den tPk}(hp:jO p):pV (eH w r eg p)/\(aB (eH w r eg p)).length=(aB w).length:=by
 unfold eH;split
 .refine⟨⟨λx hx=> ?_,h.msg⟩,rfl⟩;rcases bZ2.1 (show x∈aE w++_ from hx) with hx | hx
  .exact h.fly x hx
  .have :x=_:=bZz.1 hx;subst this;exact hp
 .exact⟨⟨h.fly,h.msg⟩,rfl⟩
theorem bL6(r:Int)(p:den tPk)(f:den tFl):(cI r p f).2.2.2.2.1=f.2.2.2.2.1:=by
 unfold cI;split
 .split
  .exact (bBf f p).1
  .unfold iK;cases p.1==3&&(sD p.2.2.2.2.2.2.2.2.2).2.2.2<;>rfl
 .rfl
theorem aH3{w:den tNw}(h:pV w)(r:Int)(p:den tPk):pV (sS w r p)/\(aB (sS w r p)).length=(aB w).length:=by
 refine⟨⟨h.fly,λf hf m hm=> ?_⟩,by show ((aB w).map _).length=_;simp⟩;obtain⟨g,hg,rfl⟩:=List.mem_map.1 (show f∈(aB w).map (cI r p) from hf);rw[bL6]at hm;exact h.msg g hg m hm
theorem aDq{w:den tNw}(h:pV w):pV (sT w)/\(aB (sT w)).length=(aB w).length:=⟨⟨h.fly,h.msg⟩,rfl⟩
theorem aMy{w:den tNw}(h:pV w)(k:Nat)(x:den tIb):pV (nV w k x)/\(aB (nV w k x)).length=(aB w).length:=⟨⟨h.fly,h.msg⟩,rfl⟩
theorem aMt{t:den tTo}{now:Int}{dead:List Int}{r inn:Int}{p:den tPk}(hp:jO p):jO (aD t now dead r inn p).2.2.1:=λx hx=>hp x (by unfold aD at hx;rwa [(aCk t r now _ inn p).2.2.2]at hx)
theorem aQf{w:den tNw}(h:pV w){r inn:Int}{p:den tPk}(hp:jO p):pV (proc0 w r inn p)/\(aB (proc0 w r inn p)).length=(aB w).length:=by
 unfold proc0;split
 .exact aOt h (aMt hp)
 .split
  .exact aH3 h _ _
  .exact aDq h
theorem aHv{w:den tNw}(h:pV w){r inn:Int}{p:den tPk}(hp:jO p):pV (cZ w r inn p)/\(aB (cZ w r inn p)).length=(aB w).length:=by
 unfold cZ;split
 .exact aOt h (aMt hp)
 .split
  .split
   .unfold nB;split
    .exact⟨h,rfl⟩
    .split
     .obtain⟨h1,h2⟩:=aMy h (dD (aQ w) r (aD (nT w) (aG w) (aH w) r inn p).2.2.1.2.1).toNat (cV (iT w (dD (aQ w) r (aD (nT w) (aG w) (aH w) r inn p).2.2.1.2.1).toNat) (aD (nT w) (aG w) (aH w) r inn p).2.2.1);obtain⟨h3,h4⟩:=aQf h1 (r:=r) (inn:=0) (p:=lB (cV (iT w (dD (aQ w) r (aD (nT w) (aG w) (aH w) r inn p).2.2.1.2.1).toNat) (aD (nT w) (aG w) (aH w) r inn p).2.2.1) (aD (nT w) (aG w) (aH w) r inn p).2.2.1) (by
       unfold lB;split
       .exact λx hx=>by cases hx
       .exact λx hx=>by cases hx)
      exact⟨h3,h4.trans h2⟩
     .exact aMy h _ _
   .exact aH3 h _ _
  .split
   .unfold oM;split
    .obtain⟨h1,h2⟩:=aQf h (r:=r) (inn:=0) (p:=dG r (aG w) (aD (nT w) (aG w) (aH w) r inn p).2.2.2 p) (aRg _);obtain⟨h3,h4⟩:=aDq h1;exact⟨h3,h4.trans h2⟩
    .obtain⟨h1,h2⟩:=aH3 h r (dG r (aG w) (aD (nT w) (aG w) (aH w) r inn p).2.2.2 p);obtain⟨h3,h4⟩:=aDq h1;exact⟨h3,h4.trans h2⟩
   .exact aDq h
def bJ(w:den tNw)(l:lFy):den tNw:=(nT w,nK w,nG w,aG w,aH w,l,aB w,aQ w,dX w)
def jS(x:den tFy)(w:den tNw):Int×Int×Int×Int×Int×lPp×Int×Int×Int×Int×Int×lI×q1:=
 (x.1,x.2.1,x.2.2.1,x.2.2.2.1,x.2.2.2.2.1,x.2.2.2.2.2.1,x.2.2.2.2.2.2.1,x.2.2.2.2.2.2.2.1,x.2.2.2.2.2.2.2.2.1,x.2.2.2.2.2.2.2.2.2.1,x.2.2.2.2.2.2.2.2.2.2.1,x.2.2.2.2.2.2.2.2.2.2.2,bX w)
theorem bVj{w:den tNw}{x:den tFy}(hx:(aE w)[0]? =some x)(hl:(aE w).length<=1073741824):eW w 0=some (jS x (bJ w ((aE w).drop 1))):=by
 have hlt:0<(aE w).length:=(bZy.1 hx).1;have hx:w.2.2.2.2.2.1[(0:Int).toNat]? =some x:=hx;have h1:decide ((0:Int)<(w.2.2.2.2.2.1.length:Int))=true:=zX (by have :0<w.2.2.2.2.2.1.length:=hlt;omega);have e1:wr ((0:Int)+1)=((1:Nat):Int):=rfl;have h2:cC ((1:Nat):Int) (w.2.2.2.2.2.1.length:Int) (w.2.2.2.2.2.1.length:Int)=true:=aCl (show 1<=w.2.2.2.2.2.1.length from hlt);have h3:cC (0:Int) (0:Int) (w.2.2.2.2.2.1.length:Int)=true:=aG2 (k:=0) (cAe _);have h4:cut w.2.2.2.2.2.1 (0:Int) (0:Int)=[]:=by simp[cut]
 have hl:w.2.2.2.2.2.1.length<=1073741824:=hl;unfold eW ixb bF bO bV zz4 zz5 zz6 zz7 zz8 zz9;simp only[h1,hx,aA,zZ,e1,h2,h3,h4,aEt,cAs,cBm,aF (b:=128) (n:=0) (m:=0) (by decide) (by decide),aF (b:=128) (n:=0) (m:=(w.2.2.2.2.2.1.drop 1).length) (by decide) (by simp;omega),zX (show (0:Int)<=0 from cAu _)];rfl
theorem aJi(w:den tNw)(l:lFy):tot tNw (bJ w l)+tot (.sl tFy) (aE w)=tot tNw w+tot (.sl tFy) l:=by
 have e:tot tNw (bJ w l)=(tot (.sl tAS) (nT w).1+tot (.sl tLk) (nT w).2)+((tot (.sl tSg) (nK w).1+tot (.sl tSg) (nK w).2)+((0+(tot (.sl tRs) (nG w).2.1+tot (.sl tUs) (nG w).2.2))+(0+(tot (.sl ti) (aH w)+(tot (.sl tFy) l+(tot (.sl tFl) (aB w)+(tot (.sl tIb) (aQ w)+0))))))):=rfl;rw[e,fY w];omega
def outW(w:den tNw):den tNw:=match aE w with
 | []=>w
 | x::l=>cZ (bJ w l) x.1 x.2.1 x.2.2
def delW:Nat->den tNw->den tNw
 | 0,w=>w
 | n+1,w=>match aE w with
  | []=>w
  | _::_=>delW n (outW w)
structure eY (B F:Nat) (w:den tNw):Prop where
 tot:Go.V.tot tNw w<=B
 flows:(aB w).length<=F
 bytes:pV w
theorem eY.mono{B C F:Nat}{w:den tNw}(h:eY B F w)(hb:B<=C):eY C F w:=⟨bZv h.tot hb,h.flows,h.bytes⟩
theorem bSt{w:den tNw}{x:den tFy}{l:lFy}(h:aE w=x::l):tot tNw (bJ w l)+(1+tot tPk x.2.2)=tot tNw w:=by
 have h1:=aJi w l;rw[h,jF]at h1;have e:tot tFy x=tot tPk x.2.2:=by simp[oV,qM]
 rw[e]at h1;omega
theorem aOd{B F:Nat}{w:den tNw}{x:den tFy}{l:lFy}(hk:eY B F w)(h:aE w=x::l):eY B F (bJ w l)/\tot tPk x.2.2<=B/\jO x.2.2:=by
 have h1:=bSt h;have h2:=hk.tot;refine⟨⟨by omega,hk.flows,⟨λy hy=>hk.bytes.fly y (by rw[h];exact bZ0 _ hy),hk.bytes.msg⟩⟩,by omega,hk.bytes.fly x (by rw[h];exact List.mem_cons_self ..)⟩
theorem aIr{B F:Nat}{w:den tNw}(hk:eY B F w){r inn:Int}{p:den tPk}(hp:jO p):eY (B+(160+F)) F (cZ w r inn p):=by
 obtain⟨h1,h2⟩:=aHv hk.bytes (r:=r) (inn:=inn) hp;have h3:=aQm w r inn p;have h4:=hk.tot;have h5:=hk.flows;exact⟨by omega,by omega,h1⟩
theorem aT7{B F:Nat}{w:den tNw}(hk:eY B F w):eY (B+(160+F)) F (outW w):=by
 unfold outW;split
 .exact hk.mono (by omega)
 .rename_i x l h;obtain⟨h1,h2,h3⟩:=aOd hk h;exact aIr h1 h3
theorem aT6{F:Nat}:∀(n:Nat) {B:Nat} {w:den tNw},eY B F w->eY (B+n * (160+F)) F (delW n w)
 | 0,B,w,hk=>hk.mono (by omega)
 | n+1,B,w,hk=>by
  unfold delW;split
  .exact hk.mono (by omega)
  .have :=aT6 n (aT7 hk);refine this.mono ?_;rw[cAo];omega
theorem bPp{F:Nat}{S R:Type}(enc:Nat->den tNw->S)(out:den tNw->R)(N:Nat){step:S->Option (S⊕R)}
  (H1:∀(k:Nat) (w:den tNw) (x:den tFy) (l:lFy),k<N->aE w=x::l->eY 536870912 F w->step (enc k w)=some (.inl (enc (k+1) (outW w))))
  (H2:∀(k:Nat) (w:den tNw),(k=N\/aE w=[])->step (enc k w)=some (.inr (out w))):
  ∀(m k B:Nat) (w:den tNw),k+m=N->eY B F w->B+m * (160+F)<=536870912->aC step (enc k w)=some (out (delW m w)):=by
 intro m
 induction m with
 | zero=>intro k B w hk hw hB;exact aT (H2 k w (.inl (by omega)))
 | succ m ih=>
  intro k B w hk hw hB;unfold delW;split
  .rename_i h;exact aT (H2 k w (.inr h))
  .rename_i x l h;rw[cAo]at hB;rw[cT (H1 k w x l (by omega) h (hw.mono (by omega)))];exact ih (k+1) _ _ (by omega) (aT7 hw) (by omega)
theorem aMk{B F:Nat}{w:den tNw}(h:eY B F w)(hB:B<=1073741824):aIo w/\(aQ w).length<=68719476736/\ ∀x∈aQ w,tot tIb x<=1073741824:=
 ⟨aNq (bZv h.tot hB),bVe (bZv h.tot hB)⟩
theorem bC1{B F:Nat}{w:den tNw}(h:eY B F w)(hB:B<=1073741824):(aE w).length<=1073741824:=by
 have :=fY w;have :=fB (t:=tFy) (aE w);have :=h.tot;omega
theorem bYh{F:Nat}{w:den tNw}{x:den tFy}{l:lFy}(h:aE w=x::l)(hk:eY 536870912 F w):eW (((bX w).2.2.2.1,(bX w).2.2.2.2.1),((bX w).2.2.2.2.2.1,(bX w).2.2.2.2.2.2.1),((bX w).2.2.2.2.2.2.2.1,(bX w).2.2.2.2.2.2.2.2.1,(bX w).2.2.2.2.2.2.2.2.2.1),(bX w).2.2.2.2.2.2.2.2.2.2.1,(bX w).2.2.2.2.2.2.2.2.2.2.2.1,(bX w).1,(bX w).2.1,(bX w).2.2.1,(bX w).2.2.2.2.2.2.2.2.2.2.2.2) 0=some (jS x (bJ w l))/\bE (((jS x (bJ w l)).2.2.2.2.2.2.2.2.2.2.2.2.2.2.2.1,(jS x (bJ w l)).2.2.2.2.2.2.2.2.2.2.2.2.2.2.2.2.1),((jS x (bJ w l)).2.2.2.2.2.2.2.2.2.2.2.2.2.2.2.2.2.1,(jS x (bJ w l)).2.2.2.2.2.2.2.2.2.2.2.2.2.2.2.2.2.2.1),((jS x (bJ w l)).2.2.2.2.2.2.2.2.2.2.2.2.2.2.2.2.2.2.2.1,(jS x (bJ w l)).2.2.2.2.2.2.2.2.2.2.2.2.2.2.2.2.2.2.2.2.1,(jS x (bJ w l)).2.2.2.2.2.2.2.2.2.2.2.2.2.2.2.2.2.2.2.2.2.1),(jS x (bJ w l)).2.2.2.2.2.2.2.2.2.2.2.2.2.2.2.2.2.2.2.2.2.2.1,(jS x (bJ w l)).2.2.2.2.2.2.2.2.2.2.2.2.2.2.2.2.2.2.2.2.2.2.2.1,(jS x (bJ w l)).2.2.2.2.2.2.2.2.2.2.2.2.1,(jS x (bJ w l)).2.2.2.2.2.2.2.2.2.2.2.2.2.1,(jS x (bJ w l)).2.2.2.2.2.2.2.2.2.2.2.2.2.2.1,(jS x (bJ w l)).2.2.2.2.2.2.2.2.2.2.2.2.2.2.2.2.2.2.2.2.2.2.2.2) (jS x (bJ w l)).1 (jS x (bJ w l)).2.1 ((jS x (bJ w l)).2.2.1,(jS x (bJ w l)).2.2.2.1,(jS x (bJ w l)).2.2.2.2.1,(jS x (bJ w l)).2.2.2.2.2.1,(jS x (bJ w l)).2.2.2.2.2.2.1,(jS x (bJ w l)).2.2.2.2.2.2.2.1,(jS x (bJ w l)).2.2.2.2.2.2.2.2.1,(jS x (bJ w l)).2.2.2.2.2.2.2.2.2.1,(jS x (bJ w l)).2.2.2.2.2.2.2.2.2.2.1,(jS x (bJ w l)).2.2.2.2.2.2.2.2.2.2.2.1)=some (bX (outW w)):=by
 have hx:(aE w)[0]? =some x:=by rw[h];rfl
 have hd:(aE w).drop 1=l:=by rw[h];rfl
 obtain⟨k1,k2,k3⟩:=aOd hk h;obtain⟨n1,n2,n3⟩:=aMk k1 (by decide);refine⟨?_,?_⟩
 .have :=bVj (w:=w) hx (bC1 hk (by decide));rw[hd]at this;exact this
 .have e:outW w=cZ (bJ w l) x.1 x.2.1 x.2.2:=by unfold outW;rw[h]
  rw[e];exact aSw (w:=bJ w l) n1 n2 n3 k2 k3
theorem bYp{F:Nat}{w:den tNw}{n:Int}{B:Nat}(h0:0<=n)(hn:n<=1000000)(hk:eY B F w)(hB:B+n.toNat * (160+F)<=536870912):gH w n=some (bX (delW n.toNat w)):=by
 unfold gH qN bO bV cJ iH xO aGo aGe aK3 aOm aNg bAe bAk bAf aWv aY2 zz4 zz5 zz6 zz7 zz8 zz9;refine bPp (F:=F) (λk w=>((k:Int),bX w)) bX n.toNat (λk w x l hk' hx hw=> ?_) (λk w hk'=> ?_) n.toNat 0 B w (cAt _) hk hB
 .obtain⟨e1,e2⟩:=bYh hx hw;have hd:decide ((k:Int)<n)=true:=zX (by omega);have hp:decide (((bX w).1.length:Int)>0)=true:=by rw[show (bX w).1=aE w from rfl,hx];simp
  have hwr:wr ((k:Int)+1)=((k+1:Nat):Int):=(wri (by omega) (by omega)).trans (by omega);simp only[hd,hp,zZ,aA,e1,e2,hwr]
 .rcases hk' with rfl | h
  .have hd:decide (((n.toNat:Nat):Int)<n)=false:=zW (by omega);simp only[hd,zY,aA]
  .have hp:decide (((bX w).1.length:Int)>0)=false:=by rw[show (bX w).1=aE w from rfl,h];rfl
   simp only[hp,aA];cases decide ((k:Int)<n)<;>rfl
theorem bLr(f:den tFl):(aI f).1.2.2.2.2.1=f.2.2.2.2.1:=by
 unfold aI
 repeat' split
 all_goals rfl
theorem bBm{f:den tFl}(h:∀m∈f.2.2.2.2.1,uH m):jO (lE f):=by
 unfold lE;split
 .intro x hx;have hx:x∈(f.2.2.2.2.1[f.2.2.2.1.toNat]?).getD []:=hx;cases hm:f.2.2.2.2.1[f.2.2.2.1.toNat]? with
  | none=>rw[hm]at hx;cases hx
  | some m=>rw[hm]at hx;exact h m (bZ9 hm) x hx
 .intro x hx;cases hx
theorem bA8{f:den tFl}(h:∀m∈f.2.2.2.2.1,uH m):jO (aI f).2.1:=by
 unfold aI
 repeat' split
 all_goals first
  | exact bBm h
  | (intro x hx;cases hx)
def stepT(k:Nat)(w:den tNw):den tNw:=match (aB w)[k]? with
 | some f=>if (aI f).2.2 then cZ (bR w ((aB w).set k (aI f).1)) (aI f).1.1 0 (aI f).2.1 else bR w ((aB w).set k (aI f).1)
 | none=>w
def tickL:Nat->Nat->den tNw->den tNw
 | _,0,w=>w
 | k,n+1,w=>tickL (k+1) n (stepT k w)
def tick0(w:den tNw):den tNw:=(nT w,nK w,((nG w).1,tU (nG w).2.1 (wr (aG w+1)),[]),wr (aG w+1),aH w,aE w,aB w,aQ w,dX w)
def cG(w:den tNw):den tNw:=if aG w>=1000000 then w else tickL 0 (aB w).length (tick0 w)
theorem aVn{B F:Nat}{w:den tNw}{k:Nat}{f:den tFl}(hk:eY B F w)(hf:(aB w)[k]? =some f):eY B F (bR w ((aB w).set k (aI f).1))/\tot tPk (aI f).2.1<=B/\jO (aI f).2.1:=by
 have hm:=bZ9 hf;have h1:=aS6 (t:=tFl) (y:=(aI f).1) hf;have h2:=(aUu f).1;have h3:=(aUu f).2;have h4:=yK (t:=tFl) hm;have h5:=aEz w ((aB w).set k (aI f).1);have h6:=fY w;have h7:=hk.tot;refine⟨⟨by omega,?_,⟨hk.bytes.fly,λg hg m hmm=> ?_⟩⟩,by omega,bA8 (hk.bytes.msg f hm)⟩
 .show ((aB w).set k _).length<=F;rw[cBl];exact hk.flows
 .rcases List.mem_or_eq_of_mem_set (show g∈(aB w).set k (aI f).1 from hg) with hg | rfl
  .exact hk.bytes.msg g hg m hmm
  .rw[bLr]at hmm;exact hk.bytes.msg f hm m hmm
theorem aPe{B F:Nat}{w:den tNw}(k:Nat)(hk:eY B F w):eY (B+(160+F)) F (stepT k w)/\(aB (stepT k w)).length=(aB w).length:=by
 unfold stepT;split
 .rename_i f hf;obtain⟨h1,h2,h3⟩:=aVn hk hf;have hl:(aB (bR w ((aB w).set k (aI f).1))).length=(aB w).length:=by show ((aB w).set k _).length=_;rw[cBl]
  split
  .exact⟨aIr h1 h3,(aHv h1.bytes h3).2.trans hl⟩
  .exact⟨h1.mono (by omega),hl⟩
 .exact⟨hk.mono (by omega),rfl⟩
theorem aRa{F:Nat}:∀(n k:Nat) {B:Nat} {w:den tNw},eY B F w->eY (B+n * (160+F)) F (tickL k n w)/\(aB (tickL k n w)).length=(aB w).length
 | 0,k,B,w,hk=>⟨hk.mono (by omega),rfl⟩
 | n+1,k,B,w,hk=>by
  obtain⟨h1,h2⟩:=aPe k hk;obtain⟨h3,h4⟩:=aRa n (k+1) h1;unfold tickL;exact⟨h3.mono (by rw[cAo];omega),h4.trans h2⟩
theorem bIf(l:lRs)(now:Int):(tU l now).length<=l.length:=cCk _ _
theorem aI1{B F:Nat}{w:den tNw}(hk:eY B F w):eY B F (tick0 w):=by
 refine⟨?_,hk.flows,⟨hk.bytes.fly,hk.bytes.msg⟩⟩;have h1:=hk.tot;have h2:=fY w;have h3:=bIf (nG w).2.1 (wr (aG w+1));have e:tot tNw (tick0 w)=(tot (.sl tAS) (nT w).1+tot (.sl tLk) (nT w).2)+((tot (.sl tSg) (nK w).1+tot (.sl tSg) (nK w).2)+((0+(tot (.sl tRs) (tU (nG w).2.1 (wr (aG w+1)))+tot (.sl tUs) []))+(0+(tot (.sl ti) (aH w)+(tot (.sl tFy) (aE w)+(tot (.sl tFl) (aB w)+(tot (.sl tIb) (aQ w)+0))))))):=rfl;have r1:∀l:lRs,tot (.sl tRs) l=l.length:=λl=>jB rfl
 have r2:=r1 (tU (nG w).2.1 (wr (aG w+1)));have r3:=r1 (nG w).2.1;rw[aAn]at e;omega
theorem aI3{B F:Nat}{w:den tNw}(hk:eY B F w):eY (B+F * (160+F)) F (cG w):=by
 unfold cG;split
 .exact hk.mono (by omega)
 .have :=(aRa (aB w).length 0 (aI1 hk)).1;refine this.mono ?_;have h1:(aB w).length * (160+F)<=F * (160+F):=cA4 _ hk.flows;omega
theorem bK8{F:Nat}{S R:Type}(enc:Nat->den tNw->S)(out:den tNw->R)(N:Nat){step:S->Option (S⊕R)}
  (H1:∀(k:Nat) (w:den tNw),k<N->(aB w).length=N->eY 536870912 F w->step (enc k w)=some (.inl (enc (k+1) (stepT k w))))
  (H2:∀(w:den tNw),(aB w).length=N->step (enc N w)=some (.inr (out w))):
  ∀(m k B:Nat) (w:den tNw),k+m=N->(aB w).length=N->eY B F w->B+m * (160+F)<=536870912->aC step (enc k w)=some (out (tickL k m w)):=by
 intro m
 induction m with
 | zero=>
  intro k B w hk hn hw hB;have :k=N:=by omega
  subst this;exact aT (H2 w hn)
 | succ m ih=>
  intro k B w hk hn hw hB;rw[cAo]at hB;obtain⟨h1,h2⟩:=aPe k hw;rw[cT (H1 k w (by omega) hn (hw.mono (by omega)))];exact ih (k+1) _ _ (by omega) (h2.trans hn) h1 (by omega)
theorem bC0{B F:Nat}{w0:den tNw}(hF:F<=1000)(hk:eY B F w0)(hB:B+F * (160+F)<=536870912):iU w0=some (!decide (aG w0>=1000000),bX (cG w0)):=by
 have hres:(nG w0).2.1.length<=1073741824:=(aNq (bZv hk.tot (by omega))).res;unfold iU cG ixb aXs qN pj3 pj9 bO bV cJ iH xO aGo aGe aK3 aOm aNg zz4 zz5 zz6 zz7 zz8 zz9
 by_cases hnow:aG w0>=1000000
 .rw[zT hnow,zX (p:=w0.2.2.2.1>=1000000) hnow];rfl
 .rw[zS hnow,zW (p:=w0.2.2.2.1>=1000000) hnow,zY];unfold uP;simp only[bPf hres,aA];refine Eq.trans (congrArg (λo=>Option.bind o _) (bK8 (F:=F) (λk w=>((k:Int),bX w)) bX (aB w0).length (λk w hk' hn hw=> ?_) (λw hn=> ?_) (aB w0).length 0 B (tick0 w0) (cAt _) rfl (aI1 hk) (by have :(aB w0).length * (160+F)<=F * (160+F):=cA4 _ hk.flows;omega))) ?_
  .obtain⟨f,hf⟩:∃f,(aB w)[k]? =some f:=⟨_,bZw (show k<(aB w).length by omega)⟩
   obtain⟨k1,k2,k3⟩:=aVn hw hf;obtain⟨n1,n2,n3⟩:=aMk k1 (by decide);have hft:tot tFl f<=34359738368:=by have :=yK (t:=tFl) (bZ9 hf);have :=fY w;have :=hw.tot;omega
   have hd:decide ((k:Int)<(w0.2.2.2.2.2.2.1.length:Int))=true:=zX (by have :k<w0.2.2.2.2.2.2.1.length:=(by exact hk');omega);have hd1:decide ((k:Int)<((bX w).2.1.length:Int))=true:=zX (by have :k<(bX w).2.1.length:=(show k<(aB w).length by omega);omega);have hd2:decide (k<(bX w).2.1.length)=true:=zX (show k<(aB w).length by omega);have hf':(bX w).2.1[k]? =some f:=hf;have hwr:wr ((k:Int)+1)=((k+1:Nat):Int):=(wri (by have :=hk.flows;omega) (by have :=hk.flows;omega)).trans (by omega);have e:stepT k w=if (aI f).2.2 then cZ (bR w ((aB w).set k (aI f).1)) (aI f).1.1 0 (aI f).2.1 else bR w ((aB w).set k (aI f).1):=by unfold stepT;rw[hf]
   have e1:bE (((bX w).2.2.2.1,(bX w).2.2.2.2.1),((bX w).2.2.2.2.2.1,(bX w).2.2.2.2.2.2.1),((bX w).2.2.2.2.2.2.2.1,(bX w).2.2.2.2.2.2.2.2.1,(bX w).2.2.2.2.2.2.2.2.2.1),(bX w).2.2.2.2.2.2.2.2.2.2.1,(bX w).2.2.2.2.2.2.2.2.2.2.2.1,(bX w).1,((bX w).2.1.set k ((pD (aI f).1 (aI f).2.1 (aI f).2.2).1,(pD (aI f).1 (aI f).2.1 (aI f).2.2).2.1,(pD (aI f).1 (aI f).2.1 (aI f).2.2).2.2.1,(pD (aI f).1 (aI f).2.1 (aI f).2.2).2.2.2.1,(pD (aI f).1 (aI f).2.1 (aI f).2.2).2.2.2.2.2.2.2.2.2.2.2.2.2.2.2.1,(pD (aI f).1 (aI f).2.1 (aI f).2.2).2.2.2.2.2.2.2.2.2.2.2.2.2.2.2.2.1,(pD (aI f).1 (aI f).2.1 (aI f).2.2).2.2.2.2.1,(pD (aI f).1 (aI f).2.1 (aI f).2.2).2.2.2.2.2.1,(pD (aI f).1 (aI f).2.1 (aI f).2.2).2.2.2.2.2.2.2.2.2.2.2.2.2.2.2.2.2.1)),(bX w).2.2.1,(bX w).2.2.2.2.2.2.2.2.2.2.2.2) (pD (aI f).1 (aI f).2.1 (aI f).2.2).1 0 ((pD (aI f).1 (aI f).2.1 (aI f).2.2).2.2.2.2.2.2.1,(pD (aI f).1 (aI f).2.1 (aI f).2.2).2.2.2.2.2.2.2.1,(pD (aI f).1 (aI f).2.1 (aI f).2.2).2.2.2.2.2.2.2.2.1,(pD (aI f).1 (aI f).2.1 (aI f).2.2).2.2.2.2.2.2.2.2.2.2.2.2.2.2.2.2.2.2.1,(pD (aI f).1 (aI f).2.1 (aI f).2.2).2.2.2.2.2.2.2.2.2.1,(pD (aI f).1 (aI f).2.1 (aI f).2.2).2.2.2.2.2.2.2.2.2.2.1,(pD (aI f).1 (aI f).2.1 (aI f).2.2).2.2.2.2.2.2.2.2.2.2.2.1,(pD (aI f).1 (aI f).2.1 (aI f).2.2).2.2.2.2.2.2.2.2.2.2.2.2.1,(pD (aI f).1 (aI f).2.1 (aI f).2.2).2.2.2.2.2.2.2.2.2.2.2.2.2.1,(pD (aI f).1 (aI f).2.1 (aI f).2.2).2.2.2.2.2.2.2.2.2.2.2.2.2.2.2.2.2.2.2)=some (bX (cZ (bR w ((aB w).set k (aI f).1)) (aI f).1.1 0 (aI f).2.1)):=aSw (w:=bR w ((aB w).set k (aI f).1)) n1 n2 n3 k2 k3;rw[e];simp only[hd,hd1,hd2,dW,bZ4,hf',zZ,aA,aZ,bUo hft,hwr];cases hb:(aI f).2.2
   .rfl
   .rw[hb]at e1;rw[zT rfl];show Option.bind (cond true _ _) _=_;rw[zZ];show Option.bind (Option.bind (bE _ _ 0 _) λy12=>_) _=_;rw[e1];rfl
  .have hd:decide ((((aB w0).length:Nat):Int)<(w0.2.2.2.2.2.2.1.length:Int))=false:=zW (by have :w0.2.2.2.2.2.2.1.length=(aB w0).length:=rfl;omega);simp only[hd,zY]
  .rfl
def iP(w:den tNw):den tNw:=delW 2000 (cG w)
def aDf(F:Nat):Nat:=F * (160+F)+2000 * (160+F)
theorem aM0{B F:Nat}{w:den tNw}(hk:eY B F w):eY (B+aDf F) F (iP w):=by
 have :=aT6 2000 (aI3 hk);exact this.mono (by unfold aDf;omega)
theorem bPl{B F:Nat}{w:den tNw}(hF:F<=1000)(hk:eY B F w)(hB:B+aDf F<=536870912):jK w=some (bX (iP w)):=by
 unfold aDf at hB;unfold jK qN kW bO bV cJ iH zz4 zz5 zz6 zz7 zz8 zz9;have e1:=bC0 hF hk (by omega);have e2:gH (((bX (cG w)).2.2.2.1,(bX (cG w)).2.2.2.2.1),((bX (cG w)).2.2.2.2.2.1,(bX (cG w)).2.2.2.2.2.2.1),((bX (cG w)).2.2.2.2.2.2.2.1,(bX (cG w)).2.2.2.2.2.2.2.2.1,(bX (cG w)).2.2.2.2.2.2.2.2.2.1),(bX (cG w)).2.2.2.2.2.2.2.2.2.2.1,(bX (cG w)).2.2.2.2.2.2.2.2.2.2.2.1,(bX (cG w)).1,(bX (cG w)).2.1,(bX (cG w)).2.2.1,(bX (cG w)).2.2.2.2.2.2.2.2.2.2.2.2) 2000=some (bX (iP w)):=bYp (w:=cG w) (n:=2000) (by decide) (by decide) (aI3 hk) (by show B+F * (160+F)+2000 * (160+F)<=_;omega);simp only[aZ,e1,aA,e2]
theorem bEb{w:den tNw}(h:aGj w=true):(aB w).length<=4:=by
 unfold aGj at h;simp only[bZu,zR]at h;simp only[h]
theorem bRa{w:den tNw}(hv:aGj w=true)(h:tot tNw w<=134217728)(hb:pV w):eY 134217728 4 w:=⟨h,bEb hv,hb⟩
def aK:Nat->den tNw->den tNw
 | 0,w=>w
 | n+1,w=>aK n (iP w)
theorem aKw{F:Nat}:∀(n:Nat) {B:Nat} {w:den tNw},eY B F w->eY (B+n * aDf F) F (aK n w)
 | 0,B,w,hk=>hk.mono (by omega)
 | n+1,B,w,hk=>by
  have :=aKw n (aM0 hk);exact this.mono (by rw[cAo];omega)
theorem bBj{F:Nat}{S R:Type}(enc:Nat->den tNw->S)(out:den tNw->R)(N:Nat){step:S->Option (S⊕R)}
  (H1:∀(k B:Nat) (w:den tNw),k<N->eY B F w->B+aDf F<=536870912->step (enc k w)=some (.inl (enc (k+1) (iP w))))
  (H2:∀(w:den tNw),step (enc N w)=some (.inr (out w))):
  ∀(m k B:Nat) (w:den tNw),k+m=N->eY B F w->B+m * aDf F<=536870912->aC step (enc k w)=some (out (aK m w)):=by
 intro m
 induction m with
 | zero=>
  intro k B w hk hw hB;have :k=N:=by omega
  subst this;exact aT (H2 w)
 | succ m ih=>
  intro k B w hk hw hB;rw[cAo]at hB;rw[cT (H1 k B w (by omega) hw (by omega))];exact ih (k+1) _ _ (by omega) (aM0 hw) (by omega)
def sV(w:den tNw)(n:Int):den tNw:=if aGj w&&inR n 0 1000 then aK n.toNat w else w
theorem bYv:aDf 4=328656:=rfl
theorem aU0{n:Int}(h0:0<=n)(h1:n<=1000):134217728+n.toNat * aDf 4<=536870912:=by
 rw[bYv];have :n.toNat * 328656<=1000 * 328656:=Nat.mul_le_mul (by omega) (bZ7 _);omega
theorem bMj{w:den tNw}{n:Int}(h:tot tNw w<=134217728)(hb:pV w):tot tNw (sV w n)<=536870912:=by
 unfold sV;split
 .rename_i hc;rw[bZu,aS]at hc;have h1:=(aKw n.toNat (bRa hc.1 h hb)).tot;have h2:=aU0 hc.2.1 hc.2.2;omega
 .omega
theorem bU2{w:den tNw}{n:Int}(h:tot tNw w<=134217728)(hb:pV w):rH w n=some (aIw (sV w n)):=by
 have ht:=bMj (n:=n) h hb;unfold rH qN pj3 kW bO bV cJ iH zz4 zz5 zz6 zz7 zz8 zz9;simp only[aZ,aLs (bIo (w:=w) (by omega)),aO0 (w:=w) (by omega),jX,aA];have e3:eC (((oJ (sV w n)).1,(oJ (sV w n)).2.1),((oJ (sV w n)).2.2.1,(oJ (sV w n)).2.2.2.1),((oJ (sV w n)).2.2.2.2.1,(oJ (sV w n)).2.2.2.2.2.1,(oJ (sV w n)).2.2.2.2.2.2.1),(oJ (sV w n)).2.2.2.2.2.2.2.1,(oJ (sV w n)).2.2.2.2.2.2.2.2.1,(oJ (sV w n)).2.2.2.2.2.2.2.2.2.2.1,(oJ (sV w n)).2.2.2.2.2.2.2.2.2.2.2.1,(oJ (sV w n)).2.2.2.2.2.2.2.2.2.2.2.2,(oJ (sV w n)).2.2.2.2.2.2.2.2.2.1)=some (aIw (sV w n)):=aLs (w:=sV w n) (bIo (by omega));unfold sV at e3 ⊢;cases cv:aGj w
 .rw[cv]at e3;simp only[zY,aA];simp only[cAk,bZ8,zU]at e3 ⊢;exact congrArg (λo=>Option.bind o some) e3
 .cases cn:inR n 0 1000
  .rw[cv,cn]at e3;simp only[zZ,zY,aA];simp only[cCl,bZ8,zU]at e3 ⊢;exact congrArg (λo=>Option.bind o some) e3
  .rw[cv,cn]at e3;have hr:=aS.1 cn;simp only[zZ,aA];simp only[cCm,zV]at e3 ⊢;refine Eq.trans (congrArg (λo=>Option.bind o _) (bBj (F:=4) (λk w=>((k:Int),oJ w)) oJ n.toNat (λk B w hk' hw hB=> ?_) (λw=> ?_) n.toNat 0 134217728 w (cAt _) (bRa cv h hb) (aU0 hr.1 hr.2))) ?_
   .have hd:decide ((k:Int)<n)=true:=zX (by omega);have hwr:wr ((k:Int)+1)=((k+1:Nat):Int):=(wri (by omega) (by omega)).trans (by omega);have e1:jK (((oJ w).1,(oJ w).2.1),((oJ w).2.2.1,(oJ w).2.2.2.1),((oJ w).2.2.2.2.1,(oJ w).2.2.2.2.2.1,(oJ w).2.2.2.2.2.2.1),(oJ w).2.2.2.2.2.2.2.1,(oJ w).2.2.2.2.2.2.2.2.1,(oJ w).2.2.2.2.2.2.2.2.2.2.1,(oJ w).2.2.2.2.2.2.2.2.2.2.2.1,(oJ w).2.2.2.2.2.2.2.2.2.2.2.2,(oJ w).2.2.2.2.2.2.2.2.2.1)=some (bX (iP w)):=bPl (w:=w) (by decide) hw hB;simp only[hd,zZ,e1,aA,hwr];rfl
   .have hd:decide (((n.toNat:Nat):Int)<n)=false:=zW (by omega);simp only[hd,zY]
   .simp only[aA];exact congrArg (λo=>Option.bind o some) e3
theorem bI8{w:den tNw}(h:tot tNw w<=134217728)(hb:pV w):wM w=some (aIw (sV w (wr (8+mO w)))):=by
 unfold wM qN kW;simp only[aZ,aW3 (w:=w) (aNq (by omega)).flowsN,bU2 h hb,aA]
def Ans{α:Type}(o:Option α)(P:α->Prop):Prop:= ∃y,o=some y/\P y
theorem bNn{S R:Type}{step:S->Option (S⊕R)}(I:Nat->S->Prop)(Q:R->Prop)(h:∀n s,I n s->(∃r,step s=some (.inr r)/\Q r)\/ ∃m s',m<n/\step s=some (.inl s')/\I m s')(n:Nat):∀s,I n s->Ans (aC step s) Q:=by
 induction n using Nat.strongRecOn with
 | ind n ih=>
  intro s hs;rcases h n s hs with ⟨r,h1,h2⟩ | ⟨m,s',h1,h2,h3⟩
  .exact⟨r,aT h1,h2⟩
  .obtain⟨r,h4,h5⟩:=ih m h1 s' h3;exact⟨r,(cT h2).trans h4,h5⟩
theorem aAg{S R T:Type}{step:S->Option (S⊕R)}(I:Nat->S->Prop)(Q:R->Prop){k:R->Option T}{G:Option T->Prop}(h:∀n s,I n s->(∃r,step s=some (.inr r)/\Q r)\/ ∃m s',m<n/\step s=some (.inl s')/\I m s')(n:Nat)(s:S)(hs:I n s)(hk:∀r,Q r->G (k r)):G (Option.bind (aC step s) k):=by
 obtain⟨r,h1,h2⟩:=bNn I Q h n s hs;rw[h1];exact hk r h2
theorem iW{S R T:Type}{step:S->Option (S⊕R)}(len:Nat)(pos:S->Int)(J:Nat->S->Prop)(Q:R->Prop){k:R->Option T}{G:Option T->Prop}
  (h:∀(i:Nat) (s:S),i<len->pos s=(i:Int)->J i s->(∃r,step s=some (.inr r)/\Q r)\/ ∃s',step s=some (.inl s')/\pos s'=((i+1:Nat):Int)/\J (i+1) s')
  (he:∀s:S,pos s=(len:Int)->J len s-> ∃r,step s=some (.inr r)/\Q r) (i0:Nat) (s0:S) (hi:i0<=len) (hp:pos s0=(i0:Int)) (hJ:J i0 s0) (hk:∀r,Q r->G (k r)):G (Option.bind (aC step s0) k):=by
 refine aAg (λn s=> ∃i:Nat,pos s=(i:Int)/\i+n=len/\J i s) Q ?_ (len - i0) s0 ⟨i0,hp,by omega,hJ⟩ hk
 rintro n s ⟨i,h1,h2,h3⟩
 cases n with
 | zero=>
  have e:i=len:=by omega
  subst e;exact .inl (he s h1 h3)
 | succ n=>
  rcases h i s (by omega) h1 h3 with h4 | ⟨s',h4,h5,h6⟩
  .exact .inl h4
  .exact .inr ⟨n,s',by omega,h4,i+1,h5,by omega,h6⟩
theorem aY{n:Int}(h0: -1000000000000<=n)(h1:n<=1000000000000):wr n=n:=wri (by omega) (by omega)
theorem gR{n:Nat}(h:n<=1000000000):wr ((n:Int)+1)=((n+1:Nat):Int):=by rw[aY (by omega) (by omega)];omega
theorem aYn(a:Int):0<=aGp .i64 a 255/\aGp .i64 a 255<=255:=by
 have h:((BitVec.ofInt 64 a &&& BitVec.ofInt 64 255).toNat)<=255:=by
  rw[BitVec.toNat_and];exact bZv Nat.and_le_right (by decide)
 have e:aGp .i64 a 255=wr (((BitVec.ofInt 64 a &&& BitVec.ofInt 64 255).toNat:Nat):Int):=rfl;rw[e,show wr (((BitVec.ofInt 64 a &&& BitVec.ofInt 64 255).toNat:Nat):Int)=_ from wri (by omega) (by omega)];omega
def Cur(code:List Int)(c:List Int×q21):Prop:=c.1=code/\0<=c.2.1/\c.2.1<=(code.length:Int)
theorem aD9{code:List Int}(hl:code.length<=1048576){c:List Int}{p h:Int}(hc:Cur code (c,p,h)):∃v c' p' h',oW (c,p,h)=some (v,c',p',h')/\(0<=v/\v<=255)/\Cur code (c',p',h'):=by
 obtain⟨h1,h2,h3⟩:=hc;simp only at h1 h2 h3;subst h1;unfold oW pj4;simp only[aA]
 by_cases hp:p<(c.length:Int)
 .obtain⟨m,rfl⟩:=cA0 h2;have hm:m<c.length:=by omega
  rw[zX hp,zZ,aP,bZw hm];refine⟨_,_,_,_,rfl,aYn _,rfl,?_,?_⟩
  .show 0<=wr ((m:Int)+1);rw[show wr ((m:Int)+1)=(m:Int)+1 from wri (by omega) (by omega)];omega
  .show wr ((m:Int)+1)<=_;rw[show wr ((m:Int)+1)=(m:Int)+1 from wri (by omega) (by omega)];omega
 .rw[zW hp,zY];exact⟨_,_,_,_,rfl,aYn _,rfl,h2,h3⟩
theorem dS{code:List Int}(hl:code.length<=1048576){n:Int}(h0:0<n)(h1:n<=256){c:List Int}{p h:Int}(hc:Cur code (c,p,h)):∃v c' p' h',aO (c,p,h) n=some (v,c',p',h')/\(0<=v/\v<n)/\Cur code (c',p',h'):=by
 obtain⟨v,c',p',h',hb,hv,hc'⟩:=aD9 hl hc;refine⟨cAq v n,c',p',h',?_,⟨Int.tmod_nonneg _ hv.1,Int.tmod_lt_of_pos _ h0⟩,hc'⟩;unfold aO pj3;rw[zW (by omega),zY,zX h1,zZ];simp only[hb,aA];rw[show (n==0)=false by rw[beq_eq_false_iff_ne];omega,zY]
theorem aUs{code:List Int}(hl:code.length<=1048576){n:Int}(h1:256<n){c:List Int}{p h:Int}(hc:Cur code (c,p,h)):∃v c' p' h',aO (c,p,h) n=some (v,c',p',h')/\(0<=v/\v<n)/\Cur code (c',p',h'):=by
 obtain⟨v1,c1,p1,h1',e1,r1,k1⟩:=aD9 hl hc;obtain⟨v2,c2,p2,h2',e2,r2,k2⟩:=aD9 hl k1;obtain⟨v3,c3,p3,h3',e3,r3,k3⟩:=aD9 hl k2;have w1:wr (v1 * 65536)=v1 * 65536:=aY (by omega) (by omega);have w2:wr (v2 * 256)=v2 * 256:=aY (by omega) (by omega);have w3:wr (v1 * 65536+v2 * 256)=v1 * 65536+v2 * 256:=aY (by omega) (by omega);have w4:wr (v1 * 65536+v2 * 256+v3)=v1 * 65536+v2 * 256+v3:=aY (by omega) (by omega);refine⟨cAq (v1 * 65536+v2 * 256+v3) n,c3,p3,h3',?_,⟨Int.tmod_nonneg _ (by omega),Int.tmod_lt_of_pos _ (by omega)⟩,k3⟩;unfold aO pj3;rw[zW (by omega),zY,zW (by omega),zY];simp only[e1,e2,e3,aA,w1,w2,w3,w4];rw[show (n==0)=false by rw[beq_eq_false_iff_ne];omega,zY]
theorem bUa{code:List Int}(hl:code.length<=1048576){l:List Int}(h0:0<l.length)(h1:l.length<=256){c:List Int}{p h:Int}(hc:Cur code (c,p,h)):∃v c' p' h',aAh (c,p,h) l=some (v,c',p',h')/\v∈l/\Cur code (c',p',h'):=by
 obtain⟨v,c',p',h',hb,hv,hc'⟩:=dS hl (n:=(l.length:Int)) (by omega) (by omega) hc;obtain⟨m,rfl⟩:=cA0 hv.1;have hm:m<l.length:=by omega
 refine⟨l[m],c',p',h',?_,List.getElem_mem hm,hc'⟩;unfold aAh pj3;simp only[hb,aA,aP,bZw hm]
theorem aBh{code:List Int}(hl:code.length<=1048576){n:Int}(h0:0<n)(h1:n<=256){c:List Int}{p h:Int}(hc:Cur code (c,p,h)):∃b c' p' h',iD (c,p,h) n=some (b,c',p',h')/\Cur code (c',p',h'):=by
 obtain⟨v,c',p',h',hb,hv,hc'⟩:=dS hl h0 h1 hc;refine⟨v==0,c',p',h',?_,hc'⟩;unfold iD pj3;simp only[hb,aA]
theorem bSo{code:List Int}(hl:code.length<=1048576):∃c p h,aAr code=some (c,p,h)/\Cur code (c,p,h):=by
 unfold aAr;refine aAg (G:=λo=> ∃c p h,o=some (c,p,h)/\Cur code (c,p,h)) (λn s=> ∃k:Nat,s.2=(k:Int)/\k+n=code.length) (λ_=>True) ?_ code.length _ ⟨0,rfl,by omega⟩ ?_
 .rintro n ⟨a,b⟩ ⟨k,hk,hn⟩
  simp only at hk;subst hk
  by_cases h1:(k:Int)<(code.length:Int)
  .by_cases h2:(k:Int)<4000
   .right;have hk:k<code.length:=by omega
    refine⟨n - 1,(aGp .i64 (wr ((wr ((wr (a * (137:Int)))+(wr code[k])))+(11:Int))) (1073741823:Int),((k+1:Nat):Int)),by omega,?_,k+1,rfl,by omega⟩;simp only[zX h1,zX h2,zZ,aA,aP,bZw hk];rw[show wr ((k:Int)+1)=((k+1:Nat):Int) from by rw[show wr ((k:Int)+1)=(k:Int)+1 from wri (by omega) (by omega)];omega]
   .left;refine⟨a,?_,trivial⟩;simp only[zX h1,zW h2,zZ,zY,aA]
  .left;refine⟨a,?_,trivial⟩;simp only[zW h1,zY,aA]
 .intro r _;exact⟨_,_,_,rfl,rfl,cAu 0,by show (0:Int)<=_;omega⟩
theorem aOb{α:Type}(p:Nat->α->Bool):∀(l:List α) (k:Nat),(bN (λk x=>if p k x then none else some ()) k l).isNone=true↔ ∀j x,l[j]? =some x->p (k+j) x=true
 | [],k=>by simp[bN]
 | x::l,k=>by
  have ih:=aOb p l (k+1);cases hp:p k x with
  | true=>
   simp only[bN,hp,zV];rw[ih];constructor
   .intro h j y hy;cases j with
    | zero=>simp only[cC3,Option.some.injEq]at hy;subst hy;exact hp
    | succ j=>simp only[List.getElem?_cons_succ]at hy;have :=h j y hy;rwa [show k+1+j=k+(j+1) by omega]at this
   .intro h j y hy;have :=h (j+1) y (by simpa using hy);rwa [show k+(j+1)=k+1+j by omega]at this
  | false=>
   simp only[bN,hp];constructor
   .intro h;simp at h
   .intro h;have :=h 0 x (by simp);rw[Nat.add_zero,hp]at this;cases this
def plc(id s d:Int):Nat->lUs->Int
 | _,[]=> -1
 | k,x::l=>if jL id s d x then (k:Int) else plc id s d (k+1) l
theorem aCq(l:lUs)(id s d:Int):place l id s d=plc id s d 0 l:=by
 unfold place;have :∀(l:lUs) (k:Nat),(match bN (λk x=>if jL id s d x then some (k:Int) else none) k l with
  | some i=>i
  | none=> -1)=plc id s d k l:=by
  intro l
  induction l with
  | nil=>intro k;rfl
  | cons x l ih=>
   intro k;cases hp:jL id s d x with
   | true=>simp only[bN,plc,hp,zV]
   | false=>simp only[bN,plc,hp];exact ih (k+1)
 exact this l 0
theorem aXc{id s d:Int}:∀(l:lUs) (k:Nat),(plc id s d k l= -1/\ ∀x∈l,jL id s d x=false)\/ ∃j x,plc id s d k l=((k+j:Nat):Int)/\l[j]? =some x/\jL id s d x=true
 | [],_=> .inl ⟨rfl,λx hx=>by cases hx⟩
 | x::l,k=>by
  unfold plc;cases hp:jL id s d x with
  | true=>exact .inr ⟨0,x,by simp,by simp,hp⟩
  | false=>
   rcases aXc l (k+1) with ⟨h1,h2⟩ | ⟨j,y,h1,h2,h3⟩
   .refine .inl ⟨by simpa using h1,λy hy=> ?_⟩;rcases List.mem_cons.1 hy with rfl | hy
    .exact hp
    .exact h2 y hy
   .exact .inr ⟨j+1,y,by rw[zS (by simp),h1];congr 1;omega,by simpa using h2,h3⟩
theorem aJf(l:lUs)(id s d:Int):(place l id s d= -1/\ ∀x∈l,jL id s d x=false)\/ ∃(j:Nat) (x:den tUs),place l id s d=(j:Int)/\l[j]? =some x/\jL id s d x=true:=by
 rw[aCq];rcases aXc (id:=id) (s:=s) (d:=d) l 0 with h | ⟨j,x,h1,h2,h3⟩
 .exact .inl h
 .exact .inr ⟨j,x,by rw[h1,cAt],h2,h3⟩
theorem bCy{id s d:Int}(z:lUs):∀(l:lUs) (k:Nat),plc id s d k (l++z)=if plc id s d k l<0 then plc id s d (k+l.length) z else plc id s d k l
 | [],k=>by simp[plc]
 | x::l,k=>by
  have e1:plc id s d k (x::l)=if jL id s d x then (k:Int) else plc id s d (k+1) l:=rfl
  have e2:plc id s d k (x::l++z)=if jL id s d x then (k:Int) else plc id s d (k+1) (l++z):=rfl
  by_cases hp:jL id s d x=true
  .rw[zT hp]at e1 e2;rw[e1,e2,zS (by omega)]
  .rw[zS hp]at e1 e2;rw[e1,e2,bCy z l (k+1),show k+(x::l).length=k+1+l.length by simp only[cAy];omega]
theorem bAa{id s d:Int}:∀(l m:lUs) (k:Nat),l.map (λx=>(x.1,x.2.1,x.2.2.1))=m.map (λx=>(x.1,x.2.1,x.2.2.1))->plc id s d k l=plc id s d k m
 | [],[],_,_=>rfl
 | [],_::_,_,h=>by simp at h
 | _::_,[],_,h=>by simp at h
 | x::l,y::m,k,h=>by
  simp only[cAd,List.cons.injEq,Prod.mk.injEq]at h;obtain⟨⟨h1,h2,h3⟩,h4⟩:=h;have e:jL id s d x=jL id s d y:=by unfold jL;rw[h1,h2,h3]
  simp only[plc,e,bAa l m (k+1) h4]
theorem xX{id s d:Int}{x:den tUs}:jL id s d x=true↔x.1=id/\x.2.1=s/\x.2.2.1=d:=by unfold jL;simp
def aR3(g:den tSc)(now:Int):Prop:= ∀(j:Nat) (x:den tUs),g.2.2[j]? =some x->place g.2.2 x.1 x.2.1 x.2.2.1=(j:Int)/\(1:Int)<=x.2.2.2/\pI g x.1 x.2.1 x.2.2.1 now>=x.2.2.2
theorem bG1{g:den tSc}{now:Int}:aCe g now=true↔(1:Int)<=g.1/\(20:Int)>=g.1/\aAc g.2.1 g.1 now=true/\aR3 g now:=by
 unfold aCe aR3;rw[bZu,bZu,aOb];unfold inR okU;simp only[bZu,zR,beq_iff_eq,cAt,inR,and_assoc]
theorem bBe{l:lRs}{cap now:Int}:aAc l cap now=true↔l.length<=40/\ ∀(j:Nat) (x:den tRs),l[j]? =some x->tR x=true/\rate l x.2.1 x.2.2.1 now<=cap/\ ∀y∈l.take j,iS x y=false:=by
 unfold aAc;rw[bZu,aOb];unfold okR;simp only[bZu,zR,cAt,cAx,decide_eq_false_iff_not,List.any_eq_false,Bool.not_eq_true,Int.not_lt,gt_iff_lt]
theorem aI8(x y:den tRs):iS x y=iS y x:=by
 unfold iS atR;rw[cAv];simp only[bZu,beq_iff_eq];constructor<;>(rintro⟨a,b,c⟩;exact⟨a.symm,b.symm,c.symm⟩)
theorem bJv{l:lRs}:(∀(j:Nat) (x:den tRs),l[j]? =some x-> ∀y∈l.take j,iS x y=false)↔l.Pairwise λx y=>iS x y=false:=by
 rw[List.pairwise_iff_getElem];constructor
 .intro h i j hi hj hij;rw[aI8];exact h j l[j] (bZw hj) l[i] (List.mem_take_iff_getElem.2 ⟨i,by omega,rfl⟩)
 .intro h j x hx y hy;obtain⟨i,hi,rfl⟩:=List.mem_take_iff_getElem.1 hy;obtain⟨hj,rfl⟩:=bZy.1 hx;rw[aI8];exact h i j (by omega) hj (by omega)
def rs(s d now:Int):lRs->Int
 | []=>0
 | x::l=>(if atR x s d&&decide (now<=x.2.2.2.2) then x.2.2.2.1 else 0)+rs s d now l
theorem aQ0{s d now:Int}:∀{l:lRs},(∀x∈l,(0:Int)<=x.2.2.2.1/\(20:Int)>=x.2.2.2.1)->0<=rs s d now l/\rs s d now l<=20 * l.length
 | [],_=>by simp[rs]
 | x::l,h=>by
  have ih:=aQ0 (s:=s) (d:=d) (now:=now) (l:=l) λy hy=>h y (bZ0 _ hy)
  have hx:=h x (by simp);have e:((x::l).length:Int)=l.length+1:=by simp
  unfold rs;rw[e];split<;>omega
theorem aJ8{s d now:Int}:∀(l:lRs) (a:Int),(∀x∈l,(0:Int)<=x.2.2.2.1/\(20:Int)>=x.2.2.2.1)->0<=a->a+20 * l.length<=1000000000000->
  l.foldl (λa x=>if atR x s d&&decide (now<=x.2.2.2.2) then wr (a+x.2.2.2.1) else a) a=a+rs s d now l
 | [],a,_,_,_=>by simp[rs]
 | x::l,a,h,h0,hb=>by
  have hx:=h x (by simp);simp only[cAy,Int.natCast_add,Int.natCast_one]at hb;simp only[cB6,rs];split
  .rw[show wr (a+x.2.2.2.1)=a+x.2.2.2.1 from wri (by omega) (by omega),aJ8 l _ (λy hy=>h y (bZ0 _ hy)) (by omega) (by omega)];omega
  .rw[aJ8 l a (λy hy=>h y (bZ0 _ hy)) h0 (by omega)];omega
theorem aLq{s d now:Int}{l:lRs}(h:∀x∈l,(0:Int)<=x.2.2.2.1/\(20:Int)>=x.2.2.2.1)(hl:l.length<=1000000):rate l s d now=rs s d now l:=by
 unfold rate;rw[aJ8 l 0 h (by omega) (by omega)];omega
theorem bLo{s d now:Int}(m:lRs):∀l:lRs,rs s d now (l++m)=rs s d now l+rs s d now m
 | []=>by simp[rs]
 | x::l=>by simp only[List.cons_append,rs,bLo m l];omega
theorem aJ4{s d now:Int}(p:den tRs->Bool):∀{l:lRs},(∀x∈l,(0:Int)<=x.2.2.2.1/\(20:Int)>=x.2.2.2.1)->rs s d now (l.filter p)<=rs s d now l
 | [],_=>by simp[rs]
 | x::l,h=>by
  have ih:=aJ4 (s:=s) (d:=d) (now:=now) p (l:=l) λy hy=>h y (bZ0 _ hy)
  have hx:=h x (by simp);rw[cCi];split
  .simp only[rs];omega
  .simp only[rs];split<;>omega
theorem aUp{s d now:Int}:∀l:lRs,rs s d now (tU l now)=rs s d now l
 | []=>rfl
 | x::l=>by
  have ih:=aUp (s:=s) (d:=d) (now:=now) l;unfold tU at ih ⊢;rw[cCi];cases hd:decide (now<=x.2.2.2.2) with
  | true=>rw[zT rfl];simp only[rs,ih]
  | false=>rw[zS (by simp)];simp only[rs,hd,cCl,bZ8,zU,ih];omega
structure sJ (l:lRs) (cap now:Int):Prop where
 len:l.length<=40
 val:∀x∈l,tR x=true
 rate:∀x∈l,rs x.2.1 x.2.2.1 now l<=cap
 pw:l.Pairwise λx y=>iS x y=false
theorem aGs{x:den tRs}(h:tR x=true):(1:Int)<=x.1/\(1:Int)<=x.2.2.2.1/\(20:Int)>=x.2.2.2.1:=by
 unfold tR inR at h;simp only[bZu,zR]at h;exact⟨h.1.1,h.2.1.1,h.2.1.2⟩
theorem rZ{l:lRs}(h:∀x∈l,tR x=true):∀x∈l,(0:Int)<=x.2.2.2.1/\(20:Int)>=x.2.2.2.1:=λx hx=>by
 have :=aGs (h x hx);omega
theorem bMl{l:lRs}{cap now:Int}:aAc l cap now=true↔sJ l cap now:=by
 rw[bBe];constructor
 .rintro⟨h1,h2⟩
  have hv:∀x∈l,tR x=true:=λx hx=>by
   obtain⟨j,hj⟩:=cC6.1 hx;exact (h2 j x hj).1
  exact⟨h1,hv,λx hx=>by
   obtain⟨j,hj⟩:=cC6.1 hx;rw[<- aLq (rZ hv) (by omega)];exact (h2 j x hj).2.1,bJv.1 λj x hj=>(h2 j x hj).2.2⟩
 .rintro⟨h1,h2,h3,h4⟩
  refine⟨h1,λj x hj=> ?_⟩;have hx:=bZ9 hj;exact⟨h2 x hx,by rw[aLq (rZ h2) (by omega)];exact h3 x hx,bJv.2 h4 j x hj⟩
theorem sJ.filter{l:lRs}{cap now:Int}(h:sJ l cap now)(p:den tRs->Bool):sJ (l.filter p) cap now:=
 ⟨bZv (cCk ..) h.len,λx hx=>h.val x (cAa.1 hx).1,λx hx=>Int.le_trans (aJ4 p (rZ h.val)) (h.rate x (cAa.1 hx).1),h.pw.filter _⟩
def admR(l:lRs)(x:den tRs)(cap now:Int):lRs:=
 if !tR x||decide (x.2.2.2.2<now)||decide (wr (rate (l.filter λy=> !iS x y) x.2.1 x.2.2.1 now+x.2.2.2.1)>cap)||decide (((l.filter λy=> !iS x y).length:Int)>=40) then l else (l.filter λy=> !iS x y)++[x]
theorem sJ.admR{l:lRs}{cap now:Int}(h:sJ l cap now)(x:den tRs):sJ (admR l x cap now) cap now:=by
 unfold Go.Proofs.YtnkjolpkcmgcaaaGreat.admR;split
 .exact h
 .rename_i hc;simp only[Bool.or_eq_true,cAx,zR,not_or,Bool.not_eq_false]at hc;obtain⟨⟨⟨c1,c2⟩,c3⟩,c4⟩:=hc;have hf:=h.filter λy=> !iS x y
  have hx:=aGs c1;have hr:sJ (l.filter λy=> !iS x y) cap now:=hf;rw[aLq (rZ hf.val) (by have :=hf.len;omega)]at c3;have hb:=aQ0 (s:=x.2.1) (d:=x.2.2.1) (now:=now) (rZ hf.val);have hl:=hf.len;rw[show wr (rs x.2.1 x.2.2.1 now (l.filter λy=> !iS x y)+x.2.2.2.1)=rs x.2.1 x.2.2.1 now (l.filter λy=> !iS x y)+x.2.2.2.1 from wri (by omega) (by omega)]at c3;refine⟨by simp only[cAh,cBe];omega,?_,?_,?_⟩
  .intro y hy;rcases bZ2.1 hy with hy | hy
   .exact hf.val y hy
   .rw[bZz.1 hy];exact c1
  .intro y hy;rw[bLo];simp only[rs];rcases bZ2.1 hy with hy | hy
   .have h1:=hf.rate y hy;cases ha:atR x y.2.1 y.2.2.1 with
    | false=>simp only[cAk,bZ8,zU];omega
    | true=>
     have ha':=ha;unfold atR at ha';simp only[bZu,beq_iff_eq]at ha';rw[<- ha'.1,<- ha'.2];split<;>omega
   .rw[bZz.1 hy];split<;>omega
  .rw[List.pairwise_append];refine⟨hf.pw,List.pairwise_singleton _ _,λy hy z hz=> ?_⟩;rw[bZz.1 hz,aI8];have :=(cAa.1 hy).2;simpa using this
theorem aKx{l:lUs}{id s d:Int}(z:lUs):place (l++z) id s d=if place l id s d<0 then plc id s d l.length z else place l id s d:=by
 rw[aCq,aCq,bCy,cAt]
theorem aIq{l m:lUs}{id s d:Int}(h:l.map (λx=>(x.1,x.2.1,x.2.2.1))=m.map (λx=>(x.1,x.2.1,x.2.2.1))):place l id s d=place m id s d:=by
 rw[aCq,aCq,bAa l m 0 h]
theorem aHz(l:lUs)(id s d:Int):(place l id s d= -1/\(∀x∈l,jL id s d x=false)/\dC l id s d=0/\rF l id s d=l++[(id,s,d,1)])\/
  ∃(j:Nat) (x:den tUs),place l id s d=(j:Int)/\l[j]? =some x/\jL id s d x=true/\dC l id s d=x.2.2.2/\rF l id s d=l.set j (x.1,x.2.1,x.2.2.1,wr (x.2.2.2+1)):=by
 rcases aJf l id s d with ⟨h1,h2⟩ | ⟨j,x,h1,h2,h3⟩
 .refine .inl ⟨h1,h2,?_,?_⟩
  .unfold dC;rw[h1,zT (by decide)]
  .unfold rF;rw[h1,zT (by decide)]
 .refine .inr ⟨j,x,h1,h2,h3,?_,?_⟩
  .unfold dC;rw[h1,zS (by omega),bZ4,h2];rfl
  .unfold rF;rw[h1,zS (by omega),bZ4];simp only[h2]
theorem aN0{l:lUs}{j:Nat}{x:den tUs}(h:l[j]? =some x)(c:Int):(l.set j (x.1,x.2.1,x.2.2.1,c)).map (λx=>(x.1,x.2.1,x.2.2.1))=l.map (λx=>(x.1,x.2.1,x.2.2.1)):=by
 rw[List.map_set];apply List.ext_getElem?;intro i
 by_cases hij:j=i
 .subst hij;obtain⟨hlt,rfl⟩:=bZy.1 h;rw[cB4 (by simpa using hlt),cBq,bZw hlt];rfl
 .rw[cCu hij]
theorem aR3.more{g:den tSc}{now id s d:Int}(h:aR3 g now)(hu:dC g.2.2 id s d<pI g id s d now)(hb:pI g id s d now<=1000000):aR3 (g.1,g.2.1,rF g.2.2 id s d) now:=by
 have hr:∀i s d,pI (g.1,g.2.1,rF g.2.2 id s d) i s d now=pI g i s d now:=λ_ _ _=>rfl
 intro j x hx;have hx:(rF g.2.2 id s d)[j]? =some x:=hx;show place (rF g.2.2 id s d) x.1 x.2.1 x.2.2.1=(j:Int)/\(1:Int)<=x.2.2.2/\pI g x.1 x.2.1 x.2.2.1 now>=x.2.2.2;rcases aHz g.2.2 id s d with ⟨h1,h2,h3,h4⟩ | ⟨i,y,h1,h2,h3,h4,h5⟩
 .rw[h4]at hx ⊢;rw[aKx]
  by_cases hj:j<g.2.2.length
  .rw[List.getElem?_append_left hj]at hx;obtain⟨a,b,c⟩:=h j x hx;rw[a,zS (by omega)];exact⟨rfl,b,c⟩
  .rw[cCd (by omega)]at hx;have hj0:j - g.2.2.length=0:=by
    cases hk:j - g.2.2.length with
    | zero=>rfl
    | succ k=>rw[hk]at hx;simp at hx
   rw[hj0]at hx;simp only[cC3,Option.some.injEq]at hx;subst hx;have hj':j=g.2.2.length:=by omega
   simp only;rw[h1,zT (by decide),hj'];refine⟨?_,cAu 1,?_⟩
   .unfold plc;rw[zT (show jL id s d (id,s,d,1)=true from xX.2 ⟨rfl,rfl,rfl⟩)]
   .rw[h3]at hu;omega
 .rw[h5]at hx ⊢;rw[aIq (aN0 h2 _)]
  by_cases hij:i=j
  .subst hij;rw[cB4 (bZy.1 h2).1]at hx;simp only[Option.some.injEq]at hx;subst hx;obtain⟨a,b,c⟩:=h i y h2;obtain⟨k1,k2,k3⟩:=xX.1 h3;simp only;rw[k1,k2,k3]at a c ⊢;rw[h4]at hu;have hw:wr (y.2.2.2+1)=y.2.2.2+1:=wri (by omega) (by omega);rw[hw];exact⟨a,by omega,by omega⟩
  .rw[cCu hij]at hx;exact h j x hx
def rr(id s d now:Int):lRs->Int
 | []=>0
 | x::l=>if x.1==id&&(atR x s d&&decide (now<=x.2.2.2.2)) then x.2.2.2.1 else rr id s d now l
theorem bE5(l:lRs)(id s d now:Int):aGz l id s d now=rr id s d now l:=by
 unfold aGz;have :∀(l:lRs) (k:Nat),(match bN (λ_ (x:den tRs)=>if x.1==id&&(atR x s d&&decide (now<=x.2.2.2.2)) then some x.2.2.2.1 else none) k l with
  | some r=>r
  | none=>0)=rr id s d now l:=by
  intro l
  induction l with
  | nil=>intro k;rfl
  | cons x l ih=>
   intro k;cases hp:(x.1==id&&(atR x s d&&decide (now<=x.2.2.2.2))) with
   | true=>simp only[bN,rr,hp,zV]
   | false=>simp only[bN,rr,hp];exact ih (k+1)
 exact this l 0
theorem bIh{id s d now:Int}:∀{l:lRs},(∀x∈l,(0:Int)<=x.2.2.2.1/\(20:Int)>=x.2.2.2.1)->0<=rr id s d now l/\rr id s d now l<=20
 | [],_=>by simp[rr]
 | x::l,h=>by
  have ih:=bIh (id:=id) (s:=s) (d:=d) (now:=now) (l:=l) λy hy=>h y (bZ0 _ hy)
  have hx:=h x (by simp);unfold rr;split<;>omega
theorem bGb{s d now:Int}:∀{l:lRs},rs s d now l=0\/ ∃x∈l,x.2.1=s/\x.2.2.1=d
 | []=> .inl rfl
 | x::l=>by
  by_cases ha:atR x s d=true
  .unfold atR at ha;simp only[bZu,beq_iff_eq]at ha;exact .inr ⟨x,by simp,ha⟩
  .rcases bGb (s:=s) (d:=d) (now:=now) (l:=l) with h | ⟨y,hy,h⟩
   .left;unfold rs;rw[h];simp[ha]
   .exact .inr ⟨y,bZ0 _ hy,h⟩
theorem sJ.rs_le{l:lRs}{cap now:Int}(h:sJ l cap now)(hc:0<=cap)(s d:Int):rs s d now l<=cap:=by
 rcases bGb (s:=s) (d:=d) (now:=now) (l:=l) with h0 | ⟨x,hx,h1,h2⟩
 .omega
 .have :=h.rate x hx;rw[h1,h2]at this;exact this
theorem bBz{l:lRs}{cap now:Int}(h:sJ l cap now)(hc:1<=cap/\cap<=20)(s d:Int):free l cap s d now=cap - rs s d now l:=by
 have h1:=h.rs_le (by omega) s d;have h2:=aQ0 (s:=s) (d:=d) (now:=now) (rZ h.val);unfold free;rw[aLq (rZ h.val) (by have :=h.len;omega),show wr (cap - rs s d now l)=cap - rs s d now l from wri (by omega) (by omega)];split<;>omega
structure OkS (g:den tSc) (now:Int):Prop where
 lo:(1:Int)<=g.1
 hi:(20:Int)>=g.1
 res:sJ g.2.1 g.1 now
 use:aR3 g now
theorem bSv{g:den tSc}{now:Int}:aCe g now=true↔OkS g now:=by
 rw[bG1,bMl];exact⟨λ⟨a,b,c,d⟩=>⟨a,b,c,d⟩,λ⟨a,b,c,d⟩=>⟨a,b,c,d⟩⟩
end Go.Proofs.YtnkjolpkcmgcaaaGreat
