/-
  Facts and plain laws: what the functions compute, in plain words. Conditions: as each says.
-/
import Derived.Test.YtnkjolpkcmgcaaaGreatT0FnWorlds
open List renaming length->cCv,mem_of_getElem?->cCt,nil_append->cC4,getElem?_cons_zero->cFd,getElem?_eq_getElem->cCe,length_take->cDf,length_append->cC3,length_singleton->cDz,mem_append->cCo,getElem?_eq_some_iff->cCq,map_cons->cC1,sum_cons->cDw,getLast?_concat->cFe,dropLast_concat->cFs,length_nil->cDj,length_cons->cDe,foldl_cons->cEa,append_nil->cDl,length_filter_le->cEc,all_eq_true->cC6,mem_zipIdx_iff_getElem?->cFv,filter_cons->cE3,getElem?_drop->cD2,length_drop->cD6,getElem?_map->cEj
open Nat renaming le_trans->cCc,zero_add->cDg,le_refl->cCx,zero_le->cCz,le_of_eq->cEf,not_lt_zero->cFc
open Bool renaming eq_false_or_eq_true->cE2,true_and->cCi,eq_iff_iff->cC7,not_true->cCd,not_false->cCh,false_and->cCj,false_eq_true->cCs,and_eq_true->cCf,not_eq_true'->cDk,and_false->cE5,and_self->cD7
open Sum renaming elim_inl->cCp,elim_inr->cCr,inl->cCb,inr->cCa
open Int renaming toNat_natCast->cCm,tmod->cDp,toNat_of_nonneg->cEw
open Option renaming getD_some->cDc
set_option linter.unusedVariables false
set_option linter.unusedSimpArgs false
set_option maxRecDepth 100000
namespace Go.Proofs.YtnkjolpkcmgcaaaGreat
open Go.Ab Go.V
def inR(n a b:Int):Bool:=decide (a<=n)&&decide (n<=b)
theorem rE(n a b:Int):cJ n a b=some (inR n a b):=by
 unfold cJ inR
 by_cases h:a<=n<;>simp[h]
theorem eZ(n a b:Int):aI n a b=some (inR n a b):=by
 unfold aI inR
 by_cases h:a<=n<;>simp[h]
theorem cE{n a b:Int}:inR n a b=true↔a<=n/\n<=b:=by simp[inR]
theorem bUo{n a b:Int}:inR n a b=false↔ ¬ (a<=n/\n<=b):=by rw[<- cE];simp
theorem cA0(a b:Int):aJ5 a b=some (if b>a then b else a):=rfl
theorem bD3(a b:Int):aCf a b=some (if b>a then b else a):=by
 unfold aCf
 by_cases h:b>a<;>simp[h]
theorem bZq(a b:Int):aKz a b=some (if b<a then b else a):=rfl
theorem aWh(a b:Int):aAf a b=some (if b<a then b else a):=by
 unfold aAf
 by_cases h:b<a<;>simp[h]
theorem bCl{b:List Int}(h:b.length<=68719476736):nY b=some b:=by
 unfold nY;rw[aE (by decide) (by simpa using h)];simp
theorem aSx{l:bQ}(h:l.length<=68719476736):lR l=some l:=by
 unfold lR;rw[aE (by decide) (by simpa using h)];simp
theorem bVh{l:lRv}(h:l.length<=68719476736):jR l=some l:=by
 unfold jR;rw[aE (by decide) (by simpa using h)];simp
theorem aPs{p:den tPp}(h:SmB 68719476736 tPp p):pP p=some p:=by
 unfold pP;rw[aE (by decide) (by simpa using h.2.2.2.1)];simp
theorem aNu{p:den tPt}(h:SmB 68719476736 tPt p):iY p=some p:=by
 unfold iY;rw[(wJ (λk (a:lPp)=>((k:Int),a)) ((0:Int),[]) [] p (λ_ x a=>a++[x]) cCv (λ_=>1) 68719476736 id rfl (cCc h.1 (by decide)) (by rw[dP];simpa using h.1) (λk x a hi hx hd hw hk hb=>by
  have e:=h.2 x (cCt hx);simp only[hd,hi,hw,zZ,aA,aSx e.2.2.2.1,aN,aE (b:=48) (by decide) hb];simp) (λa=>by simp)).1,fP (λx=>x)]
 simp
theorem aFz{p:den tPt}(h:SmB 68719476736 tPt p):iU p=some p:=by
 unfold iU pj4;rw[(wJ (λk (a:lPp)=>((k:Int),a)) ((0:Int),[]) [] p (λ_ x a=>a++[x]) cCv (λ_=>1) 68719476736 id rfl (cCc h.1 (by decide)) (by rw[dP];simpa using h.1) (λk x a hi hx hd hw hk hb=>by
  have e:=h.2 x (cCt hx);simp only[hd,hi,hw,zZ,aA,aN,aPs e,aE (b:=48) (by decide) hb];simp) (λa=>by simp)).1,fP (λx=>x)]
 simp
theorem bPb{l:lPt}(h:SmB 68719476736 (.sl tPt) l):tO l=some l:=by
 unfold tO;rw[(wJ (λk (a:lPt)=>((k:Int),a)) ((0:Int),[]) [] l (λ_ x a=>a++[x]) cCv (λ_=>1) 68719476736 id rfl (cCc h.1 (by decide)) (by rw[dP];simpa using h.1) (λk x a hi hx hd hw hk hb=>by
  have e:=h.2 x (cCt hx);simp only[hd,hi,hw,zZ,aA,aNu e,aE (b:=24) (by decide) hb];simp) (λa=>by simp)).1,fP (λx=>x)]
 simp
theorem bPf{l:lPt}(h:SmB 68719476736 (.sl tPt) l):yA l=some l:=by
 unfold yA;rw[(wJ (λk (a:lPt)=>((k:Int),a)) ((0:Int),[]) [] l (λ_ x a=>a++[x]) cCv (λ_=>1) 68719476736 id rfl (cCc h.1 (by decide)) (by rw[dP];simpa using h.1) (λk x a hi hx hd hw hk hb=>by
  have e:=h.2 x (cCt hx);simp only[hd,hi,hw,zZ,aA,aFz e,aE (b:=24) (by decide) hb];simp) (λa=>by simp)).1,fP (λx=>x)]
 simp
theorem bCm{l:lMs}(h:SmB 68719476736 (.sl tMs) l):jK l=some l:=by
 unfold jK;rw[(wJ (λk (a:lMs)=>((k:Int),a)) ((0:Int),[]) [] l (λ_ x a=>a++[x]) cCv (λ_=>1) 68719476736 id rfl (cCc h.1 (by decide)) (by rw[dP];simpa using h.1) (λk x a hi hx hd hw hk hb=>by
  have e:=h.2 x (cCt hx);simp only[hd,hi,hw,zZ,aA,bCl e.1,aE (b:=24) (by decide) hb];simp) (λa=>by simp)).1,fP (λx=>x)]
 simp
theorem bC9{l:lMs}(h:SmB 68719476736 (.sl tMs) l):qZ l=some l:=by
 unfold qZ;rw[(wJ (λk (a:lMs)=>((k:Int),a)) ((0:Int),[]) [] l (λ_ x a=>a++[x]) cCv (λ_=>1) 68719476736 id rfl (cCc h.1 (by decide)) (by rw[dP];simpa using h.1) (λk x a hi hx hd hw hk hb=>by
  have e:=h.2 x (cCt hx);simp only[hd,hi,hw,zZ,aA,aE (b:=1) (n:=([]:List Int).length) (by decide) (by simpa using e.1),aE (b:=24) (by decide) hb];simp) (λa=>by simp)).1,fP (λx=>x)]
 simp
def sS(f:den tFl):q7:=(f.1,f.2.1,f.2.2.1,f.2.2.2.1,f.2.2.2.2.2.2.1,f.2.2.2.2.2.2.2.1,f.2.2.2.2.1,f.2.2.2.2.2.1,f.2.2.2.2.2.2.2.2)
theorem bBj{f:den tFl}(h:SmB 68719476736 tFl f):qM f=some (sS f):=by
 unfold qM sS zz4 zz5 zz6 zz7 zz8;simp only[bCm h.2.2.2.2.1,bPb h.2.2.2.2.2.1,bVh h.2.2.2.2.2.2.2.2.1,aA]
theorem aD0{f:den tFl}(h:SmB 68719476736 tFl f):eK f=some (sS f):=by
 unfold eK sS zz4 zz5 zz6 zz7 zz8;simp only[bC9 h.2.2.2.2.1,bPf h.2.2.2.2.2.1,aA,aE (b:=24) (n:=([]:lRv).length) (by decide) (by simpa using h.2.2.2.2.2.2.2.2.1),zZ,cC4]
theorem bUj{x:den tIb}(h:SmB 68719476736 tIb x):uC x=some x:=by
 unfold uC;simp only[bCm h.2.2.2,aA,aN]
theorem bB1{x:den tIb}(h:SmB 68719476736 tIb x):tT x=some x:=by
 unfold tT;simp only[bC9 h.2.2.2,aA,aN]
def eW(x:den tRv):Bool:=inR x.1 0 7&&(inR x.2.1 1 6&&inR x.2.2 0 1000000)
theorem aOt(x:den tRv):dM x=some (eW x):=by
 unfold dM eW;simp only[rE,aA];cases inR x.1 0 7<;>cases inR x.2.1 1 6<;>cases inR x.2.2 0 1000000<;>rfl
theorem aD5(x:den tRv):bW x=some (eW x):=by
 unfold bW eW;simp only[eZ,aA];cases inR x.1 0 7<;>cases inR x.2.1 1 6<;>cases inR x.2.2 0 1000000<;>rfl
theorem aAj{α S:Type}(p:Nat->α->Bool):∀(l:List α) (k:Nat) (ρ:S),bU (λk x=>if p k x then none else some ρ) k l=if (l.zipIdx k).all (λx=>p x.2 x.1) then none else some ρ
 | [],_,_=>rfl
 | x::xs,k,ρ=>by
  simp only[bU,List.zipIdx_cons,List.all_cons];rcases cE2 (p k x) with h | h
  .simp only[h,zV,cCi];exact aAj p xs (k+1) ρ
  .simp[h]
theorem bB5{α:Type}(p:α->Bool):∀(l:List α) (k:Nat),(l.zipIdx k).all (λx=>p x.1)=l.all p
 | [],_=>rfl
 | x::xs,k=>by simp[List.zipIdx_cons,bB5 p xs]
theorem kK{α S:Type}(p:α->Bool)(l:List α)(ρ:S):bU (λ_ x=>if p x then none else some ρ) 0 l=if l.all p then none else some ρ:=by
 rw[aAj (λ_ x=>p x),bB5 p]
def iJ(f:den tFl):Bool:=
 inR f.1 0 7&&(inR f.2.1 0 7&&(!(f.1==f.2.1)&&(inR f.2.2.1 0 100000&&(decide (f.2.2.2.2.1.length<=20)&&(inR f.2.2.2.1 0 (f.2.2.2.2.1.length:Int)&&(decide (f.2.2.2.2.2.1.length<=24)&&
  (f.2.2.2.2.1.all (λm=>decide (m.length<=40))&&(f.2.2.2.2.2.2.2.2.all eW&&((f.2.2.2.2.2.2.1==0||inR f.2.2.2.2.2.2.1 0 ((f.2.2.2.2.2.1.length:Int) - 1))&&(inR f.2.2.2.2.2.2.2.1 0 4&&decide (f.2.2.2.2.2.2.2.2.length<=16)))))))))))
theorem aYf{f:den tFl}(h:SmB 68719476736 tFl f):oB f=some (iJ f):=by
 have h1:=h.2.2.2.2.1.1;have h2:=h.2.2.2.2.2.1.1;have h3:=h.2.2.2.2.2.2.2.2.1;unfold oB iJ pj3 zz4 zz5 zz6 zz7 zz8;rw[aM (l:=f.2.2.2.2.1) (λ_ m=>if decide (m.length<=40) then none else some false) (by omega) (λk m hi hd hw hx hk=>by
  simp only[hd,hi,hw,zZ,aA]
  by_cases hm:m.length<=40
  .simp[hm,show ¬ ((m.length:Int)>40) by omega]
  .simp[hm,show (m.length:Int)>40 by omega]) (by simp)]
 rw[aM (l:=f.2.2.2.2.2.2.2.2) (λ_ x=>if eW x then none else some false) (by omega) (λk x hi hd hw hx hk=>by
  simp only[hd,hi,hw,zZ,aA,aN,aOt];cases eW x<;>rfl) (by simp)]
 rw[kK (λm:List Int=>decide (m.length<=40)),kK eW];have e1:decide ((f.2.2.2.2.1.length:Int)>20)= !decide (f.2.2.2.2.1.length<=20):=by rw[cC7];simp;omega
 have e2:decide ((f.2.2.2.2.2.1.length:Int)>24)= !decide (f.2.2.2.2.2.1.length<=24):=by rw[cC7];simp;omega
 have e3:decide ((f.2.2.2.2.2.2.2.2.length:Int)<=16)=decide (f.2.2.2.2.2.2.2.2.length<=16):=by rw[cC7];simp;omega
 have e5:wr ((f.2.2.2.2.2.1.length:Int) - 1)=(f.2.2.2.2.2.1.length:Int) - 1:=wri (by omega) (by omega);rw[e5];simp only[rE,aA,e1,e2,e3];cases inR f.1 0 7<;>simp only[cCd,cCh,zZ,zY,aA,cCj,cCi];cases inR f.2.1 0 7<;>simp only[cCd,cCh,zZ,zY,aA,cCj,cCi];cases f.1==f.2.1<;>simp only[cCd,cCh,zZ,zY,aA,cCj,cCi];cases inR f.2.2.1 0 100000<;>simp only[cCd,cCh,zZ,zY,aA,cCj,cCi];cases decide (f.2.2.2.2.1.length<=20)<;>simp only[cCd,cCh,zZ,zY,aA,cCj,cCi];cases inR f.2.2.2.1 0 (f.2.2.2.2.1.length:Int)<;>simp only[cCd,cCh,zZ,zY,aA,cCj,cCi];cases decide (f.2.2.2.2.2.1.length<=24)<;>simp only[cCd,cCh,zZ,zY,aA,cCj,cCi];cases f.2.2.2.2.1.all (λm=>decide (m.length<=40))<;>simp only[cCs,zV,zU,aA,cCp,cCr,cCj,cCi];cases f.2.2.2.2.2.2.2.2.all eW<;>simp only[cCs,zV,zU,aA,cCp,cCr,cCj,cCi];cases f.2.2.2.2.2.2.1==0<;>cases inR f.2.2.2.2.2.2.1 0 ((f.2.2.2.2.2.1.length:Int) - 1)<;>cases inR f.2.2.2.2.2.2.2.1 0 4<;>rfl
theorem aO2{f:den tFl}(h:SmB 68719476736 tFl f):jO f=some (iJ f):=by
 have h1:=h.2.2.2.2.1.1;have h2:=h.2.2.2.2.2.1.1;have h3:=h.2.2.2.2.2.2.2.2.1;unfold jO iJ pj3 zz4 zz5 zz6 zz7 zz8;rw[aM (l:=f.2.2.2.2.1) (λ_ m=>if decide (m.length<=40) then none else some false) (by omega) (λk m hi hd hw hx hk=>by
  simp only[hd,hi,hw,zZ,aA]
  by_cases hm:m.length<=40
  .simp[hm,show ¬ ((m.length:Int)>40) by omega]
  .simp[hm,show (m.length:Int)>40 by omega]) (by simp)]
 rw[aM (l:=f.2.2.2.2.2.2.2.2) (λ_ x=>if eW x then none else some false) (by omega) (λk x hi hd hw hx hk=>by
  simp only[hd,hi,hw,zZ,aA,aN,aD5];cases eW x<;>rfl) (by simp)]
 rw[kK (λm:List Int=>decide (m.length<=40)),kK eW];have e1:decide ((f.2.2.2.2.1.length:Int)>20)= !decide (f.2.2.2.2.1.length<=20):=by rw[cC7];simp;omega
 have e2:decide ((f.2.2.2.2.2.1.length:Int)>24)= !decide (f.2.2.2.2.2.1.length<=24):=by rw[cC7];simp;omega
 have e3:decide ((f.2.2.2.2.2.2.2.2.length:Int)>16)= !decide (f.2.2.2.2.2.2.2.2.length<=16):=by rw[cC7];simp;omega
 have e4:inR f.2.2.2.2.2.2.1 0 (if ((f.2.2.2.2.2.1.length:Int) - 1)>0 then ((f.2.2.2.2.2.1.length:Int) - 1) else 0)=(f.2.2.2.2.2.2.1==0||inR f.2.2.2.2.2.2.1 0 ((f.2.2.2.2.2.1.length:Int) - 1)):=by
  have key:∀(c n:Int),0<=n->inR c 0 (if n - 1>0 then n - 1 else 0)=(c==0||inR c 0 (n - 1)):=λc n hn=>by
   unfold inR
   by_cases h1:n - 1>0
   .rw[zT h1]
    by_cases h2:c=0
    .subst h2;simp;omega
    .simp[h2]
   .rw[zS h1]
    by_cases h2:c=0
    .subst h2;simp
    .rw[cC7];simp[h2];omega
  exact key _ _ (by omega)
 have e5:wr ((f.2.2.2.2.2.1.length:Int) - 1)=(f.2.2.2.2.2.1.length:Int) - 1:=wri (by omega) (by omega);rw[e5];simp only[eZ,bD3,aA,e1,e2,e3,e4];cases inR f.1 0 7<;>simp only[cCd,cCh,zZ,zY,aA,cCj,cCi];cases inR f.2.1 0 7<;>simp only[cCd,cCh,zZ,zY,aA,cCj,cCi];cases f.1==f.2.1<;>simp only[cCd,cCh,zZ,zY,aA,cCj,cCi];cases inR f.2.2.1 0 100000<;>simp only[cCd,cCh,zZ,zY,aA,cCj,cCi];cases decide (f.2.2.2.2.1.length<=20)<;>simp only[cCd,cCh,zZ,zY,aA,cCj,cCi];cases inR f.2.2.2.1 0 (f.2.2.2.2.1.length:Int)<;>simp only[cCd,cCh,zZ,zY,aA,cCj,cCi];cases decide (f.2.2.2.2.2.1.length<=24)<;>simp only[cCd,cCh,zZ,zY,aA,cCj,cCi];cases f.2.2.2.2.2.2.1==0||inR f.2.2.2.2.2.2.1 0 ((f.2.2.2.2.2.1.length:Int) - 1)<;>cases inR f.2.2.2.2.2.2.2.1 0 4<;>cases decide (f.2.2.2.2.2.2.2.2.length<=16)<;>cases f.2.2.2.2.1.all (λm=>decide (m.length<=40))<;>cases f.2.2.2.2.2.2.2.2.all eW<;>rfl
def aDi(a b:List Int):Bool:=(zB a).toList==(zB b).toList
theorem bUz(a b:List Int):mQ a b=some (aDi a b):=rfl
theorem bUw(a b:List Int):mS a b=some (aDi a b):=rfl
def xM:lMs->lMs->Bool
 | [],_=>true
 | _::_,[]=>true
 | a::as,b::bs=>aDi a b&&xM as bs
def aNe{α S:Type}(p:α->α->Bool)(l:List α)(ρ:S)(k:Nat)(x:α):Option S:=Option.elim l[k]? none λy=>if p x y then none else some ρ
theorem bGj{α S:Type}(p:α->α->Bool)(q:List α->List α->Bool)(h0:∀b,q [] b=true)(h1:∀x a y b,q (x::a) (y::b)=(p x y&&q a b))(ρ:S):∀(a b:List α),a.length<=b.length-> ∀(k:Nat) (l:List α),(∀j,b[j]? =l[k+j]?)->bU (aNe p l ρ) k a=if q a b then none else some ρ
 | [],b,_,k,l,_=>by rw[h0];rfl
 | x::a,[],h,_,_,_=>by simp at h
 | x::a,y::b,h,k,l,hl=>by
  have e0:=hl 0;simp only[Nat.add_zero,cFd]at e0;simp only[bU,aNe,<- e0,h1,Option.elim_some];rcases cE2 (p x y) with hp | hp
  .simp only[hp,zV,cCi];exact bGj p q h0 h1 ρ a b (by simpa using h) (k+1) l λj=>by
    have :=hl (j+1);rw[List.getElem?_cons_succ]at this;rw[this];congr 1;omega
  .simp[hp]
theorem bO9{a b:lMs}(ha:a.length<=68719476736)(hb:b.length<=68719476736):dK a b=some (decide (a.length=b.length)&&xM a b):=by
 unfold dK
 by_cases hl:a.length=b.length
 .have h0:((a.length:Int) != (b.length:Int))=false:=by simp[hl]
  rw[h0,zY,aM (l:=a) (aNe aDi b false) (by omega) (λk x hi hd hw hx hk=>by
    have hy:b[k]? =some b[k]:=cCe (by omega);simp only[hd,hi,hw,zZ,aA,aF,hy,bUz,aNe,Option.elim_some];cases aDi x b[k]<;>rfl) (by simp)]
  rw[bGj aDi xM (λb=>by cases b<;>rfl) (λ_ _ _ _=>rfl) false a b (by omega) 0 b (λj=>by rw[cDg])];cases xM a b<;>simp[hl]
 .have h0:((a.length:Int) != (b.length:Int))=true:=by simp;omega
  rw[h0,zZ];simp[hl]
def xL(f:den tFl)(x:den tIb):Bool:=
 x.1==f.2.1&&(x.2.1==f.1&&(decide (x.2.2.2.length<=f.2.2.2.2.1.length)&&(xM x.2.2.2 f.2.2.2.2.1&&decide ((x.2.2.2.length:Int)>=f.2.2.2.1))))
theorem aIc:∀(a b:lMs),xM a (b.take a.length)=xM a b
 | [],b=>by cases b<;>rfl
 | x::a,[]=>rfl
 | x::a,y::b=>by simp[xM,aIc a b]
theorem bL4{f:den tFl}{x:den tIb}(hf:f.2.2.2.2.1.length<=68719476736)(hx:x.2.2.2.length<=68719476736):kL f x=some (xL f x):=by
 unfold kL xL zz4;cases x.1==f.2.1
 .rfl
 cases x.2.1==f.1
 .rfl
 by_cases hl:x.2.2.2.length<=f.2.2.2.2.1.length
 .have h1:decide ((x.2.2.2.length:Int)<=(f.2.2.2.2.1.length:Int))=true:=by simpa using hl
  have h2:bY (0:Int) (x.2.2.2.length:Int) (f.2.2.2.2.1.length:Int)=true:=by simp[bY];omega
  rw[h1,h2,hO,bO9 hx (by rw[cDf];omega),aIc];have h3:decide (x.2.2.2.length=(List.take x.2.2.2.length f.2.2.2.2.1).length)=true:=by simp[cDf];omega
  rw[h3];simp only[zZ,aA,cCi,zX hl];cases xM x.2.2.2 f.2.2.2.2.1<;>rfl
 .have h1:decide ((x.2.2.2.length:Int)<=(f.2.2.2.2.1.length:Int))=false:=by simp;omega
  rw[h1];simp[hl]
theorem bI5{f:den tFl}{x:den tIb}(hf:f.2.2.2.2.1.length<=68719476736)(hx:x.2.2.2.length<=68719476736):lC f x=some (xL f x):=by
 unfold lC xL zz4;simp only[bne];cases x.1==f.2.1
 .rfl
 cases x.2.1==f.1
 .rfl
 by_cases hl:x.2.2.2.length<=f.2.2.2.2.1.length
 .have h1:decide ((x.2.2.2.length:Int)>(f.2.2.2.2.1.length:Int))=false:=by simp;omega
  have h4:decide ((x.2.2.2.length:Int)<f.2.2.2.1)= !decide ((x.2.2.2.length:Int)>=f.2.2.2.1):=by rw[cC7];simp
  rw[h1,h4,aM (l:=x.2.2.2) (aNe aDi f.2.2.2.2.1 false) (by omega) (λk m hi hd hw hm hk=>by
    have hy:f.2.2.2.2.1[k]? =some f.2.2.2.2.1[k]:=cCe (by omega);simp only[hd,hi,hw,zZ,aA,aF,hy,bUw,aNe,Option.elim_some];cases aDi m f.2.2.2.2.1[k]<;>rfl) (by simp)]
  rw[bGj aDi xM (λb=>by cases b<;>rfl) (λ_ _ _ _=>rfl) false x.2.2.2 f.2.2.2.2.1 hl 0 f.2.2.2.2.1 (λj=>by rw[cDg])];rw[zX hl];cases decide ((x.2.2.2.length:Int)>=f.2.2.2.1)<;>cases xM x.2.2.2 f.2.2.2.2.1<;>rfl
 .have h1:decide ((x.2.2.2.length:Int)>(f.2.2.2.2.1.length:Int))=true:=by simp;omega
  rw[h1];simp[hl]
def aFg(x:den tIb)(p:den tPk):Bool:=p.1==1&&(p.2.1==x.2.1&&p.2.2.1==x.1)
theorem bBc(x:den tIb)(p:den tPk):wQ x p=some (aFg x p):=by
 unfold wQ aFg;cases p.1==1<;>cases p.2.1==x.2.1<;>rfl
def bDx(x:den tIb)(p:den tPk):Bool:=aFg x p&&(p.2.2.2.2.2.2.2.2.1==x.2.2.1&&decide (x.2.2.1<20))
def kI(x:den tIb)(p:den tPk):den tIb:=if bDx x p then (x.1,x.2.1,wr (x.2.2.1+1),x.2.2.2++[p.2.2.2.2.2.2.2.2.2]) else x
theorem bVz{x:den tIb}{p:den tPk}(hx:SmB 4294967296 tIb x)(hp:SmB 4294967296 tPk p):oN x p=some (kI x p):=by
 have hx':SmB 68719476736 tIb x:=hx.mono (by decide);have hp':=(hp.mono (C:=68719476736) (by decide)).2.2.2.2.2.2.2.2.2.1;unfold oN kI bDx bM pj4 zz8 zz9;have ha:=hx.2.2.2.1;simp only[aN,bB1 hx',bBc,aA,aE (b:=1) (n:=([]:List Int).length) (by decide) (by simpa using hp'),aE (b:=24) (n:=x.2.2.2.length) (m:=1) (by decide) (by omega),zZ,cC4];cases aFg x p<;>cases p.2.2.2.2.2.2.2.2.1==x.2.2.1<;>cases decide (x.2.2.1<20)<;>rfl
theorem bHz(x:den tIb)(p:den tPk):tot (.sl tMs) (kI x p).2.2.2<=tot (.sl tMs) x.2.2.2+1+tot (.sl tb) p.2.2.2.2.2.2.2.2.2:=by
 unfold kI;split
 .rw[pM,aC5];show _+(1+tot (.sl tb) _)<=_;omega
 .omega
def bAh(f:den tFl)(p:den tPk):Bool:=p.1==2&&(p.2.1==f.2.1&&(p.2.2.1==f.1&&(p.2.2.2.2.2.2.2.2.1==f.2.2.2.1&&inR f.2.2.2.1 0 ((f.2.2.2.2.1.length:Int) - 1))))
def yU(f:den tFl)(p:den tPk):den tFl:=if bAh f p then (f.1,f.2.1,f.2.2.1,wr (f.2.2.2.1+1),f.2.2.2.2.1,f.2.2.2.2.2.1,f.2.2.2.2.2.2.1,0,f.2.2.2.2.2.2.2.2) else f
theorem bB2{f:den tFl}{p:den tPk}(hf:SmB 68719476736 tFl f):qT f p=some (sS (yU f p)):=by
 unfold qT yU bAh pj3 pj9 zz4 zz5 zz6 zz8;have e5:wr ((f.2.2.2.2.1.length:Int) - 1)=(f.2.2.2.2.1.length:Int) - 1:=wri (by have :=hf.2.2.2.2.1.1;omega) (by have :=hf.2.2.2.2.1.1;omega);simp only[aN,aD0 hf,aA,eZ,e5];cases p.1==2<;>cases p.2.1==f.2.1<;>cases p.2.2.1==f.1<;>cases p.2.2.2.2.2.2.2.2.1==f.2.2.2.1<;>cases inR f.2.2.2.1 0 ((f.2.2.2.2.1.length:Int) - 1)<;>rfl
theorem bA4(f:den tFl)(p:den tPk):(yU f p).2.2.2.2.1=f.2.2.2.2.1/\(yU f p).2.2.2.2.2.1=f.2.2.2.2.2.1/\(yU f p).2.2.2.2.2.2.2.2=f.2.2.2.2.2.2.2.2:=by
 unfold yU;split<;>exact⟨rfl,rfl,rfl⟩
def enq(f:den tFl)(b:List Int):den tFl:=(f.1,f.2.1,f.2.2.1,f.2.2.2.1,f.2.2.2.2.1++[b],f.2.2.2.2.2.1,f.2.2.2.2.2.2.1,f.2.2.2.2.2.2.2.1,f.2.2.2.2.2.2.2.2)
def aZq(f:den tFl)(b:List Int):Int×Int×Int×Int×Int×Int×Bool×lMs×lPt×lRv:=
 if iJ (enq f b) then (f.1,f.2.1,f.2.2.1,f.2.2.2.1,f.2.2.2.2.2.2.1,f.2.2.2.2.2.2.2.1,true,f.2.2.2.2.1++[b],f.2.2.2.2.2.1,f.2.2.2.2.2.2.2.2)
 else (f.1,f.2.1,f.2.2.1,f.2.2.2.1,f.2.2.2.2.2.2.1,f.2.2.2.2.2.2.2.1,false,f.2.2.2.2.1,f.2.2.2.2.2.1,f.2.2.2.2.2.2.2.2)
theorem bW9{f:den tFl}{b:List Int}(hf:SmB 4294967296 tFl f)(hb:SmB 4294967296 (.sl tb) b):SmB 68719476736 tFl (enq f b):=by
 have hf':=hf.mono (C:=68719476736) (by decide);refine⟨hf'.1,hf'.2.1,hf'.2.2.1,hf'.2.2.2.1,⟨?_,λe he=> ?_⟩,hf'.2.2.2.2.2.1,hf'.2.2.2.2.2.2.1,hf'.2.2.2.2.2.2.2.1,hf'.2.2.2.2.2.2.2.2⟩
 .show (f.2.2.2.2.1++[b]).length<=_;have :=hf.2.2.2.2.1.1;rw[cC3,cDz];omega
 .rcases cCo.1 he with he | he
  .exact hf'.2.2.2.2.1.2 e he
  .rw[List.mem_singleton.1 he];exact hb.mono (by decide)
theorem bFs{f:den tFl}{b:List Int}(hf:SmB 4294967296 tFl f)(hb:SmB 4294967296 (.sl tb) b):nP f b=some (aZq f b):=by
 unfold nP aZq pj2 pj3 pj9 zz4 zz5 zz6 zz7 zz8;have hf':=hf.mono (C:=68719476736) (by decide);have h1:=hf.2.2.2.2.1.1;have h2:jO (f.1,f.2.1,f.2.2.1,f.2.2.2.1,f.2.2.2.2.1++[b],f.2.2.2.2.2.1,f.2.2.2.2.2.2.1,f.2.2.2.2.2.2.2.1,f.2.2.2.2.2.2.2.2)=some (iJ (enq f b)):=aO2 (f:=enq f b) (bW9 hf hb);simp only[aN,aD0 hf',aA,sS,aE (b:=1) (n:=([]:List Int).length) (m:=b.length) (by decide) (by have :=hb.1;simp;omega),aE (b:=24) (n:=f.2.2.2.2.1.length) (m:=1) (by decide) (by omega),zZ,cC4,h2];cases iJ (enq f b)<;>rfl
def kJ(k:Int):Bool:=k==1||k==3
theorem aIz(k:Int):eE k=some (kJ k):=by
 unfold eE kJ;cases k==1<;>rfl
theorem aF1(k:Int):dI k=some (kJ k):=by
 unfold dI kJ;cases k==1<;>rfl
def pIn(p:den tPp)(h:den bP):Int:=if kJ p.1 then h.2.2.1 else h.2.1
def pEg(p:den tPp)(h:den bP):Int:=if kJ p.1 then h.2.1 else h.2.2.1
theorem uH{n:Nat}(h:n<=68719476736):wr ((n:Int) - 1)=(n:Int) - 1:=wri (by omega) (by omega)
theorem aNb{k n:Nat}(h:k<n):inR (k:Int) 0 ((n:Int) - 1)=true:=by rw[cE];omega
theorem bSh{p:den tPp}{k:Nat}{h:den bP}(hk:p.2.2.2[k]? =some h)(hl:p.2.2.2.length<=68719476736):lH p (k:Int)=some (pIn p h):=by
 have hlt:k<p.2.2.2.length:=(cCq.1 hk).1;unfold lH pIn;simp only[rE,uH hl,aNb hlt,aA,cCd,zY,aIz,aF,hk];cases kJ p.1<;>rfl
theorem bG7{p:den tPp}{k:Nat}{h:den bP}(hk:p.2.2.2[k]? =some h)(hl:p.2.2.2.length<=68719476736):eP p (k:Int)=some (pIn p h):=by
 have hlt:k<p.2.2.2.length:=(cCq.1 hk).1;unfold eP pIn;simp only[eZ,uH hl,aNb hlt,aA,cCd,zY,aF1,aF,hk];cases kJ p.1<;>rfl
theorem bTg{p:den tPp}{k:Nat}{h:den bP}(hk:p.2.2.2[k]? =some h)(hl:p.2.2.2.length<=68719476736):kS p (k:Int)=some (pEg p h):=by
 have hlt:k<p.2.2.2.length:=(cCq.1 hk).1;unfold kS pEg;simp only[rE,uH hl,aNb hlt,aA,cCd,zY,aIz,aF,hk];cases kJ p.1<;>rfl
theorem aWo{p:den tPp}{k:Nat}{h:den bP}(hk:p.2.2.2[k]? =some h)(hl:p.2.2.2.length<=68719476736):dH p (k:Int)=some (pEg p h):=by
 have hlt:k<p.2.2.2.length:=(cCq.1 hk).1;unfold dH pEg;simp only[eZ,uH hl,aNb hlt,aA,cCd,zY,aF1,aF,hk];cases kJ p.1<;>rfl
def aAd(nf:Bool)(p:den tPp)(i:Nat)(h:den bP)(out:dO):dO:=
 match out.getLast? with
 | some z=>if nf&&(decide (i=0)&&z.1==h.1) then out.dropLast++[(h.1,z.2.1,pEg p h)] else out++[(h.1,pIn p h,pEg p h)]
 | none=>out++[(h.1,pIn p h,pEg p h)]
theorem aPa(nf:Bool)(p:den tPp)(i:Nat)(h:den bP)(out:dO):(aAd nf p i h out).length<=out.length+1:=by
 unfold aAd;split
 .split
  .simp only[cC3,List.length_dropLast,cDz];omega
  .simp
 .simp
def rY(nf:Bool)(p:den tPp)(a:dO):dO:=bT (λi h b=>aAd nf p i h b) 0 p.2.2.2 a
def aBx(p:den tPt):dO:=bT (λk x a=>rY (decide (0<k)) x a) 0 p []
def aIl(l:dO):dO:=
 match l with
 | []=>[]
 | x::xs=>let m:=(x.1,0,x.2.2)::xs
  match m.getLast? with
  | some y=>m.dropLast++[(y.1,y.2.1,0)]
  | none=>[]
def jG(p:den tPt):dO:=aIl (aBx p)
theorem bNr(l:dO):(aIl l).length=l.length:=by
 unfold aIl;split
 .rfl
 .rename_i x xs;simp only;rw[List.getLast?_eq_some_getLast (by simp)];simp
theorem aDq(p:den tPt):(p.map λx=>x.2.2.2.length).sum<=tot tPt p:=by
 show _<=tot (.sl tPp) p;rw[<- aM3]
 induction p with
 | nil=>exact cCx _
 | cons x p ih=>
  simp only[cC1,cDw];have h1:x.2.2.2.length<=tot tPp x:=by
   show _<=tot ti x.1+(tot ti x.2.1+(tot ti x.2.2.1+tot (.sl bP) x.2.2.2));rw[cZ rfl];omega
  omega
theorem aPu{n:Nat}(h:n<=68719476736)(h0:0<n):wr ((n:Int) - 1)=((n - 1:Nat):Int):=by
 rw[uH h];omega
theorem aIn{α:Type}{m:List α}{z:α}(h:(m++[z]).length<=68719476736):wr (((m++[z]).length:Int) - 1)=(m.length:Int):=by
 rw[aPu h (by simp)];simp
theorem aMl(nf:Bool)(p:den tPp)(a:dO):(rY nf p a).length<=a.length+p.2.2.2.length:=by
 have :=aBq (m:=cCv) (cost:=λ_=>1) (λi h b=>aPa nf p i h b) p.2.2.2 0 a;rw[dP]at this;exact this
theorem aJ8(p:den tPt):(aBx p).length<=tot tPt p:=by
 have :=aBq (m:=cCv) (cost:=λx:den tPp=>x.2.2.2.length) (λk x a=>aMl (decide (0<k)) x a) p 0 [];have h2:=aDq p;have h3:(aBx p).length<=0+(p.map λx=>x.2.2.2.length).sum:=this;omega
theorem aE1(p:den tPt):(jG p).length<=tot tPt p:=by
 unfold jG;rw[bNr];exact aJ8 p
theorem bCr(k:Nat):decide ((k:Int)>0)=decide (0<k):=by rw[cC7];simp
theorem aZ9(i:Nat):((i:Int)==0)=decide (i=0):=by rw[cC7];simp
theorem aZn(nf:Bool)(p:den tPp)(i:Nat)(h:den bP):aAd nf p i h []=[(h.1,pIn p h,pEg p h)]:=rfl
theorem aUm(nf:Bool)(p:den tPp)(i:Nat)(h:den bP)(m:dO)(z:den aBe):aAd nf p i h (m++[z])=if nf&&(decide (i=0)&&z.1==h.1) then m++[(h.1,z.2.1,pEg p h)] else (m++[z])++[(h.1,pIn p h,pEg p h)]:=by
 unfold aAd;rw[cFe,cFs]
theorem aVz{m:dO}{x z:den aBe}{xs:dO}(h:(x.1,(0:Int),x.2.2)::xs=m++[z]):aIl (x::xs)=m++[(z.1,z.2.1,0)]:=by
 unfold aIl;simp only;rw[h,cFe,cFs]
theorem aTg{p:den tPt}(h:tot tPt p<=34359738368):nX p=some (jG p):=by
 have hs:=aDq p;have sm:SmB 34359738368 tPt p:=bB h;have hl:=aJ8 p;unfold nX ixb pj4;rw[fS (λk (a:dO)=>((k:Int),a)) ((0:Int),[]) [] p (λk x a=>rY (decide (0<k)) x a) cCv (λx=>x.2.2.2.length) 34359738368 id rfl (cCc sm.1 (by decide)) (by simp only[cDj];omega) (λk x a=>aMl _ x a) (λk x a hi hx hd hw hk hb=>by
  have hxl:x.2.2.2.length<=34359738368:=(sm.2 x (cCt hx)).2.2.2.1;simp only[hd,hi,hw,zZ,aA];rw[fS (λi (b:dO)=>((i:Int),b)) ((0:Int),a) a x.2.2.2 (λi h b=>aAd (decide (0<k)) x i h b) cCv (λ_=>1) 34359738368 id rfl (cCc hxl (by decide)) (by rw[dP];exact hb) (λi h b=>aPa _ x i h b) (λi g b hi2 hg hd2 hw2 hk2 hb2=>by
   have hl2:x.2.2.2.length<=68719476736:=by omega
   simp only[hd2,hi2,hw2,zZ,aA,aN,bSh hg hl2,bTg hg hl2,bCr,aZ9,aE (b:=24) (n:=b.length) (m:=1) (by decide) (by omega)];rcases pU b with rfl | ⟨m,z,rfl⟩
   .rw[aZn];cases decide (0<k)<;>cases decide (i=0)<;>rfl
   .rw[aUm,aIn (by omega)];simp only[bZ,aDx,aIu,aJl,zZ,cCm,aA,aO1];cases decide (0<k)<;>cases decide (i=0)<;>cases hz:z.1==g.1<;>simp[hz];simpa using hz) (λb=>by simp)]
  rfl) (λa=>by simp)]
 simp only[aA,id];rw[show bT (λk x a=>rY (decide (0<k)) x a) 0 p []=aBx p from rfl];show _=some (aIl (aBx p));generalize aBx p=l at hl;cases l with
 | nil=>rfl
 | cons x xs=>
  have e1:decide ((((x::xs).length:Nat):Int)>0)=true:=by simp
  have e2:decide ((0:Int)<(((x::xs).length:Nat):Int))=true:=by simp
  have e3:(0:Int).toNat=0:=rfl;have e4:decide ((0:Int)<=0)=true:=rfl;simp only[e1,e2,e3,e4,zZ,cFd,aA,List.set_cons_zero];rcases pU ((x.1,(0:Int),x.2.2)::xs) with h0 | ⟨m,z,hm⟩
  .cases h0
  .have hlen:((x.1,(0:Int),x.2.2)::xs).length=(x::xs).length:=rfl;rw[aVz hm];rw[hm]at hlen ⊢;rw[aIn (by omega)];simp only[bZ,aIu,aJl,zZ,cCm,aA,aO1]
theorem aF2{p:den tPt}(h:tot tPt p<=34359738368):eJ p=some (jG p):=by
 have hs:=aDq p;have sm:SmB 34359738368 tPt p:=bB h;have hl:=aJ8 p;unfold eJ ixb pj4;rw[fS (λk (a:dO)=>((k:Int),a)) ((0:Int),[]) [] p (λk x a=>rY (decide (0<k)) x a) cCv (λx=>x.2.2.2.length) 34359738368 id rfl (cCc sm.1 (by decide)) (by simp only[cDj];omega) (λk x a=>aMl _ x a) (λk x a hi hx hd hw hk hb=>by
  have hxl:x.2.2.2.length<=34359738368:=(sm.2 x (cCt hx)).2.2.2.1;simp only[hd,hi,hw,zZ,aA];rw[fS (λi (b:dO)=>((i:Int),b)) ((0:Int),a) a x.2.2.2 (λi h b=>aAd (decide (0<k)) x i h b) cCv (λ_=>1) 34359738368 id rfl (cCc hxl (by decide)) (by rw[dP];exact hb) (λi h b=>aPa _ x i h b) (λi g b hi2 hg hd2 hw2 hk2 hb2=>by
   have hl2:x.2.2.2.length<=68719476736:=by omega
   simp only[hd2,hi2,hw2,zZ,aA,aN,bG7 hg hl2,aWo hg hl2,aT,bI,aX,aY,aZ,bCr,aZ9];rcases pU b with rfl | ⟨m,z,rfl⟩
   .rw[aZn];cases decide (0<k)<;>cases decide (i=0)<;>rfl
   .rw[aUm,aIn (by omega)];have e1:decide (((m++[z]).length:Int)>0)=true:=by simp
    have e2:bY (0:Int) (m.length:Int) ((m++[z]).length:Int)=true:=by simp[bY];omega
    have e3:(m++[z]).take m.length=m:=by simp
    have e4:=aE (b:=24) (n:=m.length) (m:=1) (by decide) (by simp at hb2;omega);have e5:=aE (b:=24) (n:=m.length+1) (m:=1) (by decide) (by simp at hb2;omega);simp only[bZ,e1,e2,e3,aIu,aJl,zZ,cCm,aA];cases decide (0<k)<;>cases decide (i=0)<;>cases hz:z.1==g.1<;>simp[hz,e4,e5]) (λb=>by simp[hi])]
  rfl) (λa=>by simp)]
 simp only[aA,id];rw[show bT (λk x a=>rY (decide (0<k)) x a) 0 p []=aBx p from rfl];show _=some (aIl (aBx p));generalize aBx p=l at hl;cases l with
 | nil=>rfl
 | cons x xs=>
  have e1:decide ((((x::xs).length:Nat):Int)>0)=true:=by simp
  have e2:decide ((0:Int)<(((x::xs).length:Nat):Int))=true:=by simp
  have e3:(0:Int).toNat=0:=rfl;have e4:decide ((0:Int)<=0)=true:=rfl;have e5:decide (0<(x::xs).length)=true:=by simp
  simp only[e1,e2,e3,e4,e5,zZ,cFd,aA,List.set_cons_zero];rcases pU ((x.1,(0:Int),x.2.2)::xs) with h0 | ⟨m,z,hm⟩
  .cases h0
  .have hlen:((x.1,(0:Int),x.2.2)::xs).length=(x::xs).length:=rfl;rw[aVz hm];rw[hm]at hlen ⊢;rw[aIn (by omega)];have e6:decide (m.length<(m++[z]).length)=true:=by simp
   simp only[bZ,aIu,aJl,e6,zZ,cCm,aA,aO1]
def ends(p:den tPt):q30:=
 match (jG p).head?,(jG p).getLast? with
 | some x,some y=>(x.1,y.1)
 | _,_=>(-1,-1)
theorem bWf{p:den tPt}(h:tot tPt p<=34359738368):tI p=some (ends p):=by
 unfold tI ends ixb;have hl:=aE1 p;rw[aF2 h,aA];generalize jG p=l at hl;rcases pU l with rfl | ⟨m,z,rfl⟩
 .rfl
 .rw[aIn (by omega)];have e1:(((m++[z]).length:Int)==0)=false:=by simp<;>omega
  have e2:decide ((0:Int)<((m++[z]).length:Int))=true:=by simp<;>omega
  have e3:decide ((0:Int)<=0)=true:=rfl;rw[e1,e2,e3,bZ,aIu,cFe];cases m with
  | nil=>rfl
  | cons x m=>simp
def pkR(p:den tPk):q3:=(p.1,p.2.1,p.2.2.1,p.2.2.2.2.1,p.2.2.2.2.2.1,p.2.2.2.2.2.2.1,p.2.2.2.2.2.2.2.1,p.2.2.2.2.2.2.2.2.1,p.2.2.2.1,p.2.2.2.2.2.2.2.2.2)
def bZw(p:den tPt):Int:=match p with
 | []=>0
 | x::_=>x.2.2.1
def aG6(kind:Int)(p:den tPt)(res seq:Int)(pay:List Int):den tPk:=(kind,(ends p).1,(ends p).2,p,0,0,bZw p,res,seq,pay)
theorem aNk{kind res seq:Int}{p:den tPt}{pay:List Int}(h:tot tPt p<=34359738368)(hp:pay.length<=68719476736):cN kind p res seq pay=some (pkR (aG6 kind p res seq pay)):=by
 unfold cN zz4 zz5 zz6 zz7;rw[aFz ((bB h).mono (by decide)),bWf h,aE (b:=1) (n:=([]:List Int).length) (by decide) (by simpa using hp)];simp only[aA,zZ,cC4];cases p with
 | nil=>rfl
 | cons x p=>
  have e1:decide (((x::p).length:Int)>0)=true:=by simp
  rw[e1];rfl
def aT2(k:Int):Int:=if k=1 then 4 else if k=4 then 1 else if k=2 then 3 else if k=3 then 2 else k
theorem bXq(k:Int):nA k=some (aT2 k):=by
 unfold nA aT2
 by_cases h1:k=1
 .subst h1;rfl
 by_cases h2:k=4
 .subst h2;rfl
 by_cases h3:k=2
 .subst h3;rfl
 by_cases h4:k=3
 .subst h4;rfl
 have b1:(k==1)=false:=by simpa using h1
 have b2:(k==4)=false:=by simpa using h2
 have b3:(k==2)=false:=by simpa using h3
 have b4:(k==3)=false:=by simpa using h4
 rw[b1,b2,b3,b4,zS h1,zS h2,zS h3,zS h4];rfl
def mC(n:Int):Bool:=inR n 0 2147483646
theorem aNl(n:Int):fA n=some (mC n):=by unfold fA mC;rw[rE];rfl
theorem aD1(n:Int):lZ n=some (mC n):=by unfold lZ mC;rw[eZ];rfl
def aIa(b s:Int):Int:=if mC b&&mC s then cDp (wr (b+s)) 2147483647 else 0
def aMs(b s:Int):Int:=if mC b&&mC s then cDp (wr ((wr (b - s))+2147483647)) 2147483647 else 0
theorem bMc(b s:Int):wO b s=some (aIa b s):=by
 unfold wO aIa;simp only[aNl,aA];cases mC b<;>cases mC s<;>rfl
theorem aQv(b s:Int):sM b s=some (aIa b s):=by
 unfold sM aIa;simp only[aD1,aA];cases mC b<;>cases mC s<;>rfl
theorem bXo(b s:Int):aAs b s=some (aMs b s):=by
 unfold aAs aMs;simp only[aNl,aA];cases mC b<;>cases mC s<;>rfl
theorem bIx(b s:Int):xC b s=some (aMs b s):=by
 unfold xC aMs;simp only[aD1,aA];cases mC b<;>cases mC s<;>rfl
def aCn(k:Int)(b:Int)(h:den bP):Int:=if kJ k then aMs b h.2.2.2.2 else aIa b h.2.2.2.2
def yK(p:den tPp)(n:Nat):Int:=(p.2.2.2.take n).foldl (aCn p.1) p.2.2.1
theorem bC5{p:den tPp}{n:Nat}(hn:n<=p.2.2.2.length)(hl:p.2.2.2.length<=68719476736):mU p (n:Int)=some (yK p n):=by
 unfold mU yK zz4;have e1:inR (n:Int) 0 (p.2.2.2.length:Int)=true:=by rw[cE];omega
 have e2:bY (0:Int) (n:Int) (p.2.2.2.length:Int)=true:=by simp[bY];omega
 rw[rE,e1,aA,e2,hO];have hlen:(p.2.2.2.take n).length<=4611686018427387904:=by rw[cDf];omega
 rw[fS (λk (b:Int)=>(b,(k:Int))) (p.2.2.1,(0:Int)) p.2.2.1 (p.2.2.2.take n) (λ_ h b=>aCn p.1 b h) (λ_=>0) (λ_=>0) 0 id rfl hlen (by rw[sum_nil];exact cCx _) (λ_ _ _=>cCx _) (λk x b hi hx hd hw hk hb=>by
  simp only[hd,hi,hw,zZ,aA,aIz,bXo,bMc,aCn];cases kJ p.1<;>rfl) (λb=>by simp),uD (λb h=>aCn p.1 b h)]
 rfl
theorem aTq{p:den tPp}{n:Nat}(hn:n<=p.2.2.2.length)(hl:p.2.2.2.length<=68719476736):iE p (n:Int)=some (yK p n):=by
 unfold iE yK zz4;have e1:inR (n:Int) 0 (p.2.2.2.length:Int)=true:=by rw[cE];omega
 have e3:(p.2.2.2.take n).length=n:=by rw[cDf];omega
 rw[eZ,e1,aA];rw[fS (λk (b:Int)=>(b,(k:Int))) (p.2.2.1,(0:Int)) p.2.2.1 (p.2.2.2.take n) (λ_ h b=>aCn p.1 b h) (λ_=>0) (λ_=>0) 0 id rfl (by rw[e3];omega) (by rw[sum_nil];exact cCx _) (λ_ _ _=>cCx _) (λk x b hi hx hd hw hk hb=>by
  have hx':p.2.2.2[k]? =some x:=by rw[List.getElem?_take]at hx;split at hx;exact hx;cases hx
  rw[e3]at hd;simp only[hd,hw,zZ,aA,aF,hx',aF1,bIx,aQv,aCn];cases kJ p.1<;>rfl) (λb=>by rw[e3];simp),uD (λb h=>aCn p.1 b h)]
 rfl
def aDn(p:den tPp):den tPp:=(aT2 p.1,p.2.1,yK p p.2.2.2.length,p.2.2.2.reverse)
theorem bYm{l:bQ}(hl:l.length<=68719476736):nQ l=some l.reverse:=by
 unfold nQ pj5;have e:wr ((l.length:Int) - 1)=(l.length:Int) - 1:=uH hl;rw[e,bE1 (λk (a:bQ)=>(k,a)) ((l.length:Int) - 1,[]) [] l (λx a=>a++[x]) cCv (λ_=>1) 68719476736 id rfl (by omega) (by rw[dP];simpa using hl) (λx a=>by simp) (λk x a hi hx hd hw hk hb=>by
  simp only[hd,hi,hw,zZ,aA,aN,aE (b:=40) (n:=a.length) (m:=1) (by decide) hb]) (λa=>by simp),aHj (λx=>x)]
 simp
theorem bVb{p:den tPp}(hl:p.2.2.2.length<=68719476736):pR p=some (aDn p):=by
 unfold pR aDn pj4 pj5 zz4;simp only[bXq,aN,aTq (cCx _) hl,aT,bI,aX,aY,aZ,aA];have e:wr ((p.2.2.2.length:Int) - 1)=(p.2.2.2.length:Int) - 1:=uH hl;rw[e,bE1 (λk (a:bQ)=>(k,aT2 p.1,p.2.1,yK p p.2.2.2.length,a)) ((p.2.2.2.length:Int) - 1,aT2 p.1,p.2.1,yK p p.2.2.2.length,[]) [] p.2.2.2 (λx a=>a++[x]) cCv (λ_=>1) 68719476736 (λa=>(aT2 p.1,p.2.1,yK p p.2.2.2.length,a)) rfl (by omega) (by rw[dP];simpa using hl) (λx a=>by simp) (λk x a hi hx hd hw hk hb=>by
  simp only[hd,hi,hw,zZ,aA,aN,aE (b:=40) (n:=a.length) (m:=1) (by decide) hb]) (λa=>by simp),aHj (λx=>x)]
 simp
def aE7(p:den tPt):den tPt:=p.reverse.map aDn
theorem bMj{p:den tPt}(h:SmB 68719476736 tPt p):lJ p=some (aE7 p):=by
 unfold lJ aE7 pj4;have e:wr ((p.length:Int) - 1)=(p.length:Int) - 1:=uH h.1;rw[e,bE1 (λk (a:lPp)=>(k,a)) ((p.length:Int) - 1,[]) [] p (λx a=>a++[aDn x]) cCv (λ_=>1) 68719476736 id rfl (by have :=h.1;omega) (by rw[dP];simpa using h.1) (λx a=>by simp) (λk x a hi hx hd hw hk hb=>by
  have hxl:=(h.2 x (cCt hx)).2.2.2.1;simp only[hd,hi,hw,zZ,aA,aN,bVb hxl,aE (b:=48) (n:=a.length) (m:=1) (by decide) hb]) (λa=>by simp),aHj aDn]
 simp
theorem bKu(p:den tPp):tot tPp (aDn p)=tot tPp p:=by
 show tot ti _+(tot ti _+(tot ti _+tot (.sl bP) p.2.2.2.reverse))=tot ti _+(tot ti _+(tot ti _+tot (.sl bP) p.2.2.2));rw[aS2];rfl
theorem aR3{t:Ty}(g:den t->den t)(hg:∀x,tot t (g x)=tot t x):∀l:List (den t),tot (.sl t) (l.map g)=tot (.sl t) l
 | []=>rfl
 | x::l=>by rw[cC1,hH,hH,hg,aR3 g hg l]
theorem aKa(p:den tPt):tot tPt (aE7 p)=tot tPt p:=by
 show tot (.sl tPp) (p.reverse.map aDn)=tot (.sl tPp) p;rw[aR3 aDn bKu,aS2]
def aWx(pk:den tPk)(kind seq:Int)(pay:List Int):den tPk:=aG6 kind (aE7 pk.2.2.2.1) pk.2.2.2.2.2.2.2.1 seq pay
theorem bTv{pk:den tPk}{kind seq:Int}{pay:List Int}(h:tot tPt pk.2.2.2.1<=34359738368)(hp:pay.length<=68719476736):aC3 pk kind seq pay=some (pkR (aWx pk kind seq pay)):=by
 unfold aC3 aWx bM zz7;rw[bMj ((bB h).mono (by decide)),aA,aNk (by rw[aKa];exact h) hp];rfl
def pk0:den tPk:=(0,0,0,[],0,0,0,0,0,[])
def pkB(p:den tPk)(b:Bool):q20:=(p.1,p.2.1,p.2.2.1,p.2.2.2.2.1,p.2.2.2.2.2.1,p.2.2.2.2.2.2.1,p.2.2.2.2.2.2.2.1,p.2.2.2.2.2.2.2.2.1,b,p.2.2.2.1,p.2.2.2.2.2.2.2.2.2)
def aH3(x:den tIb)(p:den tPk):Bool:=aFg x p&& !decide (p.2.2.2.2.2.2.2.2.1>=x.2.2.1)
def uW(x:den tIb)(p:den tPk):den tPk:=if aH3 x p then aWx p 2 p.2.2.2.2.2.2.2.2.1 [] else pk0
theorem bVn{x:den tIb}{p:den tPk}(h:tot tPt p.2.2.2.1<=34359738368):vL x p=some (pkB (uW x p) (aH3 x p)):=by
 unfold vL uW aH3 bM pj2 pj4 zz4 zz5 zz6 zz7 zz8;simp only[aN,bBc,aA,bTv (pay:=[]) h (by simp)];cases aFg x p<;>cases decide (p.2.2.2.2.2.2.2.2.1>=x.2.2.1)<;>rfl
def aDl(f:den tFl):Bool:=inR f.2.2.2.2.2.2.1 0 ((f.2.2.2.2.2.1.length:Int) - 1)&&inR f.2.2.2.1 0 ((f.2.2.2.2.1.length:Int) - 1)
def aBm(f:den tFl):den tPk:=
 if aDl f then aG6 1 ((f.2.2.2.2.2.1[f.2.2.2.2.2.2.1.toNat]?).getD []) f.2.2.1 f.2.2.2.1 ((f.2.2.2.2.1[f.2.2.2.1.toNat]?).getD []) else pk0
theorem aX1{t:Ty}{l:List (den t)}{d:den t}{i:Nat}(hd:tot t d=0):tot t ((l[i]?).getD d)<=tot (.sl t) l:=by
 cases h:l[i]? with
 | none=>simp[hd]
 | some x=>have :=zP h;simp;omega
theorem bCv{f:den tFl}(h:tot tFl f<=34359738368):eN f=some (pkB (aBm f) (aDl f)):=by
 have h0:=cG (cG (cG (cG h)));have hm:=aPx h0;have hp:=aPx (cG h0);have l1:=eF f.2.2.2.2.1;have l2:=eF f.2.2.2.2.2.1;unfold eN aBm aDl pj2 zz4 zz5 zz6 zz7 zz8;simp only[eZ,uH (n:=f.2.2.2.2.2.1.length) (by omega),uH (n:=f.2.2.2.2.1.length) (by omega),aA];cases c1:inR f.2.2.2.2.2.2.1 0 ((f.2.2.2.2.2.1.length:Int) - 1) with
 | false=>cases inR f.2.2.2.1 0 ((f.2.2.2.2.1.length:Int) - 1)<;>rfl
 | true=>
  cases c2:inR f.2.2.2.1 0 ((f.2.2.2.2.1.length:Int) - 1) with
  | false=>rfl
  | true=>
   rw[cE]at c1 c2;rw[bLa c1.1 (by omega),bLa c2.1 (by omega)];have e1:f.2.2.2.2.2.1[f.2.2.2.2.2.2.1.toNat]? =some (f.2.2.2.2.2.1[f.2.2.2.2.2.2.1.toNat]'(by omega)):=cCe (by omega);have e2:f.2.2.2.2.1[f.2.2.2.1.toNat]? =some (f.2.2.2.2.1[f.2.2.2.1.toNat]'(by omega)):=cCe (by omega);have t1:=zP e1;have t2:=zP e2;have t3:=eF (t:=tb) (f.2.2.2.2.1[f.2.2.2.1.toNat]'(by omega));simp only[aA,cCd,zY];rw[aNk (by omega) (by have t2:1+tot (.sl tb) _<=_:=t2;omega),e1,e2];rfl
def aDp(f:den tFl):Int:=if wr (f.2.2.2.2.2.2.1+1)>=(f.2.2.2.2.2.1.length:Int) then 0 else wr (f.2.2.2.2.2.2.1+1)
def sB(f:den tFl)(c w:Int):den tFl:=(f.1,f.2.1,f.2.2.1,f.2.2.2.1,f.2.2.2.2.1,f.2.2.2.2.2.1,c,w,f.2.2.2.2.2.2.2.2)
theorem aHi(f:den tFl)(c w:Int):tot tFl (sB f c w)=tot tFl f:=rfl
def aR(f:den tFl):den tFl×den tPk×Bool:=
 if aDl f then
  if f.2.2.2.2.2.2.2.1==0 then (sB f f.2.2.2.2.2.2.1 1,aBm f,true)
  else if f.2.2.2.2.2.2.2.1==4 then (sB f (aDp f) 1,aBm (sB f (aDp f) 1),aDl (sB f (aDp f) 1))
  else (sB f f.2.2.2.2.2.2.1 (wr (f.2.2.2.2.2.2.2.1+1)),pk0,false)
 else (sB f f.2.2.2.2.2.2.1 0,pk0,false)
def qH(f:den tFl)(p:den tPk)(b:Bool):q23:=
 (f.1,f.2.1,f.2.2.1,f.2.2.2.1,f.2.2.2.2.2.2.1,f.2.2.2.2.2.2.2.1,p.1,p.2.1,p.2.2.1,p.2.2.2.2.1,p.2.2.2.2.2.1,p.2.2.2.2.2.2.1,p.2.2.2.2.2.2.2.1,p.2.2.2.2.2.2.2.2.1,b,f.2.2.2.2.1,f.2.2.2.2.2.1,f.2.2.2.2.2.2.2.2,p.2.2.2.1,p.2.2.2.2.2.2.2.2.2)
theorem bQy{c:Int}{n:Nat}(h0:0<=c)(h1:c<=(n:Int) - 1)(hn:n<=68719476736):inR c 0 (wr ((n:Int) - 2))= !decide (wr (c+1)>=(n:Int)):=by
 have e1:wr ((n:Int) - 2)=(n:Int) - 2:=wri (by omega) (by omega);have e2:wr (c+1)=c+1:=wri (by omega) (by omega);rw[e1,e2,cC7,cE];simp;omega
theorem bI6{f:den tFl}(h:SmB 68719476736 tFl f)(hs:inR f.2.2.2.2.2.2.1 0 ((f.2.2.2.2.2.1.length:Int) - 1)=true):tU f=some (sS (sB f (aDp f) f.2.2.2.2.2.2.2.1)):=by
 unfold tU aDp pj3 pj9 zz4 zz5 zz6;have hl:=h.2.2.2.2.2.1.1;rw[cE]at hs;simp only[aN,aD0 h,eZ,bQy hs.1 hs.2 hl,aA,sS]
 by_cases hc:wr (f.2.2.2.2.2.2.1+1)>=(f.2.2.2.2.2.1.length:Int)
 .rw[zX hc,zT hc];rfl
 .rw[zW hc,zS hc];rfl
theorem bV9{f:den tFl}(h:tot tFl f<=34359738368):wG f=some (qH (aR f).1 (aR f).2.1 (aR f).2.2):=by
 unfold wG aR pj2 pj9 aU bG bC cU kH zz4 zz5 zz6 zz7 zz8 zz9;have sm:SmB 68719476736 tFl f:=(bB h).mono (by decide);have e:eN (f.1,f.2.1,f.2.2.1,f.2.2.2.1,f.2.2.2.2.1,f.2.2.2.2.2.1,aDp f,1,f.2.2.2.2.2.2.2.2)=some (pkB (aBm (sB f (aDp f) 1)) (aDl (sB f (aDp f) 1))):=bCv (f:=sB f (aDp f) 1) h;simp only[aN,aD0 sm,bCv h,aA,aT,bI,aX,aY,aZ];cases c1:aDl f with
 | false=>simp only[pkB,sS,cCh,zZ];rfl
 | true=>
  have hs:inR f.2.2.2.2.2.2.1 0 ((f.2.2.2.2.2.1.length:Int) - 1)=true:=by
   unfold aDl at c1;simp only[cCf]at c1;exact c1.1
  rw[bI6 sm hs];simp only[pkB,sS,sB,aA,cCd,zY,zV,e];cases c2:f.2.2.2.2.2.2.2.1==0 with
  | true=>rfl
  | false=>
   cases c3:f.2.2.2.2.2.2.2.1==4 with
   | true=>rfl
   | false=>rfl
def dQ(p:den tPk):Bool:=inR p.2.2.2.2.1 0 ((p.2.2.2.1.length:Int) - 1)&&inR p.2.2.2.2.2.1 0 (((((p.2.2.2.1[p.2.2.2.2.1.toNat]?).getD (0,0,0,[])).2.2.2.length:Nat):Int) - 1)
def eD(p:den tPk):Int:=if dQ p then ((((p.2.2.2.1[p.2.2.2.2.1.toNat]?).getD (0,0,0,[])).2.2.2[p.2.2.2.2.2.1.toNat]?).getD (0,0,0,0,0)).1 else -1
theorem aRq{p:den tPk}(h:dQ p=true):∃(i j:Nat) (x:den tPp) (y:den bP),p.2.2.2.2.1=(i:Int)/\p.2.2.2.2.2.1=(j:Int)/\p.2.2.2.1[i]? =some x/\x.2.2.2[j]? =some y/\eD p=y.1:=by
 have h':=h;unfold dQ at h';simp only[cCf,cE]at h';obtain⟨⟨h1,h2⟩,h3,h4⟩:=h';obtain⟨x,hx⟩:=aCj h1 h2;rw[hx,cDc]at h4;obtain⟨y,hy⟩:=aCj h3 h4;refine⟨p.2.2.2.2.1.toNat,p.2.2.2.2.2.1.toNat,x,y,(cEw h1).symm,(cEw h3).symm,hx,hy,?_⟩;unfold eD;rw[h,zT rfl,hx,cDc,hy,cDc]
theorem aGz{p:den tPk}(c:dQ p=false):eD p= -1:=by unfold eD;rw[c];rfl
theorem aF3{p:den tPk}(h:SmB 68719476736 tPk p):dY p=some (eD p):=by
 unfold dY zz4 zz5;have l1:=h.2.2.2.1.1;rw[eZ,uH l1,aA];cases c1:inR p.2.2.2.2.1 0 ((p.2.2.2.1.length:Int) - 1) with
 | false=>rw[aGz (by unfold dQ;rw[c1];rfl)];rfl
 | true=>
  have c1':=c1;rw[cE]at c1';obtain⟨x,hx⟩:=aCj c1'.1 c1'.2;rw[aL0 c1'.1 hx];have l2:=(h.2.2.2.1.2 _ (cCt hx)).2.2.2.1;simp only[cCd,zY,aA,eZ,uH l2];cases c2:inR p.2.2.2.2.2.1 0 ((x.2.2.2.length:Int) - 1) with
  | false=>rw[aGz (by unfold dQ;rw[c1,hx,cDc,c2];rfl)];rfl
  | true=>
   have c:dQ p=true:=by unfold dQ;rw[c1,hx,cDc,c2];rfl
   rw[cE]at c2;obtain⟨y,hy⟩:=aCj c2.1 c2.2;rw[aL0 c2.1 hy];unfold eD;rw[c,zT rfl,hx,cDc,hy,cDc];rfl
def aNf(p:den tPt)(i j:Nat):den tPt:=
 match p[i]? with
 | some x=>p.take i++[(x.1,x.2.1,x.2.2.1,x.2.2.2.take (j+1))]
 | none=>[]
def aBz(p:den tPk):den tPt:=if eD p<0 then [] else aNf p.2.2.2.1 p.2.2.2.2.1.toNat p.2.2.2.2.2.1.toNat
theorem aX8{p:den tPk}(h:SmB 68719476736 tPk p):gV p=some (aBz p):=by
 unfold gV aBz bM pj4 zz4 zz5;simp only[aN,aF3 h,aA]
 by_cases hc:eD p<0
 .rw[zX hc,zZ,zT hc]
 .rw[zW hc,zY,zS hc];cases c:dQ p with
  | false=>rw[aGz c]at hc;exact absurd (by decide) hc
  | true=>
   obtain⟨i,j,x,y,h1,h2,h3,h4,h5⟩:=aRq c;have l1:=h.2.2.2.1.1;have hi:=(cCq.1 h3).1;have hj:=(cCq.1 h4).1;have l2:=(h.2.2.2.1.2 _ (cCt h3)).2.2.2.1;have e2:wr ((j:Int)+1)=((j+1:Nat):Int):=by have :wr ((j:Int)+1)=(j:Int)+1:=wri (by omega) (by omega);rw[this];rfl
   have e4:bY (0:Int) ((j+1:Nat):Int) (x.2.2.2.length:Int)=true:=by simp[bY];omega
   have e5:p.2.2.2.1.take (i+1)=p.2.2.2.1.take i++[x]:=aVd h3;have e6:(p.2.2.2.1.take (i+1)).length=i+1:=by rw[cDf];omega
   rw[h1,h2,e2]
   let cutX:Nat->den tPp->den tPp:=λk z=>if k=i then (z.1,z.2.1,z.2.2.1,z.2.2.2.take (j+1)) else z
   rw[fS (λk (a:lPp)=>((k:Int),a)) ((0:Int),[]) [] (p.2.2.2.1.take (i+1)) (λk z a=>a++[cutX k z]) cCv (λ_=>1) 68719476736 id rfl (by omega) (by rw[dP];simp;omega) (λk z a=>by simp) (λk z a hz hx hd hw hk hb=>by
    rw[e6]at hd hk;have hz':=(aKd hx).1;have hd':decide ((k:Int)<=(i:Int))=true:=by simp;omega
    have sz:=h.2.2.2.1.2 _ (cCt hz');simp only[hd',hw,zZ,aA,aF,hz',aN,aPs sz]
    by_cases hki:k=i
    .subst hki;rw[h3]at hz';injection hz' with hz';subst hz';have e7:((k:Int)==(k:Int))=true:=by simp
     simp only[e7,zZ,e4,aA,hO,aE (b:=48) (n:=a.length) (m:=1) (by decide) hb,cutX,zV]
    .have e7:((k:Int)==(i:Int))=false:=by simp;omega
     simp only[e7,zY,aA,aE (b:=48) (n:=a.length) (m:=1) (by decide) hb,zZ,cutX,zS hki]) (λa=>by
    have e10:decide (((i+1:Nat):Int)<=(i:Int))=false:=by simp<;>omega
    rw[e6];simp only[e10,zY];rfl)]
   have key:∀(l:lPp) (k:Nat) (a:lPp),k+l.length<=i->bT (λk z a=>a++[cutX k z]) k l a=a++l:=by
    intro l
    induction l with
    | nil=>intro k a _;simp[bT]
    | cons z l ih=>
     intro k a hk;simp only[cDe]at hk;simp only[bT];rw[ih (k+1) _ (by omega)];have :cutX k z=z:=zS (by omega);rw[this];simp
   have fa:∀(l:lPp) (z:den tPp) (k:Nat) (a:lPp),bT (λk z a=>a++[cutX k z]) k (l++[z]) a=bT (λk z a=>a++[cutX k z]) k l a++[cutX (k+l.length) z]:=by
    intro l
    induction l with
    | nil=>intro z k a;rfl
    | cons y l ih=>
     intro z k a;simp only[List.cons_append,bT,cDe];rw[ih];congr 3;omega
   have e8:(p.2.2.2.1.take i).length=i:=by rw[cDf];omega
   rw[e5,fa,key _ 0 [] (by omega),e8];have :cutX (0+i) x=(x.1,x.2.1,x.2.2.1,x.2.2.2.take (j+1)):=zT (by omega);rw[this];unfold aNf;rw[cCm,cCm,h3];rfl
theorem bAt(p:den tPt)(i j:Nat):tot tPt (aNf p i j)<=tot tPt p:=by
 unfold aNf;cases h:p[i]? with
 | none=>exact cCz _
 | some x=>
  have h1:tot tPt (p.take (i+1))<=tot tPt p:=aO7 (t:=tPp) p (i+1);rw[aVd h]at h1;have h2:tot (.sl tPp) (p.take i++[x])<=tot (.sl tPp) p:=h1;show tot (.sl tPp) (p.take i++[(x.1,x.2.1,x.2.2.1,x.2.2.2.take (j+1))])<=tot (.sl tPp) p;rw[pM,aC5]at h2 ⊢;have h3:tot tPp (x.1,x.2.1,x.2.2.1,x.2.2.2.take (j+1))<=tot tPp x:=by
   have :=aO7 (t:=bP) x.2.2.2 (j+1);show 0+(0+(0+tot (.sl bP) (x.2.2.2.take (j+1))))<=0+(0+(0+tot (.sl bP) x.2.2.2));omega
  omega
theorem aJ1(p:den tPk):tot tPt (aBz p)<=tot tPt p.2.2.2.1:=by
 unfold aBz;split
 .exact cCz _
 .exact bAt _ _ _
def vi:Nat->Nat->List Int
 | 0,n=>[(n:Int)]
 | k+1,n=>if n<128 then [(n:Int)] else (((n % 128+128:Nat):Int))::vi k (n / 128)
theorem bK1:∀(k n:Nat),(vi k n).length<=k+1
 | 0,n=>by simp[vi]
 | k+1,n=>by
  unfold vi;split
  .simp
  .have :=bK1 k (n / 128);simp only[cDe];omega
theorem aNy{n:Nat}(h:n<256):IntKind.wrap .u8 (n:Int)=(n:Int):=by
 simp only[IntKind.wrap,IntKind.signed,IntKind.bits];simp;omega
theorem aZs{n:Nat}(h:n<9223372036854775808):aAb .i64 (n:Int) 127=((n % 128:Nat):Int):=by
 have e:(BitVec.ofInt 64 (n:Int) &&& BitVec.ofInt 64 127).toNat=n % 128:=by
  rw[BitVec.toNat_and];have e1:(BitVec.ofInt 64 (n:Int)).toNat=n:=by simp;omega
  have e2:(BitVec.ofInt 64 127).toNat=2 ^ 7 - 1:=by decide
  rw[e1,e2,Nat.and_two_pow_sub_one_eq_mod]
 unfold aAb;show IntKind.i64.wrap (((BitVec.ofInt 64 (n:Int) &&& BitVec.ofInt 64 127).toNat:Nat):Int)=_;rw[e];exact wri (by omega) (by omega)
theorem bVg{n:Nat}(h:n<128):bOr .i64 (n:Int) 128=((n+128:Nat):Int):=by
 have e:(BitVec.ofInt 64 (n:Int) ||| BitVec.ofInt 64 128).toNat=n+128:=by
  rw[BitVec.toNat_or];have e1:(BitVec.ofInt 64 (n:Int)).toNat=n:=by simp;omega
  have e2:(BitVec.ofInt 64 128).toNat=128:=by decide
  rw[e1,e2,Nat.or_comm];have :=Nat.two_pow_add_eq_or_of_lt (i:=7) (b:=n) h 1;simp only[Nat.mul_one]at this;rw[<- this];omega
 unfold bOr;show IntKind.i64.wrap (((BitVec.ofInt 64 (n:Int) ||| BitVec.ofInt 64 128).toNat:Nat):Int)=_;rw[e];exact wri (by omega) (by omega)
theorem bZ0(n:Nat):shr .i64 (n:Int) 7=((n / 128:Nat):Int):=by
 unfold shr;show Int.fdiv (n:Int) (2 ^ 7)=_;rw[Int.fdiv_eq_ediv_of_nonneg _ (by decide)];rfl
theorem bWm:∀(k n:Nat) (out:List Int),n<128 ^ (k+1)->out.length+k+1<=68719476736->n<9223372036854775808->(@Option.bind q38 (lI) (@aC q38 q38 (λ(s3:Int×lI)=>cond (decide (s3.1>(127:Int))) (cond (aG 1 s3.2.length 1) (some (cCb (shr .i64 s3.1 (7:Int),s3.2++[IntKind.wrap .u8 (bOr .i64 (aAb .i64 s3.1 (127:Int)) (128:Int))]))) none) (some (cCa (s3.1,s3.2)))) ((n:Int),out)) λ(s4:Int×lI)=>cond (aG 1 s4.2.length 1) (some (s4.2++[IntKind.wrap .u8 s4.1])) none)=some (out++vi k n)
 | 0,n,out,hn,ho,hb=>by
  have hn:n<128:=by simpa using hn
  have e1:decide ((n:Int)>127)=false:=by simp;omega
  rw[bH (r:=((n:Int),out)) (by simp only[e1,zY]),aA];simp only[aE (b:=1) (n:=out.length) (m:=1) (by decide) (by omega),zZ,aNy (n:=n) (by omega),vi]
 | k+1,n,out,hn,ho,hb=>by
  by_cases h:n<128
  .have e1:decide ((n:Int)>127)=false:=by simp;omega
   rw[bH (r:=((n:Int),out)) (by simp only[e1,zY]),aA];simp only[aE (b:=1) (n:=out.length) (m:=1) (by decide) (by omega),zZ,aNy (n:=n) (by omega),vi,zT h]
  .have e1:decide ((n:Int)>127)=true:=by simp;omega
   have hd:n / 128<128 ^ (k+1):=by rw[Nat.div_lt_iff_lt_mul (by decide)];rw[Nat.pow_succ]at hn;exact hn
   rw[dA (s':=(((n / 128:Nat):Int),out++[((n % 128+128:Nat):Int)])) (by
    simp only[e1,zZ,aE (b:=1) (n:=out.length) (m:=1) (by decide) (by omega),bZ0,aZs hb,bVg (n:=n % 128) (by omega),aNy (n:=n % 128+128) (by omega)])]
   rw[bWm k (n / 128) _ hd (by simp;omega) (by omega)];simp only[vi,zS h,List.append_assoc,List.singleton_append]
def aGm(b:List Int)(n:Int):List Int:=if inR n 0 1000000000000 then b++vi 5 n.toNat else b
theorem aZt(b:List Int)(n:Int):(aGm b n).length<=b.length+6:=by
 unfold aGm;split
 .have :=bK1 5 n.toNat;rw[cC3];omega
 .omega
theorem bXj{b:List Int}{n:Int}(h:b.length+6<=68719476736):nO b n=some (aGm b n):=by
 unfold nO aGm pj2;rw[aE (b:=1) (n:=([]:List Int).length) (by decide) (by simp;omega),eZ];cases c:inR n 0 1000000000000 with
 | false=>rfl
 | true=>
  rw[cE]at c;obtain⟨m,rfl⟩:=Int.eq_ofNat_of_zero_le c.1;have :=bWm 5 m b (by simp only[show (128:Nat) ^ (5+1)=4398046511104 from by decide];omega) (by omega) (by omega);exact this
def aSh(b l:List Int):List Int:=l.foldl aGm b
theorem bPl(b l:List Int):(aSh b l).length<=b.length+6 * l.length:=by
 unfold aSh
 induction l generalizing b with
 | nil=>simp
 | cons x l ih=>
  have h1:=ih (aGm b x);have h2:=aZt b x;simp only[cEa,cDe];omega
theorem bT9{α:Type}(l:List α):(l.map λ_=>6).sum=6 * l.length:=by
 induction l with
 | nil=>rfl
 | cons x l ih=>rw[cC1,cDw,ih,cDe];omega
theorem bKd{l:List Int}(h:6 * l.length<=68719476736):rL l=some (aSh [] l):=by
 unfold rL aSh;rw[fS (λk (a:List Int)=>((k:Int),a)) ((0:Int),[]) [] l (λ_ x a=>aGm a x) cCv (λ_=>6) 68719476736 id rfl (by omega) (by rw[bT9];simpa using h) (λ_ x a=>aZt a x) (λk x a hi hx hd hw hk hb=>by
  simp only[hd,hi,hw,zZ,aA,bXj (b:=a) (n:=x) hb]) (λa=>by simp),uD aGm]
 rfl
def aKt(x:den tRv):List Int:=if eW x then aSh [] [x.1,x.2.1,x.2.2] else []
theorem aX0(x:den tRv):(aKt x).length<=18:=by
 unfold aKt;split
 .exact bPl [] [x.1,x.2.1,x.2.2]
 .simp
theorem bYs(x:den tRv):iQ x=some (aKt x):=by
 unfold iQ aKt pj3;rw[bKd (l:=[x.1,x.2.1,x.2.2]) (by simp)];simp only[aN,aD5,aA];cases eW x<;>rfl
def gF(r now d:Int)(p:den tPk):den tPk:=aG6 3 (aE7 (aBz p)) p.2.2.2.2.2.2.2.1 p.2.2.2.2.2.2.2.2.1 (aKt (r,d,if 1000000<wr (now+10) then 1000000 else wr (now+10)))
theorem bUt{t:den tTo}{r now d:Int}{p:den tPk}(h:tot tPk p<=34359738368):gA t r now d p=some (pkR (gF r now d p)):=by
 have h1:tot tPt p.2.2.2.1<=34359738368:=aPx (cG (cG (cG h)));have h2:=aJ1 p;have sm:SmB 68719476736 tPk p:=(bB h).mono (by decide);have h3:=aX0 (r,d,if 1000000<wr (now+10) then 1000000 else wr (now+10));unfold gA gF bM zz7 zz8;simp only[aN,aWh,aA,aX8 sm];rw[bMj ((bB (cCc h2 h1)).mono (by decide)),aA,bYs,aA,aNk (by rw[aKa];omega) (by omega)];rfl
theorem aLb{kind res seq:Int}{p:den tPt}{pay:List Int}:tot tPk (aG6 kind p res seq pay)=tot tPt p+tot (.sl tb) pay:=by
 show 0+(0+(0+(tot tPt p+(0+(0+(0+(0+(0+tot (.sl tb) pay))))))))=_;omega
theorem aUs(f:den tFl):tot tPk (aBm f)<=tot tFl f:=by
 unfold aBm;split
 .rw[aLb];have h1:=aX1 (t:=tPt) (l:=f.2.2.2.2.2.1) (d:=[]) (i:=f.2.2.2.2.2.2.1.toNat) rfl;have h2:=aX1 (t:= .sl tb) (l:=f.2.2.2.2.1) (d:=[]) (i:=f.2.2.2.1.toNat) rfl;show _<=0+(0+(0+(0+(tot (.sl (.sl tb)) f.2.2.2.2.1+(tot (.sl tPt) f.2.2.2.2.2.1+(0+(0+tot (.sl tRv) f.2.2.2.2.2.2.2.2)))))));omega
 .exact cCz _
theorem aNh{p:den tPk}{N:Nat}(h:tot tPk p<=N):tot (.sl tPp) p.2.2.2.1<=N/\tot (.sl tb) p.2.2.2.2.2.2.2.2.2<=N:=
 ⟨aPx (cG (cG (cG h))),cG (cG (cG (cG (cG (cG (cG (cG (cG h))))))))⟩
theorem aUg(x:den tIb)(p:den tPk):tot tPk (uW x p)<=tot tPk p:=by
 unfold uW;split
 .unfold aWx;rw[aLb,aKa];have h:=(aNh (cCx (tot tPk p))).1;show tot (.sl tPp) p.2.2.2.1+0<=_;omega
 .exact cCz _
theorem aVk(f:den tFl):tot tFl (aR f).1=tot tFl f/\tot tPk (aR f).2.1<=tot tFl f:=by
 unfold aR;split
 .split
  .exact⟨aHi f _ _,aUs f⟩
  .split
   .exact⟨aHi f _ _,aUs (sB f (aDp f) 1)⟩
   .exact⟨aHi f _ _,cCz _⟩
 .exact⟨aHi f _ _,cCz _⟩
theorem aVu(r now d:Int)(p:den tPk):tot tPk (gF r now d p)<=tot tPk p+18:=by
 unfold gF;rw[aLb,aKa];have h1:=aJ1 p;have h2:=(aNh (cCx (tot tPk p))).1;have h2:tot tPt p.2.2.2.1<=tot tPk p:=h2;have h3:=aX0 (r,d,if 1000000<wr (now+10) then 1000000 else wr (now+10));have e:tot (.sl tb) (aKt (r,d,if 1000000<wr (now+10) then 1000000 else wr (now+10)))=(aKt (r,d,if 1000000<wr (now+10) then 1000000 else wr (now+10))).length:=cZ rfl;rw[e];omega
def fX{α β:Type}(p:α->β->Bool):List α->List β->Bool
 | x::xs,y::ys=>p x y&&fX p xs ys
 | _,_=>true
theorem mA{α β R:Type}{a:List α}{b:List β}(p:α->β->Bool){step:Int->Option (Int⊕(Unit⊕R))}(ρ:R)(hlen:a.length=b.length)(hl:a.length<=4611686018427387904)
  (h:∀(k:Nat) (x:α) (y:β),x∈a->y∈b->idx a (k:Int)=some x->idx b (k:Int)=some y->decide ((k:Int)<(a.length:Int))=true->IntKind.i64.wrap ((k:Int)+1)=((k+1:Nat):Int)->step (k:Int)=some (cond (p x y) (.inl ((k+1:Nat):Int)) (.inr (.inr ρ))))
  (he:step (a.length:Int)=some (.inr (.inl ()))):aC step (0:Int)=some (cond (fX p a b) (.inl ()) (.inr ρ)):=by
 have key:∀(ra pa:List α) (rb pb:List β),pa++ra=a->pb++rb=b->pa.length=pb.length->aC step (pa.length:Int)=some (cond (fX p ra rb) (.inl ()) (.inr ρ)):=by
  intro ra
  induction ra with
  | nil=>intro pa rb pb h1 _ _;rw[cDl]at h1;subst h1;exact bH he
  | cons x ra ih=>
   intro pa rb pb h1 h2 h3;cases rb with
   | nil=>exfalso;have e1:=congrArg cCv h1;have e2:=congrArg cCv h2;simp at e1 e2;omega
   | cons y rb=>
    have hx:a[pa.length]? =some x:=by rw[<- h1];simp
    have hy:b[pa.length]? =some y:=by rw[<- h2,h3];simp
    have hlt:pa.length<a.length:=by rw[<- h1];simp
    have hs:=h pa.length x y (cCt hx) (cCt hy) (by rw[aF];exact hx) (by rw[aF];exact hy) (by simpa using hlt) (by rw[wri (by omega) (by omega)];omega);simp only[fX];cases hp:p x y with
    | true=>rw[hp]at hs;rw[dA hs];have :=ih (pa++[x]) rb (pb++[y]) (by simpa using h1) (by simpa using h2) (by simp[h3]);simpa using this
    | false=>rw[hp]at hs;exact bH hs
 exact key a [] b [] rfl rfl rfl
theorem aJ{α:Type}(b:Bool)(x y:α):cond b (some x) (some y)=some (cond b x y):=by cases b<;>rfl
theorem xR{β:Type}(c:Bool)(f:Unit->Option β)(r:β):Sum.elim f some (cond c (cCb ()) (cCa r))=cond c (f ()) (some r):=by cases c<;>rfl
theorem xJ{α β:Type}(a:List α)(b:List β):((a.length:Int) != (b.length:Int))= !decide (a.length=b.length):=by
 rw[cC7];simp;omega
theorem aBn{α:Type}{p:Prop}[Decidable p]{x y z:α}(h:p->y=z):cond (!decide p) x y=cond (!decide p) x z:=by
 by_cases hp:p
 .rw[h hp]
 .simp[hp]
noncomputable def aFx(a b:bQ):Bool:=cond (!decide (a.length=b.length)) false (cond (fX (λx y=>(x.1==y.1)&&((x.2.1==y.2.1)&&((x.2.2.1==y.2.2.1)&&((x.2.2.2.1==y.2.2.2.1)&&((x.2.2.2.2==y.2.2.2.2)&&true))))) a b) true false)
theorem bB4{a b:bQ}(ha:a.length<=68719476736):iA a b=some (aFx a b):=by
 unfold iA aFx zz4;rw[xJ];rw[aBn (z:=some (cond (fX (λx y=>(x.1==y.1)&&((x.2.1==y.2.1)&&((x.2.2.1==y.2.2.1)&&((x.2.2.2.1==y.2.2.2.1)&&((x.2.2.2.2==y.2.2.2.2)&&true))))) a b) true false)) (λhlen=>by
  rw[mA (a:=a) (b:=b) (λx y=>(x.1==y.1)&&((x.2.1==y.2.1)&&((x.2.2.1==y.2.2.1)&&((x.2.2.2.1==y.2.2.2.1)&&((x.2.2.2.2==y.2.2.2.2)&&true))))) false hlen (cCc ha (by decide)) (λk x y mx my ix iy hd hw=>by
   simp only[hd,ix,iy,hw,zZ,aA,aN,bne];generalize ((x.1==y.1)&&((x.2.1==y.2.1)&&((x.2.2.1==y.2.2.1)&&((x.2.2.2.1==y.2.2.2.1)&&((x.2.2.2.2==y.2.2.2.2)&&true)))))=c;cases c<;>rfl) (by simp)]
  simp only[aA,xR,aJ]),aJ]
theorem bVo{a b:bQ}(ha:a.length<=68719476736):jE a b=some (aFx a b):=by
 unfold jE aFx zz4;rw[xJ];rw[aBn (z:=some (cond (fX (λx y=>(x.1==y.1)&&((x.2.1==y.2.1)&&((x.2.2.1==y.2.2.1)&&((x.2.2.2.1==y.2.2.2.1)&&((x.2.2.2.2==y.2.2.2.2)&&true))))) a b) true false)) (λhlen=>by
  rw[mA (a:=a) (b:=b) (λx y=>(x.1==y.1)&&((x.2.1==y.2.1)&&((x.2.2.1==y.2.2.1)&&((x.2.2.2.1==y.2.2.2.1)&&((x.2.2.2.2==y.2.2.2.2)&&true))))) false hlen (cCc ha (by decide)) (λk x y mx my ix iy hd hw=>by
   simp only[hd,ix,iy,hw,zZ,aA,aN,bne];generalize ((x.1==y.1)&&((x.2.1==y.2.1)&&((x.2.2.1==y.2.2.1)&&((x.2.2.2.1==y.2.2.2.1)&&((x.2.2.2.2==y.2.2.2.2)&&true)))))=c;cases c<;>rfl) (by simp)]
  simp only[aA,xR,aJ]),aJ]
noncomputable def uQ(a b:den tPp):Bool:=cond (a.1==b.1) (cond (a.2.1==b.2.1) (cond (a.2.2.1==b.2.2.1) (aFx a.2.2.2 b.2.2.2) false) false) false
theorem bM6{a b:den tPp}(ha:SmB 68719476736 tPp a)(hb:SmB 68719476736 tPp b):rW a b=some (uQ a b):=by
 unfold rW uQ;simp only[aA,aJ,aN,bB4 ha.2.2.2.1]
theorem bOp{a b:den tPp}(ha:SmB 68719476736 tPp a)(hb:SmB 68719476736 tPp b):rM a b=some (uQ a b):=by
 unfold rM uQ;simp only[aA,aJ,aN,bVo ha.2.2.2.1]
noncomputable def oM(a b:lPp):Bool:=cond (!decide (a.length=b.length)) false (cond (fX (λx y=>uQ x y) a b) true false)
theorem aTv{a b:lPp}(ha:SmB 68719476736 (.sl tPp) a)(hb:SmB 68719476736 (.sl tPp) b):gZ a b=some (oM a b):=by
 unfold gZ oM pj4;rw[xJ];rw[aBn (z:=some (cond (fX (λx y=>uQ x y) a b) true false)) (λhlen=>by
  rw[mA (a:=a) (b:=b) (λx y=>uQ x y) false hlen (cCc ha.1 (by decide)) (λk x y mx my ix iy hd hw=>by
   simp only[hd,ix,iy,hw,zZ,aA,aN,bM6 (ha.2 x mx) (hb.2 y my)];generalize (uQ x y)=c;cases c<;>rfl) (by simp)]
  simp only[aA,xR,aJ]),aJ]
theorem bC1{a b:lPp}(ha:SmB 68719476736 (.sl tPp) a)(hb:SmB 68719476736 (.sl tPp) b):lE a b=some (oM a b):=by
 unfold lE oM pj4;rw[xJ];rw[aBn (z:=some (cond (fX (λx y=>uQ x y) a b) true false)) (λhlen=>by
  rw[mA (a:=a) (b:=b) (λx y=>uQ x y) false hlen (cCc ha.1 (by decide)) (λk x y mx my ix iy hd hw=>by
   simp only[hd,ix,iy,hw,zZ,aA,aN,bOp (ha.2 x mx) (hb.2 y my)];generalize (uQ x y)=c;cases c<;>rfl) (by simp)]
  simp only[aA,xR,aJ]),aJ]
noncomputable def aIr(a b:lPt):Bool:=cond (!decide (a.length=b.length)) false (cond (fX (λx y=>oM x y) a b) true false)
theorem bQw{a b:lPt}(ha:SmB 68719476736 (.sl tPt) a)(hb:SmB 68719476736 (.sl tPt) b):kN a b=some (aIr a b):=by
 unfold kN aIr;rw[xJ];rw[aBn (z:=some (cond (fX (λx y=>oM x y) a b) true false)) (λhlen=>by
  rw[mA (a:=a) (b:=b) (λx y=>oM x y) false hlen (cCc ha.1 (by decide)) (λk x y mx my ix iy hd hw=>by
   simp only[hd,ix,iy,hw,zZ,aA,aN,aTv (ha.2 x mx) (hb.2 y my)];generalize (oM x y)=c;cases c<;>rfl) (by simp)]
  simp only[aA,xR,aJ]),aJ]
noncomputable def aB9(a b:List Int):Bool:=(zB a).toList==(zB b).toList
theorem bCi(a b:List Int):mQ a b=some (aB9 a b):=rfl
theorem bWb(a b:List Int):mS a b=some (aB9 a b):=rfl
noncomputable def qY(a b:den tPk):Bool:=cond (a.1==b.1) (cond (a.2.1==b.2.1) (cond (a.2.2.1==b.2.2.1) (cond (oM a.2.2.2.1 b.2.2.2.1) (cond (a.2.2.2.2.1==b.2.2.2.2.1) (cond (a.2.2.2.2.2.1==b.2.2.2.2.2.1) (cond (a.2.2.2.2.2.2.1==b.2.2.2.2.2.2.1) (cond (a.2.2.2.2.2.2.2.1==b.2.2.2.2.2.2.2.1) (cond (a.2.2.2.2.2.2.2.2.1==b.2.2.2.2.2.2.2.2.1) (aB9 a.2.2.2.2.2.2.2.2.2 b.2.2.2.2.2.2.2.2.2) false) false) false) false) false) false) false) false) false
theorem bVt{a b:den tPk}(ha:SmB 68719476736 tPk a)(hb:SmB 68719476736 tPk b):nM a b=some (qY a b):=by
 unfold nM qY zz4 zz5 zz6 zz7 zz8 zz9;simp only[aA,aJ,aN,bCi,aTv ha.2.2.2.1 hb.2.2.2.1]
theorem bVq{a b:den tPk}(ha:SmB 68719476736 tPk a)(hb:SmB 68719476736 tPk b):lU a b=some (qY a b):=by
 unfold lU qY zz4 zz5 zz6 zz7 zz8 zz9;simp only[aA,aJ,aN,bWb,bC1 ha.2.2.2.1 hb.2.2.2.1]
noncomputable def aHg(a b:den tSg):Bool:=cond (a.1==b.1) (cond (a.2.1==b.2.1) (aFx a.2.2 b.2.2) false) false
theorem bT4{a b:den tSg}(ha:SmB 68719476736 tSg a)(hb:SmB 68719476736 tSg b):mG a b=some (aHg a b):=by
 unfold mG aHg;simp only[aA,aJ,aN,bB4 ha.2.2.1]
noncomputable def xV(a b:lSg):Bool:=cond (!decide (a.length=b.length)) false (cond (fX (λx y=>aHg x y) a b) true false)
theorem bAe{a b:lSg}(ha:SmB 68719476736 (.sl tSg) a)(hb:SmB 68719476736 (.sl tSg) b):eX a b=some (xV a b):=by
 unfold eX xV pj3;rw[xJ];rw[aBn (z:=some (cond (fX (λx y=>aHg x y) a b) true false)) (λhlen=>by
  rw[mA (a:=a) (b:=b) (λx y=>aHg x y) false hlen (cCc ha.1 (by decide)) (λk x y mx my ix iy hd hw=>by
   simp only[hd,ix,iy,hw,zZ,aA,aN,bT4 (ha.2 x mx) (hb.2 y my)];generalize (aHg x y)=c;cases c<;>rfl) (by simp)]
  simp only[aA,xR,aJ]),aJ]
noncomputable def aIt(a b:lRs):Bool:=cond (!decide (a.length=b.length)) false (cond (fX (λx y=>(x.1==y.1)&&((x.2.1==y.2.1)&&((x.2.2.1==y.2.2.1)&&((x.2.2.2.1==y.2.2.2.1)&&((x.2.2.2.2==y.2.2.2.2)&&true))))) a b) true false)
theorem bNs{a b:lRs}(ha:a.length<=68719476736):gL a b=some (aIt a b):=by
 unfold gL aIt zz4;rw[xJ];rw[aBn (z:=some (cond (fX (λx y=>(x.1==y.1)&&((x.2.1==y.2.1)&&((x.2.2.1==y.2.2.1)&&((x.2.2.2.1==y.2.2.2.1)&&((x.2.2.2.2==y.2.2.2.2)&&true))))) a b) true false)) (λhlen=>by
  rw[mA (a:=a) (b:=b) (λx y=>(x.1==y.1)&&((x.2.1==y.2.1)&&((x.2.2.1==y.2.2.1)&&((x.2.2.2.1==y.2.2.2.1)&&((x.2.2.2.2==y.2.2.2.2)&&true))))) false hlen (cCc ha (by decide)) (λk x y mx my ix iy hd hw=>by
   simp only[hd,ix,iy,hw,zZ,aA,aN,bne];generalize ((x.1==y.1)&&((x.2.1==y.2.1)&&((x.2.2.1==y.2.2.1)&&((x.2.2.2.1==y.2.2.2.1)&&((x.2.2.2.2==y.2.2.2.2)&&true)))))=c;cases c<;>rfl) (by simp)]
  simp only[aA,xR,aJ]),aJ]
noncomputable def aH1(a b:List Int):Bool:=cond (!decide (a.length=b.length)) false (cond (fX (λx y=>x==y) a b) true false)
theorem bVj{a b:List Int}(ha:a.length<=68719476736):tX a b=some (aH1 a b):=by
 unfold tX aH1;rw[xJ];rw[aBn (z:=some (cond (fX (λx y=>x==y) a b) true false)) (λhlen=>by
  rw[mA (a:=a) (b:=b) (λx y=>x==y) false hlen (cCc ha (by decide)) (λk x y mx my ix iy hd hw=>by
   simp only[hd,ix,iy,hw,zZ,aA,aN,bne];generalize (x==y)=c;cases c<;>rfl) (by simp)]
  simp only[aA,xR,aJ]),aJ]
noncomputable def aRu(a b:lMs):Bool:=cond (!decide (a.length=b.length)) false (cond (fX (λx y=>aB9 x y) a b) true false)
theorem bBx{a b:lMs}(ha:a.length<=68719476736):dK a b=some (aRu a b):=by
 unfold dK aRu;rw[xJ];rw[aBn (z:=some (cond (fX (λx y=>aB9 x y) a b) true false)) (λhlen=>by
  rw[mA (a:=a) (b:=b) (λx y=>aB9 x y) false hlen (cCc ha (by decide)) (λk x y mx my ix iy hd hw=>by
   simp only[hd,ix,iy,hw,zZ,aA,aN,bCi];generalize (aB9 x y)=c;cases c<;>rfl) (by simp)]
  simp only[aA,xR,aJ]),aJ]
noncomputable def aFv(a b:den tTo):Bool:=(decide (a.1.length=b.1.length))&&((decide (a.2.length=b.2.length))&&((fX (λx y=>(x.1==y.1)&&((x.2.1==y.2.1)&&((x.2.2==y.2.2)&&true))) a.1 b.1)&&((fX (λx y=>(x.1==y.1)&&((x.2.1==y.2.1)&&((x.2.2.1==y.2.2.1)&&((x.2.2.2.1==y.2.2.2.1)&&((x.2.2.2.2==y.2.2.2.2)&&true))))) a.2 b.2))))
theorem bV5{a b:den tTo}(ha:SmB 68719476736 tTo a)(hb:SmB 68719476736 tTo b):jU a b=some (aFv a b):=by
 unfold jU aFv zz4;simp only[xJ]
 try simp only[bne]
 by_cases h0:a.1.length=b.1.length
 .rw[mA (a:=a.1) (b:=b.1) (λx y=>(x.1==y.1)&&((x.2.1==y.2.1)&&((x.2.2==y.2.2)&&true))) false h0 (cCc ha.1.1 (by decide)) (λk x y mx my ix iy hd hw=>by
   simp only[hd,ix,iy,hw,zZ,aA,aN,bne];generalize ((x.1==y.1)&&((x.2.1==y.2.1)&&((x.2.2==y.2.2)&&true)))=c;cases c<;>rfl) (by simp)]
  by_cases h1:a.2.length=b.2.length
  .rw[mA (a:=a.2) (b:=b.2) (λx y=>(x.1==y.1)&&((x.2.1==y.2.1)&&((x.2.2.1==y.2.2.1)&&((x.2.2.2.1==y.2.2.2.1)&&((x.2.2.2.2==y.2.2.2.2)&&true))))) false h1 (cCc ha.2.1 (by decide)) (λk x y mx my ix iy hd hw=>by
    simp only[hd,ix,iy,hw,zZ,aA,aN,bne];generalize ((x.1==y.1)&&((x.2.1==y.2.1)&&((x.2.2.1==y.2.2.1)&&((x.2.2.2.1==y.2.2.2.1)&&((x.2.2.2.2==y.2.2.2.2)&&true)))))=c;cases c<;>rfl) (by simp)]
   simp only[aA,xR]
   all_goals (cases (decide (a.1.length=b.1.length))<;>try simp only[cCd,cCh,zZ,zY,aA,aJ,cCj,cCi,cCp,cCr])
   all_goals (cases (decide (a.2.length=b.2.length))<;>try simp only[cCd,cCh,zZ,zY,aA,aJ,cCj,cCi,cCp,cCr])
   all_goals (cases (fX (λx y=>(x.1==y.1)&&((x.2.1==y.2.1)&&((x.2.2==y.2.2)&&true))) a.1 b.1)<;>try simp only[cCd,cCh,zZ,zY,aA,aJ,cCj,cCi,cCp,cCr])
   all_goals (cases (fX (λx y=>(x.1==y.1)&&((x.2.1==y.2.1)&&((x.2.2.1==y.2.2.1)&&((x.2.2.2.1==y.2.2.2.1)&&((x.2.2.2.2==y.2.2.2.2)&&true))))) a.2 b.2)<;>rfl)
  .have e1:decide (a.2.length=b.2.length)=false:=by simpa using h1
   simp only[e1]
   all_goals (cases (decide (a.1.length=b.1.length))<;>try simp only[cCd,cCh,zZ,zY,aA,aJ,cCj,cCi,cCp,cCr])
   all_goals rfl
 .have e0:decide (a.1.length=b.1.length)=false:=by simpa using h0
  simp only[e0]
  all_goals (cases (decide (a.2.length=b.2.length))<;>try simp only[cCd,cCh,zZ,zY,aA,aJ,cCj,cCi,cCp,cCr])
  all_goals rfl
noncomputable def aFd(a b:den tSc):Bool:=(a.1==b.1)&&((aIt a.2.1 b.2.1)&&((decide (a.2.2.length=b.2.2.length))&&((fX (λx y=>(x.1==y.1)&&((x.2.1==y.2.1)&&((x.2.2.1==y.2.2.1)&&((x.2.2.2==y.2.2.2)&&true)))) a.2.2 b.2.2))))
theorem bVx{a b:den tSc}(ha:SmB 68719476736 tSc a)(hb:SmB 68719476736 tSc b):jV a b=some (aFd a b):=by
 unfold jV aFd;simp only[xJ]
 try simp only[bne,bNs ha.2.1.1]
 by_cases h0:a.2.2.length=b.2.2.length
 .rw[mA (a:=a.2.2) (b:=b.2.2) (λx y=>(x.1==y.1)&&((x.2.1==y.2.1)&&((x.2.2.1==y.2.2.1)&&((x.2.2.2==y.2.2.2)&&true)))) false h0 (cCc ha.2.2.1 (by decide)) (λk x y mx my ix iy hd hw=>by
   simp only[hd,ix,iy,hw,zZ,aA,aN,bne];generalize ((x.1==y.1)&&((x.2.1==y.2.1)&&((x.2.2.1==y.2.2.1)&&((x.2.2.2==y.2.2.2)&&true))))=c;cases c<;>rfl) (by simp)]
  simp only[aA,xR]
  all_goals (cases (a.1==b.1)<;>try simp only[cCd,cCh,zZ,zY,aA,aJ,cCj,cCi,cCp,cCr])
  all_goals (cases (aIt a.2.1 b.2.1)<;>try simp only[cCd,cCh,zZ,zY,aA,aJ,cCj,cCi,cCp,cCr])
  all_goals (cases (decide (a.2.2.length=b.2.2.length))<;>try simp only[cCd,cCh,zZ,zY,aA,aJ,cCj,cCi,cCp,cCr])
  all_goals (cases (fX (λx y=>(x.1==y.1)&&((x.2.1==y.2.1)&&((x.2.2.1==y.2.2.1)&&((x.2.2.2==y.2.2.2)&&true)))) a.2.2 b.2.2)<;>rfl)
 .have e0:decide (a.2.2.length=b.2.2.length)=false:=by simpa using h0
  simp only[e0]
  all_goals (cases (a.1==b.1)<;>try simp only[cCd,cCh,zZ,zY,aA,aJ,cCj,cCi,cCp,cCr])
  all_goals (cases (aIt a.2.1 b.2.1)<;>try simp only[cCd,cCh,zZ,zY,aA,aJ,cCj,cCi,cCp,cCr])
  all_goals rfl
noncomputable def aFu(a b:den tIb):Bool:=(a.1==b.1)&&((a.2.1==b.2.1)&&((a.2.2.1==b.2.2.1)&&aRu a.2.2.2 b.2.2.2))
theorem bUk{a b:den tIb}(ha:SmB 68719476736 tIb a)(hb:SmB 68719476736 tIb b):nJ a b=some (aFu a b):=by
 unfold nJ aFu;simp only[bBx ha.2.2.2.1,aA];cases (a.1==b.1)<;>simp only[zZ,zY,aA,cCj,cCi];cases (a.2.1==b.2.1)<;>simp only[zZ,zY,aA,cCj,cCi];cases (a.2.2.1==b.2.2.1)<;>simp only[zZ,zY,aA,cCj,cCi]
noncomputable def aFs(a b:den tFl):Bool:=(a.1==b.1)&&((a.2.1==b.2.1)&&((a.2.2.1==b.2.2.1)&&((a.2.2.2.1==b.2.2.2.1)&&((a.2.2.2.2.2.2.1==b.2.2.2.2.2.2.1)&&((a.2.2.2.2.2.2.2.1==b.2.2.2.2.2.2.2.1)&&((decide (a.2.2.2.2.1.length=b.2.2.2.2.1.length))&&((fX (λx y=>aB9 x y) a.2.2.2.2.1 b.2.2.2.2.1)&&((aIr a.2.2.2.2.2.1 b.2.2.2.2.2.1)&&((decide (a.2.2.2.2.2.2.2.2.length=b.2.2.2.2.2.2.2.2.length))&&((fX (λx y=>(x.1==y.1)&&((x.2.1==y.2.1)&&((x.2.2==y.2.2)&&true))) a.2.2.2.2.2.2.2.2 b.2.2.2.2.2.2.2.2)))))))))))
theorem bV2{a b:den tFl}(ha:SmB 68719476736 tFl a)(hb:SmB 68719476736 tFl b):rG a b=some (aFs a b):=by
 unfold rG aFs zz4 zz5 zz6 zz7 zz8;simp only[xJ]
 try simp only[bne,bBx ha.2.2.2.2.1.1,aRu,bQw ha.2.2.2.2.2.1 hb.2.2.2.2.2.1]
 by_cases h0:a.2.2.2.2.2.2.2.2.length=b.2.2.2.2.2.2.2.2.length
 .rw[mA (a:=a.2.2.2.2.2.2.2.2) (b:=b.2.2.2.2.2.2.2.2) (λx y=>(x.1==y.1)&&((x.2.1==y.2.1)&&((x.2.2==y.2.2)&&true))) false h0 (cCc ha.2.2.2.2.2.2.2.2.1 (by decide)) (λk x y mx my ix iy hd hw=>by
   simp only[hd,ix,iy,hw,zZ,aA,aN,bne];generalize ((x.1==y.1)&&((x.2.1==y.2.1)&&((x.2.2==y.2.2)&&true)))=c;cases c<;>rfl) (by simp)]
  simp only[aA,xR]
  all_goals (cases (a.1==b.1)<;>try simp only[cCd,cCh,zZ,zY,aA,aJ,cCj,cCi,cCp,cCr])
  all_goals (cases (a.2.1==b.2.1)<;>try simp only[cCd,cCh,zZ,zY,aA,aJ,cCj,cCi,cCp,cCr])
  all_goals (cases (a.2.2.1==b.2.2.1)<;>try simp only[cCd,cCh,zZ,zY,aA,aJ,cCj,cCi,cCp,cCr])
  all_goals (cases (a.2.2.2.1==b.2.2.2.1)<;>try simp only[cCd,cCh,zZ,zY,aA,aJ,cCj,cCi,cCp,cCr])
  all_goals (cases (a.2.2.2.2.2.2.1==b.2.2.2.2.2.2.1)<;>try simp only[cCd,cCh,zZ,zY,aA,aJ,cCj,cCi,cCp,cCr])
  all_goals (cases (a.2.2.2.2.2.2.2.1==b.2.2.2.2.2.2.2.1)<;>try simp only[cCd,cCh,zZ,zY,aA,aJ,cCj,cCi,cCp,cCr])
  all_goals (cases (decide (a.2.2.2.2.1.length=b.2.2.2.2.1.length))<;>try simp only[cCd,cCh,zZ,zY,aA,aJ,cCj,cCi,cCp,cCr])
  all_goals (cases (fX (λx y=>aB9 x y) a.2.2.2.2.1 b.2.2.2.2.1)<;>try simp only[cCd,cCh,zZ,zY,aA,aJ,cCj,cCi,cCp,cCr])
  all_goals (cases (aIr a.2.2.2.2.2.1 b.2.2.2.2.2.1)<;>try simp only[cCd,cCh,zZ,zY,aA,aJ,cCj,cCi,cCp,cCr])
  all_goals (cases (decide (a.2.2.2.2.2.2.2.2.length=b.2.2.2.2.2.2.2.2.length))<;>try simp only[cCd,cCh,zZ,zY,aA,aJ,cCj,cCi,cCp,cCr])
  all_goals (cases (fX (λx y=>(x.1==y.1)&&((x.2.1==y.2.1)&&((x.2.2==y.2.2)&&true))) a.2.2.2.2.2.2.2.2 b.2.2.2.2.2.2.2.2)<;>rfl)
 .have e0:decide (a.2.2.2.2.2.2.2.2.length=b.2.2.2.2.2.2.2.2.length)=false:=by simpa using h0
  simp only[e0]
  all_goals (cases (a.1==b.1)<;>try simp only[cCd,cCh,zZ,zY,aA,aJ,cCj,cCi,cCp,cCr])
  all_goals (cases (a.2.1==b.2.1)<;>try simp only[cCd,cCh,zZ,zY,aA,aJ,cCj,cCi,cCp,cCr])
  all_goals (cases (a.2.2.1==b.2.2.1)<;>try simp only[cCd,cCh,zZ,zY,aA,aJ,cCj,cCi,cCp,cCr])
  all_goals (cases (a.2.2.2.1==b.2.2.2.1)<;>try simp only[cCd,cCh,zZ,zY,aA,aJ,cCj,cCi,cCp,cCr])
  all_goals (cases (a.2.2.2.2.2.2.1==b.2.2.2.2.2.2.1)<;>try simp only[cCd,cCh,zZ,zY,aA,aJ,cCj,cCi,cCp,cCr])
  all_goals (cases (a.2.2.2.2.2.2.2.1==b.2.2.2.2.2.2.2.1)<;>try simp only[cCd,cCh,zZ,zY,aA,aJ,cCj,cCi,cCp,cCr])
  all_goals (cases (decide (a.2.2.2.2.1.length=b.2.2.2.2.1.length))<;>try simp only[cCd,cCh,zZ,zY,aA,aJ,cCj,cCi,cCp,cCr])
  all_goals (cases (fX (λx y=>aB9 x y) a.2.2.2.2.1 b.2.2.2.2.1)<;>try simp only[cCd,cCh,zZ,zY,aA,aJ,cCj,cCi,cCp,cCr])
  all_goals (cases (aIr a.2.2.2.2.2.1 b.2.2.2.2.2.1)<;>try simp only[cCd,cCh,zZ,zY,aA,aJ,cCj,cCi,cCp,cCr])
  all_goals rfl
noncomputable def aM1(a b:den tNw):Bool:=(aFv a.1 b.1)&&((xV a.2.1.1 b.2.1.1)&&((xV a.2.1.2 b.2.1.2)&&((aFd a.2.2.1 b.2.2.1)&&((a.2.2.2.1==b.2.2.2.1)&&((aH1 a.2.2.2.2.1 b.2.2.2.2.1)&&((a.2.2.2.2.2.2.2.2==b.2.2.2.2.2.2.2.2)&&((decide (a.2.2.2.2.2.1.length=b.2.2.2.2.2.1.length))&&((decide (a.2.2.2.2.2.2.1.length=b.2.2.2.2.2.2.1.length))&&((decide (a.2.2.2.2.2.2.2.1.length=b.2.2.2.2.2.2.2.1.length))&&((fX (λx y=>(cond (x.1==y.1) (cond (x.2.1==y.2.1) (qY x.2.2 y.2.2) false) false)) a.2.2.2.2.2.1 b.2.2.2.2.2.1)&&((fX (λx y=>aFs x y) a.2.2.2.2.2.2.1 b.2.2.2.2.2.2.1)&&((fX (λx y=>aFu x y) a.2.2.2.2.2.2.2.1 b.2.2.2.2.2.2.2.1)))))))))))))
theorem bHy{a b:den tNw}(ha:SmB 68719476736 tNw a)(hb:SmB 68719476736 tNw b):kG a b=some (aM1 a b):=by
 unfold kG aM1 bM pj2 pj3 pj4 pj9 zz4 zz5 zz6 zz7 zz8;simp only[xJ]
 try simp only[bne,aN,bV5 ha.1 hb.1,bAe ha.2.1.1 hb.2.1.1,bAe ha.2.1.2 hb.2.1.2,bVx ha.2.2.1 hb.2.2.1,bVj ha.2.2.2.2.1.1]
 by_cases h0:a.2.2.2.2.2.1.length=b.2.2.2.2.2.1.length
 .rw[mA (a:=a.2.2.2.2.2.1) (b:=b.2.2.2.2.2.1) (λx y=>(cond (x.1==y.1) (cond (x.2.1==y.2.1) (qY x.2.2 y.2.2) false) false)) false h0 (cCc ha.2.2.2.2.2.1.1 (by decide)) (λk x y mx my ix iy hd hw=>by
   simp only[hd,ix,iy,hw,zZ,aA,aN,bne,bVt (ha.2.2.2.2.2.1.2 x mx).2.2 (hb.2.2.2.2.2.1.2 y my).2.2];cases (x.1==y.1)<;>cases (x.2.1==y.2.1)<;>cases qY x.2.2 y.2.2<;>rfl) (by simp)]
  by_cases h1:a.2.2.2.2.2.2.1.length=b.2.2.2.2.2.2.1.length
  .rw[mA (a:=a.2.2.2.2.2.2.1) (b:=b.2.2.2.2.2.2.1) (λx y=>aFs x y) false h1 (cCc ha.2.2.2.2.2.2.1.1 (by decide)) (λk x y mx my ix iy hd hw=>by
    simp only[hd,ix,iy,hw,zZ,aA,aN,bne,bV2 (ha.2.2.2.2.2.2.1.2 x mx) (hb.2.2.2.2.2.2.1.2 y my)];cases aFs x y<;>rfl) (by simp)]
   by_cases h2:a.2.2.2.2.2.2.2.1.length=b.2.2.2.2.2.2.2.1.length
   .rw[mA (a:=a.2.2.2.2.2.2.2.1) (b:=b.2.2.2.2.2.2.2.1) (λx y=>aFu x y) false h2 (cCc ha.2.2.2.2.2.2.2.1.1 (by decide)) (λk x y mx my ix iy hd hw=>by
     simp only[hd,ix,iy,hw,zZ,aA,aN,bne,bUk (ha.2.2.2.2.2.2.2.1.2 x mx) (hb.2.2.2.2.2.2.2.1.2 y my)];cases aFu x y<;>rfl) (by simp)]
    simp only[aA,xR]
    all_goals (cases (aFv a.1 b.1)<;>try simp only[cCd,cCh,zZ,zY,aA,aJ,cCj,cCi,cCp,cCr])
    all_goals (cases (xV a.2.1.1 b.2.1.1)<;>try simp only[cCd,cCh,zZ,zY,aA,aJ,cCj,cCi,cCp,cCr])
    all_goals (cases (xV a.2.1.2 b.2.1.2)<;>try simp only[cCd,cCh,zZ,zY,aA,aJ,cCj,cCi,cCp,cCr])
    all_goals (cases (aFd a.2.2.1 b.2.2.1)<;>try simp only[cCd,cCh,zZ,zY,aA,aJ,cCj,cCi,cCp,cCr])
    all_goals (cases (a.2.2.2.1==b.2.2.2.1)<;>try simp only[cCd,cCh,zZ,zY,aA,aJ,cCj,cCi,cCp,cCr])
    all_goals (cases (aH1 a.2.2.2.2.1 b.2.2.2.2.1)<;>try simp only[cCd,cCh,zZ,zY,aA,aJ,cCj,cCi,cCp,cCr])
    all_goals (cases (a.2.2.2.2.2.2.2.2==b.2.2.2.2.2.2.2.2)<;>try simp only[cCd,cCh,zZ,zY,aA,aJ,cCj,cCi,cCp,cCr])
    all_goals (cases (decide (a.2.2.2.2.2.1.length=b.2.2.2.2.2.1.length))<;>try simp only[cCd,cCh,zZ,zY,aA,aJ,cCj,cCi,cCp,cCr])
    all_goals (cases (decide (a.2.2.2.2.2.2.1.length=b.2.2.2.2.2.2.1.length))<;>try simp only[cCd,cCh,zZ,zY,aA,aJ,cCj,cCi,cCp,cCr])
    all_goals (cases (decide (a.2.2.2.2.2.2.2.1.length=b.2.2.2.2.2.2.2.1.length))<;>try simp only[cCd,cCh,zZ,zY,aA,aJ,cCj,cCi,cCp,cCr])
    all_goals (cases (fX (λx y=>(cond (x.1==y.1) (cond (x.2.1==y.2.1) (qY x.2.2 y.2.2) false) false)) a.2.2.2.2.2.1 b.2.2.2.2.2.1)<;>try simp only[cCd,cCh,zZ,zY,aA,aJ,cCj,cCi,cCp,cCr])
    all_goals (cases (fX (λx y=>aFs x y) a.2.2.2.2.2.2.1 b.2.2.2.2.2.2.1)<;>try simp only[cCd,cCh,zZ,zY,aA,aJ,cCj,cCi,cCp,cCr])
    all_goals (cases (fX (λx y=>aFu x y) a.2.2.2.2.2.2.2.1 b.2.2.2.2.2.2.2.1)<;>rfl)
   .have e2:decide (a.2.2.2.2.2.2.2.1.length=b.2.2.2.2.2.2.2.1.length)=false:=by simpa using h2
    simp only[e2]
    all_goals (cases (aFv a.1 b.1)<;>try simp only[cCd,cCh,zZ,zY,aA,aJ,cCj,cCi,cCp,cCr])
    all_goals (cases (xV a.2.1.1 b.2.1.1)<;>try simp only[cCd,cCh,zZ,zY,aA,aJ,cCj,cCi,cCp,cCr])
    all_goals (cases (xV a.2.1.2 b.2.1.2)<;>try simp only[cCd,cCh,zZ,zY,aA,aJ,cCj,cCi,cCp,cCr])
    all_goals (cases (aFd a.2.2.1 b.2.2.1)<;>try simp only[cCd,cCh,zZ,zY,aA,aJ,cCj,cCi,cCp,cCr])
    all_goals (cases (a.2.2.2.1==b.2.2.2.1)<;>try simp only[cCd,cCh,zZ,zY,aA,aJ,cCj,cCi,cCp,cCr])
    all_goals (cases (aH1 a.2.2.2.2.1 b.2.2.2.2.1)<;>try simp only[cCd,cCh,zZ,zY,aA,aJ,cCj,cCi,cCp,cCr])
    all_goals (cases (a.2.2.2.2.2.2.2.2==b.2.2.2.2.2.2.2.2)<;>try simp only[cCd,cCh,zZ,zY,aA,aJ,cCj,cCi,cCp,cCr])
    all_goals (cases (decide (a.2.2.2.2.2.1.length=b.2.2.2.2.2.1.length))<;>try simp only[cCd,cCh,zZ,zY,aA,aJ,cCj,cCi,cCp,cCr])
    all_goals (cases (decide (a.2.2.2.2.2.2.1.length=b.2.2.2.2.2.2.1.length))<;>try simp only[cCd,cCh,zZ,zY,aA,aJ,cCj,cCi,cCp,cCr])
    all_goals rfl
  .have e1:decide (a.2.2.2.2.2.2.1.length=b.2.2.2.2.2.2.1.length)=false:=by simpa using h1
   simp only[e1]
   all_goals (cases (aFv a.1 b.1)<;>try simp only[cCd,cCh,zZ,zY,aA,aJ,cCj,cCi,cCp,cCr])
   all_goals (cases (xV a.2.1.1 b.2.1.1)<;>try simp only[cCd,cCh,zZ,zY,aA,aJ,cCj,cCi,cCp,cCr])
   all_goals (cases (xV a.2.1.2 b.2.1.2)<;>try simp only[cCd,cCh,zZ,zY,aA,aJ,cCj,cCi,cCp,cCr])
   all_goals (cases (aFd a.2.2.1 b.2.2.1)<;>try simp only[cCd,cCh,zZ,zY,aA,aJ,cCj,cCi,cCp,cCr])
   all_goals (cases (a.2.2.2.1==b.2.2.2.1)<;>try simp only[cCd,cCh,zZ,zY,aA,aJ,cCj,cCi,cCp,cCr])
   all_goals (cases (aH1 a.2.2.2.2.1 b.2.2.2.2.1)<;>try simp only[cCd,cCh,zZ,zY,aA,aJ,cCj,cCi,cCp,cCr])
   all_goals (cases (a.2.2.2.2.2.2.2.2==b.2.2.2.2.2.2.2.2)<;>try simp only[cCd,cCh,zZ,zY,aA,aJ,cCj,cCi,cCp,cCr])
   all_goals (cases (decide (a.2.2.2.2.2.1.length=b.2.2.2.2.2.1.length))<;>try simp only[cCd,cCh,zZ,zY,aA,aJ,cCj,cCi,cCp,cCr])
   all_goals (cases (decide (a.2.2.2.2.2.2.2.1.length=b.2.2.2.2.2.2.2.1.length))<;>try simp only[cCd,cCh,zZ,zY,aA,aJ,cCj,cCi,cCp,cCr])
   all_goals rfl
 .have e0:decide (a.2.2.2.2.2.1.length=b.2.2.2.2.2.1.length)=false:=by simpa using h0
  simp only[e0]
  all_goals (cases (aFv a.1 b.1)<;>try simp only[cCd,cCh,zZ,zY,aA,aJ,cCj,cCi,cCp,cCr])
  all_goals (cases (xV a.2.1.1 b.2.1.1)<;>try simp only[cCd,cCh,zZ,zY,aA,aJ,cCj,cCi,cCp,cCr])
  all_goals (cases (xV a.2.1.2 b.2.1.2)<;>try simp only[cCd,cCh,zZ,zY,aA,aJ,cCj,cCi,cCp,cCr])
  all_goals (cases (aFd a.2.2.1 b.2.2.1)<;>try simp only[cCd,cCh,zZ,zY,aA,aJ,cCj,cCi,cCp,cCr])
  all_goals (cases (a.2.2.2.1==b.2.2.2.1)<;>try simp only[cCd,cCh,zZ,zY,aA,aJ,cCj,cCi,cCp,cCr])
  all_goals (cases (aH1 a.2.2.2.2.1 b.2.2.2.2.1)<;>try simp only[cCd,cCh,zZ,zY,aA,aJ,cCj,cCi,cCp,cCr])
  all_goals (cases (a.2.2.2.2.2.2.2.2==b.2.2.2.2.2.2.2.2)<;>try simp only[cCd,cCh,zZ,zY,aA,aJ,cCj,cCi,cCp,cCr])
  all_goals (cases (decide (a.2.2.2.2.2.2.1.length=b.2.2.2.2.2.2.1.length))<;>try simp only[cCd,cCh,zZ,zY,aA,aJ,cCj,cCi,cCp,cCr])
  all_goals (cases (decide (a.2.2.2.2.2.2.2.1.length=b.2.2.2.2.2.2.2.1.length))<;>try simp only[cCd,cCh,zZ,zY,aA,aJ,cCj,cCi,cCp,cCr])
  all_goals rfl
def aOl(b:List Int)(p:Nat):Nat->Nat->Nat->Int×Int×Bool
 | 0,_,_=>(0,0,false)
 | f+1,k,n=>match b[p+k]? with
  | none=>(0,0,false)
  | some x=>
   if x.toNat<128 then (if (decide (x.toNat=0)&&decide (0<k))||decide (1000000000000<n+x.toNat % 128 * 2 ^ (7 * k)) then (0,0,false) else (((n+x.toNat % 128 * 2 ^ (7 * k):Nat):Int),((p+k+1:Nat):Int),true))
   else aOl b p f (k+1) (n+x.toNat % 128 * 2 ^ (7 * k))
theorem bCt{k:Nat}(h:k<6):2 ^ (7 * k)<=34359738368:=cCc (Nat.pow_le_pow_right (by decide) (show 7 * k<=35 by omega)) (by decide)
theorem bMi{n c k:Nat}(h:n<2 ^ (7 * k))(hc:c<128):n+c * 2 ^ (7 * k)<2 ^ (7 * (k+1)):=by
 have e:2 ^ (7 * (k+1))=128 * 2 ^ (7 * k):=by rw[show 7 * (k+1)=7 * k+7 by omega,Nat.pow_add];omega
 have :c * 2 ^ (7 * k)<=127 * 2 ^ (7 * k):=Nat.mul_le_mul_right _ (by omega);omega
theorem bC2{c k:Nat}(hk:k<6)(hc:c<128):c * 2 ^ (7 * k)<=4398046511104:=cCc (Nat.mul_le_mul (show c<=128 by omega) (bCt hk)) (by decide)
theorem bUb{S:Type}(b:List Int)(p:Nat)(hb:∀x∈b,0<=x/\x<=255)(enc:Nat->Nat->S){step:S->Option (S⊕(Unit⊕q42))}
  (h0:∀n,step (enc 6 n)=some (.inr (.inl ())))
  (h1:∀k n,k<6->b[p+k]? =none->step (enc k n)=some (.inr (.inl ()))\/step (enc k n)=some (.inr (.inr (0,0,false))))
  (h2:∀k n (m:Nat),k<6->n<2 ^ (7 * k)->m<=255->b[p+k]? =some (m:Int)->step (enc k n)=some (if m<128 then .inr (.inr (if (decide (m=0)&&decide (0<k))||decide (1000000000000<n+m % 128 * 2 ^ (7 * k)) then (0,0,false) else (((n+m % 128 * 2 ^ (7 * k):Nat):Int),((p+k+1:Nat):Int),true))) else .inl (enc (k+1) (n+m % 128 * 2 ^ (7 * k))))):
  ∀f k n,f+k=6->n<2 ^ (7 * k)-> @Option.bind (Unit⊕q42) q42 (aC step (enc k n)) (λz=>Sum.elim (λ_=>some ((0:Int),(0:Int),false)) some z)=some (aOl b p f k n):=by
 intro f
 induction f with
 | zero=>
  intro k n hk hn;have :k=6:=by omega
  subst this;rw[bH (h0 n)];rfl
 | succ f ih=>
  intro k n hk hn;have hk6:k<6:=by omega
  unfold aOl;cases hx:b[p+k]? with
  | none=>rcases h1 k n hk6 hx with h | h<;>rw[bH h]<;>rfl
  | some x=>
   obtain⟨x0,x1⟩:=hb x (cCt hx);obtain⟨m,rfl⟩:∃m:Nat,x=(m:Int):=⟨x.toNat,by omega⟩
   have hs:=h2 k n m hk6 hn (by omega) hx;simp only[cCm]
   by_cases hm:m<128
   .rw[zT hm]at hs ⊢;rw[bH hs];rfl
   .rw[zS hm]at hs ⊢;rw[dA hs];exact ih (k+1) _ (by omega) (bMi hn (Nat.mod_lt _ (by decide)))
theorem bV7{a c:Nat}(hc:c<=35)(h:a * 2 ^ c<=4398046511104):shl .i64 (a:Int) (c:Int)=((a * 2 ^ c:Nat):Int):=by
 unfold shl;have e:min ((c:Int)).toNat IntKind.i64.bits=c:=by simp[IntKind.bits];omega
 rw[e];have e2:(a:Int) * 2 ^ c=((a * 2 ^ c:Nat):Int):=by simp
 rw[e2];exact wri (by omega) (by omega)
theorem bUp{n c k:Nat}(hk:k<6)(hn:n<2 ^ (7 * k))(hc:c<128):bOr .i64 (n:Int) ((c * 2 ^ (7 * k):Nat):Int)=((n+c * 2 ^ (7 * k):Nat):Int):=by
 have hm:=bC2 hk hc;have hp:=bCt hk;have e:(BitVec.ofInt 64 (n:Int) ||| BitVec.ofInt 64 ((c * 2 ^ (7 * k):Nat):Int)).toNat=n+c * 2 ^ (7 * k):=by
  rw[BitVec.toNat_or];have e1:(BitVec.ofInt 64 (n:Int)).toNat=n:=by simp;omega
  have e2:(BitVec.ofInt 64 ((c * 2 ^ (7 * k):Nat):Int)).toNat=c * 2 ^ (7 * k):=by
   generalize c * 2 ^ (7 * k)=q at hm;simp;omega
  rw[e1,e2,Nat.or_comm];have :=Nat.two_pow_add_eq_or_of_lt (i:=7 * k) (b:=n) hn c;rw[Nat.mul_comm c,<- this];omega
 unfold bOr;show IntKind.i64.wrap (((BitVec.ofInt 64 (n:Int) ||| BitVec.ofInt 64 ((c * 2 ^ (7 * k):Nat):Int)).toNat:Nat):Int)=_;rw[e];exact wri (by omega) (by omega)
def rv(b:List Int)(p:Nat):q42:=aOl b p 6 0 0
theorem bMt(k:Nat):(7:Int) * (k:Int)=((7 * k:Nat):Int):=by omega
theorem cB8{b:List Int}{p:Nat}(hb:∀x∈b,0<=x/\x<=255)(hl:b.length<=68719476736)(hp:p<=b.length):rK b (p:Int)=some (rv b p):=by
 unfold rK;have e0:decide ((p:Int)<0)=false:=by simp
 refine bUb b p hb (λk n=>((n:Int),(k:Int))) (λn=>by simp) (λk n hk hx=> ?_) (λk n m hk hn hm hx=> ?_) 6 0 0 rfl (by simp)
 .right;have hw:wr ((b.length:Int) - (k:Int))=(b.length:Int) - (k:Int):=wri (by omega) (by omega);have h1:decide ((p:Int)>=(b.length:Int) - (k:Int))=true:=by
   have :=List.getElem?_eq_none_iff.1 hx;simp;omega
  have h2:decide ((k:Int)<6)=true:=by simp;omega
  simp only[h2,e0,hw,h1,zZ,zY,aA]
 .have h0:=(cCq.1 hx).1;have hw:wr ((b.length:Int) - (k:Int))=(b.length:Int) - (k:Int):=wri (by omega) (by omega);have h1:decide ((p:Int)>=(b.length:Int) - (k:Int))=false:=by simp;omega
  have h2:decide ((k:Int)<6)=true:=by simp;omega
  have hpk:wr ((p:Int)+(k:Int))=((p+k:Nat):Int):=by
   have :wr ((p:Int)+(k:Int))=(p:Int)+(k:Int):=wri (by omega) (by omega);rw[this];omega
  have h3:idx b ((p+k:Nat):Int)=some (m:Int):=by rw[aF];exact hx
  have h4:wr ((7 * k:Nat):Int)=((7 * k:Nat):Int):=wri (by omega) (by omega);have h5:wr (m:Int)=(m:Int):=wri (by omega) (by omega);have h6:decide (((7 * k:Nat):Int)<0)=false:=by simp;omega
  have hq:=bC2 (c:=m % 128) hk (Nat.mod_lt _ (by decide));have h9:wr (((p+k:Nat):Int)+1)=((p+k+1:Nat):Int):=by
   have :wr (((p+k:Nat):Int)+1)=((p+k:Nat):Int)+1:=wri (by omega) (by omega);rw[this];omega
  have ha:wr ((k:Int)+1)=((k+1:Nat):Int):=by
   have :wr ((k:Int)+1)=(k:Int)+1:=wri (by omega) (by omega);rw[this];omega
  simp only[h1,h2,hw,e0,hpk,h3,zZ,zY,aA,bMt,h4,h6,h5,aZs (n:=m) (by omega),bV7 (a:=m % 128) (c:=7 * k) (by omega) hq,bUp (c:=m % 128) hk hn (Nat.mod_lt _ (by decide)),h9,ha];generalize n+m % 128 * 2 ^ (7 * k)=q
  by_cases c1:m<128
  .have e1:decide ((m:Int)<128)=true:=by simp;omega
   have e2:((m:Int)==0)=decide (m=0):=by rw[cC7];simp
   have e3:decide ((k:Int)>0)=decide (0<k):=by rw[cC7];simp
   have e4:decide ((q:Int)>1000000000000)=decide (1000000000000<q):=by rw[cC7];simp;omega
   simp only[e1,e2,e3,e4,zZ,zT c1];cases decide (m=0)<;>cases decide (0<k)<;>cases decide (1000000000000<q)<;>rfl
  .have e1:decide ((m:Int)<128)=false:=by simp;omega
   simp only[e1,zY,zS c1]
theorem bBk{b:List Int}{p:Nat}:∀(f k n:Nat),(aOl b p f k n).2.2=true-> ∃q:Nat,(aOl b p f k n).2.1=(q:Int)/\q<=b.length
 | 0,k,n,h=>by cases h
 | f+1,k,n,h=>by
  unfold aOl at h|-;cases hx:b[p+k]? with
  | none=>rw[hx]at h;cases h
  | some x=>
   rw[hx]at h;have hlt:=(cCq.1 hx).1;simp only at h|-
   by_cases c:x.toNat<128
   .rw[zT c]at h ⊢;split at h
    .cases h
    .rename_i c2;rw[zS c2];exact⟨p+k+1,rfl,hlt⟩
   .rw[zS c]at h ⊢;exact bBk f (k+1) _ h
theorem bRt{b:List Int}{p:Nat}(h:(rv b p).2.2=true):∃q:Nat,(rv b p).2.1=(q:Int)/\q<=b.length:=bBk 6 0 0 h
def aPi(b:List Int):Int×Bool×List Int:=
 cond (rv b 0).2.2 (cond (rv b (rv b 0).2.1.toNat).2.2 (cond (rv b (rv b (rv b 0).2.1.toNat).2.1.toNat).2.2
  ((rv b (rv b (rv b 0).2.1.toNat).2.1.toNat).2.1,true,[(rv b 0).1,(rv b (rv b 0).2.1.toNat).1,(rv b (rv b (rv b 0).2.1.toNat).2.1.toNat).1]) (0,false,[])) (0,false,[])) (0,false,[])
theorem bUc(b:List Int):aPi b=(0,false,[])\/ ∃q x y z,aPi b=(q,true,[x,y,z]):=by
 unfold aPi;cases (rv b 0).2.2
 .exact .inl rfl
 .cases (rv b (rv b 0).2.1.toNat).2.2
  .exact .inl rfl
  .cases (rv b (rv b (rv b 0).2.1.toNat).2.1.toNat).2.2
   .exact .inl rfl
   .exact .inr ⟨_,_,_,_,rfl⟩
theorem bOg{b:List Int}{step:Int×Int×List Int->Option ((Int×Int×List Int)⊕((Int×List Int)⊕(Int×Bool×List Int)))}
  (hs:∀(p:Nat) (i:Nat) (out:List Int),p<=b.length->i<3->out.length<=3->step ((p:Int),(i:Int),out)=some (cond (rv b p).2.2 (.inl ((rv b p).2.1,((i+1:Nat):Int),out++[(rv b p).1])) (.inr (.inr (0,false,[])))))
  (he:∀p out,step (p,3,out)=some (.inr (.inl (p,out)))):
  @Option.bind ((Int×List Int)⊕(Int×Bool×List Int)) (Int×Bool×List Int) (aC step ((0:Int),(0:Int),([]:List Int))) (λz=>Sum.elim (λs8=>some (s8.1,true,s8.2)) some z)=some (aPi b):=by
 have h1:=hs 0 0 [] (cCz _) (by decide) (by decide);unfold aPi;cases c1:(rv b 0).2.2 with
 | false=>rw[c1]at h1;rw[bH (s:=((0:Int),(0:Int),([]:List Int))) h1];rfl
 | true=>
  rw[c1]at h1;obtain⟨q1,e1,l1⟩:=bRt c1;rw[dA (s:=((0:Int),(0:Int),([]:List Int))) h1];rw[e1];simp only[zZ,cCm];have h2:=hs q1 (0+1) ([]++[(rv b 0).1]) l1 (by decide) (by simp);cases c2:(rv b q1).2.2 with
  | false=>rw[c2]at h2;rw[bH h2];rfl
  | true=>
   rw[c2]at h2;obtain⟨q2,e2,l2⟩:=bRt c2;rw[dA h2];rw[e2];simp only[zZ,cCm];have h3:=hs q2 (0+1+1) ([]++[(rv b 0).1]++[(rv b q1).1]) l2 (by decide) (by simp);cases c3:(rv b q2).2.2 with
   | false=>rw[c3]at h3;rw[bH h3];rfl
   | true=>
    rw[c3]at h3;rw[dA h3];rw[bH (s:=((rv b q2).2.1,((0+1+1+1:Nat):Int),[]++[(rv b 0).1]++[(rv b q1).1]++[(rv b q2).1])) (he _ _)];rfl
theorem bWr{b:List Int}(hb:∀x∈b,0<=x/\x<=255)(hl:b.length<=68719476736):rU b 0 3=some (aPi b):=by
 unfold rU;have r1:inR 3 0 100=true:=by decide
 have r2:inR 0 0 (b.length:Int)=true:=by rw[cE];omega
 simp only[eZ,aA,r1,r2,cCd,zY];refine bOg (λp i out hp hi ho=> ?_) (λp out=>by simp);have e1:decide ((i:Int)<3)=true:=by simp;omega
 have e2:wr ((i:Int)+1)=((i+1:Nat):Int):=by
  have :wr ((i:Int)+1)=(i:Int)+1:=wri (by omega) (by omega);rw[this];omega
 simp only[e1,zZ,cB8 hb hl hp,aA,e2,aE (b:=8) (n:=out.length) (m:=1) (by decide) (by omega)];cases (rv b p).2.2<;>rfl
def aDa(b:List Int):Int×q42:=
 match aPi b with
 | (q,true,[x,y,z])=>cond (q==(b.length:Int)) (cond (eW (x,y,z)) (x,y,z,true) (0,0,0,false)) (0,0,0,false)
 | _=>(0,0,0,false)
theorem bX3{b:List Int}(hb:∀x∈b,0<=x/\x<=255)(hl:b.length<=68719476736):iO b=some (aDa b):=by
 unfold iO aDa ixb;rw[bWr hb hl];rcases bUc b with h | ⟨q,x,y,z,h⟩
 .rw[h];rfl
 .rw[h];simp only[aA,cCd,zY,bne,aD5];cases q==(b.length:Int)
  .rfl
  .cases hv:eW (x,y,z)<;>simp[hv]
def aEo(x:den tRv)(l:lRv)(k:Nat)(y:den tRv):Option lRv:=
 cond (y.1==x.1) (cond (y.2.1==x.2.1) (some (l.set k (y.1,y.2.1,if x.2.2>y.2.2 then x.2.2 else y.2.2))) none) none
def aOm(l:lRv)(x:den tRv):lRv:=
 cond (eW x) (match bU (aEo x l) 0 l with
  | some r=>r
  | none=>if 16<l.length+1 then (l++[x]).drop 1 else l++[x]) l
theorem bVe{α:Type}{l:List α}(h:0<l.length):cut l (1:Int) (l.length:Int)=l.drop 1:=aPp (k:=1) h
theorem bPu(l:lRv)(x:den tRv):decide (((l++[x]).length:Int)>16)=decide (16<l.length+1):=by
 rw[cC7];simp;omega
theorem bXk{l:lRv}{x:den tRv}(h:l.length<=1073741824):mB l x=some (aOm l x):=by
 unfold mB aOm ixb pj3;rw[aE (b:=24) (n:=([]:lRv).length) (by decide) (by simp;omega)];simp only[zZ,aA,aN,aD5,cC4];cases hv:eW x with
 | false=>rfl
 | true=>
  simp only[cCd,zY,zZ];rw[aM (l:=l) (aEo x l) (by omega) (λk y hi hd hw hm hk=>by
   have hy:l[k]? =some y:=by rw[<- aF];exact hi
   have hk2:decide (k<l.length)=true:=by simpa using hk
   simp only[hd,zZ,bZ,cCm,hy,aA,bD3,hw,hk2];unfold aEo;cases y.1==x.1
   .rfl
   .cases y.2.1==x.2.1<;>rfl) (by simp)]
  cases bU (aEo x l) 0 l with
  | some r=>rfl
  | none=>
   have e1:bY (1:Int) ((l++[x]).length:Int) ((l++[x]).length:Int)=true:=by
    have :=aCm (a:=1) (b:=(l++[x]).length) (n:=(l++[x]).length);rw[show ((1:Nat):Int)=1 from rfl]at this;rw[this];simp
   have e2:=bVe (l:=l++[x]) (by simp);simp only[aA,cCp,aE (b:=24) (n:=l.length) (m:=1) (by decide) (by omega),zZ,bPu,e1,e2]
   by_cases c:16<l.length+1
   .have c2:(16:Int)<(l.length:Int)+1:=by omega
    simp[c,c2]
   .have c2: ¬ (16:Int)<(l.length:Int)+1:=by omega
    simp[c,c2]
def aLn(s:den aBe)(a:List Int):List Int:=
 (λb=>cond (s.2.2 != 0) (b++[wr (wr (8 * s.1)+s.2.2)]) b) (cond (s.2.1 != 0) (a++[wr (wr (8 * s.1)+s.2.1)]) a)
theorem aO4(s:den aBe)(a:List Int):(aLn s a).length<=a.length+2:=by
 unfold aLn;cases s.2.1 != 0<;>cases s.2.2 != 0<;>simp
def iX(p:den tPt):List Int:=bT (λ_ s a=>aLn s a) 0 (jG p) []
theorem aI3{α:Type}(l:List α):(l.map λ_=>2).sum=2 * l.length:=by
 induction l with
 | nil=>rfl
 | cons x l ih=>simp only[cC1,cDw,ih,cDe];omega
theorem bCz{p:den tPt}(h:tot tPt p<=1073741824):gC p=some (iX p):=by
 have hl:=aE1 p;unfold gC yW iX;rw[aTg (cCc h (by decide))];simp only[aA];rw[fS (λk (a:List Int)=>((k:Int),a)) ((0:Int),[]) [] (jG p) (λ_ s a=>aLn s a) cCv (λ_=>2) 68719476736 id rfl (by omega) (by rw[aI3];simp;omega) (λk x a=>aO4 x a) (λk x a hi hx hd hw hk hb=>by
  simp only[hd,hi,hw,zZ,aA,aE (b:=8) (n:=a.length) (m:=1) (by decide) (by omega)];unfold aLn;cases x.2.1 != 0<;>cases x.2.2 != 0<;>simp[aE (b:=8) (n:=a.length) (m:=1) (by decide) (by omega),aE (b:=8) (n:=a.length+1) (m:=1) (by decide) (by omega)]) (λa=>by simp)]
 rfl
theorem bCk{p:den tPt}(h:tot tPt p<=1073741824):gD p=some (iX p):=by
 have hl:=aE1 p;unfold gD iX ixb;rw[aF2 (cCc h (by decide))];simp only[aA];rw[fS (λk (a:List Int)=>((k:Int),a)) ((0:Int),[]) [] (jG p) (λ_ s a=>aLn s a) cCv (λ_=>2) 68719476736 id rfl (by omega) (by rw[aI3];simp;omega) (λk x a=>aO4 x a) (λk x a hi hx hd hw hk hb=>by
  simp only[hd,hx,hw,zZ,aA,bZ,cCm,aE (b:=8) (n:=a.length) (m:=1) (by decide) (by omega)];unfold aLn;cases x.2.1 != 0<;>cases x.2.2 != 0<;>simp[aE (b:=8) (n:=a.length) (m:=1) (by decide) (by omega),aE (b:=8) (n:=a.length+1) (m:=1) (by decide) (by omega)]) (λa=>by simp)]
 rfl
def xB(l:List Int)(n:Int):Bool:= !(l.all λx=> !(x==n))
theorem bIc{l:List Int}{n:Int}(h:l.length<=68719476736):wZ l n=some (xB l n):=by
 unfold wZ xB;rw[aM (l:=l) (λ_ x=>if !(x==n) then none else some true) (by omega) (λk x hi hd hw hm hk=>by
  simp only[hd,hi,hw,zZ,aA];cases x==n<;>rfl) (by simp),kK (λx:Int=> !(x==n))]
 cases l.all (λx=> !(x==n))<;>rfl
theorem aGa{l:List Int}{n:Int}(h:l.length<=68719476736):fJ l n=some (xB l n):=by
 unfold fJ xB;rw[aM (l:=l) (λ_ x=>if !(x==n) then none else some true) (by omega) (λk x hi hd hw hm hk=>by
  simp only[hd,hi,hw,zZ,aA];cases x==n<;>rfl) (by simp),kK (λx:Int=> !(x==n))]
 cases l.all (λx=> !(x==n))<;>rfl
theorem aHd(p:den tPt):(iX p).length<=2 * tot tPt p:=by
 have h:=aBq (f:=λ_ s (a:List Int)=>aLn s a) (m:=cCv) (cost:=λ_=>2) (λk x a=>aO4 x a) (jG p) 0 [];have hl:=aE1 p;rw[aI3]at h;unfold iX;simp at h;omega
def pO(p:den tPt)(x:den tRv):Bool:=eW x&&xB (iX p) (wr (wr (8 * x.1)+x.2.1))
theorem bJc{p:den tPt}{x:den tRv}(h:tot tPt p<=1073741824):xX p x=some (pO p x):=by
 have :=aHd p;unfold xX pO pj3;simp only[aN,aOt,aA,bCz h,bIc (l:=iX p) (by omega)];cases eW x<;>rfl
theorem aUq{p:den tPt}{x:den tRv}(h:tot tPt p<=1073741824):rJ p x=some (pO p x):=by
 have :=aHd p;unfold rJ pO pj3;simp only[aN,aD5,aA,bCk h,aGa (l:=iX p) (by omega)];cases eW x<;>rfl
theorem aMq{α R:Type}(m:R->Nat)(B:Nat){g:Nat->α->Option R}:∀{l:List α} {k:Nat},(∀j x r,l[j]? =some x->g (k+j) x=some r->m r<=B)-> ∀r,bU g k l=some r->m r<=B
 | [],_,_,r,h=>by cases h
 | x::xs,k,hg,r,h=>by
  simp only[bU]at h;cases hx:g k x with
  | some r'=>rw[hx]at h;injection h with h;subst h;exact hg 0 x r' rfl hx
  | none=>
   rw[hx]at h;exact aMq m B (λj y r hy hr=>hg (j+1) y r (by simpa using hy) (by rw[show k+(j+1)=k+1+j by omega];exact hr)) r h
theorem bJb(l:lRv):tot (.sl tRv) l=l.length:=by
 induction l with
 | nil=>rfl
 | cons x l ih=>rw[hH,ih];simp[tot];omega
theorem bN3(l:lRv)(x:den tRv):tot (.sl tRv) (aOm l x)<=l.length+1:=by
 rw[bJb];unfold aOm;cases eW x with
 | false=>simp
 | true=>
  simp only[zZ];cases hs:bU (aEo x l) 0 l with
  | some r=>
   refine aMq cCv (l.length+1) (g:=aEo x l) (l:=l) (k:=0) (λj y r' hy hr=> ?_) r hs;unfold aEo at hr;cases c1:y.1==x.1 with
   | false=>rw[c1]at hr;cases hr
   | true=>
    cases c2:y.2.1==x.2.1 with
    | false=>rw[c1,c2]at hr;cases hr
    | true=>rw[c1,c2]at hr;injection hr with hr;rw[<- hr];simp
  | none=>
   by_cases c:16<l.length+1
   .simp[c]
   .simp[c]
def bAc(f:den tFl)(x:den tRv):Bool:=inR f.2.2.2.2.2.2.1 0 ((f.2.2.2.2.2.1.length:Int) - 1)&&pO ((f.2.2.2.2.2.1[f.2.2.2.2.2.2.1.toNat]?).getD []) x
def aEj(b:List Int):den tRv:=((aDa b).1,(aDa b).2.1,(aDa b).2.2.1)
def aCc(f:den tFl)(p:den tPk):den tFl:=
 cond (p.1==3&&(aDa p.2.2.2.2.2.2.2.2.2).2.2.2)
  (f.1,f.2.1,f.2.2.1,f.2.2.2.1,f.2.2.2.2.1,f.2.2.2.2.2.1,cond (bAc f (aEj p.2.2.2.2.2.2.2.2.2)) (aDp f) f.2.2.2.2.2.2.1,cond (bAc f (aEj p.2.2.2.2.2.2.2.2.2)) 0 f.2.2.2.2.2.2.2.1,aOm f.2.2.2.2.2.2.2.2 (aEj p.2.2.2.2.2.2.2.2.2)) f
def bZk(f:den tFl):q34:=(f.1,f.2.1,f.2.2.1,f.2.2.2.1,f.2.2.2.2.2.2.1,f.2.2.2.2.2.2.2.1,f.2.2.2.2.2.2.2.2,f.2.2.2.2.1,f.2.2.2.2.2.1)
theorem bUm{f:den tFl}(h:tot tFl f<=1073741824)(hr:inR f.2.2.2.2.2.2.1 0 ((f.2.2.2.2.2.1.length:Int) - 1)=true):∃q,f.2.2.2.2.2.1[f.2.2.2.2.2.2.1.toNat]? =some q/\idx f.2.2.2.2.2.1 f.2.2.2.2.2.2.1=some q/\tot tPt q<=1073741824:=by
 obtain⟨h0,h1⟩:=cE.1 hr;obtain⟨q,hq⟩:=aCj h0 h1;have ht:=zP (t:=tPt) hq;have hp:tot (.sl tPt) f.2.2.2.2.2.1<=1073741824:=aPx (cG (cG (cG (cG (cG h)))));exact⟨q,hq,aL0 h0 hq,by omega⟩
theorem bUy{f:den tFl}{p:den tPk}{now:Int}(h:tot tFl f<=1073741824)(hp:tot tPk p<=1073741824)(hb:∀x∈p.2.2.2.2.2.2.2.2.2,0<=x/\x<=255):iS f p now=some (bZk (aCc f p)):=by
 have hf:SmB 68719476736 tFl f:=(bB h).mono (by decide);have hl:p.2.2.2.2.2.2.2.2.2.length<=68719476736:=cCc (eF (t:=tb) _) (cCc (cG (cG (cG (cG (cG (cG (cG (cG (cG hp))))))))) (by decide));have hv:f.2.2.2.2.2.2.2.2.length<=1073741824:=cCc (eF (t:=tRv) _) (cG (cG (cG (cG (cG (cG (cG (cG h))))))));have hn:f.2.2.2.2.2.1.length<=68719476736:=hf.2.2.2.2.2.1.1;unfold iS aCc pj3 pj9 zz4 zz5 zz6 zz7 zz8 zz9;simp only[aN,aD0 hf,aA,bX3 hb hl,eZ,uH hn,bXk hv,bne];cases c1:p.1==3
 .simp only[cCh,zZ,aA,cCj,zY];rfl
 .cases c2:(aDa p.2.2.2.2.2.2.2.2.2).2.2.2
  .simp only[cCd,cCh,zZ,zY,aA,cCi];rfl
  .simp only[cCd,zZ,zY,aA,cCi];unfold bAc;cases c3:inR f.2.2.2.2.2.2.1 0 ((f.2.2.2.2.2.1.length:Int) - 1)
   .simp only[zY,aA,cCj];rfl
   .obtain⟨q,hq,hi,ht⟩:=bUm h c3;have ha:=aUq (p:=q) (x:=aEj p.2.2.2.2.2.2.2.2.2) ht;have ha:rJ q ((aDa p.2.2.2.2.2.2.2.2.2).1,(aDa p.2.2.2.2.2.2.2.2.2).2.1,(aDa p.2.2.2.2.2.2.2.2.2).2.2.1)=some (pO q (aEj p.2.2.2.2.2.2.2.2.2)):=ha;simp only[zZ,hi,hq,cDc,aA,ha,cCi,bI6 hf c3];cases pO q (aEj p.2.2.2.2.2.2.2.2.2)<;>rfl
theorem bIz(f:den tFl)(p:den tPk):tot tFl (aCc f p)<=tot tFl f+1:=by
 unfold aCc;cases (p.1==3&&(aDa p.2.2.2.2.2.2.2.2.2).2.2.2)
 .simp
 .have h1:=bN3 f.2.2.2.2.2.2.2.2 (aEj p.2.2.2.2.2.2.2.2.2);have h2:=bJb f.2.2.2.2.2.2.2.2;simp only[zZ,sI,vD];omega
def oG(h:den bP):Bool:=inR h.1 0 7&&(inR h.2.1 0 6&&(inR h.2.2.1 0 6&&(!(h.2.1==h.2.2.1)&&(inR h.2.2.2.1 0 1000000&&mC h.2.2.2.2))))
theorem aXc(h:den bP):qN h=some (oG h):=by
 unfold qN oG zz4;simp only[rE,aNl,aA,bne];cases inR h.1 0 7<;>cases inR h.2.1 0 6<;>cases inR h.2.2.1 0 6<;>cases h.2.1==h.2.2.1<;>cases inR h.2.2.2.1 0 1000000<;>rfl
theorem aJm(h:den bP):kF h=some (oG h):=by
 unfold kF oG zz4;simp only[eZ,aD1,aA,bne];cases inR h.1 0 7<;>cases inR h.2.1 0 6<;>cases inR h.2.2.1 0 6<;>cases h.2.1==h.2.2.1<;>cases inR h.2.2.2.1 0 1000000<;>rfl
theorem bK4(n k:Nat):decide ((n:Int)>(k:Int))= !decide (n<=k):=by rw[cC7];simp
def aR2(l:bQ):Bool:=decide (l.length<=8)&&l.all oG
def aHh(p:den tPp):Bool:=inR p.1 1 4&&(inR p.2.1 0 1000000&&(mC p.2.2.1&&aR2 p.2.2.2))
theorem bXu{p:den tSg}(h:p.2.2.length<=68719476736):tG p=some (inR p.1 0 1000000&&(mC p.2.1&&aR2 p.2.2)):=by
 unfold tG aR2 pj5;rw[aM (l:=p.2.2) (λ_ x=>if oG x then none else some false) (by omega) (λk x hi hd hw hm hk=>by
  simp only[hd,hi,hw,zZ,aA,aN,aJm];cases oG x<;>rfl) (by simp),kK oG]
 have e:=bK4 p.2.2.length 8;rw[show ((8:Nat):Int)=8 from rfl]at e;rw[e,eZ,aD1];cases inR p.1 0 1000000<;>cases mC p.2.1<;>cases decide (p.2.2.length<=8)<;>cases p.2.2.all oG<;>rfl
def aT6(p:den tPt):Bool:=decide (p.length<=3)&&p.all aHh
theorem bXy{p:den tPt}(h:SmB 68719476736 tPt p):mD p=some (aT6 p):=by
 unfold mD aT6 pj3;rw[aM (l:=p) (λ_ x=>if aHh x then none else some false) (cCc h.1 (by decide)) (λk x hi hd hw hm hk=>by
  have hx:=(h.2 x hm).2.2.2.1;have hs:=bXu (p:=(x.2.1,x.2.2.1,x.2.2.2)) hx;simp only[hd,hi,hw,zZ,aA,aN,eZ];simp only[aN]at hs;simp only[hs,aA];unfold aHh;cases inR x.1 1 4<;>cases inR x.2.1 0 1000000<;>cases mC x.2.2.1<;>cases aR2 x.2.2.2<;>rfl) (by simp),kK aHh]
 have e:=bK4 p.length 3;rw[show ((3:Nat):Int)=3 from rfl]at e;rw[e];cases decide (p.length<=3)<;>cases p.all aHh<;>rfl
def aY0(x:den tPp):Bool:= !((x.2.2.2.length:Int)==0)
def kE(p:den tPk):Bool:=inR p.1 1 3&&(aT6 p.2.2.2.1&&(dQ p&&(mC p.2.2.2.2.2.2.1&&(p.2.2.2.1.all aY0&&(inR p.2.1 0 7&&(inR p.2.2.1 0 7&&(inR p.2.2.2.2.2.2.2.1 0 100000&&(inR p.2.2.2.2.2.2.2.2.1 0 100000&&decide ((p.2.2.2.2.2.2.2.2.2.length:Int)<=40)))))))))
theorem aYk{p:den tPk}(h:SmB 68719476736 tPk p):jD p=some (kE p):=by
 have l1:=h.2.2.2.1.1;unfold jD kE zz4 zz5 zz6 zz7 zz8 zz9;rw[aM (l:=p.2.2.2.1) (λ_ x=>if aY0 x then none else some false) (cCc h.2.2.2.1.1 (by decide)) (λk x hi hd hw hm hk=>by
  simp only[hd,hi,hw,zZ,aA];unfold aY0;cases (x.2.2.2.length:Int)==0<;>rfl) (by simp),kK aY0]
 simp only[eZ,uH l1,bXy h.2.2.2.1,aD1,aA];unfold dQ;cases inR p.1 1 3
 .rfl
 .cases he:aT6 p.2.2.2.1
  .rfl
  .cases c1:inR p.2.2.2.2.1 0 ((p.2.2.2.1.length:Int) - 1)
   .rfl
   .rw[cE]at c1;obtain⟨x,hx⟩:=aCj c1.1 c1.2;have l2:=(h.2.2.2.1.2 _ (cCt hx)).2.2.2.1;rw[aL0 c1.1 hx,hx];simp only[cCd,zY,aA,cDc,uH l2,cCi];cases mC p.2.2.2.2.2.2.1<;>cases inR p.2.2.2.2.2.1 0 ((x.2.2.2.length:Int) - 1)<;>cases p.2.2.2.1.all aY0<;>cases inR p.2.1 0 7<;>cases inR p.2.2.1 0 7<;>cases inR p.2.2.2.2.2.2.2.1 0 100000<;>cases inR p.2.2.2.2.2.2.2.2.1 0 100000<;>rfl
def aBu(a b:Int)(f:den tFl):Bool:=(f.1==a&&f.2.1==b)||(f.1==b&&f.2.1==a)
def vC(e:den iI):den tPk:=e.2.2.2.2.2
noncomputable def harm(w:den tNw)(e:den iI):Bool:=
 cond (!(e.1==7)||(!kE (vC e)||(vC e).1==3)) true (cond (w.2.2.2.2.2.1.all λx=> !qY x.2.2 (vC e)) (w.2.2.2.2.2.2.1.all λf=> !aBu (vC e).2.1 (vC e).2.2.1 f) true)
theorem bKy{w:den tNw}{a b:Int}(hw:SmB 68719476736 tNw w):pF w a b=some (!(w.2.2.2.2.2.2.1.all λf=> !aBu a b f)):=by
 unfold pF zz6;rw[aM (l:=w.2.2.2.2.2.2.1) (λ_ f=>if !aBu a b f then none else some true) (cCc hw.2.2.2.2.2.2.1.1 (by decide)) (λk x hi hd hw hm hk=>by
  simp only[hd,hi,hw,zZ,aA];unfold aBu;cases x.1==a<;>cases x.2.1==b<;>cases x.1==b<;>cases x.2.1==a<;>rfl) (by simp),kK (λf:den tFl=> !aBu a b f)]
 cases w.2.2.2.2.2.2.1.all (λf=> !aBu a b f)<;>rfl
theorem bXd{w:den tNw}{e:den iI}(hw:SmB 68719476736 tNw w)(he:SmB 68719476736 iI e):qQ w e=some (harm w e):=by
 have hp:SmB 68719476736 tPk (vC e):=he.2.2.2.2.2;unfold qQ harm bM lN zz5 zz6 zz7;rw[aM (l:=w.2.2.2.2.2.1) (λ_ x=>if !qY x.2.2 (vC e) then none else some true) (cCc hw.2.2.2.2.2.1.1 (by decide)) (λk x hi hd hw2 hm hk=>by
  have hs:lU x.2.2 e.2.2.2.2.2=some (qY x.2.2 (vC e)):=bVq (hw.2.2.2.2.2.1.2 x hm).2.2 hp;simp only[hd,hi,hw2,zZ,aA,aN,hs];cases qY x.2.2 (vC e)<;>rfl) (by simp),kK (λx:den tFy=> !qY x.2.2 (vC e))]
 have hv:jD e.2.2.2.2.2=some (kE (vC e)):=aYk hp;have hf:pF w e.2.2.2.2.2.2.1 e.2.2.2.2.2.2.2.1=some (!(w.2.2.2.2.2.2.1.all λf=> !aBu (vC e).2.1 (vC e).2.2.1 f)):=bKy hw;simp only[aN,hv,hf,aA,bne];show @Option.bind Bool Bool (cond (!(e.1==7)) (some true) (cond (!kE (vC e)) (some true) (cond ((vC e).1==3) (some true) _))) _=_;cases e.1==7
 .rfl
 .cases kE (vC e)
  .rfl
  .cases (vC e).1==3
   .cases w.2.2.2.2.2.1.all (λx=> !qY x.2.2 (vC e))<;>cases w.2.2.2.2.2.2.1.all (λf=> !aBu (vC e).2.1 (vC e).2.2.1 f)<;>rfl
   .rfl
abbrev aGy(l:lRs)(now:Int):lRs:=l.filter λx=>decide (now<=x.2.2.2.2)
theorem bM3{l:lRs}{now:Int}(h:l.length<=1073741824):fT l now=some (aGy l now):=by
 unfold fT pj5 zz4;rw[(aMv (l:=l) (out:=λa=>a) (λ(a:lRs) x=>if decide (now<=x.2.2.2.2) then a++[x] else a) (λk a=>a.length<=k) (by omega) (by simp) (λk x a hi hd hw hx hk hI=>by
  simp only[hd,hi,hw,zZ,aA]
  by_cases hp:now<=x.2.2.2.2
  .simp[hp,aE (b:=40) (n:=a.length) (m:=1) (by decide) (by omega)];omega
  .simp[hp];omega) (λa=>by simp)).1]
 simp only[aGg,cC4,aA]
def atR(x:den tRs)(s d:Int):Bool:=x.2.1==s&&x.2.2.1==d
theorem bOq(x:den tRs)(s d:Int):eB x s d=some (atR x s d):=by
 unfold eB atR;cases x.2.1==s<;>simp
theorem bY8(x:den tRs)(s d now:Int):zJ x s d now=some (atR x s d&&decide (now<=x.2.2.2.2)):=by
 unfold zJ atR zz4;cases x.2.1==s<;>cases x.2.2.1==d<;>simp
def rate(l:lRs)(s d now:Int):Int:=l.foldl (λa x=>if atR x s d&&decide (now<=x.2.2.2.2) then wr (a+x.2.2.2.1) else a) 0
theorem bK0{l:lRs}{s d now:Int}(h:l.length<=1073741824):jL l s d now=some (rate l s d now):=by
 unfold jL pj5 zz4;rw[(aQl (l:=l) (out:=λa=>a) (λ(a:Int) x=>if atR x s d&&decide (now<=x.2.2.2.2) then wr (a+x.2.2.2.1) else a) (λ_ _=>True) (by omega) trivial (λk x a hi hd hw hx hk hI=>by
  refine⟨?_,trivial⟩;simp only[hd,hi,hw,zZ,aA];rw[show ((x.1,x.2.1,x.2.2.1,x.2.2.2.1,x.2.2.2.2):den tRs)=x from rfl,bOq];cases atR x s d<;>cases decide (now<=x.2.2.2.2)<;>rfl) (λa=>by simp)).1]
 rfl
theorem aW3{l:lRs}{s d now:Int}(h:l.length<=1073741824):fF l s d now=some (rate l s d now):=by
 unfold fF pj5;rw[(aQl (l:=l) (out:=λa=>a) (λ(a:Int) x=>if atR x s d&&decide (now<=x.2.2.2.2) then wr (a+x.2.2.2.1) else a) (λ_ _=>True) (by omega) trivial (λk x a hi hd hw hx hk hI=>by
  refine⟨?_,trivial⟩;simp only[hd,hi,hw,zZ,aA];rw[show ((x.1,x.2.1,x.2.2.1,x.2.2.2.1,x.2.2.2.2):den tRs)=x from rfl,bY8];cases atR x s d<;>cases decide (now<=x.2.2.2.2)<;>rfl) (λa=>by simp)).1]
 rfl
def free(l:lRs)(cap s d now:Int):Int:=if wr (cap - rate l s d now)>0 then wr (cap - rate l s d now) else 0
theorem bWp{l:lRs}{cap s d now:Int}(h:l.length<=1073741824):vW l cap s d now=some (free l cap s d now):=by
 unfold vW;simp only[bK0 h,aA,cA0];rfl
theorem bMh{l:lRs}{cap s d now:Int}(h:l.length<=1073741824):qK l cap s d now=some (free l cap s d now):=by
 unfold qK;simp only[aW3 h,aA,bD3];rfl
def aBp(l:lRs)(id s d now:Int):Int:=
 match bU (λ_ (x:den tRs)=>if x.1==id&&(atR x s d&&decide (now<=x.2.2.2.2)) then some x.2.2.2.1 else none) 0 l with
 | some r=>r
 | none=>0
theorem bJo{l:lRs}{id s d now:Int}(h:l.length<=1073741824):jP l id s d now=some (aBp l id s d now):=by
 unfold jP pj5 zz4;rw[aM (l:=l) (λ_ (x:den tRs)=>if x.1==id&&(atR x s d&&decide (now<=x.2.2.2.2)) then some x.2.2.2.1 else none) (by omega) (λk x hi hd hw hx hk=>by
  simp only[hd,hi,hw,zZ,aA];rw[show ((x.1,x.2.1,x.2.2.1,x.2.2.2.1,x.2.2.2.2):den tRs)=x from rfl,bOq];cases x.1==id<;>cases atR x s d<;>cases decide (now<=x.2.2.2.2)<;>rfl) (by simp)]
 unfold aBp;cases bU (λ_ (x:den tRs)=>if x.1==id&&(atR x s d&&decide (now<=x.2.2.2.2)) then some x.2.2.2.1 else none) 0 l<;>rfl
theorem aVe{l:lRs}{id s d now:Int}(h:l.length<=1073741824):fC l id s d now=some (aBp l id s d now):=by
 unfold fC pj5;rw[aM (l:=l) (λ_ (x:den tRs)=>if x.1==id&&(atR x s d&&decide (now<=x.2.2.2.2)) then some x.2.2.2.1 else none) (by omega) (λk x hi hd hw hx hk=>by
  simp only[hd,hi,hw,zZ,aA];rw[show ((x.1,x.2.1,x.2.2.1,x.2.2.2.1,x.2.2.2.2):den tRs)=x from rfl,bY8];cases x.1==id<;>cases atR x s d<;>cases decide (now<=x.2.2.2.2)<;>rfl) (by simp)]
 unfold aBp;cases bU (λ_ (x:den tRs)=>if x.1==id&&(atR x s d&&decide (now<=x.2.2.2.2)) then some x.2.2.2.1 else none) 0 l<;>rfl
def uJ(x:den tRs):Bool:=inR x.1 1 100000&&(inR x.2.2.2.1 1 20&&eW (x.2.1,x.2.2.1,x.2.2.2.2))
theorem bOw(x:den tRs):iM x=some (uJ x):=by
 unfold iM uJ zz4;simp only[rE,aOt,aA];cases inR x.1 1 100000<;>cases inR x.2.2.2.1 1 20<;>cases eW (x.2.1,x.2.2.1,x.2.2.2.2)<;>rfl
theorem aX7(x:den tRs):eO x=some (uJ x):=by
 unfold eO uJ zz4;simp only[eZ,aD5,aA];cases inR x.1 1 100000<;>cases inR x.2.2.2.1 1 20<;>cases eW (x.2.1,x.2.2.1,x.2.2.2.2)<;>rfl
def gP(x y:den tRs):Bool:=y.1==x.1&&atR y x.2.1 x.2.2.1
theorem aUo{l:lRs}{x:den tRs}(h:l.length<=1073741824):mH l x=some (l.filter λy=> !gP x y):=by
 unfold mH pj5;rw[(aMv (l:=l) (out:=λa=>a) (λ(a:lRs) y=>if !gP x y then a++[y] else a) (λk a=>a.length<=k) (by omega) (by simp) (λk y a hi hd hw hx hk hI=>by
  simp only[hd,hi,hw,zZ,aA];have hap:=aE (b:=40) (n:=a.length) (m:=1) (by decide) (by omega);unfold gP atR;simp only[bne];cases h1:y.1==x.1<;>cases h2:y.2.1==x.2.1<;>cases h3:y.2.2.1==x.2.2.1<;>simp[hap]<;>omega) (λa=>by simp)).1]
 simp only[aGg,cC4,aA]
def okR(l:lRs)(cap now:Int)(k:Nat)(x:den tRs):Bool:=uJ x&&(!decide (rate l x.2.1 x.2.2.1 now>cap)&& !(l.take k).any (gP x))
def xU(l:lRs)(cap now:Int):Bool:=
 decide (l.length<=40)&&(bU (λk x=>if okR l cap now k x then none else some ()) 0 l).isNone
theorem yI{α R S:Type}(p:Nat->α->Bool)(r:R)(s:S):∀(l:List α) (k:Nat),(bU (λk x=>if p k x then none else some r) k l).isNone=(bU (λk x=>if p k x then none else some s) k l).isNone/\ ∀q,bU (λk x=>if p k x then none else some r) k l=some q->q=r
 | [],_=>⟨rfl,λq h=>by cases h⟩
 | x::xs,k=>by
  simp only[bU];cases p k x with
  | true=>simpa using yI p r s xs (k+1)
  | false=>simp
theorem bDw{α:Type}(p:Nat->α->Bool)(l:List α):(match bU (λk x=>if p k x then none else some false) 0 l with
  | some r=>some r
  | none=>some true)=some (bU (λk x=>if p k x then none else some ()) 0 l).isNone:=by
 obtain⟨h1,h2⟩:=yI p false () l 0;rw[<- h1];cases h:bU (λk x=>if p k x then none else some false) 0 l with
 | none=>rfl
 | some q=>rw[h2 q h];rfl
theorem bH1{l:lRs}{cap now:Int}(h:l.length<=1073741824):gN l cap now=some (xU l cap now):=by
 unfold gN xU pj5
 by_cases hl:l.length<=40
 .rw[zW (by omega),zY,zX hl,cCi];rw[aM (l:=l) (λk x=>if okR l cap now k x then none else some false) (by omega) (λk x hi hd hw hx hk=>by
   have hslo:bY (0:Int) (k:Int) (l.length:Int)=true:=by simp[bY];omega
   have hlen:(l.take k).length<=1073741824:=by simp;omega
   simp only[hd,hi,hw,zZ,aA,hslo,hO];rw[show ((x.1,x.2.1,x.2.2.1,x.2.2.2.1,x.2.2.2.2):den tRs)=x from rfl,bOw,bK0 h];unfold okR;cases hv:uJ x with
   | false=>rfl
   | true=>
    cases hr:decide (rate l x.2.1 x.2.2.1 now>cap) with
    | true=>simp[hr]
    | false=>
     simp only[aA,cCd,zY,hr,cCh,cCi];rw[aM (l:=l.take k) (R:=Int⊕(Unit⊕Bool)) (λ_ y=>if gP x y then some (cCa (cCa false)) else none) (by omega) (λj y hi2 hd2 hw2 hx2 hk2=>by
      simp only[hd2,hi2,hw2,zZ,aA];rw[show ((y.1,y.2.1,y.2.2.1,y.2.2.2.1,y.2.2.2.2):den tRs)=y from rfl,bOq];unfold gP;cases y.1==x.1<;>cases atR y x.2.1 x.2.2.1<;>rfl) (by simp)]
     have key:∀(m:lRs) (j:Nat),bU (λ_ y=>if gP x y then some (cCa (cCa false):Int⊕(Unit⊕Bool)) else none) j m=if m.any (gP x) then some (cCa (cCa false)) else none:=by
      intro m
      induction m with
      | nil=>intro j;rfl
      | cons y m ih=>
       intro j;simp only[bU,List.any_cons];rcases cE2 (gP x y) with hs | hs
       .simp[hs]
       .simp only[hs,ih,cCs,zU];rfl
     rw[key];cases (l.take k).any (gP x)<;>simp) (by simp)]
  rw[<- bDw];cases bU (λk x=>if okR l cap now k x then none else some false) 0 l<;>rfl
 .rw[zX (by omega),zZ,zW hl];rfl
theorem bJx{l:lRs}{cap now:Int}(h:l.length<=1073741824):gK l cap now=some (xU l cap now):=by
 unfold gK xU pj5;rw[aM (l:=l) (λk x=>if okR l cap now k x then none else some false) (by omega) (λk x hi hd hw hx hk=>by
  have hslo:bY (0:Int) (k:Int) (l.length:Int)=true:=by simp[bY];omega
  have hlen:(l.take k).length<=1073741824:=by simp;omega
  simp only[hd,hi,hw,zZ,aA,hslo,hO];rw[show ((x.1,x.2.1,x.2.2.1,x.2.2.2.1,x.2.2.2.2):den tRs)=x from rfl,aX7,aUo hlen,aW3 h];unfold okR;cases hv:uJ x with
  | false=>rfl
  | true=>
   simp only[aA,cCd,zY,cCi];have hany:((((l.take k).filter λy=> !gP x y).length:Int) != (k:Int))=(l.take k).any (gP x):=by
    have hk':(l.take k).length=k:=by simp;omega
    cases ha:(l.take k).any (gP x) with
    | false=>
     have :(l.take k).filter (λy=> !gP x y)=l.take k:=by
      rw[List.filter_eq_self];intro y hy;have :=List.any_eq_false.1 ha y hy;simpa using this
     rw[this,hk'];simp
    | true=>
     obtain⟨y,hy,hs⟩:=List.any_eq_true.1 ha;have hlt:((l.take k).filter λy=> !gP x y).length<(l.take k).length:=by
      refine Nat.lt_of_le_of_ne (cEc ..) λhe=> ?_
      have :=(List.length_filter_eq_length_iff.1 he) y hy;rw[hs]at this;cases this
     rw[bne_iff_ne];omega
   rw[hany];cases (l.take k).any (gP x)<;>cases decide (rate l x.2.1 x.2.2.1 now>cap)<;>rfl) (by simp)]
 obtain⟨h1,h2⟩:=yI (okR l cap now) false () l 0;rw[<- h1];cases hsc:bU (λk x=>if okR l cap now k x then none else some false) 0 l with
 | none=>simp;omega
 | some q=>rw[h2 q hsc];simp
def kB(id s d:Int)(x:den tUs):Bool:=x.1==id&&(x.2.1==s&&x.2.2.1==d)
def place(l:lUs)(id s d:Int):Int:=
 match bU (λk x=>if kB id s d x then some (k:Int) else none) 0 l with
 | some i=>i
 | none=> -1
theorem aYu(l:lUs)(id s d:Int):place l id s d= -1\/ ∃(j:Nat) (x:den tUs),place l id s d=(j:Int)/\l[j]? =some x/\j<l.length:=by
 unfold place;cases h:bU (λk x=>if kB id s d x then some (k:Int) else none) 0 l with
 | none=>exact .inl rfl
 | some i=>
  obtain⟨j,x,h1,h2,h3⟩:=aKm h;exact .inr ⟨j,x,by simpa using h2,h1,(cCq.1 h1).1⟩
theorem bVr{g:den tSc}{id s d:Int}(h:g.2.2.length<=1073741824):yB g id s d=some (place g.2.2 id s d):=by
 unfold yB;rw[aM (l:=g.2.2) (λk x=>if kB id s d x then some (k:Int) else none) (by omega) (λk x hi hd hw hx hk=>by
  simp only[hd,hi,hw,zZ,aA];unfold kB;cases x.1==id<;>cases x.2.1==s<;>cases x.2.2.1==d<;>rfl) (by simp)]
 unfold place;cases bU (λk x=>if kB id s d x then some (k:Int) else none) 0 g.2.2<;>rfl
theorem aSy{l:lUs}{id s d:Int}(h:l.length<=1073741824):mW l id s d=some (place l id s d):=by
 unfold mW;rw[aM (l:=l) (λk x=>if kB id s d x then some (k:Int) else none) (by omega) (λk x hi hd hw hx hk=>by
  simp only[hd,hi,hw,zZ,aA];unfold kB;cases x.1==id<;>cases x.2.1==s<;>cases x.2.2.1==d<;>rfl) (by simp)]
 unfold place;cases bU (λk x=>if kB id s d x then some (k:Int) else none) 0 l<;>rfl
def tF(g:den tSc)(id s d now:Int):Int:=if id==0 then free g.2.1 g.1 s d now else aBp g.2.1 id s d now
theorem bVu{g:den tSc}{id s d now:Int}(h:g.2.1.length<=1073741824):aBc g id s d now=some (tF g id s d now):=by
 unfold aBc tF;rw[bWp h,bJo h];cases id==0<;>rfl
def okU(g:den tSc)(now:Int)(k:Nat)(x:den tUs):Bool:=place g.2.2 x.1 x.2.1 x.2.2.1==(k:Int)&&inR x.2.2.2 1 (tF g x.1 x.2.1 x.2.2.1 now)
def xG(g:den tSc)(now:Int):Bool:=inR g.1 1 20&&(xU g.2.1 g.1 now&&(bU (λk x=>if okU g now k x then none else some ()) 0 g.2.2).isNone)
theorem bPk{g:den tSc}{now:Int}(h1:g.2.1.length<=1073741824)(h2:g.2.2.length<=1073741824):kR g now=some (xG g now):=by
 unfold kR xG pj3;rw[aM (l:=g.2.2) (λk x=>if okU g now k x then none else some false) (by omega) (λk x hi hd hw hx hk=>by
  simp only[hd,hi,hw,zZ,aA];rw[show ((g.1,g.2.1,g.2.2):den tSc)=g from rfl,bVr h2,bVu h1];unfold okU;simp only[aA,rE,bne];cases place g.2.2 x.1 x.2.1 x.2.2.1==(k:Int)<;>cases inR x.2.2.2 1 (tF g x.1 x.2.1 x.2.2.1 now)<;>rfl) (by simp)]
 rw[<- yI (okU g now) false () g.2.2 0 |>.1];have h3:=(yI (okU g now) false () g.2.2 0).2;simp only[rE,bH1 h1,aA];cases inR g.1 1 20<;>cases xU g.2.1 g.1 now<;>(cases hsc:bU (λk x=>if okU g now k x then none else some false) 0 g.2.2 with
  | none=>rfl
  | some q=>rw[h3 q hsc];rfl)
theorem bNw{g:den tSc}{now:Int}(h1:g.2.1.length<=1073741824)(h2:g.2.2.length<=1073741824):kY g now=some (xG g now):=by
 unfold kY xG;rw[aM (l:=g.2.2) (λk x=>if okU g now k x then none else some false) (by omega) (λk x hi hd hw hx hk=>by
  simp only[hd,hi,hw,zZ,aA,aSy h2,bMh h1,aVe h1,eZ];unfold okU tF;simp only[bne];cases x.1==0<;>simp only[zZ,zY,aA,eZ,zV,cCs,zU]<;>cases place g.2.2 x.1 x.2.1 x.2.2.1==(k:Int)<;>simp only[cCd,cCh,zZ,zY,aA,cCi,cCj]<;>(first | rfl | (split<;>simp_all))) (by simp)]
 rw[<- yI (okU g now) false () g.2.2 0 |>.1];have h3:=(yI (okU g now) false () g.2.2 0).2;simp only[eZ,bJx h1,aA];cases inR g.1 1 20<;>cases xU g.2.1 g.1 now<;>(cases hsc:bU (λk x=>if okU g now k x then none else some false) 0 g.2.2 with
  | none=>rfl
  | some q=>rw[h3 q hsc];rfl)
theorem pI{n:Nat}(h:n<=68719476736):wr ((n:Int) - 1)=(n:Int) - 1:=wri (by omega) (by omega)
def cD(t:den tTo)(r:Int):Bool:=inR r 0 ((t.1.length:Int) - 1)
theorem aDb{t:den tTo}{r:Int}(h:t.1.length<=68719476736):jB t r=some (cD t r):=by
 unfold jB cD;rw[pI h,rE];rfl
theorem aBy{t:den tTo}{r:Int}(h:t.1.length<=68719476736):cY t r=some (cD t r):=by
 unfold cY cD;rw[pI h,eZ];rfl
theorem cAu(n:Int):vJ n=some (inR n 1 2147483646):=by unfold vJ;rw[rE];rfl
theorem cAp(n:Int):wD n=some (inR n 1 2147483646):=by unfold wD;rw[eZ];rfl
def dB(l:den tLk)(r d:Int):Bool:=(l.1==r&&l.2.1==d)||(l.2.2.1==r&&l.2.2.2.1==d)
theorem bBr(l:den tLk)(r d:Int):fU l r d=some (dB l r d):=by
 unfold fU dB;cases l.1==r<;>cases l.2.1==d<;>cases l.2.2.1==r<;>cases l.2.2.2.1==d<;>rfl
theorem bCo(l:den tLk)(r d:Int):uR l r d=some (dB l r d):=by
 unfold uR dB;cases l.1==r<;>cases l.2.1==d<;>cases l.2.2.1==r<;>cases l.2.2.2.1==d<;>rfl
def aTo(k:Int)(x y:den tAS):Bool:=cond (k==1) (x.2.1&&y.2.1) (cond (k==2) (x.1==y.1&& !y.2.1) (cond (k==3) (!x.2.1&& !y.2.1) false))
def aAn(t:den tTo)(l:den tLk):Bool:=
 cD t l.1&&(cD t l.2.2.1&&(!decide (l.1>=l.2.2.1)&&(inR l.2.1 1 6&&(inR l.2.2.2.1 1 6&&aTo l.2.2.2.2 ((t.1[l.1.toNat]?).getD (0,false,0)) ((t.1[l.2.2.1.toNat]?).getD (0,false,0))))))
theorem aEn{t:den tTo}{r:Int}(h:cD t r=true):∃x,t.1[r.toNat]? =some x/\idx t.1 r=some x:=by
 obtain⟨h0,h1⟩:=cE.1 h;obtain⟨x,hx⟩:=aCj h0 h1;exact⟨x,hx,aL0 h0 hx⟩
theorem bVp{t:den tTo}{l:den tLk}(h:t.1.length<=68719476736):aA8 t l=some (aAn t l):=by
 unfold aA8 aAn pj2 pj3 zz4;simp only[aN,aDb h,rE,aA];cases c1:cD t l.1
 .rfl
 .cases c2:cD t l.2.2.1
  .rfl
  .obtain⟨x,hx,ix⟩:=aEn c1;obtain⟨y,hy,iy⟩:=aEn c2;rw[ix,iy,hx,hy];simp only[aT,bI,aX,aY,aZ,aA,cDc,cCd,zY,cCi];unfold aTo;cases decide (l.1>=l.2.2.1)
   .cases inR l.2.1 1 6
    .rfl
    .cases inR l.2.2.2.1 1 6
     .rfl
     .cases l.2.2.2.2==1
      .cases l.2.2.2.2==2
       .cases l.2.2.2.2==3
        .rfl
        .cases x.2.1<;>rfl
       .cases x.1==y.1<;>rfl
      .cases x.2.1<;>rfl
   .rfl
theorem bCn{t:den tTo}{l:den tLk}(h:t.1.length<=68719476736):qL t l=some (aAn t l):=by
 unfold qL aAn pj2 zz4;simp only[aN,aBy h,eZ,aA];cases c1:cD t l.1
 .rfl
 .cases c2:cD t l.2.2.1
  .rfl
  .obtain⟨x,hx,ix⟩:=aEn c1;obtain⟨y,hy,iy⟩:=aEn c2;rw[ix,iy,hx,hy];simp only[aA,cDc,cCd,zY,cCi];unfold aTo;cases decide (l.1>=l.2.2.1)
   .cases inR l.2.1 1 6
    .rfl
    .cases inR l.2.2.2.1 1 6
     .rfl
     .cases l.2.2.2.2==1
      .cases l.2.2.2.2==2
       .cases l.2.2.2.2==3
        .rfl
        .cases x.2.1<;>rfl
       .cases x.1==y.1<;>rfl
      .cases x.2.1<;>rfl
   .rfl
def asP(t:den tTo)(k:Nat)(x:den tAS):Bool:=inR x.1 0 2&&(inR x.2.2 1 2147483646&&(t.1.take k).all λy=> !(x.2.2==y.2.2))
def lkP(t:den tTo)(k:Nat)(x:den tLk):Bool:=aAn t x&&(t.2.take k).all λy=> !(dB y x.1 x.2.1||dB y x.2.2.1 x.2.2.2.1)
def aBb(t:den tTo):Bool:=inR (t.1.length:Int) 1 8&&((t.1.zipIdx 0).all (λz=>asP t z.2 z.1)&&(t.2.zipIdx 0).all λz=>lkP t z.2 z.1)
theorem yF{k n:Nat}(h:k<n):bY (0:Int) (k:Int) (n:Int)=true:=by
 have :=aCm (a:=0) (b:=k) (n:=n);rw[show ((0:Nat):Int)=0 from rfl]at this;rw[this];simp;omega
theorem aYq{α:Type}{l:List α}{k j:Nat}{x:α}(h:idx (l.take k) (j:Int)=some x):idx l (j:Int)=some x:=by
 rw[aF]at h ⊢;exact (aKd h).1
theorem wS{α:Type}{l:List α}{k:Nat}(h:k<l.length):(l.take k).length=k:=by simp;omega
theorem bL1{t:den tTo}(h:SmB 68719476736 tTo t):iD t=some (aBb t):=by
 have l1:=h.1.1;have l2:=h.2.1;unfold iD aBb pj2 pj5;rw[aM (l:=t.1) (λk x=>if asP t k x then none else some false) (cCc l1 (by decide)) (λk x hi hd hw hm hk=>by
  simp only[hd,hi,zZ,aA,rE,cAu,yF hk,hO,hw];rw[aM (l:=t.1.take k) (λ_ y=>if !(x.2.2==y.2.2) then none else some (cCa (cCa false))) (by rw[wS hk];omega) (λj y hi hd hw hm hk=>by
   simp only[hd,hi,hw,zZ,aA];cases x.2.2==y.2.2<;>rfl) (by simp),kK (λy:den tAS=> !(x.2.2==y.2.2))]
  unfold asP;cases inR x.1 0 2<;>cases inR x.2.2 1 2147483646<;>cases (t.1.take k).all (λy=> !(x.2.2==y.2.2))<;>rfl) (by simp),aAj (asP t)]
 rw[aM (l:=t.2) (λk x=>if lkP t k x then none else some false) (cCc l2 (by decide)) (λk x hi hd hw hm hk=>by
  simp only[hd,hi,zZ,aA,aN,bVp l1,yF hk,hO,hw];rw[aM (l:=t.2.take k) (λ_ y=>if !(dB y x.1 x.2.1||dB y x.2.2.1 x.2.2.2.1) then none else some (cCa (cCa false))) (by rw[wS hk];omega) (λj y hi hd hw hm hk=>by
   simp only[hd,hi,hw,zZ,aA,aN,bBr];cases dB y x.1 x.2.1<;>cases dB y x.2.2.1 x.2.2.2.1<;>rfl) (by simp),kK (λy:den tLk=> !(dB y x.1 x.2.1||dB y x.2.2.1 x.2.2.2.1))]
  unfold lkP;cases aAn t x<;>cases (t.2.take k).all (λy=> !(dB y x.1 x.2.1||dB y x.2.2.1 x.2.2.2.1))<;>rfl) (by simp),aAj (lkP t)]
 rw[rE,aA];cases inR (t.1.length:Int) 1 8<;>cases (t.1.zipIdx 0).all (λz=>asP t z.2 z.1)<;>cases (t.2.zipIdx 0).all (λz=>lkP t z.2 z.1)<;>rfl
theorem bN0(a b:Int):(a==b)=(b==a):=by rw[cC7];simp;exact eq_comm
theorem bMp{t:den tTo}(h:SmB 68719476736 tTo t):iC t=some (aBb t):=by
 have l1:=h.1.1;have l2:=h.2.1;unfold iC aBb pj2 pj5;rw[aM (l:=t.1) (λk x=>if asP t k x then none else some false) (cCc l1 (by decide)) (λk x hi hd hw hm hk=>by
  simp only[hd,hi,zZ,aA,eZ,cAp,hw];rw[aM (l:=t.1.take k) (λ_ y=>if !(x.2.2==y.2.2) then none else some (cCa (cCa false))) (by rw[wS hk];omega) (λj y hi2 hd hw hm hk2=>by
   rw[wS hk]at hd;simp only[hd,aYq hi2,hi,hw,zZ,aA,bN0 y.2.2 x.2.2];cases x.2.2==y.2.2<;>rfl) (by rw[wS hk];simp),kK (λy:den tAS=> !(x.2.2==y.2.2))]
  unfold asP;cases inR x.1 0 2<;>cases inR x.2.2 1 2147483646<;>cases (t.1.take k).all (λy=> !(x.2.2==y.2.2))<;>rfl) (by simp),aAj (asP t)]
 rw[aM (l:=t.2) (λk x=>if lkP t k x then none else some false) (cCc l2 (by decide)) (λk x hi hd hw hm hk=>by
  simp only[hd,hi,zZ,aA,aN,bCn l1,hw];rw[aM (l:=t.2.take k) (λ_ y=>if !(dB y x.1 x.2.1||dB y x.2.2.1 x.2.2.2.1) then none else some (cCa (cCa false))) (by rw[wS hk];omega) (λj y hi2 hd hw hm hk2=>by
   rw[wS hk]at hd;simp only[hd,aYq hi2,hi,hw,zZ,aA,aN,bCo];cases dB y x.1 x.2.1<;>cases dB y x.2.2.1 x.2.2.2.1<;>rfl) (by rw[wS hk];simp),kK (λy:den tLk=> !(dB y x.1 x.2.1||dB y x.2.2.1 x.2.2.2.1))]
  unfold lkP;cases aAn t x<;>cases (t.2.take k).all (λy=> !(dB y x.1 x.2.1||dB y x.2.2.1 x.2.2.2.1))<;>rfl) (by simp),aAj (lkP t)]
 rw[eZ,aA];cases inR (t.1.length:Int) 1 8<;>cases (t.1.zipIdx 0).all (λz=>asP t z.2 z.1)<;>cases (t.2.zipIdx 0).all (λz=>lkP t z.2 z.1)<;>rfl
def xOk(x:den tIb):Bool:=inR x.1 0 7&&(inR x.2.1 0 7&&(!(x.1==x.2.1)&&((x.2.2.1==(x.2.2.2.length:Int))&&(decide (x.2.2.1<=20)&&x.2.2.2.all λm=>decide (m.length<=40)))))
theorem bZv(a b:Int):decide (a>b)= !decide (a<=b):=by rw[cC7];simp
theorem cAm{x:den tIb}(h:x.2.2.2.length<=68719476736):rC x=some (xOk x):=by
 unfold rC xOk;rw[aM (l:=x.2.2.2) (λ_ m=>if decide (m.length<=40) then none else some false) (by omega) (λk m hi hd hw hx hk=>by
  simp only[hd,hi,hw,zZ,aA]
  by_cases hm:m.length<=40
  .simp[hm,show ¬ ((m.length:Int)>40) by omega]
  .simp[hm,show (m.length:Int)>40 by omega]) (by simp),kK (λm:List Int=>decide (m.length<=40))]
 simp only[rE,aA,bne,bZv];cases inR x.1 0 7<;>cases inR x.2.1 0 7<;>cases x.1==x.2.1<;>cases x.2.2.1==(x.2.2.2.length:Int)<;>cases decide (x.2.2.1<=20)<;>cases x.2.2.2.all (λm=>decide (m.length<=40))<;>rfl
theorem cAd{x:den tIb}(h:x.2.2.2.length<=68719476736):rD x=some (xOk x):=by
 unfold rD xOk;rw[aM (l:=x.2.2.2) (λ_ m=>if decide (m.length<=40) then none else some false) (by omega) (λk m hi hd hw hx hk=>by
  simp only[hd,hi,hw,zZ,aA]
  by_cases hm:m.length<=40
  .simp[hm,show ¬ ((m.length:Int)>40) by omega]
  .simp[hm,show (m.length:Int)>40 by omega]) (by simp),kK (λm:List Int=>decide (m.length<=40))]
 simp only[eZ,aA,bne];cases inR x.1 0 7<;>cases inR x.2.1 0 7<;>cases x.1==x.2.1<;>cases x.2.2.1==(x.2.2.2.length:Int)<;>cases decide (x.2.2.1<=20)<;>cases x.2.2.2.all (λm=>decide (m.length<=40))<;>rfl
theorem bBs{t:den tTo}(h:SmB 68719476736 tTo t):jJ t=some t:=by
 unfold jJ pj2;simp only[aE (b:=24) (n:=([]:lAS).length) (m:=t.1.length) (by decide) (by simpa using h.1.1),aE (b:=40) (n:=([]:lLk).length) (m:=t.2.length) (by decide) (by simpa using h.2.1),zZ,aT,bI,aX,aY,aZ,aA,cC4,aN]
theorem bBm{t:den tTo}(h:SmB 68719476736 tTo t):rO t=some t:=by
 unfold rO pj2;simp only[aE (b:=24) (n:=([]:lAS).length) (m:=t.1.length) (by decide) (by simpa using h.1.1),aE (b:=40) (n:=([]:lLk).length) (m:=t.2.length) (by decide) (by simpa using h.2.1),zZ,aT,bI,aX,aY,aZ,aA,cC4,aN]
theorem aTy{x:den tSg}(h:x.2.2.length<=68719476736):eQ x=some x:=by
 unfold eQ;rw[aSx h];rfl
theorem aIp{x:den tSg}(h:x.2.2.length<=68719476736):eG x=some x:=by
 unfold eG;rw[aE (b:=40) (n:=([]:bQ).length) (by decide) (by simpa using h)];rfl
theorem aKr{l:lSg}(h:SmB 68719476736 (.sl tSg) l):lP l=some l:=by
 unfold lP pj3;rw[(wJ (λk (a:lSg)=>((k:Int),a)) ((0:Int),[]) [] l (λ_ x a=>a++[x]) cCv (λ_=>1) 68719476736 id rfl (cCc h.1 (by decide)) (by rw[dP];simpa using h.1) (λk x a hi hx hd hw hk hb=>by
  have e:=h.2 x (cCt hx);simp only[hd,hi,hw,zZ,aA,aN,aTy e.2.2.1,aE (b:=40) (by decide) hb];simp) (λa=>by simp)).1,fP (λx=>x)]
 simp
theorem aDy{l:lSg}(h:SmB 68719476736 (.sl tSg) l):fE l=some l:=by
 unfold fE pj3;rw[(wJ (λk (a:lSg)=>((k:Int),a)) ((0:Int),[]) [] l (λ_ x a=>a++[x]) cCv (λ_=>1) 68719476736 id rfl (cCc h.1 (by decide)) (by rw[dP];simpa using h.1) (λk x a hi hx hd hw hk hb=>by
  have e:=h.2 x (cCt hx);simp only[hd,hi,hw,zZ,aA,aN,aIp e.2.2.1,aE (b:=40) (by decide) hb];simp) (λa=>by simp)).1,fP (λx=>x)]
 simp
theorem bYk(c:Int):nU c=some (cond (inR c 1 20) c 1,[],[]):=by
 unfold nU;rw[rE];cases inR c 1 20<;>rfl
theorem bWz(c:Int):fH c=some (cond (inR c 1 20) c 1,[],[]):=by
 unfold fH;rw[eZ];cases inR c 1 20<;>rfl
def aHt(t:den tTo)(now:Int):Bool:=aBb t&&inR now 0 1000000
theorem bZi{t:den tTo}{k:den tDb}{c now:Int}(ht:SmB 68719476736 tTo t)(hk:SmB 68719476736 tDb k):pC t k c now=some (cond (aHt t now) (cond (inR c 1 20) c 1,now,0,t.1,t.2,k.1,k.2,[],[],[],[],[],[]) (0,0,0,[],[],[],[],[],[],[],[],[],[])):=by
 unfold pC jM aHt pj2;simp only[aN,bL1 ht,rE,bBs ht,aKr hk.1,aKr hk.2,bYk,aA];cases aBb t<;>cases inR now 0 1000000<;>rfl
theorem bLi{t:den tTo}{k:den tDb}{c now:Int}(ht:SmB 68719476736 tTo t)(hk:SmB 68719476736 tDb k):kU t k c now=some (cond (aHt t now) (cond (inR c 1 20) c 1,now,0,t.1,t.2,k.1,k.2,[],[],[],[],[],[]) (0,0,0,[],[],[],[],[],[],[],[],[],[])):=by
 unfold kU aHt pj2;simp only[aN,bMp ht,eZ,bBm ht,aDy hk.1,aDy hk.2,bWz,aA];cases aBb t<;>cases inR now 0 1000000<;>rfl
def nL(a b:Int)(x:den tIb):Bool:=x.1==a&&x.2.1==b
theorem aMi{α:Type}(p:α->Bool):∀(l:List α) (k:Nat),bU (λk x=>if p x then some (k:Int) else none) k l=(l.findIdx? p).map (λi=>((k+i:Nat):Int))
 | [],_=>rfl
 | x::xs,k=>by
  simp only[bU,List.findIdx?_cons];cases h:p x with
  | true=>simp
  | false=>
   simp only[cCs,zU];rw[aMi p xs (k+1)];cases xs.findIdx? p with
   | none=>rfl
   | some i=>simp<;>omega
def kC(l:lIb)(a b:Int):Int:=((l.findIdx? (nL a b)).map (λi=>((0+i:Nat):Int))).getD (-1)
theorem aSa{l:lIb}{a b:Int}(h:l.length<=68719476736):jI l a b=some (kC l a b):=by
 unfold jI kC;rw[aM (l:=l) (λk x=>if nL a b x then some (k:Int) else none) (by omega) (λk x hi hd hw hm hk=>by
  simp only[hd,hi,hw,zZ,aA];unfold nL;cases x.1==a<;>cases x.2.1==b<;>rfl) (by simp),aMi (nL a b)]
 cases l.findIdx? (nL a b)<;>rfl
theorem bI4{l:lIb}{a b:Int}{k:Nat}:kC l a b=(k:Int)↔(∃x,l[k]? =some x/\nL a b x=true)/\ ∀j,j<k-> ∀y,l[j]? =some y->nL a b y=false:=by
 unfold kC;cases h:l.findIdx? (nL a b) with
 | none=>
  have hn:=List.findIdx?_eq_none_iff.1 h;constructor
  .intro e;exfalso;revert e;simp only[Option.map_none,Option.getD_none];omega
  .rintro⟨⟨x,hx,hp⟩,_⟩
   have :=hn x (cCt hx);rw[hp]at this;cases this
 | some i=>
  obtain⟨hi,hp,hj⟩:=List.findIdx?_eq_some_iff_getElem.1 h;simp only[Option.map_some,cDc,cDg];constructor
  .intro e;have e:i=k:=by omega
   subst e;refine⟨⟨l[i],cCe hi,hp⟩,λj hlt y hy=> ?_⟩;have h2:=hj j hlt;have h3:l[j]? =some l[j]:=cCe (by omega);rw[h3]at hy;injection hy with hy;subst hy
   simpa using h2
  .rintro⟨⟨x,hx,hp2⟩,hl⟩
   have hik:i=k:=by
    rcases Nat.lt_trichotomy i k with c | c | c
    .have :=hl i c l[i] (cCe hi);rw[hp]at this;cases this
    .exact c
    .have h2:=hj k c;obtain⟨hk,e⟩:=cCq.1 hx;rw[e,hp2]at h2;simp at h2
   rw[hik]
def nV(w:den tNw)(k:Nat)(f:den tFl):Bool:=match w.2.2.2.2.2.2.2.1[k]? with
 | some x=>iJ f&&(cD w.1 f.1&&(cD w.1 f.2.1&&(xOk x&&xL f x)))
 | none=>false
def pB(f g:den tFl):Bool:=g.1==f.1&&g.2.1==f.2.1
def vQ(w:den tNw)(k:Nat)(f:den tFl):Bool:=(w.2.2.2.2.2.2.1.take k).all λg=> !pB f g
def aH2(w:den tNw)(k:Nat)(f:den tFl):Bool:=kC w.2.2.2.2.2.2.2.1 f.2.1 f.1==(k:Int)
theorem aKi{w:den tNw}{k:Nat}{f:den tFl}(h:nV w k f=true):∃x,w.2.2.2.2.2.2.2.1[k]? =some x/\x.1=f.2.1/\x.2.1=f.1:=by
 unfold nV at h;cases hx:w.2.2.2.2.2.2.2.1[k]? with
 | none=>rw[hx]at h;cases h
 | some x=>
  rw[hx]at h;unfold xL at h;simp only[cCf,beq_iff_eq]at h;exact⟨x,rfl,h.2.2.2.2.1,h.2.2.2.2.2.1⟩
theorem aOi{w:den tNw}(hA:∀k f,w.2.2.2.2.2.2.1[k]? =some f->nV w k f=true){k:Nat}{f:den tFl}(hf:w.2.2.2.2.2.2.1[k]? =some f):vQ w k f=aH2 w k f:=by
 have hk:=(cCq.1 hf).1;rw[cC7];unfold vQ aH2;rw[cC6,beq_iff_eq,bI4];constructor
 .intro h;obtain⟨x,hx,e1,e2⟩:=aKi (hA k f hf);refine⟨⟨x,hx,by unfold nL;rw[e1,e2];simp⟩,λj hj y hy=> ?_⟩;have hg:w.2.2.2.2.2.2.1[j]? =some w.2.2.2.2.2.2.1[j]:=cCe (by omega);obtain⟨x2,hx2,d1,d2⟩:=aKi (hA j _ hg);rw[hx2]at hy;injection hy with hy;subst hy
  have hm:w.2.2.2.2.2.2.1[j]∈w.2.2.2.2.2.2.1.take k:=cCt (i:=j) (by rw[List.getElem?_take_of_lt hj];exact hg);have :=h _ hm;unfold pB at this;unfold nL;rw[d1,d2]
  revert this
  generalize (w.2.2.2.2.2.2.1[j].1==f.1)=p;generalize (w.2.2.2.2.2.2.1[j].2.1==f.2.1)=q;cases p<;>cases q<;>simp
 .rintro⟨_,h⟩ g hg
  obtain⟨j,hj⟩:=List.mem_iff_getElem?.1 hg;obtain⟨hj1,hj2⟩:=aKd hj;obtain⟨x2,hx2,d1,d2⟩:=aKi (hA j g hj1);have :=h j hj2 x2 hx2;unfold nL at this;rw[d1,d2]at this;unfold pB
  revert this
  generalize (g.1==f.1)=p;generalize (g.2.1==f.2.1)=q;cases p<;>cases q<;>simp
theorem xH{α:Type}(p:Nat->α->Bool)(l:List α):(l.zipIdx 0).all (λz=>p z.2 z.1)=true↔ ∀k x,l[k]? =some x->p k x=true:=by
 rw[cC6];constructor
 .intro h k x hx;exact h (x,k) (cFv.2 (by simpa using hx))
 .rintro h ⟨x,k⟩ hz
  exact h k x (by simpa using cFv.1 hz)
theorem bG0(w:den tNw):(w.2.2.2.2.2.2.1.zipIdx 0).all (λz=>nV w z.2 z.1&&vQ w z.2 z.1)=(w.2.2.2.2.2.2.1.zipIdx 0).all (λz=>nV w z.2 z.1&&aH2 w z.2 z.1):=by
 rw[cC7,xH (λk f=>nV w k f&&vQ w k f),xH (λk f=>nV w k f&&aH2 w k f)];simp only[cCf];constructor
 .intro h k f hf;exact⟨(h k f hf).1,by rw[<- aOi (λk f hf=>(h k f hf).1) hf];exact (h k f hf).2⟩
 .intro h k f hf;exact⟨(h k f hf).1,by rw[aOi (λk f hf=>(h k f hf).1) hf];exact (h k f hf).2⟩
def zE(l:List Int)(m:Nat)(k:Nat)(n:Int):Bool:=inR n 0 ((m:Int) - 1)&&(decide (k=0)|| !decide ((l[k - 1]?).getD 0>=n))
def aDv(w:den tNw):Bool:=
 aBb w.1&&(inR w.2.2.2.1 0 1000000&&(xG w.2.2.1 w.2.2.2.1&&((w.2.2.2.2.1.zipIdx 0).all (λz=>zE w.2.2.2.2.1 w.1.2.length z.2 z.1)&&(decide (w.2.2.2.2.2.1.length<=150)&&(decide (w.2.2.2.2.2.2.1.length<=4)&&(decide (w.2.2.2.2.2.2.2.1.length=w.2.2.2.2.2.2.1.length)&&(!decide (w.2.2.2.2.2.2.2.2<0)&&
  (w.2.2.2.2.2.1.all (λx=>cD w.1 x.1)&&(w.2.2.2.2.2.2.1.zipIdx 0).all (λz=>nV w z.2 z.1&&vQ w z.2 z.1)))))))))
theorem aRa(n k:Nat):decide ((n:Int)>(k:Int))= !decide (n<=k):=by rw[cC7];simp
theorem bKz(a b:Nat):((a:Int) != (b:Int))= !decide (a=b):=by rw[cC7];simp;omega
theorem aUk{l:List Int}{k:Nat}(hk:k<l.length)(h0:0<k)(hl:l.length<=68719476736):idx l (wr ((k:Int) - 1))=some ((l[k - 1]?).getD 0):=by
 have e:wr ((k:Int) - 1)=((k - 1:Nat):Int):=by
  have :wr ((k:Int) - 1)=(k:Int) - 1:=wri (by omega) (by omega);rw[this];omega
 rw[e,aF,cCe (show k - 1<l.length by omega)];rfl
theorem aQ7{w:den tNw}(h:tot tNw w<=1073741824):fI w=some (aDv w):=by
 have sm:SmB 68719476736 tNw w:=(bB h).mono (by decide);have sms:SmB 1073741824 tNw w:=bB h;have lT:=sm.1.1.1;have lL:=sm.1.2.1;have lD:=sms.2.2.2.2.1.1;have lQ:=sms.2.2.2.2.2.1.1;have lF:=sms.2.2.2.2.2.2.1.1;have lX:=sms.2.2.2.2.2.2.2.1.1;have eT:=bL1 sm.1;have eS:=bPk (now:=w.2.2.2.1) sms.2.2.1.2.1.1 sms.2.2.1.2.2.1;have q1:decide ((w.2.2.2.2.2.1.length:Int)>150)= !decide (w.2.2.2.2.2.1.length<=150):=aRa _ 150;have q2:decide ((w.2.2.2.2.2.2.1.length:Int)>4)= !decide (w.2.2.2.2.2.2.1.length<=4):=aRa _ 4;unfold fI aDv pj2 pj3 pj4 pj9 zz4 zz5 zz6 zz7 zz8;rw[q1,q2,bKz];simp only[aN,eT,rE,eS,aA]
 by_cases hX:w.2.2.2.2.2.2.2.1.length=w.2.2.2.2.2.2.1.length
 .rw[aM (l:=w.2.2.2.2.1) (λk n=>if zE w.2.2.2.2.1 w.1.2.length k n then none else some false) (by omega) (λk n hi hd hw hm hk=>by
   simp only[hd,hi,hw,zZ,aA,rE,pI lL];unfold zE;cases inR n 0 ((w.1.2.length:Int) - 1)
   .rfl
   .by_cases h0:k=0
    .subst h0;rfl
    .have e1:decide ((k:Int)>0)=true:=by simp;omega
     rw[e1,aUk hk (by omega) (by omega),zW h0];simp only[cCd,zY,zZ,aA,Bool.false_or,cCi];cases decide ((w.2.2.2.2.1[k - 1]?).getD 0>=n)<;>rfl) (by simp),aAj (zE w.2.2.2.2.1 w.1.2.length)]
  rw[aM (l:=w.2.2.2.2.2.1) (λ_ x=>if cD w.1 x.1 then none else some false) (by omega) (λk x hi hd hw hm hk=>by
   simp only[hd,hi,hw,zZ,aA,aDb lT];cases cD w.1 x.1<;>rfl) (by simp),kK (λx:den tFy=>cD w.1 x.1)]
  rw[aM (l:=w.2.2.2.2.2.2.1) (λk f=>if nV w k f&&vQ w k f then none else some false) (by omega) (λk f hi hd hw hm hk=>by
   have hx:w.2.2.2.2.2.2.2.1[k]? =some w.2.2.2.2.2.2.2.1[k]:=cCe (by omega);have hix:idx w.2.2.2.2.2.2.2.1 (k:Int)=some w.2.2.2.2.2.2.2.1[k]:=by rw[aF];exact hx
   have fs:=sm.2.2.2.2.2.2.1.2 f hm;have xs:=(sm.2.2.2.2.2.2.2.1.2 _ (cCt hx)).2.2.2.1;simp only[hd,hi,zZ,aA,aDb lT,aYf fs,hix,cAm xs,bL4 fs.2.2.2.2.1.1 xs,yF hk,hO,hw];rw[aM (l:=w.2.2.2.2.2.2.1.take k) (λ_ g=>if !pB f g then none else some (cCa (cCa false))) (by rw[wS hk];omega) (λj g hi hd hw hm hk=>by
    simp only[hd,hi,hw,zZ,aA];unfold pB;cases g.1==f.1<;>cases g.2.1==f.2.1<;>rfl) (by simp),kK (λg:den tFl=> !pB f g)]
   unfold nV vQ;rw[hx];simp only;cases iJ f<;>simp only[cCd,cCh,zZ,zY,aA,cCj,cCi,cCs,zU]
   .rfl
   cases cD w.1 f.1<;>simp only[cCd,cCh,zZ,zY,aA,cCj,cCi,cCs,zU]
   .rfl
   cases cD w.1 f.2.1<;>simp only[cCd,cCh,zZ,zY,aA,cCj,cCi,cCs,zU]
   .rfl
   cases xOk w.2.2.2.2.2.2.2.1[k]<;>simp only[cCd,cCh,zZ,zY,aA,cCj,cCi,cCs,zU]
   .rfl
   cases xL f w.2.2.2.2.2.2.2.1[k]<;>cases (w.2.2.2.2.2.2.1.take k).all (λg=> !pB f g)<;>rfl) (by simp),aAj (λk f=>nV w k f&&vQ w k f)]
  cases aBb w.1<;>simp only[cCd,cCh,zZ,zY,aA,cCj,cCi];cases inR w.2.2.2.1 0 1000000<;>simp only[cCd,cCh,zZ,zY,aA,cCj,cCi];cases xG w.2.2.1 w.2.2.2.1<;>simp only[cCd,cCh,zZ,zY,aA,cCj,cCi];cases (w.2.2.2.2.1.zipIdx 0).all (λz=>zE w.2.2.2.2.1 w.1.2.length z.2 z.1)<;>cases decide (w.2.2.2.2.2.1.length<=150)<;>cases decide (w.2.2.2.2.2.2.1.length<=4)<;>cases decide (w.2.2.2.2.2.2.2.1.length=w.2.2.2.2.2.2.1.length)<;>cases decide (w.2.2.2.2.2.2.2.2<0)<;>cases w.2.2.2.2.2.1.all (λx=>cD w.1 x.1)<;>cases (w.2.2.2.2.2.2.1.zipIdx 0).all (λz=>nV w z.2 z.1&&vQ w z.2 z.1)<;>rfl
 .have e:decide (w.2.2.2.2.2.2.2.1.length=w.2.2.2.2.2.2.1.length)=false:=by simpa using hX
  rw[e];cases aBb w.1
  .rfl
  .cases inR w.2.2.2.1 0 1000000
   .rfl
   .cases xG w.2.2.1 w.2.2.2.1
    .rfl
    .cases decide (w.2.2.2.2.2.1.length<=150)<;>cases decide (w.2.2.2.2.2.2.1.length<=4)<;>simp
theorem bUn{w:den tNw}(lD:w.2.2.2.2.1.length<=1073741824)(lL:w.1.2.length<=68719476736):yD w=some ((w.2.2.2.2.1.zipIdx 0).all (λz=>zE w.2.2.2.2.1 w.1.2.length z.2 z.1)):=by
 unfold yD zz4;rw[aM (l:=w.2.2.2.2.1) (λk n=>if zE w.2.2.2.2.1 w.1.2.length k n then none else some false) (by omega) (λk n hi hd hw hm hk=>by
   simp only[hd,hi,hw,zZ,aA,eZ,pI lL];unfold zE;cases inR n 0 ((w.1.2.length:Int) - 1)
   .rfl
   .by_cases h0:k=0
    .subst h0;rfl
    .have e1:decide ((k:Int)>0)=true:=by simp;omega
     rw[e1,aUk hk (by omega) (by omega),zW h0];simp only[cCd,zY,zZ,aA,Bool.false_or,cCi];cases decide ((w.2.2.2.2.1[k - 1]?).getD 0>=n)<;>rfl) (by simp),aAj (zE w.2.2.2.2.1 w.1.2.length)]
 cases (w.2.2.2.2.1.zipIdx 0).all (λz=>zE w.2.2.2.2.1 w.1.2.length z.2 z.1)<;>rfl
theorem bX8{w:den tNw}(h:tot tNw w<=1073741824):nH w=some (aDv w):=by
 have sm:SmB 68719476736 tNw w:=(bB h).mono (by decide);have sms:SmB 1073741824 tNw w:=bB h;have lT:=sm.1.1.1;have lL:=sm.1.2.1;have lD:=sms.2.2.2.2.1.1;have lQ:=sms.2.2.2.2.2.1.1;have lF:=sms.2.2.2.2.2.2.1.1;have lX:=sms.2.2.2.2.2.2.2.1.1;have eT:=bMp sm.1;have eS:=bNw (now:=w.2.2.2.1) sms.2.2.1.2.1.1 sms.2.2.1.2.2.1;have q1:decide ((w.2.2.2.2.2.1.length:Int)>150)= !decide (w.2.2.2.2.2.1.length<=150):=aRa _ 150;have q2:decide ((w.2.2.2.2.2.2.1.length:Int)>4)= !decide (w.2.2.2.2.2.2.1.length<=4):=aRa _ 4;unfold nH aDv pj2 pj3 pj4 pj9 lN zz5 zz6 zz7 zz8;rw[q1,q2,bKz,bG0];simp only[aN,eT,eZ,eS,bUn lD lL,aA]
 by_cases hX:w.2.2.2.2.2.2.2.1.length=w.2.2.2.2.2.2.1.length
 .rw[aM (l:=w.2.2.2.2.2.1) (λ_ x=>if cD w.1 x.1 then none else some false) (by omega) (λk x hi hd hw hm hk=>by
   simp only[hd,hi,hw,zZ,aA,aBy lT];cases cD w.1 x.1<;>rfl) (by simp),kK (λx:den tFy=>cD w.1 x.1)]
  rw[aM (l:=w.2.2.2.2.2.2.1) (λk f=>if nV w k f&&aH2 w k f then none else some false) (by omega) (λk f hi hd hw hm hk=>by
   have hx:w.2.2.2.2.2.2.2.1[k]? =some w.2.2.2.2.2.2.2.1[k]:=cCe (by omega);have hix:idx w.2.2.2.2.2.2.2.1 (k:Int)=some w.2.2.2.2.2.2.2.1[k]:=by rw[aF];exact hx
   have fs:=sm.2.2.2.2.2.2.1.2 f hm;have xs:=(sm.2.2.2.2.2.2.2.1.2 _ (cCt hx)).2.2.2.1;simp only[hd,hi,zZ,aA,aBy lT,aO2 fs,hix,cAd xs,bI5 fs.2.2.2.2.1.1 xs,aSa (l:=w.2.2.2.2.2.2.2.1) (by omega),bne,hw];unfold nV aH2;rw[hx];simp only;cases iJ f<;>simp only[cCd,cCh,zZ,zY,aA,cCj,cCi,cCs,zU];cases cD w.1 f.1<;>simp only[cCd,cCh,zZ,zY,aA,cCj,cCi,cCs,zU];cases cD w.1 f.2.1<;>simp only[cCd,cCh,zZ,zY,aA,cCj,cCi,cCs,zU];cases xOk w.2.2.2.2.2.2.2.1[k]<;>simp only[cCd,cCh,zZ,zY,aA,cCj,cCi,cCs,zU];cases xL f w.2.2.2.2.2.2.2.1[k]<;>cases (kC w.2.2.2.2.2.2.2.1 f.2.1 f.1==(k:Int))<;>rfl) (by simp),aAj (λk f=>nV w k f&&aH2 w k f)]
  cases aBb w.1<;>simp only[cCd,cCh,zZ,zY,aA,cCj,cCi];cases inR w.2.2.2.1 0 1000000<;>simp only[cCd,cCh,zZ,zY,aA,cCj,cCi];cases xG w.2.2.1 w.2.2.2.1<;>simp only[cCd,cCh,zZ,zY,aA,cCj,cCi];cases (w.2.2.2.2.1.zipIdx 0).all (λz=>zE w.2.2.2.2.1 w.1.2.length z.2 z.1)<;>cases decide (w.2.2.2.2.2.1.length<=150)<;>cases decide (w.2.2.2.2.2.2.1.length<=4)<;>cases decide (w.2.2.2.2.2.2.2.1.length=w.2.2.2.2.2.2.1.length)<;>cases decide (w.2.2.2.2.2.2.2.2<0)<;>cases w.2.2.2.2.2.1.all (λx=>cD w.1 x.1)<;>cases (w.2.2.2.2.2.2.1.zipIdx 0).all (λz=>nV w z.2 z.1&&aH2 w z.2 z.1)<;>rfl
 .have e:decide (w.2.2.2.2.2.2.2.1.length=w.2.2.2.2.2.2.1.length)=false:=by simpa using hX
  rw[e];cases aBb w.1
  .rfl
  .cases inR w.2.2.2.1 0 1000000
   .rfl
   .cases xG w.2.2.1 w.2.2.2.1
    .rfl
    .cases (w.2.2.2.2.1.zipIdx 0).all (λz=>zE w.2.2.2.2.1 w.1.2.length z.2 z.1)<;>cases decide (w.2.2.2.2.2.1.length<=150)<;>cases decide (w.2.2.2.2.2.2.1.length<=4)<;>simp
def bQl(n:Int):Int:=cDp (wr ((cDp n 2147483647)+2147483647)) 2147483647
theorem bYc(n:Int):aHx n 2147483647=some (bQl n):=by unfold aHx;rw[rE];rfl
theorem bY0(n:Int):aHk n 2147483647=some (bQl n):=by unfold aHk;rw[eZ];rfl
def bPq(a x:Int):Int:=cDp (wr ((wr ((wr (a * (1000003:Int)))+bQl x))+(11:Int))) (2147483647:Int)
def aDh(l:List Int):Int:=bT (λ_ x a=>bPq a x) 0 l 7
theorem aXi{l:List Int}(h:l.length<=68719476736):wX l=some (aDh l):=by
 unfold wX aDh;rw[fS (λk (a:Int)=>(a,(k:Int))) ((7:Int),(0:Int)) 7 l (λ_ x a=>bPq a x) (λ_=>0) (λ_=>0) 1 id rfl (by omega) (by rw[sum_nil];omega) (λk x a=>by omega) (λk x a hi hx hd hw hk hb=>by
  simp only[hd,hi,hw,zZ,aA,bYc];rfl) (λa=>by simp)]
 rfl
theorem aY6{l:List Int}(h:l.length<=68719476736):wN l=some (aDh l):=by
 unfold wN aDh;rw[fS (λk (a:Int)=>(a,(k:Int))) ((7:Int),(0:Int)) 7 l (λ_ x a=>bPq a x) (λ_=>0) (λ_=>0) 1 id rfl (by omega) (by rw[sum_nil];omega) (λk x a=>by omega) (λk x a hi hx hd hw hk hb=>by
  simp only[hd,hi,hw,zZ,aA,bY0];rfl) (λa=>by simp)]
 rfl
def aO6(h:den bP)(a:List Int):List Int:=a++[h.1,h.2.1,h.2.2.1]
def aHo(x:den tPp)(a:List Int):List Int:=bT (λ_ h a=>aO6 h a) 0 x.2.2.2 (a++[x.1,x.2.1,x.2.2.1])
def aEk(p:den tPt):List Int:=bT (λ_ x a=>aHo x a) 0 p []
theorem bFc{α:Type}(c:Nat)(l:List α):(l.map λ_=>c).sum=c * l.length:=by
 induction l with
 | nil=>rfl
 | cons x l ih=>simp only[cC1,cDw,ih,cDe,Nat.mul_succ];omega
theorem aLc(x:den tPp)(a:List Int):(aHo x a).length<=a.length+(3+3 * x.2.2.2.length):=by
 have h:=aBq (f:=λ_ h (a:List Int)=>aO6 h a) (m:=cCv) (cost:=λ_=>3) (λk x a=>by simp[aO6]) x.2.2.2 0 (a++[x.1,x.2.1,x.2.2.1]);rw[bFc]at h;unfold aHo;simp at h;omega
theorem aHn:∀p:den tPt,(p.map λx:den tPp=>3+3 * x.2.2.2.length).sum<=3 * tot tPt p
 | []=>by simp
 | x::p=>by
  have h1:=hH (t:=tPp) x p;have h2:x.2.2.2.length<=tot tPp x:=cCc (eF (t:=bP) x.2.2.2) (by simp only[sI,vD];omega);have h3:=aHn p;simp only[cC1,cDw];show _<=3 * tot (.sl tPp) (x::p);rw[h1];have h3:(p.map λx:den tPp=>3+3 * x.2.2.2.length).sum<=3 * tot (.sl tPp) p:=h3;omega
theorem aUj(p:den tPt):(aEk p).length<=3 * tot tPt p:=by
 have h:=aBq (f:=λ_ x (a:List Int)=>aHo x a) (m:=cCv) (cost:=λx:den tPp=>3+3 * x.2.2.2.length) (λk x a=>aLc x a) p 0 [];have h2:=aHn p;unfold aEk;simp only[cDj,cDg]at h;omega
theorem aU3{p:den tPt}(h:tot tPt p<=1073741824):oW p=some (aDh (aEk p)):=by
 have hl:=eF (t:=tPp) p;have hl:p.length<=1073741824:=cCc hl h;have hs:=aHn p;have hd':=aUj p;unfold oW;rw[fS (λk (a:List Int)=>((k:Int),a)) ((0:Int),[]) [] p (λ_ x a=>aHo x a) cCv (λx:den tPp=>3+3 * x.2.2.2.length) 68719476736 id rfl (by omega) (by simp only[cDj];omega) (λk x a=>aLc x a) (λk x a hi hx hd hw hk hb=>by
  simp only[hd,hi,hw,zZ,aA,aE (b:=8) (n:=a.length) (m:=3) (by decide) (by omega)];rw[fS (λk (a:List Int)=>((k:Int),a)) ((0:Int),a++[x.1,x.2.1,x.2.2.1]) (a++[x.1,x.2.1,x.2.2.1]) x.2.2.2 (λ_ h a=>aO6 h a) cCv (λ_=>3) 68719476736 id rfl (by omega) (by rw[bFc];simp;omega) (λk h a=>by simp[aO6]) (λk h a hi hx hd hw hk hb=>by
   simp only[hd,hi,hw,zZ,aA,aE (b:=8) (n:=a.length) (m:=3) (by decide) (by omega)];rfl) (λa=>by simp)]
  rfl) (λa=>by simp)]
 simp only[aA];rw[show bT (λ_ x a=>aHo x a) 0 p []=aEk p from rfl];simp only[id,aXi (l:=aEk p) (by omega),aA]
theorem aU6{p:den tPt}(h:tot tPt p<=1073741824):pD p=some (aDh (aEk p)):=by
 have hl:=eF (t:=tPp) p;have hl:p.length<=1073741824:=cCc hl h;have hs:=aHn p;have hd':=aUj p;unfold pD;rw[fS (λk (a:List Int)=>((k:Int),a)) ((0:Int),[]) [] p (λ_ x a=>aHo x a) cCv (λx:den tPp=>3+3 * x.2.2.2.length) 68719476736 id rfl (by omega) (by simp only[cDj];omega) (λk x a=>aLc x a) (λk x a hi hx hd hw hk hb=>by
  simp only[hd,hi,hw,zZ,aA,aE (b:=8) (n:=a.length) (m:=3) (by decide) (by omega)];rw[fS (λk (a:List Int)=>((k:Int),a)) ((0:Int),a++[x.1,x.2.1,x.2.2.1]) (a++[x.1,x.2.1,x.2.2.1]) x.2.2.2 (λ_ h a=>aO6 h a) cCv (λ_=>3) 68719476736 id rfl (by omega) (by rw[bFc];simp;omega) (λk h a=>by simp[aO6]) (λk h a hi hx hd hw hk hb=>by
   simp only[hd,hi,hw,zZ,aA,aE (b:=8) (n:=a.length) (m:=3) (by decide) (by omega)];rfl) (λa=>by simp)]
  rfl) (λa=>by simp)]
 simp only[aA];rw[show bT (λ_ x a=>aHo x a) 0 p []=aEk p from rfl];simp only[id,aY6 (l:=aEk p) (by omega),aA]
def nR(a:Int×Bool)(h:den bP):Int×Bool:=cond (!a.2||decide (h.2.2.2.1<a.1)) (h.2.2.2.1,true) a
def wB(l:bQ):Int:=(l.foldl nR (0,false)).1
def aCq(p:den tPt):bQ:=bT (λ_ x a=>a++x.2.2.2) 0 p []
theorem aXx:∀(p:den tPt) (k:Nat) (a:bQ),bT (λ_ (x:den tPp) a=>a++x.2.2.2) k p a=a++p.flatMap (λx:den tPp=>x.2.2.2)
 | [],_,a=>by simp[bT]
 | x::p,k,a=>by
  simp only[bT];rw[aXx p (k+1)];simp
theorem bOs(p:den tPt):(aCq p).length<=tot tPt p:=by
 have h:=aBq (f:=λ_ (x:den tPp) (a:bQ)=>a++x.2.2.2) (m:=cCv) (cost:=λx:den tPp=>x.2.2.2.length) (λk x a=>by simp) p 0 [];have h2:=aDq p;unfold aCq;simp only[cDj,cDg]at h;omega
def zF(k:Nat)(h:den bP)(a:Int):Int:=if k=0\/h.2.2.2.1<a then h.2.2.2.1 else a
theorem aO5:∀(l:bQ) (k:Nat) (a:Int),0<k->bT zF k l a=(l.foldl nR (a,true)).1
 | [],_,_,_=>rfl
 | h::l,k,a,hk=>by
  simp only[bT,cEa]
  by_cases c:h.2.2.2.1<a
  .have e1:zF k h a=h.2.2.2.1:=by unfold zF;rw[zT (.inr c)]
   have e2:nR (a,true) h=(h.2.2.2.1,true):=by unfold nR;simp[c]
   rw[e1,e2];exact aO5 l (k+1) _ (by omega)
  .have e1:zF k h a=a:=by unfold zF;rw[zS (λhc=>hc.elim (λe=>by omega) c)]
   have e2:nR (a,true) h=(a,true):=by unfold nR;simp[c]
   rw[e1,e2];exact aO5 l (k+1) _ (by omega)
theorem aYa(l:bQ):bT zF 0 l 0=wB l:=by
 cases l with
 | nil=>rfl
 | cons h l=>
  unfold wB;simp only[bT,cEa];have e1:zF 0 h 0=h.2.2.2.1:=by unfold zF;rw[zT (.inl rfl)]
  have e2:nR (0,false) h=(h.2.2.2.1,true):=by unfold nR;simp
  rw[e1,e2];exact aO5 l 1 _ (by omega)
theorem aX5{p:den tPt}(h:tot tPt p<=1073741824):oU p=some (wB (aCq p)):=by
 have hl:p.length<=1073741824:=cCc (eF (t:=tPp) p) h;have hs:=aDq p;have hh:=bOs p;unfold oU aAu gR;rw[fS (λk (a:bQ)=>((k:Int),a)) ((0:Int),[]) [] p (λ_ x a=>a++x.2.2.2) cCv (λx:den tPp=>x.2.2.2.length) 68719476736 id rfl (by omega) (by simp only[cDj];omega) (λk x a=>by simp) (λk x a hi hx hd hw hk hb=>by
  simp only[hd,hi,hw,zZ,aA,aE (b:=40) (n:=a.length) (m:=x.2.2.2.length) (by decide) (by omega)]) (λa=>by simp)]
 simp only[aA];rw[show bT (λ_ (x:den tPp) a=>a++x.2.2.2) 0 p []=aCq p from rfl];simp only[id];rw[fS (λk (a:Int)=>(a,(k:Int))) ((0:Int),(0:Int)) 0 (aCq p) zF (λ_=>0) (λ_=>0) 1 id rfl (by omega) (by rw[sum_nil];omega) (λk x a=>by omega) (λk x a hi hx hd hw hk hb=>by
  simp only[hd,hi,hw,zZ,aA];unfold zF;have e1:((k:Int)==0)=decide (k=0):=by rw[cC7];simp
  rw[e1]
  by_cases c:k=0
  .simp[c]
  .by_cases c2:x.2.2.2.1<a
   .simp[c,c2]
   .simp[c,c2]) (λa=>by simp)]
 rw[aYa];rfl
theorem aPv:∀(p:den tPt) (k:Nat) (a:Int×Bool),bT (λ_ (x:den tPp) a=>bT (λ_ h a=>nR a h) 0 x.2.2.2 a) k p a=(p.flatMap λx:den tPp=>x.2.2.2).foldl nR a
 | [],_,_=>rfl
 | x::p,k,a=>by
  simp only[bT,List.flatMap_cons,List.foldl_append];rw[aPv p (k+1),uD]
theorem aYe{p:den tPt}(h:tot tPt p<=1073741824):lB p=some (wB (aCq p)):=by
 have hl:p.length<=1073741824:=cCc (eF (t:=tPp) p) h;have hs:=aDq p;unfold lB;rw[fS (λk (a:Int×Bool)=>(a.1,a.2,(k:Int))) ((0:Int),false,(0:Int)) ((0:Int),false) p (λ_ (x:den tPp) a=>bT (λ_ h a=>nR a h) 0 x.2.2.2 a) (λ_=>0) (λ_=>0) 1 (λa=>a.1) rfl (by omega) (by rw[sum_nil];omega) (λk x a=>by omega) (λk x a hi hx hd hw hk hb=>by
  have hxl:x.2.2.2.length<=1073741824:=by
   have h1:=zP (t:=tPp) hx;have h2:x.2.2.2.length<=tot tPp x:=cCc (eF (t:=bP) x.2.2.2) (by simp only[sI,vD];omega);have h3:tot (.sl tPp) p<=1073741824:=h;omega
  simp only[hd,hi,hw,zZ,aA];rw[fS (λk (a:Int×Bool)=>(a.1,a.2,(k:Int))) (a.1,a.2,(0:Int)) a x.2.2.2 (λ_ h a=>nR a h) (λ_=>0) (λ_=>0) 1 id rfl (by omega) (by rw[sum_nil];omega) (λk x a=>by omega) (λk h a hi hx hd hw hk hb=>by
   simp only[hd,hi,hw,zZ,aA];unfold nR;cases ca:a.2
   .rfl
   .cases c:decide (h.2.2.2.1<a.1)<;>simp[c,ca]) (λa=>by simp)]
  rfl) (λa=>by simp)]
 rw[aPv];unfold wB aCq;rw[aXx];rfl
def aB1(a b:den tPt):Bool:=
 cond (((jG a).length:Int) != ((jG b).length:Int)) (decide (((jG a).length:Int)<((jG b).length:Int)))
  (cond (wB (aCq a) != wB (aCq b)) (decide (wB (aCq a)>wB (aCq b))) (decide (aDh (aEk a)<aDh (aEk b))))
theorem bPz{a b:den tPt}(ha:tot tPt a<=1073741824)(hb:tot tPt b<=1073741824):rP a b=some (aB1 a b):=by
 unfold rP rR aB1;simp only[aTg (p:=a) (cCc ha (by decide)),aTg (p:=b) (cCc hb (by decide)),aX5 ha,aX5 hb,aU3 ha,aU3 hb,aA];cases ((jG a).length:Int) != ((jG b).length:Int)
 .cases wB (aCq a) != wB (aCq b)<;>rfl
 .rfl
theorem bO2{a b:den tPt}(ha:tot tPt a<=1073741824)(hb:tot tPt b<=1073741824):rT a b=some (aB1 a b):=by
 unfold rT mJ aB1;simp only[aF2 (p:=a) (cCc ha (by decide)),aF2 (p:=b) (cCc hb (by decide)),aYe ha,aYe hb,aU6 ha,aU6 hb,aA];cases ((jG a).length:Int) != ((jG b).length:Int)
 .cases wB (aCq a) != wB (aCq b)<;>rfl
 .rfl
def aCr(x:den tPt)(out:lPt):Nat->Nat
 | 0=>0
 | k+1=>cond (aB1 x ((out[k]?).getD [])) (aCr x out k) (k+1)
theorem aS6(x:den tPt)(out:lPt):∀k,aCr x out k<=k
 | 0=>cCx _
 | k+1=>by
  unfold aCr;cases aB1 x ((out[k]?).getD [])
  .exact cCx _
  .exact Nat.le_succ_of_le (aS6 x out k)
theorem aLu{x:den tPt}{out:lPt}{step:Int->Option (Int⊕Int)}(hl:out.length<=68719476736)
  (h0:step 0=some (.inr 0)) (h1:∀k (y:den tPt),out[k]? =some y->step ((k+1:Nat):Int)=some (cond (aB1 x y) (.inl (k:Int)) (.inr ((k+1:Nat):Int)))):
  ∀k,k<=out.length->aC step (k:Int)=some ((aCr x out k:Nat):Int)
 | 0,_=>bH h0
 | k+1,hk=>by
  have hy:out[k]? =some out[k]:=cCe (by omega);have hs:=h1 k _ hy;unfold aCr;rw[hy,cDc];cases hb:aB1 x out[k] with
  | true=>rw[hb]at hs;rw[dA hs];exact aLu hl h0 h1 k (by omega)
  | false=>rw[hb]at hs;exact bH hs
def aIj(x:den tPt)(out:lPt):lPt:=out.take (aCr x out out.length)++[x]++out.drop (aCr x out out.length)
theorem aPq(x:den tPt)(out:lPt):tot (.sl tPt) (aIj x out)=tot (.sl tPt) out+(1+tot tPt x):=by
 have h:=pM (t:=tPt) (out.take (aCr x out out.length)) (out.drop (aCr x out out.length));rw[List.take_append_drop]at h;unfold aIj;rw[pM,pM,aC5];omega
def aAh(l:lPt):lPt:=bT (λ_ x a=>aIj x a) 0 l []
theorem aLm(l:lPt):tot (.sl tPt) (aAh l)<=tot (.sl tPt) l:=by
 have h:=aBq (f:=λ_ x (a:lPt)=>aIj x a) (m:=tot (.sl tPt)) (cost:=λx=>1+tot tPt x) (λk x a=>cEf (aPq x a)) l 0 [];rw[aM3,xK]at h;unfold aAh;omega
theorem bTw{l:lPt}(h:tot (.sl tPt) l<=1073741824):tJ l=some (aAh l):=by
 have hl:=eF (t:=tPt) l;unfold tJ aAh ixb;rw[fS (λk (a:lPt)=>((k:Int),a)) ((0:Int),[]) [] l (λ_ x a=>aIj x a) (tot (.sl tPt)) (λx=>1+tot tPt x) 1073741824 id rfl (by omega) (by rw[aM3,xK];omega) (λk x a=>cEf (aPq x a)) (λk x a hi hx hd hw hk hb=>by
  have ha:=eF (t:=tPt) a;have hsm:SmB 68719476736 tPt x:=(bB (B:=1073741824) (t:=tPt) (by omega)).mono (by decide);simp only[hd,hi,hw,zZ,aA];rw[aLu (x:=x) (out:=a) (by omega) (by rfl) (λj y hy=>by
   have hlt:=(cCq.1 hy).1;have hty:=zP (t:=tPt) hy;have e1:decide (((j+1:Nat):Int)>0)=true:=by simp<;>omega
   have e2:wr (((j+1:Nat):Int) - 1)=(j:Int):=by
    have :wr (((j+1:Nat):Int) - 1)=((j+1:Nat):Int) - 1:=wri (by omega) (by omega);rw[this];omega
   have e3:decide ((j:Int)<(a.length:Int))=true:=by simp;omega
   simp only[e1,e2,e3,bZ,zZ,cCm,hy,aA,bPz (a:=x) (b:=y) (by omega) (by omega)];cases aB1 x y<;>rfl) a.length (cCx _)]
  have hp:=aS6 x a a.length;have s1:bY (0:Int) ((aCr x a a.length:Nat):Int) (a.length:Int)=true:=by
   have :=aCm (a:=0) (b:=aCr x a a.length) (n:=a.length);rw[show ((0:Nat):Int)=0 from rfl]at this;rw[this];simp;omega
  have s2:bY ((aCr x a a.length:Nat):Int) (a.length:Int) (a.length:Int)=true:=by rw[aCm];simp;omega
  simp only[aA,s1,s2,zZ,hO,aPp hp,aNu hsm];rw[aE (b:=24) (by decide) (by simp<;>omega),aE (b:=24) (by decide) (by simp<;>omega),aE (b:=24) (by decide) (by simp<;>omega)];simp only[zZ,cC4];rfl) (λa=>by simp)]
 rfl
theorem bUh{l:lPt}(h:tot (.sl tPt) l<=1073741824):tQ l=some (aAh l):=by
 have hl:=eF (t:=tPt) l;unfold tQ aAh ixb;rw[fS (λk (a:lPt)=>((k:Int),a)) ((0:Int),[]) [] l (λ_ x a=>aIj x a) (tot (.sl tPt)) (λx=>1+tot tPt x) 1073741824 id rfl (by omega) (by rw[aM3,xK];omega) (λk x a=>cEf (aPq x a)) (λk x a hi hx hd hw hk hb=>by
  have ha:=eF (t:=tPt) a;have hsm:SmB 68719476736 tPt x:=(bB (B:=1073741824) (t:=tPt) (by omega)).mono (by decide);simp only[hd,hi,hw,zZ,aA,aT,bI,aX,aY,aZ];rw[aLu (x:=x) (out:=a) (by omega) (by rfl) (λj y hy=>by
   have hlt:=(cCq.1 hy).1;have hty:=zP (t:=tPt) hy;have e1:decide (((j+1:Nat):Int)>0)=true:=by simp<;>omega
   have e2:wr (((j+1:Nat):Int) - 1)=(j:Int):=by
    have :wr (((j+1:Nat):Int) - 1)=((j+1:Nat):Int) - 1:=wri (by omega) (by omega);rw[this];omega
   have e3:decide ((j:Int)<(a.length:Int))=true:=by simp;omega
   simp only[e1,e2,e3,bZ,zZ,cCm,hy,aA,bO2 (a:=x) (b:=y) (by omega) (by omega)];cases aB1 x y<;>rfl) a.length (cCx _)]
  have hp:=aS6 x a a.length;have s1:bY (0:Int) ((aCr x a a.length:Nat):Int) (a.length:Int)=true:=by
   have :=aCm (a:=0) (b:=aCr x a a.length) (n:=a.length);rw[show ((0:Nat):Int)=0 from rfl]at this;rw[this];simp;omega
  have s2:bY ((aCr x a a.length:Nat):Int) (a.length:Int) (a.length:Int)=true:=by rw[aCm];simp;omega
  simp only[aA,s1,s2,zZ,hO,aPp hp,aFz hsm];rw[aE (b:=24) (by decide) (by simp<;>omega),aE (b:=24) (by decide) (by simp<;>omega),aE (b:=24) (by decide) (by simp<;>omega)];simp only[zZ,cC4,aA];rfl) (λa=>by simp)]
 rfl
def vF(l:lRv)(now:Int):lRv:=l.filter λx=>decide (now<=x.2.2)
theorem bLn{l:lRv}{now:Int}(h:l.length<=1073741824):gJ l now=some (vF l now):=by
 unfold gJ vF pj3;rw[fS (λk (a:lRv)=>((k:Int),a)) ((0:Int),[]) [] l (λ_ x a=>if decide (now<=x.2.2)=true then a++[x] else a) cCv (λ_=>1) 68719476736 id rfl (by omega) (by rw[dP];simp;omega) (λk x a=>by split<;>simp) (λk x a hi hx hd hw hk hb=>by
  simp only[hd,hi,hw,zZ,aA,aN,aE (b:=24) (n:=a.length) (m:=1) (by decide) (by omega)];cases decide (now<=x.2.2)<;>simp) (λa=>by simp),aAq (λx:den tRv=>decide (now<=x.2.2))]
 simp
theorem bKq{l:lRv}{now:Int}(h:l.length<=1073741824):gI l now=some (vF l now):=by
 unfold gI vF pj3;rw[fS (λk (a:lRv)=>((k:Int),a)) ((0:Int),[]) [] l (λ_ x a=>if decide (now<=x.2.2)=true then a++[x] else a) cCv (λ_=>1) 68719476736 id rfl (by omega) (by rw[dP];simp;omega) (λk x a=>by split<;>simp) (λk x a hi hx hd hw hk hb=>by
  simp only[hd,hi,hw,zZ,aA,aN,aE (b:=24) (n:=a.length) (m:=1) (by decide) (by omega)];cases decide (now<=x.2.2)<;>simp) (λa=>by simp),aAq (λx:den tRv=>decide (now<=x.2.2))]
 simp
def uZ(l:lRv)(p:den tPt)(now:Int):Bool:= !((vF l now).all λx=> !pO p x)
theorem aQm(l:lRv)(now:Int):(vF l now).length<=l.length:=cEc _ _
theorem bXn{l:lRv}{p:den tPt}{now:Int}(h:l.length<=1073741824)(hp:tot tPt p<=1073741824):yE l p now=some (uZ l p now):=by
 have ha:=aQm l now;unfold yE uZ ixb pj3;rw[bLn h,aA];rw[aM (l:=vF l now) (λ_ x=>if !pO p x then none else some true) (by omega) (λk x hi hd hw hm hk=>by
  have hy:(vF l now)[k]? =some x:=by rw[<- aF];exact hi
  simp only[hd,hy,hw,zZ,aA,bZ,cCm,aN,bJc hp];cases pO p x<;>rfl) (by simp),kK (λx:den tRv=> !pO p x)]
 cases (vF l now).all (λx=> !pO p x)<;>rfl
theorem bKr{l:lRv}{p:den tPt}{now:Int}(h:l.length<=1073741824)(hp:tot tPt p<=1073741824):wE l p now=some (uZ l p now):=by
 have ha:=aQm l now;unfold wE uZ ixb pj3;rw[bKq h,aA];rw[aM (l:=vF l now) (λ_ x=>if !pO p x then none else some true) (by omega) (λk x hi hd hw hm hk=>by
  have hy:(vF l now)[k]? =some x:=by rw[<- aF];exact hi
  simp only[hd,hy,hw,zZ,aA,bZ,cCm,aN,aUq hp];cases pO p x<;>rfl) (by simp),kK (λx:den tRv=> !pO p x)]
 cases (vF l now).all (λx=> !pO p x)<;>rfl
def xS(l:lRv)(p:lPt)(now:Int):lPt:=(p.filter λx=> !uZ l x now)++p.filter λx=>uZ l x now
def two(r:den tPt->Bool)(x:den tPt)(a:lPt×lPt):lPt×lPt:=cond (r x) (a.1,a.2++[x]) (a.1++[x],a.2)
theorem bVl(r:den tPt->Bool)(x:den tPt)(a:lPt×lPt):(two r x a).1.length+(two r x a).2.length<=a.1.length+a.2.length+1:=by
 unfold two;cases r x<;>simp<;>omega
theorem aQ6(r:den tPt->Bool):∀(l:lPt) (k:Nat) (a:lPt×lPt),bT (λ_ x a=>two r x a) k l a=(a.1++l.filter (λx=> !r x),a.2++l.filter r)
 | [],_,a=>by simp[bT]
 | x::l,k,a=>by
  simp only[bT];rw[aQ6 r l (k+1)];unfold two;cases h:r x<;>simp[h]
theorem bK7{l:lRv}{p:lPt}{now:Int}(h:l.length<=1073741824)(hp:tot (.sl tPt) p<=1073741824):jS l p now=some (xS l p now):=by
 have hl:=eF (t:=tPt) p;unfold jS xS pj2;rw[fS (λk (a:lPt×lPt)=>((k:Int),a.1,a.2)) ((0:Int),[],[]) ([],[]) p (λ_ x a=>two (λx=>uZ l x now) x a) (λa=>a.1.length+a.2.length) (λ_=>1) 68719476736 (λa=>(a.1,a.2)) rfl (by omega) (by rw[dP];simp;omega) (λk x a=>bVl _ x a) (λk x a hi hx hd hw hk hb=>by
  have ht:=zP (t:=tPt) hx;have hsm:SmB 68719476736 tPt x:=(bB (B:=1073741824) (t:=tPt) (by omega)).mono (by decide);simp only[hd,hi,hw,zZ,aA,bXn (l:=l) (p:=x) (now:=now) h (by omega),aNu hsm,aE (b:=24) (n:=a.1.length) (m:=1) (by decide) (by omega),aE (b:=24) (n:=a.2.length) (m:=1) (by decide) (by omega)];have e:two (λx=>uZ l x now) x a=cond (uZ l x now) (a.1,a.2++[x]) (a.1++[x],a.2):=rfl;rw[e];cases uZ l x now<;>rfl) (λa=>by simp),aQ6]
 have e:(p.filter λx=> !uZ l x now).length<=p.length:=cEc _ _;have e2:(p.filter λx=>uZ l x now).length<=p.length:=cEc _ _;simp only[aA,cC4];rw[aE (b:=24) (by decide) (by omega),zZ]
theorem bH0{l:lRv}{p:lPt}{now:Int}(h:l.length<=1073741824)(hp:tot (.sl tPt) p<=1073741824):jQ l p now=some (xS l p now):=by
 have hl:=eF (t:=tPt) p;unfold jQ xS;rw[fS (λk (a:lPt)=>((k:Int),a)) ((0:Int),[]) [] p (λ_ x a=>if (!uZ l x now)=true then a++[x] else a) cCv (λ_=>1) 68719476736 id rfl (by omega) (by rw[dP];simp;omega) (λk x a=>by split<;>simp) (λk x a hi hx hd hw hk hb=>by
  have ht:=zP (t:=tPt) hx;have hsm:SmB 68719476736 tPt x:=(bB (B:=1073741824) (t:=tPt) (by omega)).mono (by decide);simp only[hd,hi,hw,zZ,aA,bKr (l:=l) (p:=x) (now:=now) h (by omega),aFz hsm,aE (b:=24) (n:=a.length) (m:=1) (by decide) (by omega)];cases uZ l x now<;>simp) (λa=>by simp),aAq (λx:den tPt=> !uZ l x now)]
 have e:(p.filter λx=> !uZ l x now).length<=p.length:=cEc _ _;simp only[id,aA,cC4];rw[fS (λk (a:lPt)=>((k:Int),a)) ((0:Int),p.filter λx=> !uZ l x now) (p.filter λx=> !uZ l x now) p (λ_ x a=>if uZ l x now=true then a++[x] else a) cCv (λ_=>1) 68719476736 id rfl (by omega) (by rw[dP];omega) (λk x a=>by split<;>simp) (λk x a hi hx hd hw hk hb=>by
  have ht:=zP (t:=tPt) hx;have hsm:SmB 68719476736 tPt x:=(bB (B:=1073741824) (t:=tPt) (by omega)).mono (by decide);simp only[hd,hi,hw,zZ,aA,bKr (l:=l) (p:=x) (now:=now) h (by omega),aFz hsm,aE (b:=24) (n:=a.length) (m:=1) (by decide) (by omega)];cases uZ l x now<;>simp) (λa=>by simp),aAq (λx:den tPt=>uZ l x now)]
 rfl
theorem aQi(r:den tPt->Bool):∀p:lPt,tot (.sl tPt) (p.filter (λx=> !r x))+tot (.sl tPt) (p.filter r)=tot (.sl tPt) p
 | []=>rfl
 | x::p=>by
  have ih:=aQi r p;rw[hH];cases h:r x
  .have e:=hH (t:=tPt) x (p.filter λx=> !r x);simp only[cE3,h,cCh,zV,cCs,zU];omega
  .have e:=hH (t:=tPt) x (p.filter r);simp only[cE3,h,cCd,zV,cCs,zU];omega
theorem bAz(l:lRv)(p:lPt)(now:Int):tot (.sl tPt) (xS l p now)=tot (.sl tPt) p:=by
 unfold xS;rw[pM];exact aQi (λx=>uZ l x now) p
def aCg(f:den tFl)(p:lPt)(now:Int):lPt:=(xS f.2.2.2.2.2.2.2.2 (aAh p) now).take (min (xS f.2.2.2.2.2.2.2.2 (aAh p) now).length 24)
theorem bBi(n:Nat):(if (24:Int)<(n:Int) then (24:Int) else (n:Int))=((min n 24:Nat):Int):=by
 by_cases c:24<n
 .rw[zT (by omega),Nat.min_eq_right (by omega)];rfl
 .rw[zS (by omega),Nat.min_eq_left (by omega)]
theorem aXh(n:Nat):bY (0:Int) ((min n 24:Nat):Int) (n:Int)=true:=by
 have :=aCm (a:=0) (b:=min n 24) (n:=n);rw[show ((0:Nat):Int)=0 from rfl]at this;rw[this];simp;omega
theorem bWy{f:den tFl}{p:lPt}{now:Int}(h:tot tFl f<=1073741824)(hp:tot (.sl tPt) p<=1073741824):vI f p now=some (f.1,f.2.1,f.2.2.1,f.2.2.2.1,0,0,f.2.2.2.2.1,aCg f p now,f.2.2.2.2.2.2.2.2):=by
 have hf:SmB 68719476736 tFl f:=(bB h).mono (by decide);have hv:f.2.2.2.2.2.2.2.2.length<=1073741824:=cCc (eF (t:=tRv) _) (cG (cG (cG (cG (cG (cG (cG (cG h))))))));have hs:=aLm p;unfold vI aCg pj9 zz6 zz8;simp only[aN,bBj hf,bTw hp,bK7 (l:=f.2.2.2.2.2.2.2.2) (p:=aAh p) (now:=now) hv (by omega),bZq,aA,bBi,aXh,zZ,cCm];rfl
theorem bYe{f:den tFl}{p:lPt}{now:Int}(h:tot tFl f<=1073741824)(hp:tot (.sl tPt) p<=1073741824):qP f p now=some (f.1,f.2.1,f.2.2.1,f.2.2.2.1,aCg f p now,0,0,f.2.2.2.2.1,f.2.2.2.2.2.2.2.2):=by
 have hf:SmB 68719476736 tFl f:=(bB h).mono (by decide);have hv:f.2.2.2.2.2.2.2.2.length<=1073741824:=cCc (eF (t:=tRv) _) (cG (cG (cG (cG (cG (cG (cG (cG h))))))));have hs:=aLm p;unfold qP aCg pj9 zz6 zz8;simp only[aN,aD0 hf,bUh hp,bH0 (l:=f.2.2.2.2.2.2.2.2) (p:=aAh p) (now:=now) hv (by omega),aWh,aA,bBi,aXh,zZ,hO];rfl
theorem bIn(f:den tFl)(p:lPt)(now:Int):tot (.sl tPt) (aCg f p now)<=tot (.sl tPt) p:=by
 have h1:=aLm p;have h2:=bAz f.2.2.2.2.2.2.2.2 (aAh p) now;have h3:=aO7 (t:=tPt) (xS f.2.2.2.2.2.2.2.2 (aAh p) now) (min (xS f.2.2.2.2.2.2.2.2 (aAh p) now).length 24);unfold aCg;omega
theorem bBw{g:den tSc}(h1:g.2.1.length<=1073741824)(h2:g.2.2.length<=1073741824):iK g=some g:=by
 unfold iK pj3;rw[aE (b:=40) (by decide) (by simp;omega),aE (b:=32) (by decide) (by simp;omega)];simp[aT,bI,aX,aY,aZ]
def aB8(l:lUs)(id s d:Int):Int:=if place l id s d<0 then 0 else ((l[(place l id s d).toNat]?).map (·.2.2.2)).getD 0
theorem bY7{g:den tSc}{id s d:Int}(h:g.2.2.length<=1073741824):qJ g id s d=some (aB8 g.2.2 id s d):=by
 unfold qJ aB8;rw[aSy h,aA];rcases aYu g.2.2 id s d with hp | ⟨j,x,hp,hx,hj⟩
 .rw[hp];rfl
 .rw[hp,zW (by omega),zY,aF,hx,zS (by omega)];simp[hx]
def aAg(l:lUs)(id s d:Int):lUs:=
 if place l id s d<0 then l++[(id,s,d,1)] else match l[(place l id s d).toNat]? with
  | some x=>l.set (place l id s d).toNat (x.1,x.2.1,x.2.2.1,wr (x.2.2.2+1))
  | none=>l
theorem aHr(l:lUs)(id s d:Int):(aAg l id s d).length<=l.length+1:=by
 unfold aAg;split
 .simp
 .split<;>simp
theorem bWn{g:den tSc}{id s d:Int}(h1:g.2.1.length<=1073741824)(h2:g.2.2.length<=1073741824):wI g id s d=some (g.1,g.2.1,aAg g.2.2 id s d):=by
 unfold wI aAg ixb pj3;rw[show ((g.1,g.2.1,g.2.2):den tSc)=g from rfl,bBw h1 h2,aA,aSy h2,aA];rcases aYu g.2.2 id s d with hp | ⟨j,x,hp,hx,hj⟩
 .rw[hp,aE (b:=32) (by decide) (by omega)];rfl
 .have hd:decide ((j:Int)<(g.2.2.length:Int))=true:=by simpa using hj
  have hd2:decide (j<g.2.2.length)=true:=by simpa using hj
  have hd0:decide ((0:Int)<=(j:Int))=true:=by simp
  rw[hp,zW (show ¬ (j:Int)<0 by omega),zY,zS (by omega)];simp only[hd,hd0,hd2,zZ,cCm,hx,aA]
def nS(g:den tSc)(id s d now:Int):Int×Bool×lRs×lUs:=
 if aB8 g.2.2 id s d<tF g id s d now then (g.1,true,g.2.1,aAg g.2.2 id s d)
 else if aB8 g.2.2 0 s d<tF g 0 s d now then (g.1,true,g.2.1,aAg g.2.2 0 s d)
 else (g.1,false,g.2.1,g.2.2)
theorem aTe{g:den tSc}{id s d now:Int}(h1:g.2.1.length<=1073741824)(h2:g.2.2.length<=1073741824):lO g id s d now=some (nS g id s d now):=by
 unfold lO nS pj2 pj3;rw[show ((g.1,g.2.1,g.2.2):den tSc)=g from rfl];simp only[bY7 h2,aVe h1,bMh h1,bWn h1 h2,bBw h1 h2,aA];have h0:tF g 0 s d now=free g.2.1 g.1 s d now:=rfl;rw[h0]
 by_cases hid:id=0
 .subst hid;rw[h0]
  by_cases hv:aB8 g.2.2 0 s d<free g.2.1 g.1 s d now<;>simp[hv]
 .have hr:tF g id s d now=aBp g.2.1 id s d now:=by unfold tF;simp[hid]
  have hne:(id != 0)=true:=by simpa using hid
  rw[hr,hne,zZ,aA]
  by_cases hu:aB8 g.2.2 id s d<aBp g.2.1 id s d now
  .simp[hu]
  .by_cases hv:aB8 g.2.2 0 s d<free g.2.1 g.1 s d now<;>simp[hu,hv]
def sP(t:den tTo)(r d:Int):Int:=
 match bU (λk x=>if dB x r d then some (k:Int) else none) 0 t.2 with
 | some i=>i
 | none=> -1
theorem aHe(t:den tTo)(r d:Int):sP t r d= -1\/ ∃(j:Nat) (x:den tLk),sP t r d=(j:Int)/\t.2[j]? =some x/\dB x r d=true:=by
 unfold sP;cases h:bU (λk x=>if dB x r d then some (k:Int) else none) 0 t.2 with
 | none=>exact .inl rfl
 | some i=>
  obtain⟨j,x,h1,h2,h3⟩:=aKm h;exact .inr ⟨j,x,by simpa using h2,h1,h3⟩
theorem bOa{t:den tTo}{r d:Int}(h:t.2.length<=68719476736):uB t r d=some (sP t r d):=by
 unfold uB pj5;rw[aM (l:=t.2) (λk x=>if dB x r d then some (k:Int) else none) (by omega) (λk x hi hd hw hx hk=>by
  simp only[hd,hi,hw,zZ,aA,bBr];cases dB x r d<;>rfl) (by simp)]
 unfold sP;cases bU (λk x=>if dB x r d then some (k:Int) else none) 0 t.2<;>rfl
theorem aOx{t:den tTo}{r d:Int}(h:t.2.length<=68719476736):lG t r d=some (sP t r d):=by
 unfold lG pj5;rw[aM (l:=t.2) (λk x=>if dB x r d then some (k:Int) else none) (by omega) (λk x hi hd hw hx hk=>by
  simp only[hd,hi,hw,zZ,aA,bCo];cases dB x r d<;>rfl) (by simp)]
 unfold sP;cases bU (λk x=>if dB x r d then some (k:Int) else none) 0 t.2<;>rfl
def bDb(x:den tLk)(r d:Int):q30:=cond (x.1==r&&x.2.1==d) (x.2.2.1,x.2.2.2.1) (x.1,x.2.1)
def remote(t:den tTo)(r d:Int):q30:=if sP t r d<0 then (-1,0) else bDb ((t.2[(sP t r d).toNat]?).getD (0,0,0,0,0)) r d
theorem bOk{t:den tTo}{r d:Int}(h:t.2.length<=68719476736):tN t r d=some (remote t r d):=by
 unfold tN remote pj2;simp only[aN,bOa h,aA];rcases aHe t r d with e | ⟨j,x,e,hx,he⟩
 .rw[e];rfl
 .rw[e,zW (by omega),zY,zS (by omega),aF,hx,cCm,hx,aA,cDc];unfold bDb;cases x.1==r<;>cases x.2.1==d<;>rfl
theorem aGf{t:den tTo}{r d:Int}(h:t.2.length<=68719476736):gB t r d=some (remote t r d):=by
 unfold gB remote pj2;simp only[aN,aOx h,aA];rcases aHe t r d with e | ⟨j,x,e,hx,he⟩
 .rw[e];rfl
 .rw[e,zW (by omega),zY,zS (by omega),aF,hx,cCm,hx,aA,cDc];unfold bDb;cases x.1==r<;>cases x.2.1==d<;>rfl
def bSs(x:den tLk)(r d:Int):Int:=cond (x.2.2.2.2==1) 1 (cond (x.2.2.2.2==3) 4 (cond (x.2.2.2.2==2) (cond (x.1==r&&x.2.1==d) 2 3) 0))
def aG2(t:den tTo)(r d:Int):Int:=cond (d==0) 5 (if sP t r d<0 then 0 else bSs ((t.2[(sP t r d).toNat]?).getD (0,0,0,0,0)) r d)
theorem aT4{t:den tTo}{r d:Int}(h:t.2.length<=68719476736):dU t r d=some (aG2 t r d):=by
 unfold dU aG2 pj2 zz4;simp only[aN,aOx h,aA];cases d==0
 .rcases aHe t r d with e | ⟨j,x,e,hx,he⟩
  .rw[e];rfl
  .rw[e,zW (by omega),zY,zY,zY,zS (by omega),aF,hx,cCm,hx,aA,cDc];unfold bSs;cases x.2.2.2.2==1<;>cases x.2.2.2.2==3<;>cases x.2.2.2.2==2<;>cases x.1==r<;>cases x.2.1==d<;>rfl
 .rfl
def aM2(a b:Int):Bool:=cond (a==5||a==2) (b==2||b==5||(b==1||b==3)) (cond (a==3) (b==2||b==5) (cond (a==1) (b==2||b==5||b==1) false))
theorem bIo(a b:Int):lA a b=some (aM2 a b):=by
 unfold lA aM2;cases c5:a==5<;>cases c2:a==2<;>cases a==3<;>cases a==1<;>cases b==2<;>cases b==5<;>cases b==1<;>cases b==3<;>first | rfl | (simp at c5 c2;omega)
def aWn(t:den tTo)(s:den aBe):Bool:=aM2 (aG2 t s.1 s.2.1) (aG2 t s.1 s.2.2)&&(!(s.2.1==s.2.2)||s.2.1==0)
theorem bUv{t:den tTo}{s:den aBe}(h:t.2.length<=68719476736):qB t s=some (aWn t s):=by
 unfold qB aWn pj2;simp only[aN,aT4 h,bIo,aA];rw[show (s.2.1 != 0)= !(s.2.1==0) from rfl];cases aM2 (aG2 t s.1 s.2.1) (aG2 t s.1 s.2.2)<;>cases s.2.1==s.2.2<;>cases s.2.1==0<;>rfl
def aV9(s i:Int):Bool:=inR s 0 65535&&(inR i 0 15&&(aAb .i64 (shr .i64 s i) 1==1))
theorem bVc(s i:Int):wH s i=some (aV9 s i):=by
 unfold wH aV9 qW zN;simp only[eZ,aA];cases inR s 0 65535
 .rfl
 .cases c:inR i 0 15
  .rfl
  .simp only[zZ,aA,zW (show ¬ i<0 by have :=cE.1 c;omega),zY,cCi]
def bDu(s i:Int):Int:=cond (inR s 0 65535&&inR i 0 15) (bOr .i64 s (shl .i64 1 i)) s
theorem bY5(s i:Int):rI s i=some (bDu s i):=by
 unfold rI bDu qW zN;simp only[eZ,aA];cases inR s 0 65535
 .rfl
 .cases c:inR i 0 15
  .rfl
  .rw[zW (by have :=cE.1 c;omega)];rfl
theorem aZ4{α:Type}(p:α->Bool)(N:Int):∀(l:List α) (k:Nat),N=((k+l.length:Nat):Int)->aJn (λk x (_:Unit)=>if p x then .inl () else .inr (k:Int)) (λ_=>N) k l ()=((k+l.findIdx (λx=> !p x):Nat):Int)
 | [],k,h=>by simpa [aJn] using h
 | x::xs,k,h=>by
  simp only[aJn,List.findIdx_cons];cases hp:p x with
  | true=>
   have :=aZ4 p N xs (k+1) (by rw[h];simp;omega);simp only[zV,this,cCd,zY];omega
  | false=>simp
def aAc(l:List Int)(n:Int):Nat:=l.findIdx λx=> !decide (x<n)
theorem bCs(l:List Int)(n:Int):aAc l n<=l.length:=List.findIdx_le_length
theorem bIe{l:List Int}{n:Int}{step:Int->Option (Int⊕Int)}(hl:l.length<=68719476736)
  (h:∀(k:Nat) (x:Int),idx l (k:Int)=some x->l[k]? =some x->decide ((k:Int)<(l.length:Int))=true->IntKind.i64.wrap ((k:Int)+1)=((k+1:Nat):Int)->step (k:Int)=some (if decide (x<n) then .inl ((k+1:Nat):Int) else .inr (k:Int)))
  (he:step (l.length:Int)=some (.inr (l.length:Int))):aC step (0:Int)=some (aAc l n:Int):=by
 rw[aNn (λk (_:Unit)=>(k:Int)) (0:Int) () l (λk x _=>if decide (x<n) then .inl () else .inr (k:Int)) (λ_ _=>True) (λ_=>(l.length:Int)) rfl (by omega) trivial (λk x a hi hx hd hw hk _=>by
  refine⟨?_,λ_ _=>trivial⟩;rw[h k x hi hx hd hw];cases decide (x<n)<;>rfl) (λ_ _=>he)]
 rw[aZ4 (λx=>decide (x<n)) (l.length:Int) l 0 (by simp)];simp[aAc]
def wT(l:List Int)(n:Int):List Int:=if l[aAc l n]? =some n then l else l.take (aAc l n)++[n]++l.drop (aAc l n)
theorem aKe(l:List Int)(n:Int):(wT l n).length<=l.length+1:=by
 unfold wT;split
 .omega
 .simp;omega
theorem aIq{k n:Nat}(h:k<=n):bY (0:Int) (k:Int) (n:Int)=true:=by
 simp only[bY,cCf,zR];omega
theorem aCy{k n:Nat}(h:k<=n):bY (k:Int) (n:Int) (n:Int)=true:=by
 simp only[bY,cCf,zR];omega
theorem aGh{α:Type}{l:List α}{k:Nat}:cut l (k:Int) (l.length:Int)=l.drop k:=by
 unfold cut;rw[cCm];apply List.take_of_length_le;simp
theorem bU3{l:List Int}(h:l.length<=68719476736):vM l=some l:=by
 unfold vM;rw[aE (n:=([]:List Int).length) (by decide) (by simpa using h)];rfl
theorem bLj{l:List Int}{n:Int}{b:Bool}(hb:(l[aAc l n]? =some n)=(b=true)):wT l n=cond b l (l.take (aAc l n)++[n]++l.drop (aAc l n)):=by
 unfold wT;cases b with
 | true=>rw[zT (by rw[hb])];rfl
 | false=>rw[zS (by rw[hb];simp)];rfl
theorem aQq{l:List Int}{n:Int}(h:l.length<=4294967296):vK l n=some (wT l n):=by
 have hp:=bCs l n;unfold vK ixb;rw[bIe (l:=l) (n:=n) (by omega) (λk x hi hx hd hw=>by
  simp only[hd,zZ,bZ,cCm,hx,aA,hw];cases decide (x<n)<;>rfl) (by simp)]
 simp only[aA,aIq hp,aCy hp,hO,aGh,zZ,aT,bI,aX,aY,aZ,cC4,cDj];rw[aE (b:=8) (n:=0) (m:=(l.take (aAc l n)).length) (by decide) (by simp;omega),aE (b:=8) (n:=(l.take (aAc l n)).length) (m:=1) (by decide) (by simp;omega),aE (b:=8) (m:=(l.drop (aAc l n)).length) (by decide) (by simp;omega)]
 by_cases hlt:aAc l n<l.length
 .have hx:l[aAc l n]? =some l[aAc l n]:=cCe hlt;rw[zX (by omega),zZ,bZ,zZ,zZ,cCm,hx,aA,aA];rw[bLj (b:=l[aAc l n]==n) (by rw[hx];simp)];cases l[aAc l n]==n<;>rfl
 .rw[zW (by omega),zY,aA];rw[bLj (b:=false) (by rw[List.getElem?_eq_none (by omega)];simp)];rfl
def qX(r:Int)(x:den tLk)(a:List Int):List Int:=cond (x.2.2.1==r) (wT (cond (x.1==r) (wT a x.2.1) a) x.2.2.2.1) (cond (x.1==r) (wT a x.2.1) a)
theorem aUr(r:Int)(x:den tLk)(a:List Int):(qX r x a).length<=a.length+2:=by
 unfold qX;have h1:=aKe a x.2.1;have h2:=aKe (wT a x.2.1) x.2.2.2.1;have h3:=aKe a x.2.2.2.1;cases x.1==r<;>cases x.2.2.1==r<;>simp only[zZ,zY]<;>omega
def iB(t:den tTo)(r:Int):List Int:=bT (λ_ x a=>qX r x a) 0 t.2 []
theorem aG4(t:den tTo)(r:Int):(iB t r).length<=2 * t.2.length:=by
 have h:=aBq (f:=λ_ x (a:List Int)=>qX r x a) (m:=cCv) (cost:=λ_=>2) (λk x a=>aUr r x a) t.2 0 [];rw[aI3]at h;simpa [iB] using h
theorem aM9{t:den tTo}{r:Int}(h:t.2.length<=1073741824):gX t r=some (iB t r):=by
 unfold gX;rw[(wJ (λk (a:List Int)=>((k:Int),a)) ((0:Int),[]) [] t.2 (λ_ x a=>qX r x a) cCv (λ_=>2) 4294967296 id rfl (by omega) (by rw[aI3];simp;omega) (λk x a hi hx hd hw hk hb=>by
  refine⟨?_,aUr r x a⟩;have h1:=aKe a x.2.1;simp only[hd,hi,hw,zZ,aA,aQq (l:=a) (by omega),aQq (l:=wT a x.2.1) (by omega)];unfold qX;cases x.1==r<;>cases x.2.2.1==r<;>simp only[zZ,zY,aA,aQq (l:=a) (by omega),aQq (l:=wT a x.2.1) (by omega)]) (λa=>by simp)).1]
 rfl
theorem aPm{α:Type}(l:List α):(l.map λ_=>0).sum=0:=by
 induction l with
 | nil=>rfl
 | cons x l ih=>rw[cC1,cDw,ih]
def aAi(t:den tTo)(dead:List Int)(r:Int):Int:=bT (λ_ x a=>cond (xB dead (sP t r x)) (bDu a x) a) 0 (iB t r) 0
theorem bCd{t:den tTo}{dead:List Int}{r:Int}(h:t.2.length<=1073741824)(hd:dead.length<=68719476736):eM t dead r=some (aAi t dead r):=by
 have hl:=aG4 t r;unfold eM ixb pj2;simp only[aN,aM9 h,aA];rw[fS (λk (a:Int)=>(a,(k:Int))) ((0:Int),(0:Int)) 0 (iB t r) (λ_ x a=>cond (xB dead (sP t r x)) (bDu a x) a) (λ_=>0) (λ_=>0) 0 id rfl (by omega) (by rw[aPm];exact cCx _) (λ_ _ _=>cCx _) (λk x a hi hx hd' hw hk hb=>by
  simp only[hd',bZ,cCm,hx,hw,zZ,aA,aOx (t:=t) (r:=r) (d:=x) (by omega),aGa hd,bY5];cases xB dead (sP t r x)<;>rfl) (λa=>by simp)]
 rfl
def aIh(key ts beta:Int)(h:den bP):Int:=aDh (([key]++[ts,beta,h.1,h.2.1,h.2.2.1,h.2.2.2.1])++[key])
theorem bY4(key ts beta:Int)(h:den bP):aA0 key ts beta h=some (aIh key ts beta h):=by
 unfold aA0 uL aIh;rw[aE (b:=8) (n:=[key].length) (by decide) (by simp),aE (b:=8) (by decide) (by simp),aXi (by simp)];rfl
theorem bJy(key ts beta:Int)(h:den bP):wU key ts beta h=some (aIh key ts beta h):=by
 unfold wU uP aIh;rw[aE (b:=8) (n:=[key].length) (by decide) (by simp),aE (b:=8) (by decide) (by simp),aY6 (by simp)];rfl
def h0:den bP:=(0,0,0,0,0)
def bDf(t:den tTo)(r:Int):Int:=((t.1[r.toNat]?).getD (0,false,0)).2.2
def xQ(t:den tTo)(ts beta:Int)(h:den bP):Bool:=oG h&&(cD t h.1&&(h.2.2.2.2==aIh (bDf t h.1) ts beta h))
theorem bY1{t:den tTo}{ts beta:Int}{h:den bP}(ht:t.1.length<=68719476736):qS t ts beta h=some (xQ t ts beta h):=by
 unfold qS xQ pj2 pj5 zz4;simp only[aN,aXc,aDb ht,aA,bY4];cases oG h
 .rfl
 .cases c:cD t h.1
  .rfl
  .obtain⟨x,hx,ix⟩:=aEn c;rw[ix,bDf,hx];rfl
theorem aZ6{t:den tTo}{ts beta:Int}{h:den bP}(ht:t.1.length<=68719476736):gE t ts beta h=some (xQ t ts beta h):=by
 unfold gE xQ pj2 pj5 zz4;simp only[aN,aJm,aBy ht,aA,bJy];cases oG h
 .rfl
 .cases c:cD t h.1
  .rfl
  .obtain⟨x,hx,ix⟩:=aEn c;rw[ix,bDf,hx];rfl
def aE5(t:den tTo)(l:bQ)(k:Nat)(x:den bP):Bool:=oG x&&(cD t x.1&&(l.take k).all λy=> !(y.1==x.1))
def aKh(t:den tTo)(l:bQ):Bool:=(l.zipIdx 0).all λz=>aE5 t l z.2 z.1
theorem bUf{t:den tTo}{l:bQ}(ht:t.1.length<=68719476736)(hl:l.length<=68719476736):aA3 t l=some (inR (l.length:Int) 1 8&&aKh t l):=by
 unfold aA3 aKh pj2 pj5;rw[aM (l:=l) (λk x=>if aE5 t l k x then none else some false) (by omega) (λk x hi hd hw hm hk=>by
  simp only[hd,hi,zZ,aA,aN,aXc,aDb ht,yF hk,hO,hw];rw[aM (l:=l.take k) (λ_ y=>if !(y.1==x.1) then none else some (cCa (cCa false))) (by rw[wS hk];omega) (λj y hi hd hw hm hk=>by
   simp only[hd,hi,hw,zZ,aA];cases y.1==x.1<;>rfl) (by simp),kK (λy:den bP=> !(y.1==x.1))]
  unfold aE5;cases oG x<;>cases cD t x.1<;>cases (l.take k).all (λy=> !(y.1==x.1))<;>rfl) (by simp),aAj (aE5 t l)]
 rw[rE,aA];cases inR (l.length:Int) 1 8<;>cases (l.zipIdx 0).all (λz=>aE5 t l z.2 z.1)<;>rfl
def aKf(t:den tTo)(p:den tPp)(x y:den bP):Bool:= !(pEg p x==0)&&((remote t x.1 (pEg p x)).1==y.1&&(remote t x.1 (pEg p x)).2==pIn p y)
def zD(t:den tTo)(p:den tPp)(k:Nat)(y:den bP):Bool:=decide (k=0)||aKf t p ((p.2.2.2[k - 1]?).getD h0) y
def rZ(t:den tTo)(p:den tPp):Bool:=
 inR (p.2.2.2.length:Int) 1 8&&(inR p.1 1 4&&(inR p.2.1 0 1000000&&(mC p.2.2.1&&(aKh t p.2.2.2&&(p.2.2.2.zipIdx 0).all λz=>zD t p z.2 z.1))))
theorem bQ2(t:den tTo)(p:den tPp):((p.2.2.2.drop 1).zipIdx 0).all (λz=>aKf t p ((p.2.2.2[z.2]?).getD h0) z.1)=(p.2.2.2.zipIdx 0).all (λz=>zD t p z.2 z.1):=by
 rw[cC7,xH (λk x=>aKf t p ((p.2.2.2[k]?).getD h0) x),xH (zD t p)];constructor
 .intro h k x hx;cases k with
  | zero=>rfl
  | succ k=>
   have :=h k x (by rw[cD2,Nat.add_comm];exact hx);simpa [zD] using this
 .intro h k x hx;rw[cD2,Nat.add_comm]at hx;have :=h (k+1) x hx;simpa [zD] using this
theorem aMt(a b:Int):(a != b)= !(a==b):=rfl
theorem bJ0{t:den tTo}{p:den tPp}(ht:t.1.length<=68719476736)(ht2:t.2.length<=68719476736)(hl:p.2.2.2.length<=68719476736):tM t p=some (rZ t p):=by
 unfold tM rZ pj2 pj4;rw[aM (l:=p.2.2.2.drop 1) (λk y=>if aKf t p ((p.2.2.2[k]?).getD h0) y then none else some false) (by rw[cD6];omega) (λk y hi hd hw hm hk=>by
  have hy:p.2.2.2[k+1]? =some y:=by rw[aF,cD2,Nat.add_comm]at hi;exact hi
  have hlt:k+1<p.2.2.2.length:=(cCq.1 hy).1;obtain⟨x,hx⟩:∃x,p.2.2.2[k]? =some x:=⟨_,cCe (by omega)⟩
  have hd':decide ((k:Int)<wr ((p.2.2.2.length:Int) - 1))=true:=by rw[pI hl];simp;omega
  have hy':idx p.2.2.2 ((k+1:Nat):Int)=some y:=by rw[aF];exact hy
  simp only[hd',zZ,aN,bTg hx hl,aA,aF,hx,hw,hy,bSh hy hl,bOk ht2,cDc,aMt];unfold aKf;cases pEg p x==0<;>cases (remote t x.1 (pEg p x)).1==y.1<;>cases (remote t x.1 (pEg p x)).2==pIn p y<;>rfl) (by
   rw[cD6,pI hl,zW (by omega)];rfl),aAj (λk y=>aKf t p ((p.2.2.2[k]?).getD h0) y),bQ2]
 simp only[aN,rE,bUf ht hl,aNl,aA];cases inR (p.2.2.2.length:Int) 1 8<;>cases inR p.1 1 4<;>cases inR p.2.1 0 1000000<;>cases mC p.2.2.1<;>cases aKh t p.2.2.2<;>cases (p.2.2.2.zipIdx 0).all (λz=>zD t p z.2 z.1)<;>rfl
theorem aD8{α S:Type}(p:Nat->α->Bool)(o r:S):∀(l:List α) (k:Nat),aJn (λk x (_:Unit)=>if p k x then .inl () else .inr r) (λ_=>o) k l ()=if (l.zipIdx k).all (λz=>p z.2 z.1) then o else r
 | [],_=>rfl
 | x::xs,k=>by
  simp only[aJn,List.zipIdx_cons,List.all_cons];rcases cE2 (p k x) with h | h
  .simp only[h,zV,cCi];exact aD8 p o r xs (k+1)
  .simp[h]
theorem bP5{p:den tPp}(hl:p.2.2.2.length<=68719476736):tH p=some (p.2.2.2.map (·.1)):=by
 unfold tH;rw[(wJ (λk (a:List Int)=>((k:Int),a)) ((0:Int),[]) [] p.2.2.2 (λ_ x a=>a++[x.1]) cCv (λ_=>1) 68719476736 id rfl (by omega) (by rw[dP];simpa using hl) (λk x a hi hx hd hw hk hb=>by
  simp only[hd,hi,hw,zZ,aA,aE (b:=8) (by decide) hb];simp) (λa=>by simp)).1,fP (λx:den bP=>x.1)]
 simp
theorem bO0(l:bQ)(k:Nat)(n:Int):xB ((l.map (·.1)).take k) n= !((l.take k).all λy=> !(y.1==n)):=by
 unfold xB;rw[<- List.map_take,List.all_map];rfl
theorem bMl{t:den tTo}{p:den tPp}(ht:t.1.length<=68719476736)(ht2:t.2.length<=68719476736)(hl:p.2.2.2.length<=68719476736):uA t p=some (rZ t p):=by
 unfold uA rZ pj2 pj4 pj5;simp only[aN,bP5 hl,aA];have hR:(p.2.2.2.map (·.1)).length=p.2.2.2.length:=by simp
 rw[aNn (λk (_:Unit)=>(p.2.2.2.map (·.1),(k:Int))) (p.2.2.2.map (·.1),(0:Int)) () p.2.2.2 (λk x _=>if (aE5 t p.2.2.2 k x&&zD t p k x) then .inl () else .inr (.inr false)) (λ_ _=>True) (λ_=> .inl ()) rfl (by omega) trivial (λk x a hi hx hd hw hk _=>by
  refine⟨?_,λ_ _=>trivial⟩;have hr:(p.2.2.2.map (·.1))[k]? =some x.1:=by rw[cEj,hx];rfl
  have hs:bY (0:Int) (k:Int) ((p.2.2.2.map (·.1)).length:Int)=true:=by rw[hR];exact yF hk
  have hh:fJ ((p.2.2.2.map (·.1)).take k) x.1=some (!((p.2.2.2.take k).all λy=> !(y.1==x.1))):=by
   rw[aGa (by simp;omega),bO0]
  simp only[hd,zZ,hi,aF,hr,aA,aJm,aBy ht,hs,hO,hh,hw];cases k with
  | zero=>
   rw[show decide (((0:Nat):Int)>0)=false from by decide];unfold aE5 zD;cases oG x<;>cases cD t x.1<;>cases (p.2.2.2.take 0).all (λy=> !(y.1==x.1))<;>rfl
  | succ j=>
   have hw1:wr (((j+1:Nat):Int) - 1)=(j:Int):=(wri (by omega) (by omega)).trans (by omega);obtain⟨y,hy⟩:∃y,p.2.2.2[j]? =some y:=⟨_,cCe (by omega)⟩
   have hr1:(p.2.2.2.map (·.1))[j]? =some y.1:=by rw[cEj,hy];rfl
   rw[show decide (((j+1:Nat):Int)>0)=true from by simp];simp only[hw1,aF,hr1,aA,aWo hy hl,bG7 hx hl,aGf ht2,zZ,aMt];unfold aE5 zD aKf;rw[Nat.add_sub_cancel,hy,cDc];cases oG x<;>cases cD t x.1<;>cases (p.2.2.2.take (j+1)).all (λy=> !(y.1==x.1))<;>cases pEg p y==0<;>cases (remote t y.1 (pEg p y)).1==x.1<;>cases (remote t y.1 (pEg p y)).2==pIn p x<;>rfl) (λa _=>by simp)]
 rw[aD8 (λk x=>aE5 t p.2.2.2 k x&&zD t p k x)];have hsplit:(p.2.2.2.zipIdx 0).all (λz=>aE5 t p.2.2.2 z.2 z.1&&zD t p z.2 z.1)=(aKh t p.2.2.2&&(p.2.2.2.zipIdx 0).all λz=>zD t p z.2 z.1):=by
  unfold aKh;rw[cC7];simp only[cC6,cCf];exact⟨λh=>⟨λz hz=>(h z hz).1,λz hz=>(h z hz).2⟩,λh z hz=>⟨h.1 z hz,h.2 z hz⟩⟩
 rw[hsplit];simp only[eZ,aD1,aA];cases inR (p.2.2.2.length:Int) 1 8<;>cases inR p.1 1 4<;>cases inR p.2.1 0 1000000<;>cases mC p.2.2.1<;>cases aKh t p.2.2.2<;>cases (p.2.2.2.zipIdx 0).all (λz=>zD t p z.2 z.1)<;>rfl
def aB3(k:Int):Int:=cond (k==1) 1 (cond (k==2||k==3) 2 3)
theorem bOb(k:Int):vY k=some (aB3 k):=by
 unfold vY aB3;cases k==1<;>cases k==2<;>cases k==3<;>rfl
theorem bP2(k:Int):wA k=some (aB3 k):=by
 unfold wA aB3;cases k==1<;>cases k==2<;>cases k==3<;>rfl
def pt0:den tPp:=(0,0,0,[])
def aJ4(y:den tPp):den bP:=(y.2.2.2[y.2.2.2.length - 1]?).getD h0
def aHa(y:den tPp):den bP:=(y.2.2.2[0]?).getD h0
def aM6(y x:den tPp):Bool:= !decide (aB3 y.1>=aB3 x.1)&&(aJ4 y).1==(aHa x).1
def zA(t:den tTo)(p:den tPt)(k:Nat)(x:den tPp):Bool:=rZ t x&&(decide (k=0)||aM6 ((p[k - 1]?).getD pt0) x)
def wfP(t:den tTo)(p:den tPt):Bool:=inR (p.length:Int) 1 3&&(p.zipIdx 0).all λz=>zA t p z.2 z.1
theorem aEp{t:den tTo}{p:den tPp}(h:rZ t p=true):0<p.2.2.2.length:=by
 unfold rZ at h;rw[cCf]at h;have :=cE.1 h.1;omega
theorem aYc{y:den tPp}(h:0<y.2.2.2.length)(hl:y.2.2.2.length<=68719476736):idx y.2.2.2 (wr ((y.2.2.2.length:Int) - 1))=some (aJ4 y):=by
 rw[aPu hl h,aF];unfold aJ4;rw[cCe (show y.2.2.2.length - 1<y.2.2.2.length by omega)];rfl
theorem aY4{y:den tPp}(h:0<y.2.2.2.length):idx y.2.2.2 (0:Int)=some (aHa y):=by
 have :idx y.2.2.2 ((0:Nat):Int)=y.2.2.2[0]? :=aF;rw[show (0:Int)=((0:Nat):Int) from rfl,this];unfold aHa;rw[cCe h];rfl
theorem cA7{t:den tTo}{p:den tPt}(ht:t.1.length<=68719476736)(ht2:t.2.length<=68719476736)(h:SmB 68719476736 tPt p):kX t p=some (wfP t p):=by
 have lp:=h.1;have lh:∀(k:Nat) (x:den tPp),p[k]? =some x->x.2.2.2.length<=68719476736:=λk x hx=>(h.2 x (cCt hx)).2.2.2.1
 unfold kX wfP pj2 pj4;rw[aNn (λk (_:Unit)=>(k:Int)) (0:Int) () p (λk x _=>if zA t p k x then .inl () else .inr (.inr false)) (λk _=> ∀j y,j<k->p[j]? =some y->0<y.2.2.2.length) (λ_=> .inl ()) rfl (by omega) (λj y hj=>absurd hj (cFc _)) (λk x a hi hx hd hw hk hI=>by
  have hlx:=lh k x hx;refine⟨?_,λa' ha j y hj hy=> ?_⟩
  .simp only[hd,zZ,hi,aA,aN,bJ0 ht ht2 hlx,hw];cases hv:rZ t x with
   | false=>unfold zA;rw[hv];rfl
   | true=>
    cases k with
    | zero=>
     rw[show decide (((0:Nat):Int)>0)=false from by decide];unfold zA;rw[hv];rfl
    | succ j=>
     have hw1:wr (((j+1:Nat):Int) - 1)=(j:Int):=(wri (by omega) (by omega)).trans (by omega);obtain⟨y,hy⟩:∃y,p[j]? =some y:=⟨_,cCe (by omega)⟩
     rw[show decide (((j+1:Nat):Int)>0)=true from by simp];simp only[hw1,aF,hy,aA,bOb,aYc (hI j y (Nat.lt_succ_self j) hy) (lh j y hy),aY4 (aEp hv),zZ,aMt,cCd,zY];unfold zA aM6;rw[Nat.add_sub_cancel,hy,cDc,hv];cases decide (aB3 y.1>=aB3 x.1)<;>cases (aJ4 y).1==(aHa x).1<;>rfl
  .rcases Nat.lt_succ_iff_lt_or_eq.1 hj with hj | rfl
   .exact hI j y hj hy
   .rw[hx]at hy;injection hy with hy;subst hy;rcases cE2 (zA t p j x) with hb | hb
    .unfold zA at hb;rw[cCf]at hb;exact aEp hb.1
    .simp[hb]at ha) (λa _=>by simp)]
 rw[aD8 (zA t p),rE,aA];cases inR (p.length:Int) 1 3<;>cases (p.zipIdx 0).all (λz=>zA t p z.2 z.1)<;>rfl
theorem bZ5{t:den tTo}{p:den tPt}(ht:t.1.length<=68719476736)(ht2:t.2.length<=68719476736)(h:SmB 68719476736 tPt p):kW t p=some (wfP t p):=by
 have lp:=h.1;have lh:∀(k:Nat) (x:den tPp),p[k]? =some x->x.2.2.2.length<=68719476736:=λk x hx=>(h.2 x (cCt hx)).2.2.2.1
 unfold kW wfP pj2 pj4;rw[aNn (λk (_:Unit)=>(k:Int)) (0:Int) () p (λk x _=>if zA t p k x then .inl () else .inr (.inr false)) (λk _=> ∀j y,j<k->p[j]? =some y->0<y.2.2.2.length) (λ_=> .inl ()) rfl (by omega) (λj y hj=>absurd hj (cFc _)) (λk x a hi hx hd hw hk hI=>by
  have hlx:=lh k x hx;refine⟨?_,λa' ha j y hj hy=> ?_⟩
  .simp only[hd,zZ,hi,aA,aN,bMl ht ht2 hlx,hw];cases hv:rZ t x with
   | false=>unfold zA;rw[hv];rfl
   | true=>
    cases k with
    | zero=>
     rw[show decide (((0:Nat):Int)>0)=false from by decide];unfold zA;rw[hv];rfl
    | succ j=>
     have hw1:wr (((j+1:Nat):Int) - 1)=(j:Int):=(wri (by omega) (by omega)).trans (by omega);obtain⟨y,hy⟩:∃y,p[j]? =some y:=⟨_,cCe (by omega)⟩
     rw[show decide (((j+1:Nat):Int)>0)=true from by simp];simp only[hw1,aF,hy,aA,bP2,aYc (hI j y (Nat.lt_succ_self j) hy) (lh j y hy),aY4 (aEp hv),zZ,aMt,cCd,zY];unfold zA aM6;rw[Nat.add_sub_cancel,hy,cDc,hv];cases decide (aB3 y.1>=aB3 x.1)<;>cases (aJ4 y).1==(aHa x).1<;>rfl
  .rcases Nat.lt_succ_iff_lt_or_eq.1 hj with hj | rfl
   .exact hI j y hj hy
   .rw[hx]at hy;injection hy with hy;subst hy;rcases cE2 (zA t p j x) with hb | hb
    .unfold zA at hb;rw[cCf]at hb;exact aEp hb.1
    .simp[hb]at ha) (λa _=>by simp)]
 rw[aD8 (zA t p),eZ,aA];cases inR (p.length:Int) 1 3<;>cases (p.zipIdx 0).all (λz=>zA t p z.2 z.1)<;>rfl
def aFt(l:List Int)(k:Nat)(n:Int):Bool:= !xB (l.take k) n
def sC(t:den tTo)(p:den tPt):Bool:=wfP t p&&((iX p).zipIdx 0).all λz=>aFt (iX p) z.2 z.1
theorem bC7{p:den tPt}(h:tot tPt p<=1073741824):SmB 68719476736 tPt p:=(bB h).mono (by decide)
theorem bJs{t:den tTo}{p:den tPt}(ht:t.1.length<=68719476736)(ht2:t.2.length<=68719476736)(h:tot tPt p<=1073741824):oV t p=some (sC t p):=by
 have hu:=aHd p;unfold oV sC pj2;simp only[aN,cA7 ht ht2 (bC7 h),bCz h,aA];rw[aNn (λk (_:Unit)=>(iX p,iX p,(k:Int))) (iX p,iX p,(0:Int)) () (iX p) (λk x _=>if aFt (iX p) k x then .inl () else .inr (.inr false)) (λ_ _=>True) (λ_=> .inl ()) rfl (by omega) trivial (λk x a hi hx hd hw hk _=>by
  refine⟨?_,λ_ _=>trivial⟩;simp only[hd,zZ,hi,aA,yF hk,hO,hw,bIc (l:=(iX p).take k) (n:=x) (by simp;omega)];unfold aFt;cases xB ((iX p).take k) x<;>rfl) (λa _=>by simp)]
 rw[aD8 (aFt (iX p))];cases wfP t p<;>cases ((iX p).zipIdx 0).all (λz=>aFt (iX p) z.2 z.1)<;>rfl
theorem aUp{t:den tTo}{p:den tPt}(ht:t.1.length<=68719476736)(ht2:t.2.length<=68719476736)(h:tot tPt p<=1073741824):kO t p=some (sC t p):=by
 have hu:=aHd p;unfold kO sC pj2;simp only[aN,bZ5 ht ht2 (bC7 h),bCk h,aA];rw[aNn (λk (_:Unit)=>(iX p,(k:Int))) (iX p,(0:Int)) () (iX p) (λk x _=>if aFt (iX p) k x then .inl () else .inr (.inr false)) (λ_ _=>True) (λ_=> .inl ()) rfl (by omega) trivial (λk x a hi hx hd hw hk _=>by
  refine⟨?_,λ_ _=>trivial⟩;simp only[hd,zZ,hi,aA,yF hk,hO,hw,aGa (l:=(iX p).take k) (n:=x) (by simp;omega)];unfold aFt;cases xB ((iX p).take k) x<;>rfl) (λa _=>by simp)]
 rw[aD8 (aFt (iX p))];cases wfP t p<;>cases ((iX p).zipIdx 0).all (λz=>aFt (iX p) z.2 z.1)<;>rfl
def cK(p:den tPk):den tPp:=(p.2.2.2.1[p.2.2.2.2.1.toNat]?).getD pt0
def dT(p:den tPk):den bP:=((cK p).2.2.2[p.2.2.2.2.2.1.toNat]?).getD h0
theorem mV{p:den tPk}(h:dQ p=true):∃(i j:Nat),p.2.2.2.2.1=(i:Int)/\p.2.2.2.2.2.1=(j:Int)/\p.2.2.2.1[i]? =some (cK p)/\(cK p).2.2.2[j]? =some (dT p)/\eD p=(dT p).1:=by
 obtain⟨i,j,x,y,h1,h2,h3,h4,h5⟩:=aRq h;have e1:cK p=x:=by unfold cK;rw[h1,cCm,h3];rfl
 have e2:dT p=y:=by unfold dT;rw[e1,h2,cCm,h4];rfl
 exact⟨i,j,h1,h2,by rw[e1];exact h3,by rw[e1,e2];exact h4,by rw[e2];exact h5⟩
theorem aSu{p:den tPk}(h:0<=eD p):dQ p=true:=by
 cases c:dQ p with
 | true=>rfl
 | false=>rw[aGz c]at h;omega
theorem sD{p:den tPk}(h:tot tPk p<=34359738368):SmB 68719476736 tPk p:=(bB h).mono (by decide)
theorem aGe{p:den tPk}(h:SmB 68719476736 tPk p){i:Nat}{x:den tPp}(hx:p.2.2.2.1[i]? =some x):x.2.2.2.length<=68719476736:=(h.2.2.2.1.2 x (cCt hx)).2.2.2.1
def fD(p:den tPk):Bool:=p.2.2.2.2.2.1==((cK p).2.2.2.length:Int) - 1
def aI4(p:den tPk):Bool:=p.2.2.2.2.1==(p.2.2.2.1.length:Int) - 1
def kP(p:den tPk):Bool:=decide (eD p>=0)&&(fD p&&aI4 p)
theorem aXm{p:den tPk}(h:SmB 68719476736 tPk p):mP p=some (kP p):=by
 unfold mP kP bM zz4 zz5;simp only[aN,aF3 h,aA];cases c:decide (eD p>=0)
 .rfl
 .have hh:=aSu (of_decide_eq_true c);have l1:=h.2.2.2.1.1;obtain⟨i,j,h1,h2,h3,h4,_⟩:=mV hh;simp only[zZ,pI l1];unfold aI4 fD;rw[h1,aF,h3,aA,pI (aGe h h3)];cases p.2.2.2.2.2.1==((cK p).2.2.2.length:Int) - 1<;>cases (i:Int)==(p.2.2.2.1.length:Int) - 1<;>rfl
theorem bVf{p:den tPk}(h:SmB 68719476736 tPk p):rS p=some (pkR p):=by
 unfold rS pkR zz4 zz5 zz6 zz7 zz8 zz9;rw[aNu h.2.2.2.1,bCl h.2.2.2.2.2.2.2.2.2.1];rfl
theorem aD4{p:den tPk}(h:SmB 68719476736 tPk p):fQ p=some (pkR p):=by
 unfold fQ pkR zz4 zz5 zz6 zz7 zz8 zz9;rw[aFz h.2.2.2.1,aE (b:=1) (n:=([]:List Int).length) (by decide) (by simpa using h.2.2.2.2.2.2.2.2.2.1)];simp
def goTo(p:den tPk)(i j b:Int):den tPk:=(p.1,p.2.1,p.2.2.1,p.2.2.2.1,i,j,b,p.2.2.2.2.2.2.2.1,p.2.2.2.2.2.2.2.2.1,p.2.2.2.2.2.2.2.2.2)
def sQ(p:den tPk):den tPp:=(p.2.2.2.1[p.2.2.2.2.1.toNat+1]?).getD pt0
def adv(p:den tPk):den tPk:=
 if decide (eD p<0)||kP p then p
 else if fD p then goTo p (p.2.2.2.2.1+1) 0 (sQ p).2.2.1 else goTo p p.2.2.2.2.1 (p.2.2.2.2.2.1+1) p.2.2.2.2.2.2.1
theorem bCh{p:den tPk}(hh:dQ p=true)(h0:0<=eD p)(hl:fD p=true)(ha:kP p=false):∃i:Nat,p.2.2.2.2.1=(i:Int)/\p.2.2.2.1[i+1]? =some (sQ p):=by
 obtain⟨i,j,h1,h2,h3,h4,_⟩:=mV hh;refine⟨i,h1,?_⟩;have hlt:=(cCq.1 h3).1;have hne:aI4 p=false:=by
  unfold kP at ha;rw[hl,zX h0]at ha;simpa using ha
 unfold aI4 at hne;rw[h1]at hne;have hne: ¬ ((i:Int)=(p.2.2.2.1.length:Int) - 1):=by simpa using hne
 unfold sQ;rw[h1,cCm,cCe (show i+1<p.2.2.2.1.length by omega)];rfl
theorem bEj{p:den tPk}(h:SmB 68719476736 tPk p):gW p=some (pkR (adv p)):=by
 unfold gW adv bM pj4 pj5 zz4 zz5 zz6;simp only[aN,aD4 h,aF3 h,aXm h,aA];cases c:decide (eD p<0)
 .cases ca:kP p
  .have h0:0<=eD p:=by have :=of_decide_eq_false c;omega
   have hh:=aSu h0;obtain⟨i,j,h1,h2,h3,h4,_⟩:=mV hh;have hlt:=(cCq.1 h3).1;have hlt2:=(cCq.1 h4).1;have l1:cCv p.2.2.2.1<=68719476736:=h.2.2.2.1.1;have l2:=aGe h h3;have hd:decide ((j:Int)<((cK p).2.2.2.length:Int) - 1)= !fD p:=by
    have key:decide ((j:Int)<((cK p).2.2.2.length:Int) - 1)= !((j:Int)==((cK p).2.2.2.length:Int) - 1):=by
     rw[cC7];simp only[zR,cDk,beq_eq_false_iff_ne,ne_eq];omega
    unfold fD;rw[h2];exact key
   simp only[zY,aA,Bool.or_self,cCs,zU,h1,h2,aF,h3,pI l2,hd];cases cl:fD p
   .simp only[cCh,zZ,cCs,zU];unfold pkR goTo;rw[show wr ((j:Int)+1)=(j:Int)+1 from wri (by omega) (by omega)];simp only[h1]
   .obtain⟨i',e1,e2⟩:=bCh hh h0 cl ca;have :i'=i:=Int.ofNat.inj (e1.symm.trans h1);subst this;have hw:wr (((i':Nat):Int)+1)=((i'+1:Nat):Int):=(wri (by omega) (by omega)).trans (by omega);simp only[cCd,zY,zV];unfold pkR goTo;simp only[hw,aF,e2,aA];rw[show ((i'+1:Nat):Int)=(i':Int)+1 by omega]
  .rfl
 .rfl
def bef(p:den tPk):Int:=if kJ (cK p).1 then aMs p.2.2.2.2.2.2.1 (dT p).2.2.2.2 else p.2.2.2.2.2.2.1
def aft(p:den tPk):Int:=if kJ (cK p).1 then aMs p.2.2.2.2.2.2.1 (dT p).2.2.2.2 else aIa p.2.2.2.2.2.2.1 (dT p).2.2.2.2
def aIv(t:den tTo)(p:den tPk):Bool:=dQ p&&xQ t (cK p).2.1 (bef p) (dT p)
def bO(t:den tTo)(p:den tPk):den tPk:=if aIv t p then goTo p p.2.2.2.2.1 p.2.2.2.2.2.1 (aft p) else p
def aKx(p:den tPk)(b:Bool):q20:=(p.1,p.2.1,p.2.2.1,p.2.2.2.2.1,p.2.2.2.2.2.1,p.2.2.2.2.2.2.1,p.2.2.2.2.2.2.2.1,p.2.2.2.2.2.2.2.2.1,b,p.2.2.2.1,p.2.2.2.2.2.2.2.2.2)
theorem bC6{t:den tTo}{ts b:Int}{h:den bP}(hv:h.1<0):xQ t ts b h=false:=by
 unfold xQ oG;rw[bUo.2 (λhh=>absurd hv (Int.not_lt.2 hh.1))];rfl
theorem bXg{t:den tTo}{p:den tPk}(ht:t.1.length<=68719476736)(h:SmB 68719476736 tPk p):iL t p=some (aKx (bO t p) (aIv t p)):=by
 unfold iL bO aIv bM pj2 pj5 zz4 zz5 zz6 zz7 zz8;simp only[aN,aD4 h,aF3 h,aA];cases c:dQ p
 .rw[aGz c];rfl
 .obtain⟨i,j,h1,h2,h3,h4,h5⟩:=mV c;rw[h5]
  by_cases hn:(dT p).1<0
  .rw[zX hn,bC6 hn];rfl
  .simp only[zW hn,zY,h1,h2,aF,h3,h4,aA,aF1,aQv,bIx,cCi,aZ6 ht];unfold bef aft;cases kJ (cK p).1
   .simp only[zY,cCs,zU];cases xQ t (cK p).2.1 p.2.2.2.2.2.2.1 (dT p)
    .simp only[cCh,zZ,cCs,zU];unfold aKx pkR;simp only[h1,h2]
    .simp only[cCd,zY,zV];unfold aKx pkR goTo;simp only[h1,h2]
   .simp only[zZ,zV];cases xQ t (cK p).2.1 (aMs p.2.2.2.2.2.2.1 (dT p).2.2.2.2) (dT p)
    .simp only[cCh,zZ,cCs,zU];unfold aKx pkR;simp only[h1,h2]
    .simp only[cCd,zY,zV];unfold aKx pkR goTo;simp only[h1,h2]
def aR0(p:den tPk)(now:Int):Bool:= !decide (eD p<0)&&(decide ((cK p).2.1<=now)&&decide (now<=(dT p).2.2.2.1))
theorem bNk{p:den tPk}{now:Int}(h:SmB 68719476736 tPk p):jW p now=some (aR0 p now):=by
 unfold jW aR0 bM pj5 zz4 zz5;simp only[aN,aF3 h,aA];cases c:decide (eD p<0)
 .have hh:=aSu (p:=p) (by have :=of_decide_eq_false c;omega);obtain⟨i,j,h1,h2,h3,h4,h5⟩:=mV hh;simp only[zY,h1,h2,aF,h3,h4,aA,mR];cases decide ((cK p).2.1<=now)<;>rfl
 .rfl
def iW(t:den tTo)(now:Int)(p:den tPk):Int:=if aIv t p then (if aR0 p now then 0 else 5) else 4
def goC(t:den tTo)(now:Int):Nat->den tPk->Int×den tPk
 | 0,p=>(iW t now p,bO t p)
 | n+1,p=>if iW t now p==0&&(fD (bO t p)&& !kP (bO t p)) then goC t now n (adv (bO t p)) else (iW t now p,bO t p)
theorem aDo(t:den tTo)(p:den tPk):tot tPk (bO t p)=tot tPk p:=by
 unfold bO;split<;>rfl
theorem aI7(p:den tPk):tot tPk (adv p)=tot tPk p:=by
 unfold adv;split
 .rfl
 .split<;>rfl
theorem aKv(t:den tTo)(p:den tPk):dQ (bO t p)=dQ p/\eD (bO t p)=eD p/\dT (bO t p)=dT p/\(bO t p).2.2.2.1=p.2.2.2.1/\(bO t p).2.2.2.2.1=p.2.2.2.2.1:=by
 unfold bO;split<;>exact⟨rfl,rfl,rfl,rfl,rfl⟩
theorem aA2{t:den tTo}{now:Int}{p:den tPk}(h:iW t now p=0):dQ p=true/\0<=eD p:=by
 unfold iW at h;split at h
 .rename_i hs;unfold aIv at hs;rw[cCf]at hs;refine⟨hs.1,?_⟩;obtain⟨i,j,h1,h2,h3,h4,h5⟩:=mV hs.1;rw[h5]
  by_cases hn:(dT p).1<0
  .rw[bC6 hn]at hs;cases hs.2
  .exact Int.not_lt.1 hn
 .cases h
theorem aZu{p:den tPk}(h0:0<=eD p)(hc:(fD p&& !kP p)=true):(adv p).2.2.2.1=p.2.2.2.1/\(adv p).2.2.2.2.1=p.2.2.2.2.1+1:=by
 rw[cCf]at hc;have ha:kP p=false:=by simpa using hc.2
 unfold adv;rw[zW (by omega),ha,hc.1];exact⟨rfl,rfl⟩
theorem bTr{t:den tTo}{now:Int}{S R:Type}(enc:Int->den tPk->S)(out:S->R){step:S->Option (S⊕R)}(st:den tPk->den tPk)(hst:∀p,iW t now p=0->st p=bO t p)
  (hstop:∀c p,c≠0->step (enc c p)=some (.inr (out (enc c p))))
  (hgo:∀q,tot tPk q<=34359738368->dQ q=true->0<=eD q->step (enc 0 q)=some (if fD q&& !kP q then .inl (enc (iW t now (adv q)) (st (adv q))) else .inr (out (enc 0 q)))):
  ∀(n:Nat) (p:den tPk),tot tPk p<=34359738368->p.2.2.2.1.length - p.2.2.2.2.1.toNat<=n-> ∃r,aC step (enc (iW t now p) (st p))=some (out (enc (goC t now n p).1 r))/\((goC t now n p).1=0->r=(goC t now n p).2):=by
 intro n
 induction n with
 | zero=>
  intro p hp hm
  by_cases hc:iW t now p=0
  .obtain⟨hh,h0⟩:=aA2 hc;obtain⟨i,j,h1,h2,h3,h4,h5⟩:=mV hh;have hlt:=(cCq.1 h3).1;rw[h1,cCm]at hm;exact absurd hlt (by omega)
  .exact⟨_,bH (hstop _ _ hc),λh=>absurd h hc⟩
 | succ n ih=>
  intro p hp hm
  by_cases hc:iW t now p=0
  .obtain⟨hh,h0⟩:=aA2 hc;obtain⟨e1,e2,e3,e4,e5⟩:=aKv t p;have hq:=hgo (bO t p) (by rw[aDo];exact hp) (by rw[e1];exact hh) (by rw[e2];exact h0);rw[hst p hc];cases hb:fD (bO t p)&& !kP (bO t p) with
   | false=>
    rw[hb]at hq;have hg:goC t now (n+1) p=(iW t now p,bO t p):=by
     show (if _ then _ else _)=_;rw[hb,cE5];rfl
    rw[hg,hc];exact⟨bO t p,bH hq,λ_=>rfl⟩
   | true=>
    rw[hb,zT rfl]at hq;have hg:goC t now (n+1) p=goC t now n (adv (bO t p)):=by
     show (if _ then _ else _)=_;rw[hb,hc];rfl
    rw[hg,hc,dA hq];obtain⟨a1,a2⟩:=aZu (p:=bO t p) (by rw[e2];exact h0) hb;obtain⟨i,j,h1,h2,h3,h4,h5⟩:=mV hh;refine ih (adv (bO t p)) (by rw[aI7,aDo];exact hp) ?_;rw[a1,a2,e4,e5,h1];rw[h1,cCm]at hm;have :((i:Int)+1).toNat=i+1:=by omega
    rw[this];omega
  .have hg:goC t now (n+1) p=(iW t now p,bO t p):=by
    show (if _ then _ else _)=_;rw[show (iW t now p==0)=false from by simpa using hc];rfl
   rw[hg];exact⟨_,bH (hstop _ _ hc),λh=>absurd h hc⟩
def aWd(p:den tPk):Int:=if p.2.2.2.2.1==0&&p.2.2.2.2.2.1==0 then 0 else pIn (cK p) (dT p)
def dC(t:den tTo)(now:Int)(p:den tPk):Int×den tPk:=goC t now (p.2.2.2.1.length - p.2.2.2.2.1.toNat) p
def fwd(t:den tTo)(r now dead inn:Int)(p:den tPk):Int×Int×den tPk×Int:=
 if !kE p||(!sC t p.2.2.2.1|| !(eD p==r)) then (2,0,p,0)
 else if !(inn==aWd p) then (3,0,p,0)
 else if !((dC t now p).1==0) then ((dC t now p).1,0,p,0)
 else if kP (dC t now p).2 then (if (dC t now p).2.2.2.1==r then (1,0,(dC t now p).2,0) else (2,0,p,0))
 else if !aWn t (r,inn,pEg (cK (dC t now p).2) (dT (dC t now p).2)) then (6,0,p,0)
 else if aV9 dead (pEg (cK (dC t now p).2) (dT (dC t now p).2)) then (7,0,p,pEg (cK (dC t now p).2) (dT (dC t now p).2))
 else (0,pEg (cK (dC t now p).2) (dT (dC t now p).2),adv (dC t now p).2,pEg (cK (dC t now p).2) (dT (dC t now p).2))
def fwS(v:Int×Int×den tPk×Int):Int×Int×q3:=(v.1,v.2.1,pkR v.2.2.1)
theorem aI6{t:den tTo}{now:Int}:∀(n:Nat) (p:den tPk),(goC t now n p).1=0->dQ (goC t now n p).2=true/\0<=eD (goC t now n p).2/\tot tPk (goC t now n p).2=tot tPk p
 | 0,p,h=>by
  obtain⟨h1,h2⟩:=aA2 (show iW t now p=0 from h);obtain⟨e1,e2,_⟩:=aKv t p;exact⟨e1.trans h1,by rw[show (goC t now 0 p).2=bO t p from rfl,e2];exact h2,aDo t p⟩
 | n+1,p,h=>by
  unfold goC at h|-;split at h
  .rename_i hc;rw[zT hc];obtain⟨h1,h2,h3⟩:=aI6 n _ h;exact⟨h1,h2,by rw[h3,aI7,aDo]⟩
  .rename_i hc;rw[zS hc];obtain⟨h1,h2⟩:=aA2 (show iW t now p=0 from h);obtain⟨e1,e2,_⟩:=aKv t p;exact⟨e1.trans h1,by rw[show (iW t now p,bO t p).2=bO t p from rfl,e2];exact h2,aDo t p⟩
def aDz(p:den tPk)(c:Int):Int×q3:=(p.1,p.2.1,p.2.2.1,p.2.2.2.2.1,p.2.2.2.2.2.1,p.2.2.2.2.2.2.1,p.2.2.2.2.2.2.2.1,p.2.2.2.2.2.2.2.2.1,c,p.2.2.2.1,p.2.2.2.2.2.2.2.2.2)
theorem bQ4{t:den tTo}{now:Int}{p:den tPk}(ht:t.1.length<=68719476736)(h:tot tPk p<=34359738368):oX t now p=some (aDz (bO t p) (iW t now p)):=by
 unfold oX bM pj2 zz4 zz5 zz6 zz7 zz8 zz9;simp only[aN,bXg ht (sD h),bNk (sD h),aA];unfold iW;cases c:aIv t p
 .simp only[aKx,cCh,zZ,cCs,zU];rfl
 .simp only[aKx,cCd,zY,zV];cases aR0 p now
  .simp only[cCh,zZ,cCs,zU];rfl
  .simp only[cCd,zY,zV];rfl
theorem bFq{p:den tPk}(h:kE p=true):dQ p=true:=by
 unfold kE at h;simp only[cCf]at h;exact h.2.2.1
theorem bRl{c:Int}{p:den tPk}(h:tot tPk p<=34359738368):uG c p=some (c,0,pkR p):=by
 unfold uG bM;simp only[aN,aD4 (sD h),aA]
theorem aYr{p:den tPk}{N:Nat}(h:tot tPk p<=N):tot tPt p.2.2.2.1<=N:=(aNh h).1
def aLv(c:Int)(p:den tPk):Int×q3:=(c,p.1,p.2.1,p.2.2.1,p.2.2.2.2.1,p.2.2.2.2.2.1,p.2.2.2.2.2.2.1,p.2.2.2.2.2.2.2.1,p.2.2.2.2.2.2.2.2.1,p.2.2.2.1,p.2.2.2.2.2.2.2.2.2)
theorem bAf{q:den tPk}(hh:dQ q=true)(h0:0<=eD q):(fD q&&decide (q.2.2.2.2.1<(q.2.2.2.1.length:Int) - 1))=(fD q&& !kP q):=by
 obtain⟨i,j,h1,h2,h3,h4,h5⟩:=mV hh;have hlt:=(cCq.1 h3).1;unfold kP aI4;rw[zX (p:=eD q>=0) h0,h1];have key:decide ((i:Int)<(q.2.2.2.1.length:Int) - 1)= !((i:Int)==(q.2.2.2.1.length:Int) - 1):=by
  rw[cC7];simp only[zR,cDk,beq_eq_false_iff_ne,ne_eq];omega
 rw[key];cases fD q<;>simp
theorem bTn{t:den tTo}{r now dead inn:Int}{p:den tPk}(ht:t.1.length<=68719476736)(ht2:t.2.length<=68719476736)(h:tot tPk p<=34359738368)(hpp:tot tPt p.2.2.2.1<=1073741824):tK t r now dead inn p=some (fwS (fwd t r now dead inn p)):=by
 unfold tK fwd ixb bM bFf aDc pj2 pj4 aU zz4 zz5 zz6 zz7 zz8 zz9;simp only[aN,aYk (sD h),aUp ht ht2 hpp,aF3 (sD h),aA,aMt,bRl h];cases cv:kE p
 .simp only[cCh,Bool.true_or,zZ,aA,zV];rfl
 .cases cs:sC t p.2.2.2.1
  .simp only[cCd,cCh,Bool.true_or,Bool.or_true,zZ,zY,aA,zV];rfl
  .cases cr:eD p==r
   .simp only[cCd,cCh,Bool.true_or,Bool.or_true,zZ,zY,aA,zV];rfl
   .simp only[cCd,Bool.or_self,zY,aA,cCs,zU];obtain⟨i,j,h1,h2,h3,h4,h5⟩:=mV (bFq cv);have hl:=aGe (sD h) h3;have hw:(@Option.bind Bool Int (cond (p.2.2.2.2.1==(0:Int)) (some (p.2.2.2.2.2.1==(0:Int))) (some false)) λ(s8:Bool)=>cond s8 (some (0:Int)) (some (pIn (cK p) (dT p))))=some (aWd p):=by
     unfold aWd;cases p.2.2.2.2.1==0<;>cases p.2.2.2.2.2.1==0<;>rfl
    have hp1:idx p.2.2.2.1 p.2.2.2.2.1=some (cK p):=by rw[h1,aF];exact h3
    have hp2:eP (cK p) p.2.2.2.2.2.1=some (pIn (cK p) (dT p)):=by rw[h2];exact bG7 h4 hl
    rw[hp1,aA,hp2,aA,hw,aA];cases ci:inn==aWd p
    .simp only[cCh,zZ,zV,aA];rfl
    .simp only[cCd,zY,cCs,zU,bQ4 ht h,aA];obtain⟨q,hq1,hq2⟩:=bTr (t:=t) (now:=now) aLv id (step:=λs17=> @Option.bind Bool _ (cond (s17.1==(0:Int)) (cond (decide ((0:Int)<=s17.2.2.2.2.1)) (cond (decide (s17.2.2.2.2.1<(s17.2.2.2.2.2.2.2.2.2.1.length:Int))) (Option.bind s17.2.2.2.2.2.2.2.2.2.1[s17.2.2.2.2.1.toNat]? λx18=>cond (s17.2.2.2.2.2.1==(wr ((x18.2.2.2.length:Int) - (1:Int)))) (some (decide (s17.2.2.2.2.1<(wr ((s17.2.2.2.2.2.2.2.2.2.1.length:Int) - (1:Int)))))) (some false)) none) none) (some false)) λ(s19:Bool)=>cond s19 (Option.bind (gW (s17.2.1,s17.2.2.1,s17.2.2.2.1,s17.2.2.2.2.2.2.2.2.2.1,s17.2.2.2.2.1,s17.2.2.2.2.2.1,s17.2.2.2.2.2.2.1,s17.2.2.2.2.2.2.2.1,s17.2.2.2.2.2.2.2.2.1,s17.2.2.2.2.2.2.2.2.2.2)) λy20=>Option.bind (oX t now (y20.1,y20.2.1,y20.2.2.1,y20.2.2.2.2.2.2.2.2.1,y20.2.2.2.1,y20.2.2.2.2.1,y20.2.2.2.2.2.1,y20.2.2.2.2.2.2.1,y20.2.2.2.2.2.2.2.1,y20.2.2.2.2.2.2.2.2.2)) λy21=>some (cCb (y21.2.2.2.2.2.2.2.2.1,y21.1,y21.2.1,y21.2.2.1,y21.2.2.2.1,y21.2.2.2.2.1,y21.2.2.2.2.2.1,y21.2.2.2.2.2.2.1,y21.2.2.2.2.2.2.2.1,y21.2.2.2.2.2.2.2.2.2.1,y21.2.2.2.2.2.2.2.2.2.2))) (some (cCa s17))) (bO t) (λp hp=>rfl) (λc p hc=>by
       have :(c==0)=false:=by simpa using hc
       simp only[aLv,this,zY,aA,id]) (λq hq hh h0=>by
       have e:oX t now ((pkR (adv q)).1,(pkR (adv q)).2.1,(pkR (adv q)).2.2.1,(pkR (adv q)).2.2.2.2.2.2.2.2.1,(pkR (adv q)).2.2.2.1,(pkR (adv q)).2.2.2.2.1,(pkR (adv q)).2.2.2.2.2.1,(pkR (adv q)).2.2.2.2.2.2.1,(pkR (adv q)).2.2.2.2.2.2.2.1,(pkR (adv q)).2.2.2.2.2.2.2.2.2)=some (aDz (bO t (adv q)) (iW t now (adv q))):=bQ4 (p:=adv q) ht (by rw[aI7];exact hq);obtain⟨i',j',k1,k2,k3,k4,k5⟩:=mV hh;have hlt:=(cCq.1 k3).1;have l1:cCv q.2.2.2.1<=68719476736:=(sD hq).2.2.2.1.1;have hm:=bAf hh h0;simp only[aLv,beq_self_eq_true,zZ,aN,bEj (sD hq),aA,e];rw[<- hm];have hd:decide ((i':Int)<(q.2.2.2.1.length:Int))=true:=zX (by omega);simp only[k1,bZ,hd,zZ,cCm,k3,aA,pI (aGe (sD hq) k3),pI l1];unfold fD;cases q.2.2.2.2.2.1==((cK q).2.2.2.length:Int) - 1<;>cases decide ((i':Int)<(q.2.2.2.1.length:Int) - 1)<;>rfl) _ p h (cCx _)
     have hq1:aC _ (aLv (iW t now p) (bO t p))=some (aLv (dC t now p).1 q):=hq1;have hq2:(dC t now p).1=0->q=(dC t now p).2:=hq2;have e0:(((aDz (bO t p) (iW t now p)).2.2.2.2.2.2.2.2.1,(aDz (bO t p) (iW t now p)).1,(aDz (bO t p) (iW t now p)).2.1,(aDz (bO t p) (iW t now p)).2.2.1,(aDz (bO t p) (iW t now p)).2.2.2.1,(aDz (bO t p) (iW t now p)).2.2.2.2.1,(aDz (bO t p) (iW t now p)).2.2.2.2.2.1,(aDz (bO t p) (iW t now p)).2.2.2.2.2.2.1,(aDz (bO t p) (iW t now p)).2.2.2.2.2.2.2.1,(aDz (bO t p) (iW t now p)).2.2.2.2.2.2.2.2.2.1,(aDz (bO t p) (iW t now p)).2.2.2.2.2.2.2.2.2.2))=aLv (iW t now p) (bO t p):=rfl;rw[e0,hq1,aA]
     by_cases hz:(dC t now p).1=0
     .have hqq:=hq2 hz;subst hqq;obtain⟨g1,g2,g3⟩:=aI6 _ p hz;have g1:dQ (dC t now p).2=true:=g1;have g2:0<=eD (dC t now p).2:=g2;have g3:tot tPk (dC t now p).2=tot tPk p:=g3;have hg:tot tPk (dC t now p).2<=34359738368:=by rw[g3];exact h
      obtain⟨i',j',k1,k2,k3,k4,k5⟩:=mV g1;have hlt:=(cCq.1 k3).1;have hl':=aGe (sD hg) k3;have q2:dH (cK (dC t now p).2) (dC t now p).2.2.2.2.2.2.1=some (pEg (cK (dC t now p).2) (dT (dC t now p).2)):=by rw[k2];exact aWo k4 hl'
      simp only[aLv,aN,hz,beq_self_eq_true,cCd,zY,cCs,zU,aXm (sD hg),aA];cases ca:kP (dC t now p).2
      .simp only[zY,aA,cCs,zU];have hd:decide ((i':Int)<((dC t now p).2.2.2.2.1.length:Int))=true:=zX (by omega);simp only[k1,bZ,hd,zZ,cCm,k3,aA,q2,bUv ht2,bVc];cases aWn t (r,inn,pEg (cK (dC t now p).2) (dT (dC t now p).2))
       .simp only[cCh,zZ,zV];rfl
       .simp only[cCd,zY,cCs,zU];cases aV9 dead (pEg (cK (dC t now p).2) (dT (dC t now p).2))
        .simp only[zY,cCs,zU,bEj (sD hg),aA];rfl
        .simp only[zZ,zV];rfl
      .simp only[zZ,aA];cases (dC t now p).2.2.2.1==r
       .simp only[zY,zZ,cCs,zU,zV];rfl
       .simp only[zZ,zV];rfl
     .have hz':((dC t now p).1==0)=false:=by simpa using hz
      simp only[aLv,hz',cCh,zZ,zV,bRl h,aA];rfl
theorem aNg(t:den tTo)(r now dead inn:Int)(p:den tPk):tot tPk (fwd t r now dead inn p).2.2.1=tot tPk p:=by
 unfold fwd;split
 .rfl
 .split
  .rfl
  .split
   .rfl
   .rename_i hz;have hz:(dC t now p).1=0:=by simpa using hz
    obtain⟨_,_,g3⟩:=aI6 _ p hz;have g3:tot tPk (dC t now p).2=tot tPk p:=g3;split
    .split
     .exact g3
     .rfl
    .split
     .rfl
     .split
      .rfl
      .show tot tPk (adv (dC t now p).2)=_;rw[aI7];exact g3
def cX(t:den tTo)(now:Int)(dead:List Int)(r inn:Int)(p:den tPk):Int×Int×den tPk×Int:=fwd t r now (aAi t dead r) inn p
abbrev nT(w:den tNw):den tTo:=w.1
abbrev nK(w:den tNw):den tDb:=w.2.1
abbrev nG(w:den tNw):den tSc:=w.2.2.1
abbrev aL(w:den tNw):Int:=w.2.2.2.1
abbrev aK(w:den tNw):List Int:=w.2.2.2.2.1
abbrev aQ(w:den tNw):lFy:=w.2.2.2.2.2.1
abbrev aD(w:den tNw):lFl:=w.2.2.2.2.2.2.1
abbrev aW(w:den tNw):lIb:=w.2.2.2.2.2.2.2.1
abbrev cW(w:den tNw):Int:=w.2.2.2.2.2.2.2.2
def aT0(w:den tNw):q32:=
 ((nG w).1,aL w,cW w,(nT w).1,(nT w).2,(nK w).1,(nK w).2,(nG w).2.1,(nG w).2.2,aK w,aQ w,aD w,aW w)
theorem bH4{l:lRs}(h:l.length<=68719476736):iR l=some l:=by
 unfold iR;rw[aE (n:=([]:lRs).length) (by decide) (by simpa using h)];rfl
theorem bFj{g:den tSc}(h:SmB 68719476736 tSc g):mE g=some g:=by
 unfold mE;rw[bH4 h.2.1.1,aA,aE (n:=([]:lUs).length) (by decide) (by simpa using h.2.2.1)];rfl
theorem bG2{g:den tSc}(h:SmB 68719476736 tSc g):iK g=some g:=by
 unfold iK pj3;rw[aE (b:=40) (n:=([]:lRs).length) (by decide) (by simpa using h.2.1.1),aE (b:=32) (n:=([]:lUs).length) (by decide) (by simpa using h.2.2.1)];simp only[aT,bI,aX,aY,aZ,zZ,aA,cC4]
theorem aUz(f:den tFl):(((sS f).1,(sS f).2.1,(sS f).2.2.1,(sS f).2.2.2.1,(sS f).2.2.2.2.2.2.1,(sS f).2.2.2.2.2.2.2.1,(sS f).2.2.2.2.1,(sS f).2.2.2.2.2.1,(sS f).2.2.2.2.2.2.2.2):den tFl)=f:=rfl
theorem bBu(p:den tPk):(((pkR p).1,(pkR p).2.1,(pkR p).2.2.1,(pkR p).2.2.2.2.2.2.2.2.1,(pkR p).2.2.2.1,(pkR p).2.2.2.2.1,(pkR p).2.2.2.2.2.1,(pkR p).2.2.2.2.2.2.1,(pkR p).2.2.2.2.2.2.2.1,(pkR p).2.2.2.2.2.2.2.2.2):den tPk)=p:=rfl
theorem bKb{x:den tFy}(h:SmB 68719476736 tFy x):SmB 68719476736 tPk x.2.2:=h.2.2
theorem bUq{w:den tNw}(h:SmB 68719476736 tNw w):pS w=some (aT0 w):=by
 obtain⟨hT,hK,hG,_,hD,hY,hF,hX,_⟩:=h;unfold pS jM bM pj2 pj3 pj4 pj9 zz4 zz5 zz6 zz7 zz8 zz9;simp only[aN,bBs hT,aKr hK.1,aKr hK.2,bFj hG,bU3 hD.1,aA];rw[(wJ (λk (a:lFy)=>((k:Int),(nG w).1,aL w,cW w,a)) ((0:Int),(nG w).1,aL w,cW w,[]) [] (aQ w) (λ_ x a=>a++[x]) cCv (λ_=>1) 68719476736 (λa=>((nG w).1,aL w,cW w,a)) rfl (cCc hY.1 (by decide)) (by rw[dP];simpa using hY.1) (λk x a hi hx hd hw hk hb=>by
  have e:=bKb (hY.2 x (cCt hx));simp only[hd,hi,hw,zZ,aA,aN,bVf e,bBu,aE (b:=128) (n:=a.length) (m:=1) (by decide) hb];exact⟨rfl,by simp⟩) (λa=>by simp)).1,fP (λx=>x)]
 simp only[aA];rw[(wJ (λk (a:lFl)=>((k:Int),(nG w).1,aL w,cW w,a)) ((0:Int),(nG w).1,aL w,cW w,[]) [] (aD w) (λ_ x a=>a++[x]) cCv (λ_=>1) 68719476736 (λa=>((nG w).1,aL w,cW w,a)) rfl (cCc hF.1 (by decide)) (by rw[dP];simpa using hF.1) (λk x a hi hx hd hw hk hb=>by
  have e:=hF.2 x (cCt hx);simp only[hd,hi,hw,zZ,aA,aN,bBj e,aUz,aE (b:=120) (n:=a.length) (m:=1) (by decide) hb];exact⟨rfl,by simp⟩) (λa=>by simp)).1,fP (λx=>x)]
 simp only[aA];rw[(wJ (λk (a:lIb)=>((k:Int),(nG w).1,aL w,cW w,a)) ((0:Int),(nG w).1,aL w,cW w,[]) [] (aW w) (λ_ x a=>a++[x]) cCv (λ_=>1) 68719476736 (λa=>((nG w).1,aL w,cW w,a)) rfl (cCc hX.1 (by decide)) (by rw[dP];simpa using hX.1) (λk x a hi hx hd hw hk hb=>by
  have e:=hX.2 x (cCt hx);simp only[hd,hi,hw,zZ,aA,aN,bUj e,aE (b:=48) (n:=a.length) (m:=1) (by decide) hb];simp) (λa=>by simp)).1,fP (λx=>x)]
 simp only[aA,cC4,List.map_id'];rfl
theorem cA6{l:lFy}(h:SmB 68719476736 (.sl tFy) l):uK l=some l:=by
 unfold uK bM zz4 zz5 zz6 zz7 zz8 zz9;rw[(wJ (λk (a:lFy)=>((k:Int),a)) ((0:Int),[]) [] l (λ_ x a=>a++[x]) cCv (λ_=>1) 68719476736 id rfl (cCc h.1 (by decide)) (by rw[dP];simpa using h.1) (λk x a hi hx hd hw hk hb=>by
  have e:=bKb (h.2 x (cCt hx));simp only[hd,hi,hw,zZ,aA,aN,aD4 e,bBu,aE (b:=128) (n:=a.length) (m:=1) (by decide) hb];exact⟨rfl,by simp⟩) (λa=>by simp)).1,fP (λx=>x)]
 simp
theorem bT2{l:lFl}(h:SmB 68719476736 (.sl tFl) l):oD l=some l:=by
 unfold oD pj9 zz4 zz5 zz6 zz7 zz8;rw[(wJ (λk (a:lFl)=>((k:Int),a)) ((0:Int),[]) [] l (λ_ x a=>a++[x]) cCv (λ_=>1) 68719476736 id rfl (cCc h.1 (by decide)) (by rw[dP];simpa using h.1) (λk x a hi hx hd hw hk hb=>by
  have e:=h.2 x (cCt hx);simp only[hd,hi,hw,zZ,aA,aN,aD0 e,aUz,aE (b:=120) (n:=a.length) (m:=1) (by decide) hb];exact⟨rfl,by simp⟩) (λa=>by simp)).1,fP (λx=>x)]
 simp
theorem bVd{l:lIb}(h:SmB 68719476736 (.sl tIb) l):pA l=some l:=by
 unfold pA pj4;rw[(wJ (λk (a:lIb)=>((k:Int),a)) ((0:Int),[]) [] l (λ_ x a=>a++[x]) cCv (λ_=>1) 68719476736 id rfl (cCc h.1 (by decide)) (by rw[dP];simpa using h.1) (λk x a hi hx hd hw hk hb=>by
  have e:=h.2 x (cCt hx);simp only[hd,hi,hw,zZ,aA,aN,bB1 e,aE (b:=48) (n:=a.length) (m:=1) (by decide) hb];simp) (λa=>by simp)).1,fP (λx=>x)]
 simp
theorem aS8{w:den tNw}(h:SmB 68719476736 tNw w):mF w=some (aT0 w):=by
 obtain⟨hT,hK,hG,_,hD,hY,hF,hX,_⟩:=h;unfold mF pj2 pj3 aU zz4 zz5 zz6 zz7 zz8 zz9;simp only[aN,bBm hT,aDy hK.1,aDy hK.2,bG2 hG,cA6 hY,bT2 hF,bVd hX,aA,aE (b:=8) (n:=([]:List Int).length) (m:=w.2.2.2.2.1.length) (by decide) (by simpa using hD.1),zZ,aT,bI,aX,aY,aZ,cC4];rfl
def fW(w:den tNw):q1:=
 (aQ w,aD w,aW w,(nT w).1,(nT w).2,(nK w).1,(nK w).2,(nG w).1,(nG w).2.1,(nG w).2.2,aL w,aK w,cW w)
def eR(w:den tNw)(l:lFl):den tNw:=(nT w,nK w,nG w,aL w,aK w,aQ w,l,aW w,cW w)
def uY(r:Int)(p:den tPk)(f:den tFl):den tFl:=if f.1==r then (if p.1==2 then yU f p else aCc f p) else f
def yJ(w:den tNw)(r:Int)(p:den tPk):den tNw:=eR w ((aD w).map (uY r p))
def eU(p:den tPk):Prop:= ∀x∈p.2.2.2.2.2.2.2.2.2,0<=x/\x<=255
theorem bCq{α S R:Type}(enc:Nat->List α->S)(l:List α)(g:α->α)(out:List α->R){step:S->Option (S⊕R)}(hl:l.length<=4611686018427387904)
  (h:∀(k:Nat) (x:α) (a:List α),a.length=l.length->a[k]? =some x->x∈l->k<l.length->decide ((k:Int)<(l.length:Int))=true->IntKind.i64.wrap ((k:Int)+1)=((k+1:Nat):Int)->step (enc k a)=some (.inl (enc (k+1) (a.set k (g x)))))
  (he:∀a,a.length=l.length->step (enc l.length a)=some (.inr (out a))):aC step (enc 0 l)=some (out (l.map g)):=by
 have key:∀(rest pre:List α),pre++rest=l->aC step (enc pre.length (pre.map g++rest))=some (out (l.map g)):=by
  intro rest
  induction rest with
  | nil=>
   intro pre hp;rw[cDl]at hp;subst hp;rw[cDl];exact bH (he _ (by simp))
  | cons x rest ih=>
   intro pre hp;have hlt:pre.length<l.length:=by rw[<- hp];simp
   have hx:(pre.map g++x::rest)[pre.length]? =some x:=by simp
   have hlen:(pre.map g++x::rest).length=l.length:=by rw[<- hp];simp
   rw[dA (h pre.length x _ hlen hx (by rw[<- hp];simp) hlt (by simpa using hlt) (by rw[wri (by omega) (by omega)];omega))];have hs:(pre.map g++x::rest).set pre.length (g x)=(pre++[x]).map g++rest:=by
    rw[List.set_append_right _ _ (by simp)];simp
   rw[hs];have :=ih (pre++[x]) (by simpa using hp);simpa using this
 exact key l [] rfl
theorem aOk{α:Type}{a:List α}{k:Nat}{x:α}(h:a[k]? =some x):a.set k x=a:=by
 obtain⟨hlt,hx⟩:=cCq.1 h;rw[<- hx];exact List.set_getElem_self hlt
theorem bBd{f:den tFl}(h:tot tFl f<=1073741824):SmB 68719476736 tFl f:=(bB h).mono (by decide)
theorem aSm{α:Type}{a:List α}{k n:Nat}(h:a.length=n)(hk:k<n):decide ((k:Int)<(a.length:Int))=true/\decide (k<a.length)=true:=by
 constructor<;>simp<;>omega
theorem aTs{w:den tNw}{r:Int}{p:den tPk}(hk3:(p.1==2)=false)(hF:∀f∈aD w,tot tFl f<=1073741824)(hl:(aD w).length<=1073741824)(hp:tot tPk p<=1073741824)(hb:eU p):nI w r p=some (fW (yJ w r p)):=by
 unfold nI ixb bM pj9 zz4 zz5 zz6 zz7 zz8;refine bCq (λk (a:lFl)=>((k:Int),a)) (aD w) (uY r p) (λl=>fW (eR w l)) (cCc hl (by decide)) (λk f a ha hx hm hk hd hw=> ?_) (λa ha=> ?_)
 .obtain⟨d1,d2⟩:=aSm ha hk;simp only[d1,d2,bZ,cCm,hx,zZ,aA,aN,bUy (hF f hm) hp hb,aT,bI,aX,aY,aZ,hw];unfold uY;rw[hk3];cases f.1==r
  .simp only[zY,cCs,zU,aA,aOk hx]
  .simp only[zZ,zV,aA,cCs,zU];rfl
 .show cond (decide ((((aD w).length:Nat):Int)<(a.length:Int))) _ _=_;rw[ha,zW (by omega)];rfl
theorem bL0{w:den tNw}{r:Int}{p:den tPk}(hk2:(p.1==2)=true)(hF:∀f∈aD w,tot tFl f<=1073741824)(hl:(aD w).length<=1073741824){step:Int×lFl->Option ((Int×lFl)⊕_)}
  (hs:∀(k:Nat) (f:den tFl) (a:lFl),a.length=(aD w).length->a[k]? =some f->f∈aD w->k<(aD w).length->step ((k:Int),a)=some (.inl (((k+1:Nat):Int),a.set k (uY r p f)))) (he:∀a,a.length=(aD w).length->step (((aD w).length:Int),a)=some (.inr (fW (eR w a)))):aC step ((0:Int),aD w)=some (fW (yJ w r p)):=
 bCq (λk (a:lFl)=>((k:Int),a)) (aD w) (uY r p) (λl=>fW (eR w l)) (cCc hl (by decide)) (λk f a ha hx hm hk hd hw=>hs k f a ha hx hm hk) (λa ha=>he a ha)
theorem aL3(p:den tPk):goTo p p.2.2.2.2.1 p.2.2.2.2.2.1 p.2.2.2.2.2.2.1=p:=rfl
theorem aIk(t:den tTo)(p:den tPk):∃b,bO t p=goTo p p.2.2.2.2.1 p.2.2.2.2.2.1 b:=by
 unfold bO;split
 .exact⟨_,rfl⟩
 .exact⟨_,(aL3 p).symm⟩
theorem aXk(p:den tPk):∃i j b,adv p=goTo p i j b:=by
 unfold adv;split
 .exact⟨_,_,_,(aL3 p).symm⟩
 .split<;>exact⟨_,_,_,rfl⟩
theorem aYh{t:den tTo}{now:Int}:∀(n:Nat) (p:den tPk),∃i j b,(goC t now n p).2=goTo p i j b
 | 0,p=>by obtain⟨b,hb⟩:=aIk t p;exact⟨_,_,_,hb⟩
 | n+1,p=>by
  obtain⟨b,hb⟩:=aIk t p;unfold goC;split
  .obtain⟨i,j,c,h1⟩:=aYh (t:=t) (now:=now) n (adv (bO t p));obtain⟨i',j',c',h2⟩:=aXk (bO t p);rw[h1,h2,hb];exact⟨_,_,_,rfl⟩
  .exact⟨_,_,_,hb⟩
theorem aZ1(t:den tTo)(r now dead inn:Int)(p:den tPk):∃i j b,(fwd t r now dead inn p).2.2.1=goTo p i j b:=by
 obtain⟨i,j,b,h⟩:∃i j b,(dC t now p).2=goTo p i j b:=aYh _ p;unfold fwd
 repeat' split
 all_goals first
  | exact⟨_,_,_,(aL3 p).symm⟩
  | exact⟨_,_,_,h⟩
  | (obtain⟨i',j',b',h'⟩:=aXk (dC t now p).2;exact⟨_,_,_,by rw[show (0,pEg (cK (dC t now p).2) (dT (dC t now p).2),adv (dC t now p).2,pEg (cK (dC t now p).2) (dT (dC t now p).2)).2.2.1=adv (dC t now p).2 from rfl,h',h];rfl⟩)
theorem aHc(t:den tTo)(r now dead inn:Int)(p:den tPk):(fwd t r now dead inn p).2.2.1.1=p.1/\(fwd t r now dead inn p).2.2.1.2.1=p.2.1/\(fwd t r now dead inn p).2.2.1.2.2.2.2.2.2.2.1=p.2.2.2.2.2.2.2.1/\(fwd t r now dead inn p).2.2.1.2.2.2.2.2.2.2.2.2=p.2.2.2.2.2.2.2.2.2:=by
 obtain⟨i,j,b,h⟩:=aZ1 t r now dead inn p;rw[h];exact⟨rfl,rfl,rfl,rfl⟩
theorem aM0{t:den tTo}{r now dead inn:Int}{p:den tPk}(h:((fwd t r now dead inn p).1==2)=false):kE p=true:=by
 cases hv:kE p with
 | true=>rfl
 | false=>
  unfold fwd at h;rw[hv]at h;cases h
def aAk(w:den tNw):den tNw:=(nT w,nK w,nG w,aL w,aK w,aQ w,aD w,aW w,wr (cW w+1))
def sU(w:den tNw)(r eg:Int)(p:den tPk):den tNw:=
 if (nS (nG w) p.2.2.2.2.2.2.2.1 r eg (aL w)).2.1&&decide ((aQ w).length<150) then
  (nT w,nK w,((nS (nG w) p.2.2.2.2.2.2.2.1 r eg (aL w)).1,(nS (nG w) p.2.2.2.2.2.2.2.1 r eg (aL w)).2.2.1,(nS (nG w) p.2.2.2.2.2.2.2.1 r eg (aL w)).2.2.2),aL w,aK w,aQ w++[((remote (nT w) r eg).1,(remote (nT w) r eg).2,p)],aD w,aW w,cW w)
 else aAk w
structure aFm (w:den tNw):Prop where
 as:(nT w).1.length<=68719476736
 links:(nT w).2.length<=1073741824
 dead:(aK w).length<=68719476736
 res:(nG w).2.1.length<=1073741824
 use:(nG w).2.2.length<=1073741824
 flowsN:(aD w).length<=1073741824
 flows:∀f∈aD w,tot tFl f<=1073741824
def proc0(w:den tNw)(r inn:Int)(p:den tPk):den tNw:=
 if (cX (nT w) (aL w) (aK w) r inn p).1==0 then sU w r (cX (nT w) (aL w) (aK w) r inn p).2.1 (cX (nT w) (aL w) (aK w) r inn p).2.2.1
 else if (cX (nT w) (aL w) (aK w) r inn p).1==1 then yJ w r (cX (nT w) (aL w) (aK w) r inn p).2.2.1
 else aAk w
structure aE8 (p:den tPk):Prop where
 sz:tot tPk p<=1073741824
 by_:eU p
theorem aE8.step{p:den tPk}(h:aE8 p)(t:den tTo)(now:Int)(dead:List Int)(r inn:Int):aE8 (cX t now dead r inn p).2.2.1 where
 sz:=by unfold cX;rw[aNg];exact h.sz
 by_:=λx hx=>h.by_ x (by unfold cX at hx;rwa [(aHc t r now _ inn p).2.2.2]at hx)
theorem aXp:∀(k n:Nat),n<128 ^ (k+1)-> ∀x∈vi k n,0<=x/\x<=255
 | 0,n,h,x,hx=>by
  have :x=(n:Int):=by simpa [vi] using hx
  subst this;have :128 ^ (0+1)=128:=rfl;omega
 | k+1,n,h,x,hx=>by
  unfold vi at hx;split at hx
  .have :x=(n:Int):=by simpa using hx
   subst this;omega
  .rcases List.mem_cons.1 hx with rfl | hx
   .omega
   .refine aXp k (n / 128) ?_ x hx;rw[Nat.div_lt_iff_lt_mul (by decide)]
    rwa [<- Nat.pow_succ]
def iH(l:List Int):Prop:= ∀x∈l,0<=x/\x<=255
theorem bEi{b:List Int}{n:Int}(h:iH b):iH (aGm b n):=by
 unfold aGm;split
 .rename_i hr;have :=cE.1 hr;intro x hx;rcases cCo.1 hx with hx | hx
  .exact h x hx
  .exact aXp 5 n.toNat (by have :128 ^ (5+1)=4398046511104:=rfl;omega) x hx
 .exact h
theorem aRg:∀(l b:List Int),iH b->iH (aSh b l)
 | [],b,h=>h
 | x::xs,b,h=>aRg xs (aGm b x) (bEi h)
theorem aRd(x:den tRv):iH (aKt x):=by
 unfold aKt;split
 .exact aRg _ _ (λx hx=>by cases hx)
 .exact λx hx=>by cases hx
theorem bTs{r now d:Int}{p:den tPk}(h:tot tPk p<=536870912):aE8 (gF r now d p) where
 sz:=by have :=aVu r now d p;omega
 by_:=aRd _
theorem bKh{x:den tIb}{p:den tPk}(h:aE8 p):aE8 (uW x p) where
 sz:=cCc (aUg x p) h.sz
 by_:=by
  unfold uW;split
  .exact λx hx=>by cases hx
  .exact λx hx=>by cases hx
theorem bUu{l:lIb}{a b:Int}(h:l.length<=68719476736):tS l a b=some (kC l a b):=by
 unfold tS kC;rw[aM (l:=l) (λk x=>if nL a b x then some (k:Int) else none) (by omega) (λk x hi hd hw hm hk=>by
  simp only[hd,hi,hw,zZ,aA];unfold nL;cases x.1==a<;>cases x.2.1==b<;>rfl) (by simp),aMi (nL a b)]
 cases l.findIdx? (nL a b)<;>rfl
theorem aPb(l:lIb)(a b:Int):kC l a b= -1\/ ∃(k:Nat) (x:den tIb),kC l a b=(k:Int)/\l[k]? =some x:=by
 unfold kC;cases h:l.findIdx? (nL a b) with
 | none=>exact .inl rfl
 | some i=>
  have hlt:i<l.length:=by
   have :=List.findIdx?_eq_some_iff_findIdx_eq.1 h;exact this.1
  exact .inr ⟨i,l[i],by simp,cCe hlt⟩
def uN(w:den tNw)(i:Nat)(x:den tIb):den tNw:=(nT w,nK w,nG w,aL w,aK w,aQ w,aD w,(aW w).set i x,cW w)
def aCe(w:den tNw)(i:Nat):den tIb:=((aW w)[i]?).getD (0,0,0,[])
def aB7(w:den tNw)(r:Int)(p:den tPk):den tNw:=
 if kC (aW w) r p.2.1<0 then w
 else if aH3 (kI (aCe w (kC (aW w) r p.2.1).toNat) p) p then
  proc0 (uN w (kC (aW w) r p.2.1).toNat (kI (aCe w (kC (aW w) r p.2.1).toNat) p)) r 0 (uW (kI (aCe w (kC (aW w) r p.2.1).toNat) p) p)
 else uN w (kC (aW w) r p.2.1).toNat (kI (aCe w (kC (aW w) r p.2.1).toNat) p)
def aEm(w:den tNw)(r d:Int)(p:den tPk):den tNw:=
 aAk (if (jG (aBz p)).length>1 then proc0 w r 0 (gF r (aL w) d p) else yJ w r (gF r (aL w) d p))
def kD(w:den tNw)(r inn:Int)(p:den tPk):den tNw:=
 if (cX (nT w) (aL w) (aK w) r inn p).1==0 then sU w r (cX (nT w) (aL w) (aK w) r inn p).2.1 (cX (nT w) (aL w) (aK w) r inn p).2.2.1
 else if (cX (nT w) (aL w) (aK w) r inn p).1==1 then
  (if p.1==1 then aB7 w r (cX (nT w) (aL w) (aK w) r inn p).2.2.1 else yJ w r (cX (nT w) (aL w) (aK w) r inn p).2.2.1)
 else if (cX (nT w) (aL w) (aK w) r inn p).1==7&&p.1==1 then aEm w r (cX (nT w) (aL w) (aK w) r inn p).2.2.2 p
 else aAk w
theorem aUe{w:den tNw}(h:aFm w){i:Nat}{x:den tIb}:aFm (uN w i x):=⟨h.as,h.links,h.dead,h.res,h.use,h.flowsN,h.flows⟩
theorem bHg{x:den tIb}{p:den tPk}(h:aH3 x p=true):((uW x p).1==1)=false:=by
 unfold uW;rw[h];rfl
def aBd(p q:den tPk):Prop:=p.2.2.2.1=q.2.2.2.1/\p.2.2.2.2.1=q.2.2.2.2.1/\p.2.2.2.2.2.1=q.2.2.2.2.2.1
theorem aBd.cur{p q:den tPk}(h:aBd p q):dQ p=dQ q/\eD p=eD q/\cK p=cK q/\dT p=dT q/\fD p=fD q/\kP p=kP q:=by
 obtain⟨h1,h2,h3⟩:=h;have a1:dQ p=dQ q:=by unfold dQ;rw[h1,h2,h3]
 have a2:eD p=eD q:=by unfold eD;rw[a1,h1,h2,h3]
 have a3:cK p=cK q:=by unfold cK;rw[h1,h2]
 have a4:dT p=dT q:=by unfold dT;rw[a3,h3]
 have a5:fD p=fD q:=by unfold fD;rw[a3,h3]
 exact⟨a1,a2,a3,a4,a5,by unfold kP aI4;rw[a2,a5,h1,h2]⟩
theorem aBd.adv{p q:den tPk}(h:aBd p q):aBd (adv p) (adv q):=by
 obtain⟨a1,a2,a3,a4,a5,a6⟩:=h.cur;obtain⟨h1,h2,h3⟩:=id h;unfold Go.Proofs.YtnkjolpkcmgcaaaGreat.adv;rw[a2,a5,a6];split
 .exact h
 .split
  .exact⟨h1,by show p.2.2.2.2.1+1=q.2.2.2.2.1+1;rw[h2],rfl⟩
  .exact⟨h1,h2,by show p.2.2.2.2.2.1+1=q.2.2.2.2.2.1+1;rw[h3]⟩
theorem tW(t:den tTo)(p:den tPk):aBd (bO t p) p:=by
 obtain⟨b,hb⟩:=aIk t p;rw[hb];exact⟨rfl,rfl,rfl⟩
theorem aBd.trans{p q r:den tPk}(h:aBd p q)(k:aBd q r):aBd p r:=⟨h.1.trans k.1,h.2.1.trans k.2.1,h.2.2.trans k.2.2⟩
theorem aMy{t:den tTo}{now:Int}{n:Nat}{p:den tPk}(h:(goC t now n p).1=0):iW t now p=0:=by
 cases n with
 | zero=>exact h
 | succ n=>
  unfold goC at h;split at h
  .rename_i hc;rw[cCf]at hc;simpa using hc.1
  .exact h
theorem bJ4{t:den tTo}{now:Int}{step:den tPk->Option (den tPk⊕den tPk)}
  (H:∀q,tot tPk q<=34359738368->dQ q=true->step q=some (if fD q&&decide (q.2.2.2.2.1<(q.2.2.2.1.length:Int) - 1) then .inl (adv q) else .inr q)):
  ∀(n:Nat) (p q:den tPk),aBd p q->tot tPk q<=34359738368->(goC t now n p).1=0->p.2.2.2.1.length - p.2.2.2.2.1.toNat<=n-> ∃r,aC step q=some r/\aBd (goC t now n p).2 r/\tot tPk r<=34359738368:=by
 intro n
 induction n with
 | zero=>
  intro p q hs hq hc hm;obtain⟨hh,h0⟩:=aA2 (aMy hc);obtain⟨i,j,h1,h2,h3,h4,h5⟩:=mV hh;have hlt:=(cCq.1 h3).1;rw[h1,cCm]at hm;exact absurd hlt (by omega)
 | succ n ih=>
  intro p q hs hq hc hm;have hz:=aMy hc;obtain⟨hh,h0⟩:=aA2 hz;obtain⟨a1,a2,a3,a4,a5,a6⟩:=hs.cur;obtain⟨b1,b2,b3,b4,b5,b6⟩:=(tW t p).cur;have hstep:=H q hq (a1▸hh);rw[bAf (a1▸hh) (a2▸h0)]at hstep;cases hb:fD q&& !kP q with
  | false=>
   rw[hb]at hstep;have hg:goC t now (n+1) p=(iW t now p,bO t p):=by
    show (if _ then _ else _)=_;rw[b5,b6,a5,a6,hb,cE5];rfl
   rw[hg];exact⟨q,bH hstep,(tW t p).trans hs,hq⟩
  | true=>
   rw[hb,zT rfl]at hstep;have hg:goC t now (n+1) p=goC t now n (adv (bO t p)):=by
    show (if _ then _ else _)=_;rw[b5,b6,a5,a6,hb,hz];rfl
   rw[hg]at hc ⊢;rw[dA hstep];obtain⟨e1,e2⟩:=aZu (p:=bO t p) (by rw[b2];exact h0) (by rw[b5,b6,a5,a6];exact hb);obtain⟨i,j,h1,h2,h3,h4,h5⟩:=mV hh;refine ih _ _ ((tW t p).trans hs).adv (by rw[aI7];exact hq) hc ?_;rw[e1,e2,(tW t p).1,(tW t p).2.1,h1];rw[h1,cCm]at hm;have :((i:Int)+1).toNat=i+1:=by omega
   rw[this];omega
def bFu(t:den tTo)(now:Int)(p:den tPk):Int:=pEg (cK (dC t now p).2) (dT (dC t now p).2)
theorem bWx{t:den tTo}{now:Int}{p:den tPk}(h:tot tPk p<=34359738368)(hz:(dC t now p).1=0):tZ p=some (bFu t now p):=by
 unfold tZ bM pj4 zz4 zz5 zz6 zz7 zz8 zz9;obtain⟨r,hr,hs,ht⟩:=bJ4 (t:=t) (now:=now) (step:=λs5=> @Option.bind Bool _ (Option.bind (idx s5.2.2.2.1 s5.2.2.2.2.1) λx6=>cond (s5.2.2.2.2.2.1==(wr ((x6.2.2.2.length:Int) - (1:Int)))) (some (decide (s5.2.2.2.2.1<(wr ((s5.2.2.2.1.length:Int) - (1:Int)))))) (some false)) λ(s7:Bool)=>cond s7 (Option.bind (gW (s5.1,s5.2.1,s5.2.2.1,s5.2.2.2.1,s5.2.2.2.2.1,s5.2.2.2.2.2.1,s5.2.2.2.2.2.2.1,s5.2.2.2.2.2.2.2.1,s5.2.2.2.2.2.2.2.2.1,s5.2.2.2.2.2.2.2.2.2)) λy8=>some (cCb (y8.1,y8.2.1,y8.2.2.1,y8.2.2.2.2.2.2.2.2.1,y8.2.2.2.1,y8.2.2.2.2.1,y8.2.2.2.2.2.1,y8.2.2.2.2.2.2.1,y8.2.2.2.2.2.2.2.1,y8.2.2.2.2.2.2.2.2.2))) (some (cCa (s5.1,s5.2.1,s5.2.2.1,s5.2.2.2.1,s5.2.2.2.2.1,s5.2.2.2.2.2.1,s5.2.2.2.2.2.2.1,s5.2.2.2.2.2.2.2.1,s5.2.2.2.2.2.2.2.2.1,s5.2.2.2.2.2.2.2.2.2)))) (λq hq hh=>by
   obtain⟨i,j,k1,k2,k3,k4,k5⟩:=mV hh;have l1:cCv q.2.2.2.1<=68719476736:=(sD hq).2.2.2.1.1;have hp1:idx q.2.2.2.1 q.2.2.2.2.1=some (cK q):=by rw[k1,aF];exact k3
   simp only[hp1,aA,pI (aGe (sD hq) k3),pI l1,aN,bEj (sD hq)];unfold fD;cases q.2.2.2.2.2.1==((cK q).2.2.2.length:Int) - 1<;>cases decide (q.2.2.2.2.1<(q.2.2.2.1.length:Int) - 1)<;>rfl) _ p p ⟨rfl,rfl,rfl⟩ h hz (cCx _)
 have hs:aBd (dC t now p).2 r:=hs;have hr':aC _ (p.1,p.2.1,p.2.2.1,p.2.2.2.1,p.2.2.2.2.1,p.2.2.2.2.2.1,p.2.2.2.2.2.2.1,p.2.2.2.2.2.2.2.1,p.2.2.2.2.2.2.2.2.1,p.2.2.2.2.2.2.2.2.2)=some r:=hr;rw[hr',aA];obtain⟨a1,a2,a3,a4,a5,a6⟩:=hs.cur;obtain⟨g1,g2,g3⟩:=aI6 _ p hz;have g1:dQ r=true:=a1▸g1;obtain⟨i,j,k1,k2,k3,k4,k5⟩:=mV g1;have hp1:idx r.2.2.2.1 r.2.2.2.2.1=some (cK r):=by rw[k1,aF];exact k3
 have hp2:dH (cK r) r.2.2.2.2.2.1=some (pEg (cK r) (dT r)):=by rw[k2];exact aWo k4 (aGe (sD ht) k3)
 rw[hp1,aA];simp only[aN,hp2,aA];unfold bFu;rw[a3,a4]
theorem bKf{t:den tTo}{now:Int}:∀(n:Nat) (p:den tPk),(goC t now n p).1<=5
 | 0,p=>by
  show iW t now p<=5;unfold iW
  repeat' split
  all_goals decide
 | n+1,p=>by
  unfold goC;split
  .exact bKf n _
  .show iW t now p<=5;unfold iW
   repeat' split
   all_goals decide
theorem bLy{t:den tTo}{r now dead inn:Int}{p:den tPk}(h:(fwd t r now dead inn p).1=7):(dC t now p).1=0/\(fwd t r now dead inn p).2.2.2=bFu t now p:=by
 have hg:(dC t now p).1<=5:=bKf _ p;unfold fwd at h|-;split at h
 .cases h
 .rename_i c1;rw[zS c1];split at h
  .cases h
  .rename_i c2;rw[zS c2];split at h
   .simp only at h;omega
   .rename_i c3;rw[zS c3];refine⟨by simpa using c3,?_⟩;split at h
    .split at h<;>cases h
    .rename_i c4;rw[zS c4];split at h
     .cases h
     .rename_i c5;rw[zS c5];split at h
      .rename_i c6;rw[zT c6];rfl
      .cases h
theorem kinds{p:den tPk}(h:kE p=true)(h1:(p.1==1)=false)(h2:(p.1==2)=false):(p.1==3)=true:=by
 unfold kE at h;rw[cCf]at h;have hr:=cE.1 h.1;have h1: ¬ p.1=(1:Int):=by simpa using h1
 have h2: ¬ p.1=(2:Int):=by simpa using h2
 have key:∀c:Int,1<=c->c<=3-> ¬ c=1-> ¬ c=2->c=3:=by intro c;omega
 have :p.1=(3:Int):=key p.1 hr.1 hr.2 h1 h2;rw[this];rfl
theorem bT6{w:den tNw}{r:Int}{p:den tPk}(h:aFm w)(hp:aE8 p)(hk:(p.1==1)=false)(hv:(p.1==2)=false->(p.1==3)=true):tL w r p=some (fW (yJ w r p)):=by
 unfold tL jT.b ixb bM yO pj2 pj3 pj4 pj9 lN aU zz4 zz5 zz6 zz7 zz8 zz9;rw[hk,zY];cases h2:p.1==2 with
 | true=>
  rw[zZ];refine bL0 (w:=w) (r:=r) (p:=p) h2 h.flows h.flowsN (λk f a ha hx hm hk'=> ?_) (λa ha=> ?_)
  .obtain⟨d1,d2⟩:=aSm ha hk';have hw:wr ((k:Int)+1)=((k+1:Nat):Int):=(wri (by have :=h.flowsN;omega) (by have :=h.flowsN;omega)).trans (by omega);simp only[d1,d2,bZ,cCm,hx,zZ,aA,aN,bB2 (bBd (h.flows f hm)),aT,bI,aX,aY,aZ,hw];unfold uY;rw[h2];cases f.1==r
   .simp only[zY,cCs,zU,aA,aOk hx]
   .simp only[zZ,zV,aA];rfl
  .show cond (decide ((((aD w).length:Nat):Int)<(a.length:Int))) _ _=_;rw[ha,zW (by omega)];rfl
 | false=>
  rw[zY,hv h2,zZ];simp only[aN,aTs h2 h.flows h.flowsN hp.sz hp.by_,aA]
theorem bX1{w:den tNw}{r:Int}{p:den tPk}(h:aFm w)(hp:aE8 p)(hk:(p.1==1)=false)(hv:(p.1==2)=false->(p.1==3)=true):jT w r p=some (fW (yJ w r p)):=by
 unfold jT jT.b ixb bM yO pj2 pj3 pj4 pj9 lN aU zz4 zz5 zz6 zz7 zz8 zz9;rw[hk,zY];cases h2:p.1==2 with
 | true=>
  rw[zZ];refine bL0 (w:=w) (r:=r) (p:=p) h2 h.flows h.flowsN (λk f a ha hx hm hk'=> ?_) (λa ha=> ?_)
  .obtain⟨d1,d2⟩:=aSm ha hk';have hw:wr ((k:Int)+1)=((k+1:Nat):Int):=(wri (by have :=h.flowsN;omega) (by have :=h.flowsN;omega)).trans (by omega);simp only[d1,d2,bZ,cCm,hx,zZ,aA,aN,bB2 (bBd (h.flows f hm)),aT,bI,aX,aY,aZ,hw];unfold uY;rw[h2];cases f.1==r
   .simp only[zY,cCs,zU,aA,aOk hx]
   .simp only[zZ,zV,aA];rfl
  .show cond (decide ((((aD w).length:Nat):Int)<(a.length:Int))) _ _=_;rw[ha,zW (by omega)];rfl
 | false=>
  rw[zY,hv h2,zZ];simp only[aN,aTs h2 h.flows h.flowsN hp.sz hp.by_,aA]
theorem aSe{w:den tNw}{r inn:Int}{p:den tPk}(h:aFm w)(hp:aE8 p)(hk:(p.1==1)=false):gQ w r inn p=some (fW (proc0 w r inn p)):=by
 have hp2:tot tPt p.2.2.2.1<=1073741824:=aYr hp.sz;have hs:=hp.step (nT w) (aL w) (aK w) r inn;have hkeep:=aHc w.1 r w.2.2.2.1 (aAi w.1 w.2.2.2.2.1 r) inn p;have hval:=aM0 (t:=w.1) (r:=r) (now:=w.2.2.2.1) (dead:=aAi w.1 w.2.2.2.2.1 r) (inn:=inn) (p:=p);unfold gQ dZ.b bM aDc yO pj2 pj3 lN aU bG bC zz4 zz5 zz6 zz7 zz8 zz9;simp only[aN,bCd h.links h.dead,bTn h.as (cCc h.links (by decide)) (cCc hp.sz (by decide)) hp2,aA,aT,bI,aX,aY,aZ,hk];rw[show fwd w.1 r w.2.2.2.1 (aAi w.1 w.2.2.2.2.1 r) inn p=cX (nT w) (aL w) (aK w) r inn p from rfl]at hkeep hval ⊢;unfold proc0;generalize cX (nT w) (aL w) (aK w) r inn p=v at hs hkeep hval;have hback:(((fwS v).2.2.1,(fwS v).2.2.2.1,(fwS v).2.2.2.2.1,(fwS v).2.2.2.2.2.2.2.2.2.2.1,(fwS v).2.2.2.2.2.1,(fwS v).2.2.2.2.2.2.1,(fwS v).2.2.2.2.2.2.2.1,(fwS v).2.2.2.2.2.2.2.2.1,(fwS v).2.2.2.2.2.2.2.2.2.1,(fwS v).2.2.2.2.2.2.2.2.2.2.2):den tPk)=v.2.2.1:=rfl;rw[show (fwS v).1=v.1 from rfl,show (fwS v).2.1=v.2.1 from rfl];cases c1:v.1==1
 .cases c0:v.1==0
  .cases c7:v.1==7
   .simp only[zY,aA,cCs,zU,cCp];rfl
   .simp only[zZ,zY,aA,cCs,zU,cCp];rfl
  .unfold sU;rw[hkeep.2.2.1];simp only[zZ,zY,zV,aGf (t:=w.1) (cCc h.links (by decide)),aTe h.res h.use,aA];cases ct:(nS w.2.2.1 p.2.2.2.2.2.2.2.1 r v.2.1 w.2.2.2.1).2.1
   .simp only[zY,aA,cCj,cCs,zU,cCp];rfl
   .by_cases hl:(aQ w).length<150
    .have h150:decide ((w.2.2.2.2.2.1.length:Int)<150)=true:=zX (by have :w.2.2.2.2.2.1.length<150:=hl;omega);rw[zX hl];simp only[zZ,aA,h150,cD7,zV,aE (b:=128) (n:=w.2.2.2.2.2.1.length) (m:=1) (by decide) (show (aQ w).length+1<=_ by omega),cCr];rfl
    .have h150:decide ((w.2.2.2.2.2.1.length:Int)<150)=false:=zW (by have : ¬ w.2.2.2.2.2.1.length<150:=hl;omega);rw[zW hl];simp only[zZ,zY,aA,h150,cE5,cCs,zU,cCp];rfl
 .have c0:(v.1==0)=false:=by
   have :v.1=1:=by simpa using c1
   rw[this];rfl
  have hv:kE p=true:=hval (by rw[show v.1=1 from by simpa using c1];rfl);have hq1:(v.2.2.1.1==1)=false:=by rw[hkeep.1];exact hk
  have hq2:(v.2.2.1.1==2)=false->(v.2.2.1.1==3)=true:=by rw[hkeep.1];exact kinds hv hk
  rw[hback,bT6 h hs hq1 hq2];simp only[c0,zZ,aA,cCs,zU,zV,cCr]
theorem bXt{w:den tNw}{r:Int}{p:den tPk}(h:aFm w)(hbn:(aW w).length<=68719476736)(hbx:∀x∈aW w,tot tIb x<=1073741824)(hp:aE8 p)(hk:(p.1==1)=true):jT w r p=some (fW (aB7 w r p)):=by
 unfold jT jT.b aB7 ixb bM yO pj2 pj3 pj4 pj9 lN aU zz4 zz5 zz6 zz7 zz8 zz9;simp only[hk,zZ,aSa hbn,aA];rcases aPb (aW w) r p.2.1 with hf | ⟨k,x,hf,hx⟩
 .rw[show kC w.2.2.2.2.2.2.2.1 r p.2.1= -1 from hf];rfl
 .have hlt:=(cCq.1 hx).1;have hx0:w.2.2.2.2.2.2.2.1[k]? =some x:=hx;have hxm:=hbx x (cCt hx);have hxs:SmB 4294967296 tIb x:=(bB hxm).mono (by decide);have hvs:SmB 4294967296 tPk p:=(bB hp.sz).mono (by decide);have hd1:decide ((k:Int)<(w.2.2.2.2.2.2.2.1.length:Int))=true:=zX (by have :k<w.2.2.2.2.2.2.2.1.length:=hlt;omega);have hd2:decide (k<w.2.2.2.2.2.2.2.1.length)=true:=zX hlt;have hba:aCe w k=x:=by unfold aCe;rw[hx];rfl
  rw[show kC w.2.2.2.2.2.2.2.1 r p.2.1=(k:Int) from hf,zW (show ¬ (k:Int)<0 by omega),zS (show ¬ (k:Int)<0 by omega),cCm,hba];have e1:gQ (w.1,w.2.1,w.2.2.1,w.2.2.2.1,w.2.2.2.2.1,w.2.2.2.2.2.1,w.2.2.2.2.2.2.1,w.2.2.2.2.2.2.2.1.set k (kI x p),w.2.2.2.2.2.2.2.2) r 0 (uW (kI x p) p)=some (fW (proc0 (uN w k (kI x p)) r 0 (uW (kI x p) p))):=by
   cases ca:aH3 (kI x p) p with
   | true=>exact aSe (aUe h) (bKh hp) (bHg ca)
   | false=>exact aSe (aUe h) (bKh hp) (by unfold uW;rw[ca];rfl)
  simp only[zY,bZ,hd1,hd2,zZ,hx0,aA,aN,bVz hxs hvs,bVn (x:=kI x p) (p:=p) (cCc (aYr hp.sz) (by decide)),aT,bI,aX,aY,aZ,pkB,e1];cases aH3 (kI x p) p<;>rfl
theorem bBq{w:den tNw}{r inn:Int}{p:den tPk}(h:aFm w)(hbn:(aW w).length<=68719476736)(hbx:∀x∈aW w,tot tIb x<=1073741824)(hz:tot tPk p<=536870912)(hb:eU p):dZ w r inn p=some (fW (kD w r inn p)):=by
 have hp:aE8 p:=⟨by omega,hb⟩
 have hp2:tot tPt p.2.2.2.1<=1073741824:=aYr hp.sz;have hs:=hp.step (nT w) (aL w) (aK w) r inn;have hkeep:=aHc w.1 r w.2.2.2.1 (aAi w.1 w.2.2.2.2.1 r) inn p;have hval:=aM0 (t:=w.1) (r:=r) (now:=w.2.2.2.1) (dead:=aAi w.1 w.2.2.2.2.1 r) (inn:=inn) (p:=p);have hsev:=bLy (t:=w.1) (r:=r) (now:=w.2.2.2.1) (dead:=aAi w.1 w.2.2.2.2.1 r) (inn:=inn) (p:=p);unfold dZ dZ.b bM aDc yO pj2 pj3 lN aU bG bC zz4 zz5 zz6 zz7 zz8 zz9;simp only[aN,bCd h.links h.dead,bTn h.as (cCc h.links (by decide)) (cCc hp.sz (by decide)) hp2,aA,aT,bI,aX,aY,aZ];rw[show fwd w.1 r w.2.2.2.1 (aAi w.1 w.2.2.2.2.1 r) inn p=cX (nT w) (aL w) (aK w) r inn p from rfl]at hkeep hval hsev ⊢;unfold kD;generalize cX (nT w) (aL w) (aK w) r inn p=v at hs hkeep hval hsev;have hback:(((fwS v).2.2.1,(fwS v).2.2.2.1,(fwS v).2.2.2.2.1,(fwS v).2.2.2.2.2.2.2.2.2.2.1,(fwS v).2.2.2.2.2.1,(fwS v).2.2.2.2.2.2.1,(fwS v).2.2.2.2.2.2.2.1,(fwS v).2.2.2.2.2.2.2.2.1,(fwS v).2.2.2.2.2.2.2.2.2.1,(fwS v).2.2.2.2.2.2.2.2.2.2.2):den tPk)=v.2.2.1:=rfl;rw[show (fwS v).1=v.1 from rfl,show (fwS v).2.1=v.2.1 from rfl];cases c1:v.1==1
 .cases c0:v.1==0
  .cases c7:v.1==7
   .simp only[zY,aA,cCs,zU,cCp,cCj];rfl
   .cases ck:p.1==1
    .simp only[zZ,zY,aA,cCs,zU,cCp,cE5];rfl
    .obtain⟨hz0,hd0⟩:=hsev (by simpa using c7);have hn:aE8 (gF r (aL w) v.2.2.2 p):=bTs hz;have ht1:tot tPt (aBz p)<=34359738368:=cCc (aJ1 p) (cCc hp2 (by decide));have hlen:decide (((jG (aBz p)).length:Int)>1)=decide ((jG (aBz p)).length>1):=by rw[cC7];simp only[zR,gt_iff_lt];omega
     have e1:gQ w r 0 ((pkR (gF r w.2.2.2.1 v.2.2.2 p)).1,(pkR (gF r w.2.2.2.1 v.2.2.2 p)).2.1,(pkR (gF r w.2.2.2.1 v.2.2.2 p)).2.2.1,(pkR (gF r w.2.2.2.1 v.2.2.2 p)).2.2.2.2.2.2.2.2.1,(pkR (gF r w.2.2.2.1 v.2.2.2 p)).2.2.2.1,(pkR (gF r w.2.2.2.1 v.2.2.2 p)).2.2.2.2.1,(pkR (gF r w.2.2.2.1 v.2.2.2 p)).2.2.2.2.2.1,(pkR (gF r w.2.2.2.1 v.2.2.2 p)).2.2.2.2.2.2.1,(pkR (gF r w.2.2.2.1 v.2.2.2 p)).2.2.2.2.2.2.2.1,(pkR (gF r w.2.2.2.1 v.2.2.2 p)).2.2.2.2.2.2.2.2.2)=some (fW (proc0 w r 0 (gF r (aL w) v.2.2.2 p))):=aSe h hn rfl;have e2:nI w r ((pkR (gF r w.2.2.2.1 v.2.2.2 p)).1,(pkR (gF r w.2.2.2.1 v.2.2.2 p)).2.1,(pkR (gF r w.2.2.2.1 v.2.2.2 p)).2.2.1,(pkR (gF r w.2.2.2.1 v.2.2.2 p)).2.2.2.2.2.2.2.2.1,(pkR (gF r w.2.2.2.1 v.2.2.2 p)).2.2.2.1,(pkR (gF r w.2.2.2.1 v.2.2.2 p)).2.2.2.2.1,(pkR (gF r w.2.2.2.1 v.2.2.2 p)).2.2.2.2.2.1,(pkR (gF r w.2.2.2.1 v.2.2.2 p)).2.2.2.2.2.2.1,(pkR (gF r w.2.2.2.1 v.2.2.2 p)).2.2.2.2.2.2.2.1,(pkR (gF r w.2.2.2.1 v.2.2.2 p)).2.2.2.2.2.2.2.2.2)=some (fW (yJ w r (gF r (aL w) v.2.2.2 p))):=aTs rfl h.flows h.flowsN hn.sz hn.by_;simp only[zZ,zY,aA,cCs,zU,cD7,zV,bWx (t:=w.1) (now:=w.2.2.2.1) (p:=p) (cCc hp.sz (by decide)) hz0,<- hd0,bUt (t:=w.1) (r:=r) (now:=w.2.2.2.1) (d:=v.2.2.2) (cCc hp.sz (by decide)),aX8 (sD (p:=p) (by omega)),aT,bI,aX,aY,aZ,aF2 ht1,hlen,e1,e2];unfold aEm;cases hd:decide ((jG (aBz p)).length>1)
     .rw[zS (of_decide_eq_false hd)];rfl
     .rw[zT (of_decide_eq_true hd)];rfl
  .unfold sU;rw[hkeep.2.2.1];simp only[zZ,zY,zV,aGf (t:=w.1) (cCc h.links (by decide)),aTe h.res h.use,aA];cases ct:(nS w.2.2.1 p.2.2.2.2.2.2.2.1 r v.2.1 w.2.2.2.1).2.1
   .simp only[zY,aA,cCj,cCs,zU,cCp];rfl
   .by_cases hl:(aQ w).length<150
    .have h150:decide ((w.2.2.2.2.2.1.length:Int)<150)=true:=zX (by have :w.2.2.2.2.2.1.length<150:=hl;omega);rw[zX hl];simp only[zZ,aA,h150,cD7,zV,aE (b:=128) (n:=w.2.2.2.2.2.1.length) (m:=1) (by decide) (show (aQ w).length+1<=_ by omega),cCr];rfl
    .have h150:decide ((w.2.2.2.2.2.1.length:Int)<150)=false:=zW (by have : ¬ w.2.2.2.2.2.1.length<150:=hl;omega);rw[zW hl];simp only[zZ,zY,aA,h150,cE5,cCs,zU,cCp];rfl
 .have c0:(v.1==0)=false:=by
   have :v.1=1:=by simpa using c1
   rw[this];rfl
  have hv:kE p=true:=hval (by rw[show v.1=1 from by simpa using c1];rfl);rw[hback];cases ck:p.1==1 with
  | true=>
   rw[bXt h hbn hbx hs (by rw[hkeep.1];exact ck)];simp only[c0,zZ,aA,cCs,zU,zV,cCr]
  | false=>
   have hq1:(v.2.2.1.1==1)=false:=by rw[hkeep.1];exact ck
   have hq2:(v.2.2.1.1==2)=false->(v.2.2.1.1==3)=true:=by rw[hkeep.1];exact kinds hv ck
   rw[bX1 h hs hq1 hq2];simp only[c0,zZ,aA,cCs,zU,zV,cCr]
theorem fK(w:den tNw):tot tNw w=(tot (.sl tAS) (nT w).1+tot (.sl tLk) (nT w).2)+((tot (.sl tSg) (nK w).1+tot (.sl tSg) (nK w).2)+((0+(tot (.sl tRs) (nG w).2.1+tot (.sl tUs) (nG w).2.2))+(0+(tot (.sl ti) (aK w)+(tot (.sl tFy) (aQ w)+(tot (.sl tFl) (aD w)+(tot (.sl tIb) (aW w)+0))))))):=rfl
theorem aYv{w:den tNw}(h:tot tNw w<=1073741824):aFm w where
 as:=by have :=fK w;have :=eF (t:=tAS) (nT w).1;omega
 links:=by have :=fK w;have :=eF (t:=tLk) (nT w).2;omega
 dead:=by have :=fK w;have :=eF (t:=ti) (aK w);omega
 res:=by have :=fK w;have :=eF (t:=tRs) (nG w).2.1;omega
 use:=by have :=fK w;have :=eF (t:=tUs) (nG w).2.2;omega
 flowsN:=by have :=fK w;have :=eF (t:=tFl) (aD w);omega
 flows:=λf hf=>by have :=fK w;have :=aC4 (t:=tFl) hf;omega
theorem bWj{w:den tNw}(h:tot tNw w<=1073741824):(aW w).length<=68719476736/\ ∀x∈aW w,tot tIb x<=1073741824:=
 ⟨by have :=fK w;have :=eF (t:=tIb) (aW w);omega,λx hx=>by have :=fK w;have :=aC4 (t:=tIb) hx;omega⟩
theorem aEr(w:den tNw):tot tNw (aAk w)=tot tNw w:=rfl
theorem bBh(l:lUs):tot (.sl tUs) l=l.length:=cZ rfl
theorem bLs(g:den tSc)(id s d now:Int):tot (.sl tRs) (nS g id s d now).2.2.1=tot (.sl tRs) g.2.1/\tot (.sl tUs) (nS g id s d now).2.2.2<=tot (.sl tUs) g.2.2+1:=by
 have m1:=aHr g.2.2 id s d;have m2:=aHr g.2.2 0 s d;rw[bBh,bBh];unfold nS;split
 .exact⟨rfl,by simpa using m1⟩
 .split
  .exact⟨rfl,by simpa using m2⟩
  .exact⟨rfl,by simp⟩
theorem aVf(w:den tNw)(r eg:Int)(p:den tPk):tot tNw (sU w r eg p)<=tot tNw w+(2+tot tPk p):=by
 unfold sU;split
 .obtain⟨e1,e2⟩:=bLs (nG w) p.2.2.2.2.2.2.2.1 r eg (aL w);rw[fK,fK w];simp only[nT,nK,nG,aK,aQ,aD,aW]at e1 e2 ⊢;rw[pM,aC5];have e3:tot tFy ((remote w.1 r eg).1,(remote w.1 r eg).2,p)=tot tPk p:=by simp[sI,vD]
  rw[e3];omega
 .rw[aEr];omega
theorem bL2(f:den tFl)(p:den tPk):tot tFl (yU f p)=tot tFl f:=by
 unfold yU;split<;>rfl
theorem bI0(r:Int)(p:den tPk)(f:den tFl):tot tFl (uY r p f)<=tot tFl f+1:=by
 unfold uY;split
 .split
  .rw[bL2];omega
  .exact bIz f p
 .omega
theorem bCy(r:Int)(p:den tPk):∀l:lFl,tot (.sl tFl) (l.map (uY r p))<=tot (.sl tFl) l+l.length
 | []=>by simp
 | f::l=>by
  have h1:=bI0 r p f;have h2:=bCy r p l;rw[cC1,hH,hH,cDe];omega
theorem aGx(w:den tNw)(l:lFl):tot tNw (eR w l)=(tot (.sl tAS) (nT w).1+tot (.sl tLk) (nT w).2)+((tot (.sl tSg) (nK w).1+tot (.sl tSg) (nK w).2)+((0+(tot (.sl tRs) (nG w).2.1+tot (.sl tUs) (nG w).2.2))+(0+(tot (.sl ti) (aK w)+(tot (.sl tFy) (aQ w)+(tot (.sl tFl) l+(tot (.sl tIb) (aW w)+0))))))):=rfl
theorem bFx(w:den tNw)(k:Nat)(x:den tIb):tot tNw (uN w k x)=(tot (.sl tAS) (nT w).1+tot (.sl tLk) (nT w).2)+((tot (.sl tSg) (nK w).1+tot (.sl tSg) (nK w).2)+((0+(tot (.sl tRs) (nG w).2.1+tot (.sl tUs) (nG w).2.2))+(0+(tot (.sl ti) (aK w)+(tot (.sl tFy) (aQ w)+(tot (.sl tFl) (aD w)+(tot (.sl tIb) ((aW w).set k x)+0))))))):=rfl
theorem aMo(w:den tNw)(r:Int)(p:den tPk):tot tNw (yJ w r p)<=tot tNw w+(aD w).length:=by
 have h:=bCy r p (aD w);unfold yJ;rw[aGx,fK w];omega
end Go.Proofs.YtnkjolpkcmgcaaaGreat
