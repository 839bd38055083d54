/-
  Facts and plain laws: what the functions compute, in plain words. Conditions: as each says.
-/
import Derived.Test.YtcppmcbkokgfcaaGreatT0FnSettling
open List renaming length->cBw,mem_of_getElem?->cBr,nil_append->cCc,getElem?_cons_zero->cD9,getElem?_eq_getElem->cBe,length_take->cCq,length_append->cCd,length_singleton->cCy,getElem?_eq_some_iff->cBm,map_cons->cB3,sum_cons->cCt,getLast?_concat->cD2,dropLast_concat->cEr,length_nil->cDd,length_cons->cCf,append_assoc->cCi,singleton_append->cEp,append_nil->cCm,all_eq_true->cB5,length_filter_le->cD3,mem_zipIdx_iff_getElem?->cEt,getElem?_drop->cC6,length_drop->cDl,getElem?_map->cDv
open Nat renaming le_trans->cBf,zero_add->cB9,le_refl->cBs,zero_le->cB1
open Bool renaming eq_false_or_eq_true->cD0,true_and->cBv,eq_iff_iff->cB4,not_true->cBh,not_false->cBq,false_and->cB0,false_eq_true->cBj,and_eq_true->cBg,or_self->cC7,not_eq_true'->cCg,true_or->cDe,or_true->cDf
open Sum renaming elim_inl->cCj,inl->cBd,inr->cBc
open Int renaming toNat_natCast->cBo,tmod->cB6,toNat_of_nonneg->cDm,eq_ofNat_of_zero_le->cB7
open Option renaming getD_some->cCe
set_option linter.unusedVariables false
set_option linter.unusedSimpArgs false
set_option maxRecDepth 100000
namespace Go.Proofs.YtcppmcbkokgfcaaGreat
open Go.Ab Go.V
def inR (n a b:Int):Bool:=decide (a<=n)&&decide (n<=b)
theorem lR (n a b:Int):bO n a b=some (inR n a b):=by
 unfold bO inR
 by_cases h:a<=n<;>simp [h]
theorem eR (n a b:Int):aJ n a b=some (inR n a b):=by
 unfold aJ inR
 by_cases h:a<=n<;>simp [h]
theorem bM {n a b:Int}:inR n a b=true↔a<=n/\n<=b:=by simp [inR]
theorem bDn {n a b:Int}:inR n a b=false↔ ¬ (a<=n/\n<=b):=by rw [<- bM];simp
theorem bEc (a b:Int):aDx a b=some (if b>a then b else a):=rfl
theorem aWt (a b:Int):aAy a b=some (if b>a then b else a):=by
 unfold aAy
 by_cases h:b>a<;>simp [h]
theorem bYz (a b:Int):aJw a b=some (if b<a then b else a):=rfl
theorem aWh (a b:Int):aAv a b=some (if b<a then b else a):=by
 unfold aAv
 by_cases h:b<a<;>simp [h]
theorem aJh {b:List Int} (h:b.length<=68719476736):fO b=some b:=by
 unfold fO
 rw [aE (by decide) (by simpa using h)];simp
theorem bCl {l:dP} (h:l.length<=68719476736):qY l=some l:=by
 unfold qY
 rw [aE (by decide) (by simpa using h)];simp
theorem aTd {l:lRv} (h:l.length<=68719476736):eU l=some l:=by
 unfold eU
 rw [aE (by decide) (by simpa using h)];simp
theorem aPc {p:den tPp} (h:SmB 68719476736 tPp p):pW p=some p:=by
 unfold pW
 rw [aE (by decide) (by simpa using h.2.2.2.1)];simp
theorem aN0 {p:den tPt} (h:SmB 68719476736 tPt p):kQ p=some p:=by
 unfold kQ
 rw [(vE (fun k (a:lPp)=>((k:Int),a)) ((0:Int),[]) [] p (fun _ x a=>a++[x]) cBw (fun _=>1) 68719476736 id rfl (cBf h.1 (by decide)) (by rw [fM];simpa using h.1) (fun k x a hi hx hd hw hk hb=>by
  have e:=h.2 x (cBr hx)
  simp only [hd,hi,hw,zZ,aA,bCl e.2.2.2.1,aP,aE (b:=48) (by decide) hb]
  simp) (fun a=>by simp)).1,kE (fun x=>x)]
 simp
theorem aGe {p:den tPt} (h:SmB 68719476736 tPt p):iZ p=some p:=by
 unfold iZ pj4
 rw [(vE (fun k (a:lPp)=>((k:Int),a)) ((0:Int),[]) [] p (fun _ x a=>a++[x]) cBw (fun _=>1) 68719476736 id rfl (cBf h.1 (by decide)) (by rw [fM];simpa using h.1) (fun k x a hi hx hd hw hk hb=>by
  have e:=h.2 x (cBr hx)
  simp only [hd,hi,hw,zZ,aA,aP,aPc e,aE (b:=48) (by decide) hb]
  simp) (fun a=>by simp)).1,kE (fun x=>x)]
 simp
theorem bPl {l:lPt} (h:SmB 68719476736 (.sl tPt) l):uM l=some l:=by
 unfold uM
 rw [(vE (fun k (a:lPt)=>((k:Int),a)) ((0:Int),[]) [] l (fun _ x a=>a++[x]) cBw (fun _=>1) 68719476736 id rfl (cBf h.1 (by decide)) (by rw [fM];simpa using h.1) (fun k x a hi hx hd hw hk hb=>by
  have e:=h.2 x (cBr hx)
  simp only [hd,hi,hw,zZ,aA,aN0 e,aE (b:=24) (by decide) hb]
  simp) (fun a=>by simp)).1,kE (fun x=>x)]
 simp
theorem bNg {l:lPt} (h:SmB 68719476736 (.sl tPt) l):yU l=some l:=by
 unfold yU
 rw [(vE (fun k (a:lPt)=>((k:Int),a)) ((0:Int),[]) [] l (fun _ x a=>a++[x]) cBw (fun _=>1) 68719476736 id rfl (cBf h.1 (by decide)) (by rw [fM];simpa using h.1) (fun k x a hi hx hd hw hk hb=>by
  have e:=h.2 x (cBr hx)
  simp only [hd,hi,hw,zZ,aA,aGe e,aE (b:=24) (by decide) hb]
  simp) (fun a=>by simp)).1,kE (fun x=>x)]
 simp
theorem bB1 {l:lMs} (h:SmB 68719476736 (.sl tMs) l):jT l=some l:=by
 unfold jT
 rw [(vE (fun k (a:lMs)=>((k:Int),a)) ((0:Int),[]) [] l (fun _ x a=>a++[x]) cBw (fun _=>1) 68719476736 id rfl (cBf h.1 (by decide)) (by rw [fM];simpa using h.1) (fun k x a hi hx hd hw hk hb=>by
  have e:=h.2 x (cBr hx)
  simp only [hd,hi,hw,zZ,aA,aJh e.1,aE (b:=24) (by decide) hb]
  simp) (fun a=>by simp)).1,kE (fun x=>x)]
 simp
theorem bDp {l:lMs} (h:SmB 68719476736 (.sl tMs) l):qM l=some l:=by
 unfold qM
 rw [(vE (fun k (a:lMs)=>((k:Int),a)) ((0:Int),[]) [] l (fun _ x a=>a++[x]) cBw (fun _=>1) 68719476736 id rfl (cBf h.1 (by decide)) (by rw [fM];simpa using h.1) (fun k x a hi hx hd hw hk hb=>by
  have e:=h.2 x (cBr hx)
  simp only [hd,hi,hw,zZ,aA,aE (b:=1) (n:=([]:List Int).length) (by decide) (by simpa using e.1),aE (b:=24) (by decide) hb]
  simp) (fun a=>by simp)).1,kE (fun x=>x)]
 simp
def qB (f:den tFl):q9:=(f.1,f.2.1,f.2.2.1,f.2.2.2.1,f.2.2.2.2.2.2.1,f.2.2.2.2.2.2.2.1,f.2.2.2.2.1,f.2.2.2.2.2.1,f.2.2.2.2.2.2.2.2)
theorem aNx {f:den tFl} (h:SmB 68719476736 tFl f):kM f=some (qB f):=by
 unfold kM qB zz4 zz5 zz6 zz7 zz8
 simp only [bB1 h.2.2.2.2.1,bPl h.2.2.2.2.2.1,aTd h.2.2.2.2.2.2.2.2.1,aA]
theorem aEm {f:den tFl} (h:SmB 68719476736 tFl f):fA f=some (qB f):=by
 unfold fA qB zz4 zz5 zz6 zz7 zz8
 simp only [bDp h.2.2.2.2.1,bNg h.2.2.2.2.2.1,aA,aE (b:=24) (n:=([]:lRv).length) (by decide) (by simpa using h.2.2.2.2.2.2.2.2.1),zZ,cCc]
theorem bCk {x:den tIb} (h:SmB 68719476736 tIb x):oN x=some x:=by
 unfold oN
 simp only [bB1 h.2.2.2,aA,aP]
theorem bDd {x:den tIb} (h:SmB 68719476736 tIb x):uH x=some x:=by
 unfold uH
 simp only [bDp h.2.2.2,aA,aP]
def eJ (x:den tRv):Bool:=inR x.1 0 7&&(inR x.2.1 1 6&&inR x.2.2 0 1000000)
theorem aEo (x:den tRv):bZ x=some (eJ x):=by
 unfold bZ eJ
 simp only [lR,aA]
 cases inR x.1 0 7<;>cases inR x.2.1 1 6<;>cases inR x.2.2 0 1000000<;>rfl
theorem aD8 (x:den tRv):bY x=some (eJ x):=by
 unfold bY eJ
 simp only [eR,aA]
 cases inR x.1 0 7<;>cases inR x.2.1 1 6<;>cases inR x.2.2 0 1000000<;>rfl
theorem aCo {α S:Type} (p:Nat->α->Bool): ∀ (l:List α) (k:Nat) (ρ:S),cB (fun k x=>if p k x then none else some ρ) k l=if (l.zipIdx k).all (fun x=>p x.2 x.1) then none else some ρ
 | [],_,_=>rfl
 | x::xs,k,ρ=>by
  simp only [cB,List.zipIdx_cons,List.all_cons]
  rcases cD0 (p k x) with h | h
  .simp only [h,zV,cBv];exact aCo p xs (k+1) ρ
  .simp [h]
theorem bC8 {α:Type} (p:α->Bool): ∀ (l:List α) (k:Nat),(l.zipIdx k).all (fun x=>p x.1)=l.all p
 | [],_=>rfl
 | x::xs,k=>by simp [List.zipIdx_cons,bC8 p xs]
theorem mE {α S:Type} (p:α->Bool) (l:List α) (ρ:S):cB (fun _ x=>if p x then none else some ρ) 0 l=if l.all p then none else some ρ:=by
 rw [aCo (fun _ x=>p x),bC8 p]
def lA (f:den tFl):Bool:=
 inR f.1 0 7&&(inR f.2.1 0 7&&(!(f.1==f.2.1)&&(inR f.2.2.1 0 100000&&(decide (f.2.2.2.2.1.length<=20)&&(inR f.2.2.2.1 0 (f.2.2.2.2.1.length:Int)&&(decide (f.2.2.2.2.2.1.length<=24)&&
  (f.2.2.2.2.1.all (fun m=>decide (m.length<=40))&&(f.2.2.2.2.2.2.2.2.all eJ&&((f.2.2.2.2.2.2.1==0||inR f.2.2.2.2.2.2.1 0 ((f.2.2.2.2.2.1.length:Int) - 1))&&(inR f.2.2.2.2.2.2.2.1 0 4&&decide (f.2.2.2.2.2.2.2.2.length<=16)))))))))))
theorem bMg {f:den tFl} (h:SmB 68719476736 tFl f):uB f=some (lA f):=by
 have h1:=h.2.2.2.2.1.1
 have h2:=h.2.2.2.2.2.1.1
 have h3:=h.2.2.2.2.2.2.2.2.1
 unfold uB lA pj3 zz4 zz5 zz6 zz7 zz8
 rw [aY (l:=f.2.2.2.2.1) (fun _ m=>if decide (m.length<=40) then none else some false) (by omega) (fun k m hi hd hw hx hk=>by
  simp only [hd,hi,hw,zZ,aA]
  by_cases hm:m.length<=40
  .simp [hm,show ¬ ((m.length:Int)>40) by omega]
  .simp [hm,show (m.length:Int)>40 by omega]) (by simp)]
 rw [aY (l:=f.2.2.2.2.2.2.2.2) (fun _ x=>if eJ x then none else some false) (by omega) (fun k x hi hd hw hx hk=>by
  simp only [hd,hi,hw,zZ,aA,aP,aEo]
  cases eJ x<;>rfl) (by simp)]
 rw [mE (fun m:List Int=>decide (m.length<=40)),mE eJ]
 have e1:decide ((f.2.2.2.2.1.length:Int)>20)= !decide (f.2.2.2.2.1.length<=20):=by rw [cB4];simp;omega
 have e2:decide ((f.2.2.2.2.2.1.length:Int)>24)= !decide (f.2.2.2.2.2.1.length<=24):=by rw [cB4];simp;omega
 have e3:decide ((f.2.2.2.2.2.2.2.2.length:Int)<=16)=decide (f.2.2.2.2.2.2.2.2.length<=16):=by rw [cB4];simp;omega
 have e5:wr ((f.2.2.2.2.2.1.length:Int) - 1)=(f.2.2.2.2.2.1.length:Int) - 1:=wri (by omega) (by omega)
 rw [e5]
 simp only [lR,aA,e1,e2,e3]
 cases inR f.1 0 7<;>simp only [cBh,cBq,zZ,zY,aA,cB0,cBv]
 cases inR f.2.1 0 7<;>simp only [cBh,cBq,zZ,zY,aA,cB0,cBv]
 cases f.1==f.2.1<;>simp only [cBh,cBq,zZ,zY,aA,cB0,cBv]
 cases inR f.2.2.1 0 100000<;>simp only [cBh,cBq,zZ,zY,aA,cB0,cBv]
 cases decide (f.2.2.2.2.1.length<=20)<;>simp only [cBh,cBq,zZ,zY,aA,cB0,cBv]
 cases inR f.2.2.2.1 0 (f.2.2.2.2.1.length:Int)<;>simp only [cBh,cBq,zZ,zY,aA,cB0,cBv]
 cases decide (f.2.2.2.2.2.1.length<=24)<;>simp only [cBh,cBq,zZ,zY,aA,cB0,cBv]
 cases f.2.2.2.2.1.all (fun m=>decide (m.length<=40))<;>simp only [cBj,zV,zU,aA,cCj,Sum.elim_inr,cB0,cBv]
 cases f.2.2.2.2.2.2.2.2.all eJ<;>simp only [cBj,zV,zU,aA,cCj,Sum.elim_inr,cB0,cBv]
 cases f.2.2.2.2.2.2.1==0<;>cases inR f.2.2.2.2.2.2.1 0 ((f.2.2.2.2.2.1.length:Int) - 1)<;>cases inR f.2.2.2.2.2.2.2.1 0 4<;>rfl
theorem aO9 {f:den tFl} (h:SmB 68719476736 tFl f):jX f=some (lA f):=by
 have h1:=h.2.2.2.2.1.1
 have h2:=h.2.2.2.2.2.1.1
 have h3:=h.2.2.2.2.2.2.2.2.1
 unfold jX lA pj3 zz4 zz5 zz6 zz7 zz8
 rw [aY (l:=f.2.2.2.2.1) (fun _ m=>if decide (m.length<=40) then none else some false) (by omega) (fun k m hi hd hw hx hk=>by
  simp only [hd,hi,hw,zZ,aA]
  by_cases hm:m.length<=40
  .simp [hm,show ¬ ((m.length:Int)>40) by omega]
  .simp [hm,show (m.length:Int)>40 by omega]) (by simp)]
 rw [aY (l:=f.2.2.2.2.2.2.2.2) (fun _ x=>if eJ x then none else some false) (by omega) (fun k x hi hd hw hx hk=>by
  simp only [hd,hi,hw,zZ,aA,aP,aD8]
  cases eJ x<;>rfl) (by simp)]
 rw [mE (fun m:List Int=>decide (m.length<=40)),mE eJ]
 have e1:decide ((f.2.2.2.2.1.length:Int)>20)= !decide (f.2.2.2.2.1.length<=20):=by rw [cB4];simp;omega
 have e2:decide ((f.2.2.2.2.2.1.length:Int)>24)= !decide (f.2.2.2.2.2.1.length<=24):=by rw [cB4];simp;omega
 have e3:decide ((f.2.2.2.2.2.2.2.2.length:Int)>16)= !decide (f.2.2.2.2.2.2.2.2.length<=16):=by rw [cB4];simp;omega
 have e4:inR f.2.2.2.2.2.2.1 0 (if ((f.2.2.2.2.2.1.length:Int) - 1)>0 then ((f.2.2.2.2.2.1.length:Int) - 1) else 0)=(f.2.2.2.2.2.2.1==0||inR f.2.2.2.2.2.2.1 0 ((f.2.2.2.2.2.1.length:Int) - 1)):=by
  have key: ∀ (c n:Int),0<=n->inR c 0 (if n - 1>0 then n - 1 else 0)=(c==0||inR c 0 (n - 1)):=fun c n hn=>by
   unfold inR
   by_cases h1:n - 1>0
   .rw [zT h1]
    by_cases h2:c=0
    .subst h2;simp;omega
    .simp [h2]
   .rw [zS h1]
    by_cases h2:c=0
    .subst h2;simp
    .rw [cB4];simp [h2];omega
  exact key _ _ (by omega)
 have e5:wr ((f.2.2.2.2.2.1.length:Int) - 1)=(f.2.2.2.2.2.1.length:Int) - 1:=wri (by omega) (by omega)
 rw [e5]
 simp only [eR,aWt,aA,e1,e2,e3,e4]
 cases inR f.1 0 7<;>simp only [cBh,cBq,zZ,zY,aA,cB0,cBv]
 cases inR f.2.1 0 7<;>simp only [cBh,cBq,zZ,zY,aA,cB0,cBv]
 cases f.1==f.2.1<;>simp only [cBh,cBq,zZ,zY,aA,cB0,cBv]
 cases inR f.2.2.1 0 100000<;>simp only [cBh,cBq,zZ,zY,aA,cB0,cBv]
 cases decide (f.2.2.2.2.1.length<=20)<;>simp only [cBh,cBq,zZ,zY,aA,cB0,cBv]
 cases inR f.2.2.2.1 0 (f.2.2.2.2.1.length:Int)<;>simp only [cBh,cBq,zZ,zY,aA,cB0,cBv]
 cases decide (f.2.2.2.2.2.1.length<=24)<;>simp only [cBh,cBq,zZ,zY,aA,cB0,cBv]
 cases f.2.2.2.2.2.2.1==0||inR f.2.2.2.2.2.2.1 0 ((f.2.2.2.2.2.1.length:Int) - 1)<;>cases inR f.2.2.2.2.2.2.2.1 0 4<;>cases decide (f.2.2.2.2.2.2.2.2.length<=16)<;>cases f.2.2.2.2.1.all (fun m=>decide (m.length<=40))<;>cases f.2.2.2.2.2.2.2.2.all eJ<;>rfl
def aDn (a b:List Int):Bool:=(aAa a).toList==(aAa b).toList
theorem bTd (a b:List Int):uV a b=some (aDn a b):=rfl
theorem bTh (a b:List Int):nN a b=some (aDn a b):=rfl
def yA:lMs->lMs->Bool
 | [],_=>true
 | _::_,[]=>true
 | a::as,b::bs=>aDn a b&&yA as bs
def aN9 {α S:Type} (p:α->α->Bool) (l:List α) (ρ:S) (k:Nat) (x:α):Option S:=Option.elim l[k]? none fun y=>if p x y then none else some ρ
theorem bG0 {α S:Type} (p:α->α->Bool) (q:List α->List α->Bool) (h0: ∀ b,q [] b=true) (h1: ∀ x a y b,q (x::a) (y::b)=(p x y&&q a b)) (ρ:S): ∀ (a b:List α),a.length<=b.length-> ∀ (k:Nat) (l:List α),(∀ j,b[j]? =l[k+j]?)->cB (aN9 p l ρ) k a=if q a b then none else some ρ
 | [],b,_,k,l,_=>by rw [h0];rfl
 | x::a,[],h,_,_,_=>by simp at h
 | x::a,y::b,h,k,l,hl=>by
  have e0:=hl 0
  simp only [Nat.add_zero,cD9] at e0
  simp only [cB,aN9,<- e0,h1,Option.elim_some]
  rcases cD0 (p x y) with hp | hp
  .simp only [hp,zV,cBv]
   exact bG0 p q h0 h1 ρ a b (by simpa using h) (k+1) l fun j=>by
    have :=hl (j+1)
    rw [List.getElem?_cons_succ] at this
    rw [this];congr 1;omega
  .simp [hp]
theorem bL4 {a b:lMs} (ha:a.length<=68719476736) (hb:b.length<=68719476736):mQ a b=some (decide (a.length=b.length)&&yA a b):=by
 unfold mQ
 by_cases hl:a.length=b.length
 .have h0:((a.length:Int) != (b.length:Int))=false:=by simp [hl]
  rw [h0,zY,aY (l:=a) (aN9 aDn b false) (by omega) (fun k x hi hd hw hx hk=>by
    have hy:b[k]? =some b[k]:=cBe (by omega)
    simp only [hd,hi,hw,zZ,aA,aH,hy,bTd,aN9,Option.elim_some]
    cases aDn x b[k]<;>rfl) (by simp)]
  rw [bG0 aDn yA (fun b=>by cases b<;>rfl) (fun _ _ _ _=>rfl) false a b (by omega) 0 b (fun j=>by rw [cB9])]
  cases yA a b<;>simp [hl]
 .have h0:((a.length:Int) != (b.length:Int))=true:=by simp;omega
  rw [h0,zZ];simp [hl]
def aAg (f:den tFl) (x:den tIb):Bool:=
 x.1==f.2.1&&(x.2.1==f.1&&(decide (x.2.2.2.length<=f.2.2.2.2.1.length)&&(yA x.2.2.2 f.2.2.2.2.1&&decide ((x.2.2.2.length:Int)>=f.2.2.2.1))))
theorem aIm: ∀ (a b:lMs),yA a (b.take a.length)=yA a b
 | [],b=>by cases b<;>rfl
 | x::a,[]=>rfl
 | x::a,y::b=>by simp [yA,aIm a b]
theorem bJn {f:den tFl} {x:den tIb} (hf:f.2.2.2.2.1.length<=68719476736) (hx:x.2.2.2.length<=68719476736):lU f x=some (aAg f x):=by
 unfold lU aAg zz4
 cases x.1==f.2.1
 .rfl
 cases x.2.1==f.1
 .rfl
 by_cases hl:x.2.2.2.length<=f.2.2.2.2.1.length
 .have h1:decide ((x.2.2.2.length:Int)<=(f.2.2.2.2.1.length:Int))=true:=by simpa using hl
  have h2:cC (0:Int) (x.2.2.2.length:Int) (f.2.2.2.2.1.length:Int)=true:=by simp [cC];omega
  rw [h1,h2,iE,bL4 hx (by rw [cCq];omega),aIm]
  have h3:decide (x.2.2.2.length=(List.take x.2.2.2.length f.2.2.2.2.1).length)=true:=by simp [cCq];omega
  rw [h3]
  simp only [zZ,aA,cBv,zX hl]
  cases yA x.2.2.2 f.2.2.2.2.1<;>rfl
 .have h1:decide ((x.2.2.2.length:Int)<=(f.2.2.2.2.1.length:Int))=false:=by simp;omega
  rw [h1]
  simp [hl]
theorem bJ6 {f:den tFl} {x:den tIb} (hf:f.2.2.2.2.1.length<=68719476736) (hx:x.2.2.2.length<=68719476736):lO f x=some (aAg f x):=by
 unfold lO aAg zz4
 simp only [bne]
 cases x.1==f.2.1
 .rfl
 cases x.2.1==f.1
 .rfl
 by_cases hl:x.2.2.2.length<=f.2.2.2.2.1.length
 .have h1:decide ((x.2.2.2.length:Int)>(f.2.2.2.2.1.length:Int))=false:=by simp;omega
  have h4:decide ((x.2.2.2.length:Int)<f.2.2.2.1)= !decide ((x.2.2.2.length:Int)>=f.2.2.2.1):=by rw [cB4];simp
  rw [h1,h4,aY (l:=x.2.2.2) (aN9 aDn f.2.2.2.2.1 false) (by omega) (fun k m hi hd hw hm hk=>by
    have hy:f.2.2.2.2.1[k]? =some f.2.2.2.2.1[k]:=cBe (by omega)
    simp only [hd,hi,hw,zZ,aA,aH,hy,bTh,aN9,Option.elim_some]
    cases aDn m f.2.2.2.2.1[k]<;>rfl) (by simp)]
  rw [bG0 aDn yA (fun b=>by cases b<;>rfl) (fun _ _ _ _=>rfl) false x.2.2.2 f.2.2.2.2.1 hl 0 f.2.2.2.2.1 (fun j=>by rw [cB9])]
  rw [zX hl]
  cases decide ((x.2.2.2.length:Int)>=f.2.2.2.1)<;>cases yA x.2.2.2 f.2.2.2.2.1<;>rfl
 .have h1:decide ((x.2.2.2.length:Int)>(f.2.2.2.2.1.length:Int))=true:=by simp;omega
  rw [h1]
  simp [hl]
def aBq (x:den tIb) (p:den tPk):Bool:=p.1==1&&(p.2.1==x.2.1&&p.2.2.1==x.1)
theorem bDf (x:den tIb) (p:den tPk):uK x p=some (aBq x p):=by
 unfold uK aBq
 cases p.1==1<;>cases p.2.1==x.2.1<;>rfl
theorem bBt (x:den tIb) (p:den tPk):xF x p=some (aBq x p):=by
 unfold xF aBq
 cases p.1==1<;>cases p.2.1==x.2.1<;>rfl
def aWr (x:den tIb) (p:den tPk):Bool:=aBq x p&&(p.2.2.2.2.2.2.2.2.1==x.2.2.1&&decide (x.2.2.1<20))
def eE (x:den tIb) (p:den tPk):den tIb:=if aWr x p then (x.1,x.2.1,wr (x.2.2.1+1),x.2.2.2++[p.2.2.2.2.2.2.2.2.2]) else x
theorem bTt {x:den tIb} {p:den tPk} (hx:SmB 4294967296 tIb x) (hp:SmB 4294967296 tPk p):oO x p=some (eE x p):=by
 have hx':SmB 68719476736 tIb x:=hx.mono (by decide)
 have hp':=(hp.mono (C:=68719476736) (by decide)).2.2.2.2.2.2.2.2.2.1
 unfold oO eE aWr aL pj4 zz8 zz9
 have ha:=hx.2.2.2.1
 simp only [aP,bCk hx',bDf,aJh hp',aA,aE (b:=24) (n:=x.2.2.2.length) (m:=1) (by decide) (by omega),zZ]
 cases aBq x p<;>cases p.2.2.2.2.2.2.2.2.1==x.2.2.1<;>cases decide (x.2.2.1<20)<;>rfl
theorem bS5 {x:den tIb} {p:den tPk} (hx:SmB 4294967296 tIb x) (hp:SmB 4294967296 tPk p):oU x p=some (eE x p):=by
 have hx':SmB 68719476736 tIb x:=hx.mono (by decide)
 have hp':=(hp.mono (C:=68719476736) (by decide)).2.2.2.2.2.2.2.2.2.1
 unfold oU eE aWr aL pj4 zz8 zz9
 have ha:=hx.2.2.2.1
 simp only [aP,bDd hx',bBt,aA,aE (b:=1) (n:=([]:List Int).length) (by decide) (by simpa using hp'),aE (b:=24) (n:=x.2.2.2.length) (m:=1) (by decide) (by omega),zZ,cCc]
 cases aBq x p<;>cases p.2.2.2.2.2.2.2.2.1==x.2.2.1<;>cases decide (x.2.2.1<20)<;>rfl
theorem bK7 (x:den tIb) (p:den tPk):tot (.sl tMs) (eE x p).2.2.2<=tot (.sl tMs) x.2.2.2+1+tot (.sl tb) p.2.2.2.2.2.2.2.2.2:=by
 unfold eE
 split
 .rw [sU,aEf]
  show _+(1+tot (.sl tb) _)<=_
  omega
 .omega
def aTm (f:den tFl) (p:den tPk):Bool:=p.1==2&&(p.2.1==f.2.1&&(p.2.2.1==f.1&&(p.2.2.2.2.2.2.2.2.1==f.2.2.2.1&&inR f.2.2.2.1 0 ((f.2.2.2.2.1.length:Int) - 1))))
def wB (f:den tFl) (p:den tPk):den tFl:=if aTm f p then (f.1,f.2.1,f.2.2.1,wr (f.2.2.2.1+1),f.2.2.2.2.1,f.2.2.2.2.2.1,f.2.2.2.2.2.2.1,0,f.2.2.2.2.2.2.2.2) else f
theorem bS0 {f:den tFl} {p:den tPk} (hf:SmB 68719476736 tFl f):uJ f p=some (qB (wB f p)):=by
 unfold uJ wB aTm pj3 pj9 zz4 zz5 zz6 zz8
 have e5:wr ((f.2.2.2.2.1.length:Int) - 1)=(f.2.2.2.2.1.length:Int) - 1:=wri (by have :=hf.2.2.2.2.1.1;omega) (by have :=hf.2.2.2.2.1.1;omega)
 simp only [aP,aNx hf,aA,lR,e5]
 cases p.1==2<;>cases p.2.1==f.2.1<;>cases p.2.2.1==f.1<;>cases p.2.2.2.2.2.2.2.2.1==f.2.2.2.1<;>cases inR f.2.2.2.1 0 ((f.2.2.2.2.1.length:Int) - 1)<;>rfl
theorem bC6 {f:den tFl} {p:den tPk} (hf:SmB 68719476736 tFl f):qS f p=some (qB (wB f p)):=by
 unfold qS wB aTm pj3 pj9 zz4 zz5 zz6 zz8
 have e5:wr ((f.2.2.2.2.1.length:Int) - 1)=(f.2.2.2.2.1.length:Int) - 1:=wri (by have :=hf.2.2.2.2.1.1;omega) (by have :=hf.2.2.2.2.1.1;omega)
 simp only [aP,aEm hf,aA,eR,e5]
 cases p.1==2<;>cases p.2.1==f.2.1<;>cases p.2.2.1==f.1<;>cases p.2.2.2.2.2.2.2.2.1==f.2.2.2.1<;>cases inR f.2.2.2.1 0 ((f.2.2.2.2.1.length:Int) - 1)<;>rfl
theorem bBr (f:den tFl) (p:den tPk):(wB f p).2.2.2.2.1=f.2.2.2.2.1/\(wB f p).2.2.2.2.2.1=f.2.2.2.2.2.1/\(wB f p).2.2.2.2.2.2.2.2=f.2.2.2.2.2.2.2.2:=by
 unfold wB
 split<;>exact ⟨rfl,rfl,rfl⟩
def enq (f:den tFl) (b:List Int):den tFl:=(f.1,f.2.1,f.2.2.1,f.2.2.2.1,f.2.2.2.2.1++[b],f.2.2.2.2.2.1,f.2.2.2.2.2.2.1,f.2.2.2.2.2.2.2.1,f.2.2.2.2.2.2.2.2)
def bG7 (f:den tFl) (b:List Int):Int×Int×Int×Int×Int×Int×Bool×lMs×lPt×lRv:=
 if lA (enq f b) then (f.1,f.2.1,f.2.2.1,f.2.2.2.1,f.2.2.2.2.2.2.1,f.2.2.2.2.2.2.2.1,true,f.2.2.2.2.1++[b],f.2.2.2.2.2.1,f.2.2.2.2.2.2.2.2)
 else (f.1,f.2.1,f.2.2.1,f.2.2.2.1,f.2.2.2.2.2.2.1,f.2.2.2.2.2.2.2.1,false,f.2.2.2.2.1,f.2.2.2.2.2.1,f.2.2.2.2.2.2.2.2)
theorem bX9 {f:den tFl} {b:List Int} (hf:SmB 4294967296 tFl f) (hb:SmB 4294967296 (.sl tb) b):SmB 68719476736 tFl (enq f b):=by
 have hf':=hf.mono (C:=68719476736) (by decide)
 refine ⟨hf'.1,hf'.2.1,hf'.2.2.1,hf'.2.2.2.1,⟨?_,fun e he=> ?_⟩,hf'.2.2.2.2.2.1,hf'.2.2.2.2.2.2.1,hf'.2.2.2.2.2.2.2.1,hf'.2.2.2.2.2.2.2.2⟩
 .show (f.2.2.2.2.1++[b]).length<=_
  have :=hf.2.2.2.2.1.1
  rw [cCd,cCy];omega
 .rcases List.mem_append.1 he with he | he
  .exact hf'.2.2.2.2.1.2 e he
  .rw [List.mem_singleton.1 he];exact hb.mono (by decide)
theorem bQf {f:den tFl} {b:List Int} (hf:SmB 4294967296 tFl f) (hb:SmB 4294967296 (.sl tb) b):sL f b=some (bG7 f b):=by
 unfold sL bG7 pj2 pj3 pj9 zz4 zz5 zz6 zz7 zz8
 have hf':=hf.mono (C:=68719476736) (by decide)
 have h1:=hf.2.2.2.2.1.1
 have h2:jX (f.1,f.2.1,f.2.2.1,f.2.2.2.1,f.2.2.2.2.1++[b],f.2.2.2.2.2.1,f.2.2.2.2.2.2.1,f.2.2.2.2.2.2.2.1,f.2.2.2.2.2.2.2.2)=some (lA (enq f b)):=aO9 (f:=enq f b) (bX9 hf hb)
 simp only [aP,aEm hf',aA,qB,aE (b:=1) (n:=([]:List Int).length) (m:=b.length) (by decide) (by have :=hb.1;simp;omega),aE (b:=24) (n:=f.2.2.2.2.1.length) (m:=1) (by decide) (by omega),zZ,cCc,h2]
 cases lA (enq f b)<;>rfl
def kU (k:Int):Bool:=k==1||k==3
theorem aOa (k:Int):gG k=some (kU k):=by
 unfold gG kU
 cases k==1<;>rfl
theorem aD5 (k:Int):dX k=some (kU k):=by
 unfold dX kU
 cases k==1<;>rfl
def pIn (p:den tPp) (h:den cM):Int:=if kU p.1 then h.2.2.1 else h.2.1
def pEg (p:den tPp) (h:den cM):Int:=if kU p.1 then h.2.1 else h.2.2.1
theorem nI {n:Nat} (h:n<=68719476736):wr ((n:Int) - 1)=(n:Int) - 1:=wri (by omega) (by omega)
theorem aOf {k n:Nat} (h:k<n):inR (k:Int) 0 ((n:Int) - 1)=true:=by rw [bM];omega
theorem bG6 {p:den tPp} {k:Nat} {h:den cM} (hk:p.2.2.2[k]? =some h) (hl:p.2.2.2.length<=68719476736):fY p (k:Int)=some (pIn p h):=by
 have hlt:k<p.2.2.2.length:=(cBm.1 hk).1
 unfold fY pIn
 simp only [lR,nI hl,aOf hlt,aA,cBh,zY,aOa,aH,hk]
 cases kU p.1<;>rfl
theorem bHg {p:den tPp} {k:Nat} {h:den cM} (hk:p.2.2.2[k]? =some h) (hl:p.2.2.2.length<=68719476736):fH p (k:Int)=some (pIn p h):=by
 have hlt:k<p.2.2.2.length:=(cBm.1 hk).1
 unfold fH pIn
 simp only [eR,nI hl,aOf hlt,aA,cBh,zY,aD5,aH,hk]
 cases kU p.1<;>rfl
theorem bEv {p:den tPp} {k:Nat} {h:den cM} (hk:p.2.2.2[k]? =some h) (hl:p.2.2.2.length<=68719476736):gF p (k:Int)=some (pEg p h):=by
 have hlt:k<p.2.2.2.length:=(cBm.1 hk).1
 unfold gF pEg
 simp only [lR,nI hl,aOf hlt,aA,cBh,zY,aOa,aH,hk]
 cases kU p.1<;>rfl
theorem aXe {p:den tPp} {k:Nat} {h:den cM} (hk:p.2.2.2[k]? =some h) (hl:p.2.2.2.length<=68719476736):dY p (k:Int)=some (pEg p h):=by
 have hlt:k<p.2.2.2.length:=(cBm.1 hk).1
 unfold dY pEg
 simp only [eR,nI hl,aOf hlt,aA,cBh,zY,aD5,aH,hk]
 cases kU p.1<;>rfl
def aAq (nf:Bool) (p:den tPp) (i:Nat) (h:den cM) (out:cJ):cJ:=
 match out.getLast? with
 | some z=>if nf&&(decide (i=0)&&z.1==h.1) then out.dropLast++[(h.1,z.2.1,pEg p h)] else out++[(h.1,pIn p h,pEg p h)]
 | none=>out++[(h.1,pIn p h,pEg p h)]
theorem aPm (nf:Bool) (p:den tPp) (i:Nat) (h:den cM) (out:cJ):(aAq nf p i h out).length<=out.length+1:=by
 unfold aAq
 split
 .split
  .simp only [cCd,List.length_dropLast,cCy];omega
  .simp
 .simp
def sS (nf:Bool) (p:den tPp) (a:cJ):cJ:=cN (fun i h b=>aAq nf p i h b) 0 p.2.2.2 a
def aB9 (p:den tPt):cJ:=cN (fun k x a=>sS (decide (0<k)) x a) 0 p []
def aIu (l:cJ):cJ:=
 match l with
 | []=>[]
 | x::xs=>let m:=(x.1,0,x.2.2)::xs
  match m.getLast? with
  | some y=>m.dropLast++[(y.1,y.2.1,0)]
  | none=>[]
def iM (p:den tPt):cJ:=aIu (aB9 p)
theorem bNc (l:cJ):(aIu l).length=l.length:=by
 unfold aIu
 split
 .rfl
 .rename_i x xs
  simp only
  rw [List.getLast?_eq_some_getLast (by simp)]
  simp
theorem aKw (p:den tPt):(p.map fun x=>x.2.2.2.length).sum<=tot tPt p:=by
 show _<=tot (.sl tPp) p
 rw [<- aTk]
 induction p with
 | nil=>exact cBs _
 | cons x p ih=>
  simp only [cB3,cCt]
  have h1:x.2.2.2.length<=tot tPp x:=by
   show _<=tot ti x.1+(tot ti x.2.1+(tot ti x.2.2.1+tot (.sl cM) x.2.2.2))
   rw [dK rfl];omega
  omega
theorem bJi {n:Nat} (h:n<=68719476736) (h0:0<n):wr ((n:Int) - 1)=((n - 1:Nat):Int):=by
 rw [nI h];omega
theorem aGk {α:Type} {m:List α} {z:α} (h:(m++[z]).length<=68719476736):wr (((m++[z]).length:Int) - 1)=(m.length:Int):=by
 rw [bJi h (by simp)];simp
theorem aLw (nf:Bool) (p:den tPp) (a:cJ):(sS nf p a).length<=a.length+p.2.2.2.length:=by
 have :=aC6 (m:=cBw) (cost:=fun _=>1) (fun i h b=>aPm nf p i h b) p.2.2.2 0 a
 rw [fM] at this
 exact this
theorem aK7 (p:den tPt):(aB9 p).length<=tot tPt p:=by
 have :=aC6 (m:=cBw) (cost:=fun x:den tPp=>x.2.2.2.length) (fun k x a=>aLw (decide (0<k)) x a) p 0 []
 have h2:=aKw p
 have h3:(aB9 p).length<=0+(p.map fun x=>x.2.2.2.length).sum:=this
 omega
theorem aDa (p:den tPt):(iM p).length<=tot tPt p:=by
 unfold iM;rw [bNc];exact aK7 p
theorem bCd (k:Nat):decide ((k:Int)>0)=decide (0<k):=by rw [cB4];simp
theorem bAp (i:Nat):((i:Int)==0)=decide (i=0):=by rw [cB4];simp
theorem aYq (nf:Bool) (p:den tPp) (i:Nat) (h:den cM):aAq nf p i h []=[(h.1,pIn p h,pEg p h)]:=rfl
theorem aVr (nf:Bool) (p:den tPp) (i:Nat) (h:den cM) (m:cJ) (z:den aAt):aAq nf p i h (m++[z])=if nf&&(decide (i=0)&&z.1==h.1) then m++[(h.1,z.2.1,pEg p h)] else (m++[z])++[(h.1,pIn p h,pEg p h)]:=by
 unfold aAq
 rw [cD2,cEr]
theorem aVg {m:cJ} {x z:den aAt} {xs:cJ} (h:(x.1,(0:Int),x.2.2)::xs=m++[z]):aIu (x::xs)=m++[(z.1,z.2.1,0)]:=by
 unfold aIu
 simp only
 rw [h,cD2,cEr]
theorem aUh {p:den tPt} (h:tot tPt p<=34359738368):mC p=some (iM p):=by
 have hs:=aKw p
 have sm:SmB 34359738368 tPt p:=bN h
 have hl:=aK7 p
 unfold mC ixb pj4
 rw [mY (fun k (a:cJ)=>((k:Int),a)) ((0:Int),[]) [] p (fun k x a=>sS (decide (0<k)) x a) cBw (fun x=>x.2.2.2.length) 34359738368 id rfl (cBf sm.1 (by decide)) (by simp only [cDd];omega) (fun k x a=>aLw _ x a) (fun k x a hi hx hd hw hk hb=>by
  have hxl:x.2.2.2.length<=34359738368:=(sm.2 x (cBr hx)).2.2.2.1
  simp only [hd,hi,hw,zZ,aA]
  rw [mY (fun i (b:cJ)=>((i:Int),b)) ((0:Int),a) a x.2.2.2 (fun i h b=>aAq (decide (0<k)) x i h b) cBw (fun _=>1) 34359738368 id rfl (cBf hxl (by decide)) (by rw [fM];exact hb) (fun i h b=>aPm _ x i h b) (fun i g b hi2 hg hd2 hw2 hk2 hb2=>by
   have hl2:x.2.2.2.length<=68719476736:=by omega
   simp only [hd2,hi2,hw2,zZ,aA,aP,bG6 hg hl2,bEv hg hl2,bCd,bAp,aE (b:=24) (n:=b.length) (m:=1) (by decide) (by omega)]
   rcases nW b with rfl | ⟨m,z,rfl⟩
   .rw [aYq]
    cases decide (0<k)<;>cases decide (i=0)<;>rfl
   .rw [aVr,aGk (by omega)]
    simp only [fL,bPf,aGu,aK4,zZ,cBo,aA,aPu]
    cases decide (0<k)<;>cases decide (i=0)<;>cases hz:z.1==g.1<;>simp [hz]
    simpa using hz) (fun b=>by simp)]
  rfl) (fun a=>by simp)]
 simp only [aA,id]
 rw [show cN (fun k x a=>sS (decide (0<k)) x a) 0 p []=aB9 p from rfl]
 show _=some (aIu (aB9 p))
 generalize aB9 p=l at hl
 cases l with
 | nil=>rfl
 | cons x xs=>
  have e1:decide ((((x::xs).length:Nat):Int)>0)=true:=by simp
  have e2:decide ((0:Int)<(((x::xs).length:Nat):Int))=true:=by simp
  have e3:(0:Int).toNat=0:=rfl
  have e4:decide ((0:Int)<=0)=true:=rfl
  simp only [e1,e2,e3,e4,zZ,cD9,aA,List.set_cons_zero]
  rcases nW ((x.1,(0:Int),x.2.2)::xs) with h0 | ⟨m,z,hm⟩
  .cases h0
  .have hlen:((x.1,(0:Int),x.2.2)::xs).length=(x::xs).length:=rfl
   rw [aVg hm]
   rw [hm] at hlen ⊢
   rw [aGk (by omega)]
   simp only [fL,aGu,aK4,zZ,cBo,aA,aPu]
theorem aGp {p:den tPt} (h:tot tPt p<=34359738368):fC p=some (iM p):=by
 have hs:=aKw p
 have sm:SmB 34359738368 tPt p:=bN h
 have hl:=aK7 p
 unfold fC ixb pj4
 rw [mY (fun k (a:cJ)=>((k:Int),a)) ((0:Int),[]) [] p (fun k x a=>sS (decide (0<k)) x a) cBw (fun x=>x.2.2.2.length) 34359738368 id rfl (cBf sm.1 (by decide)) (by simp only [cDd];omega) (fun k x a=>aLw _ x a) (fun k x a hi hx hd hw hk hb=>by
  have hxl:x.2.2.2.length<=34359738368:=(sm.2 x (cBr hx)).2.2.2.1
  simp only [hd,hi,hw,zZ,aA]
  rw [mY (fun i (b:cJ)=>((i:Int),b)) ((0:Int),a) a x.2.2.2 (fun i h b=>aAq (decide (0<k)) x i h b) cBw (fun _=>1) 34359738368 id rfl (cBf hxl (by decide)) (by rw [fM];exact hb) (fun i h b=>aPm _ x i h b) (fun i g b hi2 hg hd2 hw2 hk2 hb2=>by
   have hl2:x.2.2.2.length<=68719476736:=by omega
   simp only [hd2,hi2,hw2,zZ,aA,aP,bHg hg hl2,aXe hg hl2,aS,bI,aZ,bA,bD,bCd,bAp]
   rcases nW b with rfl | ⟨m,z,rfl⟩
   .rw [aYq]
    cases decide (0<k)<;>cases decide (i=0)<;>rfl
   .rw [aVr,aGk (by omega)]
    have e1:decide (((m++[z]).length:Int)>0)=true:=by simp
    have e2:cC (0:Int) (m.length:Int) ((m++[z]).length:Int)=true:=by simp [cC];omega
    have e3:(m++[z]).take m.length=m:=by simp
    have e4:=aE (b:=24) (n:=m.length) (m:=1) (by decide) (by simp at hb2;omega)
    have e5:=aE (b:=24) (n:=m.length+1) (m:=1) (by decide) (by simp at hb2;omega)
    simp only [fL,e1,e2,e3,aGu,aK4,zZ,cBo,aA]
    cases decide (0<k)<;>cases decide (i=0)<;>cases hz:z.1==g.1<;>simp [hz,e4,e5]) (fun b=>by simp [hi])]
  rfl) (fun a=>by simp)]
 simp only [aA,id]
 rw [show cN (fun k x a=>sS (decide (0<k)) x a) 0 p []=aB9 p from rfl]
 show _=some (aIu (aB9 p))
 generalize aB9 p=l at hl
 cases l with
 | nil=>rfl
 | cons x xs=>
  have e1:decide ((((x::xs).length:Nat):Int)>0)=true:=by simp
  have e2:decide ((0:Int)<(((x::xs).length:Nat):Int))=true:=by simp
  have e3:(0:Int).toNat=0:=rfl
  have e4:decide ((0:Int)<=0)=true:=rfl
  have e5:decide (0<(x::xs).length)=true:=by simp
  simp only [e1,e2,e3,e4,e5,zZ,cD9,aA,List.set_cons_zero]
  rcases nW ((x.1,(0:Int),x.2.2)::xs) with h0 | ⟨m,z,hm⟩
  .cases h0
  .have hlen:((x.1,(0:Int),x.2.2)::xs).length=(x::xs).length:=rfl
   rw [aVg hm]
   rw [hm] at hlen ⊢
   rw [aGk (by omega)]
   have e6:decide (m.length<(m++[z]).length)=true:=by simp
   simp only [fL,aGu,aK4,e6,zZ,cBo,aA,aPu]
def ends (p:den tPt):q28:=
 match (iM p).head?,(iM p).getLast? with
 | some x,some y=>(x.1,y.1)
 | _,_=>(-1,-1)
theorem bX4 {p:den tPt} (h:tot tPt p<=34359738368):uQ p=some (ends p):=by
 unfold uQ ends ixb
 have hl:=aDa p
 rw [aUh h,aA]
 generalize iM p=l at hl
 rcases nW l with rfl | ⟨m,z,rfl⟩
 .rfl
 .rw [aGk (by omega)]
  have e1:(((m++[z]).length:Int)==0)=false:=by simp<;>omega
  have e2:decide ((0:Int)<((m++[z]).length:Int))=true:=by simp<;>omega
  have e3:decide ((0:Int)<=0)=true:=rfl
  rw [e1,e2,e3,fL,aGu,cD2]
  cases m with
  | nil=>rfl
  | cons x m=>simp
theorem bWa {p:den tPt} (h:tot tPt p<=34359738368):uS p=some (ends p):=by
 unfold uS ends ixb
 have hl:=aDa p
 rw [aGp h,aA]
 generalize iM p=l at hl
 rcases nW l with rfl | ⟨m,z,rfl⟩
 .rfl
 .rw [aGk (by omega)]
  have e1:(((m++[z]).length:Int)==0)=false:=by simp<;>omega
  have e2:decide ((0:Int)<((m++[z]).length:Int))=true:=by simp<;>omega
  have e3:decide ((0:Int)<=0)=true:=rfl
  rw [e1,e2,e3,fL,aGu,cD2]
  cases m with
  | nil=>rfl
  | cons x m=>simp
def pkR (p:den tPk):q3:=(p.1,p.2.1,p.2.2.1,p.2.2.2.2.1,p.2.2.2.2.2.1,p.2.2.2.2.2.2.1,p.2.2.2.2.2.2.2.1,p.2.2.2.2.2.2.2.2.1,p.2.2.2.1,p.2.2.2.2.2.2.2.2.2)
def bZo (p:den tPt):Int:=match p with
 | []=>0
 | x::_=>x.2.2.1
def gU (kind:Int) (p:den tPt) (res seq:Int) (pay:List Int):den tPk:=(kind,(ends p).1,(ends p).2,p,0,0,bZo p,res,seq,pay)
theorem aNh {kind res seq:Int} {p:den tPt} {pay:List Int} (h:tot tPt p<=34359738368) (hp:pay.length<=68719476736):iP kind p res seq pay=some (pkR (gU kind p res seq pay)):=by
 unfold iP zz4 zz5 zz6 zz7
 rw [aN0 ((bN h).mono (by decide)),aJh hp,bX4 h]
 simp only [aA]
 cases p with
 | nil=>rfl
 | cons x p=>
  have e1:decide (((x::p).length:Int)>0)=true:=by simp
  rw [e1];rfl
theorem aJi {kind res seq:Int} {p:den tPt} {pay:List Int} (h:tot tPt p<=34359738368) (hp:pay.length<=68719476736):cL kind p res seq pay=some (pkR (gU kind p res seq pay)):=by
 unfold cL zz4 zz5 zz6 zz7
 rw [aGe ((bN h).mono (by decide)),bWa h,aE (b:=1) (n:=([]:List Int).length) (by decide) (by simpa using hp)]
 simp only [aA,zZ,cCc]
 cases p with
 | nil=>rfl
 | cons x p=>
  have e1:decide (((x::p).length:Int)>0)=true:=by simp
  rw [e1];rfl
def aMd (k:Int):Int:=if k=1 then 4 else if k=4 then 1 else if k=2 then 3 else if k=3 then 2 else k
theorem bXw (k:Int):pS k=some (aMd k):=by
 unfold pS aMd
 by_cases h1:k=1
 .subst h1;rfl
 by_cases h2:k=4
 .subst h2;rfl
 by_cases h3:k=2
 .subst h3;rfl
 by_cases h4:k=3
 .subst h4;rfl
 have b1:(k==1)=false:=by simpa using h1
 have b2:(k==4)=false:=by simpa using h2
 have b3:(k==2)=false:=by simpa using h3
 have b4:(k==3)=false:=by simpa using h4
 rw [b1,b2,b3,b4,zS h1,zS h2,zS h3,zS h4];rfl
theorem bYj (k:Int):nX k=some (aMd k):=by
 unfold nX aMd
 by_cases h1:k=1
 .subst h1;rfl
 by_cases h2:k=4
 .subst h2;rfl
 by_cases h3:k=2
 .subst h3;rfl
 by_cases h4:k=3
 .subst h4;rfl
 have b1:(k==1)=false:=by simpa using h1
 have b2:(k==4)=false:=by simpa using h2
 have b3:(k==2)=false:=by simpa using h3
 have b4:(k==3)=false:=by simpa using h4
 rw [b1,b2,b3,b4,zS h1,zS h2,zS h3,zS h4];rfl
def kV (n:Int):Bool:=inR n 0 2147483646
theorem aGq (n:Int):dV n=some (kV n):=by unfold dV kV;rw [lR];rfl
theorem aEi (n:Int):mO n=some (kV n):=by unfold mO kV;rw [eR];rfl
def aO7 (b s:Int):Int:=if kV b&&kV s then cB6 (wr (b+s)) 2147483647 else 0
def aKn (b s:Int):Int:=if kV b&&kV s then cB6 (wr ((wr (b - s))+2147483647)) 2147483647 else 0
theorem bId (b s:Int):xQ b s=some (aO7 b s):=by
 unfold xQ aO7
 simp only [aGq,aA]
 cases kV b<;>cases kV s<;>rfl
theorem bAs (b s:Int):sZ b s=some (aO7 b s):=by
 unfold sZ aO7
 simp only [aEi,aA]
 cases kV b<;>cases kV s<;>rfl
theorem bKy (b s:Int):xM b s=some (aKn b s):=by
 unfold xM aKn
 simp only [aGq,aA]
 cases kV b<;>cases kV s<;>rfl
theorem bIm (b s:Int):xN b s=some (aKn b s):=by
 unfold xN aKn
 simp only [aEi,aA]
 cases kV b<;>cases kV s<;>rfl
def aCr (k:Int) (b:Int) (h:den cM):Int:=if kU k then aKn b h.2.2.2.2 else aO7 b h.2.2.2.2
def aIk (p:den tPp) (n:Nat):Int:=(p.2.2.2.take n).foldl (aCr p.1) p.2.2.1
theorem bSn {p:den tPp} {n:Nat} (hn:n<=p.2.2.2.length) (hl:p.2.2.2.length<=68719476736):uO p (n:Int)=some (aIk p n):=by
 unfold uO aIk zz4
 have e1:inR (n:Int) 0 (p.2.2.2.length:Int)=true:=by rw [bM];omega
 have e2:cC (0:Int) (n:Int) (p.2.2.2.length:Int)=true:=by simp [cC];omega
 rw [lR,e1,aA,e2,iE]
 have hlen:(p.2.2.2.take n).length<=4611686018427387904:=by rw [cCq];omega
 rw [mY (fun k (b:Int)=>(b,(k:Int))) (p.2.2.1,(0:Int)) p.2.2.1 (p.2.2.2.take n) (fun _ h b=>aCr p.1 b h) (fun _=>0) (fun _=>0) 0 id rfl hlen (by rw [sum_nil];exact cBs _) (fun _ _ _=>cBs _) (fun k x b hi hx hd hw hk hb=>by
  simp only [hd,hi,hw,zZ,aA,aOa,bKy,bId,aCr]
  cases kU p.1<;>rfl) (fun b=>by simp),xD (fun b h=>aCr p.1 b h)]
 rfl
theorem aS6 {p:den tPp} {n:Nat} (hn:n<=p.2.2.2.length) (hl:p.2.2.2.length<=68719476736):iO p (n:Int)=some (aIk p n):=by
 unfold iO aIk zz4
 have e1:inR (n:Int) 0 (p.2.2.2.length:Int)=true:=by rw [bM];omega
 have e3:(p.2.2.2.take n).length=n:=by rw [cCq];omega
 rw [eR,e1,aA]
 rw [mY (fun k (b:Int)=>(b,(k:Int))) (p.2.2.1,(0:Int)) p.2.2.1 (p.2.2.2.take n) (fun _ h b=>aCr p.1 b h) (fun _=>0) (fun _=>0) 0 id rfl (by rw [e3];omega) (by rw [sum_nil];exact cBs _) (fun _ _ _=>cBs _) (fun k x b hi hx hd hw hk hb=>by
  have hx':p.2.2.2[k]? =some x:=by rw [List.getElem?_take] at hx;split at hx;exact hx;cases hx
  rw [e3] at hd
  simp only [hd,hw,zZ,aA,aH,hx',aD5,bIm,bAs,aCr]
  cases kU p.1<;>rfl) (fun b=>by rw [e3];simp),xD (fun b h=>aCr p.1 b h)]
 rfl
def wC (p:den tPp):den tPp:=(aMd p.1,p.2.1,aIk p p.2.2.2.length,p.2.2.2.reverse)
theorem bXy {l:dP} (hl:l.length<=68719476736):oG l=some l.reverse:=by
 unfold oG pj5
 have e:wr ((l.length:Int) - 1)=(l.length:Int) - 1:=nI hl
 rw [e,aXc (fun k (a:dP)=>(k,a)) ((l.length:Int) - 1,[]) [] l (fun x a=>a++[x]) cBw (fun _=>1) 68719476736 id rfl (by omega) (by rw [fM];simpa using hl) (fun x a=>by simp) (fun k x a hi hx hd hw hk hb=>by
  simp only [hd,hi,hw,zZ,aA,aP,aE (b:=40) (n:=a.length) (m:=1) (by decide) hb]) (fun a=>by simp),aFh (fun x=>x)]
 simp
theorem bU0 {p:den tPp} (hl:p.2.2.2.length<=68719476736):pU p=some (wC p):=by
 unfold pU wC pj4
 simp only [bXw,aP,bSn (cBs _) hl,bXy hl,aA]
theorem bU2 {p:den tPp} (hl:p.2.2.2.length<=68719476736):pV p=some (wC p):=by
 unfold pV wC pj4 pj5 zz4
 simp only [bYj,aP,aS6 (cBs _) hl,aS,bI,aZ,bA,bD,aA]
 have e:wr ((p.2.2.2.length:Int) - 1)=(p.2.2.2.length:Int) - 1:=nI hl
 rw [e,aXc (fun k (a:dP)=>(k,aMd p.1,p.2.1,aIk p p.2.2.2.length,a)) ((p.2.2.2.length:Int) - 1,aMd p.1,p.2.1,aIk p p.2.2.2.length,[]) [] p.2.2.2 (fun x a=>a++[x]) cBw (fun _=>1) 68719476736 (fun a=>(aMd p.1,p.2.1,aIk p p.2.2.2.length,a)) rfl (by omega) (by rw [fM];simpa using hl) (fun x a=>by simp) (fun k x a hi hx hd hw hk hb=>by
  simp only [hd,hi,hw,zZ,aA,aP,aE (b:=40) (n:=a.length) (m:=1) (by decide) hb]) (fun a=>by simp),aFh (fun x=>x)]
 simp
def yC (p:den tPt):den tPt:=p.reverse.map wC
theorem aZ7 {p:den tPt} (h:SmB 68719476736 tPt p):iB p=some (yC p):=by
 unfold iB yC pj4
 have e:wr ((p.length:Int) - 1)=(p.length:Int) - 1:=nI h.1
 rw [e,aXc (fun k (a:lPp)=>(k,a)) ((p.length:Int) - 1,[]) [] p (fun x a=>a++[wC x]) cBw (fun _=>1) 68719476736 id rfl (by have :=h.1;omega) (by rw [fM];simpa using h.1) (fun x a=>by simp) (fun k x a hi hx hd hw hk hb=>by
  have hxl:=(h.2 x (cBr hx)).2.2.2.1
  simp only [hd,hi,hw,zZ,aA,aP,bU0 hxl,aE (b:=48) (n:=a.length) (m:=1) (by decide) hb]) (fun a=>by simp),aFh wC]
 simp
theorem aZl {p:den tPt} (h:SmB 68719476736 tPt p):iA p=some (yC p):=by
 unfold iA yC pj4
 have e:wr ((p.length:Int) - 1)=(p.length:Int) - 1:=nI h.1
 rw [e,aXc (fun k (a:lPp)=>(k,a)) ((p.length:Int) - 1,[]) [] p (fun x a=>a++[wC x]) cBw (fun _=>1) 68719476736 id rfl (by have :=h.1;omega) (by rw [fM];simpa using h.1) (fun x a=>by simp) (fun k x a hi hx hd hw hk hb=>by
  have hxl:=(h.2 x (cBr hx)).2.2.2.1
  simp only [hd,hi,hw,zZ,aA,aP,bU2 hxl,aE (b:=48) (n:=a.length) (m:=1) (by decide) hb]) (fun a=>by simp),aFh wC]
 simp
theorem bKn (p:den tPp):tot tPp (wC p)=tot tPp p:=by
 show tot ti _+(tot ti _+(tot ti _+tot (.sl cM) p.2.2.2.reverse))=tot ti _+(tot ti _+(tot ti _+tot (.sl cM) p.2.2.2))
 rw [aS2];rfl
theorem aRy {t:Ty} (g:den t->den t) (hg: ∀ x,tot t (g x)=tot t x): ∀ l:List (den t),tot (.sl t) (l.map g)=tot (.sl t) l
 | []=>rfl
 | x::l=>by rw [cB3,kH,kH,hg,aRy g hg l]
theorem aA9 (p:den tPt):tot tPt (yC p)=tot tPt p:=by
 show tot (.sl tPp) (p.reverse.map wC)=tot (.sl tPp) p
 rw [aRy wC bKn,aS2]
def aK1 (pk:den tPk) (kind seq:Int) (pay:List Int):den tPk:=gU kind (yC pk.2.2.2.1) pk.2.2.2.2.2.2.2.1 seq pay
theorem bTm {pk:den tPk} {kind seq:Int} {pay:List Int} (h:tot tPt pk.2.2.2.1<=34359738368) (hp:pay.length<=68719476736):aDe pk kind seq pay=some (pkR (aK1 pk kind seq pay)):=by
 unfold aDe aK1 aL zz7
 rw [aZ7 ((bN h).mono (by decide)),aA,aNh (by rw [aA9];exact h) hp]
 rfl
theorem bS2 {pk:den tPk} {kind seq:Int} {pay:List Int} (h:tot tPt pk.2.2.2.1<=34359738368) (hp:pay.length<=68719476736):aC5 pk kind seq pay=some (pkR (aK1 pk kind seq pay)):=by
 unfold aC5 aK1 aL zz7
 rw [aZl ((bN h).mono (by decide)),aA,aJi (by rw [aA9];exact h) hp]
 rfl
def pk0:den tPk:=(0,0,0,[],0,0,0,0,0,[])
def pkB (p:den tPk) (b:Bool):q10:=(p.1,p.2.1,p.2.2.1,p.2.2.2.2.1,p.2.2.2.2.2.1,p.2.2.2.2.2.2.1,p.2.2.2.2.2.2.2.1,p.2.2.2.2.2.2.2.2.1,b,p.2.2.2.1,p.2.2.2.2.2.2.2.2.2)
def aDh (x:den tIb) (p:den tPk):Bool:=aBq x p&& !decide (p.2.2.2.2.2.2.2.2.1>=x.2.2.1)
def mW (x:den tIb) (p:den tPk):den tPk:=if aDh x p then aK1 p 2 p.2.2.2.2.2.2.2.2.1 [] else pk0
theorem bS3 {x:den tIb} {p:den tPk} (h:tot tPt p.2.2.2.1<=34359738368):wX x p=some (pkB (mW x p) (aDh x p)):=by
 unfold wX mW aDh aL pj2 pj4 zz4 zz5 zz6 zz7 zz8
 simp only [aP,bDf,aA,bTm (pay:=[]) h (by simp)]
 cases aBq x p<;>cases decide (p.2.2.2.2.2.2.2.2.1>=x.2.2.1)<;>rfl
theorem bTc {x:den tIb} {p:den tPk} (h:tot tPt p.2.2.2.1<=34359738368):wJ x p=some (pkB (mW x p) (aDh x p)):=by
 unfold wJ mW aDh aL pj2 pj4 zz4 zz5 zz6 zz7 zz8
 simp only [aP,bBt,aA,bS2 (pay:=[]) h (by simp)]
 cases aBq x p<;>cases decide (p.2.2.2.2.2.2.2.2.1>=x.2.2.1)<;>rfl
def mT (f:den tFl):Bool:=inR f.2.2.2.2.2.2.1 0 ((f.2.2.2.2.2.1.length:Int) - 1)&&inR f.2.2.2.1 0 ((f.2.2.2.2.1.length:Int) - 1)
def xV (f:den tFl):den tPk:=
 if mT f then gU 1 ((f.2.2.2.2.2.1[f.2.2.2.2.2.2.1.toNat]?).getD []) f.2.2.1 f.2.2.2.1 ((f.2.2.2.2.1[f.2.2.2.1.toNat]?).getD []) else pk0
theorem aZ2 {t:Ty} {l:List (den t)} {d:den t} {i:Nat} (hd:tot t d=0):tot t ((l[i]?).getD d)<=tot (.sl t) l:=by
 cases h:l[i]? with
 | none=>simp [hd]
 | some x=>have :=aAe h;simp;omega
theorem aS0 {f:den tFl} (h:tot tFl f<=34359738368):dT f=some (pkB (xV f) (mT f)):=by
 have h0:=aV (aV (aV (aV h)))
 have hm:=wP h0
 have hp:=wP (aV h0)
 have l1:=dB f.2.2.2.2.1
 have l2:=dB f.2.2.2.2.2.1
 unfold dT xV mT pj2 zz4 zz5 zz6 zz7 zz8
 simp only [lR,nI (n:=f.2.2.2.2.2.1.length) (by omega),nI (n:=f.2.2.2.2.1.length) (by omega),aA]
 cases c1:inR f.2.2.2.2.2.2.1 0 ((f.2.2.2.2.2.1.length:Int) - 1) with
 | false=>rfl
 | true=>
  cases c2:inR f.2.2.2.1 0 ((f.2.2.2.2.1.length:Int) - 1) with
  | false=>rfl
  | true=>
   rw [bM] at c1 c2
   rw [aQb c1.1 (by omega),aQb c2.1 (by omega)]
   have e1:f.2.2.2.2.2.1[f.2.2.2.2.2.2.1.toNat]? =some (f.2.2.2.2.2.1[f.2.2.2.2.2.2.1.toNat]'(by omega)):=cBe (by omega)
   have e2:f.2.2.2.2.1[f.2.2.2.1.toNat]? =some (f.2.2.2.2.1[f.2.2.2.1.toNat]'(by omega)):=cBe (by omega)
   have t1:=aAe e1
   have t2:=aAe e2
   have t3:=dB (t:=tb) (f.2.2.2.2.1[f.2.2.2.1.toNat]'(by omega))
   simp only [aA,cBh,zY]
   rw [aNh (by omega) (by have t2:1+tot (.sl tb) _<=_:=t2;omega),e1,e2]
   rfl
theorem aTr {f:den tFl} (h:tot tFl f<=34359738368):dR f=some (pkB (xV f) (mT f)):=by
 have h0:=aV (aV (aV (aV h)))
 have hm:=wP h0
 have hp:=wP (aV h0)
 have l1:=dB f.2.2.2.2.1
 have l2:=dB f.2.2.2.2.2.1
 unfold dR xV mT pj2 zz4 zz5 zz6 zz7 zz8
 simp only [eR,nI (n:=f.2.2.2.2.2.1.length) (by omega),nI (n:=f.2.2.2.2.1.length) (by omega),aA]
 cases c1:inR f.2.2.2.2.2.2.1 0 ((f.2.2.2.2.2.1.length:Int) - 1) with
 | false=>cases inR f.2.2.2.1 0 ((f.2.2.2.2.1.length:Int) - 1)<;>rfl
 | true=>
  cases c2:inR f.2.2.2.1 0 ((f.2.2.2.2.1.length:Int) - 1) with
  | false=>rfl
  | true=>
   rw [bM] at c1 c2
   rw [aQb c1.1 (by omega),aQb c2.1 (by omega)]
   have e1:f.2.2.2.2.2.1[f.2.2.2.2.2.2.1.toNat]? =some (f.2.2.2.2.2.1[f.2.2.2.2.2.2.1.toNat]'(by omega)):=cBe (by omega)
   have e2:f.2.2.2.2.1[f.2.2.2.1.toNat]? =some (f.2.2.2.2.1[f.2.2.2.1.toNat]'(by omega)):=cBe (by omega)
   have t1:=aAe e1
   have t2:=aAe e2
   have t3:=dB (t:=tb) (f.2.2.2.2.1[f.2.2.2.1.toNat]'(by omega))
   simp only [aA,cBh,zY]
   rw [aJi (by omega) (by have t2:1+tot (.sl tb) _<=_:=t2;omega),e1,e2]
   rfl
def vW (f:den tFl):Int:=if wr (f.2.2.2.2.2.2.1+1)>=(f.2.2.2.2.2.1.length:Int) then 0 else wr (f.2.2.2.2.2.2.1+1)
def oQ (f:den tFl) (c w:Int):den tFl:=(f.1,f.2.1,f.2.2.1,f.2.2.2.1,f.2.2.2.2.1,f.2.2.2.2.2.1,c,w,f.2.2.2.2.2.2.2.2)
theorem aHt (f:den tFl) (c w:Int):tot tFl (oQ f c w)=tot tFl f:=rfl
def aF (f:den tFl):den tFl×den tPk×Bool:=
 if mT f then
  if f.2.2.2.2.2.2.2.1==0 then (oQ f f.2.2.2.2.2.2.1 1,xV f,true)
  else if f.2.2.2.2.2.2.2.1==4 then (oQ f (vW f) 1,xV (oQ f (vW f) 1),mT (oQ f (vW f) 1))
  else (oQ f f.2.2.2.2.2.2.1 (wr (f.2.2.2.2.2.2.2.1+1)),pk0,false)
 else (oQ f f.2.2.2.2.2.2.1 0,pk0,false)
def eH (f:den tFl) (p:den tPk) (b:Bool):q11:=
 (f.1,f.2.1,f.2.2.1,f.2.2.2.1,f.2.2.2.2.2.2.1,f.2.2.2.2.2.2.2.1,p.1,p.2.1,p.2.2.1,p.2.2.2.2.1,p.2.2.2.2.2.1,p.2.2.2.2.2.2.1,p.2.2.2.2.2.2.2.1,p.2.2.2.2.2.2.2.2.1,b,f.2.2.2.2.1,f.2.2.2.2.2.1,f.2.2.2.2.2.2.2.2,p.2.2.2.1,p.2.2.2.2.2.2.2.2.2)
theorem bDh (f:den tFl):qQ f=some (vW f):=by
 unfold qQ vW zz5 zz6
 by_cases h:wr (f.2.2.2.2.2.2.1+1)>=(f.2.2.2.2.2.1.length:Int)
 .rw [zX h,zT h];rfl
 .rw [zW h,zS h];rfl
theorem bTe {f:den tFl} (h:tot tFl f<=34359738368):wZ f=some (eH (aF f).1 (aF f).2.1 (aF f).2.2):=by
 unfold wZ aF pj2 pj9 aG aI aR bR fJ zz4 zz5 zz6 zz7 zz8 zz9
 have e:dT (f.1,f.2.1,f.2.2.1,f.2.2.2.1,f.2.2.2.2.1,f.2.2.2.2.2.1,vW f,1,f.2.2.2.2.2.2.2.2)=some (pkB (xV (oQ f (vW f) 1)) (mT (oQ f (vW f) 1))):=aS0 (f:=oQ f (vW f) 1) h
 simp only [aP,aNx ((bN h).mono (by decide)),aS0 h,bDh,aA,aS,bI,aZ,bA,bD,qB,e]
 cases c1:mT f with
 | false=>simp only [pkB,cBq,zZ];rfl
 | true=>
  simp only [pkB,cBh,zY,zV]
  cases c2:f.2.2.2.2.2.2.2.1==0 with
  | true=>rfl
  | false=>
   cases c3:f.2.2.2.2.2.2.2.1==4 with
   | true=>rfl
   | false=>rfl
theorem bM1 {c:Int} {n:Nat} (h0:0<=c) (h1:c<=(n:Int) - 1) (hn:n<=68719476736):inR c 0 (wr ((n:Int) - 2))= !decide (wr (c+1)>=(n:Int)):=by
 have e1:wr ((n:Int) - 2)=(n:Int) - 2:=wri (by omega) (by omega)
 have e2:wr (c+1)=c+1:=wri (by omega) (by omega)
 rw [e1,e2,cB4,bM]
 simp
 omega
theorem bKj {f:den tFl} (h:SmB 68719476736 tFl f) (hs:inR f.2.2.2.2.2.2.1 0 ((f.2.2.2.2.2.1.length:Int) - 1)=true):uR f=some (qB (oQ f (vW f) f.2.2.2.2.2.2.2.1)):=by
 unfold uR vW pj3 pj9 zz4 zz5 zz6
 have hl:=h.2.2.2.2.2.1.1
 rw [bM] at hs
 simp only [aP,aEm h,eR,bM1 hs.1 hs.2 hl,aA,qB]
 by_cases hc:wr (f.2.2.2.2.2.2.1+1)>=(f.2.2.2.2.2.1.length:Int)
 .rw [zX hc,zT hc];rfl
 .rw [zW hc,zS hc];rfl
theorem bUk {f:den tFl} (h:tot tFl f<=34359738368):vZ f=some (eH (aF f).1 (aF f).2.1 (aF f).2.2):=by
 unfold vZ aF pj2 pj9 aG aI aR bR fJ zz4 zz5 zz6 zz7 zz8 zz9
 have sm:SmB 68719476736 tFl f:=(bN h).mono (by decide)
 have e:dR (f.1,f.2.1,f.2.2.1,f.2.2.2.1,f.2.2.2.2.1,f.2.2.2.2.2.1,vW f,1,f.2.2.2.2.2.2.2.2)=some (pkB (xV (oQ f (vW f) 1)) (mT (oQ f (vW f) 1))):=aTr (f:=oQ f (vW f) 1) h
 simp only [aP,aEm sm,aTr h,aA,aS,bI,aZ,bA,bD]
 cases c1:mT f with
 | false=>simp only [pkB,qB,cBq,zZ];rfl
 | true=>
  have hs:inR f.2.2.2.2.2.2.1 0 ((f.2.2.2.2.2.1.length:Int) - 1)=true:=by
   unfold mT at c1;simp only [cBg] at c1;exact c1.1
  rw [bKj sm hs]
  simp only [pkB,qB,oQ,aA,cBh,zY,zV,e]
  cases c2:f.2.2.2.2.2.2.2.1==0 with
  | true=>rfl
  | false=>
   cases c3:f.2.2.2.2.2.2.2.1==4 with
   | true=>rfl
   | false=>rfl
def cI (p:den tPk):Bool:=inR p.2.2.2.2.1 0 ((p.2.2.2.1.length:Int) - 1)&&inR p.2.2.2.2.2.1 0 (((((p.2.2.2.1[p.2.2.2.2.1.toNat]?).getD (0,0,0,[])).2.2.2.length:Nat):Int) - 1)
def dA (p:den tPk):Int:=if cI p then ((((p.2.2.2.1[p.2.2.2.2.1.toNat]?).getD (0,0,0,[])).2.2.2[p.2.2.2.2.2.1.toNat]?).getD (0,0,0,0,0)).1 else -1
theorem aDy {p:den tPk} (h:cI p=true): ∃ (i j:Nat) (x:den tPp) (y:den cM),p.2.2.2.2.1=(i:Int)/\p.2.2.2.2.2.1=(j:Int)/\p.2.2.2.1[i]? =some x/\x.2.2.2[j]? =some y/\dA p=y.1:=by
 have h':=h
 unfold cI at h'
 simp only [cBg,bM] at h'
 obtain ⟨⟨h1,h2⟩,h3,h4⟩:=h'
 obtain ⟨x,hx⟩:=aBd h1 h2
 rw [hx,cCe] at h4
 obtain ⟨y,hy⟩:=aBd h3 h4
 refine ⟨p.2.2.2.2.1.toNat,p.2.2.2.2.2.1.toNat,x,y,(cDm h1).symm,(cDm h3).symm,hx,hy,?_⟩
 unfold dA
 rw [h,zT rfl,hx,cCe,hy,cCe]
theorem aAz {p:den tPk} (c:cI p=false):dA p= -1:=by unfold dA;rw [c];rfl
theorem bP8 {p:den tPk} (h:SmB 68719476736 tPk p):xS p=some (cI p):=by
 unfold xS cI zz4 zz5
 have l1:=h.2.2.2.1.1
 rw [lR,nI l1,aA]
 cases c1:inR p.2.2.2.2.1 0 ((p.2.2.2.1.length:Int) - 1) with
 | false=>rfl
 | true=>
  rw [bM] at c1
  obtain ⟨x,hx⟩:=aBd c1.1 c1.2
  rw [aI7 c1.1 hx,hx]
  have l2:=(h.2.2.2.1.2 _ (cBr hx)).2.2.2.1
  simp only [zZ,aA,lR,nI l2,cCe,cBv]
theorem aGw {p:den tPk} (h:SmB 68719476736 tPk p):eO p=some (dA p):=by
 unfold eO aL zz4 zz5
 simp only [aP,bP8 h,aA]
 cases c:cI p with
 | false=>rw [aAz c];rfl
 | true=>
  obtain ⟨i,j,x,y,h1,h2,h3,h4,h5⟩:=aDy c
  rw [h1,h2,h5]
  simp only [cBh,zY,aH,h3,h4,aA]
theorem aGt {p:den tPk} (h:SmB 68719476736 tPk p):eM p=some (dA p):=by
 unfold eM zz4 zz5
 have l1:=h.2.2.2.1.1
 rw [eR,nI l1,aA]
 cases c1:inR p.2.2.2.2.1 0 ((p.2.2.2.1.length:Int) - 1) with
 | false=>rw [aAz (by unfold cI;rw [c1];rfl)];rfl
 | true=>
  have c1':=c1
  rw [bM] at c1'
  obtain ⟨x,hx⟩:=aBd c1'.1 c1'.2
  rw [aI7 c1'.1 hx]
  have l2:=(h.2.2.2.1.2 _ (cBr hx)).2.2.2.1
  simp only [cBh,zY,aA,eR,nI l2]
  cases c2:inR p.2.2.2.2.2.1 0 ((x.2.2.2.length:Int) - 1) with
  | false=>rw [aAz (by unfold cI;rw [c1,hx,cCe,c2];rfl)];rfl
  | true=>
   have c:cI p=true:=by unfold cI;rw [c1,hx,cCe,c2];rfl
   rw [bM] at c2
   obtain ⟨y,hy⟩:=aBd c2.1 c2.2
   rw [aI7 c2.1 hy]
   unfold dA
   rw [c,zT rfl,hx,cCe,hy,cCe]
   rfl
def aI9 (p:den tPt) (i j:Nat):den tPt:=
 match p[i]? with
 | some x=>p.take i++[(x.1,x.2.1,x.2.2.1,x.2.2.2.take (j+1))]
 | none=>[]
def tE (p:den tPk):den tPt:=if dA p<0 then [] else aI9 p.2.2.2.1 p.2.2.2.2.1.toNat p.2.2.2.2.2.1.toNat
theorem aXp {p:den tPk} (h:SmB 68719476736 tPk p):iJ p=some (tE p):=by
 unfold iJ tE aL zz4 zz5
 simp only [aP,aGw h,aA]
 by_cases hc:dA p<0
 .rw [zX hc,zZ,zT hc]
 .rw [zW hc,zY,zS hc]
  cases c:cI p with
  | false=>rw [aAz c] at hc;exact absurd (by decide) hc
  | true=>
   obtain ⟨i,j,x,y,h1,h2,h3,h4,h5⟩:=aDy c
   have l1:=h.2.2.2.1.1
   have l2:=(h.2.2.2.1.2 _ (cBr h3)).2.2.2.1
   have hi:=(cBm.1 h3).1
   have hj:=(cBm.1 h4).1
   have e1:wr ((i:Int)+1)=((i+1:Nat):Int):=by have :wr ((i:Int)+1)=(i:Int)+1:=wri (by omega) (by omega);rw [this];rfl
   have e2:wr ((j:Int)+1)=((j+1:Nat):Int):=by have :wr ((j:Int)+1)=(j:Int)+1:=wri (by omega) (by omega);rw [this];rfl
   have e3:cC (0:Int) ((i+1:Nat):Int) (p.2.2.2.1.length:Int)=true:=by simp [cC];omega
   have e4:cC (0:Int) ((j+1:Nat):Int) (x.2.2.2.length:Int)=true:=by simp [cC];omega
   have e5:p.2.2.2.1.take (i+1)=p.2.2.2.1.take i++[x]:=aMe h3
   have e6:(p.2.2.2.1.take i).length=i:=by rw [cCq];omega
   rw [h1,h2,e1,e2,aN0 h.2.2.2.1,aA,e3,zZ]
   simp only [cBo,e5]
   have e7:decide ((i:Int)<((p.2.2.2.1.take i++[x]).length:Int))=true:=by simp;omega
   have e8:(p.2.2.2.1.take i++[x])[i]? =some x:=by rw [List.getElem?_append_right (by omega),e6];simp
   have e9: ∀ z,(p.2.2.2.1.take i++[x]).set i z=p.2.2.2.1.take i++[z]:=fun z=>by rw [List.set_append_right _ _ (by omega),e6];simp
   simp only [fL,e7,e8,e4,e9,zZ,aA,iE]
   unfold aI9
   rw [h3]
theorem aXu {p:den tPk} (h:SmB 68719476736 tPk p):iF p=some (tE p):=by
 unfold iF tE aL pj4 zz4 zz5
 simp only [aP,aGt h,aA]
 by_cases hc:dA p<0
 .rw [zX hc,zZ,zT hc]
 .rw [zW hc,zY,zS hc]
  cases c:cI p with
  | false=>rw [aAz c] at hc;exact absurd (by decide) hc
  | true=>
   obtain ⟨i,j,x,y,h1,h2,h3,h4,h5⟩:=aDy c
   have l1:=h.2.2.2.1.1
   have hi:=(cBm.1 h3).1
   have hj:=(cBm.1 h4).1
   have l2:=(h.2.2.2.1.2 _ (cBr h3)).2.2.2.1
   have e2:wr ((j:Int)+1)=((j+1:Nat):Int):=by have :wr ((j:Int)+1)=(j:Int)+1:=wri (by omega) (by omega);rw [this];rfl
   have e4:cC (0:Int) ((j+1:Nat):Int) (x.2.2.2.length:Int)=true:=by simp [cC];omega
   have e5:p.2.2.2.1.take (i+1)=p.2.2.2.1.take i++[x]:=aMe h3
   have e6:(p.2.2.2.1.take (i+1)).length=i+1:=by rw [cCq];omega
   rw [h1,h2,e2]
   let cutX:Nat->den tPp->den tPp:=fun k z=>if k=i then (z.1,z.2.1,z.2.2.1,z.2.2.2.take (j+1)) else z
   rw [mY (fun k (a:lPp)=>((k:Int),a)) ((0:Int),[]) [] (p.2.2.2.1.take (i+1)) (fun k z a=>a++[cutX k z]) cBw (fun _=>1) 68719476736 id rfl (by omega) (by rw [fM];simp;omega) (fun k z a=>by simp) (fun k z a hz hx hd hw hk hb=>by
    rw [e6] at hd hk
    have hz':=(aPt hx).1
    have hd':decide ((k:Int)<=(i:Int))=true:=by simp;omega
    have sz:=h.2.2.2.1.2 _ (cBr hz')
    simp only [hd',hw,zZ,aA,aH,hz',aP,aPc sz]
    by_cases hki:k=i
    .subst hki
     rw [h3] at hz'
     injection hz' with hz'
     subst hz'
     have e7:((k:Int)==(k:Int))=true:=by simp
     simp only [e7,zZ,e4,aA,iE,aE (b:=48) (n:=a.length) (m:=1) (by decide) hb,cutX,zV]
    .have e7:((k:Int)==(i:Int))=false:=by simp;omega
     simp only [e7,zY,aA,aE (b:=48) (n:=a.length) (m:=1) (by decide) hb,zZ,cutX,zS hki]) (fun a=>by
    have e10:decide (((i+1:Nat):Int)<=(i:Int))=false:=by simp<;>omega
    rw [e6];simp only [e10,zY];rfl)]
   have key: ∀ (l:lPp) (k:Nat) (a:lPp),k+l.length<=i->cN (fun k z a=>a++[cutX k z]) k l a=a++l:=by
    intro l
    induction l with
    | nil=>intro k a _;simp [cN]
    | cons z l ih=>
     intro k a hk
     simp only [cCf] at hk
     simp only [cN]
     rw [ih (k+1) _ (by omega)]
     have :cutX k z=z:=zS (by omega)
     rw [this];simp
   have fa: ∀ (l:lPp) (z:den tPp) (k:Nat) (a:lPp),cN (fun k z a=>a++[cutX k z]) k (l++[z]) a=cN (fun k z a=>a++[cutX k z]) k l a++[cutX (k+l.length) z]:=by
    intro l
    induction l with
    | nil=>intro z k a;rfl
    | cons y l ih=>
     intro z k a
     simp only [List.cons_append,cN,cCf]
     rw [ih]
     congr 3
     omega
   have e8:(p.2.2.2.1.take i).length=i:=by rw [cCq];omega
   rw [e5,fa,key _ 0 [] (by omega),e8]
   have :cutX (0+i) x=(x.1,x.2.1,x.2.2.1,x.2.2.2.take (j+1)):=zT (by omega)
   rw [this]
   unfold aI9
   rw [cBo,cBo,h3]
   rfl
theorem bBq (p:den tPt) (i j:Nat):tot tPt (aI9 p i j)<=tot tPt p:=by
 unfold aI9
 cases h:p[i]? with
 | none=>exact cB1 _
 | some x=>
  have h1:tot tPt (p.take (i+1))<=tot tPt p:=aYa (t:=tPp) p (i+1)
  rw [aMe h] at h1
  have h2:tot (.sl tPp) (p.take i++[x])<=tot (.sl tPp) p:=h1
  show tot (.sl tPp) (p.take i++[(x.1,x.2.1,x.2.2.1,x.2.2.2.take (j+1))])<=tot (.sl tPp) p
  rw [sU,aEf] at h2 ⊢
  have h3:tot tPp (x.1,x.2.1,x.2.2.1,x.2.2.2.take (j+1))<=tot tPp x:=by
   have :=aYa (t:=cM) x.2.2.2 (j+1)
   show 0+(0+(0+tot (.sl cM) (x.2.2.2.take (j+1))))<=0+(0+(0+tot (.sl cM) x.2.2.2))
   omega
  omega
theorem aDi (p:den tPk):tot tPt (tE p)<=tot tPt p.2.2.2.1:=by
 unfold tE
 split
 .exact cB1 _
 .exact bBq _ _ _
def vi:Nat->Nat->List Int
 | 0,n=>[(n:Int)]
 | k+1,n=>if n<128 then [(n:Int)] else (((n % 128+128:Nat):Int))::vi k (n / 128)
theorem bJa: ∀ (k n:Nat),(vi k n).length<=k+1
 | 0,n=>by simp [vi]
 | k+1,n=>by
  unfold vi
  split
  .simp
  .have :=bJa k (n / 128);simp only [cCf];omega
theorem aEq {n:Nat} (h:n<256):IntKind.wrap .u8 (n:Int)=(n:Int):=by
 simp only [IntKind.wrap,IntKind.signed,IntKind.bits]
 simp
 omega
theorem bX6: ∀ (k n:Nat) (out:List Int),n<128 ^ (k+1)->out.length+k+1<=68719476736->n<9223372036854775808->(@Option.bind q41 (lI) (@aC q41 q41 (fun (s4:Int×lI)=>cond (decide (s4.1>=(128:Int))) (cond (aM 1 s4.2.length 1) (some (cBd (wr (Int.tdiv s4.1 (128:Int)),s4.2++[IntKind.wrap .u8 (wr ((cB6 s4.1 (128:Int))+(128:Int)))]))) none) (some (cBc (s4.1,s4.2)))) ((n:Int),out)) fun (s5:Int×lI)=>cond (aM 1 s5.2.length 1) (some (s5.2++[IntKind.wrap .u8 s5.1])) none)=some (out++vi k n)
 | 0,n,out,hn,ho,hb=>by
  have hn:n<128:=by simpa using hn
  have e1:decide ((n:Int)>=128)=false:=by simp;omega
  rw [bQ (r:=((n:Int),out)) (by simp only [e1,zY]),aA]
  simp only [aE (b:=1) (n:=out.length) (m:=1) (by decide) (by omega),zZ,aEq (n:=n) (by omega),vi]
 | k+1,n,out,hn,ho,hb=>by
  by_cases h:n<128
  .have e1:decide ((n:Int)>=128)=false:=by simp;omega
   rw [bQ (r:=((n:Int),out)) (by simp only [e1,zY]),aA]
   simp only [aE (b:=1) (n:=out.length) (m:=1) (by decide) (by omega),zZ,aEq (n:=n) (by omega),vi,zT h]
  .have e1:decide ((n:Int)>=128)=true:=by simp;omega
   have hd:n / 128<128 ^ (k+1):=by rw [Nat.div_lt_iff_lt_mul (by decide)];rw [Nat.pow_succ] at hn;exact hn
   have e2:Int.tdiv (n:Int) 128=((n / 128:Nat):Int):=rfl
   have e3:cB6 (n:Int) 128=((n % 128:Nat):Int):=rfl
   have e4:wr (((n % 128:Nat):Int)+128)=((n % 128+128:Nat):Int):=by
    have :wr (((n % 128:Nat):Int)+128)=((n % 128:Nat):Int)+128:=wri (by omega) (by omega)
    rw [this];rfl
   have e5:wr ((n / 128:Nat):Int)=((n / 128:Nat):Int):=wri (by omega) (by omega)
   rw [dW (s':=(((n / 128:Nat):Int),out++[((n % 128+128:Nat):Int)])) (by
    simp only [e1,zZ,aE (b:=1) (n:=out.length) (m:=1) (by decide) (by omega),e2,e3,e4,e5,aEq (n:=n % 128+128) (by omega)])]
   rw [bX6 k (n / 128) _ hd (by simp;omega) (by omega)]
   simp only [vi,zS h,cCi,cEp]
theorem aYc {n:Nat} (h:n<9223372036854775808):zJ .i64 (n:Int) 127=((n % 128:Nat):Int):=by
 have e:(BitVec.ofInt 64 (n:Int) &&& BitVec.ofInt 64 127).toNat=n % 128:=by
  rw [BitVec.toNat_and]
  have e1:(BitVec.ofInt 64 (n:Int)).toNat=n:=by simp;omega
  have e2:(BitVec.ofInt 64 127).toNat=2 ^ 7 - 1:=by decide
  rw [e1,e2,Nat.and_two_pow_sub_one_eq_mod]
 unfold zJ
 show IntKind.i64.wrap (((BitVec.ofInt 64 (n:Int) &&& BitVec.ofInt 64 127).toNat:Nat):Int)=_
 rw [e]
 exact wri (by omega) (by omega)
theorem bS8 {n:Nat} (h:n<128):bOr .i64 (n:Int) 128=((n+128:Nat):Int):=by
 have e:(BitVec.ofInt 64 (n:Int) ||| BitVec.ofInt 64 128).toNat=n+128:=by
  rw [BitVec.toNat_or]
  have e1:(BitVec.ofInt 64 (n:Int)).toNat=n:=by simp;omega
  have e2:(BitVec.ofInt 64 128).toNat=128:=by decide
  rw [e1,e2,Nat.or_comm]
  have :=Nat.two_pow_add_eq_or_of_lt (i:=7) (b:=n) h 1
  simp only [Nat.mul_one] at this
  rw [<- this];omega
 unfold bOr
 show IntKind.i64.wrap (((BitVec.ofInt 64 (n:Int) ||| BitVec.ofInt 64 128).toNat:Nat):Int)=_
 rw [e]
 exact wri (by omega) (by omega)
theorem bZp (n:Nat):shr .i64 (n:Int) 7=((n / 128:Nat):Int):=by
 unfold shr
 show Int.fdiv (n:Int) (2 ^ 7)=_
 rw [Int.fdiv_eq_ediv_of_nonneg _ (by decide)]
 rfl
theorem bYg: ∀ (k n:Nat) (out:List Int),n<128 ^ (k+1)->out.length+k+1<=68719476736->n<9223372036854775808->(@Option.bind q41 (lI) (@aC q41 q41 (fun (s3:Int×lI)=>cond (decide (s3.1>(127:Int))) (cond (aM 1 s3.2.length 1) (some (cBd (shr .i64 s3.1 (7:Int),s3.2++[IntKind.wrap .u8 (bOr .i64 (zJ .i64 s3.1 (127:Int)) (128:Int))]))) none) (some (cBc (s3.1,s3.2)))) ((n:Int),out)) fun (s4:Int×lI)=>cond (aM 1 s4.2.length 1) (some (s4.2++[IntKind.wrap .u8 s4.1])) none)=some (out++vi k n)
 | 0,n,out,hn,ho,hb=>by
  have hn:n<128:=by simpa using hn
  have e1:decide ((n:Int)>127)=false:=by simp;omega
  rw [bQ (r:=((n:Int),out)) (by simp only [e1,zY]),aA]
  simp only [aE (b:=1) (n:=out.length) (m:=1) (by decide) (by omega),zZ,aEq (n:=n) (by omega),vi]
 | k+1,n,out,hn,ho,hb=>by
  by_cases h:n<128
  .have e1:decide ((n:Int)>127)=false:=by simp;omega
   rw [bQ (r:=((n:Int),out)) (by simp only [e1,zY]),aA]
   simp only [aE (b:=1) (n:=out.length) (m:=1) (by decide) (by omega),zZ,aEq (n:=n) (by omega),vi,zT h]
  .have e1:decide ((n:Int)>127)=true:=by simp;omega
   have hd:n / 128<128 ^ (k+1):=by rw [Nat.div_lt_iff_lt_mul (by decide)];rw [Nat.pow_succ] at hn;exact hn
   rw [dW (s':=(((n / 128:Nat):Int),out++[((n % 128+128:Nat):Int)])) (by
    simp only [e1,zZ,aE (b:=1) (n:=out.length) (m:=1) (by decide) (by omega),bZp,aYc hb,bS8 (n:=n % 128) (by omega),aEq (n:=n % 128+128) (by omega)])]
   rw [bYg k (n / 128) _ hd (by simp;omega) (by omega)]
   simp only [vi,zS h,cCi,cEp]
def aCt (b:List Int) (n:Int):List Int:=if inR n 0 1000000000000 then b++vi 5 n.toNat else b
theorem aPd (b:List Int) (n:Int):(aCt b n).length<=b.length+6:=by
 unfold aCt
 split
 .have :=bJa 5 n.toNat;rw [cCd];omega
 .omega
theorem bVz {b:List Int} {n:Int} (h:b.length+6<=68719476736):oE b n=some (aCt b n):=by
 unfold oE aCt pj2
 rw [aJh (by omega),lR]
 cases c:inR n 0 1000000000000 with
 | false=>rfl
 | true=>
  rw [bM] at c
  obtain ⟨m,rfl⟩:=cB7 c.1
  have :=bX6 5 m b (by simp only [show (128:Nat) ^ (5+1)=4398046511104 from by decide];omega) (by omega) (by omega)
  exact this
theorem bXe {b:List Int} {n:Int} (h:b.length+6<=68719476736):oC b n=some (aCt b n):=by
 unfold oC aCt pj2
 rw [aE (b:=1) (n:=([]:List Int).length) (by decide) (by simp;omega),eR]
 cases c:inR n 0 1000000000000 with
 | false=>rfl
 | true=>
  rw [bM] at c
  obtain ⟨m,rfl⟩:=cB7 c.1
  have :=bYg 5 m b (by simp only [show (128:Nat) ^ (5+1)=4398046511104 from by decide];omega) (by omega) (by omega)
  exact this
def aJo (b l:List Int):List Int:=l.foldl aCt b
theorem bM0 (b l:List Int):(aJo b l).length<=b.length+6 * l.length:=by
 unfold aJo
 induction l generalizing b with
 | nil=>simp
 | cons x l ih=>
  have h1:=ih (aCt b x)
  have h2:=aPd b x
  simp only [List.foldl_cons,cCf]
  omega
theorem bDe {α:Type} (l:List α):(l.map fun _=>6).sum=6 * l.length:=by
 induction l with
 | nil=>rfl
 | cons x l ih=>rw [cB3,cCt,ih,cCf];omega
theorem bV0 {b l:List Int} (h:b.length+6 * l.length<=68719476736):rR b l=some (aJo b l):=by
 unfold rR aJo
 rw [mY (fun k (a:List Int)=>(a,(k:Int))) (b,(0:Int)) b l (fun _ x a=>aCt a x) cBw (fun _=>6) 68719476736 id rfl (by omega) (by rw [bDe];exact h) (fun _ x a=>aPd a x) (fun k x a hi hx hd hw hk hb=>by
  simp only [hd,hi,hw,zZ,aA,bVz (b:=a) (n:=x) hb]) (fun a=>by simp),xD aCt]
 rfl
theorem bK9 {l:List Int} (h:6 * l.length<=68719476736):rO l=some (aJo [] l):=by
 unfold rO
 rw [bV0 (by simpa using h)];rfl
theorem bLh {l:List Int} (h:6 * l.length<=68719476736):rZ l=some (aJo [] l):=by
 unfold rZ aJo
 rw [mY (fun k (a:List Int)=>((k:Int),a)) ((0:Int),[]) [] l (fun _ x a=>aCt a x) cBw (fun _=>6) 68719476736 id rfl (by omega) (by rw [bDe];simpa using h) (fun _ x a=>aPd a x) (fun k x a hi hx hd hw hk hb=>by
  simp only [hd,hi,hw,zZ,aA,bXe (b:=a) (n:=x) hb]) (fun a=>by simp),xD aCt]
 rfl
def aHp (x:den tRv):List Int:=if eJ x then aJo [] [x.1,x.2.1,x.2.2] else []
theorem aPp (x:den tRv):(aHp x).length<=18:=by
 unfold aHp
 split
 .exact bM0 [] [x.1,x.2.1,x.2.2]
 .simp
theorem bVj (x:den tRv):jA x=some (aHp x):=by
 unfold jA aHp pj3
 rw [bK9 (l:=[x.1,x.2.1,x.2.2]) (by simp)]
 simp only [aP,aEo,aA]
 cases eJ x<;>rfl
theorem bXa (x:den tRv):jE x=some (aHp x):=by
 unfold jE aHp pj3
 rw [bLh (l:=[x.1,x.2.1,x.2.2]) (by simp)]
 simp only [aP,aD8,aA]
 cases eJ x<;>rfl
def cK (r now d:Int) (p:den tPk):den tPk:=gU 3 (yC (tE p)) p.2.2.2.2.2.2.2.1 p.2.2.2.2.2.2.2.2.1 (aHp (r,d,if 1000000<wr (now+10) then 1000000 else wr (now+10)))
theorem bSy {t:den tTo} {r now d:Int} {p:den tPk} (h:tot tPk p<=34359738368):jK t r now d p=some (pkR (cK r now d p)):=by
 have h1:tot tPt p.2.2.2.1<=34359738368:=wP (aV (aV (aV h)))
 have h2:=aDi p
 have sm:SmB 68719476736 tPk p:=(bN h).mono (by decide)
 have h3:=aPp (r,d,if 1000000<wr (now+10) then 1000000 else wr (now+10))
 unfold jK cK aL zz7 zz8
 simp only [aP,bYz,aA,aXp sm]
 rw [aZ7 ((bN (cBf h2 h1)).mono (by decide)),aA,bVj,aA,aNh (by rw [aA9];omega) (by omega)]
 rfl
theorem bTn {t:den tTo} {r now d:Int} {p:den tPk} (h:tot tPk p<=34359738368):gL t r now d p=some (pkR (cK r now d p)):=by
 have h1:tot tPt p.2.2.2.1<=34359738368:=wP (aV (aV (aV h)))
 have h2:=aDi p
 have sm:SmB 68719476736 tPk p:=(bN h).mono (by decide)
 have h3:=aPp (r,d,if 1000000<wr (now+10) then 1000000 else wr (now+10))
 unfold gL cK aL zz7 zz8
 simp only [aP,aWh,aA,aXu sm]
 rw [aZl ((bN (cBf h2 h1)).mono (by decide)),aA,bXa,aA,aJi (by rw [aA9];omega) (by omega)]
 rfl
theorem aFa {kind res seq:Int} {p:den tPt} {pay:List Int}:tot tPk (gU kind p res seq pay)=tot tPt p+tot (.sl tb) pay:=by
 show 0+(0+(0+(tot tPt p+(0+(0+(0+(0+(0+tot (.sl tb) pay))))))))=_
 omega
theorem aVl (f:den tFl):tot tPk (xV f)<=tot tFl f:=by
 unfold xV
 split
 .rw [aFa]
  have h1:=aZ2 (t:=tPt) (l:=f.2.2.2.2.2.1) (d:=[]) (i:=f.2.2.2.2.2.2.1.toNat) rfl
  have h2:=aZ2 (t:= .sl tb) (l:=f.2.2.2.2.1) (d:=[]) (i:=f.2.2.2.1.toNat) rfl
  show _<=0+(0+(0+(0+(tot (.sl (.sl tb)) f.2.2.2.2.1+(tot (.sl tPt) f.2.2.2.2.2.1+(0+(0+tot (.sl tRv) f.2.2.2.2.2.2.2.2)))))))
  omega
 .exact cB1 _
theorem aNj {p:den tPk} {N:Nat} (h:tot tPk p<=N):tot (.sl tPp) p.2.2.2.1<=N/\tot (.sl tb) p.2.2.2.2.2.2.2.2.2<=N:=
 ⟨wP (aV (aV (aV h))),aV (aV (aV (aV (aV (aV (aV (aV (aV h))))))))⟩
theorem aVf (x:den tIb) (p:den tPk):tot tPk (mW x p)<=tot tPk p:=by
 unfold mW
 split
 .unfold aK1
  rw [aFa,aA9]
  have h:=(aNj (cBs (tot tPk p))).1
  show tot (.sl tPp) p.2.2.2.1+0<=_
  omega
 .exact cB1 _
theorem aU1 (f:den tFl):tot tFl (aF f).1=tot tFl f/\tot tPk (aF f).2.1<=tot tFl f:=by
 unfold aF
 split
 .split
  .exact ⟨aHt f _ _,aVl f⟩
  .split
   .exact ⟨aHt f _ _,aVl (oQ f (vW f) 1)⟩
   .exact ⟨aHt f _ _,cB1 _⟩
 .exact ⟨aHt f _ _,cB1 _⟩
theorem aF7 {f:den tFl} {N:Nat} (h:tot tFl f<=N):tot (.sl tMs) f.2.2.2.2.1<=N/\tot (.sl tPt) f.2.2.2.2.2.1<=N/\tot (.sl tRv) f.2.2.2.2.2.2.2.2<=N:=by
 have h0:=aV (aV (aV (aV h)))
 exact ⟨wP h0,wP (aV h0),aV (aV (aV (aV h0)))⟩
theorem aU4 (r now d:Int) (p:den tPk):tot tPk (cK r now d p)<=tot tPk p+18:=by
 unfold cK
 rw [aFa,aA9]
 have h1:=aDi p
 have h2:=(aNj (cBs (tot tPk p))).1
 have h2:tot tPt p.2.2.2.1<=tot tPk p:=h2
 have h3:=aPp (r,d,if 1000000<wr (now+10) then 1000000 else wr (now+10))
 have e:tot (.sl tb) (aHp (r,d,if 1000000<wr (now+10) then 1000000 else wr (now+10)))=(aHp (r,d,if 1000000<wr (now+10) then 1000000 else wr (now+10))).length:=dK rfl
 rw [e]
 omega
def aIw {α β:Type} (p:α->β->Bool):List α->List β->Bool
 | x::xs,y::ys=>p x y&&aIw p xs ys
 | _,_=>true
theorem aZ6 {α β R:Type} {a:List α} {b:List β} (p:α->β->Bool) {step:Int->Option (Int⊕(Unit⊕R))} (ρ:R) (hlen:a.length=b.length) (hl:a.length<=4611686018427387904)
  (h: ∀ (k:Nat) (x:α) (y:β),x∈a->y∈b->idx a (k:Int)=some x->idx b (k:Int)=some y->decide ((k:Int)<(a.length:Int))=true->IntKind.i64.wrap ((k:Int)+1)=((k+1:Nat):Int)->step (k:Int)=some (cond (p x y) (.inl ((k+1:Nat):Int)) (.inr (.inr ρ))))
  (he:step (a.length:Int)=some (.inr (.inl ()))):aC step (0:Int)=some (cond (aIw p a b) (.inl ()) (.inr ρ)):=by
 have key: ∀ (ra pa:List α) (rb pb:List β),pa++ra=a->pb++rb=b->pa.length=pb.length->aC step (pa.length:Int)=some (cond (aIw p ra rb) (.inl ()) (.inr ρ)):=by
  intro ra
  induction ra with
  | nil=>intro pa rb pb h1 _ _;rw [cCm] at h1;subst h1;exact bQ he
  | cons x ra ih=>
   intro pa rb pb h1 h2 h3
   cases rb with
   | nil=>exfalso;have e1:=congrArg cBw h1;have e2:=congrArg cBw h2;simp at e1 e2;omega
   | cons y rb=>
    have hx:a[pa.length]? =some x:=by rw [<- h1];simp
    have hy:b[pa.length]? =some y:=by rw [<- h2,h3];simp
    have hlt:pa.length<a.length:=by rw [<- h1];simp
    have hs:=h pa.length x y (cBr hx) (cBr hy) (by rw [aH];exact hx) (by rw [aH];exact hy) (by simpa using hlt) (by rw [wri (by omega) (by omega)];omega)
    simp only [aIw]
    cases hp:p x y with
    | true=>rw [hp] at hs;rw [dW hs];have :=ih (pa++[x]) rb (pb++[y]) (by simpa using h1) (by simpa using h2) (by simp [h3]);simpa using this
    | false=>rw [hp] at hs;exact bQ hs
 exact key a [] b [] rfl rfl rfl
theorem aGr {α:Type} (b:Bool) (x y:α):cond b (some x) (some y)=some (cond b x y):=by cases b<;>rfl
theorem bLr {β:Type} (c:Bool) (f:Unit->Option β) (r:β):Sum.elim f some (cond c (cBd ()) (cBc r))=cond c (f ()) (some r):=by cases c<;>rfl
theorem bJ3 {α β:Type} (a:List α) (b:List β):((a.length:Int) != (b.length:Int))= !decide (a.length=b.length):=by
 rw [cB4];simp;omega
theorem bC7 {α:Type} {p:Prop} [Decidable p] {x y z:α} (h:p->y=z):cond (!decide p) x y=cond (!decide p) x z:=by
 by_cases hp:p
 .rw [h hp]
 .simp [hp]
noncomputable def aQ8 (a b:dP):Bool:=cond (!decide (a.length=b.length)) false (cond (aIw (fun x y=>(x.1==y.1)&&((x.2.1==y.2.1)&&((x.2.2.1==y.2.2.1)&&((x.2.2.2.1==y.2.2.2.1)&&((x.2.2.2.2==y.2.2.2.2)&&true))))) a b) true false)
theorem bTv {a b:dP} (ha:a.length<=68719476736):jR a b=some (aQ8 a b):=by
 unfold jR aQ8 zz4
 rw [bJ3]
 rw [bC7 (z:=some (cond (aIw (fun x y=>(x.1==y.1)&&((x.2.1==y.2.1)&&((x.2.2.1==y.2.2.1)&&((x.2.2.2.1==y.2.2.2.1)&&((x.2.2.2.2==y.2.2.2.2)&&true))))) a b) true false)) (fun hlen=>by
  rw [aZ6 (a:=a) (b:=b) (fun x y=>(x.1==y.1)&&((x.2.1==y.2.1)&&((x.2.2.1==y.2.2.1)&&((x.2.2.2.1==y.2.2.2.1)&&((x.2.2.2.2==y.2.2.2.2)&&true))))) false hlen (cBf ha (by decide)) (fun k x y mx my ix iy hd hw=>by
   simp only [hd,ix,iy,hw,zZ,aA,aP,bne]
   generalize ((x.1==y.1)&&((x.2.1==y.2.1)&&((x.2.2.1==y.2.2.1)&&((x.2.2.2.1==y.2.2.2.1)&&((x.2.2.2.2==y.2.2.2.2)&&true)))))=c
   cases c<;>rfl) (by simp)]
  simp only [aA,bLr,aGr]),aGr]
noncomputable def aE8 (a b:den tPp):Bool:=cond (a.1==b.1) (cond (a.2.1==b.2.1) (cond (a.2.2.1==b.2.2.1) (aQ8 a.2.2.2 b.2.2.2) false) false) false
theorem bMs {a b:den tPp} (ha:SmB 68719476736 tPp a) (hb:SmB 68719476736 tPp b):lJ a b=some (aE8 a b):=by
 unfold lJ aE8
 simp only [aA,aGr,aP,bTv ha.2.2.2.1]
noncomputable def aRv (a b:lPp):Bool:=cond (!decide (a.length=b.length)) false (cond (aIw (fun x y=>aE8 x y) a b) true false)
theorem bTa {a b:lPp} (ha:SmB 68719476736 (.sl tPp) a) (hb:SmB 68719476736 (.sl tPp) b):jP a b=some (aRv a b):=by
 unfold jP aRv pj4
 rw [bJ3]
 rw [bC7 (z:=some (cond (aIw (fun x y=>aE8 x y) a b) true false)) (fun hlen=>by
  rw [aZ6 (a:=a) (b:=b) (fun x y=>aE8 x y) false hlen (cBf ha.1 (by decide)) (fun k x y mx my ix iy hd hw=>by
   simp only [hd,ix,iy,hw,zZ,aA,aP,bMs (ha.2 x mx) (hb.2 y my)]
   generalize (aE8 x y)=c
   cases c<;>rfl) (by simp)]
  simp only [aA,bLr,aGr]),aGr]
noncomputable def bQ6 (a b:List Int):Bool:=(aAa a).toList==(aAa b).toList
theorem bTy (a b:List Int):nN a b=some (bQ6 a b):=rfl
noncomputable def aCf (a b:den tPk):Bool:=cond (a.1==b.1) (cond (a.2.1==b.2.1) (cond (a.2.2.1==b.2.2.1) (cond (aRv a.2.2.2.1 b.2.2.2.1) (cond (a.2.2.2.2.1==b.2.2.2.2.1) (cond (a.2.2.2.2.2.1==b.2.2.2.2.2.1) (cond (a.2.2.2.2.2.2.1==b.2.2.2.2.2.2.1) (cond (a.2.2.2.2.2.2.2.1==b.2.2.2.2.2.2.2.1) (cond (a.2.2.2.2.2.2.2.2.1==b.2.2.2.2.2.2.2.2.1) (bQ6 a.2.2.2.2.2.2.2.2.2 b.2.2.2.2.2.2.2.2.2) false) false) false) false) false) false) false) false) false
theorem bS7 {a b:den tPk} (ha:SmB 68719476736 tPk a) (hb:SmB 68719476736 tPk b):mK a b=some (aCf a b):=by
 unfold mK aCf zz4 zz5 zz6 zz7 zz8 zz9
 simp only [aA,aGr,aP,bTy,bTa ha.2.2.2.1 hb.2.2.2.1]
theorem aU8 {w:den tNw} (h:tot tNw w<=16777216):tot (.sl tFl) w.2.2.2.2.2.2.1<=16777216:=wP (aV (aV (aV (aV (aV (aV h))))))
def aWn (w:den tNw):Bool:=cond (w.2.2.2.2.2.2.1.all fun f=> !mT f) (((w.2.2.2.2.2.1.length:Int)==(0:Int))) false
theorem bWy {w:den tNw} (h:tot tNw w<=16777216):aBa w=some (aWn w):=by
 have hf:=aU8 h
 have hl:=dB (t:=tFl) w.2.2.2.2.2.2.1
 unfold aBa aWn pj9 zz5 zz6 zz8
 rw [aY (l:=w.2.2.2.2.2.2.1) (fun _ f=>if !mT f then none else some false) (by omega) (fun k x hi hd hw hx hk=>by
  have :=sO (t:=tFl) hx
  simp only [hd,hi,hw,zZ,aA,aP,aS0 (f:=x) (by omega)]
  show cond (mT x) _ _=_
  cases mT x<;>rfl) (by simp)]
 rw [mE (fun f:den tFl=> !mT f)]
 cases w.2.2.2.2.2.2.1.all (fun f=> !mT f)<;>rfl
theorem bVy {w:den tNw} (h:tot tNw w<=16777216):aBj w=some (aWn w):=by
 have hf:=aU8 h
 have hl:=dB (t:=tFl) w.2.2.2.2.2.2.1
 unfold aBj aWn pj9 zz5 zz6 zz8
 rw [aY (l:=w.2.2.2.2.2.2.1) (fun _ f=>if !mT f then none else some false) (by omega) (fun k x hi hd hw hx hk=>by
  have :=sO (t:=tFl) hx
  simp only [hd,hi,hw,zZ,aA,aP,aTr (f:=x) (by omega)]
  show cond (mT x) _ _=_
  cases mT x<;>rfl) (by simp)]
 rw [mE (fun f:den tFl=> !mT f)]
 cases w.2.2.2.2.2.2.1.all (fun f=> !mT f)<;>rfl
def aGn (f:den tFl):Int:=wr ((wr ((wr ((f.2.2.2.2.2.1.length:Int)+(2:Int))) * (21:Int)))+(wr ((2:Int) * (f.2.2.2.2.1.length:Int))))
def aC2 (w:den tNw):Int:=cN (fun _ f a=>if aGn f>a then aGn f else a) 0 w.2.2.2.2.2.2.1 0
theorem aXx {w:den tNw} (h:w.2.2.2.2.2.2.1.length<=1073741824):gS w=some (wr (8+aC2 w)):=by
 unfold gS aC2 zz4 zz5 zz6
 rw [mY (fun k (a:Int)=>(a,(k:Int))) ((0:Int),(0:Int)) 0 w.2.2.2.2.2.2.1 (fun _ f a=>if aGn f>a then aGn f else a) (fun _=>0) (fun _=>0) 1 id rfl (by omega) (by rw [sum_nil];omega) (fun k x a=>by omega) (fun k x a hi hx hd hw hk hb=>by
  simp only [hd,hi,hw,zZ,aA,bEc]
  rfl) (fun a=>by simp)]
 rfl
theorem aXs {w:den tNw} (h:w.2.2.2.2.2.2.1.length<=1073741824):gM w=some (wr (8+aC2 w)):=by
 unfold gM aC2 zz4 zz5 zz6
 rw [mY (fun k (a:Int)=>(a,(k:Int))) ((0:Int),(0:Int)) 0 w.2.2.2.2.2.2.1 (fun _ f a=>if aGn f>a then aGn f else a) (fun _=>0) (fun _=>0) 1 id rfl (by omega) (by rw [sum_nil];omega) (fun k x a=>by omega) (fun k x a hi hx hd hw hk hb=>by
  simp only [hd,hi,hw,zZ,aA,aWt]
  rfl) (fun a=>by simp)]
 rw [aA,Int.add_comm]
 rfl
def aP6 (b:List Int) (p:Nat):Nat->Nat->Nat->Int×Int×Bool
 | 0,_,_=>(0,0,false)
 | f+1,k,n=>match b[p+k]? with
  | none=>(0,0,false)
  | some x=>
   if x.toNat<128 then (if (decide (x.toNat=0)&&decide (0<k))||decide (1000000000000<n+x.toNat % 128 * 2 ^ (7 * k)) then (0,0,false) else (((n+x.toNat % 128 * 2 ^ (7 * k):Nat):Int),((p+k+1:Nat):Int),true))
   else aP6 b p f (k+1) (n+x.toNat % 128 * 2 ^ (7 * k))
theorem aSz {k:Nat} (h:k<6):2 ^ (7 * k)<=34359738368:=cBf (Nat.pow_le_pow_right (by decide) (show 7 * k<=35 by omega)) (by decide)
theorem bJ7 {n c k:Nat} (h:n<2 ^ (7 * k)) (hc:c<128):n+c * 2 ^ (7 * k)<2 ^ (7 * (k+1)):=by
 have e:2 ^ (7 * (k+1))=128 * 2 ^ (7 * k):=by rw [show 7 * (k+1)=7 * k+7 by omega,Nat.pow_add];omega
 have :c * 2 ^ (7 * k)<=127 * 2 ^ (7 * k):=Nat.mul_le_mul_right _ (by omega)
 omega
theorem aSl {c k:Nat} (hk:k<6) (hc:c<128):c * 2 ^ (7 * k)<=4398046511104:=cBf (Nat.mul_le_mul (show c<=128 by omega) (aSz hk)) (by decide)
theorem bCw {S:Type} (b:List Int) (p:Nat) (hb: ∀ x∈b,0<=x/\x<=255) (enc:Nat->Nat->S) {step:S->Option (S⊕(Unit⊕q30))}
  (h0: ∀ n,step (enc 6 n)=some (.inr (.inl ())))
  (h1: ∀ k n,k<6->b[p+k]? =none->step (enc k n)=some (.inr (.inl ()))\/step (enc k n)=some (.inr (.inr (0,0,false))))
  (h2: ∀ k n (m:Nat),k<6->n<2 ^ (7 * k)->m<=255->b[p+k]? =some (m:Int)->step (enc k n)=some (if m<128 then .inr (.inr (if (decide (m=0)&&decide (0<k))||decide (1000000000000<n+m % 128 * 2 ^ (7 * k)) then (0,0,false) else (((n+m % 128 * 2 ^ (7 * k):Nat):Int),((p+k+1:Nat):Int),true))) else .inl (enc (k+1) (n+m % 128 * 2 ^ (7 * k))))):
  ∀ f k n,f+k=6->n<2 ^ (7 * k)-> @Option.bind (Unit⊕q30) q30 (aC step (enc k n)) (fun z=>Sum.elim (fun _=>some ((0:Int),(0:Int),false)) some z)=some (aP6 b p f k n):=by
 intro f
 induction f with
 | zero=>
  intro k n hk hn
  have :k=6:=by omega
  subst this
  rw [bQ (h0 n)]
  rfl
 | succ f ih=>
  intro k n hk hn
  have hk6:k<6:=by omega
  unfold aP6
  cases hx:b[p+k]? with
  | none=>rcases h1 k n hk6 hx with h | h<;>rw [bQ h]<;>rfl
  | some x=>
   obtain ⟨x0,x1⟩:=hb x (cBr hx)
   obtain ⟨m,rfl⟩: ∃ m:Nat,x=(m:Int):=⟨x.toNat,by omega⟩
   have hs:=h2 k n m hk6 hn (by omega) hx
   simp only [cBo]
   by_cases hm:m<128
   .rw [zT hm] at hs ⊢
    rw [bQ hs]
    rfl
   .rw [zS hm] at hs ⊢
    rw [dW hs]
    exact ih (k+1) _ (by omega) (bJ7 hn (Nat.mod_lt _ (by decide)))
theorem bCz {a c:Nat} (hc:c<=35) (h:a * 2 ^ c<=4398046511104):shl .i64 (a:Int) (c:Int)=((a * 2 ^ c:Nat):Int):=by
 unfold shl
 have e:min ((c:Int)).toNat IntKind.i64.bits=c:=by simp [IntKind.bits];omega
 rw [e]
 have e2:(a:Int) * 2 ^ c=((a * 2 ^ c:Nat):Int):=by simp
 rw [e2]
 exact wri (by omega) (by omega)
theorem bUs {n c k:Nat} (hk:k<6) (hn:n<2 ^ (7 * k)) (hc:c<128):bOr .i64 (n:Int) ((c * 2 ^ (7 * k):Nat):Int)=((n+c * 2 ^ (7 * k):Nat):Int):=by
 have hm:=aSl hk hc
 have hp:=aSz hk
 have e:(BitVec.ofInt 64 (n:Int) ||| BitVec.ofInt 64 ((c * 2 ^ (7 * k):Nat):Int)).toNat=n+c * 2 ^ (7 * k):=by
  rw [BitVec.toNat_or]
  have e1:(BitVec.ofInt 64 (n:Int)).toNat=n:=by simp;omega
  have e2:(BitVec.ofInt 64 ((c * 2 ^ (7 * k):Nat):Int)).toNat=c * 2 ^ (7 * k):=by
   generalize c * 2 ^ (7 * k)=q at hm
   simp;omega
  rw [e1,e2,Nat.or_comm]
  have :=Nat.two_pow_add_eq_or_of_lt (i:=7 * k) (b:=n) hn c
  rw [Nat.mul_comm c,<- this];omega
 unfold bOr
 show IntKind.i64.wrap (((BitVec.ofInt 64 (n:Int) ||| BitVec.ofInt 64 ((c * 2 ^ (7 * k):Nat):Int)).toNat:Nat):Int)=_
 rw [e]
 exact wri (by omega) (by omega)
theorem aXo {n:Nat} (h:n<256):IntKind.wrap .u64 (n:Int)=(n:Int):=by
 simp only [IntKind.wrap,IntKind.signed,IntKind.bits]
 simp
 omega
def rv (b:List Int) (p:Nat):q30:=aP6 b p 6 0 0
theorem aUw (k:Nat):(7:Int) * (k:Int)=((7 * k:Nat):Int):=by omega
theorem cA4 {b:List Int} {p:Nat} (hb: ∀ x∈b,0<=x/\x<=255) (hl:b.length<=68719476736) (hp:p<=b.length):rX b (p:Int)=some (rv b p):=by
 unfold rX
 have e0:decide ((p:Int)<0)=false:=by simp
 rw [e0,zY]
 refine bCw b p hb (fun k n=>(((p+k:Nat):Int),(n:Int),(k:Int))) (fun n=>by simp) (fun k n hk hx=> ?_) (fun k n m hk hn hm hx=> ?_) 6 0 0 rfl (by simp)
 .left
  have h1:decide (((p+k:Nat):Int)<(b.length:Int))=false:=by
   have :=List.getElem?_eq_none_iff.1 hx
   simp;omega
  simp only [h1]
  cases decide ((k:Int)<6)<;>rfl
 .have h0:=(cBm.1 hx).1
  have h1:decide (((p+k:Nat):Int)<(b.length:Int))=true:=by simp;omega
  have h2:decide ((k:Int)<6)=true:=by simp;omega
  have h3:idx b ((p+k:Nat):Int)=some (m:Int):=by rw [aH];exact hx
  have h4:wr ((7 * k:Nat):Int)=((7 * k:Nat):Int):=wri (by omega) (by omega)
  have h5:wr (m:Int)=(m:Int):=wri (by omega) (by omega)
  have h6:decide (((7 * k:Nat):Int)<0)=false:=by simp;omega
  have h7:cB6 (m:Int) 128=((m % 128:Nat):Int):=rfl
  have hq:=aSl (c:=m % 128) hk (Nat.mod_lt _ (by decide))
  have hr:=aSz hk
  have h8:wr ((n:Int)+((m % 128 * 2 ^ (7 * k):Nat):Int))=((n+m % 128 * 2 ^ (7 * k):Nat):Int):=by
   generalize m % 128 * 2 ^ (7 * k)=q at hq
   have :wr ((n:Int)+(q:Int))=(n:Int)+(q:Int):=wri (by omega) (by omega)
   rw [this];omega
  have h9:wr (((p+k:Nat):Int)+1)=((p+k+1:Nat):Int):=by
   have :wr (((p+k:Nat):Int)+1)=((p+k:Nat):Int)+1:=wri (by omega) (by omega)
   rw [this];omega
  have ha:wr ((k:Int)+1)=((k+1:Nat):Int):=by
   have :wr ((k:Int)+1)=(k:Int)+1:=wri (by omega) (by omega)
   rw [this];omega
  simp only [h1,h2,h3,zZ,aA,aUw,h4,aXo (n:=7 * k) (by omega),h6,zY,h5,h7,bCz (a:=m % 128) (c:=7 * k) (by omega) hq,h8,h9,ha]
  generalize n+m % 128 * 2 ^ (7 * k)=q
  by_cases c1:m<128
  .have e1:decide ((m:Int)<128)=true:=by simp;omega
   have e2:((m:Int)==0)=decide (m=0):=by rw [cB4];simp
   have e3:decide ((k:Int)>0)=decide (0<k):=by rw [cB4];simp
   have e4:decide ((q:Int)>1000000000000)=decide (1000000000000<q):=by rw [cB4];simp;omega
   simp only [e1,e2,e3,e4,zZ,zT c1]
   cases decide (m=0)<;>cases decide (0<k)<;>cases decide (1000000000000<q)<;>rfl
  .have e1:decide ((m:Int)<128)=false:=by simp;omega
   simp only [e1,zY,zS c1]
   rfl
theorem cA0 {b:List Int} {p:Nat} (hb: ∀ x∈b,0<=x/\x<=255) (hl:b.length<=68719476736) (hp:p<=b.length):sF b (p:Int)=some (rv b p):=by
 unfold sF
 have e0:decide ((p:Int)<0)=false:=by simp
 refine bCw b p hb (fun k n=>((n:Int),(k:Int))) (fun n=>by simp) (fun k n hk hx=> ?_) (fun k n m hk hn hm hx=> ?_) 6 0 0 rfl (by simp)
 .right
  have hw:wr ((b.length:Int) - (k:Int))=(b.length:Int) - (k:Int):=wri (by omega) (by omega)
  have h1:decide ((p:Int)>=(b.length:Int) - (k:Int))=true:=by
   have :=List.getElem?_eq_none_iff.1 hx
   simp;omega
  have h2:decide ((k:Int)<6)=true:=by simp;omega
  simp only [h2,e0,hw,h1,zZ,zY,aA]
 .have h0:=(cBm.1 hx).1
  have hw:wr ((b.length:Int) - (k:Int))=(b.length:Int) - (k:Int):=wri (by omega) (by omega)
  have h1:decide ((p:Int)>=(b.length:Int) - (k:Int))=false:=by simp;omega
  have h2:decide ((k:Int)<6)=true:=by simp;omega
  have hpk:wr ((p:Int)+(k:Int))=((p+k:Nat):Int):=by
   have :wr ((p:Int)+(k:Int))=(p:Int)+(k:Int):=wri (by omega) (by omega)
   rw [this];omega
  have h3:idx b ((p+k:Nat):Int)=some (m:Int):=by rw [aH];exact hx
  have h4:wr ((7 * k:Nat):Int)=((7 * k:Nat):Int):=wri (by omega) (by omega)
  have h5:wr (m:Int)=(m:Int):=wri (by omega) (by omega)
  have h6:decide (((7 * k:Nat):Int)<0)=false:=by simp;omega
  have hq:=aSl (c:=m % 128) hk (Nat.mod_lt _ (by decide))
  have h9:wr (((p+k:Nat):Int)+1)=((p+k+1:Nat):Int):=by
   have :wr (((p+k:Nat):Int)+1)=((p+k:Nat):Int)+1:=wri (by omega) (by omega)
   rw [this];omega
  have ha:wr ((k:Int)+1)=((k+1:Nat):Int):=by
   have :wr ((k:Int)+1)=(k:Int)+1:=wri (by omega) (by omega)
   rw [this];omega
  simp only [h1,h2,hw,e0,hpk,h3,zZ,zY,aA,aUw,h4,h6,h5,aYc (n:=m) (by omega),bCz (a:=m % 128) (c:=7 * k) (by omega) hq,bUs (c:=m % 128) hk hn (Nat.mod_lt _ (by decide)),h9,ha]
  generalize n+m % 128 * 2 ^ (7 * k)=q
  by_cases c1:m<128
  .have e1:decide ((m:Int)<128)=true:=by simp;omega
   have e2:((m:Int)==0)=decide (m=0):=by rw [cB4];simp
   have e3:decide ((k:Int)>0)=decide (0<k):=by rw [cB4];simp
   have e4:decide ((q:Int)>1000000000000)=decide (1000000000000<q):=by rw [cB4];simp;omega
   simp only [e1,e2,e3,e4,zZ,zT c1]
   cases decide (m=0)<;>cases decide (0<k)<;>cases decide (1000000000000<q)<;>rfl
  .have e1:decide ((m:Int)<128)=false:=by simp;omega
   simp only [e1,zY,zS c1]
theorem bCi {b:List Int} {p:Nat}: ∀ (f k n:Nat),(aP6 b p f k n).2.2=true-> ∃ q:Nat,(aP6 b p f k n).2.1=(q:Int)/\q<=b.length
 | 0,k,n,h=>by cases h
 | f+1,k,n,h=>by
  unfold aP6 at h ⊢
  cases hx:b[p+k]? with
  | none=>rw [hx] at h;cases h
  | some x=>
   rw [hx] at h
   have hlt:=(cBm.1 hx).1
   simp only at h ⊢
   by_cases c:x.toNat<128
   .rw [zT c] at h ⊢
    split at h
    .cases h
    .rename_i c2
     rw [zS c2]
     exact ⟨p+k+1,rfl,hlt⟩
   .rw [zS c] at h ⊢
    exact bCi f (k+1) _ h
theorem bQy {b:List Int} {p:Nat} (h:(rv b p).2.2=true): ∃ q:Nat,(rv b p).2.1=(q:Int)/\q<=b.length:=bCi 6 0 0 h
def aM0 (b:List Int):Int×Bool×List Int:=
 cond (rv b 0).2.2 (cond (rv b (rv b 0).2.1.toNat).2.2 (cond (rv b (rv b (rv b 0).2.1.toNat).2.1.toNat).2.2
  ((rv b (rv b (rv b 0).2.1.toNat).2.1.toNat).2.1,true,[(rv b 0).1,(rv b (rv b 0).2.1.toNat).1,(rv b (rv b (rv b 0).2.1.toNat).2.1.toNat).1]) (0,false,[])) (0,false,[])) (0,false,[])
theorem bCe (b:List Int):aM0 b=(0,false,[])\/ ∃ q x y z,aM0 b=(q,true,[x,y,z]):=by
 unfold aM0
 cases (rv b 0).2.2
 .exact .inl rfl
 .cases (rv b (rv b 0).2.1.toNat).2.2
  .exact .inl rfl
  .cases (rv b (rv b (rv b 0).2.1.toNat).2.1.toNat).2.2
   .exact .inl rfl
   .exact .inr ⟨_,_,_,_,rfl⟩
theorem bAz {b:List Int} {step:Int×Int×List Int->Option ((Int×Int×List Int)⊕((Int×List Int)⊕(Int×Bool×List Int)))}
  (hs: ∀ (p:Nat) (i:Nat) (out:List Int),p<=b.length->i<3->out.length<=3->step ((p:Int),(i:Int),out)=some (cond (rv b p).2.2 (.inl ((rv b p).2.1,((i+1:Nat):Int),out++[(rv b p).1])) (.inr (.inr (0,false,[])))))
  (he: ∀ p out,step (p,3,out)=some (.inr (.inl (p,out)))):
  @Option.bind ((Int×List Int)⊕(Int×Bool×List Int)) (Int×Bool×List Int) (aC step ((0:Int),(0:Int),([]:List Int))) (fun z=>Sum.elim (fun s8=>some (s8.1,true,s8.2)) some z)=some (aM0 b):=by
 have h1:=hs 0 0 [] (cB1 _) (by decide) (by decide)
 unfold aM0
 cases c1:(rv b 0).2.2 with
 | false=>rw [c1] at h1;rw [bQ (s:=((0:Int),(0:Int),([]:List Int))) h1];rfl
 | true=>
  rw [c1] at h1
  obtain ⟨q1,e1,l1⟩:=bQy c1
  rw [dW (s:=((0:Int),(0:Int),([]:List Int))) h1]
  rw [e1]
  simp only [zZ,cBo]
  have h2:=hs q1 (0+1) ([]++[(rv b 0).1]) l1 (by decide) (by simp)
  cases c2:(rv b q1).2.2 with
  | false=>rw [c2] at h2;rw [bQ h2];rfl
  | true=>
   rw [c2] at h2
   obtain ⟨q2,e2,l2⟩:=bQy c2
   rw [dW h2]
   rw [e2]
   simp only [zZ,cBo]
   have h3:=hs q2 (0+1+1) ([]++[(rv b 0).1]++[(rv b q1).1]) l2 (by decide) (by simp)
   cases c3:(rv b q2).2.2 with
   | false=>rw [c3] at h3;rw [bQ h3];rfl
   | true=>
    rw [c3] at h3
    rw [dW h3]
    rw [bQ (s:=((rv b q2).2.1,((0+1+1+1:Nat):Int),[]++[(rv b 0).1]++[(rv b q1).1]++[(rv b q2).1])) (he _ _)]
    rfl
theorem bW8 {b:List Int} (hb: ∀ x∈b,0<=x/\x<=255) (hl:b.length<=68719476736):rT b 0 3=some (aM0 b):=by
 unfold rT
 have r1:inR 3 0 100=true:=by decide
 have r2:inR 0 0 (b.length:Int)=true:=by rw [bM];omega
 simp only [lR,aA,r1,r2,cBh,zY]
 refine bAz (fun p i out hp hi ho=> ?_) (fun p out=>by simp)
 have e1:decide ((i:Int)<3)=true:=by simp;omega
 have e2:wr ((i:Int)+1)=((i+1:Nat):Int):=by
  have :wr ((i:Int)+1)=(i:Int)+1:=wri (by omega) (by omega)
  rw [this];omega
 simp only [e1,zZ,cA4 hb hl hp,aA,e2,aE (b:=8) (n:=out.length) (m:=1) (by decide) (by omega)]
 cases (rv b p).2.2<;>rfl
theorem bVo {b:List Int} (hb: ∀ x∈b,0<=x/\x<=255) (hl:b.length<=68719476736):sG b 0 3=some (aM0 b):=by
 unfold sG
 have r1:inR 3 0 100=true:=by decide
 have r2:inR 0 0 (b.length:Int)=true:=by rw [bM];omega
 simp only [eR,aA,r1,r2,cBh,zY]
 refine bAz (fun p i out hp hi ho=> ?_) (fun p out=>by simp)
 have e1:decide ((i:Int)<3)=true:=by simp;omega
 have e2:wr ((i:Int)+1)=((i+1:Nat):Int):=by
  have :wr ((i:Int)+1)=(i:Int)+1:=wri (by omega) (by omega)
  rw [this];omega
 simp only [e1,zZ,cA0 hb hl hp,aA,e2,aE (b:=8) (n:=out.length) (m:=1) (by decide) (by omega)]
 cases (rv b p).2.2<;>rfl
def yJ (b:List Int):Int×q30:=
 match aM0 b with
 | (q,true,[x,y,z])=>cond (q==(b.length:Int)) (cond (eJ (x,y,z)) (x,y,z,true) (0,0,0,false)) (0,0,0,false)
 | _=>(0,0,0,false)
theorem bVw {b:List Int} (hb: ∀ x∈b,0<=x/\x<=255) (hl:b.length<=68719476736):jG b=some (yJ b):=by
 unfold jG yJ ixb
 rw [bW8 hb hl]
 rcases bCe b with h | ⟨q,x,y,z,h⟩
 .rw [h];rfl
 .rw [h]
  simp only [aA,cBh,zY,bne,aEo]
  cases q==(b.length:Int)
  .rfl
  .cases hv:eJ (x,y,z)<;>simp [hv]
theorem bYm {b:List Int} (hb: ∀ x∈b,0<=x/\x<=255) (hl:b.length<=68719476736):iW b=some (yJ b):=by
 unfold iW yJ ixb
 rw [bVo hb hl]
 rcases bCe b with h | ⟨q,x,y,z,h⟩
 .rw [h];rfl
 .rw [h]
  simp only [aA,cBh,zY,bne,aD8]
  cases q==(b.length:Int)
  .rfl
  .cases hv:eJ (x,y,z)<;>simp [hv]
def aB5 (x:den tRv) (l:lRv) (k:Nat) (y:den tRv):Option lRv:=
 cond (y.1==x.1) (cond (y.2.1==x.2.1) (some (l.set k (y.1,y.2.1,if x.2.2>y.2.2 then x.2.2 else y.2.2))) none) none
def aK8 (l:lRv) (x:den tRv):lRv:=
 cond (eJ x) (match cB (aB5 x l) 0 l with
  | some r=>r
  | none=>if 16<l.length+1 then (l++[x]).drop 1 else l++[x]) l
theorem bBu {α:Type} {l:List α} (h:0<l.length):cut l (1:Int) (l.length:Int)=l.drop 1:=aZg (k:=1) h
theorem bAv (l:lRv) (x:den tRv):decide (((l++[x]).length:Int)>16)=decide (16<l.length+1):=by
 rw [cB4];simp;omega
theorem bX7 {l:lRv} {x:den tRv} (h:l.length<=1073741824):mZ l x=some (aK8 l x):=by
 unfold mZ aK8 ixb pj3
 rw [aTd (show l.length<=68719476736 by omega)]
 simp only [aA,aP,aEo]
 cases hv:eJ x with
 | false=>rfl
 | true=>
  simp only [cBh,zY,zZ]
  rw [aY (l:=l) (aB5 x l) (by omega) (fun k y hi hd hw hm hk=>by
   have hy:l[k]? =some y:=by rw [<- aH];exact hi
   simp only [hd,zZ,fL,cBo,hy,aA,bEc,hw]
   unfold aB5
   cases y.1==x.1
   .rfl
   .cases y.2.1==x.2.1<;>rfl) (by simp)]
  cases cB (aB5 x l) 0 l with
  | some r=>rfl
  | none=>
   have e1:cC (1:Int) ((l++[x]).length:Int) ((l++[x]).length:Int)=true:=by
    have :=aEt (a:=1) (b:=(l++[x]).length) (n:=(l++[x]).length)
    rw [show ((1:Nat):Int)=1 from rfl] at this
    rw [this];simp
   have e2:=bBu (l:=l++[x]) (by simp)
   simp only [aA,cCj,aE (b:=24) (n:=l.length) (m:=1) (by decide) (by omega),zZ,bAv,e1,e2,aTd (l:=(l++[x]).drop 1) (by simp;omega)]
   by_cases c:16<l.length+1
   .have c2:(16:Int)<(l.length:Int)+1:=by omega
    simp [c,c2]
   .have c2: ¬ (16:Int)<(l.length:Int)+1:=by omega
    simp [c,c2]
theorem bX1 {l:lRv} {x:den tRv} (h:l.length<=1073741824):mX l x=some (aK8 l x):=by
 unfold mX aK8 ixb pj3
 rw [aE (b:=24) (n:=([]:lRv).length) (by decide) (by simp;omega)]
 simp only [zZ,aA,aP,aD8,cCc]
 cases hv:eJ x with
 | false=>rfl
 | true=>
  simp only [cBh,zY,zZ]
  rw [aY (l:=l) (aB5 x l) (by omega) (fun k y hi hd hw hm hk=>by
   have hy:l[k]? =some y:=by rw [<- aH];exact hi
   have hk2:decide (k<l.length)=true:=by simpa using hk
   simp only [hd,zZ,fL,cBo,hy,aA,aWt,hw,hk2]
   unfold aB5
   cases y.1==x.1
   .rfl
   .cases y.2.1==x.2.1<;>rfl) (by simp)]
  cases cB (aB5 x l) 0 l with
  | some r=>rfl
  | none=>
   have e1:cC (1:Int) ((l++[x]).length:Int) ((l++[x]).length:Int)=true:=by
    have :=aEt (a:=1) (b:=(l++[x]).length) (n:=(l++[x]).length)
    rw [show ((1:Nat):Int)=1 from rfl] at this
    rw [this];simp
   have e2:=bBu (l:=l++[x]) (by simp)
   simp only [aA,cCj,aE (b:=24) (n:=l.length) (m:=1) (by decide) (by omega),zZ,bAv,e1,e2]
   by_cases c:16<l.length+1
   .have c2:(16:Int)<(l.length:Int)+1:=by omega
    simp [c,c2]
   .have c2: ¬ (16:Int)<(l.length:Int)+1:=by omega
    simp [c,c2]
def aL2 (s:den aAt) (a:List Int):List Int:=
 (fun b=>cond (s.2.2 != 0) (b++[wr (wr (8 * s.1)+s.2.2)]) b) (cond (s.2.1 != 0) (a++[wr (wr (8 * s.1)+s.2.1)]) a)
theorem aO3 (s:den aAt) (a:List Int):(aL2 s a).length<=a.length+2:=by
 unfold aL2
 cases s.2.1 != 0<;>cases s.2.2 != 0<;>simp
def jJ (p:den tPt):List Int:=cN (fun _ s a=>aL2 s a) 0 (iM p) []
theorem aGl {α:Type} (l:List α):(l.map fun _=>2).sum=2 * l.length:=by
 induction l with
 | nil=>rfl
 | cons x l ih=>simp only [cB3,cCt,ih,cCf];omega
theorem bB3 {p:den tPt} (h:tot tPt p<=1073741824):gP p=some (jJ p):=by
 have hl:=aDa p
 unfold gP zG jJ
 rw [aUh (cBf h (by decide))]
 simp only [aA]
 rw [mY (fun k (a:List Int)=>((k:Int),a)) ((0:Int),[]) [] (iM p) (fun _ s a=>aL2 s a) cBw (fun _=>2) 68719476736 id rfl (by omega) (by rw [aGl];simp;omega) (fun k x a=>aO3 x a) (fun k x a hi hx hd hw hk hb=>by
  simp only [hd,hi,hw,zZ,aA,aE (b:=8) (n:=a.length) (m:=1) (by decide) (by omega)]
  unfold aL2
  cases x.2.1 != 0<;>cases x.2.2 != 0<;>simp [aE (b:=8) (n:=a.length) (m:=1) (by decide) (by omega),aE (b:=8) (n:=a.length+1) (m:=1) (by decide) (by omega)]) (fun a=>by simp)]
 rfl
theorem bB8 {p:den tPt} (h:tot tPt p<=1073741824):gN p=some (jJ p):=by
 have hl:=aDa p
 unfold gN jJ ixb
 rw [aGp (cBf h (by decide))]
 simp only [aA]
 rw [mY (fun k (a:List Int)=>((k:Int),a)) ((0:Int),[]) [] (iM p) (fun _ s a=>aL2 s a) cBw (fun _=>2) 68719476736 id rfl (by omega) (by rw [aGl];simp;omega) (fun k x a=>aO3 x a) (fun k x a hi hx hd hw hk hb=>by
  simp only [hd,hx,hw,zZ,aA,fL,cBo,aE (b:=8) (n:=a.length) (m:=1) (by decide) (by omega)]
  unfold aL2
  cases x.2.1 != 0<;>cases x.2.2 != 0<;>simp [aE (b:=8) (n:=a.length) (m:=1) (by decide) (by omega),aE (b:=8) (n:=a.length+1) (m:=1) (by decide) (by omega)]) (fun a=>by simp)]
 rfl
def tJ (l:List Int) (n:Int):Bool:= !(l.all fun x=> !(x==n))
theorem aY7 {l:List Int} {n:Int} (h:l.length<=68719476736):sX l n=some (tJ l n):=by
 unfold sX tJ
 rw [aY (l:=l) (fun _ x=>if !(x==n) then none else some true) (by omega) (fun k x hi hd hw hm hk=>by
  simp only [hd,hi,hw,zZ,aA]
  cases x==n<;>rfl) (by simp),mE (fun x:Int=> !(x==n))]
 cases l.all (fun x=> !(x==n))<;>rfl
theorem aHi {l:List Int} {n:Int} (h:l.length<=68719476736):fZ l n=some (tJ l n):=by
 unfold fZ tJ
 rw [aY (l:=l) (fun _ x=>if !(x==n) then none else some true) (by omega) (fun k x hi hd hw hm hk=>by
  simp only [hd,hi,hw,zZ,aA]
  cases x==n<;>rfl) (by simp),mE (fun x:Int=> !(x==n))]
 cases l.all (fun x=> !(x==n))<;>rfl
theorem aHx (p:den tPt):(jJ p).length<=2 * tot tPt p:=by
 have h:=aC6 (f:=fun _ s (a:List Int)=>aL2 s a) (m:=cBw) (cost:=fun _=>2) (fun k x a=>aO3 x a) (iM p) 0 []
 have hl:=aDa p
 rw [aGl] at h
 unfold jJ
 simp at h
 omega
def sR (p:den tPt) (x:den tRv):Bool:=eJ x&&tJ (jJ p) (wr (wr (8 * x.1)+x.2.1))
theorem bKl {p:den tPt} {x:den tRv} (h:tot tPt p<=1073741824):wM p x=some (sR p x):=by
 have :=aHx p
 unfold wM sR pj3
 simp only [aP,aEo,aA,bB3 h,aY7 (l:=jJ p) (by omega)]
 cases eJ x<;>rfl
theorem aV4 {p:den tPt} {x:den tRv} (h:tot tPt p<=1073741824):rI p x=some (sR p x):=by
 have :=aHx p
 unfold rI sR pj3
 simp only [aP,aD8,aA,bB8 h,aHi (l:=jJ p) (by omega)]
 cases eJ x<;>rfl
theorem aM1 {α R:Type} (m:R->Nat) (B:Nat) {g:Nat->α->Option R}: ∀ {l:List α} {k:Nat},(∀ j x r,l[j]? =some x->g (k+j) x=some r->m r<=B)-> ∀ r,cB g k l=some r->m r<=B
 | [],_,_,r,h=>by cases h
 | x::xs,k,hg,r,h=>by
  simp only [cB] at h
  cases hx:g k x with
  | some r'=>rw [hx] at h;injection h with h;subst h;exact hg 0 x r' rfl hx
  | none=>
   rw [hx] at h
   exact aM1 m B (fun j y r hy hr=>hg (j+1) y r (by simpa using hy) (by rw [show k+(j+1)=k+1+j by omega];exact hr)) r h
theorem bK1 (l:lRv):tot (.sl tRv) l=l.length:=by
 induction l with
 | nil=>rfl
 | cons x l ih=>rw [kH,ih];simp [tot];omega
theorem bMh (l:lRv) (x:den tRv):tot (.sl tRv) (aK8 l x)<=l.length+1:=by
 rw [bK1]
 unfold aK8
 cases eJ x with
 | false=>simp
 | true=>
  simp only [zZ]
  cases hs:cB (aB5 x l) 0 l with
  | some r=>
   refine aM1 cBw (l.length+1) (g:=aB5 x l) (l:=l) (k:=0) (fun j y r' hy hr=> ?_) r hs
   unfold aB5 at hr
   cases c1:y.1==x.1 with
   | false=>rw [c1] at hr;cases hr
   | true=>
    cases c2:y.2.1==x.2.1 with
    | false=>rw [c1,c2] at hr;cases hr
    | true=>rw [c1,c2] at hr;injection hr with hr;rw [<- hr];simp
  | none=>
   by_cases c:16<l.length+1
   .simp [c]
   .simp [c]
def aTn (f:den tFl) (x:den tRv):Bool:=inR f.2.2.2.2.2.2.1 0 ((f.2.2.2.2.2.1.length:Int) - 1)&&sR ((f.2.2.2.2.2.1[f.2.2.2.2.2.2.1.toNat]?).getD []) x
def aBx (b:List Int):den tRv:=((yJ b).1,(yJ b).2.1,(yJ b).2.2.1)
def aAr (f:den tFl) (p:den tPk):den tFl:=
 cond (p.1==3&&(yJ p.2.2.2.2.2.2.2.2.2).2.2.2)
  (f.1,f.2.1,f.2.2.1,f.2.2.2.1,f.2.2.2.2.1,f.2.2.2.2.2.1,cond (aTn f (aBx p.2.2.2.2.2.2.2.2.2)) (vW f) f.2.2.2.2.2.2.1,cond (aTn f (aBx p.2.2.2.2.2.2.2.2.2)) 0 f.2.2.2.2.2.2.2.1,aK8 f.2.2.2.2.2.2.2.2 (aBx p.2.2.2.2.2.2.2.2.2)) f
def bY0 (f:den tFl):q39:=(f.1,f.2.1,f.2.2.1,f.2.2.2.1,f.2.2.2.2.2.2.1,f.2.2.2.2.2.2.2.1,f.2.2.2.2.2.2.2.2,f.2.2.2.2.1,f.2.2.2.2.2.1)
theorem bCv {f:den tFl} (h:tot tFl f<=1073741824) (hr:inR f.2.2.2.2.2.2.1 0 ((f.2.2.2.2.2.1.length:Int) - 1)=true): ∃ q,f.2.2.2.2.2.1[f.2.2.2.2.2.2.1.toNat]? =some q/\idx f.2.2.2.2.2.1 f.2.2.2.2.2.2.1=some q/\tot tPt q<=1073741824:=by
 obtain ⟨h0,h1⟩:=bM.1 hr
 obtain ⟨q,hq⟩:=aBd h0 h1
 have ht:=aAe (t:=tPt) hq
 have hp:tot (.sl tPt) f.2.2.2.2.2.1<=1073741824:=wP (aV (aV (aV (aV (aV h)))))
 exact ⟨q,hq,aI7 h0 hq,by omega⟩
theorem bSo {f:den tFl} {p:den tPk} {now:Int} (h:tot tFl f<=1073741824) (hp:tot tPk p<=1073741824) (hb: ∀ x∈p.2.2.2.2.2.2.2.2.2,0<=x/\x<=255):jD f p now=some (qB (aAr f p)):=by
 have hf:SmB 68719476736 tFl f:=(bN h).mono (by decide)
 have hl:p.2.2.2.2.2.2.2.2.2.length<=68719476736:=cBf (dB (t:=tb) _) (cBf (aV (aV (aV (aV (aV (aV (aV (aV (aV hp))))))))) (by decide))
 have hv:f.2.2.2.2.2.2.2.2.length<=1073741824:=cBf (dB (t:=tRv) _) (aV (aV (aV (aV (aV (aV (aV (aV h))))))))
 have hn:f.2.2.2.2.2.1.length<=68719476736:=hf.2.2.2.2.2.1.1
 unfold jD aAr pj9 zz4 zz5 zz6 zz7 zz8 zz9
 simp only [aP,aNx hf,aA,bVw hb hl,lR,nI hn,bDh,bX7 hv,bne]
 cases c1:p.1==3
 .simp only [cBq,zZ,aA,cB0,zY]
 .cases c2:(yJ p.2.2.2.2.2.2.2.2.2).2.2.2
  .simp only [cBh,cBq,zZ,zY,aA,cBv]
  .simp only [cBh,zZ,zY,aA,cBv]
   unfold aTn
   cases c3:inR f.2.2.2.2.2.2.1 0 ((f.2.2.2.2.2.1.length:Int) - 1)
   .simp only [zY,aA,cB0];rfl
   .obtain ⟨q,hq,hi,ht⟩:=bCv h c3
    have ha:=bKl (p:=q) (x:=aBx p.2.2.2.2.2.2.2.2.2) ht
    have ha:wM q ((yJ p.2.2.2.2.2.2.2.2.2).1,(yJ p.2.2.2.2.2.2.2.2.2).2.1,(yJ p.2.2.2.2.2.2.2.2.2).2.2.1)=some (sR q (aBx p.2.2.2.2.2.2.2.2.2)):=ha
    simp only [zZ,hi,hq,cCe,aA,ha,cBv]
    cases sR q (aBx p.2.2.2.2.2.2.2.2.2)<;>rfl
theorem bUt {f:den tFl} {p:den tPk} {now:Int} (h:tot tFl f<=1073741824) (hp:tot tPk p<=1073741824) (hb: ∀ x∈p.2.2.2.2.2.2.2.2.2,0<=x/\x<=255):iY f p now=some (bY0 (aAr f p)):=by
 have hf:SmB 68719476736 tFl f:=(bN h).mono (by decide)
 have hl:p.2.2.2.2.2.2.2.2.2.length<=68719476736:=cBf (dB (t:=tb) _) (cBf (aV (aV (aV (aV (aV (aV (aV (aV (aV hp))))))))) (by decide))
 have hv:f.2.2.2.2.2.2.2.2.length<=1073741824:=cBf (dB (t:=tRv) _) (aV (aV (aV (aV (aV (aV (aV (aV h))))))))
 have hn:f.2.2.2.2.2.1.length<=68719476736:=hf.2.2.2.2.2.1.1
 unfold iY aAr pj3 pj9 zz4 zz5 zz6 zz7 zz8 zz9
 simp only [aP,aEm hf,aA,bYm hb hl,eR,nI hn,bX1 hv,bne]
 cases c1:p.1==3
 .simp only [cBq,zZ,aA,cB0,zY];rfl
 .cases c2:(yJ p.2.2.2.2.2.2.2.2.2).2.2.2
  .simp only [cBh,cBq,zZ,zY,aA,cBv];rfl
  .simp only [cBh,zZ,zY,aA,cBv]
   unfold aTn
   cases c3:inR f.2.2.2.2.2.2.1 0 ((f.2.2.2.2.2.1.length:Int) - 1)
   .simp only [zY,aA,cB0];rfl
   .obtain ⟨q,hq,hi,ht⟩:=bCv h c3
    have ha:=aV4 (p:=q) (x:=aBx p.2.2.2.2.2.2.2.2.2) ht
    have ha:rI q ((yJ p.2.2.2.2.2.2.2.2.2).1,(yJ p.2.2.2.2.2.2.2.2.2).2.1,(yJ p.2.2.2.2.2.2.2.2.2).2.2.1)=some (sR q (aBx p.2.2.2.2.2.2.2.2.2)):=ha
    simp only [zZ,hi,hq,cCe,aA,ha,cBv,bKj hf c3]
    cases sR q (aBx p.2.2.2.2.2.2.2.2.2)<;>rfl
theorem bLc (f:den tFl) (p:den tPk):tot tFl (aAr f p)<=tot tFl f+1:=by
 unfold aAr
 cases (p.1==3&&(yJ p.2.2.2.2.2.2.2.2.2).2.2.2)
 .simp
 .have h1:=bMh f.2.2.2.2.2.2.2.2 (aBx p.2.2.2.2.2.2.2.2.2)
  have h2:=bK1 f.2.2.2.2.2.2.2.2
  simp only [zZ,oW,qK]
  omega
def kK (h:den cM):Bool:=inR h.1 0 7&&(inR h.2.1 0 6&&(inR h.2.2.1 0 6&&(!(h.2.1==h.2.2.1)&&(inR h.2.2.2.1 0 1000000&&kV h.2.2.2.2))))
theorem aPe (h:den cM):nU h=some (kK h):=by
 unfold nU kK zz4
 simp only [lR,aGq,aA,bne]
 cases inR h.1 0 7<;>cases inR h.2.1 0 6<;>cases inR h.2.2.1 0 6<;>cases h.2.1==h.2.2.1<;>cases inR h.2.2.2.1 0 1000000<;>rfl
theorem aJ4 (h:den cM):kO h=some (kK h):=by
 unfold kO kK zz4
 simp only [eR,aEi,aA,bne]
 cases inR h.1 0 7<;>cases inR h.2.1 0 6<;>cases inR h.2.2.1 0 6<;>cases h.2.1==h.2.2.1<;>cases inR h.2.2.2.1 0 1000000<;>rfl
theorem aRb (n k:Nat):decide ((n:Int)>(k:Int))= !decide (n<=k):=by rw [cB4];simp
def aF0 (l:dP):Bool:=decide (l.length<=8)&&l.all kK
theorem bUn {l:dP} (h:l.length<=68719476736):nB l=some (aF0 l):=by
 unfold nB aF0 pj5
 rw [aY (l:=l) (fun _ x=>if kK x then none else some false) (by omega) (fun k x hi hd hw hm hk=>by
  simp only [hd,hi,hw,zZ,aA,aP,aPe]
  cases kK x<;>rfl) (by simp),mE kK]
 have e:=aRb l.length 8
 rw [show ((8:Nat):Int)=8 from rfl] at e
 rw [e]
 cases decide (l.length<=8)<;>cases l.all kK<;>rfl
def aBt (p:den tPp):Bool:=inR p.1 1 4&&(inR p.2.1 0 1000000&&(kV p.2.2.1&&aF0 p.2.2.2))
theorem bVe {p:den tSg} (h:p.2.2.length<=68719476736):uF p=some (inR p.1 0 1000000&&(kV p.2.1&&aF0 p.2.2)):=by
 unfold uF aF0 pj5
 rw [aY (l:=p.2.2) (fun _ x=>if kK x then none else some false) (by omega) (fun k x hi hd hw hm hk=>by
  simp only [hd,hi,hw,zZ,aA,aP,aJ4]
  cases kK x<;>rfl) (by simp),mE kK]
 have e:=aRb p.2.2.length 8
 rw [show ((8:Nat):Int)=8 from rfl] at e
 rw [e,eR,aEi]
 cases inR p.1 0 1000000<;>cases kV p.2.1<;>cases decide (p.2.2.length<=8)<;>cases p.2.2.all kK<;>rfl
def aG4 (p:den tPt):Bool:=decide (p.length<=3)&&p.all aBt
theorem bWf {p:den tPt} (h:SmB 68719476736 tPt p):mU p=some (aG4 p):=by
 unfold mU aG4
 rw [aY (l:=p) (fun _ x=>if aBt x then none else some false) (cBf h.1 (by decide)) (fun k x hi hd hw hm hk=>by
  have hx:=(h.2 x hm).2.2.2.1
  simp only [hd,hi,hw,zZ,aA,aP,lR,aGq,bUn hx]
  unfold aBt
  cases inR x.1 1 4<;>cases inR x.2.1 0 1000000<;>cases kV x.2.2.1<;>cases aF0 x.2.2.2<;>rfl) (by simp),mE aBt]
 have e:=aRb p.length 3
 rw [show ((3:Nat):Int)=3 from rfl] at e
 rw [e]
 cases decide (p.length<=3)<;>cases p.all aBt<;>rfl
theorem bYi {p:den tPt} (h:SmB 68719476736 tPt p):mR p=some (aG4 p):=by
 unfold mR aG4 pj3
 rw [aY (l:=p) (fun _ x=>if aBt x then none else some false) (cBf h.1 (by decide)) (fun k x hi hd hw hm hk=>by
  have hx:=(h.2 x hm).2.2.2.1
  have hs:=bVe (p:=(x.2.1,x.2.2.1,x.2.2.2)) hx
  simp only [hd,hi,hw,zZ,aA,aP,eR]
  simp only [aP] at hs
  simp only [hs,aA]
  unfold aBt
  cases inR x.1 1 4<;>cases inR x.2.1 0 1000000<;>cases kV x.2.2.1<;>cases aF0 x.2.2.2<;>rfl) (by simp),mE aBt]
 have e:=aRb p.length 3
 rw [show ((3:Nat):Int)=3 from rfl] at e
 rw [e]
 cases decide (p.length<=3)<;>cases p.all aBt<;>rfl
def aJr (x:den tPp):Bool:= !((x.2.2.2.length:Int)==0)
def gD (p:den tPk):Bool:=inR p.1 1 3&&(aG4 p.2.2.2.1&&(cI p&&(kV p.2.2.2.2.2.2.1&&(p.2.2.2.1.all aJr&&(inR p.2.1 0 7&&(inR p.2.2.1 0 7&&(inR p.2.2.2.2.2.2.2.1 0 100000&&(inR p.2.2.2.2.2.2.2.2.1 0 100000&&decide ((p.2.2.2.2.2.2.2.2.2.length:Int)<=40)))))))))
theorem bYl {p:den tPk} (h:aG4 p.2.2.2.1=true):decide (dA p<0)= !cI p:=by
 cases c:cI p with
 | false=>rw [aAz c];rfl
 | true=>
  obtain ⟨i,j,x,y,h1,h2,h3,h4,h5⟩:=aDy c
  rw [h5]
  unfold aG4 at h
  have ha:=(cBg _ _▸h:_/\_).2
  have hx:=cB5.1 ha x (cBr h3)
  unfold aBt aF0 at hx
  simp only [cBg] at hx
  have hy:=cB5.1 hx.2.2.2.2 y (cBr h4)
  unfold kK at hy
  simp only [cBg,bM] at hy
  have :=hy.1.1
  simp;omega
theorem bL9 {p:den tPk} (h:SmB 68719476736 tPk p):pR p=some (gD p):=by
 unfold pR gD aL zz6 zz7 zz8 zz9
 rw [aY (l:=p.2.2.2.1) (fun _ x=>if aJr x then none else some false) (cBf h.2.2.2.1.1 (by decide)) (fun k x hi hd hw hm hk=>by
  simp only [hd,hi,hw,zZ,aA]
  unfold aJr
  cases (x.2.2.2.length:Int)==0<;>rfl) (by simp),mE aJr]
 simp only [lR,aP,aGw h,bWf h.2.2.2.1,aGq,aA]
 cases inR p.1 1 3
 .rfl
 .cases he:aG4 p.2.2.2.1
  .rfl
  .rw [bYl he]
   cases hz:(p.2.2.2.1.length:Int)==0
   .cases cI p<;>simp only [cBh,cBq,zZ,zY,aA,cB0,cBv]
    cases kV p.2.2.2.2.2.2.1<;>simp only [cBh,cBq,zZ,zY,aA,cB0,cBv]
    cases p.2.2.2.1.all aJr<;>cases inR p.2.1 0 7<;>cases inR p.2.2.1 0 7<;>cases inR p.2.2.2.2.2.2.2.1 0 100000<;>cases inR p.2.2.2.2.2.2.2.2.1 0 100000<;>rfl
   .have hh:cI p=false:=by
     have hl:(p.2.2.2.1.length:Int)=0:=by simpa using hz
     unfold cI
     have :inR p.2.2.2.2.1 0 ((p.2.2.2.1.length:Int) - 1)=false:=by rw [bDn];omega
     rw [this];rfl
    rw [hh]
    rfl
theorem aYg {p:den tPk} (h:SmB 68719476736 tPk p):jN p=some (gD p):=by
 have l1:=h.2.2.2.1.1
 unfold jN gD zz4 zz5 zz6 zz7 zz8 zz9
 rw [aY (l:=p.2.2.2.1) (fun _ x=>if aJr x then none else some false) (cBf h.2.2.2.1.1 (by decide)) (fun k x hi hd hw hm hk=>by
  simp only [hd,hi,hw,zZ,aA]
  unfold aJr
  cases (x.2.2.2.length:Int)==0<;>rfl) (by simp),mE aJr]
 simp only [eR,nI l1,bYi h.2.2.2.1,aEi,aA]
 unfold cI
 cases inR p.1 1 3
 .rfl
 .cases he:aG4 p.2.2.2.1
  .rfl
  .cases c1:inR p.2.2.2.2.1 0 ((p.2.2.2.1.length:Int) - 1)
   .rfl
   .rw [bM] at c1
    obtain ⟨x,hx⟩:=aBd c1.1 c1.2
    have l2:=(h.2.2.2.1.2 _ (cBr hx)).2.2.2.1
    rw [aI7 c1.1 hx,hx]
    simp only [cBh,zY,aA,cCe,nI l2,cBv]
    cases kV p.2.2.2.2.2.2.1<;>cases inR p.2.2.2.2.2.1 0 ((x.2.2.2.length:Int) - 1)<;>cases p.2.2.2.1.all aJr<;>cases inR p.2.1 0 7<;>cases inR p.2.2.1 0 7<;>cases inR p.2.2.2.2.2.2.2.1 0 100000<;>cases inR p.2.2.2.2.2.2.2.2.1 0 100000<;>rfl
def aBw (a b:Int) (f:den tFl):Bool:=(f.1==a&&f.2.1==b)||(f.1==b&&f.2.1==a)
def vI (e:den kR):den tPk:=e.2.2.2.2.2
noncomputable def harm (w:den tNw) (e:den kR):Bool:=
 cond (!(e.1==7)||(!gD (vI e)||(vI e).1==3)) true (cond (w.2.2.2.2.2.1.all fun x=> !aCf x.2.2 (vI e)) (w.2.2.2.2.2.2.1.all fun f=> !aBw (vI e).2.1 (vI e).2.2.1 f) true)
theorem bLs {w:den tNw} {a b:Int} (hw:SmB 68719476736 tNw w):oX w a b=some (!(w.2.2.2.2.2.2.1.all fun f=> !aBw a b f)):=by
 unfold oX zz6
 rw [aY (l:=w.2.2.2.2.2.2.1) (fun _ f=>if !aBw a b f then none else some true) (cBf hw.2.2.2.2.2.2.1.1 (by decide)) (fun k x hi hd hw hm hk=>by
  simp only [hd,hi,hw,zZ,aA]
  unfold aBw
  cases x.1==a<;>cases x.2.1==b<;>cases x.1==b<;>cases x.2.1==a<;>rfl) (by simp),mE (fun f:den tFl=> !aBw a b f)]
 cases w.2.2.2.2.2.2.1.all (fun f=> !aBw a b f)<;>rfl
theorem bWj {w:den tNw} {e:den kR} (hw:SmB 68719476736 tNw w) (he:SmB 68719476736 kR e):qP w e=some (harm w e):=by
 have hp:SmB 68719476736 tPk (vI e):=he.2.2.2.2.2
 unfold qP harm aL cG zz5 zz6 zz7
 rw [aY (l:=w.2.2.2.2.2.1) (fun _ x=>if !aCf x.2.2 (vI e) then none else some true) (cBf hw.2.2.2.2.2.1.1 (by decide)) (fun k x hi hd hw2 hm hk=>by
  have hs:mK x.2.2 e.2.2.2.2.2=some (aCf x.2.2 (vI e)):=bS7 (hw.2.2.2.2.2.1.2 x hm).2.2 hp
  simp only [hd,hi,hw2,zZ,aA,aP,hs]
  cases aCf x.2.2 (vI e)<;>rfl) (by simp),mE (fun x:den tFy=> !aCf x.2.2 (vI e))]
 have hv:jN e.2.2.2.2.2=some (gD (vI e)):=aYg hp
 have hf:oX w e.2.2.2.2.2.2.1 e.2.2.2.2.2.2.2.1=some (!(w.2.2.2.2.2.2.1.all fun f=> !aBw (vI e).2.1 (vI e).2.2.1 f)):=bLs hw
 simp only [aP,hv,hf,aA,bne]
 show @Option.bind Bool Bool (cond (!(e.1==7)) (some true) (cond (!gD (vI e)) (some true) (cond ((vI e).1==3) (some true) _))) _=_
 cases e.1==7
 .rfl
 .cases gD (vI e)
  .rfl
  .cases (vI e).1==3
   .cases w.2.2.2.2.2.1.all (fun x=> !aCf x.2.2 (vI e))<;>cases w.2.2.2.2.2.2.1.all (fun f=> !aBw (vI e).2.1 (vI e).2.2.1 f)<;>rfl
   .rfl
abbrev aFe (l:lRs) (now:Int):lRs:=l.filter fun x=>decide (now<=x.2.2.2.2)
theorem bPr {l:lRs} {now:Int} (h:l.length<=1073741824):gK l now=some (aFe l now):=by
 unfold gK pj5 zz4
 rw [(aL9 (l:=l) (out:=fun a=>a) (fun (a:lRs) x=>if decide (now<=x.2.2.2.2) then a++[x] else a) (fun k a=>a.length<=k) (by omega) (by simp) (fun k x a hi hd hw hx hk hI=>by
  simp only [hd,hi,hw,zZ,aA]
  by_cases hp:now<=x.2.2.2.2
  .simp [hp,aE (b:=40) (n:=a.length) (m:=1) (by decide) (by omega)];omega
  .simp [hp];omega) (fun a=>by simp)).1]
 simp only [aDg,cCc,aA]
theorem bOk {l:lRs} {now:Int} (h:l.length<=1073741824):gH l now=some (aFe l now):=by
 unfold gH pj5 zz4
 rw [(aL9 (l:=l) (out:=fun a=>a) (fun (a:lRs) x=>if decide (now<=x.2.2.2.2) then a++[x] else a) (fun k a=>a.length<=k) (by omega) (by simp) (fun k x a hi hd hw hx hk hI=>by
  simp only [hd,hi,hw,zZ,aA]
  by_cases hp:now<=x.2.2.2.2
  .simp [hp,aE (b:=40) (n:=a.length) (m:=1) (by decide) (by omega)];omega
  .simp [hp];omega) (fun a=>by simp)).1]
 simp only [aDg,cCc,aA]
def atR (x:den tRs) (s d:Int):Bool:=x.2.1==s&&x.2.2.1==d
theorem bOl (x:den tRs) (s d:Int):eQ x s d=some (atR x s d):=by
 unfold eQ atR
 cases x.2.1==s<;>simp
theorem bWl (x:den tRs) (s d now:Int):aAd x s d now=some (atR x s d&&decide (now<=x.2.2.2.2)):=by
 unfold aAd atR zz4
 cases x.2.1==s<;>cases x.2.2.1==d<;>simp
def rate (l:lRs) (s d now:Int):Int:=l.foldl (fun a x=>if atR x s d&&decide (now<=x.2.2.2.2) then wr (a+x.2.2.2.1) else a) 0
theorem bKi {l:lRs} {s d now:Int} (h:l.length<=1073741824):jY l s d now=some (rate l s d now):=by
 unfold jY pj5 zz4
 rw [(aRk (l:=l) (out:=fun a=>a) (fun (a:Int) x=>if atR x s d&&decide (now<=x.2.2.2.2) then wr (a+x.2.2.2.1) else a) (fun _ _=>True) (by omega) trivial (fun k x a hi hd hw hx hk hI=>by
  refine ⟨?_,trivial⟩
  simp only [hd,hi,hw,zZ,aA]
  rw [show ((x.1,x.2.1,x.2.2.1,x.2.2.2.1,x.2.2.2.2):den tRs)=x from rfl,bOl]
  cases atR x s d<;>cases decide (now<=x.2.2.2.2)<;>rfl) (fun a=>by simp)).1]
 rfl
theorem aX5 {l:lRs} {s d now:Int} (h:l.length<=1073741824):fW l s d now=some (rate l s d now):=by
 unfold fW pj5
 rw [(aRk (l:=l) (out:=fun a=>a) (fun (a:Int) x=>if atR x s d&&decide (now<=x.2.2.2.2) then wr (a+x.2.2.2.1) else a) (fun _ _=>True) (by omega) trivial (fun k x a hi hd hw hx hk hI=>by
  refine ⟨?_,trivial⟩
  simp only [hd,hi,hw,zZ,aA]
  rw [show ((x.1,x.2.1,x.2.2.1,x.2.2.2.1,x.2.2.2.2):den tRs)=x from rfl,bWl]
  cases atR x s d<;>cases decide (now<=x.2.2.2.2)<;>rfl) (fun a=>by simp)).1]
 rfl
def free (l:lRs) (cap s d now:Int):Int:=if wr (cap - rate l s d now)>0 then wr (cap - rate l s d now) else 0
theorem bW6 {l:lRs} {cap s d now:Int} (h:l.length<=1073741824):vQ l cap s d now=some (free l cap s d now):=by
 unfold vQ
 simp only [bKi h,aA,bEc];rfl
theorem bIi {l:lRs} {cap s d now:Int} (h:l.length<=1073741824):qR l cap s d now=some (free l cap s d now):=by
 unfold qR
 simp only [aX5 h,aA,aWt];rfl
def aBz (l:lRs) (id s d now:Int):Int:=
 match cB (fun _ (x:den tRs)=>if x.1==id&&(atR x s d&&decide (now<=x.2.2.2.2)) then some x.2.2.2.1 else none) 0 l with
 | some r=>r
 | none=>0
theorem bHv {l:lRs} {id s d now:Int} (h:l.length<=1073741824):kA l id s d now=some (aBz l id s d now):=by
 unfold kA pj5 zz4
 rw [aY (l:=l) (fun _ (x:den tRs)=>if x.1==id&&(atR x s d&&decide (now<=x.2.2.2.2)) then some x.2.2.2.1 else none) (by omega) (fun k x hi hd hw hx hk=>by
  simp only [hd,hi,hw,zZ,aA]
  rw [show ((x.1,x.2.1,x.2.2.1,x.2.2.2.1,x.2.2.2.2):den tRs)=x from rfl,bOl]
  cases x.1==id<;>cases atR x s d<;>cases decide (now<=x.2.2.2.2)<;>rfl) (by simp)]
 unfold aBz
 cases cB (fun _ (x:den tRs)=>if x.1==id&&(atR x s d&&decide (now<=x.2.2.2.2)) then some x.2.2.2.1 else none) 0 l<;>rfl
theorem aUm {l:lRs} {id s d now:Int} (h:l.length<=1073741824):fQ l id s d now=some (aBz l id s d now):=by
 unfold fQ pj5
 rw [aY (l:=l) (fun _ (x:den tRs)=>if x.1==id&&(atR x s d&&decide (now<=x.2.2.2.2)) then some x.2.2.2.1 else none) (by omega) (fun k x hi hd hw hx hk=>by
  simp only [hd,hi,hw,zZ,aA]
  rw [show ((x.1,x.2.1,x.2.2.1,x.2.2.2.1,x.2.2.2.2):den tRs)=x from rfl,bWl]
  cases x.1==id<;>cases atR x s d<;>cases decide (now<=x.2.2.2.2)<;>rfl) (by simp)]
 unfold aBz
 cases cB (fun _ (x:den tRs)=>if x.1==id&&(atR x s d&&decide (now<=x.2.2.2.2)) then some x.2.2.2.1 else none) 0 l<;>rfl
def vD (x:den tRs):Bool:=inR x.1 1 100000&&(inR x.2.2.2.1 1 20&&eJ (x.2.1,x.2.2.1,x.2.2.2.2))
theorem bN4 (x:den tRs):iV x=some (vD x):=by
 unfold iV vD zz4
 simp only [lR,aEo,aA]
 cases inR x.1 1 100000<;>cases inR x.2.2.2.1 1 20<;>cases eJ (x.2.1,x.2.2.1,x.2.2.2.2)<;>rfl
theorem aXq (x:den tRs):fE x=some (vD x):=by
 unfold fE vD zz4
 simp only [eR,aD8,aA]
 cases inR x.1 1 100000<;>cases inR x.2.2.2.1 1 20<;>cases eJ (x.2.1,x.2.2.1,x.2.2.2.2)<;>rfl
def hO (x y:den tRs):Bool:=y.1==x.1&&atR y x.2.1 x.2.2.1
theorem aUq {l:lRs} {x:den tRs} (h:l.length<=1073741824):nS l x=some (l.filter fun y=> !hO x y):=by
 unfold nS pj5
 rw [(aL9 (l:=l) (out:=fun a=>a) (fun (a:lRs) y=>if !hO x y then a++[y] else a) (fun k a=>a.length<=k) (by omega) (by simp) (fun k y a hi hd hw hx hk hI=>by
  simp only [hd,hi,hw,zZ,aA]
  have hap:=aE (b:=40) (n:=a.length) (m:=1) (by decide) (by omega)
  unfold hO atR
  simp only [bne]
  cases h1:y.1==x.1<;>cases h2:y.2.1==x.2.1<;>cases h3:y.2.2.1==x.2.2.1<;>simp [hap]<;>omega) (fun a=>by simp)).1]
 simp only [aDg,cCc,aA]
def okR (l:lRs) (cap now:Int) (k:Nat) (x:den tRs):Bool:=vD x&&(!decide (rate l x.2.1 x.2.2.1 now>cap)&& !(l.take k).any (hO x))
def yK (l:lRs) (cap now:Int):Bool:=
 decide (l.length<=40)&&(cB (fun k x=>if okR l cap now k x then none else some ()) 0 l).isNone
theorem zO {α R S:Type} (p:Nat->α->Bool) (r:R) (s:S): ∀ (l:List α) (k:Nat),(cB (fun k x=>if p k x then none else some r) k l).isNone=(cB (fun k x=>if p k x then none else some s) k l).isNone/\ ∀ q,cB (fun k x=>if p k x then none else some r) k l=some q->q=r
 | [],_=>⟨rfl,fun q h=>by cases h⟩
 | x::xs,k=>by
  simp only [cB]
  cases p k x with
  | true=>simpa using zO p r s xs (k+1)
  | false=>simp
theorem bGi {α:Type} (p:Nat->α->Bool) (l:List α):(match cB (fun k x=>if p k x then none else some false) 0 l with
  | some r=>some r
  | none=>some true)=some (cB (fun k x=>if p k x then none else some ()) 0 l).isNone:=by
 obtain ⟨h1,h2⟩:=zO p false () l 0
 rw [<- h1]
 cases h:cB (fun k x=>if p k x then none else some false) 0 l with
 | none=>rfl
 | some q=>rw [h2 q h];rfl
theorem bJb {l:lRs} {cap now:Int} (h:l.length<=1073741824):hH l cap now=some (yK l cap now):=by
 unfold hH yK pj5
 by_cases hl:l.length<=40
 .rw [zW (by omega),zY,zX hl,cBv]
  rw [aY (l:=l) (fun k x=>if okR l cap now k x then none else some false) (by omega) (fun k x hi hd hw hx hk=>by
   have hslo:cC (0:Int) (k:Int) (l.length:Int)=true:=by simp [cC];omega
   have hlen:(l.take k).length<=1073741824:=by simp;omega
   simp only [hd,hi,hw,zZ,aA,hslo,iE]
   rw [show ((x.1,x.2.1,x.2.2.1,x.2.2.2.1,x.2.2.2.2):den tRs)=x from rfl,bN4,bKi h]
   unfold okR
   cases hv:vD x with
   | false=>rfl
   | true=>
    cases hr:decide (rate l x.2.1 x.2.2.1 now>cap) with
    | true=>simp [hr]
    | false=>
     simp only [aA,cBh,zY,hr,cBq,cBv]
     rw [aY (l:=l.take k) (R:=Int⊕(Unit⊕Bool)) (fun _ y=>if hO x y then some (cBc (cBc false)) else none) (by omega) (fun j y hi2 hd2 hw2 hx2 hk2=>by
      simp only [hd2,hi2,hw2,zZ,aA]
      rw [show ((y.1,y.2.1,y.2.2.1,y.2.2.2.1,y.2.2.2.2):den tRs)=y from rfl,bOl]
      unfold hO
      cases y.1==x.1<;>cases atR y x.2.1 x.2.2.1<;>rfl) (by simp)]
     have key: ∀ (m:lRs) (j:Nat),cB (fun _ y=>if hO x y then some (cBc (cBc false):Int⊕(Unit⊕Bool)) else none) j m=if m.any (hO x) then some (cBc (cBc false)) else none:=by
      intro m
      induction m with
      | nil=>intro j;rfl
      | cons y m ih=>
       intro j
       simp only [cB,List.any_cons]
       rcases cD0 (hO x y) with hs | hs
       .simp [hs]
       .simp only [hs,ih,cBj,zU]
        rfl
     rw [key]
     cases (l.take k).any (hO x)<;>simp) (by simp)]
  rw [<- bGi]
  cases cB (fun k x=>if okR l cap now k x then none else some false) 0 l<;>rfl
 .rw [zX (by omega),zZ,zW hl];rfl
theorem bKb {l:lRs} {cap now:Int} (h:l.length<=1073741824):gX l cap now=some (yK l cap now):=by
 unfold gX yK pj5
 rw [aY (l:=l) (fun k x=>if okR l cap now k x then none else some false) (by omega) (fun k x hi hd hw hx hk=>by
  have hslo:cC (0:Int) (k:Int) (l.length:Int)=true:=by simp [cC];omega
  have hlen:(l.take k).length<=1073741824:=by simp;omega
  simp only [hd,hi,hw,zZ,aA,hslo,iE]
  rw [show ((x.1,x.2.1,x.2.2.1,x.2.2.2.1,x.2.2.2.2):den tRs)=x from rfl,aXq,aUq hlen,aX5 h]
  unfold okR
  cases hv:vD x with
  | false=>rfl
  | true=>
   simp only [aA,cBh,zY,cBv]
   have hany:((((l.take k).filter fun y=> !hO x y).length:Int) != (k:Int))=(l.take k).any (hO x):=by
    have hk':(l.take k).length=k:=by simp;omega
    cases ha:(l.take k).any (hO x) with
    | false=>
     have :(l.take k).filter (fun y=> !hO x y)=l.take k:=by
      rw [List.filter_eq_self]
      intro y hy
      have :=List.any_eq_false.1 ha y hy
      simpa using this
     rw [this,hk'];simp
    | true=>
     obtain ⟨y,hy,hs⟩:=List.any_eq_true.1 ha
     have hlt:((l.take k).filter fun y=> !hO x y).length<(l.take k).length:=by
      refine Nat.lt_of_le_of_ne (cD3 ..) fun he=> ?_
      have :=(List.length_filter_eq_length_iff.1 he) y hy
      rw [hs] at this
      cases this
     rw [bne_iff_ne]
     omega
   rw [hany]
   cases (l.take k).any (hO x)<;>cases decide (rate l x.2.1 x.2.2.1 now>cap)<;>rfl) (by simp)]
 obtain ⟨h1,h2⟩:=zO (okR l cap now) false () l 0
 rw [<- h1]
 cases hsc:cB (fun k x=>if okR l cap now k x then none else some false) 0 l with
 | none=>simp;omega
 | some q=>rw [h2 q hsc];simp
def kP (id s d:Int) (x:den tUs):Bool:=x.1==id&&(x.2.1==s&&x.2.2.1==d)
def place (l:lUs) (id s d:Int):Int:=
 match cB (fun k x=>if kP id s d x then some (k:Int) else none) 0 l with
 | some i=>i
 | none=> -1
theorem aLh (l:lUs) (id s d:Int):place l id s d= -1\/ ∃ (j:Nat) (x:den tUs),place l id s d=(j:Int)/\l[j]? =some x/\j<l.length:=by
 unfold place
 cases h:cB (fun k x=>if kP id s d x then some (k:Int) else none) 0 l with
 | none=>exact .inl rfl
 | some i=>
  obtain ⟨j,x,h1,h2,h3⟩:=aPn h
  exact .inr ⟨j,x,by simpa using h2,h1,(cBm.1 h1).1⟩
theorem aTg {g:den tSc} {id s d:Int} (h:g.2.2.length<=1073741824):pN g id s d=some (place g.2.2 id s d):=by
 unfold pN
 rw [aY (l:=g.2.2) (fun k x=>if kP id s d x then some (k:Int) else none) (by omega) (fun k x hi hd hw hx hk=>by
  simp only [hd,hi,hw,zZ,aA]
  unfold kP
  cases x.1==id<;>cases x.2.1==s<;>cases x.2.2.1==d<;>rfl) (by simp)]
 unfold place
 cases cB (fun k x=>if kP id s d x then some (k:Int) else none) 0 g.2.2<;>rfl
theorem aTj {l:lUs} {id s d:Int} (h:l.length<=1073741824):nV l id s d=some (place l id s d):=by
 unfold nV
 rw [aY (l:=l) (fun k x=>if kP id s d x then some (k:Int) else none) (by omega) (fun k x hi hd hw hx hk=>by
  simp only [hd,hi,hw,zZ,aA]
  unfold kP
  cases x.1==id<;>cases x.2.1==s<;>cases x.2.2.1==d<;>rfl) (by simp)]
 unfold place
 cases cB (fun k x=>if kP id s d x then some (k:Int) else none) 0 l<;>rfl
def oZ (g:den tSc) (id s d now:Int):Int:=if id==0 then free g.2.1 g.1 s d now else aBz g.2.1 id s d now
theorem bDj {g:den tSc} {id s d now:Int} (h:g.2.1.length<=1073741824):xG g id s d now=some (oZ g id s d now):=by
 unfold xG oZ
 rw [bW6 h,bHv h]
 cases id==0<;>rfl
def okU (g:den tSc) (now:Int) (k:Nat) (x:den tUs):Bool:=place g.2.2 x.1 x.2.1 x.2.2.1==(k:Int)&&inR x.2.2.2 1 (oZ g x.1 x.2.1 x.2.2.1 now)
def aAc (g:den tSc) (now:Int):Bool:=inR g.1 1 20&&(yK g.2.1 g.1 now&&(cB (fun k x=>if okU g now k x then none else some ()) 0 g.2.2).isNone)
theorem bNe {g:den tSc} {now:Int} (h1:g.2.1.length<=1073741824) (h2:g.2.2.length<=1073741824):lV g now=some (aAc g now):=by
 unfold lV aAc pj3
 rw [aY (l:=g.2.2) (fun k x=>if okU g now k x then none else some false) (by omega) (fun k x hi hd hw hx hk=>by
  simp only [hd,hi,hw,zZ,aA]
  rw [show ((g.1,g.2.1,g.2.2):den tSc)=g from rfl,aTg h2,bDj h1]
  unfold okU
  simp only [aA,lR,bne]
  cases place g.2.2 x.1 x.2.1 x.2.2.1==(k:Int)<;>cases inR x.2.2.2 1 (oZ g x.1 x.2.1 x.2.2.1 now)<;>rfl) (by simp)]
 rw [<- zO (okU g now) false () g.2.2 0 |>.1]
 have h3:=(zO (okU g now) false () g.2.2 0).2
 simp only [lR,bJb h1,aA]
 cases inR g.1 1 20<;>cases yK g.2.1 g.1 now<;>(cases hsc:cB (fun k x=>if okU g now k x then none else some false) 0 g.2.2 with
  | none=>rfl
  | some q=>rw [h3 q hsc];rfl)
theorem bN7 {g:den tSc} {now:Int} (h1:g.2.1.length<=1073741824) (h2:g.2.2.length<=1073741824):lP g now=some (aAc g now):=by
 unfold lP aAc
 rw [aY (l:=g.2.2) (fun k x=>if okU g now k x then none else some false) (by omega) (fun k x hi hd hw hx hk=>by
  simp only [hd,hi,hw,zZ,aA,aTj h2,bIi h1,aUm h1,eR]
  unfold okU oZ
  simp only [bne]
  cases x.1==0<;>simp only [zZ,zY,aA,eR,zV,cBj,zU]<;>cases place g.2.2 x.1 x.2.1 x.2.2.1==(k:Int)<;>simp only [cBh,cBq,zZ,zY,aA,cBv,cB0]<;>(first | rfl | (split<;>simp_all))) (by simp)]
 rw [<- zO (okU g now) false () g.2.2 0 |>.1]
 have h3:=(zO (okU g now) false () g.2.2 0).2
 simp only [eR,bKb h1,aA]
 cases inR g.1 1 20<;>cases yK g.2.1 g.1 now<;>(cases hsc:cB (fun k x=>if okU g now k x then none else some false) 0 g.2.2 with
  | none=>rfl
  | some q=>rw [h3 q hsc];rfl)
theorem mH {n:Nat} (h:n<=68719476736):wr ((n:Int) - 1)=(n:Int) - 1:=wri (by omega) (by omega)
def cU (t:den tTo) (r:Int):Bool:=inR r 0 ((t.1.length:Int) - 1)
theorem aM7 {t:den tTo} {r:Int} (h:t.1.length<=68719476736):rH t r=some (cU t r):=by
 unfold rH cU
 rw [mH h,lR];rfl
theorem aCa {t:den tTo} {r:Int} (h:t.1.length<=68719476736):dD t r=some (cU t r):=by
 unfold dD cU
 rw [mH h,eR];rfl
theorem bZz (n:Int):wY n=some (inR n 1 2147483646):=by unfold wY;rw [lR];rfl
theorem bZ4 (n:Int):wV n=some (inR n 1 2147483646):=by unfold wV;rw [eR];rfl
def dG (l:den tLk) (r d:Int):Bool:=(l.1==r&&l.2.1==d)||(l.2.2.1==r&&l.2.2.2.1==d)
theorem bB9 (l:den tLk) (r d:Int):gC l r d=some (dG l r d):=by
 unfold gC dG
 cases l.1==r<;>cases l.2.1==d<;>cases l.2.2.1==r<;>cases l.2.2.2.1==d<;>rfl
theorem bDl (l:den tLk) (r d:Int):vC l r d=some (dG l r d):=by
 unfold vC dG
 cases l.1==r<;>cases l.2.1==d<;>cases l.2.2.1==r<;>cases l.2.2.2.1==d<;>rfl
def aTy (k:Int) (x y:den tAS):Bool:=cond (k==1) (x.2.1&&y.2.1) (cond (k==2) (x.1==y.1&& !y.2.1) (cond (k==3) (!x.2.1&& !y.2.1) false))
def aAu (t:den tTo) (l:den tLk):Bool:=
 cU t l.1&&(cU t l.2.2.1&&(!decide (l.1>=l.2.2.1)&&(inR l.2.1 1 6&&(inR l.2.2.2.1 1 6&&aTy l.2.2.2.2 ((t.1[l.1.toNat]?).getD (0,false,0)) ((t.1[l.2.2.1.toNat]?).getD (0,false,0))))))
theorem aGa {t:den tTo} {r:Int} (h:cU t r=true): ∃ x,t.1[r.toNat]? =some x/\idx t.1 r=some x:=by
 obtain ⟨h0,h1⟩:=bM.1 h
 obtain ⟨x,hx⟩:=aBd h0 h1
 exact ⟨x,hx,aI7 h0 hx⟩
theorem bTi {t:den tTo} {l:den tLk} (h:t.1.length<=68719476736):aA0 t l=some (aAu t l):=by
 unfold aA0 aAu pj2 pj3 zz4
 simp only [aP,aM7 h,lR,aA]
 cases c1:cU t l.1
 .rfl
 .cases c2:cU t l.2.2.1
  .rfl
  .obtain ⟨x,hx,ix⟩:=aGa c1
   obtain ⟨y,hy,iy⟩:=aGa c2
   rw [ix,iy,hx,hy]
   simp only [aS,bI,aZ,bA,bD,aA,cCe,cBh,zY,cBv]
   unfold aTy
   cases decide (l.1>=l.2.2.1)
   .cases inR l.2.1 1 6
    .rfl
    .cases inR l.2.2.2.1 1 6
     .rfl
     .cases l.2.2.2.2==1
      .cases l.2.2.2.2==2
       .cases l.2.2.2.2==3
        .rfl
        .cases x.2.1<;>rfl
       .cases x.1==y.1<;>rfl
      .cases x.2.1<;>rfl
   .rfl
theorem bCx {t:den tTo} {l:den tLk} (h:t.1.length<=68719476736):rB t l=some (aAu t l):=by
 unfold rB aAu pj2 zz4
 simp only [aP,aCa h,eR,aA]
 cases c1:cU t l.1
 .rfl
 .cases c2:cU t l.2.2.1
  .rfl
  .obtain ⟨x,hx,ix⟩:=aGa c1
   obtain ⟨y,hy,iy⟩:=aGa c2
   rw [ix,iy,hx,hy]
   simp only [aA,cCe,cBh,zY,cBv]
   unfold aTy
   cases decide (l.1>=l.2.2.1)
   .cases inR l.2.1 1 6
    .rfl
    .cases inR l.2.2.2.1 1 6
     .rfl
     .cases l.2.2.2.2==1
      .cases l.2.2.2.2==2
       .cases l.2.2.2.2==3
        .rfl
        .cases x.2.1<;>rfl
       .cases x.1==y.1<;>rfl
      .cases x.2.1<;>rfl
   .rfl
def asP (t:den tTo) (k:Nat) (x:den tAS):Bool:=inR x.1 0 2&&(inR x.2.2 1 2147483646&&(t.1.take k).all fun y=> !(x.2.2==y.2.2))
def lkP (t:den tTo) (k:Nat) (x:den tLk):Bool:=aAu t x&&(t.2.take k).all fun y=> !(dG y x.1 x.2.1||dG y x.2.2.1 x.2.2.2.1)
def aB6 (t:den tTo):Bool:=inR (t.1.length:Int) 1 8&&((t.1.zipIdx 0).all (fun z=>asP t z.2 z.1)&&(t.2.zipIdx 0).all fun z=>lkP t z.2 z.1)
theorem yV {k n:Nat} (h:k<n):cC (0:Int) (k:Int) (n:Int)=true:=by
 have :=aEt (a:=0) (b:=k) (n:=n)
 rw [show ((0:Nat):Int)=0 from rfl] at this
 rw [this];simp;omega
theorem bAe {α:Type} {l:List α} {k j:Nat} {x:α} (h:idx (l.take k) (j:Int)=some x):idx l (j:Int)=some x:=by
 rw [aH] at h ⊢
 exact (aPt h).1
theorem xH {α:Type} {l:List α} {k:Nat} (h:k<l.length):(l.take k).length=k:=by simp;omega
theorem bVp {t:den tTo} (h:SmB 68719476736 tTo t):nA t=some (aB6 t):=by
 have l1:=h.1.1
 have l2:=h.2.1
 unfold nA aB6 pj2 pj5
 rw [aY (l:=t.1) (fun k x=>if asP t k x then none else some false) (cBf l1 (by decide)) (fun k x hi hd hw hm hk=>by
  simp only [hd,hi,zZ,aA,lR,bZz,yV hk,iE,hw]
  rw [aY (l:=t.1.take k) (fun _ y=>if !(x.2.2==y.2.2) then none else some (cBc (cBc false))) (by rw [xH hk];omega) (fun j y hi hd hw hm hk=>by
   simp only [hd,hi,hw,zZ,aA]
   cases x.2.2==y.2.2<;>rfl) (by simp),mE (fun y:den tAS=> !(x.2.2==y.2.2))]
  unfold asP
  cases inR x.1 0 2<;>cases inR x.2.2 1 2147483646<;>cases (t.1.take k).all (fun y=> !(x.2.2==y.2.2))<;>rfl) (by simp),aCo (asP t)]
 rw [aY (l:=t.2) (fun k x=>if lkP t k x then none else some false) (cBf l2 (by decide)) (fun k x hi hd hw hm hk=>by
  simp only [hd,hi,zZ,aA,aP,bTi l1,yV hk,iE,hw]
  rw [aY (l:=t.2.take k) (fun _ y=>if !(dG y x.1 x.2.1||dG y x.2.2.1 x.2.2.2.1) then none else some (cBc (cBc false))) (by rw [xH hk];omega) (fun j y hi hd hw hm hk=>by
   simp only [hd,hi,hw,zZ,aA,aP,bB9]
   cases dG y x.1 x.2.1<;>cases dG y x.2.2.1 x.2.2.2.1<;>rfl) (by simp),mE (fun y:den tLk=> !(dG y x.1 x.2.1||dG y x.2.2.1 x.2.2.2.1))]
  unfold lkP
  cases aAu t x<;>cases (t.2.take k).all (fun y=> !(dG y x.1 x.2.1||dG y x.2.2.1 x.2.2.2.1))<;>rfl) (by simp),aCo (lkP t)]
 rw [lR,aA]
 cases inR (t.1.length:Int) 1 8<;>cases (t.1.zipIdx 0).all (fun z=>asP t z.2 z.1)<;>cases (t.2.zipIdx 0).all (fun z=>lkP t z.2 z.1)<;>rfl
theorem bM6 (a b:Int):(a==b)=(b==a):=by rw [cB4];simp;exact eq_comm
theorem bLb {t:den tTo} (h:SmB 68719476736 tTo t):iQ t=some (aB6 t):=by
 have l1:=h.1.1
 have l2:=h.2.1
 unfold iQ aB6 pj2 pj5
 rw [aY (l:=t.1) (fun k x=>if asP t k x then none else some false) (cBf l1 (by decide)) (fun k x hi hd hw hm hk=>by
  simp only [hd,hi,zZ,aA,eR,bZ4,hw]
  rw [aY (l:=t.1.take k) (fun _ y=>if !(x.2.2==y.2.2) then none else some (cBc (cBc false))) (by rw [xH hk];omega) (fun j y hi2 hd hw hm hk2=>by
   rw [xH hk] at hd
   simp only [hd,bAe hi2,hi,hw,zZ,aA,bM6 y.2.2 x.2.2]
   cases x.2.2==y.2.2<;>rfl) (by rw [xH hk];simp),mE (fun y:den tAS=> !(x.2.2==y.2.2))]
  unfold asP
  cases inR x.1 0 2<;>cases inR x.2.2 1 2147483646<;>cases (t.1.take k).all (fun y=> !(x.2.2==y.2.2))<;>rfl) (by simp),aCo (asP t)]
 rw [aY (l:=t.2) (fun k x=>if lkP t k x then none else some false) (cBf l2 (by decide)) (fun k x hi hd hw hm hk=>by
  simp only [hd,hi,zZ,aA,aP,bCx l1,hw]
  rw [aY (l:=t.2.take k) (fun _ y=>if !(dG y x.1 x.2.1||dG y x.2.2.1 x.2.2.2.1) then none else some (cBc (cBc false))) (by rw [xH hk];omega) (fun j y hi2 hd hw hm hk2=>by
   rw [xH hk] at hd
   simp only [hd,bAe hi2,hi,hw,zZ,aA,aP,bDl]
   cases dG y x.1 x.2.1<;>cases dG y x.2.2.1 x.2.2.2.1<;>rfl) (by rw [xH hk];simp),mE (fun y:den tLk=> !(dG y x.1 x.2.1||dG y x.2.2.1 x.2.2.2.1))]
  unfold lkP
  cases aAu t x<;>cases (t.2.take k).all (fun y=> !(dG y x.1 x.2.1||dG y x.2.2.1 x.2.2.2.1))<;>rfl) (by simp),aCo (lkP t)]
 rw [eR,aA]
 cases inR (t.1.length:Int) 1 8<;>cases (t.1.zipIdx 0).all (fun z=>asP t z.2 z.1)<;>cases (t.2.zipIdx 0).all (fun z=>lkP t z.2 z.1)<;>rfl
def xOk (x:den tIb):Bool:=inR x.1 0 7&&(inR x.2.1 0 7&&(!(x.1==x.2.1)&&((x.2.2.1==(x.2.2.2.length:Int))&&(decide (x.2.2.1<=20)&&x.2.2.2.all fun m=>decide (m.length<=40)))))
theorem bY6 (a b:Int):decide (a>b)= !decide (a<=b):=by rw [cB4];simp
theorem bYy {x:den tIb} (h:x.2.2.2.length<=68719476736):sJ x=some (xOk x):=by
 unfold sJ xOk
 rw [aY (l:=x.2.2.2) (fun _ m=>if decide (m.length<=40) then none else some false) (by omega) (fun k m hi hd hw hx hk=>by
  simp only [hd,hi,hw,zZ,aA]
  by_cases hm:m.length<=40
  .simp [hm,show ¬ ((m.length:Int)>40) by omega]
  .simp [hm,show (m.length:Int)>40 by omega]) (by simp),mE (fun m:List Int=>decide (m.length<=40))]
 simp only [lR,aA,bne,bY6]
 cases inR x.1 0 7<;>cases inR x.2.1 0 7<;>cases x.1==x.2.1<;>cases x.2.2.1==(x.2.2.2.length:Int)<;>cases decide (x.2.2.1<=20)<;>cases x.2.2.2.all (fun m=>decide (m.length<=40))<;>rfl
theorem bYx {x:den tIb} (h:x.2.2.2.length<=68719476736):rL x=some (xOk x):=by
 unfold rL xOk
 rw [aY (l:=x.2.2.2) (fun _ m=>if decide (m.length<=40) then none else some false) (by omega) (fun k m hi hd hw hx hk=>by
  simp only [hd,hi,hw,zZ,aA]
  by_cases hm:m.length<=40
  .simp [hm,show ¬ ((m.length:Int)>40) by omega]
  .simp [hm,show (m.length:Int)>40 by omega]) (by simp),mE (fun m:List Int=>decide (m.length<=40))]
 simp only [eR,aA,bne]
 cases inR x.1 0 7<;>cases inR x.2.1 0 7<;>cases x.1==x.2.1<;>cases x.2.2.1==(x.2.2.2.length:Int)<;>cases decide (x.2.2.1<=20)<;>cases x.2.2.2.all (fun m=>decide (m.length<=40))<;>rfl
theorem bUl {t:den tTo} (h:SmB 68719476736 tTo t):oH t=some t:=by
 unfold oH pj2
 simp only [aE (b:=24) (n:=([]:lAS).length) (m:=t.1.length) (by decide) (by simpa using h.1.1),aE (b:=40) (n:=([]:lLk).length) (m:=t.2.length) (by decide) (by simpa using h.2.1),zZ,aS,bI,aZ,bA,bD,aA,cCc,aP]
theorem bDm {t:den tTo} (h:SmB 68719476736 tTo t):sH t=some t:=by
 unfold sH pj2
 simp only [aE (b:=24) (n:=([]:lAS).length) (m:=t.1.length) (by decide) (by simpa using h.1.1),aE (b:=40) (n:=([]:lLk).length) (m:=t.2.length) (by decide) (by simpa using h.2.1),zZ,aS,bI,aZ,bA,bD,aA,cCc,aP]
theorem bTf {x:den tSg} (h:x.2.2.length<=68719476736):pY x=some x:=by
 unfold pY
 rw [bCl h]
 rfl
theorem aGs {x:den tSg} (h:x.2.2.length<=68719476736):gQ x=some x:=by
 unfold gQ
 rw [aE (b:=40) (n:=([]:dP).length) (by decide) (by simpa using h)]
 rfl
theorem bAb {l:lSg} (h:SmB 68719476736 (.sl tSg) l):mI l=some l:=by
 unfold mI pj3
 rw [(vE (fun k (a:lSg)=>((k:Int),a)) ((0:Int),[]) [] l (fun _ x a=>a++[x]) cBw (fun _=>1) 68719476736 id rfl (cBf h.1 (by decide)) (by rw [fM];simpa using h.1) (fun k x a hi hx hd hw hk hb=>by
  have e:=h.2 x (cBr hx)
  simp only [hd,hi,hw,zZ,aA,aP,bTf e.2.2.1,aE (b:=40) (by decide) hb]
  simp) (fun a=>by simp)).1,kE (fun x=>x)]
 simp
theorem aEb {l:lSg} (h:SmB 68719476736 (.sl tSg) l):fU l=some l:=by
 unfold fU pj3
 rw [(vE (fun k (a:lSg)=>((k:Int),a)) ((0:Int),[]) [] l (fun _ x a=>a++[x]) cBw (fun _=>1) 68719476736 id rfl (cBf h.1 (by decide)) (by rw [fM];simpa using h.1) (fun k x a hi hx hd hw hk hb=>by
  have e:=h.2 x (cBr hx)
  simp only [hd,hi,hw,zZ,aA,aP,aGs e.2.2.1,aE (b:=40) (by decide) hb]
  simp) (fun a=>by simp)).1,kE (fun x=>x)]
 simp
theorem bW4 (c:Int):fV c=some (cond (inR c 1 20) c 1,[],[]):=by
 unfold fV
 rw [eR]
 cases inR c 1 20<;>rfl
def aW3 (t:den tTo) (now:Int):Bool:=aB6 t&&inR now 0 1000000
theorem bXf {t:den tTo} {k:den tDb} {c now:Int} (ht:SmB 68719476736 tTo t) (hk:SmB 68719476736 tDb k):sD t k c now=some (cond (aW3 t now) (cond (inR c 1 20) c 1,now,0,t.1,t.2,k.1,k.2,[],[],[],[],[],[]) (0,0,0,[],[],[],[],[],[],[],[],[],[])):=by
 unfold sD aW3 pj2
 simp only [aP,bLb ht,eR,bDm ht,aEb hk.1,aEb hk.2,bW4,aA]
 cases aB6 t<;>cases inR now 0 1000000<;>rfl
def oR (a b:Int) (x:den tIb):Bool:=x.1==a&&x.2.1==b
theorem aNf {α:Type} (p:α->Bool): ∀ (l:List α) (k:Nat),cB (fun k x=>if p x then some (k:Int) else none) k l=(l.findIdx? p).map (fun i=>((k+i:Nat):Int))
 | [],_=>rfl
 | x::xs,k=>by
  simp only [cB,List.findIdx?_cons]
  cases h:p x with
  | true=>simp
  | false=>
   simp only [cBj,zU]
   rw [aNf p xs (k+1)]
   cases xs.findIdx? p with
   | none=>rfl
   | some i=>simp<;>omega
def gE (l:lIb) (a b:Int):Int:=((l.findIdx? (oR a b)).map (fun i=>((0+i:Nat):Int))).getD (-1)
theorem aS7 {l:lIb} {a b:Int} (h:l.length<=68719476736):jW l a b=some (gE l a b):=by
 unfold jW gE
 rw [aY (l:=l) (fun k x=>if oR a b x then some (k:Int) else none) (by omega) (fun k x hi hd hw hm hk=>by
  simp only [hd,hi,hw,zZ,aA]
  unfold oR
  cases x.1==a<;>cases x.2.1==b<;>rfl) (by simp),aNf (oR a b)]
 cases l.findIdx? (oR a b)<;>rfl
theorem bIy {l:lIb} {a b:Int} {k:Nat}:gE l a b=(k:Int)↔(∃ x,l[k]? =some x/\oR a b x=true)/\ ∀ j,j<k-> ∀ y,l[j]? =some y->oR a b y=false:=by
 unfold gE
 cases h:l.findIdx? (oR a b) with
 | none=>
  have hn:=List.findIdx?_eq_none_iff.1 h
  constructor
  .intro e;exfalso;revert e;simp only [Option.map_none,Option.getD_none];omega
  .rintro ⟨⟨x,hx,hp⟩,_⟩
   have :=hn x (cBr hx)
   rw [hp] at this;cases this
 | some i=>
  obtain ⟨hi,hp,hj⟩:=List.findIdx?_eq_some_iff_getElem.1 h
  simp only [Option.map_some,cCe,cB9]
  constructor
  .intro e
   have e:i=k:=by omega
   subst e
   refine ⟨⟨l[i],cBe hi,hp⟩,fun j hlt y hy=> ?_⟩
   have h2:=hj j hlt
   have h3:l[j]? =some l[j]:=cBe (by omega)
   rw [h3] at hy;injection hy with hy;subst hy
   simpa using h2
  .rintro ⟨⟨x,hx,hp2⟩,hl⟩
   have hik:i=k:=by
    rcases Nat.lt_trichotomy i k with c | c | c
    .have :=hl i c l[i] (cBe hi);rw [hp] at this;cases this
    .exact c
    .have h2:=hj k c
     obtain ⟨hk,e⟩:=cBm.1 hx
     rw [e,hp2] at h2;simp at h2
   rw [hik]
def tN (w:den tNw) (k:Nat) (f:den tFl):Bool:=match w.2.2.2.2.2.2.2.1[k]? with
 | some x=>lA f&&(cU w.1 f.1&&(cU w.1 f.2.1&&(xOk x&&aAg f x)))
 | none=>false
def qJ (f g:den tFl):Bool:=g.1==f.1&&g.2.1==f.2.1
def aCk (w:den tNw) (k:Nat) (f:den tFl):Bool:=(w.2.2.2.2.2.2.1.take k).all fun g=> !qJ f g
def aHw (w:den tNw) (k:Nat) (f:den tFl):Bool:=gE w.2.2.2.2.2.2.2.1 f.2.1 f.1==(k:Int)
theorem aPb {w:den tNw} {k:Nat} {f:den tFl} (h:tN w k f=true): ∃ x,w.2.2.2.2.2.2.2.1[k]? =some x/\x.1=f.2.1/\x.2.1=f.1:=by
 unfold tN at h
 cases hx:w.2.2.2.2.2.2.2.1[k]? with
 | none=>rw [hx] at h;cases h
 | some x=>
  rw [hx] at h
  unfold aAg at h
  simp only [cBg,beq_iff_eq] at h
  exact ⟨x,rfl,h.2.2.2.2.1,h.2.2.2.2.2.1⟩
theorem aOz {w:den tNw} (hA: ∀ k f,w.2.2.2.2.2.2.1[k]? =some f->tN w k f=true) {k:Nat} {f:den tFl} (hf:w.2.2.2.2.2.2.1[k]? =some f):aCk w k f=aHw w k f:=by
 have hk:=(cBm.1 hf).1
 rw [cB4]
 unfold aCk aHw
 rw [cB5,beq_iff_eq,bIy]
 constructor
 .intro h
  obtain ⟨x,hx,e1,e2⟩:=aPb (hA k f hf)
  refine ⟨⟨x,hx,by unfold oR;rw [e1,e2];simp⟩,fun j hj y hy=> ?_⟩
  have hg:w.2.2.2.2.2.2.1[j]? =some w.2.2.2.2.2.2.1[j]:=cBe (by omega)
  obtain ⟨x2,hx2,d1,d2⟩:=aPb (hA j _ hg)
  rw [hx2] at hy;injection hy with hy;subst hy
  have hm:w.2.2.2.2.2.2.1[j]∈w.2.2.2.2.2.2.1.take k:=cBr (i:=j) (by rw [List.getElem?_take_of_lt hj];exact hg)
  have :=h _ hm
  unfold qJ at this
  unfold oR
  rw [d1,d2]
  revert this
  generalize (w.2.2.2.2.2.2.1[j].1==f.1)=p
  generalize (w.2.2.2.2.2.2.1[j].2.1==f.2.1)=q
  cases p<;>cases q<;>simp
 .rintro ⟨_,h⟩ g hg
  obtain ⟨j,hj⟩:=List.mem_iff_getElem?.1 hg
  obtain ⟨hj1,hj2⟩:=aPt hj
  obtain ⟨x2,hx2,d1,d2⟩:=aPb (hA j g hj1)
  have :=h j hj2 x2 hx2
  unfold oR at this
  rw [d1,d2] at this
  unfold qJ
  revert this
  generalize (g.1==f.1)=p
  generalize (g.2.1==f.2.1)=q
  cases p<;>cases q<;>simp
theorem aB2 {α:Type} (p:Nat->α->Bool) (l:List α):(l.zipIdx 0).all (fun z=>p z.2 z.1)=true↔ ∀ k x,l[k]? =some x->p k x=true:=by
 rw [cB5]
 constructor
 .intro h k x hx
  exact h (x,k) (cEt.2 (by simpa using hx))
 .rintro h ⟨x,k⟩ hz
  exact h k x (by simpa using cEt.1 hz)
theorem bDx (w:den tNw):(w.2.2.2.2.2.2.1.zipIdx 0).all (fun z=>tN w z.2 z.1&&aCk w z.2 z.1)=(w.2.2.2.2.2.2.1.zipIdx 0).all (fun z=>tN w z.2 z.1&&aHw w z.2 z.1):=by
 rw [cB4,aB2 (fun k f=>tN w k f&&aCk w k f),aB2 (fun k f=>tN w k f&&aHw w k f)]
 simp only [cBg]
 constructor
 .intro h k f hf
  exact ⟨(h k f hf).1,by rw [<- aOz (fun k f hf=>(h k f hf).1) hf];exact (h k f hf).2⟩
 .intro h k f hf
  exact ⟨(h k f hf).1,by rw [aOz (fun k f hf=>(h k f hf).1) hf];exact (h k f hf).2⟩
def zD (l:List Int) (m:Nat) (k:Nat) (n:Int):Bool:=inR n 0 ((m:Int) - 1)&&(decide (k=0)|| !decide ((l[k - 1]?).getD 0>=n))
def xI (w:den tNw):Bool:=
 aB6 w.1&&(inR w.2.2.2.1 0 1000000&&(aAc w.2.2.1 w.2.2.2.1&&((w.2.2.2.2.1.zipIdx 0).all (fun z=>zD w.2.2.2.2.1 w.1.2.length z.2 z.1)&&(decide (w.2.2.2.2.2.1.length<=150)&&(decide (w.2.2.2.2.2.2.1.length<=4)&&(decide (w.2.2.2.2.2.2.2.1.length=w.2.2.2.2.2.2.1.length)&&(!decide (w.2.2.2.2.2.2.2.2<0)&&
  (w.2.2.2.2.2.1.all (fun x=>cU w.1 x.1)&&(w.2.2.2.2.2.2.1.zipIdx 0).all (fun z=>tN w z.2 z.1&&aCk w z.2 z.1)))))))))
theorem aRa (n k:Nat):decide ((n:Int)>(k:Int))= !decide (n<=k):=by rw [cB4];simp
theorem bJk (a b:Nat):((a:Int) != (b:Int))= !decide (a=b):=by rw [cB4];simp;omega
theorem aU2 {l:List Int} {k:Nat} (hk:k<l.length) (h0:0<k) (hl:l.length<=68719476736):idx l (wr ((k:Int) - 1))=some ((l[k - 1]?).getD 0):=by
 have e:wr ((k:Int) - 1)=((k - 1:Nat):Int):=by
  have :wr ((k:Int) - 1)=(k:Int) - 1:=wri (by omega) (by omega)
  rw [this];omega
 rw [e,aH,cBe (show k - 1<l.length by omega)]
 rfl
theorem bK6 {w:den tNw} (h:tot tNw w<=1073741824):jU w=some (xI w):=by
 have sm:SmB 68719476736 tNw w:=(bN h).mono (by decide)
 have sms:SmB 1073741824 tNw w:=bN h
 have lT:=sm.1.1.1
 have lL:=sm.1.2.1
 have lD:=sms.2.2.2.2.1.1
 have lQ:=sms.2.2.2.2.2.1.1
 have lF:=sms.2.2.2.2.2.2.1.1
 have lX:=sms.2.2.2.2.2.2.2.1.1
 have eT:=bVp sm.1
 have eS:=bNe (now:=w.2.2.2.1) sms.2.2.1.2.1.1 sms.2.2.1.2.2.1
 have q1:decide ((w.2.2.2.2.2.1.length:Int)>150)= !decide (w.2.2.2.2.2.1.length<=150):=aRa _ 150
 have q2:decide ((w.2.2.2.2.2.2.1.length:Int)>4)= !decide (w.2.2.2.2.2.2.1.length<=4):=aRa _ 4
 unfold jU xI pj2 pj3 pj4 pj9 zz4 zz5 zz6 zz7 zz8
 rw [q1,q2,bJk]
 simp only [aP,eT,lR,eS,aA]
 by_cases hX:w.2.2.2.2.2.2.2.1.length=w.2.2.2.2.2.2.1.length
 .rw [aY (l:=w.2.2.2.2.1) (fun k n=>if zD w.2.2.2.2.1 w.1.2.length k n then none else some false) (by omega) (fun k n hi hd hw hm hk=>by
   simp only [hd,hi,hw,zZ,aA,lR,mH lL]
   unfold zD
   cases inR n 0 ((w.1.2.length:Int) - 1)
   .rfl
   .by_cases h0:k=0
    .subst h0;rfl
    .have e1:decide ((k:Int)>0)=true:=by simp;omega
     rw [e1,aU2 hk (by omega) (by omega),zW h0]
     simp only [cBh,zY,zZ,aA,Bool.false_or,cBv]
     cases decide ((w.2.2.2.2.1[k - 1]?).getD 0>=n)<;>rfl) (by simp),aCo (zD w.2.2.2.2.1 w.1.2.length)]
  rw [aY (l:=w.2.2.2.2.2.1) (fun _ x=>if cU w.1 x.1 then none else some false) (by omega) (fun k x hi hd hw hm hk=>by
   simp only [hd,hi,hw,zZ,aA,aM7 lT]
   cases cU w.1 x.1<;>rfl) (by simp),mE (fun x:den tFy=>cU w.1 x.1)]
  rw [aY (l:=w.2.2.2.2.2.2.1) (fun k f=>if tN w k f&&aCk w k f then none else some false) (by omega) (fun k f hi hd hw hm hk=>by
   have hx:w.2.2.2.2.2.2.2.1[k]? =some w.2.2.2.2.2.2.2.1[k]:=cBe (by omega)
   have hix:idx w.2.2.2.2.2.2.2.1 (k:Int)=some w.2.2.2.2.2.2.2.1[k]:=by rw [aH];exact hx
   have fs:=sm.2.2.2.2.2.2.1.2 f hm
   have xs:=(sm.2.2.2.2.2.2.2.1.2 _ (cBr hx)).2.2.2.1
   simp only [hd,hi,zZ,aA,aM7 lT,bMg fs,hix,bYy xs,bJn fs.2.2.2.2.1.1 xs,yV hk,iE,hw]
   rw [aY (l:=w.2.2.2.2.2.2.1.take k) (fun _ g=>if !qJ f g then none else some (cBc (cBc false))) (by rw [xH hk];omega) (fun j g hi hd hw hm hk=>by
    simp only [hd,hi,hw,zZ,aA]
    unfold qJ
    cases g.1==f.1<;>cases g.2.1==f.2.1<;>rfl) (by simp),mE (fun g:den tFl=> !qJ f g)]
   unfold tN aCk
   rw [hx]
   simp only
   cases lA f<;>simp only [cBh,cBq,zZ,zY,aA,cB0,cBv,cBj,zU]
   .rfl
   cases cU w.1 f.1<;>simp only [cBh,cBq,zZ,zY,aA,cB0,cBv,cBj,zU]
   .rfl
   cases cU w.1 f.2.1<;>simp only [cBh,cBq,zZ,zY,aA,cB0,cBv,cBj,zU]
   .rfl
   cases xOk w.2.2.2.2.2.2.2.1[k]<;>simp only [cBh,cBq,zZ,zY,aA,cB0,cBv,cBj,zU]
   .rfl
   cases aAg f w.2.2.2.2.2.2.2.1[k]<;>cases (w.2.2.2.2.2.2.1.take k).all (fun g=> !qJ f g)<;>rfl) (by simp),aCo (fun k f=>tN w k f&&aCk w k f)]
  cases aB6 w.1<;>simp only [cBh,cBq,zZ,zY,aA,cB0,cBv]
  cases inR w.2.2.2.1 0 1000000<;>simp only [cBh,cBq,zZ,zY,aA,cB0,cBv]
  cases aAc w.2.2.1 w.2.2.2.1<;>simp only [cBh,cBq,zZ,zY,aA,cB0,cBv]
  cases (w.2.2.2.2.1.zipIdx 0).all (fun z=>zD w.2.2.2.2.1 w.1.2.length z.2 z.1)<;>cases decide (w.2.2.2.2.2.1.length<=150)<;>cases decide (w.2.2.2.2.2.2.1.length<=4)<;>cases decide (w.2.2.2.2.2.2.2.1.length=w.2.2.2.2.2.2.1.length)<;>cases decide (w.2.2.2.2.2.2.2.2<0)<;>cases w.2.2.2.2.2.1.all (fun x=>cU w.1 x.1)<;>cases (w.2.2.2.2.2.2.1.zipIdx 0).all (fun z=>tN w z.2 z.1&&aCk w z.2 z.1)<;>rfl
 .have e:decide (w.2.2.2.2.2.2.2.1.length=w.2.2.2.2.2.2.1.length)=false:=by simpa using hX
  rw [e]
  cases aB6 w.1
  .rfl
  .cases inR w.2.2.2.1 0 1000000
   .rfl
   .cases aAc w.2.2.1 w.2.2.2.1
    .rfl
    .cases decide (w.2.2.2.2.2.1.length<=150)<;>cases decide (w.2.2.2.2.2.2.1.length<=4)<;>simp
theorem bUe {w:den tNw} (lD:w.2.2.2.2.1.length<=1073741824) (lL:w.1.2.length<=68719476736):yS w=some ((w.2.2.2.2.1.zipIdx 0).all (fun z=>zD w.2.2.2.2.1 w.1.2.length z.2 z.1)):=by
 unfold yS zz4
 rw [aY (l:=w.2.2.2.2.1) (fun k n=>if zD w.2.2.2.2.1 w.1.2.length k n then none else some false) (by omega) (fun k n hi hd hw hm hk=>by
   simp only [hd,hi,hw,zZ,aA,eR,mH lL]
   unfold zD
   cases inR n 0 ((w.1.2.length:Int) - 1)
   .rfl
   .by_cases h0:k=0
    .subst h0;rfl
    .have e1:decide ((k:Int)>0)=true:=by simp;omega
     rw [e1,aU2 hk (by omega) (by omega),zW h0]
     simp only [cBh,zY,zZ,aA,Bool.false_or,cBv]
     cases decide ((w.2.2.2.2.1[k - 1]?).getD 0>=n)<;>rfl) (by simp),aCo (zD w.2.2.2.2.1 w.1.2.length)]
 cases (w.2.2.2.2.1.zipIdx 0).all (fun z=>zD w.2.2.2.2.1 w.1.2.length z.2 z.1)<;>rfl
theorem aZe {w:den tNw} (h:tot tNw w<=1073741824):fX w=some (xI w):=by
 have sm:SmB 68719476736 tNw w:=(bN h).mono (by decide)
 have sms:SmB 1073741824 tNw w:=bN h
 have lT:=sm.1.1.1
 have lL:=sm.1.2.1
 have lD:=sms.2.2.2.2.1.1
 have lQ:=sms.2.2.2.2.2.1.1
 have lF:=sms.2.2.2.2.2.2.1.1
 have lX:=sms.2.2.2.2.2.2.2.1.1
 have eT:=bLb sm.1
 have eS:=bN7 (now:=w.2.2.2.1) sms.2.2.1.2.1.1 sms.2.2.1.2.2.1
 have q1:decide ((w.2.2.2.2.2.1.length:Int)>150)= !decide (w.2.2.2.2.2.1.length<=150):=aRa _ 150
 have q2:decide ((w.2.2.2.2.2.2.1.length:Int)>4)= !decide (w.2.2.2.2.2.2.1.length<=4):=aRa _ 4
 unfold fX xI pj2 pj3 pj4 pj9 cG zz5 zz6 zz7 zz8
 rw [q1,q2,bJk,bDx]
 simp only [aP,eT,eR,eS,bUe lD lL,aA]
 by_cases hX:w.2.2.2.2.2.2.2.1.length=w.2.2.2.2.2.2.1.length
 .rw [aY (l:=w.2.2.2.2.2.1) (fun _ x=>if cU w.1 x.1 then none else some false) (by omega) (fun k x hi hd hw hm hk=>by
   simp only [hd,hi,hw,zZ,aA,aCa lT]
   cases cU w.1 x.1<;>rfl) (by simp),mE (fun x:den tFy=>cU w.1 x.1)]
  rw [aY (l:=w.2.2.2.2.2.2.1) (fun k f=>if tN w k f&&aHw w k f then none else some false) (by omega) (fun k f hi hd hw hm hk=>by
   have hx:w.2.2.2.2.2.2.2.1[k]? =some w.2.2.2.2.2.2.2.1[k]:=cBe (by omega)
   have hix:idx w.2.2.2.2.2.2.2.1 (k:Int)=some w.2.2.2.2.2.2.2.1[k]:=by rw [aH];exact hx
   have fs:=sm.2.2.2.2.2.2.1.2 f hm
   have xs:=(sm.2.2.2.2.2.2.2.1.2 _ (cBr hx)).2.2.2.1
   simp only [hd,hi,zZ,aA,aCa lT,aO9 fs,hix,bYx xs,bJ6 fs.2.2.2.2.1.1 xs,aS7 (l:=w.2.2.2.2.2.2.2.1) (by omega),bne,hw]
   unfold tN aHw
   rw [hx]
   simp only
   cases lA f<;>simp only [cBh,cBq,zZ,zY,aA,cB0,cBv,cBj,zU]
   cases cU w.1 f.1<;>simp only [cBh,cBq,zZ,zY,aA,cB0,cBv,cBj,zU]
   cases cU w.1 f.2.1<;>simp only [cBh,cBq,zZ,zY,aA,cB0,cBv,cBj,zU]
   cases xOk w.2.2.2.2.2.2.2.1[k]<;>simp only [cBh,cBq,zZ,zY,aA,cB0,cBv,cBj,zU]
   cases aAg f w.2.2.2.2.2.2.2.1[k]<;>cases (gE w.2.2.2.2.2.2.2.1 f.2.1 f.1==(k:Int))<;>rfl) (by simp),aCo (fun k f=>tN w k f&&aHw w k f)]
  cases aB6 w.1<;>simp only [cBh,cBq,zZ,zY,aA,cB0,cBv]
  cases inR w.2.2.2.1 0 1000000<;>simp only [cBh,cBq,zZ,zY,aA,cB0,cBv]
  cases aAc w.2.2.1 w.2.2.2.1<;>simp only [cBh,cBq,zZ,zY,aA,cB0,cBv]
  cases (w.2.2.2.2.1.zipIdx 0).all (fun z=>zD w.2.2.2.2.1 w.1.2.length z.2 z.1)<;>cases decide (w.2.2.2.2.2.1.length<=150)<;>cases decide (w.2.2.2.2.2.2.1.length<=4)<;>cases decide (w.2.2.2.2.2.2.2.1.length=w.2.2.2.2.2.2.1.length)<;>cases decide (w.2.2.2.2.2.2.2.2<0)<;>cases w.2.2.2.2.2.1.all (fun x=>cU w.1 x.1)<;>cases (w.2.2.2.2.2.2.1.zipIdx 0).all (fun z=>tN w z.2 z.1&&aHw w z.2 z.1)<;>rfl
 .have e:decide (w.2.2.2.2.2.2.2.1.length=w.2.2.2.2.2.2.1.length)=false:=by simpa using hX
  rw [e]
  cases aB6 w.1
  .rfl
  .cases inR w.2.2.2.1 0 1000000
   .rfl
   .cases aAc w.2.2.1 w.2.2.2.1
    .rfl
    .cases (w.2.2.2.2.1.zipIdx 0).all (fun z=>zD w.2.2.2.2.1 w.1.2.length z.2 z.1)<;>cases decide (w.2.2.2.2.2.1.length<=150)<;>cases decide (w.2.2.2.2.2.2.1.length<=4)<;>simp
def bO5 (n:Int):Int:=cB6 (wr ((cB6 n 2147483647)+2147483647)) 2147483647
theorem bWe (n:Int):aIb n 2147483647=some (bO5 n):=by unfold aIb;rw [lR];rfl
theorem bVu (n:Int):aH9 n 2147483647=some (bO5 n):=by unfold aH9;rw [eR];rfl
def bPq (a x:Int):Int:=cB6 (wr ((wr ((wr (a * (1000003:Int)))+bO5 x))+(11:Int))) (2147483647:Int)
def aFf (l:List Int):Int:=cN (fun _ x a=>bPq a x) 0 l 7
theorem bPn {l:List Int} (h:l.length<=68719476736):aA6 l=some (aFf l):=by
 unfold aA6 aFf
 rw [mY (fun k (a:Int)=>(a,(k:Int))) ((7:Int),(0:Int)) 7 l (fun _ x a=>bPq a x) (fun _=>0) (fun _=>0) 1 id rfl (by omega) (by rw [sum_nil];omega) (fun k x a=>by omega) (fun k x a hi hx hd hw hk hb=>by
  simp only [hd,hi,hw,zZ,aA,bWe]
  rfl) (fun a=>by simp)]
 rfl
theorem aZr {l:List Int} (h:l.length<=68719476736):xC l=some (aFf l):=by
 unfold xC aFf
 rw [mY (fun k (a:Int)=>(a,(k:Int))) ((7:Int),(0:Int)) 7 l (fun _ x a=>bPq a x) (fun _=>0) (fun _=>0) 1 id rfl (by omega) (by rw [sum_nil];omega) (fun k x a=>by omega) (fun k x a hi hx hd hw hk hb=>by
  simp only [hd,hi,hw,zZ,aA,bVu]
  rfl) (fun a=>by simp)]
 rfl
def aX7 (h:den cM) (a:List Int):List Int:=a++[h.1,h.2.1,h.2.2.1]
def aNq (x:den tPp) (a:List Int):List Int:=cN (fun _ h a=>aX7 h a) 0 x.2.2.2 (a++[x.1,x.2.1,x.2.2.1])
def aJq (p:den tPt):List Int:=cN (fun _ x a=>aNq x a) 0 p []
theorem bRt {α:Type} (c:Nat) (l:List α):(l.map fun _=>c).sum=c * l.length:=by
 induction l with
 | nil=>rfl
 | cons x l ih=>simp only [cB3,cCt,ih,cCf,Nat.mul_succ];omega
theorem aVy (x:den tPp) (a:List Int):(aNq x a).length<=a.length+(3+3 * x.2.2.2.length):=by
 have h:=aC6 (f:=fun _ h (a:List Int)=>aX7 h a) (m:=cBw) (cost:=fun _=>3) (fun k x a=>by simp [aX7]) x.2.2.2 0 (a++[x.1,x.2.1,x.2.2.1])
 rw [bRt] at h
 unfold aNq
 simp at h
 omega
theorem aMj: ∀ p:den tPt,(p.map fun x:den tPp=>3+3 * x.2.2.2.length).sum<=3 * tot tPt p
 | []=>by simp
 | x::p=>by
  have h1:=kH (t:=tPp) x p
  have h2:x.2.2.2.length<=tot tPp x:=cBf (dB (t:=cM) x.2.2.2) (by simp only [oW,qK];omega)
  have h3:=aMj p
  simp only [cB3,cCt]
  show _<=3 * tot (.sl tPp) (x::p)
  rw [h1]
  have h3:(p.map fun x:den tPp=>3+3 * x.2.2.2.length).sum<=3 * tot (.sl tPp) p:=h3
  omega
theorem bIj (p:den tPt):(aJq p).length<=3 * tot tPt p:=by
 have h:=aC6 (f:=fun _ x (a:List Int)=>aNq x a) (m:=cBw) (cost:=fun x:den tPp=>3+3 * x.2.2.2.length) (fun k x a=>aVy x a) p 0 []
 have h2:=aMj p
 unfold aJq
 simp only [cDd,cB9] at h
 omega
theorem aU0 {p:den tPt} (h:tot tPt p<=1073741824):oP p=some (aFf (aJq p)):=by
 have hl:=dB (t:=tPp) p
 have hl:p.length<=1073741824:=cBf hl h
 have hs:=aMj p
 have hd':=bIj p
 unfold oP
 rw [mY (fun k (a:List Int)=>((k:Int),a)) ((0:Int),[]) [] p (fun _ x a=>aNq x a) cBw (fun x:den tPp=>3+3 * x.2.2.2.length) 68719476736 id rfl (by omega) (by simp only [cDd];omega) (fun k x a=>aVy x a) (fun k x a hi hx hd hw hk hb=>by
  simp only [hd,hi,hw,zZ,aA,aE (b:=8) (n:=a.length) (m:=3) (by decide) (by omega)]
  rw [mY (fun k (a:List Int)=>((k:Int),a)) ((0:Int),a++[x.1,x.2.1,x.2.2.1]) (a++[x.1,x.2.1,x.2.2.1]) x.2.2.2 (fun _ h a=>aX7 h a) cBw (fun _=>3) 68719476736 id rfl (by omega) (by rw [bRt];simp;omega) (fun k h a=>by simp [aX7]) (fun k h a hi hx hd hw hk hb=>by
   simp only [hd,hi,hw,zZ,aA,aE (b:=8) (n:=a.length) (m:=3) (by decide) (by omega)]
   rfl) (fun a=>by simp)]
  rfl) (fun a=>by simp)]
 simp only [aA]
 rw [show cN (fun _ x a=>aNq x a) 0 p []=aJq p from rfl]
 simp only [id,aZr (l:=aJq p) (by omega),aA]
def aJa (a:Int×Bool) (h:den cM):Int×Bool:=cond (!a.2||decide (h.2.2.2.1<a.1)) (h.2.2.2.1,true) a
def aH4 (l:dP):Int:=(l.foldl aJa (0,false)).1
def aM8 (p:den tPt):dP:=cN (fun _ x a=>a++x.2.2.2) 0 p []
theorem aZf: ∀ (p:den tPt) (k:Nat) (a:dP),cN (fun _ (x:den tPp) a=>a++x.2.2.2) k p a=a++p.flatMap (fun x:den tPp=>x.2.2.2)
 | [],_,a=>by simp [cN]
 | x::p,k,a=>by
  simp only [cN]
  rw [aZf p (k+1)]
  simp
theorem aQ6: ∀ (p:den tPt) (k:Nat) (a:Int×Bool),cN (fun _ (x:den tPp) a=>cN (fun _ h a=>aJa a h) 0 x.2.2.2 a) k p a=(p.flatMap fun x:den tPp=>x.2.2.2).foldl aJa a
 | [],_,_=>rfl
 | x::p,k,a=>by
  simp only [cN,List.flatMap_cons,List.foldl_append]
  rw [aQ6 p (k+1),xD]
theorem aYw {p:den tPt} (h:tot tPt p<=1073741824):lB p=some (aH4 (aM8 p)):=by
 have hl:p.length<=1073741824:=cBf (dB (t:=tPp) p) h
 have hs:=aKw p
 unfold lB
 rw [mY (fun k (a:Int×Bool)=>(a.1,a.2,(k:Int))) ((0:Int),false,(0:Int)) ((0:Int),false) p (fun _ (x:den tPp) a=>cN (fun _ h a=>aJa a h) 0 x.2.2.2 a) (fun _=>0) (fun _=>0) 1 (fun a=>a.1) rfl (by omega) (by rw [sum_nil];omega) (fun k x a=>by omega) (fun k x a hi hx hd hw hk hb=>by
  have hxl:x.2.2.2.length<=1073741824:=by
   have h1:=aAe (t:=tPp) hx
   have h2:x.2.2.2.length<=tot tPp x:=cBf (dB (t:=cM) x.2.2.2) (by simp only [oW,qK];omega)
   have h3:tot (.sl tPp) p<=1073741824:=h
   omega
  simp only [hd,hi,hw,zZ,aA]
  rw [mY (fun k (a:Int×Bool)=>(a.1,a.2,(k:Int))) (a.1,a.2,(0:Int)) a x.2.2.2 (fun _ h a=>aJa a h) (fun _=>0) (fun _=>0) 1 id rfl (by omega) (by rw [sum_nil];omega) (fun k x a=>by omega) (fun k h a hi hx hd hw hk hb=>by
   simp only [hd,hi,hw,zZ,aA]
   unfold aJa
   cases ca:a.2
   .rfl
   .cases c:decide (h.2.2.2.1<a.1)<;>simp [c,ca]) (fun a=>by simp)]
  rfl) (fun a=>by simp)]
 rw [aQ6]
 unfold aH4 aM8
 rw [aZf]
 rfl
def aHk (a b:den tPt):Bool:=
 cond (((iM a).length:Int) != ((iM b).length:Int)) (decide (((iM a).length:Int)<((iM b).length:Int)))
  (cond (aH4 (aM8 a) != aH4 (aM8 b)) (decide (aH4 (aM8 a)>aH4 (aM8 b))) (decide (aFf (aJq a)<aFf (aJq b))))
theorem bM7 {a b:den tPt} (ha:tot tPt a<=1073741824) (hb:tot tPt b<=1073741824):sC a b=some (aHk a b):=by
 unfold sC nJ aHk
 simp only [aGp (p:=a) (cBf ha (by decide)),aGp (p:=b) (cBf hb (by decide)),aYw ha,aYw hb,aU0 ha,aU0 hb,aA]
 cases ((iM a).length:Int) != ((iM b).length:Int)
 .cases aH4 (aM8 a) != aH4 (aM8 b)<;>rfl
 .rfl
def aFs (x:den tPt) (out:lPt):Nat->Nat
 | 0=>0
 | k+1=>cond (aHk x ((out[k]?).getD [])) (aFs x out k) (k+1)
theorem bC5 (x:den tPt) (out:lPt): ∀ k,aFs x out k<=k
 | 0=>cBs _
 | k+1=>by
  unfold aFs
  cases aHk x ((out[k]?).getD [])
  .exact cBs _
  .exact Nat.le_succ_of_le (bC5 x out k)
theorem aVp {x:den tPt} {out:lPt} {step:Int->Option (Int⊕Int)} (hl:out.length<=68719476736)
  (h0:step 0=some (.inr 0)) (h1: ∀ k (y:den tPt),out[k]? =some y->step ((k+1:Nat):Int)=some (cond (aHk x y) (.inl (k:Int)) (.inr ((k+1:Nat):Int)))):
  ∀ k,k<=out.length->aC step (k:Int)=some ((aFs x out k:Nat):Int)
 | 0,_=>bQ h0
 | k+1,hk=>by
  have hy:out[k]? =some out[k]:=cBe (by omega)
  have hs:=h1 k _ hy
  unfold aFs
  rw [hy,cCe]
  cases hb:aHk x out[k] with
  | true=>rw [hb] at hs;rw [dW hs];exact aVp hl h0 h1 k (by omega)
  | false=>rw [hb] at hs;exact bQ hs
def aLe (x:den tPt) (out:lPt):lPt:=out.take (aFs x out out.length)++[x]++out.drop (aFs x out out.length)
theorem aX9 (x:den tPt) (out:lPt):tot (.sl tPt) (aLe x out)=tot (.sl tPt) out+(1+tot tPt x):=by
 have h:=sU (t:=tPt) (out.take (aFs x out out.length)) (out.drop (aFs x out out.length))
 rw [List.take_append_drop] at h
 unfold aLe
 rw [sU,sU,aEf]
 omega
def aHy (l:lPt):lPt:=cN (fun _ x a=>aLe x a) 0 l []
theorem bH0 (l:lPt):tot (.sl tPt) (aHy l)<=tot (.sl tPt) l:=by
 have h:=aC6 (f:=fun _ x (a:lPt)=>aLe x a) (m:=tot (.sl tPt)) (cost:=fun x=>1+tot tPt x) (fun k x a=>Nat.le_of_eq (aX9 x a)) l 0 []
 rw [aTk,aB0] at h
 unfold aHy
 omega
theorem bT5 {l:lPt} (h:tot (.sl tPt) l<=1073741824):uD l=some (aHy l):=by
 have hl:=dB (t:=tPt) l
 unfold uD aHy ixb
 rw [mY (fun k (a:lPt)=>((k:Int),a)) ((0:Int),[]) [] l (fun _ x a=>aLe x a) (tot (.sl tPt)) (fun x=>1+tot tPt x) 1073741824 id rfl (by omega) (by rw [aTk,aB0];omega) (fun k x a=>Nat.le_of_eq (aX9 x a)) (fun k x a hi hx hd hw hk hb=>by
  have ha:=dB (t:=tPt) a
  have hsm:SmB 68719476736 tPt x:=(bN (B:=1073741824) (t:=tPt) (by omega)).mono (by decide)
  simp only [hd,hi,hw,zZ,aA,aS,bI,aZ,bA,bD]
  rw [aVp (x:=x) (out:=a) (by omega) (by rfl) (fun j y hy=>by
   have hlt:=(cBm.1 hy).1
   have hty:=aAe (t:=tPt) hy
   have e1:decide (((j+1:Nat):Int)>0)=true:=by simp<;>omega
   have e2:wr (((j+1:Nat):Int) - 1)=(j:Int):=by
    have :wr (((j+1:Nat):Int) - 1)=((j+1:Nat):Int) - 1:=wri (by omega) (by omega)
    rw [this];omega
   have e3:decide ((j:Int)<(a.length:Int))=true:=by simp;omega
   simp only [e1,e2,e3,fL,zZ,cBo,hy,aA,bM7 (a:=x) (b:=y) (by omega) (by omega)]
   cases aHk x y<;>rfl) a.length (cBs _)]
  have hp:=bC5 x a a.length
  have s1:cC (0:Int) ((aFs x a a.length:Nat):Int) (a.length:Int)=true:=by
   have :=aEt (a:=0) (b:=aFs x a a.length) (n:=a.length)
   rw [show ((0:Nat):Int)=0 from rfl] at this
   rw [this];simp;omega
  have s2:cC ((aFs x a a.length:Nat):Int) (a.length:Int) (a.length:Int)=true:=by rw [aEt];simp;omega
  simp only [aA,s1,s2,zZ,iE,aZg hp,aGe hsm]
  rw [aE (b:=24) (by decide) (by simp<;>omega),aE (b:=24) (by decide) (by simp<;>omega),aE (b:=24) (by decide) (by simp<;>omega)]
  simp only [zZ,cCc,aA]
  rfl) (fun a=>by simp)]
 rfl
def aEd (l:lRv) (now:Int):lRv:=l.filter fun x=>decide (now<=x.2.2)
theorem bKd {l:lRv} {now:Int} (h:l.length<=1073741824):gZ l now=some (aEd l now):=by
 unfold gZ aEd pj3
 rw [mY (fun k (a:lRv)=>((k:Int),a)) ((0:Int),[]) [] l (fun _ x a=>if decide (now<=x.2.2)=true then a++[x] else a) cBw (fun _=>1) 68719476736 id rfl (by omega) (by rw [fM];simp;omega) (fun k x a=>by split<;>simp) (fun k x a hi hx hd hw hk hb=>by
  simp only [hd,hi,hw,zZ,aA,aP,aE (b:=24) (n:=a.length) (m:=1) (by decide) (by omega)]
  cases decide (now<=x.2.2)<;>simp) (fun a=>by simp),aDu (fun x:den tRv=>decide (now<=x.2.2))]
 simp
def aEn (l:lRv) (p:den tPt) (now:Int):Bool:= !((aEd l now).all fun x=> !sR p x)
theorem bD2 (l:lRv) (now:Int):(aEd l now).length<=l.length:=cD3 _ _
theorem bJ8 {l:lRv} {p:den tPt} {now:Int} (h:l.length<=1073741824) (hp:tot tPt p<=1073741824):vT l p now=some (aEn l p now):=by
 have ha:=bD2 l now
 unfold vT aEn ixb pj3
 rw [bKd h,aA]
 rw [aY (l:=aEd l now) (fun _ x=>if !sR p x then none else some true) (by omega) (fun k x hi hd hw hm hk=>by
  have hy:(aEd l now)[k]? =some x:=by rw [<- aH];exact hi
  simp only [hd,hy,hw,zZ,aA,fL,cBo,aP,aV4 hp]
  cases sR p x<;>rfl) (by simp),mE (fun x:den tRv=> !sR p x)]
 cases (aEd l now).all (fun x=> !sR p x)<;>rfl
def aI3 (l:lRv) (p:lPt) (now:Int):lPt:=(p.filter fun x=> !aEn l x now)++p.filter fun x=>aEn l x now
theorem bKq {l:lRv} {p:lPt} {now:Int} (h:l.length<=1073741824) (hp:tot (.sl tPt) p<=1073741824):kD l p now=some (aI3 l p now):=by
 have hl:=dB (t:=tPt) p
 unfold kD aI3
 rw [mY (fun k (a:lPt)=>((k:Int),a)) ((0:Int),[]) [] p (fun _ x a=>if (!aEn l x now)=true then a++[x] else a) cBw (fun _=>1) 68719476736 id rfl (by omega) (by rw [fM];simp;omega) (fun k x a=>by split<;>simp) (fun k x a hi hx hd hw hk hb=>by
  have ht:=aAe (t:=tPt) hx
  have hsm:SmB 68719476736 tPt x:=(bN (B:=1073741824) (t:=tPt) (by omega)).mono (by decide)
  simp only [hd,hi,hw,zZ,aA,bJ8 (l:=l) (p:=x) (now:=now) h (by omega),aGe hsm,aE (b:=24) (n:=a.length) (m:=1) (by decide) (by omega)]
  cases aEn l x now<;>simp) (fun a=>by simp),aDu (fun x:den tPt=> !aEn l x now)]
 have e:(p.filter fun x=> !aEn l x now).length<=p.length:=cD3 _ _
 simp only [id,aA,cCc]
 rw [mY (fun k (a:lPt)=>((k:Int),a)) ((0:Int),p.filter fun x=> !aEn l x now) (p.filter fun x=> !aEn l x now) p (fun _ x a=>if aEn l x now=true then a++[x] else a) cBw (fun _=>1) 68719476736 id rfl (by omega) (by rw [fM];omega) (fun k x a=>by split<;>simp) (fun k x a hi hx hd hw hk hb=>by
  have ht:=aAe (t:=tPt) hx
  have hsm:SmB 68719476736 tPt x:=(bN (B:=1073741824) (t:=tPt) (by omega)).mono (by decide)
  simp only [hd,hi,hw,zZ,aA,bJ8 (l:=l) (p:=x) (now:=now) h (by omega),aGe hsm,aE (b:=24) (n:=a.length) (m:=1) (by decide) (by omega)]
  cases aEn l x now<;>simp) (fun a=>by simp),aDu (fun x:den tPt=>aEn l x now)]
 rfl
def aN1 (f:den tFl) (p:lPt) (now:Int):lPt:=(aI3 f.2.2.2.2.2.2.2.2 (aHy p) now).take (min (aI3 f.2.2.2.2.2.2.2.2 (aHy p) now).length 24)
theorem bUd (n:Nat):(if (24:Int)<(n:Int) then (24:Int) else (n:Int))=((min n 24:Nat):Int):=by
 by_cases c:24<n
 .rw [zT (by omega),Nat.min_eq_right (by omega)];rfl
 .rw [zS (by omega),Nat.min_eq_left (by omega)]
theorem bM5 (n:Nat):cC (0:Int) ((min n 24:Nat):Int) (n:Int)=true:=by
 have :=aEt (a:=0) (b:=min n 24) (n:=n)
 rw [show ((0:Nat):Int)=0 from rfl] at this
 rw [this];simp;omega
theorem bXk {f:den tFl} {p:lPt} {now:Int} (h:tot tFl f<=1073741824) (hp:tot (.sl tPt) p<=1073741824):qU f p now=some (f.1,f.2.1,f.2.2.1,f.2.2.2.1,aN1 f p now,0,0,f.2.2.2.2.1,f.2.2.2.2.2.2.2.2):=by
 have hf:SmB 68719476736 tFl f:=(bN h).mono (by decide)
 have hv:f.2.2.2.2.2.2.2.2.length<=1073741824:=cBf (dB (t:=tRv) _) (aV (aV (aV (aV (aV (aV (aV (aV h))))))))
 have hs:=bH0 p
 unfold qU aN1 pj9 zz6 zz8
 simp only [aP,aEm hf,bT5 hp,bKq (l:=f.2.2.2.2.2.2.2.2) (p:=aHy p) (now:=now) hv (by omega),aWh,aA,bUd,bM5,zZ,iE]
 rfl
theorem bSu {l:lRs} (h:l.length<=1073741824):fB l=some l:=by
 unfold fB
 rw [aE (by decide) (by simp;omega)]
 simp
theorem bT7 {g:den tSc} (h1:g.2.1.length<=1073741824) (h2:g.2.2.length<=1073741824):fF g=some g:=by
 unfold fF
 rw [bSu h1,aA,aE (by decide) (by simp;omega)]
 simp
theorem bDa {g:den tSc} (h1:g.2.1.length<=1073741824) (h2:g.2.2.length<=1073741824):jH g=some g:=by
 unfold jH pj3
 rw [aE (b:=40) (by decide) (by simp;omega),aE (b:=32) (by decide) (by simp;omega)]
 simp [aS,bI,aZ,bA,bD]
def vG (l:lUs) (id s d:Int):Int:=if place l id s d<0 then 0 else ((l[(place l id s d).toNat]?).map (·.2.2.2)).getD 0
theorem bVb {g:den tSc} {id s d:Int} (h:g.2.2.length<=1073741824):uE g id s d=some (vG g.2.2 id s d):=by
 unfold uE vG pj3
 rw [show ((g.1,g.2.1,g.2.2):den tSc)=g from rfl,aTg h,aA]
 rcases aLh g.2.2 id s d with hp | ⟨j,x,hp,hx,hj⟩
 .rw [hp];rfl
 .rw [hp,zX (by omega),zZ,aH,hx,zS (by omega)];simp [hx]
theorem bYc {g:den tSc} {id s d:Int} (h:g.2.2.length<=1073741824):rF g id s d=some (vG g.2.2 id s d):=by
 unfold rF vG
 rw [aTj h,aA]
 rcases aLh g.2.2 id s d with hp | ⟨j,x,hp,hx,hj⟩
 .rw [hp];rfl
 .rw [hp,zW (by omega),zY,aH,hx,zS (by omega)];simp [hx]
def xT (l:lUs) (id s d:Int):lUs:=
 if place l id s d<0 then l++[(id,s,d,1)] else match l[(place l id s d).toNat]? with
  | some x=>l.set (place l id s d).toNat (x.1,x.2.1,x.2.2.1,wr (x.2.2.2+1))
  | none=>l
theorem aIi (l:lUs) (id s d:Int):(xT l id s d).length<=l.length+1:=by
 unfold xT
 split
 .simp
 .split<;>simp
theorem bW2 {g:den tSc} {id s d:Int} (h1:g.2.1.length<=1073741824) (h2:g.2.2.length<=1073741824):wL g id s d=some (g.1,g.2.1,xT g.2.2 id s d):=by
 unfold wL xT ixb pj3
 rw [show ((g.1,g.2.1,g.2.2):den tSc)=g from rfl,bDa h1 h2,aA,aTj h2,aA]
 rcases aLh g.2.2 id s d with hp | ⟨j,x,hp,hx,hj⟩
 .rw [hp,aE (b:=32) (by decide) (by omega)];rfl
 .have hd:decide ((j:Int)<(g.2.2.length:Int))=true:=by simpa using hj
  have hd2:decide (j<g.2.2.length)=true:=by simpa using hj
  have hd0:decide ((0:Int)<=(j:Int))=true:=by simp
  rw [hp,zW (show ¬ (j:Int)<0 by omega),zY,zS (by omega)]
  simp only [hd,hd0,hd2,zZ,cBo,hx,aA]
def lH (g:den tSc) (id s d now:Int):q42:=
 if vG g.2.2 id s d<oZ g id s d now then (g.1,true,g.2.1,xT g.2.2 id s d)
 else if vG g.2.2 0 s d<oZ g 0 s d now then (g.1,true,g.2.1,xT g.2.2 0 s d)
 else (g.1,false,g.2.1,g.2.2)
theorem bTl {g:den tSc} {id s d now:Int} (h1:g.2.1.length<=1073741824) (h2:g.2.2.length<=1073741824):wW g id s d now=some (lH g id s d now):=by
 unfold wW ixb pj2 pj3
 rw [show ((g.1,g.2.1,g.2.2):den tSc)=g from rfl,bT7 h1 h2,aA]
 rw [aY (l:=[id,0]) (fun _ n=>if vG g.2.2 n s d<oZ g n s d now then some (g.1,true,g.2.1,xT g.2.2 n s d) else none) (by simp) (fun k n hi hd hw hx hk=>by
  rw [aH] at hi
  have hd0:decide ((0:Int)<=(k:Int))=true:=by simp
  simp only [hd,hd0,hi,hw,zZ,aA,cBo,bVb h2,bDj h1,aTg h2]
  by_cases hu:vG g.2.2 n s d<oZ g n s d now
  .rw [zW (by omega),zY,zT hu]
   unfold xT
   rcases aLh g.2.2 n s d with hp | ⟨j,x,hp,hx,hj⟩
   .rw [hp,aE (b:=32) (by decide) (by omega)];rfl
   .have hd1:decide ((j:Int)<(g.2.2.length:Int))=true:=by simpa using hj
    have hd2:decide ((j:Int)>=0)=true:=by simp
    have hd3:decide ((0:Int)<=(j:Int))=true:=by simp
    rw [hp,zS (by omega)]
    simp only [hd1,hd2,hd3,zZ,cBo,hx,aA]
  .rw [zX (by omega),zZ,zS hu]) (by simp)]
 unfold lH
 simp only [cB]
 by_cases hu:vG g.2.2 id s d<oZ g id s d now
 .simp [hu]
 .by_cases hv:vG g.2.2 0 s d<oZ g 0 s d now<;>simp [hu,hv]
theorem aS4 {g:den tSc} {id s d now:Int} (h1:g.2.1.length<=1073741824) (h2:g.2.2.length<=1073741824):mM g id s d now=some (lH g id s d now):=by
 unfold mM lH pj2 pj3
 rw [show ((g.1,g.2.1,g.2.2):den tSc)=g from rfl]
 simp only [bYc h2,aUm h1,bIi h1,bW2 h1 h2,bDa h1 h2,aA]
 have h0:oZ g 0 s d now=free g.2.1 g.1 s d now:=rfl
 rw [h0]
 by_cases hid:id=0
 .subst hid
  rw [h0]
  by_cases hv:vG g.2.2 0 s d<free g.2.1 g.1 s d now<;>simp [hv]
 .have hr:oZ g id s d now=aBz g.2.1 id s d now:=by unfold oZ;simp [hid]
  have hne:(id != 0)=true:=by simpa using hid
  rw [hr,hne,zZ,aA]
  by_cases hu:vG g.2.2 id s d<aBz g.2.1 id s d now
  .simp [hu]
  .by_cases hv:vG g.2.2 0 s d<free g.2.1 g.1 s d now<;>simp [hu,hv]
def pB (t:den tTo) (r d:Int):Int:=
 match cB (fun k x=>if dG x r d then some (k:Int) else none) 0 t.2 with
 | some i=>i
 | none=> -1
theorem aE7 (t:den tTo) (r d:Int):pB t r d= -1\/ ∃ (j:Nat) (x:den tLk),pB t r d=(j:Int)/\t.2[j]? =some x/\dG x r d=true:=by
 unfold pB
 cases h:cB (fun k x=>if dG x r d then some (k:Int) else none) 0 t.2 with
 | none=>exact .inl rfl
 | some i=>
  obtain ⟨j,x,h1,h2,h3⟩:=aPn h
  exact .inr ⟨j,x,by simpa using h2,h1,h3⟩
theorem aPg {t:den tTo} {r d:Int} (h:t.2.length<=68719476736):lZ t r d=some (pB t r d):=by
 unfold lZ pj5
 rw [aY (l:=t.2) (fun k x=>if dG x r d then some (k:Int) else none) (by omega) (fun k x hi hd hw hx hk=>by
  simp only [hd,hi,hw,zZ,aA,bB9]
  cases dG x r d<;>rfl) (by simp)]
 unfold pB
 cases cB (fun k x=>if dG x r d then some (k:Int) else none) 0 t.2<;>rfl
theorem aP0 {t:den tTo} {r d:Int} (h:t.2.length<=68719476736):lW t r d=some (pB t r d):=by
 unfold lW pj5
 rw [aY (l:=t.2) (fun k x=>if dG x r d then some (k:Int) else none) (by omega) (fun k x hi hd hw hx hk=>by
  simp only [hd,hi,hw,zZ,aA,bDl]
  cases dG x r d<;>rfl) (by simp)]
 unfold pB
 cases cB (fun k x=>if dG x r d then some (k:Int) else none) 0 t.2<;>rfl
def bE5 (x:den tLk) (r d:Int):q28:=cond (x.1==r&&x.2.1==d) (x.2.2.1,x.2.2.2.1) (x.1,x.2.1)
def remote (t:den tTo) (r d:Int):q28:=if pB t r d<0 then (-1,0) else bE5 ((t.2[(pB t r d).toNat]?).getD (0,0,0,0,0)) r d
theorem aPs {t:den tTo} {r d:Int} (h:t.2.length<=68719476736):mB t r d=some (remote t r d):=by
 unfold mB remote pj2
 simp only [aP,aPg h,aA]
 rcases aE7 t r d with e | ⟨j,x,e,hx,he⟩
 .rw [e];rfl
 .rw [e,zW (by omega),zY,zS (by omega),aH,hx,cBo,hx,aA,cCe]
  unfold bE5
  cases x.1==r<;>cases x.2.1==d<;>rfl
theorem aEs {t:den tTo} {r d:Int} (h:t.2.length<=68719476736):eN t r d=some (remote t r d):=by
 unfold eN remote pj2
 simp only [aP,aP0 h,aA]
 rcases aE7 t r d with e | ⟨j,x,e,hx,he⟩
 .rw [e];rfl
 .rw [e,zW (by omega),zY,zS (by omega),aH,hx,cBo,hx,aA,cCe]
  unfold bE5
  cases x.1==r<;>cases x.2.1==d<;>rfl
def bD7 (x:den tLk) (r d:Int):Int:=cond (x.2.2.2.2==1) 1 (cond (x.2.2.2.2==3) 4 (cond (x.2.2.2.2==2) (cond (x.1==r&&x.2.1==d) 2 3) 0))
def aCm (t:den tTo) (r d:Int):Int:=cond (d==0) 5 (if pB t r d<0 then 0 else bD7 ((t.2[(pB t r d).toNat]?).getD (0,0,0,0,0)) r d)
theorem bT9 {t:den tTo} {r d:Int} (h:t.2.length<=68719476736):kS t r d=some (aCm t r d):=by
 unfold kS aCm pj2 zz4
 simp only [aP,aPg h,aA]
 cases d==0
 .rcases aE7 t r d with e | ⟨j,x,e,hx,he⟩
  .rw [e];rfl
  .rw [e,zW (by omega),zY,zY,zY,zS (by omega),aH,hx,cBo,hx,aA,cCe]
   unfold bD7
   rw [show (x.2.2.2.2 != 2)= !(x.2.2.2.2==2) from rfl]
   cases x.2.2.2.2==1<;>cases x.2.2.2.2==3<;>cases x.2.2.2.2==2<;>cases x.1==r<;>cases x.2.1==d<;>rfl
 .rfl
theorem aTx {t:den tTo} {r d:Int} (h:t.2.length<=68719476736):eK t r d=some (aCm t r d):=by
 unfold eK aCm pj2 zz4
 simp only [aP,aP0 h,aA]
 cases d==0
 .rcases aE7 t r d with e | ⟨j,x,e,hx,he⟩
  .rw [e];rfl
  .rw [e,zW (by omega),zY,zY,zY,zS (by omega),aH,hx,cBo,hx,aA,cCe]
   unfold bD7
   cases x.2.2.2.2==1<;>cases x.2.2.2.2==3<;>cases x.2.2.2.2==2<;>cases x.1==r<;>cases x.2.1==d<;>rfl
 .rfl
def aEe (a b:Int):Bool:=cond (a==5||a==2) (b==2||b==5||(b==1||b==3)) (cond (a==3) (b==2||b==5) (cond (a==1) (b==2||b==5||b==1) false))
theorem bKx (a b:Int):kW a b=some (aEe a b):=by
 unfold kW aEe
 cases c5:a==5<;>cases c2:a==2<;>cases a==3<;>cases a==1<;>cases b==2<;>cases b==5<;>cases b==1<;>cases b==3<;>first | rfl | (simp at c5 c2;omega)
theorem bHt (a b:Int):lG a b=some (aEe a b):=by
 unfold lG aEe
 cases c5:a==5<;>cases c2:a==2<;>cases a==3<;>cases a==1<;>cases b==2<;>cases b==5<;>cases b==1<;>cases b==3<;>first | rfl | (simp at c5 c2;omega)
def aKe (t:den tTo) (s:den aAt):Bool:=aEe (aCm t s.1 s.2.1) (aCm t s.1 s.2.2)&&(!(s.2.1==s.2.2)||s.2.1==0)
theorem bUo {t:den tTo} {s:den aAt} (h:t.2.length<=68719476736):pP t s=some (aKe t s):=by
 unfold pP aKe pj2
 simp only [aP,bT9 h,bKx,aA]
 rw [show (s.2.1 != s.2.2)= !(s.2.1==s.2.2) from rfl]
 cases aEe (aCm t s.1 s.2.1) (aCm t s.1 s.2.2)<;>cases s.2.1==s.2.2<;>cases s.2.1==0<;>rfl
theorem bUq {t:den tTo} {s:den aAt} (h:t.2.length<=68719476736):pZ t s=some (aKe t s):=by
 unfold pZ aKe pj2
 simp only [aP,aTx h,bHt,aA]
 rw [show (s.2.1 != 0)= !(s.2.1==0) from rfl]
 cases aEe (aCm t s.1 s.2.1) (aCm t s.1 s.2.2)<;>cases s.2.1==s.2.2<;>cases s.2.1==0<;>rfl
def aGb (s i:Int):Bool:=inR s 0 65535&&(inR i 0 15&&(zJ .i64 (shr .i64 s i) 1==1))
theorem aUz {i:Int} (h:inR i 0 15=true):IntKind.wrap .u64 i=i:=by
 obtain ⟨h0,h1⟩:=bM.1 h
 have :=aXo (n:=i.toNat) (by omega)
 rwa [cDm h0] at this
theorem bUg (s i:Int):vS s i=some (aGb s i):=by
 unfold vS aGb qO
 simp only [lR,aA]
 cases inR s 0 65535
 .rfl
 .cases c:inR i 0 15
  .rfl
  .rw [aUz c,zW (by have :=bM.1 c;omega)]
   rfl
theorem bT8 (s i:Int):vU s i=some (aGb s i):=by
 unfold vU aGb rE aAi
 simp only [eR,aA]
 cases inR s 0 65535
 .rfl
 .cases c:inR i 0 15
  .rfl
  .simp only [zZ,aA,zW (show ¬ i<0 by have :=bM.1 c;omega),zY,cBv]
def aLs (s i:Int):Int:=cond (inR s 0 65535&&inR i 0 15) (bOr .i64 s (shl .i64 1 i)) s
theorem bXv (s i:Int):rY s i=some (aLs s i):=by
 unfold rY aLs qO
 simp only [lR,aA]
 cases inR s 0 65535
 .rfl
 .cases c:inR i 0 15
  .rfl
  .rw [aUz c,zW (by have :=bM.1 c;omega)]
   rfl
theorem bWk (s i:Int):rS s i=some (aLs s i):=by
 unfold rS aLs rE aAi
 simp only [eR,aA]
 cases inR s 0 65535
 .rfl
 .cases c:inR i 0 15
  .rfl
  .rw [zW (by have :=bM.1 c;omega)]
   rfl
theorem bAu {α:Type} (p:α->Bool) (N:Int): ∀ (l:List α) (k:Nat),N=((k+l.length:Nat):Int)->aK3 (fun k x (_:Unit)=>if p x then .inl () else .inr (k:Int)) (fun _=>N) k l ()=((k+l.findIdx (fun x=> !p x):Nat):Int)
 | [],k,h=>by simpa [aK3] using h
 | x::xs,k,h=>by
  simp only [aK3,List.findIdx_cons]
  cases hp:p x with
  | true=>
   have :=bAu p N xs (k+1) (by rw [h];simp;omega)
   simp only [zV,this,cBh,zY]
   omega
  | false=>simp
def sK (l:List Int) (n:Int):Nat:=l.findIdx fun x=> !decide (x<n)
theorem aT8 (l:List Int) (n:Int):sK l n<=l.length:=List.findIdx_le_length
theorem aVz {l:List Int} {n:Int} {step:Int->Option (Int⊕Int)} (hl:l.length<=68719476736)
  (h: ∀ (k:Nat) (x:Int),idx l (k:Int)=some x->l[k]? =some x->decide ((k:Int)<(l.length:Int))=true->IntKind.i64.wrap ((k:Int)+1)=((k+1:Nat):Int)->step (k:Int)=some (if decide (x<n) then .inl ((k+1:Nat):Int) else .inr (k:Int)))
  (he:step (l.length:Int)=some (.inr (l.length:Int))):aC step (0:Int)=some (sK l n:Int):=by
 rw [aOd (fun k (_:Unit)=>(k:Int)) (0:Int) () l (fun k x _=>if decide (x<n) then .inl () else .inr (k:Int)) (fun _ _=>True) (fun _=>(l.length:Int)) rfl (by omega) trivial (fun k x a hi hx hd hw hk _=>by
  refine ⟨?_,fun _ _=>trivial⟩
  rw [h k x hi hx hd hw]
  cases decide (x<n)<;>rfl) (fun _ _=>he)]
 rw [bAu (fun x=>decide (x<n)) (l.length:Int) l 0 (by simp)]
 simp [sK]
def tQ (l:List Int) (n:Int):List Int:=if l[sK l n]? =some n then l else l.take (sK l n)++[n]++l.drop (sK l n)
theorem aHq (l:List Int) (n:Int):(tQ l n).length<=l.length+1:=by
 unfold tQ
 split
 .omega
 .simp;omega
theorem aGh {k n:Nat} (h:k<=n):cC (0:Int) (k:Int) (n:Int)=true:=by
 simp only [cC,cBg,zR];omega
theorem yM {k n:Nat} (h:k<=n):cC (k:Int) (n:Int) (n:Int)=true:=by
 simp only [cC,cBg,zR];omega
theorem aCy {α:Type} {l:List α} {k:Nat}:cut l (k:Int) (l.length:Int)=l.drop k:=by
 unfold cut
 rw [cBo]
 apply List.take_of_length_le
 simp
theorem bCq {l:List Int} (h:l.length<=68719476736):qX l=some l:=by
 unfold qX
 rw [aE (n:=([]:List Int).length) (by decide) (by simpa using h)];rfl
theorem aQe {l:List Int} {n:Int} {b:Bool} (hb:(l[sK l n]? =some n)=(b=true)):tQ l n=cond b l (l.take (sK l n)++[n]++l.drop (sK l n)):=by
 unfold tQ
 cases b with
 | true=>rw [zT (by rw [hb])];rfl
 | false=>rw [zS (by rw [hb];simp)];rfl
theorem aR6 {l:List Int} {n:Int} (h:l.length<=4294967296):qW l n=some (tQ l n):=by
 have hp:=aT8 l n
 unfold qW
 rw [aVz (l:=l) (n:=n) (by omega) (fun k x hi hx hd hw=>by
  simp only [hd,zZ,hi,aA,hw]
  cases decide (x<n)<;>rfl) (by simp)]
 simp only [aA,aGh hp,yM hp,iE,aCy,zZ,aS,bI,aZ,bA,bD,bCq (l:=l.take (sK l n)) (by simp;omega)]
 rw [aE (b:=8) (n:=(l.take (sK l n)).length) (m:=1) (by decide) (by simp;omega),aE (b:=8) (m:=(l.drop (sK l n)).length) (by decide) (by simp;omega)]
 by_cases hlt:sK l n<l.length
 .have hx:l[sK l n]? =some l[sK l n]:=cBe hlt
  rw [zX (by omega),zZ,aH,hx,aA,aA]
  rw [aQe (b:=l[sK l n]==n) (by rw [hx];simp)]
  cases l[sK l n]==n<;>rfl
 .rw [zW (by omega),zY,aA]
  rw [aQe (b:=false) (by rw [List.getElem?_eq_none (by omega)];simp)]
  rfl
theorem aRh {l:List Int} {n:Int} (h:l.length<=4294967296):wA l n=some (tQ l n):=by
 have hp:=aT8 l n
 unfold wA ixb
 rw [aVz (l:=l) (n:=n) (by omega) (fun k x hi hx hd hw=>by
  simp only [hd,zZ,fL,cBo,hx,aA,hw]
  cases decide (x<n)<;>rfl) (by simp)]
 simp only [aA,aGh hp,yM hp,iE,aCy,zZ,aS,bI,aZ,bA,bD,cCc,cDd]
 rw [aE (b:=8) (n:=0) (m:=(l.take (sK l n)).length) (by decide) (by simp;omega),aE (b:=8) (n:=(l.take (sK l n)).length) (m:=1) (by decide) (by simp;omega),aE (b:=8) (m:=(l.drop (sK l n)).length) (by decide) (by simp;omega)]
 by_cases hlt:sK l n<l.length
 .have hx:l[sK l n]? =some l[sK l n]:=cBe hlt
  rw [zX (by omega),zZ,fL,zZ,zZ,cBo,hx,aA,aA]
  rw [aQe (b:=l[sK l n]==n) (by rw [hx];simp)]
  cases l[sK l n]==n<;>rfl
 .rw [zW (by omega),zY,aA]
  rw [aQe (b:=false) (by rw [List.getElem?_eq_none (by omega)];simp)]
  rfl
def pA (r:Int) (x:den tLk) (a:List Int):List Int:=cond (x.2.2.1==r) (tQ (cond (x.1==r) (tQ a x.2.1) a) x.2.2.2.1) (cond (x.1==r) (tQ a x.2.1) a)
theorem aMq (r:Int) (x:den tLk) (a:List Int):(pA r x a).length<=a.length+2:=by
 unfold pA
 have h1:=aHq a x.2.1
 have h2:=aHq (tQ a x.2.1) x.2.2.2.1
 have h3:=aHq a x.2.2.2.1
 cases x.1==r<;>cases x.2.2.1==r<;>simp only [zZ,zY]<;>omega
def gT (t:den tTo) (r:Int):List Int:=cN (fun _ x a=>pA r x a) 0 t.2 []
theorem aFj (t:den tTo) (r:Int):(gT t r).length<=2 * t.2.length:=by
 have h:=aC6 (f:=fun _ x (a:List Int)=>pA r x a) (m:=cBw) (cost:=fun _=>2) (fun k x a=>aMq r x a) t.2 0 []
 rw [aGl] at h
 simpa [gT] using h
theorem bTz {t:den tTo} {r:Int} (h:t.2.length<=1073741824):rN t r=some (gT t r):=by
 unfold rN
 rw [(vE (fun k (a:List Int)=>(a,(k:Int))) ([],(0:Int)) [] t.2 (fun _ x a=>pA r x a) cBw (fun _=>2) 4294967296 id rfl (by omega) (by rw [aGl];simp;omega) (fun k x a hi hx hd hw hk hb=>by
  refine ⟨?_,aMq r x a⟩
  have h1:=aHq a x.2.1
  simp only [hd,hi,hw,zZ,aA,aR6 (l:=a) (by omega),aR6 (l:=tQ a x.2.1) (by omega)]
  unfold pA
  cases x.1==r<;>cases x.2.2.1==r<;>simp only [zZ,zY,aA,aR6 (l:=a) (by omega),aR6 (l:=tQ a x.2.1) (by omega)]) (fun a=>by simp)).1]
 rfl
theorem aNr {t:den tTo} {r:Int} (h:t.2.length<=1073741824):iL t r=some (gT t r):=by
 unfold iL
 rw [(vE (fun k (a:List Int)=>((k:Int),a)) ((0:Int),[]) [] t.2 (fun _ x a=>pA r x a) cBw (fun _=>2) 4294967296 id rfl (by omega) (by rw [aGl];simp;omega) (fun k x a hi hx hd hw hk hb=>by
  refine ⟨?_,aMq r x a⟩
  have h1:=aHq a x.2.1
  simp only [hd,hi,hw,zZ,aA,aRh (l:=a) (by omega),aRh (l:=tQ a x.2.1) (by omega)]
  unfold pA
  cases x.1==r<;>cases x.2.2.1==r<;>simp only [zZ,zY,aA,aRh (l:=a) (by omega),aRh (l:=tQ a x.2.1) (by omega)]) (fun a=>by simp)).1]
 rfl
theorem aLf {α:Type} (l:List α):(l.map fun _=>0).sum=0:=by
 induction l with
 | nil=>rfl
 | cons x l ih=>rw [cB3,cCt,ih]
def jS (t:den tTo) (dead:List Int) (r:Int):Int:=cN (fun _ x a=>cond (tJ dead (pB t r x)) (aLs a x) a) 0 (gT t r) 0
theorem aS1 {t:den tTo} {dead:List Int} {r:Int} (h:t.2.length<=1073741824) (hd:dead.length<=68719476736):dE t dead r=some (jS t dead r):=by
 have hl:=aFj t r
 unfold dE pj2
 simp only [aP,bTz h,aA]
 rw [mY (fun k (a:Int)=>(a,(k:Int))) ((0:Int),(0:Int)) 0 (gT t r) (fun _ x a=>cond (tJ dead (pB t r x)) (aLs a x) a) (fun _=>0) (fun _=>0) 0 id rfl (by omega) (by rw [aLf];exact cBs _) (fun _ _ _=>cBs _) (fun k x a hi hx hd' hw hk hb=>by
  simp only [hd',hi,hw,zZ,aA,aPg (t:=t) (r:=r) (d:=x) (by omega),aY7 hd,bXv]
  cases tJ dead (pB t r x)<;>rfl) (fun a=>by simp)]
 rfl
theorem aUf {t:den tTo} {dead:List Int} {r:Int} (h:t.2.length<=1073741824) (hd:dead.length<=68719476736):cO t dead r=some (jS t dead r):=by
 have hl:=aFj t r
 unfold cO ixb pj2
 simp only [aP,aNr h,aA]
 rw [mY (fun k (a:Int)=>(a,(k:Int))) ((0:Int),(0:Int)) 0 (gT t r) (fun _ x a=>cond (tJ dead (pB t r x)) (aLs a x) a) (fun _=>0) (fun _=>0) 0 id rfl (by omega) (by rw [aLf];exact cBs _) (fun _ _ _=>cBs _) (fun k x a hi hx hd' hw hk hb=>by
  simp only [hd',fL,cBo,hx,hw,zZ,aA,aP0 (t:=t) (r:=r) (d:=x) (by omega),aHi hd,bWk]
  cases tJ dead (pB t r x)<;>rfl) (fun a=>by simp)]
 rfl
def aI2 (key ts beta:Int) (h:den cM):Int:=aFf (([key]++[ts,beta,h.1,h.2.1,h.2.2.1,h.2.2.2.1])++[key])
theorem bW3 (key ts beta:Int) (h:den cM):aBh key ts beta h=some (aI2 key ts beta h):=by
 unfold aBh uY aI2
 rw [aE (b:=8) (n:=[key].length) (by decide) (by simp),aE (b:=8) (by decide) (by simp),bPn (by simp)]
 rfl
theorem bJu (key ts beta:Int) (h:den cM):xO key ts beta h=some (aI2 key ts beta h):=by
 unfold xO vA aI2
 rw [aE (b:=8) (n:=[key].length) (by decide) (by simp),aE (b:=8) (by decide) (by simp),aZr (by simp)]
 rfl
def h0:den cM:=(0,0,0,0,0)
def bHe (t:den tTo) (r:Int):Int:=((t.1[r.toNat]?).getD (0,false,0)).2.2
def aEg (t:den tTo) (ts beta:Int) (h:den cM):Bool:=kK h&&(cU t h.1&&(h.2.2.2.2==aI2 (bHe t h.1) ts beta h))
theorem bJp {t:den tTo} {ts beta:Int} {h:den cM} (ht:t.1.length<=68719476736):uT t ts beta h=some (aEg t ts beta h):=by
 unfold uT aEg pj2 pj5 zz4
 simp only [aP,aPe,aM7 ht,aA,bW3]
 cases kK h
 .rfl
 .cases c:cU t h.1
  .rfl
  .obtain ⟨x,hx,ix⟩:=aGa c
   rw [ix,bHe,hx]
   rfl
theorem aX6 {t:den tTo} {ts beta:Int} {h:den cM} (ht:t.1.length<=68719476736):gR t ts beta h=some (aEg t ts beta h):=by
 unfold gR aEg pj2 pj5 zz4
 simp only [aP,aJ4,aCa ht,aA,bJu]
 cases kK h
 .rfl
 .cases c:cU t h.1
  .rfl
  .obtain ⟨x,hx,ix⟩:=aGa c
   rw [ix,bHe,hx]
   rfl
def aFr (t:den tTo) (l:dP) (k:Nat) (x:den cM):Bool:=kK x&&(cU t x.1&&(l.take k).all fun y=> !(y.1==x.1))
def aJ7 (t:den tTo) (l:dP):Bool:=(l.zipIdx 0).all fun z=>aFr t l z.2 z.1
theorem bSs {t:den tTo} {l:dP} (ht:t.1.length<=68719476736) (hl:l.length<=68719476736):aA5 t l=some (inR (l.length:Int) 1 8&&aJ7 t l):=by
 unfold aA5 aJ7 pj2 pj5
 rw [aY (l:=l) (fun k x=>if aFr t l k x then none else some false) (by omega) (fun k x hi hd hw hm hk=>by
  simp only [hd,hi,zZ,aA,aP,aPe,aM7 ht,yV hk,iE,hw]
  rw [aY (l:=l.take k) (fun _ y=>if !(y.1==x.1) then none else some (cBc (cBc false))) (by rw [xH hk];omega) (fun j y hi hd hw hm hk=>by
   simp only [hd,hi,hw,zZ,aA]
   cases y.1==x.1<;>rfl) (by simp),mE (fun y:den cM=> !(y.1==x.1))]
  unfold aFr
  cases kK x<;>cases cU t x.1<;>cases (l.take k).all (fun y=> !(y.1==x.1))<;>rfl) (by simp),aCo (aFr t l)]
 rw [lR,aA]
 cases inR (l.length:Int) 1 8<;>cases (l.zipIdx 0).all (fun z=>aFr t l z.2 z.1)<;>rfl
def aKd (t:den tTo) (p:den tPp) (x y:den cM):Bool:= !(pEg p x==0)&&((remote t x.1 (pEg p x)).1==y.1&&(remote t x.1 (pEg p x)).2==pIn p y)
def zF (t:den tTo) (p:den tPp) (k:Nat) (y:den cM):Bool:=decide (k=0)||aKd t p ((p.2.2.2[k - 1]?).getD h0) y
def sP (t:den tTo) (p:den tPp):Bool:=
 inR (p.2.2.2.length:Int) 1 8&&(inR p.1 1 4&&(inR p.2.1 0 1000000&&(kV p.2.2.1&&(aJ7 t p.2.2.2&&(p.2.2.2.zipIdx 0).all fun z=>zF t p z.2 z.1))))
theorem bPu (t:den tTo) (p:den tPp):((p.2.2.2.drop 1).zipIdx 0).all (fun z=>aKd t p ((p.2.2.2[z.2]?).getD h0) z.1)=(p.2.2.2.zipIdx 0).all (fun z=>zF t p z.2 z.1):=by
 rw [cB4,aB2 (fun k x=>aKd t p ((p.2.2.2[k]?).getD h0) x),aB2 (zF t p)]
 constructor
 .intro h k x hx
  cases k with
  | zero=>rfl
  | succ k=>
   have :=h k x (by rw [cC6,Nat.add_comm];exact hx)
   simpa [zF] using this
 .intro h k x hx
  rw [cC6,Nat.add_comm] at hx
  have :=h (k+1) x hx
  simpa [zF] using this
theorem aFd (a b:Int):(a != b)= !(a==b):=rfl
theorem bLf {t:den tTo} {p:den tPp} (ht:t.1.length<=68719476736) (ht2:t.2.length<=68719476736) (hl:p.2.2.2.length<=68719476736):tV t p=some (sP t p):=by
 unfold tV sP pj2 pj4
 rw [aY (l:=p.2.2.2.drop 1) (fun k y=>if aKd t p ((p.2.2.2[k]?).getD h0) y then none else some false) (by rw [cDl];omega) (fun k y hi hd hw hm hk=>by
  have hy:p.2.2.2[k+1]? =some y:=by rw [aH,cC6,Nat.add_comm] at hi;exact hi
  have hlt:k+1<p.2.2.2.length:=(cBm.1 hy).1
  obtain ⟨x,hx⟩: ∃ x,p.2.2.2[k]? =some x:=⟨_,cBe (by omega)⟩
  have hd':decide ((k:Int)<wr ((p.2.2.2.length:Int) - 1))=true:=by rw [mH hl];simp;omega
  have hy':idx p.2.2.2 ((k+1:Nat):Int)=some y:=by rw [aH];exact hy
  simp only [hd',zZ,aP,bEv hx hl,aA,aH,hx,hw,hy,bG6 hy hl,aPs ht2,cCe,aFd]
  unfold aKd
  cases pEg p x==0<;>cases (remote t x.1 (pEg p x)).1==y.1<;>cases (remote t x.1 (pEg p x)).2==pIn p y<;>rfl) (by
   rw [cDl,mH hl,zW (by omega)];rfl),aCo (fun k y=>aKd t p ((p.2.2.2[k]?).getD h0) y),bPu]
 simp only [aP,lR,bSs ht hl,aGq,aA]
 cases inR (p.2.2.2.length:Int) 1 8<;>cases inR p.1 1 4<;>cases inR p.2.1 0 1000000<;>cases kV p.2.2.1<;>cases aJ7 t p.2.2.2<;>cases (p.2.2.2.zipIdx 0).all (fun z=>zF t p z.2 z.1)<;>rfl
theorem aEv {α S:Type} (p:Nat->α->Bool) (o r:S): ∀ (l:List α) (k:Nat),aK3 (fun k x (_:Unit)=>if p k x then .inl () else .inr r) (fun _=>o) k l ()=if (l.zipIdx k).all (fun z=>p z.2 z.1) then o else r
 | [],_=>rfl
 | x::xs,k=>by
  simp only [aK3,List.zipIdx_cons,List.all_cons]
  rcases cD0 (p k x) with h | h
  .simp only [h,zV,cBv];exact aEv p o r xs (k+1)
  .simp [h]
theorem bMa {p:den tPp} (hl:p.2.2.2.length<=68719476736):tZ p=some (p.2.2.2.map (·.1)):=by
 unfold tZ
 rw [(vE (fun k (a:List Int)=>((k:Int),a)) ((0:Int),[]) [] p.2.2.2 (fun _ x a=>a++[x.1]) cBw (fun _=>1) 68719476736 id rfl (by omega) (by rw [fM];simpa using hl) (fun k x a hi hx hd hw hk hb=>by
  simp only [hd,hi,hw,zZ,aA,aE (b:=8) (by decide) hb]
  simp) (fun a=>by simp)).1,kE (fun x:den cM=>x.1)]
 simp
theorem bL1 (l:dP) (k:Nat) (n:Int):tJ ((l.map (·.1)).take k) n= !((l.take k).all fun y=> !(y.1==n)):=by
 unfold tJ
 rw [<- List.map_take,List.all_map]
 rfl
theorem bJd {t:den tTo} {p:den tPp} (ht:t.1.length<=68719476736) (ht2:t.2.length<=68719476736) (hl:p.2.2.2.length<=68719476736):uG t p=some (sP t p):=by
 unfold uG sP pj2 pj4 pj5
 simp only [aP,bMa hl,aA]
 have hR:(p.2.2.2.map (·.1)).length=p.2.2.2.length:=by simp
 rw [aOd (fun k (_:Unit)=>(p.2.2.2.map (·.1),(k:Int))) (p.2.2.2.map (·.1),(0:Int)) () p.2.2.2 (fun k x _=>if (aFr t p.2.2.2 k x&&zF t p k x) then .inl () else .inr (.inr false)) (fun _ _=>True) (fun _=> .inl ()) rfl (by omega) trivial (fun k x a hi hx hd hw hk _=>by
  refine ⟨?_,fun _ _=>trivial⟩
  have hr:(p.2.2.2.map (·.1))[k]? =some x.1:=by rw [cDv,hx];rfl
  have hs:cC (0:Int) (k:Int) ((p.2.2.2.map (·.1)).length:Int)=true:=by rw [hR];exact yV hk
  have hh:fZ ((p.2.2.2.map (·.1)).take k) x.1=some (!((p.2.2.2.take k).all fun y=> !(y.1==x.1))):=by
   rw [aHi (by simp;omega),bL1]
  simp only [hd,zZ,hi,aH,hr,aA,aJ4,aCa ht,hs,iE,hh,hw]
  cases k with
  | zero=>
   rw [show decide (((0:Nat):Int)>0)=false from by decide]
   unfold aFr zF
   cases kK x<;>cases cU t x.1<;>cases (p.2.2.2.take 0).all (fun y=> !(y.1==x.1))<;>rfl
  | succ j=>
   have hw1:wr (((j+1:Nat):Int) - 1)=(j:Int):=(wri (by omega) (by omega)).trans (by omega)
   obtain ⟨y,hy⟩: ∃ y,p.2.2.2[j]? =some y:=⟨_,cBe (by omega)⟩
   have hr1:(p.2.2.2.map (·.1))[j]? =some y.1:=by rw [cDv,hy];rfl
   rw [show decide (((j+1:Nat):Int)>0)=true from by simp]
   simp only [hw1,aH,hr1,aA,aXe hy hl,bHg hx hl,aEs ht2,zZ,aFd]
   unfold aFr zF aKd
   rw [Nat.add_sub_cancel,hy,cCe]
   cases kK x<;>cases cU t x.1<;>cases (p.2.2.2.take (j+1)).all (fun y=> !(y.1==x.1))<;>cases pEg p y==0<;>cases (remote t y.1 (pEg p y)).1==x.1<;>cases (remote t y.1 (pEg p y)).2==pIn p x<;>rfl) (fun a _=>by simp)]
 rw [aEv (fun k x=>aFr t p.2.2.2 k x&&zF t p k x)]
 have hsplit:(p.2.2.2.zipIdx 0).all (fun z=>aFr t p.2.2.2 z.2 z.1&&zF t p z.2 z.1)=(aJ7 t p.2.2.2&&(p.2.2.2.zipIdx 0).all fun z=>zF t p z.2 z.1):=by
  unfold aJ7
  rw [cB4]
  simp only [cB5,cBg]
  exact ⟨fun h=>⟨fun z hz=>(h z hz).1,fun z hz=>(h z hz).2⟩,fun h z hz=>⟨h.1 z hz,h.2 z hz⟩⟩
 rw [hsplit]
 simp only [eR,aEi,aA]
 cases inR (p.2.2.2.length:Int) 1 8<;>cases inR p.1 1 4<;>cases inR p.2.1 0 1000000<;>cases kV p.2.2.1<;>cases aJ7 t p.2.2.2<;>cases (p.2.2.2.zipIdx 0).all (fun z=>zF t p z.2 z.1)<;>rfl
def aCd (k:Int):Int:=cond (k==1) 1 (cond (k==2||k==3) 2 3)
theorem bLz (k:Int):wI k=some (aCd k):=by
 unfold wI aCd
 cases k==1<;>cases k==2<;>cases k==3<;>rfl
theorem bPb (k:Int):wE k=some (aCd k):=by
 unfold wE aCd
 cases k==1<;>cases k==2<;>cases k==3<;>rfl
def pt0:den tPp:=(0,0,0,[])
def aJl (y:den tPp):den cM:=(y.2.2.2[y.2.2.2.length - 1]?).getD h0
def aH7 (y:den tPp):den cM:=(y.2.2.2[0]?).getD h0
def aNv (y x:den tPp):Bool:= !decide (aCd y.1>=aCd x.1)&&(aJl y).1==(aH7 x).1
def zM (t:den tTo) (p:den tPt) (k:Nat) (x:den tPp):Bool:=sP t x&&(decide (k=0)||aNv ((p[k - 1]?).getD pt0) x)
def wfP (t:den tTo) (p:den tPt):Bool:=inR (p.length:Int) 1 3&&(p.zipIdx 0).all fun z=>zM t p z.2 z.1
theorem aE3 {t:den tTo} {p:den tPp} (h:sP t p=true):0<p.2.2.2.length:=by
 unfold sP at h
 rw [cBg] at h
 have :=bM.1 h.1
 omega
theorem aZq {y:den tPp} (h:0<y.2.2.2.length) (hl:y.2.2.2.length<=68719476736):idx y.2.2.2 (wr ((y.2.2.2.length:Int) - 1))=some (aJl y):=by
 rw [bJi hl h,aH]
 unfold aJl
 rw [cBe (show y.2.2.2.length - 1<y.2.2.2.length by omega)]
 rfl
theorem aZy {y:den tPp} (h:0<y.2.2.2.length):idx y.2.2.2 (0:Int)=some (aH7 y):=by
 have :idx y.2.2.2 ((0:Nat):Int)=y.2.2.2[0]? :=aH
 rw [show (0:Int)=((0:Nat):Int) from rfl,this]
 unfold aH7
 rw [cBe h]
 rfl
theorem bYt {t:den tTo} {p:den tPt} (ht:t.1.length<=68719476736) (ht2:t.2.length<=68719476736) (h:SmB 68719476736 tPt p):lN t p=some (wfP t p):=by
 have lp:=h.1
 have lh: ∀ (k:Nat) (x:den tPp),p[k]? =some x->x.2.2.2.length<=68719476736:=fun k x hx=>(h.2 x (cBr hx)).2.2.2.1
 unfold lN wfP pj2 pj4
 rw [aOd (fun k (_:Unit)=>(k:Int)) (0:Int) () p (fun k x _=>if zM t p k x then .inl () else .inr (.inr false)) (fun k _=> ∀ j y,j<k->p[j]? =some y->0<y.2.2.2.length) (fun _=> .inl ()) rfl (by omega) (fun j y hj=>absurd hj (Nat.not_lt_zero _)) (fun k x a hi hx hd hw hk hI=>by
  have hlx:=lh k x hx
  refine ⟨?_,fun a' ha j y hj hy=> ?_⟩
  .simp only [hd,zZ,hi,aA,aP,bLf ht ht2 hlx,hw]
   cases hv:sP t x with
   | false=>unfold zM;rw [hv];rfl
   | true=>
    cases k with
    | zero=>
     rw [show decide (((0:Nat):Int)>0)=false from by decide]
     unfold zM;rw [hv];rfl
    | succ j=>
     have hw1:wr (((j+1:Nat):Int) - 1)=(j:Int):=(wri (by omega) (by omega)).trans (by omega)
     obtain ⟨y,hy⟩: ∃ y,p[j]? =some y:=⟨_,cBe (by omega)⟩
     rw [show decide (((j+1:Nat):Int)>0)=true from by simp]
     simp only [hw1,aH,hy,aA,bLz,aZq (hI j y (Nat.lt_succ_self j) hy) (lh j y hy),aZy (aE3 hv),zZ,aFd,cBh,zY]
     unfold zM aNv
     rw [Nat.add_sub_cancel,hy,cCe,hv]
     cases decide (aCd y.1>=aCd x.1)<;>cases (aJl y).1==(aH7 x).1<;>rfl
  .rcases Nat.lt_succ_iff_lt_or_eq.1 hj with hj | rfl
   .exact hI j y hj hy
   .rw [hx] at hy
    injection hy with hy
    subst hy
    rcases cD0 (zM t p j x) with hb | hb
    .unfold zM at hb
     rw [cBg] at hb
     exact aE3 hb.1
    .simp [hb] at ha) (fun a _=>by simp)]
 rw [aEv (zM t p),lR,aA]
 cases inR (p.length:Int) 1 3<;>cases (p.zipIdx 0).all (fun z=>zM t p z.2 z.1)<;>rfl
theorem bZa {t:den tTo} {p:den tPt} (ht:t.1.length<=68719476736) (ht2:t.2.length<=68719476736) (h:SmB 68719476736 tPt p):lE t p=some (wfP t p):=by
 have lp:=h.1
 have lh: ∀ (k:Nat) (x:den tPp),p[k]? =some x->x.2.2.2.length<=68719476736:=fun k x hx=>(h.2 x (cBr hx)).2.2.2.1
 unfold lE wfP pj2 pj4
 rw [aOd (fun k (_:Unit)=>(k:Int)) (0:Int) () p (fun k x _=>if zM t p k x then .inl () else .inr (.inr false)) (fun k _=> ∀ j y,j<k->p[j]? =some y->0<y.2.2.2.length) (fun _=> .inl ()) rfl (by omega) (fun j y hj=>absurd hj (Nat.not_lt_zero _)) (fun k x a hi hx hd hw hk hI=>by
  have hlx:=lh k x hx
  refine ⟨?_,fun a' ha j y hj hy=> ?_⟩
  .simp only [hd,zZ,hi,aA,aP,bJd ht ht2 hlx,hw]
   cases hv:sP t x with
   | false=>unfold zM;rw [hv];rfl
   | true=>
    cases k with
    | zero=>
     rw [show decide (((0:Nat):Int)>0)=false from by decide]
     unfold zM;rw [hv];rfl
    | succ j=>
     have hw1:wr (((j+1:Nat):Int) - 1)=(j:Int):=(wri (by omega) (by omega)).trans (by omega)
     obtain ⟨y,hy⟩: ∃ y,p[j]? =some y:=⟨_,cBe (by omega)⟩
     rw [show decide (((j+1:Nat):Int)>0)=true from by simp]
     simp only [hw1,aH,hy,aA,bPb,aZq (hI j y (Nat.lt_succ_self j) hy) (lh j y hy),aZy (aE3 hv),zZ,aFd,cBh,zY]
     unfold zM aNv
     rw [Nat.add_sub_cancel,hy,cCe,hv]
     cases decide (aCd y.1>=aCd x.1)<;>cases (aJl y).1==(aH7 x).1<;>rfl
  .rcases Nat.lt_succ_iff_lt_or_eq.1 hj with hj | rfl
   .exact hI j y hj hy
   .rw [hx] at hy
    injection hy with hy
    subst hy
    rcases cD0 (zM t p j x) with hb | hb
    .unfold zM at hb
     rw [cBg] at hb
     exact aE3 hb.1
    .simp [hb] at ha) (fun a _=>by simp)]
 rw [aEv (zM t p),eR,aA]
 cases inR (p.length:Int) 1 3<;>cases (p.zipIdx 0).all (fun z=>zM t p z.2 z.1)<;>rfl
def aF5 (l:List Int) (k:Nat) (n:Int):Bool:= !tJ (l.take k) n
def aAf (t:den tTo) (p:den tPt):Bool:=wfP t p&&((jJ p).zipIdx 0).all fun z=>aF5 (jJ p) z.2 z.1
theorem aNp {p:den tPt} (h:tot tPt p<=1073741824):SmB 68719476736 tPt p:=(bN h).mono (by decide)
theorem bK4 {t:den tTo} {p:den tPt} (ht:t.1.length<=68719476736) (ht2:t.2.length<=68719476736) (h:tot tPt p<=1073741824):rW t p=some (aAf t p):=by
 have hu:=aHx p
 unfold rW aAf pj2
 simp only [aP,bYt ht ht2 (aNp h),bB3 h,aA]
 rw [aOd (fun k (_:Unit)=>(jJ p,jJ p,(k:Int))) (jJ p,jJ p,(0:Int)) () (jJ p) (fun k x _=>if aF5 (jJ p) k x then .inl () else .inr (.inr false)) (fun _ _=>True) (fun _=> .inl ()) rfl (by omega) trivial (fun k x a hi hx hd hw hk _=>by
  refine ⟨?_,fun _ _=>trivial⟩
  simp only [hd,zZ,hi,aA,yV hk,iE,hw,aY7 (l:=(jJ p).take k) (n:=x) (by simp;omega)]
  unfold aF5
  cases tJ ((jJ p).take k) x<;>rfl) (fun a _=>by simp)]
 rw [aEv (aF5 (jJ p))]
 cases wfP t p<;>cases ((jJ p).zipIdx 0).all (fun z=>aF5 (jJ p) z.2 z.1)<;>rfl
theorem aUo {t:den tTo} {p:den tPt} (ht:t.1.length<=68719476736) (ht2:t.2.length<=68719476736) (h:tot tPt p<=1073741824):nF t p=some (aAf t p):=by
 have hu:=aHx p
 unfold nF aAf pj2
 simp only [aP,bZa ht ht2 (aNp h),bB8 h,aA]
 rw [aOd (fun k (_:Unit)=>(jJ p,(k:Int))) (jJ p,(0:Int)) () (jJ p) (fun k x _=>if aF5 (jJ p) k x then .inl () else .inr (.inr false)) (fun _ _=>True) (fun _=> .inl ()) rfl (by omega) trivial (fun k x a hi hx hd hw hk _=>by
  refine ⟨?_,fun _ _=>trivial⟩
  simp only [hd,zZ,hi,aA,yV hk,iE,hw,aHi (l:=(jJ p).take k) (n:=x) (by simp;omega)]
  unfold aF5
  cases tJ ((jJ p).take k) x<;>rfl) (fun a _=>by simp)]
 rw [aEv (aF5 (jJ p))]
 cases wfP t p<;>cases ((jJ p).zipIdx 0).all (fun z=>aF5 (jJ p) z.2 z.1)<;>rfl
def bV (p:den tPk):den tPp:=(p.2.2.2.1[p.2.2.2.2.1.toNat]?).getD pt0
def dH (p:den tPk):den cM:=((bV p).2.2.2[p.2.2.2.2.2.1.toNat]?).getD h0
theorem gV {p:den tPk} (h:cI p=true): ∃ (i j:Nat),p.2.2.2.2.1=(i:Int)/\p.2.2.2.2.2.1=(j:Int)/\p.2.2.2.1[i]? =some (bV p)/\(bV p).2.2.2[j]? =some (dH p)/\dA p=(dH p).1:=by
 obtain ⟨i,j,x,y,h1,h2,h3,h4,h5⟩:=aDy h
 have e1:bV p=x:=by unfold bV;rw [h1,cBo,h3];rfl
 have e2:dH p=y:=by unfold dH;rw [e1,h2,cBo,h4];rfl
 exact ⟨i,j,h1,h2,by rw [e1];exact h3,by rw [e1,e2];exact h4,by rw [e2];exact h5⟩
theorem aGm {p:den tPk} (h:0<=dA p):cI p=true:=by
 cases c:cI p with
 | true=>rfl
 | false=>rw [aAz c] at h;omega
theorem fT {p:den tPk} (h:tot tPk p<=34359738368):SmB 68719476736 tPk p:=(bN h).mono (by decide)
theorem aBk {p:den tPk} (h:SmB 68719476736 tPk p) {i:Nat} {x:den tPp} (hx:p.2.2.2.1[i]? =some x):x.2.2.2.length<=68719476736:=(h.2.2.2.1.2 x (cBr hx)).2.2.2.1
def eB (p:den tPk):Bool:=p.2.2.2.2.2.1==((bV p).2.2.2.length:Int) - 1
def aG6 (p:den tPk):Bool:=p.2.2.2.2.1==(p.2.2.2.1.length:Int) - 1
def fS (p:den tPk):Bool:=decide (dA p>=0)&&(eB p&&aG6 p)
theorem aPa {p:den tPk} (h:SmB 68719476736 tPk p) (hh:cI p=true):iH p=some (eB p):=by
 obtain ⟨i,j,h1,h2,h3,h4,_⟩:=gV hh
 unfold iH eB zz4 zz5
 rw [h1,aH,h3,aA,mH (aBk h h3)]
theorem aPl {p:den tPk} (h:SmB 68719476736 tPk p):mA p=some (fS p):=by
 unfold mA fS aL zz4
 simp only [aP,aGw h,aA]
 cases c:decide (dA p>=0)
 .rfl
 .have hh:=aGm (of_decide_eq_true c)
  have l1:=h.2.2.2.1.1
  simp only [zZ,aPa h hh,aA,mH l1]
  unfold aG6
  cases eB p<;>rfl
theorem aZ4 {p:den tPk} (h:SmB 68719476736 tPk p):nM p=some (fS p):=by
 unfold nM fS aL zz4 zz5
 simp only [aP,aGt h,aA]
 cases c:decide (dA p>=0)
 .rfl
 .have hh:=aGm (of_decide_eq_true c)
  have l1:=h.2.2.2.1.1
  obtain ⟨i,j,h1,h2,h3,h4,_⟩:=gV hh
  simp only [zZ,mH l1]
  unfold aG6 eB
  rw [h1,aH,h3,aA,mH (aBk h h3)]
  cases p.2.2.2.2.2.1==((bV p).2.2.2.length:Int) - 1<;>cases (i:Int)==(p.2.2.2.1.length:Int) - 1<;>rfl
theorem aGv {p:den tPk} (h:SmB 68719476736 tPk p):dN p=some (pkR p):=by
 unfold dN pkR zz4 zz5 zz6 zz7 zz8 zz9
 rw [aN0 h.2.2.2.1,aJh h.2.2.2.2.2.2.2.2.2.1]
 rfl
theorem aDb {p:den tPk} (h:SmB 68719476736 tPk p):eY p=some (pkR p):=by
 unfold eY pkR zz4 zz5 zz6 zz7 zz8 zz9
 rw [aGe h.2.2.2.1,aE (b:=1) (n:=([]:List Int).length) (by decide) (by simpa using h.2.2.2.2.2.2.2.2.2.1)]
 simp
def goTo (p:den tPk) (i j b:Int):den tPk:=(p.1,p.2.1,p.2.2.1,p.2.2.2.1,i,j,b,p.2.2.2.2.2.2.2.1,p.2.2.2.2.2.2.2.2.1,p.2.2.2.2.2.2.2.2.2)
def tD (p:den tPk):den tPp:=(p.2.2.2.1[p.2.2.2.2.1.toNat+1]?).getD pt0
def adv (p:den tPk):den tPk:=
 if decide (dA p<0)||fS p then p
 else if eB p then goTo p (p.2.2.2.2.1+1) 0 (tD p).2.2.1 else goTo p p.2.2.2.2.1 (p.2.2.2.2.2.1+1) p.2.2.2.2.2.2.1
theorem aTt {p:den tPk} (hh:cI p=true) (h0:0<=dA p) (hl:eB p=true) (ha:fS p=false): ∃ i:Nat,p.2.2.2.2.1=(i:Int)/\p.2.2.2.1[i+1]? =some (tD p):=by
 obtain ⟨i,j,h1,h2,h3,h4,_⟩:=gV hh
 refine ⟨i,h1,?_⟩
 have hlt:=(cBm.1 h3).1
 have hne:aG6 p=false:=by
  unfold fS at ha
  rw [hl,zX h0] at ha
  simpa using ha
 unfold aG6 at hne
 rw [h1] at hne
 have hne: ¬ ((i:Int)=(p.2.2.2.1.length:Int) - 1):=by simpa using hne
 unfold tD
 rw [h1,cBo,cBe (show i+1<p.2.2.2.1.length by omega)]
 rfl
theorem bRz {p:den tPk} (h:SmB 68719476736 tPk p):nR p=some (pkR (adv p)):=by
 unfold nR adv aL pj2 zz4 zz5 zz6 zz7 zz8
 simp only [aP,aGv h,aGw h,aPl h,aA]
 cases c:decide (dA p<0)
 .cases ca:fS p
  .have h0:0<=dA p:=by have :=of_decide_eq_false c;omega
   have hh:=aGm h0
   obtain ⟨i,j,h1,h2,h3,h4,_⟩:=gV hh
   have hlt:=(cBm.1 h3).1
   have hlt2:=(cBm.1 h4).1
   have l1:cBw p.2.2.2.1<=68719476736:=h.2.2.2.1.1
   have l2:=aBk h h3
   simp only [zY,aA,aPa h hh,cC7,cBj,zU]
   cases cl:eB p
   .simp only [zY,aA,cBj,zU]
    unfold pkR goTo
    rw [h2,show wr ((j:Int)+1)=(j:Int)+1 from wri (by omega) (by omega)]
   .obtain ⟨i',e1,e2⟩:=aTt hh h0 cl ca
    have :i'=i:=Int.ofNat.inj (e1.symm.trans h1)
    subst this
    have hw:wr (((i':Nat):Int)+1)=((i'+1:Nat):Int):=(wri (by omega) (by omega)).trans (by omega)
    simp only [zZ,zV]
    unfold pkR goTo
    simp only [h1,hw,aH,e2,aA]
    rw [show ((i'+1:Nat):Int)=(i':Int)+1 by omega]
  .rfl
 .rfl
theorem bGv {p:den tPk} (h:SmB 68719476736 tPk p):iD p=some (pkR (adv p)):=by
 unfold iD adv aL pj4 pj5 zz4 zz5 zz6
 simp only [aP,aDb h,aGt h,aZ4 h,aA]
 cases c:decide (dA p<0)
 .cases ca:fS p
  .have h0:0<=dA p:=by have :=of_decide_eq_false c;omega
   have hh:=aGm h0
   obtain ⟨i,j,h1,h2,h3,h4,_⟩:=gV hh
   have hlt:=(cBm.1 h3).1
   have hlt2:=(cBm.1 h4).1
   have l1:cBw p.2.2.2.1<=68719476736:=h.2.2.2.1.1
   have l2:=aBk h h3
   have hd:decide ((j:Int)<((bV p).2.2.2.length:Int) - 1)= !eB p:=by
    have key:decide ((j:Int)<((bV p).2.2.2.length:Int) - 1)= !((j:Int)==((bV p).2.2.2.length:Int) - 1):=by
     rw [cB4]
     simp only [zR,cCg,beq_eq_false_iff_ne,ne_eq]
     omega
    unfold eB
    rw [h2]
    exact key
   simp only [zY,aA,cC7,cBj,zU,h1,h2,aH,h3,mH l2,hd]
   cases cl:eB p
   .simp only [cBq,zZ,cBj,zU]
    unfold pkR goTo
    rw [show wr ((j:Int)+1)=(j:Int)+1 from wri (by omega) (by omega)]
    simp only [h1]
   .obtain ⟨i',e1,e2⟩:=aTt hh h0 cl ca
    have :i'=i:=Int.ofNat.inj (e1.symm.trans h1)
    subst this
    have hw:wr (((i':Nat):Int)+1)=((i'+1:Nat):Int):=(wri (by omega) (by omega)).trans (by omega)
    simp only [cBh,zY,zV]
    unfold pkR goTo
    simp only [hw,aH,e2,aA]
    rw [show ((i'+1:Nat):Int)=(i':Int)+1 by omega]
  .rfl
 .rfl
def bef (p:den tPk):Int:=if kU (bV p).1 then aKn p.2.2.2.2.2.2.1 (dH p).2.2.2.2 else p.2.2.2.2.2.2.1
def aft (p:den tPk):Int:=if kU (bV p).1 then aKn p.2.2.2.2.2.2.1 (dH p).2.2.2.2 else aO7 p.2.2.2.2.2.2.1 (dH p).2.2.2.2
def aDj (t:den tTo) (p:den tPk):Bool:=cI p&&aEg t (bV p).2.1 (bef p) (dH p)
def bF (t:den tTo) (p:den tPk):den tPk:=if aDj t p then goTo p p.2.2.2.2.1 p.2.2.2.2.2.1 (aft p) else p
def oL (p:den tPk) (b:Bool):q10:=(p.1,p.2.1,p.2.2.1,p.2.2.2.2.1,p.2.2.2.2.2.1,p.2.2.2.2.2.2.1,p.2.2.2.2.2.2.2.1,p.2.2.2.2.2.2.2.2.1,b,p.2.2.2.1,p.2.2.2.2.2.2.2.2.2)
theorem bWi {t:den tTo} {p:den tPk} (ht:t.1.length<=68719476736) (h:SmB 68719476736 tPk p):iU t p=some (oL (bF t p) (aDj t p)):=by
 unfold iU bF aDj aL pj2 pj5 zz4 zz5 zz6 zz7 zz8
 simp only [aP,aGv h,bP8 h,aA]
 cases c:cI p
 .rfl
 .obtain ⟨i,j,h1,h2,h3,h4,_⟩:=gV c
  simp only [h1,h2,aH,h3,h4,aA,aOa,bId,bKy,cBh,zY,cBv]
  unfold bef aft
  cases kU (bV p).1
  .simp only [zY,aA,bJp ht,cBj,zU]
   cases aEg t (bV p).2.1 p.2.2.2.2.2.2.1 (dH p)
   .simp only [cBq,zZ,cBj,zU];unfold oL pkR;simp only [h1,h2]
   .simp only [cBh,zY,zV];unfold oL pkR goTo;simp only [h1,h2]
  .simp only [zZ,aA,bJp ht,zV]
   cases aEg t (bV p).2.1 (aKn p.2.2.2.2.2.2.1 (dH p).2.2.2.2) (dH p)
   .simp only [cBq,zZ,cBj,zU];unfold oL pkR;simp only [h1,h2]
   .simp only [cBh,zY,zV];unfold oL pkR goTo;simp only [h1,h2]
theorem bC9 {t:den tTo} {ts b:Int} {h:den cM} (hv:h.1<0):aEg t ts b h=false:=by
 unfold aEg kK
 rw [bDn.2 (fun hh=>absurd hv (Int.not_lt.2 hh.1))]
 rfl
theorem bXr {t:den tTo} {p:den tPk} (ht:t.1.length<=68719476736) (h:SmB 68719476736 tPk p):jB t p=some (oL (bF t p) (aDj t p)):=by
 unfold jB bF aDj aL pj2 pj5 zz4 zz5 zz6 zz7 zz8
 simp only [aP,aDb h,aGt h,aA]
 cases c:cI p
 .rw [aAz c];rfl
 .obtain ⟨i,j,h1,h2,h3,h4,h5⟩:=gV c
  rw [h5]
  by_cases hn:(dH p).1<0
  .rw [zX hn,bC9 hn];rfl
  .simp only [zW hn,zY,h1,h2,aH,h3,h4,aA,aD5,bAs,bIm,cBv,aX6 ht]
   unfold bef aft
   cases kU (bV p).1
   .simp only [zY,cBj,zU]
    cases aEg t (bV p).2.1 p.2.2.2.2.2.2.1 (dH p)
    .simp only [cBq,zZ,cBj,zU];unfold oL pkR;simp only [h1,h2]
    .simp only [cBh,zY,zV];unfold oL pkR goTo;simp only [h1,h2]
   .simp only [zZ,zV]
    cases aEg t (bV p).2.1 (aKn p.2.2.2.2.2.2.1 (dH p).2.2.2.2) (dH p)
    .simp only [cBq,zZ,cBj,zU];unfold oL pkR;simp only [h1,h2]
    .simp only [cBh,zY,zV];unfold oL pkR goTo;simp only [h1,h2]
def aCe (p:den tPk) (now:Int):Bool:= !decide (dA p<0)&&(decide ((bV p).2.1<=now)&&decide (now<=(dH p).2.2.2.1))
theorem bPi {p:den tPk} {now:Int} (h:SmB 68719476736 tPk p):hP p now=some (aCe p now):=by
 unfold hP aCe aL pj5 zz4 zz5
 simp only [aP,aGw h,aA]
 cases c:decide (dA p<0)
 .have hh:=aGm (p:=p) (by have :=of_decide_eq_false c;omega)
  obtain ⟨i,j,h1,h2,h3,h4,h5⟩:=gV hh
  simp only [zY,h1,h2,aH,h3,h4,aA,uX]
  cases decide ((bV p).2.1<=now)<;>rfl
 .rfl
theorem bM4 {p:den tPk} {now:Int} (h:SmB 68719476736 tPk p):kB p now=some (aCe p now):=by
 unfold kB aCe aL pj5 zz4 zz5
 simp only [aP,aGt h,aA]
 cases c:decide (dA p<0)
 .have hh:=aGm (p:=p) (by have :=of_decide_eq_false c;omega)
  obtain ⟨i,j,h1,h2,h3,h4,h5⟩:=gV hh
  simp only [zY,h1,h2,aH,h3,h4,aA,nH]
  cases decide ((bV p).2.1<=now)<;>rfl
 .rfl
def dC (t:den tTo) (now:Int) (p:den tPk):Int:=if aDj t p then (if aCe p now then 0 else 5) else 4
def goC (t:den tTo) (now:Int):Nat->den tPk->Int×den tPk
 | 0,p=>(dC t now p,bF t p)
 | n+1,p=>if dC t now p==0&&(eB (bF t p)&& !fS (bF t p)) then goC t now n (adv (bF t p)) else (dC t now p,bF t p)
theorem aBu (t:den tTo) (p:den tPk):tot tPk (bF t p)=tot tPk p:=by
 unfold bF;split<;>rfl
theorem aGf (p:den tPk):tot tPk (adv p)=tot tPk p:=by
 unfold adv;split
 .rfl
 .split<;>rfl
theorem bA8 (t:den tTo) (p:den tPk) (now:Int):aCe (bF t p) now=aCe p now:=by
 unfold bF;split<;>rfl
theorem zN (t:den tTo) (p:den tPk):cI (bF t p)=cI p/\dA (bF t p)=dA p/\dH (bF t p)=dH p/\(bF t p).2.2.2.1=p.2.2.2.1/\(bF t p).2.2.2.2.1=p.2.2.2.2.1:=by
 unfold bF;split<;>exact ⟨rfl,rfl,rfl,rfl,rfl⟩
theorem zE {t:den tTo} {now:Int} {p:den tPk} (h:dC t now p=0):cI p=true/\0<=dA p:=by
 unfold dC at h
 split at h
 .rename_i hs
  unfold aDj at hs
  rw [cBg] at hs
  refine ⟨hs.1,?_⟩
  obtain ⟨i,j,h1,h2,h3,h4,h5⟩:=gV hs.1
  rw [h5]
  by_cases hn:(dH p).1<0
  .rw [bC9 hn] at hs;cases hs.2
  .exact Int.not_lt.1 hn
 .cases h
theorem aXt {p:den tPk} (h0:0<=dA p) (hc:(eB p&& !fS p)=true):(adv p).2.2.2.1=p.2.2.2.1/\(adv p).2.2.2.2.1=p.2.2.2.2.1+1:=by
 rw [cBg] at hc
 have ha:fS p=false:=by simpa using hc.2
 unfold adv
 rw [zW (by omega),ha,hc.1]
 exact ⟨rfl,rfl⟩
theorem bCh {t:den tTo} {now:Int} {S R:Type} (enc:Int->den tPk->S) (out:S->R) {step:S->Option (S⊕R)} (st:den tPk->den tPk) (hst: ∀ p,dC t now p=0->st p=bF t p)
  (hstop: ∀ c p,c≠0->step (enc c p)=some (.inr (out (enc c p))))
  (hgo: ∀ q,tot tPk q<=34359738368->cI q=true->0<=dA q->step (enc 0 q)=some (if eB q&& !fS q then .inl (enc (dC t now (adv q)) (st (adv q))) else .inr (out (enc 0 q)))):
  ∀ (n:Nat) (p:den tPk),tot tPk p<=34359738368->p.2.2.2.1.length - p.2.2.2.2.1.toNat<=n-> ∃ r,aC step (enc (dC t now p) (st p))=some (out (enc (goC t now n p).1 r))/\((goC t now n p).1=0->r=(goC t now n p).2):=by
 intro n
 induction n with
 | zero=>
  intro p hp hm
  by_cases hc:dC t now p=0
  .obtain ⟨hh,h0⟩:=zE hc
   obtain ⟨i,j,h1,h2,h3,h4,h5⟩:=gV hh
   have hlt:=(cBm.1 h3).1
   rw [h1,cBo] at hm
   exact absurd hlt (by omega)
  .exact ⟨_,bQ (hstop _ _ hc),fun h=>absurd h hc⟩
 | succ n ih=>
  intro p hp hm
  by_cases hc:dC t now p=0
  .obtain ⟨hh,h0⟩:=zE hc
   obtain ⟨e1,e2,e3,e4,e5⟩:=zN t p
   have hq:=hgo (bF t p) (by rw [aBu];exact hp) (by rw [e1];exact hh) (by rw [e2];exact h0)
   rw [hst p hc]
   cases hb:eB (bF t p)&& !fS (bF t p) with
   | false=>
    rw [hb] at hq
    have hg:goC t now (n+1) p=(dC t now p,bF t p):=by
     show (if _ then _ else _)=_
     rw [hb,Bool.and_false];rfl
    rw [hg,hc]
    exact ⟨bF t p,bQ hq,fun _=>rfl⟩
   | true=>
    rw [hb,zT rfl] at hq
    have hg:goC t now (n+1) p=goC t now n (adv (bF t p)):=by
     show (if _ then _ else _)=_
     rw [hb,hc];rfl
    rw [hg,hc,dW hq]
    obtain ⟨a1,a2⟩:=aXt (p:=bF t p) (by rw [e2];exact h0) hb
    obtain ⟨i,j,h1,h2,h3,h4,h5⟩:=gV hh
    refine ih (adv (bF t p)) (by rw [aGf,aBu];exact hp) ?_
    rw [a1,a2,e4,e5,h1]
    rw [h1,cBo] at hm
    have :((i:Int)+1).toNat=i+1:=by omega
    rw [this]
    omega
  .have hg:goC t now (n+1) p=(dC t now p,bF t p):=by
    show (if _ then _ else _)=_
    rw [show (dC t now p==0)=false from by simpa using hc];rfl
   rw [hg]
   exact ⟨_,bQ (hstop _ _ hc),fun h=>absurd h hc⟩
def aJ5 (p:den tPk):Int:=if p.2.2.2.2.1==0&&p.2.2.2.2.2.1==0 then 0 else pIn (bV p) (dH p)
def bT (t:den tTo) (now:Int) (p:den tPk):Int×den tPk:=goC t now (p.2.2.2.1.length - p.2.2.2.2.1.toNat) p
def fwd (t:den tTo) (r now dead inn:Int) (p:den tPk):Int×Int×den tPk×Int:=
 if !gD p||(!aAf t p.2.2.2.1|| !(dA p==r)) then (2,0,p,0)
 else if !(inn==aJ5 p) then (3,0,p,0)
 else if !((bT t now p).1==0) then ((bT t now p).1,0,p,0)
 else if fS (bT t now p).2 then (if (bT t now p).2.2.2.1==r then (1,0,(bT t now p).2,0) else (2,0,p,0))
 else if !aKe t (r,inn,pEg (bV (bT t now p).2) (dH (bT t now p).2)) then (6,0,p,0)
 else if aGb dead (pEg (bV (bT t now p).2) (dH (bT t now p).2)) then (7,0,p,pEg (bV (bT t now p).2) (dH (bT t now p).2))
 else (0,pEg (bV (bT t now p).2) (dH (bT t now p).2),adv (bT t now p).2,pEg (bV (bT t now p).2) (dH (bT t now p).2))
def fwI (v:Int×Int×den tPk×Int):Int×Int×q21:=
 (v.1,v.2.1,v.2.2.1.1,v.2.2.1.2.1,v.2.2.1.2.2.1,v.2.2.1.2.2.2.1,v.2.2.1.2.2.2.2.1,v.2.2.1.2.2.2.2.2.1,v.2.2.1.2.2.2.2.2.2.1,v.2.2.1.2.2.2.2.2.2.2.1,v.2.2.1.2.2.2.2.2.2.2.2.1,v.2.2.1.2.2.2.2.2.2.2.2.2,v.2.2.2)
def fwS (v:Int×Int×den tPk×Int):Int×Int×q3:=(v.1,v.2.1,pkR v.2.2.1)
theorem aEk {t:den tTo} {now:Int}: ∀ (n:Nat) (p:den tPk),(goC t now n p).1=0->cI (goC t now n p).2=true/\0<=dA (goC t now n p).2/\tot tPk (goC t now n p).2=tot tPk p
 | 0,p,h=>by
  obtain ⟨h1,h2⟩:=zE (show dC t now p=0 from h)
  obtain ⟨e1,e2,_⟩:=zN t p
  exact ⟨e1.trans h1,by rw [show (goC t now 0 p).2=bF t p from rfl,e2];exact h2,aBu t p⟩
 | n+1,p,h=>by
  unfold goC at h ⊢
  split at h
  .rename_i hc
   rw [zT hc]
   obtain ⟨h1,h2,h3⟩:=aEk n _ h
   exact ⟨h1,h2,by rw [h3,aGf,aBu]⟩
  .rename_i hc
   rw [zS hc]
   obtain ⟨h1,h2⟩:=zE (show dC t now p=0 from h)
   obtain ⟨e1,e2,_⟩:=zN t p
   exact ⟨e1.trans h1,by rw [show (dC t now p,bF t p).2=bF t p from rfl,e2];exact h2,aBu t p⟩
def aAm (t:den tTo) (now:Int) (p:den tPk):den tPk:=if dC t now p=0 then bF t p else p
def aDz (p:den tPk) (c:Int):q21:=(p.1,p.2.1,p.2.2.1,p.2.2.2.1,p.2.2.2.2.1,p.2.2.2.2.2.1,p.2.2.2.2.2.2.1,p.2.2.2.2.2.2.2.1,p.2.2.2.2.2.2.2.2.1,p.2.2.2.2.2.2.2.2.2,c)
def aEp (p:den tPk) (c:Int):Int×q3:=(p.1,p.2.1,p.2.2.1,p.2.2.2.2.1,p.2.2.2.2.2.1,p.2.2.2.2.2.2.1,p.2.2.2.2.2.2.2.1,p.2.2.2.2.2.2.2.2.1,c,p.2.2.2.1,p.2.2.2.2.2.2.2.2.2)
theorem bR7 {t:den tTo} {now:Int} {p:den tPk} (ht:t.1.length<=68719476736) (h:tot tPk p<=34359738368):mN t now p=some (aDz (aAm t now p) (dC t now p)):=by
 unfold mN aL pj2 aG zz4 zz5 zz6 zz7 zz8 zz9
 simp only [aP,bWi ht (fT h),aA]
 unfold aAm dC
 cases c:aDj t p
 .simp only [oL,cBq,zZ,cBj,zU];rfl
 .have hs:tot tPk (bF t p)<=34359738368:=by rw [aBu];exact h
  have key:hP ((oL (bF t p) true).1,(oL (bF t p) true).2.1,(oL (bF t p) true).2.2.1,(oL (bF t p) true).2.2.2.2.2.2.2.2.2.1,(oL (bF t p) true).2.2.2.1,(oL (bF t p) true).2.2.2.2.1,(oL (bF t p) true).2.2.2.2.2.1,(oL (bF t p) true).2.2.2.2.2.2.1,(oL (bF t p) true).2.2.2.2.2.2.2.1,(oL (bF t p) true).2.2.2.2.2.2.2.2.2.2) now=some (aCe p now):=by
   rw [<- bA8 t p now]
   exact bPi (fT hs)
  rw [key]
  simp only [oL,cBh,zY,aA,zV]
  cases aCe p now
  .simp only [cBq,zZ,cBj,zU];rfl
  .simp only [cBh,zY,zV];rfl
theorem bQb {t:den tTo} {now:Int} {p:den tPk} (ht:t.1.length<=68719476736) (h:tot tPk p<=34359738368):pJ t now p=some (aEp (bF t p) (dC t now p)):=by
 unfold pJ aL pj2 zz4 zz5 zz6 zz7 zz8 zz9
 simp only [aP,bXr ht (fT h),bM4 (fT h),aA]
 unfold dC
 cases c:aDj t p
 .simp only [oL,cBq,zZ,cBj,zU];rfl
 .simp only [oL,cBh,zY,zV]
  cases aCe p now
  .simp only [cBq,zZ,cBj,zU];rfl
  .simp only [cBh,zY,zV];rfl
theorem aQt {p:den tPk} (h:gD p=true):cI p=true:=by
 unfold gD at h
 simp only [cBg] at h
 exact h.2.2.1
theorem bR9 {c:Int} {p:den tPk} (h:tot tPk p<=34359738368):mD c p=some (c,0,p.1,p.2.1,p.2.2.1,p.2.2.2.2.1,p.2.2.2.2.2.1,p.2.2.2.2.2.2.1,p.2.2.2.2.2.2.2.1,p.2.2.2.2.2.2.2.2.1,p.2.2.2.1,p.2.2.2.2.2.2.2.2.2,p.1,p.2.1,p.2.2.1,p.2.2.2.1,p.2.2.2.2.1,p.2.2.2.2.2.1,p.2.2.2.2.2.2.1,p.2.2.2.2.2.2.2.1,p.2.2.2.2.2.2.2.2.1,p.2.2.2.2.2.2.2.2.2):=by
 unfold mD aL zz4 zz5 zz6 zz7 zz8 zz9
 simp only [aP,aGv (fT h),aA]
 rfl
theorem bRr {c:Int} {p:den tPk} (h:tot tPk p<=34359738368):uU c p=some (c,0,pkR p):=by
 unfold uU aL
 simp only [aP,aDb (fT h),aA]
theorem aI8 {p:den tPk} {N:Nat} (h:tot tPk p<=N):tot tPt p.2.2.2.1<=N:=(aNj h).1
theorem bG8 {t:den tTo} {r now dead inn:Int} {p:den tPk} (ht:t.1.length<=68719476736) (ht2:t.2.length<=68719476736) (h:tot tPk p<=34359738368) (hpp:tot tPt p.2.2.2.1<=1073741824):tB t r now dead inn p=some (fwI (fwd t r now dead inn p)):=by
 unfold tB fwd aL aJx pj2 pj4 aG aI zz4 zz5 zz6 zz7 zz8 zz9
 simp only [aP,bL9 (fT h),bK4 ht ht2 hpp,aGw (fT h),aA,aFd,bR9 h]
 cases cv:gD p
 .simp only [cBq,cDe,zZ,aA,zV];rfl
 .cases cs:aAf t p.2.2.2.1
  .simp only [cBh,cBq,cDe,cDf,zZ,zY,aA,zV];rfl
  .cases cr:dA p==r
   .simp only [cBh,cBq,cDe,cDf,zZ,zY,aA,zV];rfl
   .simp only [cBh,cC7,zY,aA,cBj,zU]
    obtain ⟨i,j,h1,h2,h3,h4,h5⟩:=gV (aQt cv)
    have hl:=aBk (fT h) h3
    have hw:(@Option.bind Bool Int (cond (p.2.2.2.2.1==(0:Int)) (some (p.2.2.2.2.2.1==(0:Int))) (some false)) fun (s8:Bool)=>cond s8 (some (0:Int)) (some (pIn (bV p) (dH p))))=some (aJ5 p):=by
     unfold aJ5
     cases p.2.2.2.2.1==0<;>cases p.2.2.2.2.2.1==0<;>rfl
    have hp1:idx p.2.2.2.1 p.2.2.2.2.1=some (bV p):=by rw [h1,aH];exact h3
    have hp2:fY (bV p) p.2.2.2.2.2.1=some (pIn (bV p) (dH p)):=by rw [h2];exact bG6 h4 hl
    rw [hp1,aA,hp2,aA,hw,aA]
    cases ci:inn==aJ5 p
    .simp only [cBq,zZ,zV,aA];rfl
    .simp only [cBh,zY,cBj,zU,aGv (fT h),aA]
     have hc:mN t now ((pkR p).1,(pkR p).2.1,(pkR p).2.2.1,(pkR p).2.2.2.2.2.2.2.2.1,(pkR p).2.2.2.1,(pkR p).2.2.2.2.1,(pkR p).2.2.2.2.2.1,(pkR p).2.2.2.2.2.2.1,(pkR p).2.2.2.2.2.2.2.1,(pkR p).2.2.2.2.2.2.2.2.2)=some (aDz (aAm t now p) (dC t now p)):=bR7 ht h
     rw [hc]
     simp only [aA,aS,bI,aZ,bA,bD]
     obtain ⟨q,hq1,hq2⟩:=bCh (t:=t) (now:=now) (S:=Int×den tPk) (R:=Int×den tPk) (fun c p=>(c,p)) id (step:=fun s23=> @Option.bind Bool _ (cond (s23.1==(0:Int)) (Option.bind (iH s23.2) fun y24=>cond y24 (Option.bind (mA s23.2) fun y25=>some (!y25)) (some false)) (some false)) fun (s26:Bool)=>cond s26 (Option.bind (nR s23.2) fun y27=>Option.bind (mN t now (y27.1,y27.2.1,y27.2.2.1,y27.2.2.2.2.2.2.2.2.1,y27.2.2.2.1,y27.2.2.2.2.1,y27.2.2.2.2.2.1,y27.2.2.2.2.2.2.1,y27.2.2.2.2.2.2.2.1,y27.2.2.2.2.2.2.2.2.2)) fun y28=>some (cBd (y28.2.2.2.2.2.2.2.2.2.2,y28.1,y28.2.1,y28.2.2.1,y28.2.2.2.1,y28.2.2.2.2.1,y28.2.2.2.2.2.1,y28.2.2.2.2.2.2.1,y28.2.2.2.2.2.2.2.1,y28.2.2.2.2.2.2.2.2.1,y28.2.2.2.2.2.2.2.2.2.1))) (some (cBc s23))) (aAm t now) (fun p hp=>zT hp) (fun c p hc=>by
       have :(c==0)=false:=by simpa using hc
       simp only [this,zY,aA,id]) (fun q hq hh h0=>by
       have e:mN t now ((pkR (adv q)).1,(pkR (adv q)).2.1,(pkR (adv q)).2.2.1,(pkR (adv q)).2.2.2.2.2.2.2.2.1,(pkR (adv q)).2.2.2.1,(pkR (adv q)).2.2.2.2.1,(pkR (adv q)).2.2.2.2.2.1,(pkR (adv q)).2.2.2.2.2.2.1,(pkR (adv q)).2.2.2.2.2.2.2.1,(pkR (adv q)).2.2.2.2.2.2.2.2.2)=some (aDz (aAm t now (adv q)) (dC t now (adv q))):=bR7 (p:=adv q) ht (by rw [aGf];exact hq)
       simp only [beq_self_eq_true,zZ,aPa (fT hq) hh,aPl (fT hq),bRz (fT hq),aA,e]
       cases eB q<;>cases fS q<;>rfl) _ p h (cBs _)
     have hq1:aC _ (dC t now p,aAm t now p)=some ((bT t now p).1,q):=hq1
     have hq2:(bT t now p).1=0->q=(bT t now p).2:=hq2
     have e0:(((aDz (aAm t now p) (dC t now p)).2.2.2.2.2.2.2.2.2.2,(aDz (aAm t now p) (dC t now p)).1,(aDz (aAm t now p) (dC t now p)).2.1,(aDz (aAm t now p) (dC t now p)).2.2.1,(aDz (aAm t now p) (dC t now p)).2.2.2.1,(aDz (aAm t now p) (dC t now p)).2.2.2.2.1,(aDz (aAm t now p) (dC t now p)).2.2.2.2.2.1,(aDz (aAm t now p) (dC t now p)).2.2.2.2.2.2.1,(aDz (aAm t now p) (dC t now p)).2.2.2.2.2.2.2.1,(aDz (aAm t now p) (dC t now p)).2.2.2.2.2.2.2.2.1,(aDz (aAm t now p) (dC t now p)).2.2.2.2.2.2.2.2.2.1):Int×den tPk)=(dC t now p,aAm t now p):=rfl
     rw [e0,hq1,aA]
     by_cases hz:(bT t now p).1=0
     .have hqq:=hq2 hz
      subst hqq
      obtain ⟨g1,g2,g3⟩:=aEk _ p hz
      have g1:cI (bT t now p).2=true:=g1
      have g2:0<=dA (bT t now p).2:=g2
      have g3:tot tPk (bT t now p).2=tot tPk p:=g3
      have hg:tot tPk (bT t now p).2<=34359738368:=by rw [g3];exact h
      obtain ⟨i',j',k1,k2,k3,k4,k5⟩:=gV g1
      have hl':=aBk (fT hg) k3
      have q1:idx (bT t now p).2.2.2.2.1 (bT t now p).2.2.2.2.2.1=some (bV (bT t now p).2):=by rw [k1,aH];exact k3
      have q2:gF (bV (bT t now p).2) (bT t now p).2.2.2.2.2.2.1=some (pEg (bV (bT t now p).2) (dH (bT t now p).2)):=by rw [k2];exact bEv k4 hl'
      simp only [hz,beq_self_eq_true,cBh,zY,cBj,zU,aPl (fT hg),aA]
      cases ca:fS (bT t now p).2
      .simp only [zY,cBj,zU,q1,q2,aA,bUo ht2,bUg]
       cases aKe t (r,inn,pEg (bV (bT t now p).2) (dH (bT t now p).2))
       .simp only [cBq,zZ,zV];rfl
       .simp only [cBh,zY,cBj,zU]
        cases aGb dead (pEg (bV (bT t now p).2) (dH (bT t now p).2))
        .simp only [zY,cBj,zU,bRz (fT hg),aA];rfl
        .simp only [zZ,zV];rfl
      .simp only [zZ,zV]
       cases (bT t now p).2.2.2.1==r
       .simp only [cBq,zZ,cBj,zU];rfl
       .simp only [cBh,zY,zV];rfl
     .have hz':((bT t now p).1==0)=false:=by simpa using hz
      simp only [hz',cBq,zZ,zV,bR9 h,aA];rfl
theorem bIb {t:den tTo} {r now dead inn:Int} {p:den tPk} (ht:t.1.length<=68719476736) (ht2:t.2.length<=68719476736) (h:tot tPk p<=34359738368) (hpp:tot tPt p.2.2.2.1<=1073741824):wQ t r now dead inn p=some ((fwd t r now dead inn p).1,(fwd t r now dead inn p).2.1,(fwd t r now dead inn p).2.2.1):=by
 unfold wQ aL pj2 aG aI zz4 zz5 zz6 zz7 zz8 zz9
 simp only [aP,bG8 ht ht2 h hpp,aA]
 rfl
def aMl (c:Int) (p:den tPk):Int×q3:=(c,p.1,p.2.1,p.2.2.1,p.2.2.2.2.1,p.2.2.2.2.2.1,p.2.2.2.2.2.2.1,p.2.2.2.2.2.2.2.1,p.2.2.2.2.2.2.2.2.1,p.2.2.2.1,p.2.2.2.2.2.2.2.2.2)
theorem aZd {q:den tPk} (hh:cI q=true) (h0:0<=dA q):(eB q&&decide (q.2.2.2.2.1<(q.2.2.2.1.length:Int) - 1))=(eB q&& !fS q):=by
 obtain ⟨i,j,h1,h2,h3,h4,h5⟩:=gV hh
 have hlt:=(cBm.1 h3).1
 unfold fS aG6
 rw [zX (p:=dA q>=0) h0,h1]
 have key:decide ((i:Int)<(q.2.2.2.1.length:Int) - 1)= !((i:Int)==(q.2.2.2.1.length:Int) - 1):=by
  rw [cB4]
  simp only [zR,cCg,beq_eq_false_iff_ne,ne_eq]
  omega
 rw [key]
 cases eB q<;>simp
theorem bFz {t:den tTo} {r now dead inn:Int} {p:den tPk} (ht:t.1.length<=68719476736) (ht2:t.2.length<=68719476736) (h:tot tPk p<=34359738368) (hpp:tot tPt p.2.2.2.1<=1073741824):kC t r now dead inn p=some (fwS (fwd t r now dead inn p)):=by
 unfold kC fwd ixb aL aJx vJ pj2 pj4 aG zz4 zz5 zz6 zz7 zz8 zz9
 simp only [aP,aYg (fT h),aUo ht ht2 hpp,aGt (fT h),aA,aFd,bRr h]
 cases cv:gD p
 .simp only [cBq,cDe,zZ,aA,zV];rfl
 .cases cs:aAf t p.2.2.2.1
  .simp only [cBh,cBq,cDe,cDf,zZ,zY,aA,zV];rfl
  .cases cr:dA p==r
   .simp only [cBh,cBq,cDe,cDf,zZ,zY,aA,zV];rfl
   .simp only [cBh,cC7,zY,aA,cBj,zU]
    obtain ⟨i,j,h1,h2,h3,h4,h5⟩:=gV (aQt cv)
    have hl:=aBk (fT h) h3
    have hw:(@Option.bind Bool Int (cond (p.2.2.2.2.1==(0:Int)) (some (p.2.2.2.2.2.1==(0:Int))) (some false)) fun (s8:Bool)=>cond s8 (some (0:Int)) (some (pIn (bV p) (dH p))))=some (aJ5 p):=by
     unfold aJ5
     cases p.2.2.2.2.1==0<;>cases p.2.2.2.2.2.1==0<;>rfl
    have hp1:idx p.2.2.2.1 p.2.2.2.2.1=some (bV p):=by rw [h1,aH];exact h3
    have hp2:fH (bV p) p.2.2.2.2.2.1=some (pIn (bV p) (dH p)):=by rw [h2];exact bHg h4 hl
    rw [hp1,aA,hp2,aA,hw,aA]
    cases ci:inn==aJ5 p
    .simp only [cBq,zZ,zV,aA];rfl
    .simp only [cBh,zY,cBj,zU,bQb ht h,aA]
     obtain ⟨q,hq1,hq2⟩:=bCh (t:=t) (now:=now) aMl id (step:=fun s17=> @Option.bind Bool _ (cond (s17.1==(0:Int)) (cond (decide ((0:Int)<=s17.2.2.2.2.1)) (cond (decide (s17.2.2.2.2.1<(s17.2.2.2.2.2.2.2.2.2.1.length:Int))) (Option.bind s17.2.2.2.2.2.2.2.2.2.1[s17.2.2.2.2.1.toNat]? fun x18=>cond (s17.2.2.2.2.2.1==(wr ((x18.2.2.2.length:Int) - (1:Int)))) (some (decide (s17.2.2.2.2.1<(wr ((s17.2.2.2.2.2.2.2.2.2.1.length:Int) - (1:Int)))))) (some false)) none) none) (some false)) fun (s19:Bool)=>cond s19 (Option.bind (iD (s17.2.1,s17.2.2.1,s17.2.2.2.1,s17.2.2.2.2.2.2.2.2.2.1,s17.2.2.2.2.1,s17.2.2.2.2.2.1,s17.2.2.2.2.2.2.1,s17.2.2.2.2.2.2.2.1,s17.2.2.2.2.2.2.2.2.1,s17.2.2.2.2.2.2.2.2.2.2)) fun y20=>Option.bind (pJ t now (y20.1,y20.2.1,y20.2.2.1,y20.2.2.2.2.2.2.2.2.1,y20.2.2.2.1,y20.2.2.2.2.1,y20.2.2.2.2.2.1,y20.2.2.2.2.2.2.1,y20.2.2.2.2.2.2.2.1,y20.2.2.2.2.2.2.2.2.2)) fun y21=>some (cBd (y21.2.2.2.2.2.2.2.2.1,y21.1,y21.2.1,y21.2.2.1,y21.2.2.2.1,y21.2.2.2.2.1,y21.2.2.2.2.2.1,y21.2.2.2.2.2.2.1,y21.2.2.2.2.2.2.2.1,y21.2.2.2.2.2.2.2.2.2.1,y21.2.2.2.2.2.2.2.2.2.2))) (some (cBc s17))) (bF t) (fun p hp=>rfl) (fun c p hc=>by
       have :(c==0)=false:=by simpa using hc
       simp only [aMl,this,zY,aA,id]) (fun q hq hh h0=>by
       have e:pJ t now ((pkR (adv q)).1,(pkR (adv q)).2.1,(pkR (adv q)).2.2.1,(pkR (adv q)).2.2.2.2.2.2.2.2.1,(pkR (adv q)).2.2.2.1,(pkR (adv q)).2.2.2.2.1,(pkR (adv q)).2.2.2.2.2.1,(pkR (adv q)).2.2.2.2.2.2.1,(pkR (adv q)).2.2.2.2.2.2.2.1,(pkR (adv q)).2.2.2.2.2.2.2.2.2)=some (aEp (bF t (adv q)) (dC t now (adv q))):=bQb (p:=adv q) ht (by rw [aGf];exact hq)
       obtain ⟨i',j',k1,k2,k3,k4,k5⟩:=gV hh
       have hlt:=(cBm.1 k3).1
       have l1:cBw q.2.2.2.1<=68719476736:=(fT hq).2.2.2.1.1
       have hm:=aZd hh h0
       simp only [aMl,beq_self_eq_true,zZ,aP,bGv (fT hq),aA,e]
       rw [<- hm]
       have hd:decide ((i':Int)<(q.2.2.2.1.length:Int))=true:=zX (by omega)
       simp only [k1,fL,hd,zZ,cBo,k3,aA,mH (aBk (fT hq) k3),mH l1]
       unfold eB
       cases q.2.2.2.2.2.1==((bV q).2.2.2.length:Int) - 1<;>cases decide ((i':Int)<(q.2.2.2.1.length:Int) - 1)<;>rfl) _ p h (cBs _)
     have hq1:aC _ (aMl (dC t now p) (bF t p))=some (aMl (bT t now p).1 q):=hq1
     have hq2:(bT t now p).1=0->q=(bT t now p).2:=hq2
     have e0:(((aEp (bF t p) (dC t now p)).2.2.2.2.2.2.2.2.1,(aEp (bF t p) (dC t now p)).1,(aEp (bF t p) (dC t now p)).2.1,(aEp (bF t p) (dC t now p)).2.2.1,(aEp (bF t p) (dC t now p)).2.2.2.1,(aEp (bF t p) (dC t now p)).2.2.2.2.1,(aEp (bF t p) (dC t now p)).2.2.2.2.2.1,(aEp (bF t p) (dC t now p)).2.2.2.2.2.2.1,(aEp (bF t p) (dC t now p)).2.2.2.2.2.2.2.1,(aEp (bF t p) (dC t now p)).2.2.2.2.2.2.2.2.2.1,(aEp (bF t p) (dC t now p)).2.2.2.2.2.2.2.2.2.2))=aMl (dC t now p) (bF t p):=rfl
     rw [e0,hq1,aA]
     by_cases hz:(bT t now p).1=0
     .have hqq:=hq2 hz
      subst hqq
      obtain ⟨g1,g2,g3⟩:=aEk _ p hz
      have g1:cI (bT t now p).2=true:=g1
      have g2:0<=dA (bT t now p).2:=g2
      have g3:tot tPk (bT t now p).2=tot tPk p:=g3
      have hg:tot tPk (bT t now p).2<=34359738368:=by rw [g3];exact h
      obtain ⟨i',j',k1,k2,k3,k4,k5⟩:=gV g1
      have hlt:=(cBm.1 k3).1
      have hl':=aBk (fT hg) k3
      have q2:dY (bV (bT t now p).2) (bT t now p).2.2.2.2.2.2.1=some (pEg (bV (bT t now p).2) (dH (bT t now p).2)):=by rw [k2];exact aXe k4 hl'
      simp only [aMl,aP,hz,beq_self_eq_true,cBh,zY,cBj,zU,aZ4 (fT hg),aA]
      cases ca:fS (bT t now p).2
      .simp only [zY,aA,cBj,zU]
       have hd:decide ((i':Int)<((bT t now p).2.2.2.2.1.length:Int))=true:=zX (by omega)
       simp only [k1,fL,hd,zZ,cBo,k3,aA,q2,bUq ht2,bT8]
       cases aKe t (r,inn,pEg (bV (bT t now p).2) (dH (bT t now p).2))
       .simp only [cBq,zZ,zV];rfl
       .simp only [cBh,zY,cBj,zU]
        cases aGb dead (pEg (bV (bT t now p).2) (dH (bT t now p).2))
        .simp only [zY,cBj,zU,bGv (fT hg),aA];rfl
        .simp only [zZ,zV];rfl
      .simp only [zZ,aA]
       cases (bT t now p).2.2.2.1==r
       .simp only [zY,zZ,cBj,zU,zV];rfl
       .simp only [zZ,zV];rfl
     .have hz':((bT t now p).1==0)=false:=by simpa using hz
      simp only [aMl,hz',cBq,zZ,zV,bRr h,aA];rfl
theorem aI5 (t:den tTo) (r now dead inn:Int) (p:den tPk):tot tPk (fwd t r now dead inn p).2.2.1=tot tPk p:=by
 unfold fwd
 split
 .rfl
 .split
  .rfl
  .split
   .rfl
   .rename_i hz
    have hz:(bT t now p).1=0:=by simpa using hz
    obtain ⟨_,_,g3⟩:=aEk _ p hz
    have g3:tot tPk (bT t now p).2=tot tPk p:=g3
    split
    .split
     .exact g3
     .rfl
    .split
     .rfl
     .split
      .rfl
      .show tot tPk (adv (bT t now p).2)=_
       rw [aGf];exact g3
theorem aXj {t:den tTo} {now:Int}: ∀ (n:Nat) (p:den tPk),(goC t now n p).2.2.2.2.1=p.2.2.2.1
 | 0,p=>(zN t p).2.2.2.1
 | n+1,p=>by
  unfold goC
  split
  .rw [aXj n]
   rw [<- (zN t p).2.2.2.1]
   unfold adv
   split
   .rfl
   .split<;>rfl
  .exact (zN t p).2.2.2.1
theorem bM9 (p:den tPk):(adv p).2.2.2.1=p.2.2.2.1:=by
 unfold adv
 split
 .rfl
 .split<;>rfl
theorem bOq (t:den tTo) (r now dead inn:Int) (p:den tPk):(fwd t r now dead inn p).2.2.1.2.2.2.1=p.2.2.2.1:=by
 have hg:(bT t now p).2.2.2.2.1=p.2.2.2.1:=aXj _ p
 unfold fwd
 repeat' split
 all_goals first
  | rfl
  | exact hg
  | exact (bM9 _).trans hg
theorem aYd {t:den tTo} {now:Int}: ∀ (n:Nat) (p:den tPk),0<=(goC t now n p).1
 | 0,p=>by
  show 0<=dC t now p
  unfold dC
  repeat' split
  all_goals decide
 | n+1,p=>by
  unfold goC
  split
  .exact aYd n _
  .show 0<=dC t now p
   unfold dC
   repeat' split
   all_goals decide
theorem bL0 (t:den tTo) (r now dead inn:Int) (p:den tPk):0<=(fwd t r now dead inn p).1:=by
 have hg:0<=(bT t now p).1:=aYd _ p
 unfold fwd
 repeat' split
 all_goals first
  | exact hg
  | simp
theorem bVd (t:den tTo) (r now dead inn:Int) (p:den tPk):decide ((fwd t r now dead inn p).1>1)= !((fwd t r now dead inn p).1==0||(fwd t r now dead inn p).1==1):=by
 have h:=bL0 t r now dead inn p
 generalize (fwd t r now dead inn p).1=c at h
 rw [cB4]
 simp only [zR,cCg,Bool.or_eq_false_iff,beq_eq_false_iff_ne,ne_eq]
 omega
def aW (t:den tTo) (now:Int) (dead:List Int) (r inn:Int) (p:den tPk):Int×Int×den tPk×Int:=fwd t r now (jS t dead r) inn p
def bAy (t:den tTo) (now:Int) (dead:List Int):Nat->Int->Int->den tPk->cJ->Int×den tPk×cJ
 | 0,_,_,p,st=>(0,p,st)
 | n+1,r,inn,p,st=>
  if (aW t now dead r inn p).1==0||(aW t now dead r inn p).1==1 then
   (if (aW t now dead r inn p).1==1 then (1,(aW t now dead r inn p).2.2.1,st++[(r,inn,(aW t now dead r inn p).2.1)])
    else bAy t now dead n (remote t r (aW t now dead r inn p).2.1).1 (remote t r (aW t now dead r inn p).2.1).2 (aW t now dead r inn p).2.2.1 (st++[(r,inn,(aW t now dead r inn p).2.1)]))
  else ((aW t now dead r inn p).1,(aW t now dead r inn p).2.2.1,st)
theorem aVa {t:den tTo} {now:Int} {dead:List Int} {S R:Type} (enc:Nat->Int->Int->den tPk->cJ->S) (out out2:Int×den tPk×cJ->R) (N:Nat) (b:Bool) {step:S->Option (S⊕R)}
  (H: ∀ (k:Nat) (r inn:Int) (p:den tPk) (st:cJ),k<N->st.length<=k->tot tPk p<=34359738368->tot tPt p.2.2.2.1<=1073741824->step (enc k r inn p st)=some (
   if (aW t now dead r inn p).1==0||(aW t now dead r inn p).1==1 then
    (if (aW t now dead r inn p).1==1 then .inr (out (1,(aW t now dead r inn p).2.2.1,st++[(r,inn,(aW t now dead r inn p).2.1)]))
     else if b&&decide (k+1=N) then .inr (out (0,(aW t now dead r inn p).2.2.1,st++[(r,inn,(aW t now dead r inn p).2.1)]))
     else .inl (enc (k+1) (remote t r (aW t now dead r inn p).2.1).1 (remote t r (aW t now dead r inn p).2.1).2 (aW t now dead r inn p).2.2.1 (st++[(r,inn,(aW t now dead r inn p).2.1)])))
   else .inr (out ((aW t now dead r inn p).1,(aW t now dead r inn p).2.2.1,st))))
  (he:b=false-> ∀ r inn p st,step (enc N r inn p st)=some (.inr (out2 (0,p,st)))):
  ∀ (n k:Nat) (r inn:Int) (p:den tPk) (st:cJ),k+n=N->(n=0->b=false)->st.length<=k->tot tPk p<=34359738368->tot tPt p.2.2.2.1<=1073741824->aC step (enc k r inn p st)=some (out (bAy t now dead n r inn p st))\/aC step (enc k r inn p st)=some (out2 (bAy t now dead n r inn p st)):=by
 intro n
 induction n with
 | zero=>
  intro k r inn p st hk hb hs hp hq
  have :k=N:=by omega
  subst this
  exact .inr (bQ (he (hb rfl) r inn p st))
 | succ n ih=>
  intro k r inn p st hk hb hs hp hq
  have h:=H k r inn p st (by omega) hs hp hq
  unfold bAy
  cases c01:(aW t now dead r inn p).1==0||(aW t now dead r inn p).1==1 with
  | false=>
   rw [c01] at h
   exact .inl (bQ h)
  | true=>
   rw [c01,zT rfl] at h
   rw [zT rfl]
   cases c1:(aW t now dead r inn p).1==1 with
   | true=>
    rw [c1] at h
    exact .inl (bQ h)
   | false=>
    rw [c1] at h
    simp only [cBj,zU] at h ⊢
    cases hl:b&&decide (k+1=N) with
    | true=>
     rw [hl,zT rfl] at h
     rw [cBg,zR] at hl
     have :n=0:=by omega
     subst this
     exact .inl (bQ h)
    | false=>
     rw [hl] at h
     simp only [cBj,zU] at h
     rw [dW h]
     refine ih (k+1) _ _ _ _ (by omega) (fun hn=> ?_) (by simp;omega) ?_ ?_
     .subst hn
      cases b with
      | false=>rfl
      | true=>simp at hl;omega
     .unfold aW;rw [aI5];exact hp
     .unfold aW;rw [bOq];exact hq
def aWk (x:Int×den tPk×cJ):q12:=
 (x.1,x.2.1.1,x.2.1.2.1,x.2.1.2.2.1,x.2.1.2.2.2.1,x.2.1.2.2.2.2.1,x.2.1.2.2.2.2.2.1,x.2.1.2.2.2.2.2.2.1,x.2.1.2.2.2.2.2.2.2.1,x.2.1.2.2.2.2.2.2.2.2.1,x.2.1.2.2.2.2.2.2.2.2.2,x.2.2)
def bGq (k:Nat) (r inn:Int) (p:den tPk) (st:cJ):Int×Int×Int×q12:=
 (r,inn,((k+1:Nat):Int),0,p.1,p.2.1,p.2.2.1,p.2.2.2.1,p.2.2.2.2.1,p.2.2.2.2.2.1,p.2.2.2.2.2.2.1,p.2.2.2.2.2.2.2.1,p.2.2.2.2.2.2.2.2.1,p.2.2.2.2.2.2.2.2.2,st)
def aPi (t:den tTo) (now:Int) (dead:List Int) (p:den tPk):Int×den tPk×cJ:=bAy t now dead 30 p.2.1 0 p []
theorem bWc {t:den tTo} {now:Int} {dead:List Int} {p:den tPk} (ht:t.1.length<=68719476736) (ht2:t.2.length<=1073741824) (hd:dead.length<=68719476736) (h:tot tPk p<=34359738368) (hpp:tot tPt p.2.2.2.1<=1073741824):tH t now dead p=some (aWk (aPi t now dead p)):=by
 unfold tH aL vJ pj2 aG aI aR bR fJ zz4 zz5 zz6 zz7 zz8 zz9
 simp only [aP,aGv (fT h),aA]
 have e0:(p.2.1,(0:Int),(1:Int),(0:Int),(pkR p).1,(pkR p).2.1,(pkR p).2.2.1,(pkR p).2.2.2.2.2.2.2.2.1,(pkR p).2.2.2.1,(pkR p).2.2.2.2.1,(pkR p).2.2.2.2.2.1,(pkR p).2.2.2.2.2.2.1,(pkR p).2.2.2.2.2.2.2.1,(pkR p).2.2.2.2.2.2.2.2.2,([]:cJ))=bGq 0 p.2.1 0 p []:=rfl
 rw [e0]
 refine (aVa (t:=t) (now:=now) (dead:=dead) bGq aWk aWk 30 true ?_ (fun hb=>by cases hb) 30 0 p.2.1 0 p [] rfl (fun h=>by cases h) (cBs _) h hpp).elim id id
 intro k r inn p st hk hs hp hq
 have hw:wr (((k+1:Nat):Int)+1)=((k+1+1:Nat):Int):=(wri (by omega) (by omega)).trans (by omega)
 have h30:(((k+1:Nat):Int)==30)=decide (k+1=30):=by rw [cB4];simp only [beq_iff_eq,zR];omega
 simp only [bGq,aP,aS1 ht2 hd,bIb ht (cBf ht2 (by decide)) hp hq,aPs (t:=t) (cBf ht2 (by decide)),aA,aS,bI,aZ,bA,bD,aFd,aE (b:=24) (n:=st.length) (m:=1) (by decide) (by omega),zZ,hw,h30]
 rw [show fwd t r now (jS t dead r) inn p=aW t now dead r inn p from rfl]
 have hx: ∀ c:Int,(c==0)=true->(c==1)=false:=fun c hc=>by
  have :c=0:=by simpa using hc
  subst this;rfl
 cases c0:(aW t now dead r inn p).1==0 with
 | true=>
  rw [hx _ c0]
  have e0:(aW t now dead r inn p).1=0:=by simpa using c0
  simp only [cBh,cBq,zY,zZ,aA,cDe,zV,cBj,zU,cBv,e0]
  cases decide (k+1=30)<;>rfl
 | false=>
  cases c1:(aW t now dead r inn p).1==1 with
  | true=>
   have e1:(aW t now dead r inn p).1=1:=by simpa using c1
   simp only [cBh,cBq,zY,zZ,aA,cDf,zV,e1]
   rfl
  | false=>
   simp only [cBq,zZ,aA,cC7,cBj,zU]
   rfl
def aNi (x:Int×den tPk×cJ):q7:=
 (x.1,x.2.1.1,x.2.1.2.1,x.2.1.2.2.1,x.2.1.2.2.2.2.1,x.2.1.2.2.2.2.2.1,x.2.1.2.2.2.2.2.2.1,x.2.1.2.2.2.2.2.2.2.1,x.2.1.2.2.2.2.2.2.2.2.1,x.2.2,x.2.1.2.2.2.1,x.2.1.2.2.2.2.2.2.2.2.2)
def aXg (k:Nat) (r inn:Int) (p:den tPk) (st:cJ):Int×Int×Int×q7:=
 (r,inn,(k:Int),0,p.1,p.2.1,p.2.2.1,p.2.2.2.2.1,p.2.2.2.2.2.1,p.2.2.2.2.2.2.1,p.2.2.2.2.2.2.2.1,p.2.2.2.2.2.2.2.2.1,st,p.2.2.2.1,p.2.2.2.2.2.2.2.2.2)
theorem bV4 {t:den tTo} {now:Int} {dead:List Int} {p:den tPk} (ht:t.1.length<=68719476736) (ht2:t.2.length<=1073741824) (hd:dead.length<=68719476736) (h:tot tPk p<=34359738368) (hpp:tot tPt p.2.2.2.1<=1073741824):tO t now dead p=some (aNi (aPi t now dead p)):=by
 unfold tO aL vJ pj2 aG aI aR bR fJ zz4 zz5 zz6 zz7 zz8 zz9
 simp only [aP,aDb (fT h),aA]
 have e0:(p.2.1,(0:Int),(0:Int),(0:Int),(pkR p).1,(pkR p).2.1,(pkR p).2.2.1,(pkR p).2.2.2.1,(pkR p).2.2.2.2.1,(pkR p).2.2.2.2.2.1,(pkR p).2.2.2.2.2.2.1,(pkR p).2.2.2.2.2.2.2.1,([]:cJ),(pkR p).2.2.2.2.2.2.2.2.1,(pkR p).2.2.2.2.2.2.2.2.2)=aXg 0 p.2.1 0 p []:=rfl
 have hl:=aVa (t:=t) (now:=now) (dead:=dead) aXg (fun x=>(cBc (aNi x):_⊕_)) (fun x=>cBd (aNi x)) 30 false (step:=fun s10=>cond (decide (s10.2.2.1<(30:Int))) (Option.bind (cY (Option.bind (cO t dead s10.1) fun y11=>cY (Option.bind (kC t s10.1 now y11 s10.2.1 (s10.2.2.2.2.1,s10.2.2.2.2.2.1,s10.2.2.2.2.2.2.1,s10.2.2.2.2.2.2.2.2.2.2.2.2.2.1,s10.2.2.2.2.2.2.2.1,s10.2.2.2.2.2.2.2.2.1,s10.2.2.2.2.2.2.2.2.2.1,s10.2.2.2.2.2.2.2.2.2.2.1,s10.2.2.2.2.2.2.2.2.2.2.2.1,s10.2.2.2.2.2.2.2.2.2.2.2.2.2.2)) fun y12=>some y12) (Option.bind (kC t s10.1 now y11 s10.2.1 (s10.2.2.2.2.1,s10.2.2.2.2.2.1,s10.2.2.2.2.2.2.1,s10.2.2.2.2.2.2.2.2.2.2.2.2.2.1,s10.2.2.2.2.2.2.2.1,s10.2.2.2.2.2.2.2.2.1,s10.2.2.2.2.2.2.2.2.2.1,s10.2.2.2.2.2.2.2.2.2.2.1,s10.2.2.2.2.2.2.2.2.2.2.2.1,s10.2.2.2.2.2.2.2.2.2.2.2.2.2.2)) fun y13=>some y13)) (Option.bind (cO t dead s10.1) fun y14=>Option.bind (kC t s10.1 now y14 s10.2.1 (s10.2.2.2.2.1,s10.2.2.2.2.2.1,s10.2.2.2.2.2.2.1,s10.2.2.2.2.2.2.2.2.2.2.2.2.2.1,s10.2.2.2.2.2.2.2.1,s10.2.2.2.2.2.2.2.2.1,s10.2.2.2.2.2.2.2.2.2.1,s10.2.2.2.2.2.2.2.2.2.2.1,s10.2.2.2.2.2.2.2.2.2.2.2.1,s10.2.2.2.2.2.2.2.2.2.2.2.2.2.2)) fun y15=>some y15)) fun s16=>cond (decide (s16.1>(1:Int))) (some (cBc (cBc (s16.1,s16.2.2.1,s16.2.2.2.1,s16.2.2.2.2.1,s16.2.2.2.2.2.1,s16.2.2.2.2.2.2.1,s16.2.2.2.2.2.2.2.1,s16.2.2.2.2.2.2.2.2.1,s16.2.2.2.2.2.2.2.2.2.1,s10.2.2.2.2.2.2.2.2.2.2.2.2.1,s16.2.2.2.2.2.2.2.2.2.2.1,s16.2.2.2.2.2.2.2.2.2.2.2)))) (cond (aM 24 s10.2.2.2.2.2.2.2.2.2.2.2.2.1.length 1) (cond (s16.1==(1:Int)) (some (cBc (cBc (s16.1,s16.2.2.1,s16.2.2.2.1,s16.2.2.2.2.1,s16.2.2.2.2.2.1,s16.2.2.2.2.2.2.1,s16.2.2.2.2.2.2.2.1,s16.2.2.2.2.2.2.2.2.1,s16.2.2.2.2.2.2.2.2.2.1,s10.2.2.2.2.2.2.2.2.2.2.2.2.1++[(s10.1,s10.2.1,s16.2.1)],s16.2.2.2.2.2.2.2.2.2.2.1,s16.2.2.2.2.2.2.2.2.2.2.2)))) (Option.bind (eN t s10.1 s16.2.1) fun y17=>some (cBd (y17.1,y17.2,wr (s10.2.2.1+(1:Int)),s16.1,s16.2.2.1,s16.2.2.2.1,s16.2.2.2.2.1,s16.2.2.2.2.2.1,s16.2.2.2.2.2.2.1,s16.2.2.2.2.2.2.2.1,s16.2.2.2.2.2.2.2.2.1,s16.2.2.2.2.2.2.2.2.2.1,s10.2.2.2.2.2.2.2.2.2.2.2.2.1++[(s10.1,s10.2.1,s16.2.1)],s16.2.2.2.2.2.2.2.2.2.2.1,s16.2.2.2.2.2.2.2.2.2.2.2)))) none)) (some (cBc (cBd s10.2.2.2)))) (by
   intro k r inn p st hk hs hp hq
   have hw:wr ((k:Int)+1)=((k+1:Nat):Int):=(wri (by omega) (by omega)).trans (by omega)
   have h30:decide ((k:Int)<30)=true:=zX (by omega)
   show cond (decide ((k:Int)<(30:Int))) _ _=some _
   rw [h30,zZ]
   simp only [aXg,aP,aUf ht2 hd,bFz ht (cBf ht2 (by decide)) hp hq,aEs (t:=t) (cBf ht2 (by decide)),aA,aS,bI,aZ,bA,bD,aE (b:=24) (n:=st.length) (m:=1) (by decide) (by omega),zZ,hw,h30,cB0]
   rw [show (fwS (fwd t r now (jS t dead r) inn p)).1=(fwd t r now (jS t dead r) inn p).1 from rfl,bVd]
   rw [show fwd t r now (jS t dead r) inn p=aW t now dead r inn p from rfl]
   have hx: ∀ c:Int,(c==0)=true->(c==1)=false:=fun c hc=>by
    have :c=0:=by simpa using hc
    subst this;rfl
   cases c0:(aW t now dead r inn p).1==0 with
   | true=>
    rw [hx _ c0]
    have e0:(aW t now dead r inn p).1=0:=by simpa using c0
    simp only [cBh,zY,aA,cDe,zV,cBj,zU,e0]
    rfl
   | false=>
    cases c1:(aW t now dead r inn p).1==1 with
    | true=>
     have e1:(aW t now dead r inn p).1=1:=by simpa using c1
     simp only [cBh,zY,zZ,cDf,zV,e1]
     rfl
    | false=>
     simp only [cBq,zZ,cC7,cBj,zU]
     rfl) (fun _ r inn p st=>rfl) 30 0 p.2.1 0 p [] rfl (fun _=>rfl) (cBs _) h hpp
 have hl': ∀ {s:_},s=aXg 0 p.2.1 0 p []->aC _ s=some (cBc (aNi (aPi t now dead p)))\/aC _ s=some (cBd (aNi (aPi t now dead p))):=fun hs=>by rw [hs];exact hl
 rcases hl' e0 with hl | hl
 .rw [hl];rfl
 .rw [hl];rfl
def aFc (t:den tTo) (now:Int) (dead:List Int) (p:den tPt):Bool:=(aPi t now dead (gU 1 p 0 0 [])).1==1
theorem bAm {t:den tTo} {now:Int} {dead:List Int} {p:den tPt} (ht:t.1.length<=68719476736) (ht2:t.2.length<=1073741824) (hd:dead.length<=68719476736) (hp:tot tPt p<=1073741824):vV t now dead p=some (aFc t now dead p):=by
 unfold vV aFc pj2 zz4 zz5 zz6 zz7 zz8 zz9
 have h1:tot tPk (gU 1 p 0 0 [])<=34359738368:=by rw [aFa,aB0];omega
 have e:tH t now dead ((pkR (gU 1 p 0 0 [])).1,(pkR (gU 1 p 0 0 [])).2.1,(pkR (gU 1 p 0 0 [])).2.2.1,(pkR (gU 1 p 0 0 [])).2.2.2.2.2.2.2.2.1,(pkR (gU 1 p 0 0 [])).2.2.2.1,(pkR (gU 1 p 0 0 [])).2.2.2.2.1,(pkR (gU 1 p 0 0 [])).2.2.2.2.2.1,(pkR (gU 1 p 0 0 [])).2.2.2.2.2.2.1,(pkR (gU 1 p 0 0 [])).2.2.2.2.2.2.2.1,(pkR (gU 1 p 0 0 [])).2.2.2.2.2.2.2.2.2)=some (aWk (aPi t now dead (gU 1 p 0 0 []))):=bWc ht ht2 hd h1 hp
 simp only [aP,aNh (kind:=1) (res:=0) (seq:=0) (p:=p) (pay:=[]) (by omega) (by simp),aA,e]
 rfl
theorem aX2 {t:den tTo} {now:Int} {dead:List Int} {p:den tPt} (ht:t.1.length<=68719476736) (ht2:t.2.length<=1073741824) (hd:dead.length<=68719476736) (hp:tot tPt p<=1073741824):xB t now dead p=some (aFc t now dead p):=by
 unfold xB aFc pj2 zz4 zz5 zz6 zz7 zz8 zz9
 have h1:tot tPk (gU 1 p 0 0 [])<=34359738368:=by rw [aFa,aB0];omega
 have e:tO t now dead ((pkR (gU 1 p 0 0 [])).1,(pkR (gU 1 p 0 0 [])).2.1,(pkR (gU 1 p 0 0 [])).2.2.1,(pkR (gU 1 p 0 0 [])).2.2.2.2.2.2.2.2.1,(pkR (gU 1 p 0 0 [])).2.2.2.1,(pkR (gU 1 p 0 0 [])).2.2.2.2.1,(pkR (gU 1 p 0 0 [])).2.2.2.2.2.1,(pkR (gU 1 p 0 0 [])).2.2.2.2.2.2.1,(pkR (gU 1 p 0 0 [])).2.2.2.2.2.2.2.1,(pkR (gU 1 p 0 0 [])).2.2.2.2.2.2.2.2.2)=some (aNi (aPi t now dead (gU 1 p 0 0 []))):=bV4 ht ht2 hd h1 hp
 simp only [aP,aJi (kind:=1) (res:=0) (seq:=0) (p:=p) (pay:=[]) (by omega) (by simp),aA,e]
 rfl
def aD1 (w:den tNw) (p:den tPt) (now:Int):Bool:=aFc w.1 now w.2.2.2.2.1 p&&aFc w.1 now w.2.2.2.2.1 (yC p)
def aM4 (w:den tNw):Int:=wr (w.2.2.2.1+wr (8+aC2 w))
def aHg (w:den tNw) (p:den tPt):Bool:=aD1 w p w.2.2.2.1&&aD1 w p (aM4 w)
def aW8 (w:den tNw) (f:den tFl):Int:=
 match cB (fun k p=>if aHg w p then some (k:Int) else none) 0 f.2.2.2.2.2.1 with
 | some i=>i
 | none=> -1
structure aWq (w:den tNw):Prop where
 as:w.1.1.length<=68719476736
 links:w.1.2.length<=1073741824
 dead:w.2.2.2.2.1.length<=68719476736
 flows:w.2.2.2.2.2.2.1.length<=1073741824
theorem bQd {w:den tNw} (h:tot tNw w<=1073741824):aWq w where
 as:=cBf (dB (t:=tAS) _) (cBf (wP (wP h)) (by decide))
 links:=cBf (dB (t:=tLk) _) (cBf (aV (wP h)) (by decide))
 dead:=cBf (dB (t:=ti) _) (cBf (wP (aV (aV (aV (aV h))))) (by decide))
 flows:=cBf (dB (t:=tFl) _) (wP (aV (aV (aV (aV (aV (aV h)))))))
theorem bSr {w:den tNw} {p:den tPt} {now:Int} (h:aWq w) (hp:tot tPt p<=1073741824):wG w p now=some (aD1 w p now):=by
 unfold wG aD1 pj2 zz4
 simp only [aP,aX2 h.as h.links h.dead hp,aZl (aNp hp),aA,aX2 h.as h.links h.dead (p:=yC p) (by rw [aA9];exact hp)]
 cases aFc w.1 now w.2.2.2.2.1 p<;>rfl
theorem bSt {w:den tNw} {f:den tFl} (h:aWq w) (hf:tot tFl f<=1073741824):pQ w f=some (aW8 w f):=by
 have hl:f.2.2.2.2.2.1.length<=1073741824:=cBf (dB (t:=tPt) _) (aF7 hf).2.1
 unfold pQ cG zz5
 simp only [aP,aXs h.flows,aA]
 rw [aY (l:=f.2.2.2.2.2.1) (fun k p=>if aHg w p then some (k:Int) else none) (by omega) (fun k p hi hd hw hm hk=>by
  have hp:tot tPt p<=1073741824:=by have :=sO (t:=tPt) hm;have :=(aF7 hf).2.1;omega
  simp only [hd,hi,hw,zZ,aA,aP,bSr h hp]
  unfold aHg aM4
  cases aD1 w p w.2.2.2.1<;>cases aD1 w p (wr (w.2.2.2.1+wr (8+aC2 w)))<;>rfl) (by simp)]
 unfold aW8
 cases cB (fun k p=>if aHg w p then some (k:Int) else none) 0 f.2.2.2.2.2.1<;>rfl
theorem bU1 {w:den tNw} {f:den tFl} (h:aWq w) (hf:tot tFl f<=1073741824):pO w f=some (aW8 w f):=by
 have hl:f.2.2.2.2.2.1.length<=1073741824:=cBf (dB (t:=tPt) _) (aF7 hf).2.1
 unfold pO ixb pj2 cG zz4 zz5
 simp only [aP,aXx h.flows,aA]
 rw [aY (l:=f.2.2.2.2.2.1) (fun k p=>if aHg w p then some (k:Int) else none) (by omega) (fun k p hi hd hw hm hk=>by
  have hp:tot tPt p<=1073741824:=by have :=sO (t:=tPt) hm;have :=(aF7 hf).2.1;omega
  have hr:=fun now=>bAm h.as h.links h.dead (now:=now) hp
  have hr2:=fun now=>bAm h.as h.links h.dead (now:=now) (p:=yC p) (by rw [aA9];exact hp)
  simp only [hd,hi,hw,zZ,aA,aP,aZ7 (aNp hp),hr,hr2]
  rw [mY (fun k (b:Bool)=>(b,(k:Int))) (true,(0:Int)) true [w.2.2.2.1,aM4 w] (fun _ n b=>b&&aD1 w p n) (fun _=>0) (fun _=>0) 0 id rfl (by simp) (by simp) (fun _ _ _=>cBs _) (fun k n b hi hx hd hw hk hb=>by
   have hd:decide ((k:Int)<(([w.2.2.2.1,wr (w.2.2.2.1+wr (8+aC2 w))]:List Int).length:Int))=true:=hd
   have hx:([w.2.2.2.1,wr (w.2.2.2.1+wr (8+aC2 w))]:List Int)[k]? =some n:=hx
   simp only [hd,fL,cBo,hx,hw,zZ,aA]
   unfold aD1
   cases b<;>cases aFc w.1 n w.2.2.2.2.1 p<;>rfl) (fun a=>by simp)]
  show Option.bind (some (id (cN (fun _ n b=>b&&aD1 w p n) 0 [w.2.2.2.1,aM4 w] true))) _=_
  simp only [cN,aA,id,cBv]
  unfold aHg
  cases aD1 w p w.2.2.2.1&&aD1 w p (aM4 w)<;>rfl) (by simp)]
 unfold aW8
 cases cB (fun k p=>if aHg w p then some (k:Int) else none) 0 f.2.2.2.2.2.1<;>rfl
abbrev nT (w:den tNw):den tTo:=w.1
abbrev nK (w:den tNw):den tDb:=w.2.1
abbrev nG (w:den tNw):den tSc:=w.2.2.1
abbrev aT (w:den tNw):Int:=w.2.2.2.1
abbrev aO (w:den tNw):List Int:=w.2.2.2.2.1
abbrev aQ (w:den tNw):lFy:=w.2.2.2.2.2.1
abbrev aD (w:den tNw):lFl:=w.2.2.2.2.2.2.1
abbrev bJ (w:den tNw):lIb:=w.2.2.2.2.2.2.2.1
abbrev dQ (w:den tNw):Int:=w.2.2.2.2.2.2.2.2
def eV (w:den tNw):q5:=
 ((nG w).1,aT w,dQ w,(nT w).1,(nT w).2,(nK w).1,(nK w).2,(nG w).2.1,(nG w).2.2,aO w,aQ w,aD w,bJ w)
theorem bKm {l:lRs} (h:l.length<=68719476736):fB l=some l:=by
 unfold fB
 rw [aE (n:=([]:lRs).length) (by decide) (by simpa using h)]
 rfl
theorem bEf {g:den tSc} (h:SmB 68719476736 tSc g):fF g=some g:=by
 unfold fF
 rw [bKm h.2.1.1,aA,aE (n:=([]:lUs).length) (by decide) (by simpa using h.2.2.1)]
 rfl
theorem bGx {g:den tSc} (h:SmB 68719476736 tSc g):jH g=some g:=by
 unfold jH pj3
 rw [aE (b:=40) (n:=([]:lRs).length) (by decide) (by simpa using h.2.1.1),aE (b:=32) (n:=([]:lUs).length) (by decide) (by simpa using h.2.2.1)]
 simp only [aS,bI,aZ,bA,bD,zZ,aA,cCc]
theorem aMw (f:den tFl):(((qB f).1,(qB f).2.1,(qB f).2.2.1,(qB f).2.2.2.1,(qB f).2.2.2.2.2.2.1,(qB f).2.2.2.2.2.2.2.1,(qB f).2.2.2.2.1,(qB f).2.2.2.2.2.1,(qB f).2.2.2.2.2.2.2.2):den tFl)=f:=rfl
theorem bCy (p:den tPk):(((pkR p).1,(pkR p).2.1,(pkR p).2.2.1,(pkR p).2.2.2.2.2.2.2.2.1,(pkR p).2.2.2.1,(pkR p).2.2.2.2.1,(pkR p).2.2.2.2.2.1,(pkR p).2.2.2.2.2.2.1,(pkR p).2.2.2.2.2.2.2.1,(pkR p).2.2.2.2.2.2.2.2.2):den tPk)=p:=rfl
theorem bI0 {x:den tFy} (h:SmB 68719476736 tFy x):SmB 68719476736 tPk x.2.2:=h.2.2
theorem aN4 {w:den tNw} (h:SmB 68719476736 tNw w):fG w=some (eV w):=by
 obtain ⟨hT,hK,hG,_,hD,hY,hF,hX,_⟩:=h
 unfold fG qL aL pj2 pj3 pj4 pj9 zz4 zz5 zz6 zz7 zz8 zz9
 simp only [aP,bUl hT,bAb hK.1,bAb hK.2,bEf hG,bCq hD.1,aA]
 rw [(vE (fun k (a:lFy)=>((k:Int),(nG w).1,aT w,dQ w,a)) ((0:Int),(nG w).1,aT w,dQ w,[]) [] (aQ w) (fun _ x a=>a++[x]) cBw (fun _=>1) 68719476736 (fun a=>((nG w).1,aT w,dQ w,a)) rfl (cBf hY.1 (by decide)) (by rw [fM];simpa using hY.1) (fun k x a hi hx hd hw hk hb=>by
  have e:=bI0 (hY.2 x (cBr hx))
  simp only [hd,hi,hw,zZ,aA,aP,aGv e,bCy,aE (b:=128) (n:=a.length) (m:=1) (by decide) hb]
  exact ⟨rfl,by simp⟩) (fun a=>by simp)).1,kE (fun x=>x)]
 simp only [aA]
 rw [(vE (fun k (a:lFl)=>((k:Int),(nG w).1,aT w,dQ w,a)) ((0:Int),(nG w).1,aT w,dQ w,[]) [] (aD w) (fun _ x a=>a++[x]) cBw (fun _=>1) 68719476736 (fun a=>((nG w).1,aT w,dQ w,a)) rfl (cBf hF.1 (by decide)) (by rw [fM];simpa using hF.1) (fun k x a hi hx hd hw hk hb=>by
  have e:=hF.2 x (cBr hx)
  simp only [hd,hi,hw,zZ,aA,aP,aNx e,aMw,aE (b:=120) (n:=a.length) (m:=1) (by decide) hb]
  exact ⟨rfl,by simp⟩) (fun a=>by simp)).1,kE (fun x=>x)]
 simp only [aA]
 rw [(vE (fun k (a:lIb)=>((k:Int),(nG w).1,aT w,dQ w,a)) ((0:Int),(nG w).1,aT w,dQ w,[]) [] (bJ w) (fun _ x a=>a++[x]) cBw (fun _=>1) 68719476736 (fun a=>((nG w).1,aT w,dQ w,a)) rfl (cBf hX.1 (by decide)) (by rw [fM];simpa using hX.1) (fun k x a hi hx hd hw hk hb=>by
  have e:=hX.2 x (cBr hx)
  simp only [hd,hi,hw,zZ,aA,aP,bCk e,aE (b:=48) (n:=a.length) (m:=1) (by decide) hb]
  simp) (fun a=>by simp)).1,kE (fun x=>x)]
 simp only [aA,cCc,List.map_id']
 rfl
theorem bZm {l:lFy} (h:SmB 68719476736 (.sl tFy) l):vB l=some l:=by
 unfold vB aL zz4 zz5 zz6 zz7 zz8 zz9
 rw [(vE (fun k (a:lFy)=>((k:Int),a)) ((0:Int),[]) [] l (fun _ x a=>a++[x]) cBw (fun _=>1) 68719476736 id rfl (cBf h.1 (by decide)) (by rw [fM];simpa using h.1) (fun k x a hi hx hd hw hk hb=>by
  have e:=bI0 (h.2 x (cBr hx))
  simp only [hd,hi,hw,zZ,aA,aP,aDb e,bCy,aE (b:=128) (n:=a.length) (m:=1) (by decide) hb]
  exact ⟨rfl,by simp⟩) (fun a=>by simp)).1,kE (fun x=>x)]
 simp
theorem bTo {l:lFl} (h:SmB 68719476736 (.sl tFl) l):oS l=some l:=by
 unfold oS pj9 zz4 zz5 zz6 zz7 zz8
 rw [(vE (fun k (a:lFl)=>((k:Int),a)) ((0:Int),[]) [] l (fun _ x a=>a++[x]) cBw (fun _=>1) 68719476736 id rfl (cBf h.1 (by decide)) (by rw [fM];simpa using h.1) (fun k x a hi hx hd hw hk hb=>by
  have e:=h.2 x (cBr hx)
  simp only [hd,hi,hw,zZ,aA,aP,aEm e,aMw,aE (b:=120) (n:=a.length) (m:=1) (by decide) hb]
  exact ⟨rfl,by simp⟩) (fun a=>by simp)).1,kE (fun x=>x)]
 simp
theorem bUj {l:lIb} (h:SmB 68719476736 (.sl tIb) l):oT l=some l:=by
 unfold oT pj4
 rw [(vE (fun k (a:lIb)=>((k:Int),a)) ((0:Int),[]) [] l (fun _ x a=>a++[x]) cBw (fun _=>1) 68719476736 id rfl (cBf h.1 (by decide)) (by rw [fM];simpa using h.1) (fun k x a hi hx hd hw hk hb=>by
  have e:=h.2 x (cBr hx)
  simp only [hd,hi,hw,zZ,aA,aP,bDd e,aE (b:=48) (n:=a.length) (m:=1) (by decide) hb]
  simp) (fun a=>by simp)).1,kE (fun x=>x)]
 simp
theorem aJe {w:den tNw} (h:SmB 68719476736 tNw w):jF w=some (eV w):=by
 obtain ⟨hT,hK,hG,_,hD,hY,hF,hX,_⟩:=h
 unfold jF pj2 pj3 aG zz4 zz5 zz6 zz7 zz8 zz9
 simp only [aP,bDm hT,aEb hK.1,aEb hK.2,bGx hG,bZm hY,bTo hF,bUj hX,aA,aE (b:=8) (n:=([]:List Int).length) (m:=w.2.2.2.2.1.length) (by decide) (by simpa using hD.1),zZ,aS,bI,aZ,bA,bD,cCc]
 rfl
def aN (w:den tNw):q1:=
 (aQ w,aD w,bJ w,(nT w).1,(nT w).2,(nK w).1,(nK w).2,(nG w).1,(nG w).2.1,(nG w).2.2,aT w,aO w,dQ w)
def dU (w:den tNw) (l:lFl):den tNw:=(nT w,nK w,nG w,aT w,aO w,aQ w,l,bJ w,dQ w)
def sN (r:Int) (p:den tPk) (f:den tFl):den tFl:=if f.1==r then (if p.1==2 then wB f p else aAr f p) else f
def wR (w:den tNw) (r:Int) (p:den tPk):den tNw:=dU w ((aD w).map (sN r p))
def fR (p:den tPk):Prop:= ∀ x∈p.2.2.2.2.2.2.2.2.2,0<=x/\x<=255
theorem aUd {α S R:Type} (enc:Nat->List α->S) (l:List α) (g:α->α) (out:List α->R) {step:S->Option (S⊕R)} (hl:l.length<=4611686018427387904)
  (h: ∀ (k:Nat) (x:α) (a:List α),a.length=l.length->a[k]? =some x->x∈l->k<l.length->decide ((k:Int)<(l.length:Int))=true->IntKind.i64.wrap ((k:Int)+1)=((k+1:Nat):Int)->step (enc k a)=some (.inl (enc (k+1) (a.set k (g x)))))
  (he: ∀ a,a.length=l.length->step (enc l.length a)=some (.inr (out a))):aC step (enc 0 l)=some (out (l.map g)):=by
 have key: ∀ (rest pre:List α),pre++rest=l->aC step (enc pre.length (pre.map g++rest))=some (out (l.map g)):=by
  intro rest
  induction rest with
  | nil=>
   intro pre hp
   rw [cCm] at hp
   subst hp
   rw [cCm]
   exact bQ (he _ (by simp))
  | cons x rest ih=>
   intro pre hp
   have hlt:pre.length<l.length:=by rw [<- hp];simp
   have hx:(pre.map g++x::rest)[pre.length]? =some x:=by simp
   have hlen:(pre.map g++x::rest).length=l.length:=by rw [<- hp];simp
   rw [dW (h pre.length x _ hlen hx (by rw [<- hp];simp) hlt (by simpa using hlt) (by rw [wri (by omega) (by omega)];omega))]
   have hs:(pre.map g++x::rest).set pre.length (g x)=(pre++[x]).map g++rest:=by
    rw [List.set_append_right _ _ (by simp)]
    simp
   rw [hs]
   have :=ih (pre++[x]) (by simpa using hp)
   simpa using this
 exact key l [] rfl
theorem aJu {α:Type} {a:List α} {k:Nat} {x:α} (h:a[k]? =some x):a.set k x=a:=by
 obtain ⟨hlt,hx⟩:=cBm.1 h
 rw [<- hx]
 exact List.set_getElem_self hlt
theorem aS9 {f:den tFl} (h:tot tFl f<=1073741824):SmB 68719476736 tFl f:=(bN h).mono (by decide)
theorem aOc {α:Type} {a:List α} {k n:Nat} (h:a.length=n) (hk:k<n):decide ((k:Int)<(a.length:Int))=true/\decide (k<a.length)=true:=by
 constructor<;>simp<;>omega
theorem aTc {w:den tNw} {r:Int} {p:den tPk} (hF: ∀ f∈aD w,tot tFl f<=1073741824) (hl:(aD w).length<=1073741824) (hp:tot tPk p<=1073741824) (hb:fR p):iG w r p=some (aN (wR w r p)):=by
 unfold iG ixb aL pj9 zz4 zz5 zz6 zz7 zz8
 refine aUd (fun k (a:lFl)=>((k:Int),a)) (aD w) (sN r p) (fun l=>aN (dU w l)) (cBf hl (by decide)) (fun k f a ha hx hm hk hd hw=> ?_) (fun a ha=> ?_)
 .obtain ⟨d1,d2⟩:=aOc ha hk
  have hd:decide ((k:Int)<(w.2.2.2.2.2.2.1.length:Int))=true:=hd
  simp only [hd,d1,d2,fL,cBo,hx,zZ,aA,aP,aFd,bS0 (aS9 (hF f hm)),bSo (hF f hm) hp hb,aMw,hw]
  unfold sN
  cases f.1==r
  .simp only [cBq,zZ,cBj,zU,aA,aJu hx]
  .simp only [cBh,zY,zV]
   cases p.1==2<;>rfl
 .simp;rfl
theorem aSv {w:den tNw} {r:Int} {p:den tPk} (hk3:(p.1==2)=false) (hF: ∀ f∈aD w,tot tFl f<=1073741824) (hl:(aD w).length<=1073741824) (hp:tot tPk p<=1073741824) (hb:fR p):oA w r p=some (aN (wR w r p)):=by
 unfold oA ixb aL pj9 zz4 zz5 zz6 zz7 zz8
 refine aUd (fun k (a:lFl)=>((k:Int),a)) (aD w) (sN r p) (fun l=>aN (dU w l)) (cBf hl (by decide)) (fun k f a ha hx hm hk hd hw=> ?_) (fun a ha=> ?_)
 .obtain ⟨d1,d2⟩:=aOc ha hk
  simp only [d1,d2,fL,cBo,hx,zZ,aA,aP,bUt (hF f hm) hp hb,aS,bI,aZ,bA,bD,hw]
  unfold sN
  rw [hk3]
  cases f.1==r
  .simp only [zY,cBj,zU,aA,aJu hx]
  .simp only [zZ,zV,aA,cBj,zU]
   rfl
 .show cond (decide ((((aD w).length:Nat):Int)<(a.length:Int))) _ _=_
  rw [ha,zW (by omega)]
  rfl
theorem bI5 {w:den tNw} {r:Int} {p:den tPk} (hk2:(p.1==2)=true) (hF: ∀ f∈aD w,tot tFl f<=1073741824) (hl:(aD w).length<=1073741824) {step:Int×lFl->Option ((Int×lFl)⊕_)}
  (hs: ∀ (k:Nat) (f:den tFl) (a:lFl),a.length=(aD w).length->a[k]? =some f->f∈aD w->k<(aD w).length->step ((k:Int),a)=some (.inl (((k+1:Nat):Int),a.set k (sN r p f)))) (he: ∀ a,a.length=(aD w).length->step (((aD w).length:Int),a)=some (.inr (aN (dU w a)))):aC step ((0:Int),aD w)=some (aN (wR w r p)):=
 aUd (fun k (a:lFl)=>((k:Int),a)) (aD w) (sN r p) (fun l=>aN (dU w l)) (cBf hl (by decide)) (fun k f a ha hx hm hk hd hw=>hs k f a ha hx hm hk) (fun a ha=>he a ha)
theorem aMc (p:den tPk):goTo p p.2.2.2.2.1 p.2.2.2.2.2.1 p.2.2.2.2.2.2.1=p:=rfl
theorem aI0 (t:den tTo) (p:den tPk): ∃ b,bF t p=goTo p p.2.2.2.2.1 p.2.2.2.2.2.1 b:=by
 unfold bF
 split
 .exact ⟨_,rfl⟩
 .exact ⟨_,(aMc p).symm⟩
theorem aY6 (p:den tPk): ∃ i j b,adv p=goTo p i j b:=by
 unfold adv
 split
 .exact ⟨_,_,_,(aMc p).symm⟩
 .split<;>exact ⟨_,_,_,rfl⟩
theorem bAx {t:den tTo} {now:Int}: ∀ (n:Nat) (p:den tPk),∃ i j b,(goC t now n p).2=goTo p i j b
 | 0,p=>by obtain ⟨b,hb⟩:=aI0 t p;exact ⟨_,_,_,hb⟩
 | n+1,p=>by
  obtain ⟨b,hb⟩:=aI0 t p
  unfold goC
  split
  .obtain ⟨i,j,c,h1⟩:=bAx (t:=t) (now:=now) n (adv (bF t p))
   obtain ⟨i',j',c',h2⟩:=aY6 (bF t p)
   rw [h1,h2,hb]
   exact ⟨_,_,_,rfl⟩
  .exact ⟨_,_,_,hb⟩
theorem aP2 (t:den tTo) (r now dead inn:Int) (p:den tPk): ∃ i j b,(fwd t r now dead inn p).2.2.1=goTo p i j b:=by
 obtain ⟨i,j,b,h⟩: ∃ i j b,(bT t now p).2=goTo p i j b:=bAx _ p
 unfold fwd
 repeat' split
 all_goals first
  | exact ⟨_,_,_,(aMc p).symm⟩
  | exact ⟨_,_,_,h⟩
  | (obtain ⟨i',j',b',h'⟩:=aY6 (bT t now p).2;exact ⟨_,_,_,by rw [show (0,pEg (bV (bT t now p).2) (dH (bT t now p).2),adv (bT t now p).2,pEg (bV (bT t now p).2) (dH (bT t now p).2)).2.2.1=adv (bT t now p).2 from rfl,h',h];rfl⟩)
theorem aC8 (t:den tTo) (r now dead inn:Int) (p:den tPk):(fwd t r now dead inn p).2.2.1.1=p.1/\(fwd t r now dead inn p).2.2.1.2.1=p.2.1/\(fwd t r now dead inn p).2.2.1.2.2.2.2.2.2.2.1=p.2.2.2.2.2.2.2.1/\(fwd t r now dead inn p).2.2.1.2.2.2.2.2.2.2.2.2=p.2.2.2.2.2.2.2.2.2:=by
 obtain ⟨i,j,b,h⟩:=aP2 t r now dead inn p
 rw [h]
 exact ⟨rfl,rfl,rfl,rfl⟩
theorem aIa {t:den tTo} {r now dead inn:Int} {p:den tPk} (h:((fwd t r now dead inn p).1==2)=false):gD p=true:=by
 cases hv:gD p with
 | true=>rfl
 | false=>
  unfold fwd at h
  rw [hv] at h
  cases h
def zA (w:den tNw):den tNw:=(nT w,nK w,nG w,aT w,aO w,aQ w,aD w,bJ w,wr (dQ w+1))
def rD (w:den tNw) (r eg:Int) (p:den tPk):den tNw:=
 if (lH (nG w) p.2.2.2.2.2.2.2.1 r eg (aT w)).2.1&&decide ((aQ w).length<150) then
  (nT w,nK w,((lH (nG w) p.2.2.2.2.2.2.2.1 r eg (aT w)).1,(lH (nG w) p.2.2.2.2.2.2.2.1 r eg (aT w)).2.2.1,(lH (nG w) p.2.2.2.2.2.2.2.1 r eg (aT w)).2.2.2),aT w,aO w,aQ w++[((remote (nT w) r eg).1,(remote (nT w) r eg).2,p)],aD w,bJ w,dQ w)
 else zA w
structure aCn (w:den tNw):Prop where
 as:(nT w).1.length<=68719476736
 links:(nT w).2.length<=1073741824
 dead:(aO w).length<=68719476736
 res:(nG w).2.1.length<=1073741824
 use:(nG w).2.2.length<=1073741824
 flowsN:(aD w).length<=1073741824
 flows: ∀ f∈aD w,tot tFl f<=1073741824
theorem bDb {w:den tNw} {r:Int} {v:den aZn} (h:aCn w):mJ w r v=some (aN (rD w r v.2.1 v.2.2)):=by
 unfold mJ rD aL pj2 pj3 zz4 zz5 zz6 zz7 zz8 zz9
 simp only [aP,bTl h.res h.use,aA,aS,bI,aZ,bA,bD]
 have key: ∀ n:Nat,decide ((n:Int)>=150)= !decide (n<150):=fun n=>by rw [cB4];simp only [zR,cCg,decide_eq_false_iff_not];omega
 have h150:decide ((w.2.2.2.2.2.1.length:Int)>=150)= !decide ((aQ w).length<150):=key _
 rw [h150]
 cases ct:(lH (nG w) v.2.2.2.2.2.2.2.2.2.1 r v.2.1 (aT w)).2.1
 .simp only [cBq,zZ,aA,cB0,cBj,zU]
  rfl
 .by_cases hl:(aQ w).length<150
  .rw [zX hl]
   simp only [cBh,zY,aA,Bool.and_self,zV,aPs (t:=w.1) (cBf h.links (by decide)),aE (b:=128) (n:=w.2.2.2.2.2.1.length) (m:=1) (by decide) (show (aQ w).length+1<=_ by omega),zZ]
   rfl
  .rw [zW hl]
   simp only [cBh,cBq,zZ,zY,aA,Bool.and_false,cBj,zU]
   rfl
def proc0 (w:den tNw) (r inn:Int) (p:den tPk):den tNw:=
 if (aW (nT w) (aT w) (aO w) r inn p).1==0 then rD w r (aW (nT w) (aT w) (aO w) r inn p).2.1 (aW (nT w) (aT w) (aO w) r inn p).2.2.1
 else if (aW (nT w) (aT w) (aO w) r inn p).1==1 then wR w r (aW (nT w) (aT w) (aO w) r inn p).2.2.1
 else zA w
structure aCx (p:den tPk):Prop where
 sz:tot tPk p<=1073741824
 by_:fR p
theorem aCx.step {p:den tPk} (h:aCx p) (t:den tTo) (now:Int) (dead:List Int) (r inn:Int):aCx (aW t now dead r inn p).2.2.1 where
 sz:=by unfold aW;rw [aI5];exact h.sz
 by_:=fun x hx=>h.by_ x (by unfold aW at hx;rwa [(aC8 t r now _ inn p).2.2.2] at hx)
end Go.Proofs.YtcppmcbkokgfcaaGreat
