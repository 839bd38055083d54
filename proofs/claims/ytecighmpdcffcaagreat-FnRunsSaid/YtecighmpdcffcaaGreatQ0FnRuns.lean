/-
  Facts and plain laws: what the functions compute, in plain words. Conditions: as each says.
-/
import Derived.Test.YtecighmpdcffcaaGreatT0FnRuns
open List renaming length→bZo,mem_of_getElem?→bZk,nil_append→bZ4,getElem?_cons_zero→cB0,getElem?_eq_getElem→bY7,length_take→cAh,length_append→bZ5,length_singleton→cAt,mem_append→bZh,getElem?_eq_some_iff→bZf,map_cons→bZv,sum_cons→cAn,getLast?_concat→cBt,dropLast_concat→cCk,length_nil→cBk,length_cons→cAb,append_assoc→bZ7,singleton_append→cB6,append_nil→cAf,all_eq_true→bZx,length_filter_le→cBu,mem_zipIdx_iff_getElem?→cCm,getElem?_drop→cAu,length_drop→cA4,getElem?_map→cBo
open Nat renaming le_trans→bY8,zero_add→bZ3,le_refl→bZq,zero_le→bZt
open Bool renaming eq_false_or_eq_true→cBr,true_and→bZn,eq_iff_iff→bZy,not_true→bY9,not_false→bZj,false_and→bZu,false_eq_true→bZd,and_eq_true→bZb,or_self→cAx,not_eq_true'→cAa,and_false→cA6,true_or→cA7,or_true→cA8
open Sum renaming elim_inl→cAc,inl→bY6,inr→bY5
open Int renaming toNat_natCast→bZi,tmod→bZ0,toNat_of_nonneg→cBc,eq_ofNat_of_zero_le→bZ1
open Option renaming getD_some→bZ6
set_option linter.unusedVariables false
set_option linter.unusedSimpArgs false
set_option maxRecDepth 100000
namespace Go.Proofs.YtecighmpdcffcaaGreat
open Go.Ab Go.V
def inR (n a b:Int):Bool:=decide (a<=n)&&decide (n<=b)

theorem kZ (n a b:Int):bE n a b=some (inR n a b):=by
 unfold bE inR
 by_cases h:a<=n<;>simp [h]

theorem fG (n a b:Int):aJ n a b=some (inR n a b):=by
 unfold aJ inR
 by_cases h:a<=n<;>simp [h]

theorem bT {n a b:Int}:inR n a b=true↔a<=n∧n<=b:=by simp [inR]

theorem aZ1 {n a b:Int}:inR n a b=false↔ ¬ (a<=n∧n<=b):=by rw [← bT];simp

theorem bNq (a b:Int):aFv a b=some (if b>a then b else a):=rfl

theorem bCy (a b:Int):aB5 a b=some (if b>a then b else a):=by
 unfold aB5
 by_cases h:b>a<;>simp [h]

theorem bW7 (a b:Int):aFo a b=some (if b<a then b else a):=rfl

theorem aVq (a b:Int):aAe a b=some (if b<a then b else a):=by
 unfold aAe
 by_cases h:b<a<;>simp [h]

theorem aGg {b:List Int} (h:b.length<=68719476736):eB b=some b:=by
 unfold eB
 rw [aD (by decide) (by simpa using h)];simp

theorem bAo {l:dA} (h:l.length<=68719476736):kY l=some l:=by
 unfold kY
 rw [aD (by decide) (by simpa using h)];simp

theorem aSs {l:lRv} (h:l.length<=68719476736):eF l=some l:=by
 unfold eF
 rw [aD (by decide) (by simpa using h)];simp

theorem aPb {p:den tPp} (h:SmB 68719476736 tPp p):oY p=some p:=by
 unfold oY
 rw [aD (by decide) (by simpa using h.2.2.2.1)];simp

theorem aNk {p:den tPt} (h:SmB 68719476736 tPt p):eH p=some p:=by
 unfold eH
 rw [(uJ (fun k (a:lPp)=>((k:Int),a)) ((0:Int),[]) [] p (fun _ x a=>a++[x]) bZo (fun _=>1) 68719476736 id rfl (bY8 h.1 (by decide)) (by rw [eZ];simpa using h.1) (fun k x a hi hx hd hw hk hb=>by
  have e:=h.2 x (bZk hx)
  simp only [hd,hi,hw,zZ,aA,bAo e.2.2.2.1,aM,aD (b:=48) (by decide) hb]
  simp) (fun a=>by simp)).1,jK (fun x=>x)]
 simp

theorem aF8 {p:den tPt} (h:SmB 68719476736 tPt p):iH p=some p:=by
 unfold iH pj4
 rw [(uJ (fun k (a:lPp)=>((k:Int),a)) ((0:Int),[]) [] p (fun _ x a=>a++[x]) bZo (fun _=>1) 68719476736 id rfl (bY8 h.1 (by decide)) (by rw [eZ];simpa using h.1) (fun k x a hi hx hd hw hk hb=>by
  have e:=h.2 x (bZk hx)
  simp only [hd,hi,hw,zZ,aA,aM,aPb e,aD (b:=48) (by decide) hb]
  simp) (fun a=>by simp)).1,jK (fun x=>x)]
 simp

theorem bK4 {l:lPt} (h:SmB 68719476736 (.sl tPt) l):tJ l=some l:=by
 unfold tJ
 rw [(uJ (fun k (a:lPt)=>((k:Int),a)) ((0:Int),[]) [] l (fun _ x a=>a++[x]) bZo (fun _=>1) 68719476736 id rfl (bY8 h.1 (by decide)) (by rw [eZ];simpa using h.1) (fun k x a hi hx hd hw hk hb=>by
  have e:=h.2 x (bZk hx)
  simp only [hd,hi,hw,zZ,aA,aNk e,aD (b:=24) (by decide) hb]
  simp) (fun a=>by simp)).1,jK (fun x=>x)]
 simp

theorem bKw {l:lPt} (h:SmB 68719476736 (.sl tPt) l):yA l=some l:=by
 unfold yA
 rw [(uJ (fun k (a:lPt)=>((k:Int),a)) ((0:Int),[]) [] l (fun _ x a=>a++[x]) bZo (fun _=>1) 68719476736 id rfl (bY8 h.1 (by decide)) (by rw [eZ];simpa using h.1) (fun k x a hi hx hd hw hk hb=>by
  have e:=h.2 x (bZk hx)
  simp only [hd,hi,hw,zZ,aA,aF8 e,aD (b:=24) (by decide) hb]
  simp) (fun a=>by simp)).1,jK (fun x=>x)]
 simp

theorem aZ2 {l:lMs} (h:SmB 68719476736 (.sl tMs) l):jB l=some l:=by
 unfold jB
 rw [(uJ (fun k (a:lMs)=>((k:Int),a)) ((0:Int),[]) [] l (fun _ x a=>a++[x]) bZo (fun _=>1) 68719476736 id rfl (bY8 h.1 (by decide)) (by rw [eZ];simpa using h.1) (fun k x a hi hx hd hw hk hb=>by
  have e:=h.2 x (bZk hx)
  simp only [hd,hi,hw,zZ,aA,aGg e.1,aD (b:=24) (by decide) hb]
  simp) (fun a=>by simp)).1,jK (fun x=>x)]
 simp

theorem bAu {l:lMs} (h:SmB 68719476736 (.sl tMs) l):qJ l=some l:=by
 unfold qJ
 rw [(uJ (fun k (a:lMs)=>((k:Int),a)) ((0:Int),[]) [] l (fun _ x a=>a++[x]) bZo (fun _=>1) 68719476736 id rfl (bY8 h.1 (by decide)) (by rw [eZ];simpa using h.1) (fun k x a hi hx hd hw hk hb=>by
  have e:=h.2 x (bZk hx)
  simp only [hd,hi,hw,zZ,aA,aD (b:=1) (n:=([]:List Int).length) (by decide) (by simpa using e.1),aD (b:=24) (by decide) hb]
  simp) (fun a=>by simp)).1,jK (fun x=>x)]
 simp


def oB (f:den tFl):q6:=(f.1,f.2.1,f.2.2.1,f.2.2.2.1,f.2.2.2.2.2.2.1,f.2.2.2.2.2.2.2.1,f.2.2.2.2.1,f.2.2.2.2.2.1,f.2.2.2.2.2.2.2.2)

theorem aI8 {f:den tFl} (h:SmB 68719476736 tFl f):eJ f=some (oB f):=by
 unfold eJ oB zz4 zz5 zz6 zz7 zz8
 simp only [aZ2 h.2.2.2.2.1,bK4 h.2.2.2.2.2.1,aSs h.2.2.2.2.2.2.2.2.1,aA]

theorem aD8 {f:den tFl} (h:SmB 68719476736 tFl f):eR f=some (oB f):=by
 unfold eR oB zz4 zz5 zz6 zz7 zz8
 simp only [bAu h.2.2.2.2.1,bKw h.2.2.2.2.2.1,aA,aD (b:=24) (n:=([]:lRv).length) (by decide) (by simpa using h.2.2.2.2.2.2.2.2.1),zZ,bZ4]

theorem bAz {x:den tIb} (h:SmB 68719476736 tIb x):nV x=some x:=by
 unfold nV
 simp only [aZ2 h.2.2.2,aA,aM]

theorem bAg {x:den tIb} (h:SmB 68719476736 tIb x):sP x=some x:=by
 unfold sP
 simp only [bAu h.2.2.2,aA,aM]

def dS (x:den tRv):Bool:=inR x.1 0 7&&(inR x.2.1 1 6&&inR x.2.2 0 1000000)

theorem aDv (x:den tRv):bX x=some (dS x):=by
 unfold bX dS
 simp only [kZ,aA]
 cases inR x.1 0 7<;>cases inR x.2.1 1 6<;>cases inR x.2.2 0 1000000<;>rfl

theorem aDr (x:den tRv):bV x=some (dS x):=by
 unfold bV dS
 simp only [fG,aA]
 cases inR x.1 0 7<;>cases inR x.2.1 1 6<;>cases inR x.2.2 0 1000000<;>rfl


theorem aBy {α S:Type} (p:Nat→α→Bool): ∀ (l:List α) (k:Nat) (ρ:S),cD (fun k x=>if p k x then none else some ρ) k l=if (l.zipIdx k).all (fun x=>p x.2 x.1) then none else some ρ
 | [],_,_=>rfl
 | x::xs,k,ρ=>by
  simp only [cD,List.zipIdx_cons,List.all_cons]
  rcases cBr (p k x) with h | h
  ·simp only [h,zV,bZn];exact aBy p xs (k+1) ρ
  ·simp [h]

theorem bAf {α:Type} (p:α→Bool): ∀ (l:List α) (k:Nat),(l.zipIdx k).all (fun x=>p x.1)=l.all p
 | [],_=>rfl
 | x::xs,k=>by simp [List.zipIdx_cons,bAf p xs]

theorem mT {α S:Type} (p:α→Bool) (l:List α) (ρ:S):cD (fun _ x=>if p x then none else some ρ) 0 l=if l.all p then none else some ρ:=by
 rw [aBy (fun _ x=>p x),bAf p]

def gR (f:den tFl):Bool:=
 inR f.1 0 7&&(inR f.2.1 0 7&&(!(f.1==f.2.1)&&(inR f.2.2.1 0 100000&&(decide (f.2.2.2.2.1.length<=20)&&(inR f.2.2.2.1 0 (f.2.2.2.2.1.length:Int)&&(decide (f.2.2.2.2.2.1.length<=24)&&
  (f.2.2.2.2.1.all (fun m=>decide (m.length<=40))&&(f.2.2.2.2.2.2.2.2.all dS&&((f.2.2.2.2.2.2.1==0||inR f.2.2.2.2.2.2.1 0 ((f.2.2.2.2.2.1.length:Int) - 1))&&(inR f.2.2.2.2.2.2.2.1 0 4&&decide (f.2.2.2.2.2.2.2.2.length<=16)))))))))))

theorem aXn {f:den tFl} (h:SmB 68719476736 tFl f):mE f=some (gR f):=by
 have h1:=h.2.2.2.2.1.1
 have h2:=h.2.2.2.2.2.1.1
 have h3:=h.2.2.2.2.2.2.2.2.1
 unfold mE gR pj3 zz4 zz5 zz6 zz7 zz8
 rw [aT (l:=f.2.2.2.2.1) (fun _ m=>if decide (m.length<=40) then none else some false) (by omega) (fun k m hi hd hw hx hk=>by
  simp only [hd,hi,hw,zZ,aA]
  by_cases hm:m.length<=40
  ·simp [hm,show ¬ ((m.length:Int)>40) by omega]
  ·simp [hm,show (m.length:Int)>40 by omega]) (by simp)]
 rw [aT (l:=f.2.2.2.2.2.2.2.2) (fun _ x=>if dS x then none else some false) (by omega) (fun k x hi hd hw hx hk=>by
  simp only [hd,hi,hw,zZ,aA,aM,aDv]
  cases dS x<;>rfl) (by simp)]
 rw [mT (fun m:List Int=>decide (m.length<=40)),mT dS]
 have e1:decide ((f.2.2.2.2.1.length:Int)>20)= !decide (f.2.2.2.2.1.length<=20):=by rw [bZy];simp;omega
 have e2:decide ((f.2.2.2.2.2.1.length:Int)>24)= !decide (f.2.2.2.2.2.1.length<=24):=by rw [bZy];simp;omega
 have e3:decide ((f.2.2.2.2.2.2.2.2.length:Int)<=16)=decide (f.2.2.2.2.2.2.2.2.length<=16):=by rw [bZy];simp;omega
 have e5:wr ((f.2.2.2.2.2.1.length:Int) - 1)=(f.2.2.2.2.2.1.length:Int) - 1:=wri (by omega) (by omega)
 rw [e5]
 simp only [kZ,aA,e1,e2,e3]
 cases inR f.1 0 7<;>simp only [bY9,bZj,zZ,zY,aA,bZu,bZn]
 cases inR f.2.1 0 7<;>simp only [bY9,bZj,zZ,zY,aA,bZu,bZn]
 cases f.1==f.2.1<;>simp only [bY9,bZj,zZ,zY,aA,bZu,bZn]
 cases inR f.2.2.1 0 100000<;>simp only [bY9,bZj,zZ,zY,aA,bZu,bZn]
 cases decide (f.2.2.2.2.1.length<=20)<;>simp only [bY9,bZj,zZ,zY,aA,bZu,bZn]
 cases inR f.2.2.2.1 0 (f.2.2.2.2.1.length:Int)<;>simp only [bY9,bZj,zZ,zY,aA,bZu,bZn]
 cases decide (f.2.2.2.2.2.1.length<=24)<;>simp only [bY9,bZj,zZ,zY,aA,bZu,bZn]
 cases f.2.2.2.2.1.all (fun m=>decide (m.length<=40))<;>simp only [bZd,zV,zU,aA,cAc,Sum.elim_inr,bZu,bZn]
 cases f.2.2.2.2.2.2.2.2.all dS<;>simp only [bZd,zV,zU,aA,cAc,Sum.elim_inr,bZu,bZn]
 cases f.2.2.2.2.2.2.1==0<;>cases inR f.2.2.2.2.2.2.1 0 ((f.2.2.2.2.2.1.length:Int) - 1)<;>cases inR f.2.2.2.2.2.2.2.1 0 4<;>rfl

theorem aOf {f:den tFl} (h:SmB 68719476736 tFl f):jD f=some (gR f):=by
 have h1:=h.2.2.2.2.1.1
 have h2:=h.2.2.2.2.2.1.1
 have h3:=h.2.2.2.2.2.2.2.2.1
 unfold jD gR pj3 zz4 zz5 zz6 zz7 zz8
 rw [aT (l:=f.2.2.2.2.1) (fun _ m=>if decide (m.length<=40) then none else some false) (by omega) (fun k m hi hd hw hx hk=>by
  simp only [hd,hi,hw,zZ,aA]
  by_cases hm:m.length<=40
  ·simp [hm,show ¬ ((m.length:Int)>40) by omega]
  ·simp [hm,show (m.length:Int)>40 by omega]) (by simp)]
 rw [aT (l:=f.2.2.2.2.2.2.2.2) (fun _ x=>if dS x then none else some false) (by omega) (fun k x hi hd hw hx hk=>by
  simp only [hd,hi,hw,zZ,aA,aM,aDr]
  cases dS x<;>rfl) (by simp)]
 rw [mT (fun m:List Int=>decide (m.length<=40)),mT dS]
 have e1:decide ((f.2.2.2.2.1.length:Int)>20)= !decide (f.2.2.2.2.1.length<=20):=by rw [bZy];simp;omega
 have e2:decide ((f.2.2.2.2.2.1.length:Int)>24)= !decide (f.2.2.2.2.2.1.length<=24):=by rw [bZy];simp;omega
 have e3:decide ((f.2.2.2.2.2.2.2.2.length:Int)>16)= !decide (f.2.2.2.2.2.2.2.2.length<=16):=by rw [bZy];simp;omega
 have e4:inR f.2.2.2.2.2.2.1 0 (if ((f.2.2.2.2.2.1.length:Int) - 1)>0 then ((f.2.2.2.2.2.1.length:Int) - 1) else 0)=(f.2.2.2.2.2.2.1==0||inR f.2.2.2.2.2.2.1 0 ((f.2.2.2.2.2.1.length:Int) - 1)):=by
  have key: ∀ (c n:Int),0<=n→inR c 0 (if n - 1>0 then n - 1 else 0)=(c==0||inR c 0 (n - 1)):=fun c n hn=>by
   unfold inR
   by_cases h1:n - 1>0
   ·rw [zT h1]
    by_cases h2:c=0
    ·subst h2;simp;omega
    ·simp [h2]
   ·rw [zS h1]
    by_cases h2:c=0
    ·subst h2;simp
    ·rw [bZy];simp [h2];omega
  exact key _ _ (by omega)
 have e5:wr ((f.2.2.2.2.2.1.length:Int) - 1)=(f.2.2.2.2.2.1.length:Int) - 1:=wri (by omega) (by omega)
 rw [e5]
 simp only [fG,bCy,aA,e1,e2,e3,e4]
 cases inR f.1 0 7<;>simp only [bY9,bZj,zZ,zY,aA,bZu,bZn]
 cases inR f.2.1 0 7<;>simp only [bY9,bZj,zZ,zY,aA,bZu,bZn]
 cases f.1==f.2.1<;>simp only [bY9,bZj,zZ,zY,aA,bZu,bZn]
 cases inR f.2.2.1 0 100000<;>simp only [bY9,bZj,zZ,zY,aA,bZu,bZn]
 cases decide (f.2.2.2.2.1.length<=20)<;>simp only [bY9,bZj,zZ,zY,aA,bZu,bZn]
 cases inR f.2.2.2.1 0 (f.2.2.2.2.1.length:Int)<;>simp only [bY9,bZj,zZ,zY,aA,bZu,bZn]
 cases decide (f.2.2.2.2.2.1.length<=24)<;>simp only [bY9,bZj,zZ,zY,aA,bZu,bZn]
 cases f.2.2.2.2.2.2.1==0||inR f.2.2.2.2.2.2.1 0 ((f.2.2.2.2.2.1.length:Int) - 1)<;>cases inR f.2.2.2.2.2.2.2.1 0 4<;>cases decide (f.2.2.2.2.2.2.2.2.length<=16)<;>cases f.2.2.2.2.1.all (fun m=>decide (m.length<=40))<;>cases f.2.2.2.2.2.2.2.2.all dS<;>rfl

def aDl (a b:List Int):Bool:=(yL a).toList==(yL b).toList

theorem bSv (a b:List Int):tQ a b=some (aDl a b):=rfl

theorem bRd (a b:List Int):mB a b=some (aDl a b):=rfl

def xA:lMs→lMs→Bool
 | [],_=>true
 | _::_,[]=>true
 | a::as,b::bs=>aDl a b&&xA as bs


def aM2 {α S:Type} (p:α→α→Bool) (l:List α) (ρ:S) (k:Nat) (x:α):Option S:=Option.elim l[k]? none fun y=>if p x y then none else some ρ


theorem bDe {α S:Type} (p:α→α→Bool) (q:List α→List α→Bool) (h0: ∀ b,q [] b=true) (h1: ∀ x a y b,q (x::a) (y::b)=(p x y&&q a b)) (ρ:S): ∀ (a b:List α),a.length<=b.length→ ∀ (k:Nat) (l:List α),(∀ j,b[j]? =l[k+j]?)→cD (aM2 p l ρ) k a=if q a b then none else some ρ
 | [],b,_,k,l,_=>by rw [h0];rfl
 | x::a,[],h,_,_,_=>by simp at h
 | x::a,y::b,h,k,l,hl=>by
  have e0:=hl 0
  simp only [Nat.add_zero,cB0] at e0
  simp only [cD,aM2,← e0,h1,Option.elim_some]
  rcases cBr (p x y) with hp | hp
  ·simp only [hp,zV,bZn]
   exact bDe p q h0 h1 ρ a b (by simpa using h) (k+1) l fun j=>by
    have :=hl (j+1)
    rw [List.getElem?_cons_succ] at this
    rw [this];congr 1;omega
  ·simp [hp]

theorem bJ6 {a b:lMs} (ha:a.length<=68719476736) (hb:b.length<=68719476736):lR a b=some (decide (a.length=b.length)&&xA a b):=by
 unfold lR
 by_cases hl:a.length=b.length
 ·have h0:((a.length:Int) != (b.length:Int))=false:=by simp [hl]
  rw [h0,zY,aT (l:=a) (aM2 aDl b false) (by omega) (fun k x hi hd hw hx hk=>by
    have hy:b[k]? =some b[k]:=bY7 (by omega)
    simp only [hd,hi,hw,zZ,aA,aG,hy,bSv,aM2,Option.elim_some]
    cases aDl x b[k]<;>rfl) (by simp)]
  rw [bDe aDl xA (fun b=>by cases b<;>rfl) (fun _ _ _ _=>rfl) false a b (by omega) 0 b (fun j=>by rw [bZ3])]
  cases xA a b<;>simp [hl]
 ·have h0:((a.length:Int) != (b.length:Int))=true:=by simp;omega
  rw [h0,zZ];simp [hl]

def zD (f:den tFl) (x:den tIb):Bool:=
 x.1==f.2.1&&(x.2.1==f.1&&(decide (x.2.2.2.length<=f.2.2.2.2.1.length)&&(xA x.2.2.2 f.2.2.2.2.1&&decide ((x.2.2.2.length:Int)>=f.2.2.2.1))))

theorem aIg: ∀ (a b:lMs),xA a (b.take a.length)=xA a b
 | [],b=>by cases b<;>rfl
 | x::a,[]=>rfl
 | x::a,y::b=>by simp [xA,aIg a b]

theorem bHq {f:den tFl} {x:den tIb} (hf:f.2.2.2.2.1.length<=68719476736) (hx:x.2.2.2.length<=68719476736):kA f x=some (zD f x):=by
 unfold kA zD zz4
 cases x.1==f.2.1
 ·rfl
 cases x.2.1==f.1
 ·rfl
 by_cases hl:x.2.2.2.length<=f.2.2.2.2.1.length
 ·have h1:decide ((x.2.2.2.length:Int)<=(f.2.2.2.2.1.length:Int))=true:=by simpa using hl
  have h2:bR (0:Int) (x.2.2.2.length:Int) (f.2.2.2.2.1.length:Int)=true:=by simp [bR];omega
  rw [h1,h2,fF,bJ6 hx (by rw [cAh];omega),aIg]
  have h3:decide (x.2.2.2.length=(List.take x.2.2.2.length f.2.2.2.2.1).length)=true:=by simp [cAh];omega
  rw [h3]
  simp only [zZ,aA,bZn,zX hl]
  cases xA x.2.2.2 f.2.2.2.2.1<;>rfl
 ·have h1:decide ((x.2.2.2.length:Int)<=(f.2.2.2.2.1.length:Int))=false:=by simp;omega
  rw [h1]
  simp [hl]

theorem bG1 {f:den tFl} {x:den tIb} (hf:f.2.2.2.2.1.length<=68719476736) (hx:x.2.2.2.length<=68719476736):kE f x=some (zD f x):=by
 unfold kE zD zz4
 simp only [bne]
 cases x.1==f.2.1
 ·rfl
 cases x.2.1==f.1
 ·rfl
 by_cases hl:x.2.2.2.length<=f.2.2.2.2.1.length
 ·have h1:decide ((x.2.2.2.length:Int)>(f.2.2.2.2.1.length:Int))=false:=by simp;omega
  have h4:decide ((x.2.2.2.length:Int)<f.2.2.2.1)= !decide ((x.2.2.2.length:Int)>=f.2.2.2.1):=by rw [bZy];simp
  rw [h1,h4,aT (l:=x.2.2.2) (aM2 aDl f.2.2.2.2.1 false) (by omega) (fun k m hi hd hw hm hk=>by
    have hy:f.2.2.2.2.1[k]? =some f.2.2.2.2.1[k]:=bY7 (by omega)
    simp only [hd,hi,hw,zZ,aA,aG,hy,bRd,aM2,Option.elim_some]
    cases aDl m f.2.2.2.2.1[k]<;>rfl) (by simp)]
  rw [bDe aDl xA (fun b=>by cases b<;>rfl) (fun _ _ _ _=>rfl) false x.2.2.2 f.2.2.2.2.1 hl 0 f.2.2.2.2.1 (fun j=>by rw [bZ3])]
  rw [zX hl]
  cases decide ((x.2.2.2.length:Int)>=f.2.2.2.1)<;>cases xA x.2.2.2 f.2.2.2.2.1<;>rfl
 ·have h1:decide ((x.2.2.2.length:Int)>(f.2.2.2.2.1.length:Int))=true:=by simp;omega
  rw [h1]
  simp [hl]

def aBm (x:den tIb) (p:den tPk):Bool:=p.1==1&&(p.2.1==x.2.1&&p.2.2.1==x.1)

theorem aZ3 (x:den tIb) (p:den tPk):sY x p=some (aBm x p):=by
 unfold sY aBm
 cases p.1==1<;>cases p.2.1==x.2.1<;>rfl

theorem bAt (x:den tIb) (p:den tPk):wA x p=some (aBm x p):=by
 unfold wA aBm
 cases p.1==1<;>cases p.2.1==x.2.1<;>rfl

def aU0 (x:den tIb) (p:den tPk):Bool:=aBm x p&&(p.2.2.2.2.2.2.2.2.1==x.2.2.1&&decide (x.2.2.1<20))

def eG (x:den tIb) (p:den tPk):den tIb:=if aU0 x p then (x.1,x.2.1,wr (x.2.2.1+1),x.2.2.2++[p.2.2.2.2.2.2.2.2.2]) else x

theorem bQ9 {x:den tIb} {p:den tPk} (hx:SmB 4294967296 tIb x) (hp:SmB 4294967296 tPk p):oR x p=some (eG x p):=by
 have hx':SmB 68719476736 tIb x:=hx.mono (by decide)
 have hp':=(hp.mono (C:=68719476736) (by decide)).2.2.2.2.2.2.2.2.2.1
 unfold oR eG aU0 aI pj4 zz8 zz9
 have ha:=hx.2.2.2.1
 simp only [aM,bAz hx',aZ3,aGg hp',aA,aD (b:=24) (n:=x.2.2.2.length) (m:=1) (by decide) (by omega),zZ]
 cases aBm x p<;>cases p.2.2.2.2.2.2.2.2.1==x.2.2.1<;>cases decide (x.2.2.1<20)<;>rfl

theorem bRk {x:den tIb} {p:den tPk} (hx:SmB 4294967296 tIb x) (hp:SmB 4294967296 tPk p):oG x p=some (eG x p):=by
 have hx':SmB 68719476736 tIb x:=hx.mono (by decide)
 have hp':=(hp.mono (C:=68719476736) (by decide)).2.2.2.2.2.2.2.2.2.1
 unfold oG eG aU0 aI pj4 zz8 zz9
 have ha:=hx.2.2.2.1
 simp only [aM,bAg hx',bAt,aA,aD (b:=1) (n:=([]:List Int).length) (by decide) (by simpa using hp'),aD (b:=24) (n:=x.2.2.2.length) (m:=1) (by decide) (by omega),zZ,bZ4]
 cases aBm x p<;>cases p.2.2.2.2.2.2.2.2.1==x.2.2.1<;>cases decide (x.2.2.1<20)<;>rfl

theorem bHw (x:den tIb) (p:den tPk):tot (.sl tMs) (eG x p).2.2.2<=tot (.sl tMs) x.2.2.2+1+tot (.sl tb) p.2.2.2.2.2.2.2.2.2:=by
 unfold eG
 split
 ·rw [tO,aGc]
  show _+(1+tot (.sl tb) _)<=_
  omega
 ·omega

def aSa (f:den tFl) (p:den tPk):Bool:=p.1==2&&(p.2.1==f.2.1&&(p.2.2.1==f.1&&(p.2.2.2.2.2.2.2.2.1==f.2.2.2.1&&inR f.2.2.2.1 0 ((f.2.2.2.2.1.length:Int) - 1))))

def vF (f:den tFl) (p:den tPk):den tFl:=if aSa f p then (f.1,f.2.1,f.2.2.1,wr (f.2.2.2.1+1),f.2.2.2.2.1,f.2.2.2.2.2.1,f.2.2.2.2.2.2.1,0,f.2.2.2.2.2.2.2.2) else f

theorem bSe {f:den tFl} {p:den tPk} (hf:SmB 68719476736 tFl f):tG f p=some (oB (vF f p)):=by
 unfold tG vF aSa pj3 pj9 zz4 zz5 zz6 zz8
 have e5:wr ((f.2.2.2.2.1.length:Int) - 1)=(f.2.2.2.2.1.length:Int) - 1:=wri (by have :=hf.2.2.2.2.1.1;omega) (by have :=hf.2.2.2.2.1.1;omega)
 simp only [aM,aI8 hf,aA,kZ,e5]
 cases p.1==2<;>cases p.2.1==f.2.1<;>cases p.2.2.1==f.1<;>cases p.2.2.2.2.2.2.2.2.1==f.2.2.2.1<;>cases inR f.2.2.2.1 0 ((f.2.2.2.2.1.length:Int) - 1)<;>rfl

theorem aZy {f:den tFl} {p:den tPk} (hf:SmB 68719476736 tFl f):qC f p=some (oB (vF f p)):=by
 unfold qC vF aSa pj3 pj9 zz4 zz5 zz6 zz8
 have e5:wr ((f.2.2.2.2.1.length:Int) - 1)=(f.2.2.2.2.1.length:Int) - 1:=wri (by have :=hf.2.2.2.2.1.1;omega) (by have :=hf.2.2.2.2.1.1;omega)
 simp only [aM,aD8 hf,aA,fG,e5]
 cases p.1==2<;>cases p.2.1==f.2.1<;>cases p.2.2.1==f.1<;>cases p.2.2.2.2.2.2.2.2.1==f.2.2.2.1<;>cases inR f.2.2.2.1 0 ((f.2.2.2.2.1.length:Int) - 1)<;>rfl

theorem aZo (f:den tFl) (p:den tPk):(vF f p).2.2.2.2.1=f.2.2.2.2.1∧(vF f p).2.2.2.2.2.1=f.2.2.2.2.2.1∧(vF f p).2.2.2.2.2.2.2.2=f.2.2.2.2.2.2.2.2:=by
 unfold vF
 split<;>exact ⟨rfl,rfl,rfl⟩

def enq (f:den tFl) (b:List Int):den tFl:=(f.1,f.2.1,f.2.2.1,f.2.2.2.1,f.2.2.2.2.1++[b],f.2.2.2.2.2.1,f.2.2.2.2.2.2.1,f.2.2.2.2.2.2.2.1,f.2.2.2.2.2.2.2.2)

def aOm (f:den tFl) (b:List Int):Int×Int×Int×Int×Int×Int×Bool×lMs×lPt×lRv:=
 if gR (enq f b) then (f.1,f.2.1,f.2.2.1,f.2.2.2.1,f.2.2.2.2.2.2.1,f.2.2.2.2.2.2.2.1,true,f.2.2.2.2.1++[b],f.2.2.2.2.2.1,f.2.2.2.2.2.2.2.2)
 else (f.1,f.2.1,f.2.2.1,f.2.2.2.1,f.2.2.2.2.2.2.1,f.2.2.2.2.2.2.2.1,false,f.2.2.2.2.1,f.2.2.2.2.2.1,f.2.2.2.2.2.2.2.2)

theorem bIi {f:den tFl} {b:List Int} (hf:SmB 4294967296 tFl f) (hb:SmB 4294967296 (.sl tb) b):SmB 68719476736 tFl (enq f b):=by
 have hf':=hf.mono (C:=68719476736) (by decide)
 refine ⟨hf'.1,hf'.2.1,hf'.2.2.1,hf'.2.2.2.1,⟨?_,fun e he=> ?_⟩,hf'.2.2.2.2.2.1,hf'.2.2.2.2.2.2.1,hf'.2.2.2.2.2.2.2.1,hf'.2.2.2.2.2.2.2.2⟩
 ·show (f.2.2.2.2.1++[b]).length<=_
  have :=hf.2.2.2.2.1.1
  rw [bZ5,cAt];omega
 ·rcases bZh.1 he with he | he
  ·exact hf'.2.2.2.2.1.2 e he
  ·rw [List.mem_singleton.1 he];exact hb.mono (by decide)

theorem bW0 {f:den tFl} {b:List Int} (hf:SmB 4294967296 tFl f) (hb:SmB 4294967296 (.sl tb) b):xU f b=some (aOm f b):=by
 unfold xU aOm pj2 pj3 pj9 zz4 zz5 zz6 zz7 zz8
 have hf':=hf.mono (C:=68719476736) (by decide)
 have h1:=hf.2.2.2.2.1.1
 have h2:mE (f.1,f.2.1,f.2.2.1,f.2.2.2.1,f.2.2.2.2.1++[b],f.2.2.2.2.2.1,f.2.2.2.2.2.2.1,f.2.2.2.2.2.2.2.1,f.2.2.2.2.2.2.2.2)=some (gR (enq f b)):=aXn (f:=enq f b) (bIi hf hb)
 simp only [aM,aI8 hf',aGg (b:=b) (bY8 hb.1 (by decide)),aA,oB,aD (b:=24) (n:=f.2.2.2.2.1.length) (m:=1) (by decide) (by omega),zZ,h2]
 cases gR (enq f b)<;>rfl

theorem bN8 {f:den tFl} {b:List Int} (hf:SmB 4294967296 tFl f) (hb:SmB 4294967296 (.sl tb) b):rL f b=some (aOm f b):=by
 unfold rL aOm pj2 pj3 pj9 zz4 zz5 zz6 zz7 zz8
 have hf':=hf.mono (C:=68719476736) (by decide)
 have h1:=hf.2.2.2.2.1.1
 have h2:jD (f.1,f.2.1,f.2.2.1,f.2.2.2.1,f.2.2.2.2.1++[b],f.2.2.2.2.2.1,f.2.2.2.2.2.2.1,f.2.2.2.2.2.2.2.1,f.2.2.2.2.2.2.2.2)=some (gR (enq f b)):=aOf (f:=enq f b) (bIi hf hb)
 simp only [aM,aD8 hf',aA,oB,aD (b:=1) (n:=([]:List Int).length) (m:=b.length) (by decide) (by have :=hb.1;simp;omega),aD (b:=24) (n:=f.2.2.2.2.1.length) (m:=1) (by decide) (by omega),zZ,bZ4,h2]
 cases gR (enq f b)<;>rfl

def jY (k:Int):Bool:=k==1||k==3

theorem aM1 (k:Int):dJ k=some (jY k):=by
 unfold dJ jY
 cases k==1<;>rfl

theorem aEa (k:Int):dI k=some (jY k):=by
 unfold dI jY
 cases k==1<;>rfl

def pIn (p:den tPp) (h:den cH):Int:=if jY p.1 then h.2.2.1 else h.2.1

def pEg (p:den tPp) (h:den cH):Int:=if jY p.1 then h.2.1 else h.2.2.1

theorem mD {n:Nat} (h:n<=68719476736):wr ((n:Int) - 1)=(n:Int) - 1:=wri (by omega) (by omega)

theorem aMz {k n:Nat} (h:k<n):inR (k:Int) 0 ((n:Int) - 1)=true:=by rw [bT];omega

theorem bEf {p:den tPp} {k:Nat} {h:den cH} (hk:p.2.2.2[k]? =some h) (hl:p.2.2.2.length<=68719476736):fL p (k:Int)=some (pIn p h):=by
 have hlt:k<p.2.2.2.length:=(bZf.1 hk).1
 unfold fL pIn
 simp only [kZ,mD hl,aMz hlt,aA,bY9,zY,aM1,aG,hk]
 cases jY p.1<;>rfl

theorem bE1 {p:den tPp} {k:Nat} {h:den cH} (hk:p.2.2.2[k]? =some h) (hl:p.2.2.2.length<=68719476736):eY p (k:Int)=some (pIn p h):=by
 have hlt:k<p.2.2.2.length:=(bZf.1 hk).1
 unfold eY pIn
 simp only [fG,mD hl,aMz hlt,aA,bY9,zY,aEa,aG,hk]
 cases jY p.1<;>rfl

theorem bCs {p:den tPp} {k:Nat} {h:den cH} (hk:p.2.2.2[k]? =some h) (hl:p.2.2.2.length<=68719476736):fS p (k:Int)=some (pEg p h):=by
 have hlt:k<p.2.2.2.length:=(bZf.1 hk).1
 unfold fS pEg
 simp only [kZ,mD hl,aMz hlt,aA,bY9,zY,aM1,aG,hk]
 cases jY p.1<;>rfl

theorem aVe {p:den tPp} {k:Nat} {h:den cH} (hk:p.2.2.2[k]? =some h) (hl:p.2.2.2.length<=68719476736):dK p (k:Int)=some (pEg p h):=by
 have hlt:k<p.2.2.2.length:=(bZf.1 hk).1
 unfold dK pEg
 simp only [fG,mD hl,aMz hlt,aA,bY9,zY,aEa,aG,hk]
 cases jY p.1<;>rfl

def zP (nf:Bool) (p:den tPp) (i:Nat) (h:den cH) (out:dN):dN:=
 match out.getLast? with
 | some z=>if nf&&(decide (i=0)&&z.1==h.1) then out.dropLast++[(h.1,z.2.1,pEg p h)] else out++[(h.1,pIn p h,pEg p h)]
 | none=>out++[(h.1,pIn p h,pEg p h)]

theorem aOi (nf:Bool) (p:den tPp) (i:Nat) (h:den cH) (out:dN):(zP nf p i h out).length<=out.length+1:=by
 unfold zP
 split
 ·split
  ·simp only [bZ5,List.length_dropLast,cAt];omega
  ·simp
 ·simp

def rV (nf:Bool) (p:den tPp) (a:dN):dN:=cN (fun i h b=>zP nf p i h b) 0 p.2.2.2 a

def aBt (p:den tPt):dN:=cN (fun k x a=>rV (decide (0<k)) x a) 0 p []

def aIm (l:dN):dN:=
 match l with
 | []=>[]
 | x::xs=>let m:=(x.1,0,x.2.2)::xs
  match m.getLast? with
  | some y=>m.dropLast++[(y.1,y.2.1,0)]
  | none=>[]

def hU (p:den tPt):dN:=aIm (aBt p)

theorem bLb (l:dN):(aIm l).length=l.length:=by
 unfold aIm
 split
 ·rfl
 ·rename_i x xs
  simp only
  rw [List.getLast?_eq_some_getLast (by simp)]
  simp

theorem aJh (p:den tPt):(p.map fun x=>x.2.2.2.length).sum<=tot tPt p:=by
 show _<=tot (.sl tPp) p
 rw [← aRq]
 induction p with
 | nil=>exact bZq _
 | cons x p ih=>
  simp only [bZv,cAn]
  have h1:x.2.2.2.length<=tot tPp x:=by
   show _<=tot ti x.1+(tot ti x.2.1+(tot ti x.2.2.1+tot (.sl cH) x.2.2.2))
   rw [kF rfl];omega
  omega

theorem bJc {n:Nat} (h:n<=68719476736) (h0:0<n):wr ((n:Int) - 1)=((n - 1:Nat):Int):=by
 rw [mD h];omega

theorem aGh {α:Type} {m:List α} {z:α} (h:(m++[z]).length<=68719476736):wr (((m++[z]).length:Int) - 1)=(m.length:Int):=by
 rw [bJc h (by simp)];simp

theorem aMl (nf:Bool) (p:den tPp) (a:dN):(rV nf p a).length<=a.length+p.2.2.2.length:=by
 have :=aCo (m:=bZo) (cost:=fun _=>1) (fun i h b=>aOi nf p i h b) p.2.2.2 0 a
 rw [eZ] at this
 exact this

theorem aJx (p:den tPt):(aBt p).length<=tot tPt p:=by
 have :=aCo (m:=bZo) (cost:=fun x:den tPp=>x.2.2.2.length) (fun k x a=>aMl (decide (0<k)) x a) p 0 []
 have h2:=aJh p
 have h3:(aBt p).length<=0+(p.map fun x=>x.2.2.2.length).sum:=this
 omega

theorem aC1 (p:den tPt):(hU p).length<=tot tPt p:=by
 unfold hU;rw [bLb];exact aJx p

theorem bBk (k:Nat):decide ((k:Int)>0)=decide (0<k):=by rw [bZy];simp

theorem aX4 (i:Nat):((i:Int)==0)=decide (i=0):=by rw [bZy];simp

theorem aX8 (nf:Bool) (p:den tPp) (i:Nat) (h:den cH):zP nf p i h []=[(h.1,pIn p h,pEg p h)]:=rfl

theorem aTq (nf:Bool) (p:den tPp) (i:Nat) (h:den cH) (m:dN) (z:den aAf):zP nf p i h (m++[z])=if nf&&(decide (i=0)&&z.1==h.1) then m++[(h.1,z.2.1,pEg p h)] else (m++[z])++[(h.1,pIn p h,pEg p h)]:=by
 unfold zP
 rw [cBt,cCk]

theorem aT3 {m:dN} {x z:den aAf} {xs:dN} (h:(x.1,(0:Int),x.2.2)::xs=m++[z]):aIm (x::xs)=m++[(z.1,z.2.1,0)]:=by
 unfold aIm
 simp only
 rw [h,cBt,cCk]

theorem aRv {p:den tPt} (h:tot tPt p<=34359738368):kW p=some (hU p):=by
 have hs:=aJh p
 have sm:SmB 34359738368 tPt p:=bF h
 have hl:=aJx p
 unfold kW ixb pj4
 rw [oI (fun k (a:dN)=>((k:Int),a)) ((0:Int),[]) [] p (fun k x a=>rV (decide (0<k)) x a) bZo (fun x=>x.2.2.2.length) 34359738368 id rfl (bY8 sm.1 (by decide)) (by simp only [cBk];omega) (fun k x a=>aMl _ x a) (fun k x a hi hx hd hw hk hb=>by
  have hxl:x.2.2.2.length<=34359738368:=(sm.2 x (bZk hx)).2.2.2.1
  simp only [hd,hi,hw,zZ,aA]
  rw [oI (fun i (b:dN)=>((i:Int),b)) ((0:Int),a) a x.2.2.2 (fun i h b=>zP (decide (0<k)) x i h b) bZo (fun _=>1) 34359738368 id rfl (bY8 hxl (by decide)) (by rw [eZ];exact hb) (fun i h b=>aOi _ x i h b) (fun i g b hi2 hg hd2 hw2 hk2 hb2=>by
   have hl2:x.2.2.2.length<=68719476736:=by omega
   simp only [hd2,hi2,hw2,zZ,aA,aM,bEf hg hl2,bCs hg hl2,bBk,aX4,aD (b:=24) (n:=b.length) (m:=1) (by decide) (by omega)]
   rcases mU b with rfl | ⟨m,z,rfl⟩
   ·rw [aX8]
    cases decide (0<k)<;>cases decide (i=0)<;>rfl
   ·rw [aTq,aGh (by omega)]
    simp only [fI,bKg,aF6,aKu,zZ,bZi,aA,aO6]
    cases decide (0<k)<;>cases decide (i=0)<;>cases hz:z.1==g.1<;>simp [hz]
    simpa using hz) (fun b=>by simp)]
  rfl) (fun a=>by simp)]
 simp only [aA,id]
 rw [show cN (fun k x a=>rV (decide (0<k)) x a) 0 p []=aBt p from rfl]
 show _=some (aIm (aBt p))
 generalize aBt p=l at hl
 cases l with
 | nil=>rfl
 | cons x xs=>
  have e1:decide ((((x::xs).length:Nat):Int)>0)=true:=by simp
  have e2:decide ((0:Int)<(((x::xs).length:Nat):Int))=true:=by simp
  have e3:(0:Int).toNat=0:=rfl
  have e4:decide ((0:Int)<=0)=true:=rfl
  simp only [e1,e2,e3,e4,zZ,cB0,aA,List.set_cons_zero]
  rcases mU ((x.1,(0:Int),x.2.2)::xs) with h0 | ⟨m,z,hm⟩
  ·cases h0
  ·have hlen:((x.1,(0:Int),x.2.2)::xs).length=(x::xs).length:=rfl
   rw [aT3 hm]
   rw [hm] at hlen ⊢
   rw [aGh (by omega)]
   simp only [fI,aF6,aKu,zZ,bZi,aA,aO6]

theorem aGd {p:den tPt} (h:tot tPt p<=34359738368):eV p=some (hU p):=by
 have hs:=aJh p
 have sm:SmB 34359738368 tPt p:=bF h
 have hl:=aJx p
 unfold eV ixb pj4
 rw [oI (fun k (a:dN)=>((k:Int),a)) ((0:Int),[]) [] p (fun k x a=>rV (decide (0<k)) x a) bZo (fun x=>x.2.2.2.length) 34359738368 id rfl (bY8 sm.1 (by decide)) (by simp only [cBk];omega) (fun k x a=>aMl _ x a) (fun k x a hi hx hd hw hk hb=>by
  have hxl:x.2.2.2.length<=34359738368:=(sm.2 x (bZk hx)).2.2.2.1
  simp only [hd,hi,hw,zZ,aA]
  rw [oI (fun i (b:dN)=>((i:Int),b)) ((0:Int),a) a x.2.2.2 (fun i h b=>zP (decide (0<k)) x i h b) bZo (fun _=>1) 34359738368 id rfl (bY8 hxl (by decide)) (by rw [eZ];exact hb) (fun i h b=>aOi _ x i h b) (fun i g b hi2 hg hd2 hw2 hk2 hb2=>by
   have hl2:x.2.2.2.length<=68719476736:=by omega
   simp only [hd2,hi2,hw2,zZ,aA,aM,bE1 hg hl2,aVe hg hl2,aV,bJ,aZ,aY,bA,bBk,aX4]
   rcases mU b with rfl | ⟨m,z,rfl⟩
   ·rw [aX8]
    cases decide (0<k)<;>cases decide (i=0)<;>rfl
   ·rw [aTq,aGh (by omega)]
    have e1:decide (((m++[z]).length:Int)>0)=true:=by simp
    have e2:bR (0:Int) (m.length:Int) ((m++[z]).length:Int)=true:=by simp [bR];omega
    have e3:(m++[z]).take m.length=m:=by simp
    have e4:=aD (b:=24) (n:=m.length) (m:=1) (by decide) (by simp at hb2;omega)
    have e5:=aD (b:=24) (n:=m.length+1) (m:=1) (by decide) (by simp at hb2;omega)
    simp only [fI,e1,e2,e3,aF6,aKu,zZ,bZi,aA]
    cases decide (0<k)<;>cases decide (i=0)<;>cases hz:z.1==g.1<;>simp [hz,e4,e5]) (fun b=>by simp [hi])]
  rfl) (fun a=>by simp)]
 simp only [aA,id]
 rw [show cN (fun k x a=>rV (decide (0<k)) x a) 0 p []=aBt p from rfl]
 show _=some (aIm (aBt p))
 generalize aBt p=l at hl
 cases l with
 | nil=>rfl
 | cons x xs=>
  have e1:decide ((((x::xs).length:Nat):Int)>0)=true:=by simp
  have e2:decide ((0:Int)<(((x::xs).length:Nat):Int))=true:=by simp
  have e3:(0:Int).toNat=0:=rfl
  have e4:decide ((0:Int)<=0)=true:=rfl
  have e5:decide (0<(x::xs).length)=true:=by simp
  simp only [e1,e2,e3,e4,e5,zZ,cB0,aA,List.set_cons_zero]
  rcases mU ((x.1,(0:Int),x.2.2)::xs) with h0 | ⟨m,z,hm⟩
  ·cases h0
  ·have hlen:((x.1,(0:Int),x.2.2)::xs).length=(x::xs).length:=rfl
   rw [aT3 hm]
   rw [hm] at hlen ⊢
   rw [aGh (by omega)]
   have e6:decide (m.length<(m++[z]).length)=true:=by simp
   simp only [fI,aF6,aKu,e6,zZ,bZi,aA,aO6]

def ends (p:den tPt):q25:=
 match (hU p).head?,(hU p).getLast? with
 | some x,some y=>(x.1,y.1)
 | _,_=>(-1,-1)

theorem bUu {p:den tPt} (h:tot tPt p<=34359738368):tF p=some (ends p):=by
 unfold tF ends ixb
 have hl:=aC1 p
 rw [aRv h,aA]
 generalize hU p=l at hl
 rcases mU l with rfl | ⟨m,z,rfl⟩
 ·rfl
 ·rw [aGh (by omega)]
  have e1:(((m++[z]).length:Int)==0)=false:=by simp<;>omega
  have e2:decide ((0:Int)<((m++[z]).length:Int))=true:=by simp<;>omega
  have e3:decide ((0:Int)<=0)=true:=rfl
  rw [e1,e2,e3,fI,aF6,cBt]
  cases m with
  | nil=>rfl
  | cons x m=>simp

theorem bU0 {p:den tPt} (h:tot tPt p<=34359738368):tB p=some (ends p):=by
 unfold tB ends ixb
 have hl:=aC1 p
 rw [aGd h,aA]
 generalize hU p=l at hl
 rcases mU l with rfl | ⟨m,z,rfl⟩
 ·rfl
 ·rw [aGh (by omega)]
  have e1:(((m++[z]).length:Int)==0)=false:=by simp<;>omega
  have e2:decide ((0:Int)<((m++[z]).length:Int))=true:=by simp<;>omega
  have e3:decide ((0:Int)<=0)=true:=rfl
  rw [e1,e2,e3,fI,aF6,cBt]
  cases m with
  | nil=>rfl
  | cons x m=>simp


def pkR (p:den tPk):q3:=(p.1,p.2.1,p.2.2.1,p.2.2.2.2.1,p.2.2.2.2.2.1,p.2.2.2.2.2.2.1,p.2.2.2.2.2.2.2.1,p.2.2.2.2.2.2.2.2.1,p.2.2.2.1,p.2.2.2.2.2.2.2.2.2)

def bWm (p:den tPt):Int:=match p with
 | []=>0
 | x::_=>x.2.2.1

def aFx (kind:Int) (p:den tPt) (res seq:Int) (pay:List Int):den tPk:=(kind,(ends p).1,(ends p).2,p,0,0,bWm p,res,seq,pay)

theorem aRo {kind res seq:Int} {p:den tPt} {pay:List Int} (h:tot tPt p<=34359738368) (hp:pay.length<=68719476736):kR kind p res seq pay=some (pkR (aFx kind p res seq pay)):=by
 unfold kR zz4 zz5 zz6 zz7
 rw [aNk ((bF h).mono (by decide)),aGg hp,bUu h]
 simp only [aA]
 cases p with
 | nil=>rfl
 | cons x p=>
  have e1:decide (((x::p).length:Int)>0)=true:=by simp
  rw [e1];rfl

theorem aNf {kind res seq:Int} {p:den tPt} {pay:List Int} (h:tot tPt p<=34359738368) (hp:pay.length<=68719476736):cL kind p res seq pay=some (pkR (aFx kind p res seq pay)):=by
 unfold cL zz4 zz5 zz6 zz7
 rw [aF8 ((bF h).mono (by decide)),bU0 h,aD (b:=1) (n:=([]:List Int).length) (by decide) (by simpa using hp)]
 simp only [aA,zZ,bZ4]
 cases p with
 | nil=>rfl
 | cons x p=>
  have e1:decide (((x::p).length:Int)>0)=true:=by simp
  rw [e1];rfl

def aLu (k:Int):Int:=if k=1 then 4 else if k=4 then 1 else if k=2 then 3 else if k=3 then 2 else k

theorem bTl (k:Int):oZ k=some (aLu k):=by
 unfold oZ aLu
 by_cases h1:k=1
 ·subst h1;rfl
 by_cases h2:k=4
 ·subst h2;rfl
 by_cases h3:k=2
 ·subst h3;rfl
 by_cases h4:k=3
 ·subst h4;rfl
 have b1:(k==1)=false:=by simpa using h1
 have b2:(k==4)=false:=by simpa using h2
 have b3:(k==2)=false:=by simpa using h3
 have b4:(k==3)=false:=by simpa using h4
 rw [b1,b2,b3,b4,zS h1,zS h2,zS h3,zS h4];rfl

theorem bVi (k:Int):mW k=some (aLu k):=by
 unfold mW aLu
 by_cases h1:k=1
 ·subst h1;rfl
 by_cases h2:k=4
 ·subst h2;rfl
 by_cases h3:k=2
 ·subst h3;rfl
 by_cases h4:k=3
 ·subst h4;rfl
 have b1:(k==1)=false:=by simpa using h1
 have b2:(k==4)=false:=by simpa using h2
 have b3:(k==2)=false:=by simpa using h3
 have b4:(k==3)=false:=by simpa using h4
 rw [b1,b2,b3,b4,zS h1,zS h2,zS h3,zS h4];rfl

def jX (n:Int):Bool:=inR n 0 2147483646

theorem aF4 (n:Int):dH n=some (jX n):=by unfold dH jX;rw [kZ];rfl

theorem aEh (n:Int):lJ n=some (jX n):=by unfold lJ jX;rw [fG];rfl

def aPa (b s:Int):Int:=if jX b&&jX s then bZ0 (wr (b+s)) 2147483647 else 0

def aKe (b s:Int):Int:=if jX b&&jX s then bZ0 (wr ((wr (b - s))+2147483647)) 2147483647 else 0

theorem bGe (b s:Int):sA b s=some (aPa b s):=by
 unfold sA aPa
 simp only [aF4,aA]
 cases jX b<;>cases jX s<;>rfl

theorem aXv (b s:Int):rZ b s=some (aPa b s):=by
 unfold rZ aPa
 simp only [aEh,aA]
 cases jX b<;>cases jX s<;>rfl

theorem bHe (b s:Int):wH b s=some (aKe b s):=by
 unfold wH aKe
 simp only [aF4,aA]
 cases jX b<;>cases jX s<;>rfl

theorem bIb (b s:Int):wO b s=some (aKe b s):=by
 unfold wO aKe
 simp only [aEh,aA]
 cases jX b<;>cases jX s<;>rfl

def aCj (k:Int) (b:Int) (h:den cH):Int:=if jY k then aKe b h.2.2.2.2 else aPa b h.2.2.2.2

def aH2 (p:den tPp) (n:Nat):Int:=(p.2.2.2.take n).foldl (aCj p.1) p.2.2.1

theorem bSg {p:den tPp} {n:Nat} (hn:n<=p.2.2.2.length) (hl:p.2.2.2.length<=68719476736):mN p (n:Int)=some (aH2 p n):=by
 unfold mN aH2 zz4
 have e1:inR (n:Int) 0 (p.2.2.2.length:Int)=true:=by rw [bT];omega
 have e2:bR (0:Int) (n:Int) (p.2.2.2.length:Int)=true:=by simp [bR];omega
 rw [kZ,e1,aA,e2,fF]
 have hlen:(p.2.2.2.take n).length<=4611686018427387904:=by rw [cAh];omega
 rw [oI (fun k (b:Int)=>(b,(k:Int))) (p.2.2.1,(0:Int)) p.2.2.1 (p.2.2.2.take n) (fun _ h b=>aCj p.1 b h) (fun _=>0) (fun _=>0) 0 id rfl hlen (by rw [sum_nil];exact bZq _) (fun _ _ _=>bZq _) (fun k x b hi hx hd hw hk hb=>by
  simp only [hd,hi,hw,zZ,aA,aM1,bHe,bGe,aCj]
  cases jY p.1<;>rfl) (fun b=>by simp),wL (fun b h=>aCj p.1 b h)]
 rfl

theorem aS8 {p:den tPp} {n:Nat} (hn:n<=p.2.2.2.length) (hl:p.2.2.2.length<=68719476736):iB p (n:Int)=some (aH2 p n):=by
 unfold iB aH2 zz4
 have e1:inR (n:Int) 0 (p.2.2.2.length:Int)=true:=by rw [bT];omega
 have e3:(p.2.2.2.take n).length=n:=by rw [cAh];omega
 rw [fG,e1,aA]
 rw [oI (fun k (b:Int)=>(b,(k:Int))) (p.2.2.1,(0:Int)) p.2.2.1 (p.2.2.2.take n) (fun _ h b=>aCj p.1 b h) (fun _=>0) (fun _=>0) 0 id rfl (by rw [e3];omega) (by rw [sum_nil];exact bZq _) (fun _ _ _=>bZq _) (fun k x b hi hx hd hw hk hb=>by
  have hx':p.2.2.2[k]? =some x:=by rw [List.getElem?_take] at hx;split at hx;exact hx;cases hx
  rw [e3] at hd
  simp only [hd,hw,zZ,aA,aG,hx',aEa,bIb,aXv,aCj]
  cases jY p.1<;>rfl) (fun b=>by rw [e3];simp),wL (fun b h=>aCj p.1 b h)]
 rfl

def yV (p:den tPp):den tPp:=(aLu p.1,p.2.1,aH2 p p.2.2.2.length,p.2.2.2.reverse)

theorem bUv {l:dA} (hl:l.length<=68719476736):jC l=some l.reverse:=by
 unfold jC pj5
 have e:wr ((l.length:Int) - 1)=(l.length:Int) - 1:=mD hl
 rw [e,aVr (fun k (a:dA)=>(k,a)) ((l.length:Int) - 1,[]) [] l (fun x a=>a++[x]) bZo (fun _=>1) 68719476736 id rfl (by omega) (by rw [eZ];simpa using hl) (fun x a=>by simp) (fun k x a hi hx hd hw hk hb=>by
  simp only [hd,hi,hw,zZ,aA,aM,aD (b:=40) (n:=a.length) (m:=1) (by decide) hb]) (fun a=>by simp),aE8 (fun x=>x)]
 simp

theorem bQz {p:den tPp} (hl:p.2.2.2.length<=68719476736):pI p=some (yV p):=by
 unfold pI yV pj4
 simp only [bTl,aM,bSg (bZq _) hl,bUv hl,aA]

theorem bQ1 {p:den tPp} (hl:p.2.2.2.length<=68719476736):pF p=some (yV p):=by
 unfold pF yV pj4 pj5 zz4
 simp only [bVi,aM,aS8 (bZq _) hl,aV,bJ,aZ,aY,bA,aA]
 have e:wr ((p.2.2.2.length:Int) - 1)=(p.2.2.2.length:Int) - 1:=mD hl
 rw [e,aVr (fun k (a:dA)=>(k,aLu p.1,p.2.1,aH2 p p.2.2.2.length,a)) ((p.2.2.2.length:Int) - 1,aLu p.1,p.2.1,aH2 p p.2.2.2.length,[]) [] p.2.2.2 (fun x a=>a++[x]) bZo (fun _=>1) 68719476736 (fun a=>(aLu p.1,p.2.1,aH2 p p.2.2.2.length,a)) rfl (by omega) (by rw [eZ];simpa using hl) (fun x a=>by simp) (fun k x a hi hx hd hw hk hb=>by
  simp only [hd,hi,hw,zZ,aA,aM,aD (b:=40) (n:=a.length) (m:=1) (by decide) hb]) (fun a=>by simp),aE8 (fun x=>x)]
 simp

def aDq (p:den tPt):den tPt:=p.reverse.map yV

theorem bHn {p:den tPt} (h:SmB 68719476736 tPt p):kT p=some (aDq p):=by
 unfold kT aDq pj4
 have e:wr ((p.length:Int) - 1)=(p.length:Int) - 1:=mD h.1
 rw [e,aVr (fun k (a:lPp)=>(k,a)) ((p.length:Int) - 1,[]) [] p (fun x a=>a++[yV x]) bZo (fun _=>1) 68719476736 id rfl (by have :=h.1;omega) (by rw [eZ];simpa using h.1) (fun x a=>by simp) (fun k x a hi hx hd hw hk hb=>by
  have hxl:=(h.2 x (bZk hx)).2.2.2.1
  simp only [hd,hi,hw,zZ,aA,aM,bQz hxl,aD (b:=48) (n:=a.length) (m:=1) (by decide) hb]) (fun a=>by simp),aE8 yV]
 simp

theorem bFu {p:den tPt} (h:SmB 68719476736 tPt p):kQ p=some (aDq p):=by
 unfold kQ aDq pj4
 have e:wr ((p.length:Int) - 1)=(p.length:Int) - 1:=mD h.1
 rw [e,aVr (fun k (a:lPp)=>(k,a)) ((p.length:Int) - 1,[]) [] p (fun x a=>a++[yV x]) bZo (fun _=>1) 68719476736 id rfl (by have :=h.1;omega) (by rw [eZ];simpa using h.1) (fun x a=>by simp) (fun k x a hi hx hd hw hk hb=>by
  have hxl:=(h.2 x (bZk hx)).2.2.2.1
  simp only [hd,hi,hw,zZ,aA,aM,bQ1 hxl,aD (b:=48) (n:=a.length) (m:=1) (by decide) hb]) (fun a=>by simp),aE8 yV]
 simp

theorem bF4 (p:den tPp):tot tPp (yV p)=tot tPp p:=by
 show tot ti _+(tot ti _+(tot ti _+tot (.sl cH) p.2.2.2.reverse))=tot ti _+(tot ti _+(tot ti _+tot (.sl cH) p.2.2.2))
 rw [aS5];rfl

theorem aPj {t:Ty} (g:den t→den t) (hg: ∀ x,tot t (g x)=tot t x): ∀ l:List (den t),tot (.sl t) (l.map g)=tot (.sl t) l
 | []=>rfl
 | x::l=>by rw [bZv,lM,lM,hg,aPj g hg l]

theorem aD0 (p:den tPt):tot tPt (aDq p)=tot tPt p:=by
 show tot (.sl tPp) (p.reverse.map yV)=tot (.sl tPp) p
 rw [aPj yV bF4,aS5]

def aM6 (pk:den tPk) (kind seq:Int) (pay:List Int):den tPk:=aFx kind (aDq pk.2.2.2.1) pk.2.2.2.2.2.2.2.1 seq pay

theorem bR8 {pk:den tPk} {kind seq:Int} {pay:List Int} (h:tot tPt pk.2.2.2.1<=34359738368) (hp:pay.length<=68719476736):aCq pk kind seq pay=some (pkR (aM6 pk kind seq pay)):=by
 unfold aCq aM6 aI zz7
 rw [bHn ((bF h).mono (by decide)),aA,aRo (by rw [aD0];exact h) hp]
 rfl

theorem bQw {pk:den tPk} {kind seq:Int} {pay:List Int} (h:tot tPt pk.2.2.2.1<=34359738368) (hp:pay.length<=68719476736):aC3 pk kind seq pay=some (pkR (aM6 pk kind seq pay)):=by
 unfold aC3 aM6 aI zz7
 rw [bFu ((bF h).mono (by decide)),aA,aNf (by rw [aD0];exact h) hp]
 rfl

def pk0:den tPk:=(0,0,0,[],0,0,0,0,0,[])


def pkB (p:den tPk) (b:Bool):q9:=(p.1,p.2.1,p.2.2.1,p.2.2.2.2.1,p.2.2.2.2.2.1,p.2.2.2.2.2.2.1,p.2.2.2.2.2.2.2.1,p.2.2.2.2.2.2.2.2.1,b,p.2.2.2.1,p.2.2.2.2.2.2.2.2.2)

def aC7 (x:den tIb) (p:den tPk):Bool:=aBm x p&& !decide (p.2.2.2.2.2.2.2.2.1>=x.2.2.1)

def nZ (x:den tIb) (p:den tPk):den tPk:=if aC7 x p then aM6 p 2 p.2.2.2.2.2.2.2.2.1 [] else pk0

theorem bS2 {x:den tIb} {p:den tPk} (h:tot tPt p.2.2.2.1<=34359738368):uZ x p=some (pkB (nZ x p) (aC7 x p)):=by
 unfold uZ nZ aC7 aI pj2 pj4 zz4 zz5 zz6 zz7 zz8
 simp only [aM,aZ3,aA,bR8 (pay:=[]) h (by simp)]
 cases aBm x p<;>cases decide (p.2.2.2.2.2.2.2.2.1>=x.2.2.1)<;>rfl

theorem bRx {x:den tIb} {p:den tPk} (h:tot tPt p.2.2.2.1<=34359738368):uT x p=some (pkB (nZ x p) (aC7 x p)):=by
 unfold uT nZ aC7 aI pj2 pj4 zz4 zz5 zz6 zz7 zz8
 simp only [aM,bAt,aA,bQw (pay:=[]) h (by simp)]
 cases aBm x p<;>cases decide (p.2.2.2.2.2.2.2.2.1>=x.2.2.1)<;>rfl

def yE (f:den tFl):Bool:=inR f.2.2.2.2.2.2.1 0 ((f.2.2.2.2.2.1.length:Int) - 1)&&inR f.2.2.2.1 0 ((f.2.2.2.2.1.length:Int) - 1)

def wR (f:den tFl):den tPk:=
 if yE f then aFx 1 ((f.2.2.2.2.2.1[f.2.2.2.2.2.2.1.toNat]?).getD []) f.2.2.1 f.2.2.2.1 ((f.2.2.2.2.1[f.2.2.2.1.toNat]?).getD []) else pk0

theorem aXm {t:Ty} {l:List (den t)} {d:den t} {i:Nat} (hd:tot t d=0):tot t ((l[i]?).getD d)<=tot (.sl t) l:=by
 cases h:l[i]? with
 | none=>simp [hd]
 | some x=>have :=zB h;simp;omega

theorem bBe {f:den tFl} (h:tot tFl f<=34359738368):eQ f=some (pkB (wR f) (yE f)):=by
 have h0:=bK (bK (bK (bK h)))
 have hm:=aHk h0
 have hp:=aHk (bK h0)
 have l1:=eW f.2.2.2.2.1
 have l2:=eW f.2.2.2.2.2.1
 unfold eQ wR yE pj2 zz4 zz5 zz6 zz7 zz8
 simp only [kZ,mD (n:=f.2.2.2.2.2.1.length) (by omega),mD (n:=f.2.2.2.2.1.length) (by omega),aA]
 cases c1:inR f.2.2.2.2.2.2.1 0 ((f.2.2.2.2.2.1.length:Int) - 1) with
 | false=>rfl
 | true=>
  cases c2:inR f.2.2.2.1 0 ((f.2.2.2.2.1.length:Int) - 1) with
  | false=>rfl
  | true=>
   rw [bT] at c1 c2
   rw [aPw c1.1 (by omega),aPw c2.1 (by omega)]
   have e1:f.2.2.2.2.2.1[f.2.2.2.2.2.2.1.toNat]? =some (f.2.2.2.2.2.1[f.2.2.2.2.2.2.1.toNat]'(by omega)):=bY7 (by omega)
   have e2:f.2.2.2.2.1[f.2.2.2.1.toNat]? =some (f.2.2.2.2.1[f.2.2.2.1.toNat]'(by omega)):=bY7 (by omega)
   have t1:=zB e1
   have t2:=zB e2
   have t3:=eW (t:=tb) (f.2.2.2.2.1[f.2.2.2.1.toNat]'(by omega))
   simp only [aA,bY9,zY]
   rw [aRo (by omega) (by have t2:1+tot (.sl tb) _<=_:=t2;omega),e1,e2]
   rfl

theorem aZw {f:den tFl} (h:tot tFl f<=34359738368):eP f=some (pkB (wR f) (yE f)):=by
 have h0:=bK (bK (bK (bK h)))
 have hm:=aHk h0
 have hp:=aHk (bK h0)
 have l1:=eW f.2.2.2.2.1
 have l2:=eW f.2.2.2.2.2.1
 unfold eP wR yE pj2 zz4 zz5 zz6 zz7 zz8
 simp only [fG,mD (n:=f.2.2.2.2.2.1.length) (by omega),mD (n:=f.2.2.2.2.1.length) (by omega),aA]
 cases c1:inR f.2.2.2.2.2.2.1 0 ((f.2.2.2.2.2.1.length:Int) - 1) with
 | false=>cases inR f.2.2.2.1 0 ((f.2.2.2.2.1.length:Int) - 1)<;>rfl
 | true=>
  cases c2:inR f.2.2.2.1 0 ((f.2.2.2.2.1.length:Int) - 1) with
  | false=>rfl
  | true=>
   rw [bT] at c1 c2
   rw [aPw c1.1 (by omega),aPw c2.1 (by omega)]
   have e1:f.2.2.2.2.2.1[f.2.2.2.2.2.2.1.toNat]? =some (f.2.2.2.2.2.1[f.2.2.2.2.2.2.1.toNat]'(by omega)):=bY7 (by omega)
   have e2:f.2.2.2.2.1[f.2.2.2.1.toNat]? =some (f.2.2.2.2.1[f.2.2.2.1.toNat]'(by omega)):=bY7 (by omega)
   have t1:=zB e1
   have t2:=zB e2
   have t3:=eW (t:=tb) (f.2.2.2.2.1[f.2.2.2.1.toNat]'(by omega))
   simp only [aA,bY9,zY]
   rw [aNf (by omega) (by have t2:1+tot (.sl tb) _<=_:=t2;omega),e1,e2]
   rfl

def vM (f:den tFl):Int:=if wr (f.2.2.2.2.2.2.1+1)>=(f.2.2.2.2.2.1.length:Int) then 0 else wr (f.2.2.2.2.2.2.1+1)

def rT (f:den tFl) (c w:Int):den tFl:=(f.1,f.2.1,f.2.2.1,f.2.2.2.1,f.2.2.2.2.1,f.2.2.2.2.2.1,c,w,f.2.2.2.2.2.2.2.2)

theorem aH9 (f:den tFl) (c w:Int):tot tFl (rT f c w)=tot tFl f:=rfl


def aF (f:den tFl):den tFl×den tPk×Bool:=
 if yE f then
  if f.2.2.2.2.2.2.2.1==0 then (rT f f.2.2.2.2.2.2.1 1,wR f,true)
  else if f.2.2.2.2.2.2.2.1==4 then (rT f (vM f) 1,wR (rT f (vM f) 1),yE (rT f (vM f) 1))
  else (rT f f.2.2.2.2.2.2.1 (wr (f.2.2.2.2.2.2.2.1+1)),pk0,false)
 else (rT f f.2.2.2.2.2.2.1 0,pk0,false)


def dR (f:den tFl) (p:den tPk) (b:Bool):q10:=
 (f.1,f.2.1,f.2.2.1,f.2.2.2.1,f.2.2.2.2.2.2.1,f.2.2.2.2.2.2.2.1,p.1,p.2.1,p.2.2.1,p.2.2.2.2.1,p.2.2.2.2.2.1,p.2.2.2.2.2.2.1,p.2.2.2.2.2.2.2.1,p.2.2.2.2.2.2.2.2.1,b,f.2.2.2.2.1,f.2.2.2.2.2.1,f.2.2.2.2.2.2.2.2,p.2.2.2.1,p.2.2.2.2.2.2.2.2.2)

theorem bBf (f:den tFl):qK f=some (vM f):=by
 unfold qK vM zz5 zz6
 by_cases h:wr (f.2.2.2.2.2.2.1+1)>=(f.2.2.2.2.2.1.length:Int)
 ·rw [zX h,zT h];rfl
 ·rw [zW h,zS h];rfl

theorem bS6 {f:den tFl} (h:tot tFl f<=34359738368):vH f=some (dR (aF f).1 (aF f).2.1 (aF f).2.2):=by
 unfold vH aF pj2 pj9 aN bD bH cV jM zz4 zz5 zz6 zz7 zz8 zz9
 have e:eQ (f.1,f.2.1,f.2.2.1,f.2.2.2.1,f.2.2.2.2.1,f.2.2.2.2.2.1,vM f,1,f.2.2.2.2.2.2.2.2)=some (pkB (wR (rT f (vM f) 1)) (yE (rT f (vM f) 1))):=bBe (f:=rT f (vM f) 1) h
 simp only [aM,aI8 ((bF h).mono (by decide)),bBe h,bBf,aA,aV,bJ,aZ,aY,bA,oB,e]
 cases c1:yE f with
 | false=>simp only [pkB,bZj,zZ];rfl
 | true=>
  simp only [pkB,bY9,zY,zV]
  cases c2:f.2.2.2.2.2.2.2.1==0 with
  | true=>rfl
  | false=>
   cases c3:f.2.2.2.2.2.2.2.1==4 with
   | true=>rfl
   | false=>rfl

theorem bKm {c:Int} {n:Nat} (h0:0<=c) (h1:c<=(n:Int) - 1) (hn:n<=68719476736):inR c 0 (wr ((n:Int) - 2))= !decide (wr (c+1)>=(n:Int)):=by
 have e1:wr ((n:Int) - 2)=(n:Int) - 2:=wri (by omega) (by omega)
 have e2:wr (c+1)=c+1:=wri (by omega) (by omega)
 rw [e1,e2,bZy,bT]
 simp
 omega

theorem bIl {f:den tFl} (h:SmB 68719476736 tFl f) (hs:inR f.2.2.2.2.2.2.1 0 ((f.2.2.2.2.2.1.length:Int) - 1)=true):tA f=some (oB (rT f (vM f) f.2.2.2.2.2.2.2.1)):=by
 unfold tA vM pj3 pj9 zz4 zz5 zz6
 have hl:=h.2.2.2.2.2.1.1
 rw [bT] at hs
 simp only [aM,aD8 h,fG,bKm hs.1 hs.2 hl,aA,oB]
 by_cases hc:wr (f.2.2.2.2.2.2.1+1)>=(f.2.2.2.2.2.1.length:Int)
 ·rw [zX hc,zT hc];rfl
 ·rw [zW hc,zS hc];rfl

theorem bSq {f:den tFl} (h:tot tFl f<=34359738368):uW f=some (dR (aF f).1 (aF f).2.1 (aF f).2.2):=by
 unfold uW aF pj2 pj9 aN bD bH cV jM zz4 zz5 zz6 zz7 zz8 zz9
 have sm:SmB 68719476736 tFl f:=(bF h).mono (by decide)
 have e:eP (f.1,f.2.1,f.2.2.1,f.2.2.2.1,f.2.2.2.2.1,f.2.2.2.2.2.1,vM f,1,f.2.2.2.2.2.2.2.2)=some (pkB (wR (rT f (vM f) 1)) (yE (rT f (vM f) 1))):=aZw (f:=rT f (vM f) 1) h
 simp only [aM,aD8 sm,aZw h,aA,aV,bJ,aZ,aY,bA]
 cases c1:yE f with
 | false=>simp only [pkB,oB,bZj,zZ];rfl
 | true=>
  have hs:inR f.2.2.2.2.2.2.1 0 ((f.2.2.2.2.2.1.length:Int) - 1)=true:=by
   unfold yE at c1;simp only [bZb] at c1;exact c1.1
  rw [bIl sm hs]
  simp only [pkB,oB,rT,aA,bY9,zY,zV,e]
  cases c2:f.2.2.2.2.2.2.2.1==0 with
  | true=>rfl
  | false=>
   cases c3:f.2.2.2.2.2.2.2.1==4 with
   | true=>rfl
   | false=>rfl

def cG (p:den tPk):Bool:=inR p.2.2.2.2.1 0 ((p.2.2.2.1.length:Int) - 1)&&inR p.2.2.2.2.2.1 0 (((((p.2.2.2.1[p.2.2.2.2.1.toNat]?).getD (0,0,0,[])).2.2.2.length:Nat):Int) - 1)

def cZ (p:den tPk):Int:=if cG p then ((((p.2.2.2.1[p.2.2.2.2.1.toNat]?).getD (0,0,0,[])).2.2.2[p.2.2.2.2.2.1.toNat]?).getD (0,0,0,0,0)).1 else -1

theorem aDo {p:den tPk} (h:cG p=true): ∃ (i j:Nat) (x:den tPp) (y:den cH),p.2.2.2.2.1=(i:Int)∧p.2.2.2.2.2.1=(j:Int)∧p.2.2.2.1[i]? =some x∧x.2.2.2[j]? =some y∧cZ p=y.1:=by
 have h':=h
 unfold cG at h'
 simp only [bZb,bT] at h'
 obtain ⟨⟨h1,h2⟩,h3,h4⟩:=h'
 obtain ⟨x,hx⟩:=aAk h1 h2
 rw [hx,bZ6] at h4
 obtain ⟨y,hy⟩:=aAk h3 h4
 refine ⟨p.2.2.2.2.1.toNat,p.2.2.2.2.2.1.toNat,x,y,(cBc h1).symm,(cBc h3).symm,hx,hy,?_⟩
 unfold cZ
 rw [h,zT rfl,hx,bZ6,hy,bZ6]

theorem aAt {p:den tPk} (c:cG p=false):cZ p= -1:=by unfold cZ;rw [c];rfl

theorem bP3 {p:den tPk} (h:SmB 68719476736 tPk p):vZ p=some (cG p):=by
 unfold vZ cG zz4 zz5
 have l1:=h.2.2.2.1.1
 rw [kZ,mD l1,aA]
 cases c1:inR p.2.2.2.2.1 0 ((p.2.2.2.1.length:Int) - 1) with
 | false=>rfl
 | true=>
  rw [bT] at c1
  obtain ⟨x,hx⟩:=aAk c1.1 c1.2
  rw [aIr c1.1 hx,hx]
  have l2:=(h.2.2.2.1.2 _ (bZk hx)).2.2.2.1
  simp only [zZ,aA,kZ,mD l2,bZ6,bZn]

theorem aF3 {p:den tPk} (h:SmB 68719476736 tPk p):dX p=some (cZ p):=by
 unfold dX aI zz4 zz5
 simp only [aM,bP3 h,aA]
 cases c:cG p with
 | false=>rw [aAt c];rfl
 | true=>
  obtain ⟨i,j,x,y,h1,h2,h3,h4,h5⟩:=aDo c
  rw [h1,h2,h5]
  simp only [bY9,zY,aG,h3,h4,aA]

theorem aGm {p:den tPk} (h:SmB 68719476736 tPk p):eA p=some (cZ p):=by
 unfold eA zz4 zz5
 have l1:=h.2.2.2.1.1
 rw [fG,mD l1,aA]
 cases c1:inR p.2.2.2.2.1 0 ((p.2.2.2.1.length:Int) - 1) with
 | false=>rw [aAt (by unfold cG;rw [c1];rfl)];rfl
 | true=>
  have c1':=c1
  rw [bT] at c1'
  obtain ⟨x,hx⟩:=aAk c1'.1 c1'.2
  rw [aIr c1'.1 hx]
  have l2:=(h.2.2.2.1.2 _ (bZk hx)).2.2.2.1
  simp only [bY9,zY,aA,fG,mD l2]
  cases c2:inR p.2.2.2.2.2.1 0 ((x.2.2.2.length:Int) - 1) with
  | false=>rw [aAt (by unfold cG;rw [c1,hx,bZ6,c2];rfl)];rfl
  | true=>
   have c:cG p=true:=by unfold cG;rw [c1,hx,bZ6,c2];rfl
   rw [bT] at c2
   obtain ⟨y,hy⟩:=aAk c2.1 c2.2
   rw [aIr c2.1 hy]
   unfold cZ
   rw [c,zT rfl,hx,bZ6,hy,bZ6]
   rfl

def aIv (p:den tPt) (i j:Nat):den tPt:=
 match p[i]? with
 | some x=>p.take i++[(x.1,x.2.1,x.2.2.1,x.2.2.2.take (j+1))]
 | none=>[]

def sD (p:den tPk):den tPt:=if cZ p<0 then [] else aIv p.2.2.2.1 p.2.2.2.2.1.toNat p.2.2.2.2.2.1.toNat

theorem aWe {p:den tPk} (h:SmB 68719476736 tPk p):gW p=some (sD p):=by
 unfold gW sD aI zz4 zz5
 simp only [aM,aF3 h,aA]
 by_cases hc:cZ p<0
 ·rw [zX hc,zZ,zT hc]
 ·rw [zW hc,zY,zS hc]
  cases c:cG p with
  | false=>rw [aAt c] at hc;exact absurd (by decide) hc
  | true=>
   obtain ⟨i,j,x,y,h1,h2,h3,h4,h5⟩:=aDo c
   have l1:=h.2.2.2.1.1
   have l2:=(h.2.2.2.1.2 _ (bZk h3)).2.2.2.1
   have hi:=(bZf.1 h3).1
   have hj:=(bZf.1 h4).1
   have e1:wr ((i:Int)+1)=((i+1:Nat):Int):=by have :wr ((i:Int)+1)=(i:Int)+1:=wri (by omega) (by omega);rw [this];rfl
   have e2:wr ((j:Int)+1)=((j+1:Nat):Int):=by have :wr ((j:Int)+1)=(j:Int)+1:=wri (by omega) (by omega);rw [this];rfl
   have e3:bR (0:Int) ((i+1:Nat):Int) (p.2.2.2.1.length:Int)=true:=by simp [bR];omega
   have e4:bR (0:Int) ((j+1:Nat):Int) (x.2.2.2.length:Int)=true:=by simp [bR];omega
   have e5:p.2.2.2.1.take (i+1)=p.2.2.2.1.take i++[x]:=aLb h3
   have e6:(p.2.2.2.1.take i).length=i:=by rw [cAh];omega
   rw [h1,h2,e1,e2,aNk h.2.2.2.1,aA,e3,zZ]
   simp only [bZi,e5]
   have e7:decide ((i:Int)<((p.2.2.2.1.take i++[x]).length:Int))=true:=by simp;omega
   have e8:(p.2.2.2.1.take i++[x])[i]? =some x:=by rw [List.getElem?_append_right (by omega),e6];simp
   have e9: ∀ z,(p.2.2.2.1.take i++[x]).set i z=p.2.2.2.1.take i++[z]:=fun z=>by rw [List.set_append_right _ _ (by omega),e6];simp
   simp only [fI,e7,e8,e4,e9,zZ,aA,fF]
   unfold aIv
   rw [h3]

theorem aW3 {p:den tPk} (h:SmB 68719476736 tPk p):gS p=some (sD p):=by
 unfold gS sD aI pj4 zz4 zz5
 simp only [aM,aGm h,aA]
 by_cases hc:cZ p<0
 ·rw [zX hc,zZ,zT hc]
 ·rw [zW hc,zY,zS hc]
  cases c:cG p with
  | false=>rw [aAt c] at hc;exact absurd (by decide) hc
  | true=>
   obtain ⟨i,j,x,y,h1,h2,h3,h4,h5⟩:=aDo c
   have l1:=h.2.2.2.1.1
   have hi:=(bZf.1 h3).1
   have hj:=(bZf.1 h4).1
   have l2:=(h.2.2.2.1.2 _ (bZk h3)).2.2.2.1
   have e2:wr ((j:Int)+1)=((j+1:Nat):Int):=by have :wr ((j:Int)+1)=(j:Int)+1:=wri (by omega) (by omega);rw [this];rfl
   have e4:bR (0:Int) ((j+1:Nat):Int) (x.2.2.2.length:Int)=true:=by simp [bR];omega
   have e5:p.2.2.2.1.take (i+1)=p.2.2.2.1.take i++[x]:=aLb h3
   have e6:(p.2.2.2.1.take (i+1)).length=i+1:=by rw [cAh];omega
   rw [h1,h2,e2]
   let cutX:Nat→den tPp→den tPp:=fun k z=>if k=i then (z.1,z.2.1,z.2.2.1,z.2.2.2.take (j+1)) else z
   rw [oI (fun k (a:lPp)=>((k:Int),a)) ((0:Int),[]) [] (p.2.2.2.1.take (i+1)) (fun k z a=>a++[cutX k z]) bZo (fun _=>1) 68719476736 id rfl (by omega) (by rw [eZ];simp;omega) (fun k z a=>by simp) (fun k z a hz hx hd hw hk hb=>by
    rw [e6] at hd hk
    have hz':=(aOe hx).1
    have hd':decide ((k:Int)<=(i:Int))=true:=by simp;omega
    have sz:=h.2.2.2.1.2 _ (bZk hz')
    simp only [hd',hw,zZ,aA,aG,hz',aM,aPb sz]
    by_cases hki:k=i
    ·subst hki
     rw [h3] at hz'
     injection hz' with hz'
     subst hz'
     have e7:((k:Int)==(k:Int))=true:=by simp
     simp only [e7,zZ,e4,aA,fF,aD (b:=48) (n:=a.length) (m:=1) (by decide) hb,cutX,zV]
    ·have e7:((k:Int)==(i:Int))=false:=by simp;omega
     simp only [e7,zY,aA,aD (b:=48) (n:=a.length) (m:=1) (by decide) hb,zZ,cutX,zS hki]) (fun a=>by
    have e10:decide (((i+1:Nat):Int)<=(i:Int))=false:=by simp<;>omega
    rw [e6];simp only [e10,zY];rfl)]
   have key: ∀ (l:lPp) (k:Nat) (a:lPp),k+l.length<=i→cN (fun k z a=>a++[cutX k z]) k l a=a++l:=by
    intro l
    induction l with
    | nil=>intro k a _;simp [cN]
    | cons z l ih=>
     intro k a hk
     simp only [cAb] at hk
     simp only [cN]
     rw [ih (k+1) _ (by omega)]
     have :cutX k z=z:=zS (by omega)
     rw [this];simp
   have fa: ∀ (l:lPp) (z:den tPp) (k:Nat) (a:lPp),cN (fun k z a=>a++[cutX k z]) k (l++[z]) a=cN (fun k z a=>a++[cutX k z]) k l a++[cutX (k+l.length) z]:=by
    intro l
    induction l with
    | nil=>intro z k a;rfl
    | cons y l ih=>
     intro z k a
     simp only [List.cons_append,cN,cAb]
     rw [ih]
     congr 3
     omega
   have e8:(p.2.2.2.1.take i).length=i:=by rw [cAh];omega
   rw [e5,fa,key _ 0 [] (by omega),e8]
   have :cutX (0+i) x=(x.1,x.2.1,x.2.2.1,x.2.2.2.take (j+1)):=zT (by omega)
   rw [this]
   unfold aIv
   rw [bZi,bZi,h3]
   rfl

theorem aZk (p:den tPt) (i j:Nat):tot tPt (aIv p i j)<=tot tPt p:=by
 unfold aIv
 cases h:p[i]? with
 | none=>exact bZt _
 | some x=>
  have h1:tot tPt (p.take (i+1))<=tot tPt p:=aWd (t:=tPp) p (i+1)
  rw [aLb h] at h1
  have h2:tot (.sl tPp) (p.take i++[x])<=tot (.sl tPp) p:=h1
  show tot (.sl tPp) (p.take i++[(x.1,x.2.1,x.2.2.1,x.2.2.2.take (j+1))])<=tot (.sl tPp) p
  rw [tO,aGc] at h2 ⊢
  have h3:tot tPp (x.1,x.2.1,x.2.2.1,x.2.2.2.take (j+1))<=tot tPp x:=by
   have :=aWd (t:=cH) x.2.2.2 (j+1)
   show 0+(0+(0+tot (.sl cH) (x.2.2.2.take (j+1))))<=0+(0+(0+tot (.sl cH) x.2.2.2))
   omega
  omega

theorem aDa (p:den tPk):tot tPt (sD p)<=tot tPt p.2.2.2.1:=by
 unfold sD
 split
 ·exact bZt _
 ·exact aZk _ _ _

def vi:Nat→Nat→List Int
 | 0,n=>[(n:Int)]
 | k+1,n=>if n<128 then [(n:Int)] else (((n % 128+128:Nat):Int))::vi k (n / 128)

theorem bGq: ∀ (k n:Nat),(vi k n).length<=k+1
 | 0,n=>by simp [vi]
 | k+1,n=>by
  unfold vi
  split
  ·simp
  ·have :=bGq k (n / 128);simp only [cAb];omega

theorem aD4 {n:Nat} (h:n<256):IntKind.wrap .u8 (n:Int)=(n:Int):=by
 simp only [IntKind.wrap,IntKind.signed,IntKind.bits]
 simp
 omega

theorem bT0: ∀ (k n:Nat) (out:List Int),n<128 ^ (k+1)→out.length+k+1<=68719476736→n<9223372036854775808→(@Option.bind q32 (lI) (@aB q32 q32 (fun (s4:Int×lI)=>cond (decide (s4.1>=(128:Int))) (cond (aH 1 s4.2.length 1) (some (bY6 (wr (Int.tdiv s4.1 (128:Int)),s4.2++[IntKind.wrap .u8 (wr ((bZ0 s4.1 (128:Int))+(128:Int)))]))) none) (some (bY5 (s4.1,s4.2)))) ((n:Int),out)) fun (s5:Int×lI)=>cond (aH 1 s5.2.length 1) (some (s5.2++[IntKind.wrap .u8 s5.1])) none)=some (out++vi k n)
 | 0,n,out,hn,ho,hb=>by
  have hn:n<128:=by simpa using hn
  have e1:decide ((n:Int)>=128)=false:=by simp;omega
  rw [bY (r:=((n:Int),out)) (by simp only [e1,zY]),aA]
  simp only [aD (b:=1) (n:=out.length) (m:=1) (by decide) (by omega),zZ,aD4 (n:=n) (by omega),vi]
 | k+1,n,out,hn,ho,hb=>by
  by_cases h:n<128
  ·have e1:decide ((n:Int)>=128)=false:=by simp;omega
   rw [bY (r:=((n:Int),out)) (by simp only [e1,zY]),aA]
   simp only [aD (b:=1) (n:=out.length) (m:=1) (by decide) (by omega),zZ,aD4 (n:=n) (by omega),vi,zT h]
  ·have e1:decide ((n:Int)>=128)=true:=by simp;omega
   have hd:n / 128<128 ^ (k+1):=by rw [Nat.div_lt_iff_lt_mul (by decide)];rw [Nat.pow_succ] at hn;exact hn
   have e2:Int.tdiv (n:Int) 128=((n / 128:Nat):Int):=rfl
   have e3:bZ0 (n:Int) 128=((n % 128:Nat):Int):=rfl
   have e4:wr (((n % 128:Nat):Int)+128)=((n % 128+128:Nat):Int):=by
    have :wr (((n % 128:Nat):Int)+128)=((n % 128:Nat):Int)+128:=wri (by omega) (by omega)
    rw [this];rfl
   have e5:wr ((n / 128:Nat):Int)=((n / 128:Nat):Int):=wri (by omega) (by omega)
   rw [dT (s':=(((n / 128:Nat):Int),out++[((n % 128+128:Nat):Int)])) (by
    simp only [e1,zZ,aD (b:=1) (n:=out.length) (m:=1) (by decide) (by omega),e2,e3,e4,e5,aD4 (n:=n % 128+128) (by omega)])]
   rw [bT0 k (n / 128) _ hd (by simp;omega) (by omega)]
   simp only [vi,zS h,bZ7,cB6]

theorem aWi {n:Nat} (h:n<9223372036854775808):yT .i64 (n:Int) 127=((n % 128:Nat):Int):=by
 have e:(BitVec.ofInt 64 (n:Int) &&& BitVec.ofInt 64 127).toNat=n % 128:=by
  rw [BitVec.toNat_and]
  have e1:(BitVec.ofInt 64 (n:Int)).toNat=n:=by simp;omega
  have e2:(BitVec.ofInt 64 127).toNat=2 ^ 7 - 1:=by decide
  rw [e1,e2,Nat.and_two_pow_sub_one_eq_mod]
 unfold yT
 show IntKind.i64.wrap (((BitVec.ofInt 64 (n:Int) &&& BitVec.ofInt 64 127).toNat:Nat):Int)=_
 rw [e]
 exact wri (by omega) (by omega)

theorem bR0 {n:Nat} (h:n<128):bOr .i64 (n:Int) 128=((n+128:Nat):Int):=by
 have e:(BitVec.ofInt 64 (n:Int) ||| BitVec.ofInt 64 128).toNat=n+128:=by
  rw [BitVec.toNat_or]
  have e1:(BitVec.ofInt 64 (n:Int)).toNat=n:=by simp;omega
  have e2:(BitVec.ofInt 64 128).toNat=128:=by decide
  rw [e1,e2,Nat.or_comm]
  have :=Nat.two_pow_add_eq_or_of_lt (i:=7) (b:=n) h 1
  simp only [Nat.mul_one] at this
  rw [← this];omega
 unfold bOr
 show IntKind.i64.wrap (((BitVec.ofInt 64 (n:Int) ||| BitVec.ofInt 64 128).toNat:Nat):Int)=_
 rw [e]
 exact wri (by omega) (by omega)

theorem bWf (n:Nat):shr .i64 (n:Int) 7=((n / 128:Nat):Int):=by
 unfold shr
 show Int.fdiv (n:Int) (2 ^ 7)=_
 rw [Int.fdiv_eq_ediv_of_nonneg _ (by decide)]
 rfl

theorem bVl: ∀ (k n:Nat) (out:List Int),n<128 ^ (k+1)→out.length+k+1<=68719476736→n<9223372036854775808→(@Option.bind q32 (lI) (@aB q32 q32 (fun (s3:Int×lI)=>cond (decide (s3.1>(127:Int))) (cond (aH 1 s3.2.length 1) (some (bY6 (shr .i64 s3.1 (7:Int),s3.2++[IntKind.wrap .u8 (bOr .i64 (yT .i64 s3.1 (127:Int)) (128:Int))]))) none) (some (bY5 (s3.1,s3.2)))) ((n:Int),out)) fun (s4:Int×lI)=>cond (aH 1 s4.2.length 1) (some (s4.2++[IntKind.wrap .u8 s4.1])) none)=some (out++vi k n)
 | 0,n,out,hn,ho,hb=>by
  have hn:n<128:=by simpa using hn
  have e1:decide ((n:Int)>127)=false:=by simp;omega
  rw [bY (r:=((n:Int),out)) (by simp only [e1,zY]),aA]
  simp only [aD (b:=1) (n:=out.length) (m:=1) (by decide) (by omega),zZ,aD4 (n:=n) (by omega),vi]
 | k+1,n,out,hn,ho,hb=>by
  by_cases h:n<128
  ·have e1:decide ((n:Int)>127)=false:=by simp;omega
   rw [bY (r:=((n:Int),out)) (by simp only [e1,zY]),aA]
   simp only [aD (b:=1) (n:=out.length) (m:=1) (by decide) (by omega),zZ,aD4 (n:=n) (by omega),vi,zT h]
  ·have e1:decide ((n:Int)>127)=true:=by simp;omega
   have hd:n / 128<128 ^ (k+1):=by rw [Nat.div_lt_iff_lt_mul (by decide)];rw [Nat.pow_succ] at hn;exact hn
   rw [dT (s':=(((n / 128:Nat):Int),out++[((n % 128+128:Nat):Int)])) (by
    simp only [e1,zZ,aD (b:=1) (n:=out.length) (m:=1) (by decide) (by omega),bWf,aWi hb,bR0 (n:=n % 128) (by omega),aD4 (n:=n % 128+128) (by omega)])]
   rw [bVl k (n / 128) _ hd (by simp;omega) (by omega)]
   simp only [vi,zS h,bZ7,cB6]

def aCb (b:List Int) (n:Int):List Int:=if inR n 0 1000000000000 then b++vi 5 n.toNat else b

theorem aO2 (b:List Int) (n:Int):(aCb b n).length<=b.length+6:=by
 unfold aCb
 split
 ·have :=bGq 5 n.toNat;rw [bZ5];omega
 ·omega

theorem bTj {b:List Int} {n:Int} (h:b.length+6<=68719476736):nI b n=some (aCb b n):=by
 unfold nI aCb pj2
 rw [aGg (by omega),kZ]
 cases c:inR n 0 1000000000000 with
 | false=>rfl
 | true=>
  rw [bT] at c
  obtain ⟨m,rfl⟩:=bZ1 c.1
  have :=bT0 5 m b (by simp only [show (128:Nat) ^ (5+1)=4398046511104 from by decide];omega) (by omega) (by omega)
  exact this

theorem bTp {b:List Int} {n:Int} (h:b.length+6<=68719476736):nF b n=some (aCb b n):=by
 unfold nF aCb pj2
 rw [aD (b:=1) (n:=([]:List Int).length) (by decide) (by simp;omega),fG]
 cases c:inR n 0 1000000000000 with
 | false=>rfl
 | true=>
  rw [bT] at c
  obtain ⟨m,rfl⟩:=bZ1 c.1
  have :=bVl 5 m b (by simp only [show (128:Nat) ^ (5+1)=4398046511104 from by decide];omega) (by omega) (by omega)
  exact this

def aJn (b l:List Int):List Int:=l.foldl aCb b

theorem bJ1 (b l:List Int):(aJn b l).length<=b.length+6 * l.length:=by
 unfold aJn
 induction l generalizing b with
 | nil=>simp
 | cons x l ih=>
  have h1:=ih (aCb b x)
  have h2:=aO2 b x
  simp only [List.foldl_cons,cAb]
  omega

theorem bAw {α:Type} (l:List α):(l.map fun _=>6).sum=6 * l.length:=by
 induction l with
 | nil=>rfl
 | cons x l ih=>rw [bZv,cAn,ih,cAb];omega

theorem bVy {b l:List Int} (h:b.length+6 * l.length<=68719476736):qR b l=some (aJn b l):=by
 unfold qR aJn
 rw [oI (fun k (a:List Int)=>(a,(k:Int))) (b,(0:Int)) b l (fun _ x a=>aCb a x) bZo (fun _=>6) 68719476736 id rfl (by omega) (by rw [bAw];exact h) (fun _ x a=>aO2 a x) (fun k x a hi hx hd hw hk hb=>by
  simp only [hd,hi,hw,zZ,aA,bTj (b:=a) (n:=x) hb]) (fun a=>by simp),wL aCb]
 rfl

theorem bI0 {l:List Int} (h:6 * l.length<=68719476736):qL l=some (aJn [] l):=by
 unfold qL
 rw [bVy (by simpa using h)];rfl

theorem bGt {l:List Int} (h:6 * l.length<=68719476736):qS l=some (aJn [] l):=by
 unfold qS aJn
 rw [oI (fun k (a:List Int)=>((k:Int),a)) ((0:Int),[]) [] l (fun _ x a=>aCb a x) bZo (fun _=>6) 68719476736 id rfl (by omega) (by rw [bAw];simpa using h) (fun _ x a=>aO2 a x) (fun k x a hi hx hd hw hk hb=>by
  simp only [hd,hi,hw,zZ,aA,bTp (b:=a) (n:=x) hb]) (fun a=>by simp),wL aCb]
 rfl

def aHb (x:den tRv):List Int:=if dS x then aJn [] [x.1,x.2.1,x.2.2] else []

theorem aPd (x:den tRv):(aHb x).length<=18:=by
 unfold aHb
 split
 ·exact bJ1 [] [x.1,x.2.1,x.2.2]
 ·simp

theorem bVg (x:den tRv):iN x=some (aHb x):=by
 unfold iN aHb pj3
 rw [bI0 (l:=[x.1,x.2.1,x.2.2]) (by simp)]
 simp only [aM,aDv,aA]
 cases dS x<;>rfl

theorem bUb (x:den tRv):iI x=some (aHb x):=by
 unfold iI aHb pj3
 rw [bGt (l:=[x.1,x.2.1,x.2.2]) (by simp)]
 simp only [aM,aDr,aA]
 cases dS x<;>rfl


def cF (r now d:Int) (p:den tPk):den tPk:=aFx 3 (aDq (sD p)) p.2.2.2.2.2.2.2.1 p.2.2.2.2.2.2.2.2.1 (aHb (r,d,if 1000000<wr (now+10) then 1000000 else wr (now+10)))

theorem bQv {t:den tTo} {r now d:Int} {p:den tPk} (h:tot tPk p<=34359738368):iU t r now d p=some (pkR (cF r now d p)):=by
 have h1:tot tPt p.2.2.2.1<=34359738368:=aHk (bK (bK (bK h)))
 have h2:=aDa p
 have sm:SmB 68719476736 tPk p:=(bF h).mono (by decide)
 have h3:=aPd (r,d,if 1000000<wr (now+10) then 1000000 else wr (now+10))
 unfold iU cF aI zz7 zz8
 simp only [aM,bW7,aA,aWe sm]
 rw [bHn ((bF (bY8 h2 h1)).mono (by decide)),aA,bVg,aA,aRo (by rw [aD0];omega) (by omega)]
 rfl

theorem bSc {t:den tTo} {r now d:Int} {p:den tPk} (h:tot tPk p<=34359738368):fY t r now d p=some (pkR (cF r now d p)):=by
 have h1:tot tPt p.2.2.2.1<=34359738368:=aHk (bK (bK (bK h)))
 have h2:=aDa p
 have sm:SmB 68719476736 tPk p:=(bF h).mono (by decide)
 have h3:=aPd (r,d,if 1000000<wr (now+10) then 1000000 else wr (now+10))
 unfold fY cF aI zz7 zz8
 simp only [aM,aVq,aA,aW3 sm]
 rw [bFu ((bF (bY8 h2 h1)).mono (by decide)),aA,bUb,aA,aNf (by rw [aD0];omega) (by omega)]
 rfl

theorem aMd {kind res seq:Int} {p:den tPt} {pay:List Int}:tot tPk (aFx kind p res seq pay)=tot tPt p+tot (.sl tb) pay:=by
 show 0+(0+(0+(tot tPt p+(0+(0+(0+(0+(0+tot (.sl tb) pay))))))))=_
 omega

theorem aUh (f:den tFl):tot tPk (wR f)<=tot tFl f:=by
 unfold wR
 split
 ·rw [aMd]
  have h1:=aXm (t:=tPt) (l:=f.2.2.2.2.2.1) (d:=[]) (i:=f.2.2.2.2.2.2.1.toNat) rfl
  have h2:=aXm (t:= .sl tb) (l:=f.2.2.2.2.1) (d:=[]) (i:=f.2.2.2.1.toNat) rfl
  show _<=0+(0+(0+(0+(tot (.sl (.sl tb)) f.2.2.2.2.1+(tot (.sl tPt) f.2.2.2.2.2.1+(0+(0+tot (.sl tRv) f.2.2.2.2.2.2.2.2)))))))
  omega
 ·exact bZt _

theorem aNg {p:den tPk} {N:Nat} (h:tot tPk p<=N):tot (.sl tPp) p.2.2.2.1<=N∧tot (.sl tb) p.2.2.2.2.2.2.2.2.2<=N:=
 ⟨aHk (bK (bK (bK h))),bK (bK (bK (bK (bK (bK (bK (bK (bK h))))))))⟩

theorem aT6 (x:den tIb) (p:den tPk):tot tPk (nZ x p)<=tot tPk p:=by
 unfold nZ
 split
 ·unfold aM6
  rw [aMd,aD0]
  have h:=(aNg (bZq (tot tPk p))).1
  show tot (.sl tPp) p.2.2.2.1+0<=_
  omega
 ·exact bZt _

theorem aTj (f:den tFl):tot tFl (aF f).1=tot tFl f∧tot tPk (aF f).2.1<=tot tFl f:=by
 unfold aF
 split
 ·split
  ·exact ⟨aH9 f _ _,aUh f⟩
  ·split
   ·exact ⟨aH9 f _ _,aUh (rT f (vM f) 1)⟩
   ·exact ⟨aH9 f _ _,bZt _⟩
 ·exact ⟨aH9 f _ _,bZt _⟩

theorem aUe (r now d:Int) (p:den tPk):tot tPk (cF r now d p)<=tot tPk p+18:=by
 unfold cF
 rw [aMd,aD0]
 have h1:=aDa p
 have h2:=(aNg (bZq (tot tPk p))).1
 have h2:tot tPt p.2.2.2.1<=tot tPk p:=h2
 have h3:=aPd (r,d,if 1000000<wr (now+10) then 1000000 else wr (now+10))
 have e:tot (.sl tb) (aHb (r,d,if 1000000<wr (now+10) then 1000000 else wr (now+10)))=(aHb (r,d,if 1000000<wr (now+10) then 1000000 else wr (now+10))).length:=kF rfl
 rw [e]
 omega

def aIj {α β:Type} (p:α→β→Bool):List α→List β→Bool
 | x::xs,y::ys=>p x y&&aIj p xs ys
 | _,_=>true

theorem aWr {α β R:Type} {a:List α} {b:List β} (p:α→β→Bool) {step:Int→Option (Int⊕(Unit⊕R))} (ρ:R) (hlen:a.length=b.length) (hl:a.length<=4611686018427387904)
  (h: ∀ (k:Nat) (x:α) (y:β),x∈a→y∈b→idx a (k:Int)=some x→idx b (k:Int)=some y→decide ((k:Int)<(a.length:Int))=true→IntKind.i64.wrap ((k:Int)+1)=((k+1:Nat):Int)→step (k:Int)=some (cond (p x y) (.inl ((k+1:Nat):Int)) (.inr (.inr ρ))))
  (he:step (a.length:Int)=some (.inr (.inl ()))):aB step (0:Int)=some (cond (aIj p a b) (.inl ()) (.inr ρ)):=by
 have key: ∀ (ra pa:List α) (rb pb:List β),pa++ra=a→pb++rb=b→pa.length=pb.length→aB step (pa.length:Int)=some (cond (aIj p ra rb) (.inl ()) (.inr ρ)):=by
  intro ra
  induction ra with
  | nil=>intro pa rb pb h1 _ _;rw [cAf] at h1;subst h1;exact bY he
  | cons x ra ih=>
   intro pa rb pb h1 h2 h3
   cases rb with
   | nil=>exfalso;have e1:=congrArg bZo h1;have e2:=congrArg bZo h2;simp at e1 e2;omega
   | cons y rb=>
    have hx:a[pa.length]? =some x:=by rw [← h1];simp
    have hy:b[pa.length]? =some y:=by rw [← h2,h3];simp
    have hlt:pa.length<a.length:=by rw [← h1];simp
    have hs:=h pa.length x y (bZk hx) (bZk hy) (by rw [aG];exact hx) (by rw [aG];exact hy) (by simpa using hlt) (by rw [wri (by omega) (by omega)];omega)
    simp only [aIj]
    cases hp:p x y with
    | true=>rw [hp] at hs;rw [dT hs];have :=ih (pa++[x]) rb (pb++[y]) (by simpa using h1) (by simpa using h2) (by simp [h3]);simpa using this
    | false=>rw [hp] at hs;exact bY hs
 exact key a [] b [] rfl rfl rfl

theorem aGe {α:Type} (b:Bool) (x y:α):cond b (some x) (some y)=some (cond b x y):=by cases b<;>rfl

theorem bHi {β:Type} (c:Bool) (f:Unit→Option β) (r:β):Sum.elim f some (cond c (bY6 ()) (bY5 r))=cond c (f ()) (some r):=by cases c<;>rfl

theorem bJh {α β:Type} (a:List α) (b:List β):((a.length:Int) != (b.length:Int))= !decide (a.length=b.length):=by
 rw [bZy];simp;omega

theorem aZs {α:Type} {p:Prop} [Decidable p] {x y z:α} (h:p→y=z):cond (!decide p) x y=cond (!decide p) x z:=by
 by_cases hp:p
 ·rw [h hp]
 ·simp [hp]

noncomputable def aPn (a b:dA):Bool:=cond (!decide (a.length=b.length)) false (cond (aIj (fun x y=>(x.1==y.1)&&((x.2.1==y.2.1)&&((x.2.2.1==y.2.2.1)&&((x.2.2.2.1==y.2.2.2.1)&&((x.2.2.2.2==y.2.2.2.2)&&true))))) a b) true false)

theorem bSs {a b:dA} (ha:a.length<=68719476736):iV a b=some (aPn a b):=by
 unfold iV aPn zz4
 rw [bJh]
 rw [aZs (z:=some (cond (aIj (fun x y=>(x.1==y.1)&&((x.2.1==y.2.1)&&((x.2.2.1==y.2.2.1)&&((x.2.2.2.1==y.2.2.2.1)&&((x.2.2.2.2==y.2.2.2.2)&&true))))) a b) true false)) (fun hlen=>by
  rw [aWr (a:=a) (b:=b) (fun x y=>(x.1==y.1)&&((x.2.1==y.2.1)&&((x.2.2.1==y.2.2.1)&&((x.2.2.2.1==y.2.2.2.1)&&((x.2.2.2.2==y.2.2.2.2)&&true))))) false hlen (bY8 ha (by decide)) (fun k x y mx my ix iy hd hw=>by
   simp only [hd,ix,iy,hw,zZ,aA,aM,bne]
   generalize ((x.1==y.1)&&((x.2.1==y.2.1)&&((x.2.2.1==y.2.2.1)&&((x.2.2.2.1==y.2.2.2.1)&&((x.2.2.2.2==y.2.2.2.2)&&true)))))=c
   cases c<;>rfl) (by simp)]
  simp only [aA,bHi,aGe]),aGe]

noncomputable def aEy (a b:den tPp):Bool:=cond (a.1==b.1) (cond (a.2.1==b.2.1) (cond (a.2.2.1==b.2.2.1) (aPn a.2.2.2 b.2.2.2) false) false) false

theorem bLd {a b:den tPp} (ha:SmB 68719476736 tPp a) (hb:SmB 68719476736 tPp b):kC a b=some (aEy a b):=by
 unfold kC aEy
 simp only [aA,aGe,aM,bSs ha.2.2.2.1]

noncomputable def aP4 (a b:lPp):Bool:=cond (!decide (a.length=b.length)) false (cond (aIj (fun x y=>aEy x y) a b) true false)

theorem bRv {a b:lPp} (ha:SmB 68719476736 (.sl tPp) a) (hb:SmB 68719476736 (.sl tPp) b):iY a b=some (aP4 a b):=by
 unfold iY aP4 pj4
 rw [bJh]
 rw [aZs (z:=some (cond (aIj (fun x y=>aEy x y) a b) true false)) (fun hlen=>by
  rw [aWr (a:=a) (b:=b) (fun x y=>aEy x y) false hlen (bY8 ha.1 (by decide)) (fun k x y mx my ix iy hd hw=>by
   simp only [hd,ix,iy,hw,zZ,aA,aM,bLd (ha.2 x mx) (hb.2 y my)]
   generalize (aEy x y)=c
   cases c<;>rfl) (by simp)]
  simp only [aA,bHi,aGe]),aGe]

noncomputable def bOw (a b:List Int):Bool:=(yL a).toList==(yL b).toList

theorem bR6 (a b:List Int):mB a b=some (bOw a b):=rfl

noncomputable def aBz (a b:den tPk):Bool:=cond (a.1==b.1) (cond (a.2.1==b.2.1) (cond (a.2.2.1==b.2.2.1) (cond (aP4 a.2.2.2.1 b.2.2.2.1) (cond (a.2.2.2.2.1==b.2.2.2.2.1) (cond (a.2.2.2.2.2.1==b.2.2.2.2.2.1) (cond (a.2.2.2.2.2.2.1==b.2.2.2.2.2.2.1) (cond (a.2.2.2.2.2.2.2.1==b.2.2.2.2.2.2.2.1) (cond (a.2.2.2.2.2.2.2.2.1==b.2.2.2.2.2.2.2.2.1) (bOw a.2.2.2.2.2.2.2.2.2 b.2.2.2.2.2.2.2.2.2) false) false) false) false) false) false) false) false) false

theorem bSa {a b:den tPk} (ha:SmB 68719476736 tPk a) (hb:SmB 68719476736 tPk b):lA a b=some (aBz a b):=by
 unfold lA aBz zz4 zz5 zz6 zz7 zz8 zz9
 simp only [aA,aGe,aM,bR6,bRv ha.2.2.2.1 hb.2.2.2.1]

def aOs (b:List Int) (p:Nat):Nat→Nat→Nat→Int×Int×Bool
 | 0,_,_=>(0,0,false)
 | f+1,k,n=>match b[p+k]? with
  | none=>(0,0,false)
  | some x=>
   if x.toNat<128 then (if (decide (x.toNat=0)&&decide (0<k))||decide (1000000000000<n+x.toNat % 128 * 2 ^ (7 * k)) then (0,0,false) else (((n+x.toNat % 128 * 2 ^ (7 * k):Nat):Int),((p+k+1:Nat):Int),true))
   else aOs b p f (k+1) (n+x.toNat % 128 * 2 ^ (7 * k))

theorem aSl {k:Nat} (h:k<6):2 ^ (7 * k)<=34359738368:=bY8 (Nat.pow_le_pow_right (by decide) (show 7 * k<=35 by omega)) (by decide)

theorem bIo {n c k:Nat} (h:n<2 ^ (7 * k)) (hc:c<128):n+c * 2 ^ (7 * k)<2 ^ (7 * (k+1)):=by
 have e:2 ^ (7 * (k+1))=128 * 2 ^ (7 * k):=by rw [show 7 * (k+1)=7 * k+7 by omega,Nat.pow_add];omega
 have :c * 2 ^ (7 * k)<=127 * 2 ^ (7 * k):=Nat.mul_le_mul_right _ (by omega)
 omega

theorem aSc {c k:Nat} (hk:k<6) (hc:c<128):c * 2 ^ (7 * k)<=4398046511104:=bY8 (Nat.mul_le_mul (show c<=128 by omega) (aSl hk)) (by decide)

theorem aZq {S:Type} (b:List Int) (p:Nat) (hb: ∀ x∈b,0<=x∧x<=255) (enc:Nat→Nat→S) {step:S→Option (S⊕(Unit⊕q28))}
  (h0: ∀ n,step (enc 6 n)=some (.inr (.inl ())))
  (h1: ∀ k n,k<6→b[p+k]? =none→step (enc k n)=some (.inr (.inl ()))∨step (enc k n)=some (.inr (.inr (0,0,false))))
  (h2: ∀ k n (m:Nat),k<6→n<2 ^ (7 * k)→m<=255→b[p+k]? =some (m:Int)→step (enc k n)=some (if m<128 then .inr (.inr (if (decide (m=0)&&decide (0<k))||decide (1000000000000<n+m % 128 * 2 ^ (7 * k)) then (0,0,false) else (((n+m % 128 * 2 ^ (7 * k):Nat):Int),((p+k+1:Nat):Int),true))) else .inl (enc (k+1) (n+m % 128 * 2 ^ (7 * k))))):
  ∀ f k n,f+k=6→n<2 ^ (7 * k)→ @Option.bind (Unit⊕q28) q28 (aB step (enc k n)) (fun z=>Sum.elim (fun _=>some ((0:Int),(0:Int),false)) some z)=some (aOs b p f k n):=by
 intro f
 induction f with
 | zero=>
  intro k n hk hn
  have :k=6:=by omega
  subst this
  rw [bY (h0 n)]
  rfl
 | succ f ih=>
  intro k n hk hn
  have hk6:k<6:=by omega
  unfold aOs
  cases hx:b[p+k]? with
  | none=>rcases h1 k n hk6 hx with h | h<;>rw [bY h]<;>rfl
  | some x=>
   obtain ⟨x0,x1⟩:=hb x (bZk hx)
   obtain ⟨m,rfl⟩: ∃ m:Nat,x=(m:Int):=⟨x.toNat,by omega⟩
   have hs:=h2 k n m hk6 hn (by omega) hx
   simp only [bZi]
   by_cases hm:m<128
   ·rw [zT hm] at hs ⊢
    rw [bY hs]
    rfl
   ·rw [zS hm] at hs ⊢
    rw [dT hs]
    exact ih (k+1) _ (by omega) (bIo hn (Nat.mod_lt _ (by decide)))

theorem bAb {a c:Nat} (hc:c<=35) (h:a * 2 ^ c<=4398046511104):shl .i64 (a:Int) (c:Int)=((a * 2 ^ c:Nat):Int):=by
 unfold shl
 have e:min ((c:Int)).toNat IntKind.i64.bits=c:=by simp [IntKind.bits];omega
 rw [e]
 have e2:(a:Int) * 2 ^ c=((a * 2 ^ c:Nat):Int):=by simp
 rw [e2]
 exact wri (by omega) (by omega)

theorem bQ6 {n c k:Nat} (hk:k<6) (hn:n<2 ^ (7 * k)) (hc:c<128):bOr .i64 (n:Int) ((c * 2 ^ (7 * k):Nat):Int)=((n+c * 2 ^ (7 * k):Nat):Int):=by
 have hm:=aSc hk hc
 have hp:=aSl hk
 have e:(BitVec.ofInt 64 (n:Int) ||| BitVec.ofInt 64 ((c * 2 ^ (7 * k):Nat):Int)).toNat=n+c * 2 ^ (7 * k):=by
  rw [BitVec.toNat_or]
  have e1:(BitVec.ofInt 64 (n:Int)).toNat=n:=by simp;omega
  have e2:(BitVec.ofInt 64 ((c * 2 ^ (7 * k):Nat):Int)).toNat=c * 2 ^ (7 * k):=by
   generalize c * 2 ^ (7 * k)=q at hm
   simp;omega
  rw [e1,e2,Nat.or_comm]
  have :=Nat.two_pow_add_eq_or_of_lt (i:=7 * k) (b:=n) hn c
  rw [Nat.mul_comm c,← this];omega
 unfold bOr
 show IntKind.i64.wrap (((BitVec.ofInt 64 (n:Int) ||| BitVec.ofInt 64 ((c * 2 ^ (7 * k):Nat):Int)).toNat:Nat):Int)=_
 rw [e]
 exact wri (by omega) (by omega)

theorem aXr {n:Nat} (h:n<256):IntKind.wrap .u64 (n:Int)=(n:Int):=by
 simp only [IntKind.wrap,IntKind.signed,IntKind.bits]
 simp
 omega

def rv (b:List Int) (p:Nat):q28:=aOs b p 6 0 0

theorem aUg (k:Nat):(7:Int) * (k:Int)=((7 * k:Nat):Int):=by omega

theorem bX0 {b:List Int} {p:Nat} (hb: ∀ x∈b,0<=x∧x<=255) (hl:b.length<=68719476736) (hp:p<=b.length):rI b (p:Int)=some (rv b p):=by
 unfold rI
 have e0:decide ((p:Int)<0)=false:=by simp
 rw [e0,zY]
 refine aZq b p hb (fun k n=>(((p+k:Nat):Int),(n:Int),(k:Int))) (fun n=>by simp) (fun k n hk hx=> ?_) (fun k n m hk hn hm hx=> ?_) 6 0 0 rfl (by simp)
 ·left
  have h1:decide (((p+k:Nat):Int)<(b.length:Int))=false:=by
   have :=List.getElem?_eq_none_iff.1 hx
   simp;omega
  simp only [h1]
  cases decide ((k:Int)<6)<;>rfl
 ·have h0:=(bZf.1 hx).1
  have h1:decide (((p+k:Nat):Int)<(b.length:Int))=true:=by simp;omega
  have h2:decide ((k:Int)<6)=true:=by simp;omega
  have h3:idx b ((p+k:Nat):Int)=some (m:Int):=by rw [aG];exact hx
  have h4:wr ((7 * k:Nat):Int)=((7 * k:Nat):Int):=wri (by omega) (by omega)
  have h5:wr (m:Int)=(m:Int):=wri (by omega) (by omega)
  have h6:decide (((7 * k:Nat):Int)<0)=false:=by simp;omega
  have h7:bZ0 (m:Int) 128=((m % 128:Nat):Int):=rfl
  have hq:=aSc (c:=m % 128) hk (Nat.mod_lt _ (by decide))
  have hr:=aSl hk
  have h8:wr ((n:Int)+((m % 128 * 2 ^ (7 * k):Nat):Int))=((n+m % 128 * 2 ^ (7 * k):Nat):Int):=by
   generalize m % 128 * 2 ^ (7 * k)=q at hq
   have :wr ((n:Int)+(q:Int))=(n:Int)+(q:Int):=wri (by omega) (by omega)
   rw [this];omega
  have h9:wr (((p+k:Nat):Int)+1)=((p+k+1:Nat):Int):=by
   have :wr (((p+k:Nat):Int)+1)=((p+k:Nat):Int)+1:=wri (by omega) (by omega)
   rw [this];omega
  have ha:wr ((k:Int)+1)=((k+1:Nat):Int):=by
   have :wr ((k:Int)+1)=(k:Int)+1:=wri (by omega) (by omega)
   rw [this];omega
  simp only [h1,h2,h3,zZ,aA,aUg,h4,aXr (n:=7 * k) (by omega),h6,zY,h5,h7,bAb (a:=m % 128) (c:=7 * k) (by omega) hq,h8,h9,ha]
  generalize n+m % 128 * 2 ^ (7 * k)=q
  by_cases c1:m<128
  ·have e1:decide ((m:Int)<128)=true:=by simp;omega
   have e2:((m:Int)==0)=decide (m=0):=by rw [bZy];simp
   have e3:decide ((k:Int)>0)=decide (0<k):=by rw [bZy];simp
   have e4:decide ((q:Int)>1000000000000)=decide (1000000000000<q):=by rw [bZy];simp;omega
   simp only [e1,e2,e3,e4,zZ,zT c1]
   cases decide (m=0)<;>cases decide (0<k)<;>cases decide (1000000000000<q)<;>rfl
  ·have e1:decide ((m:Int)<128)=false:=by simp;omega
   simp only [e1,zY,zS c1]
   rfl

theorem bYl {b:List Int} {p:Nat} (hb: ∀ x∈b,0<=x∧x<=255) (hl:b.length<=68719476736) (hp:p<=b.length):qN b (p:Int)=some (rv b p):=by
 unfold qN
 have e0:decide ((p:Int)<0)=false:=by simp
 refine aZq b p hb (fun k n=>((n:Int),(k:Int))) (fun n=>by simp) (fun k n hk hx=> ?_) (fun k n m hk hn hm hx=> ?_) 6 0 0 rfl (by simp)
 ·right
  have hw:wr ((b.length:Int) - (k:Int))=(b.length:Int) - (k:Int):=wri (by omega) (by omega)
  have h1:decide ((p:Int)>=(b.length:Int) - (k:Int))=true:=by
   have :=List.getElem?_eq_none_iff.1 hx
   simp;omega
  have h2:decide ((k:Int)<6)=true:=by simp;omega
  simp only [h2,e0,hw,h1,zZ,zY,aA]
 ·have h0:=(bZf.1 hx).1
  have hw:wr ((b.length:Int) - (k:Int))=(b.length:Int) - (k:Int):=wri (by omega) (by omega)
  have h1:decide ((p:Int)>=(b.length:Int) - (k:Int))=false:=by simp;omega
  have h2:decide ((k:Int)<6)=true:=by simp;omega
  have hpk:wr ((p:Int)+(k:Int))=((p+k:Nat):Int):=by
   have :wr ((p:Int)+(k:Int))=(p:Int)+(k:Int):=wri (by omega) (by omega)
   rw [this];omega
  have h3:idx b ((p+k:Nat):Int)=some (m:Int):=by rw [aG];exact hx
  have h4:wr ((7 * k:Nat):Int)=((7 * k:Nat):Int):=wri (by omega) (by omega)
  have h5:wr (m:Int)=(m:Int):=wri (by omega) (by omega)
  have h6:decide (((7 * k:Nat):Int)<0)=false:=by simp;omega
  have hq:=aSc (c:=m % 128) hk (Nat.mod_lt _ (by decide))
  have h9:wr (((p+k:Nat):Int)+1)=((p+k+1:Nat):Int):=by
   have :wr (((p+k:Nat):Int)+1)=((p+k:Nat):Int)+1:=wri (by omega) (by omega)
   rw [this];omega
  have ha:wr ((k:Int)+1)=((k+1:Nat):Int):=by
   have :wr ((k:Int)+1)=(k:Int)+1:=wri (by omega) (by omega)
   rw [this];omega
  simp only [h1,h2,hw,e0,hpk,h3,zZ,zY,aA,aUg,h4,h6,h5,aWi (n:=m) (by omega),bAb (a:=m % 128) (c:=7 * k) (by omega) hq,bQ6 (c:=m % 128) hk hn (Nat.mod_lt _ (by decide)),h9,ha]
  generalize n+m % 128 * 2 ^ (7 * k)=q
  by_cases c1:m<128
  ·have e1:decide ((m:Int)<128)=true:=by simp;omega
   have e2:((m:Int)==0)=decide (m=0):=by rw [bZy];simp
   have e3:decide ((k:Int)>0)=decide (0<k):=by rw [bZy];simp
   have e4:decide ((q:Int)>1000000000000)=decide (1000000000000<q):=by rw [bZy];simp;omega
   simp only [e1,e2,e3,e4,zZ,zT c1]
   cases decide (m=0)<;>cases decide (0<k)<;>cases decide (1000000000000<q)<;>rfl
  ·have e1:decide ((m:Int)<128)=false:=by simp;omega
   simp only [e1,zY,zS c1]

theorem aZ0 {b:List Int} {p:Nat}: ∀ (f k n:Nat),(aOs b p f k n).2.2=true→ ∃ q:Nat,(aOs b p f k n).2.1=(q:Int)∧q<=b.length
 | 0,k,n,h=>by cases h
 | f+1,k,n,h=>by
  unfold aOs at h ⊢
  cases hx:b[p+k]? with
  | none=>rw [hx] at h;cases h
  | some x=>
   rw [hx] at h
   have hlt:=(bZf.1 hx).1
   simp only at h ⊢
   by_cases c:x.toNat<128
   ·rw [zT c] at h ⊢
    split at h
    ·cases h
    ·rename_i c2
     rw [zS c2]
     exact ⟨p+k+1,rfl,hlt⟩
   ·rw [zS c] at h ⊢
    exact aZ0 f (k+1) _ h

theorem bNv {b:List Int} {p:Nat} (h:(rv b p).2.2=true): ∃ q:Nat,(rv b p).2.1=(q:Int)∧q<=b.length:=aZ0 6 0 0 h

def aK8 (b:List Int):Int×Bool×List Int:=
 cond (rv b 0).2.2 (cond (rv b (rv b 0).2.1.toNat).2.2 (cond (rv b (rv b (rv b 0).2.1.toNat).2.1.toNat).2.2
  ((rv b (rv b (rv b 0).2.1.toNat).2.1.toNat).2.1,true,[(rv b 0).1,(rv b (rv b 0).2.1.toNat).1,(rv b (rv b (rv b 0).2.1.toNat).2.1.toNat).1]) (0,false,[])) (0,false,[])) (0,false,[])

theorem bAh (b:List Int):aK8 b=(0,false,[])∨ ∃ q x y z,aK8 b=(q,true,[x,y,z]):=by
 unfold aK8
 cases (rv b 0).2.2
 ·exact .inl rfl
 ·cases (rv b (rv b 0).2.1.toNat).2.2
  ·exact .inl rfl
  ·cases (rv b (rv b (rv b 0).2.1.toNat).2.1.toNat).2.2
   ·exact .inl rfl
   ·exact .inr ⟨_,_,_,_,rfl⟩

theorem aWu {b:List Int} {step:Int×Int×List Int→Option ((Int×Int×List Int)⊕((Int×List Int)⊕(Int×Bool×List Int)))}
  (hs: ∀ (p:Nat) (i:Nat) (out:List Int),p<=b.length→i<3→out.length<=3→step ((p:Int),(i:Int),out)=some (cond (rv b p).2.2 (.inl ((rv b p).2.1,((i+1:Nat):Int),out++[(rv b p).1])) (.inr (.inr (0,false,[])))))
  (he: ∀ p out,step (p,3,out)=some (.inr (.inl (p,out)))):
  @Option.bind ((Int×List Int)⊕(Int×Bool×List Int)) (Int×Bool×List Int) (aB step ((0:Int),(0:Int),([]:List Int))) (fun z=>Sum.elim (fun s8=>some (s8.1,true,s8.2)) some z)=some (aK8 b):=by
 have h1:=hs 0 0 [] (bZt _) (by decide) (by decide)
 unfold aK8
 cases c1:(rv b 0).2.2 with
 | false=>rw [c1] at h1;rw [bY (s:=((0:Int),(0:Int),([]:List Int))) h1];rfl
 | true=>
  rw [c1] at h1
  obtain ⟨q1,e1,l1⟩:=bNv c1
  rw [dT (s:=((0:Int),(0:Int),([]:List Int))) h1]
  rw [e1]
  simp only [zZ,bZi]
  have h2:=hs q1 (0+1) ([]++[(rv b 0).1]) l1 (by decide) (by simp)
  cases c2:(rv b q1).2.2 with
  | false=>rw [c2] at h2;rw [bY h2];rfl
  | true=>
   rw [c2] at h2
   obtain ⟨q2,e2,l2⟩:=bNv c2
   rw [dT h2]
   rw [e2]
   simp only [zZ,bZi]
   have h3:=hs q2 (0+1+1) ([]++[(rv b 0).1]++[(rv b q1).1]) l2 (by decide) (by simp)
   cases c3:(rv b q2).2.2 with
   | false=>rw [c3] at h3;rw [bY h3];rfl
   | true=>
    rw [c3] at h3
    rw [dT h3]
    rw [bY (s:=((rv b q2).2.1,((0+1+1+1:Nat):Int),[]++[(rv b 0).1]++[(rv b q1).1]++[(rv b q2).1])) (he _ _)]
    rfl

theorem bUj {b:List Int} (hb: ∀ x∈b,0<=x∧x<=255) (hl:b.length<=68719476736):rG b 0 3=some (aK8 b):=by
 unfold rG
 have r1:inR 3 0 100=true:=by decide
 have r2:inR 0 0 (b.length:Int)=true:=by rw [bT];omega
 simp only [kZ,aA,r1,r2,bY9,zY]
 refine aWu (fun p i out hp hi ho=> ?_) (fun p out=>by simp)
 have e1:decide ((i:Int)<3)=true:=by simp;omega
 have e2:wr ((i:Int)+1)=((i+1:Nat):Int):=by
  have :wr ((i:Int)+1)=(i:Int)+1:=wri (by omega) (by omega)
  rw [this];omega
 simp only [e1,zZ,bX0 hb hl hp,aA,e2,aD (b:=8) (n:=out.length) (m:=1) (by decide) (by omega)]
 cases (rv b p).2.2<;>rfl

theorem bV1 {b:List Int} (hb: ∀ x∈b,0<=x∧x<=255) (hl:b.length<=68719476736):qQ b 0 3=some (aK8 b):=by
 unfold qQ
 have r1:inR 3 0 100=true:=by decide
 have r2:inR 0 0 (b.length:Int)=true:=by rw [bT];omega
 simp only [fG,aA,r1,r2,bY9,zY]
 refine aWu (fun p i out hp hi ho=> ?_) (fun p out=>by simp)
 have e1:decide ((i:Int)<3)=true:=by simp;omega
 have e2:wr ((i:Int)+1)=((i+1:Nat):Int):=by
  have :wr ((i:Int)+1)=(i:Int)+1:=wri (by omega) (by omega)
  rw [this];omega
 simp only [e1,zZ,bYl hb hl hp,aA,e2,aD (b:=8) (n:=out.length) (m:=1) (by decide) (by omega)]
 cases (rv b p).2.2<;>rfl


def xD (b:List Int):Int×q28:=
 match aK8 b with
 | (q,true,[x,y,z])=>cond (q==(b.length:Int)) (cond (dS (x,y,z)) (x,y,z,true) (0,0,0,false)) (0,0,0,false)
 | _=>(0,0,0,false)

theorem bUr {b:List Int} (hb: ∀ x∈b,0<=x∧x<=255) (hl:b.length<=68719476736):iO b=some (xD b):=by
 unfold iO xD ixb
 rw [bUj hb hl]
 rcases bAh b with h | ⟨q,x,y,z,h⟩
 ·rw [h];rfl
 ·rw [h]
  simp only [aA,bY9,zY,bne,aDv]
  cases q==(b.length:Int)
  ·rfl
  ·cases hv:dS (x,y,z)<;>simp [hv]

theorem bTq {b:List Int} (hb: ∀ x∈b,0<=x∧x<=255) (hl:b.length<=68719476736):iJ b=some (xD b):=by
 unfold iJ xD ixb
 rw [bV1 hb hl]
 rcases bAh b with h | ⟨q,x,y,z,h⟩
 ·rw [h];rfl
 ·rw [h]
  simp only [aA,bY9,zY,bne,aDr]
  cases q==(b.length:Int)
  ·rfl
  ·cases hv:dS (x,y,z)<;>simp [hv]

def aA7 (x:den tRv) (l:lRv) (k:Nat) (y:den tRv):Option lRv:=
 cond (y.1==x.1) (cond (y.2.1==x.2.1) (some (l.set k (y.1,y.2.1,if x.2.2>y.2.2 then x.2.2 else y.2.2))) none) none

def aK2 (l:lRv) (x:den tRv):lRv:=
 cond (dS x) (match cD (aA7 x l) 0 l with
  | some r=>r
  | none=>if 16<l.length+1 then (l++[x]).drop 1 else l++[x]) l

theorem bBi {α:Type} {l:List α} (h:0<l.length):cut l (1:Int) (l.length:Int)=l.drop 1:=aYr (k:=1) h

theorem aX1 (l:lRv) (x:den tRv):decide (((l++[x]).length:Int)>16)=decide (16<l.length+1):=by
 rw [bZy];simp;omega

theorem bUn {l:lRv} {x:den tRv} (h:l.length<=1073741824):lS l x=some (aK2 l x):=by
 unfold lS aK2 ixb pj3
 rw [aSs (show l.length<=68719476736 by omega)]
 simp only [aA,aM,aDv]
 cases hv:dS x with
 | false=>rfl
 | true=>
  simp only [bY9,zY,zZ]
  rw [aT (l:=l) (aA7 x l) (by omega) (fun k y hi hd hw hm hk=>by
   have hy:l[k]? =some y:=by rw [← aG];exact hi
   simp only [hd,zZ,fI,bZi,hy,aA,bNq,hw]
   unfold aA7
   cases y.1==x.1
   ·rfl
   ·cases y.2.1==x.2.1<;>rfl) (by simp)]
  cases cD (aA7 x l) 0 l with
  | some r=>rfl
  | none=>
   have e1:bR (1:Int) ((l++[x]).length:Int) ((l++[x]).length:Int)=true:=by
    have :=aD3 (a:=1) (b:=(l++[x]).length) (n:=(l++[x]).length)
    rw [show ((1:Nat):Int)=1 from rfl] at this
    rw [this];simp
   have e2:=bBi (l:=l++[x]) (by simp)
   simp only [aA,cAc,aD (b:=24) (n:=l.length) (m:=1) (by decide) (by omega),zZ,aX1,e1,e2,aSs (l:=(l++[x]).drop 1) (by simp;omega)]
   by_cases c:16<l.length+1
   ·have c2:(16:Int)<(l.length:Int)+1:=by omega
    simp [c,c2]
   ·have c2: ¬ (16:Int)<(l.length:Int)+1:=by omega
    simp [c,c2]

theorem bVa {l:lRv} {x:den tRv} (h:l.length<=1073741824):lP l x=some (aK2 l x):=by
 unfold lP aK2 ixb pj3
 rw [aD (b:=24) (n:=([]:lRv).length) (by decide) (by simp;omega)]
 simp only [zZ,aA,aM,aDr,bZ4]
 cases hv:dS x with
 | false=>rfl
 | true=>
  simp only [bY9,zY,zZ]
  rw [aT (l:=l) (aA7 x l) (by omega) (fun k y hi hd hw hm hk=>by
   have hy:l[k]? =some y:=by rw [← aG];exact hi
   have hk2:decide (k<l.length)=true:=by simpa using hk
   simp only [hd,zZ,fI,bZi,hy,aA,bCy,hw,hk2]
   unfold aA7
   cases y.1==x.1
   ·rfl
   ·cases y.2.1==x.2.1<;>rfl) (by simp)]
  cases cD (aA7 x l) 0 l with
  | some r=>rfl
  | none=>
   have e1:bR (1:Int) ((l++[x]).length:Int) ((l++[x]).length:Int)=true:=by
    have :=aD3 (a:=1) (b:=(l++[x]).length) (n:=(l++[x]).length)
    rw [show ((1:Nat):Int)=1 from rfl] at this
    rw [this];simp
   have e2:=bBi (l:=l++[x]) (by simp)
   simp only [aA,cAc,aD (b:=24) (n:=l.length) (m:=1) (by decide) (by omega),zZ,aX1,e1,e2]
   by_cases c:16<l.length+1
   ·have c2:(16:Int)<(l.length:Int)+1:=by omega
    simp [c,c2]
   ·have c2: ¬ (16:Int)<(l.length:Int)+1:=by omega
    simp [c,c2]

def aMy (s:den aAf) (a:List Int):List Int:=
 (fun b=>cond (s.2.2 != 0) (b++[wr (wr (8 * s.1)+s.2.2)]) b) (cond (s.2.1 != 0) (a++[wr (wr (8 * s.1)+s.2.1)]) a)

theorem aOp (s:den aAf) (a:List Int):(aMy s a).length<=a.length+2:=by
 unfold aMy
 cases s.2.1 != 0<;>cases s.2.2 != 0<;>simp

def iT (p:den tPt):List Int:=cN (fun _ s a=>aMy s a) 0 (hU p) []

theorem aGn {α:Type} (l:List α):(l.map fun _=>2).sum=2 * l.length:=by
 induction l with
 | nil=>rfl
 | cons x l ih=>simp only [bZv,cAn,ih,cAb];omega

theorem bAr {p:den tPt} (h:tot tPt p<=1073741824):fZ p=some (iT p):=by
 have hl:=aC1 p
 unfold fZ yY iT
 rw [aRv (bY8 h (by decide))]
 simp only [aA]
 rw [oI (fun k (a:List Int)=>((k:Int),a)) ((0:Int),[]) [] (hU p) (fun _ s a=>aMy s a) bZo (fun _=>2) 68719476736 id rfl (by omega) (by rw [aGn];simp;omega) (fun k x a=>aOp x a) (fun k x a hi hx hd hw hk hb=>by
  simp only [hd,hi,hw,zZ,aA,aD (b:=8) (n:=a.length) (m:=1) (by decide) (by omega)]
  unfold aMy
  cases x.2.1 != 0<;>cases x.2.2 != 0<;>simp [aD (b:=8) (n:=a.length) (m:=1) (by decide) (by omega),aD (b:=8) (n:=a.length+1) (m:=1) (by decide) (by omega)]) (fun a=>by simp)]
 rfl

theorem aZx {p:den tPt} (h:tot tPt p<=1073741824):fU p=some (iT p):=by
 have hl:=aC1 p
 unfold fU iT ixb
 rw [aGd (bY8 h (by decide))]
 simp only [aA]
 rw [oI (fun k (a:List Int)=>((k:Int),a)) ((0:Int),[]) [] (hU p) (fun _ s a=>aMy s a) bZo (fun _=>2) 68719476736 id rfl (by omega) (by rw [aGn];simp;omega) (fun k x a=>aOp x a) (fun k x a hi hx hd hw hk hb=>by
  simp only [hd,hx,hw,zZ,aA,fI,bZi,aD (b:=8) (n:=a.length) (m:=1) (by decide) (by omega)]
  unfold aMy
  cases x.2.1 != 0<;>cases x.2.2 != 0<;>simp [aD (b:=8) (n:=a.length) (m:=1) (by decide) (by omega),aD (b:=8) (n:=a.length+1) (m:=1) (by decide) (by omega)]) (fun a=>by simp)]
 rfl

def oL (l:List Int) (n:Int):Bool:= !(l.all fun x=> !(x==n))

theorem aMu {l:List Int} {n:Int} (h:l.length<=68719476736):mZ l n=some (oL l n):=by
 unfold mZ oL
 rw [aT (l:=l) (fun _ x=>if !(x==n) then none else some true) (by omega) (fun k x hi hd hw hm hk=>by
  simp only [hd,hi,hw,zZ,aA]
  cases x==n<;>rfl) (by simp),mT (fun x:Int=> !(x==n))]
 cases l.all (fun x=> !(x==n))<;>rfl

theorem aGr {l:List Int} {n:Int} (h:l.length<=68719476736):fK l n=some (oL l n):=by
 unfold fK oL
 rw [aT (l:=l) (fun _ x=>if !(x==n) then none else some true) (by omega) (fun k x hi hd hw hm hk=>by
  simp only [hd,hi,hw,zZ,aA]
  cases x==n<;>rfl) (by simp),mT (fun x:Int=> !(x==n))]
 cases l.all (fun x=> !(x==n))<;>rfl

theorem aH0 (p:den tPt):(iT p).length<=2 * tot tPt p:=by
 have h:=aCo (f:=fun _ s (a:List Int)=>aMy s a) (m:=bZo) (cost:=fun _=>2) (fun k x a=>aOp x a) (hU p) 0 []
 have hl:=aC1 p
 rw [aGn] at h
 unfold iT
 simp at h
 omega

def rN (p:den tPt) (x:den tRv):Bool:=dS x&&oL (iT p) (wr (wr (8 * x.1)+x.2.1))

theorem bIw {p:den tPt} {x:den tRv} (h:tot tPt p<=1073741824):rK p x=some (rN p x):=by
 have :=aH0 p
 unfold rK rN pj3
 simp only [aM,aDv,aA,bAr h,aMu (l:=iT p) (by omega)]
 cases dS x<;>rfl

theorem aT7 {p:den tPt} {x:den tRv} (h:tot tPt p<=1073741824):qW p x=some (rN p x):=by
 have :=aH0 p
 unfold qW rN pj3
 simp only [aM,aDr,aA,aZx h,aGr (l:=iT p) (by omega)]
 cases dS x<;>rfl

theorem aLy {α R:Type} (m:R→Nat) (B:Nat) {g:Nat→α→Option R}: ∀ {l:List α} {k:Nat},(∀ j x r,l[j]? =some x→g (k+j) x=some r→m r<=B)→ ∀ r,cD g k l=some r→m r<=B
 | [],_,_,r,h=>by cases h
 | x::xs,k,hg,r,h=>by
  simp only [cD] at h
  cases hx:g k x with
  | some r'=>rw [hx] at h;injection h with h;subst h;exact hg 0 x r' rfl hx
  | none=>
   rw [hx] at h
   exact aLy m B (fun j y r hy hr=>hg (j+1) y r (by simpa using hy) (by rw [show k+(j+1)=k+1+j by omega];exact hr)) r h

theorem bH0 (l:lRv):tot (.sl tRv) l=l.length:=by
 induction l with
 | nil=>rfl
 | cons x l ih=>rw [lM,ih];simp [tot];omega

theorem bKx (l:lRv) (x:den tRv):tot (.sl tRv) (aK2 l x)<=l.length+1:=by
 rw [bH0]
 unfold aK2
 cases dS x with
 | false=>simp
 | true=>
  simp only [zZ]
  cases hs:cD (aA7 x l) 0 l with
  | some r=>
   refine aLy bZo (l.length+1) (g:=aA7 x l) (l:=l) (k:=0) (fun j y r' hy hr=> ?_) r hs
   unfold aA7 at hr
   cases c1:y.1==x.1 with
   | false=>rw [c1] at hr;cases hr
   | true=>
    cases c2:y.2.1==x.2.1 with
    | false=>rw [c1,c2] at hr;cases hr
    | true=>rw [c1,c2] at hr;injection hr with hr;rw [← hr];simp
  | none=>
   by_cases c:16<l.length+1
   ·simp [c]
   ·simp [c]

def aRn (f:den tFl) (x:den tRv):Bool:=inR f.2.2.2.2.2.2.1 0 ((f.2.2.2.2.2.1.length:Int) - 1)&&rN ((f.2.2.2.2.2.1[f.2.2.2.2.2.2.1.toNat]?).getD []) x

def aBh (b:List Int):den tRv:=((xD b).1,(xD b).2.1,(xD b).2.2.1)

def aAc (f:den tFl) (p:den tPk):den tFl:=
 cond (p.1==3&&(xD p.2.2.2.2.2.2.2.2.2).2.2.2)
  (f.1,f.2.1,f.2.2.1,f.2.2.2.1,f.2.2.2.2.1,f.2.2.2.2.2.1,cond (aRn f (aBh p.2.2.2.2.2.2.2.2.2)) (vM f) f.2.2.2.2.2.2.1,cond (aRn f (aBh p.2.2.2.2.2.2.2.2.2)) 0 f.2.2.2.2.2.2.2.1,aK2 f.2.2.2.2.2.2.2.2 (aBh p.2.2.2.2.2.2.2.2.2)) f


def bXg (f:den tFl):q36:=(f.1,f.2.1,f.2.2.1,f.2.2.2.1,f.2.2.2.2.2.2.1,f.2.2.2.2.2.2.2.1,f.2.2.2.2.2.2.2.2,f.2.2.2.2.1,f.2.2.2.2.2.1)

theorem bA8 {f:den tFl} (h:tot tFl f<=1073741824) (hr:inR f.2.2.2.2.2.2.1 0 ((f.2.2.2.2.2.1.length:Int) - 1)=true): ∃ q,f.2.2.2.2.2.1[f.2.2.2.2.2.2.1.toNat]? =some q∧idx f.2.2.2.2.2.1 f.2.2.2.2.2.2.1=some q∧tot tPt q<=1073741824:=by
 obtain ⟨h0,h1⟩:=bT.1 hr
 obtain ⟨q,hq⟩:=aAk h0 h1
 have ht:=zB (t:=tPt) hq
 have hp:tot (.sl tPt) f.2.2.2.2.2.1<=1073741824:=aHk (bK (bK (bK (bK (bK h)))))
 exact ⟨q,hq,aIr h0 hq,by omega⟩

theorem bRu {f:den tFl} {p:den tPk} {now:Int} (h:tot tFl f<=1073741824) (hp:tot tPk p<=1073741824) (hb: ∀ x∈p.2.2.2.2.2.2.2.2.2,0<=x∧x<=255):iF f p now=some (oB (aAc f p)):=by
 have hf:SmB 68719476736 tFl f:=(bF h).mono (by decide)
 have hl:p.2.2.2.2.2.2.2.2.2.length<=68719476736:=bY8 (eW (t:=tb) _) (bY8 (bK (bK (bK (bK (bK (bK (bK (bK (bK hp))))))))) (by decide))
 have hv:f.2.2.2.2.2.2.2.2.length<=1073741824:=bY8 (eW (t:=tRv) _) (bK (bK (bK (bK (bK (bK (bK (bK h))))))))
 have hn:f.2.2.2.2.2.1.length<=68719476736:=hf.2.2.2.2.2.1.1
 unfold iF aAc pj9 zz4 zz5 zz6 zz7 zz8 zz9
 simp only [aM,aI8 hf,aA,bUr hb hl,kZ,mD hn,bBf,bUn hv,bne]
 cases c1:p.1==3
 ·simp only [bZj,zZ,aA,bZu,zY]
 ·cases c2:(xD p.2.2.2.2.2.2.2.2.2).2.2.2
  ·simp only [bY9,bZj,zZ,zY,aA,bZn]
  ·simp only [bY9,zZ,zY,aA,bZn]
   unfold aRn
   cases c3:inR f.2.2.2.2.2.2.1 0 ((f.2.2.2.2.2.1.length:Int) - 1)
   ·simp only [zY,aA,bZu];rfl
   ·obtain ⟨q,hq,hi,ht⟩:=bA8 h c3
    have ha:=bIw (p:=q) (x:=aBh p.2.2.2.2.2.2.2.2.2) ht
    have ha:rK q ((xD p.2.2.2.2.2.2.2.2.2).1,(xD p.2.2.2.2.2.2.2.2.2).2.1,(xD p.2.2.2.2.2.2.2.2.2).2.2.1)=some (rN q (aBh p.2.2.2.2.2.2.2.2.2)):=ha
    simp only [zZ,hi,hq,bZ6,aA,ha,bZn]
    cases rN q (aBh p.2.2.2.2.2.2.2.2.2)<;>rfl

theorem bSf {f:den tFl} {p:den tPk} {now:Int} (h:tot tFl f<=1073741824) (hp:tot tPk p<=1073741824) (hb: ∀ x∈p.2.2.2.2.2.2.2.2.2,0<=x∧x<=255):iL f p now=some (bXg (aAc f p)):=by
 have hf:SmB 68719476736 tFl f:=(bF h).mono (by decide)
 have hl:p.2.2.2.2.2.2.2.2.2.length<=68719476736:=bY8 (eW (t:=tb) _) (bY8 (bK (bK (bK (bK (bK (bK (bK (bK (bK hp))))))))) (by decide))
 have hv:f.2.2.2.2.2.2.2.2.length<=1073741824:=bY8 (eW (t:=tRv) _) (bK (bK (bK (bK (bK (bK (bK (bK h))))))))
 have hn:f.2.2.2.2.2.1.length<=68719476736:=hf.2.2.2.2.2.1.1
 unfold iL aAc pj3 pj9 zz4 zz5 zz6 zz7 zz8 zz9
 simp only [aM,aD8 hf,aA,bTq hb hl,fG,mD hn,bVa hv,bne]
 cases c1:p.1==3
 ·simp only [bZj,zZ,aA,bZu,zY];rfl
 ·cases c2:(xD p.2.2.2.2.2.2.2.2.2).2.2.2
  ·simp only [bY9,bZj,zZ,zY,aA,bZn];rfl
  ·simp only [bY9,zZ,zY,aA,bZn]
   unfold aRn
   cases c3:inR f.2.2.2.2.2.2.1 0 ((f.2.2.2.2.2.1.length:Int) - 1)
   ·simp only [zY,aA,bZu];rfl
   ·obtain ⟨q,hq,hi,ht⟩:=bA8 h c3
    have ha:=aT7 (p:=q) (x:=aBh p.2.2.2.2.2.2.2.2.2) ht
    have ha:qW q ((xD p.2.2.2.2.2.2.2.2.2).1,(xD p.2.2.2.2.2.2.2.2.2).2.1,(xD p.2.2.2.2.2.2.2.2.2).2.2.1)=some (rN q (aBh p.2.2.2.2.2.2.2.2.2)):=ha
    simp only [zZ,hi,hq,bZ6,aA,ha,bZn,bIl hf c3]
    cases rN q (aBh p.2.2.2.2.2.2.2.2.2)<;>rfl

theorem bG2 (f:den tFl) (p:den tPk):tot tFl (aAc f p)<=tot tFl f+1:=by
 unfold aAc
 cases (p.1==3&&(xD p.2.2.2.2.2.2.2.2.2).2.2.2)
 ·simp
 ·have h1:=bKx f.2.2.2.2.2.2.2.2 (aBh p.2.2.2.2.2.2.2.2.2)
  have h2:=bH0 f.2.2.2.2.2.2.2.2
  simp only [zZ,rX,uP]
  omega

def jS (h:den cH):Bool:=inR h.1 0 7&&(inR h.2.1 0 6&&(inR h.2.2.1 0 6&&(!(h.2.1==h.2.2.1)&&(inR h.2.2.2.1 0 1000000&&jX h.2.2.2.2))))

theorem aOq (h:den cH):mS h=some (jS h):=by
 unfold mS jS zz4
 simp only [kZ,aF4,aA,bne]
 cases inR h.1 0 7<;>cases inR h.2.1 0 6<;>cases inR h.2.2.1 0 6<;>cases h.2.1==h.2.2.1<;>cases inR h.2.2.2.1 0 1000000<;>rfl

theorem aKh (h:den cH):jQ h=some (jS h):=by
 unfold jQ jS zz4
 simp only [fG,aEh,aA,bne]
 cases inR h.1 0 7<;>cases inR h.2.1 0 6<;>cases inR h.2.2.1 0 6<;>cases h.2.1==h.2.2.1<;>cases inR h.2.2.2.1 0 1000000<;>rfl

theorem aPv (n k:Nat):decide ((n:Int)>(k:Int))= !decide (n<=k):=by rw [bZy];simp

def aFs (l:dA):Bool:=decide (l.length<=8)&&l.all jS

theorem bRh {l:dA} (h:l.length<=68719476736):lN l=some (aFs l):=by
 unfold lN aFs pj5
 rw [aT (l:=l) (fun _ x=>if jS x then none else some false) (by omega) (fun k x hi hd hw hm hk=>by
  simp only [hd,hi,hw,zZ,aA,aM,aOq]
  cases jS x<;>rfl) (by simp),mT jS]
 have e:=aPv l.length 8
 rw [show ((8:Nat):Int)=8 from rfl] at e
 rw [e]
 cases decide (l.length<=8)<;>cases l.all jS<;>rfl

def aBj (p:den tPp):Bool:=inR p.1 1 4&&(inR p.2.1 0 1000000&&(jX p.2.2.1&&aFs p.2.2.2))

theorem bVm {p:den tSg} (h:p.2.2.length<=68719476736):tD p=some (inR p.1 0 1000000&&(jX p.2.1&&aFs p.2.2)):=by
 unfold tD aFs pj5
 rw [aT (l:=p.2.2) (fun _ x=>if jS x then none else some false) (by omega) (fun k x hi hd hw hm hk=>by
  simp only [hd,hi,hw,zZ,aA,aM,aKh]
  cases jS x<;>rfl) (by simp),mT jS]
 have e:=aPv p.2.2.length 8
 rw [show ((8:Nat):Int)=8 from rfl] at e
 rw [e,fG,aEh]
 cases inR p.1 0 1000000<;>cases jX p.2.1<;>cases decide (p.2.2.length<=8)<;>cases p.2.2.all jS<;>rfl

def aHf (p:den tPt):Bool:=decide (p.length<=3)&&p.all aBj

theorem bVx {p:den tPt} (h:SmB 68719476736 tPt p):lO p=some (aHf p):=by
 unfold lO aHf
 rw [aT (l:=p) (fun _ x=>if aBj x then none else some false) (bY8 h.1 (by decide)) (fun k x hi hd hw hm hk=>by
  have hx:=(h.2 x hm).2.2.2.1
  simp only [hd,hi,hw,zZ,aA,aM,kZ,aF4,bRh hx]
  unfold aBj
  cases inR x.1 1 4<;>cases inR x.2.1 0 1000000<;>cases jX x.2.2.1<;>cases aFs x.2.2.2<;>rfl) (by simp),mT aBj]
 have e:=aPv p.length 3
 rw [show ((3:Nat):Int)=3 from rfl] at e
 rw [e]
 cases decide (p.length<=3)<;>cases p.all aBj<;>rfl

theorem bTa {p:den tPt} (h:SmB 68719476736 tPt p):lY p=some (aHf p):=by
 unfold lY aHf pj3
 rw [aT (l:=p) (fun _ x=>if aBj x then none else some false) (bY8 h.1 (by decide)) (fun k x hi hd hw hm hk=>by
  have hx:=(h.2 x hm).2.2.2.1
  have hs:=bVm (p:=(x.2.1,x.2.2.1,x.2.2.2)) hx
  simp only [hd,hi,hw,zZ,aA,aM,fG]
  simp only [aM] at hs
  simp only [hs,aA]
  unfold aBj
  cases inR x.1 1 4<;>cases inR x.2.1 0 1000000<;>cases jX x.2.2.1<;>cases aFs x.2.2.2<;>rfl) (by simp),mT aBj]
 have e:=aPv p.length 3
 rw [show ((3:Nat):Int)=3 from rfl] at e
 rw [e]
 cases decide (p.length<=3)<;>cases p.all aBj<;>rfl

def aAa (x:den tPp):Bool:= !((x.2.2.2.length:Int)==0)

def gX (p:den tPk):Bool:=inR p.1 1 3&&(aHf p.2.2.2.1&&(cG p&&(jX p.2.2.2.2.2.2.1&&(p.2.2.2.1.all aAa&&(inR p.2.1 0 7&&(inR p.2.2.1 0 7&&(inR p.2.2.2.2.2.2.2.1 0 100000&&(inR p.2.2.2.2.2.2.2.2.1 0 100000&&decide ((p.2.2.2.2.2.2.2.2.2.length:Int)<=40)))))))))

theorem bUh {p:den tPk} (h:aHf p.2.2.2.1=true):decide (cZ p<0)= !cG p:=by
 cases c:cG p with
 | false=>rw [aAt c];rfl
 | true=>
  obtain ⟨i,j,x,y,h1,h2,h3,h4,h5⟩:=aDo c
  rw [h5]
  unfold aHf at h
  have ha:=(bZb _ _▸h:_∧_).2
  have hx:=bZx.1 ha x (bZk h3)
  unfold aBj aFs at hx
  simp only [bZb] at hx
  have hy:=bZx.1 hx.2.2.2.2 y (bZk h4)
  unfold jS at hy
  simp only [bZb,bT] at hy
  have :=hy.1.1
  simp;omega

theorem bJn {p:den tPk} (h:SmB 68719476736 tPk p):pG p=some (gX p):=by
 unfold pG gX aI zz6 zz7 zz8 zz9
 rw [aT (l:=p.2.2.2.1) (fun _ x=>if aAa x then none else some false) (bY8 h.2.2.2.1.1 (by decide)) (fun k x hi hd hw hm hk=>by
  simp only [hd,hi,hw,zZ,aA]
  unfold aAa
  cases (x.2.2.2.length:Int)==0<;>rfl) (by simp),mT aAa]
 simp only [kZ,aM,aF3 h,bVx h.2.2.2.1,aF4,aA]
 cases inR p.1 1 3
 ·rfl
 ·cases he:aHf p.2.2.2.1
  ·rfl
  ·rw [bUh he]
   cases hz:(p.2.2.2.1.length:Int)==0
   ·cases cG p<;>simp only [bY9,bZj,zZ,zY,aA,bZu,bZn]
    cases jX p.2.2.2.2.2.2.1<;>simp only [bY9,bZj,zZ,zY,aA,bZu,bZn]
    cases p.2.2.2.1.all aAa<;>cases inR p.2.1 0 7<;>cases inR p.2.2.1 0 7<;>cases inR p.2.2.2.2.2.2.2.1 0 100000<;>cases inR p.2.2.2.2.2.2.2.2.1 0 100000<;>rfl
   ·have hh:cG p=false:=by
     have hl:(p.2.2.2.1.length:Int)=0:=by simpa using hz
     unfold cG
     have :inR p.2.2.2.2.1 0 ((p.2.2.2.1.length:Int) - 1)=false:=by rw [aZ1];omega
     rw [this];rfl
    rw [hh]
    rfl

theorem aW5 {p:den tPk} (h:SmB 68719476736 tPk p):iX p=some (gX p):=by
 have l1:=h.2.2.2.1.1
 unfold iX gX zz4 zz5 zz6 zz7 zz8 zz9
 rw [aT (l:=p.2.2.2.1) (fun _ x=>if aAa x then none else some false) (bY8 h.2.2.2.1.1 (by decide)) (fun k x hi hd hw hm hk=>by
  simp only [hd,hi,hw,zZ,aA]
  unfold aAa
  cases (x.2.2.2.length:Int)==0<;>rfl) (by simp),mT aAa]
 simp only [fG,mD l1,bTa h.2.2.2.1,aEh,aA]
 unfold cG
 cases inR p.1 1 3
 ·rfl
 ·cases he:aHf p.2.2.2.1
  ·rfl
  ·cases c1:inR p.2.2.2.2.1 0 ((p.2.2.2.1.length:Int) - 1)
   ·rfl
   ·rw [bT] at c1
    obtain ⟨x,hx⟩:=aAk c1.1 c1.2
    have l2:=(h.2.2.2.1.2 _ (bZk hx)).2.2.2.1
    rw [aIr c1.1 hx,hx]
    simp only [bY9,zY,aA,bZ6,mD l2,bZn]
    cases jX p.2.2.2.2.2.2.1<;>cases inR p.2.2.2.2.2.1 0 ((x.2.2.2.length:Int) - 1)<;>cases p.2.2.2.1.all aAa<;>cases inR p.2.1 0 7<;>cases inR p.2.2.1 0 7<;>cases inR p.2.2.2.2.2.2.2.1 0 100000<;>cases inR p.2.2.2.2.2.2.2.2.1 0 100000<;>rfl

def aBi (a b:Int) (f:den tFl):Bool:=(f.1==a&&f.2.1==b)||(f.1==b&&f.2.1==a)

def uM (e:den gC):den tPk:=e.2.2.2.2.2

noncomputable def harm (w:den tNw) (e:den gC):Bool:=
 cond (!(e.1==7)||(!gX (uM e)||(uM e).1==3)) true (cond (w.2.2.2.2.2.1.all fun x=> !aBz x.2.2 (uM e)) (w.2.2.2.2.2.2.1.all fun f=> !aBi (uM e).2.1 (uM e).2.2.1 f) true)

theorem bGh {w:den tNw} {a b:Int} (hw:SmB 68719476736 tNw w):oD w a b=some (!(w.2.2.2.2.2.2.1.all fun f=> !aBi a b f)):=by
 unfold oD zz6
 rw [aT (l:=w.2.2.2.2.2.2.1) (fun _ f=>if !aBi a b f then none else some true) (bY8 hw.2.2.2.2.2.2.1.1 (by decide)) (fun k x hi hd hw hm hk=>by
  simp only [hd,hi,hw,zZ,aA]
  unfold aBi
  cases x.1==a<;>cases x.2.1==b<;>cases x.1==b<;>cases x.2.1==a<;>rfl) (by simp),mT (fun f:den tFl=> !aBi a b f)]
 cases w.2.2.2.2.2.2.1.all (fun f=> !aBi a b f)<;>rfl

theorem bUx {w:den tNw} {e:den gC} (hw:SmB 68719476736 tNw w) (he:SmB 68719476736 gC e):qE w e=some (harm w e):=by
 have hp:SmB 68719476736 tPk (uM e):=he.2.2.2.2.2
 unfold qE harm aI cO zz5 zz6 zz7
 rw [aT (l:=w.2.2.2.2.2.1) (fun _ x=>if !aBz x.2.2 (uM e) then none else some true) (bY8 hw.2.2.2.2.2.1.1 (by decide)) (fun k x hi hd hw2 hm hk=>by
  have hs:lA x.2.2 e.2.2.2.2.2=some (aBz x.2.2 (uM e)):=bSa (hw.2.2.2.2.2.1.2 x hm).2.2 hp
  simp only [hd,hi,hw2,zZ,aA,aM,hs]
  cases aBz x.2.2 (uM e)<;>rfl) (by simp),mT (fun x:den tFy=> !aBz x.2.2 (uM e))]
 have hv:iX e.2.2.2.2.2=some (gX (uM e)):=aW5 hp
 have hf:oD w e.2.2.2.2.2.2.1 e.2.2.2.2.2.2.2.1=some (!(w.2.2.2.2.2.2.1.all fun f=> !aBi (uM e).2.1 (uM e).2.2.1 f)):=bGh hw
 simp only [aM,hv,hf,aA,bne]
 show @Option.bind Bool Bool (cond (!(e.1==7)) (some true) (cond (!gX (uM e)) (some true) (cond ((uM e).1==3) (some true) _))) _=_
 cases e.1==7
 ·rfl
 ·cases gX (uM e)
  ·rfl
  ·cases (uM e).1==3
   ·cases w.2.2.2.2.2.1.all (fun x=> !aBz x.2.2 (uM e))<;>cases w.2.2.2.2.2.2.1.all (fun f=> !aBi (uM e).2.1 (uM e).2.2.1 f)<;>rfl
   ·rfl

abbrev aEx (l:lRs) (now:Int):lRs:=l.filter fun x=>decide (now<=x.2.2.2.2)

theorem bJx {l:lRs} {now:Int} (h:l.length<=1073741824):fQ l now=some (aEx l now):=by
 unfold fQ pj5 zz4
 rw [(aMi (l:=l) (out:=fun a=>a) (fun (a:lRs) x=>if decide (now<=x.2.2.2.2) then a++[x] else a) (fun k a=>a.length<=k) (by omega) (by simp) (fun k x a hi hd hw hx hk hI=>by
  simp only [hd,hi,hw,zZ,aA]
  by_cases hp:now<=x.2.2.2.2
  ·simp [hp,aD (b:=40) (n:=a.length) (m:=1) (by decide) (by omega)];omega
  ·simp [hp];omega) (fun a=>by simp)).1]
 simp only [aDp,bZ4,aA]

theorem bMf {l:lRs} {now:Int} (h:l.length<=1073741824):fR l now=some (aEx l now):=by
 unfold fR pj5 zz4
 rw [(aMi (l:=l) (out:=fun a=>a) (fun (a:lRs) x=>if decide (now<=x.2.2.2.2) then a++[x] else a) (fun k a=>a.length<=k) (by omega) (by simp) (fun k x a hi hd hw hx hk hI=>by
  simp only [hd,hi,hw,zZ,aA]
  by_cases hp:now<=x.2.2.2.2
  ·simp [hp,aD (b:=40) (n:=a.length) (m:=1) (by decide) (by omega)];omega
  ·simp [hp];omega) (fun a=>by simp)).1]
 simp only [aDp,bZ4,aA]

def atR (x:den tRs) (s d:Int):Bool:=x.2.1==s&&x.2.2.1==d

theorem bJk (x:den tRs) (s d:Int):eC x s d=some (atR x s d):=by
 unfold eC atR
 cases x.2.1==s<;>simp

theorem bTf (x:den tRs) (s d now:Int):zM x s d now=some (atR x s d&&decide (now<=x.2.2.2.2)):=by
 unfold zM atR zz4
 cases x.2.1==s<;>cases x.2.2.1==d<;>simp

def rate (l:lRs) (s d now:Int):Int:=l.foldl (fun a x=>if atR x s d&&decide (now<=x.2.2.2.2) then wr (a+x.2.2.2.1) else a) 0

theorem bJi {l:lRs} {s d now:Int} (h:l.length<=1073741824):jA l s d now=some (rate l s d now):=by
 unfold jA pj5 zz4
 rw [(aRi (l:=l) (out:=fun a=>a) (fun (a:Int) x=>if atR x s d&&decide (now<=x.2.2.2.2) then wr (a+x.2.2.2.1) else a) (fun _ _=>True) (by omega) trivial (fun k x a hi hd hw hx hk hI=>by
  refine ⟨?_,trivial⟩
  simp only [hd,hi,hw,zZ,aA]
  rw [show ((x.1,x.2.1,x.2.2.1,x.2.2.2.1,x.2.2.2.2):den tRs)=x from rfl,bJk]
  cases atR x s d<;>cases decide (now<=x.2.2.2.2)<;>rfl) (fun a=>by simp)).1]
 rfl

theorem aXe {l:lRs} {s d now:Int} (h:l.length<=1073741824):fJ l s d now=some (rate l s d now):=by
 unfold fJ pj5
 rw [(aRi (l:=l) (out:=fun a=>a) (fun (a:Int) x=>if atR x s d&&decide (now<=x.2.2.2.2) then wr (a+x.2.2.2.1) else a) (fun _ _=>True) (by omega) trivial (fun k x a hi hd hw hx hk hI=>by
  refine ⟨?_,trivial⟩
  simp only [hd,hi,hw,zZ,aA]
  rw [show ((x.1,x.2.1,x.2.2.1,x.2.2.2.1,x.2.2.2.2):den tRs)=x from rfl,bTf]
  cases atR x s d<;>cases decide (now<=x.2.2.2.2)<;>rfl) (fun a=>by simp)).1]
 rfl

def free (l:lRs) (cap s d now:Int):Int:=if wr (cap - rate l s d now)>0 then wr (cap - rate l s d now) else 0

theorem bUi {l:lRs} {cap s d now:Int} (h:l.length<=1073741824):uV l cap s d now=some (free l cap s d now):=by
 unfold uV
 simp only [bJi h,aA,bNq];rfl

theorem bF3 {l:lRs} {cap s d now:Int} (h:l.length<=1073741824):pZ l cap s d now=some (free l cap s d now):=by
 unfold pZ
 simp only [aXe h,aA,bCy];rfl

def aBk (l:lRs) (id s d now:Int):Int:=
 match cD (fun _ (x:den tRs)=>if x.1==id&&(atR x s d&&decide (now<=x.2.2.2.2)) then some x.2.2.2.1 else none) 0 l with
 | some r=>r
 | none=>0

theorem bHd {l:lRs} {id s d now:Int} (h:l.length<=1073741824):jL l id s d now=some (aBk l id s d now):=by
 unfold jL pj5 zz4
 rw [aT (l:=l) (fun _ (x:den tRs)=>if x.1==id&&(atR x s d&&decide (now<=x.2.2.2.2)) then some x.2.2.2.1 else none) (by omega) (fun k x hi hd hw hx hk=>by
  simp only [hd,hi,hw,zZ,aA]
  rw [show ((x.1,x.2.1,x.2.2.1,x.2.2.2.1,x.2.2.2.2):den tRs)=x from rfl,bJk]
  cases x.1==id<;>cases atR x s d<;>cases decide (now<=x.2.2.2.2)<;>rfl) (by simp)]
 unfold aBk
 cases cD (fun _ (x:den tRs)=>if x.1==id&&(atR x s d&&decide (now<=x.2.2.2.2)) then some x.2.2.2.1 else none) 0 l<;>rfl

theorem aT9 {l:lRs} {id s d now:Int} (h:l.length<=1073741824):fD l id s d now=some (aBk l id s d now):=by
 unfold fD pj5
 rw [aT (l:=l) (fun _ (x:den tRs)=>if x.1==id&&(atR x s d&&decide (now<=x.2.2.2.2)) then some x.2.2.2.1 else none) (by omega) (fun k x hi hd hw hx hk=>by
  simp only [hd,hi,hw,zZ,aA]
  rw [show ((x.1,x.2.1,x.2.2.1,x.2.2.2.1,x.2.2.2.2):den tRs)=x from rfl,bTf]
  cases x.1==id<;>cases atR x s d<;>cases decide (now<=x.2.2.2.2)<;>rfl) (by simp)]
 unfold aBk
 cases cD (fun _ (x:den tRs)=>if x.1==id&&(atR x s d&&decide (now<=x.2.2.2.2)) then some x.2.2.2.1 else none) 0 l<;>rfl

def uC (x:den tRs):Bool:=inR x.1 1 100000&&(inR x.2.2.2.1 1 20&&dS (x.2.1,x.2.2.1,x.2.2.2.2))

theorem bKd (x:den tRs):iK x=some (uC x):=by
 unfold iK uC zz4
 simp only [kZ,aDv,aA]
 cases inR x.1 1 100000<;>cases inR x.2.2.2.1 1 20<;>cases dS (x.2.1,x.2.2.1,x.2.2.2.2)<;>rfl

theorem aVw (x:den tRs):eN x=some (uC x):=by
 unfold eN uC zz4
 simp only [fG,aDr,aA]
 cases inR x.1 1 100000<;>cases inR x.2.2.2.1 1 20<;>cases dS (x.2.1,x.2.2.1,x.2.2.2.2)<;>rfl

def gK (x y:den tRs):Bool:=y.1==x.1&&atR y x.2.1 x.2.2.1

theorem aTk {l:lRs} {x:den tRs} (h:l.length<=1073741824):mP l x=some (l.filter fun y=> !gK x y):=by
 unfold mP pj5
 rw [(aMi (l:=l) (out:=fun a=>a) (fun (a:lRs) y=>if !gK x y then a++[y] else a) (fun k a=>a.length<=k) (by omega) (by simp) (fun k y a hi hd hw hx hk hI=>by
  simp only [hd,hi,hw,zZ,aA]
  have hap:=aD (b:=40) (n:=a.length) (m:=1) (by decide) (by omega)
  unfold gK atR
  simp only [bne]
  cases h1:y.1==x.1<;>cases h2:y.2.1==x.2.1<;>cases h3:y.2.2.1==x.2.2.1<;>simp [hap]<;>omega) (fun a=>by simp)).1]
 simp only [aDp,bZ4,aA]


def okR (l:lRs) (cap now:Int) (k:Nat) (x:den tRs):Bool:=uC x&&(!decide (rate l x.2.1 x.2.2.1 now>cap)&& !(l.take k).any (gK x))

def xE (l:lRs) (cap now:Int):Bool:=
 decide (l.length<=40)&&(cD (fun k x=>if okR l cap now k x then none else some ()) 0 l).isNone

theorem yO {α R S:Type} (p:Nat→α→Bool) (r:R) (s:S): ∀ (l:List α) (k:Nat),(cD (fun k x=>if p k x then none else some r) k l).isNone=(cD (fun k x=>if p k x then none else some s) k l).isNone∧ ∀ q,cD (fun k x=>if p k x then none else some r) k l=some q→q=r
 | [],_=>⟨rfl,fun q h=>by cases h⟩
 | x::xs,k=>by
  simp only [cD]
  cases p k x with
  | true=>simpa using yO p r s xs (k+1)
  | false=>simp

theorem bD7 {α:Type} (p:Nat→α→Bool) (l:List α):(match cD (fun k x=>if p k x then none else some false) 0 l with
  | some r=>some r
  | none=>some true)=some (cD (fun k x=>if p k x then none else some ()) 0 l).isNone:=by
 obtain ⟨h1,h2⟩:=yO p false () l 0
 rw [← h1]
 cases h:cD (fun k x=>if p k x then none else some false) 0 l with
 | none=>rfl
 | some q=>rw [h2 q h];rfl

theorem bJj {l:lRs} {cap now:Int} (h:l.length<=1073741824):gG l cap now=some (xE l cap now):=by
 unfold gG xE pj5
 by_cases hl:l.length<=40
 ·rw [zW (by omega),zY,zX hl,bZn]
  rw [aT (l:=l) (fun k x=>if okR l cap now k x then none else some false) (by omega) (fun k x hi hd hw hx hk=>by
   have hslo:bR (0:Int) (k:Int) (l.length:Int)=true:=by simp [bR];omega
   have hlen:(l.take k).length<=1073741824:=by simp;omega
   simp only [hd,hi,hw,zZ,aA,hslo,fF]
   rw [show ((x.1,x.2.1,x.2.2.1,x.2.2.2.1,x.2.2.2.2):den tRs)=x from rfl,bKd,bJi h]
   unfold okR
   cases hv:uC x with
   | false=>rfl
   | true=>
    cases hr:decide (rate l x.2.1 x.2.2.1 now>cap) with
    | true=>simp [hr]
    | false=>
     simp only [aA,bY9,zY,hr,bZj,bZn]
     rw [aT (l:=l.take k) (R:=Int⊕(Unit⊕Bool)) (fun _ y=>if gK x y then some (bY5 (bY5 false)) else none) (by omega) (fun j y hi2 hd2 hw2 hx2 hk2=>by
      simp only [hd2,hi2,hw2,zZ,aA]
      rw [show ((y.1,y.2.1,y.2.2.1,y.2.2.2.1,y.2.2.2.2):den tRs)=y from rfl,bJk]
      unfold gK
      cases y.1==x.1<;>cases atR y x.2.1 x.2.2.1<;>rfl) (by simp)]
     have key: ∀ (m:lRs) (j:Nat),cD (fun _ y=>if gK x y then some (bY5 (bY5 false):Int⊕(Unit⊕Bool)) else none) j m=if m.any (gK x) then some (bY5 (bY5 false)) else none:=by
      intro m
      induction m with
      | nil=>intro j;rfl
      | cons y m ih=>
       intro j
       simp only [cD,List.any_cons]
       rcases cBr (gK x y) with hs | hs
       ·simp [hs]
       ·simp only [hs,ih,bZd,zU]
        rfl
     rw [key]
     cases (l.take k).any (gK x)<;>simp) (by simp)]
  rw [← bD7]
  cases cD (fun k x=>if okR l cap now k x then none else some false) 0 l<;>rfl
 ·rw [zX (by omega),zZ,zW hl];rfl

theorem bF1 {l:lRs} {cap now:Int} (h:l.length<=1073741824):gI l cap now=some (xE l cap now):=by
 unfold gI xE pj5
 rw [aT (l:=l) (fun k x=>if okR l cap now k x then none else some false) (by omega) (fun k x hi hd hw hx hk=>by
  have hslo:bR (0:Int) (k:Int) (l.length:Int)=true:=by simp [bR];omega
  have hlen:(l.take k).length<=1073741824:=by simp;omega
  simp only [hd,hi,hw,zZ,aA,hslo,fF]
  rw [show ((x.1,x.2.1,x.2.2.1,x.2.2.2.1,x.2.2.2.2):den tRs)=x from rfl,aVw,aTk hlen,aXe h]
  unfold okR
  cases hv:uC x with
  | false=>rfl
  | true=>
   simp only [aA,bY9,zY,bZn]
   have hany:((((l.take k).filter fun y=> !gK x y).length:Int) != (k:Int))=(l.take k).any (gK x):=by
    have hk':(l.take k).length=k:=by simp;omega
    cases ha:(l.take k).any (gK x) with
    | false=>
     have :(l.take k).filter (fun y=> !gK x y)=l.take k:=by
      rw [List.filter_eq_self]
      intro y hy
      have :=List.any_eq_false.1 ha y hy
      simpa using this
     rw [this,hk'];simp
    | true=>
     obtain ⟨y,hy,hs⟩:=List.any_eq_true.1 ha
     have hlt:((l.take k).filter fun y=> !gK x y).length<(l.take k).length:=by
      refine Nat.lt_of_le_of_ne (cBu ..) fun he=> ?_
      have :=(List.length_filter_eq_length_iff.1 he) y hy
      rw [hs] at this
      cases this
     rw [bne_iff_ne]
     omega
   rw [hany]
   cases (l.take k).any (gK x)<;>cases decide (rate l x.2.1 x.2.2.1 now>cap)<;>rfl) (by simp)]
 obtain ⟨h1,h2⟩:=yO (okR l cap now) false () l 0
 rw [← h1]
 cases hsc:cD (fun k x=>if okR l cap now k x then none else some false) 0 l with
 | none=>simp;omega
 | some q=>rw [h2 q hsc];simp

def jP (id s d:Int) (x:den tUs):Bool:=x.1==id&&(x.2.1==s&&x.2.2.1==d)

def place (l:lUs) (id s d:Int):Int:=
 match cD (fun k x=>if jP id s d x then some (k:Int) else none) 0 l with
 | some i=>i
 | none=> -1

theorem aK0 (l:lUs) (id s d:Int):place l id s d= -1∨ ∃ (j:Nat) (x:den tUs),place l id s d=(j:Int)∧l[j]? =some x∧j<l.length:=by
 unfold place
 cases h:cD (fun k x=>if jP id s d x then some (k:Int) else none) 0 l with
 | none=>exact .inl rfl
 | some i=>
  obtain ⟨j,x,h1,h2,h3⟩:=aOz h
  exact .inr ⟨j,x,by simpa using h2,h1,(bZf.1 h1).1⟩

theorem aTg {g:den tSc} {id s d:Int} (h:g.2.2.length<=1073741824):pA g id s d=some (place g.2.2 id s d):=by
 unfold pA
 rw [aT (l:=g.2.2) (fun k x=>if jP id s d x then some (k:Int) else none) (by omega) (fun k x hi hd hw hx hk=>by
  simp only [hd,hi,hw,zZ,aA]
  unfold jP
  cases x.1==id<;>cases x.2.1==s<;>cases x.2.2.1==d<;>rfl) (by simp)]
 unfold place
 cases cD (fun k x=>if jP id s d x then some (k:Int) else none) 0 g.2.2<;>rfl

theorem aRs {l:lUs} {id s d:Int} (h:l.length<=1073741824):mY l id s d=some (place l id s d):=by
 unfold mY
 rw [aT (l:=l) (fun k x=>if jP id s d x then some (k:Int) else none) (by omega) (fun k x hi hd hw hx hk=>by
  simp only [hd,hi,hw,zZ,aA]
  unfold jP
  cases x.1==id<;>cases x.2.1==s<;>cases x.2.2.1==d<;>rfl) (by simp)]
 unfold place
 cases cD (fun k x=>if jP id s d x then some (k:Int) else none) 0 l<;>rfl

def oN (g:den tSc) (id s d now:Int):Int:=if id==0 then free g.2.1 g.1 s d now else aBk g.2.1 id s d now

theorem bAl {g:den tSc} {id s d now:Int} (h:g.2.1.length<=1073741824):wK g id s d now=some (oN g id s d now):=by
 unfold wK oN
 rw [bUi h,bHd h]
 cases id==0<;>rfl

def okU (g:den tSc) (now:Int) (k:Nat) (x:den tUs):Bool:=place g.2.2 x.1 x.2.1 x.2.2.1==(k:Int)&&inR x.2.2.2 1 (oN g x.1 x.2.1 x.2.2.1 now)

def zA (g:den tSc) (now:Int):Bool:=inR g.1 1 20&&(xE g.2.1 g.1 now&&(cD (fun k x=>if okU g now k x then none else some ()) 0 g.2.2).isNone)

theorem bLr {g:den tSc} {now:Int} (h1:g.2.1.length<=1073741824) (h2:g.2.2.length<=1073741824):kN g now=some (zA g now):=by
 unfold kN zA pj3
 rw [aT (l:=g.2.2) (fun k x=>if okU g now k x then none else some false) (by omega) (fun k x hi hd hw hx hk=>by
  simp only [hd,hi,hw,zZ,aA]
  rw [show ((g.1,g.2.1,g.2.2):den tSc)=g from rfl,aTg h2,bAl h1]
  unfold okU
  simp only [aA,kZ,bne]
  cases place g.2.2 x.1 x.2.1 x.2.2.1==(k:Int)<;>cases inR x.2.2.2 1 (oN g x.1 x.2.1 x.2.2.1 now)<;>rfl) (by simp)]
 rw [← yO (okU g now) false () g.2.2 0 |>.1]
 have h3:=(yO (okU g now) false () g.2.2 0).2
 simp only [kZ,bJj h1,aA]
 cases inR g.1 1 20<;>cases xE g.2.1 g.1 now<;>(cases hsc:cD (fun k x=>if okU g now k x then none else some false) 0 g.2.2 with
  | none=>rfl
  | some q=>rw [h3 q hsc];rfl)

theorem bKs {g:den tSc} {now:Int} (h1:g.2.1.length<=1073741824) (h2:g.2.2.length<=1073741824):kM g now=some (zA g now):=by
 unfold kM zA
 rw [aT (l:=g.2.2) (fun k x=>if okU g now k x then none else some false) (by omega) (fun k x hi hd hw hx hk=>by
  simp only [hd,hi,hw,zZ,aA,aRs h2,bF3 h1,aT9 h1,fG]
  unfold okU oN
  simp only [bne]
  cases x.1==0<;>simp only [zZ,zY,aA,fG,zV,bZd,zU]<;>cases place g.2.2 x.1 x.2.1 x.2.2.1==(k:Int)<;>simp only [bY9,bZj,zZ,zY,aA,bZn,bZu]<;>(first | rfl | (split<;>simp_all))) (by simp)]
 rw [← yO (okU g now) false () g.2.2 0 |>.1]
 have h3:=(yO (okU g now) false () g.2.2 0).2
 simp only [fG,bF1 h1,aA]
 cases inR g.1 1 20<;>cases xE g.2.1 g.1 now<;>(cases hsc:cD (fun k x=>if okU g now k x then none else some false) 0 g.2.2 with
  | none=>rfl
  | some q=>rw [h3 q hsc];rfl)

theorem jE {n:Nat} (h:n<=68719476736):wr ((n:Int) - 1)=(n:Int) - 1:=wri (by omega) (by omega)

def cM (t:den tTo) (r:Int):Bool:=inR r 0 ((t.1.length:Int) - 1)

theorem aI4 {t:den tTo} {r:Int} (h:t.1.length<=68719476736):jU t r=some (cM t r):=by
 unfold jU cM
 rw [jE h,kZ];rfl

theorem aBu {t:den tTo} {r:Int} (h:t.1.length<=68719476736):cW t r=some (cM t r):=by
 unfold cW cM
 rw [jE h,fG];rfl

theorem bXh (n:Int):vD n=some (inR n 1 2147483646):=by unfold vD;rw [kZ];rfl

theorem bXl (n:Int):vL n=some (inR n 1 2147483646):=by unfold vL;rw [fG];rfl

def cY (l:den tLk) (r d:Int):Bool:=(l.1==r&&l.2.1==d)||(l.2.2.1==r&&l.2.2.2.1==d)

theorem aZ5 (l:den tLk) (r d:Int):fP l r d=some (cY l r d):=by
 unfold fP cY
 cases l.1==r<;>cases l.2.1==d<;>cases l.2.2.1==r<;>cases l.2.2.2.1==d<;>rfl

theorem bA2 (l:den tLk) (r d:Int):uB l r d=some (cY l r d):=by
 unfold uB cY
 cases l.1==r<;>cases l.2.1==d<;>cases l.2.2.1==r<;>cases l.2.2.2.1==d<;>rfl

def aSn (k:Int) (x y:den tAS):Bool:=cond (k==1) (x.2.1&&y.2.1) (cond (k==2) (x.1==y.1&& !y.2.1) (cond (k==3) (!x.2.1&& !y.2.1) false))

def aAh (t:den tTo) (l:den tLk):Bool:=
 cM t l.1&&(cM t l.2.2.1&&(!decide (l.1>=l.2.2.1)&&(inR l.2.1 1 6&&(inR l.2.2.2.1 1 6&&aSn l.2.2.2.2 ((t.1[l.1.toNat]?).getD (0,false,0)) ((t.1[l.2.2.1.toNat]?).getD (0,false,0))))))

theorem aFz {t:den tTo} {r:Int} (h:cM t r=true): ∃ x,t.1[r.toNat]? =some x∧idx t.1 r=some x:=by
 obtain ⟨h0,h1⟩:=bT.1 h
 obtain ⟨x,hx⟩:=aAk h0 h1
 exact ⟨x,hx,aIr h0 hx⟩

theorem bSy {t:den tTo} {l:den tLk} (h:t.1.length<=68719476736):aAn t l=some (aAh t l):=by
 unfold aAn aAh pj2 pj3 zz4
 simp only [aM,aI4 h,kZ,aA]
 cases c1:cM t l.1
 ·rfl
 ·cases c2:cM t l.2.2.1
  ·rfl
  ·obtain ⟨x,hx,ix⟩:=aFz c1
   obtain ⟨y,hy,iy⟩:=aFz c2
   rw [ix,iy,hx,hy]
   simp only [aV,bJ,aZ,aY,bA,aA,bZ6,bY9,zY,bZn]
   unfold aSn
   cases decide (l.1>=l.2.2.1)
   ·cases inR l.2.1 1 6
    ·rfl
    ·cases inR l.2.2.2.1 1 6
     ·rfl
     ·cases l.2.2.2.2==1
      ·cases l.2.2.2.2==2
       ·cases l.2.2.2.2==3
        ·rfl
        ·cases x.2.1<;>rfl
       ·cases x.1==y.1<;>rfl
      ·cases x.2.1<;>rfl
   ·rfl

theorem aZ6 {t:den tTo} {l:den tLk} (h:t.1.length<=68719476736):pX t l=some (aAh t l):=by
 unfold pX aAh pj2 zz4
 simp only [aM,aBu h,fG,aA]
 cases c1:cM t l.1
 ·rfl
 ·cases c2:cM t l.2.2.1
  ·rfl
  ·obtain ⟨x,hx,ix⟩:=aFz c1
   obtain ⟨y,hy,iy⟩:=aFz c2
   rw [ix,iy,hx,hy]
   simp only [aA,bZ6,bY9,zY,bZn]
   unfold aSn
   cases decide (l.1>=l.2.2.1)
   ·cases inR l.2.1 1 6
    ·rfl
    ·cases inR l.2.2.2.1 1 6
     ·rfl
     ·cases l.2.2.2.2==1
      ·cases l.2.2.2.2==2
       ·cases l.2.2.2.2==3
        ·rfl
        ·cases x.2.1<;>rfl
       ·cases x.1==y.1<;>rfl
      ·cases x.2.1<;>rfl
   ·rfl

def asP (t:den tTo) (k:Nat) (x:den tAS):Bool:=inR x.1 0 2&&(inR x.2.2 1 2147483646&&(t.1.take k).all fun y=> !(x.2.2==y.2.2))

def lkP (t:den tTo) (k:Nat) (x:den tLk):Bool:=aAh t x&&(t.2.take k).all fun y=> !(cY y x.1 x.2.1||cY y x.2.2.1 x.2.2.2.1)

def uL (t:den tTo):Bool:=inR (t.1.length:Int) 1 8&&((t.1.zipIdx 0).all (fun z=>asP t z.2 z.1)&&(t.2.zipIdx 0).all fun z=>lkP t z.2 z.1)

theorem xS {k n:Nat} (h:k<n):bR (0:Int) (k:Int) (n:Int)=true:=by
 have :=aD3 (a:=0) (b:=k) (n:=n)
 rw [show ((0:Nat):Int)=0 from rfl] at this
 rw [this];simp;omega

theorem aYx {α:Type} {l:List α} {k j:Nat} {x:α} (h:idx (l.take k) (j:Int)=some x):idx l (j:Int)=some x:=by
 rw [aG] at h ⊢
 exact (aOe h).1

theorem wG {α:Type} {l:List α} {k:Nat} (h:k<l.length):(l.take k).length=k:=by simp;omega

theorem bUf {t:den tTo} (h:SmB 68719476736 tTo t):lU t=some (uL t):=by
 have l1:=h.1.1
 have l2:=h.2.1
 unfold lU uL pj2 pj5
 rw [aT (l:=t.1) (fun k x=>if asP t k x then none else some false) (bY8 l1 (by decide)) (fun k x hi hd hw hm hk=>by
  simp only [hd,hi,zZ,aA,kZ,bXh,xS hk,fF,hw]
  rw [aT (l:=t.1.take k) (fun _ y=>if !(x.2.2==y.2.2) then none else some (bY5 (bY5 false))) (by rw [wG hk];omega) (fun j y hi hd hw hm hk=>by
   simp only [hd,hi,hw,zZ,aA]
   cases x.2.2==y.2.2<;>rfl) (by simp),mT (fun y:den tAS=> !(x.2.2==y.2.2))]
  unfold asP
  cases inR x.1 0 2<;>cases inR x.2.2 1 2147483646<;>cases (t.1.take k).all (fun y=> !(x.2.2==y.2.2))<;>rfl) (by simp),aBy (asP t)]
 rw [aT (l:=t.2) (fun k x=>if lkP t k x then none else some false) (bY8 l2 (by decide)) (fun k x hi hd hw hm hk=>by
  simp only [hd,hi,zZ,aA,aM,bSy l1,xS hk,fF,hw]
  rw [aT (l:=t.2.take k) (fun _ y=>if !(cY y x.1 x.2.1||cY y x.2.2.1 x.2.2.2.1) then none else some (bY5 (bY5 false))) (by rw [wG hk];omega) (fun j y hi hd hw hm hk=>by
   simp only [hd,hi,hw,zZ,aA,aM,aZ5]
   cases cY y x.1 x.2.1<;>cases cY y x.2.2.1 x.2.2.2.1<;>rfl) (by simp),mT (fun y:den tLk=> !(cY y x.1 x.2.1||cY y x.2.2.1 x.2.2.2.1))]
  unfold lkP
  cases aAh t x<;>cases (t.2.take k).all (fun y=> !(cY y x.1 x.2.1||cY y x.2.2.1 x.2.2.2.1))<;>rfl) (by simp),aBy (lkP t)]
 rw [kZ,aA]
 cases inR (t.1.length:Int) 1 8<;>cases (t.1.zipIdx 0).all (fun z=>asP t z.2 z.1)<;>cases (t.2.zipIdx 0).all (fun z=>lkP t z.2 z.1)<;>rfl

theorem bM7 (a b:Int):(a==b)=(b==a):=by rw [bZy];simp;exact eq_comm

theorem bHm {t:den tTo} (h:SmB 68719476736 tTo t):hZ t=some (uL t):=by
 have l1:=h.1.1
 have l2:=h.2.1
 unfold hZ uL pj2 pj5
 rw [aT (l:=t.1) (fun k x=>if asP t k x then none else some false) (bY8 l1 (by decide)) (fun k x hi hd hw hm hk=>by
  simp only [hd,hi,zZ,aA,fG,bXl,hw]
  rw [aT (l:=t.1.take k) (fun _ y=>if !(x.2.2==y.2.2) then none else some (bY5 (bY5 false))) (by rw [wG hk];omega) (fun j y hi2 hd hw hm hk2=>by
   rw [wG hk] at hd
   simp only [hd,aYx hi2,hi,hw,zZ,aA,bM7 y.2.2 x.2.2]
   cases x.2.2==y.2.2<;>rfl) (by rw [wG hk];simp),mT (fun y:den tAS=> !(x.2.2==y.2.2))]
  unfold asP
  cases inR x.1 0 2<;>cases inR x.2.2 1 2147483646<;>cases (t.1.take k).all (fun y=> !(x.2.2==y.2.2))<;>rfl) (by simp),aBy (asP t)]
 rw [aT (l:=t.2) (fun k x=>if lkP t k x then none else some false) (bY8 l2 (by decide)) (fun k x hi hd hw hm hk=>by
  simp only [hd,hi,zZ,aA,aM,aZ6 l1,hw]
  rw [aT (l:=t.2.take k) (fun _ y=>if !(cY y x.1 x.2.1||cY y x.2.2.1 x.2.2.2.1) then none else some (bY5 (bY5 false))) (by rw [wG hk];omega) (fun j y hi2 hd hw hm hk2=>by
   rw [wG hk] at hd
   simp only [hd,aYx hi2,hi,hw,zZ,aA,aM,bA2]
   cases cY y x.1 x.2.1<;>cases cY y x.2.2.1 x.2.2.2.1<;>rfl) (by rw [wG hk];simp),mT (fun y:den tLk=> !(cY y x.1 x.2.1||cY y x.2.2.1 x.2.2.2.1))]
  unfold lkP
  cases aAh t x<;>cases (t.2.take k).all (fun y=> !(cY y x.1 x.2.1||cY y x.2.2.1 x.2.2.2.1))<;>rfl) (by simp),aBy (lkP t)]
 rw [fG,aA]
 cases inR (t.1.length:Int) 1 8<;>cases (t.1.zipIdx 0).all (fun z=>asP t z.2 z.1)<;>cases (t.2.zipIdx 0).all (fun z=>lkP t z.2 z.1)<;>rfl

def xOk (x:den tIb):Bool:=inR x.1 0 7&&(inR x.2.1 0 7&&(!(x.1==x.2.1)&&((x.2.2.1==(x.2.2.2.length:Int))&&(decide (x.2.2.1<=20)&&x.2.2.2.all fun m=>decide (m.length<=40)))))

theorem bWy (a b:Int):decide (a>b)= !decide (a<=b):=by rw [bZy];simp

theorem bXu {x:den tIb} (h:x.2.2.2.length<=68719476736):rA x=some (xOk x):=by
 unfold rA xOk
 rw [aT (l:=x.2.2.2) (fun _ m=>if decide (m.length<=40) then none else some false) (by omega) (fun k m hi hd hw hx hk=>by
  simp only [hd,hi,hw,zZ,aA]
  by_cases hm:m.length<=40
  ·simp [hm,show ¬ ((m.length:Int)>40) by omega]
  ·simp [hm,show (m.length:Int)>40 by omega]) (by simp),mT (fun m:List Int=>decide (m.length<=40))]
 simp only [kZ,aA,bne,bWy]
 cases inR x.1 0 7<;>cases inR x.2.1 0 7<;>cases x.1==x.2.1<;>cases x.2.2.1==(x.2.2.2.length:Int)<;>cases decide (x.2.2.1<=20)<;>cases x.2.2.2.all (fun m=>decide (m.length<=40))<;>rfl

theorem bWg {x:den tIb} (h:x.2.2.2.length<=68719476736):rJ x=some (xOk x):=by
 unfold rJ xOk
 rw [aT (l:=x.2.2.2) (fun _ m=>if decide (m.length<=40) then none else some false) (by omega) (fun k m hi hd hw hx hk=>by
  simp only [hd,hi,hw,zZ,aA]
  by_cases hm:m.length<=40
  ·simp [hm,show ¬ ((m.length:Int)>40) by omega]
  ·simp [hm,show (m.length:Int)>40 by omega]) (by simp),mT (fun m:List Int=>decide (m.length<=40))]
 simp only [fG,aA,bne]
 cases inR x.1 0 7<;>cases inR x.2.1 0 7<;>cases x.1==x.2.1<;>cases x.2.2.1==(x.2.2.2.length:Int)<;>cases decide (x.2.2.1<=20)<;>cases x.2.2.2.all (fun m=>decide (m.length<=40))<;>rfl

theorem bRn {t:den tTo} (h:SmB 68719476736 tTo t):nH t=some t:=by
 unfold nH pj2
 simp only [aD (b:=24) (n:=([]:lAS).length) (m:=t.1.length) (by decide) (by simpa using h.1.1),aD (b:=40) (n:=([]:lLk).length) (m:=t.2.length) (by decide) (by simpa using h.2.1),zZ,aV,bJ,aZ,aY,bA,aA,bZ4,aM]

theorem bAy {t:den tTo} (h:SmB 68719476736 tTo t):rD t=some t:=by
 unfold rD pj2
 simp only [aD (b:=24) (n:=([]:lAS).length) (m:=t.1.length) (by decide) (by simpa using h.1.1),aD (b:=40) (n:=([]:lLk).length) (m:=t.2.length) (by decide) (by simpa using h.2.1),zZ,aV,bJ,aZ,aY,bA,aA,bZ4,aM]

theorem bSu {x:den tSg} (h:x.2.2.length<=68719476736):gO x=some x:=by
 unfold gO
 rw [bAo h]
 rfl

theorem aGa {x:den tSg} (h:x.2.2.length<=68719476736):fX x=some x:=by
 unfold fX
 rw [aD (b:=40) (n:=([]:dA).length) (by decide) (by simpa using h)]
 rfl

theorem aYj {l:lSg} (h:SmB 68719476736 (.sl tSg) l):lB l=some l:=by
 unfold lB pj3
 rw [(uJ (fun k (a:lSg)=>((k:Int),a)) ((0:Int),[]) [] l (fun _ x a=>a++[x]) bZo (fun _=>1) 68719476736 id rfl (bY8 h.1 (by decide)) (by rw [eZ];simpa using h.1) (fun k x a hi hx hd hw hk hb=>by
  have e:=h.2 x (bZk hx)
  simp only [hd,hi,hw,zZ,aA,aM,bSu e.2.2.1,aD (b:=40) (by decide) hb]
  simp) (fun a=>by simp)).1,jK (fun x=>x)]
 simp

theorem aDy {l:lSg} (h:SmB 68719476736 (.sl tSg) l):fE l=some l:=by
 unfold fE pj3
 rw [(uJ (fun k (a:lSg)=>((k:Int),a)) ((0:Int),[]) [] l (fun _ x a=>a++[x]) bZo (fun _=>1) 68719476736 id rfl (bY8 h.1 (by decide)) (by rw [eZ];simpa using h.1) (fun k x a hi hx hd hw hk hb=>by
  have e:=h.2 x (bZk hx)
  simp only [hd,hi,hw,zZ,aA,aM,aGa e.2.2.1,aD (b:=40) (by decide) hb]
  simp) (fun a=>by simp)).1,jK (fun x=>x)]
 simp

theorem bUw (c:Int):nE c=some (cond (inR c 1 20) c 1,[],[]):=by
 unfold nE
 rw [fG]
 cases inR c 1 20<;>rfl

def aU3 (t:den tTo) (now:Int):Bool:=uL t&&inR now 0 1000000

theorem bTd {t:den tTo} {k:den tDb} {c now:Int} (ht:SmB 68719476736 tTo t) (hk:SmB 68719476736 tDb k):qZ t k c now=some (cond (aU3 t now) (cond (inR c 1 20) c 1,now,0,t.1,t.2,k.1,k.2,[],[],[],[],[],[]) (0,0,0,[],[],[],[],[],[],[],[],[],[])):=by
 unfold qZ aU3 pj2
 simp only [aM,bHm ht,fG,bAy ht,aDy hk.1,aDy hk.2,bUw,aA]
 cases uL t<;>cases inR now 0 1000000<;>rfl

def oQ (a b:Int) (x:den tIb):Bool:=x.1==a&&x.2.1==b

theorem aLr {α:Type} (p:α→Bool): ∀ (l:List α) (k:Nat),cD (fun k x=>if p x then some (k:Int) else none) k l=(l.findIdx? p).map (fun i=>((k+i:Nat):Int))
 | [],_=>rfl
 | x::xs,k=>by
  simp only [cD,List.findIdx?_cons]
  cases h:p x with
  | true=>simp
  | false=>
   simp only [bZd,zU]
   rw [aLr p xs (k+1)]
   cases xs.findIdx? p with
   | none=>rfl
   | some i=>simp<;>omega

def jT (l:lIb) (a b:Int):Int:=((l.findIdx? (oQ a b)).map (fun i=>((0+i:Nat):Int))).getD (-1)

theorem aS2 {l:lIb} {a b:Int} (h:l.length<=68719476736):jF l a b=some (jT l a b):=by
 unfold jF jT
 rw [aT (l:=l) (fun k x=>if oQ a b x then some (k:Int) else none) (by omega) (fun k x hi hd hw hm hk=>by
  simp only [hd,hi,hw,zZ,aA]
  unfold oQ
  cases x.1==a<;>cases x.2.1==b<;>rfl) (by simp),aLr (oQ a b)]
 cases l.findIdx? (oQ a b)<;>rfl

theorem bHo {l:lIb} {a b:Int} {k:Nat}:jT l a b=(k:Int)↔(∃ x,l[k]? =some x∧oQ a b x=true)∧ ∀ j,j<k→ ∀ y,l[j]? =some y→oQ a b y=false:=by
 unfold jT
 cases h:l.findIdx? (oQ a b) with
 | none=>
  have hn:=List.findIdx?_eq_none_iff.1 h
  constructor
  ·intro e;exfalso;revert e;simp only [Option.map_none,Option.getD_none];omega
  ·rintro ⟨⟨x,hx,hp⟩,_⟩
   have :=hn x (bZk hx)
   rw [hp] at this;cases this
 | some i=>
  obtain ⟨hi,hp,hj⟩:=List.findIdx?_eq_some_iff_getElem.1 h
  simp only [Option.map_some,bZ6,bZ3]
  constructor
  ·intro e
   have e:i=k:=by omega
   subst e
   refine ⟨⟨l[i],bY7 hi,hp⟩,fun j hlt y hy=> ?_⟩
   have h2:=hj j hlt
   have h3:l[j]? =some l[j]:=bY7 (by omega)
   rw [h3] at hy;injection hy with hy;subst hy
   simpa using h2
  ·rintro ⟨⟨x,hx,hp2⟩,hl⟩
   have hik:i=k:=by
    rcases Nat.lt_trichotomy i k with c | c | c
    ·have :=hl i c l[i] (bY7 hi);rw [hp] at this;cases this
    ·exact c
    ·have h2:=hj k c
     obtain ⟨hk,e⟩:=bZf.1 hx
     rw [e,hp2] at h2;simp at h2
   rw [hik]

def sO (w:den tNw) (k:Nat) (f:den tFl):Bool:=match w.2.2.2.2.2.2.2.1[k]? with
 | some x=>gR f&&(cM w.1 f.1&&(cM w.1 f.2.1&&(xOk x&&zD f x)))
 | none=>false

def pQ (f g:den tFl):Bool:=g.1==f.1&&g.2.1==f.2.1

def aB1 (w:den tNw) (k:Nat) (f:den tFl):Bool:=(w.2.2.2.2.2.2.1.take k).all fun g=> !pQ f g

def aHn (w:den tNw) (k:Nat) (f:den tFl):Bool:=jT w.2.2.2.2.2.2.2.1 f.2.1 f.1==(k:Int)

theorem aOu {w:den tNw} {k:Nat} {f:den tFl} (h:sO w k f=true): ∃ x,w.2.2.2.2.2.2.2.1[k]? =some x∧x.1=f.2.1∧x.2.1=f.1:=by
 unfold sO at h
 cases hx:w.2.2.2.2.2.2.2.1[k]? with
 | none=>rw [hx] at h;cases h
 | some x=>
  rw [hx] at h
  unfold zD at h
  simp only [bZb,beq_iff_eq] at h
  exact ⟨x,rfl,h.2.2.2.2.1,h.2.2.2.2.2.1⟩

theorem aNv {w:den tNw} (hA: ∀ k f,w.2.2.2.2.2.2.1[k]? =some f→sO w k f=true) {k:Nat} {f:den tFl} (hf:w.2.2.2.2.2.2.1[k]? =some f):aB1 w k f=aHn w k f:=by
 have hk:=(bZf.1 hf).1
 rw [bZy]
 unfold aB1 aHn
 rw [bZx,beq_iff_eq,bHo]
 constructor
 ·intro h
  obtain ⟨x,hx,e1,e2⟩:=aOu (hA k f hf)
  refine ⟨⟨x,hx,by unfold oQ;rw [e1,e2];simp⟩,fun j hj y hy=> ?_⟩
  have hg:w.2.2.2.2.2.2.1[j]? =some w.2.2.2.2.2.2.1[j]:=bY7 (by omega)
  obtain ⟨x2,hx2,d1,d2⟩:=aOu (hA j _ hg)
  rw [hx2] at hy;injection hy with hy;subst hy
  have hm:w.2.2.2.2.2.2.1[j]∈w.2.2.2.2.2.2.1.take k:=bZk (i:=j) (by rw [List.getElem?_take_of_lt hj];exact hg)
  have :=h _ hm
  unfold pQ at this
  unfold oQ
  rw [d1,d2]
  revert this
  generalize (w.2.2.2.2.2.2.1[j].1==f.1)=p
  generalize (w.2.2.2.2.2.2.1[j].2.1==f.2.1)=q
  cases p<;>cases q<;>simp
 ·rintro ⟨_,h⟩ g hg
  obtain ⟨j,hj⟩:=List.mem_iff_getElem?.1 hg
  obtain ⟨hj1,hj2⟩:=aOe hj
  obtain ⟨x2,hx2,d1,d2⟩:=aOu (hA j g hj1)
  have :=h j hj2 x2 hx2
  unfold oQ at this
  rw [d1,d2] at this
  unfold pQ
  revert this
  generalize (g.1==f.1)=p
  generalize (g.2.1==f.2.1)=q
  cases p<;>cases q<;>simp

theorem aBb {α:Type} (p:Nat→α→Bool) (l:List α):(l.zipIdx 0).all (fun z=>p z.2 z.1)=true↔ ∀ k x,l[k]? =some x→p k x=true:=by
 rw [bZx]
 constructor
 ·intro h k x hx
  exact h (x,k) (cCm.2 (by simpa using hx))
 ·rintro h ⟨x,k⟩ hz
  exact h k x (by simpa using cCm.1 hz)

theorem bB6 (w:den tNw):(w.2.2.2.2.2.2.1.zipIdx 0).all (fun z=>sO w z.2 z.1&&aB1 w z.2 z.1)=(w.2.2.2.2.2.2.1.zipIdx 0).all (fun z=>sO w z.2 z.1&&aHn w z.2 z.1):=by
 rw [bZy,aBb (fun k f=>sO w k f&&aB1 w k f),aBb (fun k f=>sO w k f&&aHn w k f)]
 simp only [bZb]
 constructor
 ·intro h k f hf
  exact ⟨(h k f hf).1,by rw [← aNv (fun k f hf=>(h k f hf).1) hf];exact (h k f hf).2⟩
 ·intro h k f hf
  exact ⟨(h k f hf).1,by rw [aNv (fun k f hf=>(h k f hf).1) hf];exact (h k f hf).2⟩

def yK (l:List Int) (m:Nat) (k:Nat) (n:Int):Bool:=inR n 0 ((m:Int) - 1)&&(decide (k=0)|| !decide ((l[k - 1]?).getD 0>=n))

def aTa (w:den tNw):Bool:=
 uL w.1&&(inR w.2.2.2.1 0 1000000&&(zA w.2.2.1 w.2.2.2.1&&((w.2.2.2.2.1.zipIdx 0).all (fun z=>yK w.2.2.2.2.1 w.1.2.length z.2 z.1)&&(decide (w.2.2.2.2.2.1.length<=150)&&(decide (w.2.2.2.2.2.2.1.length<=4)&&(decide (w.2.2.2.2.2.2.2.1.length=w.2.2.2.2.2.2.1.length)&&(!decide (w.2.2.2.2.2.2.2.2<0)&&
  (w.2.2.2.2.2.1.all (fun x=>cM w.1 x.1)&&(w.2.2.2.2.2.2.1.zipIdx 0).all (fun z=>sO w z.2 z.1&&aB1 w z.2 z.1)))))))))

theorem aQv (n k:Nat):decide ((n:Int)>(k:Int))= !decide (n<=k):=by rw [bZy];simp

theorem bHg (a b:Nat):((a:Int) != (b:Int))= !decide (a=b):=by rw [bZy];simp;omega

theorem aTp {l:List Int} {k:Nat} (hk:k<l.length) (h0:0<k) (hl:l.length<=68719476736):idx l (wr ((k:Int) - 1))=some ((l[k - 1]?).getD 0):=by
 have e:wr ((k:Int) - 1)=((k - 1:Nat):Int):=by
  have :wr ((k:Int) - 1)=(k:Int) - 1:=wri (by omega) (by omega)
  rw [this];omega
 rw [e,aG,bY7 (show k - 1<l.length by omega)]
 rfl

theorem bU7 {w:den tNw} (h:tot tNw w<=1073741824):nJ w=some (aTa w):=by
 have sm:SmB 68719476736 tNw w:=(bF h).mono (by decide)
 have sms:SmB 1073741824 tNw w:=bF h
 have lT:=sm.1.1.1
 have lL:=sm.1.2.1
 have lD:=sms.2.2.2.2.1.1
 have lQ:=sms.2.2.2.2.2.1.1
 have lF:=sms.2.2.2.2.2.2.1.1
 have lX:=sms.2.2.2.2.2.2.2.1.1
 have eT:=bUf sm.1
 have eS:=bLr (now:=w.2.2.2.1) sms.2.2.1.2.1.1 sms.2.2.1.2.2.1
 have q1:decide ((w.2.2.2.2.2.1.length:Int)>150)= !decide (w.2.2.2.2.2.1.length<=150):=aQv _ 150
 have q2:decide ((w.2.2.2.2.2.2.1.length:Int)>4)= !decide (w.2.2.2.2.2.2.1.length<=4):=aQv _ 4
 unfold nJ aTa pj2 pj3 pj4 pj9 zz4 zz5 zz6 zz7 zz8
 rw [q1,q2,bHg]
 simp only [aM,eT,kZ,eS,aA]
 by_cases hX:w.2.2.2.2.2.2.2.1.length=w.2.2.2.2.2.2.1.length
 ·rw [aT (l:=w.2.2.2.2.1) (fun k n=>if yK w.2.2.2.2.1 w.1.2.length k n then none else some false) (by omega) (fun k n hi hd hw hm hk=>by
   simp only [hd,hi,hw,zZ,aA,kZ,jE lL]
   unfold yK
   cases inR n 0 ((w.1.2.length:Int) - 1)
   ·rfl
   ·by_cases h0:k=0
    ·subst h0;rfl
    ·have e1:decide ((k:Int)>0)=true:=by simp;omega
     rw [e1,aTp hk (by omega) (by omega),zW h0]
     simp only [bY9,zY,zZ,aA,Bool.false_or,bZn]
     cases decide ((w.2.2.2.2.1[k - 1]?).getD 0>=n)<;>rfl) (by simp),aBy (yK w.2.2.2.2.1 w.1.2.length)]
  rw [aT (l:=w.2.2.2.2.2.1) (fun _ x=>if cM w.1 x.1 then none else some false) (by omega) (fun k x hi hd hw hm hk=>by
   simp only [hd,hi,hw,zZ,aA,aI4 lT]
   cases cM w.1 x.1<;>rfl) (by simp),mT (fun x:den tFy=>cM w.1 x.1)]
  rw [aT (l:=w.2.2.2.2.2.2.1) (fun k f=>if sO w k f&&aB1 w k f then none else some false) (by omega) (fun k f hi hd hw hm hk=>by
   have hx:w.2.2.2.2.2.2.2.1[k]? =some w.2.2.2.2.2.2.2.1[k]:=bY7 (by omega)
   have hix:idx w.2.2.2.2.2.2.2.1 (k:Int)=some w.2.2.2.2.2.2.2.1[k]:=by rw [aG];exact hx
   have fs:=sm.2.2.2.2.2.2.1.2 f hm
   have xs:=(sm.2.2.2.2.2.2.2.1.2 _ (bZk hx)).2.2.2.1
   simp only [hd,hi,zZ,aA,aI4 lT,aXn fs,hix,bXu xs,bHq fs.2.2.2.2.1.1 xs,xS hk,fF,hw]
   rw [aT (l:=w.2.2.2.2.2.2.1.take k) (fun _ g=>if !pQ f g then none else some (bY5 (bY5 false))) (by rw [wG hk];omega) (fun j g hi hd hw hm hk=>by
    simp only [hd,hi,hw,zZ,aA]
    unfold pQ
    cases g.1==f.1<;>cases g.2.1==f.2.1<;>rfl) (by simp),mT (fun g:den tFl=> !pQ f g)]
   unfold sO aB1
   rw [hx]
   simp only
   cases gR f<;>simp only [bY9,bZj,zZ,zY,aA,bZu,bZn,bZd,zU]
   ·rfl
   cases cM w.1 f.1<;>simp only [bY9,bZj,zZ,zY,aA,bZu,bZn,bZd,zU]
   ·rfl
   cases cM w.1 f.2.1<;>simp only [bY9,bZj,zZ,zY,aA,bZu,bZn,bZd,zU]
   ·rfl
   cases xOk w.2.2.2.2.2.2.2.1[k]<;>simp only [bY9,bZj,zZ,zY,aA,bZu,bZn,bZd,zU]
   ·rfl
   cases zD f w.2.2.2.2.2.2.2.1[k]<;>cases (w.2.2.2.2.2.2.1.take k).all (fun g=> !pQ f g)<;>rfl) (by simp),aBy (fun k f=>sO w k f&&aB1 w k f)]
  cases uL w.1<;>simp only [bY9,bZj,zZ,zY,aA,bZu,bZn]
  cases inR w.2.2.2.1 0 1000000<;>simp only [bY9,bZj,zZ,zY,aA,bZu,bZn]
  cases zA w.2.2.1 w.2.2.2.1<;>simp only [bY9,bZj,zZ,zY,aA,bZu,bZn]
  cases (w.2.2.2.2.1.zipIdx 0).all (fun z=>yK w.2.2.2.2.1 w.1.2.length z.2 z.1)<;>cases decide (w.2.2.2.2.2.1.length<=150)<;>cases decide (w.2.2.2.2.2.2.1.length<=4)<;>cases decide (w.2.2.2.2.2.2.2.1.length=w.2.2.2.2.2.2.1.length)<;>cases decide (w.2.2.2.2.2.2.2.2<0)<;>cases w.2.2.2.2.2.1.all (fun x=>cM w.1 x.1)<;>cases (w.2.2.2.2.2.2.1.zipIdx 0).all (fun z=>sO w z.2 z.1&&aB1 w z.2 z.1)<;>rfl
 ·have e:decide (w.2.2.2.2.2.2.2.1.length=w.2.2.2.2.2.2.1.length)=false:=by simpa using hX
  rw [e]
  cases uL w.1
  ·rfl
  ·cases inR w.2.2.2.1 0 1000000
   ·rfl
   ·cases zA w.2.2.1 w.2.2.2.1
    ·rfl
    ·cases decide (w.2.2.2.2.2.1.length<=150)<;>cases decide (w.2.2.2.2.2.2.1.length<=4)<;>simp

theorem bQ8 {w:den tNw} (lD:w.2.2.2.2.1.length<=1073741824) (lL:w.1.2.length<=68719476736):xV w=some ((w.2.2.2.2.1.zipIdx 0).all (fun z=>yK w.2.2.2.2.1 w.1.2.length z.2 z.1)):=by
 unfold xV zz4
 rw [aT (l:=w.2.2.2.2.1) (fun k n=>if yK w.2.2.2.2.1 w.1.2.length k n then none else some false) (by omega) (fun k n hi hd hw hm hk=>by
   simp only [hd,hi,hw,zZ,aA,fG,jE lL]
   unfold yK
   cases inR n 0 ((w.1.2.length:Int) - 1)
   ·rfl
   ·by_cases h0:k=0
    ·subst h0;rfl
    ·have e1:decide ((k:Int)>0)=true:=by simp;omega
     rw [e1,aTp hk (by omega) (by omega),zW h0]
     simp only [bY9,zY,zZ,aA,Bool.false_or,bZn]
     cases decide ((w.2.2.2.2.1[k - 1]?).getD 0>=n)<;>rfl) (by simp),aBy (yK w.2.2.2.2.1 w.1.2.length)]
 cases (w.2.2.2.2.1.zipIdx 0).all (fun z=>yK w.2.2.2.2.1 w.1.2.length z.2 z.1)<;>rfl

theorem bTz {w:den tNw} (h:tot tNw w<=1073741824):nB w=some (aTa w):=by
 have sm:SmB 68719476736 tNw w:=(bF h).mono (by decide)
 have sms:SmB 1073741824 tNw w:=bF h
 have lT:=sm.1.1.1
 have lL:=sm.1.2.1
 have lD:=sms.2.2.2.2.1.1
 have lQ:=sms.2.2.2.2.2.1.1
 have lF:=sms.2.2.2.2.2.2.1.1
 have lX:=sms.2.2.2.2.2.2.2.1.1
 have eT:=bHm sm.1
 have eS:=bKs (now:=w.2.2.2.1) sms.2.2.1.2.1.1 sms.2.2.1.2.2.1
 have q1:decide ((w.2.2.2.2.2.1.length:Int)>150)= !decide (w.2.2.2.2.2.1.length<=150):=aQv _ 150
 have q2:decide ((w.2.2.2.2.2.2.1.length:Int)>4)= !decide (w.2.2.2.2.2.2.1.length<=4):=aQv _ 4
 unfold nB aTa pj2 pj3 pj4 pj9 cO zz5 zz6 zz7 zz8
 rw [q1,q2,bHg,bB6]
 simp only [aM,eT,fG,eS,bQ8 lD lL,aA]
 by_cases hX:w.2.2.2.2.2.2.2.1.length=w.2.2.2.2.2.2.1.length
 ·rw [aT (l:=w.2.2.2.2.2.1) (fun _ x=>if cM w.1 x.1 then none else some false) (by omega) (fun k x hi hd hw hm hk=>by
   simp only [hd,hi,hw,zZ,aA,aBu lT]
   cases cM w.1 x.1<;>rfl) (by simp),mT (fun x:den tFy=>cM w.1 x.1)]
  rw [aT (l:=w.2.2.2.2.2.2.1) (fun k f=>if sO w k f&&aHn w k f then none else some false) (by omega) (fun k f hi hd hw hm hk=>by
   have hx:w.2.2.2.2.2.2.2.1[k]? =some w.2.2.2.2.2.2.2.1[k]:=bY7 (by omega)
   have hix:idx w.2.2.2.2.2.2.2.1 (k:Int)=some w.2.2.2.2.2.2.2.1[k]:=by rw [aG];exact hx
   have fs:=sm.2.2.2.2.2.2.1.2 f hm
   have xs:=(sm.2.2.2.2.2.2.2.1.2 _ (bZk hx)).2.2.2.1
   simp only [hd,hi,zZ,aA,aBu lT,aOf fs,hix,bWg xs,bG1 fs.2.2.2.2.1.1 xs,aS2 (l:=w.2.2.2.2.2.2.2.1) (by omega),bne,hw]
   unfold sO aHn
   rw [hx]
   simp only
   cases gR f<;>simp only [bY9,bZj,zZ,zY,aA,bZu,bZn,bZd,zU]
   cases cM w.1 f.1<;>simp only [bY9,bZj,zZ,zY,aA,bZu,bZn,bZd,zU]
   cases cM w.1 f.2.1<;>simp only [bY9,bZj,zZ,zY,aA,bZu,bZn,bZd,zU]
   cases xOk w.2.2.2.2.2.2.2.1[k]<;>simp only [bY9,bZj,zZ,zY,aA,bZu,bZn,bZd,zU]
   cases zD f w.2.2.2.2.2.2.2.1[k]<;>cases (jT w.2.2.2.2.2.2.2.1 f.2.1 f.1==(k:Int))<;>rfl) (by simp),aBy (fun k f=>sO w k f&&aHn w k f)]
  cases uL w.1<;>simp only [bY9,bZj,zZ,zY,aA,bZu,bZn]
  cases inR w.2.2.2.1 0 1000000<;>simp only [bY9,bZj,zZ,zY,aA,bZu,bZn]
  cases zA w.2.2.1 w.2.2.2.1<;>simp only [bY9,bZj,zZ,zY,aA,bZu,bZn]
  cases (w.2.2.2.2.1.zipIdx 0).all (fun z=>yK w.2.2.2.2.1 w.1.2.length z.2 z.1)<;>cases decide (w.2.2.2.2.2.1.length<=150)<;>cases decide (w.2.2.2.2.2.2.1.length<=4)<;>cases decide (w.2.2.2.2.2.2.2.1.length=w.2.2.2.2.2.2.1.length)<;>cases decide (w.2.2.2.2.2.2.2.2<0)<;>cases w.2.2.2.2.2.1.all (fun x=>cM w.1 x.1)<;>cases (w.2.2.2.2.2.2.1.zipIdx 0).all (fun z=>sO w z.2 z.1&&aHn w z.2 z.1)<;>rfl
 ·have e:decide (w.2.2.2.2.2.2.2.1.length=w.2.2.2.2.2.2.1.length)=false:=by simpa using hX
  rw [e]
  cases uL w.1
  ·rfl
  ·cases inR w.2.2.2.1 0 1000000
   ·rfl
   ·cases zA w.2.2.1 w.2.2.2.1
    ·rfl
    ·cases (w.2.2.2.2.1.zipIdx 0).all (fun z=>yK w.2.2.2.2.1 w.1.2.length z.2 z.1)<;>cases decide (w.2.2.2.2.2.1.length<=150)<;>cases decide (w.2.2.2.2.2.2.1.length<=4)<;>simp

def bK5 (n:Int):Int:=bZ0 (wr ((bZ0 n 2147483647)+2147483647)) 2147483647

theorem bVh (n:Int):aHu n 2147483647=some (bK5 n):=by unfold aHu;rw [kZ];rfl

theorem bWb (n:Int):aHp n 2147483647=some (bK5 n):=by unfold aHp;rw [fG];rfl

def bMe (a x:Int):Int:=bZ0 (wr ((wr ((wr (a * (1000003:Int)))+bK5 x))+(11:Int))) (2147483647:Int)

def aE5 (l:List Int):Int:=cN (fun _ x a=>bMe a x) 0 l 7

theorem bLx {l:List Int} (h:l.length<=68719476736):vY l=some (aE5 l):=by
 unfold vY aE5
 rw [oI (fun k (a:Int)=>(a,(k:Int))) ((7:Int),(0:Int)) 7 l (fun _ x a=>bMe a x) (fun _=>0) (fun _=>0) 1 id rfl (by omega) (by rw [sum_nil];omega) (fun k x a=>by omega) (fun k x a hi hx hd hw hk hb=>by
  simp only [hd,hi,hw,zZ,aA,bVh]
  rfl) (fun a=>by simp)]
 rfl

theorem aX3 {l:List Int} (h:l.length<=68719476736):wD l=some (aE5 l):=by
 unfold wD aE5
 rw [oI (fun k (a:Int)=>(a,(k:Int))) ((7:Int),(0:Int)) 7 l (fun _ x a=>bMe a x) (fun _=>0) (fun _=>0) 1 id rfl (by omega) (by rw [sum_nil];omega) (fun k x a=>by omega) (fun k x a hi hx hd hw hk hb=>by
  simp only [hd,hi,hw,zZ,aA,bWb]
  rfl) (fun a=>by simp)]
 rfl

def aWs (h:den cH) (a:List Int):List Int:=a++[h.1,h.2.1,h.2.2.1]

def aM4 (x:den tPp) (a:List Int):List Int:=cN (fun _ h a=>aWs h a) 0 x.2.2.2 (a++[x.1,x.2.1,x.2.2.1])

def aJ0 (p:den tPt):List Int:=cN (fun _ x a=>aM4 x a) 0 p []

theorem bOo {α:Type} (c:Nat) (l:List α):(l.map fun _=>c).sum=c * l.length:=by
 induction l with
 | nil=>rfl
 | cons x l ih=>simp only [bZv,cAn,ih,cAb,Nat.mul_succ];omega

theorem aTo (x:den tPp) (a:List Int):(aM4 x a).length<=a.length+(3+3 * x.2.2.2.length):=by
 have h:=aCo (f:=fun _ h (a:List Int)=>aWs h a) (m:=bZo) (cost:=fun _=>3) (fun k x a=>by simp [aWs]) x.2.2.2 0 (a++[x.1,x.2.1,x.2.2.1])
 rw [bOo] at h
 unfold aM4
 simp at h
 omega

theorem aL8: ∀ p:den tPt,(p.map fun x:den tPp=>3+3 * x.2.2.2.length).sum<=3 * tot tPt p
 | []=>by simp
 | x::p=>by
  have h1:=lM (t:=tPp) x p
  have h2:x.2.2.2.length<=tot tPp x:=bY8 (eW (t:=cH) x.2.2.2) (by simp only [rX,uP];omega)
  have h3:=aL8 p
  simp only [bZv,cAn]
  show _<=3 * tot (.sl tPp) (x::p)
  rw [h1]
  have h3:(p.map fun x:den tPp=>3+3 * x.2.2.2.length).sum<=3 * tot (.sl tPp) p:=h3
  omega

theorem bFy (p:den tPt):(aJ0 p).length<=3 * tot tPt p:=by
 have h:=aCo (f:=fun _ x (a:List Int)=>aM4 x a) (m:=bZo) (cost:=fun x:den tPp=>3+3 * x.2.2.2.length) (fun k x a=>aTo x a) p 0 []
 have h2:=aL8 p
 unfold aJ0
 simp only [cBk,bZ3] at h
 omega

theorem aUq {p:den tPt} (h:tot tPt p<=1073741824):oF p=some (aE5 (aJ0 p)):=by
 have hl:=eW (t:=tPp) p
 have hl:p.length<=1073741824:=bY8 hl h
 have hs:=aL8 p
 have hd':=bFy p
 unfold oF
 rw [oI (fun k (a:List Int)=>((k:Int),a)) ((0:Int),[]) [] p (fun _ x a=>aM4 x a) bZo (fun x:den tPp=>3+3 * x.2.2.2.length) 68719476736 id rfl (by omega) (by simp only [cBk];omega) (fun k x a=>aTo x a) (fun k x a hi hx hd hw hk hb=>by
  simp only [hd,hi,hw,zZ,aA,aD (b:=8) (n:=a.length) (m:=3) (by decide) (by omega)]
  rw [oI (fun k (a:List Int)=>((k:Int),a)) ((0:Int),a++[x.1,x.2.1,x.2.2.1]) (a++[x.1,x.2.1,x.2.2.1]) x.2.2.2 (fun _ h a=>aWs h a) bZo (fun _=>3) 68719476736 id rfl (by omega) (by rw [bOo];simp;omega) (fun k h a=>by simp [aWs]) (fun k h a hi hx hd hw hk hb=>by
   simp only [hd,hi,hw,zZ,aA,aD (b:=8) (n:=a.length) (m:=3) (by decide) (by omega)]
   rfl) (fun a=>by simp)]
  rfl) (fun a=>by simp)]
 simp only [aA]
 rw [show cN (fun _ x a=>aM4 x a) 0 p []=aJ0 p from rfl]
 simp only [id,aX3 (l:=aJ0 p) (by omega),aA]

def aI2 (a:Int×Bool) (h:den cH):Int×Bool:=cond (!a.2||decide (h.2.2.2.1<a.1)) (h.2.2.2.1,true) a

def aHx (l:dA):Int:=(l.foldl aI2 (0,false)).1

def aL1 (p:den tPt):dA:=cN (fun _ x a=>a++x.2.2.2) 0 p []

theorem aXq: ∀ (p:den tPt) (k:Nat) (a:dA),cN (fun _ (x:den tPp) a=>a++x.2.2.2) k p a=a++p.flatMap (fun x:den tPp=>x.2.2.2)
 | [],_,a=>by simp [cN]
 | x::p,k,a=>by
  simp only [cN]
  rw [aXq p (k+1)]
  simp

theorem aRc: ∀ (p:den tPt) (k:Nat) (a:Int×Bool),cN (fun _ (x:den tPp) a=>cN (fun _ h a=>aI2 a h) 0 x.2.2.2 a) k p a=(p.flatMap fun x:den tPp=>x.2.2.2).foldl aI2 a
 | [],_,_=>rfl
 | x::p,k,a=>by
  simp only [cN,List.flatMap_cons,List.foldl_append]
  rw [aRc p (k+1),wL]

theorem aXc {p:den tPt} (h:tot tPt p<=1073741824):jZ p=some (aHx (aL1 p)):=by
 have hl:p.length<=1073741824:=bY8 (eW (t:=tPp) p) h
 have hs:=aJh p
 unfold jZ
 rw [oI (fun k (a:Int×Bool)=>(a.1,a.2,(k:Int))) ((0:Int),false,(0:Int)) ((0:Int),false) p (fun _ (x:den tPp) a=>cN (fun _ h a=>aI2 a h) 0 x.2.2.2 a) (fun _=>0) (fun _=>0) 1 (fun a=>a.1) rfl (by omega) (by rw [sum_nil];omega) (fun k x a=>by omega) (fun k x a hi hx hd hw hk hb=>by
  have hxl:x.2.2.2.length<=1073741824:=by
   have h1:=zB (t:=tPp) hx
   have h2:x.2.2.2.length<=tot tPp x:=bY8 (eW (t:=cH) x.2.2.2) (by simp only [rX,uP];omega)
   have h3:tot (.sl tPp) p<=1073741824:=h
   omega
  simp only [hd,hi,hw,zZ,aA]
  rw [oI (fun k (a:Int×Bool)=>(a.1,a.2,(k:Int))) (a.1,a.2,(0:Int)) a x.2.2.2 (fun _ h a=>aI2 a h) (fun _=>0) (fun _=>0) 1 id rfl (by omega) (by rw [sum_nil];omega) (fun k x a=>by omega) (fun k h a hi hx hd hw hk hb=>by
   simp only [hd,hi,hw,zZ,aA]
   unfold aI2
   cases ca:a.2
   ·rfl
   ·cases c:decide (h.2.2.2.1<a.1)<;>simp [c,ca]) (fun a=>by simp)]
  rfl) (fun a=>by simp)]
 rw [aRc]
 unfold aHx aL1
 rw [aXq]
 rfl

def aGw (a b:den tPt):Bool:=
 cond (((hU a).length:Int) != ((hU b).length:Int)) (decide (((hU a).length:Int)<((hU b).length:Int)))
  (cond (aHx (aL1 a) != aHx (aL1 b)) (decide (aHx (aL1 a)>aHx (aL1 b))) (decide (aE5 (aJ0 a)<aE5 (aJ0 b))))

theorem bMt {a b:den tPt} (ha:tot tPt a<=1073741824) (hb:tot tPt b<=1073741824):rH a b=some (aGw a b):=by
 unfold rH mM aGw
 simp only [aGd (p:=a) (bY8 ha (by decide)),aGd (p:=b) (bY8 hb (by decide)),aXc ha,aXc hb,aUq ha,aUq hb,aA]
 cases ((hU a).length:Int) != ((hU b).length:Int)
 ·cases aHx (aL1 a) != aHx (aL1 b)<;>rfl
 ·rfl

def aFc (x:den tPt) (out:lPt):Nat→Nat
 | 0=>0
 | k+1=>cond (aGw x ((out[k]?).getD [])) (aFc x out k) (k+1)

theorem aZ9 (x:den tPt) (out:lPt): ∀ k,aFc x out k<=k
 | 0=>bZq _
 | k+1=>by
  unfold aFc
  cases aGw x ((out[k]?).getD [])
  ·exact bZq _
  ·exact Nat.le_succ_of_le (aZ9 x out k)

theorem aUk {x:den tPt} {out:lPt} {step:Int→Option (Int⊕Int)} (hl:out.length<=68719476736)
  (h0:step 0=some (.inr 0)) (h1: ∀ k (y:den tPt),out[k]? =some y→step ((k+1:Nat):Int)=some (cond (aGw x y) (.inl (k:Int)) (.inr ((k+1:Nat):Int)))):
  ∀ k,k<=out.length→aB step (k:Int)=some ((aFc x out k:Nat):Int)
 | 0,_=>bY h0
 | k+1,hk=>by
  have hy:out[k]? =some out[k]:=bY7 (by omega)
  have hs:=h1 k _ hy
  unfold aFc
  rw [hy,bZ6]
  cases hb:aGw x out[k] with
  | true=>rw [hb] at hs;rw [dT hs];exact aUk hl h0 h1 k (by omega)
  | false=>rw [hb] at hs;exact bY hs

def aJ9 (x:den tPt) (out:lPt):lPt:=out.take (aFc x out out.length)++[x]++out.drop (aFc x out out.length)

theorem aWn (x:den tPt) (out:lPt):tot (.sl tPt) (aJ9 x out)=tot (.sl tPt) out+(1+tot tPt x):=by
 have h:=tO (t:=tPt) (out.take (aFc x out out.length)) (out.drop (aFc x out out.length))
 rw [List.take_append_drop] at h
 unfold aJ9
 rw [tO,tO,aGc]
 omega

def aHv (l:lPt):lPt:=cN (fun _ x a=>aJ9 x a) 0 l []

theorem bH1 (l:lPt):tot (.sl tPt) (aHv l)<=tot (.sl tPt) l:=by
 have h:=aCo (f:=fun _ x (a:lPt)=>aJ9 x a) (m:=tot (.sl tPt)) (cost:=fun x=>1+tot tPt x) (fun k x a=>Nat.le_of_eq (aWn x a)) l 0 []
 rw [aRq,aD7] at h
 unfold aHv
 omega

theorem bRs {l:lPt} (h:tot (.sl tPt) l<=1073741824):sS l=some (aHv l):=by
 have hl:=eW (t:=tPt) l
 unfold sS aHv ixb
 rw [oI (fun k (a:lPt)=>((k:Int),a)) ((0:Int),[]) [] l (fun _ x a=>aJ9 x a) (tot (.sl tPt)) (fun x=>1+tot tPt x) 1073741824 id rfl (by omega) (by rw [aRq,aD7];omega) (fun k x a=>Nat.le_of_eq (aWn x a)) (fun k x a hi hx hd hw hk hb=>by
  have ha:=eW (t:=tPt) a
  have hsm:SmB 68719476736 tPt x:=(bF (B:=1073741824) (t:=tPt) (by omega)).mono (by decide)
  simp only [hd,hi,hw,zZ,aA,aV,bJ,aZ,aY,bA]
  rw [aUk (x:=x) (out:=a) (by omega) (by rfl) (fun j y hy=>by
   have hlt:=(bZf.1 hy).1
   have hty:=zB (t:=tPt) hy
   have e1:decide (((j+1:Nat):Int)>0)=true:=by simp<;>omega
   have e2:wr (((j+1:Nat):Int) - 1)=(j:Int):=by
    have :wr (((j+1:Nat):Int) - 1)=((j+1:Nat):Int) - 1:=wri (by omega) (by omega)
    rw [this];omega
   have e3:decide ((j:Int)<(a.length:Int))=true:=by simp;omega
   simp only [e1,e2,e3,fI,zZ,bZi,hy,aA,bMt (a:=x) (b:=y) (by omega) (by omega)]
   cases aGw x y<;>rfl) a.length (bZq _)]
  have hp:=aZ9 x a a.length
  have s1:bR (0:Int) ((aFc x a a.length:Nat):Int) (a.length:Int)=true:=by
   have :=aD3 (a:=0) (b:=aFc x a a.length) (n:=a.length)
   rw [show ((0:Nat):Int)=0 from rfl] at this
   rw [this];simp;omega
  have s2:bR ((aFc x a a.length:Nat):Int) (a.length:Int) (a.length:Int)=true:=by rw [aD3];simp;omega
  simp only [aA,s1,s2,zZ,fF,aYr hp,aF8 hsm]
  rw [aD (b:=24) (by decide) (by simp<;>omega),aD (b:=24) (by decide) (by simp<;>omega),aD (b:=24) (by decide) (by simp<;>omega)]
  simp only [zZ,bZ4,aA]
  rfl) (fun a=>by simp)]
 rfl

def aDt (l:lRv) (now:Int):lRv:=l.filter fun x=>decide (now<=x.2.2)

theorem bHy {l:lRv} {now:Int} (h:l.length<=1073741824):gJ l now=some (aDt l now):=by
 unfold gJ aDt pj3
 rw [oI (fun k (a:lRv)=>((k:Int),a)) ((0:Int),[]) [] l (fun _ x a=>if decide (now<=x.2.2)=true then a++[x] else a) bZo (fun _=>1) 68719476736 id rfl (by omega) (by rw [eZ];simp;omega) (fun k x a=>by split<;>simp) (fun k x a hi hx hd hw hk hb=>by
  simp only [hd,hi,hw,zZ,aA,aM,aD (b:=24) (n:=a.length) (m:=1) (by decide) (by omega)]
  cases decide (now<=x.2.2)<;>simp) (fun a=>by simp),aDi (fun x:den tRv=>decide (now<=x.2.2))]
 simp

def aEn (l:lRv) (p:den tPt) (now:Int):Bool:= !((aDt l now).all fun x=> !rN p x)

theorem bEe (l:lRv) (now:Int):(aDt l now).length<=l.length:=cBu _ _

theorem bFr {l:lRv} {p:den tPt} {now:Int} (h:l.length<=1073741824) (hp:tot tPt p<=1073741824):vK l p now=some (aEn l p now):=by
 have ha:=bEe l now
 unfold vK aEn ixb pj3
 rw [bHy h,aA]
 rw [aT (l:=aDt l now) (fun _ x=>if !rN p x then none else some true) (by omega) (fun k x hi hd hw hm hk=>by
  have hy:(aDt l now)[k]? =some x:=by rw [← aG];exact hi
  simp only [hd,hy,hw,zZ,aA,fI,bZi,aM,aT7 hp]
  cases rN p x<;>rfl) (by simp),mT (fun x:den tRv=> !rN p x)]
 cases (aDt l now).all (fun x=> !rN p x)<;>rfl

def aI7 (l:lRv) (p:lPt) (now:Int):lPt:=(p.filter fun x=> !aEn l x now)++p.filter fun x=>aEn l x now

theorem bIg {l:lRv} {p:lPt} {now:Int} (h:l.length<=1073741824) (hp:tot (.sl tPt) p<=1073741824):jG l p now=some (aI7 l p now):=by
 have hl:=eW (t:=tPt) p
 unfold jG aI7
 rw [oI (fun k (a:lPt)=>((k:Int),a)) ((0:Int),[]) [] p (fun _ x a=>if (!aEn l x now)=true then a++[x] else a) bZo (fun _=>1) 68719476736 id rfl (by omega) (by rw [eZ];simp;omega) (fun k x a=>by split<;>simp) (fun k x a hi hx hd hw hk hb=>by
  have ht:=zB (t:=tPt) hx
  have hsm:SmB 68719476736 tPt x:=(bF (B:=1073741824) (t:=tPt) (by omega)).mono (by decide)
  simp only [hd,hi,hw,zZ,aA,bFr (l:=l) (p:=x) (now:=now) h (by omega),aF8 hsm,aD (b:=24) (n:=a.length) (m:=1) (by decide) (by omega)]
  cases aEn l x now<;>simp) (fun a=>by simp),aDi (fun x:den tPt=> !aEn l x now)]
 have e:(p.filter fun x=> !aEn l x now).length<=p.length:=cBu _ _
 simp only [id,aA,bZ4]
 rw [oI (fun k (a:lPt)=>((k:Int),a)) ((0:Int),p.filter fun x=> !aEn l x now) (p.filter fun x=> !aEn l x now) p (fun _ x a=>if aEn l x now=true then a++[x] else a) bZo (fun _=>1) 68719476736 id rfl (by omega) (by rw [eZ];omega) (fun k x a=>by split<;>simp) (fun k x a hi hx hd hw hk hb=>by
  have ht:=zB (t:=tPt) hx
  have hsm:SmB 68719476736 tPt x:=(bF (B:=1073741824) (t:=tPt) (by omega)).mono (by decide)
  simp only [hd,hi,hw,zZ,aA,bFr (l:=l) (p:=x) (now:=now) h (by omega),aF8 hsm,aD (b:=24) (n:=a.length) (m:=1) (by decide) (by omega)]
  cases aEn l x now<;>simp) (fun a=>by simp),aDi (fun x:den tPt=>aEn l x now)]
 rfl

def aNo (f:den tFl) (p:lPt) (now:Int):lPt:=(aI7 f.2.2.2.2.2.2.2.2 (aHv p) now).take (min (aI7 f.2.2.2.2.2.2.2.2 (aHv p) now).length 24)

theorem bQ3 (n:Nat):(if (24:Int)<(n:Int) then (24:Int) else (n:Int))=((min n 24:Nat):Int):=by
 by_cases c:24<n
 ·rw [zT (by omega),Nat.min_eq_right (by omega)];rfl
 ·rw [zS (by omega),Nat.min_eq_left (by omega)]

theorem bK6 (n:Nat):bR (0:Int) ((min n 24:Nat):Int) (n:Int)=true:=by
 have :=aD3 (a:=0) (b:=min n 24) (n:=n)
 rw [show ((0:Nat):Int)=0 from rfl] at this
 rw [this];simp;omega

theorem bVv {f:den tFl} {p:lPt} {now:Int} (h:tot tFl f<=1073741824) (hp:tot (.sl tPt) p<=1073741824):qH f p now=some (f.1,f.2.1,f.2.2.1,f.2.2.2.1,aNo f p now,0,0,f.2.2.2.2.1,f.2.2.2.2.2.2.2.2):=by
 have hf:SmB 68719476736 tFl f:=(bF h).mono (by decide)
 have hv:f.2.2.2.2.2.2.2.2.length<=1073741824:=bY8 (eW (t:=tRv) _) (bK (bK (bK (bK (bK (bK (bK (bK h))))))))
 have hs:=bH1 p
 unfold qH aNo pj9 zz6 zz8
 simp only [aM,aD8 hf,bRs hp,bIg (l:=f.2.2.2.2.2.2.2.2) (p:=aHv p) (now:=now) hv (by omega),aVq,aA,bQ3,bK6,zZ,fF]
 rfl

theorem bQ5 {l:lRs} (h:l.length<=1073741824):eO l=some l:=by
 unfold eO
 rw [aD (by decide) (by simp;omega)]
 simp

theorem bR7 {g:den tSc} (h1:g.2.1.length<=1073741824) (h2:g.2.2.length<=1073741824):eX g=some g:=by
 unfold eX
 rw [bQ5 h1,aA,aD (by decide) (by simp;omega)]
 simp

theorem bA5 {g:den tSc} (h1:g.2.1.length<=1073741824) (h2:g.2.2.length<=1073741824):iM g=some g:=by
 unfold iM pj3
 rw [aD (b:=40) (by decide) (by simp;omega),aD (b:=32) (by decide) (by simp;omega)]
 simp [aV,bJ,aZ,aY,bA]

def uG (l:lUs) (id s d:Int):Int:=if place l id s d<0 then 0 else ((l[(place l id s d).toNat]?).map (·.2.2.2)).getD 0

theorem bTv {g:den tSc} {id s d:Int} (h:g.2.2.length<=1073741824):sQ g id s d=some (uG g.2.2 id s d):=by
 unfold sQ uG pj3
 rw [show ((g.1,g.2.1,g.2.2):den tSc)=g from rfl,aTg h,aA]
 rcases aK0 g.2.2 id s d with hp | ⟨j,x,hp,hx,hj⟩
 ·rw [hp];rfl
 ·rw [hp,zX (by omega),zZ,aG,hx,zS (by omega)];simp [hx]

theorem bTs {g:den tSc} {id s d:Int} (h:g.2.2.length<=1073741824):qG g id s d=some (uG g.2.2 id s d):=by
 unfold qG uG
 rw [aRs h,aA]
 rcases aK0 g.2.2 id s d with hp | ⟨j,x,hp,hx,hj⟩
 ·rw [hp];rfl
 ·rw [hp,zW (by omega),zY,aG,hx,zS (by omega)];simp [hx]

def wS (l:lUs) (id s d:Int):lUs:=
 if place l id s d<0 then l++[(id,s,d,1)] else match l[(place l id s d).toNat]? with
  | some x=>l.set (place l id s d).toNat (x.1,x.2.1,x.2.2.1,wr (x.2.2.2+1))
  | none=>l

theorem aTi (l:lUs) (id s d:Int):(wS l id s d).length<=l.length+1:=by
 unfold wS
 split
 ·simp
 ·split<;>simp

theorem bVt {g:den tSc} {id s d:Int} (h1:g.2.1.length<=1073741824) (h2:g.2.2.length<=1073741824):vA g id s d=some (g.1,g.2.1,wS g.2.2 id s d):=by
 unfold vA wS ixb pj3
 rw [show ((g.1,g.2.1,g.2.2):den tSc)=g from rfl,bA5 h1 h2,aA,aRs h2,aA]
 rcases aK0 g.2.2 id s d with hp | ⟨j,x,hp,hx,hj⟩
 ·rw [hp,aD (b:=32) (by decide) (by omega)];rfl
 ·have hd:decide ((j:Int)<(g.2.2.length:Int))=true:=by simpa using hj
  have hd2:decide (j<g.2.2.length)=true:=by simpa using hj
  have hd0:decide ((0:Int)<=(j:Int))=true:=by simp
  rw [hp,zW (show ¬ (j:Int)<0 by omega),zY,zS (by omega)]
  simp only [hd,hd0,hd2,zZ,bZi,hx,aA]

def sB (g:den tSc) (id s d now:Int):q37:=
 if uG g.2.2 id s d<oN g id s d now then (g.1,true,g.2.1,wS g.2.2 id s d)
 else if uG g.2.2 0 s d<oN g 0 s d now then (g.1,true,g.2.1,wS g.2.2 0 s d)
 else (g.1,false,g.2.1,g.2.2)

theorem bQ4 {g:den tSc} {id s d now:Int} (h1:g.2.1.length<=1073741824) (h2:g.2.2.length<=1073741824):vB g id s d now=some (sB g id s d now):=by
 unfold vB ixb pj2 pj3
 rw [show ((g.1,g.2.1,g.2.2):den tSc)=g from rfl,bR7 h1 h2,aA]
 rw [aT (l:=[id,0]) (fun _ n=>if uG g.2.2 n s d<oN g n s d now then some (g.1,true,g.2.1,wS g.2.2 n s d) else none) (by simp) (fun k n hi hd hw hx hk=>by
  rw [aG] at hi
  have hd0:decide ((0:Int)<=(k:Int))=true:=by simp
  simp only [hd,hd0,hi,hw,zZ,aA,bZi,bTv h2,bAl h1,aTg h2]
  by_cases hu:uG g.2.2 n s d<oN g n s d now
  ·rw [zW (by omega),zY,zT hu]
   unfold wS
   rcases aK0 g.2.2 n s d with hp | ⟨j,x,hp,hx,hj⟩
   ·rw [hp,aD (b:=32) (by decide) (by omega)];rfl
   ·have hd1:decide ((j:Int)<(g.2.2.length:Int))=true:=by simpa using hj
    have hd2:decide ((j:Int)>=0)=true:=by simp
    have hd3:decide ((0:Int)<=(j:Int))=true:=by simp
    rw [hp,zS (by omega)]
    simp only [hd1,hd2,hd3,zZ,bZi,hx,aA]
  ·rw [zX (by omega),zZ,zS hu]) (by simp)]
 unfold sB
 simp only [cD]
 by_cases hu:uG g.2.2 id s d<oN g id s d now
 ·simp [hu]
 ·by_cases hv:uG g.2.2 0 s d<oN g 0 s d now<;>simp [hu,hv]

theorem aZ8 {g:den tSc} {id s d now:Int} (h1:g.2.1.length<=1073741824) (h2:g.2.2.length<=1073741824):sK g id s d now=some (sB g id s d now):=by
 unfold sK sB pj2 pj3
 rw [show ((g.1,g.2.1,g.2.2):den tSc)=g from rfl]
 simp only [bTs h2,aT9 h1,bF3 h1,bVt h1 h2,bA5 h1 h2,aA]
 have h0:oN g 0 s d now=free g.2.1 g.1 s d now:=rfl
 rw [h0]
 by_cases hid:id=0
 ·subst hid
  rw [h0]
  by_cases hv:uG g.2.2 0 s d<free g.2.1 g.1 s d now<;>simp [hv]
 ·have hr:oN g id s d now=aBk g.2.1 id s d now:=by unfold oN;simp [hid]
  have hne:(id != 0)=true:=by simpa using hid
  rw [hr,hne,zZ,aA]
  by_cases hu:uG g.2.2 id s d<aBk g.2.1 id s d now
  ·simp [hu]
  ·by_cases hv:uG g.2.2 0 s d<free g.2.1 g.1 s d now<;>simp [hu,hv]

def pN (t:den tTo) (r d:Int):Int:=
 match cD (fun k x=>if cY x r d then some (k:Int) else none) 0 t.2 with
 | some i=>i
 | none=> -1

theorem aFa (t:den tTo) (r d:Int):pN t r d= -1∨ ∃ (j:Nat) (x:den tLk),pN t r d=(j:Int)∧t.2[j]? =some x∧cY x r d=true:=by
 unfold pN
 cases h:cD (fun k x=>if cY x r d then some (k:Int) else none) 0 t.2 with
 | none=>exact .inl rfl
 | some i=>
  obtain ⟨j,x,h1,h2,h3⟩:=aOz h
  exact .inr ⟨j,x,by simpa using h2,h1,h3⟩

theorem aOb {t:den tTo} {r d:Int} (h:t.2.length<=68719476736):kU t r d=some (pN t r d):=by
 unfold kU pj5
 rw [aT (l:=t.2) (fun k x=>if cY x r d then some (k:Int) else none) (by omega) (fun k x hi hd hw hx hk=>by
  simp only [hd,hi,hw,zZ,aA,aZ5]
  cases cY x r d<;>rfl) (by simp)]
 unfold pN
 cases cD (fun k x=>if cY x r d then some (k:Int) else none) 0 t.2<;>rfl

theorem aO5 {t:den tTo} {r d:Int} (h:t.2.length<=68719476736):kS t r d=some (pN t r d):=by
 unfold kS pj5
 rw [aT (l:=t.2) (fun k x=>if cY x r d then some (k:Int) else none) (by omega) (fun k x hi hd hw hx hk=>by
  simp only [hd,hi,hw,zZ,aA,bA2]
  cases cY x r d<;>rfl) (by simp)]
 unfold pN
 cases cD (fun k x=>if cY x r d then some (k:Int) else none) 0 t.2<;>rfl


def bD1 (x:den tLk) (r d:Int):q25:=cond (x.1==r&&x.2.1==d) (x.2.2.1,x.2.2.2.1) (x.1,x.2.1)

def remote (t:den tTo) (r d:Int):q25:=if pN t r d<0 then (-1,0) else bD1 ((t.2[(pN t r d).toNat]?).getD (0,0,0,0,0)) r d

theorem aYg {t:den tTo} {r d:Int} (h:t.2.length<=68719476736):nS t r d=some (remote t r d):=by
 unfold nS remote pj2
 simp only [aM,aOb h,aA]
 rcases aFa t r d with e | ⟨j,x,e,hx,he⟩
 ·rw [e];rfl
 ·rw [e,zW (by omega),zY,zS (by omega),aG,hx,bZi,hx,aA,bZ6]
  unfold bD1
  cases x.1==r<;>cases x.2.1==d<;>rfl

theorem aGq {t:den tTo} {r d:Int} (h:t.2.length<=68719476736):fW t r d=some (remote t r d):=by
 unfold fW remote pj2
 simp only [aM,aO5 h,aA]
 rcases aFa t r d with e | ⟨j,x,e,hx,he⟩
 ·rw [e];rfl
 ·rw [e,zW (by omega),zY,zS (by omega),aG,hx,bZi,hx,aA,bZ6]
  unfold bD1
  cases x.1==r<;>cases x.2.1==d<;>rfl

def bDd (x:den tLk) (r d:Int):Int:=cond (x.2.2.2.2==1) 1 (cond (x.2.2.2.2==3) 4 (cond (x.2.2.2.2==2) (cond (x.1==r&&x.2.1==d) 2 3) 0))

def aB6 (t:den tTo) (r d:Int):Int:=cond (d==0) 5 (if pN t r d<0 then 0 else bDd ((t.2[(pN t r d).toNat]?).getD (0,0,0,0,0)) r d)

theorem bSk {t:den tTo} {r d:Int} (h:t.2.length<=68719476736):jO t r d=some (aB6 t r d):=by
 unfold jO aB6 pj2 zz4
 simp only [aM,aOb h,aA]
 cases d==0
 ·rcases aFa t r d with e | ⟨j,x,e,hx,he⟩
  ·rw [e];rfl
  ·rw [e,zW (by omega),zY,zY,zY,zS (by omega),aG,hx,bZi,hx,aA,bZ6]
   unfold bDd
   rw [show (x.2.2.2.2 != 2)= !(x.2.2.2.2==2) from rfl]
   cases x.2.2.2.2==1<;>cases x.2.2.2.2==3<;>cases x.2.2.2.2==2<;>cases x.1==r<;>cases x.2.1==d<;>rfl
 ·rfl

theorem aSb {t:den tTo} {r d:Int} (h:t.2.length<=68719476736):dV t r d=some (aB6 t r d):=by
 unfold dV aB6 pj2 zz4
 simp only [aM,aO5 h,aA]
 cases d==0
 ·rcases aFa t r d with e | ⟨j,x,e,hx,he⟩
  ·rw [e];rfl
  ·rw [e,zW (by omega),zY,zY,zY,zS (by omega),aG,hx,bZi,hx,aA,bZ6]
   unfold bDd
   cases x.2.2.2.2==1<;>cases x.2.2.2.2==3<;>cases x.2.2.2.2==2<;>cases x.1==r<;>cases x.2.1==d<;>rfl
 ·rfl

def aEm (a b:Int):Bool:=cond (a==5||a==2) (b==2||b==5||(b==1||b==3)) (cond (a==3) (b==2||b==5) (cond (a==1) (b==2||b==5||b==1) false))

theorem bH8 (a b:Int):kB a b=some (aEm a b):=by
 unfold kB aEm
 cases c5:a==5<;>cases c2:a==2<;>cases a==3<;>cases a==1<;>cases b==2<;>cases b==5<;>cases b==1<;>cases b==3<;>first | rfl | (simp at c5 c2;omega)

theorem bJf (a b:Int):kJ a b=some (aEm a b):=by
 unfold kJ aEm
 cases c5:a==5<;>cases c2:a==2<;>cases a==3<;>cases a==1<;>cases b==2<;>cases b==5<;>cases b==1<;>cases b==3<;>first | rfl | (simp at c5 c2;omega)

def aJr (t:den tTo) (s:den aAf):Bool:=aEm (aB6 t s.1 s.2.1) (aB6 t s.1 s.2.2)&&(!(s.2.1==s.2.2)||s.2.1==0)

theorem bQy {t:den tTo} {s:den aAf} (h:t.2.length<=68719476736):oX t s=some (aJr t s):=by
 unfold oX aJr pj2
 simp only [aM,bSk h,bH8,aA]
 rw [show (s.2.1 != s.2.2)= !(s.2.1==s.2.2) from rfl]
 cases aEm (aB6 t s.1 s.2.1) (aB6 t s.1 s.2.2)<;>cases s.2.1==s.2.2<;>cases s.2.1==0<;>rfl

theorem bSo {t:den tTo} {s:den aAf} (h:t.2.length<=68719476736):pB t s=some (aJr t s):=by
 unfold pB aJr pj2
 simp only [aM,aSb h,bJf,aA]
 rw [show (s.2.1 != 0)= !(s.2.1==0) from rfl]
 cases aEm (aB6 t s.1 s.2.1) (aB6 t s.1 s.2.2)<;>cases s.2.1==s.2.2<;>cases s.2.1==0<;>rfl

def aJv (s i:Int):Bool:=inR s 0 65535&&(inR i 0 15&&(yT .i64 (shr .i64 s i) 1==1))

theorem aUi {i:Int} (h:inR i 0 15=true):IntKind.wrap .u64 i=i:=by
 obtain ⟨h0,h1⟩:=bT.1 h
 have :=aXr (n:=i.toNat) (by omega)
 rwa [cBc h0] at this

theorem bRj (s i:Int):uQ s i=some (aJv s i):=by
 unfold uQ aJv qB
 simp only [kZ,aA]
 cases inR s 0 65535
 ·rfl
 ·cases c:inR i 0 15
  ·rfl
  ·rw [aUi c,zW (by have :=bT.1 c;omega)]
   rfl

theorem bR3 (s i:Int):vT s i=some (aJv s i):=by
 unfold vT aJv pV zH
 simp only [fG,aA]
 cases inR s 0 65535
 ·rfl
 ·cases c:inR i 0 15
  ·rfl
  ·simp only [zZ,aA,zW (show ¬ i<0 by have :=bT.1 c;omega),zY,bZn]

def aOt (s i:Int):Int:=cond (inR s 0 65535&&inR i 0 15) (bOr .i64 s (shl .i64 1 i)) s

theorem bVb (s i:Int):rC s i=some (aOt s i):=by
 unfold rC aOt qB
 simp only [kZ,aA]
 cases inR s 0 65535
 ·rfl
 ·cases c:inR i 0 15
  ·rfl
  ·rw [aUi c,zW (by have :=bT.1 c;omega)]
   rfl

theorem bUq (s i:Int):rB s i=some (aOt s i):=by
 unfold rB aOt pV zH
 simp only [fG,aA]
 cases inR s 0 65535
 ·rfl
 ·cases c:inR i 0 15
  ·rfl
  ·rw [zW (by have :=bT.1 c;omega)]
   rfl

theorem aW4 {α:Type} (p:α→Bool) (N:Int): ∀ (l:List α) (k:Nat),N=((k+l.length:Nat):Int)→aKv (fun k x (_:Unit)=>if p x then .inl () else .inr (k:Int)) (fun _=>N) k l ()=((k+l.findIdx (fun x=> !p x):Nat):Int)
 | [],k,h=>by simpa [aKv] using h
 | x::xs,k,h=>by
  simp only [aKv,List.findIdx_cons]
  cases hp:p x with
  | true=>
   have :=aW4 p N xs (k+1) (by rw [h];simp;omega)
   simp only [zV,this,bY9,zY]
   omega
  | false=>simp

def kO (l:List Int) (n:Int):Nat:=l.findIdx fun x=> !decide (x<n)

theorem aR4 (l:List Int) (n:Int):kO l n<=l.length:=List.findIdx_le_length

theorem aTl {l:List Int} {n:Int} {step:Int→Option (Int⊕Int)} (hl:l.length<=68719476736)
  (h: ∀ (k:Nat) (x:Int),idx l (k:Int)=some x→l[k]? =some x→decide ((k:Int)<(l.length:Int))=true→IntKind.i64.wrap ((k:Int)+1)=((k+1:Nat):Int)→step (k:Int)=some (if decide (x<n) then .inl ((k+1:Nat):Int) else .inr (k:Int)))
  (he:step (l.length:Int)=some (.inr (l.length:Int))):aB step (0:Int)=some (kO l n:Int):=by
 rw [aNa (fun k (_:Unit)=>(k:Int)) (0:Int) () l (fun k x _=>if decide (x<n) then .inl () else .inr (k:Int)) (fun _ _=>True) (fun _=>(l.length:Int)) rfl (by omega) trivial (fun k x a hi hx hd hw hk _=>by
  refine ⟨?_,fun _ _=>trivial⟩
  rw [h k x hi hx hd hw]
  cases decide (x<n)<;>rfl) (fun _ _=>he)]
 rw [aW4 (fun x=>decide (x<n)) (l.length:Int) l 0 (by simp)]
 simp [kO]


def pK (l:List Int) (n:Int):List Int:=if l[kO l n]? =some n then l else l.take (kO l n)++[n]++l.drop (kO l n)

theorem aHe (l:List Int) (n:Int):(pK l n).length<=l.length+1:=by
 unfold pK
 split
 ·omega
 ·simp;omega

theorem aF5 {k n:Nat} (h:k<=n):bR (0:Int) (k:Int) (n:Int)=true:=by
 simp only [bR,bZb,zR];omega

theorem xR {k n:Nat} (h:k<=n):bR (k:Int) (n:Int) (n:Int)=true:=by
 simp only [bR,bZb,zR];omega

theorem aCa {α:Type} {l:List α} {k:Nat}:cut l (k:Int) (l.length:Int)=l.drop k:=by
 unfold cut
 rw [bZi]
 apply List.take_of_length_le
 simp

theorem bBa {l:List Int} (h:l.length<=68719476736):qD l=some l:=by
 unfold qD
 rw [aD (n:=([]:List Int).length) (by decide) (by simpa using h)];rfl

theorem aQr {l:List Int} {n:Int} {b:Bool} (hb:(l[kO l n]? =some n)=(b=true)):pK l n=cond b l (l.take (kO l n)++[n]++l.drop (kO l n)):=by
 unfold pK
 cases b with
 | true=>rw [zT (by rw [hb])];rfl
 | false=>rw [zS (by rw [hb];simp)];rfl

theorem aK6 {l:List Int} {n:Int} (h:l.length<=4294967296):mI l n=some (pK l n):=by
 have hp:=aR4 l n
 unfold mI
 rw [aTl (l:=l) (n:=n) (by omega) (fun k x hi hx hd hw=>by
  simp only [hd,zZ,hi,aA,hw]
  cases decide (x<n)<;>rfl) (by simp)]
 simp only [aA,aF5 hp,xR hp,fF,aCa,zZ,aV,bJ,aZ,aY,bA,bBa (l:=l.take (kO l n)) (by simp;omega)]
 rw [aD (b:=8) (n:=(l.take (kO l n)).length) (m:=1) (by decide) (by simp;omega),aD (b:=8) (m:=(l.drop (kO l n)).length) (by decide) (by simp;omega)]
 by_cases hlt:kO l n<l.length
 ·have hx:l[kO l n]? =some l[kO l n]:=bY7 hlt
  rw [zX (by omega),zZ,aG,hx,aA,aA]
  rw [aQr (b:=l[kO l n]==n) (by rw [hx];simp)]
  cases l[kO l n]==n<;>rfl
 ·rw [zW (by omega),zY,aA]
  rw [aQr (b:=false) (by rw [List.getElem?_eq_none (by omega)];simp)]
  rfl

theorem aQz {l:List Int} {n:Int} (h:l.length<=4294967296):vU l n=some (pK l n):=by
 have hp:=aR4 l n
 unfold vU ixb
 rw [aTl (l:=l) (n:=n) (by omega) (fun k x hi hx hd hw=>by
  simp only [hd,zZ,fI,bZi,hx,aA,hw]
  cases decide (x<n)<;>rfl) (by simp)]
 simp only [aA,aF5 hp,xR hp,fF,aCa,zZ,aV,bJ,aZ,aY,bA,bZ4,cBk]
 rw [aD (b:=8) (n:=0) (m:=(l.take (kO l n)).length) (by decide) (by simp;omega),aD (b:=8) (n:=(l.take (kO l n)).length) (m:=1) (by decide) (by simp;omega),aD (b:=8) (m:=(l.drop (kO l n)).length) (by decide) (by simp;omega)]
 by_cases hlt:kO l n<l.length
 ·have hx:l[kO l n]? =some l[kO l n]:=bY7 hlt
  rw [zX (by omega),zZ,fI,zZ,zZ,bZi,hx,aA,aA]
  rw [aQr (b:=l[kO l n]==n) (by rw [hx];simp)]
  cases l[kO l n]==n<;>rfl
 ·rw [zW (by omega),zY,aA]
  rw [aQr (b:=false) (by rw [List.getElem?_eq_none (by omega)];simp)]
  rfl


def oP (r:Int) (x:den tLk) (a:List Int):List Int:=cond (x.2.2.1==r) (pK (cond (x.1==r) (pK a x.2.1) a) x.2.2.2.1) (cond (x.1==r) (pK a x.2.1) a)

theorem aL9 (r:Int) (x:den tLk) (a:List Int):(oP r x a).length<=a.length+2:=by
 unfold oP
 have h1:=aHe a x.2.1
 have h2:=aHe (pK a x.2.1) x.2.2.2.1
 have h3:=aHe a x.2.2.2.1
 cases x.1==r<;>cases x.2.2.1==r<;>simp only [zZ,zY]<;>omega

def gA (t:den tTo) (r:Int):List Int:=cN (fun _ x a=>oP r x a) 0 t.2 []

theorem aFb (t:den tTo) (r:Int):(gA t r).length<=2 * t.2.length:=by
 have h:=aCo (f:=fun _ x (a:List Int)=>oP r x a) (m:=bZo) (cost:=fun _=>2) (fun k x a=>aL9 r x a) t.2 0 []
 rw [aGn] at h
 simpa [gA] using h

theorem bS4 {t:den tTo} {r:Int} (h:t.2.length<=1073741824):qV t r=some (gA t r):=by
 unfold qV
 rw [(uJ (fun k (a:List Int)=>(a,(k:Int))) ([],(0:Int)) [] t.2 (fun _ x a=>oP r x a) bZo (fun _=>2) 4294967296 id rfl (by omega) (by rw [aGn];simp;omega) (fun k x a hi hx hd hw hk hb=>by
  refine ⟨?_,aL9 r x a⟩
  have h1:=aHe a x.2.1
  simp only [hd,hi,hw,zZ,aA,aK6 (l:=a) (by omega),aK6 (l:=pK a x.2.1) (by omega)]
  unfold oP
  cases x.1==r<;>cases x.2.2.1==r<;>simp only [zZ,zY,aA,aK6 (l:=a) (by omega),aK6 (l:=pK a x.2.1) (by omega)]) (fun a=>by simp)).1]
 rfl

theorem aM0 {t:den tTo} {r:Int} (h:t.2.length<=1073741824):gY t r=some (gA t r):=by
 unfold gY
 rw [(uJ (fun k (a:List Int)=>((k:Int),a)) ((0:Int),[]) [] t.2 (fun _ x a=>oP r x a) bZo (fun _=>2) 4294967296 id rfl (by omega) (by rw [aGn];simp;omega) (fun k x a hi hx hd hw hk hb=>by
  refine ⟨?_,aL9 r x a⟩
  have h1:=aHe a x.2.1
  simp only [hd,hi,hw,zZ,aA,aQz (l:=a) (by omega),aQz (l:=pK a x.2.1) (by omega)]
  unfold oP
  cases x.1==r<;>cases x.2.2.1==r<;>simp only [zZ,zY,aA,aQz (l:=a) (by omega),aQz (l:=pK a x.2.1) (by omega)]) (fun a=>by simp)).1]
 rfl

theorem aJ3 {α:Type} (l:List α):(l.map fun _=>0).sum=0:=by
 induction l with
 | nil=>rfl
 | cons x l ih=>rw [bZv,cAn,ih]


def uK (t:den tTo) (dead:List Int) (r:Int):Int:=cN (fun _ x a=>cond (oL dead (pN t r x)) (aOt a x) a) 0 (gA t r) 0

theorem bAn {t:den tTo} {dead:List Int} {r:Int} (h:t.2.length<=1073741824) (hd:dead.length<=68719476736):eL t dead r=some (uK t dead r):=by
 have hl:=aFb t r
 unfold eL pj2
 simp only [aM,bS4 h,aA]
 rw [oI (fun k (a:Int)=>(a,(k:Int))) ((0:Int),(0:Int)) 0 (gA t r) (fun _ x a=>cond (oL dead (pN t r x)) (aOt a x) a) (fun _=>0) (fun _=>0) 0 id rfl (by omega) (by rw [aJ3];exact bZq _) (fun _ _ _=>bZq _) (fun k x a hi hx hd' hw hk hb=>by
  simp only [hd',hi,hw,zZ,aA,aOb (t:=t) (r:=r) (d:=x) (by omega),aMu hd,bVb]
  cases oL dead (pN t r x)<;>rfl) (fun a=>by simp)]
 rfl

theorem bAm {t:den tTo} {dead:List Int} {r:Int} (h:t.2.length<=1073741824) (hd:dead.length<=68719476736):eM t dead r=some (uK t dead r):=by
 have hl:=aFb t r
 unfold eM ixb pj2
 simp only [aM,aM0 h,aA]
 rw [oI (fun k (a:Int)=>(a,(k:Int))) ((0:Int),(0:Int)) 0 (gA t r) (fun _ x a=>cond (oL dead (pN t r x)) (aOt a x) a) (fun _=>0) (fun _=>0) 0 id rfl (by omega) (by rw [aJ3];exact bZq _) (fun _ _ _=>bZq _) (fun k x a hi hx hd' hw hk hb=>by
  simp only [hd',fI,bZi,hx,hw,zZ,aA,aO5 (t:=t) (r:=r) (d:=x) (by omega),aGr hd,bUq]
  cases oL dead (pN t r x)<;>rfl) (fun a=>by simp)]
 rfl

def aIf (key ts beta:Int) (h:den cH):Int:=aE5 (([key]++[ts,beta,h.1,h.2.1,h.2.2.1,h.2.2.2.1])++[key])

theorem bVk (key ts beta:Int) (h:den cH):aAq key ts beta h=some (aIf key ts beta h):=by
 unfold aAq uD aIf
 rw [aD (b:=8) (n:=[key].length) (by decide) (by simp),aD (b:=8) (by decide) (by simp),bLx (by simp)]
 rfl

theorem bF6 (key ts beta:Int) (h:den cH):wB key ts beta h=some (aIf key ts beta h):=by
 unfold wB uA aIf
 rw [aD (b:=8) (n:=[key].length) (by decide) (by simp),aD (b:=8) (by decide) (by simp),aX3 (by simp)]
 rfl

def h0:den cH:=(0,0,0,0,0)

def bBu (t:den tTo) (r:Int):Int:=((t.1[r.toNat]?).getD (0,false,0)).2.2

def aDs (t:den tTo) (ts beta:Int) (h:den cH):Bool:=jS h&&(cM t h.1&&(h.2.2.2.2==aIf (bBu t h.1) ts beta h))

theorem bIz {t:den tTo} {ts beta:Int} {h:den cH} (ht:t.1.length<=68719476736):nU t ts beta h=some (aDs t ts beta h):=by
 unfold nU aDs pj2 pj5 zz4
 simp only [aM,aOq,aI4 ht,aA,bVk]
 cases jS h
 ·rfl
 ·cases c:cM t h.1
  ·rfl
  ·obtain ⟨x,hx,ix⟩:=aFz c
   rw [ix,bBu,hx]
   rfl

theorem aV3 {t:den tTo} {ts beta:Int} {h:den cH} (ht:t.1.length<=68719476736):fV t ts beta h=some (aDs t ts beta h):=by
 unfold fV aDs pj2 pj5 zz4
 simp only [aM,aKh,aBu ht,aA,bF6]
 cases jS h
 ·rfl
 ·cases c:cM t h.1
  ·rfl
  ·obtain ⟨x,hx,ix⟩:=aFz c
   rw [ix,bBu,hx]
   rfl

def aFd (t:den tTo) (l:dA) (k:Nat) (x:den cH):Bool:=jS x&&(cM t x.1&&(l.take k).all fun y=> !(y.1==x.1))

def aKx (t:den tTo) (l:dA):Bool:=(l.zipIdx 0).all fun z=>aFd t l z.2 z.1

theorem bSx {t:den tTo} {l:dA} (ht:t.1.length<=68719476736) (hl:l.length<=68719476736):aAz t l=some (inR (l.length:Int) 1 8&&aKx t l):=by
 unfold aAz aKx pj2 pj5
 rw [aT (l:=l) (fun k x=>if aFd t l k x then none else some false) (by omega) (fun k x hi hd hw hm hk=>by
  simp only [hd,hi,zZ,aA,aM,aOq,aI4 ht,xS hk,fF,hw]
  rw [aT (l:=l.take k) (fun _ y=>if !(y.1==x.1) then none else some (bY5 (bY5 false))) (by rw [wG hk];omega) (fun j y hi hd hw hm hk=>by
   simp only [hd,hi,hw,zZ,aA]
   cases y.1==x.1<;>rfl) (by simp),mT (fun y:den cH=> !(y.1==x.1))]
  unfold aFd
  cases jS x<;>cases cM t x.1<;>cases (l.take k).all (fun y=> !(y.1==x.1))<;>rfl) (by simp),aBy (aFd t l)]
 rw [kZ,aA]
 cases inR (l.length:Int) 1 8<;>cases (l.zipIdx 0).all (fun z=>aFd t l z.2 z.1)<;>rfl

def aJ5 (t:den tTo) (p:den tPp) (x y:den cH):Bool:= !(pEg p x==0)&&((remote t x.1 (pEg p x)).1==y.1&&(remote t x.1 (pEg p x)).2==pIn p y)

def yZ (t:den tTo) (p:den tPp) (k:Nat) (y:den cH):Bool:=decide (k=0)||aJ5 t p ((p.2.2.2[k - 1]?).getD h0) y

def rP (t:den tTo) (p:den tPp):Bool:=
 inR (p.2.2.2.length:Int) 1 8&&(inR p.1 1 4&&(inR p.2.1 0 1000000&&(jX p.2.2.1&&(aKx t p.2.2.2&&(p.2.2.2.zipIdx 0).all fun z=>yZ t p z.2 z.1))))

theorem bKp (t:den tTo) (p:den tPp):((p.2.2.2.drop 1).zipIdx 0).all (fun z=>aJ5 t p ((p.2.2.2[z.2]?).getD h0) z.1)=(p.2.2.2.zipIdx 0).all (fun z=>yZ t p z.2 z.1):=by
 rw [bZy,aBb (fun k x=>aJ5 t p ((p.2.2.2[k]?).getD h0) x),aBb (yZ t p)]
 constructor
 ·intro h k x hx
  cases k with
  | zero=>rfl
  | succ k=>
   have :=h k x (by rw [cAu,Nat.add_comm];exact hx)
   simpa [yZ] using this
 ·intro h k x hx
  rw [cAu,Nat.add_comm] at hx
  have :=h (k+1) x hx
  simpa [yZ] using this

theorem aG6 (a b:Int):(a != b)= !(a==b):=rfl

theorem bGd {t:den tTo} {p:den tPp} (ht:t.1.length<=68719476736) (ht2:t.2.length<=68719476736) (hl:p.2.2.2.length<=68719476736):sW t p=some (rP t p):=by
 unfold sW rP pj2 pj4
 rw [aT (l:=p.2.2.2.drop 1) (fun k y=>if aJ5 t p ((p.2.2.2[k]?).getD h0) y then none else some false) (by rw [cA4];omega) (fun k y hi hd hw hm hk=>by
  have hy:p.2.2.2[k+1]? =some y:=by rw [aG,cAu,Nat.add_comm] at hi;exact hi
  have hlt:k+1<p.2.2.2.length:=(bZf.1 hy).1
  obtain ⟨x,hx⟩: ∃ x,p.2.2.2[k]? =some x:=⟨_,bY7 (by omega)⟩
  have hd':decide ((k:Int)<wr ((p.2.2.2.length:Int) - 1))=true:=by rw [jE hl];simp;omega
  have hy':idx p.2.2.2 ((k+1:Nat):Int)=some y:=by rw [aG];exact hy
  simp only [hd',zZ,aM,bCs hx hl,aA,aG,hx,hw,hy,bEf hy hl,aYg ht2,bZ6,aG6]
  unfold aJ5
  cases pEg p x==0<;>cases (remote t x.1 (pEg p x)).1==y.1<;>cases (remote t x.1 (pEg p x)).2==pIn p y<;>rfl) (by
   rw [cA4,jE hl,zW (by omega)];rfl),aBy (fun k y=>aJ5 t p ((p.2.2.2[k]?).getD h0) y),bKp]
 simp only [aM,kZ,bSx ht hl,aF4,aA]
 cases inR (p.2.2.2.length:Int) 1 8<;>cases inR p.1 1 4<;>cases inR p.2.1 0 1000000<;>cases jX p.2.2.1<;>cases aKx t p.2.2.2<;>cases (p.2.2.2.zipIdx 0).all (fun z=>yZ t p z.2 z.1)<;>rfl

theorem aEb {α S:Type} (p:Nat→α→Bool) (o r:S): ∀ (l:List α) (k:Nat),aKv (fun k x (_:Unit)=>if p k x then .inl () else .inr r) (fun _=>o) k l ()=if (l.zipIdx k).all (fun z=>p z.2 z.1) then o else r
 | [],_=>rfl
 | x::xs,k=>by
  simp only [aKv,List.zipIdx_cons,List.all_cons]
  rcases cBr (p k x) with h | h
  ·simp only [h,zV,bZn];exact aEb p o r xs (k+1)
  ·simp [h]

theorem bLj {p:den tPp} (hl:p.2.2.2.length<=68719476736):tK p=some (p.2.2.2.map (·.1)):=by
 unfold tK
 rw [(uJ (fun k (a:List Int)=>((k:Int),a)) ((0:Int),[]) [] p.2.2.2 (fun _ x a=>a++[x.1]) bZo (fun _=>1) 68719476736 id rfl (by omega) (by rw [eZ];simpa using hl) (fun k x a hi hx hd hw hk hb=>by
  simp only [hd,hi,hw,zZ,aA,aD (b:=8) (by decide) hb]
  simp) (fun a=>by simp)).1,jK (fun x:den cH=>x.1)]
 simp

theorem bMx (l:dA) (k:Nat) (n:Int):oL ((l.map (·.1)).take k) n= !((l.take k).all fun y=> !(y.1==n)):=by
 unfold oL
 rw [← List.map_take,List.all_map]
 rfl

theorem bGg {t:den tTo} {p:den tPp} (ht:t.1.length<=68719476736) (ht2:t.2.length<=68719476736) (hl:p.2.2.2.length<=68719476736):tH t p=some (rP t p):=by
 unfold tH rP pj2 pj4 pj5
 simp only [aM,bLj hl,aA]
 have hR:(p.2.2.2.map (·.1)).length=p.2.2.2.length:=by simp
 rw [aNa (fun k (_:Unit)=>(p.2.2.2.map (·.1),(k:Int))) (p.2.2.2.map (·.1),(0:Int)) () p.2.2.2 (fun k x _=>if (aFd t p.2.2.2 k x&&yZ t p k x) then .inl () else .inr (.inr false)) (fun _ _=>True) (fun _=> .inl ()) rfl (by omega) trivial (fun k x a hi hx hd hw hk _=>by
  refine ⟨?_,fun _ _=>trivial⟩
  have hr:(p.2.2.2.map (·.1))[k]? =some x.1:=by rw [cBo,hx];rfl
  have hs:bR (0:Int) (k:Int) ((p.2.2.2.map (·.1)).length:Int)=true:=by rw [hR];exact xS hk
  have hh:fK ((p.2.2.2.map (·.1)).take k) x.1=some (!((p.2.2.2.take k).all fun y=> !(y.1==x.1))):=by
   rw [aGr (by simp;omega),bMx]
  simp only [hd,zZ,hi,aG,hr,aA,aKh,aBu ht,hs,fF,hh,hw]
  cases k with
  | zero=>
   rw [show decide (((0:Nat):Int)>0)=false from by decide]
   unfold aFd yZ
   cases jS x<;>cases cM t x.1<;>cases (p.2.2.2.take 0).all (fun y=> !(y.1==x.1))<;>rfl
  | succ j=>
   have hw1:wr (((j+1:Nat):Int) - 1)=(j:Int):=(wri (by omega) (by omega)).trans (by omega)
   obtain ⟨y,hy⟩: ∃ y,p.2.2.2[j]? =some y:=⟨_,bY7 (by omega)⟩
   have hr1:(p.2.2.2.map (·.1))[j]? =some y.1:=by rw [cBo,hy];rfl
   rw [show decide (((j+1:Nat):Int)>0)=true from by simp]
   simp only [hw1,aG,hr1,aA,aVe hy hl,bE1 hx hl,aGq ht2,zZ,aG6]
   unfold aFd yZ aJ5
   rw [Nat.add_sub_cancel,hy,bZ6]
   cases jS x<;>cases cM t x.1<;>cases (p.2.2.2.take (j+1)).all (fun y=> !(y.1==x.1))<;>cases pEg p y==0<;>cases (remote t y.1 (pEg p y)).1==x.1<;>cases (remote t y.1 (pEg p y)).2==pIn p x<;>rfl) (fun a _=>by simp)]
 rw [aEb (fun k x=>aFd t p.2.2.2 k x&&yZ t p k x)]
 have hsplit:(p.2.2.2.zipIdx 0).all (fun z=>aFd t p.2.2.2 z.2 z.1&&yZ t p z.2 z.1)=(aKx t p.2.2.2&&(p.2.2.2.zipIdx 0).all fun z=>yZ t p z.2 z.1):=by
  unfold aKx
  rw [bZy]
  simp only [bZx,bZb]
  exact ⟨fun h=>⟨fun z hz=>(h z hz).1,fun z hz=>(h z hz).2⟩,fun h z hz=>⟨h.1 z hz,h.2 z hz⟩⟩
 rw [hsplit]
 simp only [fG,aEh,aA]
 cases inR (p.2.2.2.length:Int) 1 8<;>cases inR p.1 1 4<;>cases inR p.2.1 0 1000000<;>cases jX p.2.2.1<;>cases aKx t p.2.2.2<;>cases (p.2.2.2.zipIdx 0).all (fun z=>yZ t p z.2 z.1)<;>rfl

def aBr (k:Int):Int:=cond (k==1) 1 (cond (k==2||k==3) 2 3)

theorem bM4 (k:Int):vW k=some (aBr k):=by
 unfold vW aBr
 cases k==1<;>cases k==2<;>cases k==3<;>rfl

theorem bLa (k:Int):uR k=some (aBr k):=by
 unfold uR aBr
 cases k==1<;>cases k==2<;>cases k==3<;>rfl

def pt0:den tPp:=(0,0,0,[])

def aJs (y:den tPp):den cH:=(y.2.2.2[y.2.2.2.length - 1]?).getD h0

def aHi (y:den tPp):den cH:=(y.2.2.2[0]?).getD h0

def aM9 (y x:den tPp):Bool:= !decide (aBr y.1>=aBr x.1)&&(aJs y).1==(aHi x).1

def yQ (t:den tTo) (p:den tPt) (k:Nat) (x:den tPp):Bool:=rP t x&&(decide (k=0)||aM9 ((p[k - 1]?).getD pt0) x)

def wfP (t:den tTo) (p:den tPt):Bool:=inR (p.length:Int) 1 3&&(p.zipIdx 0).all fun z=>yQ t p z.2 z.1

theorem aEq {t:den tTo} {p:den tPp} (h:rP t p=true):0<p.2.2.2.length:=by
 unfold rP at h
 rw [bZb] at h
 have :=bT.1 h.1
 omega

theorem aXt {y:den tPp} (h:0<y.2.2.2.length) (hl:y.2.2.2.length<=68719476736):idx y.2.2.2 (wr ((y.2.2.2.length:Int) - 1))=some (aJs y):=by
 rw [bJc hl h,aG]
 unfold aJs
 rw [bY7 (show y.2.2.2.length - 1<y.2.2.2.length by omega)]
 rfl

theorem aV2 {y:den tPp} (h:0<y.2.2.2.length):idx y.2.2.2 (0:Int)=some (aHi y):=by
 have :idx y.2.2.2 ((0:Nat):Int)=y.2.2.2[0]? :=aG
 rw [show (0:Int)=((0:Nat):Int) from rfl,this]
 unfold aHi
 rw [bY7 h]
 rfl

theorem bWq {t:den tTo} {p:den tPt} (ht:t.1.length<=68719476736) (ht2:t.2.length<=68719476736) (h:SmB 68719476736 tPt p):kH t p=some (wfP t p):=by
 have lp:=h.1
 have lh: ∀ (k:Nat) (x:den tPp),p[k]? =some x→x.2.2.2.length<=68719476736:=fun k x hx=>(h.2 x (bZk hx)).2.2.2.1
 unfold kH wfP pj2 pj4
 rw [aNa (fun k (_:Unit)=>(k:Int)) (0:Int) () p (fun k x _=>if yQ t p k x then .inl () else .inr (.inr false)) (fun k _=> ∀ j y,j<k→p[j]? =some y→0<y.2.2.2.length) (fun _=> .inl ()) rfl (by omega) (fun j y hj=>absurd hj (Nat.not_lt_zero _)) (fun k x a hi hx hd hw hk hI=>by
  have hlx:=lh k x hx
  refine ⟨?_,fun a' ha j y hj hy=> ?_⟩
  ·simp only [hd,zZ,hi,aA,aM,bGd ht ht2 hlx,hw]
   cases hv:rP t x with
   | false=>unfold yQ;rw [hv];rfl
   | true=>
    cases k with
    | zero=>
     rw [show decide (((0:Nat):Int)>0)=false from by decide]
     unfold yQ;rw [hv];rfl
    | succ j=>
     have hw1:wr (((j+1:Nat):Int) - 1)=(j:Int):=(wri (by omega) (by omega)).trans (by omega)
     obtain ⟨y,hy⟩: ∃ y,p[j]? =some y:=⟨_,bY7 (by omega)⟩
     rw [show decide (((j+1:Nat):Int)>0)=true from by simp]
     simp only [hw1,aG,hy,aA,bM4,aXt (hI j y (Nat.lt_succ_self j) hy) (lh j y hy),aV2 (aEq hv),zZ,aG6,bY9,zY]
     unfold yQ aM9
     rw [Nat.add_sub_cancel,hy,bZ6,hv]
     cases decide (aBr y.1>=aBr x.1)<;>cases (aJs y).1==(aHi x).1<;>rfl
  ·rcases Nat.lt_succ_iff_lt_or_eq.1 hj with hj | rfl
   ·exact hI j y hj hy
   ·rw [hx] at hy
    injection hy with hy
    subst hy
    rcases cBr (yQ t p j x) with hb | hb
    ·unfold yQ at hb
     rw [bZb] at hb
     exact aEq hb.1
    ·simp [hb] at ha) (fun a _=>by simp)]
 rw [aEb (yQ t p),kZ,aA]
 cases inR (p.length:Int) 1 3<;>cases (p.zipIdx 0).all (fun z=>yQ t p z.2 z.1)<;>rfl

theorem bXe {t:den tTo} {p:den tPt} (ht:t.1.length<=68719476736) (ht2:t.2.length<=68719476736) (h:SmB 68719476736 tPt p):kL t p=some (wfP t p):=by
 have lp:=h.1
 have lh: ∀ (k:Nat) (x:den tPp),p[k]? =some x→x.2.2.2.length<=68719476736:=fun k x hx=>(h.2 x (bZk hx)).2.2.2.1
 unfold kL wfP pj2 pj4
 rw [aNa (fun k (_:Unit)=>(k:Int)) (0:Int) () p (fun k x _=>if yQ t p k x then .inl () else .inr (.inr false)) (fun k _=> ∀ j y,j<k→p[j]? =some y→0<y.2.2.2.length) (fun _=> .inl ()) rfl (by omega) (fun j y hj=>absurd hj (Nat.not_lt_zero _)) (fun k x a hi hx hd hw hk hI=>by
  have hlx:=lh k x hx
  refine ⟨?_,fun a' ha j y hj hy=> ?_⟩
  ·simp only [hd,zZ,hi,aA,aM,bGg ht ht2 hlx,hw]
   cases hv:rP t x with
   | false=>unfold yQ;rw [hv];rfl
   | true=>
    cases k with
    | zero=>
     rw [show decide (((0:Nat):Int)>0)=false from by decide]
     unfold yQ;rw [hv];rfl
    | succ j=>
     have hw1:wr (((j+1:Nat):Int) - 1)=(j:Int):=(wri (by omega) (by omega)).trans (by omega)
     obtain ⟨y,hy⟩: ∃ y,p[j]? =some y:=⟨_,bY7 (by omega)⟩
     rw [show decide (((j+1:Nat):Int)>0)=true from by simp]
     simp only [hw1,aG,hy,aA,bLa,aXt (hI j y (Nat.lt_succ_self j) hy) (lh j y hy),aV2 (aEq hv),zZ,aG6,bY9,zY]
     unfold yQ aM9
     rw [Nat.add_sub_cancel,hy,bZ6,hv]
     cases decide (aBr y.1>=aBr x.1)<;>cases (aJs y).1==(aHi x).1<;>rfl
  ·rcases Nat.lt_succ_iff_lt_or_eq.1 hj with hj | rfl
   ·exact hI j y hj hy
   ·rw [hx] at hy
    injection hy with hy
    subst hy
    rcases cBr (yQ t p j x) with hb | hb
    ·unfold yQ at hb
     rw [bZb] at hb
     exact aEq hb.1
    ·simp [hb] at ha) (fun a _=>by simp)]
 rw [aEb (yQ t p),fG,aA]
 cases inR (p.length:Int) 1 3<;>cases (p.zipIdx 0).all (fun z=>yQ t p z.2 z.1)<;>rfl

def aFp (l:List Int) (k:Nat) (n:Int):Bool:= !oL (l.take k) n

def zI (t:den tTo) (p:den tPt):Bool:=wfP t p&&((iT p).zipIdx 0).all fun z=>aFp (iT p) z.2 z.1

theorem bA0 {p:den tPt} (h:tot tPt p<=1073741824):SmB 68719476736 tPt p:=(bF h).mono (by decide)

theorem bIs {t:den tTo} {p:den tPt} (ht:t.1.length<=68719476736) (ht2:t.2.length<=68719476736) (h:tot tPt p<=1073741824):mQ t p=some (zI t p):=by
 have hu:=aH0 p
 unfold mQ zI pj2
 simp only [aM,bWq ht ht2 (bA0 h),bAr h,aA]
 rw [aNa (fun k (_:Unit)=>(iT p,iT p,(k:Int))) (iT p,iT p,(0:Int)) () (iT p) (fun k x _=>if aFp (iT p) k x then .inl () else .inr (.inr false)) (fun _ _=>True) (fun _=> .inl ()) rfl (by omega) trivial (fun k x a hi hx hd hw hk _=>by
  refine ⟨?_,fun _ _=>trivial⟩
  simp only [hd,zZ,hi,aA,xS hk,fF,hw,aMu (l:=(iT p).take k) (n:=x) (by simp;omega)]
  unfold aFp
  cases oL ((iT p).take k) x<;>rfl) (fun a _=>by simp)]
 rw [aEb (aFp (iT p))]
 cases wfP t p<;>cases ((iT p).zipIdx 0).all (fun z=>aFp (iT p) z.2 z.1)<;>rfl

theorem aTt {t:den tTo} {p:den tPt} (ht:t.1.length<=68719476736) (ht2:t.2.length<=68719476736) (h:tot tPt p<=1073741824):mF t p=some (zI t p):=by
 have hu:=aH0 p
 unfold mF zI pj2
 simp only [aM,bXe ht ht2 (bA0 h),aZx h,aA]
 rw [aNa (fun k (_:Unit)=>(iT p,(k:Int))) (iT p,(0:Int)) () (iT p) (fun k x _=>if aFp (iT p) k x then .inl () else .inr (.inr false)) (fun _ _=>True) (fun _=> .inl ()) rfl (by omega) trivial (fun k x a hi hx hd hw hk _=>by
  refine ⟨?_,fun _ _=>trivial⟩
  simp only [hd,zZ,hi,aA,xS hk,fF,hw,aGr (l:=(iT p).take k) (n:=x) (by simp;omega)]
  unfold aFp
  cases oL ((iT p).take k) x<;>rfl) (fun a _=>by simp)]
 rw [aEb (aFp (iT p))]
 cases wfP t p<;>cases ((iT p).zipIdx 0).all (fun z=>aFp (iT p) z.2 z.1)<;>rfl

def bS (p:den tPk):den tPp:=(p.2.2.2.1[p.2.2.2.2.1.toNat]?).getD pt0

def cX (p:den tPk):den cH:=((bS p).2.2.2[p.2.2.2.2.2.1.toNat]?).getD h0

theorem hP {p:den tPk} (h:cG p=true): ∃ (i j:Nat),p.2.2.2.2.1=(i:Int)∧p.2.2.2.2.2.1=(j:Int)∧p.2.2.2.1[i]? =some (bS p)∧(bS p).2.2.2[j]? =some (cX p)∧cZ p=(cX p).1:=by
 obtain ⟨i,j,x,y,h1,h2,h3,h4,h5⟩:=aDo h
 have e1:bS p=x:=by unfold bS;rw [h1,bZi,h3];rfl
 have e2:cX p=y:=by unfold cX;rw [e1,h2,bZi,h4];rfl
 exact ⟨i,j,h1,h2,by rw [e1];exact h3,by rw [e1,e2];exact h4,by rw [e2];exact h5⟩

theorem aF0 {p:den tPk} (h:0<=cZ p):cG p=true:=by
 cases c:cG p with
 | true=>rfl
 | false=>rw [aAt c] at h;omega

theorem gB {p:den tPk} (h:tot tPk p<=34359738368):SmB 68719476736 tPk p:=(bF h).mono (by decide)

theorem aA4 {p:den tPk} (h:SmB 68719476736 tPk p) {i:Nat} {x:den tPp} (hx:p.2.2.2.1[i]? =some x):x.2.2.2.length<=68719476736:=(h.2.2.2.1.2 x (bZk hx)).2.2.2.1


def dQ (p:den tPk):Bool:=p.2.2.2.2.2.1==((bS p).2.2.2.length:Int) - 1

def aGp (p:den tPk):Bool:=p.2.2.2.2.1==(p.2.2.2.1.length:Int) - 1

def gD (p:den tPk):Bool:=decide (cZ p>=0)&&(dQ p&&aGp p)

theorem aPc {p:den tPk} (h:SmB 68719476736 tPk p) (hh:cG p=true):gT p=some (dQ p):=by
 obtain ⟨i,j,h1,h2,h3,h4,_⟩:=hP hh
 unfold gT dQ zz4 zz5
 rw [h1,aG,h3,aA,jE (aA4 h h3)]

theorem aO8 {p:den tPk} (h:SmB 68719476736 tPk p):kP p=some (gD p):=by
 unfold kP gD aI zz4
 simp only [aM,aF3 h,aA]
 cases c:decide (cZ p>=0)
 ·rfl
 ·have hh:=aF0 (of_decide_eq_true c)
  have l1:=h.2.2.2.1.1
  simp only [zZ,aPc h hh,aA,jE l1]
  unfold aGp
  cases dQ p<;>rfl

theorem aXa {p:den tPk} (h:SmB 68719476736 tPk p):mK p=some (gD p):=by
 unfold mK gD aI zz4 zz5
 simp only [aM,aGm h,aA]
 cases c:decide (cZ p>=0)
 ·rfl
 ·have hh:=aF0 (of_decide_eq_true c)
  have l1:=h.2.2.2.1.1
  obtain ⟨i,j,h1,h2,h3,h4,_⟩:=hP hh
  simp only [zZ,jE l1]
  unfold aGp dQ
  rw [h1,aG,h3,aA,jE (aA4 h h3)]
  cases p.2.2.2.2.2.1==((bS p).2.2.2.length:Int) - 1<;>cases (i:Int)==(p.2.2.2.1.length:Int) - 1<;>rfl

theorem aIu {p:den tPk} (h:SmB 68719476736 tPk p):dO p=some (pkR p):=by
 unfold dO pkR zz4 zz5 zz6 zz7 zz8 zz9
 rw [aNk h.2.2.2.1,aGg h.2.2.2.2.2.2.2.2.2.1]
 rfl

theorem aEg {p:den tPk} (h:SmB 68719476736 tPk p):fN p=some (pkR p):=by
 unfold fN pkR zz4 zz5 zz6 zz7 zz8 zz9
 rw [aF8 h.2.2.2.1,aD (b:=1) (n:=([]:List Int).length) (by decide) (by simpa using h.2.2.2.2.2.2.2.2.2.1)]
 simp


def goTo (p:den tPk) (i j b:Int):den tPk:=(p.1,p.2.1,p.2.2.1,p.2.2.2.1,i,j,b,p.2.2.2.2.2.2.2.1,p.2.2.2.2.2.2.2.2.1,p.2.2.2.2.2.2.2.2.2)

def sC (p:den tPk):den tPp:=(p.2.2.2.1[p.2.2.2.2.1.toNat+1]?).getD pt0

def adv (p:den tPk):den tPk:=
 if decide (cZ p<0)||gD p then p
 else if dQ p then goTo p (p.2.2.2.2.1+1) 0 (sC p).2.2.1 else goTo p p.2.2.2.2.1 (p.2.2.2.2.2.1+1) p.2.2.2.2.2.2.1

theorem aRw {p:den tPk} (hh:cG p=true) (h0:0<=cZ p) (hl:dQ p=true) (ha:gD p=false): ∃ i:Nat,p.2.2.2.2.1=(i:Int)∧p.2.2.2.1[i+1]? =some (sC p):=by
 obtain ⟨i,j,h1,h2,h3,h4,_⟩:=hP hh
 refine ⟨i,h1,?_⟩
 have hlt:=(bZf.1 h3).1
 have hne:aGp p=false:=by
  unfold gD at ha
  rw [hl,zX h0] at ha
  simpa using ha
 unfold aGp at hne
 rw [h1] at hne
 have hne: ¬ ((i:Int)=(p.2.2.2.1.length:Int) - 1):=by simpa using hne
 unfold sC
 rw [h1,bZi,bY7 (show i+1<p.2.2.2.1.length by omega)]
 rfl

theorem bQg {p:den tPk} (h:SmB 68719476736 tPk p):mO p=some (pkR (adv p)):=by
 unfold mO adv aI pj2 zz4 zz5 zz6 zz7 zz8
 simp only [aM,aIu h,aF3 h,aO8 h,aA]
 cases c:decide (cZ p<0)
 ·cases ca:gD p
  ·have h0:0<=cZ p:=by have :=of_decide_eq_false c;omega
   have hh:=aF0 h0
   obtain ⟨i,j,h1,h2,h3,h4,_⟩:=hP hh
   have hlt:=(bZf.1 h3).1
   have hlt2:=(bZf.1 h4).1
   have l1:bZo p.2.2.2.1<=68719476736:=h.2.2.2.1.1
   have l2:=aA4 h h3
   simp only [zY,aA,aPc h hh,cAx,bZd,zU]
   cases cl:dQ p
   ·simp only [zY,aA,bZd,zU]
    unfold pkR goTo
    rw [h2,show wr ((j:Int)+1)=(j:Int)+1 from wri (by omega) (by omega)]
   ·obtain ⟨i',e1,e2⟩:=aRw hh h0 cl ca
    have :i'=i:=Int.ofNat.inj (e1.symm.trans h1)
    subst this
    have hw:wr (((i':Nat):Int)+1)=((i'+1:Nat):Int):=(wri (by omega) (by omega)).trans (by omega)
    simp only [zZ,zV]
    unfold pkR goTo
    simp only [h1,hw,aG,e2,aA]
    rw [show ((i'+1:Nat):Int)=(i':Int)+1 by omega]
  ·rfl
 ·rfl

theorem bFf {p:den tPk} (h:SmB 68719476736 tPk p):gV p=some (pkR (adv p)):=by
 unfold gV adv aI pj4 pj5 zz4 zz5 zz6
 simp only [aM,aEg h,aGm h,aXa h,aA]
 cases c:decide (cZ p<0)
 ·cases ca:gD p
  ·have h0:0<=cZ p:=by have :=of_decide_eq_false c;omega
   have hh:=aF0 h0
   obtain ⟨i,j,h1,h2,h3,h4,_⟩:=hP hh
   have hlt:=(bZf.1 h3).1
   have hlt2:=(bZf.1 h4).1
   have l1:bZo p.2.2.2.1<=68719476736:=h.2.2.2.1.1
   have l2:=aA4 h h3
   have hd:decide ((j:Int)<((bS p).2.2.2.length:Int) - 1)= !dQ p:=by
    have key:decide ((j:Int)<((bS p).2.2.2.length:Int) - 1)= !((j:Int)==((bS p).2.2.2.length:Int) - 1):=by
     rw [bZy]
     simp only [zR,cAa,beq_eq_false_iff_ne,ne_eq]
     omega
    unfold dQ
    rw [h2]
    exact key
   simp only [zY,aA,cAx,bZd,zU,h1,h2,aG,h3,jE l2,hd]
   cases cl:dQ p
   ·simp only [bZj,zZ,bZd,zU]
    unfold pkR goTo
    rw [show wr ((j:Int)+1)=(j:Int)+1 from wri (by omega) (by omega)]
    simp only [h1]
   ·obtain ⟨i',e1,e2⟩:=aRw hh h0 cl ca
    have :i'=i:=Int.ofNat.inj (e1.symm.trans h1)
    subst this
    have hw:wr (((i':Nat):Int)+1)=((i'+1:Nat):Int):=(wri (by omega) (by omega)).trans (by omega)
    simp only [bY9,zY,zV]
    unfold pkR goTo
    simp only [hw,aG,e2,aA]
    rw [show ((i'+1:Nat):Int)=(i':Int)+1 by omega]
  ·rfl
 ·rfl

def bef (p:den tPk):Int:=if jY (bS p).1 then aKe p.2.2.2.2.2.2.1 (cX p).2.2.2.2 else p.2.2.2.2.2.2.1

def aft (p:den tPk):Int:=if jY (bS p).1 then aKe p.2.2.2.2.2.2.1 (cX p).2.2.2.2 else aPa p.2.2.2.2.2.2.1 (cX p).2.2.2.2

def aC8 (t:den tTo) (p:den tPk):Bool:=cG p&&aDs t (bS p).2.1 (bef p) (cX p)

def aX (t:den tTo) (p:den tPk):den tPk:=if aC8 t p then goTo p p.2.2.2.2.1 p.2.2.2.2.2.1 (aft p) else p

def nP (p:den tPk) (b:Bool):q9:=(p.1,p.2.1,p.2.2.1,p.2.2.2.2.1,p.2.2.2.2.2.1,p.2.2.2.2.2.2.1,p.2.2.2.2.2.2.2.1,p.2.2.2.2.2.2.2.2.1,b,p.2.2.2.1,p.2.2.2.2.2.2.2.2.2)

theorem bUp {t:den tTo} {p:den tPk} (ht:t.1.length<=68719476736) (h:SmB 68719476736 tPk p):iE t p=some (nP (aX t p) (aC8 t p)):=by
 unfold iE aX aC8 aI pj2 pj5 zz4 zz5 zz6 zz7 zz8
 simp only [aM,aIu h,bP3 h,aA]
 cases c:cG p
 ·rfl
 ·obtain ⟨i,j,h1,h2,h3,h4,_⟩:=hP c
  simp only [h1,h2,aG,h3,h4,aA,aM1,bGe,bHe,bY9,zY,bZn]
  unfold bef aft
  cases jY (bS p).1
  ·simp only [zY,aA,bIz ht,bZd,zU]
   cases aDs t (bS p).2.1 p.2.2.2.2.2.2.1 (cX p)
   ·simp only [bZj,zZ,bZd,zU];unfold nP pkR;simp only [h1,h2]
   ·simp only [bY9,zY,zV];unfold nP pkR goTo;simp only [h1,h2]
  ·simp only [zZ,aA,bIz ht,zV]
   cases aDs t (bS p).2.1 (aKe p.2.2.2.2.2.2.1 (cX p).2.2.2.2) (cX p)
   ·simp only [bZj,zZ,bZd,zU];unfold nP pkR;simp only [h1,h2]
   ·simp only [bY9,zY,zV];unfold nP pkR goTo;simp only [h1,h2]

theorem bAa {t:den tTo} {ts b:Int} {h:den cH} (hv:h.1<0):aDs t ts b h=false:=by
 unfold aDs jS
 rw [aZ1.2 (fun hh=>absurd hv (Int.not_lt.2 hh.1))]
 rfl

theorem bV2 {t:den tTo} {p:den tPk} (ht:t.1.length<=68719476736) (h:SmB 68719476736 tPk p):iG t p=some (nP (aX t p) (aC8 t p)):=by
 unfold iG aX aC8 aI pj2 pj5 zz4 zz5 zz6 zz7 zz8
 simp only [aM,aEg h,aGm h,aA]
 cases c:cG p
 ·rw [aAt c];rfl
 ·obtain ⟨i,j,h1,h2,h3,h4,h5⟩:=hP c
  rw [h5]
  by_cases hn:(cX p).1<0
  ·rw [zX hn,bAa hn];rfl
  ·simp only [zW hn,zY,h1,h2,aG,h3,h4,aA,aEa,aXv,bIb,bZn,aV3 ht]
   unfold bef aft
   cases jY (bS p).1
   ·simp only [zY,bZd,zU]
    cases aDs t (bS p).2.1 p.2.2.2.2.2.2.1 (cX p)
    ·simp only [bZj,zZ,bZd,zU];unfold nP pkR;simp only [h1,h2]
    ·simp only [bY9,zY,zV];unfold nP pkR goTo;simp only [h1,h2]
   ·simp only [zZ,zV]
    cases aDs t (bS p).2.1 (aKe p.2.2.2.2.2.2.1 (cX p).2.2.2.2) (cX p)
    ·simp only [bZj,zZ,bZd,zU];unfold nP pkR;simp only [h1,h2]
    ·simp only [bY9,zY,zV];unfold nP pkR goTo;simp only [h1,h2]

def aBp (p:den tPk) (now:Int):Bool:= !decide (cZ p<0)&&(decide ((bS p).2.1<=now)&&decide (now<=(cX p).2.2.2.1))

theorem bM0 {p:den tPk} {now:Int} (h:SmB 68719476736 tPk p):gL p now=some (aBp p now):=by
 unfold gL aBp aI pj5 zz4 zz5
 simp only [aM,aF3 h,aA]
 cases c:decide (cZ p<0)
 ·have hh:=aF0 (p:=p) (by have :=of_decide_eq_false c;omega)
  obtain ⟨i,j,h1,h2,h3,h4,h5⟩:=hP hh
  simp only [zY,h1,h2,aG,h3,h4,aA,tY]
  cases decide ((bS p).2.1<=now)<;>rfl
 ·rfl

theorem bK7 {p:den tPk} {now:Int} (h:SmB 68719476736 tPk p):jJ p now=some (aBp p now):=by
 unfold jJ aBp aI pj5 zz4 zz5
 simp only [aM,aGm h,aA]
 cases c:decide (cZ p<0)
 ·have hh:=aF0 (p:=p) (by have :=of_decide_eq_false c;omega)
  obtain ⟨i,j,h1,h2,h3,h4,h5⟩:=hP hh
  simp only [zY,h1,h2,aG,h3,h4,aA,mL]
  cases decide ((bS p).2.1<=now)<;>rfl
 ·rfl

def dF (t:den tTo) (now:Int) (p:den tPk):Int:=if aC8 t p then (if aBp p now then 0 else 5) else 4

def goC (t:den tTo) (now:Int):Nat→den tPk→Int×den tPk
 | 0,p=>(dF t now p,aX t p)
 | n+1,p=>if dF t now p==0&&(dQ (aX t p)&& !gD (aX t p)) then goC t now n (adv (aX t p)) else (dF t now p,aX t p)

theorem aBl (t:den tTo) (p:den tPk):tot tPk (aX t p)=tot tPk p:=by
 unfold aX;split<;>rfl

theorem aF7 (p:den tPk):tot tPk (adv p)=tot tPk p:=by
 unfold adv;split
 ·rfl
 ·split<;>rfl

theorem aZa (t:den tTo) (p:den tPk) (now:Int):aBp (aX t p) now=aBp p now:=by
 unfold aX;split<;>rfl

theorem aJp (t:den tTo) (p:den tPk):cG (aX t p)=cG p∧cZ (aX t p)=cZ p∧cX (aX t p)=cX p∧(aX t p).2.2.2.1=p.2.2.2.1∧(aX t p).2.2.2.2.1=p.2.2.2.2.1:=by
 unfold aX;split<;>exact ⟨rfl,rfl,rfl,rfl,rfl⟩

theorem aAm {t:den tTo} {now:Int} {p:den tPk} (h:dF t now p=0):cG p=true∧0<=cZ p:=by
 unfold dF at h
 split at h
 ·rename_i hs
  unfold aC8 at hs
  rw [bZb] at hs
  refine ⟨hs.1,?_⟩
  obtain ⟨i,j,h1,h2,h3,h4,h5⟩:=hP hs.1
  rw [h5]
  by_cases hn:(cX p).1<0
  ·rw [bAa hn] at hs;cases hs.2
  ·exact Int.not_lt.1 hn
 ·cases h

theorem aXg {p:den tPk} (h0:0<=cZ p) (hc:(dQ p&& !gD p)=true):(adv p).2.2.2.1=p.2.2.2.1∧(adv p).2.2.2.2.1=p.2.2.2.2.1+1:=by
 rw [bZb] at hc
 have ha:gD p=false:=by simpa using hc.2
 unfold adv
 rw [zW (by omega),ha,hc.1]
 exact ⟨rfl,rfl⟩

theorem aZ4 {t:den tTo} {now:Int} {S R:Type} (enc:Int→den tPk→S) (out:S→R) {step:S→Option (S⊕R)} (st:den tPk→den tPk) (hst: ∀ p,dF t now p=0→st p=aX t p)
  (hstop: ∀ c p,c≠0→step (enc c p)=some (.inr (out (enc c p))))
  (hgo: ∀ q,tot tPk q<=34359738368→cG q=true→0<=cZ q→step (enc 0 q)=some (if dQ q&& !gD q then .inl (enc (dF t now (adv q)) (st (adv q))) else .inr (out (enc 0 q)))):
  ∀ (n:Nat) (p:den tPk),tot tPk p<=34359738368→p.2.2.2.1.length - p.2.2.2.2.1.toNat<=n→ ∃ r,aB step (enc (dF t now p) (st p))=some (out (enc (goC t now n p).1 r))∧((goC t now n p).1=0→r=(goC t now n p).2):=by
 intro n
 induction n with
 | zero=>
  intro p hp hm
  by_cases hc:dF t now p=0
  ·obtain ⟨hh,h0⟩:=aAm hc
   obtain ⟨i,j,h1,h2,h3,h4,h5⟩:=hP hh
   have hlt:=(bZf.1 h3).1
   rw [h1,bZi] at hm
   exact absurd hlt (by omega)
  ·exact ⟨_,bY (hstop _ _ hc),fun h=>absurd h hc⟩
 | succ n ih=>
  intro p hp hm
  by_cases hc:dF t now p=0
  ·obtain ⟨hh,h0⟩:=aAm hc
   obtain ⟨e1,e2,e3,e4,e5⟩:=aJp t p
   have hq:=hgo (aX t p) (by rw [aBl];exact hp) (by rw [e1];exact hh) (by rw [e2];exact h0)
   rw [hst p hc]
   cases hb:dQ (aX t p)&& !gD (aX t p) with
   | false=>
    rw [hb] at hq
    have hg:goC t now (n+1) p=(dF t now p,aX t p):=by
     show (if _ then _ else _)=_
     rw [hb,cA6];rfl
    rw [hg,hc]
    exact ⟨aX t p,bY hq,fun _=>rfl⟩
   | true=>
    rw [hb,zT rfl] at hq
    have hg:goC t now (n+1) p=goC t now n (adv (aX t p)):=by
     show (if _ then _ else _)=_
     rw [hb,hc];rfl
    rw [hg,hc,dT hq]
    obtain ⟨a1,a2⟩:=aXg (p:=aX t p) (by rw [e2];exact h0) hb
    obtain ⟨i,j,h1,h2,h3,h4,h5⟩:=hP hh
    refine ih (adv (aX t p)) (by rw [aF7,aBl];exact hp) ?_
    rw [a1,a2,e4,e5,h1]
    rw [h1,bZi] at hm
    have :((i:Int)+1).toNat=i+1:=by omega
    rw [this]
    omega
  ·have hg:goC t now (n+1) p=(dF t now p,aX t p):=by
    show (if _ then _ else _)=_
    rw [show (dF t now p==0)=false from by simpa using hc];rfl
   rw [hg]
   exact ⟨_,bY (hstop _ _ hc),fun h=>absurd h hc⟩

def aKl (p:den tPk):Int:=if p.2.2.2.2.1==0&&p.2.2.2.2.2.1==0 then 0 else pIn (bS p) (cX p)


def bU (t:den tTo) (now:Int) (p:den tPk):Int×den tPk:=goC t now (p.2.2.2.1.length - p.2.2.2.2.1.toNat) p


def fwd (t:den tTo) (r now dead inn:Int) (p:den tPk):Int×Int×den tPk×Int:=
 if !gX p||(!zI t p.2.2.2.1|| !(cZ p==r)) then (2,0,p,0)
 else if !(inn==aKl p) then (3,0,p,0)
 else if !((bU t now p).1==0) then ((bU t now p).1,0,p,0)
 else if gD (bU t now p).2 then (if (bU t now p).2.2.2.1==r then (1,0,(bU t now p).2,0) else (2,0,p,0))
 else if !aJr t (r,inn,pEg (bS (bU t now p).2) (cX (bU t now p).2)) then (6,0,p,0)
 else if aJv dead (pEg (bS (bU t now p).2) (cX (bU t now p).2)) then (7,0,p,pEg (bS (bU t now p).2) (cX (bU t now p).2))
 else (0,pEg (bS (bU t now p).2) (cX (bU t now p).2),adv (bU t now p).2,pEg (bS (bU t now p).2) (cX (bU t now p).2))

def fwI (v:Int×Int×den tPk×Int):Int×Int×q19:=
 (v.1,v.2.1,v.2.2.1.1,v.2.2.1.2.1,v.2.2.1.2.2.1,v.2.2.1.2.2.2.1,v.2.2.1.2.2.2.2.1,v.2.2.1.2.2.2.2.2.1,v.2.2.1.2.2.2.2.2.2.1,v.2.2.1.2.2.2.2.2.2.2.1,v.2.2.1.2.2.2.2.2.2.2.2.1,v.2.2.1.2.2.2.2.2.2.2.2.2,v.2.2.2)

def fwS (v:Int×Int×den tPk×Int):Int×Int×q3:=(v.1,v.2.1,pkR v.2.2.1)

theorem aF2 {t:den tTo} {now:Int}: ∀ (n:Nat) (p:den tPk),(goC t now n p).1=0→cG (goC t now n p).2=true∧0<=cZ (goC t now n p).2∧tot tPk (goC t now n p).2=tot tPk p
 | 0,p,h=>by
  obtain ⟨h1,h2⟩:=aAm (show dF t now p=0 from h)
  obtain ⟨e1,e2,_⟩:=aJp t p
  exact ⟨e1.trans h1,by rw [show (goC t now 0 p).2=aX t p from rfl,e2];exact h2,aBl t p⟩
 | n+1,p,h=>by
  unfold goC at h ⊢
  split at h
  ·rename_i hc
   rw [zT hc]
   obtain ⟨h1,h2,h3⟩:=aF2 n _ h
   exact ⟨h1,h2,by rw [h3,aF7,aBl]⟩
  ·rename_i hc
   rw [zS hc]
   obtain ⟨h1,h2⟩:=aAm (show dF t now p=0 from h)
   obtain ⟨e1,e2,_⟩:=aJp t p
   exact ⟨e1.trans h1,by rw [show (dF t now p,aX t p).2=aX t p from rfl,e2];exact h2,aBl t p⟩

def zN (t:den tTo) (now:Int) (p:den tPk):den tPk:=if dF t now p=0 then aX t p else p

def aDb (p:den tPk) (c:Int):q19:=(p.1,p.2.1,p.2.2.1,p.2.2.2.1,p.2.2.2.2.1,p.2.2.2.2.2.1,p.2.2.2.2.2.2.1,p.2.2.2.2.2.2.2.1,p.2.2.2.2.2.2.2.2.1,p.2.2.2.2.2.2.2.2.2,c)

def aD5 (p:den tPk) (c:Int):Int×q3:=(p.1,p.2.1,p.2.2.1,p.2.2.2.2.1,p.2.2.2.2.2.1,p.2.2.2.2.2.2.1,p.2.2.2.2.2.2.2.1,p.2.2.2.2.2.2.2.2.1,c,p.2.2.2.1,p.2.2.2.2.2.2.2.2.2)

theorem bO5 {t:den tTo} {now:Int} {p:den tPk} (ht:t.1.length<=68719476736) (h:tot tPk p<=34359738368):kX t now p=some (aDb (zN t now p) (dF t now p)):=by
 unfold kX aI pj2 aN zz4 zz5 zz6 zz7 zz8 zz9
 simp only [aM,bUp ht (gB h),aA]
 unfold zN dF
 cases c:aC8 t p
 ·simp only [nP,bZj,zZ,bZd,zU];rfl
 ·have hs:tot tPk (aX t p)<=34359738368:=by rw [aBl];exact h
  have key:gL ((nP (aX t p) true).1,(nP (aX t p) true).2.1,(nP (aX t p) true).2.2.1,(nP (aX t p) true).2.2.2.2.2.2.2.2.2.1,(nP (aX t p) true).2.2.2.1,(nP (aX t p) true).2.2.2.2.1,(nP (aX t p) true).2.2.2.2.2.1,(nP (aX t p) true).2.2.2.2.2.2.1,(nP (aX t p) true).2.2.2.2.2.2.2.1,(nP (aX t p) true).2.2.2.2.2.2.2.2.2.2) now=some (aBp p now):=by
   rw [← aZa t p now]
   exact bM0 (gB hs)
  rw [key]
  simp only [nP,bY9,zY,aA,zV]
  cases aBp p now
  ·simp only [bZj,zZ,bZd,zU];rfl
  ·simp only [bY9,zY,zV];rfl

theorem bNl {t:den tTo} {now:Int} {p:den tPk} (ht:t.1.length<=68719476736) (h:tot tPk p<=34359738368):oK t now p=some (aD5 (aX t p) (dF t now p)):=by
 unfold oK aI pj2 zz4 zz5 zz6 zz7 zz8 zz9
 simp only [aM,bV2 ht (gB h),bK7 (gB h),aA]
 unfold dF
 cases c:aC8 t p
 ·simp only [nP,bZj,zZ,bZd,zU];rfl
 ·simp only [nP,bY9,zY,zV]
  cases aBp p now
  ·simp only [bZj,zZ,bZd,zU];rfl
  ·simp only [bY9,zY,zV];rfl

theorem aQq {p:den tPk} (h:gX p=true):cG p=true:=by
 unfold gX at h
 simp only [bZb] at h
 exact h.2.2.1

theorem bOu {c:Int} {p:den tPk} (h:tot tPk p<=34359738368):lG c p=some (c,0,p.1,p.2.1,p.2.2.1,p.2.2.2.2.1,p.2.2.2.2.2.1,p.2.2.2.2.2.2.1,p.2.2.2.2.2.2.2.1,p.2.2.2.2.2.2.2.2.1,p.2.2.2.1,p.2.2.2.2.2.2.2.2.2,p.1,p.2.1,p.2.2.1,p.2.2.2.1,p.2.2.2.2.1,p.2.2.2.2.2.1,p.2.2.2.2.2.2.1,p.2.2.2.2.2.2.2.1,p.2.2.2.2.2.2.2.2.1,p.2.2.2.2.2.2.2.2.2):=by
 unfold lG aI zz4 zz5 zz6 zz7 zz8 zz9
 simp only [aM,aIu (gB h),aA]
 rfl

theorem bO9 {c:Int} {p:den tPk} (h:tot tPk p<=34359738368):tM c p=some (c,0,pkR p):=by
 unfold tM aI
 simp only [aM,aEg (gB h),aA]

theorem aIs {p:den tPk} {N:Nat} (h:tot tPk p<=N):tot tPt p.2.2.2.1<=N:=(aNg h).1

theorem bPh {t:den tTo} {r now dead inn:Int} {p:den tPk} (ht:t.1.length<=68719476736) (ht2:t.2.length<=68719476736) (h:tot tPk p<=34359738368) (hpp:tot tPt p.2.2.2.1<=1073741824):wM t r now dead inn p=some (fwI (fwd t r now dead inn p)):=by
 unfold wM fwd aI aKy pj2 pj4 aN bD zz4 zz5 zz6 zz7 zz8 zz9
 simp only [aM,bJn (gB h),bIs ht ht2 hpp,aF3 (gB h),aA,aG6,bOu h]
 cases cv:gX p
 ·simp only [bZj,cA7,zZ,aA,zV];rfl
 ·cases cs:zI t p.2.2.2.1
  ·simp only [bY9,bZj,cA7,cA8,zZ,zY,aA,zV];rfl
  ·cases cr:cZ p==r
   ·simp only [bY9,bZj,cA7,cA8,zZ,zY,aA,zV];rfl
   ·simp only [bY9,cAx,zY,aA,bZd,zU]
    obtain ⟨i,j,h1,h2,h3,h4,h5⟩:=hP (aQq cv)
    have hl:=aA4 (gB h) h3
    have hw:(@Option.bind Bool Int (cond (p.2.2.2.2.1==(0:Int)) (some (p.2.2.2.2.2.1==(0:Int))) (some false)) fun (s8:Bool)=>cond s8 (some (0:Int)) (some (pIn (bS p) (cX p))))=some (aKl p):=by
     unfold aKl
     cases p.2.2.2.2.1==0<;>cases p.2.2.2.2.2.1==0<;>rfl
    have hp1:idx p.2.2.2.1 p.2.2.2.2.1=some (bS p):=by rw [h1,aG];exact h3
    have hp2:fL (bS p) p.2.2.2.2.2.1=some (pIn (bS p) (cX p)):=by rw [h2];exact bEf h4 hl
    rw [hp1,aA,hp2,aA,hw,aA]
    cases ci:inn==aKl p
    ·simp only [bZj,zZ,zV,aA];rfl
    ·simp only [bY9,zY,bZd,zU,aIu (gB h),aA]
     have hc:kX t now ((pkR p).1,(pkR p).2.1,(pkR p).2.2.1,(pkR p).2.2.2.2.2.2.2.2.1,(pkR p).2.2.2.1,(pkR p).2.2.2.2.1,(pkR p).2.2.2.2.2.1,(pkR p).2.2.2.2.2.2.1,(pkR p).2.2.2.2.2.2.2.1,(pkR p).2.2.2.2.2.2.2.2.2)=some (aDb (zN t now p) (dF t now p)):=bO5 ht h
     rw [hc]
     simp only [aA,aV,bJ,aZ,aY,bA]
     obtain ⟨q,hq1,hq2⟩:=aZ4 (t:=t) (now:=now) (S:=Int×den tPk) (R:=Int×den tPk) (fun c p=>(c,p)) id (step:=fun s23=> @Option.bind Bool _ (cond (s23.1==(0:Int)) (Option.bind (gT s23.2) fun y24=>cond y24 (Option.bind (kP s23.2) fun y25=>some (!y25)) (some false)) (some false)) fun (s26:Bool)=>cond s26 (Option.bind (mO s23.2) fun y27=>Option.bind (kX t now (y27.1,y27.2.1,y27.2.2.1,y27.2.2.2.2.2.2.2.2.1,y27.2.2.2.1,y27.2.2.2.2.1,y27.2.2.2.2.2.1,y27.2.2.2.2.2.2.1,y27.2.2.2.2.2.2.2.1,y27.2.2.2.2.2.2.2.2.2)) fun y28=>some (bY6 (y28.2.2.2.2.2.2.2.2.2.2,y28.1,y28.2.1,y28.2.2.1,y28.2.2.2.1,y28.2.2.2.2.1,y28.2.2.2.2.2.1,y28.2.2.2.2.2.2.1,y28.2.2.2.2.2.2.2.1,y28.2.2.2.2.2.2.2.2.1,y28.2.2.2.2.2.2.2.2.2.1))) (some (bY5 s23))) (zN t now) (fun p hp=>zT hp) (fun c p hc=>by
       have :(c==0)=false:=by simpa using hc
       simp only [this,zY,aA,id]) (fun q hq hh h0=>by
       have e:kX t now ((pkR (adv q)).1,(pkR (adv q)).2.1,(pkR (adv q)).2.2.1,(pkR (adv q)).2.2.2.2.2.2.2.2.1,(pkR (adv q)).2.2.2.1,(pkR (adv q)).2.2.2.2.1,(pkR (adv q)).2.2.2.2.2.1,(pkR (adv q)).2.2.2.2.2.2.1,(pkR (adv q)).2.2.2.2.2.2.2.1,(pkR (adv q)).2.2.2.2.2.2.2.2.2)=some (aDb (zN t now (adv q)) (dF t now (adv q))):=bO5 (p:=adv q) ht (by rw [aF7];exact hq)
       simp only [beq_self_eq_true,zZ,aPc (gB hq) hh,aO8 (gB hq),bQg (gB hq),aA,e]
       cases dQ q<;>cases gD q<;>rfl) _ p h (bZq _)
     have hq1:aB _ (dF t now p,zN t now p)=some ((bU t now p).1,q):=hq1
     have hq2:(bU t now p).1=0→q=(bU t now p).2:=hq2
     have e0:(((aDb (zN t now p) (dF t now p)).2.2.2.2.2.2.2.2.2.2,(aDb (zN t now p) (dF t now p)).1,(aDb (zN t now p) (dF t now p)).2.1,(aDb (zN t now p) (dF t now p)).2.2.1,(aDb (zN t now p) (dF t now p)).2.2.2.1,(aDb (zN t now p) (dF t now p)).2.2.2.2.1,(aDb (zN t now p) (dF t now p)).2.2.2.2.2.1,(aDb (zN t now p) (dF t now p)).2.2.2.2.2.2.1,(aDb (zN t now p) (dF t now p)).2.2.2.2.2.2.2.1,(aDb (zN t now p) (dF t now p)).2.2.2.2.2.2.2.2.1,(aDb (zN t now p) (dF t now p)).2.2.2.2.2.2.2.2.2.1):Int×den tPk)=(dF t now p,zN t now p):=rfl
     rw [e0,hq1,aA]
     by_cases hz:(bU t now p).1=0
     ·have hqq:=hq2 hz
      subst hqq
      obtain ⟨g1,g2,g3⟩:=aF2 _ p hz
      have g1:cG (bU t now p).2=true:=g1
      have g2:0<=cZ (bU t now p).2:=g2
      have g3:tot tPk (bU t now p).2=tot tPk p:=g3
      have hg:tot tPk (bU t now p).2<=34359738368:=by rw [g3];exact h
      obtain ⟨i',j',k1,k2,k3,k4,k5⟩:=hP g1
      have hl':=aA4 (gB hg) k3
      have q1:idx (bU t now p).2.2.2.2.1 (bU t now p).2.2.2.2.2.1=some (bS (bU t now p).2):=by rw [k1,aG];exact k3
      have q2:fS (bS (bU t now p).2) (bU t now p).2.2.2.2.2.2.1=some (pEg (bS (bU t now p).2) (cX (bU t now p).2)):=by rw [k2];exact bCs k4 hl'
      simp only [hz,beq_self_eq_true,bY9,zY,bZd,zU,aO8 (gB hg),aA]
      cases ca:gD (bU t now p).2
      ·simp only [zY,bZd,zU,q1,q2,aA,bQy ht2,bRj]
       cases aJr t (r,inn,pEg (bS (bU t now p).2) (cX (bU t now p).2))
       ·simp only [bZj,zZ,zV];rfl
       ·simp only [bY9,zY,bZd,zU]
        cases aJv dead (pEg (bS (bU t now p).2) (cX (bU t now p).2))
        ·simp only [zY,bZd,zU,bQg (gB hg),aA];rfl
        ·simp only [zZ,zV];rfl
      ·simp only [zZ,zV]
       cases (bU t now p).2.2.2.1==r
       ·simp only [bZj,zZ,bZd,zU];rfl
       ·simp only [bY9,zY,zV];rfl
     ·have hz':((bU t now p).1==0)=false:=by simpa using hz
      simp only [hz',bZj,zZ,zV,bOu h,aA];rfl


def aMm (c:Int) (p:den tPk):Int×q3:=(c,p.1,p.2.1,p.2.2.1,p.2.2.2.2.1,p.2.2.2.2.2.1,p.2.2.2.2.2.2.1,p.2.2.2.2.2.2.2.1,p.2.2.2.2.2.2.2.2.1,p.2.2.2.1,p.2.2.2.2.2.2.2.2.2)

theorem aYp {q:den tPk} (hh:cG q=true) (h0:0<=cZ q):(dQ q&&decide (q.2.2.2.2.1<(q.2.2.2.1.length:Int) - 1))=(dQ q&& !gD q):=by
 obtain ⟨i,j,h1,h2,h3,h4,h5⟩:=hP hh
 have hlt:=(bZf.1 h3).1
 unfold gD aGp
 rw [zX (p:=cZ q>=0) h0,h1]
 have key:decide ((i:Int)<(q.2.2.2.1.length:Int) - 1)= !((i:Int)==(q.2.2.2.1.length:Int) - 1):=by
  rw [bZy]
  simp only [zR,cAa,beq_eq_false_iff_ne,ne_eq]
  omega
 rw [key]
 cases dQ q<;>simp

theorem bOc {t:den tTo} {r now dead inn:Int} {p:den tPk} (ht:t.1.length<=68719476736) (ht2:t.2.length<=68719476736) (h:tot tPk p<=34359738368) (hpp:tot tPt p.2.2.2.1<=1073741824):sV t r now dead inn p=some (fwS (fwd t r now dead inn p)):=by
 unfold sV fwd ixb aI aKy aC4 pj2 pj4 aN zz4 zz5 zz6 zz7 zz8 zz9
 simp only [aM,aW5 (gB h),aTt ht ht2 hpp,aGm (gB h),aA,aG6,bO9 h]
 cases cv:gX p
 ·simp only [bZj,cA7,zZ,aA,zV];rfl
 ·cases cs:zI t p.2.2.2.1
  ·simp only [bY9,bZj,cA7,cA8,zZ,zY,aA,zV];rfl
  ·cases cr:cZ p==r
   ·simp only [bY9,bZj,cA7,cA8,zZ,zY,aA,zV];rfl
   ·simp only [bY9,cAx,zY,aA,bZd,zU]
    obtain ⟨i,j,h1,h2,h3,h4,h5⟩:=hP (aQq cv)
    have hl:=aA4 (gB h) h3
    have hw:(@Option.bind Bool Int (cond (p.2.2.2.2.1==(0:Int)) (some (p.2.2.2.2.2.1==(0:Int))) (some false)) fun (s8:Bool)=>cond s8 (some (0:Int)) (some (pIn (bS p) (cX p))))=some (aKl p):=by
     unfold aKl
     cases p.2.2.2.2.1==0<;>cases p.2.2.2.2.2.1==0<;>rfl
    have hp1:idx p.2.2.2.1 p.2.2.2.2.1=some (bS p):=by rw [h1,aG];exact h3
    have hp2:eY (bS p) p.2.2.2.2.2.1=some (pIn (bS p) (cX p)):=by rw [h2];exact bE1 h4 hl
    rw [hp1,aA,hp2,aA,hw,aA]
    cases ci:inn==aKl p
    ·simp only [bZj,zZ,zV,aA];rfl
    ·simp only [bY9,zY,bZd,zU,bNl ht h,aA]
     obtain ⟨q,hq1,hq2⟩:=aZ4 (t:=t) (now:=now) aMm id (step:=fun s17=> @Option.bind Bool _ (cond (s17.1==(0:Int)) (cond (decide ((0:Int)<=s17.2.2.2.2.1)) (cond (decide (s17.2.2.2.2.1<(s17.2.2.2.2.2.2.2.2.2.1.length:Int))) (Option.bind s17.2.2.2.2.2.2.2.2.2.1[s17.2.2.2.2.1.toNat]? fun x18=>cond (s17.2.2.2.2.2.1==(wr ((x18.2.2.2.length:Int) - (1:Int)))) (some (decide (s17.2.2.2.2.1<(wr ((s17.2.2.2.2.2.2.2.2.2.1.length:Int) - (1:Int)))))) (some false)) none) none) (some false)) fun (s19:Bool)=>cond s19 (Option.bind (gV (s17.2.1,s17.2.2.1,s17.2.2.2.1,s17.2.2.2.2.2.2.2.2.2.1,s17.2.2.2.2.1,s17.2.2.2.2.2.1,s17.2.2.2.2.2.2.1,s17.2.2.2.2.2.2.2.1,s17.2.2.2.2.2.2.2.2.1,s17.2.2.2.2.2.2.2.2.2.2)) fun y20=>Option.bind (oK t now (y20.1,y20.2.1,y20.2.2.1,y20.2.2.2.2.2.2.2.2.1,y20.2.2.2.1,y20.2.2.2.2.1,y20.2.2.2.2.2.1,y20.2.2.2.2.2.2.1,y20.2.2.2.2.2.2.2.1,y20.2.2.2.2.2.2.2.2.2)) fun y21=>some (bY6 (y21.2.2.2.2.2.2.2.2.1,y21.1,y21.2.1,y21.2.2.1,y21.2.2.2.1,y21.2.2.2.2.1,y21.2.2.2.2.2.1,y21.2.2.2.2.2.2.1,y21.2.2.2.2.2.2.2.1,y21.2.2.2.2.2.2.2.2.2.1,y21.2.2.2.2.2.2.2.2.2.2))) (some (bY5 s17))) (aX t) (fun p hp=>rfl) (fun c p hc=>by
       have :(c==0)=false:=by simpa using hc
       simp only [aMm,this,zY,aA,id]) (fun q hq hh h0=>by
       have e:oK t now ((pkR (adv q)).1,(pkR (adv q)).2.1,(pkR (adv q)).2.2.1,(pkR (adv q)).2.2.2.2.2.2.2.2.1,(pkR (adv q)).2.2.2.1,(pkR (adv q)).2.2.2.2.1,(pkR (adv q)).2.2.2.2.2.1,(pkR (adv q)).2.2.2.2.2.2.1,(pkR (adv q)).2.2.2.2.2.2.2.1,(pkR (adv q)).2.2.2.2.2.2.2.2.2)=some (aD5 (aX t (adv q)) (dF t now (adv q))):=bNl (p:=adv q) ht (by rw [aF7];exact hq)
       obtain ⟨i',j',k1,k2,k3,k4,k5⟩:=hP hh
       have hlt:=(bZf.1 k3).1
       have l1:bZo q.2.2.2.1<=68719476736:=(gB hq).2.2.2.1.1
       have hm:=aYp hh h0
       simp only [aMm,beq_self_eq_true,zZ,aM,bFf (gB hq),aA,e]
       rw [← hm]
       have hd:decide ((i':Int)<(q.2.2.2.1.length:Int))=true:=zX (by omega)
       simp only [k1,fI,hd,zZ,bZi,k3,aA,jE (aA4 (gB hq) k3),jE l1]
       unfold dQ
       cases q.2.2.2.2.2.1==((bS q).2.2.2.length:Int) - 1<;>cases decide ((i':Int)<(q.2.2.2.1.length:Int) - 1)<;>rfl) _ p h (bZq _)
     have hq1:aB _ (aMm (dF t now p) (aX t p))=some (aMm (bU t now p).1 q):=hq1
     have hq2:(bU t now p).1=0→q=(bU t now p).2:=hq2
     have e0:(((aD5 (aX t p) (dF t now p)).2.2.2.2.2.2.2.2.1,(aD5 (aX t p) (dF t now p)).1,(aD5 (aX t p) (dF t now p)).2.1,(aD5 (aX t p) (dF t now p)).2.2.1,(aD5 (aX t p) (dF t now p)).2.2.2.1,(aD5 (aX t p) (dF t now p)).2.2.2.2.1,(aD5 (aX t p) (dF t now p)).2.2.2.2.2.1,(aD5 (aX t p) (dF t now p)).2.2.2.2.2.2.1,(aD5 (aX t p) (dF t now p)).2.2.2.2.2.2.2.1,(aD5 (aX t p) (dF t now p)).2.2.2.2.2.2.2.2.2.1,(aD5 (aX t p) (dF t now p)).2.2.2.2.2.2.2.2.2.2))=aMm (dF t now p) (aX t p):=rfl
     rw [e0,hq1,aA]
     by_cases hz:(bU t now p).1=0
     ·have hqq:=hq2 hz
      subst hqq
      obtain ⟨g1,g2,g3⟩:=aF2 _ p hz
      have g1:cG (bU t now p).2=true:=g1
      have g2:0<=cZ (bU t now p).2:=g2
      have g3:tot tPk (bU t now p).2=tot tPk p:=g3
      have hg:tot tPk (bU t now p).2<=34359738368:=by rw [g3];exact h
      obtain ⟨i',j',k1,k2,k3,k4,k5⟩:=hP g1
      have hlt:=(bZf.1 k3).1
      have hl':=aA4 (gB hg) k3
      have q2:dK (bS (bU t now p).2) (bU t now p).2.2.2.2.2.2.1=some (pEg (bS (bU t now p).2) (cX (bU t now p).2)):=by rw [k2];exact aVe k4 hl'
      simp only [aMm,aM,hz,beq_self_eq_true,bY9,zY,bZd,zU,aXa (gB hg),aA]
      cases ca:gD (bU t now p).2
      ·simp only [zY,aA,bZd,zU]
       have hd:decide ((i':Int)<((bU t now p).2.2.2.2.1.length:Int))=true:=zX (by omega)
       simp only [k1,fI,hd,zZ,bZi,k3,aA,q2,bSo ht2,bR3]
       cases aJr t (r,inn,pEg (bS (bU t now p).2) (cX (bU t now p).2))
       ·simp only [bZj,zZ,zV];rfl
       ·simp only [bY9,zY,bZd,zU]
        cases aJv dead (pEg (bS (bU t now p).2) (cX (bU t now p).2))
        ·simp only [zY,bZd,zU,bFf (gB hg),aA];rfl
        ·simp only [zZ,zV];rfl
      ·simp only [zZ,aA]
       cases (bU t now p).2.2.2.1==r
       ·simp only [zY,zZ,bZd,zU,zV];rfl
       ·simp only [zZ,zV];rfl
     ·have hz':((bU t now p).1==0)=false:=by simpa using hz
      simp only [aMm,hz',bZj,zZ,zV,bO9 h,aA];rfl

theorem aNr (t:den tTo) (r now dead inn:Int) (p:den tPk):tot tPk (fwd t r now dead inn p).2.2.1=tot tPk p:=by
 unfold fwd
 split
 ·rfl
 ·split
  ·rfl
  ·split
   ·rfl
   ·rename_i hz
    have hz:(bU t now p).1=0:=by simpa using hz
    obtain ⟨_,_,g3⟩:=aF2 _ p hz
    have g3:tot tPk (bU t now p).2=tot tPk p:=g3
    split
    ·split
     ·exact g3
     ·rfl
    ·split
     ·rfl
     ·split
      ·rfl
      ·show tot tPk (adv (bU t now p).2)=_
       rw [aF7];exact g3

def cJ (t:den tTo) (now:Int) (dead:List Int) (r inn:Int) (p:den tPk):Int×Int×den tPk×Int:=fwd t r now (uK t dead r) inn p

abbrev nT (w:den tNw):den tTo:=w.1

abbrev nK (w:den tNw):den tDb:=w.2.1

abbrev nG (w:den tNw):den tSc:=w.2.2.1

abbrev aQ (w:den tNw):Int:=w.2.2.2.1

abbrev aK (w:den tNw):List Int:=w.2.2.2.2.1

abbrev aS (w:den tNw):lFy:=w.2.2.2.2.2.1

abbrev aC (w:den tNw):lFl:=w.2.2.2.2.2.2.1

abbrev bO (w:den tNw):lIb:=w.2.2.2.2.2.2.2.1

abbrev dD (w:den tNw):Int:=w.2.2.2.2.2.2.2.2


def aC9 (w:den tNw):q4:=
 ((nG w).1,aQ w,dD w,(nT w).1,(nT w).2,(nK w).1,(nK w).2,(nG w).2.1,(nG w).2.2,aK w,aS w,aC w,bO w)

theorem bI8 {l:lRs} (h:l.length<=68719476736):eO l=some l:=by
 unfold eO
 rw [aD (n:=([]:lRs).length) (by decide) (by simpa using h)]
 rfl

theorem bCr {g:den tSc} (h:SmB 68719476736 tSc g):eX g=some g:=by
 unfold eX
 rw [bI8 h.2.1.1,aA,aD (n:=([]:lUs).length) (by decide) (by simpa using h.2.2.1)]
 rfl

theorem bDq {g:den tSc} (h:SmB 68719476736 tSc g):iM g=some g:=by
 unfold iM pj3
 rw [aD (b:=40) (n:=([]:lRs).length) (by decide) (by simpa using h.2.1.1),aD (b:=32) (n:=([]:lUs).length) (by decide) (by simpa using h.2.2.1)]
 simp only [aV,bJ,aZ,aY,bA,zZ,aA,bZ4]

theorem aLc (f:den tFl):(((oB f).1,(oB f).2.1,(oB f).2.2.1,(oB f).2.2.2.1,(oB f).2.2.2.2.2.2.1,(oB f).2.2.2.2.2.2.2.1,(oB f).2.2.2.2.1,(oB f).2.2.2.2.2.1,(oB f).2.2.2.2.2.2.2.2):den tFl)=f:=rfl

theorem bAd (p:den tPk):(((pkR p).1,(pkR p).2.1,(pkR p).2.2.1,(pkR p).2.2.2.2.2.2.2.2.1,(pkR p).2.2.2.1,(pkR p).2.2.2.2.1,(pkR p).2.2.2.2.2.1,(pkR p).2.2.2.2.2.2.1,(pkR p).2.2.2.2.2.2.2.1,(pkR p).2.2.2.2.2.2.2.2.2):den tPk)=p:=rfl

theorem bG5 {x:den tFy} (h:SmB 68719476736 tFy x):SmB 68719476736 tPk x.2.2:=h.2.2

theorem aSj {w:den tNw} (h:SmB 68719476736 tNw w):fH w=some (aC9 w):=by
 obtain ⟨hT,hK,hG,_,hD,hY,hF,hX,_⟩:=h
 unfold fH pS aI pj2 pj3 pj4 pj9 zz4 zz5 zz6 zz7 zz8 zz9
 simp only [aM,bRn hT,aYj hK.1,aYj hK.2,bCr hG,bBa hD.1,aA]
 rw [(uJ (fun k (a:lFy)=>((k:Int),(nG w).1,aQ w,dD w,a)) ((0:Int),(nG w).1,aQ w,dD w,[]) [] (aS w) (fun _ x a=>a++[x]) bZo (fun _=>1) 68719476736 (fun a=>((nG w).1,aQ w,dD w,a)) rfl (bY8 hY.1 (by decide)) (by rw [eZ];simpa using hY.1) (fun k x a hi hx hd hw hk hb=>by
  have e:=bG5 (hY.2 x (bZk hx))
  simp only [hd,hi,hw,zZ,aA,aM,aIu e,bAd,aD (b:=128) (n:=a.length) (m:=1) (by decide) hb]
  exact ⟨rfl,by simp⟩) (fun a=>by simp)).1,jK (fun x=>x)]
 simp only [aA]
 rw [(uJ (fun k (a:lFl)=>((k:Int),(nG w).1,aQ w,dD w,a)) ((0:Int),(nG w).1,aQ w,dD w,[]) [] (aC w) (fun _ x a=>a++[x]) bZo (fun _=>1) 68719476736 (fun a=>((nG w).1,aQ w,dD w,a)) rfl (bY8 hF.1 (by decide)) (by rw [eZ];simpa using hF.1) (fun k x a hi hx hd hw hk hb=>by
  have e:=hF.2 x (bZk hx)
  simp only [hd,hi,hw,zZ,aA,aM,aI8 e,aLc,aD (b:=120) (n:=a.length) (m:=1) (by decide) hb]
  exact ⟨rfl,by simp⟩) (fun a=>by simp)).1,jK (fun x=>x)]
 simp only [aA]
 rw [(uJ (fun k (a:lIb)=>((k:Int),(nG w).1,aQ w,dD w,a)) ((0:Int),(nG w).1,aQ w,dD w,[]) [] (bO w) (fun _ x a=>a++[x]) bZo (fun _=>1) 68719476736 (fun a=>((nG w).1,aQ w,dD w,a)) rfl (bY8 hX.1 (by decide)) (by rw [eZ];simpa using hX.1) (fun k x a hi hx hd hw hk hb=>by
  have e:=hX.2 x (bZk hx)
  simp only [hd,hi,hw,zZ,aA,aM,bAz e,aD (b:=48) (n:=a.length) (m:=1) (by decide) hb]
  simp) (fun a=>by simp)).1,jK (fun x=>x)]
 simp only [aA,bZ4,List.map_id']
 rfl

theorem bWv {l:lFy} (h:SmB 68719476736 (.sl tFy) l):uE l=some l:=by
 unfold uE aI zz4 zz5 zz6 zz7 zz8 zz9
 rw [(uJ (fun k (a:lFy)=>((k:Int),a)) ((0:Int),[]) [] l (fun _ x a=>a++[x]) bZo (fun _=>1) 68719476736 id rfl (bY8 h.1 (by decide)) (by rw [eZ];simpa using h.1) (fun k x a hi hx hd hw hk hb=>by
  have e:=bG5 (h.2 x (bZk hx))
  simp only [hd,hi,hw,zZ,aA,aM,aEg e,bAd,aD (b:=128) (n:=a.length) (m:=1) (by decide) hb]
  exact ⟨rfl,by simp⟩) (fun a=>by simp)).1,jK (fun x=>x)]
 simp

theorem bSl {l:lFl} (h:SmB 68719476736 (.sl tFl) l):oO l=some l:=by
 unfold oO pj9 zz4 zz5 zz6 zz7 zz8
 rw [(uJ (fun k (a:lFl)=>((k:Int),a)) ((0:Int),[]) [] l (fun _ x a=>a++[x]) bZo (fun _=>1) 68719476736 id rfl (bY8 h.1 (by decide)) (by rw [eZ];simpa using h.1) (fun k x a hi hx hd hw hk hb=>by
  have e:=h.2 x (bZk hx)
  simp only [hd,hi,hw,zZ,aA,aM,aD8 e,aLc,aD (b:=120) (n:=a.length) (m:=1) (by decide) hb]
  exact ⟨rfl,by simp⟩) (fun a=>by simp)).1,jK (fun x=>x)]
 simp

theorem bSp {l:lIb} (h:SmB 68719476736 (.sl tIb) l):oC l=some l:=by
 unfold oC pj4
 rw [(uJ (fun k (a:lIb)=>((k:Int),a)) ((0:Int),[]) [] l (fun _ x a=>a++[x]) bZo (fun _=>1) 68719476736 id rfl (bY8 h.1 (by decide)) (by rw [eZ];simpa using h.1) (fun k x a hi hx hd hw hk hb=>by
  have e:=h.2 x (bZk hx)
  simp only [hd,hi,hw,zZ,aA,aM,bAg e,aD (b:=48) (n:=a.length) (m:=1) (by decide) hb]
  simp) (fun a=>by simp)).1,jK (fun x=>x)]
 simp

theorem aI6 {w:den tNw} (h:SmB 68719476736 tNw w):gH w=some (aC9 w):=by
 obtain ⟨hT,hK,hG,_,hD,hY,hF,hX,_⟩:=h
 unfold gH pj2 pj3 aN zz4 zz5 zz6 zz7 zz8 zz9
 simp only [aM,bAy hT,aDy hK.1,aDy hK.2,bDq hG,bWv hY,bSl hF,bSp hX,aA,aD (b:=8) (n:=([]:List Int).length) (m:=w.2.2.2.2.1.length) (by decide) (by simpa using hD.1),zZ,aV,bJ,aZ,aY,bA,bZ4]
 rfl


def cB (w:den tNw):q1:=
 (aS w,aC w,bO w,(nT w).1,(nT w).2,(nK w).1,(nK w).2,(nG w).1,(nG w).2.1,(nG w).2.2,aQ w,aK w,dD w)

def dG (w:den tNw) (l:lFl):den tNw:=(nT w,nK w,nG w,aQ w,aK w,aS w,l,bO w,dD w)

def rS (r:Int) (p:den tPk) (f:den tFl):den tFl:=if f.1==r then (if p.1==2 then vF f p else aAc f p) else f

def wT (w:den tNw) (r:Int) (p:den tPk):den tNw:=dG w ((aC w).map (rS r p))

def gE (p:den tPk):Prop:= ∀ x∈p.2.2.2.2.2.2.2.2.2,0<=x∧x<=255


theorem aRr {α S R:Type} (enc:Nat→List α→S) (l:List α) (g:α→α) (out:List α→R) {step:S→Option (S⊕R)} (hl:l.length<=4611686018427387904)
  (h: ∀ (k:Nat) (x:α) (a:List α),a.length=l.length→a[k]? =some x→x∈l→k<l.length→decide ((k:Int)<(l.length:Int))=true→IntKind.i64.wrap ((k:Int)+1)=((k+1:Nat):Int)→step (enc k a)=some (.inl (enc (k+1) (a.set k (g x)))))
  (he: ∀ a,a.length=l.length→step (enc l.length a)=some (.inr (out a))):aB step (enc 0 l)=some (out (l.map g)):=by
 have key: ∀ (rest pre:List α),pre++rest=l→aB step (enc pre.length (pre.map g++rest))=some (out (l.map g)):=by
  intro rest
  induction rest with
  | nil=>
   intro pre hp
   rw [cAf] at hp
   subst hp
   rw [cAf]
   exact bY (he _ (by simp))
  | cons x rest ih=>
   intro pre hp
   have hlt:pre.length<l.length:=by rw [← hp];simp
   have hx:(pre.map g++x::rest)[pre.length]? =some x:=by simp
   have hlen:(pre.map g++x::rest).length=l.length:=by rw [← hp];simp
   rw [dT (h pre.length x _ hlen hx (by rw [← hp];simp) hlt (by simpa using hlt) (by rw [wri (by omega) (by omega)];omega))]
   have hs:(pre.map g++x::rest).set pre.length (g x)=(pre++[x]).map g++rest:=by
    rw [List.set_append_right _ _ (by simp)]
    simp
   rw [hs]
   have :=ih (pre++[x]) (by simpa using hp)
   simpa using this
 exact key l [] rfl

theorem aJ7 {α:Type} {a:List α} {k:Nat} {x:α} (h:a[k]? =some x):a.set k x=a:=by
 obtain ⟨hlt,hx⟩:=bZf.1 h
 rw [← hx]
 exact List.set_getElem_self hlt

theorem aS1 {f:den tFl} (h:tot tFl f<=1073741824):SmB 68719476736 tFl f:=(bF h).mono (by decide)

theorem aNb {α:Type} {a:List α} {k n:Nat} (h:a.length=n) (hk:k<n):decide ((k:Int)<(a.length:Int))=true∧decide (k<a.length)=true:=by
 constructor<;>simp<;>omega

theorem aRy {w:den tNw} {r:Int} {p:den tPk} (hF: ∀ f∈aC w,tot tFl f<=1073741824) (hl:(aC w).length<=1073741824) (hp:tot tPk p<=1073741824) (hb:gE p):gQ w r p=some (cB (wT w r p)):=by
 unfold gQ ixb aI pj9 zz4 zz5 zz6 zz7 zz8
 refine aRr (fun k (a:lFl)=>((k:Int),a)) (aC w) (rS r p) (fun l=>cB (dG w l)) (bY8 hl (by decide)) (fun k f a ha hx hm hk hd hw=> ?_) (fun a ha=> ?_)
 ·obtain ⟨d1,d2⟩:=aNb ha hk
  have hd:decide ((k:Int)<(w.2.2.2.2.2.2.1.length:Int))=true:=hd
  simp only [hd,d1,d2,fI,bZi,hx,zZ,aA,aM,aG6,bSe (aS1 (hF f hm)),bRu (hF f hm) hp hb,aLc,hw]
  unfold rS
  cases f.1==r
  ·simp only [bZj,zZ,bZd,zU,aA,aJ7 hx]
  ·simp only [bY9,zY,zV]
   cases p.1==2<;>rfl
 ·simp;rfl

theorem aS6 {w:den tNw} {r:Int} {p:den tPk} (hk3:(p.1==2)=false) (hF: ∀ f∈aC w,tot tFl f<=1073741824) (hl:(aC w).length<=1073741824) (hp:tot tPk p<=1073741824) (hb:gE p):nN w r p=some (cB (wT w r p)):=by
 unfold nN ixb aI pj9 zz4 zz5 zz6 zz7 zz8
 refine aRr (fun k (a:lFl)=>((k:Int),a)) (aC w) (rS r p) (fun l=>cB (dG w l)) (bY8 hl (by decide)) (fun k f a ha hx hm hk hd hw=> ?_) (fun a ha=> ?_)
 ·obtain ⟨d1,d2⟩:=aNb ha hk
  simp only [d1,d2,fI,bZi,hx,zZ,aA,aM,bSf (hF f hm) hp hb,aV,bJ,aZ,aY,bA,hw]
  unfold rS
  rw [hk3]
  cases f.1==r
  ·simp only [zY,bZd,zU,aA,aJ7 hx]
  ·simp only [zZ,zV,aA,bZd,zU]
   rfl
 ·show cond (decide ((((aC w).length:Nat):Int)<(a.length:Int))) _ _=_
  rw [ha,zW (by omega)]
  rfl

theorem bHx {w:den tNw} {r:Int} {p:den tPk} (hk2:(p.1==2)=true) (hF: ∀ f∈aC w,tot tFl f<=1073741824) (hl:(aC w).length<=1073741824) {step:Int×lFl→Option ((Int×lFl)⊕_)}
  (hs: ∀ (k:Nat) (f:den tFl) (a:lFl),a.length=(aC w).length→a[k]? =some f→f∈aC w→k<(aC w).length→step ((k:Int),a)=some (.inl (((k+1:Nat):Int),a.set k (rS r p f)))) (he: ∀ a,a.length=(aC w).length→step (((aC w).length:Int),a)=some (.inr (cB (dG w a)))):aB step ((0:Int),aC w)=some (cB (wT w r p)):=
 aRr (fun k (a:lFl)=>((k:Int),a)) (aC w) (rS r p) (fun l=>cB (dG w l)) (bY8 hl (by decide)) (fun k f a ha hx hm hk hd hw=>hs k f a ha hx hm hk) (fun a ha=>he a ha)

theorem aK9 (p:den tPk):goTo p p.2.2.2.2.1 p.2.2.2.2.2.1 p.2.2.2.2.2.2.1=p:=rfl

theorem aId (t:den tTo) (p:den tPk): ∃ b,aX t p=goTo p p.2.2.2.2.1 p.2.2.2.2.2.1 b:=by
 unfold aX
 split
 ·exact ⟨_,rfl⟩
 ·exact ⟨_,(aK9 p).symm⟩

theorem aWv (p:den tPk): ∃ i j b,adv p=goTo p i j b:=by
 unfold adv
 split
 ·exact ⟨_,_,_,(aK9 p).symm⟩
 ·split<;>exact ⟨_,_,_,rfl⟩

theorem aYi {t:den tTo} {now:Int}: ∀ (n:Nat) (p:den tPk),∃ i j b,(goC t now n p).2=goTo p i j b
 | 0,p=>by obtain ⟨b,hb⟩:=aId t p;exact ⟨_,_,_,hb⟩
 | n+1,p=>by
  obtain ⟨b,hb⟩:=aId t p
  unfold goC
  split
  ·obtain ⟨i,j,c,h1⟩:=aYi (t:=t) (now:=now) n (adv (aX t p))
   obtain ⟨i',j',c',h2⟩:=aWv (aX t p)
   rw [h1,h2,hb]
   exact ⟨_,_,_,rfl⟩
  ·exact ⟨_,_,_,hb⟩

theorem aXx (t:den tTo) (r now dead inn:Int) (p:den tPk): ∃ i j b,(fwd t r now dead inn p).2.2.1=goTo p i j b:=by
 obtain ⟨i,j,b,h⟩: ∃ i j b,(bU t now p).2=goTo p i j b:=aYi _ p
 unfold fwd
 repeat' split
 all_goals first
  | exact ⟨_,_,_,(aK9 p).symm⟩
  | exact ⟨_,_,_,h⟩
  | (obtain ⟨i',j',b',h'⟩:=aWv (bU t now p).2;exact ⟨_,_,_,by rw [show (0,pEg (bS (bU t now p).2) (cX (bU t now p).2),adv (bU t now p).2,pEg (bS (bU t now p).2) (cX (bU t now p).2)).2.2.1=adv (bU t now p).2 from rfl,h',h];rfl⟩)


theorem aE0 (t:den tTo) (r now dead inn:Int) (p:den tPk):(fwd t r now dead inn p).2.2.1.1=p.1∧(fwd t r now dead inn p).2.2.1.2.1=p.2.1∧(fwd t r now dead inn p).2.2.1.2.2.2.2.2.2.2.1=p.2.2.2.2.2.2.2.1∧(fwd t r now dead inn p).2.2.1.2.2.2.2.2.2.2.2.2=p.2.2.2.2.2.2.2.2.2:=by
 obtain ⟨i,j,b,h⟩:=aXx t r now dead inn p
 rw [h]
 exact ⟨rfl,rfl,rfl,rfl⟩

theorem aL0 {t:den tTo} {r now dead inn:Int} {p:den tPk} (h:((fwd t r now dead inn p).1==2)=false):gX p=true:=by
 cases hv:gX p with
 | true=>rfl
 | false=>
  unfold fwd at h
  rw [hv] at h
  cases h

def aBc (w:den tNw):den tNw:=(nT w,nK w,nG w,aQ w,aK w,aS w,aC w,bO w,wr (dD w+1))

def sM (w:den tNw) (r eg:Int) (p:den tPk):den tNw:=
 if (sB (nG w) p.2.2.2.2.2.2.2.1 r eg (aQ w)).2.1&&decide ((aS w).length<150) then
  (nT w,nK w,((sB (nG w) p.2.2.2.2.2.2.2.1 r eg (aQ w)).1,(sB (nG w) p.2.2.2.2.2.2.2.1 r eg (aQ w)).2.2.1,(sB (nG w) p.2.2.2.2.2.2.2.1 r eg (aQ w)).2.2.2),aQ w,aK w,aS w++[((remote (nT w) r eg).1,(remote (nT w) r eg).2,p)],aC w,bO w,dD w)
 else aBc w


structure aBx (w:den tNw):Prop where
 as:(nT w).1.length<=68719476736
 links:(nT w).2.length<=1073741824
 dead:(aK w).length<=68719476736
 res:(nG w).2.1.length<=1073741824
 use:(nG w).2.2.length<=1073741824
 flowsN:(aC w).length<=1073741824
 flows: ∀ f∈aC w,tot tFl f<=1073741824

theorem bBj {w:den tNw} {r:Int} {v:den aV0} (h:aBx w):lH w r v=some (cB (sM w r v.2.1 v.2.2)):=by
 unfold lH sM aI pj2 pj3 zz4 zz5 zz6 zz7 zz8 zz9
 simp only [aM,bQ4 h.res h.use,aA,aV,bJ,aZ,aY,bA]
 have key: ∀ n:Nat,decide ((n:Int)>=150)= !decide (n<150):=fun n=>by rw [bZy];simp only [zR,cAa,decide_eq_false_iff_not];omega
 have h150:decide ((w.2.2.2.2.2.1.length:Int)>=150)= !decide ((aS w).length<150):=key _
 rw [h150]
 cases ct:(sB (nG w) v.2.2.2.2.2.2.2.2.2.1 r v.2.1 (aQ w)).2.1
 ·simp only [bZj,zZ,aA,bZu,bZd,zU]
  rfl
 ·by_cases hl:(aS w).length<150
  ·rw [zX hl]
   simp only [bY9,zY,aA,Bool.and_self,zV,aYg (t:=w.1) (bY8 h.links (by decide)),aD (b:=128) (n:=w.2.2.2.2.2.1.length) (m:=1) (by decide) (show (aS w).length+1<=_ by omega),zZ]
   rfl
  ·rw [zW hl]
   simp only [bY9,bZj,zZ,zY,aA,cA6,bZd,zU]
   rfl

def proc0 (w:den tNw) (r inn:Int) (p:den tPk):den tNw:=
 if (cJ (nT w) (aQ w) (aK w) r inn p).1==0 then sM w r (cJ (nT w) (aQ w) (aK w) r inn p).2.1 (cJ (nT w) (aQ w) (aK w) r inn p).2.2.1
 else if (cJ (nT w) (aQ w) (aK w) r inn p).1==1 then wT w r (cJ (nT w) (aQ w) (aK w) r inn p).2.2.1
 else aBc w


structure aCk (p:den tPk):Prop where
 sz:tot tPk p<=1073741824
 by_:gE p

theorem aCk.step {p:den tPk} (h:aCk p) (t:den tTo) (now:Int) (dead:List Int) (r inn:Int):aCk (cJ t now dead r inn p).2.2.1 where
 sz:=by unfold cJ;rw [aNr];exact h.sz
 by_:=fun x hx=>h.by_ x (by unfold cJ at hx;rwa [(aE0 t r now _ inn p).2.2.2] at hx)

theorem aSr {w:den tNw} {r inn:Int} {p:den tPk} (h:aBx w) (hp:aCk p) (hk:(p.1==1)=false):dZ w r inn p=some (cB (proc0 w r inn p)):=by
 have hp2:tot tPt p.2.2.2.1<=1073741824:=aIs hp.sz
 have hs:=hp.step (nT w) (aQ w) (aK w) r inn
 unfold dZ bW.b ixb aI eE pj2 pj3 pj4 cO aN bD bH zz4 zz5 zz6 zz7 zz8 zz9
 simp only [aM,bAn h.links h.dead,bPh h.as (bY8 h.links (by decide)) (bY8 hp.sz (by decide)) hp2,aA,aV,bJ,aZ,aY,bA,hk]
 rw [show fwd w.1 r w.2.2.2.1 (uK w.1 w.2.2.2.2.1 r) inn p=cJ (nT w) (aQ w) (aK w) r inn p from rfl]
 unfold proc0
 generalize cJ (nT w) (aQ w) (aK w) r inn p=v at hs
 simp only [fwI,aM]
 cases c0:v.1==0
 ·cases c1:v.1==1
  ·cases v.1==7
   ·simp only [zY,aA,bZd,zU];rfl
   ·simp only [zZ,zY,aA,bZd,zU];rfl
  ·simp only [zZ,zY,aA,bZd,zU,zV,aRy h.flows h.flowsN hs.sz hs.by_]
 ·simp only [zZ,zV,bBj h,aA]

theorem aWg: ∀ (k n:Nat),n<128 ^ (k+1)→ ∀ x∈vi k n,0<=x∧x<=255
 | 0,n,h,x,hx=>by
  have :x=(n:Int):=by simpa [vi] using hx
  subst this
  have :128 ^ (0+1)=128:=rfl
  omega
 | k+1,n,h,x,hx=>by
  unfold vi at hx
  split at hx
  ·have :x=(n:Int):=by simpa using hx
   subst this
   omega
  ·rcases List.mem_cons.1 hx with rfl | hx
   ·omega
   ·refine aWg k (n / 128) ?_ x hx
    rw [Nat.div_lt_iff_lt_mul (by decide)]
    rwa [← Nat.pow_succ]

def tW (l:List Int):Prop:= ∀ x∈l,0<=x∧x<=255

theorem bDu {b:List Int} {n:Int} (h:tW b):tW (aCb b n):=by
 unfold aCb
 split
 ·rename_i hr
  have :=bT.1 hr
  intro x hx
  rcases bZh.1 hx with hx | hx
  ·exact h x hx
  ·exact aWg 5 n.toNat (by have :128 ^ (5+1)=4398046511104:=rfl;omega) x hx
 ·exact h

theorem aQd: ∀ (l b:List Int),tW b→tW (aJn b l)
 | [],b,h=>h
 | x::xs,b,h=>aQd xs (aCb b x) (bDu h)

theorem aP0 (x:den tRv):tW (aHb x):=by
 unfold aHb
 split
 ·exact aQd _ _ (fun x hx=>by cases hx)
 ·exact fun x hx=>by cases hx

theorem bAi {r now d:Int} {p:den tPk} (h:tot tPk p<=536870912):aCk (cF r now d p) where
 sz:=by have :=aUe r now d p;omega
 by_:=aP0 _

theorem aPp {x:den tIb} {p:den tPk} (h:aCk p):aCk (nZ x p) where
 sz:=bY8 (aT6 x p) h.sz
 by_:=by
  unfold nZ
  split
  ·exact fun x hx=>by cases hx
  ·exact fun x hx=>by cases hx

theorem bRc {l:lIb} {a b:Int} (h:l.length<=68719476736):qA l a b=some (jT l a b):=by
 unfold qA jT
 rw [aT (l:=l) (fun k x=>if oQ a b x then some (k:Int) else none) (by omega) (fun k x hi hd hw hm hk=>by
  simp only [hd,hi,hw,zZ,aA]
  unfold oQ
  cases x.1==a<;>cases x.2.1==b<;>rfl) (by simp),aLr (oQ a b)]
 cases l.findIdx? (oQ a b)<;>rfl

theorem aJ2 (l:lIb) (a b:Int):jT l a b= -1∨ ∃ (k:Nat) (x:den tIb),jT l a b=(k:Int)∧l[k]? =some x:=by
 unfold jT
 cases h:l.findIdx? (oQ a b) with
 | none=>exact .inl rfl
 | some i=>
  have hlt:i<l.length:=by
   have :=List.findIdx?_eq_some_iff_findIdx_eq.1 h
   exact this.1
  exact .inr ⟨i,l[i],by simp,bY7 hlt⟩

def tZ (w:den tNw) (i:Nat) (x:den tIb):den tNw:=(nT w,nK w,nG w,aQ w,aK w,aS w,aC w,(bO w).set i x,dD w)

def aAd (w:den tNw) (i:Nat):den tIb:=((bO w)[i]?).getD (0,0,0,[])


def aB0 (w:den tNw) (r:Int) (p:den tPk):den tNw:=
 if jT (bO w) r p.2.1<0 then w
 else if aC7 (eG (aAd w (jT (bO w) r p.2.1).toNat) p) p then
  proc0 (tZ w (jT (bO w) r p.2.1).toNat (eG (aAd w (jT (bO w) r p.2.1).toNat) p)) r 0 (nZ (eG (aAd w (jT (bO w) r p.2.1).toNat) p) p)
 else tZ w (jT (bO w) r p.2.1).toNat (eG (aAd w (jT (bO w) r p.2.1).toNat) p)

def aEv (w:den tNw) (r d:Int) (p:den tPk):den tNw:=
 aBc (if (hU (sD p)).length>1 then proc0 w r 0 (cF r (aQ w) d p) else wT w r (cF r (aQ w) d p))

def iQ (w:den tNw) (r inn:Int) (p:den tPk):den tNw:=
 if (cJ (nT w) (aQ w) (aK w) r inn p).1==0 then sM w r (cJ (nT w) (aQ w) (aK w) r inn p).2.1 (cJ (nT w) (aQ w) (aK w) r inn p).2.2.1
 else if (cJ (nT w) (aQ w) (aK w) r inn p).1==1 then
  (if p.1==1 then aB0 w r (cJ (nT w) (aQ w) (aK w) r inn p).2.2.1 else wT w r (cJ (nT w) (aQ w) (aK w) r inn p).2.2.1)
 else if (cJ (nT w) (aQ w) (aK w) r inn p).1==7&&p.1==1 then aEv w r (cJ (nT w) (aQ w) (aK w) r inn p).2.2.2 p
 else aBc w

theorem aHo {w:den tNw} (h:aBx w) {i:Nat} {x:den tIb}:aBx (tZ w i x):=⟨h.as,h.links,h.dead,h.res,h.use,h.flowsN,h.flows⟩

theorem aP3 {x:den tIb} {p:den tPk} (h:aC7 x p=true):((nZ x p).1==1)=false:=by
 unfold nZ
 rw [h]
 rfl

theorem bAq {w:den tNw} {r inn:Int} {p:den tPk} (h:aBx w) (hbn:(bO w).length<=68719476736) (hbx: ∀ x∈bO w,tot tIb x<=1073741824) (hz:tot tPk p<=536870912) (hb:gE p):bW w r inn p=some (cB (iQ w r inn p)):=by
 have hp:aCk p:=⟨by omega,hb⟩
 have hp2:tot tPt p.2.2.2.1<=1073741824:=aIs hp.sz
 have hs:=hp.step (nT w) (aQ w) (aK w) r inn
 have hkeep:=aE0 w.1 r w.2.2.2.1 (uK w.1 w.2.2.2.2.1 r) inn p
 unfold bW bW.b ixb aI eE pj2 pj3 pj4 cO aN bD bH zz4 zz5 zz6 zz7 zz8 zz9
 simp only [aM,bAn h.links h.dead,bPh h.as (bY8 h.links (by decide)) (bY8 hp.sz (by decide)) hp2,aA,aV,bJ,aZ,aY,bA]
 rw [show fwd w.1 r w.2.2.2.1 (uK w.1 w.2.2.2.2.1 r) inn p=cJ (nT w) (aQ w) (aK w) r inn p from rfl] at hkeep ⊢
 unfold iQ
 generalize cJ (nT w) (aQ w) (aK w) r inn p=v at hs hkeep
 simp only [fwI,aM]
 cases c0:v.1==0
 ·cases c1:v.1==1
  ·cases c7:v.1==7
   ·simp only [zY,aA,bZd,zU,bZu];rfl
   ·cases ck:p.1==1
    ·simp only [zZ,zY,aA,bZd,zU,cA6];rfl
    ·have hn:aCk (cF r (aQ w) v.2.2.2 p):=bAi hz
     have ht1:tot tPt (sD p)<=34359738368:=bY8 (aDa p) (bY8 hp2 (by decide))
     have hlen:decide (((hU (sD p)).length:Int)>1)=decide ((hU (sD p)).length>1):=by rw [bZy];simp only [zR,gt_iff_lt];omega
     have e1:dZ w r 0 ((pkR (cF r w.2.2.2.1 v.2.2.2 p)).1,(pkR (cF r w.2.2.2.1 v.2.2.2 p)).2.1,(pkR (cF r w.2.2.2.1 v.2.2.2 p)).2.2.1,(pkR (cF r w.2.2.2.1 v.2.2.2 p)).2.2.2.2.2.2.2.2.1,(pkR (cF r w.2.2.2.1 v.2.2.2 p)).2.2.2.1,(pkR (cF r w.2.2.2.1 v.2.2.2 p)).2.2.2.2.1,(pkR (cF r w.2.2.2.1 v.2.2.2 p)).2.2.2.2.2.1,(pkR (cF r w.2.2.2.1 v.2.2.2 p)).2.2.2.2.2.2.1,(pkR (cF r w.2.2.2.1 v.2.2.2 p)).2.2.2.2.2.2.2.1,(pkR (cF r w.2.2.2.1 v.2.2.2 p)).2.2.2.2.2.2.2.2.2)=some (cB (proc0 w r 0 (cF r (aQ w) v.2.2.2 p))):=aSr h hn rfl
     have e2:gQ w r ((pkR (cF r w.2.2.2.1 v.2.2.2 p)).1,(pkR (cF r w.2.2.2.1 v.2.2.2 p)).2.1,(pkR (cF r w.2.2.2.1 v.2.2.2 p)).2.2.1,(pkR (cF r w.2.2.2.1 v.2.2.2 p)).2.2.2.2.2.2.2.2.1,(pkR (cF r w.2.2.2.1 v.2.2.2 p)).2.2.2.1,(pkR (cF r w.2.2.2.1 v.2.2.2 p)).2.2.2.2.1,(pkR (cF r w.2.2.2.1 v.2.2.2 p)).2.2.2.2.2.1,(pkR (cF r w.2.2.2.1 v.2.2.2 p)).2.2.2.2.2.2.1,(pkR (cF r w.2.2.2.1 v.2.2.2 p)).2.2.2.2.2.2.2.1,(pkR (cF r w.2.2.2.1 v.2.2.2 p)).2.2.2.2.2.2.2.2.2)=some (cB (wT w r (cF r (aQ w) v.2.2.2 p))):=aRy h.flows h.flowsN hn.sz hn.by_
     simp only [zZ,zY,aA,bZd,zU,Bool.and_self,zV,bQv (t:=w.1) (r:=r) (now:=w.2.2.2.1) (d:=v.2.2.2) (bY8 hp.sz (by decide)),aWe (gB (p:=p) (by omega)),aV,bJ,aZ,aY,bA]
     unfold kK
     simp only [aRv ht1,aA,hlen,e1,e2]
     unfold aEv
     cases hd:decide ((hU (sD p)).length>1)
     ·rw [zS (of_decide_eq_false hd)];rfl
     ·rw [zT (of_decide_eq_true hd)];rfl
  ·cases ck:p.1==1
   ·simp only [zZ,zY,aA,bZd,zU,zV,aRy h.flows h.flowsN hs.sz hs.by_]
   ·simp only [zZ,zY,aA,bZd,zU,zV,bRc hbn]
    unfold aB0
    rw [hkeep.2.1]
    rcases aJ2 (bO w) r p.2.1 with hf | ⟨k,x,hf,hx⟩
    ·rw [show jT w.2.2.2.2.2.2.2.1 r p.2.1= -1 from hf]
     rfl
    ·have hlt:=(bZf.1 hx).1
     have hx0:w.2.2.2.2.2.2.2.1[k]? =some x:=hx
     have hxm:=hbx x (bZk hx)
     have hxs:SmB 4294967296 tIb x:=(bF hxm).mono (by decide)
     have hvs:SmB 4294967296 tPk v.2.2.1:=(bF hs.sz).mono (by decide)
     have hd1:decide ((k:Int)<(w.2.2.2.2.2.2.2.1.length:Int))=true:=zX (by have :k<w.2.2.2.2.2.2.2.1.length:=hlt;omega)
     have hd2:decide (k<w.2.2.2.2.2.2.2.1.length)=true:=zX hlt
     have hset:(w.2.2.2.2.2.2.2.1.set k (eG x v.2.2.1))[k]? =some (eG x v.2.2.1):=List.getElem?_set_self hlt
     have hba:aAd w k=x:=by unfold aAd;rw [hx];rfl
     rw [show jT w.2.2.2.2.2.2.2.1 r p.2.1=(k:Int) from hf,zW (show ¬ (k:Int)<0 by omega),zS (show ¬ (k:Int)<0 by omega),bZi,hba]
     have e1:dZ (w.1,w.2.1,w.2.2.1,w.2.2.2.1,w.2.2.2.2.1,w.2.2.2.2.2.1,w.2.2.2.2.2.2.1,w.2.2.2.2.2.2.2.1.set k (eG x v.2.2.1),w.2.2.2.2.2.2.2.2) r 0 (nZ (eG x v.2.2.1) v.2.2.1)=some (cB (proc0 (tZ w k (eG x v.2.2.1)) r 0 (nZ (eG x v.2.2.1) v.2.2.1))):=by
      cases ca:aC7 (eG x v.2.2.1) v.2.2.1 with
      | true=>exact aSr (aHo h) (aPp hs) (aP3 ca)
      | false=>exact aSr (aHo h) (aPp hs) (by unfold nZ;rw [ca];rfl)
     simp only [zY,fI,hd1,hd2,zZ,hx0,aA,bQ9 hxs hvs,List.length_set,hset,bS2 (x:=eG x v.2.2.1) (p:=v.2.2.1) (bY8 (aIs hs.sz) (by decide)),aV,bJ,aZ,aY,bA,pkB,aM,e1]
     cases aC7 (eG x v.2.2.1) v.2.2.1<;>rfl
 ·simp only [zZ,zV,bBj h,aA]

def aBn (p q:den tPk):Prop:=p.2.2.2.1=q.2.2.2.1∧p.2.2.2.2.1=q.2.2.2.2.1∧p.2.2.2.2.2.1=q.2.2.2.2.2.1

theorem aBn.cur {p q:den tPk} (h:aBn p q):cG p=cG q∧cZ p=cZ q∧bS p=bS q∧cX p=cX q∧dQ p=dQ q∧gD p=gD q:=by
 obtain ⟨h1,h2,h3⟩:=h
 have a1:cG p=cG q:=by unfold cG;rw [h1,h2,h3]
 have a2:cZ p=cZ q:=by unfold cZ;rw [a1,h1,h2,h3]
 have a3:bS p=bS q:=by unfold bS;rw [h1,h2]
 have a4:cX p=cX q:=by unfold cX;rw [a3,h3]
 have a5:dQ p=dQ q:=by unfold dQ;rw [a3,h3]
 exact ⟨a1,a2,a3,a4,a5,by unfold gD aGp;rw [a2,a5,h1,h2]⟩

theorem aBn.adv {p q:den tPk} (h:aBn p q):aBn (adv p) (adv q):=by
 obtain ⟨a1,a2,a3,a4,a5,a6⟩:=h.cur
 obtain ⟨h1,h2,h3⟩:=id h
 unfold Go.Proofs.YtecighmpdcffcaaGreat.adv
 rw [a2,a5,a6]
 split
 ·exact h
 ·split
  ·exact ⟨h1,by show p.2.2.2.2.1+1=q.2.2.2.2.1+1;rw [h2],rfl⟩
  ·exact ⟨h1,h2,by show p.2.2.2.2.2.1+1=q.2.2.2.2.2.1+1;rw [h3]⟩

theorem sT (t:den tTo) (p:den tPk):aBn (aX t p) p:=by
 obtain ⟨b,hb⟩:=aId t p
 rw [hb]
 exact ⟨rfl,rfl,rfl⟩

theorem aBn.trans {p q r:den tPk} (h:aBn p q) (k:aBn q r):aBn p r:=⟨h.1.trans k.1,h.2.1.trans k.2.1,h.2.2.trans k.2.2⟩

theorem aMf {t:den tTo} {now:Int} {n:Nat} {p:den tPk} (h:(goC t now n p).1=0):dF t now p=0:=by
 cases n with
 | zero=>exact h
 | succ n=>
  unfold goC at h
  split at h
  ·rename_i hc
   rw [bZb] at hc
   simpa using hc.1
  ·exact h

theorem bG4 {t:den tTo} {now:Int} {step:den tPk→Option (den tPk⊕den tPk)}
  (H: ∀ q,tot tPk q<=34359738368→cG q=true→step q=some (if dQ q&&decide (q.2.2.2.2.1<(q.2.2.2.1.length:Int) - 1) then .inl (adv q) else .inr q)):
  ∀ (n:Nat) (p q:den tPk),aBn p q→tot tPk q<=34359738368→(goC t now n p).1=0→p.2.2.2.1.length - p.2.2.2.2.1.toNat<=n→ ∃ r,aB step q=some r∧aBn (goC t now n p).2 r∧tot tPk r<=34359738368:=by
 intro n
 induction n with
 | zero=>
  intro p q hs hq hc hm
  obtain ⟨hh,h0⟩:=aAm (aMf hc)
  obtain ⟨i,j,h1,h2,h3,h4,h5⟩:=hP hh
  have hlt:=(bZf.1 h3).1
  rw [h1,bZi] at hm
  exact absurd hlt (by omega)
 | succ n ih=>
  intro p q hs hq hc hm
  have hz:=aMf hc
  obtain ⟨hh,h0⟩:=aAm hz
  obtain ⟨a1,a2,a3,a4,a5,a6⟩:=hs.cur
  obtain ⟨b1,b2,b3,b4,b5,b6⟩:=(sT t p).cur
  have hstep:=H q hq (a1▸hh)
  rw [aYp (a1▸hh) (a2▸h0)] at hstep
  cases hb:dQ q&& !gD q with
  | false=>
   rw [hb] at hstep
   have hg:goC t now (n+1) p=(dF t now p,aX t p):=by
    show (if _ then _ else _)=_
    rw [b5,b6,a5,a6,hb,cA6];rfl
   rw [hg]
   exact ⟨q,bY hstep,(sT t p).trans hs,hq⟩
  | true=>
   rw [hb,zT rfl] at hstep
   have hg:goC t now (n+1) p=goC t now n (adv (aX t p)):=by
    show (if _ then _ else _)=_
    rw [b5,b6,a5,a6,hb,hz];rfl
   rw [hg] at hc ⊢
   rw [dT hstep]
   obtain ⟨e1,e2⟩:=aXg (p:=aX t p) (by rw [b2];exact h0) (by rw [b5,b6,a5,a6];exact hb)
   obtain ⟨i,j,h1,h2,h3,h4,h5⟩:=hP hh
   refine ih _ _ ((sT t p).trans hs).adv (by rw [aF7];exact hq) hc ?_
   rw [e1,e2,(sT t p).1,(sT t p).2.1,h1]
   rw [h1,bZi] at hm
   have :((i:Int)+1).toNat=i+1:=by omega
   rw [this]
   omega

def bEa (t:den tTo) (now:Int) (p:den tPk):Int:=pEg (bS (bU t now p).2) (cX (bU t now p).2)

theorem bVp {t:den tTo} {now:Int} {p:den tPk} (h:tot tPk p<=34359738368) (hz:(bU t now p).1=0):tE p=some (bEa t now p):=by
 unfold tE aI pj4 zz4 zz5 zz6 zz7 zz8 zz9
 obtain ⟨r,hr,hs,ht⟩:=bG4 (t:=t) (now:=now) (step:=fun s5=> @Option.bind Bool _ (Option.bind (idx s5.2.2.2.1 s5.2.2.2.2.1) fun x6=>cond (s5.2.2.2.2.2.1==(wr ((x6.2.2.2.length:Int) - (1:Int)))) (some (decide (s5.2.2.2.2.1<(wr ((s5.2.2.2.1.length:Int) - (1:Int)))))) (some false)) fun (s7:Bool)=>cond s7 (Option.bind (gV (s5.1,s5.2.1,s5.2.2.1,s5.2.2.2.1,s5.2.2.2.2.1,s5.2.2.2.2.2.1,s5.2.2.2.2.2.2.1,s5.2.2.2.2.2.2.2.1,s5.2.2.2.2.2.2.2.2.1,s5.2.2.2.2.2.2.2.2.2)) fun y8=>some (bY6 (y8.1,y8.2.1,y8.2.2.1,y8.2.2.2.2.2.2.2.2.1,y8.2.2.2.1,y8.2.2.2.2.1,y8.2.2.2.2.2.1,y8.2.2.2.2.2.2.1,y8.2.2.2.2.2.2.2.1,y8.2.2.2.2.2.2.2.2.2))) (some (bY5 (s5.1,s5.2.1,s5.2.2.1,s5.2.2.2.1,s5.2.2.2.2.1,s5.2.2.2.2.2.1,s5.2.2.2.2.2.2.1,s5.2.2.2.2.2.2.2.1,s5.2.2.2.2.2.2.2.2.1,s5.2.2.2.2.2.2.2.2.2)))) (fun q hq hh=>by
   obtain ⟨i,j,k1,k2,k3,k4,k5⟩:=hP hh
   have l1:bZo q.2.2.2.1<=68719476736:=(gB hq).2.2.2.1.1
   have hp1:idx q.2.2.2.1 q.2.2.2.2.1=some (bS q):=by rw [k1,aG];exact k3
   simp only [hp1,aA,jE (aA4 (gB hq) k3),jE l1,aM,bFf (gB hq)]
   unfold dQ
   cases q.2.2.2.2.2.1==((bS q).2.2.2.length:Int) - 1<;>cases decide (q.2.2.2.2.1<(q.2.2.2.1.length:Int) - 1)<;>rfl) _ p p ⟨rfl,rfl,rfl⟩ h hz (bZq _)
 have hs:aBn (bU t now p).2 r:=hs
 have hr':aB _ (p.1,p.2.1,p.2.2.1,p.2.2.2.1,p.2.2.2.2.1,p.2.2.2.2.2.1,p.2.2.2.2.2.2.1,p.2.2.2.2.2.2.2.1,p.2.2.2.2.2.2.2.2.1,p.2.2.2.2.2.2.2.2.2)=some r:=hr
 rw [hr',aA]
 obtain ⟨a1,a2,a3,a4,a5,a6⟩:=hs.cur
 obtain ⟨g1,g2,g3⟩:=aF2 _ p hz
 have g1:cG r=true:=a1▸g1
 obtain ⟨i,j,k1,k2,k3,k4,k5⟩:=hP g1
 have hp1:idx r.2.2.2.1 r.2.2.2.2.1=some (bS r):=by rw [k1,aG];exact k3
 have hp2:dK (bS r) r.2.2.2.2.2.1=some (pEg (bS r) (cX r)):=by rw [k2];exact aVe k4 (aA4 (gB ht) k3)
 rw [hp1,aA]
 simp only [aM,hp2,aA]
 unfold bEa
 rw [a3,a4]

theorem bHr {t:den tTo} {now:Int}: ∀ (n:Nat) (p:den tPk),(goC t now n p).1<=5
 | 0,p=>by
  show dF t now p<=5
  unfold dF
  repeat' split
  all_goals decide
 | n+1,p=>by
  unfold goC
  split
  ·exact bHr n _
  ·show dF t now p<=5
   unfold dF
   repeat' split
   all_goals decide

theorem bIp {t:den tTo} {r now dead inn:Int} {p:den tPk} (h:(fwd t r now dead inn p).1=7):(bU t now p).1=0∧(fwd t r now dead inn p).2.2.2=bEa t now p:=by
 have hg:(bU t now p).1<=5:=bHr _ p
 unfold fwd at h ⊢
 split at h
 ·cases h
 ·rename_i c1
  rw [zS c1]
  split at h
  ·cases h
  ·rename_i c2
   rw [zS c2]
   split at h
   ·simp only at h;omega
   ·rename_i c3
    rw [zS c3]
    refine ⟨by simpa using c3,?_⟩
    split at h
    ·split at h<;>cases h
    ·rename_i c4
     rw [zS c4]
     split at h
     ·cases h
     ·rename_i c5
      rw [zS c5]
      split at h
      ·rename_i c6
       rw [zT c6]
       rfl
      ·cases h

theorem kinds {p:den tPk} (h:gX p=true) (h1:(p.1==1)=false) (h2:(p.1==2)=false):(p.1==3)=true:=by
 unfold gX at h
 rw [bZb] at h
 have hr:=bT.1 h.1
 have h1: ¬ p.1=(1:Int):=by simpa using h1
 have h2: ¬ p.1=(2:Int):=by simpa using h2
 have key: ∀ c:Int,1<=c→c<=3→ ¬ c=1→ ¬ c=2→c=3:=by intro c;omega
 have :p.1=(3:Int):=key p.1 hr.1 hr.2 h1 h2
 rw [this];rfl

theorem bRr {w:den tNw} {r:Int} {p:den tPk} (h:aBx w) (hp:aCk p) (hk:(p.1==1)=false) (hv:(p.1==2)=false→(p.1==3)=true):tC w r p=some (cB (wT w r p)):=by
 unfold tC jH.b ixb aI eE pj2 pj3 pj4 pj9 cO aN zz4 zz5 zz6 zz7 zz8 zz9
 rw [hk,zY]
 cases h2:p.1==2 with
 | true=>
  rw [zZ]
  refine bHx (w:=w) (r:=r) (p:=p) h2 h.flows h.flowsN (fun k f a ha hx hm hk'=> ?_) (fun a ha=> ?_)
  ·obtain ⟨d1,d2⟩:=aNb ha hk'
   have hw:wr ((k:Int)+1)=((k+1:Nat):Int):=(wri (by have :=h.flowsN;omega) (by have :=h.flowsN;omega)).trans (by omega)
   simp only [d1,d2,fI,bZi,hx,zZ,aA,aM,aZy (aS1 (h.flows f hm)),aV,bJ,aZ,aY,bA,hw]
   unfold rS
   rw [h2]
   cases f.1==r
   ·simp only [zY,bZd,zU,aA,aJ7 hx]
   ·simp only [zZ,zV,aA]
    rfl
  ·show cond (decide ((((aC w).length:Nat):Int)<(a.length:Int))) _ _=_
   rw [ha,zW (by omega)]
   rfl
 | false=>
  rw [zY,hv h2,zZ]
  simp only [aM,aS6 h2 h.flows h.flowsN hp.sz hp.by_,aA]

theorem bT3 {w:den tNw} {r:Int} {p:den tPk} (h:aBx w) (hp:aCk p) (hk:(p.1==1)=false) (hv:(p.1==2)=false→(p.1==3)=true):jH w r p=some (cB (wT w r p)):=by
 unfold jH jH.b ixb aI eE pj2 pj3 pj4 pj9 cO aN zz4 zz5 zz6 zz7 zz8 zz9
 rw [hk,zY]
 cases h2:p.1==2 with
 | true=>
  rw [zZ]
  refine bHx (w:=w) (r:=r) (p:=p) h2 h.flows h.flowsN (fun k f a ha hx hm hk'=> ?_) (fun a ha=> ?_)
  ·obtain ⟨d1,d2⟩:=aNb ha hk'
   have hw:wr ((k:Int)+1)=((k+1:Nat):Int):=(wri (by have :=h.flowsN;omega) (by have :=h.flowsN;omega)).trans (by omega)
   simp only [d1,d2,fI,bZi,hx,zZ,aA,aM,aZy (aS1 (h.flows f hm)),aV,bJ,aZ,aY,bA,hw]
   unfold rS
   rw [h2]
   cases f.1==r
   ·simp only [zY,bZd,zU,aA,aJ7 hx]
   ·simp only [zZ,zV,aA]
    rfl
  ·show cond (decide ((((aC w).length:Nat):Int)<(a.length:Int))) _ _=_
   rw [ha,zW (by omega)]
   rfl
 | false=>
  rw [zY,hv h2,zZ]
  simp only [aM,aS6 h2 h.flows h.flowsN hp.sz hp.by_,aA]

end Go.Proofs.YtecighmpdcffcaaGreat
