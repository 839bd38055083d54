/-
  Facts and plain laws: what the functions compute, in plain words. Conditions: as each says.
-/
import Derived.Test.YtecighmpdcffcaaGreatT0FnOrder
open List renaming length→bW9,mem_of_getElem?→bW6,nil_append→bXo,getElem?_cons_zero→bZo,getElem?_eq_getElem→bWu,length_take→bX6,length_append→bXp,length_singleton→bYg,mem_append→bW5,getElem?_eq_some_iff→bW1,map_cons→bXg,sum_cons→bYb,getLast?_concat→bZg,dropLast_concat→bZ6,length_nil→bY6,length_cons→bXy,append_assoc→bXt,singleton_append→bZu,append_nil→bX1,all_eq_true→bXk,mem_zipIdx_iff_getElem?→bZ9,length_filter_le→bZp,getElem?_drop→bYh,length_drop→bYx,getElem?_map→bY2
open Nat renaming le_trans→bWv,le_refl→bXb,zero_le→bXf
open Bool renaming eq_false_or_eq_true→bZe,true_and→bXe,eq_iff_iff→bXl,not_true→bWx,not_false→bW7,false_and→bXj,false_eq_true→bW2,and_eq_true→bWw,or_self→bYm,not_eq_true'→bXx,and_false→bYr,true_or→bYs,or_true→bYt,and_self→bZh
open Sum renaming elim_inl→bX4,elim_inr→bZf,inl→bWt,inr→bWs
open Int renaming toNat_natCast→bW4,tmod→bXr,toNat_of_nonneg→bYy,eq_ofNat_of_zero_le→bXq
open Option renaming getD_some→bXs
set_option linter.unusedVariables false
set_option linter.unusedSimpArgs false
set_option maxRecDepth 100000
namespace Go.Proofs.YtecighmpdcffcaaGreat
open Go.Ab Go.V
def inR (n a b:Int):Bool:=decide (a<=n)&&decide (n<=b)

theorem kN (n a b:Int):bC n a b=some (inR n a b):=by
 unfold bC inR
 by_cases h:a<=n<;>simp [h]

theorem iH (n a b:Int):aK n a b=some (inR n a b):=by
 unfold aK inR
 by_cases h:a<=n<;>simp [h]

theorem bJ {n a b:Int}:inR n a b=true↔a<=n∧n<=b:=by simp [inR]

theorem aYz {n a b:Int}:inR n a b=false↔ ¬ (a<=n∧n<=b):=by rw [← bJ];simp

theorem bOf (a b:Int):aEh a b=some (if b>a then b else a):=rfl

theorem bCs (a b:Int):aAs a b=some (if b>a then b else a):=by
 unfold aAs
 by_cases h:b>a<;>simp [h]

theorem bVa (a b:Int):aEy a b=some (if b<a then b else a):=rfl

theorem aTt (a b:Int):yJ a b=some (if b<a then b else a):=by
 unfold yJ
 by_cases h:b<a<;>simp [h]

theorem aE4 {b:List Int} (h:b.length<=68719476736):eA b=some b:=by
 unfold eA
 rw [aD (by decide) (by simpa using h)];simp

theorem aZl {l:cZ} (h:l.length<=68719476736):kO l=some l:=by
 unfold kO
 rw [aD (by decide) (by simpa using h)];simp

theorem aRb {l:lRv} (h:l.length<=68719476736):eE l=some l:=by
 unfold eE
 rw [aD (by decide) (by simpa using h)];simp

theorem aNn {p:den tPp} (h:SmB 68719476736 tPp p):oN p=some p:=by
 unfold oN
 rw [aD (by decide) (by simpa using h.2.2.2.1)];simp

theorem aMc {p:den tPt} (h:SmB 68719476736 tPt p):eH p=some p:=by
 unfold eH
 rw [(tO (fun k (a:lPp)=>((k:Int),a)) ((0:Int),[]) [] p (fun _ x a=>a++[x]) bW9 (fun _=>1) 68719476736 id rfl (bWv h.1 (by decide)) (by rw [eZ];simpa using h.1) (fun k x a hi hx hd hw hk hb=>by
  have e:=h.2 x (bW6 hx)
  simp only [hd,hi,hw,zZ,aA,aZl e.2.2.2.1,aM,aD (b:=48) (by decide) hb]
  simp) (fun a=>by simp)).1,jB (fun x=>x)]
 simp

theorem aE6 {p:den tPt} (h:SmB 68719476736 tPt p):iF p=some p:=by
 unfold iF pj4
 rw [(tO (fun k (a:lPp)=>((k:Int),a)) ((0:Int),[]) [] p (fun _ x a=>a++[x]) bW9 (fun _=>1) 68719476736 id rfl (bWv h.1 (by decide)) (by rw [eZ];simpa using h.1) (fun k x a hi hx hd hw hk hb=>by
  have e:=h.2 x (bW6 hx)
  simp only [hd,hi,hw,zZ,aA,aM,aNn e,aD (b:=48) (by decide) hb]
  simp) (fun a=>by simp)).1,jB (fun x=>x)]
 simp

theorem bKi {l:lPt} (h:SmB 68719476736 (.sl tPt) l):rW l=some l:=by
 unfold rW
 rw [(tO (fun k (a:lPt)=>((k:Int),a)) ((0:Int),[]) [] l (fun _ x a=>a++[x]) bW9 (fun _=>1) 68719476736 id rfl (bWv h.1 (by decide)) (by rw [eZ];simpa using h.1) (fun k x a hi hx hd hw hk hb=>by
  have e:=h.2 x (bW6 hx)
  simp only [hd,hi,hw,zZ,aA,aMc e,aD (b:=24) (by decide) hb]
  simp) (fun a=>by simp)).1,jB (fun x=>x)]
 simp

theorem bLa {l:lPt} (h:SmB 68719476736 (.sl tPt) l):wX l=some l:=by
 unfold wX
 rw [(tO (fun k (a:lPt)=>((k:Int),a)) ((0:Int),[]) [] l (fun _ x a=>a++[x]) bW9 (fun _=>1) 68719476736 id rfl (bWv h.1 (by decide)) (by rw [eZ];simpa using h.1) (fun k x a hi hx hd hw hk hb=>by
  have e:=h.2 x (bW6 hx)
  simp only [hd,hi,hw,zZ,aA,aE6 e,aD (b:=24) (by decide) hb]
  simp) (fun a=>by simp)).1,jB (fun x=>x)]
 simp

theorem aZq {l:lMs} (h:SmB 68719476736 (.sl tMs) l):iT l=some l:=by
 unfold iT
 rw [(tO (fun k (a:lMs)=>((k:Int),a)) ((0:Int),[]) [] l (fun _ x a=>a++[x]) bW9 (fun _=>1) 68719476736 id rfl (bWv h.1 (by decide)) (by rw [eZ];simpa using h.1) (fun k x a hi hx hd hw hk hb=>by
  have e:=h.2 x (bW6 hx)
  simp only [hd,hi,hw,zZ,aA,aE4 e.1,aD (b:=24) (by decide) hb]
  simp) (fun a=>by simp)).1,jB (fun x=>x)]
 simp

theorem aYi {l:lMs} (h:SmB 68719476736 (.sl tMs) l):pS l=some l:=by
 unfold pS
 rw [(tO (fun k (a:lMs)=>((k:Int),a)) ((0:Int),[]) [] l (fun _ x a=>a++[x]) bW9 (fun _=>1) 68719476736 id rfl (bWv h.1 (by decide)) (by rw [eZ];simpa using h.1) (fun k x a hi hx hd hw hk hb=>by
  have e:=h.2 x (bW6 hx)
  simp only [hd,hi,hw,zZ,aA,aD (b:=1) (n:=([]:List Int).length) (by decide) (by simpa using e.1),aD (b:=24) (by decide) hb]
  simp) (fun a=>by simp)).1,jB (fun x=>x)]
 simp


def nR (f:den tFl):q5:=(f.1,f.2.1,f.2.2.1,f.2.2.2.1,f.2.2.2.2.2.2.1,f.2.2.2.2.2.2.2.1,f.2.2.2.2.1,f.2.2.2.2.2.1,f.2.2.2.2.2.2.2.2)

theorem aH3 {f:den tFl} (h:SmB 68719476736 tFl f):eF f=some (nR f):=by
 unfold eF nR zz4 zz5 zz6 zz7 zz8
 simp only [aZq h.2.2.2.2.1,bKi h.2.2.2.2.2.1,aRb h.2.2.2.2.2.2.2.2.1,aA]

theorem aC8 {f:den tFl} (h:SmB 68719476736 tFl f):eL f=some (nR f):=by
 unfold eL nR zz4 zz5 zz6 zz7 zz8
 simp only [aYi h.2.2.2.2.1,bLa h.2.2.2.2.2.1,aA,aD (b:=24) (n:=([]:lRv).length) (by decide) (by simpa using h.2.2.2.2.2.2.2.2.1),zZ,bXo]

theorem bAc {x:den tIb} (h:SmB 68719476736 tIb x):nF x=some x:=by
 unfold nF
 simp only [aZq h.2.2.2,aA,aM]

theorem aYp {x:den tIb} (h:SmB 68719476736 tIb x):sK x=some x:=by
 unfold sK
 simp only [aYi h.2.2.2,aA,aM]

def dU (x:den tRv):Bool:=inR x.1 0 7&&(inR x.2.1 1 6&&inR x.2.2 0 1000000)

theorem aCn (x:den tRv):bU x=some (dU x):=by
 unfold bU dU
 simp only [kN,aA]
 cases inR x.1 0 7<;>cases inR x.2.1 1 6<;>cases inR x.2.2 0 1000000<;>rfl

theorem aC0 (x:den tRv):bV x=some (dU x):=by
 unfold bV dU
 simp only [iH,aA]
 cases inR x.1 0 7<;>cases inR x.2.1 1 6<;>cases inR x.2.2 0 1000000<;>rfl


theorem aDo {α S:Type} (p:Nat→α→Bool): ∀ (l:List α) (k:Nat) (ρ:S),cE (fun k x=>if p k x then none else some ρ) k l=if (l.zipIdx k).all (fun x=>p x.2 x.1) then none else some ρ
 | [],_,_=>rfl
 | x::xs,k,ρ=>by
  simp only [cE,List.zipIdx_cons,List.all_cons]
  rcases bZe (p k x) with h | h
  ·simp only [h,zV,bXe];exact aDo p xs (k+1) ρ
  ·simp [h]

theorem aYs {α:Type} (p:α→Bool): ∀ (l:List α) (k:Nat),(l.zipIdx k).all (fun x=>p x.1)=l.all p
 | [],_=>rfl
 | x::xs,k=>by simp [List.zipIdx_cons,aYs p xs]

theorem oD {α S:Type} (p:α→Bool) (l:List α) (ρ:S):cE (fun _ x=>if p x then none else some ρ) 0 l=if l.all p then none else some ρ:=by
 rw [aDo (fun _ x=>p x),aYs p]

def eQ (f:den tFl):Bool:=
 inR f.1 0 7&&(inR f.2.1 0 7&&(!(f.1==f.2.1)&&(inR f.2.2.1 0 100000&&(decide (f.2.2.2.2.1.length<=20)&&(inR f.2.2.2.1 0 (f.2.2.2.2.1.length:Int)&&(decide (f.2.2.2.2.2.1.length<=24)&&
  (f.2.2.2.2.1.all (fun m=>decide (m.length<=40))&&(f.2.2.2.2.2.2.2.2.all dU&&((f.2.2.2.2.2.2.1==0||inR f.2.2.2.2.2.2.1 0 ((f.2.2.2.2.2.1.length:Int) - 1))&&(inR f.2.2.2.2.2.2.2.1 0 4&&decide (f.2.2.2.2.2.2.2.2.length<=16)))))))))))

theorem aXh {f:den tFl} (h:SmB 68719476736 tFl f):lP f=some (eQ f):=by
 have h1:=h.2.2.2.2.1.1
 have h2:=h.2.2.2.2.2.1.1
 have h3:=h.2.2.2.2.2.2.2.2.1
 unfold lP eQ pj3 zz4 zz5 zz6 zz7 zz8
 rw [aX (l:=f.2.2.2.2.1) (fun _ m=>if decide (m.length<=40) then none else some false) (by omega) (fun k m hi hd hw hx hk=>by
  simp only [hd,hi,hw,zZ,aA]
  by_cases hm:m.length<=40
  ·simp [hm,show ¬ ((m.length:Int)>40) by omega]
  ·simp [hm,show (m.length:Int)>40 by omega]) (by simp)]
 rw [aX (l:=f.2.2.2.2.2.2.2.2) (fun _ x=>if dU x then none else some false) (by omega) (fun k x hi hd hw hx hk=>by
  simp only [hd,hi,hw,zZ,aA,aM,aCn]
  cases dU x<;>rfl) (by simp)]
 rw [oD (fun m:List Int=>decide (m.length<=40)),oD dU]
 have e1:decide ((f.2.2.2.2.1.length:Int)>20)= !decide (f.2.2.2.2.1.length<=20):=by rw [bXl];simp;omega
 have e2:decide ((f.2.2.2.2.2.1.length:Int)>24)= !decide (f.2.2.2.2.2.1.length<=24):=by rw [bXl];simp;omega
 have e3:decide ((f.2.2.2.2.2.2.2.2.length:Int)<=16)=decide (f.2.2.2.2.2.2.2.2.length<=16):=by rw [bXl];simp;omega
 have e5:wr ((f.2.2.2.2.2.1.length:Int) - 1)=(f.2.2.2.2.2.1.length:Int) - 1:=wri (by omega) (by omega)
 rw [e5]
 simp only [kN,aA,e1,e2,e3]
 cases inR f.1 0 7<;>simp only [bWx,bW7,zZ,zY,aA,bXj,bXe]
 cases inR f.2.1 0 7<;>simp only [bWx,bW7,zZ,zY,aA,bXj,bXe]
 cases f.1==f.2.1<;>simp only [bWx,bW7,zZ,zY,aA,bXj,bXe]
 cases inR f.2.2.1 0 100000<;>simp only [bWx,bW7,zZ,zY,aA,bXj,bXe]
 cases decide (f.2.2.2.2.1.length<=20)<;>simp only [bWx,bW7,zZ,zY,aA,bXj,bXe]
 cases inR f.2.2.2.1 0 (f.2.2.2.2.1.length:Int)<;>simp only [bWx,bW7,zZ,zY,aA,bXj,bXe]
 cases decide (f.2.2.2.2.2.1.length<=24)<;>simp only [bWx,bW7,zZ,zY,aA,bXj,bXe]
 cases f.2.2.2.2.1.all (fun m=>decide (m.length<=40))<;>simp only [bW2,zV,zU,aA,bX4,bZf,bXj,bXe]
 cases f.2.2.2.2.2.2.2.2.all dU<;>simp only [bW2,zV,zU,aA,bX4,bZf,bXj,bXe]
 cases f.2.2.2.2.2.2.1==0<;>cases inR f.2.2.2.2.2.2.1 0 ((f.2.2.2.2.2.1.length:Int) - 1)<;>cases inR f.2.2.2.2.2.2.2.1 0 4<;>rfl

theorem aWu {f:den tFl} (h:SmB 68719476736 tFl f):mB f=some (eQ f):=by
 have h1:=h.2.2.2.2.1.1
 have h2:=h.2.2.2.2.2.1.1
 have h3:=h.2.2.2.2.2.2.2.2.1
 unfold mB eQ pj3 zz4 zz5 zz6 zz7 zz8
 rw [aX (l:=f.2.2.2.2.1) (fun _ m=>if decide (m.length<=40) then none else some false) (by omega) (fun k m hi hd hw hx hk=>by
  simp only [hd,hi,hw,zZ,aA]
  by_cases hm:m.length<=40
  ·simp [hm,show ¬ ((m.length:Int)>40) by omega]
  ·simp [hm,show (m.length:Int)>40 by omega]) (by simp)]
 rw [aX (l:=f.2.2.2.2.2.2.2.2) (fun _ x=>if dU x then none else some false) (by omega) (fun k x hi hd hw hx hk=>by
  simp only [hd,hi,hw,zZ,aA,aM,aC0]
  cases dU x<;>rfl) (by simp)]
 rw [oD (fun m:List Int=>decide (m.length<=40)),oD dU]
 have e1:decide ((f.2.2.2.2.1.length:Int)>20)= !decide (f.2.2.2.2.1.length<=20):=by rw [bXl];simp;omega
 have e2:decide ((f.2.2.2.2.2.1.length:Int)>24)= !decide (f.2.2.2.2.2.1.length<=24):=by rw [bXl];simp;omega
 have e3:decide ((f.2.2.2.2.2.2.2.2.length:Int)>16)= !decide (f.2.2.2.2.2.2.2.2.length<=16):=by rw [bXl];simp;omega
 have e4:inR f.2.2.2.2.2.2.1 0 (if ((f.2.2.2.2.2.1.length:Int) - 1)>0 then ((f.2.2.2.2.2.1.length:Int) - 1) else 0)=(f.2.2.2.2.2.2.1==0||inR f.2.2.2.2.2.2.1 0 ((f.2.2.2.2.2.1.length:Int) - 1)):=by
  have key: ∀ (c n:Int),0<=n→inR c 0 (if n - 1>0 then n - 1 else 0)=(c==0||inR c 0 (n - 1)):=fun c n hn=>by
   unfold inR
   by_cases h1:n - 1>0
   ·rw [zT h1]
    by_cases h2:c=0
    ·subst h2;simp;omega
    ·simp [h2]
   ·rw [zS h1]
    by_cases h2:c=0
    ·subst h2;simp
    ·rw [bXl];simp [h2];omega
  exact key _ _ (by omega)
 have e5:wr ((f.2.2.2.2.2.1.length:Int) - 1)=(f.2.2.2.2.2.1.length:Int) - 1:=wri (by omega) (by omega)
 rw [e5]
 simp only [iH,bCs,aA,e1,e2,e3,e4]
 cases inR f.1 0 7<;>simp only [bWx,bW7,zZ,zY,aA,bXj,bXe]
 cases inR f.2.1 0 7<;>simp only [bWx,bW7,zZ,zY,aA,bXj,bXe]
 cases f.1==f.2.1<;>simp only [bWx,bW7,zZ,zY,aA,bXj,bXe]
 cases inR f.2.2.1 0 100000<;>simp only [bWx,bW7,zZ,zY,aA,bXj,bXe]
 cases decide (f.2.2.2.2.1.length<=20)<;>simp only [bWx,bW7,zZ,zY,aA,bXj,bXe]
 cases inR f.2.2.2.1 0 (f.2.2.2.2.1.length:Int)<;>simp only [bWx,bW7,zZ,zY,aA,bXj,bXe]
 cases decide (f.2.2.2.2.2.1.length<=24)<;>simp only [bWx,bW7,zZ,zY,aA,bXj,bXe]
 cases f.2.2.2.2.2.2.1==0||inR f.2.2.2.2.2.2.1 0 ((f.2.2.2.2.2.1.length:Int) - 1)<;>cases inR f.2.2.2.2.2.2.2.1 0 4<;>cases decide (f.2.2.2.2.2.2.2.2.length<=16)<;>cases f.2.2.2.2.1.all (fun m=>decide (m.length<=40))<;>cases f.2.2.2.2.2.2.2.2.all dU<;>rfl

def aIy (a b:List Int):Bool:=(xA a).toList==(xA b).toList

theorem bPl (a b:List Int):tC a b=some (aIy a b):=rfl

def yX:lMs→lMs→Bool
 | [],_=>true
 | _::_,[]=>true
 | a::as,b::bs=>aIy a b&&yX as bs


def aT6 {α S:Type} (p:α→α→Bool) (l:List α) (ρ:S) (k:Nat) (x:α):Option S:=Option.elim l[k]? none fun y=>if p x y then none else some ρ


theorem bM3 {α S:Type} (p:α→α→Bool) (q:List α→List α→Bool) (h0: ∀ b,q [] b=true) (h1: ∀ x a y b,q (x::a) (y::b)=(p x y&&q a b)) (ρ:S): ∀ (a b:List α),a.length<=b.length→ ∀ (k:Nat) (l:List α),(∀ j,b[j]? =l[k+j]?)→cE (aT6 p l ρ) k a=if q a b then none else some ρ
 | [],b,_,k,l,_=>by rw [h0];rfl
 | x::a,[],h,_,_,_=>by simp at h
 | x::a,y::b,h,k,l,hl=>by
  have e0:=hl 0
  simp only [Nat.add_zero,bZo] at e0
  simp only [cE,aT6,← e0,h1,Option.elim_some]
  rcases bZe (p x y) with hp | hp
  ·simp only [hp,zV,bXe]
   exact bM3 p q h0 h1 ρ a b (by simpa using h) (k+1) l fun j=>by
    have :=hl (j+1)
    rw [List.getElem?_cons_succ] at this
    rw [this];congr 1;omega
  ·simp [hp]

theorem bH6 {a b:lMs} (ha:a.length<=68719476736) (hb:b.length<=68719476736):lE a b=some (decide (a.length=b.length)&&yX a b):=by
 unfold lE
 by_cases hl:a.length=b.length
 ·have h0:((a.length:Int) != (b.length:Int))=false:=by simp [hl]
  rw [h0,zY,aX (l:=a) (aT6 aIy b false) (by omega) (fun k x hi hd hw hx hk=>by
    have hy:b[k]? =some b[k]:=bWu (by omega)
    simp only [hd,hi,hw,zZ,aA,aH,hy,bPl,aT6,Option.elim_some]
    cases aIy x b[k]<;>rfl) (by simp)]
  rw [bM3 aIy yX (fun b=>by cases b<;>rfl) (fun _ _ _ _=>rfl) false a b (by omega) 0 b (fun j=>by rw [Nat.zero_add])]
  cases yX a b<;>simp [hl]
 ·have h0:((a.length:Int) != (b.length:Int))=true:=by simp;omega
  rw [h0,zZ];simp [hl]

def aFe (f:den tFl) (x:den tIb):Bool:=
 x.1==f.2.1&&(x.2.1==f.1&&(decide (x.2.2.2.length<=f.2.2.2.2.1.length)&&(yX x.2.2.2 f.2.2.2.2.1&&decide ((x.2.2.2.length:Int)>=f.2.2.2.1))))

theorem aHo: ∀ (a b:lMs),yX a (b.take a.length)=yX a b
 | [],b=>by cases b<;>rfl
 | x::a,[]=>rfl
 | x::a,y::b=>by simp [yX,aHo a b]

theorem aR6 {f:den tFl} {x:den tIb} (hf:f.2.2.2.2.1.length<=68719476736) (hx:x.2.2.2.length<=68719476736):eW f x=some (aFe f x):=by
 unfold eW aFe zz4
 cases x.1==f.2.1
 ·rfl
 cases x.2.1==f.1
 ·rfl
 by_cases hl:x.2.2.2.length<=f.2.2.2.2.1.length
 ·have h1:decide ((x.2.2.2.length:Int)<=(f.2.2.2.2.1.length:Int))=true:=by simpa using hl
  have h2:bY (0:Int) (x.2.2.2.length:Int) (f.2.2.2.2.1.length:Int)=true:=by simp [bY];omega
  rw [h1,h2,gN,bH6 hx (by rw [bX6];omega),aHo]
  have h3:decide (x.2.2.2.length=(List.take x.2.2.2.length f.2.2.2.2.1).length)=true:=by simp [bX6];omega
  rw [h3]
  simp only [zZ,aA,bXe,zX hl]
  cases yX x.2.2.2 f.2.2.2.2.1<;>rfl
 ·have h1:decide ((x.2.2.2.length:Int)<=(f.2.2.2.2.1.length:Int))=false:=by simp;omega
  rw [h1]
  simp [hl]

def yI (x:den tIb) (p:den tPk):Bool:=p.1==1&&(p.2.1==x.2.1&&p.2.2.1==x.1)

theorem aYu (x:den tIb) (p:den tPk):sL x p=some (yI x p):=by
 unfold sL yI
 cases p.1==1<;>cases p.2.1==x.2.1<;>rfl

theorem aZa (x:den tIb) (p:den tPk):vK x p=some (yI x p):=by
 unfold vK yI
 cases p.1==1<;>cases p.2.1==x.2.1<;>rfl

def aN9 (x:den tIb) (p:den tPk):Bool:=yI x p&&(p.2.2.2.2.2.2.2.2.1==x.2.2.1&&decide (x.2.2.1<20))

def dE (x:den tIb) (p:den tPk):den tIb:=if aN9 x p then (x.1,x.2.1,wr (x.2.2.1+1),x.2.2.2++[p.2.2.2.2.2.2.2.2.2]) else x

theorem bQ0 {x:den tIb} {p:den tPk} (hx:SmB 4294967296 tIb x) (hp:SmB 4294967296 tPk p):nX x p=some (dE x p):=by
 have hx':SmB 68719476736 tIb x:=hx.mono (by decide)
 have hp':=(hp.mono (C:=68719476736) (by decide)).2.2.2.2.2.2.2.2.2.1
 unfold nX dE aN9 aI pj4 zz8 zz9
 have ha:=hx.2.2.2.1
 simp only [aM,bAc hx',aYu,aE4 hp',aA,aD (b:=24) (n:=x.2.2.2.length) (m:=1) (by decide) (by omega),zZ]
 cases yI x p<;>cases p.2.2.2.2.2.2.2.2.1==x.2.2.1<;>cases decide (x.2.2.1<20)<;>rfl

theorem bO6 {x:den tIb} {p:den tPk} (hx:SmB 4294967296 tIb x) (hp:SmB 4294967296 tPk p):nV x p=some (dE x p):=by
 have hx':SmB 68719476736 tIb x:=hx.mono (by decide)
 have hp':=(hp.mono (C:=68719476736) (by decide)).2.2.2.2.2.2.2.2.2.1
 unfold nV dE aN9 aI pj4 zz8 zz9
 have ha:=hx.2.2.2.1
 simp only [aM,aYp hx',aZa,aA,aD (b:=1) (n:=([]:List Int).length) (by decide) (by simpa using hp'),aD (b:=24) (n:=x.2.2.2.length) (m:=1) (by decide) (by omega),zZ,bXo]
 cases yI x p<;>cases p.2.2.2.2.2.2.2.2.1==x.2.2.1<;>cases decide (x.2.2.1<20)<;>rfl

theorem bHw (x:den tIb) (p:den tPk):tot (.sl tMs) (dE x p).2.2.2<=tot (.sl tMs) x.2.2.2+1+tot (.sl tb) p.2.2.2.2.2.2.2.2.2:=by
 unfold dE
 split
 ·rw [sQ,aFb]
  show _+(1+tot (.sl tb) _)<=_
  omega
 ·omega

def aM8 (f:den tFl) (p:den tPk):Bool:=p.1==2&&(p.2.1==f.2.1&&(p.2.2.1==f.1&&(p.2.2.2.2.2.2.2.2.1==f.2.2.2.1&&inR f.2.2.2.1 0 ((f.2.2.2.2.1.length:Int) - 1))))

def tK (f:den tFl) (p:den tPk):den tFl:=if aM8 f p then (f.1,f.2.1,f.2.2.1,wr (f.2.2.2.1+1),f.2.2.2.2.1,f.2.2.2.2.2.1,f.2.2.2.2.2.2.1,0,f.2.2.2.2.2.2.2.2) else f

theorem bO2 {f:den tFl} {p:den tPk} (hf:SmB 68719476736 tFl f):sG f p=some (nR (tK f p)):=by
 unfold sG tK aM8 pj3 pj9 zz4 zz5 zz6 zz8
 have e5:wr ((f.2.2.2.2.1.length:Int) - 1)=(f.2.2.2.2.1.length:Int) - 1:=wri (by have :=hf.2.2.2.2.1.1;omega) (by have :=hf.2.2.2.2.1.1;omega)
 simp only [aM,aH3 hf,aA,kN,e5]
 cases p.1==2<;>cases p.2.1==f.2.1<;>cases p.2.2.1==f.1<;>cases p.2.2.2.2.2.2.2.2.1==f.2.2.2.1<;>cases inR f.2.2.2.1 0 ((f.2.2.2.2.1.length:Int) - 1)<;>rfl

theorem aZc {f:den tFl} {p:den tPk} (hf:SmB 68719476736 tFl f):pU f p=some (nR (tK f p)):=by
 unfold pU tK aM8 pj3 pj9 zz4 zz5 zz6 zz8
 have e5:wr ((f.2.2.2.2.1.length:Int) - 1)=(f.2.2.2.2.1.length:Int) - 1:=wri (by have :=hf.2.2.2.2.1.1;omega) (by have :=hf.2.2.2.2.1.1;omega)
 simp only [aM,aC8 hf,aA,iH,e5]
 cases p.1==2<;>cases p.2.1==f.2.1<;>cases p.2.2.1==f.1<;>cases p.2.2.2.2.2.2.2.2.1==f.2.2.2.1<;>cases inR f.2.2.2.1 0 ((f.2.2.2.2.1.length:Int) - 1)<;>rfl

theorem aX2 (f:den tFl) (p:den tPk):(tK f p).2.2.2.2.1=f.2.2.2.2.1∧(tK f p).2.2.2.2.2.1=f.2.2.2.2.2.1∧(tK f p).2.2.2.2.2.2.2.2=f.2.2.2.2.2.2.2.2:=by
 unfold tK
 split<;>exact ⟨rfl,rfl,rfl⟩

def enq (f:den tFl) (b:List Int):den tFl:=(f.1,f.2.1,f.2.2.1,f.2.2.2.1,f.2.2.2.2.1++[b],f.2.2.2.2.2.1,f.2.2.2.2.2.2.1,f.2.2.2.2.2.2.2.1,f.2.2.2.2.2.2.2.2)

def aNm (f:den tFl) (b:List Int):Int×Int×Int×Int×Int×Int×Bool×lMs×lPt×lRv:=
 if eQ (enq f b) then (f.1,f.2.1,f.2.2.1,f.2.2.2.1,f.2.2.2.2.2.2.1,f.2.2.2.2.2.2.2.1,true,f.2.2.2.2.1++[b],f.2.2.2.2.2.1,f.2.2.2.2.2.2.2.2)
 else (f.1,f.2.1,f.2.2.1,f.2.2.2.1,f.2.2.2.2.2.2.1,f.2.2.2.2.2.2.2.1,false,f.2.2.2.2.1,f.2.2.2.2.2.1,f.2.2.2.2.2.2.2.2)

theorem bEa {f:den tFl} {b:List Int} (hf:SmB 4294967296 tFl f) (hb:SmB 4294967296 (.sl tb) b):SmB 68719476736 tFl (enq f b):=by
 have hf':=hf.mono (C:=68719476736) (by decide)
 refine ⟨hf'.1,hf'.2.1,hf'.2.2.1,hf'.2.2.2.1,⟨?_,fun e he=> ?_⟩,hf'.2.2.2.2.2.1,hf'.2.2.2.2.2.2.1,hf'.2.2.2.2.2.2.2.1,hf'.2.2.2.2.2.2.2.2⟩
 ·show (f.2.2.2.2.1++[b]).length<=_
  have :=hf.2.2.2.2.1.1
  rw [bXp,bYg];omega
 ·rcases bW5.1 he with he | he
  ·exact hf'.2.2.2.2.1.2 e he
  ·rw [List.mem_singleton.1 he];exact hb.mono (by decide)

theorem bVh {f:den tFl} {b:List Int} (hf:SmB 4294967296 tFl f) (hb:SmB 4294967296 (.sl tb) b):wY f b=some (aNm f b):=by
 unfold wY aNm pj2 pj3 pj9 zz4 zz5 zz6 zz7 zz8
 have hf':=hf.mono (C:=68719476736) (by decide)
 have h1:=hf.2.2.2.2.1.1
 have h2:lP (f.1,f.2.1,f.2.2.1,f.2.2.2.1,f.2.2.2.2.1++[b],f.2.2.2.2.2.1,f.2.2.2.2.2.2.1,f.2.2.2.2.2.2.2.1,f.2.2.2.2.2.2.2.2)=some (eQ (enq f b)):=aXh (f:=enq f b) (bEa hf hb)
 simp only [aM,aH3 hf',aE4 (b:=b) (bWv hb.1 (by decide)),aA,nR,aD (b:=24) (n:=f.2.2.2.2.1.length) (m:=1) (by decide) (by omega),zZ,h2]
 cases eQ (enq f b)<;>rfl

theorem bL6 {f:den tFl} {b:List Int} (hf:SmB 4294967296 tFl f) (hb:SmB 4294967296 (.sl tb) b):pY f b=some (aNm f b):=by
 unfold pY aNm pj2 pj3 pj9 zz4 zz5 zz6 zz7 zz8
 have hf':=hf.mono (C:=68719476736) (by decide)
 have h1:=hf.2.2.2.2.1.1
 have h2:mB (f.1,f.2.1,f.2.2.1,f.2.2.2.1,f.2.2.2.2.1++[b],f.2.2.2.2.2.1,f.2.2.2.2.2.2.1,f.2.2.2.2.2.2.2.1,f.2.2.2.2.2.2.2.2)=some (eQ (enq f b)):=aWu (f:=enq f b) (bEa hf hb)
 simp only [aM,aC8 hf',aA,nR,aD (b:=1) (n:=([]:List Int).length) (m:=b.length) (by decide) (by have :=hb.1;simp;omega),aD (b:=24) (n:=f.2.2.2.2.1.length) (m:=1) (by decide) (by omega),zZ,bXo,h2]
 cases eQ (enq f b)<;>rfl

def jQ (k:Int):Bool:=k==1||k==3

theorem aL8 (k:Int):dG k=some (jQ k):=by
 unfold dG jQ
 cases k==1<;>rfl

theorem aCr (k:Int):dF k=some (jQ k):=by
 unfold dF jQ
 cases k==1<;>rfl

def pIn (p:den tPp) (h:den cG):Int:=if jQ p.1 then h.2.2.1 else h.2.1

def pEg (p:den tPp) (h:den cG):Int:=if jQ p.1 then h.2.1 else h.2.2.1

theorem mD {n:Nat} (h:n<=68719476736):wr ((n:Int) - 1)=(n:Int) - 1:=wri (by omega) (by omega)

theorem aMi {k n:Nat} (h:k<n):inR (k:Int) 0 ((n:Int) - 1)=true:=by rw [bJ];omega

theorem bC1 {p:den tPp} {k:Nat} {h:den cG} (hk:p.2.2.2[k]? =some h) (hl:p.2.2.2.length<=68719476736):fE p (k:Int)=some (pIn p h):=by
 have hlt:k<p.2.2.2.length:=(bW1.1 hk).1
 unfold fE pIn
 simp only [kN,mD hl,aMi hlt,aA,bWx,zY,aL8,aH,hk]
 cases jQ p.1<;>rfl

theorem bD3 {p:den tPp} {k:Nat} {h:den cG} (hk:p.2.2.2[k]? =some h) (hl:p.2.2.2.length<=68719476736):eU p (k:Int)=some (pIn p h):=by
 have hlt:k<p.2.2.2.length:=(bW1.1 hk).1
 unfold eU pIn
 simp only [iH,mD hl,aMi hlt,aA,bWx,zY,aCr,aH,hk]
 cases jQ p.1<;>rfl

theorem bB8 {p:den tPp} {k:Nat} {h:den cG} (hk:p.2.2.2[k]? =some h) (hl:p.2.2.2.length<=68719476736):fO p (k:Int)=some (pEg p h):=by
 have hlt:k<p.2.2.2.length:=(bW1.1 hk).1
 unfold fO pEg
 simp only [kN,mD hl,aMi hlt,aA,bWx,zY,aL8,aH,hk]
 cases jQ p.1<;>rfl

theorem aUo {p:den tPp} {k:Nat} {h:den cG} (hk:p.2.2.2[k]? =some h) (hl:p.2.2.2.length<=68719476736):dH p (k:Int)=some (pEg p h):=by
 have hlt:k<p.2.2.2.length:=(bW1.1 hk).1
 unfold dH pEg
 simp only [iH,mD hl,aMi hlt,aA,bWx,zY,aCr,aH,hk]
 cases jQ p.1<;>rfl

def yC (nf:Bool) (p:den tPp) (i:Nat) (h:den cG) (out:dK):dK:=
 match out.getLast? with
 | some z=>if nf&&(decide (i=0)&&z.1==h.1) then out.dropLast++[(h.1,z.2.1,pEg p h)] else out++[(h.1,pIn p h,pEg p h)]
 | none=>out++[(h.1,pIn p h,pEg p h)]

theorem aNz (nf:Bool) (p:den tPp) (i:Nat) (h:den cG) (out:dK):(yC nf p i h out).length<=out.length+1:=by
 unfold yC
 split
 ·split
  ·simp only [bXp,List.length_dropLast,bYg];omega
  ·simp
 ·simp

def rF (nf:Bool) (p:den tPp) (a:dK):dK:=cN (fun i h b=>yC nf p i h b) 0 p.2.2.2 a

def aAq (p:den tPt):dK:=cN (fun k x a=>rF (decide (0<k)) x a) 0 p []

def aHm (l:dK):dK:=
 match l with
 | []=>[]
 | x::xs=>let m:=(x.1,0,x.2.2)::xs
  match m.getLast? with
  | some y=>m.dropLast++[(y.1,y.2.1,0)]
  | none=>[]

def gT (p:den tPt):dK:=aHm (aAq p)

theorem bJr (l:dK):(aHm l).length=l.length:=by
 unfold aHm
 split
 ·rfl
 ·rename_i x xs
  simp only
  rw [List.getLast?_eq_some_getLast (by simp)]
  simp

theorem aI6 (p:den tPt):(p.map fun x=>x.2.2.2.length).sum<=tot tPt p:=by
 show _<=tot (.sl tPp) p
 rw [← aQ7]
 induction p with
 | nil=>exact bXb _
 | cons x p ih=>
  simp only [bXg,bYb]
  have h1:x.2.2.2.length<=tot tPp x:=by
   show _<=tot ti x.1+(tot ti x.2.1+(tot ti x.2.2.1+tot (.sl cG) x.2.2.2))
   rw [jU rfl];omega
  omega

theorem bFp {n:Nat} (h:n<=68719476736) (h0:0<n):wr ((n:Int) - 1)=((n - 1:Nat):Int):=by
 rw [mD h];omega

theorem aEz {α:Type} {m:List α} {z:α} (h:(m++[z]).length<=68719476736):wr (((m++[z]).length:Int) - 1)=(m.length:Int):=by
 rw [bFp h (by simp)];simp

theorem aLd (nf:Bool) (p:den tPp) (a:dK):(rF nf p a).length<=a.length+p.2.2.2.length:=by
 have :=aBs (m:=bW9) (cost:=fun _=>1) (fun i h b=>aNz nf p i h b) p.2.2.2 0 a
 rw [eZ] at this
 exact this

theorem aI8 (p:den tPt):(aAq p).length<=tot tPt p:=by
 have :=aBs (m:=bW9) (cost:=fun x:den tPp=>x.2.2.2.length) (fun k x a=>aLd (decide (0<k)) x a) p 0 []
 have h2:=aI6 p
 have h3:(aAq p).length<=0+(p.map fun x=>x.2.2.2.length).sum:=this
 omega

theorem aBt (p:den tPt):(gT p).length<=tot tPt p:=by
 unfold gT;rw [bJr];exact aI8 p

theorem aZd (k:Nat):decide ((k:Int)>0)=decide (0<k):=by rw [bXl];simp

theorem aW0 (i:Nat):((i:Int)==0)=decide (i=0):=by rw [bXl];simp

theorem aVx (nf:Bool) (p:den tPp) (i:Nat) (h:den cG):yC nf p i h []=[(h.1,pIn p h,pEg p h)]:=rfl

theorem aR8 (nf:Bool) (p:den tPp) (i:Nat) (h:den cG) (m:dK) (z:den yK):yC nf p i h (m++[z])=if nf&&(decide (i=0)&&z.1==h.1) then m++[(h.1,z.2.1,pEg p h)] else (m++[z])++[(h.1,pIn p h,pEg p h)]:=by
 unfold yC
 rw [bZg,bZ6]

theorem aSl {m:dK} {x z:den yK} {xs:dK} (h:(x.1,(0:Int),x.2.2)::xs=m++[z]):aHm (x::xs)=m++[(z.1,z.2.1,0)]:=by
 unfold aHm
 simp only
 rw [h,bZg,bZ6]

theorem aRw {p:den tPt} (h:tot tPt p<=34359738368):kD p=some (gT p):=by
 have hs:=aI6 p
 have sm:SmB 34359738368 tPt p:=bG h
 have hl:=aI8 p
 unfold kD ixb pj4
 rw [nU (fun k (a:dK)=>((k:Int),a)) ((0:Int),[]) [] p (fun k x a=>rF (decide (0<k)) x a) bW9 (fun x=>x.2.2.2.length) 34359738368 id rfl (bWv sm.1 (by decide)) (by simp only [bY6];omega) (fun k x a=>aLd _ x a) (fun k x a hi hx hd hw hk hb=>by
  have hxl:x.2.2.2.length<=34359738368:=(sm.2 x (bW6 hx)).2.2.2.1
  simp only [hd,hi,hw,zZ,aA]
  rw [nU (fun i (b:dK)=>((i:Int),b)) ((0:Int),a) a x.2.2.2 (fun i h b=>yC (decide (0<k)) x i h b) bW9 (fun _=>1) 34359738368 id rfl (bWv hxl (by decide)) (by rw [eZ];exact hb) (fun i h b=>aNz _ x i h b) (fun i g b hi2 hg hd2 hw2 hk2 hb2=>by
   have hl2:x.2.2.2.length<=68719476736:=by omega
   simp only [hd2,hi2,hw2,zZ,aA,aM,bC1 hg hl2,bB8 hg hl2,aZd,aW0,aD (b:=24) (n:=b.length) (m:=1) (by decide) (by omega)]
   rcases mH b with rfl | ⟨m,z,rfl⟩
   ·rw [aVx]
    cases decide (0<k)<;>cases decide (i=0)<;>rfl
   ·rw [aR8,aEz (by omega)]
    simp only [fG,bJa,aFc,aJd,zZ,bW4,aA,aNc]
    cases decide (0<k)<;>cases decide (i=0)<;>cases hz:z.1==g.1<;>simp [hz]
    simpa using hz) (fun b=>by simp)]
  rfl) (fun a=>by simp)]
 simp only [aA,id]
 rw [show cN (fun k x a=>rF (decide (0<k)) x a) 0 p []=aAq p from rfl]
 show _=some (aHm (aAq p))
 generalize aAq p=l at hl
 cases l with
 | nil=>rfl
 | cons x xs=>
  have e1:decide ((((x::xs).length:Nat):Int)>0)=true:=by simp
  have e2:decide ((0:Int)<(((x::xs).length:Nat):Int))=true:=by simp
  have e3:(0:Int).toNat=0:=rfl
  have e4:decide ((0:Int)<=0)=true:=rfl
  simp only [e1,e2,e3,e4,zZ,bZo,aA,List.set_cons_zero]
  rcases mH ((x.1,(0:Int),x.2.2)::xs) with h0 | ⟨m,z,hm⟩
  ·cases h0
  ·have hlen:((x.1,(0:Int),x.2.2)::xs).length=(x::xs).length:=rfl
   rw [aSl hm]
   rw [hm] at hlen ⊢
   rw [aEz (by omega)]
   simp only [fG,aFc,aJd,zZ,bW4,aA,aNc]

theorem aE7 {p:den tPt} (h:tot tPt p<=34359738368):eJ p=some (gT p):=by
 have hs:=aI6 p
 have sm:SmB 34359738368 tPt p:=bG h
 have hl:=aI8 p
 unfold eJ ixb pj4
 rw [nU (fun k (a:dK)=>((k:Int),a)) ((0:Int),[]) [] p (fun k x a=>rF (decide (0<k)) x a) bW9 (fun x=>x.2.2.2.length) 34359738368 id rfl (bWv sm.1 (by decide)) (by simp only [bY6];omega) (fun k x a=>aLd _ x a) (fun k x a hi hx hd hw hk hb=>by
  have hxl:x.2.2.2.length<=34359738368:=(sm.2 x (bW6 hx)).2.2.2.1
  simp only [hd,hi,hw,zZ,aA]
  rw [nU (fun i (b:dK)=>((i:Int),b)) ((0:Int),a) a x.2.2.2 (fun i h b=>yC (decide (0<k)) x i h b) bW9 (fun _=>1) 34359738368 id rfl (bWv hxl (by decide)) (by rw [eZ];exact hb) (fun i h b=>aNz _ x i h b) (fun i g b hi2 hg hd2 hw2 hk2 hb2=>by
   have hl2:x.2.2.2.length<=68719476736:=by omega
   simp only [hd2,hi2,hw2,zZ,aA,aM,bD3 hg hl2,aUo hg hl2,aV,bK,bA,aZ,bD,aZd,aW0]
   rcases mH b with rfl | ⟨m,z,rfl⟩
   ·rw [aVx]
    cases decide (0<k)<;>cases decide (i=0)<;>rfl
   ·rw [aR8,aEz (by omega)]
    have e1:decide (((m++[z]).length:Int)>0)=true:=by simp
    have e2:bY (0:Int) (m.length:Int) ((m++[z]).length:Int)=true:=by simp [bY];omega
    have e3:(m++[z]).take m.length=m:=by simp
    have e4:=aD (b:=24) (n:=m.length) (m:=1) (by decide) (by simp at hb2;omega)
    have e5:=aD (b:=24) (n:=m.length+1) (m:=1) (by decide) (by simp at hb2;omega)
    simp only [fG,e1,e2,e3,aFc,aJd,zZ,bW4,aA]
    cases decide (0<k)<;>cases decide (i=0)<;>cases hz:z.1==g.1<;>simp [hz,e4,e5]) (fun b=>by simp [hi])]
  rfl) (fun a=>by simp)]
 simp only [aA,id]
 rw [show cN (fun k x a=>rF (decide (0<k)) x a) 0 p []=aAq p from rfl]
 show _=some (aHm (aAq p))
 generalize aAq p=l at hl
 cases l with
 | nil=>rfl
 | cons x xs=>
  have e1:decide ((((x::xs).length:Nat):Int)>0)=true:=by simp
  have e2:decide ((0:Int)<(((x::xs).length:Nat):Int))=true:=by simp
  have e3:(0:Int).toNat=0:=rfl
  have e4:decide ((0:Int)<=0)=true:=rfl
  have e5:decide (0<(x::xs).length)=true:=by simp
  simp only [e1,e2,e3,e4,e5,zZ,bZo,aA,List.set_cons_zero]
  rcases mH ((x.1,(0:Int),x.2.2)::xs) with h0 | ⟨m,z,hm⟩
  ·cases h0
  ·have hlen:((x.1,(0:Int),x.2.2)::xs).length=(x::xs).length:=rfl
   rw [aSl hm]
   rw [hm] at hlen ⊢
   rw [aEz (by omega)]
   have e6:decide (m.length<(m++[z]).length)=true:=by simp
   simp only [fG,aFc,aJd,e6,zZ,bW4,aA,aNc]

def ends (p:den tPt):q24:=
 match (gT p).head?,(gT p).getLast? with
 | some x,some y=>(x.1,y.1)
 | _,_=>(-1,-1)

theorem bTn {p:den tPt} (h:tot tPt p<=34359738368):sB p=some (ends p):=by
 unfold sB ends ixb
 have hl:=aBt p
 rw [aRw h,aA]
 generalize gT p=l at hl
 rcases mH l with rfl | ⟨m,z,rfl⟩
 ·rfl
 ·rw [aEz (by omega)]
  have e1:(((m++[z]).length:Int)==0)=false:=by simp<;>omega
  have e2:decide ((0:Int)<((m++[z]).length:Int))=true:=by simp<;>omega
  have e3:decide ((0:Int)<=0)=true:=rfl
  rw [e1,e2,e3,fG,aFc,bZg]
  cases m with
  | nil=>rfl
  | cons x m=>simp

theorem bSo {p:den tPt} (h:tot tPt p<=34359738368):rX p=some (ends p):=by
 unfold rX ends ixb
 have hl:=aBt p
 rw [aE7 h,aA]
 generalize gT p=l at hl
 rcases mH l with rfl | ⟨m,z,rfl⟩
 ·rfl
 ·rw [aEz (by omega)]
  have e1:(((m++[z]).length:Int)==0)=false:=by simp<;>omega
  have e2:decide ((0:Int)<((m++[z]).length:Int))=true:=by simp<;>omega
  have e3:decide ((0:Int)<=0)=true:=rfl
  rw [e1,e2,e3,fG,aFc,bZg]
  cases m with
  | nil=>rfl
  | cons x m=>simp


def pkR (p:den tPk):q3:=(p.1,p.2.1,p.2.2.1,p.2.2.2.2.1,p.2.2.2.2.2.1,p.2.2.2.2.2.2.1,p.2.2.2.2.2.2.2.1,p.2.2.2.2.2.2.2.2.1,p.2.2.2.1,p.2.2.2.2.2.2.2.2.2)

def bUt (p:den tPt):Int:=match p with
 | []=>0
 | x::_=>x.2.2.1

def aDp (kind:Int) (p:den tPt) (res seq:Int) (pay:List Int):den tPk:=(kind,(ends p).1,(ends p).2,p,0,0,bUt p,res,seq,pay)

theorem aQ2 {kind res seq:Int} {p:den tPt} {pay:List Int} (h:tot tPt p<=34359738368) (hp:pay.length<=68719476736):kJ kind p res seq pay=some (pkR (aDp kind p res seq pay)):=by
 unfold kJ zz4 zz5 zz6 zz7
 rw [aMc ((bG h).mono (by decide)),aE4 hp,bTn h]
 simp only [aA]
 cases p with
 | nil=>rfl
 | cons x p=>
  have e1:decide (((x::p).length:Int)>0)=true:=by simp
  rw [e1];rfl

theorem aMo {kind res seq:Int} {p:den tPt} {pay:List Int} (h:tot tPt p<=34359738368) (hp:pay.length<=68719476736):cJ kind p res seq pay=some (pkR (aDp kind p res seq pay)):=by
 unfold cJ zz4 zz5 zz6 zz7
 rw [aE6 ((bG h).mono (by decide)),bSo h,aD (b:=1) (n:=([]:List Int).length) (by decide) (by simpa using hp)]
 simp only [aA,zZ,bXo]
 cases p with
 | nil=>rfl
 | cons x p=>
  have e1:decide (((x::p).length:Int)>0)=true:=by simp
  rw [e1];rfl

def aLl (k:Int):Int:=if k=1 then 4 else if k=4 then 1 else if k=2 then 3 else if k=3 then 2 else k

theorem bSv (k:Int):oT k=some (aLl k):=by
 unfold oT aLl
 by_cases h1:k=1
 ·subst h1;rfl
 by_cases h2:k=4
 ·subst h2;rfl
 by_cases h3:k=2
 ·subst h3;rfl
 by_cases h4:k=3
 ·subst h4;rfl
 have b1:(k==1)=false:=by simpa using h1
 have b2:(k==4)=false:=by simpa using h2
 have b3:(k==2)=false:=by simpa using h3
 have b4:(k==3)=false:=by simpa using h4
 rw [b1,b2,b3,b4,zS h1,zS h2,zS h3,zS h4];rfl

theorem bSd (k:Int):mJ k=some (aLl k):=by
 unfold mJ aLl
 by_cases h1:k=1
 ·subst h1;rfl
 by_cases h2:k=4
 ·subst h2;rfl
 by_cases h3:k=2
 ·subst h3;rfl
 by_cases h4:k=3
 ·subst h4;rfl
 have b1:(k==1)=false:=by simpa using h1
 have b2:(k==4)=false:=by simpa using h2
 have b3:(k==2)=false:=by simpa using h3
 have b4:(k==3)=false:=by simpa using h4
 rw [b1,b2,b3,b4,zS h1,zS h2,zS h3,zS h4];rfl

def jP (n:Int):Bool:=inR n 0 2147483646

theorem aFi (n:Int):dD n=some (jP n):=by unfold dD jP;rw [kN];rfl

theorem aCv (n:Int):kV n=some (jP n):=by unfold kV jP;rw [iH];rfl

def aNt (b s:Int):Int:=if jP b&&jP s then bXr (wr (b+s)) 2147483647 else 0

def aI1 (b s:Int):Int:=if jP b&&jP s then bXr (wr ((wr (b - s))+2147483647)) 2147483647 else 0

theorem bFz (b s:Int):rK b s=some (aNt b s):=by
 unfold rK aNt
 simp only [aFi,aA]
 cases jP b<;>cases jP s<;>rfl

theorem aVj (b s:Int):rL b s=some (aNt b s):=by
 unfold rL aNt
 simp only [aCv,aA]
 cases jP b<;>cases jP s<;>rfl

theorem bFn (b s:Int):vS b s=some (aI1 b s):=by
 unfold vS aI1
 simp only [aFi,aA]
 cases jP b<;>cases jP s<;>rfl

theorem bFl (b s:Int):vP b s=some (aI1 b s):=by
 unfold vP aI1
 simp only [aCv,aA]
 cases jP b<;>cases jP s<;>rfl

def aA2 (k:Int) (b:Int) (h:den cG):Int:=if jQ k then aI1 b h.2.2.2.2 else aNt b h.2.2.2.2

def aGd (p:den tPp) (n:Nat):Int:=(p.2.2.2.take n).foldl (aA2 p.1) p.2.2.1

theorem bQs {p:den tPp} {n:Nat} (hn:n<=p.2.2.2.length) (hl:p.2.2.2.length<=68719476736):lO p (n:Int)=some (aGd p n):=by
 unfold lO aGd zz4
 have e1:inR (n:Int) 0 (p.2.2.2.length:Int)=true:=by rw [bJ];omega
 have e2:bY (0:Int) (n:Int) (p.2.2.2.length:Int)=true:=by simp [bY];omega
 rw [kN,e1,aA,e2,gN]
 have hlen:(p.2.2.2.take n).length<=4611686018427387904:=by rw [bX6];omega
 rw [nU (fun k (b:Int)=>(b,(k:Int))) (p.2.2.1,(0:Int)) p.2.2.1 (p.2.2.2.take n) (fun _ h b=>aA2 p.1 b h) (fun _=>0) (fun _=>0) 0 id rfl hlen (by rw [sum_nil];exact bXb _) (fun _ _ _=>bXb _) (fun k x b hi hx hd hw hk hb=>by
  simp only [hd,hi,hw,zZ,aA,aL8,bFn,bFz,aA2]
  cases jQ p.1<;>rfl) (fun b=>by simp),vE (fun b h=>aA2 p.1 b h)]
 rfl

theorem aRz {p:den tPp} {n:Nat} (hn:n<=p.2.2.2.length) (hl:p.2.2.2.length<=68719476736):gU p (n:Int)=some (aGd p n):=by
 unfold gU aGd zz4
 have e1:inR (n:Int) 0 (p.2.2.2.length:Int)=true:=by rw [bJ];omega
 have e3:(p.2.2.2.take n).length=n:=by rw [bX6];omega
 rw [iH,e1,aA]
 rw [nU (fun k (b:Int)=>(b,(k:Int))) (p.2.2.1,(0:Int)) p.2.2.1 (p.2.2.2.take n) (fun _ h b=>aA2 p.1 b h) (fun _=>0) (fun _=>0) 0 id rfl (by rw [e3];omega) (by rw [sum_nil];exact bXb _) (fun _ _ _=>bXb _) (fun k x b hi hx hd hw hk hb=>by
  have hx':p.2.2.2[k]? =some x:=by rw [List.getElem?_take] at hx;split at hx;exact hx;cases hx
  rw [e3] at hd
  simp only [hd,hw,zZ,aA,aH,hx',aCr,bFl,aVj,aA2]
  cases jQ p.1<;>rfl) (fun b=>by rw [e3];simp),vE (fun b h=>aA2 p.1 b h)]
 rfl

def xE (p:den tPp):den tPp:=(aLl p.1,p.2.1,aGd p p.2.2.2.length,p.2.2.2.reverse)

theorem bS2 {l:cZ} (hl:l.length<=68719476736):iW l=some l.reverse:=by
 unfold iW pj5
 have e:wr ((l.length:Int) - 1)=(l.length:Int) - 1:=mD hl
 rw [e,aT4 (fun k (a:cZ)=>(k,a)) ((l.length:Int) - 1,[]) [] l (fun x a=>a++[x]) bW9 (fun _=>1) 68719476736 id rfl (by omega) (by rw [eZ];simpa using hl) (fun x a=>by simp) (fun k x a hi hx hd hw hk hb=>by
  simp only [hd,hi,hw,zZ,aA,aM,aD (b:=40) (n:=a.length) (m:=1) (by decide) hb]) (fun a=>by simp),aD5 (fun x=>x)]
 simp

theorem bQq {p:den tPp} (hl:p.2.2.2.length<=68719476736):oL p=some (xE p):=by
 unfold oL xE pj4
 simp only [bSv,aM,bQs (bXb _) hl,bS2 hl,aA]

theorem bP3 {p:den tPp} (hl:p.2.2.2.length<=68719476736):oM p=some (xE p):=by
 unfold oM xE pj4 pj5 zz4
 simp only [bSd,aM,aRz (bXb _) hl,aV,bK,bA,aZ,bD,aA]
 have e:wr ((p.2.2.2.length:Int) - 1)=(p.2.2.2.length:Int) - 1:=mD hl
 rw [e,aT4 (fun k (a:cZ)=>(k,aLl p.1,p.2.1,aGd p p.2.2.2.length,a)) ((p.2.2.2.length:Int) - 1,aLl p.1,p.2.1,aGd p p.2.2.2.length,[]) [] p.2.2.2 (fun x a=>a++[x]) bW9 (fun _=>1) 68719476736 (fun a=>(aLl p.1,p.2.1,aGd p p.2.2.2.length,a)) rfl (by omega) (by rw [eZ];simpa using hl) (fun x a=>by simp) (fun k x a hi hx hd hw hk hb=>by
  simp only [hd,hi,hw,zZ,aA,aM,aD (b:=40) (n:=a.length) (m:=1) (by decide) hb]) (fun a=>by simp),aD5 (fun x=>x)]
 simp

def aCk (p:den tPt):den tPt:=p.reverse.map xE

theorem bG8 {p:den tPt} (h:SmB 68719476736 tPt p):kG p=some (aCk p):=by
 unfold kG aCk pj4
 have e:wr ((p.length:Int) - 1)=(p.length:Int) - 1:=mD h.1
 rw [e,aT4 (fun k (a:lPp)=>(k,a)) ((p.length:Int) - 1,[]) [] p (fun x a=>a++[xE x]) bW9 (fun _=>1) 68719476736 id rfl (by have :=h.1;omega) (by rw [eZ];simpa using h.1) (fun x a=>by simp) (fun k x a hi hx hd hw hk hb=>by
  have hxl:=(h.2 x (bW6 hx)).2.2.2.1
  simp only [hd,hi,hw,zZ,aA,aM,bQq hxl,aD (b:=48) (n:=a.length) (m:=1) (by decide) hb]) (fun a=>by simp),aD5 xE]
 simp

theorem bF7 {p:den tPt} (h:SmB 68719476736 tPt p):kI p=some (aCk p):=by
 unfold kI aCk pj4
 have e:wr ((p.length:Int) - 1)=(p.length:Int) - 1:=mD h.1
 rw [e,aT4 (fun k (a:lPp)=>(k,a)) ((p.length:Int) - 1,[]) [] p (fun x a=>a++[xE x]) bW9 (fun _=>1) 68719476736 id rfl (by have :=h.1;omega) (by rw [eZ];simpa using h.1) (fun x a=>by simp) (fun k x a hi hx hd hw hk hb=>by
  have hxl:=(h.2 x (bW6 hx)).2.2.2.1
  simp only [hd,hi,hw,zZ,aA,aM,bP3 hxl,aD (b:=48) (n:=a.length) (m:=1) (by decide) hb]) (fun a=>by simp),aD5 xE]
 simp

theorem bHg (p:den tPp):tot tPp (xE p)=tot tPp p:=by
 show tot ti _+(tot ti _+(tot ti _+tot (.sl cG) p.2.2.2.reverse))=tot ti _+(tot ti _+(tot ti _+tot (.sl cG) p.2.2.2))
 rw [aQ9];rfl

theorem aO6 {t:Ty} (g:den t→den t) (hg: ∀ x,tot t (g x)=tot t x): ∀ l:List (den t),tot (.sl t) (l.map g)=tot (.sl t) l
 | []=>rfl
 | x::l=>by rw [bXg,kW,kW,hg,aO6 g hg l]

theorem aDc (p:den tPt):tot tPt (aCk p)=tot tPt p:=by
 show tot (.sl tPp) (p.reverse.map xE)=tot (.sl tPp) p
 rw [aO6 xE bHg,aQ9]

def aMl (pk:den tPk) (kind seq:Int) (pay:List Int):den tPk:=aDp kind (aCk pk.2.2.2.1) pk.2.2.2.2.2.2.2.1 seq pay

theorem bO3 {pk:den tPk} {kind seq:Int} {pay:List Int} (h:tot tPt pk.2.2.2.1<=34359738368) (hp:pay.length<=68719476736):aBa pk kind seq pay=some (pkR (aMl pk kind seq pay)):=by
 unfold aBa aMl aI zz7
 rw [bG8 ((bG h).mono (by decide)),aA,aQ2 (by rw [aDc];exact h) hp]
 rfl

theorem bPn {pk:den tPk} {kind seq:Int} {pay:List Int} (h:tot tPt pk.2.2.2.1<=34359738368) (hp:pay.length<=68719476736):aBh pk kind seq pay=some (pkR (aMl pk kind seq pay)):=by
 unfold aBh aMl aI zz7
 rw [bF7 ((bG h).mono (by decide)),aA,aMo (by rw [aDc];exact h) hp]
 rfl

def pk0:den tPk:=(0,0,0,[],0,0,0,0,0,[])


def pkB (p:den tPk) (b:Bool):q8:=(p.1,p.2.1,p.2.2.1,p.2.2.2.2.1,p.2.2.2.2.2.1,p.2.2.2.2.2.2.1,p.2.2.2.2.2.2.2.1,p.2.2.2.2.2.2.2.2.1,b,p.2.2.2.1,p.2.2.2.2.2.2.2.2.2)

def aCh (x:den tIb) (p:den tPk):Bool:=yI x p&& !decide (p.2.2.2.2.2.2.2.2.1>=x.2.2.1)

def nB (x:den tIb) (p:den tPk):den tPk:=if aCh x p then aMl p 2 p.2.2.2.2.2.2.2.2.1 [] else pk0

theorem bP4 {x:den tIb} {p:den tPk} (h:tot tPt p.2.2.2.1<=34359738368):uE x p=some (pkB (nB x p) (aCh x p)):=by
 unfold uE nB aCh aI pj2 pj4 zz4 zz5 zz6 zz7 zz8
 simp only [aM,aYu,aA,bO3 (pay:=[]) h (by simp)]
 cases yI x p<;>cases decide (p.2.2.2.2.2.2.2.2.1>=x.2.2.1)<;>rfl

theorem bQa {x:den tIb} {p:den tPk} (h:tot tPt p.2.2.2.1<=34359738368):tV x p=some (pkB (nB x p) (aCh x p)):=by
 unfold tV nB aCh aI pj2 pj4 zz4 zz5 zz6 zz7 zz8
 simp only [aM,aZa,aA,bPn (pay:=[]) h (by simp)]
 cases yI x p<;>cases decide (p.2.2.2.2.2.2.2.2.1>=x.2.2.1)<;>rfl

def uI (f:den tFl):Bool:=inR f.2.2.2.2.2.2.1 0 ((f.2.2.2.2.2.1.length:Int) - 1)&&inR f.2.2.2.1 0 ((f.2.2.2.2.1.length:Int) - 1)

def rH (f:den tFl):den tPk:=
 if uI f then aDp 1 ((f.2.2.2.2.2.1[f.2.2.2.2.2.2.1.toNat]?).getD []) f.2.2.1 f.2.2.2.1 ((f.2.2.2.2.1[f.2.2.2.1.toNat]?).getD []) else pk0

theorem aW7 {t:Ty} {l:List (den t)} {d:den t} {i:Nat} (hd:tot t d=0):tot t ((l[i]?).getD d)<=tot (.sl t) l:=by
 cases h:l[i]? with
 | none=>simp [hd]
 | some x=>have :=yA h;simp;omega

theorem aZ4 {f:den tFl} (h:tot tFl f<=34359738368):eK f=some (pkB (rH f) (uI f)):=by
 have h0:=bF (bF (bF (bF h)))
 have hm:=aGg h0
 have hp:=aGg (bF h0)
 have l1:=eR f.2.2.2.2.1
 have l2:=eR f.2.2.2.2.2.1
 unfold eK rH uI pj2 zz4 zz5 zz6 zz7 zz8
 simp only [kN,mD (n:=f.2.2.2.2.2.1.length) (by omega),mD (n:=f.2.2.2.2.1.length) (by omega),aA]
 cases c1:inR f.2.2.2.2.2.2.1 0 ((f.2.2.2.2.2.1.length:Int) - 1) with
 | false=>rfl
 | true=>
  cases c2:inR f.2.2.2.1 0 ((f.2.2.2.2.1.length:Int) - 1) with
  | false=>rfl
  | true=>
   rw [bJ] at c1 c2
   rw [aPi c1.1 (by omega),aPi c2.1 (by omega)]
   have e1:f.2.2.2.2.2.1[f.2.2.2.2.2.2.1.toNat]? =some (f.2.2.2.2.2.1[f.2.2.2.2.2.2.1.toNat]'(by omega)):=bWu (by omega)
   have e2:f.2.2.2.2.1[f.2.2.2.1.toNat]? =some (f.2.2.2.2.1[f.2.2.2.1.toNat]'(by omega)):=bWu (by omega)
   have t1:=yA e1
   have t2:=yA e2
   have t3:=eR (t:=tb) (f.2.2.2.2.1[f.2.2.2.1.toNat]'(by omega))
   simp only [aA,bWx,zY]
   rw [aQ2 (by omega) (by have t2:1+tot (.sl tb) _<=_:=t2;omega),e1,e2]
   rfl

theorem aZv {f:den tFl} (h:tot tFl f<=34359738368):eI f=some (pkB (rH f) (uI f)):=by
 have h0:=bF (bF (bF (bF h)))
 have hm:=aGg h0
 have hp:=aGg (bF h0)
 have l1:=eR f.2.2.2.2.1
 have l2:=eR f.2.2.2.2.2.1
 unfold eI rH uI pj2 zz4 zz5 zz6 zz7 zz8
 simp only [iH,mD (n:=f.2.2.2.2.2.1.length) (by omega),mD (n:=f.2.2.2.2.1.length) (by omega),aA]
 cases c1:inR f.2.2.2.2.2.2.1 0 ((f.2.2.2.2.2.1.length:Int) - 1) with
 | false=>cases inR f.2.2.2.1 0 ((f.2.2.2.2.1.length:Int) - 1)<;>rfl
 | true=>
  cases c2:inR f.2.2.2.1 0 ((f.2.2.2.2.1.length:Int) - 1) with
  | false=>rfl
  | true=>
   rw [bJ] at c1 c2
   rw [aPi c1.1 (by omega),aPi c2.1 (by omega)]
   have e1:f.2.2.2.2.2.1[f.2.2.2.2.2.2.1.toNat]? =some (f.2.2.2.2.2.1[f.2.2.2.2.2.2.1.toNat]'(by omega)):=bWu (by omega)
   have e2:f.2.2.2.2.1[f.2.2.2.1.toNat]? =some (f.2.2.2.2.1[f.2.2.2.1.toNat]'(by omega)):=bWu (by omega)
   have t1:=yA e1
   have t2:=yA e2
   have t3:=eR (t:=tb) (f.2.2.2.2.1[f.2.2.2.1.toNat]'(by omega))
   simp only [aA,bWx,zY]
   rw [aMo (by omega) (by have t2:1+tot (.sl tb) _<=_:=t2;omega),e1,e2]
   rfl

def uV (f:den tFl):Int:=if wr (f.2.2.2.2.2.2.1+1)>=(f.2.2.2.2.2.1.length:Int) then 0 else wr (f.2.2.2.2.2.2.1+1)

def pN (f:den tFl) (c w:Int):den tFl:=(f.1,f.2.1,f.2.2.1,f.2.2.2.1,f.2.2.2.2.1,f.2.2.2.2.2.1,c,w,f.2.2.2.2.2.2.2.2)

theorem aGk (f:den tFl) (c w:Int):tot tFl (pN f c w)=tot tFl f:=rfl


def aF (f:den tFl):den tFl×den tPk×Bool:=
 if uI f then
  if f.2.2.2.2.2.2.2.1==0 then (pN f f.2.2.2.2.2.2.1 1,rH f,true)
  else if f.2.2.2.2.2.2.2.1==4 then (pN f (uV f) 1,rH (pN f (uV f) 1),uI (pN f (uV f) 1))
  else (pN f f.2.2.2.2.2.2.1 (wr (f.2.2.2.2.2.2.2.1+1)),pk0,false)
 else (pN f f.2.2.2.2.2.2.1 0,pk0,false)


def dQ (f:den tFl) (p:den tPk) (b:Bool):q9:=
 (f.1,f.2.1,f.2.2.1,f.2.2.2.1,f.2.2.2.2.2.2.1,f.2.2.2.2.2.2.2.1,p.1,p.2.1,p.2.2.1,p.2.2.2.2.1,p.2.2.2.2.2.1,p.2.2.2.2.2.2.1,p.2.2.2.2.2.2.2.1,p.2.2.2.2.2.2.2.2.1,b,f.2.2.2.2.1,f.2.2.2.2.2.1,f.2.2.2.2.2.2.2.2,p.2.2.2.1,p.2.2.2.2.2.2.2.2.2)

theorem aYr (f:den tFl):pR f=some (uV f):=by
 unfold pR uV zz5 zz6
 by_cases h:wr (f.2.2.2.2.2.2.1+1)>=(f.2.2.2.2.2.1.length:Int)
 ·rw [zX h,zT h];rfl
 ·rw [zW h,zS h];rfl

theorem bOx {f:den tFl} (h:tot tFl f<=34359738368):uR f=some (dQ (aF f).1 (aF f).2.1 (aF f).2.2):=by
 unfold uR aF pj2 pj9 aW bR bT eX nD zz4 zz5 zz6 zz7 zz8 zz9
 have e:eK (f.1,f.2.1,f.2.2.1,f.2.2.2.1,f.2.2.2.2.1,f.2.2.2.2.2.1,uV f,1,f.2.2.2.2.2.2.2.2)=some (pkB (rH (pN f (uV f) 1)) (uI (pN f (uV f) 1))):=aZ4 (f:=pN f (uV f) 1) h
 simp only [aM,aH3 ((bG h).mono (by decide)),aZ4 h,aYr,aA,aV,bK,bA,aZ,bD,nR,e]
 cases c1:uI f with
 | false=>simp only [pkB,bW7,zZ];rfl
 | true=>
  simp only [pkB,bWx,zY,zV]
  cases c2:f.2.2.2.2.2.2.2.1==0 with
  | true=>rfl
  | false=>
   cases c3:f.2.2.2.2.2.2.2.1==4 with
   | true=>rfl
   | false=>rfl

theorem bH2 {c:Int} {n:Nat} (h0:0<=c) (h1:c<=(n:Int) - 1) (hn:n<=68719476736):inR c 0 (wr ((n:Int) - 2))= !decide (wr (c+1)>=(n:Int)):=by
 have e1:wr ((n:Int) - 2)=(n:Int) - 2:=wri (by omega) (by omega)
 have e2:wr (c+1)=c+1:=wri (by omega) (by omega)
 rw [e1,e2,bXl,bJ]
 simp
 omega

theorem bG3 {f:den tFl} (h:SmB 68719476736 tFl f) (hs:inR f.2.2.2.2.2.2.1 0 ((f.2.2.2.2.2.1.length:Int) - 1)=true):sD f=some (nR (pN f (uV f) f.2.2.2.2.2.2.2.1)):=by
 unfold sD uV pj3 pj9 zz4 zz5 zz6
 have hl:=h.2.2.2.2.2.1.1
 rw [bJ] at hs
 simp only [aM,aC8 h,iH,bH2 hs.1 hs.2 hl,aA,nR]
 by_cases hc:wr (f.2.2.2.2.2.2.1+1)>=(f.2.2.2.2.2.1.length:Int)
 ·rw [zX hc,zT hc];rfl
 ·rw [zW hc,zS hc];rfl

theorem bOw {f:den tFl} (h:tot tFl f<=34359738368):uD f=some (dQ (aF f).1 (aF f).2.1 (aF f).2.2):=by
 unfold uD aF pj2 pj9 aW bR bT eX nD zz4 zz5 zz6 zz7 zz8 zz9
 have sm:SmB 68719476736 tFl f:=(bG h).mono (by decide)
 have e:eI (f.1,f.2.1,f.2.2.1,f.2.2.2.1,f.2.2.2.2.1,f.2.2.2.2.2.1,uV f,1,f.2.2.2.2.2.2.2.2)=some (pkB (rH (pN f (uV f) 1)) (uI (pN f (uV f) 1))):=aZv (f:=pN f (uV f) 1) h
 simp only [aM,aC8 sm,aZv h,aA,aV,bK,bA,aZ,bD]
 cases c1:uI f with
 | false=>simp only [pkB,nR,bW7,zZ];rfl
 | true=>
  have hs:inR f.2.2.2.2.2.2.1 0 ((f.2.2.2.2.2.1.length:Int) - 1)=true:=by
   unfold uI at c1;simp only [bWw] at c1;exact c1.1
  rw [bG3 sm hs]
  simp only [pkB,nR,pN,aA,bWx,zY,zV,e]
  cases c2:f.2.2.2.2.2.2.2.1==0 with
  | true=>rfl
  | false=>
   cases c3:f.2.2.2.2.2.2.2.1==4 with
   | true=>rfl
   | false=>rfl

def cH (p:den tPk):Bool:=inR p.2.2.2.2.1 0 ((p.2.2.2.1.length:Int) - 1)&&inR p.2.2.2.2.2.1 0 (((((p.2.2.2.1[p.2.2.2.2.1.toNat]?).getD (0,0,0,[])).2.2.2.length:Nat):Int) - 1)

def cW (p:den tPk):Int:=if cH p then ((((p.2.2.2.1[p.2.2.2.2.1.toNat]?).getD (0,0,0,[])).2.2.2[p.2.2.2.2.2.1.toNat]?).getD (0,0,0,0,0)).1 else -1

theorem aB7 {p:den tPk} (h:cH p=true): ∃ (i j:Nat) (x:den tPp) (y:den cG),p.2.2.2.2.1=(i:Int)∧p.2.2.2.2.2.1=(j:Int)∧p.2.2.2.1[i]? =some x∧x.2.2.2[j]? =some y∧cW p=y.1:=by
 have h':=h
 unfold cH at h'
 simp only [bWw,bJ] at h'
 obtain ⟨⟨h1,h2⟩,h3,h4⟩:=h'
 obtain ⟨x,hx⟩:=yM h1 h2
 rw [hx,bXs] at h4
 obtain ⟨y,hy⟩:=yM h3 h4
 refine ⟨p.2.2.2.2.1.toNat,p.2.2.2.2.2.1.toNat,x,y,(bYy h1).symm,(bYy h3).symm,hx,hy,?_⟩
 unfold cW
 rw [h,zT rfl,hx,bXs,hy,bXs]

theorem zD {p:den tPk} (c:cH p=false):cW p= -1:=by unfold cW;rw [c];rfl

theorem bN6 {p:den tPk} (h:SmB 68719476736 tPk p):vO p=some (cH p):=by
 unfold vO cH zz4 zz5
 have l1:=h.2.2.2.1.1
 rw [kN,mD l1,aA]
 cases c1:inR p.2.2.2.2.1 0 ((p.2.2.2.1.length:Int) - 1) with
 | false=>rfl
 | true=>
  rw [bJ] at c1
  obtain ⟨x,hx⟩:=yM c1.1 c1.2
  rw [aHp c1.1 hx,hx]
  have l2:=(h.2.2.2.1.2 _ (bW6 hx)).2.2.2.1
  simp only [zZ,aA,kN,mD l2,bXs,bXe]

theorem aFl {p:den tPk} (h:SmB 68719476736 tPk p):eB p=some (cW p):=by
 unfold eB aI zz4 zz5
 simp only [aM,bN6 h,aA]
 cases c:cH p with
 | false=>rw [zD c];rfl
 | true=>
  obtain ⟨i,j,x,y,h1,h2,h3,h4,h5⟩:=aB7 c
  rw [h1,h2,h5]
  simp only [bWx,zY,aH,h3,h4,aA]

theorem aE2 {p:den tPk} (h:SmB 68719476736 tPk p):dX p=some (cW p):=by
 unfold dX zz4 zz5
 have l1:=h.2.2.2.1.1
 rw [iH,mD l1,aA]
 cases c1:inR p.2.2.2.2.1 0 ((p.2.2.2.1.length:Int) - 1) with
 | false=>rw [zD (by unfold cH;rw [c1];rfl)];rfl
 | true=>
  have c1':=c1
  rw [bJ] at c1'
  obtain ⟨x,hx⟩:=yM c1'.1 c1'.2
  rw [aHp c1'.1 hx]
  have l2:=(h.2.2.2.1.2 _ (bW6 hx)).2.2.2.1
  simp only [bWx,zY,aA,iH,mD l2]
  cases c2:inR p.2.2.2.2.2.1 0 ((x.2.2.2.length:Int) - 1) with
  | false=>rw [zD (by unfold cH;rw [c1,hx,bXs,c2];rfl)];rfl
  | true=>
   have c:cH p=true:=by unfold cH;rw [c1,hx,bXs,c2];rfl
   rw [bJ] at c2
   obtain ⟨y,hy⟩:=yM c2.1 c2.2
   rw [aHp c2.1 hy]
   unfold cW
   rw [c,zT rfl,hx,bXs,hy,bXs]
   rfl

def aHz (p:den tPt) (i j:Nat):den tPt:=
 match p[i]? with
 | some x=>p.take i++[(x.1,x.2.1,x.2.2.1,x.2.2.2.take (j+1))]
 | none=>[]

def rP (p:den tPk):den tPt:=if cW p<0 then [] else aHz p.2.2.2.1 p.2.2.2.2.1.toNat p.2.2.2.2.2.1.toNat

theorem aW6 {p:den tPk} (h:SmB 68719476736 tPk p):gM p=some (rP p):=by
 unfold gM rP aI zz4 zz5
 simp only [aM,aFl h,aA]
 by_cases hc:cW p<0
 ·rw [zX hc,zZ,zT hc]
 ·rw [zW hc,zY,zS hc]
  cases c:cH p with
  | false=>rw [zD c] at hc;exact absurd (by decide) hc
  | true=>
   obtain ⟨i,j,x,y,h1,h2,h3,h4,h5⟩:=aB7 c
   have l1:=h.2.2.2.1.1
   have l2:=(h.2.2.2.1.2 _ (bW6 h3)).2.2.2.1
   have hi:=(bW1.1 h3).1
   have hj:=(bW1.1 h4).1
   have e1:wr ((i:Int)+1)=((i+1:Nat):Int):=by have :wr ((i:Int)+1)=(i:Int)+1:=wri (by omega) (by omega);rw [this];rfl
   have e2:wr ((j:Int)+1)=((j+1:Nat):Int):=by have :wr ((j:Int)+1)=(j:Int)+1:=wri (by omega) (by omega);rw [this];rfl
   have e3:bY (0:Int) ((i+1:Nat):Int) (p.2.2.2.1.length:Int)=true:=by simp [bY];omega
   have e4:bY (0:Int) ((j+1:Nat):Int) (x.2.2.2.length:Int)=true:=by simp [bY];omega
   have e5:p.2.2.2.1.take (i+1)=p.2.2.2.1.take i++[x]:=aK8 h3
   have e6:(p.2.2.2.1.take i).length=i:=by rw [bX6];omega
   rw [h1,h2,e1,e2,aMc h.2.2.2.1,aA,e3,zZ]
   simp only [bW4,e5]
   have e7:decide ((i:Int)<((p.2.2.2.1.take i++[x]).length:Int))=true:=by simp;omega
   have e8:(p.2.2.2.1.take i++[x])[i]? =some x:=by rw [List.getElem?_append_right (by omega),e6];simp
   have e9: ∀ z,(p.2.2.2.1.take i++[x]).set i z=p.2.2.2.1.take i++[z]:=fun z=>by rw [List.set_append_right _ _ (by omega),e6];simp
   simp only [fG,e7,e8,e4,e9,zZ,aA,gN]
   unfold aHz
   rw [h3]

theorem aWi {p:den tPk} (h:SmB 68719476736 tPk p):gR p=some (rP p):=by
 unfold gR rP aI pj4 zz4 zz5
 simp only [aM,aE2 h,aA]
 by_cases hc:cW p<0
 ·rw [zX hc,zZ,zT hc]
 ·rw [zW hc,zY,zS hc]
  cases c:cH p with
  | false=>rw [zD c] at hc;exact absurd (by decide) hc
  | true=>
   obtain ⟨i,j,x,y,h1,h2,h3,h4,h5⟩:=aB7 c
   have l1:=h.2.2.2.1.1
   have hi:=(bW1.1 h3).1
   have hj:=(bW1.1 h4).1
   have l2:=(h.2.2.2.1.2 _ (bW6 h3)).2.2.2.1
   have e2:wr ((j:Int)+1)=((j+1:Nat):Int):=by have :wr ((j:Int)+1)=(j:Int)+1:=wri (by omega) (by omega);rw [this];rfl
   have e4:bY (0:Int) ((j+1:Nat):Int) (x.2.2.2.length:Int)=true:=by simp [bY];omega
   have e5:p.2.2.2.1.take (i+1)=p.2.2.2.1.take i++[x]:=aK8 h3
   have e6:(p.2.2.2.1.take (i+1)).length=i+1:=by rw [bX6];omega
   rw [h1,h2,e2]
   let cutX:Nat→den tPp→den tPp:=fun k z=>if k=i then (z.1,z.2.1,z.2.2.1,z.2.2.2.take (j+1)) else z
   rw [nU (fun k (a:lPp)=>((k:Int),a)) ((0:Int),[]) [] (p.2.2.2.1.take (i+1)) (fun k z a=>a++[cutX k z]) bW9 (fun _=>1) 68719476736 id rfl (by omega) (by rw [eZ];simp;omega) (fun k z a=>by simp) (fun k z a hz hx hd hw hk hb=>by
    rw [e6] at hd hk
    have hz':=(aU9 hx).1
    have hd':decide ((k:Int)<=(i:Int))=true:=by simp;omega
    have sz:=h.2.2.2.1.2 _ (bW6 hz')
    simp only [hd',hw,zZ,aA,aH,hz',aM,aNn sz]
    by_cases hki:k=i
    ·subst hki
     rw [h3] at hz'
     injection hz' with hz'
     subst hz'
     have e7:((k:Int)==(k:Int))=true:=by simp
     simp only [e7,zZ,e4,aA,gN,aD (b:=48) (n:=a.length) (m:=1) (by decide) hb,cutX,zV]
    ·have e7:((k:Int)==(i:Int))=false:=by simp;omega
     simp only [e7,zY,aA,aD (b:=48) (n:=a.length) (m:=1) (by decide) hb,zZ,cutX,zS hki]) (fun a=>by
    have e10:decide (((i+1:Nat):Int)<=(i:Int))=false:=by simp<;>omega
    rw [e6];simp only [e10,zY];rfl)]
   have key: ∀ (l:lPp) (k:Nat) (a:lPp),k+l.length<=i→cN (fun k z a=>a++[cutX k z]) k l a=a++l:=by
    intro l
    induction l with
    | nil=>intro k a _;simp [cN]
    | cons z l ih=>
     intro k a hk
     simp only [bXy] at hk
     simp only [cN]
     rw [ih (k+1) _ (by omega)]
     have :cutX k z=z:=zS (by omega)
     rw [this];simp
   have fa: ∀ (l:lPp) (z:den tPp) (k:Nat) (a:lPp),cN (fun k z a=>a++[cutX k z]) k (l++[z]) a=cN (fun k z a=>a++[cutX k z]) k l a++[cutX (k+l.length) z]:=by
    intro l
    induction l with
    | nil=>intro z k a;rfl
    | cons y l ih=>
     intro z k a
     simp only [List.cons_append,cN,bXy]
     rw [ih]
     congr 3
     omega
   have e8:(p.2.2.2.1.take i).length=i:=by rw [bX6];omega
   rw [e5,fa,key _ 0 [] (by omega),e8]
   have :cutX (0+i) x=(x.1,x.2.1,x.2.2.1,x.2.2.2.take (j+1)):=zT (by omega)
   rw [this]
   unfold aHz
   rw [bW4,bW4,h3]
   rfl

theorem aXx (p:den tPt) (i j:Nat):tot tPt (aHz p i j)<=tot tPt p:=by
 unfold aHz
 cases h:p[i]? with
 | none=>exact bXf _
 | some x=>
  have h1:tot tPt (p.take (i+1))<=tot tPt p:=aU2 (t:=tPp) p (i+1)
  rw [aK8 h] at h1
  have h2:tot (.sl tPp) (p.take i++[x])<=tot (.sl tPp) p:=h1
  show tot (.sl tPp) (p.take i++[(x.1,x.2.1,x.2.2.1,x.2.2.2.take (j+1))])<=tot (.sl tPp) p
  rw [sQ,aFb] at h2 ⊢
  have h3:tot tPp (x.1,x.2.1,x.2.2.1,x.2.2.2.take (j+1))<=tot tPp x:=by
   have :=aU2 (t:=cG) x.2.2.2 (j+1)
   show 0+(0+(0+tot (.sl cG) (x.2.2.2.take (j+1))))<=0+(0+(0+tot (.sl cG) x.2.2.2))
   omega
  omega

theorem aB1 (p:den tPk):tot tPt (rP p)<=tot tPt p.2.2.2.1:=by
 unfold rP
 split
 ·exact bXf _
 ·exact aXx _ _ _

def vi:Nat→Nat→List Int
 | 0,n=>[(n:Int)]
 | k+1,n=>if n<128 then [(n:Int)] else (((n % 128+128:Nat):Int))::vi k (n / 128)

theorem bEl: ∀ (k n:Nat),(vi k n).length<=k+1
 | 0,n=>by simp [vi]
 | k+1,n=>by
  unfold vi
  split
  ·simp
  ·have :=bEl k (n / 128);simp only [bXy];omega

theorem aDg {n:Nat} (h:n<256):IntKind.wrap .u8 (n:Int)=(n:Int):=by
 simp only [IntKind.wrap,IntKind.signed,IntKind.bits]
 simp
 omega

theorem bSs: ∀ (k n:Nat) (out:List Int),n<128 ^ (k+1)→out.length+k+1<=68719476736→n<9223372036854775808→(@Option.bind q31 (lI) (@aC q31 q31 (fun (s4:Int×lI)=>cond (decide (s4.1>=(128:Int))) (cond (aG 1 s4.2.length 1) (some (bWt (wr (Int.tdiv s4.1 (128:Int)),s4.2++[IntKind.wrap .u8 (wr ((bXr s4.1 (128:Int))+(128:Int)))]))) none) (some (bWs (s4.1,s4.2)))) ((n:Int),out)) fun (s5:Int×lI)=>cond (aG 1 s5.2.length 1) (some (s5.2++[IntKind.wrap .u8 s5.1])) none)=some (out++vi k n)
 | 0,n,out,hn,ho,hb=>by
  have hn:n<128:=by simpa using hn
  have e1:decide ((n:Int)>=128)=false:=by simp;omega
  rw [bX (r:=((n:Int),out)) (by simp only [e1,zY]),aA]
  simp only [aD (b:=1) (n:=out.length) (m:=1) (by decide) (by omega),zZ,aDg (n:=n) (by omega),vi]
 | k+1,n,out,hn,ho,hb=>by
  by_cases h:n<128
  ·have e1:decide ((n:Int)>=128)=false:=by simp;omega
   rw [bX (r:=((n:Int),out)) (by simp only [e1,zY]),aA]
   simp only [aD (b:=1) (n:=out.length) (m:=1) (by decide) (by omega),zZ,aDg (n:=n) (by omega),vi,zT h]
  ·have e1:decide ((n:Int)>=128)=true:=by simp;omega
   have hd:n / 128<128 ^ (k+1):=by rw [Nat.div_lt_iff_lt_mul (by decide)];rw [Nat.pow_succ] at hn;exact hn
   have e2:Int.tdiv (n:Int) 128=((n / 128:Nat):Int):=rfl
   have e3:bXr (n:Int) 128=((n % 128:Nat):Int):=rfl
   have e4:wr (((n % 128:Nat):Int)+128)=((n % 128+128:Nat):Int):=by
    have :wr (((n % 128:Nat):Int)+128)=((n % 128:Nat):Int)+128:=wri (by omega) (by omega)
    rw [this];rfl
   have e5:wr ((n / 128:Nat):Int)=((n / 128:Nat):Int):=wri (by omega) (by omega)
   rw [dS (s':=(((n / 128:Nat):Int),out++[((n % 128+128:Nat):Int)])) (by
    simp only [e1,zZ,aD (b:=1) (n:=out.length) (m:=1) (by decide) (by omega),e2,e3,e4,e5,aDg (n:=n % 128+128) (by omega)])]
   rw [bSs k (n / 128) _ hd (by simp;omega) (by omega)]
   simp only [vi,zS h,bXt,bZu]

theorem aWe {n:Nat} (h:n<9223372036854775808):xF .i64 (n:Int) 127=((n % 128:Nat):Int):=by
 have e:(BitVec.ofInt 64 (n:Int) &&& BitVec.ofInt 64 127).toNat=n % 128:=by
  rw [BitVec.toNat_and]
  have e1:(BitVec.ofInt 64 (n:Int)).toNat=n:=by simp;omega
  have e2:(BitVec.ofInt 64 127).toNat=2 ^ 7 - 1:=by decide
  rw [e1,e2,Nat.and_two_pow_sub_one_eq_mod]
 unfold xF
 show IntKind.i64.wrap (((BitVec.ofInt 64 (n:Int) &&& BitVec.ofInt 64 127).toNat:Nat):Int)=_
 rw [e]
 exact wri (by omega) (by omega)

theorem bQi {n:Nat} (h:n<128):bOr .i64 (n:Int) 128=((n+128:Nat):Int):=by
 have e:(BitVec.ofInt 64 (n:Int) ||| BitVec.ofInt 64 128).toNat=n+128:=by
  rw [BitVec.toNat_or]
  have e1:(BitVec.ofInt 64 (n:Int)).toNat=n:=by simp;omega
  have e2:(BitVec.ofInt 64 128).toNat=128:=by decide
  rw [e1,e2,Nat.or_comm]
  have :=Nat.two_pow_add_eq_or_of_lt (i:=7) (b:=n) h 1
  simp only [Nat.mul_one] at this
  rw [← this];omega
 unfold bOr
 show IntKind.i64.wrap (((BitVec.ofInt 64 (n:Int) ||| BitVec.ofInt 64 128).toNat:Nat):Int)=_
 rw [e]
 exact wri (by omega) (by omega)

theorem bUk (n:Nat):shr .i64 (n:Int) 7=((n / 128:Nat):Int):=by
 unfold shr
 show Int.fdiv (n:Int) (2 ^ 7)=_
 rw [Int.fdiv_eq_ediv_of_nonneg _ (by decide)]
 rfl

theorem bRd: ∀ (k n:Nat) (out:List Int),n<128 ^ (k+1)→out.length+k+1<=68719476736→n<9223372036854775808→(@Option.bind q31 (lI) (@aC q31 q31 (fun (s3:Int×lI)=>cond (decide (s3.1>(127:Int))) (cond (aG 1 s3.2.length 1) (some (bWt (shr .i64 s3.1 (7:Int),s3.2++[IntKind.wrap .u8 (bOr .i64 (xF .i64 s3.1 (127:Int)) (128:Int))]))) none) (some (bWs (s3.1,s3.2)))) ((n:Int),out)) fun (s4:Int×lI)=>cond (aG 1 s4.2.length 1) (some (s4.2++[IntKind.wrap .u8 s4.1])) none)=some (out++vi k n)
 | 0,n,out,hn,ho,hb=>by
  have hn:n<128:=by simpa using hn
  have e1:decide ((n:Int)>127)=false:=by simp;omega
  rw [bX (r:=((n:Int),out)) (by simp only [e1,zY]),aA]
  simp only [aD (b:=1) (n:=out.length) (m:=1) (by decide) (by omega),zZ,aDg (n:=n) (by omega),vi]
 | k+1,n,out,hn,ho,hb=>by
  by_cases h:n<128
  ·have e1:decide ((n:Int)>127)=false:=by simp;omega
   rw [bX (r:=((n:Int),out)) (by simp only [e1,zY]),aA]
   simp only [aD (b:=1) (n:=out.length) (m:=1) (by decide) (by omega),zZ,aDg (n:=n) (by omega),vi,zT h]
  ·have e1:decide ((n:Int)>127)=true:=by simp;omega
   have hd:n / 128<128 ^ (k+1):=by rw [Nat.div_lt_iff_lt_mul (by decide)];rw [Nat.pow_succ] at hn;exact hn
   rw [dS (s':=(((n / 128:Nat):Int),out++[((n % 128+128:Nat):Int)])) (by
    simp only [e1,zZ,aD (b:=1) (n:=out.length) (m:=1) (by decide) (by omega),bUk,aWe hb,bQi (n:=n % 128) (by omega),aDg (n:=n % 128+128) (by omega)])]
   rw [bRd k (n / 128) _ hd (by simp;omega) (by omega)]
   simp only [vi,zS h,bXt,bZu]

def aA3 (b:List Int) (n:Int):List Int:=if inR n 0 1000000000000 then b++vi 5 n.toNat else b

theorem aNs (b:List Int) (n:Int):(aA3 b n).length<=b.length+6:=by
 unfold aA3
 split
 ·have :=bEl 5 n.toNat;rw [bXp];omega
 ·omega

theorem bTc {b:List Int} {n:Int} (h:b.length+6<=68719476736):mU b n=some (aA3 b n):=by
 unfold mU aA3 pj2
 rw [aE4 (by omega),kN]
 cases c:inR n 0 1000000000000 with
 | false=>rfl
 | true=>
  rw [bJ] at c
  obtain ⟨m,rfl⟩:=bXq c.1
  have :=bSs 5 m b (by simp only [show (128:Nat) ^ (5+1)=4398046511104 from by decide];omega) (by omega) (by omega)
  exact this

theorem bRg {b:List Int} {n:Int} (h:b.length+6<=68719476736):mX b n=some (aA3 b n):=by
 unfold mX aA3 pj2
 rw [aD (b:=1) (n:=([]:List Int).length) (by decide) (by simp;omega),iH]
 cases c:inR n 0 1000000000000 with
 | false=>rfl
 | true=>
  rw [bJ] at c
  obtain ⟨m,rfl⟩:=bXq c.1
  have :=bRd 5 m b (by simp only [show (128:Nat) ^ (5+1)=4398046511104 from by decide];omega) (by omega) (by omega)
  exact this

def aIa (b l:List Int):List Int:=l.foldl aA3 b

theorem bI7 (b l:List Int):(aIa b l).length<=b.length+6 * l.length:=by
 unfold aIa
 induction l generalizing b with
 | nil=>simp
 | cons x l ih=>
  have h1:=ih (aA3 b x)
  have h2:=aNs b x
  simp only [List.foldl_cons,bXy]
  omega

theorem aZ7 {α:Type} (l:List α):(l.map fun _=>6).sum=6 * l.length:=by
 induction l with
 | nil=>rfl
 | cons x l ih=>rw [bXg,bYb,ih,bXy];omega

theorem bSj {b l:List Int} (h:b.length+6 * l.length<=68719476736):pZ b l=some (aIa b l):=by
 unfold pZ aIa
 rw [nU (fun k (a:List Int)=>(a,(k:Int))) (b,(0:Int)) b l (fun _ x a=>aA3 a x) bW9 (fun _=>6) 68719476736 id rfl (by omega) (by rw [aZ7];exact h) (fun _ x a=>aNs a x) (fun k x a hi hx hd hw hk hb=>by
  simp only [hd,hi,hw,zZ,aA,bTc (b:=a) (n:=x) hb]) (fun a=>by simp),vE aA3]
 rfl

theorem bFt {l:List Int} (h:6 * l.length<=68719476736):qZ l=some (aIa [] l):=by
 unfold qZ
 rw [bSj (by simpa using h)];rfl

theorem bHn {l:List Int} (h:6 * l.length<=68719476736):qO l=some (aIa [] l):=by
 unfold qO aIa
 rw [nU (fun k (a:List Int)=>((k:Int),a)) ((0:Int),[]) [] l (fun _ x a=>aA3 a x) bW9 (fun _=>6) 68719476736 id rfl (by omega) (by rw [aZ7];simpa using h) (fun _ x a=>aNs a x) (fun k x a hi hx hd hw hk hb=>by
  simp only [hd,hi,hw,zZ,aA,bRg (b:=a) (n:=x) hb]) (fun a=>by simp),vE aA3]
 rfl

def aFy (x:den tRv):List Int:=if dU x then aIa [] [x.1,x.2.1,x.2.2] else []

theorem aNx (x:den tRv):(aFy x).length<=18:=by
 unfold aFy
 split
 ·exact bI7 [] [x.1,x.2.1,x.2.2]
 ·simp

theorem bTt (x:den tRv):gZ x=some (aFy x):=by
 unfold gZ aFy pj3
 rw [bFt (l:=[x.1,x.2.1,x.2.2]) (by simp)]
 simp only [aM,aCn,aA]
 cases dU x<;>rfl

theorem bSe (x:den tRv):iA x=some (aFy x):=by
 unfold iA aFy pj3
 rw [bHn (l:=[x.1,x.2.1,x.2.2]) (by simp)]
 simp only [aM,aC0,aA]
 cases dU x<;>rfl


def cB (r now d:Int) (p:den tPk):den tPk:=aDp 3 (aCk (rP p)) p.2.2.2.2.2.2.2.1 p.2.2.2.2.2.2.2.2.1 (aFy (r,d,if 1000000<wr (now+10) then 1000000 else wr (now+10)))

theorem bPb {t:den tTo} {r now d:Int} {p:den tPk} (h:tot tPk p<=34359738368):iJ t r now d p=some (pkR (cB r now d p)):=by
 have h1:tot tPt p.2.2.2.1<=34359738368:=aGg (bF (bF (bF h)))
 have h2:=aB1 p
 have sm:SmB 68719476736 tPk p:=(bG h).mono (by decide)
 have h3:=aNx (r,d,if 1000000<wr (now+10) then 1000000 else wr (now+10))
 unfold iJ cB aI zz7 zz8
 simp only [aM,bVa,aA,aW6 sm]
 rw [bG8 ((bG (bWv h2 h1)).mono (by decide)),aA,bTt,aA,aQ2 (by rw [aDc];omega) (by omega)]
 rfl

theorem bPc {t:den tTo} {r now d:Int} {p:den tPk} (h:tot tPk p<=34359738368):fR t r now d p=some (pkR (cB r now d p)):=by
 have h1:tot tPt p.2.2.2.1<=34359738368:=aGg (bF (bF (bF h)))
 have h2:=aB1 p
 have sm:SmB 68719476736 tPk p:=(bG h).mono (by decide)
 have h3:=aNx (r,d,if 1000000<wr (now+10) then 1000000 else wr (now+10))
 unfold fR cB aI zz7 zz8
 simp only [aM,aTt,aA,aWi sm]
 rw [bF7 ((bG (bWv h2 h1)).mono (by decide)),aA,bSe,aA,aMo (by rw [aDc];omega) (by omega)]
 rfl

theorem aKs {kind res seq:Int} {p:den tPt} {pay:List Int}:tot tPk (aDp kind p res seq pay)=tot tPt p+tot (.sl tb) pay:=by
 show 0+(0+(0+(tot tPt p+(0+(0+(0+(0+(0+tot (.sl tb) pay))))))))=_
 omega

theorem aS4 (f:den tFl):tot tPk (rH f)<=tot tFl f:=by
 unfold rH
 split
 ·rw [aKs]
  have h1:=aW7 (t:=tPt) (l:=f.2.2.2.2.2.1) (d:=[]) (i:=f.2.2.2.2.2.2.1.toNat) rfl
  have h2:=aW7 (t:= .sl tb) (l:=f.2.2.2.2.1) (d:=[]) (i:=f.2.2.2.1.toNat) rfl
  show _<=0+(0+(0+(0+(tot (.sl (.sl tb)) f.2.2.2.2.1+(tot (.sl tPt) f.2.2.2.2.2.1+(0+(0+tot (.sl tRv) f.2.2.2.2.2.2.2.2)))))))
  omega
 ·exact bXf _

theorem aLv {p:den tPk} {N:Nat} (h:tot tPk p<=N):tot (.sl tPp) p.2.2.2.1<=N∧tot (.sl tb) p.2.2.2.2.2.2.2.2.2<=N:=
 ⟨aGg (bF (bF (bF h))),bF (bF (bF (bF (bF (bF (bF (bF (bF h))))))))⟩

theorem aS0 (x:den tIb) (p:den tPk):tot tPk (nB x p)<=tot tPk p:=by
 unfold nB
 split
 ·unfold aMl
  rw [aKs,aDc]
  have h:=(aLv (bXb (tot tPk p))).1
  show tot (.sl tPp) p.2.2.2.1+0<=_
  omega
 ·exact bXf _

theorem aSp (f:den tFl):tot tFl (aF f).1=tot tFl f∧tot tPk (aF f).2.1<=tot tFl f:=by
 unfold aF
 split
 ·split
  ·exact ⟨aGk f _ _,aS4 f⟩
  ·split
   ·exact ⟨aGk f _ _,aS4 (pN f (uV f) 1)⟩
   ·exact ⟨aGk f _ _,bXf _⟩
 ·exact ⟨aGk f _ _,bXf _⟩

theorem aR9 (r now d:Int) (p:den tPk):tot tPk (cB r now d p)<=tot tPk p+18:=by
 unfold cB
 rw [aKs,aDc]
 have h1:=aB1 p
 have h2:=(aLv (bXb (tot tPk p))).1
 have h2:tot tPt p.2.2.2.1<=tot tPk p:=h2
 have h3:=aNx (r,d,if 1000000<wr (now+10) then 1000000 else wr (now+10))
 have e:tot (.sl tb) (aFy (r,d,if 1000000<wr (now+10) then 1000000 else wr (now+10)))=(aFy (r,d,if 1000000<wr (now+10) then 1000000 else wr (now+10))).length:=jU rfl
 rw [e]
 omega

def aHb {α β:Type} (p:α→β→Bool):List α→List β→Bool
 | x::xs,y::ys=>p x y&&aHb p xs ys
 | _,_=>true

theorem aW1 {α β R:Type} {a:List α} {b:List β} (p:α→β→Bool) {step:Int→Option (Int⊕(Unit⊕R))} (ρ:R) (hlen:a.length=b.length) (hl:a.length<=4611686018427387904)
  (h: ∀ (k:Nat) (x:α) (y:β),x∈a→y∈b→idx a (k:Int)=some x→idx b (k:Int)=some y→decide ((k:Int)<(a.length:Int))=true→IntKind.i64.wrap ((k:Int)+1)=((k+1:Nat):Int)→step (k:Int)=some (cond (p x y) (.inl ((k+1:Nat):Int)) (.inr (.inr ρ))))
  (he:step (a.length:Int)=some (.inr (.inl ()))):aC step (0:Int)=some (cond (aHb p a b) (.inl ()) (.inr ρ)):=by
 have key: ∀ (ra pa:List α) (rb pb:List β),pa++ra=a→pb++rb=b→pa.length=pb.length→aC step (pa.length:Int)=some (cond (aHb p ra rb) (.inl ()) (.inr ρ)):=by
  intro ra
  induction ra with
  | nil=>intro pa rb pb h1 _ _;rw [bX1] at h1;subst h1;exact bX he
  | cons x ra ih=>
   intro pa rb pb h1 h2 h3
   cases rb with
   | nil=>exfalso;have e1:=congrArg bW9 h1;have e2:=congrArg bW9 h2;simp at e1 e2;omega
   | cons y rb=>
    have hx:a[pa.length]? =some x:=by rw [← h1];simp
    have hy:b[pa.length]? =some y:=by rw [← h2,h3];simp
    have hlt:pa.length<a.length:=by rw [← h1];simp
    have hs:=h pa.length x y (bW6 hx) (bW6 hy) (by rw [aH];exact hx) (by rw [aH];exact hy) (by simpa using hlt) (by rw [wri (by omega) (by omega)];omega)
    simp only [aHb]
    cases hp:p x y with
    | true=>rw [hp] at hs;rw [dS hs];have :=ih (pa++[x]) rb (pb++[y]) (by simpa using h1) (by simpa using h2) (by simp [h3]);simpa using this
    | false=>rw [hp] at hs;exact bX hs
 exact key a [] b [] rfl rfl rfl

theorem aFk {α:Type} (b:Bool) (x y:α):cond b (some x) (some y)=some (cond b x y):=by cases b<;>rfl

theorem bG0 {β:Type} (c:Bool) (f:Unit→Option β) (r:β):Sum.elim f some (cond c (bWt ()) (bWs r))=cond c (f ()) (some r):=by cases c<;>rfl

theorem bHb {α β:Type} (a:List α) (b:List β):((a.length:Int) != (b.length:Int))= !decide (a.length=b.length):=by
 rw [bXl];simp;omega

theorem aZs {α:Type} {p:Prop} [Decidable p] {x y z:α} (h:p→y=z):cond (!decide p) x y=cond (!decide p) x z:=by
 by_cases hp:p
 ·rw [h hp]
 ·simp [hp]

noncomputable def aPc (a b:cZ):Bool:=cond (!decide (a.length=b.length)) false (cond (aHb (fun x y=>(x.1==y.1)&&((x.2.1==y.2.1)&&((x.2.2.1==y.2.2.1)&&((x.2.2.2.1==y.2.2.2.1)&&((x.2.2.2.2==y.2.2.2.2)&&true))))) a b) true false)

theorem bQn {a b:cZ} (ha:a.length<=68719476736):iR a b=some (aPc a b):=by
 unfold iR aPc zz4
 rw [bHb]
 rw [aZs (z:=some (cond (aHb (fun x y=>(x.1==y.1)&&((x.2.1==y.2.1)&&((x.2.2.1==y.2.2.1)&&((x.2.2.2.1==y.2.2.2.1)&&((x.2.2.2.2==y.2.2.2.2)&&true))))) a b) true false)) (fun hlen=>by
  rw [aW1 (a:=a) (b:=b) (fun x y=>(x.1==y.1)&&((x.2.1==y.2.1)&&((x.2.2.1==y.2.2.1)&&((x.2.2.2.1==y.2.2.2.1)&&((x.2.2.2.2==y.2.2.2.2)&&true))))) false hlen (bWv ha (by decide)) (fun k x y mx my ix iy hd hw=>by
   simp only [hd,ix,iy,hw,zZ,aA,aM,bne]
   generalize ((x.1==y.1)&&((x.2.1==y.2.1)&&((x.2.2.1==y.2.2.1)&&((x.2.2.2.1==y.2.2.2.1)&&((x.2.2.2.2==y.2.2.2.2)&&true)))))=c
   cases c<;>rfl) (by simp)]
  simp only [aA,bG0,aFk]),aFk]

noncomputable def aD3 (a b:den tPp):Bool:=cond (a.1==b.1) (cond (a.2.1==b.2.1) (cond (a.2.2.1==b.2.2.1) (aPc a.2.2.2 b.2.2.2) false) false) false

theorem bH7 {a b:den tPp} (ha:SmB 68719476736 tPp a) (hb:SmB 68719476736 tPp b):jV a b=some (aD3 a b):=by
 unfold jV aD3
 simp only [aA,aFk,aM,bQn ha.2.2.2.1]

noncomputable def aP4 (a b:lPp):Bool:=cond (!decide (a.length=b.length)) false (cond (aHb (fun x y=>aD3 x y) a b) true false)

theorem bQc {a b:lPp} (ha:SmB 68719476736 (.sl tPp) a) (hb:SmB 68719476736 (.sl tPp) b):iQ a b=some (aP4 a b):=by
 unfold iQ aP4 pj4
 rw [bHb]
 rw [aZs (z:=some (cond (aHb (fun x y=>aD3 x y) a b) true false)) (fun hlen=>by
  rw [aW1 (a:=a) (b:=b) (fun x y=>aD3 x y) false hlen (bWv ha.1 (by decide)) (fun k x y mx my ix iy hd hw=>by
   simp only [hd,ix,iy,hw,zZ,aA,aM,bH7 (ha.2 x mx) (hb.2 y my)]
   generalize (aD3 x y)=c
   cases c<;>rfl) (by simp)]
  simp only [aA,bG0,aFk]),aFk]

noncomputable def bNq (a b:List Int):Bool:=(xA a).toList==(xA b).toList

theorem bP5 (a b:List Int):sU a b=some (bNq a b):=rfl

noncomputable def aAw (a b:den tPk):Bool:=cond (a.1==b.1) (cond (a.2.1==b.2.1) (cond (a.2.2.1==b.2.2.1) (cond (aP4 a.2.2.2.1 b.2.2.2.1) (cond (a.2.2.2.2.1==b.2.2.2.2.1) (cond (a.2.2.2.2.2.1==b.2.2.2.2.2.1) (cond (a.2.2.2.2.2.2.1==b.2.2.2.2.2.2.1) (cond (a.2.2.2.2.2.2.2.1==b.2.2.2.2.2.2.2.1) (cond (a.2.2.2.2.2.2.2.2.1==b.2.2.2.2.2.2.2.2.1) (bNq a.2.2.2.2.2.2.2.2.2 b.2.2.2.2.2.2.2.2.2) false) false) false) false) false) false) false) false) false

theorem bO9 {a b:den tPk} (ha:SmB 68719476736 tPk a) (hb:SmB 68719476736 tPk b):kM a b=some (aAw a b):=by
 unfold kM aAw zz4 zz5 zz6 zz7 zz8 zz9
 simp only [aA,aFk,aM,bP5,bQc ha.2.2.2.1 hb.2.2.2.1]

def aNw (b:List Int) (p:Nat):Nat→Nat→Nat→Int×Int×Bool
 | 0,_,_=>(0,0,false)
 | f+1,k,n=>match b[p+k]? with
  | none=>(0,0,false)
  | some x=>
   if x.toNat<128 then (if (decide (x.toNat=0)&&decide (0<k))||decide (1000000000000<n+x.toNat % 128 * 2 ^ (7 * k)) then (0,0,false) else (((n+x.toNat % 128 * 2 ^ (7 * k):Nat):Int),((p+k+1:Nat):Int),true))
   else aNw b p f (k+1) (n+x.toNat % 128 * 2 ^ (7 * k))

theorem aRp {k:Nat} (h:k<6):2 ^ (7 * k)<=34359738368:=bWv (Nat.pow_le_pow_right (by decide) (show 7 * k<=35 by omega)) (by decide)

theorem bGo {n c k:Nat} (h:n<2 ^ (7 * k)) (hc:c<128):n+c * 2 ^ (7 * k)<2 ^ (7 * (k+1)):=by
 have e:2 ^ (7 * (k+1))=128 * 2 ^ (7 * k):=by rw [show 7 * (k+1)=7 * k+7 by omega,Nat.pow_add];omega
 have :c * 2 ^ (7 * k)<=127 * 2 ^ (7 * k):=Nat.mul_le_mul_right _ (by omega)
 omega

theorem aRx {c k:Nat} (hk:k<6) (hc:c<128):c * 2 ^ (7 * k)<=4398046511104:=bWv (Nat.mul_le_mul (show c<=128 by omega) (aRp hk)) (by decide)

theorem bAd {S:Type} (b:List Int) (p:Nat) (hb: ∀ x∈b,0<=x∧x<=255) (enc:Nat→Nat→S) {step:S→Option (S⊕(Unit⊕q27))}
  (h0: ∀ n,step (enc 6 n)=some (.inr (.inl ())))
  (h1: ∀ k n,k<6→b[p+k]? =none→step (enc k n)=some (.inr (.inl ()))∨step (enc k n)=some (.inr (.inr (0,0,false))))
  (h2: ∀ k n (m:Nat),k<6→n<2 ^ (7 * k)→m<=255→b[p+k]? =some (m:Int)→step (enc k n)=some (if m<128 then .inr (.inr (if (decide (m=0)&&decide (0<k))||decide (1000000000000<n+m % 128 * 2 ^ (7 * k)) then (0,0,false) else (((n+m % 128 * 2 ^ (7 * k):Nat):Int),((p+k+1:Nat):Int),true))) else .inl (enc (k+1) (n+m % 128 * 2 ^ (7 * k))))):
  ∀ f k n,f+k=6→n<2 ^ (7 * k)→ @Option.bind (Unit⊕q27) q27 (aC step (enc k n)) (fun z=>Sum.elim (fun _=>some ((0:Int),(0:Int),false)) some z)=some (aNw b p f k n):=by
 intro f
 induction f with
 | zero=>
  intro k n hk hn
  have :k=6:=by omega
  subst this
  rw [bX (h0 n)]
  rfl
 | succ f ih=>
  intro k n hk hn
  have hk6:k<6:=by omega
  unfold aNw
  cases hx:b[p+k]? with
  | none=>rcases h1 k n hk6 hx with h | h<;>rw [bX h]<;>rfl
  | some x=>
   obtain ⟨x0,x1⟩:=hb x (bW6 hx)
   obtain ⟨m,rfl⟩: ∃ m:Nat,x=(m:Int):=⟨x.toNat,by omega⟩
   have hs:=h2 k n m hk6 hn (by omega) hx
   simp only [bW4]
   by_cases hm:m<128
   ·rw [zT hm] at hs ⊢
    rw [bX hs]
    rfl
   ·rw [zS hm] at hs ⊢
    rw [dS hs]
    exact ih (k+1) _ (by omega) (bGo hn (Nat.mod_lt _ (by decide)))

theorem aZj {a c:Nat} (hc:c<=35) (h:a * 2 ^ c<=4398046511104):shl .i64 (a:Int) (c:Int)=((a * 2 ^ c:Nat):Int):=by
 unfold shl
 have e:min ((c:Int)).toNat IntKind.i64.bits=c:=by simp [IntKind.bits];omega
 rw [e]
 have e2:(a:Int) * 2 ^ c=((a * 2 ^ c:Nat):Int):=by simp
 rw [e2]
 exact wri (by omega) (by omega)

theorem bPd {n c k:Nat} (hk:k<6) (hn:n<2 ^ (7 * k)) (hc:c<128):bOr .i64 (n:Int) ((c * 2 ^ (7 * k):Nat):Int)=((n+c * 2 ^ (7 * k):Nat):Int):=by
 have hm:=aRx hk hc
 have hp:=aRp hk
 have e:(BitVec.ofInt 64 (n:Int) ||| BitVec.ofInt 64 ((c * 2 ^ (7 * k):Nat):Int)).toNat=n+c * 2 ^ (7 * k):=by
  rw [BitVec.toNat_or]
  have e1:(BitVec.ofInt 64 (n:Int)).toNat=n:=by simp;omega
  have e2:(BitVec.ofInt 64 ((c * 2 ^ (7 * k):Nat):Int)).toNat=c * 2 ^ (7 * k):=by
   generalize c * 2 ^ (7 * k)=q at hm
   simp;omega
  rw [e1,e2,Nat.or_comm]
  have :=Nat.two_pow_add_eq_or_of_lt (i:=7 * k) (b:=n) hn c
  rw [Nat.mul_comm c,← this];omega
 unfold bOr
 show IntKind.i64.wrap (((BitVec.ofInt 64 (n:Int) ||| BitVec.ofInt 64 ((c * 2 ^ (7 * k):Nat):Int)).toNat:Nat):Int)=_
 rw [e]
 exact wri (by omega) (by omega)

theorem aU3 {n:Nat} (h:n<256):IntKind.wrap .u64 (n:Int)=(n:Int):=by
 simp only [IntKind.wrap,IntKind.signed,IntKind.bits]
 simp
 omega

def rv (b:List Int) (p:Nat):q27:=aNw b p 6 0 0

theorem aTg (k:Nat):(7:Int) * (k:Int)=((7 * k:Nat):Int):=by omega

theorem bVx {b:List Int} {p:Nat} (hb: ∀ x∈b,0<=x∧x<=255) (hl:b.length<=68719476736) (hp:p<=b.length):qG b (p:Int)=some (rv b p):=by
 unfold qG
 have e0:decide ((p:Int)<0)=false:=by simp
 rw [e0,zY]
 refine bAd b p hb (fun k n=>(((p+k:Nat):Int),(n:Int),(k:Int))) (fun n=>by simp) (fun k n hk hx=> ?_) (fun k n m hk hn hm hx=> ?_) 6 0 0 rfl (by simp)
 ·left
  have h1:decide (((p+k:Nat):Int)<(b.length:Int))=false:=by
   have :=List.getElem?_eq_none_iff.1 hx
   simp;omega
  simp only [h1]
  cases decide ((k:Int)<6)<;>rfl
 ·have h0:=(bW1.1 hx).1
  have h1:decide (((p+k:Nat):Int)<(b.length:Int))=true:=by simp;omega
  have h2:decide ((k:Int)<6)=true:=by simp;omega
  have h3:idx b ((p+k:Nat):Int)=some (m:Int):=by rw [aH];exact hx
  have h4:wr ((7 * k:Nat):Int)=((7 * k:Nat):Int):=wri (by omega) (by omega)
  have h5:wr (m:Int)=(m:Int):=wri (by omega) (by omega)
  have h6:decide (((7 * k:Nat):Int)<0)=false:=by simp;omega
  have h7:bXr (m:Int) 128=((m % 128:Nat):Int):=rfl
  have hq:=aRx (c:=m % 128) hk (Nat.mod_lt _ (by decide))
  have hr:=aRp hk
  have h8:wr ((n:Int)+((m % 128 * 2 ^ (7 * k):Nat):Int))=((n+m % 128 * 2 ^ (7 * k):Nat):Int):=by
   generalize m % 128 * 2 ^ (7 * k)=q at hq
   have :wr ((n:Int)+(q:Int))=(n:Int)+(q:Int):=wri (by omega) (by omega)
   rw [this];omega
  have h9:wr (((p+k:Nat):Int)+1)=((p+k+1:Nat):Int):=by
   have :wr (((p+k:Nat):Int)+1)=((p+k:Nat):Int)+1:=wri (by omega) (by omega)
   rw [this];omega
  have ha:wr ((k:Int)+1)=((k+1:Nat):Int):=by
   have :wr ((k:Int)+1)=(k:Int)+1:=wri (by omega) (by omega)
   rw [this];omega
  simp only [h1,h2,h3,zZ,aA,aTg,h4,aU3 (n:=7 * k) (by omega),h6,zY,h5,h7,aZj (a:=m % 128) (c:=7 * k) (by omega) hq,h8,h9,ha]
  generalize n+m % 128 * 2 ^ (7 * k)=q
  by_cases c1:m<128
  ·have e1:decide ((m:Int)<128)=true:=by simp;omega
   have e2:((m:Int)==0)=decide (m=0):=by rw [bXl];simp
   have e3:decide ((k:Int)>0)=decide (0<k):=by rw [bXl];simp
   have e4:decide ((q:Int)>1000000000000)=decide (1000000000000<q):=by rw [bXl];simp;omega
   simp only [e1,e2,e3,e4,zZ,zT c1]
   cases decide (m=0)<;>cases decide (0<k)<;>cases decide (1000000000000<q)<;>rfl
  ·have e1:decide ((m:Int)<128)=false:=by simp;omega
   simp only [e1,zY,zS c1]
   rfl

theorem bVp {b:List Int} {p:Nat} (hb: ∀ x∈b,0<=x∧x<=255) (hl:b.length<=68719476736) (hp:p<=b.length):qI b (p:Int)=some (rv b p):=by
 unfold qI
 have e0:decide ((p:Int)<0)=false:=by simp
 refine bAd b p hb (fun k n=>((n:Int),(k:Int))) (fun n=>by simp) (fun k n hk hx=> ?_) (fun k n m hk hn hm hx=> ?_) 6 0 0 rfl (by simp)
 ·right
  have hw:wr ((b.length:Int) - (k:Int))=(b.length:Int) - (k:Int):=wri (by omega) (by omega)
  have h1:decide ((p:Int)>=(b.length:Int) - (k:Int))=true:=by
   have :=List.getElem?_eq_none_iff.1 hx
   simp;omega
  have h2:decide ((k:Int)<6)=true:=by simp;omega
  simp only [h2,e0,hw,h1,zZ,zY,aA]
 ·have h0:=(bW1.1 hx).1
  have hw:wr ((b.length:Int) - (k:Int))=(b.length:Int) - (k:Int):=wri (by omega) (by omega)
  have h1:decide ((p:Int)>=(b.length:Int) - (k:Int))=false:=by simp;omega
  have h2:decide ((k:Int)<6)=true:=by simp;omega
  have hpk:wr ((p:Int)+(k:Int))=((p+k:Nat):Int):=by
   have :wr ((p:Int)+(k:Int))=(p:Int)+(k:Int):=wri (by omega) (by omega)
   rw [this];omega
  have h3:idx b ((p+k:Nat):Int)=some (m:Int):=by rw [aH];exact hx
  have h4:wr ((7 * k:Nat):Int)=((7 * k:Nat):Int):=wri (by omega) (by omega)
  have h5:wr (m:Int)=(m:Int):=wri (by omega) (by omega)
  have h6:decide (((7 * k:Nat):Int)<0)=false:=by simp;omega
  have hq:=aRx (c:=m % 128) hk (Nat.mod_lt _ (by decide))
  have h9:wr (((p+k:Nat):Int)+1)=((p+k+1:Nat):Int):=by
   have :wr (((p+k:Nat):Int)+1)=((p+k:Nat):Int)+1:=wri (by omega) (by omega)
   rw [this];omega
  have ha:wr ((k:Int)+1)=((k+1:Nat):Int):=by
   have :wr ((k:Int)+1)=(k:Int)+1:=wri (by omega) (by omega)
   rw [this];omega
  simp only [h1,h2,hw,e0,hpk,h3,zZ,zY,aA,aTg,h4,h6,h5,aWe (n:=m) (by omega),aZj (a:=m % 128) (c:=7 * k) (by omega) hq,bPd (c:=m % 128) hk hn (Nat.mod_lt _ (by decide)),h9,ha]
  generalize n+m % 128 * 2 ^ (7 * k)=q
  by_cases c1:m<128
  ·have e1:decide ((m:Int)<128)=true:=by simp;omega
   have e2:((m:Int)==0)=decide (m=0):=by rw [bXl];simp
   have e3:decide ((k:Int)>0)=decide (0<k):=by rw [bXl];simp
   have e4:decide ((q:Int)>1000000000000)=decide (1000000000000<q):=by rw [bXl];simp;omega
   simp only [e1,e2,e3,e4,zZ,zT c1]
   cases decide (m=0)<;>cases decide (0<k)<;>cases decide (1000000000000<q)<;>rfl
  ·have e1:decide ((m:Int)<128)=false:=by simp;omega
   simp only [e1,zY,zS c1]

theorem aZt {b:List Int} {p:Nat}: ∀ (f k n:Nat),(aNw b p f k n).2.2=true→ ∃ q:Nat,(aNw b p f k n).2.1=(q:Int)∧q<=b.length
 | 0,k,n,h=>by cases h
 | f+1,k,n,h=>by
  unfold aNw at h ⊢
  cases hx:b[p+k]? with
  | none=>rw [hx] at h;cases h
  | some x=>
   rw [hx] at h
   have hlt:=(bW1.1 hx).1
   simp only at h ⊢
   by_cases c:x.toNat<128
   ·rw [zT c] at h ⊢
    split at h
    ·cases h
    ·rename_i c2
     rw [zS c2]
     exact ⟨p+k+1,rfl,hlt⟩
   ·rw [zS c] at h ⊢
    exact aZt f (k+1) _ h

theorem bOn {b:List Int} {p:Nat} (h:(rv b p).2.2=true): ∃ q:Nat,(rv b p).2.1=(q:Int)∧q<=b.length:=aZt 6 0 0 h

def aLh (b:List Int):Int×Bool×List Int:=
 cond (rv b 0).2.2 (cond (rv b (rv b 0).2.1.toNat).2.2 (cond (rv b (rv b (rv b 0).2.1.toNat).2.1.toNat).2.2
  ((rv b (rv b (rv b 0).2.1.toNat).2.1.toNat).2.1,true,[(rv b 0).1,(rv b (rv b 0).2.1.toNat).1,(rv b (rv b (rv b 0).2.1.toNat).2.1.toNat).1]) (0,false,[])) (0,false,[])) (0,false,[])

theorem aYy (b:List Int):aLh b=(0,false,[])∨ ∃ q x y z,aLh b=(q,true,[x,y,z]):=by
 unfold aLh
 cases (rv b 0).2.2
 ·exact .inl rfl
 ·cases (rv b (rv b 0).2.1.toNat).2.2
  ·exact .inl rfl
  ·cases (rv b (rv b (rv b 0).2.1.toNat).2.1.toNat).2.2
   ·exact .inl rfl
   ·exact .inr ⟨_,_,_,_,rfl⟩

theorem aU5 {b:List Int} {step:Int×Int×List Int→Option ((Int×Int×List Int)⊕((Int×List Int)⊕(Int×Bool×List Int)))}
  (hs: ∀ (p:Nat) (i:Nat) (out:List Int),p<=b.length→i<3→out.length<=3→step ((p:Int),(i:Int),out)=some (cond (rv b p).2.2 (.inl ((rv b p).2.1,((i+1:Nat):Int),out++[(rv b p).1])) (.inr (.inr (0,false,[])))))
  (he: ∀ p out,step (p,3,out)=some (.inr (.inl (p,out)))):
  @Option.bind ((Int×List Int)⊕(Int×Bool×List Int)) (Int×Bool×List Int) (aC step ((0:Int),(0:Int),([]:List Int))) (fun z=>Sum.elim (fun s8=>some (s8.1,true,s8.2)) some z)=some (aLh b):=by
 have h1:=hs 0 0 [] (bXf _) (by decide) (by decide)
 unfold aLh
 cases c1:(rv b 0).2.2 with
 | false=>rw [c1] at h1;rw [bX (s:=((0:Int),(0:Int),([]:List Int))) h1];rfl
 | true=>
  rw [c1] at h1
  obtain ⟨q1,e1,l1⟩:=bOn c1
  rw [dS (s:=((0:Int),(0:Int),([]:List Int))) h1]
  rw [e1]
  simp only [zZ,bW4]
  have h2:=hs q1 (0+1) ([]++[(rv b 0).1]) l1 (by decide) (by simp)
  cases c2:(rv b q1).2.2 with
  | false=>rw [c2] at h2;rw [bX h2];rfl
  | true=>
   rw [c2] at h2
   obtain ⟨q2,e2,l2⟩:=bOn c2
   rw [dS h2]
   rw [e2]
   simp only [zZ,bW4]
   have h3:=hs q2 (0+1+1) ([]++[(rv b 0).1]++[(rv b q1).1]) l2 (by decide) (by simp)
   cases c3:(rv b q2).2.2 with
   | false=>rw [c3] at h3;rw [bX h3];rfl
   | true=>
    rw [c3] at h3
    rw [dS h3]
    rw [bX (s:=((rv b q2).2.1,((0+1+1+1:Nat):Int),[]++[(rv b 0).1]++[(rv b q1).1]++[(rv b q2).1])) (he _ _)]
    rfl

theorem bSf {b:List Int} (hb: ∀ x∈b,0<=x∧x<=255) (hl:b.length<=68719476736):qK b 0 3=some (aLh b):=by
 unfold qK
 have r1:inR 3 0 100=true:=by decide
 have r2:inR 0 0 (b.length:Int)=true:=by rw [bJ];omega
 simp only [kN,aA,r1,r2,bWx,zY]
 refine aU5 (fun p i out hp hi ho=> ?_) (fun p out=>by simp)
 have e1:decide ((i:Int)<3)=true:=by simp;omega
 have e2:wr ((i:Int)+1)=((i+1:Nat):Int):=by
  have :wr ((i:Int)+1)=(i:Int)+1:=wri (by omega) (by omega)
  rw [this];omega
 simp only [e1,zZ,bVx hb hl hp,aA,e2,aD (b:=8) (n:=out.length) (m:=1) (by decide) (by omega)]
 cases (rv b p).2.2<;>rfl

theorem bRl {b:List Int} (hb: ∀ x∈b,0<=x∧x<=255) (hl:b.length<=68719476736):qL b 0 3=some (aLh b):=by
 unfold qL
 have r1:inR 3 0 100=true:=by decide
 have r2:inR 0 0 (b.length:Int)=true:=by rw [bJ];omega
 simp only [iH,aA,r1,r2,bWx,zY]
 refine aU5 (fun p i out hp hi ho=> ?_) (fun p out=>by simp)
 have e1:decide ((i:Int)<3)=true:=by simp;omega
 have e2:wr ((i:Int)+1)=((i+1:Nat):Int):=by
  have :wr ((i:Int)+1)=(i:Int)+1:=wri (by omega) (by omega)
  rw [this];omega
 simp only [e1,zZ,bVp hb hl hp,aA,e2,aD (b:=8) (n:=out.length) (m:=1) (by decide) (by omega)]
 cases (rv b p).2.2<;>rfl


def vQ (b:List Int):Int×q27:=
 match aLh b with
 | (q,true,[x,y,z])=>cond (q==(b.length:Int)) (cond (dU (x,y,z)) (x,y,z,true) (0,0,0,false)) (0,0,0,false)
 | _=>(0,0,0,false)

theorem bRr {b:List Int} (hb: ∀ x∈b,0<=x∧x<=255) (hl:b.length<=68719476736):iE b=some (vQ b):=by
 unfold iE vQ ixb
 rw [bSf hb hl]
 rcases aYy b with h | ⟨q,x,y,z,h⟩
 ·rw [h];rfl
 ·rw [h]
  simp only [aA,bWx,zY,bne,aCn]
  cases q==(b.length:Int)
  ·rfl
  ·cases hv:dU (x,y,z)<;>simp [hv]

theorem bRs {b:List Int} (hb: ∀ x∈b,0<=x∧x<=255) (hl:b.length<=68719476736):hP b=some (vQ b):=by
 unfold hP vQ ixb
 rw [bRl hb hl]
 rcases aYy b with h | ⟨q,x,y,z,h⟩
 ·rw [h];rfl
 ·rw [h]
  simp only [aA,bWx,zY,bne,aC0]
  cases q==(b.length:Int)
  ·rfl
  ·cases hv:dU (x,y,z)<;>simp [hv]

def aAc (x:den tRv) (l:lRv) (k:Nat) (y:den tRv):Option lRv:=
 cond (y.1==x.1) (cond (y.2.1==x.2.1) (some (l.set k (y.1,y.2.1,if x.2.2>y.2.2 then x.2.2 else y.2.2))) none) none

def aH9 (l:lRv) (x:den tRv):lRv:=
 cond (dU x) (match cE (aAc x l) 0 l with
  | some r=>r
  | none=>if 16<l.length+1 then (l++[x]).drop 1 else l++[x]) l

theorem bAa {α:Type} {l:List α} (h:0<l.length):cut l (1:Int) (l.length:Int)=l.drop 1:=aU1 (k:=1) h

theorem aWm (l:lRv) (x:den tRv):decide (((l++[x]).length:Int)>16)=decide (16<l.length+1):=by
 rw [bXl];simp;omega

theorem bT1 {l:lRv} {x:den tRv} (h:l.length<=1073741824):lJ l x=some (aH9 l x):=by
 unfold lJ aH9 ixb pj3
 rw [aRb (show l.length<=68719476736 by omega)]
 simp only [aA,aM,aCn]
 cases hv:dU x with
 | false=>rfl
 | true=>
  simp only [bWx,zY,zZ]
  rw [aX (l:=l) (aAc x l) (by omega) (fun k y hi hd hw hm hk=>by
   have hy:l[k]? =some y:=by rw [← aH];exact hi
   simp only [hd,zZ,fG,bW4,hy,aA,bOf,hw]
   unfold aAc
   cases y.1==x.1
   ·rfl
   ·cases y.2.1==x.2.1<;>rfl) (by simp)]
  cases cE (aAc x l) 0 l with
  | some r=>rfl
  | none=>
   have e1:bY (1:Int) ((l++[x]).length:Int) ((l++[x]).length:Int)=true:=by
    have :=aDa (a:=1) (b:=(l++[x]).length) (n:=(l++[x]).length)
    rw [show ((1:Nat):Int)=1 from rfl] at this
    rw [this];simp
   have e2:=bAa (l:=l++[x]) (by simp)
   simp only [aA,bX4,aD (b:=24) (n:=l.length) (m:=1) (by decide) (by omega),zZ,aWm,e1,e2,aRb (l:=(l++[x]).drop 1) (by simp;omega)]
   by_cases c:16<l.length+1
   ·have c2:(16:Int)<(l.length:Int)+1:=by omega
    simp [c,c2]
   ·have c2: ¬ (16:Int)<(l.length:Int)+1:=by omega
    simp [c,c2]

theorem bTg {l:lRv} {x:den tRv} (h:l.length<=1073741824):lB l x=some (aH9 l x):=by
 unfold lB aH9 ixb pj3
 rw [aD (b:=24) (n:=([]:lRv).length) (by decide) (by simp;omega)]
 simp only [zZ,aA,aM,aC0,bXo]
 cases hv:dU x with
 | false=>rfl
 | true=>
  simp only [bWx,zY,zZ]
  rw [aX (l:=l) (aAc x l) (by omega) (fun k y hi hd hw hm hk=>by
   have hy:l[k]? =some y:=by rw [← aH];exact hi
   have hk2:decide (k<l.length)=true:=by simpa using hk
   simp only [hd,zZ,fG,bW4,hy,aA,bCs,hw,hk2]
   unfold aAc
   cases y.1==x.1
   ·rfl
   ·cases y.2.1==x.2.1<;>rfl) (by simp)]
  cases cE (aAc x l) 0 l with
  | some r=>rfl
  | none=>
   have e1:bY (1:Int) ((l++[x]).length:Int) ((l++[x]).length:Int)=true:=by
    have :=aDa (a:=1) (b:=(l++[x]).length) (n:=(l++[x]).length)
    rw [show ((1:Nat):Int)=1 from rfl] at this
    rw [this];simp
   have e2:=bAa (l:=l++[x]) (by simp)
   simp only [aA,bX4,aD (b:=24) (n:=l.length) (m:=1) (by decide) (by omega),zZ,aWm,e1,e2]
   by_cases c:16<l.length+1
   ·have c2:(16:Int)<(l.length:Int)+1:=by omega
    simp [c,c2]
   ·have c2: ¬ (16:Int)<(l.length:Int)+1:=by omega
    simp [c,c2]

def aK5 (s:den yK) (a:List Int):List Int:=
 (fun b=>cond (s.2.2 != 0) (b++[wr (wr (8 * s.1)+s.2.2)]) b) (cond (s.2.1 != 0) (a++[wr (wr (8 * s.1)+s.2.1)]) a)

theorem aNf (s:den yK) (a:List Int):(aK5 s a).length<=a.length+2:=by
 unfold aK5
 cases s.2.1 != 0<;>cases s.2.2 != 0<;>simp

def iK (p:den tPt):List Int:=cN (fun _ s a=>aK5 s a) 0 (gT p) []

theorem aFa {α:Type} (l:List α):(l.map fun _=>2).sum=2 * l.length:=by
 induction l with
 | nil=>rfl
 | cons x l ih=>simp only [bXg,bYb,ih,bXy];omega

theorem aZ0 {p:den tPt} (h:tot tPt p<=1073741824):fS p=some (iK p):=by
 have hl:=aBt p
 unfold fS xC iK
 rw [aRw (bWv h (by decide))]
 simp only [aA]
 rw [nU (fun k (a:List Int)=>((k:Int),a)) ((0:Int),[]) [] (gT p) (fun _ s a=>aK5 s a) bW9 (fun _=>2) 68719476736 id rfl (by omega) (by rw [aFa];simp;omega) (fun k x a=>aNf x a) (fun k x a hi hx hd hw hk hb=>by
  simp only [hd,hi,hw,zZ,aA,aD (b:=8) (n:=a.length) (m:=1) (by decide) (by omega)]
  unfold aK5
  cases x.2.1 != 0<;>cases x.2.2 != 0<;>simp [aD (b:=8) (n:=a.length) (m:=1) (by decide) (by omega),aD (b:=8) (n:=a.length+1) (m:=1) (by decide) (by omega)]) (fun a=>by simp)]
 rfl

theorem aZ2 {p:den tPt} (h:tot tPt p<=1073741824):fT p=some (iK p):=by
 have hl:=aBt p
 unfold fT iK ixb
 rw [aE7 (bWv h (by decide))]
 simp only [aA]
 rw [nU (fun k (a:List Int)=>((k:Int),a)) ((0:Int),[]) [] (gT p) (fun _ s a=>aK5 s a) bW9 (fun _=>2) 68719476736 id rfl (by omega) (by rw [aFa];simp;omega) (fun k x a=>aNf x a) (fun k x a hi hx hd hw hk hb=>by
  simp only [hd,hx,hw,zZ,aA,fG,bW4,aD (b:=8) (n:=a.length) (m:=1) (by decide) (by omega)]
  unfold aK5
  cases x.2.1 != 0<;>cases x.2.2 != 0<;>simp [aD (b:=8) (n:=a.length) (m:=1) (by decide) (by omega),aD (b:=8) (n:=a.length+1) (m:=1) (by decide) (by omega)]) (fun a=>by simp)]
 rfl

def nQ (l:List Int) (n:Int):Bool:= !(l.all fun x=> !(x==n))

theorem aK7 {l:List Int} {n:Int} (h:l.length<=68719476736):mN l n=some (nQ l n):=by
 unfold mN nQ
 rw [aX (l:=l) (fun _ x=>if !(x==n) then none else some true) (by omega) (fun k x hi hd hw hm hk=>by
  simp only [hd,hi,hw,zZ,aA]
  cases x==n<;>rfl) (by simp),oD (fun x:Int=> !(x==n))]
 cases l.all (fun x=> !(x==n))<;>rfl

theorem aGa {l:List Int} {n:Int} (h:l.length<=68719476736):fF l n=some (nQ l n):=by
 unfold fF nQ
 rw [aX (l:=l) (fun _ x=>if !(x==n) then none else some true) (by omega) (fun k x hi hd hw hm hk=>by
  simp only [hd,hi,hw,zZ,aA]
  cases x==n<;>rfl) (by simp),oD (fun x:Int=> !(x==n))]
 cases l.all (fun x=> !(x==n))<;>rfl

theorem aG0 (p:den tPt):(iK p).length<=2 * tot tPt p:=by
 have h:=aBs (f:=fun _ s (a:List Int)=>aK5 s a) (m:=bW9) (cost:=fun _=>2) (fun k x a=>aNf x a) (gT p) 0 []
 have hl:=aBt p
 rw [aFa] at h
 unfold iK
 simp at h
 omega

def rC (p:den tPt) (x:den tRv):Bool:=dU x&&nQ (iK p) (wr (wr (8 * x.1)+x.2.1))

theorem bF6 {p:den tPt} {x:den tRv} (h:tot tPt p<=1073741824):qC p x=some (rC p x):=by
 have :=aG0 p
 unfold qC rC pj3
 simp only [aM,aCn,aA,aZ0 h,aK7 (l:=iK p) (by omega)]
 cases dU x<;>rfl

theorem aTc {p:den tPt} {x:den tRv} (h:tot tPt p<=1073741824):qA p x=some (rC p x):=by
 have :=aG0 p
 unfold qA rC pj3
 simp only [aM,aC0,aA,aZ2 h,aGa (l:=iK p) (by omega)]
 cases dU x<;>rfl

theorem aKb {α R:Type} (m:R→Nat) (B:Nat) {g:Nat→α→Option R}: ∀ {l:List α} {k:Nat},(∀ j x r,l[j]? =some x→g (k+j) x=some r→m r<=B)→ ∀ r,cE g k l=some r→m r<=B
 | [],_,_,r,h=>by cases h
 | x::xs,k,hg,r,h=>by
  simp only [cE] at h
  cases hx:g k x with
  | some r'=>rw [hx] at h;injection h with h;subst h;exact hg 0 x r' rfl hx
  | none=>
   rw [hx] at h
   exact aKb m B (fun j y r hy hr=>hg (j+1) y r (by simpa using hy) (by rw [show k+(j+1)=k+1+j by omega];exact hr)) r h

theorem bH0 (l:lRv):tot (.sl tRv) l=l.length:=by
 induction l with
 | nil=>rfl
 | cons x l ih=>rw [kW,ih];simp [tot];omega

theorem bLj (l:lRv) (x:den tRv):tot (.sl tRv) (aH9 l x)<=l.length+1:=by
 rw [bH0]
 unfold aH9
 cases dU x with
 | false=>simp
 | true=>
  simp only [zZ]
  cases hs:cE (aAc x l) 0 l with
  | some r=>
   refine aKb bW9 (l.length+1) (g:=aAc x l) (l:=l) (k:=0) (fun j y r' hy hr=> ?_) r hs
   unfold aAc at hr
   cases c1:y.1==x.1 with
   | false=>rw [c1] at hr;cases hr
   | true=>
    cases c2:y.2.1==x.2.1 with
    | false=>rw [c1,c2] at hr;cases hr
    | true=>rw [c1,c2] at hr;injection hr with hr;rw [← hr];simp
  | none=>
   by_cases c:16<l.length+1
   ·simp [c]
   ·simp [c]

def aQr (f:den tFl) (x:den tRv):Bool:=inR f.2.2.2.2.2.2.1 0 ((f.2.2.2.2.2.1.length:Int) - 1)&&rC ((f.2.2.2.2.2.1[f.2.2.2.2.2.2.1.toNat]?).getD []) x

def aAa (b:List Int):den tRv:=((vQ b).1,(vQ b).2.1,(vQ b).2.2.1)

def xO (f:den tFl) (p:den tPk):den tFl:=
 cond (p.1==3&&(vQ p.2.2.2.2.2.2.2.2.2).2.2.2)
  (f.1,f.2.1,f.2.2.1,f.2.2.2.1,f.2.2.2.2.1,f.2.2.2.2.2.1,cond (aQr f (aAa p.2.2.2.2.2.2.2.2.2)) (uV f) f.2.2.2.2.2.2.1,cond (aQr f (aAa p.2.2.2.2.2.2.2.2.2)) 0 f.2.2.2.2.2.2.2.1,aH9 f.2.2.2.2.2.2.2.2 (aAa p.2.2.2.2.2.2.2.2.2)) f


def bU7 (f:den tFl):q35:=(f.1,f.2.1,f.2.2.1,f.2.2.2.1,f.2.2.2.2.2.2.1,f.2.2.2.2.2.2.2.1,f.2.2.2.2.2.2.2.2,f.2.2.2.2.1,f.2.2.2.2.2.1)

theorem aYj {f:den tFl} (h:tot tFl f<=1073741824) (hr:inR f.2.2.2.2.2.2.1 0 ((f.2.2.2.2.2.1.length:Int) - 1)=true): ∃ q,f.2.2.2.2.2.1[f.2.2.2.2.2.2.1.toNat]? =some q∧idx f.2.2.2.2.2.1 f.2.2.2.2.2.2.1=some q∧tot tPt q<=1073741824:=by
 obtain ⟨h0,h1⟩:=bJ.1 hr
 obtain ⟨q,hq⟩:=yM h0 h1
 have ht:=yA (t:=tPt) hq
 have hp:tot (.sl tPt) f.2.2.2.2.2.1<=1073741824:=aGg (bF (bF (bF (bF (bF h)))))
 exact ⟨q,hq,aHp h0 hq,by omega⟩

theorem bQx {f:den tFl} {p:den tPk} {now:Int} (h:tot tFl f<=1073741824) (hp:tot tPk p<=1073741824) (hb: ∀ x∈p.2.2.2.2.2.2.2.2.2,0<=x∧x<=255):iB f p now=some (nR (xO f p)):=by
 have hf:SmB 68719476736 tFl f:=(bG h).mono (by decide)
 have hl:p.2.2.2.2.2.2.2.2.2.length<=68719476736:=bWv (eR (t:=tb) _) (bWv (bF (bF (bF (bF (bF (bF (bF (bF (bF hp))))))))) (by decide))
 have hv:f.2.2.2.2.2.2.2.2.length<=1073741824:=bWv (eR (t:=tRv) _) (bF (bF (bF (bF (bF (bF (bF (bF h))))))))
 have hn:f.2.2.2.2.2.1.length<=68719476736:=hf.2.2.2.2.2.1.1
 unfold iB xO pj9 zz4 zz5 zz6 zz7 zz8 zz9
 simp only [aM,aH3 hf,aA,bRr hb hl,kN,mD hn,aYr,bT1 hv,bne]
 cases c1:p.1==3
 ·simp only [bW7,zZ,aA,bXj,zY]
 ·cases c2:(vQ p.2.2.2.2.2.2.2.2.2).2.2.2
  ·simp only [bWx,bW7,zZ,zY,aA,bXe]
  ·simp only [bWx,zZ,zY,aA,bXe]
   unfold aQr
   cases c3:inR f.2.2.2.2.2.2.1 0 ((f.2.2.2.2.2.1.length:Int) - 1)
   ·simp only [zY,aA,bXj];rfl
   ·obtain ⟨q,hq,hi,ht⟩:=aYj h c3
    have ha:=bF6 (p:=q) (x:=aAa p.2.2.2.2.2.2.2.2.2) ht
    have ha:qC q ((vQ p.2.2.2.2.2.2.2.2.2).1,(vQ p.2.2.2.2.2.2.2.2.2).2.1,(vQ p.2.2.2.2.2.2.2.2.2).2.2.1)=some (rC q (aAa p.2.2.2.2.2.2.2.2.2)):=ha
    simp only [zZ,hi,hq,bXs,aA,ha,bXe]
    cases rC q (aAa p.2.2.2.2.2.2.2.2.2)<;>rfl

theorem bP2 {f:den tFl} {p:den tPk} {now:Int} (h:tot tFl f<=1073741824) (hp:tot tPk p<=1073741824) (hb: ∀ x∈p.2.2.2.2.2.2.2.2.2,0<=x∧x<=255):iD f p now=some (bU7 (xO f p)):=by
 have hf:SmB 68719476736 tFl f:=(bG h).mono (by decide)
 have hl:p.2.2.2.2.2.2.2.2.2.length<=68719476736:=bWv (eR (t:=tb) _) (bWv (bF (bF (bF (bF (bF (bF (bF (bF (bF hp))))))))) (by decide))
 have hv:f.2.2.2.2.2.2.2.2.length<=1073741824:=bWv (eR (t:=tRv) _) (bF (bF (bF (bF (bF (bF (bF (bF h))))))))
 have hn:f.2.2.2.2.2.1.length<=68719476736:=hf.2.2.2.2.2.1.1
 unfold iD xO pj3 pj9 zz4 zz5 zz6 zz7 zz8 zz9
 simp only [aM,aC8 hf,aA,bRs hb hl,iH,mD hn,bTg hv,bne]
 cases c1:p.1==3
 ·simp only [bW7,zZ,aA,bXj,zY];rfl
 ·cases c2:(vQ p.2.2.2.2.2.2.2.2.2).2.2.2
  ·simp only [bWx,bW7,zZ,zY,aA,bXe];rfl
  ·simp only [bWx,zZ,zY,aA,bXe]
   unfold aQr
   cases c3:inR f.2.2.2.2.2.2.1 0 ((f.2.2.2.2.2.1.length:Int) - 1)
   ·simp only [zY,aA,bXj];rfl
   ·obtain ⟨q,hq,hi,ht⟩:=aYj h c3
    have ha:=aTc (p:=q) (x:=aAa p.2.2.2.2.2.2.2.2.2) ht
    have ha:qA q ((vQ p.2.2.2.2.2.2.2.2.2).1,(vQ p.2.2.2.2.2.2.2.2.2).2.1,(vQ p.2.2.2.2.2.2.2.2.2).2.2.1)=some (rC q (aAa p.2.2.2.2.2.2.2.2.2)):=ha
    simp only [zZ,hi,hq,bXs,aA,ha,bXe,bG3 hf c3]
    cases rC q (aAa p.2.2.2.2.2.2.2.2.2)<;>rfl

theorem bHk (f:den tFl) (p:den tPk):tot tFl (xO f p)<=tot tFl f+1:=by
 unfold xO
 cases (p.1==3&&(vQ p.2.2.2.2.2.2.2.2.2).2.2.2)
 ·simp
 ·have h1:=bLj f.2.2.2.2.2.2.2.2 (aAa p.2.2.2.2.2.2.2.2.2)
  have h2:=bH0 f.2.2.2.2.2.2.2.2
  simp only [zZ,rM,tT]
  omega

def jH (h:den cG):Bool:=inR h.1 0 7&&(inR h.2.1 0 6&&(inR h.2.2.1 0 6&&(!(h.2.1==h.2.2.1)&&(inR h.2.2.2.1 0 1000000&&jP h.2.2.2.2))))

theorem aNq (h:den cG):mG h=some (jH h):=by
 unfold mG jH zz4
 simp only [kN,aFi,aA,bne]
 cases inR h.1 0 7<;>cases inR h.2.1 0 6<;>cases inR h.2.2.1 0 6<;>cases h.2.1==h.2.2.1<;>cases inR h.2.2.2.1 0 1000000<;>rfl

theorem aJq (h:den cG):jM h=some (jH h):=by
 unfold jM jH zz4
 simp only [iH,aCv,aA,bne]
 cases inR h.1 0 7<;>cases inR h.2.1 0 6<;>cases inR h.2.2.1 0 6<;>cases h.2.1==h.2.2.1<;>cases inR h.2.2.2.1 0 1000000<;>rfl

theorem aPx (n k:Nat):decide ((n:Int)>(k:Int))= !decide (n<=k):=by rw [bXl];simp

def aEo (l:cZ):Bool:=decide (l.length<=8)&&l.all jH

theorem bPz {l:cZ} (h:l.length<=68719476736):kZ l=some (aEo l):=by
 unfold kZ aEo pj5
 rw [aX (l:=l) (fun _ x=>if jH x then none else some false) (by omega) (fun k x hi hd hw hm hk=>by
  simp only [hd,hi,hw,zZ,aA,aM,aNq]
  cases jH x<;>rfl) (by simp),oD jH]
 have e:=aPx l.length 8
 rw [show ((8:Nat):Int)=8 from rfl] at e
 rw [e]
 cases decide (l.length<=8)<;>cases l.all jH<;>rfl

def aAf (p:den tPp):Bool:=inR p.1 1 4&&(inR p.2.1 0 1000000&&(jP p.2.2.1&&aEo p.2.2.2))

theorem bR0 {p:den tSg} (h:p.2.2.length<=68719476736):sA p=some (inR p.1 0 1000000&&(jP p.2.1&&aEo p.2.2)):=by
 unfold sA aEo pj5
 rw [aX (l:=p.2.2) (fun _ x=>if jH x then none else some false) (by omega) (fun k x hi hd hw hm hk=>by
  simp only [hd,hi,hw,zZ,aA,aM,aJq]
  cases jH x<;>rfl) (by simp),oD jH]
 have e:=aPx p.2.2.length 8
 rw [show ((8:Nat):Int)=8 from rfl] at e
 rw [e,iH,aCv]
 cases inR p.1 0 1000000<;>cases jP p.2.1<;>cases decide (p.2.2.length<=8)<;>cases p.2.2.all jH<;>rfl

def aFw (p:den tPt):Bool:=decide (p.length<=3)&&p.all aAf

theorem bTh {p:den tPt} (h:SmB 68719476736 tPt p):lH p=some (aFw p):=by
 unfold lH aFw
 rw [aX (l:=p) (fun _ x=>if aAf x then none else some false) (bWv h.1 (by decide)) (fun k x hi hd hw hm hk=>by
  have hx:=(h.2 x hm).2.2.2.1
  simp only [hd,hi,hw,zZ,aA,aM,kN,aFi,bPz hx]
  unfold aAf
  cases inR x.1 1 4<;>cases inR x.2.1 0 1000000<;>cases jP x.2.2.1<;>cases aEo x.2.2.2<;>rfl) (by simp),oD aAf]
 have e:=aPx p.length 3
 rw [show ((3:Nat):Int)=3 from rfl] at e
 rw [e]
 cases decide (p.length<=3)<;>cases p.all aAf<;>rfl

theorem bRo {p:den tPt} (h:SmB 68719476736 tPt p):lC p=some (aFw p):=by
 unfold lC aFw pj3
 rw [aX (l:=p) (fun _ x=>if aAf x then none else some false) (bWv h.1 (by decide)) (fun k x hi hd hw hm hk=>by
  have hx:=(h.2 x hm).2.2.2.1
  have hs:=bR0 (p:=(x.2.1,x.2.2.1,x.2.2.2)) hx
  simp only [hd,hi,hw,zZ,aA,aM,iH]
  simp only [aM] at hs
  simp only [hs,aA]
  unfold aAf
  cases inR x.1 1 4<;>cases inR x.2.1 0 1000000<;>cases jP x.2.2.1<;>cases aEo x.2.2.2<;>rfl) (by simp),oD aAf]
 have e:=aPx p.length 3
 rw [show ((3:Nat):Int)=3 from rfl] at e
 rw [e]
 cases decide (p.length<=3)<;>cases p.all aAf<;>rfl

def yG (x:den tPp):Bool:= !((x.2.2.2.length:Int)==0)

def gP (p:den tPk):Bool:=inR p.1 1 3&&(aFw p.2.2.2.1&&(cH p&&(jP p.2.2.2.2.2.2.1&&(p.2.2.2.1.all yG&&(inR p.2.1 0 7&&(inR p.2.2.1 0 7&&(inR p.2.2.2.2.2.2.2.1 0 100000&&(inR p.2.2.2.2.2.2.2.2.1 0 100000&&decide ((p.2.2.2.2.2.2.2.2.2.length:Int)<=40)))))))))

theorem bS1 {p:den tPk} (h:aFw p.2.2.2.1=true):decide (cW p<0)= !cH p:=by
 cases c:cH p with
 | false=>rw [zD c];rfl
 | true=>
  obtain ⟨i,j,x,y,h1,h2,h3,h4,h5⟩:=aB7 c
  rw [h5]
  unfold aFw at h
  have ha:=(bWw _ _▸h:_∧_).2
  have hx:=bXk.1 ha x (bW6 h3)
  unfold aAf aEo at hx
  simp only [bWw] at hx
  have hy:=bXk.1 hx.2.2.2.2 y (bW6 h4)
  unfold jH at hy
  simp only [bWw,bJ] at hy
  have :=hy.1.1
  simp;omega

theorem bLq {p:den tPk} (h:SmB 68719476736 tPk p):oR p=some (gP p):=by
 unfold oR gP aI zz6 zz7 zz8 zz9
 rw [aX (l:=p.2.2.2.1) (fun _ x=>if yG x then none else some false) (bWv h.2.2.2.1.1 (by decide)) (fun k x hi hd hw hm hk=>by
  simp only [hd,hi,hw,zZ,aA]
  unfold yG
  cases (x.2.2.2.length:Int)==0<;>rfl) (by simp),oD yG]
 simp only [kN,aM,aFl h,bTh h.2.2.2.1,aFi,aA]
 cases inR p.1 1 3
 ·rfl
 ·cases he:aFw p.2.2.2.1
  ·rfl
  ·rw [bS1 he]
   cases hz:(p.2.2.2.1.length:Int)==0
   ·cases cH p<;>simp only [bWx,bW7,zZ,zY,aA,bXj,bXe]
    cases jP p.2.2.2.2.2.2.1<;>simp only [bWx,bW7,zZ,zY,aA,bXj,bXe]
    cases p.2.2.2.1.all yG<;>cases inR p.2.1 0 7<;>cases inR p.2.2.1 0 7<;>cases inR p.2.2.2.2.2.2.2.1 0 100000<;>cases inR p.2.2.2.2.2.2.2.2.1 0 100000<;>rfl
   ·have hh:cH p=false:=by
     have hl:(p.2.2.2.1.length:Int)=0:=by simpa using hz
     unfold cH
     have :inR p.2.2.2.2.1 0 ((p.2.2.2.1.length:Int) - 1)=false:=by rw [aYz];omega
     rw [this];rfl
    rw [hh]
    rfl

theorem aXb {p:den tPk} (h:SmB 68719476736 tPk p):iP p=some (gP p):=by
 have l1:=h.2.2.2.1.1
 unfold iP gP zz4 zz5 zz6 zz7 zz8 zz9
 rw [aX (l:=p.2.2.2.1) (fun _ x=>if yG x then none else some false) (bWv h.2.2.2.1.1 (by decide)) (fun k x hi hd hw hm hk=>by
  simp only [hd,hi,hw,zZ,aA]
  unfold yG
  cases (x.2.2.2.length:Int)==0<;>rfl) (by simp),oD yG]
 simp only [iH,mD l1,bRo h.2.2.2.1,aCv,aA]
 unfold cH
 cases inR p.1 1 3
 ·rfl
 ·cases he:aFw p.2.2.2.1
  ·rfl
  ·cases c1:inR p.2.2.2.2.1 0 ((p.2.2.2.1.length:Int) - 1)
   ·rfl
   ·rw [bJ] at c1
    obtain ⟨x,hx⟩:=yM c1.1 c1.2
    have l2:=(h.2.2.2.1.2 _ (bW6 hx)).2.2.2.1
    rw [aHp c1.1 hx,hx]
    simp only [bWx,zY,aA,bXs,mD l2,bXe]
    cases jP p.2.2.2.2.2.2.1<;>cases inR p.2.2.2.2.2.1 0 ((x.2.2.2.length:Int) - 1)<;>cases p.2.2.2.1.all yG<;>cases inR p.2.1 0 7<;>cases inR p.2.2.1 0 7<;>cases inR p.2.2.2.2.2.2.2.1 0 100000<;>cases inR p.2.2.2.2.2.2.2.2.1 0 100000<;>rfl

def aAe (a b:Int) (f:den tFl):Bool:=(f.1==a&&f.2.1==b)||(f.1==b&&f.2.1==a)

def tS (e:den fZ):den tPk:=e.2.2.2.2.2

noncomputable def harm (w:den tNw) (e:den fZ):Bool:=
 cond (!(e.1==7)||(!gP (tS e)||(tS e).1==3)) true (cond (w.2.2.2.2.2.1.all fun x=> !aAw x.2.2 (tS e)) (w.2.2.2.2.2.2.1.all fun f=> !aAe (tS e).2.1 (tS e).2.2.1 f) true)

theorem bFj {w:den tNw} {a b:Int} (hw:SmB 68719476736 tNw w):nS w a b=some (!(w.2.2.2.2.2.2.1.all fun f=> !aAe a b f)):=by
 unfold nS zz6
 rw [aX (l:=w.2.2.2.2.2.2.1) (fun _ f=>if !aAe a b f then none else some true) (bWv hw.2.2.2.2.2.2.1.1 (by decide)) (fun k x hi hd hw hm hk=>by
  simp only [hd,hi,hw,zZ,aA]
  unfold aAe
  cases x.1==a<;>cases x.2.1==b<;>cases x.1==b<;>cases x.2.1==a<;>rfl) (by simp),oD (fun f:den tFl=> !aAe a b f)]
 cases w.2.2.2.2.2.2.1.all (fun f=> !aAe a b f)<;>rfl

theorem bR5 {w:den tNw} {e:den fZ} (hw:SmB 68719476736 tNw w) (he:SmB 68719476736 fZ e):pL w e=some (harm w e):=by
 have hp:SmB 68719476736 tPk (tS e):=he.2.2.2.2.2
 unfold pL harm aI eY zz5 zz6 zz7
 rw [aX (l:=w.2.2.2.2.2.1) (fun _ x=>if !aAw x.2.2 (tS e) then none else some true) (bWv hw.2.2.2.2.2.1.1 (by decide)) (fun k x hi hd hw2 hm hk=>by
  have hs:kM x.2.2 e.2.2.2.2.2=some (aAw x.2.2 (tS e)):=bO9 (hw.2.2.2.2.2.1.2 x hm).2.2 hp
  simp only [hd,hi,hw2,zZ,aA,aM,hs]
  cases aAw x.2.2 (tS e)<;>rfl) (by simp),oD (fun x:den tFy=> !aAw x.2.2 (tS e))]
 have hv:iP e.2.2.2.2.2=some (gP (tS e)):=aXb hp
 have hf:nS w e.2.2.2.2.2.2.1 e.2.2.2.2.2.2.2.1=some (!(w.2.2.2.2.2.2.1.all fun f=> !aAe (tS e).2.1 (tS e).2.2.1 f)):=bFj hw
 simp only [aM,hv,hf,aA,bne]
 show @Option.bind Bool Bool (cond (!(e.1==7)) (some true) (cond (!gP (tS e)) (some true) (cond ((tS e).1==3) (some true) _))) _=_
 cases e.1==7
 ·rfl
 ·cases gP (tS e)
  ·rfl
  ·cases (tS e).1==3
   ·cases w.2.2.2.2.2.1.all (fun x=> !aAw x.2.2 (tS e))<;>cases w.2.2.2.2.2.2.1.all (fun f=> !aAe (tS e).2.1 (tS e).2.2.1 f)<;>rfl
   ·rfl

abbrev aD2 (l:lRs) (now:Int):lRs:=l.filter fun x=>decide (now<=x.2.2.2.2)

theorem bIh {l:lRs} {now:Int} (h:l.length<=1073741824):fK l now=some (aD2 l now):=by
 unfold fK pj5 zz4
 rw [(aLj (l:=l) (out:=fun a=>a) (fun (a:lRs) x=>if decide (now<=x.2.2.2.2) then a++[x] else a) (fun k a=>a.length<=k) (by omega) (by simp) (fun k x a hi hd hw hx hk hI=>by
  simp only [hd,hi,hw,zZ,aA]
  by_cases hp:now<=x.2.2.2.2
  ·simp [hp,aD (b:=40) (n:=a.length) (m:=1) (by decide) (by omega)];omega
  ·simp [hp];omega) (fun a=>by simp)).1]
 simp only [aCd,bXo,aA]

theorem bIf {l:lRs} {now:Int} (h:l.length<=1073741824):fI l now=some (aD2 l now):=by
 unfold fI pj5 zz4
 rw [(aLj (l:=l) (out:=fun a=>a) (fun (a:lRs) x=>if decide (now<=x.2.2.2.2) then a++[x] else a) (fun k a=>a.length<=k) (by omega) (by simp) (fun k x a hi hd hw hx hk hI=>by
  simp only [hd,hi,hw,zZ,aA]
  by_cases hp:now<=x.2.2.2.2
  ·simp [hp,aD (b:=40) (n:=a.length) (m:=1) (by decide) (by omega)];omega
  ·simp [hp];omega) (fun a=>by simp)).1]
 simp only [aCd,bXo,aA]

def atR (x:den tRs) (s d:Int):Bool:=x.2.1==s&&x.2.2.1==d

theorem bK3 (x:den tRs) (s d:Int):eD x s d=some (atR x s d):=by
 unfold eD atR
 cases x.2.1==s<;>simp

theorem bT4 (x:den tRs) (s d now:Int):xX x s d now=some (atR x s d&&decide (now<=x.2.2.2.2)):=by
 unfold xX atR zz4
 cases x.2.1==s<;>cases x.2.2.1==d<;>simp

def rate (l:lRs) (s d now:Int):Int:=l.foldl (fun a x=>if atR x s d&&decide (now<=x.2.2.2.2) then wr (a+x.2.2.2.1) else a) 0

theorem bEy {l:lRs} {s d now:Int} (h:l.length<=1073741824):iV l s d now=some (rate l s d now):=by
 unfold iV pj5 zz4
 rw [(aOh (l:=l) (out:=fun a=>a) (fun (a:Int) x=>if atR x s d&&decide (now<=x.2.2.2.2) then wr (a+x.2.2.2.1) else a) (fun _ _=>True) (by omega) trivial (fun k x a hi hd hw hx hk hI=>by
  refine ⟨?_,trivial⟩
  simp only [hd,hi,hw,zZ,aA]
  rw [show ((x.1,x.2.1,x.2.2.1,x.2.2.2.1,x.2.2.2.2):den tRs)=x from rfl,bK3]
  cases atR x s d<;>cases decide (now<=x.2.2.2.2)<;>rfl) (fun a=>by simp)).1]
 rfl

theorem bFm {l:lRs} {s d now:Int} (h:l.length<=1073741824):iU l s d now=some (rate l s d now):=by
 unfold iU pj5
 rw [(aOh (l:=l) (out:=fun a=>a) (fun (a:Int) x=>if atR x s d&&decide (now<=x.2.2.2.2) then wr (a+x.2.2.2.1) else a) (fun _ _=>True) (by omega) trivial (fun k x a hi hd hw hx hk hI=>by
  refine ⟨?_,trivial⟩
  simp only [hd,hi,hw,zZ,aA]
  rw [show ((x.1,x.2.1,x.2.2.1,x.2.2.2.1,x.2.2.2.2):den tRs)=x from rfl,bT4]
  cases atR x s d<;>cases decide (now<=x.2.2.2.2)<;>rfl) (fun a=>by simp)).1]
 rfl

def free (l:lRs) (cap s d now:Int):Int:=if wr (cap - rate l s d now)>0 then wr (cap - rate l s d now) else 0

theorem bTa {l:lRs} {cap s d now:Int} (h:l.length<=1073741824):uS l cap s d now=some (free l cap s d now):=by
 unfold uS
 simp only [bEy h,aA,bOf];rfl

theorem bSw {l:lRs} {cap s d now:Int} (h:l.length<=1073741824):uX l cap s d now=some (free l cap s d now):=by
 unfold uX
 simp only [bFm h,aA,bCs];rfl

def zL (l:lRs) (id s d now:Int):Int:=
 match cE (fun _ (x:den tRs)=>if x.1==id&&(atR x s d&&decide (now<=x.2.2.2.2)) then some x.2.2.2.1 else none) 0 l with
 | some r=>r
 | none=>0

theorem bFu {l:lRs} {id s d now:Int} (h:l.length<=1073741824):jD l id s d now=some (zL l id s d now):=by
 unfold jD pj5 zz4
 rw [aX (l:=l) (fun _ (x:den tRs)=>if x.1==id&&(atR x s d&&decide (now<=x.2.2.2.2)) then some x.2.2.2.1 else none) (by omega) (fun k x hi hd hw hx hk=>by
  simp only [hd,hi,hw,zZ,aA]
  rw [show ((x.1,x.2.1,x.2.2.1,x.2.2.2.1,x.2.2.2.2):den tRs)=x from rfl,bK3]
  cases x.1==id<;>cases atR x s d<;>cases decide (now<=x.2.2.2.2)<;>rfl) (by simp)]
 unfold zL
 cases cE (fun _ (x:den tRs)=>if x.1==id&&(atR x s d&&decide (now<=x.2.2.2.2)) then some x.2.2.2.1 else none) 0 l<;>rfl

theorem bF0 {l:lRs} {id s d now:Int} (h:l.length<=1073741824):iY l id s d now=some (zL l id s d now):=by
 unfold iY pj5
 rw [aX (l:=l) (fun _ (x:den tRs)=>if x.1==id&&(atR x s d&&decide (now<=x.2.2.2.2)) then some x.2.2.2.1 else none) (by omega) (fun k x hi hd hw hx hk=>by
  simp only [hd,hi,hw,zZ,aA]
  rw [show ((x.1,x.2.1,x.2.2.1,x.2.2.2.1,x.2.2.2.2):den tRs)=x from rfl,bT4]
  cases x.1==id<;>cases atR x s d<;>cases decide (now<=x.2.2.2.2)<;>rfl) (by simp)]
 unfold zL
 cases cE (fun _ (x:den tRs)=>if x.1==id&&(atR x s d&&decide (now<=x.2.2.2.2)) then some x.2.2.2.1 else none) 0 l<;>rfl

def tZ (x:den tRs):Bool:=inR x.1 1 100000&&(inR x.2.2.2.1 1 20&&dU (x.2.1,x.2.2.1,x.2.2.2.2))

theorem bJ0 (x:den tRs):iG x=some (tZ x):=by
 unfold iG tZ zz4
 simp only [kN,aCn,aA]
 cases inR x.1 1 100000<;>cases inR x.2.2.2.1 1 20<;>cases dU (x.2.1,x.2.2.1,x.2.2.2.2)<;>rfl

theorem bJj (x:den tRs):hH x=some (tZ x):=by
 unfold hH tZ zz4
 simp only [iH,aC0,aA]
 cases inR x.1 1 100000<;>cases inR x.2.2.2.1 1 20<;>cases dU (x.2.1,x.2.2.1,x.2.2.2.2)<;>rfl

def kT (x y:den tRs):Bool:=y.1==x.1&&atR y x.2.1 x.2.2.1

theorem bGh {l:lRs} {x:den tRs} (h:l.length<=1073741824):qE l x=some (l.filter fun y=> !kT x y):=by
 unfold qE pj5
 rw [(aLj (l:=l) (out:=fun a=>a) (fun (a:lRs) y=>if !kT x y then a++[y] else a) (fun k a=>a.length<=k) (by omega) (by simp) (fun k y a hi hd hw hx hk hI=>by
  simp only [hd,hi,hw,zZ,aA]
  have hap:=aD (b:=40) (n:=a.length) (m:=1) (by decide) (by omega)
  unfold kT atR
  simp only [bne]
  cases h1:y.1==x.1<;>cases h2:y.2.1==x.2.1<;>cases h3:y.2.2.1==x.2.2.1<;>simp [hap]<;>omega) (fun a=>by simp)).1]
 simp only [aCd,bXo,aA]


def okR (l:lRs) (cap now:Int) (k:Nat) (x:den tRs):Bool:=tZ x&&(!decide (rate l x.2.1 x.2.2.1 now>cap)&& !(l.take k).any (kT x))

def aBq (l:lRs) (cap now:Int):Bool:=
 decide (l.length<=40)&&(cE (fun k x=>if okR l cap now k x then none else some ()) 0 l).isNone

theorem aEj {α R S:Type} (p:Nat→α→Bool) (r:R) (s:S): ∀ (l:List α) (k:Nat),(cE (fun k x=>if p k x then none else some r) k l).isNone=(cE (fun k x=>if p k x then none else some s) k l).isNone∧ ∀ q,cE (fun k x=>if p k x then none else some r) k l=some q→q=r
 | [],_=>⟨rfl,fun q h=>by cases h⟩
 | x::xs,k=>by
  simp only [cE]
  cases p k x with
  | true=>simpa using aEj p r s xs (k+1)
  | false=>simp

theorem bBo {α:Type} (p:Nat→α→Bool) (l:List α):(match cE (fun k x=>if p k x then none else some false) 0 l with
  | some r=>some r
  | none=>some true)=some (cE (fun k x=>if p k x then none else some ()) 0 l).isNone:=by
 obtain ⟨h1,h2⟩:=aEj p false () l 0
 rw [← h1]
 cases h:cE (fun k x=>if p k x then none else some false) 0 l with
 | none=>rfl
 | some q=>rw [h2 q h];rfl

theorem bEo {l:lRs} {cap now:Int} (h:l.length<=1073741824):gB l cap now=some (aBq l cap now):=by
 unfold gB aBq pj5
 by_cases hl:l.length<=40
 ·rw [zW (by omega),zY,zX hl,bXe]
  rw [aX (l:=l) (fun k x=>if okR l cap now k x then none else some false) (by omega) (fun k x hi hd hw hx hk=>by
   have hslo:bY (0:Int) (k:Int) (l.length:Int)=true:=by simp [bY];omega
   have hlen:(l.take k).length<=1073741824:=by simp;omega
   simp only [hd,hi,hw,zZ,aA,hslo,gN]
   rw [show ((x.1,x.2.1,x.2.2.1,x.2.2.2.1,x.2.2.2.2):den tRs)=x from rfl,bJ0,bEy h]
   unfold okR
   cases hv:tZ x with
   | false=>rfl
   | true=>
    cases hr:decide (rate l x.2.1 x.2.2.1 now>cap) with
    | true=>simp [hr]
    | false=>
     simp only [aA,bWx,zY,hr,bW7,bXe]
     rw [aX (l:=l.take k) (R:=Int⊕(Unit⊕Bool)) (fun _ y=>if kT x y then some (bWs (bWs false)) else none) (by omega) (fun j y hi2 hd2 hw2 hx2 hk2=>by
      simp only [hd2,hi2,hw2,zZ,aA]
      rw [show ((y.1,y.2.1,y.2.2.1,y.2.2.2.1,y.2.2.2.2):den tRs)=y from rfl,bK3]
      unfold kT
      cases y.1==x.1<;>cases atR y x.2.1 x.2.2.1<;>rfl) (by simp)]
     have key: ∀ (m:lRs) (j:Nat),cE (fun _ y=>if kT x y then some (bWs (bWs false):Int⊕(Unit⊕Bool)) else none) j m=if m.any (kT x) then some (bWs (bWs false)) else none:=by
      intro m
      induction m with
      | nil=>intro j;rfl
      | cons y m ih=>
       intro j
       simp only [cE,List.any_cons]
       rcases bZe (kT x y) with hs | hs
       ·simp [hs]
       ·simp only [hs,ih,bW2,zU]
        rfl
     rw [key]
     cases (l.take k).any (kT x)<;>simp) (by simp)]
  rw [← bBo]
  cases cE (fun k x=>if okR l cap now k x then none else some false) 0 l<;>rfl
 ·rw [zX (by omega),zZ,zW hl];rfl

def jJ (id s d:Int) (x:den tUs):Bool:=x.1==id&&(x.2.1==s&&x.2.2.1==d)

def place (l:lUs) (id s d:Int):Int:=
 match cE (fun k x=>if jJ id s d x then some (k:Int) else none) 0 l with
 | some i=>i
 | none=> -1

theorem aJc (l:lUs) (id s d:Int):place l id s d= -1∨ ∃ (j:Nat) (x:den tUs),place l id s d=(j:Int)∧l[j]? =some x∧j<l.length:=by
 unfold place
 cases h:cE (fun k x=>if jJ id s d x then some (k:Int) else none) 0 l with
 | none=>exact .inl rfl
 | some i=>
  obtain ⟨j,x,h1,h2,h3⟩:=aM9 h
  exact .inr ⟨j,x,by simpa using h2,h1,(bW1.1 h1).1⟩

theorem aRm {g:den tSc} {id s d:Int} (h:g.2.2.length<=1073741824):oS g id s d=some (place g.2.2 id s d):=by
 unfold oS
 rw [aX (l:=g.2.2) (fun k x=>if jJ id s d x then some (k:Int) else none) (by omega) (fun k x hi hd hw hx hk=>by
  simp only [hd,hi,hw,zZ,aA]
  unfold jJ
  cases x.1==id<;>cases x.2.1==s<;>cases x.2.2.1==d<;>rfl) (by simp)]
 unfold place
 cases cE (fun k x=>if jJ id s d x then some (k:Int) else none) 0 g.2.2<;>rfl

theorem bAf {l:lUs} {id s d:Int} (h:l.length<=1073741824):pK l id s d=some (place l id s d):=by
 unfold pK
 rw [aX (l:=l) (fun k x=>if jJ id s d x then some (k:Int) else none) (by omega) (fun k x hi hd hw hx hk=>by
  simp only [hd,hi,hw,zZ,aA]
  unfold jJ
  cases x.1==id<;>cases x.2.1==s<;>cases x.2.2.1==d<;>rfl) (by simp)]
 unfold place
 cases cE (fun k x=>if jJ id s d x then some (k:Int) else none) 0 l<;>rfl

def oY (g:den tSc) (id s d now:Int):Int:=if id==0 then free g.2.1 g.1 s d now else zL g.2.1 id s d now

theorem bAi {g:den tSc} {id s d now:Int} (h:g.2.1.length<=1073741824):vD g id s d now=some (oY g id s d now):=by
 unfold vD oY
 rw [bTa h,bFu h]
 cases id==0<;>rfl

def okU (g:den tSc) (now:Int) (k:Nat) (x:den tUs):Bool:=place g.2.2 x.1 x.2.1 x.2.2.1==(k:Int)&&inR x.2.2.2 1 (oY g x.1 x.2.1 x.2.2.1 now)

def aD8 (g:den tSc) (now:Int):Bool:=inR g.1 1 20&&(aBq g.2.1 g.1 now&&(cE (fun k x=>if okU g now k x then none else some ()) 0 g.2.2).isNone)

theorem bKt {g:den tSc} {now:Int} (h1:g.2.1.length<=1073741824) (h2:g.2.2.length<=1073741824):kA g now=some (aD8 g now):=by
 unfold kA aD8 pj3
 rw [aX (l:=g.2.2) (fun k x=>if okU g now k x then none else some false) (by omega) (fun k x hi hd hw hx hk=>by
  simp only [hd,hi,hw,zZ,aA]
  rw [show ((g.1,g.2.1,g.2.2):den tSc)=g from rfl,aRm h2,bAi h1]
  unfold okU
  simp only [aA,kN,bne]
  cases place g.2.2 x.1 x.2.1 x.2.2.1==(k:Int)<;>cases inR x.2.2.2 1 (oY g x.1 x.2.1 x.2.2.1 now)<;>rfl) (by simp)]
 rw [← aEj (okU g now) false () g.2.2 0 |>.1]
 have h3:=(aEj (okU g now) false () g.2.2 0).2
 simp only [kN,bEo h1,aA]
 cases inR g.1 1 20<;>cases aBq g.2.1 g.1 now<;>(cases hsc:cE (fun k x=>if okU g now k x then none else some false) 0 g.2.2 with
  | none=>rfl
  | some q=>rw [h3 q hsc];rfl)

theorem jO {n:Nat} (h:n<=68719476736):wr ((n:Int) - 1)=(n:Int) - 1:=wri (by omega) (by omega)

def cX (t:den tTo) (r:Int):Bool:=inR r 0 ((t.1.length:Int) - 1)

theorem aH2 {t:den tTo} {r:Int} (h:t.1.length<=68719476736):jK t r=some (cX t r):=by
 unfold jK cX
 rw [jO h,kN];rfl

theorem aD4 {t:den tTo} {r:Int} (h:t.1.length<=68719476736):dN t r=some (cX t r):=by
 unfold dN cX
 rw [jO h,iH];rfl

theorem bU5 (n:Int):vA n=some (inR n 1 2147483646):=by unfold vA;rw [kN];rfl

theorem bVf (n:Int):uN n=some (inR n 1 2147483646):=by unfold uN;rw [iH];rfl

def cV (l:den tLk) (r d:Int):Bool:=(l.1==r&&l.2.1==d)||(l.2.2.1==r&&l.2.2.2.1==d)

theorem aZo (l:den tLk) (r d:Int):fH l r d=some (cV l r d):=by
 unfold fH cV
 cases l.1==r<;>cases l.2.1==d<;>cases l.2.2.1==r<;>cases l.2.2.2.1==d<;>rfl

theorem aY2 (l:den tLk) (r d:Int):sY l r d=some (cV l r d):=by
 unfold sY cV
 cases l.1==r<;>cases l.2.1==d<;>cases l.2.2.1==r<;>cases l.2.2.2.1==d<;>rfl

def aQo (k:Int) (x y:den tAS):Bool:=cond (k==1) (x.2.1&&y.2.1) (cond (k==2) (x.1==y.1&& !y.2.1) (cond (k==3) (!x.2.1&& !y.2.1) false))

def yH (t:den tTo) (l:den tLk):Bool:=
 cX t l.1&&(cX t l.2.2.1&&(!decide (l.1>=l.2.2.1)&&(inR l.2.1 1 6&&(inR l.2.2.2.1 1 6&&aQo l.2.2.2.2 ((t.1[l.1.toNat]?).getD (0,false,0)) ((t.1[l.2.2.1.toNat]?).getD (0,false,0))))))

theorem aEu {t:den tTo} {r:Int} (h:cX t r=true): ∃ x,t.1[r.toNat]? =some x∧idx t.1 r=some x:=by
 obtain ⟨h0,h1⟩:=bJ.1 h
 obtain ⟨x,hx⟩:=yM h0 h1
 exact ⟨x,hx,aHp h0 hx⟩

theorem bQr {t:den tTo} {l:den tLk} (h:t.1.length<=68719476736):yY t l=some (yH t l):=by
 unfold yY yH pj2 pj3 zz4
 simp only [aM,aH2 h,kN,aA]
 cases c1:cX t l.1
 ·rfl
 ·cases c2:cX t l.2.2.1
  ·rfl
  ·obtain ⟨x,hx,ix⟩:=aEu c1
   obtain ⟨y,hy,iy⟩:=aEu c2
   rw [ix,iy,hx,hy]
   simp only [aV,bK,bA,aZ,bD,aA,bXs,bWx,zY,bXe]
   unfold aQo
   cases decide (l.1>=l.2.2.1)
   ·cases inR l.2.1 1 6
    ·rfl
    ·cases inR l.2.2.2.1 1 6
     ·rfl
     ·cases l.2.2.2.2==1
      ·cases l.2.2.2.2==2
       ·cases l.2.2.2.2==3
        ·rfl
        ·cases x.2.1<;>rfl
       ·cases x.1==y.1<;>rfl
      ·cases x.2.1<;>rfl
   ·rfl

theorem aYx {t:den tTo} {l:den tLk} (h:t.1.length<=68719476736):pI t l=some (yH t l):=by
 unfold pI yH pj2 zz4
 simp only [aM,aD4 h,iH,aA]
 cases c1:cX t l.1
 ·rfl
 ·cases c2:cX t l.2.2.1
  ·rfl
  ·obtain ⟨x,hx,ix⟩:=aEu c1
   obtain ⟨y,hy,iy⟩:=aEu c2
   rw [ix,iy,hx,hy]
   simp only [aA,bXs,bWx,zY,bXe]
   unfold aQo
   cases decide (l.1>=l.2.2.1)
   ·cases inR l.2.1 1 6
    ·rfl
    ·cases inR l.2.2.2.1 1 6
     ·rfl
     ·cases l.2.2.2.2==1
      ·cases l.2.2.2.2==2
       ·cases l.2.2.2.2==3
        ·rfl
        ·cases x.2.1<;>rfl
       ·cases x.1==y.1<;>rfl
      ·cases x.2.1<;>rfl
   ·rfl

def asP (t:den tTo) (k:Nat) (x:den tAS):Bool:=inR x.1 0 2&&(inR x.2.2 1 2147483646&&(t.1.take k).all fun y=> !(x.2.2==y.2.2))

def lkP (t:den tTo) (k:Nat) (x:den tLk):Bool:=yH t x&&(t.2.take k).all fun y=> !(cV y x.1 x.2.1||cV y x.2.2.1 x.2.2.2.1)

def aBy (t:den tTo):Bool:=inR (t.1.length:Int) 1 8&&((t.1.zipIdx 0).all (fun z=>asP t z.2 z.1)&&(t.2.zipIdx 0).all fun z=>lkP t z.2 z.1)

theorem wU {k n:Nat} (h:k<n):bY (0:Int) (k:Int) (n:Int)=true:=by
 have :=aDa (a:=0) (b:=k) (n:=n)
 rw [show ((0:Nat):Int)=0 from rfl] at this
 rw [this];simp;omega

theorem aWt {α:Type} {l:List α} {k j:Nat} {x:α} (h:idx (l.take k) (j:Int)=some x):idx l (j:Int)=some x:=by
 rw [aH] at h ⊢
 exact (aU9 h).1

theorem vG {α:Type} {l:List α} {k:Nat} (h:k<l.length):(l.take k).length=k:=by simp;omega

theorem bSz {t:den tTo} (h:SmB 68719476736 tTo t):kY t=some (aBy t):=by
 have l1:=h.1.1
 have l2:=h.2.1
 unfold kY aBy pj2 pj5
 rw [aX (l:=t.1) (fun k x=>if asP t k x then none else some false) (bWv l1 (by decide)) (fun k x hi hd hw hm hk=>by
  simp only [hd,hi,zZ,aA,kN,bU5,wU hk,gN,hw]
  rw [aX (l:=t.1.take k) (fun _ y=>if !(x.2.2==y.2.2) then none else some (bWs (bWs false))) (by rw [vG hk];omega) (fun j y hi hd hw hm hk=>by
   simp only [hd,hi,hw,zZ,aA]
   cases x.2.2==y.2.2<;>rfl) (by simp),oD (fun y:den tAS=> !(x.2.2==y.2.2))]
  unfold asP
  cases inR x.1 0 2<;>cases inR x.2.2 1 2147483646<;>cases (t.1.take k).all (fun y=> !(x.2.2==y.2.2))<;>rfl) (by simp),aDo (asP t)]
 rw [aX (l:=t.2) (fun k x=>if lkP t k x then none else some false) (bWv l2 (by decide)) (fun k x hi hd hw hm hk=>by
  simp only [hd,hi,zZ,aA,aM,bQr l1,wU hk,gN,hw]
  rw [aX (l:=t.2.take k) (fun _ y=>if !(cV y x.1 x.2.1||cV y x.2.2.1 x.2.2.2.1) then none else some (bWs (bWs false))) (by rw [vG hk];omega) (fun j y hi hd hw hm hk=>by
   simp only [hd,hi,hw,zZ,aA,aM,aZo]
   cases cV y x.1 x.2.1<;>cases cV y x.2.2.1 x.2.2.2.1<;>rfl) (by simp),oD (fun y:den tLk=> !(cV y x.1 x.2.1||cV y x.2.2.1 x.2.2.2.1))]
  unfold lkP
  cases yH t x<;>cases (t.2.take k).all (fun y=> !(cV y x.1 x.2.1||cV y x.2.2.1 x.2.2.2.1))<;>rfl) (by simp),aDo (lkP t)]
 rw [kN,aA]
 cases inR (t.1.length:Int) 1 8<;>cases (t.1.zipIdx 0).all (fun z=>asP t z.2 z.1)<;>cases (t.2.zipIdx 0).all (fun z=>lkP t z.2 z.1)<;>rfl

theorem bH1 (a b:Int):(a==b)=(b==a):=by rw [bXl];simp;exact eq_comm

theorem bRu {t:den tTo} (h:SmB 68719476736 tTo t):lA t=some (aBy t):=by
 have l1:=h.1.1
 have l2:=h.2.1
 unfold lA aBy pj2 pj5
 rw [aX (l:=t.1) (fun k x=>if asP t k x then none else some false) (bWv l1 (by decide)) (fun k x hi hd hw hm hk=>by
  simp only [hd,hi,zZ,aA,iH,bVf,hw]
  rw [aX (l:=t.1.take k) (fun _ y=>if !(x.2.2==y.2.2) then none else some (bWs (bWs false))) (by rw [vG hk];omega) (fun j y hi2 hd hw hm hk2=>by
   rw [vG hk] at hd
   simp only [hd,aWt hi2,hi,hw,zZ,aA,bH1 y.2.2 x.2.2]
   cases x.2.2==y.2.2<;>rfl) (by rw [vG hk];simp),oD (fun y:den tAS=> !(x.2.2==y.2.2))]
  unfold asP
  cases inR x.1 0 2<;>cases inR x.2.2 1 2147483646<;>cases (t.1.take k).all (fun y=> !(x.2.2==y.2.2))<;>rfl) (by simp),aDo (asP t)]
 rw [aX (l:=t.2) (fun k x=>if lkP t k x then none else some false) (bWv l2 (by decide)) (fun k x hi hd hw hm hk=>by
  simp only [hd,hi,zZ,aA,aM,aYx l1,hw]
  rw [aX (l:=t.2.take k) (fun _ y=>if !(cV y x.1 x.2.1||cV y x.2.2.1 x.2.2.2.1) then none else some (bWs (bWs false))) (by rw [vG hk];omega) (fun j y hi2 hd hw hm hk2=>by
   rw [vG hk] at hd
   simp only [hd,aWt hi2,hi,hw,zZ,aA,aM,aY2]
   cases cV y x.1 x.2.1<;>cases cV y x.2.2.1 x.2.2.2.1<;>rfl) (by rw [vG hk];simp),oD (fun y:den tLk=> !(cV y x.1 x.2.1||cV y x.2.2.1 x.2.2.2.1))]
  unfold lkP
  cases yH t x<;>cases (t.2.take k).all (fun y=> !(cV y x.1 x.2.1||cV y x.2.2.1 x.2.2.2.1))<;>rfl) (by simp),aDo (lkP t)]
 rw [iH,aA]
 cases inR (t.1.length:Int) 1 8<;>cases (t.1.zipIdx 0).all (fun z=>asP t z.2 z.1)<;>cases (t.2.zipIdx 0).all (fun z=>lkP t z.2 z.1)<;>rfl

def xOk (x:den tIb):Bool:=inR x.1 0 7&&(inR x.2.1 0 7&&(!(x.1==x.2.1)&&((x.2.2.1==(x.2.2.2.length:Int))&&(decide (x.2.2.1<=20)&&x.2.2.2.all fun m=>decide (m.length<=40)))))

theorem bUi (a b:Int):decide (a>b)= !decide (a<=b):=by rw [bXl];simp

theorem bU9 {x:den tIb} (h:x.2.2.2.length<=68719476736):qM x=some (xOk x):=by
 unfold qM xOk
 rw [aX (l:=x.2.2.2) (fun _ m=>if decide (m.length<=40) then none else some false) (by omega) (fun k m hi hd hw hx hk=>by
  simp only [hd,hi,hw,zZ,aA]
  by_cases hm:m.length<=40
  ·simp [hm,show ¬ ((m.length:Int)>40) by omega]
  ·simp [hm,show (m.length:Int)>40 by omega]) (by simp),oD (fun m:List Int=>decide (m.length<=40))]
 simp only [kN,aA,bne,bUi]
 cases inR x.1 0 7<;>cases inR x.2.1 0 7<;>cases x.1==x.2.1<;>cases x.2.2.1==(x.2.2.2.length:Int)<;>cases decide (x.2.2.1<=20)<;>cases x.2.2.2.all (fun m=>decide (m.length<=40))<;>rfl

theorem bQv {t:den tTo} (h:SmB 68719476736 tTo t):mY t=some t:=by
 unfold mY pj2
 simp only [aD (b:=24) (n:=([]:lAS).length) (m:=t.1.length) (by decide) (by simpa using h.1.1),aD (b:=40) (n:=([]:lLk).length) (m:=t.2.length) (by decide) (by simpa using h.2.1),zZ,aV,bK,bA,aZ,bD,aA,bXo,aM]

theorem aYl {t:den tTo} (h:SmB 68719476736 tTo t):qD t=some t:=by
 unfold qD pj2
 simp only [aD (b:=24) (n:=([]:lAS).length) (m:=t.1.length) (by decide) (by simpa using h.1.1),aD (b:=40) (n:=([]:lLk).length) (m:=t.2.length) (by decide) (by simpa using h.2.1),zZ,aV,bK,bA,aZ,bD,aA,bXo,aM]

theorem bO8 {x:den tSg} (h:x.2.2.length<=68719476736):gH x=some x:=by
 unfold gH
 rw [aZl h]
 rfl

theorem aFh {x:den tSg} (h:x.2.2.length<=68719476736):fP x=some x:=by
 unfold fP
 rw [aD (b:=40) (n:=([]:cZ).length) (by decide) (by simpa using h)]
 rfl

theorem aWb {l:lSg} (h:SmB 68719476736 (.sl tSg) l):kU l=some l:=by
 unfold kU pj3
 rw [(tO (fun k (a:lSg)=>((k:Int),a)) ((0:Int),[]) [] l (fun _ x a=>a++[x]) bW9 (fun _=>1) 68719476736 id rfl (bWv h.1 (by decide)) (by rw [eZ];simpa using h.1) (fun k x a hi hx hd hw hk hb=>by
  have e:=h.2 x (bW6 hx)
  simp only [hd,hi,hw,zZ,aA,aM,bO8 e.2.2.1,aD (b:=40) (by decide) hb]
  simp) (fun a=>by simp)).1,jB (fun x=>x)]
 simp

theorem aDh {l:lSg} (h:SmB 68719476736 (.sl tSg) l):fD l=some l:=by
 unfold fD pj3
 rw [(tO (fun k (a:lSg)=>((k:Int),a)) ((0:Int),[]) [] l (fun _ x a=>a++[x]) bW9 (fun _=>1) 68719476736 id rfl (bWv h.1 (by decide)) (by rw [eZ];simpa using h.1) (fun k x a hi hx hd hw hk hb=>by
  have e:=h.2 x (bW6 hx)
  simp only [hd,hi,hw,zZ,aA,aM,aFh e.2.2.1,aD (b:=40) (by decide) hb]
  simp) (fun a=>by simp)).1,jB (fun x=>x)]
 simp

theorem bQ3 (c:Int):mP c=some (cond (inR c 1 20) c 1,[],[]):=by
 unfold mP
 rw [iH]
 cases inR c 1 20<;>rfl

def aT9 (t:den tTo) (now:Int):Bool:=aBy t&&inR now 0 1000000

theorem bSh {t:den tTo} {k:den tDb} {c now:Int} (ht:SmB 68719476736 tTo t) (hk:SmB 68719476736 tDb k):qX t k c now=some (cond (aT9 t now) (cond (inR c 1 20) c 1,now,0,t.1,t.2,k.1,k.2,[],[],[],[],[],[]) (0,0,0,[],[],[],[],[],[],[],[],[],[])):=by
 unfold qX aT9 pj2
 simp only [aM,bRu ht,iH,aYl ht,aDh hk.1,aDh hk.2,bQ3,aA]
 cases aBy t<;>cases inR now 0 1000000<;>rfl

def wC (a b:Int) (x:den tIb):Bool:=x.1==a&&x.2.1==b

theorem aLn {α:Type} (p:α→Bool): ∀ (l:List α) (k:Nat),cE (fun k x=>if p x then some (k:Int) else none) k l=(l.findIdx? p).map (fun i=>((k+i:Nat):Int))
 | [],_=>rfl
 | x::xs,k=>by
  simp only [cE,List.findIdx?_cons]
  cases h:p x with
  | true=>simp
  | false=>
   simp only [bW2,zU]
   rw [aLn p xs (k+1)]
   cases xs.findIdx? p with
   | none=>rfl
   | some i=>simp<;>omega

def mL (l:lIb) (a b:Int):Int:=((l.findIdx? (wC a b)).map (fun i=>((0+i:Nat):Int))).getD (-1)

theorem bAh {l:lIb} {a b:Int} (h:l.length<=68719476736):lR l a b=some (mL l a b):=by
 unfold lR mL
 rw [aX (l:=l) (fun k x=>if wC a b x then some (k:Int) else none) (by omega) (fun k x hi hd hw hm hk=>by
  simp only [hd,hi,hw,zZ,aA]
  unfold wC
  cases x.1==a<;>cases x.2.1==b<;>rfl) (by simp),aLn (wC a b)]
 cases l.findIdx? (wC a b)<;>rfl

def aGy (w:den tNw) (k:Nat) (f:den tFl):Bool:=match w.2.2.2.2.2.2.2.1[k]? with
 | some x=>eQ f&&(cX w.1 f.1&&(cX w.1 f.2.1&&(xOk x&&aFe f x)))
 | none=>false

def sZ (f g:den tFl):Bool:=g.1==f.1&&g.2.1==f.2.1

def aGv (w:den tNw) (k:Nat) (f:den tFl):Bool:=(w.2.2.2.2.2.2.1.take k).all fun g=> !sZ f g

theorem aCu {α:Type} (p:Nat→α→Bool) (l:List α):(l.zipIdx 0).all (fun z=>p z.2 z.1)=true↔ ∀ k x,l[k]? =some x→p k x=true:=by
 rw [bXk]
 constructor
 ·intro h k x hx
  exact h (x,k) (bZ9.2 (by simpa using hx))
 ·rintro h ⟨x,k⟩ hz
  exact h k x (by simpa using bZ9.1 hz)

def aGe (l:List Int) (m:Nat) (k:Nat) (n:Int):Bool:=inR n 0 ((m:Int) - 1)&&(decide (k=0)|| !decide ((l[k - 1]?).getD 0>=n))

def bC3 (w:den tNw):Bool:=
 aBy w.1&&(inR w.2.2.2.1 0 1000000&&(aD8 w.2.2.1 w.2.2.2.1&&((w.2.2.2.2.1.zipIdx 0).all (fun z=>aGe w.2.2.2.2.1 w.1.2.length z.2 z.1)&&(decide (w.2.2.2.2.2.1.length<=150)&&(decide (w.2.2.2.2.2.2.1.length<=4)&&(decide (w.2.2.2.2.2.2.2.1.length=w.2.2.2.2.2.2.1.length)&&(!decide (w.2.2.2.2.2.2.2.2<0)&&
  (w.2.2.2.2.2.1.all (fun x=>cX w.1 x.1)&&(w.2.2.2.2.2.2.1.zipIdx 0).all (fun z=>aGy w z.2 z.1&&aGv w z.2 z.1)))))))))

theorem bHv (n k:Nat):decide ((n:Int)>(k:Int))= !decide (n<=k):=by rw [bXl];simp

theorem bSr (a b:Nat):((a:Int) != (b:Int))= !decide (a=b):=by rw [bXl];simp;omega

theorem bFs {l:List Int} {k:Nat} (hk:k<l.length) (h0:0<k) (hl:l.length<=68719476736):idx l (wr ((k:Int) - 1))=some ((l[k - 1]?).getD 0):=by
 have e:wr ((k:Int) - 1)=((k - 1:Nat):Int):=by
  have :wr ((k:Int) - 1)=(k:Int) - 1:=wri (by omega) (by omega)
  rw [this];omega
 rw [e,aH,bWu (show k - 1<l.length by omega)]
 rfl

theorem bGw {w:den tNw} (h:tot tNw w<=1073741824):iS w=some (bC3 w):=by
 have sm:SmB 68719476736 tNw w:=(bG h).mono (by decide)
 have sms:SmB 1073741824 tNw w:=bG h
 have lT:=sm.1.1.1
 have lL:=sm.1.2.1
 have lD:=sms.2.2.2.2.1.1
 have lQ:=sms.2.2.2.2.2.1.1
 have lF:=sms.2.2.2.2.2.2.1.1
 have lX:=sms.2.2.2.2.2.2.2.1.1
 have eT:=bSz sm.1
 have eS:=bKt (now:=w.2.2.2.1) sms.2.2.1.2.1.1 sms.2.2.1.2.2.1
 have q1:decide ((w.2.2.2.2.2.1.length:Int)>150)= !decide (w.2.2.2.2.2.1.length<=150):=bHv _ 150
 have q2:decide ((w.2.2.2.2.2.2.1.length:Int)>4)= !decide (w.2.2.2.2.2.2.1.length<=4):=bHv _ 4
 unfold iS bC3 pj2 pj3 pj4 pj9 zz4 zz5 zz6 zz7 zz8
 rw [q1,q2,bSr]
 simp only [aM,eT,kN,eS,aA]
 by_cases hX:w.2.2.2.2.2.2.2.1.length=w.2.2.2.2.2.2.1.length
 ·rw [aX (l:=w.2.2.2.2.1) (fun k n=>if aGe w.2.2.2.2.1 w.1.2.length k n then none else some false) (by omega) (fun k n hi hd hw hm hk=>by
   simp only [hd,hi,hw,zZ,aA,kN,jO lL]
   unfold aGe
   cases inR n 0 ((w.1.2.length:Int) - 1)
   ·rfl
   ·by_cases h0:k=0
    ·subst h0;rfl
    ·have e1:decide ((k:Int)>0)=true:=by simp;omega
     rw [e1,bFs hk (by omega) (by omega),zW h0]
     simp only [bWx,zY,zZ,aA,Bool.false_or,bXe]
     cases decide ((w.2.2.2.2.1[k - 1]?).getD 0>=n)<;>rfl) (by simp),aDo (aGe w.2.2.2.2.1 w.1.2.length)]
  rw [aX (l:=w.2.2.2.2.2.1) (fun _ x=>if cX w.1 x.1 then none else some false) (by omega) (fun k x hi hd hw hm hk=>by
   simp only [hd,hi,hw,zZ,aA,aH2 lT]
   cases cX w.1 x.1<;>rfl) (by simp),oD (fun x:den tFy=>cX w.1 x.1)]
  rw [aX (l:=w.2.2.2.2.2.2.1) (fun k f=>if aGy w k f&&aGv w k f then none else some false) (by omega) (fun k f hi hd hw hm hk=>by
   have hx:w.2.2.2.2.2.2.2.1[k]? =some w.2.2.2.2.2.2.2.1[k]:=bWu (by omega)
   have hix:idx w.2.2.2.2.2.2.2.1 (k:Int)=some w.2.2.2.2.2.2.2.1[k]:=by rw [aH];exact hx
   have fs:=sm.2.2.2.2.2.2.1.2 f hm
   have xs:=(sm.2.2.2.2.2.2.2.1.2 _ (bW6 hx)).2.2.2.1
   simp only [hd,hi,zZ,aA,aH2 lT,aXh fs,hix,bU9 xs,aR6 fs.2.2.2.2.1.1 xs,wU hk,gN,hw]
   rw [aX (l:=w.2.2.2.2.2.2.1.take k) (fun _ g=>if !sZ f g then none else some (bWs (bWs false))) (by rw [vG hk];omega) (fun j g hi hd hw hm hk=>by
    simp only [hd,hi,hw,zZ,aA]
    unfold sZ
    cases g.1==f.1<;>cases g.2.1==f.2.1<;>rfl) (by simp),oD (fun g:den tFl=> !sZ f g)]
   unfold aGy aGv
   rw [hx]
   simp only
   cases eQ f<;>simp only [bWx,bW7,zZ,zY,aA,bXj,bXe,bW2,zU]
   ·rfl
   cases cX w.1 f.1<;>simp only [bWx,bW7,zZ,zY,aA,bXj,bXe,bW2,zU]
   ·rfl
   cases cX w.1 f.2.1<;>simp only [bWx,bW7,zZ,zY,aA,bXj,bXe,bW2,zU]
   ·rfl
   cases xOk w.2.2.2.2.2.2.2.1[k]<;>simp only [bWx,bW7,zZ,zY,aA,bXj,bXe,bW2,zU]
   ·rfl
   cases aFe f w.2.2.2.2.2.2.2.1[k]<;>cases (w.2.2.2.2.2.2.1.take k).all (fun g=> !sZ f g)<;>rfl) (by simp),aDo (fun k f=>aGy w k f&&aGv w k f)]
  cases aBy w.1<;>simp only [bWx,bW7,zZ,zY,aA,bXj,bXe]
  cases inR w.2.2.2.1 0 1000000<;>simp only [bWx,bW7,zZ,zY,aA,bXj,bXe]
  cases aD8 w.2.2.1 w.2.2.2.1<;>simp only [bWx,bW7,zZ,zY,aA,bXj,bXe]
  cases (w.2.2.2.2.1.zipIdx 0).all (fun z=>aGe w.2.2.2.2.1 w.1.2.length z.2 z.1)<;>cases decide (w.2.2.2.2.2.1.length<=150)<;>cases decide (w.2.2.2.2.2.2.1.length<=4)<;>cases decide (w.2.2.2.2.2.2.2.1.length=w.2.2.2.2.2.2.1.length)<;>cases decide (w.2.2.2.2.2.2.2.2<0)<;>cases w.2.2.2.2.2.1.all (fun x=>cX w.1 x.1)<;>cases (w.2.2.2.2.2.2.1.zipIdx 0).all (fun z=>aGy w z.2 z.1&&aGv w z.2 z.1)<;>rfl
 ·have e:decide (w.2.2.2.2.2.2.2.1.length=w.2.2.2.2.2.2.1.length)=false:=by simpa using hX
  rw [e]
  cases aBy w.1
  ·rfl
  ·cases inR w.2.2.2.1 0 1000000
   ·rfl
   ·cases aD8 w.2.2.1 w.2.2.2.1
    ·rfl
    ·cases decide (w.2.2.2.2.2.1.length<=150)<;>cases decide (w.2.2.2.2.2.2.1.length<=4)<;>simp

def bJg (n:Int):Int:=bXr (wr ((bXr n 2147483647)+2147483647)) 2147483647

theorem bT0 (n:Int):aGp n 2147483647=some (bJg n):=by unfold aGp;rw [kN];rfl

theorem bTp (n:Int):aGm n 2147483647=some (bJg n):=by unfold aGm;rw [iH];rfl

def bJe (a x:Int):Int:=bXr (wr ((wr ((wr (a * (1000003:Int)))+bJg x))+(11:Int))) (2147483647:Int)

def aDv (l:List Int):Int:=cN (fun _ x a=>bJe a x) 0 l 7

theorem bI1 {l:List Int} (h:l.length<=68719476736):vJ l=some (aDv l):=by
 unfold vJ aDv
 rw [nU (fun k (a:Int)=>(a,(k:Int))) ((7:Int),(0:Int)) 7 l (fun _ x a=>bJe a x) (fun _=>0) (fun _=>0) 1 id rfl (by omega) (by rw [sum_nil];omega) (fun k x a=>by omega) (fun k x a hi hx hd hw hk hb=>by
  simp only [hd,hi,hw,zZ,aA,bT0]
  rfl) (fun a=>by simp)]
 rfl

theorem aVt {l:List Int} (h:l.length<=68719476736):vI l=some (aDv l):=by
 unfold vI aDv
 rw [nU (fun k (a:Int)=>(a,(k:Int))) ((7:Int),(0:Int)) 7 l (fun _ x a=>bJe a x) (fun _=>0) (fun _=>0) 1 id rfl (by omega) (by rw [sum_nil];omega) (fun k x a=>by omega) (fun k x a hi hx hd hw hk hb=>by
  simp only [hd,hi,hw,zZ,aA,bTp]
  rfl) (fun a=>by simp)]
 rfl

def aWn (h:den cG) (a:List Int):List Int:=a++[h.1,h.2.1,h.2.2.1]

def aL2 (x:den tPp) (a:List Int):List Int:=cN (fun _ h a=>aWn h a) 0 x.2.2.2 (a++[x.1,x.2.1,x.2.2.1])

def aIk (p:den tPt):List Int:=cN (fun _ x a=>aL2 x a) 0 p []

theorem bMb {α:Type} (c:Nat) (l:List α):(l.map fun _=>c).sum=c * l.length:=by
 induction l with
 | nil=>rfl
 | cons x l ih=>simp only [bXg,bYb,ih,bXy,Nat.mul_succ];omega

theorem aSv (x:den tPp) (a:List Int):(aL2 x a).length<=a.length+(3+3 * x.2.2.2.length):=by
 have h:=aBs (f:=fun _ h (a:List Int)=>aWn h a) (m:=bW9) (cost:=fun _=>3) (fun k x a=>by simp [aWn]) x.2.2.2 0 (a++[x.1,x.2.1,x.2.2.1])
 rw [bMb] at h
 unfold aL2
 simp at h
 omega

theorem aKm: ∀ p:den tPt,(p.map fun x:den tPp=>3+3 * x.2.2.2.length).sum<=3 * tot tPt p
 | []=>by simp
 | x::p=>by
  have h1:=kW (t:=tPp) x p
  have h2:x.2.2.2.length<=tot tPp x:=bWv (eR (t:=cG) x.2.2.2) (by simp only [rM,tT];omega)
  have h3:=aKm p
  simp only [bXg,bYb]
  show _<=3 * tot (.sl tPp) (x::p)
  rw [h1]
  have h3:(p.map fun x:den tPp=>3+3 * x.2.2.2.length).sum<=3 * tot (.sl tPp) p:=h3
  omega

theorem bGr (p:den tPt):(aIk p).length<=3 * tot tPt p:=by
 have h:=aBs (f:=fun _ x (a:List Int)=>aL2 x a) (m:=bW9) (cost:=fun x:den tPp=>3+3 * x.2.2.2.length) (fun k x a=>aSv x a) p 0 []
 have h2:=aKm p
 unfold aIk
 simp only [bY6,Nat.zero_add] at h
 omega

theorem aSf {p:den tPt} (h:tot tPt p<=1073741824):nY p=some (aDv (aIk p)):=by
 have hl:=eR (t:=tPp) p
 have hl:p.length<=1073741824:=bWv hl h
 have hs:=aKm p
 have hd':=bGr p
 unfold nY
 rw [nU (fun k (a:List Int)=>((k:Int),a)) ((0:Int),[]) [] p (fun _ x a=>aL2 x a) bW9 (fun x:den tPp=>3+3 * x.2.2.2.length) 68719476736 id rfl (by omega) (by simp only [bY6];omega) (fun k x a=>aSv x a) (fun k x a hi hx hd hw hk hb=>by
  simp only [hd,hi,hw,zZ,aA,aD (b:=8) (n:=a.length) (m:=3) (by decide) (by omega)]
  rw [nU (fun k (a:List Int)=>((k:Int),a)) ((0:Int),a++[x.1,x.2.1,x.2.2.1]) (a++[x.1,x.2.1,x.2.2.1]) x.2.2.2 (fun _ h a=>aWn h a) bW9 (fun _=>3) 68719476736 id rfl (by omega) (by rw [bMb];simp;omega) (fun k h a=>by simp [aWn]) (fun k h a hi hx hd hw hk hb=>by
   simp only [hd,hi,hw,zZ,aA,aD (b:=8) (n:=a.length) (m:=3) (by decide) (by omega)]
   rfl) (fun a=>by simp)]
  rfl) (fun a=>by simp)]
 simp only [aA]
 rw [show cN (fun _ x a=>aL2 x a) 0 p []=aIk p from rfl]
 simp only [id,aVt (l:=aIk p) (by omega),aA]

def aHs (a:Int×Bool) (h:den cG):Int×Bool:=cond (!a.2||decide (h.2.2.2.1<a.1)) (h.2.2.2.1,true) a

def aG4 (l:cZ):Int:=(l.foldl aHs (0,false)).1

def aK3 (p:den tPt):cZ:=cN (fun _ x a=>a++x.2.2.2) 0 p []

theorem aV4: ∀ (p:den tPt) (k:Nat) (a:cZ),cN (fun _ (x:den tPp) a=>a++x.2.2.2) k p a=a++p.flatMap (fun x:den tPp=>x.2.2.2)
 | [],_,a=>by simp [cN]
 | x::p,k,a=>by
  simp only [cN]
  rw [aV4 p (k+1)]
  simp

theorem aOr: ∀ (p:den tPt) (k:Nat) (a:Int×Bool),cN (fun _ (x:den tPp) a=>cN (fun _ h a=>aHs a h) 0 x.2.2.2 a) k p a=(p.flatMap fun x:den tPp=>x.2.2.2).foldl aHs a
 | [],_,_=>rfl
 | x::p,k,a=>by
  simp only [cN,List.flatMap_cons,List.foldl_append]
  rw [aOr p (k+1),vE]

theorem aWd {p:den tPt} (h:tot tPt p<=1073741824):jS p=some (aG4 (aK3 p)):=by
 have hl:p.length<=1073741824:=bWv (eR (t:=tPp) p) h
 have hs:=aI6 p
 unfold jS
 rw [nU (fun k (a:Int×Bool)=>(a.1,a.2,(k:Int))) ((0:Int),false,(0:Int)) ((0:Int),false) p (fun _ (x:den tPp) a=>cN (fun _ h a=>aHs a h) 0 x.2.2.2 a) (fun _=>0) (fun _=>0) 1 (fun a=>a.1) rfl (by omega) (by rw [sum_nil];omega) (fun k x a=>by omega) (fun k x a hi hx hd hw hk hb=>by
  have hxl:x.2.2.2.length<=1073741824:=by
   have h1:=yA (t:=tPp) hx
   have h2:x.2.2.2.length<=tot tPp x:=bWv (eR (t:=cG) x.2.2.2) (by simp only [rM,tT];omega)
   have h3:tot (.sl tPp) p<=1073741824:=h
   omega
  simp only [hd,hi,hw,zZ,aA]
  rw [nU (fun k (a:Int×Bool)=>(a.1,a.2,(k:Int))) (a.1,a.2,(0:Int)) a x.2.2.2 (fun _ h a=>aHs a h) (fun _=>0) (fun _=>0) 1 id rfl (by omega) (by rw [sum_nil];omega) (fun k x a=>by omega) (fun k h a hi hx hd hw hk hb=>by
   simp only [hd,hi,hw,zZ,aA]
   unfold aHs
   cases ca:a.2
   ·rfl
   ·cases c:decide (h.2.2.2.1<a.1)<;>simp [c,ca]) (fun a=>by simp)]
  rfl) (fun a=>by simp)]
 rw [aOr]
 unfold aG4 aK3
 rw [aV4]
 rfl

def aF0 (a b:den tPt):Bool:=
 cond (((gT a).length:Int) != ((gT b).length:Int)) (decide (((gT a).length:Int)<((gT b).length:Int)))
  (cond (aG4 (aK3 a) != aG4 (aK3 b)) (decide (aG4 (aK3 a)>aG4 (aK3 b))) (decide (aDv (aIk a)<aDv (aIk b))))

theorem bJk {a b:den tPt} (ha:tot tPt a<=1073741824) (hb:tot tPt b<=1073741824):qV a b=some (aF0 a b):=by
 unfold qV mC aF0
 simp only [aE7 (p:=a) (bWv ha (by decide)),aE7 (p:=b) (bWv hb (by decide)),aWd ha,aWd hb,aSf ha,aSf hb,aA]
 cases ((gT a).length:Int) != ((gT b).length:Int)
 ·cases aG4 (aK3 a) != aG4 (aK3 b)<;>rfl
 ·rfl

def aEb (x:den tPt) (out:lPt):Nat→Nat
 | 0=>0
 | k+1=>cond (aF0 x ((out[k]?).getD [])) (aEb x out k) (k+1)

theorem aY9 (x:den tPt) (out:lPt): ∀ k,aEb x out k<=k
 | 0=>bXb _
 | k+1=>by
  unfold aEb
  cases aF0 x ((out[k]?).getD [])
  ·exact bXb _
  ·exact Nat.le_succ_of_le (aY9 x out k)

theorem aSm {x:den tPt} {out:lPt} {step:Int→Option (Int⊕Int)} (hl:out.length<=68719476736)
  (h0:step 0=some (.inr 0)) (h1: ∀ k (y:den tPt),out[k]? =some y→step ((k+1:Nat):Int)=some (cond (aF0 x y) (.inl (k:Int)) (.inr ((k+1:Nat):Int)))):
  ∀ k,k<=out.length→aC step (k:Int)=some ((aEb x out k:Nat):Int)
 | 0,_=>bX h0
 | k+1,hk=>by
  have hy:out[k]? =some out[k]:=bWu (by omega)
  have hs:=h1 k _ hy
  unfold aEb
  rw [hy,bXs]
  cases hb:aF0 x out[k] with
  | true=>rw [hb] at hs;rw [dS hs];exact aSm hl h0 h1 k (by omega)
  | false=>rw [hb] at hs;exact bX hs

def aJi (x:den tPt) (out:lPt):lPt:=out.take (aEb x out out.length)++[x]++out.drop (aEb x out out.length)

theorem aWa (x:den tPt) (out:lPt):tot (.sl tPt) (aJi x out)=tot (.sl tPt) out+(1+tot tPt x):=by
 have h:=sQ (t:=tPt) (out.take (aEb x out out.length)) (out.drop (aEb x out out.length))
 rw [List.take_append_drop] at h
 unfold aJi
 rw [sQ,sQ,aFb]
 omega

def aGu (l:lPt):lPt:=cN (fun _ x a=>aJi x a) 0 l []

theorem bEd (l:lPt):tot (.sl tPt) (aGu l)<=tot (.sl tPt) l:=by
 have h:=aBs (f:=fun _ x (a:lPt)=>aJi x a) (m:=tot (.sl tPt)) (cost:=fun x=>1+tot tPt x) (fun k x a=>Nat.le_of_eq (aWa x a)) l 0 []
 rw [aQ7,aCq] at h
 unfold aGu
 omega

theorem bQy {l:lPt} (h:tot (.sl tPt) l<=1073741824):sE l=some (aGu l):=by
 have hl:=eR (t:=tPt) l
 unfold sE aGu ixb
 rw [nU (fun k (a:lPt)=>((k:Int),a)) ((0:Int),[]) [] l (fun _ x a=>aJi x a) (tot (.sl tPt)) (fun x=>1+tot tPt x) 1073741824 id rfl (by omega) (by rw [aQ7,aCq];omega) (fun k x a=>Nat.le_of_eq (aWa x a)) (fun k x a hi hx hd hw hk hb=>by
  have ha:=eR (t:=tPt) a
  have hsm:SmB 68719476736 tPt x:=(bG (B:=1073741824) (t:=tPt) (by omega)).mono (by decide)
  simp only [hd,hi,hw,zZ,aA,aV,bK,bA,aZ,bD]
  rw [aSm (x:=x) (out:=a) (by omega) (by rfl) (fun j y hy=>by
   have hlt:=(bW1.1 hy).1
   have hty:=yA (t:=tPt) hy
   have e1:decide (((j+1:Nat):Int)>0)=true:=by simp<;>omega
   have e2:wr (((j+1:Nat):Int) - 1)=(j:Int):=by
    have :wr (((j+1:Nat):Int) - 1)=((j+1:Nat):Int) - 1:=wri (by omega) (by omega)
    rw [this];omega
   have e3:decide ((j:Int)<(a.length:Int))=true:=by simp;omega
   simp only [e1,e2,e3,fG,zZ,bW4,hy,aA,bJk (a:=x) (b:=y) (by omega) (by omega)]
   cases aF0 x y<;>rfl) a.length (bXb _)]
  have hp:=aY9 x a a.length
  have s1:bY (0:Int) ((aEb x a a.length:Nat):Int) (a.length:Int)=true:=by
   have :=aDa (a:=0) (b:=aEb x a a.length) (n:=a.length)
   rw [show ((0:Nat):Int)=0 from rfl] at this
   rw [this];simp;omega
  have s2:bY ((aEb x a a.length:Nat):Int) (a.length:Int) (a.length:Int)=true:=by rw [aDa];simp;omega
  simp only [aA,s1,s2,zZ,gN,aU1 hp,aE6 hsm]
  rw [aD (b:=24) (by decide) (by simp<;>omega),aD (b:=24) (by decide) (by simp<;>omega),aD (b:=24) (by decide) (by simp<;>omega)]
  simp only [zZ,bXo,aA]
  rfl) (fun a=>by simp)]
 rfl

def aDf (l:lRv) (now:Int):lRv:=l.filter fun x=>decide (now<=x.2.2)

theorem bEg {l:lRv} {now:Int} (h:l.length<=1073741824):gC l now=some (aDf l now):=by
 unfold gC aDf pj3
 rw [nU (fun k (a:lRv)=>((k:Int),a)) ((0:Int),[]) [] l (fun _ x a=>if decide (now<=x.2.2)=true then a++[x] else a) bW9 (fun _=>1) 68719476736 id rfl (by omega) (by rw [eZ];simp;omega) (fun k x a=>by split<;>simp) (fun k x a hi hx hd hw hk hb=>by
  simp only [hd,hi,hw,zZ,aA,aM,aD (b:=24) (n:=a.length) (m:=1) (by decide) (by omega)]
  cases decide (now<=x.2.2)<;>simp) (fun a=>by simp),aCa (fun x:den tRv=>decide (now<=x.2.2))]
 simp

def aC9 (l:lRv) (p:den tPt) (now:Int):Bool:= !((aDf l now).all fun x=> !rC p x)

theorem bB5 (l:lRv) (now:Int):(aDf l now).length<=l.length:=bZp _ _

theorem bGi {l:lRv} {p:den tPt} {now:Int} (h:l.length<=1073741824) (hp:tot tPt p<=1073741824):tY l p now=some (aC9 l p now):=by
 have ha:=bB5 l now
 unfold tY aC9 ixb pj3
 rw [bEg h,aA]
 rw [aX (l:=aDf l now) (fun _ x=>if !rC p x then none else some true) (by omega) (fun k x hi hd hw hm hk=>by
  have hy:(aDf l now)[k]? =some x:=by rw [← aH];exact hi
  simp only [hd,hy,hw,zZ,aA,fG,bW4,aM,aTc hp]
  cases rC p x<;>rfl) (by simp),oD (fun x:den tRv=> !rC p x)]
 cases (aDf l now).all (fun x=> !rC p x)<;>rfl

def aHt (l:lRv) (p:lPt) (now:Int):lPt:=(p.filter fun x=> !aC9 l x now)++p.filter fun x=>aC9 l x now

theorem bEh {l:lRv} {p:lPt} {now:Int} (h:l.length<=1073741824) (hp:tot (.sl tPt) p<=1073741824):iZ l p now=some (aHt l p now):=by
 have hl:=eR (t:=tPt) p
 unfold iZ aHt
 rw [nU (fun k (a:lPt)=>((k:Int),a)) ((0:Int),[]) [] p (fun _ x a=>if (!aC9 l x now)=true then a++[x] else a) bW9 (fun _=>1) 68719476736 id rfl (by omega) (by rw [eZ];simp;omega) (fun k x a=>by split<;>simp) (fun k x a hi hx hd hw hk hb=>by
  have ht:=yA (t:=tPt) hx
  have hsm:SmB 68719476736 tPt x:=(bG (B:=1073741824) (t:=tPt) (by omega)).mono (by decide)
  simp only [hd,hi,hw,zZ,aA,bGi (l:=l) (p:=x) (now:=now) h (by omega),aE6 hsm,aD (b:=24) (n:=a.length) (m:=1) (by decide) (by omega)]
  cases aC9 l x now<;>simp) (fun a=>by simp),aCa (fun x:den tPt=> !aC9 l x now)]
 have e:(p.filter fun x=> !aC9 l x now).length<=p.length:=bZp _ _
 simp only [id,aA,bXo]
 rw [nU (fun k (a:lPt)=>((k:Int),a)) ((0:Int),p.filter fun x=> !aC9 l x now) (p.filter fun x=> !aC9 l x now) p (fun _ x a=>if aC9 l x now=true then a++[x] else a) bW9 (fun _=>1) 68719476736 id rfl (by omega) (by rw [eZ];omega) (fun k x a=>by split<;>simp) (fun k x a hi hx hd hw hk hb=>by
  have ht:=yA (t:=tPt) hx
  have hsm:SmB 68719476736 tPt x:=(bG (B:=1073741824) (t:=tPt) (by omega)).mono (by decide)
  simp only [hd,hi,hw,zZ,aA,bGi (l:=l) (p:=x) (now:=now) h (by omega),aE6 hsm,aD (b:=24) (n:=a.length) (m:=1) (by decide) (by omega)]
  cases aC9 l x now<;>simp) (fun a=>by simp),aCa (fun x:den tPt=>aC9 l x now)]
 rfl

def aMh (f:den tFl) (p:lPt) (now:Int):lPt:=(aHt f.2.2.2.2.2.2.2.2 (aGu p) now).take (min (aHt f.2.2.2.2.2.2.2.2 (aGu p) now).length 24)

theorem bPf (n:Nat):(if (24:Int)<(n:Int) then (24:Int) else (n:Int))=((min n 24:Nat):Int):=by
 by_cases c:24<n
 ·rw [zT (by omega),Nat.min_eq_right (by omega)];rfl
 ·rw [zS (by omega),Nat.min_eq_left (by omega)]

theorem bJ5 (n:Nat):bY (0:Int) ((min n 24:Nat):Int) (n:Int)=true:=by
 have :=aDa (a:=0) (b:=min n 24) (n:=n)
 rw [show ((0:Nat):Int)=0 from rfl] at this
 rw [this];simp;omega

theorem bR7 {f:den tFl} {p:lPt} {now:Int} (h:tot tFl f<=1073741824) (hp:tot (.sl tPt) p<=1073741824):pM f p now=some (f.1,f.2.1,f.2.2.1,f.2.2.2.1,aMh f p now,0,0,f.2.2.2.2.1,f.2.2.2.2.2.2.2.2):=by
 have hf:SmB 68719476736 tFl f:=(bG h).mono (by decide)
 have hv:f.2.2.2.2.2.2.2.2.length<=1073741824:=bWv (eR (t:=tRv) _) (bF (bF (bF (bF (bF (bF (bF (bF h))))))))
 have hs:=bEd p
 unfold pM aMh pj9 zz6 zz8
 simp only [aM,aC8 hf,bQy hp,bEh (l:=f.2.2.2.2.2.2.2.2) (p:=aGu p) (now:=now) hv (by omega),aTt,aA,bPf,bJ5,zZ,gN]
 rfl

theorem bPv {l:lRs} (h:l.length<=1073741824):eN l=some l:=by
 unfold eN
 rw [aD (by decide) (by simp;omega)]
 simp

theorem bQp {g:den tSc} (h1:g.2.1.length<=1073741824) (h2:g.2.2.length<=1073741824):eV g=some g:=by
 unfold eV
 rw [bPv h1,aA,aD (by decide) (by simp;omega)]
 simp

theorem aZm {g:den tSc} (h1:g.2.1.length<=1073741824) (h2:g.2.2.length<=1073741824):hO g=some g:=by
 unfold hO pj3
 rw [aD (b:=40) (by decide) (by simp;omega),aD (b:=32) (by decide) (by simp;omega)]
 simp [aV,bK,bA,aZ,bD]

def tR (l:lUs) (id s d:Int):Int:=if place l id s d<0 then 0 else ((l[(place l id s d).toNat]?).map (·.2.2.2)).getD 0

theorem bSq {g:den tSc} {id s d:Int} (h:g.2.2.length<=1073741824):sI g id s d=some (tR g.2.2 id s d):=by
 unfold sI tR pj3
 rw [show ((g.1,g.2.1,g.2.2):den tSc)=g from rfl,aRm h,aA]
 rcases aJc g.2.2 id s d with hp | ⟨j,x,hp,hx,hj⟩
 ·rw [hp];rfl
 ·rw [hp,zX (by omega),zZ,aH,hx,zS (by omega)];simp [hx]

theorem bR9 {g:den tSc} {id s d:Int} (h:g.2.2.length<=1073741824):pW g id s d=some (tR g.2.2 id s d):=by
 unfold pW tR
 rw [bAf h,aA]
 rcases aJc g.2.2 id s d with hp | ⟨j,x,hp,hx,hj⟩
 ·rw [hp];rfl
 ·rw [hp,zW (by omega),zY,aH,hx,zS (by omega)];simp [hx]

def vW (l:lUs) (id s d:Int):lUs:=
 if place l id s d<0 then l++[(id,s,d,1)] else match l[(place l id s d).toNat]? with
  | some x=>l.set (place l id s d).toNat (x.1,x.2.1,x.2.2.1,wr (x.2.2.2+1))
  | none=>l

theorem aS8 (l:lUs) (id s d:Int):(vW l id s d).length<=l.length+1:=by
 unfold vW
 split
 ·simp
 ·split<;>simp

theorem bS4 {g:den tSc} {id s d:Int} (h1:g.2.1.length<=1073741824) (h2:g.2.2.length<=1073741824):tX g id s d=some (g.1,g.2.1,vW g.2.2 id s d):=by
 unfold tX vW ixb pj3
 rw [show ((g.1,g.2.1,g.2.2):den tSc)=g from rfl,aZm h1 h2,aA,bAf h2,aA]
 rcases aJc g.2.2 id s d with hp | ⟨j,x,hp,hx,hj⟩
 ·rw [hp,aD (b:=32) (by decide) (by omega)];rfl
 ·have hd:decide ((j:Int)<(g.2.2.length:Int))=true:=by simpa using hj
  have hd2:decide (j<g.2.2.length)=true:=by simpa using hj
  have hd0:decide ((0:Int)<=(j:Int))=true:=by simp
  rw [hp,zW (show ¬ (j:Int)<0 by omega),zY,zS (by omega)]
  simp only [hd,hd0,hd2,zZ,bW4,hx,aA]

def rN (g:den tSc) (id s d now:Int):q36:=
 if tR g.2.2 id s d<oY g id s d now then (g.1,true,g.2.1,vW g.2.2 id s d)
 else if tR g.2.2 0 s d<oY g 0 s d now then (g.1,true,g.2.1,vW g.2.2 0 s d)
 else (g.1,false,g.2.1,g.2.2)

theorem bPx {g:den tSc} {id s d now:Int} (h1:g.2.1.length<=1073741824) (h2:g.2.2.length<=1073741824):uO g id s d now=some (rN g id s d now):=by
 unfold uO ixb pj2 pj3
 rw [show ((g.1,g.2.1,g.2.2):den tSc)=g from rfl,bQp h1 h2,aA]
 rw [aX (l:=[id,0]) (fun _ n=>if tR g.2.2 n s d<oY g n s d now then some (g.1,true,g.2.1,vW g.2.2 n s d) else none) (by simp) (fun k n hi hd hw hx hk=>by
  rw [aH] at hi
  have hd0:decide ((0:Int)<=(k:Int))=true:=by simp
  simp only [hd,hd0,hi,hw,zZ,aA,bW4,bSq h2,bAi h1,aRm h2]
  by_cases hu:tR g.2.2 n s d<oY g n s d now
  ·rw [zW (by omega),zY,zT hu]
   unfold vW
   rcases aJc g.2.2 n s d with hp | ⟨j,x,hp,hx,hj⟩
   ·rw [hp,aD (b:=32) (by decide) (by omega)];rfl
   ·have hd1:decide ((j:Int)<(g.2.2.length:Int))=true:=by simpa using hj
    have hd2:decide ((j:Int)>=0)=true:=by simp
    have hd3:decide ((0:Int)<=(j:Int))=true:=by simp
    rw [hp,zS (by omega)]
    simp only [hd1,hd2,hd3,zZ,bW4,hx,aA]
  ·rw [zX (by omega),zZ,zS hu]) (by simp)]
 unfold rN
 simp only [cE]
 by_cases hu:tR g.2.2 id s d<oY g id s d now
 ·simp [hu]
 ·by_cases hv:tR g.2.2 0 s d<oY g 0 s d now<;>simp [hu,hv]

theorem aYn {g:den tSc} {id s d now:Int} (h1:g.2.1.length<=1073741824) (h2:g.2.2.length<=1073741824):rS g id s d now=some (rN g id s d now):=by
 unfold rS rN pj2 pj3
 rw [show ((g.1,g.2.1,g.2.2):den tSc)=g from rfl]
 simp only [bR9 h2,bF0 h1,bSw h1,bS4 h1 h2,aZm h1 h2,aA]
 have h0:oY g 0 s d now=free g.2.1 g.1 s d now:=rfl
 rw [h0]
 by_cases hid:id=0
 ·subst hid
  rw [h0]
  by_cases hv:tR g.2.2 0 s d<free g.2.1 g.1 s d now<;>simp [hv]
 ·have hr:oY g id s d now=zL g.2.1 id s d now:=by unfold oY;simp [hid]
  have hne:(id != 0)=true:=by simpa using hid
  rw [hr,hne,zZ,aA]
  by_cases hu:tR g.2.2 id s d<zL g.2.1 id s d now
  ·simp [hu]
  ·by_cases hv:tR g.2.2 0 s d<free g.2.1 g.1 s d now<;>simp [hu,hv]

def pA (t:den tTo) (r d:Int):Int:=
 match cE (fun k x=>if cV x r d then some (k:Int) else none) 0 t.2 with
 | some i=>i
 | none=> -1

theorem aD1 (t:den tTo) (r d:Int):pA t r d= -1∨ ∃ (j:Nat) (x:den tLk),pA t r d=(j:Int)∧t.2[j]? =some x∧cV x r d=true:=by
 unfold pA
 cases h:cE (fun k x=>if cV x r d then some (k:Int) else none) 0 t.2 with
 | none=>exact .inl rfl
 | some i=>
  obtain ⟨j,x,h1,h2,h3⟩:=aM9 h
  exact .inr ⟨j,x,by simpa using h2,h1,h3⟩

theorem aNd {t:den tTo} {r d:Int} (h:t.2.length<=68719476736):kH t r d=some (pA t r d):=by
 unfold kH pj5
 rw [aX (l:=t.2) (fun k x=>if cV x r d then some (k:Int) else none) (by omega) (fun k x hi hd hw hx hk=>by
  simp only [hd,hi,hw,zZ,aA,aZo]
  cases cV x r d<;>rfl) (by simp)]
 unfold pA
 cases cE (fun k x=>if cV x r d then some (k:Int) else none) 0 t.2<;>rfl

theorem aN1 {t:den tTo} {r d:Int} (h:t.2.length<=68719476736):kF t r d=some (pA t r d):=by
 unfold kF pj5
 rw [aX (l:=t.2) (fun k x=>if cV x r d then some (k:Int) else none) (by omega) (fun k x hi hd hw hx hk=>by
  simp only [hd,hi,hw,zZ,aA,aY2]
  cases cV x r d<;>rfl) (by simp)]
 unfold pA
 cases cE (fun k x=>if cV x r d then some (k:Int) else none) 0 t.2<;>rfl


def bD0 (x:den tLk) (r d:Int):q24:=cond (x.1==r&&x.2.1==d) (x.2.2.1,x.2.2.2.1) (x.1,x.2.1)

def remote (t:den tTo) (r d:Int):q24:=if pA t r d<0 then (-1,0) else bD0 ((t.2[(pA t r d).toNat]?).getD (0,0,0,0,0)) r d

theorem aXi {t:den tTo} {r d:Int} (h:t.2.length<=68719476736):nE t r d=some (remote t r d):=by
 unfold nE remote pj2
 simp only [aM,aNd h,aA]
 rcases aD1 t r d with e | ⟨j,x,e,hx,he⟩
 ·rw [e];rfl
 ·rw [e,zW (by omega),zY,zS (by omega),aH,hx,bW4,hx,aA,bXs]
  unfold bD0
  cases x.1==r<;>cases x.2.1==d<;>rfl

theorem aFm {t:den tTo} {r d:Int} (h:t.2.length<=68719476736):fU t r d=some (remote t r d):=by
 unfold fU remote pj2
 simp only [aM,aN1 h,aA]
 rcases aD1 t r d with e | ⟨j,x,e,hx,he⟩
 ·rw [e];rfl
 ·rw [e,zW (by omega),zY,zS (by omega),aH,hx,bW4,hx,aA,bXs]
  unfold bD0
  cases x.1==r<;>cases x.2.1==d<;>rfl

def bAw (x:den tLk) (r d:Int):Int:=cond (x.2.2.2.2==1) 1 (cond (x.2.2.2.2==3) 4 (cond (x.2.2.2.2==2) (cond (x.1==r&&x.2.1==d) 2 3) 0))

def aAr (t:den tTo) (r d:Int):Int:=cond (d==0) 5 (if pA t r d<0 then 0 else bAw ((t.2[(pA t r d).toNat]?).getD (0,0,0,0,0)) r d)

theorem bQu {t:den tTo} {r d:Int} (h:t.2.length<=68719476736):jG t r d=some (aAr t r d):=by
 unfold jG aAr pj2 zz4
 simp only [aM,aNd h,aA]
 cases d==0
 ·rcases aD1 t r d with e | ⟨j,x,e,hx,he⟩
  ·rw [e];rfl
  ·rw [e,zW (by omega),zY,zY,zY,zS (by omega),aH,hx,bW4,hx,aA,bXs]
   unfold bAw
   rw [show (x.2.2.2.2 != 2)= !(x.2.2.2.2==2) from rfl]
   cases x.2.2.2.2==1<;>cases x.2.2.2.2==3<;>cases x.2.2.2.2==2<;>cases x.1==r<;>cases x.2.1==d<;>rfl
 ·rfl

theorem aQt {t:den tTo} {r d:Int} (h:t.2.length<=68719476736):dR t r d=some (aAr t r d):=by
 unfold dR aAr pj2 zz4
 simp only [aM,aN1 h,aA]
 cases d==0
 ·rcases aD1 t r d with e | ⟨j,x,e,hx,he⟩
  ·rw [e];rfl
  ·rw [e,zW (by omega),zY,zY,zY,zS (by omega),aH,hx,bW4,hx,aA,bXs]
   unfold bAw
   cases x.2.2.2.2==1<;>cases x.2.2.2.2==3<;>cases x.2.2.2.2==2<;>cases x.1==r<;>cases x.2.1==d<;>rfl
 ·rfl

def aDe (a b:Int):Bool:=cond (a==5||a==2) (b==2||b==5||(b==1||b==3)) (cond (a==3) (b==2||b==5) (cond (a==1) (b==2||b==5||b==1) false))

theorem bGx (a b:Int):kC a b=some (aDe a b):=by
 unfold kC aDe
 cases c5:a==5<;>cases c2:a==2<;>cases a==3<;>cases a==1<;>cases b==2<;>cases b==5<;>cases b==1<;>cases b==3<;>first | rfl | (simp at c5 c2;omega)

theorem bHi (a b:Int):jW a b=some (aDe a b):=by
 unfold jW aDe
 cases c5:a==5<;>cases c2:a==2<;>cases a==3<;>cases a==1<;>cases b==2<;>cases b==5<;>cases b==1<;>cases b==3<;>first | rfl | (simp at c5 c2;omega)

def aJa (t:den tTo) (s:den yK):Bool:=aDe (aAr t s.1 s.2.1) (aAr t s.1 s.2.2)&&(!(s.2.1==s.2.2)||s.2.1==0)

theorem bPi {t:den tTo} {s:den yK} (h:t.2.length<=68719476736):oK t s=some (aJa t s):=by
 unfold oK aJa pj2
 simp only [aM,bQu h,bGx,aA]
 rw [show (s.2.1 != s.2.2)= !(s.2.1==s.2.2) from rfl]
 cases aDe (aAr t s.1 s.2.1) (aAr t s.1 s.2.2)<;>cases s.2.1==s.2.2<;>cases s.2.1==0<;>rfl

theorem bP8 {t:den tTo} {s:den yK} (h:t.2.length<=68719476736):oO t s=some (aJa t s):=by
 unfold oO aJa pj2
 simp only [aM,aQt h,bHi,aA]
 rw [show (s.2.1 != 0)= !(s.2.1==0) from rfl]
 cases aDe (aAr t s.1 s.2.1) (aAr t s.1 s.2.2)<;>cases s.2.1==s.2.2<;>cases s.2.1==0<;>rfl

def aJx (s i:Int):Bool:=inR s 0 65535&&(inR i 0 15&&(xF .i64 (shr .i64 s i) 1==1))

theorem aTj {i:Int} (h:inR i 0 15=true):IntKind.wrap .u64 i=i:=by
 obtain ⟨h0,h1⟩:=bJ.1 h
 have :=aU3 (n:=i.toNat) (by omega)
 rwa [bYy h0] at this

theorem bPa (s i:Int):uJ s i=some (aJx s i):=by
 unfold uJ aJx pV
 simp only [kN,aA]
 cases inR s 0 65535
 ·rfl
 ·cases c:inR i 0 15
  ·rfl
  ·rw [aTj c,zW (by have :=bJ.1 c;omega)]
   rfl

theorem bPw (s i:Int):uT s i=some (aJx s i):=by
 unfold uT aJx pJ xT
 simp only [iH,aA]
 cases inR s 0 65535
 ·rfl
 ·cases c:inR i 0 15
  ·rfl
  ·simp only [zZ,aA,zW (show ¬ i<0 by have :=bJ.1 c;omega),zY,bXe]

def aN4 (s i:Int):Int:=cond (inR s 0 65535&&inR i 0 15) (bOr .i64 s (shl .i64 1 i)) s

theorem bS0 (s i:Int):qF s i=some (aN4 s i):=by
 unfold qF aN4 pV
 simp only [kN,aA]
 cases inR s 0 65535
 ·rfl
 ·cases c:inR i 0 15
  ·rfl
  ·rw [aTj c,zW (by have :=bJ.1 c;omega)]
   rfl

theorem bTf (s i:Int):qN s i=some (aN4 s i):=by
 unfold qN aN4 pJ xT
 simp only [iH,aA]
 cases inR s 0 65535
 ·rfl
 ·cases c:inR i 0 15
  ·rfl
  ·rw [zW (by have :=bJ.1 c;omega)]
   rfl

theorem aV5 {α:Type} (p:α→Bool) (N:Int): ∀ (l:List α) (k:Nat),N=((k+l.length:Nat):Int)→aJg (fun k x (_:Unit)=>if p x then .inl () else .inr (k:Int)) (fun _=>N) k l ()=((k+l.findIdx (fun x=> !p x):Nat):Int)
 | [],k,h=>by simpa [aJg] using h
 | x::xs,k,h=>by
  simp only [aJg,List.findIdx_cons]
  cases hp:p x with
  | true=>
   have :=aV5 p N xs (k+1) (by rw [h];simp;omega)
   simp only [zV,this,bWx,zY]
   omega
  | false=>simp

def jT (l:List Int) (n:Int):Nat:=l.findIdx fun x=> !decide (x<n)

theorem aQj (l:List Int) (n:Int):jT l n<=l.length:=List.findIdx_le_length

theorem aS1 {l:List Int} {n:Int} {step:Int→Option (Int⊕Int)} (hl:l.length<=68719476736)
  (h: ∀ (k:Nat) (x:Int),idx l (k:Int)=some x→l[k]? =some x→decide ((k:Int)<(l.length:Int))=true→IntKind.i64.wrap ((k:Int)+1)=((k+1:Nat):Int)→step (k:Int)=some (if decide (x<n) then .inl ((k+1:Nat):Int) else .inr (k:Int)))
  (he:step (l.length:Int)=some (.inr (l.length:Int))):aC step (0:Int)=some (jT l n:Int):=by
 rw [aMe (fun k (_:Unit)=>(k:Int)) (0:Int) () l (fun k x _=>if decide (x<n) then .inl () else .inr (k:Int)) (fun _ _=>True) (fun _=>(l.length:Int)) rfl (by omega) trivial (fun k x a hi hx hd hw hk _=>by
  refine ⟨?_,fun _ _=>trivial⟩
  rw [h k x hi hx hd hw]
  cases decide (x<n)<;>rfl) (fun _ _=>he)]
 rw [aV5 (fun x=>decide (x<n)) (l.length:Int) l 0 (by simp)]
 simp [jT]


def oU (l:List Int) (n:Int):List Int:=if l[jT l n]? =some n then l else l.take (jT l n)++[n]++l.drop (jT l n)

theorem aFn (l:List Int) (n:Int):(oU l n).length<=l.length+1:=by
 unfold oU
 split
 ·omega
 ·simp;omega

theorem aHu {k n:Nat} (h:k<=n):bY (0:Int) (k:Int) (n:Int)=true:=by
 simp only [bY,bWw,zR];omega

theorem yQ {k n:Nat} (h:k<=n):bY (k:Int) (n:Int) (n:Int)=true:=by
 simp only [bY,bWw,zR];omega

theorem aCw {α:Type} {l:List α} {k:Nat}:cut l (k:Int) (l.length:Int)=l.drop k:=by
 unfold cut
 rw [bW4]
 apply List.take_of_length_le
 simp

theorem aZp {l:List Int} (h:l.length<=68719476736):pT l=some l:=by
 unfold pT
 rw [aD (n:=([]:List Int).length) (by decide) (by simpa using h)];rfl

theorem aPs {l:List Int} {n:Int} {b:Bool} (hb:(l[jT l n]? =some n)=(b=true)):oU l n=cond b l (l.take (jT l n)++[n]++l.drop (jT l n)):=by
 unfold oU
 cases b with
 | true=>rw [zT (by rw [hb])];rfl
 | false=>rw [zS (by rw [hb];simp)];rfl

theorem aKe {l:List Int} {n:Int} (h:l.length<=4294967296):lU l n=some (oU l n):=by
 have hp:=aQj l n
 unfold lU
 rw [aS1 (l:=l) (n:=n) (by omega) (fun k x hi hx hd hw=>by
  simp only [hd,zZ,hi,aA,hw]
  cases decide (x<n)<;>rfl) (by simp)]
 simp only [aA,aHu hp,yQ hp,gN,aCw,zZ,aV,bK,bA,aZ,bD,aZp (l:=l.take (jT l n)) (by simp;omega)]
 rw [aD (b:=8) (n:=(l.take (jT l n)).length) (m:=1) (by decide) (by simp;omega),aD (b:=8) (m:=(l.drop (jT l n)).length) (by decide) (by simp;omega)]
 by_cases hlt:jT l n<l.length
 ·have hx:l[jT l n]? =some l[jT l n]:=bWu hlt
  rw [zX (by omega),zZ,aH,hx,aA,aA]
  rw [aPs (b:=l[jT l n]==n) (by rw [hx];simp)]
  cases l[jT l n]==n<;>rfl
 ·rw [zW (by omega),zY,aA]
  rw [aPs (b:=false) (by rw [List.getElem?_eq_none (by omega)];simp)]
  rfl

theorem aOj {l:List Int} {n:Int} (h:l.length<=4294967296):uY l n=some (oU l n):=by
 have hp:=aQj l n
 unfold uY ixb
 rw [aS1 (l:=l) (n:=n) (by omega) (fun k x hi hx hd hw=>by
  simp only [hd,zZ,fG,bW4,hx,aA,hw]
  cases decide (x<n)<;>rfl) (by simp)]
 simp only [aA,aHu hp,yQ hp,gN,aCw,zZ,aV,bK,bA,aZ,bD,bXo,bY6]
 rw [aD (b:=8) (n:=0) (m:=(l.take (jT l n)).length) (by decide) (by simp;omega),aD (b:=8) (n:=(l.take (jT l n)).length) (m:=1) (by decide) (by simp;omega),aD (b:=8) (m:=(l.drop (jT l n)).length) (by decide) (by simp;omega)]
 by_cases hlt:jT l n<l.length
 ·have hx:l[jT l n]? =some l[jT l n]:=bWu hlt
  rw [zX (by omega),zZ,fG,zZ,zZ,bW4,hx,aA,aA]
  rw [aPs (b:=l[jT l n]==n) (by rw [hx];simp)]
  cases l[jT l n]==n<;>rfl
 ·rw [zW (by omega),zY,aA]
  rw [aPs (b:=false) (by rw [List.getElem?_eq_none (by omega)];simp)]
  rfl


def nM (r:Int) (x:den tLk) (a:List Int):List Int:=cond (x.2.2.1==r) (oU (cond (x.1==r) (oU a x.2.1) a) x.2.2.2.1) (cond (x.1==r) (oU a x.2.1) a)

theorem aKf (r:Int) (x:den tLk) (a:List Int):(nM r x a).length<=a.length+2:=by
 unfold nM
 have h1:=aFn a x.2.1
 have h2:=aFn (oU a x.2.1) x.2.2.2.1
 have h3:=aFn a x.2.2.2.1
 cases x.1==r<;>cases x.2.2.1==r<;>simp only [zZ,zY]<;>omega

def fV (t:den tTo) (r:Int):List Int:=cN (fun _ x a=>nM r x a) 0 t.2 []

theorem aDz (t:den tTo) (r:Int):(fV t r).length<=2 * t.2.length:=by
 have h:=aBs (f:=fun _ x (a:List Int)=>nM r x a) (m:=bW9) (cost:=fun _=>2) (fun k x a=>aKf r x a) t.2 0 []
 rw [aFa] at h
 simpa [fV] using h

theorem bPg {t:den tTo} {r:Int} (h:t.2.length<=1073741824):qH t r=some (fV t r):=by
 unfold qH
 rw [(tO (fun k (a:List Int)=>(a,(k:Int))) ([],(0:Int)) [] t.2 (fun _ x a=>nM r x a) bW9 (fun _=>2) 4294967296 id rfl (by omega) (by rw [aFa];simp;omega) (fun k x a hi hx hd hw hk hb=>by
  refine ⟨?_,aKf r x a⟩
  have h1:=aFn a x.2.1
  simp only [hd,hi,hw,zZ,aA,aKe (l:=a) (by omega),aKe (l:=oU a x.2.1) (by omega)]
  unfold nM
  cases x.1==r<;>cases x.2.2.1==r<;>simp only [zZ,zY,aA,aKe (l:=a) (by omega),aKe (l:=oU a x.2.1) (by omega)]) (fun a=>by simp)).1]
 rfl

theorem aLx {t:den tTo} {r:Int} (h:t.2.length<=1073741824):gQ t r=some (fV t r):=by
 unfold gQ
 rw [(tO (fun k (a:List Int)=>((k:Int),a)) ((0:Int),[]) [] t.2 (fun _ x a=>nM r x a) bW9 (fun _=>2) 4294967296 id rfl (by omega) (by rw [aFa];simp;omega) (fun k x a hi hx hd hw hk hb=>by
  refine ⟨?_,aKf r x a⟩
  have h1:=aFn a x.2.1
  simp only [hd,hi,hw,zZ,aA,aOj (l:=a) (by omega),aOj (l:=oU a x.2.1) (by omega)]
  unfold nM
  cases x.1==r<;>cases x.2.2.1==r<;>simp only [zZ,zY,aA,aOj (l:=a) (by omega),aOj (l:=oU a x.2.1) (by omega)]) (fun a=>by simp)).1]
 rfl

theorem aJs {α:Type} (l:List α):(l.map fun _=>0).sum=0:=by
 induction l with
 | nil=>rfl
 | cons x l ih=>rw [bXg,bYb,ih]


def rQ (t:den tTo) (dead:List Int) (r:Int):Int:=cN (fun _ x a=>cond (nQ dead (pA t r x)) (aN4 a x) a) 0 (fV t r) 0

theorem aYq {t:den tTo} {dead:List Int} {r:Int} (h:t.2.length<=1073741824) (hd:dead.length<=68719476736):eP t dead r=some (rQ t dead r):=by
 have hl:=aDz t r
 unfold eP pj2
 simp only [aM,bPg h,aA]
 rw [nU (fun k (a:Int)=>(a,(k:Int))) ((0:Int),(0:Int)) 0 (fV t r) (fun _ x a=>cond (nQ dead (pA t r x)) (aN4 a x) a) (fun _=>0) (fun _=>0) 0 id rfl (by omega) (by rw [aJs];exact bXb _) (fun _ _ _=>bXb _) (fun k x a hi hx hd' hw hk hb=>by
  simp only [hd',hi,hw,zZ,aA,aNd (t:=t) (r:=r) (d:=x) (by omega),aK7 hd,bS0]
  cases nQ dead (pA t r x)<;>rfl) (fun a=>by simp)]
 rfl

theorem aZ8 {t:den tTo} {dead:List Int} {r:Int} (h:t.2.length<=1073741824) (hd:dead.length<=68719476736):eO t dead r=some (rQ t dead r):=by
 have hl:=aDz t r
 unfold eO ixb pj2
 simp only [aM,aLx h,aA]
 rw [nU (fun k (a:Int)=>(a,(k:Int))) ((0:Int),(0:Int)) 0 (fV t r) (fun _ x a=>cond (nQ dead (pA t r x)) (aN4 a x) a) (fun _=>0) (fun _=>0) 0 id rfl (by omega) (by rw [aJs];exact bXb _) (fun _ _ _=>bXb _) (fun k x a hi hx hd' hw hk hb=>by
  simp only [hd',fG,bW4,hx,hw,zZ,aA,aN1 (t:=t) (r:=r) (d:=x) (by omega),aGa hd,bTf]
  cases nQ dead (pA t r x)<;>rfl) (fun a=>by simp)]
 rfl

def aG9 (key ts beta:Int) (h:den cG):Int:=aDv (([key]++[ts,beta,h.1,h.2.1,h.2.2.1,h.2.2.2.1])++[key])

theorem bTz (key ts beta:Int) (h:den cG):yZ key ts beta h=some (aG9 key ts beta h):=by
 unfold yZ tI aG9
 rw [aD (b:=8) (n:=[key].length) (by decide) (by simp),aD (b:=8) (by decide) (by simp),bI1 (by simp)]
 rfl

theorem bEp (key ts beta:Int) (h:den cG):vR key ts beta h=some (aG9 key ts beta h):=by
 unfold vR tH aG9
 rw [aD (b:=8) (n:=[key].length) (by decide) (by simp),aD (b:=8) (by decide) (by simp),aVt (by simp)]
 rfl

def h0:den cG:=(0,0,0,0,0)

def bCf (t:den tTo) (r:Int):Int:=((t.1[r.toNat]?).getD (0,false,0)).2.2

def aC3 (t:den tTo) (ts beta:Int) (h:den cG):Bool:=jH h&&(cX t h.1&&(h.2.2.2.2==aG9 (bCf t h.1) ts beta h))

theorem bEs {t:den tTo} {ts beta:Int} {h:den cG} (ht:t.1.length<=68719476736):nH t ts beta h=some (aC3 t ts beta h):=by
 unfold nH aC3 pj2 pj5 zz4
 simp only [aM,aNq,aH2 ht,aA,bTz]
 cases jH h
 ·rfl
 ·cases c:cX t h.1
  ·rfl
  ·obtain ⟨x,hx,ix⟩:=aEu c
   rw [ix,bCf,hx]
   rfl

theorem aV6 {t:den tTo} {ts beta:Int} {h:den cG} (ht:t.1.length<=68719476736):fQ t ts beta h=some (aC3 t ts beta h):=by
 unfold fQ aC3 pj2 pj5 zz4
 simp only [aM,aJq,aD4 ht,aA,bEp]
 cases jH h
 ·rfl
 ·cases c:cX t h.1
  ·rfl
  ·obtain ⟨x,hx,ix⟩:=aEu c
   rw [ix,bCf,hx]
   rfl

def aEf (t:den tTo) (l:cZ) (k:Nat) (x:den cG):Bool:=jH x&&(cX t x.1&&(l.take k).all fun y=> !(y.1==x.1))

def aJn (t:den tTo) (l:cZ):Bool:=(l.zipIdx 0).all fun z=>aEf t l z.2 z.1

theorem bOo {t:den tTo} {l:cZ} (ht:t.1.length<=68719476736) (hl:l.length<=68719476736):zG t l=some (inR (l.length:Int) 1 8&&aJn t l):=by
 unfold zG aJn pj2 pj5
 rw [aX (l:=l) (fun k x=>if aEf t l k x then none else some false) (by omega) (fun k x hi hd hw hm hk=>by
  simp only [hd,hi,zZ,aA,aM,aNq,aH2 ht,wU hk,gN,hw]
  rw [aX (l:=l.take k) (fun _ y=>if !(y.1==x.1) then none else some (bWs (bWs false))) (by rw [vG hk];omega) (fun j y hi hd hw hm hk=>by
   simp only [hd,hi,hw,zZ,aA]
   cases y.1==x.1<;>rfl) (by simp),oD (fun y:den cG=> !(y.1==x.1))]
  unfold aEf
  cases jH x<;>cases cX t x.1<;>cases (l.take k).all (fun y=> !(y.1==x.1))<;>rfl) (by simp),aDo (aEf t l)]
 rw [kN,aA]
 cases inR (l.length:Int) 1 8<;>cases (l.zipIdx 0).all (fun z=>aEf t l z.2 z.1)<;>rfl

def aIn (t:den tTo) (p:den tPp) (x y:den cG):Bool:= !(pEg p x==0)&&((remote t x.1 (pEg p x)).1==y.1&&(remote t x.1 (pEg p x)).2==pIn p y)

def xM (t:den tTo) (p:den tPp) (k:Nat) (y:den cG):Bool:=decide (k=0)||aIn t p ((p.2.2.2[k - 1]?).getD h0) y

def rB (t:den tTo) (p:den tPp):Bool:=
 inR (p.2.2.2.length:Int) 1 8&&(inR p.1 1 4&&(inR p.2.1 0 1000000&&(jP p.2.2.1&&(aJn t p.2.2.2&&(p.2.2.2.zipIdx 0).all fun z=>xM t p z.2 z.1))))

theorem bIr (t:den tTo) (p:den tPp):((p.2.2.2.drop 1).zipIdx 0).all (fun z=>aIn t p ((p.2.2.2[z.2]?).getD h0) z.1)=(p.2.2.2.zipIdx 0).all (fun z=>xM t p z.2 z.1):=by
 rw [bXl,aCu (fun k x=>aIn t p ((p.2.2.2[k]?).getD h0) x),aCu (xM t p)]
 constructor
 ·intro h k x hx
  cases k with
  | zero=>rfl
  | succ k=>
   have :=h k x (by rw [bYh,Nat.add_comm];exact hx)
   simpa [xM] using this
 ·intro h k x hx
  rw [bYh,Nat.add_comm] at hx
  have :=h (k+1) x hx
  simpa [xM] using this

theorem aFr (a b:Int):(a != b)= !(a==b):=rfl

theorem bGd {t:den tTo} {p:den tPp} (ht:t.1.length<=68719476736) (ht2:t.2.length<=68719476736) (hl:p.2.2.2.length<=68719476736):sJ t p=some (rB t p):=by
 unfold sJ rB pj2 pj4
 rw [aX (l:=p.2.2.2.drop 1) (fun k y=>if aIn t p ((p.2.2.2[k]?).getD h0) y then none else some false) (by rw [bYx];omega) (fun k y hi hd hw hm hk=>by
  have hy:p.2.2.2[k+1]? =some y:=by rw [aH,bYh,Nat.add_comm] at hi;exact hi
  have hlt:k+1<p.2.2.2.length:=(bW1.1 hy).1
  obtain ⟨x,hx⟩: ∃ x,p.2.2.2[k]? =some x:=⟨_,bWu (by omega)⟩
  have hd':decide ((k:Int)<wr ((p.2.2.2.length:Int) - 1))=true:=by rw [jO hl];simp;omega
  have hy':idx p.2.2.2 ((k+1:Nat):Int)=some y:=by rw [aH];exact hy
  simp only [hd',zZ,aM,bB8 hx hl,aA,aH,hx,hw,hy,bC1 hy hl,aXi ht2,bXs,aFr]
  unfold aIn
  cases pEg p x==0<;>cases (remote t x.1 (pEg p x)).1==y.1<;>cases (remote t x.1 (pEg p x)).2==pIn p y<;>rfl) (by
   rw [bYx,jO hl,zW (by omega)];rfl),aDo (fun k y=>aIn t p ((p.2.2.2[k]?).getD h0) y),bIr]
 simp only [aM,kN,bOo ht hl,aFi,aA]
 cases inR (p.2.2.2.length:Int) 1 8<;>cases inR p.1 1 4<;>cases inR p.2.1 0 1000000<;>cases jP p.2.2.1<;>cases aJn t p.2.2.2<;>cases (p.2.2.2.zipIdx 0).all (fun z=>xM t p z.2 z.1)<;>rfl

theorem aC4 {α S:Type} (p:Nat→α→Bool) (o r:S): ∀ (l:List α) (k:Nat),aJg (fun k x (_:Unit)=>if p k x then .inl () else .inr r) (fun _=>o) k l ()=if (l.zipIdx k).all (fun z=>p z.2 z.1) then o else r
 | [],_=>rfl
 | x::xs,k=>by
  simp only [aJg,List.zipIdx_cons,List.all_cons]
  rcases bZe (p k x) with h | h
  ·simp only [h,zV,bXe];exact aC4 p o r xs (k+1)
  ·simp [h]

theorem bJc {p:den tPp} (hl:p.2.2.2.length<=68719476736):sC p=some (p.2.2.2.map (·.1)):=by
 unfold sC
 rw [(tO (fun k (a:List Int)=>((k:Int),a)) ((0:Int),[]) [] p.2.2.2 (fun _ x a=>a++[x.1]) bW9 (fun _=>1) 68719476736 id rfl (by omega) (by rw [eZ];simpa using hl) (fun k x a hi hx hd hw hk hb=>by
  simp only [hd,hi,hw,zZ,aA,aD (b:=8) (by decide) hb]
  simp) (fun a=>by simp)).1,jB (fun x:den cG=>x.1)]
 simp

theorem bKv (l:cZ) (k:Nat) (n:Int):nQ ((l.map (·.1)).take k) n= !((l.take k).all fun y=> !(y.1==n)):=by
 unfold nQ
 rw [← List.map_take,List.all_map]
 rfl

theorem bHf {t:den tTo} {p:den tPp} (ht:t.1.length<=68719476736) (ht2:t.2.length<=68719476736) (hl:p.2.2.2.length<=68719476736):sM t p=some (rB t p):=by
 unfold sM rB pj2 pj4 pj5
 simp only [aM,bJc hl,aA]
 have hR:(p.2.2.2.map (·.1)).length=p.2.2.2.length:=by simp
 rw [aMe (fun k (_:Unit)=>(p.2.2.2.map (·.1),(k:Int))) (p.2.2.2.map (·.1),(0:Int)) () p.2.2.2 (fun k x _=>if (aEf t p.2.2.2 k x&&xM t p k x) then .inl () else .inr (.inr false)) (fun _ _=>True) (fun _=> .inl ()) rfl (by omega) trivial (fun k x a hi hx hd hw hk _=>by
  refine ⟨?_,fun _ _=>trivial⟩
  have hr:(p.2.2.2.map (·.1))[k]? =some x.1:=by rw [bY2,hx];rfl
  have hs:bY (0:Int) (k:Int) ((p.2.2.2.map (·.1)).length:Int)=true:=by rw [hR];exact wU hk
  have hh:fF ((p.2.2.2.map (·.1)).take k) x.1=some (!((p.2.2.2.take k).all fun y=> !(y.1==x.1))):=by
   rw [aGa (by simp;omega),bKv]
  simp only [hd,zZ,hi,aH,hr,aA,aJq,aD4 ht,hs,gN,hh,hw]
  cases k with
  | zero=>
   rw [show decide (((0:Nat):Int)>0)=false from by decide]
   unfold aEf xM
   cases jH x<;>cases cX t x.1<;>cases (p.2.2.2.take 0).all (fun y=> !(y.1==x.1))<;>rfl
  | succ j=>
   have hw1:wr (((j+1:Nat):Int) - 1)=(j:Int):=(wri (by omega) (by omega)).trans (by omega)
   obtain ⟨y,hy⟩: ∃ y,p.2.2.2[j]? =some y:=⟨_,bWu (by omega)⟩
   have hr1:(p.2.2.2.map (·.1))[j]? =some y.1:=by rw [bY2,hy];rfl
   rw [show decide (((j+1:Nat):Int)>0)=true from by simp]
   simp only [hw1,aH,hr1,aA,aUo hy hl,bD3 hx hl,aFm ht2,zZ,aFr]
   unfold aEf xM aIn
   rw [Nat.add_sub_cancel,hy,bXs]
   cases jH x<;>cases cX t x.1<;>cases (p.2.2.2.take (j+1)).all (fun y=> !(y.1==x.1))<;>cases pEg p y==0<;>cases (remote t y.1 (pEg p y)).1==x.1<;>cases (remote t y.1 (pEg p y)).2==pIn p x<;>rfl) (fun a _=>by simp)]
 rw [aC4 (fun k x=>aEf t p.2.2.2 k x&&xM t p k x)]
 have hsplit:(p.2.2.2.zipIdx 0).all (fun z=>aEf t p.2.2.2 z.2 z.1&&xM t p z.2 z.1)=(aJn t p.2.2.2&&(p.2.2.2.zipIdx 0).all fun z=>xM t p z.2 z.1):=by
  unfold aJn
  rw [bXl]
  simp only [bXk,bWw]
  exact ⟨fun h=>⟨fun z hz=>(h z hz).1,fun z hz=>(h z hz).2⟩,fun h z hz=>⟨h.1 z hz,h.2 z hz⟩⟩
 rw [hsplit]
 simp only [iH,aCv,aA]
 cases inR (p.2.2.2.length:Int) 1 8<;>cases inR p.1 1 4<;>cases inR p.2.1 0 1000000<;>cases jP p.2.2.1<;>cases aJn t p.2.2.2<;>cases (p.2.2.2.zipIdx 0).all (fun z=>xM t p z.2 z.1)<;>rfl

def aAo (k:Int):Int:=cond (k==1) 1 (cond (k==2||k==3) 2 3)

theorem bH4 (k:Int):uQ k=some (aAo k):=by
 unfold uQ aAo
 cases k==1<;>cases k==2<;>cases k==3<;>rfl

theorem bI9 (k:Int):uG k=some (aAo k):=by
 unfold uG aAo
 cases k==1<;>cases k==2<;>cases k==3<;>rfl

def pt0:den tPp:=(0,0,0,[])

def aJo (y:den tPp):den cG:=(y.2.2.2[y.2.2.2.length - 1]?).getD h0

def aG8 (y:den tPp):den cG:=(y.2.2.2[0]?).getD h0

def aMa (y x:den tPp):Bool:= !decide (aAo y.1>=aAo x.1)&&(aJo y).1==(aG8 x).1

def xQ (t:den tTo) (p:den tPt) (k:Nat) (x:den tPp):Bool:=rB t x&&(decide (k=0)||aMa ((p[k - 1]?).getD pt0) x)

def wfP (t:den tTo) (p:den tPt):Bool:=inR (p.length:Int) 1 3&&(p.zipIdx 0).all fun z=>xQ t p z.2 z.1

theorem aDk {t:den tTo} {p:den tPp} (h:rB t p=true):0<p.2.2.2.length:=by
 unfold rB at h
 rw [bWw] at h
 have :=bJ.1 h.1
 omega

theorem aV9 {y:den tPp} (h:0<y.2.2.2.length) (hl:y.2.2.2.length<=68719476736):idx y.2.2.2 (wr ((y.2.2.2.length:Int) - 1))=some (aJo y):=by
 rw [bFp hl h,aH]
 unfold aJo
 rw [bWu (show y.2.2.2.length - 1<y.2.2.2.length by omega)]
 rfl

theorem aWv {y:den tPp} (h:0<y.2.2.2.length):idx y.2.2.2 (0:Int)=some (aG8 y):=by
 have :idx y.2.2.2 ((0:Nat):Int)=y.2.2.2[0]? :=aH
 rw [show (0:Int)=((0:Nat):Int) from rfl,this]
 unfold aG8
 rw [bWu h]
 rfl

theorem bU1 {t:den tTo} {p:den tPt} (ht:t.1.length<=68719476736) (ht2:t.2.length<=68719476736) (h:SmB 68719476736 tPt p):kB t p=some (wfP t p):=by
 have lp:=h.1
 have lh: ∀ (k:Nat) (x:den tPp),p[k]? =some x→x.2.2.2.length<=68719476736:=fun k x hx=>(h.2 x (bW6 hx)).2.2.2.1
 unfold kB wfP pj2 pj4
 rw [aMe (fun k (_:Unit)=>(k:Int)) (0:Int) () p (fun k x _=>if xQ t p k x then .inl () else .inr (.inr false)) (fun k _=> ∀ j y,j<k→p[j]? =some y→0<y.2.2.2.length) (fun _=> .inl ()) rfl (by omega) (fun j y hj=>absurd hj (Nat.not_lt_zero _)) (fun k x a hi hx hd hw hk hI=>by
  have hlx:=lh k x hx
  refine ⟨?_,fun a' ha j y hj hy=> ?_⟩
  ·simp only [hd,zZ,hi,aA,aM,bGd ht ht2 hlx,hw]
   cases hv:rB t x with
   | false=>unfold xQ;rw [hv];rfl
   | true=>
    cases k with
    | zero=>
     rw [show decide (((0:Nat):Int)>0)=false from by decide]
     unfold xQ;rw [hv];rfl
    | succ j=>
     have hw1:wr (((j+1:Nat):Int) - 1)=(j:Int):=(wri (by omega) (by omega)).trans (by omega)
     obtain ⟨y,hy⟩: ∃ y,p[j]? =some y:=⟨_,bWu (by omega)⟩
     rw [show decide (((j+1:Nat):Int)>0)=true from by simp]
     simp only [hw1,aH,hy,aA,bH4,aV9 (hI j y (Nat.lt_succ_self j) hy) (lh j y hy),aWv (aDk hv),zZ,aFr,bWx,zY]
     unfold xQ aMa
     rw [Nat.add_sub_cancel,hy,bXs,hv]
     cases decide (aAo y.1>=aAo x.1)<;>cases (aJo y).1==(aG8 x).1<;>rfl
  ·rcases Nat.lt_succ_iff_lt_or_eq.1 hj with hj | rfl
   ·exact hI j y hj hy
   ·rw [hx] at hy
    injection hy with hy
    subst hy
    rcases bZe (xQ t p j x) with hb | hb
    ·unfold xQ at hb
     rw [bWw] at hb
     exact aDk hb.1
    ·simp [hb] at ha) (fun a _=>by simp)]
 rw [aC4 (xQ t p),kN,aA]
 cases inR (p.length:Int) 1 3<;>cases (p.zipIdx 0).all (fun z=>xQ t p z.2 z.1)<;>rfl

theorem bUm {t:den tTo} {p:den tPt} (ht:t.1.length<=68719476736) (ht2:t.2.length<=68719476736) (h:SmB 68719476736 tPt p):jZ t p=some (wfP t p):=by
 have lp:=h.1
 have lh: ∀ (k:Nat) (x:den tPp),p[k]? =some x→x.2.2.2.length<=68719476736:=fun k x hx=>(h.2 x (bW6 hx)).2.2.2.1
 unfold jZ wfP pj2 pj4
 rw [aMe (fun k (_:Unit)=>(k:Int)) (0:Int) () p (fun k x _=>if xQ t p k x then .inl () else .inr (.inr false)) (fun k _=> ∀ j y,j<k→p[j]? =some y→0<y.2.2.2.length) (fun _=> .inl ()) rfl (by omega) (fun j y hj=>absurd hj (Nat.not_lt_zero _)) (fun k x a hi hx hd hw hk hI=>by
  have hlx:=lh k x hx
  refine ⟨?_,fun a' ha j y hj hy=> ?_⟩
  ·simp only [hd,zZ,hi,aA,aM,bHf ht ht2 hlx,hw]
   cases hv:rB t x with
   | false=>unfold xQ;rw [hv];rfl
   | true=>
    cases k with
    | zero=>
     rw [show decide (((0:Nat):Int)>0)=false from by decide]
     unfold xQ;rw [hv];rfl
    | succ j=>
     have hw1:wr (((j+1:Nat):Int) - 1)=(j:Int):=(wri (by omega) (by omega)).trans (by omega)
     obtain ⟨y,hy⟩: ∃ y,p[j]? =some y:=⟨_,bWu (by omega)⟩
     rw [show decide (((j+1:Nat):Int)>0)=true from by simp]
     simp only [hw1,aH,hy,aA,bI9,aV9 (hI j y (Nat.lt_succ_self j) hy) (lh j y hy),aWv (aDk hv),zZ,aFr,bWx,zY]
     unfold xQ aMa
     rw [Nat.add_sub_cancel,hy,bXs,hv]
     cases decide (aAo y.1>=aAo x.1)<;>cases (aJo y).1==(aG8 x).1<;>rfl
  ·rcases Nat.lt_succ_iff_lt_or_eq.1 hj with hj | rfl
   ·exact hI j y hj hy
   ·rw [hx] at hy
    injection hy with hy
    subst hy
    rcases bZe (xQ t p j x) with hb | hb
    ·unfold xQ at hb
     rw [bWw] at hb
     exact aDk hb.1
    ·simp [hb] at ha) (fun a _=>by simp)]
 rw [aC4 (xQ t p),iH,aA]
 cases inR (p.length:Int) 1 3<;>cases (p.zipIdx 0).all (fun z=>xQ t p z.2 z.1)<;>rfl

def aEk (l:List Int) (k:Nat) (n:Int):Bool:= !nQ (l.take k) n

def xU (t:den tTo) (p:den tPt):Bool:=wfP t p&&((iK p).zipIdx 0).all fun z=>aEk (iK p) z.2 z.1

theorem aZn {p:den tPt} (h:tot tPt p<=1073741824):SmB 68719476736 tPt p:=(bG h).mono (by decide)

theorem bGv {t:den tTo} {p:den tPt} (ht:t.1.length<=68719476736) (ht2:t.2.length<=68719476736) (h:tot tPt p<=1073741824):mA t p=some (xU t p):=by
 have hu:=aG0 p
 unfold mA xU pj2
 simp only [aM,bU1 ht ht2 (aZn h),aZ0 h,aA]
 rw [aMe (fun k (_:Unit)=>(iK p,iK p,(k:Int))) (iK p,iK p,(0:Int)) () (iK p) (fun k x _=>if aEk (iK p) k x then .inl () else .inr (.inr false)) (fun _ _=>True) (fun _=> .inl ()) rfl (by omega) trivial (fun k x a hi hx hd hw hk _=>by
  refine ⟨?_,fun _ _=>trivial⟩
  simp only [hd,zZ,hi,aA,wU hk,gN,hw,aK7 (l:=(iK p).take k) (n:=x) (by simp;omega)]
  unfold aEk
  cases nQ ((iK p).take k) x<;>rfl) (fun a _=>by simp)]
 rw [aC4 (aEk (iK p))]
 cases wfP t p<;>cases ((iK p).zipIdx 0).all (fun z=>aEk (iK p) z.2 z.1)<;>rfl

theorem aS5 {t:den tTo} {p:den tPt} (ht:t.1.length<=68719476736) (ht2:t.2.length<=68719476736) (h:tot tPt p<=1073741824):mE t p=some (xU t p):=by
 have hu:=aG0 p
 unfold mE xU pj2
 simp only [aM,bUm ht ht2 (aZn h),aZ2 h,aA]
 rw [aMe (fun k (_:Unit)=>(iK p,(k:Int))) (iK p,(0:Int)) () (iK p) (fun k x _=>if aEk (iK p) k x then .inl () else .inr (.inr false)) (fun _ _=>True) (fun _=> .inl ()) rfl (by omega) trivial (fun k x a hi hx hd hw hk _=>by
  refine ⟨?_,fun _ _=>trivial⟩
  simp only [hd,zZ,hi,aA,wU hk,gN,hw,aGa (l:=(iK p).take k) (n:=x) (by simp;omega)]
  unfold aEk
  cases nQ ((iK p).take k) x<;>rfl) (fun a _=>by simp)]
 rw [aC4 (aEk (iK p))]
 cases wfP t p<;>cases ((iK p).zipIdx 0).all (fun z=>aEk (iK p) z.2 z.1)<;>rfl

def bO (p:den tPk):den tPp:=(p.2.2.2.1[p.2.2.2.2.1.toNat]?).getD pt0

def cU (p:den tPk):den cG:=((bO p).2.2.2[p.2.2.2.2.2.1.toNat]?).getD h0

theorem gO {p:den tPk} (h:cH p=true): ∃ (i j:Nat),p.2.2.2.2.1=(i:Int)∧p.2.2.2.2.2.1=(j:Int)∧p.2.2.2.1[i]? =some (bO p)∧(bO p).2.2.2[j]? =some (cU p)∧cW p=(cU p).1:=by
 obtain ⟨i,j,x,y,h1,h2,h3,h4,h5⟩:=aB7 h
 have e1:bO p=x:=by unfold bO;rw [h1,bW4,h3];rfl
 have e2:cU p=y:=by unfold cU;rw [e1,h2,bW4,h4];rfl
 exact ⟨i,j,h1,h2,by rw [e1];exact h3,by rw [e1,e2];exact h4,by rw [e2];exact h5⟩

theorem aFf {p:den tPk} (h:0<=cW p):cH p=true:=by
 cases c:cH p with
 | true=>rfl
 | false=>rw [zD c] at h;omega

theorem fW {p:den tPk} (h:tot tPk p<=34359738368):SmB 68719476736 tPk p:=(bG h).mono (by decide)

theorem yU {p:den tPk} (h:SmB 68719476736 tPk p) {i:Nat} {x:den tPp} (hx:p.2.2.2.1[i]? =some x):x.2.2.2.length<=68719476736:=(h.2.2.2.1.2 x (bW6 hx)).2.2.2.1


def dL (p:den tPk):Bool:=p.2.2.2.2.2.1==((bO p).2.2.2.length:Int) - 1

def aFx (p:den tPk):Bool:=p.2.2.2.2.1==(p.2.2.2.1.length:Int) - 1

def fX (p:den tPk):Bool:=decide (cW p>=0)&&(dL p&&aFx p)

theorem aN5 {p:den tPk} (h:SmB 68719476736 tPk p) (hh:cH p=true):gS p=some (dL p):=by
 obtain ⟨i,j,h1,h2,h3,h4,_⟩:=gO hh
 unfold gS dL zz4 zz5
 rw [h1,aH,h3,aA,jO (yU h h3)]

theorem aNu {p:den tPk} (h:SmB 68719476736 tPk p):kK p=some (fX p):=by
 unfold kK fX aI zz4
 simp only [aM,aFl h,aA]
 cases c:decide (cW p>=0)
 ·rfl
 ·have hh:=aFf (of_decide_eq_true c)
  have l1:=h.2.2.2.1.1
  simp only [zZ,aN5 h hh,aA,jO l1]
  unfold aFx
  cases dL p<;>rfl

theorem aVi {p:den tPk} (h:SmB 68719476736 tPk p):lW p=some (fX p):=by
 unfold lW fX aI zz4 zz5
 simp only [aM,aE2 h,aA]
 cases c:decide (cW p>=0)
 ·rfl
 ·have hh:=aFf (of_decide_eq_true c)
  have l1:=h.2.2.2.1.1
  obtain ⟨i,j,h1,h2,h3,h4,_⟩:=gO hh
  simp only [zZ,jO l1]
  unfold aFx dL
  rw [h1,aH,h3,aA,jO (yU h h3)]
  cases p.2.2.2.2.2.1==((bO p).2.2.2.length:Int) - 1<;>cases (i:Int)==(p.2.2.2.1.length:Int) - 1<;>rfl

theorem aHw {p:den tPk} (h:SmB 68719476736 tPk p):dO p=some (pkR p):=by
 unfold dO pkR zz4 zz5 zz6 zz7 zz8 zz9
 rw [aMc h.2.2.2.1,aE4 h.2.2.2.2.2.2.2.2.2.1]
 rfl

theorem aDd {p:den tPk} (h:SmB 68719476736 tPk p):fJ p=some (pkR p):=by
 unfold fJ pkR zz4 zz5 zz6 zz7 zz8 zz9
 rw [aE6 h.2.2.2.1,aD (b:=1) (n:=([]:List Int).length) (by decide) (by simpa using h.2.2.2.2.2.2.2.2.2.1)]
 simp


def goTo (p:den tPk) (i j b:Int):den tPk:=(p.1,p.2.1,p.2.2.1,p.2.2.2.1,i,j,b,p.2.2.2.2.2.2.2.1,p.2.2.2.2.2.2.2.2.1,p.2.2.2.2.2.2.2.2.2)

def rO (p:den tPk):den tPp:=(p.2.2.2.1[p.2.2.2.2.1.toNat+1]?).getD pt0

def adv (p:den tPk):den tPk:=
 if decide (cW p<0)||fX p then p
 else if dL p then goTo p (p.2.2.2.2.1+1) 0 (rO p).2.2.1 else goTo p p.2.2.2.2.1 (p.2.2.2.2.2.1+1) p.2.2.2.2.2.2.1

theorem aQf {p:den tPk} (hh:cH p=true) (h0:0<=cW p) (hl:dL p=true) (ha:fX p=false): ∃ i:Nat,p.2.2.2.2.1=(i:Int)∧p.2.2.2.1[i+1]? =some (rO p):=by
 obtain ⟨i,j,h1,h2,h3,h4,_⟩:=gO hh
 refine ⟨i,h1,?_⟩
 have hlt:=(bW1.1 h3).1
 have hne:aFx p=false:=by
  unfold fX at ha
  rw [hl,zX h0] at ha
  simpa using ha
 unfold aFx at hne
 rw [h1] at hne
 have hne: ¬ ((i:Int)=(p.2.2.2.1.length:Int) - 1):=by simpa using hne
 unfold rO
 rw [h1,bW4,bWu (show i+1<p.2.2.2.1.length by omega)]
 rfl

theorem bMk {p:den tPk} (h:SmB 68719476736 tPk p):lV p=some (pkR (adv p)):=by
 unfold lV adv aI pj2 zz4 zz5 zz6 zz7 zz8
 simp only [aM,aHw h,aFl h,aNu h,aA]
 cases c:decide (cW p<0)
 ·cases ca:fX p
  ·have h0:0<=cW p:=by have :=of_decide_eq_false c;omega
   have hh:=aFf h0
   obtain ⟨i,j,h1,h2,h3,h4,_⟩:=gO hh
   have hlt:=(bW1.1 h3).1
   have hlt2:=(bW1.1 h4).1
   have l1:bW9 p.2.2.2.1<=68719476736:=h.2.2.2.1.1
   have l2:=yU h h3
   simp only [zY,aA,aN5 h hh,bYm,bW2,zU]
   cases cl:dL p
   ·simp only [zY,aA,bW2,zU]
    unfold pkR goTo
    rw [h2,show wr ((j:Int)+1)=(j:Int)+1 from wri (by omega) (by omega)]
   ·obtain ⟨i',e1,e2⟩:=aQf hh h0 cl ca
    have :i'=i:=Int.ofNat.inj (e1.symm.trans h1)
    subst this
    have hw:wr (((i':Nat):Int)+1)=((i'+1:Nat):Int):=(wri (by omega) (by omega)).trans (by omega)
    simp only [zZ,zV]
    unfold pkR goTo
    simp only [h1,hw,aH,e2,aA]
    rw [show ((i'+1:Nat):Int)=(i':Int)+1 by omega]
  ·rfl
 ·rfl

theorem bBf {p:den tPk} (h:SmB 68719476736 tPk p):gJ p=some (pkR (adv p)):=by
 unfold gJ adv aI pj4 pj5 zz4 zz5 zz6
 simp only [aM,aDd h,aE2 h,aVi h,aA]
 cases c:decide (cW p<0)
 ·cases ca:fX p
  ·have h0:0<=cW p:=by have :=of_decide_eq_false c;omega
   have hh:=aFf h0
   obtain ⟨i,j,h1,h2,h3,h4,_⟩:=gO hh
   have hlt:=(bW1.1 h3).1
   have hlt2:=(bW1.1 h4).1
   have l1:bW9 p.2.2.2.1<=68719476736:=h.2.2.2.1.1
   have l2:=yU h h3
   have hd:decide ((j:Int)<((bO p).2.2.2.length:Int) - 1)= !dL p:=by
    have key:decide ((j:Int)<((bO p).2.2.2.length:Int) - 1)= !((j:Int)==((bO p).2.2.2.length:Int) - 1):=by
     rw [bXl]
     simp only [zR,bXx,beq_eq_false_iff_ne,ne_eq]
     omega
    unfold dL
    rw [h2]
    exact key
   simp only [zY,aA,bYm,bW2,zU,h1,h2,aH,h3,jO l2,hd]
   cases cl:dL p
   ·simp only [bW7,zZ,bW2,zU]
    unfold pkR goTo
    rw [show wr ((j:Int)+1)=(j:Int)+1 from wri (by omega) (by omega)]
    simp only [h1]
   ·obtain ⟨i',e1,e2⟩:=aQf hh h0 cl ca
    have :i'=i:=Int.ofNat.inj (e1.symm.trans h1)
    subst this
    have hw:wr (((i':Nat):Int)+1)=((i'+1:Nat):Int):=(wri (by omega) (by omega)).trans (by omega)
    simp only [bWx,zY,zV]
    unfold pkR goTo
    simp only [hw,aH,e2,aA]
    rw [show ((i'+1:Nat):Int)=(i':Int)+1 by omega]
  ·rfl
 ·rfl

def bef (p:den tPk):Int:=if jQ (bO p).1 then aI1 p.2.2.2.2.2.2.1 (cU p).2.2.2.2 else p.2.2.2.2.2.2.1

def aft (p:den tPk):Int:=if jQ (bO p).1 then aI1 p.2.2.2.2.2.2.1 (cU p).2.2.2.2 else aNt p.2.2.2.2.2.2.1 (cU p).2.2.2.2

def aCi (t:den tTo) (p:den tPk):Bool:=cH p&&aC3 t (bO p).2.1 (bef p) (cU p)

def aT (t:den tTo) (p:den tPk):den tPk:=if aCi t p then goTo p p.2.2.2.2.1 p.2.2.2.2.2.1 (aft p) else p

def nC (p:den tPk) (b:Bool):q8:=(p.1,p.2.1,p.2.2.1,p.2.2.2.2.1,p.2.2.2.2.2.1,p.2.2.2.2.2.2.1,p.2.2.2.2.2.2.2.1,p.2.2.2.2.2.2.2.2.1,b,p.2.2.2.1,p.2.2.2.2.2.2.2.2.2)

theorem bQ2 {t:den tTo} {p:den tPk} (ht:t.1.length<=68719476736) (h:SmB 68719476736 tPk p):hZ t p=some (nC (aT t p) (aCi t p)):=by
 unfold hZ aT aCi aI pj2 pj5 zz4 zz5 zz6 zz7 zz8
 simp only [aM,aHw h,bN6 h,aA]
 cases c:cH p
 ·rfl
 ·obtain ⟨i,j,h1,h2,h3,h4,_⟩:=gO c
  simp only [h1,h2,aH,h3,h4,aA,aL8,bFz,bFn,bWx,zY,bXe]
  unfold bef aft
  cases jQ (bO p).1
  ·simp only [zY,aA,bEs ht,bW2,zU]
   cases aC3 t (bO p).2.1 p.2.2.2.2.2.2.1 (cU p)
   ·simp only [bW7,zZ,bW2,zU];unfold nC pkR;simp only [h1,h2]
   ·simp only [bWx,zY,zV];unfold nC pkR goTo;simp only [h1,h2]
  ·simp only [zZ,aA,bEs ht,zV]
   cases aC3 t (bO p).2.1 (aI1 p.2.2.2.2.2.2.1 (cU p).2.2.2.2) (cU p)
   ·simp only [bW7,zZ,bW2,zU];unfold nC pkR;simp only [h1,h2]
   ·simp only [bWx,zY,zV];unfold nC pkR goTo;simp only [h1,h2]

theorem aZ1 {t:den tTo} {ts b:Int} {h:den cG} (hv:h.1<0):aC3 t ts b h=false:=by
 unfold aC3 jH
 rw [aYz.2 (fun hh=>absurd hv (Int.not_lt.2 hh.1))]
 rfl

theorem bR6 {t:den tTo} {p:den tPk} (ht:t.1.length<=68719476736) (h:SmB 68719476736 tPk p):iC t p=some (nC (aT t p) (aCi t p)):=by
 unfold iC aT aCi aI pj2 pj5 zz4 zz5 zz6 zz7 zz8
 simp only [aM,aDd h,aE2 h,aA]
 cases c:cH p
 ·rw [zD c];rfl
 ·obtain ⟨i,j,h1,h2,h3,h4,h5⟩:=gO c
  rw [h5]
  by_cases hn:(cU p).1<0
  ·rw [zX hn,aZ1 hn];rfl
  ·simp only [zW hn,zY,h1,h2,aH,h3,h4,aA,aCr,aVj,bFl,bXe,aV6 ht]
   unfold bef aft
   cases jQ (bO p).1
   ·simp only [zY,bW2,zU]
    cases aC3 t (bO p).2.1 p.2.2.2.2.2.2.1 (cU p)
    ·simp only [bW7,zZ,bW2,zU];unfold nC pkR;simp only [h1,h2]
    ·simp only [bWx,zY,zV];unfold nC pkR goTo;simp only [h1,h2]
   ·simp only [zZ,zV]
    cases aC3 t (bO p).2.1 (aI1 p.2.2.2.2.2.2.1 (cU p).2.2.2.2) (cU p)
    ·simp only [bW7,zZ,bW2,zU];unfold nC pkR;simp only [h1,h2]
    ·simp only [bWx,zY,zV];unfold nC pkR goTo;simp only [h1,h2]

def aAm (p:den tPk) (now:Int):Bool:= !decide (cW p<0)&&(decide ((bO p).2.1<=now)&&decide (now<=(cU p).2.2.2.1))

theorem bIw {p:den tPk} {now:Int} (h:SmB 68719476736 tPk p):gD p now=some (aAm p now):=by
 unfold gD aAm aI pj5 zz4 zz5
 simp only [aM,aFl h,aA]
 cases c:decide (cW p<0)
 ·have hh:=aFf (p:=p) (by have :=of_decide_eq_false c;omega)
  obtain ⟨i,j,h1,h2,h3,h4,h5⟩:=gO hh
  simp only [zY,h1,h2,aH,h3,h4,aA,sV]
  cases decide ((bO p).2.1<=now)<;>rfl
 ·rfl

theorem bIz {p:den tPk} {now:Int} (h:SmB 68719476736 tPk p):iX p now=some (aAm p now):=by
 unfold iX aAm aI pj5 zz4 zz5
 simp only [aM,aE2 h,aA]
 cases c:decide (cW p<0)
 ·have hh:=aFf (p:=p) (by have :=of_decide_eq_false c;omega)
  obtain ⟨i,j,h1,h2,h3,h4,h5⟩:=gO hh
  simp only [zY,h1,h2,aH,h3,h4,aA,lY]
  cases decide ((bO p).2.1<=now)<;>rfl
 ·rfl

def dC (t:den tTo) (now:Int) (p:den tPk):Int:=if aCi t p then (if aAm p now then 0 else 5) else 4

def goC (t:den tTo) (now:Int):Nat→den tPk→Int×den tPk
 | 0,p=>(dC t now p,aT t p)
 | n+1,p=>if dC t now p==0&&(dL (aT t p)&& !fX (aT t p)) then goC t now n (adv (aT t p)) else (dC t now p,aT t p)

theorem zP (t:den tTo) (p:den tPk):tot tPk (aT t p)=tot tPk p:=by
 unfold aT;split<;>rfl

theorem aE0 (p:den tPk):tot tPk (adv p)=tot tPk p:=by
 unfold adv;split
 ·rfl
 ·split<;>rfl

theorem aXu (t:den tTo) (p:den tPk) (now:Int):aAm (aT t p) now=aAm p now:=by
 unfold aT;split<;>rfl

theorem aJf (t:den tTo) (p:den tPk):cH (aT t p)=cH p∧cW (aT t p)=cW p∧cU (aT t p)=cU p∧(aT t p).2.2.2.1=p.2.2.2.1∧(aT t p).2.2.2.2.1=p.2.2.2.2.1:=by
 unfold aT;split<;>exact ⟨rfl,rfl,rfl,rfl,rfl⟩

theorem zI {t:den tTo} {now:Int} {p:den tPk} (h:dC t now p=0):cH p=true∧0<=cW p:=by
 unfold dC at h
 split at h
 ·rename_i hs
  unfold aCi at hs
  rw [bWw] at hs
  refine ⟨hs.1,?_⟩
  obtain ⟨i,j,h1,h2,h3,h4,h5⟩:=gO hs.1
  rw [h5]
  by_cases hn:(cU p).1<0
  ·rw [aZ1 hn] at hs;cases hs.2
  ·exact Int.not_lt.1 hn
 ·cases h

theorem aXg {p:den tPk} (h0:0<=cW p) (hc:(dL p&& !fX p)=true):(adv p).2.2.2.1=p.2.2.2.1∧(adv p).2.2.2.2.1=p.2.2.2.2.1+1:=by
 rw [bWw] at hc
 have ha:fX p=false:=by simpa using hc.2
 unfold adv
 rw [zW (by omega),ha,hc.1]
 exact ⟨rfl,rfl⟩

theorem aYm {t:den tTo} {now:Int} {S R:Type} (enc:Int→den tPk→S) (out:S→R) {step:S→Option (S⊕R)} (st:den tPk→den tPk) (hst: ∀ p,dC t now p=0→st p=aT t p)
  (hstop: ∀ c p,c≠0→step (enc c p)=some (.inr (out (enc c p))))
  (hgo: ∀ q,tot tPk q<=34359738368→cH q=true→0<=cW q→step (enc 0 q)=some (if dL q&& !fX q then .inl (enc (dC t now (adv q)) (st (adv q))) else .inr (out (enc 0 q)))):
  ∀ (n:Nat) (p:den tPk),tot tPk p<=34359738368→p.2.2.2.1.length - p.2.2.2.2.1.toNat<=n→ ∃ r,aC step (enc (dC t now p) (st p))=some (out (enc (goC t now n p).1 r))∧((goC t now n p).1=0→r=(goC t now n p).2):=by
 intro n
 induction n with
 | zero=>
  intro p hp hm
  by_cases hc:dC t now p=0
  ·obtain ⟨hh,h0⟩:=zI hc
   obtain ⟨i,j,h1,h2,h3,h4,h5⟩:=gO hh
   have hlt:=(bW1.1 h3).1
   rw [h1,bW4] at hm
   exact absurd hlt (by omega)
  ·exact ⟨_,bX (hstop _ _ hc),fun h=>absurd h hc⟩
 | succ n ih=>
  intro p hp hm
  by_cases hc:dC t now p=0
  ·obtain ⟨hh,h0⟩:=zI hc
   obtain ⟨e1,e2,e3,e4,e5⟩:=aJf t p
   have hq:=hgo (aT t p) (by rw [zP];exact hp) (by rw [e1];exact hh) (by rw [e2];exact h0)
   rw [hst p hc]
   cases hb:dL (aT t p)&& !fX (aT t p) with
   | false=>
    rw [hb] at hq
    have hg:goC t now (n+1) p=(dC t now p,aT t p):=by
     show (if _ then _ else _)=_
     rw [hb,bYr];rfl
    rw [hg,hc]
    exact ⟨aT t p,bX hq,fun _=>rfl⟩
   | true=>
    rw [hb,zT rfl] at hq
    have hg:goC t now (n+1) p=goC t now n (adv (aT t p)):=by
     show (if _ then _ else _)=_
     rw [hb,hc];rfl
    rw [hg,hc,dS hq]
    obtain ⟨a1,a2⟩:=aXg (p:=aT t p) (by rw [e2];exact h0) hb
    obtain ⟨i,j,h1,h2,h3,h4,h5⟩:=gO hh
    refine ih (adv (aT t p)) (by rw [aE0,zP];exact hp) ?_
    rw [a1,a2,e4,e5,h1]
    rw [h1,bW4] at hm
    have :((i:Int)+1).toNat=i+1:=by omega
    rw [this]
    omega
  ·have hg:goC t now (n+1) p=(dC t now p,aT t p):=by
    show (if _ then _ else _)=_
    rw [show (dC t now p==0)=false from by simpa using hc];rfl
   rw [hg]
   exact ⟨_,bX (hstop _ _ hc),fun h=>absurd h hc⟩

def aIr (p:den tPk):Int:=if p.2.2.2.2.1==0&&p.2.2.2.2.2.1==0 then 0 else pIn (bO p) (cU p)


def bQ (t:den tTo) (now:Int) (p:den tPk):Int×den tPk:=goC t now (p.2.2.2.1.length - p.2.2.2.2.1.toNat) p


def fwd (t:den tTo) (r now dead inn:Int) (p:den tPk):Int×Int×den tPk×Int:=
 if !gP p||(!xU t p.2.2.2.1|| !(cW p==r)) then (2,0,p,0)
 else if !(inn==aIr p) then (3,0,p,0)
 else if !((bQ t now p).1==0) then ((bQ t now p).1,0,p,0)
 else if fX (bQ t now p).2 then (if (bQ t now p).2.2.2.1==r then (1,0,(bQ t now p).2,0) else (2,0,p,0))
 else if !aJa t (r,inn,pEg (bO (bQ t now p).2) (cU (bQ t now p).2)) then (6,0,p,0)
 else if aJx dead (pEg (bO (bQ t now p).2) (cU (bQ t now p).2)) then (7,0,p,pEg (bO (bQ t now p).2) (cU (bQ t now p).2))
 else (0,pEg (bO (bQ t now p).2) (cU (bQ t now p).2),adv (bQ t now p).2,pEg (bO (bQ t now p).2) (cU (bQ t now p).2))

def fwI (v:Int×Int×den tPk×Int):Int×Int×q18:=
 (v.1,v.2.1,v.2.2.1.1,v.2.2.1.2.1,v.2.2.1.2.2.1,v.2.2.1.2.2.2.1,v.2.2.1.2.2.2.2.1,v.2.2.1.2.2.2.2.2.1,v.2.2.1.2.2.2.2.2.2.1,v.2.2.1.2.2.2.2.2.2.2.1,v.2.2.1.2.2.2.2.2.2.2.2.1,v.2.2.1.2.2.2.2.2.2.2.2.2,v.2.2.2)

def fwS (v:Int×Int×den tPk×Int):Int×Int×q3:=(v.1,v.2.1,pkR v.2.2.1)

theorem aFj {t:den tTo} {now:Int}: ∀ (n:Nat) (p:den tPk),(goC t now n p).1=0→cH (goC t now n p).2=true∧0<=cW (goC t now n p).2∧tot tPk (goC t now n p).2=tot tPk p
 | 0,p,h=>by
  obtain ⟨h1,h2⟩:=zI (show dC t now p=0 from h)
  obtain ⟨e1,e2,_⟩:=aJf t p
  exact ⟨e1.trans h1,by rw [show (goC t now 0 p).2=aT t p from rfl,e2];exact h2,zP t p⟩
 | n+1,p,h=>by
  unfold goC at h ⊢
  split at h
  ·rename_i hc
   rw [zT hc]
   obtain ⟨h1,h2,h3⟩:=aFj n _ h
   exact ⟨h1,h2,by rw [h3,aE0,zP]⟩
  ·rename_i hc
   rw [zS hc]
   obtain ⟨h1,h2⟩:=zI (show dC t now p=0 from h)
   obtain ⟨e1,e2,_⟩:=aJf t p
   exact ⟨e1.trans h1,by rw [show (dC t now p,aT t p).2=aT t p from rfl,e2];exact h2,zP t p⟩

def yE (t:den tTo) (now:Int) (p:den tPk):den tPk:=if dC t now p=0 then aT t p else p

def aCc (p:den tPk) (c:Int):q18:=(p.1,p.2.1,p.2.2.1,p.2.2.2.1,p.2.2.2.2.1,p.2.2.2.2.2.1,p.2.2.2.2.2.2.1,p.2.2.2.2.2.2.2.1,p.2.2.2.2.2.2.2.2.1,p.2.2.2.2.2.2.2.2.2,c)

def aCt (p:den tPk) (c:Int):Int×q3:=(p.1,p.2.1,p.2.2.1,p.2.2.2.2.1,p.2.2.2.2.2.1,p.2.2.2.2.2.2.1,p.2.2.2.2.2.2.2.1,p.2.2.2.2.2.2.2.2.1,c,p.2.2.2.1,p.2.2.2.2.2.2.2.2.2)

theorem bMe {t:den tTo} {now:Int} {p:den tPk} (ht:t.1.length<=68719476736) (h:tot tPk p<=34359738368):kP t now p=some (aCc (yE t now p) (dC t now p)):=by
 unfold kP aI pj2 aW zz4 zz5 zz6 zz7 zz8 zz9
 simp only [aM,bQ2 ht (fW h),aA]
 unfold yE dC
 cases c:aCi t p
 ·simp only [nC,bW7,zZ,bW2,zU];rfl
 ·have hs:tot tPk (aT t p)<=34359738368:=by rw [zP];exact h
  have key:gD ((nC (aT t p) true).1,(nC (aT t p) true).2.1,(nC (aT t p) true).2.2.1,(nC (aT t p) true).2.2.2.2.2.2.2.2.2.1,(nC (aT t p) true).2.2.2.1,(nC (aT t p) true).2.2.2.2.1,(nC (aT t p) true).2.2.2.2.2.1,(nC (aT t p) true).2.2.2.2.2.2.1,(nC (aT t p) true).2.2.2.2.2.2.2.1,(nC (aT t p) true).2.2.2.2.2.2.2.2.2.2) now=some (aAm p now):=by
   rw [← aXu t p now]
   exact bIw (fW hs)
  rw [key]
  simp only [nC,bWx,zY,aA,zV]
  cases aAm p now
  ·simp only [bW7,zZ,bW2,zU];rfl
  ·simp only [bWx,zY,zV];rfl

theorem bOj {t:den tTo} {now:Int} {p:den tPk} (ht:t.1.length<=68719476736) (h:tot tPk p<=34359738368):nP t now p=some (aCt (aT t p) (dC t now p)):=by
 unfold nP aI pj2 zz4 zz5 zz6 zz7 zz8 zz9
 simp only [aM,bR6 ht (fW h),bIz (fW h),aA]
 unfold dC
 cases c:aCi t p
 ·simp only [nC,bW7,zZ,bW2,zU];rfl
 ·simp only [nC,bWx,zY,zV]
  cases aAm p now
  ·simp only [bW7,zZ,bW2,zU];rfl
  ·simp only [bWx,zY,zV];rfl

theorem aOm {p:den tPk} (h:gP p=true):cH p=true:=by
 unfold gP at h
 simp only [bWw] at h
 exact h.2.2.1

theorem bOg {c:Int} {p:den tPk} (h:tot tPk p<=34359738368):kQ c p=some (c,0,p.1,p.2.1,p.2.2.1,p.2.2.2.2.1,p.2.2.2.2.2.1,p.2.2.2.2.2.2.1,p.2.2.2.2.2.2.2.1,p.2.2.2.2.2.2.2.2.1,p.2.2.2.1,p.2.2.2.2.2.2.2.2.2,p.1,p.2.1,p.2.2.1,p.2.2.2.1,p.2.2.2.2.1,p.2.2.2.2.2.1,p.2.2.2.2.2.2.1,p.2.2.2.2.2.2.2.1,p.2.2.2.2.2.2.2.2.1,p.2.2.2.2.2.2.2.2.2):=by
 unfold kQ aI zz4 zz5 zz6 zz7 zz8 zz9
 simp only [aM,aHw (fW h),aA]
 rfl

theorem bLu {c:Int} {p:den tPk} (h:tot tPk p<=34359738368):sT c p=some (c,0,pkR p):=by
 unfold sT aI
 simp only [aM,aDd (fW h),aA]

theorem aH0 {p:den tPk} {N:Nat} (h:tot tPk p<=N):tot tPt p.2.2.2.1<=N:=(aLv h).1

theorem bMj {t:den tTo} {r now dead inn:Int} {p:den tPk} (ht:t.1.length<=68719476736) (ht2:t.2.length<=68719476736) (h:tot tPk p<=34359738368) (hpp:tot tPt p.2.2.2.1<=1073741824):vB t r now dead inn p=some (fwI (fwd t r now dead inn p)):=by
 unfold vB fwd aI aIq pj2 pj4 aW bR zz4 zz5 zz6 zz7 zz8 zz9
 simp only [aM,bLq (fW h),bGv ht ht2 hpp,aFl (fW h),aA,aFr,bOg h]
 cases cv:gP p
 ·simp only [bW7,bYs,zZ,aA,zV];rfl
 ·cases cs:xU t p.2.2.2.1
  ·simp only [bWx,bW7,bYs,bYt,zZ,zY,aA,zV];rfl
  ·cases cr:cW p==r
   ·simp only [bWx,bW7,bYs,bYt,zZ,zY,aA,zV];rfl
   ·simp only [bWx,bYm,zY,aA,bW2,zU]
    obtain ⟨i,j,h1,h2,h3,h4,h5⟩:=gO (aOm cv)
    have hl:=yU (fW h) h3
    have hw:(@Option.bind Bool Int (cond (p.2.2.2.2.1==(0:Int)) (some (p.2.2.2.2.2.1==(0:Int))) (some false)) fun (s8:Bool)=>cond s8 (some (0:Int)) (some (pIn (bO p) (cU p))))=some (aIr p):=by
     unfold aIr
     cases p.2.2.2.2.1==0<;>cases p.2.2.2.2.2.1==0<;>rfl
    have hp1:idx p.2.2.2.1 p.2.2.2.2.1=some (bO p):=by rw [h1,aH];exact h3
    have hp2:fE (bO p) p.2.2.2.2.2.1=some (pIn (bO p) (cU p)):=by rw [h2];exact bC1 h4 hl
    rw [hp1,aA,hp2,aA,hw,aA]
    cases ci:inn==aIr p
    ·simp only [bW7,zZ,zV,aA];rfl
    ·simp only [bWx,zY,bW2,zU,aHw (fW h),aA]
     have hc:kP t now ((pkR p).1,(pkR p).2.1,(pkR p).2.2.1,(pkR p).2.2.2.2.2.2.2.2.1,(pkR p).2.2.2.1,(pkR p).2.2.2.2.1,(pkR p).2.2.2.2.2.1,(pkR p).2.2.2.2.2.2.1,(pkR p).2.2.2.2.2.2.2.1,(pkR p).2.2.2.2.2.2.2.2.2)=some (aCc (yE t now p) (dC t now p)):=bMe ht h
     rw [hc]
     simp only [aA,aV,bK,bA,aZ,bD]
     obtain ⟨q,hq1,hq2⟩:=aYm (t:=t) (now:=now) (S:=Int×den tPk) (R:=Int×den tPk) (fun c p=>(c,p)) id (step:=fun s23=> @Option.bind Bool _ (cond (s23.1==(0:Int)) (Option.bind (gS s23.2) fun y24=>cond y24 (Option.bind (kK s23.2) fun y25=>some (!y25)) (some false)) (some false)) fun (s26:Bool)=>cond s26 (Option.bind (lV s23.2) fun y27=>Option.bind (kP t now (y27.1,y27.2.1,y27.2.2.1,y27.2.2.2.2.2.2.2.2.1,y27.2.2.2.1,y27.2.2.2.2.1,y27.2.2.2.2.2.1,y27.2.2.2.2.2.2.1,y27.2.2.2.2.2.2.2.1,y27.2.2.2.2.2.2.2.2.2)) fun y28=>some (bWt (y28.2.2.2.2.2.2.2.2.2.2,y28.1,y28.2.1,y28.2.2.1,y28.2.2.2.1,y28.2.2.2.2.1,y28.2.2.2.2.2.1,y28.2.2.2.2.2.2.1,y28.2.2.2.2.2.2.2.1,y28.2.2.2.2.2.2.2.2.1,y28.2.2.2.2.2.2.2.2.2.1))) (some (bWs s23))) (yE t now) (fun p hp=>zT hp) (fun c p hc=>by
       have :(c==0)=false:=by simpa using hc
       simp only [this,zY,aA,id]) (fun q hq hh h0=>by
       have e:kP t now ((pkR (adv q)).1,(pkR (adv q)).2.1,(pkR (adv q)).2.2.1,(pkR (adv q)).2.2.2.2.2.2.2.2.1,(pkR (adv q)).2.2.2.1,(pkR (adv q)).2.2.2.2.1,(pkR (adv q)).2.2.2.2.2.1,(pkR (adv q)).2.2.2.2.2.2.1,(pkR (adv q)).2.2.2.2.2.2.2.1,(pkR (adv q)).2.2.2.2.2.2.2.2.2)=some (aCc (yE t now (adv q)) (dC t now (adv q))):=bMe (p:=adv q) ht (by rw [aE0];exact hq)
       simp only [beq_self_eq_true,zZ,aN5 (fW hq) hh,aNu (fW hq),bMk (fW hq),aA,e]
       cases dL q<;>cases fX q<;>rfl) _ p h (bXb _)
     have hq1:aC _ (dC t now p,yE t now p)=some ((bQ t now p).1,q):=hq1
     have hq2:(bQ t now p).1=0→q=(bQ t now p).2:=hq2
     have e0:(((aCc (yE t now p) (dC t now p)).2.2.2.2.2.2.2.2.2.2,(aCc (yE t now p) (dC t now p)).1,(aCc (yE t now p) (dC t now p)).2.1,(aCc (yE t now p) (dC t now p)).2.2.1,(aCc (yE t now p) (dC t now p)).2.2.2.1,(aCc (yE t now p) (dC t now p)).2.2.2.2.1,(aCc (yE t now p) (dC t now p)).2.2.2.2.2.1,(aCc (yE t now p) (dC t now p)).2.2.2.2.2.2.1,(aCc (yE t now p) (dC t now p)).2.2.2.2.2.2.2.1,(aCc (yE t now p) (dC t now p)).2.2.2.2.2.2.2.2.1,(aCc (yE t now p) (dC t now p)).2.2.2.2.2.2.2.2.2.1):Int×den tPk)=(dC t now p,yE t now p):=rfl
     rw [e0,hq1,aA]
     by_cases hz:(bQ t now p).1=0
     ·have hqq:=hq2 hz
      subst hqq
      obtain ⟨g1,g2,g3⟩:=aFj _ p hz
      have g1:cH (bQ t now p).2=true:=g1
      have g2:0<=cW (bQ t now p).2:=g2
      have g3:tot tPk (bQ t now p).2=tot tPk p:=g3
      have hg:tot tPk (bQ t now p).2<=34359738368:=by rw [g3];exact h
      obtain ⟨i',j',k1,k2,k3,k4,k5⟩:=gO g1
      have hl':=yU (fW hg) k3
      have q1:idx (bQ t now p).2.2.2.2.1 (bQ t now p).2.2.2.2.2.1=some (bO (bQ t now p).2):=by rw [k1,aH];exact k3
      have q2:fO (bO (bQ t now p).2) (bQ t now p).2.2.2.2.2.2.1=some (pEg (bO (bQ t now p).2) (cU (bQ t now p).2)):=by rw [k2];exact bB8 k4 hl'
      simp only [hz,beq_self_eq_true,bWx,zY,bW2,zU,aNu (fW hg),aA]
      cases ca:fX (bQ t now p).2
      ·simp only [zY,bW2,zU,q1,q2,aA,bPi ht2,bPa]
       cases aJa t (r,inn,pEg (bO (bQ t now p).2) (cU (bQ t now p).2))
       ·simp only [bW7,zZ,zV];rfl
       ·simp only [bWx,zY,bW2,zU]
        cases aJx dead (pEg (bO (bQ t now p).2) (cU (bQ t now p).2))
        ·simp only [zY,bW2,zU,bMk (fW hg),aA];rfl
        ·simp only [zZ,zV];rfl
      ·simp only [zZ,zV]
       cases (bQ t now p).2.2.2.1==r
       ·simp only [bW7,zZ,bW2,zU];rfl
       ·simp only [bWx,zY,zV];rfl
     ·have hz':((bQ t now p).1==0)=false:=by simpa using hz
      simp only [hz',bW7,zZ,zV,bOg h,aA];rfl


def aKh (c:Int) (p:den tPk):Int×q3:=(c,p.1,p.2.1,p.2.2.1,p.2.2.2.2.1,p.2.2.2.2.2.1,p.2.2.2.2.2.2.1,p.2.2.2.2.2.2.2.1,p.2.2.2.2.2.2.2.2.1,p.2.2.2.1,p.2.2.2.2.2.2.2.2.2)

theorem aXa {q:den tPk} (hh:cH q=true) (h0:0<=cW q):(dL q&&decide (q.2.2.2.2.1<(q.2.2.2.1.length:Int) - 1))=(dL q&& !fX q):=by
 obtain ⟨i,j,h1,h2,h3,h4,h5⟩:=gO hh
 have hlt:=(bW1.1 h3).1
 unfold fX aFx
 rw [zX (p:=cW q>=0) h0,h1]
 have key:decide ((i:Int)<(q.2.2.2.1.length:Int) - 1)= !((i:Int)==(q.2.2.2.1.length:Int) - 1):=by
  rw [bXl]
  simp only [zR,bXx,beq_eq_false_iff_ne,ne_eq]
  omega
 rw [key]
 cases dL q<;>simp

theorem bL1 {t:den tTo} {r now dead inn:Int} {p:den tPk} (ht:t.1.length<=68719476736) (ht2:t.2.length<=68719476736) (h:tot tPk p<=34359738368) (hpp:tot tPt p.2.2.2.1<=1073741824):sO t r now dead inn p=some (fwS (fwd t r now dead inn p)):=by
 unfold sO fwd ixb aI aIq aCg pj2 pj4 aW zz4 zz5 zz6 zz7 zz8 zz9
 simp only [aM,aXb (fW h),aS5 ht ht2 hpp,aE2 (fW h),aA,aFr,bLu h]
 cases cv:gP p
 ·simp only [bW7,bYs,zZ,aA,zV];rfl
 ·cases cs:xU t p.2.2.2.1
  ·simp only [bWx,bW7,bYs,bYt,zZ,zY,aA,zV];rfl
  ·cases cr:cW p==r
   ·simp only [bWx,bW7,bYs,bYt,zZ,zY,aA,zV];rfl
   ·simp only [bWx,bYm,zY,aA,bW2,zU]
    obtain ⟨i,j,h1,h2,h3,h4,h5⟩:=gO (aOm cv)
    have hl:=yU (fW h) h3
    have hw:(@Option.bind Bool Int (cond (p.2.2.2.2.1==(0:Int)) (some (p.2.2.2.2.2.1==(0:Int))) (some false)) fun (s8:Bool)=>cond s8 (some (0:Int)) (some (pIn (bO p) (cU p))))=some (aIr p):=by
     unfold aIr
     cases p.2.2.2.2.1==0<;>cases p.2.2.2.2.2.1==0<;>rfl
    have hp1:idx p.2.2.2.1 p.2.2.2.2.1=some (bO p):=by rw [h1,aH];exact h3
    have hp2:eU (bO p) p.2.2.2.2.2.1=some (pIn (bO p) (cU p)):=by rw [h2];exact bD3 h4 hl
    rw [hp1,aA,hp2,aA,hw,aA]
    cases ci:inn==aIr p
    ·simp only [bW7,zZ,zV,aA];rfl
    ·simp only [bWx,zY,bW2,zU,bOj ht h,aA]
     obtain ⟨q,hq1,hq2⟩:=aYm (t:=t) (now:=now) aKh id (step:=fun s17=> @Option.bind Bool _ (cond (s17.1==(0:Int)) (cond (decide ((0:Int)<=s17.2.2.2.2.1)) (cond (decide (s17.2.2.2.2.1<(s17.2.2.2.2.2.2.2.2.2.1.length:Int))) (Option.bind s17.2.2.2.2.2.2.2.2.2.1[s17.2.2.2.2.1.toNat]? fun x18=>cond (s17.2.2.2.2.2.1==(wr ((x18.2.2.2.length:Int) - (1:Int)))) (some (decide (s17.2.2.2.2.1<(wr ((s17.2.2.2.2.2.2.2.2.2.1.length:Int) - (1:Int)))))) (some false)) none) none) (some false)) fun (s19:Bool)=>cond s19 (Option.bind (gJ (s17.2.1,s17.2.2.1,s17.2.2.2.1,s17.2.2.2.2.2.2.2.2.2.1,s17.2.2.2.2.1,s17.2.2.2.2.2.1,s17.2.2.2.2.2.2.1,s17.2.2.2.2.2.2.2.1,s17.2.2.2.2.2.2.2.2.1,s17.2.2.2.2.2.2.2.2.2.2)) fun y20=>Option.bind (nP t now (y20.1,y20.2.1,y20.2.2.1,y20.2.2.2.2.2.2.2.2.1,y20.2.2.2.1,y20.2.2.2.2.1,y20.2.2.2.2.2.1,y20.2.2.2.2.2.2.1,y20.2.2.2.2.2.2.2.1,y20.2.2.2.2.2.2.2.2.2)) fun y21=>some (bWt (y21.2.2.2.2.2.2.2.2.1,y21.1,y21.2.1,y21.2.2.1,y21.2.2.2.1,y21.2.2.2.2.1,y21.2.2.2.2.2.1,y21.2.2.2.2.2.2.1,y21.2.2.2.2.2.2.2.1,y21.2.2.2.2.2.2.2.2.2.1,y21.2.2.2.2.2.2.2.2.2.2))) (some (bWs s17))) (aT t) (fun p hp=>rfl) (fun c p hc=>by
       have :(c==0)=false:=by simpa using hc
       simp only [aKh,this,zY,aA,id]) (fun q hq hh h0=>by
       have e:nP t now ((pkR (adv q)).1,(pkR (adv q)).2.1,(pkR (adv q)).2.2.1,(pkR (adv q)).2.2.2.2.2.2.2.2.1,(pkR (adv q)).2.2.2.1,(pkR (adv q)).2.2.2.2.1,(pkR (adv q)).2.2.2.2.2.1,(pkR (adv q)).2.2.2.2.2.2.1,(pkR (adv q)).2.2.2.2.2.2.2.1,(pkR (adv q)).2.2.2.2.2.2.2.2.2)=some (aCt (aT t (adv q)) (dC t now (adv q))):=bOj (p:=adv q) ht (by rw [aE0];exact hq)
       obtain ⟨i',j',k1,k2,k3,k4,k5⟩:=gO hh
       have hlt:=(bW1.1 k3).1
       have l1:bW9 q.2.2.2.1<=68719476736:=(fW hq).2.2.2.1.1
       have hm:=aXa hh h0
       simp only [aKh,beq_self_eq_true,zZ,aM,bBf (fW hq),aA,e]
       rw [← hm]
       have hd:decide ((i':Int)<(q.2.2.2.1.length:Int))=true:=zX (by omega)
       simp only [k1,fG,hd,zZ,bW4,k3,aA,jO (yU (fW hq) k3),jO l1]
       unfold dL
       cases q.2.2.2.2.2.1==((bO q).2.2.2.length:Int) - 1<;>cases decide ((i':Int)<(q.2.2.2.1.length:Int) - 1)<;>rfl) _ p h (bXb _)
     have hq1:aC _ (aKh (dC t now p) (aT t p))=some (aKh (bQ t now p).1 q):=hq1
     have hq2:(bQ t now p).1=0→q=(bQ t now p).2:=hq2
     have e0:(((aCt (aT t p) (dC t now p)).2.2.2.2.2.2.2.2.1,(aCt (aT t p) (dC t now p)).1,(aCt (aT t p) (dC t now p)).2.1,(aCt (aT t p) (dC t now p)).2.2.1,(aCt (aT t p) (dC t now p)).2.2.2.1,(aCt (aT t p) (dC t now p)).2.2.2.2.1,(aCt (aT t p) (dC t now p)).2.2.2.2.2.1,(aCt (aT t p) (dC t now p)).2.2.2.2.2.2.1,(aCt (aT t p) (dC t now p)).2.2.2.2.2.2.2.1,(aCt (aT t p) (dC t now p)).2.2.2.2.2.2.2.2.2.1,(aCt (aT t p) (dC t now p)).2.2.2.2.2.2.2.2.2.2))=aKh (dC t now p) (aT t p):=rfl
     rw [e0,hq1,aA]
     by_cases hz:(bQ t now p).1=0
     ·have hqq:=hq2 hz
      subst hqq
      obtain ⟨g1,g2,g3⟩:=aFj _ p hz
      have g1:cH (bQ t now p).2=true:=g1
      have g2:0<=cW (bQ t now p).2:=g2
      have g3:tot tPk (bQ t now p).2=tot tPk p:=g3
      have hg:tot tPk (bQ t now p).2<=34359738368:=by rw [g3];exact h
      obtain ⟨i',j',k1,k2,k3,k4,k5⟩:=gO g1
      have hlt:=(bW1.1 k3).1
      have hl':=yU (fW hg) k3
      have q2:dH (bO (bQ t now p).2) (bQ t now p).2.2.2.2.2.2.1=some (pEg (bO (bQ t now p).2) (cU (bQ t now p).2)):=by rw [k2];exact aUo k4 hl'
      simp only [aKh,aM,hz,beq_self_eq_true,bWx,zY,bW2,zU,aVi (fW hg),aA]
      cases ca:fX (bQ t now p).2
      ·simp only [zY,aA,bW2,zU]
       have hd:decide ((i':Int)<((bQ t now p).2.2.2.2.1.length:Int))=true:=zX (by omega)
       simp only [k1,fG,hd,zZ,bW4,k3,aA,q2,bP8 ht2,bPw]
       cases aJa t (r,inn,pEg (bO (bQ t now p).2) (cU (bQ t now p).2))
       ·simp only [bW7,zZ,zV];rfl
       ·simp only [bWx,zY,bW2,zU]
        cases aJx dead (pEg (bO (bQ t now p).2) (cU (bQ t now p).2))
        ·simp only [zY,bW2,zU,bBf (fW hg),aA];rfl
        ·simp only [zZ,zV];rfl
      ·simp only [zZ,aA]
       cases (bQ t now p).2.2.2.1==r
       ·simp only [zY,zZ,bW2,zU,zV];rfl
       ·simp only [zZ,zV];rfl
     ·have hz':((bQ t now p).1==0)=false:=by simpa using hz
      simp only [aKh,hz',bW7,zZ,zV,bLu h,aA];rfl

theorem aL3 (t:den tTo) (r now dead inn:Int) (p:den tPk):tot tPk (fwd t r now dead inn p).2.2.1=tot tPk p:=by
 unfold fwd
 split
 ·rfl
 ·split
  ·rfl
  ·split
   ·rfl
   ·rename_i hz
    have hz:(bQ t now p).1=0:=by simpa using hz
    obtain ⟨_,_,g3⟩:=aFj _ p hz
    have g3:tot tPk (bQ t now p).2=tot tPk p:=g3
    split
    ·split
     ·exact g3
     ·rfl
    ·split
     ·rfl
     ·split
      ·rfl
      ·show tot tPk (adv (bQ t now p).2)=_
       rw [aE0];exact g3

def bS (t:den tTo) (now:Int) (dead:List Int) (r inn:Int) (p:den tPk):Int×Int×den tPk×Int:=fwd t r now (rQ t dead r) inn p

abbrev nT (w:den tNw):den tTo:=w.1

abbrev nK (w:den tNw):den tDb:=w.2.1

abbrev nG (w:den tNw):den tSc:=w.2.2.1

abbrev aN (w:den tNw):Int:=w.2.2.2.1

abbrev aJ (w:den tNw):List Int:=w.2.2.2.2.1

abbrev aR (w:den tNw):lFy:=w.2.2.2.2.2.1

abbrev aB (w:den tNw):lFl:=w.2.2.2.2.2.2.1

abbrev aU (w:den tNw):lIb:=w.2.2.2.2.2.2.2.1

abbrev dW (w:den tNw):Int:=w.2.2.2.2.2.2.2.2


def aN7 (w:den tNw):q4:=
 ((nG w).1,aN w,dW w,(nT w).1,(nT w).2,(nK w).1,(nK w).2,(nG w).2.1,(nG w).2.2,aJ w,aR w,aB w,aU w)

theorem bE2 {l:lRs} (h:l.length<=68719476736):eN l=some l:=by
 unfold eN
 rw [aD (n:=([]:lRs).length) (by decide) (by simpa using h)]
 rfl

theorem bC0 {g:den tSc} (h:SmB 68719476736 tSc g):eV g=some g:=by
 unfold eV
 rw [bE2 h.2.1.1,aA,aD (n:=([]:lUs).length) (by decide) (by simpa using h.2.2.1)]
 rfl

theorem bDk {g:den tSc} (h:SmB 68719476736 tSc g):hO g=some g:=by
 unfold hO pj3
 rw [aD (b:=40) (n:=([]:lRs).length) (by decide) (by simpa using h.2.1.1),aD (b:=32) (n:=([]:lUs).length) (by decide) (by simpa using h.2.2.1)]
 simp only [aV,bK,bA,aZ,bD,zZ,aA,bXo]

theorem aJ3 (f:den tFl):(((nR f).1,(nR f).2.1,(nR f).2.2.1,(nR f).2.2.2.1,(nR f).2.2.2.2.2.2.1,(nR f).2.2.2.2.2.2.2.1,(nR f).2.2.2.2.1,(nR f).2.2.2.2.2.1,(nR f).2.2.2.2.2.2.2.2):den tFl)=f:=rfl

theorem aZh (p:den tPk):(((pkR p).1,(pkR p).2.1,(pkR p).2.2.1,(pkR p).2.2.2.2.2.2.2.2.1,(pkR p).2.2.2.1,(pkR p).2.2.2.2.1,(pkR p).2.2.2.2.2.1,(pkR p).2.2.2.2.2.2.1,(pkR p).2.2.2.2.2.2.2.1,(pkR p).2.2.2.2.2.2.2.2.2):den tPk)=p:=rfl

theorem bHj {x:den tFy} (h:SmB 68719476736 tFy x):SmB 68719476736 tPk x.2.2:=h.2.2

theorem aZx {w:den tNw} (h:SmB 68719476736 tNw w):iL w=some (aN7 w):=by
 obtain ⟨hT,hK,hG,_,hD,hY,hF,hX,_⟩:=h
 unfold iL pE aI pj2 pj3 pj4 pj9 zz4 zz5 zz6 zz7 zz8 zz9
 simp only [aM,bQv hT,aWb hK.1,aWb hK.2,bC0 hG,aZp hD.1,aA]
 rw [(tO (fun k (a:lFy)=>((k:Int),(nG w).1,aN w,dW w,a)) ((0:Int),(nG w).1,aN w,dW w,[]) [] (aR w) (fun _ x a=>a++[x]) bW9 (fun _=>1) 68719476736 (fun a=>((nG w).1,aN w,dW w,a)) rfl (bWv hY.1 (by decide)) (by rw [eZ];simpa using hY.1) (fun k x a hi hx hd hw hk hb=>by
  have e:=bHj (hY.2 x (bW6 hx))
  simp only [hd,hi,hw,zZ,aA,aM,aHw e,aZh,aD (b:=128) (n:=a.length) (m:=1) (by decide) hb]
  exact ⟨rfl,by simp⟩) (fun a=>by simp)).1,jB (fun x=>x)]
 simp only [aA]
 rw [(tO (fun k (a:lFl)=>((k:Int),(nG w).1,aN w,dW w,a)) ((0:Int),(nG w).1,aN w,dW w,[]) [] (aB w) (fun _ x a=>a++[x]) bW9 (fun _=>1) 68719476736 (fun a=>((nG w).1,aN w,dW w,a)) rfl (bWv hF.1 (by decide)) (by rw [eZ];simpa using hF.1) (fun k x a hi hx hd hw hk hb=>by
  have e:=hF.2 x (bW6 hx)
  simp only [hd,hi,hw,zZ,aA,aM,aH3 e,aJ3,aD (b:=120) (n:=a.length) (m:=1) (by decide) hb]
  exact ⟨rfl,by simp⟩) (fun a=>by simp)).1,jB (fun x=>x)]
 simp only [aA]
 rw [(tO (fun k (a:lIb)=>((k:Int),(nG w).1,aN w,dW w,a)) ((0:Int),(nG w).1,aN w,dW w,[]) [] (aU w) (fun _ x a=>a++[x]) bW9 (fun _=>1) 68719476736 (fun a=>((nG w).1,aN w,dW w,a)) rfl (bWv hX.1 (by decide)) (by rw [eZ];simpa using hX.1) (fun k x a hi hx hd hw hk hb=>by
  have e:=hX.2 x (bW6 hx)
  simp only [hd,hi,hw,zZ,aA,aM,bAc e,aD (b:=48) (n:=a.length) (m:=1) (by decide) hb]
  simp) (fun a=>by simp)).1,jB (fun x=>x)]
 simp only [aA,bXo,List.map_id']
 rfl

theorem bUf {l:lFy} (h:SmB 68719476736 (.sl tFy) l):tE l=some l:=by
 unfold tE aI zz4 zz5 zz6 zz7 zz8 zz9
 rw [(tO (fun k (a:lFy)=>((k:Int),a)) ((0:Int),[]) [] l (fun _ x a=>a++[x]) bW9 (fun _=>1) 68719476736 id rfl (bWv h.1 (by decide)) (by rw [eZ];simpa using h.1) (fun k x a hi hx hd hw hk hb=>by
  have e:=bHj (h.2 x (bW6 hx))
  simp only [hd,hi,hw,zZ,aA,aM,aDd e,aZh,aD (b:=128) (n:=a.length) (m:=1) (by decide) hb]
  exact ⟨rfl,by simp⟩) (fun a=>by simp)).1,jB (fun x=>x)]
 simp

theorem bQm {l:lFl} (h:SmB 68719476736 (.sl tFl) l):nO l=some l:=by
 unfold nO pj9 zz4 zz5 zz6 zz7 zz8
 rw [(tO (fun k (a:lFl)=>((k:Int),a)) ((0:Int),[]) [] l (fun _ x a=>a++[x]) bW9 (fun _=>1) 68719476736 id rfl (bWv h.1 (by decide)) (by rw [eZ];simpa using h.1) (fun k x a hi hx hd hw hk hb=>by
  have e:=h.2 x (bW6 hx)
  simp only [hd,hi,hw,zZ,aA,aM,aC8 e,aJ3,aD (b:=120) (n:=a.length) (m:=1) (by decide) hb]
  exact ⟨rfl,by simp⟩) (fun a=>by simp)).1,jB (fun x=>x)]
 simp

theorem bP7 {l:lIb} (h:SmB 68719476736 (.sl tIb) l):nZ l=some l:=by
 unfold nZ pj4
 rw [(tO (fun k (a:lIb)=>((k:Int),a)) ((0:Int),[]) [] l (fun _ x a=>a++[x]) bW9 (fun _=>1) 68719476736 id rfl (bWv h.1 (by decide)) (by rw [eZ];simpa using h.1) (fun k x a hi hx hd hw hk hb=>by
  have e:=h.2 x (bW6 hx)
  simp only [hd,hi,hw,zZ,aA,aM,aYp e,aD (b:=48) (n:=a.length) (m:=1) (by decide) hb]
  simp) (fun a=>by simp)).1,jB (fun x=>x)]
 simp

theorem aZk {w:den tNw} (h:SmB 68719476736 tNw w):qB w=some (aN7 w):=by
 obtain ⟨hT,hK,hG,_,hD,hY,hF,hX,_⟩:=h
 unfold qB pj2 pj3 aW zz4 zz5 zz6 zz7 zz8 zz9
 simp only [aM,aYl hT,aDh hK.1,aDh hK.2,bDk hG,bUf hY,bQm hF,bP7 hX,aA,aD (b:=8) (n:=([]:List Int).length) (m:=w.2.2.2.2.1.length) (by decide) (by simpa using hD.1),zZ,aV,bK,bA,aZ,bD,bXo]
 rfl


def cA (w:den tNw):q1:=
 (aR w,aB w,aU w,(nT w).1,(nT w).2,(nK w).1,(nK w).2,(nG w).1,(nG w).2.1,(nG w).2.2,aN w,aJ w,dW w)

def cT (w:den tNw) (l:lFl):den tNw:=(nT w,nK w,nG w,aN w,aJ w,aR w,l,aU w,dW w)

def oA (r:Int) (p:den tPk) (f:den tFl):den tFl:=if f.1==r then (if p.1==2 then tK f p else xO f p) else f

def tQ (w:den tNw) (r:Int) (p:den tPk):den tNw:=cT w ((aB w).map (oA r p))

def fY (p:den tPk):Prop:= ∀ x∈p.2.2.2.2.2.2.2.2.2,0<=x∧x<=255


theorem aQq {α S R:Type} (enc:Nat→List α→S) (l:List α) (g:α→α) (out:List α→R) {step:S→Option (S⊕R)} (hl:l.length<=4611686018427387904)
  (h: ∀ (k:Nat) (x:α) (a:List α),a.length=l.length→a[k]? =some x→x∈l→k<l.length→decide ((k:Int)<(l.length:Int))=true→IntKind.i64.wrap ((k:Int)+1)=((k+1:Nat):Int)→step (enc k a)=some (.inl (enc (k+1) (a.set k (g x)))))
  (he: ∀ a,a.length=l.length→step (enc l.length a)=some (.inr (out a))):aC step (enc 0 l)=some (out (l.map g)):=by
 have key: ∀ (rest pre:List α),pre++rest=l→aC step (enc pre.length (pre.map g++rest))=some (out (l.map g)):=by
  intro rest
  induction rest with
  | nil=>
   intro pre hp
   rw [bX1] at hp
   subst hp
   rw [bX1]
   exact bX (he _ (by simp))
  | cons x rest ih=>
   intro pre hp
   have hlt:pre.length<l.length:=by rw [← hp];simp
   have hx:(pre.map g++x::rest)[pre.length]? =some x:=by simp
   have hlen:(pre.map g++x::rest).length=l.length:=by rw [← hp];simp
   rw [dS (h pre.length x _ hlen hx (by rw [← hp];simp) hlt (by simpa using hlt) (by rw [wri (by omega) (by omega)];omega))]
   have hs:(pre.map g++x::rest).set pre.length (g x)=(pre++[x]).map g++rest:=by
    rw [List.set_append_right _ _ (by simp)]
    simp
   rw [hs]
   have :=ih (pre++[x]) (by simpa using hp)
   simpa using this
 exact key l [] rfl

theorem aJt {α:Type} {a:List α} {k:Nat} {x:α} (h:a[k]? =some x):a.set k x=a:=by
 obtain ⟨hlt,hx⟩:=bW1.1 h
 rw [← hx]
 exact List.set_getElem_self hlt

theorem aRc {f:den tFl} (h:tot tFl f<=1073741824):SmB 68719476736 tFl f:=(bG h).mono (by decide)

theorem aL7 {α:Type} {a:List α} {k n:Nat} (h:a.length=n) (hk:k<n):decide ((k:Int)<(a.length:Int))=true∧decide (k<a.length)=true:=by
 constructor<;>simp<;>omega

theorem aQw {w:den tNw} {r:Int} {p:den tPk} (hF: ∀ f∈aB w,tot tFl f<=1073741824) (hl:(aB w).length<=1073741824) (hp:tot tPk p<=1073741824) (hb:fY p):gL w r p=some (cA (tQ w r p)):=by
 unfold gL ixb aI pj9 zz4 zz5 zz6 zz7 zz8
 refine aQq (fun k (a:lFl)=>((k:Int),a)) (aB w) (oA r p) (fun l=>cA (cT w l)) (bWv hl (by decide)) (fun k f a ha hx hm hk hd hw=> ?_) (fun a ha=> ?_)
 ·obtain ⟨d1,d2⟩:=aL7 ha hk
  have hd:decide ((k:Int)<(w.2.2.2.2.2.2.1.length:Int))=true:=hd
  simp only [hd,d1,d2,fG,bW4,hx,zZ,aA,aM,aFr,bO2 (aRc (hF f hm)),bQx (hF f hm) hp hb,aJ3,hw]
  unfold oA
  cases f.1==r
  ·simp only [bW7,zZ,bW2,zU,aA,aJt hx]
  ·simp only [bWx,zY,zV]
   cases p.1==2<;>rfl
 ·simp;rfl

theorem aQs {w:den tNw} {r:Int} {p:den tPk} (hk3:(p.1==2)=false) (hF: ∀ f∈aB w,tot tFl f<=1073741824) (hl:(aB w).length<=1073741824) (hp:tot tPk p<=1073741824) (hb:fY p):mQ w r p=some (cA (tQ w r p)):=by
 unfold mQ ixb aI pj9 zz4 zz5 zz6 zz7 zz8
 refine aQq (fun k (a:lFl)=>((k:Int),a)) (aB w) (oA r p) (fun l=>cA (cT w l)) (bWv hl (by decide)) (fun k f a ha hx hm hk hd hw=> ?_) (fun a ha=> ?_)
 ·obtain ⟨d1,d2⟩:=aL7 ha hk
  simp only [d1,d2,fG,bW4,hx,zZ,aA,aM,bP2 (hF f hm) hp hb,aV,bK,bA,aZ,bD,hw]
  unfold oA
  rw [hk3]
  cases f.1==r
  ·simp only [zY,bW2,zU,aA,aJt hx]
  ·simp only [zZ,zV,aA,bW2,zU]
   rfl
 ·show cond (decide ((((aB w).length:Nat):Int)<(a.length:Int))) _ _=_
  rw [ha,zW (by omega)]
  rfl

theorem bFo {w:den tNw} {r:Int} {p:den tPk} (hk2:(p.1==2)=true) (hF: ∀ f∈aB w,tot tFl f<=1073741824) (hl:(aB w).length<=1073741824) {step:Int×lFl→Option ((Int×lFl)⊕_)}
  (hs: ∀ (k:Nat) (f:den tFl) (a:lFl),a.length=(aB w).length→a[k]? =some f→f∈aB w→k<(aB w).length→step ((k:Int),a)=some (.inl (((k+1:Nat):Int),a.set k (oA r p f)))) (he: ∀ a,a.length=(aB w).length→step (((aB w).length:Int),a)=some (.inr (cA (cT w a)))):aC step ((0:Int),aB w)=some (cA (tQ w r p)):=
 aQq (fun k (a:lFl)=>((k:Int),a)) (aB w) (oA r p) (fun l=>cA (cT w l)) (bWv hl (by decide)) (fun k f a ha hx hm hk hd hw=>hs k f a ha hx hm hk) (fun a ha=>he a ha)

theorem aLq (p:den tPk):goTo p p.2.2.2.2.1 p.2.2.2.2.2.1 p.2.2.2.2.2.2.1=p:=rfl

theorem aHd (t:den tTo) (p:den tPk): ∃ b,aT t p=goTo p p.2.2.2.2.1 p.2.2.2.2.2.1 b:=by
 unfold aT
 split
 ·exact ⟨_,rfl⟩
 ·exact ⟨_,(aLq p).symm⟩

theorem aUr (p:den tPk): ∃ i j b,adv p=goTo p i j b:=by
 unfold adv
 split
 ·exact ⟨_,_,_,(aLq p).symm⟩
 ·split<;>exact ⟨_,_,_,rfl⟩

theorem aV7 {t:den tTo} {now:Int}: ∀ (n:Nat) (p:den tPk),∃ i j b,(goC t now n p).2=goTo p i j b
 | 0,p=>by obtain ⟨b,hb⟩:=aHd t p;exact ⟨_,_,_,hb⟩
 | n+1,p=>by
  obtain ⟨b,hb⟩:=aHd t p
  unfold goC
  split
  ·obtain ⟨i,j,c,h1⟩:=aV7 (t:=t) (now:=now) n (adv (aT t p))
   obtain ⟨i',j',c',h2⟩:=aUr (aT t p)
   rw [h1,h2,hb]
   exact ⟨_,_,_,rfl⟩
  ·exact ⟨_,_,_,hb⟩

theorem aNe (t:den tTo) (r now dead inn:Int) (p:den tPk): ∃ i j b,(fwd t r now dead inn p).2.2.1=goTo p i j b:=by
 obtain ⟨i,j,b,h⟩: ∃ i j b,(bQ t now p).2=goTo p i j b:=aV7 _ p
 unfold fwd
 repeat' split
 all_goals first
  | exact ⟨_,_,_,(aLq p).symm⟩
  | exact ⟨_,_,_,h⟩
  | (obtain ⟨i',j',b',h'⟩:=aUr (bQ t now p).2;exact ⟨_,_,_,by rw [show (0,pEg (bO (bQ t now p).2) (cU (bQ t now p).2),adv (bQ t now p).2,pEg (bO (bQ t now p).2) (cU (bQ t now p).2)).2.2.1=adv (bQ t now p).2 from rfl,h',h];rfl⟩)


theorem aD0 (t:den tTo) (r now dead inn:Int) (p:den tPk):(fwd t r now dead inn p).2.2.1.1=p.1∧(fwd t r now dead inn p).2.2.1.2.1=p.2.1∧(fwd t r now dead inn p).2.2.1.2.2.2.2.2.2.2.1=p.2.2.2.2.2.2.2.1∧(fwd t r now dead inn p).2.2.1.2.2.2.2.2.2.2.2.2=p.2.2.2.2.2.2.2.2.2:=by
 obtain ⟨i,j,b,h⟩:=aNe t r now dead inn p
 rw [h]
 exact ⟨rfl,rfl,rfl,rfl⟩

theorem aKt {t:den tTo} {r now dead inn:Int} {p:den tPk} (h:((fwd t r now dead inn p).1==2)=false):gP p=true:=by
 cases hv:gP p with
 | true=>rfl
 | false=>
  unfold fwd at h
  rw [hv] at h
  cases h

def zO (w:den tNw):den tNw:=(nT w,nK w,nG w,aN w,aJ w,aR w,aB w,aU w,wr (dW w+1))

def oX (w:den tNw) (r eg:Int) (p:den tPk):den tNw:=
 if (rN (nG w) p.2.2.2.2.2.2.2.1 r eg (aN w)).2.1&&decide ((aR w).length<150) then
  (nT w,nK w,((rN (nG w) p.2.2.2.2.2.2.2.1 r eg (aN w)).1,(rN (nG w) p.2.2.2.2.2.2.2.1 r eg (aN w)).2.2.1,(rN (nG w) p.2.2.2.2.2.2.2.1 r eg (aN w)).2.2.2),aN w,aJ w,aR w++[((remote (nT w) r eg).1,(remote (nT w) r eg).2,p)],aB w,aU w,dW w)
 else zO w


structure aAu (w:den tNw):Prop where
 as:(nT w).1.length<=68719476736
 links:(nT w).2.length<=1073741824
 dead:(aJ w).length<=68719476736
 res:(nG w).2.1.length<=1073741824
 use:(nG w).2.2.length<=1073741824
 flowsN:(aB w).length<=1073741824
 flows: ∀ f∈aB w,tot tFl f<=1073741824

theorem aY1 {w:den tNw} {r:Int} {v:den aVc} (h:aAu w):kL w r v=some (cA (oX w r v.2.1 v.2.2)):=by
 unfold kL oX aI pj2 pj3 zz4 zz5 zz6 zz7 zz8 zz9
 simp only [aM,bPx h.res h.use,aA,aV,bK,bA,aZ,bD]
 have key: ∀ n:Nat,decide ((n:Int)>=150)= !decide (n<150):=fun n=>by rw [bXl];simp only [zR,bXx,decide_eq_false_iff_not];omega
 have h150:decide ((w.2.2.2.2.2.1.length:Int)>=150)= !decide ((aR w).length<150):=key _
 rw [h150]
 cases ct:(rN (nG w) v.2.2.2.2.2.2.2.2.2.1 r v.2.1 (aN w)).2.1
 ·simp only [bW7,zZ,aA,bXj,bW2,zU]
  rfl
 ·by_cases hl:(aR w).length<150
  ·rw [zX hl]
   simp only [bWx,zY,aA,bZh,zV,aXi (t:=w.1) (bWv h.links (by decide)),aD (b:=128) (n:=w.2.2.2.2.2.1.length) (m:=1) (by decide) (show (aR w).length+1<=_ by omega),zZ]
   rfl
  ·rw [zW hl]
   simp only [bWx,bW7,zZ,zY,aA,bYr,bW2,zU]
   rfl

def proc0 (w:den tNw) (r inn:Int) (p:den tPk):den tNw:=
 if (bS (nT w) (aN w) (aJ w) r inn p).1==0 then oX w r (bS (nT w) (aN w) (aJ w) r inn p).2.1 (bS (nT w) (aN w) (aJ w) r inn p).2.2.1
 else if (bS (nT w) (aN w) (aJ w) r inn p).1==1 then tQ w r (bS (nT w) (aN w) (aJ w) r inn p).2.2.1
 else zO w


structure aA7 (p:den tPk):Prop where
 sz:tot tPk p<=1073741824
 by_:fY p

theorem aA7.step {p:den tPk} (h:aA7 p) (t:den tTo) (now:Int) (dead:List Int) (r inn:Int):aA7 (bS t now dead r inn p).2.2.1 where
 sz:=by unfold bS;rw [aL3];exact h.sz
 by_:=fun x hx=>h.by_ x (by unfold bS at hx;rwa [(aD0 t r now _ inn p).2.2.2] at hx)

theorem aR5 {w:den tNw} {r inn:Int} {p:den tPk} (h:aAu w) (hp:aA7 p) (hk:(p.1==1)=false):dY w r inn p=some (cA (proc0 w r inn p)):=by
 have hp2:tot tPt p.2.2.2.1<=1073741824:=aH0 hp.sz
 have hs:=hp.step (nT w) (aN w) (aJ w) r inn
 unfold dY bW.b ixb aI jF pj2 pj3 pj4 eY aW bR bT zz4 zz5 zz6 zz7 zz8 zz9
 simp only [aM,aYq h.links h.dead,bMj h.as (bWv h.links (by decide)) (bWv hp.sz (by decide)) hp2,aA,aV,bK,bA,aZ,bD,hk]
 rw [show fwd w.1 r w.2.2.2.1 (rQ w.1 w.2.2.2.2.1 r) inn p=bS (nT w) (aN w) (aJ w) r inn p from rfl]
 unfold proc0
 generalize bS (nT w) (aN w) (aJ w) r inn p=v at hs
 simp only [fwI,aM]
 cases c0:v.1==0
 ·cases c1:v.1==1
  ·cases v.1==7
   ·simp only [zY,aA,bW2,zU];rfl
   ·simp only [zZ,zY,aA,bW2,zU];rfl
  ·simp only [zZ,zY,aA,bW2,zU,zV,aQw h.flows h.flowsN hs.sz hs.by_]
 ·simp only [zZ,zV,aY1 h,aA]

theorem aW3: ∀ (k n:Nat),n<128 ^ (k+1)→ ∀ x∈vi k n,0<=x∧x<=255
 | 0,n,h,x,hx=>by
  have :x=(n:Int):=by simpa [vi] using hx
  subst this
  have :128 ^ (0+1)=128:=rfl
  omega
 | k+1,n,h,x,hx=>by
  unfold vi at hx
  split at hx
  ·have :x=(n:Int):=by simpa using hx
   subst this
   omega
  ·rcases List.mem_cons.1 hx with rfl | hx
   ·omega
   ·refine aW3 k (n / 128) ?_ x hx
    rw [Nat.div_lt_iff_lt_mul (by decide)]
    rwa [← Nat.pow_succ]

def tG (l:List Int):Prop:= ∀ x∈l,0<=x∧x<=255

theorem bA3 {b:List Int} {n:Int} (h:tG b):tG (aA3 b n):=by
 unfold aA3
 split
 ·rename_i hr
  have :=bJ.1 hr
  intro x hx
  rcases bW5.1 hx with hx | hx
  ·exact h x hx
  ·exact aW3 5 n.toNat (by have :128 ^ (5+1)=4398046511104:=rfl;omega) x hx
 ·exact h

theorem aOk: ∀ (l b:List Int),tG b→tG (aIa b l)
 | [],b,h=>h
 | x::xs,b,h=>aOk xs (aA3 b x) (bA3 h)

theorem aPk (x:den tRv):tG (aFy x):=by
 unfold aFy
 split
 ·exact aOk _ _ (fun x hx=>by cases hx)
 ·exact fun x hx=>by cases hx

theorem aZe {r now d:Int} {p:den tPk} (h:tot tPk p<=536870912):aA7 (cB r now d p) where
 sz:=by have :=aR9 r now d p;omega
 by_:=aPk _

theorem aOd {x:den tIb} {p:den tPk} (h:aA7 p):aA7 (nB x p) where
 sz:=bWv (aS0 x p) h.sz
 by_:=by
  unfold nB
  split
  ·exact fun x hx=>by cases hx
  ·exact fun x hx=>by cases hx

theorem bQf {l:lIb} {a b:Int} (h:l.length<=68719476736):pO l a b=some (mL l a b):=by
 unfold pO mL
 rw [aX (l:=l) (fun k x=>if wC a b x then some (k:Int) else none) (by omega) (fun k x hi hd hw hm hk=>by
  simp only [hd,hi,hw,zZ,aA]
  unfold wC
  cases x.1==a<;>cases x.2.1==b<;>rfl) (by simp),aLn (wC a b)]
 cases l.findIdx? (wC a b)<;>rfl

theorem aFv (l:lIb) (a b:Int):mL l a b= -1∨ ∃ (k:Nat) (x:den tIb),mL l a b=(k:Int)∧l[k]? =some x:=by
 unfold mL
 cases h:l.findIdx? (wC a b) with
 | none=>exact .inl rfl
 | some i=>
  have hlt:i<l.length:=by
   have :=List.findIdx?_eq_some_iff_findIdx_eq.1 h
   exact this.1
  exact .inr ⟨i,l[i],by simp,bWu hlt⟩

def pB (w:den tNw) (i:Nat) (x:den tIb):den tNw:=(nT w,nK w,nG w,aN w,aJ w,aR w,aB w,(aU w).set i x,dW w)

def vT (w:den tNw) (i:Nat):den tIb:=((aU w)[i]?).getD (0,0,0,[])


def xS (w:den tNw) (r:Int) (p:den tPk):den tNw:=
 if mL (aU w) r p.2.1<0 then w
 else if aCh (dE (vT w (mL (aU w) r p.2.1).toNat) p) p then
  proc0 (pB w (mL (aU w) r p.2.1).toNat (dE (vT w (mL (aU w) r p.2.1).toNat) p)) r 0 (nB (dE (vT w (mL (aU w) r p.2.1).toNat) p) p)
 else pB w (mL (aU w) r p.2.1).toNat (dE (vT w (mL (aU w) r p.2.1).toNat) p)

def aB8 (w:den tNw) (r d:Int) (p:den tPk):den tNw:=
 zO (if (gT (rP p)).length>1 then proc0 w r 0 (cB r (aN w) d p) else tQ w r (cB r (aN w) d p))

def fC (w:den tNw) (r inn:Int) (p:den tPk):den tNw:=
 if (bS (nT w) (aN w) (aJ w) r inn p).1==0 then oX w r (bS (nT w) (aN w) (aJ w) r inn p).2.1 (bS (nT w) (aN w) (aJ w) r inn p).2.2.1
 else if (bS (nT w) (aN w) (aJ w) r inn p).1==1 then
  (if p.1==1 then xS w r (bS (nT w) (aN w) (aJ w) r inn p).2.2.1 else tQ w r (bS (nT w) (aN w) (aJ w) r inn p).2.2.1)
 else if (bS (nT w) (aN w) (aJ w) r inn p).1==7&&p.1==1 then aB8 w r (bS (nT w) (aN w) (aJ w) r inn p).2.2.2 p
 else zO w

theorem aGq {w:den tNw} (h:aAu w) {i:Nat} {x:den tIb}:aAu (pB w i x):=⟨h.as,h.links,h.dead,h.res,h.use,h.flowsN,h.flows⟩

theorem aPr {x:den tIb} {p:den tPk} (h:aCh x p=true):((nB x p).1==1)=false:=by
 unfold nB
 rw [h]
 rfl

theorem aY6 {w:den tNw} {r inn:Int} {p:den tPk} (h:aAu w) (hbn:(aU w).length<=68719476736) (hbx: ∀ x∈aU w,tot tIb x<=1073741824) (hz:tot tPk p<=536870912) (hb:fY p):bW w r inn p=some (cA (fC w r inn p)):=by
 have hp:aA7 p:=⟨by omega,hb⟩
 have hp2:tot tPt p.2.2.2.1<=1073741824:=aH0 hp.sz
 have hs:=hp.step (nT w) (aN w) (aJ w) r inn
 have hkeep:=aD0 w.1 r w.2.2.2.1 (rQ w.1 w.2.2.2.2.1 r) inn p
 unfold bW bW.b ixb aI jF pj2 pj3 pj4 eY aW bR bT zz4 zz5 zz6 zz7 zz8 zz9
 simp only [aM,aYq h.links h.dead,bMj h.as (bWv h.links (by decide)) (bWv hp.sz (by decide)) hp2,aA,aV,bK,bA,aZ,bD]
 rw [show fwd w.1 r w.2.2.2.1 (rQ w.1 w.2.2.2.2.1 r) inn p=bS (nT w) (aN w) (aJ w) r inn p from rfl] at hkeep ⊢
 unfold fC
 generalize bS (nT w) (aN w) (aJ w) r inn p=v at hs hkeep
 simp only [fwI,aM]
 cases c0:v.1==0
 ·cases c1:v.1==1
  ·cases c7:v.1==7
   ·simp only [zY,aA,bW2,zU,bXj];rfl
   ·cases ck:p.1==1
    ·simp only [zZ,zY,aA,bW2,zU,bYr];rfl
    ·have hn:aA7 (cB r (aN w) v.2.2.2 p):=aZe hz
     have ht1:tot tPt (rP p)<=34359738368:=bWv (aB1 p) (bWv hp2 (by decide))
     have hlen:decide (((gT (rP p)).length:Int)>1)=decide ((gT (rP p)).length>1):=by rw [bXl];simp only [zR,gt_iff_lt];omega
     have e1:dY w r 0 ((pkR (cB r w.2.2.2.1 v.2.2.2 p)).1,(pkR (cB r w.2.2.2.1 v.2.2.2 p)).2.1,(pkR (cB r w.2.2.2.1 v.2.2.2 p)).2.2.1,(pkR (cB r w.2.2.2.1 v.2.2.2 p)).2.2.2.2.2.2.2.2.1,(pkR (cB r w.2.2.2.1 v.2.2.2 p)).2.2.2.1,(pkR (cB r w.2.2.2.1 v.2.2.2 p)).2.2.2.2.1,(pkR (cB r w.2.2.2.1 v.2.2.2 p)).2.2.2.2.2.1,(pkR (cB r w.2.2.2.1 v.2.2.2 p)).2.2.2.2.2.2.1,(pkR (cB r w.2.2.2.1 v.2.2.2 p)).2.2.2.2.2.2.2.1,(pkR (cB r w.2.2.2.1 v.2.2.2 p)).2.2.2.2.2.2.2.2.2)=some (cA (proc0 w r 0 (cB r (aN w) v.2.2.2 p))):=aR5 h hn rfl
     have e2:gL w r ((pkR (cB r w.2.2.2.1 v.2.2.2 p)).1,(pkR (cB r w.2.2.2.1 v.2.2.2 p)).2.1,(pkR (cB r w.2.2.2.1 v.2.2.2 p)).2.2.1,(pkR (cB r w.2.2.2.1 v.2.2.2 p)).2.2.2.2.2.2.2.2.1,(pkR (cB r w.2.2.2.1 v.2.2.2 p)).2.2.2.1,(pkR (cB r w.2.2.2.1 v.2.2.2 p)).2.2.2.2.1,(pkR (cB r w.2.2.2.1 v.2.2.2 p)).2.2.2.2.2.1,(pkR (cB r w.2.2.2.1 v.2.2.2 p)).2.2.2.2.2.2.1,(pkR (cB r w.2.2.2.1 v.2.2.2 p)).2.2.2.2.2.2.2.1,(pkR (cB r w.2.2.2.1 v.2.2.2 p)).2.2.2.2.2.2.2.2.2)=some (cA (tQ w r (cB r (aN w) v.2.2.2 p))):=aQw h.flows h.flowsN hn.sz hn.by_
     simp only [zZ,zY,aA,bW2,zU,bZh,zV,bPb (t:=w.1) (r:=r) (now:=w.2.2.2.1) (d:=v.2.2.2) (bWv hp.sz (by decide)),aW6 (fW (p:=p) (by omega)),aV,bK,bA,aZ,bD]
     unfold jR
     simp only [aRw ht1,aA,hlen,e1,e2]
     unfold aB8
     cases hd:decide ((gT (rP p)).length>1)
     ·rw [zS (of_decide_eq_false hd)];rfl
     ·rw [zT (of_decide_eq_true hd)];rfl
  ·cases ck:p.1==1
   ·simp only [zZ,zY,aA,bW2,zU,zV,aQw h.flows h.flowsN hs.sz hs.by_]
   ·simp only [zZ,zY,aA,bW2,zU,zV,bQf hbn]
    unfold xS
    rw [hkeep.2.1]
    rcases aFv (aU w) r p.2.1 with hf | ⟨k,x,hf,hx⟩
    ·rw [show mL w.2.2.2.2.2.2.2.1 r p.2.1= -1 from hf]
     rfl
    ·have hlt:=(bW1.1 hx).1
     have hx0:w.2.2.2.2.2.2.2.1[k]? =some x:=hx
     have hxm:=hbx x (bW6 hx)
     have hxs:SmB 4294967296 tIb x:=(bG hxm).mono (by decide)
     have hvs:SmB 4294967296 tPk v.2.2.1:=(bG hs.sz).mono (by decide)
     have hd1:decide ((k:Int)<(w.2.2.2.2.2.2.2.1.length:Int))=true:=zX (by have :k<w.2.2.2.2.2.2.2.1.length:=hlt;omega)
     have hd2:decide (k<w.2.2.2.2.2.2.2.1.length)=true:=zX hlt
     have hset:(w.2.2.2.2.2.2.2.1.set k (dE x v.2.2.1))[k]? =some (dE x v.2.2.1):=List.getElem?_set_self hlt
     have hba:vT w k=x:=by unfold vT;rw [hx];rfl
     rw [show mL w.2.2.2.2.2.2.2.1 r p.2.1=(k:Int) from hf,zW (show ¬ (k:Int)<0 by omega),zS (show ¬ (k:Int)<0 by omega),bW4,hba]
     have e1:dY (w.1,w.2.1,w.2.2.1,w.2.2.2.1,w.2.2.2.2.1,w.2.2.2.2.2.1,w.2.2.2.2.2.2.1,w.2.2.2.2.2.2.2.1.set k (dE x v.2.2.1),w.2.2.2.2.2.2.2.2) r 0 (nB (dE x v.2.2.1) v.2.2.1)=some (cA (proc0 (pB w k (dE x v.2.2.1)) r 0 (nB (dE x v.2.2.1) v.2.2.1))):=by
      cases ca:aCh (dE x v.2.2.1) v.2.2.1 with
      | true=>exact aR5 (aGq h) (aOd hs) (aPr ca)
      | false=>exact aR5 (aGq h) (aOd hs) (by unfold nB;rw [ca];rfl)
     simp only [zY,fG,hd1,hd2,zZ,hx0,aA,bQ0 hxs hvs,List.length_set,hset,bP4 (x:=dE x v.2.2.1) (p:=v.2.2.1) (bWv (aH0 hs.sz) (by decide)),aV,bK,bA,aZ,bD,pkB,aM,e1]
     cases aCh (dE x v.2.2.1) v.2.2.1<;>rfl
 ·simp only [zZ,zV,aY1 h,aA]

def zN (p q:den tPk):Prop:=p.2.2.2.1=q.2.2.2.1∧p.2.2.2.2.1=q.2.2.2.2.1∧p.2.2.2.2.2.1=q.2.2.2.2.2.1

theorem zN.cur {p q:den tPk} (h:zN p q):cH p=cH q∧cW p=cW q∧bO p=bO q∧cU p=cU q∧dL p=dL q∧fX p=fX q:=by
 obtain ⟨h1,h2,h3⟩:=h
 have a1:cH p=cH q:=by unfold cH;rw [h1,h2,h3]
 have a2:cW p=cW q:=by unfold cW;rw [a1,h1,h2,h3]
 have a3:bO p=bO q:=by unfold bO;rw [h1,h2]
 have a4:cU p=cU q:=by unfold cU;rw [a3,h3]
 have a5:dL p=dL q:=by unfold dL;rw [a3,h3]
 exact ⟨a1,a2,a3,a4,a5,by unfold fX aFx;rw [a2,a5,h1,h2]⟩

theorem zN.adv {p q:den tPk} (h:zN p q):zN (adv p) (adv q):=by
 obtain ⟨a1,a2,a3,a4,a5,a6⟩:=h.cur
 obtain ⟨h1,h2,h3⟩:=id h
 unfold Go.Proofs.YtecighmpdcffcaaGreat.adv
 rw [a2,a5,a6]
 split
 ·exact h
 ·split
  ·exact ⟨h1,by show p.2.2.2.2.1+1=q.2.2.2.2.1+1;rw [h2],rfl⟩
  ·exact ⟨h1,h2,by show p.2.2.2.2.2.1+1=q.2.2.2.2.2.1+1;rw [h3]⟩

theorem sF (t:den tTo) (p:den tPk):zN (aT t p) p:=by
 obtain ⟨b,hb⟩:=aHd t p
 rw [hb]
 exact ⟨rfl,rfl,rfl⟩

theorem zN.trans {p q r:den tPk} (h:zN p q) (k:zN q r):zN p r:=⟨h.1.trans k.1,h.2.1.trans k.2.1,h.2.2.trans k.2.2⟩

theorem aKd {t:den tTo} {now:Int} {n:Nat} {p:den tPk} (h:(goC t now n p).1=0):dC t now p=0:=by
 cases n with
 | zero=>exact h
 | succ n=>
  unfold goC at h
  split at h
  ·rename_i hc
   rw [bWw] at hc
   simpa using hc.1
  ·exact h

theorem bEb {t:den tTo} {now:Int} {step:den tPk→Option (den tPk⊕den tPk)}
  (H: ∀ q,tot tPk q<=34359738368→cH q=true→step q=some (if dL q&&decide (q.2.2.2.2.1<(q.2.2.2.1.length:Int) - 1) then .inl (adv q) else .inr q)):
  ∀ (n:Nat) (p q:den tPk),zN p q→tot tPk q<=34359738368→(goC t now n p).1=0→p.2.2.2.1.length - p.2.2.2.2.1.toNat<=n→ ∃ r,aC step q=some r∧zN (goC t now n p).2 r∧tot tPk r<=34359738368:=by
 intro n
 induction n with
 | zero=>
  intro p q hs hq hc hm
  obtain ⟨hh,h0⟩:=zI (aKd hc)
  obtain ⟨i,j,h1,h2,h3,h4,h5⟩:=gO hh
  have hlt:=(bW1.1 h3).1
  rw [h1,bW4] at hm
  exact absurd hlt (by omega)
 | succ n ih=>
  intro p q hs hq hc hm
  have hz:=aKd hc
  obtain ⟨hh,h0⟩:=zI hz
  obtain ⟨a1,a2,a3,a4,a5,a6⟩:=hs.cur
  obtain ⟨b1,b2,b3,b4,b5,b6⟩:=(sF t p).cur
  have hstep:=H q hq (a1▸hh)
  rw [aXa (a1▸hh) (a2▸h0)] at hstep
  cases hb:dL q&& !fX q with
  | false=>
   rw [hb] at hstep
   have hg:goC t now (n+1) p=(dC t now p,aT t p):=by
    show (if _ then _ else _)=_
    rw [b5,b6,a5,a6,hb,bYr];rfl
   rw [hg]
   exact ⟨q,bX hstep,(sF t p).trans hs,hq⟩
  | true=>
   rw [hb,zT rfl] at hstep
   have hg:goC t now (n+1) p=goC t now n (adv (aT t p)):=by
    show (if _ then _ else _)=_
    rw [b5,b6,a5,a6,hb,hz];rfl
   rw [hg] at hc ⊢
   rw [dS hstep]
   obtain ⟨e1,e2⟩:=aXg (p:=aT t p) (by rw [b2];exact h0) (by rw [b5,b6,a5,a6];exact hb)
   obtain ⟨i,j,h1,h2,h3,h4,h5⟩:=gO hh
   refine ih _ _ ((sF t p).trans hs).adv (by rw [aE0];exact hq) hc ?_
   rw [e1,e2,(sF t p).1,(sF t p).2.1,h1]
   rw [h1,bW4] at hm
   have :((i:Int)+1).toNat=i+1:=by omega
   rw [this]
   omega

def bBm (t:den tTo) (now:Int) (p:den tPk):Int:=pEg (bO (bQ t now p).2) (cU (bQ t now p).2)

theorem bQ4 {t:den tTo} {now:Int} {p:den tPk} (h:tot tPk p<=34359738368) (hz:(bQ t now p).1=0):sN p=some (bBm t now p):=by
 unfold sN aI pj4 zz4 zz5 zz6 zz7 zz8 zz9
 obtain ⟨r,hr,hs,ht⟩:=bEb (t:=t) (now:=now) (step:=fun s5=> @Option.bind Bool _ (Option.bind (idx s5.2.2.2.1 s5.2.2.2.2.1) fun x6=>cond (s5.2.2.2.2.2.1==(wr ((x6.2.2.2.length:Int) - (1:Int)))) (some (decide (s5.2.2.2.2.1<(wr ((s5.2.2.2.1.length:Int) - (1:Int)))))) (some false)) fun (s7:Bool)=>cond s7 (Option.bind (gJ (s5.1,s5.2.1,s5.2.2.1,s5.2.2.2.1,s5.2.2.2.2.1,s5.2.2.2.2.2.1,s5.2.2.2.2.2.2.1,s5.2.2.2.2.2.2.2.1,s5.2.2.2.2.2.2.2.2.1,s5.2.2.2.2.2.2.2.2.2)) fun y8=>some (bWt (y8.1,y8.2.1,y8.2.2.1,y8.2.2.2.2.2.2.2.2.1,y8.2.2.2.1,y8.2.2.2.2.1,y8.2.2.2.2.2.1,y8.2.2.2.2.2.2.1,y8.2.2.2.2.2.2.2.1,y8.2.2.2.2.2.2.2.2.2))) (some (bWs (s5.1,s5.2.1,s5.2.2.1,s5.2.2.2.1,s5.2.2.2.2.1,s5.2.2.2.2.2.1,s5.2.2.2.2.2.2.1,s5.2.2.2.2.2.2.2.1,s5.2.2.2.2.2.2.2.2.1,s5.2.2.2.2.2.2.2.2.2)))) (fun q hq hh=>by
   obtain ⟨i,j,k1,k2,k3,k4,k5⟩:=gO hh
   have l1:bW9 q.2.2.2.1<=68719476736:=(fW hq).2.2.2.1.1
   have hp1:idx q.2.2.2.1 q.2.2.2.2.1=some (bO q):=by rw [k1,aH];exact k3
   simp only [hp1,aA,jO (yU (fW hq) k3),jO l1,aM,bBf (fW hq)]
   unfold dL
   cases q.2.2.2.2.2.1==((bO q).2.2.2.length:Int) - 1<;>cases decide (q.2.2.2.2.1<(q.2.2.2.1.length:Int) - 1)<;>rfl) _ p p ⟨rfl,rfl,rfl⟩ h hz (bXb _)
 have hs:zN (bQ t now p).2 r:=hs
 have hr':aC _ (p.1,p.2.1,p.2.2.1,p.2.2.2.1,p.2.2.2.2.1,p.2.2.2.2.2.1,p.2.2.2.2.2.2.1,p.2.2.2.2.2.2.2.1,p.2.2.2.2.2.2.2.2.1,p.2.2.2.2.2.2.2.2.2)=some r:=hr
 rw [hr',aA]
 obtain ⟨a1,a2,a3,a4,a5,a6⟩:=hs.cur
 obtain ⟨g1,g2,g3⟩:=aFj _ p hz
 have g1:cH r=true:=a1▸g1
 obtain ⟨i,j,k1,k2,k3,k4,k5⟩:=gO g1
 have hp1:idx r.2.2.2.1 r.2.2.2.2.1=some (bO r):=by rw [k1,aH];exact k3
 have hp2:dH (bO r) r.2.2.2.2.2.1=some (pEg (bO r) (cU r)):=by rw [k2];exact aUo k4 (yU (fW ht) k3)
 rw [hp1,aA]
 simp only [aM,hp2,aA]
 unfold bBm
 rw [a3,a4]

theorem bG7 {t:den tTo} {now:Int}: ∀ (n:Nat) (p:den tPk),(goC t now n p).1<=5
 | 0,p=>by
  show dC t now p<=5
  unfold dC
  repeat' split
  all_goals decide
 | n+1,p=>by
  unfold goC
  split
  ·exact bG7 n _
  ·show dC t now p<=5
   unfold dC
   repeat' split
   all_goals decide

theorem bGm {t:den tTo} {r now dead inn:Int} {p:den tPk} (h:(fwd t r now dead inn p).1=7):(bQ t now p).1=0∧(fwd t r now dead inn p).2.2.2=bBm t now p:=by
 have hg:(bQ t now p).1<=5:=bG7 _ p
 unfold fwd at h ⊢
 split at h
 ·cases h
 ·rename_i c1
  rw [zS c1]
  split at h
  ·cases h
  ·rename_i c2
   rw [zS c2]
   split at h
   ·simp only at h;omega
   ·rename_i c3
    rw [zS c3]
    refine ⟨by simpa using c3,?_⟩
    split at h
    ·split at h<;>cases h
    ·rename_i c4
     rw [zS c4]
     split at h
     ·cases h
     ·rename_i c5
      rw [zS c5]
      split at h
      ·rename_i c6
       rw [zT c6]
       rfl
      ·cases h

theorem kinds {p:den tPk} (h:gP p=true) (h1:(p.1==1)=false) (h2:(p.1==2)=false):(p.1==3)=true:=by
 unfold gP at h
 rw [bWw] at h
 have hr:=bJ.1 h.1
 have h1: ¬ p.1=(1:Int):=by simpa using h1
 have h2: ¬ p.1=(2:Int):=by simpa using h2
 have key: ∀ c:Int,1<=c→c<=3→ ¬ c=1→ ¬ c=2→c=3:=by intro c;omega
 have :p.1=(3:Int):=key p.1 hr.1 hr.2 h1 h2
 rw [this];rfl

theorem bPu {w:den tNw} {r:Int} {p:den tPk} (h:aAu w) (hp:aA7 p) (hk:(p.1==1)=false) (hv:(p.1==2)=false→(p.1==3)=true):rZ w r p=some (cA (tQ w r p)):=by
 unfold rZ jC.b ixb aI jF pj2 pj3 pj4 pj9 eY aW zz4 zz5 zz6 zz7 zz8 zz9
 rw [hk,zY]
 cases h2:p.1==2 with
 | true=>
  rw [zZ]
  refine bFo (w:=w) (r:=r) (p:=p) h2 h.flows h.flowsN (fun k f a ha hx hm hk'=> ?_) (fun a ha=> ?_)
  ·obtain ⟨d1,d2⟩:=aL7 ha hk'
   have hw:wr ((k:Int)+1)=((k+1:Nat):Int):=(wri (by have :=h.flowsN;omega) (by have :=h.flowsN;omega)).trans (by omega)
   simp only [d1,d2,fG,bW4,hx,zZ,aA,aM,aZc (aRc (h.flows f hm)),aV,bK,bA,aZ,bD,hw]
   unfold oA
   rw [h2]
   cases f.1==r
   ·simp only [zY,bW2,zU,aA,aJt hx]
   ·simp only [zZ,zV,aA]
    rfl
  ·show cond (decide ((((aB w).length:Nat):Int)<(a.length:Int))) _ _=_
   rw [ha,zW (by omega)]
   rfl
 | false=>
  rw [zY,hv h2,zZ]
  simp only [aM,aQs h2 h.flows h.flowsN hp.sz hp.by_,aA]

theorem bSb {w:den tNw} {r:Int} {p:den tPk} (h:aAu w) (hp:aA7 p) (hk:(p.1==1)=false) (hv:(p.1==2)=false→(p.1==3)=true):jC w r p=some (cA (tQ w r p)):=by
 unfold jC jC.b ixb aI jF pj2 pj3 pj4 pj9 eY aW zz4 zz5 zz6 zz7 zz8 zz9
 rw [hk,zY]
 cases h2:p.1==2 with
 | true=>
  rw [zZ]
  refine bFo (w:=w) (r:=r) (p:=p) h2 h.flows h.flowsN (fun k f a ha hx hm hk'=> ?_) (fun a ha=> ?_)
  ·obtain ⟨d1,d2⟩:=aL7 ha hk'
   have hw:wr ((k:Int)+1)=((k+1:Nat):Int):=(wri (by have :=h.flowsN;omega) (by have :=h.flowsN;omega)).trans (by omega)
   simp only [d1,d2,fG,bW4,hx,zZ,aA,aM,aZc (aRc (h.flows f hm)),aV,bK,bA,aZ,bD,hw]
   unfold oA
   rw [h2]
   cases f.1==r
   ·simp only [zY,bW2,zU,aA,aJt hx]
   ·simp only [zZ,zV,aA]
    rfl
  ·show cond (decide ((((aB w).length:Nat):Int)<(a.length:Int))) _ _=_
   rw [ha,zW (by omega)]
   rfl
 | false=>
  rw [zY,hv h2,zZ]
  simp only [aM,aQs h2 h.flows h.flowsN hp.sz hp.by_,aA]

theorem aR1 {w:den tNw} {r inn:Int} {p:den tPk} (h:aAu w) (hp:aA7 p) (hk:(p.1==1)=false):gG w r inn p=some (cA (proc0 w r inn p)):=by
 have hp2:tot tPt p.2.2.2.1<=1073741824:=aH0 hp.sz
 have hs:=hp.step (nT w) (aN w) (aJ w) r inn
 have hkeep:=aD0 w.1 r w.2.2.2.1 (rQ w.1 w.2.2.2.2.1 r) inn p
 have hval:=aKt (t:=w.1) (r:=r) (now:=w.2.2.2.1) (dead:=rQ w.1 w.2.2.2.2.1 r) (inn:=inn) (p:=p)
 unfold gG dZ.b aI aCg jF pj2 pj3 eY aW bR bT zz4 zz5 zz6 zz7 zz8 zz9
 simp only [aM,aZ8 h.links h.dead,bL1 h.as (bWv h.links (by decide)) (bWv hp.sz (by decide)) hp2,aA,aV,bK,bA,aZ,bD,hk]
 rw [show fwd w.1 r w.2.2.2.1 (rQ w.1 w.2.2.2.2.1 r) inn p=bS (nT w) (aN w) (aJ w) r inn p from rfl] at hkeep hval ⊢
 unfold proc0
 generalize bS (nT w) (aN w) (aJ w) r inn p=v at hs hkeep hval
 have hback:(((fwS v).2.2.1,(fwS v).2.2.2.1,(fwS v).2.2.2.2.1,(fwS v).2.2.2.2.2.2.2.2.2.2.1,(fwS v).2.2.2.2.2.1,(fwS v).2.2.2.2.2.2.1,(fwS v).2.2.2.2.2.2.2.1,(fwS v).2.2.2.2.2.2.2.2.1,(fwS v).2.2.2.2.2.2.2.2.2.1,(fwS v).2.2.2.2.2.2.2.2.2.2.2):den tPk)=v.2.2.1:=rfl
 rw [show (fwS v).1=v.1 from rfl,show (fwS v).2.1=v.2.1 from rfl]
 cases c1:v.1==1
 ·cases c0:v.1==0
  ·cases c7:v.1==7
   ·simp only [zY,aA,bW2,zU,bX4];rfl
   ·simp only [zZ,zY,aA,bW2,zU,bX4];rfl
  ·unfold oX
   rw [hkeep.2.2.1]
   simp only [zZ,zY,zV,aFm (t:=w.1) (bWv h.links (by decide)),aYn h.res h.use,aA]
   cases ct:(rN w.2.2.1 p.2.2.2.2.2.2.2.1 r v.2.1 w.2.2.2.1).2.1
   ·simp only [zY,aA,bXj,bW2,zU,bX4];rfl
   ·by_cases hl:(aR w).length<150
    ·have h150:decide ((w.2.2.2.2.2.1.length:Int)<150)=true:=zX (by have :w.2.2.2.2.2.1.length<150:=hl;omega)
     rw [zX hl]
     simp only [zZ,aA,h150,bZh,zV,aD (b:=128) (n:=w.2.2.2.2.2.1.length) (m:=1) (by decide) (show (aR w).length+1<=_ by omega),bZf]
     rfl
    ·have h150:decide ((w.2.2.2.2.2.1.length:Int)<150)=false:=zW (by have : ¬ w.2.2.2.2.2.1.length<150:=hl;omega)
     rw [zW hl]
     simp only [zZ,zY,aA,h150,bYr,bW2,zU,bX4]
     rfl
 ·have c0:(v.1==0)=false:=by
   have :v.1=1:=by simpa using c1
   rw [this];rfl
  have hv:gP p=true:=hval (by rw [show v.1=1 from by simpa using c1];rfl)
  have hq1:(v.2.2.1.1==1)=false:=by rw [hkeep.1];exact hk
  have hq2:(v.2.2.1.1==2)=false→(v.2.2.1.1==3)=true:=by rw [hkeep.1];exact kinds hv hk
  rw [hback,bPu h hs hq1 hq2]
  simp only [c0,zZ,aA,bW2,zU,zV,bZf]

theorem bTr {w:den tNw} {r:Int} {p:den tPk} (h:aAu w) (hbn:(aU w).length<=68719476736) (hbx: ∀ x∈aU w,tot tIb x<=1073741824) (hp:aA7 p) (hk:(p.1==1)=true):jC w r p=some (cA (xS w r p)):=by
 unfold jC jC.b xS ixb aI jF pj2 pj3 pj4 pj9 eY aW zz4 zz5 zz6 zz7 zz8 zz9
 simp only [hk,zZ,bAh hbn,aA]
 rcases aFv (aU w) r p.2.1 with hf | ⟨k,x,hf,hx⟩
 ·rw [show mL w.2.2.2.2.2.2.2.1 r p.2.1= -1 from hf]
  rfl
 ·have hlt:=(bW1.1 hx).1
  have hx0:w.2.2.2.2.2.2.2.1[k]? =some x:=hx
  have hxm:=hbx x (bW6 hx)
  have hxs:SmB 4294967296 tIb x:=(bG hxm).mono (by decide)
  have hvs:SmB 4294967296 tPk p:=(bG hp.sz).mono (by decide)
  have hd1:decide ((k:Int)<(w.2.2.2.2.2.2.2.1.length:Int))=true:=zX (by have :k<w.2.2.2.2.2.2.2.1.length:=hlt;omega)
  have hd2:decide (k<w.2.2.2.2.2.2.2.1.length)=true:=zX hlt
  have hba:vT w k=x:=by unfold vT;rw [hx];rfl
  rw [show mL w.2.2.2.2.2.2.2.1 r p.2.1=(k:Int) from hf,zW (show ¬ (k:Int)<0 by omega),zS (show ¬ (k:Int)<0 by omega),bW4,hba]
  have e1:gG (w.1,w.2.1,w.2.2.1,w.2.2.2.1,w.2.2.2.2.1,w.2.2.2.2.2.1,w.2.2.2.2.2.2.1,w.2.2.2.2.2.2.2.1.set k (dE x p),w.2.2.2.2.2.2.2.2) r 0 (nB (dE x p) p)=some (cA (proc0 (pB w k (dE x p)) r 0 (nB (dE x p) p))):=by
   cases ca:aCh (dE x p) p with
   | true=>exact aR1 (aGq h) (aOd hp) (aPr ca)
   | false=>exact aR1 (aGq h) (aOd hp) (by unfold nB;rw [ca];rfl)
  simp only [zY,fG,hd1,hd2,zZ,hx0,aA,aM,bO6 hxs hvs,bQa (x:=dE x p) (p:=p) (bWv (aH0 hp.sz) (by decide)),aV,bK,bA,aZ,bD,pkB,e1]
  cases aCh (dE x p) p<;>rfl

theorem bAe {w:den tNw} {r inn:Int} {p:den tPk} (h:aAu w) (hbn:(aU w).length<=68719476736) (hbx: ∀ x∈aU w,tot tIb x<=1073741824) (hz:tot tPk p<=536870912) (hb:fY p):dZ w r inn p=some (cA (fC w r inn p)):=by
 have hp:aA7 p:=⟨by omega,hb⟩
 have hp2:tot tPt p.2.2.2.1<=1073741824:=aH0 hp.sz
 have hs:=hp.step (nT w) (aN w) (aJ w) r inn
 have hkeep:=aD0 w.1 r w.2.2.2.1 (rQ w.1 w.2.2.2.2.1 r) inn p
 have hval:=aKt (t:=w.1) (r:=r) (now:=w.2.2.2.1) (dead:=rQ w.1 w.2.2.2.2.1 r) (inn:=inn) (p:=p)
 have hsev:=bGm (t:=w.1) (r:=r) (now:=w.2.2.2.1) (dead:=rQ w.1 w.2.2.2.2.1 r) (inn:=inn) (p:=p)
 unfold dZ dZ.b aI aCg jF pj2 pj3 eY aW bR bT zz4 zz5 zz6 zz7 zz8 zz9
 simp only [aM,aZ8 h.links h.dead,bL1 h.as (bWv h.links (by decide)) (bWv hp.sz (by decide)) hp2,aA,aV,bK,bA,aZ,bD]
 rw [show fwd w.1 r w.2.2.2.1 (rQ w.1 w.2.2.2.2.1 r) inn p=bS (nT w) (aN w) (aJ w) r inn p from rfl] at hkeep hval hsev ⊢
 unfold fC
 generalize bS (nT w) (aN w) (aJ w) r inn p=v at hs hkeep hval hsev
 have hback:(((fwS v).2.2.1,(fwS v).2.2.2.1,(fwS v).2.2.2.2.1,(fwS v).2.2.2.2.2.2.2.2.2.2.1,(fwS v).2.2.2.2.2.1,(fwS v).2.2.2.2.2.2.1,(fwS v).2.2.2.2.2.2.2.1,(fwS v).2.2.2.2.2.2.2.2.1,(fwS v).2.2.2.2.2.2.2.2.2.1,(fwS v).2.2.2.2.2.2.2.2.2.2.2):den tPk)=v.2.2.1:=rfl
 rw [show (fwS v).1=v.1 from rfl,show (fwS v).2.1=v.2.1 from rfl]
 cases c1:v.1==1
 ·cases c0:v.1==0
  ·cases c7:v.1==7
   ·simp only [zY,aA,bW2,zU,bX4,bXj];rfl
   ·cases ck:p.1==1
    ·simp only [zZ,zY,aA,bW2,zU,bX4,bYr];rfl
    ·obtain ⟨hz0,hd0⟩:=hsev (by simpa using c7)
     have hn:aA7 (cB r (aN w) v.2.2.2 p):=aZe hz
     have ht1:tot tPt (rP p)<=34359738368:=bWv (aB1 p) (bWv hp2 (by decide))
     have hlen:decide (((gT (rP p)).length:Int)>1)=decide ((gT (rP p)).length>1):=by rw [bXl];simp only [zR,gt_iff_lt];omega
     have e1:gG w r 0 ((pkR (cB r w.2.2.2.1 v.2.2.2 p)).1,(pkR (cB r w.2.2.2.1 v.2.2.2 p)).2.1,(pkR (cB r w.2.2.2.1 v.2.2.2 p)).2.2.1,(pkR (cB r w.2.2.2.1 v.2.2.2 p)).2.2.2.2.2.2.2.2.1,(pkR (cB r w.2.2.2.1 v.2.2.2 p)).2.2.2.1,(pkR (cB r w.2.2.2.1 v.2.2.2 p)).2.2.2.2.1,(pkR (cB r w.2.2.2.1 v.2.2.2 p)).2.2.2.2.2.1,(pkR (cB r w.2.2.2.1 v.2.2.2 p)).2.2.2.2.2.2.1,(pkR (cB r w.2.2.2.1 v.2.2.2 p)).2.2.2.2.2.2.2.1,(pkR (cB r w.2.2.2.1 v.2.2.2 p)).2.2.2.2.2.2.2.2.2)=some (cA (proc0 w r 0 (cB r (aN w) v.2.2.2 p))):=aR1 h hn rfl
     have e2:mQ w r ((pkR (cB r w.2.2.2.1 v.2.2.2 p)).1,(pkR (cB r w.2.2.2.1 v.2.2.2 p)).2.1,(pkR (cB r w.2.2.2.1 v.2.2.2 p)).2.2.1,(pkR (cB r w.2.2.2.1 v.2.2.2 p)).2.2.2.2.2.2.2.2.1,(pkR (cB r w.2.2.2.1 v.2.2.2 p)).2.2.2.1,(pkR (cB r w.2.2.2.1 v.2.2.2 p)).2.2.2.2.1,(pkR (cB r w.2.2.2.1 v.2.2.2 p)).2.2.2.2.2.1,(pkR (cB r w.2.2.2.1 v.2.2.2 p)).2.2.2.2.2.2.1,(pkR (cB r w.2.2.2.1 v.2.2.2 p)).2.2.2.2.2.2.2.1,(pkR (cB r w.2.2.2.1 v.2.2.2 p)).2.2.2.2.2.2.2.2.2)=some (cA (tQ w r (cB r (aN w) v.2.2.2 p))):=aQs rfl h.flows h.flowsN hn.sz hn.by_
     simp only [zZ,zY,aA,bW2,zU,bZh,zV,bQ4 (t:=w.1) (now:=w.2.2.2.1) (p:=p) (bWv hp.sz (by decide)) hz0,← hd0,bPc (t:=w.1) (r:=r) (now:=w.2.2.2.1) (d:=v.2.2.2) (bWv hp.sz (by decide)),aWi (fW (p:=p) (by omega)),aV,bK,bA,aZ,bD,aE7 ht1,hlen,e1,e2]
     unfold aB8
     cases hd:decide ((gT (rP p)).length>1)
     ·rw [zS (of_decide_eq_false hd)];rfl
     ·rw [zT (of_decide_eq_true hd)];rfl
  ·unfold oX
   rw [hkeep.2.2.1]
   simp only [zZ,zY,zV,aFm (t:=w.1) (bWv h.links (by decide)),aYn h.res h.use,aA]
   cases ct:(rN w.2.2.1 p.2.2.2.2.2.2.2.1 r v.2.1 w.2.2.2.1).2.1
   ·simp only [zY,aA,bXj,bW2,zU,bX4];rfl
   ·by_cases hl:(aR w).length<150
    ·have h150:decide ((w.2.2.2.2.2.1.length:Int)<150)=true:=zX (by have :w.2.2.2.2.2.1.length<150:=hl;omega)
     rw [zX hl]
     simp only [zZ,aA,h150,bZh,zV,aD (b:=128) (n:=w.2.2.2.2.2.1.length) (m:=1) (by decide) (show (aR w).length+1<=_ by omega),bZf]
     rfl
    ·have h150:decide ((w.2.2.2.2.2.1.length:Int)<150)=false:=zW (by have : ¬ w.2.2.2.2.2.1.length<150:=hl;omega)
     rw [zW hl]
     simp only [zZ,zY,aA,h150,bYr,bW2,zU,bX4]
     rfl
 ·have c0:(v.1==0)=false:=by
   have :v.1=1:=by simpa using c1
   rw [this];rfl
  have hv:gP p=true:=hval (by rw [show v.1=1 from by simpa using c1];rfl)
  rw [hback]
  cases ck:p.1==1 with
  | true=>
   rw [bTr h hbn hbx hs (by rw [hkeep.1];exact ck)]
   simp only [c0,zZ,aA,bW2,zU,zV,bZf]
  | false=>
   have hq1:(v.2.2.1.1==1)=false:=by rw [hkeep.1];exact ck
   have hq2:(v.2.2.1.1==2)=false→(v.2.2.1.1==3)=true:=by rw [hkeep.1];exact kinds hv ck
   rw [bSb h hs hq1 hq2]
   simp only [c0,zZ,aA,bW2,zU,zV,bZf]

theorem fA (w:den tNw):tot tNw w=(tot (.sl tAS) (nT w).1+tot (.sl tLk) (nT w).2)+((tot (.sl tSg) (nK w).1+tot (.sl tSg) (nK w).2)+((0+(tot (.sl tRs) (nG w).2.1+tot (.sl tUs) (nG w).2.2))+(0+(tot (.sl ti) (aJ w)+(tot (.sl tFy) (aR w)+(tot (.sl tFl) (aB w)+(tot (.sl tIb) (aU w)+0))))))):=rfl

theorem aM6 {w:den tNw} (h:tot tNw w<=1073741824):aAu w where
 as:=by have :=fA w;have :=eR (t:=tAS) (nT w).1;omega
 links:=by have :=fA w;have :=eR (t:=tLk) (nT w).2;omega
 dead:=by have :=fA w;have :=eR (t:=ti) (aJ w);omega
 res:=by have :=fA w;have :=eR (t:=tRs) (nG w).2.1;omega
 use:=by have :=fA w;have :=eR (t:=tUs) (nG w).2.2;omega
 flowsN:=by have :=fA w;have :=eR (t:=tFl) (aB w);omega
 flows:=fun f hf=>by have :=fA w;have :=wF (t:=tFl) hf;omega

theorem bRm {w:den tNw} (h:tot tNw w<=1073741824):(aU w).length<=68719476736∧ ∀ x∈aU w,tot tIb x<=1073741824:=
 ⟨by have :=fA w;have :=eR (t:=tIb) (aU w);omega,fun x hx=>by have :=fA w;have :=wF (t:=tIb) hx;omega⟩

theorem aDu (w:den tNw):tot tNw (zO w)=tot tNw w:=rfl

theorem aYw (l:lUs):tot (.sl tUs) l=l.length:=jU rfl

theorem bGc (g:den tSc) (id s d now:Int):tot (.sl tRs) (rN g id s d now).2.2.1=tot (.sl tRs) g.2.1∧tot (.sl tUs) (rN g id s d now).2.2.2<=tot (.sl tUs) g.2.2+1:=by
 have m1:=aS8 g.2.2 id s d
 have m2:=aS8 g.2.2 0 s d
 rw [aYw,aYw]
 unfold rN
 split
 ·exact ⟨rfl,by simpa using m1⟩
 ·split
  ·exact ⟨rfl,by simpa using m2⟩
  ·exact ⟨rfl,by simp⟩

theorem aS9 (w:den tNw) (r eg:Int) (p:den tPk):tot tNw (oX w r eg p)<=tot tNw w+(2+tot tPk p):=by
 unfold oX
 split
 ·obtain ⟨e1,e2⟩:=bGc (nG w) p.2.2.2.2.2.2.2.1 r eg (aN w)
  rw [fA,fA w]
  simp only [nT,nK,nG,aJ,aR,aB,aU] at e1 e2 ⊢
  rw [sQ,aFb]
  have e3:tot tFy ((remote w.1 r eg).1,(remote w.1 r eg).2,p)=tot tPk p:=by simp [rM,tT]
  rw [e3]
  omega
 ·rw [aDu];omega

theorem bEk (f:den tFl) (p:den tPk):tot tFl (tK f p)=tot tFl f:=by
 unfold tK
 split<;>rfl

theorem bG4 (r:Int) (p:den tPk) (f:den tFl):tot tFl (oA r p f)<=tot tFl f+1:=by
 unfold oA
 split
 ·split
  ·rw [bEk];omega
  ·exact bHk f p
 ·omega

theorem bAb (r:Int) (p:den tPk): ∀ l:lFl,tot (.sl tFl) (l.map (oA r p))<=tot (.sl tFl) l+l.length
 | []=>by simp
 | f::l=>by
  have h1:=bG4 r p f
  have h2:=bAb r p l
  rw [bXg,kW,kW,bXy]
  omega

theorem aF7 (w:den tNw) (l:lFl):tot tNw (cT w l)=(tot (.sl tAS) (nT w).1+tot (.sl tLk) (nT w).2)+((tot (.sl tSg) (nK w).1+tot (.sl tSg) (nK w).2)+((0+(tot (.sl tRs) (nG w).2.1+tot (.sl tUs) (nG w).2.2))+(0+(tot (.sl ti) (aJ w)+(tot (.sl tFy) (aR w)+(tot (.sl tFl) l+(tot (.sl tIb) (aU w)+0))))))):=rfl

theorem bB4 (w:den tNw) (k:Nat) (x:den tIb):tot tNw (pB w k x)=(tot (.sl tAS) (nT w).1+tot (.sl tLk) (nT w).2)+((tot (.sl tSg) (nK w).1+tot (.sl tSg) (nK w).2)+((0+(tot (.sl tRs) (nG w).2.1+tot (.sl tUs) (nG w).2.2))+(0+(tot (.sl ti) (aJ w)+(tot (.sl tFy) (aR w)+(tot (.sl tFl) (aB w)+(tot (.sl tIb) ((aU w).set k x)+0))))))):=rfl

theorem aKl (w:den tNw) (r:Int) (p:den tPk):tot tNw (tQ w r p)<=tot tNw w+(aB w).length:=by
 have h:=bAb r p (aB w)
 unfold tQ
 rw [aF7,fA w]
 omega

theorem aR7 (w:den tNw) (r inn:Int) (p:den tPk):tot tNw (proc0 w r inn p)<=tot tNw w+(2+tot tPk p+(aB w).length):=by
 unfold proc0
 split
 ·have :=aS9 w r (bS (nT w) (aN w) (aJ w) r inn p).2.1 (bS (nT w) (aN w) (aJ w) r inn p).2.2.1
  have e:tot tPk (bS (nT w) (aN w) (aJ w) r inn p).2.2.1=tot tPk p:=aL3 _ _ _ _ _ _
  omega
 ·split
  ·have :=aKl w r (bS (nT w) (aN w) (aJ w) r inn p).2.2.1
   omega
  ·rw [aDu];omega

theorem aR4 {t:Ty} {l:List (den t)} {k:Nat} {x y:den t} (h:l[k]? =some x):tot (.sl t) (l.set k y)+tot t x=tot (.sl t) l+tot t y:=by
 induction l generalizing k with
 | nil=>cases h
 | cons z l ih=>
  cases k with
  | zero=>
   have :z=x:=by simpa using h
   subst this
   rw [List.set_cons_zero,kW,kW];omega
  | succ k=>
   have :=ih (k:=k) (by simpa using h)
   rw [List.set_cons_succ,kW,kW];omega

theorem bE6 (x:den tIb) (p:den tPk):tot tIb (dE x p)<=tot tIb x+(1+tot tPk p):=by
 have h1:=bHw x p
 have h2:=(aLv (p:=p) (bXb _)).2
 have e: ∀ y:den tIb,tot tIb y=tot (.sl tMs) y.2.2.2:=fun y=>by simp [rM,tT]
 rw [e,e]
 omega

end Go.Proofs.YtecighmpdcffcaaGreat
