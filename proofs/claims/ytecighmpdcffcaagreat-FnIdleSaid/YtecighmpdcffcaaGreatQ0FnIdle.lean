/-
  Facts and plain laws: what the functions compute, in plain words. Conditions: as each says.
-/
import Derived.Test.YtecighmpdcffcaaGreatT0FnIdle
open List renaming length→bW0,mem_of_getElem?→bWx,nil_append→bXg,getElem?_cons_zero→bZc,getElem?_eq_getElem→bWk,length_take→bXv,length_append→bXh,length_singleton→bX4,mem_append→bWv,getElem?_eq_some_iff→bWs,map_cons→bW7,sum_cons→bX0,getLast?_concat→bY6,dropLast_concat→bZv,length_nil→bYy,length_cons→bXo,append_assoc→bXj,singleton_append→bZi,append_nil→bXs,all_eq_true→bXb,mem_zipIdx_iff_getElem?→bZy,length_filter_le→bZd,getElem?_drop→bX5,length_drop→bYq,getElem?_map→bY1
open Nat renaming le_trans→bWl,le_refl→bW3,zero_le→bW4
open Bool renaming eq_false_or_eq_true→bY4,true_and→bW6,eq_iff_iff→bXc,not_true→bWo,not_false→bWw,false_and→bXa,false_eq_true→bWr,and_eq_true→bWm,or_self→bX9,not_eq_true'→bXn,and_false→bYi,true_or→bYj,or_true→bYk,and_self→bYe
open Sum renaming elim_inl→bXp,elim_inr→bY5,inl→bWj,inr→bWi
open Int renaming toNat_natCast→bWu,tmod→bW8,toNat_of_nonneg→bYr,eq_ofNat_of_zero_le→bXe
open Option renaming getD_some→bXi
set_option linter.unusedVariables false
set_option linter.unusedSimpArgs false
set_option maxRecDepth 100000
namespace Go.Proofs.YtecighmpdcffcaaGreat
open Go.Ab Go.V
def inR (n a b:Int):Bool:=decide (a<=n)&&decide (n<=b)

theorem kC (n a b:Int):bB n a b=some (inR n a b):=by
 unfold bB inR
 by_cases h:a<=n<;>simp [h]

theorem hZ (n a b:Int):aJ n a b=some (inR n a b):=by
 unfold aJ inR
 by_cases h:a<=n<;>simp [h]

theorem bI {n a b:Int}:inR n a b=true↔a<=n∧n<=b:=by simp [inR]

theorem aX7 {n a b:Int}:inR n a b=false↔ ¬ (a<=n∧n<=b):=by rw [← bI];simp

theorem bLi (a b:Int):aEa a b=some (if b>a then b else a):=rfl

theorem bBf (a b:Int):aAm a b=some (if b>a then b else a):=by
 unfold aAm
 by_cases h:b>a<;>simp [h]

theorem bUg (a b:Int):aD6 a b=some (if b<a then b else a):=rfl

theorem aTr (a b:Int):yF a b=some (if b<a then b else a):=by
 unfold yF
 by_cases h:b<a<;>simp [h]

theorem aEn {b:List Int} (h:b.length<=68719476736):dP b=some b:=by
 unfold dP
 rw [aD (by decide) (by simpa using h)];simp

theorem aY4 {l:List (den aL)} (h:l.length<=68719476736):kI l=some l:=by
 unfold kI
 rw [aD (by decide) (by simpa using h)];simp

theorem aRm {l:List (den tRv)} (h:l.length<=68719476736):dT l=some l:=by
 unfold dT
 rw [aD (by decide) (by simpa using h)];simp

theorem aMo {p:den tPp} (h:SmB 68719476736 tPp p):nV p=some p:=by
 unfold nV
 rw [aD (by decide) (by simpa using h.2.2.2.1)];simp

theorem aLd {p:den tPt} (h:SmB 68719476736 tPt p):dU p=some p:=by
 unfold dU
 rw [(tC (fun k (a:List (den tPp))=>((k:Int),a)) ((0:Int),[]) [] p (fun _ x a=>a++[x]) bW0 (fun _=>1) 68719476736 id rfl (bWl h.1 (by decide)) (by rw [eN];simpa using h.1) (fun k x a hi hx hd hw hk hb=>by
  have e:=h.2 x (bWx hx)
  simp only [hd,hi,hw,cond_true,aA,aY4 e.2.2.2.1,aO,aD (b:=48) (by decide) hb]
  simp) (fun a=>by simp)).1,iO (fun x=>x)]
 simp

theorem aEx {p:den tPt} (h:SmB 68719476736 tPt p):gY p=some p:=by
 unfold gY pj4
 rw [(tC (fun k (a:List (den tPp))=>((k:Int),a)) ((0:Int),[]) [] p (fun _ x a=>a++[x]) bW0 (fun _=>1) 68719476736 id rfl (bWl h.1 (by decide)) (by rw [eN];simpa using h.1) (fun k x a hi hx hd hw hk hb=>by
  have e:=h.2 x (bWx hx)
  simp only [hd,hi,hw,cond_true,aA,aO,aMo e,aD (b:=48) (by decide) hb]
  simp) (fun a=>by simp)).1,iO (fun x=>x)]
 simp

theorem bIq {l:List (den tPt)} (h:SmB 68719476736 (.sl tPt) l):sB l=some l:=by
 unfold sB
 rw [(tC (fun k (a:List (den tPt))=>((k:Int),a)) ((0:Int),[]) [] l (fun _ x a=>a++[x]) bW0 (fun _=>1) 68719476736 id rfl (bWl h.1 (by decide)) (by rw [eN];simpa using h.1) (fun k x a hi hx hd hw hk hb=>by
  have e:=h.2 x (bWx hx)
  simp only [hd,hi,hw,cond_true,aA,aLd e,aD (b:=24) (by decide) hb]
  simp) (fun a=>by simp)).1,iO (fun x=>x)]
 simp

theorem bJ1 {l:List (den tPt)} (h:SmB 68719476736 (.sl tPt) l):wI l=some l:=by
 unfold wI
 rw [(tC (fun k (a:List (den tPt))=>((k:Int),a)) ((0:Int),[]) [] l (fun _ x a=>a++[x]) bW0 (fun _=>1) 68719476736 id rfl (bWl h.1 (by decide)) (by rw [eN];simpa using h.1) (fun k x a hi hx hd hw hk hb=>by
  have e:=h.2 x (bWx hx)
  simp only [hd,hi,hw,cond_true,aA,aEx e,aD (b:=24) (by decide) hb]
  simp) (fun a=>by simp)).1,iO (fun x=>x)]
 simp

theorem aYj {l:List (den tMs)} (h:SmB 68719476736 (.sl tMs) l):iJ l=some l:=by
 unfold iJ
 rw [(tC (fun k (a:List (den tMs))=>((k:Int),a)) ((0:Int),[]) [] l (fun _ x a=>a++[x]) bW0 (fun _=>1) 68719476736 id rfl (bWl h.1 (by decide)) (by rw [eN];simpa using h.1) (fun k x a hi hx hd hw hk hb=>by
  have e:=h.2 x (bWx hx)
  simp only [hd,hi,hw,cond_true,aA,aEn e.1,aD (b:=24) (by decide) hb]
  simp) (fun a=>by simp)).1,iO (fun x=>x)]
 simp

theorem aZe {l:List (den tMs)} (h:SmB 68719476736 (.sl tMs) l):oU l=some l:=by
 unfold oU
 rw [(tC (fun k (a:List (den tMs))=>((k:Int),a)) ((0:Int),[]) [] l (fun _ x a=>a++[x]) bW0 (fun _=>1) 68719476736 id rfl (bWl h.1 (by decide)) (by rw [eN];simpa using h.1) (fun k x a hi hx hd hw hk hb=>by
  have e:=h.2 x (bWx hx)
  simp only [hd,hi,hw,cond_true,aA,aD (b:=1) (n:=([]:List Int).length) (by decide) (by simpa using e.1),aD (b:=24) (by decide) hb]
  simp) (fun a=>by simp)).1,iO (fun x=>x)]
 simp


def nM (f:den tFl):Int×Int×Int×Int×Int×Int×(List (den tMs))×(List (den tPt))×(List (den tRv)):=(f.1,f.2.1,f.2.2.1,f.2.2.2.1,f.2.2.2.2.2.2.1,f.2.2.2.2.2.2.2.1,f.2.2.2.2.1,f.2.2.2.2.2.1,f.2.2.2.2.2.2.2.2)

theorem aHi {f:den tFl} (h:SmB 68719476736 tFl f):dX f=some (nM f):=by
 unfold dX nM zz4 zz5 zz6 zz7 zz8
 simp only [aYj h.2.2.2.2.1,bIq h.2.2.2.2.2.1,aRm h.2.2.2.2.2.2.2.2.1,aA]

theorem aCi {f:den tFl} (h:SmB 68719476736 tFl f):eF f=some (nM f):=by
 unfold eF nM zz4 zz5 zz6 zz7 zz8
 simp only [aZe h.2.2.2.2.1,bJ1 h.2.2.2.2.2.1,aA,aD (b:=24) (n:=([]:List (den tRv)).length) (by decide) (by simpa using h.2.2.2.2.2.2.2.2.1),cond_true,bXg]

theorem aZm {x:den tIb} (h:SmB 68719476736 tIb x):mR x=some x:=by
 unfold mR
 simp only [aYj h.2.2.2,aA,aO]

theorem aXq {x:den tIb} (h:SmB 68719476736 tIb x):sE x=some x:=by
 unfold sE
 simp only [aZe h.2.2.2,aA,aO]

def dM (x:den tRv):Bool:=inR x.1 0 7&&(inR x.2.1 1 6&&inR x.2.2 0 1000000)

theorem aB1 (x:den tRv):bP x=some (dM x):=by
 unfold bP dM
 simp only [kC,aA]
 cases inR x.1 0 7<;>cases inR x.2.1 1 6<;>cases inR x.2.2 0 1000000<;>rfl

theorem aCs (x:den tRv):bQ x=some (dM x):=by
 unfold bQ dM
 simp only [hZ,aA]
 cases inR x.1 0 7<;>cases inR x.2.1 1 6<;>cases inR x.2.2 0 1000000<;>rfl


theorem aCz {α S:Type} (p:Nat→α→Bool): ∀ (l:List α) (k:Nat) (ρ:S),bZ (fun k x=>if p k x then none else some ρ) k l=if (l.zipIdx k).all (fun x=>p x.2 x.1) then none else some ρ
 | [],_,_=>rfl
 | x::xs,k,ρ=>by
  simp only [bZ,List.zipIdx_cons,List.all_cons]
  rcases bY4 (p k x) with h | h
  ·simp only [h,if_true,bW6];exact aCz p xs (k+1) ρ
  ·simp [h]

theorem aZa {α:Type} (p:α→Bool): ∀ (l:List α) (k:Nat),(l.zipIdx k).all (fun x=>p x.1)=l.all p
 | [],_=>rfl
 | x::xs,k=>by simp [List.zipIdx_cons,aZa p xs]

theorem mY {α S:Type} (p:α→Bool) (l:List α) (ρ:S):bZ (fun _ x=>if p x then none else some ρ) 0 l=if l.all p then none else some ρ:=by
 rw [aCz (fun _ x=>p x),aZa p]

def gN (f:den tFl):Bool:=
 inR f.1 0 7&&(inR f.2.1 0 7&&(!(f.1==f.2.1)&&(inR f.2.2.1 0 100000&&(decide (f.2.2.2.2.1.length<=20)&&(inR f.2.2.2.1 0 (f.2.2.2.2.1.length:Int)&&(decide (f.2.2.2.2.2.1.length<=24)&&
  (f.2.2.2.2.1.all (fun m=>decide (m.length<=40))&&(f.2.2.2.2.2.2.2.2.all dM&&((f.2.2.2.2.2.2.1==0||inR f.2.2.2.2.2.2.1 0 ((f.2.2.2.2.2.1.length:Int) - 1))&&(inR f.2.2.2.2.2.2.2.1 0 4&&decide (f.2.2.2.2.2.2.2.2.length<=16)))))))))))

theorem aWg {f:den tFl} (h:SmB 68719476736 tFl f):lG f=some (gN f):=by
 have h1:=h.2.2.2.2.1.1
 have h2:=h.2.2.2.2.2.1.1
 have h3:=h.2.2.2.2.2.2.2.2.1
 unfold lG gN pj3 zz4 zz5 zz6 zz7 zz8
 rw [aY (l:=f.2.2.2.2.1) (fun _ m=>if decide (m.length<=40) then none else some false) (by omega) (fun k m hi hd hw hx hk=>by
  simp only [hd,hi,hw,cond_true,aA]
  by_cases hm:m.length<=40
  ·simp [hm,show ¬ ((m.length:Int)>40) by omega]
  ·simp [hm,show (m.length:Int)>40 by omega]) (by simp)]
 rw [aY (l:=f.2.2.2.2.2.2.2.2) (fun _ x=>if dM x then none else some false) (by omega) (fun k x hi hd hw hx hk=>by
  simp only [hd,hi,hw,cond_true,aA,aO,aB1]
  cases dM x<;>rfl) (by simp)]
 rw [mY (fun m:List Int=>decide (m.length<=40)),mY dM]
 have e1:decide ((f.2.2.2.2.1.length:Int)>20)= !decide (f.2.2.2.2.1.length<=20):=by rw [bXc];simp;omega
 have e2:decide ((f.2.2.2.2.2.1.length:Int)>24)= !decide (f.2.2.2.2.2.1.length<=24):=by rw [bXc];simp;omega
 have e3:decide ((f.2.2.2.2.2.2.2.2.length:Int)<=16)=decide (f.2.2.2.2.2.2.2.2.length<=16):=by rw [bXc];simp;omega
 have e5:wr ((f.2.2.2.2.2.1.length:Int) - 1)=(f.2.2.2.2.2.1.length:Int) - 1:=wri (by omega) (by omega)
 rw [e5]
 simp only [kC,aA,e1,e2,e3]
 cases inR f.1 0 7<;>simp only [bWo,bWw,cond_true,cond_false,aA,bXa,bW6]
 cases inR f.2.1 0 7<;>simp only [bWo,bWw,cond_true,cond_false,aA,bXa,bW6]
 cases f.1==f.2.1<;>simp only [bWo,bWw,cond_true,cond_false,aA,bXa,bW6]
 cases inR f.2.2.1 0 100000<;>simp only [bWo,bWw,cond_true,cond_false,aA,bXa,bW6]
 cases decide (f.2.2.2.2.1.length<=20)<;>simp only [bWo,bWw,cond_true,cond_false,aA,bXa,bW6]
 cases inR f.2.2.2.1 0 (f.2.2.2.2.1.length:Int)<;>simp only [bWo,bWw,cond_true,cond_false,aA,bXa,bW6]
 cases decide (f.2.2.2.2.2.1.length<=24)<;>simp only [bWo,bWw,cond_true,cond_false,aA,bXa,bW6]
 cases f.2.2.2.2.1.all (fun m=>decide (m.length<=40))<;>simp only [bWr,if_true,if_false,aA,bXp,bY5,bXa,bW6]
 cases f.2.2.2.2.2.2.2.2.all dM<;>simp only [bWr,if_true,if_false,aA,bXp,bY5,bXa,bW6]
 cases f.2.2.2.2.2.2.1==0<;>cases inR f.2.2.2.2.2.2.1 0 ((f.2.2.2.2.2.1.length:Int) - 1)<;>cases inR f.2.2.2.2.2.2.2.1 0 4<;>rfl

theorem aV5 {f:den tFl} (h:SmB 68719476736 tFl f):lJ f=some (gN f):=by
 have h1:=h.2.2.2.2.1.1
 have h2:=h.2.2.2.2.2.1.1
 have h3:=h.2.2.2.2.2.2.2.2.1
 unfold lJ gN pj3 zz4 zz5 zz6 zz7 zz8
 rw [aY (l:=f.2.2.2.2.1) (fun _ m=>if decide (m.length<=40) then none else some false) (by omega) (fun k m hi hd hw hx hk=>by
  simp only [hd,hi,hw,cond_true,aA]
  by_cases hm:m.length<=40
  ·simp [hm,show ¬ ((m.length:Int)>40) by omega]
  ·simp [hm,show (m.length:Int)>40 by omega]) (by simp)]
 rw [aY (l:=f.2.2.2.2.2.2.2.2) (fun _ x=>if dM x then none else some false) (by omega) (fun k x hi hd hw hx hk=>by
  simp only [hd,hi,hw,cond_true,aA,aO,aCs]
  cases dM x<;>rfl) (by simp)]
 rw [mY (fun m:List Int=>decide (m.length<=40)),mY dM]
 have e1:decide ((f.2.2.2.2.1.length:Int)>20)= !decide (f.2.2.2.2.1.length<=20):=by rw [bXc];simp;omega
 have e2:decide ((f.2.2.2.2.2.1.length:Int)>24)= !decide (f.2.2.2.2.2.1.length<=24):=by rw [bXc];simp;omega
 have e3:decide ((f.2.2.2.2.2.2.2.2.length:Int)>16)= !decide (f.2.2.2.2.2.2.2.2.length<=16):=by rw [bXc];simp;omega
 have e4:inR f.2.2.2.2.2.2.1 0 (if ((f.2.2.2.2.2.1.length:Int) - 1)>0 then ((f.2.2.2.2.2.1.length:Int) - 1) else 0)=(f.2.2.2.2.2.2.1==0||inR f.2.2.2.2.2.2.1 0 ((f.2.2.2.2.2.1.length:Int) - 1)):=by
  have key: ∀ (c n:Int),0<=n→inR c 0 (if n - 1>0 then n - 1 else 0)=(c==0||inR c 0 (n - 1)):=fun c n hn=>by
   unfold inR
   by_cases h1:n - 1>0
   ·rw [if_pos h1]
    by_cases h2:c=0
    ·subst h2;simp;omega
    ·simp [h2]
   ·rw [if_neg h1]
    by_cases h2:c=0
    ·subst h2;simp
    ·rw [bXc];simp [h2];omega
  exact key _ _ (by omega)
 have e5:wr ((f.2.2.2.2.2.1.length:Int) - 1)=(f.2.2.2.2.2.1.length:Int) - 1:=wri (by omega) (by omega)
 rw [e5]
 simp only [hZ,bBf,aA,e1,e2,e3,e4]
 cases inR f.1 0 7<;>simp only [bWo,bWw,cond_true,cond_false,aA,bXa,bW6]
 cases inR f.2.1 0 7<;>simp only [bWo,bWw,cond_true,cond_false,aA,bXa,bW6]
 cases f.1==f.2.1<;>simp only [bWo,bWw,cond_true,cond_false,aA,bXa,bW6]
 cases inR f.2.2.1 0 100000<;>simp only [bWo,bWw,cond_true,cond_false,aA,bXa,bW6]
 cases decide (f.2.2.2.2.1.length<=20)<;>simp only [bWo,bWw,cond_true,cond_false,aA,bXa,bW6]
 cases inR f.2.2.2.1 0 (f.2.2.2.2.1.length:Int)<;>simp only [bWo,bWw,cond_true,cond_false,aA,bXa,bW6]
 cases decide (f.2.2.2.2.2.1.length<=24)<;>simp only [bWo,bWw,cond_true,cond_false,aA,bXa,bW6]
 cases f.2.2.2.2.2.2.1==0||inR f.2.2.2.2.2.2.1 0 ((f.2.2.2.2.2.1.length:Int) - 1)<;>cases inR f.2.2.2.2.2.2.2.1 0 4<;>cases decide (f.2.2.2.2.2.2.2.2.length<=16)<;>cases f.2.2.2.2.1.all (fun m=>decide (m.length<=40))<;>cases f.2.2.2.2.2.2.2.2.all dM<;>rfl

def aIz (a b:List Int):Bool:=(wY a).toList==(wY b).toList

theorem bOb (a b:List Int):sT a b=some (aIz a b):=rfl

def yW:List (den tMs)→List (den tMs)→Bool
 | [],_=>true
 | _::_,[]=>true
 | a::as,b::bs=>aIz a b&&yW as bs


def aTp {α S:Type} (p:α→α→Bool) (l:List α) (ρ:S) (k:Nat) (x:α):Option S:=Option.elim l[k]? none fun y=>if p x y then none else some ρ


theorem bNn {α S:Type} (p:α→α→Bool) (q:List α→List α→Bool) (h0: ∀ b,q [] b=true) (h1: ∀ x a y b,q (x::a) (y::b)=(p x y&&q a b)) (ρ:S): ∀ (a b:List α),a.length<=b.length→ ∀ (k:Nat) (l:List α),(∀ j,b[j]? =l[k+j]?)→bZ (aTp p l ρ) k a=if q a b then none else some ρ
 | [],b,_,k,l,_=>by rw [h0];rfl
 | x::a,[],h,_,_,_=>by simp at h
 | x::a,y::b,h,k,l,hl=>by
  have e0:=hl 0
  simp only [Nat.add_zero,bZc] at e0
  simp only [bZ,aTp,← e0,h1,Option.elim_some]
  rcases bY4 (p x y) with hp | hp
  ·simp only [hp,if_true,bW6]
   exact bNn p q h0 h1 ρ a b (by simpa using h) (k+1) l fun j=>by
    have :=hl (j+1)
    rw [List.getElem?_cons_succ] at this
    rw [this];congr 1;omega
  ·simp [hp]

theorem bIl {a b:List (den tMs)} (ha:a.length<=68719476736) (hb:b.length<=68719476736):kV a b=some (decide (a.length=b.length)&&yW a b):=by
 unfold kV
 by_cases hl:a.length=b.length
 ·have h0:((a.length:Int) != (b.length:Int))=false:=by simp [hl]
  rw [h0,cond_false,aY (l:=a) (aTp aIz b false) (by omega) (fun k x hi hd hw hx hk=>by
    have hy:b[k]? =some b[k]:=bWk (by omega)
    simp only [hd,hi,hw,cond_true,aA,aG,hy,bOb,aTp,Option.elim_some]
    cases aIz x b[k]<;>rfl) (by simp)]
  rw [bNn aIz yW (fun b=>by cases b<;>rfl) (fun _ _ _ _=>rfl) false a b (by omega) 0 b (fun j=>by rw [Nat.zero_add])]
  cases yW a b<;>simp [hl]
 ·have h0:((a.length:Int) != (b.length:Int))=true:=by simp;omega
  rw [h0,cond_true];simp [hl]

def aEu (f:den tFl) (x:den tIb):Bool:=
 x.1==f.2.1&&(x.2.1==f.1&&(decide (x.2.2.2.length<=f.2.2.2.2.1.length)&&(yW x.2.2.2 f.2.2.2.2.1&&decide ((x.2.2.2.length:Int)>=f.2.2.2.1))))

theorem aG1: ∀ (a b:List (den tMs)),yW a (b.take a.length)=yW a b
 | [],b=>by cases b<;>rfl
 | x::a,[]=>rfl
 | x::a,y::b=>by simp [yW,aG1 a b]

theorem bD0 {f:den tFl} {x:den tIb} (hf:f.2.2.2.2.1.length<=68719476736) (hx:x.2.2.2.length<=68719476736):jK f x=some (aEu f x):=by
 unfold jK aEu zz4
 cases x.1==f.2.1
 ·rfl
 cases x.2.1==f.1
 ·rfl
 by_cases hl:x.2.2.2.length<=f.2.2.2.2.1.length
 ·have h1:decide ((x.2.2.2.length:Int)<=(f.2.2.2.2.1.length:Int))=true:=by simpa using hl
  have h2:bU (0:Int) (x.2.2.2.length:Int) (f.2.2.2.2.1.length:Int)=true:=by simp [bU];omega
  rw [h1,h2,fZ,bIl hx (by rw [bXv];omega),aG1]
  have h3:decide (x.2.2.2.length=(List.take x.2.2.2.length f.2.2.2.2.1).length)=true:=by simp [bXv];omega
  rw [h3]
  simp only [cond_true,aA,bW6,decide_eq_true hl]
  cases yW x.2.2.2 f.2.2.2.2.1<;>rfl
 ·have h1:decide ((x.2.2.2.length:Int)<=(f.2.2.2.2.1.length:Int))=false:=by simp;omega
  rw [h1]
  simp [hl]

def zP (x:den tIb) (p:den tPk):Bool:=p.1==1&&(p.2.1==x.2.1&&p.2.2.1==x.1)

theorem aXs (x:den tIb) (p:den tPk):sC x p=some (zP x p):=by
 unfold sC zP
 cases p.1==1<;>cases p.2.1==x.2.1<;>rfl

theorem aXp (x:den tIb) (p:den tPk):vB x p=some (zP x p):=by
 unfold vB zP
 cases p.1==1<;>cases p.2.1==x.2.1<;>rfl

def aTl (x:den tIb) (p:den tPk):Bool:=zP x p&&(p.2.2.2.2.2.2.2.2.1==x.2.2.1&&decide (x.2.2.1<20))

def dV (x:den tIb) (p:den tPk):den tIb:=if aTl x p then (x.1,x.2.1,wr (x.2.2.1+1),x.2.2.2++[p.2.2.2.2.2.2.2.2.2]) else x

theorem bQa {x:den tIb} {p:den tPk} (hx:SmB 4294967296 tIb x) (hp:SmB 4294967296 tPk p):nB x p=some (dV x p):=by
 have hx':SmB 68719476736 tIb x:=hx.mono (by decide)
 have hp':=(hp.mono (C:=68719476736) (by decide)).2.2.2.2.2.2.2.2.2.1
 unfold nB dV aTl aI pj4 zz8 zz9
 have ha:=hx.2.2.2.1
 simp only [aO,aZm hx',aXs,aEn hp',aA,aD (b:=24) (n:=x.2.2.2.length) (m:=1) (by decide) (by omega),cond_true]
 cases zP x p<;>cases p.2.2.2.2.2.2.2.2.1==x.2.2.1<;>cases decide (x.2.2.1<20)<;>rfl

theorem bPg {x:den tIb} {p:den tPk} (hx:SmB 4294967296 tIb x) (hp:SmB 4294967296 tPk p):nC x p=some (dV x p):=by
 have hx':SmB 68719476736 tIb x:=hx.mono (by decide)
 have hp':=(hp.mono (C:=68719476736) (by decide)).2.2.2.2.2.2.2.2.2.1
 unfold nC dV aTl aI pj4 zz8 zz9
 have ha:=hx.2.2.2.1
 simp only [aO,aXq hx',aXp,aA,aD (b:=1) (n:=([]:List Int).length) (by decide) (by simpa using hp'),aD (b:=24) (n:=x.2.2.2.length) (m:=1) (by decide) (by omega),cond_true,bXg]
 cases zP x p<;>cases p.2.2.2.2.2.2.2.2.1==x.2.2.1<;>cases decide (x.2.2.1<20)<;>rfl

theorem bGa (x:den tIb) (p:den tPk):tot (.sl tMs) (dV x p).2.2.2<=tot (.sl tMs) x.2.2.2+1+tot (.sl tb) p.2.2.2.2.2.2.2.2.2:=by
 unfold dV
 split
 ·rw [sH,aEq]
  show _+(1+tot (.sl tb) _)<=_
  omega
 ·omega

def aQf (f:den tFl) (p:den tPk):Bool:=p.1==2&&(p.2.1==f.2.1&&(p.2.2.1==f.1&&(p.2.2.2.2.2.2.2.2.1==f.2.2.2.1&&inR f.2.2.2.1 0 ((f.2.2.2.2.1.length:Int) - 1))))

def uU (f:den tFl) (p:den tPk):den tFl:=if aQf f p then (f.1,f.2.1,f.2.2.1,wr (f.2.2.2.1+1),f.2.2.2.2.1,f.2.2.2.2.2.1,f.2.2.2.2.2.2.1,0,f.2.2.2.2.2.2.2.2) else f

theorem bPr {f:den tFl} {p:den tPk} (hf:SmB 68719476736 tFl f):rP f p=some (nM (uU f p)):=by
 unfold rP uU aQf pj3 pj9 zz4 zz5 zz6 zz8
 have e5:wr ((f.2.2.2.2.1.length:Int) - 1)=(f.2.2.2.2.1.length:Int) - 1:=wri (by have :=hf.2.2.2.2.1.1;omega) (by have :=hf.2.2.2.2.1.1;omega)
 simp only [aO,aHi hf,aA,kC,e5]
 cases p.1==2<;>cases p.2.1==f.2.1<;>cases p.2.2.1==f.1<;>cases p.2.2.2.2.2.2.2.2.1==f.2.2.2.1<;>cases inR f.2.2.2.1 0 ((f.2.2.2.2.1.length:Int) - 1)<;>rfl

theorem aYq {f:den tFl} {p:den tPk} (hf:SmB 68719476736 tFl f):pJ f p=some (nM (uU f p)):=by
 unfold pJ uU aQf pj3 pj9 zz4 zz5 zz6 zz8
 have e5:wr ((f.2.2.2.2.1.length:Int) - 1)=(f.2.2.2.2.1.length:Int) - 1:=wri (by have :=hf.2.2.2.2.1.1;omega) (by have :=hf.2.2.2.2.1.1;omega)
 simp only [aO,aCi hf,aA,hZ,e5]
 cases p.1==2<;>cases p.2.1==f.2.1<;>cases p.2.2.1==f.1<;>cases p.2.2.2.2.2.2.2.2.1==f.2.2.2.1<;>cases inR f.2.2.2.1 0 ((f.2.2.2.2.1.length:Int) - 1)<;>rfl

theorem aWz (f:den tFl) (p:den tPk):(uU f p).2.2.2.2.1=f.2.2.2.2.1∧(uU f p).2.2.2.2.2.1=f.2.2.2.2.2.1∧(uU f p).2.2.2.2.2.2.2.2=f.2.2.2.2.2.2.2.2:=by
 unfold uU
 split<;>exact ⟨rfl,rfl,rfl⟩

def enq (f:den tFl) (b:List Int):den tFl:=(f.1,f.2.1,f.2.2.1,f.2.2.2.1,f.2.2.2.2.1++[b],f.2.2.2.2.2.1,f.2.2.2.2.2.2.1,f.2.2.2.2.2.2.2.1,f.2.2.2.2.2.2.2.2)

def aMq (f:den tFl) (b:List Int):Int×Int×Int×Int×Int×Int×Bool×(List (den tMs))×(List (den tPt))×(List (den tRv)):=
 if gN (enq f b) then (f.1,f.2.1,f.2.2.1,f.2.2.2.1,f.2.2.2.2.2.2.1,f.2.2.2.2.2.2.2.1,true,f.2.2.2.2.1++[b],f.2.2.2.2.2.1,f.2.2.2.2.2.2.2.2)
 else (f.1,f.2.1,f.2.2.1,f.2.2.2.1,f.2.2.2.2.2.2.1,f.2.2.2.2.2.2.2.1,false,f.2.2.2.2.1,f.2.2.2.2.2.1,f.2.2.2.2.2.2.2.2)

theorem bE4 {f:den tFl} {b:List Int} (hf:SmB 4294967296 tFl f) (hb:SmB 4294967296 (.sl tb) b):SmB 68719476736 tFl (enq f b):=by
 have hf':=hf.mono (C:=68719476736) (by decide)
 refine ⟨hf'.1,hf'.2.1,hf'.2.2.1,hf'.2.2.2.1,⟨?_,fun e he=> ?_⟩,hf'.2.2.2.2.2.1,hf'.2.2.2.2.2.2.1,hf'.2.2.2.2.2.2.2.1,hf'.2.2.2.2.2.2.2.2⟩
 ·show (f.2.2.2.2.1++[b]).length<=_
  have :=hf.2.2.2.2.1.1
  rw [bXh,bX4];omega
 ·rcases bWv.1 he with he | he
  ·exact hf'.2.2.2.2.1.2 e he
  ·rw [List.mem_singleton.1 he];exact hb.mono (by decide)

theorem bT7 {f:den tFl} {b:List Int} (hf:SmB 4294967296 tFl f) (hb:SmB 4294967296 (.sl tb) b):wJ f b=some (aMq f b):=by
 unfold wJ aMq pj2 pj3 pj9 zz4 zz5 zz6 zz7 zz8
 have hf':=hf.mono (C:=68719476736) (by decide)
 have h1:=hf.2.2.2.2.1.1
 have h2:lG (f.1,f.2.1,f.2.2.1,f.2.2.2.1,f.2.2.2.2.1++[b],f.2.2.2.2.2.1,f.2.2.2.2.2.2.1,f.2.2.2.2.2.2.2.1,f.2.2.2.2.2.2.2.2)=some (gN (enq f b)):=aWg (f:=enq f b) (bE4 hf hb)
 simp only [aO,aHi hf',aEn (b:=b) (bWl hb.1 (by decide)),aA,nM,aD (b:=24) (n:=f.2.2.2.2.1.length) (m:=1) (by decide) (by omega),cond_true,h2]
 cases gN (enq f b)<;>rfl

theorem bMe {f:den tFl} {b:List Int} (hf:SmB 4294967296 tFl f) (hb:SmB 4294967296 (.sl tb) b):pW f b=some (aMq f b):=by
 unfold pW aMq pj2 pj3 pj9 zz4 zz5 zz6 zz7 zz8
 have hf':=hf.mono (C:=68719476736) (by decide)
 have h1:=hf.2.2.2.2.1.1
 have h2:lJ (f.1,f.2.1,f.2.2.1,f.2.2.2.1,f.2.2.2.2.1++[b],f.2.2.2.2.2.1,f.2.2.2.2.2.2.1,f.2.2.2.2.2.2.2.1,f.2.2.2.2.2.2.2.2)=some (gN (enq f b)):=aV5 (f:=enq f b) (bE4 hf hb)
 simp only [aO,aCi hf',aA,nM,aD (b:=1) (n:=([]:List Int).length) (m:=b.length) (by decide) (by have :=hb.1;simp;omega),aD (b:=24) (n:=f.2.2.2.2.1.length) (m:=1) (by decide) (by omega),cond_true,bXg,h2]
 cases gN (enq f b)<;>rfl

def jC (k:Int):Bool:=k==1||k==3

theorem aK9 (k:Int):cY k=some (jC k):=by
 unfold cY jC
 cases k==1<;>rfl

theorem aCk (k:Int):cZ k=some (jC k):=by
 unfold cZ jC
 cases k==1<;>rfl

def pIn (p:den tPp) (h:den aL):Int:=if jC p.1 then h.2.2.1 else h.2.1

def pEg (p:den tPp) (h:den aL):Int:=if jC p.1 then h.2.1 else h.2.2.1

theorem lH {n:Nat} (h:n<=68719476736):wr ((n:Int) - 1)=(n:Int) - 1:=wri (by omega) (by omega)

theorem aLq {k n:Nat} (h:k<n):inR (k:Int) 0 ((n:Int) - 1)=true:=by rw [bI];omega

theorem bB2 {p:den tPp} {k:Nat} {h:den aL} (hk:p.2.2.2[k]? =some h) (hl:p.2.2.2.length<=68719476736):eU p (k:Int)=some (pIn p h):=by
 have hlt:k<p.2.2.2.length:=(bWs.1 hk).1
 unfold eU pIn
 simp only [kC,lH hl,aLq hlt,aA,bWo,cond_false,aK9,aG,hk]
 cases jC p.1<;>rfl

theorem bA7 {p:den tPp} {k:Nat} {h:den aL} (hk:p.2.2.2[k]? =some h) (hl:p.2.2.2.length<=68719476736):eK p (k:Int)=some (pIn p h):=by
 have hlt:k<p.2.2.2.length:=(bWs.1 hk).1
 unfold eK pIn
 simp only [hZ,lH hl,aLq hlt,aA,bWo,cond_false,aCk,aG,hk]
 cases jC p.1<;>rfl

theorem aZ3 {p:den tPp} {k:Nat} {h:den aL} (hk:p.2.2.2[k]? =some h) (hl:p.2.2.2.length<=68719476736):eW p (k:Int)=some (pEg p h):=by
 have hlt:k<p.2.2.2.length:=(bWs.1 hk).1
 unfold eW pEg
 simp only [kC,lH hl,aLq hlt,aA,bWo,cond_false,aK9,aG,hk]
 cases jC p.1<;>rfl

theorem aTc {p:den tPp} {k:Nat} {h:den aL} (hk:p.2.2.2[k]? =some h) (hl:p.2.2.2.length<=68719476736):cX p (k:Int)=some (pEg p h):=by
 have hlt:k<p.2.2.2.length:=(bWs.1 hk).1
 unfold cX pEg
 simp only [hZ,lH hl,aLq hlt,aA,bWo,cond_false,aCk,aG,hk]
 cases jC p.1<;>rfl

def xY (nf:Bool) (p:den tPp) (i:Nat) (h:den aL) (out:List (den cR)):List (den cR):=
 match out.getLast? with
 | some z=>if nf&&(decide (i=0)&&z.1==h.1) then out.dropLast++[(h.1,z.2.1,pEg p h)] else out++[(h.1,pIn p h,pEg p h)]
 | none=>out++[(h.1,pIn p h,pEg p h)]

theorem aNh (nf:Bool) (p:den tPp) (i:Nat) (h:den aL) (out:List (den cR)):(xY nf p i h out).length<=out.length+1:=by
 unfold xY
 split
 ·split
  ·simp only [bXh,List.length_dropLast,bX4];omega
  ·simp
 ·simp

def qT (nf:Bool) (p:den tPp) (a:List (den cR)):List (den cR):=cG (fun i h b=>xY nf p i h b) 0 p.2.2.2 a

def aAd (p:den tPt):List (den cR):=cG (fun k x a=>qT (decide (0<k)) x a) 0 p []

def aGy (l:List (den cR)):List (den cR):=
 match l with
 | []=>[]
 | x::xs=>let m:=(x.1,0,x.2.2)::xs
  match m.getLast? with
  | some y=>m.dropLast++[(y.1,y.2.1,0)]
  | none=>[]

def gK (p:den tPt):List (den cR):=aGy (aAd p)

theorem bH5 (l:List (den cR)):(aGy l).length=l.length:=by
 unfold aGy
 split
 ·rfl
 ·rename_i x xs
  simp only
  rw [List.getLast?_eq_some_getLast (by simp)]
  simp

theorem aI9 (p:den tPt):(p.map fun x=>x.2.2.2.length).sum<=tot tPt p:=by
 show _<=tot (.sl tPp) p
 rw [← aRn]
 induction p with
 | nil=>exact bW3 _
 | cons x p ih=>
  simp only [bW7,bX0]
  have h1:x.2.2.2.length<=tot tPp x:=by
   show _<=tot ti x.1+(tot ti x.2.1+(tot ti x.2.2.1+tot (.sl aL) x.2.2.2))
   rw [jG rfl];omega
  omega

theorem bDb {n:Nat} (h:n<=68719476736) (h0:0<n):wr ((n:Int) - 1)=((n - 1:Nat):Int):=by
 rw [lH h];omega

theorem aEs {α:Type} {m:List α} {z:α} (h:(m++[z]).length<=68719476736):wr (((m++[z]).length:Int) - 1)=(m.length:Int):=by
 rw [bDb h (by simp)];simp

theorem aKd (nf:Bool) (p:den tPp) (a:List (den cR)):(qT nf p a).length<=a.length+p.2.2.2.length:=by
 have :=aBa (m:=bW0) (cost:=fun _=>1) (fun i h b=>aNh nf p i h b) p.2.2.2 0 a
 rw [eN] at this
 exact this

theorem aHm (p:den tPt):(aAd p).length<=tot tPt p:=by
 have :=aBa (m:=bW0) (cost:=fun x:den tPp=>x.2.2.2.length) (fun k x a=>aKd (decide (0<k)) x a) p 0 []
 have h2:=aI9 p
 have h3:(aAd p).length<=0+(p.map fun x=>x.2.2.2.length).sum:=this
 omega

theorem aA1 (p:den tPt):(gK p).length<=tot tPt p:=by
 unfold gK;rw [bH5];exact aHm p

theorem aZl (k:Nat):decide ((k:Int)>0)=decide (0<k):=by rw [bXc];simp

theorem aVx (i:Nat):((i:Int)==0)=decide (i=0):=by rw [bXc];simp

theorem aUq (nf:Bool) (p:den tPp) (i:Nat) (h:den aL):xY nf p i h []=[(h.1,pIn p h,pEg p h)]:=rfl

theorem aR3 (nf:Bool) (p:den tPp) (i:Nat) (h:den aL) (m:List (den cR)) (z:den cR):xY nf p i h (m++[z])=if nf&&(decide (i=0)&&z.1==h.1) then m++[(h.1,z.2.1,pEg p h)] else (m++[z])++[(h.1,pIn p h,pEg p h)]:=by
 unfold xY
 rw [bY6,bZv]

theorem aRx {m:List (den cR)} {x z:den cR} {xs:List (den cR)} (h:(x.1,(0:Int),x.2.2)::xs=m++[z]):aGy (x::xs)=m++[(z.1,z.2.1,0)]:=by
 unfold aGy
 simp only
 rw [h,bY6,bZv]

theorem aP1 {p:den tPt} (h:tot tPt p<=34359738368):jV p=some (gK p):=by
 have hs:=aI9 p
 have sm:SmB 34359738368 tPt p:=bE h
 have hl:=aHm p
 unfold jV ixb pj4
 rw [mZ (fun k (a:List (den cR))=>((k:Int),a)) ((0:Int),[]) [] p (fun k x a=>qT (decide (0<k)) x a) bW0 (fun x=>x.2.2.2.length) 34359738368 id rfl (bWl sm.1 (by decide)) (by simp only [bYy];omega) (fun k x a=>aKd _ x a) (fun k x a hi hx hd hw hk hb=>by
  have hxl:x.2.2.2.length<=34359738368:=(sm.2 x (bWx hx)).2.2.2.1
  simp only [hd,hi,hw,cond_true,aA]
  rw [mZ (fun i (b:List (den cR))=>((i:Int),b)) ((0:Int),a) a x.2.2.2 (fun i h b=>xY (decide (0<k)) x i h b) bW0 (fun _=>1) 34359738368 id rfl (bWl hxl (by decide)) (by rw [eN];exact hb) (fun i h b=>aNh _ x i h b) (fun i g b hi2 hg hd2 hw2 hk2 hb2=>by
   have hl2:x.2.2.2.length<=68719476736:=by omega
   simp only [hd2,hi2,hw2,cond_true,aA,aO,bB2 hg hl2,aZ3 hg hl2,aZl,aVx,aD (b:=24) (n:=b.length) (m:=1) (by decide) (by omega)]
   rcases lW b with rfl | ⟨m,z,rfl⟩
   ·rw [aUq]
    cases decide (0<k)<;>cases decide (i=0)<;>rfl
   ·rw [aR3,aEs (by omega)]
    simp only [eR,bJd,aEt,aI8,cond_true,bWu,aA,aNb]
    cases decide (0<k)<;>cases decide (i=0)<;>cases hz:z.1==g.1<;>simp [hz]
    simpa using hz) (fun b=>by simp)]
  rfl) (fun a=>by simp)]
 simp only [aA,id]
 rw [show cG (fun k x a=>qT (decide (0<k)) x a) 0 p []=aAd p from rfl]
 show _=some (aGy (aAd p))
 generalize aAd p=l at hl
 cases l with
 | nil=>rfl
 | cons x xs=>
  have e1:decide ((((x::xs).length:Nat):Int)>0)=true:=by simp
  have e2:decide ((0:Int)<(((x::xs).length:Nat):Int))=true:=by simp
  have e3:(0:Int).toNat=0:=rfl
  have e4:decide ((0:Int)<=0)=true:=rfl
  simp only [e1,e2,e3,e4,cond_true,bZc,aA,List.set_cons_zero]
  rcases lW ((x.1,(0:Int),x.2.2)::xs) with h0 | ⟨m,z,hm⟩
  ·cases h0
  ·have hlen:((x.1,(0:Int),x.2.2)::xs).length=(x::xs).length:=rfl
   rw [aRx hm]
   rw [hm] at hlen ⊢
   rw [aEs (by omega)]
   simp only [eR,aEt,aI8,cond_true,bWu,aA,aNb]

theorem aEe {p:den tPt} (h:tot tPt p<=34359738368):eG p=some (gK p):=by
 have hs:=aI9 p
 have sm:SmB 34359738368 tPt p:=bE h
 have hl:=aHm p
 unfold eG ixb pj4
 rw [mZ (fun k (a:List (den cR))=>((k:Int),a)) ((0:Int),[]) [] p (fun k x a=>qT (decide (0<k)) x a) bW0 (fun x=>x.2.2.2.length) 34359738368 id rfl (bWl sm.1 (by decide)) (by simp only [bYy];omega) (fun k x a=>aKd _ x a) (fun k x a hi hx hd hw hk hb=>by
  have hxl:x.2.2.2.length<=34359738368:=(sm.2 x (bWx hx)).2.2.2.1
  simp only [hd,hi,hw,cond_true,aA]
  rw [mZ (fun i (b:List (den cR))=>((i:Int),b)) ((0:Int),a) a x.2.2.2 (fun i h b=>xY (decide (0<k)) x i h b) bW0 (fun _=>1) 34359738368 id rfl (bWl hxl (by decide)) (by rw [eN];exact hb) (fun i h b=>aNh _ x i h b) (fun i g b hi2 hg hd2 hw2 hk2 hb2=>by
   have hl2:x.2.2.2.length<=68719476736:=by omega
   simp only [hd2,hi2,hw2,cond_true,aA,aO,bA7 hg hl2,aTc hg hl2,aV,bH,bA,aZ,bC,aZl,aVx]
   rcases lW b with rfl | ⟨m,z,rfl⟩
   ·rw [aUq]
    cases decide (0<k)<;>cases decide (i=0)<;>rfl
   ·rw [aR3,aEs (by omega)]
    have e1:decide (((m++[z]).length:Int)>0)=true:=by simp
    have e2:bU (0:Int) (m.length:Int) ((m++[z]).length:Int)=true:=by simp [bU];omega
    have e3:(m++[z]).take m.length=m:=by simp
    have e4:=aD (b:=24) (n:=m.length) (m:=1) (by decide) (by simp at hb2;omega)
    have e5:=aD (b:=24) (n:=m.length+1) (m:=1) (by decide) (by simp at hb2;omega)
    simp only [eR,e1,e2,e3,aEt,aI8,cond_true,bWu,aA]
    cases decide (0<k)<;>cases decide (i=0)<;>cases hz:z.1==g.1<;>simp [hz,e4,e5]) (fun b=>by simp [hi])]
  rfl) (fun a=>by simp)]
 simp only [aA,id]
 rw [show cG (fun k x a=>qT (decide (0<k)) x a) 0 p []=aAd p from rfl]
 show _=some (aGy (aAd p))
 generalize aAd p=l at hl
 cases l with
 | nil=>rfl
 | cons x xs=>
  have e1:decide ((((x::xs).length:Nat):Int)>0)=true:=by simp
  have e2:decide ((0:Int)<(((x::xs).length:Nat):Int))=true:=by simp
  have e3:(0:Int).toNat=0:=rfl
  have e4:decide ((0:Int)<=0)=true:=rfl
  have e5:decide (0<(x::xs).length)=true:=by simp
  simp only [e1,e2,e3,e4,e5,cond_true,bZc,aA,List.set_cons_zero]
  rcases lW ((x.1,(0:Int),x.2.2)::xs) with h0 | ⟨m,z,hm⟩
  ·cases h0
  ·have hlen:((x.1,(0:Int),x.2.2)::xs).length=(x::xs).length:=rfl
   rw [aRx hm]
   rw [hm] at hlen ⊢
   rw [aEs (by omega)]
   have e6:decide (m.length<(m++[z]).length)=true:=by simp
   simp only [eR,aEt,aI8,e6,cond_true,bWu,aA,aNb]

def ends (p:den tPt):Int×Int:=
 match (gK p).head?,(gK p).getLast? with
 | some x,some y=>(x.1,y.1)
 | _,_=>(-1,-1)

theorem bQv {p:den tPt} (h:tot tPt p<=34359738368):sA p=some (ends p):=by
 unfold sA ends ixb
 have hl:=aA1 p
 rw [aP1 h,aA]
 generalize gK p=l at hl
 rcases lW l with rfl | ⟨m,z,rfl⟩
 ·rfl
 ·rw [aEs (by omega)]
  have e1:(((m++[z]).length:Int)==0)=false:=by simp<;>omega
  have e2:decide ((0:Int)<((m++[z]).length:Int))=true:=by simp<;>omega
  have e3:decide ((0:Int)<=0)=true:=rfl
  rw [e1,e2,e3,eR,aEt,bY6]
  cases m with
  | nil=>rfl
  | cons x m=>simp

theorem bRm {p:den tPt} (h:tot tPt p<=34359738368):rQ p=some (ends p):=by
 unfold rQ ends ixb
 have hl:=aA1 p
 rw [aEe h,aA]
 generalize gK p=l at hl
 rcases lW l with rfl | ⟨m,z,rfl⟩
 ·rfl
 ·rw [aEs (by omega)]
  have e1:(((m++[z]).length:Int)==0)=false:=by simp<;>omega
  have e2:decide ((0:Int)<((m++[z]).length:Int))=true:=by simp<;>omega
  have e3:decide ((0:Int)<=0)=true:=rfl
  rw [e1,e2,e3,eR,aEt,bY6]
  cases m with
  | nil=>rfl
  | cons x m=>simp


def pkR (p:den tPk):Int×Int×Int×Int×Int×Int×Int×Int×(List (den tPp))×(List Int):=(p.1,p.2.1,p.2.2.1,p.2.2.2.2.1,p.2.2.2.2.2.1,p.2.2.2.2.2.2.1,p.2.2.2.2.2.2.2.1,p.2.2.2.2.2.2.2.2.1,p.2.2.2.1,p.2.2.2.2.2.2.2.2.2)

def bUh (p:den tPt):Int:=match p with
 | []=>0
 | x::_=>x.2.2.1

def aDz (kind:Int) (p:den tPt) (res seq:Int) (pay:List Int):den tPk:=(kind,(ends p).1,(ends p).2,p,0,0,bUh p,res,seq,pay)

theorem aRc {kind res seq:Int} {p:den tPt} {pay:List Int} (h:tot tPt p<=34359738368) (hp:pay.length<=68719476736):jS kind p res seq pay=some (pkR (aDz kind p res seq pay)):=by
 unfold jS zz4 zz5 zz6 zz7
 rw [aLd ((bE h).mono (by decide)),aEn hp,bQv h]
 simp only [aA]
 cases p with
 | nil=>rfl
 | cons x p=>
  have e1:decide (((x::p).length:Int)>0)=true:=by simp
  rw [e1];rfl

theorem aLy {kind res seq:Int} {p:den tPt} {pay:List Int} (h:tot tPt p<=34359738368) (hp:pay.length<=68719476736):cE kind p res seq pay=some (pkR (aDz kind p res seq pay)):=by
 unfold cE zz4 zz5 zz6 zz7
 rw [aEx ((bE h).mono (by decide)),bRm h,aD (b:=1) (n:=([]:List Int).length) (by decide) (by simpa using hp)]
 simp only [aA,cond_true,bXg]
 cases p with
 | nil=>rfl
 | cons x p=>
  have e1:decide (((x::p).length:Int)>0)=true:=by simp
  rw [e1];rfl

def aKu (k:Int):Int:=if k=1 then 4 else if k=4 then 1 else if k=2 then 3 else if k=3 then 2 else k

theorem bQu (k:Int):oE k=some (aKu k):=by
 unfold oE aKu
 by_cases h1:k=1
 ·subst h1;rfl
 by_cases h2:k=4
 ·subst h2;rfl
 by_cases h3:k=2
 ·subst h3;rfl
 by_cases h4:k=3
 ·subst h4;rfl
 have b1:(k==1)=false:=by simpa using h1
 have b2:(k==4)=false:=by simpa using h2
 have b3:(k==2)=false:=by simpa using h3
 have b4:(k==3)=false:=by simpa using h4
 rw [b1,b2,b3,b4,if_neg h1,if_neg h2,if_neg h3,if_neg h4];rfl

theorem bR1 (k:Int):mA k=some (aKu k):=by
 unfold mA aKu
 by_cases h1:k=1
 ·subst h1;rfl
 by_cases h2:k=4
 ·subst h2;rfl
 by_cases h3:k=2
 ·subst h3;rfl
 by_cases h4:k=3
 ·subst h4;rfl
 have b1:(k==1)=false:=by simpa using h1
 have b2:(k==4)=false:=by simpa using h2
 have b3:(k==2)=false:=by simpa using h3
 have b4:(k==3)=false:=by simpa using h4
 rw [b1,b2,b3,b4,if_neg h1,if_neg h2,if_neg h3,if_neg h4];rfl

def jB (n:Int):Bool:=inR n 0 2147483646

theorem aEo (n:Int):cV n=some (jB n):=by unfold cV jB;rw [kC];rfl

theorem aCx (n:Int):kJ n=some (jB n):=by unfold kJ jB;rw [hZ];rfl

def aM1 (b s:Int):Int:=if jB b&&jB s then bW8 (wr (b+s)) 2147483647 else 0

def aIa (b s:Int):Int:=if jB b&&jB s then bW8 (wr ((wr (b - s))+2147483647)) 2147483647 else 0

theorem bGc (b s:Int):qX b s=some (aM1 b s):=by
 unfold qX aM1
 simp only [aEo,aA]
 cases jB b<;>cases jB s<;>rfl

theorem aU0 (b s:Int):qY b s=some (aM1 b s):=by
 unfold qY aM1
 simp only [aCx,aA]
 cases jB b<;>cases jB s<;>rfl

theorem bG2 (b s:Int):vI b s=some (aIa b s):=by
 unfold vI aIa
 simp only [aEo,aA]
 cases jB b<;>cases jB s<;>rfl

theorem bEw (b s:Int):vE b s=some (aIa b s):=by
 unfold vE aIa
 simp only [aCx,aA]
 cases jB b<;>cases jB s<;>rfl

def aAw (k:Int) (b:Int) (h:den aL):Int:=if jC k then aIa b h.2.2.2.2 else aM1 b h.2.2.2.2

def aGk (p:den tPp) (n:Nat):Int:=(p.2.2.2.take n).foldl (aAw p.1) p.2.2.1

theorem bQh {p:den tPp} {n:Nat} (hn:n<=p.2.2.2.length) (hl:p.2.2.2.length<=68719476736):lB p (n:Int)=some (aGk p n):=by
 unfold lB aGk zz4
 have e1:inR (n:Int) 0 (p.2.2.2.length:Int)=true:=by rw [bI];omega
 have e2:bU (0:Int) (n:Int) (p.2.2.2.length:Int)=true:=by simp [bU];omega
 rw [kC,e1,aA,e2,fZ]
 have hlen:(p.2.2.2.take n).length<=4611686018427387904:=by rw [bXv];omega
 rw [mZ (fun k (b:Int)=>(b,(k:Int))) (p.2.2.1,(0:Int)) p.2.2.1 (p.2.2.2.take n) (fun _ h b=>aAw p.1 b h) (fun _=>0) (fun _=>0) 0 id rfl hlen (by rw [sum_nil];exact bW3 _) (fun _ _ _=>bW3 _) (fun k x b hi hx hd hw hk hb=>by
  simp only [hd,hi,hw,cond_true,aA,aK9,bG2,bGc,aAw]
  cases jC p.1<;>rfl) (fun b=>by simp),uZ (fun b h=>aAw p.1 b h)]
 rfl

theorem aQs {p:den tPp} {n:Nat} (hn:n<=p.2.2.2.length) (hl:p.2.2.2.length<=68719476736):gI p (n:Int)=some (aGk p n):=by
 unfold gI aGk zz4
 have e1:inR (n:Int) 0 (p.2.2.2.length:Int)=true:=by rw [bI];omega
 have e3:(p.2.2.2.take n).length=n:=by rw [bXv];omega
 rw [hZ,e1,aA]
 rw [mZ (fun k (b:Int)=>(b,(k:Int))) (p.2.2.1,(0:Int)) p.2.2.1 (p.2.2.2.take n) (fun _ h b=>aAw p.1 b h) (fun _=>0) (fun _=>0) 0 id rfl (by rw [e3];omega) (by rw [sum_nil];exact bW3 _) (fun _ _ _=>bW3 _) (fun k x b hi hx hd hw hk hb=>by
  have hx':p.2.2.2[k]? =some x:=by rw [List.getElem?_take] at hx;split at hx;exact hx;cases hx
  rw [e3] at hd
  simp only [hd,hw,cond_true,aA,aG,hx',aCk,bEw,aU0,aAw]
  cases jC p.1<;>rfl) (fun b=>by rw [e3];simp),uZ (fun b h=>aAw p.1 b h)]
 rfl

def xA (p:den tPp):den tPp:=(aKu p.1,p.2.1,aGk p p.2.2.2.length,p.2.2.2.reverse)

theorem bSn {l:List (den aL)} (hl:l.length<=68719476736):iI l=some l.reverse:=by
 unfold iI pj5
 have e:wr ((l.length:Int) - 1)=(l.length:Int) - 1:=lH hl
 rw [e,aTd (fun k (a:List (den aL))=>(k,a)) ((l.length:Int) - 1,[]) [] l (fun x a=>a++[x]) bW0 (fun _=>1) 68719476736 id rfl (by omega) (by rw [eN];simpa using hl) (fun x a=>by simp) (fun k x a hi hx hd hw hk hb=>by
  simp only [hd,hi,hw,cond_true,aA,aO,aD (b:=40) (n:=a.length) (m:=1) (by decide) hb]) (fun a=>by simp),aC8 (fun x=>x)]
 simp

theorem bP0 {p:den tPp} (hl:p.2.2.2.length<=68719476736):oA p=some (xA p):=by
 unfold oA xA pj4
 simp only [bQu,aO,bQh (bW3 _) hl,bSn hl,aA]

theorem bPn {p:den tPp} (hl:p.2.2.2.length<=68719476736):nY p=some (xA p):=by
 unfold nY xA pj4 pj5 zz4
 simp only [bR1,aO,aQs (bW3 _) hl,aV,bH,bA,aZ,bC,aA]
 have e:wr ((p.2.2.2.length:Int) - 1)=(p.2.2.2.length:Int) - 1:=lH hl
 rw [e,aTd (fun k (a:List (den aL))=>(k,aKu p.1,p.2.1,aGk p p.2.2.2.length,a)) ((p.2.2.2.length:Int) - 1,aKu p.1,p.2.1,aGk p p.2.2.2.length,[]) [] p.2.2.2 (fun x a=>a++[x]) bW0 (fun _=>1) 68719476736 (fun a=>(aKu p.1,p.2.1,aGk p p.2.2.2.length,a)) rfl (by omega) (by rw [eN];simpa using hl) (fun x a=>by simp) (fun k x a hi hx hd hw hk hb=>by
  simp only [hd,hi,hw,cond_true,aA,aO,aD (b:=40) (n:=a.length) (m:=1) (by decide) hb]) (fun a=>by simp),aC8 (fun x=>x)]
 simp

def aBq (p:den tPt):den tPt:=p.reverse.map xA

theorem bGh {p:den tPt} (h:SmB 68719476736 tPt p):jT p=some (aBq p):=by
 unfold jT aBq pj4
 have e:wr ((p.length:Int) - 1)=(p.length:Int) - 1:=lH h.1
 rw [e,aTd (fun k (a:List (den tPp))=>(k,a)) ((p.length:Int) - 1,[]) [] p (fun x a=>a++[xA x]) bW0 (fun _=>1) 68719476736 id rfl (by have :=h.1;omega) (by rw [eN];simpa using h.1) (fun x a=>by simp) (fun k x a hi hx hd hw hk hb=>by
  have hxl:=(h.2 x (bWx hx)).2.2.2.1
  simp only [hd,hi,hw,cond_true,aA,aO,bP0 hxl,aD (b:=48) (n:=a.length) (m:=1) (by decide) hb]) (fun a=>by simp),aC8 xA]
 simp

theorem bFt {p:den tPt} (h:SmB 68719476736 tPt p):jX p=some (aBq p):=by
 unfold jX aBq pj4
 have e:wr ((p.length:Int) - 1)=(p.length:Int) - 1:=lH h.1
 rw [e,aTd (fun k (a:List (den tPp))=>(k,a)) ((p.length:Int) - 1,[]) [] p (fun x a=>a++[xA x]) bW0 (fun _=>1) 68719476736 id rfl (by have :=h.1;omega) (by rw [eN];simpa using h.1) (fun x a=>by simp) (fun k x a hi hx hd hw hk hb=>by
  have hxl:=(h.2 x (bWx hx)).2.2.2.1
  simp only [hd,hi,hw,cond_true,aA,aO,bPn hxl,aD (b:=48) (n:=a.length) (m:=1) (by decide) hb]) (fun a=>by simp),aC8 xA]
 simp

theorem bD2 (p:den tPp):tot tPp (xA p)=tot tPp p:=by
 show tot ti _+(tot ti _+(tot ti _+tot (.sl aL) p.2.2.2.reverse))=tot ti _+(tot ti _+(tot ti _+tot (.sl aL) p.2.2.2))
 rw [aQj];rfl

theorem aO4 {t:Ty} (g:den t→den t) (hg: ∀ x,tot t (g x)=tot t x): ∀ l:List (den t),tot (.sl t) (l.map g)=tot (.sl t) l
 | []=>rfl
 | x::l=>by rw [bW7,kM,kM,hg,aO4 g hg l]

theorem aCv (p:den tPt):tot tPt (aBq p)=tot tPt p:=by
 show tot (.sl tPp) (p.reverse.map xA)=tot (.sl tPp) p
 rw [aO4 xA bD2,aQj]

def aLc (pk:den tPk) (kind seq:Int) (pay:List Int):den tPk:=aDz kind (aBq pk.2.2.2.1) pk.2.2.2.2.2.2.2.1 seq pay

theorem bQl {pk:den tPk} {kind seq:Int} {pay:List Int} (h:tot tPt pk.2.2.2.1<=34359738368) (hp:pay.length<=68719476736):aBb pk kind seq pay=some (pkR (aLc pk kind seq pay)):=by
 unfold aBb aLc aI zz7
 rw [bGh ((bE h).mono (by decide)),aA,aRc (by rw [aCv];exact h) hp]
 rfl

theorem bOn {pk:den tPk} {kind seq:Int} {pay:List Int} (h:tot tPt pk.2.2.2.1<=34359738368) (hp:pay.length<=68719476736):aA4 pk kind seq pay=some (pkR (aLc pk kind seq pay)):=by
 unfold aA4 aLc aI zz7
 rw [bFt ((bE h).mono (by decide)),aA,aLy (by rw [aCv];exact h) hp]
 rfl

def pk0:den tPk:=(0,0,0,[],0,0,0,0,0,[])


def pkB (p:den tPk) (b:Bool):Int×Int×Int×Int×Int×Int×Int×Int×Bool×(List (den tPp))×(List Int):=(p.1,p.2.1,p.2.2.1,p.2.2.2.2.1,p.2.2.2.2.2.1,p.2.2.2.2.2.2.1,p.2.2.2.2.2.2.2.1,p.2.2.2.2.2.2.2.2.1,b,p.2.2.2.1,p.2.2.2.2.2.2.2.2.2)

def aBm (x:den tIb) (p:den tPk):Bool:=zP x p&& !decide (p.2.2.2.2.2.2.2.2.1>=x.2.2.1)

def nA (x:den tIb) (p:den tPk):den tPk:=if aBm x p then aLc p 2 p.2.2.2.2.2.2.2.2.1 [] else pk0

theorem bP7 {x:den tIb} {p:den tPk} (h:tot tPt p.2.2.2.1<=34359738368):tT x p=some (pkB (nA x p) (aBm x p)):=by
 unfold tT nA aBm aI pj2 pj4 zz4 zz5 zz6 zz7 zz8
 simp only [aO,aXs,aA,bQl (pay:=[]) h (by simp)]
 cases zP x p<;>cases decide (p.2.2.2.2.2.2.2.2.1>=x.2.2.1)<;>rfl

theorem bPk {x:den tIb} {p:den tPk} (h:tot tPt p.2.2.2.1<=34359738368):uP x p=some (pkB (nA x p) (aBm x p)):=by
 unfold uP nA aBm aI pj2 pj4 zz4 zz5 zz6 zz7 zz8
 simp only [aO,aXp,aA,bOn (pay:=[]) h (by simp)]
 cases zP x p<;>cases decide (p.2.2.2.2.2.2.2.2.1>=x.2.2.1)<;>rfl

def wW (f:den tFl):Bool:=inR f.2.2.2.2.2.2.1 0 ((f.2.2.2.2.2.1.length:Int) - 1)&&inR f.2.2.2.1 0 ((f.2.2.2.2.1.length:Int) - 1)

def vP (f:den tFl):den tPk:=
 if wW f then aDz 1 ((f.2.2.2.2.2.1[f.2.2.2.2.2.2.1.toNat]?).getD []) f.2.2.1 f.2.2.2.1 ((f.2.2.2.2.1[f.2.2.2.1.toNat]?).getD []) else pk0

theorem aVn {t:Ty} {l:List (den t)} {d:den t} {i:Nat} (hd:tot t d=0):tot t ((l[i]?).getD d)<=tot (.sl t) l:=by
 cases h:l[i]? with
 | none=>simp [hd]
 | some x=>have :=xV h;simp;omega

theorem aZp {f:den tFl} (h:tot tFl f<=34359738368):eC f=some (pkB (vP f) (wW f)):=by
 have h0:=bG (bG (bG (bG h)))
 have hm:=aGi h0
 have hp:=aGi (bG h0)
 have l1:=eI f.2.2.2.2.1
 have l2:=eI f.2.2.2.2.2.1
 unfold eC vP wW pj2 zz4 zz5 zz6 zz7 zz8
 simp only [kC,lH (n:=f.2.2.2.2.2.1.length) (by omega),lH (n:=f.2.2.2.2.1.length) (by omega),aA]
 cases c1:inR f.2.2.2.2.2.2.1 0 ((f.2.2.2.2.2.1.length:Int) - 1) with
 | false=>rfl
 | true=>
  cases c2:inR f.2.2.2.1 0 ((f.2.2.2.2.1.length:Int) - 1) with
  | false=>rfl
  | true=>
   rw [bI] at c1 c2
   rw [aOg c1.1 (by omega),aOg c2.1 (by omega)]
   have e1:f.2.2.2.2.2.1[f.2.2.2.2.2.2.1.toNat]? =some (f.2.2.2.2.2.1[f.2.2.2.2.2.2.1.toNat]'(by omega)):=bWk (by omega)
   have e2:f.2.2.2.2.1[f.2.2.2.1.toNat]? =some (f.2.2.2.2.1[f.2.2.2.1.toNat]'(by omega)):=bWk (by omega)
   have t1:=xV e1
   have t2:=xV e2
   have t3:=eI (t:=tb) (f.2.2.2.2.1[f.2.2.2.1.toNat]'(by omega))
   simp only [aA,bWo,cond_false]
   rw [aRc (by omega) (by have t2:1+tot (.sl tb) _<=_:=t2;omega),e1,e2]
   rfl

theorem aYt {f:den tFl} (h:tot tFl f<=34359738368):dZ f=some (pkB (vP f) (wW f)):=by
 have h0:=bG (bG (bG (bG h)))
 have hm:=aGi h0
 have hp:=aGi (bG h0)
 have l1:=eI f.2.2.2.2.1
 have l2:=eI f.2.2.2.2.2.1
 unfold dZ vP wW pj2 zz4 zz5 zz6 zz7 zz8
 simp only [hZ,lH (n:=f.2.2.2.2.2.1.length) (by omega),lH (n:=f.2.2.2.2.1.length) (by omega),aA]
 cases c1:inR f.2.2.2.2.2.2.1 0 ((f.2.2.2.2.2.1.length:Int) - 1) with
 | false=>cases inR f.2.2.2.1 0 ((f.2.2.2.2.1.length:Int) - 1)<;>rfl
 | true=>
  cases c2:inR f.2.2.2.1 0 ((f.2.2.2.2.1.length:Int) - 1) with
  | false=>rfl
  | true=>
   rw [bI] at c1 c2
   rw [aOg c1.1 (by omega),aOg c2.1 (by omega)]
   have e1:f.2.2.2.2.2.1[f.2.2.2.2.2.2.1.toNat]? =some (f.2.2.2.2.2.1[f.2.2.2.2.2.2.1.toNat]'(by omega)):=bWk (by omega)
   have e2:f.2.2.2.2.1[f.2.2.2.1.toNat]? =some (f.2.2.2.2.1[f.2.2.2.1.toNat]'(by omega)):=bWk (by omega)
   have t1:=xV e1
   have t2:=xV e2
   have t3:=eI (t:=tb) (f.2.2.2.2.1[f.2.2.2.1.toNat]'(by omega))
   simp only [aA,bWo,cond_false]
   rw [aLy (by omega) (by have t2:1+tot (.sl tb) _<=_:=t2;omega),e1,e2]
   rfl

def tY (f:den tFl):Int:=if wr (f.2.2.2.2.2.2.1+1)>=(f.2.2.2.2.2.1.length:Int) then 0 else wr (f.2.2.2.2.2.2.1+1)

def qM (f:den tFl) (c w:Int):den tFl:=(f.1,f.2.1,f.2.2.1,f.2.2.2.1,f.2.2.2.2.1,f.2.2.2.2.2.1,c,w,f.2.2.2.2.2.2.2.2)

theorem aFu (f:den tFl) (c w:Int):tot tFl (qM f c w)=tot tFl f:=rfl


def aF (f:den tFl):den tFl×den tPk×Bool:=
 if wW f then
  if f.2.2.2.2.2.2.2.1==0 then (qM f f.2.2.2.2.2.2.1 1,vP f,true)
  else if f.2.2.2.2.2.2.2.1==4 then (qM f (tY f) 1,vP (qM f (tY f) 1),wW (qM f (tY f) 1))
  else (qM f f.2.2.2.2.2.2.1 (wr (f.2.2.2.2.2.2.2.1+1)),pk0,false)
 else (qM f f.2.2.2.2.2.2.1 0,pk0,false)


def dG (f:den tFl) (p:den tPk) (b:Bool):Int×Int×Int×Int×Int×Int×Int×Int×Int×Int×Int×Int×Int×Int×Bool×(List (den tMs))×(List (den tPt))×(List (den tRv))×(List (den tPp))×(List Int):=
 (f.1,f.2.1,f.2.2.1,f.2.2.2.1,f.2.2.2.2.2.2.1,f.2.2.2.2.2.2.2.1,p.1,p.2.1,p.2.2.1,p.2.2.2.2.1,p.2.2.2.2.2.1,p.2.2.2.2.2.2.1,p.2.2.2.2.2.2.2.1,p.2.2.2.2.2.2.2.2.1,b,f.2.2.2.2.1,f.2.2.2.2.2.1,f.2.2.2.2.2.2.2.2,p.2.2.2.1,p.2.2.2.2.2.2.2.2.2)

theorem aY5 (f:den tFl):pA f=some (tY f):=by
 unfold pA tY zz5 zz6
 by_cases h:wr (f.2.2.2.2.2.2.1+1)>=(f.2.2.2.2.2.1.length:Int)
 ·rw [decide_eq_true h,if_pos h];rfl
 ·rw [decide_eq_false h,if_neg h];rfl

theorem bO8 {f:den tFl} (h:tot tFl f<=34359738368):uV f=some (dG (aF f).1 (aF f).2.1 (aF f).2.2):=by
 unfold uV aF pj2 pj9 aT bK bO eH oH zz4 zz5 zz6 zz7 zz8 zz9
 have e:eC (f.1,f.2.1,f.2.2.1,f.2.2.2.1,f.2.2.2.2.1,f.2.2.2.2.2.1,tY f,1,f.2.2.2.2.2.2.2.2)=some (pkB (vP (qM f (tY f) 1)) (wW (qM f (tY f) 1))):=aZp (f:=qM f (tY f) 1) h
 simp only [aO,aHi ((bE h).mono (by decide)),aZp h,aY5,aA,aV,bH,bA,aZ,bC,nM,e]
 cases c1:wW f with
 | false=>simp only [pkB,bWw,cond_true];rfl
 | true=>
  simp only [pkB,bWo,cond_false,if_true]
  cases c2:f.2.2.2.2.2.2.2.1==0 with
  | true=>rfl
  | false=>
   cases c3:f.2.2.2.2.2.2.2.1==4 with
   | true=>rfl
   | false=>rfl

theorem bIp {c:Int} {n:Nat} (h0:0<=c) (h1:c<=(n:Int) - 1) (hn:n<=68719476736):inR c 0 (wr ((n:Int) - 2))= !decide (wr (c+1)>=(n:Int)):=by
 have e1:wr ((n:Int) - 2)=(n:Int) - 2:=wri (by omega) (by omega)
 have e2:wr (c+1)=c+1:=wri (by omega) (by omega)
 rw [e1,e2,bXc,bI]
 simp
 omega

theorem bE9 {f:den tFl} (h:SmB 68719476736 tFl f) (hs:inR f.2.2.2.2.2.2.1 0 ((f.2.2.2.2.2.1.length:Int) - 1)=true):rY f=some (nM (qM f (tY f) f.2.2.2.2.2.2.2.1)):=by
 unfold rY tY pj3 pj9 zz4 zz5 zz6
 have hl:=h.2.2.2.2.2.1.1
 rw [bI] at hs
 simp only [aO,aCi h,hZ,bIp hs.1 hs.2 hl,aA,nM]
 by_cases hc:wr (f.2.2.2.2.2.2.1+1)>=(f.2.2.2.2.2.1.length:Int)
 ·rw [decide_eq_true hc,if_pos hc];rfl
 ·rw [decide_eq_false hc,if_neg hc];rfl

theorem bP3 {f:den tFl} (h:tot tFl f<=34359738368):tN f=some (dG (aF f).1 (aF f).2.1 (aF f).2.2):=by
 unfold tN aF pj2 pj9 aT bK bO eH oH zz4 zz5 zz6 zz7 zz8 zz9
 have sm:SmB 68719476736 tFl f:=(bE h).mono (by decide)
 have e:dZ (f.1,f.2.1,f.2.2.1,f.2.2.2.1,f.2.2.2.2.1,f.2.2.2.2.2.1,tY f,1,f.2.2.2.2.2.2.2.2)=some (pkB (vP (qM f (tY f) 1)) (wW (qM f (tY f) 1))):=aYt (f:=qM f (tY f) 1) h
 simp only [aO,aCi sm,aYt h,aA,aV,bH,bA,aZ,bC]
 cases c1:wW f with
 | false=>simp only [pkB,nM,bWw,cond_true];rfl
 | true=>
  have hs:inR f.2.2.2.2.2.2.1 0 ((f.2.2.2.2.2.1.length:Int) - 1)=true:=by
   unfold wW at c1;simp only [bWm] at c1;exact c1.1
  rw [bE9 sm hs]
  simp only [pkB,nM,qM,aA,bWo,cond_false,if_true,e]
  cases c2:f.2.2.2.2.2.2.2.1==0 with
  | true=>rfl
  | false=>
   cases c3:f.2.2.2.2.2.2.2.1==4 with
   | true=>rfl
   | false=>rfl

def cA (p:den tPk):Bool:=inR p.2.2.2.2.1 0 ((p.2.2.2.1.length:Int) - 1)&&inR p.2.2.2.2.2.1 0 (((((p.2.2.2.1[p.2.2.2.2.1.toNat]?).getD (0,0,0,[])).2.2.2.length:Nat):Int) - 1)

def cO (p:den tPk):Int:=if cA p then ((((p.2.2.2.1[p.2.2.2.2.1.toNat]?).getD (0,0,0,[])).2.2.2[p.2.2.2.2.2.1.toNat]?).getD (0,0,0,0,0)).1 else -1

theorem aBj {p:den tPk} (h:cA p=true): ∃ (i j:Nat) (x:den tPp) (y:den aL),p.2.2.2.2.1=(i:Int)∧p.2.2.2.2.2.1=(j:Int)∧p.2.2.2.1[i]? =some x∧x.2.2.2[j]? =some y∧cO p=y.1:=by
 have h':=h
 unfold cA at h'
 simp only [bWm,bI] at h'
 obtain ⟨⟨h1,h2⟩,h3,h4⟩:=h'
 obtain ⟨x,hx⟩:=yM h1 h2
 rw [hx,bXi] at h4
 obtain ⟨y,hy⟩:=yM h3 h4
 refine ⟨p.2.2.2.2.1.toNat,p.2.2.2.2.2.1.toNat,x,y,(bYr h1).symm,(bYr h3).symm,hx,hy,?_⟩
 unfold cO
 rw [h,if_pos rfl,hx,bXi,hy,bXi]

theorem zG {p:den tPk} (c:cA p=false):cO p= -1:=by unfold cO;rw [c];rfl

theorem bMl {p:den tPk} (h:SmB 68719476736 tPk p):vL p=some (cA p):=by
 unfold vL cA zz4 zz5
 have l1:=h.2.2.2.1.1
 rw [kC,lH l1,aA]
 cases c1:inR p.2.2.2.2.1 0 ((p.2.2.2.1.length:Int) - 1) with
 | false=>rfl
 | true=>
  rw [bI] at c1
  obtain ⟨x,hx⟩:=yM c1.1 c1.2
  rw [aHj c1.1 hx,hx]
  have l2:=(h.2.2.2.1.2 _ (bWx hx)).2.2.2.1
  simp only [cond_true,aA,kC,lH l2,bXi,bW6]

theorem aEg {p:den tPk} (h:SmB 68719476736 tPk p):dQ p=some (cO p):=by
 unfold dQ aI zz4 zz5
 simp only [aO,bMl h,aA]
 cases c:cA p with
 | false=>rw [zG c];rfl
 | true=>
  obtain ⟨i,j,x,y,h1,h2,h3,h4,h5⟩:=aBj c
  rw [h1,h2,h5]
  simp only [bWo,cond_false,aG,h3,h4,aA]

theorem aEk {p:den tPk} (h:SmB 68719476736 tPk p):dN p=some (cO p):=by
 unfold dN zz4 zz5
 have l1:=h.2.2.2.1.1
 rw [hZ,lH l1,aA]
 cases c1:inR p.2.2.2.2.1 0 ((p.2.2.2.1.length:Int) - 1) with
 | false=>rw [zG (by unfold cA;rw [c1];rfl)];rfl
 | true=>
  have c1':=c1
  rw [bI] at c1'
  obtain ⟨x,hx⟩:=yM c1'.1 c1'.2
  rw [aHj c1'.1 hx]
  have l2:=(h.2.2.2.1.2 _ (bWx hx)).2.2.2.1
  simp only [bWo,cond_false,aA,hZ,lH l2]
  cases c2:inR p.2.2.2.2.2.1 0 ((x.2.2.2.length:Int) - 1) with
  | false=>rw [zG (by unfold cA;rw [c1,hx,bXi,c2];rfl)];rfl
  | true=>
   have c:cA p=true:=by unfold cA;rw [c1,hx,bXi,c2];rfl
   rw [bI] at c2
   obtain ⟨y,hy⟩:=yM c2.1 c2.2
   rw [aHj c2.1 hy]
   unfold cO
   rw [c,if_pos rfl,hx,bXi,hy,bXi]
   rfl

def aHe (p:den tPt) (i j:Nat):den tPt:=
 match p[i]? with
 | some x=>p.take i++[(x.1,x.2.1,x.2.2.1,x.2.2.2.take (j+1))]
 | none=>[]

def qZ (p:den tPk):den tPt:=if cO p<0 then [] else aHe p.2.2.2.1 p.2.2.2.2.1.toNat p.2.2.2.2.2.1.toNat

theorem aWo {p:den tPk} (h:SmB 68719476736 tPk p):gH p=some (qZ p):=by
 unfold gH qZ aI zz4 zz5
 simp only [aO,aEg h,aA]
 by_cases hc:cO p<0
 ·rw [decide_eq_true hc,cond_true,if_pos hc]
 ·rw [decide_eq_false hc,cond_false,if_neg hc]
  cases c:cA p with
  | false=>rw [zG c] at hc;exact absurd (by decide) hc
  | true=>
   obtain ⟨i,j,x,y,h1,h2,h3,h4,h5⟩:=aBj c
   have l1:=h.2.2.2.1.1
   have l2:=(h.2.2.2.1.2 _ (bWx h3)).2.2.2.1
   have hi:=(bWs.1 h3).1
   have hj:=(bWs.1 h4).1
   have e1:wr ((i:Int)+1)=((i+1:Nat):Int):=by have :wr ((i:Int)+1)=(i:Int)+1:=wri (by omega) (by omega);rw [this];rfl
   have e2:wr ((j:Int)+1)=((j+1:Nat):Int):=by have :wr ((j:Int)+1)=(j:Int)+1:=wri (by omega) (by omega);rw [this];rfl
   have e3:bU (0:Int) ((i+1:Nat):Int) (p.2.2.2.1.length:Int)=true:=by simp [bU];omega
   have e4:bU (0:Int) ((j+1:Nat):Int) (x.2.2.2.length:Int)=true:=by simp [bU];omega
   have e5:p.2.2.2.1.take (i+1)=p.2.2.2.1.take i++[x]:=aJl h3
   have e6:(p.2.2.2.1.take i).length=i:=by rw [bXv];omega
   rw [h1,h2,e1,e2,aLd h.2.2.2.1,aA,e3,cond_true]
   simp only [bWu,e5]
   have e7:decide ((i:Int)<((p.2.2.2.1.take i++[x]).length:Int))=true:=by simp;omega
   have e8:(p.2.2.2.1.take i++[x])[i]? =some x:=by rw [List.getElem?_append_right (by omega),e6];simp
   have e9: ∀ z,(p.2.2.2.1.take i++[x]).set i z=p.2.2.2.1.take i++[z]:=fun z=>by rw [List.set_append_right _ _ (by omega),e6];simp
   simp only [eR,e7,e8,e4,e9,cond_true,aA,fZ]
   unfold aHe
   rw [h3]

theorem aWk {p:den tPk} (h:SmB 68719476736 tPk p):gC p=some (qZ p):=by
 unfold gC qZ aI pj4 zz4 zz5
 simp only [aO,aEk h,aA]
 by_cases hc:cO p<0
 ·rw [decide_eq_true hc,cond_true,if_pos hc]
 ·rw [decide_eq_false hc,cond_false,if_neg hc]
  cases c:cA p with
  | false=>rw [zG c] at hc;exact absurd (by decide) hc
  | true=>
   obtain ⟨i,j,x,y,h1,h2,h3,h4,h5⟩:=aBj c
   have l1:=h.2.2.2.1.1
   have hi:=(bWs.1 h3).1
   have hj:=(bWs.1 h4).1
   have l2:=(h.2.2.2.1.2 _ (bWx h3)).2.2.2.1
   have e2:wr ((j:Int)+1)=((j+1:Nat):Int):=by have :wr ((j:Int)+1)=(j:Int)+1:=wri (by omega) (by omega);rw [this];rfl
   have e4:bU (0:Int) ((j+1:Nat):Int) (x.2.2.2.length:Int)=true:=by simp [bU];omega
   have e5:p.2.2.2.1.take (i+1)=p.2.2.2.1.take i++[x]:=aJl h3
   have e6:(p.2.2.2.1.take (i+1)).length=i+1:=by rw [bXv];omega
   rw [h1,h2,e2]
   let cutX:Nat→den tPp→den tPp:=fun k z=>if k=i then (z.1,z.2.1,z.2.2.1,z.2.2.2.take (j+1)) else z
   rw [mZ (fun k (a:List (den tPp))=>((k:Int),a)) ((0:Int),[]) [] (p.2.2.2.1.take (i+1)) (fun k z a=>a++[cutX k z]) bW0 (fun _=>1) 68719476736 id rfl (by omega) (by rw [eN];simp;omega) (fun k z a=>by simp) (fun k z a hz hx hd hw hk hb=>by
    rw [e6] at hd hk
    have hz':=(aVh hx).1
    have hd':decide ((k:Int)<=(i:Int))=true:=by simp;omega
    have sz:=h.2.2.2.1.2 _ (bWx hz')
    simp only [hd',hw,cond_true,aA,aG,hz',aO,aMo sz]
    by_cases hki:k=i
    ·subst hki
     rw [h3] at hz'
     injection hz' with hz'
     subst hz'
     have e7:((k:Int)==(k:Int))=true:=by simp
     simp only [e7,cond_true,e4,aA,fZ,aD (b:=48) (n:=a.length) (m:=1) (by decide) hb,cutX,if_true]
    ·have e7:((k:Int)==(i:Int))=false:=by simp;omega
     simp only [e7,cond_false,aA,aD (b:=48) (n:=a.length) (m:=1) (by decide) hb,cond_true,cutX,if_neg hki]) (fun a=>by
    have e10:decide (((i+1:Nat):Int)<=(i:Int))=false:=by simp<;>omega
    rw [e6];simp only [e10,cond_false];rfl)]
   have key: ∀ (l:List (den tPp)) (k:Nat) (a:List (den tPp)),k+l.length<=i→cG (fun k z a=>a++[cutX k z]) k l a=a++l:=by
    intro l
    induction l with
    | nil=>intro k a _;simp [cG]
    | cons z l ih=>
     intro k a hk
     simp only [bXo] at hk
     simp only [cG]
     rw [ih (k+1) _ (by omega)]
     have :cutX k z=z:=if_neg (by omega)
     rw [this];simp
   have fa: ∀ (l:List (den tPp)) (z:den tPp) (k:Nat) (a:List (den tPp)),cG (fun k z a=>a++[cutX k z]) k (l++[z]) a=cG (fun k z a=>a++[cutX k z]) k l a++[cutX (k+l.length) z]:=by
    intro l
    induction l with
    | nil=>intro z k a;rfl
    | cons y l ih=>
     intro z k a
     simp only [List.cons_append,cG,bXo]
     rw [ih]
     congr 3
     omega
   have e8:(p.2.2.2.1.take i).length=i:=by rw [bXv];omega
   rw [e5,fa,key _ 0 [] (by omega),e8]
   have :cutX (0+i) x=(x.1,x.2.1,x.2.2.1,x.2.2.2.take (j+1)):=if_pos (by omega)
   rw [this]
   unfold aHe
   rw [bWu,bWu,h3]
   rfl

theorem aXo (p:den tPt) (i j:Nat):tot tPt (aHe p i j)<=tot tPt p:=by
 unfold aHe
 cases h:p[i]? with
 | none=>exact bW4 _
 | some x=>
  have h1:tot tPt (p.take (i+1))<=tot tPt p:=aWp (t:=tPp) p (i+1)
  rw [aJl h] at h1
  have h2:tot (.sl tPp) (p.take i++[x])<=tot (.sl tPp) p:=h1
  show tot (.sl tPp) (p.take i++[(x.1,x.2.1,x.2.2.1,x.2.2.2.take (j+1))])<=tot (.sl tPp) p
  rw [sH,aEq] at h2 ⊢
  have h3:tot tPp (x.1,x.2.1,x.2.2.1,x.2.2.2.take (j+1))<=tot tPp x:=by
   have :=aWp (t:=aL) x.2.2.2 (j+1)
   show 0+(0+(0+tot (.sl aL) (x.2.2.2.take (j+1))))<=0+(0+(0+tot (.sl aL) x.2.2.2))
   omega
  omega

theorem aBw (p:den tPk):tot tPt (qZ p)<=tot tPt p.2.2.2.1:=by
 unfold qZ
 split
 ·exact bW4 _
 ·exact aXo _ _ _

def vi:Nat→Nat→List Int
 | 0,n=>[(n:Int)]
 | k+1,n=>if n<128 then [(n:Int)] else (((n % 128+128:Nat):Int))::vi k (n / 128)

theorem bDi: ∀ (k n:Nat),(vi k n).length<=k+1
 | 0,n=>by simp [vi]
 | k+1,n=>by
  unfold vi
  split
  ·simp
  ·have :=bDi k (n / 128);simp only [bXo];omega

theorem aCb {n:Nat} (h:n<256):IntKind.wrap .u8 (n:Int)=(n:Int):=by
 simp only [IntKind.wrap,IntKind.signed,IntKind.bits]
 simp
 omega

theorem bR6: ∀ (k n:Nat) (out:List Int),n<128 ^ (k+1)→out.length+k+1<=68719476736→n<9223372036854775808→(@Option.bind (Int×(List Int)) ((List Int)) (@aB (Int×(List Int)) (Int×(List Int)) (fun (s4:Int×(List Int))=>cond (decide (s4.1>=(128:Int))) (cond (aH 1 s4.2.length 1) (some (bWj (wr (Int.tdiv s4.1 (128:Int)),s4.2++[IntKind.wrap .u8 (wr ((bW8 s4.1 (128:Int))+(128:Int)))]))) none) (some (bWi (s4.1,s4.2)))) ((n:Int),out)) fun (s5:Int×(List Int))=>cond (aH 1 s5.2.length 1) (some (s5.2++[IntKind.wrap .u8 s5.1])) none)=some (out++vi k n)
 | 0,n,out,hn,ho,hb=>by
  have hn:n<128:=by simpa using hn
  have e1:decide ((n:Int)>=128)=false:=by simp;omega
  rw [bW (r:=((n:Int),out)) (by simp only [e1,cond_false]),aA]
  simp only [aD (b:=1) (n:=out.length) (m:=1) (by decide) (by omega),cond_true,aCb (n:=n) (by omega),vi]
 | k+1,n,out,hn,ho,hb=>by
  by_cases h:n<128
  ·have e1:decide ((n:Int)>=128)=false:=by simp;omega
   rw [bW (r:=((n:Int),out)) (by simp only [e1,cond_false]),aA]
   simp only [aD (b:=1) (n:=out.length) (m:=1) (by decide) (by omega),cond_true,aCb (n:=n) (by omega),vi,if_pos h]
  ·have e1:decide ((n:Int)>=128)=true:=by simp;omega
   have hd:n / 128<128 ^ (k+1):=by rw [Nat.div_lt_iff_lt_mul (by decide)];rw [Nat.pow_succ] at hn;exact hn
   have e2:Int.tdiv (n:Int) 128=((n / 128:Nat):Int):=rfl
   have e3:bW8 (n:Int) 128=((n % 128:Nat):Int):=rfl
   have e4:wr (((n % 128:Nat):Int)+128)=((n % 128+128:Nat):Int):=by
    have :wr (((n % 128:Nat):Int)+128)=((n % 128:Nat):Int)+128:=wri (by omega) (by omega)
    rw [this];rfl
   have e5:wr ((n / 128:Nat):Int)=((n / 128:Nat):Int):=wri (by omega) (by omega)
   rw [dY (s':=(((n / 128:Nat):Int),out++[((n % 128+128:Nat):Int)])) (by
    simp only [e1,cond_true,aD (b:=1) (n:=out.length) (m:=1) (by decide) (by omega),e2,e3,e4,e5,aCb (n:=n % 128+128) (by omega)])]
   rw [bR6 k (n / 128) _ hd (by simp;omega) (by omega)]
   simp only [vi,if_neg h,bXj,bZi]

theorem aT2 {n:Nat} (h:n<9223372036854775808):wU .i64 (n:Int) 127=((n % 128:Nat):Int):=by
 have e:(BitVec.ofInt 64 (n:Int) &&& BitVec.ofInt 64 127).toNat=n % 128:=by
  rw [BitVec.toNat_and]
  have e1:(BitVec.ofInt 64 (n:Int)).toNat=n:=by simp;omega
  have e2:(BitVec.ofInt 64 127).toNat=2 ^ 7 - 1:=by decide
  rw [e1,e2,Nat.and_two_pow_sub_one_eq_mod]
 unfold wU
 show IntKind.i64.wrap (((BitVec.ofInt 64 (n:Int) &&& BitVec.ofInt 64 127).toNat:Nat):Int)=_
 rw [e]
 exact wri (by omega) (by omega)

theorem bQj {n:Nat} (h:n<128):bOr .i64 (n:Int) 128=((n+128:Nat):Int):=by
 have e:(BitVec.ofInt 64 (n:Int) ||| BitVec.ofInt 64 128).toNat=n+128:=by
  rw [BitVec.toNat_or]
  have e1:(BitVec.ofInt 64 (n:Int)).toNat=n:=by simp;omega
  have e2:(BitVec.ofInt 64 128).toNat=128:=by decide
  rw [e1,e2,Nat.or_comm]
  have :=Nat.two_pow_add_eq_or_of_lt (i:=7) (b:=n) h 1
  simp only [Nat.mul_one] at this
  rw [← this];omega
 unfold bOr
 show IntKind.i64.wrap (((BitVec.ofInt 64 (n:Int) ||| BitVec.ofInt 64 128).toNat:Nat):Int)=_
 rw [e]
 exact wri (by omega) (by omega)

theorem bUr (n:Nat):shr .i64 (n:Int) 7=((n / 128:Nat):Int):=by
 unfold shr
 show Int.fdiv (n:Int) (2 ^ 7)=_
 rw [Int.fdiv_eq_ediv_of_nonneg _ (by decide)]
 rfl

theorem bRp: ∀ (k n:Nat) (out:List Int),n<128 ^ (k+1)→out.length+k+1<=68719476736→n<9223372036854775808→(@Option.bind (Int×(List Int)) ((List Int)) (@aB (Int×(List Int)) (Int×(List Int)) (fun (s3:Int×(List Int))=>cond (decide (s3.1>(127:Int))) (cond (aH 1 s3.2.length 1) (some (bWj (shr .i64 s3.1 (7:Int),s3.2++[IntKind.wrap .u8 (bOr .i64 (wU .i64 s3.1 (127:Int)) (128:Int))]))) none) (some (bWi (s3.1,s3.2)))) ((n:Int),out)) fun (s4:Int×(List Int))=>cond (aH 1 s4.2.length 1) (some (s4.2++[IntKind.wrap .u8 s4.1])) none)=some (out++vi k n)
 | 0,n,out,hn,ho,hb=>by
  have hn:n<128:=by simpa using hn
  have e1:decide ((n:Int)>127)=false:=by simp;omega
  rw [bW (r:=((n:Int),out)) (by simp only [e1,cond_false]),aA]
  simp only [aD (b:=1) (n:=out.length) (m:=1) (by decide) (by omega),cond_true,aCb (n:=n) (by omega),vi]
 | k+1,n,out,hn,ho,hb=>by
  by_cases h:n<128
  ·have e1:decide ((n:Int)>127)=false:=by simp;omega
   rw [bW (r:=((n:Int),out)) (by simp only [e1,cond_false]),aA]
   simp only [aD (b:=1) (n:=out.length) (m:=1) (by decide) (by omega),cond_true,aCb (n:=n) (by omega),vi,if_pos h]
  ·have e1:decide ((n:Int)>127)=true:=by simp;omega
   have hd:n / 128<128 ^ (k+1):=by rw [Nat.div_lt_iff_lt_mul (by decide)];rw [Nat.pow_succ] at hn;exact hn
   rw [dY (s':=(((n / 128:Nat):Int),out++[((n % 128+128:Nat):Int)])) (by
    simp only [e1,cond_true,aD (b:=1) (n:=out.length) (m:=1) (by decide) (by omega),bUr,aT2 hb,bQj (n:=n % 128) (by omega),aCb (n:=n % 128+128) (by omega)])]
   rw [bRp k (n / 128) _ hd (by simp;omega) (by omega)]
   simp only [vi,if_neg h,bXj,bZi]

def aAn (b:List Int) (n:Int):List Int:=if inR n 0 1000000000000 then b++vi 5 n.toNat else b

theorem aNe (b:List Int) (n:Int):(aAn b n).length<=b.length+6:=by
 unfold aAn
 split
 ·have :=bDi 5 n.toNat;rw [bXh];omega
 ·omega

theorem bSl {b:List Int} {n:Int} (h:b.length+6<=68719476736):mM b n=some (aAn b n):=by
 unfold mM aAn pj2
 rw [aEn (by omega),kC]
 cases c:inR n 0 1000000000000 with
 | false=>rfl
 | true=>
  rw [bI] at c
  obtain ⟨m,rfl⟩:=bXe c.1
  have :=bR6 5 m b (by simp only [show (128:Nat) ^ (5+1)=4398046511104 from by decide];omega) (by omega) (by omega)
  exact this

theorem bRj {b:List Int} {n:Int} (h:b.length+6<=68719476736):mI b n=some (aAn b n):=by
 unfold mI aAn pj2
 rw [aD (b:=1) (n:=([]:List Int).length) (by decide) (by simp;omega),hZ]
 cases c:inR n 0 1000000000000 with
 | false=>rfl
 | true=>
  rw [bI] at c
  obtain ⟨m,rfl⟩:=bXe c.1
  have :=bRp 5 m b (by simp only [show (128:Nat) ^ (5+1)=4398046511104 from by decide];omega) (by omega) (by omega)
  exact this

def aHz (b l:List Int):List Int:=l.foldl aAn b

theorem bKd (b l:List Int):(aHz b l).length<=b.length+6 * l.length:=by
 unfold aHz
 induction l generalizing b with
 | nil=>simp
 | cons x l ih=>
  have h1:=ih (aAn b x)
  have h2:=aNe b x
  simp only [List.foldl_cons,bXo]
  omega

theorem aZn {α:Type} (l:List α):(l.map fun _=>6).sum=6 * l.length:=by
 induction l with
 | nil=>rfl
 | cons x l ih=>rw [bW7,bX0,ih,bXo];omega

theorem bRa {b l:List Int} (h:b.length+6 * l.length<=68719476736):qB b l=some (aHz b l):=by
 unfold qB aHz
 rw [mZ (fun k (a:List Int)=>(a,(k:Int))) (b,(0:Int)) b l (fun _ x a=>aAn a x) bW0 (fun _=>6) 68719476736 id rfl (by omega) (by rw [aZn];exact h) (fun _ x a=>aNe a x) (fun k x a hi hx hd hw hk hb=>by
  simp only [hd,hi,hw,cond_true,aA,bSl (b:=a) (n:=x) hb]) (fun a=>by simp),uZ aAn]
 rfl

theorem bFg {l:List Int} (h:6 * l.length<=68719476736):qK l=some (aHz [] l):=by
 unfold qK
 rw [bRa (by simpa using h)];rfl

theorem bDj {l:List Int} (h:6 * l.length<=68719476736):pV l=some (aHz [] l):=by
 unfold pV aHz
 rw [mZ (fun k (a:List Int)=>((k:Int),a)) ((0:Int),[]) [] l (fun _ x a=>aAn a x) bW0 (fun _=>6) 68719476736 id rfl (by omega) (by rw [aZn];simpa using h) (fun _ x a=>aNe a x) (fun k x a hi hx hd hw hk hb=>by
  simp only [hd,hi,hw,cond_true,aA,bRj (b:=a) (n:=x) hb]) (fun a=>by simp),uZ aAn]
 rfl

def aFc (x:den tRv):List Int:=if dM x then aHz [] [x.1,x.2.1,x.2.2] else []

theorem aMx (x:den tRv):(aFc x).length<=18:=by
 unfold aFc
 split
 ·exact bKd [] [x.1,x.2.1,x.2.2]
 ·simp

theorem bTn (x:den tRv):gW x=some (aFc x):=by
 unfold gW aFc pj3
 rw [bFg (l:=[x.1,x.2.1,x.2.2]) (by simp)]
 simp only [aO,aB1,aA]
 cases dM x<;>rfl

theorem bTl (x:den tRv):gR x=some (aFc x):=by
 unfold gR aFc pj3
 rw [bDj (l:=[x.1,x.2.1,x.2.2]) (by simp)]
 simp only [aO,aCs,aA]
 cases dM x<;>rfl


def bY (r now d:Int) (p:den tPk):den tPk:=aDz 3 (aBq (qZ p)) p.2.2.2.2.2.2.2.1 p.2.2.2.2.2.2.2.2.1 (aFc (r,d,if 1000000<wr (now+10) then 1000000 else wr (now+10)))

theorem bOa {t:den tTo} {r now d:Int} {p:den tPk} (h:tot tPk p<=34359738368):hU t r now d p=some (pkR (bY r now d p)):=by
 have h1:tot tPt p.2.2.2.1<=34359738368:=aGi (bG (bG (bG h)))
 have h2:=aBw p
 have sm:SmB 68719476736 tPk p:=(bE h).mono (by decide)
 have h3:=aMx (r,d,if 1000000<wr (now+10) then 1000000 else wr (now+10))
 unfold hU bY aI zz7 zz8
 simp only [aO,bUg,aA,aWo sm]
 rw [bGh ((bE (bWl h2 h1)).mono (by decide)),aA,bTn,aA,aRc (by rw [aCv];omega) (by omega)]
 rfl

theorem bQe {t:den tTo} {r now d:Int} {p:den tPk} (h:tot tPk p<=34359738368):fF t r now d p=some (pkR (bY r now d p)):=by
 have h1:tot tPt p.2.2.2.1<=34359738368:=aGi (bG (bG (bG h)))
 have h2:=aBw p
 have sm:SmB 68719476736 tPk p:=(bE h).mono (by decide)
 have h3:=aMx (r,d,if 1000000<wr (now+10) then 1000000 else wr (now+10))
 unfold fF bY aI zz7 zz8
 simp only [aO,aTr,aA,aWk sm]
 rw [bFt ((bE (bWl h2 h1)).mono (by decide)),aA,bTl,aA,aLy (by rw [aCv];omega) (by omega)]
 rfl

theorem aKn {kind res seq:Int} {p:den tPt} {pay:List Int}:tot tPk (aDz kind p res seq pay)=tot tPt p+tot (.sl tb) pay:=by
 show 0+(0+(0+(tot tPt p+(0+(0+(0+(0+(0+tot (.sl tb) pay))))))))=_
 omega

theorem aSi (f:den tFl):tot tPk (vP f)<=tot tFl f:=by
 unfold vP
 split
 ·rw [aKn]
  have h1:=aVn (t:=tPt) (l:=f.2.2.2.2.2.1) (d:=[]) (i:=f.2.2.2.2.2.2.1.toNat) rfl
  have h2:=aVn (t:= .sl tb) (l:=f.2.2.2.2.1) (d:=[]) (i:=f.2.2.2.1.toNat) rfl
  show _<=0+(0+(0+(0+(tot (.sl (.sl tb)) f.2.2.2.2.1+(tot (.sl tPt) f.2.2.2.2.2.1+(0+(0+tot (.sl tRv) f.2.2.2.2.2.2.2.2)))))))
  omega
 ·exact bW4 _

theorem aLt {p:den tPk} {N:Nat} (h:tot tPk p<=N):tot (.sl tPp) p.2.2.2.1<=N∧tot (.sl tb) p.2.2.2.2.2.2.2.2.2<=N:=
 ⟨aGi (bG (bG (bG h))),bG (bG (bG (bG (bG (bG (bG (bG (bG h))))))))⟩

theorem aSq (x:den tIb) (p:den tPk):tot tPk (nA x p)<=tot tPk p:=by
 unfold nA
 split
 ·unfold aLc
  rw [aKn,aCv]
  have h:=(aLt (bW3 (tot tPk p))).1
  show tot (.sl tPp) p.2.2.2.1+0<=_
  omega
 ·exact bW4 _

theorem aSs (f:den tFl):tot tFl (aF f).1=tot tFl f∧tot tPk (aF f).2.1<=tot tFl f:=by
 unfold aF
 split
 ·split
  ·exact ⟨aFu f _ _,aSi f⟩
  ·split
   ·exact ⟨aFu f _ _,aSi (qM f (tY f) 1)⟩
   ·exact ⟨aFu f _ _,bW4 _⟩
 ·exact ⟨aFu f _ _,bW4 _⟩

theorem aR6 (r now d:Int) (p:den tPk):tot tPk (bY r now d p)<=tot tPk p+18:=by
 unfold bY
 rw [aKn,aCv]
 have h1:=aBw p
 have h2:=(aLt (bW3 (tot tPk p))).1
 have h2:tot tPt p.2.2.2.1<=tot tPk p:=h2
 have h3:=aMx (r,d,if 1000000<wr (now+10) then 1000000 else wr (now+10))
 have e:tot (.sl tb) (aFc (r,d,if 1000000<wr (now+10) then 1000000 else wr (now+10)))=(aFc (r,d,if 1000000<wr (now+10) then 1000000 else wr (now+10))).length:=jG rfl
 rw [e]
 omega

def aG4 {α β:Type} (p:α→β→Bool):List α→List β→Bool
 | x::xs,y::ys=>p x y&&aG4 p xs ys
 | _,_=>true

theorem aVv {α β R:Type} {a:List α} {b:List β} (p:α→β→Bool) {step:Int→Option (Int⊕(Unit⊕R))} (ρ:R) (hlen:a.length=b.length) (hl:a.length<=4611686018427387904)
  (h: ∀ (k:Nat) (x:α) (y:β),x∈a→y∈b→idx a (k:Int)=some x→idx b (k:Int)=some y→decide ((k:Int)<(a.length:Int))=true→IntKind.i64.wrap ((k:Int)+1)=((k+1:Nat):Int)→step (k:Int)=some (cond (p x y) (.inl ((k+1:Nat):Int)) (.inr (.inr ρ))))
  (he:step (a.length:Int)=some (.inr (.inl ()))):aB step (0:Int)=some (cond (aG4 p a b) (.inl ()) (.inr ρ)):=by
 have key: ∀ (ra pa:List α) (rb pb:List β),pa++ra=a→pb++rb=b→pa.length=pb.length→aB step (pa.length:Int)=some (cond (aG4 p ra rb) (.inl ()) (.inr ρ)):=by
  intro ra
  induction ra with
  | nil=>intro pa rb pb h1 _ _;rw [bXs] at h1;subst h1;exact bW he
  | cons x ra ih=>
   intro pa rb pb h1 h2 h3
   cases rb with
   | nil=>exfalso;have e1:=congrArg bW0 h1;have e2:=congrArg bW0 h2;simp at e1 e2;omega
   | cons y rb=>
    have hx:a[pa.length]? =some x:=by rw [← h1];simp
    have hy:b[pa.length]? =some y:=by rw [← h2,h3];simp
    have hlt:pa.length<a.length:=by rw [← h1];simp
    have hs:=h pa.length x y (bWx hx) (bWx hy) (by rw [aG];exact hx) (by rw [aG];exact hy) (by simpa using hlt) (by rw [wri (by omega) (by omega)];omega)
    simp only [aG4]
    cases hp:p x y with
    | true=>rw [hp] at hs;rw [dY hs];have :=ih (pa++[x]) rb (pb++[y]) (by simpa using h1) (by simpa using h2) (by simp [h3]);simpa using this
    | false=>rw [hp] at hs;exact bW hs
 exact key a [] b [] rfl rfl rfl

theorem aEi {α:Type} (b:Bool) (x y:α):cond b (some x) (some y)=some (cond b x y):=by cases b<;>rfl

theorem bEs {β:Type} (c:Bool) (f:Unit→Option β) (r:β):Sum.elim f some (cond c (bWj ()) (bWi r))=cond c (f ()) (some r):=by cases c<;>rfl

theorem bFf {α β:Type} (a:List α) (b:List β):((a.length:Int) != (b.length:Int))= !decide (a.length=b.length):=by
 rw [bXc];simp;omega

theorem aYr {α:Type} {p:Prop} [Decidable p] {x y z:α} (h:p→y=z):cond (!decide p) x y=cond (!decide p) x z:=by
 by_cases hp:p
 ·rw [h hp]
 ·simp [hp]

noncomputable def aN2 (a b:List (den aL)):Bool:=cond (!decide (a.length=b.length)) false (cond (aG4 (fun x y=>(x.1==y.1)&&((x.2.1==y.2.1)&&((x.2.2.1==y.2.2.1)&&((x.2.2.2.1==y.2.2.2.1)&&((x.2.2.2.2==y.2.2.2.2)&&true))))) a b) true false)

theorem bOl {a b:List (den aL)} (ha:a.length<=68719476736):iA a b=some (aN2 a b):=by
 unfold iA aN2 zz4
 rw [bFf]
 rw [aYr (z:=some (cond (aG4 (fun x y=>(x.1==y.1)&&((x.2.1==y.2.1)&&((x.2.2.1==y.2.2.1)&&((x.2.2.2.1==y.2.2.2.1)&&((x.2.2.2.2==y.2.2.2.2)&&true))))) a b) true false)) (fun hlen=>by
  rw [aVv (a:=a) (b:=b) (fun x y=>(x.1==y.1)&&((x.2.1==y.2.1)&&((x.2.2.1==y.2.2.1)&&((x.2.2.2.1==y.2.2.2.1)&&((x.2.2.2.2==y.2.2.2.2)&&true))))) false hlen (bWl ha (by decide)) (fun k x y mx my ix iy hd hw=>by
   simp only [hd,ix,iy,hw,cond_true,aA,aO,bne]
   generalize ((x.1==y.1)&&((x.2.1==y.2.1)&&((x.2.2.1==y.2.2.1)&&((x.2.2.2.1==y.2.2.2.1)&&((x.2.2.2.2==y.2.2.2.2)&&true)))))=c
   cases c<;>rfl) (by simp)]
  simp only [aA,bEs,aEi]),aEi]

noncomputable def aDe (a b:den tPp):Bool:=cond (a.1==b.1) (cond (a.2.1==b.2.1) (cond (a.2.2.1==b.2.2.1) (aN2 a.2.2.2 b.2.2.2) false) false) false

theorem bKt {a b:den tPp} (ha:SmB 68719476736 tPp a) (hb:SmB 68719476736 tPp b):jH a b=some (aDe a b):=by
 unfold jH aDe
 simp only [aA,aEi,aO,bOl ha.2.2.2.1]

noncomputable def aNz (a b:List (den tPp)):Bool:=cond (!decide (a.length=b.length)) false (cond (aG4 (fun x y=>aDe x y) a b) true false)

theorem bO7 {a b:List (den tPp)} (ha:SmB 68719476736 (.sl tPp) a) (hb:SmB 68719476736 (.sl tPp) b):iD a b=some (aNz a b):=by
 unfold iD aNz pj4
 rw [bFf]
 rw [aYr (z:=some (cond (aG4 (fun x y=>aDe x y) a b) true false)) (fun hlen=>by
  rw [aVv (a:=a) (b:=b) (fun x y=>aDe x y) false hlen (bWl ha.1 (by decide)) (fun k x y mx my ix iy hd hw=>by
   simp only [hd,ix,iy,hw,cond_true,aA,aO,bKt (ha.2 x mx) (hb.2 y my)]
   generalize (aDe x y)=c
   cases c<;>rfl) (by simp)]
  simp only [aA,bEs,aEi]),aEi]

noncomputable def bL4 (a b:List Int):Bool:=(wY a).toList==(wY b).toList

theorem bO3 (a b:List Int):sM a b=some (bL4 a b):=rfl

noncomputable def aAi (a b:den tPk):Bool:=cond (a.1==b.1) (cond (a.2.1==b.2.1) (cond (a.2.2.1==b.2.2.1) (cond (aNz a.2.2.2.1 b.2.2.2.1) (cond (a.2.2.2.2.1==b.2.2.2.2.1) (cond (a.2.2.2.2.2.1==b.2.2.2.2.2.1) (cond (a.2.2.2.2.2.2.1==b.2.2.2.2.2.2.1) (cond (a.2.2.2.2.2.2.2.1==b.2.2.2.2.2.2.2.1) (cond (a.2.2.2.2.2.2.2.2.1==b.2.2.2.2.2.2.2.2.1) (bL4 a.2.2.2.2.2.2.2.2.2 b.2.2.2.2.2.2.2.2.2) false) false) false) false) false) false) false) false) false

theorem bOe {a b:den tPk} (ha:SmB 68719476736 tPk a) (hb:SmB 68719476736 tPk b):kE a b=some (aAi a b):=by
 unfold kE aAi zz4 zz5 zz6 zz7 zz8 zz9
 simp only [aA,aEi,aO,bO3,bO7 ha.2.2.2.1 hb.2.2.2.1]

def aMj (b:List Int) (p:Nat):Nat→Nat→Nat→Int×Int×Bool
 | 0,_,_=>(0,0,false)
 | f+1,k,n=>match b[p+k]? with
  | none=>(0,0,false)
  | some x=>
   if x.toNat<128 then (if (decide (x.toNat=0)&&decide (0<k))||decide (1000000000000<n+x.toNat % 128 * 2 ^ (7 * k)) then (0,0,false) else (((n+x.toNat % 128 * 2 ^ (7 * k):Nat):Int),((p+k+1:Nat):Int),true))
   else aMj b p f (k+1) (n+x.toNat % 128 * 2 ^ (7 * k))

theorem aRa {k:Nat} (h:k<6):2 ^ (7 * k)<=34359738368:=bWl (Nat.pow_le_pow_right (by decide) (show 7 * k<=35 by omega)) (by decide)

theorem bFk {n c k:Nat} (h:n<2 ^ (7 * k)) (hc:c<128):n+c * 2 ^ (7 * k)<2 ^ (7 * (k+1)):=by
 have e:2 ^ (7 * (k+1))=128 * 2 ^ (7 * k):=by rw [show 7 * (k+1)=7 * k+7 by omega,Nat.pow_add];omega
 have :c * 2 ^ (7 * k)<=127 * 2 ^ (7 * k):=Nat.mul_le_mul_right _ (by omega)
 omega

theorem aPz {c k:Nat} (hk:k<6) (hc:c<128):c * 2 ^ (7 * k)<=4398046511104:=bWl (Nat.mul_le_mul (show c<=128 by omega) (aRa hk)) (by decide)

theorem aZg {S:Type} (b:List Int) (p:Nat) (hb: ∀ x∈b,0<=x∧x<=255) (enc:Nat→Nat→S) {step:S→Option (S⊕(Unit⊕(Int×Int×Bool)))}
  (h0: ∀ n,step (enc 6 n)=some (.inr (.inl ())))
  (h1: ∀ k n,k<6→b[p+k]? =none→step (enc k n)=some (.inr (.inl ()))∨step (enc k n)=some (.inr (.inr (0,0,false))))
  (h2: ∀ k n (m:Nat),k<6→n<2 ^ (7 * k)→m<=255→b[p+k]? =some (m:Int)→step (enc k n)=some (if m<128 then .inr (.inr (if (decide (m=0)&&decide (0<k))||decide (1000000000000<n+m % 128 * 2 ^ (7 * k)) then (0,0,false) else (((n+m % 128 * 2 ^ (7 * k):Nat):Int),((p+k+1:Nat):Int),true))) else .inl (enc (k+1) (n+m % 128 * 2 ^ (7 * k))))):
  ∀ f k n,f+k=6→n<2 ^ (7 * k)→ @Option.bind (Unit⊕(Int×Int×Bool)) (Int×Int×Bool) (aB step (enc k n)) (fun z=>Sum.elim (fun _=>some ((0:Int),(0:Int),false)) some z)=some (aMj b p f k n):=by
 intro f
 induction f with
 | zero=>
  intro k n hk hn
  have :k=6:=by omega
  subst this
  rw [bW (h0 n)]
  rfl
 | succ f ih=>
  intro k n hk hn
  have hk6:k<6:=by omega
  unfold aMj
  cases hx:b[p+k]? with
  | none=>rcases h1 k n hk6 hx with h | h<;>rw [bW h]<;>rfl
  | some x=>
   obtain ⟨x0,x1⟩:=hb x (bWx hx)
   obtain ⟨m,rfl⟩: ∃ m:Nat,x=(m:Int):=⟨x.toNat,by omega⟩
   have hs:=h2 k n m hk6 hn (by omega) hx
   simp only [bWu]
   by_cases hm:m<128
   ·rw [if_pos hm] at hs ⊢
    rw [bW hs]
    rfl
   ·rw [if_neg hm] at hs ⊢
    rw [dY hs]
    exact ih (k+1) _ (by omega) (bFk hn (Nat.mod_lt _ (by decide)))

theorem aX5 {a c:Nat} (hc:c<=35) (h:a * 2 ^ c<=4398046511104):shl .i64 (a:Int) (c:Int)=((a * 2 ^ c:Nat):Int):=by
 unfold shl
 have e:min ((c:Int)).toNat IntKind.i64.bits=c:=by simp [IntKind.bits];omega
 rw [e]
 have e2:(a:Int) * 2 ^ c=((a * 2 ^ c:Nat):Int):=by simp
 rw [e2]
 exact wri (by omega) (by omega)

theorem bPp {n c k:Nat} (hk:k<6) (hn:n<2 ^ (7 * k)) (hc:c<128):bOr .i64 (n:Int) ((c * 2 ^ (7 * k):Nat):Int)=((n+c * 2 ^ (7 * k):Nat):Int):=by
 have hm:=aPz hk hc
 have hp:=aRa hk
 have e:(BitVec.ofInt 64 (n:Int) ||| BitVec.ofInt 64 ((c * 2 ^ (7 * k):Nat):Int)).toNat=n+c * 2 ^ (7 * k):=by
  rw [BitVec.toNat_or]
  have e1:(BitVec.ofInt 64 (n:Int)).toNat=n:=by simp;omega
  have e2:(BitVec.ofInt 64 ((c * 2 ^ (7 * k):Nat):Int)).toNat=c * 2 ^ (7 * k):=by
   generalize c * 2 ^ (7 * k)=q at hm
   simp;omega
  rw [e1,e2,Nat.or_comm]
  have :=Nat.two_pow_add_eq_or_of_lt (i:=7 * k) (b:=n) hn c
  rw [Nat.mul_comm c,← this];omega
 unfold bOr
 show IntKind.i64.wrap (((BitVec.ofInt 64 (n:Int) ||| BitVec.ofInt 64 ((c * 2 ^ (7 * k):Nat):Int)).toNat:Nat):Int)=_
 rw [e]
 exact wri (by omega) (by omega)

theorem aWv {n:Nat} (h:n<256):IntKind.wrap .u64 (n:Int)=(n:Int):=by
 simp only [IntKind.wrap,IntKind.signed,IntKind.bits]
 simp
 omega

def rv (b:List Int) (p:Nat):Int×Int×Bool:=aMj b p 6 0 0

theorem aSb (k:Nat):(7:Int) * (k:Int)=((7 * k:Nat):Int):=by omega

theorem bV3 {b:List Int} {p:Nat} (hb: ∀ x∈b,0<=x∧x<=255) (hl:b.length<=68719476736) (hp:p<=b.length):qF b (p:Int)=some (rv b p):=by
 unfold qF
 have e0:decide ((p:Int)<0)=false:=by simp
 rw [e0,cond_false]
 refine aZg b p hb (fun k n=>(((p+k:Nat):Int),(n:Int),(k:Int))) (fun n=>by simp) (fun k n hk hx=> ?_) (fun k n m hk hn hm hx=> ?_) 6 0 0 rfl (by simp)
 ·left
  have h1:decide (((p+k:Nat):Int)<(b.length:Int))=false:=by
   have :=List.getElem?_eq_none_iff.1 hx
   simp;omega
  simp only [h1]
  cases decide ((k:Int)<6)<;>rfl
 ·have h0:=(bWs.1 hx).1
  have h1:decide (((p+k:Nat):Int)<(b.length:Int))=true:=by simp;omega
  have h2:decide ((k:Int)<6)=true:=by simp;omega
  have h3:idx b ((p+k:Nat):Int)=some (m:Int):=by rw [aG];exact hx
  have h4:wr ((7 * k:Nat):Int)=((7 * k:Nat):Int):=wri (by omega) (by omega)
  have h5:wr (m:Int)=(m:Int):=wri (by omega) (by omega)
  have h6:decide (((7 * k:Nat):Int)<0)=false:=by simp;omega
  have h7:bW8 (m:Int) 128=((m % 128:Nat):Int):=rfl
  have hq:=aPz (c:=m % 128) hk (Nat.mod_lt _ (by decide))
  have hr:=aRa hk
  have h8:wr ((n:Int)+((m % 128 * 2 ^ (7 * k):Nat):Int))=((n+m % 128 * 2 ^ (7 * k):Nat):Int):=by
   generalize m % 128 * 2 ^ (7 * k)=q at hq
   have :wr ((n:Int)+(q:Int))=(n:Int)+(q:Int):=wri (by omega) (by omega)
   rw [this];omega
  have h9:wr (((p+k:Nat):Int)+1)=((p+k+1:Nat):Int):=by
   have :wr (((p+k:Nat):Int)+1)=((p+k:Nat):Int)+1:=wri (by omega) (by omega)
   rw [this];omega
  have ha:wr ((k:Int)+1)=((k+1:Nat):Int):=by
   have :wr ((k:Int)+1)=(k:Int)+1:=wri (by omega) (by omega)
   rw [this];omega
  simp only [h1,h2,h3,cond_true,aA,aSb,h4,aWv (n:=7 * k) (by omega),h6,cond_false,h5,h7,aX5 (a:=m % 128) (c:=7 * k) (by omega) hq,h8,h9,ha]
  generalize n+m % 128 * 2 ^ (7 * k)=q
  by_cases c1:m<128
  ·have e1:decide ((m:Int)<128)=true:=by simp;omega
   have e2:((m:Int)==0)=decide (m=0):=by rw [bXc];simp
   have e3:decide ((k:Int)>0)=decide (0<k):=by rw [bXc];simp
   have e4:decide ((q:Int)>1000000000000)=decide (1000000000000<q):=by rw [bXc];simp;omega
   simp only [e1,e2,e3,e4,cond_true,if_pos c1]
   cases decide (m=0)<;>cases decide (0<k)<;>cases decide (1000000000000<q)<;>rfl
  ·have e1:decide ((m:Int)<128)=false:=by simp;omega
   simp only [e1,cond_false,if_neg c1]
   rfl

theorem bV2 {b:List Int} {p:Nat} (hb: ∀ x∈b,0<=x∧x<=255) (hl:b.length<=68719476736) (hp:p<=b.length):pX b (p:Int)=some (rv b p):=by
 unfold pX
 have e0:decide ((p:Int)<0)=false:=by simp
 refine aZg b p hb (fun k n=>((n:Int),(k:Int))) (fun n=>by simp) (fun k n hk hx=> ?_) (fun k n m hk hn hm hx=> ?_) 6 0 0 rfl (by simp)
 ·right
  have hw:wr ((b.length:Int) - (k:Int))=(b.length:Int) - (k:Int):=wri (by omega) (by omega)
  have h1:decide ((p:Int)>=(b.length:Int) - (k:Int))=true:=by
   have :=List.getElem?_eq_none_iff.1 hx
   simp;omega
  have h2:decide ((k:Int)<6)=true:=by simp;omega
  simp only [h2,e0,hw,h1,cond_true,cond_false,aA]
 ·have h0:=(bWs.1 hx).1
  have hw:wr ((b.length:Int) - (k:Int))=(b.length:Int) - (k:Int):=wri (by omega) (by omega)
  have h1:decide ((p:Int)>=(b.length:Int) - (k:Int))=false:=by simp;omega
  have h2:decide ((k:Int)<6)=true:=by simp;omega
  have hpk:wr ((p:Int)+(k:Int))=((p+k:Nat):Int):=by
   have :wr ((p:Int)+(k:Int))=(p:Int)+(k:Int):=wri (by omega) (by omega)
   rw [this];omega
  have h3:idx b ((p+k:Nat):Int)=some (m:Int):=by rw [aG];exact hx
  have h4:wr ((7 * k:Nat):Int)=((7 * k:Nat):Int):=wri (by omega) (by omega)
  have h5:wr (m:Int)=(m:Int):=wri (by omega) (by omega)
  have h6:decide (((7 * k:Nat):Int)<0)=false:=by simp;omega
  have hq:=aPz (c:=m % 128) hk (Nat.mod_lt _ (by decide))
  have h9:wr (((p+k:Nat):Int)+1)=((p+k+1:Nat):Int):=by
   have :wr (((p+k:Nat):Int)+1)=((p+k:Nat):Int)+1:=wri (by omega) (by omega)
   rw [this];omega
  have ha:wr ((k:Int)+1)=((k+1:Nat):Int):=by
   have :wr ((k:Int)+1)=(k:Int)+1:=wri (by omega) (by omega)
   rw [this];omega
  simp only [h1,h2,hw,e0,hpk,h3,cond_true,cond_false,aA,aSb,h4,h6,h5,aT2 (n:=m) (by omega),aX5 (a:=m % 128) (c:=7 * k) (by omega) hq,bPp (c:=m % 128) hk hn (Nat.mod_lt _ (by decide)),h9,ha]
  generalize n+m % 128 * 2 ^ (7 * k)=q
  by_cases c1:m<128
  ·have e1:decide ((m:Int)<128)=true:=by simp;omega
   have e2:((m:Int)==0)=decide (m=0):=by rw [bXc];simp
   have e3:decide ((k:Int)>0)=decide (0<k):=by rw [bXc];simp
   have e4:decide ((q:Int)>1000000000000)=decide (1000000000000<q):=by rw [bXc];simp;omega
   simp only [e1,e2,e3,e4,cond_true,if_pos c1]
   cases decide (m=0)<;>cases decide (0<k)<;>cases decide (1000000000000<q)<;>rfl
  ·have e1:decide ((m:Int)<128)=false:=by simp;omega
   simp only [e1,cond_false,if_neg c1]

theorem aYm {b:List Int} {p:Nat}: ∀ (f k n:Nat),(aMj b p f k n).2.2=true→ ∃ q:Nat,(aMj b p f k n).2.1=(q:Int)∧q<=b.length
 | 0,k,n,h=>by cases h
 | f+1,k,n,h=>by
  unfold aMj at h ⊢
  cases hx:b[p+k]? with
  | none=>rw [hx] at h;cases h
  | some x=>
   rw [hx] at h
   have hlt:=(bWs.1 hx).1
   simp only at h ⊢
   by_cases c:x.toNat<128
   ·rw [if_pos c] at h ⊢
    split at h
    ·cases h
    ·rename_i c2
     rw [if_neg c2]
     exact ⟨p+k+1,rfl,hlt⟩
   ·rw [if_neg c] at h ⊢
    exact aYm f (k+1) _ h

theorem bM3 {b:List Int} {p:Nat} (h:(rv b p).2.2=true): ∃ q:Nat,(rv b p).2.1=(q:Int)∧q<=b.length:=aYm 6 0 0 h

def aKv (b:List Int):Int×Bool×List Int:=
 cond (rv b 0).2.2 (cond (rv b (rv b 0).2.1.toNat).2.2 (cond (rv b (rv b (rv b 0).2.1.toNat).2.1.toNat).2.2
  ((rv b (rv b (rv b 0).2.1.toNat).2.1.toNat).2.1,true,[(rv b 0).1,(rv b (rv b 0).2.1.toNat).1,(rv b (rv b (rv b 0).2.1.toNat).2.1.toNat).1]) (0,false,[])) (0,false,[])) (0,false,[])

theorem aZf (b:List Int):aKv b=(0,false,[])∨ ∃ q x y z,aKv b=(q,true,[x,y,z]):=by
 unfold aKv
 cases (rv b 0).2.2
 ·exact .inl rfl
 ·cases (rv b (rv b 0).2.1.toNat).2.2
  ·exact .inl rfl
  ·cases (rv b (rv b (rv b 0).2.1.toNat).2.1.toNat).2.2
   ·exact .inl rfl
   ·exact .inr ⟨_,_,_,_,rfl⟩

theorem aV6 {b:List Int} {step:Int×Int×List Int→Option ((Int×Int×List Int)⊕((Int×List Int)⊕(Int×Bool×List Int)))}
  (hs: ∀ (p:Nat) (i:Nat) (out:List Int),p<=b.length→i<3→out.length<=3→step ((p:Int),(i:Int),out)=some (cond (rv b p).2.2 (.inl ((rv b p).2.1,((i+1:Nat):Int),out++[(rv b p).1])) (.inr (.inr (0,false,[])))))
  (he: ∀ p out,step (p,3,out)=some (.inr (.inl (p,out)))):
  @Option.bind ((Int×List Int)⊕(Int×Bool×List Int)) (Int×Bool×List Int) (aB step ((0:Int),(0:Int),([]:List Int))) (fun z=>Sum.elim (fun s8=>some (s8.1,true,s8.2)) some z)=some (aKv b):=by
 have h1:=hs 0 0 [] (bW4 _) (by decide) (by decide)
 unfold aKv
 cases c1:(rv b 0).2.2 with
 | false=>rw [c1] at h1;rw [bW (s:=((0:Int),(0:Int),([]:List Int))) h1];rfl
 | true=>
  rw [c1] at h1
  obtain ⟨q1,e1,l1⟩:=bM3 c1
  rw [dY (s:=((0:Int),(0:Int),([]:List Int))) h1]
  rw [e1]
  simp only [cond_true,bWu]
  have h2:=hs q1 (0+1) ([]++[(rv b 0).1]) l1 (by decide) (by simp)
  cases c2:(rv b q1).2.2 with
  | false=>rw [c2] at h2;rw [bW h2];rfl
  | true=>
   rw [c2] at h2
   obtain ⟨q2,e2,l2⟩:=bM3 c2
   rw [dY h2]
   rw [e2]
   simp only [cond_true,bWu]
   have h3:=hs q2 (0+1+1) ([]++[(rv b 0).1]++[(rv b q1).1]) l2 (by decide) (by simp)
   cases c3:(rv b q2).2.2 with
   | false=>rw [c3] at h3;rw [bW h3];rfl
   | true=>
    rw [c3] at h3
    rw [dY h3]
    rw [bW (s:=((rv b q2).2.1,((0+1+1+1:Nat):Int),[]++[(rv b 0).1]++[(rv b q1).1]++[(rv b q2).1])) (he _ _)]
    rfl

theorem bTo {b:List Int} (hb: ∀ x∈b,0<=x∧x<=255) (hl:b.length<=68719476736):qJ b 0 3=some (aKv b):=by
 unfold qJ
 have r1:inR 3 0 100=true:=by decide
 have r2:inR 0 0 (b.length:Int)=true:=by rw [bI];omega
 simp only [kC,aA,r1,r2,bWo,cond_false]
 refine aV6 (fun p i out hp hi ho=> ?_) (fun p out=>by simp)
 have e1:decide ((i:Int)<3)=true:=by simp;omega
 have e2:wr ((i:Int)+1)=((i+1:Nat):Int):=by
  have :wr ((i:Int)+1)=(i:Int)+1:=wri (by omega) (by omega)
  rw [this];omega
 simp only [e1,cond_true,bV3 hb hl hp,aA,e2,aD (b:=8) (n:=out.length) (m:=1) (by decide) (by omega)]
 cases (rv b p).2.2<;>rfl

theorem bR9 {b:List Int} (hb: ∀ x∈b,0<=x∧x<=255) (hl:b.length<=68719476736):qL b 0 3=some (aKv b):=by
 unfold qL
 have r1:inR 3 0 100=true:=by decide
 have r2:inR 0 0 (b.length:Int)=true:=by rw [bI];omega
 simp only [hZ,aA,r1,r2,bWo,cond_false]
 refine aV6 (fun p i out hp hi ho=> ?_) (fun p out=>by simp)
 have e1:decide ((i:Int)<3)=true:=by simp;omega
 have e2:wr ((i:Int)+1)=((i+1:Nat):Int):=by
  have :wr ((i:Int)+1)=(i:Int)+1:=wri (by omega) (by omega)
  rw [this];omega
 simp only [e1,cond_true,bV2 hb hl hp,aA,e2,aD (b:=8) (n:=out.length) (m:=1) (by decide) (by omega)]
 cases (rv b p).2.2<;>rfl


def vZ (b:List Int):Int×Int×Int×Bool:=
 match aKv b with
 | (q,true,[x,y,z])=>cond (q==(b.length:Int)) (cond (dM (x,y,z)) (x,y,z,true) (0,0,0,false)) (0,0,0,false)
 | _=>(0,0,0,false)

theorem bRd {b:List Int} (hb: ∀ x∈b,0<=x∧x<=255) (hl:b.length<=68719476736):hH b=some (vZ b):=by
 unfold hH vZ ixb
 rw [bTo hb hl]
 rcases aZf b with h | ⟨q,x,y,z,h⟩
 ·rw [h];rfl
 ·rw [h]
  simp only [aA,bWo,cond_false,bne,aB1]
  cases q==(b.length:Int)
  ·rfl
  ·cases hv:dM (x,y,z)<;>simp [hv]

theorem bSs {b:List Int} (hb: ∀ x∈b,0<=x∧x<=255) (hl:b.length<=68719476736):gV b=some (vZ b):=by
 unfold gV vZ ixb
 rw [bR9 hb hl]
 rcases aZf b with h | ⟨q,x,y,z,h⟩
 ·rw [h];rfl
 ·rw [h]
  simp only [aA,bWo,cond_false,bne,aCs]
  cases q==(b.length:Int)
  ·rfl
  ·cases hv:dM (x,y,z)<;>simp [hv]

def zJ (x:den tRv) (l:List (den tRv)) (k:Nat) (y:den tRv):Option (List (den tRv)):=
 cond (y.1==x.1) (cond (y.2.1==x.2.1) (some (l.set k (y.1,y.2.1,if x.2.2>y.2.2 then x.2.2 else y.2.2))) none) none

def aI4 (l:List (den tRv)) (x:den tRv):List (den tRv):=
 cond (dM x) (match bZ (zJ x l) 0 l with
  | some r=>r
  | none=>if 16<l.length+1 then (l++[x]).drop 1 else l++[x]) l

theorem aXr {α:Type} {l:List α} (h:0<l.length):cut l (1:Int) (l.length:Int)=l.drop 1:=aVf (k:=1) h

theorem aUf (l:List (den tRv)) (x:den tRv):decide (((l++[x]).length:Int)>16)=decide (16<l.length+1):=by
 rw [bXc];simp;omega

theorem bSu {l:List (den tRv)} {x:den tRv} (h:l.length<=1073741824):kO l x=some (aI4 l x):=by
 unfold kO aI4 ixb pj3
 rw [aRm (show l.length<=68719476736 by omega)]
 simp only [aA,aO,aB1]
 cases hv:dM x with
 | false=>rfl
 | true=>
  simp only [bWo,cond_false,cond_true]
  rw [aY (l:=l) (zJ x l) (by omega) (fun k y hi hd hw hm hk=>by
   have hy:l[k]? =some y:=by rw [← aG];exact hi
   simp only [hd,cond_true,eR,bWu,hy,aA,bLi,hw]
   unfold zJ
   cases y.1==x.1
   ·rfl
   ·cases y.2.1==x.2.1<;>rfl) (by simp)]
  cases bZ (zJ x l) 0 l with
  | some r=>rfl
  | none=>
   have e1:bU (1:Int) ((l++[x]).length:Int) ((l++[x]).length:Int)=true:=by
    have :=aCc (a:=1) (b:=(l++[x]).length) (n:=(l++[x]).length)
    rw [show ((1:Nat):Int)=1 from rfl] at this
    rw [this];simp
   have e2:=aXr (l:=l++[x]) (by simp)
   simp only [aA,bXp,aD (b:=24) (n:=l.length) (m:=1) (by decide) (by omega),cond_true,aUf,e1,e2,aRm (l:=(l++[x]).drop 1) (by simp;omega)]
   by_cases c:16<l.length+1
   ·have c2:(16:Int)<(l.length:Int)+1:=by omega
    simp [c,c2]
   ·have c2: ¬ (16:Int)<(l.length:Int)+1:=by omega
    simp [c,c2]

theorem bTp {l:List (den tRv)} {x:den tRv} (h:l.length<=1073741824):kT l x=some (aI4 l x):=by
 unfold kT aI4 ixb pj3
 rw [aD (b:=24) (n:=([]:List (den tRv)).length) (by decide) (by simp;omega)]
 simp only [cond_true,aA,aO,aCs,bXg]
 cases hv:dM x with
 | false=>rfl
 | true=>
  simp only [bWo,cond_false,cond_true]
  rw [aY (l:=l) (zJ x l) (by omega) (fun k y hi hd hw hm hk=>by
   have hy:l[k]? =some y:=by rw [← aG];exact hi
   have hk2:decide (k<l.length)=true:=by simpa using hk
   simp only [hd,cond_true,eR,bWu,hy,aA,bBf,hw,hk2]
   unfold zJ
   cases y.1==x.1
   ·rfl
   ·cases y.2.1==x.2.1<;>rfl) (by simp)]
  cases bZ (zJ x l) 0 l with
  | some r=>rfl
  | none=>
   have e1:bU (1:Int) ((l++[x]).length:Int) ((l++[x]).length:Int)=true:=by
    have :=aCc (a:=1) (b:=(l++[x]).length) (n:=(l++[x]).length)
    rw [show ((1:Nat):Int)=1 from rfl] at this
    rw [this];simp
   have e2:=aXr (l:=l++[x]) (by simp)
   simp only [aA,bXp,aD (b:=24) (n:=l.length) (m:=1) (by decide) (by omega),cond_true,aUf,e1,e2]
   by_cases c:16<l.length+1
   ·have c2:(16:Int)<(l.length:Int)+1:=by omega
    simp [c,c2]
   ·have c2: ¬ (16:Int)<(l.length:Int)+1:=by omega
    simp [c,c2]

def aJi (s:den cR) (a:List Int):List Int:=
 (fun b=>cond (s.2.2 != 0) (b++[wr (wr (8 * s.1)+s.2.2)]) b) (cond (s.2.1 != 0) (a++[wr (wr (8 * s.1)+s.2.1)]) a)

theorem aMm (s:den cR) (a:List Int):(aJi s a).length<=a.length+2:=by
 unfold aJi
 cases s.2.1 != 0<;>cases s.2.2 != 0<;>simp

def hO (p:den tPt):List Int:=cG (fun _ s a=>aJi s a) 0 (gK p) []

theorem aEw {α:Type} (l:List α):(l.map fun _=>2).sum=2 * l.length:=by
 induction l with
 | nil=>rfl
 | cons x l ih=>simp only [bW7,bX0,ih,bXo];omega

theorem aXv {p:den tPt} (h:tot tPt p<=1073741824):fK p=some (hO p):=by
 have hl:=aA1 p
 unfold fK wV hO
 rw [aP1 (bWl h (by decide))]
 simp only [aA]
 rw [mZ (fun k (a:List Int)=>((k:Int),a)) ((0:Int),[]) [] (gK p) (fun _ s a=>aJi s a) bW0 (fun _=>2) 68719476736 id rfl (by omega) (by rw [aEw];simp;omega) (fun k x a=>aMm x a) (fun k x a hi hx hd hw hk hb=>by
  simp only [hd,hi,hw,cond_true,aA,aD (b:=8) (n:=a.length) (m:=1) (by decide) (by omega)]
  unfold aJi
  cases x.2.1 != 0<;>cases x.2.2 != 0<;>simp [aD (b:=8) (n:=a.length) (m:=1) (by decide) (by omega),aD (b:=8) (n:=a.length+1) (m:=1) (by decide) (by omega)]) (fun a=>by simp)]
 rfl

theorem aXy {p:den tPt} (h:tot tPt p<=1073741824):fI p=some (hO p):=by
 have hl:=aA1 p
 unfold fI hO ixb
 rw [aEe (bWl h (by decide))]
 simp only [aA]
 rw [mZ (fun k (a:List Int)=>((k:Int),a)) ((0:Int),[]) [] (gK p) (fun _ s a=>aJi s a) bW0 (fun _=>2) 68719476736 id rfl (by omega) (by rw [aEw];simp;omega) (fun k x a=>aMm x a) (fun k x a hi hx hd hw hk hb=>by
  simp only [hd,hx,hw,cond_true,aA,eR,bWu,aD (b:=8) (n:=a.length) (m:=1) (by decide) (by omega)]
  unfold aJi
  cases x.2.1 != 0<;>cases x.2.2 != 0<;>simp [aD (b:=8) (n:=a.length) (m:=1) (by decide) (by omega),aD (b:=8) (n:=a.length+1) (m:=1) (by decide) (by omega)]) (fun a=>by simp)]
 rfl

def mV (l:List Int) (n:Int):Bool:= !(l.all fun x=> !(x==n))

theorem aKa {l:List Int} {n:Int} (h:l.length<=68719476736):mC l n=some (mV l n):=by
 unfold mC mV
 rw [aY (l:=l) (fun _ x=>if !(x==n) then none else some true) (by omega) (fun k x hi hd hw hm hk=>by
  simp only [hd,hi,hw,cond_true,aA]
  cases x==n<;>rfl) (by simp),mY (fun x:Int=> !(x==n))]
 cases l.all (fun x=> !(x==n))<;>rfl

theorem aFh {l:List Int} {n:Int} (h:l.length<=68719476736):eV l n=some (mV l n):=by
 unfold eV mV
 rw [aY (l:=l) (fun _ x=>if !(x==n) then none else some true) (by omega) (fun k x hi hd hw hm hk=>by
  simp only [hd,hi,hw,cond_true,aA]
  cases x==n<;>rfl) (by simp),mY (fun x:Int=> !(x==n))]
 cases l.all (fun x=> !(x==n))<;>rfl

theorem aF3 (p:den tPt):(hO p).length<=2 * tot tPt p:=by
 have h:=aBa (f:=fun _ s (a:List Int)=>aJi s a) (m:=bW0) (cost:=fun _=>2) (fun k x a=>aMm x a) (gK p) 0 []
 have hl:=aA1 p
 rw [aEw] at h
 unfold hO
 simp at h
 omega

def qP (p:den tPt) (x:den tRv):Bool:=dM x&&mV (hO p) (wr (wr (8 * x.1)+x.2.1))

theorem bFh {p:den tPt} {x:den tRv} (h:tot tPt p<=1073741824):qE p x=some (qP p x):=by
 have :=aF3 p
 unfold qE qP pj3
 simp only [aO,aB1,aA,aXv h,aKa (l:=hO p) (by omega)]
 cases dM x<;>rfl

theorem aR5 {p:den tPt} {x:den tRv} (h:tot tPt p<=1073741824):pR p x=some (qP p x):=by
 have :=aF3 p
 unfold pR qP pj3
 simp only [aO,aCs,aA,aXy h,aFh (l:=hO p) (by omega)]
 cases dM x<;>rfl

theorem aJv {α R:Type} (m:R→Nat) (B:Nat) {g:Nat→α→Option R}: ∀ {l:List α} {k:Nat},(∀ j x r,l[j]? =some x→g (k+j) x=some r→m r<=B)→ ∀ r,bZ g k l=some r→m r<=B
 | [],_,_,r,h=>by cases h
 | x::xs,k,hg,r,h=>by
  simp only [bZ] at h
  cases hx:g k x with
  | some r'=>rw [hx] at h;injection h with h;subst h;exact hg 0 x r' rfl hx
  | none=>
   rw [hx] at h
   exact aJv m B (fun j y r hy hr=>hg (j+1) y r (by simpa using hy) (by rw [show k+(j+1)=k+1+j by omega];exact hr)) r h

theorem bGk (l:List (den tRv)):tot (.sl tRv) l=l.length:=by
 induction l with
 | nil=>rfl
 | cons x l ih=>rw [kM,ih];simp [tot];omega

theorem bK4 (l:List (den tRv)) (x:den tRv):tot (.sl tRv) (aI4 l x)<=l.length+1:=by
 rw [bGk]
 unfold aI4
 cases dM x with
 | false=>simp
 | true=>
  simp only [cond_true]
  cases hs:bZ (zJ x l) 0 l with
  | some r=>
   refine aJv bW0 (l.length+1) (g:=zJ x l) (l:=l) (k:=0) (fun j y r' hy hr=> ?_) r hs
   unfold zJ at hr
   cases c1:y.1==x.1 with
   | false=>rw [c1] at hr;cases hr
   | true=>
    cases c2:y.2.1==x.2.1 with
    | false=>rw [c1,c2] at hr;cases hr
    | true=>rw [c1,c2] at hr;injection hr with hr;rw [← hr];simp
  | none=>
   by_cases c:16<l.length+1
   ·simp [c]
   ·simp [c]

def aPp (f:den tFl) (x:den tRv):Bool:=inR f.2.2.2.2.2.2.1 0 ((f.2.2.2.2.2.1.length:Int) - 1)&&qP ((f.2.2.2.2.2.1[f.2.2.2.2.2.2.1.toNat]?).getD []) x

def zK (b:List Int):den tRv:=((vZ b).1,(vZ b).2.1,(vZ b).2.2.1)

def yB (f:den tFl) (p:den tPk):den tFl:=
 cond (p.1==3&&(vZ p.2.2.2.2.2.2.2.2.2).2.2.2)
  (f.1,f.2.1,f.2.2.1,f.2.2.2.1,f.2.2.2.2.1,f.2.2.2.2.2.1,cond (aPp f (zK p.2.2.2.2.2.2.2.2.2)) (tY f) f.2.2.2.2.2.2.1,cond (aPp f (zK p.2.2.2.2.2.2.2.2.2)) 0 f.2.2.2.2.2.2.2.1,aI4 f.2.2.2.2.2.2.2.2 (zK p.2.2.2.2.2.2.2.2.2)) f


def bUf (f:den tFl):Int×Int×Int×Int×Int×Int×(List (den tRv))×(List (den tMs))×(List (den tPt)):=(f.1,f.2.1,f.2.2.1,f.2.2.2.1,f.2.2.2.2.2.2.1,f.2.2.2.2.2.2.2.1,f.2.2.2.2.2.2.2.2,f.2.2.2.2.1,f.2.2.2.2.2.1)

theorem aYf {f:den tFl} (h:tot tFl f<=1073741824) (hr:inR f.2.2.2.2.2.2.1 0 ((f.2.2.2.2.2.1.length:Int) - 1)=true): ∃ q,f.2.2.2.2.2.1[f.2.2.2.2.2.2.1.toNat]? =some q∧idx f.2.2.2.2.2.1 f.2.2.2.2.2.2.1=some q∧tot tPt q<=1073741824:=by
 obtain ⟨h0,h1⟩:=bI.1 hr
 obtain ⟨q,hq⟩:=yM h0 h1
 have ht:=xV (t:=tPt) hq
 have hp:tot (.sl tPt) f.2.2.2.2.2.1<=1073741824:=aGi (bG (bG (bG (bG (bG h)))))
 exact ⟨q,hq,aHj h0 hq,by omega⟩

theorem bPf {f:den tFl} {p:den tPk} {now:Int} (h:tot tFl f<=1073741824) (hp:tot tPk p<=1073741824) (hb: ∀ x∈p.2.2.2.2.2.2.2.2.2,0<=x∧x<=255):gT f p now=some (nM (yB f p)):=by
 have hf:SmB 68719476736 tFl f:=(bE h).mono (by decide)
 have hl:p.2.2.2.2.2.2.2.2.2.length<=68719476736:=bWl (eI (t:=tb) _) (bWl (bG (bG (bG (bG (bG (bG (bG (bG (bG hp))))))))) (by decide))
 have hv:f.2.2.2.2.2.2.2.2.length<=1073741824:=bWl (eI (t:=tRv) _) (bG (bG (bG (bG (bG (bG (bG (bG h))))))))
 have hn:f.2.2.2.2.2.1.length<=68719476736:=hf.2.2.2.2.2.1.1
 unfold gT yB pj9 zz4 zz5 zz6 zz7 zz8 zz9
 simp only [aO,aHi hf,aA,bRd hb hl,kC,lH hn,aY5,bSu hv,bne]
 cases c1:p.1==3
 ·simp only [bWw,cond_true,aA,bXa,cond_false]
 ·cases c2:(vZ p.2.2.2.2.2.2.2.2.2).2.2.2
  ·simp only [bWo,bWw,cond_true,cond_false,aA,bW6]
  ·simp only [bWo,cond_true,cond_false,aA,bW6]
   unfold aPp
   cases c3:inR f.2.2.2.2.2.2.1 0 ((f.2.2.2.2.2.1.length:Int) - 1)
   ·simp only [cond_false,aA,bXa];rfl
   ·obtain ⟨q,hq,hi,ht⟩:=aYf h c3
    have ha:=bFh (p:=q) (x:=zK p.2.2.2.2.2.2.2.2.2) ht
    have ha:qE q ((vZ p.2.2.2.2.2.2.2.2.2).1,(vZ p.2.2.2.2.2.2.2.2.2).2.1,(vZ p.2.2.2.2.2.2.2.2.2).2.2.1)=some (qP q (zK p.2.2.2.2.2.2.2.2.2)):=ha
    simp only [cond_true,hi,hq,bXi,aA,ha,bW6]
    cases qP q (zK p.2.2.2.2.2.2.2.2.2)<;>rfl

theorem bO0 {f:den tFl} {p:den tPk} {now:Int} (h:tot tFl f<=1073741824) (hp:tot tPk p<=1073741824) (hb: ∀ x∈p.2.2.2.2.2.2.2.2.2,0<=x∧x<=255):gU f p now=some (bUf (yB f p)):=by
 have hf:SmB 68719476736 tFl f:=(bE h).mono (by decide)
 have hl:p.2.2.2.2.2.2.2.2.2.length<=68719476736:=bWl (eI (t:=tb) _) (bWl (bG (bG (bG (bG (bG (bG (bG (bG (bG hp))))))))) (by decide))
 have hv:f.2.2.2.2.2.2.2.2.length<=1073741824:=bWl (eI (t:=tRv) _) (bG (bG (bG (bG (bG (bG (bG (bG h))))))))
 have hn:f.2.2.2.2.2.1.length<=68719476736:=hf.2.2.2.2.2.1.1
 unfold gU yB pj3 pj9 zz4 zz5 zz6 zz7 zz8 zz9
 simp only [aO,aCi hf,aA,bSs hb hl,hZ,lH hn,bTp hv,bne]
 cases c1:p.1==3
 ·simp only [bWw,cond_true,aA,bXa,cond_false];rfl
 ·cases c2:(vZ p.2.2.2.2.2.2.2.2.2).2.2.2
  ·simp only [bWo,bWw,cond_true,cond_false,aA,bW6];rfl
  ·simp only [bWo,cond_true,cond_false,aA,bW6]
   unfold aPp
   cases c3:inR f.2.2.2.2.2.2.1 0 ((f.2.2.2.2.2.1.length:Int) - 1)
   ·simp only [cond_false,aA,bXa];rfl
   ·obtain ⟨q,hq,hi,ht⟩:=aYf h c3
    have ha:=aR5 (p:=q) (x:=zK p.2.2.2.2.2.2.2.2.2) ht
    have ha:pR q ((vZ p.2.2.2.2.2.2.2.2.2).1,(vZ p.2.2.2.2.2.2.2.2.2).2.1,(vZ p.2.2.2.2.2.2.2.2.2).2.2.1)=some (qP q (zK p.2.2.2.2.2.2.2.2.2)):=ha
    simp only [cond_true,hi,hq,bXi,aA,ha,bW6,bE9 hf c3]
    cases qP q (zK p.2.2.2.2.2.2.2.2.2)<;>rfl

theorem bFn (f:den tFl) (p:den tPk):tot tFl (yB f p)<=tot tFl f+1:=by
 unfold yB
 cases (p.1==3&&(vZ p.2.2.2.2.2.2.2.2.2).2.2.2)
 ·simp
 ·have h1:=bK4 f.2.2.2.2.2.2.2.2 (zK p.2.2.2.2.2.2.2.2.2)
  have h2:=bGk f.2.2.2.2.2.2.2.2
  simp only [cond_true,qW,tL]
  omega

def iS (h:den aL):Bool:=inR h.1 0 7&&(inR h.2.1 0 6&&(inR h.2.2.1 0 6&&(!(h.2.1==h.2.2.1)&&(inR h.2.2.2.1 0 1000000&&jB h.2.2.2.2))))

theorem aM3 (h:den aL):lU h=some (iS h):=by
 unfold lU iS zz4
 simp only [kC,aEo,aA,bne]
 cases inR h.1 0 7<;>cases inR h.2.1 0 6<;>cases inR h.2.2.1 0 6<;>cases h.2.1==h.2.2.1<;>cases inR h.2.2.2.1 0 1000000<;>rfl

theorem aIu (h:den aL):iU h=some (iS h):=by
 unfold iU iS zz4
 simp only [hZ,aCx,aA,bne]
 cases inR h.1 0 7<;>cases inR h.2.1 0 6<;>cases inR h.2.2.1 0 6<;>cases h.2.1==h.2.2.1<;>cases inR h.2.2.2.1 0 1000000<;>rfl

theorem aOt (n k:Nat):decide ((n:Int)>(k:Int))= !decide (n<=k):=by rw [bXc];simp

def aD1 (l:List (den aL)):Bool:=decide (l.length<=8)&&l.all iS

theorem bOu {l:List (den aL)} (h:l.length<=68719476736):kQ l=some (aD1 l):=by
 unfold kQ aD1 pj5
 rw [aY (l:=l) (fun _ x=>if iS x then none else some false) (by omega) (fun k x hi hd hw hm hk=>by
  simp only [hd,hi,hw,cond_true,aA,aO,aM3]
  cases iS x<;>rfl) (by simp),mY iS]
 have e:=aOt l.length 8
 rw [show ((8:Nat):Int)=8 from rfl] at e
 rw [e]
 cases decide (l.length<=8)<;>cases l.all iS<;>rfl

def zI (p:den tPp):Bool:=inR p.1 1 4&&(inR p.2.1 0 1000000&&(jB p.2.2.1&&aD1 p.2.2.2))

theorem bRb {p:den tSg} (h:p.2.2.length<=68719476736):rU p=some (inR p.1 0 1000000&&(jB p.2.1&&aD1 p.2.2)):=by
 unfold rU aD1 pj5
 rw [aY (l:=p.2.2) (fun _ x=>if iS x then none else some false) (by omega) (fun k x hi hd hw hm hk=>by
  simp only [hd,hi,hw,cond_true,aA,aO,aIu]
  cases iS x<;>rfl) (by simp),mY iS]
 have e:=aOt p.2.2.length 8
 rw [show ((8:Nat):Int)=8 from rfl] at e
 rw [e,hZ,aCx]
 cases inR p.1 0 1000000<;>cases jB p.2.1<;>cases decide (p.2.2.length<=8)<;>cases p.2.2.all iS<;>rfl

def aFl (p:den tPt):Bool:=decide (p.length<=3)&&p.all zI

theorem bTc {p:den tPt} (h:SmB 68719476736 tPt p):kP p=some (aFl p):=by
 unfold kP aFl
 rw [aY (l:=p) (fun _ x=>if zI x then none else some false) (bWl h.1 (by decide)) (fun k x hi hd hw hm hk=>by
  have hx:=(h.2 x hm).2.2.2.1
  simp only [hd,hi,hw,cond_true,aA,aO,kC,aEo,bOu hx]
  unfold zI
  cases inR x.1 1 4<;>cases inR x.2.1 0 1000000<;>cases jB x.2.2.1<;>cases aD1 x.2.2.2<;>rfl) (by simp),mY zI]
 have e:=aOt p.length 3
 rw [show ((3:Nat):Int)=3 from rfl] at e
 rw [e]
 cases decide (p.length<=3)<;>cases p.all zI<;>rfl

theorem bRi {p:den tPt} (h:SmB 68719476736 tPt p):kN p=some (aFl p):=by
 unfold kN aFl pj3
 rw [aY (l:=p) (fun _ x=>if zI x then none else some false) (bWl h.1 (by decide)) (fun k x hi hd hw hm hk=>by
  have hx:=(h.2 x hm).2.2.2.1
  have hs:=bRb (p:=(x.2.1,x.2.2.1,x.2.2.2)) hx
  simp only [hd,hi,hw,cond_true,aA,aO,hZ]
  simp only [aO] at hs
  simp only [hs,aA]
  unfold zI
  cases inR x.1 1 4<;>cases inR x.2.1 0 1000000<;>cases jB x.2.2.1<;>cases aD1 x.2.2.2<;>rfl) (by simp),mY zI]
 have e:=aOt p.length 3
 rw [show ((3:Nat):Int)=3 from rfl] at e
 rw [e]
 cases decide (p.length<=3)<;>cases p.all zI<;>rfl

def aHo (x:den tPp):Bool:= !((x.2.2.2.length:Int)==0)

def fD (p:den tPk):Bool:=inR p.1 1 3&&(aFl p.2.2.2.1&&(cA p&&(jB p.2.2.2.2.2.2.1&&(p.2.2.2.1.all aHo&&(inR p.2.1 0 7&&(inR p.2.2.1 0 7&&(inR p.2.2.2.2.2.2.2.1 0 100000&&(inR p.2.2.2.2.2.2.2.2.1 0 100000&&decide ((p.2.2.2.2.2.2.2.2.2.length:Int)<=40)))))))))

theorem bS4 {p:den tPk} (h:aFl p.2.2.2.1=true):decide (cO p<0)= !cA p:=by
 cases c:cA p with
 | false=>rw [zG c];rfl
 | true=>
  obtain ⟨i,j,x,y,h1,h2,h3,h4,h5⟩:=aBj c
  rw [h5]
  unfold aFl at h
  have ha:=(bWm _ _▸h:_∧_).2
  have hx:=bXb.1 ha x (bWx h3)
  unfold zI aD1 at hx
  simp only [bWm] at hx
  have hy:=bXb.1 hx.2.2.2.2 y (bWx h4)
  unfold iS at hy
  simp only [bWm,bI] at hy
  have :=hy.1.1
  simp;omega

theorem bIy {p:den tPk} (h:SmB 68719476736 tPk p):nS p=some (fD p):=by
 unfold nS fD aI zz6 zz7 zz8 zz9
 rw [aY (l:=p.2.2.2.1) (fun _ x=>if aHo x then none else some false) (bWl h.2.2.2.1.1 (by decide)) (fun k x hi hd hw hm hk=>by
  simp only [hd,hi,hw,cond_true,aA]
  unfold aHo
  cases (x.2.2.2.length:Int)==0<;>rfl) (by simp),mY aHo]
 simp only [kC,aO,aEg h,bTc h.2.2.2.1,aEo,aA]
 cases inR p.1 1 3
 ·rfl
 ·cases he:aFl p.2.2.2.1
  ·rfl
  ·rw [bS4 he]
   cases hz:(p.2.2.2.1.length:Int)==0
   ·cases cA p<;>simp only [bWo,bWw,cond_true,cond_false,aA,bXa,bW6]
    cases jB p.2.2.2.2.2.2.1<;>simp only [bWo,bWw,cond_true,cond_false,aA,bXa,bW6]
    cases p.2.2.2.1.all aHo<;>cases inR p.2.1 0 7<;>cases inR p.2.2.1 0 7<;>cases inR p.2.2.2.2.2.2.2.1 0 100000<;>cases inR p.2.2.2.2.2.2.2.2.1 0 100000<;>rfl
   ·have hh:cA p=false:=by
     have hl:(p.2.2.2.1.length:Int)=0:=by simpa using hz
     unfold cA
     have :inR p.2.2.2.2.1 0 ((p.2.2.2.1.length:Int) - 1)=false:=by rw [aX7];omega
     rw [this];rfl
    rw [hh]
    rfl

theorem aVj {p:den tPk} (h:SmB 68719476736 tPk p):iF p=some (fD p):=by
 have l1:=h.2.2.2.1.1
 unfold iF fD zz4 zz5 zz6 zz7 zz8 zz9
 rw [aY (l:=p.2.2.2.1) (fun _ x=>if aHo x then none else some false) (bWl h.2.2.2.1.1 (by decide)) (fun k x hi hd hw hm hk=>by
  simp only [hd,hi,hw,cond_true,aA]
  unfold aHo
  cases (x.2.2.2.length:Int)==0<;>rfl) (by simp),mY aHo]
 simp only [hZ,lH l1,bRi h.2.2.2.1,aCx,aA]
 unfold cA
 cases inR p.1 1 3
 ·rfl
 ·cases he:aFl p.2.2.2.1
  ·rfl
  ·cases c1:inR p.2.2.2.2.1 0 ((p.2.2.2.1.length:Int) - 1)
   ·rfl
   ·rw [bI] at c1
    obtain ⟨x,hx⟩:=yM c1.1 c1.2
    have l2:=(h.2.2.2.1.2 _ (bWx hx)).2.2.2.1
    rw [aHj c1.1 hx,hx]
    simp only [bWo,cond_false,aA,bXi,lH l2,bW6]
    cases jB p.2.2.2.2.2.2.1<;>cases inR p.2.2.2.2.2.1 0 ((x.2.2.2.length:Int) - 1)<;>cases p.2.2.2.1.all aHo<;>cases inR p.2.1 0 7<;>cases inR p.2.2.1 0 7<;>cases inR p.2.2.2.2.2.2.2.1 0 100000<;>cases inR p.2.2.2.2.2.2.2.2.1 0 100000<;>rfl

def zM (a b:Int) (f:den tFl):Bool:=(f.1==a&&f.2.1==b)||(f.1==b&&f.2.1==a)

def sW (e:den cL):den tPk:=e.2.2.2.2.2

noncomputable def harm (w:den tNw) (e:den cL):Bool:=
 cond (!(e.1==7)||(!fD (sW e)||(sW e).1==3)) true (cond (w.2.2.2.2.2.1.all fun x=> !aAi x.2.2 (sW e)) (w.2.2.2.2.2.2.1.all fun f=> !zM (sW e).2.1 (sW e).2.2.1 f) true)

theorem bF5 {w:den tNw} {a b:Int} (hw:SmB 68719476736 tNw w):mU w a b=some (!(w.2.2.2.2.2.2.1.all fun f=> !zM a b f)):=by
 unfold mU zz6
 rw [aY (l:=w.2.2.2.2.2.2.1) (fun _ f=>if !zM a b f then none else some true) (bWl hw.2.2.2.2.2.2.1.1 (by decide)) (fun k x hi hd hw hm hk=>by
  simp only [hd,hi,hw,cond_true,aA]
  unfold zM
  cases x.1==a<;>cases x.2.1==b<;>cases x.1==b<;>cases x.2.1==a<;>rfl) (by simp),mY (fun f:den tFl=> !zM a b f)]
 cases w.2.2.2.2.2.2.1.all (fun f=> !zM a b f)<;>rfl

theorem bS0 {w:den tNw} {e:den cL} (hw:SmB 68719476736 tNw w) (he:SmB 68719476736 cL e):pG w e=some (harm w e):=by
 have hp:SmB 68719476736 tPk (sW e):=he.2.2.2.2.2
 unfold pG harm aI eL zz5 zz6 zz7
 rw [aY (l:=w.2.2.2.2.2.1) (fun _ x=>if !aAi x.2.2 (sW e) then none else some true) (bWl hw.2.2.2.2.2.1.1 (by decide)) (fun k x hi hd hw2 hm hk=>by
  have hs:kE x.2.2 e.2.2.2.2.2=some (aAi x.2.2 (sW e)):=bOe (hw.2.2.2.2.2.1.2 x hm).2.2 hp
  simp only [hd,hi,hw2,cond_true,aA,aO,hs]
  cases aAi x.2.2 (sW e)<;>rfl) (by simp),mY (fun x:den tFy=> !aAi x.2.2 (sW e))]
 have hv:iF e.2.2.2.2.2=some (fD (sW e)):=aVj hp
 have hf:mU w e.2.2.2.2.2.2.1 e.2.2.2.2.2.2.2.1=some (!(w.2.2.2.2.2.2.1.all fun f=> !zM (sW e).2.1 (sW e).2.2.1 f)):=bF5 hw
 simp only [aO,hv,hf,aA,bne]
 show @Option.bind Bool Bool (cond (!(e.1==7)) (some true) (cond (!fD (sW e)) (some true) (cond ((sW e).1==3) (some true) _))) _=_
 cases e.1==7
 ·rfl
 ·cases fD (sW e)
  ·rfl
  ·cases (sW e).1==3
   ·cases w.2.2.2.2.2.1.all (fun x=> !aAi x.2.2 (sW e))<;>cases w.2.2.2.2.2.2.1.all (fun f=> !zM (sW e).2.1 (sW e).2.2.1 f)<;>rfl
   ·rfl

abbrev aDa (l:List (den tRs)) (now:Int):List (den tRs):=l.filter fun x=>decide (now<=x.2.2.2.2)

theorem bKn {l:List (den tRs)} {now:Int} (h:l.length<=1073741824):fB l now=some (aDa l now):=by
 unfold fB pj5 zz4
 rw [(aKh (l:=l) (out:=fun a=>a) (fun (a:List (den tRs)) x=>if decide (now<=x.2.2.2.2) then a++[x] else a) (fun k a=>a.length<=k) (by omega) (by simp) (fun k x a hi hd hw hx hk hI=>by
  simp only [hd,hi,hw,cond_true,aA]
  by_cases hp:now<=x.2.2.2.2
  ·simp [hp,aD (b:=40) (n:=a.length) (m:=1) (by decide) (by omega)];omega
  ·simp [hp];omega) (fun a=>by simp)).1]
 simp only [aBn,bXg,aA]

theorem bIa {l:List (den tRs)} {now:Int} (h:l.length<=1073741824):fE l now=some (aDa l now):=by
 unfold fE pj5 zz4
 rw [(aKh (l:=l) (out:=fun a=>a) (fun (a:List (den tRs)) x=>if decide (now<=x.2.2.2.2) then a++[x] else a) (fun k a=>a.length<=k) (by omega) (by simp) (fun k x a hi hd hw hx hk hI=>by
  simp only [hd,hi,hw,cond_true,aA]
  by_cases hp:now<=x.2.2.2.2
  ·simp [hp,aD (b:=40) (n:=a.length) (m:=1) (by decide) (by omega)];omega
  ·simp [hp];omega) (fun a=>by simp)).1]
 simp only [aBn,bXg,aA]

def atR (x:den tRs) (s d:Int):Bool:=x.2.1==s&&x.2.2.1==d

theorem bIu (x:den tRs) (s d:Int):dS x s d=some (atR x s d):=by
 unfold dS atR
 cases x.2.1==s<;>simp

theorem bRw (x:den tRs) (s d now:Int):xW x s d now=some (atR x s d&&decide (now<=x.2.2.2.2)):=by
 unfold xW atR zz4
 cases x.2.1==s<;>cases x.2.2.1==d<;>simp

def rate (l:List (den tRs)) (s d now:Int):Int:=l.foldl (fun a x=>if atR x s d&&decide (now<=x.2.2.2.2) then wr (a+x.2.2.2.1) else a) 0

theorem bGf {l:List (den tRs)} {s d now:Int} (h:l.length<=1073741824):iH l s d now=some (rate l s d now):=by
 unfold iH pj5 zz4
 rw [(aNj (l:=l) (out:=fun a=>a) (fun (a:Int) x=>if atR x s d&&decide (now<=x.2.2.2.2) then wr (a+x.2.2.2.1) else a) (fun _ _=>True) (by omega) trivial (fun k x a hi hd hw hx hk hI=>by
  refine ⟨?_,trivial⟩
  simp only [hd,hi,hw,cond_true,aA]
  rw [show ((x.1,x.2.1,x.2.2.1,x.2.2.2.1,x.2.2.2.2):den tRs)=x from rfl,bIu]
  cases atR x s d<;>cases decide (now<=x.2.2.2.2)<;>rfl) (fun a=>by simp)).1]
 rfl

theorem bFy {l:List (den tRs)} {s d now:Int} (h:l.length<=1073741824):iG l s d now=some (rate l s d now):=by
 unfold iG pj5
 rw [(aNj (l:=l) (out:=fun a=>a) (fun (a:Int) x=>if atR x s d&&decide (now<=x.2.2.2.2) then wr (a+x.2.2.2.1) else a) (fun _ _=>True) (by omega) trivial (fun k x a hi hd hw hx hk hI=>by
  refine ⟨?_,trivial⟩
  simp only [hd,hi,hw,cond_true,aA]
  rw [show ((x.1,x.2.1,x.2.2.1,x.2.2.2.1,x.2.2.2.2):den tRs)=x from rfl,bRw]
  cases atR x s d<;>cases decide (now<=x.2.2.2.2)<;>rfl) (fun a=>by simp)).1]
 rfl

def free (l:List (den tRs)) (cap s d now:Int):Int:=if wr (cap - rate l s d now)>0 then wr (cap - rate l s d now) else 0

theorem bQp {l:List (den tRs)} {cap s d now:Int} (h:l.length<=1073741824):uC l cap s d now=some (free l cap s d now):=by
 unfold uC
 simp only [bGf h,aA,bLi];rfl

theorem bSx {l:List (den tRs)} {cap s d now:Int} (h:l.length<=1073741824):uR l cap s d now=some (free l cap s d now):=by
 unfold uR
 simp only [bFy h,aA,bBf];rfl

def zR (l:List (den tRs)) (id s d now:Int):Int:=
 match bZ (fun _ (x:den tRs)=>if x.1==id&&(atR x s d&&decide (now<=x.2.2.2.2)) then some x.2.2.2.1 else none) 0 l with
 | some r=>r
 | none=>0

theorem bDd {l:List (den tRs)} {id s d now:Int} (h:l.length<=1073741824):iL l id s d now=some (zR l id s d now):=by
 unfold iL pj5 zz4
 rw [aY (l:=l) (fun _ (x:den tRs)=>if x.1==id&&(atR x s d&&decide (now<=x.2.2.2.2)) then some x.2.2.2.1 else none) (by omega) (fun k x hi hd hw hx hk=>by
  simp only [hd,hi,hw,cond_true,aA]
  rw [show ((x.1,x.2.1,x.2.2.1,x.2.2.2.1,x.2.2.2.2):den tRs)=x from rfl,bIu]
  cases x.1==id<;>cases atR x s d<;>cases decide (now<=x.2.2.2.2)<;>rfl) (by simp)]
 unfold zR
 cases bZ (fun _ (x:den tRs)=>if x.1==id&&(atR x s d&&decide (now<=x.2.2.2.2)) then some x.2.2.2.1 else none) 0 l<;>rfl

theorem bDv {l:List (den tRs)} {id s d now:Int} (h:l.length<=1073741824):iK l id s d now=some (zR l id s d now):=by
 unfold iK pj5
 rw [aY (l:=l) (fun _ (x:den tRs)=>if x.1==id&&(atR x s d&&decide (now<=x.2.2.2.2)) then some x.2.2.2.1 else none) (by omega) (fun k x hi hd hw hx hk=>by
  simp only [hd,hi,hw,cond_true,aA]
  rw [show ((x.1,x.2.1,x.2.2.1,x.2.2.2.1,x.2.2.2.2):den tRs)=x from rfl,bRw]
  cases x.1==id<;>cases atR x s d<;>cases decide (now<=x.2.2.2.2)<;>rfl) (by simp)]
 unfold zR
 cases bZ (fun _ (x:den tRs)=>if x.1==id&&(atR x s d&&decide (now<=x.2.2.2.2)) then some x.2.2.2.1 else none) 0 l<;>rfl

def uS (x:den tRs):Bool:=inR x.1 1 100000&&(inR x.2.2.2.1 1 20&&dM (x.2.1,x.2.2.1,x.2.2.2.2))

theorem bJk (x:den tRs):gP x=some (uS x):=by
 unfold gP uS zz4
 simp only [kC,aB1,aA]
 cases inR x.1 1 100000<;>cases inR x.2.2.2.1 1 20<;>cases dM (x.2.1,x.2.2.1,x.2.2.2.2)<;>rfl

theorem bJ4 (x:den tRs):gZ x=some (uS x):=by
 unfold gZ uS zz4
 simp only [hZ,aCs,aA]
 cases inR x.1 1 100000<;>cases inR x.2.2.2.1 1 20<;>cases dM (x.2.1,x.2.2.1,x.2.2.2.2)<;>rfl

def kD (x y:den tRs):Bool:=y.1==x.1&&atR y x.2.1 x.2.2.1

theorem bF3 {l:List (den tRs)} {x:den tRs} (h:l.length<=1073741824):pS l x=some (l.filter fun y=> !kD x y):=by
 unfold pS pj5
 rw [(aKh (l:=l) (out:=fun a=>a) (fun (a:List (den tRs)) y=>if !kD x y then a++[y] else a) (fun k a=>a.length<=k) (by omega) (by simp) (fun k y a hi hd hw hx hk hI=>by
  simp only [hd,hi,hw,cond_true,aA]
  have hap:=aD (b:=40) (n:=a.length) (m:=1) (by decide) (by omega)
  unfold kD atR
  simp only [bne]
  cases h1:y.1==x.1<;>cases h2:y.2.1==x.2.1<;>cases h3:y.2.2.1==x.2.2.1<;>simp [hap]<;>omega) (fun a=>by simp)).1]
 simp only [aBn,bXg,aA]


def okR (l:List (den tRs)) (cap now:Int) (k:Nat) (x:den tRs):Bool:=uS x&&(!decide (rate l x.2.1 x.2.2.1 now>cap)&& !(l.take k).any (kD x))

def aA8 (l:List (den tRs)) (cap now:Int):Bool:=
 decide (l.length<=40)&&(bZ (fun k x=>if okR l cap now k x then none else some ()) 0 l).isNone

theorem aDx {α R S:Type} (p:Nat→α→Bool) (r:R) (s:S): ∀ (l:List α) (k:Nat),(bZ (fun k x=>if p k x then none else some r) k l).isNone=(bZ (fun k x=>if p k x then none else some s) k l).isNone∧ ∀ q,bZ (fun k x=>if p k x then none else some r) k l=some q→q=r
 | [],_=>⟨rfl,fun q h=>by cases h⟩
 | x::xs,k=>by
  simp only [bZ]
  cases p k x with
  | true=>simpa using aDx p r s xs (k+1)
  | false=>simp

theorem bBt {α:Type} (p:Nat→α→Bool) (l:List α):(match bZ (fun k x=>if p k x then none else some false) 0 l with
  | some r=>some r
  | none=>some true)=some (bZ (fun k x=>if p k x then none else some ()) 0 l).isNone:=by
 obtain ⟨h1,h2⟩:=aDx p false () l 0
 rw [← h1]
 cases h:bZ (fun k x=>if p k x then none else some false) 0 l with
 | none=>rfl
 | some q=>rw [h2 q h];rfl

theorem bD9 {l:List (den tRs)} {cap now:Int} (h:l.length<=1073741824):fR l cap now=some (aA8 l cap now):=by
 unfold fR aA8 pj5
 by_cases hl:l.length<=40
 ·rw [decide_eq_false (by omega),cond_false,decide_eq_true hl,bW6]
  rw [aY (l:=l) (fun k x=>if okR l cap now k x then none else some false) (by omega) (fun k x hi hd hw hx hk=>by
   have hslo:bU (0:Int) (k:Int) (l.length:Int)=true:=by simp [bU];omega
   have hlen:(l.take k).length<=1073741824:=by simp;omega
   simp only [hd,hi,hw,cond_true,aA,hslo,fZ]
   rw [show ((x.1,x.2.1,x.2.2.1,x.2.2.2.1,x.2.2.2.2):den tRs)=x from rfl,bJk,bGf h]
   unfold okR
   cases hv:uS x with
   | false=>rfl
   | true=>
    cases hr:decide (rate l x.2.1 x.2.2.1 now>cap) with
    | true=>simp [hr]
    | false=>
     simp only [aA,bWo,cond_false,hr,bWw,bW6]
     rw [aY (l:=l.take k) (R:=Int⊕(Unit⊕Bool)) (fun _ y=>if kD x y then some (bWi (bWi false)) else none) (by omega) (fun j y hi2 hd2 hw2 hx2 hk2=>by
      simp only [hd2,hi2,hw2,cond_true,aA]
      rw [show ((y.1,y.2.1,y.2.2.1,y.2.2.2.1,y.2.2.2.2):den tRs)=y from rfl,bIu]
      unfold kD
      cases y.1==x.1<;>cases atR y x.2.1 x.2.2.1<;>rfl) (by simp)]
     have key: ∀ (m:List (den tRs)) (j:Nat),bZ (fun _ y=>if kD x y then some (bWi (bWi false):Int⊕(Unit⊕Bool)) else none) j m=if m.any (kD x) then some (bWi (bWi false)) else none:=by
      intro m
      induction m with
      | nil=>intro j;rfl
      | cons y m ih=>
       intro j
       simp only [bZ,List.any_cons]
       rcases bY4 (kD x y) with hs | hs
       ·simp [hs]
       ·simp only [hs,ih,bWr,if_false]
        rfl
     rw [key]
     cases (l.take k).any (kD x)<;>simp) (by simp)]
  rw [← bBt]
  cases bZ (fun k x=>if okR l cap now k x then none else some false) 0 l<;>rfl
 ·rw [decide_eq_true (by omega),cond_true,decide_eq_false hl];rfl

def iW (id s d:Int) (x:den tUs):Bool:=x.1==id&&(x.2.1==s&&x.2.2.1==d)

def place (l:List (den tUs)) (id s d:Int):Int:=
 match bZ (fun k x=>if iW id s d x then some (k:Int) else none) 0 l with
 | some i=>i
 | none=> -1

theorem aJa (l:List (den tUs)) (id s d:Int):place l id s d= -1∨ ∃ (j:Nat) (x:den tUs),place l id s d=(j:Int)∧l[j]? =some x∧j<l.length:=by
 unfold place
 cases h:bZ (fun k x=>if iW id s d x then some (k:Int) else none) 0 l with
 | none=>exact .inl rfl
 | some i=>
  obtain ⟨j,x,h1,h2,h3⟩:=aMp h
  exact .inr ⟨j,x,by simpa using h2,h1,(bWs.1 h1).1⟩

theorem aRl {g:den tSc} {id s d:Int} (h:g.2.2.length<=1073741824):nZ g id s d=some (place g.2.2 id s d):=by
 unfold nZ
 rw [aY (l:=g.2.2) (fun k x=>if iW id s d x then some (k:Int) else none) (by omega) (fun k x hi hd hw hx hk=>by
  simp only [hd,hi,hw,cond_true,aA]
  unfold iW
  cases x.1==id<;>cases x.2.1==s<;>cases x.2.2.1==d<;>rfl) (by simp)]
 unfold place
 cases bZ (fun k x=>if iW id s d x then some (k:Int) else none) 0 g.2.2<;>rfl

theorem aYu {l:List (den tUs)} {id s d:Int} (h:l.length<=1073741824):oX l id s d=some (place l id s d):=by
 unfold oX
 rw [aY (l:=l) (fun k x=>if iW id s d x then some (k:Int) else none) (by omega) (fun k x hi hd hw hx hk=>by
  simp only [hd,hi,hw,cond_true,aA]
  unfold iW
  cases x.1==id<;>cases x.2.1==s<;>cases x.2.2.1==d<;>rfl) (by simp)]
 unfold place
 cases bZ (fun k x=>if iW id s d x then some (k:Int) else none) 0 l<;>rfl

def oJ (g:den tSc) (id s d now:Int):Int:=if id==0 then free g.2.1 g.1 s d now else zR g.2.1 id s d now

theorem aXx {g:den tSc} {id s d now:Int} (h:g.2.1.length<=1073741824):vM g id s d now=some (oJ g id s d now):=by
 unfold vM oJ
 rw [bQp h,bDd h]
 cases id==0<;>rfl

def okU (g:den tSc) (now:Int) (k:Nat) (x:den tUs):Bool:=place g.2.2 x.1 x.2.1 x.2.2.1==(k:Int)&&inR x.2.2.2 1 (oJ g x.1 x.2.1 x.2.2.1 now)

def aDj (g:den tSc) (now:Int):Bool:=inR g.1 1 20&&(aA8 g.2.1 g.1 now&&(bZ (fun k x=>if okU g now k x then none else some ()) 0 g.2.2).isNone)

theorem bH8 {g:den tSc} {now:Int} (h1:g.2.1.length<=1073741824) (h2:g.2.2.length<=1073741824):jM g now=some (aDj g now):=by
 unfold jM aDj pj3
 rw [aY (l:=g.2.2) (fun k x=>if okU g now k x then none else some false) (by omega) (fun k x hi hd hw hx hk=>by
  simp only [hd,hi,hw,cond_true,aA]
  rw [show ((g.1,g.2.1,g.2.2):den tSc)=g from rfl,aRl h2,aXx h1]
  unfold okU
  simp only [aA,kC,bne]
  cases place g.2.2 x.1 x.2.1 x.2.2.1==(k:Int)<;>cases inR x.2.2.2 1 (oJ g x.1 x.2.1 x.2.2.1 now)<;>rfl) (by simp)]
 rw [← aDx (okU g now) false () g.2.2 0 |>.1]
 have h3:=(aDx (okU g now) false () g.2.2 0).2
 simp only [kC,bD9 h1,aA]
 cases inR g.1 1 20<;>cases aA8 g.2.1 g.1 now<;>(cases hsc:bZ (fun k x=>if okU g now k x then none else some false) 0 g.2.2 with
  | none=>rfl
  | some q=>rw [h3 q hsc];rfl)

theorem jA {n:Nat} (h:n<=68719476736):wr ((n:Int) - 1)=(n:Int) - 1:=wri (by omega) (by omega)

def cK (t:den tTo) (r:Int):Bool:=inR r 0 ((t.1.length:Int) - 1)

theorem aHf {t:den tTo} {r:Int} (h:t.1.length<=68719476736):iV t r=some (cK t r):=by
 unfold iV cK
 rw [jA h,kC];rfl

theorem aDc {t:den tTo} {r:Int} (h:t.1.length<=68719476736):dE t r=some (cK t r):=by
 unfold dE cK
 rw [jA h,hZ];rfl

theorem bTz (n:Int):tW n=some (inR n 1 2147483646):=by unfold tW;rw [kC];rfl

theorem bTx (n:Int):tO n=some (inR n 1 2147483646):=by unfold tO;rw [hZ];rfl

def cM (l:den tLk) (r d:Int):Bool:=(l.1==r&&l.2.1==d)||(l.2.2.1==r&&l.2.2.2.1==d)

theorem aYl (l:den tLk) (r d:Int):eX l r d=some (cM l r d):=by
 unfold eX cM
 cases l.1==r<;>cases l.2.1==d<;>cases l.2.2.1==r<;>cases l.2.2.2.1==d<;>rfl

theorem aYp (l:den tLk) (r d:Int):sS l r d=some (cM l r d):=by
 unfold sS cM
 cases l.1==r<;>cases l.2.1==d<;>cases l.2.2.1==r<;>cases l.2.2.2.1==d<;>rfl

def aRb (k:Int) (x y:den tAS):Bool:=cond (k==1) (x.2.1&&y.2.1) (cond (k==2) (x.1==y.1&& !y.2.1) (cond (k==3) (!x.2.1&& !y.2.1) false))

def yC (t:den tTo) (l:den tLk):Bool:=
 cK t l.1&&(cK t l.2.2.1&&(!decide (l.1>=l.2.2.1)&&(inR l.2.1 1 6&&(inR l.2.2.2.1 1 6&&aRb l.2.2.2.2 ((t.1[l.1.toNat]?).getD (0,false,0)) ((t.1[l.2.2.1.toNat]?).getD (0,false,0))))))

theorem aD3 {t:den tTo} {r:Int} (h:cK t r=true): ∃ x,t.1[r.toNat]? =some x∧idx t.1 r=some x:=by
 obtain ⟨h0,h1⟩:=bI.1 h
 obtain ⟨x,hx⟩:=yM h0 h1
 exact ⟨x,hx,aHj h0 hx⟩

theorem bOd {t:den tTo} {l:den tLk} (h:t.1.length<=68719476736):yP t l=some (yC t l):=by
 unfold yP yC pj2 pj3 zz4
 simp only [aO,aHf h,kC,aA]
 cases c1:cK t l.1
 ·rfl
 ·cases c2:cK t l.2.2.1
  ·rfl
  ·obtain ⟨x,hx,ix⟩:=aD3 c1
   obtain ⟨y,hy,iy⟩:=aD3 c2
   rw [ix,iy,hx,hy]
   simp only [aV,bH,bA,aZ,bC,aA,bXi,bWo,cond_false,bW6]
   unfold aRb
   cases decide (l.1>=l.2.2.1)
   ·cases inR l.2.1 1 6
    ·rfl
    ·cases inR l.2.2.2.1 1 6
     ·rfl
     ·cases l.2.2.2.2==1
      ·cases l.2.2.2.2==2
       ·cases l.2.2.2.2==3
        ·rfl
        ·cases x.2.1<;>rfl
       ·cases x.1==y.1<;>rfl
      ·cases x.2.1<;>rfl
   ·rfl

theorem aYg {t:den tTo} {l:den tLk} (h:t.1.length<=68719476736):oZ t l=some (yC t l):=by
 unfold oZ yC pj2 zz4
 simp only [aO,aDc h,hZ,aA]
 cases c1:cK t l.1
 ·rfl
 ·cases c2:cK t l.2.2.1
  ·rfl
  ·obtain ⟨x,hx,ix⟩:=aD3 c1
   obtain ⟨y,hy,iy⟩:=aD3 c2
   rw [ix,iy,hx,hy]
   simp only [aA,bXi,bWo,cond_false,bW6]
   unfold aRb
   cases decide (l.1>=l.2.2.1)
   ·cases inR l.2.1 1 6
    ·rfl
    ·cases inR l.2.2.2.1 1 6
     ·rfl
     ·cases l.2.2.2.2==1
      ·cases l.2.2.2.2==2
       ·cases l.2.2.2.2==3
        ·rfl
        ·cases x.2.1<;>rfl
       ·cases x.1==y.1<;>rfl
      ·cases x.2.1<;>rfl
   ·rfl

def asP (t:den tTo) (k:Nat) (x:den tAS):Bool:=inR x.1 0 2&&(inR x.2.2 1 2147483646&&(t.1.take k).all fun y=> !(x.2.2==y.2.2))

def lkP (t:den tTo) (k:Nat) (x:den tLk):Bool:=yC t x&&(t.2.take k).all fun y=> !(cM y x.1 x.2.1||cM y x.2.2.1 x.2.2.2.1)

def aBp (t:den tTo):Bool:=inR (t.1.length:Int) 1 8&&((t.1.zipIdx 0).all (fun z=>asP t z.2 z.1)&&(t.2.zipIdx 0).all fun z=>lkP t z.2 z.1)

theorem wQ {k n:Nat} (h:k<n):bU (0:Int) (k:Int) (n:Int)=true:=by
 have :=aCc (a:=0) (b:=k) (n:=n)
 rw [show ((0:Nat):Int)=0 from rfl] at this
 rw [this];simp;omega

theorem aVb {α:Type} {l:List α} {k j:Nat} {x:α} (h:idx (l.take k) (j:Int)=some x):idx l (j:Int)=some x:=by
 rw [aG] at h ⊢
 exact (aVh h).1

theorem vF {α:Type} {l:List α} {k:Nat} (h:k<l.length):(l.take k).length=k:=by simp;omega

theorem bRx {t:den tTo} (h:SmB 68719476736 tTo t):kR t=some (aBp t):=by
 have l1:=h.1.1
 have l2:=h.2.1
 unfold kR aBp pj2 pj5
 rw [aY (l:=t.1) (fun k x=>if asP t k x then none else some false) (bWl l1 (by decide)) (fun k x hi hd hw hm hk=>by
  simp only [hd,hi,cond_true,aA,kC,bTz,wQ hk,fZ,hw]
  rw [aY (l:=t.1.take k) (fun _ y=>if !(x.2.2==y.2.2) then none else some (bWi (bWi false))) (by rw [vF hk];omega) (fun j y hi hd hw hm hk=>by
   simp only [hd,hi,hw,cond_true,aA]
   cases x.2.2==y.2.2<;>rfl) (by simp),mY (fun y:den tAS=> !(x.2.2==y.2.2))]
  unfold asP
  cases inR x.1 0 2<;>cases inR x.2.2 1 2147483646<;>cases (t.1.take k).all (fun y=> !(x.2.2==y.2.2))<;>rfl) (by simp),aCz (asP t)]
 rw [aY (l:=t.2) (fun k x=>if lkP t k x then none else some false) (bWl l2 (by decide)) (fun k x hi hd hw hm hk=>by
  simp only [hd,hi,cond_true,aA,aO,bOd l1,wQ hk,fZ,hw]
  rw [aY (l:=t.2.take k) (fun _ y=>if !(cM y x.1 x.2.1||cM y x.2.2.1 x.2.2.2.1) then none else some (bWi (bWi false))) (by rw [vF hk];omega) (fun j y hi hd hw hm hk=>by
   simp only [hd,hi,hw,cond_true,aA,aO,aYl]
   cases cM y x.1 x.2.1<;>cases cM y x.2.2.1 x.2.2.2.1<;>rfl) (by simp),mY (fun y:den tLk=> !(cM y x.1 x.2.1||cM y x.2.2.1 x.2.2.2.1))]
  unfold lkP
  cases yC t x<;>cases (t.2.take k).all (fun y=> !(cM y x.1 x.2.1||cM y x.2.2.1 x.2.2.2.1))<;>rfl) (by simp),aCz (lkP t)]
 rw [kC,aA]
 cases inR (t.1.length:Int) 1 8<;>cases (t.1.zipIdx 0).all (fun z=>asP t z.2 z.1)<;>cases (t.2.zipIdx 0).all (fun z=>lkP t z.2 z.1)<;>rfl

theorem bHk (a b:Int):(a==b)=(b==a):=by rw [bXc];simp;exact eq_comm

theorem bTd {t:den tTo} (h:SmB 68719476736 tTo t):kU t=some (aBp t):=by
 have l1:=h.1.1
 have l2:=h.2.1
 unfold kU aBp pj2 pj5
 rw [aY (l:=t.1) (fun k x=>if asP t k x then none else some false) (bWl l1 (by decide)) (fun k x hi hd hw hm hk=>by
  simp only [hd,hi,cond_true,aA,hZ,bTx,hw]
  rw [aY (l:=t.1.take k) (fun _ y=>if !(x.2.2==y.2.2) then none else some (bWi (bWi false))) (by rw [vF hk];omega) (fun j y hi2 hd hw hm hk2=>by
   rw [vF hk] at hd
   simp only [hd,aVb hi2,hi,hw,cond_true,aA,bHk y.2.2 x.2.2]
   cases x.2.2==y.2.2<;>rfl) (by rw [vF hk];simp),mY (fun y:den tAS=> !(x.2.2==y.2.2))]
  unfold asP
  cases inR x.1 0 2<;>cases inR x.2.2 1 2147483646<;>cases (t.1.take k).all (fun y=> !(x.2.2==y.2.2))<;>rfl) (by simp),aCz (asP t)]
 rw [aY (l:=t.2) (fun k x=>if lkP t k x then none else some false) (bWl l2 (by decide)) (fun k x hi hd hw hm hk=>by
  simp only [hd,hi,cond_true,aA,aO,aYg l1,hw]
  rw [aY (l:=t.2.take k) (fun _ y=>if !(cM y x.1 x.2.1||cM y x.2.2.1 x.2.2.2.1) then none else some (bWi (bWi false))) (by rw [vF hk];omega) (fun j y hi2 hd hw hm hk2=>by
   rw [vF hk] at hd
   simp only [hd,aVb hi2,hi,hw,cond_true,aA,aO,aYp]
   cases cM y x.1 x.2.1<;>cases cM y x.2.2.1 x.2.2.2.1<;>rfl) (by rw [vF hk];simp),mY (fun y:den tLk=> !(cM y x.1 x.2.1||cM y x.2.2.1 x.2.2.2.1))]
  unfold lkP
  cases yC t x<;>cases (t.2.take k).all (fun y=> !(cM y x.1 x.2.1||cM y x.2.2.1 x.2.2.2.1))<;>rfl) (by simp),aCz (lkP t)]
 rw [hZ,aA]
 cases inR (t.1.length:Int) 1 8<;>cases (t.1.zipIdx 0).all (fun z=>asP t z.2 z.1)<;>cases (t.2.zipIdx 0).all (fun z=>lkP t z.2 z.1)<;>rfl

def xOk (x:den tIb):Bool:=inR x.1 0 7&&(inR x.2.1 0 7&&(!(x.1==x.2.1)&&((x.2.2.1==(x.2.2.2.length:Int))&&(decide (x.2.2.1<=20)&&x.2.2.2.all fun m=>decide (m.length<=40)))))

theorem bUo (a b:Int):decide (a>b)= !decide (a<=b):=by rw [bXc];simp

theorem bUm {x:den tIb} (h:x.2.2.2.length<=68719476736):qC x=some (xOk x):=by
 unfold qC xOk
 rw [aY (l:=x.2.2.2) (fun _ m=>if decide (m.length<=40) then none else some false) (by omega) (fun k m hi hd hw hx hk=>by
  simp only [hd,hi,hw,cond_true,aA]
  by_cases hm:m.length<=40
  ·simp [hm,show ¬ ((m.length:Int)>40) by omega]
  ·simp [hm,show (m.length:Int)>40 by omega]) (by simp),mY (fun m:List Int=>decide (m.length<=40))]
 simp only [kC,aA,bne,bUo]
 cases inR x.1 0 7<;>cases inR x.2.1 0 7<;>cases x.1==x.2.1<;>cases x.2.2.1==(x.2.2.2.length:Int)<;>cases decide (x.2.2.1<=20)<;>cases x.2.2.2.all (fun m=>decide (m.length<=40))<;>rfl

theorem bQk {t:den tTo} (h:SmB 68719476736 tTo t):mL t=some t:=by
 unfold mL pj2
 simp only [aD (b:=24) (n:=([]:List (den tAS)).length) (m:=t.1.length) (by decide) (by simpa using h.1.1),aD (b:=40) (n:=([]:List (den tLk)).length) (m:=t.2.length) (by decide) (by simpa using h.2.1),cond_true,aV,bH,bA,aZ,bC,aA,bXg,aO]

theorem aX0 {t:den tTo} (h:SmB 68719476736 tTo t):pQ t=some t:=by
 unfold pQ pj2
 simp only [aD (b:=24) (n:=([]:List (den tAS)).length) (m:=t.1.length) (by decide) (by simpa using h.1.1),aD (b:=40) (n:=([]:List (den tLk)).length) (m:=t.2.length) (by decide) (by simpa using h.2.1),cond_true,aV,bH,bA,aZ,bC,aA,bXg,aO]

theorem bOc {x:den tSg} (h:x.2.2.length<=68719476736):fX x=some x:=by
 unfold fX
 rw [aY4 h]
 rfl

theorem aEz {x:den tSg} (h:x.2.2.length<=68719476736):fH x=some x:=by
 unfold fH
 rw [aD (b:=40) (n:=([]:List (den aL)).length) (by decide) (by simpa using h)]
 rfl

theorem aVm {l:List (den tSg)} (h:SmB 68719476736 (.sl tSg) l):jY l=some l:=by
 unfold jY pj3
 rw [(tC (fun k (a:List (den tSg))=>((k:Int),a)) ((0:Int),[]) [] l (fun _ x a=>a++[x]) bW0 (fun _=>1) 68719476736 id rfl (bWl h.1 (by decide)) (by rw [eN];simpa using h.1) (fun k x a hi hx hd hw hk hb=>by
  have e:=h.2 x (bWx hx)
  simp only [hd,hi,hw,cond_true,aA,aO,bOc e.2.2.1,aD (b:=40) (by decide) hb]
  simp) (fun a=>by simp)).1,iO (fun x=>x)]
 simp

theorem aCe {l:List (den tSg)} (h:SmB 68719476736 (.sl tSg) l):eQ l=some l:=by
 unfold eQ pj3
 rw [(tC (fun k (a:List (den tSg))=>((k:Int),a)) ((0:Int),[]) [] l (fun _ x a=>a++[x]) bW0 (fun _=>1) 68719476736 id rfl (bWl h.1 (by decide)) (by rw [eN];simpa using h.1) (fun k x a hi hx hd hw hk hb=>by
  have e:=h.2 x (bWx hx)
  simp only [hd,hi,hw,cond_true,aA,aO,aEz e.2.2.1,aD (b:=40) (by decide) hb]
  simp) (fun a=>by simp)).1,iO (fun x=>x)]
 simp

theorem bS7 (c:Int):mE c=some (cond (inR c 1 20) c 1,[],[]):=by
 unfold mE
 rw [hZ]
 cases inR c 1 20<;>rfl

def aS6 (t:den tTo) (now:Int):Bool:=aBp t&&inR now 0 1000000

theorem bTs {t:den tTo} {k:den tDb} {c now:Int} (ht:SmB 68719476736 tTo t) (hk:SmB 68719476736 tDb k):pM t k c now=some (cond (aS6 t now) (cond (inR c 1 20) c 1,now,0,t.1,t.2,k.1,k.2,[],[],[],[],[],[]) (0,0,0,[],[],[],[],[],[],[],[],[],[])):=by
 unfold pM aS6 pj2
 simp only [aO,bTd ht,hZ,aX0 ht,aCe hk.1,aCe hk.2,bS7,aA]
 cases aBp t<;>cases inR now 0 1000000<;>rfl

def wD (a b:Int) (x:den tIb):Bool:=x.1==a&&x.2.1==b

theorem aJw {α:Type} (p:α→Bool): ∀ (l:List α) (k:Nat),bZ (fun k x=>if p x then some (k:Int) else none) k l=(l.findIdx? p).map (fun i=>((k+i:Nat):Int))
 | [],_=>rfl
 | x::xs,k=>by
  simp only [bZ,List.findIdx?_cons]
  cases h:p x with
  | true=>simp
  | false=>
   simp only [bWr,if_false]
   rw [aJw p xs (k+1)]
   cases xs.findIdx? p with
   | none=>rfl
   | some i=>simp<;>omega

def lY (l:List (den tIb)) (a b:Int):Int:=((l.findIdx? (wD a b)).map (fun i=>((0+i:Nat):Int))).getD (-1)

theorem aX4 {l:List (den tIb)} {a b:Int} (h:l.length<=68719476736):lM l a b=some (lY l a b):=by
 unfold lM lY
 rw [aY (l:=l) (fun k x=>if wD a b x then some (k:Int) else none) (by omega) (fun k x hi hd hw hm hk=>by
  simp only [hd,hi,hw,cond_true,aA]
  unfold wD
  cases x.1==a<;>cases x.2.1==b<;>rfl) (by simp),aJw (wD a b)]
 cases l.findIdx? (wD a b)<;>rfl

def aFy (w:den tNw) (k:Nat) (f:den tFl):Bool:=match w.2.2.2.2.2.2.2.1[k]? with
 | some x=>gN f&&(cK w.1 f.1&&(cK w.1 f.2.1&&(xOk x&&aEu f x)))
 | none=>false

def sX (f g:den tFl):Bool:=g.1==f.1&&g.2.1==f.2.1

def aGg (w:den tNw) (k:Nat) (f:den tFl):Bool:=(w.2.2.2.2.2.2.1.take k).all fun g=> !sX f g

theorem aCj {α:Type} (p:Nat→α→Bool) (l:List α):(l.zipIdx 0).all (fun z=>p z.2 z.1)=true↔ ∀ k x,l[k]? =some x→p k x=true:=by
 rw [bXb]
 constructor
 ·intro h k x hx
  exact h (x,k) (bZy.2 (by simpa using hx))
 ·rintro h ⟨x,k⟩ hz
  exact h k x (by simpa using bZy.1 hz)

def aGh (l:List Int) (m:Nat) (k:Nat) (n:Int):Bool:=inR n 0 ((m:Int) - 1)&&(decide (k=0)|| !decide ((l[k - 1]?).getD 0>=n))

def bAg (w:den tNw):Bool:=
 aBp w.1&&(inR w.2.2.2.1 0 1000000&&(aDj w.2.2.1 w.2.2.2.1&&((w.2.2.2.2.1.zipIdx 0).all (fun z=>aGh w.2.2.2.2.1 w.1.2.length z.2 z.1)&&(decide (w.2.2.2.2.2.1.length<=150)&&(decide (w.2.2.2.2.2.2.1.length<=4)&&(decide (w.2.2.2.2.2.2.2.1.length=w.2.2.2.2.2.2.1.length)&&(!decide (w.2.2.2.2.2.2.2.2<0)&&
  (w.2.2.2.2.2.1.all (fun x=>cK w.1 x.1)&&(w.2.2.2.2.2.2.1.zipIdx 0).all (fun z=>aFy w z.2 z.1&&aGg w z.2 z.1)))))))))

theorem bG5 (n k:Nat):decide ((n:Int)>(k:Int))= !decide (n<=k):=by rw [bXc];simp

theorem bS5 (a b:Nat):((a:Int) != (b:Int))= !decide (a=b):=by rw [bXc];simp;omega

theorem bDw {l:List Int} {k:Nat} (hk:k<l.length) (h0:0<k) (hl:l.length<=68719476736):idx l (wr ((k:Int) - 1))=some ((l[k - 1]?).getD 0):=by
 have e:wr ((k:Int) - 1)=((k - 1:Nat):Int):=by
  have :wr ((k:Int) - 1)=(k:Int) - 1:=wri (by omega) (by omega)
  rw [this];omega
 rw [e,aG,bWk (show k - 1<l.length by omega)]
 rfl

theorem bQ3 {w:den tNw} (h:tot tNw w<=1073741824):mJ w=some (bAg w):=by
 have sm:SmB 68719476736 tNw w:=(bE h).mono (by decide)
 have sms:SmB 1073741824 tNw w:=bE h
 have lT:=sm.1.1.1
 have lL:=sm.1.2.1
 have lD:=sms.2.2.2.2.1.1
 have lQ:=sms.2.2.2.2.2.1.1
 have lF:=sms.2.2.2.2.2.2.1.1
 have lX:=sms.2.2.2.2.2.2.2.1.1
 have eT:=bRx sm.1
 have eS:=bH8 (now:=w.2.2.2.1) sms.2.2.1.2.1.1 sms.2.2.1.2.2.1
 have q1:decide ((w.2.2.2.2.2.1.length:Int)>150)= !decide (w.2.2.2.2.2.1.length<=150):=bG5 _ 150
 have q2:decide ((w.2.2.2.2.2.2.1.length:Int)>4)= !decide (w.2.2.2.2.2.2.1.length<=4):=bG5 _ 4
 unfold mJ bAg pj2 pj3 pj4 pj9 zz4 zz5 zz6 zz7 zz8
 rw [q1,q2,bS5]
 simp only [aO,eT,kC,eS,aA]
 by_cases hX:w.2.2.2.2.2.2.2.1.length=w.2.2.2.2.2.2.1.length
 ·rw [aY (l:=w.2.2.2.2.1) (fun k n=>if aGh w.2.2.2.2.1 w.1.2.length k n then none else some false) (by omega) (fun k n hi hd hw hm hk=>by
   simp only [hd,hi,hw,cond_true,aA,kC,jA lL]
   unfold aGh
   cases inR n 0 ((w.1.2.length:Int) - 1)
   ·rfl
   ·by_cases h0:k=0
    ·subst h0;rfl
    ·have e1:decide ((k:Int)>0)=true:=by simp;omega
     rw [e1,bDw hk (by omega) (by omega),decide_eq_false h0]
     simp only [bWo,cond_false,cond_true,aA,Bool.false_or,bW6]
     cases decide ((w.2.2.2.2.1[k - 1]?).getD 0>=n)<;>rfl) (by simp),aCz (aGh w.2.2.2.2.1 w.1.2.length)]
  rw [aY (l:=w.2.2.2.2.2.1) (fun _ x=>if cK w.1 x.1 then none else some false) (by omega) (fun k x hi hd hw hm hk=>by
   simp only [hd,hi,hw,cond_true,aA,aHf lT]
   cases cK w.1 x.1<;>rfl) (by simp),mY (fun x:den tFy=>cK w.1 x.1)]
  rw [aY (l:=w.2.2.2.2.2.2.1) (fun k f=>if aFy w k f&&aGg w k f then none else some false) (by omega) (fun k f hi hd hw hm hk=>by
   have hx:w.2.2.2.2.2.2.2.1[k]? =some w.2.2.2.2.2.2.2.1[k]:=bWk (by omega)
   have hix:idx w.2.2.2.2.2.2.2.1 (k:Int)=some w.2.2.2.2.2.2.2.1[k]:=by rw [aG];exact hx
   have fs:=sm.2.2.2.2.2.2.1.2 f hm
   have xs:=(sm.2.2.2.2.2.2.2.1.2 _ (bWx hx)).2.2.2.1
   simp only [hd,hi,cond_true,aA,aHf lT,aWg fs,hix,bUm xs,bD0 fs.2.2.2.2.1.1 xs,wQ hk,fZ,hw]
   rw [aY (l:=w.2.2.2.2.2.2.1.take k) (fun _ g=>if !sX f g then none else some (bWi (bWi false))) (by rw [vF hk];omega) (fun j g hi hd hw hm hk=>by
    simp only [hd,hi,hw,cond_true,aA]
    unfold sX
    cases g.1==f.1<;>cases g.2.1==f.2.1<;>rfl) (by simp),mY (fun g:den tFl=> !sX f g)]
   unfold aFy aGg
   rw [hx]
   simp only
   cases gN f<;>simp only [bWo,bWw,cond_true,cond_false,aA,bXa,bW6,bWr,if_false]
   ·rfl
   cases cK w.1 f.1<;>simp only [bWo,bWw,cond_true,cond_false,aA,bXa,bW6,bWr,if_false]
   ·rfl
   cases cK w.1 f.2.1<;>simp only [bWo,bWw,cond_true,cond_false,aA,bXa,bW6,bWr,if_false]
   ·rfl
   cases xOk w.2.2.2.2.2.2.2.1[k]<;>simp only [bWo,bWw,cond_true,cond_false,aA,bXa,bW6,bWr,if_false]
   ·rfl
   cases aEu f w.2.2.2.2.2.2.2.1[k]<;>cases (w.2.2.2.2.2.2.1.take k).all (fun g=> !sX f g)<;>rfl) (by simp),aCz (fun k f=>aFy w k f&&aGg w k f)]
  cases aBp w.1<;>simp only [bWo,bWw,cond_true,cond_false,aA,bXa,bW6]
  cases inR w.2.2.2.1 0 1000000<;>simp only [bWo,bWw,cond_true,cond_false,aA,bXa,bW6]
  cases aDj w.2.2.1 w.2.2.2.1<;>simp only [bWo,bWw,cond_true,cond_false,aA,bXa,bW6]
  cases (w.2.2.2.2.1.zipIdx 0).all (fun z=>aGh w.2.2.2.2.1 w.1.2.length z.2 z.1)<;>cases decide (w.2.2.2.2.2.1.length<=150)<;>cases decide (w.2.2.2.2.2.2.1.length<=4)<;>cases decide (w.2.2.2.2.2.2.2.1.length=w.2.2.2.2.2.2.1.length)<;>cases decide (w.2.2.2.2.2.2.2.2<0)<;>cases w.2.2.2.2.2.1.all (fun x=>cK w.1 x.1)<;>cases (w.2.2.2.2.2.2.1.zipIdx 0).all (fun z=>aFy w z.2 z.1&&aGg w z.2 z.1)<;>rfl
 ·have e:decide (w.2.2.2.2.2.2.2.1.length=w.2.2.2.2.2.2.1.length)=false:=by simpa using hX
  rw [e]
  cases aBp w.1
  ·rfl
  ·cases inR w.2.2.2.1 0 1000000
   ·rfl
   ·cases aDj w.2.2.1 w.2.2.2.1
    ·rfl
    ·cases decide (w.2.2.2.2.2.1.length<=150)<;>cases decide (w.2.2.2.2.2.2.1.length<=4)<;>simp

def bHi (n:Int):Int:=bW8 (wr ((bW8 n 2147483647)+2147483647)) 2147483647

theorem bQ4 (n:Int):aGc n 2147483647=some (bHi n):=by unfold aGc;rw [kC];rfl

theorem bSk (n:Int):aFw n 2147483647=some (bHi n):=by unfold aFw;rw [hZ];rfl

def bH2 (a x:Int):Int:=bW8 (wr ((wr ((wr (a * (1000003:Int)))+bHi x))+(11:Int))) (2147483647:Int)

def aC7 (l:List Int):Int:=cG (fun _ x a=>bH2 a x) 0 l 7

theorem bJg {l:List Int} (h:l.length<=68719476736):vA l=some (aC7 l):=by
 unfold vA aC7
 rw [mZ (fun k (a:Int)=>(a,(k:Int))) ((7:Int),(0:Int)) 7 l (fun _ x a=>bH2 a x) (fun _=>0) (fun _=>0) 1 id rfl (by omega) (by rw [sum_nil];omega) (fun k x a=>by omega) (fun k x a hi hx hd hw hk hb=>by
  simp only [hd,hi,hw,cond_true,aA,bQ4]
  rfl) (fun a=>by simp)]
 rfl

theorem aU1 {l:List Int} (h:l.length<=68719476736):uX l=some (aC7 l):=by
 unfold uX aC7
 rw [mZ (fun k (a:Int)=>(a,(k:Int))) ((7:Int),(0:Int)) 7 l (fun _ x a=>bH2 a x) (fun _=>0) (fun _=>0) 1 id rfl (by omega) (by rw [sum_nil];omega) (fun k x a=>by omega) (fun k x a hi hx hd hw hk hb=>by
  simp only [hd,hi,hw,cond_true,aA,bSk]
  rfl) (fun a=>by simp)]
 rfl

def aU3 (h:den aL) (a:List Int):List Int:=a++[h.1,h.2.1,h.2.2.1]

def aLj (x:den tPp) (a:List Int):List Int:=cG (fun _ h a=>aU3 h a) 0 x.2.2.2 (a++[x.1,x.2.1,x.2.2.1])

def aIw (p:den tPt):List Int:=cG (fun _ x a=>aLj x a) 0 p []

theorem bK8 {α:Type} (c:Nat) (l:List α):(l.map fun _=>c).sum=c * l.length:=by
 induction l with
 | nil=>rfl
 | cons x l ih=>simp only [bW7,bX0,ih,bXo,Nat.mul_succ];omega

theorem aR1 (x:den tPp) (a:List Int):(aLj x a).length<=a.length+(3+3 * x.2.2.2.length):=by
 have h:=aBa (f:=fun _ h (a:List Int)=>aU3 h a) (m:=bW0) (cost:=fun _=>3) (fun k x a=>by simp [aU3]) x.2.2.2 0 (a++[x.1,x.2.1,x.2.2.1])
 rw [bK8] at h
 unfold aLj
 simp at h
 omega

theorem aJr: ∀ p:den tPt,(p.map fun x:den tPp=>3+3 * x.2.2.2.length).sum<=3 * tot tPt p
 | []=>by simp
 | x::p=>by
  have h1:=kM (t:=tPp) x p
  have h2:x.2.2.2.length<=tot tPp x:=bWl (eI (t:=aL) x.2.2.2) (by simp only [qW,tL];omega)
  have h3:=aJr p
  simp only [bW7,bX0]
  show _<=3 * tot (.sl tPp) (x::p)
  rw [h1]
  have h3:(p.map fun x:den tPp=>3+3 * x.2.2.2.length).sum<=3 * tot (.sl tPp) p:=h3
  omega

theorem bGe (p:den tPt):(aIw p).length<=3 * tot tPt p:=by
 have h:=aBa (f:=fun _ x (a:List Int)=>aLj x a) (m:=bW0) (cost:=fun x:den tPp=>3+3 * x.2.2.2.length) (fun k x a=>aR1 x a) p 0 []
 have h2:=aJr p
 unfold aIw
 simp only [bYy,Nat.zero_add] at h
 omega

theorem aSt {p:den tPt} (h:tot tPt p<=1073741824):mX p=some (aC7 (aIw p)):=by
 have hl:=eI (t:=tPp) p
 have hl:p.length<=1073741824:=bWl hl h
 have hs:=aJr p
 have hd':=bGe p
 unfold mX
 rw [mZ (fun k (a:List Int)=>((k:Int),a)) ((0:Int),[]) [] p (fun _ x a=>aLj x a) bW0 (fun x:den tPp=>3+3 * x.2.2.2.length) 68719476736 id rfl (by omega) (by simp only [bYy];omega) (fun k x a=>aR1 x a) (fun k x a hi hx hd hw hk hb=>by
  simp only [hd,hi,hw,cond_true,aA,aD (b:=8) (n:=a.length) (m:=3) (by decide) (by omega)]
  rw [mZ (fun k (a:List Int)=>((k:Int),a)) ((0:Int),a++[x.1,x.2.1,x.2.2.1]) (a++[x.1,x.2.1,x.2.2.1]) x.2.2.2 (fun _ h a=>aU3 h a) bW0 (fun _=>3) 68719476736 id rfl (by omega) (by rw [bK8];simp;omega) (fun k h a=>by simp [aU3]) (fun k h a hi hx hd hw hk hb=>by
   simp only [hd,hi,hw,cond_true,aA,aD (b:=8) (n:=a.length) (m:=3) (by decide) (by omega)]
   rfl) (fun a=>by simp)]
  rfl) (fun a=>by simp)]
 simp only [aA]
 rw [show cG (fun _ x a=>aLj x a) 0 p []=aIw p from rfl]
 simp only [id,aU1 (l:=aIw p) (by omega),aA]

def aG9 (a:Int×Bool) (h:den aL):Int×Bool:=cond (!a.2||decide (h.2.2.2.1<a.1)) (h.2.2.2.1,true) a

def aGe (l:List (den aL)):Int:=(l.foldl aG9 (0,false)).1

def aKk (p:den tPt):List (den aL):=cG (fun _ x a=>a++x.2.2.2) 0 p []

theorem aU4: ∀ (p:den tPt) (k:Nat) (a:List (den aL)),cG (fun _ (x:den tPp) a=>a++x.2.2.2) k p a=a++p.flatMap (fun x:den tPp=>x.2.2.2)
 | [],_,a=>by simp [cG]
 | x::p,k,a=>by
  simp only [cG]
  rw [aU4 p (k+1)]
  simp

theorem aPd: ∀ (p:den tPt) (k:Nat) (a:Int×Bool),cG (fun _ (x:den tPp) a=>cG (fun _ h a=>aG9 a h) 0 x.2.2.2 a) k p a=(p.flatMap fun x:den tPp=>x.2.2.2).foldl aG9 a
 | [],_,_=>rfl
 | x::p,k,a=>by
  simp only [cG,List.flatMap_cons,List.foldl_append]
  rw [aPd p (k+1),uZ]

theorem aWr {p:den tPt} (h:tot tPt p<=1073741824):jI p=some (aGe (aKk p)):=by
 have hl:p.length<=1073741824:=bWl (eI (t:=tPp) p) h
 have hs:=aI9 p
 unfold jI
 rw [mZ (fun k (a:Int×Bool)=>(a.1,a.2,(k:Int))) ((0:Int),false,(0:Int)) ((0:Int),false) p (fun _ (x:den tPp) a=>cG (fun _ h a=>aG9 a h) 0 x.2.2.2 a) (fun _=>0) (fun _=>0) 1 (fun a=>a.1) rfl (by omega) (by rw [sum_nil];omega) (fun k x a=>by omega) (fun k x a hi hx hd hw hk hb=>by
  have hxl:x.2.2.2.length<=1073741824:=by
   have h1:=xV (t:=tPp) hx
   have h2:x.2.2.2.length<=tot tPp x:=bWl (eI (t:=aL) x.2.2.2) (by simp only [qW,tL];omega)
   have h3:tot (.sl tPp) p<=1073741824:=h
   omega
  simp only [hd,hi,hw,cond_true,aA]
  rw [mZ (fun k (a:Int×Bool)=>(a.1,a.2,(k:Int))) (a.1,a.2,(0:Int)) a x.2.2.2 (fun _ h a=>aG9 a h) (fun _=>0) (fun _=>0) 1 id rfl (by omega) (by rw [sum_nil];omega) (fun k x a=>by omega) (fun k h a hi hx hd hw hk hb=>by
   simp only [hd,hi,hw,cond_true,aA]
   unfold aG9
   cases ca:a.2
   ·rfl
   ·cases c:decide (h.2.2.2.1<a.1)<;>simp [c,ca]) (fun a=>by simp)]
  rfl) (fun a=>by simp)]
 rw [aPd]
 unfold aGe aKk
 rw [aU4]
 rfl

def aE1 (a b:den tPt):Bool:=
 cond (((gK a).length:Int) != ((gK b).length:Int)) (decide (((gK a).length:Int)<((gK b).length:Int)))
  (cond (aGe (aKk a) != aGe (aKk b)) (decide (aGe (aKk a)>aGe (aKk b))) (decide (aC7 (aIw a)<aC7 (aIw b))))

theorem bIc {a b:den tPt} (ha:tot tPt a<=1073741824) (hb:tot tPt b<=1073741824):pT a b=some (aE1 a b):=by
 unfold pT lO aE1
 simp only [aEe (p:=a) (bWl ha (by decide)),aEe (p:=b) (bWl hb (by decide)),aWr ha,aWr hb,aSt ha,aSt hb,aA]
 cases ((gK a).length:Int) != ((gK b).length:Int)
 ·cases aGe (aKk a) != aGe (aKk b)<;>rfl
 ·rfl

def aDt (x:den tPt) (out:List (den tPt)):Nat→Nat
 | 0=>0
 | k+1=>cond (aE1 x ((out[k]?).getD [])) (aDt x out k) (k+1)

theorem aZc (x:den tPt) (out:List (den tPt)): ∀ k,aDt x out k<=k
 | 0=>bW3 _
 | k+1=>by
  unfold aDt
  cases aE1 x ((out[k]?).getD [])
  ·exact bW3 _
  ·exact Nat.le_succ_of_le (aZc x out k)

theorem aRw {x:den tPt} {out:List (den tPt)} {step:Int→Option (Int⊕Int)} (hl:out.length<=68719476736)
  (h0:step 0=some (.inr 0)) (h1: ∀ k (y:den tPt),out[k]? =some y→step ((k+1:Nat):Int)=some (cond (aE1 x y) (.inl (k:Int)) (.inr ((k+1:Nat):Int)))):
  ∀ k,k<=out.length→aB step (k:Int)=some ((aDt x out k:Nat):Int)
 | 0,_=>bW h0
 | k+1,hk=>by
  have hy:out[k]? =some out[k]:=bWk (by omega)
  have hs:=h1 k _ hy
  unfold aDt
  rw [hy,bXi]
  cases hb:aE1 x out[k] with
  | true=>rw [hb] at hs;rw [dY hs];exact aRw hl h0 h1 k (by omega)
  | false=>rw [hb] at hs;exact bW hs

def aIr (x:den tPt) (out:List (den tPt)):List (den tPt):=out.take (aDt x out out.length)++[x]++out.drop (aDt x out out.length)

theorem aWu (x:den tPt) (out:List (den tPt)):tot (.sl tPt) (aIr x out)=tot (.sl tPt) out+(1+tot tPt x):=by
 have h:=sH (t:=tPt) (out.take (aDt x out out.length)) (out.drop (aDt x out out.length))
 rw [List.take_append_drop] at h
 unfold aIr
 rw [sH,sH,aEq]
 omega

def aGf (l:List (den tPt)):List (den tPt):=cG (fun _ x a=>aIr x a) 0 l []

theorem bGl (l:List (den tPt)):tot (.sl tPt) (aGf l)<=tot (.sl tPt) l:=by
 have h:=aBa (f:=fun _ x (a:List (den tPt))=>aIr x a) (m:=tot (.sl tPt)) (cost:=fun x=>1+tot tPt x) (fun k x a=>Nat.le_of_eq (aWu x a)) l 0 []
 rw [aRn,aB2] at h
 unfold aGf
 omega

theorem bQf {l:List (den tPt)} (h:tot (.sl tPt) l<=1073741824):rZ l=some (aGf l):=by
 have hl:=eI (t:=tPt) l
 unfold rZ aGf ixb
 rw [mZ (fun k (a:List (den tPt))=>((k:Int),a)) ((0:Int),[]) [] l (fun _ x a=>aIr x a) (tot (.sl tPt)) (fun x=>1+tot tPt x) 1073741824 id rfl (by omega) (by rw [aRn,aB2];omega) (fun k x a=>Nat.le_of_eq (aWu x a)) (fun k x a hi hx hd hw hk hb=>by
  have ha:=eI (t:=tPt) a
  have hsm:SmB 68719476736 tPt x:=(bE (B:=1073741824) (t:=tPt) (by omega)).mono (by decide)
  simp only [hd,hi,hw,cond_true,aA,aV,bH,bA,aZ,bC]
  rw [aRw (x:=x) (out:=a) (by omega) (by rfl) (fun j y hy=>by
   have hlt:=(bWs.1 hy).1
   have hty:=xV (t:=tPt) hy
   have e1:decide (((j+1:Nat):Int)>0)=true:=by simp<;>omega
   have e2:wr (((j+1:Nat):Int) - 1)=(j:Int):=by
    have :wr (((j+1:Nat):Int) - 1)=((j+1:Nat):Int) - 1:=wri (by omega) (by omega)
    rw [this];omega
   have e3:decide ((j:Int)<(a.length:Int))=true:=by simp;omega
   simp only [e1,e2,e3,eR,cond_true,bWu,hy,aA,bIc (a:=x) (b:=y) (by omega) (by omega)]
   cases aE1 x y<;>rfl) a.length (bW3 _)]
  have hp:=aZc x a a.length
  have s1:bU (0:Int) ((aDt x a a.length:Nat):Int) (a.length:Int)=true:=by
   have :=aCc (a:=0) (b:=aDt x a a.length) (n:=a.length)
   rw [show ((0:Nat):Int)=0 from rfl] at this
   rw [this];simp;omega
  have s2:bU ((aDt x a a.length:Nat):Int) (a.length:Int) (a.length:Int)=true:=by rw [aCc];simp;omega
  simp only [aA,s1,s2,cond_true,fZ,aVf hp,aEx hsm]
  rw [aD (b:=24) (by decide) (by simp<;>omega),aD (b:=24) (by decide) (by simp<;>omega),aD (b:=24) (by decide) (by simp<;>omega)]
  simp only [cond_true,bXg,aA]
  rfl) (fun a=>by simp)]
 rfl

def aCm (l:List (den tRv)) (now:Int):List (den tRv):=l.filter fun x=>decide (now<=x.2.2)

theorem bDm {l:List (den tRv)} {now:Int} (h:l.length<=1073741824):fQ l now=some (aCm l now):=by
 unfold fQ aCm pj3
 rw [mZ (fun k (a:List (den tRv))=>((k:Int),a)) ((0:Int),[]) [] l (fun _ x a=>if decide (now<=x.2.2)=true then a++[x] else a) bW0 (fun _=>1) 68719476736 id rfl (by omega) (by rw [eN];simp;omega) (fun k x a=>by split<;>simp) (fun k x a hi hx hd hw hk hb=>by
  simp only [hd,hi,hw,cond_true,aA,aO,aD (b:=24) (n:=a.length) (m:=1) (by decide) (by omega)]
  cases decide (now<=x.2.2)<;>simp) (fun a=>by simp),aBh (fun x:den tRv=>decide (now<=x.2.2))]
 simp

def aCp (l:List (den tRv)) (p:den tPt) (now:Int):Bool:= !((aCm l now).all fun x=> !qP p x)

theorem aZt (l:List (den tRv)) (now:Int):(aCm l now).length<=l.length:=bZd _ _

theorem bEe {l:List (den tRv)} {p:den tPt} {now:Int} (h:l.length<=1073741824) (hp:tot tPt p<=1073741824):uW l p now=some (aCp l p now):=by
 have ha:=aZt l now
 unfold uW aCp ixb pj3
 rw [bDm h,aA]
 rw [aY (l:=aCm l now) (fun _ x=>if !qP p x then none else some true) (by omega) (fun k x hi hd hw hm hk=>by
  have hy:(aCm l now)[k]? =some x:=by rw [← aG];exact hi
  simp only [hd,hy,hw,cond_true,aA,eR,bWu,aO,aR5 hp]
  cases qP p x<;>rfl) (by simp),mY (fun x:den tRv=> !qP p x)]
 cases (aCm l now).all (fun x=> !qP p x)<;>rfl

def aG7 (l:List (den tRv)) (p:List (den tPt)) (now:Int):List (den tPt):=(p.filter fun x=> !aCp l x now)++p.filter fun x=>aCp l x now

theorem bFe {l:List (den tRv)} {p:List (den tPt)} {now:Int} (h:l.length<=1073741824) (hp:tot (.sl tPt) p<=1073741824):iP l p now=some (aG7 l p now):=by
 have hl:=eI (t:=tPt) p
 unfold iP aG7
 rw [mZ (fun k (a:List (den tPt))=>((k:Int),a)) ((0:Int),[]) [] p (fun _ x a=>if (!aCp l x now)=true then a++[x] else a) bW0 (fun _=>1) 68719476736 id rfl (by omega) (by rw [eN];simp;omega) (fun k x a=>by split<;>simp) (fun k x a hi hx hd hw hk hb=>by
  have ht:=xV (t:=tPt) hx
  have hsm:SmB 68719476736 tPt x:=(bE (B:=1073741824) (t:=tPt) (by omega)).mono (by decide)
  simp only [hd,hi,hw,cond_true,aA,bEe (l:=l) (p:=x) (now:=now) h (by omega),aEx hsm,aD (b:=24) (n:=a.length) (m:=1) (by decide) (by omega)]
  cases aCp l x now<;>simp) (fun a=>by simp),aBh (fun x:den tPt=> !aCp l x now)]
 have e:(p.filter fun x=> !aCp l x now).length<=p.length:=bZd _ _
 simp only [id,aA,bXg]
 rw [mZ (fun k (a:List (den tPt))=>((k:Int),a)) ((0:Int),p.filter fun x=> !aCp l x now) (p.filter fun x=> !aCp l x now) p (fun _ x a=>if aCp l x now=true then a++[x] else a) bW0 (fun _=>1) 68719476736 id rfl (by omega) (by rw [eN];omega) (fun k x a=>by split<;>simp) (fun k x a hi hx hd hw hk hb=>by
  have ht:=xV (t:=tPt) hx
  have hsm:SmB 68719476736 tPt x:=(bE (B:=1073741824) (t:=tPt) (by omega)).mono (by decide)
  simp only [hd,hi,hw,cond_true,aA,bEe (l:=l) (p:=x) (now:=now) h (by omega),aEx hsm,aD (b:=24) (n:=a.length) (m:=1) (by decide) (by omega)]
  cases aCp l x now<;>simp) (fun a=>by simp),aBh (fun x:den tPt=>aCp l x now)]
 rfl

def aLe (f:den tFl) (p:List (den tPt)) (now:Int):List (den tPt):=(aG7 f.2.2.2.2.2.2.2.2 (aGf p) now).take (min (aG7 f.2.2.2.2.2.2.2.2 (aGf p) now).length 24)

theorem bP2 (n:Nat):(if (24:Int)<(n:Int) then (24:Int) else (n:Int))=((min n 24:Nat):Int):=by
 by_cases c:24<n
 ·rw [if_pos (by omega),Nat.min_eq_right (by omega)];rfl
 ·rw [if_neg (by omega),Nat.min_eq_left (by omega)]

theorem bHv (n:Nat):bU (0:Int) ((min n 24:Nat):Int) (n:Int)=true:=by
 have :=aCc (a:=0) (b:=min n 24) (n:=n)
 rw [show ((0:Nat):Int)=0 from rfl] at this
 rw [this];simp;omega

theorem bQt {f:den tFl} {p:List (den tPt)} {now:Int} (h:tot tFl f<=1073741824) (hp:tot (.sl tPt) p<=1073741824):oW f p now=some (f.1,f.2.1,f.2.2.1,f.2.2.2.1,aLe f p now,0,0,f.2.2.2.2.1,f.2.2.2.2.2.2.2.2):=by
 have hf:SmB 68719476736 tFl f:=(bE h).mono (by decide)
 have hv:f.2.2.2.2.2.2.2.2.length<=1073741824:=bWl (eI (t:=tRv) _) (bG (bG (bG (bG (bG (bG (bG (bG h))))))))
 have hs:=bGl p
 unfold oW aLe pj9 zz6 zz8
 simp only [aO,aCi hf,bQf hp,bFe (l:=f.2.2.2.2.2.2.2.2) (p:=aGf p) (now:=now) hv (by omega),aTr,aA,bP2,bHv,cond_true,fZ]
 rfl

theorem bP9 {l:List (den tRs)} (h:l.length<=1073741824):eB l=some l:=by
 unfold eB
 rw [aD (by decide) (by simp;omega)]
 simp

theorem bP5 {g:den tSc} (h1:g.2.1.length<=1073741824) (h2:g.2.2.length<=1073741824):eJ g=some g:=by
 unfold eJ
 rw [bP9 h1,aA,aD (by decide) (by simp;omega)]
 simp

theorem aY3 {g:den tSc} (h1:g.2.1.length<=1073741824) (h2:g.2.2.length<=1073741824):gX g=some g:=by
 unfold gX pj3
 rw [aD (b:=40) (by decide) (by simp;omega),aD (b:=32) (by decide) (by simp;omega)]
 simp [aV,bH,bA,aZ,bC]

def tE (l:List (den tUs)) (id s d:Int):Int:=if place l id s d<0 then 0 else ((l[(place l id s d).toNat]?).map (·.2.2.2)).getD 0

theorem bSi {g:den tSc} {id s d:Int} (h:g.2.2.length<=1073741824):rW g id s d=some (tE g.2.2 id s d):=by
 unfold rW tE pj3
 rw [show ((g.1,g.2.1,g.2.2):den tSc)=g from rfl,aRl h,aA]
 rcases aJa g.2.2 id s d with hp | ⟨j,x,hp,hx,hj⟩
 ·rw [hp];rfl
 ·rw [hp,decide_eq_true (by omega),cond_true,aG,hx,if_neg (by omega)];simp [hx]

theorem bTb {g:den tSc} {id s d:Int} (h:g.2.2.length<=1073741824):pC g id s d=some (tE g.2.2 id s d):=by
 unfold pC tE
 rw [aYu h,aA]
 rcases aJa g.2.2 id s d with hp | ⟨j,x,hp,hx,hj⟩
 ·rw [hp];rfl
 ·rw [hp,decide_eq_false (by omega),cond_false,aG,hx,if_neg (by omega)];simp [hx]

def vO (l:List (den tUs)) (id s d:Int):List (den tUs):=
 if place l id s d<0 then l++[(id,s,d,1)] else match l[(place l id s d).toNat]? with
  | some x=>l.set (place l id s d).toNat (x.1,x.2.1,x.2.2.1,wr (x.2.2.2+1))
  | none=>l

theorem aSr (l:List (den tUs)) (id s d:Int):(vO l id s d).length<=l.length+1:=by
 unfold vO
 split
 ·simp
 ·split<;>simp

theorem bQn {g:den tSc} {id s d:Int} (h1:g.2.1.length<=1073741824) (h2:g.2.2.length<=1073741824):uI g id s d=some (g.1,g.2.1,vO g.2.2 id s d):=by
 unfold uI vO ixb pj3
 rw [show ((g.1,g.2.1,g.2.2):den tSc)=g from rfl,aY3 h1 h2,aA,aYu h2,aA]
 rcases aJa g.2.2 id s d with hp | ⟨j,x,hp,hx,hj⟩
 ·rw [hp,aD (b:=32) (by decide) (by omega)];rfl
 ·have hd:decide ((j:Int)<(g.2.2.length:Int))=true:=by simpa using hj
  have hd2:decide (j<g.2.2.length)=true:=by simpa using hj
  have hd0:decide ((0:Int)<=(j:Int))=true:=by simp
  rw [hp,decide_eq_false (show ¬ (j:Int)<0 by omega),cond_false,if_neg (by omega)]
  simp only [hd,hd0,hd2,cond_true,bWu,hx,aA]

def rC (g:den tSc) (id s d now:Int):Int×Bool×List (den tRs)×List (den tUs):=
 if tE g.2.2 id s d<oJ g id s d now then (g.1,true,g.2.1,vO g.2.2 id s d)
 else if tE g.2.2 0 s d<oJ g 0 s d now then (g.1,true,g.2.1,vO g.2.2 0 s d)
 else (g.1,false,g.2.1,g.2.2)

theorem bO1 {g:den tSc} {id s d now:Int} (h1:g.2.1.length<=1073741824) (h2:g.2.2.length<=1073741824):tR g id s d now=some (rC g id s d now):=by
 unfold tR ixb pj2 pj3
 rw [show ((g.1,g.2.1,g.2.2):den tSc)=g from rfl,bP5 h1 h2,aA]
 rw [aY (l:=[id,0]) (fun _ n=>if tE g.2.2 n s d<oJ g n s d now then some (g.1,true,g.2.1,vO g.2.2 n s d) else none) (by simp) (fun k n hi hd hw hx hk=>by
  rw [aG] at hi
  have hd0:decide ((0:Int)<=(k:Int))=true:=by simp
  simp only [hd,hd0,hi,hw,cond_true,aA,bWu,bSi h2,aXx h1,aRl h2]
  by_cases hu:tE g.2.2 n s d<oJ g n s d now
  ·rw [decide_eq_false (by omega),cond_false,if_pos hu]
   unfold vO
   rcases aJa g.2.2 n s d with hp | ⟨j,x,hp,hx,hj⟩
   ·rw [hp,aD (b:=32) (by decide) (by omega)];rfl
   ·have hd1:decide ((j:Int)<(g.2.2.length:Int))=true:=by simpa using hj
    have hd2:decide ((j:Int)>=0)=true:=by simp
    have hd3:decide ((0:Int)<=(j:Int))=true:=by simp
    rw [hp,if_neg (by omega)]
    simp only [hd1,hd2,hd3,cond_true,bWu,hx,aA]
  ·rw [decide_eq_true (by omega),cond_true,if_neg hu]) (by simp)]
 unfold rC
 simp only [bZ]
 by_cases hu:tE g.2.2 id s d<oJ g id s d now
 ·simp [hu]
 ·by_cases hv:tE g.2.2 0 s d<oJ g 0 s d now<;>simp [hu,hv]

theorem aXw {g:den tSc} {id s d now:Int} (h1:g.2.1.length<=1073741824) (h2:g.2.2.length<=1073741824):rF g id s d now=some (rC g id s d now):=by
 unfold rF rC pj2 pj3
 rw [show ((g.1,g.2.1,g.2.2):den tSc)=g from rfl]
 simp only [bTb h2,bDv h1,bSx h1,bQn h1 h2,aY3 h1 h2,aA]
 have h0:oJ g 0 s d now=free g.2.1 g.1 s d now:=rfl
 rw [h0]
 by_cases hid:id=0
 ·subst hid
  rw [h0]
  by_cases hv:tE g.2.2 0 s d<free g.2.1 g.1 s d now<;>simp [hv]
 ·have hr:oJ g id s d now=zR g.2.1 id s d now:=by unfold oJ;simp [hid]
  have hne:(id != 0)=true:=by simpa using hid
  rw [hr,hne,cond_true,aA]
  by_cases hu:tE g.2.2 id s d<zR g.2.1 id s d now
  ·simp [hu]
  ·by_cases hv:tE g.2.2 0 s d<free g.2.1 g.1 s d now<;>simp [hu,hv]

def oM (t:den tTo) (r d:Int):Int:=
 match bZ (fun k x=>if cM x r d then some (k:Int) else none) 0 t.2 with
 | some i=>i
 | none=> -1

theorem aDl (t:den tTo) (r d:Int):oM t r d= -1∨ ∃ (j:Nat) (x:den tLk),oM t r d=(j:Int)∧t.2[j]? =some x∧cM x r d=true:=by
 unfold oM
 cases h:bZ (fun k x=>if cM x r d then some (k:Int) else none) 0 t.2 with
 | none=>exact .inl rfl
 | some i=>
  obtain ⟨j,x,h1,h2,h3⟩:=aMp h
  exact .inr ⟨j,x,by simpa using h2,h1,h3⟩

theorem aM2 {t:den tTo} {r d:Int} (h:t.2.length<=68719476736):jQ t r d=some (oM t r d):=by
 unfold jQ pj5
 rw [aY (l:=t.2) (fun k x=>if cM x r d then some (k:Int) else none) (by omega) (fun k x hi hd hw hx hk=>by
  simp only [hd,hi,hw,cond_true,aA,aYl]
  cases cM x r d<;>rfl) (by simp)]
 unfold oM
 cases bZ (fun k x=>if cM x r d then some (k:Int) else none) 0 t.2<;>rfl

theorem aM9 {t:den tTo} {r d:Int} (h:t.2.length<=68719476736):jU t r d=some (oM t r d):=by
 unfold jU pj5
 rw [aY (l:=t.2) (fun k x=>if cM x r d then some (k:Int) else none) (by omega) (fun k x hi hd hw hx hk=>by
  simp only [hd,hi,hw,cond_true,aA,aYp]
  cases cM x r d<;>rfl) (by simp)]
 unfold oM
 cases bZ (fun k x=>if cM x r d then some (k:Int) else none) 0 t.2<;>rfl


def aZ1 (x:den tLk) (r d:Int):Int×Int:=cond (x.1==r&&x.2.1==d) (x.2.2.1,x.2.2.2.1) (x.1,x.2.1)

def remote (t:den tTo) (r d:Int):Int×Int:=if oM t r d<0 then (-1,0) else aZ1 ((t.2[(oM t r d).toNat]?).getD (0,0,0,0,0)) r d

theorem aVw {t:den tTo} {r d:Int} (h:t.2.length<=68719476736):mQ t r d=some (remote t r d):=by
 unfold mQ remote pj2
 simp only [aO,aM2 h,aA]
 rcases aDl t r d with e | ⟨j,x,e,hx,he⟩
 ·rw [e];rfl
 ·rw [e,decide_eq_false (by omega),cond_false,if_neg (by omega),aG,hx,bWu,hx,aA,bXi]
  unfold aZ1
  cases x.1==r<;>cases x.2.1==d<;>rfl

theorem aFo {t:den tTo} {r d:Int} (h:t.2.length<=68719476736):fG t r d=some (remote t r d):=by
 unfold fG remote pj2
 simp only [aO,aM9 h,aA]
 rcases aDl t r d with e | ⟨j,x,e,hx,he⟩
 ·rw [e];rfl
 ·rw [e,decide_eq_false (by omega),cond_false,if_neg (by omega),aG,hx,bWu,hx,aA,bXi]
  unfold aZ1
  cases x.1==r<;>cases x.2.1==d<;>rfl

def aZv (x:den tLk) (r d:Int):Int:=cond (x.2.2.2.2==1) 1 (cond (x.2.2.2.2==3) 4 (cond (x.2.2.2.2==2) (cond (x.1==r&&x.2.1==d) 2 3) 0))

def aAj (t:den tTo) (r d:Int):Int:=cond (d==0) 5 (if oM t r d<0 then 0 else aZv ((t.2[(oM t r d).toNat]?).getD (0,0,0,0,0)) r d)

theorem bOt {t:den tTo} {r d:Int} (h:t.2.length<=68719476736):iT t r d=some (aAj t r d):=by
 unfold iT aAj pj2 zz4
 simp only [aO,aM2 h,aA]
 cases d==0
 ·rcases aDl t r d with e | ⟨j,x,e,hx,he⟩
  ·rw [e];rfl
  ·rw [e,decide_eq_false (by omega),cond_false,cond_false,cond_false,if_neg (by omega),aG,hx,bWu,hx,aA,bXi]
   unfold aZv
   rw [show (x.2.2.2.2 != 2)= !(x.2.2.2.2==2) from rfl]
   cases x.2.2.2.2==1<;>cases x.2.2.2.2==3<;>cases x.2.2.2.2==2<;>cases x.1==r<;>cases x.2.1==d<;>rfl
 ·rfl

theorem aRq {t:den tTo} {r d:Int} (h:t.2.length<=68719476736):dK t r d=some (aAj t r d):=by
 unfold dK aAj pj2 zz4
 simp only [aO,aM9 h,aA]
 cases d==0
 ·rcases aDl t r d with e | ⟨j,x,e,hx,he⟩
  ·rw [e];rfl
  ·rw [e,decide_eq_false (by omega),cond_false,cond_false,cond_false,if_neg (by omega),aG,hx,bWu,hx,aA,bXi]
   unfold aZv
   cases x.2.2.2.2==1<;>cases x.2.2.2.2==3<;>cases x.2.2.2.2==2<;>cases x.1==r<;>cases x.2.1==d<;>rfl
 ·rfl

def aCn (a b:Int):Bool:=cond (a==5||a==2) (b==2||b==5||(b==1||b==3)) (cond (a==3) (b==2||b==5) (cond (a==1) (b==2||b==5||b==1) false))

theorem bFm (a b:Int):jF a b=some (aCn a b):=by
 unfold jF aCn
 cases c5:a==5<;>cases c2:a==2<;>cases a==3<;>cases a==1<;>cases b==2<;>cases b==5<;>cases b==1<;>cases b==3<;>first | rfl | (simp at c5 c2;omega)

theorem bFb (a b:Int):jE a b=some (aCn a b):=by
 unfold jE aCn
 cases c5:a==5<;>cases c2:a==2<;>cases a==3<;>cases a==1<;>cases b==2<;>cases b==5<;>cases b==1<;>cases b==3<;>first | rfl | (simp at c5 c2;omega)

def aHr (t:den tTo) (s:den cR):Bool:=aCn (aAj t s.1 s.2.1) (aAj t s.1 s.2.2)&&(!(s.2.1==s.2.2)||s.2.1==0)

theorem bP1 {t:den tTo} {s:den cR} (h:t.2.length<=68719476736):oD t s=some (aHr t s):=by
 unfold oD aHr pj2
 simp only [aO,bOt h,bFm,aA]
 rw [show (s.2.1 != s.2.2)= !(s.2.1==s.2.2) from rfl]
 cases aCn (aAj t s.1 s.2.1) (aAj t s.1 s.2.2)<;>cases s.2.1==s.2.2<;>cases s.2.1==0<;>rfl

theorem bPo {t:den tTo} {s:den cR} (h:t.2.length<=68719476736):oC t s=some (aHr t s):=by
 unfold oC aHr pj2
 simp only [aO,aRq h,bFb,aA]
 rw [show (s.2.1 != 0)= !(s.2.1==0) from rfl]
 cases aCn (aAj t s.1 s.2.1) (aAj t s.1 s.2.2)<;>cases s.2.1==s.2.2<;>cases s.2.1==0<;>rfl

def aIj (s i:Int):Bool:=inR s 0 65535&&(inR i 0 15&&(wU .i64 (shr .i64 s i) 1==1))

theorem aRu {i:Int} (h:inR i 0 15=true):IntKind.wrap .u64 i=i:=by
 obtain ⟨h0,h1⟩:=bI.1 h
 have :=aWv (n:=i.toNat) (by omega)
 rwa [bYr h0] at this

theorem bPw (s i:Int):uO s i=some (aIj s i):=by
 unfold uO aIj pK
 simp only [kC,aA]
 cases inR s 0 65535
 ·rfl
 ·cases c:inR i 0 15
  ·rfl
  ·rw [aRu c,decide_eq_false (by have :=bI.1 c;omega)]
   rfl

theorem bPd (s i:Int):uF s i=some (aIj s i):=by
 unfold uF aIj oY xT
 simp only [hZ,aA]
 cases inR s 0 65535
 ·rfl
 ·cases c:inR i 0 15
  ·rfl
  ·simp only [cond_true,aA,decide_eq_false (show ¬ i<0 by have :=bI.1 c;omega),cond_false,bW6]

def aMn (s i:Int):Int:=cond (inR s 0 65535&&inR i 0 15) (bOr .i64 s (shl .i64 1 i)) s

theorem bR4 (s i:Int):pP s i=some (aMn s i):=by
 unfold pP aMn pK
 simp only [kC,aA]
 cases inR s 0 65535
 ·rfl
 ·cases c:inR i 0 15
  ·rfl
  ·rw [aRu c,decide_eq_false (by have :=bI.1 c;omega)]
   rfl

theorem bSq (s i:Int):qI s i=some (aMn s i):=by
 unfold qI aMn oY xT
 simp only [hZ,aA]
 cases inR s 0 65535
 ·rfl
 ·cases c:inR i 0 15
  ·rfl
  ·rw [decide_eq_false (by have :=bI.1 c;omega)]
   rfl

theorem aWh {α:Type} (p:α→Bool) (N:Int): ∀ (l:List α) (k:Nat),N=((k+l.length:Nat):Int)→aIq (fun k x (_:Unit)=>if p x then .inl () else .inr (k:Int)) (fun _=>N) k l ()=((k+l.findIdx (fun x=> !p x):Nat):Int)
 | [],k,h=>by simpa [aIq] using h
 | x::xs,k,h=>by
  simp only [aIq,List.findIdx_cons]
  cases hp:p x with
  | true=>
   have :=aWh p N xs (k+1) (by rw [h];simp;omega)
   simp only [if_true,this,bWo,cond_false]
   omega
  | false=>simp

def jD (l:List Int) (n:Int):Nat:=l.findIdx fun x=> !decide (x<n)

theorem aQl (l:List Int) (n:Int):jD l n<=l.length:=List.findIdx_le_length

theorem aSx {l:List Int} {n:Int} {step:Int→Option (Int⊕Int)} (hl:l.length<=68719476736)
  (h: ∀ (k:Nat) (x:Int),idx l (k:Int)=some x→l[k]? =some x→decide ((k:Int)<(l.length:Int))=true→IntKind.i64.wrap ((k:Int)+1)=((k+1:Nat):Int)→step (k:Int)=some (if decide (x<n) then .inl ((k+1:Nat):Int) else .inr (k:Int)))
  (he:step (l.length:Int)=some (.inr (l.length:Int))):aB step (0:Int)=some (jD l n:Int):=by
 rw [aLu (fun k (_:Unit)=>(k:Int)) (0:Int) () l (fun k x _=>if decide (x<n) then .inl () else .inr (k:Int)) (fun _ _=>True) (fun _=>(l.length:Int)) rfl (by omega) trivial (fun k x a hi hx hd hw hk _=>by
  refine ⟨?_,fun _ _=>trivial⟩
  rw [h k x hi hx hd hw]
  cases decide (x<n)<;>rfl) (fun _ _=>he)]
 rw [aWh (fun x=>decide (x<n)) (l.length:Int) l 0 (by simp)]
 simp [jD]


def oG (l:List Int) (n:Int):List Int:=if l[jD l n]? =some n then l else l.take (jD l n)++[n]++l.drop (jD l n)

theorem aFb (l:List Int) (n:Int):(oG l n).length<=l.length+1:=by
 unfold oG
 split
 ·omega
 ·simp;omega

theorem aHg {k n:Nat} (h:k<=n):bU (0:Int) (k:Int) (n:Int)=true:=by
 simp only [bU,bWm,decide_eq_true_eq];omega

theorem yU {k n:Nat} (h:k<=n):bU (k:Int) (n:Int) (n:Int)=true:=by
 simp only [bU,bWm,decide_eq_true_eq];omega

theorem aB7 {α:Type} {l:List α} {k:Nat}:cut l (k:Int) (l.length:Int)=l.drop k:=by
 unfold cut
 rw [bWu]
 apply List.take_of_length_le
 simp

theorem aX9 {l:List Int} (h:l.length<=68719476736):pD l=some l:=by
 unfold pD
 rw [aD (n:=([]:List Int).length) (by decide) (by simpa using h)];rfl

theorem aO3 {l:List Int} {n:Int} {b:Bool} (hb:(l[jD l n]? =some n)=(b=true)):oG l n=cond b l (l.take (jD l n)++[n]++l.drop (jD l n)):=by
 unfold oG
 cases b with
 | true=>rw [if_pos (by rw [hb])];rfl
 | false=>rw [if_neg (by rw [hb];simp)];rfl

theorem aKp {l:List Int} {n:Int} (h:l.length<=4294967296):lP l n=some (oG l n):=by
 have hp:=aQl l n
 unfold lP
 rw [aSx (l:=l) (n:=n) (by omega) (fun k x hi hx hd hw=>by
  simp only [hd,cond_true,hi,aA,hw]
  cases decide (x<n)<;>rfl) (by simp)]
 simp only [aA,aHg hp,yU hp,fZ,aB7,cond_true,aV,bH,bA,aZ,bC,aX9 (l:=l.take (jD l n)) (by simp;omega)]
 rw [aD (b:=8) (n:=(l.take (jD l n)).length) (m:=1) (by decide) (by simp;omega),aD (b:=8) (m:=(l.drop (jD l n)).length) (by decide) (by simp;omega)]
 by_cases hlt:jD l n<l.length
 ·have hx:l[jD l n]? =some l[jD l n]:=bWk hlt
  rw [decide_eq_true (by omega),cond_true,aG,hx,aA,aA]
  rw [aO3 (b:=l[jD l n]==n) (by rw [hx];simp)]
  cases l[jD l n]==n<;>rfl
 ·rw [decide_eq_false (by omega),cond_false,aA]
  rw [aO3 (b:=false) (by rw [List.getElem?_eq_none (by omega)];simp)]
  rfl

theorem aPo {l:List Int} {n:Int} (h:l.length<=4294967296):uE l n=some (oG l n):=by
 have hp:=aQl l n
 unfold uE ixb
 rw [aSx (l:=l) (n:=n) (by omega) (fun k x hi hx hd hw=>by
  simp only [hd,cond_true,eR,bWu,hx,aA,hw]
  cases decide (x<n)<;>rfl) (by simp)]
 simp only [aA,aHg hp,yU hp,fZ,aB7,cond_true,aV,bH,bA,aZ,bC,bXg,bYy]
 rw [aD (b:=8) (n:=0) (m:=(l.take (jD l n)).length) (by decide) (by simp;omega),aD (b:=8) (n:=(l.take (jD l n)).length) (m:=1) (by decide) (by simp;omega),aD (b:=8) (m:=(l.drop (jD l n)).length) (by decide) (by simp;omega)]
 by_cases hlt:jD l n<l.length
 ·have hx:l[jD l n]? =some l[jD l n]:=bWk hlt
  rw [decide_eq_true (by omega),cond_true,eR,cond_true,cond_true,bWu,hx,aA,aA]
  rw [aO3 (b:=l[jD l n]==n) (by rw [hx];simp)]
  cases l[jD l n]==n<;>rfl
 ·rw [decide_eq_false (by omega),cond_false,aA]
  rw [aO3 (b:=false) (by rw [List.getElem?_eq_none (by omega)];simp)]
  rfl


def nL (r:Int) (x:den tLk) (a:List Int):List Int:=cond (x.2.2.1==r) (oG (cond (x.1==r) (oG a x.2.1) a) x.2.2.2.1) (cond (x.1==r) (oG a x.2.1) a)

theorem aJ5 (r:Int) (x:den tLk) (a:List Int):(nL r x a).length<=a.length+2:=by
 unfold nL
 have h1:=aFb a x.2.1
 have h2:=aFb (oG a x.2.1) x.2.2.2.1
 have h3:=aFb a x.2.2.2.1
 cases x.1==r<;>cases x.2.2.1==r<;>simp only [cond_true,cond_false]<;>omega

def fL (t:den tTo) (r:Int):List Int:=cG (fun _ x a=>nL r x a) 0 t.2 []

theorem aDf (t:den tTo) (r:Int):(fL t r).length<=2 * t.2.length:=by
 have h:=aBa (f:=fun _ x (a:List Int)=>nL r x a) (m:=bW0) (cost:=fun _=>2) (fun k x a=>aJ5 r x a) t.2 0 []
 rw [aEw] at h
 simpa [fL] using h

theorem bPx {t:den tTo} {r:Int} (h:t.2.length<=1073741824):pL t r=some (fL t r):=by
 unfold pL
 rw [(tC (fun k (a:List Int)=>(a,(k:Int))) ([],(0:Int)) [] t.2 (fun _ x a=>nL r x a) bW0 (fun _=>2) 4294967296 id rfl (by omega) (by rw [aEw];simp;omega) (fun k x a hi hx hd hw hk hb=>by
  refine ⟨?_,aJ5 r x a⟩
  have h1:=aFb a x.2.1
  simp only [hd,hi,hw,cond_true,aA,aKp (l:=a) (by omega),aKp (l:=oG a x.2.1) (by omega)]
  unfold nL
  cases x.1==r<;>cases x.2.2.1==r<;>simp only [cond_true,cond_false,aA,aKp (l:=a) (by omega),aKp (l:=oG a x.2.1) (by omega)]) (fun a=>by simp)).1]
 rfl

theorem aLi {t:den tTo} {r:Int} (h:t.2.length<=1073741824):gE t r=some (fL t r):=by
 unfold gE
 rw [(tC (fun k (a:List Int)=>((k:Int),a)) ((0:Int),[]) [] t.2 (fun _ x a=>nL r x a) bW0 (fun _=>2) 4294967296 id rfl (by omega) (by rw [aEw];simp;omega) (fun k x a hi hx hd hw hk hb=>by
  refine ⟨?_,aJ5 r x a⟩
  have h1:=aFb a x.2.1
  simp only [hd,hi,hw,cond_true,aA,aPo (l:=a) (by omega),aPo (l:=oG a x.2.1) (by omega)]
  unfold nL
  cases x.1==r<;>cases x.2.2.1==r<;>simp only [cond_true,cond_false,aA,aPo (l:=a) (by omega),aPo (l:=oG a x.2.1) (by omega)]) (fun a=>by simp)).1]
 rfl

theorem aIp {α:Type} (l:List α):(l.map fun _=>0).sum=0:=by
 induction l with
 | nil=>rfl
 | cons x l ih=>rw [bW7,bX0,ih]


def tD (t:den tTo) (dead:List Int) (r:Int):Int:=cG (fun _ x a=>cond (mV dead (oM t r x)) (aMn a x) a) 0 (fL t r) 0

theorem aYd {t:den tTo} {dead:List Int} {r:Int} (h:t.2.length<=1073741824) (hd:dead.length<=68719476736):eE t dead r=some (tD t dead r):=by
 have hl:=aDf t r
 unfold eE pj2
 simp only [aO,bPx h,aA]
 rw [mZ (fun k (a:Int)=>(a,(k:Int))) ((0:Int),(0:Int)) 0 (fL t r) (fun _ x a=>cond (mV dead (oM t r x)) (aMn a x) a) (fun _=>0) (fun _=>0) 0 id rfl (by omega) (by rw [aIp];exact bW3 _) (fun _ _ _=>bW3 _) (fun k x a hi hx hd' hw hk hb=>by
  simp only [hd',hi,hw,cond_true,aA,aM2 (t:=t) (r:=r) (d:=x) (by omega),aKa hd,bR4]
  cases mV dead (oM t r x)<;>rfl) (fun a=>by simp)]
 rfl

theorem aYh {t:den tTo} {dead:List Int} {r:Int} (h:t.2.length<=1073741824) (hd:dead.length<=68719476736):eA t dead r=some (tD t dead r):=by
 have hl:=aDf t r
 unfold eA ixb pj2
 simp only [aO,aLi h,aA]
 rw [mZ (fun k (a:Int)=>(a,(k:Int))) ((0:Int),(0:Int)) 0 (fL t r) (fun _ x a=>cond (mV dead (oM t r x)) (aMn a x) a) (fun _=>0) (fun _=>0) 0 id rfl (by omega) (by rw [aIp];exact bW3 _) (fun _ _ _=>bW3 _) (fun k x a hi hx hd' hw hk hb=>by
  simp only [hd',eR,bWu,hx,hw,cond_true,aA,aM9 (t:=t) (r:=r) (d:=x) (by omega),aFh hd,bSq]
  cases mV dead (oM t r x)<;>rfl) (fun a=>by simp)]
 rfl

def aGx (key ts beta:Int) (h:den aL):Int:=aC7 (([key]++[ts,beta,h.1,h.2.1,h.2.2.1,h.2.2.2.1])++[key])

theorem bQ1 (key ts beta:Int) (h:den aL):yQ key ts beta h=some (aGx key ts beta h):=by
 unfold yQ sP aGx
 rw [aD (b:=8) (n:=[key].length) (by decide) (by simp),aD (b:=8) (by decide) (by simp),bJg (by simp)]
 rfl

theorem bFd (key ts beta:Int) (h:den aL):vH key ts beta h=some (aGx key ts beta h):=by
 unfold vH sQ aGx
 rw [aD (b:=8) (n:=[key].length) (by decide) (by simp),aD (b:=8) (by decide) (by simp),aU1 (by simp)]
 rfl

def h0:den aL:=(0,0,0,0,0)

def bBe (t:den tTo) (r:Int):Int:=((t.1[r.toNat]?).getD (0,false,0)).2.2

def aCw (t:den tTo) (ts beta:Int) (h:den aL):Bool:=iS h&&(cK t h.1&&(h.2.2.2.2==aGx (bBe t h.1) ts beta h))

theorem bDq {t:den tTo} {ts beta:Int} {h:den aL} (ht:t.1.length<=68719476736):mP t ts beta h=some (aCw t ts beta h):=by
 unfold mP aCw pj2 pj5 zz4
 simp only [aO,aM3,aHf ht,aA,bQ1]
 cases iS h
 ·rfl
 ·cases c:cK t h.1
  ·rfl
  ·obtain ⟨x,hx,ix⟩:=aD3 c
   rw [ix,bBe,hx]
   rfl

theorem aT7 {t:den tTo} {ts beta:Int} {h:den aL} (ht:t.1.length<=68719476736):fJ t ts beta h=some (aCw t ts beta h):=by
 unfold fJ aCw pj2 pj5 zz4
 simp only [aO,aIu,aDc ht,aA,bFd]
 cases iS h
 ·rfl
 ·cases c:cK t h.1
  ·rfl
  ·obtain ⟨x,hx,ix⟩:=aD3 c
   rw [ix,bBe,hx]
   rfl

def aDu (t:den tTo) (l:List (den aL)) (k:Nat) (x:den aL):Bool:=iS x&&(cK t x.1&&(l.take k).all fun y=> !(y.1==x.1))

def aH4 (t:den tTo) (l:List (den aL)):Bool:=(l.zipIdx 0).all fun z=>aDu t l z.2 z.1

theorem bPc {t:den tTo} {l:List (den aL)} (ht:t.1.length<=68719476736) (hl:l.length<=68719476736):yK t l=some (inR (l.length:Int) 1 8&&aH4 t l):=by
 unfold yK aH4 pj2 pj5
 rw [aY (l:=l) (fun k x=>if aDu t l k x then none else some false) (by omega) (fun k x hi hd hw hm hk=>by
  simp only [hd,hi,cond_true,aA,aO,aM3,aHf ht,wQ hk,fZ,hw]
  rw [aY (l:=l.take k) (fun _ y=>if !(y.1==x.1) then none else some (bWi (bWi false))) (by rw [vF hk];omega) (fun j y hi hd hw hm hk=>by
   simp only [hd,hi,hw,cond_true,aA]
   cases y.1==x.1<;>rfl) (by simp),mY (fun y:den aL=> !(y.1==x.1))]
  unfold aDu
  cases iS x<;>cases cK t x.1<;>cases (l.take k).all (fun y=> !(y.1==x.1))<;>rfl) (by simp),aCz (aDu t l)]
 rw [kC,aA]
 cases inR (l.length:Int) 1 8<;>cases (l.zipIdx 0).all (fun z=>aDu t l z.2 z.1)<;>rfl

def aJc (t:den tTo) (p:den tPp) (x y:den aL):Bool:= !(pEg p x==0)&&((remote t x.1 (pEg p x)).1==y.1&&(remote t x.1 (pEg p x)).2==pIn p y)

def xB (t:den tTo) (p:den tPp) (k:Nat) (y:den aL):Bool:=decide (k=0)||aJc t p ((p.2.2.2[k - 1]?).getD h0) y

def qO (t:den tTo) (p:den tPp):Bool:=
 inR (p.2.2.2.length:Int) 1 8&&(inR p.1 1 4&&(inR p.2.1 0 1000000&&(jB p.2.2.1&&(aH4 t p.2.2.2&&(p.2.2.2.zipIdx 0).all fun z=>xB t p z.2 z.1))))

theorem bIs (t:den tTo) (p:den tPp):((p.2.2.2.drop 1).zipIdx 0).all (fun z=>aJc t p ((p.2.2.2[z.2]?).getD h0) z.1)=(p.2.2.2.zipIdx 0).all (fun z=>xB t p z.2 z.1):=by
 rw [bXc,aCj (fun k x=>aJc t p ((p.2.2.2[k]?).getD h0) x),aCj (xB t p)]
 constructor
 ·intro h k x hx
  cases k with
  | zero=>rfl
  | succ k=>
   have :=h k x (by rw [bX5,Nat.add_comm];exact hx)
   simpa [xB] using this
 ·intro h k x hx
  rw [bX5,Nat.add_comm] at hx
  have :=h (k+1) x hx
  simpa [xB] using this

theorem aE3 (a b:Int):(a != b)= !(a==b):=rfl

theorem bEr {t:den tTo} {p:den tPp} (ht:t.1.length<=68719476736) (ht2:t.2.length<=68719476736) (hl:p.2.2.2.length<=68719476736):sG t p=some (qO t p):=by
 unfold sG qO pj2 pj4
 rw [aY (l:=p.2.2.2.drop 1) (fun k y=>if aJc t p ((p.2.2.2[k]?).getD h0) y then none else some false) (by rw [bYq];omega) (fun k y hi hd hw hm hk=>by
  have hy:p.2.2.2[k+1]? =some y:=by rw [aG,bX5,Nat.add_comm] at hi;exact hi
  have hlt:k+1<p.2.2.2.length:=(bWs.1 hy).1
  obtain ⟨x,hx⟩: ∃ x,p.2.2.2[k]? =some x:=⟨_,bWk (by omega)⟩
  have hd':decide ((k:Int)<wr ((p.2.2.2.length:Int) - 1))=true:=by rw [jA hl];simp;omega
  have hy':idx p.2.2.2 ((k+1:Nat):Int)=some y:=by rw [aG];exact hy
  simp only [hd',cond_true,aO,aZ3 hx hl,aA,aG,hx,hw,hy,bB2 hy hl,aVw ht2,bXi,aE3]
  unfold aJc
  cases pEg p x==0<;>cases (remote t x.1 (pEg p x)).1==y.1<;>cases (remote t x.1 (pEg p x)).2==pIn p y<;>rfl) (by
   rw [bYq,jA hl,decide_eq_false (by omega)];rfl),aCz (fun k y=>aJc t p ((p.2.2.2[k]?).getD h0) y),bIs]
 simp only [aO,kC,bPc ht hl,aEo,aA]
 cases inR (p.2.2.2.length:Int) 1 8<;>cases inR p.1 1 4<;>cases inR p.2.1 0 1000000<;>cases jB p.2.2.1<;>cases aH4 t p.2.2.2<;>cases (p.2.2.2.zipIdx 0).all (fun z=>xB t p z.2 z.1)<;>rfl

theorem aB6 {α S:Type} (p:Nat→α→Bool) (o r:S): ∀ (l:List α) (k:Nat),aIq (fun k x (_:Unit)=>if p k x then .inl () else .inr r) (fun _=>o) k l ()=if (l.zipIdx k).all (fun z=>p z.2 z.1) then o else r
 | [],_=>rfl
 | x::xs,k=>by
  simp only [aIq,List.zipIdx_cons,List.all_cons]
  rcases bY4 (p k x) with h | h
  ·simp only [h,if_true,bW6];exact aB6 p o r xs (k+1)
  ·simp [h]

theorem bJ5 {p:den tPp} (hl:p.2.2.2.length<=68719476736):sF p=some (p.2.2.2.map (·.1)):=by
 unfold sF
 rw [(tC (fun k (a:List Int)=>((k:Int),a)) ((0:Int),[]) [] p.2.2.2 (fun _ x a=>a++[x.1]) bW0 (fun _=>1) 68719476736 id rfl (by omega) (by rw [eN];simpa using hl) (fun k x a hi hx hd hw hk hb=>by
  simp only [hd,hi,hw,cond_true,aA,aD (b:=8) (by decide) hb]
  simp) (fun a=>by simp)).1,iO (fun x:den aL=>x.1)]
 simp

theorem bHl (l:List (den aL)) (k:Nat) (n:Int):mV ((l.map (·.1)).take k) n= !((l.take k).all fun y=> !(y.1==n)):=by
 unfold mV
 rw [← List.map_take,List.all_map]
 rfl

theorem bDu {t:den tTo} {p:den tPp} (ht:t.1.length<=68719476736) (ht2:t.2.length<=68719476736) (hl:p.2.2.2.length<=68719476736):rR t p=some (qO t p):=by
 unfold rR qO pj2 pj4 pj5
 simp only [aO,bJ5 hl,aA]
 have hR:(p.2.2.2.map (·.1)).length=p.2.2.2.length:=by simp
 rw [aLu (fun k (_:Unit)=>(p.2.2.2.map (·.1),(k:Int))) (p.2.2.2.map (·.1),(0:Int)) () p.2.2.2 (fun k x _=>if (aDu t p.2.2.2 k x&&xB t p k x) then .inl () else .inr (.inr false)) (fun _ _=>True) (fun _=> .inl ()) rfl (by omega) trivial (fun k x a hi hx hd hw hk _=>by
  refine ⟨?_,fun _ _=>trivial⟩
  have hr:(p.2.2.2.map (·.1))[k]? =some x.1:=by rw [bY1,hx];rfl
  have hs:bU (0:Int) (k:Int) ((p.2.2.2.map (·.1)).length:Int)=true:=by rw [hR];exact wQ hk
  have hh:eV ((p.2.2.2.map (·.1)).take k) x.1=some (!((p.2.2.2.take k).all fun y=> !(y.1==x.1))):=by
   rw [aFh (by simp;omega),bHl]
  simp only [hd,cond_true,hi,aG,hr,aA,aIu,aDc ht,hs,fZ,hh,hw]
  cases k with
  | zero=>
   rw [show decide (((0:Nat):Int)>0)=false from by decide]
   unfold aDu xB
   cases iS x<;>cases cK t x.1<;>cases (p.2.2.2.take 0).all (fun y=> !(y.1==x.1))<;>rfl
  | succ j=>
   have hw1:wr (((j+1:Nat):Int) - 1)=(j:Int):=(wri (by omega) (by omega)).trans (by omega)
   obtain ⟨y,hy⟩: ∃ y,p.2.2.2[j]? =some y:=⟨_,bWk (by omega)⟩
   have hr1:(p.2.2.2.map (·.1))[j]? =some y.1:=by rw [bY1,hy];rfl
   rw [show decide (((j+1:Nat):Int)>0)=true from by simp]
   simp only [hw1,aG,hr1,aA,aTc hy hl,bA7 hx hl,aFo ht2,cond_true,aE3]
   unfold aDu xB aJc
   rw [Nat.add_sub_cancel,hy,bXi]
   cases iS x<;>cases cK t x.1<;>cases (p.2.2.2.take (j+1)).all (fun y=> !(y.1==x.1))<;>cases pEg p y==0<;>cases (remote t y.1 (pEg p y)).1==x.1<;>cases (remote t y.1 (pEg p y)).2==pIn p x<;>rfl) (fun a _=>by simp)]
 rw [aB6 (fun k x=>aDu t p.2.2.2 k x&&xB t p k x)]
 have hsplit:(p.2.2.2.zipIdx 0).all (fun z=>aDu t p.2.2.2 z.2 z.1&&xB t p z.2 z.1)=(aH4 t p.2.2.2&&(p.2.2.2.zipIdx 0).all fun z=>xB t p z.2 z.1):=by
  unfold aH4
  rw [bXc]
  simp only [bXb,bWm]
  exact ⟨fun h=>⟨fun z hz=>(h z hz).1,fun z hz=>(h z hz).2⟩,fun h z hz=>⟨h.1 z hz,h.2 z hz⟩⟩
 rw [hsplit]
 simp only [hZ,aCx,aA]
 cases inR (p.2.2.2.length:Int) 1 8<;>cases inR p.1 1 4<;>cases inR p.2.1 0 1000000<;>cases jB p.2.2.1<;>cases aH4 t p.2.2.2<;>cases (p.2.2.2.zipIdx 0).all (fun z=>xB t p z.2 z.1)<;>rfl

def aAc (k:Int):Int:=cond (k==1) 1 (cond (k==2||k==3) 2 3)

theorem bI3 (k:Int):tS k=some (aAc k):=by
 unfold tS aAc
 cases k==1<;>cases k==2<;>cases k==3<;>rfl

theorem bJe (k:Int):tV k=some (aAc k):=by
 unfold tV aAc
 cases k==1<;>cases k==2<;>cases k==3<;>rfl

def pt0:den tPp:=(0,0,0,[])

def aH7 (y:den tPp):den aL:=(y.2.2.2[y.2.2.2.length - 1]?).getD h0

def aF4 (y:den tPp):den aL:=(y.2.2.2[0]?).getD h0

def aL0 (y x:den tPp):Bool:= !decide (aAc y.1>=aAc x.1)&&(aH7 y).1==(aF4 x).1

def xI (t:den tTo) (p:den tPt) (k:Nat) (x:den tPp):Bool:=qO t x&&(decide (k=0)||aL0 ((p[k - 1]?).getD pt0) x)

def wfP (t:den tTo) (p:den tPt):Bool:=inR (p.length:Int) 1 3&&(p.zipIdx 0).all fun z=>xI t p z.2 z.1

theorem aCy {t:den tTo} {p:den tPp} (h:qO t p=true):0<p.2.2.2.length:=by
 unfold qO at h
 rw [bWm] at h
 have :=bI.1 h.1
 omega

theorem aVl {y:den tPp} (h:0<y.2.2.2.length) (hl:y.2.2.2.length<=68719476736):idx y.2.2.2 (wr ((y.2.2.2.length:Int) - 1))=some (aH7 y):=by
 rw [bDb hl h,aG]
 unfold aH7
 rw [bWk (show y.2.2.2.length - 1<y.2.2.2.length by omega)]
 rfl

theorem aV8 {y:den tPp} (h:0<y.2.2.2.length):idx y.2.2.2 (0:Int)=some (aF4 y):=by
 have :idx y.2.2.2 ((0:Nat):Int)=y.2.2.2[0]? :=aG
 rw [show (0:Int)=((0:Nat):Int) from rfl,this]
 unfold aF4
 rw [bWk h]
 rfl

theorem bT6 {t:den tTo} {p:den tPt} (ht:t.1.length<=68719476736) (ht2:t.2.length<=68719476736) (h:SmB 68719476736 tPt p):jO t p=some (wfP t p):=by
 have lp:=h.1
 have lh: ∀ (k:Nat) (x:den tPp),p[k]? =some x→x.2.2.2.length<=68719476736:=fun k x hx=>(h.2 x (bWx hx)).2.2.2.1
 unfold jO wfP pj2 pj4
 rw [aLu (fun k (_:Unit)=>(k:Int)) (0:Int) () p (fun k x _=>if xI t p k x then .inl () else .inr (.inr false)) (fun k _=> ∀ j y,j<k→p[j]? =some y→0<y.2.2.2.length) (fun _=> .inl ()) rfl (by omega) (fun j y hj=>absurd hj (Nat.not_lt_zero _)) (fun k x a hi hx hd hw hk hI=>by
  have hlx:=lh k x hx
  refine ⟨?_,fun a' ha j y hj hy=> ?_⟩
  ·simp only [hd,cond_true,hi,aA,aO,bEr ht ht2 hlx,hw]
   cases hv:qO t x with
   | false=>unfold xI;rw [hv];rfl
   | true=>
    cases k with
    | zero=>
     rw [show decide (((0:Nat):Int)>0)=false from by decide]
     unfold xI;rw [hv];rfl
    | succ j=>
     have hw1:wr (((j+1:Nat):Int) - 1)=(j:Int):=(wri (by omega) (by omega)).trans (by omega)
     obtain ⟨y,hy⟩: ∃ y,p[j]? =some y:=⟨_,bWk (by omega)⟩
     rw [show decide (((j+1:Nat):Int)>0)=true from by simp]
     simp only [hw1,aG,hy,aA,bI3,aVl (hI j y (Nat.lt_succ_self j) hy) (lh j y hy),aV8 (aCy hv),cond_true,aE3,bWo,cond_false]
     unfold xI aL0
     rw [Nat.add_sub_cancel,hy,bXi,hv]
     cases decide (aAc y.1>=aAc x.1)<;>cases (aH7 y).1==(aF4 x).1<;>rfl
  ·rcases Nat.lt_succ_iff_lt_or_eq.1 hj with hj | rfl
   ·exact hI j y hj hy
   ·rw [hx] at hy
    injection hy with hy
    subst hy
    rcases bY4 (xI t p j x) with hb | hb
    ·unfold xI at hb
     rw [bWm] at hb
     exact aCy hb.1
    ·simp [hb] at ha) (fun a _=>by simp)]
 rw [aB6 (xI t p),kC,aA]
 cases inR (p.length:Int) 1 3<;>cases (p.zipIdx 0).all (fun z=>xI t p z.2 z.1)<;>rfl

theorem bUk {t:den tTo} {p:den tPt} (ht:t.1.length<=68719476736) (ht2:t.2.length<=68719476736) (h:SmB 68719476736 tPt p):jP t p=some (wfP t p):=by
 have lp:=h.1
 have lh: ∀ (k:Nat) (x:den tPp),p[k]? =some x→x.2.2.2.length<=68719476736:=fun k x hx=>(h.2 x (bWx hx)).2.2.2.1
 unfold jP wfP pj2 pj4
 rw [aLu (fun k (_:Unit)=>(k:Int)) (0:Int) () p (fun k x _=>if xI t p k x then .inl () else .inr (.inr false)) (fun k _=> ∀ j y,j<k→p[j]? =some y→0<y.2.2.2.length) (fun _=> .inl ()) rfl (by omega) (fun j y hj=>absurd hj (Nat.not_lt_zero _)) (fun k x a hi hx hd hw hk hI=>by
  have hlx:=lh k x hx
  refine ⟨?_,fun a' ha j y hj hy=> ?_⟩
  ·simp only [hd,cond_true,hi,aA,aO,bDu ht ht2 hlx,hw]
   cases hv:qO t x with
   | false=>unfold xI;rw [hv];rfl
   | true=>
    cases k with
    | zero=>
     rw [show decide (((0:Nat):Int)>0)=false from by decide]
     unfold xI;rw [hv];rfl
    | succ j=>
     have hw1:wr (((j+1:Nat):Int) - 1)=(j:Int):=(wri (by omega) (by omega)).trans (by omega)
     obtain ⟨y,hy⟩: ∃ y,p[j]? =some y:=⟨_,bWk (by omega)⟩
     rw [show decide (((j+1:Nat):Int)>0)=true from by simp]
     simp only [hw1,aG,hy,aA,bJe,aVl (hI j y (Nat.lt_succ_self j) hy) (lh j y hy),aV8 (aCy hv),cond_true,aE3,bWo,cond_false]
     unfold xI aL0
     rw [Nat.add_sub_cancel,hy,bXi,hv]
     cases decide (aAc y.1>=aAc x.1)<;>cases (aH7 y).1==(aF4 x).1<;>rfl
  ·rcases Nat.lt_succ_iff_lt_or_eq.1 hj with hj | rfl
   ·exact hI j y hj hy
   ·rw [hx] at hy
    injection hy with hy
    subst hy
    rcases bY4 (xI t p j x) with hb | hb
    ·unfold xI at hb
     rw [bWm] at hb
     exact aCy hb.1
    ·simp [hb] at ha) (fun a _=>by simp)]
 rw [aB6 (xI t p),hZ,aA]
 cases inR (p.length:Int) 1 3<;>cases (p.zipIdx 0).all (fun z=>xI t p z.2 z.1)<;>rfl

def aD9 (l:List Int) (k:Nat) (n:Int):Bool:= !mV (l.take k) n

def xQ (t:den tTo) (p:den tPt):Bool:=wfP t p&&((hO p).zipIdx 0).all fun z=>aD9 (hO p) z.2 z.1

theorem aXz {p:den tPt} (h:tot tPt p<=1073741824):SmB 68719476736 tPt p:=(bE h).mono (by decide)

theorem bDl {t:den tTo} {p:den tPt} (ht:t.1.length<=68719476736) (ht2:t.2.length<=68719476736) (h:tot tPt p<=1073741824):lK t p=some (xQ t p):=by
 have hu:=aF3 p
 unfold lK xQ pj2
 simp only [aO,bT6 ht ht2 (aXz h),aXv h,aA]
 rw [aLu (fun k (_:Unit)=>(hO p,hO p,(k:Int))) (hO p,hO p,(0:Int)) () (hO p) (fun k x _=>if aD9 (hO p) k x then .inl () else .inr (.inr false)) (fun _ _=>True) (fun _=> .inl ()) rfl (by omega) trivial (fun k x a hi hx hd hw hk _=>by
  refine ⟨?_,fun _ _=>trivial⟩
  simp only [hd,cond_true,hi,aA,wQ hk,fZ,hw,aKa (l:=(hO p).take k) (n:=x) (by simp;omega)]
  unfold aD9
  cases mV ((hO p).take k) x<;>rfl) (fun a _=>by simp)]
 rw [aB6 (aD9 (hO p))]
 cases wfP t p<;>cases ((hO p).zipIdx 0).all (fun z=>aD9 (hO p) z.2 z.1)<;>rfl

theorem aSe {t:den tTo} {p:den tPt} (ht:t.1.length<=68719476736) (ht2:t.2.length<=68719476736) (h:tot tPt p<=1073741824):lA t p=some (xQ t p):=by
 have hu:=aF3 p
 unfold lA xQ pj2
 simp only [aO,bUk ht ht2 (aXz h),aXy h,aA]
 rw [aLu (fun k (_:Unit)=>(hO p,(k:Int))) (hO p,(0:Int)) () (hO p) (fun k x _=>if aD9 (hO p) k x then .inl () else .inr (.inr false)) (fun _ _=>True) (fun _=> .inl ()) rfl (by omega) trivial (fun k x a hi hx hd hw hk _=>by
  refine ⟨?_,fun _ _=>trivial⟩
  simp only [hd,cond_true,hi,aA,wQ hk,fZ,hw,aFh (l:=(hO p).take k) (n:=x) (by simp;omega)]
  unfold aD9
  cases mV ((hO p).take k) x<;>rfl) (fun a _=>by simp)]
 rw [aB6 (aD9 (hO p))]
 cases wfP t p<;>cases ((hO p).zipIdx 0).all (fun z=>aD9 (hO p) z.2 z.1)<;>rfl

def bM (p:den tPk):den tPp:=(p.2.2.2.1[p.2.2.2.2.1.toNat]?).getD pt0

def cN (p:den tPk):den aL:=((bM p).2.2.2[p.2.2.2.2.2.1.toNat]?).getD h0

theorem gG {p:den tPk} (h:cA p=true): ∃ (i j:Nat),p.2.2.2.2.1=(i:Int)∧p.2.2.2.2.2.1=(j:Int)∧p.2.2.2.1[i]? =some (bM p)∧(bM p).2.2.2[j]? =some (cN p)∧cO p=(cN p).1:=by
 obtain ⟨i,j,x,y,h1,h2,h3,h4,h5⟩:=aBj h
 have e1:bM p=x:=by unfold bM;rw [h1,bWu,h3];rfl
 have e2:cN p=y:=by unfold cN;rw [e1,h2,bWu,h4];rfl
 exact ⟨i,j,h1,h2,by rw [e1];exact h3,by rw [e1,e2];exact h4,by rw [e2];exact h5⟩

theorem aEh {p:den tPk} (h:0<=cO p):cA p=true:=by
 cases c:cA p with
 | true=>rfl
 | false=>rw [zG c] at h;omega

theorem fM {p:den tPk} (h:tot tPk p<=34359738368):SmB 68719476736 tPk p:=(bE h).mono (by decide)

theorem zA {p:den tPk} (h:SmB 68719476736 tPk p) {i:Nat} {x:den tPp} (hx:p.2.2.2.1[i]? =some x):x.2.2.2.length<=68719476736:=(h.2.2.2.1.2 x (bWx hx)).2.2.2.1


def dC (p:den tPk):Bool:=p.2.2.2.2.2.1==((bM p).2.2.2.length:Int) - 1

def aE4 (p:den tPk):Bool:=p.2.2.2.2.1==(p.2.2.2.1.length:Int) - 1

def fO (p:den tPk):Bool:=decide (cO p>=0)&&(dC p&&aE4 p)

theorem aNg {p:den tPk} (h:SmB 68719476736 tPk p) (hh:cA p=true):gB p=some (dC p):=by
 obtain ⟨i,j,h1,h2,h3,h4,_⟩:=gG hh
 unfold gB dC zz4 zz5
 rw [h1,aG,h3,aA,jA (zA h h3)]

theorem aMw {p:den tPk} (h:SmB 68719476736 tPk p):jR p=some (fO p):=by
 unfold jR fO aI zz4
 simp only [aO,aEg h,aA]
 cases c:decide (cO p>=0)
 ·rfl
 ·have hh:=aEh (of_decide_eq_true c)
  have l1:=h.2.2.2.1.1
  simp only [cond_true,aNg h hh,aA,jA l1]
  unfold aE4
  cases dC p<;>rfl

theorem aVr {p:den tPk} (h:SmB 68719476736 tPk p):kZ p=some (fO p):=by
 unfold kZ fO aI zz4 zz5
 simp only [aO,aEk h,aA]
 cases c:decide (cO p>=0)
 ·rfl
 ·have hh:=aEh (of_decide_eq_true c)
  have l1:=h.2.2.2.1.1
  obtain ⟨i,j,h1,h2,h3,h4,_⟩:=gG hh
  simp only [cond_true,jA l1]
  unfold aE4 dC
  rw [h1,aG,h3,aA,jA (zA h h3)]
  cases p.2.2.2.2.2.1==((bM p).2.2.2.length:Int) - 1<;>cases (i:Int)==(p.2.2.2.1.length:Int) - 1<;>rfl

theorem aHb {p:den tPk} (h:SmB 68719476736 tPk p):dD p=some (pkR p):=by
 unfold dD pkR zz4 zz5 zz6 zz7 zz8 zz9
 rw [aLd h.2.2.2.1,aEn h.2.2.2.2.2.2.2.2.2.1]
 rfl

theorem aCq {p:den tPk} (h:SmB 68719476736 tPk p):fA p=some (pkR p):=by
 unfold fA pkR zz4 zz5 zz6 zz7 zz8 zz9
 rw [aEx h.2.2.2.1,aD (b:=1) (n:=([]:List Int).length) (by decide) (by simpa using h.2.2.2.2.2.2.2.2.2.1)]
 simp


def goTo (p:den tPk) (i j b:Int):den tPk:=(p.1,p.2.1,p.2.2.1,p.2.2.2.1,i,j,b,p.2.2.2.2.2.2.2.1,p.2.2.2.2.2.2.2.2.1,p.2.2.2.2.2.2.2.2.2)

def rA (p:den tPk):den tPp:=(p.2.2.2.1[p.2.2.2.2.1.toNat+1]?).getD pt0

def adv (p:den tPk):den tPk:=
 if decide (cO p<0)||fO p then p
 else if dC p then goTo p (p.2.2.2.2.1+1) 0 (rA p).2.2.1 else goTo p p.2.2.2.2.1 (p.2.2.2.2.2.1+1) p.2.2.2.2.2.2.1

theorem aRi {p:den tPk} (hh:cA p=true) (h0:0<=cO p) (hl:dC p=true) (ha:fO p=false): ∃ i:Nat,p.2.2.2.2.1=(i:Int)∧p.2.2.2.1[i+1]? =some (rA p):=by
 obtain ⟨i,j,h1,h2,h3,h4,_⟩:=gG hh
 refine ⟨i,h1,?_⟩
 have hlt:=(bWs.1 h3).1
 have hne:aE4 p=false:=by
  unfold fO at ha
  rw [hl,decide_eq_true h0] at ha
  simpa using ha
 unfold aE4 at hne
 rw [h1] at hne
 have hne: ¬ ((i:Int)=(p.2.2.2.1.length:Int) - 1):=by simpa using hne
 unfold rA
 rw [h1,bWu,bWk (show i+1<p.2.2.2.1.length by omega)]
 rfl

theorem bLy {p:den tPk} (h:SmB 68719476736 tPk p):lE p=some (pkR (adv p)):=by
 unfold lE adv aI pj2 zz4 zz5 zz6 zz7 zz8
 simp only [aO,aHb h,aEg h,aMw h,aA]
 cases c:decide (cO p<0)
 ·cases ca:fO p
  ·have h0:0<=cO p:=by have :=of_decide_eq_false c;omega
   have hh:=aEh h0
   obtain ⟨i,j,h1,h2,h3,h4,_⟩:=gG hh
   have hlt:=(bWs.1 h3).1
   have hlt2:=(bWs.1 h4).1
   have l1:bW0 p.2.2.2.1<=68719476736:=h.2.2.2.1.1
   have l2:=zA h h3
   simp only [cond_false,aA,aNg h hh,bX9,bWr,if_false]
   cases cl:dC p
   ·simp only [cond_false,aA,bWr,if_false]
    unfold pkR goTo
    rw [h2,show wr ((j:Int)+1)=(j:Int)+1 from wri (by omega) (by omega)]
   ·obtain ⟨i',e1,e2⟩:=aRi hh h0 cl ca
    have :i'=i:=Int.ofNat.inj (e1.symm.trans h1)
    subst this
    have hw:wr (((i':Nat):Int)+1)=((i'+1:Nat):Int):=(wri (by omega) (by omega)).trans (by omega)
    simp only [cond_true,if_true]
    unfold pkR goTo
    simp only [h1,hw,aG,e2,aA]
    rw [show ((i'+1:Nat):Int)=(i':Int)+1 by omega]
  ·rfl
 ·rfl

theorem bAp {p:den tPk} (h:SmB 68719476736 tPk p):fY p=some (pkR (adv p)):=by
 unfold fY adv aI pj4 pj5 zz4 zz5 zz6
 simp only [aO,aCq h,aEk h,aVr h,aA]
 cases c:decide (cO p<0)
 ·cases ca:fO p
  ·have h0:0<=cO p:=by have :=of_decide_eq_false c;omega
   have hh:=aEh h0
   obtain ⟨i,j,h1,h2,h3,h4,_⟩:=gG hh
   have hlt:=(bWs.1 h3).1
   have hlt2:=(bWs.1 h4).1
   have l1:bW0 p.2.2.2.1<=68719476736:=h.2.2.2.1.1
   have l2:=zA h h3
   have hd:decide ((j:Int)<((bM p).2.2.2.length:Int) - 1)= !dC p:=by
    have key:decide ((j:Int)<((bM p).2.2.2.length:Int) - 1)= !((j:Int)==((bM p).2.2.2.length:Int) - 1):=by
     rw [bXc]
     simp only [decide_eq_true_eq,bXn,beq_eq_false_iff_ne,ne_eq]
     omega
    unfold dC
    rw [h2]
    exact key
   simp only [cond_false,aA,bX9,bWr,if_false,h1,h2,aG,h3,jA l2,hd]
   cases cl:dC p
   ·simp only [bWw,cond_true,bWr,if_false]
    unfold pkR goTo
    rw [show wr ((j:Int)+1)=(j:Int)+1 from wri (by omega) (by omega)]
    simp only [h1]
   ·obtain ⟨i',e1,e2⟩:=aRi hh h0 cl ca
    have :i'=i:=Int.ofNat.inj (e1.symm.trans h1)
    subst this
    have hw:wr (((i':Nat):Int)+1)=((i'+1:Nat):Int):=(wri (by omega) (by omega)).trans (by omega)
    simp only [bWo,cond_false,if_true]
    unfold pkR goTo
    simp only [hw,aG,e2,aA]
    rw [show ((i'+1:Nat):Int)=(i':Int)+1 by omega]
  ·rfl
 ·rfl

def bef (p:den tPk):Int:=if jC (bM p).1 then aIa p.2.2.2.2.2.2.1 (cN p).2.2.2.2 else p.2.2.2.2.2.2.1

def aft (p:den tPk):Int:=if jC (bM p).1 then aIa p.2.2.2.2.2.2.1 (cN p).2.2.2.2 else aM1 p.2.2.2.2.2.2.1 (cN p).2.2.2.2

def aBt (t:den tTo) (p:den tPk):Bool:=cA p&&aCw t (bM p).2.1 (bef p) (cN p)

def aU (t:den tTo) (p:den tPk):den tPk:=if aBt t p then goTo p p.2.2.2.2.1 p.2.2.2.2.2.1 (aft p) else p

def mN (p:den tPk) (b:Bool):Int×Int×Int×Int×Int×Int×Int×Int×Bool×(List (den tPp))×(List Int):=(p.1,p.2.1,p.2.2.1,p.2.2.2.2.1,p.2.2.2.2.2.1,p.2.2.2.2.2.2.1,p.2.2.2.2.2.2.2.1,p.2.2.2.2.2.2.2.2.1,b,p.2.2.2.1,p.2.2.2.2.2.2.2.2.2)

theorem bRs {t:den tTo} {p:den tPk} (ht:t.1.length<=68719476736) (h:SmB 68719476736 tPk p):gS t p=some (mN (aU t p) (aBt t p)):=by
 unfold gS aU aBt aI pj2 pj5 zz4 zz5 zz6 zz7 zz8
 simp only [aO,aHb h,bMl h,aA]
 cases c:cA p
 ·rfl
 ·obtain ⟨i,j,h1,h2,h3,h4,_⟩:=gG c
  simp only [h1,h2,aG,h3,h4,aA,aK9,bGc,bG2,bWo,cond_false,bW6]
  unfold bef aft
  cases jC (bM p).1
  ·simp only [cond_false,aA,bDq ht,bWr,if_false]
   cases aCw t (bM p).2.1 p.2.2.2.2.2.2.1 (cN p)
   ·simp only [bWw,cond_true,bWr,if_false];unfold mN pkR;simp only [h1,h2]
   ·simp only [bWo,cond_false,if_true];unfold mN pkR goTo;simp only [h1,h2]
  ·simp only [cond_true,aA,bDq ht,if_true]
   cases aCw t (bM p).2.1 (aIa p.2.2.2.2.2.2.1 (cN p).2.2.2.2) (cN p)
   ·simp only [bWw,cond_true,bWr,if_false];unfold mN pkR;simp only [h1,h2]
   ·simp only [bWo,cond_false,if_true];unfold mN pkR goTo;simp only [h1,h2]

theorem aZi {t:den tTo} {ts b:Int} {h:den aL} (hv:h.1<0):aCw t ts b h=false:=by
 unfold aCw iS
 rw [aX7.2 (fun hh=>absurd hv (Int.not_lt.2 hh.1))]
 rfl

theorem bSf {t:den tTo} {p:den tPk} (ht:t.1.length<=68719476736) (h:SmB 68719476736 tPk p):gQ t p=some (mN (aU t p) (aBt t p)):=by
 unfold gQ aU aBt aI pj2 pj5 zz4 zz5 zz6 zz7 zz8
 simp only [aO,aCq h,aEk h,aA]
 cases c:cA p
 ·rw [zG c];rfl
 ·obtain ⟨i,j,h1,h2,h3,h4,h5⟩:=gG c
  rw [h5]
  by_cases hn:(cN p).1<0
  ·rw [decide_eq_true hn,aZi hn];rfl
  ·simp only [decide_eq_false hn,cond_false,h1,h2,aG,h3,h4,aA,aCk,aU0,bEw,bW6,aT7 ht]
   unfold bef aft
   cases jC (bM p).1
   ·simp only [cond_false,bWr,if_false]
    cases aCw t (bM p).2.1 p.2.2.2.2.2.2.1 (cN p)
    ·simp only [bWw,cond_true,bWr,if_false];unfold mN pkR;simp only [h1,h2]
    ·simp only [bWo,cond_false,if_true];unfold mN pkR goTo;simp only [h1,h2]
   ·simp only [cond_true,if_true]
    cases aCw t (bM p).2.1 (aIa p.2.2.2.2.2.2.1 (cN p).2.2.2.2) (cN p)
    ·simp only [bWw,cond_true,bWr,if_false];unfold mN pkR;simp only [h1,h2]
    ·simp only [bWo,cond_false,if_true];unfold mN pkR goTo;simp only [h1,h2]

def zZ (p:den tPk) (now:Int):Bool:= !decide (cO p<0)&&(decide ((bM p).2.1<=now)&&decide (now<=(cN p).2.2.2.1))

theorem bJj {p:den tPk} {now:Int} (h:SmB 68719476736 tPk p):fS p now=some (zZ p now):=by
 unfold fS zZ aI pj5 zz4 zz5
 simp only [aO,aEg h,aA]
 cases c:decide (cO p<0)
 ·have hh:=aEh (p:=p) (by have :=of_decide_eq_false c;omega)
  obtain ⟨i,j,h1,h2,h3,h4,h5⟩:=gG hh
  simp only [cond_false,h1,h2,aG,h3,h4,aA,sV]
  cases decide ((bM p).2.1<=now)<;>rfl
 ·rfl

theorem bHc {p:den tPk} {now:Int} (h:SmB 68719476736 tPk p):iN p now=some (zZ p now):=by
 unfold iN zZ aI pj5 zz4 zz5
 simp only [aO,aEk h,aA]
 cases c:decide (cO p<0)
 ·have hh:=aEh (p:=p) (by have :=of_decide_eq_false c;omega)
  obtain ⟨i,j,h1,h2,h3,h4,h5⟩:=gG hh
  simp only [cond_false,h1,h2,aG,h3,h4,aA,kY]
  cases decide ((bM p).2.1<=now)<;>rfl
 ·rfl

def cU (t:den tTo) (now:Int) (p:den tPk):Int:=if aBt t p then (if zZ p now then 0 else 5) else 4

def goC (t:den tTo) (now:Int):Nat→den tPk→Int×den tPk
 | 0,p=>(cU t now p,aU t p)
 | n+1,p=>if cU t now p==0&&(dC (aU t p)&& !fO (aU t p)) then goC t now n (adv (aU t p)) else (cU t now p,aU t p)

theorem zL (t:den tTo) (p:den tPk):tot tPk (aU t p)=tot tPk p:=by
 unfold aU;split<;>rfl

theorem aEp (p:den tPk):tot tPk (adv p)=tot tPk p:=by
 unfold adv;split
 ·rfl
 ·split<;>rfl

theorem aW5 (t:den tTo) (p:den tPk) (now:Int):zZ (aU t p) now=zZ p now:=by
 unfold aU;split<;>rfl

theorem aHl (t:den tTo) (p:den tPk):cA (aU t p)=cA p∧cO (aU t p)=cO p∧cN (aU t p)=cN p∧(aU t p).2.2.2.1=p.2.2.2.1∧(aU t p).2.2.2.2.1=p.2.2.2.2.1:=by
 unfold aU;split<;>exact ⟨rfl,rfl,rfl,rfl,rfl⟩

theorem zF {t:den tTo} {now:Int} {p:den tPk} (h:cU t now p=0):cA p=true∧0<=cO p:=by
 unfold cU at h
 split at h
 ·rename_i hs
  unfold aBt at hs
  rw [bWm] at hs
  refine ⟨hs.1,?_⟩
  obtain ⟨i,j,h1,h2,h3,h4,h5⟩:=gG hs.1
  rw [h5]
  by_cases hn:(cN p).1<0
  ·rw [aZi hn] at hs;cases hs.2
  ·exact Int.not_lt.1 hn
 ·cases h

theorem aUy {p:den tPk} (h0:0<=cO p) (hc:(dC p&& !fO p)=true):(adv p).2.2.2.1=p.2.2.2.1∧(adv p).2.2.2.2.1=p.2.2.2.2.1+1:=by
 rw [bWm] at hc
 have ha:fO p=false:=by simpa using hc.2
 unfold adv
 rw [decide_eq_false (by omega),ha,hc.1]
 exact ⟨rfl,rfl⟩

theorem aY2 {t:den tTo} {now:Int} {S R:Type} (enc:Int→den tPk→S) (out:S→R) {step:S→Option (S⊕R)} (st:den tPk→den tPk) (hst: ∀ p,cU t now p=0→st p=aU t p)
  (hstop: ∀ c p,c≠0→step (enc c p)=some (.inr (out (enc c p))))
  (hgo: ∀ q,tot tPk q<=34359738368→cA q=true→0<=cO q→step (enc 0 q)=some (if dC q&& !fO q then .inl (enc (cU t now (adv q)) (st (adv q))) else .inr (out (enc 0 q)))):
  ∀ (n:Nat) (p:den tPk),tot tPk p<=34359738368→p.2.2.2.1.length - p.2.2.2.2.1.toNat<=n→ ∃ r,aB step (enc (cU t now p) (st p))=some (out (enc (goC t now n p).1 r))∧((goC t now n p).1=0→r=(goC t now n p).2):=by
 intro n
 induction n with
 | zero=>
  intro p hp hm
  by_cases hc:cU t now p=0
  ·obtain ⟨hh,h0⟩:=zF hc
   obtain ⟨i,j,h1,h2,h3,h4,h5⟩:=gG hh
   have hlt:=(bWs.1 h3).1
   rw [h1,bWu] at hm
   exact absurd hlt (by omega)
  ·exact ⟨_,bW (hstop _ _ hc),fun h=>absurd h hc⟩
 | succ n ih=>
  intro p hp hm
  by_cases hc:cU t now p=0
  ·obtain ⟨hh,h0⟩:=zF hc
   obtain ⟨e1,e2,e3,e4,e5⟩:=aHl t p
   have hq:=hgo (aU t p) (by rw [zL];exact hp) (by rw [e1];exact hh) (by rw [e2];exact h0)
   rw [hst p hc]
   cases hb:dC (aU t p)&& !fO (aU t p) with
   | false=>
    rw [hb] at hq
    have hg:goC t now (n+1) p=(cU t now p,aU t p):=by
     show (if _ then _ else _)=_
     rw [hb,bYi];rfl
    rw [hg,hc]
    exact ⟨aU t p,bW hq,fun _=>rfl⟩
   | true=>
    rw [hb,if_pos rfl] at hq
    have hg:goC t now (n+1) p=goC t now n (adv (aU t p)):=by
     show (if _ then _ else _)=_
     rw [hb,hc];rfl
    rw [hg,hc,dY hq]
    obtain ⟨a1,a2⟩:=aUy (p:=aU t p) (by rw [e2];exact h0) hb
    obtain ⟨i,j,h1,h2,h3,h4,h5⟩:=gG hh
    refine ih (adv (aU t p)) (by rw [aEp,zL];exact hp) ?_
    rw [a1,a2,e4,e5,h1]
    rw [h1,bWu] at hm
    have :((i:Int)+1).toNat=i+1:=by omega
    rw [this]
    omega
  ·have hg:goC t now (n+1) p=(cU t now p,aU t p):=by
    show (if _ then _ else _)=_
    rw [show (cU t now p==0)=false from by simpa using hc];rfl
   rw [hg]
   exact ⟨_,bW (hstop _ _ hc),fun h=>absurd h hc⟩

def aJb (p:den tPk):Int:=if p.2.2.2.2.1==0&&p.2.2.2.2.2.1==0 then 0 else pIn (bM p) (cN p)


def bN (t:den tTo) (now:Int) (p:den tPk):Int×den tPk:=goC t now (p.2.2.2.1.length - p.2.2.2.2.1.toNat) p


def fwd (t:den tTo) (r now dead inn:Int) (p:den tPk):Int×Int×den tPk×Int:=
 if !fD p||(!xQ t p.2.2.2.1|| !(cO p==r)) then (2,0,p,0)
 else if !(inn==aJb p) then (3,0,p,0)
 else if !((bN t now p).1==0) then ((bN t now p).1,0,p,0)
 else if fO (bN t now p).2 then (if (bN t now p).2.2.2.1==r then (1,0,(bN t now p).2,0) else (2,0,p,0))
 else if !aHr t (r,inn,pEg (bM (bN t now p).2) (cN (bN t now p).2)) then (6,0,p,0)
 else if aIj dead (pEg (bM (bN t now p).2) (cN (bN t now p).2)) then (7,0,p,pEg (bM (bN t now p).2) (cN (bN t now p).2))
 else (0,pEg (bM (bN t now p).2) (cN (bN t now p).2),adv (bN t now p).2,pEg (bM (bN t now p).2) (cN (bN t now p).2))

def fwI (v:Int×Int×den tPk×Int):Int×Int×Int×Int×Int×(List (den tPp))×Int×Int×Int×Int×Int×(List Int)×Int:=
 (v.1,v.2.1,v.2.2.1.1,v.2.2.1.2.1,v.2.2.1.2.2.1,v.2.2.1.2.2.2.1,v.2.2.1.2.2.2.2.1,v.2.2.1.2.2.2.2.2.1,v.2.2.1.2.2.2.2.2.2.1,v.2.2.1.2.2.2.2.2.2.2.1,v.2.2.1.2.2.2.2.2.2.2.2.1,v.2.2.1.2.2.2.2.2.2.2.2.2,v.2.2.2)

def fwS (v:Int×Int×den tPk×Int):Int×Int×Int×Int×Int×Int×Int×Int×Int×Int×(List (den tPp))×(List Int):=(v.1,v.2.1,pkR v.2.2.1)

theorem aEj {t:den tTo} {now:Int}: ∀ (n:Nat) (p:den tPk),(goC t now n p).1=0→cA (goC t now n p).2=true∧0<=cO (goC t now n p).2∧tot tPk (goC t now n p).2=tot tPk p
 | 0,p,h=>by
  obtain ⟨h1,h2⟩:=zF (show cU t now p=0 from h)
  obtain ⟨e1,e2,_⟩:=aHl t p
  exact ⟨e1.trans h1,by rw [show (goC t now 0 p).2=aU t p from rfl,e2];exact h2,zL t p⟩
 | n+1,p,h=>by
  unfold goC at h ⊢
  split at h
  ·rename_i hc
   rw [if_pos hc]
   obtain ⟨h1,h2,h3⟩:=aEj n _ h
   exact ⟨h1,h2,by rw [h3,aEp,zL]⟩
  ·rename_i hc
   rw [if_neg hc]
   obtain ⟨h1,h2⟩:=zF (show cU t now p=0 from h)
   obtain ⟨e1,e2,_⟩:=aHl t p
   exact ⟨e1.trans h1,by rw [show (cU t now p,aU t p).2=aU t p from rfl,e2];exact h2,zL t p⟩

def xZ (t:den tTo) (now:Int) (p:den tPk):den tPk:=if cU t now p=0 then aU t p else p

def aBi (p:den tPk) (c:Int):Int×Int×Int×(List (den tPp))×Int×Int×Int×Int×Int×(List Int)×Int:=(p.1,p.2.1,p.2.2.1,p.2.2.2.1,p.2.2.2.2.1,p.2.2.2.2.2.1,p.2.2.2.2.2.2.1,p.2.2.2.2.2.2.2.1,p.2.2.2.2.2.2.2.2.1,p.2.2.2.2.2.2.2.2.2,c)

def aCu (p:den tPk) (c:Int):Int×Int×Int×Int×Int×Int×Int×Int×Int×(List (den tPp))×(List Int):=(p.1,p.2.1,p.2.2.1,p.2.2.2.2.1,p.2.2.2.2.2.1,p.2.2.2.2.2.2.1,p.2.2.2.2.2.2.2.1,p.2.2.2.2.2.2.2.2.1,c,p.2.2.2.1,p.2.2.2.2.2.2.2.2.2)

theorem bLs {t:den tTo} {now:Int} {p:den tPk} (ht:t.1.length<=68719476736) (h:tot tPk p<=34359738368):kB t now p=some (aBi (xZ t now p) (cU t now p)):=by
 unfold kB aI pj2 aT zz4 zz5 zz6 zz7 zz8 zz9
 simp only [aO,bRs ht (fM h),aA]
 unfold xZ cU
 cases c:aBt t p
 ·simp only [mN,bWw,cond_true,bWr,if_false];rfl
 ·have hs:tot tPk (aU t p)<=34359738368:=by rw [zL];exact h
  have key:fS ((mN (aU t p) true).1,(mN (aU t p) true).2.1,(mN (aU t p) true).2.2.1,(mN (aU t p) true).2.2.2.2.2.2.2.2.2.1,(mN (aU t p) true).2.2.2.1,(mN (aU t p) true).2.2.2.2.1,(mN (aU t p) true).2.2.2.2.2.1,(mN (aU t p) true).2.2.2.2.2.2.1,(mN (aU t p) true).2.2.2.2.2.2.2.1,(mN (aU t p) true).2.2.2.2.2.2.2.2.2.2) now=some (zZ p now):=by
   rw [← aW5 t p now]
   exact bJj (fM hs)
  rw [key]
  simp only [mN,bWo,cond_false,aA,if_true]
  cases zZ p now
  ·simp only [bWw,cond_true,bWr,if_false];rfl
  ·simp only [bWo,cond_false,if_true];rfl

theorem bMs {t:den tTo} {now:Int} {p:den tPk} (ht:t.1.length<=68719476736) (h:tot tPk p<=34359738368):nJ t now p=some (aCu (aU t p) (cU t now p)):=by
 unfold nJ aI pj2 zz4 zz5 zz6 zz7 zz8 zz9
 simp only [aO,bSf ht (fM h),bHc (fM h),aA]
 unfold cU
 cases c:aBt t p
 ·simp only [mN,bWw,cond_true,bWr,if_false];rfl
 ·simp only [mN,bWo,cond_false,if_true]
  cases zZ p now
  ·simp only [bWw,cond_true,bWr,if_false];rfl
  ·simp only [bWo,cond_false,if_true];rfl

theorem aNs {p:den tPk} (h:fD p=true):cA p=true:=by
 unfold fD at h
 simp only [bWm] at h
 exact h.2.2.1

theorem bN7 {c:Int} {p:den tPk} (h:tot tPk p<=34359738368):kH c p=some (c,0,p.1,p.2.1,p.2.2.1,p.2.2.2.2.1,p.2.2.2.2.2.1,p.2.2.2.2.2.2.1,p.2.2.2.2.2.2.2.1,p.2.2.2.2.2.2.2.2.1,p.2.2.2.1,p.2.2.2.2.2.2.2.2.2,p.1,p.2.1,p.2.2.1,p.2.2.2.1,p.2.2.2.2.1,p.2.2.2.2.2.1,p.2.2.2.2.2.2.1,p.2.2.2.2.2.2.2.1,p.2.2.2.2.2.2.2.2.1,p.2.2.2.2.2.2.2.2.2):=by
 unfold kH aI zz4 zz5 zz6 zz7 zz8 zz9
 simp only [aO,aHb (fM h),aA]
 rfl

theorem bNf {c:Int} {p:den tPk} (h:tot tPk p<=34359738368):sJ c p=some (c,0,pkR p):=by
 unfold sJ aI
 simp only [aO,aCq (fM h),aA]

theorem aHa {p:den tPk} {N:Nat} (h:tot tPk p<=N):tot tPt p.2.2.2.1<=N:=(aLt h).1

theorem bM1 {t:den tTo} {r now dead inn:Int} {p:den tPk} (ht:t.1.length<=68719476736) (ht2:t.2.length<=68719476736) (h:tot tPk p<=34359738368) (hpp:tot tPt p.2.2.2.1<=1073741824):uY t r now dead inn p=some (fwI (fwd t r now dead inn p)):=by
 unfold uY fwd aI aH0 pj2 pj4 aT bK zz4 zz5 zz6 zz7 zz8 zz9
 simp only [aO,bIy (fM h),bDl ht ht2 hpp,aEg (fM h),aA,aE3,bN7 h]
 cases cv:fD p
 ·simp only [bWw,bYj,cond_true,aA,if_true];rfl
 ·cases cs:xQ t p.2.2.2.1
  ·simp only [bWo,bWw,bYj,bYk,cond_true,cond_false,aA,if_true];rfl
  ·cases cr:cO p==r
   ·simp only [bWo,bWw,bYj,bYk,cond_true,cond_false,aA,if_true];rfl
   ·simp only [bWo,bX9,cond_false,aA,bWr,if_false]
    obtain ⟨i,j,h1,h2,h3,h4,h5⟩:=gG (aNs cv)
    have hl:=zA (fM h) h3
    have hw:(@Option.bind Bool Int (cond (p.2.2.2.2.1==(0:Int)) (some (p.2.2.2.2.2.1==(0:Int))) (some false)) fun (s8:Bool)=>cond s8 (some (0:Int)) (some (pIn (bM p) (cN p))))=some (aJb p):=by
     unfold aJb
     cases p.2.2.2.2.1==0<;>cases p.2.2.2.2.2.1==0<;>rfl
    have hp1:idx p.2.2.2.1 p.2.2.2.2.1=some (bM p):=by rw [h1,aG];exact h3
    have hp2:eU (bM p) p.2.2.2.2.2.1=some (pIn (bM p) (cN p)):=by rw [h2];exact bB2 h4 hl
    rw [hp1,aA,hp2,aA,hw,aA]
    cases ci:inn==aJb p
    ·simp only [bWw,cond_true,if_true,aA];rfl
    ·simp only [bWo,cond_false,bWr,if_false,aHb (fM h),aA]
     have hc:kB t now ((pkR p).1,(pkR p).2.1,(pkR p).2.2.1,(pkR p).2.2.2.2.2.2.2.2.1,(pkR p).2.2.2.1,(pkR p).2.2.2.2.1,(pkR p).2.2.2.2.2.1,(pkR p).2.2.2.2.2.2.1,(pkR p).2.2.2.2.2.2.2.1,(pkR p).2.2.2.2.2.2.2.2.2)=some (aBi (xZ t now p) (cU t now p)):=bLs ht h
     rw [hc]
     simp only [aA,aV,bH,bA,aZ,bC]
     obtain ⟨q,hq1,hq2⟩:=aY2 (t:=t) (now:=now) (S:=Int×den tPk) (R:=Int×den tPk) (fun c p=>(c,p)) id (step:=fun s23=> @Option.bind Bool _ (cond (s23.1==(0:Int)) (Option.bind (gB s23.2) fun y24=>cond y24 (Option.bind (jR s23.2) fun y25=>some (!y25)) (some false)) (some false)) fun (s26:Bool)=>cond s26 (Option.bind (lE s23.2) fun y27=>Option.bind (kB t now (y27.1,y27.2.1,y27.2.2.1,y27.2.2.2.2.2.2.2.2.1,y27.2.2.2.1,y27.2.2.2.2.1,y27.2.2.2.2.2.1,y27.2.2.2.2.2.2.1,y27.2.2.2.2.2.2.2.1,y27.2.2.2.2.2.2.2.2.2)) fun y28=>some (bWj (y28.2.2.2.2.2.2.2.2.2.2,y28.1,y28.2.1,y28.2.2.1,y28.2.2.2.1,y28.2.2.2.2.1,y28.2.2.2.2.2.1,y28.2.2.2.2.2.2.1,y28.2.2.2.2.2.2.2.1,y28.2.2.2.2.2.2.2.2.1,y28.2.2.2.2.2.2.2.2.2.1))) (some (bWi s23))) (xZ t now) (fun p hp=>if_pos hp) (fun c p hc=>by
       have :(c==0)=false:=by simpa using hc
       simp only [this,cond_false,aA,id]) (fun q hq hh h0=>by
       have e:kB t now ((pkR (adv q)).1,(pkR (adv q)).2.1,(pkR (adv q)).2.2.1,(pkR (adv q)).2.2.2.2.2.2.2.2.1,(pkR (adv q)).2.2.2.1,(pkR (adv q)).2.2.2.2.1,(pkR (adv q)).2.2.2.2.2.1,(pkR (adv q)).2.2.2.2.2.2.1,(pkR (adv q)).2.2.2.2.2.2.2.1,(pkR (adv q)).2.2.2.2.2.2.2.2.2)=some (aBi (xZ t now (adv q)) (cU t now (adv q))):=bLs (p:=adv q) ht (by rw [aEp];exact hq)
       simp only [beq_self_eq_true,cond_true,aNg (fM hq) hh,aMw (fM hq),bLy (fM hq),aA,e]
       cases dC q<;>cases fO q<;>rfl) _ p h (bW3 _)
     have hq1:aB _ (cU t now p,xZ t now p)=some ((bN t now p).1,q):=hq1
     have hq2:(bN t now p).1=0→q=(bN t now p).2:=hq2
     have e0:(((aBi (xZ t now p) (cU t now p)).2.2.2.2.2.2.2.2.2.2,(aBi (xZ t now p) (cU t now p)).1,(aBi (xZ t now p) (cU t now p)).2.1,(aBi (xZ t now p) (cU t now p)).2.2.1,(aBi (xZ t now p) (cU t now p)).2.2.2.1,(aBi (xZ t now p) (cU t now p)).2.2.2.2.1,(aBi (xZ t now p) (cU t now p)).2.2.2.2.2.1,(aBi (xZ t now p) (cU t now p)).2.2.2.2.2.2.1,(aBi (xZ t now p) (cU t now p)).2.2.2.2.2.2.2.1,(aBi (xZ t now p) (cU t now p)).2.2.2.2.2.2.2.2.1,(aBi (xZ t now p) (cU t now p)).2.2.2.2.2.2.2.2.2.1):Int×den tPk)=(cU t now p,xZ t now p):=rfl
     rw [e0,hq1,aA]
     by_cases hz:(bN t now p).1=0
     ·have hqq:=hq2 hz
      subst hqq
      obtain ⟨g1,g2,g3⟩:=aEj _ p hz
      have g1:cA (bN t now p).2=true:=g1
      have g2:0<=cO (bN t now p).2:=g2
      have g3:tot tPk (bN t now p).2=tot tPk p:=g3
      have hg:tot tPk (bN t now p).2<=34359738368:=by rw [g3];exact h
      obtain ⟨i',j',k1,k2,k3,k4,k5⟩:=gG g1
      have hl':=zA (fM hg) k3
      have q1:idx (bN t now p).2.2.2.2.1 (bN t now p).2.2.2.2.2.1=some (bM (bN t now p).2):=by rw [k1,aG];exact k3
      have q2:eW (bM (bN t now p).2) (bN t now p).2.2.2.2.2.2.1=some (pEg (bM (bN t now p).2) (cN (bN t now p).2)):=by rw [k2];exact aZ3 k4 hl'
      simp only [hz,beq_self_eq_true,bWo,cond_false,bWr,if_false,aMw (fM hg),aA]
      cases ca:fO (bN t now p).2
      ·simp only [cond_false,bWr,if_false,q1,q2,aA,bP1 ht2,bPw]
       cases aHr t (r,inn,pEg (bM (bN t now p).2) (cN (bN t now p).2))
       ·simp only [bWw,cond_true,if_true];rfl
       ·simp only [bWo,cond_false,bWr,if_false]
        cases aIj dead (pEg (bM (bN t now p).2) (cN (bN t now p).2))
        ·simp only [cond_false,bWr,if_false,bLy (fM hg),aA];rfl
        ·simp only [cond_true,if_true];rfl
      ·simp only [cond_true,if_true]
       cases (bN t now p).2.2.2.1==r
       ·simp only [bWw,cond_true,bWr,if_false];rfl
       ·simp only [bWo,cond_false,if_true];rfl
     ·have hz':((bN t now p).1==0)=false:=by simpa using hz
      simp only [hz',bWw,cond_true,if_true,bN7 h,aA];rfl


def aKm (c:Int) (p:den tPk):Int×Int×Int×Int×Int×Int×Int×Int×Int×(List (den tPp))×(List Int):=(c,p.1,p.2.1,p.2.2.1,p.2.2.2.2.1,p.2.2.2.2.2.1,p.2.2.2.2.2.2.1,p.2.2.2.2.2.2.2.1,p.2.2.2.2.2.2.2.2.1,p.2.2.2.1,p.2.2.2.2.2.2.2.2.2)

theorem aVq {q:den tPk} (hh:cA q=true) (h0:0<=cO q):(dC q&&decide (q.2.2.2.2.1<(q.2.2.2.1.length:Int) - 1))=(dC q&& !fO q):=by
 obtain ⟨i,j,h1,h2,h3,h4,h5⟩:=gG hh
 have hlt:=(bWs.1 h3).1
 unfold fO aE4
 rw [decide_eq_true (p:=cO q>=0) h0,h1]
 have key:decide ((i:Int)<(q.2.2.2.1.length:Int) - 1)= !((i:Int)==(q.2.2.2.1.length:Int) - 1):=by
  rw [bXc]
  simp only [decide_eq_true_eq,bXn,beq_eq_false_iff_ne,ne_eq]
  omega
 rw [key]
 cases dC q<;>simp

theorem bNm {t:den tTo} {r now dead inn:Int} {p:den tPk} (ht:t.1.length<=68719476736) (ht2:t.2.length<=68719476736) (h:tot tPk p<=34359738368) (hpp:tot tPt p.2.2.2.1<=1073741824):rV t r now dead inn p=some (fwS (fwd t r now dead inn p)):=by
 unfold rV fwd ixb aI aH0 aBu pj2 pj4 aT zz4 zz5 zz6 zz7 zz8 zz9
 simp only [aO,aVj (fM h),aSe ht ht2 hpp,aEk (fM h),aA,aE3,bNf h]
 cases cv:fD p
 ·simp only [bWw,bYj,cond_true,aA,if_true];rfl
 ·cases cs:xQ t p.2.2.2.1
  ·simp only [bWo,bWw,bYj,bYk,cond_true,cond_false,aA,if_true];rfl
  ·cases cr:cO p==r
   ·simp only [bWo,bWw,bYj,bYk,cond_true,cond_false,aA,if_true];rfl
   ·simp only [bWo,bX9,cond_false,aA,bWr,if_false]
    obtain ⟨i,j,h1,h2,h3,h4,h5⟩:=gG (aNs cv)
    have hl:=zA (fM h) h3
    have hw:(@Option.bind Bool Int (cond (p.2.2.2.2.1==(0:Int)) (some (p.2.2.2.2.2.1==(0:Int))) (some false)) fun (s8:Bool)=>cond s8 (some (0:Int)) (some (pIn (bM p) (cN p))))=some (aJb p):=by
     unfold aJb
     cases p.2.2.2.2.1==0<;>cases p.2.2.2.2.2.1==0<;>rfl
    have hp1:idx p.2.2.2.1 p.2.2.2.2.1=some (bM p):=by rw [h1,aG];exact h3
    have hp2:eK (bM p) p.2.2.2.2.2.1=some (pIn (bM p) (cN p)):=by rw [h2];exact bA7 h4 hl
    rw [hp1,aA,hp2,aA,hw,aA]
    cases ci:inn==aJb p
    ·simp only [bWw,cond_true,if_true,aA];rfl
    ·simp only [bWo,cond_false,bWr,if_false,bMs ht h,aA]
     obtain ⟨q,hq1,hq2⟩:=aY2 (t:=t) (now:=now) aKm id (step:=fun s17=> @Option.bind Bool _ (cond (s17.1==(0:Int)) (cond (decide ((0:Int)<=s17.2.2.2.2.1)) (cond (decide (s17.2.2.2.2.1<(s17.2.2.2.2.2.2.2.2.2.1.length:Int))) (Option.bind s17.2.2.2.2.2.2.2.2.2.1[s17.2.2.2.2.1.toNat]? fun x18=>cond (s17.2.2.2.2.2.1==(wr ((x18.2.2.2.length:Int) - (1:Int)))) (some (decide (s17.2.2.2.2.1<(wr ((s17.2.2.2.2.2.2.2.2.2.1.length:Int) - (1:Int)))))) (some false)) none) none) (some false)) fun (s19:Bool)=>cond s19 (Option.bind (fY (s17.2.1,s17.2.2.1,s17.2.2.2.1,s17.2.2.2.2.2.2.2.2.2.1,s17.2.2.2.2.1,s17.2.2.2.2.2.1,s17.2.2.2.2.2.2.1,s17.2.2.2.2.2.2.2.1,s17.2.2.2.2.2.2.2.2.1,s17.2.2.2.2.2.2.2.2.2.2)) fun y20=>Option.bind (nJ t now (y20.1,y20.2.1,y20.2.2.1,y20.2.2.2.2.2.2.2.2.1,y20.2.2.2.1,y20.2.2.2.2.1,y20.2.2.2.2.2.1,y20.2.2.2.2.2.2.1,y20.2.2.2.2.2.2.2.1,y20.2.2.2.2.2.2.2.2.2)) fun y21=>some (bWj (y21.2.2.2.2.2.2.2.2.1,y21.1,y21.2.1,y21.2.2.1,y21.2.2.2.1,y21.2.2.2.2.1,y21.2.2.2.2.2.1,y21.2.2.2.2.2.2.1,y21.2.2.2.2.2.2.2.1,y21.2.2.2.2.2.2.2.2.2.1,y21.2.2.2.2.2.2.2.2.2.2))) (some (bWi s17))) (aU t) (fun p hp=>rfl) (fun c p hc=>by
       have :(c==0)=false:=by simpa using hc
       simp only [aKm,this,cond_false,aA,id]) (fun q hq hh h0=>by
       have e:nJ t now ((pkR (adv q)).1,(pkR (adv q)).2.1,(pkR (adv q)).2.2.1,(pkR (adv q)).2.2.2.2.2.2.2.2.1,(pkR (adv q)).2.2.2.1,(pkR (adv q)).2.2.2.2.1,(pkR (adv q)).2.2.2.2.2.1,(pkR (adv q)).2.2.2.2.2.2.1,(pkR (adv q)).2.2.2.2.2.2.2.1,(pkR (adv q)).2.2.2.2.2.2.2.2.2)=some (aCu (aU t (adv q)) (cU t now (adv q))):=bMs (p:=adv q) ht (by rw [aEp];exact hq)
       obtain ⟨i',j',k1,k2,k3,k4,k5⟩:=gG hh
       have hlt:=(bWs.1 k3).1
       have l1:bW0 q.2.2.2.1<=68719476736:=(fM hq).2.2.2.1.1
       have hm:=aVq hh h0
       simp only [aKm,beq_self_eq_true,cond_true,aO,bAp (fM hq),aA,e]
       rw [← hm]
       have hd:decide ((i':Int)<(q.2.2.2.1.length:Int))=true:=decide_eq_true (by omega)
       simp only [k1,eR,hd,cond_true,bWu,k3,aA,jA (zA (fM hq) k3),jA l1]
       unfold dC
       cases q.2.2.2.2.2.1==((bM q).2.2.2.length:Int) - 1<;>cases decide ((i':Int)<(q.2.2.2.1.length:Int) - 1)<;>rfl) _ p h (bW3 _)
     have hq1:aB _ (aKm (cU t now p) (aU t p))=some (aKm (bN t now p).1 q):=hq1
     have hq2:(bN t now p).1=0→q=(bN t now p).2:=hq2
     have e0:(((aCu (aU t p) (cU t now p)).2.2.2.2.2.2.2.2.1,(aCu (aU t p) (cU t now p)).1,(aCu (aU t p) (cU t now p)).2.1,(aCu (aU t p) (cU t now p)).2.2.1,(aCu (aU t p) (cU t now p)).2.2.2.1,(aCu (aU t p) (cU t now p)).2.2.2.2.1,(aCu (aU t p) (cU t now p)).2.2.2.2.2.1,(aCu (aU t p) (cU t now p)).2.2.2.2.2.2.1,(aCu (aU t p) (cU t now p)).2.2.2.2.2.2.2.1,(aCu (aU t p) (cU t now p)).2.2.2.2.2.2.2.2.2.1,(aCu (aU t p) (cU t now p)).2.2.2.2.2.2.2.2.2.2))=aKm (cU t now p) (aU t p):=rfl
     rw [e0,hq1,aA]
     by_cases hz:(bN t now p).1=0
     ·have hqq:=hq2 hz
      subst hqq
      obtain ⟨g1,g2,g3⟩:=aEj _ p hz
      have g1:cA (bN t now p).2=true:=g1
      have g2:0<=cO (bN t now p).2:=g2
      have g3:tot tPk (bN t now p).2=tot tPk p:=g3
      have hg:tot tPk (bN t now p).2<=34359738368:=by rw [g3];exact h
      obtain ⟨i',j',k1,k2,k3,k4,k5⟩:=gG g1
      have hlt:=(bWs.1 k3).1
      have hl':=zA (fM hg) k3
      have q2:cX (bM (bN t now p).2) (bN t now p).2.2.2.2.2.2.1=some (pEg (bM (bN t now p).2) (cN (bN t now p).2)):=by rw [k2];exact aTc k4 hl'
      simp only [aKm,aO,hz,beq_self_eq_true,bWo,cond_false,bWr,if_false,aVr (fM hg),aA]
      cases ca:fO (bN t now p).2
      ·simp only [cond_false,aA,bWr,if_false]
       have hd:decide ((i':Int)<((bN t now p).2.2.2.2.1.length:Int))=true:=decide_eq_true (by omega)
       simp only [k1,eR,hd,cond_true,bWu,k3,aA,q2,bPo ht2,bPd]
       cases aHr t (r,inn,pEg (bM (bN t now p).2) (cN (bN t now p).2))
       ·simp only [bWw,cond_true,if_true];rfl
       ·simp only [bWo,cond_false,bWr,if_false]
        cases aIj dead (pEg (bM (bN t now p).2) (cN (bN t now p).2))
        ·simp only [cond_false,bWr,if_false,bAp (fM hg),aA];rfl
        ·simp only [cond_true,if_true];rfl
      ·simp only [cond_true,aA]
       cases (bN t now p).2.2.2.1==r
       ·simp only [cond_false,cond_true,bWr,if_false,if_true];rfl
       ·simp only [cond_true,if_true];rfl
     ·have hz':((bN t now p).1==0)=false:=by simpa using hz
      simp only [aKm,hz',bWw,cond_true,if_true,bNf h,aA];rfl

theorem aLp (t:den tTo) (r now dead inn:Int) (p:den tPk):tot tPk (fwd t r now dead inn p).2.2.1=tot tPk p:=by
 unfold fwd
 split
 ·rfl
 ·split
  ·rfl
  ·split
   ·rfl
   ·rename_i hz
    have hz:(bN t now p).1=0:=by simpa using hz
    obtain ⟨_,_,g3⟩:=aEj _ p hz
    have g3:tot tPk (bN t now p).2=tot tPk p:=g3
    split
    ·split
     ·exact g3
     ·rfl
    ·split
     ·rfl
     ·split
      ·rfl
      ·show tot tPk (adv (bN t now p).2)=_
       rw [aEp];exact g3

def cD (t:den tTo) (now:Int) (dead:List Int) (r inn:Int) (p:den tPk):Int×Int×den tPk×Int:=fwd t r now (tD t dead r) inn p

abbrev nT (w:den tNw):den tTo:=w.1

abbrev nK (w:den tNw):den tDb:=w.2.1

abbrev nG (w:den tNw):den tSc:=w.2.2.1

abbrev aR (w:den tNw):Int:=w.2.2.2.1

abbrev aK (w:den tNw):List Int:=w.2.2.2.2.1

abbrev aN (w:den tNw):List (den tFy):=w.2.2.2.2.2.1

abbrev aC (w:den tNw):List (den tFl):=w.2.2.2.2.2.2.1

abbrev bL (w:den tNw):List (den tIb):=w.2.2.2.2.2.2.2.1

abbrev dH (w:den tNw):Int:=w.2.2.2.2.2.2.2.2


def aP3 (w:den tNw):Int×Int×Int×(List (den tAS))×(List (den tLk))×(List (den tSg))×(List (den tSg))×(List (den tRs))×(List (den tUs))×(List Int)×(List (den tFy))×(List (den tFl))×(List (den tIb)):=
 ((nG w).1,aR w,dH w,(nT w).1,(nT w).2,(nK w).1,(nK w).2,(nG w).2.1,(nG w).2.2,aK w,aN w,aC w,bL w)

theorem bGs {l:List (den tRs)} (h:l.length<=68719476736):eB l=some l:=by
 unfold eB
 rw [aD (n:=([]:List (den tRs)).length) (by decide) (by simpa using h)]
 rfl

theorem bBg {g:den tSc} (h:SmB 68719476736 tSc g):eJ g=some g:=by
 unfold eJ
 rw [bGs h.2.1.1,aA,aD (n:=([]:List (den tUs)).length) (by decide) (by simpa using h.2.2.1)]
 rfl

theorem bBm {g:den tSc} (h:SmB 68719476736 tSc g):gX g=some g:=by
 unfold gX pj3
 rw [aD (b:=40) (n:=([]:List (den tRs)).length) (by decide) (by simpa using h.2.1.1),aD (b:=32) (n:=([]:List (den tUs)).length) (by decide) (by simpa using h.2.2.1)]
 simp only [aV,bH,bA,aZ,bC,cond_true,aA,bXg]

theorem aKz (f:den tFl):(((nM f).1,(nM f).2.1,(nM f).2.2.1,(nM f).2.2.2.1,(nM f).2.2.2.2.2.2.1,(nM f).2.2.2.2.2.2.2.1,(nM f).2.2.2.2.1,(nM f).2.2.2.2.2.1,(nM f).2.2.2.2.2.2.2.2):den tFl)=f:=rfl

theorem aZo (p:den tPk):(((pkR p).1,(pkR p).2.1,(pkR p).2.2.1,(pkR p).2.2.2.2.2.2.2.2.1,(pkR p).2.2.2.1,(pkR p).2.2.2.2.1,(pkR p).2.2.2.2.2.1,(pkR p).2.2.2.2.2.2.1,(pkR p).2.2.2.2.2.2.2.1,(pkR p).2.2.2.2.2.2.2.2.2):den tPk)=p:=rfl

theorem bE7 {x:den tFy} (h:SmB 68719476736 tFy x):SmB 68719476736 tPk x.2.2:=h.2.2

theorem aY7 {w:den tNw} (h:SmB 68719476736 tNw w):iC w=some (aP3 w):=by
 obtain ⟨hT,hK,hG,_,hD,hY,hF,hX,_⟩:=h
 unfold iC oS aI pj2 pj3 pj4 pj9 zz4 zz5 zz6 zz7 zz8 zz9
 simp only [aO,bQk hT,aVm hK.1,aVm hK.2,bBg hG,aX9 hD.1,aA]
 rw [(tC (fun k (a:List (den tFy))=>((k:Int),(nG w).1,aR w,dH w,a)) ((0:Int),(nG w).1,aR w,dH w,[]) [] (aN w) (fun _ x a=>a++[x]) bW0 (fun _=>1) 68719476736 (fun a=>((nG w).1,aR w,dH w,a)) rfl (bWl hY.1 (by decide)) (by rw [eN];simpa using hY.1) (fun k x a hi hx hd hw hk hb=>by
  have e:=bE7 (hY.2 x (bWx hx))
  simp only [hd,hi,hw,cond_true,aA,aO,aHb e,aZo,aD (b:=128) (n:=a.length) (m:=1) (by decide) hb]
  exact ⟨rfl,by simp⟩) (fun a=>by simp)).1,iO (fun x=>x)]
 simp only [aA]
 rw [(tC (fun k (a:List (den tFl))=>((k:Int),(nG w).1,aR w,dH w,a)) ((0:Int),(nG w).1,aR w,dH w,[]) [] (aC w) (fun _ x a=>a++[x]) bW0 (fun _=>1) 68719476736 (fun a=>((nG w).1,aR w,dH w,a)) rfl (bWl hF.1 (by decide)) (by rw [eN];simpa using hF.1) (fun k x a hi hx hd hw hk hb=>by
  have e:=hF.2 x (bWx hx)
  simp only [hd,hi,hw,cond_true,aA,aO,aHi e,aKz,aD (b:=120) (n:=a.length) (m:=1) (by decide) hb]
  exact ⟨rfl,by simp⟩) (fun a=>by simp)).1,iO (fun x=>x)]
 simp only [aA]
 rw [(tC (fun k (a:List (den tIb))=>((k:Int),(nG w).1,aR w,dH w,a)) ((0:Int),(nG w).1,aR w,dH w,[]) [] (bL w) (fun _ x a=>a++[x]) bW0 (fun _=>1) 68719476736 (fun a=>((nG w).1,aR w,dH w,a)) rfl (bWl hX.1 (by decide)) (by rw [eN];simpa using hX.1) (fun k x a hi hx hd hw hk hb=>by
  have e:=hX.2 x (bWx hx)
  simp only [hd,hi,hw,cond_true,aA,aO,aZm e,aD (b:=48) (n:=a.length) (m:=1) (by decide) hb]
  simp) (fun a=>by simp)).1,iO (fun x=>x)]
 simp only [aA,bXg,List.map_id']
 rfl

theorem bUp {l:List (den tFy)} (h:SmB 68719476736 (.sl tFy) l):sL l=some l:=by
 unfold sL aI zz4 zz5 zz6 zz7 zz8 zz9
 rw [(tC (fun k (a:List (den tFy))=>((k:Int),a)) ((0:Int),[]) [] l (fun _ x a=>a++[x]) bW0 (fun _=>1) 68719476736 id rfl (bWl h.1 (by decide)) (by rw [eN];simpa using h.1) (fun k x a hi hx hd hw hk hb=>by
  have e:=bE7 (h.2 x (bWx hx))
  simp only [hd,hi,hw,cond_true,aA,aO,aCq e,aZo,aD (b:=128) (n:=a.length) (m:=1) (by decide) hb]
  exact ⟨rfl,by simp⟩) (fun a=>by simp)).1,iO (fun x=>x)]
 simp

theorem bPt {l:List (den tFl)} (h:SmB 68719476736 (.sl tFl) l):nF l=some l:=by
 unfold nF pj9 zz4 zz5 zz6 zz7 zz8
 rw [(tC (fun k (a:List (den tFl))=>((k:Int),a)) ((0:Int),[]) [] l (fun _ x a=>a++[x]) bW0 (fun _=>1) 68719476736 id rfl (bWl h.1 (by decide)) (by rw [eN];simpa using h.1) (fun k x a hi hx hd hw hk hb=>by
  have e:=h.2 x (bWx hx)
  simp only [hd,hi,hw,cond_true,aA,aO,aCi e,aKz,aD (b:=120) (n:=a.length) (m:=1) (by decide) hb]
  exact ⟨rfl,by simp⟩) (fun a=>by simp)).1,iO (fun x=>x)]
 simp

theorem bQd {l:List (den tIb)} (h:SmB 68719476736 (.sl tIb) l):mT l=some l:=by
 unfold mT pj4
 rw [(tC (fun k (a:List (den tIb))=>((k:Int),a)) ((0:Int),[]) [] l (fun _ x a=>a++[x]) bW0 (fun _=>1) 68719476736 id rfl (bWl h.1 (by decide)) (by rw [eN];simpa using h.1) (fun k x a hi hx hd hw hk hb=>by
  have e:=h.2 x (bWx hx)
  simp only [hd,hi,hw,cond_true,aA,aO,aXq e,aD (b:=48) (n:=a.length) (m:=1) (by decide) hb]
  simp) (fun a=>by simp)).1,iO (fun x=>x)]
 simp

theorem aYc {w:den tNw} (h:SmB 68719476736 tNw w):qA w=some (aP3 w):=by
 obtain ⟨hT,hK,hG,_,hD,hY,hF,hX,_⟩:=h
 unfold qA pj2 pj3 aT zz4 zz5 zz6 zz7 zz8 zz9
 simp only [aO,aX0 hT,aCe hK.1,aCe hK.2,bBm hG,bUp hY,bPt hF,bQd hX,aA,aD (b:=8) (n:=([]:List Int).length) (m:=w.2.2.2.2.1.length) (by decide) (by simpa using hD.1),cond_true,aV,bH,bA,aZ,bC,bXg]
 rfl


def bT (w:den tNw):(List (den tFy))×(List (den tFl))×(List (den tIb))×(List (den tAS))×(List (den tLk))×(List (den tSg))×(List (den tSg))×Int×(List (den tRs))×(List (den tUs))×Int×(List Int)×Int:=
 (aN w,aC w,bL w,(nT w).1,(nT w).2,(nK w).1,(nK w).2,(nG w).1,(nG w).2.1,(nG w).2.2,aR w,aK w,dH w)

def cT (w:den tNw) (l:List (den tFl)):den tNw:=(nT w,nK w,nG w,aR w,aK w,aN w,l,bL w,dH w)

def qN (r:Int) (p:den tPk) (f:den tFl):den tFl:=if f.1==r then (if p.1==2 then uU f p else yB f p) else f

def vR (w:den tNw) (r:Int) (p:den tPk):den tNw:=cT w ((aC w).map (qN r p))

def fN (p:den tPk):Prop:= ∀ x∈p.2.2.2.2.2.2.2.2.2,0<=x∧x<=255


theorem aP0 {α S R:Type} (enc:Nat→List α→S) (l:List α) (g:α→α) (out:List α→R) {step:S→Option (S⊕R)} (hl:l.length<=4611686018427387904)
  (h: ∀ (k:Nat) (x:α) (a:List α),a.length=l.length→a[k]? =some x→x∈l→k<l.length→decide ((k:Int)<(l.length:Int))=true→IntKind.i64.wrap ((k:Int)+1)=((k+1:Nat):Int)→step (enc k a)=some (.inl (enc (k+1) (a.set k (g x)))))
  (he: ∀ a,a.length=l.length→step (enc l.length a)=some (.inr (out a))):aB step (enc 0 l)=some (out (l.map g)):=by
 have key: ∀ (rest pre:List α),pre++rest=l→aB step (enc pre.length (pre.map g++rest))=some (out (l.map g)):=by
  intro rest
  induction rest with
  | nil=>
   intro pre hp
   rw [bXs] at hp
   subst hp
   rw [bXs]
   exact bW (he _ (by simp))
  | cons x rest ih=>
   intro pre hp
   have hlt:pre.length<l.length:=by rw [← hp];simp
   have hx:(pre.map g++x::rest)[pre.length]? =some x:=by simp
   have hlen:(pre.map g++x::rest).length=l.length:=by rw [← hp];simp
   rw [dY (h pre.length x _ hlen hx (by rw [← hp];simp) hlt (by simpa using hlt) (by rw [wri (by omega) (by omega)];omega))]
   have hs:(pre.map g++x::rest).set pre.length (g x)=(pre++[x]).map g++rest:=by
    rw [List.set_append_right _ _ (by simp)]
    simp
   rw [hs]
   have :=ih (pre++[x]) (by simpa using hp)
   simpa using this
 exact key l [] rfl

theorem aH1 {α:Type} {a:List α} {k:Nat} {x:α} (h:a[k]? =some x):a.set k x=a:=by
 obtain ⟨hlt,hx⟩:=bWs.1 h
 rw [← hx]
 exact List.set_getElem_self hlt

theorem aQ6 {f:den tFl} (h:tot tFl f<=1073741824):SmB 68719476736 tFl f:=(bE h).mono (by decide)

theorem aLa {α:Type} {a:List α} {k n:Nat} (h:a.length=n) (hk:k<n):decide ((k:Int)<(a.length:Int))=true∧decide (k<a.length)=true:=by
 constructor<;>simp<;>omega

theorem aQm {w:den tNw} {r:Int} {p:den tPk} (hF: ∀ f∈aC w,tot tFl f<=1073741824) (hl:(aC w).length<=1073741824) (hp:tot tPk p<=1073741824) (hb:fN p):gD w r p=some (bT (vR w r p)):=by
 unfold gD ixb aI pj9 zz4 zz5 zz6 zz7 zz8
 refine aP0 (fun k (a:List (den tFl))=>((k:Int),a)) (aC w) (qN r p) (fun l=>bT (cT w l)) (bWl hl (by decide)) (fun k f a ha hx hm hk hd hw=> ?_) (fun a ha=> ?_)
 ·obtain ⟨d1,d2⟩:=aLa ha hk
  have hd:decide ((k:Int)<(w.2.2.2.2.2.2.1.length:Int))=true:=hd
  simp only [hd,d1,d2,eR,bWu,hx,cond_true,aA,aO,aE3,bPr (aQ6 (hF f hm)),bPf (hF f hm) hp hb,aKz,hw]
  unfold qN
  cases f.1==r
  ·simp only [bWw,cond_true,bWr,if_false,aA,aH1 hx]
  ·simp only [bWo,cond_false,if_true]
   cases p.1==2<;>rfl
 ·simp;rfl

theorem aRj {w:den tNw} {r:Int} {p:den tPk} (hk3:(p.1==2)=false) (hF: ∀ f∈aC w,tot tFl f<=1073741824) (hl:(aC w).length<=1073741824) (hp:tot tPk p<=1073741824) (hb:fN p):mF w r p=some (bT (vR w r p)):=by
 unfold mF ixb aI pj9 zz4 zz5 zz6 zz7 zz8
 refine aP0 (fun k (a:List (den tFl))=>((k:Int),a)) (aC w) (qN r p) (fun l=>bT (cT w l)) (bWl hl (by decide)) (fun k f a ha hx hm hk hd hw=> ?_) (fun a ha=> ?_)
 ·obtain ⟨d1,d2⟩:=aLa ha hk
  simp only [d1,d2,eR,bWu,hx,cond_true,aA,aO,bO0 (hF f hm) hp hb,aV,bH,bA,aZ,bC,hw]
  unfold qN
  rw [hk3]
  cases f.1==r
  ·simp only [cond_false,bWr,if_false,aA,aH1 hx]
  ·simp only [cond_true,if_true,aA,bWr,if_false]
   rfl
 ·show cond (decide ((((aC w).length:Nat):Int)<(a.length:Int))) _ _=_
  rw [ha,decide_eq_false (by omega)]
  rfl

theorem bDz {w:den tNw} {r:Int} {p:den tPk} (hk2:(p.1==2)=true) (hF: ∀ f∈aC w,tot tFl f<=1073741824) (hl:(aC w).length<=1073741824) {step:Int×List (den tFl)→Option ((Int×List (den tFl))⊕_)}
  (hs: ∀ (k:Nat) (f:den tFl) (a:List (den tFl)),a.length=(aC w).length→a[k]? =some f→f∈aC w→k<(aC w).length→step ((k:Int),a)=some (.inl (((k+1:Nat):Int),a.set k (qN r p f)))) (he: ∀ a,a.length=(aC w).length→step (((aC w).length:Int),a)=some (.inr (bT (cT w a)))):aB step ((0:Int),aC w)=some (bT (vR w r p)):=
 aP0 (fun k (a:List (den tFl))=>((k:Int),a)) (aC w) (qN r p) (fun l=>bT (cT w l)) (bWl hl (by decide)) (fun k f a ha hx hm hk hd hw=>hs k f a ha hx hm hk) (fun a ha=>he a ha)

theorem aKb (p:den tPk):goTo p p.2.2.2.2.1 p.2.2.2.2.2.1 p.2.2.2.2.2.2.1=p:=rfl

theorem aGp (t:den tTo) (p:den tPk): ∃ b,aU t p=goTo p p.2.2.2.2.1 p.2.2.2.2.2.1 b:=by
 unfold aU
 split
 ·exact ⟨_,rfl⟩
 ·exact ⟨_,(aKb p).symm⟩

theorem aUc (p:den tPk): ∃ i j b,adv p=goTo p i j b:=by
 unfold adv
 split
 ·exact ⟨_,_,_,(aKb p).symm⟩
 ·split<;>exact ⟨_,_,_,rfl⟩

theorem aUr {t:den tTo} {now:Int}: ∀ (n:Nat) (p:den tPk),∃ i j b,(goC t now n p).2=goTo p i j b
 | 0,p=>by obtain ⟨b,hb⟩:=aGp t p;exact ⟨_,_,_,hb⟩
 | n+1,p=>by
  obtain ⟨b,hb⟩:=aGp t p
  unfold goC
  split
  ·obtain ⟨i,j,c,h1⟩:=aUr (t:=t) (now:=now) n (adv (aU t p))
   obtain ⟨i',j',c',h2⟩:=aUc (aU t p)
   rw [h1,h2,hb]
   exact ⟨_,_,_,rfl⟩
  ·exact ⟨_,_,_,hb⟩

theorem aT9 (t:den tTo) (r now dead inn:Int) (p:den tPk): ∃ i j b,(fwd t r now dead inn p).2.2.1=goTo p i j b:=by
 obtain ⟨i,j,b,h⟩: ∃ i j b,(bN t now p).2=goTo p i j b:=aUr _ p
 unfold fwd
 repeat' split
 all_goals first
  | exact ⟨_,_,_,(aKb p).symm⟩
  | exact ⟨_,_,_,h⟩
  | (obtain ⟨i',j',b',h'⟩:=aUc (bN t now p).2;exact ⟨_,_,_,by rw [show (0,pEg (bM (bN t now p).2) (cN (bN t now p).2),adv (bN t now p).2,pEg (bM (bN t now p).2) (cN (bN t now p).2)).2.2.1=adv (bN t now p).2 from rfl,h',h];rfl⟩)


theorem aDk (t:den tTo) (r now dead inn:Int) (p:den tPk):(fwd t r now dead inn p).2.2.1.1=p.1∧(fwd t r now dead inn p).2.2.1.2.1=p.2.1∧(fwd t r now dead inn p).2.2.1.2.2.2.2.2.2.2.1=p.2.2.2.2.2.2.2.1∧(fwd t r now dead inn p).2.2.1.2.2.2.2.2.2.2.2.2=p.2.2.2.2.2.2.2.2.2:=by
 obtain ⟨i,j,b,h⟩:=aT9 t r now dead inn p
 rw [h]
 exact ⟨rfl,rfl,rfl,rfl⟩

theorem aJt {t:den tTo} {r now dead inn:Int} {p:den tPk} (h:((fwd t r now dead inn p).1==2)=false):fD p=true:=by
 cases hv:fD p with
 | true=>rfl
 | false=>
  unfold fwd at h
  rw [hv] at h
  cases h

def wT (w:den tNw):den tNw:=(nT w,nK w,nG w,aR w,aK w,aN w,aC w,bL w,wr (dH w+1))

def rK (w:den tNw) (r eg:Int) (p:den tPk):den tNw:=
 if (rC (nG w) p.2.2.2.2.2.2.2.1 r eg (aR w)).2.1&&decide ((aN w).length<150) then
  (nT w,nK w,((rC (nG w) p.2.2.2.2.2.2.2.1 r eg (aR w)).1,(rC (nG w) p.2.2.2.2.2.2.2.1 r eg (aR w)).2.2.1,(rC (nG w) p.2.2.2.2.2.2.2.1 r eg (aR w)).2.2.2),aR w,aK w,aN w++[((remote (nT w) r eg).1,(remote (nT w) r eg).2,p)],aC w,bL w,dH w)
 else wT w


structure aAh (w:den tNw):Prop where
 as:(nT w).1.length<=68719476736
 links:(nT w).2.length<=1073741824
 dead:(aK w).length<=68719476736
 res:(nG w).2.1.length<=1073741824
 use:(nG w).2.2.length<=1073741824
 flowsN:(aC w).length<=1073741824
 flows: ∀ f∈aC w,tot tFl f<=1073741824

theorem aYk {w:den tNw} {r:Int} {v:den aUl} (h:aAh w):kG w r v=some (bT (rK w r v.2.1 v.2.2)):=by
 unfold kG rK aI pj2 pj3 zz4 zz5 zz6 zz7 zz8 zz9
 simp only [aO,bO1 h.res h.use,aA,aV,bH,bA,aZ,bC]
 have key: ∀ n:Nat,decide ((n:Int)>=150)= !decide (n<150):=fun n=>by rw [bXc];simp only [decide_eq_true_eq,bXn,decide_eq_false_iff_not];omega
 have h150:decide ((w.2.2.2.2.2.1.length:Int)>=150)= !decide ((aN w).length<150):=key _
 rw [h150]
 cases ct:(rC (nG w) v.2.2.2.2.2.2.2.2.2.1 r v.2.1 (aR w)).2.1
 ·simp only [bWw,cond_true,aA,bXa,bWr,if_false]
  rfl
 ·by_cases hl:(aN w).length<150
  ·rw [decide_eq_true hl]
   simp only [bWo,cond_false,aA,bYe,if_true,aVw (t:=w.1) (bWl h.links (by decide)),aD (b:=128) (n:=w.2.2.2.2.2.1.length) (m:=1) (by decide) (show (aN w).length+1<=_ by omega),cond_true]
   rfl
  ·rw [decide_eq_false hl]
   simp only [bWo,bWw,cond_true,cond_false,aA,bYi,bWr,if_false]
   rfl

def proc0 (w:den tNw) (r inn:Int) (p:den tPk):den tNw:=
 if (cD (nT w) (aR w) (aK w) r inn p).1==0 then rK w r (cD (nT w) (aR w) (aK w) r inn p).2.1 (cD (nT w) (aR w) (aK w) r inn p).2.2.1
 else if (cD (nT w) (aR w) (aK w) r inn p).1==1 then vR w r (cD (nT w) (aR w) (aK w) r inn p).2.2.1
 else wT w


structure aAr (p:den tPk):Prop where
 sz:tot tPk p<=1073741824
 by_:fN p

theorem aAr.step {p:den tPk} (h:aAr p) (t:den tTo) (now:Int) (dead:List Int) (r inn:Int):aAr (cD t now dead r inn p).2.2.1 where
 sz:=by unfold cD;rw [aLp];exact h.sz
 by_:=fun x hx=>h.by_ x (by unfold cD at hx;rwa [(aDk t r now _ inn p).2.2.2] at hx)

theorem aRk {w:den tNw} {r inn:Int} {p:den tPk} (h:aAh w) (hp:aAr p) (hk:(p.1==1)=false):dO w r inn p=some (bT (proc0 w r inn p)):=by
 have hp2:tot tPt p.2.2.2.1<=1073741824:=aHa hp.sz
 have hs:=hp.step (nT w) (aR w) (aK w) r inn
 unfold dO bR.b ixb aI jZ pj2 pj3 pj4 eL aT bK bO zz4 zz5 zz6 zz7 zz8 zz9
 simp only [aO,aYd h.links h.dead,bM1 h.as (bWl h.links (by decide)) (bWl hp.sz (by decide)) hp2,aA,aV,bH,bA,aZ,bC,hk]
 rw [show fwd w.1 r w.2.2.2.1 (tD w.1 w.2.2.2.2.1 r) inn p=cD (nT w) (aR w) (aK w) r inn p from rfl]
 unfold proc0
 generalize cD (nT w) (aR w) (aK w) r inn p=v at hs
 simp only [fwI,aO]
 cases c0:v.1==0
 ·cases c1:v.1==1
  ·cases v.1==7
   ·simp only [cond_false,aA,bWr,if_false];rfl
   ·simp only [cond_true,cond_false,aA,bWr,if_false];rfl
  ·simp only [cond_true,cond_false,aA,bWr,if_false,if_true,aQm h.flows h.flowsN hs.sz hs.by_]
 ·simp only [cond_true,if_true,aYk h,aA]

theorem aU2: ∀ (k n:Nat),n<128 ^ (k+1)→ ∀ x∈vi k n,0<=x∧x<=255
 | 0,n,h,x,hx=>by
  have :x=(n:Int):=by simpa [vi] using hx
  subst this
  have :128 ^ (0+1)=128:=rfl
  omega
 | k+1,n,h,x,hx=>by
  unfold vi at hx
  split at hx
  ·have :x=(n:Int):=by simpa using hx
   subst this
   omega
  ·rcases List.mem_cons.1 hx with rfl | hx
   ·omega
   ·refine aU2 k (n / 128) ?_ x hx
    rw [Nat.div_lt_iff_lt_mul (by decide)]
    rwa [← Nat.pow_succ]

def sR (l:List Int):Prop:= ∀ x∈l,0<=x∧x<=255

theorem bBr {b:List Int} {n:Int} (h:sR b):sR (aAn b n):=by
 unfold aAn
 split
 ·rename_i hr
  have :=bI.1 hr
  intro x hx
  rcases bWv.1 hx with hx | hx
  ·exact h x hx
  ·exact aU2 5 n.toNat (by have :128 ^ (5+1)=4398046511104:=rfl;omega) x hx
 ·exact h

theorem aPj: ∀ (l b:List Int),sR b→sR (aHz b l)
 | [],b,h=>h
 | x::xs,b,h=>aPj xs (aAn b x) (bBr h)

theorem aN5 (x:den tRv):sR (aFc x):=by
 unfold aFc
 split
 ·exact aPj _ _ (fun x hx=>by cases hx)
 ·exact fun x hx=>by cases hx

theorem aYw {r now d:Int} {p:den tPk} (h:tot tPk p<=536870912):aAr (bY r now d p) where
 sz:=by have :=aR6 r now d p;omega
 by_:=aN5 _

theorem aOc {x:den tIb} {p:den tPk} (h:aAr p):aAr (nA x p) where
 sz:=bWl (aSq x p) h.sz
 by_:=by
  unfold nA
  split
  ·exact fun x hx=>by cases hx
  ·exact fun x hx=>by cases hx

theorem bPb {l:List (den tIb)} {a b:Int} (h:l.length<=68719476736):pI l a b=some (lY l a b):=by
 unfold pI lY
 rw [aY (l:=l) (fun k x=>if wD a b x then some (k:Int) else none) (by omega) (fun k x hi hd hw hm hk=>by
  simp only [hd,hi,hw,cond_true,aA]
  unfold wD
  cases x.1==a<;>cases x.2.1==b<;>rfl) (by simp),aJw (wD a b)]
 cases l.findIdx? (wD a b)<;>rfl

theorem aH2 (l:List (den tIb)) (a b:Int):lY l a b= -1∨ ∃ (k:Nat) (x:den tIb),lY l a b=(k:Int)∧l[k]? =some x:=by
 unfold lY
 cases h:l.findIdx? (wD a b) with
 | none=>exact .inl rfl
 | some i=>
  have hlt:i<l.length:=by
   have :=List.findIdx?_eq_some_iff_findIdx_eq.1 h
   exact this.1
  exact .inr ⟨i,l[i],by simp,bWk hlt⟩

def sO (w:den tNw) (i:Nat) (x:den tIb):den tNw:=(nT w,nK w,nG w,aR w,aK w,aN w,aC w,(bL w).set i x,dH w)

def yD (w:den tNw) (i:Nat):den tIb:=((bL w)[i]?).getD (0,0,0,[])


def aAl (w:den tNw) (r:Int) (p:den tPk):den tNw:=
 if lY (bL w) r p.2.1<0 then w
 else if aBm (dV (yD w (lY (bL w) r p.2.1).toNat) p) p then
  proc0 (sO w (lY (bL w) r p.2.1).toNat (dV (yD w (lY (bL w) r p.2.1).toNat) p)) r 0 (nA (dV (yD w (lY (bL w) r p.2.1).toNat) p) p)
 else sO w (lY (bL w) r p.2.1).toNat (dV (yD w (lY (bL w) r p.2.1).toNat) p)

def aC5 (w:den tNw) (r d:Int) (p:den tPk):den tNw:=
 wT (if (gK (qZ p)).length>1 then proc0 w r 0 (bY r (aR w) d p) else vR w r (bY r (aR w) d p))

def fU (w:den tNw) (r inn:Int) (p:den tPk):den tNw:=
 if (cD (nT w) (aR w) (aK w) r inn p).1==0 then rK w r (cD (nT w) (aR w) (aK w) r inn p).2.1 (cD (nT w) (aR w) (aK w) r inn p).2.2.1
 else if (cD (nT w) (aR w) (aK w) r inn p).1==1 then
  (if p.1==1 then aAl w r (cD (nT w) (aR w) (aK w) r inn p).2.2.1 else vR w r (cD (nT w) (aR w) (aK w) r inn p).2.2.1)
 else if (cD (nT w) (aR w) (aK w) r inn p).1==7&&p.1==1 then aC5 w r (cD (nT w) (aR w) (aK w) r inn p).2.2.2 p
 else wT w

theorem aGd {w:den tNw} (h:aAh w) {i:Nat} {x:den tIb}:aAh (sO w i x):=⟨h.as,h.links,h.dead,h.res,h.use,h.flowsN,h.flows⟩

theorem aPi {x:den tIb} {p:den tPk} (h:aBm x p=true):((nA x p).1==1)=false:=by
 unfold nA
 rw [h]
 rfl

theorem aX3 {w:den tNw} {r inn:Int} {p:den tPk} (h:aAh w) (hbn:(bL w).length<=68719476736) (hbx: ∀ x∈bL w,tot tIb x<=1073741824) (hz:tot tPk p<=536870912) (hb:fN p):bR w r inn p=some (bT (fU w r inn p)):=by
 have hp:aAr p:=⟨by omega,hb⟩
 have hp2:tot tPt p.2.2.2.1<=1073741824:=aHa hp.sz
 have hs:=hp.step (nT w) (aR w) (aK w) r inn
 have hkeep:=aDk w.1 r w.2.2.2.1 (tD w.1 w.2.2.2.2.1 r) inn p
 unfold bR bR.b ixb aI jZ pj2 pj3 pj4 eL aT bK bO zz4 zz5 zz6 zz7 zz8 zz9
 simp only [aO,aYd h.links h.dead,bM1 h.as (bWl h.links (by decide)) (bWl hp.sz (by decide)) hp2,aA,aV,bH,bA,aZ,bC]
 rw [show fwd w.1 r w.2.2.2.1 (tD w.1 w.2.2.2.2.1 r) inn p=cD (nT w) (aR w) (aK w) r inn p from rfl] at hkeep ⊢
 unfold fU
 generalize cD (nT w) (aR w) (aK w) r inn p=v at hs hkeep
 simp only [fwI,aO]
 cases c0:v.1==0
 ·cases c1:v.1==1
  ·cases c7:v.1==7
   ·simp only [cond_false,aA,bWr,if_false,bXa];rfl
   ·cases ck:p.1==1
    ·simp only [cond_true,cond_false,aA,bWr,if_false,bYi];rfl
    ·have hn:aAr (bY r (aR w) v.2.2.2 p):=aYw hz
     have ht1:tot tPt (qZ p)<=34359738368:=bWl (aBw p) (bWl hp2 (by decide))
     have hlen:decide (((gK (qZ p)).length:Int)>1)=decide ((gK (qZ p)).length>1):=by rw [bXc];simp only [decide_eq_true_eq,gt_iff_lt];omega
     have e1:dO w r 0 ((pkR (bY r w.2.2.2.1 v.2.2.2 p)).1,(pkR (bY r w.2.2.2.1 v.2.2.2 p)).2.1,(pkR (bY r w.2.2.2.1 v.2.2.2 p)).2.2.1,(pkR (bY r w.2.2.2.1 v.2.2.2 p)).2.2.2.2.2.2.2.2.1,(pkR (bY r w.2.2.2.1 v.2.2.2 p)).2.2.2.1,(pkR (bY r w.2.2.2.1 v.2.2.2 p)).2.2.2.2.1,(pkR (bY r w.2.2.2.1 v.2.2.2 p)).2.2.2.2.2.1,(pkR (bY r w.2.2.2.1 v.2.2.2 p)).2.2.2.2.2.2.1,(pkR (bY r w.2.2.2.1 v.2.2.2 p)).2.2.2.2.2.2.2.1,(pkR (bY r w.2.2.2.1 v.2.2.2 p)).2.2.2.2.2.2.2.2.2)=some (bT (proc0 w r 0 (bY r (aR w) v.2.2.2 p))):=aRk h hn rfl
     have e2:gD w r ((pkR (bY r w.2.2.2.1 v.2.2.2 p)).1,(pkR (bY r w.2.2.2.1 v.2.2.2 p)).2.1,(pkR (bY r w.2.2.2.1 v.2.2.2 p)).2.2.1,(pkR (bY r w.2.2.2.1 v.2.2.2 p)).2.2.2.2.2.2.2.2.1,(pkR (bY r w.2.2.2.1 v.2.2.2 p)).2.2.2.1,(pkR (bY r w.2.2.2.1 v.2.2.2 p)).2.2.2.2.1,(pkR (bY r w.2.2.2.1 v.2.2.2 p)).2.2.2.2.2.1,(pkR (bY r w.2.2.2.1 v.2.2.2 p)).2.2.2.2.2.2.1,(pkR (bY r w.2.2.2.1 v.2.2.2 p)).2.2.2.2.2.2.2.1,(pkR (bY r w.2.2.2.1 v.2.2.2 p)).2.2.2.2.2.2.2.2.2)=some (bT (vR w r (bY r (aR w) v.2.2.2 p))):=aQm h.flows h.flowsN hn.sz hn.by_
     simp only [cond_true,cond_false,aA,bWr,if_false,bYe,if_true,bOa (t:=w.1) (r:=r) (now:=w.2.2.2.1) (d:=v.2.2.2) (bWl hp.sz (by decide)),aWo (fM (p:=p) (by omega)),aV,bH,bA,aZ,bC]
     unfold jL
     simp only [aP1 ht1,aA,hlen,e1,e2]
     unfold aC5
     cases hd:decide ((gK (qZ p)).length>1)
     ·rw [if_neg (of_decide_eq_false hd)];rfl
     ·rw [if_pos (of_decide_eq_true hd)];rfl
  ·cases ck:p.1==1
   ·simp only [cond_true,cond_false,aA,bWr,if_false,if_true,aQm h.flows h.flowsN hs.sz hs.by_]
   ·simp only [cond_true,cond_false,aA,bWr,if_false,if_true,bPb hbn]
    unfold aAl
    rw [hkeep.2.1]
    rcases aH2 (bL w) r p.2.1 with hf | ⟨k,x,hf,hx⟩
    ·rw [show lY w.2.2.2.2.2.2.2.1 r p.2.1= -1 from hf]
     rfl
    ·have hlt:=(bWs.1 hx).1
     have hx0:w.2.2.2.2.2.2.2.1[k]? =some x:=hx
     have hxm:=hbx x (bWx hx)
     have hxs:SmB 4294967296 tIb x:=(bE hxm).mono (by decide)
     have hvs:SmB 4294967296 tPk v.2.2.1:=(bE hs.sz).mono (by decide)
     have hd1:decide ((k:Int)<(w.2.2.2.2.2.2.2.1.length:Int))=true:=decide_eq_true (by have :k<w.2.2.2.2.2.2.2.1.length:=hlt;omega)
     have hd2:decide (k<w.2.2.2.2.2.2.2.1.length)=true:=decide_eq_true hlt
     have hset:(w.2.2.2.2.2.2.2.1.set k (dV x v.2.2.1))[k]? =some (dV x v.2.2.1):=List.getElem?_set_self hlt
     have hba:yD w k=x:=by unfold yD;rw [hx];rfl
     rw [show lY w.2.2.2.2.2.2.2.1 r p.2.1=(k:Int) from hf,decide_eq_false (show ¬ (k:Int)<0 by omega),if_neg (show ¬ (k:Int)<0 by omega),bWu,hba]
     have e1:dO (w.1,w.2.1,w.2.2.1,w.2.2.2.1,w.2.2.2.2.1,w.2.2.2.2.2.1,w.2.2.2.2.2.2.1,w.2.2.2.2.2.2.2.1.set k (dV x v.2.2.1),w.2.2.2.2.2.2.2.2) r 0 (nA (dV x v.2.2.1) v.2.2.1)=some (bT (proc0 (sO w k (dV x v.2.2.1)) r 0 (nA (dV x v.2.2.1) v.2.2.1))):=by
      cases ca:aBm (dV x v.2.2.1) v.2.2.1 with
      | true=>exact aRk (aGd h) (aOc hs) (aPi ca)
      | false=>exact aRk (aGd h) (aOc hs) (by unfold nA;rw [ca];rfl)
     simp only [cond_false,eR,hd1,hd2,cond_true,hx0,aA,bQa hxs hvs,List.length_set,hset,bP7 (x:=dV x v.2.2.1) (p:=v.2.2.1) (bWl (aHa hs.sz) (by decide)),aV,bH,bA,aZ,bC,pkB,aO,e1]
     cases aBm (dV x v.2.2.1) v.2.2.1<;>rfl
 ·simp only [cond_true,if_true,aYk h,aA]

def zQ (p q:den tPk):Prop:=p.2.2.2.1=q.2.2.2.1∧p.2.2.2.2.1=q.2.2.2.2.1∧p.2.2.2.2.2.1=q.2.2.2.2.2.1

theorem zQ.cur {p q:den tPk} (h:zQ p q):cA p=cA q∧cO p=cO q∧bM p=bM q∧cN p=cN q∧dC p=dC q∧fO p=fO q:=by
 obtain ⟨h1,h2,h3⟩:=h
 have a1:cA p=cA q:=by unfold cA;rw [h1,h2,h3]
 have a2:cO p=cO q:=by unfold cO;rw [a1,h1,h2,h3]
 have a3:bM p=bM q:=by unfold bM;rw [h1,h2]
 have a4:cN p=cN q:=by unfold cN;rw [a3,h3]
 have a5:dC p=dC q:=by unfold dC;rw [a3,h3]
 exact ⟨a1,a2,a3,a4,a5,by unfold fO aE4;rw [a2,a5,h1,h2]⟩

theorem zQ.adv {p q:den tPk} (h:zQ p q):zQ (adv p) (adv q):=by
 obtain ⟨a1,a2,a3,a4,a5,a6⟩:=h.cur
 obtain ⟨h1,h2,h3⟩:=id h
 unfold Go.Proofs.YtecighmpdcffcaaGreat.adv
 rw [a2,a5,a6]
 split
 ·exact h
 ·split
  ·exact ⟨h1,by show p.2.2.2.2.1+1=q.2.2.2.2.1+1;rw [h2],rfl⟩
  ·exact ⟨h1,h2,by show p.2.2.2.2.2.1+1=q.2.2.2.2.2.1+1;rw [h3]⟩

theorem rT (t:den tTo) (p:den tPk):zQ (aU t p) p:=by
 obtain ⟨b,hb⟩:=aGp t p
 rw [hb]
 exact ⟨rfl,rfl,rfl⟩

theorem zQ.trans {p q r:den tPk} (h:zQ p q) (k:zQ q r):zQ p r:=⟨h.1.trans k.1,h.2.1.trans k.2.1,h.2.2.trans k.2.2⟩

theorem aJq {t:den tTo} {now:Int} {n:Nat} {p:den tPk} (h:(goC t now n p).1=0):cU t now p=0:=by
 cases n with
 | zero=>exact h
 | succ n=>
  unfold goC at h
  split at h
  ·rename_i hc
   rw [bWm] at hc
   simpa using hc.1
  ·exact h

theorem bGx {t:den tTo} {now:Int} {step:den tPk→Option (den tPk⊕den tPk)}
  (H: ∀ q,tot tPk q<=34359738368→cA q=true→step q=some (if dC q&&decide (q.2.2.2.2.1<(q.2.2.2.1.length:Int) - 1) then .inl (adv q) else .inr q)):
  ∀ (n:Nat) (p q:den tPk),zQ p q→tot tPk q<=34359738368→(goC t now n p).1=0→p.2.2.2.1.length - p.2.2.2.2.1.toNat<=n→ ∃ r,aB step q=some r∧zQ (goC t now n p).2 r∧tot tPk r<=34359738368:=by
 intro n
 induction n with
 | zero=>
  intro p q hs hq hc hm
  obtain ⟨hh,h0⟩:=zF (aJq hc)
  obtain ⟨i,j,h1,h2,h3,h4,h5⟩:=gG hh
  have hlt:=(bWs.1 h3).1
  rw [h1,bWu] at hm
  exact absurd hlt (by omega)
 | succ n ih=>
  intro p q hs hq hc hm
  have hz:=aJq hc
  obtain ⟨hh,h0⟩:=zF hz
  obtain ⟨a1,a2,a3,a4,a5,a6⟩:=hs.cur
  obtain ⟨b1,b2,b3,b4,b5,b6⟩:=(rT t p).cur
  have hstep:=H q hq (a1▸hh)
  rw [aVq (a1▸hh) (a2▸h0)] at hstep
  cases hb:dC q&& !fO q with
  | false=>
   rw [hb] at hstep
   have hg:goC t now (n+1) p=(cU t now p,aU t p):=by
    show (if _ then _ else _)=_
    rw [b5,b6,a5,a6,hb,bYi];rfl
   rw [hg]
   exact ⟨q,bW hstep,(rT t p).trans hs,hq⟩
  | true=>
   rw [hb,if_pos rfl] at hstep
   have hg:goC t now (n+1) p=goC t now n (adv (aU t p)):=by
    show (if _ then _ else _)=_
    rw [b5,b6,a5,a6,hb,hz];rfl
   rw [hg] at hc ⊢
   rw [dY hstep]
   obtain ⟨e1,e2⟩:=aUy (p:=aU t p) (by rw [b2];exact h0) (by rw [b5,b6,a5,a6];exact hb)
   obtain ⟨i,j,h1,h2,h3,h4,h5⟩:=gG hh
   refine ih _ _ ((rT t p).trans hs).adv (by rw [aEp];exact hq) hc ?_
   rw [e1,e2,(rT t p).1,(rT t p).2.1,h1]
   rw [h1,bWu] at hm
   have :((i:Int)+1).toNat=i+1:=by omega
   rw [this]
   omega

def bAo (t:den tTo) (now:Int) (p:den tPk):Int:=pEg (bM (bN t now p).2) (cN (bN t now p).2)

theorem bQ6 {t:den tTo} {now:Int} {p:den tPk} (h:tot tPk p<=34359738368) (hz:(bN t now p).1=0):rX p=some (bAo t now p):=by
 unfold rX aI pj4 zz4 zz5 zz6 zz7 zz8 zz9
 obtain ⟨r,hr,hs,ht⟩:=bGx (t:=t) (now:=now) (step:=fun s5=> @Option.bind Bool _ (Option.bind (idx s5.2.2.2.1 s5.2.2.2.2.1) fun x6=>cond (s5.2.2.2.2.2.1==(wr ((x6.2.2.2.length:Int) - (1:Int)))) (some (decide (s5.2.2.2.2.1<(wr ((s5.2.2.2.1.length:Int) - (1:Int)))))) (some false)) fun (s7:Bool)=>cond s7 (Option.bind (fY (s5.1,s5.2.1,s5.2.2.1,s5.2.2.2.1,s5.2.2.2.2.1,s5.2.2.2.2.2.1,s5.2.2.2.2.2.2.1,s5.2.2.2.2.2.2.2.1,s5.2.2.2.2.2.2.2.2.1,s5.2.2.2.2.2.2.2.2.2)) fun y8=>some (bWj (y8.1,y8.2.1,y8.2.2.1,y8.2.2.2.2.2.2.2.2.1,y8.2.2.2.1,y8.2.2.2.2.1,y8.2.2.2.2.2.1,y8.2.2.2.2.2.2.1,y8.2.2.2.2.2.2.2.1,y8.2.2.2.2.2.2.2.2.2))) (some (bWi (s5.1,s5.2.1,s5.2.2.1,s5.2.2.2.1,s5.2.2.2.2.1,s5.2.2.2.2.2.1,s5.2.2.2.2.2.2.1,s5.2.2.2.2.2.2.2.1,s5.2.2.2.2.2.2.2.2.1,s5.2.2.2.2.2.2.2.2.2)))) (fun q hq hh=>by
   obtain ⟨i,j,k1,k2,k3,k4,k5⟩:=gG hh
   have l1:bW0 q.2.2.2.1<=68719476736:=(fM hq).2.2.2.1.1
   have hp1:idx q.2.2.2.1 q.2.2.2.2.1=some (bM q):=by rw [k1,aG];exact k3
   simp only [hp1,aA,jA (zA (fM hq) k3),jA l1,aO,bAp (fM hq)]
   unfold dC
   cases q.2.2.2.2.2.1==((bM q).2.2.2.length:Int) - 1<;>cases decide (q.2.2.2.2.1<(q.2.2.2.1.length:Int) - 1)<;>rfl) _ p p ⟨rfl,rfl,rfl⟩ h hz (bW3 _)
 have hs:zQ (bN t now p).2 r:=hs
 have hr':aB _ (p.1,p.2.1,p.2.2.1,p.2.2.2.1,p.2.2.2.2.1,p.2.2.2.2.2.1,p.2.2.2.2.2.2.1,p.2.2.2.2.2.2.2.1,p.2.2.2.2.2.2.2.2.1,p.2.2.2.2.2.2.2.2.2)=some r:=hr
 rw [hr',aA]
 obtain ⟨a1,a2,a3,a4,a5,a6⟩:=hs.cur
 obtain ⟨g1,g2,g3⟩:=aEj _ p hz
 have g1:cA r=true:=a1▸g1
 obtain ⟨i,j,k1,k2,k3,k4,k5⟩:=gG g1
 have hp1:idx r.2.2.2.1 r.2.2.2.2.1=some (bM r):=by rw [k1,aG];exact k3
 have hp2:cX (bM r) r.2.2.2.2.2.1=some (pEg (bM r) (cN r)):=by rw [k2];exact aTc k4 (zA (fM ht) k3)
 rw [hp1,aA]
 simp only [aO,hp2,aA]
 unfold bAo
 rw [a3,a4]

theorem bEq {t:den tTo} {now:Int}: ∀ (n:Nat) (p:den tPk),(goC t now n p).1<=5
 | 0,p=>by
  show cU t now p<=5
  unfold cU
  repeat' split
  all_goals decide
 | n+1,p=>by
  unfold goC
  split
  ·exact bEq n _
  ·show cU t now p<=5
   unfold cU
   repeat' split
   all_goals decide

theorem bD1 {t:den tTo} {r now dead inn:Int} {p:den tPk} (h:(fwd t r now dead inn p).1=7):(bN t now p).1=0∧(fwd t r now dead inn p).2.2.2=bAo t now p:=by
 have hg:(bN t now p).1<=5:=bEq _ p
 unfold fwd at h ⊢
 split at h
 ·cases h
 ·rename_i c1
  rw [if_neg c1]
  split at h
  ·cases h
  ·rename_i c2
   rw [if_neg c2]
   split at h
   ·simp only at h;omega
   ·rename_i c3
    rw [if_neg c3]
    refine ⟨by simpa using c3,?_⟩
    split at h
    ·split at h<;>cases h
    ·rename_i c4
     rw [if_neg c4]
     split at h
     ·cases h
     ·rename_i c5
      rw [if_neg c5]
      split at h
      ·rename_i c6
       rw [if_pos c6]
       rfl
      ·cases h

theorem kinds {p:den tPk} (h:fD p=true) (h1:(p.1==1)=false) (h2:(p.1==2)=false):(p.1==3)=true:=by
 unfold fD at h
 rw [bWm] at h
 have hr:=bI.1 h.1
 have h1: ¬ p.1=(1:Int):=by simpa using h1
 have h2: ¬ p.1=(2:Int):=by simpa using h2
 have key: ∀ c:Int,1<=c→c<=3→ ¬ c=1→ ¬ c=2→c=3:=by intro c;omega
 have :p.1=(3:Int):=key p.1 hr.1 hr.2 h1 h2
 rw [this];rfl

theorem bO9 {w:den tNw} {r:Int} {p:den tPk} (h:aAh w) (hp:aAr p) (hk:(p.1==1)=false) (hv:(p.1==2)=false→(p.1==3)=true):rN w r p=some (bT (vR w r p)):=by
 unfold rN iM.b ixb aI jZ pj2 pj3 pj4 pj9 eL aT zz4 zz5 zz6 zz7 zz8 zz9
 rw [hk,cond_false]
 cases h2:p.1==2 with
 | true=>
  rw [cond_true]
  refine bDz (w:=w) (r:=r) (p:=p) h2 h.flows h.flowsN (fun k f a ha hx hm hk'=> ?_) (fun a ha=> ?_)
  ·obtain ⟨d1,d2⟩:=aLa ha hk'
   have hw:wr ((k:Int)+1)=((k+1:Nat):Int):=(wri (by have :=h.flowsN;omega) (by have :=h.flowsN;omega)).trans (by omega)
   simp only [d1,d2,eR,bWu,hx,cond_true,aA,aO,aYq (aQ6 (h.flows f hm)),aV,bH,bA,aZ,bC,hw]
   unfold qN
   rw [h2]
   cases f.1==r
   ·simp only [cond_false,bWr,if_false,aA,aH1 hx]
   ·simp only [cond_true,if_true,aA]
    rfl
  ·show cond (decide ((((aC w).length:Nat):Int)<(a.length:Int))) _ _=_
   rw [ha,decide_eq_false (by omega)]
   rfl
 | false=>
  rw [cond_false,hv h2,cond_true]
  simp only [aO,aRj h2 h.flows h.flowsN hp.sz hp.by_,aA]

theorem bTm {w:den tNw} {r:Int} {p:den tPk} (h:aAh w) (hp:aAr p) (hk:(p.1==1)=false) (hv:(p.1==2)=false→(p.1==3)=true):iM w r p=some (bT (vR w r p)):=by
 unfold iM iM.b ixb aI jZ pj2 pj3 pj4 pj9 eL aT zz4 zz5 zz6 zz7 zz8 zz9
 rw [hk,cond_false]
 cases h2:p.1==2 with
 | true=>
  rw [cond_true]
  refine bDz (w:=w) (r:=r) (p:=p) h2 h.flows h.flowsN (fun k f a ha hx hm hk'=> ?_) (fun a ha=> ?_)
  ·obtain ⟨d1,d2⟩:=aLa ha hk'
   have hw:wr ((k:Int)+1)=((k+1:Nat):Int):=(wri (by have :=h.flowsN;omega) (by have :=h.flowsN;omega)).trans (by omega)
   simp only [d1,d2,eR,bWu,hx,cond_true,aA,aO,aYq (aQ6 (h.flows f hm)),aV,bH,bA,aZ,bC,hw]
   unfold qN
   rw [h2]
   cases f.1==r
   ·simp only [cond_false,bWr,if_false,aA,aH1 hx]
   ·simp only [cond_true,if_true,aA]
    rfl
  ·show cond (decide ((((aC w).length:Nat):Int)<(a.length:Int))) _ _=_
   rw [ha,decide_eq_false (by omega)]
   rfl
 | false=>
  rw [cond_false,hv h2,cond_true]
  simp only [aO,aRj h2 h.flows h.flowsN hp.sz hp.by_,aA]

theorem aQ8 {w:den tNw} {r inn:Int} {p:den tPk} (h:aAh w) (hp:aAr p) (hk:(p.1==1)=false):fV w r inn p=some (bT (proc0 w r inn p)):=by
 have hp2:tot tPt p.2.2.2.1<=1073741824:=aHa hp.sz
 have hs:=hp.step (nT w) (aR w) (aK w) r inn
 have hkeep:=aDk w.1 r w.2.2.2.1 (tD w.1 w.2.2.2.2.1 r) inn p
 have hval:=aJt (t:=w.1) (r:=r) (now:=w.2.2.2.1) (dead:=tD w.1 w.2.2.2.2.1 r) (inn:=inn) (p:=p)
 unfold fV dR.b aI aBu jZ pj2 pj3 eL aT bK bO zz4 zz5 zz6 zz7 zz8 zz9
 simp only [aO,aYh h.links h.dead,bNm h.as (bWl h.links (by decide)) (bWl hp.sz (by decide)) hp2,aA,aV,bH,bA,aZ,bC,hk]
 rw [show fwd w.1 r w.2.2.2.1 (tD w.1 w.2.2.2.2.1 r) inn p=cD (nT w) (aR w) (aK w) r inn p from rfl] at hkeep hval ⊢
 unfold proc0
 generalize cD (nT w) (aR w) (aK w) r inn p=v at hs hkeep hval
 have hback:(((fwS v).2.2.1,(fwS v).2.2.2.1,(fwS v).2.2.2.2.1,(fwS v).2.2.2.2.2.2.2.2.2.2.1,(fwS v).2.2.2.2.2.1,(fwS v).2.2.2.2.2.2.1,(fwS v).2.2.2.2.2.2.2.1,(fwS v).2.2.2.2.2.2.2.2.1,(fwS v).2.2.2.2.2.2.2.2.2.1,(fwS v).2.2.2.2.2.2.2.2.2.2.2):den tPk)=v.2.2.1:=rfl
 rw [show (fwS v).1=v.1 from rfl,show (fwS v).2.1=v.2.1 from rfl]
 cases c1:v.1==1
 ·cases c0:v.1==0
  ·cases c7:v.1==7
   ·simp only [cond_false,aA,bWr,if_false,bXp];rfl
   ·simp only [cond_true,cond_false,aA,bWr,if_false,bXp];rfl
  ·unfold rK
   rw [hkeep.2.2.1]
   simp only [cond_true,cond_false,if_true,aFo (t:=w.1) (bWl h.links (by decide)),aXw h.res h.use,aA]
   cases ct:(rC w.2.2.1 p.2.2.2.2.2.2.2.1 r v.2.1 w.2.2.2.1).2.1
   ·simp only [cond_false,aA,bXa,bWr,if_false,bXp];rfl
   ·by_cases hl:(aN w).length<150
    ·have h150:decide ((w.2.2.2.2.2.1.length:Int)<150)=true:=decide_eq_true (by have :w.2.2.2.2.2.1.length<150:=hl;omega)
     rw [decide_eq_true hl]
     simp only [cond_true,aA,h150,bYe,if_true,aD (b:=128) (n:=w.2.2.2.2.2.1.length) (m:=1) (by decide) (show (aN w).length+1<=_ by omega),bY5]
     rfl
    ·have h150:decide ((w.2.2.2.2.2.1.length:Int)<150)=false:=decide_eq_false (by have : ¬ w.2.2.2.2.2.1.length<150:=hl;omega)
     rw [decide_eq_false hl]
     simp only [cond_true,cond_false,aA,h150,bYi,bWr,if_false,bXp]
     rfl
 ·have c0:(v.1==0)=false:=by
   have :v.1=1:=by simpa using c1
   rw [this];rfl
  have hv:fD p=true:=hval (by rw [show v.1=1 from by simpa using c1];rfl)
  have hq1:(v.2.2.1.1==1)=false:=by rw [hkeep.1];exact hk
  have hq2:(v.2.2.1.1==2)=false→(v.2.2.1.1==3)=true:=by rw [hkeep.1];exact kinds hv hk
  rw [hback,bO9 h hs hq1 hq2]
  simp only [c0,cond_true,aA,bWr,if_false,if_true,bY5]

theorem bSw {w:den tNw} {r:Int} {p:den tPk} (h:aAh w) (hbn:(bL w).length<=68719476736) (hbx: ∀ x∈bL w,tot tIb x<=1073741824) (hp:aAr p) (hk:(p.1==1)=true):iM w r p=some (bT (aAl w r p)):=by
 unfold iM iM.b aAl ixb aI jZ pj2 pj3 pj4 pj9 eL aT zz4 zz5 zz6 zz7 zz8 zz9
 simp only [hk,cond_true,aX4 hbn,aA]
 rcases aH2 (bL w) r p.2.1 with hf | ⟨k,x,hf,hx⟩
 ·rw [show lY w.2.2.2.2.2.2.2.1 r p.2.1= -1 from hf]
  rfl
 ·have hlt:=(bWs.1 hx).1
  have hx0:w.2.2.2.2.2.2.2.1[k]? =some x:=hx
  have hxm:=hbx x (bWx hx)
  have hxs:SmB 4294967296 tIb x:=(bE hxm).mono (by decide)
  have hvs:SmB 4294967296 tPk p:=(bE hp.sz).mono (by decide)
  have hd1:decide ((k:Int)<(w.2.2.2.2.2.2.2.1.length:Int))=true:=decide_eq_true (by have :k<w.2.2.2.2.2.2.2.1.length:=hlt;omega)
  have hd2:decide (k<w.2.2.2.2.2.2.2.1.length)=true:=decide_eq_true hlt
  have hba:yD w k=x:=by unfold yD;rw [hx];rfl
  rw [show lY w.2.2.2.2.2.2.2.1 r p.2.1=(k:Int) from hf,decide_eq_false (show ¬ (k:Int)<0 by omega),if_neg (show ¬ (k:Int)<0 by omega),bWu,hba]
  have e1:fV (w.1,w.2.1,w.2.2.1,w.2.2.2.1,w.2.2.2.2.1,w.2.2.2.2.2.1,w.2.2.2.2.2.2.1,w.2.2.2.2.2.2.2.1.set k (dV x p),w.2.2.2.2.2.2.2.2) r 0 (nA (dV x p) p)=some (bT (proc0 (sO w k (dV x p)) r 0 (nA (dV x p) p))):=by
   cases ca:aBm (dV x p) p with
   | true=>exact aQ8 (aGd h) (aOc hp) (aPi ca)
   | false=>exact aQ8 (aGd h) (aOc hp) (by unfold nA;rw [ca];rfl)
  simp only [cond_false,eR,hd1,hd2,cond_true,hx0,aA,aO,bPg hxs hvs,bPk (x:=dV x p) (p:=p) (bWl (aHa hp.sz) (by decide)),aV,bH,bA,aZ,bC,pkB,e1]
  cases aBm (dV x p) p<;>rfl

theorem aZh {w:den tNw} {r inn:Int} {p:den tPk} (h:aAh w) (hbn:(bL w).length<=68719476736) (hbx: ∀ x∈bL w,tot tIb x<=1073741824) (hz:tot tPk p<=536870912) (hb:fN p):dR w r inn p=some (bT (fU w r inn p)):=by
 have hp:aAr p:=⟨by omega,hb⟩
 have hp2:tot tPt p.2.2.2.1<=1073741824:=aHa hp.sz
 have hs:=hp.step (nT w) (aR w) (aK w) r inn
 have hkeep:=aDk w.1 r w.2.2.2.1 (tD w.1 w.2.2.2.2.1 r) inn p
 have hval:=aJt (t:=w.1) (r:=r) (now:=w.2.2.2.1) (dead:=tD w.1 w.2.2.2.2.1 r) (inn:=inn) (p:=p)
 have hsev:=bD1 (t:=w.1) (r:=r) (now:=w.2.2.2.1) (dead:=tD w.1 w.2.2.2.2.1 r) (inn:=inn) (p:=p)
 unfold dR dR.b aI aBu jZ pj2 pj3 eL aT bK bO zz4 zz5 zz6 zz7 zz8 zz9
 simp only [aO,aYh h.links h.dead,bNm h.as (bWl h.links (by decide)) (bWl hp.sz (by decide)) hp2,aA,aV,bH,bA,aZ,bC]
 rw [show fwd w.1 r w.2.2.2.1 (tD w.1 w.2.2.2.2.1 r) inn p=cD (nT w) (aR w) (aK w) r inn p from rfl] at hkeep hval hsev ⊢
 unfold fU
 generalize cD (nT w) (aR w) (aK w) r inn p=v at hs hkeep hval hsev
 have hback:(((fwS v).2.2.1,(fwS v).2.2.2.1,(fwS v).2.2.2.2.1,(fwS v).2.2.2.2.2.2.2.2.2.2.1,(fwS v).2.2.2.2.2.1,(fwS v).2.2.2.2.2.2.1,(fwS v).2.2.2.2.2.2.2.1,(fwS v).2.2.2.2.2.2.2.2.1,(fwS v).2.2.2.2.2.2.2.2.2.1,(fwS v).2.2.2.2.2.2.2.2.2.2.2):den tPk)=v.2.2.1:=rfl
 rw [show (fwS v).1=v.1 from rfl,show (fwS v).2.1=v.2.1 from rfl]
 cases c1:v.1==1
 ·cases c0:v.1==0
  ·cases c7:v.1==7
   ·simp only [cond_false,aA,bWr,if_false,bXp,bXa];rfl
   ·cases ck:p.1==1
    ·simp only [cond_true,cond_false,aA,bWr,if_false,bXp,bYi];rfl
    ·obtain ⟨hz0,hd0⟩:=hsev (by simpa using c7)
     have hn:aAr (bY r (aR w) v.2.2.2 p):=aYw hz
     have ht1:tot tPt (qZ p)<=34359738368:=bWl (aBw p) (bWl hp2 (by decide))
     have hlen:decide (((gK (qZ p)).length:Int)>1)=decide ((gK (qZ p)).length>1):=by rw [bXc];simp only [decide_eq_true_eq,gt_iff_lt];omega
     have e1:fV w r 0 ((pkR (bY r w.2.2.2.1 v.2.2.2 p)).1,(pkR (bY r w.2.2.2.1 v.2.2.2 p)).2.1,(pkR (bY r w.2.2.2.1 v.2.2.2 p)).2.2.1,(pkR (bY r w.2.2.2.1 v.2.2.2 p)).2.2.2.2.2.2.2.2.1,(pkR (bY r w.2.2.2.1 v.2.2.2 p)).2.2.2.1,(pkR (bY r w.2.2.2.1 v.2.2.2 p)).2.2.2.2.1,(pkR (bY r w.2.2.2.1 v.2.2.2 p)).2.2.2.2.2.1,(pkR (bY r w.2.2.2.1 v.2.2.2 p)).2.2.2.2.2.2.1,(pkR (bY r w.2.2.2.1 v.2.2.2 p)).2.2.2.2.2.2.2.1,(pkR (bY r w.2.2.2.1 v.2.2.2 p)).2.2.2.2.2.2.2.2.2)=some (bT (proc0 w r 0 (bY r (aR w) v.2.2.2 p))):=aQ8 h hn rfl
     have e2:mF w r ((pkR (bY r w.2.2.2.1 v.2.2.2 p)).1,(pkR (bY r w.2.2.2.1 v.2.2.2 p)).2.1,(pkR (bY r w.2.2.2.1 v.2.2.2 p)).2.2.1,(pkR (bY r w.2.2.2.1 v.2.2.2 p)).2.2.2.2.2.2.2.2.1,(pkR (bY r w.2.2.2.1 v.2.2.2 p)).2.2.2.1,(pkR (bY r w.2.2.2.1 v.2.2.2 p)).2.2.2.2.1,(pkR (bY r w.2.2.2.1 v.2.2.2 p)).2.2.2.2.2.1,(pkR (bY r w.2.2.2.1 v.2.2.2 p)).2.2.2.2.2.2.1,(pkR (bY r w.2.2.2.1 v.2.2.2 p)).2.2.2.2.2.2.2.1,(pkR (bY r w.2.2.2.1 v.2.2.2 p)).2.2.2.2.2.2.2.2.2)=some (bT (vR w r (bY r (aR w) v.2.2.2 p))):=aRj rfl h.flows h.flowsN hn.sz hn.by_
     simp only [cond_true,cond_false,aA,bWr,if_false,bYe,if_true,bQ6 (t:=w.1) (now:=w.2.2.2.1) (p:=p) (bWl hp.sz (by decide)) hz0,← hd0,bQe (t:=w.1) (r:=r) (now:=w.2.2.2.1) (d:=v.2.2.2) (bWl hp.sz (by decide)),aWk (fM (p:=p) (by omega)),aV,bH,bA,aZ,bC,aEe ht1,hlen,e1,e2]
     unfold aC5
     cases hd:decide ((gK (qZ p)).length>1)
     ·rw [if_neg (of_decide_eq_false hd)];rfl
     ·rw [if_pos (of_decide_eq_true hd)];rfl
  ·unfold rK
   rw [hkeep.2.2.1]
   simp only [cond_true,cond_false,if_true,aFo (t:=w.1) (bWl h.links (by decide)),aXw h.res h.use,aA]
   cases ct:(rC w.2.2.1 p.2.2.2.2.2.2.2.1 r v.2.1 w.2.2.2.1).2.1
   ·simp only [cond_false,aA,bXa,bWr,if_false,bXp];rfl
   ·by_cases hl:(aN w).length<150
    ·have h150:decide ((w.2.2.2.2.2.1.length:Int)<150)=true:=decide_eq_true (by have :w.2.2.2.2.2.1.length<150:=hl;omega)
     rw [decide_eq_true hl]
     simp only [cond_true,aA,h150,bYe,if_true,aD (b:=128) (n:=w.2.2.2.2.2.1.length) (m:=1) (by decide) (show (aN w).length+1<=_ by omega),bY5]
     rfl
    ·have h150:decide ((w.2.2.2.2.2.1.length:Int)<150)=false:=decide_eq_false (by have : ¬ w.2.2.2.2.2.1.length<150:=hl;omega)
     rw [decide_eq_false hl]
     simp only [cond_true,cond_false,aA,h150,bYi,bWr,if_false,bXp]
     rfl
 ·have c0:(v.1==0)=false:=by
   have :v.1=1:=by simpa using c1
   rw [this];rfl
  have hv:fD p=true:=hval (by rw [show v.1=1 from by simpa using c1];rfl)
  rw [hback]
  cases ck:p.1==1 with
  | true=>
   rw [bSw h hbn hbx hs (by rw [hkeep.1];exact ck)]
   simp only [c0,cond_true,aA,bWr,if_false,if_true,bY5]
  | false=>
   have hq1:(v.2.2.1.1==1)=false:=by rw [hkeep.1];exact ck
   have hq2:(v.2.2.1.1==2)=false→(v.2.2.1.1==3)=true:=by rw [hkeep.1];exact kinds hv ck
   rw [bTm h hs hq1 hq2]
   simp only [c0,cond_true,aA,bWr,if_false,if_true,bY5]

theorem eM (w:den tNw):tot tNw w=(tot (.sl tAS) (nT w).1+tot (.sl tLk) (nT w).2)+((tot (.sl tSg) (nK w).1+tot (.sl tSg) (nK w).2)+((0+(tot (.sl tRs) (nG w).2.1+tot (.sl tUs) (nG w).2.2))+(0+(tot (.sl ti) (aK w)+(tot (.sl tFy) (aN w)+(tot (.sl tFl) (aC w)+(tot (.sl tIb) (bL w)+0))))))):=rfl

theorem aNd {w:den tNw} (h:tot tNw w<=1073741824):aAh w where
 as:=by have :=eM w;have :=eI (t:=tAS) (nT w).1;omega
 links:=by have :=eM w;have :=eI (t:=tLk) (nT w).2;omega
 dead:=by have :=eM w;have :=eI (t:=ti) (aK w);omega
 res:=by have :=eM w;have :=eI (t:=tRs) (nG w).2.1;omega
 use:=by have :=eM w;have :=eI (t:=tUs) (nG w).2.2;omega
 flowsN:=by have :=eM w;have :=eI (t:=tFl) (aC w);omega
 flows:=fun f hf=>by have :=eM w;have :=vW (t:=tFl) hf;omega

end Go.Proofs.YtecighmpdcffcaaGreat
