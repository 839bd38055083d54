/-
  Facts and plain laws: what the functions compute, in plain words. Conditions: as each says.
-/
import Derived.Test.YtecighmpdcffcaaGreatQ1FnIdle
open Int renaming le_refl→bYd,toNat_natCast→bWu,eq_ofNat_of_zero_le→bXe,lt_irrefl→bW1
open List renaming pairwise_iff_getElem→bYf,getElem?_eq_getElem→bWk,getElem?_eq_some_iff→bWs,getElem?_map→bY1,mem_append→bWv,mem_singleton→bWt,length_append→bXh,length_singleton→bX4,getElem?_set→bYx,getElem?_set_self→bZl,mem_of_getElem?→bWx,all_eq_true→bXb,mem_of_mem_take→bX2,mem_map→bWq,mem_filter→bW2,mem_cons→bWp,mem_cons_of_mem→bWz,getElem_mem→bWy
open Bool renaming and_eq_true→bWm,not_eq_true'→bXn,or_eq_true→bXz,not_true→bWo,or_self→bX9,false_eq_true→bWr,not_false→bWw,and_self→bYe
open Option renaming getD_some→bXi
open Nat renaming zero_le→bW4,le_trans→bWl
open Sum renaming elim_inl→bXp
set_option linter.unusedVariables false
set_option linter.unusedSimpArgs false
set_option maxRecDepth 100000
namespace Go.Proofs.YtecighmpdcffcaaGreat
open Go.Ab Go.V
theorem rH.grow {w w':den tNw} {p:den tPk} (h:rH w p) (g:aM4 w w'):rH w' p:=fun k f' x' hf hx=>by
 obtain ⟨f,hf0,e1,e2,e3⟩:=g.flow k f' hf
 obtain ⟨x,hx0,e4⟩:=g.box k x' hx
 obtain ⟨h1,h2⟩:=h k f x hf0 hx0
 rw [e1,e2]
 refine ⟨fun a b c=> ?_,fun a b c=>Int.lt_of_lt_of_le (h2 a b c) e4⟩
 obtain ⟨q1,q2,s,q3,q4⟩:=h1 a b c
 exact ⟨q1,q2,s,q3,e3 s _ q4⟩

theorem rH.goTo {w:den tNw} {p:den tPk} (h:rH w p) (i j b:Int):rH w (goTo p i j b):=h

theorem aKf {w:den tNw} {p:den tPk} (h:p.1=(3:Int)):rH w p:=fun k f x _ _=>⟨fun e=>absurd (h.symm.trans e) (by decide),fun e=>absurd (h.symm.trans e) (by decide)⟩


theorem eO.same {t:den tTo} {w w':den tNw} (h:eO t w) (e1:nT w'=nT w) (e2:aC w'=aC w) (e3:bL w'=bL w) (e4: ∀ y∈aN w',y∈aN w∨(rH w y.2.2∧cK t y.1=true)):eO t w':=by
 have g:aM4 w w':=⟨fun k f h=>⟨f,by rw [← e2];exact h,rfl,rfl,fun _ _ h=>h⟩,fun k x h=>⟨x,by rw [← e3];exact h,bYd _⟩⟩
 refine ⟨e1.trans h.top,by rw [e2,e3];exact h.lenB,fun k f x hf hx=>h.flow k f x (by rw [← e2];exact hf) (by rw [← e3];exact hx),by rw [e2];exact h.uniq,fun y hy=> ?_,fun y hy=> ?_⟩
 ·rcases e4 y hy with hy | ⟨hy,_⟩
  ·exact fun hv=>(h.good y hy hv).grow g
  ·exact fun _=>hy.grow g
 ·rcases e4 y hy with hy | ⟨_,hy⟩
  ·exact h.to y hy
  ·exact hy

theorem eO.drop {t:den tTo} {w:den tNw} (h:eO t w):eO t (wT w):=h.same rfl rfl rfl fun y hy=> .inl hy


theorem eO.map {t:den tTo} {w:den tNw} (h:eO t w) {l:List (den tFl)} (hl:l.length=(aC w).length)
  (hm: ∀ (k:Nat) (f':den tFl),l[k]? =some f'→ ∃ f,(aC w)[k]? =some f∧f'.1=f.1∧f'.2.1=f.2.1∧(∀ (s:Nat) (m:List Int),f.2.2.2.2.1[s]? =some m→f'.2.2.2.2.1[s]? =some m)∧ ∀ x,(bL w)[k]? =some x→yE t f x→yE t f' x):eO t (cT w l):=by
 have g:aM4 w (cT w l):=⟨fun k f' hf=>by
  obtain ⟨f,a,b,c,d,_⟩:=hm k f' hf
  exact ⟨f,a,b,c,d⟩,fun k x h=>⟨x,h,bYd _⟩⟩
 refine ⟨h.top,by show (bL w).length=l.length;rw [hl];exact h.lenB,fun k f' x hf hx=> ?_,?_,fun y hy hv=>(h.good y hy hv).grow g,h.to⟩
 ·obtain ⟨f,a,_,_,_,e⟩:=hm k f' hf
  exact e x hx (h.flow k f x a hx)
 ·show l.Pairwise _
  rw [bYf]
  intro i j hi hj hij
  obtain ⟨f,a,b,c,_⟩:=hm i l[i] (bWk hi)
  obtain ⟨f',a',b',c',_⟩:=hm j l[j] (bWk hj)
  obtain ⟨hi',ei⟩:=bWs.1 a
  obtain ⟨hj',ej⟩:=bWs.1 a'
  have :=(bYf.1 h.uniq) i j hi' hj' hij
  rw [ei,ej] at this
  unfold sX at this ⊢
  rw [b,c,b',c']
  exact this


theorem eO.one {t:den tTo} {w:den tNw} (h:eO t w) {i j:Nat} {f g:den tFl} (hf:(aC w)[i]? =some f) (hg:(aC w)[j]? =some g) (e1:f.1=g.1) (e2:f.2.1=g.2.1):i=j:=by
 obtain ⟨hi,ei⟩:=bWs.1 hf
 obtain ⟨hj,ej⟩:=bWs.1 hg
 have hs: ∀ a b:den tFl,a.1=b.1→a.2.1=b.2.1→sX b a=true:=fun a b x y=>by
  unfold sX
  rw [x,y];simp
 rcases Nat.lt_trichotomy i j with c | c | c
 ·have :=(bYf.1 h.uniq) i j hi hj c
  rw [ei,ej,hs f g e1 e2] at this
  cases this
 ·exact c
 ·have :=(bYf.1 h.uniq) j i hj hi c
  rw [ei,ej,hs g f e1.symm e2.symm] at this
  cases this

theorem bAx {t:den tTo} {f:den tFl} {x:den tIb} {p:den tPk} (h:yE t f x) (hp:aQf f p=true→p.2.2.2.2.2.2.2.2.1<x.2.2.1):yE t (uU f p) x:=by
 unfold uU
 split
 ·rename_i ha
  have hs:=hp ha
  unfold aQf at ha
  simp only [bWm,beq_iff_eq] at ha
  obtain ⟨_,_,_,h4,h5⟩:=ha
  obtain ⟨h6,h7⟩:=bI.1 h5
  have hn:=h.next
  have hv:=(uN f).1 h.val
  have hm:f.2.2.2.2.1.length<=20:=hv.2.2.2.2.1
  have e:wr (f.2.2.2.1+1)=f.2.2.2.1+1:=bF (by omega) (by omega)
  rw [e]
  refine ⟨?_,h.src,h.dst,h.xAS,h.xFrom,h.next,h.recv,h.len,?_,h.paths⟩
  ·rw [uN]
   obtain ⟨q1,q2,q3,q4,q5,q6,q7,q8,q9,q10,q11,q12⟩:=hv
   exact ⟨q1,q2,q3,q4,q5,bI.2 ⟨by show (0:Int)<=f.2.2.2.1+1;omega,by show (f.2.2.2.2.1.length:Int)>=f.2.2.2.1+1;omega⟩,q7,q8,q9,q10,rfl,q12⟩
  ·have e1:f.2.2.2.1<x.2.2.1:=h4▸hs
   rw [hn] at e1
   exact Int.add_one_le_of_lt e1
 ·exact h

theorem bCr {t:den tTo} {f:den tFl} {x:den tIb} {p:den tPk} (h:yE t f x):yE t (yB f p) x:=by
 unfold yB
 cases p.1==3&&(vZ p.2.2.2.2.2.2.2.2.2).2.2.2 with
 | false=>exact h
 | true=>
  rw [cond_true]
  have hv:=(uN f).1 h.val
  refine ⟨?_,h.src,h.dst,h.xAS,h.xFrom,h.next,h.recv,h.len,h.ack,h.paths⟩
  rw [uN]
  obtain ⟨q1,q2,q3,q4,q5,q6,q7,q8,q9,q10,q11,q12⟩:=hv
  obtain ⟨r1,r2⟩:=bHb (l:=f.2.2.2.2.2.2.2.2) (x:=zK p.2.2.2.2.2.2.2.2.2) ⟨q12,q9⟩
  refine ⟨q1,q2,q3,q4,q5,q6,q7,q8,r2,?_,?_,r1⟩
  ·show cond _ _ _=(0:Int)∨inR (cond _ _ _) 0 _=true
   cases aPp f (zK p.2.2.2.2.2.2.2.2.2) with
   | false=>exact q10
   | true=>exact aWb q7 q10
  ·show inR (cond _ _ _) 0 4=true
   cases aPp f (zK p.2.2.2.2.2.2.2.2.2) with
   | false=>exact q11
   | true=>rfl

theorem bDf (f:den tFl) (p:den tPk):(uU f p).1=f.1∧(uU f p).2.1=f.2.1∧(uU f p).2.2.2.2.1=f.2.2.2.2.1:=by
 unfold uU;split<;>exact ⟨rfl,rfl,rfl⟩

theorem bEc (f:den tFl) (p:den tPk):(yB f p).1=f.1∧(yB f p).2.1=f.2.1∧(yB f p).2.2.2.2.1=f.2.2.2.2.1:=by
 unfold yB;cases p.1==3&&(vZ p.2.2.2.2.2.2.2.2.2).2.2.2<;>exact ⟨rfl,rfl,rfl⟩

theorem eO.tell {t:den tTo} {w:den tNw} {p:den tPk} (h:eO t w) (hg:rH w p) (r:Int):eO t (vR w r p):=by
 refine h.map (by simp) fun k f' hf'=> ?_
 rw [bY1] at hf'
 obtain ⟨f,hf,rfl⟩:=Option.map_eq_some_iff.1 hf'
 have ht:(qN r p f).1=f.1∧(qN r p f).2.1=f.2.1∧(qN r p f).2.2.2.2.1=f.2.2.2.2.1:=by
  unfold qN
  split
  ·split
   ·exact bDf f p
   ·exact bEc f p
  ·exact ⟨rfl,rfl,rfl⟩
 refine ⟨f,hf,ht.1,ht.2.1,fun s m hm=>by rw [ht.2.2];exact hm,fun x hx hfx=> ?_⟩
 unfold qN
 split
 ·split
  ·refine bAx hfx fun ha=> ?_
   unfold aQf at ha
   simp only [bWm,beq_iff_eq] at ha
   exact (hg k f x hf hx).2 ha.1 ha.2.1 ha.2.2.1
  ·exact bCr hfx
 ·exact hfx

theorem eO.send {t:den tTo} {w:den tNw} {p:den tPk} (h:eO t w) (hg:rH w p) {r eg:Int} (hr:cK t (remote t r eg).1=true):eO t (rK w r eg p):=by
 unfold rK
 split
 ·refine h.same rfl rfl rfl fun y hy=> ?_
  rcases bWv.1 (show y∈aN w++_ from hy) with hy | hy
  ·exact .inl hy
  ·have :y=_:=bWt.1 hy
   subst this
   exact .inr ⟨hg,by rw [h.top];exact hr⟩
 ·exact h.drop


theorem bBd {t:den tTo} {w:den tNw} {k:Nat} {f:den tFl} {x:den tIb} {p:den tPk} (hf:(aC w)[k]? =some f) (hx:(bL w)[k]? =some x) (hg:rH w p) (h:yE t f x):yE t f (dV x p)∧x.2.2.1<=(dV x p).2.2.1:=by
 unfold dV
 split
 ·rename_i ht
  unfold aTl zP at ht
  simp only [bWm,beq_iff_eq,decide_eq_true_eq] at ht
  obtain ⟨⟨h1,h2,h3⟩,h4,h5⟩:=ht
  obtain ⟨_,_,s,g1,g2⟩:=(hg k f x hf hx).1 h1 (by rw [h2,h.xFrom]) (by rw [h3,h.xAS])
  have hn:=eqI h.next
  have h5:=ltI h5
  have h4':=eqI h4
  have g1':=eqI g1
  have hs:s=x.2.2.2.length:=by omega
  subst hs
  obtain ⟨hlt,he⟩:=bWs.1 g2
  have e:wr (x.2.2.1+1)=((x.2.2.2.length+1:Nat):Int):=by
   rw [hn];exact aW (by omega)
  rw [e]
  have ha:=leI h.ack
  refine ⟨⟨h.val,h.src,h.dst,h.xAS,h.xFrom,by show ((x.2.2.2.length+1:Nat):Int)=((x.2.2.2++[_]).length:Int);simp,?_,?_,?_,h.paths⟩,?_⟩
  ·show x.2.2.2++[p.2.2.2.2.2.2.2.2.2]=f.2.2.2.2.1.take (x.2.2.2++[p.2.2.2.2.2.2.2.2.2]).length
   rw [bXh,bX4,List.take_add_one,g2,← h.recv]
   rfl
  ·show (x.2.2.2++[p.2.2.2.2.2.2.2.2.2]).length<=_
   rw [bXh,bX4];omega
  ·refine leI (a:=f.2.2.2.1) (b:=((x.2.2.2++[p.2.2.2.2.2.2.2.2.2]).length:Int)) ?_
   rw [bXh,bX4];omega
  ·refine leI (a:=x.2.2.1) (b:=((x.2.2.2.length+1:Nat):Int)) ?_
   omega
 ·exact ⟨h,bYd _⟩

theorem eO.box {t:den tTo} {w:den tNw} {k:Nat} {x x':den tIb} (h:eO t w) (hx:(bL w)[k]? =some x) (hn:x.2.2.1<=x'.2.2.1) (hf: ∀ f,(aC w)[k]? =some f→yE t f x'):eO t (sO w k x')∧aM4 w (sO w k x'):=by
 have hk:k<(bL w).length:=(bWs.1 hx).1
 have g:aM4 w (sO w k x'):=⟨fun k f h=>⟨f,h,rfl,rfl,fun _ _ h=>h⟩,fun j y hy=>by
  replace hy:((bL w).set k x')[j]? =some y:=hy
  rw [bYx] at hy
  split at hy
  ·rename_i e
   subst e
   try rw [if_pos hk] at hy
   injection hy with hy
   subst hy
   exact ⟨x,hx,hn⟩
  ·exact ⟨y,hy,bYd _⟩⟩
 refine ⟨⟨h.top,by show ((bL w).set k x').length=_;rw [List.length_set];exact h.lenB,fun j f y hf' hy=> ?_,h.uniq,fun y hy hv=>(h.good y hy hv).grow g,h.to⟩,g⟩
 replace hy:((bL w).set k x')[j]? =some y:=hy
 rw [bYx] at hy
 split at hy
 ·rename_i e
  subst e
  try rw [if_pos hk] at hy
  injection hy with hy
  subst hy
  exact hf f hf'
 ·exact h.flow j f y hf' hy


theorem bKm {t:den tTo} {w:den tNw} {k:Nat} {x:den tIb} {p:den tPk} (h:eO t w) (hk: ∃ f,(aC w)[k]? =some f) (hx:(bL w)[k]? =some x) (ha:aBm x p=true) (hg:rH w p):rH w (nA x p):=by
 obtain ⟨f,hf⟩:=hk
 have hfx:=h.flow k f x hf hx
 unfold aBm zP at ha
 simp only [bWm,beq_iff_eq,bXn,decide_eq_false_iff_not] at ha
 obtain ⟨⟨h1,h2,h3⟩,h4⟩:=ha
 have e1:(p.2.1:Int)=f.1:=h2.trans hfx.xFrom
 have e2:(p.2.2.1:Int)=f.2.1:=h3.trans hfx.xAS
 obtain ⟨p1,p2,_⟩:=(hg k f x hf hx).1 h1 e1 e2
 have he:ends (aBq p.2.2.2.1)=(f.2.1,f.1):=aYv ((aSd _).1.trans p2) ((aSd _).2.trans p1)
 have hm:nA x p=aDz 2 (aBq p.2.2.2.1) p.2.2.2.2.2.2.2.1 p.2.2.2.2.2.2.2.2.1 []:=by
  unfold nA
  rw [if_pos (by
   unfold aBm zP
   simp only [bWm,beq_iff_eq,bXn,decide_eq_false_iff_not]
   exact ⟨⟨h1,h2,h3⟩,h4⟩)]
  rfl
 intro j g y hg' hy
 refine ⟨fun e=> ?_,fun _ a b=> ?_⟩
 ·rw [hm] at e;exact absurd e (show ¬ ((2:Int)=1) by decide)
 ·rw [hm] at a b ⊢
  have a:(ends (aBq p.2.2.2.1)).1=g.2.1:=a
  have b:(ends (aBq p.2.2.2.1)).2=g.1:=b
  rw [he] at a b
  have hj:k=j:=h.one hf hg' b a
  subst hj
  have :some x=some y:=hx.symm.trans hy
  injection this with this
  subst this
  exact Int.not_le.1 h4

theorem aQo {t:den tTo} {p:den tPt} (h:wfP t p=true) {k:Nat} {x:den tPp} (hx:p[k]? =some x):qO t x=true∧(k=0∨aL0 ((p[k - 1]?).getD pt0) x=true):=by
 unfold wfP at h
 rw [bWm] at h
 have :=(aCj (xI t p) p).1 h.2 k x hx
 unfold xI at this
 rw [bWm,bXz,decide_eq_true_eq] at this
 exact this

theorem bJ2 {t:den tTo} {x:den tPp} (h:qO t x=true) {k:Nat} {y:den aL} (hy:x.2.2.2[k]? =some y):cK t y.1=true∧(k=0∨aJc t x ((x.2.2.2[k - 1]?).getD h0) y=true):=by
 unfold qO at h
 simp only [bWm] at h
 obtain ⟨_,_,_,_,h5,h6⟩:=h
 have a:=(aCj (aDu t x.2.2.2) x.2.2.2).1 h5 k y hy
 have b:=(aCj (xB t x) x.2.2.2).1 h6 k y hy
 unfold aDu at a
 unfold xB at b
 simp only [bWm] at a
 rw [bXz,decide_eq_true_eq] at b
 exact ⟨a.2.1,b⟩

theorem aWf {t:den tTo} {x:den tPp} (h:qO t x=true):0<x.2.2.2.length:=by
 unfold qO at h
 rw [bWm] at h
 have :=(bI.1 h.1).1
 omega

theorem bSr {t:den tTo} {p:den tPk} (hw:wfP t p.2.2.2.1=true) (hh:cA p=true) (hz:0<=cO p) (hl:dC p=true) (ha:fO p=false):cO (adv p)=cO p∧(adv p).2.2.2.2.1=p.2.2.2.2.1+1∧(adv p).2.2.2.1=p.2.2.2.1:=by
 obtain ⟨i,e1,e2⟩:=aRi hh hz hl ha
 obtain ⟨i',j,f1,f2,f3,f4,f5⟩:=gG hh
 have f1':=eqI f1
 have :i'=i:=by have :=eqI (f1.symm.trans e1);omega
 subst this
 have e:adv p=goTo p (p.2.2.2.2.1+1) 0 (rA p).2.2.1:=by
  unfold adv
  rw [ha,hl,decide_eq_false (show ¬ cO p<0 by omega)]
  rfl
 rw [e]
 refine ⟨?_,rfl,rfl⟩
 obtain ⟨v1,v2⟩:=aQo hw e2
 obtain ⟨u1,_⟩:=aQo hw f3
 have hj:aL0 (bM p) (rA p)=true:=by
  rcases v2 with v2 | v2
  ·omega
  ·rw [show i'+1 - 1=i' by omega,f3] at v2
   exact v2
 unfold aL0 at hj
 rw [bWm,beq_iff_eq] at hj
 have hp:=aWf v1
 have hq:=aWf u1
 have hhd:(rA p).2.2.2[0]? =some (aF4 (rA p)):=by
  unfold aF4
  rw [bWk hp];rfl
 have hjl:j=(bM p).2.2.2.length - 1:=by
  unfold dC at hl
  rw [beq_iff_eq,f2] at hl
  have hl:=eqI hl
  omega
 have hlt:aH7 (bM p)=cN p:=by
  unfold aH7
  rw [← hjl,f4];rfl
 have hn:cA (goTo p (p.2.2.2.2.1+1) 0 (rA p).2.2.1)=true∧bM (goTo p (p.2.2.2.2.1+1) 0 (rA p).2.2.1)=rA p∧cN (goTo p (p.2.2.2.2.1+1) 0 (rA p).2.2.1)=aF4 (rA p):=by
  have en:(p.2.2.2.2.1+1).toNat=i'+1:=by rw [f1];omega
  have a:bM (goTo p (p.2.2.2.2.1+1) 0 (rA p).2.2.1)=rA p:=by
   show (p.2.2.2.1[(p.2.2.2.2.1+1).toNat]?).getD pt0=_
   rw [en,e2];rfl
  refine ⟨?_,a,?_⟩
  ·have hlen:=(bWs.1 e2).1
   show (inR (p.2.2.2.2.1+1) 0 ((p.2.2.2.1.length:Int) - 1)&&inR (0:Int) 0 (((((p.2.2.2.1[(p.2.2.2.2.1+1).toNat]?).getD (0,0,0,[])).2.2.2.length:Nat):Int) - 1))=true
   rw [en,e2,f1,bWm]
   refine ⟨bI.2 ⟨by omega,by omega⟩,bI.2 ⟨by omega,?_⟩⟩
   show (0:Int)<=((rA p).2.2.2.length:Int) - 1
   omega
  ·unfold cN
   rw [a]
   show ((rA p).2.2.2[(0:Int).toNat]?).getD h0=_
   rw [show (0:Int).toNat=0 from rfl,hhd];rfl
 obtain ⟨_,_,_,_,_,_,g⟩:=gG hn.1
 rw [g,hn.2.2,← hj.2,hlt,← f5]

theorem aVd {t:den tTo} {now:Int}: ∀ (n:Nat) (p:den tPk),wfP t p.2.2.2.1=true→p.2.2.2.2.1+(n:Int)=(p.2.2.2.1.length:Int)→(goC t now n p).1=0→(dC (goC t now n p).2=false∨fO (goC t now n p).2=true)∧cO (goC t now n p).2=cO p∧(goC t now n p).2.2.2.2.1=p.2.2.2.1
 | 0,p,hw,hn,h=>by
  exfalso
  obtain ⟨h1,h2⟩:=zF (show cU t now p=0 from h)
  obtain ⟨i,j,f1,_,f3,_⟩:=gG h1
  have :=(bWs.1 f3).1
  have hn:=eqI hn
  have f1:=eqI f1
  omega
 | n+1,p,hw,hn,h=>by
  have hc0:=aJq h
  obtain ⟨h1,h2⟩:=zF hc0
  obtain ⟨s1,s2,_,_,s5,s6⟩:=(rT t p).cur
  have sp:(aU t p).2.2.2.1=p.2.2.2.1:=(rT t p).1
  have si:(aU t p).2.2.2.2.1=p.2.2.2.2.1:=(rT t p).2.1
  unfold goC at h ⊢
  split at h
  ·rename_i hc
   rw [if_pos hc]
   simp only [bWm,bXn] at hc
   obtain ⟨a1,a2,a3⟩:=bSr (t:=t) (p:=aU t p) (by rw [sp];exact hw) (s1.trans h1) (by rw [s2];exact h2) hc.2.1 hc.2.2
   obtain ⟨b1,b2,b3⟩:=aVd n (adv (aU t p)) (by rw [a3,sp];exact hw) (by rw [a2,a3,si,sp];refine eqI ?_;have hn:=eqI hn;omega) h
   exact ⟨b1,b2.trans (a1.trans s2),b3.trans (a3.trans sp)⟩
  ·rename_i hc
   rw [if_neg hc]
   refine ⟨?_,s2,sp⟩
   rw [hc0] at hc
   show dC (aU t p)=false∨fO (aU t p)=true
   cases hl:dC (aU t p) with
   | false=>exact .inl rfl
   | true=>
    right
    rw [hl] at hc
    simpa using hc


theorem aSh {t:den tTo} {now:Int} {dead:List Int} {r inn:Int} {p:den tPk} (h:((cD t now dead r inn p).1==0)=true):cK t (remote t r (cD t now dead r inn p).2.1).1=true:=by
 have h:(fwd t r now (tD t dead r) inn p).1=0:=eq_of_beq (show ((fwd t r now (tD t dead r) inn p).1==0)=true from h)
 unfold cD
 unfold fwd at h ⊢
 split at h
 ·exact absurd h (show ¬ ((2:Int)=0) by decide)
 rename_i c1
 rw [if_neg c1]
 split at h
 ·exact absurd h (show ¬ ((3:Int)=0) by decide)
 rename_i c2
 rw [if_neg c2]
 split at h
 ·rename_i c3;simp only [bXn,beq_eq_false_iff_ne] at c3;exact absurd h c3
 rename_i c3
 rw [if_neg c3]
 split at h
 ·split at h<;>first | exact absurd h (show ¬ ((1:Int)=0) by decide) | exact absurd h (show ¬ ((2:Int)=0) by decide)
 rename_i c4
 rw [if_neg c4]
 split at h
 ·exact absurd h (show ¬ ((6:Int)=0) by decide)
 rename_i c5
 rw [if_neg c5]
 split at h
 ·exact absurd h (show ¬ ((7:Int)=0) by decide)
 rename_i c6
 rw [if_neg c6]
 simp only [bXz,bXn,not_or,Bool.not_eq_false,beq_iff_eq] at c1 c3 c4
 obtain ⟨v1,v2,v3⟩:=c1
 have hw:wfP t p.2.2.2.1=true:=by
  unfold xQ at v2
  rw [bWm] at v2
  exact v2.1
 have hh:cA p=true:=by
  unfold fD at v1
  simp only [bWm] at v1
  exact v1.2.2.1
 obtain ⟨i,j,f1,_,f3,_⟩:=gG hh
 have hlen:=(bWs.1 f3).1
 obtain ⟨b1,b2,b3⟩:=aVd (t:=t) (now:=now) (p.2.2.2.1.length - p.2.2.2.2.1.toNat) p hw (by rw [f1,bWu];refine eqI ?_;omega) c3
 obtain ⟨q1,q2,_⟩:=aEj (t:=t) (now:=now) (p.2.2.2.1.length - p.2.2.2.2.1.toNat) p c3
 show cK t (remote t r (pEg (bM (bN t now p).2) (cN (bN t now p).2))).1=true
 have e:bN t now p=goC t now (p.2.2.2.1.length - p.2.2.2.2.1.toNat) p:=rfl
 have c4:fO (bN t now p).2=false:=by simpa using c4
 rw [← e] at b1 b2 b3 q1 q2
 generalize (bN t now p).2=q at *
 have hl:dC q=false:=b1.elim id fun h=>by rw [c4] at h;cases h
 obtain ⟨a,b,g1,g2,g3,g4,g5⟩:=gG q1
 have b3:(q.2.2.2.1:List (den tPp))=p.2.2.2.1:=b3
 have g3':(p.2.2.2.1:List (den tPp))[a]? =some (bM q):=by rw [← b3];exact g3
 obtain ⟨w1,_⟩:=aQo hw g3'
 have hb:=(bWs.1 g4).1
 have hb2:b+1<(bM q).2.2.2.length:=by
  unfold dC at hl
  rw [g2,beq_eq_false_iff_ne] at hl
  have hl: ¬ ((b:Int)=((bM q).2.2.2.length:Int) - 1):=hl
  omega
 obtain ⟨y1,y2⟩:=bJ2 w1 (bWk hb2)
 rcases y2 with y2 | y2
 ·omega
 ·rw [show b+1 - 1=b by omega,g4] at y2
  unfold aJc at y2
  simp only [bWm,beq_iff_eq,bXi] at y2
  have er:r=(cN q).1:=by
   have :=v3
   rw [← g5,b2]
   exact this.symm
  rw [er,y2.2.1]
  exact y1

theorem aBr {w:den tNw} {t:den tTo} {now:Int} {dead:List Int} {r inn:Int} {p:den tPk} (h:rH w p):rH w (cD t now dead r inn p).2.2.1:=by
 obtain ⟨i,j,b,e⟩:=aT9 t r now (tD t dead r) inn p
 unfold cD
 rw [e]
 exact h.goTo i j b

theorem aSa {t:den tTo} {w:den tNw} {r inn:Int} {p:den tPk} (h:eO t w) (hg:rH w p):eO t (proc0 w r inn p):=by
 unfold proc0
 split
 ·rename_i hc
  exact h.send (aBr hg) (by rw [← h.top];exact aSh hc)
 ·split
  ·exact h.tell (aBr hg) r
  ·exact h.drop

theorem bDx {t:den tTo} {w:den tNw} {r:Int} {p:den tPk} (h:eO t w) (hg:rH w p):eO t (aAl w r p):=by
 unfold aAl
 split
 ·exact h
 ·rename_i hc
  rcases aH2 (bL w) r p.2.1 with hf | ⟨k,x,hf,hx⟩
  ·rw [hf] at hc;exact absurd (by decide) hc
  ·have hba:yD w k=x:=by unfold yD;rw [hx];rfl
   rw [hf,bWu,hba]
   have hk:=(bWs.1 hx).1
   have hkf:k<(aC w).length:=by rw [← h.lenB];exact hk
   have hfl:(aC w)[k]? =some (aC w)[k]:=bWk hkf
   obtain ⟨d1,d2⟩:=bBd hfl hx hg (h.flow k _ x hfl hx)
   obtain ⟨b1,b2⟩:=h.box hx d2 (fun f hf'=>by
    have :some f=some (aC w)[k]:=hf'.symm.trans hfl
    injection this with this
    rw [this];exact d1)
   split
   ·rename_i ha
    refine aSa b1 (bKm b1 ⟨_,hfl⟩ ?_ ha (hg.grow b2))
    show ((bL w).set k (dV x p))[k]? =_
    rw [bZl hk]
   ·exact b1

theorem aSu {t:den tTo} {w:den tNw} {r inn:Int} {p:den tPk} (h:eO t w) (hg:bKg w p):eO t (fU w r inn p):=by
 cases hv:fD p with
 | false=>rw [aK5 hv];exact h.drop
 | true=>
  have hg:=hg hv
  unfold fU
  split
  ·rename_i hc
   exact h.send (aBr hg) (by rw [← h.top];exact aSh hc)
  ·split
   ·split
    ·exact bDx h (aBr hg)
    ·exact h.tell (aBr hg) r
   ·split
    ·unfold aC5
     split
     ·exact (aSa h (aKf rfl)).drop
     ·exact (h.tell (aKf rfl) r).drop
    ·exact h.drop

theorem bEp (f:den tFl): ∃ c wt:Int,(aF f).1=qM f c wt∧((aF f).2.2=true→(aF f).2.1=vP (qM f c wt)∧wW (qM f c wt)=true):=by
 unfold aF
 split
 ·rename_i hs
  split
  ·exact ⟨_,_,rfl,fun _=>⟨rfl,hs⟩⟩
  ·split
   ·exact ⟨_,_,rfl,fun h=>⟨rfl,h⟩⟩
   ·exact ⟨_,_,rfl,fun h=>by cases h⟩
 ·exact ⟨_,_,rfl,fun h=>by cases h⟩


theorem eO.set {t:den tTo} {w:den tNw} (h:eO t w) {k:Nat} {f g:den tFl} (hf:(aC w)[k]? =some f) (e1:g.1=f.1) (e2:g.2.1=f.2.1) (e3: ∀ (s:Nat) (m:List Int),f.2.2.2.2.1[s]? =some m→g.2.2.2.2.1[s]? =some m) (e4: ∀ x,yE t f x→yE t g x):eO t (cT w ((aC w).set k g)):=by
 refine h.map (by simp) fun j f' hf'=> ?_
 rw [bYx] at hf'
 split at hf'
 ·rename_i e
  subst e
  rw [if_pos (bWs.1 hf).1] at hf'
  injection hf' with hf'
  subst hf'
  exact ⟨f,hf,e1,e2,e3,fun x _=>e4 x⟩
 ·exact ⟨f',hf',rfl,rfl,fun _ _ h=>h,fun x _ h=>h⟩

theorem bEz {t:den tTo} {w:den tNw} {k:Nat} {g:den tFl} (h:eO t w) (hg:(aC w)[k]? =some g) (hs:wW g=true):rH w (vP g):=by
 have hk:k<(bL w).length:=by rw [h.lenB];exact (bWs.1 hg).1
 have hfi:=h.flow k g _ hg (bWk hk)
 have hs':=hs
 unfold wW at hs'
 rw [bWm] at hs'
 obtain ⟨a0,a1⟩:=bI.1 hs'.1
 obtain ⟨b0,b1⟩:=bI.1 hs'.2
 have hc:g.2.2.2.2.2.2.1.toNat<g.2.2.2.2.2.1.length:=by omega
 have ha:g.2.2.2.1.toNat<g.2.2.2.2.1.length:=by omega
 have hpth:g.2.2.2.2.2.1[g.2.2.2.2.2.2.1.toNat]? =some (g.2.2.2.2.2.1[g.2.2.2.2.2.2.1.toNat]'hc):=bWk hc
 have hmsg:g.2.2.2.2.1[g.2.2.2.1.toNat]? =some (g.2.2.2.2.1[g.2.2.2.1.toNat]'ha):=bWk ha
 obtain ⟨p1,p2⟩:=hfi.paths _ (bWx hpth)
 have he:=aYv p1 p2
 have e:vP g=aDz 1 (g.2.2.2.2.2.1[g.2.2.2.2.2.2.1.toNat]'hc) g.2.2.1 g.2.2.2.1 (g.2.2.2.2.1[g.2.2.2.1.toNat]'ha):=by
  unfold vP
  rw [if_pos hs,hpth,hmsg];rfl
 rw [e]
 intro j f x hf hx
 refine ⟨fun _ a b=> ?_,fun a=>absurd a (show ¬ ((1:Int)=2) by decide)⟩
 have a:(ends (g.2.2.2.2.2.1[g.2.2.2.2.2.2.1.toNat]'hc)).1=f.1:=a
 have b:(ends (g.2.2.2.2.2.1[g.2.2.2.2.2.2.1.toNat]'hc)).2=f.2.1:=b
 rw [he] at a b
 have hj:k=j:=h.one hg hf a b
 subst hj
 have :some g=some f:=hg.symm.trans hf
 injection this with this
 subst this
 exact ⟨p1,p2,g.2.2.2.1.toNat,(Int.toNat_of_nonneg b0).symm,hmsg⟩

theorem bGq {t:den tTo} {w:den tNw} (k:Nat) (h:eO t w):eO t (stepT k w):=by
 unfold stepT
 split
 ·rename_i f hf
  obtain ⟨c,wt,e1,e2⟩:=bEp f
  have hset:eO t (cT w ((aC w).set k (aF f).1)):=by
   refine h.set hf (by rw [e1];rfl) (by rw [e1];rfl) (fun s m hm=>by rw [e1];exact hm) fun x hx=> ?_
   have hv:=bEl hx.val
   rw [e1] at hv ⊢
   exact ⟨hv,hx.src,hx.dst,hx.xAS,hx.xFrom,hx.next,hx.recv,hx.len,hx.ack,hx.paths⟩
  split
  ·rename_i hb
   obtain ⟨g1,g2⟩:=e2 hb
   rw [← e1] at g1 g2
   refine aSu hset fun _=> ?_
   rw [g1]
   refine bEz hset (k:=k) ?_ g2
   show ((aC w).set k _)[k]? =_
   rw [bZl (bWs.1 hf).1]
  ·exact hset
 ·exact h

theorem aSv {t:den tTo}: ∀ (n k:Nat) {w:den tNw},eO t w→eO t (tickL k n w)
 | 0,_,_,h=>h
 | n+1,k,_,h=>aSv n (k+1) (bGq k h)

theorem bEm {t:den tTo} {w:den tNw} (h:eO t w):eO t (tG w):=by
 unfold tG
 split
 ·exact h
 ·exact aSv _ _ (h.same (w':=aF9 w) rfl rfl rfl fun y hy=> .inl hy)

theorem bO5 {t:den tTo} {w:den tNw} {k:Nat} {f:den tFl} {b:List Int} (h:eO t w) (hf:(aC w)[k]? =some f):eO t (cT w ((aC w).set k (aCg f b))):=by
 unfold aCg
 split
 ·rename_i hv
  refine h.set hf rfl rfl (fun s m hm=> ?_) fun x hx=> ?_
  ·show (f.2.2.2.2.1++[b])[s]? =some m
   rw [List.getElem?_append_left (bWs.1 hm).1];exact hm
  ·refine ⟨hv,hx.src,hx.dst,hx.xAS,hx.xFrom,hx.next,?_,?_,hx.ack,hx.paths⟩
   ·show x.2.2.2=(f.2.2.2.2.1++[b]).take _
    rw [List.take_append_of_le_length hx.len];exact hx.recv
   ·show x.2.2.2.length<=(f.2.2.2.2.1++[b]).length
    have :=hx.len
    rw [bXh];omega
 ·exact h.set hf rfl rfl (fun _ _ h=>h) fun _ h=>h

theorem bDt {t:den tTo} {w:den tNw} {e:den cL} (h:eO t w) (hb: ∀ x∈aN w,fN x.2.2) (hp:fN e.2.2.2.2.2) (h7:(e.1==(7:Int))=true) (hh:harm w e=true):bKg w e.2.2.2.2.2:=by
 intro hv
 unfold harm sW at hh
 rw [h7,hv] at hh
 cases h3:(e.2.2.2.2.2.1==(3:Int)) with
 | true=>exact aKf (eq_of_beq h3)
 | false=>
  rw [h3] at hh
  simp only [bWo,bX9,cond_false] at hh
  cases ha:w.2.2.2.2.2.1.all (fun x=> !aAi x.2.2 e.2.2.2.2.2) with
  | true=>
   rw [ha,cond_true,bXb] at hh
   intro k f x hf hx
   have :=hh f (bWx hf)
   unfold zM at this
   refine ⟨fun _ a b=> ?_,fun _ a b=> ?_⟩
   ·rw [a,b] at this;simp at this
   ·rw [a,b] at this;simp at this
  | false=>
   rw [List.all_eq_false] at ha
   obtain ⟨x,hx,he⟩:=ha
   have hx:x∈aN w:=hx
   have he:aAi x.2.2 e.2.2.2.2.2=true:=by simpa using he
   have :=bHu (hb x hx) hp he
   rw [← this]
   exact h.good x hx (by rw [this];exact hv)


theorem bPe {t:den tTo} {w:den tNw} {e:den cL} (h:eO t w) (hb: ∀ x∈aN w,fN x.2.2) (hp:fN e.2.2.2.2.2) (hh:harm w e=true):eO t (doW w e).2:=by
 have bN: ∀ i,eO t (uG w i):=fun i=>h.same (w':=uG w i) rfl rfl rfl fun y hy=> .inl (by
  rcases bWv.1 (show y∈(aN w).take i++(aN w).drop (i+1) from hy) with hy | hy
  ·exact bX2 hy
  ·exact List.mem_of_mem_drop hy)
 unfold doW
 split
 ·exact bEm h
 ·split
  ·split
   ·rename_i x hi hx
    exact aSu (bN _) (h.good x (bWx hx))
   ·exact h
  ·split
   ·split
    ·exact (bN _).drop
    ·exact h
   ·split
    ·split
     ·rename_i x hi hx
      have hm:=bWx hx
      refine ⟨h.top,h.lenB,h.flow,h.uniq,fun y hy=> ?_,fun y hy=> ?_⟩
      ·rcases bWv.1 (show y∈aN w++[x] from hy) with hy | hy
       ·exact h.good y hy
       ·rw [bWt.1 hy];exact h.good x hm
      ·rcases bWv.1 (show y∈aN w++[x] from hy) with hy | hy
       ·exact h.to y hy
       ·rw [bWt.1 hy];exact h.to x hm
     ·exact h
    ·split
     ·show eO t (xG w e.2.1 (e.1==5))
      unfold xG
      split
      ·exact h
      ·exact h.same rfl rfl rfl fun y hy=> .inl hy
     ·split
      ·rename_i h7
       split
       ·rename_i hc
        rw [bWm] at hc
        have hgd:=bDt h hb hp h7 hh
        refine ⟨h.top,h.lenB,h.flow,h.uniq,fun y hy=> ?_,fun y hy=> ?_⟩
        ·rcases bWv.1 (show y∈aN w++[e.2.2.2] from hy) with hy | hy
         ·exact h.good y hy
         ·rw [bWt.1 hy];exact hgd
        ·rcases bWv.1 (show y∈aN w++[e.2.2.2] from hy) with hy | hy
         ·exact h.to y hy
         ·rw [bWt.1 hy,← h.top];exact hc.1
       ·exact h
      ·split
       ·split
        ·rename_i f hi hf
         exact bO5 h hf
        ·exact h
       ·exact h

def cC (n:Nat) (w:den tNw):Prop:=(0:Int)<=dH w∧(n:Int)>=dH w

theorem cC.mono {n m:Nat} {w:den tNw} (h:cC n w) (hm:n<=m):cC m w:=⟨h.1,by have :=h.2;omega⟩

theorem cC.eq {n:Nat} {w w':den tNw} (h:cC n w) (e:dH w'=dH w):cC n w':=by
 unfold cC
 rw [e]
 exact h

theorem cC.drop {n:Nat} {w:den tNw} (h:cC n w) (hn:n<=1000000):cC (n+1) (wT w):=by
 obtain ⟨h0,h1⟩:=h
 have e:wr (dH w+1)=dH w+1:=bF (by omega) (by omega)
 exact ⟨by show (0:Int)<=wr (dH w+1);omega,by show ((n+1:Nat):Int)>=wr (dH w+1);omega⟩

theorem cC.send {n:Nat} {w:den tNw} (h:cC n w) (hn:n<=1000000) (r eg:Int) (p:den tPk):cC (n+1) (rK w r eg p):=by
 unfold rK
 split
 ·exact h.mono (Nat.le_succ _)
 ·exact h.drop hn

theorem cC.proc0 {n:Nat} {w:den tNw} (h:cC n w) (hn:n<=1000000) (r inn:Int) (p:den tPk):cC (n+1) (proc0 w r inn p):=by
 unfold Go.Proofs.YtecighmpdcffcaaGreat.proc0
 split
 ·exact h.send hn _ _ _
 ·split
  ·exact cC.mono (n:=n) (h.eq rfl) (Nat.le_succ _)
  ·exact h.drop hn

theorem cC.proc {n:Nat} {w:den tNw} (h:cC n w) (hn:n<=999999) (r inn:Int) (p:den tPk):cC (n+2) (fU w r inn p):=by
 unfold fU
 split
 ·exact (h.send (by omega) _ _ _).mono (by omega)
 ·split
  ·split
   ·unfold aAl
    split
    ·exact h.mono (by omega)
    ·split
     ·refine cC.mono (n:=n+1) (cC.proc0 (n:=n) ?_ (by omega) _ _ _) (by omega)
      exact cC.eq h rfl
     ·exact cC.mono (n:=n) (h.eq rfl) (by omega)
   ·exact cC.mono (n:=n) (h.eq rfl) (by omega)
  ·split
   ·unfold aC5
    split
    ·exact (h.proc0 (by omega) _ _ _).drop (by omega)
    ·refine cC.mono (n:=n+1) (cC.drop (n:=n) ?_ (by omega)) (by omega)
     exact cC.eq h rfl
   ·exact (h.drop (by omega)).mono (by omega)

theorem cC.stepT {n:Nat} {w:den tNw} (h:cC n w) (hn:n<=999999) (k:Nat):cC (n+2) (stepT k w):=by
 unfold Go.Proofs.YtecighmpdcffcaaGreat.stepT
 split
 ·split
  ·refine cC.proc (n:=n) ?_ hn _ _ _
   exact cC.eq h rfl
  ·exact cC.mono (n:=n) (h.eq rfl) (by omega)
 ·exact h.mono (by omega)

theorem cC.tickL {m:Nat}: ∀ (m k:Nat) {n:Nat} {w:den tNw},cC n w→n+2 * m<=999999→cC (n+2 * m) (tickL k m w)
 | 0,_,_,_,h,_=>h
 | m+1,k,n,w,h,hn=>by
  unfold Go.Proofs.YtecighmpdcffcaaGreat.tickL
  exact (cC.tickL (m:=0) m (k+1) (h.stepT (by omega) k) (by omega)).mono (by omega)

theorem cC.event {n:Nat} {w:den tNw} {e:den cL} (h:cC n w) (hf:(aC w).length<=4) (hn:n<=900000):cC (n+8) (doW w e).2:=by
 have same:cC (n+8) w:=h.mono (by omega)
 unfold doW
 split
 ·show cC (n+8) (tG w)
  unfold tG
  split
  ·exact same
  ·refine cC.mono (n:=n+2 * (aC w).length) (cC.tickL (m:=0) (aC w).length 0 (n:=n) ?_ (by omega)) (by omega)
   exact cC.eq h rfl
 ·split
  ·split
   ·refine cC.mono (n:=n+2) (cC.proc (n:=n) ?_ (by omega) _ _ _) (by omega)
    exact cC.eq h rfl
   ·exact same
  ·split
   ·split
    ·refine cC.mono (n:=n+1) (cC.drop (n:=n) ?_ (by omega)) (by omega)
     exact cC.eq h rfl
    ·exact same
   ·split
    ·split
     ·exact same
     ·exact same
    ·split
     ·show cC (n+8) (xG w e.2.1 (e.1==5))
      unfold xG
      split
      ·exact same
      ·exact same
     ·split
      ·split
       ·exact same
       ·exact same
      ·split
       ·split
        ·exact same
        ·exact same
       ·exact same

def zW (m:Nat) (l:List Int):Prop:=l.Pairwise (fun a b=>a<b)∧ ∀ n∈l,0<=n∧n<(m:Int)

theorem aK4 (m:Nat) (dead:List Int) (i:Int) (b:Bool):zW m (qR m dead i b):=by
 unfold qR
 refine ⟨List.Pairwise.filter _ (List.pairwise_map.2 (List.pairwise_lt_range.imp fun h=>by omega)),fun n hn=> ?_⟩
 obtain ⟨k,hk,rfl⟩:=bWq.1 (bW2.1 hn).1
 have :=List.mem_range.1 hk
 exact ⟨by omega,by omega⟩

theorem zW.all {m:Nat} {l:List Int} (h:zW m l):(l.zipIdx 0).all (fun z=>aGh l m z.2 z.1)=true:=by
 refine (aCj (aGh l m) l).2 fun k n hn=> ?_
 unfold aGh
 have hm:=h.2 n (bWx hn)
 rw [bWm,bXz,decide_eq_true_eq]
 refine ⟨bI.2 ⟨hm.1,by omega⟩,?_⟩
 by_cases h0:k=0
 ·exact .inl h0
 ·right
  obtain ⟨hk,e⟩:=bWs.1 hn
  have :=(bYf.1 h.1) (k - 1) k (by omega) hk (by omega)
  rw [bWk (show k - 1<l.length by omega),bXi]
  rw [e] at this
  rw [decide_eq_false (show ¬ (l[k - 1]'(by omega)>=n) by omega)]
  rfl

theorem aN1 (w:den tNw) (r eg:Int) (p:den tPk):aK (rK w r eg p)=aK w:=by unfold rK;split<;>rfl

theorem aNq (w:den tNw) (r inn:Int) (p:den tPk):aK (proc0 w r inn p)=aK w:=by
 unfold proc0
 split
 ·exact aN1 _ _ _ _
 ·split<;>rfl

theorem bBs (w:den tNw):aK (wT w)=aK w:=rfl

theorem aOo (w:den tNw) (r inn:Int) (p:den tPk):aK (fU w r inn p)=aK w:=by
 unfold fU
 split
 ·exact aN1 _ _ _ _
 ·split
  ·split
   ·unfold aAl
    split
    ·rfl
    ·split
     ·refine Eq.trans (aNq _ _ _ _) ?_
      rfl
     ·rfl
   ·rfl
  ·split
   ·unfold aC5
    split
    ·rw [bBs]
     exact aNq _ _ _ _
    ·rfl
   ·rfl

theorem aZy (k:Nat) (w:den tNw):aK (stepT k w)=aK w:=by
 unfold stepT
 split
 ·split
  ·rename_i f hf hb
   exact aOo (cT w ((aC w).set k (aF f).1)) _ _ _
  ·rfl
 ·rfl

theorem aN9: ∀ (n k:Nat) (w:den tNw),aK (tickL k n w)=aK w
 | 0,_,_=>rfl
 | n+1,k,w=>by
  unfold tickL
  exact (aN9 n (k+1) (stepT k w)).trans (aZy k w)

theorem bAe (w:den tNw):aK (tG w)=aK w:=by
 unfold tG
 split
 ·rfl
 ·exact aN9 (aC w).length 0 (aF9 w)

theorem bJu {w:den tNw} {e:den cL} (h:zW (nT w).2.length (aK w)):zW (nT w).2.length (aK (doW w e).2):=by
 unfold doW
 split
 ·show zW _ (aK (tG w));rw [bAe];exact h
 ·split
  ·split
   ·show zW _ (aK (fU _ _ _ _));rw [aOo];exact h
   ·exact h
  ·split
   ·split<;>exact h
   ·split
    ·split<;>exact h
    ·split
     ·show zW _ (aK (xG w e.2.1 (e.1==5)))
      unfold xG
      split
      ·exact h
      ·exact aK4 _ _ _ _
     ·split
      ·split<;>exact h
      ·split
       ·split<;>exact h
       ·exact h

theorem aMd: ∀ l:List (den tMs),yW l l=true
 | []=>rfl
 | x::l=>by
  show (aIz x x&&yW l l)=true
  rw [aMd l,Bool.and_true]
  unfold aIz
  exact beq_self_eq_true _

theorem yE.ok {t:den tTo} {f:den tFl} {x:den tIb} (h:yE t f x):xOk x=true∧aEu f x=true:=by
 have hv:=(uN f).1 h.val
 obtain ⟨q1,q2,q3,q4,q5,q6,q7,q8,q9,q10,q11,q12⟩:=hv
 have hl:=h.len
 have hn:=h.next
 constructor
 ·unfold xOk
  simp only [bWm,bXn,beq_eq_false_iff_ne,beq_iff_eq,decide_eq_true_eq,bXb]
  refine ⟨by rw [h.xAS];exact q2,by rw [h.xFrom];exact q1,fun e=>q3 (by rw [← h.xAS,← h.xFrom];exact e.symm),hn,?_,fun m hm=> ?_⟩
  ·show (20:Int)>=x.2.2.1
   rw [hn];omega
  ·have hm':m∈f.2.2.2.2.1:=by
    rw [h.recv] at hm
    exact bX2 hm
   exact q8 m hm'
 ·unfold aEu
  simp only [bWm,beq_iff_eq,decide_eq_true_eq]
  refine ⟨h.xAS,h.xFrom,hl,?_,h.ack⟩
  rw [← aG1,← h.recv]
  exact aMd _


structure aHn (t:den tTo) (k:Nat) (w:den tNw):Prop where
 run:qV t (1000+2000 * k) k w
 inv:eO t w
 drop:cC (8 * k) w
 dead:zW t.2.length (aK w)

theorem aHn.valid {t:den tTo} {k:Nat} {w:den tNw} (h:aHn t k w) (hk:k<=1000) (ht:aBp t=true):bAg w=true:=by
 have htop:w.1=t:=h.run.top
 have hlo:=leI h.run.lo
 have hhi:=leI h.run.hi
 have hd:=h.drop.1
 have hfl:w.2.2.2.2.2.2.1.length<=4:=h.run.keep.flows
 have hfy:w.2.2.2.2.2.1.length<=150:=h.run.flyN
 unfold bAg
 simp only [bWm,decide_eq_true_eq,bXn,decide_eq_false_iff_not,bXb]
 refine ⟨by rw [htop];exact ht,bI.2 ⟨hlo,leI (Int.le_trans hhi (by omega))⟩,bOg.2 h.run.gate,?_,hfy,hfl,h.inv.lenB,?_,fun x hx=>by rw [htop];exact h.inv.to x hx,?_⟩
 ·have :=(zW.all h.dead)
  rw [bXb] at this
  rw [htop]
  exact this
 ·show ¬ ((dH w:Int)<0)
  omega
 ·have :(w.2.2.2.2.2.2.1.zipIdx 0).all (fun z=>aFy w z.2 z.1&&aGg w z.2 z.1)=true:=by
   refine (aCj (fun k f=>aFy w k f&&aGg w k f) _).2 fun j f hf=> ?_
   have hj:=(bWs.1 hf).1
   have hb:j<(bL w).length:=by rw [h.inv.lenB];exact hj
   have hx:(bL w)[j]? =some (bL w)[j]:=bWk hb
   have hfi:=h.inv.flow j f _ hf hx
   obtain ⟨o1,o2⟩:=hfi.ok
   rw [bWm]
   constructor
   ·unfold aFy
    rw [show w.2.2.2.2.2.2.2.1[j]? =some (bL w)[j] from hx]
    simp only [bWm]
    exact ⟨hfi.val,by rw [htop];exact hfi.src,by rw [htop];exact hfi.dst,o1,o2⟩
   ·unfold aGg
    rw [bXb]
    intro g hg
    obtain ⟨i,hi,hg⟩:=aFx hg
    obtain ⟨hi',ei⟩:=bWs.1 hg
    obtain ⟨hj',ej⟩:=bWs.1 hf
    have :=(bYf.1 h.inv.uniq) i j hi' hj' hi
    have e1:(aC w)[i]=g:=ei
    have e2:(aC w)[j]=f:=ej
    rw [e1,e2] at this
    rw [this];rfl
  rw [bXb] at this
  intro z hz
  have :=this z hz
  rw [bWm] at this
  exact this

theorem xJ.runV {v:den tNw} (h:xJ 3 v):aHn (nT v) 0 v where
 run:=h.run
 inv:=by
  refine ⟨rfl,by rw [h.box,List.length_map],fun k f x hf hx=> ?_,h.uniq,fun y hy=>(by rw [h.fly] at hy;cases hy),fun y hy=>(by rw [h.fly] at hy;cases hy)⟩
  have hm:=bWx hf
  have hF:=h.flows f hm
  rw [h.box,bY1,hf] at hx
  have hx:some ((f.2.1,f.1,0,[]):den tIb)=some x:=hx
  injection hx with hx
  subst hx
  exact ⟨hF.val,hF.src,hF.dst,rfl,rfl,rfl,rfl,bW4 _,by rw [hF.ack];exact bYd _,hF.ends⟩
 drop:=⟨by rw [h.drop];decide,by rw [h.drop];decide⟩
 dead:=by rw [h.dead];exact ⟨List.Pairwise.nil,fun n hn=>(List.not_mem_nil hn).elim⟩

theorem aHn.event {t:den tTo} {k:Nat} {w:den tNw} {e:den cL} (h:aHn t k w) (hk:k<=1000) (ht:t.2.length<=100) (he:EvD w e):aHn t (k+1) (doW w e).2 where
 run:=(aX8 h.run hk ht he).mono (by omega) (Nat.le_refl _)
 inv:=bPe h.inv h.run.keep.bytes.fly he.pk.2 he.harm
 drop:=(h.drop.event h.run.keep.flows (by omega)).mono (by omega)
 dead:=by
  have :=bJu (w:=w) (e:=e) (by rw [h.run.top];exact h.dead)
  rw [h.run.top] at this
  exact this

theorem Ran.runV {v:den tNw} (hv:xJ 3 v) {l:List (den cL)} {w:den tNw} (h:Ran v l w):l.length<=1000→aHn (nT v) l.length w:=by
 induction h with
 | nil=>intro _;exact hv.runV
 | snoc h he ih=>
  intro hl
  simp only [bXh,bX4] at hl ⊢
  exact (ih (by omega)).event (by omega) hv.top.links he

theorem aQh: ∀ {a b:List Int},a.Pairwise (fun x y=>x<y)→b.Pairwise (fun x y=>x<y)→(∀ x,x∈a↔x∈b)→a=b
 | [],[],_,_,_=>rfl
 | [],y::b,_,_,h=>absurd ((h y).2 (by simp)) (by simp)
 | x::a,[],_,_,h=>absurd ((h x).1 (by simp)) (by simp)
 | x::a,y::b,ha,hb,h=>by
  rw [List.pairwise_cons] at ha hb
  have hxy:x=y:=by
   rcases bWp.1 ((h x).1 (by simp)) with e | e
   ·exact e
   ·rcases bWp.1 ((h y).2 (by simp)) with e' | e'
    ·exact e'.symm
    ·have h1:=ha.1 y e'
     have h2:=hb.1 x e
     omega
  subst hxy
  rw [aQh ha.2 hb.2 fun z=> ?_]
  constructor
  ·intro hz
   have :=ha.1 z hz
   rcases bWp.1 ((h z).1 (bWz _ hz)) with e | e
   ·omega
   ·exact e
  ·intro hz
   have :=hb.1 z hz
   rcases bWp.1 ((h z).2 (bWz _ hz)) with e | e
   ·omega
   ·exact e

theorem bO6 {l:List Int} {n:Int} (h:l.Pairwise fun x y=>x<y):(oG l n).Pairwise fun x y=>x<y:=by
 unfold oG
 split
 ·exact h
 ·rename_i hne
  have hlt: ∀ x∈l.take (jD l n),x<n:=fun x hx=>by
   obtain ⟨i,hi,he⟩:=aFx hx
   obtain ⟨hil,e⟩:=bWs.1 he
   have :=List.not_of_lt_findIdx (p:=fun x=> !decide (x<n)) (xs:=l) (show i<l.findIdx _ from hi)
   rw [e] at this
   simpa using this
  have hgt: ∀ x∈l.drop (jD l n),n<x:=fun x hx=>by
   obtain ⟨i,he⟩:=List.mem_iff_getElem?.1 hx
   rw [List.getElem?_drop] at he
   obtain ⟨hil,e⟩:=bWs.1 he
   have hp:jD l n<l.length:=by omega
   have h1:=List.findIdx_getElem (p:=fun x=> !decide (x<n)) (xs:=l) (w:=hp)
   have h1: ¬ (l[jD l n]'hp<n):=by
    have h1:(!decide (l[jD l n]'hp<n))=true:=h1
    simpa using h1
   have h2:l[jD l n]'hp≠n:=fun e'=>hne (by rw [bWk hp,e'])
   by_cases hi0:i=0
   ·subst hi0
    have e:l[jD l n]'hp=x:=e
    omega
   ·have :=(bYf.1 h) (jD l n) (jD l n+i) hp hil (by omega)
    rw [e] at this
    omega
  rw [List.append_assoc,List.pairwise_append]
  refine ⟨h.sublist (List.take_sublist _ _),?_,fun x hx y hy=> ?_⟩
  ·rw [List.singleton_append,List.pairwise_cons]
   exact ⟨hgt,h.sublist (List.drop_sublist _ _)⟩
  ·rcases bWv.1 hy with hy | hy
   ·rw [bWt.1 hy];exact hlt x hx
   ·have :=hlt x hx
    have :=hgt y hy
    omega

theorem aVk {l:List Int} {n:Int}:mV l n=true↔n∈l:=by
 unfold mV
 rw [bXn,List.all_eq_false]
 constructor
 ·rintro ⟨x,hx,e⟩
  have :x=n:=by simpa using e
  rw [← this];exact hx
 ·intro h
  exact ⟨n,h,by simp⟩

theorem aS1 {m:Nat} {dead:List Int} {i x:Int} {b:Bool}:x∈qR m dead i b↔(0<=x∧x<(m:Int))∧((x∈dead∧x≠i)∨(b=true∧x=i)):=by
 unfold qR
 rw [bW2]
 constructor
 ·rintro ⟨h1,h2⟩
  obtain ⟨k,hk,rfl⟩:=bWq.1 h1
  have :=List.mem_range.1 hk
  simp only [bXz,bWm,bne_iff_ne,beq_iff_eq] at h2
  exact ⟨⟨by omega,by omega⟩,h2.imp (fun h=>⟨aVk.1 h.1,h.2⟩) id⟩
 ·rintro ⟨⟨h1,h2⟩,h3⟩
  obtain ⟨k,rfl⟩:=bXe h1
  refine ⟨bWq.2 ⟨k,List.mem_range.2 (by omega),rfl⟩,?_⟩
  simp only [bXz,bWm,bne_iff_ne,beq_iff_eq]
  exact h3.imp (fun h=>⟨aVk.2 h.1,h.2⟩) id

theorem bEd {m:Nat} {dead:List Int} {i:Int} (h:zW m dead) (hi:0<=i∧i<(m:Int)):oG dead i=qR m dead i true:=by
 refine aQh (bO6 h.1) (aK4 m dead i true).1 fun x=> ?_
 rw [aS1]
 constructor
 ·intro hx
  rcases aB4 hx with rfl | hx
  ·exact ⟨hi,.inr ⟨rfl,rfl⟩⟩
  ·by_cases e:x=i
   ·subst e;exact ⟨hi,.inr ⟨rfl,rfl⟩⟩
   ·exact ⟨h.2 x hx,.inl ⟨hx,e⟩⟩
 ·rintro ⟨_,⟨hx,_⟩ | ⟨_,rfl⟩⟩
  ·exact aCo hx
  ·exact aF8 _ _

theorem bGd {m:Nat} {dead:List Int} {i:Int} (h:zW m dead):(dead.filter fun x=>x != i)=qR m dead i false:=by
 refine aQh (h.1.filter _) (aK4 m dead i false).1 fun x=> ?_
 rw [aS1,bW2]
 constructor
 ·rintro ⟨hx,e⟩
  exact ⟨h.2 x hx,.inl ⟨hx,by simpa using e⟩⟩
 ·rintro ⟨_,⟨hx,e⟩ | ⟨e,_⟩⟩
  ·exact ⟨hx,by simpa using e⟩
  ·cases e

theorem bEg {w:den tNw} {i:Nat} {x:den tFy} (hx:(aN w)[i]? =some x) (hl:(aN w).length<=1073741824):mG w (i:Int)=some (bNw x (uG w i)):=by
 have hlt:i<(aN w).length:=(bWs.1 hx).1
 have hx:w.2.2.2.2.2.1[((i:Nat):Int).toNat]? =some x:=by rw [bWu];exact hx
 have h1:decide ((i:Int)<(w.2.2.2.2.2.1.length:Int))=true:=decide_eq_true (by have :i<w.2.2.2.2.2.1.length:=hlt;omega)
 have e1:wr ((i:Int)+1)=((i+1:Nat):Int):=(wri (by omega) (by omega)).trans (by omega)
 have h2:bU ((i+1:Nat):Int) (w.2.2.2.2.2.1.length:Int) (w.2.2.2.2.2.1.length:Int)=true:=yU (show i+1<=w.2.2.2.2.2.1.length from hlt)
 have h3:bU (0:Int) (i:Int) (w.2.2.2.2.2.1.length:Int)=true:=aHg (k:=i) (Nat.le_of_lt hlt)
 have hl:w.2.2.2.2.2.1.length<=1073741824:=hl
 unfold mG ixb aI aT bK zz4 zz5 zz6 zz7 zz8 zz9
 simp only [h1,hx,aA,cond_true,e1,h2,h3,fZ,aB7,List.nil_append,aD (b:=128) (n:=([]:List (den tFy)).length) (m:=(w.2.2.2.2.2.1.take i).length) (by decide) (by simp;omega),aD (b:=128) (n:=(w.2.2.2.2.2.1.take i).length) (m:=(w.2.2.2.2.2.1.drop (i+1)).length) (by decide) (by simp;omega),decide_eq_true (show (0:Int)<=(i:Int) by omega)]
 rfl

theorem bVv {B F:Nat} {w:den tNw} {e:den cL} (hF:F<=1000) (hk:kK B F w) (hB:B+(F+1) * (160+F)<=536870912) (h9:(e.1==(9:Int))=false) (hd:SmB 4294967296 (.sl tb) e.2.2.1) (hp:tot tPk e.2.2.2.2.2<=34359738368) (hdead:zW (nT w).2.length (aK w)):kS w e=some ((doW w e).1,bT (doW w e).2):=by
 obtain ⟨kd,n,data,to,ing,pk⟩:=e
 simp only at h9 hd hp
 have hB0:B<=536870912:=by have :=bW4 ((F+1) * (160+F));omega
 have hB1:B+F * (160+F)<=536870912:=by rw [Nat.succ_mul] at hB;omega
 have l1:w.2.2.2.2.2.1.length<=1073741824:=aX1 hk (by omega)
 have l2:w.2.2.2.2.2.2.1.length<=1073741824:=bWl hk.flows (by omega)
 obtain ⟨n1,n2,n3⟩:=aEl hk (by omega)
 have l3:w.1.2.length<=1073741824:=n1.links
 have l4:w.2.2.2.2.1.length<=1073741824:=by
  have h1:=eM w
  have h2:=eI (t:=ti) (aK w)
  have h3:=hk.tot
  have h4:(aK w).length<=1073741824:=by omega
  exact h4
 have w1:wr ((w.2.2.2.2.2.1.length:Int) - 1)=(w.2.2.2.2.2.1.length:Int) - 1:=jA (by omega)
 have w2:wr ((w.2.2.2.2.2.2.1.length:Int) - 1)=(w.2.2.2.2.2.2.1.length:Int) - 1:=jA (by omega)
 have w3:wr ((w.1.2.length:Int) - 1)=(w.1.2.length:Int) - 1:=jA (by omega)
 have a1:aH 128 w.2.2.2.2.2.1.length 1=true:=aD (by decide) (by omega)
 unfold kS doW ixb aI jZ aQv pj2 pj3 pj9 eL aT bK bO eH oH tI yA aB0 aDs aDv aJo aP7 aQz aQy aKq zz4 zz5 zz6 zz7 zz8 zz9
 simp only [w1,w2,w3,kC,aA]
 cases c1:(kd==(1:Int)) with
 | true=>
  simp only [cond_true]
  rw [show ((w.1,w.2.1,w.2.2.1,w.2.2.2.1,w.2.2.2.2.1,w.2.2.2.2.2.1,w.2.2.2.2.2.2.1,w.2.2.2.2.2.2.2.1,w.2.2.2.2.2.2.2.2):den tNw)=w from rfl,bP6 hF hk hB1]
  rfl
 | false=>
 cases c2:(kd==(2:Int)) with
 | true=>
  have c3:(kd==(3:Int))=false:=by rw [eq_of_beq c2];rfl
  simp only [cond_false,cond_true,aA,c3,bWr,if_false,if_true]
  cases hin:inR n 0 ((w.2.2.2.2.2.1.length:Int) - 1) with
  | false=>rfl
  | true=>
   obtain ⟨i,x,rfl,hx,_,_⟩:=aGa l1 hin
   have hx:(aN w)[i]? =some x:=hx
   have e1:=bEg (w:=w) hx l1
   have kg:=aD0 hk i
   obtain ⟨m1,m2,m3⟩:=aEl kg (by omega)
   have hxm:=bWx hx
   have htx:tot tPk x.2.2<=536870912:=by
    have h1:=vW (t:=tFy) hxm
    have h2:tot tFy x=tot tPk x.2.2:=by simp [qW,tL]
    have :=eM w
    have :=hk.tot
    omega
   have e2:=aX3 (w:=uG w i) (r:=x.1) (inn:=x.2.1) m1 m2 m3 htx (hk.bytes.fly x hxm)
   have e3:Option.bind (bR (uG w i) x.1 x.2.1 x.2.2) (fun y7=>(some (Sum.inl y7):Option ((List (den tFy)×List (den tFl)×List (den tIb)×List (den tAS)×List (den tLk)×List (den tSg)×List (den tSg)×Int×List (den tRs)×List (den tUs)×Int×List Int×Int)⊕(Bool×List (den tFy)×List (den tFl)×List (den tIb)×List (den tAS)×List (den tLk)×List (den tSg)×List (den tSg)×Int×List (den tRs)×List (den tUs)×Int×List Int×Int))))=some (Sum.inl (bT (fU (uG w i) x.1 x.2.1 x.2.2))):=by rw [e2];rfl
   have hx':w.2.2.2.2.2.1[((i:Nat):Int).toNat]? =some x:=by rw [bWu];exact hx
   simp only [bWo,cond_false]
   rw [show ((w.1,w.2.1,w.2.2.1,w.2.2.2.1,w.2.2.2.2.1,w.2.2.2.2.2.1,w.2.2.2.2.2.2.1,w.2.2.2.2.2.2.2.1,w.2.2.2.2.2.2.2.2):den tNw)=w from rfl,e1,aA,hx']
   exact congrArg (fun o=>Option.bind o fun z=>Sum.elim (fun s32=>some (true,s32)) some z) e3
 | false=>
 cases c3:(kd==(3:Int)) with
 | true=>
  simp only [cond_false,cond_true,aA,bWr,if_false,if_true]
  cases hin:inR n 0 ((w.2.2.2.2.2.1.length:Int) - 1) with
  | false=>rfl
  | true=>
   obtain ⟨i,x,rfl,hx,_,_⟩:=aGa l1 hin
   have hx:(aN w)[i]? =some x:=hx
   have e1:=bEg (w:=w) hx l1
   simp only [bWo,cond_false]
   rw [show ((w.1,w.2.1,w.2.2.1,w.2.2.2.1,w.2.2.2.2.1,w.2.2.2.2.2.1,w.2.2.2.2.2.2.1,w.2.2.2.2.2.2.2.1,w.2.2.2.2.2.2.2.2):den tNw)=w from rfl,e1,aA]
   rfl
 | false=>
 cases c4:(kd==(4:Int)) with
 | true=>
  simp only [cond_false,cond_true,aA,bWr,if_false,if_true]
  cases hin:inR n 0 ((w.2.2.2.2.2.1.length:Int) - 1) with
  | false=>rfl
  | true=>
   obtain ⟨i,x,rfl,hx,hlt,hz⟩:=aGa l1 hin
   have hx':w.2.2.2.2.2.1[((i:Nat):Int).toNat]? =some x:=by rw [bWu];exact hx
   cases decide ((w.2.2.2.2.2.1.length:Int)>=150) with
   | true=>rfl
   | false=>
    simp only [bWo,bWw,cond_false,cond_true,aA,hlt,hz,hx',a1,bYe]
    rfl
 | false=>
 cases c5:(kd==(5:Int)) with
 | true=>
  simp only [cond_false,cond_true,aA,bWr,if_false,if_true,Bool.true_or,aKa (l:=w.2.2.2.2.1) (show w.2.2.2.2.1.length<=68719476736 by omega),aKp (l:=w.2.2.2.2.1) (show w.2.2.2.2.1.length<=4294967296 by omega)]
  unfold xG aCt
  cases hin:inR n 0 ((w.1.2.length:Int) - 1) with
  | false=>
   cases mV (aK w) n<;>rfl
  | true=>
   obtain ⟨g0,g1⟩:=bI.1 hin
   cases hh:mV (aK w) n with
   | true=>
    rfl
   | false=>
    have ef:=bEd (m:=(nT w).2.length) (dead:=aK w) (i:=n) hdead ⟨g0,Int.lt_of_le_of_lt g1 (show ((w.1.2.length:Int) - 1<(w.1.2.length:Int)) by omega)⟩
    have ef:oG w.2.2.2.2.1 n=qR (nT w).2.length (aK w) n true:=ef
    rw [ef]
    rfl
 | false=>
 cases c6:(kd==(6:Int)) with
 | true=>
  simp only [cond_false,cond_true,aA,bWr,if_false,if_true,Bool.or_true,aKa (l:=w.2.2.2.2.1) (show w.2.2.2.2.1.length<=68719476736 by omega)]
  unfold xG aCt
  cases hin:inR n 0 ((w.1.2.length:Int) - 1) with
  | false=>
   cases mV (aK w) n<;>rfl
  | true=>
   cases hh:mV (aK w) n with
   | false=>
    rfl
   | true=>
    simp only [bWo,cond_false,aA]
    have ef:=bGd (m:=(nT w).2.length) (dead:=aK w) (i:=n) hdead
    have ef:(w.2.2.2.2.1.filter fun x=>x != n)=qR (nT w).2.length (aK w) n false:=ef
    refine bS (G:=fun o=>Option.bind o (fun z=>Sum.elim (fun s32=>some (true,s32)) some z)=some (true,bT (aEm w (qR (nT w).2.length (aK w) n false)))) w.2.2.2.2.1.length (fun s:Int×List Int=>s.1) (fun k s=>s.2.length<=k∧s.2=(w.2.2.2.2.1.take k).filter fun x=>x != n) (fun r:List Int=>r=w.2.2.2.2.1.filter fun x=>x != n) ?_ ?_ 0 ((0:Int),[]) (bW4 _) rfl ⟨by simp,by simp⟩ ?_
    ·rintro k ⟨_,l⟩ hk' rfl ⟨g1,g2⟩
     simp only at g1 g2
     right
     have hx:w.2.2.2.2.1[k]? =some w.2.2.2.2.1[k]:=bWk hk'
     have ht:(w.2.2.2.2.1.take (k+1)).filter (fun x=>x != n)=l++(if w.2.2.2.2.1[k] != n then [w.2.2.2.2.1[k]] else []):=by
      rw [List.take_add_one,hx,List.filter_append,g2]
      congr 1
      show List.filter _ [w.2.2.2.2.1[k]]=_
      rw [List.filter_cons,List.filter_nil]
     simp only [decide_eq_true (show (k:Int)<(w.2.2.2.2.1.length:Int) by omega),cond_true,aG,hx,aA,aD (b:=8) (n:=l.length) (m:=1) (by decide) (by omega),show wr ((k:Int)+1)=((k+1:Nat):Int) from (wri (by omega) (by omega)).trans (by omega)]
     cases hb:(w.2.2.2.2.1[k] != n) with
     | true=>rw [hb,if_pos rfl] at ht;exact ⟨_,rfl,rfl,by simp;omega,ht.symm⟩
     | false=>rw [hb,if_neg (by simp),List.append_nil] at ht;exact ⟨_,rfl,rfl,by show l.length<=k+1;omega,ht.symm⟩
    ·rintro ⟨_,l⟩ rfl ⟨g1,g2⟩
     exact ⟨l,by simp only [decide_eq_false (bW1 _),cond_false],by simpa using g2⟩
    ·rintro r rfl
     rw [ef]
     rfl
 | false=>
 cases c7:(kd==(7:Int)) with
 | true=>
  simp only [cond_false,cond_true,aA,bWr,if_false,if_true,bX9,aO,aHf n1.as]
  cases cK w.1 to with
  | false=>rfl
  | true=>
   cases decide ((w.2.2.2.2.2.1.length:Int)>=150) with
   | true=>rfl
   | false=>
    simp only [bWo,bWw,cond_false,cond_true,aA,a1]
    rfl
 | false=>
 cases c8:(kd==(8:Int)) with
 | true=>
  simp only [cond_false,cond_true,aA,bWr,if_false,if_true,bX9,aV,bH,bA,aZ,bC]
  cases hin:inR n 0 ((w.2.2.2.2.2.2.1.length:Int) - 1) with
  | false=>rfl
  | true=>
   obtain ⟨i,x,rfl,hx,hlt,hz⟩:=aGa l2 hin
   have hx:(aC w)[i]? =some x:=hx
   have hxm:=bWx hx
   have hx':w.2.2.2.2.2.2.1[((i:Nat):Int).toNat]? =some x:=by rw [bWu];exact hx
   have hfx:tot tFl x<=536870912:=by
    have h1:=vW (t:=tFl) hxm
    have :=eM w
    have :=hk.tot
    omega
   have e1:=bT7 (f:=x) (b:=data) ((bE hfx).mono (by decide)) hd
   have hlt2:decide (((i:Nat):Int).toNat<w.2.2.2.2.2.2.1.length)=true:=decide_eq_true (by rw [bWu];exact (bWs.1 hx).1)
   simp only [bWo,cond_false,cond_true,hlt,hz,hx',hlt2,aA]
   rw [show ((x.1,x.2.1,x.2.2.1,x.2.2.2.1,x.2.2.2.2.1,x.2.2.2.2.2.1,x.2.2.2.2.2.2.1,x.2.2.2.2.2.2.2.1,x.2.2.2.2.2.2.2.2):den tFl)=x from rfl,e1,aA]
   unfold aMq aCg
   cases gN (enq x data)<;>rfl
 | false=>
  simp only [h9,cond_false,cond_true,aA,bWr,if_false,if_true,bX9]
  rfl

theorem bIb {α:Type} {l:List α} {k:Nat} {x:α} (h:l[k]? =some x):l.set k x=l:=by
 obtain ⟨hk,e⟩:=bWs.1 h
 rw [← e]
 exact List.set_getElem_self hk


theorem bRf {w:den tNw} {e:den cL} (h:(doW w e).1=false):(doW w e).2=w:=by
 unfold doW at h ⊢
 split
 ·rename_i c
  rw [if_pos c] at h
  show tG w=w
  unfold tG
  have h:(!decide (aR w>=1000000))=false:=h
  rw [if_pos (by simpa using h)]
 rename_i c1
 rw [if_neg c1] at h
 split
 ·rename_i c
  rw [if_pos c] at h
  split
  ·rename_i x hi hx
   rw [hi,hx] at h
   cases h
  ·rfl
 rename_i c2
 rw [if_neg c2] at h
 split
 ·rename_i c
  rw [if_pos c] at h
  split
  ·rename_i hc;rw [if_pos hc] at h;cases h
  ·rfl
 rename_i c3
 rw [if_neg c3] at h
 split
 ·rename_i c
  rw [if_pos c] at h
  split
  ·rename_i x hi hx
   rw [hi,hx] at h
   cases h
  ·rfl
 rename_i c4
 rw [if_neg c4] at h
 split
 ·rename_i c
  rw [if_pos c] at h
  show xG w e.2.1 (e.1==5)=w
  unfold xG
  have h:(!aCt w e.2.1 (e.1==5))=false:=h
  rw [if_pos (by simpa using h)]
 rename_i c5
 rw [if_neg c5] at h
 split
 ·rename_i c
  rw [if_pos c] at h
  split
  ·rename_i hc;rw [if_pos hc] at h;cases h
  ·rfl
 rename_i c6
 rw [if_neg c6] at h
 split
 ·rename_i c
  rw [if_pos c] at h
  split
  ·rename_i f hi hf
   rw [hi,hf] at h
   have h:gN (enq f e.2.2.1)=false:=h
   show cT w ((aC w).set e.2.1.toNat (aCg f e.2.2.1))=w
   unfold aCg
   rw [h,if_neg (by decide),bIb hf]
   rfl
  ·rfl
 ·rfl

theorem aVo {t:den tTo} {k:Nat} {w:den tNw} (h:aHn t k w) (hk:k<=1000):kK 2001000 4 w:=h.run.keep.mono (by omega)

theorem aYx {w:den tNw} {B F:Nat} (h:kK B F w) (hB:B<=1073741824):SmB 68719476736 tNw w:=(bE (bWl h.tot hB)).mono (by decide)

theorem bOs {w:den tNw} {e:den cL} (he:EvD w e):(e.1==(9:Int))=false:=by
 have h8:=he.hi
 have h9: ¬ (e.1=(9:Int)):=fun h=>by rw [h] at h8;exact absurd h8 (by decide)
 exact beq_eq_false_iff_ne.2 h9

theorem bK7 {t:den tTo} {k:Nat} {w:den tNw} {e:den cL} (h:aHn t k w) (hk:k<=999) (ht:aBp t=true) (hl:t.2.length<=100) (he:EvD w e):mS w e=some (aQ5 (doW w e).2 (doW w e).1):=by
 have hK:=aVo h (by omega)
 have hv:=h.valid (by omega) ht
 have h':=h.event (by omega) hl he
 have hK':=aVo h' (by omega)
 have e0:=bQ3 (w:=w) (bWl hK.tot (by decide))
 rw [hv] at e0
 have e1:=aY7 (aYx hK (by decide))
 have e2:=bVv (w:=w) (e:=e) (by decide) hK (by decide) (bOs he) ⟨by have :=he.data.1;omega,fun x hx=>trivial⟩ (bWl he.pk.1 (by decide)) (by rw [h.run.top];exact h.dead)
 have e3:=aY7 (aYx hK' (by decide))
 obtain ⟨⟨as,ls⟩,⟨dn,co⟩,⟨cap,res,us⟩,now,dead,fly,flows,box,drop⟩:=w
 obtain ⟨kd,en,data,to,ing,k1,k2,k3,k4,k5,k6,k7,k8,k9,k10⟩:=e
 unfold mS aI eL aT bK bO eH zz4 zz5 zz6 zz7 zz8 zz9
 simp only [e0,e1,aA,bWo,cond_false,aP3,nT,nK,nG,aR,aK,aN,aC,bL,dH,e2]
 cases hb:(doW ((as,ls),(dn,co),(cap,res,us),now,dead,fly,flows,box,drop) (kd,en,data,to,ing,k1,k2,k3,k4,k5,k6,k7,k8,k9,k10)).1 with
 | false=>
  have :=bRf hb
  rw [this]
  simp only [bWw,cond_true,aA]
  rfl
 | true=>
  simp only [bWo,cond_false]
  generalize (doW ((as,ls),(dn,co),(cap,res,us),now,dead,fly,flows,box,drop) (kd,en,data,to,ing,k1,k2,k3,k4,k5,k6,k7,k8,k9,k10)).2=w' at *
  obtain ⟨⟨as',ls'⟩,⟨dn',co'⟩,⟨cap',res',us'⟩,now',dead',fly',flows',box',drop'⟩:=w'
  simp only [bT,nT,nK,nG,aR,aK,aN,aC,bL,dH,e3,aA,aP3]
  rfl

theorem yI {R T:Type} {n:Nat} (hn:n<=1000000) {step:Int→Option (Int⊕R)} {r:R} {k:R→Option T} (h: ∀ i:Nat,i<n→step (i:Int)=some (.inl ((i+1:Nat):Int))) (he:step (n:Int)=some (.inr r)):Option.bind (aB step (0:Int)) k=k r:=by
 refine bS (G:=fun o=>o=k r) n (fun s:Int=>s) (fun _ _=>True) (fun x=>x=r) ?_ ?_ 0 (0:Int) (bW4 _) rfl trivial (fun x hx=>by rw [hx])
 ·rintro i _ hi rfl _
  exact .inr ⟨_,h i hi,rfl,trivial⟩
 ·rintro _ rfl _
  exact ⟨r,he,rfl⟩

theorem bDn {t:den tTo} (h1:t.1.length<=1000000) (h2:t.2.length<=1000000):rJ t t=some true:=by
 unfold rJ zz4
 simp only [bne_self_eq_false,cond_false,aA]
 rw [yI h1 (r:= .inl ()) (fun i hi=>by
  simp only [decide_eq_true (show (i:Int)<(t.1.length:Int) by omega),cond_true,aG,bWk hi,aA,beq_self_eq_true,bYe,bWo,cond_false,aW (show i<=1000000000 by omega)]) (by simp only [decide_eq_false (bW1 _),cond_false])]
 simp only [bXp]
 rw [yI h2 (r:= .inl ()) (fun i hi=>by
  simp only [decide_eq_true (show (i:Int)<(t.2.length:Int) by omega),cond_true,aG,bWk hi,aA,beq_self_eq_true,bYe,bWo,cond_false,aW (show i<=1000000000 by omega)]) (by simp only [decide_eq_false (bW1 _),cond_false])]
 rfl

theorem bIn {s:den tSg} (h:s.2.2.length<=1000000):wK s s=some true:=by
 obtain ⟨v,e,k⟩:=aUk (a:=s.2.2) (b:=s.2.2) h
 unfold wK
 simp only [beq_self_eq_true,cond_true,e,k rfl,aA]

theorem aSn {l:List (den tSg)} (h:l.length<=1000000) (hs: ∀ s∈l,s.2.2.length<=1000000):rI l l=some true:=by
 unfold rI pj3
 simp only [bne_self_eq_false,cond_false]
 rw [yI h (r:= .inl ()) (fun i hi=>by
  simp only [decide_eq_true (show (i:Int)<(l.length:Int) by omega),cond_true,aG,bWk hi,aA,aO,bIn (hs _ (bWy hi)),bWo,cond_false,aW (show i<=1000000000 by omega)]) (by simp only [decide_eq_false (bW1 _),cond_false])]
 rfl

theorem bFp {l:List Int} (h:l.length<=1000000):rD l l=some true:=by
 unfold rD
 simp only [bne_self_eq_false,cond_false]
 rw [yI h (r:= .inl ()) (fun i hi=>by
  simp only [decide_eq_true (show (i:Int)<(l.length:Int) by omega),cond_true,aG,bWk hi,aA,bne_self_eq_false,cond_false,aW (show i<=1000000000 by omega)]) (by simp only [decide_eq_false (bW1 _),cond_false])]
 rfl

theorem bB0 {w:den tNw} (h:tot tNw w<=1000000):oV w w=some true:=by
 have sw:=bE h
 obtain ⟨hT,hK,hG,_,hD,hY,hF,hX,_⟩:=sw
 have l5:w.2.2.2.2.2.1.length<=1000000:=hY.1
 have l6:w.2.2.2.2.2.2.1.length<=1000000:=hF.1
 have l7:w.2.2.2.2.2.2.2.1.length<=1000000:=hX.1
 have e1:rJ w.1 w.1=some true:=bDn hT.1.1 hT.2.1
 have e2:tQ w.2.1 w.2.1=some true:=by
  unfold tQ
  simp only [aSn hK.1.1 (fun s hs=>(hK.1.2 s hs).2.2.1),aSn hK.2.1 (fun s hs=>(hK.2.2 s hs).2.2.1),aA,cond_true]
 have e3:pB w.2.2.1 w.2.2.1=some true:=bD3 (bWl hG.2.1.1 (by decide)) (bWl hG.2.2.1 (by decide))
 have e4:rD w.2.2.2.2.1 w.2.2.2.2.1=some true:=bFp hD.1
 unfold oV aI pj2 pj3 pj4 pj9 zz4 zz5 zz6 zz7 zz8
 simp only [aO,e1,e2,e3,e4,aA,bWo,cond_false,bne_self_eq_false]
 rw [yI l5 (r:= .inl ()) (fun i hi=>by
  obtain ⟨v,e,k⟩:=bQm (a:=w.2.2.2.2.2.1[i].2.2) (b:=w.2.2.2.2.2.1[i].2.2) (hY.2 _ (bWy hi)).2.2
  simp only [decide_eq_true (show (i:Int)<(w.2.2.2.2.2.1.length:Int) by omega),cond_true,aG,bWk hi,aA,bne_self_eq_false,cond_false,aO,e,k rfl,bWo,aW (show i<=1000000000 by omega)]) (by simp only [decide_eq_false (bW1 _),cond_false])]
 simp only [bXp]
 rw [yI l6 (r:= .inl ()) (fun i hi=>by
  obtain ⟨v,e,k⟩:=bJ9 (a:=w.2.2.2.2.2.2.1[i]) (b:=w.2.2.2.2.2.2.1[i]) (hF.2 _ (bWy hi))
  simp only [decide_eq_true (show (i:Int)<(w.2.2.2.2.2.2.1.length:Int) by omega),cond_true,aG,bWk hi,aA,aO,e,k rfl,bWo,cond_false,aW (show i<=1000000000 by omega)]) (by simp only [decide_eq_false (bW1 _),cond_false])]
 simp only [bXp]
 rw [yI l7 (r:= .inl ()) (fun i hi=>by
  have hx:=hX.2 _ (bWy hi)
  obtain ⟨v,e,k⟩:=bPa (a:=w.2.2.2.2.2.2.2.1[i]) (b:=w.2.2.2.2.2.2.2.1[i]) hx.2.2.2.1 (fun m hm=>(hx.2.2.2.2 m hm).1)
  simp only [decide_eq_true (show (i:Int)<(w.2.2.2.2.2.2.2.1.length:Int) by omega),cond_true,aG,bWk hi,aA,aO,e,k rfl,bWo,cond_false,aW (show i<=1000000000 by omega)]) (by simp only [decide_eq_false (bW1 _),cond_false])]
 rfl

theorem bQx {code:List Int} (hl:code.length<=1048576) {i:Int} (h:0<=i∧i<=1000) (hw: ∀ x∈code,0<=x∧x<=255): ∃ v,zX code i=some v∧0<=v:=by
 obtain ⟨m,rfl⟩:=bXe h.1
 unfold zX
 by_cases hm:m<code.length
 ·have hx:=hw code[m] (bWy hm)
  refine ⟨code[m],?_,hx.1⟩
  rw [decide_eq_true (by omega),cond_true,aG,bWk hm,aA,bF (by omega) (by omega)]
 ·rw [decide_eq_false (by omega),cond_false,bF (n:=(m:Int) * 31) (by omega) (by omega),bF (n:=(code.length:Int) * 7) (by omega) (by omega),bF (by omega) (by omega)]
  exact ⟨_,rfl,Int.tmod_nonneg _ (by omega)⟩

end Go.Proofs.YtecighmpdcffcaaGreat
