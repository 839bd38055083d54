/-
  Facts and plain laws: what the functions compute, in plain words. Conditions: as each says.
-/
import Derived.Test.YtecighmpdcffcaaGreatQ1FnRuns
open Int renaming le_refl→cA1,toNat_natCast→bZi,eq_ofNat_of_zero_le→bZ1,lt_irrefl→bZp
open List renaming pairwise_iff_getElem→cA2,getElem?_eq_getElem→bY7,getElem?_eq_some_iff→bZf,getElem?_map→cBo,mem_append→bZh,mem_singleton→bZg,length_append→bZ5,length_singleton→cAt,getElem?_set→cBj,getElem?_set_self→cCa,mem_of_getElem?→bZk,all_eq_true→bZx,mem_of_mem_take→cAq,mem_map→bZe,mem_filter→bZr,mem_cons→bZc,mem_cons_of_mem→bZm,append_nil→cAf,getElem_mem→bZl
open Bool renaming and_eq_true→bZb,not_eq_true'→cAa,or_eq_true→cAm,not_true→bY9,or_self→cAx,false_eq_true→bZd,not_false→bZj,and_self→cA9
open Option renaming getD_some→bZ6
open Nat renaming zero_le→bZt,le_refl→bZq,le_trans→bY8,zero_add→bZ3
open Sum renaming elim_inl→cAc
set_option linter.unusedVariables false
set_option linter.unusedSimpArgs false
set_option maxRecDepth 100000
namespace Go.Proofs.YtecighmpdcffcaaGreat
open Go.Ab Go.V
structure fB (t:den tTo) (w:den tNw):Prop where
 top:nT w=t
 lenB:(bO w).length=(aC w).length
 flow: ∀ (k:Nat) (f:den tFl) (x:den tIb),(aC w)[k]? =some f→(bO w)[k]? =some x→aAg t f x
 uniq:(aC w).Pairwise fun f g=>pQ g f=false
 good: ∀ y∈aS w,bL3 w y.2.2
 to: ∀ y∈aS w,cM t y.1=true


structure aO1 (w w':den tNw):Prop where
 flow: ∀ (k:Nat) (f':den tFl),(aC w')[k]? =some f'→ ∃ f,(aC w)[k]? =some f∧f'.1=f.1∧f'.2.1=f.2.1∧ ∀ (s:Nat) (m:List Int),f.2.2.2.2.1[s]? =some m→f'.2.2.2.2.1[s]? =some m
 box: ∀ (k:Nat) (x':den tIb),(bO w')[k]? =some x'→ ∃ x,(bO w)[k]? =some x∧x.2.2.1<=x'.2.2.1

theorem aO1.refl (w:den tNw):aO1 w w:=⟨fun k f h=>⟨f,h,rfl,rfl,fun _ _ h=>h⟩,fun k x h=>⟨x,h,cA1 _⟩⟩

theorem sN.grow {w w':den tNw} {p:den tPk} (h:sN w p) (g:aO1 w w'):sN w' p:=fun k f' x' hf hx=>by
 obtain ⟨f,hf0,e1,e2,e3⟩:=g.flow k f' hf
 obtain ⟨x,hx0,e4⟩:=g.box k x' hx
 obtain ⟨h1,h2⟩:=h k f x hf0 hx0
 rw [e1,e2]
 refine ⟨fun a b c=> ?_,fun a b c=>Int.lt_of_lt_of_le (h2 a b c) e4⟩
 obtain ⟨q1,q2,s,q3,q4⟩:=h1 a b c
 exact ⟨q1,q2,s,q3,e3 s _ q4⟩

theorem sN.goTo {w:den tNw} {p:den tPk} (h:sN w p) (i j b:Int):sN w (goTo p i j b):=h

theorem aMg {w:den tNw} {p:den tPk} (h:p.1=(3:Int)):sN w p:=fun k f x _ _=>⟨fun e=>absurd (h.symm.trans e) (by decide),fun e=>absurd (h.symm.trans e) (by decide)⟩


theorem fB.same {t:den tTo} {w w':den tNw} (h:fB t w) (e1:nT w'=nT w) (e2:aC w'=aC w) (e3:bO w'=bO w) (e4: ∀ y∈aS w',y∈aS w∨(sN w y.2.2∧cM t y.1=true)):fB t w':=by
 have g:aO1 w w':=⟨fun k f h=>⟨f,by rw [← e2];exact h,rfl,rfl,fun _ _ h=>h⟩,fun k x h=>⟨x,by rw [← e3];exact h,cA1 _⟩⟩
 refine ⟨e1.trans h.top,by rw [e2,e3];exact h.lenB,fun k f x hf hx=>h.flow k f x (by rw [← e2];exact hf) (by rw [← e3];exact hx),by rw [e2];exact h.uniq,fun y hy=> ?_,fun y hy=> ?_⟩
 ·rcases e4 y hy with hy | ⟨hy,_⟩
  ·exact fun hv=>(h.good y hy hv).grow g
  ·exact fun _=>hy.grow g
 ·rcases e4 y hy with hy | ⟨_,hy⟩
  ·exact h.to y hy
  ·exact hy

theorem fB.drop {t:den tTo} {w:den tNw} (h:fB t w):fB t (aBc w):=h.same rfl rfl rfl fun y hy=> .inl hy


theorem fB.map {t:den tTo} {w:den tNw} (h:fB t w) {l:lFl} (hl:l.length=(aC w).length)
  (hm: ∀ (k:Nat) (f':den tFl),l[k]? =some f'→ ∃ f,(aC w)[k]? =some f∧f'.1=f.1∧f'.2.1=f.2.1∧(∀ (s:Nat) (m:List Int),f.2.2.2.2.1[s]? =some m→f'.2.2.2.2.1[s]? =some m)∧ ∀ x,(bO w)[k]? =some x→aAg t f x→aAg t f' x):fB t (dG w l):=by
 have g:aO1 w (dG w l):=⟨fun k f' hf=>by
  obtain ⟨f,a,b,c,d,_⟩:=hm k f' hf
  exact ⟨f,a,b,c,d⟩,fun k x h=>⟨x,h,cA1 _⟩⟩
 refine ⟨h.top,by show (bO w).length=l.length;rw [hl];exact h.lenB,fun k f' x hf hx=> ?_,?_,fun y hy hv=>(h.good y hy hv).grow g,h.to⟩
 ·obtain ⟨f,a,_,_,_,e⟩:=hm k f' hf
  exact e x hx (h.flow k f x a hx)
 ·show l.Pairwise _
  rw [cA2]
  intro i j hi hj hij
  obtain ⟨f,a,b,c,_⟩:=hm i l[i] (bY7 hi)
  obtain ⟨f',a',b',c',_⟩:=hm j l[j] (bY7 hj)
  obtain ⟨hi',ei⟩:=bZf.1 a
  obtain ⟨hj',ej⟩:=bZf.1 a'
  have :=(cA2.1 h.uniq) i j hi' hj' hij
  rw [ei,ej] at this
  unfold pQ at this ⊢
  rw [b,c,b',c']
  exact this


theorem fB.one {t:den tTo} {w:den tNw} (h:fB t w) {i j:Nat} {f g:den tFl} (hf:(aC w)[i]? =some f) (hg:(aC w)[j]? =some g) (e1:f.1=g.1) (e2:f.2.1=g.2.1):i=j:=by
 obtain ⟨hi,ei⟩:=bZf.1 hf
 obtain ⟨hj,ej⟩:=bZf.1 hg
 have hs: ∀ a b:den tFl,a.1=b.1→a.2.1=b.2.1→pQ b a=true:=fun a b x y=>by
  unfold pQ
  rw [x,y];simp
 rcases Nat.lt_trichotomy i j with c | c | c
 ·have :=(cA2.1 h.uniq) i j hi hj c
  rw [ei,ej,hs f g e1 e2] at this
  cases this
 ·exact c
 ·have :=(cA2.1 h.uniq) j i hj hi c
  rw [ei,ej,hs g f e1.symm e2.symm] at this
  cases this

theorem bCi {t:den tTo} {f:den tFl} {x:den tIb} {p:den tPk} (h:aAg t f x) (hp:aSa f p=true→p.2.2.2.2.2.2.2.2.1<x.2.2.1):aAg t (vF f p) x:=by
 unfold vF
 split
 ·rename_i ha
  have hs:=hp ha
  unfold aSa at ha
  simp only [bZb,beq_iff_eq] at ha
  obtain ⟨_,_,_,h4,h5⟩:=ha
  obtain ⟨h6,h7⟩:=bT.1 h5
  have hn:=h.next
  have hv:=(vE f).1 h.val
  have hm:f.2.2.2.2.1.length<=20:=hv.2.2.2.2.1
  have e:wr (f.2.2.2.1+1)=f.2.2.2.1+1:=bN (by omega) (by omega)
  rw [e]
  refine ⟨?_,h.src,h.dst,h.xAS,h.xFrom,h.next,h.recv,h.len,?_,h.paths⟩
  ·rw [vE]
   obtain ⟨q1,q2,q3,q4,q5,q6,q7,q8,q9,q10,q11,q12⟩:=hv
   exact ⟨q1,q2,q3,q4,q5,bT.2 ⟨by show (0:Int)<=f.2.2.2.1+1;omega,by show (f.2.2.2.2.1.length:Int)>=f.2.2.2.1+1;omega⟩,q7,q8,q9,q10,rfl,q12⟩
  ·have e1:f.2.2.2.1<x.2.2.1:=h4▸hs
   rw [hn] at e1
   exact Int.add_one_le_of_lt e1
 ·exact h

theorem bBw {t:den tTo} {f:den tFl} {x:den tIb} {p:den tPk} (h:aAg t f x):aAg t (aAc f p) x:=by
 unfold aAc
 cases p.1==3&&(xD p.2.2.2.2.2.2.2.2.2).2.2.2 with
 | false=>exact h
 | true=>
  rw [zZ]
  have hv:=(vE f).1 h.val
  refine ⟨?_,h.src,h.dst,h.xAS,h.xFrom,h.next,h.recv,h.len,h.ack,h.paths⟩
  rw [vE]
  obtain ⟨q1,q2,q3,q4,q5,q6,q7,q8,q9,q10,q11,q12⟩:=hv
  obtain ⟨r1,r2⟩:=bKq (l:=f.2.2.2.2.2.2.2.2) (x:=aBh p.2.2.2.2.2.2.2.2.2) ⟨q12,q9⟩
  refine ⟨q1,q2,q3,q4,q5,q6,q7,q8,r2,?_,?_,r1⟩
  ·show cond _ _ _=(0:Int)∨inR (cond _ _ _) 0 _=true
   cases aRn f (aBh p.2.2.2.2.2.2.2.2.2) with
   | false=>exact q10
   | true=>exact aYa q7 q10
  ·show inR (cond _ _ _) 0 4=true
   cases aRn f (aBh p.2.2.2.2.2.2.2.2.2) with
   | false=>exact q11
   | true=>rfl

theorem bJe (f:den tFl) (p:den tPk):(vF f p).1=f.1∧(vF f p).2.1=f.2.1∧(vF f p).2.2.2.2.1=f.2.2.2.2.1:=by
 unfold vF;split<;>exact ⟨rfl,rfl,rfl⟩

theorem bHv (f:den tFl) (p:den tPk):(aAc f p).1=f.1∧(aAc f p).2.1=f.2.1∧(aAc f p).2.2.2.2.1=f.2.2.2.2.1:=by
 unfold aAc;cases p.1==3&&(xD p.2.2.2.2.2.2.2.2.2).2.2.2<;>exact ⟨rfl,rfl,rfl⟩

theorem fB.tell {t:den tTo} {w:den tNw} {p:den tPk} (h:fB t w) (hg:sN w p) (r:Int):fB t (wT w r p):=by
 refine h.map (by simp) fun k f' hf'=> ?_
 rw [cBo] at hf'
 obtain ⟨f,hf,rfl⟩:=Option.map_eq_some_iff.1 hf'
 have ht:(rS r p f).1=f.1∧(rS r p f).2.1=f.2.1∧(rS r p f).2.2.2.2.1=f.2.2.2.2.1:=by
  unfold rS
  split
  ·split
   ·exact bJe f p
   ·exact bHv f p
  ·exact ⟨rfl,rfl,rfl⟩
 refine ⟨f,hf,ht.1,ht.2.1,fun s m hm=>by rw [ht.2.2];exact hm,fun x hx hfx=> ?_⟩
 unfold rS
 split
 ·split
  ·refine bCi hfx fun ha=> ?_
   unfold aSa at ha
   simp only [bZb,beq_iff_eq] at ha
   exact (hg k f x hf hx).2 ha.1 ha.2.1 ha.2.2.1
  ·exact bBw hfx
 ·exact hfx

theorem fB.send {t:den tTo} {w:den tNw} {p:den tPk} (h:fB t w) (hg:sN w p) {r eg:Int} (hr:cM t (remote t r eg).1=true):fB t (sM w r eg p):=by
 unfold sM
 split
 ·refine h.same rfl rfl rfl fun y hy=> ?_
  rcases bZh.1 (show y∈aS w++_ from hy) with hy | hy
  ·exact .inl hy
  ·have :y=_:=bZg.1 hy
   subst this
   exact .inr ⟨hg,by rw [h.top];exact hr⟩
 ·exact h.drop


theorem bBp {t:den tTo} {w:den tNw} {k:Nat} {f:den tFl} {x:den tIb} {p:den tPk} (hf:(aC w)[k]? =some f) (hx:(bO w)[k]? =some x) (hg:sN w p) (h:aAg t f x):aAg t f (eG x p)∧x.2.2.1<=(eG x p).2.2.1:=by
 unfold eG
 split
 ·rename_i ht
  unfold aU0 aBm at ht
  simp only [bZb,beq_iff_eq,zR] at ht
  obtain ⟨⟨h1,h2,h3⟩,h4,h5⟩:=ht
  obtain ⟨_,_,s,g1,g2⟩:=(hg k f x hf hx).1 h1 (by rw [h2,h.xFrom]) (by rw [h3,h.xAS])
  have hn:=eqI h.next
  have h5:=ltI h5
  have h4':=eqI h4
  have g1':=eqI g1
  have hs:s=x.2.2.2.length:=by omega
  subst hs
  obtain ⟨hlt,he⟩:=bZf.1 g2
  have e:wr (x.2.2.1+1)=((x.2.2.2.length+1:Nat):Int):=by
   rw [hn];exact aW (by omega)
  rw [e]
  have ha:=leI h.ack
  refine ⟨⟨h.val,h.src,h.dst,h.xAS,h.xFrom,by show ((x.2.2.2.length+1:Nat):Int)=((x.2.2.2++[_]).length:Int);simp,?_,?_,?_,h.paths⟩,?_⟩
  ·show x.2.2.2++[p.2.2.2.2.2.2.2.2.2]=f.2.2.2.2.1.take (x.2.2.2++[p.2.2.2.2.2.2.2.2.2]).length
   rw [bZ5,cAt,List.take_add_one,g2,← h.recv]
   rfl
  ·show (x.2.2.2++[p.2.2.2.2.2.2.2.2.2]).length<=_
   rw [bZ5,cAt];omega
  ·refine leI (a:=f.2.2.2.1) (b:=((x.2.2.2++[p.2.2.2.2.2.2.2.2.2]).length:Int)) ?_
   rw [bZ5,cAt];omega
  ·refine leI (a:=x.2.2.1) (b:=((x.2.2.2.length+1:Nat):Int)) ?_
   omega
 ·exact ⟨h,cA1 _⟩

theorem fB.box {t:den tTo} {w:den tNw} {k:Nat} {x x':den tIb} (h:fB t w) (hx:(bO w)[k]? =some x) (hn:x.2.2.1<=x'.2.2.1) (hf: ∀ f,(aC w)[k]? =some f→aAg t f x'):fB t (tZ w k x')∧aO1 w (tZ w k x'):=by
 have hk:k<(bO w).length:=(bZf.1 hx).1
 have g:aO1 w (tZ w k x'):=⟨fun k f h=>⟨f,h,rfl,rfl,fun _ _ h=>h⟩,fun j y hy=>by
  replace hy:((bO w).set k x')[j]? =some y:=hy
  rw [cBj] at hy
  split at hy
  ·rename_i e
   subst e
   try rw [zT hk] at hy
   injection hy with hy
   subst hy
   exact ⟨x,hx,hn⟩
  ·exact ⟨y,hy,cA1 _⟩⟩
 refine ⟨⟨h.top,by show ((bO w).set k x').length=_;rw [List.length_set];exact h.lenB,fun j f y hf' hy=> ?_,h.uniq,fun y hy hv=>(h.good y hy hv).grow g,h.to⟩,g⟩
 replace hy:((bO w).set k x')[j]? =some y:=hy
 rw [cBj] at hy
 split at hy
 ·rename_i e
  subst e
  try rw [zT hk] at hy
  injection hy with hy
  subst hy
  exact hf f hf'
 ·exact h.flow j f y hf' hy


theorem bLk {t:den tTo} {w:den tNw} {k:Nat} {x:den tIb} {p:den tPk} (h:fB t w) (hk: ∃ f,(aC w)[k]? =some f) (hx:(bO w)[k]? =some x) (ha:aC7 x p=true) (hg:sN w p):sN w (nZ x p):=by
 obtain ⟨f,hf⟩:=hk
 have hfx:=h.flow k f x hf hx
 unfold aC7 aBm at ha
 simp only [bZb,beq_iff_eq,cAa,decide_eq_false_iff_not] at ha
 obtain ⟨⟨h1,h2,h3⟩,h4⟩:=ha
 have e1:(p.2.1:Int)=f.1:=h2.trans hfx.xFrom
 have e2:(p.2.2.1:Int)=f.2.1:=h3.trans hfx.xAS
 obtain ⟨p1,p2,_⟩:=(hg k f x hf hx).1 h1 e1 e2
 have he:ends (aDq p.2.2.2.1)=(f.2.1,f.1):=aZt ((aUb _).1.trans p2) ((aUb _).2.trans p1)
 have hm:nZ x p=aFx 2 (aDq p.2.2.2.1) p.2.2.2.2.2.2.2.1 p.2.2.2.2.2.2.2.2.1 []:=by
  unfold nZ
  rw [zT (by
   unfold aC7 aBm
   simp only [bZb,beq_iff_eq,cAa,decide_eq_false_iff_not]
   exact ⟨⟨h1,h2,h3⟩,h4⟩)]
  rfl
 intro j g y hg' hy
 refine ⟨fun e=> ?_,fun _ a b=> ?_⟩
 ·rw [hm] at e;exact absurd e (show ¬ ((2:Int)=1) by decide)
 ·rw [hm] at a b ⊢
  have a:(ends (aDq p.2.2.2.1)).1=g.2.1:=a
  have b:(ends (aDq p.2.2.2.1)).2=g.1:=b
  rw [he] at a b
  have hj:k=j:=h.one hf hg' b a
  subst hj
  have :some x=some y:=hx.symm.trans hy
  injection this with this
  subst this
  exact Int.not_le.1 h4

theorem aSx {t:den tTo} {p:den tPt} (h:wfP t p=true) {k:Nat} {x:den tPp} (hx:p[k]? =some x):rP t x=true∧(k=0∨aM9 ((p[k - 1]?).getD pt0) x=true):=by
 unfold wfP at h
 rw [bZb] at h
 have :=(aBb (yQ t p) p).1 h.2 k x hx
 unfold yQ at this
 rw [bZb,cAm,zR] at this
 exact this

theorem bJm {t:den tTo} {x:den tPp} (h:rP t x=true) {k:Nat} {y:den cH} (hy:x.2.2.2[k]? =some y):cM t y.1=true∧(k=0∨aJ5 t x ((x.2.2.2[k - 1]?).getD h0) y=true):=by
 unfold rP at h
 simp only [bZb] at h
 obtain ⟨_,_,_,_,h5,h6⟩:=h
 have a:=(aBb (aFd t x.2.2.2) x.2.2.2).1 h5 k y hy
 have b:=(aBb (yZ t x) x.2.2.2).1 h6 k y hy
 unfold aFd at a
 unfold yZ at b
 simp only [bZb] at a
 rw [cAm,zR] at b
 exact ⟨a.2.1,b⟩

theorem aXj {t:den tTo} {x:den tPp} (h:rP t x=true):0<x.2.2.2.length:=by
 unfold rP at h
 rw [bZb] at h
 have :=(bT.1 h.1).1
 omega

theorem bTc {t:den tTo} {p:den tPk} (hw:wfP t p.2.2.2.1=true) (hh:cG p=true) (hz:0<=cZ p) (hl:dQ p=true) (ha:gD p=false):cZ (adv p)=cZ p∧(adv p).2.2.2.2.1=p.2.2.2.2.1+1∧(adv p).2.2.2.1=p.2.2.2.1:=by
 obtain ⟨i,e1,e2⟩:=aRw hh hz hl ha
 obtain ⟨i',j,f1,f2,f3,f4,f5⟩:=hP hh
 have f1':=eqI f1
 have :i'=i:=by have :=eqI (f1.symm.trans e1);omega
 subst this
 have e:adv p=goTo p (p.2.2.2.2.1+1) 0 (sC p).2.2.1:=by
  unfold adv
  rw [ha,hl,zW (show ¬ cZ p<0 by omega)]
  rfl
 rw [e]
 refine ⟨?_,rfl,rfl⟩
 obtain ⟨v1,v2⟩:=aSx hw e2
 obtain ⟨u1,_⟩:=aSx hw f3
 have hj:aM9 (bS p) (sC p)=true:=by
  rcases v2 with v2 | v2
  ·omega
  ·rw [show i'+1 - 1=i' by omega,f3] at v2
   exact v2
 unfold aM9 at hj
 rw [bZb,beq_iff_eq] at hj
 have hp:=aXj v1
 have hq:=aXj u1
 have hhd:(sC p).2.2.2[0]? =some (aHi (sC p)):=by
  unfold aHi
  rw [bY7 hp];rfl
 have hjl:j=(bS p).2.2.2.length - 1:=by
  unfold dQ at hl
  rw [beq_iff_eq,f2] at hl
  have hl:=eqI hl
  omega
 have hlt:aJs (bS p)=cX p:=by
  unfold aJs
  rw [← hjl,f4];rfl
 have hn:cG (goTo p (p.2.2.2.2.1+1) 0 (sC p).2.2.1)=true∧bS (goTo p (p.2.2.2.2.1+1) 0 (sC p).2.2.1)=sC p∧cX (goTo p (p.2.2.2.2.1+1) 0 (sC p).2.2.1)=aHi (sC p):=by
  have en:(p.2.2.2.2.1+1).toNat=i'+1:=by rw [f1];omega
  have a:bS (goTo p (p.2.2.2.2.1+1) 0 (sC p).2.2.1)=sC p:=by
   show (p.2.2.2.1[(p.2.2.2.2.1+1).toNat]?).getD pt0=_
   rw [en,e2];rfl
  refine ⟨?_,a,?_⟩
  ·have hlen:=(bZf.1 e2).1
   show (inR (p.2.2.2.2.1+1) 0 ((p.2.2.2.1.length:Int) - 1)&&inR (0:Int) 0 (((((p.2.2.2.1[(p.2.2.2.2.1+1).toNat]?).getD (0,0,0,[])).2.2.2.length:Nat):Int) - 1))=true
   rw [en,e2,f1,bZb]
   refine ⟨bT.2 ⟨by omega,by omega⟩,bT.2 ⟨by omega,?_⟩⟩
   show (0:Int)<=((sC p).2.2.2.length:Int) - 1
   omega
  ·unfold cX
   rw [a]
   show ((sC p).2.2.2[(0:Int).toNat]?).getD h0=_
   rw [show (0:Int).toNat=0 from rfl,hhd];rfl
 obtain ⟨_,_,_,_,_,_,g⟩:=hP hn.1
 rw [g,hn.2.2,← hj.2,hlt,← f5]

theorem aYw {t:den tTo} {now:Int}: ∀ (n:Nat) (p:den tPk),wfP t p.2.2.2.1=true→p.2.2.2.2.1+(n:Int)=(p.2.2.2.1.length:Int)→(goC t now n p).1=0→(dQ (goC t now n p).2=false∨gD (goC t now n p).2=true)∧cZ (goC t now n p).2=cZ p∧(goC t now n p).2.2.2.2.1=p.2.2.2.1
 | 0,p,hw,hn,h=>by
  exfalso
  obtain ⟨h1,h2⟩:=aAm (show dF t now p=0 from h)
  obtain ⟨i,j,f1,_,f3,_⟩:=hP h1
  have :=(bZf.1 f3).1
  have hn:=eqI hn
  have f1:=eqI f1
  omega
 | n+1,p,hw,hn,h=>by
  have hc0:=aMf h
  obtain ⟨h1,h2⟩:=aAm hc0
  obtain ⟨s1,s2,_,_,s5,s6⟩:=(sT t p).cur
  have sp:(aX t p).2.2.2.1=p.2.2.2.1:=(sT t p).1
  have si:(aX t p).2.2.2.2.1=p.2.2.2.2.1:=(sT t p).2.1
  unfold goC at h ⊢
  split at h
  ·rename_i hc
   rw [zT hc]
   simp only [bZb,cAa] at hc
   obtain ⟨a1,a2,a3⟩:=bTc (t:=t) (p:=aX t p) (by rw [sp];exact hw) (s1.trans h1) (by rw [s2];exact h2) hc.2.1 hc.2.2
   obtain ⟨b1,b2,b3⟩:=aYw n (adv (aX t p)) (by rw [a3,sp];exact hw) (by rw [a2,a3,si,sp];refine eqI ?_;have hn:=eqI hn;omega) h
   exact ⟨b1,b2.trans (a1.trans s2),b3.trans (a3.trans sp)⟩
  ·rename_i hc
   rw [zS hc]
   refine ⟨?_,s2,sp⟩
   rw [hc0] at hc
   show dQ (aX t p)=false∨gD (aX t p)=true
   cases hl:dQ (aX t p) with
   | false=>exact .inl rfl
   | true=>
    right
    rw [hl] at hc
    simpa using hc


theorem aUa {t:den tTo} {now:Int} {dead:List Int} {r inn:Int} {p:den tPk} (h:((cJ t now dead r inn p).1==0)=true):cM t (remote t r (cJ t now dead r inn p).2.1).1=true:=by
 have h:(fwd t r now (uK t dead r) inn p).1=0:=eq_of_beq (show ((fwd t r now (uK t dead r) inn p).1==0)=true from h)
 unfold cJ
 unfold fwd at h ⊢
 split at h
 ·exact absurd h (show ¬ ((2:Int)=0) by decide)
 rename_i c1
 rw [zS c1]
 split at h
 ·exact absurd h (show ¬ ((3:Int)=0) by decide)
 rename_i c2
 rw [zS c2]
 split at h
 ·rename_i c3;simp only [cAa,beq_eq_false_iff_ne] at c3;exact absurd h c3
 rename_i c3
 rw [zS c3]
 split at h
 ·split at h<;>first | exact absurd h (show ¬ ((1:Int)=0) by decide) | exact absurd h (show ¬ ((2:Int)=0) by decide)
 rename_i c4
 rw [zS c4]
 split at h
 ·exact absurd h (show ¬ ((6:Int)=0) by decide)
 rename_i c5
 rw [zS c5]
 split at h
 ·exact absurd h (show ¬ ((7:Int)=0) by decide)
 rename_i c6
 rw [zS c6]
 simp only [cAm,cAa,not_or,Bool.not_eq_false,beq_iff_eq] at c1 c3 c4
 obtain ⟨v1,v2,v3⟩:=c1
 have hw:wfP t p.2.2.2.1=true:=by
  unfold zI at v2
  rw [bZb] at v2
  exact v2.1
 have hh:cG p=true:=by
  unfold gX at v1
  simp only [bZb] at v1
  exact v1.2.2.1
 obtain ⟨i,j,f1,_,f3,_⟩:=hP hh
 have hlen:=(bZf.1 f3).1
 obtain ⟨b1,b2,b3⟩:=aYw (t:=t) (now:=now) (p.2.2.2.1.length - p.2.2.2.2.1.toNat) p hw (by rw [f1,bZi];refine eqI ?_;omega) c3
 obtain ⟨q1,q2,_⟩:=aF2 (t:=t) (now:=now) (p.2.2.2.1.length - p.2.2.2.2.1.toNat) p c3
 show cM t (remote t r (pEg (bS (bU t now p).2) (cX (bU t now p).2))).1=true
 have e:bU t now p=goC t now (p.2.2.2.1.length - p.2.2.2.2.1.toNat) p:=rfl
 have c4:gD (bU t now p).2=false:=by simpa using c4
 rw [← e] at b1 b2 b3 q1 q2
 generalize (bU t now p).2=q at *
 have hl:dQ q=false:=b1.elim id fun h=>by rw [c4] at h;cases h
 obtain ⟨a,b,g1,g2,g3,g4,g5⟩:=hP q1
 have b3:(q.2.2.2.1:lPp)=p.2.2.2.1:=b3
 have g3':(p.2.2.2.1:lPp)[a]? =some (bS q):=by rw [← b3];exact g3
 obtain ⟨w1,_⟩:=aSx hw g3'
 have hb:=(bZf.1 g4).1
 have hb2:b+1<(bS q).2.2.2.length:=by
  unfold dQ at hl
  rw [g2,beq_eq_false_iff_ne] at hl
  have hl: ¬ ((b:Int)=((bS q).2.2.2.length:Int) - 1):=hl
  omega
 obtain ⟨y1,y2⟩:=bJm w1 (bY7 hb2)
 rcases y2 with y2 | y2
 ·omega
 ·rw [show b+1 - 1=b by omega,g4] at y2
  unfold aJ5 at y2
  simp only [bZb,beq_iff_eq,bZ6] at y2
  have er:r=(cX q).1:=by
   have :=v3
   rw [← g5,b2]
   exact this.symm
  rw [er,y2.2.1]
  exact y1

theorem aDm {w:den tNw} {t:den tTo} {now:Int} {dead:List Int} {r inn:Int} {p:den tPk} (h:sN w p):sN w (cJ t now dead r inn p).2.2.1:=by
 obtain ⟨i,j,b,e⟩:=aXx t r now (uK t dead r) inn p
 unfold cJ
 rw [e]
 exact h.goTo i j b

theorem aT4 {t:den tTo} {w:den tNw} {r inn:Int} {p:den tPk} (h:fB t w) (hg:sN w p):fB t (proc0 w r inn p):=by
 unfold proc0
 split
 ·rename_i hc
  exact h.send (aDm hg) (by rw [← h.top];exact aUa hc)
 ·split
  ·exact h.tell (aDm hg) r
  ·exact h.drop

theorem bI6 {t:den tTo} {w:den tNw} {r:Int} {p:den tPk} (h:fB t w) (hg:sN w p):fB t (aB0 w r p):=by
 unfold aB0
 split
 ·exact h
 ·rename_i hc
  rcases aJ2 (bO w) r p.2.1 with hf | ⟨k,x,hf,hx⟩
  ·rw [hf] at hc;exact absurd (by decide) hc
  ·have hba:aAd w k=x:=by unfold aAd;rw [hx];rfl
   rw [hf,bZi,hba]
   have hk:=(bZf.1 hx).1
   have hkf:k<(aC w).length:=by rw [← h.lenB];exact hk
   have hfl:(aC w)[k]? =some (aC w)[k]:=bY7 hkf
   obtain ⟨d1,d2⟩:=bBp hfl hx hg (h.flow k _ x hfl hx)
   obtain ⟨b1,b2⟩:=h.box hx d2 (fun f hf'=>by
    have :some f=some (aC w)[k]:=hf'.symm.trans hfl
    injection this with this
    rw [this];exact d1)
   split
   ·rename_i ha
    refine aT4 b1 (bLk b1 ⟨_,hfl⟩ ?_ ha (hg.grow b2))
    show ((bO w).set k (eG x p))[k]? =_
    rw [cCa hk]
   ·exact b1

theorem aUv {t:den tTo} {w:den tNw} {r inn:Int} {p:den tPk} (h:fB t w) (hg:bL3 w p):fB t (iQ w r inn p):=by
 cases hv:gX p with
 | false=>rw [aUl hv];exact h.drop
 | true=>
  have hg:=hg hv
  unfold iQ
  split
  ·rename_i hc
   exact h.send (aDm hg) (by rw [← h.top];exact aUa hc)
  ·split
   ·split
    ·exact bI6 h (aDm hg)
    ·exact h.tell (aDm hg) r
   ·split
    ·unfold aEv
     split
     ·exact (aT4 h (aMg rfl)).drop
     ·exact (h.tell (aMg rfl) r).drop
    ·exact h.drop

theorem bGz (f:den tFl): ∃ c wt:Int,(aF f).1=rT f c wt∧((aF f).2.2=true→(aF f).2.1=wR (rT f c wt)∧yE (rT f c wt)=true):=by
 unfold aF
 split
 ·rename_i hs
  split
  ·exact ⟨_,_,rfl,fun _=>⟨rfl,hs⟩⟩
  ·split
   ·exact ⟨_,_,rfl,fun h=>⟨rfl,h⟩⟩
   ·exact ⟨_,_,rfl,fun h=>by cases h⟩
 ·exact ⟨_,_,rfl,fun h=>by cases h⟩


theorem fB.set {t:den tTo} {w:den tNw} (h:fB t w) {k:Nat} {f g:den tFl} (hf:(aC w)[k]? =some f) (e1:g.1=f.1) (e2:g.2.1=f.2.1) (e3: ∀ (s:Nat) (m:List Int),f.2.2.2.2.1[s]? =some m→g.2.2.2.2.1[s]? =some m) (e4: ∀ x,aAg t f x→aAg t g x):fB t (dG w ((aC w).set k g)):=by
 refine h.map (by simp) fun j f' hf'=> ?_
 rw [cBj] at hf'
 split at hf'
 ·rename_i e
  subst e
  rw [zT (bZf.1 hf).1] at hf'
  injection hf' with hf'
  subst hf'
  exact ⟨f,hf,e1,e2,e3,fun x _=>e4 x⟩
 ·exact ⟨f',hf',rfl,rfl,fun _ _ h=>h,fun x _ h=>h⟩

theorem bIy {t:den tTo} {w:den tNw} {k:Nat} {g:den tFl} (h:fB t w) (hg:(aC w)[k]? =some g) (hs:yE g=true):sN w (wR g):=by
 have hk:k<(bO w).length:=by rw [h.lenB];exact (bZf.1 hg).1
 have hfi:=h.flow k g _ hg (bY7 hk)
 have hs':=hs
 unfold yE at hs'
 rw [bZb] at hs'
 obtain ⟨a0,a1⟩:=bT.1 hs'.1
 obtain ⟨b0,b1⟩:=bT.1 hs'.2
 have hc:g.2.2.2.2.2.2.1.toNat<g.2.2.2.2.2.1.length:=by omega
 have ha:g.2.2.2.1.toNat<g.2.2.2.2.1.length:=by omega
 have hpth:g.2.2.2.2.2.1[g.2.2.2.2.2.2.1.toNat]? =some (g.2.2.2.2.2.1[g.2.2.2.2.2.2.1.toNat]'hc):=bY7 hc
 have hmsg:g.2.2.2.2.1[g.2.2.2.1.toNat]? =some (g.2.2.2.2.1[g.2.2.2.1.toNat]'ha):=bY7 ha
 obtain ⟨p1,p2⟩:=hfi.paths _ (bZk hpth)
 have he:=aZt p1 p2
 have e:wR g=aFx 1 (g.2.2.2.2.2.1[g.2.2.2.2.2.2.1.toNat]'hc) g.2.2.1 g.2.2.2.1 (g.2.2.2.2.1[g.2.2.2.1.toNat]'ha):=by
  unfold wR
  rw [zT hs,hpth,hmsg];rfl
 rw [e]
 intro j f x hf hx
 refine ⟨fun _ a b=> ?_,fun a=>absurd a (show ¬ ((1:Int)=2) by decide)⟩
 have a:(ends (g.2.2.2.2.2.1[g.2.2.2.2.2.2.1.toNat]'hc)).1=f.1:=a
 have b:(ends (g.2.2.2.2.2.1[g.2.2.2.2.2.2.1.toNat]'hc)).2=f.2.1:=b
 rw [he] at a b
 have hj:k=j:=h.one hg hf a b
 subst hj
 have :some g=some f:=hg.symm.trans hf
 injection this with this
 subst this
 exact ⟨p1,p2,g.2.2.2.1.toNat,(Int.toNat_of_nonneg b0).symm,hmsg⟩

theorem bH6 {t:den tTo} {w:den tNw} (k:Nat) (h:fB t w):fB t (stepT k w):=by
 unfold stepT
 split
 ·rename_i f hf
  obtain ⟨c,wt,e1,e2⟩:=bGz f
  have hset:fB t (dG w ((aC w).set k (aF f).1)):=by
   refine h.set hf (by rw [e1];rfl) (by rw [e1];rfl) (fun s m hm=>by rw [e1];exact hm) fun x hx=> ?_
   have hv:=bJb hx.val
   rw [e1] at hv ⊢
   exact ⟨hv,hx.src,hx.dst,hx.xAS,hx.xFrom,hx.next,hx.recv,hx.len,hx.ack,hx.paths⟩
  split
  ·rename_i hb
   obtain ⟨g1,g2⟩:=e2 hb
   rw [← e1] at g1 g2
   refine aUv hset fun _=> ?_
   rw [g1]
   refine bIy hset (k:=k) ?_ g2
   show ((aC w).set k _)[k]? =_
   rw [cCa (bZf.1 hf).1]
  ·exact hset
 ·exact h

theorem aTn {t:den tTo}: ∀ (n k:Nat) {w:den tNw},fB t w→fB t (tickL k n w)
 | 0,_,_,h=>h
 | n+1,k,_,h=>aTn n (k+1) (bH6 k h)

theorem bHf {t:den tTo} {w:den tNw} (h:fB t w):fB t (uI w):=by
 unfold uI
 split
 ·exact h
 ·exact aTn _ _ (h.same (w':=aH4 w) rfl rfl rfl fun y hy=> .inl hy)

theorem bRb {t:den tTo} {w:den tNw} {k:Nat} {f:den tFl} {b:List Int} (h:fB t w) (hf:(aC w)[k]? =some f):fB t (dG w ((aC w).set k (aDu f b))):=by
 unfold aDu
 split
 ·rename_i hv
  refine h.set hf rfl rfl (fun s m hm=> ?_) fun x hx=> ?_
  ·show (f.2.2.2.2.1++[b])[s]? =some m
   rw [List.getElem?_append_left (bZf.1 hm).1];exact hm
  ·refine ⟨hv,hx.src,hx.dst,hx.xAS,hx.xFrom,hx.next,?_,?_,hx.ack,hx.paths⟩
   ·show x.2.2.2=(f.2.2.2.2.1++[b]).take _
    rw [List.take_append_of_le_length hx.len];exact hx.recv
   ·show x.2.2.2.length<=(f.2.2.2.2.1++[b]).length
    have :=hx.len
    rw [bZ5];omega
 ·exact h.set hf rfl rfl (fun _ _ h=>h) fun _ h=>h

theorem bIc {t:den tTo} {w:den tNw} {e:den gC} (h:fB t w) (hb: ∀ x∈aS w,gE x.2.2) (hp:gE e.2.2.2.2.2) (h7:(e.1==(7:Int))=true) (hh:harm w e=true):bL3 w e.2.2.2.2.2:=by
 intro hv
 unfold harm uM at hh
 rw [h7,hv] at hh
 cases h3:(e.2.2.2.2.2.1==(3:Int)) with
 | true=>exact aMg (eq_of_beq h3)
 | false=>
  rw [h3] at hh
  simp only [bY9,cAx,zY] at hh
  cases ha:w.2.2.2.2.2.1.all (fun x=> !aBz x.2.2 e.2.2.2.2.2) with
  | true=>
   rw [ha,zZ,bZx] at hh
   intro k f x hf hx
   have :=hh f (bZk hf)
   unfold aBi at this
   refine ⟨fun _ a b=> ?_,fun _ a b=> ?_⟩
   ·rw [a,b] at this;simp at this
   ·rw [a,b] at this;simp at this
  | false=>
   rw [List.all_eq_false] at ha
   obtain ⟨x,hx,he⟩:=ha
   have hx:x∈aS w:=hx
   have he:aBz x.2.2 e.2.2.2.2.2=true:=by simpa using he
   have :=bLz (hb x hx) hp he
   rw [← this]
   exact h.good x hx (by rw [this];exact hv)


theorem bRi {t:den tTo} {w:den tNw} {e:den gC} (h:fB t w) (hb: ∀ x∈aS w,gE x.2.2) (hp:gE e.2.2.2.2.2) (hh:harm w e=true):fB t (doW w e).2:=by
 have bU: ∀ i,fB t (yN w i):=fun i=>h.same (w':=yN w i) rfl rfl rfl fun y hy=> .inl (by
  rcases bZh.1 (show y∈(aS w).take i++(aS w).drop (i+1) from hy) with hy | hy
  ·exact cAq hy
  ·exact List.mem_of_mem_drop hy)
 unfold doW
 split
 ·exact bHf h
 ·split
  ·split
   ·rename_i x hi hx
    exact aUv (bU _) (h.good x (bZk hx))
   ·exact h
  ·split
   ·split
    ·exact (bU _).drop
    ·exact h
   ·split
    ·split
     ·rename_i x hi hx
      have hm:=bZk hx
      refine ⟨h.top,h.lenB,h.flow,h.uniq,fun y hy=> ?_,fun y hy=> ?_⟩
      ·rcases bZh.1 (show y∈aS w++[x] from hy) with hy | hy
       ·exact h.good y hy
       ·rw [bZg.1 hy];exact h.good x hm
      ·rcases bZh.1 (show y∈aS w++[x] from hy) with hy | hy
       ·exact h.to y hy
       ·rw [bZg.1 hy];exact h.to x hm
     ·exact h
    ·split
     ·show fB t (yD w e.2.1 (e.1==5))
      unfold yD
      split
      ·exact h
      ·exact h.same rfl rfl rfl fun y hy=> .inl hy
     ·split
      ·rename_i h7
       split
       ·rename_i hc
        rw [bZb] at hc
        have hgd:=bIc h hb hp h7 hh
        refine ⟨h.top,h.lenB,h.flow,h.uniq,fun y hy=> ?_,fun y hy=> ?_⟩
        ·rcases bZh.1 (show y∈aS w++[e.2.2.2] from hy) with hy | hy
         ·exact h.good y hy
         ·rw [bZg.1 hy];exact hgd
        ·rcases bZh.1 (show y∈aS w++[e.2.2.2] from hy) with hy | hy
         ·exact h.to y hy
         ·rw [bZg.1 hy,← h.top];exact hc.1
       ·exact h
      ·split
       ·split
        ·rename_i f hi hf
         exact bRb h hf
        ·exact h
       ·exact h

def cK (n:Nat) (w:den tNw):Prop:=(0:Int)<=dD w∧(n:Int)>=dD w

theorem cK.mono {n m:Nat} {w:den tNw} (h:cK n w) (hm:n<=m):cK m w:=⟨h.1,by have :=h.2;omega⟩

theorem cK.eq {n:Nat} {w w':den tNw} (h:cK n w) (e:dD w'=dD w):cK n w':=by
 unfold cK
 rw [e]
 exact h

theorem cK.drop {n:Nat} {w:den tNw} (h:cK n w) (hn:n<=1000000):cK (n+1) (aBc w):=by
 obtain ⟨h0,h1⟩:=h
 have e:wr (dD w+1)=dD w+1:=bN (by omega) (by omega)
 exact ⟨by show (0:Int)<=wr (dD w+1);omega,by show ((n+1:Nat):Int)>=wr (dD w+1);omega⟩

theorem cK.send {n:Nat} {w:den tNw} (h:cK n w) (hn:n<=1000000) (r eg:Int) (p:den tPk):cK (n+1) (sM w r eg p):=by
 unfold sM
 split
 ·exact h.mono (Nat.le_succ _)
 ·exact h.drop hn

theorem cK.proc0 {n:Nat} {w:den tNw} (h:cK n w) (hn:n<=1000000) (r inn:Int) (p:den tPk):cK (n+1) (proc0 w r inn p):=by
 unfold Go.Proofs.YtecighmpdcffcaaGreat.proc0
 split
 ·exact h.send hn _ _ _
 ·split
  ·exact cK.mono (n:=n) (h.eq rfl) (Nat.le_succ _)
  ·exact h.drop hn

theorem cK.proc {n:Nat} {w:den tNw} (h:cK n w) (hn:n<=999999) (r inn:Int) (p:den tPk):cK (n+2) (iQ w r inn p):=by
 unfold iQ
 split
 ·exact (h.send (by omega) _ _ _).mono (by omega)
 ·split
  ·split
   ·unfold aB0
    split
    ·exact h.mono (by omega)
    ·split
     ·refine cK.mono (n:=n+1) (cK.proc0 (n:=n) ?_ (by omega) _ _ _) (by omega)
      exact cK.eq h rfl
     ·exact cK.mono (n:=n) (h.eq rfl) (by omega)
   ·exact cK.mono (n:=n) (h.eq rfl) (by omega)
  ·split
   ·unfold aEv
    split
    ·exact (h.proc0 (by omega) _ _ _).drop (by omega)
    ·refine cK.mono (n:=n+1) (cK.drop (n:=n) ?_ (by omega)) (by omega)
     exact cK.eq h rfl
   ·exact (h.drop (by omega)).mono (by omega)

theorem cK.stepT {n:Nat} {w:den tNw} (h:cK n w) (hn:n<=999999) (k:Nat):cK (n+2) (stepT k w):=by
 unfold Go.Proofs.YtecighmpdcffcaaGreat.stepT
 split
 ·split
  ·refine cK.proc (n:=n) ?_ hn _ _ _
   exact cK.eq h rfl
  ·exact cK.mono (n:=n) (h.eq rfl) (by omega)
 ·exact h.mono (by omega)

theorem cK.tickL {m:Nat}: ∀ (m k:Nat) {n:Nat} {w:den tNw},cK n w→n+2 * m<=999999→cK (n+2 * m) (tickL k m w)
 | 0,_,_,_,h,_=>h
 | m+1,k,n,w,h,hn=>by
  unfold Go.Proofs.YtecighmpdcffcaaGreat.tickL
  exact (cK.tickL (m:=0) m (k+1) (h.stepT (by omega) k) (by omega)).mono (by omega)

theorem cK.event {n:Nat} {w:den tNw} {e:den gC} (h:cK n w) (hf:(aC w).length<=4) (hn:n<=900000):cK (n+8) (doW w e).2:=by
 have same:cK (n+8) w:=h.mono (by omega)
 unfold doW
 split
 ·show cK (n+8) (uI w)
  unfold uI
  split
  ·exact same
  ·refine cK.mono (n:=n+2 * (aC w).length) (cK.tickL (m:=0) (aC w).length 0 (n:=n) ?_ (by omega)) (by omega)
   exact cK.eq h rfl
 ·split
  ·split
   ·refine cK.mono (n:=n+2) (cK.proc (n:=n) ?_ (by omega) _ _ _) (by omega)
    exact cK.eq h rfl
   ·exact same
  ·split
   ·split
    ·refine cK.mono (n:=n+1) (cK.drop (n:=n) ?_ (by omega)) (by omega)
     exact cK.eq h rfl
    ·exact same
   ·split
    ·split
     ·exact same
     ·exact same
    ·split
     ·show cK (n+8) (yD w e.2.1 (e.1==5))
      unfold yD
      split
      ·exact same
      ·exact same
     ·split
      ·split
       ·exact same
       ·exact same
      ·split
       ·split
        ·exact same
        ·exact same
       ·exact same

def aBf (m:Nat) (l:List Int):Prop:=l.Pairwise (fun a b=>a<b)∧ ∀ n∈l,0<=n∧n<(m:Int)

theorem aLm (m:Nat) (dead:List Int) (i:Int) (b:Bool):aBf m (rQ m dead i b):=by
 unfold rQ
 refine ⟨List.Pairwise.filter _ (List.pairwise_map.2 (List.pairwise_lt_range.imp fun h=>by omega)),fun n hn=> ?_⟩
 obtain ⟨k,hk,rfl⟩:=bZe.1 (bZr.1 hn).1
 have :=List.mem_range.1 hk
 exact ⟨by omega,by omega⟩

theorem aBf.all {m:Nat} {l:List Int} (h:aBf m l):(l.zipIdx 0).all (fun z=>yK l m z.2 z.1)=true:=by
 refine (aBb (yK l m) l).2 fun k n hn=> ?_
 unfold yK
 have hm:=h.2 n (bZk hn)
 rw [bZb,cAm,zR]
 refine ⟨bT.2 ⟨hm.1,by omega⟩,?_⟩
 by_cases h0:k=0
 ·exact .inl h0
 ·right
  obtain ⟨hk,e⟩:=bZf.1 hn
  have :=(cA2.1 h.1) (k - 1) k (by omega) hk (by omega)
  rw [bY7 (show k - 1<l.length by omega),bZ6]
  rw [e] at this
  rw [zW (show ¬ (l[k - 1]'(by omega)>=n) by omega)]
  rfl

theorem aP8 (w:den tNw) (r eg:Int) (p:den tPk):aK (sM w r eg p)=aK w:=by unfold sM;split<;>rfl

theorem aP2 (w:den tNw) (r inn:Int) (p:den tPk):aK (proc0 w r inn p)=aK w:=by
 unfold proc0
 split
 ·exact aP8 _ _ _ _
 ·split<;>rfl

theorem bC4 (w:den tNw):aK (aBc w)=aK w:=rfl

theorem aPu (w:den tNw) (r inn:Int) (p:den tPk):aK (iQ w r inn p)=aK w:=by
 unfold iQ
 split
 ·exact aP8 _ _ _ _
 ·split
  ·split
   ·unfold aB0
    split
    ·rfl
    ·split
     ·refine Eq.trans (aP2 _ _ _ _) ?_
      rfl
     ·rfl
   ·rfl
  ·split
   ·unfold aEv
    split
    ·rw [bC4]
     exact aP2 _ _ _ _
    ·rfl
   ·rfl

theorem bCo (k:Nat) (w:den tNw):aK (stepT k w)=aK w:=by
 unfold stepT
 split
 ·split
  ·rename_i f hf hb
   exact aPu (dG w ((aC w).set k (aF f).1)) _ _ _
  ·rfl
 ·rfl

theorem aQe: ∀ (n k:Nat) (w:den tNw),aK (tickL k n w)=aK w
 | 0,_,_=>rfl
 | n+1,k,w=>by
  unfold tickL
  exact (aQe n (k+1) (stepT k w)).trans (bCo k w)

theorem bCa (w:den tNw):aK (uI w)=aK w:=by
 unfold uI
 split
 ·rfl
 ·exact aQe (aC w).length 0 (aH4 w)

theorem bJ9 {w:den tNw} {e:den gC} (h:aBf (nT w).2.length (aK w)):aBf (nT w).2.length (aK (doW w e).2):=by
 unfold doW
 split
 ·show aBf _ (aK (uI w));rw [bCa];exact h
 ·split
  ·split
   ·show aBf _ (aK (iQ _ _ _ _));rw [aPu];exact h
   ·exact h
  ·split
   ·split<;>exact h
   ·split
    ·split<;>exact h
    ·split
     ·show aBf _ (aK (yD w e.2.1 (e.1==5)))
      unfold yD
      split
      ·exact h
      ·exact aLm _ _ _ _
     ·split
      ·split<;>exact h
      ·split
       ·split<;>exact h
       ·exact h

theorem aN3: ∀ l:lMs,xA l l=true
 | []=>rfl
 | x::l=>by
  show (aDl x x&&xA l l)=true
  rw [aN3 l,Bool.and_true]
  unfold aDl
  exact beq_self_eq_true _

theorem aAg.ok {t:den tTo} {f:den tFl} {x:den tIb} (h:aAg t f x):xOk x=true∧zD f x=true:=by
 have hv:=(vE f).1 h.val
 obtain ⟨q1,q2,q3,q4,q5,q6,q7,q8,q9,q10,q11,q12⟩:=hv
 have hl:=h.len
 have hn:=h.next
 constructor
 ·unfold xOk
  simp only [bZb,cAa,beq_eq_false_iff_ne,beq_iff_eq,zR,bZx]
  refine ⟨by rw [h.xAS];exact q2,by rw [h.xFrom];exact q1,fun e=>q3 (by rw [← h.xAS,← h.xFrom];exact e.symm),hn,?_,fun m hm=> ?_⟩
  ·show (20:Int)>=x.2.2.1
   rw [hn];omega
  ·have hm':m∈f.2.2.2.2.1:=by
    rw [h.recv] at hm
    exact cAq hm
   exact q8 m hm'
 ·unfold zD
  simp only [bZb,beq_iff_eq,zR]
  refine ⟨h.xAS,h.xFrom,hl,?_,h.ack⟩
  rw [← aIg,← h.recv]
  exact aN3 _


structure xH (t:den tTo) (k:Nat) (w:den tNw):Prop where
 run:rY t (1000+2000 * k) k w
 inv:fB t w
 drop:cK (8 * k) w
 dead:aBf t.2.length (aK w)

theorem xH.valid {t:den tTo} {k:Nat} {w:den tNw} (h:xH t k w) (hk:k<=1000) (ht:uL t=true):aTa w=true:=by
 have htop:w.1=t:=h.run.top
 have hlo:=leI h.run.lo
 have hhi:=leI h.run.hi
 have hd:=h.drop.1
 have hfl:w.2.2.2.2.2.2.1.length<=4:=h.run.keep.flows
 have hfy:w.2.2.2.2.2.1.length<=150:=h.run.flyN
 unfold aTa
 simp only [bZb,zR,cAa,decide_eq_false_iff_not,bZx]
 refine ⟨by rw [htop];exact ht,bT.2 ⟨hlo,leI (Int.le_trans hhi (by omega))⟩,bR4.2 h.run.gate,?_,hfy,hfl,h.inv.lenB,?_,fun x hx=>by rw [htop];exact h.inv.to x hx,?_⟩
 ·have :=(aBf.all h.dead)
  rw [bZx] at this
  rw [htop]
  exact this
 ·show ¬ ((dD w:Int)<0)
  omega
 ·have :(w.2.2.2.2.2.2.1.zipIdx 0).all (fun z=>sO w z.2 z.1&&aB1 w z.2 z.1)=true:=by
   refine (aBb (fun k f=>sO w k f&&aB1 w k f) _).2 fun j f hf=> ?_
   have hj:=(bZf.1 hf).1
   have hb:j<(bO w).length:=by rw [h.inv.lenB];exact hj
   have hx:(bO w)[j]? =some (bO w)[j]:=bY7 hb
   have hfi:=h.inv.flow j f _ hf hx
   obtain ⟨o1,o2⟩:=hfi.ok
   rw [bZb]
   constructor
   ·unfold sO
    rw [show w.2.2.2.2.2.2.2.1[j]? =some (bO w)[j] from hx]
    simp only [bZb]
    exact ⟨hfi.val,by rw [htop];exact hfi.src,by rw [htop];exact hfi.dst,o1,o2⟩
   ·unfold aB1
    rw [bZx]
    intro g hg
    obtain ⟨i,hi,hg⟩:=aHl hg
    obtain ⟨hi',ei⟩:=bZf.1 hg
    obtain ⟨hj',ej⟩:=bZf.1 hf
    have :=(cA2.1 h.inv.uniq) i j hi' hj' hi
    have e1:(aC w)[i]=g:=ei
    have e2:(aC w)[j]=f:=ej
    rw [e1,e2] at this
    rw [this];rfl
  rw [bZx] at this
  intro z hz
  have :=this z hz
  rw [bZb] at this
  exact this

theorem zO.runV {v:den tNw} (h:zO 3 v):xH (nT v) 0 v where
 run:=h.run
 inv:=by
  refine ⟨rfl,by rw [h.box,List.length_map],fun k f x hf hx=> ?_,h.uniq,fun y hy=>(by rw [h.fly] at hy;cases hy),fun y hy=>(by rw [h.fly] at hy;cases hy)⟩
  have hm:=bZk hf
  have hF:=h.flows f hm
  rw [h.box,cBo,hf] at hx
  have hx:some ((f.2.1,f.1,0,[]):den tIb)=some x:=hx
  injection hx with hx
  subst hx
  exact ⟨hF.val,hF.src,hF.dst,rfl,rfl,rfl,rfl,bZt _,by rw [hF.ack];exact cA1 _,hF.ends⟩
 drop:=⟨by rw [h.drop];decide,by rw [h.drop];decide⟩
 dead:=by rw [h.dead];exact ⟨List.Pairwise.nil,fun n hn=>(List.not_mem_nil hn).elim⟩

theorem xH.event {t:den tTo} {k:Nat} {w:den tNw} {e:den gC} (h:xH t k w) (hk:k<=1000) (ht:t.2.length<=100) (he:EvD w e):xH t (k+1) (doW w e).2 where
 run:=(bA7 h.run hk ht he).mono (by omega) (bZq _)
 inv:=bRi h.inv h.run.keep.bytes.fly he.pk.2 he.harm
 drop:=(h.drop.event h.run.keep.flows (by omega)).mono (by omega)
 dead:=by
  have :=bJ9 (w:=w) (e:=e) (by rw [h.run.top];exact h.dead)
  rw [h.run.top] at this
  exact this

theorem Ran.runV {v:den tNw} (hv:zO 3 v) {l:fM} {w:den tNw} (h:Ran v l w):l.length<=1000→xH (nT v) l.length w:=by
 induction h with
 | nil=>intro _;exact hv.runV
 | snoc h he ih=>
  intro hl
  simp only [bZ5,cAt] at hl ⊢
  exact (ih (by omega)).event (by omega) hv.top.links he

theorem aR3: ∀ {a b:List Int},a.Pairwise (fun x y=>x<y)→b.Pairwise (fun x y=>x<y)→(∀ x,x∈a↔x∈b)→a=b
 | [],[],_,_,_=>rfl
 | [],y::b,_,_,h=>absurd ((h y).2 (by simp)) (by simp)
 | x::a,[],_,_,h=>absurd ((h x).1 (by simp)) (by simp)
 | x::a,y::b,ha,hb,h=>by
  rw [List.pairwise_cons] at ha hb
  have hxy:x=y:=by
   rcases bZc.1 ((h x).1 (by simp)) with e | e
   ·exact e
   ·rcases bZc.1 ((h y).2 (by simp)) with e' | e'
    ·exact e'.symm
    ·have h1:=ha.1 y e'
     have h2:=hb.1 x e
     omega
  subst hxy
  rw [aR3 ha.2 hb.2 fun z=> ?_]
  constructor
  ·intro hz
   have :=ha.1 z hz
   rcases bZc.1 ((h z).1 (bZm _ hz)) with e | e
   ·omega
   ·exact e
  ·intro hz
   have :=hb.1 z hz
   rcases bZc.1 ((h z).2 (bZm _ hz)) with e | e
   ·omega
   ·exact e

theorem bRy {l:List Int} {n:Int} (h:l.Pairwise fun x y=>x<y):(pK l n).Pairwise fun x y=>x<y:=by
 unfold pK
 split
 ·exact h
 ·rename_i hne
  have hlt: ∀ x∈l.take (kO l n),x<n:=fun x hx=>by
   obtain ⟨i,hi,he⟩:=aHl hx
   obtain ⟨hil,e⟩:=bZf.1 he
   have :=List.not_of_lt_findIdx (p:=fun x=> !decide (x<n)) (xs:=l) (show i<l.findIdx _ from hi)
   rw [e] at this
   simpa using this
  have hgt: ∀ x∈l.drop (kO l n),n<x:=fun x hx=>by
   obtain ⟨i,he⟩:=List.mem_iff_getElem?.1 hx
   rw [List.getElem?_drop] at he
   obtain ⟨hil,e⟩:=bZf.1 he
   have hp:kO l n<l.length:=by omega
   have h1:=List.findIdx_getElem (p:=fun x=> !decide (x<n)) (xs:=l) (w:=hp)
   have h1: ¬ (l[kO l n]'hp<n):=by
    have h1:(!decide (l[kO l n]'hp<n))=true:=h1
    simpa using h1
   have h2:l[kO l n]'hp≠n:=fun e'=>hne (by rw [bY7 hp,e'])
   by_cases hi0:i=0
   ·subst hi0
    have e:l[kO l n]'hp=x:=e
    omega
   ·have :=(cA2.1 h) (kO l n) (kO l n+i) hp hil (by omega)
    rw [e] at this
    omega
  rw [List.append_assoc,List.pairwise_append]
  refine ⟨h.sublist (List.take_sublist _ _),?_,fun x hx y hy=> ?_⟩
  ·rw [List.singleton_append,List.pairwise_cons]
   exact ⟨hgt,h.sublist (List.drop_sublist _ _)⟩
  ·rcases bZh.1 hy with hy | hy
   ·rw [bZg.1 hy];exact hlt x hx
   ·have :=hlt x hx
    have :=hgt y hy
    omega

theorem aV8 {l:List Int} {n:Int}:oL l n=true↔n∈l:=by
 unfold oL
 rw [cAa,List.all_eq_false]
 constructor
 ·rintro ⟨x,hx,e⟩
  have :x=n:=by simpa using e
  rw [← this];exact hx
 ·intro h
  exact ⟨n,h,by simp⟩

theorem aUm {m:Nat} {dead:List Int} {i x:Int} {b:Bool}:x∈rQ m dead i b↔(0<=x∧x<(m:Int))∧((x∈dead∧x≠i)∨(b=true∧x=i)):=by
 unfold rQ
 rw [bZr]
 constructor
 ·rintro ⟨h1,h2⟩
  obtain ⟨k,hk,rfl⟩:=bZe.1 h1
  have :=List.mem_range.1 hk
  simp only [cAm,bZb,bne_iff_ne,beq_iff_eq] at h2
  exact ⟨⟨by omega,by omega⟩,h2.imp (fun h=>⟨aV8.1 h.1,h.2⟩) id⟩
 ·rintro ⟨⟨h1,h2⟩,h3⟩
  obtain ⟨k,rfl⟩:=bZ1 h1
  refine ⟨bZe.2 ⟨k,List.mem_range.2 (by omega),rfl⟩,?_⟩
  simp only [cAm,bZb,bne_iff_ne,beq_iff_eq]
  exact h3.imp (fun h=>⟨aV8.2 h.1,h.2⟩) id

theorem bIu {m:Nat} {dead:List Int} {i:Int} (h:aBf m dead) (hi:0<=i∧i<(m:Int)):pK dead i=rQ m dead i true:=by
 refine aR3 (bRy h.1) (aLm m dead i true).1 fun x=> ?_
 rw [aUm]
 constructor
 ·intro hx
  rcases aDx hx with rfl | hx
  ·exact ⟨hi,.inr ⟨rfl,rfl⟩⟩
  ·by_cases e:x=i
   ·subst e;exact ⟨hi,.inr ⟨rfl,rfl⟩⟩
   ·exact ⟨h.2 x hx,.inl ⟨hx,e⟩⟩
 ·rintro ⟨_,⟨hx,_⟩ | ⟨_,rfl⟩⟩
  ·exact aEj hx
  ·exact aHs _ _

theorem bFj {m:Nat} {dead:List Int} {i:Int} (h:aBf m dead):(dead.filter fun x=>x != i)=rQ m dead i false:=by
 refine aR3 (h.1.filter _) (aLm m dead i false).1 fun x=> ?_
 rw [aUm,bZr]
 constructor
 ·rintro ⟨hx,e⟩
  exact ⟨h.2 x hx,.inl ⟨hx,by simpa using e⟩⟩
 ·rintro ⟨_,⟨hx,e⟩ | ⟨e,_⟩⟩
  ·exact ⟨hx,by simpa using e⟩
  ·cases e

theorem bIe {w:den tNw} {i:Nat} {x:den tFy} (hx:(aS w)[i]? =some x) (hl:(aS w).length<=1073741824):nO w (i:Int)=some (bPz x (yN w i)):=by
 have hlt:i<(aS w).length:=(bZf.1 hx).1
 have hx:w.2.2.2.2.2.1[((i:Nat):Int).toNat]? =some x:=by rw [bZi];exact hx
 have h1:decide ((i:Int)<(w.2.2.2.2.2.1.length:Int))=true:=zX (by have :i<w.2.2.2.2.2.1.length:=hlt;omega)
 have e1:wr ((i:Int)+1)=((i+1:Nat):Int):=(wri (by omega) (by omega)).trans (by omega)
 have h2:bR ((i+1:Nat):Int) (w.2.2.2.2.2.1.length:Int) (w.2.2.2.2.2.1.length:Int)=true:=xR (show i+1<=w.2.2.2.2.2.1.length from hlt)
 have h3:bR (0:Int) (i:Int) (w.2.2.2.2.2.1.length:Int)=true:=aF5 (k:=i) (Nat.le_of_lt hlt)
 have hl:w.2.2.2.2.2.1.length<=1073741824:=hl
 unfold nO ixb aI aN bD zz4 zz5 zz6 zz7 zz8 zz9
 simp only [h1,hx,aA,zZ,e1,h2,h3,fF,aCa,List.nil_append,aD (b:=128) (n:=([]:lFy).length) (m:=(w.2.2.2.2.2.1.take i).length) (by decide) (by simp;omega),aD (b:=128) (n:=(w.2.2.2.2.2.1.take i).length) (m:=(w.2.2.2.2.2.1.drop (i+1)).length) (by decide) (by simp;omega),zX (show (0:Int)<=(i:Int) by omega)]
 rfl

theorem bYa {B F:Nat} {w:den tNw} {e:den gC} (hF:F<=1000) (hk:lK B F w) (hB:B+(F+1) * (160+F)<=536870912) (h9:(e.1==(9:Int))=false) (hd:SmB 4294967296 (.sl tb) e.2.2.1) (hp:tot tPk e.2.2.2.2.2<=34359738368) (hdead:aBf (nT w).2.length (aK w)):lV w e=some ((doW w e).1,cB (doW w e).2):=by
 obtain ⟨kd,n,data,to,ing,pk⟩:=e
 simp only at h9 hd hp
 have hB0:B<=536870912:=by have :=bZt ((F+1) * (160+F));omega
 have hB1:B+F * (160+F)<=536870912:=by rw [Nat.succ_mul] at hB;omega
 have l1:w.2.2.2.2.2.1.length<=1073741824:=bBc hk (by omega)
 have l2:w.2.2.2.2.2.2.1.length<=1073741824:=bY8 hk.flows (by omega)
 obtain ⟨n1,n2,n3⟩:=aGi hk (by omega)
 have l3:w.1.2.length<=1073741824:=n1.links
 have l4:w.2.2.2.2.1.length<=1073741824:=by
  have h1:=fA w
  have h2:=eW (t:=ti) (aK w)
  have h3:=hk.tot
  have h4:(aK w).length<=1073741824:=by omega
  exact h4
 have w1:wr ((w.2.2.2.2.2.1.length:Int) - 1)=(w.2.2.2.2.2.1.length:Int) - 1:=jE (by omega)
 have w2:wr ((w.2.2.2.2.2.2.1.length:Int) - 1)=(w.2.2.2.2.2.2.1.length:Int) - 1:=jE (by omega)
 have w3:wr ((w.1.2.length:Int) - 1)=(w.1.2.length:Int) - 1:=jE (by omega)
 have a1:aH 128 w.2.2.2.2.2.1.length 1=true:=aD (by decide) (by omega)
 unfold lV doW ixb aI eE aMx pj2 pj3 pj9 cO aN bD bH cV jM sI xO aBo aDe aC6 aIc aMn aMh aK7 aS0 zz4 zz5 zz6 zz7 zz8 zz9
 simp only [w1,w2,w3,kZ,aA]
 cases c1:(kd==(1:Int)) with
 | true=>
  simp only [zZ]
  rw [show ((w.1,w.2.1,w.2.2.1,w.2.2.2.1,w.2.2.2.2.1,w.2.2.2.2.2.1,w.2.2.2.2.2.2.1,w.2.2.2.2.2.2.2.1,w.2.2.2.2.2.2.2.2):den tNw)=w from rfl,bS0 hF hk hB1]
  rfl
 | false=>
 cases c2:(kd==(2:Int)) with
 | true=>
  have c3:(kd==(3:Int))=false:=by rw [eq_of_beq c2];rfl
  simp only [zY,zZ,aA,c3,bZd,zU,zV]
  cases hin:inR n 0 ((w.2.2.2.2.2.1.length:Int) - 1) with
  | false=>rfl
  | true=>
   obtain ⟨i,x,rfl,hx,_,_⟩:=aHm l1 hin
   have hx:(aS w)[i]? =some x:=hx
   have e1:=bIe (w:=w) hx l1
   have kg:=aFt hk i
   obtain ⟨m1,m2,m3⟩:=aGi kg (by omega)
   have hxm:=bZk hx
   have htx:tot tPk x.2.2<=536870912:=by
    have h1:=xJ (t:=tFy) hxm
    have h2:tot tFy x=tot tPk x.2.2:=by simp [rX,uP]
    have :=fA w
    have :=hk.tot
    omega
   have e2:=bAq (w:=yN w i) (r:=x.1) (inn:=x.2.1) m1 m2 m3 htx (hk.bytes.fly x hxm)
   have e3:Option.bind (bW (yN w i) x.1 x.2.1 x.2.2) (fun y7=>(some (Sum.inl y7):Option ((lFy×lFl×lIb×lAS×lLk×lSg×lSg×Int×lRs×lUs×Int×List Int×Int)⊕(Bool×lFy×lFl×lIb×lAS×lLk×lSg×lSg×Int×lRs×lUs×Int×List Int×Int))))=some (Sum.inl (cB (iQ (yN w i) x.1 x.2.1 x.2.2))):=by rw [e2];rfl
   have hx':w.2.2.2.2.2.1[((i:Nat):Int).toNat]? =some x:=by rw [bZi];exact hx
   simp only [bY9,zY]
   rw [show ((w.1,w.2.1,w.2.2.1,w.2.2.2.1,w.2.2.2.2.1,w.2.2.2.2.2.1,w.2.2.2.2.2.2.1,w.2.2.2.2.2.2.2.1,w.2.2.2.2.2.2.2.2):den tNw)=w from rfl,e1,aA,hx']
   exact congrArg (fun o=>Option.bind o fun z=>Sum.elim (fun s32=>some (true,s32)) some z) e3
 | false=>
 cases c3:(kd==(3:Int)) with
 | true=>
  simp only [zY,zZ,aA,bZd,zU,zV]
  cases hin:inR n 0 ((w.2.2.2.2.2.1.length:Int) - 1) with
  | false=>rfl
  | true=>
   obtain ⟨i,x,rfl,hx,_,_⟩:=aHm l1 hin
   have hx:(aS w)[i]? =some x:=hx
   have e1:=bIe (w:=w) hx l1
   simp only [bY9,zY]
   rw [show ((w.1,w.2.1,w.2.2.1,w.2.2.2.1,w.2.2.2.2.1,w.2.2.2.2.2.1,w.2.2.2.2.2.2.1,w.2.2.2.2.2.2.2.1,w.2.2.2.2.2.2.2.2):den tNw)=w from rfl,e1,aA]
   rfl
 | false=>
 cases c4:(kd==(4:Int)) with
 | true=>
  simp only [zY,zZ,aA,bZd,zU,zV]
  cases hin:inR n 0 ((w.2.2.2.2.2.1.length:Int) - 1) with
  | false=>rfl
  | true=>
   obtain ⟨i,x,rfl,hx,hlt,hz⟩:=aHm l1 hin
   have hx':w.2.2.2.2.2.1[((i:Nat):Int).toNat]? =some x:=by rw [bZi];exact hx
   cases decide ((w.2.2.2.2.2.1.length:Int)>=150) with
   | true=>rfl
   | false=>
    simp only [bY9,bZj,zY,zZ,aA,hlt,hz,hx',a1,cA9]
    rfl
 | false=>
 cases c5:(kd==(5:Int)) with
 | true=>
  simp only [zY,zZ,aA,bZd,zU,zV,Bool.true_or,aMu (l:=w.2.2.2.2.1) (show w.2.2.2.2.1.length<=68719476736 by omega),aK6 (l:=w.2.2.2.2.1) (show w.2.2.2.2.1.length<=4294967296 by omega)]
  unfold yD aEl
  cases hin:inR n 0 ((w.1.2.length:Int) - 1) with
  | false=>
   cases oL (aK w) n<;>rfl
  | true=>
   obtain ⟨g0,g1⟩:=bT.1 hin
   cases hh:oL (aK w) n with
   | true=>
    rfl
   | false=>
    have ef:=bIu (m:=(nT w).2.length) (dead:=aK w) (i:=n) hdead ⟨g0,Int.lt_of_le_of_lt g1 (show ((w.1.2.length:Int) - 1<(w.1.2.length:Int)) by omega)⟩
    have ef:pK w.2.2.2.2.1 n=rQ (nT w).2.length (aK w) n true:=ef
    rw [ef]
    rfl
 | false=>
 cases c6:(kd==(6:Int)) with
 | true=>
  simp only [zY,zZ,aA,bZd,zU,zV,Bool.or_true,aMu (l:=w.2.2.2.2.1) (show w.2.2.2.2.1.length<=68719476736 by omega)]
  unfold yD aEl
  cases hin:inR n 0 ((w.1.2.length:Int) - 1) with
  | false=>
   cases oL (aK w) n<;>rfl
  | true=>
   cases hh:oL (aK w) n with
   | false=>
    rfl
   | true=>
    simp only [bY9,zY,aA]
    have ef:=bFj (m:=(nT w).2.length) (dead:=aK w) (i:=n) hdead
    have ef:(w.2.2.2.2.1.filter fun x=>x != n)=rQ (nT w).2.length (aK w) n false:=ef
    refine bZ (G:=fun o=>Option.bind o (fun z=>Sum.elim (fun s32=>some (true,s32)) some z)=some (true,cB (aF9 w (rQ (nT w).2.length (aK w) n false)))) w.2.2.2.2.1.length (fun s:Int×List Int=>s.1) (fun k s=>s.2.length<=k∧s.2=(w.2.2.2.2.1.take k).filter fun x=>x != n) (fun r:List Int=>r=w.2.2.2.2.1.filter fun x=>x != n) ?_ ?_ 0 ((0:Int),[]) (bZt _) rfl ⟨by simp,by simp⟩ ?_
    ·rintro k ⟨_,l⟩ hk' rfl ⟨g1,g2⟩
     simp only at g1 g2
     right
     have hx:w.2.2.2.2.1[k]? =some w.2.2.2.2.1[k]:=bY7 hk'
     have ht:(w.2.2.2.2.1.take (k+1)).filter (fun x=>x != n)=l++(if w.2.2.2.2.1[k] != n then [w.2.2.2.2.1[k]] else []):=by
      rw [List.take_add_one,hx,List.filter_append,g2]
      congr 1
      show List.filter _ [w.2.2.2.2.1[k]]=_
      rw [List.filter_cons,List.filter_nil]
     simp only [zX (show (k:Int)<(w.2.2.2.2.1.length:Int) by omega),zZ,aG,hx,aA,aD (b:=8) (n:=l.length) (m:=1) (by decide) (by omega),show wr ((k:Int)+1)=((k+1:Nat):Int) from (wri (by omega) (by omega)).trans (by omega)]
     cases hb:(w.2.2.2.2.1[k] != n) with
     | true=>rw [hb,zT rfl] at ht;exact ⟨_,rfl,rfl,by simp;omega,ht.symm⟩
     | false=>rw [hb,zS (by simp),cAf] at ht;exact ⟨_,rfl,rfl,by show l.length<=k+1;omega,ht.symm⟩
    ·rintro ⟨_,l⟩ rfl ⟨g1,g2⟩
     exact ⟨l,by simp only [zW (bZp _),zY],by simpa using g2⟩
    ·rintro r rfl
     rw [ef]
     rfl
 | false=>
 cases c7:(kd==(7:Int)) with
 | true=>
  simp only [zY,zZ,aA,bZd,zU,zV,cAx,aM,aI4 n1.as]
  cases cM w.1 to with
  | false=>rfl
  | true=>
   cases decide ((w.2.2.2.2.2.1.length:Int)>=150) with
   | true=>rfl
   | false=>
    simp only [bY9,bZj,zY,zZ,aA,a1]
    rfl
 | false=>
 cases c8:(kd==(8:Int)) with
 | true=>
  simp only [zY,zZ,aA,bZd,zU,zV,cAx,aV,bJ,aZ,aY,bA]
  cases hin:inR n 0 ((w.2.2.2.2.2.2.1.length:Int) - 1) with
  | false=>rfl
  | true=>
   obtain ⟨i,x,rfl,hx,hlt,hz⟩:=aHm l2 hin
   have hx:(aC w)[i]? =some x:=hx
   have hxm:=bZk hx
   have hx':w.2.2.2.2.2.2.1[((i:Nat):Int).toNat]? =some x:=by rw [bZi];exact hx
   have hfx:tot tFl x<=536870912:=by
    have h1:=xJ (t:=tFl) hxm
    have :=fA w
    have :=hk.tot
    omega
   have e1:=bW0 (f:=x) (b:=data) ((bF hfx).mono (by decide)) hd
   have hlt2:decide (((i:Nat):Int).toNat<w.2.2.2.2.2.2.1.length)=true:=zX (by rw [bZi];exact (bZf.1 hx).1)
   simp only [bY9,zY,zZ,hlt,hz,hx',hlt2,aA]
   rw [show ((x.1,x.2.1,x.2.2.1,x.2.2.2.1,x.2.2.2.2.1,x.2.2.2.2.2.1,x.2.2.2.2.2.2.1,x.2.2.2.2.2.2.2.1,x.2.2.2.2.2.2.2.2):den tFl)=x from rfl,e1,aA]
   unfold aOm aDu
   cases gR (enq x data)<;>rfl
 | false=>
  simp only [h9,zY,zZ,aA,bZd,zU,zV,cAx]
  rfl

theorem bM8 {α:Type} {l:List α} {k:Nat} {x:α} (h:l[k]? =some x):l.set k x=l:=by
 obtain ⟨hk,e⟩:=bZf.1 h
 rw [← e]
 exact List.set_getElem_self hk


theorem bFh {w:den tNw} {e:den gC} (h:(doW w e).1=false):(doW w e).2=w:=by
 unfold doW at h ⊢
 split
 ·rename_i c
  rw [zT c] at h
  show uI w=w
  unfold uI
  have h:(!decide (aQ w>=1000000))=false:=h
  rw [zT (by simpa using h)]
 rename_i c1
 rw [zS c1] at h
 split
 ·rename_i c
  rw [zT c] at h
  split
  ·rename_i x hi hx
   rw [hi,hx] at h
   cases h
  ·rfl
 rename_i c2
 rw [zS c2] at h
 split
 ·rename_i c
  rw [zT c] at h
  split
  ·rename_i hc;rw [zT hc] at h;cases h
  ·rfl
 rename_i c3
 rw [zS c3] at h
 split
 ·rename_i c
  rw [zT c] at h
  split
  ·rename_i x hi hx
   rw [hi,hx] at h
   cases h
  ·rfl
 rename_i c4
 rw [zS c4] at h
 split
 ·rename_i c
  rw [zT c] at h
  show yD w e.2.1 (e.1==5)=w
  unfold yD
  have h:(!aEl w e.2.1 (e.1==5))=false:=h
  rw [zT (by simpa using h)]
 rename_i c5
 rw [zS c5] at h
 split
 ·rename_i c
  rw [zT c] at h
  split
  ·rename_i hc;rw [zT hc] at h;cases h
  ·rfl
 rename_i c6
 rw [zS c6] at h
 split
 ·rename_i c
  rw [zT c] at h
  split
  ·rename_i f hi hf
   rw [hi,hf] at h
   have h:gR (enq f e.2.2.1)=false:=h
   show dG w ((aC w).set e.2.1.toNat (aDu f e.2.2.1))=w
   unfold aDu
   rw [h,zS (by decide),bM8 hf]
   rfl
  ·rfl
 ·rfl

theorem aEk {t:den tTo} {k:Nat} {w:den tNw} (h:xH t k w) (hk:k<=1000):lK 2001000 4 w:=h.run.keep.mono (by omega)

theorem aGf {w:den tNw} {B F:Nat} (h:lK B F w) (hB:B<=1073741824):SmB 68719476736 tNw w:=(bF (bY8 h.tot hB)).mono (by decide)

theorem bAk {w:den tNw} {e:den gC} (he:EvD w e):(e.1==(9:Int))=false:=by
 have h8:=he.hi
 have h9: ¬ (e.1=(9:Int)):=fun h=>by rw [h] at h8;exact absurd h8 (by decide)
 exact beq_eq_false_iff_ne.2 h9

theorem bXi {t:den tTo} {k:Nat} {w:den tNw} {e:den gC} (h:xH t k w) (hk:k<=999) (ht:uL t=true) (hl:t.2.length<=100) (he:EvD w e):qU w e=some (aYv (doW w e).2 (doW w e).1):=by
 have hK:=aEk h (by omega)
 have hv:=h.valid (by omega) ht
 have h':=h.event (by omega) hl he
 have hK':=aEk h' (by omega)
 have e0:=bU7 (w:=w) (bY8 hK.tot (by decide))
 rw [hv] at e0
 have e1:=aSj (aGf hK (by decide))
 have e2:=bYa (w:=w) (e:=e) (by decide) hK (by decide) (bAk he) ⟨by have :=he.data.1;omega,fun x hx=>trivial⟩ (bY8 he.pk.1 (by decide)) (by rw [h.run.top];exact h.dead)
 have e3:=aSj (aGf hK' (by decide))
 obtain ⟨⟨as,ls⟩,⟨dn,co⟩,⟨cap,res,us⟩,now,dead,fly,flows,box,drop⟩:=w
 obtain ⟨kd,en,data,to,ing,k1,k2,k3,k4,k5,k6,k7,k8,k9,k10⟩:=e
 unfold qU aI cO aN bD bH cV zz4 zz5 zz6 zz7 zz8 zz9
 simp only [e0,e1,aA,bY9,zY,aC9,nT,nK,nG,aQ,aK,aS,aC,bO,dD,e2]
 cases hb:(doW ((as,ls),(dn,co),(cap,res,us),now,dead,fly,flows,box,drop) (kd,en,data,to,ing,k1,k2,k3,k4,k5,k6,k7,k8,k9,k10)).1 with
 | false=>
  have :=bFh hb
  rw [this]
  simp only [bZj,zZ,aA]
  rfl
 | true=>
  simp only [bY9,zY]
  generalize (doW ((as,ls),(dn,co),(cap,res,us),now,dead,fly,flows,box,drop) (kd,en,data,to,ing,k1,k2,k3,k4,k5,k6,k7,k8,k9,k10)).2=w' at *
  obtain ⟨⟨as',ls'⟩,⟨dn',co'⟩,⟨cap',res',us'⟩,now',dead',fly',flows',box',drop'⟩:=w'
  simp only [cB,nT,nK,nG,aQ,aK,aS,aC,bO,dD,e3,aA,aC9]
  rfl

theorem aAo {R T:Type} {n:Nat} (hn:n<=1000000) {step:Int→Option (Int⊕R)} {r:R} {k:R→Option T} (h: ∀ i:Nat,i<n→step (i:Int)=some (.inl ((i+1:Nat):Int))) (he:step (n:Int)=some (.inr r)):Option.bind (aB step (0:Int)) k=k r:=by
 refine bZ (G:=fun o=>o=k r) n (fun s:Int=>s) (fun _ _=>True) (fun x=>x=r) ?_ ?_ 0 (0:Int) (bZt _) rfl trivial (fun x hx=>by rw [hx])
 ·rintro i _ hi rfl _
  exact .inr ⟨_,h i hi,rfl,trivial⟩
 ·rintro _ rfl _
  exact ⟨r,he,rfl⟩

theorem bIf {t:den tTo} (h1:t.1.length<=1000000) (h2:t.2.length<=1000000):sG t t=some true:=by
 unfold sG zz4
 simp only [bne_self_eq_false,zY,aA]
 rw [aAo h1 (r:= .inl ()) (fun i hi=>by
  simp only [zX (show (i:Int)<(t.1.length:Int) by omega),zZ,aG,bY7 hi,aA,beq_self_eq_true,cA9,bY9,zY,aW (show i<=1000000000 by omega)]) (by simp only [zW (bZp _),zY])]
 simp only [cAc]
 rw [aAo h2 (r:= .inl ()) (fun i hi=>by
  simp only [zX (show (i:Int)<(t.2.length:Int) by omega),zZ,aG,bY7 hi,aA,beq_self_eq_true,cA9,bY9,zY,aW (show i<=1000000000 by omega)]) (by simp only [zW (bZp _),zY])]
 rfl

theorem bMj {s:den tSg} (h:s.2.2.length<=1000000):xW s s=some true:=by
 obtain ⟨v,e,k⟩:=aVx (a:=s.2.2) (b:=s.2.2) h
 unfold xW
 simp only [beq_self_eq_true,zZ,e,k rfl,aA]

theorem aUr {l:lSg} (h:l.length<=1000000) (hs: ∀ s∈l,s.2.2.length<=1000000):sL l l=some true:=by
 unfold sL pj3
 simp only [bne_self_eq_false,zY]
 rw [aAo h (r:= .inl ()) (fun i hi=>by
  simp only [zX (show (i:Int)<(l.length:Int) by omega),zZ,aG,bY7 hi,aA,aM,bMj (hs _ (bZl hi)),bY9,zY,aW (show i<=1000000000 by omega)]) (by simp only [zW (bZp _),zY])]
 rfl

theorem bGj {l:List Int} (h:l.length<=1000000):sF l l=some true:=by
 unfold sF
 simp only [bne_self_eq_false,zY]
 rw [aAo h (r:= .inl ()) (fun i hi=>by
  simp only [zX (show (i:Int)<(l.length:Int) by omega),zZ,aG,bY7 hi,aA,bne_self_eq_false,zY,aW (show i<=1000000000 by omega)]) (by simp only [zW (bZp _),zY])]
 rfl

theorem bDn {w:den tNw} (h:tot tNw w<=1000000):nW w w=some true:=by
 have sw:=bF h
 obtain ⟨hT,hK,hG,_,hD,hY,hF,hX,_⟩:=sw
 have l5:w.2.2.2.2.2.1.length<=1000000:=hY.1
 have l6:w.2.2.2.2.2.2.1.length<=1000000:=hF.1
 have l7:w.2.2.2.2.2.2.2.1.length<=1000000:=hX.1
 have e1:sG w.1 w.1=some true:=bIf hT.1.1 hT.2.1
 have e2:uX w.2.1 w.2.1=some true:=by
  unfold uX
  simp only [aUr hK.1.1 (fun s hs=>(hK.1.2 s hs).2.2.1),aUr hK.2.1 (fun s hs=>(hK.2.2 s hs).2.2.1),aA,zZ]
 have e3:qI w.2.2.1 w.2.2.1=some true:=bH4 (bY8 hG.2.1.1 (by decide)) (bY8 hG.2.2.1 (by decide))
 have e4:sF w.2.2.2.2.1 w.2.2.2.2.1=some true:=bGj hD.1
 unfold nW aI pj2 pj3 pj4 pj9 zz4 zz5 zz6 zz7 zz8
 simp only [aM,e1,e2,e3,e4,aA,bY9,zY,bne_self_eq_false]
 rw [aAo l5 (r:= .inl ()) (fun i hi=>by
  obtain ⟨v,e,k⟩:=bS1 (a:=w.2.2.2.2.2.1[i].2.2) (b:=w.2.2.2.2.2.1[i].2.2) (hY.2 _ (bZl hi)).2.2
  simp only [zX (show (i:Int)<(w.2.2.2.2.2.1.length:Int) by omega),zZ,aG,bY7 hi,aA,bne_self_eq_false,zY,aM,e,k rfl,bY9,aW (show i<=1000000000 by omega)]) (by simp only [zW (bZp _),zY])]
 simp only [cAc]
 rw [aAo l6 (r:= .inl ()) (fun i hi=>by
  obtain ⟨v,e,k⟩:=bJw (a:=w.2.2.2.2.2.2.1[i]) (b:=w.2.2.2.2.2.2.1[i]) (hF.2 _ (bZl hi))
  simp only [zX (show (i:Int)<(w.2.2.2.2.2.2.1.length:Int) by omega),zZ,aG,bY7 hi,aA,aM,e,k rfl,bY9,zY,aW (show i<=1000000000 by omega)]) (by simp only [zW (bZp _),zY])]
 simp only [cAc]
 rw [aAo l7 (r:= .inl ()) (fun i hi=>by
  have hx:=hX.2 _ (bZl hi)
  obtain ⟨v,e,k⟩:=bSb (a:=w.2.2.2.2.2.2.2.1[i]) (b:=w.2.2.2.2.2.2.2.1[i]) hx.2.2.2.1 (fun m hm=>(hx.2.2.2.2 m hm).1)
  simp only [zX (show (i:Int)<(w.2.2.2.2.2.2.2.1.length:Int) by omega),zZ,aG,bY7 hi,aA,aM,e,k rfl,bY9,zY,aW (show i<=1000000000 by omega)]) (by simp only [zW (bZp _),zY])]
 rfl

theorem bU1 {code:List Int} (hl:code.length<=1048576) {i:Int} (h:0<=i∧i<=1000) (hw: ∀ x∈code,0<=x∧x<=255): ∃ v,aKj code i=some v∧0<=v:=by
 obtain ⟨m,rfl⟩:=bZ1 h.1
 unfold aKj
 by_cases hm:m<code.length
 ·have hx:=hw code[m] (bZl hm)
  refine ⟨code[m],?_,hx.1⟩
  rw [zX (by omega),zZ,aG,bY7 hm,aA,bN (by omega) (by omega)]
 ·rw [zW (by omega),zY,bN (n:=(m:Int) * 31) (by omega) (by omega),bN (n:=(code.length:Int) * 7) (by omega) (by omega),bN (by omega) (by omega)]
  exact ⟨_,rfl,Int.tmod_nonneg _ (by omega)⟩

def bE0 (w:den tNw) (b:Bool):lAS×lLk×lSg×lSg×Int×lRs×lUs×Int×lI×Int×Bool×lFy×lFl×lIb:=
 ((nT w).1,(nT w).2,(nK w).1,(nK w).2,(nG w).1,(nG w).2.1,(nG w).2.2,aQ w,aK w,dD w,b,aS w,aC w,bO w)

theorem bO4 {t:den tTo} {k:Nat} {w:den tNw} {e:den gC} (h:xH t k w) (hk:k<=999) (ht:uL t=true) (hl:t.2.length<=100) (he:EvD w e):mG w e=some (bE0 (doW w e).2 (doW w e).1):=by
 have hK:=aEk h (by omega)
 have hv:=h.valid (by omega) ht
 have e0:=bTz (w:=w) (bY8 hK.tot (by decide))
 rw [hv] at e0
 have e1:=aI6 (aGf hK (by decide))
 have e2:=bT5 (w:=w) (e:=e) (by decide) hK (by decide) (bAk he) ⟨by have :=he.data.1;omega,fun x hx=>trivial⟩ (bY8 he.pk.1 (by decide))
 obtain ⟨⟨as,ls⟩,⟨dn,co⟩,⟨cap,res,us⟩,now,dead,fly,flows,box,drop⟩:=w
 obtain ⟨kd,en,data,to,ing,k1,k2,k3,k4,k5,k6,k7,k8,k9,k10⟩:=e
 unfold mG aI pj3 cO aN bD bH cV zz4 zz5 zz6 zz7 zz8 zz9
 simp only [e0,e1,aA,bY9,zY,aC9,nT,nK,nG,aQ,aK,aS,aC,bO,dD,e2]
 cases hb:(doW ((as,ls),(dn,co),(cap,res,us),now,dead,fly,flows,box,drop) (kd,en,data,to,ing,k1,k2,k3,k4,k5,k6,k7,k8,k9,k10)).1 with
 | false=>
  have :=bFh hb
  rw [this]
  simp only [bZj,zZ,aA,e1,aC9,nT,nK,nG,aQ,aK,aS,aC,bO,dD]
  rfl
 | true=>
  simp only [bY9,zY]
  rfl

def tS:den tNw→fM→den tNw
 | w,[]=>w
 | w,e::l=>tS (doW w e).2 l

def xG:den tNw→fM→Nat
 | _,[]=>0
 | w,e::l=>cond (doW w e).1 1 0+xG (doW w e).2 l

def zQ:den tNw→fM→Prop
 | _,[]=>True
 | w,e::l=>EvD w e∧zQ (doW w e).2 l

theorem aOv: ∀ (a b:fM) (w:den tNw),tS w (a++b)=tS (tS w a) b
 | [],_,_=>rfl
 | e::a,b,w=>aOv a b (doW w e).2

theorem aWw: ∀ (a b:fM) (w:den tNw),xG w (a++b)=xG w a+xG (tS w a) b
 | [],_,_=>(bZ3 _).symm
 | e::a,b,w=>by
  show cond (doW w e).1 1 0+xG (doW w e).2 (a++b)=_
  rw [aWw a b,← Nat.add_assoc];rfl

theorem aOn: ∀ (a b:fM) (w:den tNw),zQ w (a++b)↔zQ w a∧zQ (tS w a) b
 | [],_,_=>⟨fun h=>⟨trivial,h⟩,fun h=>h.2⟩
 | e::a,b,w=>by
  show EvD w e∧zQ (doW w e).2 (a++b)↔(EvD w e∧zQ (doW w e).2 a)∧_
  rw [aOn a b,and_assoc];rfl

theorem aS7: ∀ (l:fM) (w:den tNw),xG w l<=l.length
 | [],_=>bZq _
 | e::l,w=>by
  have :=aS7 l (doW w e).2
  show cond (doW w e).1 1 0+xG (doW w e).2 l<=l.length+1
  cases (doW w e).1<;>simp<;>omega

theorem Ran.evs {v w:den tNw} {l:fM} (h:Ran v l w):zQ v l∧w=tS v l:=by
 induction h with
 | nil=>exact ⟨trivial,rfl⟩
 | @snoc l w e h he ih=>
  obtain ⟨h1,rfl⟩:=ih
  exact ⟨(aOn _ _ _).2 ⟨h1,he,trivial⟩,by rw [aOv];rfl⟩

theorem zQ.runV {t:den tTo} (ht:t.2.length<=100): ∀ {l:fM} {k:Nat} {w:den tNw},xH t k w→zQ w l→k+l.length<=1000→xH t (k+l.length) (tS w l)
 | [],_,_,h,_,_=>h
 | e::l,k,w,h,hd,hk=>by
  have hk:k+(l.length+1)<=1000:=hk
  have :=zQ.runV ht (h.event (by omega) ht hd.1) hd.2 (by omega:k+1+l.length<=1000)
  have hn:k+(l.length+1)=k+1+l.length:=by omega
  show xH t (k+(l.length+1)) _
  rw [hn];exact this

theorem aKt {S R:Type} {step:S→Option (S⊕R)} (enc:Nat→Nat→den tNw→S) (out:Nat→den tNw→R) (aAa:fM) {t:den tTo} (h1:t.2.length<=100)
  (hs: ∀ k c i w e,xH t k w→k<=999→aAa[i]? =some e→EvD w e→i<aAa.length→c<=i→step (enc c i w)=some (.inl (enc (c+cond (doW w e).1 1 0) (i+1) (doW w e).2)))
  (he: ∀ c w,step (enc c aAa.length w)=some (.inr (out c w))): ∀ (l done:fM) (c k:Nat) (w:den tNw),aAa=done++l→c<=done.length→xH t k w→zQ w l→k+l.length<=999→aB step (enc c done.length w)=some (out (c+xG w l) (tS w l))
 | [],done,c,k,w,hf,hc,h,hd,hk=>by
  refine bY ?_
  have :aAa.length=done.length:=by rw [hf,cAf]
  have e:=he c w
  rw [this] at e
  exact e
 | e::l,done,c,k,w,hf,hc,h,hd,hk=>by
  have hk:k+(l.length+1)<=999:=hk
  have hx:aAa[done.length]? =some e:=by rw [hf];simp
  have hlt:done.length<aAa.length:=by rw [hf];simp
  rw [dT (hs k c done.length w e h (by omega) hx hd.1 hlt hc)]
  have :=aKt enc out aAa h1 hs he l (done++[e]) (c+cond (doW w e).1 1 0) (k+1) (doW w e).2 (by rw [hf];simp) (by rw [bZ5];show _<=_+1;cases (doW w e).1<;>simp<;>omega) (h.event (by omega) h1 hd.1) hd.2 (by omega)
  rw [bZ5] at this
  rw [show done.length+[e].length=done.length+1 from rfl] at this
  rw [this,Nat.add_assoc]
  rfl

def bYt (c:Nat) (w:den tNw):Int×q4:=
 ((nG w).1,aQ w,dD w,(c:Int),(nT w).1,(nT w).2,(nK w).1,(nK w).2,(nG w).2.1,(nG w).2.2,aK w,aS w,aC w,bO w)

theorem bFw {t:den tTo} (h1:t.2.length<=100) (ht:uL t=true) {k:Nat} {w:den tNw} {l:fM} (h:xH t k w) (hd:zQ w l) (hk:k+l.length<=400):aEs w l=some (bYt (xG w l) (tS w l)):=by
 have e1:=aSj (aGf (aEk h (by omega)) (by decide))
 have key:=fun step hs he=>aKt (step:=step) (fun c i w=>((c:Int),(i:Int),aC9 w)) (fun c w=>((c:Int),aC9 w)) l h1 hs he l [] 0 k w rfl (bZq _) h hd (by omega)
 unfold aEs aI eE cO aN bD bH cV jM zz4 zz5 zz6 zz7 zz8 zz9
 rw [show ((w.1.1,w.1.2),(w.2.1.1,w.2.1.2),(w.2.2.1.1,w.2.2.1.2.1,w.2.2.1.2.2),w.2.2.2.1,w.2.2.2.2.1,w.2.2.2.2.2.1,w.2.2.2.2.2.2.1,w.2.2.2.2.2.2.2.1,w.2.2.2.2.2.2.2.2)=w from rfl,e1,aA]
 refine (congrArg (fun o=>Option.bind o _) (key _ ?_ ?_)).trans ?_
 ·intro k c i w e hr hk' hx he hi hc
  have e2:=bXi hr hk' ht h1 he
  obtain ⟨⟨as,ls⟩,⟨dn,co⟩,⟨cap,res,us⟩,now,dead,fly,flows,box,drop⟩:=w
  obtain ⟨kd,en,data,to,ing,k1,k2,k3,k4,k5,k6,k7,k8,k9,k10⟩:=e
  simp only [aC9,nT,nK,nG,aQ,aK,aS,aC,bO,dD,aG,hx,aA,aV,bJ,aZ,aY,bA,zX (show (i:Int)<(l.length:Int) by omega),zX (show (i:Int)<(400:Int) by omega),zZ,e2,aYv]
  rw [aW (by omega),aW (by omega)]
  cases (doW ((as,ls),(dn,co),(cap,res,us),now,dead,fly,flows,box,drop) (kd,en,data,to,ing,k1,k2,k3,k4,k5,k6,k7,k8,k9,k10)).1<;>rfl
 ·intro c w
  simp only [zW (bZp _),zY,aA,aC9]
 ·rw [bZ3];rfl

theorem aWo {t:den tTo} (h1:t.2.length<=100) (ht:uL t=true) {k:Nat} {w:den tNw} {l:fM} (h:xH t k w) (hd:zQ w l) (hk:k+l.length<=400):nR w l=some (aC9 (tS w l)):=by
 have e:=bFw h1 ht h hd hk
 unfold nR aI cO zz4
 rw [show ((w.1.1,w.1.2),(w.2.1.1,w.2.1.2),(w.2.2.1.1,w.2.2.1.2.1,w.2.2.1.2.2),w.2.2.2.1,w.2.2.2.2.1,w.2.2.2.2.2.1,w.2.2.2.2.2.2.1,w.2.2.2.2.2.2.2.1,w.2.2.2.2.2.2.2.2)=w from rfl,e]
 rfl

theorem aV1 {t:den tTo} (h1:t.2.length<=100) (ht:uL t=true) {k:Nat} {w:den tNw} {l:fM} (h:xH t k w) (hd:zQ w l) (hk:k+l.length<=400):gZ w l=some (xG w l:Int):=by
 have e:=bFw h1 ht h hd hk
 unfold gZ cO
 rw [show ((w.1.1,w.1.2),(w.2.1.1,w.2.1.2),(w.2.2.1.1,w.2.2.1.2.1,w.2.2.1.2.2),w.2.2.2.1,w.2.2.2.2.1,w.2.2.2.2.2.1,w.2.2.2.2.2.2.1,w.2.2.2.2.2.2.2.1,w.2.2.2.2.2.2.2.2)=w from rfl,e]
 rfl

theorem bT1 {t:den tTo} (h1:t.2.length<=100) (ht:uL t=true) {k:Nat} {w:den tNw} {l:fM} (h:xH t k w) (hd:zQ w l) (hk:k+l.length<=400):tL w l=some (aLk (tS w l)):=by
 have e1:=aI6 (aGf (aEk h (by omega)) (by decide))
 have key:=fun step hs he=>aKt (step:=step) (fun c i w=>((i:Int),aLk w)) (fun c w=>aLk w) l h1 hs he l [] 0 k w rfl (bZq _) h hd (by omega)
 unfold tL aI eE pj3 cO aN bD bH cV zz4 zz5 zz6 zz7 zz8 zz9
 rw [show ((w.1.1,w.1.2),(w.2.1.1,w.2.1.2),(w.2.2.1.1,w.2.2.1.2.1,w.2.2.1.2.2),w.2.2.2.1,w.2.2.2.2.1,w.2.2.2.2.2.1,w.2.2.2.2.2.2.1,w.2.2.2.2.2.2.2.1,w.2.2.2.2.2.2.2.2)=w from rfl,e1,aA]
 refine (congrArg (fun o=>Option.bind o _) (key _ ?_ ?_)).trans ?_
 ·intro k c i w e hr hk' hx he hi hc
  have e2:=bO4 hr hk' ht h1 he
  obtain ⟨⟨as,ls⟩,⟨dn,co⟩,⟨cap,res,us⟩,now,dead,fly,flows,box,drop⟩:=w
  obtain ⟨kd,en,data,to,ing,k1,k2,k3,k4,k5,k6,k7,k8,k9,k10⟩:=e
  simp only [aLk,nT,nK,nG,aQ,aK,aS,aC,bO,dD,aG,hx,aA,aV,bJ,aZ,aY,bA,zX (show (i:Int)<(l.length:Int) by omega),zX (show (i:Int)<(400:Int) by omega),zZ,e2,bE0]
  rw [aW (by omega)]
 ·intro c w
  simp only [zW (bZp _),zY,aA,aLk]
 ·rfl

theorem bUt {t:den tTo} (h1:t.2.length<=100) (ht:uL t=true) {k:Nat} {w:den tNw} {l:fM} (h:xH t k w) (hd:zQ w l) (hk:k+l.length<=400):nL w l=some (xG w l:Int):=by
 have e1:=aI6 (aGf (aEk h (by omega)) (by decide))
 have key:=fun step hs he=>aKt (step:=step) (fun c i w=>((c:Int),(i:Int),aLk w)) (fun c w=>(c:Int)) l h1 hs he l [] 0 k w rfl (bZq _) h hd (by omega)
 unfold nL aI eE pj3 cO aN bD bH cV jM zz4 zz5 zz6 zz7 zz8 zz9
 rw [show ((w.1.1,w.1.2),(w.2.1.1,w.2.1.2),(w.2.2.1.1,w.2.2.1.2.1,w.2.2.1.2.2),w.2.2.2.1,w.2.2.2.2.1,w.2.2.2.2.2.1,w.2.2.2.2.2.2.1,w.2.2.2.2.2.2.2.1,w.2.2.2.2.2.2.2.2)=w from rfl,e1,aA]
 refine (congrArg (fun o=>Option.bind o _) (key _ ?_ ?_)).trans ?_
 ·intro k c i w e hr hk' hx he hi hc
  have e2:=bO4 hr hk' ht h1 he
  obtain ⟨⟨as,ls⟩,⟨dn,co⟩,⟨cap,res,us⟩,now,dead,fly,flows,box,drop⟩:=w
  obtain ⟨kd,en,data,to,ing,k1,k2,k3,k4,k5,k6,k7,k8,k9,k10⟩:=e
  simp only [aLk,nT,nK,nG,aQ,aK,aS,aC,bO,dD,aG,hx,aA,aV,bJ,aZ,aY,bA,zX (show (i:Int)<(l.length:Int) by omega),zX (show (i:Int)<(400:Int) by omega),zZ,e2,bE0]
  rw [aW (by omega),aW (by omega)]
  cases (doW ((as,ls),(dn,co),(cap,res,us),now,dead,fly,flows,box,drop) (kd,en,data,to,ing,k1,k2,k3,k4,k5,k6,k7,k8,k9,k10)).1<;>rfl
 ·intro c w
  simp only [zW (bZp _),zY,aA]
 ·rw [bZ3];rfl

end Go.Proofs.YtecighmpdcffcaaGreat
