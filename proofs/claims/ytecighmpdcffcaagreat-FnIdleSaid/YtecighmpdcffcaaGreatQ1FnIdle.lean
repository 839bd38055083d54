/-
  Facts and plain laws: what the functions compute, in plain words. Conditions: as each says.
-/
import Derived.Test.YtecighmpdcffcaaGreatQ0FnIdle
open List renaming map_cons→bW7,length_cons→bXo,length→bW0,mem_append→bWv,mem_singleton→bWt,mem_map→bWq,mem_of_getElem?→bWx,length_set→bYh,mem_or_eq_of_mem_set→bZb,length_filter_le→bZd,getElem?_eq_getElem→bWk,getElem_mem→bWy,getElem?_cons_zero→bZc,mem_cons→bWp,pairwise_iff_getElem→bYf,getElem?_eq_some_iff→bWs,mem_cons_of_mem→bWz,filter_cons→bZk,mem_iff_getElem?→bZw,mem_filter→bW2,length_append→bXh,length_singleton→bX4,pairwise_append→bZx,getElem?_set_self→bZl,mem_of_mem_take→bX2,mem_of_mem_drop→bX7,not_mem_nil→bW9,take_append_drop→bX8,all_eq_true→bXb,getElem?_take→bXx,length_take→bXv,length_drop→bYq,append_nil→bXs,drop_eq_getElem_cons→bZt,length_map→bXr,length_nil→bYy,map_append→bZa,getLast?_concat→bY6,dropLast_concat→bZv
open Nat renaming le_refl→bW3,le_trans→bWl,succ_mul→bXk,mul_le_mul_right→bXy,zero_add→bXl,le_of_ble_eq_true→bZj,zero_le→bW4
open Int renaming toNat_natCast→bWu,eq_ofNat_of_zero_le→bXe,le_refl→bYd,lt_irrefl→bW1
open Bool renaming and_eq_true→bWm,not_eq_true'→bXn,or_eq_true→bXz,false_eq_true→bWr,not_true→bWo,or_self→bX9,not_false→bWw,or_true→bYk
open Sum renaming inl→bWj,inr→bWi,elim_inl→bXp
open Array renaming length_toList→bY9
open Option renaming map_eq_some_iff→bXf
set_option linter.unusedVariables false
set_option linter.unusedSimpArgs false
set_option maxRecDepth 100000
namespace Go.Proofs.YtecighmpdcffcaaGreat
open Go.Ab Go.V
theorem bRr {w:den tNw} (h:tot tNw w<=1073741824):(bL w).length<=68719476736∧ ∀ x∈bL w,tot tIb x<=1073741824:=
 ⟨by have :=eM w;have :=eI (t:=tIb) (bL w);omega,fun x hx=>by have :=eM w;have :=vW (t:=tIb) hx;omega⟩

theorem aC6 (w:den tNw):tot tNw (wT w)=tot tNw w:=rfl

theorem aY1 (l:List (den tUs)):tot (.sl tUs) l=l.length:=jG rfl

theorem bDs (g:den tSc) (id s d now:Int):tot (.sl tRs) (rC g id s d now).2.2.1=tot (.sl tRs) g.2.1∧tot (.sl tUs) (rC g id s d now).2.2.2<=tot (.sl tUs) g.2.2+1:=by
 have m1:=aSr g.2.2 id s d
 have m2:=aSr g.2.2 0 s d
 rw [aY1,aY1]
 unfold rC
 split
 ·exact ⟨rfl,by simpa using m1⟩
 ·split
  ·exact ⟨rfl,by simpa using m2⟩
  ·exact ⟨rfl,by simp⟩

theorem aR7 (w:den tNw) (r eg:Int) (p:den tPk):tot tNw (rK w r eg p)<=tot tNw w+(2+tot tPk p):=by
 unfold rK
 split
 ·obtain ⟨e1,e2⟩:=bDs (nG w) p.2.2.2.2.2.2.2.1 r eg (aR w)
  rw [eM,eM w]
  simp only [nT,nK,nG,aK,aN,aC,bL] at e1 e2 ⊢
  rw [sH,aEq]
  have e3:tot tFy ((remote w.1 r eg).1,(remote w.1 r eg).2,p)=tot tPk p:=by simp [qW,tL]
  rw [e3]
  omega
 ·rw [aC6];omega

theorem bEj (f:den tFl) (p:den tPk):tot tFl (uU f p)=tot tFl f:=by
 unfold uU
 split<;>rfl

theorem bDc (r:Int) (p:den tPk) (f:den tFl):tot tFl (qN r p f)<=tot tFl f+1:=by
 unfold qN
 split
 ·split
  ·rw [bEj];omega
  ·exact bFn f p
 ·omega

theorem aZb (r:Int) (p:den tPk): ∀ l:List (den tFl),tot (.sl tFl) (l.map (qN r p))<=tot (.sl tFl) l+l.length
 | []=>by simp
 | f::l=>by
  have h1:=bDc r p f
  have h2:=aZb r p l
  rw [bW7,kM,kM,bXo]
  omega

theorem aE6 (w:den tNw) (l:List (den tFl)):tot tNw (cT w l)=(tot (.sl tAS) (nT w).1+tot (.sl tLk) (nT w).2)+((tot (.sl tSg) (nK w).1+tot (.sl tSg) (nK w).2)+((0+(tot (.sl tRs) (nG w).2.1+tot (.sl tUs) (nG w).2.2))+(0+(tot (.sl ti) (aK w)+(tot (.sl tFy) (aN w)+(tot (.sl tFl) l+(tot (.sl tIb) (bL w)+0))))))):=rfl

theorem bAj (w:den tNw) (k:Nat) (x:den tIb):tot tNw (sO w k x)=(tot (.sl tAS) (nT w).1+tot (.sl tLk) (nT w).2)+((tot (.sl tSg) (nK w).1+tot (.sl tSg) (nK w).2)+((0+(tot (.sl tRs) (nG w).2.1+tot (.sl tUs) (nG w).2.2))+(0+(tot (.sl ti) (aK w)+(tot (.sl tFy) (aN w)+(tot (.sl tFl) (aC w)+(tot (.sl tIb) ((bL w).set k x)+0))))))):=rfl

theorem aJ1 (w:den tNw) (r:Int) (p:den tPk):tot tNw (vR w r p)<=tot tNw w+(aC w).length:=by
 have h:=aZb r p (aC w)
 unfold vR
 rw [aE6,eM w]
 omega

theorem aR0 (w:den tNw) (r inn:Int) (p:den tPk):tot tNw (proc0 w r inn p)<=tot tNw w+(2+tot tPk p+(aC w).length):=by
 unfold proc0
 split
 ·have :=aR7 w r (cD (nT w) (aR w) (aK w) r inn p).2.1 (cD (nT w) (aR w) (aK w) r inn p).2.2.1
  have e:tot tPk (cD (nT w) (aR w) (aK w) r inn p).2.2.1=tot tPk p:=aLp _ _ _ _ _ _
  omega
 ·split
  ·have :=aJ1 w r (cD (nT w) (aR w) (aK w) r inn p).2.2.1
   omega
  ·rw [aC6];omega

theorem aQa {t:Ty} {l:List (den t)} {k:Nat} {x y:den t} (h:l[k]? =some x):tot (.sl t) (l.set k y)+tot t x=tot (.sl t) l+tot t y:=by
 induction l generalizing k with
 | nil=>cases h
 | cons z l ih=>
  cases k with
  | zero=>
   have :z=x:=by simpa using h
   subst this
   rw [List.set_cons_zero,kM,kM];omega
  | succ k=>
   have :=ih (k:=k) (by simpa using h)
   rw [List.set_cons_succ,kM,kM];omega

theorem bE1 (x:den tIb) (p:den tPk):tot tIb (dV x p)<=tot tIb x+(1+tot tPk p):=by
 have h1:=bGa x p
 have h2:=(aLt (p:=p) (bW3 _)).2
 have e: ∀ y:den tIb,tot tIb y=tot (.sl tMs) y.2.2.2:=fun y=>by simp [qW,tL]
 rw [e,e]
 omega

theorem bG0 (w:den tNw) (r:Int) (p:den tPk):tot tNw (aAl w r p)<=tot tNw w+(3+2 * tot tPk p+(aC w).length):=by
 unfold aAl
 split
 ·omega
 ·rcases aH2 (bL w) r p.2.1 with hf | ⟨k,x,hf,hx⟩
  ·rename_i hc;rw [hf] at hc;exact absurd (by decide) hc
  ·have hba:yD w k=x:=by unfold yD;rw [hx];rfl
   rw [hf,bWu,hba]
   have h1:=aQa (t:=tIb) (y:=dV x p) hx
   have h2:=bE1 x p
   have h3:tot tNw (sO w k (dV x p))<=tot tNw w+(1+tot tPk p):=by
    rw [bAj,eM w]
    omega
   split
   ·have h4:=aR0 (sO w k (dV x p)) r 0 (nA (dV x p) p)
    have h5:=aSq (dV x p) p
    have h6:(aC (sO w k (dV x p))).length=(aC w).length:=rfl
    omega
   ·omega

theorem bFs (w:den tNw) (r d:Int) (p:den tPk):tot tNw (aC5 w r d p)<=tot tNw w+(20+tot tPk p+(aC w).length):=by
 unfold aC5
 rw [aC6]
 split
 ·have h1:=aR0 w r 0 (bY r (aR w) d p)
  have h2:=aR6 r (aR w) d p
  omega
 ·have :=aJ1 w r (bY r (aR w) d p)
  omega

theorem bGt (w:den tNw) (r inn:Int) (p:den tPk):tot tNw (fU w r inn p)<=tot tNw w+(20+2 * tot tPk p+(aC w).length):=by
 have e:tot tPk (cD (nT w) (aR w) (aK w) r inn p).2.2.1=tot tPk p:=aLp _ _ _ _ _ _
 unfold fU
 split
 ·have :=aR7 w r (cD (nT w) (aR w) (aK w) r inn p).2.1 (cD (nT w) (aR w) (aK w) r inn p).2.2.1
  omega
 ·split
  ·split
   ·have :=bG0 w r (cD (nT w) (aR w) (aK w) r inn p).2.2.1
    omega
   ·have :=aJ1 w r (cD (nT w) (aR w) (aK w) r inn p).2.2.1
    omega
  ·split
   ·have :=bFs w r (cD (nT w) (aR w) (aK w) r inn p).2.2.2 p
    omega
   ·rw [aC6];omega

theorem bEi {p:den tPp} (h:zI p=true):tot tPp p<=8:=by
 unfold zI aD1 at h
 simp only [bWm,decide_eq_true_eq] at h
 have e:tot tPp p=tot (.sl aL) p.2.2.2:=by simp [qW,tL]
 rw [e,jG rfl]
 exact h.2.2.2.1

theorem bKz {p:den tPt} (h:aFl p=true):tot tPt p<=27:=by
 unfold aFl at h
 rw [bWm,decide_eq_true_eq] at h
 have key: ∀ l:List (den tPp),l.all zI=true→tot (.sl tPp) l<=9 * l.length:=by
  intro l
  induction l with
  | nil=>intro _;exact bW3 _
  | cons x l ih=>
   intro hl
   rw [List.all_cons,bWm] at hl
   have h1:=bEi hl.1
   have h2:=ih hl.2
   rw [kM,bXo]
   omega
 have :=key p h.2
 have h1:bW0 p<=3:=h.1
 show tot (.sl tPp) p<=27
 omega

theorem aO5 {p:den tPk} (h:fD p=true):tot tPk p<=67:=by
 have h':=h
 unfold fD at h'
 simp only [bWm,decide_eq_true_eq] at h'
 have h1:=bKz h'.2.1
 have h2:p.2.2.2.2.2.2.2.2.2.length<=40:=by have :=h'.2.2.2.2.2.2.2.2.2;omega
 have e:tot tPk p=tot tPt p.2.2.2.1+tot (.sl tb) p.2.2.2.2.2.2.2.2.2:=by simp [qW,tL]
 rw [e,jG (t:=tb) rfl]
 omega

theorem aK5 {w:den tNw} {r inn:Int} {p:den tPk} (h:fD p=false):fU w r inn p=wT w:=by
 have hv:cD (nT w) (aR w) (aK w) r inn p=(2,0,p,0):=by
  unfold cD fwd
  rw [h];rfl
 unfold fU
 rw [hv]
 rfl

theorem aN8 (w:den tNw) (r inn:Int) (p:den tPk):tot tNw (fU w r inn p)<=tot tNw w+(160+(aC w).length):=by
 cases h:fD p with
 | true=>
  have h1:=bGt w r inn p
  have h2:=aO5 h
  omega
 | false=>rw [aK5 h,aC6];omega


structure vY (w:den tNw):Prop where
 fly: ∀ x∈aN w,fN x.2.2
 msg: ∀ f∈aC w,∀ m∈f.2.2.2.2.1,sR m

theorem aPk {w:den tNw} (h:vY w) {r eg:Int} {p:den tPk} (hp:fN p):vY (rK w r eg p)∧(aC (rK w r eg p)).length=(aC w).length:=by
 unfold rK
 split
 ·refine ⟨⟨fun x hx=> ?_,h.msg⟩,rfl⟩
  rcases bWv.1 (show x∈aN w++_ from hx) with hx | hx
  ·exact h.fly x hx
  ·have :x=_:=bWt.1 hx
   subst this
   exact hp
 ·exact ⟨⟨h.fly,h.msg⟩,rfl⟩

theorem bGw (r:Int) (p:den tPk) (f:den tFl):(qN r p f).2.2.2.2.1=f.2.2.2.2.1:=by
 unfold qN
 split
 ·split
  ·exact (aWz f p).1
  ·unfold yB
   cases p.1==3&&(vZ p.2.2.2.2.2.2.2.2.2).2.2.2<;>rfl
 ·rfl

theorem aIo {w:den tNw} (h:vY w) (r:Int) (p:den tPk):vY (vR w r p)∧(aC (vR w r p)).length=(aC w).length:=by
 refine ⟨⟨h.fly,fun f hf m hm=> ?_⟩,by show ((aC w).map _).length=_;simp⟩
 obtain ⟨g,hg,rfl⟩:=bWq.1 (show f∈(aC w).map (qN r p) from hf)
 rw [bGw] at hm
 exact h.msg g hg m hm

theorem aD7 {w:den tNw} (h:vY w):vY (wT w)∧(aC (wT w)).length=(aC w).length:=⟨⟨h.fly,h.msg⟩,rfl⟩

theorem aL9 {w:den tNw} (h:vY w) (k:Nat) (x:den tIb):vY (sO w k x)∧(aC (sO w k x)).length=(aC w).length:=⟨⟨h.fly,h.msg⟩,rfl⟩

theorem aL6 {t:den tTo} {now:Int} {dead:List Int} {r inn:Int} {p:den tPk} (hp:fN p):fN (cD t now dead r inn p).2.2.1:=fun x hx=>hp x (by unfold cD at hx;rwa [(aDk t r now _ inn p).2.2.2] at hx)

theorem aOp {w:den tNw} (h:vY w) {r inn:Int} {p:den tPk} (hp:fN p):vY (proc0 w r inn p)∧(aC (proc0 w r inn p)).length=(aC w).length:=by
 unfold proc0
 split
 ·exact aPk h (aL6 hp)
 ·split
  ·exact aIo h _ _
  ·exact aD7 h

theorem aHv {w:den tNw} (h:vY w) {r inn:Int} {p:den tPk} (hp:fN p):vY (fU w r inn p)∧(aC (fU w r inn p)).length=(aC w).length:=by
 unfold fU
 split
 ·exact aPk h (aL6 hp)
 ·split
  ·split
   ·unfold aAl
    split
    ·exact ⟨h,rfl⟩
    ·split
     ·obtain ⟨h1,h2⟩:=aL9 h (lY (bL w) r (cD (nT w) (aR w) (aK w) r inn p).2.2.1.2.1).toNat (dV (yD w (lY (bL w) r (cD (nT w) (aR w) (aK w) r inn p).2.2.1.2.1).toNat) (cD (nT w) (aR w) (aK w) r inn p).2.2.1)
      obtain ⟨h3,h4⟩:=aOp h1 (r:=r) (inn:=0) (p:=nA (dV (yD w (lY (bL w) r (cD (nT w) (aR w) (aK w) r inn p).2.2.1.2.1).toNat) (cD (nT w) (aR w) (aK w) r inn p).2.2.1) (cD (nT w) (aR w) (aK w) r inn p).2.2.1) (by
       unfold nA
       split
       ·exact fun x hx=>by cases hx
       ·exact fun x hx=>by cases hx)
      exact ⟨h3,h4.trans h2⟩
     ·exact aL9 h _ _
   ·exact aIo h _ _
  ·split
   ·unfold aC5
    split
    ·obtain ⟨h1,h2⟩:=aOp h (r:=r) (inn:=0) (p:=bY r (aR w) (cD (nT w) (aR w) (aK w) r inn p).2.2.2 p) (aN5 _)
     obtain ⟨h3,h4⟩:=aD7 h1
     exact ⟨h3,h4.trans h2⟩
    ·obtain ⟨h1,h2⟩:=aIo h r (bY r (aR w) (cD (nT w) (aR w) (aK w) r inn p).2.2.2 p)
     obtain ⟨h3,h4⟩:=aD7 h1
     exact ⟨h3,h4.trans h2⟩
   ·exact aD7 h

def rB (w:den tNw) (l:List (den tFy)):den tNw:=(nT w,nK w,nG w,aR w,aK w,l,aC w,bL w,dH w)

def bNw (x:den tFy) (w:den tNw):Int×Int×Int×Int×Int×(List (den tPp))×Int×Int×Int×Int×Int×(List Int)×(List (den tFy))×(List (den tFl))×(List (den tIb))×(List (den tAS))×(List (den tLk))×(List (den tSg))×(List (den tSg))×Int×(List (den tRs))×(List (den tUs))×Int×(List Int)×Int:=
 (x.1,x.2.1,x.2.2.1,x.2.2.2.1,x.2.2.2.2.1,x.2.2.2.2.2.1,x.2.2.2.2.2.2.1,x.2.2.2.2.2.2.2.1,x.2.2.2.2.2.2.2.2.1,x.2.2.2.2.2.2.2.2.2.1,x.2.2.2.2.2.2.2.2.2.2.1,x.2.2.2.2.2.2.2.2.2.2.2,bT w)

theorem aPe (w:den tNw) (l:List (den tFy)):tot tNw (rB w l)+tot (.sl tFy) (aN w)=tot tNw w+tot (.sl tFy) l:=by
 have e:tot tNw (rB w l)=(tot (.sl tAS) (nT w).1+tot (.sl tLk) (nT w).2)+((tot (.sl tSg) (nK w).1+tot (.sl tSg) (nK w).2)+((0+(tot (.sl tRs) (nG w).2.1+tot (.sl tUs) (nG w).2.2))+(0+(tot (.sl ti) (aK w)+(tot (.sl tFy) l+(tot (.sl tFl) (aC w)+(tot (.sl tIb) (bL w)+0))))))):=rfl
 rw [e,eM w]
 omega


structure kK (B F:Nat) (w:den tNw):Prop where
 tot:Go.V.tot tNw w<=B
 flows:(aC w).length<=F
 bytes:vY w

theorem kK.mono {B C F:Nat} {w:den tNw} (h:kK B F w) (hb:B<=C):kK C F w:=⟨bWl h.tot hb,h.flows,h.bytes⟩

theorem bA9 {B F:Nat} {w:den tNw} (hk:kK B F w) {r inn:Int} {p:den tPk} (hp:fN p):kK (B+(160+F)) F (fU w r inn p):=by
 obtain ⟨h1,h2⟩:=aHv hk.bytes (r:=r) (inn:=inn) hp
 have h3:=aN8 w r inn p
 have h4:=hk.tot
 have h5:=hk.flows
 exact ⟨by omega,by omega,h1⟩

theorem aEl {B F:Nat} {w:den tNw} (h:kK B F w) (hB:B<=1073741824):aAh w∧(bL w).length<=68719476736∧ ∀ x∈bL w,tot tIb x<=1073741824:=
 ⟨aNd (bWl h.tot hB),bRr (bWl h.tot hB)⟩

theorem aX1 {B F:Nat} {w:den tNw} (h:kK B F w) (hB:B<=1073741824):(aN w).length<=1073741824:=by
 have :=eM w
 have :=eI (t:=tFy) (aN w)
 have :=h.tot
 omega

theorem bDk (f:den tFl):(aF f).1.2.2.2.2.1=f.2.2.2.2.1:=by
 unfold aF
 repeat' split
 all_goals rfl

theorem aXj {f:den tFl} (h: ∀ m∈f.2.2.2.2.1,sR m):fN (vP f):=by
 unfold vP
 split
 ·intro x hx
  have hx:x∈(f.2.2.2.2.1[f.2.2.2.1.toNat]?).getD []:=hx
  cases hm:f.2.2.2.2.1[f.2.2.2.1.toNat]? with
  | none=>rw [hm] at hx;cases hx
  | some m=>rw [hm] at hx;exact h m (bWx hm) x hx
 ·intro x hx;cases hx

theorem aW4 {f:den tFl} (h: ∀ m∈f.2.2.2.2.1,sR m):fN (aF f).2.1:=by
 unfold aF
 repeat' split
 all_goals first
  | exact aXj h
  | (intro x hx;cases hx)


def stepT (k:Nat) (w:den tNw):den tNw:=match (aC w)[k]? with
 | some f=>if (aF f).2.2 then fU (cT w ((aC w).set k (aF f).1)) (aF f).1.1 0 (aF f).2.1 else cT w ((aC w).set k (aF f).1)
 | none=>w

def tickL:Nat→Nat→den tNw→den tNw
 | _,0,w=>w
 | k,n+1,w=>tickL (k+1) n (stepT k w)

def aF9 (w:den tNw):den tNw:=(nT w,nK w,((nG w).1,aDa (nG w).2.1 (wr (aR w+1)),[]),wr (aR w+1),aK w,aN w,aC w,bL w,dH w)

def tG (w:den tNw):den tNw:=if aR w>=1000000 then w else tickL 0 (aC w).length (aF9 w)

theorem aKg {B F:Nat} {w:den tNw} {k:Nat} {f:den tFl} (hk:kK B F w) (hf:(aC w)[k]? =some f):kK B F (cT w ((aC w).set k (aF f).1))∧tot tPk (aF f).2.1<=B∧fN (aF f).2.1:=by
 have hm:=bWx hf
 have h1:=aQa (t:=tFl) (y:=(aF f).1) hf
 have h2:=(aSs f).1
 have h3:=(aSs f).2
 have h4:=vW (t:=tFl) hm
 have h5:=aE6 w ((aC w).set k (aF f).1)
 have h6:=eM w
 have h7:=hk.tot
 refine ⟨⟨by omega,?_,⟨hk.bytes.fly,fun g hg m hmm=> ?_⟩⟩,by omega,aW4 (hk.bytes.msg f hm)⟩
 ·show ((aC w).set k _).length<=F
  rw [bYh];exact hk.flows
 ·rcases bZb (show g∈(aC w).set k (aF f).1 from hg) with hg | rfl
  ·exact hk.bytes.msg g hg m hmm
  ·rw [bDk] at hmm
   exact hk.bytes.msg f hm m hmm

theorem aPc {B F:Nat} {w:den tNw} (k:Nat) (hk:kK B F w):kK (B+(160+F)) F (stepT k w)∧(aC (stepT k w)).length=(aC w).length:=by
 unfold stepT
 split
 ·rename_i f hf
  obtain ⟨h1,h2,h3⟩:=aKg hk hf
  have hl:(aC (cT w ((aC w).set k (aF f).1))).length=(aC w).length:=by show ((aC w).set k _).length=_;rw [bYh]
  split
  ·exact ⟨bA9 h1 h3,(aHv h1.bytes h3).2.trans hl⟩
  ·exact ⟨h1.mono (by omega),hl⟩
 ·exact ⟨hk.mono (by omega),rfl⟩

theorem aPl {F:Nat}: ∀ (n k:Nat) {B:Nat} {w:den tNw},kK B F w→kK (B+n * (160+F)) F (tickL k n w)∧(aC (tickL k n w)).length=(aC w).length
 | 0,k,B,w,hk=>⟨hk.mono (by omega),rfl⟩
 | n+1,k,B,w,hk=>by
  obtain ⟨h1,h2⟩:=aPc k hk
  obtain ⟨h3,h4⟩:=aPl n (k+1) h1
  unfold tickL
  exact ⟨h3.mono (by rw [bXk];omega),h4.trans h2⟩

theorem bF9 (l:List (den tRs)) (now:Int):(aDa l now).length<=l.length:=bZd _ _

theorem aDw {B F:Nat} {w:den tNw} (hk:kK B F w):kK B F (aF9 w):=by
 refine ⟨?_,hk.flows,⟨hk.bytes.fly,hk.bytes.msg⟩⟩
 have h1:=hk.tot
 have h2:=eM w
 have h3:=bF9 (nG w).2.1 (wr (aR w+1))
 have e:tot tNw (aF9 w)=(tot (.sl tAS) (nT w).1+tot (.sl tLk) (nT w).2)+((tot (.sl tSg) (nK w).1+tot (.sl tSg) (nK w).2)+((0+(tot (.sl tRs) (aDa (nG w).2.1 (wr (aR w+1)))+tot (.sl tUs) []))+(0+(tot (.sl ti) (aK w)+(tot (.sl tFy) (aN w)+(tot (.sl tFl) (aC w)+(tot (.sl tIb) (bL w)+0))))))):=rfl
 have r1: ∀ l:List (den tRs),tot (.sl tRs) l=l.length:=fun l=>jG rfl
 have r2:=r1 (aDa (nG w).2.1 (wr (aR w+1)))
 have r3:=r1 (nG w).2.1
 rw [aB2] at e
 omega

theorem bA2 {B F:Nat} {w:den tNw} (hk:kK B F w):kK (B+F * (160+F)) F (tG w):=by
 unfold tG
 split
 ·exact hk.mono (by omega)
 ·have :=(aPl (aC w).length 0 (aDw hk)).1
  refine this.mono ?_
  have h1:(aC w).length * (160+F)<=F * (160+F):=bXy _ hk.flows
  omega

theorem aRz {F:Nat} {S R:Type} (enc:Nat→den tNw→S) (out:den tNw→R) (N:Nat) {step:S→Option (S⊕R)}
  (H1: ∀ (k:Nat) (w:den tNw),k<N→(aC w).length=N→kK 536870912 F w→step (enc k w)=some (.inl (enc (k+1) (stepT k w))))
  (H2: ∀ (w:den tNw),(aC w).length=N→step (enc N w)=some (.inr (out w))):
  ∀ (m k B:Nat) (w:den tNw),k+m=N→(aC w).length=N→kK B F w→B+m * (160+F)<=536870912→aB step (enc k w)=some (out (tickL k m w)):=by
 intro m
 induction m with
 | zero=>
  intro k B w hk hn hw hB
  have :k=N:=by omega
  subst this
  exact bW (H2 w hn)
 | succ m ih=>
  intro k B w hk hn hw hB
  rw [bXk] at hB
  obtain ⟨h1,h2⟩:=aPc k hw
  rw [dY (H1 k w (by omega) hn (hw.mono (by omega)))]
  exact ih (k+1) _ _ (by omega) (h2.trans hn) h1 (by omega)

theorem bP6 {B F:Nat} {w0:den tNw} (hF:F<=1000) (hk:kK B F w0) (hB:B+F * (160+F)<=536870912):mD w0=some (!decide (aR w0>=1000000),bT (tG w0)):=by
 have hres:(nG w0).2.1.length<=1073741824:=(aNd (bWl hk.tot (by omega))).res
 unfold mD tG ixb aH0 jZ pj3 pj9 aT bK bO eH oH tI yA aB0 aDs aDv zz4 zz5 zz6 zz7 zz8 zz9
 by_cases hnow:aR w0>=1000000
 ·rw [if_pos hnow,decide_eq_true (p:=w0.2.2.2.1>=1000000) hnow]
  rfl
 ·rw [if_neg hnow,decide_eq_false (p:=w0.2.2.2.1>=1000000) hnow,cond_false]
  unfold vG
  simp only [bKn hres,aA]
  refine Eq.trans (congrArg (fun o=>Option.bind o _) (aRz (F:=F) (fun k w=>((k:Int),bT w)) bT (aC w0).length (fun k w hk' hn hw=> ?_) (fun w hn=> ?_) (aC w0).length 0 B (aF9 w0) (bXl _) rfl (aDw hk) (by have :(aC w0).length * (160+F)<=F * (160+F):=bXy _ hk.flows;omega))) ?_
  ·obtain ⟨f,hf⟩: ∃ f,(aC w)[k]? =some f:=⟨_,bWk (show k<(aC w).length by omega)⟩
   obtain ⟨k1,k2,k3⟩:=aKg hw hf
   obtain ⟨n1,n2,n3⟩:=aEl k1 (by decide)
   have hft:tot tFl f<=34359738368:=by have :=vW (t:=tFl) (bWx hf);have :=eM w;have :=hw.tot;omega
   have hd:decide ((k:Int)<(w0.2.2.2.2.2.2.1.length:Int))=true:=decide_eq_true (by have :k<w0.2.2.2.2.2.2.1.length:=(by exact hk');omega)
   have hd1:decide ((k:Int)<((bT w).2.1.length:Int))=true:=decide_eq_true (by have :k<(bT w).2.1.length:=(show k<(aC w).length by omega);omega)
   have hd2:decide (k<(bT w).2.1.length)=true:=decide_eq_true (show k<(aC w).length by omega)
   have hf':(bT w).2.1[k]? =some f:=hf
   have hwr:wr ((k:Int)+1)=((k+1:Nat):Int):=(wri (by have :=hk.flows;omega) (by have :=hk.flows;omega)).trans (by omega)
   have e:stepT k w=if (aF f).2.2 then fU (cT w ((aC w).set k (aF f).1)) (aF f).1.1 0 (aF f).2.1 else cT w ((aC w).set k (aF f).1):=by unfold stepT;rw [hf]
   have e1:bR (((bT w).2.2.2.1,(bT w).2.2.2.2.1),((bT w).2.2.2.2.2.1,(bT w).2.2.2.2.2.2.1),((bT w).2.2.2.2.2.2.2.1,(bT w).2.2.2.2.2.2.2.2.1,(bT w).2.2.2.2.2.2.2.2.2.1),(bT w).2.2.2.2.2.2.2.2.2.2.1,(bT w).2.2.2.2.2.2.2.2.2.2.2.1,(bT w).1,((bT w).2.1.set k ((dG (aF f).1 (aF f).2.1 (aF f).2.2).1,(dG (aF f).1 (aF f).2.1 (aF f).2.2).2.1,(dG (aF f).1 (aF f).2.1 (aF f).2.2).2.2.1,(dG (aF f).1 (aF f).2.1 (aF f).2.2).2.2.2.1,(dG (aF f).1 (aF f).2.1 (aF f).2.2).2.2.2.2.2.2.2.2.2.2.2.2.2.2.2.1,(dG (aF f).1 (aF f).2.1 (aF f).2.2).2.2.2.2.2.2.2.2.2.2.2.2.2.2.2.2.1,(dG (aF f).1 (aF f).2.1 (aF f).2.2).2.2.2.2.1,(dG (aF f).1 (aF f).2.1 (aF f).2.2).2.2.2.2.2.1,(dG (aF f).1 (aF f).2.1 (aF f).2.2).2.2.2.2.2.2.2.2.2.2.2.2.2.2.2.2.2.1)),(bT w).2.2.1,(bT w).2.2.2.2.2.2.2.2.2.2.2.2) (dG (aF f).1 (aF f).2.1 (aF f).2.2).1 0 ((dG (aF f).1 (aF f).2.1 (aF f).2.2).2.2.2.2.2.2.1,(dG (aF f).1 (aF f).2.1 (aF f).2.2).2.2.2.2.2.2.2.1,(dG (aF f).1 (aF f).2.1 (aF f).2.2).2.2.2.2.2.2.2.2.1,(dG (aF f).1 (aF f).2.1 (aF f).2.2).2.2.2.2.2.2.2.2.2.2.2.2.2.2.2.2.2.2.1,(dG (aF f).1 (aF f).2.1 (aF f).2.2).2.2.2.2.2.2.2.2.2.1,(dG (aF f).1 (aF f).2.1 (aF f).2.2).2.2.2.2.2.2.2.2.2.2.1,(dG (aF f).1 (aF f).2.1 (aF f).2.2).2.2.2.2.2.2.2.2.2.2.2.1,(dG (aF f).1 (aF f).2.1 (aF f).2.2).2.2.2.2.2.2.2.2.2.2.2.2.1,(dG (aF f).1 (aF f).2.1 (aF f).2.2).2.2.2.2.2.2.2.2.2.2.2.2.2.1,(dG (aF f).1 (aF f).2.1 (aF f).2.2).2.2.2.2.2.2.2.2.2.2.2.2.2.2.2.2.2.2.2)=some (bT (fU (cT w ((aC w).set k (aF f).1)) (aF f).1.1 0 (aF f).2.1)):=aX3 (w:=cT w ((aC w).set k (aF f).1)) n1 n2 n3 k2 k3
   rw [e]
   simp only [hd,hd1,hd2,eR,bWu,hf',cond_true,aA,aO,bO8 hft,hwr]
   cases hb:(aF f).2.2
   ·rfl
   ·rw [hb] at e1
    rw [if_pos rfl]
    show Option.bind (cond true _ _) _=_
    rw [cond_true]
    show Option.bind (Option.bind (bR _ _ 0 _) fun y12=>_) _=_
    rw [e1]
    rfl
  ·have hd:decide ((((aC w0).length:Nat):Int)<(w0.2.2.2.2.2.2.1.length:Int))=false:=decide_eq_false (by have :w0.2.2.2.2.2.2.1.length=(aC w0).length:=rfl;omega)
   simp only [hd,cond_false]
  ·rfl

theorem bN8 {B F:Nat} {w0:den tNw} (hF:F<=1000) (hk:kK B F w0) (hB:B+F * (160+F)<=536870912):tZ w0=some (!decide (aR w0>=1000000),bT (tG w0)):=by
 have hres:(nG w0).2.1.length<=1073741824:=(aNd (bWl hk.tot (by omega))).res
 unfold tZ tG ixb aH0 jZ pj3 pj9 aT bK bO eH oH tI yA aB0 aDs aDv zz4 zz5 zz6 zz7 zz8 zz9
 by_cases hnow:aR w0>=1000000
 ·rw [if_pos hnow,decide_eq_true (p:=w0.2.2.2.1>=1000000) hnow]
  rfl
 ·rw [if_neg hnow,decide_eq_false (p:=w0.2.2.2.1>=1000000) hnow,cond_false]
  unfold vK
  simp only [bIa hres,aA]
  refine Eq.trans (congrArg (fun o=>Option.bind o _) (aRz (F:=F) (fun k w=>((k:Int),bT w)) bT (aC w0).length (fun k w hk' hn hw=> ?_) (fun w hn=> ?_) (aC w0).length 0 B (aF9 w0) (bXl _) rfl (aDw hk) (by have :(aC w0).length * (160+F)<=F * (160+F):=bXy _ hk.flows;omega))) ?_
  ·obtain ⟨f,hf⟩: ∃ f,(aC w)[k]? =some f:=⟨_,bWk (show k<(aC w).length by omega)⟩
   obtain ⟨k1,k2,k3⟩:=aKg hw hf
   obtain ⟨n1,n2,n3⟩:=aEl k1 (by decide)
   have hft:tot tFl f<=34359738368:=by have :=vW (t:=tFl) (bWx hf);have :=eM w;have :=hw.tot;omega
   have hd:decide ((k:Int)<((bT w).2.1.length:Int))=true:=decide_eq_true (by have :k<(bT w).2.1.length:=(by show k<(aC w).length;omega);omega)
   have hd1:decide ((k:Int)<((bT w).2.1.length:Int))=true:=decide_eq_true (by have :k<(bT w).2.1.length:=(show k<(aC w).length by omega);omega)
   have hd2:decide (k<(bT w).2.1.length)=true:=decide_eq_true (show k<(aC w).length by omega)
   have hf':(bT w).2.1[k]? =some f:=hf
   have hwr:wr ((k:Int)+1)=((k+1:Nat):Int):=(wri (by have :=hk.flows;omega) (by have :=hk.flows;omega)).trans (by omega)
   have e:stepT k w=if (aF f).2.2 then fU (cT w ((aC w).set k (aF f).1)) (aF f).1.1 0 (aF f).2.1 else cT w ((aC w).set k (aF f).1):=by unfold stepT;rw [hf]
   have e1:dR (((bT w).2.2.2.1,(bT w).2.2.2.2.1),((bT w).2.2.2.2.2.1,(bT w).2.2.2.2.2.2.1),((bT w).2.2.2.2.2.2.2.1,(bT w).2.2.2.2.2.2.2.2.1,(bT w).2.2.2.2.2.2.2.2.2.1),(bT w).2.2.2.2.2.2.2.2.2.2.1,(bT w).2.2.2.2.2.2.2.2.2.2.2.1,(bT w).1,((bT w).2.1.set k ((dG (aF f).1 (aF f).2.1 (aF f).2.2).1,(dG (aF f).1 (aF f).2.1 (aF f).2.2).2.1,(dG (aF f).1 (aF f).2.1 (aF f).2.2).2.2.1,(dG (aF f).1 (aF f).2.1 (aF f).2.2).2.2.2.1,(dG (aF f).1 (aF f).2.1 (aF f).2.2).2.2.2.2.2.2.2.2.2.2.2.2.2.2.2.1,(dG (aF f).1 (aF f).2.1 (aF f).2.2).2.2.2.2.2.2.2.2.2.2.2.2.2.2.2.2.1,(dG (aF f).1 (aF f).2.1 (aF f).2.2).2.2.2.2.1,(dG (aF f).1 (aF f).2.1 (aF f).2.2).2.2.2.2.2.1,(dG (aF f).1 (aF f).2.1 (aF f).2.2).2.2.2.2.2.2.2.2.2.2.2.2.2.2.2.2.2.1)),(bT w).2.2.1,(bT w).2.2.2.2.2.2.2.2.2.2.2.2) (dG (aF f).1 (aF f).2.1 (aF f).2.2).1 0 ((dG (aF f).1 (aF f).2.1 (aF f).2.2).2.2.2.2.2.2.1,(dG (aF f).1 (aF f).2.1 (aF f).2.2).2.2.2.2.2.2.2.1,(dG (aF f).1 (aF f).2.1 (aF f).2.2).2.2.2.2.2.2.2.2.1,(dG (aF f).1 (aF f).2.1 (aF f).2.2).2.2.2.2.2.2.2.2.2.2.2.2.2.2.2.2.2.2.1,(dG (aF f).1 (aF f).2.1 (aF f).2.2).2.2.2.2.2.2.2.2.2.1,(dG (aF f).1 (aF f).2.1 (aF f).2.2).2.2.2.2.2.2.2.2.2.2.1,(dG (aF f).1 (aF f).2.1 (aF f).2.2).2.2.2.2.2.2.2.2.2.2.2.1,(dG (aF f).1 (aF f).2.1 (aF f).2.2).2.2.2.2.2.2.2.2.2.2.2.2.1,(dG (aF f).1 (aF f).2.1 (aF f).2.2).2.2.2.2.2.2.2.2.2.2.2.2.2.1,(dG (aF f).1 (aF f).2.1 (aF f).2.2).2.2.2.2.2.2.2.2.2.2.2.2.2.2.2.2.2.2.2)=some (bT (fU (cT w ((aC w).set k (aF f).1)) (aF f).1.1 0 (aF f).2.1)):=aZh (w:=cT w ((aC w).set k (aF f).1)) n1 n2 n3 k2 k3
   rw [e]
   simp only [hd,hd1,hd2,eR,bWu,hf',cond_true,aA,aO,bP3 hft,hwr]
   cases hb:(aF f).2.2
   ·rfl
   ·rw [hb] at e1
    rw [if_pos rfl]
    show Option.bind (cond true _ _) _=_
    rw [cond_true]
    show Option.bind (Option.bind (dR _ _ 0 _) fun y12=>_) _=_
    rw [e1]
    rfl
  ·have hd:decide ((((aC w0).length:Nat):Int)<((bT w).2.1.length:Int))=false:=decide_eq_false (by have :(bT w).2.1.length=(aC w0).length:=hn;omega)
   simp only [hd,cond_false]
  ·rfl


def Ans {α:Type} (o:Option α) (P:α→Prop):Prop:= ∃ y,o=some y∧P y

theorem bJf {S R:Type} {step:S→Option (S⊕R)} (I:Nat→S→Prop) (Q:R→Prop) (h: ∀ n s,I n s→(∃ r,step s=some (.inr r)∧Q r)∨ ∃ m s',m<n∧step s=some (.inl s')∧I m s') (n:Nat): ∀ s,I n s→Ans (aB step s) Q:=by
 induction n using Nat.strongRecOn with
 | ind n ih=>
  intro s hs
  rcases h n s hs with ⟨r,h1,h2⟩ | ⟨m,s',h1,h2,h3⟩
  ·exact ⟨r,bW h1,h2⟩
  ·obtain ⟨r,h4,h5⟩:=ih m h1 s' h3
   exact ⟨r,(dY h2).trans h4,h5⟩

theorem jJ {S R T:Type} {step:S→Option (S⊕R)} (I:Nat→S→Prop) (Q:R→Prop) {k:R→Option T} {G:Option T→Prop} (h: ∀ n s,I n s→(∃ r,step s=some (.inr r)∧Q r)∨ ∃ m s',m<n∧step s=some (.inl s')∧I m s') (n:Nat) (s:S) (hs:I n s) (hk: ∀ r,Q r→G (k r)):G (Option.bind (aB step s) k):=by
 obtain ⟨r,h1,h2⟩:=bJf I Q h n s hs
 rw [h1]
 exact hk r h2


theorem bS {S R T:Type} {step:S→Option (S⊕R)} (len:Nat) (pos:S→Int) (J:Nat→S→Prop) (Q:R→Prop) {k:R→Option T} {G:Option T→Prop}
  (h: ∀ (i:Nat) (s:S),i<len→pos s=(i:Int)→J i s→(∃ r,step s=some (.inr r)∧Q r)∨ ∃ s',step s=some (.inl s')∧pos s'=((i+1:Nat):Int)∧J (i+1) s')
  (he: ∀ s:S,pos s=(len:Int)→J len s→ ∃ r,step s=some (.inr r)∧Q r) (i0:Nat) (s0:S) (hi:i0<=len) (hp:pos s0=(i0:Int)) (hJ:J i0 s0) (hk: ∀ r,Q r→G (k r)):G (Option.bind (aB step s0) k):=by
 refine jJ (fun n s=> ∃ i:Nat,pos s=(i:Int)∧i+n=len∧J i s) Q ?_ (len - i0) s0 ⟨i0,hp,by omega,hJ⟩ hk
 rintro n s ⟨i,h1,h2,h3⟩
 cases n with
 | zero=>
  have e:i=len:=by omega
  subst e
  exact .inl (he s h1 h3)
 | succ n=>
  rcases h i s (by omega) h1 h3 with h4 | ⟨s',h4,h5,h6⟩
  ·exact .inl h4
  ·exact .inr ⟨n,s',by omega,h4,i+1,h5,by omega,h6⟩

theorem bF {n:Int} (h0: -1000000000000<=n) (h1:n<=1000000000000):wr n=n:=wri (by omega) (by omega)

theorem aW {n:Nat} (h:n<=1000000000):wr ((n:Int)+1)=((n+1:Nat):Int):=by rw [bF (by omega) (by omega)];omega

theorem aUh (a:Int):0<=wU .i64 a 255∧wU .i64 a 255<=255:=by
 have h:((BitVec.ofInt 64 a &&& BitVec.ofInt 64 255).toNat)<=255:=by
  rw [BitVec.toNat_and]
  exact bWl Nat.and_le_right (by decide)
 have e:wU .i64 a 255=wr (((BitVec.ofInt 64 a &&& BitVec.ofInt 64 255).toNat:Nat):Int):=rfl
 rw [e,show wr (((BitVec.ofInt 64 a &&& BitVec.ofInt 64 255).toNat:Nat):Int)=_ from wri (by omega) (by omega)]
 omega


def Cur (code:List Int) (c:List Int×Int×Int):Prop:=c.1=code∧0<=c.2.1∧c.2.1<=(code.length:Int)

theorem aFg {code:List Int} (hl:code.length<=1048576) {c:List Int} {p h:Int} (hc:Cur code (c,p,h)): ∃ v c' p' h',oT (c,p,h)=some (v,c',p',h')∧(0<=v∧v<=255)∧Cur code (c',p',h'):=by
 obtain ⟨h1,h2,h3⟩:=hc
 simp only at h1 h2 h3
 subst h1
 unfold oT pj4
 simp only [aA]
 by_cases hp:p<(c.length:Int)
 ·obtain ⟨m,rfl⟩:=bXe h2
  have hm:m<c.length:=by omega
  rw [decide_eq_true hp,cond_true,aG,bWk hm]
  refine ⟨_,_,_,_,rfl,aUh _,rfl,?_,?_⟩
  ·show 0<=wr ((m:Int)+1);rw [show wr ((m:Int)+1)=(m:Int)+1 from wri (by omega) (by omega)];omega
  ·show wr ((m:Int)+1)<=_;rw [show wr ((m:Int)+1)=(m:Int)+1 from wri (by omega) (by omega)];omega
 ·rw [decide_eq_false hp,cond_false]
  exact ⟨_,_,_,_,rfl,aUh _,rfl,h2,h3⟩

theorem aX {code:List Int} (hl:code.length<=1048576) {n:Int} (h0:0<n) (h1:n<=256) {c:List Int} {p h:Int} (hc:Cur code (c,p,h)): ∃ v c' p' h',aE (c,p,h) n=some (v,c',p',h')∧(0<=v∧v<n)∧Cur code (c',p',h'):=by
 obtain ⟨v,c',p',h',hb,hv,hc'⟩:=aFg hl hc
 refine ⟨Int.tmod v n,c',p',h',?_,⟨Int.tmod_nonneg _ hv.1,Int.tmod_lt_of_pos _ h0⟩,hc'⟩
 unfold aE pj3
 rw [decide_eq_false (by omega),cond_false,decide_eq_true h1,cond_true]
 simp only [hb,aA]
 rw [show (n==0)=false by rw [beq_eq_false_iff_ne];omega,cond_false]

theorem aGl {code:List Int} (hl:code.length<=1048576) {n:Int} (h1:256<n) {c:List Int} {p h:Int} (hc:Cur code (c,p,h)): ∃ v c' p' h',aE (c,p,h) n=some (v,c',p',h')∧(0<=v∧v<n)∧Cur code (c',p',h'):=by
 obtain ⟨v1,c1,p1,h1',e1,r1,k1⟩:=aFg hl hc
 obtain ⟨v2,c2,p2,h2',e2,r2,k2⟩:=aFg hl k1
 obtain ⟨v3,c3,p3,h3',e3,r3,k3⟩:=aFg hl k2
 have w1:wr (v1 * 65536)=v1 * 65536:=bF (by omega) (by omega)
 have w2:wr (v2 * 256)=v2 * 256:=bF (by omega) (by omega)
 have w3:wr (v1 * 65536+v2 * 256)=v1 * 65536+v2 * 256:=bF (by omega) (by omega)
 have w4:wr (v1 * 65536+v2 * 256+v3)=v1 * 65536+v2 * 256+v3:=bF (by omega) (by omega)
 refine ⟨Int.tmod (v1 * 65536+v2 * 256+v3) n,c3,p3,h3',?_,⟨Int.tmod_nonneg _ (by omega),Int.tmod_lt_of_pos _ (by omega)⟩,k3⟩
 unfold aE pj3
 rw [decide_eq_false (by omega),cond_false,decide_eq_false (by omega),cond_false]
 simp only [e1,e2,e3,aA,w1,w2,w3,w4]
 rw [show (n==0)=false by rw [beq_eq_false_iff_ne];omega,cond_false]

theorem aEy {code:List Int} (hl:code.length<=1048576) {l:List Int} (h0:0<l.length) (h1:l.length<=256) {c:List Int} {p h:Int} (hc:Cur code (c,p,h)): ∃ v c' p' h',nQ (c,p,h) l=some (v,c',p',h')∧v∈l∧Cur code (c',p',h'):=by
 obtain ⟨v,c',p',h',hb,hv,hc'⟩:=aX hl (n:=(l.length:Int)) (by omega) (by omega) hc
 obtain ⟨m,rfl⟩:=bXe hv.1
 have hm:m<l.length:=by omega
 refine ⟨l[m],c',p',h',?_,bWy hm,hc'⟩
 unfold nQ pj3
 simp only [hb,aA,aG,bWk hm]

theorem sY {code:List Int} (hl:code.length<=1048576) {n:Int} (h0:0<n) (h1:n<=256) {c:List Int} {p h:Int} (hc:Cur code (c,p,h)): ∃ b c' p' h',dB (c,p,h) n=some (b,c',p',h')∧Cur code (c',p',h'):=by
 obtain ⟨v,c',p',h',hb,hv,hc'⟩:=aX hl h0 h1 hc
 refine ⟨v==0,c',p',h',?_,hc'⟩
 unfold dB pj3
 simp only [hb,aA]

theorem bPz {code:List Int} (hl:code.length<=1048576): ∃ c p h,aA7 code=some (c,p,h)∧Cur code (c,p,h):=by
 unfold aA7
 refine jJ (G:=fun o=> ∃ c p h,o=some (c,p,h)∧Cur code (c,p,h)) (fun n s=> ∃ k:Nat,s.2=(k:Int)∧k+n=code.length) (fun _=>True) ?_ code.length _ ⟨0,rfl,by omega⟩ ?_
 ·rintro n ⟨a,b⟩ ⟨k,hk,hn⟩
  simp only at hk
  subst hk
  by_cases h1:(k:Int)<(code.length:Int)
  ·by_cases h2:(k:Int)<4000
   ·right
    have hk:k<code.length:=by omega
    refine ⟨n - 1,(wU .i64 (wr ((wr ((wr (a * (137:Int)))+(wr code[k])))+(11:Int))) (1073741823:Int),((k+1:Nat):Int)),by omega,?_,k+1,rfl,by omega⟩
    simp only [decide_eq_true h1,decide_eq_true h2,cond_true,aA,aG,bWk hk]
    rw [show wr ((k:Int)+1)=((k+1:Nat):Int) from by rw [show wr ((k:Int)+1)=(k:Int)+1 from wri (by omega) (by omega)];omega]
   ·left
    refine ⟨a,?_,trivial⟩
    simp only [decide_eq_true h1,decide_eq_false h2,cond_true,cond_false,aA]
  ·left
   refine ⟨a,?_,trivial⟩
   simp only [decide_eq_false h1,cond_false,aA]
 ·intro r _
  exact ⟨_,_,_,rfl,rfl,bYd 0,by show (0:Int)<=_;omega⟩

theorem aM7 {α:Type} (p:Nat→α→Bool): ∀ (l:List α) (k:Nat),(bZ (fun k x=>if p k x then none else some ()) k l).isNone=true↔ ∀ j x,l[j]? =some x→p (k+j) x=true
 | [],k=>by simp [bZ]
 | x::l,k=>by
  have ih:=aM7 p l (k+1)
  cases hp:p k x with
  | true=>
   simp only [bZ,hp,if_true]
   rw [ih]
   constructor
   ·intro h j y hy
    cases j with
    | zero=>simp only [bZc,Option.some.injEq] at hy;subst hy;exact hp
    | succ j=>simp only [List.getElem?_cons_succ] at hy;have :=h j y hy;rwa [show k+1+j=k+(j+1) by omega] at this
   ·intro h j y hy
    have :=h (j+1) y (by simpa using hy);rwa [show k+(j+1)=k+1+j by omega] at this
  | false=>
   simp only [bZ,hp]
   constructor
   ·intro h;simp at h
   ·intro h;have :=h 0 x (by simp);rw [Nat.add_zero,hp] at this;cases this

def plc (id s d:Int):Nat→List (den tUs)→Int
 | _,[]=> -1
 | k,x::l=>if iW id s d x then (k:Int) else plc id s d (k+1) l

theorem aDn (l:List (den tUs)) (id s d:Int):place l id s d=plc id s d 0 l:=by
 unfold place
 have : ∀ (l:List (den tUs)) (k:Nat),(match bZ (fun k x=>if iW id s d x then some (k:Int) else none) k l with
  | some i=>i
  | none=> -1)=plc id s d k l:=by
  intro l
  induction l with
  | nil=>intro k;rfl
  | cons x l ih=>
   intro k
   cases hp:iW id s d x with
   | true=>simp only [bZ,plc,hp,if_true]
   | false=>simp only [bZ,plc,hp];exact ih (k+1)
 exact this l 0

theorem aWq {id s d:Int}: ∀ (l:List (den tUs)) (k:Nat),(plc id s d k l= -1∧ ∀ x∈l,iW id s d x=false)∨ ∃ j x,plc id s d k l=((k+j:Nat):Int)∧l[j]? =some x∧iW id s d x=true
 | [],_=> .inl ⟨rfl,fun x hx=>by cases hx⟩
 | x::l,k=>by
  unfold plc
  cases hp:iW id s d x with
  | true=>exact .inr ⟨0,x,by simp,by simp,hp⟩
  | false=>
   rcases aWq l (k+1) with ⟨h1,h2⟩ | ⟨j,y,h1,h2,h3⟩
   ·refine .inl ⟨by simpa using h1,fun y hy=> ?_⟩
    rcases bWp.1 hy with rfl | hy
    ·exact hp
    ·exact h2 y hy
   ·exact .inr ⟨j+1,y,by rw [if_neg (by simp),h1];congr 1;omega,by simpa using h2,h3⟩

theorem bAu (l:List (den tUs)) (id s d:Int):(place l id s d= -1∧ ∀ x∈l,iW id s d x=false)∨ ∃ (j:Nat) (x:den tUs),place l id s d=(j:Int)∧l[j]? =some x∧iW id s d x=true:=by
 rw [aDn]
 rcases aWq (id:=id) (s:=s) (d:=d) l 0 with h | ⟨j,x,h1,h2,h3⟩
 ·exact .inl h
 ·exact .inr ⟨j,x,by rw [h1,bXl],h2,h3⟩

theorem aYs {id s d:Int} (z:List (den tUs)): ∀ (l:List (den tUs)) (k:Nat),plc id s d k (l++z)=if plc id s d k l<0 then plc id s d (k+l.length) z else plc id s d k l
 | [],k=>by simp [plc]
 | x::l,k=>by
  have e1:plc id s d k (x::l)=if iW id s d x then (k:Int) else plc id s d (k+1) l:=rfl
  have e2:plc id s d k (x::l++z)=if iW id s d x then (k:Int) else plc id s d (k+1) (l++z):=rfl
  by_cases hp:iW id s d x=true
  ·rw [if_pos hp] at e1 e2
   rw [e1,e2,if_neg (by omega)]
  ·rw [if_neg hp] at e1 e2
   rw [e1,e2,aYs z l (k+1),show k+(x::l).length=k+1+l.length by simp only [bXo];omega]


theorem aUm {id s d:Int}: ∀ (l m:List (den tUs)) (k:Nat),l.map (fun x=>(x.1,x.2.1,x.2.2.1))=m.map (fun x=>(x.1,x.2.1,x.2.2.1))→plc id s d k l=plc id s d k m
 | [],[],_,_=>rfl
 | [],_::_,_,h=>by simp at h
 | _::_,[],_,h=>by simp at h
 | x::l,y::m,k,h=>by
  simp only [bW7,List.cons.injEq,Prod.mk.injEq] at h
  obtain ⟨⟨h1,h2,h3⟩,h4⟩:=h
  have e:iW id s d x=iW id s d y:=by unfold iW;rw [h1,h2,h3]
  simp only [plc,e,aUm l m (k+1) h4]

theorem aKr {id s d:Int} {x:den tUs}:iW id s d x=true↔x.1=id∧x.2.1=s∧x.2.2.1=d:=by unfold iW;simp


def aQ3 (g:den tSc) (now:Int):Prop:= ∀ (j:Nat) (x:den tUs),g.2.2[j]? =some x→place g.2.2 x.1 x.2.1 x.2.2.1=(j:Int)∧(1:Int)<=x.2.2.2∧oJ g x.1 x.2.1 x.2.2.1 now>=x.2.2.2

theorem bAh {g:den tSc} {now:Int}:aDj g now=true↔(1:Int)<=g.1∧(20:Int)>=g.1∧aA8 g.2.1 g.1 now=true∧aQ3 g now:=by
 unfold aDj aQ3
 rw [bWm,bWm,aM7]
 unfold inR okU
 simp only [bWm,decide_eq_true_eq,beq_iff_eq,bXl,inR,and_assoc]

theorem aXe {l:List (den tRs)} {cap now:Int}:aA8 l cap now=true↔l.length<=40∧ ∀ (j:Nat) (x:den tRs),l[j]? =some x→uS x=true∧rate l x.2.1 x.2.2.1 now<=cap∧ ∀ y∈l.take j,kD x y=false:=by
 unfold aA8
 rw [bWm,aM7]
 unfold okR
 simp only [bWm,decide_eq_true_eq,bXl,bXn,decide_eq_false_iff_not,List.any_eq_false,Bool.not_eq_true,Int.not_lt,gt_iff_lt]

theorem aHp (x y:den tRs):kD x y=kD y x:=by
 unfold kD atR
 rw [Bool.eq_iff_iff]
 simp only [bWm,beq_iff_eq]
 constructor<;>(rintro ⟨a,b,c⟩;exact ⟨a.symm,b.symm,c.symm⟩)

theorem bG9 {l:List (den tRs)}:(∀ (j:Nat) (x:den tRs),l[j]? =some x→ ∀ y∈l.take j,kD x y=false)↔l.Pairwise fun x y=>kD x y=false:=by
 rw [bYf]
 constructor
 ·intro h i j hi hj hij
  rw [aHp]
  exact h j l[j] (bWk hj) l[i] (List.mem_take_iff_getElem.2 ⟨i,by omega,rfl⟩)
 ·intro h j x hx y hy
  obtain ⟨i,hi,rfl⟩:=List.mem_take_iff_getElem.1 hy
  obtain ⟨hj,rfl⟩:=bWs.1 hx
  rw [aHp]
  exact h i j (by omega) hj (by omega)


def rs (s d now:Int):List (den tRs)→Int
 | []=>0
 | x::l=>(if atR x s d&&decide (now<=x.2.2.2.2) then x.2.2.2.1 else 0)+rs s d now l

theorem aOd {s d now:Int}: ∀ {l:List (den tRs)},(∀ x∈l,(0:Int)<=x.2.2.2.1∧(20:Int)>=x.2.2.2.1)→0<=rs s d now l∧rs s d now l<=20 * l.length
 | [],_=>by simp [rs]
 | x::l,h=>by
  have ih:=aOd (s:=s) (d:=d) (now:=now) (l:=l) fun y hy=>h y (bWz _ hy)
  have hx:=h x (by simp)
  have e:((x::l).length:Int)=l.length+1:=by simp
  unfold rs
  rw [e]
  split<;>omega

theorem aJ2 {s d now:Int}: ∀ (l:List (den tRs)) (a:Int),(∀ x∈l,(0:Int)<=x.2.2.2.1∧(20:Int)>=x.2.2.2.1)→0<=a→a+20 * l.length<=1000000000000→
  l.foldl (fun a x=>if atR x s d&&decide (now<=x.2.2.2.2) then wr (a+x.2.2.2.1) else a) a=a+rs s d now l
 | [],a,_,_,_=>by simp [rs]
 | x::l,a,h,h0,hb=>by
  have hx:=h x (by simp)
  simp only [bXo,Int.natCast_add,Int.natCast_one] at hb
  simp only [List.foldl_cons,rs]
  split
  ·rw [show wr (a+x.2.2.2.1)=a+x.2.2.2.1 from wri (by omega) (by omega),aJ2 l _ (fun y hy=>h y (bWz _ hy)) (by omega) (by omega)];omega
  ·rw [aJ2 l a (fun y hy=>h y (bWz _ hy)) h0 (by omega)];omega

theorem aLo {s d now:Int} {l:List (den tRs)} (h: ∀ x∈l,(0:Int)<=x.2.2.2.1∧(20:Int)>=x.2.2.2.1) (hl:l.length<=1000000):rate l s d now=rs s d now l:=by
 unfold rate
 rw [aJ2 l 0 h (by omega) (by omega)];omega

theorem bE8 {s d now:Int} (m:List (den tRs)): ∀ l:List (den tRs),rs s d now (l++m)=rs s d now l+rs s d now m
 | []=>by simp [rs]
 | x::l=>by simp only [List.cons_append,rs,bE8 m l];omega

theorem aSw {s d now:Int} (p:den tRs→Bool): ∀ {l:List (den tRs)},(∀ x∈l,(0:Int)<=x.2.2.2.1∧(20:Int)>=x.2.2.2.1)→rs s d now (l.filter p)<=rs s d now l
 | [],_=>by simp [rs]
 | x::l,h=>by
  have ih:=aSw (s:=s) (d:=d) (now:=now) p (l:=l) fun y hy=>h y (bWz _ hy)
  have hx:=h x (by simp)
  rw [bZk]
  split
  ·simp only [rs];omega
  ·simp only [rs];split<;>omega


structure sZ (l:List (den tRs)) (cap now:Int):Prop where
 len:l.length<=40
 val: ∀ x∈l,uS x=true
 rate: ∀ x∈l,rs x.2.1 x.2.2.1 now l<=cap
 pw:l.Pairwise fun x y=>kD x y=false

theorem aMg {x:den tRs} (h:uS x=true):(1:Int)<=x.1∧(1:Int)<=x.2.2.2.1∧(20:Int)>=x.2.2.2.1:=by
 unfold uS inR at h
 simp only [bWm,decide_eq_true_eq] at h
 exact ⟨h.1.1,h.2.1.1,h.2.1.2⟩

theorem vD {l:List (den tRs)} (h: ∀ x∈l,uS x=true): ∀ x∈l,(0:Int)<=x.2.2.2.1∧(20:Int)>=x.2.2.2.1:=fun x hx=>by
 have :=aMg (h x hx);omega

theorem bJt {l:List (den tRs)} {cap now:Int}:aA8 l cap now=true↔sZ l cap now:=by
 rw [aXe]
 constructor
 ·rintro ⟨h1,h2⟩
  have hv: ∀ x∈l,uS x=true:=fun x hx=>by
   obtain ⟨j,hj⟩:=bZw.1 hx
   exact (h2 j x hj).1
  exact ⟨h1,hv,fun x hx=>by
   obtain ⟨j,hj⟩:=bZw.1 hx
   rw [← aLo (vD hv) (by omega)];exact (h2 j x hj).2.1,bG9.1 fun j x hj=>(h2 j x hj).2.2⟩
 ·rintro ⟨h1,h2,h3,h4⟩
  refine ⟨h1,fun j x hj=> ?_⟩
  have hx:=bWx hj
  exact ⟨h2 x hx,by rw [aLo (vD h2) (by omega)];exact h3 x hx,bG9.2 h4 j x hj⟩

theorem sZ.filter {l:List (den tRs)} {cap now:Int} (h:sZ l cap now) (p:den tRs→Bool):sZ (l.filter p) cap now:=
 ⟨bWl (bZd ..) h.len,fun x hx=>h.val x (bW2.1 hx).1,fun x hx=>Int.le_trans (aSw p (vD h.val)) (h.rate x (bW2.1 hx).1),h.pw.filter _⟩


def admR (l:List (den tRs)) (x:den tRs) (cap now:Int):List (den tRs):=
 if !uS x||decide (x.2.2.2.2<now)||decide (wr (rate (l.filter fun y=> !kD x y) x.2.1 x.2.2.1 now+x.2.2.2.1)>cap)||decide (((l.filter fun y=> !kD x y).length:Int)>=40) then l else (l.filter fun y=> !kD x y)++[x]

theorem sZ.admR {l:List (den tRs)} {cap now:Int} (h:sZ l cap now) (x:den tRs):sZ (admR l x cap now) cap now:=by
 unfold Go.Proofs.YtecighmpdcffcaaGreat.admR
 split
 ·exact h
 ·rename_i hc
  simp only [bXz,bXn,decide_eq_true_eq,not_or,Bool.not_eq_false] at hc
  obtain ⟨⟨⟨c1,c2⟩,c3⟩,c4⟩:=hc
  have hf:=h.filter fun y=> !kD x y
  have hx:=aMg c1
  have hr:sZ (l.filter fun y=> !kD x y) cap now:=hf
  rw [aLo (vD hf.val) (by have :=hf.len;omega)] at c3
  have hb:=aOd (s:=x.2.1) (d:=x.2.2.1) (now:=now) (vD hf.val)
  have hl:=hf.len
  rw [show wr (rs x.2.1 x.2.2.1 now (l.filter fun y=> !kD x y)+x.2.2.2.1)=rs x.2.1 x.2.2.1 now (l.filter fun y=> !kD x y)+x.2.2.2.1 from wri (by omega) (by omega)] at c3
  refine ⟨by simp only [bXh,bX4];omega,?_,?_,?_⟩
  ·intro y hy
   rcases bWv.1 hy with hy | hy
   ·exact hf.val y hy
   ·rw [bWt.1 hy];exact c1
  ·intro y hy
   rw [bE8]
   simp only [rs]
   rcases bWv.1 hy with hy | hy
   ·have h1:=hf.rate y hy
    cases ha:atR x y.2.1 y.2.2.1 with
    | false=>simp only [Bool.false_and,bWr,if_false];omega
    | true=>
     have ha':=ha
     unfold atR at ha'
     simp only [bWm,beq_iff_eq] at ha'
     rw [← ha'.1,← ha'.2]
     split<;>omega
   ·rw [bWt.1 hy];split<;>omega
  ·rw [bZx]
   refine ⟨hf.pw,List.pairwise_singleton _ _,fun y hy z hz=> ?_⟩
   rw [bWt.1 hz,aHp]
   have :=(bW2.1 hy).2
   simpa using this

theorem bFl {l:List (den tUs)} {id s d:Int} (z:List (den tUs)):place (l++z) id s d=if place l id s d<0 then plc id s d l.length z else place l id s d:=by
 rw [aDn,aDn,aYs,bXl]

theorem bBc {l m:List (den tUs)} {id s d:Int} (h:l.map (fun x=>(x.1,x.2.1,x.2.2.1))=m.map (fun x=>(x.1,x.2.1,x.2.2.1))):place l id s d=place m id s d:=by
 rw [aDn,aDn,aUm l m 0 h]

theorem bCs (l:List (den tUs)) (id s d:Int):(place l id s d= -1∧(∀ x∈l,iW id s d x=false)∧tE l id s d=0∧vO l id s d=l++[(id,s,d,1)])∨
  ∃ (j:Nat) (x:den tUs),place l id s d=(j:Int)∧l[j]? =some x∧iW id s d x=true∧tE l id s d=x.2.2.2∧vO l id s d=l.set j (x.1,x.2.1,x.2.2.1,wr (x.2.2.2+1)):=by
 rcases bAu l id s d with ⟨h1,h2⟩ | ⟨j,x,h1,h2,h3⟩
 ·refine .inl ⟨h1,h2,?_,?_⟩
  ·unfold tE;rw [h1,if_pos (by decide)]
  ·unfold vO;rw [h1,if_pos (by decide)]
 ·refine .inr ⟨j,x,h1,h2,h3,?_,?_⟩
  ·unfold tE;rw [h1,if_neg (by omega),bWu,h2];rfl
  ·unfold vO;rw [h1,if_neg (by omega),bWu];simp only [h2]

theorem bJi {l:List (den tUs)} {j:Nat} {x:den tUs} (h:l[j]? =some x) (c:Int):(l.set j (x.1,x.2.1,x.2.2.1,c)).map (fun x=>(x.1,x.2.1,x.2.2.1))=l.map (fun x=>(x.1,x.2.1,x.2.2.1)):=by
 rw [List.map_set]
 apply List.ext_getElem?
 intro i
 by_cases hij:j=i
 ·subst hij
  obtain ⟨hlt,rfl⟩:=bWs.1 h
  rw [bZl (by simpa using hlt),List.getElem?_map,bWk hlt];rfl
 ·rw [List.getElem?_set_ne hij]

theorem aQ3.more {g:den tSc} {now id s d:Int} (h:aQ3 g now) (hu:tE g.2.2 id s d<oJ g id s d now) (hb:oJ g id s d now<=1000000):aQ3 (g.1,g.2.1,vO g.2.2 id s d) now:=by
 have hr: ∀ i s d,oJ (g.1,g.2.1,vO g.2.2 id s d) i s d now=oJ g i s d now:=fun _ _ _=>rfl
 intro j x hx
 have hx:(vO g.2.2 id s d)[j]? =some x:=hx
 show place (vO g.2.2 id s d) x.1 x.2.1 x.2.2.1=(j:Int)∧(1:Int)<=x.2.2.2∧oJ g x.1 x.2.1 x.2.2.1 now>=x.2.2.2
 rcases bCs g.2.2 id s d with ⟨h1,h2,h3,h4⟩ | ⟨i,y,h1,h2,h3,h4,h5⟩
 ·rw [h4] at hx ⊢
  rw [bFl]
  by_cases hj:j<g.2.2.length
  ·rw [List.getElem?_append_left hj] at hx
   obtain ⟨a,b,c⟩:=h j x hx
   rw [a,if_neg (by omega)]
   exact ⟨rfl,b,c⟩
  ·rw [List.getElem?_append_right (by omega)] at hx
   have hj0:j - g.2.2.length=0:=by
    cases hk:j - g.2.2.length with
    | zero=>rfl
    | succ k=>rw [hk] at hx;simp at hx
   rw [hj0] at hx
   simp only [bZc,Option.some.injEq] at hx
   subst hx
   have hj':j=g.2.2.length:=by omega
   simp only
   rw [h1,if_pos (by decide),hj']
   refine ⟨?_,bYd 1,?_⟩
   ·unfold plc
    rw [if_pos (show iW id s d (id,s,d,1)=true from aKr.2 ⟨rfl,rfl,rfl⟩)]
   ·rw [h3] at hu;omega
 ·rw [h5] at hx ⊢
  rw [bBc (bJi h2 _)]
  by_cases hij:i=j
  ·subst hij
   rw [bZl (bWs.1 h2).1] at hx
   simp only [Option.some.injEq] at hx
   subst hx
   obtain ⟨a,b,c⟩:=h i y h2
   obtain ⟨k1,k2,k3⟩:=aKr.1 h3
   simp only
   rw [k1,k2,k3] at a c ⊢
   rw [h4] at hu
   have hw:wr (y.2.2.2+1)=y.2.2.2+1:=wri (by omega) (by omega)
   rw [hw]
   exact ⟨a,by omega,by omega⟩
  ·rw [List.getElem?_set_ne hij] at hx
   exact h j x hx

def rr (id s d now:Int):List (den tRs)→Int
 | []=>0
 | x::l=>if x.1==id&&(atR x s d&&decide (now<=x.2.2.2.2)) then x.2.2.2.1 else rr id s d now l

theorem bAb (l:List (den tRs)) (id s d now:Int):zR l id s d now=rr id s d now l:=by
 unfold zR
 have : ∀ (l:List (den tRs)) (k:Nat),(match bZ (fun _ (x:den tRs)=>if x.1==id&&(atR x s d&&decide (now<=x.2.2.2.2)) then some x.2.2.2.1 else none) k l with
  | some r=>r
  | none=>0)=rr id s d now l:=by
  intro l
  induction l with
  | nil=>intro k;rfl
  | cons x l ih=>
   intro k
   cases hp:(x.1==id&&(atR x s d&&decide (now<=x.2.2.2.2))) with
   | true=>simp only [bZ,rr,hp,if_true]
   | false=>simp only [bZ,rr,hp];exact ih (k+1)
 exact this l 0

theorem bG8 {id s d now:Int}: ∀ {l:List (den tRs)},(∀ x∈l,(0:Int)<=x.2.2.2.1∧(20:Int)>=x.2.2.2.1)→0<=rr id s d now l∧rr id s d now l<=20
 | [],_=>by simp [rr]
 | x::l,h=>by
  have ih:=bG8 (id:=id) (s:=s) (d:=d) (now:=now) (l:=l) fun y hy=>h y (bWz _ hy)
  have hx:=h x (by simp)
  unfold rr
  split<;>omega

theorem bNi {s d now:Int}: ∀ {l:List (den tRs)},rs s d now l=0∨ ∃ x∈l,x.2.1=s∧x.2.2.1=d
 | []=> .inl rfl
 | x::l=>by
  by_cases ha:atR x s d=true
  ·unfold atR at ha
   simp only [bWm,beq_iff_eq] at ha
   exact .inr ⟨x,by simp,ha⟩
  ·rcases bNi (s:=s) (d:=d) (now:=now) (l:=l) with h | ⟨y,hy,h⟩
   ·left
    unfold rs
    rw [h];simp [ha]
   ·exact .inr ⟨y,bWz _ hy,h⟩

theorem sZ.rs_le {l:List (den tRs)} {cap now:Int} (h:sZ l cap now) (hc:0<=cap) (s d:Int):rs s d now l<=cap:=by
 rcases bNi (s:=s) (d:=d) (now:=now) (l:=l) with h0 | ⟨x,hx,h1,h2⟩
 ·omega
 ·have :=h.rate x hx;rw [h1,h2] at this;exact this

theorem bPq {l:List (den tRs)} {cap now:Int} (h:sZ l cap now) (hc:1<=cap∧cap<=20) (s d:Int):free l cap s d now=cap - rs s d now l:=by
 have h1:=h.rs_le (by omega) s d
 have h2:=aOd (s:=s) (d:=d) (now:=now) (vD h.val)
 unfold free
 rw [aLo (vD h.val) (by have :=h.len;omega),show wr (cap - rs s d now l)=cap - rs s d now l from wri (by omega) (by omega)]
 split<;>omega


structure OkS (g:den tSc) (now:Int):Prop where
 lo:(1:Int)<=g.1
 hi:(20:Int)>=g.1
 res:sZ g.2.1 g.1 now
 use:aQ3 g now

theorem bOg {g:den tSc} {now:Int}:aDj g now=true↔OkS g now:=by
 rw [bAh,bJt]
 exact ⟨fun ⟨a,b,c,d⟩=>⟨a,b,c,d⟩,fun ⟨a,b,c,d⟩=>⟨a,b,c,d⟩⟩

theorem OkS.rate_le {g:den tSc} {now:Int} (h:OkS g now) (id s d:Int):0<=oJ g id s d now∧oJ g id s d now<=20:=by
 unfold oJ
 split
 ·rw [bPq h.res ⟨h.lo,h.hi⟩]
  have h1:=h.res.rs_le (by have :=h.lo;omega) s d
  have h2:=aOd (s:=s) (d:=d) (now:=now) (vD h.res.val)
  have :=h.hi
  omega
 ·rw [bAb];exact bG8 (vD h.res.val)


abbrev bU4 (p:Int×Bool×List (den tRs)×List (den tUs)):den tSc:=(p.1,p.2.2.1,p.2.2.2)

theorem OkS.trans {g:den tSc} {now:Int} (h:OkS g now) (id s d:Int):OkS (bU4 (rC g id s d now)) now:=by
 unfold rC
 split
 ·rename_i hu
  exact ⟨h.lo,h.hi,h.res,h.use.more hu (by have :=h.rate_le id s d;omega)⟩
 ·split
  ·rename_i hu
   exact ⟨h.lo,h.hi,h.res,h.use.more hu (by have :=h.rate_le 0 s d;omega)⟩
  ·exact h

theorem OkS.pw {g:den tSc} {now:Int} (h:OkS g now):g.2.2.Pairwise fun x y=>iW x.1 x.2.1 x.2.2.1 y=false:=by
 rw [bYf]
 intro i j hi hj hij
 cases hs:iW g.2.2[i].1 g.2.2[i].2.1 g.2.2[i].2.2.1 g.2.2[j] with
 | false=>rfl
 | true=>
  obtain ⟨k1,k2,k3⟩:=aKr.1 hs
  have a:=(h.use i _ (bWk hi)).1
  have b:=(h.use j _ (bWk hj)).1
  rw [k1,k2,k3,a] at b
  omega

theorem bOq {l:List (den tRs)} {x:den tRs} {cap now:Int} (h:l.length<=1000000): ∃ b,aBc l x cap now=some (b,admR l x cap now):=by
 have hf:(l.filter fun y=> !kD x y).length<=1000000:=bWl (bZd ..) h
 unfold aBc admR pj5 zz4
 rw [show ((x.1,x.2.1,x.2.2.1,x.2.2.2.1,x.2.2.2.2):den tRs)=x from rfl,bF3 (by omega),aA,bJ4,aA,bFy (by omega),aA]
 rw [aD (b:=40) (by decide) (by simp;omega),aD (b:=40) (by decide) (by omega)]
 cases c1:uS x
 ·exact ⟨false,by simp⟩
 ·cases c2:decide (x.2.2.2.2<now)
  ·cases c3:decide (wr (rate (l.filter fun y=> !kD x y) x.2.1 x.2.2.1 now+x.2.2.2.1)>cap)
   ·cases c4:decide (((l.filter fun y=> !kD x y).length:Int)>=40)
    ·exact ⟨true,by simp only [bWo,cond_false,cond_true,aA,bX9,bWr,if_false]⟩
    ·exact ⟨false,by simp [aA]⟩
   ·exact ⟨false,by simp [aA]⟩
  ·exact ⟨false,by simp [aA]⟩

theorem aPh {code:List Int} (hl:code.length<=1048576) {i:Int} (h:0<=i): ∃ v,zX code i=some v:=by
 obtain ⟨m,rfl⟩:=bXe h
 unfold zX
 by_cases hm:m<code.length
 ·exact ⟨wr code[m],by rw [decide_eq_true (by omega),cond_true,aG,bWk hm,aA]⟩
 ·exact ⟨Int.tmod (wr ((wr ((m:Int) * (31:Int)))+(wr ((code.length:Int) * (7:Int))))) (256:Int),by rw [decide_eq_false (by omega),cond_false]⟩

theorem aZ5 {a b:List (den tRs)} (h:a.length<=1073741824): ∃ v,pN a b=some v∧(a=b→v=true):=by
 unfold pN zz4
 by_cases hn:a.length=b.length
 ·rw [hn,bne_self_eq_false,cond_false,← hn]
  refine jJ (G:=fun o=> ∃ v,o=some v∧(a=b→v=true)) (fun (n:Nat) (s:Int)=> ∃ k:Nat,s=(k:Int)∧k+n=a.length) (fun (r:Unit⊕Bool)=>a=b→r= .inl ()) ?_ a.length _ ⟨0,rfl,by omega⟩ ?_
  ·rintro n _ ⟨k,rfl,hk⟩
   cases n with
   | zero=>exact .inl ⟨.inl (),by simp only [decide_eq_false (show ¬ (k:Int)<(a.length:Int) by omega),cond_false],fun _=>rfl⟩
   | succ n=>
    have h1:k<a.length:=by omega
    have h2:k<b.length:=by omega
    simp only [decide_eq_true (show (k:Int)<(a.length:Int) by omega),cond_true,aG,bWk h1,bWk h2,aA]
    cases hc:((a[k].1==b[k].1)&&((a[k].2.1==b[k].2.1)&&((a[k].2.2.1==b[k].2.2.1)&&((a[k].2.2.2.1==b[k].2.2.2.1)&&((a[k].2.2.2.2==b[k].2.2.2.2)&&true))))) with
    | true=>
     refine .inr ⟨n,((k+1:Nat):Int),by omega,?_,k+1,rfl,by omega⟩
     simp only [bWo,cond_false]
     rw [show wr ((k:Int)+1)=((k+1:Nat):Int) from by rw [show wr ((k:Int)+1)=(k:Int)+1 from wri (by omega) (by omega)];omega]
    | false=>
     refine .inl ⟨.inr false,by simp only [bWw,cond_true],fun e=> ?_⟩
     subst e
     simp at hc
  ·intro r hr
   cases r with
   | inl u=>exact ⟨true,rfl,fun _=>rfl⟩
   | inr v=>exact ⟨v,rfl,fun e=>by cases hr e⟩
 ·rw [show ((a.length:Int) != (b.length:Int))=true by rw [bne_iff_ne];omega,cond_true]
  exact ⟨false,rfl,fun e=>absurd (congrArg bW0 e) hn⟩

theorem bKf {a b:den tSc} (h1:a.2.1.length<=1073741824) (h2:a.2.2.length<=1073741824): ∃ v,pB a b=some v∧(a=b→v=true):=by
 obtain ⟨v1,e1,k1⟩:=aZ5 (b:=b.2.1) h1
 unfold pB
 rw [e1,aA]
 cases hc:(a.1 != b.1) with
 | true=>exact ⟨false,rfl,fun e=>by subst e;simp at hc⟩
 | false=>
  cases v1 with
  | false=>exact ⟨false,rfl,fun e=>by subst e;cases k1 rfl⟩
  | true=>
   by_cases hn:a.2.2.length=b.2.2.length
   ·simp only [cond_false,bWo,hn,bne_self_eq_false,aA]
    rw [← hn]
    refine jJ (G:=fun o=> ∃ v,o=some v∧(a=b→v=true)) (fun (n:Nat) (s:Int)=> ∃ k:Nat,s=(k:Int)∧k+n=a.2.2.length) (fun (r:Unit⊕Bool)=>a=b→r= .inl ()) ?_ a.2.2.length _ ⟨0,rfl,by omega⟩ ?_
    ·rintro n _ ⟨k,rfl,hk⟩
     cases n with
     | zero=>exact .inl ⟨.inl (),by simp only [decide_eq_false (show ¬ (k:Int)<(a.2.2.length:Int) by omega),cond_false],fun _=>rfl⟩
     | succ n=>
      have h3:k<a.2.2.length:=by omega
      have h4:k<b.2.2.length:=by omega
      simp only [decide_eq_true (show (k:Int)<(a.2.2.length:Int) by omega),cond_true,aG,bWk h3,bWk h4,aA]
      cases hc:((a.2.2[k].1==b.2.2[k].1)&&((a.2.2[k].2.1==b.2.2[k].2.1)&&((a.2.2[k].2.2.1==b.2.2[k].2.2.1)&&((a.2.2[k].2.2.2==b.2.2[k].2.2.2)&&true)))) with
      | true=>
       refine .inr ⟨n,((k+1:Nat):Int),by omega,?_,k+1,rfl,by omega⟩
       simp only [bWo,cond_false]
       rw [show wr ((k:Int)+1)=((k+1:Nat):Int) from by rw [show wr ((k:Int)+1)=(k:Int)+1 from wri (by omega) (by omega)];omega]
      | false=>
       refine .inl ⟨.inr false,by simp only [bWw,cond_true],fun e=> ?_⟩
       subst e
       simp at hc
    ·intro r hr
     cases r with
     | inl u=>exact ⟨true,rfl,fun _=>rfl⟩
     | inr v=>exact ⟨v,rfl,fun e=>by cases hr e⟩
   ·simp only [cond_false,bWo,aA]
    rw [show ((a.2.2.length:Int) != (b.2.2.length:Int))=true by rw [bne_iff_ne];omega,cond_true]
    exact ⟨false,rfl,fun e=>absurd (by rw [e]) hn⟩

theorem bD3 {a:den tSc} (h1:a.2.1.length<=1073741824) (h2:a.2.2.length<=1073741824):pB a a=some true:=by
 obtain ⟨v,e,k⟩:=bKf (b:=a) h1 h2
 rw [e,k rfl]

theorem aB4 {l:List Int} {n x:Int} (h:x∈oG l n):x=n∨x∈l:=by
 unfold oG at h
 split at h
 ·exact .inr h
 ·simp only [bWv,bWt] at h
  rcases h with (h | h) | h
  ·exact .inr (bX2 h)
  ·exact .inl h
  ·exact .inr (bX7 h)

theorem bFo {r d:Int} {x:den tLk} {a:List Int} (h:d∈nL r x a):cM x r d=true∨d∈a:=by
 unfold nL at h
 unfold cM
 cases c1:x.1==r<;>cases c2:x.2.2.1==r<;>rw [c1,c2] at h<;>simp only [cond_true,cond_false] at h
 ·exact .inr h
 ·rcases aB4 h with e | h
  ·left;simp [e]
  ·exact .inr h
 ·rcases aB4 h with e | h
  ·left;simp [e]
  ·exact .inr h
 ·rcases aB4 h with e | h
  ·left;simp [e]
  ·rcases aB4 h with e | h
   ·left;simp [e]
   ·exact .inr h

theorem bDo {t:den tTo} {r d:Int} (h:d∈fL t r): ∃ x∈t.2,cM x r d=true:=by
 have : ∀ (l:List (den tLk)) (k:Nat) (a:List Int),d∈cG (fun _ x a=>nL r x a) k l a→(∃ x∈l,cM x r d=true)∨d∈a:=by
  intro l
  induction l with
  | nil=>intro k a h;exact .inr h
  | cons x l ih=>
   intro k a h
   rcases ih (k+1) (nL r x a) h with ⟨y,hy,e⟩ | h
   ·exact .inl ⟨y,bWz _ hy,e⟩
   ·rcases bFo h with e | h
    ·exact .inl ⟨x,by simp,e⟩
    ·exact .inr h
 rcases this t.2 0 [] h with h | h
 ·exact h
 ·cases h

theorem aUv {t:den tTo} {r d:Int} (h: ∃ x∈t.2,cM x r d=true): ∃ (j:Nat) (x:den tLk),oM t r d=(j:Int)∧t.2[j]? =some x∧cM x r d=true:=by
 rcases aDl t r d with e | h
 ·exfalso
  have : ∀ (l:List (den tLk)) (k:Nat),(∃ x∈l,cM x r d=true)→ ∃ i,bZ (fun k x=>if cM x r d then some ((k:Nat):Int) else none) k l=some i∧0<=i:=by
   intro l
   induction l with
   | nil=>rintro k ⟨x,hx,_⟩;cases hx
   | cons y l ih=>
    rintro k ⟨x,hx,hxe⟩
    cases c:cM y r d with
    | true=>exact ⟨(k:Int),by simp [bZ,c],by omega⟩
    | false=>
     rcases bWp.1 hx with rfl | hx
     ·rw [c] at hxe;cases hxe
     ·obtain ⟨i,h1,h2⟩:=ih (k+1) ⟨x,hx,hxe⟩
      exact ⟨i,by simp only [bZ,c];exact h1,h2⟩
  obtain ⟨i,h1,h2⟩:=this t.2 0 h
  unfold oM at e
  rw [h1] at e
  have e:i= -1:=e
  omega
 ·exact h


theorem bEk {t:den tTo} (hv: ∀ x∈t.2,yC t x=true) {r d:Int} (h:d∈fL t r):cK t (remote t r d).1=true:=by
 obtain ⟨j,x,e,hx,he⟩:=aUv (bDo h)
 have hl:=hv x (bWx hx)
 unfold remote
 rw [e,if_neg (by omega),bWu,hx]
 unfold yC at hl
 simp only [bWm] at hl
 unfold aZ1
 simp only [Option.getD_some]
 cases x.1==r&&x.2.1==d with
 | true=>exact hl.2.1
 | false=>exact hl.1

theorem bFq {t:den tTo} {r k:Int} (h:t.2.length<=1000000): ∃ l,gO t r k=some l∧l.length<=2 * t.2.length∧ ∀ d∈l,d∈fL t r:=by
 have hd:=aDf t r
 unfold gO ixb pj2
 rw [show ((t.1,t.2):den tTo)=t from rfl,aLi (t:=t) (by omega),aA]
 refine bS (G:=fun o=> ∃ l,o=some l∧l.length<=2 * t.2.length∧ ∀ d∈l,d∈fL t r) (fL t r).length (fun s:Int×List Int=>s.1) (fun i s=>s.2.length<=i∧ ∀ d∈s.2,d∈fL t r) (fun l:List Int=>l.length<=2 * t.2.length∧ ∀ d∈l,d∈fL t r) ?_ ?_ 0 ((0:Int),[]) (by omega) rfl ⟨by simp,fun d hd=>(bW9 hd).elim⟩ (fun l hl=>⟨l,rfl,hl⟩)
 ·rintro i ⟨_,l⟩ hi rfl ⟨h1,h2⟩
  right
  simp only at h1 h2
  simp only [decide_eq_true (show (i:Int)<((fL t r).length:Int) by omega),decide_eq_true (show (0:Int)<=(i:Int) by omega),cond_true,bWu,bWk hi,aA,aRq (t:=t) (show t.2.length<=68719476736 by omega),aW (show i<=1000000000 by omega)]
  rw [aD (b:=8) (n:=l.length) (m:=1) (by decide) (by omega),cond_true]
  cases aAj t r (fL t r)[i]==k with
  | true=>exact ⟨_,rfl,rfl,by simp;omega,fun d hd=>by
    rcases bWv.1 hd with hd | hd
    ·exact h2 d hd
    ·rw [bWt.1 hd];exact bWy hi⟩
  | false=>exact ⟨_,rfl,rfl,by show l.length<=i+1;omega,h2⟩
 ·rintro ⟨_,l⟩ rfl ⟨h1,h2⟩
  exact ⟨l,by simp only [decide_eq_false (bW1 _),cond_false],by simp only at h1;omega,h2⟩

theorem aF8 (l:List Int) (n:Int):n∈oG l n:=by
 unfold oG
 split
 ·next h=>exact bWx h
 ·simp

theorem aCo {l:List Int} {n x:Int} (h:x∈l):x∈oG l n:=by
 unfold oG
 split
 ·exact h
 ·rw [← bX8 (jD l n) l] at h
  simp only [bWv,bWt] at h ⊢
  rcases h with h | h
  ·exact .inl (.inl h)
  ·exact .inr h

theorem bKq {l:List Int} {n:Int} (h:n∉l):(oG l n).length=l.length+1:=by
 unfold oG
 rw [if_neg (fun e=>h (bWx e))]
 have :=aQl l n
 simp
 omega

theorem bF2 {r d:Int} {x:den tLk} {a:List Int} (h:d∈a):d∈nL r x a:=by
 unfold nL
 cases x.2.2.1==r<;>cases x.1==r<;>simp only [cond_true,cond_false]
 ·exact h
 ·exact aCo h
 ·exact aCo h
 ·exact aCo (aCo h)

theorem bEb {r d:Int} {x:den tLk} {a:List Int} (h:cM x r d=true):d∈nL r x a:=by
 unfold cM at h
 unfold nL
 simp only [bXz,bWm] at h
 rcases h with ⟨h1,h2⟩ | ⟨h1,h2⟩
 ·rw [h1,eq_of_beq h2]
  cases x.2.2.1==r<;>simp only [cond_true,cond_false]
  ·exact aF8 _ _
  ·exact aCo (aF8 _ _)
 ·rw [h1,eq_of_beq h2]
  cases x.1==r<;>simp only [cond_true,cond_false]<;>exact aF8 _ _

theorem aH5 (as:List (den tAS)) (ls:List (den tLk)) (r:Int):fL (as,ls) r=ls.foldl (fun a x=>nL r x a) []:=uZ (fun a x=>nL r x a) ls 0 []

theorem bEh {as:List (den tAS)} {ls:List (den tLk)} {r d:Int} {x:den tLk} (hx:x∈ls) (h:cM x r d=true):d∈fL (as,ls) r:=by
 rw [aH5]
 have keep: ∀ (l:List (den tLk)) (a:List Int),d∈a→d∈l.foldl (fun a x=>nL r x a) a:=by
  intro l
  induction l with
  | nil=>exact fun a h=>h
  | cons y l ih=>exact fun a h=>ih _ (bF2 h)
 have : ∀ (l:List (den tLk)) (a:List Int),x∈l→d∈l.foldl (fun a x=>nL r x a) a:=by
  intro l
  induction l with
  | nil=>exact fun a h=>(bW9 h).elim
  | cons y l ih=>
   intro a hm
   rcases bWp.1 hm with rfl | hm
   ·exact keep l _ (bEb h)
   ·exact ih _ hm
 exact this ls [] hx


structure qD (ls:List (den tLk)):Prop where
 num: ∀ r d:Int,d∈fL ([],ls) r→1<=d∧d<=((fL ([],ls) r).length:Int)
 pw:ls.Pairwise fun y x=>cM y x.1 x.2.1=false∧cM y x.2.2.1 x.2.2.2.1=false

theorem bCo:qD []:=⟨fun r d h=>(bW9 h).elim,List.Pairwise.nil⟩

theorem qD.no {ls:List (den tLk)} (h:qD ls) {y:den tLk} (hy:y∈ls) (r:Int):cM y r (((fL ([],ls) r).length:Int)+1)=false:=by
 cases e:cM y r (((fL ([],ls) r).length:Int)+1) with
 | false=>rfl
 | true=>have :=(h.num r _ (bEh hy e)).2;omega

theorem qD.grow {L:List Int} (h: ∀ d∈L,(1:Int)<=d∧d<=(L.length:Int)): ∀ d∈oG L ((L.length:Int)+1),(1:Int)<=d∧d<=((oG L ((L.length:Int)+1)).length:Int):=by
 have hn:((L.length:Int)+1)∉L:=fun e=>by have :=(h _ e).2;omega
 rw [bKq hn]
 intro d hd
 rcases aB4 hd with rfl | hd
 ·omega
 ·have :=h d hd;omega

theorem qD.snoc {ls:List (den tLk)} (h:qD ls) {a b:Int} (hab:a≠b) (k:Int):qD (ls++[(a,((fL ([],ls) a).length:Int)+1,b,((fL ([],ls) b).length:Int)+1,k)]):=by
 constructor
 ·intro r
  rw [aH5,List.foldl_append,← aH5]
  show ∀ d,d∈nL r _ _→_∧_<=((nL r _ _).length:Int)
  unfold nL
  by_cases ha:a=r
  ·subst ha
   have hb:(b==a)=false:=by simp;exact fun e=>hab e.symm
   simp only [hb,beq_self_eq_true,cond_true,cond_false]
   exact qD.grow (h.num a)
  ·have ha':(a==r)=false:=by simpa using ha
   by_cases hb:b=r
   ·subst hb
    simp only [ha',beq_self_eq_true,cond_true,cond_false]
    exact qD.grow (h.num b)
   ·have hb':(b==r)=false:=by simpa using hb
    simp only [ha',hb',cond_false]
    exact h.num r
 ·rw [bZx]
  refine ⟨h.pw,List.pairwise_singleton _ _,fun y hy x hx=> ?_⟩
  rw [bWt.1 hx]
  exact ⟨h.no hy a,h.no hy b⟩

theorem aF2 {t:den tTo} {a b k:Int} (h:t.2.length<=1000000) (hab:a≠b) (hf:qD t.2): ∃ ls,tK t a b k=some (t.1,ls)∧ls.length<=t.2.length+1∧qD ls:=by
 have la:=aDf t a
 have lb:=aDf t b
 unfold tK pj2
 rw [show ((t.1,t.2):den tTo)=t from rfl,aLi (t:=t) (by omega),aLi (t:=t) (by omega),aA,aA,aD (b:=40) (n:=t.2.length) (m:=1) (by decide) (by omega)]
 have w1:wr (((fL t a).length:Int)+1)=((fL t a).length:Int)+1:=bF (by omega) (by omega)
 have w2:wr (((fL t b).length:Int)+1)=((fL t b).length:Int)+1:=bF (by omega) (by omega)
 cases decide (wr (((fL t a).length:Int)+1)<=6) with
 | false=>exact ⟨t.2,rfl,by omega,hf⟩
 | true=>
  cases decide (wr (((fL t b).length:Int)+1)<=6) with
  | false=>exact ⟨t.2,rfl,by omega,hf⟩
  | true=>
   refine ⟨t.2++[(a,wr (((fL t a).length:Int)+1),b,wr (((fL t b).length:Int)+1),k)],rfl,by simp,?_⟩
   rw [w1,w2]
   exact hf.snoc hab k


def AsI (as:List (den tAS)):Prop:= ∀ (j:Nat) (x:den tAS),as[j]? =some x→((0:Int)<=x.1∧(1:Int)>=x.1)∧ ∃ v:Int,0<=v∧v<1000000∧1+8 * v+(j:Int)=x.2.2

theorem bPl:AsI []:=fun j x h=>by simp at h

theorem AsI.snoc {as:List (den tAS)} (h:AsI as) {d v:Int} {b:Bool} (hd:0<=d∧1>=d) (hv:0<=v∧v<1000000):AsI (as++[(d,b,1+8 * v+(as.length:Int))]):=by
 intro j x hx
 rw [List.getElem?_append] at hx
 split at hx
 ·exact h j x hx
 ·next hj=>
  have hj0:j - as.length=0:=by
   have :=(bWs.1 hx).1
   simp at this
   omega
  rw [hj0] at hx
  simp only [bZc,Option.some.injEq] at hx
  subst hx
  exact ⟨hd,v,hv.1,hv.2,by show 1+8 * v+(j:Int)=1+8 * v+(as.length:Int);omega⟩

theorem AsI.set {as:List (den tAS)} (h:AsI as) {i q:Nat} (hi:i<as.length) (hq:q<as.length):AsI (as.set i (as[q].1,as[i].2.1,as[i].2.2)):=by
 intro j x hx
 rw [List.getElem?_set] at hx
 split at hx
 ·next e=>
  subst e
  simp only [hi,if_true,Option.some.injEq] at hx
  subst hx
  exact ⟨(h q as[q] (bWk hq)).1,(h i as[i] (bWk hi)).2⟩
 ·exact h j x hx

theorem aYe {α:Type} (p:Nat→α→Bool) {l:List α} (h: ∀ (j:Nat) (x:α),l[j]? =some x→p j x=true):(l.zipIdx 0).all (fun z=>p z.2 z.1)=true:=by
 rw [bXb]
 rintro ⟨x,j⟩ hm
 exact h j x (by simpa using List.mem_zipIdx_iff_getElem?.1 hm)

theorem aFx {α:Type} {l:List α} {j:Nat} {y:α} (h:y∈l.take j): ∃ i,i<j∧l[i]? =some y:=by
 obtain ⟨i,hi⟩:=bZw.1 h
 rw [bXx] at hi
 split at hi
 ·next c=>exact ⟨i,c,hi⟩
 ·cases hi

theorem bPv {as:List (den tAS)} {ls:List (den tLk)} (h1:1<=as.length) (h8:as.length<=8) (ha:AsI as) (hv: ∀ x∈ls,yC (as,ls) x=true) (hp:ls.Pairwise fun y x=>cM y x.1 x.2.1=false∧cM y x.2.2.1 x.2.2.2.1=false):aBp (as,ls)=true:=by
 unfold aBp
 rw [bWm,bWm]
 refine ⟨?_,?_,?_⟩
 ·simp only [inR,bWm,decide_eq_true_eq];omega
 ·refine aYe (asP (as,ls)) (l:=as) fun j x hx=> ?_
  obtain ⟨⟨a0,a1⟩,v,v0,v1,v2⟩:=ha j x hx
  have hj:j<as.length:=(bWs.1 hx).1
  have v2:1+8 * v+(j:Int)=x.2.2:=v2
  unfold asP
  simp only [bWm,inR,decide_eq_true_eq]
  refine ⟨⟨a0,show (2:Int)>=x.1 by omega⟩,⟨show (1:Int)<=x.2.2 by omega,show (2147483646:Int)>=x.2.2 by omega⟩,bXb.2 fun y hy=> ?_⟩
  obtain ⟨i,hi,hy⟩:=aFx hy
  obtain ⟨_,w,w0,w1,w2⟩:=ha i y hy
  have w2:1+8 * w+(i:Int)=y.2.2:=w2
  have :x.2.2≠y.2.2:=fun e=>by
   have e:1+8 * v+(j:Int)=1+8 * w+(i:Int):=v2.trans (e.trans w2.symm)
   omega
  simpa using this
 ·refine aYe (lkP (as,ls)) (l:=ls) fun j x hx=> ?_
  unfold lkP
  rw [bWm]
  refine ⟨hv x (bWx hx),bXb.2 fun y hy=> ?_⟩
  obtain ⟨i,hi,hy⟩:=aFx hy
  obtain ⟨hi',ei⟩:=bWs.1 hy
  obtain ⟨hj',ej⟩:=bWs.1 hx
  have :=(bYf.1 hp) i j hi' hj' hi
  rw [ei,ej] at this
  simp [this.1,this.2]


structure aAv (as:List (den tAS)) (ls:List (den tLk)):Prop where
 pos:1<=as.length
 len:as.length<=8
 links:ls.length<=100
 val: ∀ x∈ls,yC (as,ls) x=true
 top:aBp (as,ls)=true

def aWc (code:List Int) (o:Option (List (den tAS)×List (den tLk)×List Int×Int×Int)):Prop:= ∃ as ls c' p' h',o=some (as,ls,c',p',h')∧aAv as ls∧Cur code (c',p',h')

def T3I (code:List Int) (n:Nat) (i:Nat) (s:Int×List (den tAS)×List (den tLk)×List Int×Int×Int):Prop:=(s.2.1.length=n∧AsI s.2.1∧qD s.2.2.1)∧s.2.2.1.length<=10 * i∧Cur code s.2.2.2

theorem aYz {code:List Int} (hl:code.length<=1048576) {c:List Int} {p h:Int} (hc:Cur code (c,p,h)):aWc code (vC (c,p,h)):=by
 obtain ⟨v1,c1,p1,h1,e1,r1,k1⟩:=aX hl (n:=3) (by decide) (by decide) hc
 obtain ⟨v2,c2,p2,h2,e2,r2,k2⟩:=aX hl (n:=6) (by decide) (by decide) k1
 obtain ⟨m1,rfl⟩:=bXe r1.1
 obtain ⟨m2,rfl⟩:=bXe r2.1
 have w1:wr ((1:Int)+(m1:Int))=((m1+1:Nat):Int):=by rw [bF (by omega) (by omega)];omega
 have w2:wr (((m1+1:Nat):Int)+(m2:Int))=((m1+1+m2:Nat):Int):=by rw [bF (by omega) (by omega)];omega
 unfold vC ixb pj2 pj3 pj4 pj5
 simp only [e1,e2,aA,aV,bH,bA,aZ,bC,w1,w2]
 generalize hco:m1+1=co at *
 generalize hn:co+m2=n at *
 have hco1:1<=co:=by omega
 have hcn:co<=n:=by omega
 have hn8:n<=8:=by omega
 refine bS (G:=aWc code) n (fun s:Int×List (den tAS)×List Int×Int×Int=>s.1) (fun i s=>(s.2.1.length=i∧AsI s.2.1)∧Cur code s.2.2) (fun r:List (den tAS)×List Int×Int×Int=>(r.1.length=n∧AsI r.1)∧Cur code r.2) ?_ ?_ 0 ((0:Int),[],c2,p2,h2) (by omega) rfl ⟨⟨rfl,bPl⟩,k2⟩ ?_
 ·rintro i ⟨_,as,c3,p3,h3⟩ hi rfl ⟨⟨a1,a3⟩,a2⟩
  simp only at a1 a2 a3
  right
  obtain ⟨v4,c4,p4,h4,e4,r4,k4⟩:=aX hl (n:=2) (by decide) (by decide) a2
  obtain ⟨v5,c5,p5,h5,e5,r5,k5⟩:=aGl hl (n:=1000000) (by decide) k4
  refine ⟨(((i+1:Nat):Int),as++[(v4,decide ((i:Int)<((co:Nat):Int)),wr ((wr ((1:Int)+(wr (v5 * (8:Int)))))+(i:Int)))],c5,p5,h5),?_,rfl,⟨by simp [a1],?_⟩,k5⟩
  simp only [decide_eq_true (show (i:Int)<(n:Int) by omega),cond_true,e4,e5,aA,aD (b:=24) (n:=as.length) (m:=1) (by decide) (by omega),aW (show i<=1000000000 by omega)]
  have e:wr ((wr ((1:Int)+(wr (v5 * (8:Int)))))+(i:Int))=1+8 * v5+(as.length:Int):=by
   rw [bF (n:=v5 * 8) (by omega) (by omega),bF (n:=1+v5 * 8) (by omega) (by omega),bF (by omega) (by omega)]
   omega
  show AsI (as++[_])
  rw [e]
  exact a3.snoc ⟨by omega,by omega⟩ ⟨by omega,by omega⟩
 ·rintro ⟨_,as,c3,p3,h3⟩ rfl ⟨a1,a2⟩
  exact ⟨(as,c3,p3,h3),by simp only [decide_eq_false (bW1 _),cond_false],a1,a2⟩
 rintro ⟨as,c3,p3,h3⟩ ⟨⟨a1,a3⟩,a2⟩
 simp only at a1 a2 a3
 refine bS (G:=aWc code) co (fun s:Int×List (den tAS)×List (den tLk)×List Int×Int×Int=>s.1) (fun i s=>1<=i∧T3I code n i s) (fun r:List (den tAS)×List (den tLk)×List Int×Int×Int=>(r.1.length=n∧AsI r.1∧qD r.2.1)∧r.2.1.length<=10 * co∧Cur code r.2.2) ?_ ?_ 1 ((1:Int),as,[],c3,p3,h3) hco1 rfl ⟨bW3 1,⟨a1,a3,bCo⟩,by simp,a2⟩ ?_
 ·rintro i ⟨_,as,ls,c4,p4,h4⟩ hi rfl ⟨b0,b1,b2,b3⟩
  simp only at b1 b2 b3
  right
  obtain ⟨v5,c5,p5,h5,e5,r5,k5⟩:=aX hl (n:=(i:Int)) (by omega) (by omega) b3
  obtain ⟨l6,e6,r6,f6⟩:=aF2 (t:=(as,ls)) (a:=v5) (b:=(i:Int)) (k:=1) (by show ls.length<=_;omega) (by omega) b1.2.2
  obtain ⟨v7,c7,p7,h7,e7,k7⟩:=sY hl (n:=2) (by decide) (by decide) k5
  simp only at e6 r6
  cases v7 with
  | false=>
   refine ⟨(((i+1:Nat):Int),as,l6,c7,p7,h7),?_,rfl,by omega,⟨b1.1,b1.2.1,f6⟩,by simp only;omega,k7⟩
   simp only [decide_eq_true (show (i:Int)<(co:Int) by omega),cond_true,cond_false,e5,e6,e7,aA,aW (show i<=1000000000 by omega)]
  | true=>
   obtain ⟨v8,c8,p8,h8,e8,r8,k8⟩:=aX hl (n:=(i:Int)) (by omega) (by omega) k7
   obtain ⟨l9,e9,r9,f9⟩:=aF2 (t:=(as,l6)) (a:=v8) (b:=(i:Int)) (k:=1) (by show l6.length<=_;omega) (by omega) f6
   simp only at e9 r9
   refine ⟨(((i+1:Nat):Int),as,l9,c8,p8,h8),?_,rfl,by omega,⟨b1.1,b1.2.1,f9⟩,by simp only;omega,k8⟩
   simp only [decide_eq_true (show (i:Int)<(co:Int) by omega),cond_true,e5,e6,e7,e8,e9,aA,aW (show i<=1000000000 by omega)]
 ·rintro ⟨_,as,ls,c4,p4,h4⟩ rfl ⟨b0,b1,b2,b3⟩
  exact ⟨(as,ls,c4,p4,h4),by simp only [decide_eq_false (bW1 _),cond_false],b1,b2,b3⟩
 rintro ⟨as,ls,c4,p4,h4⟩ ⟨b1,b2,b3⟩
 simp only at b1 b2 b3
 refine bS (G:=aWc code) n (fun s:Int×List (den tAS)×List (den tLk)×List Int×Int×Int=>s.1) (fun i s=>1<=i∧co<=i∧T3I code n i s) (fun r:List (den tAS)×List (den tLk)×List Int×Int×Int=>(r.1.length=n∧AsI r.1∧qD r.2.1)∧r.2.1.length<=10 * n∧Cur code r.2.2) ?_ ?_ co (((co:Nat):Int),as,ls,c4,p4,h4) hcn rfl ⟨hco1,bW3 co,b1,b2,b3⟩ ?_
 ·rintro i ⟨_,as,ls,c5,p5,h5⟩ hi rfl ⟨d0,d1,⟨d2,d5,d6⟩,d3,d4⟩
  simp only at d2 d3 d4 d5 d6
  right
  have hlen:(as.length:Int)=(n:Int):=by omega
  obtain ⟨v6,c6,p6,h6,e6,r6,k6⟩:=aX hl (n:=2) (by decide) (by decide) d4
  obtain ⟨m6,rfl⟩:=bXe r6.1
  have w6:wr ((1:Int)+(m6:Int))=((m6+1:Nat):Int):=by rw [bF (by omega) (by omega)];omega
  simp only [hlen,decide_eq_true (show (i:Int)<(n:Int) by omega),cond_true,e6,w6,aA,Option.bind_assoc]
  refine jJ (G:=fun o=> ∃ s',o=some (bWj s')∧s'.1=((i+1:Nat):Int)∧1<=i+1∧co<=i+1∧T3I code n (i+1) s') (fun (m:Nat) (s:Int×List (den tAS)×List (den tLk)×List Int×Int×Int)=>s.1=(m:Int)∧m<=2∧(s.2.1.length=n∧AsI s.2.1∧qD s.2.2.1)∧s.2.2.1.length+m<=10 * i+2∧Cur code s.2.2.2) (fun r:List (den tAS)×List (den tLk)×List Int×Int×Int=>(r.1.length=n∧AsI r.1∧qD r.2.1)∧r.2.1.length<=10 * i+2∧Cur code r.2.2) ?_ (m6+1) (((m6+1:Nat):Int),as,ls,c6,p6,h6) ⟨rfl,by omega,⟨d2,d5,d6⟩,by simp only;omega,k6⟩ ?_
  ·rintro m ⟨_,as,ls,c7,p7,h7⟩ ⟨rfl,f1,⟨f2,f5,f6⟩,f3,f4⟩
   simp only at f2 f3 f4 f5 f6
   cases m with
   | zero=>exact .inl ⟨(as,ls,c7,p7,h7),rfl,⟨f2,f5,f6⟩,by simpa using f3,f4⟩
   | succ m=>
    right
    obtain ⟨v8,c8,p8,h8,e8,r8,k8⟩:=aX hl (n:=(i:Int)) (by omega) (by omega) f4
    obtain ⟨q8,rfl⟩:=bXe r8.1
    obtain ⟨v9,c9,p9,h9,e9,k9⟩:=sY hl (n:=5) (by decide) (by decide) k8
    have hq:q8<n:=by omega
    have hlen:(as.length:Int)=(n:Int):=by omega
    have hq1:as[q8]? =some (as[q8]'(by omega)):=bWk (by omega)
    have hi1:as[i]? =some (as[i]'(by omega)):=bWk (by omega)
    have wm:wr (((m+1:Nat):Int) - 1)=(m:Int):=by rw [bF (by omega) (by omega)];omega
    have fin: ∀ (as':List (den tAS)) (c p h:_),as'.length=n→AsI as'→Cur code (c,p,h)→ ∃ s',(Option.bind (cond (decide ((0:Int)<=(q8:Int))) (cond (decide ((q8:Int)<(as'.length:Int))) (Option.bind as'[((q8:Nat):Int).toNat]? fun x79=>cond (decide ((0:Int)<=(i:Int))) (cond (decide ((i:Int)<(as'.length:Int))) (Option.bind as'[((i:Nat):Int).toNat]? fun x80=>cond (x79.1==x80.1) (Option.bind (tK (as',ls) (q8:Int) (i:Int) (2:Int)) fun y81=>some (y81.1,y81.2,c,p,h)) (some (as',ls,c,p,h))) none) none) none) none) fun (s82:List (den tAS)×List (den tLk)×List Int×Int×Int)=>some (bWj (wr (((m+1:Nat):Int) - (1:Int)),s82.1,s82.2.1,s82.2.2.1,s82.2.2.2.1,s82.2.2.2.2)):Option ((Int×List (den tAS)×List (den tLk)×List Int×Int×Int)⊕(List (den tAS)×List (den tLk)×List Int×Int×Int)))=some (bWj s')∧s'.1=(m:Int)∧m<=2∧(s'.2.1.length=n∧AsI s'.2.1∧qD s'.2.2.1)∧s'.2.2.1.length+m<=10 * i+2∧Cur code s'.2.2.2:=by
     intro as' c p h g1 g3 g2
     have hl':(as'.length:Int)=(n:Int):=by omega
     have hq1:as'[q8]? =some (as'[q8]'(by omega)):=bWk (by omega)
     have hi1:as'[i]? =some (as'[i]'(by omega)):=bWk (by omega)
     simp only [hl',decide_eq_true (show (0:Int)<=(q8:Int) by omega),decide_eq_true (show (q8:Int)<(n:Int) by omega),decide_eq_true (show (0:Int)<=(i:Int) by omega),decide_eq_true (show (i:Int)<(n:Int) by omega),cond_true,bWu,hq1,hi1,aA,wm]
     obtain ⟨l6,e6,r6,z6⟩:=aF2 (t:=(as',ls)) (a:=(q8:Int)) (b:=(i:Int)) (k:=2) (by show ls.length<=_;omega) (by omega) f6
     simp only at e6 r6
     cases (as'[q8]'(by omega)).1==(as'[i]'(by omega)).1 with
     | true=>exact ⟨_,by simp only [cond_true,e6,aA];rfl,rfl,by omega,⟨g1,g3,z6⟩,by simp only;omega,g2⟩
     | false=>exact ⟨_,by simp only [cond_false,aA];rfl,rfl,by omega,⟨g1,g3,f6⟩,by simp only;omega,g2⟩
    cases v9 with
    | true=>
     obtain ⟨s',g1,g2⟩:=fin as c9 p9 h9 f2 f5 k9
     refine ⟨m,s',by omega,?_,g2⟩
     rw [← g1]
     simp only [decide_eq_true (show ((m+1:Nat):Int)>0 by omega),cond_true,cond_false,e8,e9,aA,bWo]
    | false=>
     obtain ⟨s',g1,g2⟩:=fin (as.set i ((as[q8]'(by omega)).1,(as[i]'(by omega)).2.1,(as[i]'(by omega)).2.2)) c9 p9 h9 (by simp [f2]) (f5.set (by omega) (by omega)) k9
     refine ⟨m,s',by omega,?_,g2⟩
     rw [← g1]
     simp only [decide_eq_true (show ((m+1:Nat):Int)>0 by omega),cond_true,e8,e9,aA,bWw,hlen,decide_eq_true (show (0:Int)<=(q8:Int) by omega),decide_eq_true (show (q8:Int)<(n:Int) by omega),decide_eq_true (show (0:Int)<=(i:Int) by omega),decide_eq_true (show (i:Int)<(n:Int) by omega),bWu,hq1,hi1]
  ·rintro ⟨as,ls,c7,p7,h7⟩ ⟨⟨f1,f5,f6⟩,f2,f3⟩
   simp only at f1 f2 f3 f5 f6
   have w7:wr (wr ((i:Int) - (co:Int))+1)=((i - co+1:Nat):Int):=by rw [bF (n:=(i:Int) - (co:Int)) (by omega) (by omega),bF (by omega) (by omega)];omega
   obtain ⟨v8,c8,p8,h8,e8,r8,k8⟩:=aX hl (n:=((i - co+1:Nat):Int)) (by omega) (by omega) f3
   obtain ⟨v9,c9,p9,h9,e9,k9⟩:=sY hl (n:=3) (by decide) (by decide) k8
   simp only [w7,e8,aA,aW (show i<=1000000000 by omega)]
   cases hlt:decide (wr ((co:Int)+v8)<(i:Int)) with
   | false=>exact ⟨_,by simp only [cond_false,aA];rfl,rfl,by omega,by omega,⟨f1,f5,f6⟩,by simp only;omega,k8⟩
   | true=>
    have hlt':=of_decide_eq_true hlt
    obtain ⟨l6,e6,r6,z6⟩:=aF2 (t:=(as,ls)) (a:=wr ((co:Int)+v8)) (b:=(i:Int)) (k:=3) (by show ls.length<=_;omega) (by omega) f6
    simp only at e6 r6
    cases v9 with
    | false=>exact ⟨_,by simp only [cond_true,cond_false,e9,aA];rfl,rfl,by omega,by omega,⟨f1,f5,f6⟩,by simp only;omega,k9⟩
    | true=>exact ⟨_,by simp only [cond_true,e9,e6,aA];rfl,rfl,by omega,by omega,⟨f1,f5,z6⟩,by simp only;omega,k9⟩
 ·rintro ⟨_,as,ls,c5,p5,h5⟩ rfl ⟨d0,d1,⟨d2,d5⟩,d3,d4⟩
  simp only at d2 d3 d4 d5
  exact ⟨(as,ls,c5,p5,h5),by simp only [d2,decide_eq_false (bW1 _),cond_false],⟨d2,d5⟩,d3,d4⟩
 rintro ⟨as,ls,c5,p5,h5⟩ ⟨⟨d2,d5,d6⟩,d3,d4⟩
 simp only at d2 d3 d4 d5 d6
 refine bS (G:=aWc code) ls.length (fun s:Int×List (den tLk)=>s.1) (fun i s=>(s.2.length<=i∧List.Sublist s.2 (ls.take i))∧ ∀ x∈s.2,yC (as,ls) x=true) (fun r:List (den tLk)=>(r.length<=ls.length∧List.Sublist r ls)∧ ∀ x∈r,yC (as,ls) x=true) ?_ ?_ 0 ((0:Int),[]) (by omega) rfl ⟨⟨by simp,List.nil_sublist _⟩,fun d hd=>(bW9 hd).elim⟩ ?_
 ·rintro i ⟨_,l⟩ hi rfl ⟨⟨g1,g3⟩,g2⟩
  simp only at g1 g2 g3
  right
  have htk:ls.take (i+1)=ls.take i++[ls[i]]:=(List.take_append_getElem hi).symm
  simp only [decide_eq_true (show (i:Int)<(ls.length:Int) by omega),decide_eq_true (show (0:Int)<=(i:Int) by omega),cond_true,bWu,bWk hi,aA,aYg (t:=(as,ls)) (show as.length<=68719476736 by omega),aW (show i<=1000000000 by omega)]
  rw [aD (b:=40) (n:=l.length) (m:=1) (by decide) (by omega),cond_true]
  cases hv:yC (as,ls) ls[i] with
  | true=>exact ⟨_,rfl,rfl,⟨by simp;omega,by rw [htk];exact g3.append (List.Sublist.refl _)⟩,fun x hx=>by
    rcases bWv.1 hx with hx | hx
    ·exact g2 x hx
    ·rw [bWt.1 hx];exact hv⟩
  | false=>exact ⟨_,rfl,rfl,⟨by show l.length<=i+1;omega,by rw [htk];exact g3.trans (List.sublist_append_left _ _)⟩,g2⟩
 ·rintro ⟨_,l⟩ rfl ⟨⟨g1,g3⟩,g2⟩
  exact ⟨l,by simp only [decide_eq_false (bW1 _),cond_false],⟨g1,g3.trans (List.take_sublist _ _)⟩,g2⟩
 rintro l ⟨⟨g1,g3⟩,g2⟩
 exact ⟨as,l,c5,p5,h5,rfl,⟨by omega,by omega,by omega,g2,bPv (by omega) (by omega) d5 g2 (d6.pw.sublist g3)⟩,d4⟩

theorem aB8 {s:den tSg} (h:s.2.2.length<=1000000): ∃ l,cQ s=some l∧l.length=s.2.2.length:=by
 unfold cQ
 refine bS (G:=fun o=> ∃ l,o=some l∧l.length=s.2.2.length) s.2.2.length (fun s:Int×List Int=>s.1) (fun i t=>t.2.length=i) (fun l:List Int=>l.length=s.2.2.length) ?_ ?_ 0 ((0:Int),[]) (by omega) rfl rfl (fun l hl=>⟨l,rfl,hl⟩)
 ·rintro i ⟨_,l⟩ hi rfl h1
  simp only at h1
  right
  refine ⟨(((i+1:Nat):Int),l++[s.2.2[i].1]),?_,rfl,by simp [h1]⟩
  simp only [decide_eq_true (show (i:Int)<(s.2.2.length:Int) by omega),cond_true,aG,bWk hi,aA,aD (b:=8) (n:=l.length) (m:=1) (by decide) (by omega),aW (show i<=1000000000 by omega)]
 ·rintro ⟨_,l⟩ rfl h1
  exact ⟨l,by simp only [decide_eq_false (bW1 _),cond_false],h1⟩

theorem bFi {s:den tSg} {n:Nat} (hn:n<=s.2.2.length) (h:s.2.2.length<=1000000): ∃ l,uD s (n:Int)=some l∧l.length=n:=by
 unfold uD zz4
 refine bS (G:=fun o=> ∃ l,o=some l∧l.length=n) n (fun s:Int×List Int=>s.1) (fun i t=>t.2.length=i) (fun l:List Int=>l.length=n) ?_ ?_ 0 ((0:Int),[]) (by omega) rfl rfl (fun l hl=>⟨l,rfl,hl⟩)
 ·rintro i ⟨_,l⟩ hi rfl h1
  simp only at h1
  right
  have hi':i<s.2.2.length:=by omega
  refine ⟨(((i+1:Nat):Int),l++[s.2.2[i].2.2.2.2]),?_,rfl,by simp [h1]⟩
  simp only [decide_eq_true (show (i:Int)<(n:Int) by omega),cond_true,aG,bWk hi',aA,aD (b:=8) (n:=l.length) (m:=1) (by decide) (by omega),aW (show i<=1000000000 by omega)]
 ·rintro ⟨_,l⟩ rfl h1
  exact ⟨l,by simp only [decide_eq_false (bW1 _),cond_false],h1⟩

theorem bDy {b:Int} {l:List Int} (h:l.length<=1000000): ∃ v,tP b l=some v:=by
 unfold tP
 refine bS (G:=fun o=> ∃ v,o=some v) l.length (fun s:Int×Int=>s.2) (fun i t=>True) (fun v:Int=>True) ?_ ?_ 0 (b,(0:Int)) (by omega) rfl trivial (fun v hv=>⟨v,rfl⟩)
 ·rintro i ⟨v,_⟩ hi rfl _
  right
  refine ⟨(aM1 v l[i],((i+1:Nat):Int)),?_,rfl,trivial⟩
  simp only [decide_eq_true (show (i:Int)<(l.length:Int) by omega),cond_true,aG,bWk hi,aA,aU0,aW (show i<=1000000000 by omega)]
 ·rintro ⟨v,_⟩ rfl _
  exact ⟨v,by simp only [decide_eq_false (bW1 _),cond_false],trivial⟩

theorem aAx {s:den tSg} (i:Int) (h:s.2.2.length<=1000000): ∃ v,gF s i=some v:=by
 unfold gF pj3
 rw [hZ,aA]
 cases hc:inR i 0 (s.2.2.length:Int) with
 | false=>exact ⟨0,rfl⟩
 | true=>
  obtain ⟨h0,h1⟩:=bI.1 hc
  obtain ⟨n,rfl⟩:=bXe h0
  obtain ⟨l,e,k⟩:=bFi (s:=s) (n:=n) (by omega) h
  obtain ⟨v,e2⟩:=bDy (b:=s.2.1) (l:=l) (by omega)
  refine ⟨v,?_⟩
  show Option.bind (uD s (n:Int)) _=_
  rw [e,aA,e2,aA]

theorem aWd (key ts b:Int) (h:den aL):eP key ts b h=some (h.1,h.2.1,h.2.2.1,h.2.2.2.1,aGx key ts b h):=by
 unfold eP pj5
 rw [show ((h.1,h.2.1,h.2.2.1,h.2.2.2.1,h.2.2.2.2):den aL)=h from rfl,bFd,aA]

def bVq (code:List Int) (o:Option (Int×Int×List (den aL)×List Int×Int×Int)):Prop:= ∃ a b hs c' p' h',o=some (a,b,hs,c',p',h')∧hs.length<=5∧Cur code (c',p',h')


def aFm (hs:List (den aL)):Prop:= ∀ x∈hs,(0:Int)<=x.1∧(8:Int)>x.1

def bVc (code:List Int) (o:Option (Int×Int×List (den aL)×List Int×Int×Int)):Prop:= ∃ a b hs c' p' h',o=some (a,b,hs,c',p',h')∧(hs.length<=5∧aFm hs)∧Cur code (c',p',h')

theorem aFm.snoc {hs:List (den aL)} {x:den aL} (h:aFm hs) (hx:(0:Int)<=x.1∧(8:Int)>x.1):aFm (hs++[x]):=fun y hy=>(bWv.1 hy).elim (h y) fun hy=>by rw [bWt.1 hy];exact hx


def InN (n:Int) (hs:List (den aL)):Prop:= ∀ x∈hs,(0:Int)<=x.1∧n>x.1

def bKv (n:Int) (code:List Int) (o:Option (Int×Int×List (den aL)×List Int×Int×Int)):Prop:= ∃ a b hs c' p' h',o=some (a,b,hs,c',p',h')∧(hs.length<=5∧InN n hs)∧Cur code (c',p',h')

theorem InN.snoc {n:Int} {hs:List (den aL)} {x:den aL} (h:InN n hs) (hx:(0:Int)<=x.1∧n>x.1):InN n (hs++[x]):=fun y hy=>(bWv.1 hy).elim (h y) fun hy=>by rw [bWt.1 hy];exact hx

theorem InN.as {n:Int} {hs:List (den aL)} (h:InN n hs) (hn:n<=8):aFm hs:=fun x hx=>⟨(h x hx).1,by have :=(h x hx).2;omega⟩

abbrev GrS:=Int×Int×Int×Int×Int×List (den aL)×List Int×Int×Int

theorem aYa {code:List Int} (hl:code.length<=1048576) {as:List (den tAS)} {ls:List (den tLk)} (ht:aAv as ls) (k:Int) {c:List Int} {p h:Int} (hc:Cur code (c,p,h)):bKv (as.length:Int) code (iR (c,p,h) (as,ls) k):=by
 have hlen:=ht.len
 have hlk:=ht.links
 unfold iR dd ixb one pj2 pj3 pj5 pj6 zz4 zz5 zz6
 simp only [aV,bH,bA,aZ,bC]
 refine bS (G:=bKv (as.length:Int) code) as.length (fun s:Int×List Int=>s.1) (fun i t=>t.2.length<=i∧ ∀ x∈t.2,0<=x∧x<(as.length:Int)) (fun r:List Int=>r.length<=8∧ ∀ x∈r,0<=x∧x<(as.length:Int)) ?_ ?_ 0 ((0:Int),[]) (by omega) rfl ⟨by simp,fun d hd=>(bW9 hd).elim⟩ ?_
 ·rintro i ⟨_,l⟩ hi rfl ⟨g1,g2⟩
  simp only at g1 g2
  right
  simp only [decide_eq_true (show (i:Int)<(as.length:Int) by omega),cond_true,aG,bWk hi,aA,aD (b:=8) (n:=l.length) (m:=1) (by decide) (by omega),aW (show i<=1000000000 by omega)]
  cases as[i].2.1 with
  | true=>exact ⟨_,rfl,rfl,by simp;omega,fun x hx=>by
    rcases bWv.1 hx with hx | hx
    ·exact g2 x hx
    ·rw [bWt.1 hx];omega⟩
  | false=>exact ⟨_,rfl,rfl,by show l.length<=i+1;omega,g2⟩
 ·rintro ⟨_,l⟩ rfl ⟨g1,g2⟩
  exact ⟨l,by simp only [decide_eq_false (bW1 _),cond_false],by simp only at g1;omega,g2⟩
 rintro cores ⟨g1,g2⟩
 obtain ⟨v1,c1,p1,h1,e1,r1,k1⟩:=aX hl (n:=50) (by decide) (by decide) hc
 obtain ⟨v2,c2,p2,h2,e2,r2,k2⟩:=aGl hl (n:=1000000) (by decide) k1
 simp only [e1,e2,aA]
 by_cases h0:cores.length=0
 ·rw [show ((cores.length:Int)==0)=true by rw [beq_iff_eq];omega,cond_true]
  exact ⟨_,_,_,_,_,_,rfl,⟨by simp,fun x hx=>(bW9 hx).elim⟩,k2⟩
 rw [show ((cores.length:Int)==0)=false by rw [beq_eq_false_iff_ne];omega,cond_false]
 obtain ⟨v3,c3,p3,h3,e3,r3,k3⟩:=aX hl (n:=(cores.length:Int)) (by omega) (by omega) k2
 obtain ⟨m3,rfl⟩:=bXe r3.1
 have hm3:m3<cores.length:=by omega
 have hr:=g2 cores[m3] (bWy hm3)
 simp only [e3,aA,decide_eq_true (show (0:Int)<=(m3:Int) by omega),decide_eq_true (show (m3:Int)<(cores.length:Int) by omega),cond_true,bWu,bWk hm3]
 generalize cores[m3]=r at hr
 refine bS (G:=bKv (as.length:Int) code) 5 (fun s:GrS=>s.2.2.1) (fun i s=>(0<=s.1∧s.1<(as.length:Int))∧(s.2.2.2.2.2.1.length=i∧InN (as.length:Int) s.2.2.2.2.2.1)∧Cur code s.2.2.2.2.2.2) (fun z:((Int×Int×List (den aL)×List Int×Int×Int)⊕(Int×Int×List (den aL)×List Int×Int×Int))=> ∃ a b hs c p h,(z= .inl (a,b,hs,c,p,h)∨z= .inr (a,b,hs,c,p,h))∧(hs.length<=5∧InN (as.length:Int) hs)∧Cur code (c,p,h)) ?_ ?_ 0 (r,(0:Int),(0:Int),v1,v2,[],c3,p3,h3) (by omega) rfl ⟨hr,⟨rfl,fun x hx=>(bW9 hx).elim⟩,k3⟩ ?_
 ·rintro i ⟨r,inn,_,ts,be,hs,c4,p4,h4⟩ hi rfl ⟨b1,⟨b2,b2'⟩,b3⟩
  simp only at b1 b2 b2' b3
  obtain ⟨rn,rfl⟩:=bXe b1.1
  have hrn:rn<as.length:=by omega
  obtain ⟨ds,ek,dl,dm⟩:=bFq (t:=(as,ls)) (r:=(rn:Int)) (k:=k) (by show ls.length<=_;omega)
  have dl:ds.length<=2 * ls.length:=dl
  have hout: ∃ out c5 p5 h5,(Option.bind (cond (decide ((ds.length:Int)>(0:Int))) (Option.bind (dB (c4,p4,h4) (5:Int)) fun y35=>some (!y35.1,y35.2.1,y35.2.2.1,y35.2.2.2)) (some (false,c4,p4,h4))) fun (s36:Bool×List Int×Int×Int)=>cond s36.1 (Option.bind (aE (s36.2.1,s36.2.2.1,s36.2.2.2) (ds.length:Int)) fun y37=>cond (decide ((0:Int)<=y37.1)) (cond (decide (y37.1<(ds.length:Int))) (Option.bind ds[y37.1.toNat]? fun x38=>some (x38,y37.2.1,y37.2.2.1,y37.2.2.2)) none) none) (some ((0:Int),s36.2.1,s36.2.2.1,s36.2.2.2)):Option (Int×List Int×Int×Int))=some (out,c5,p5,h5)∧(out=0∨out∈fL (as,ls) (rn:Int))∧Cur code (c5,p5,h5):=by
   by_cases hd:(ds.length:Int)>0
   ·obtain ⟨v5,c5,p5,h5,e5,k5⟩:=sY hl (n:=5) (by decide) (by decide) b3
    simp only [decide_eq_true hd,cond_true,e5,aA]
    cases v5 with
    | true=>exact ⟨0,c5,p5,h5,rfl,.inl rfl,k5⟩
    | false=>
     obtain ⟨v6,c6,p6,h6,e6,r6,k6⟩:=aX hl (n:=(ds.length:Int)) hd (by omega) k5
     obtain ⟨m6,rfl⟩:=bXe r6.1
     have hm6:m6<ds.length:=by omega
     exact ⟨ds[m6],c6,p6,h6,by simp only [bWw,cond_true,e6,aA,decide_eq_true (show (0:Int)<=(m6:Int) by omega),decide_eq_true (show (m6:Int)<(ds.length:Int) by omega),bWu,bWk hm6],.inr (dm _ (bWy hm6)),k6⟩
   ·exact ⟨0,c4,p4,h4,by simp only [decide_eq_false hd,cond_false,aA],.inl rfl,b3⟩
  obtain ⟨out,c5,p5,h5,eo,ho,k5⟩:=hout
  obtain ⟨al,ea,hal⟩:=aB8 (s:=(ts,be,hs)) (by show hs.length<=_;omega)
  have hal:al.length=hs.length:=hal
  have er:=aFo (t:=(as,ls)) (r:=(rn:Int)) (d:=out) (show ls.length<=68719476736 by omega)
  have hfar:out∈fL (as,ls) (rn:Int)→0<=(remote (as,ls) (rn:Int) out).1∧(remote (as,ls) (rn:Int) out).1<(as.length:Int):=fun hd=>by
   have :=bEk (t:=(as,ls)) ht.val hd
   unfold cK at this
   obtain ⟨h0,h1⟩:=bI.1 this
   exact ⟨h0,by simp only at h1;omega⟩
  generalize remote (as,ls) (rn:Int) out=fd at er hfar
  obtain ⟨far,door⟩:=fd
  simp only at hfar
  obtain ⟨bb,eb⟩: ∃ b:Bool,(cond (out != (0:Int)) (Option.bind (cQ (ts,be,hs)) fun y41=>Option.bind (eV y41 far) fun y42=>cond y42 (some true) (cond (far==(rn:Int)) (some true) (some (inn==out)))) (some (inn==out)))=some b:=by
   rw [ea,aA,aFh (by omega),aA]
   cases out != 0<;>cases mV al far<;>cases far==(rn:Int)<;>exact ⟨_,rfl⟩
  obtain ⟨v6,c6,p6,h6,e6,r6,k6⟩:=aX hl (n:=50) (by decide) (by decide) k5
  obtain ⟨bt,et⟩:=aAx (s:=(ts,be,hs)) (hs.length:Int) (by show hs.length<=_;omega)
  have ix:as[rn]? =some as[rn]:=bWk hrn
  have hap:aH 40 hs.length 1=true:=aD (by decide) (by omega)
  simp only [decide_eq_true (show (i:Int)<5 by omega),cond_true,ek,aA]
  rw [eo,aA]
  simp only [er,aA]
  rw [eb,aA]
  have body: ∀ o:Int,o=0∨o=out→(∃ r,(cond (o==(0:Int)) (some (bWi (bWi (ts,be,hs++[(((rn:Int),inn,o,wr ((wr (ts+(50:Int)))+v6),aGx as[rn].2.2 ts bt ((rn:Int),inn,o,wr ((wr (ts+(50:Int)))+v6),0)):den aL)],c6,p6,h6)))) (some (bWj (far,door,wr ((i:Int)+(1:Int)),ts,be,hs++[(((rn:Int),inn,o,wr ((wr (ts+(50:Int)))+v6),aGx as[rn].2.2 ts bt ((rn:Int),inn,o,wr ((wr (ts+(50:Int)))+v6),0)):den aL)],c6,p6,h6))):Option (GrS⊕((Int×Int×List (den aL)×List Int×Int×Int)⊕(Int×Int×List (den aL)×List Int×Int×Int))))=some (.inr r)∧(∃ a b hs c p h,(r= .inl (a,b,hs,c,p,h)∨r= .inr (a,b,hs,c,p,h))∧(hs.length<=5∧InN (as.length:Int) hs)∧Cur code (c,p,h)))∨
    ∃ s':GrS,(cond (o==(0:Int)) (some (bWi (bWi (ts,be,hs++[(((rn:Int),inn,o,wr ((wr (ts+(50:Int)))+v6),aGx as[rn].2.2 ts bt ((rn:Int),inn,o,wr ((wr (ts+(50:Int)))+v6),0)):den aL)],c6,p6,h6)))) (some (bWj (far,door,wr ((i:Int)+(1:Int)),ts,be,hs++[(((rn:Int),inn,o,wr ((wr (ts+(50:Int)))+v6),aGx as[rn].2.2 ts bt ((rn:Int),inn,o,wr ((wr (ts+(50:Int)))+v6),0)):den aL)],c6,p6,h6))):Option (GrS⊕((Int×Int×List (den aL)×List Int×Int×Int)⊕(Int×Int×List (den aL)×List Int×Int×Int))))=some (.inl s')∧s'.2.2.1=((i+1:Nat):Int)∧(0<=s'.1∧s'.1<(as.length:Int))∧(s'.2.2.2.2.2.1.length=i+1∧InN (as.length:Int) s'.2.2.2.2.2.1)∧Cur code s'.2.2.2.2.2.2:=by
   intro o hoo
   cases hz:(o==(0:Int)) with
   | true=>exact .inl ⟨_,rfl,ts,be,_,c6,p6,h6,.inr rfl,⟨by simp;omega,b2'.snoc ⟨by simp only;omega,by simp only;omega⟩⟩,k6⟩
   | false=>
    refine .inr ⟨_,rfl,aW (show i<=1000000000 by omega),?_,⟨by simp [b2],b2'.snoc ⟨by simp only;omega,by simp only;omega⟩⟩,k6⟩
    have hne:o≠0:=by simpa using hz
    rcases hoo with h | rfl
    ·exact absurd h hne
    ·rcases ho with h | h
     ·exact absurd h hne
     ·exact hfar h
  cases bb with
  | true=>
   cases inn==(0:Int) with
   | true=>exact .inl ⟨_,rfl,ts,be,hs,c5,p5,h5,.inr rfl,⟨by omega,b2'⟩,k5⟩
   | false=>
    have :=body 0 (.inl rfl)
    simpa only [cond_true,cond_false,aA,bXp,e6,aG,ix,et,aWd,hap] using this
  | false=>
   have :=body out (.inr rfl)
   simpa only [cond_true,cond_false,aA,bXp,e6,aG,ix,et,aWd,hap] using this
 ·rintro ⟨r,inn,_,ts,be,hs,c4,p4,h4⟩ rfl ⟨b1,⟨b2,b2'⟩,b3⟩
  simp only at b1 b2 b2' b3
  exact ⟨.inl (ts,be,hs,c4,p4,h4),by simp only [show decide ((((5:Nat):Int))<(5:Int))=false from rfl,cond_false],ts,be,hs,c4,p4,h4,.inl rfl,⟨by omega,b2'⟩,b3⟩
 ·rintro z ⟨a,b,hs,c,p,h,hz,h5,k5⟩
  rcases hz with rfl | rfl
  ·exact ⟨a,b,hs,c,p,h,rfl,h5,k5⟩
  ·exact ⟨a,b,hs,c,p,h,rfl,h5,k5⟩

theorem bPm {code:List Int} (hl:code.length<=1048576) {as:List (den tAS)} {ls:List (den tLk)} (ht:aAv as ls) (k:Int) {c:List Int} {p h:Int} (hc:Cur code (c,p,h)):bVc code (iR (c,p,h) (as,ls) k):=by
 obtain ⟨a,b,hs,c1,p1,h1,e,⟨l,m⟩,k1⟩:=aYa hl ht k hc
 exact ⟨a,b,hs,c1,p1,h1,e,⟨l,m.as (by have :=ht.len;omega)⟩,k1⟩

theorem aE9 {code:List Int} (hl:code.length<=1048576) {as:List (den tAS)} {ls:List (den tLk)} (ht:aAv as ls) (k:Int) {c:List Int} {p h:Int} (hc:Cur code (c,p,h)):bVq code (iR (c,p,h) (as,ls) k):=by
 obtain ⟨a,b,hs,c1,p1,h1,e,⟨l,_⟩,k1⟩:=bPm hl ht k hc
 exact ⟨a,b,hs,c1,p1,h1,e,l,k1⟩

theorem aZk {as:List (den tAS)} {ls:List (den tLk)} (ht:aAv as ls) {s:den tSg} (h:s.2.2.length<=1000): ∃ b,iB (as,ls) s=some b∧(b=true→ ∃ x,s.2.2[0]? =some x∧cK (as,ls) x.1=true):=by
 obtain ⟨al,ea,hal⟩:=aB8 (s:=s) (by omega)
 have hlen:=ht.len
 have hlk:=ht.links
 unfold iB pj2 pj3 pj5
 rw [hZ,aA]
 cases hc:inR (s.2.2.length:Int) 1 8 with
 | false=>exact ⟨false,rfl,fun e=>by cases e⟩
 | true=>
  obtain ⟨h0,h1⟩:=bI.1 hc
  have h00:0<s.2.2.length:=by omega
  have i0:idx s.2.2 (0:Int)=some s.2.2[0]:=by rw [show (0:Int)=((0:Nat):Int) from rfl,aG,bWk h00]
  simp only [bWo,cond_false,i0,aA]
  cases s.2.2[0].2.1 != (0:Int) with
  | true=>exact ⟨false,rfl,fun e=>by cases e⟩
  | false=>
   simp only [cond_false]
   rw [show ((s.1,s.2.1,s.2.2):den tSg)=s from rfl,ea,aA]
   refine bS (G:=fun o=> ∃ b,o=some b∧(b=true→ ∃ x,s.2.2[0]? =some x∧cK (as,ls) x.1=true)) s.2.2.length (fun s:List Int×Int=>s.2) (fun i t=>t.1=al∧(0<i→cK (as,ls) s.2.2[0].1=true)) (fun r:Unit⊕Bool=>r= .inl ()∧cK (as,ls) s.2.2[0].1=true∨r= .inr false) ?_ ?_ 0 (al,(0:Int)) (by omega) rfl ⟨rfl,fun h=>by omega⟩ ?_
   ·rintro i ⟨_,_⟩ hi rfl ⟨rfl,g2⟩
    rename_i al
    have ix:idx s.2.2 (i:Int)=some s.2.2[i]:=by rw [aG,bWk hi]
    simp only [decide_eq_true (show (i:Int)<(s.2.2.length:Int) by omega),cond_true,ix,aA]
    rw [show ((s.2.2[i].1,s.2.2[i].2.1,s.2.2[i].2.2.1,s.2.2[i].2.2.2.1,s.2.2[i].2.2.2.2):den aL)=s.2.2[i] from rfl,aIu,aA,aDc (t:=(as,ls)) (show as.length<=_ by omega),aA]
    have e1:bU (0:Int) (i:Int) (al.length:Int)=true:=wQ (by rw [hal];exact hi)
    have e2:eV (cut al (0:Int) (i:Int)) s.2.2[i].1=some (mV (cut al (0:Int) (i:Int)) s.2.2[i].1):=aFh (by rw [fZ];exact bWl (List.length_take_le _ _) (by omega))
    obtain ⟨b,eb,hb⟩: ∃ b:Bool,(cond (!(iS s.2.2[i])) (some true) (cond (!(cK (as,ls) s.2.2[i].1)) (some true) (cond (bU (0:Int) (i:Int) (al.length:Int)) (Option.bind (eV (cut al (0:Int) (i:Int)) s.2.2[i].1) fun y20=>cond y20 (some true) (cond (s.2.2[i].2.2.1==(0:Int)) (some (decide ((i:Int)<(wr ((s.2.2.length:Int) - (1:Int)))))) (some false))) none)))=some b∧(b=false→cK (as,ls) s.2.2[i].1=true):=by
     rw [e1,e2,aA]
     cases iS s.2.2[i]
     ·exact ⟨true,rfl,fun e=>by cases e⟩
     ·cases cK (as,ls) s.2.2[i].1
      ·exact ⟨true,rfl,fun e=>by cases e⟩
      ·cases mV (cut al (0:Int) (i:Int)) s.2.2[i].1
       ·cases s.2.2[i].2.2.1==(0:Int)
        ·exact ⟨false,rfl,fun _=>rfl⟩
        ·exact ⟨_,rfl,fun _=>rfl⟩
       ·exact ⟨true,rfl,fun _=>rfl⟩
    rw [eb,aA]
    cases b with
    | true=>exact .inl ⟨.inr false,rfl,.inr rfl⟩
    | false=>
     have hok:=hb rfl
     by_cases hp:i=0
     ·subst hp
      refine .inr ⟨(al,((1:Nat):Int)),?_,rfl,rfl,fun _=>hok⟩
      rfl
     ·have hi1:i - 1<s.2.2.length:=by omega
      have w1:wr ((i:Int) - 1)=((i - 1:Nat):Int):=by rw [bF (by omega) (by omega)];omega
      have er:=aFo (t:=(as,ls)) (r:=s.2.2[i - 1].1) (d:=s.2.2[i - 1].2.2.1) (show ls.length<=68719476736 by omega)
      simp only [cond_false,decide_eq_true (show (i:Int)>0 by omega),cond_true,w1,aG,bWk hi1,aA,er]
      obtain ⟨b2,eb2⟩: ∃ b:Bool,(cond ((remote (as,ls) s.2.2[i - 1].1 s.2.2[i - 1].2.2.1).1 != s.2.2[i].1) (some true) (some ((remote (as,ls) s.2.2[i - 1].1 s.2.2[i - 1].2.2.1).2 != s.2.2[i].2.1)))=some b:=by
       cases (remote (as,ls) s.2.2[i - 1].1 s.2.2[i - 1].2.2.1).1 != s.2.2[i].1<;>exact ⟨_,rfl⟩
      rw [eb2,aA]
      cases b2 with
      | true=>exact .inl ⟨.inr false,rfl,.inr rfl⟩
      | false=>
       refine .inr ⟨(al,((i+1:Nat):Int)),?_,rfl,rfl,fun _=>g2 (by omega)⟩
       simp only [cond_false,aA,bXp,aW (show i<=1000000000 by omega)]
   ·rintro ⟨_,_⟩ rfl ⟨rfl,g2⟩
    exact ⟨.inl (),by simp only [decide_eq_false (bW1 _),cond_false],.inl ⟨rfl,g2 h00⟩⟩
   ·rintro r (⟨rfl,hr⟩ | rfl)
    ·exact ⟨true,rfl,fun _=>⟨s.2.2[0],bWk h00,hr⟩⟩
    ·exact ⟨false,rfl,fun e=>by cases e⟩

theorem bO4 {as:List (den tAS)} {ls:List (den tLk)} (ht:aAv as ls) {s:den tSg} (h:s.2.2.length<=1000): ∃ v,fT (as,ls) s=some v:=by
 have hlen:=ht.len
 unfold fT pj2 pj3 pj5
 refine bS (G:=fun o=> ∃ b,o=some b) s.2.2.length (fun s:Int=>s) (fun i t=>True) (fun r:Unit⊕Int=>True) ?_ ?_ 0 (0:Int) (by omega) rfl trivial ?_
 ·rintro i _ hi rfl _
  obtain ⟨bt,et⟩:=aAx (s:=s) (i:Int) (by omega)
  have et:gF (s.1,s.2.1,s.2.2) (i:Int)=some bt:=et
  have ev:=aT7 (t:=(as,ls)) (ts:=s.1) (beta:=bt) (h:=s.2.2[i]) (show as.length<=68719476736 by omega)
  have ev:fJ (as,ls) s.1 bt (s.2.2[i].1,s.2.2[i].2.1,s.2.2[i].2.2.1,s.2.2[i].2.2.2.1,s.2.2[i].2.2.2.2)=some _:=ev
  simp only [decide_eq_true (show (i:Int)<(s.2.2.length:Int) by omega),cond_true,aG,bWk hi,aA,et,ev,aW (show i<=1000000000 by omega)]
  cases aCw (as,ls) s.1 bt s.2.2[i] with
  | true=>exact .inr ⟨_,rfl,rfl,trivial⟩
  | false=>exact .inl ⟨_,rfl,trivial⟩
 ·rintro _ rfl _
  exact ⟨.inl (),by simp only [decide_eq_false (bW1 _),cond_false],trivial⟩
 ·rintro r _
  cases r with
  | inl u=>exact ⟨_,rfl⟩
  | inr v=>exact ⟨_,rfl⟩

theorem aRr {as:List (den tAS)} {ls:List (den tLk)} (ht:aAv as ls) {s:den tSg} (h:s.2.2.length<=1000): ∃ v,fW (as,ls) s=some v:=by
 have hlen:=ht.len
 have hlk:=ht.links
 obtain ⟨b,eb,hb⟩:=aZk ht h
 unfold fW pj2 pj3
 have eb:iB (as,ls) (s.1,s.2.1,s.2.2)=some b:=eb
 rw [eb,aA]
 cases b with
 | false=>exact ⟨0,rfl⟩
 | true=>
  obtain ⟨x,hx,hok⟩:=hb rfl
  obtain ⟨h0,rfl⟩:=bWs.1 hx
  obtain ⟨y,hy,iy⟩:=aD3 hok
  have ef:cB (s.1,s.2.1,s.2.2)=some s.2.2[0].1:=by
   unfold cB
   rw [show ((s.2.2.length:Int)==0)=false by rw [beq_eq_false_iff_ne];omega,cond_false,show (0:Int)=((0:Nat):Int) from rfl,aG,bWk h0,aA]
  have iy:idx as s.2.2[0].1=some y:=iy
  simp only [bWo,cond_false,ef,iy,aA]
  cases y.2.1 with
  | false=>exact ⟨0,rfl⟩
  | true=>
   simp only [bWo,cond_false]
   refine bS (G:=fun o=> ∃ b,o=some b) s.2.2.length (fun s:Int×Int=>s.2) (fun i t=>True) (fun r:Int⊕Int=>True) ?_ ?_ 0 ((0:Int),(0:Int)) (by omega) rfl trivial ?_
   ·rintro i ⟨k,_⟩ hi rfl _
    have ek:=aRq (t:=(as,ls)) (r:=s.2.2[i].1) (d:=s.2.2[i].2.2.1) (show ls.length<=68719476736 by omega)
    simp only [decide_eq_true (show (i:Int)<(s.2.2.length:Int) by omega),cond_true,aG,bWk hi,aA,ek,aW (show i<=1000000000 by omega)]
    cases s.2.2[i].2.2.1==(0:Int) with
    | true=>exact .inr ⟨_,rfl,rfl,trivial⟩
    | false=>
     cases k != (0:Int) with
     | false=>exact .inr ⟨_,rfl,rfl,trivial⟩
     | true=>
      simp only [cond_true,cond_false,aA]
      cases aAj (as,ls) s.2.2[i].1 s.2.2[i].2.2.1 != k with
      | true=>exact .inl ⟨_,rfl,trivial⟩
      | false=>exact .inr ⟨_,rfl,rfl,trivial⟩
   ·rintro ⟨k,_⟩ rfl _
    exact ⟨.inl k,by simp only [decide_eq_false (bW1 _),cond_false],trivial⟩
   ·rintro r _
    cases r with
    | inr v=>exact ⟨_,rfl⟩
    | inl v=>
     simp only [bXp]
     cases v==(1:Int)
     ·cases v==(2:Int)<;>exact ⟨_,rfl⟩
     ·exact ⟨_,rfl⟩

theorem bBy {as:List (den tAS)} {ls:List (den tLk)} (ht:aAv as ls) {s:den tSg} (h:s.2.2.length<=1000): ∃ b,kF (as,ls) s=some b∧(b=true→s.2.2≠[]):=by
 obtain ⟨b,eb,hb⟩:=aZk ht h
 have hb:b=true→s.2.2≠[]:=fun e he=>by
  obtain ⟨x,hx,_⟩:=hb e
  rw [he] at hx
  cases hx
 obtain ⟨v,ev⟩:=bO4 ht h
 obtain ⟨k,ek⟩:=aRr ht h
 have eb:iB (as,ls) (s.1,s.2.1,s.2.2)=some b:=eb
 have ev:fT (as,ls) (s.1,s.2.1,s.2.2)=some v:=ev
 have ek:fW (as,ls) (s.1,s.2.1,s.2.2)=some k:=ek
 unfold kF pj2 pj3
 simp only [eb,ev,ek,hZ,aCx,aA]
 cases b
 ·exact ⟨_,rfl,fun e=>Bool.noConfusion e⟩
 ·have hb:=hb rfl
  cases decide (v<0)
  ·exact ⟨_,rfl,fun _=>hb⟩
  ·cases k != (0:Int)
   ·exact ⟨_,rfl,fun _=>hb⟩
   ·cases inR s.1 0 1000000<;>exact ⟨_,rfl,fun _=>hb⟩

theorem bHq {s:den tSg} (h:s.2.2.length<=1000): ∃ b,kA s=some b:=by
 unfold kA
 by_cases h0:(s.2.2.length:Int)>0
 ·have w1:wr ((s.2.2.length:Int) - 1)=((s.2.2.length - 1:Nat):Int):=by rw [bF (by omega) (by omega)];omega
  rw [decide_eq_true h0,cond_true,w1,aG,bWk (by omega),aA,aA]
  exact ⟨_,rfl⟩
 ·rw [decide_eq_false h0,cond_false]
  exact ⟨_,rfl⟩

theorem aNr {a b:List (den aL)} (h:a.length<=1000000): ∃ v,iA a b=some v:=by
 unfold iA zz4
 by_cases hn:a.length=b.length
 ·rw [hn,bne_self_eq_false,cond_false,← hn]
  refine bS (G:=fun o=> ∃ b,o=some b) a.length (fun s:Int=>s) (fun i t=>True) (fun r:Unit⊕Bool=>True) ?_ ?_ 0 (0:Int) (by omega) rfl trivial ?_
  ·rintro i _ hi rfl _
   have h2:i<b.length:=by omega
   simp only [decide_eq_true (show (i:Int)<(a.length:Int) by omega),cond_true,aG,bWk hi,bWk h2,aA,aW (show i<=1000000000 by omega)]
   cases ((a[i].1==b[i].1)&&((a[i].2.1==b[i].2.1)&&((a[i].2.2.1==b[i].2.2.1)&&((a[i].2.2.2.1==b[i].2.2.2.1)&&((a[i].2.2.2.2==b[i].2.2.2.2)&&true))))) with
   | true=>exact .inr ⟨_,rfl,rfl,trivial⟩
   | false=>exact .inl ⟨_,rfl,trivial⟩
  ·rintro _ rfl _
   exact ⟨.inl (),by simp only [decide_eq_false (bW1 _),cond_false],trivial⟩
  ·rintro r _
   cases r with
   | inl u=>exact ⟨_,rfl⟩
   | inr v=>exact ⟨_,rfl⟩
 ·rw [show ((a.length:Int) != (b.length:Int))=true by rw [bne_iff_ne];omega,cond_true]
  exact ⟨_,rfl⟩

theorem bF0 {a b:den tSg} (h:a.2.2.length<=1000000): ∃ v,iY a b=some v:=by
 obtain ⟨v,e⟩:=aNr (b:=b.2.2) h
 unfold iY
 rw [e,aA]
 cases a.1==b.1
 ·exact ⟨_,rfl⟩
 ·cases a.2.1==b.2.1<;>exact ⟨_,rfl⟩

theorem aUn {l:List (den tSg)} {s:den tSg} (hl:l.length<=1000000) (h: ∀ x∈l,x.2.2.length<=1000): ∃ v,sN l s=some v:=by
 unfold sN pj3
 refine bS (G:=fun o=> ∃ b,o=some b) l.length (fun s:Int=>s) (fun i t=>True) (fun r:Unit⊕Bool=>True) ?_ ?_ 0 (0:Int) (by omega) rfl trivial ?_
 ·rintro i _ hi rfl _
  obtain ⟨v,e⟩:=bF0 (a:=l[i]) (b:=s) (by have :=h l[i] (bWy hi);omega)
  have e:iY (l[i].1,l[i].2.1,l[i].2.2) (s.1,s.2.1,s.2.2)=some v:=e
  simp only [decide_eq_true (show (i:Int)<(l.length:Int) by omega),cond_true,aG,bWk hi,aA,e,aW (show i<=1000000000 by omega)]
  cases v with
  | false=>exact .inr ⟨_,rfl,rfl,trivial⟩
  | true=>exact .inl ⟨_,rfl,trivial⟩
 ·rintro _ rfl _
  exact ⟨.inl (),by simp only [decide_eq_false (bW1 _),cond_false],trivial⟩
 ·rintro r _
  cases r with
  | inl u=>exact ⟨_,rfl⟩
  | inr v=>exact ⟨_,rfl⟩


structure DbD (n:Nat) (d c:List (den tSg)):Prop where
 down:d.length<=n
 core:c.length<=n
 hd: ∀ x∈d,x.2.2.length<=5
 hc: ∀ x∈c,x.2.2.length<=5
 ha: ∀ x∈d,x.2.2≠[]∧aFm x.2.2

theorem aLz {l:List (den tSg)} {n:Nat} (hn:n<=1000) (h:l.length<=n) (hh: ∀ x∈l,x.2.2.length<=5):SmB 68719476736 (.sl tSg) l:=by
 refine ⟨by omega,fun x hx=>⟨trivial,trivial,?_,fun e he=>⟨trivial,trivial,trivial,trivial,trivial⟩⟩⟩
 have :=hh x hx
 show x.2.2.length<=_
 omega

theorem bJo {as:List (den tAS)} {ls:List (den tLk)} (ht:aAv as ls) {n:Nat} (hn:n<=100) {d c:List (den tSg)} (hk:DbD n d c) {s:den tSg} (h:s.2.2.length<=5) (ha:aFm s.2.2): ∃ d' c',nN (as,ls) (d,c) s=some (d',c')∧DbD (n+1) d' c':=by
 obtain ⟨b1,e1,hb1⟩:=bBy ht (s:=s) (by omega)
 obtain ⟨b2,e2⟩:=bHq (s:=s) (by omega)
 obtain ⟨b3,e3⟩:=aUn (l:=d) (s:=s) (by have :=hk.down;omega) (fun x hx=>by have :=hk.hd x hx;omega)
 obtain ⟨b4,e4⟩:=aUn (l:=c) (s:=s) (by have :=hk.core;omega) (fun x hx=>by have :=hk.hc x hx;omega)
 obtain ⟨k,ek⟩:=aRr ht (s:=s) (by omega)
 have c1:=aCe (aLz (by omega) hk.down hk.hd)
 have c2:=aCe (aLz (by omega) hk.core hk.hc)
 have c3:=aEz (x:=s) (by omega)
 have e5: ∃ b,nE (d,c) s=some b:=by
  unfold nE pj3
  have e3:sN d (s.1,s.2.1,s.2.2)=some b3:=e3
  have e4:sN c (s.1,s.2.1,s.2.2)=some b4:=e4
  simp only [e3,e4,aA]
  cases b3<;>exact ⟨_,rfl⟩
 obtain ⟨b5,e5⟩:=e5
 have hdn:=hk.down
 have hcn:=hk.core
 have e1:kF (as,ls) (s.1,s.2.1,s.2.2)=some b1:=e1
 have e2:kA (s.1,s.2.1,s.2.2)=some b2:=e2
 have e5:nE (d,c) (s.1,s.2.1,s.2.2)=some b5:=e5
 have ek:fW (as,ls) (s.1,s.2.1,s.2.2)=some k:=ek
 have c3:fH (s.1,s.2.1,s.2.2)=some s:=c3
 have same:DbD (n+1) d c:=⟨by omega,by omega,hk.hd,hk.hc,hk.ha⟩
 unfold nN pj2 pj3
 simp only [c1,c2,aA,aV,bH,bA,aZ,bC,e1,e2,e5,ek,c3,aD (b:=40) (n:=d.length) (m:=1) (by decide) (by omega),aD (b:=40) (n:=c.length) (m:=1) (by decide) (by omega),cond_true]
 obtain ⟨b6,e6,hb6⟩: ∃ b:Bool,(cond (!b1) (some true) (cond (!b2) (some true) (some b5)))=some b∧(b=false→b1=true):=by
  cases b1
  ·exact ⟨_,rfl,fun e=>Bool.noConfusion e⟩
  ·cases b2<;>exact ⟨_,rfl,fun _=>rfl⟩
 rw [e6,aA]
 cases b6 with
 | true=>exact ⟨d,c,rfl,same⟩
 | false=>
  have hne:=hb1 (hb6 rfl)
  cases k==(2:Int) with
  | true=>exact ⟨_,_,rfl,by simp;omega,by simp only;omega,fun x hx=>(bWv.1 hx).elim (hk.hd x) fun hx=>by rw [bWt.1 hx];exact h,hk.hc,fun x hx=>(bWv.1 hx).elim (hk.ha x) fun hx=>by rw [bWt.1 hx];exact ⟨hne,ha⟩⟩
  | false=>exact ⟨_,_,rfl,by simp only;omega,by simp;omega,hk.hd,fun x hx=>(bWv.1 hx).elim (hk.hc x) fun hx=>by rw [bWt.1 hx];exact h,hk.ha⟩

theorem DbD.mono {n m:Nat} {d c:List (den tSg)} (h:DbD n d c) (hm:n<=m):DbD m d c:=⟨bWl h.down hm,bWl h.core hm,h.hd,h.hc,h.ha⟩

theorem aRv {s:den tSg} (h:s.2.2.length<=1000): ∃ v,dW s=some v:=by
 unfold dW
 by_cases h0:s.2.2.length=0
 ·rw [show ((s.2.2.length:Int)==0)=true by rw [beq_iff_eq];omega,cond_true]
  exact ⟨_,rfl⟩
 ·have w1:wr ((s.2.2.length:Int) - 1)=((s.2.2.length - 1:Nat):Int):=by rw [bF (by omega) (by omega)];omega
  rw [show ((s.2.2.length:Int)==0)=false by rw [beq_eq_false_iff_ne];omega,cond_false,w1,aG,bWk (by omega),aA]
  exact ⟨_,rfl⟩

theorem bJn {s:den tSg} (h:s.2.2.length<=1000) (h0:s.2.2≠[]) (ha:aFm s.2.2): ∃ v,dW s=some v∧0<=v∧v<8:=by
 have hl:=List.length_pos_iff.2 h0
 unfold dW
 have w1:wr ((s.2.2.length:Int) - 1)=((s.2.2.length - 1:Nat):Int):=by rw [bF (by omega) (by omega)];omega
 rw [show ((s.2.2.length:Int)==0)=false by rw [beq_eq_false_iff_ne];omega,cond_false,w1,aG,bWk (by omega),aA]
 have :=ha _ (bWy (show s.2.2.length - 1<s.2.2.length by omega))
 exact ⟨_,rfl,this.1,this.2⟩

theorem aHy {s:den tSg}: ∃ v,cB s=some v:=by
 unfold cB
 by_cases h0:s.2.2.length=0
 ·rw [show ((s.2.2.length:Int)==0)=true by rw [beq_iff_eq];omega,cond_true]
  exact ⟨_,rfl⟩
 ·rw [show ((s.2.2.length:Int)==0)=false by rw [beq_eq_false_iff_ne];omega,cond_false,show (0:Int)=((0:Nat):Int) from rfl,aG,bWk (by omega),aA]
  exact ⟨_,rfl⟩

theorem aVc {code:List Int} (hl:code.length<=1048576) {d:List (den tSg)} (hd:d.length<=200) (h5: ∀ x∈d,x.2.2.length<=5) (ha: ∀ x∈d,x.2.2≠[]∧aFm x.2.2) (k:Int) (hk:0<k∧k<=256) (z:Int) (hz:0<=z∧z<8) {c:List Int} {p h:Int} (hc:Cur code (c,p,h)):
  ∃ v c' p' h',(Option.bind (cond (decide ((d.length:Int)>(0:Int))) (Option.bind (dB (c,p,h) k) fun y3=>some (!y3.1,y3.2.1,y3.2.2.1,y3.2.2.2)) (some (false,c,p,h))) fun (s4:Bool×List Int×Int×Int)=>cond s4.1 (Option.bind (aE (s4.2.1,s4.2.2.1,s4.2.2.2) (d.length:Int)) fun y5=>Option.bind (idx d y5.1) fun x6=>Option.bind (dW (x6.1,x6.2.1,x6.2.2)) fun y7=>some (y7,y5.2.1,y5.2.2.1,y5.2.2.2)) (some (z,s4.2.1,s4.2.2.1,s4.2.2.2)):Option (Int×List Int×Int×Int))=some (v,c',p',h')∧(0<=v∧v<8)∧Cur code (c',p',h'):=by
 by_cases h0:(d.length:Int)>0
 ·obtain ⟨v1,c1,p1,h1,e1,k1⟩:=sY hl (n:=k) hk.1 hk.2 hc
  simp only [decide_eq_true h0,cond_true,e1,aA]
  cases v1 with
  | true=>exact ⟨z,c1,p1,h1,rfl,hz,k1⟩
  | false=>
   obtain ⟨v2,c2,p2,h2,e2,r2,k2⟩:=aX hl (n:=(d.length:Int)) h0 (by omega) k1
   obtain ⟨m2,rfl⟩:=bXe r2.1
   have hm:m2<d.length:=by omega
   obtain ⟨v3,e3,r3⟩:=bJn (s:=d[m2]) (by have :=h5 d[m2] (bWy hm);omega) (ha d[m2] (bWy hm)).1 (ha d[m2] (bWy hm)).2
   have e3:dW (d[m2].1,d[m2].2.1,d[m2].2.2)=some v3:=e3
   exact ⟨v3,c2,p2,h2,by simp only [bWw,cond_true,e2,aA,aG,bWk hm,e3],r3,k2⟩
 ·exact ⟨z,c,p,h,by simp only [decide_eq_false h0,cond_false,aA],hz,hc⟩

theorem bQg {code:List Int} (hl:code.length<=1048576) {n:Nat} (hn:n<=100) {d cc:List (den tSg)} (hk:DbD n d cc) {c:List Int} {p h:Int} (hc:Cur code (c,p,h)): ∃ a b c' p' h',wP (c,p,h) (d,cc)=some (a,b,c',p',h')∧((0<=a∧a<8)∧(0<=b∧b<8))∧Cur code (c',p',h'):=by
 have hd:=hk.down
 obtain ⟨v1,c1,p1,h1,e1,r1,k1⟩:=aX hl (n:=8) (by decide) (by decide) hc
 obtain ⟨v2,c2,p2,h2,e2,r2,k2⟩:=aX hl (n:=8) (by decide) (by decide) k1
 obtain ⟨v3,c3,p3,h3,e3,r3,k3⟩:=aVc hl (d:=d) (by omega) hk.hd hk.ha 4 (by decide) v1 r1 k2
 obtain ⟨v4,c4,p4,h4,e4,r4,k4⟩:=aVc hl (d:=d) (by omega) hk.hd hk.ha 3 (by decide) v2 r2 k3
 refine ⟨v3,v4,c4,p4,h4,?_,⟨r3,r4⟩,k4⟩
 unfold wP pj3 pj4
 simp only [e1,e2,aA,aV,bH,bA,aZ,bC]
 rw [e3,aA,e4,aA]


def aI7 (n:Nat) (l:List (den tSg)):Prop:=l.length<=n∧ ∀ x∈l,x.2.2.length<=5

theorem wZ {s:den tSg} (h:s.2.2.length<=5) (k i:Int): ∃ q:den tPp,bJ s k i=some q∧q.2.2.2.length<=5:=by
 unfold bJ pj3 pj4 pj5 zz4
 obtain ⟨b1,eb1⟩:=aAx (s:=s) i (by omega)
 obtain ⟨b2,eb2⟩:=aAx (s:=s) (s.2.2.length:Int) (by omega)
 have eb1:gF (s.1,s.2.1,s.2.2) i=some b1:=eb1
 have eb2:gF (s.1,s.2.1,s.2.2) (s.2.2.length:Int)=some b2:=eb2
 simp only [hZ,aA,aV,bH,bA,aZ,bC,eb1,eb2,aCk]
 have w1:wr ((s.2.2.length:Int) - 1)=(s.2.2.length:Int) - 1:=bF (by omega) (by omega)
 rw [w1]
 cases c1:inR i 0 ((s.2.2.length:Int) - 1) with
 | false=>exact ⟨(0,0,0,[]),rfl,by simp⟩
 | true=>
  cases inR k 1 4 with
  | false=>exact ⟨(0,0,0,[]),rfl,by simp⟩
  | true=>
   obtain ⟨h0,h1⟩:=bI.1 c1
   obtain ⟨m,rfl⟩:=bXe h0
   simp only [bWo,cond_false,aA]
   cases jC k with
   | false=>
    have e1:bU (m:Int) (s.2.2.length:Int) (s.2.2.length:Int)=true:=yU (by omega)
    have l1:(cut s.2.2 (m:Int) (s.2.2.length:Int)).length<=5:=by unfold cut;rw [bXv,bYq];omega
    rw [e1,aD (b:=40) (by decide) (by simp;omega)]
    exact ⟨_,rfl,by simpa using l1⟩
   | true=>
    refine jJ (G:=fun o=> ∃ q:den tPp,o=some q∧q.2.2.2.length<=5) (fun (n:Nat) (t:Int×Int×Int×Int×List (den aL))=>t.1=(n:Int) - 1∧n+t.2.2.2.2.length<=s.2.2.length) (fun q:den tPp=>q.2.2.2.length<=5) ?_ s.2.2.length ((s.2.2.length:Int) - 1,k,s.1,b2,[]) ⟨rfl,by simp⟩ (fun q hq=>⟨q,rfl,hq⟩)
    rintro n ⟨_,x,y,z,l⟩ ⟨rfl,g⟩
    simp only at g
    by_cases hn:(n:Int) - 1>=(m:Int)
    ·right
     have hn1:(n:Int) - 1=((n - 1:Nat):Int):=by omega
     have hi:n - 1<s.2.2.length:=by omega
     refine ⟨n - 1,(((n - 1:Nat):Int) - 1,x,y,z,l++[s.2.2[n - 1]]),by omega,?_,rfl,by simp;omega⟩
     simp only [decide_eq_true hn,cond_true,aD (b:=40) (n:=l.length) (m:=1) (by decide) (by omega)]
     rw [hn1,aG,bWk hi,aA,bF (n:=((n - 1:Nat):Int) - 1) (by omega) (by omega)]
    ·left
     exact ⟨(x,y,z,l),by simp only [decide_eq_false hn,cond_false],by show l.length<=5;omega⟩


def mO (p:den tPt):Prop:=bW0 (α:=den tPp) p<=3∧ ∀ x:den tPp,x∈(show List (den tPp) from p)→x.2.2.2.length<=5

def wC (n:Nat) (l:List (den tPt)):Prop:=l.length<=n∧ ∀ p∈l,mO p

theorem aNc:mO []:=⟨by simp,fun x hx=>(bW9 hx).elim⟩

theorem wC.add {n m:Nat} {a b:List (den tPt)} (ha:wC n a) (hb:wC m b):wC (n+m) (a++b):=⟨by rw [bXh];have :=ha.1;have :=hb.1;omega,fun p hp=>(bWv.1 hp).elim (ha.2 p) (hb.2 p)⟩

theorem aA2 {n:Nat} (h:n<=1000000000):wr ((n:Int) - 1)=(n:Int) - 1:=bF (by omega) (by omega)

theorem bJh {up down:den tSg} (h1:up.2.2.length<=5) (h2:down.2.2.length<=5): ∃ p,iE up down=some p∧mO p:=by
 obtain ⟨y1,e1,l1⟩:=aB8 (s:=up) (by omega)
 obtain ⟨y2,e2,l2⟩:=aB8 (s:=down) (by omega)
 have e1:cQ (up.1,up.2.1,up.2.2)=some y1:=e1
 have e2:cQ (down.1,down.2.1,down.2.2)=some y2:=e2
 have hm: ∃ p,iQ up down=some p∧mO p:=by
  unfold iQ ixb pj3 pj4
  rw [e1,aA,e2,aA,aA2 (n:=y1.length) (by omega)]
  refine jJ (G:=fun o=> ∃ p,o=some p∧mO p) (fun (n:Nat) (s:Int)=>s=(n:Int) - 1∧n<=y1.length) (fun z:Unit⊕den tPt=> ∀ p,z= .inr p→mO p) ?_ y1.length ((y1.length:Int) - 1) ⟨rfl,bW3 _⟩ ?_
  ·rintro n _ ⟨rfl,hn⟩
   by_cases h0:(n:Int) - 1>=0
   ·simp only [decide_eq_true h0,cond_true]
    have hn1:(n:Int) - 1=((n - 1:Nat):Int):=by omega
    have hi:n - 1<y1.length:=by omega
    rw [aA2 (n:=y2.length) (by omega)]
    refine jJ (G:=fun (o:Option (Int⊕(Unit⊕den tPt)))=>(∃ r:Unit⊕den tPt,o=some (bWi r)∧ ∀ p,r=bWi p→mO p)∨ ∃ (m:Nat) (s':Int),m<n∧o=some (bWj s')∧s'=(m:Int) - 1∧m<=y1.length) (fun (k:Nat) (s:Int)=>s=(k:Int) - 1∧k<=y2.length) (fun z:Unit⊕(Int⊕(Unit⊕den tPt))=>z= .inl ()∨ ∃ p,z= .inr (.inr (.inr p))∧mO p) ?_ y2.length ((y2.length:Int) - 1) ⟨rfl,bW3 _⟩ ?_
    ·rintro k _ ⟨rfl,hk⟩
     by_cases g0:(k:Int) - 1>=0
     ·have hk1:(k:Int) - 1=((k - 1:Nat):Int):=by omega
      have hj:k - 1<y2.length:=by omega
      simp only [hn1,hk1,decide_eq_true (show ((k - 1:Nat):Int)>=0 by omega),decide_eq_true (show (0:Int)<=((n - 1:Nat):Int) by omega),decide_eq_true (show (0:Int)<=((k - 1:Nat):Int) by omega),decide_eq_true (show ((n - 1:Nat):Int)<(y1.length:Int) by omega),decide_eq_true (show ((k - 1:Nat):Int)<(y2.length:Int) by omega),cond_true,bWu,bWk hi,bWk hj,aA]
      cases y1[n - 1]==y2[k - 1] with
      | true=>
       obtain ⟨q1,f1,g1⟩:=wZ h1 1 ((n - 1:Nat):Int)
       obtain ⟨q2,f2,g2⟩:=wZ h2 4 ((k - 1:Nat):Int)
       have f1:bJ (up.1,up.2.1,up.2.2) 1 ((n - 1:Nat):Int)=some q1:=f1
       have f2:bJ (down.1,down.2.1,down.2.2) 4 ((k - 1:Nat):Int)=some q2:=f2
       exact .inl ⟨.inr (.inr (.inr [q1,q2])),by simp only [cond_true,f1,f2,aA],.inr ⟨[q1,q2],rfl,by simp,fun x hx=>by
        have hx:x∈[q1,q2]:=hx
        simp only [bWp,bW9,or_false] at hx
        rcases hx with rfl | rfl
        ·exact g1
        ·exact g2⟩⟩
      | false=>exact .inr ⟨k - 1,((k - 1:Nat):Int) - 1,by omega,by simp only [cond_false,aA2 (n:=k - 1) (by omega)],rfl,by omega⟩
     ·exact .inl ⟨.inl (),by simp only [decide_eq_false g0,cond_false],.inl rfl⟩
    ·rintro z (rfl | ⟨p,rfl,hp⟩)
     ·exact .inr ⟨n - 1,((n - 1:Nat):Int) - 1,by omega,by simp only [bXp,hn1,aA2 (n:=n - 1) (by omega)],rfl,by omega⟩
     ·exact .inl ⟨.inr p,rfl,fun q hq=>by cases hq;exact hp⟩
   ·exact .inl ⟨.inl (),by simp only [decide_eq_false h0,cond_false],fun p hp=>by cases hp⟩
  ·rintro z hz
   cases z with
   | inl u=>exact ⟨[],rfl,aNc⟩
   | inr p=>exact ⟨p,rfl,hz p rfl⟩
 obtain ⟨p,ep,kp⟩:=hm
 have ep:iQ (up.1,up.2.1,up.2.2) (down.1,down.2.1,down.2.2)=some p:=ep
 exact ⟨p,by unfold iE pj3;rw [ep,aA],kp⟩

theorem wC.one {p:den tPt} (h:mO p):wC 1 [p]:=⟨by simp,fun q hq=>by rw [bWt.1 hq];exact h⟩

theorem wC.mono {n m:Nat} {l:List (den tPt)} (h:wC n l) (hm:n<=m):wC m l:=⟨bWl h.1 hm,h.2⟩

theorem yL {t:Ty} {B:Nat}: ∀ {l:List (den t)},(∀ x∈l,tot t x<=B)→tot (.sl t) l<=(B+1) * l.length
 | [],_=>by simp [tot]
 | x::l,h=>by
  have ih:=yL (l:=l) fun y hy=>h y (bWz _ hy)
  have hx:=h x (by simp)
  rw [kM,bXo,Nat.mul_add,Nat.mul_one]
  omega

theorem aVe {q:den tPp} (h:q.2.2.2.length<=5):tot tPp q<=5:=by
 show tot ti q.1+(tot ti q.2.1+(tot ti q.2.2.1+tot (.sl aL) q.2.2.2))<=5
 rw [jG (t:=aL) rfl]
 show 0+(0+(0+q.2.2.2.length))<=5
 omega

theorem aI6 {p:den tPt} (h:mO p):tot tPt p<=18:=by
 have h1:=yL (t:=tPp) (B:=5) (l:=p) fun x hx=>aVe (h.2 x hx)
 have h2:=h.1
 show tot (.sl tPp) p<=18
 have :(5+1) * bW0 (α:=den tPp) p<=18:=by omega
 exact bWl h1 this

theorem aR2 {n:Nat} {l:List (den tPt)} (h:wC n l):tot (.sl tPt) l<=19 * n:=by
 have h1:=yL (t:=tPt) (B:=18) (l:=l) fun x hx=>aI6 (h.2 x hx)
 have h2:=h.1
 have :(18+1) * l.length<=19 * n:=by omega
 exact bWl h1 this

theorem bG1 {as:List (den tAS)} {ls:List (den tLk)} (ht:aAv as ls) {q:den tPp} (h:q.2.2.2.length<=5): ∃ b,nH (as,ls) q=some b:=by
 have hlen:=ht.len
 unfold nH pj2 pj4 pj5
 refine bS (G:=fun o=> ∃ b,o=some b) q.2.2.2.length (fun s:Int=>s) (fun i t=>True) (fun r:Unit⊕Bool=>True) ?_ ?_ 0 (0:Int) (by omega) rfl trivial ?_
 ·rintro i _ hi rfl _
  obtain ⟨bt,et⟩: ∃ v,wO (q.1,q.2.1,q.2.2.1,q.2.2.2) (i:Int)=some v:=by
   unfold wO pj4
   have e1:=aQs (p:=q) (n:=i) (by omega) (by omega)
   have e2:=aQs (p:=q) (n:=i+1) (by omega) (by omega)
   have e1:gI (q.1,q.2.1,q.2.2.1,q.2.2.2) (i:Int)=some _:=e1
   have e2:gI (q.1,q.2.1,q.2.2.1,q.2.2.2) ((i+1:Nat):Int)=some _:=e2
   simp only [aCk,aA,aW (show i<=1000000000 by omega),e1,e2]
   cases jC q.1<;>exact ⟨_,rfl⟩
  have ev:=aT7 (t:=(as,ls)) (ts:=q.2.1) (beta:=bt) (h:=q.2.2.2[i]) (show as.length<=68719476736 by omega)
  have ev:fJ (as,ls) q.2.1 bt (q.2.2.2[i].1,q.2.2.2[i].2.1,q.2.2.2[i].2.2.1,q.2.2.2[i].2.2.2.1,q.2.2.2[i].2.2.2.2)=some _:=ev
  simp only [decide_eq_true (show (i:Int)<(q.2.2.2.length:Int) by omega),cond_true,aG,bWk hi,aA,et,ev,aW (show i<=1000000000 by omega)]
  cases aCw (as,ls) q.2.1 bt q.2.2.2[i] with
  | true=>exact .inr ⟨_,rfl,rfl,trivial⟩
  | false=>exact .inl ⟨_,rfl,trivial⟩
 ·rintro _ rfl _
  exact ⟨.inl (),by simp only [decide_eq_false (bW1 _),cond_false],trivial⟩
 ·rintro r _
  cases r with
  | inl u=>exact ⟨_,rfl⟩
  | inr v=>exact ⟨_,rfl⟩

theorem bKw {as:List (den tAS)} {ls:List (den tLk)} (ht:aAv as ls) {p:List (den tPp)} (h:mO p): ∃ b,qG (as,ls) p=some b:=by
 have h3:=h.1
 unfold qG pj2 pj4
 refine bS (G:=fun o=> ∃ b,o=some b) p.length (fun s:Int=>s) (fun i t=>True) (fun r:Unit⊕Bool=>True) ?_ ?_ 0 (0:Int) (by omega) rfl trivial ?_
 ·rintro i _ hi rfl _
  obtain ⟨b,eb⟩:=bG1 ht (q:=p[i]) (h.2 p[i] (bWy hi))
  have eb:nH (as,ls) (p[i].1,p[i].2.1,p[i].2.2.1,p[i].2.2.2)=some b:=eb
  simp only [decide_eq_true (show (i:Int)<(p.length:Int) by omega),cond_true,aG,bWk hi,aA,eb,aW (show i<=1000000000 by omega)]
  cases b with
  | true=>exact .inr ⟨_,rfl,rfl,trivial⟩
  | false=>exact .inl ⟨_,rfl,trivial⟩
 ·rintro _ rfl _
  exact ⟨.inl (),by simp only [decide_eq_false (bW1 _),cond_false],trivial⟩
 ·rintro r _
  cases r with
  | inl u=>exact ⟨_,rfl⟩
  | inr v=>exact ⟨_,rfl⟩

theorem bAq {as:List (den tAS)} {ls:List (den tLk)} (ht:aAv as ls) {p:List (den tPp)} (h:mO p) (now:Int): ∃ b,pO (as,ls) p now=some b:=by
 have hlen:=ht.len
 have hlk:=ht.links
 have h3:=h.1
 have e1:=aSe (t:=(as,ls)) (p:=p) (show as.length<=_ by omega) (show ls.length<=_ by omega) (bWl (aI6 h) (by decide))
 obtain ⟨b2,e2⟩:=bKw ht h
 unfold pO pj2 pj5
 rw [e1,aA,e2,aA]
 obtain ⟨b3,e3⟩: ∃ b:Bool,(cond (!(xQ (as,ls) p)) (some true) (some (!b2)))=some b:=by cases xQ (as,ls) p<;>exact ⟨_,rfl⟩
 rw [e3,aA]
 cases b3 with
 | true=>exact ⟨_,rfl⟩
 | false=>
  refine bS (G:=fun o=> ∃ b,o=some b) p.length (fun s:Int=>s) (fun i t=>True) (fun r:Unit⊕Bool=>True) ?_ ?_ 0 (0:Int) (by omega) rfl trivial ?_
  ·rintro i _ hi rfl _
   have hh:=h.2 p[i] (bWy hi)
   simp only [decide_eq_true (show (i:Int)<(p.length:Int) by omega),cond_true,aG,bWk hi,aA]
   cases decide (p[i].2.1>now) with
   | true=>exact .inl ⟨_,rfl,trivial⟩
   | false=>
    simp only [cond_false]
    refine bS (G:=fun (o:Option (Int⊕(Unit⊕Bool)))=>(∃ r,o=some (bWi r)∧True)∨ ∃ s':Int,o=some (bWj s')∧s'=((i+1:Nat):Int)∧True) p[i].2.2.2.length (fun s:Int=>s) (fun j t=>True) (fun z:Unit⊕(Int⊕(Unit⊕Bool))=>z= .inl ()∨ ∃ b,z= .inr (.inr (.inr b))) ?_ ?_ 0 (0:Int) (by omega) rfl trivial ?_
    ·rintro j _ hj rfl _
     have ehv: ∀ (hp:den aL) (n:Int),kY hp n=some (decide (n<=hp.2.2.2.1)):=fun _ _=>rfl
     simp only [decide_eq_true (show (j:Int)<(p[i].2.2.2.length:Int) by omega),cond_true,aG,bWk hj,aA,ehv,aW (show j<=1000000000 by omega)]
     cases decide (now<=p[i].2.2.2[j].2.2.2.1) with
     | true=>exact .inr ⟨_,rfl,rfl,trivial⟩
     | false=>exact .inl ⟨_,rfl,.inr ⟨false,rfl⟩⟩
    ·rintro _ rfl _
     exact ⟨.inl (),by simp only [decide_eq_false (bW1 _),cond_false],.inl rfl⟩
    ·rintro z (rfl | ⟨b,rfl⟩)
     ·exact .inr ⟨((i+1:Nat):Int),by simp only [bXp,aW (show i<=1000000000 by omega)],rfl,trivial⟩
     ·exact .inl ⟨.inr b,rfl,trivial⟩
  ·rintro _ rfl _
   exact ⟨.inl (),by simp only [decide_eq_false (bW1 _),cond_false],trivial⟩
  ·rintro r _
   cases r with
   | inl u=>exact ⟨_,rfl⟩
   | inr v=>exact ⟨_,rfl⟩

theorem bIh {a b:den tPp} (h:a.2.2.2.length<=5): ∃ v,jH a b=some v:=by
 obtain ⟨v,e⟩:=aNr (a:=a.2.2.2) (b:=b.2.2.2) (by omega)
 unfold jH
 rw [e,aA]
 cases a.1==b.1
 ·exact ⟨_,rfl⟩
 ·cases a.2.1==b.2.1
  ·exact ⟨_,rfl⟩
  ·cases a.2.2.1==b.2.2.1<;>exact ⟨_,rfl⟩

theorem bO2 {a b:List (den tPp)} (h:mO a): ∃ v,iD a b=some v:=by
 have h3:=h.1
 have h3:a.length<=3:=h3
 unfold iD pj4
 by_cases hn:a.length=b.length
 ·rw [hn,bne_self_eq_false,cond_false,← hn]
  refine bS (G:=fun o=> ∃ b,o=some b) a.length (fun s:Int=>s) (fun i t=>True) (fun r:Unit⊕Bool=>True) ?_ ?_ 0 (0:Int) (by omega) rfl trivial ?_
  ·rintro i _ hi rfl _
   have h2:i<b.length:=by omega
   obtain ⟨v,e⟩:=bIh (a:=a[i]) (b:=b[i]) (h.2 a[i] (bWy hi))
   have e:jH (a[i].1,a[i].2.1,a[i].2.2.1,a[i].2.2.2) (b[i].1,b[i].2.1,b[i].2.2.1,b[i].2.2.2)=some v:=e
   simp only [decide_eq_true (show (i:Int)<(a.length:Int) by omega),cond_true,aG,bWk hi,bWk h2,aA,e,aW (show i<=1000000000 by omega)]
   cases v with
   | true=>exact .inr ⟨_,rfl,rfl,trivial⟩
   | false=>exact .inl ⟨_,rfl,trivial⟩
  ·rintro _ rfl _
   exact ⟨.inl (),by simp only [decide_eq_false (bW1 _),cond_false],trivial⟩
  ·rintro r _
   cases r with
   | inl u=>exact ⟨_,rfl⟩
   | inr v=>exact ⟨_,rfl⟩
 ·rw [show ((a.length:Int) != (b.length:Int))=true by rw [bne_iff_ne];omega,cond_true]
  exact ⟨_,rfl⟩

theorem bJ6 {n:Nat} (hn:n<=100000) {l:List (den tPt)} (h:wC n l) (p:den tPt): ∃ v,wN l p=some v:=by
 have h1:=h.1
 unfold wN
 refine bS (G:=fun o=> ∃ b,o=some b) l.length (fun s:Int=>s) (fun i t=>True) (fun r:Unit⊕Bool=>True) ?_ ?_ 0 (0:Int) (by omega) rfl trivial ?_
 ·rintro i _ hi rfl _
  obtain ⟨v,e⟩:=bO2 (a:=l[i]) (b:=p) (h.2 l[i] (bWy hi))
  simp only [decide_eq_true (show (i:Int)<(l.length:Int) by omega),cond_true,aG,bWk hi,aA,e,aW (show i<=1000000000 by omega)]
  cases v with
  | false=>exact .inr ⟨_,rfl,rfl,trivial⟩
  | true=>exact .inl ⟨_,rfl,trivial⟩
 ·rintro _ rfl _
  exact ⟨.inl (),by simp only [decide_eq_false (bW1 _),cond_false],trivial⟩
 ·rintro r _
  cases r with
  | inl u=>exact ⟨_,rfl⟩
  | inr v=>exact ⟨_,rfl⟩

theorem aJ6 {code:List Int} (hl:code.length<=1048576) {n:Nat} (hn:n<=1000) {c:List Int} {p h:Int} (hc:Cur code (c,p,h)): ∃ l c' p' h',dF (c,p,h) (n:Int)=some (l,c',p',h')∧(l.length=n∧ ∀ x∈l,0<=x∧x<=255)∧Cur code (c',p',h'):=by
 unfold dF pj3 pj4
 refine bS (G:=fun o=> ∃ l c' p' h',o=some (l,c',p',h')∧(l.length=n∧ ∀ x∈l,0<=x∧x<=255)∧Cur code (c',p',h')) n (fun s:Int×List Int×List Int×Int×Int=>s.1) (fun i s=>(s.2.1.length=i∧ ∀ x∈s.2.1,0<=x∧x<=255)∧Cur code s.2.2) (fun r:List Int×List Int×Int×Int=>(r.1.length=n∧ ∀ x∈r.1,0<=x∧x<=255)∧Cur code r.2) ?_ ?_ 0 ((0:Int),[],c,p,h) (by omega) rfl ⟨⟨rfl,fun x hx=>(bW9 hx).elim⟩,hc⟩ (fun r hr=>⟨r.1,r.2.1,r.2.2.1,r.2.2.2,rfl,hr.1,hr.2⟩)
 ·rintro i ⟨_,l,c1,p1,h1⟩ hi rfl ⟨⟨g1,g2⟩,k1⟩
  simp only at g1 g2 k1
  obtain ⟨v,c2,p2,h2,e2,r2,k2⟩:=aFg hl k1
  obtain ⟨m,rfl⟩:=bXe r2.1
  right
  refine ⟨(((i+1:Nat):Int),l++[(m:Int)],c2,p2,h2),?_,rfl,⟨by simp [g1],fun x hx=>(bWv.1 hx).elim (g2 x) fun hx=>by rw [bWt.1 hx];omega⟩,k2⟩
  simp only [decide_eq_true (show (i:Int)<(n:Int) by omega),cond_true,e2,aA,aD (b:=1) (n:=l.length) (m:=1) (by decide) (by omega),aW (show i<=1000000000 by omega),aCb (n:=m) (by omega)]
 ·rintro ⟨_,l,c1,p1,h1⟩ rfl ⟨g,k1⟩
  exact ⟨(l,c1,p1,h1),by simp only [decide_eq_false (bW1 _),cond_false],g,k1⟩

theorem bEa {up down:den tSg} (h1:up.2.2.length<=5) (h2:down.2.2.length<=5): ∃ p,iQ up down=some p∧mO p:=by
 obtain ⟨p,e,k⟩:=bJh h1 h2
 unfold iE pj3 at e
 refine ⟨p,?_,k⟩
 cases hm:iQ (up.1,up.2.1,up.2.2) (down.1,down.2.1,down.2.2) with
 | none=>rw [hm] at e;cases e
 | some q=>rw [hm,aA] at e;cases e;rfl

def bTh (code:List Int) (o:Option (List (den tAS)×List (den tLk)×List (den tPp)×List Int×Int×Int)):Prop:= ∃ (as:List (den tAS)) (ls:List (den tLk)) (q:List (den tPp)) (c':List Int) (p' h':Int),o=some (as,ls,q,c',p',h')∧mO q∧Cur code (c',p',h')

theorem aHx {q:den tPp} (h:q.2.2.2.length<=5):mO [q]:=⟨by simp,fun x hx=>by
 have hx:x∈[q]:=hx
 rw [bWt.1 hx];exact h⟩

abbrev PdS:=Int×Int×Int×Int×Int×List (den aL)×List (den aL)×List Int×Int×Int

theorem aUz {code:List Int} (hl:code.length<=1048576) {c:List Int} {p h:Int} (hc:Cur code (c,p,h)):bTh code (rS (c,p,h)):=by
 obtain ⟨as,ls,c1,p1,h1,e1,ht,k1⟩:=aYz hl hc
 obtain ⟨t2,b2,s2,c2,p2,h2,e2,l2,k2⟩:=aE9 hl ht 2 k1
 obtain ⟨t3,b3,s3,c3,p3,h3,e3,l3,k3⟩:=aE9 hl ht 2 k2
 obtain ⟨t4,b4,s4,c4,p4,h4,e4,l4,k4⟩:=aE9 hl ht 1 k3
 obtain ⟨v5,c5,p5,h5,e5,r5,k5⟩:=aX hl (n:=5) (by decide) (by decide) k4
 unfold rS dd one pj3 pj4 pj6 pj9 zz4 zz5 zz6 zz7
 simp only [e1,e2,e3,e4,e5,aA,aV,bH,bA,aZ,bC,show aH 48 0 1=true from by decide,cond_true]
 cases v5==(0:Int) with
 | true=>
  obtain ⟨q,eq,kq⟩:=bEa (up:=(t2,b2,s2)) (down:=(t3,b3,s3)) l2 l3
  exact ⟨as,ls,q,c5,p5,h5,by simp only [cond_true,eq,aA],kq,k5⟩
 | false=>
  cases v5==(1:Int) with
  | true=>
   simp only [cond_true,cond_false]
   by_cases hs:(s2.length:Int)>0
   ·obtain ⟨v6,c6,p6,h6,e6,r6,k6⟩:=aEy hl (l:=[(1:Int),(4:Int)]) (by decide) (by decide) k5
    obtain ⟨q,eq,kq⟩:=wZ (s:=(t2,b2,s2)) l2 v6 0
    exact ⟨as,ls,[q],c6,p6,h6,by simp only [decide_eq_true hs,cond_true,e6,eq,aA],aHx kq,k6⟩
   ·exact ⟨as,ls,[],c5,p5,h5,by simp only [decide_eq_false hs,cond_false,aA],aNc,k5⟩
  | false=>
   cases v5==(2:Int) with
   | true=>
    simp only [cond_true,cond_false]
    by_cases hs:(s4.length:Int)>0
    ·obtain ⟨v6,c6,p6,h6,e6,r6,k6⟩:=aEy hl (l:=[(2:Int),(3:Int)]) (by decide) (by decide) k5
     obtain ⟨q,eq,kq⟩:=wZ (s:=(t4,b4,s4)) l4 v6 0
     exact ⟨as,ls,[q],c6,p6,h6,by simp only [decide_eq_true hs,cond_true,e6,eq,aA],aHx kq,k6⟩
    ·exact ⟨as,ls,[],c5,p5,h5,by simp only [decide_eq_false hs,cond_false,aA],aNc,k5⟩
   | false=>
    simp only [cond_false]
    obtain ⟨fc,efc⟩:=aHy (s:=(t4,b4,s4))
    obtain ⟨lc,elc⟩:=aRv (s:=(t4,b4,s4)) (by show s4.length<=_;omega)
    refine bS (G:=bTh code) 6 (fun s:PdS=>s.1) (fun i s=>s.2.2.2.2.2.1.length<=5∧s.2.2.2.2.2.2.1.length<=5∧Cur code s.2.2.2.2.2.2.2) (fun r:Int×Int×Int×Int×List (den aL)×List (den aL)×List Int×Int×Int=>r.2.2.2.2.1.length<=5∧r.2.2.2.2.2.1.length<=5∧Cur code r.2.2.2.2.2.2) ?_ ?_ 0 ((0:Int),t2,b2,t3,b3,s2,s3,c5,p5,h5) (by omega) rfl ⟨l2,l3,k5⟩ ?_
    ·rintro i ⟨_,ut,ub,dt,db,us,ds,c6,p6,h6⟩ hi rfl ⟨g1,g2,g3⟩
     simp only at g1 g2 g3
     simp only [decide_eq_true (show (i:Int)<6 by omega),cond_true,aA,efc,elc]
     cases decide ((s4.length:Int)>0) with
     | false=>exact .inl ⟨(ut,ub,dt,db,us,ds,c6,p6,h6),rfl,g1,g2,g3⟩
     | true=>
      right
      obtain ⟨fu,efu⟩:=aHy (s:=(ut,ub,us))
      obtain ⟨fd,efd⟩:=aHy (s:=(dt,db,ds))
      simp only [cond_true,efu,efd,aA]
      obtain ⟨x1,ex1⟩: ∃ b:Bool,(cond (decide ((us.length:Int)>(0:Int))) (some (fu != fc)) (some false))=some b:=by cases decide ((us.length:Int)>(0:Int))<;>exact ⟨_,rfl⟩
      obtain ⟨x2,ex2⟩: ∃ b:Bool,(cond (decide ((ds.length:Int)>(0:Int))) (some (fd != lc)) (some false))=some b:=by cases decide ((ds.length:Int)>(0:Int))<;>exact ⟨_,rfl⟩
      simp only [ex1,ex2,aA]
      obtain ⟨y1,y2,y3,c7,p7,h7,ey,ly,ky⟩: ∃ a b hs c p h,(cond x1 (Option.bind (iR (c6,p6,h6) (as,ls) (2:Int)) fun y72=>some (y72.1,y72.2.1,y72.2.2.1,y72.2.2.2.1,y72.2.2.2.2.1,y72.2.2.2.2.2)) (some (ut,ub,us,c6,p6,h6)))=some (a,b,hs,c,p,h)∧hs.length<=5∧Cur code (c,p,h):=by
       cases x1 with
       | false=>exact ⟨ut,ub,us,c6,p6,h6,rfl,g1,g3⟩
       | true=>
        obtain ⟨a,b,hs,c,p,h,eg,lg,kg⟩:=aE9 hl ht 2 g3
        exact ⟨a,b,hs,c,p,h,by simp only [cond_true,eg,aA],lg,kg⟩
      rw [ey,aA]
      simp only
      cases x2 with
      | false=>exact ⟨_,rfl,aW (show i<=1000000000 by omega),ly,g2,ky⟩
      | true=>
       obtain ⟨a,b,hs,c,p,h,eg,lg,kg⟩:=aE9 hl ht 2 ky
       refine ⟨_,by simp only [cond_true,eg,aA];rfl,aW (show i<=1000000000 by omega),ly,lg,kg⟩
    ·rintro ⟨_,ut,ub,dt,db,us,ds,c6,p6,h6⟩ rfl ⟨g1,g2,g3⟩
     exact ⟨(ut,ub,dt,db,us,ds,c6,p6,h6),by simp only [show decide (((6:Nat):Int)<(6:Int))=false from rfl,cond_false,aA],g1,g2,g3⟩
    rintro ⟨ut,ub,dt,db,us,ds,c6,p6,h6⟩ ⟨g1,g2,g3⟩
    simp only at g1 g2 g3
    obtain ⟨q1,f1,m1⟩:=wZ (s:=(ut,ub,us)) g1 1 0
    obtain ⟨q2,f2,m2⟩:=wZ (s:=(t4,b4,s4)) l4 2 0
    obtain ⟨q3,f3,m3⟩:=wZ (s:=(dt,db,ds)) g2 4 0
    have one: ∀ (l:List (den tPp)) (q:den tPp) (n:Nat),l.length<=n→q.2.2.2.length<=5→(∀ x∈l,x.2.2.2.length<=5)→(l++[q]).length<=n+1∧ ∀ x∈l++[q],x.2.2.2.length<=5:=fun l q n hl hq h=>⟨by simp;omega,fun x hx=>(bWv.1 hx).elim (h x) fun hx=>by rw [bWt.1 hx];exact hq⟩
    simp only [f1,f2,f3,aA]
    obtain ⟨a1,j1,i1,i2⟩: ∃ l:List (den tPp),(cond (decide ((us.length:Int)>(0:Int))) (some [q1]) (some []))=some l∧l.length<=1∧ ∀ x∈l,x.2.2.2.length<=5:=by
     cases decide ((us.length:Int)>(0:Int))
     ·exact ⟨[],rfl,by simp,fun x hx=>(bW9 hx).elim⟩
     ·exact ⟨[q1],rfl,by simp,fun x hx=>by rw [bWt.1 hx];exact m1⟩
    rw [show ((q1.1,q1.2.1,q1.2.2.1,q1.2.2.2):den tPp)=q1 from rfl,j1,aA,aD (b:=48) (n:=a1.length) (m:=1) (by decide) (by omega)]
    obtain ⟨a2,j2,i3,i4⟩: ∃ l:List (den tPp),(cond (decide ((s4.length:Int)>(0:Int))) (cond true (some (a1++[q2])) none) (some a1))=some l∧l.length<=2∧ ∀ x∈l,x.2.2.2.length<=5:=by
     cases decide ((s4.length:Int)>(0:Int))
     ·exact ⟨a1,rfl,by omega,i2⟩
     ·exact ⟨a1++[q2],rfl,one a1 q2 1 i1 m2 i2⟩
    rw [show ((q2.1,q2.2.1,q2.2.2.1,q2.2.2.2):den tPp)=q2 from rfl,j2,aA,aD (b:=48) (n:=a2.length) (m:=1) (by decide) (by omega)]
    cases decide ((ds.length:Int)>(0:Int))
    ·exact ⟨as,ls,a2,c6,p6,h6,rfl,⟨bWl i3 (by decide),i4⟩,g3⟩
    ·exact ⟨as,ls,a2++[q3],c6,p6,h6,rfl,one a2 q3 2 i3 m3 i4,g3⟩


structure bVe (p:den tPk):Prop where
 path:mO p.2.2.2.1
 len:p.2.2.2.2.2.2.2.2.2.length<=1000
 bytes: ∀ x∈p.2.2.2.2.2.2.2.2.2,(0:Int)<=x∧x<=(255:Int)

theorem bOo {code:List Int} (hl:code.length<=1048576) {c:List Int} {p h:Int} (hc:Cur code (c,p,h)): ∃ (as:List (den tAS)) (ls:List (den tLk)) (k:den tPk) (c':List Int) (p' h':Int),wS (c,p,h)=some (as,ls,k.1,k.2.1,k.2.2.1,k.2.2.2.2.1,k.2.2.2.2.2.1,k.2.2.2.2.2.2.1,k.2.2.2.2.2.2.2.1,k.2.2.2.2.2.2.2.2.1,k.2.2.2.1,k.2.2.2.2.2.2.2.2.2,c',p',h')∧bVe k∧Cur code (c',p',h'):=by
 obtain ⟨as,ls,q,c1,p1,h1,e1,kq,k1⟩:=aUz hl hc
 obtain ⟨v2,c2,p2,h2,e2,r2,k2⟩:=aX hl (n:=3) (by decide) (by decide) k1
 obtain ⟨v3,c3,p3,h3,e3,r3,k3⟩:=aX hl (n:=9) (by decide) (by decide) k2
 obtain ⟨v4,c4,p4,h4,e4,r4,k4⟩:=aX hl (n:=3) (by decide) (by decide) k3
 obtain ⟨v5,c5,p5,h5,e5,r5,k5⟩:=aX hl (n:=4) (by decide) (by decide) k4
 obtain ⟨m5,rfl⟩:=bXe r5.1
 obtain ⟨l6,c6,p6,h6,e6,⟨r6,b6⟩,k6⟩:=aJ6 hl (n:=m5) (by omega) k5
 have e7:=aLy (kind:=wr (1+v2)) (res:=v4) (seq:=v3) (p:=q) (pay:=l6) (bWl (aI6 kq) (by decide)) (by omega)
 refine ⟨as,ls,aDz (wr (1+v2)) q v4 v3 l6,c6,p6,h6,?_,⟨kq,by show l6.length<=_;omega,b6⟩,k6⟩
 unfold wS dd bTg pj3 zz4 zz5 zz6 zz7 zz8 zz9
 simp only [e1,e2,e3,e4,e5,e6,e7,aA,aV,bH,bA,aZ,bC]
 rfl

theorem bRz (a b:Int):wX a b=some (a,b,0,[]):=rfl


def RvD (l:List (den tRv)):Prop:=l.length<=16∧ ∀ y∈l,dM y=true

theorem bHb {l:List (den tRv)} {x:den tRv} (h:RvD l):RvD (aI4 l x):=by
 obtain ⟨h1,h2⟩:=h
 unfold aI4
 cases hv:dM x with
 | false=>exact ⟨h1,h2⟩
 | true=>
  simp only [cond_true]
  cases hs:bZ (zJ x l) 0 l with
  | some r=>
   have :=aJv (fun r:List (den tRv)=> @ite Nat (RvD r) (Classical.propDecidable _) 0 1) 0 (g:=zJ x l) (l:=l) (k:=0) (fun j y r' hy hr=>by
    have hp:RvD r':=by
     unfold zJ at hr
     cases c1:y.1==x.1 with
     | false=>rw [c1] at hr;cases hr
     | true=>
      cases c2:y.2.1==x.2.1 with
      | false=>rw [c1,c2] at hr;cases hr
      | true=>
       rw [c1,c2] at hr
       injection hr with hr
       rw [← hr]
       have hy':=h2 y (bWx hy)
       refine ⟨by simpa using h1,fun z hz=> ?_⟩
       rcases bZb hz with hz | rfl
       ·exact h2 z hz
       ·unfold dM at hv hy' ⊢
        simp only [bWm] at hv hy' ⊢
        refine ⟨hy'.1,hy'.2.1,?_⟩
        split
        ·exact hv.2.2
        ·exact hy'.2.2
    simp only [if_pos hp]
    exact bW3 _) r hs
   by_cases hp:RvD r
   ·exact hp
   ·simp only [if_neg hp] at this
    omega
  | none=>
   have hx: ∀ y∈l++[x],dM y=true:=fun y hy=>(bWv.1 hy).elim (h2 y) fun hy=>by rw [bWt.1 hy];exact hv
   by_cases c:16<l.length+1
   ·simp only [c,if_true]
    exact ⟨by simp;omega,fun y hy=>hx y (bX7 hy)⟩
   ·simp only [c,if_false]
    exact ⟨by simp;omega,hx⟩

theorem aFa (a b c d cu wa:Int) (ms:List (den tMs)) (ps:List (den tPt)) (rv:List (den tRv)):tot tFl (a,b,c,d,ms,ps,cu,wa,rv)=tot (.sl tMs) ms+tot (.sl tPt) ps+rv.length:=by
 show tot ti a+(tot ti b+(tot ti c+(tot ti d+(tot (.sl tMs) ms+(tot (.sl tPt) ps+(tot ti cu+(tot ti wa+tot (.sl tRv) rv)))))))=_
 rw [jG (t:=tRv) rfl]
 show 0+(0+(0+(0+(_+(_+(0+(0+_)))))))=_
 omega

theorem aYo (b:List Int):tot (.sl tMs) [b]=1+b.length:=by
 rw [kM]
 show 1+tot (.sl tb) b+tot (.sl tMs) []=_
 rw [jG (t:=tb) rfl]
 rfl

theorem uN (f:den tFl):gN f=true↔inR f.1 0 7=true∧inR f.2.1 0 7=true∧f.1≠f.2.1∧inR f.2.2.1 0 100000=true∧f.2.2.2.2.1.length<=20∧inR f.2.2.2.1 0 (f.2.2.2.2.1.length:Int)=true∧f.2.2.2.2.2.1.length<=24∧
  (∀ m∈f.2.2.2.2.1,m.length<=40)∧(∀ x∈f.2.2.2.2.2.2.2.2,dM x=true)∧(f.2.2.2.2.2.2.1=0∨inR f.2.2.2.2.2.2.1 0 ((f.2.2.2.2.2.1.length:Int) - 1)=true)∧inR f.2.2.2.2.2.2.2.1 0 4=true∧f.2.2.2.2.2.2.2.2.length<=16:=by
 unfold gN
 simp only [bWm,bXz,bXn,beq_iff_eq,beq_eq_false_iff_ne,decide_eq_true_eq,bXb,ne_eq]

theorem aWb {c:Int} {n:Nat} (hn:n<=24) (h:c=0∨inR c 0 ((n:Int) - 1)=true):(if wr (c+1)>=(n:Int) then (0:Int) else wr (c+1))=0∨inR (if wr (c+1)>=(n:Int) then (0:Int) else wr (c+1)) 0 ((n:Int) - 1)=true:=by
 have hc:0<=c∧c<=24:=by
  rcases h with e | e
  ·omega
  ·have :=bI.1 e;omega
 rw [bF (by omega) (by omega)]
 split
 ·exact .inl rfl
 ·right
  rw [bI]
  omega

theorem bPi {w:Int} (h:inR w 0 4=true) (h4: ¬ (w==4)=true):inR (wr (w+1)) 0 4=true:=by
 rw [bI] at h
 rw [beq_iff_eq] at h4
 rw [bF (by omega) (by omega),bI]
 omega

theorem bEl {f:den tFl} (h:gN f=true):gN (aF f).1=true:=by
 rw [uN] at h
 obtain ⟨h1,h2,h3,h4,h5,h6,h7,h8,h9,h10,h11,h12⟩:=h
 have key: ∀ c w:Int,(c=0∨inR c 0 ((f.2.2.2.2.2.1.length:Int) - 1)=true)→inR w 0 4=true→gN (qM f c w)=true:=fun c w hc hw=>by
  rw [uN]
  exact ⟨h1,h2,h3,h4,h5,h6,h7,h8,h9,hc,hw,h12⟩
 unfold aF
 split
 ·split
  ·exact key _ _ h10 rfl
  ·split
   ·exact key _ _ (aWb h7 h10) rfl
   ·next e4=>exact key _ _ h10 (bPi h11 e4)
 ·exact key _ _ h10 rfl


def Cmp {α:Type} (a b:α) (o:Option Bool):Prop:= ∃ v,o=some v∧(a=b→v=true)


theorem aB9 {α:Type} (a b:List α) (st:Int→Option (Int⊕(Unit⊕Bool))) (h:a.length<=1073741824)
  (hs: ∀ (i:Nat) (hi:i<a.length) (hj:i<b.length),∃ v:Bool,st (i:Int)=some (cond (!v) (.inr (.inr false)) (.inl ((i+1:Nat):Int)))∧(a[i]=b[i]→v=true)) (he:st (a.length:Int)=some (.inr (.inl ()))):
  Cmp a b (cond ((a.length:Int) != (b.length:Int)) (some false) (Option.bind (aB st (0:Int)) fun z=>Sum.elim (fun _=>some true) some z)):=by
 by_cases hn:a.length=b.length
 ·rw [hn,bne_self_eq_false,cond_false]
  refine bS (G:=Cmp a b) a.length (fun s:Int=>s) (fun i t=>True) (fun r:Unit⊕Bool=>a=b→r= .inl ()) ?_ ?_ 0 (0:Int) (by omega) rfl trivial ?_
  ·rintro i _ hi rfl _
   obtain ⟨v,e,k⟩:=hs i hi (by omega)
   rw [e]
   cases v with
   | true=>exact .inr ⟨_,rfl,rfl,trivial⟩
   | false=>exact .inl ⟨.inr false,rfl,fun e=>by subst e;cases k rfl⟩
  ·rintro _ rfl _
   exact ⟨.inl (),he,fun _=>rfl⟩
  ·rintro r hr
   cases r with
   | inl u=>exact ⟨true,rfl,fun _=>rfl⟩
   | inr v=>exact ⟨v,rfl,fun e=>by cases hr e⟩
 ·rw [show ((a.length:Int) != (b.length:Int))=true by rw [bne_iff_ne];omega,cond_true]
  exact ⟨false,rfl,fun e=>absurd (congrArg bW0 e) hn⟩

theorem aT4 {a b:List Int} (h:a.length<=1000000):Cmp a b (aAa a b):=by
 unfold aAa
 refine aB9 a b _ (by omega) (fun i hi hj=>⟨a[i]==b[i],?_,fun e=>by simpa using e⟩) ?_
 ·simp only [decide_eq_true (show (i:Int)<(a.length:Int) by omega),cond_true,aG,bWk hi,bWk hj,aA,aW (show i<=1000000000 by omega),bne]
  cases a[i]==b[i]<;>rfl
 ·simp only [decide_eq_false (bW1 _),cond_false]

theorem aOn {a b:List (List Int)} (h:a.length<=1000000) (hm: ∀ m∈a,m.length<=1000000):Cmp a b (lC a b):=by
 unfold lC
 refine aB9 a b _ (by omega) (fun i hi hj=> ?_) ?_
 ·obtain ⟨v,e,k⟩:=aT4 (a:=a[i]) (b:=b[i]) (hm _ (bWy hi))
  refine ⟨v,?_,k⟩
  simp only [decide_eq_true (show (i:Int)<(a.length:Int) by omega),cond_true,aG,bWk hi,bWk hj,aA,aW (show i<=1000000000 by omega),e]
  cases v<;>rfl
 ·simp only [decide_eq_false (bW1 _),cond_false]

theorem bEt {a b:List (den tRv)} (h:a.length<=1000000):Cmp a b (sD a b):=by
 unfold sD
 refine aB9 a b _ (by omega) (fun i hi hj=>⟨((a[i].1==b[i].1)&&((a[i].2.1==b[i].2.1)&&((a[i].2.2==b[i].2.2)&&true))),?_,fun e=>by rw [e];simp⟩) ?_
 ·simp only [decide_eq_true (show (i:Int)<(a.length:Int) by omega),cond_true,aG,bWk hi,bWk hj,aA,aW (show i<=1000000000 by omega)]
  cases ((a[i].1==b[i].1)&&((a[i].2.1==b[i].2.1)&&((a[i].2.2==b[i].2.2)&&true)))<;>rfl
 ·simp only [decide_eq_false (bW1 _),cond_false]

theorem bPa {a b:den tIb} (h:a.2.2.2.length<=1000000) (hm: ∀ m:List Int,m∈(show List (List Int) from a.2.2.2)→m.length<=1000000):Cmp a b (wL a b):=by
 obtain ⟨v,e,k⟩:=aOn (a:=a.2.2.2) (b:=b.2.2.2) h hm
 unfold wL
 rw [e,aA]
 cases c1:a.1==b.1
 ·exact ⟨false,rfl,fun e=>by subst e;simp at c1⟩
 ·cases c2:a.2.1==b.2.1
  ·exact ⟨false,rfl,fun e=>by subst e;simp at c2⟩
  ·cases c3:a.2.2.1==b.2.2.1
   ·exact ⟨false,rfl,fun e=>by subst e;simp at c3⟩
   ·exact ⟨v,rfl,fun e=>by subst e;exact k rfl⟩

theorem aUk {a b:List (den aL)} (h:a.length<=1000000):Cmp a b (pF a b):=by
 unfold pF zz4
 refine aB9 a b _ (by omega) (fun i hi hj=>⟨((a[i].1==b[i].1)&&((a[i].2.1==b[i].2.1)&&((a[i].2.2.1==b[i].2.2.1)&&((a[i].2.2.2.1==b[i].2.2.2.1)&&((a[i].2.2.2.2==b[i].2.2.2.2)&&true))))),?_,fun e=>by rw [e];simp⟩) ?_
 ·simp only [decide_eq_true (show (i:Int)<(a.length:Int) by omega),cond_true,aG,bWk hi,bWk hj,aA,aW (show i<=1000000000 by omega)]
  cases ((a[i].1==b[i].1)&&((a[i].2.1==b[i].2.1)&&((a[i].2.2.1==b[i].2.2.1)&&((a[i].2.2.2.1==b[i].2.2.2.1)&&((a[i].2.2.2.2==b[i].2.2.2.2)&&true)))))<;>rfl
 ·simp only [decide_eq_false (bW1 _),cond_false]

theorem bKc {a b:den tPp} (h:a.2.2.2.length<=1000000):Cmp a b (rG a b):=by
 obtain ⟨v,e,k⟩:=aUk (a:=a.2.2.2) (b:=b.2.2.2) h
 unfold rG
 rw [e,aA]
 cases c1:a.1==b.1
 ·exact ⟨false,rfl,fun e=>by subst e;simp at c1⟩
 ·cases c2:a.2.1==b.2.1
  ·exact ⟨false,rfl,fun e=>by subst e;simp at c2⟩
  ·cases c3:a.2.2.1==b.2.2.1
   ·exact ⟨false,rfl,fun e=>by subst e;simp at c3⟩
   ·exact ⟨v,rfl,fun e=>by subst e;exact k rfl⟩

theorem aWi {a b:List (den tPp)} (h:a.length<=1000000) (hp: ∀ x∈a,x.2.2.2.length<=1000000):Cmp a b (pE a b):=by
 unfold pE pj4
 refine aB9 a b _ (by omega) (fun i hi hj=> ?_) ?_
 ·obtain ⟨v,e,k⟩:=bKc (a:=a[i]) (b:=b[i]) (hp _ (bWy hi))
  have e:rG (a[i].1,a[i].2.1,a[i].2.2.1,a[i].2.2.2) (b[i].1,b[i].2.1,b[i].2.2.1,b[i].2.2.2)=some v:=e
  refine ⟨v,?_,k⟩
  simp only [decide_eq_true (show (i:Int)<(a.length:Int) by omega),cond_true,aG,bWk hi,bWk hj,aA,aW (show i<=1000000000 by omega),e]
  cases v<;>rfl
 ·simp only [decide_eq_false (bW1 _),cond_false]

theorem bG7 {a b:List (den tPt)} (h:a.length<=1000000) (hp: ∀ p:List (den tPp),p∈(show List (List (den tPp)) from a)→p.length<=1000000∧ ∀ x∈p,x.2.2.2.length<=1000000):Cmp a b (rM a b):=by
 unfold rM
 refine aB9 a b _ (by omega) (fun i hi hj=> ?_) ?_
 ·obtain ⟨h1,h2⟩:=hp a[i] (bWy hi)
  obtain ⟨v,e,k⟩:=aWi (a:=a[i]) (b:=b[i]) h1 h2
  refine ⟨v,?_,k⟩
  simp only [decide_eq_true (show (i:Int)<(a.length:Int) by omega),cond_true,aG,bWk hi,bWk hj,aA,aW (show i<=1000000000 by omega),e]
  cases v<;>rfl
 ·simp only [decide_eq_false (bW1 _),cond_false]

theorem aV9 {p:List (den tPp)} (h:SmB 1000000 tPt p):p.length<=1000000∧ ∀ x∈p,x.2.2.2.length<=1000000:=⟨h.1,fun x hx=>(h.2 x hx).2.2.2.1⟩

theorem bJ9 {a b:den tFl} (h:SmB 1000000 tFl a):Cmp a b (uB a b):=by
 obtain ⟨v1,e1,k1⟩:=aOn (a:=a.2.2.2.2.1) (b:=b.2.2.2.2.1) h.2.2.2.2.1.1 (fun m hm=>(h.2.2.2.2.1.2 m hm).1)
 obtain ⟨v2,e2,k2⟩:=bG7 (a:=a.2.2.2.2.2.1) (b:=b.2.2.2.2.2.1) h.2.2.2.2.2.1.1 (fun p hp=>aV9 (h.2.2.2.2.2.1.2 p hp))
 obtain ⟨v3,e3,k3⟩:=bEt (a:=a.2.2.2.2.2.2.2.2) (b:=b.2.2.2.2.2.2.2.2) h.2.2.2.2.2.2.2.2.1
 unfold uB zz4 zz5 zz6 zz7 zz8
 rw [e1,aA,e2,aA,e3,aA]
 cases c0:a.1==b.1
 ·exact ⟨false,rfl,fun e=>by subst e;simp at c0⟩
 ·cases c1:a.2.1==b.2.1
  ·exact ⟨false,rfl,fun e=>by subst e;simp at c1⟩
  ·cases c2:a.2.2.1==b.2.2.1
   ·exact ⟨false,rfl,fun e=>by subst e;simp at c2⟩
   ·cases c3:a.2.2.2.1==b.2.2.2.1
    ·exact ⟨false,rfl,fun e=>by subst e;simp at c3⟩
    ·cases v1
     ·exact ⟨false,rfl,fun e=>by subst e;cases k1 rfl⟩
     ·cases v2
      ·exact ⟨false,rfl,fun e=>by subst e;cases k2 rfl⟩
      ·cases c6:a.2.2.2.2.2.2.1==b.2.2.2.2.2.2.1
       ·exact ⟨false,rfl,fun e=>by subst e;simp at c6⟩
       ·cases c7:a.2.2.2.2.2.2.2.1==b.2.2.2.2.2.2.2.1
        ·exact ⟨false,rfl,fun e=>by subst e;simp at c7⟩
        ·exact ⟨v3,rfl,fun e=>by subst e;exact k3 rfl⟩

theorem bQm {a b:den tPk} (h:SmB 1000000 tPk a):Cmp a b (pU a b):=by
 obtain ⟨h1,h2⟩:=aV9 h.2.2.2.1
 obtain ⟨v1,e1,k1⟩:=aWi (a:=a.2.2.2.1) (b:=b.2.2.2.1) h1 h2
 obtain ⟨v2,e2,k2⟩:=aT4 (a:=a.2.2.2.2.2.2.2.2.2) (b:=b.2.2.2.2.2.2.2.2.2) h.2.2.2.2.2.2.2.2.2.1
 unfold pU zz4 zz5 zz6 zz7 zz8 zz9
 rw [e1,aA,e2,aA]
 cases c0:a.1==b.1
 ·exact ⟨false,rfl,fun e=>by subst e;simp at c0⟩
 ·cases c1:a.2.1==b.2.1
  ·exact ⟨false,rfl,fun e=>by subst e;simp at c1⟩
  ·cases c2:a.2.2.1==b.2.2.1
   ·exact ⟨false,rfl,fun e=>by subst e;simp at c2⟩
   ·cases v1
    ·exact ⟨false,rfl,fun e=>by subst e;cases k1 rfl⟩
    ·cases c4:a.2.2.2.2.1==b.2.2.2.2.1
     ·exact ⟨false,rfl,fun e=>by subst e;simp at c4⟩
     ·cases c5:a.2.2.2.2.2.1==b.2.2.2.2.2.1
      ·exact ⟨false,rfl,fun e=>by subst e;simp at c5⟩
      ·cases c6:a.2.2.2.2.2.2.1==b.2.2.2.2.2.2.1
       ·exact ⟨false,rfl,fun e=>by subst e;simp at c6⟩
       ·cases c7:a.2.2.2.2.2.2.2.1==b.2.2.2.2.2.2.2.1
        ·exact ⟨false,rfl,fun e=>by subst e;simp at c7⟩
        ·cases c8:a.2.2.2.2.2.2.2.2.1==b.2.2.2.2.2.2.2.2.1
         ·exact ⟨false,rfl,fun e=>by subst e;simp at c8⟩
         ·exact ⟨v2,rfl,fun e=>by subst e;exact k2 rfl⟩


def Byt (l:List Int):Prop:= ∀ x∈l,0<=x∧x<=255

theorem bT5 (bs:ByteArray): ∀ (n i:Nat) (r:List UInt8),n+i=bs.size→ByteArray.toList.loop bs i r=r.reverse++bs.data.toList.drop i:=by
 intro n
 induction n with
 | zero=>
  intro i r h
  unfold ByteArray.toList.loop
  rw [if_neg (by omega),List.drop_of_length_le (by rw [bY9];show bs.size<=i;omega),bXs]
 | succ n ih=>
  intro i r h
  unfold ByteArray.toList.loop
  rw [if_pos (by omega),ih (i+1) _ (by omega)]
  have hi:i<bs.data.toList.length:=by rw [bY9];show i<bs.size;omega
  rw [bZt hi,List.reverse_cons,List.append_assoc]
  congr 2
  simp [ByteArray.get!]
  rw [getElem!_pos bs.data i (by rw [← bY9];exact hi)]

theorem bl (bs:ByteArray):bs.toList=bs.data.toList:=by
 unfold ByteArray.toList
 rw [bT5 bs bs.size 0 [] (by omega)]
 simp

theorem aN6 (l:List Int):(wY l).toList=l.map fun n=>UInt8.ofNat n.toNat:=by
 rw [bl];rfl

theorem bGn {a b:List Int} (ha:Byt a) (hb:Byt b):((wY a).toList==(wY b).toList)=true↔a=b:=by
 rw [beq_iff_eq,aN6,aN6]
 constructor
 ·intro h
  have hl:=congrArg bW0 h
  simp only [bXr] at hl
  refine List.ext_getElem hl fun i h1 h2=> ?_
  have h3:(a.map fun n=>UInt8.ofNat n.toNat)[i]'(by simpa using h1)=(b.map fun n=>UInt8.ofNat n.toNat)[i]'(by simpa using h2):=by simp only [h]
  simp only [List.getElem_map] at h3
  have a1:=ha _ (bWy h1)
  have b1:=hb _ (bWy h2)
  have h4:=congrArg UInt8.toNat h3
  simp only [UInt8.toNat_ofNat'] at h4
  omega
 ·intro h;rw [h]

def oI (l:List (den aL)):Option Int:=l.head?.map fun x=>(x.1:Int)

def fP (l:List (den aL)):Option Int:=l.getLast?.map fun x=>(x.1:Int)

def aJj (p:List (den tPp)):Option Int:=p.head?.bind fun x=>oI x.2.2.2

def aCl (p:List (den tPp)):Option Int:=p.getLast?.bind fun x=>fP x.2.2.2

theorem aT0 {s:den tSg} (h:s.2.2.length<=1000): ∃ v,dW s=some v∧(0<=v→fP s.2.2=some v):=by
 unfold dW
 by_cases h0:s.2.2.length=0
 ·rw [show ((s.2.2.length:Int)==0)=true by rw [beq_iff_eq];omega,cond_true]
  exact ⟨_,rfl,fun h=>absurd h (by decide)⟩
 ·have w1:wr ((s.2.2.length:Int) - 1)=((s.2.2.length - 1:Nat):Int):=by rw [bF (by omega) (by omega)];omega
  rw [show ((s.2.2.length:Int)==0)=false by rw [beq_eq_false_iff_ne];omega,cond_false,w1,aG,bWk (by omega),aA]
  refine ⟨_,rfl,fun _=> ?_⟩
  unfold fP
  rw [List.getLast?_eq_getElem?,bWk (by omega)]
  rfl

theorem bEy {s:den tSg}: ∃ v,cB s=some v∧(0<=v→oI s.2.2=some v):=by
 unfold cB
 by_cases h0:s.2.2.length=0
 ·rw [show ((s.2.2.length:Int)==0)=true by rw [beq_iff_eq];omega,cond_true]
  exact ⟨_,rfl,fun h=>absurd h (by decide)⟩
 ·rw [show ((s.2.2.length:Int)==0)=false by rw [beq_eq_false_iff_ne];omega,cond_false,show (0:Int)=((0:Nat):Int) from rfl,aG,bWk (by omega),aA]
  refine ⟨_,rfl,fun _=> ?_⟩
  unfold oI
  rw [List.head?_eq_getElem?,bWk (by omega)]
  rfl

theorem bOv {s:den tSg} (h:s.2.2.length<=5) {k:Int} (hk:inR k 1 4=true) {m:Nat} (hm:m<s.2.2.length): ∃ t b:Int,bJ s k (m:Int)=some (k,t,b,if jC k then (s.2.2.drop m).reverse else s.2.2.drop m):=by
 unfold bJ pj3 pj4 pj5 zz4
 obtain ⟨b1,eb1⟩:=aAx (s:=s) (m:Int) (by omega)
 obtain ⟨b2,eb2⟩:=aAx (s:=s) (s.2.2.length:Int) (by omega)
 have eb1:gF (s.1,s.2.1,s.2.2) (m:Int)=some b1:=eb1
 have eb2:gF (s.1,s.2.1,s.2.2) (s.2.2.length:Int)=some b2:=eb2
 simp only [hZ,aA,aV,bH,bA,aZ,bC,eb1,eb2,aCk]
 have w1:wr ((s.2.2.length:Int) - 1)=(s.2.2.length:Int) - 1:=bF (by omega) (by omega)
 have c1:inR (m:Int) 0 ((s.2.2.length:Int) - 1)=true:=bI.2 ⟨by omega,by omega⟩
 rw [w1,c1,hk]
 simp only [bWo,cond_false,aA]
 cases jC k with
 | false=>
  have e1:bU (m:Int) (s.2.2.length:Int) (s.2.2.length:Int)=true:=yU (by omega)
  rw [e1,aB7,aD (b:=40) (by decide) (by simp;omega)]
  exact ⟨_,_,rfl⟩
 | true=>
  refine jJ (G:=fun o=> ∃ t b:Int,o=some (k,t,b,(s.2.2.drop m).reverse)) (fun (n:Nat) (t:Int×Int×Int×Int×List (den aL))=>t=((n:Int) - 1,k,s.1,b2,(s.2.2.drop n).reverse)∧m<=n∧n<=s.2.2.length) (fun q:den tPp=>q=(k,s.1,b2,(s.2.2.drop m).reverse)) ?_ s.2.2.length ((s.2.2.length:Int) - 1,k,s.1,b2,[]) ⟨by rw [List.drop_length];rfl,by omega,bW3 _⟩ (fun q hq=>⟨s.1,b2,by rw [hq]⟩)
  rintro n _ ⟨rfl,g1,g2⟩
  by_cases hn:(n:Int) - 1>=(m:Int)
  ·right
   have hn1:(n:Int) - 1=((n - 1:Nat):Int):=by omega
   have hi:n - 1<s.2.2.length:=by omega
   have hd:(s.2.2.drop (n - 1)).reverse=(s.2.2.drop n).reverse++[s.2.2[n - 1]]:=by
    rw [bZt hi,List.reverse_cons,show n - 1+1=n by omega]
   refine ⟨n - 1,(((n - 1:Nat):Int) - 1,k,s.1,b2,(s.2.2.drop (n - 1)).reverse),by omega,?_,rfl,by omega,by omega⟩
   simp only [decide_eq_true hn,cond_true,aD (b:=40) (n:=(s.2.2.drop n).reverse.length) (m:=1) (by decide) (by simp;omega)]
   rw [hn1,aG,bWk hi,aA,bF (n:=((n - 1:Nat):Int) - 1) (by omega) (by omega),hd]
  ·left
   have hnm:n=m:=by omega
   subst hnm
   exact ⟨_,by simp only [decide_eq_false hn,cond_false],rfl⟩


theorem aA9 {s:den tSg} (h:s.2.2.length<=5) {k:Int} (hk:inR k 1 4=true) {m:Nat} (hm:m<s.2.2.length): ∃ q:den tPp,bJ s k (m:Int)=some q∧q.2.2.2.length<=5∧oI q.2.2.2=(if jC k then fP s.2.2 else some s.2.2[m].1)∧fP q.2.2.2=(if jC k then some s.2.2[m].1 else fP s.2.2):=by
 obtain ⟨t,b,e⟩:=bOv h hk hm
 have hl:fP (s.2.2.drop m)=fP s.2.2:=by
  unfold fP
  rw [List.getLast?_drop,if_neg (by omega)]
 have hf:oI (s.2.2.drop m)=some s.2.2[m].1:=by
  unfold oI
  rw [List.head?_drop,bWk hm];rfl
 refine ⟨_,e,?_,?_,?_⟩
 ·show (if jC k then _ else _:List (den aL)).length<=5
  split<;>simp only [List.length_reverse,bYq]<;>omega
 ·show oI (if jC k then _ else _)=_
  split
  ·rw [← hl];unfold oI fP;rw [List.head?_reverse]
  ·exact hf
 ·show fP (if jC k then _ else _)=_
  split
  ·rw [← hf];unfold oI fP;rw [List.getLast?_reverse]
  ·exact hl


def aTm (r:Int) (n:Nat) (l:List (den tSg)):Prop:=aI7 n l∧ ∀ x∈l,fP x.2.2=some r

theorem aOq {n:Nat} (hn:n<=100) {d cc:List (den tSg)} (hk:DbD n d cc) {r:Int} (hr:0<=r): ∃ l,dA (d,cc) r=some l∧aTm r n l:=by
 have hd:=hk.down
 unfold dA pj3
 refine bS (G:=fun o=> ∃ l,o=some l∧aTm r n l) d.length (fun s:Int×List (den tSg)=>s.1) (fun i s=>aTm r i s.2) (fun l:List (den tSg)=>aTm r n l) ?_ ?_ 0 ((0:Int),[]) (by omega) rfl ⟨⟨by simp,fun x hx=>(bW9 hx).elim⟩,fun x hx=>(bW9 hx).elim⟩ (fun l hl=>⟨l,rfl,hl⟩)
 ·rintro i ⟨_,l⟩ hi rfl ⟨⟨g1,g2⟩,g3⟩
  simp only at g1 g2 g3
  right
  have h5:=hk.hd d[i] (bWy hi)
  obtain ⟨v,ev,hv⟩:=aT0 (s:=d[i]) (by omega)
  have ev:dW (d[i].1,d[i].2.1,d[i].2.2)=some v:=ev
  have ec:=aEz (x:=d[i]) (by omega)
  have ec:fH (d[i].1,d[i].2.1,d[i].2.2)=some d[i]:=ec
  simp only [decide_eq_true (show (i:Int)<(d.length:Int) by omega),cond_true,aG,bWk hi,aA,ev,ec,aD (b:=40) (n:=l.length) (m:=1) (by decide) (by omega),aW (show i<=1000000000 by omega)]
  cases hvr:(v==r) with
  | true=>
   have hvr:v=r:=eq_of_beq hvr
   exact ⟨_,rfl,rfl,⟨by simp;omega,fun x hx=>(bWv.1 hx).elim (g2 x) fun hx=>by rw [bWt.1 hx];exact h5⟩,fun x hx=>(bWv.1 hx).elim (g3 x) fun hx=>by rw [bWt.1 hx,← hvr];exact hv (by omega)⟩
  | false=>exact ⟨_,rfl,rfl,⟨by show l.length<=i+1;omega,g2⟩,g3⟩
 ·rintro ⟨_,l⟩ rfl ⟨⟨g1,g2⟩,g3⟩
  exact ⟨l,by simp only [decide_eq_false (bW1 _),cond_false],⟨by simp only at g1;omega,g2⟩,g3⟩


def aTi (a b:Int) (n:Nat) (l:List (den tSg)):Prop:=aI7 n l∧ ∀ x∈l,oI x.2.2=some a∧fP x.2.2=some b

theorem bLb {n:Nat} (hn:n<=100) {d cc:List (den tSg)} (hk:DbD n d cc) {a b:Int} (ha:0<=a) (hb:0<=b): ∃ l,mW (d,cc) a b=some l∧aTi a b n l:=by
 have hd:=hk.core
 unfold mW pj3
 refine bS (G:=fun o=> ∃ l,o=some l∧aTi a b n l) cc.length (fun s:Int×List (den tSg)=>s.1) (fun i s=>aTi a b i s.2) (fun l:List (den tSg)=>aTi a b n l) ?_ ?_ 0 ((0:Int),[]) (by omega) rfl ⟨⟨by simp,fun x hx=>(bW9 hx).elim⟩,fun x hx=>(bW9 hx).elim⟩ (fun l hl=>⟨l,rfl,hl⟩)
 ·rintro i ⟨_,l⟩ hi rfl ⟨⟨g1,g2⟩,g3⟩
  simp only at g1 g2 g3
  right
  have h5:=hk.hc cc[i] (bWy hi)
  obtain ⟨v,ev,hv⟩:=aT0 (s:=cc[i]) (by omega)
  have ev:dW (cc[i].1,cc[i].2.1,cc[i].2.2)=some v:=ev
  obtain ⟨u,eu,hu⟩:=bEy (s:=cc[i])
  have eu:cB (cc[i].1,cc[i].2.1,cc[i].2.2)=some u:=eu
  have ec:=aEz (x:=cc[i]) (by omega)
  have ec:fH (cc[i].1,cc[i].2.1,cc[i].2.2)=some cc[i]:=ec
  simp only [decide_eq_true (show (i:Int)<(cc.length:Int) by omega),cond_true,aG,bWk hi,aA,ev,eu,ec,aD (b:=40) (n:=l.length) (m:=1) (by decide) (by omega),aW (show i<=1000000000 by omega)]
  cases hua:(u==a) with
  | true=>
   simp only [cond_true,aA]
   cases hvb:(v==b) with
   | true=>
    have hua:u=a:=eq_of_beq hua
    have hvb:v=b:=eq_of_beq hvb
    exact ⟨_,rfl,rfl,⟨by simp;omega,fun x hx=>(bWv.1 hx).elim (g2 x) fun hx=>by rw [bWt.1 hx];exact h5⟩,fun x hx=>(bWv.1 hx).elim (g3 x) fun hx=>by rw [bWt.1 hx,← hua,← hvb];exact ⟨hu (by omega),hv (by omega)⟩⟩
   | false=>exact ⟨_,rfl,rfl,⟨by show l.length<=i+1;omega,g2⟩,g3⟩
  | false=>exact ⟨_,rfl,rfl,⟨by show l.length<=i+1;omega,g2⟩,g3⟩
 ·rintro ⟨_,l⟩ rfl ⟨⟨g1,g2⟩,g3⟩
  exact ⟨l,by simp only [decide_eq_false (bW1 _),cond_false],⟨by simp only at g1;omega,g2⟩,g3⟩

theorem bTf {s:den tSg} (h:s.2.2.length<=1000) (r:Int): ∃ v,nD s r=some v∧(0<=v→ ∃ (m:Nat) (x:den aL),v=(m:Int)∧s.2.2[m]? =some x∧x.1=r):=by
 unfold nD
 refine bS (G:=fun o=> ∃ v,o=some v∧(0<=v→ ∃ (m:Nat) (x:den aL),v=(m:Int)∧s.2.2[m]? =some x∧x.1=r)) s.2.2.length (fun s:Int=>s) (fun i t=>True) (fun z:Unit⊕Int=> ∀ v,z= .inr v→ ∃ (m:Nat) (x:den aL),v=(m:Int)∧s.2.2[m]? =some x∧x.1=r) ?_ ?_ 0 (0:Int) (by omega) rfl trivial ?_
 ·rintro i _ hi rfl _
  simp only [decide_eq_true (show (i:Int)<(s.2.2.length:Int) by omega),cond_true,aG,bWk hi,aA,aW (show i<=1000000000 by omega)]
  cases hx:(s.2.2[i].1==r) with
  | true=>exact .inl ⟨_,rfl,fun v hv=>by cases hv;exact ⟨i,s.2.2[i],rfl,bWk hi,eq_of_beq hx⟩⟩
  | false=>exact .inr ⟨_,rfl,rfl,trivial⟩
 ·rintro _ rfl _
  exact ⟨.inl (),by simp only [decide_eq_false (bW1 _),cond_false],fun v hv=>by cases hv⟩
 ·rintro z hz
  cases z with
  | inl u=>exact ⟨-1,rfl,fun h=>absurd h (by decide)⟩
  | inr v=>exact ⟨v,rfl,fun _=>hz v rfl⟩


def aNt (a b:Int) (p:den tPt):Prop:=mO p∧aJj p=some a∧aCl p=some b

def bV (a b:Int) (n:Nat) (l:List (den tPt)):Prop:=l.length<=n∧ ∀ p∈l,aNt a b p

theorem bV.add {a b:Int} {n m:Nat} {k l:List (den tPt)} (ha:bV a b n k) (hb:bV a b m l):bV a b (n+m) (k++l):=⟨by rw [bXh];have :=ha.1;have :=hb.1;omega,fun p hp=>(bWv.1 hp).elim (ha.2 p) (hb.2 p)⟩

theorem bV.one {a b:Int} {p:den tPt} (h:aNt a b p):bV a b 1 [p]:=⟨by simp,fun q hq=>by rw [bWt.1 hq];exact h⟩

theorem bV.mono {a b:Int} {n m:Nat} {l:List (den tPt)} (h:bV a b n l) (hm:n<=m):bV a b m l:=⟨bWl h.1 hm,h.2⟩

theorem bV.d {a b:Int} {n:Nat} {l:List (den tPt)} (h:bV a b n l):wC n l:=⟨h.1,fun p hp=>(h.2 p hp).1⟩

theorem bFw {up core down:den tSg} (h1:up.2.2.length<=5) (h2:core.2.2.length<=5) (h3:down.2.2.length<=5) (b:Bool) (hc:0<core.2.2.length) {x y:Int}
  (hx:(up.2.2.length=0∧(if b then fP core.2.2 else oI core.2.2)=some x)∨(0<up.2.2.length∧fP up.2.2=some x))
  (hy:(down.2.2.length=0∧(if b then oI core.2.2 else fP core.2.2)=some y)∨(0<down.2.2.length∧fP down.2.2=some y)): ∃ p,lR up core b down=some p∧aNt x y p:=by
 have h0:oI core.2.2=some core.2.2[0].1:=by
  unfold oI
  rw [List.head?_eq_getElem?,bWk hc];rfl
 obtain ⟨q2,e2,k2,f2,l2⟩:=aA9 (s:=core) h2 (k:=cond b 3 2) (m:=0) (by cases b<;>rfl) hc
 have e2:bJ (core.1,core.2.1,core.2.2) (cond b 3 2) 0=some q2:=e2
 have eb:(cond b (some (3:Int)) (some (2:Int)))=some (cond b 3 2):=by cases b<;>rfl
 have F2:oI q2.2.2.2=(if b then fP core.2.2 else oI core.2.2):=by rw [f2,h0];cases b<;>rfl
 have L2:fP q2.2.2.2=(if b then oI core.2.2 else fP core.2.2):=by rw [l2,h0];cases b<;>rfl
 have dc:decide ((core.2.2.length:Int)>(0:Int))=true:=decide_eq_true (by omega)
 obtain ⟨q1,e1,k1⟩:=wZ (s:=up) h1 1 0
 obtain ⟨q3,e3,k3⟩:=wZ (s:=down) h3 4 0
 have e1':bJ (up.1,up.2.1,up.2.2) 1 0=some q1:=e1
 have e3':bJ (down.1,down.2.1,down.2.2) 4 0=some q3:=e3
 have F1:0<up.2.2.length→oI q1.2.2.2=fP up.2.2:=fun hu=>by
  obtain ⟨q,e,_,f,_⟩:=aA9 (s:=up) h1 (k:=1) (m:=0) rfl hu
  have :some q1=some q:=e1.symm.trans e
  injection this with this
  rw [this,f];rfl
 have L3:0<down.2.2.length→fP q3.2.2.2=fP down.2.2:=fun hu=>by
  obtain ⟨q,e,_,_,l⟩:=aA9 (s:=down) h3 (k:=4) (m:=0) rfl hu
  have :some q3=some q:=e3.symm.trans e
  injection this with this
  rw [this,l];rfl
 unfold lR pj3 pj4
 rw [eb]
 simp only [e1',e2,e3',aA,dc,cond_true]
 rw [show aH 48 0 1=true from by decide]
 rcases hx with ⟨hu,hx⟩ | ⟨hu,hx⟩
 ·rw [decide_eq_false (show ¬ ((up.2.2.length:Int)>0) by omega)]
  rcases hy with ⟨hd,hy⟩ | ⟨hd,hy⟩
  ·rw [decide_eq_false (show ¬ ((down.2.2.length:Int)>0) by omega)]
   exact ⟨[q2],rfl,aHx k2,by show oI q2.2.2.2=_;rw [F2,hx],by show fP q2.2.2.2=_;rw [L2,hy]⟩
  ·rw [decide_eq_true (show (down.2.2.length:Int)>0 by omega)]
   refine ⟨[q2,q3],rfl,⟨bZj rfl,fun z hz=> ?_⟩,by show oI q2.2.2.2=_;rw [F2,hx],by show fP q3.2.2.2=_;rw [L3 hd,hy]⟩
   have hz:z∈[q2,q3]:=hz
   simp only [bWp,bW9,or_false] at hz
   rcases hz with rfl | rfl
   ·exact k2
   ·exact k3
 ·rw [decide_eq_true (show (up.2.2.length:Int)>0 by omega)]
  rcases hy with ⟨hd,hy⟩ | ⟨hd,hy⟩
  ·rw [decide_eq_false (show ¬ ((down.2.2.length:Int)>0) by omega)]
   refine ⟨[q1,q2],rfl,⟨bZj rfl,fun z hz=> ?_⟩,by show oI q1.2.2.2=_;rw [F1 hu,hx],by show fP q2.2.2.2=_;rw [L2,hy]⟩
   have hz:z∈[q1,q2]:=hz
   simp only [bWp,bW9,or_false] at hz
   rcases hz with rfl | rfl
   ·exact k1
   ·exact k2
  ·rw [decide_eq_true (show (down.2.2.length:Int)>0 by omega)]
   refine ⟨[q1,q2,q3],rfl,⟨bZj rfl,fun z hz=> ?_⟩,by show oI q1.2.2.2=_;rw [F1 hu,hx],by show fP q3.2.2.2=_;rw [L3 hd,hy]⟩
   have hz:z∈[q1,q2,q3]:=hz
   simp only [bWp,bW9,or_false] at hz
   rcases hz with rfl | rfl | rfl
   ·exact k1
   ·exact k2
   ·exact k3


def bJ8 (up:den tSg) (a x:Int):Prop:=(up.2.2.length=0∧a=x)∨(0<up.2.2.length∧fP up.2.2=some x)

theorem aO8 {n:Nat} (hn:n<=100) {d cc:List (den tSg)} (hk:DbD n d cc) {up down:den tSg} (h1:up.2.2.length<=5) (h3:down.2.2.length<=5) {a b x y:Int} (ha:0<=a) (hb:0<=b) (hx:bJ8 up a x) (hy:bJ8 down b y): ∃ l,hP (d,cc) up a b down=some l∧bV x y (2 * n) l:=by
 obtain ⟨y1,e1,⟨f1,g1⟩,b1⟩:=bLb hn hk ha hb
 obtain ⟨y2,e2,⟨f2,g2⟩,b2⟩:=bLb hn hk hb ha
 unfold hP ixb pj2 pj3
 rw [e1,aA]
 refine bS (G:=fun o=> ∃ l,o=some l∧bV x y (2 * n) l) y1.length (fun s:Int×List (den tPt)=>s.1) (fun i s=>bV x y i s.2) (fun l:List (den tPt)=>bV x y n l) ?_ ?_ 0 ((0:Int),[]) (by omega) rfl ⟨by simp,fun x hx=>(bW9 hx).elim⟩ ?_
 ·rintro i ⟨_,l⟩ hi rfl hp
  simp only at hp
  have hl:=hp.1
  right
  have hpos:0<y1[i].2.2.length:=by
   have :=(b1 y1[i] (bWy hi)).1
   cases h0:y1[i].2.2 with
   | nil=>rw [h0] at this;cases this
   | cons z l=>exact Nat.succ_pos _
  obtain ⟨p,ep,kp⟩:=bFw h1 (g1 y1[i] (bWy hi)) h3 false hpos (x:=x) (y:=y) (hx.imp (fun h=>⟨h.1,by rw [← h.2];exact (b1 y1[i] (bWy hi)).1⟩) id) (hy.imp (fun h=>⟨h.1,by rw [← h.2];exact (b1 y1[i] (bWy hi)).2⟩) id)
  have ep:lR (up.1,up.2.1,up.2.2) (y1[i].1,y1[i].2.1,y1[i].2.2) false (down.1,down.2.1,down.2.2)=some p:=ep
  refine ⟨(((i+1:Nat):Int),l++[p]),?_,rfl,hp.add (m:=1) ⟨by simp,fun q hq=>by rw [bWt.1 hq];exact kp⟩⟩
  simp only [decide_eq_true (show (i:Int)<(y1.length:Int) by omega),decide_eq_true (show (0:Int)<=(i:Int) by omega),cond_true,bWu,bWk hi,aA,ep,aD (b:=24) (n:=l.length) (m:=1) (by decide) (by omega),aW (show i<=1000000000 by omega)]
 ·rintro ⟨_,l⟩ rfl hp
  simp only at hp
  exact ⟨l,by simp only [decide_eq_false (bW1 _),cond_false],bWl hp.1 f1,hp.2⟩
 rintro l1 hl1
 rw [e2,aA]
 refine bS (G:=fun o=> ∃ l,o=some l∧bV x y (2 * n) l) y2.length (fun s:Int×List (den tPt)=>s.1) (fun i s=>bV x y (n+i) s.2) (fun l:List (den tPt)=>bV x y (2 * n) l) ?_ ?_ 0 ((0:Int),l1) (by omega) rfl hl1 (fun l hl=>⟨l,rfl,hl⟩)
 ·rintro i ⟨_,l⟩ hi rfl hp
  simp only at hp
  have hl:=hp.1
  right
  have hpos:0<y2[i].2.2.length:=by
   have :=(b2 y2[i] (bWy hi)).1
   cases h0:y2[i].2.2 with
   | nil=>rw [h0] at this;cases this
   | cons z l=>exact Nat.succ_pos _
  obtain ⟨p,ep,kp⟩:=bFw h1 (g2 y2[i] (bWy hi)) h3 true hpos (x:=x) (y:=y) (hx.imp (fun h=>⟨h.1,by rw [← h.2];exact (b2 y2[i] (bWy hi)).2⟩) id) (hy.imp (fun h=>⟨h.1,by rw [← h.2];exact (b2 y2[i] (bWy hi)).1⟩) id)
  have ep:lR (up.1,up.2.1,up.2.2) (y2[i].1,y2[i].2.1,y2[i].2.2) true (down.1,down.2.1,down.2.2)=some p:=ep
  refine ⟨(((i+1:Nat):Int),l++[p]),?_,rfl,hp.add (m:=1) ⟨by simp,fun q hq=>by rw [bWt.1 hq];exact kp⟩⟩
  simp only [decide_eq_true (show (i:Int)<(y2.length:Int) by omega),decide_eq_true (show (0:Int)<=(i:Int) by omega),cond_true,bWu,bWk hi,aA,ep,aD (b:=24) (n:=l.length) (m:=1) (by decide) (by omega),aW (show i<=1000000000 by omega)]
 ·rintro ⟨_,l⟩ rfl hp
  simp only at hp
  exact ⟨l,by simp only [decide_eq_false (bW1 _),cond_false],bWl hp.1 (by omega),hp.2⟩


def aLw (a b:Int) (p:den tPt):Prop:=p=[]∨aNt a b p

theorem bT9 {up down:den tSg} (h1:up.2.2.length<=5) (h2:down.2.2.length<=5) {x y:Int} (hx:fP up.2.2=some x) (hy:fP down.2.2=some y): ∃ p,iE up down=some p∧aLw x y p:=by
 obtain ⟨y1,e1,l1⟩:=aB8 (s:=up) (by omega)
 obtain ⟨y2,e2,l2⟩:=aB8 (s:=down) (by omega)
 have e1:cQ (up.1,up.2.1,up.2.2)=some y1:=e1
 have e2:cQ (down.1,down.2.1,down.2.2)=some y2:=e2
 have hm: ∃ p,iQ up down=some p∧aLw x y p:=by
  unfold iQ ixb pj3 pj4
  rw [e1,aA,e2,aA,aA2 (n:=y1.length) (by omega)]
  refine jJ (G:=fun o=> ∃ p,o=some p∧aLw x y p) (fun (n:Nat) (s:Int)=>s=(n:Int) - 1∧n<=y1.length) (fun z:Unit⊕den tPt=> ∀ p,z= .inr p→aLw x y p) ?_ y1.length ((y1.length:Int) - 1) ⟨rfl,bW3 _⟩ ?_
  ·rintro n _ ⟨rfl,hn⟩
   by_cases h0:(n:Int) - 1>=0
   ·simp only [decide_eq_true h0,cond_true]
    have hn1:(n:Int) - 1=((n - 1:Nat):Int):=by omega
    have hi:n - 1<y1.length:=by omega
    rw [aA2 (n:=y2.length) (by omega)]
    refine jJ (G:=fun (o:Option (Int⊕(Unit⊕den tPt)))=>(∃ r:Unit⊕den tPt,o=some (bWi r)∧ ∀ p,r=bWi p→aLw x y p)∨ ∃ (m:Nat) (s':Int),m<n∧o=some (bWj s')∧s'=(m:Int) - 1∧m<=y1.length) (fun (k:Nat) (s:Int)=>s=(k:Int) - 1∧k<=y2.length) (fun z:Unit⊕(Int⊕(Unit⊕den tPt))=>z= .inl ()∨ ∃ p,z= .inr (.inr (.inr p))∧aLw x y p) ?_ y2.length ((y2.length:Int) - 1) ⟨rfl,bW3 _⟩ ?_
    ·rintro k _ ⟨rfl,hk⟩
     by_cases g0:(k:Int) - 1>=0
     ·have hk1:(k:Int) - 1=((k - 1:Nat):Int):=by omega
      have hj:k - 1<y2.length:=by omega
      simp only [hn1,hk1,decide_eq_true (show ((k - 1:Nat):Int)>=0 by omega),decide_eq_true (show (0:Int)<=((n - 1:Nat):Int) by omega),decide_eq_true (show (0:Int)<=((k - 1:Nat):Int) by omega),decide_eq_true (show ((n - 1:Nat):Int)<(y1.length:Int) by omega),decide_eq_true (show ((k - 1:Nat):Int)<(y2.length:Int) by omega),cond_true,bWu,bWk hi,bWk hj,aA]
      cases y1[n - 1]==y2[k - 1] with
      | true=>
       obtain ⟨q1,f1,g1,u1,u2⟩:=aA9 (s:=up) h1 (k:=1) (m:=n - 1) rfl (by omega)
       obtain ⟨q2,f2,g2,v1,v2⟩:=aA9 (s:=down) h2 (k:=4) (m:=k - 1) rfl (by omega)
       have f1:bJ (up.1,up.2.1,up.2.2) 1 ((n - 1:Nat):Int)=some q1:=f1
       have f2:bJ (down.1,down.2.1,down.2.2) 4 ((k - 1:Nat):Int)=some q2:=f2
       exact .inl ⟨.inr (.inr (.inr [q1,q2])),by simp only [cond_true,f1,f2,aA],.inr ⟨[q1,q2],rfl,.inr ⟨⟨bZj rfl,fun x hx=>by
        have hx:x∈[q1,q2]:=hx
        simp only [bWp,bW9,or_false] at hx
        rcases hx with rfl | rfl
        ·exact g1
        ·exact g2⟩,u1.trans hx,v2.trans hy⟩⟩⟩
      | false=>exact .inr ⟨k - 1,((k - 1:Nat):Int) - 1,by omega,by simp only [cond_false,aA2 (n:=k - 1) (by omega)],rfl,by omega⟩
     ·exact .inl ⟨.inl (),by simp only [decide_eq_false g0,cond_false],.inl rfl⟩
    ·rintro z (rfl | ⟨p,rfl,hp⟩)
     ·exact .inr ⟨n - 1,((n - 1:Nat):Int) - 1,by omega,by simp only [bXp,hn1,aA2 (n:=n - 1) (by omega)],rfl,by omega⟩
     ·exact .inl ⟨.inr p,rfl,fun q hq=>by cases hq;exact hp⟩
   ·exact .inl ⟨.inl (),by simp only [decide_eq_false h0,cond_false],fun p hp=>by cases hp⟩
  ·rintro z hz
   cases z with
   | inl u=>exact ⟨[],rfl,.inl rfl⟩
   | inr p=>exact ⟨p,rfl,hz p rfl⟩
 obtain ⟨p,ep,kp⟩:=hm
 have ep:iQ (up.1,up.2.1,up.2.2) (down.1,down.2.1,down.2.2)=some p:=ep
 exact ⟨p,by unfold iE pj3;rw [ep,aA],kp⟩

theorem bNj {y:List (den tSg)} {n:Nat} (hn:n<=100) (hy:aI7 n y) (kind r:Int) {a b:Int} (hk4:inR kind 1 4=true) (hends: ∀ s∈y,∀ (m:Nat) (x:den aL),s.2.2[m]? =some x→x.1=r→(if jC kind then fP s.2.2 else some x.1)=some a∧(if jC kind then some x.1 else fP s.2.2)=some b) {m:Nat} (hm:m<=10000) {l0:List (den tPt)} (h0:bV a b m l0) {T:Type} {k:List (den tPt)→Option T} {G:Option T→Prop} (hk: ∀ l,bV a b (m+n) l→G (k l)):
  G (Option.bind (aB (fun (s8:Int×List (den tPt))=>cond (decide (s8.1<(y.length:Int))) (Option.bind (cond (decide ((0:Int)<=s8.1)) (cond (decide (s8.1<(y.length:Int))) (Option.bind y[s8.1.toNat]? fun x9=>Option.bind (nD (x9.1,x9.2.1,x9.2.2) r) fun y10=>cond (decide (y10>=(0:Int))) (cond (decide ((0:Int)<=s8.1)) (cond (decide (s8.1<(y.length:Int))) (Option.bind y[s8.1.toNat]? fun x11=>Option.bind (bJ (x11.1,x11.2.1,x11.2.2) kind y10) fun y12=>cond (aH 24 s8.2.length 1) (some (s8.2++[[(y12.1,y12.2.1,y12.2.2.1,y12.2.2.2)]])) none) none) none) (some s8.2)) none) none) fun (s13:List (den tPt))=>some (bWj (wr (s8.1+(1:Int)),s13))) (some (bWi s8.2))) ((0:Int),l0)) k):=by
 obtain ⟨hy1,hy2⟩:=hy
 refine bS (G:=G) y.length (fun s:Int×List (den tPt)=>s.1) (fun i s=>bV a b (m+i) s.2) (fun l:List (den tPt)=>bV a b (m+n) l) ?_ ?_ 0 ((0:Int),l0) (by omega) rfl h0 hk
 ·rintro i ⟨_,l⟩ hi rfl hp
  simp only at hp
  have hl:=hp.1
  have h5:=hy2 y[i] (bWy hi)
  obtain ⟨v,ev,iv⟩:=bTf (s:=y[i]) (by omega) r
  have ev:nD (y[i].1,y[i].2.1,y[i].2.2) r=some v:=ev
  right
  by_cases hv:v>=0
  ·obtain ⟨m',x',rfl,hx',hr'⟩:=iv hv
   obtain ⟨hm',ex'⟩:=bWs.1 hx'
   obtain ⟨q,eq,kq,u1,u2⟩:=aA9 (s:=y[i]) h5 hk4 hm'
   obtain ⟨z1,z2⟩:=hends y[i] (bWy hi) m' x' hx' hr'
   rw [ex'] at u1 u2
   have eq:bJ (y[i].1,y[i].2.1,y[i].2.2) kind (m':Int)=some q:=eq
   simp only [decide_eq_true (show (i:Int)<(y.length:Int) by omega),decide_eq_true (show (0:Int)<=(i:Int) by omega),cond_true,bWu,bWk hi,aA,ev,eq,decide_eq_true hv,aD (b:=24) (n:=l.length) (m:=1) (by decide) (by omega),aW (show i<=1000000000 by omega)]
   exact ⟨_,rfl,rfl,hp.add (bV.one (p:=[q]) ⟨aHx kq,u1.trans z1,u2.trans z2⟩)⟩
  ·simp only [decide_eq_true (show (i:Int)<(y.length:Int) by omega),decide_eq_true (show (0:Int)<=(i:Int) by omega),cond_true,bWu,bWk hi,aA,ev,decide_eq_false hv,cond_false,aW (show i<=1000000000 by omega)]
   exact ⟨_,rfl,rfl,hp.mono (by omega)⟩
 ·rintro ⟨_,l⟩ rfl hp
  simp only at hp
  exact ⟨l,by simp only [decide_eq_false (bW1 _),cond_false],hp.mono (by omega)⟩

theorem bRv {n:Nat} (hn:n<=100) {d cc:List (den tSg)} (hk:DbD n d cc) {a b:Int} (ha:0<=a) (hb:0<=b): ∃ l,uM (d,cc) a b=some l∧bV a b (4 * n) l:=by
 obtain ⟨y1,e1,g1,w1⟩:=aOq hn hk ha
 obtain ⟨y2,e2,g2,w2⟩:=aOq hn hk hb
 obtain ⟨y3,e3,g3⟩:=aO8 hn hk (up:=(0,0,[])) (down:=(0,0,[])) (by simp) (by simp) ha hb (.inl ⟨rfl,rfl⟩) (.inl ⟨rfl,rfl⟩)
 unfold uM ixb pj2 pj3 pj4
 rw [e1,aA]
 refine bNj hn g1 1 b (a:=a) (b:=b) rfl (fun s hs m x hx hr=>⟨w1 s hs,by show some x.1=some b;rw [hr]⟩) (m:=0) (by omega) (l0:=[]) ⟨by simp,fun x hx=>(bW9 hx).elim⟩ (G:=fun o=> ∃ l,o=some l∧bV a b (4 * n) l) (fun l hl=> ?_)
 rw [e2,aA]
 refine bNj hn g2 4 a (a:=a) (b:=b) rfl (fun s hs m x hx hr=>⟨by show some x.1=some a;rw [hr],w2 s hs⟩) (m:=0+n) (by omega) hl (G:=fun o=> ∃ l,o=some l∧bV a b (4 * n) l) (fun l hl=> ?_)
 have h1:=hl.1
 have h2:=g3.1
 rw [e3,aA,aD (b:=24) (by decide) (by omega)]
 exact ⟨_,rfl,(hl.add g3).mono (by omega)⟩

theorem aId {s:den tSg} {a x:Int} (h:fP s.2.2=some x):bJ8 s a x:=by
 cases h0:s.2.2 with
 | nil=>rw [h0] at h;cases h
 | cons z l=>exact .inr ⟨by rw [h0];exact Nat.succ_pos _,h⟩

theorem aNo {s:den tSg} {x:Int} (h:fP s.2.2=some x) (hi:aFm s.2.2): ∃ v,cB s=some v∧0<=v:=by
 have hp:0<s.2.2.length:=by
  cases h0:s.2.2 with
  | nil=>rw [h0] at h;cases h
  | cons z l=>exact Nat.succ_pos _
 unfold cB
 rw [show ((s.2.2.length:Int)==0)=false by rw [beq_eq_false_iff_ne];omega,cond_false,show (0:Int)=((0:Nat):Int) from rfl,aG,bWk hp,aA]
 exact ⟨_,rfl,(hi _ (bWy hp)).1⟩

theorem bEx {n:Nat} (hn:n<=100) {d cc:List (den tSg)} (hk:DbD n d cc) (r:Int): ∃ l,dA (d,cc) r=some l∧(aI7 n l∧ ∀ x∈l,x∈d):=by
 have hd:=hk.down
 unfold dA pj3
 refine bS (G:=fun o=> ∃ l,o=some l∧(aI7 n l∧ ∀ x∈l,x∈d)) d.length (fun s:Int×List (den tSg)=>s.1) (fun i s=>(aI7 i s.2∧ ∀ x∈s.2,x∈d)) (fun l:List (den tSg)=>(aI7 n l∧ ∀ x∈l,x∈d)) ?_ ?_ 0 ((0:Int),[]) (by omega) rfl ⟨⟨by simp,fun x hx=>(bW9 hx).elim⟩,fun x hx=>(bW9 hx).elim⟩ (fun l hl=>⟨l,rfl,hl⟩)
 ·rintro i ⟨_,l⟩ hi rfl ⟨⟨g1,g2⟩,g3⟩
  simp only at g1 g2 g3
  right
  have h5:=hk.hd d[i] (bWy hi)
  obtain ⟨v,ev⟩:=aRv (s:=d[i]) (by omega)
  have ev:dW (d[i].1,d[i].2.1,d[i].2.2)=some v:=ev
  have ec:=aEz (x:=d[i]) (by omega)
  have ec:fH (d[i].1,d[i].2.1,d[i].2.2)=some d[i]:=ec
  simp only [decide_eq_true (show (i:Int)<(d.length:Int) by omega),cond_true,aG,bWk hi,aA,ev,ec,aD (b:=40) (n:=l.length) (m:=1) (by decide) (by omega),aW (show i<=1000000000 by omega)]
  cases v==r with
  | true=>exact ⟨_,rfl,rfl,⟨by simp;omega,fun x hx=>(bWv.1 hx).elim (g2 x) fun hx=>by rw [bWt.1 hx];exact h5⟩,fun x hx=>(bWv.1 hx).elim (g3 x) fun hx=>by rw [bWt.1 hx];exact bWy hi⟩
  | false=>exact ⟨_,rfl,rfl,⟨by show l.length<=i+1;omega,g2⟩,g3⟩
 ·rintro ⟨_,l⟩ rfl ⟨⟨g1,g2⟩,g3⟩
  exact ⟨l,by simp only [decide_eq_false (bW1 _),cond_false],⟨by simp only at g1;omega,g2⟩,g3⟩

theorem aUe {d cc:List (den tSg)} (hk:DbD 13 d cc) {r:Int} {l:List (den tSg)} (h:dA (d,cc) r=some l): ∀ x∈l,aFm x.2.2:=by
 obtain ⟨l',e,_,hm⟩:=bEx (n:=13) (by decide) hk r
 have :some l=some l':=h.symm.trans e
 injection this with this
 rw [this]
 exact fun x hx=>(hk.ha x (hm x hx)).2

theorem bTw {as:List (den tAS)} {ls:List (den tLk)} (ht:aAv as ls) {d cc:List (den tSg)} (hk:DbD 13 d cc) {a b:Int} (ha:0<=a) (hb:0<=b): ∃ l,mH (as,ls) (d,cc) a b=some l∧bV a b 10000 l:=by
 have hlen:=ht.len
 unfold mH ixb pj2 pj3
 rw [aDc (t:=(as,ls)) (show as.length<=_ by omega),aDc (t:=(as,ls)) (show as.length<=_ by omega),aA,aA]
 obtain ⟨b1,e1,k1⟩: ∃ v:Bool,(cond (a==b) (some true) (cond (!(cK (as,ls) a)) (some true) (some (!(cK (as,ls) b)))))=some v∧(v=false→cK (as,ls) a=true∧cK (as,ls) b=true):=by
  cases a==b
  ·cases cK (as,ls) a
   ·exact ⟨true,rfl,fun h=>by cases h⟩
   ·cases cK (as,ls) b
    ·exact ⟨true,rfl,fun h=>by cases h⟩
    ·exact ⟨false,rfl,fun _=>⟨rfl,rfl⟩⟩
  ·exact ⟨true,rfl,fun h=>by cases h⟩
 rw [e1,aA]
 cases b1 with
 | true=>exact ⟨[],rfl,by simp,fun x hx=>(bW9 hx).elim⟩
 | false=>
  obtain ⟨ka,kb⟩:=k1 rfl
  obtain ⟨xa,_,ia⟩:=aD3 ka
  obtain ⟨xb,_,ib⟩:=aD3 kb
  have ia:idx as a=some xa:=ia
  have ib:idx as b=some xb:=ib
  obtain ⟨y4,e4,g4⟩:=bRv (n:=13) (by decide) hk ha hb
  obtain ⟨y5,e5,⟨g5,f5⟩,w5⟩:=aOq (n:=13) (by decide) hk ha
  obtain ⟨y6,e6,⟨g6,f6⟩,w6⟩:=aOq (n:=13) (by decide) hk hb
  have i5:=aUe hk e5
  have i6:=aUe hk e6
  simp only [cond_false,e4,e5,e6,aA,aV,bH,bA,aZ,bC,ia,ib]
  refine bS (G:=fun o=> ∃ l,o=some l∧bV a b 10000 l) y5.length (fun s:Int×List (den tPt)=>s.1) (fun i s=>bV a b (52+13 * i) s.2) (fun l:List (den tPt)=>bV a b 221 l) ?_ ?_ 0 ((0:Int),y4) (by omega) rfl g4 ?_
  ·rintro i ⟨_,l⟩ hi rfl hp
   simp only at hp
   right
   simp only [decide_eq_true (show (i:Int)<(y5.length:Int) by omega),cond_true]
   refine bS (G:=fun (o:Option ((Int×List (den tPt))⊕List (den tPt)))=> ∃ s':Int×List (den tPt),o=some (bWj s')∧s'.1=((i+1:Nat):Int)∧bV a b (52+13 * (i+1)) s'.2) y6.length (fun s:Int×List (den tPt)=>s.1) (fun j s=>bV a b (52+13 * i+j) s.2) (fun l:List (den tPt)=>bV a b (52+13 * (i+1)) l) ?_ ?_ 0 ((0:Int),l) (by omega) rfl hp ?_
   ·rintro j ⟨_,l⟩ hj rfl hq
    simp only at hq
    have hl:=hq.1
    obtain ⟨p,ep,kp⟩:=bT9 (f5 y5[i] (bWy hi)) (f6 y6[j] (bWy hj)) (w5 y5[i] (bWy hi)) (w6 y6[j] (bWy hj))
    have ep:iE (y5[i].1,y5[i].2.1,y5[i].2.2) (y6[j].1,y6[j].2.1,y6[j].2.2)=some p:=ep
    right
    simp only [decide_eq_true (show (j:Int)<(y6.length:Int) by omega),decide_eq_true (show (0:Int)<=(i:Int) by omega),decide_eq_true (show (0:Int)<=(j:Int) by omega),cond_true,bWu,bWk hi,bWk hj,aA,ep,aD (b:=24) (n:=l.length) (m:=1) (by decide) (by omega),aW (show j<=1000000000 by omega)]
    cases hdp:decide ((bW0 (α:=den tPp) p:Int)>0) with
    | true=>
     have kp:aNt a b p:=kp.elim (fun h=>by rw [h] at hdp;cases hdp) id
     exact ⟨_,rfl,rfl,hq.add (bV.one kp)⟩
    | false=>exact ⟨_,rfl,rfl,hq.mono (by omega)⟩
   ·rintro ⟨_,l⟩ rfl hq
    simp only at hq
    exact ⟨l,by simp only [decide_eq_false (bW1 _),cond_false],hq.mono (by omega)⟩
   ·rintro l hl
    exact ⟨_,rfl,aW (by omega),hl⟩
  ·rintro ⟨_,l⟩ rfl hp
   simp only at hp
   exact ⟨l,by simp only [decide_eq_false (bW1 _),cond_false],hp.mono (by omega)⟩
  rintro l39 h39
  refine bS (G:=fun o=> ∃ l,o=some l∧bV a b 10000 l) y6.length (fun s:Int×List (den tPt)=>s.1) (fun i s=>bV a b (221+26 * i) s.2) (fun l:List (den tPt)=>bV a b 559 l) ?_ ?_ 0 ((0:Int),l39) (by omega) rfl h39 ?_
  ·rintro i ⟨_,l⟩ hi rfl hp
   simp only at hp
   have hl:=hp.1
   simp only [decide_eq_true (show (i:Int)<(y6.length:Int) by omega),decide_eq_true (show (0:Int)<=(i:Int) by omega),cond_true,bWu,bWk hi,aA]
   cases xa.2.1 with
   | false=>exact .inl ⟨l,by simp only [cond_false],hp.mono (by omega)⟩
   | true=>
    obtain ⟨v,ev,v0⟩:=aNo (s:=y6[i]) (w6 y6[i] (bWy hi)) (i6 y6[i] (bWy hi))
    have ev:cB (y6[i].1,y6[i].2.1,y6[i].2.2)=some v:=ev
    obtain ⟨q,eq,kq⟩:=aO8 (n:=13) (by decide) hk (up:=(0,0,[])) (down:=y6[i]) (by simp) (f6 y6[i] (bWy hi)) ha v0 (.inl ⟨rfl,rfl⟩) (aId (w6 y6[i] (bWy hi)))
    have hq:=kq.1
    have eq:hP (d,cc) (0,0,[]) a v (y6[i].1,y6[i].2.1,y6[i].2.2)=some q:=eq
    exact .inr ⟨(((i+1:Nat):Int),l++q),by simp only [cond_true,ev,eq,aA,aD (b:=24) (n:=l.length) (m:=q.length) (by decide) (by omega),aW (show i<=1000000000 by omega)],rfl,(hp.add kq).mono (by omega)⟩
  ·rintro ⟨_,l⟩ rfl hp
   simp only at hp
   exact ⟨l,by simp only [decide_eq_false (bW1 _),cond_false,aA],hp.mono (by omega)⟩
  rintro l54 h54
  refine bS (G:=fun o=> ∃ l,o=some l∧bV a b 10000 l) y5.length (fun s:Int×List (den tPt)=>s.1) (fun i s=>bV a b (559+26 * i) s.2) (fun l:List (den tPt)=>bV a b 897 l) ?_ ?_ 0 ((0:Int),l54) (by omega) rfl h54 ?_
  ·rintro i ⟨_,l⟩ hi rfl hp
   simp only at hp
   have hl:=hp.1
   simp only [decide_eq_true (show (i:Int)<(y5.length:Int) by omega),decide_eq_true (show (0:Int)<=(i:Int) by omega),cond_true,bWu,bWk hi,aA]
   cases xb.2.1 with
   | false=>exact .inl ⟨l,by simp only [cond_false],hp.mono (by omega)⟩
   | true=>
    obtain ⟨v,ev,v0⟩:=aNo (s:=y5[i]) (w5 y5[i] (bWy hi)) (i5 y5[i] (bWy hi))
    have ev:cB (y5[i].1,y5[i].2.1,y5[i].2.2)=some v:=ev
    obtain ⟨q,eq,kq⟩:=aO8 (n:=13) (by decide) hk (up:=y5[i]) (down:=(0,0,[])) (f5 y5[i] (bWy hi)) (by simp) v0 hb (aId (w5 y5[i] (bWy hi))) (.inl ⟨rfl,rfl⟩)
    have hq:=kq.1
    have eq:hP (d,cc) (y5[i].1,y5[i].2.1,y5[i].2.2) v b (0,0,[])=some q:=eq
    exact .inr ⟨(((i+1:Nat):Int),l++q),by simp only [cond_true,ev,eq,aA,aD (b:=24) (n:=l.length) (m:=q.length) (by decide) (by omega),aW (show i<=1000000000 by omega)],rfl,(hp.add kq).mono (by omega)⟩
  ·rintro ⟨_,l⟩ rfl hp
   simp only at hp
   exact ⟨l,by simp only [decide_eq_false (bW1 _),cond_false,aA],hp.mono (by omega)⟩
  rintro l69 h69
  refine bS (G:=fun o=> ∃ l,o=some l∧bV a b 10000 l) y5.length (fun s:Int×List (den tPt)=>s.1) (fun i s=>bV a b (897+338 * i) s.2) (fun l:List (den tPt)=>bV a b 10000 l) ?_ ?_ 0 ((0:Int),l69) (by omega) rfl h69 (fun l hl=>⟨l,rfl,hl⟩)
  ·rintro i ⟨_,l⟩ hi rfl hp
   simp only at hp
   right
   simp only [decide_eq_true (show (i:Int)<(y5.length:Int) by omega),cond_true]
   refine bS (G:=fun (o:Option ((Int×List (den tPt))⊕List (den tPt)))=> ∃ s':Int×List (den tPt),o=some (bWj s')∧s'.1=((i+1:Nat):Int)∧bV a b (897+338 * (i+1)) s'.2) y6.length (fun s:Int×List (den tPt)=>s.1) (fun j s=>bV a b (897+338 * i+26 * j) s.2) (fun l:List (den tPt)=>bV a b (897+338 * (i+1)) l) ?_ ?_ 0 ((0:Int),l) (by omega) rfl hp ?_
   ·rintro j ⟨_,l⟩ hj rfl hq
    simp only at hq
    have hl:=hq.1
    obtain ⟨v,ev,v0⟩:=aNo (s:=y5[i]) (w5 y5[i] (bWy hi)) (i5 y5[i] (bWy hi))
    have ev:cB (y5[i].1,y5[i].2.1,y5[i].2.2)=some v:=ev
    obtain ⟨u,eu,u0⟩:=aNo (s:=y6[j]) (w6 y6[j] (bWy hj)) (i6 y6[j] (bWy hj))
    have eu:cB (y6[j].1,y6[j].2.1,y6[j].2.2)=some u:=eu
    obtain ⟨q,eq,kq⟩:=aO8 (n:=13) (by decide) hk (up:=y5[i]) (down:=y6[j]) (f5 y5[i] (bWy hi)) (f6 y6[j] (bWy hj)) v0 u0 (aId (w5 y5[i] (bWy hi))) (aId (w6 y6[j] (bWy hj)))
    have hq':=kq.1
    have eq:hP (d,cc) (y5[i].1,y5[i].2.1,y5[i].2.2) v u (y6[j].1,y6[j].2.1,y6[j].2.2)=some q:=eq
    exact .inr ⟨(((j+1:Nat):Int),l++q),by simp only [decide_eq_true (show (j:Int)<(y6.length:Int) by omega),decide_eq_true (show (i:Int)<(y5.length:Int) by omega),decide_eq_true (show (0:Int)<=(i:Int) by omega),decide_eq_true (show (0:Int)<=(j:Int) by omega),cond_true,bWu,bWk hi,bWk hj,aA,ev,eu,eq,aD (b:=24) (n:=l.length) (m:=q.length) (by decide) (by omega),aW (show j<=1000000000 by omega)],rfl,(hq.add kq).mono (by omega)⟩
   ·rintro ⟨_,l⟩ rfl hq
    simp only at hq
    exact ⟨l,by simp only [decide_eq_false (bW1 _),cond_false],hq.mono (by omega)⟩
   ·rintro l hl
    exact ⟨_,rfl,aW (by omega),hl⟩
  ·rintro ⟨_,l⟩ rfl hp
   simp only at hp
   exact ⟨l,by simp only [decide_eq_false (bW1 _),cond_false],hp.mono (by omega)⟩

theorem bU6 {as:List (den tAS)} {ls:List (den tLk)} (ht:aAv as ls) {d cc:List (den tSg)} (hk:DbD 13 d cc) {a b:Int} (ha:0<=a) (hb:0<=b) (now:Int): ∃ l,jW (as,ls) (d,cc) a b now=some l∧bV a b 24 l:=by
 obtain ⟨y,ey,hy⟩:=bTw ht hk ha hb
 have hy1:=hy.1
 unfold jW ixb pj2
 rw [ey,aA]
 refine bS (G:=fun o=> ∃ l,o=some l∧bV a b 24 l) y.length (fun s:Int×List (den tPt)=>s.1) (fun i s=>bV a b 24 s.2) (fun l:List (den tPt)=>bV a b 24 l) ?_ ?_ 0 ((0:Int),[]) (by omega) rfl ⟨by simp,fun x hx=>(bW9 hx).elim⟩ (fun l hl=>⟨l,rfl,hl⟩)
 ·rintro i ⟨_,l⟩ hi rfl hp
  simp only at hp
  have hl:=hp.1
  have hyi:=hy.2 y[i] (bWy hi)
  simp only [decide_eq_true (show (i:Int)<(y.length:Int) by omega),cond_true,aA]
  by_cases hc:(l.length:Int)<24
  ·right
   obtain ⟨b1,f1⟩:=bAq ht hyi.1 now
   obtain ⟨b2,f2⟩:=bJ6 (n:=24) (by decide) hp.d y[i]
   simp only [decide_eq_true hc,cond_true,decide_eq_true (show (0:Int)<=(i:Int) by omega),decide_eq_true (show (i:Int)<(y.length:Int) by omega),bWu,bWk hi,aA,f1,f2,aD (b:=24) (n:=l.length) (m:=1) (by decide) (by omega),aW (show i<=1000000000 by omega)]
   cases b1 with
   | false=>exact ⟨_,rfl,rfl,hp⟩
   | true=>
    cases b2 with
    | true=>exact ⟨_,rfl,rfl,hp⟩
    | false=>exact ⟨_,rfl,rfl,by simp;omega,fun q hq=>(bWv.1 hq).elim (hp.2 q) fun hq=>by rw [bWt.1 hq];exact hyi⟩
  ·left
   exact ⟨l,by simp only [decide_eq_false hc,cond_false],hp⟩
 ·rintro ⟨_,l⟩ rfl hp
  exact ⟨l,by simp only [decide_eq_false (bW1 _),cond_false,aA],hp⟩

theorem aI3 {code:List Int} (hl:code.length<=1048576) {c:List Int} {p h:Int} (hc:Cur code (c,p,h)): ∃ v c' p' h',mB (c,p,h)=some (v,c',p',h')∧Cur code (c',p',h'):=by
 obtain ⟨v1,c1,p1,h1,e1,k1⟩:=sY hl (n:=10) (by decide) (by decide) hc
 unfold mB pj3 pj4
 simp only [e1,aA]
 cases v1 with
 | true=>
  obtain ⟨v2,c2,p2,h2,e2,_,k2⟩:=aEy hl (l:=[(-1:Int),(2147483647:Int),(2147483648:Int)]) (by decide) (by decide) k1
  exact ⟨v2,c2,p2,h2,by simp only [cond_true,e2,aA],k2⟩
 | false=>
  obtain ⟨v2,c2,p2,h2,e2,k2⟩:=sY hl (n:=4) (by decide) (by decide) k1
  simp only [cond_false,e2,aA]
  cases v2 with
  | true=>
   obtain ⟨v3,c3,p3,h3,e3,_,k3⟩:=aEy hl (l:=[(0:Int),(1:Int),(2147483646:Int)]) (by decide) (by decide) k2
   exact ⟨v3,c3,p3,h3,by simp only [cond_true,e3,aA],k3⟩
  | false=>
   obtain ⟨v3,c3,p3,h3,e3,_,k3⟩:=aGl hl (n:=1000000) (by decide) k2
   obtain ⟨v4,c4,p4,h4,e4,_,k4⟩:=aGl hl (n:=2000) (by decide) k3
   exact ⟨wr (v3 * v4),c4,p4,h4,by simp only [cond_false,e3,e4,aA],k4⟩

theorem bHz {as:List (den tAS)} {ls:List (den tLk)} {s:den tSg} (h5:s.2.2.length<=5) (hi:InN (as.length:Int) s.2.2): ∃ hs,tX (as,ls) s=some (s.1,s.2.1,hs)∧hs.length<=5∧InN (as.length:Int) hs:=by
 unfold tX ixb pj3 pj5 zz4
 rw [show ((s.1,s.2.1,s.2.2):den tSg)=s from rfl,aEz (by omega),aA]
 refine bS (G:=fun o=> ∃ hs,o=some (s.1,s.2.1,hs)∧hs.length<=5∧InN (as.length:Int) hs) s.2.2.length (fun z:Int×List (den aL)=>z.1) (fun i z=>z.2.length=s.2.2.length∧InN (as.length:Int) z.2) (fun r:List (den aL)=>r.length=s.2.2.length∧InN (as.length:Int) r) ?_ ?_ 0 ((0:Int),s.2.2) (by omega) rfl ⟨rfl,hi⟩ ?_
 ·rintro i ⟨_,l⟩ hlt rfl ⟨g1,g2⟩
  simp only at g1 g2
  right
  have hil:i<l.length:=by omega
  have hx:l[i]? =some l[i]:=bWk hil
  obtain ⟨q0,q1⟩:=g2 l[i] (bWy hil)
  obtain ⟨m,hm⟩:=bXe q0
  have hml:m<as.length:=by omega
  obtain ⟨bt,et⟩:=aAx (s:=(s.1,s.2.1,l)) (i:Int) (by show l.length<=_;omega)
  have ex:idx as l[i].1=some as[m]:=by rw [hm,aG];exact bWk hml
  simp only [decide_eq_true (show (i:Int)<(l.length:Int) by omega),decide_eq_true (show (0:Int)<=(i:Int) by omega),cond_true,bWu,hx,aA,ex,et,aWd,decide_eq_true hil]
  refine ⟨_,rfl,aW (show i<=1000000000 by omega),by simp [g1],fun y hy=> ?_⟩
  rcases bZb hy with hy | rfl
  ·exact g2 y hy
  ·exact ⟨q0,q1⟩
 ·rintro ⟨_,l⟩ rfl ⟨g1,g2⟩
  simp only at g1 g2
  exact ⟨l,by simp only [g1,decide_eq_false (bW1 _),cond_false],g1,g2⟩
 ·rintro l ⟨g1,g2⟩
  exact ⟨l,rfl,by omega,g2⟩

theorem bCq {p:den tPt} (h:mO p): ∃ l,nU p=some l∧l.length<=18:=by
 have ht:=aI6 h
 have hs:=aA1 p
 unfold nU ixb pj3
 rw [aEe (by omega),aA]
 refine bS (G:=fun o=> ∃ l,o=some l∧l.length<=18) (gK p).length (fun z:Int×List (den cR)=>z.1) (fun i z=>z.2.length<=i) (fun r:List (den cR)=>r.length<=18) ?_ ?_ 0 ((0:Int),[]) (by omega) rfl (by simp) (fun l hl=>⟨l,rfl,hl⟩)
 ·rintro i ⟨_,l⟩ hlt rfl g1
  simp only at g1
  right
  simp only [decide_eq_true (show (i:Int)<((gK p).length:Int) by omega),decide_eq_true (show (0:Int)<=(i:Int) by omega),cond_true,bWu,bWk hlt,aA,aD (b:=24) (n:=l.length) (m:=1) (by decide) (by omega),aW (show i<=1000000000 by omega)]
  cases ((gK p)[i].2.2 != (0:Int)) with
  | true=>exact ⟨_,rfl,rfl,by simp;omega⟩
  | false=>exact ⟨_,rfl,rfl,by show l.length<=i+1;omega⟩
 ·rintro ⟨_,l⟩ rfl g1
  exact ⟨l,by simp only [decide_eq_false (bW1 _),cond_false],by simp only at g1;omega⟩

theorem aXg {l:List (den tRs)} {cap now:Int} (hl:sZ l cap now) {p:den tPt} (hp:mO p) (id r till:Int): ∃ b m,cS l id p r till cap now=some (b,m)∧sZ m cap now:=by
 obtain ⟨d,ed,hd⟩:=bCq hp
 have hn:=hl.len
 unfold cS ixb
 rw [aD (b:=40) (n:=([]:List (den tRs)).length) (m:=l.length) (by decide) (by simp;omega),cond_true,ed,aA]
 refine bS (G:=fun o=> ∃ b m,o=some (b,m)∧sZ m cap now) d.length (fun z:Int×List (den tRs)=>z.1) (fun i z=>sZ z.2 cap now) (fun r:List (den tRs)⊕(Bool×List (den tRs))=>match r with | .inl m=>sZ m cap now | .inr m=>sZ m.2 cap now) ?_ ?_ 0 ((0:Int),[]++l) (by omega) rfl hl ?_
 ·rintro i ⟨_,m⟩ hlt rfl g1
  simp only at g1
  have hm:=g1.len
  obtain ⟨b,eb⟩:=bOq (l:=m) (x:=(id,d[i].1,d[i].2.2,r,till)) (cap:=cap) (now:=now) (by omega)
  simp only [decide_eq_true (show (i:Int)<(d.length:Int) by omega),decide_eq_true (show (0:Int)<=(i:Int) by omega),cond_true,bWu,bWk hlt,aA,eb,aW (show i<=1000000000 by omega)]
  cases b with
  | true=>exact .inr ⟨_,rfl,rfl,g1.admR _⟩
  | false=>exact .inl ⟨_,rfl,hl⟩
 ·rintro ⟨_,m⟩ rfl g1
  exact ⟨.inl m,by simp only [decide_eq_false (bW1 _),cond_false],g1⟩
 ·rintro (m | ⟨b,m⟩) hm
  ·exact ⟨_,m,rfl,hm⟩
  ·exact ⟨b,m,rfl,hm⟩

def aK3 (w:den tNw) (f:den tFl):Bool:= !gN f|| !cK (nT w) f.1|| !cK (nT w) f.2.1||(f.2.2.2.1 != 0)||decide (((aC w).length:Int)>=4)||decide (lY (bL w) f.2.1 f.1>=0)

def bLl (f:den tFl) (l:List (den tPt)) (now:Int):den tFl:=(f.1,f.2.1,f.2.2.1,f.2.2.2.1,f.2.2.2.2.1,aLe f l now,0,0,f.2.2.2.2.2.2.2.2)

def bR2 (w:den tNw) (f:den tFl) (l:List (den tPt)):den tNw:=(nT w,nK w,nG w,aR w,aK w,aN w,aC w++[bLl f l (aR w)],bL w++[(f.2.1,f.1,0,[])],dH w)

def aQ5 (w:den tNw) (b:Bool):Int×Int×Int×Bool×(List (den tAS))×(List (den tLk))×(List (den tSg))×(List (den tSg))×(List (den tRs))×(List (den tUs))×(List Int)×(List (den tFy))×(List (den tFl))×(List (den tIb)):=
 ((nG w).1,aR w,dH w,b,(nT w).1,(nT w).2,(nK w).1,(nK w).2,(nG w).2.1,(nG w).2.2,aK w,aN w,aC w,bL w)

theorem bK2 {w:den tNw} {f:den tFl} {l:List (den tPt)} (hw:tot tNw w<=1073741824) (hf:tot tFl f<=1073741824) (hl:tot (.sl tPt) l<=1073741824) (el:jW (nT w) (nK w) f.1 f.2.1 (aR w)=some l):
  wR w f=some (aQ5 (if aK3 w f then w else bR2 w f l) (!aK3 w f)):=by
 have sw:SmB 68719476736 tNw w:=(bE hw).mono (by decide)
 have sf:SmB 68719476736 tFl f:=(bE hf).mono (by decide)
 have n1:w.1.1.length<=68719476736:=sw.1.1.1
 have n2:w.2.2.2.2.2.2.2.1.length<=1073741824:=(bE hw).2.2.2.2.2.2.2.1.1
 have n3:w.2.2.2.2.2.2.1.length<=1073741824:=(bE hw).2.2.2.2.2.2.1.1
 have el:jW w.1 w.2.1 f.1 f.2.1 w.2.2.2.1=some l:=el
 have a1:aH 120 w.2.2.2.2.2.2.1.length 1=true:=aD (by decide) (by omega)
 have a2:aH 48 w.2.2.2.2.2.2.2.1.length 1=true:=aD (by decide) (by omega)
 unfold wR aK3 aI pj2 pj4 pj9 eL aT bK bO zz4 zz5 zz6 zz7 zz8 zz9
 simp only [aO,aYc sw,aV5 sf,aDc n1,aX4 (show w.2.2.2.2.2.2.2.1.length<=68719476736 by omega),el,bQt hf hl,bRz,aA,aP3,a1,a2,cond_true]
 cases gN f
 ·rfl
 cases cK w.1 f.1
 ·rfl
 cases cK w.1 f.2.1
 ·rfl
 cases f.2.2.2.1 != 0 with
 | true=>rfl
 | false=>cases decide ((w.2.2.2.2.2.2.1.length:Int)>=4) with
  | true=>rfl
  | false=>cases decide (lY w.2.2.2.2.2.2.2.1 f.2.1 f.1>=0)<;>rfl

theorem bH0 {x y:den tPt} {l:List (den tPt)} (h:y∈aIr x l):y=x∨y∈l:=by
 unfold aIr at h
 simp only [bWv,bWt] at h
 rcases h with (h | h) | h
 ·exact .inr (bX2 h)
 ·exact .inl h
 ·exact .inr (bX7 h)

theorem bFj {y:den tPt} {l:List (den tPt)} (h:y∈aGf l):y∈l:=by
 have : ∀ (l:List (den tPt)) (k:Nat) (a:List (den tPt)),y∈cG (fun _ x a=>aIr x a) k l a→y∈l∨y∈a:=by
  intro l
  induction l with
  | nil=>exact fun k a h=> .inr h
  | cons x l ih=>
   intro k a h
   rcases ih (k+1) (aIr x a) h with h | h
   ·exact .inl (bWz _ h)
   ·rcases bH0 h with rfl | h
    ·exact .inl (by simp)
    ·exact .inr h
 rcases this l 0 [] h with h | h
 ·exact h
 ·exact (bW9 h).elim

theorem aJn {f:den tFl} {y:den tPt} {l:List (den tPt)} {now:Int} (h:y∈aLe f l now):y∈l:=by
 unfold aLe aG7 at h
 have h:=bX2 h
 simp only [bWv,bW2] at h
 rcases h with h | h<;>exact bFj h.1


structure FlD (t:den tTo) (f:den tFl):Prop where
 val:gN f=true
 src:cK t f.1=true
 dst:cK t f.2.1=true
 ack:f.2.2.2.1=(0:Int)
 cur:f.2.2.2.2.2.2.1=(0:Int)
 wait:f.2.2.2.2.2.2.2.1=(0:Int)
 rev:f.2.2.2.2.2.2.2.2=[]
 paths:wC 4 f.2.2.2.2.2.1
 msgs:tot (.sl tMs) f.2.2.2.2.1<=12
 bytes: ∀ m∈f.2.2.2.2.1,sR m
 ends: ∀ p∈f.2.2.2.2.2.1,aJj p=some f.1∧aCl p=some f.2.1


structure xJ (n:Nat) (w:den tNw):Prop where
 top:aAv (nT w).1 (nT w).2
 db:DbD 11 (nK w).1 (nK w).2
 gate:nG w=(12,(nG w).2.1,[])
 res:sZ (nG w).2.1 12 60
 now:aR w=60
 dead:aK w=[]
 fly:aN w=[]
 drop:dH w=0
 len:(aC w).length<=n
 flows: ∀ f∈aC w,FlD (nT w) f
 box:bL w=(aC w).map fun f=>((f.2.1,f.1,0,[]):den tIb)
 uniq:(aC w).Pairwise fun f g=>sX g f=false

theorem FlD.tot {t:den tTo} {f:den tFl} (h:FlD t f):tot tFl f<=100:=by
 obtain ⟨a,b,c,d,ms,ps,cu,wa,rv⟩:=f
 rw [aFa]
 have h1:=h.msgs
 have h2:=aR2 h.paths
 have h3:rv=[]:=h.rev
 rw [h3]
 simp only at h1 h2
 simp only [bYy]
 omega

theorem aZj {s:den tSg} (h:s.2.2.length<=5):tot tSg s<=5:=by
 have e:tot tSg s=s.2.2.length:=by
  show 0+(0+tot (.sl aL) s.2.2)=_
  rw [jG rfl];omega
 omega

theorem xJ.tot {n:Nat} {w:den tNw} (hn:n<=4) (h:xJ n w):Go.V.tot tNw w<=1000:=by
 rw [eM]
 have h1:=h.top.len
 have h2:=h.top.links
 have h3:=yL (t:=tSg) (B:=5) (l:=(nK w).1) fun x hx=>aZj (h.db.hd x hx)
 have h4:=yL (t:=tSg) (B:=5) (l:=(nK w).2) fun x hx=>aZj (h.db.hc x hx)
 have h5:=yL (t:=tFl) (B:=100) (l:=aC w) fun f hf=>(h.flows f hf).tot
 have h6:=h.db.down
 have h7:=h.db.core
 have h8:=h.len
 have h9:=h.res.len
 have h10:(nG w).2.2=[]:=by rw [h.gate]
 have h11:Go.V.tot (.sl tIb) (bL w)<=(0+1) * (bL w).length:=yL (t:=tIb) fun x hx=>by
  rw [h.box] at hx
  obtain ⟨f,_,rfl⟩:=bWq.1 hx
  exact bW3 _
 have h12:(bL w).length=(aC w).length:=by rw [h.box,bXr]
 rw [h.dead,h.fly,h10,aB2,aB2,aB2,jG (t:=tAS) rfl,jG (t:=tLk) rfl,jG (t:=tRs) rfl]
 omega

theorem xJ.mono {n m:Nat} {w:den tNw} (h:xJ n w) (hm:n<=m):xJ m w:=⟨h.top,h.db,h.gate,h.res,h.now,h.dead,h.fly,h.drop,bWl h.len hm,h.flows,h.box,h.uniq⟩

def yN (w:den tNw) (c:List Int) (p h:Int):Int×Int×Int×(List (den tAS))×(List (den tLk))×(List (den tSg))×(List (den tSg))×(List (den tRs))×(List (den tUs))×(List Int)×(List (den tFy))×(List (den tFl))×(List (den tIb))×(List Int)×Int×Int:=
 ((nG w).1,aR w,dH w,(nT w).1,(nT w).2,(nK w).1,(nK w).2,(nG w).2.1,(nG w).2.2,aK w,aN w,aC w,bL w,c,p,h)

abbrev NwS:=Int×(List (den tSg))×(List (den tSg))×Int×Int×Int×(List (den tRs))×(List (den tAS))×(List (den tLk))×(List (den tSg))×(List (den tSg))×(List (den tUs))×(List Int)×(List (den tFy))×(List (den tFl))×(List (den tIb))×(List Int)×Int×Int

abbrev NwR:=Int×Int×Int×(List (den tRs))×(List (den tAS))×(List (den tLk))×(List (den tSg))×(List (den tSg))×(List (den tUs))×(List Int)×(List (den tFy))×(List (den tFl))×(List (den tIb))×(List Int)×Int×Int

def NwI (code:List Int) (n:Nat) (s:NwS):Prop:= ∃ as ls d cc res flows box c p h,s=((n:Int),d,cc,12,60,0,res,as,ls,d,cc,[],[],[],flows,box,c,p,h)∧n<=3∧xJ (3 - n) ((as,ls),(d,cc),(12,res,[]),60,[],[],flows,box,0)∧Cur code (c,p,h)

def NwQ (code:List Int) (r:NwR):Prop:= ∃ as ls d cc res flows box c p h,r=(12,60,0,res,as,ls,d,cc,[],[],[],flows,box,c,p,h)∧xJ 3 ((as,ls),(d,cc),(12,res,[]),60,[],[],flows,box,0)∧Cur code (c,p,h)

theorem bI7 {t:den tTo} {f:den tFl} {l:List (den tPt)} {now:Int} {n:Nat} (hn:n<=4) (hv:gN f=true) (hs:cK t f.1=true) (hd:cK t f.2.1=true) (hk:f.2.2.2.1=(0:Int)) (hr:f.2.2.2.2.2.2.2.2=[]) (hm:tot (.sl tMs) f.2.2.2.2.1<=12) (hb: ∀ m∈f.2.2.2.2.1,sR m) (hl:bV f.1 f.2.1 24 l):
  FlD t (f.1,f.2.1,f.2.2.1,f.2.2.2.1,f.2.2.2.2.1,(aLe f l now).take n,0,0,f.2.2.2.2.2.2.2.2) where
 val:=by
  rw [uN] at hv ⊢
  obtain ⟨q1,q2,q3,q4,q5,q6,q7,q8,q9,q10,q11,q12⟩:=hv
  exact ⟨q1,q2,q3,q4,q5,q6,by simp only [bXv];omega,q8,q9,.inl rfl,rfl,q12⟩
 src:=hs
 dst:=hd
 ack:=hk
 cur:=rfl
 wait:=rfl
 rev:=hr
 paths:=⟨by simp only [bXv];omega,fun p hp=>(hl.2 p (aJn (bX2 hp))).1⟩
 msgs:=hm
 bytes:=hb
 ends:=fun p hp=>(hl.2 p (aJn (bX2 hp))).2

theorem bCm {l:List (den tIb)} {a b:Int} (h:decide (lY l a b>=0)=false): ∀ x∈l,wD a b x=false:=by
 have h:=of_decide_eq_false h
 unfold lY at h
 cases e:l.findIdx? (wD a b) with
 | none=>exact fun x hx=>by simpa using List.findIdx?_eq_none_iff.1 e x hx
 | some i=>rw [e] at h;exact absurd (show (0:Int)<=((0+i:Nat):Int) by omega) h

def bH4 (code:List Int) (o:Option (Int×Int×Int×(List (den tAS))×(List (den tLk))×(List (den tSg))×(List (den tSg))×(List (den tRs))×(List (den tUs))×(List Int)×(List (den tFy))×(List (den tFl))×(List (den tIb))×(List Int)×Int×Int)):Prop:= ∃ w c' p' h',o=some (yN w c' p' h')∧xJ 3 w∧Cur code (c',p',h')

theorem bQc {code:List Int} (hl:code.length<=1048576) {c:List Int} {p h:Int} (hc:Cur code (c,p,h)):bH4 code (yT (c,p,h)):=by
 obtain ⟨as,ls,c1,p1,h1,e1,ht,k1⟩:=aYz hl hc
 obtain ⟨v2,c2,p2,h2,e2,r2,k2⟩:=aX hl (n:=7) (by decide) (by decide) k1
 obtain ⟨m2,rfl⟩:=bXe r2.1
 have w2:wr ((5:Int)+(m2:Int))=((m2+5:Nat):Int):=by rw [bF (by omega) (by omega)];omega
 unfold yT dd ixb one aBu bR0 pj3 pj4 pj5 pj7 pj8 aT bK bO eH oH tI yA zz4 zz5 zz6 zz7 zz8 zz9
 simp only [aV,bH,bA,aZ,bC,e1,e2,aA,w2]
 refine jJ (G:=bH4 code) (fun (n:Nat) (s:Int×(List (den tAS))×(List (den tLk))×(List (den tSg))×(List (den tSg))×(List Int)×Int×Int)=> ∃ d cc c p h,s=((n:Int),as,ls,d,cc,c,p,h)∧n<=11∧DbD (11 - n) d cc∧Cur code (c,p,h)) (fun r:(List (den tAS))×(List (den tLk))×(List (den tSg))×(List (den tSg))×(List Int)×Int×Int=> ∃ d cc c p h,r=(as,ls,d,cc,c,p,h)∧DbD 11 d cc∧Cur code (c,p,h)) ?_ (m2+5) (((m2+5:Nat):Int),as,ls,[],[],c2,p2,h2) ⟨[],[],c2,p2,h2,rfl,by omega,⟨by simp,by simp,fun x hx=>(bW9 hx).elim,fun x hx=>(bW9 hx).elim,fun x hx=>(bW9 hx).elim⟩,k2⟩ ?_
 ·rintro n s ⟨d,cc,c3,p3,h3,rfl,hn,hk,k3⟩
  cases n with
  | zero=>exact .inl ⟨_,rfl,d,cc,c3,p3,h3,rfl,hk,k3⟩
  | succ n=>
   right
   obtain ⟨v4,c4,p4,h4,e4,k4⟩:=sY hl (n:=3) (by decide) (by decide) k3
   have wn:wr (((n+1:Nat):Int) - 1)=(n:Int):=by rw [bF (by omega) (by omega)];omega
   have step: ∀ kind:Int,∃ d' cc' c' p' h',(Option.bind (iR (c4,p4,h4) (as,ls) kind) fun y58=>Option.bind (tX (as,ls) (y58.1,y58.2.1,y58.2.2.1)) fun y59=>Option.bind (nN (as,ls) (d,cc) y59) fun y60=>some (y60.1,y60.2,y58.2.2.2.1,y58.2.2.2.2.1,y58.2.2.2.2.2))=some (d',cc',c',p',h')∧DbD (11 - n) d' cc'∧Cur code (c',p',h'):=by
    intro kind
    obtain ⟨a5,b5,hs5,c5,p5,h5,e5,⟨l5,i5⟩,k5⟩:=aYa hl ht kind k4
    obtain ⟨hs6,e6,l6,i6⟩:=bHz (as:=as) (ls:=ls) (s:=(a5,b5,hs5)) l5 i5
    obtain ⟨d7,cc7,e7,q7⟩:=bJo ht (n:=11 - (n+1)) (by omega) hk (s:=(a5,b5,hs6)) l6 (i6.as (by have :=ht.len;omega))
    refine ⟨d7,cc7,c5,p5,h5,?_,q7.mono (by omega),k5⟩
    simp only [e5,e6,e7,aA]
   simp only [decide_eq_true (show ((n+1:Nat):Int)>0 by omega),cond_true,e4,aA]
   cases v4 with
   | true=>
    obtain ⟨d',cc',c',p',h',e,q,k⟩:=step 1
    refine ⟨n,_,by omega,?_,d',cc',c',p',h',rfl,by omega,q,k⟩
    simp only [cond_true,aA,e,wn]
   | false=>
    obtain ⟨d',cc',c',p',h',e,q,k⟩:=step 2
    refine ⟨n,_,by omega,?_,d',cc',c',p',h',rfl,by omega,q,k⟩
    simp only [cond_false,aA,e,wn]
 rintro r ⟨d,cc,c3,p3,h3,rfl,hk,k3⟩
 obtain ⟨v4,c4,p4,h4,e4,r4,k4⟩:=aX hl (n:=3) (by decide) (by decide) k3
 obtain ⟨m4,rfl⟩:=bXe r4.1
 have w4:wr ((1:Int)+(m4:Int))=((m4+1:Nat):Int):=by rw [bF (by omega) (by omega)];omega
 have hA:=ht.len
 have hL:=ht.links
 have smT:SmB 68719476736 tTo (as,ls):=⟨⟨by show as.length<=_;omega,fun _ _=>⟨trivial,trivial,trivial⟩⟩,by show ls.length<=_;omega,fun _ _=>⟨trivial,trivial,trivial,trivial,trivial⟩⟩
 have smK:SmB 68719476736 tDb (d,cc):=⟨aLz (by omega) hk.down hk.hd,aLz (by omega) hk.core hk.hc⟩
 have hok:aS6 (as,ls) 60=true:=by unfold aS6;rw [ht.top];rfl
 have e5:=bTs (t:=(as,ls)) (k:=(d,cc)) (c:=12) (now:=60) smT smK
 rw [hok,cond_true] at e5
 simp only [e5,e4,w4,aA]
 have cap12:cond (inR 12 1 20) (12:Int) 1=12:=rfl
 simp only [cap12]
 refine jJ (G:=bH4 code) (NwI code) (NwQ code) ?_ (m4+1) (((m4+1:Nat):Int),d,cc,12,60,0,[],as,ls,d,cc,[],[],[],[],[],c4,p4,h4) ⟨as,ls,d,cc,[],[],[],c4,p4,h4,rfl,by omega,⟨ht,hk,rfl,⟨by simp,fun x hx=>(bW9 hx).elim,fun x hx=>(bW9 hx).elim,List.Pairwise.nil⟩,rfl,rfl,rfl,rfl,bW4 _,fun x hx=>(bW9 hx).elim,rfl,List.Pairwise.nil⟩,k4⟩ ?_
 rotate_left
 ·rintro r ⟨as,ls,d,cc,res,flows,box,c5,p5,h5,rfl,hd,k5⟩
  exact ⟨_,c5,p5,h5,rfl,hd,k5⟩
 ·rintro n s ⟨as,ls,d,cc,res,flows,box,c5,p5,h5,rfl,hn,hd,k5⟩
  cases n with
  | zero=>exact .inl ⟨_,rfl,as,ls,d,cc,res,flows,box,c5,p5,h5,rfl,hd,k5⟩
  | succ n=>
   right
   obtain ⟨a6,b6,c6,p6,h6,e6,⟨ra6,rb6⟩,k6⟩:=bQg hl (by decide) hd.db k5
   obtain ⟨v7,c7,p7,h7,e7,m7,k7⟩:=aEy hl (l:=[(0:Int),(0:Int),((n+1:Nat):Int)]) (by simp) (by simp) k6
   obtain ⟨v8,c8,p8,h8,e8,r8,k8⟩:=aX hl (n:=3) (by decide) (by decide) k7
   obtain ⟨m8,rfl⟩:=bXe r8.1
   have w8:wr ((1:Int)+(m8:Int))=((m8+1:Nat):Int):=by rw [bF (by omega) (by omega)];omega
   have wn:wr (((n+1:Nat):Int) - 1)=(n:Int):=by rw [bF (by omega) (by omega)];omega
   have enf: ∀ a b c:Int,zD a b c=some (a,b,c,0,0,0,[],[],[]):=fun _ _ _=>rfl
   simp only [decide_eq_true (show ((n+1:Nat):Int)>0 by omega),cond_true,e6,e7,enf,e8,w8,wn,aA,Option.bind_assoc]
   refine jJ (G:=fun o=> ∃ m s',m<n+1∧o=some (bWj s')∧NwI code m s') (fun (n:Nat) (s:Int×Int×Int×Int×Int×Int×Int×List (den tMs)×List (den tPt)×List (den tRv)×List Int×Int×Int)=> ∃ ms c p h,s=((n:Int),a6,b6,v7,0,0,0,ms,[],[],c,p,h)∧n<=3∧tot (.sl tMs) ms+4 * n<=12∧(∀ m∈ms,sR m)∧Cur code (c,p,h)) (fun s:Int×Int×Int×Int×Int×Int×List (den tMs)×List (den tPt)×List (den tRv)×List Int×Int×Int=> ∃ ms c p h,s=(a6,b6,v7,0,0,0,ms,[],[],c,p,h)∧tot (.sl tMs) ms<=12∧(∀ m∈ms,sR m)∧Cur code (c,p,h)) ?_ (m8+1) (((m8+1:Nat):Int),a6,b6,v7,(0:Int),(0:Int),(0:Int),[],[],[],c8,p8,h8) ⟨[],c8,p8,h8,rfl,by omega,by rw [aB2];omega,fun m hm=>(bW9 hm).elim,k8⟩ ?_
   ·rintro i s ⟨ms,c9,p9,h9,rfl,hi,hm,hb,k9⟩
    cases i with
    | zero=>exact .inl ⟨_,rfl,ms,c9,p9,h9,rfl,by omega,hb,k9⟩
    | succ i=>
     right
     obtain ⟨v10,c10,p10,h10,e10,r10,k10⟩:=aX hl (n:=3) (by decide) (by decide) k9
     obtain ⟨m10,rfl⟩:=bXe r10.1
     obtain ⟨l11,c11,p11,h11,e11,⟨r11,b11⟩,k11⟩:=aJ6 hl (n:=m10) (by omega) k10
     have hf:tot tFl (a6,b6,v7,0,ms,[],0,0,[])<=1000:=by rw [aFa];show _+0+0<=_;omega
     have en:=bMe (f:=(a6,b6,v7,0,ms,[],0,0,[])) (b:=l11) ((bE (B:=1000) hf).mono (by decide)) ⟨by omega,fun e he=>trivial⟩
     have wi:wr (((i+1:Nat):Int) - 1)=(i:Int):=by rw [bF (by omega) (by omega)];omega
     simp only [decide_eq_true (show ((i+1:Nat):Int)>0 by omega),cond_true,e10,e11,en,aA,wi]
     unfold aMq
     split
     ·refine ⟨i,_,by omega,rfl,ms++[l11],c11,p11,h11,rfl,by omega,?_,?_,k11⟩
      ·rw [sH,aYo];omega
      ·intro m hm
       rcases bWv.1 hm with hm | hm
       ·exact hb m hm
       ·rw [bWt.1 hm];exact b11
     ·exact ⟨i,_,by omega,rfl,ms,c11,p11,h11,rfl,by omega,by omega,hb,k11⟩
   rintro r ⟨ms,c9,p9,h9,rfl,hm,hb,k9⟩
   obtain ⟨l10,e10,hl10⟩:=bU6 hd.top (hd.db.mono (by decide)) ra6.1 rb6.1 60
   have tf:tot tFl (a6,b6,v7,0,ms,[],0,0,[])<=1073741824:=by rw [aFa];show _+0+0<=_;omega
   have ea:=bK2 (w:=((as,ls),(d,cc),(12,res,[]),60,[],[],flows,box,0)) (f:=(a6,b6,v7,0,ms,[],0,0,[])) (l:=l10) (bWl (hd.tot (by omega)) (by decide)) tf (bWl (aR2 hl10.d) (by decide)) e10
   cases hbad:aK3 ((as,ls),(d,cc),(12,res,[]),60,[],[],flows,box,0) (a6,b6,v7,0,ms,[],0,0,[]) with
   | true=>
    rw [hbad] at ea
    simp only [if_true,bWo] at ea
    simp only [ea,aA,aQ5,cond_false]
    exact ⟨n,_,by omega,rfl,as,ls,d,cc,res,flows,box,c9,p9,h9,rfl,by omega,hd.mono (by omega),k9⟩
   | false=>
    rw [hbad] at ea
    simp only [bWr,if_false,bWw] at ea
    simp only [ea,aA,aQ5,bR2,cond_true]
    unfold aK3 at hbad
    simp only [Bool.or_eq_false_iff,Bool.not_eq_false'] at hbad
    obtain ⟨⟨⟨⟨⟨b1,b2⟩,b3⟩,b4⟩,b5⟩,b6'⟩:=hbad
    have hnone:=bCm b6'
    have hfl:(flows.length:Int)<4:=by have h5: ¬ ((flows.length:Int)>=4):=of_decide_eq_false b5;omega
    have hfl':flows.length<=3 - (n+1):=hd.len
    generalize hg:bLl (a6,b6,v7,0,ms,[],0,0,[]) l10 60=g
    have hL:((flows++[g]).length:Int)=((flows.length+1:Nat):Int):=by simp
    have wl:wr (((flows.length+1:Nat):Int) - 1)=(flows.length:Int):=by rw [bF (by omega) (by omega)];omega
    have hx:(flows++[g])[flows.length]? =some g:=by simp
    have hset: ∀ y,(flows++[g]).set flows.length y=flows++[y]:=fun y=>by simp
    have hlt:flows.length<(flows++[g]).length:=by simp
    obtain ⟨m,em,hm1,hm4⟩: ∃ m:Nat,(if (4:Int)<(g.2.2.2.2.2.1.length:Int) then (4:Int) else (g.2.2.2.2.2.1.length:Int))=(m:Int)∧m<=g.2.2.2.2.2.1.length∧m<=4:=by
     by_cases h4:(4:Int)<(g.2.2.2.2.2.1.length:Int)
     ·exact ⟨4,by rw [if_pos h4];rfl,by omega,by omega⟩
     ·exact ⟨g.2.2.2.2.2.1.length,by rw [if_neg h4],bW3 _,by omega⟩
    have hmem: ∀ y∈g.2.2.2.2.2.1,mO y:=fun y hy=>by
     rw [← hg] at hy
     exact (hl10.2 y (aJn hy)).1
    simp only [hL,wl,decide_eq_true (show (0:Int)<=(flows.length:Int) by omega),decide_eq_true (show (flows.length:Int)<((flows.length+1:Nat):Int) by omega),cond_true,bWu,hx,aA,aTr,em,aHg hm1,fZ,decide_eq_true hlt,hset]
    have fin: ∀ res' c p h,sZ res' 12 60→Cur code (c,p,h)→NwI code n ((n:Int),d,cc,12,60,0,res',as,ls,d,cc,[],[],[],flows++[(g.1,g.2.1,g.2.2.1,g.2.2.2.1,g.2.2.2.2.1,List.take m g.2.2.2.2.2.1,g.2.2.2.2.2.2.1,g.2.2.2.2.2.2.2.1,g.2.2.2.2.2.2.2.2)],box++[(b6,a6,0,[])],c,p,h):=by
     intro res' c p h hr hc
     have hF:FlD (as,ls) (g.1,g.2.1,g.2.2.1,g.2.2.2.1,g.2.2.2.2.1,List.take m g.2.2.2.2.2.1,g.2.2.2.2.2.2.1,g.2.2.2.2.2.2.2.1,g.2.2.2.2.2.2.2.2):=by
      rw [← hg]
      exact bI7 (f:=(a6,b6,v7,0,ms,[],0,0,[])) hm4 b1 b2 b3 rfl rfl hm hb hl10
     have ge1:g.1=a6:=by rw [← hg];rfl
     have ge2:g.2.1=b6:=by rw [← hg];rfl
     refine ⟨as,ls,d,cc,res',_,_,c,p,h,rfl,by omega,⟨hd.top,hd.db,rfl,hr,rfl,rfl,rfl,rfl,?_,?_,?_,?_⟩,hc⟩
     ·show (flows++[_]).length<=_
      simp;omega
     ·intro f hf
      rcases bWv.1 hf with hf | hf
      ·exact hd.flows f hf
      ·rw [bWt.1 hf];exact hF
     ·show box++[_]=(flows++[_]).map _
      rw [bZa,← show box=flows.map (fun f=>((f.2.1,f.1,0,[]):den tIb)) from hd.box]
      simp only [bW7,List.map_nil,ge1,ge2]
     ·show (flows++[_]).Pairwise _
      rw [bZx]
      refine ⟨hd.uniq,List.pairwise_singleton _ _,fun x hx y hy=> ?_⟩
      rw [bWt.1 hy]
      have hbx:((x.2.1,x.1,0,[]):den tIb)∈box:=by
       rw [show box=flows.map (fun f=>((f.2.1,f.1,0,[]):den tIb)) from hd.box]
       exact bWq.2 ⟨x,hx,rfl⟩
      have :=hnone _ hbx
      unfold wD at this
      unfold sX
      rw [Bool.and_comm]
      simp only [ge1,ge2]
      exact this
    by_cases hm0:m=0
    ·subst hm0
     simp only [show decide (((0:Nat):Int)>0)=false from rfl,cond_false,aA]
     exact ⟨n,_,by omega,rfl,fin res c9 p9 h9 hd.res k9⟩
    ·simp only [decide_eq_true (show (m:Int)>0 by omega),cond_true,aA]
     cases decide (g.2.2.1>(0:Int)) with
     | false=>
      simp only [cond_false,aA]
      exact ⟨n,_,by omega,rfl,fin res c9 p9 h9 hd.res k9⟩
     | true=>
      have hp:idx (List.take m g.2.2.2.2.2.1) (0:Int)=some (g.2.2.2.2.2.1[0]'(by omega)):=by
       rw [show (0:Int)=((0:Nat):Int) from rfl,aG,bXx,if_pos (by omega)]
       exact bWk _
      obtain ⟨v11,c11,p11,h11,e11,r11,k11⟩:=aX hl (n:=2) (by decide) (by decide) k9
      obtain ⟨b12,m12,e12,q12⟩:=aXg hd.res (hmem _ (bWy (show 0<g.2.2.2.2.2.1.length by omega))) g.2.2.1 (wr ((1:Int)+v11)) 4000
      simp only [cond_true,hp,e11,e12,aA,aV,bH,bA,aZ,bC]
      exact ⟨n,_,by omega,rfl,fin m12 c11 p11 h11 q12 k11⟩

def aEm (w:den tNw) (l:List Int):den tNw:=(nT w,nK w,nG w,aR w,l,aN w,aC w,bL w,dH w)

def uG (w:den tNw) (i:Nat):den tNw:=rB w ((aN w).take i++(aN w).drop (i+1))

theorem bFr {w:den tNw} {i:Nat} {x:den tFy} (hx:(aN w)[i]? =some x) (hl:(aN w).length<=1073741824):uQ w (i:Int)=some (bNw x (uG w i)):=by
 have hlt:i<(aN w).length:=(bWs.1 hx).1
 have hx:w.2.2.2.2.2.1[((i:Nat):Int).toNat]? =some x:=by rw [bWu];exact hx
 have h1:decide ((i:Int)<(w.2.2.2.2.2.1.length:Int))=true:=decide_eq_true (by have :i<w.2.2.2.2.2.1.length:=hlt;omega)
 have e1:wr ((i:Int)+1)=((i+1:Nat):Int):=(wri (by omega) (by omega)).trans (by omega)
 have h2:bU ((i+1:Nat):Int) (w.2.2.2.2.2.1.length:Int) (w.2.2.2.2.2.1.length:Int)=true:=yU (show i+1<=w.2.2.2.2.2.1.length from hlt)
 have h3:bU (0:Int) (i:Int) (w.2.2.2.2.2.1.length:Int)=true:=aHg (k:=i) (Nat.le_of_lt hlt)
 have hl:w.2.2.2.2.2.1.length<=1073741824:=hl
 unfold uQ ixb aI aT bK zz4 zz5 zz6 zz7 zz8 zz9
 simp only [h1,hx,aA,cond_true,e1,h2,h3,fZ,aB7,List.nil_append,aD (b:=128) (n:=([]:List (den tFy)).length) (m:=(w.2.2.2.2.2.1.take i).length) (by decide) (by simp;omega),aD (b:=128) (n:=(w.2.2.2.2.2.1.take i).length) (m:=(w.2.2.2.2.2.1.drop (i+1)).length) (by decide) (by simp;omega),decide_eq_true (show (0:Int)<=(i:Int) by omega)]
 rfl


def qR (m:Nat) (dead:List Int) (i:Int) (b:Bool):List Int:=((List.range m).map fun k:Nat=>((k:Nat):Int)).filter fun k:Int=>(mV dead k&&(k != i))||(b&&(k==i))

def aCt (w:den tNw) (i:Int) (b:Bool):Bool:=(mV (aK w) i==b)|| !inR i 0 (((nT w).2.length:Int) - 1)

def xG (w:den tNw) (i:Int) (b:Bool):den tNw:=if aCt w i b then w else aEm w (qR (nT w).2.length (aK w) i b)

theorem bGv {w:den tNw} {i:Int} {b:Bool} (h1:(nT w).2.length<=1073741824) (h2:(aK w).length<=68719476736):wM w i b=some (!aCt w i b,bT (xG w i b)):=by
 have w1:wr ((w.1.2.length:Int) - 1)=(w.1.2.length:Int) - 1:=jA (bWl h1 (by decide))
 have e1:=fun n=>aFh (l:=w.2.2.2.2.1) (n:=n) h2
 unfold wM xG aCt zz4 zz5 zz6 zz7 zz8
 simp only [e1,aA,w1,hZ]
 cases hb:(mV w.2.2.2.2.1 i==b) with
 | true=>rfl
 | false=>
  simp only [cond_false,aA,Bool.false_or]
  cases inR i 0 ((w.1.2.length:Int) - 1) with
  | false=>rfl
  | true=>
   simp only [bWo,cond_false,bWr,if_false,bWw]
   refine bS (G:=fun o=>o=some (true,bT (aEm w (qR (nT w).2.length (aK w) i b)))) w.1.2.length (fun s:Int×List Int=>s.1) (fun k s=>s.2.length<=k∧s.2=qR k (aK w) i b) (fun r:List Int=>r=qR w.1.2.length (aK w) i b) ?_ ?_ 0 ((0:Int),[]) (bW4 _) rfl ⟨by simp,rfl⟩ ?_
   ·rintro k ⟨_,l⟩ hk rfl ⟨g1,g2⟩
    simp only at g1 g2
    right
    have hk':k<=1073741824:=bWl (Nat.le_of_lt hk) h1
    simp only [decide_eq_true (show (k:Int)<(w.1.2.length:Int) by omega),cond_true,aA,aD (b:=8) (n:=l.length) (m:=1) (by decide) (by omega),show wr ((k:Int)+1)=((k+1:Nat):Int) from (wri (by omega) (by omega)).trans (by omega)]
    have hl:qR (k+1) (aK w) i b=qR k (aK w) i b++(if (mV (aK w) (k:Int)&&((k:Int) != i))||(b&&((k:Int)==i)) then [(k:Int)] else []):=by
     unfold qR
     rw [List.range_succ,bZa,List.filter_append]
     congr 1
     simp only [bW7,List.map_nil,bZk,List.filter_nil]
    have hd:aK w=w.2.2.2.2.1:=rfl
    rw [hl,← g2,hd]
    cases mV w.2.2.2.2.1 (k:Int)<;>cases hki:((k:Int)==i)<;>cases b<;>simp only [bne,hki,cond_true,cond_false,aA,bWo,bWw,Bool.and_true,Bool.and_false,Bool.true_and,Bool.false_and,bYk,Bool.or_false,Bool.true_or,Bool.false_or,bWr,if_true,if_false,bXs]<;>first
     | exact ⟨_,rfl,rfl,by simp;omega,rfl⟩
     | exact ⟨_,rfl,rfl,by simp only;omega,rfl⟩
   ·rintro ⟨_,l⟩ rfl ⟨g1,g2⟩
    exact ⟨l,by simp only [decide_eq_false (bW1 _),cond_false],g2⟩
   ·rintro r rfl
    rfl

def aCg (f:den tFl) (b:List Int):den tFl:=if gN (enq f b) then enq f b else f


def doW (w:den tNw) (e:den cL):Bool×den tNw:=
 if e.1==1 then (!decide (aR w>=1000000),tG w)
 else if e.1==2 then (match inR e.2.1 0 (((aN w).length:Int) - 1),(aN w)[e.2.1.toNat]? with
  | true,some x=>(true,fU (uG w e.2.1.toNat) x.1 x.2.1 x.2.2)
  | _,_=>(false,w))
 else if e.1==3 then (if inR e.2.1 0 (((aN w).length:Int) - 1) then (true,wT (uG w e.2.1.toNat)) else (false,w))
 else if e.1==4 then (match inR e.2.1 0 (((aN w).length:Int) - 1)&& !decide (((aN w).length:Int)>=150),(aN w)[e.2.1.toNat]? with
  | true,some x=>(true,rB w (aN w++[x]))
  | _,_=>(false,w))
 else if e.1==5||e.1==6 then (!aCt w e.2.1 (e.1==5),xG w e.2.1 (e.1==5))
 else if e.1==7 then (if cK (nT w) e.2.2.2.1&& !decide (((aN w).length:Int)>=150) then (true,rB w (aN w++[e.2.2.2])) else (false,w))
 else if e.1==8 then (match inR e.2.1 0 (((aC w).length:Int) - 1),(aC w)[e.2.1.toNat]? with
  | true,some f=>(gN (enq f e.2.2.1),cT w ((aC w).set e.2.1.toNat (aCg f e.2.2.1)))
  | _,_=>(false,w))
 else (false,w)

theorem aGa {α:Type} {l:List α} {n:Int} (hl:l.length<=1073741824) (h:inR n 0 ((l.length:Int) - 1)=true): ∃ (i:Nat) (x:α),n=(i:Int)∧l[i]? =some x∧decide (n<(l.length:Int))=true∧decide ((0:Int)<=n)=true:=by
 obtain ⟨h0,h1⟩:=bI.1 h
 obtain ⟨i,rfl⟩:=bXe h0
 have hi:i<l.length:=by omega
 exact ⟨i,l[i],rfl,bWk hi,decide_eq_true (by omega),decide_eq_true h0⟩

theorem aXi {B F:Nat} {w:den tNw} {r inn:Int} {p:den tPk} (hk:kK B F w) (hp:fN p):kK (B+(160+F)) F (fU w r inn p):=by
 obtain ⟨h1,h2⟩:=aHv hk.bytes hp (r:=r) (inn:=inn)
 have h3:=aN8 w r inn p
 have :=hk.flows
 have :=hk.tot
 exact ⟨by omega,by rw [h2];exact hk.flows,h1⟩

theorem aW1 {B F:Nat} {w:den tNw} {l:List (den tFy)} (hk:kK B F w) (hl:tot (.sl tFy) l<=tot (.sl tFy) (aN w)) (hb: ∀ x∈l,fN x.2.2):kK B F (rB w l):=by
 have h1:=aPe w l
 have :=hk.tot
 exact ⟨by omega,hk.flows,⟨hb,hk.bytes.msg⟩⟩

theorem aD0 {B F:Nat} {w:den tNw} (hk:kK B F w) (i:Nat):kK B F (uG w i):=by
 refine aW1 hk ?_ fun x hx=>hk.bytes.fly x ?_
 ·have h1:=sH (t:=tFy) ((aN w).take i) ((aN w).drop i)
  rw [bX8] at h1
  rw [sH,h1]
  have :tot (.sl tFy) ((aN w).drop (i+1))<=tot (.sl tFy) ((aN w).drop i):=by
   cases h:(aN w).drop i with
   | nil=>
    have :(aN w).drop (i+1)=[]:=by rw [← List.drop_drop,h];rfl
    rw [this];exact bW3 _
   | cons x l=>
    have :(aN w).drop (i+1)=l:=by rw [← List.drop_drop,h];rfl
    rw [this,kM];omega
  omega
 ·rcases bWv.1 hx with hx | hx
  ·exact bX2 hx
  ·exact bX7 hx

theorem bWa {B F:Nat} {w:den tNw} {e:den cL} (hF:F<=1000) (hk:kK B F w) (hB:B+(F+1) * (160+F)<=536870912) (h9:(e.1==(9:Int))=false) (hd:SmB 4294967296 (.sl tb) e.2.2.1) (hp:tot tPk e.2.2.2.2.2<=34359738368):aA0 w e=some ((doW w e).1,bT (doW w e).2):=by
 obtain ⟨kd,n,data,to,ing,pk⟩:=e
 simp only at h9 hd hp
 have hB0:B<=536870912:=by have :=bW4 ((F+1) * (160+F));omega
 have hB1:B+F * (160+F)<=536870912:=by rw [bXk] at hB;omega
 have nl:=eM w
 have l1:w.2.2.2.2.2.1.length<=1073741824:=aX1 hk (by omega)
 have l2:w.2.2.2.2.2.2.1.length<=1073741824:=bWl hk.flows (by omega)
 obtain ⟨n1,n2,n3⟩:=aEl hk (by omega)
 have w1:wr ((w.2.2.2.2.2.1.length:Int) - 1)=(w.2.2.2.2.2.1.length:Int) - 1:=jA (by omega)
 have w2:wr ((w.2.2.2.2.2.2.1.length:Int) - 1)=(w.2.2.2.2.2.2.1.length:Int) - 1:=jA (by omega)
 have a1:aH 128 w.2.2.2.2.2.1.length 1=true:=aD (by decide) (by omega)
 unfold aA0 doW ixb aI jZ aQv pj2 eL aT bK bO eH oH tI yA aB0 aDs aDv aJo aP7 aQz aQy aKq zz4 zz5 zz6 zz7 zz8 zz9
 simp only [w1,hZ,aA]
 cases c1:(kd==(1:Int)) with
 | true=>
  show Option.bind (tZ w) _=_
  rw [bN8 hF hk hB1]
  rfl
 | false=>
 cases c2:(kd==(2:Int)) with
 | true=>
  simp only [cond_false,cond_true,bWr,if_false,if_true]
  cases hin:inR n 0 ((w.2.2.2.2.2.1.length:Int) - 1) with
  | false=>rfl
  | true=>
   obtain ⟨i,x,rfl,hx,_,_⟩:=aGa l1 hin
   have hx:(aN w)[i]? =some x:=hx
   have e1:=bFr (w:=w) hx l1
   have kg:=aD0 hk i
   obtain ⟨m1,m2,m3⟩:=aEl kg (by omega)
   have hxm:=bWx hx
   have htx:tot tPk x.2.2<=536870912:=by
    have h1:=vW (t:=tFy) hxm
    have h2:tot tFy x=tot tPk x.2.2:=by simp [qW,tL]
    have :=hk.tot
    omega
   have e2:=aZh (w:=uG w i) (r:=x.1) (inn:=x.2.1) m1 m2 m3 htx (hk.bytes.fly x hxm)
   have e3:Option.bind (Option.bind (dR (uG w i) x.1 x.2.1 x.2.2) fun y4=>some y4) (fun s5=>some (true,s5))=some (true,bT (fU (uG w i) x.1 x.2.1 x.2.2)):=by rw [e2];rfl
   rw [cond_true,e1,aA]
   have hx':w.2.2.2.2.2.1[((i:Nat):Int).toNat]? =some x:=by rw [bWu];exact hx
   rw [hx']
   exact e3
 | false=>
 cases c3:(kd==(3:Int)) with
 | true=>
  simp only [cond_false,cond_true,bWr,if_false,if_true]
  cases hin:inR n 0 ((w.2.2.2.2.2.1.length:Int) - 1) with
  | false=>rfl
  | true=>
   obtain ⟨i,x,rfl,hx,_,_⟩:=aGa l1 hin
   have hx:(aN w)[i]? =some x:=hx
   have e1:=bFr (w:=w) hx l1
   rw [cond_true,e1,aA]
   rfl
 | false=>
 cases c4:(kd==(4:Int)) with
 | true=>
  simp only [cond_false,cond_true,bWr,if_false,if_true]
  cases hin:inR n 0 ((w.2.2.2.2.2.1.length:Int) - 1) with
  | false=>rfl
  | true=>
   obtain ⟨i,x,rfl,hx,hlt,hz⟩:=aGa l1 hin
   have hx:(aN w)[i]? =some x:=hx
   have hxm:=bWx hx
   have htx:tot tPk x.2.2<=34359738368:=by
    have h1:=vW (t:=tFy) hxm
    have h2:tot tFy x=tot tPk x.2.2:=by simp [qW,tL]
    have :=hk.tot
    omega
   have hx':w.2.2.2.2.2.1[((i:Nat):Int).toNat]? =some x:=by rw [bWu];exact hx
   have e1:=aCq (fM htx)
   cases decide ((w.2.2.2.2.2.1.length:Int)>=150) with
   | true=>rfl
   | false=>
    simp only [bWo,bWw,cond_false,cond_true,aA,hlt,hz,hx',a1,Bool.and_self]
    rw [show ((x.2.2.1,x.2.2.2.1,x.2.2.2.2.1,x.2.2.2.2.2.1,x.2.2.2.2.2.2.1,x.2.2.2.2.2.2.2.1,x.2.2.2.2.2.2.2.2.1,x.2.2.2.2.2.2.2.2.2.1,x.2.2.2.2.2.2.2.2.2.2.1,x.2.2.2.2.2.2.2.2.2.2.2):den tPk)=x.2.2 from rfl,e1,aA]
    rfl
 | false=>
 cases c5:(kd==(5:Int)) with
 | true=>
  simp only [cond_false,cond_true,bWr,if_false,if_true,aA,Bool.true_or]
  rw [show ((w.1,w.2.1,w.2.2.1,w.2.2.2.1,w.2.2.2.2.1,w.2.2.2.2.2.1,w.2.2.2.2.2.2.1,w.2.2.2.2.2.2.2.1,w.2.2.2.2.2.2.2.2):den tNw)=w from rfl,bGv n1.links n1.dead]
  rfl
 | false=>
 cases c6:(kd==(6:Int)) with
 | true=>
  simp only [cond_false,cond_true,bWr,if_false,if_true,aA,bYk]
  rw [show ((w.1,w.2.1,w.2.2.1,w.2.2.2.1,w.2.2.2.2.1,w.2.2.2.2.2.1,w.2.2.2.2.2.2.1,w.2.2.2.2.2.2.2.1,w.2.2.2.2.2.2.2.2):den tNw)=w from rfl,bGv n1.links n1.dead]
  rfl
 | false=>
 cases c7:(kd==(7:Int)) with
 | true=>
  simp only [cond_false,cond_true,bWr,if_false,if_true,aA,bX9,aO,aDc n1.as]
  have e1:=aCq (fM hp)
  cases cK w.1 to with
  | false=>rfl
  | true=>
   cases decide ((w.2.2.2.2.2.1.length:Int)>=150) with
   | true=>rfl
   | false=>
    simp only [bWo,bWw,cond_false,cond_true,aA,a1,e1]
    rfl
 | false=>
 cases c8:(kd==(8:Int)) with
 | true=>
  simp only [cond_false,cond_true,bWr,if_false,if_true,aA,bX9,aO]
  unfold yY ixb pj2 pj9 zz4 zz5 zz6 zz7 zz8 zz9
  simp only [w2,hZ,aA,c8,cond_true]
  cases hin:inR n 0 ((w.2.2.2.2.2.2.1.length:Int) - 1) with
  | false=>rfl
  | true=>
   obtain ⟨i,x,rfl,hx,hlt,hz⟩:=aGa l2 hin
   have hx:(aC w)[i]? =some x:=hx
   have hxm:=bWx hx
   have hx':w.2.2.2.2.2.2.1[((i:Nat):Int).toNat]? =some x:=by rw [bWu];exact hx
   have hfx:tot tFl x<=536870912:=by
    have h1:=vW (t:=tFl) hxm
    have :=hk.tot
    omega
   have e1:=bMe (f:=x) (b:=data) ((bE hfx).mono (by decide)) hd
   have hlt2:decide (((i:Nat):Int).toNat<w.2.2.2.2.2.2.1.length)=true:=decide_eq_true (by rw [bWu];exact (bWs.1 hx).1)
   simp only [bWo,cond_false,cond_true,hlt,hz,hx',hlt2,aA]
   rw [show ((x.1,x.2.1,x.2.2.1,x.2.2.2.1,x.2.2.2.2.1,x.2.2.2.2.2.1,x.2.2.2.2.2.2.1,x.2.2.2.2.2.2.2.1,x.2.2.2.2.2.2.2.2):den tFl)=x from rfl,e1,aA]
   unfold aMq aCg
   cases gN (enq x data)<;>rfl
 | false=>
  simp only [h9,cond_false,cond_true,bWr,if_false,if_true,aA,bX9]
  rfl


def aEd (p:den tPt):Prop:=bW0 (α:=den tPp) p<=4∧ ∀ x:den tPp,x∈(show List (den tPp) from p)→x.2.2.2.length<=5

theorem mO.e {p:den tPt} (h:mO p):aEd p:=⟨bWl h.1 (by decide),h.2⟩

theorem bGo {p:den tPt} (h:aEd p):tot tPt p<=24:=by
 have h1:=yL (t:=tPp) (B:=5) (l:=p) fun x hx=>aVe (h.2 x hx)
 have h2:=h.1
 show tot (.sl tPp) p<=24
 omega

theorem aEd.set {p:List (den tPp)} (h:mO p) {i:Nat} {x:den tPp} (hx:x.2.2.2.length<=5):aEd (p.set i x):=by
 refine ⟨by have :=h.1;show (p.set i x).length<=4;rw [bYh];omega,fun y hy=> ?_⟩
 rcases bZb (show y∈p.set i x from hy) with hy | rfl
 ·exact h.2 y hy
 ·exact hx

theorem bGj {code:List Int} (hl:code.length<=1048576) {c:List Int} {p h:Int} (hc:Cur code (c,p,h)): ∃ (q:List (den tPp)) (c':List Int) (p' h':Int),zE (c,p,h)=some (q,c',p',h')∧aEd q∧Cur code (c',p',h'):=by
 obtain ⟨as,ls,q,c1,p1,h1,e1,hq,k1⟩:=aUz hl hc
 unfold zE ixb pj3 pj4
 simp only [e1,aA,aV,bH,bA,aZ,bC]
 by_cases h0:q.length=0
 ·rw [show ((q.length:Int)==0)=true by rw [beq_iff_eq];omega,cond_true]
  exact ⟨q,c1,p1,h1,rfl,hq.e,k1⟩
 have hq3:q.length<=3:=hq.1
 rw [show ((q.length:Int)==0)=false by rw [beq_eq_false_iff_ne];omega,cond_false]
 obtain ⟨v2,c2,p2,h2,e2,r2,k2⟩:=aX hl (n:=(q.length:Int)) (by omega) (by omega) k1
 obtain ⟨m,rfl⟩:=bXe r2.1
 have hm:m<q.length:=by omega
 have hx:q[m]? =some q[m]:=bWk hm
 have hx5:q[m].2.2.2.length<=5:=hq.2 _ (bWy hm)
 obtain ⟨v3,c3,p3,h3,e3,r3,k3⟩:=aX hl (n:=12) (by decide) (by decide) k2
 simp only [e2,e3,aA,decide_eq_true (show (0:Int)<=(m:Int) by omega),decide_eq_true (show (m:Int)<(q.length:Int) by omega),cond_true,bWu,hx]
 cases v3==(0:Int) with
 | true=>
  obtain ⟨v4,c4,p4,h4,e4,_,k4⟩:=aX hl (n:=6) (by decide) (by decide) k3
  exact ⟨_,c4,p4,h4,by simp only [cond_true,e4,aA];rfl,aEd.set hq (by exact hx5),k4⟩
 | false=>
 cases v3==(1:Int) with
 | true=>
  obtain ⟨v4,c4,p4,h4,e4,k4⟩:=aI3 hl k3
  exact ⟨_,c4,p4,h4,by simp only [cond_true,cond_false,e4,aA];rfl,aEd.set hq (by exact hx5),k4⟩
 | false=>
 cases v3==(2:Int) with
 | true=>
  have sx:SmB 68719476736 tPp q[m]:=⟨trivial,trivial,trivial,by omega,fun _ _=>⟨trivial,trivial,trivial,trivial,trivial⟩⟩
  refine ⟨q++[q[m]],c3,p3,h3,?_,⟨by show (q++[q[m]]).length<=4;simp;omega,fun y hy=> ?_⟩,k3⟩
  ·simp only [cond_true,cond_false,aMo (p:=q[m]) (by omega),aO,aA,aD (b:=48) (n:=q.length) (m:=1) (by decide) (by omega)]
  ·rcases bWv.1 (show y∈q++[q[m]] from hy) with hy | hy
   ·exact hq.2 y hy
   ·rw [bWt.1 hy];exact hx5
 | false=>
 cases v3==(3:Int) with
 | true=>
  have s1:bU (1:Int) (q.length:Int) (q.length:Int)=true:=yU (k:=1) (by omega)
  have s2:cut q (1:Int) (q.length:Int)=q.drop 1:=aB7 (k:=1)
  refine ⟨q.drop 1,c3,p3,h3,by simp only [cond_true,cond_false,s1,s2,aA],⟨by show (q.drop 1).length<=4;simp;omega,fun y hy=>hq.2 y (bX7 (show y∈q.drop 1 from hy))⟩,k3⟩
 | false=>
 cases v3==(4:Int) with
 | false=>exact ⟨q,c3,p3,h3,by simp only [cond_false,aA],hq.e,k3⟩
 | true=>
  simp only [cond_true,cond_false]
  by_cases hp:(q[m].2.2.2.length:Int)>0
  ·obtain ⟨v4,c4,p4,h4,e4,r4,k4⟩:=aX hl (n:=(q[m].2.2.2.length:Int)) hp (by omega) k3
   obtain ⟨i,rfl⟩:=bXe r4.1
   have hi:i<q[m].2.2.2.length:=by omega
   obtain ⟨v5,c5,p5,h5,e5,k5⟩:=aI3 hl k4
   refine ⟨_,c5,p5,h5,?_,aEd.set hq (i:=m) (x:=(q[m].1,q[m].2.1,q[m].2.2.1,q[m].2.2.2.set i (q[m].2.2.2[i].1,q[m].2.2.2[i].2.1,q[m].2.2.2[i].2.2.1,q[m].2.2.2[i].2.2.2.1,v5))) (by show (q[m].2.2.2.set i _).length<=5;rw [bYh];exact hx5),k5⟩
   simp only [decide_eq_true hp,cond_true,e4,e5,aA,decide_eq_true (show (0:Int)<=(i:Int) by omega),decide_eq_true (show (i:Int)<(q[m].2.2.2.length:Int) by omega),bWu,bWk hi,aV,bH,bA,aZ,bC]
  ·exact ⟨q,c3,p3,h3,by simp only [decide_eq_false hp,cond_false,aA],hq.e,k3⟩


structure bIz (p:den tPk):Prop where
 path:aEd p.2.2.2.1
 len:p.2.2.2.2.2.2.2.2.2.length<=1000
 bytes:fN p

theorem aLg (p:den tPk):tot tPk p=tot tPt p.2.2.2.1+p.2.2.2.2.2.2.2.2.2.length:=by
 have e:tot tPk p=tot tPt p.2.2.2.1+tot (.sl tb) p.2.2.2.2.2.2.2.2.2:=by simp [qW,tL]
 rw [e,jG (t:=tb) rfl]

theorem bJ7 {p:den tPk} (h:bIz p):tot tPk p<=1100:=by
 have h1:=bGo h.path
 have h2:=h.len
 rw [aLg]
 omega

theorem bGz {code:List Int} (hl:code.length<=1048576) {c:List Int} {p h:Int} (hc:Cur code (c,p,h)): ∃ (as:List (den tAS)) (ls:List (den tLk)) (k:den tPk) (c':List Int) (p' h':Int),yS (c,p,h)=some (as,ls,k.1,k.2.1,k.2.2.1,k.2.2.2.1,k.2.2.2.2.1,k.2.2.2.2.2.1,k.2.2.2.2.2.2.1,k.2.2.2.2.2.2.2.1,k.2.2.2.2.2.2.2.2.1,k.2.2.2.2.2.2.2.2.2,c',p',h')∧bIz k∧Cur code (c',p',h'):=by
 obtain ⟨as,ls,k,c1,p1,h1,e1,hk,k1⟩:=bOo hl hc
 obtain ⟨v2,c2,p2,h2,e2,r2,k2⟩:=aX hl (n:=14) (by decide) (by decide) k1
 have hkp:bIz k:=⟨hk.path.e,hk.len,hk.bytes⟩
 unfold yS pj3 pj4 aT bK bO zz4 zz5 zz6 zz7 zz8 zz9
 simp only [e1,e2,aA,aV,bH,bA,aZ,bC]
 cases v2==(0:Int) with
 | true=>
  obtain ⟨v3,c3,p3,h3,e3,_,k3⟩:=aX hl (n:=4) (by decide) (by decide) k2
  exact ⟨as,ls,(k.1,k.2.1,k.2.2.1,k.2.2.2.1,wr (v3 - 1),k.2.2.2.2.2.1,k.2.2.2.2.2.2.1,k.2.2.2.2.2.2.2.1,k.2.2.2.2.2.2.2.2.1,k.2.2.2.2.2.2.2.2.2),c3,p3,h3,by simp only [cond_true,e3,aA],⟨hkp.path,hkp.len,hkp.bytes⟩,k3⟩
 | false=>
 cases v2==(1:Int) with
 | true=>
  obtain ⟨v3,c3,p3,h3,e3,_,k3⟩:=aX hl (n:=4) (by decide) (by decide) k2
  exact ⟨as,ls,(k.1,k.2.1,k.2.2.1,k.2.2.2.1,k.2.2.2.2.1,wr (v3 - 1),k.2.2.2.2.2.2.1,k.2.2.2.2.2.2.2.1,k.2.2.2.2.2.2.2.2.1,k.2.2.2.2.2.2.2.2.2),c3,p3,h3,by simp only [cond_true,cond_false,e3,aA],⟨hkp.path,hkp.len,hkp.bytes⟩,k3⟩
 | false=>
 cases v2==(2:Int) with
 | true=>
  obtain ⟨v3,c3,p3,h3,e3,k3⟩:=aI3 hl k2
  exact ⟨as,ls,(k.1,k.2.1,k.2.2.1,k.2.2.2.1,k.2.2.2.2.1,k.2.2.2.2.2.1,v3,k.2.2.2.2.2.2.2.1,k.2.2.2.2.2.2.2.2.1,k.2.2.2.2.2.2.2.2.2),c3,p3,h3,by simp only [cond_true,cond_false,e3,aA],⟨hkp.path,hkp.len,hkp.bytes⟩,k3⟩
 | false=>
 cases v2==(3:Int) with
 | true=>
  obtain ⟨v3,c3,p3,h3,e3,_,k3⟩:=aX hl (n:=9) (by decide) (by decide) k2
  exact ⟨as,ls,(k.1,k.2.1,v3,k.2.2.2.1,k.2.2.2.2.1,k.2.2.2.2.2.1,k.2.2.2.2.2.2.1,k.2.2.2.2.2.2.2.1,k.2.2.2.2.2.2.2.2.1,k.2.2.2.2.2.2.2.2.2),c3,p3,h3,by simp only [cond_true,cond_false,e3,aA],⟨hkp.path,hkp.len,hkp.bytes⟩,k3⟩
 | false=>
 cases v2==(4:Int) with
 | true=>
  obtain ⟨v3,c3,p3,h3,e3,_,k3⟩:=aEy hl (l:=[(-1:Int),(100000:Int),(100001:Int)]) (by decide) (by decide) k2
  exact ⟨as,ls,(k.1,k.2.1,k.2.2.1,k.2.2.2.1,k.2.2.2.2.1,k.2.2.2.2.2.1,k.2.2.2.2.2.2.1,k.2.2.2.2.2.2.2.1,v3,k.2.2.2.2.2.2.2.2.2),c3,p3,h3,by simp only [cond_true,cond_false,e3,aA],⟨hkp.path,hkp.len,hkp.bytes⟩,k3⟩
 | false=>
 cases v2==(5:Int) with
 | true=>
  obtain ⟨q3,c3,p3,h3,e3,hq,k3⟩:=bGj hl k2
  exact ⟨as,ls,(k.1,k.2.1,k.2.2.1,q3,k.2.2.2.2.1,k.2.2.2.2.2.1,k.2.2.2.2.2.2.1,k.2.2.2.2.2.2.2.1,k.2.2.2.2.2.2.2.2.1,k.2.2.2.2.2.2.2.2.2),c3,p3,h3,by simp only [cond_true,cond_false,e3,aA],⟨hq,hkp.len,hkp.bytes⟩,k3⟩
 | false=>
 cases v2==(6:Int) with
 | true=>
  obtain ⟨v3,c3,p3,h3,e3,_,k3⟩:=aX hl (n:=6) (by decide) (by decide) k2
  exact ⟨as,ls,(wr (v3 - 1),k.2.1,k.2.2.1,k.2.2.2.1,k.2.2.2.2.1,k.2.2.2.2.2.1,k.2.2.2.2.2.2.1,k.2.2.2.2.2.2.2.1,k.2.2.2.2.2.2.2.2.1,k.2.2.2.2.2.2.2.2.2),c3,p3,h3,by simp only [cond_true,cond_false,e3,aA],⟨hkp.path,hkp.len,hkp.bytes⟩,k3⟩
 | false=>exact ⟨as,ls,k,c2,p2,h2,by simp only [cond_false,aA],hkp,k2⟩


structure EvD (w:den tNw) (e:den cL):Prop where
 lo:(1:Int)<=e.1
 hi:(8:Int)>=e.1
 data:e.2.2.1.length<=3∧sR e.2.2.1
 pk:tot tPk e.2.2.2.2.2<=1100∧fN e.2.2.2.2.2
 harm:harm w e=true


structure bHd (w:den tNw):Prop where
 tot:tot tNw w<=536870912
 as:1<=(nT w).1.length∧(nT w).1.length<=8
 links:(nT w).2.length<=100
 flyN:(aN w).length<=150
 fly: ∀ x∈aN w,Go.V.tot tPk x.2.2<=1100
 bytes: ∀ x∈aN w,fN x.2.2
 flows:(aC w).length<=4

theorem aPf {w:den tNw} {e:den cL} (h:(e.1==(7:Int))=false):harm w e=true:=by
 unfold harm
 rw [h];rfl

theorem bDp {w:den tNw} {to ing:Int} {pk:den tPk}:harm w ((7:Int),(0:Int),[],(to,ing,((3:Int),pk.2)))=true:=by
 unfold harm sW
 rw [show (((3:Int),pk.2):den tPk).1=3 from rfl,show ((3:Int)==3)=true from rfl,bYk,bYk]
 rfl

def fgR (w:den tNw) (e:den cL) (c:List Int) (p h:Int):Int×Int×Int×Int×Int×Int×Int×(List (den tPp))×Int×Int×Int×Int×Int×(List Int)×(List Int)×(List Int)×Int×Int×(List (den tFy))×(List (den tFl))×(List (den tIb)):=
 (e.1,e.2.1,e.2.2.2.1,e.2.2.2.2.1,e.2.2.2.2.2.1,e.2.2.2.2.2.2.1,e.2.2.2.2.2.2.2.1,e.2.2.2.2.2.2.2.2.1,e.2.2.2.2.2.2.2.2.2.1,e.2.2.2.2.2.2.2.2.2.2.1,e.2.2.2.2.2.2.2.2.2.2.2.1,e.2.2.2.2.2.2.2.2.2.2.2.2.1,e.2.2.2.2.2.2.2.2.2.2.2.2.2.1,e.2.2.2.2.2.2.2.2.2.2.2.2.2.2,e.2.2.1,c,p,h,aN w,aC w,bL w)

def nxR (w:den tNw) (e:den cL) (c:List Int) (p h:Int):Int×Int×Int×Int×Int×Int×Int×(List (den tPp))×Int×Int×Int×Int×Int×(List Int)×(List Int)×(List Int)×Int×Int×(List (den tFy))×(List (den tFl))×(List (den tIb)):=
 (e.1,e.2.1,e.2.2.2.1,e.2.2.2.2.1,e.2.2.2.2.2.1,e.2.2.2.2.2.2.1,e.2.2.2.2.2.2.2.1,e.2.2.2.2.2.2.2.2.1,e.2.2.2.2.2.2.2.2.2.1,e.2.2.2.2.2.2.2.2.2.2.1,e.2.2.2.2.2.2.2.2.2.2.2.1,e.2.2.2.2.2.2.2.2.2.2.2.2.1,e.2.2.2.2.2.2.2.2.2.2.2.2.2.1,e.2.2.1,e.2.2.2.2.2.2.2.2.2.2.2.2.2.2,c,p,h,aN w,aC w,bL w)

theorem bE5 {code:List Int} (hl:code.length<=1048576) {w:den tNw} (hw:bHd w) {c:List Int} {p h:Int} (hc:Cur code (c,p,h)): ∃ e c' p' h',nI (c,p,h) w=some (fgR w e c' p' h')∧EvD w e∧Cur code (c',p',h'):=by
 obtain ⟨as,ls,k,c1,p1,h1,e1,hk,k1⟩:=bGz hl hc
 have ha:1<=w.1.1.length∧w.1.1.length<=8:=hw.as
 have hfn:=hw.flyN
 obtain ⟨v2,c2,p2,h2,e2,r2,k2⟩:=aX hl (n:=(w.1.1.length:Int)) (by omega) (by omega) k1
 obtain ⟨v3,c3,p3,h3,e3,r3,k3⟩:=aX hl (n:=7) (by decide) (by decide) k2
 have sw:SmB 68719476736 tNw w:=(bE hw.tot).mono (by decide)
 have fin: ∀ (k:den tPk) (c:List Int) (p h:Int),tot tPk k<=1100→fN k→Cur code (c,p,h)→ ∃ e c' p' h',(Option.bind (Option.bind (pG w ((7:Int),(0:Int),[],(v2,v3,(k.1,k.2.1,k.2.2.1,k.2.2.2.1,k.2.2.2.2.1,k.2.2.2.2.2.1,k.2.2.2.2.2.2.1,k.2.2.2.2.2.2.2.1,k.2.2.2.2.2.2.2.2.1,k.2.2.2.2.2.2.2.2.2)))) fun y31=>cond (!y31) (some ((7:Int),(0:Int),v2,v3,(3:Int),k.2.1,k.2.2.1,k.2.2.2.1,k.2.2.2.2.1,k.2.2.2.2.2.1,k.2.2.2.2.2.2.1,k.2.2.2.2.2.2.2.1,k.2.2.2.2.2.2.2.2.1)) (some ((7:Int),(0:Int),v2,v3,k.1,k.2.1,k.2.2.1,k.2.2.2.1,k.2.2.2.2.1,k.2.2.2.2.2.1,k.2.2.2.2.2.2.1,k.2.2.2.2.2.2.2.1,k.2.2.2.2.2.2.2.2.1))) fun s32=>some (s32.1,s32.2.1,s32.2.2.1,s32.2.2.2.1,s32.2.2.2.2.1,s32.2.2.2.2.2.1,s32.2.2.2.2.2.2.1,s32.2.2.2.2.2.2.2.1,s32.2.2.2.2.2.2.2.2.1,s32.2.2.2.2.2.2.2.2.2.1,s32.2.2.2.2.2.2.2.2.2.2.1,s32.2.2.2.2.2.2.2.2.2.2.2.1,s32.2.2.2.2.2.2.2.2.2.2.2.2,k.2.2.2.2.2.2.2.2.2,([]:List Int),c,p,h,w.2.2.2.2.2.1,w.2.2.2.2.2.2.1,w.2.2.2.2.2.2.2.1))=some (fgR w e c' p' h')∧EvD w e∧Cur code (c',p',h'):=by
  intro k c p h ht hb hc
  have se:SmB 68719476736 cL ((7:Int),(0:Int),[],(v2,v3,k)):=⟨trivial,trivial,⟨by simp,fun x hx=>trivial⟩,trivial,trivial,(bE ht).mono (by decide)⟩
  have e9:pG w ((7:Int),(0:Int),[],(v2,v3,(k.1,k.2.1,k.2.2.1,k.2.2.2.1,k.2.2.2.2.1,k.2.2.2.2.2.1,k.2.2.2.2.2.2.1,k.2.2.2.2.2.2.2.1,k.2.2.2.2.2.2.2.2.1,k.2.2.2.2.2.2.2.2.2)))=some (harm w ((7:Int),(0:Int),[],(v2,v3,k))):=bS0 sw se
  rw [e9,aA]
  cases hb':harm w ((7:Int),(0:Int),[],(v2,v3,k)) with
  | true=>exact ⟨((7:Int),(0:Int),[],(v2,v3,k)),c,p,h,rfl,⟨by show (1:Int)<=7;decide,by show (8:Int)>=7;decide,⟨bW4 _,fun x hx=>(bW9 hx).elim⟩,⟨ht,hb⟩,hb'⟩,hc⟩
  | false=>exact ⟨((7:Int),(0:Int),[],(v2,v3,((3:Int),k.2))),c,p,h,rfl,⟨by show (1:Int)<=7;decide,by show (8:Int)>=7;decide,⟨bW4 _,fun x hx=>(bW9 hx).elim⟩,⟨ht,hb⟩,bDp⟩,hc⟩
 unfold nI ixb aI pj3 pj4 eL aT bK bO eH oH tI yA zz4 zz5 zz6 zz7 zz8 zz9
 simp only [e1,e2,e3,aA,aV,bH,bA,aZ,bC]
 have done:=fun c p h hc=>fin k c p h (bJ7 hk) hk.bytes hc
 by_cases hf:(w.2.2.2.2.2.1.length:Int)>0
 ·obtain ⟨v4,c4,p4,h4,e4,k4⟩:=sY hl (n:=2) (by decide) (by decide) k3
  simp only [decide_eq_true hf,cond_true,e4,aA]
  cases v4 with
  | false=>
   simp only [cond_false,aA]
   exact done c4 p4 h4 k4
  | true=>
   have hfn:w.2.2.2.2.2.1.length<=150:=hfn
   obtain ⟨v5,c5,p5,h5,e5,r5,k5⟩:=aX hl (n:=(w.2.2.2.2.2.1.length:Int)) hf (by omega) k4
   obtain ⟨i,rfl⟩:=bXe r5.1
   have hi:i<w.2.2.2.2.2.1.length:=by omega
   have hx:w.2.2.2.2.2.1[i]? =some w.2.2.2.2.2.1[i]:=bWk hi
   have hm:w.2.2.2.2.2.1[i]∈aN w:=bWy hi
   have ht:=hw.fly _ hm
   have hb:=hw.bytes _ hm
   generalize w.2.2.2.2.2.1[i]=x at hx hm ht hb
   have e6:=aCq (p:=x.2.2) (fM (bWl ht (by decide)))
   obtain ⟨v7,c7,p7,h7,e7,k7⟩:=sY hl (n:=2) (by decide) (by decide) k5
   simp only [cond_true,e5,aA,decide_eq_true (show (0:Int)<=(i:Int) by omega),decide_eq_true (show (i:Int)<(w.2.2.2.2.2.1.length:Int) by omega),bWu,hx,aO,e6,e7]
   cases v7 with
   | false=>
    simp only [cond_false,aA]
    exact fin x.2.2 c7 p7 h7 ht hb k7
   | true=>
    obtain ⟨v8,c8,p8,h8,e8,k8⟩:=aI3 hl k7
    simp only [cond_true,e8,aA]
    exact fin (x.2.2.1,x.2.2.2.1,x.2.2.2.2.1,x.2.2.2.2.2.1,x.2.2.2.2.2.2.1,x.2.2.2.2.2.2.2.1,v8,x.2.2.2.2.2.2.2.2.2.1,x.2.2.2.2.2.2.2.2.2.2.1,x.2.2.2.2.2.2.2.2.2.2.2) c8 p8 h8 ht hb k8
 ·simp only [decide_eq_false hf,cond_false,aA]
  exact done c3 p3 h3 k3

theorem bJq {code:List Int} (hl:code.length<=1048576) {w:den tNw} (hw:bHd w) {c:List Int} {p h:Int} (hc:Cur code (c,p,h)): ∃ e c' p' h',rO (c,p,h) w=some (nxR w e c' p' h')∧EvD w e∧Cur code (c',p',h'):=by
 have hlk:w.1.2.length<=100:=hw.links
 have hfl:w.2.2.2.2.2.2.1.length<=4:=hw.flows
 have hfn:w.2.2.2.2.2.1.length<=150:=hw.flyN
 have wl:wr ((w.1.2.length:Int)+1)=((w.1.2.length+1:Nat):Int):=aW (by omega)
 have wf:wr ((w.2.2.2.2.2.2.1.length:Int)+1)=((w.2.2.2.2.2.2.1.length+1:Nat):Int):=aW (by omega)
 have pk0D:tot tPk ((0:Int),(0:Int),(0:Int),[],(0:Int),(0:Int),(0:Int),(0:Int),(0:Int),[])<=1100∧fN ((0:Int),(0:Int),(0:Int),[],(0:Int),(0:Int),(0:Int),(0:Int),(0:Int),[]):=⟨by rw [aLg];exact bW4 _,fun x hx=>(bW9 hx).elim⟩
 have ev: ∀ (kd n:Int) (data:List Int),(1:Int)<=kd→(8:Int)>=kd→(kd==(7:Int))=false→data.length<=3→sR data→EvD w (kd,n,data,((0:Int),(0:Int),((0:Int),(0:Int),(0:Int),[],(0:Int),(0:Int),(0:Int),(0:Int),(0:Int),[]))):=fun kd n data a b d e f=>⟨a,b,⟨e,f⟩,pk0D,aPf d⟩
 have nob:sR []:=fun x hx=>(bW9 hx).elim
 obtain ⟨v1,c1,p1,h1,e1,r1,k1⟩:=aX hl (n:=24) (by decide) (by decide) hc
 obtain ⟨v2,c2,p2,h2,e2,r2,k2⟩:=aX hl (n:=((w.1.2.length+1:Nat):Int)) (by omega) (by omega) k1
 unfold rO pj3 pj6 eL aT bK bO eH oH tI zz4 zz5 zz6 zz7 zz8 zz9
 simp only [e1,aA,wl,wf,e2]
 cases v1==(0:Int) with
 | true=>
  exact ⟨((5:Int),v2,[],((0:Int),(0:Int),((0:Int),(0:Int),(0:Int),[],(0:Int),(0:Int),(0:Int),(0:Int),(0:Int),[]))),c2,p2,h2,rfl,ev 5 v2 [] (by decide) (by decide) rfl (bW4 _) nob,k2⟩
 | false=>
 simp only [cond_false]
 obtain ⟨b3,e3⟩: ∃ b,(cond (v1==(1:Int)) (some (v1==(1:Int))) (some (v1==(2:Int))))=some b:=by cases v1==(1:Int)<;>exact ⟨_,rfl⟩
 rw [e3,aA]
 cases b3 with
 | true=>
  exact ⟨((6:Int),v2,[],((0:Int),(0:Int),((0:Int),(0:Int),(0:Int),[],(0:Int),(0:Int),(0:Int),(0:Int),(0:Int),[]))),c2,p2,h2,rfl,ev 6 v2 [] (by decide) (by decide) rfl (bW4 _) nob,k2⟩
 | false=>
 simp only [cond_false]
 cases v1==(3:Int) with
 | true=>
  obtain ⟨e,c4,p4,h4,e4,d4,k4⟩:=bE5 hl hw k1
  refine ⟨e,c4,p4,h4,?_,d4,k4⟩
  rw [cond_true]
  show Option.bind (nI (c1,p1,h1) w) _=_
  rw [e4]
  rfl
 | false=>
 simp only [cond_false]
 cases v1==(4:Int) with
 | true=>
  obtain ⟨v4,c4,p4,h4,e4,r4,k4⟩:=aX hl (n:=((w.2.2.2.2.2.2.1.length+1:Nat):Int)) (by omega) (by omega) k1
  obtain ⟨v5,c5,p5,h5,e5,r5,k5⟩:=aX hl (n:=3) (by decide) (by decide) k4
  obtain ⟨m5,rfl⟩:=bXe r5.1
  obtain ⟨l6,c6,p6,h6,e6,⟨r6,b6⟩,k6⟩:=aJ6 hl (n:=m5) (by omega) k5
  exact ⟨((8:Int),v4,l6,((0:Int),(0:Int),((0:Int),(0:Int),(0:Int),[],(0:Int),(0:Int),(0:Int),(0:Int),(0:Int),[]))),c6,p6,h6,by simp only [cond_true,e4,e5,e6,aA];rfl,ev 8 v4 l6 (by decide) (by decide) rfl (by omega) b6,k6⟩
 | false=>
 simp only [cond_false]
 have tick: ∀ c p h,Cur code (c,p,h)→ ∃ e c' p' h',(some ((1:Int),(0:Int),(0:Int),(0:Int),(0:Int),(0:Int),(0:Int),[],(0:Int),(0:Int),(0:Int),(0:Int),(0:Int),[],[],c,p,h,w.2.2.2.2.2.1,w.2.2.2.2.2.2.1,w.2.2.2.2.2.2.2.1):Option (Int×Int×Int×Int×Int×Int×Int×(List (den tPp))×Int×Int×Int×Int×Int×(List Int)×(List Int)×(List Int)×Int×Int×(List (den tFy))×(List (den tFl))×(List (den tIb))))=some (nxR w e c' p' h')∧EvD w e∧Cur code (c',p',h'):=fun c p h hc=>
  ⟨((1:Int),(0:Int),[],((0:Int),(0:Int),((0:Int),(0:Int),(0:Int),[],(0:Int),(0:Int),(0:Int),(0:Int),(0:Int),[]))),c,p,h,rfl,ev 1 0 [] (by decide) (by decide) rfl (bW4 _) nob,hc⟩
 by_cases hf:(w.2.2.2.2.2.1.length:Int)>0
 ·obtain ⟨v4,c4,p4,h4,e4,k4⟩:=sY hl (n:=4) (by decide) (by decide) k1
  simp only [decide_eq_true hf,cond_true,e4,aA]
  cases v4 with
  | true=>
   simp only [bWo,cond_false]
   exact tick c4 p4 h4 k4
  | false=>
   simp only [bWw,cond_true]
   obtain ⟨m,em,hm1,hm2⟩: ∃ m:Int,(if (3:Int)<(w.2.2.2.2.2.1.length:Int) then (3:Int) else (w.2.2.2.2.2.1.length:Int))=m∧0<m∧m<=256:=by
    split
    ·exact ⟨_,rfl,by decide,by decide⟩
    ·exact ⟨_,rfl,by omega,by omega⟩
   obtain ⟨v5,c5,p5,h5,e5,r5,k5⟩:=aX hl hm1 hm2 k4
   obtain ⟨v6,c6,p6,h6,e6,r6,k6⟩:=aX hl (n:=12) (by decide) (by decide) k5
   simp only [aTr,em,e5,e6,aA]
   cases v6==(0:Int) with
   | true=>exact ⟨((3:Int),v5,[],((0:Int),(0:Int),((0:Int),(0:Int),(0:Int),[],(0:Int),(0:Int),(0:Int),(0:Int),(0:Int),[]))),c6,p6,h6,rfl,ev 3 v5 [] (by decide) (by decide) rfl (bW4 _) nob,k6⟩
   | false=>
    cases v6==(1:Int) with
    | true=>exact ⟨((4:Int),v5,[],((0:Int),(0:Int),((0:Int),(0:Int),(0:Int),[],(0:Int),(0:Int),(0:Int),(0:Int),(0:Int),[]))),c6,p6,h6,rfl,ev 4 v5 [] (by decide) (by decide) rfl (bW4 _) nob,k6⟩
    | false=>exact ⟨((2:Int),v5,[],((0:Int),(0:Int),((0:Int),(0:Int),(0:Int),[],(0:Int),(0:Int),(0:Int),(0:Int),(0:Int),[]))),c6,p6,h6,rfl,ev 2 v5 [] (by decide) (by decide) rfl (bW4 _) nob,k6⟩
 ·simp only [decide_eq_false hf,cond_false,aA]
  exact tick c1 p1 h1 k1

theorem aX2 {s d now now':Int} (hn:now<=now'): ∀ {l:List (den tRs)},(∀ x∈l,(0:Int)<=x.2.2.2.1∧(20:Int)>=x.2.2.2.1)→rs s d now' l<=rs s d now l
 | [],_=>bYd _
 | x::l,h=>by
  have ih:=aX2 (s:=s) (d:=d) hn (l:=l) fun y hy=>h y (bWz _ hy)
  have hx:=h x (by simp)
  unfold rs
  by_cases c:now'<=x.2.2.2.2
  ·rw [decide_eq_true c,decide_eq_true (show now<=x.2.2.2.2 from Int.le_trans hn c)]
   split<;>omega
  ·rw [decide_eq_false c,Bool.and_false]
   simp only [bWr,if_false]
   split<;>omega

theorem sZ.later {l:List (den tRs)} {cap now now':Int} (h:sZ l cap now) (hn:now<=now'):sZ l cap now':=
 ⟨h.len,h.val,fun x hx=>Int.le_trans (aX2 hn (vD h.val)) (h.rate x hx),h.pw⟩

theorem OkS.tick {g:den tSc} {now now':Int} (h:OkS g now) (hn:now<=now'):OkS (g.1,aDa g.2.1 now',[]) now':=
 ⟨h.lo,h.hi,(h.res.later hn).filter _,fun j x hx=>by simp at hx⟩


structure cH (w w':den tNw):Prop where
 top:nT w'=nT w
 now:aR w'=aR w
 gate:OkS (nG w) (aR w)→OkS (nG w') (aR w')
 fly: ∀ x∈aN w',x∈aN w∨tot tPk x.2.2<=1100
 flyN:(aN w).length<=150→(aN w').length<=150

theorem cH.refl (w:den tNw):cH w w:=⟨rfl,rfl,id,fun x hx=> .inl hx,id⟩

theorem cH.trans {a b c:den tNw} (h:cH a b) (k:cH b c):cH a c:=
 ⟨k.top.trans h.top,k.now.trans h.now,fun hg=>k.gate (h.gate hg),fun x hx=>(k.fly x hx).elim (h.fly x) .inr,fun hl=>k.flyN (h.flyN hl)⟩

theorem cH.drop (w:den tNw):cH w (wT w):=⟨rfl,rfl,id,fun x hx=> .inl hx,id⟩

theorem cH.box (w:den tNw) (i:Nat) (x:den tIb):cH w (sO w i x):=⟨rfl,rfl,id,fun x hx=> .inl hx,id⟩

theorem cH.flows (w:den tNw) (l:List (den tFl)):cH w (cT w l):=⟨rfl,rfl,id,fun x hx=> .inl hx,id⟩

theorem cH.tell (w:den tNw) (r:Int) (p:den tPk):cH w (vR w r p):=cH.flows w _

theorem cH.send {w:den tNw} {r eg:Int} {p:den tPk} (hp:tot tPk p<=1100):cH w (rK w r eg p):=by
 unfold rK
 split
 ·rename_i hc
  rw [bWm,decide_eq_true_eq] at hc
  refine ⟨rfl,rfl,fun hg=>hg.trans _ _ _,fun x hx=> ?_,fun hl=> ?_⟩
  ·rcases bWv.1 (show x∈aN w++_ from hx) with hx | hx
   ·exact .inl hx
   ·have :x=_:=bWt.1 hx
    subst this
    exact .inr hp
  ·show (aN w++_).length<=150
   have :=hc.2
   simp
   omega
 ·exact cH.drop w

theorem aMa {t:den tTo} {now:Int} {dead:List Int} {r inn:Int} {p:den tPk} (h:((cD t now dead r inn p).1==0)=true):tot tPk (cD t now dead r inn p).2.2.1<=1100:=by
 have hv:fD p=true:=aJt (t:=t) (r:=r) (now:=now) (dead:=tD t dead r) (inn:=inn) (by
  have h:((fwd t r now (tD t dead r) inn p).1==0)=true:=h
  rw [eq_of_beq h];rfl)
 unfold cD
 rw [aLp]
 exact bWl (aO5 hv) (by decide)

theorem cH.proc0 (w:den tNw) (r inn:Int) (p:den tPk):cH w (proc0 w r inn p):=by
 unfold Go.Proofs.YtecighmpdcffcaaGreat.proc0
 split
 ·rename_i h;exact cH.send (aMa h)
 ·split
  ·exact cH.tell w _ _
  ·exact cH.drop w

theorem cH.proc (w:den tNw) (r inn:Int) (p:den tPk):cH w (fU w r inn p):=by
 unfold fU
 split
 ·rename_i h;exact cH.send (aMa h)
 ·split
  ·split
   ·unfold aAl
    split
    ·exact cH.refl w
    ·split
     ·exact (cH.box w _ _).trans (cH.proc0 _ _ _ _)
     ·exact cH.box w _ _
   ·exact cH.tell w _ _
  ·split
   ·unfold aC5
    split
    ·exact (cH.proc0 _ _ _ _).trans (cH.drop _)
    ·exact (cH.tell _ _ _).trans (cH.drop _)
   ·exact cH.drop w

theorem cH.stepT (k:Nat) (w:den tNw):cH w (stepT k w):=by
 unfold Go.Proofs.YtecighmpdcffcaaGreat.stepT
 split
 ·split
  ·exact (cH.flows w _).trans (cH.proc _ _ _ _)
  ·exact cH.flows w _
 ·exact cH.refl w

theorem cH.tickL: ∀ (n k:Nat) (w:den tNw),cH w (tickL k n w)
 | 0,_,w=>cH.refl w
 | n+1,k,w=>(cH.stepT k w).trans (cH.tickL n (k+1) _)


structure qV (t:den tTo) (B k:Nat) (w:den tNw):Prop where
 keep:kK B 4 w
 top:nT w=t
 gate:OkS (nG w) (aR w)
 lo:(0:Int)<=aR w
 hi:aR w<=60+(k:Int)
 fly: ∀ x∈aN w,tot tPk x.2.2<=1100
 flyN:(aN w).length<=150

theorem qV.mono {t:den tTo} {B C k j:Nat} {w:den tNw} (h:qV t B k w) (hB:B<=C) (hk:k<=j):qV t C j w:=⟨h.keep.mono hB,h.top,h.gate,h.lo,by have :=h.hi;omega,h.fly,h.flyN⟩

theorem qV.step {t:den tTo} {B C k:Nat} {w w':den tNw} (h:qV t B k w) (s:cH w w') (hk:kK C 4 w'):qV t C k w':=
 ⟨hk,s.top.trans h.top,s.gate h.gate,by rw [s.now];exact h.lo,by rw [s.now];exact h.hi,fun x hx=>(s.fly x hx).elim (h.fly x) id,s.flyN h.flyN⟩

theorem bA8 {t:den tTo} {B k:Nat} {w:den tNw} (h:qV t B k w) (hk:k<=1000):qV t B (k+1) (aF9 w):=by
 have hlo:=h.lo
 have hhi:=h.hi
 have e:wr (aR w+1)=aR w+1:=bF (by omega) (by omega)
 refine ⟨aDw h.keep,h.top,?_,?_,?_,h.fly,h.flyN⟩
 ·show OkS ((nG w).1,aDa (nG w).2.1 (wr (aR w+1)),[]) (wr (aR w+1))
  rw [e]
  exact h.gate.tick (by omega)
 ·show (0:Int)<=wr (aR w+1)
  omega
 ·show wr (aR w+1)<=_
  omega

theorem bDg {t:den tTo} {B k:Nat} {w:den tNw} (h:qV t B k w) (hk:k<=1000):qV t (B+656) (k+1) (tG w):=by
 have hkp:=bA2 h.keep
 unfold tG at hkp ⊢
 split
 ·exact h.mono (by omega) (by omega)
 ·rename_i hn
  rw [if_neg hn] at hkp
  exact (bA8 h hk).step (cH.tickL _ _ _) hkp

theorem aY6 {w:den tNw} {x:den tFy}:tot tNw (rB w (aN w++[x]))=tot tNw w+(1+tot tPk x.2.2):=by
 have h1:=aPe w (aN w++[x])
 rw [sH,aEq] at h1
 have e:tot tFy x=tot tPk x.2.2:=by simp [qW,tL]
 omega

theorem bGi (m:Nat) (dead:List Int) (i:Int) (b:Bool):(qR m dead i b).length<=m:=by
 unfold qR
 exact bWl (bZd ..) (by simp)

theorem aW3 (w:den tNw) (l:List Int):tot tNw (aEm w l)+(aK w).length=tot tNw w+l.length:=by
 have e:tot tNw (aEm w l)=(tot (.sl tAS) (nT w).1+tot (.sl tLk) (nT w).2)+((tot (.sl tSg) (nK w).1+tot (.sl tSg) (nK w).2)+((0+(tot (.sl tRs) (nG w).2.1+tot (.sl tUs) (nG w).2.2))+(0+(tot (.sl ti) l+(tot (.sl tFy) (aN w)+(tot (.sl tFl) (aC w)+(tot (.sl tIb) (bL w)+0))))))):=rfl
 have r: ∀ l:List Int,tot (.sl ti) l=l.length:=fun l=>jG rfl
 rw [e,eM w,r,r]
 omega


theorem aX8 {t:den tTo} {B k:Nat} {w:den tNw} {e:den cL} (h:qV t B k w) (hk:k<=1000) (ht:t.2.length<=100) (he:EvD w e):qV t (B+2000) (k+1) (doW w e).2:=by
 have same:qV t (B+2000) (k+1) w:=h.mono (by omega) (by omega)
 unfold doW
 split
 ·exact (bDg h hk).mono (by omega) (by omega)
 ·split
  ·split
   ·rename_i x hi hx
    have hm:=bWx hx
    have hb:=h.keep.bytes.fly x hm
    have hg:qV t B k (uG w e.2.1.toNat):=h.step ⟨rfl,rfl,id,fun y hy=> ?_,fun hl=> ?_⟩ (aD0 h.keep _)
    ·exact ((hg.step (cH.proc _ _ _ _) (aXi hg.keep hb)).mono (by omega) (by omega))
    ·rcases bWv.1 (show y∈(aN w).take _++(aN w).drop _ from hy) with hy | hy
     ·exact .inl (bX2 hy)
     ·exact .inl (bX7 hy)
    ·show ((aN w).take _++(aN w).drop _).length<=150
     simp only [bXh,bXv,bYq]
     omega
   ·exact same
  ·split
   ·split
    ·have hg:qV t B k (uG w e.2.1.toNat):=h.step ⟨rfl,rfl,id,fun y hy=> ?_,fun hl=> ?_⟩ (aD0 h.keep _)
     ·exact (hg.step (cH.drop _) ⟨hg.keep.tot,hg.keep.flows,⟨hg.keep.bytes.fly,hg.keep.bytes.msg⟩⟩).mono (by omega) (by omega)
     ·rcases bWv.1 (show y∈(aN w).take _++(aN w).drop _ from hy) with hy | hy
      ·exact .inl (bX2 hy)
      ·exact .inl (bX7 hy)
     ·show ((aN w).take _++(aN w).drop _).length<=150
      simp only [bXh,bXv,bYq]
      omega
    ·exact same
   ·split
    ·split
     ·rename_i x hi hx
      have hm:=bWx hx
      rw [bWm] at hi
      have hlt: ¬ (((aN w).length:Int)>=150):=by have :=hi.2;simpa using this
      have ht':=aY6 (w:=w) (x:=x)
      have hx':=h.fly x hm
      have hkp:=h.keep.tot
      refine qV.mono (B:=B+1101) (k:=k) (h.step (w':=rB w (aN w++[x])) ⟨rfl,rfl,id,fun y hy=> ?_,fun hl=> ?_⟩ ⟨by omega,h.keep.flows,⟨fun y hy=> ?_,h.keep.bytes.msg⟩⟩) (by omega) (by omega)
      ·rcases bWv.1 (show y∈aN w++[x] from hy) with hy | hy
       ·exact .inl hy
       ·rw [bWt.1 hy];exact .inl hm
      ·show (aN w++[x]).length<=150
       simp only [bXh,bX4]
       omega
      ·rcases bWv.1 (show y∈aN w++[x] from hy) with hy | hy
       ·exact h.keep.bytes.fly y hy
       ·rw [bWt.1 hy];exact h.keep.bytes.fly x hm
     ·exact same
    ·split
     ·show qV t (B+2000) (k+1) (xG w e.2.1 (e.1==5))
      unfold xG
      split
      ·exact same
      ·have h1:=aW3 w (qR (nT w).2.length (aK w) e.2.1 (e.1==5))
       have h2:=bGi (nT w).2.length (aK w) e.2.1 (e.1==5)
       have h3:(nT w).2.length<=100:=by rw [h.top];exact ht
       have hkp:=h.keep.tot
       exact qV.mono (B:=B+100) (k:=k) (h.step (w':=aEm w (qR (nT w).2.length (aK w) e.2.1 (e.1==5))) ⟨rfl,rfl,id,fun y hy=> .inl hy,id⟩ ⟨by omega,h.keep.flows,⟨h.keep.bytes.fly,h.keep.bytes.msg⟩⟩) (by omega) (by omega)
     ·split
      ·split
       ·rename_i hc
        rw [bWm] at hc
        have hlt: ¬ (((aN w).length:Int)>=150):=by have :=hc.2;simpa using this
        have ht':=aY6 (w:=w) (x:=e.2.2.2)
        have hx':=he.pk.1
        have hkp:=h.keep.tot
        refine qV.mono (B:=B+1101) (k:=k) (h.step (w':=rB w (aN w++[e.2.2.2])) ⟨rfl,rfl,id,fun y hy=> ?_,fun hl=> ?_⟩ ⟨by omega,h.keep.flows,⟨fun y hy=> ?_,h.keep.bytes.msg⟩⟩) (by omega) (by omega)
        ·rcases bWv.1 (show y∈aN w++[e.2.2.2] from hy) with hy | hy
         ·exact .inl hy
         ·rw [bWt.1 hy];exact .inr hx'
        ·show (aN w++[e.2.2.2]).length<=150
         simp only [bXh,bX4]
         omega
        ·rcases bWv.1 (show y∈aN w++[e.2.2.2] from hy) with hy | hy
         ·exact h.keep.bytes.fly y hy
         ·rw [bWt.1 hy];exact he.pk.2
       ·exact same
      ·split
       ·split
        ·rename_i f hi hf
         have hm:=bWx hf
         have h1:=aQa (t:=tFl) (y:=aCg f e.2.2.1) hf
         have h5:=aE6 w ((aC w).set e.2.1.toNat (aCg f e.2.2.1))
         have h6:=eM w
         have hkp:=h.keep.tot
         have h2:tot tFl (aCg f e.2.2.1)<=tot tFl f+4:=by
          unfold aCg
          split
          ·obtain ⟨a,b,c,d,ms,ps,cu,wa,rv⟩:=f
           show tot tFl (a,b,c,d,ms++[e.2.2.1],ps,cu,wa,rv)<=tot tFl (a,b,c,d,ms,ps,cu,wa,rv)+4
           rw [aFa,aFa,sH,aYo]
           have :=he.data.1
           omega
          ·omega
         refine qV.mono (B:=B+4) (k:=k) (h.step (w':=cT w ((aC w).set e.2.1.toNat (aCg f e.2.2.1))) (cH.flows w _) ⟨by omega,by show ((aC w).set _ _).length<=4;rw [bYh];exact h.keep.flows,⟨h.keep.bytes.fly,fun g hg m hmm=> ?_⟩⟩) (by omega) (by omega)
         rcases bZb (show g∈(aC w).set _ _ from hg) with hg | rfl
         ·exact h.keep.bytes.msg g hg m hmm
         ·unfold aCg at hmm
          split at hmm
          ·rcases bWv.1 (show m∈f.2.2.2.2.1++[e.2.2.1] from hmm) with hmm | hmm
           ·exact h.keep.bytes.msg f hm m hmm
           ·rw [bWt.1 hmm];exact he.data.2
          ·exact h.keep.bytes.msg f hm m hmm
        ·exact same
       ·exact same


inductive Ran (v:den tNw):List (den cL)→den tNw→Prop
 | nil:Ran v [] v
 | snoc {l:List (den cL)} {w:den tNw} {e:den cL} (h:Ran v l w) (he:EvD w e):Ran v (l++[e]) (doW w e).2
theorem xJ.gateOk {n:Nat} {v:den tNw} (h:xJ n v):OkS (nG v) (aR v):=by
 have h1:=h.res
 rw [h.now,h.gate]
 exact ⟨by show (1:Int)<=12;decide,by show (20:Int)>=12;decide,h1,fun j x hx=>by simp at hx⟩

theorem xJ.run {v:den tNw} (h:xJ 3 v):qV (nT v) 1000 0 v where
 keep:=⟨h.tot (by decide),bWl h.len (by decide),⟨fun x hx=>(by rw [h.fly] at hx;cases hx),fun f hf m hm=>(h.flows f hf).bytes m hm⟩⟩
 top:=rfl
 gate:=h.gateOk
 lo:=by rw [h.now];decide
 hi:=by rw [h.now];decide
 fly:=fun x hx=>by rw [h.fly] at hx;cases hx
 flyN:=by rw [h.fly];exact bW4 _

theorem Ran.run {v:den tNw} (hv:xJ 3 v) {l:List (den cL)} {w:den tNw} (h:Ran v l w):l.length<=1000→qV (nT v) (1000+2000 * l.length) l.length w:=by
 induction h with
 | nil=>intro _;exact hv.run
 | snoc h he ih=>
  intro hl
  simp only [bXh,bX4] at hl ⊢
  exact (aX8 (ih (by omega)) (by omega) hv.top.links he).mono (by omega) (by omega)

theorem qV.netE {t:den tTo} {B k:Nat} {w:den tNw} (h:qV t B k w) (hB:B<=536870912) (h1:1<=t.1.length) (h8:t.1.length<=8) (hl:t.2.length<=100):bHd w:=
 ⟨bWl h.keep.tot hB,by rw [h.top];exact ⟨h1,h8⟩,by rw [h.top];exact hl,h.flyN,h.fly,h.keep.bytes.fly,h.keep.flows⟩

def bV6 (v:den tNw) (l:List (den cL)) (w:den tNw) (c:List Int) (p h:Int):Int×Int×Int×(List (den cL))×(List (den tAS))×(List (den tLk))×(List (den tSg))×(List (den tSg))×Int×(List (den tRs))×(List (den tUs))×Int×(List Int)×Int×(List (den tAS))×(List (den tLk))×(List (den tSg))×(List (den tSg))×(List (den tRs))×(List (den tUs))×(List Int)×(List (den tFy))×(List (den tFl))×(List (den tIb))×(List (den tFy))×(List (den tFl))×(List (den tIb))×(List Int)×Int×Int:=
 ((nG v).1,aR v,dH v,l,(nT w).1,(nT w).2,(nK w).1,(nK w).2,(nG w).1,(nG w).2.1,(nG w).2.2,aR w,aK w,dH w,(nT v).1,(nT v).2,(nK v).1,(nK v).2,(nG v).2.1,(nG v).2.2,aK v,aN v,aC v,bL v,aN w,aC w,bL w,c,p,h)

abbrev RnS:=Int×(List (den tAS))×(List (den tLk))×(List (den tSg))×(List (den tSg))×Int×(List (den tRs))×(List (den tUs))×Int×(List Int)×Int×(List (den cL))×(List (den tFy))×(List (den tFl))×(List (den tIb))×(List Int)×Int×Int

abbrev RnR:=(List (den tAS))×(List (den tLk))×(List (den tSg))×(List (den tSg))×Int×(List (den tRs))×(List (den tUs))×Int×(List Int)×Int×(List (den cL))×(List (den tFy))×(List (den tFl))×(List (den tIb))×(List Int)×Int×Int

def rnS (n:Nat) (l:List (den cL)) (w:den tNw) (c:List Int) (p h:Int):RnS:=((n:Int),(nT w).1,(nT w).2,(nK w).1,(nK w).2,(nG w).1,(nG w).2.1,(nG w).2.2,aR w,aK w,dH w,l,aN w,aC w,bL w,c,p,h)

def bQ5 (code:List Int) (N:Nat) (o:Option (Int×Int×Int×(List (den cL))×(List (den tAS))×(List (den tLk))×(List (den tSg))×(List (den tSg))×Int×(List (den tRs))×(List (den tUs))×Int×(List Int)×Int×(List (den tAS))×(List (den tLk))×(List (den tSg))×(List (den tSg))×(List (den tRs))×(List (den tUs))×(List Int)×(List (den tFy))×(List (den tFl))×(List (den tIb))×(List (den tFy))×(List (den tFl))×(List (den tIb))×(List Int)×Int×Int)):Prop:=
 ∃ v l w c' p' h',o=some (bV6 v l w c' p' h')∧xJ 3 v∧Ran v l w∧l.length<=N∧Cur code (c',p',h')

theorem bPu {code:List Int} (hl:code.length<=1048576) {most:Nat} (h0:0<most) (h1:most<=200) {c:List Int} {p h:Int} (hc:Cur code (c,p,h)):bQ5 code (3+most) (yJ (c,p,h) (most:Int)):=by
 obtain ⟨v,c1,p1,h1',e1,hv,k1⟩:=bQc hl hc
 obtain ⟨v2,c2,p2,h2,e2,r2,k2⟩:=aX hl (n:=(most:Int)) (by omega) (by omega) k1
 obtain ⟨m2,rfl⟩:=bXe r2.1
 have w2:wr ((3:Int)+(m2:Int))=((m2+3:Nat):Int):=by rw [bF (by omega) (by omega)];omega
 have sw:SmB 68719476736 tNw v:=(bE (hv.tot (by decide))).mono (by decide)
 have e3:qA (((yN v c1 p1 h1').2.2.2.1,(yN v c1 p1 h1').2.2.2.2.1),((yN v c1 p1 h1').2.2.2.2.2.1,(yN v c1 p1 h1').2.2.2.2.2.2.1),((yN v c1 p1 h1').1,(yN v c1 p1 h1').2.2.2.2.2.2.2.1,(yN v c1 p1 h1').2.2.2.2.2.2.2.2.1),(yN v c1 p1 h1').2.1,(yN v c1 p1 h1').2.2.2.2.2.2.2.2.2.1,(yN v c1 p1 h1').2.2.2.2.2.2.2.2.2.2.1,(yN v c1 p1 h1').2.2.2.2.2.2.2.2.2.2.2.1,(yN v c1 p1 h1').2.2.2.2.2.2.2.2.2.2.2.2.1,(yN v c1 p1 h1').2.2.1)=some (aP3 v):=aYc sw
 have e2:aE ((yN v c1 p1 h1').2.2.2.2.2.2.2.2.2.2.2.2.2.1,(yN v c1 p1 h1').2.2.2.2.2.2.2.2.2.2.2.2.2.2.1,(yN v c1 p1 h1').2.2.2.2.2.2.2.2.2.2.2.2.2.2.2) (most:Int)=some ((m2:Int),c2,p2,h2):=e2
 unfold yJ bTr pj3 pj6 aT bK bO eH oH tI yA aB0 aDs aDv aJo zz4 zz5 zz6 zz7 zz8 zz9
 simp only [aV,bH,bA,aZ,bC,e1,aA,e3,e2,w2]
 refine jJ (G:=bQ5 code (3+most)) (fun (n:Nat) (s:RnS)=> ∃ l w c p h,s=rnS n l w c p h∧l.length+n<=3+most∧Ran v l w∧Cur code (c,p,h)) (fun r:RnR=> ∃ n l w c p h,r=(rnS n l w c p h).2∧l.length<=3+most∧Ran v l w∧Cur code (c,p,h)) ?_ (m2+3) (rnS (m2+3) [] v c2 p2 h2) ⟨[],v,c2,p2,h2,rfl,by simp only [bYy];omega,.nil,k2⟩ ?_
 ·rintro n s ⟨l,w,c3,p3,h3,rfl,hn,hr,k3⟩
  cases n with
  | zero=>exact .inl ⟨_,rfl,0,l,w,c3,p3,h3,rfl,by omega,hr,k3⟩
  | succ n=>
   right
   have hrun:=hr.run hv (by omega)
   have hE:=hrun.netE (by omega) hv.top.pos hv.top.len hv.top.links
   obtain ⟨e,c4,p4,h4,e4,he,k4⟩:=bJq hl hE k3
   have e5:=bWa (w:=w) (e:=e) (by decide) hrun.keep (by omega) (by
     have h8:=he.hi
     have h9: ¬ (e.1=(9:Int)):=fun h=>by rw [h] at h8;exact absurd h8 (by decide)
     exact beq_eq_false_iff_ne.2 h9) ⟨by have :=he.data.1;omega,fun x hx=>trivial⟩ (bWl he.pk.1 (by decide))
   have wn:wr (((n+1:Nat):Int) - 1)=(n:Int):=by rw [bF (by omega) (by omega)];omega
   refine ⟨n,rnS n (l++[e]) (doW w e).2 c4 p4 h4,by omega,?_,l++[e],(doW w e).2,c4,p4,h4,rfl,by simp only [bXh,bX4];omega,hr.snoc he,k4⟩
   obtain ⟨⟨as,ls⟩,⟨dn,co⟩,⟨cap,res,us⟩,now,dead,fly,flows,box,drop⟩:=w
   obtain ⟨kd,en,data,to,ing,k1,k2,k3,k4,k5,k6,k7,k8,k9,k10⟩:=e
   show cond (decide (((n+1:Nat):Int)>(0:Int))) _ _=_
   rw [decide_eq_true (show ((n+1:Nat):Int)>0 by omega),cond_true]
   simp only [rnS,nT,nK,nG,aR,aK,aN,aC,bL,dH,cond_true,e4,aA,nxR,aD (b:=168) (n:=l.length) (m:=1) (by decide) (by omega),e5,bT,wn]
 ·rintro r ⟨n,l,w,c3,p3,h3,rfl,hn,hr,k3⟩
  exact ⟨v,l,w,c3,p3,h3,rfl,hv,hr,hn,k3⟩

theorem bIt {code:List Int} (hl:code.length<=1048576) {m:Nat} (hm:3<=m∧m<=1000): ∃ n:Nat,xE code (m:Int)=some (n:Int)∧n<=m:=by
 unfold xE
 have e:Int.tdiv (code.length:Int) 12=((code.length / 12:Nat):Int):=rfl
 have w:wr ((code.length:Int).tdiv 12)=((code.length / 12:Nat):Int):=by rw [e,bF (by omega) (by omega)]
 have w2:wr ((3:Int)+((code.length / 12:Nat):Int))=((3+code.length / 12:Nat):Int):=by rw [bF (by omega) (by omega)];omega
 simp only [w,w2]
 by_cases h:((3+code.length / 12:Nat):Int)>(m:Int)
 ·rw [decide_eq_true h]
  exact ⟨m,rfl,bW3 _⟩
 ·rw [decide_eq_false h]
  exact ⟨3+code.length / 12,rfl,by omega⟩

def bSo (w:den tNw):(List (den tAS))×(List (den tLk))×(List (den tSg))×(List (den tSg))×Int×(List (den tRs))×(List (den tUs))×Int×(List Int)×Int×(List (den tFy))×(List (den tFl))×(List (den tIb)):=
 ((nT w).1,(nT w).2,(nK w).1,(nK w).2,(nG w).1,(nG w).2.1,(nG w).2.2,aR w,aK w,dH w,aN w,aC w,bL w)

theorem bF6 {code:List Int} (hl:code.length<=1048576) {most:Nat} (h0:0<most) (h1:most<=200) {c:List Int} {p h:Int} (hc:Cur code (c,p,h)): ∃ v l w c' p' h',uH (c,p,h) (most:Int)=some ((nT w).1,(nT w).2,(nK w).1,(nK w).2,(nG w).1,(nG w).2.1,(nG w).2.2,aR w,aK w,dH w,aN w,aC w,bL w,c',p',h')∧xJ 3 v∧Ran v l w∧l.length<=3+most∧Cur code (c',p',h'):=by
 obtain ⟨v,l,w,c1,p1,h1,e1,hv,hr,hn,k1⟩:=bPu hl h0 h1 hc
 exact ⟨v,l,w,c1,p1,h1,by unfold uH pj3 pj6 aT bK bO eH aKq zz4 zz5 zz6 zz7 zz8 zz9;rw [e1];rfl,hv,hr,hn,k1⟩

theorem bAy {code:List Int} (hl:code.length<=1048576): ∃ v l w,oB code=some (bSo w)∧xJ 3 v∧Ran v l w∧l.length<=93:=by
 obtain ⟨c0,p0,h0,e0,k0⟩:=bPz hl
 obtain ⟨n,en,hn⟩:=bIt hl (m:=60) (by decide)
 have w1:wr ((30:Int)+(n:Int))=((30+n:Nat):Int):=by rw [bF (by omega) (by omega)];omega
 obtain ⟨v,l,w,c1,p1,h1,e1,hv,hr,hn',k1⟩:=bF6 hl (most:=30+n) (by omega) (by omega) k0
 refine ⟨v,l,w,?_,hv,hr,by omega⟩
 have en:xE code 60=some (n:Int):=en
 unfold oB pj3 aT bK bO zz4 zz5 zz6 zz7 zz8 zz9
 simp only [e0,en,aA,w1,e1]
 rfl

def hdS (l:List (den cR)):Option Int:=l.head?.map fun x=>(x.1:Int)

def ltS (l:List (den cR)):Option Int:=l.getLast?.map fun x=>(x.1:Int)

theorem aH6 (l:List (den cR)) (x:den cR):ltS (l++[x])=some x.1:=by unfold ltS;rw [bY6];rfl

theorem aMs (l:List (den cR)) (x:den cR):hdS (l++[x])=if l=[] then some x.1 else hdS l:=by
 cases l with
 | nil=>rfl
 | cons y l=>rfl

theorem bP4 (nf:Bool) (p:den tPp) (i:Nat) (h:den aL) (out:List (den cR)):ltS (xY nf p i h out)=some h.1∧hdS (xY nf p i h out)=if out=[] then some h.1 else hdS out:=by
 unfold xY
 rcases lW out with rfl | ⟨m,z,rfl⟩
 ·exact ⟨rfl,rfl⟩
 ·rw [bY6]
  simp only
  split
  ·rename_i hc
   simp only [bWm,beq_iff_eq] at hc
   rw [bZv]
   refine ⟨aH6 _ _,?_⟩
   have hne:m++[z]≠[]:=by simp
   rw [if_neg hne,aMs,aMs]
   by_cases hm:m=[]
   ·rw [if_pos hm,if_pos hm];exact congrArg some hc.2.2.symm
   ·rw [if_neg hm,if_neg hm]
  ·exact ⟨aH6 _ _,by rw [aMs]⟩

theorem aQc (nf:Bool) (p:den tPp): ∀ (l:List (den aL)) (k:Nat) (a:List (den cR)),ltS (cG (fun i h b=>xY nf p i h b) k l a)=(if l=[] then ltS a else fP l)∧hdS (cG (fun i h b=>xY nf p i h b) k l a)=(if a=[] then oI l else hdS a)
 | [],k,a=>by
  refine ⟨rfl,?_⟩
  show hdS a=_
  split
  ·rename_i h;rw [h];rfl
  ·rfl
 | x::l,k,a=>by
  obtain ⟨h1,h2⟩:=aQc nf p l (k+1) (xY nf p k x a)
  obtain ⟨g1,g2⟩:=bP4 nf p k x a
  have hne:xY nf p k x a≠[]:=fun e=>by rw [e] at g1;cases g1
  rw [if_neg hne,g2] at h2
  refine ⟨?_,?_⟩
  ·show ltS (cG _ (k+1) l (xY nf p k x a))=_
   cases l with
   | nil=>
    show ltS (xY nf p k x a)=_
    rw [if_neg (List.cons_ne_nil _ _),g1];rfl
   | cons y l=>
    rw [h1,if_neg (List.cons_ne_nil _ _),if_neg (List.cons_ne_nil _ _)]
    unfold fP
    rw [List.getLast?_cons_cons]
  ·show hdS (cG _ (k+1) l (xY nf p k x a))=_
   rw [h2];rfl

theorem aWe: ∀ (p:List (den tPp)) (k:Nat) (a:List (den cR)),a≠[]→hdS (cG (fun k x a=>qT (decide (0<k)) x a) k p a)=hdS a∧(∀ b,aCl p=some b→ltS (cG (fun k x a=>qT (decide (0<k)) x a) k p a)=some b)
 | [],k,a,_=>⟨rfl,fun b h=>by cases h⟩
 | x::p,k,a,ha=>by
  obtain ⟨g1,g2⟩:=aQc (decide (0<k)) x x.2.2.2 0 a
  rw [if_neg ha] at g2
  have hne:qT (decide (0<k)) x a≠[]:=fun e=>by
   have g2:hdS (qT (decide (0<k)) x a)=hdS a:=g2
   rw [e] at g2
   cases a with
   | nil=>exact ha rfl
   | cons y l=>cases g2
  obtain ⟨h1,h2⟩:=aWe p (k+1) (qT (decide (0<k)) x a) hne
  refine ⟨h1.trans g2,fun b hb=> ?_⟩
  cases p with
  | nil=>
   have hb:fP x.2.2.2=some b:=hb
   show ltS (qT (decide (0<k)) x a)=some b
   have g1:ltS (qT (decide (0<k)) x a)=_:=g1
   rw [g1,if_neg (fun e=>by rw [e] at hb;cases hb),hb]
  | cons y p=>
   have hb:aCl (y::p)=some b:=by
    unfold aCl at hb ⊢
    rwa [List.getLast?_cons_cons] at hb
   exact h2 b hb

theorem aYi (l:List (den cR)):hdS (aGy l)=hdS l∧ltS (aGy l)=ltS l:=by
 unfold aGy
 cases l with
 | nil=>exact ⟨rfl,rfl⟩
 | cons x xs=>
  simp only
  rcases lW xs with rfl | ⟨m,z,rfl⟩
  ·exact ⟨rfl,rfl⟩
  ·have e:((x.1,(0:Int),x.2.2)::(m++[z]):List (den cR))=((x.1,(0:Int),x.2.2)::m)++[z]:=rfl
   rw [e,bY6]
   simp only
   rw [bZv,aH6]
   refine ⟨rfl,?_⟩
   rw [show (x::(m++[z]):List (den cR))=(x::m)++[z] from rfl,aH6]


theorem aYv {p:List (den tPp)} {a b:Int} (ha:aJj p=some a) (hb:aCl p=some b):ends p=(a,b):=by
 cases p with
 | nil=>cases ha
 | cons x p=>
  have ha:oI x.2.2.2=some a:=ha
  obtain ⟨g1,g2⟩:=aQc false x x.2.2.2 0 []
  have g1:ltS (qT false x [])=_:=g1
  have g2:hdS (qT false x [])=oI x.2.2.2:=g2
  have hne:qT false x []≠[]:=fun e=>by rw [e] at g2;rw [← g2] at ha;cases ha
  obtain ⟨h1,h2⟩:=aWe p 1 (qT false x []) hne
  have e0:aAd (x::p)=cG (fun k x a=>qT (decide (0<k)) x a) 1 p (qT false x []):=rfl
  have f1:hdS (gK (x::p))=some a:=by
   unfold gK
   rw [(aYi _).1,e0,h1,g2,ha]
  have f2:ltS (gK (x::p))=some b:=by
   unfold gK
   rw [(aYi _).2,e0]
   cases p with
   | nil=>
    have hb:fP x.2.2.2=some b:=hb
    show ltS (qT false x [])=some b
    rw [g1,if_neg (fun e=>by rw [e] at hb;cases hb),hb]
   | cons y p=>
    have hb:aCl (y::p)=some b:=by
     unfold aCl at hb ⊢
     rwa [List.getLast?_cons_cons] at hb
    exact h2 b hb
  unfold ends
  unfold hdS at f1
  unfold ltS at f2
  obtain ⟨u,hu,eu⟩:=bXf.1 f1
  obtain ⟨v,hv,ev⟩:=bXf.1 f2
  rw [hu,hv]
  simp only
  rw [eu,ev]

theorem aR9 (x:den tPp):oI (xA x).2.2.2=fP x.2.2.2∧fP (xA x).2.2.2=oI x.2.2.2:=by
 unfold xA oI fP
 simp only [List.head?_reverse,List.getLast?_reverse,and_self]

theorem aSd (p:List (den tPp)):aJj (aBq p)=aCl p∧aCl (aBq p)=aJj p:=by
 unfold aBq aJj aCl
 rw [List.head?_map,List.getLast?_map,List.head?_reverse,List.getLast?_reverse]
 constructor
 ·cases p.getLast? with
  | none=>rfl
  | some x=>exact (aR9 x).1
 ·cases p.head? with
  | none=>rfl
  | some x=>exact (aR9 x).2

theorem aQp {α:Type} (p:α→α→Bool) (hp: ∀ x y,p x y=true→x=y): ∀ {a b:List α},a.length=b.length→aG4 p a b=true→a=b
 | [],[],_,_=>rfl
 | [],_::_,h,_=>by simp at h
 | _::_,[],h,_=>by simp at h
 | x::a,y::b,h,e=>by
  simp only [aG4,bWm] at e
  rw [hp x y e.1,aQp p hp (by simpa using h) e.2]

theorem aYn (b:Bool):cond b true false=b:=by cases b<;>rfl

theorem bKj {a b:List (den aL)} (h:aN2 a b=true):a=b:=by
 unfold aN2 at h
 by_cases hl:a.length=b.length
 ·rw [decide_eq_true hl,bWo,cond_false,aYn] at h
  refine aQp _ (fun x y e=> ?_) hl h
  simp only [bWm,beq_iff_eq,and_true] at e
  obtain ⟨e1,e2,e3,e4,e5⟩:=e
  obtain ⟨x1,x2,x3,x4,x5⟩:=x
  obtain ⟨y1,y2,y3,y4,y5⟩:=y
  simp only at e1 e2 e3 e4 e5
  rw [e1,e2,e3,e4,e5]
 ·rw [decide_eq_false hl] at h;cases h

theorem aUi {a b:Bool}:cond a b false=true↔a=true∧b=true:=by cases a<;>cases b<;>simp

theorem bEv {a b:den tPp} (h:aDe a b=true):a=b:=by
 unfold aDe at h
 simp only [aUi,beq_iff_eq] at h
 obtain ⟨e1,e2,e3,e4⟩:=h
 have e4:=bKj e4
 obtain ⟨x1,x2,x3,x4⟩:=a
 obtain ⟨y1,y2,y3,y4⟩:=b
 simp only at e1 e2 e3 e4
 rw [e1,e2,e3,e4]

theorem bJl {a b:List (den tPp)} (h:aNz a b=true):a=b:=by
 unfold aNz at h
 by_cases hl:a.length=b.length
 ·rw [decide_eq_true hl,bWo,cond_false,aYn] at h
  exact aQp _ (fun x y e=>bEv e) hl h
 ·rw [decide_eq_false hl] at h;cases h

theorem bHu {a b:den tPk} (ha:fN a) (hb:fN b) (h:aAi a b=true):a=b:=by
 unfold aAi at h
 simp only [aUi,beq_iff_eq] at h
 obtain ⟨e1,e2,e3,e4,e5,e6,e7,e8,e9,e10⟩:=h
 have e4:=bJl e4
 have e10:=(bGn ha hb).1 e10
 obtain ⟨x1,x2,x3,x4,x5,x6,x7,x8,x9,x10⟩:=a
 obtain ⟨y1,y2,y3,y4,y5,y6,y7,y8,y9,y10⟩:=b
 simp only at e1 e2 e3 e4 e5 e6 e7 e8 e9 e10
 rw [e1,e2,e3,e4,e5,e6,e7,e8,e9,e10]

theorem eqI {a b:Int} (h:a=b):a=b:=h

theorem ltI {a b:Int} (h:a<b):a<b:=h

theorem leI {a b:Int} (h:a<=b):a<=b:=h


structure yE (t:den tTo) (f:den tFl) (x:den tIb):Prop where
 val:gN f=true
 src:cK t f.1=true
 dst:cK t f.2.1=true
 xAS:x.1=f.2.1
 xFrom:x.2.1=f.1
 next:x.2.2.1=(x.2.2.2.length:Int)
 recv:x.2.2.2=f.2.2.2.2.1.take x.2.2.2.length
 len:x.2.2.2.length<=f.2.2.2.2.1.length
 ack:f.2.2.2.1<=(x.2.2.2.length:Int)
 paths: ∀ p∈f.2.2.2.2.2.1,aJj p=some f.1∧aCl p=some f.2.1


def rH (w:den tNw) (p:den tPk):Prop:= ∀ (k:Nat) (f:den tFl) (x:den tIb),(aC w)[k]? =some f→(bL w)[k]? =some x→
 (p.1=(1:Int)→p.2.1=f.1→p.2.2.1=f.2.1→aJj p.2.2.2.1=some f.1∧aCl p.2.2.2.1=some f.2.1∧ ∃ s:Nat,p.2.2.2.2.2.2.2.2.1=(s:Int)∧f.2.2.2.2.1[s]? =some p.2.2.2.2.2.2.2.2.2)∧
 (p.1=(2:Int)→p.2.1=f.2.1→p.2.2.1=f.1→p.2.2.2.2.2.2.2.2.1<x.2.2.1)

def bKg (w:den tNw) (p:den tPk):Prop:=fD p=true→rH w p

structure eO (t:den tTo) (w:den tNw):Prop where
 top:nT w=t
 lenB:(bL w).length=(aC w).length
 flow: ∀ (k:Nat) (f:den tFl) (x:den tIb),(aC w)[k]? =some f→(bL w)[k]? =some x→yE t f x
 uniq:(aC w).Pairwise fun f g=>sX g f=false
 good: ∀ y∈aN w,bKg w y.2.2
 to: ∀ y∈aN w,cK t y.1=true


structure aM4 (w w':den tNw):Prop where
 flow: ∀ (k:Nat) (f':den tFl),(aC w')[k]? =some f'→ ∃ f,(aC w)[k]? =some f∧f'.1=f.1∧f'.2.1=f.2.1∧ ∀ (s:Nat) (m:List Int),f.2.2.2.2.1[s]? =some m→f'.2.2.2.2.1[s]? =some m
 box: ∀ (k:Nat) (x':den tIb),(bL w')[k]? =some x'→ ∃ x,(bL w)[k]? =some x∧x.2.2.1<=x'.2.2.1

theorem aM4.refl (w:den tNw):aM4 w w:=⟨fun k f h=>⟨f,h,rfl,rfl,fun _ _ h=>h⟩,fun k x h=>⟨x,h,bYd _⟩⟩

end Go.Proofs.YtecighmpdcffcaaGreat
