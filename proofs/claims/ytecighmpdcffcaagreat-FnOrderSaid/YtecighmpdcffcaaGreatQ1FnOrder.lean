/-
  Facts and plain laws: what the functions compute, in plain words. Conditions: as each says.
-/
import Derived.Test.YtecighmpdcffcaaGreatQ0FnOrder
open Int renaming toNat_natCast→bW4,eq_ofNat_of_zero_le→bXq,le_refl→bX3,lt_irrefl→bXh
open Bool renaming and_eq_true→bWw,not_eq_true'→bXx,or_eq_true→bYa,false_eq_true→bW2,not_true→bWx,or_self→bYm,not_false→bW7,or_true→bYt
open Nat renaming le_refl→bXb,le_trans→bWv,succ_mul→bXu,mul_le_mul_right→bX9,zero_add→bXv,le_of_ble_eq_true→bZv,zero_le→bXf
open List renaming length_cons→bXy,length→bW9,mem_append→bW5,mem_singleton→bW3,mem_map→bW0,mem_of_getElem?→bW6,length_set→bYl,mem_or_eq_of_mem_set→bZm,length_filter_le→bZp,getElem?_eq_getElem→bWu,getElem_mem→bXa,getElem?_cons_zero→bZo,mem_cons→bWz,map_cons→bXg,pairwise_iff_getElem→bYp,getElem?_eq_some_iff→bW1,mem_cons_of_mem→bW8,filter_cons→bZw,mem_iff_getElem?→bZ7,mem_filter→bXc,length_append→bXp,length_singleton→bYg,pairwise_append→bZ8,getElem?_set_self→bY7,getElem?_map→bY2,getElem?_set_ne→bZn,getElem?_append_left→bZz,mem_of_mem_take→bYe,mem_of_mem_drop→bYi,not_mem_nil→bXi,take_append_drop→bYj,getElem?_set→bY5,all_eq_true→bXk,getElem?_take→bX8,length_take→bX6,length_drop→bYx,append_nil→bX1,drop_eq_getElem_cons→bZ4,length_map→bXz,length_nil→bY6,map_append→bZl,getLast?_concat→bZg,dropLast_concat→bZ6
open Option renaming getD_some→bXs,map_eq_some_iff→bXn
open Sum renaming inl→bWt,inr→bWs,elim_inl→bX4
open Array renaming length_toList→bZk
set_option linter.unusedVariables false
set_option linter.unusedSimpArgs false
set_option maxRecDepth 100000
namespace Go.Proofs.YtecighmpdcffcaaGreat
open Go.Ab Go.V
theorem bEu (w:den tNw) (r:Int) (p:den tPk):tot tNw (xS w r p)<=tot tNw w+(3+2 * tot tPk p+(aB w).length):=by
 unfold xS
 split
 ·omega
 ·rcases aFv (aU w) r p.2.1 with hf | ⟨k,x,hf,hx⟩
  ·rename_i hc;rw [hf] at hc;exact absurd (by decide) hc
  ·have hba:vT w k=x:=by unfold vT;rw [hx];rfl
   rw [hf,bW4,hba]
   have h1:=aR4 (t:=tIb) (y:=dE x p) hx
   have h2:=bE6 x p
   have h3:tot tNw (pB w k (dE x p))<=tot tNw w+(1+tot tPk p):=by
    rw [bB4,fA w]
    omega
   split
   ·have h4:=aR7 (pB w k (dE x p)) r 0 (nB (dE x p) p)
    have h5:=aS0 (dE x p) p
    have h6:(aB (pB w k (dE x p))).length=(aB w).length:=rfl
    omega
   ·omega

theorem bFa (w:den tNw) (r d:Int) (p:den tPk):tot tNw (aB8 w r d p)<=tot tNw w+(20+tot tPk p+(aB w).length):=by
 unfold aB8
 rw [aDu]
 split
 ·have h1:=aR7 w r 0 (cB r (aN w) d p)
  have h2:=aR9 r (aN w) d p
  omega
 ·have :=aKl w r (cB r (aN w) d p)
  omega

theorem bEq (w:den tNw) (r inn:Int) (p:den tPk):tot tNw (fC w r inn p)<=tot tNw w+(20+2 * tot tPk p+(aB w).length):=by
 have e:tot tPk (bS (nT w) (aN w) (aJ w) r inn p).2.2.1=tot tPk p:=aL3 _ _ _ _ _ _
 unfold fC
 split
 ·have :=aS9 w r (bS (nT w) (aN w) (aJ w) r inn p).2.1 (bS (nT w) (aN w) (aJ w) r inn p).2.2.1
  omega
 ·split
  ·split
   ·have :=bEu w r (bS (nT w) (aN w) (aJ w) r inn p).2.2.1
    omega
   ·have :=aKl w r (bS (nT w) (aN w) (aJ w) r inn p).2.2.1
    omega
  ·split
   ·have :=bFa w r (bS (nT w) (aN w) (aJ w) r inn p).2.2.2 p
    omega
   ·rw [aDu];omega

theorem bFq {p:den tPp} (h:aAf p=true):tot tPp p<=8:=by
 unfold aAf aEo at h
 simp only [bWw,zR] at h
 have e:tot tPp p=tot (.sl cG) p.2.2.2:=by simp [rM,tT]
 rw [e,jU rfl]
 exact h.2.2.2.1

theorem bIl {p:den tPt} (h:aFw p=true):tot tPt p<=27:=by
 unfold aFw at h
 rw [bWw,zR] at h
 have key: ∀ l:lPp,l.all aAf=true→tot (.sl tPp) l<=9 * l.length:=by
  intro l
  induction l with
  | nil=>intro _;exact bXb _
  | cons x l ih=>
   intro hl
   rw [List.all_cons,bWw] at hl
   have h1:=bFq hl.1
   have h2:=ih hl.2
   rw [kW,bXy]
   omega
 have :=key p h.2
 have h1:bW9 p<=3:=h.1
 show tot (.sl tPp) p<=27
 omega

theorem aO8 {p:den tPk} (h:gP p=true):tot tPk p<=67:=by
 have h':=h
 unfold gP at h'
 simp only [bWw,zR] at h'
 have h1:=bIl h'.2.1
 have h2:p.2.2.2.2.2.2.2.2.2.length<=40:=by have :=h'.2.2.2.2.2.2.2.2.2;omega
 have e:tot tPk p=tot tPt p.2.2.2.1+tot (.sl tb) p.2.2.2.2.2.2.2.2.2:=by simp [rM,tT]
 rw [e,jU (t:=tb) rfl]
 omega

theorem aSr {w:den tNw} {r inn:Int} {p:den tPk} (h:gP p=false):fC w r inn p=zO w:=by
 have hv:bS (nT w) (aN w) (aJ w) r inn p=(2,0,p,0):=by
  unfold bS fwd
  rw [h];rfl
 unfold fC
 rw [hv]
 rfl

theorem aOv (w:den tNw) (r inn:Int) (p:den tPk):tot tNw (fC w r inn p)<=tot tNw w+(160+(aB w).length):=by
 cases h:gP p with
 | true=>
  have h1:=bEq w r inn p
  have h2:=aO8 h
  omega
 | false=>rw [aSr h,aDu];omega


structure wI (w:den tNw):Prop where
 fly: ∀ x∈aR w,fY x.2.2
 msg: ∀ f∈aB w,∀ m∈f.2.2.2.2.1,tG m

theorem aPp {w:den tNw} (h:wI w) {r eg:Int} {p:den tPk} (hp:fY p):wI (oX w r eg p)∧(aB (oX w r eg p)).length=(aB w).length:=by
 unfold oX
 split
 ·refine ⟨⟨fun x hx=> ?_,h.msg⟩,rfl⟩
  rcases bW5.1 (show x∈aR w++_ from hx) with hx | hx
  ·exact h.fly x hx
  ·have :x=_:=bW3.1 hx
   subst this
   exact hp
 ·exact ⟨⟨h.fly,h.msg⟩,rfl⟩

theorem bHa (r:Int) (p:den tPk) (f:den tFl):(oA r p f).2.2.2.2.1=f.2.2.2.2.1:=by
 unfold oA
 split
 ·split
  ·exact (aX2 f p).1
  ·unfold xO
   cases p.1==3&&(vQ p.2.2.2.2.2.2.2.2.2).2.2.2<;>rfl
 ·rfl

theorem aIe {w:den tNw} (h:wI w) (r:Int) (p:den tPk):wI (tQ w r p)∧(aB (tQ w r p)).length=(aB w).length:=by
 refine ⟨⟨h.fly,fun f hf m hm=> ?_⟩,by show ((aB w).map _).length=_;simp⟩
 obtain ⟨g,hg,rfl⟩:=bW0.1 (show f∈(aB w).map (oA r p) from hf)
 rw [bHa] at hm
 exact h.msg g hg m hm

theorem aEq {w:den tNw} (h:wI w):wI (zO w)∧(aB (zO w)).length=(aB w).length:=⟨⟨h.fly,h.msg⟩,rfl⟩

theorem aMz {w:den tNw} (h:wI w) (k:Nat) (x:den tIb):wI (pB w k x)∧(aB (pB w k x)).length=(aB w).length:=⟨⟨h.fly,h.msg⟩,rfl⟩

theorem aMt {t:den tTo} {now:Int} {dead:List Int} {r inn:Int} {p:den tPk} (hp:fY p):fY (bS t now dead r inn p).2.2.1:=fun x hx=>hp x (by unfold bS at hx;rwa [(aD0 t r now _ inn p).2.2.2] at hx)

theorem aPm {w:den tNw} (h:wI w) {r inn:Int} {p:den tPk} (hp:fY p):wI (proc0 w r inn p)∧(aB (proc0 w r inn p)).length=(aB w).length:=by
 unfold proc0
 split
 ·exact aPp h (aMt hp)
 ·split
  ·exact aIe h _ _
  ·exact aEq h

theorem aJp {w:den tNw} (h:wI w) {r inn:Int} {p:den tPk} (hp:fY p):wI (fC w r inn p)∧(aB (fC w r inn p)).length=(aB w).length:=by
 unfold fC
 split
 ·exact aPp h (aMt hp)
 ·split
  ·split
   ·unfold xS
    split
    ·exact ⟨h,rfl⟩
    ·split
     ·obtain ⟨h1,h2⟩:=aMz h (mL (aU w) r (bS (nT w) (aN w) (aJ w) r inn p).2.2.1.2.1).toNat (dE (vT w (mL (aU w) r (bS (nT w) (aN w) (aJ w) r inn p).2.2.1.2.1).toNat) (bS (nT w) (aN w) (aJ w) r inn p).2.2.1)
      obtain ⟨h3,h4⟩:=aPm h1 (r:=r) (inn:=0) (p:=nB (dE (vT w (mL (aU w) r (bS (nT w) (aN w) (aJ w) r inn p).2.2.1.2.1).toNat) (bS (nT w) (aN w) (aJ w) r inn p).2.2.1) (bS (nT w) (aN w) (aJ w) r inn p).2.2.1) (by
       unfold nB
       split
       ·exact fun x hx=>by cases hx
       ·exact fun x hx=>by cases hx)
      exact ⟨h3,h4.trans h2⟩
     ·exact aMz h _ _
   ·exact aIe h _ _
  ·split
   ·unfold aB8
    split
    ·obtain ⟨h1,h2⟩:=aPm h (r:=r) (inn:=0) (p:=cB r (aN w) (bS (nT w) (aN w) (aJ w) r inn p).2.2.2 p) (aPk _)
     obtain ⟨h3,h4⟩:=aEq h1
     exact ⟨h3,h4.trans h2⟩
    ·obtain ⟨h1,h2⟩:=aIe h r (cB r (aN w) (bS (nT w) (aN w) (aJ w) r inn p).2.2.2 p)
     obtain ⟨h3,h4⟩:=aEq h1
     exact ⟨h3,h4.trans h2⟩
   ·exact aEq h

def aB0 (w:den tNw) (l:lFy):den tNw:=(nT w,nK w,nG w,aN w,aJ w,l,aB w,aU w,dW w)

def bOc (x:den tFy) (w:den tNw):q26:=
 (x.1,x.2.1,x.2.2.1,x.2.2.2.1,x.2.2.2.2.1,x.2.2.2.2.2.1,x.2.2.2.2.2.2.1,x.2.2.2.2.2.2.2.1,x.2.2.2.2.2.2.2.2.1,x.2.2.2.2.2.2.2.2.2.1,x.2.2.2.2.2.2.2.2.2.2.1,x.2.2.2.2.2.2.2.2.2.2.2,cA w)

theorem aPw (w:den tNw) (l:lFy):tot tNw (aB0 w l)+tot (.sl tFy) (aR w)=tot tNw w+tot (.sl tFy) l:=by
 have e:tot tNw (aB0 w l)=(tot (.sl tAS) (nT w).1+tot (.sl tLk) (nT w).2)+((tot (.sl tSg) (nK w).1+tot (.sl tSg) (nK w).2)+((0+(tot (.sl tRs) (nG w).2.1+tot (.sl tUs) (nG w).2.2))+(0+(tot (.sl ti) (aJ w)+(tot (.sl tFy) l+(tot (.sl tFl) (aB w)+(tot (.sl tIb) (aU w)+0))))))):=rfl
 rw [e,fA w]
 omega


structure kX (B F:Nat) (w:den tNw):Prop where
 tot:Go.V.tot tNw w<=B
 flows:(aB w).length<=F
 bytes:wI w

theorem kX.mono {B C F:Nat} {w:den tNw} (h:kX B F w) (hb:B<=C):kX C F w:=⟨bWv h.tot hb,h.flows,h.bytes⟩

theorem bC6 {B F:Nat} {w:den tNw} (hk:kX B F w) {r inn:Int} {p:den tPk} (hp:fY p):kX (B+(160+F)) F (fC w r inn p):=by
 obtain ⟨h1,h2⟩:=aJp hk.bytes (r:=r) (inn:=inn) hp
 have h3:=aOv w r inn p
 have h4:=hk.tot
 have h5:=hk.flows
 exact ⟨by omega,by omega,h1⟩

theorem aE3 {B F:Nat} {w:den tNw} (h:kX B F w) (hB:B<=1073741824):aAu w∧(aU w).length<=68719476736∧ ∀ x∈aU w,tot tIb x<=1073741824:=
 ⟨aM6 (bWv h.tot hB),bRm (bWv h.tot hB)⟩

theorem aZb {B F:Nat} {w:den tNw} (h:kX B F w) (hB:B<=1073741824):(aR w).length<=1073741824:=by
 have :=fA w
 have :=eR (t:=tFy) (aR w)
 have :=h.tot
 omega

theorem bHc (f:den tFl):(aF f).1.2.2.2.2.1=f.2.2.2.2.1:=by
 unfold aF
 repeat' split
 all_goals rfl

theorem aXv {f:den tFl} (h: ∀ m∈f.2.2.2.2.1,tG m):fY (rH f):=by
 unfold rH
 split
 ·intro x hx
  have hx:x∈(f.2.2.2.2.1[f.2.2.2.1.toNat]?).getD []:=hx
  cases hm:f.2.2.2.2.1[f.2.2.2.1.toNat]? with
  | none=>rw [hm] at hx;cases hx
  | some m=>rw [hm] at hx;exact h m (bW6 hm) x hx
 ·intro x hx;cases hx

theorem aXw {f:den tFl} (h: ∀ m∈f.2.2.2.2.1,tG m):fY (aF f).2.1:=by
 unfold aF
 repeat' split
 all_goals first
  | exact aXv h
  | (intro x hx;cases hx)


def stepT (k:Nat) (w:den tNw):den tNw:=match (aB w)[k]? with
 | some f=>if (aF f).2.2 then fC (cT w ((aB w).set k (aF f).1)) (aF f).1.1 0 (aF f).2.1 else cT w ((aB w).set k (aF f).1)
 | none=>w

def tickL:Nat→Nat→den tNw→den tNw
 | _,0,w=>w
 | k,n+1,w=>tickL (k+1) n (stepT k w)

def aEl (w:den tNw):den tNw:=(nT w,nK w,((nG w).1,aD2 (nG w).2.1 (wr (aN w+1)),[]),wr (aN w+1),aJ w,aR w,aB w,aU w,dW w)

def pP (w:den tNw):den tNw:=if aN w>=1000000 then w else tickL 0 (aB w).length (aEl w)

theorem aKg {B F:Nat} {w:den tNw} {k:Nat} {f:den tFl} (hk:kX B F w) (hf:(aB w)[k]? =some f):kX B F (cT w ((aB w).set k (aF f).1))∧tot tPk (aF f).2.1<=B∧fY (aF f).2.1:=by
 have hm:=bW6 hf
 have h1:=aR4 (t:=tFl) (y:=(aF f).1) hf
 have h2:=(aSp f).1
 have h3:=(aSp f).2
 have h4:=wF (t:=tFl) hm
 have h5:=aF7 w ((aB w).set k (aF f).1)
 have h6:=fA w
 have h7:=hk.tot
 refine ⟨⟨by omega,?_,⟨hk.bytes.fly,fun g hg m hmm=> ?_⟩⟩,by omega,aXw (hk.bytes.msg f hm)⟩
 ·show ((aB w).set k _).length<=F
  rw [bYl];exact hk.flows
 ·rcases bZm (show g∈(aB w).set k (aF f).1 from hg) with hg | rfl
  ·exact hk.bytes.msg g hg m hmm
  ·rw [bHc] at hmm
   exact hk.bytes.msg f hm m hmm

theorem aOa {B F:Nat} {w:den tNw} (k:Nat) (hk:kX B F w):kX (B+(160+F)) F (stepT k w)∧(aB (stepT k w)).length=(aB w).length:=by
 unfold stepT
 split
 ·rename_i f hf
  obtain ⟨h1,h2,h3⟩:=aKg hk hf
  have hl:(aB (cT w ((aB w).set k (aF f).1))).length=(aB w).length:=by show ((aB w).set k _).length=_;rw [bYl]
  split
  ·exact ⟨bC6 h1 h3,(aJp h1.bytes h3).2.trans hl⟩
  ·exact ⟨h1.mono (by omega),hl⟩
 ·exact ⟨hk.mono (by omega),rfl⟩

theorem aPa {F:Nat}: ∀ (n k:Nat) {B:Nat} {w:den tNw},kX B F w→kX (B+n * (160+F)) F (tickL k n w)∧(aB (tickL k n w)).length=(aB w).length
 | 0,k,B,w,hk=>⟨hk.mono (by omega),rfl⟩
 | n+1,k,B,w,hk=>by
  obtain ⟨h1,h2⟩:=aOa k hk
  obtain ⟨h3,h4⟩:=aPa n (k+1) h1
  unfold tickL
  exact ⟨h3.mono (by rw [bXu];omega),h4.trans h2⟩

theorem bFk (l:lRs) (now:Int):(aD2 l now).length<=l.length:=bZp _ _

theorem aEm {B F:Nat} {w:den tNw} (hk:kX B F w):kX B F (aEl w):=by
 refine ⟨?_,hk.flows,⟨hk.bytes.fly,hk.bytes.msg⟩⟩
 have h1:=hk.tot
 have h2:=fA w
 have h3:=bFk (nG w).2.1 (wr (aN w+1))
 have e:tot tNw (aEl w)=(tot (.sl tAS) (nT w).1+tot (.sl tLk) (nT w).2)+((tot (.sl tSg) (nK w).1+tot (.sl tSg) (nK w).2)+((0+(tot (.sl tRs) (aD2 (nG w).2.1 (wr (aN w+1)))+tot (.sl tUs) []))+(0+(tot (.sl ti) (aJ w)+(tot (.sl tFy) (aR w)+(tot (.sl tFl) (aB w)+(tot (.sl tIb) (aU w)+0))))))):=rfl
 have r1: ∀ l:lRs,tot (.sl tRs) l=l.length:=fun l=>jU rfl
 have r2:=r1 (aD2 (nG w).2.1 (wr (aN w+1)))
 have r3:=r1 (nG w).2.1
 rw [aCq] at e
 omega

theorem bBq {B F:Nat} {w:den tNw} (hk:kX B F w):kX (B+F * (160+F)) F (pP w):=by
 unfold pP
 split
 ·exact hk.mono (by omega)
 ·have :=(aPa (aB w).length 0 (aEm hk)).1
  refine this.mono ?_
  have h1:(aB w).length * (160+F)<=F * (160+F):=bX9 _ hk.flows
  omega

theorem aSq {F:Nat} {S R:Type} (enc:Nat→den tNw→S) (out:den tNw→R) (N:Nat) {step:S→Option (S⊕R)}
  (H1: ∀ (k:Nat) (w:den tNw),k<N→(aB w).length=N→kX 536870912 F w→step (enc k w)=some (.inl (enc (k+1) (stepT k w))))
  (H2: ∀ (w:den tNw),(aB w).length=N→step (enc N w)=some (.inr (out w))):
  ∀ (m k B:Nat) (w:den tNw),k+m=N→(aB w).length=N→kX B F w→B+m * (160+F)<=536870912→aC step (enc k w)=some (out (tickL k m w)):=by
 intro m
 induction m with
 | zero=>
  intro k B w hk hn hw hB
  have :k=N:=by omega
  subst this
  exact bX (H2 w hn)
 | succ m ih=>
  intro k B w hk hn hw hB
  rw [bXu] at hB
  obtain ⟨h1,h2⟩:=aOa k hw
  rw [dS (H1 k w (by omega) hn (hw.mono (by omega)))]
  exact ih (k+1) _ _ (by omega) (h2.trans hn) h1 (by omega)

theorem bOt {B F:Nat} {w0:den tNw} (hF:F<=1000) (hk:kX B F w0) (hB:B+F * (160+F)<=536870912):mS w0=some (!decide (aN w0>=1000000),cA (pP w0)):=by
 have hres:(nG w0).2.1.length<=1073741824:=(aM6 (bWv hk.tot (by omega))).res
 unfold mS pP ixb aIq jF pj3 pj9 aW bR bT eX nD rR wD aAj aCl aB9 zz4 zz5 zz6 zz7 zz8 zz9
 by_cases hnow:aN w0>=1000000
 ·rw [zT hnow,zX (p:=w0.2.2.2.1>=1000000) hnow]
  rfl
 ·rw [zS hnow,zW (p:=w0.2.2.2.1>=1000000) hnow,zY]
  unfold vL
  simp only [bIh hres,aA]
  refine Eq.trans (congrArg (fun o=>Option.bind o _) (aSq (F:=F) (fun k w=>((k:Int),cA w)) cA (aB w0).length (fun k w hk' hn hw=> ?_) (fun w hn=> ?_) (aB w0).length 0 B (aEl w0) (bXv _) rfl (aEm hk) (by have :(aB w0).length * (160+F)<=F * (160+F):=bX9 _ hk.flows;omega))) ?_
  ·obtain ⟨f,hf⟩: ∃ f,(aB w)[k]? =some f:=⟨_,bWu (show k<(aB w).length by omega)⟩
   obtain ⟨k1,k2,k3⟩:=aKg hw hf
   obtain ⟨n1,n2,n3⟩:=aE3 k1 (by decide)
   have hft:tot tFl f<=34359738368:=by have :=wF (t:=tFl) (bW6 hf);have :=fA w;have :=hw.tot;omega
   have hd:decide ((k:Int)<(w0.2.2.2.2.2.2.1.length:Int))=true:=zX (by have :k<w0.2.2.2.2.2.2.1.length:=(by exact hk');omega)
   have hd1:decide ((k:Int)<((cA w).2.1.length:Int))=true:=zX (by have :k<(cA w).2.1.length:=(show k<(aB w).length by omega);omega)
   have hd2:decide (k<(cA w).2.1.length)=true:=zX (show k<(aB w).length by omega)
   have hf':(cA w).2.1[k]? =some f:=hf
   have hwr:wr ((k:Int)+1)=((k+1:Nat):Int):=(wri (by have :=hk.flows;omega) (by have :=hk.flows;omega)).trans (by omega)
   have e:stepT k w=if (aF f).2.2 then fC (cT w ((aB w).set k (aF f).1)) (aF f).1.1 0 (aF f).2.1 else cT w ((aB w).set k (aF f).1):=by unfold stepT;rw [hf]
   have e1:bW (((cA w).2.2.2.1,(cA w).2.2.2.2.1),((cA w).2.2.2.2.2.1,(cA w).2.2.2.2.2.2.1),((cA w).2.2.2.2.2.2.2.1,(cA w).2.2.2.2.2.2.2.2.1,(cA w).2.2.2.2.2.2.2.2.2.1),(cA w).2.2.2.2.2.2.2.2.2.2.1,(cA w).2.2.2.2.2.2.2.2.2.2.2.1,(cA w).1,((cA w).2.1.set k ((dQ (aF f).1 (aF f).2.1 (aF f).2.2).1,(dQ (aF f).1 (aF f).2.1 (aF f).2.2).2.1,(dQ (aF f).1 (aF f).2.1 (aF f).2.2).2.2.1,(dQ (aF f).1 (aF f).2.1 (aF f).2.2).2.2.2.1,(dQ (aF f).1 (aF f).2.1 (aF f).2.2).2.2.2.2.2.2.2.2.2.2.2.2.2.2.2.1,(dQ (aF f).1 (aF f).2.1 (aF f).2.2).2.2.2.2.2.2.2.2.2.2.2.2.2.2.2.2.1,(dQ (aF f).1 (aF f).2.1 (aF f).2.2).2.2.2.2.1,(dQ (aF f).1 (aF f).2.1 (aF f).2.2).2.2.2.2.2.1,(dQ (aF f).1 (aF f).2.1 (aF f).2.2).2.2.2.2.2.2.2.2.2.2.2.2.2.2.2.2.2.1)),(cA w).2.2.1,(cA w).2.2.2.2.2.2.2.2.2.2.2.2) (dQ (aF f).1 (aF f).2.1 (aF f).2.2).1 0 ((dQ (aF f).1 (aF f).2.1 (aF f).2.2).2.2.2.2.2.2.1,(dQ (aF f).1 (aF f).2.1 (aF f).2.2).2.2.2.2.2.2.2.1,(dQ (aF f).1 (aF f).2.1 (aF f).2.2).2.2.2.2.2.2.2.2.1,(dQ (aF f).1 (aF f).2.1 (aF f).2.2).2.2.2.2.2.2.2.2.2.2.2.2.2.2.2.2.2.2.1,(dQ (aF f).1 (aF f).2.1 (aF f).2.2).2.2.2.2.2.2.2.2.2.1,(dQ (aF f).1 (aF f).2.1 (aF f).2.2).2.2.2.2.2.2.2.2.2.2.1,(dQ (aF f).1 (aF f).2.1 (aF f).2.2).2.2.2.2.2.2.2.2.2.2.2.1,(dQ (aF f).1 (aF f).2.1 (aF f).2.2).2.2.2.2.2.2.2.2.2.2.2.2.1,(dQ (aF f).1 (aF f).2.1 (aF f).2.2).2.2.2.2.2.2.2.2.2.2.2.2.2.1,(dQ (aF f).1 (aF f).2.1 (aF f).2.2).2.2.2.2.2.2.2.2.2.2.2.2.2.2.2.2.2.2.2)=some (cA (fC (cT w ((aB w).set k (aF f).1)) (aF f).1.1 0 (aF f).2.1)):=aY6 (w:=cT w ((aB w).set k (aF f).1)) n1 n2 n3 k2 k3
   rw [e]
   simp only [hd,hd1,hd2,fG,bW4,hf',zZ,aA,aM,bOx hft,hwr]
   cases hb:(aF f).2.2
   ·rfl
   ·rw [hb] at e1
    rw [zT rfl]
    show Option.bind (cond true _ _) _=_
    rw [zZ]
    show Option.bind (Option.bind (bW _ _ 0 _) fun y12=>_) _=_
    rw [e1]
    rfl
  ·have hd:decide ((((aB w0).length:Nat):Int)<(w0.2.2.2.2.2.2.1.length:Int))=false:=zW (by have :w0.2.2.2.2.2.2.1.length=(aB w0).length:=rfl;omega)
   simp only [hd,zY]
  ·rfl

theorem bOy {B F:Nat} {w0:den tNw} (hF:F<=1000) (hk:kX B F w0) (hB:B+F * (160+F)<=536870912):uA w0=some (!decide (aN w0>=1000000),cA (pP w0)):=by
 have hres:(nG w0).2.1.length<=1073741824:=(aM6 (bWv hk.tot (by omega))).res
 unfold uA pP ixb aIq jF pj3 pj9 aW bR bT eX nD rR wD aAj aCl aB9 zz4 zz5 zz6 zz7 zz8 zz9
 by_cases hnow:aN w0>=1000000
 ·rw [zT hnow,zX (p:=w0.2.2.2.1>=1000000) hnow]
  rfl
 ·rw [zS hnow,zW (p:=w0.2.2.2.1>=1000000) hnow,zY]
  unfold vC
  simp only [bIf hres,aA]
  refine Eq.trans (congrArg (fun o=>Option.bind o _) (aSq (F:=F) (fun k w=>((k:Int),cA w)) cA (aB w0).length (fun k w hk' hn hw=> ?_) (fun w hn=> ?_) (aB w0).length 0 B (aEl w0) (bXv _) rfl (aEm hk) (by have :(aB w0).length * (160+F)<=F * (160+F):=bX9 _ hk.flows;omega))) ?_
  ·obtain ⟨f,hf⟩: ∃ f,(aB w)[k]? =some f:=⟨_,bWu (show k<(aB w).length by omega)⟩
   obtain ⟨k1,k2,k3⟩:=aKg hw hf
   obtain ⟨n1,n2,n3⟩:=aE3 k1 (by decide)
   have hft:tot tFl f<=34359738368:=by have :=wF (t:=tFl) (bW6 hf);have :=fA w;have :=hw.tot;omega
   have hd:decide ((k:Int)<((cA w).2.1.length:Int))=true:=zX (by have :k<(cA w).2.1.length:=(by show k<(aB w).length;omega);omega)
   have hd1:decide ((k:Int)<((cA w).2.1.length:Int))=true:=zX (by have :k<(cA w).2.1.length:=(show k<(aB w).length by omega);omega)
   have hd2:decide (k<(cA w).2.1.length)=true:=zX (show k<(aB w).length by omega)
   have hf':(cA w).2.1[k]? =some f:=hf
   have hwr:wr ((k:Int)+1)=((k+1:Nat):Int):=(wri (by have :=hk.flows;omega) (by have :=hk.flows;omega)).trans (by omega)
   have e:stepT k w=if (aF f).2.2 then fC (cT w ((aB w).set k (aF f).1)) (aF f).1.1 0 (aF f).2.1 else cT w ((aB w).set k (aF f).1):=by unfold stepT;rw [hf]
   have e1:dZ (((cA w).2.2.2.1,(cA w).2.2.2.2.1),((cA w).2.2.2.2.2.1,(cA w).2.2.2.2.2.2.1),((cA w).2.2.2.2.2.2.2.1,(cA w).2.2.2.2.2.2.2.2.1,(cA w).2.2.2.2.2.2.2.2.2.1),(cA w).2.2.2.2.2.2.2.2.2.2.1,(cA w).2.2.2.2.2.2.2.2.2.2.2.1,(cA w).1,((cA w).2.1.set k ((dQ (aF f).1 (aF f).2.1 (aF f).2.2).1,(dQ (aF f).1 (aF f).2.1 (aF f).2.2).2.1,(dQ (aF f).1 (aF f).2.1 (aF f).2.2).2.2.1,(dQ (aF f).1 (aF f).2.1 (aF f).2.2).2.2.2.1,(dQ (aF f).1 (aF f).2.1 (aF f).2.2).2.2.2.2.2.2.2.2.2.2.2.2.2.2.2.1,(dQ (aF f).1 (aF f).2.1 (aF f).2.2).2.2.2.2.2.2.2.2.2.2.2.2.2.2.2.2.1,(dQ (aF f).1 (aF f).2.1 (aF f).2.2).2.2.2.2.1,(dQ (aF f).1 (aF f).2.1 (aF f).2.2).2.2.2.2.2.1,(dQ (aF f).1 (aF f).2.1 (aF f).2.2).2.2.2.2.2.2.2.2.2.2.2.2.2.2.2.2.2.1)),(cA w).2.2.1,(cA w).2.2.2.2.2.2.2.2.2.2.2.2) (dQ (aF f).1 (aF f).2.1 (aF f).2.2).1 0 ((dQ (aF f).1 (aF f).2.1 (aF f).2.2).2.2.2.2.2.2.1,(dQ (aF f).1 (aF f).2.1 (aF f).2.2).2.2.2.2.2.2.2.1,(dQ (aF f).1 (aF f).2.1 (aF f).2.2).2.2.2.2.2.2.2.2.1,(dQ (aF f).1 (aF f).2.1 (aF f).2.2).2.2.2.2.2.2.2.2.2.2.2.2.2.2.2.2.2.2.1,(dQ (aF f).1 (aF f).2.1 (aF f).2.2).2.2.2.2.2.2.2.2.2.1,(dQ (aF f).1 (aF f).2.1 (aF f).2.2).2.2.2.2.2.2.2.2.2.2.1,(dQ (aF f).1 (aF f).2.1 (aF f).2.2).2.2.2.2.2.2.2.2.2.2.2.1,(dQ (aF f).1 (aF f).2.1 (aF f).2.2).2.2.2.2.2.2.2.2.2.2.2.2.1,(dQ (aF f).1 (aF f).2.1 (aF f).2.2).2.2.2.2.2.2.2.2.2.2.2.2.2.1,(dQ (aF f).1 (aF f).2.1 (aF f).2.2).2.2.2.2.2.2.2.2.2.2.2.2.2.2.2.2.2.2.2)=some (cA (fC (cT w ((aB w).set k (aF f).1)) (aF f).1.1 0 (aF f).2.1)):=bAe (w:=cT w ((aB w).set k (aF f).1)) n1 n2 n3 k2 k3
   rw [e]
   simp only [hd,hd1,hd2,fG,bW4,hf',zZ,aA,aM,bOw hft,hwr]
   cases hb:(aF f).2.2
   ·rfl
   ·rw [hb] at e1
    rw [zT rfl]
    show Option.bind (cond true _ _) _=_
    rw [zZ]
    show Option.bind (Option.bind (dZ _ _ 0 _) fun y12=>_) _=_
    rw [e1]
    rfl
  ·have hd:decide ((((aB w0).length:Nat):Int)<((cA w).2.1.length:Int))=false:=zW (by have :(cA w).2.1.length=(aB w0).length:=hn;omega)
   simp only [hd,zY]
  ·rfl


def Ans {α:Type} (o:Option α) (P:α→Prop):Prop:= ∃ y,o=some y∧P y

theorem bJ3 {S R:Type} {step:S→Option (S⊕R)} (I:Nat→S→Prop) (Q:R→Prop) (h: ∀ n s,I n s→(∃ r,step s=some (.inr r)∧Q r)∨ ∃ m s',m<n∧step s=some (.inl s')∧I m s') (n:Nat): ∀ s,I n s→Ans (aC step s) Q:=by
 induction n using Nat.strongRecOn with
 | ind n ih=>
  intro s hs
  rcases h n s hs with ⟨r,h1,h2⟩ | ⟨m,s',h1,h2,h3⟩
  ·exact ⟨r,bX h1,h2⟩
  ·obtain ⟨r,h4,h5⟩:=ih m h1 s' h3
   exact ⟨r,(dS h2).trans h4,h5⟩

theorem mT {S R T:Type} {step:S→Option (S⊕R)} (I:Nat→S→Prop) (Q:R→Prop) {k:R→Option T} {G:Option T→Prop} (h: ∀ n s,I n s→(∃ r,step s=some (.inr r)∧Q r)∨ ∃ m s',m<n∧step s=some (.inl s')∧I m s') (n:Nat) (s:S) (hs:I n s) (hk: ∀ r,Q r→G (k r)):G (Option.bind (aC step s) k):=by
 obtain ⟨r,h1,h2⟩:=bJ3 I Q h n s hs
 rw [h1]
 exact hk r h2


theorem cC {S R T:Type} {step:S→Option (S⊕R)} (len:Nat) (pos:S→Int) (J:Nat→S→Prop) (Q:R→Prop) {k:R→Option T} {G:Option T→Prop}
  (h: ∀ (i:Nat) (s:S),i<len→pos s=(i:Int)→J i s→(∃ r,step s=some (.inr r)∧Q r)∨ ∃ s',step s=some (.inl s')∧pos s'=((i+1:Nat):Int)∧J (i+1) s')
  (he: ∀ s:S,pos s=(len:Int)→J len s→ ∃ r,step s=some (.inr r)∧Q r) (i0:Nat) (s0:S) (hi:i0<=len) (hp:pos s0=(i0:Int)) (hJ:J i0 s0) (hk: ∀ r,Q r→G (k r)):G (Option.bind (aC step s0) k):=by
 refine mT (fun n s=> ∃ i:Nat,pos s=(i:Int)∧i+n=len∧J i s) Q ?_ (len - i0) s0 ⟨i0,hp,by omega,hJ⟩ hk
 rintro n s ⟨i,h1,h2,h3⟩
 cases n with
 | zero=>
  have e:i=len:=by omega
  subst e
  exact .inl (he s h1 h3)
 | succ n=>
  rcases h i s (by omega) h1 h3 with h4 | ⟨s',h4,h5,h6⟩
  ·exact .inl h4
  ·exact .inr ⟨n,s',by omega,h4,i+1,h5,by omega,h6⟩

theorem bI {n:Int} (h0: -1000000000000<=n) (h1:n<=1000000000000):wr n=n:=wri (by omega) (by omega)

theorem bN {n:Nat} (h:n<=1000000000):wr ((n:Int)+1)=((n+1:Nat):Int):=by rw [bI (by omega) (by omega)];omega

theorem aW9 (a:Int):0<=xF .i64 a 255∧xF .i64 a 255<=255:=by
 have h:((BitVec.ofInt 64 a &&& BitVec.ofInt 64 255).toNat)<=255:=by
  rw [BitVec.toNat_and]
  exact bWv Nat.and_le_right (by decide)
 have e:xF .i64 a 255=wr (((BitVec.ofInt 64 a &&& BitVec.ofInt 64 255).toNat:Nat):Int):=rfl
 rw [e,show wr (((BitVec.ofInt 64 a &&& BitVec.ofInt 64 255).toNat:Nat):Int)=_ from wri (by omega) (by omega)]
 omega


def Cur (code:List Int) (c:List Int×q24):Prop:=c.1=code∧0<=c.2.1∧c.2.1<=(code.length:Int)

theorem aFt {code:List Int} (hl:code.length<=1048576) {c:List Int} {p h:Int} (hc:Cur code (c,p,h)): ∃ v c' p' h',pH (c,p,h)=some (v,c',p',h')∧(0<=v∧v<=255)∧Cur code (c',p',h'):=by
 obtain ⟨h1,h2,h3⟩:=hc
 simp only at h1 h2 h3
 subst h1
 unfold pH pj4
 simp only [aA]
 by_cases hp:p<(c.length:Int)
 ·obtain ⟨m,rfl⟩:=bXq h2
  have hm:m<c.length:=by omega
  rw [zX hp,zZ,aH,bWu hm]
  refine ⟨_,_,_,_,rfl,aW9 _,rfl,?_,?_⟩
  ·show 0<=wr ((m:Int)+1);rw [show wr ((m:Int)+1)=(m:Int)+1 from wri (by omega) (by omega)];omega
  ·show wr ((m:Int)+1)<=_;rw [show wr ((m:Int)+1)=(m:Int)+1 from wri (by omega) (by omega)];omega
 ·rw [zW hp,zY]
  exact ⟨_,_,_,_,rfl,aW9 _,rfl,h2,h3⟩

theorem aY {code:List Int} (hl:code.length<=1048576) {n:Int} (h0:0<n) (h1:n<=256) {c:List Int} {p h:Int} (hc:Cur code (c,p,h)): ∃ v c' p' h',aE (c,p,h) n=some (v,c',p',h')∧(0<=v∧v<n)∧Cur code (c',p',h'):=by
 obtain ⟨v,c',p',h',hb,hv,hc'⟩:=aFt hl hc
 refine ⟨Int.tmod v n,c',p',h',?_,⟨Int.tmod_nonneg _ hv.1,Int.tmod_lt_of_pos _ h0⟩,hc'⟩
 unfold aE pj3
 rw [zW (by omega),zY,zX h1,zZ]
 simp only [hb,aA]
 rw [show (n==0)=false by rw [beq_eq_false_iff_ne];omega,zY]

theorem aG6 {code:List Int} (hl:code.length<=1048576) {n:Int} (h1:256<n) {c:List Int} {p h:Int} (hc:Cur code (c,p,h)): ∃ v c' p' h',aE (c,p,h) n=some (v,c',p',h')∧(0<=v∧v<n)∧Cur code (c',p',h'):=by
 obtain ⟨v1,c1,p1,h1',e1,r1,k1⟩:=aFt hl hc
 obtain ⟨v2,c2,p2,h2',e2,r2,k2⟩:=aFt hl k1
 obtain ⟨v3,c3,p3,h3',e3,r3,k3⟩:=aFt hl k2
 have w1:wr (v1 * 65536)=v1 * 65536:=bI (by omega) (by omega)
 have w2:wr (v2 * 256)=v2 * 256:=bI (by omega) (by omega)
 have w3:wr (v1 * 65536+v2 * 256)=v1 * 65536+v2 * 256:=bI (by omega) (by omega)
 have w4:wr (v1 * 65536+v2 * 256+v3)=v1 * 65536+v2 * 256+v3:=bI (by omega) (by omega)
 refine ⟨Int.tmod (v1 * 65536+v2 * 256+v3) n,c3,p3,h3',?_,⟨Int.tmod_nonneg _ (by omega),Int.tmod_lt_of_pos _ (by omega)⟩,k3⟩
 unfold aE pj3
 rw [zW (by omega),zY,zW (by omega),zY]
 simp only [e1,e2,e3,aA,w1,w2,w3,w4]
 rw [show (n==0)=false by rw [beq_eq_false_iff_ne];omega,zY]

theorem aE5 {code:List Int} (hl:code.length<=1048576) {l:List Int} (h0:0<l.length) (h1:l.length<=256) {c:List Int} {p h:Int} (hc:Cur code (c,p,h)): ∃ v c' p' h',oE (c,p,h) l=some (v,c',p',h')∧v∈l∧Cur code (c',p',h'):=by
 obtain ⟨v,c',p',h',hb,hv,hc'⟩:=aY hl (n:=(l.length:Int)) (by omega) (by omega) hc
 obtain ⟨m,rfl⟩:=bXq hv.1
 have hm:m<l.length:=by omega
 refine ⟨l[m],c',p',h',?_,bXa hm,hc'⟩
 unfold oE pj3
 simp only [hb,aA,aH,bWu hm]

theorem tA {code:List Int} (hl:code.length<=1048576) {n:Int} (h0:0<n) (h1:n<=256) {c:List Int} {p h:Int} (hc:Cur code (c,p,h)): ∃ b c' p' h',dJ (c,p,h) n=some (b,c',p',h')∧Cur code (c',p',h'):=by
 obtain ⟨v,c',p',h',hb,hv,hc'⟩:=aY hl h0 h1 hc
 refine ⟨v==0,c',p',h',?_,hc'⟩
 unfold dJ pj3
 simp only [hb,aA]

theorem bQt {code:List Int} (hl:code.length<=1048576): ∃ c p h,aBu code=some (c,p,h)∧Cur code (c,p,h):=by
 unfold aBu
 refine mT (G:=fun o=> ∃ c p h,o=some (c,p,h)∧Cur code (c,p,h)) (fun n s=> ∃ k:Nat,s.2=(k:Int)∧k+n=code.length) (fun _=>True) ?_ code.length _ ⟨0,rfl,by omega⟩ ?_
 ·rintro n ⟨a,b⟩ ⟨k,hk,hn⟩
  simp only at hk
  subst hk
  by_cases h1:(k:Int)<(code.length:Int)
  ·by_cases h2:(k:Int)<4000
   ·right
    have hk:k<code.length:=by omega
    refine ⟨n - 1,(xF .i64 (wr ((wr ((wr (a * (137:Int)))+(wr code[k])))+(11:Int))) (1073741823:Int),((k+1:Nat):Int)),by omega,?_,k+1,rfl,by omega⟩
    simp only [zX h1,zX h2,zZ,aA,aH,bWu hk]
    rw [show wr ((k:Int)+1)=((k+1:Nat):Int) from by rw [show wr ((k:Int)+1)=(k:Int)+1 from wri (by omega) (by omega)];omega]
   ·left
    refine ⟨a,?_,trivial⟩
    simp only [zX h1,zW h2,zZ,zY,aA]
  ·left
   refine ⟨a,?_,trivial⟩
   simp only [zW h1,zY,aA]
 ·intro r _
  exact ⟨_,_,_,rfl,rfl,bX3 0,by show (0:Int)<=_;omega⟩

theorem aM7 {α:Type} (p:Nat→α→Bool): ∀ (l:List α) (k:Nat),(cE (fun k x=>if p k x then none else some ()) k l).isNone=true↔ ∀ j x,l[j]? =some x→p (k+j) x=true
 | [],k=>by simp [cE]
 | x::l,k=>by
  have ih:=aM7 p l (k+1)
  cases hp:p k x with
  | true=>
   simp only [cE,hp,zV]
   rw [ih]
   constructor
   ·intro h j y hy
    cases j with
    | zero=>simp only [bZo,Option.some.injEq] at hy;subst hy;exact hp
    | succ j=>simp only [List.getElem?_cons_succ] at hy;have :=h j y hy;rwa [show k+1+j=k+(j+1) by omega] at this
   ·intro h j y hy
    have :=h (j+1) y (by simpa using hy);rwa [show k+(j+1)=k+1+j by omega] at this
  | false=>
   simp only [cE,hp]
   constructor
   ·intro h;simp at h
   ·intro h;have :=h 0 x (by simp);rw [Nat.add_zero,hp] at this;cases this

def plc (id s d:Int):Nat→lUs→Int
 | _,[]=> -1
 | k,x::l=>if jJ id s d x then (k:Int) else plc id s d (k+1) l

theorem aDx (l:lUs) (id s d:Int):place l id s d=plc id s d 0 l:=by
 unfold place
 have : ∀ (l:lUs) (k:Nat),(match cE (fun k x=>if jJ id s d x then some (k:Int) else none) k l with
  | some i=>i
  | none=> -1)=plc id s d k l:=by
  intro l
  induction l with
  | nil=>intro k;rfl
  | cons x l ih=>
   intro k
   cases hp:jJ id s d x with
   | true=>simp only [cE,plc,hp,zV]
   | false=>simp only [cE,plc,hp];exact ih (k+1)
 exact this l 0

theorem aXc {id s d:Int}: ∀ (l:lUs) (k:Nat),(plc id s d k l= -1∧ ∀ x∈l,jJ id s d x=false)∨ ∃ j x,plc id s d k l=((k+j:Nat):Int)∧l[j]? =some x∧jJ id s d x=true
 | [],_=> .inl ⟨rfl,fun x hx=>by cases hx⟩
 | x::l,k=>by
  unfold plc
  cases hp:jJ id s d x with
  | true=>exact .inr ⟨0,x,by simp,by simp,hp⟩
  | false=>
   rcases aXc l (k+1) with ⟨h1,h2⟩ | ⟨j,y,h1,h2,h3⟩
   ·refine .inl ⟨by simpa using h1,fun y hy=> ?_⟩
    rcases bWz.1 hy with rfl | hy
    ·exact hp
    ·exact h2 y hy
   ·exact .inr ⟨j+1,y,by rw [zS (by simp),h1];congr 1;omega,by simpa using h2,h3⟩

theorem bCl (l:lUs) (id s d:Int):(place l id s d= -1∧ ∀ x∈l,jJ id s d x=false)∨ ∃ (j:Nat) (x:den tUs),place l id s d=(j:Int)∧l[j]? =some x∧jJ id s d x=true:=by
 rw [aDx]
 rcases aXc (id:=id) (s:=s) (d:=d) l 0 with h | ⟨j,x,h1,h2,h3⟩
 ·exact .inl h
 ·exact .inr ⟨j,x,by rw [h1,bXv],h2,h3⟩

theorem aZi {id s d:Int} (z:lUs): ∀ (l:lUs) (k:Nat),plc id s d k (l++z)=if plc id s d k l<0 then plc id s d (k+l.length) z else plc id s d k l
 | [],k=>by simp [plc]
 | x::l,k=>by
  have e1:plc id s d k (x::l)=if jJ id s d x then (k:Int) else plc id s d (k+1) l:=rfl
  have e2:plc id s d k (x::l++z)=if jJ id s d x then (k:Int) else plc id s d (k+1) (l++z):=rfl
  by_cases hp:jJ id s d x=true
  ·rw [zT hp] at e1 e2
   rw [e1,e2,zS (by omega)]
  ·rw [zS hp] at e1 e2
   rw [e1,e2,aZi z l (k+1),show k+(x::l).length=k+1+l.length by simp only [bXy];omega]


theorem aVw {id s d:Int}: ∀ (l m:lUs) (k:Nat),l.map (fun x=>(x.1,x.2.1,x.2.2.1))=m.map (fun x=>(x.1,x.2.1,x.2.2.1))→plc id s d k l=plc id s d k m
 | [],[],_,_=>rfl
 | [],_::_,_,h=>by simp at h
 | _::_,[],_,h=>by simp at h
 | x::l,y::m,k,h=>by
  simp only [bXg,List.cons.injEq,Prod.mk.injEq] at h
  obtain ⟨⟨h1,h2,h3⟩,h4⟩:=h
  have e:jJ id s d x=jJ id s d y:=by unfold jJ;rw [h1,h2,h3]
  simp only [plc,e,aVw l m (k+1) h4]

theorem aLo {id s d:Int} {x:den tUs}:jJ id s d x=true↔x.1=id∧x.2.1=s∧x.2.2.1=d:=by unfold jJ;simp


def aRq (g:den tSc) (now:Int):Prop:= ∀ (j:Nat) (x:den tUs),g.2.2[j]? =some x→place g.2.2 x.1 x.2.1 x.2.2.1=(j:Int)∧(1:Int)<=x.2.2.2∧oY g x.1 x.2.1 x.2.2.1 now>=x.2.2.2

theorem bCd {g:den tSc} {now:Int}:aD8 g now=true↔(1:Int)<=g.1∧(20:Int)>=g.1∧aBq g.2.1 g.1 now=true∧aRq g now:=by
 unfold aD8 aRq
 rw [bWw,bWw,aM7]
 unfold inR okU
 simp only [bWw,zR,beq_iff_eq,bXv,inR,and_assoc]

theorem aYd {l:lRs} {cap now:Int}:aBq l cap now=true↔l.length<=40∧ ∀ (j:Nat) (x:den tRs),l[j]? =some x→tZ x=true∧rate l x.2.1 x.2.2.1 now<=cap∧ ∀ y∈l.take j,kT x y=false:=by
 unfold aBq
 rw [bWw,aM7]
 unfold okR
 simp only [bWw,zR,bXv,bXx,decide_eq_false_iff_not,List.any_eq_false,Bool.not_eq_true,Int.not_lt,gt_iff_lt]

theorem aIv (x y:den tRs):kT x y=kT y x:=by
 unfold kT atR
 rw [Bool.eq_iff_iff]
 simp only [bWw,beq_iff_eq]
 constructor<;>(rintro ⟨a,b,c⟩;exact ⟨a.symm,b.symm,c.symm⟩)

theorem bHu {l:lRs}:(∀ (j:Nat) (x:den tRs),l[j]? =some x→ ∀ y∈l.take j,kT x y=false)↔l.Pairwise fun x y=>kT x y=false:=by
 rw [bYp]
 constructor
 ·intro h i j hi hj hij
  rw [aIv]
  exact h j l[j] (bWu hj) l[i] (List.mem_take_iff_getElem.2 ⟨i,by omega,rfl⟩)
 ·intro h j x hx y hy
  obtain ⟨i,hi,rfl⟩:=List.mem_take_iff_getElem.1 hy
  obtain ⟨hj,rfl⟩:=bW1.1 hx
  rw [aIv]
  exact h i j (by omega) hj (by omega)


def rs (s d now:Int):lRs→Int
 | []=>0
 | x::l=>(if atR x s d&&decide (now<=x.2.2.2.2) then x.2.2.2.1 else 0)+rs s d now l

theorem aPo {s d now:Int}: ∀ {l:lRs},(∀ x∈l,(0:Int)<=x.2.2.2.1∧(20:Int)>=x.2.2.2.1)→0<=rs s d now l∧rs s d now l<=20 * l.length
 | [],_=>by simp [rs]
 | x::l,h=>by
  have ih:=aPo (s:=s) (d:=d) (now:=now) (l:=l) fun y hy=>h y (bW8 _ hy)
  have hx:=h x (by simp)
  have e:((x::l).length:Int)=l.length+1:=by simp
  unfold rs
  rw [e]
  split<;>omega

theorem aJ8 {s d now:Int}: ∀ (l:lRs) (a:Int),(∀ x∈l,(0:Int)<=x.2.2.2.1∧(20:Int)>=x.2.2.2.1)→0<=a→a+20 * l.length<=1000000000000→
  l.foldl (fun a x=>if atR x s d&&decide (now<=x.2.2.2.2) then wr (a+x.2.2.2.1) else a) a=a+rs s d now l
 | [],a,_,_,_=>by simp [rs]
 | x::l,a,h,h0,hb=>by
  have hx:=h x (by simp)
  simp only [bXy,Int.natCast_add,Int.natCast_one] at hb
  simp only [List.foldl_cons,rs]
  split
  ·rw [show wr (a+x.2.2.2.1)=a+x.2.2.2.1 from wri (by omega) (by omega),aJ8 l _ (fun y hy=>h y (bW8 _ hy)) (by omega) (by omega)];omega
  ·rw [aJ8 l a (fun y hy=>h y (bW8 _ hy)) h0 (by omega)];omega

theorem aLz {s d now:Int} {l:lRs} (h: ∀ x∈l,(0:Int)<=x.2.2.2.1∧(20:Int)>=x.2.2.2.1) (hl:l.length<=1000000):rate l s d now=rs s d now l:=by
 unfold rate
 rw [aJ8 l 0 h (by omega) (by omega)];omega

theorem bGj {s d now:Int} (m:lRs): ∀ l:lRs,rs s d now (l++m)=rs s d now l+rs s d now m
 | []=>by simp [rs]
 | x::l=>by simp only [List.cons_append,rs,bGj m l];omega

theorem aSc {s d now:Int} (p:den tRs→Bool): ∀ {l:lRs},(∀ x∈l,(0:Int)<=x.2.2.2.1∧(20:Int)>=x.2.2.2.1)→rs s d now (l.filter p)<=rs s d now l
 | [],_=>by simp [rs]
 | x::l,h=>by
  have ih:=aSc (s:=s) (d:=d) (now:=now) p (l:=l) fun y hy=>h y (bW8 _ hy)
  have hx:=h x (by simp)
  rw [bZw]
  split
  ·simp only [rs];omega
  ·simp only [rs];split<;>omega


structure tF (l:lRs) (cap now:Int):Prop where
 len:l.length<=40
 val: ∀ x∈l,tZ x=true
 rate: ∀ x∈l,rs x.2.1 x.2.2.1 now l<=cap
 pw:l.Pairwise fun x y=>kT x y=false

theorem aM0 {x:den tRs} (h:tZ x=true):(1:Int)<=x.1∧(1:Int)<=x.2.2.2.1∧(20:Int)>=x.2.2.2.1:=by
 unfold tZ inR at h
 simp only [bWw,zR] at h
 exact ⟨h.1.1,h.2.1.1,h.2.1.2⟩

theorem vF {l:lRs} (h: ∀ x∈l,tZ x=true): ∀ x∈l,(0:Int)<=x.2.2.2.1∧(20:Int)>=x.2.2.2.1:=fun x hx=>by
 have :=aM0 (h x hx);omega

theorem bKo {l:lRs} {cap now:Int}:aBq l cap now=true↔tF l cap now:=by
 rw [aYd]
 constructor
 ·rintro ⟨h1,h2⟩
  have hv: ∀ x∈l,tZ x=true:=fun x hx=>by
   obtain ⟨j,hj⟩:=bZ7.1 hx
   exact (h2 j x hj).1
  exact ⟨h1,hv,fun x hx=>by
   obtain ⟨j,hj⟩:=bZ7.1 hx
   rw [← aLz (vF hv) (by omega)];exact (h2 j x hj).2.1,bHu.1 fun j x hj=>(h2 j x hj).2.2⟩
 ·rintro ⟨h1,h2,h3,h4⟩
  refine ⟨h1,fun j x hj=> ?_⟩
  have hx:=bW6 hj
  exact ⟨h2 x hx,by rw [aLz (vF h2) (by omega)];exact h3 x hx,bHu.2 h4 j x hj⟩

theorem tF.filter {l:lRs} {cap now:Int} (h:tF l cap now) (p:den tRs→Bool):tF (l.filter p) cap now:=
 ⟨bWv (bZp ..) h.len,fun x hx=>h.val x (bXc.1 hx).1,fun x hx=>Int.le_trans (aSc p (vF h.val)) (h.rate x (bXc.1 hx).1),h.pw.filter _⟩


def admR (l:lRs) (x:den tRs) (cap now:Int):lRs:=
 if !tZ x||decide (x.2.2.2.2<now)||decide (wr (rate (l.filter fun y=> !kT x y) x.2.1 x.2.2.1 now+x.2.2.2.1)>cap)||decide (((l.filter fun y=> !kT x y).length:Int)>=40) then l else (l.filter fun y=> !kT x y)++[x]

theorem tF.admR {l:lRs} {cap now:Int} (h:tF l cap now) (x:den tRs):tF (admR l x cap now) cap now:=by
 unfold Go.Proofs.YtecighmpdcffcaaGreat.admR
 split
 ·exact h
 ·rename_i hc
  simp only [bYa,bXx,zR,not_or,Bool.not_eq_false] at hc
  obtain ⟨⟨⟨c1,c2⟩,c3⟩,c4⟩:=hc
  have hf:=h.filter fun y=> !kT x y
  have hx:=aM0 c1
  have hr:tF (l.filter fun y=> !kT x y) cap now:=hf
  rw [aLz (vF hf.val) (by have :=hf.len;omega)] at c3
  have hb:=aPo (s:=x.2.1) (d:=x.2.2.1) (now:=now) (vF hf.val)
  have hl:=hf.len
  rw [show wr (rs x.2.1 x.2.2.1 now (l.filter fun y=> !kT x y)+x.2.2.2.1)=rs x.2.1 x.2.2.1 now (l.filter fun y=> !kT x y)+x.2.2.2.1 from wri (by omega) (by omega)] at c3
  refine ⟨by simp only [bXp,bYg];omega,?_,?_,?_⟩
  ·intro y hy
   rcases bW5.1 hy with hy | hy
   ·exact hf.val y hy
   ·rw [bW3.1 hy];exact c1
  ·intro y hy
   rw [bGj]
   simp only [rs]
   rcases bW5.1 hy with hy | hy
   ·have h1:=hf.rate y hy
    cases ha:atR x y.2.1 y.2.2.1 with
    | false=>simp only [Bool.false_and,bW2,zU];omega
    | true=>
     have ha':=ha
     unfold atR at ha'
     simp only [bWw,beq_iff_eq] at ha'
     rw [← ha'.1,← ha'.2]
     split<;>omega
   ·rw [bW3.1 hy];split<;>omega
  ·rw [bZ8]
   refine ⟨hf.pw,List.pairwise_singleton _ _,fun y hy z hz=> ?_⟩
   rw [bW3.1 hz,aIv]
   have :=(bXc.1 hy).2
   simpa using this

theorem bHz {l:lUs} {id s d:Int} (z:lUs):place (l++z) id s d=if place l id s d<0 then plc id s d l.length z else place l id s d:=by
 rw [aDx,aDx,aZi,bXv]

theorem bBg {l m:lUs} {id s d:Int} (h:l.map (fun x=>(x.1,x.2.1,x.2.2.1))=m.map (fun x=>(x.1,x.2.1,x.2.2.1))):place l id s d=place m id s d:=by
 rw [aDx,aDx,aVw l m 0 h]

theorem bCb (l:lUs) (id s d:Int):(place l id s d= -1∧(∀ x∈l,jJ id s d x=false)∧tR l id s d=0∧vW l id s d=l++[(id,s,d,1)])∨
  ∃ (j:Nat) (x:den tUs),place l id s d=(j:Int)∧l[j]? =some x∧jJ id s d x=true∧tR l id s d=x.2.2.2∧vW l id s d=l.set j (x.1,x.2.1,x.2.2.1,wr (x.2.2.2+1)):=by
 rcases bCl l id s d with ⟨h1,h2⟩ | ⟨j,x,h1,h2,h3⟩
 ·refine .inl ⟨h1,h2,?_,?_⟩
  ·unfold tR;rw [h1,zT (by decide)]
  ·unfold vW;rw [h1,zT (by decide)]
 ·refine .inr ⟨j,x,h1,h2,h3,?_,?_⟩
  ·unfold tR;rw [h1,zS (by omega),bW4,h2];rfl
  ·unfold vW;rw [h1,zS (by omega),bW4];simp only [h2]

theorem bLd {l:lUs} {j:Nat} {x:den tUs} (h:l[j]? =some x) (c:Int):(l.set j (x.1,x.2.1,x.2.2.1,c)).map (fun x=>(x.1,x.2.1,x.2.2.1))=l.map (fun x=>(x.1,x.2.1,x.2.2.1)):=by
 rw [List.map_set]
 apply List.ext_getElem?
 intro i
 by_cases hij:j=i
 ·subst hij
  obtain ⟨hlt,rfl⟩:=bW1.1 h
  rw [bY7 (by simpa using hlt),bY2,bWu hlt];rfl
 ·rw [bZn hij]

theorem aRq.more {g:den tSc} {now id s d:Int} (h:aRq g now) (hu:tR g.2.2 id s d<oY g id s d now) (hb:oY g id s d now<=1000000):aRq (g.1,g.2.1,vW g.2.2 id s d) now:=by
 have hr: ∀ i s d,oY (g.1,g.2.1,vW g.2.2 id s d) i s d now=oY g i s d now:=fun _ _ _=>rfl
 intro j x hx
 have hx:(vW g.2.2 id s d)[j]? =some x:=hx
 show place (vW g.2.2 id s d) x.1 x.2.1 x.2.2.1=(j:Int)∧(1:Int)<=x.2.2.2∧oY g x.1 x.2.1 x.2.2.1 now>=x.2.2.2
 rcases bCb g.2.2 id s d with ⟨h1,h2,h3,h4⟩ | ⟨i,y,h1,h2,h3,h4,h5⟩
 ·rw [h4] at hx ⊢
  rw [bHz]
  by_cases hj:j<g.2.2.length
  ·rw [bZz hj] at hx
   obtain ⟨a,b,c⟩:=h j x hx
   rw [a,zS (by omega)]
   exact ⟨rfl,b,c⟩
  ·rw [List.getElem?_append_right (by omega)] at hx
   have hj0:j - g.2.2.length=0:=by
    cases hk:j - g.2.2.length with
    | zero=>rfl
    | succ k=>rw [hk] at hx;simp at hx
   rw [hj0] at hx
   simp only [bZo,Option.some.injEq] at hx
   subst hx
   have hj':j=g.2.2.length:=by omega
   simp only
   rw [h1,zT (by decide),hj']
   refine ⟨?_,bX3 1,?_⟩
   ·unfold plc
    rw [zT (show jJ id s d (id,s,d,1)=true from aLo.2 ⟨rfl,rfl,rfl⟩)]
   ·rw [h3] at hu;omega
 ·rw [h5] at hx ⊢
  rw [bBg (bLd h2 _)]
  by_cases hij:i=j
  ·subst hij
   rw [bY7 (bW1.1 h2).1] at hx
   simp only [Option.some.injEq] at hx
   subst hx
   obtain ⟨a,b,c⟩:=h i y h2
   obtain ⟨k1,k2,k3⟩:=aLo.1 h3
   simp only
   rw [k1,k2,k3] at a c ⊢
   rw [h4] at hu
   have hw:wr (y.2.2.2+1)=y.2.2.2+1:=wri (by omega) (by omega)
   rw [hw]
   exact ⟨a,by omega,by omega⟩
  ·rw [bZn hij] at hx
   exact h j x hx

def rr (id s d now:Int):lRs→Int
 | []=>0
 | x::l=>if x.1==id&&(atR x s d&&decide (now<=x.2.2.2.2)) then x.2.2.2.1 else rr id s d now l

theorem bDc (l:lRs) (id s d now:Int):zL l id s d now=rr id s d now l:=by
 unfold zL
 have : ∀ (l:lRs) (k:Nat),(match cE (fun _ (x:den tRs)=>if x.1==id&&(atR x s d&&decide (now<=x.2.2.2.2)) then some x.2.2.2.1 else none) k l with
  | some r=>r
  | none=>0)=rr id s d now l:=by
  intro l
  induction l with
  | nil=>intro k;rfl
  | cons x l ih=>
   intro k
   cases hp:(x.1==id&&(atR x s d&&decide (now<=x.2.2.2.2))) with
   | true=>simp only [cE,rr,hp,zV]
   | false=>simp only [cE,rr,hp];exact ih (k+1)
 exact this l 0

theorem bHt {id s d now:Int}: ∀ {l:lRs},(∀ x∈l,(0:Int)<=x.2.2.2.1∧(20:Int)>=x.2.2.2.1)→0<=rr id s d now l∧rr id s d now l<=20
 | [],_=>by simp [rr]
 | x::l,h=>by
  have ih:=bHt (id:=id) (s:=s) (d:=d) (now:=now) (l:=l) fun y hy=>h y (bW8 _ hy)
  have hx:=h x (by simp)
  unfold rr
  split<;>omega

theorem bMu {s d now:Int}: ∀ {l:lRs},rs s d now l=0∨ ∃ x∈l,x.2.1=s∧x.2.2.1=d
 | []=> .inl rfl
 | x::l=>by
  by_cases ha:atR x s d=true
  ·unfold atR at ha
   simp only [bWw,beq_iff_eq] at ha
   exact .inr ⟨x,by simp,ha⟩
  ·rcases bMu (s:=s) (d:=d) (now:=now) (l:=l) with h | ⟨y,hy,h⟩
   ·left
    unfold rs
    rw [h];simp [ha]
   ·exact .inr ⟨y,bW8 _ hy,h⟩

theorem tF.rs_le {l:lRs} {cap now:Int} (h:tF l cap now) (hc:0<=cap) (s d:Int):rs s d now l<=cap:=by
 rcases bMu (s:=s) (d:=d) (now:=now) (l:=l) with h0 | ⟨x,hx,h1,h2⟩
 ·omega
 ·have :=h.rate x hx;rw [h1,h2] at this;exact this

theorem bPp {l:lRs} {cap now:Int} (h:tF l cap now) (hc:1<=cap∧cap<=20) (s d:Int):free l cap s d now=cap - rs s d now l:=by
 have h1:=h.rs_le (by omega) s d
 have h2:=aPo (s:=s) (d:=d) (now:=now) (vF h.val)
 unfold free
 rw [aLz (vF h.val) (by have :=h.len;omega),show wr (cap - rs s d now l)=cap - rs s d now l from wri (by omega) (by omega)]
 split<;>omega


structure OkS (g:den tSc) (now:Int):Prop where
 lo:(1:Int)<=g.1
 hi:(20:Int)>=g.1
 res:tF g.2.1 g.1 now
 use:aRq g now

theorem bPr {g:den tSc} {now:Int}:aD8 g now=true↔OkS g now:=by
 rw [bCd,bKo]
 exact ⟨fun ⟨a,b,c,d⟩=>⟨a,b,c,d⟩,fun ⟨a,b,c,d⟩=>⟨a,b,c,d⟩⟩

theorem OkS.rate_le {g:den tSc} {now:Int} (h:OkS g now) (id s d:Int):0<=oY g id s d now∧oY g id s d now<=20:=by
 unfold oY
 split
 ·rw [bPp h.res ⟨h.lo,h.hi⟩]
  have h1:=h.res.rs_le (by have :=h.lo;omega) s d
  have h2:=aPo (s:=s) (d:=d) (now:=now) (vF h.res.val)
  have :=h.hi
  omega
 ·rw [bDc];exact bHt (vF h.res.val)


abbrev bUj (p:Int×Bool×lRs×lUs):den tSc:=(p.1,p.2.2.1,p.2.2.2)

theorem OkS.trans {g:den tSc} {now:Int} (h:OkS g now) (id s d:Int):OkS (bUj (rN g id s d now)) now:=by
 unfold rN
 split
 ·rename_i hu
  exact ⟨h.lo,h.hi,h.res,h.use.more hu (by have :=h.rate_le id s d;omega)⟩
 ·split
  ·rename_i hu
   exact ⟨h.lo,h.hi,h.res,h.use.more hu (by have :=h.rate_le 0 s d;omega)⟩
  ·exact h

theorem OkS.pw {g:den tSc} {now:Int} (h:OkS g now):g.2.2.Pairwise fun x y=>jJ x.1 x.2.1 x.2.2.1 y=false:=by
 rw [bYp]
 intro i j hi hj hij
 cases hs:jJ g.2.2[i].1 g.2.2[i].2.1 g.2.2[i].2.2.1 g.2.2[j] with
 | false=>rfl
 | true=>
  obtain ⟨k1,k2,k3⟩:=aLo.1 hs
  have a:=(h.use i _ (bWu hi)).1
  have b:=(h.use j _ (bWu hj)).1
  rw [k1,k2,k3,a] at b
  omega

theorem bP0 {l:lRs} {x:den tRs} {cap now:Int} (h:l.length<=1000000): ∃ b,aBc l x cap now=some (b,admR l x cap now):=by
 have hf:(l.filter fun y=> !kT x y).length<=1000000:=bWv (bZp ..) h
 unfold aBc admR pj5 zz4
 rw [show ((x.1,x.2.1,x.2.2.1,x.2.2.2.1,x.2.2.2.2):den tRs)=x from rfl,bGh (by omega),aA,bJj,aA,bFm (by omega),aA]
 rw [aD (b:=40) (by decide) (by simp;omega),aD (b:=40) (by decide) (by omega)]
 cases c1:tZ x
 ·exact ⟨false,by simp⟩
 ·cases c2:decide (x.2.2.2.2<now)
  ·cases c3:decide (wr (rate (l.filter fun y=> !kT x y) x.2.1 x.2.2.1 now+x.2.2.2.1)>cap)
   ·cases c4:decide (((l.filter fun y=> !kT x y).length:Int)>=40)
    ·exact ⟨true,by simp only [bWx,zY,zZ,aA,bYm,bW2,zU]⟩
    ·exact ⟨false,by simp [aA]⟩
   ·exact ⟨false,by simp [aA]⟩
  ·exact ⟨false,by simp [aA]⟩

theorem aC5 {l:List Int} {n x:Int} (h:x∈oU l n):x=n∨x∈l:=by
 unfold oU at h
 split at h
 ·exact .inr h
 ·simp only [bW5,bW3] at h
  rcases h with (h | h) | h
  ·exact .inr (bYe h)
  ·exact .inl h
  ·exact .inr (bYi h)

theorem bGq {r d:Int} {x:den tLk} {a:List Int} (h:d∈nM r x a):cV x r d=true∨d∈a:=by
 unfold nM at h
 unfold cV
 cases c1:x.1==r<;>cases c2:x.2.2.1==r<;>rw [c1,c2] at h<;>simp only [zZ,zY] at h
 ·exact .inr h
 ·rcases aC5 h with e | h
  ·left;simp [e]
  ·exact .inr h
 ·rcases aC5 h with e | h
  ·left;simp [e]
  ·exact .inr h
 ·rcases aC5 h with e | h
  ·left;simp [e]
  ·rcases aC5 h with e | h
   ·left;simp [e]
   ·exact .inr h

theorem bEn {t:den tTo} {r d:Int} (h:d∈fV t r): ∃ x∈t.2,cV x r d=true:=by
 have : ∀ (l:lLk) (k:Nat) (a:List Int),d∈cN (fun _ x a=>nM r x a) k l a→(∃ x∈l,cV x r d=true)∨d∈a:=by
  intro l
  induction l with
  | nil=>intro k a h;exact .inr h
  | cons x l ih=>
   intro k a h
   rcases ih (k+1) (nM r x a) h with ⟨y,hy,e⟩ | h
   ·exact .inl ⟨y,bW8 _ hy,e⟩
   ·rcases bGq h with e | h
    ·exact .inl ⟨x,by simp,e⟩
    ·exact .inr h
 rcases this t.2 0 [] h with h | h
 ·exact h
 ·cases h

theorem aVh {t:den tTo} {r d:Int} (h: ∃ x∈t.2,cV x r d=true): ∃ (j:Nat) (x:den tLk),pA t r d=(j:Int)∧t.2[j]? =some x∧cV x r d=true:=by
 rcases aD1 t r d with e | h
 ·exfalso
  have : ∀ (l:lLk) (k:Nat),(∃ x∈l,cV x r d=true)→ ∃ i,cE (fun k x=>if cV x r d then some ((k:Nat):Int) else none) k l=some i∧0<=i:=by
   intro l
   induction l with
   | nil=>rintro k ⟨x,hx,_⟩;cases hx
   | cons y l ih=>
    rintro k ⟨x,hx,hxe⟩
    cases c:cV y r d with
    | true=>exact ⟨(k:Int),by simp [cE,c],by omega⟩
    | false=>
     rcases bWz.1 hx with rfl | hx
     ·rw [c] at hxe;cases hxe
     ·obtain ⟨i,h1,h2⟩:=ih (k+1) ⟨x,hx,hxe⟩
      exact ⟨i,by simp only [cE,c];exact h1,h2⟩
  obtain ⟨i,h1,h2⟩:=this t.2 0 h
  unfold pA at e
  rw [h1] at e
  have e:i= -1:=e
  omega
 ·exact h


theorem bG6 {t:den tTo} (hv: ∀ x∈t.2,yH t x=true) {r d:Int} (h:d∈fV t r):cX t (remote t r d).1=true:=by
 obtain ⟨j,x,e,hx,he⟩:=aVh (bEn h)
 have hl:=hv x (bW6 hx)
 unfold remote
 rw [e,zS (by omega),bW4,hx]
 unfold yH at hl
 simp only [bWw] at hl
 unfold bD0
 simp only [bXs]
 cases x.1==r&&x.2.1==d with
 | true=>exact hl.2.1
 | false=>exact hl.1

theorem bE7 {t:den tTo} {r k:Int} (h:t.2.length<=1000000): ∃ l,gY t r k=some l∧l.length<=2 * t.2.length∧ ∀ d∈l,d∈fV t r:=by
 have hd:=aDz t r
 unfold gY ixb pj2
 rw [show ((t.1,t.2):den tTo)=t from rfl,aLx (t:=t) (by omega),aA]
 refine cC (G:=fun o=> ∃ l,o=some l∧l.length<=2 * t.2.length∧ ∀ d∈l,d∈fV t r) (fV t r).length (fun s:Int×List Int=>s.1) (fun i s=>s.2.length<=i∧ ∀ d∈s.2,d∈fV t r) (fun l:List Int=>l.length<=2 * t.2.length∧ ∀ d∈l,d∈fV t r) ?_ ?_ 0 ((0:Int),[]) (by omega) rfl ⟨by simp,fun d hd=>(bXi hd).elim⟩ (fun l hl=>⟨l,rfl,hl⟩)
 ·rintro i ⟨_,l⟩ hi rfl ⟨h1,h2⟩
  right
  simp only at h1 h2
  simp only [zX (show (i:Int)<((fV t r).length:Int) by omega),zX (show (0:Int)<=(i:Int) by omega),zZ,bW4,bWu hi,aA,aQt (t:=t) (show t.2.length<=68719476736 by omega),bN (show i<=1000000000 by omega)]
  rw [aD (b:=8) (n:=l.length) (m:=1) (by decide) (by omega),zZ]
  cases aAr t r (fV t r)[i]==k with
  | true=>exact ⟨_,rfl,rfl,by simp;omega,fun d hd=>by
    rcases bW5.1 hd with hd | hd
    ·exact h2 d hd
    ·rw [bW3.1 hd];exact bXa hi⟩
  | false=>exact ⟨_,rfl,rfl,by show l.length<=i+1;omega,h2⟩
 ·rintro ⟨_,l⟩ rfl ⟨h1,h2⟩
  exact ⟨l,by simp only [zW (bXh _),zY],by simp only at h1;omega,h2⟩

theorem aGl (l:List Int) (n:Int):n∈oU l n:=by
 unfold oU
 split
 ·next h=>exact bW6 h
 ·simp

theorem aCy {l:List Int} {n x:Int} (h:x∈l):x∈oU l n:=by
 unfold oU
 split
 ·exact h
 ·rw [← bYj (jT l n) l] at h
  simp only [bW5,bW3] at h ⊢
  rcases h with h | h
  ·exact .inl (.inl h)
  ·exact .inr h

theorem bKd {l:List Int} {n:Int} (h:n∉l):(oU l n).length=l.length+1:=by
 unfold oU
 rw [zS (fun e=>h (bW6 e))]
 have :=aQj l n
 simp
 omega

theorem bF9 {r d:Int} {x:den tLk} {a:List Int} (h:d∈a):d∈nM r x a:=by
 unfold nM
 cases x.2.2.1==r<;>cases x.1==r<;>simp only [zZ,zY]
 ·exact h
 ·exact aCy h
 ·exact aCy h
 ·exact aCy (aCy h)

theorem bFi {r d:Int} {x:den tLk} {a:List Int} (h:cV x r d=true):d∈nM r x a:=by
 unfold cV at h
 unfold nM
 simp only [bYa,bWw] at h
 rcases h with ⟨h1,h2⟩ | ⟨h1,h2⟩
 ·rw [h1,eq_of_beq h2]
  cases x.2.2.1==r<;>simp only [zZ,zY]
  ·exact aGl _ _
  ·exact aCy (aGl _ _)
 ·rw [h1,eq_of_beq h2]
  cases x.1==r<;>simp only [zZ,zY]<;>exact aGl _ _

theorem aH8 (as:lAS) (ls:lLk) (r:Int):fV (as,ls) r=ls.foldl (fun a x=>nM r x a) []:=vE (fun a x=>nM r x a) ls 0 []

theorem bGe {as:lAS} {ls:lLk} {r d:Int} {x:den tLk} (hx:x∈ls) (h:cV x r d=true):d∈fV (as,ls) r:=by
 rw [aH8]
 have keep: ∀ (l:lLk) (a:List Int),d∈a→d∈l.foldl (fun a x=>nM r x a) a:=by
  intro l
  induction l with
  | nil=>exact fun a h=>h
  | cons y l ih=>exact fun a h=>ih _ (bF9 h)
 have : ∀ (l:lLk) (a:List Int),x∈l→d∈l.foldl (fun a x=>nM r x a) a:=by
  intro l
  induction l with
  | nil=>exact fun a h=>(bXi h).elim
  | cons y l ih=>
   intro a hm
   rcases bWz.1 hm with rfl | hm
   ·exact keep l _ (bFi h)
   ·exact ih _ hm
 exact this ls [] hx


structure qR (ls:lLk):Prop where
 num: ∀ r d:Int,d∈fV ([],ls) r→1<=d∧d<=((fV ([],ls) r).length:Int)
 pw:ls.Pairwise fun y x=>cV y x.1 x.2.1=false∧cV y x.2.2.1 x.2.2.2.1=false

theorem bD6:qR []:=⟨fun r d h=>(bXi h).elim,List.Pairwise.nil⟩

theorem qR.no {ls:lLk} (h:qR ls) {y:den tLk} (hy:y∈ls) (r:Int):cV y r (((fV ([],ls) r).length:Int)+1)=false:=by
 cases e:cV y r (((fV ([],ls) r).length:Int)+1) with
 | false=>rfl
 | true=>have :=(h.num r _ (bGe hy e)).2;omega

theorem qR.grow {L:List Int} (h: ∀ d∈L,(1:Int)<=d∧d<=(L.length:Int)): ∀ d∈oU L ((L.length:Int)+1),(1:Int)<=d∧d<=((oU L ((L.length:Int)+1)).length:Int):=by
 have hn:((L.length:Int)+1)∉L:=fun e=>by have :=(h _ e).2;omega
 rw [bKd hn]
 intro d hd
 rcases aC5 hd with rfl | hd
 ·omega
 ·have :=h d hd;omega

theorem qR.snoc {ls:lLk} (h:qR ls) {a b:Int} (hab:a≠b) (k:Int):qR (ls++[(a,((fV ([],ls) a).length:Int)+1,b,((fV ([],ls) b).length:Int)+1,k)]):=by
 constructor
 ·intro r
  rw [aH8,List.foldl_append,← aH8]
  show ∀ d,d∈nM r _ _→_∧_<=((nM r _ _).length:Int)
  unfold nM
  by_cases ha:a=r
  ·subst ha
   have hb:(b==a)=false:=by simp;exact fun e=>hab e.symm
   simp only [hb,beq_self_eq_true,zZ,zY]
   exact qR.grow (h.num a)
  ·have ha':(a==r)=false:=by simpa using ha
   by_cases hb:b=r
   ·subst hb
    simp only [ha',beq_self_eq_true,zZ,zY]
    exact qR.grow (h.num b)
   ·have hb':(b==r)=false:=by simpa using hb
    simp only [ha',hb',zY]
    exact h.num r
 ·rw [bZ8]
  refine ⟨h.pw,List.pairwise_singleton _ _,fun y hy x hx=> ?_⟩
  rw [bW3.1 hx]
  exact ⟨h.no hy a,h.no hy b⟩

theorem aG2 {t:den tTo} {a b k:Int} (h:t.2.length<=1000000) (hab:a≠b) (hf:qR t.2): ∃ ls,tU t a b k=some (t.1,ls)∧ls.length<=t.2.length+1∧qR ls:=by
 have la:=aDz t a
 have lb:=aDz t b
 unfold tU pj2
 rw [show ((t.1,t.2):den tTo)=t from rfl,aLx (t:=t) (by omega),aLx (t:=t) (by omega),aA,aA,aD (b:=40) (n:=t.2.length) (m:=1) (by decide) (by omega)]
 have w1:wr (((fV t a).length:Int)+1)=((fV t a).length:Int)+1:=bI (by omega) (by omega)
 have w2:wr (((fV t b).length:Int)+1)=((fV t b).length:Int)+1:=bI (by omega) (by omega)
 cases decide (wr (((fV t a).length:Int)+1)<=6) with
 | false=>exact ⟨t.2,rfl,by omega,hf⟩
 | true=>
  cases decide (wr (((fV t b).length:Int)+1)<=6) with
  | false=>exact ⟨t.2,rfl,by omega,hf⟩
  | true=>
   refine ⟨t.2++[(a,wr (((fV t a).length:Int)+1),b,wr (((fV t b).length:Int)+1),k)],rfl,by simp,?_⟩
   rw [w1,w2]
   exact hf.snoc hab k


def AsI (as:lAS):Prop:= ∀ (j:Nat) (x:den tAS),as[j]? =some x→((0:Int)<=x.1∧(1:Int)>=x.1)∧ ∃ v:Int,0<=v∧v<1000000∧1+8 * v+(j:Int)=x.2.2

theorem bQl:AsI []:=fun j x h=>by simp at h

theorem AsI.snoc {as:lAS} (h:AsI as) {d v:Int} {b:Bool} (hd:0<=d∧1>=d) (hv:0<=v∧v<1000000):AsI (as++[(d,b,1+8 * v+(as.length:Int))]):=by
 intro j x hx
 rw [List.getElem?_append] at hx
 split at hx
 ·exact h j x hx
 ·next hj=>
  have hj0:j - as.length=0:=by
   have :=(bW1.1 hx).1
   simp at this
   omega
  rw [hj0] at hx
  simp only [bZo,Option.some.injEq] at hx
  subst hx
  exact ⟨hd,v,hv.1,hv.2,by show 1+8 * v+(j:Int)=1+8 * v+(as.length:Int);omega⟩

theorem AsI.set {as:lAS} (h:AsI as) {i q:Nat} (hi:i<as.length) (hq:q<as.length):AsI (as.set i (as[q].1,as[i].2.1,as[i].2.2)):=by
 intro j x hx
 rw [bY5] at hx
 split at hx
 ·next e=>
  subst e
  simp only [hi,zV,Option.some.injEq] at hx
  subst hx
  exact ⟨(h q as[q] (bWu hq)).1,(h i as[i] (bWu hi)).2⟩
 ·exact h j x hx

theorem aZz {α:Type} (p:Nat→α→Bool) {l:List α} (h: ∀ (j:Nat) (x:α),l[j]? =some x→p j x=true):(l.zipIdx 0).all (fun z=>p z.2 z.1)=true:=by
 rw [bXk]
 rintro ⟨x,j⟩ hm
 exact h j x (by simpa using List.mem_zipIdx_iff_getElem?.1 hm)

theorem aGr {α:Type} {l:List α} {j:Nat} {y:α} (h:y∈l.take j): ∃ i,i<j∧l[i]? =some y:=by
 obtain ⟨i,hi⟩:=bZ7.1 h
 rw [bX8] at hi
 split at hi
 ·next c=>exact ⟨i,c,hi⟩
 ·cases hi

theorem bP6 {as:lAS} {ls:lLk} (h1:1<=as.length) (h8:as.length<=8) (ha:AsI as) (hv: ∀ x∈ls,yH (as,ls) x=true) (hp:ls.Pairwise fun y x=>cV y x.1 x.2.1=false∧cV y x.2.2.1 x.2.2.2.1=false):aBy (as,ls)=true:=by
 unfold aBy
 rw [bWw,bWw]
 refine ⟨?_,?_,?_⟩
 ·simp only [inR,bWw,zR];omega
 ·refine aZz (asP (as,ls)) (l:=as) fun j x hx=> ?_
  obtain ⟨⟨a0,a1⟩,v,v0,v1,v2⟩:=ha j x hx
  have hj:j<as.length:=(bW1.1 hx).1
  have v2:1+8 * v+(j:Int)=x.2.2:=v2
  unfold asP
  simp only [bWw,inR,zR]
  refine ⟨⟨a0,show (2:Int)>=x.1 by omega⟩,⟨show (1:Int)<=x.2.2 by omega,show (2147483646:Int)>=x.2.2 by omega⟩,bXk.2 fun y hy=> ?_⟩
  obtain ⟨i,hi,hy⟩:=aGr hy
  obtain ⟨_,w,w0,w1,w2⟩:=ha i y hy
  have w2:1+8 * w+(i:Int)=y.2.2:=w2
  have :x.2.2≠y.2.2:=fun e=>by
   have e:1+8 * v+(j:Int)=1+8 * w+(i:Int):=v2.trans (e.trans w2.symm)
   omega
  simpa using this
 ·refine aZz (lkP (as,ls)) (l:=ls) fun j x hx=> ?_
  unfold lkP
  rw [bWw]
  refine ⟨hv x (bW6 hx),bXk.2 fun y hy=> ?_⟩
  obtain ⟨i,hi,hy⟩:=aGr hy
  obtain ⟨hi',ei⟩:=bW1.1 hy
  obtain ⟨hj',ej⟩:=bW1.1 hx
  have :=(bYp.1 hp) i j hi' hj' hi
  rw [ei,ej] at this
  simp [this.1,this.2]


structure yF (as:lAS) (ls:lLk):Prop where
 pos:1<=as.length
 len:as.length<=8
 links:ls.length<=100
 val: ∀ x∈ls,yH (as,ls) x=true
 top:aBy (as,ls)=true

def aVr (code:List Int) (o:Option (lAS×lLk×List Int×q24)):Prop:= ∃ as ls c' p' h',o=some (as,ls,c',p',h')∧yF as ls∧Cur code (c',p',h')

def T3I (code:List Int) (n:Nat) (i:Nat) (s:Int×lAS×lLk×List Int×q24):Prop:=(s.2.1.length=n∧AsI s.2.1∧qR s.2.2.1)∧s.2.2.1.length<=10 * i∧Cur code s.2.2.2

theorem aY4 {code:List Int} (hl:code.length<=1048576) {c:List Int} {p h:Int} (hc:Cur code (c,p,h)):aVr code (vN (c,p,h)):=by
 obtain ⟨v1,c1,p1,h1,e1,r1,k1⟩:=aY hl (n:=3) (by decide) (by decide) hc
 obtain ⟨v2,c2,p2,h2,e2,r2,k2⟩:=aY hl (n:=6) (by decide) (by decide) k1
 obtain ⟨m1,rfl⟩:=bXq r1.1
 obtain ⟨m2,rfl⟩:=bXq r2.1
 have w1:wr ((1:Int)+(m1:Int))=((m1+1:Nat):Int):=by rw [bI (by omega) (by omega)];omega
 have w2:wr (((m1+1:Nat):Int)+(m2:Int))=((m1+1+m2:Nat):Int):=by rw [bI (by omega) (by omega)];omega
 unfold vN ixb pj2 pj3 pj4 pj5
 simp only [e1,e2,aA,aV,bK,bA,aZ,bD,w1,w2]
 generalize hco:m1+1=co at *
 generalize hn:co+m2=n at *
 have hco1:1<=co:=by omega
 have hcn:co<=n:=by omega
 have hn8:n<=8:=by omega
 refine cC (G:=aVr code) n (fun s:Int×lAS×List Int×Int×Int=>s.1) (fun i s=>(s.2.1.length=i∧AsI s.2.1)∧Cur code s.2.2) (fun r:lAS×List Int×Int×Int=>(r.1.length=n∧AsI r.1)∧Cur code r.2) ?_ ?_ 0 ((0:Int),[],c2,p2,h2) (by omega) rfl ⟨⟨rfl,bQl⟩,k2⟩ ?_
 ·rintro i ⟨_,as,c3,p3,h3⟩ hi rfl ⟨⟨a1,a3⟩,a2⟩
  simp only at a1 a2 a3
  right
  obtain ⟨v4,c4,p4,h4,e4,r4,k4⟩:=aY hl (n:=2) (by decide) (by decide) a2
  obtain ⟨v5,c5,p5,h5,e5,r5,k5⟩:=aG6 hl (n:=1000000) (by decide) k4
  refine ⟨(((i+1:Nat):Int),as++[(v4,decide ((i:Int)<((co:Nat):Int)),wr ((wr ((1:Int)+(wr (v5 * (8:Int)))))+(i:Int)))],c5,p5,h5),?_,rfl,⟨by simp [a1],?_⟩,k5⟩
  simp only [zX (show (i:Int)<(n:Int) by omega),zZ,e4,e5,aA,aD (b:=24) (n:=as.length) (m:=1) (by decide) (by omega),bN (show i<=1000000000 by omega)]
  have e:wr ((wr ((1:Int)+(wr (v5 * (8:Int)))))+(i:Int))=1+8 * v5+(as.length:Int):=by
   rw [bI (n:=v5 * 8) (by omega) (by omega),bI (n:=1+v5 * 8) (by omega) (by omega),bI (by omega) (by omega)]
   omega
  show AsI (as++[_])
  rw [e]
  exact a3.snoc ⟨by omega,by omega⟩ ⟨by omega,by omega⟩
 ·rintro ⟨_,as,c3,p3,h3⟩ rfl ⟨a1,a2⟩
  exact ⟨(as,c3,p3,h3),by simp only [zW (bXh _),zY],a1,a2⟩
 rintro ⟨as,c3,p3,h3⟩ ⟨⟨a1,a3⟩,a2⟩
 simp only at a1 a2 a3
 refine cC (G:=aVr code) co (fun s:Int×lAS×lLk×List Int×Int×Int=>s.1) (fun i s=>1<=i∧T3I code n i s) (fun r:lAS×lLk×List Int×Int×Int=>(r.1.length=n∧AsI r.1∧qR r.2.1)∧r.2.1.length<=10 * co∧Cur code r.2.2) ?_ ?_ 1 ((1:Int),as,[],c3,p3,h3) hco1 rfl ⟨bXb 1,⟨a1,a3,bD6⟩,by simp,a2⟩ ?_
 ·rintro i ⟨_,as,ls,c4,p4,h4⟩ hi rfl ⟨b0,b1,b2,b3⟩
  simp only at b1 b2 b3
  right
  obtain ⟨v5,c5,p5,h5,e5,r5,k5⟩:=aY hl (n:=(i:Int)) (by omega) (by omega) b3
  obtain ⟨l6,e6,r6,f6⟩:=aG2 (t:=(as,ls)) (a:=v5) (b:=(i:Int)) (k:=1) (by show ls.length<=_;omega) (by omega) b1.2.2
  obtain ⟨v7,c7,p7,h7,e7,k7⟩:=tA hl (n:=2) (by decide) (by decide) k5
  simp only at e6 r6
  cases v7 with
  | false=>
   refine ⟨(((i+1:Nat):Int),as,l6,c7,p7,h7),?_,rfl,by omega,⟨b1.1,b1.2.1,f6⟩,by simp only;omega,k7⟩
   simp only [zX (show (i:Int)<(co:Int) by omega),zZ,zY,e5,e6,e7,aA,bN (show i<=1000000000 by omega)]
  | true=>
   obtain ⟨v8,c8,p8,h8,e8,r8,k8⟩:=aY hl (n:=(i:Int)) (by omega) (by omega) k7
   obtain ⟨l9,e9,r9,f9⟩:=aG2 (t:=(as,l6)) (a:=v8) (b:=(i:Int)) (k:=1) (by show l6.length<=_;omega) (by omega) f6
   simp only at e9 r9
   refine ⟨(((i+1:Nat):Int),as,l9,c8,p8,h8),?_,rfl,by omega,⟨b1.1,b1.2.1,f9⟩,by simp only;omega,k8⟩
   simp only [zX (show (i:Int)<(co:Int) by omega),zZ,e5,e6,e7,e8,e9,aA,bN (show i<=1000000000 by omega)]
 ·rintro ⟨_,as,ls,c4,p4,h4⟩ rfl ⟨b0,b1,b2,b3⟩
  exact ⟨(as,ls,c4,p4,h4),by simp only [zW (bXh _),zY],b1,b2,b3⟩
 rintro ⟨as,ls,c4,p4,h4⟩ ⟨b1,b2,b3⟩
 simp only at b1 b2 b3
 refine cC (G:=aVr code) n (fun s:Int×lAS×lLk×List Int×Int×Int=>s.1) (fun i s=>1<=i∧co<=i∧T3I code n i s) (fun r:lAS×lLk×List Int×Int×Int=>(r.1.length=n∧AsI r.1∧qR r.2.1)∧r.2.1.length<=10 * n∧Cur code r.2.2) ?_ ?_ co (((co:Nat):Int),as,ls,c4,p4,h4) hcn rfl ⟨hco1,bXb co,b1,b2,b3⟩ ?_
 ·rintro i ⟨_,as,ls,c5,p5,h5⟩ hi rfl ⟨d0,d1,⟨d2,d5,d6⟩,d3,d4⟩
  simp only at d2 d3 d4 d5 d6
  right
  have hlen:(as.length:Int)=(n:Int):=by omega
  obtain ⟨v6,c6,p6,h6,e6,r6,k6⟩:=aY hl (n:=2) (by decide) (by decide) d4
  obtain ⟨m6,rfl⟩:=bXq r6.1
  have w6:wr ((1:Int)+(m6:Int))=((m6+1:Nat):Int):=by rw [bI (by omega) (by omega)];omega
  simp only [hlen,zX (show (i:Int)<(n:Int) by omega),zZ,e6,w6,aA,Option.bind_assoc]
  refine mT (G:=fun o=> ∃ s',o=some (bWt s')∧s'.1=((i+1:Nat):Int)∧1<=i+1∧co<=i+1∧T3I code n (i+1) s') (fun (m:Nat) (s:Int×lAS×lLk×List Int×q24)=>s.1=(m:Int)∧m<=2∧(s.2.1.length=n∧AsI s.2.1∧qR s.2.2.1)∧s.2.2.1.length+m<=10 * i+2∧Cur code s.2.2.2) (fun r:lAS×lLk×List Int×Int×Int=>(r.1.length=n∧AsI r.1∧qR r.2.1)∧r.2.1.length<=10 * i+2∧Cur code r.2.2) ?_ (m6+1) (((m6+1:Nat):Int),as,ls,c6,p6,h6) ⟨rfl,by omega,⟨d2,d5,d6⟩,by simp only;omega,k6⟩ ?_
  ·rintro m ⟨_,as,ls,c7,p7,h7⟩ ⟨rfl,f1,⟨f2,f5,f6⟩,f3,f4⟩
   simp only at f2 f3 f4 f5 f6
   cases m with
   | zero=>exact .inl ⟨(as,ls,c7,p7,h7),rfl,⟨f2,f5,f6⟩,by simpa using f3,f4⟩
   | succ m=>
    right
    obtain ⟨v8,c8,p8,h8,e8,r8,k8⟩:=aY hl (n:=(i:Int)) (by omega) (by omega) f4
    obtain ⟨q8,rfl⟩:=bXq r8.1
    obtain ⟨v9,c9,p9,h9,e9,k9⟩:=tA hl (n:=5) (by decide) (by decide) k8
    have hq:q8<n:=by omega
    have hlen:(as.length:Int)=(n:Int):=by omega
    have hq1:as[q8]? =some (as[q8]'(by omega)):=bWu (by omega)
    have hi1:as[i]? =some (as[i]'(by omega)):=bWu (by omega)
    have wm:wr (((m+1:Nat):Int) - 1)=(m:Int):=by rw [bI (by omega) (by omega)];omega
    have fin: ∀ (as':lAS) (c p h:_),as'.length=n→AsI as'→Cur code (c,p,h)→ ∃ s',(Option.bind (cond (decide ((0:Int)<=(q8:Int))) (cond (decide ((q8:Int)<(as'.length:Int))) (Option.bind as'[((q8:Nat):Int).toNat]? fun x79=>cond (decide ((0:Int)<=(i:Int))) (cond (decide ((i:Int)<(as'.length:Int))) (Option.bind as'[((i:Nat):Int).toNat]? fun x80=>cond (x79.1==x80.1) (Option.bind (tU (as',ls) (q8:Int) (i:Int) (2:Int)) fun y81=>some (y81.1,y81.2,c,p,h)) (some (as',ls,c,p,h))) none) none) none) none) fun (s82:lAS×lLk×List Int×q24)=>some (bWt (wr (((m+1:Nat):Int) - (1:Int)),s82.1,s82.2.1,s82.2.2.1,s82.2.2.2.1,s82.2.2.2.2)):Option ((Int×lAS×lLk×List Int×q24)⊕(lAS×lLk×List Int×q24)))=some (bWt s')∧s'.1=(m:Int)∧m<=2∧(s'.2.1.length=n∧AsI s'.2.1∧qR s'.2.2.1)∧s'.2.2.1.length+m<=10 * i+2∧Cur code s'.2.2.2:=by
     intro as' c p h g1 g3 g2
     have hl':(as'.length:Int)=(n:Int):=by omega
     have hq1:as'[q8]? =some (as'[q8]'(by omega)):=bWu (by omega)
     have hi1:as'[i]? =some (as'[i]'(by omega)):=bWu (by omega)
     simp only [hl',zX (show (0:Int)<=(q8:Int) by omega),zX (show (q8:Int)<(n:Int) by omega),zX (show (0:Int)<=(i:Int) by omega),zX (show (i:Int)<(n:Int) by omega),zZ,bW4,hq1,hi1,aA,wm]
     obtain ⟨l6,e6,r6,z6⟩:=aG2 (t:=(as',ls)) (a:=(q8:Int)) (b:=(i:Int)) (k:=2) (by show ls.length<=_;omega) (by omega) f6
     simp only at e6 r6
     cases (as'[q8]'(by omega)).1==(as'[i]'(by omega)).1 with
     | true=>exact ⟨_,by simp only [zZ,e6,aA];rfl,rfl,by omega,⟨g1,g3,z6⟩,by simp only;omega,g2⟩
     | false=>exact ⟨_,by simp only [zY,aA];rfl,rfl,by omega,⟨g1,g3,f6⟩,by simp only;omega,g2⟩
    cases v9 with
    | true=>
     obtain ⟨s',g1,g2⟩:=fin as c9 p9 h9 f2 f5 k9
     refine ⟨m,s',by omega,?_,g2⟩
     rw [← g1]
     simp only [zX (show ((m+1:Nat):Int)>0 by omega),zZ,zY,e8,e9,aA,bWx]
    | false=>
     obtain ⟨s',g1,g2⟩:=fin (as.set i ((as[q8]'(by omega)).1,(as[i]'(by omega)).2.1,(as[i]'(by omega)).2.2)) c9 p9 h9 (by simp [f2]) (f5.set (by omega) (by omega)) k9
     refine ⟨m,s',by omega,?_,g2⟩
     rw [← g1]
     simp only [zX (show ((m+1:Nat):Int)>0 by omega),zZ,e8,e9,aA,bW7,hlen,zX (show (0:Int)<=(q8:Int) by omega),zX (show (q8:Int)<(n:Int) by omega),zX (show (0:Int)<=(i:Int) by omega),zX (show (i:Int)<(n:Int) by omega),bW4,hq1,hi1]
  ·rintro ⟨as,ls,c7,p7,h7⟩ ⟨⟨f1,f5,f6⟩,f2,f3⟩
   simp only at f1 f2 f3 f5 f6
   have w7:wr (wr ((i:Int) - (co:Int))+1)=((i - co+1:Nat):Int):=by rw [bI (n:=(i:Int) - (co:Int)) (by omega) (by omega),bI (by omega) (by omega)];omega
   obtain ⟨v8,c8,p8,h8,e8,r8,k8⟩:=aY hl (n:=((i - co+1:Nat):Int)) (by omega) (by omega) f3
   obtain ⟨v9,c9,p9,h9,e9,k9⟩:=tA hl (n:=3) (by decide) (by decide) k8
   simp only [w7,e8,aA,bN (show i<=1000000000 by omega)]
   cases hlt:decide (wr ((co:Int)+v8)<(i:Int)) with
   | false=>exact ⟨_,by simp only [zY,aA];rfl,rfl,by omega,by omega,⟨f1,f5,f6⟩,by simp only;omega,k8⟩
   | true=>
    have hlt':=of_decide_eq_true hlt
    obtain ⟨l6,e6,r6,z6⟩:=aG2 (t:=(as,ls)) (a:=wr ((co:Int)+v8)) (b:=(i:Int)) (k:=3) (by show ls.length<=_;omega) (by omega) f6
    simp only at e6 r6
    cases v9 with
    | false=>exact ⟨_,by simp only [zZ,zY,e9,aA];rfl,rfl,by omega,by omega,⟨f1,f5,f6⟩,by simp only;omega,k9⟩
    | true=>exact ⟨_,by simp only [zZ,e9,e6,aA];rfl,rfl,by omega,by omega,⟨f1,f5,z6⟩,by simp only;omega,k9⟩
 ·rintro ⟨_,as,ls,c5,p5,h5⟩ rfl ⟨d0,d1,⟨d2,d5⟩,d3,d4⟩
  simp only at d2 d3 d4 d5
  exact ⟨(as,ls,c5,p5,h5),by simp only [d2,zW (bXh _),zY],⟨d2,d5⟩,d3,d4⟩
 rintro ⟨as,ls,c5,p5,h5⟩ ⟨⟨d2,d5,d6⟩,d3,d4⟩
 simp only at d2 d3 d4 d5 d6
 refine cC (G:=aVr code) ls.length (fun s:Int×lLk=>s.1) (fun i s=>(s.2.length<=i∧List.Sublist s.2 (ls.take i))∧ ∀ x∈s.2,yH (as,ls) x=true) (fun r:lLk=>(r.length<=ls.length∧List.Sublist r ls)∧ ∀ x∈r,yH (as,ls) x=true) ?_ ?_ 0 ((0:Int),[]) (by omega) rfl ⟨⟨by simp,List.nil_sublist _⟩,fun d hd=>(bXi hd).elim⟩ ?_
 ·rintro i ⟨_,l⟩ hi rfl ⟨⟨g1,g3⟩,g2⟩
  simp only at g1 g2 g3
  right
  have htk:ls.take (i+1)=ls.take i++[ls[i]]:=(List.take_append_getElem hi).symm
  simp only [zX (show (i:Int)<(ls.length:Int) by omega),zX (show (0:Int)<=(i:Int) by omega),zZ,bW4,bWu hi,aA,aYx (t:=(as,ls)) (show as.length<=68719476736 by omega),bN (show i<=1000000000 by omega)]
  rw [aD (b:=40) (n:=l.length) (m:=1) (by decide) (by omega),zZ]
  cases hv:yH (as,ls) ls[i] with
  | true=>exact ⟨_,rfl,rfl,⟨by simp;omega,by rw [htk];exact g3.append (List.Sublist.refl _)⟩,fun x hx=>by
    rcases bW5.1 hx with hx | hx
    ·exact g2 x hx
    ·rw [bW3.1 hx];exact hv⟩
  | false=>exact ⟨_,rfl,rfl,⟨by show l.length<=i+1;omega,by rw [htk];exact g3.trans (List.sublist_append_left _ _)⟩,g2⟩
 ·rintro ⟨_,l⟩ rfl ⟨⟨g1,g3⟩,g2⟩
  exact ⟨l,by simp only [zW (bXh _),zY],⟨g1,g3.trans (List.take_sublist _ _)⟩,g2⟩
 rintro l ⟨⟨g1,g3⟩,g2⟩
 exact ⟨as,l,c5,p5,h5,rfl,⟨by omega,by omega,by omega,g2,bP6 (by omega) (by omega) d5 g2 (d6.pw.sublist g3)⟩,d4⟩

theorem aCs {s:den tSg} (h:s.2.2.length<=1000000): ∃ l,cY s=some l∧l.length=s.2.2.length:=by
 unfold cY
 refine cC (G:=fun o=> ∃ l,o=some l∧l.length=s.2.2.length) s.2.2.length (fun s:Int×List Int=>s.1) (fun i t=>t.2.length=i) (fun l:List Int=>l.length=s.2.2.length) ?_ ?_ 0 ((0:Int),[]) (by omega) rfl rfl (fun l hl=>⟨l,rfl,hl⟩)
 ·rintro i ⟨_,l⟩ hi rfl h1
  simp only at h1
  right
  refine ⟨(((i+1:Nat):Int),l++[s.2.2[i].1]),?_,rfl,by simp [h1]⟩
  simp only [zX (show (i:Int)<(s.2.2.length:Int) by omega),zZ,aH,bWu hi,aA,aD (b:=8) (n:=l.length) (m:=1) (by decide) (by omega),bN (show i<=1000000000 by omega)]
 ·rintro ⟨_,l⟩ rfl h1
  exact ⟨l,by simp only [zW (bXh _),zY],h1⟩

theorem bGf {s:den tSg} {n:Nat} (hn:n<=s.2.2.length) (h:s.2.2.length<=1000000): ∃ l,uW s (n:Int)=some l∧l.length=n:=by
 unfold uW zz4
 refine cC (G:=fun o=> ∃ l,o=some l∧l.length=n) n (fun s:Int×List Int=>s.1) (fun i t=>t.2.length=i) (fun l:List Int=>l.length=n) ?_ ?_ 0 ((0:Int),[]) (by omega) rfl rfl (fun l hl=>⟨l,rfl,hl⟩)
 ·rintro i ⟨_,l⟩ hi rfl h1
  simp only at h1
  right
  have hi':i<s.2.2.length:=by omega
  refine ⟨(((i+1:Nat):Int),l++[s.2.2[i].2.2.2.2]),?_,rfl,by simp [h1]⟩
  simp only [zX (show (i:Int)<(n:Int) by omega),zZ,aH,bWu hi',aA,aD (b:=8) (n:=l.length) (m:=1) (by decide) (by omega),bN (show i<=1000000000 by omega)]
 ·rintro ⟨_,l⟩ rfl h1
  exact ⟨l,by simp only [zW (bXh _),zY],h1⟩

theorem bFb {b:Int} {l:List Int} (h:l.length<=1000000): ∃ v,uL b l=some v:=by
 unfold uL
 refine cC (G:=fun o=> ∃ v,o=some v) l.length (fun s:Int×Int=>s.2) (fun i t=>True) (fun v:Int=>True) ?_ ?_ 0 (b,(0:Int)) (by omega) rfl trivial (fun v hv=>⟨v,rfl⟩)
 ·rintro i ⟨v,_⟩ hi rfl _
  right
  refine ⟨(aNt v l[i],((i+1:Nat):Int)),?_,rfl,trivial⟩
  simp only [zX (show (i:Int)<(l.length:Int) by omega),zZ,aH,bWu hi,aA,aVj,bN (show i<=1000000000 by omega)]
 ·rintro ⟨v,_⟩ rfl _
  exact ⟨v,by simp only [zW (bXh _),zY],trivial⟩

theorem aA6 {s:den tSg} (i:Int) (h:s.2.2.length<=1000000): ∃ v,gI s i=some v:=by
 unfold gI pj3
 rw [iH,aA]
 cases hc:inR i 0 (s.2.2.length:Int) with
 | false=>exact ⟨0,rfl⟩
 | true=>
  obtain ⟨h0,h1⟩:=bJ.1 hc
  obtain ⟨n,rfl⟩:=bXq h0
  obtain ⟨l,e,k⟩:=bGf (s:=s) (n:=n) (by omega) h
  obtain ⟨v,e2⟩:=bFb (b:=s.2.1) (l:=l) (by omega)
  refine ⟨v,?_⟩
  show Option.bind (uW s (n:Int)) _=_
  rw [e,aA,e2,aA]

theorem aXk (key ts b:Int) (h:den cG):fB key ts b h=some (h.1,h.2.1,h.2.2.1,h.2.2.2.1,aG9 key ts b h):=by
 unfold fB pj5
 rw [show ((h.1,h.2.1,h.2.2.1,h.2.2.2.1,h.2.2.2.2):den cG)=h from rfl,bEp,aA]

def bWe (code:List Int) (o:Option (Int×Int×cZ×List Int×q24)):Prop:= ∃ a b hs c' p' h',o=some (a,b,hs,c',p',h')∧hs.length<=5∧Cur code (c',p',h')


def aGc (hs:cZ):Prop:= ∀ x∈hs,(0:Int)<=x.1∧(8:Int)>x.1

def bWm (code:List Int) (o:Option (Int×Int×cZ×List Int×q24)):Prop:= ∃ a b hs c' p' h',o=some (a,b,hs,c',p',h')∧(hs.length<=5∧aGc hs)∧Cur code (c',p',h')

theorem aGc.snoc {hs:cZ} {x:den cG} (h:aGc hs) (hx:(0:Int)<=x.1∧(8:Int)>x.1):aGc (hs++[x]):=fun y hy=>(bW5.1 hy).elim (h y) fun hy=>by rw [bW3.1 hy];exact hx


def InN (n:Int) (hs:cZ):Prop:= ∀ x∈hs,(0:Int)<=x.1∧n>x.1

def bJi (n:Int) (code:List Int) (o:Option (Int×Int×cZ×List Int×q24)):Prop:= ∃ a b hs c' p' h',o=some (a,b,hs,c',p',h')∧(hs.length<=5∧InN n hs)∧Cur code (c',p',h')

theorem InN.snoc {n:Int} {hs:cZ} {x:den cG} (h:InN n hs) (hx:(0:Int)<=x.1∧n>x.1):InN n (hs++[x]):=fun y hy=>(bW5.1 hy).elim (h y) fun hy=>by rw [bW3.1 hy];exact hx

theorem InN.as {n:Int} {hs:cZ} (h:InN n hs) (hn:n<=8):aGc hs:=fun x hx=>⟨(h x hx).1,by have :=(h x hx).2;omega⟩

abbrev GrS:=Int×Int×Int×Int×Int×cZ×List Int×Int×Int

theorem aZw {code:List Int} (hl:code.length<=1048576) {as:lAS} {ls:lLk} (ht:yF as ls) (k:Int) {c:List Int} {p h:Int} (hc:Cur code (c,p,h)):bJi (as.length:Int) code (jE (c,p,h) (as,ls) k):=by
 have hlen:=ht.len
 have hlk:=ht.links
 unfold jE dd ixb one pj2 pj3 pj5 pj6 zz4 zz5 zz6
 simp only [aV,bK,bA,aZ,bD]
 refine cC (G:=bJi (as.length:Int) code) as.length (fun s:Int×List Int=>s.1) (fun i t=>t.2.length<=i∧ ∀ x∈t.2,0<=x∧x<(as.length:Int)) (fun r:List Int=>r.length<=8∧ ∀ x∈r,0<=x∧x<(as.length:Int)) ?_ ?_ 0 ((0:Int),[]) (by omega) rfl ⟨by simp,fun d hd=>(bXi hd).elim⟩ ?_
 ·rintro i ⟨_,l⟩ hi rfl ⟨g1,g2⟩
  simp only at g1 g2
  right
  simp only [zX (show (i:Int)<(as.length:Int) by omega),zZ,aH,bWu hi,aA,aD (b:=8) (n:=l.length) (m:=1) (by decide) (by omega),bN (show i<=1000000000 by omega)]
  cases as[i].2.1 with
  | true=>exact ⟨_,rfl,rfl,by simp;omega,fun x hx=>by
    rcases bW5.1 hx with hx | hx
    ·exact g2 x hx
    ·rw [bW3.1 hx];omega⟩
  | false=>exact ⟨_,rfl,rfl,by show l.length<=i+1;omega,g2⟩
 ·rintro ⟨_,l⟩ rfl ⟨g1,g2⟩
  exact ⟨l,by simp only [zW (bXh _),zY],by simp only at g1;omega,g2⟩
 rintro cores ⟨g1,g2⟩
 obtain ⟨v1,c1,p1,h1,e1,r1,k1⟩:=aY hl (n:=50) (by decide) (by decide) hc
 obtain ⟨v2,c2,p2,h2,e2,r2,k2⟩:=aG6 hl (n:=1000000) (by decide) k1
 simp only [e1,e2,aA]
 by_cases h0:cores.length=0
 ·rw [show ((cores.length:Int)==0)=true by rw [beq_iff_eq];omega,zZ]
  exact ⟨_,_,_,_,_,_,rfl,⟨by simp,fun x hx=>(bXi hx).elim⟩,k2⟩
 rw [show ((cores.length:Int)==0)=false by rw [beq_eq_false_iff_ne];omega,zY]
 obtain ⟨v3,c3,p3,h3,e3,r3,k3⟩:=aY hl (n:=(cores.length:Int)) (by omega) (by omega) k2
 obtain ⟨m3,rfl⟩:=bXq r3.1
 have hm3:m3<cores.length:=by omega
 have hr:=g2 cores[m3] (bXa hm3)
 simp only [e3,aA,zX (show (0:Int)<=(m3:Int) by omega),zX (show (m3:Int)<(cores.length:Int) by omega),zZ,bW4,bWu hm3]
 generalize cores[m3]=r at hr
 refine cC (G:=bJi (as.length:Int) code) 5 (fun s:GrS=>s.2.2.1) (fun i s=>(0<=s.1∧s.1<(as.length:Int))∧(s.2.2.2.2.2.1.length=i∧InN (as.length:Int) s.2.2.2.2.2.1)∧Cur code s.2.2.2.2.2.2) (fun z:((Int×Int×cZ×List Int×q24)⊕(Int×Int×cZ×List Int×q24))=> ∃ a b hs c p h,(z= .inl (a,b,hs,c,p,h)∨z= .inr (a,b,hs,c,p,h))∧(hs.length<=5∧InN (as.length:Int) hs)∧Cur code (c,p,h)) ?_ ?_ 0 (r,(0:Int),(0:Int),v1,v2,[],c3,p3,h3) (by omega) rfl ⟨hr,⟨rfl,fun x hx=>(bXi hx).elim⟩,k3⟩ ?_
 ·rintro i ⟨r,inn,_,ts,be,hs,c4,p4,h4⟩ hi rfl ⟨b1,⟨b2,b2'⟩,b3⟩
  simp only at b1 b2 b2' b3
  obtain ⟨rn,rfl⟩:=bXq b1.1
  have hrn:rn<as.length:=by omega
  obtain ⟨ds,ek,dl,dm⟩:=bE7 (t:=(as,ls)) (r:=(rn:Int)) (k:=k) (by show ls.length<=_;omega)
  have dl:ds.length<=2 * ls.length:=dl
  have hout: ∃ out c5 p5 h5,(Option.bind (cond (decide ((ds.length:Int)>(0:Int))) (Option.bind (dJ (c4,p4,h4) (5:Int)) fun y35=>some (!y35.1,y35.2.1,y35.2.2.1,y35.2.2.2)) (some (false,c4,p4,h4))) fun (s36:Bool×List Int×q24)=>cond s36.1 (Option.bind (aE (s36.2.1,s36.2.2.1,s36.2.2.2) (ds.length:Int)) fun y37=>cond (decide ((0:Int)<=y37.1)) (cond (decide (y37.1<(ds.length:Int))) (Option.bind ds[y37.1.toNat]? fun x38=>some (x38,y37.2.1,y37.2.2.1,y37.2.2.2)) none) none) (some ((0:Int),s36.2.1,s36.2.2.1,s36.2.2.2)):Option (Int×List Int×q24))=some (out,c5,p5,h5)∧(out=0∨out∈fV (as,ls) (rn:Int))∧Cur code (c5,p5,h5):=by
   by_cases hd:(ds.length:Int)>0
   ·obtain ⟨v5,c5,p5,h5,e5,k5⟩:=tA hl (n:=5) (by decide) (by decide) b3
    simp only [zX hd,zZ,e5,aA]
    cases v5 with
    | true=>exact ⟨0,c5,p5,h5,rfl,.inl rfl,k5⟩
    | false=>
     obtain ⟨v6,c6,p6,h6,e6,r6,k6⟩:=aY hl (n:=(ds.length:Int)) hd (by omega) k5
     obtain ⟨m6,rfl⟩:=bXq r6.1
     have hm6:m6<ds.length:=by omega
     exact ⟨ds[m6],c6,p6,h6,by simp only [bW7,zZ,e6,aA,zX (show (0:Int)<=(m6:Int) by omega),zX (show (m6:Int)<(ds.length:Int) by omega),bW4,bWu hm6],.inr (dm _ (bXa hm6)),k6⟩
   ·exact ⟨0,c4,p4,h4,by simp only [zW hd,zY,aA],.inl rfl,b3⟩
  obtain ⟨out,c5,p5,h5,eo,ho,k5⟩:=hout
  obtain ⟨al,ea,hal⟩:=aCs (s:=(ts,be,hs)) (by show hs.length<=_;omega)
  have hal:al.length=hs.length:=hal
  have er:=aFm (t:=(as,ls)) (r:=(rn:Int)) (d:=out) (show ls.length<=68719476736 by omega)
  have hfar:out∈fV (as,ls) (rn:Int)→0<=(remote (as,ls) (rn:Int) out).1∧(remote (as,ls) (rn:Int) out).1<(as.length:Int):=fun hd=>by
   have :=bG6 (t:=(as,ls)) ht.val hd
   unfold cX at this
   obtain ⟨h0,h1⟩:=bJ.1 this
   exact ⟨h0,by simp only at h1;omega⟩
  generalize remote (as,ls) (rn:Int) out=fd at er hfar
  obtain ⟨far,door⟩:=fd
  simp only at hfar
  obtain ⟨bb,eb⟩: ∃ b:Bool,(cond (out != (0:Int)) (Option.bind (cY (ts,be,hs)) fun y41=>Option.bind (fF y41 far) fun y42=>cond y42 (some true) (cond (far==(rn:Int)) (some true) (some (inn==out)))) (some (inn==out)))=some b:=by
   rw [ea,aA,aGa (by omega),aA]
   cases out != 0<;>cases nQ al far<;>cases far==(rn:Int)<;>exact ⟨_,rfl⟩
  obtain ⟨v6,c6,p6,h6,e6,r6,k6⟩:=aY hl (n:=50) (by decide) (by decide) k5
  obtain ⟨bt,et⟩:=aA6 (s:=(ts,be,hs)) (hs.length:Int) (by show hs.length<=_;omega)
  have ix:as[rn]? =some as[rn]:=bWu hrn
  have hap:aG 40 hs.length 1=true:=aD (by decide) (by omega)
  simp only [zX (show (i:Int)<5 by omega),zZ,ek,aA]
  rw [eo,aA]
  simp only [er,aA]
  rw [eb,aA]
  have body: ∀ o:Int,o=0∨o=out→(∃ r,(cond (o==(0:Int)) (some (bWs (bWs (ts,be,hs++[(((rn:Int),inn,o,wr ((wr (ts+(50:Int)))+v6),aG9 as[rn].2.2 ts bt ((rn:Int),inn,o,wr ((wr (ts+(50:Int)))+v6),0)):den cG)],c6,p6,h6)))) (some (bWt (far,door,wr ((i:Int)+(1:Int)),ts,be,hs++[(((rn:Int),inn,o,wr ((wr (ts+(50:Int)))+v6),aG9 as[rn].2.2 ts bt ((rn:Int),inn,o,wr ((wr (ts+(50:Int)))+v6),0)):den cG)],c6,p6,h6))):Option (GrS⊕((Int×Int×cZ×List Int×q24)⊕(Int×Int×cZ×List Int×q24))))=some (.inr r)∧(∃ a b hs c p h,(r= .inl (a,b,hs,c,p,h)∨r= .inr (a,b,hs,c,p,h))∧(hs.length<=5∧InN (as.length:Int) hs)∧Cur code (c,p,h)))∨
    ∃ s':GrS,(cond (o==(0:Int)) (some (bWs (bWs (ts,be,hs++[(((rn:Int),inn,o,wr ((wr (ts+(50:Int)))+v6),aG9 as[rn].2.2 ts bt ((rn:Int),inn,o,wr ((wr (ts+(50:Int)))+v6),0)):den cG)],c6,p6,h6)))) (some (bWt (far,door,wr ((i:Int)+(1:Int)),ts,be,hs++[(((rn:Int),inn,o,wr ((wr (ts+(50:Int)))+v6),aG9 as[rn].2.2 ts bt ((rn:Int),inn,o,wr ((wr (ts+(50:Int)))+v6),0)):den cG)],c6,p6,h6))):Option (GrS⊕((Int×Int×cZ×List Int×q24)⊕(Int×Int×cZ×List Int×q24))))=some (.inl s')∧s'.2.2.1=((i+1:Nat):Int)∧(0<=s'.1∧s'.1<(as.length:Int))∧(s'.2.2.2.2.2.1.length=i+1∧InN (as.length:Int) s'.2.2.2.2.2.1)∧Cur code s'.2.2.2.2.2.2:=by
   intro o hoo
   cases hz:(o==(0:Int)) with
   | true=>exact .inl ⟨_,rfl,ts,be,_,c6,p6,h6,.inr rfl,⟨by simp;omega,b2'.snoc ⟨by simp only;omega,by simp only;omega⟩⟩,k6⟩
   | false=>
    refine .inr ⟨_,rfl,bN (show i<=1000000000 by omega),?_,⟨by simp [b2],b2'.snoc ⟨by simp only;omega,by simp only;omega⟩⟩,k6⟩
    have hne:o≠0:=by simpa using hz
    rcases hoo with h | rfl
    ·exact absurd h hne
    ·rcases ho with h | h
     ·exact absurd h hne
     ·exact hfar h
  cases bb with
  | true=>
   cases inn==(0:Int) with
   | true=>exact .inl ⟨_,rfl,ts,be,hs,c5,p5,h5,.inr rfl,⟨by omega,b2'⟩,k5⟩
   | false=>
    have :=body 0 (.inl rfl)
    simpa only [zZ,zY,aA,bX4,e6,aH,ix,et,aXk,hap] using this
  | false=>
   have :=body out (.inr rfl)
   simpa only [zZ,zY,aA,bX4,e6,aH,ix,et,aXk,hap] using this
 ·rintro ⟨r,inn,_,ts,be,hs,c4,p4,h4⟩ rfl ⟨b1,⟨b2,b2'⟩,b3⟩
  simp only at b1 b2 b2' b3
  exact ⟨.inl (ts,be,hs,c4,p4,h4),by simp only [show decide ((((5:Nat):Int))<(5:Int))=false from rfl,zY],ts,be,hs,c4,p4,h4,.inl rfl,⟨by omega,b2'⟩,b3⟩
 ·rintro z ⟨a,b,hs,c,p,h,hz,h5,k5⟩
  rcases hz with rfl | rfl
  ·exact ⟨a,b,hs,c,p,h,rfl,h5,k5⟩
  ·exact ⟨a,b,hs,c,p,h,rfl,h5,k5⟩

theorem bP9 {code:List Int} (hl:code.length<=1048576) {as:lAS} {ls:lLk} (ht:yF as ls) (k:Int) {c:List Int} {p h:Int} (hc:Cur code (c,p,h)):bWm code (jE (c,p,h) (as,ls) k):=by
 obtain ⟨a,b,hs,c1,p1,h1,e,⟨l,m⟩,k1⟩:=aZw hl ht k hc
 exact ⟨a,b,hs,c1,p1,h1,e,⟨l,m.as (by have :=ht.len;omega)⟩,k1⟩

theorem aFq {code:List Int} (hl:code.length<=1048576) {as:lAS} {ls:lLk} (ht:yF as ls) (k:Int) {c:List Int} {p h:Int} (hc:Cur code (c,p,h)):bWe code (jE (c,p,h) (as,ls) k):=by
 obtain ⟨a,b,hs,c1,p1,h1,e,⟨l,_⟩,k1⟩:=bP9 hl ht k hc
 exact ⟨a,b,hs,c1,p1,h1,e,l,k1⟩

theorem aZ3 {as:lAS} {ls:lLk} (ht:yF as ls) {s:den tSg} (h:s.2.2.length<=1000): ∃ b,iN (as,ls) s=some b∧(b=true→ ∃ x,s.2.2[0]? =some x∧cX (as,ls) x.1=true):=by
 obtain ⟨al,ea,hal⟩:=aCs (s:=s) (by omega)
 have hlen:=ht.len
 have hlk:=ht.links
 unfold iN pj2 pj3 pj5
 rw [iH,aA]
 cases hc:inR (s.2.2.length:Int) 1 8 with
 | false=>exact ⟨false,rfl,fun e=>by cases e⟩
 | true=>
  obtain ⟨h0,h1⟩:=bJ.1 hc
  have h00:0<s.2.2.length:=by omega
  have i0:idx s.2.2 (0:Int)=some s.2.2[0]:=by rw [show (0:Int)=((0:Nat):Int) from rfl,aH,bWu h00]
  simp only [bWx,zY,i0,aA]
  cases s.2.2[0].2.1 != (0:Int) with
  | true=>exact ⟨false,rfl,fun e=>by cases e⟩
  | false=>
   simp only [zY]
   rw [show ((s.1,s.2.1,s.2.2):den tSg)=s from rfl,ea,aA]
   refine cC (G:=fun o=> ∃ b,o=some b∧(b=true→ ∃ x,s.2.2[0]? =some x∧cX (as,ls) x.1=true)) s.2.2.length (fun s:List Int×Int=>s.2) (fun i t=>t.1=al∧(0<i→cX (as,ls) s.2.2[0].1=true)) (fun r:Unit⊕Bool=>r= .inl ()∧cX (as,ls) s.2.2[0].1=true∨r= .inr false) ?_ ?_ 0 (al,(0:Int)) (by omega) rfl ⟨rfl,fun h=>by omega⟩ ?_
   ·rintro i ⟨_,_⟩ hi rfl ⟨rfl,g2⟩
    rename_i al
    have ix:idx s.2.2 (i:Int)=some s.2.2[i]:=by rw [aH,bWu hi]
    simp only [zX (show (i:Int)<(s.2.2.length:Int) by omega),zZ,ix,aA]
    rw [show ((s.2.2[i].1,s.2.2[i].2.1,s.2.2[i].2.2.1,s.2.2[i].2.2.2.1,s.2.2[i].2.2.2.2):den cG)=s.2.2[i] from rfl,aJq,aA,aD4 (t:=(as,ls)) (show as.length<=_ by omega),aA]
    have e1:bY (0:Int) (i:Int) (al.length:Int)=true:=wU (by rw [hal];exact hi)
    have e2:fF (cut al (0:Int) (i:Int)) s.2.2[i].1=some (nQ (cut al (0:Int) (i:Int)) s.2.2[i].1):=aGa (by rw [gN];exact bWv (List.length_take_le _ _) (by omega))
    obtain ⟨b,eb,hb⟩: ∃ b:Bool,(cond (!(jH s.2.2[i])) (some true) (cond (!(cX (as,ls) s.2.2[i].1)) (some true) (cond (bY (0:Int) (i:Int) (al.length:Int)) (Option.bind (fF (cut al (0:Int) (i:Int)) s.2.2[i].1) fun y20=>cond y20 (some true) (cond (s.2.2[i].2.2.1==(0:Int)) (some (decide ((i:Int)<(wr ((s.2.2.length:Int) - (1:Int)))))) (some false))) none)))=some b∧(b=false→cX (as,ls) s.2.2[i].1=true):=by
     rw [e1,e2,aA]
     cases jH s.2.2[i]
     ·exact ⟨true,rfl,fun e=>by cases e⟩
     ·cases cX (as,ls) s.2.2[i].1
      ·exact ⟨true,rfl,fun e=>by cases e⟩
      ·cases nQ (cut al (0:Int) (i:Int)) s.2.2[i].1
       ·cases s.2.2[i].2.2.1==(0:Int)
        ·exact ⟨false,rfl,fun _=>rfl⟩
        ·exact ⟨_,rfl,fun _=>rfl⟩
       ·exact ⟨true,rfl,fun _=>rfl⟩
    rw [eb,aA]
    cases b with
    | true=>exact .inl ⟨.inr false,rfl,.inr rfl⟩
    | false=>
     have hok:=hb rfl
     by_cases hp:i=0
     ·subst hp
      refine .inr ⟨(al,((1:Nat):Int)),?_,rfl,rfl,fun _=>hok⟩
      rfl
     ·have hi1:i - 1<s.2.2.length:=by omega
      have w1:wr ((i:Int) - 1)=((i - 1:Nat):Int):=by rw [bI (by omega) (by omega)];omega
      have er:=aFm (t:=(as,ls)) (r:=s.2.2[i - 1].1) (d:=s.2.2[i - 1].2.2.1) (show ls.length<=68719476736 by omega)
      simp only [zY,zX (show (i:Int)>0 by omega),zZ,w1,aH,bWu hi1,aA,er]
      obtain ⟨b2,eb2⟩: ∃ b:Bool,(cond ((remote (as,ls) s.2.2[i - 1].1 s.2.2[i - 1].2.2.1).1 != s.2.2[i].1) (some true) (some ((remote (as,ls) s.2.2[i - 1].1 s.2.2[i - 1].2.2.1).2 != s.2.2[i].2.1)))=some b:=by
       cases (remote (as,ls) s.2.2[i - 1].1 s.2.2[i - 1].2.2.1).1 != s.2.2[i].1<;>exact ⟨_,rfl⟩
      rw [eb2,aA]
      cases b2 with
      | true=>exact .inl ⟨.inr false,rfl,.inr rfl⟩
      | false=>
       refine .inr ⟨(al,((i+1:Nat):Int)),?_,rfl,rfl,fun _=>g2 (by omega)⟩
       simp only [zY,aA,bX4,bN (show i<=1000000000 by omega)]
   ·rintro ⟨_,_⟩ rfl ⟨rfl,g2⟩
    exact ⟨.inl (),by simp only [zW (bXh _),zY],.inl ⟨rfl,g2 h00⟩⟩
   ·rintro r (⟨rfl,hr⟩ | rfl)
    ·exact ⟨true,rfl,fun _=>⟨s.2.2[0],bWu h00,hr⟩⟩
    ·exact ⟨false,rfl,fun e=>by cases e⟩

theorem bQk {as:lAS} {ls:lLk} (ht:yF as ls) {s:den tSg} (h:s.2.2.length<=1000): ∃ v,gE (as,ls) s=some v:=by
 have hlen:=ht.len
 unfold gE pj2 pj3 pj5
 refine cC (G:=fun o=> ∃ b,o=some b) s.2.2.length (fun s:Int=>s) (fun i t=>True) (fun r:Unit⊕Int=>True) ?_ ?_ 0 (0:Int) (by omega) rfl trivial ?_
 ·rintro i _ hi rfl _
  obtain ⟨bt,et⟩:=aA6 (s:=s) (i:Int) (by omega)
  have et:gI (s.1,s.2.1,s.2.2) (i:Int)=some bt:=et
  have ev:=aV6 (t:=(as,ls)) (ts:=s.1) (beta:=bt) (h:=s.2.2[i]) (show as.length<=68719476736 by omega)
  have ev:fQ (as,ls) s.1 bt (s.2.2[i].1,s.2.2[i].2.1,s.2.2[i].2.2.1,s.2.2[i].2.2.2.1,s.2.2[i].2.2.2.2)=some _:=ev
  simp only [zX (show (i:Int)<(s.2.2.length:Int) by omega),zZ,aH,bWu hi,aA,et,ev,bN (show i<=1000000000 by omega)]
  cases aC3 (as,ls) s.1 bt s.2.2[i] with
  | true=>exact .inr ⟨_,rfl,rfl,trivial⟩
  | false=>exact .inl ⟨_,rfl,trivial⟩
 ·rintro _ rfl _
  exact ⟨.inl (),by simp only [zW (bXh _),zY],trivial⟩
 ·rintro r _
  cases r with
  | inl u=>exact ⟨_,rfl⟩
  | inr v=>exact ⟨_,rfl⟩

theorem aSe {as:lAS} {ls:lLk} (ht:yF as ls) {s:den tSg} (h:s.2.2.length<=1000): ∃ v,gF (as,ls) s=some v:=by
 have hlen:=ht.len
 have hlk:=ht.links
 obtain ⟨b,eb,hb⟩:=aZ3 ht h
 unfold gF pj2 pj3
 have eb:iN (as,ls) (s.1,s.2.1,s.2.2)=some b:=eb
 rw [eb,aA]
 cases b with
 | false=>exact ⟨0,rfl⟩
 | true=>
  obtain ⟨x,hx,hok⟩:=hb rfl
  obtain ⟨h0,rfl⟩:=bW1.1 hx
  obtain ⟨y,hy,iy⟩:=aEu hok
  have ef:cI (s.1,s.2.1,s.2.2)=some s.2.2[0].1:=by
   unfold cI
   rw [show ((s.2.2.length:Int)==0)=false by rw [beq_eq_false_iff_ne];omega,zY,show (0:Int)=((0:Nat):Int) from rfl,aH,bWu h0,aA]
  have iy:idx as s.2.2[0].1=some y:=iy
  simp only [bWx,zY,ef,iy,aA]
  cases y.2.1 with
  | false=>exact ⟨0,rfl⟩
  | true=>
   simp only [bWx,zY]
   refine cC (G:=fun o=> ∃ b,o=some b) s.2.2.length (fun s:Int×Int=>s.2) (fun i t=>True) (fun r:Int⊕Int=>True) ?_ ?_ 0 ((0:Int),(0:Int)) (by omega) rfl trivial ?_
   ·rintro i ⟨k,_⟩ hi rfl _
    have ek:=aQt (t:=(as,ls)) (r:=s.2.2[i].1) (d:=s.2.2[i].2.2.1) (show ls.length<=68719476736 by omega)
    simp only [zX (show (i:Int)<(s.2.2.length:Int) by omega),zZ,aH,bWu hi,aA,ek,bN (show i<=1000000000 by omega)]
    cases s.2.2[i].2.2.1==(0:Int) with
    | true=>exact .inr ⟨_,rfl,rfl,trivial⟩
    | false=>
     cases k != (0:Int) with
     | false=>exact .inr ⟨_,rfl,rfl,trivial⟩
     | true=>
      simp only [zZ,zY,aA]
      cases aAr (as,ls) s.2.2[i].1 s.2.2[i].2.2.1 != k with
      | true=>exact .inl ⟨_,rfl,trivial⟩
      | false=>exact .inr ⟨_,rfl,rfl,trivial⟩
   ·rintro ⟨k,_⟩ rfl _
    exact ⟨.inl k,by simp only [zW (bXh _),zY],trivial⟩
   ·rintro r _
    cases r with
    | inr v=>exact ⟨_,rfl⟩
    | inl v=>
     simp only [bX4]
     cases v==(1:Int)
     ·cases v==(2:Int)<;>exact ⟨_,rfl⟩
     ·exact ⟨_,rfl⟩

theorem bDd {as:lAS} {ls:lLk} (ht:yF as ls) {s:den tSg} (h:s.2.2.length<=1000): ∃ b,kS (as,ls) s=some b∧(b=true→s.2.2≠[]):=by
 obtain ⟨b,eb,hb⟩:=aZ3 ht h
 have hb:b=true→s.2.2≠[]:=fun e he=>by
  obtain ⟨x,hx,_⟩:=hb e
  rw [he] at hx
  cases hx
 obtain ⟨v,ev⟩:=bQk ht h
 obtain ⟨k,ek⟩:=aSe ht h
 have eb:iN (as,ls) (s.1,s.2.1,s.2.2)=some b:=eb
 have ev:gE (as,ls) (s.1,s.2.1,s.2.2)=some v:=ev
 have ek:gF (as,ls) (s.1,s.2.1,s.2.2)=some k:=ek
 unfold kS pj2 pj3
 simp only [eb,ev,ek,iH,aCv,aA]
 cases b
 ·exact ⟨_,rfl,fun e=>Bool.noConfusion e⟩
 ·have hb:=hb rfl
  cases decide (v<0)
  ·exact ⟨_,rfl,fun _=>hb⟩
  ·cases k != (0:Int)
   ·exact ⟨_,rfl,fun _=>hb⟩
   ·cases inR s.1 0 1000000<;>exact ⟨_,rfl,fun _=>hb⟩

theorem bKn {s:den tSg} (h:s.2.2.length<=1000): ∃ b,kR s=some b:=by
 unfold kR
 by_cases h0:(s.2.2.length:Int)>0
 ·have w1:wr ((s.2.2.length:Int) - 1)=((s.2.2.length - 1:Nat):Int):=by rw [bI (by omega) (by omega)];omega
  rw [zX h0,zZ,w1,aH,bWu (by omega),aA,aA]
  exact ⟨_,rfl⟩
 ·rw [zW h0,zY]
  exact ⟨_,rfl⟩

theorem aPl {a b:cZ} (h:a.length<=1000000): ∃ v,iR a b=some v:=by
 unfold iR zz4
 by_cases hn:a.length=b.length
 ·rw [hn,bne_self_eq_false,zY,← hn]
  refine cC (G:=fun o=> ∃ b,o=some b) a.length (fun s:Int=>s) (fun i t=>True) (fun r:Unit⊕Bool=>True) ?_ ?_ 0 (0:Int) (by omega) rfl trivial ?_
  ·rintro i _ hi rfl _
   have h2:i<b.length:=by omega
   simp only [zX (show (i:Int)<(a.length:Int) by omega),zZ,aH,bWu hi,bWu h2,aA,bN (show i<=1000000000 by omega)]
   cases ((a[i].1==b[i].1)&&((a[i].2.1==b[i].2.1)&&((a[i].2.2.1==b[i].2.2.1)&&((a[i].2.2.2.1==b[i].2.2.2.1)&&((a[i].2.2.2.2==b[i].2.2.2.2)&&true))))) with
   | true=>exact .inr ⟨_,rfl,rfl,trivial⟩
   | false=>exact .inl ⟨_,rfl,trivial⟩
  ·rintro _ rfl _
   exact ⟨.inl (),by simp only [zW (bXh _),zY],trivial⟩
  ·rintro r _
   cases r with
   | inl u=>exact ⟨_,rfl⟩
   | inr v=>exact ⟨_,rfl⟩
 ·rw [show ((a.length:Int) != (b.length:Int))=true by rw [bne_iff_ne];omega,zZ]
  exact ⟨_,rfl⟩

theorem bFw {a b:den tSg} (h:a.2.2.length<=1000000): ∃ v,jI a b=some v:=by
 obtain ⟨v,e⟩:=aPl (b:=b.2.2) h
 unfold jI
 rw [e,aA]
 cases a.1==b.1
 ·exact ⟨_,rfl⟩
 ·cases a.2.1==b.2.1<;>exact ⟨_,rfl⟩

theorem aUv {l:lSg} {s:den tSg} (hl:l.length<=1000000) (h: ∀ x∈l,x.2.2.length<=1000): ∃ v,sW l s=some v:=by
 unfold sW pj3
 refine cC (G:=fun o=> ∃ b,o=some b) l.length (fun s:Int=>s) (fun i t=>True) (fun r:Unit⊕Bool=>True) ?_ ?_ 0 (0:Int) (by omega) rfl trivial ?_
 ·rintro i _ hi rfl _
  obtain ⟨v,e⟩:=bFw (a:=l[i]) (b:=s) (by have :=h l[i] (bXa hi);omega)
  have e:jI (l[i].1,l[i].2.1,l[i].2.2) (s.1,s.2.1,s.2.2)=some v:=e
  simp only [zX (show (i:Int)<(l.length:Int) by omega),zZ,aH,bWu hi,aA,e,bN (show i<=1000000000 by omega)]
  cases v with
  | false=>exact .inr ⟨_,rfl,rfl,trivial⟩
  | true=>exact .inl ⟨_,rfl,trivial⟩
 ·rintro _ rfl _
  exact ⟨.inl (),by simp only [zW (bXh _),zY],trivial⟩
 ·rintro r _
  cases r with
  | inl u=>exact ⟨_,rfl⟩
  | inr v=>exact ⟨_,rfl⟩


structure DbD (n:Nat) (d c:lSg):Prop where
 down:d.length<=n
 core:c.length<=n
 hd: ∀ x∈d,x.2.2.length<=5
 hc: ∀ x∈c,x.2.2.length<=5
 ha: ∀ x∈d,x.2.2≠[]∧aGc x.2.2

theorem aMj {l:lSg} {n:Nat} (hn:n<=1000) (h:l.length<=n) (hh: ∀ x∈l,x.2.2.length<=5):SmB 68719476736 (.sl tSg) l:=by
 refine ⟨by omega,fun x hx=>⟨trivial,trivial,?_,fun e he=>⟨trivial,trivial,trivial,trivial,trivial⟩⟩⟩
 have :=hh x hx
 show x.2.2.length<=_
 omega

theorem bIu {as:lAS} {ls:lLk} (ht:yF as ls) {n:Nat} (hn:n<=100) {d c:lSg} (hk:DbD n d c) {s:den tSg} (h:s.2.2.length<=5) (ha:aGc s.2.2): ∃ d' c',oB (as,ls) (d,c) s=some (d',c')∧DbD (n+1) d' c':=by
 obtain ⟨b1,e1,hb1⟩:=bDd ht (s:=s) (by omega)
 obtain ⟨b2,e2⟩:=bKn (s:=s) (by omega)
 obtain ⟨b3,e3⟩:=aUv (l:=d) (s:=s) (by have :=hk.down;omega) (fun x hx=>by have :=hk.hd x hx;omega)
 obtain ⟨b4,e4⟩:=aUv (l:=c) (s:=s) (by have :=hk.core;omega) (fun x hx=>by have :=hk.hc x hx;omega)
 obtain ⟨k,ek⟩:=aSe ht (s:=s) (by omega)
 have c1:=aDh (aMj (by omega) hk.down hk.hd)
 have c2:=aDh (aMj (by omega) hk.core hk.hc)
 have c3:=aFh (x:=s) (by omega)
 have e5: ∃ b,nI (d,c) s=some b:=by
  unfold nI pj3
  have e3:sW d (s.1,s.2.1,s.2.2)=some b3:=e3
  have e4:sW c (s.1,s.2.1,s.2.2)=some b4:=e4
  simp only [e3,e4,aA]
  cases b3<;>exact ⟨_,rfl⟩
 obtain ⟨b5,e5⟩:=e5
 have hdn:=hk.down
 have hcn:=hk.core
 have e1:kS (as,ls) (s.1,s.2.1,s.2.2)=some b1:=e1
 have e2:kR (s.1,s.2.1,s.2.2)=some b2:=e2
 have e5:nI (d,c) (s.1,s.2.1,s.2.2)=some b5:=e5
 have ek:gF (as,ls) (s.1,s.2.1,s.2.2)=some k:=ek
 have c3:fP (s.1,s.2.1,s.2.2)=some s:=c3
 have same:DbD (n+1) d c:=⟨by omega,by omega,hk.hd,hk.hc,hk.ha⟩
 unfold oB pj2 pj3
 simp only [c1,c2,aA,aV,bK,bA,aZ,bD,e1,e2,e5,ek,c3,aD (b:=40) (n:=d.length) (m:=1) (by decide) (by omega),aD (b:=40) (n:=c.length) (m:=1) (by decide) (by omega),zZ]
 obtain ⟨b6,e6,hb6⟩: ∃ b:Bool,(cond (!b1) (some true) (cond (!b2) (some true) (some b5)))=some b∧(b=false→b1=true):=by
  cases b1
  ·exact ⟨_,rfl,fun e=>Bool.noConfusion e⟩
  ·cases b2<;>exact ⟨_,rfl,fun _=>rfl⟩
 rw [e6,aA]
 cases b6 with
 | true=>exact ⟨d,c,rfl,same⟩
 | false=>
  have hne:=hb1 (hb6 rfl)
  cases k==(2:Int) with
  | true=>exact ⟨_,_,rfl,by simp;omega,by simp only;omega,fun x hx=>(bW5.1 hx).elim (hk.hd x) fun hx=>by rw [bW3.1 hx];exact h,hk.hc,fun x hx=>(bW5.1 hx).elim (hk.ha x) fun hx=>by rw [bW3.1 hx];exact ⟨hne,ha⟩⟩
  | false=>exact ⟨_,_,rfl,by simp only;omega,by simp;omega,hk.hd,fun x hx=>(bW5.1 hx).elim (hk.hc x) fun hx=>by rw [bW3.1 hx];exact h,hk.ha⟩

theorem DbD.mono {n m:Nat} {d c:lSg} (h:DbD n d c) (hm:n<=m):DbD m d c:=⟨bWv h.down hm,bWv h.core hm,h.hd,h.hc,h.ha⟩

theorem aSk {s:den tSg} (h:s.2.2.length<=1000): ∃ v,eG s=some v:=by
 unfold eG
 by_cases h0:s.2.2.length=0
 ·rw [show ((s.2.2.length:Int)==0)=true by rw [beq_iff_eq];omega,zZ]
  exact ⟨_,rfl⟩
 ·have w1:wr ((s.2.2.length:Int) - 1)=((s.2.2.length - 1:Nat):Int):=by rw [bI (by omega) (by omega)];omega
  rw [show ((s.2.2.length:Int)==0)=false by rw [beq_eq_false_iff_ne];omega,zY,w1,aH,bWu (by omega),aA]
  exact ⟨_,rfl⟩

theorem bLi {s:den tSg} (h:s.2.2.length<=1000) (h0:s.2.2≠[]) (ha:aGc s.2.2): ∃ v,eG s=some v∧0<=v∧v<8:=by
 have hl:=List.length_pos_iff.2 h0
 unfold eG
 have w1:wr ((s.2.2.length:Int) - 1)=((s.2.2.length - 1:Nat):Int):=by rw [bI (by omega) (by omega)];omega
 rw [show ((s.2.2.length:Int)==0)=false by rw [beq_eq_false_iff_ne];omega,zY,w1,aH,bWu (by omega),aA]
 have :=ha _ (bXa (show s.2.2.length - 1<s.2.2.length by omega))
 exact ⟨_,rfl,this.1,this.2⟩

theorem aIu {s:den tSg}: ∃ v,cI s=some v:=by
 unfold cI
 by_cases h0:s.2.2.length=0
 ·rw [show ((s.2.2.length:Int)==0)=true by rw [beq_iff_eq];omega,zZ]
  exact ⟨_,rfl⟩
 ·rw [show ((s.2.2.length:Int)==0)=false by rw [beq_eq_false_iff_ne];omega,zY,show (0:Int)=((0:Nat):Int) from rfl,aH,bWu (by omega),aA]
  exact ⟨_,rfl⟩

theorem aWk {code:List Int} (hl:code.length<=1048576) {d:lSg} (hd:d.length<=200) (h5: ∀ x∈d,x.2.2.length<=5) (ha: ∀ x∈d,x.2.2≠[]∧aGc x.2.2) (k:Int) (hk:0<k∧k<=256) (z:Int) (hz:0<=z∧z<8) {c:List Int} {p h:Int} (hc:Cur code (c,p,h)):
  ∃ v c' p' h',(Option.bind (cond (decide ((d.length:Int)>(0:Int))) (Option.bind (dJ (c,p,h) k) fun y3=>some (!y3.1,y3.2.1,y3.2.2.1,y3.2.2.2)) (some (false,c,p,h))) fun (s4:Bool×List Int×q24)=>cond s4.1 (Option.bind (aE (s4.2.1,s4.2.2.1,s4.2.2.2) (d.length:Int)) fun y5=>Option.bind (idx d y5.1) fun x6=>Option.bind (eG (x6.1,x6.2.1,x6.2.2)) fun y7=>some (y7,y5.2.1,y5.2.2.1,y5.2.2.2)) (some (z,s4.2.1,s4.2.2.1,s4.2.2.2)):Option (Int×List Int×q24))=some (v,c',p',h')∧(0<=v∧v<8)∧Cur code (c',p',h'):=by
 by_cases h0:(d.length:Int)>0
 ·obtain ⟨v1,c1,p1,h1,e1,k1⟩:=tA hl (n:=k) hk.1 hk.2 hc
  simp only [zX h0,zZ,e1,aA]
  cases v1 with
  | true=>exact ⟨z,c1,p1,h1,rfl,hz,k1⟩
  | false=>
   obtain ⟨v2,c2,p2,h2,e2,r2,k2⟩:=aY hl (n:=(d.length:Int)) h0 (by omega) k1
   obtain ⟨m2,rfl⟩:=bXq r2.1
   have hm:m2<d.length:=by omega
   obtain ⟨v3,e3,r3⟩:=bLi (s:=d[m2]) (by have :=h5 d[m2] (bXa hm);omega) (ha d[m2] (bXa hm)).1 (ha d[m2] (bXa hm)).2
   have e3:eG (d[m2].1,d[m2].2.1,d[m2].2.2)=some v3:=e3
   exact ⟨v3,c2,p2,h2,by simp only [bW7,zZ,e2,aA,aH,bWu hm,e3],r3,k2⟩
 ·exact ⟨z,c,p,h,by simp only [zW h0,zY,aA],hz,hc⟩

theorem bQb {code:List Int} (hl:code.length<=1048576) {n:Nat} (hn:n<=100) {d cc:lSg} (hk:DbD n d cc) {c:List Int} {p h:Int} (hc:Cur code (c,p,h)): ∃ a b c' p' h',wT (c,p,h) (d,cc)=some (a,b,c',p',h')∧((0<=a∧a<8)∧(0<=b∧b<8))∧Cur code (c',p',h'):=by
 have hd:=hk.down
 obtain ⟨v1,c1,p1,h1,e1,r1,k1⟩:=aY hl (n:=8) (by decide) (by decide) hc
 obtain ⟨v2,c2,p2,h2,e2,r2,k2⟩:=aY hl (n:=8) (by decide) (by decide) k1
 obtain ⟨v3,c3,p3,h3,e3,r3,k3⟩:=aWk hl (d:=d) (by omega) hk.hd hk.ha 4 (by decide) v1 r1 k2
 obtain ⟨v4,c4,p4,h4,e4,r4,k4⟩:=aWk hl (d:=d) (by omega) hk.hd hk.ha 3 (by decide) v2 r2 k3
 refine ⟨v3,v4,c4,p4,h4,?_,⟨r3,r4⟩,k4⟩
 unfold wT pj3 pj4
 simp only [e1,e2,aA,aV,bK,bA,aZ,bD]
 rw [e3,aA,e4,aA]


def aI3 (n:Nat) (l:lSg):Prop:=l.length<=n∧ ∀ x∈l,x.2.2.length<=5

theorem xB {s:den tSg} (h:s.2.2.length<=5) (k i:Int): ∃ q:den tPp,bM s k i=some q∧q.2.2.2.length<=5:=by
 unfold bM pj3 pj4 pj5 zz4
 obtain ⟨b1,eb1⟩:=aA6 (s:=s) i (by omega)
 obtain ⟨b2,eb2⟩:=aA6 (s:=s) (s.2.2.length:Int) (by omega)
 have eb1:gI (s.1,s.2.1,s.2.2) i=some b1:=eb1
 have eb2:gI (s.1,s.2.1,s.2.2) (s.2.2.length:Int)=some b2:=eb2
 simp only [iH,aA,aV,bK,bA,aZ,bD,eb1,eb2,aCr]
 have w1:wr ((s.2.2.length:Int) - 1)=(s.2.2.length:Int) - 1:=bI (by omega) (by omega)
 rw [w1]
 cases c1:inR i 0 ((s.2.2.length:Int) - 1) with
 | false=>exact ⟨(0,0,0,[]),rfl,by simp⟩
 | true=>
  cases inR k 1 4 with
  | false=>exact ⟨(0,0,0,[]),rfl,by simp⟩
  | true=>
   obtain ⟨h0,h1⟩:=bJ.1 c1
   obtain ⟨m,rfl⟩:=bXq h0
   simp only [bWx,zY,aA]
   cases jQ k with
   | false=>
    have e1:bY (m:Int) (s.2.2.length:Int) (s.2.2.length:Int)=true:=yQ (by omega)
    have l1:(cut s.2.2 (m:Int) (s.2.2.length:Int)).length<=5:=by unfold cut;rw [bX6,bYx];omega
    rw [e1,aD (b:=40) (by decide) (by simp;omega)]
    exact ⟨_,rfl,by simpa using l1⟩
   | true=>
    refine mT (G:=fun o=> ∃ q:den tPp,o=some q∧q.2.2.2.length<=5) (fun (n:Nat) (t:Int×q12)=>t.1=(n:Int) - 1∧n+t.2.2.2.2.length<=s.2.2.length) (fun q:den tPp=>q.2.2.2.length<=5) ?_ s.2.2.length ((s.2.2.length:Int) - 1,k,s.1,b2,[]) ⟨rfl,by simp⟩ (fun q hq=>⟨q,rfl,hq⟩)
    rintro n ⟨_,x,y,z,l⟩ ⟨rfl,g⟩
    simp only at g
    by_cases hn:(n:Int) - 1>=(m:Int)
    ·right
     have hn1:(n:Int) - 1=((n - 1:Nat):Int):=by omega
     have hi:n - 1<s.2.2.length:=by omega
     refine ⟨n - 1,(((n - 1:Nat):Int) - 1,x,y,z,l++[s.2.2[n - 1]]),by omega,?_,rfl,by simp;omega⟩
     simp only [zX hn,zZ,aD (b:=40) (n:=l.length) (m:=1) (by decide) (by omega)]
     rw [hn1,aH,bWu hi,aA,bI (n:=((n - 1:Nat):Int) - 1) (by omega) (by omega)]
    ·left
     exact ⟨(x,y,z,l),by simp only [zW hn,zY],by show l.length<=5;omega⟩


def nA (p:den tPt):Prop:=bW9 (α:=den tPp) p<=3∧ ∀ x:den tPp,x∈(show lPp from p)→x.2.2.2.length<=5

def wA (n:Nat) (l:lPt):Prop:=l.length<=n∧ ∀ p∈l,nA p

theorem aN0:nA []:=⟨by simp,fun x hx=>(bXi hx).elim⟩

theorem wA.add {n m:Nat} {a b:lPt} (ha:wA n a) (hb:wA m b):wA (n+m) (a++b):=⟨by rw [bXp];have :=ha.1;have :=hb.1;omega,fun p hp=>(bW5.1 hp).elim (ha.2 p) (hb.2 p)⟩

theorem aBe {n:Nat} (h:n<=1000000000):wr ((n:Int) - 1)=(n:Int) - 1:=bI (by omega) (by omega)

theorem bK8 {up down:den tSg} (h1:up.2.2.length<=5) (h2:down.2.2.length<=5): ∃ p,iM up down=some p∧nA p:=by
 obtain ⟨y1,e1,l1⟩:=aCs (s:=up) (by omega)
 obtain ⟨y2,e2,l2⟩:=aCs (s:=down) (by omega)
 have e1:cY (up.1,up.2.1,up.2.2)=some y1:=e1
 have e2:cY (down.1,down.2.1,down.2.2)=some y2:=e2
 have hm: ∃ p,jA up down=some p∧nA p:=by
  unfold jA ixb pj3 pj4
  rw [e1,aA,e2,aA,aBe (n:=y1.length) (by omega)]
  refine mT (G:=fun o=> ∃ p,o=some p∧nA p) (fun (n:Nat) (s:Int)=>s=(n:Int) - 1∧n<=y1.length) (fun z:Unit⊕den tPt=> ∀ p,z= .inr p→nA p) ?_ y1.length ((y1.length:Int) - 1) ⟨rfl,bXb _⟩ ?_
  ·rintro n _ ⟨rfl,hn⟩
   by_cases h0:(n:Int) - 1>=0
   ·simp only [zX h0,zZ]
    have hn1:(n:Int) - 1=((n - 1:Nat):Int):=by omega
    have hi:n - 1<y1.length:=by omega
    rw [aBe (n:=y2.length) (by omega)]
    refine mT (G:=fun (o:Option (Int⊕(Unit⊕den tPt)))=>(∃ r:Unit⊕den tPt,o=some (bWs r)∧ ∀ p,r=bWs p→nA p)∨ ∃ (m:Nat) (s':Int),m<n∧o=some (bWt s')∧s'=(m:Int) - 1∧m<=y1.length) (fun (k:Nat) (s:Int)=>s=(k:Int) - 1∧k<=y2.length) (fun z:Unit⊕(Int⊕(Unit⊕den tPt))=>z= .inl ()∨ ∃ p,z= .inr (.inr (.inr p))∧nA p) ?_ y2.length ((y2.length:Int) - 1) ⟨rfl,bXb _⟩ ?_
    ·rintro k _ ⟨rfl,hk⟩
     by_cases g0:(k:Int) - 1>=0
     ·have hk1:(k:Int) - 1=((k - 1:Nat):Int):=by omega
      have hj:k - 1<y2.length:=by omega
      simp only [hn1,hk1,zX (show ((k - 1:Nat):Int)>=0 by omega),zX (show (0:Int)<=((n - 1:Nat):Int) by omega),zX (show (0:Int)<=((k - 1:Nat):Int) by omega),zX (show ((n - 1:Nat):Int)<(y1.length:Int) by omega),zX (show ((k - 1:Nat):Int)<(y2.length:Int) by omega),zZ,bW4,bWu hi,bWu hj,aA]
      cases y1[n - 1]==y2[k - 1] with
      | true=>
       obtain ⟨q1,f1,g1⟩:=xB h1 1 ((n - 1:Nat):Int)
       obtain ⟨q2,f2,g2⟩:=xB h2 4 ((k - 1:Nat):Int)
       have f1:bM (up.1,up.2.1,up.2.2) 1 ((n - 1:Nat):Int)=some q1:=f1
       have f2:bM (down.1,down.2.1,down.2.2) 4 ((k - 1:Nat):Int)=some q2:=f2
       exact .inl ⟨.inr (.inr (.inr [q1,q2])),by simp only [zZ,f1,f2,aA],.inr ⟨[q1,q2],rfl,by simp,fun x hx=>by
        have hx:x∈[q1,q2]:=hx
        simp only [bWz,bXi,or_false] at hx
        rcases hx with rfl | rfl
        ·exact g1
        ·exact g2⟩⟩
      | false=>exact .inr ⟨k - 1,((k - 1:Nat):Int) - 1,by omega,by simp only [zY,aBe (n:=k - 1) (by omega)],rfl,by omega⟩
     ·exact .inl ⟨.inl (),by simp only [zW g0,zY],.inl rfl⟩
    ·rintro z (rfl | ⟨p,rfl,hp⟩)
     ·exact .inr ⟨n - 1,((n - 1:Nat):Int) - 1,by omega,by simp only [bX4,hn1,aBe (n:=n - 1) (by omega)],rfl,by omega⟩
     ·exact .inl ⟨.inr p,rfl,fun q hq=>by cases hq;exact hp⟩
   ·exact .inl ⟨.inl (),by simp only [zW h0,zY],fun p hp=>by cases hp⟩
  ·rintro z hz
   cases z with
   | inl u=>exact ⟨[],rfl,aN0⟩
   | inr p=>exact ⟨p,rfl,hz p rfl⟩
 obtain ⟨p,ep,kp⟩:=hm
 have ep:jA (up.1,up.2.1,up.2.2) (down.1,down.2.1,down.2.2)=some p:=ep
 exact ⟨p,by unfold iM pj3;rw [ep,aA],kp⟩

theorem wA.one {p:den tPt} (h:nA p):wA 1 [p]:=⟨by simp,fun q hq=>by rw [bW3.1 hq];exact h⟩

theorem wA.mono {n m:Nat} {l:lPt} (h:wA n l) (hm:n<=m):wA m l:=⟨bWv h.1 hm,h.2⟩

theorem yS {t:Ty} {B:Nat}: ∀ {l:List (den t)},(∀ x∈l,tot t x<=B)→tot (.sl t) l<=(B+1) * l.length
 | [],_=>by simp [tot]
 | x::l,h=>by
  have ih:=yS (l:=l) fun y hy=>h y (bW8 _ hy)
  have hx:=h x (by simp)
  rw [kW,bXy,Nat.mul_add,Nat.mul_one]
  omega

theorem aWy {q:den tPp} (h:q.2.2.2.length<=5):tot tPp q<=5:=by
 show tot ti q.1+(tot ti q.2.1+(tot ti q.2.2.1+tot (.sl cG) q.2.2.2))<=5
 rw [jU (t:=cG) rfl]
 show 0+(0+(0+q.2.2.2.length))<=5
 omega

theorem aI7 {p:den tPt} (h:nA p):tot tPt p<=18:=by
 have h1:=yS (t:=tPp) (B:=5) (l:=p) fun x hx=>aWy (h.2 x hx)
 have h2:=h.1
 show tot (.sl tPp) p<=18
 have :(5+1) * bW9 (α:=den tPp) p<=18:=by omega
 exact bWv h1 this

theorem aS7 {n:Nat} {l:lPt} (h:wA n l):tot (.sl tPt) l<=19 * n:=by
 have h1:=yS (t:=tPt) (B:=18) (l:=l) fun x hx=>aI7 (h.2 x hx)
 have h2:=h.1
 have :(18+1) * l.length<=19 * n:=by omega
 exact bWv h1 this

theorem bFr {as:lAS} {ls:lLk} (ht:yF as ls) {q:den tPp} (h:q.2.2.2.length<=5): ∃ b,oC (as,ls) q=some b:=by
 have hlen:=ht.len
 unfold oC pj2 pj4 pj5
 refine cC (G:=fun o=> ∃ b,o=some b) q.2.2.2.length (fun s:Int=>s) (fun i t=>True) (fun r:Unit⊕Bool=>True) ?_ ?_ 0 (0:Int) (by omega) rfl trivial ?_
 ·rintro i _ hi rfl _
  obtain ⟨bt,et⟩: ∃ v,wQ (q.1,q.2.1,q.2.2.1,q.2.2.2) (i:Int)=some v:=by
   unfold wQ pj4
   have e1:=aRz (p:=q) (n:=i) (by omega) (by omega)
   have e2:=aRz (p:=q) (n:=i+1) (by omega) (by omega)
   have e1:gU (q.1,q.2.1,q.2.2.1,q.2.2.2) (i:Int)=some _:=e1
   have e2:gU (q.1,q.2.1,q.2.2.1,q.2.2.2) ((i+1:Nat):Int)=some _:=e2
   simp only [aCr,aA,bN (show i<=1000000000 by omega),e1,e2]
   cases jQ q.1<;>exact ⟨_,rfl⟩
  have ev:=aV6 (t:=(as,ls)) (ts:=q.2.1) (beta:=bt) (h:=q.2.2.2[i]) (show as.length<=68719476736 by omega)
  have ev:fQ (as,ls) q.2.1 bt (q.2.2.2[i].1,q.2.2.2[i].2.1,q.2.2.2[i].2.2.1,q.2.2.2[i].2.2.2.1,q.2.2.2[i].2.2.2.2)=some _:=ev
  simp only [zX (show (i:Int)<(q.2.2.2.length:Int) by omega),zZ,aH,bWu hi,aA,et,ev,bN (show i<=1000000000 by omega)]
  cases aC3 (as,ls) q.2.1 bt q.2.2.2[i] with
  | true=>exact .inr ⟨_,rfl,rfl,trivial⟩
  | false=>exact .inl ⟨_,rfl,trivial⟩
 ·rintro _ rfl _
  exact ⟨.inl (),by simp only [zW (bXh _),zY],trivial⟩
 ·rintro r _
  cases r with
  | inl u=>exact ⟨_,rfl⟩
  | inr v=>exact ⟨_,rfl⟩

theorem bIj {as:lAS} {ls:lLk} (ht:yF as ls) {p:lPp} (h:nA p): ∃ b,pX (as,ls) p=some b:=by
 have h3:=h.1
 unfold pX pj2 pj4
 refine cC (G:=fun o=> ∃ b,o=some b) p.length (fun s:Int=>s) (fun i t=>True) (fun r:Unit⊕Bool=>True) ?_ ?_ 0 (0:Int) (by omega) rfl trivial ?_
 ·rintro i _ hi rfl _
  obtain ⟨b,eb⟩:=bFr ht (q:=p[i]) (h.2 p[i] (bXa hi))
  have eb:oC (as,ls) (p[i].1,p[i].2.1,p[i].2.2.1,p[i].2.2.2)=some b:=eb
  simp only [zX (show (i:Int)<(p.length:Int) by omega),zZ,aH,bWu hi,aA,eb,bN (show i<=1000000000 by omega)]
  cases b with
  | true=>exact .inr ⟨_,rfl,rfl,trivial⟩
  | false=>exact .inl ⟨_,rfl,trivial⟩
 ·rintro _ rfl _
  exact ⟨.inl (),by simp only [zW (bXh _),zY],trivial⟩
 ·rintro r _
  cases r with
  | inl u=>exact ⟨_,rfl⟩
  | inr v=>exact ⟨_,rfl⟩

theorem bBs {as:lAS} {ls:lLk} (ht:yF as ls) {p:lPp} (h:nA p) (now:Int): ∃ b,qU (as,ls) p now=some b:=by
 have hlen:=ht.len
 have hlk:=ht.links
 have h3:=h.1
 have e1:=aS5 (t:=(as,ls)) (p:=p) (show as.length<=_ by omega) (show ls.length<=_ by omega) (bWv (aI7 h) (by decide))
 obtain ⟨b2,e2⟩:=bIj ht h
 unfold qU pj2 pj5
 rw [e1,aA,e2,aA]
 obtain ⟨b3,e3⟩: ∃ b:Bool,(cond (!(xU (as,ls) p)) (some true) (some (!b2)))=some b:=by cases xU (as,ls) p<;>exact ⟨_,rfl⟩
 rw [e3,aA]
 cases b3 with
 | true=>exact ⟨_,rfl⟩
 | false=>
  refine cC (G:=fun o=> ∃ b,o=some b) p.length (fun s:Int=>s) (fun i t=>True) (fun r:Unit⊕Bool=>True) ?_ ?_ 0 (0:Int) (by omega) rfl trivial ?_
  ·rintro i _ hi rfl _
   have hh:=h.2 p[i] (bXa hi)
   simp only [zX (show (i:Int)<(p.length:Int) by omega),zZ,aH,bWu hi,aA]
   cases decide (p[i].2.1>now) with
   | true=>exact .inl ⟨_,rfl,trivial⟩
   | false=>
    simp only [zY]
    refine cC (G:=fun (o:Option (Int⊕(Unit⊕Bool)))=>(∃ r,o=some (bWs r)∧True)∨ ∃ s':Int,o=some (bWt s')∧s'=((i+1:Nat):Int)∧True) p[i].2.2.2.length (fun s:Int=>s) (fun j t=>True) (fun z:Unit⊕(Int⊕(Unit⊕Bool))=>z= .inl ()∨ ∃ b,z= .inr (.inr (.inr b))) ?_ ?_ 0 (0:Int) (by omega) rfl trivial ?_
    ·rintro j _ hj rfl _
     have ehv: ∀ (hp:den cG) (n:Int),lY hp n=some (decide (n<=hp.2.2.2.1)):=fun _ _=>rfl
     simp only [zX (show (j:Int)<(p[i].2.2.2.length:Int) by omega),zZ,aH,bWu hj,aA,ehv,bN (show j<=1000000000 by omega)]
     cases decide (now<=p[i].2.2.2[j].2.2.2.1) with
     | true=>exact .inr ⟨_,rfl,rfl,trivial⟩
     | false=>exact .inl ⟨_,rfl,.inr ⟨false,rfl⟩⟩
    ·rintro _ rfl _
     exact ⟨.inl (),by simp only [zW (bXh _),zY],.inl rfl⟩
    ·rintro z (rfl | ⟨b,rfl⟩)
     ·exact .inr ⟨((i+1:Nat):Int),by simp only [bX4,bN (show i<=1000000000 by omega)],rfl,trivial⟩
     ·exact .inl ⟨.inr b,rfl,trivial⟩
  ·rintro _ rfl _
   exact ⟨.inl (),by simp only [zW (bXh _),zY],trivial⟩
  ·rintro r _
   cases r with
   | inl u=>exact ⟨_,rfl⟩
   | inr v=>exact ⟨_,rfl⟩

theorem bI6 {a b:den tPp} (h:a.2.2.2.length<=5): ∃ v,jV a b=some v:=by
 obtain ⟨v,e⟩:=aPl (a:=a.2.2.2) (b:=b.2.2.2) (by omega)
 unfold jV
 rw [e,aA]
 cases a.1==b.1
 ·exact ⟨_,rfl⟩
 ·cases a.2.1==b.2.1
  ·exact ⟨_,rfl⟩
  ·cases a.2.2.1==b.2.2.1<;>exact ⟨_,rfl⟩

theorem bPt {a b:lPp} (h:nA a): ∃ v,iQ a b=some v:=by
 have h3:=h.1
 have h3:a.length<=3:=h3
 unfold iQ pj4
 by_cases hn:a.length=b.length
 ·rw [hn,bne_self_eq_false,zY,← hn]
  refine cC (G:=fun o=> ∃ b,o=some b) a.length (fun s:Int=>s) (fun i t=>True) (fun r:Unit⊕Bool=>True) ?_ ?_ 0 (0:Int) (by omega) rfl trivial ?_
  ·rintro i _ hi rfl _
   have h2:i<b.length:=by omega
   obtain ⟨v,e⟩:=bI6 (a:=a[i]) (b:=b[i]) (h.2 a[i] (bXa hi))
   have e:jV (a[i].1,a[i].2.1,a[i].2.2.1,a[i].2.2.2) (b[i].1,b[i].2.1,b[i].2.2.1,b[i].2.2.2)=some v:=e
   simp only [zX (show (i:Int)<(a.length:Int) by omega),zZ,aH,bWu hi,bWu h2,aA,e,bN (show i<=1000000000 by omega)]
   cases v with
   | true=>exact .inr ⟨_,rfl,rfl,trivial⟩
   | false=>exact .inl ⟨_,rfl,trivial⟩
  ·rintro _ rfl _
   exact ⟨.inl (),by simp only [zW (bXh _),zY],trivial⟩
  ·rintro r _
   cases r with
   | inl u=>exact ⟨_,rfl⟩
   | inr v=>exact ⟨_,rfl⟩
 ·rw [show ((a.length:Int) != (b.length:Int))=true by rw [bne_iff_ne];omega,zZ]
  exact ⟨_,rfl⟩

theorem bIo {n:Nat} (hn:n<=100000) {l:lPt} (h:wA n l) (p:den tPt): ∃ v,wR l p=some v:=by
 have h1:=h.1
 unfold wR
 refine cC (G:=fun o=> ∃ b,o=some b) l.length (fun s:Int=>s) (fun i t=>True) (fun r:Unit⊕Bool=>True) ?_ ?_ 0 (0:Int) (by omega) rfl trivial ?_
 ·rintro i _ hi rfl _
  obtain ⟨v,e⟩:=bPt (a:=l[i]) (b:=p) (h.2 l[i] (bXa hi))
  simp only [zX (show (i:Int)<(l.length:Int) by omega),zZ,aH,bWu hi,aA,e,bN (show i<=1000000000 by omega)]
  cases v with
  | false=>exact .inr ⟨_,rfl,rfl,trivial⟩
  | true=>exact .inl ⟨_,rfl,trivial⟩
 ·rintro _ rfl _
  exact ⟨.inl (),by simp only [zW (bXh _),zY],trivial⟩
 ·rintro r _
  cases r with
  | inl u=>exact ⟨_,rfl⟩
  | inr v=>exact ⟨_,rfl⟩

theorem aK9 {code:List Int} (hl:code.length<=1048576) {n:Nat} (hn:n<=1000) {c:List Int} {p h:Int} (hc:Cur code (c,p,h)): ∃ l c' p' h',dP (c,p,h) (n:Int)=some (l,c',p',h')∧(l.length=n∧ ∀ x∈l,0<=x∧x<=255)∧Cur code (c',p',h'):=by
 unfold dP pj3 pj4
 refine cC (G:=fun o=> ∃ l c' p' h',o=some (l,c',p',h')∧(l.length=n∧ ∀ x∈l,0<=x∧x<=255)∧Cur code (c',p',h')) n (fun s:Int×List Int×List Int×Int×Int=>s.1) (fun i s=>(s.2.1.length=i∧ ∀ x∈s.2.1,0<=x∧x<=255)∧Cur code s.2.2) (fun r:List Int×List Int×Int×Int=>(r.1.length=n∧ ∀ x∈r.1,0<=x∧x<=255)∧Cur code r.2) ?_ ?_ 0 ((0:Int),[],c,p,h) (by omega) rfl ⟨⟨rfl,fun x hx=>(bXi hx).elim⟩,hc⟩ (fun r hr=>⟨r.1,r.2.1,r.2.2.1,r.2.2.2,rfl,hr.1,hr.2⟩)
 ·rintro i ⟨_,l,c1,p1,h1⟩ hi rfl ⟨⟨g1,g2⟩,k1⟩
  simp only at g1 g2 k1
  obtain ⟨v,c2,p2,h2,e2,r2,k2⟩:=aFt hl k1
  obtain ⟨m,rfl⟩:=bXq r2.1
  right
  refine ⟨(((i+1:Nat):Int),l++[(m:Int)],c2,p2,h2),?_,rfl,⟨by simp [g1],fun x hx=>(bW5.1 hx).elim (g2 x) fun hx=>by rw [bW3.1 hx];omega⟩,k2⟩
  simp only [zX (show (i:Int)<(n:Int) by omega),zZ,e2,aA,aD (b:=1) (n:=l.length) (m:=1) (by decide) (by omega),bN (show i<=1000000000 by omega),aDg (n:=m) (by omega)]
 ·rintro ⟨_,l,c1,p1,h1⟩ rfl ⟨g,k1⟩
  exact ⟨(l,c1,p1,h1),by simp only [zW (bXh _),zY],g,k1⟩

theorem bE9 {up down:den tSg} (h1:up.2.2.length<=5) (h2:down.2.2.length<=5): ∃ p,jA up down=some p∧nA p:=by
 obtain ⟨p,e,k⟩:=bK8 h1 h2
 unfold iM pj3 at e
 refine ⟨p,?_,k⟩
 cases hm:jA (up.1,up.2.1,up.2.2) (down.1,down.2.1,down.2.2) with
 | none=>rw [hm] at e;cases e
 | some q=>rw [hm,aA] at e;cases e;rfl

def bR2 (code:List Int) (o:Option (lAS×lLk×lPp×List Int×q24)):Prop:= ∃ (as:lAS) (ls:lLk) (q:lPp) (c':List Int) (p' h':Int),o=some (as,ls,q,c',p',h')∧nA q∧yF as ls∧Cur code (c',p',h')

theorem aJr {q:den tPp} (h:q.2.2.2.length<=5):nA [q]:=⟨by simp,fun x hx=>by
 have hx:x∈[q]:=hx
 rw [bW3.1 hx];exact h⟩

abbrev PdS:=Int×Int×Int×Int×Int×cZ×cZ×List Int×Int×Int

theorem aWq {code:List Int} (hl:code.length<=1048576) {c:List Int} {p h:Int} (hc:Cur code (c,p,h)):bR2 code (rY (c,p,h)):=by
 obtain ⟨as,ls,c1,p1,h1,e1,ht,k1⟩:=aY4 hl hc
 obtain ⟨t2,b2,s2,c2,p2,h2,e2,l2,k2⟩:=aFq hl ht 2 k1
 obtain ⟨t3,b3,s3,c3,p3,h3,e3,l3,k3⟩:=aFq hl ht 2 k2
 obtain ⟨t4,b4,s4,c4,p4,h4,e4,l4,k4⟩:=aFq hl ht 1 k3
 obtain ⟨v5,c5,p5,h5,e5,r5,k5⟩:=aY hl (n:=5) (by decide) (by decide) k4
 unfold rY dd one pj3 pj4 pj6 pj9 zz4 zz5 zz6 zz7
 simp only [e1,e2,e3,e4,e5,aA,aV,bK,bA,aZ,bD,show aG 48 0 1=true from by decide,zZ]
 cases v5==(0:Int) with
 | true=>
  obtain ⟨q,eq,kq⟩:=bE9 (up:=(t2,b2,s2)) (down:=(t3,b3,s3)) l2 l3
  exact ⟨as,ls,q,c5,p5,h5,by simp only [zZ,eq,aA],kq,ht,k5⟩
 | false=>
  cases v5==(1:Int) with
  | true=>
   simp only [zZ,zY]
   by_cases hs:(s2.length:Int)>0
   ·obtain ⟨v6,c6,p6,h6,e6,r6,k6⟩:=aE5 hl (l:=[(1:Int),(4:Int)]) (by decide) (by decide) k5
    obtain ⟨q,eq,kq⟩:=xB (s:=(t2,b2,s2)) l2 v6 0
    exact ⟨as,ls,[q],c6,p6,h6,by simp only [zX hs,zZ,e6,eq,aA],aJr kq,ht,k6⟩
   ·exact ⟨as,ls,[],c5,p5,h5,by simp only [zW hs,zY,aA],aN0,ht,k5⟩
  | false=>
   cases v5==(2:Int) with
   | true=>
    simp only [zZ,zY]
    by_cases hs:(s4.length:Int)>0
    ·obtain ⟨v6,c6,p6,h6,e6,r6,k6⟩:=aE5 hl (l:=[(2:Int),(3:Int)]) (by decide) (by decide) k5
     obtain ⟨q,eq,kq⟩:=xB (s:=(t4,b4,s4)) l4 v6 0
     exact ⟨as,ls,[q],c6,p6,h6,by simp only [zX hs,zZ,e6,eq,aA],aJr kq,ht,k6⟩
    ·exact ⟨as,ls,[],c5,p5,h5,by simp only [zW hs,zY,aA],aN0,ht,k5⟩
   | false=>
    simp only [zY]
    obtain ⟨fc,efc⟩:=aIu (s:=(t4,b4,s4))
    obtain ⟨lc,elc⟩:=aSk (s:=(t4,b4,s4)) (by show s4.length<=_;omega)
    refine cC (G:=bR2 code) 6 (fun s:PdS=>s.1) (fun i s=>s.2.2.2.2.2.1.length<=5∧s.2.2.2.2.2.2.1.length<=5∧Cur code s.2.2.2.2.2.2.2) (fun r:Int×Int×Int×Int×cZ×cZ×List Int×Int×Int=>r.2.2.2.2.1.length<=5∧r.2.2.2.2.2.1.length<=5∧Cur code r.2.2.2.2.2.2) ?_ ?_ 0 ((0:Int),t2,b2,t3,b3,s2,s3,c5,p5,h5) (by omega) rfl ⟨l2,l3,k5⟩ ?_
    ·rintro i ⟨_,ut,ub,dt,db,us,ds,c6,p6,h6⟩ hi rfl ⟨g1,g2,g3⟩
     simp only at g1 g2 g3
     simp only [zX (show (i:Int)<6 by omega),zZ,aA,efc,elc]
     cases decide ((s4.length:Int)>0) with
     | false=>exact .inl ⟨(ut,ub,dt,db,us,ds,c6,p6,h6),rfl,g1,g2,g3⟩
     | true=>
      right
      obtain ⟨fu,efu⟩:=aIu (s:=(ut,ub,us))
      obtain ⟨fd,efd⟩:=aIu (s:=(dt,db,ds))
      simp only [zZ,efu,efd,aA]
      obtain ⟨x1,ex1⟩: ∃ b:Bool,(cond (decide ((us.length:Int)>(0:Int))) (some (fu != fc)) (some false))=some b:=by cases decide ((us.length:Int)>(0:Int))<;>exact ⟨_,rfl⟩
      obtain ⟨x2,ex2⟩: ∃ b:Bool,(cond (decide ((ds.length:Int)>(0:Int))) (some (fd != lc)) (some false))=some b:=by cases decide ((ds.length:Int)>(0:Int))<;>exact ⟨_,rfl⟩
      simp only [ex1,ex2,aA]
      obtain ⟨y1,y2,y3,c7,p7,h7,ey,ly,ky⟩: ∃ a b hs c p h,(cond x1 (Option.bind (jE (c6,p6,h6) (as,ls) (2:Int)) fun y72=>some (y72.1,y72.2.1,y72.2.2.1,y72.2.2.2.1,y72.2.2.2.2.1,y72.2.2.2.2.2)) (some (ut,ub,us,c6,p6,h6)))=some (a,b,hs,c,p,h)∧hs.length<=5∧Cur code (c,p,h):=by
       cases x1 with
       | false=>exact ⟨ut,ub,us,c6,p6,h6,rfl,g1,g3⟩
       | true=>
        obtain ⟨a,b,hs,c,p,h,eg,lg,kg⟩:=aFq hl ht 2 g3
        exact ⟨a,b,hs,c,p,h,by simp only [zZ,eg,aA],lg,kg⟩
      rw [ey,aA]
      simp only
      cases x2 with
      | false=>exact ⟨_,rfl,bN (show i<=1000000000 by omega),ly,g2,ky⟩
      | true=>
       obtain ⟨a,b,hs,c,p,h,eg,lg,kg⟩:=aFq hl ht 2 ky
       refine ⟨_,by simp only [zZ,eg,aA];rfl,bN (show i<=1000000000 by omega),ly,lg,kg⟩
    ·rintro ⟨_,ut,ub,dt,db,us,ds,c6,p6,h6⟩ rfl ⟨g1,g2,g3⟩
     exact ⟨(ut,ub,dt,db,us,ds,c6,p6,h6),by simp only [show decide (((6:Nat):Int)<(6:Int))=false from rfl,zY,aA],g1,g2,g3⟩
    rintro ⟨ut,ub,dt,db,us,ds,c6,p6,h6⟩ ⟨g1,g2,g3⟩
    simp only at g1 g2 g3
    obtain ⟨q1,f1,m1⟩:=xB (s:=(ut,ub,us)) g1 1 0
    obtain ⟨q2,f2,m2⟩:=xB (s:=(t4,b4,s4)) l4 2 0
    obtain ⟨q3,f3,m3⟩:=xB (s:=(dt,db,ds)) g2 4 0
    have one: ∀ (l:lPp) (q:den tPp) (n:Nat),l.length<=n→q.2.2.2.length<=5→(∀ x∈l,x.2.2.2.length<=5)→(l++[q]).length<=n+1∧ ∀ x∈l++[q],x.2.2.2.length<=5:=fun l q n hl hq h=>⟨by simp;omega,fun x hx=>(bW5.1 hx).elim (h x) fun hx=>by rw [bW3.1 hx];exact hq⟩
    simp only [f1,f2,f3,aA]
    obtain ⟨a1,j1,i1,i2⟩: ∃ l:lPp,(cond (decide ((us.length:Int)>(0:Int))) (some [q1]) (some []))=some l∧l.length<=1∧ ∀ x∈l,x.2.2.2.length<=5:=by
     cases decide ((us.length:Int)>(0:Int))
     ·exact ⟨[],rfl,by simp,fun x hx=>(bXi hx).elim⟩
     ·exact ⟨[q1],rfl,by simp,fun x hx=>by rw [bW3.1 hx];exact m1⟩
    rw [show ((q1.1,q1.2.1,q1.2.2.1,q1.2.2.2):den tPp)=q1 from rfl,j1,aA,aD (b:=48) (n:=a1.length) (m:=1) (by decide) (by omega)]
    obtain ⟨a2,j2,i3,i4⟩: ∃ l:lPp,(cond (decide ((s4.length:Int)>(0:Int))) (cond true (some (a1++[q2])) none) (some a1))=some l∧l.length<=2∧ ∀ x∈l,x.2.2.2.length<=5:=by
     cases decide ((s4.length:Int)>(0:Int))
     ·exact ⟨a1,rfl,by omega,i2⟩
     ·exact ⟨a1++[q2],rfl,one a1 q2 1 i1 m2 i2⟩
    rw [show ((q2.1,q2.2.1,q2.2.2.1,q2.2.2.2):den tPp)=q2 from rfl,j2,aA,aD (b:=48) (n:=a2.length) (m:=1) (by decide) (by omega)]
    cases decide ((ds.length:Int)>(0:Int))
    ·exact ⟨as,ls,a2,c6,p6,h6,rfl,⟨bWv i3 (by decide),i4⟩,ht,g3⟩
    ·exact ⟨as,ls,a2++[q3],c6,p6,h6,rfl,one a2 q3 2 i3 m3 i4,ht,g3⟩


structure bVv (p:den tPk):Prop where
 path:nA p.2.2.2.1
 len:p.2.2.2.2.2.2.2.2.2.length<=1000
 bytes: ∀ x∈p.2.2.2.2.2.2.2.2.2,(0:Int)<=x∧x<=(255:Int)

theorem bQw {code:List Int} (hl:code.length<=1048576) {c:List Int} {p h:Int} (hc:Cur code (c,p,h)): ∃ (as:lAS) (ls:lLk) (k:den tPk) (c':List Int) (p' h':Int),wW (c,p,h)=some (as,ls,k.1,k.2.1,k.2.2.1,k.2.2.2.2.1,k.2.2.2.2.2.1,k.2.2.2.2.2.2.1,k.2.2.2.2.2.2.2.1,k.2.2.2.2.2.2.2.2.1,k.2.2.2.1,k.2.2.2.2.2.2.2.2.2,c',p',h')∧bVv k∧yF as ls∧Cur code (c',p',h'):=by
 obtain ⟨as,ls,q,c1,p1,h1,e1,kq,kt,k1⟩:=aWq hl hc
 obtain ⟨v2,c2,p2,h2,e2,r2,k2⟩:=aY hl (n:=3) (by decide) (by decide) k1
 obtain ⟨v3,c3,p3,h3,e3,r3,k3⟩:=aY hl (n:=9) (by decide) (by decide) k2
 obtain ⟨v4,c4,p4,h4,e4,r4,k4⟩:=aY hl (n:=3) (by decide) (by decide) k3
 obtain ⟨v5,c5,p5,h5,e5,r5,k5⟩:=aY hl (n:=4) (by decide) (by decide) k4
 obtain ⟨m5,rfl⟩:=bXq r5.1
 obtain ⟨l6,c6,p6,h6,e6,⟨r6,b6⟩,k6⟩:=aK9 hl (n:=m5) (by omega) k5
 have e7:=aMo (kind:=wr (1+v2)) (res:=v4) (seq:=v3) (p:=q) (pay:=l6) (bWv (aI7 kq) (by decide)) (by omega)
 refine ⟨as,ls,aDp (wr (1+v2)) q v4 v3 l6,c6,p6,h6,?_,⟨kq,by show l6.length<=_;omega,b6⟩,kt,k6⟩
 unfold wW dd bRc pj3 zz4 zz5 zz6 zz7 zz8 zz9
 simp only [e1,e2,e3,e4,e5,e6,e7,aA,aV,bK,bA,aZ,bD]
 rfl

theorem bS3 (a b:Int):xL a b=some (a,b,0,[]):=rfl


def RvD (l:lRv):Prop:=l.length<=16∧ ∀ y∈l,dU y=true

theorem bJf {l:lRv} {x:den tRv} (h:RvD l):RvD (aH9 l x):=by
 obtain ⟨h1,h2⟩:=h
 unfold aH9
 cases hv:dU x with
 | false=>exact ⟨h1,h2⟩
 | true=>
  simp only [zZ]
  cases hs:cE (aAc x l) 0 l with
  | some r=>
   have :=aKb (fun r:lRv=> @ite Nat (RvD r) (Classical.propDecidable _) 0 1) 0 (g:=aAc x l) (l:=l) (k:=0) (fun j y r' hy hr=>by
    have hp:RvD r':=by
     unfold aAc at hr
     cases c1:y.1==x.1 with
     | false=>rw [c1] at hr;cases hr
     | true=>
      cases c2:y.2.1==x.2.1 with
      | false=>rw [c1,c2] at hr;cases hr
      | true=>
       rw [c1,c2] at hr
       injection hr with hr
       rw [← hr]
       have hy':=h2 y (bW6 hy)
       refine ⟨by simpa using h1,fun z hz=> ?_⟩
       rcases bZm hz with hz | rfl
       ·exact h2 z hz
       ·unfold dU at hv hy' ⊢
        simp only [bWw] at hv hy' ⊢
        refine ⟨hy'.1,hy'.2.1,?_⟩
        split
        ·exact hv.2.2
        ·exact hy'.2.2
    simp only [zT hp]
    exact bXb _) r hs
   by_cases hp:RvD r
   ·exact hp
   ·simp only [zS hp] at this
    omega
  | none=>
   have hx: ∀ y∈l++[x],dU y=true:=fun y hy=>(bW5.1 hy).elim (h2 y) fun hy=>by rw [bW3.1 hy];exact hv
   by_cases c:16<l.length+1
   ·simp only [c,zV]
    exact ⟨by simp;omega,fun y hy=>hx y (bYi hy)⟩
   ·simp only [c,zU]
    exact ⟨by simp;omega,hx⟩

theorem aF9 (a b c d cu wa:Int) (ms:lMs) (ps:lPt) (rv:lRv):tot tFl (a,b,c,d,ms,ps,cu,wa,rv)=tot (.sl tMs) ms+tot (.sl tPt) ps+rv.length:=by
 show tot ti a+(tot ti b+(tot ti c+(tot ti d+(tot (.sl tMs) ms+(tot (.sl tPt) ps+(tot ti cu+(tot ti wa+tot (.sl tRv) rv)))))))=_
 rw [jU (t:=tRv) rfl]
 show 0+(0+(0+(0+(_+(_+(0+(0+_)))))))=_
 omega

theorem aZ9 (b:List Int):tot (.sl tMs) [b]=1+b.length:=by
 rw [kW]
 show 1+tot (.sl tb) b+tot (.sl tMs) []=_
 rw [jU (t:=tb) rfl]
 rfl

theorem nJ (f:den tFl):eQ f=true↔inR f.1 0 7=true∧inR f.2.1 0 7=true∧f.1≠f.2.1∧inR f.2.2.1 0 100000=true∧f.2.2.2.2.1.length<=20∧inR f.2.2.2.1 0 (f.2.2.2.2.1.length:Int)=true∧f.2.2.2.2.2.1.length<=24∧
  (∀ m∈f.2.2.2.2.1,m.length<=40)∧(∀ x∈f.2.2.2.2.2.2.2.2,dU x=true)∧(f.2.2.2.2.2.2.1=0∨inR f.2.2.2.2.2.2.1 0 ((f.2.2.2.2.2.1.length:Int) - 1)=true)∧inR f.2.2.2.2.2.2.2.1 0 4=true∧f.2.2.2.2.2.2.2.2.length<=16:=by
 unfold eQ
 simp only [bWw,bYa,bXx,beq_iff_eq,beq_eq_false_iff_ne,zR,bXk,ne_eq]

theorem aU6 {c:Int} {n:Nat} (hn:n<=24) (h:c=0∨inR c 0 ((n:Int) - 1)=true):(if wr (c+1)>=(n:Int) then (0:Int) else wr (c+1))=0∨inR (if wr (c+1)>=(n:Int) then (0:Int) else wr (c+1)) 0 ((n:Int) - 1)=true:=by
 have hc:0<=c∧c<=24:=by
  rcases h with e | e
  ·omega
  ·have :=bJ.1 e;omega
 rw [bI (by omega) (by omega)]
 split
 ·exact .inl rfl
 ·right
  rw [bJ]
  omega

theorem bQo {w:Int} (h:inR w 0 4=true) (h4: ¬ (w==4)=true):inR (wr (w+1)) 0 4=true:=by
 rw [bJ] at h
 rw [beq_iff_eq] at h4
 rw [bI (by omega) (by omega),bJ]
 omega

theorem aLf {f:den tFl} (h:eQ f=true):eQ (aF f).1=true:=by
 rw [nJ] at h
 obtain ⟨h1,h2,h3,h4,h5,h6,h7,h8,h9,h10,h11,h12⟩:=h
 have key: ∀ c w:Int,(c=0∨inR c 0 ((f.2.2.2.2.2.1.length:Int) - 1)=true)→inR w 0 4=true→eQ (pN f c w)=true:=fun c w hc hw=>by
  rw [nJ]
  exact ⟨h1,h2,h3,h4,h5,h6,h7,h8,h9,hc,hw,h12⟩
 unfold aF
 split
 ·split
  ·exact key _ _ h10 rfl
  ·split
   ·exact key _ _ (aU6 h7 h10) rfl
   ·next e4=>exact key _ _ h10 (bQo h11 e4)
 ·exact key _ _ h10 rfl


def Byt (l:List Int):Prop:= ∀ x∈l,0<=x∧x<=255

theorem bUy (bs:ByteArray): ∀ (n i:Nat) (r:List UInt8),n+i=bs.size→ByteArray.toList.loop bs i r=r.reverse++bs.data.toList.drop i:=by
 intro n
 induction n with
 | zero=>
  intro i r h
  unfold ByteArray.toList.loop
  rw [zS (by omega),List.drop_of_length_le (by rw [bZk];show bs.size<=i;omega),bX1]
 | succ n ih=>
  intro i r h
  unfold ByteArray.toList.loop
  rw [zT (by omega),ih (i+1) _ (by omega)]
  have hi:i<bs.data.toList.length:=by rw [bZk];show i<bs.size;omega
  rw [bZ4 hi,List.reverse_cons,List.append_assoc]
  congr 2
  simp [ByteArray.get!]
  rw [getElem!_pos bs.data i (by rw [← bZk];exact hi)]

theorem bl (bs:ByteArray):bs.toList=bs.data.toList:=by
 unfold ByteArray.toList
 rw [bUy bs bs.size 0 [] (by omega)]
 simp

theorem aP5 (l:List Int):(xA l).toList=l.map fun n=>UInt8.ofNat n.toNat:=by
 rw [bl];rfl

theorem bHe {a b:List Int} (ha:Byt a) (hb:Byt b):((xA a).toList==(xA b).toList)=true↔a=b:=by
 rw [beq_iff_eq,aP5,aP5]
 constructor
 ·intro h
  have hl:=congrArg bW9 h
  simp only [bXz] at hl
  refine List.ext_getElem hl fun i h1 h2=> ?_
  have h3:(a.map fun n=>UInt8.ofNat n.toNat)[i]'(by simpa using h1)=(b.map fun n=>UInt8.ofNat n.toNat)[i]'(by simpa using h2):=by simp only [h]
  simp only [List.getElem_map] at h3
  have a1:=ha _ (bXa h1)
  have b1:=hb _ (bXa h2)
  have h4:=congrArg UInt8.toNat h3
  simp only [UInt8.toNat_ofNat'] at h4
  omega
 ·intro h;rw [h]

def oV (l:cZ):Option Int:=l.head?.map fun x=>(x.1:Int)

def gA (l:cZ):Option Int:=l.getLast?.map fun x=>(x.1:Int)

def aKw (p:lPp):Option Int:=p.head?.bind fun x=>oV x.2.2.2

def aC2 (p:lPp):Option Int:=p.getLast?.bind fun x=>gA x.2.2.2

theorem aVs {s:den tSg} (h:s.2.2.length<=1000): ∃ v,eG s=some v∧(0<=v→gA s.2.2=some v):=by
 unfold eG
 by_cases h0:s.2.2.length=0
 ·rw [show ((s.2.2.length:Int)==0)=true by rw [beq_iff_eq];omega,zZ]
  exact ⟨_,rfl,fun h=>absurd h (by decide)⟩
 ·have w1:wr ((s.2.2.length:Int) - 1)=((s.2.2.length - 1:Nat):Int):=by rw [bI (by omega) (by omega)];omega
  rw [show ((s.2.2.length:Int)==0)=false by rw [beq_eq_false_iff_ne];omega,zY,w1,aH,bWu (by omega),aA]
  refine ⟨_,rfl,fun _=> ?_⟩
  unfold gA
  rw [List.getLast?_eq_getElem?,bWu (by omega)]
  rfl

theorem bGy {s:den tSg}: ∃ v,cI s=some v∧(0<=v→oV s.2.2=some v):=by
 unfold cI
 by_cases h0:s.2.2.length=0
 ·rw [show ((s.2.2.length:Int)==0)=true by rw [beq_iff_eq];omega,zZ]
  exact ⟨_,rfl,fun h=>absurd h (by decide)⟩
 ·rw [show ((s.2.2.length:Int)==0)=false by rw [beq_eq_false_iff_ne];omega,zY,show (0:Int)=((0:Nat):Int) from rfl,aH,bWu (by omega),aA]
  refine ⟨_,rfl,fun _=> ?_⟩
  unfold oV
  rw [List.head?_eq_getElem?,bWu (by omega)]
  rfl

theorem bPy {s:den tSg} (h:s.2.2.length<=5) {k:Int} (hk:inR k 1 4=true) {m:Nat} (hm:m<s.2.2.length): ∃ t b:Int,bM s k (m:Int)=some (k,t,b,if jQ k then (s.2.2.drop m).reverse else s.2.2.drop m):=by
 unfold bM pj3 pj4 pj5 zz4
 obtain ⟨b1,eb1⟩:=aA6 (s:=s) (m:Int) (by omega)
 obtain ⟨b2,eb2⟩:=aA6 (s:=s) (s.2.2.length:Int) (by omega)
 have eb1:gI (s.1,s.2.1,s.2.2) (m:Int)=some b1:=eb1
 have eb2:gI (s.1,s.2.1,s.2.2) (s.2.2.length:Int)=some b2:=eb2
 simp only [iH,aA,aV,bK,bA,aZ,bD,eb1,eb2,aCr]
 have w1:wr ((s.2.2.length:Int) - 1)=(s.2.2.length:Int) - 1:=bI (by omega) (by omega)
 have c1:inR (m:Int) 0 ((s.2.2.length:Int) - 1)=true:=bJ.2 ⟨by omega,by omega⟩
 rw [w1,c1,hk]
 simp only [bWx,zY,aA]
 cases jQ k with
 | false=>
  have e1:bY (m:Int) (s.2.2.length:Int) (s.2.2.length:Int)=true:=yQ (by omega)
  rw [e1,aCw,aD (b:=40) (by decide) (by simp;omega)]
  exact ⟨_,_,rfl⟩
 | true=>
  refine mT (G:=fun o=> ∃ t b:Int,o=some (k,t,b,(s.2.2.drop m).reverse)) (fun (n:Nat) (t:Int×q12)=>t=((n:Int) - 1,k,s.1,b2,(s.2.2.drop n).reverse)∧m<=n∧n<=s.2.2.length) (fun q:den tPp=>q=(k,s.1,b2,(s.2.2.drop m).reverse)) ?_ s.2.2.length ((s.2.2.length:Int) - 1,k,s.1,b2,[]) ⟨by rw [List.drop_length];rfl,by omega,bXb _⟩ (fun q hq=>⟨s.1,b2,by rw [hq]⟩)
  rintro n _ ⟨rfl,g1,g2⟩
  by_cases hn:(n:Int) - 1>=(m:Int)
  ·right
   have hn1:(n:Int) - 1=((n - 1:Nat):Int):=by omega
   have hi:n - 1<s.2.2.length:=by omega
   have hd:(s.2.2.drop (n - 1)).reverse=(s.2.2.drop n).reverse++[s.2.2[n - 1]]:=by
    rw [bZ4 hi,List.reverse_cons,show n - 1+1=n by omega]
   refine ⟨n - 1,(((n - 1:Nat):Int) - 1,k,s.1,b2,(s.2.2.drop (n - 1)).reverse),by omega,?_,rfl,by omega,by omega⟩
   simp only [zX hn,zZ,aD (b:=40) (n:=(s.2.2.drop n).reverse.length) (m:=1) (by decide) (by simp;omega)]
   rw [hn1,aH,bWu hi,aA,bI (n:=((n - 1:Nat):Int) - 1) (by omega) (by omega),hd]
  ·left
   have hnm:n=m:=by omega
   subst hnm
   exact ⟨_,by simp only [zW hn,zY],rfl⟩


theorem aBw {s:den tSg} (h:s.2.2.length<=5) {k:Int} (hk:inR k 1 4=true) {m:Nat} (hm:m<s.2.2.length): ∃ q:den tPp,bM s k (m:Int)=some q∧q.2.2.2.length<=5∧oV q.2.2.2=(if jQ k then gA s.2.2 else some s.2.2[m].1)∧gA q.2.2.2=(if jQ k then some s.2.2[m].1 else gA s.2.2):=by
 obtain ⟨t,b,e⟩:=bPy h hk hm
 have hl:gA (s.2.2.drop m)=gA s.2.2:=by
  unfold gA
  rw [List.getLast?_drop,zS (by omega)]
 have hf:oV (s.2.2.drop m)=some s.2.2[m].1:=by
  unfold oV
  rw [List.head?_drop,bWu hm];rfl
 refine ⟨_,e,?_,?_,?_⟩
 ·show (if jQ k then _ else _:cZ).length<=5
  split<;>simp only [List.length_reverse,bYx]<;>omega
 ·show oV (if jQ k then _ else _)=_
  split
  ·rw [← hl];unfold oV gA;rw [List.head?_reverse]
  ·exact hf
 ·show gA (if jQ k then _ else _)=_
  split
  ·rw [← hf];unfold oV gA;rw [List.getLast?_reverse]
  ·exact hl


def aTo (r:Int) (n:Nat) (l:lSg):Prop:=aI3 n l∧ ∀ x∈l,gA x.2.2=some r

theorem aO5 {n:Nat} (hn:n<=100) {d cc:lSg} (hk:DbD n d cc) {r:Int} (hr:0<=r): ∃ l,dI (d,cc) r=some l∧aTo r n l:=by
 have hd:=hk.down
 unfold dI pj3
 refine cC (G:=fun o=> ∃ l,o=some l∧aTo r n l) d.length (fun s:Int×lSg=>s.1) (fun i s=>aTo r i s.2) (fun l:lSg=>aTo r n l) ?_ ?_ 0 ((0:Int),[]) (by omega) rfl ⟨⟨by simp,fun x hx=>(bXi hx).elim⟩,fun x hx=>(bXi hx).elim⟩ (fun l hl=>⟨l,rfl,hl⟩)
 ·rintro i ⟨_,l⟩ hi rfl ⟨⟨g1,g2⟩,g3⟩
  simp only at g1 g2 g3
  right
  have h5:=hk.hd d[i] (bXa hi)
  obtain ⟨v,ev,hv⟩:=aVs (s:=d[i]) (by omega)
  have ev:eG (d[i].1,d[i].2.1,d[i].2.2)=some v:=ev
  have ec:=aFh (x:=d[i]) (by omega)
  have ec:fP (d[i].1,d[i].2.1,d[i].2.2)=some d[i]:=ec
  simp only [zX (show (i:Int)<(d.length:Int) by omega),zZ,aH,bWu hi,aA,ev,ec,aD (b:=40) (n:=l.length) (m:=1) (by decide) (by omega),bN (show i<=1000000000 by omega)]
  cases hvr:(v==r) with
  | true=>
   have hvr:v=r:=eq_of_beq hvr
   exact ⟨_,rfl,rfl,⟨by simp;omega,fun x hx=>(bW5.1 hx).elim (g2 x) fun hx=>by rw [bW3.1 hx];exact h5⟩,fun x hx=>(bW5.1 hx).elim (g3 x) fun hx=>by rw [bW3.1 hx,← hvr];exact hv (by omega)⟩
  | false=>exact ⟨_,rfl,rfl,⟨by show l.length<=i+1;omega,g2⟩,g3⟩
 ·rintro ⟨_,l⟩ rfl ⟨⟨g1,g2⟩,g3⟩
  exact ⟨l,by simp only [zW (bXh _),zY],⟨by simp only at g1;omega,g2⟩,g3⟩


def aTw (a b:Int) (n:Nat) (l:lSg):Prop:=aI3 n l∧ ∀ x∈l,oV x.2.2=some a∧gA x.2.2=some b

theorem bMy {n:Nat} (hn:n<=100) {d cc:lSg} (hk:DbD n d cc) {a b:Int} (ha:0<=a) (hb:0<=b): ∃ l,nW (d,cc) a b=some l∧aTw a b n l:=by
 have hd:=hk.core
 unfold nW pj3
 refine cC (G:=fun o=> ∃ l,o=some l∧aTw a b n l) cc.length (fun s:Int×lSg=>s.1) (fun i s=>aTw a b i s.2) (fun l:lSg=>aTw a b n l) ?_ ?_ 0 ((0:Int),[]) (by omega) rfl ⟨⟨by simp,fun x hx=>(bXi hx).elim⟩,fun x hx=>(bXi hx).elim⟩ (fun l hl=>⟨l,rfl,hl⟩)
 ·rintro i ⟨_,l⟩ hi rfl ⟨⟨g1,g2⟩,g3⟩
  simp only at g1 g2 g3
  right
  have h5:=hk.hc cc[i] (bXa hi)
  obtain ⟨v,ev,hv⟩:=aVs (s:=cc[i]) (by omega)
  have ev:eG (cc[i].1,cc[i].2.1,cc[i].2.2)=some v:=ev
  obtain ⟨u,eu,hu⟩:=bGy (s:=cc[i])
  have eu:cI (cc[i].1,cc[i].2.1,cc[i].2.2)=some u:=eu
  have ec:=aFh (x:=cc[i]) (by omega)
  have ec:fP (cc[i].1,cc[i].2.1,cc[i].2.2)=some cc[i]:=ec
  simp only [zX (show (i:Int)<(cc.length:Int) by omega),zZ,aH,bWu hi,aA,ev,eu,ec,aD (b:=40) (n:=l.length) (m:=1) (by decide) (by omega),bN (show i<=1000000000 by omega)]
  cases hua:(u==a) with
  | true=>
   simp only [zZ,aA]
   cases hvb:(v==b) with
   | true=>
    have hua:u=a:=eq_of_beq hua
    have hvb:v=b:=eq_of_beq hvb
    exact ⟨_,rfl,rfl,⟨by simp;omega,fun x hx=>(bW5.1 hx).elim (g2 x) fun hx=>by rw [bW3.1 hx];exact h5⟩,fun x hx=>(bW5.1 hx).elim (g3 x) fun hx=>by rw [bW3.1 hx,← hua,← hvb];exact ⟨hu (by omega),hv (by omega)⟩⟩
   | false=>exact ⟨_,rfl,rfl,⟨by show l.length<=i+1;omega,g2⟩,g3⟩
  | false=>exact ⟨_,rfl,rfl,⟨by show l.length<=i+1;omega,g2⟩,g3⟩
 ·rintro ⟨_,l⟩ rfl ⟨⟨g1,g2⟩,g3⟩
  exact ⟨l,by simp only [zW (bXh _),zY],⟨by simp only at g1;omega,g2⟩,g3⟩

theorem bRh {s:den tSg} (h:s.2.2.length<=1000) (r:Int): ∃ v,nL s r=some v∧(0<=v→ ∃ (m:Nat) (x:den cG),v=(m:Int)∧s.2.2[m]? =some x∧x.1=r):=by
 unfold nL
 refine cC (G:=fun o=> ∃ v,o=some v∧(0<=v→ ∃ (m:Nat) (x:den cG),v=(m:Int)∧s.2.2[m]? =some x∧x.1=r)) s.2.2.length (fun s:Int=>s) (fun i t=>True) (fun z:Unit⊕Int=> ∀ v,z= .inr v→ ∃ (m:Nat) (x:den cG),v=(m:Int)∧s.2.2[m]? =some x∧x.1=r) ?_ ?_ 0 (0:Int) (by omega) rfl trivial ?_
 ·rintro i _ hi rfl _
  simp only [zX (show (i:Int)<(s.2.2.length:Int) by omega),zZ,aH,bWu hi,aA,bN (show i<=1000000000 by omega)]
  cases hx:(s.2.2[i].1==r) with
  | true=>exact .inl ⟨_,rfl,fun v hv=>by cases hv;exact ⟨i,s.2.2[i],rfl,bWu hi,eq_of_beq hx⟩⟩
  | false=>exact .inr ⟨_,rfl,rfl,trivial⟩
 ·rintro _ rfl _
  exact ⟨.inl (),by simp only [zW (bXh _),zY],fun v hv=>by cases hv⟩
 ·rintro z hz
  cases z with
  | inl u=>exact ⟨-1,rfl,fun h=>absurd h (by decide)⟩
  | inr v=>exact ⟨v,rfl,fun _=>hz v rfl⟩


def aPj (a b:Int) (p:den tPt):Prop:=nA p∧aKw p=some a∧aC2 p=some b

def bZ (a b:Int) (n:Nat) (l:lPt):Prop:=l.length<=n∧ ∀ p∈l,aPj a b p

theorem bZ.add {a b:Int} {n m:Nat} {k l:lPt} (ha:bZ a b n k) (hb:bZ a b m l):bZ a b (n+m) (k++l):=⟨by rw [bXp];have :=ha.1;have :=hb.1;omega,fun p hp=>(bW5.1 hp).elim (ha.2 p) (hb.2 p)⟩

theorem bZ.one {a b:Int} {p:den tPt} (h:aPj a b p):bZ a b 1 [p]:=⟨by simp,fun q hq=>by rw [bW3.1 hq];exact h⟩

theorem bZ.mono {a b:Int} {n m:Nat} {l:lPt} (h:bZ a b n l) (hm:n<=m):bZ a b m l:=⟨bWv h.1 hm,h.2⟩

theorem bZ.d {a b:Int} {n:Nat} {l:lPt} (h:bZ a b n l):wA n l:=⟨h.1,fun p hp=>(h.2 p hp).1⟩

theorem bGz {up core down:den tSg} (h1:up.2.2.length<=5) (h2:core.2.2.length<=5) (h3:down.2.2.length<=5) (b:Bool) (hc:0<core.2.2.length) {x y:Int}
  (hx:(up.2.2.length=0∧(if b then gA core.2.2 else oV core.2.2)=some x)∨(0<up.2.2.length∧gA up.2.2=some x))
  (hy:(down.2.2.length=0∧(if b then oV core.2.2 else gA core.2.2)=some y)∨(0<down.2.2.length∧gA down.2.2=some y)): ∃ p,lZ up core b down=some p∧aPj x y p:=by
 have h0:oV core.2.2=some core.2.2[0].1:=by
  unfold oV
  rw [List.head?_eq_getElem?,bWu hc];rfl
 obtain ⟨q2,e2,k2,f2,l2⟩:=aBw (s:=core) h2 (k:=cond b 3 2) (m:=0) (by cases b<;>rfl) hc
 have e2:bM (core.1,core.2.1,core.2.2) (cond b 3 2) 0=some q2:=e2
 have eb:(cond b (some (3:Int)) (some (2:Int)))=some (cond b 3 2):=by cases b<;>rfl
 have F2:oV q2.2.2.2=(if b then gA core.2.2 else oV core.2.2):=by rw [f2,h0];cases b<;>rfl
 have L2:gA q2.2.2.2=(if b then oV core.2.2 else gA core.2.2):=by rw [l2,h0];cases b<;>rfl
 have dc:decide ((core.2.2.length:Int)>(0:Int))=true:=zX (by omega)
 obtain ⟨q1,e1,k1⟩:=xB (s:=up) h1 1 0
 obtain ⟨q3,e3,k3⟩:=xB (s:=down) h3 4 0
 have e1':bM (up.1,up.2.1,up.2.2) 1 0=some q1:=e1
 have e3':bM (down.1,down.2.1,down.2.2) 4 0=some q3:=e3
 have F1:0<up.2.2.length→oV q1.2.2.2=gA up.2.2:=fun hu=>by
  obtain ⟨q,e,_,f,_⟩:=aBw (s:=up) h1 (k:=1) (m:=0) rfl hu
  have :some q1=some q:=e1.symm.trans e
  injection this with this
  rw [this,f];rfl
 have L3:0<down.2.2.length→gA q3.2.2.2=gA down.2.2:=fun hu=>by
  obtain ⟨q,e,_,_,l⟩:=aBw (s:=down) h3 (k:=4) (m:=0) rfl hu
  have :some q3=some q:=e3.symm.trans e
  injection this with this
  rw [this,l];rfl
 unfold lZ pj3 pj4
 rw [eb]
 simp only [e1',e2,e3',aA,dc,zZ]
 rw [show aG 48 0 1=true from by decide]
 rcases hx with ⟨hu,hx⟩ | ⟨hu,hx⟩
 ·rw [zW (show ¬ ((up.2.2.length:Int)>0) by omega)]
  rcases hy with ⟨hd,hy⟩ | ⟨hd,hy⟩
  ·rw [zW (show ¬ ((down.2.2.length:Int)>0) by omega)]
   exact ⟨[q2],rfl,aJr k2,by show oV q2.2.2.2=_;rw [F2,hx],by show gA q2.2.2.2=_;rw [L2,hy]⟩
  ·rw [zX (show (down.2.2.length:Int)>0 by omega)]
   refine ⟨[q2,q3],rfl,⟨bZv rfl,fun z hz=> ?_⟩,by show oV q2.2.2.2=_;rw [F2,hx],by show gA q3.2.2.2=_;rw [L3 hd,hy]⟩
   have hz:z∈[q2,q3]:=hz
   simp only [bWz,bXi,or_false] at hz
   rcases hz with rfl | rfl
   ·exact k2
   ·exact k3
 ·rw [zX (show (up.2.2.length:Int)>0 by omega)]
  rcases hy with ⟨hd,hy⟩ | ⟨hd,hy⟩
  ·rw [zW (show ¬ ((down.2.2.length:Int)>0) by omega)]
   refine ⟨[q1,q2],rfl,⟨bZv rfl,fun z hz=> ?_⟩,by show oV q1.2.2.2=_;rw [F1 hu,hx],by show gA q2.2.2.2=_;rw [L2,hy]⟩
   have hz:z∈[q1,q2]:=hz
   simp only [bWz,bXi,or_false] at hz
   rcases hz with rfl | rfl
   ·exact k1
   ·exact k2
  ·rw [zX (show (down.2.2.length:Int)>0 by omega)]
   refine ⟨[q1,q2,q3],rfl,⟨bZv rfl,fun z hz=> ?_⟩,by show oV q1.2.2.2=_;rw [F1 hu,hx],by show gA q3.2.2.2=_;rw [L3 hd,hy]⟩
   have hz:z∈[q1,q2,q3]:=hz
   simp only [bWz,bXi,or_false] at hz
   rcases hz with rfl | rfl | rfl
   ·exact k1
   ·exact k2
   ·exact k3


def bJ9 (up:den tSg) (a x:Int):Prop:=(up.2.2.length=0∧a=x)∨(0<up.2.2.length∧gA up.2.2=some x)

theorem aOf {n:Nat} (hn:n<=100) {d cc:lSg} (hk:DbD n d cc) {up down:den tSg} (h1:up.2.2.length<=5) (h3:down.2.2.length<=5) {a b x y:Int} (ha:0<=a) (hb:0<=b) (hx:bJ9 up a x) (hy:bJ9 down b y): ∃ l,iI (d,cc) up a b down=some l∧bZ x y (2 * n) l:=by
 obtain ⟨y1,e1,⟨f1,g1⟩,b1⟩:=bMy hn hk ha hb
 obtain ⟨y2,e2,⟨f2,g2⟩,b2⟩:=bMy hn hk hb ha
 unfold iI ixb pj2 pj3
 rw [e1,aA]
 refine cC (G:=fun o=> ∃ l,o=some l∧bZ x y (2 * n) l) y1.length (fun s:Int×lPt=>s.1) (fun i s=>bZ x y i s.2) (fun l:lPt=>bZ x y n l) ?_ ?_ 0 ((0:Int),[]) (by omega) rfl ⟨by simp,fun x hx=>(bXi hx).elim⟩ ?_
 ·rintro i ⟨_,l⟩ hi rfl hp
  simp only at hp
  have hl:=hp.1
  right
  have hpos:0<y1[i].2.2.length:=by
   have :=(b1 y1[i] (bXa hi)).1
   cases h0:y1[i].2.2 with
   | nil=>rw [h0] at this;cases this
   | cons z l=>exact Nat.succ_pos _
  obtain ⟨p,ep,kp⟩:=bGz h1 (g1 y1[i] (bXa hi)) h3 false hpos (x:=x) (y:=y) (hx.imp (fun h=>⟨h.1,by rw [← h.2];exact (b1 y1[i] (bXa hi)).1⟩) id) (hy.imp (fun h=>⟨h.1,by rw [← h.2];exact (b1 y1[i] (bXa hi)).2⟩) id)
  have ep:lZ (up.1,up.2.1,up.2.2) (y1[i].1,y1[i].2.1,y1[i].2.2) false (down.1,down.2.1,down.2.2)=some p:=ep
  refine ⟨(((i+1:Nat):Int),l++[p]),?_,rfl,hp.add (m:=1) ⟨by simp,fun q hq=>by rw [bW3.1 hq];exact kp⟩⟩
  simp only [zX (show (i:Int)<(y1.length:Int) by omega),zX (show (0:Int)<=(i:Int) by omega),zZ,bW4,bWu hi,aA,ep,aD (b:=24) (n:=l.length) (m:=1) (by decide) (by omega),bN (show i<=1000000000 by omega)]
 ·rintro ⟨_,l⟩ rfl hp
  simp only at hp
  exact ⟨l,by simp only [zW (bXh _),zY],bWv hp.1 f1,hp.2⟩
 rintro l1 hl1
 rw [e2,aA]
 refine cC (G:=fun o=> ∃ l,o=some l∧bZ x y (2 * n) l) y2.length (fun s:Int×lPt=>s.1) (fun i s=>bZ x y (n+i) s.2) (fun l:lPt=>bZ x y (2 * n) l) ?_ ?_ 0 ((0:Int),l1) (by omega) rfl hl1 (fun l hl=>⟨l,rfl,hl⟩)
 ·rintro i ⟨_,l⟩ hi rfl hp
  simp only at hp
  have hl:=hp.1
  right
  have hpos:0<y2[i].2.2.length:=by
   have :=(b2 y2[i] (bXa hi)).1
   cases h0:y2[i].2.2 with
   | nil=>rw [h0] at this;cases this
   | cons z l=>exact Nat.succ_pos _
  obtain ⟨p,ep,kp⟩:=bGz h1 (g2 y2[i] (bXa hi)) h3 true hpos (x:=x) (y:=y) (hx.imp (fun h=>⟨h.1,by rw [← h.2];exact (b2 y2[i] (bXa hi)).2⟩) id) (hy.imp (fun h=>⟨h.1,by rw [← h.2];exact (b2 y2[i] (bXa hi)).1⟩) id)
  have ep:lZ (up.1,up.2.1,up.2.2) (y2[i].1,y2[i].2.1,y2[i].2.2) true (down.1,down.2.1,down.2.2)=some p:=ep
  refine ⟨(((i+1:Nat):Int),l++[p]),?_,rfl,hp.add (m:=1) ⟨by simp,fun q hq=>by rw [bW3.1 hq];exact kp⟩⟩
  simp only [zX (show (i:Int)<(y2.length:Int) by omega),zX (show (0:Int)<=(i:Int) by omega),zZ,bW4,bWu hi,aA,ep,aD (b:=24) (n:=l.length) (m:=1) (by decide) (by omega),bN (show i<=1000000000 by omega)]
 ·rintro ⟨_,l⟩ rfl hp
  simp only at hp
  exact ⟨l,by simp only [zW (bXh _),zY],bWv hp.1 (by omega),hp.2⟩


def aL0 (a b:Int) (p:den tPt):Prop:=p=[]∨aPj a b p

theorem bU8 {up down:den tSg} (h1:up.2.2.length<=5) (h2:down.2.2.length<=5) {x y:Int} (hx:gA up.2.2=some x) (hy:gA down.2.2=some y): ∃ p,iM up down=some p∧aL0 x y p:=by
 obtain ⟨y1,e1,l1⟩:=aCs (s:=up) (by omega)
 obtain ⟨y2,e2,l2⟩:=aCs (s:=down) (by omega)
 have e1:cY (up.1,up.2.1,up.2.2)=some y1:=e1
 have e2:cY (down.1,down.2.1,down.2.2)=some y2:=e2
 have hm: ∃ p,jA up down=some p∧aL0 x y p:=by
  unfold jA ixb pj3 pj4
  rw [e1,aA,e2,aA,aBe (n:=y1.length) (by omega)]
  refine mT (G:=fun o=> ∃ p,o=some p∧aL0 x y p) (fun (n:Nat) (s:Int)=>s=(n:Int) - 1∧n<=y1.length) (fun z:Unit⊕den tPt=> ∀ p,z= .inr p→aL0 x y p) ?_ y1.length ((y1.length:Int) - 1) ⟨rfl,bXb _⟩ ?_
  ·rintro n _ ⟨rfl,hn⟩
   by_cases h0:(n:Int) - 1>=0
   ·simp only [zX h0,zZ]
    have hn1:(n:Int) - 1=((n - 1:Nat):Int):=by omega
    have hi:n - 1<y1.length:=by omega
    rw [aBe (n:=y2.length) (by omega)]
    refine mT (G:=fun (o:Option (Int⊕(Unit⊕den tPt)))=>(∃ r:Unit⊕den tPt,o=some (bWs r)∧ ∀ p,r=bWs p→aL0 x y p)∨ ∃ (m:Nat) (s':Int),m<n∧o=some (bWt s')∧s'=(m:Int) - 1∧m<=y1.length) (fun (k:Nat) (s:Int)=>s=(k:Int) - 1∧k<=y2.length) (fun z:Unit⊕(Int⊕(Unit⊕den tPt))=>z= .inl ()∨ ∃ p,z= .inr (.inr (.inr p))∧aL0 x y p) ?_ y2.length ((y2.length:Int) - 1) ⟨rfl,bXb _⟩ ?_
    ·rintro k _ ⟨rfl,hk⟩
     by_cases g0:(k:Int) - 1>=0
     ·have hk1:(k:Int) - 1=((k - 1:Nat):Int):=by omega
      have hj:k - 1<y2.length:=by omega
      simp only [hn1,hk1,zX (show ((k - 1:Nat):Int)>=0 by omega),zX (show (0:Int)<=((n - 1:Nat):Int) by omega),zX (show (0:Int)<=((k - 1:Nat):Int) by omega),zX (show ((n - 1:Nat):Int)<(y1.length:Int) by omega),zX (show ((k - 1:Nat):Int)<(y2.length:Int) by omega),zZ,bW4,bWu hi,bWu hj,aA]
      cases y1[n - 1]==y2[k - 1] with
      | true=>
       obtain ⟨q1,f1,g1,u1,u2⟩:=aBw (s:=up) h1 (k:=1) (m:=n - 1) rfl (by omega)
       obtain ⟨q2,f2,g2,v1,v2⟩:=aBw (s:=down) h2 (k:=4) (m:=k - 1) rfl (by omega)
       have f1:bM (up.1,up.2.1,up.2.2) 1 ((n - 1:Nat):Int)=some q1:=f1
       have f2:bM (down.1,down.2.1,down.2.2) 4 ((k - 1:Nat):Int)=some q2:=f2
       exact .inl ⟨.inr (.inr (.inr [q1,q2])),by simp only [zZ,f1,f2,aA],.inr ⟨[q1,q2],rfl,.inr ⟨⟨bZv rfl,fun x hx=>by
        have hx:x∈[q1,q2]:=hx
        simp only [bWz,bXi,or_false] at hx
        rcases hx with rfl | rfl
        ·exact g1
        ·exact g2⟩,u1.trans hx,v2.trans hy⟩⟩⟩
      | false=>exact .inr ⟨k - 1,((k - 1:Nat):Int) - 1,by omega,by simp only [zY,aBe (n:=k - 1) (by omega)],rfl,by omega⟩
     ·exact .inl ⟨.inl (),by simp only [zW g0,zY],.inl rfl⟩
    ·rintro z (rfl | ⟨p,rfl,hp⟩)
     ·exact .inr ⟨n - 1,((n - 1:Nat):Int) - 1,by omega,by simp only [bX4,hn1,aBe (n:=n - 1) (by omega)],rfl,by omega⟩
     ·exact .inl ⟨.inr p,rfl,fun q hq=>by cases hq;exact hp⟩
   ·exact .inl ⟨.inl (),by simp only [zW h0,zY],fun p hp=>by cases hp⟩
  ·rintro z hz
   cases z with
   | inl u=>exact ⟨[],rfl,.inl rfl⟩
   | inr p=>exact ⟨p,rfl,hz p rfl⟩
 obtain ⟨p,ep,kp⟩:=hm
 have ep:jA (up.1,up.2.1,up.2.2) (down.1,down.2.1,down.2.2)=some p:=ep
 exact ⟨p,by unfold iM pj3;rw [ep,aA],kp⟩

theorem bLz {y:lSg} {n:Nat} (hn:n<=100) (hy:aI3 n y) (kind r:Int) {a b:Int} (hk4:inR kind 1 4=true) (hends: ∀ s∈y,∀ (m:Nat) (x:den cG),s.2.2[m]? =some x→x.1=r→(if jQ kind then gA s.2.2 else some x.1)=some a∧(if jQ kind then some x.1 else gA s.2.2)=some b) {m:Nat} (hm:m<=10000) {l0:lPt} (h0:bZ a b m l0) {T:Type} {k:lPt→Option T} {G:Option T→Prop} (hk: ∀ l,bZ a b (m+n) l→G (k l)):
  G (Option.bind (aC (fun (s8:Int×lPt)=>cond (decide (s8.1<(y.length:Int))) (Option.bind (cond (decide ((0:Int)<=s8.1)) (cond (decide (s8.1<(y.length:Int))) (Option.bind y[s8.1.toNat]? fun x9=>Option.bind (nL (x9.1,x9.2.1,x9.2.2) r) fun y10=>cond (decide (y10>=(0:Int))) (cond (decide ((0:Int)<=s8.1)) (cond (decide (s8.1<(y.length:Int))) (Option.bind y[s8.1.toNat]? fun x11=>Option.bind (bM (x11.1,x11.2.1,x11.2.2) kind y10) fun y12=>cond (aG 24 s8.2.length 1) (some (s8.2++[[(y12.1,y12.2.1,y12.2.2.1,y12.2.2.2)]])) none) none) none) (some s8.2)) none) none) fun (s13:lPt)=>some (bWt (wr (s8.1+(1:Int)),s13))) (some (bWs s8.2))) ((0:Int),l0)) k):=by
 obtain ⟨hy1,hy2⟩:=hy
 refine cC (G:=G) y.length (fun s:Int×lPt=>s.1) (fun i s=>bZ a b (m+i) s.2) (fun l:lPt=>bZ a b (m+n) l) ?_ ?_ 0 ((0:Int),l0) (by omega) rfl h0 hk
 ·rintro i ⟨_,l⟩ hi rfl hp
  simp only at hp
  have hl:=hp.1
  have h5:=hy2 y[i] (bXa hi)
  obtain ⟨v,ev,iv⟩:=bRh (s:=y[i]) (by omega) r
  have ev:nL (y[i].1,y[i].2.1,y[i].2.2) r=some v:=ev
  right
  by_cases hv:v>=0
  ·obtain ⟨m',x',rfl,hx',hr'⟩:=iv hv
   obtain ⟨hm',ex'⟩:=bW1.1 hx'
   obtain ⟨q,eq,kq,u1,u2⟩:=aBw (s:=y[i]) h5 hk4 hm'
   obtain ⟨z1,z2⟩:=hends y[i] (bXa hi) m' x' hx' hr'
   rw [ex'] at u1 u2
   have eq:bM (y[i].1,y[i].2.1,y[i].2.2) kind (m':Int)=some q:=eq
   simp only [zX (show (i:Int)<(y.length:Int) by omega),zX (show (0:Int)<=(i:Int) by omega),zZ,bW4,bWu hi,aA,ev,eq,zX hv,aD (b:=24) (n:=l.length) (m:=1) (by decide) (by omega),bN (show i<=1000000000 by omega)]
   exact ⟨_,rfl,rfl,hp.add (bZ.one (p:=[q]) ⟨aJr kq,u1.trans z1,u2.trans z2⟩)⟩
  ·simp only [zX (show (i:Int)<(y.length:Int) by omega),zX (show (0:Int)<=(i:Int) by omega),zZ,bW4,bWu hi,aA,ev,zW hv,zY,bN (show i<=1000000000 by omega)]
   exact ⟨_,rfl,rfl,hp.mono (by omega)⟩
 ·rintro ⟨_,l⟩ rfl hp
  simp only at hp
  exact ⟨l,by simp only [zW (bXh _),zY],hp.mono (by omega)⟩

theorem bSi {n:Nat} (hn:n<=100) {d cc:lSg} (hk:DbD n d cc) {a b:Int} (ha:0<=a) (hb:0<=b): ∃ l,tW (d,cc) a b=some l∧bZ a b (4 * n) l:=by
 obtain ⟨y1,e1,g1,w1⟩:=aO5 hn hk ha
 obtain ⟨y2,e2,g2,w2⟩:=aO5 hn hk hb
 obtain ⟨y3,e3,g3⟩:=aOf hn hk (up:=(0,0,[])) (down:=(0,0,[])) (by simp) (by simp) ha hb (.inl ⟨rfl,rfl⟩) (.inl ⟨rfl,rfl⟩)
 unfold tW ixb pj2 pj3 pj4
 rw [e1,aA]
 refine bLz hn g1 1 b (a:=a) (b:=b) rfl (fun s hs m x hx hr=>⟨w1 s hs,by show some x.1=some b;rw [hr]⟩) (m:=0) (by omega) (l0:=[]) ⟨by simp,fun x hx=>(bXi hx).elim⟩ (G:=fun o=> ∃ l,o=some l∧bZ a b (4 * n) l) (fun l hl=> ?_)
 rw [e2,aA]
 refine bLz hn g2 4 a (a:=a) (b:=b) rfl (fun s hs m x hx hr=>⟨by show some x.1=some a;rw [hr],w2 s hs⟩) (m:=0+n) (by omega) hl (G:=fun o=> ∃ l,o=some l∧bZ a b (4 * n) l) (fun l hl=> ?_)
 have h1:=hl.1
 have h2:=g3.1
 rw [e3,aA,aD (b:=24) (by decide) (by omega)]
 exact ⟨_,rfl,(hl.add g3).mono (by omega)⟩

theorem aIs {s:den tSg} {a x:Int} (h:gA s.2.2=some x):bJ9 s a x:=by
 cases h0:s.2.2 with
 | nil=>rw [h0] at h;cases h
 | cons z l=>exact .inr ⟨by rw [h0];exact Nat.succ_pos _,h⟩

theorem aOc {s:den tSg} {x:Int} (h:gA s.2.2=some x) (hi:aGc s.2.2): ∃ v,cI s=some v∧0<=v:=by
 have hp:0<s.2.2.length:=by
  cases h0:s.2.2 with
  | nil=>rw [h0] at h;cases h
  | cons z l=>exact Nat.succ_pos _
 unfold cI
 rw [show ((s.2.2.length:Int)==0)=false by rw [beq_eq_false_iff_ne];omega,zY,show (0:Int)=((0:Nat):Int) from rfl,aH,bWu hp,aA]
 exact ⟨_,rfl,(hi _ (bXa hp)).1⟩

theorem bHr {n:Nat} (hn:n<=100) {d cc:lSg} (hk:DbD n d cc) (r:Int): ∃ l,dI (d,cc) r=some l∧(aI3 n l∧ ∀ x∈l,x∈d):=by
 have hd:=hk.down
 unfold dI pj3
 refine cC (G:=fun o=> ∃ l,o=some l∧(aI3 n l∧ ∀ x∈l,x∈d)) d.length (fun s:Int×lSg=>s.1) (fun i s=>(aI3 i s.2∧ ∀ x∈s.2,x∈d)) (fun l:lSg=>(aI3 n l∧ ∀ x∈l,x∈d)) ?_ ?_ 0 ((0:Int),[]) (by omega) rfl ⟨⟨by simp,fun x hx=>(bXi hx).elim⟩,fun x hx=>(bXi hx).elim⟩ (fun l hl=>⟨l,rfl,hl⟩)
 ·rintro i ⟨_,l⟩ hi rfl ⟨⟨g1,g2⟩,g3⟩
  simp only at g1 g2 g3
  right
  have h5:=hk.hd d[i] (bXa hi)
  obtain ⟨v,ev⟩:=aSk (s:=d[i]) (by omega)
  have ev:eG (d[i].1,d[i].2.1,d[i].2.2)=some v:=ev
  have ec:=aFh (x:=d[i]) (by omega)
  have ec:fP (d[i].1,d[i].2.1,d[i].2.2)=some d[i]:=ec
  simp only [zX (show (i:Int)<(d.length:Int) by omega),zZ,aH,bWu hi,aA,ev,ec,aD (b:=40) (n:=l.length) (m:=1) (by decide) (by omega),bN (show i<=1000000000 by omega)]
  cases v==r with
  | true=>exact ⟨_,rfl,rfl,⟨by simp;omega,fun x hx=>(bW5.1 hx).elim (g2 x) fun hx=>by rw [bW3.1 hx];exact h5⟩,fun x hx=>(bW5.1 hx).elim (g3 x) fun hx=>by rw [bW3.1 hx];exact bXa hi⟩
  | false=>exact ⟨_,rfl,rfl,⟨by show l.length<=i+1;omega,g2⟩,g3⟩
 ·rintro ⟨_,l⟩ rfl ⟨⟨g1,g2⟩,g3⟩
  exact ⟨l,by simp only [zW (bXh _),zY],⟨by simp only at g1;omega,g2⟩,g3⟩

theorem aVy {d cc:lSg} (hk:DbD 13 d cc) {r:Int} {l:lSg} (h:dI (d,cc) r=some l): ∀ x∈l,aGc x.2.2:=by
 obtain ⟨l',e,_,hm⟩:=bHr (n:=13) (by decide) hk r
 have :some l=some l':=h.symm.trans e
 injection this with this
 rw [this]
 exact fun x hx=>(hk.ha x (hm x hx)).2

theorem bUs {as:lAS} {ls:lLk} (ht:yF as ls) {d cc:lSg} (hk:DbD 13 d cc) {a b:Int} (ha:0<=a) (hb:0<=b): ∃ l,mV (as,ls) (d,cc) a b=some l∧bZ a b 10000 l:=by
 have hlen:=ht.len
 unfold mV ixb pj2 pj3
 rw [aD4 (t:=(as,ls)) (show as.length<=_ by omega),aD4 (t:=(as,ls)) (show as.length<=_ by omega),aA,aA]
 obtain ⟨b1,e1,k1⟩: ∃ v:Bool,(cond (a==b) (some true) (cond (!(cX (as,ls) a)) (some true) (some (!(cX (as,ls) b)))))=some v∧(v=false→cX (as,ls) a=true∧cX (as,ls) b=true):=by
  cases a==b
  ·cases cX (as,ls) a
   ·exact ⟨true,rfl,fun h=>by cases h⟩
   ·cases cX (as,ls) b
    ·exact ⟨true,rfl,fun h=>by cases h⟩
    ·exact ⟨false,rfl,fun _=>⟨rfl,rfl⟩⟩
  ·exact ⟨true,rfl,fun h=>by cases h⟩
 rw [e1,aA]
 cases b1 with
 | true=>exact ⟨[],rfl,by simp,fun x hx=>(bXi hx).elim⟩
 | false=>
  obtain ⟨ka,kb⟩:=k1 rfl
  obtain ⟨xa,_,ia⟩:=aEu ka
  obtain ⟨xb,_,ib⟩:=aEu kb
  have ia:idx as a=some xa:=ia
  have ib:idx as b=some xb:=ib
  obtain ⟨y4,e4,g4⟩:=bSi (n:=13) (by decide) hk ha hb
  obtain ⟨y5,e5,⟨g5,f5⟩,w5⟩:=aO5 (n:=13) (by decide) hk ha
  obtain ⟨y6,e6,⟨g6,f6⟩,w6⟩:=aO5 (n:=13) (by decide) hk hb
  have i5:=aVy hk e5
  have i6:=aVy hk e6
  simp only [zY,e4,e5,e6,aA,aV,bK,bA,aZ,bD,ia,ib]
  refine cC (G:=fun o=> ∃ l,o=some l∧bZ a b 10000 l) y5.length (fun s:Int×lPt=>s.1) (fun i s=>bZ a b (52+13 * i) s.2) (fun l:lPt=>bZ a b 221 l) ?_ ?_ 0 ((0:Int),y4) (by omega) rfl g4 ?_
  ·rintro i ⟨_,l⟩ hi rfl hp
   simp only at hp
   right
   simp only [zX (show (i:Int)<(y5.length:Int) by omega),zZ]
   refine cC (G:=fun (o:Option (q23⊕lPt))=> ∃ s':Int×lPt,o=some (bWt s')∧s'.1=((i+1:Nat):Int)∧bZ a b (52+13 * (i+1)) s'.2) y6.length (fun s:Int×lPt=>s.1) (fun j s=>bZ a b (52+13 * i+j) s.2) (fun l:lPt=>bZ a b (52+13 * (i+1)) l) ?_ ?_ 0 ((0:Int),l) (by omega) rfl hp ?_
   ·rintro j ⟨_,l⟩ hj rfl hq
    simp only at hq
    have hl:=hq.1
    obtain ⟨p,ep,kp⟩:=bU8 (f5 y5[i] (bXa hi)) (f6 y6[j] (bXa hj)) (w5 y5[i] (bXa hi)) (w6 y6[j] (bXa hj))
    have ep:iM (y5[i].1,y5[i].2.1,y5[i].2.2) (y6[j].1,y6[j].2.1,y6[j].2.2)=some p:=ep
    right
    simp only [zX (show (j:Int)<(y6.length:Int) by omega),zX (show (0:Int)<=(i:Int) by omega),zX (show (0:Int)<=(j:Int) by omega),zZ,bW4,bWu hi,bWu hj,aA,ep,aD (b:=24) (n:=l.length) (m:=1) (by decide) (by omega),bN (show j<=1000000000 by omega)]
    cases hdp:decide ((bW9 (α:=den tPp) p:Int)>0) with
    | true=>
     have kp:aPj a b p:=kp.elim (fun h=>by rw [h] at hdp;cases hdp) id
     exact ⟨_,rfl,rfl,hq.add (bZ.one kp)⟩
    | false=>exact ⟨_,rfl,rfl,hq.mono (by omega)⟩
   ·rintro ⟨_,l⟩ rfl hq
    simp only at hq
    exact ⟨l,by simp only [zW (bXh _),zY],hq.mono (by omega)⟩
   ·rintro l hl
    exact ⟨_,rfl,bN (by omega),hl⟩
  ·rintro ⟨_,l⟩ rfl hp
   simp only at hp
   exact ⟨l,by simp only [zW (bXh _),zY],hp.mono (by omega)⟩
  rintro l39 h39
  refine cC (G:=fun o=> ∃ l,o=some l∧bZ a b 10000 l) y6.length (fun s:Int×lPt=>s.1) (fun i s=>bZ a b (221+26 * i) s.2) (fun l:lPt=>bZ a b 559 l) ?_ ?_ 0 ((0:Int),l39) (by omega) rfl h39 ?_
  ·rintro i ⟨_,l⟩ hi rfl hp
   simp only at hp
   have hl:=hp.1
   simp only [zX (show (i:Int)<(y6.length:Int) by omega),zX (show (0:Int)<=(i:Int) by omega),zZ,bW4,bWu hi,aA]
   cases xa.2.1 with
   | false=>exact .inl ⟨l,by simp only [zY],hp.mono (by omega)⟩
   | true=>
    obtain ⟨v,ev,v0⟩:=aOc (s:=y6[i]) (w6 y6[i] (bXa hi)) (i6 y6[i] (bXa hi))
    have ev:cI (y6[i].1,y6[i].2.1,y6[i].2.2)=some v:=ev
    obtain ⟨q,eq,kq⟩:=aOf (n:=13) (by decide) hk (up:=(0,0,[])) (down:=y6[i]) (by simp) (f6 y6[i] (bXa hi)) ha v0 (.inl ⟨rfl,rfl⟩) (aIs (w6 y6[i] (bXa hi)))
    have hq:=kq.1
    have eq:iI (d,cc) (0,0,[]) a v (y6[i].1,y6[i].2.1,y6[i].2.2)=some q:=eq
    exact .inr ⟨(((i+1:Nat):Int),l++q),by simp only [zZ,ev,eq,aA,aD (b:=24) (n:=l.length) (m:=q.length) (by decide) (by omega),bN (show i<=1000000000 by omega)],rfl,(hp.add kq).mono (by omega)⟩
  ·rintro ⟨_,l⟩ rfl hp
   simp only at hp
   exact ⟨l,by simp only [zW (bXh _),zY,aA],hp.mono (by omega)⟩
  rintro l54 h54
  refine cC (G:=fun o=> ∃ l,o=some l∧bZ a b 10000 l) y5.length (fun s:Int×lPt=>s.1) (fun i s=>bZ a b (559+26 * i) s.2) (fun l:lPt=>bZ a b 897 l) ?_ ?_ 0 ((0:Int),l54) (by omega) rfl h54 ?_
  ·rintro i ⟨_,l⟩ hi rfl hp
   simp only at hp
   have hl:=hp.1
   simp only [zX (show (i:Int)<(y5.length:Int) by omega),zX (show (0:Int)<=(i:Int) by omega),zZ,bW4,bWu hi,aA]
   cases xb.2.1 with
   | false=>exact .inl ⟨l,by simp only [zY],hp.mono (by omega)⟩
   | true=>
    obtain ⟨v,ev,v0⟩:=aOc (s:=y5[i]) (w5 y5[i] (bXa hi)) (i5 y5[i] (bXa hi))
    have ev:cI (y5[i].1,y5[i].2.1,y5[i].2.2)=some v:=ev
    obtain ⟨q,eq,kq⟩:=aOf (n:=13) (by decide) hk (up:=y5[i]) (down:=(0,0,[])) (f5 y5[i] (bXa hi)) (by simp) v0 hb (aIs (w5 y5[i] (bXa hi))) (.inl ⟨rfl,rfl⟩)
    have hq:=kq.1
    have eq:iI (d,cc) (y5[i].1,y5[i].2.1,y5[i].2.2) v b (0,0,[])=some q:=eq
    exact .inr ⟨(((i+1:Nat):Int),l++q),by simp only [zZ,ev,eq,aA,aD (b:=24) (n:=l.length) (m:=q.length) (by decide) (by omega),bN (show i<=1000000000 by omega)],rfl,(hp.add kq).mono (by omega)⟩
  ·rintro ⟨_,l⟩ rfl hp
   simp only at hp
   exact ⟨l,by simp only [zW (bXh _),zY,aA],hp.mono (by omega)⟩
  rintro l69 h69
  refine cC (G:=fun o=> ∃ l,o=some l∧bZ a b 10000 l) y5.length (fun s:Int×lPt=>s.1) (fun i s=>bZ a b (897+338 * i) s.2) (fun l:lPt=>bZ a b 10000 l) ?_ ?_ 0 ((0:Int),l69) (by omega) rfl h69 (fun l hl=>⟨l,rfl,hl⟩)
  ·rintro i ⟨_,l⟩ hi rfl hp
   simp only at hp
   right
   simp only [zX (show (i:Int)<(y5.length:Int) by omega),zZ]
   refine cC (G:=fun (o:Option (q23⊕lPt))=> ∃ s':Int×lPt,o=some (bWt s')∧s'.1=((i+1:Nat):Int)∧bZ a b (897+338 * (i+1)) s'.2) y6.length (fun s:Int×lPt=>s.1) (fun j s=>bZ a b (897+338 * i+26 * j) s.2) (fun l:lPt=>bZ a b (897+338 * (i+1)) l) ?_ ?_ 0 ((0:Int),l) (by omega) rfl hp ?_
   ·rintro j ⟨_,l⟩ hj rfl hq
    simp only at hq
    have hl:=hq.1
    obtain ⟨v,ev,v0⟩:=aOc (s:=y5[i]) (w5 y5[i] (bXa hi)) (i5 y5[i] (bXa hi))
    have ev:cI (y5[i].1,y5[i].2.1,y5[i].2.2)=some v:=ev
    obtain ⟨u,eu,u0⟩:=aOc (s:=y6[j]) (w6 y6[j] (bXa hj)) (i6 y6[j] (bXa hj))
    have eu:cI (y6[j].1,y6[j].2.1,y6[j].2.2)=some u:=eu
    obtain ⟨q,eq,kq⟩:=aOf (n:=13) (by decide) hk (up:=y5[i]) (down:=y6[j]) (f5 y5[i] (bXa hi)) (f6 y6[j] (bXa hj)) v0 u0 (aIs (w5 y5[i] (bXa hi))) (aIs (w6 y6[j] (bXa hj)))
    have hq':=kq.1
    have eq:iI (d,cc) (y5[i].1,y5[i].2.1,y5[i].2.2) v u (y6[j].1,y6[j].2.1,y6[j].2.2)=some q:=eq
    exact .inr ⟨(((j+1:Nat):Int),l++q),by simp only [zX (show (j:Int)<(y6.length:Int) by omega),zX (show (i:Int)<(y5.length:Int) by omega),zX (show (0:Int)<=(i:Int) by omega),zX (show (0:Int)<=(j:Int) by omega),zZ,bW4,bWu hi,bWu hj,aA,ev,eu,eq,aD (b:=24) (n:=l.length) (m:=q.length) (by decide) (by omega),bN (show j<=1000000000 by omega)],rfl,(hq.add kq).mono (by omega)⟩
   ·rintro ⟨_,l⟩ rfl hq
    simp only at hq
    exact ⟨l,by simp only [zW (bXh _),zY],hq.mono (by omega)⟩
   ·rintro l hl
    exact ⟨_,rfl,bN (by omega),hl⟩
  ·rintro ⟨_,l⟩ rfl hp
   simp only at hp
   exact ⟨l,by simp only [zW (bXh _),zY],hp.mono (by omega)⟩

theorem bUu {as:lAS} {ls:lLk} (ht:yF as ls) {d cc:lSg} (hk:DbD 13 d cc) {a b:Int} (ha:0<=a) (hb:0<=b) (now:Int): ∃ l,kE (as,ls) (d,cc) a b now=some l∧bZ a b 24 l:=by
 obtain ⟨y,ey,hy⟩:=bUs ht hk ha hb
 have hy1:=hy.1
 unfold kE ixb pj2
 rw [ey,aA]
 refine cC (G:=fun o=> ∃ l,o=some l∧bZ a b 24 l) y.length (fun s:Int×lPt=>s.1) (fun i s=>bZ a b 24 s.2) (fun l:lPt=>bZ a b 24 l) ?_ ?_ 0 ((0:Int),[]) (by omega) rfl ⟨by simp,fun x hx=>(bXi hx).elim⟩ (fun l hl=>⟨l,rfl,hl⟩)
 ·rintro i ⟨_,l⟩ hi rfl hp
  simp only at hp
  have hl:=hp.1
  have hyi:=hy.2 y[i] (bXa hi)
  simp only [zX (show (i:Int)<(y.length:Int) by omega),zZ,aA]
  by_cases hc:(l.length:Int)<24
  ·right
   obtain ⟨b1,f1⟩:=bBs ht hyi.1 now
   obtain ⟨b2,f2⟩:=bIo (n:=24) (by decide) hp.d y[i]
   simp only [zX hc,zZ,zX (show (0:Int)<=(i:Int) by omega),zX (show (i:Int)<(y.length:Int) by omega),bW4,bWu hi,aA,f1,f2,aD (b:=24) (n:=l.length) (m:=1) (by decide) (by omega),bN (show i<=1000000000 by omega)]
   cases b1 with
   | false=>exact ⟨_,rfl,rfl,hp⟩
   | true=>
    cases b2 with
    | true=>exact ⟨_,rfl,rfl,hp⟩
    | false=>exact ⟨_,rfl,rfl,by simp;omega,fun q hq=>(bW5.1 hq).elim (hp.2 q) fun hq=>by rw [bW3.1 hq];exact hyi⟩
  ·left
   exact ⟨l,by simp only [zW hc,zY],hp⟩
 ·rintro ⟨_,l⟩ rfl hp
  exact ⟨l,by simp only [zW (bXh _),zY,aA],hp⟩

theorem aIl {code:List Int} (hl:code.length<=1048576) {c:List Int} {p h:Int} (hc:Cur code (c,p,h)): ∃ v c' p' h',mO (c,p,h)=some (v,c',p',h')∧Cur code (c',p',h'):=by
 obtain ⟨v1,c1,p1,h1,e1,k1⟩:=tA hl (n:=10) (by decide) (by decide) hc
 unfold mO pj3 pj4
 simp only [e1,aA]
 cases v1 with
 | true=>
  obtain ⟨v2,c2,p2,h2,e2,_,k2⟩:=aE5 hl (l:=[(-1:Int),(2147483647:Int),(2147483648:Int)]) (by decide) (by decide) k1
  exact ⟨v2,c2,p2,h2,by simp only [zZ,e2,aA],k2⟩
 | false=>
  obtain ⟨v2,c2,p2,h2,e2,k2⟩:=tA hl (n:=4) (by decide) (by decide) k1
  simp only [zY,e2,aA]
  cases v2 with
  | true=>
   obtain ⟨v3,c3,p3,h3,e3,_,k3⟩:=aE5 hl (l:=[(0:Int),(1:Int),(2147483646:Int)]) (by decide) (by decide) k2
   exact ⟨v3,c3,p3,h3,by simp only [zZ,e3,aA],k3⟩
  | false=>
   obtain ⟨v3,c3,p3,h3,e3,_,k3⟩:=aG6 hl (n:=1000000) (by decide) k2
   obtain ⟨v4,c4,p4,h4,e4,_,k4⟩:=aG6 hl (n:=2000) (by decide) k3
   exact ⟨wr (v3 * v4),c4,p4,h4,by simp only [zY,e3,e4,aA],k4⟩

theorem bLm {as:lAS} {ls:lLk} {s:den tSg} (h5:s.2.2.length<=5) (hi:InN (as.length:Int) s.2.2): ∃ hs,uP (as,ls) s=some (s.1,s.2.1,hs)∧hs.length<=5∧InN (as.length:Int) hs:=by
 unfold uP ixb pj3 pj5 zz4
 rw [show ((s.1,s.2.1,s.2.2):den tSg)=s from rfl,aFh (by omega),aA]
 refine cC (G:=fun o=> ∃ hs,o=some (s.1,s.2.1,hs)∧hs.length<=5∧InN (as.length:Int) hs) s.2.2.length (fun z:Int×cZ=>z.1) (fun i z=>z.2.length=s.2.2.length∧InN (as.length:Int) z.2) (fun r:cZ=>r.length=s.2.2.length∧InN (as.length:Int) r) ?_ ?_ 0 ((0:Int),s.2.2) (by omega) rfl ⟨rfl,hi⟩ ?_
 ·rintro i ⟨_,l⟩ hlt rfl ⟨g1,g2⟩
  simp only at g1 g2
  right
  have hil:i<l.length:=by omega
  have hx:l[i]? =some l[i]:=bWu hil
  obtain ⟨q0,q1⟩:=g2 l[i] (bXa hil)
  obtain ⟨m,hm⟩:=bXq q0
  have hml:m<as.length:=by omega
  obtain ⟨bt,et⟩:=aA6 (s:=(s.1,s.2.1,l)) (i:Int) (by show l.length<=_;omega)
  have ex:idx as l[i].1=some as[m]:=by rw [hm,aH];exact bWu hml
  simp only [zX (show (i:Int)<(l.length:Int) by omega),zX (show (0:Int)<=(i:Int) by omega),zZ,bW4,hx,aA,ex,et,aXk,zX hil]
  refine ⟨_,rfl,bN (show i<=1000000000 by omega),by simp [g1],fun y hy=> ?_⟩
  rcases bZm hy with hy | rfl
  ·exact g2 y hy
  ·exact ⟨q0,q1⟩
 ·rintro ⟨_,l⟩ rfl ⟨g1,g2⟩
  simp only at g1 g2
  exact ⟨l,by simp only [g1,zW (bXh _),zY],g1,g2⟩
 ·rintro l ⟨g1,g2⟩
  exact ⟨l,rfl,by omega,g2⟩

theorem bAp {p:den tPt} (h:nA p): ∃ l,oQ p=some l∧l.length<=18:=by
 have ht:=aI7 h
 have hs:=aBt p
 unfold oQ ixb pj3
 rw [aE7 (by omega),aA]
 refine cC (G:=fun o=> ∃ l,o=some l∧l.length<=18) (gT p).length (fun z:Int×dK=>z.1) (fun i z=>z.2.length<=i) (fun r:dK=>r.length<=18) ?_ ?_ 0 ((0:Int),[]) (by omega) rfl (by simp) (fun l hl=>⟨l,rfl,hl⟩)
 ·rintro i ⟨_,l⟩ hlt rfl g1
  simp only at g1
  right
  simp only [zX (show (i:Int)<((gT p).length:Int) by omega),zX (show (0:Int)<=(i:Int) by omega),zZ,bW4,bWu hlt,aA,aD (b:=24) (n:=l.length) (m:=1) (by decide) (by omega),bN (show i<=1000000000 by omega)]
  cases ((gT p)[i].2.2 != (0:Int)) with
  | true=>exact ⟨_,rfl,rfl,by simp;omega⟩
  | false=>exact ⟨_,rfl,rfl,by show l.length<=i+1;omega⟩
 ·rintro ⟨_,l⟩ rfl g1
  exact ⟨l,by simp only [zW (bXh _),zY],by simp only at g1;omega⟩

theorem aX9 {l:lRs} {cap now:Int} (hl:tF l cap now) {p:den tPt} (hp:nA p) (id r till:Int): ∃ b m,dB l id p r till cap now=some (b,m)∧tF m cap now:=by
 obtain ⟨d,ed,hd⟩:=bAp hp
 have hn:=hl.len
 unfold dB ixb
 rw [aD (b:=40) (n:=([]:lRs).length) (m:=l.length) (by decide) (by simp;omega),zZ,ed,aA]
 refine cC (G:=fun o=> ∃ b m,o=some (b,m)∧tF m cap now) d.length (fun z:Int×lRs=>z.1) (fun i z=>tF z.2 cap now) (fun r:lRs⊕(Bool×lRs)=>match r with | .inl m=>tF m cap now | .inr m=>tF m.2 cap now) ?_ ?_ 0 ((0:Int),[]++l) (by omega) rfl hl ?_
 ·rintro i ⟨_,m⟩ hlt rfl g1
  simp only at g1
  have hm:=g1.len
  obtain ⟨b,eb⟩:=bP0 (l:=m) (x:=(id,d[i].1,d[i].2.2,r,till)) (cap:=cap) (now:=now) (by omega)
  simp only [zX (show (i:Int)<(d.length:Int) by omega),zX (show (0:Int)<=(i:Int) by omega),zZ,bW4,bWu hlt,aA,eb,bN (show i<=1000000000 by omega)]
  cases b with
  | true=>exact .inr ⟨_,rfl,rfl,g1.admR _⟩
  | false=>exact .inl ⟨_,rfl,hl⟩
 ·rintro ⟨_,m⟩ rfl g1
  exact ⟨.inl m,by simp only [zW (bXh _),zY],g1⟩
 ·rintro (m | ⟨b,m⟩) hm
  ·exact ⟨_,m,rfl,hm⟩
  ·exact ⟨b,m,rfl,hm⟩

def aLg (w:den tNw) (f:den tFl):Bool:= !eQ f|| !cX (nT w) f.1|| !cX (nT w) f.2.1||(f.2.2.2.1 != 0)||decide (((aB w).length:Int)>=4)||decide (mL (aU w) f.2.1 f.1>=0)

def bMg (f:den tFl) (l:lPt) (now:Int):den tFl:=(f.1,f.2.1,f.2.2.1,f.2.2.2.1,f.2.2.2.2.1,aMh f l now,0,0,f.2.2.2.2.2.2.2.2)

def bTd (w:den tNw) (f:den tFl) (l:lPt):den tNw:=(nT w,nK w,nG w,aN w,aJ w,aR w,aB w++[bMg f l (aN w)],aU w++[(f.2.1,f.1,0,[])],dW w)

def aXm (w:den tNw) (b:Bool):q22:=
 ((nG w).1,aN w,dW w,b,(nT w).1,(nT w).2,(nK w).1,(nK w).2,(nG w).2.1,(nG w).2.2,aJ w,aR w,aB w,aU w)

theorem bI0 {w:den tNw} {f:den tFl} {l:lPt} (hw:tot tNw w<=1073741824) (hf:tot tFl f<=1073741824) (hl:tot (.sl tPt) l<=1073741824) (el:kE (nT w) (nK w) f.1 f.2.1 (aN w)=some l):
  wS w f=some (aXm (if aLg w f then w else bTd w f l) (!aLg w f)):=by
 have sw:SmB 68719476736 tNw w:=(bG hw).mono (by decide)
 have sf:SmB 68719476736 tFl f:=(bG hf).mono (by decide)
 have n1:w.1.1.length<=68719476736:=sw.1.1.1
 have n2:w.2.2.2.2.2.2.2.1.length<=1073741824:=(bG hw).2.2.2.2.2.2.2.1.1
 have n3:w.2.2.2.2.2.2.1.length<=1073741824:=(bG hw).2.2.2.2.2.2.1.1
 have el:kE w.1 w.2.1 f.1 f.2.1 w.2.2.2.1=some l:=el
 have a1:aG 120 w.2.2.2.2.2.2.1.length 1=true:=aD (by decide) (by omega)
 have a2:aG 48 w.2.2.2.2.2.2.2.1.length 1=true:=aD (by decide) (by omega)
 unfold wS aLg aI pj2 pj4 pj9 eY aW bR bT zz4 zz5 zz6 zz7 zz8 zz9
 simp only [aM,aZk sw,aWu sf,aD4 n1,bAh (show w.2.2.2.2.2.2.2.1.length<=68719476736 by omega),el,bR7 hf hl,bS3,aA,aN7,a1,a2,zZ]
 cases eQ f
 ·rfl
 cases cX w.1 f.1
 ·rfl
 cases cX w.1 f.2.1
 ·rfl
 cases f.2.2.2.1 != 0 with
 | true=>rfl
 | false=>cases decide ((w.2.2.2.2.2.2.1.length:Int)>=4) with
  | true=>rfl
  | false=>cases decide (mL w.2.2.2.2.2.2.2.1 f.2.1 f.1>=0)<;>rfl

theorem bJo {x y:den tPt} {l:lPt} (h:y∈aJi x l):y=x∨y∈l:=by
 unfold aJi at h
 simp only [bW5,bW3] at h
 rcases h with (h | h) | h
 ·exact .inr (bYe h)
 ·exact .inl h
 ·exact .inr (bYi h)

theorem bEw {y:den tPt} {l:lPt} (h:y∈aGu l):y∈l:=by
 have : ∀ (l:lPt) (k:Nat) (a:lPt),y∈cN (fun _ x a=>aJi x a) k l a→y∈l∨y∈a:=by
  intro l
  induction l with
  | nil=>exact fun k a h=> .inr h
  | cons x l ih=>
   intro k a h
   rcases ih (k+1) (aJi x a) h with h | h
   ·exact .inl (bW8 _ h)
   ·rcases bJo h with rfl | h
    ·exact .inl (by simp)
    ·exact .inr h
 rcases this l 0 [] h with h | h
 ·exact h
 ·exact (bXi h).elim

theorem aKr {f:den tFl} {y:den tPt} {l:lPt} {now:Int} (h:y∈aMh f l now):y∈l:=by
 unfold aMh aHt at h
 have h:=bYe h
 simp only [bW5,bXc] at h
 rcases h with h | h<;>exact bEw h.1


structure FlD (t:den tTo) (f:den tFl):Prop where
 val:eQ f=true
 src:cX t f.1=true
 dst:cX t f.2.1=true
 ack:f.2.2.2.1=(0:Int)
 cur:f.2.2.2.2.2.2.1=(0:Int)
 wait:f.2.2.2.2.2.2.2.1=(0:Int)
 rev:f.2.2.2.2.2.2.2.2=[]
 paths:wA 4 f.2.2.2.2.2.1
 msgs:tot (.sl tMs) f.2.2.2.2.1<=12
 bytes: ∀ m∈f.2.2.2.2.1,tG m
 ends: ∀ p∈f.2.2.2.2.2.1,aKw p=some f.1∧aC2 p=some f.2.1


structure yD (n:Nat) (w:den tNw):Prop where
 top:yF (nT w).1 (nT w).2
 db:DbD 11 (nK w).1 (nK w).2
 gate:nG w=(12,(nG w).2.1,[])
 res:tF (nG w).2.1 12 60
 now:aN w=60
 dead:aJ w=[]
 fly:aR w=[]
 drop:dW w=0
 len:(aB w).length<=n
 flows: ∀ f∈aB w,FlD (nT w) f
 box:aU w=(aB w).map fun f=>((f.2.1,f.1,0,[]):den tIb)
 uniq:(aB w).Pairwise fun f g=>sZ g f=false

theorem FlD.tot {t:den tTo} {f:den tFl} (h:FlD t f):tot tFl f<=100:=by
 obtain ⟨a,b,c,d,ms,ps,cu,wa,rv⟩:=f
 rw [aF9]
 have h1:=h.msgs
 have h2:=aS7 h.paths
 have h3:rv=[]:=h.rev
 rw [h3]
 simp only at h1 h2
 simp only [bY6]
 omega

theorem aY0 {s:den tSg} (h:s.2.2.length<=5):tot tSg s<=5:=by
 have e:tot tSg s=s.2.2.length:=by
  show 0+(0+tot (.sl cG) s.2.2)=_
  rw [jU rfl];omega
 omega

theorem yD.tot {n:Nat} {w:den tNw} (hn:n<=4) (h:yD n w):Go.V.tot tNw w<=1000:=by
 rw [fA]
 have h1:=h.top.len
 have h2:=h.top.links
 have h3:=yS (t:=tSg) (B:=5) (l:=(nK w).1) fun x hx=>aY0 (h.db.hd x hx)
 have h4:=yS (t:=tSg) (B:=5) (l:=(nK w).2) fun x hx=>aY0 (h.db.hc x hx)
 have h5:=yS (t:=tFl) (B:=100) (l:=aB w) fun f hf=>(h.flows f hf).tot
 have h6:=h.db.down
 have h7:=h.db.core
 have h8:=h.len
 have h9:=h.res.len
 have h10:(nG w).2.2=[]:=by rw [h.gate]
 have h11:Go.V.tot (.sl tIb) (aU w)<=(0+1) * (aU w).length:=yS (t:=tIb) fun x hx=>by
  rw [h.box] at hx
  obtain ⟨f,_,rfl⟩:=bW0.1 hx
  exact bXb _
 have h12:(aU w).length=(aB w).length:=by rw [h.box,bXz]
 rw [h.dead,h.fly,h10,aCq,aCq,aCq,jU (t:=tAS) rfl,jU (t:=tLk) rfl,jU (t:=tRs) rfl]
 omega

theorem yD.mono {n m:Nat} {w:den tNw} (h:yD n w) (hm:n<=m):yD m w:=⟨h.top,h.db,h.gate,h.res,h.now,h.dead,h.fly,h.drop,bWv h.len hm,h.flows,h.box,h.uniq⟩

def zJ (w:den tNw) (c:List Int) (p h:Int):q32:=
 ((nG w).1,aN w,dW w,(nT w).1,(nT w).2,(nK w).1,(nK w).2,(nG w).2.1,(nG w).2.2,aJ w,aR w,aB w,aU w,c,p,h)

abbrev NwS:=Int×lSg×lSg×Int×Int×Int×lRs×lAS×lLk×lSg×lSg×lUs×lI×lFy×lFl×lIb×lI×Int×Int

abbrev NwR:=Int×Int×Int×lRs×lAS×lLk×lSg×lSg×lUs×lI×lFy×lFl×lIb×lI×Int×Int

def NwI (code:List Int) (n:Nat) (s:NwS):Prop:= ∃ as ls d cc res flows box c p h,s=((n:Int),d,cc,12,60,0,res,as,ls,d,cc,[],[],[],flows,box,c,p,h)∧n<=3∧yD (3 - n) ((as,ls),(d,cc),(12,res,[]),60,[],[],flows,box,0)∧Cur code (c,p,h)

def NwQ (code:List Int) (r:NwR):Prop:= ∃ as ls d cc res flows box c p h,r=(12,60,0,res,as,ls,d,cc,[],[],[],flows,box,c,p,h)∧yD 3 ((as,ls),(d,cc),(12,res,[]),60,[],[],flows,box,0)∧Cur code (c,p,h)

theorem bIx {t:den tTo} {f:den tFl} {l:lPt} {now:Int} {n:Nat} (hn:n<=4) (hv:eQ f=true) (hs:cX t f.1=true) (hd:cX t f.2.1=true) (hk:f.2.2.2.1=(0:Int)) (hr:f.2.2.2.2.2.2.2.2=[]) (hm:tot (.sl tMs) f.2.2.2.2.1<=12) (hb: ∀ m∈f.2.2.2.2.1,tG m) (hl:bZ f.1 f.2.1 24 l):
  FlD t (f.1,f.2.1,f.2.2.1,f.2.2.2.1,f.2.2.2.2.1,(aMh f l now).take n,0,0,f.2.2.2.2.2.2.2.2) where
 val:=by
  rw [nJ] at hv ⊢
  obtain ⟨q1,q2,q3,q4,q5,q6,q7,q8,q9,q10,q11,q12⟩:=hv
  exact ⟨q1,q2,q3,q4,q5,q6,by simp only [bX6];omega,q8,q9,.inl rfl,rfl,q12⟩
 src:=hs
 dst:=hd
 ack:=hk
 cur:=rfl
 wait:=rfl
 rev:=hr
 paths:=⟨by simp only [bX6];omega,fun p hp=>(hl.2 p (aKr (bYe hp))).1⟩
 msgs:=hm
 bytes:=hb
 ends:=fun p hp=>(hl.2 p (aKr (bYe hp))).2

theorem bDe {l:lIb} {a b:Int} (h:decide (mL l a b>=0)=false): ∀ x∈l,wC a b x=false:=by
 have h:=of_decide_eq_false h
 unfold mL at h
 cases e:l.findIdx? (wC a b) with
 | none=>exact fun x hx=>by simpa using List.findIdx?_eq_none_iff.1 e x hx
 | some i=>rw [e] at h;exact absurd (show (0:Int)<=((0+i:Nat):Int) by omega) h

def bIp (code:List Int) (o:Option q32):Prop:= ∃ w c' p' h',o=some (zJ w c' p' h')∧yD 3 w∧Cur code (c',p',h')

theorem bO7 {code:List Int} (hl:code.length<=1048576) {c:List Int} {p h:Int} (hc:Cur code (c,p,h)):bIp code (yW (c,p,h)):=by
 obtain ⟨as,ls,c1,p1,h1,e1,ht,k1⟩:=aY4 hl hc
 obtain ⟨v2,c2,p2,h2,e2,r2,k2⟩:=aY hl (n:=7) (by decide) (by decide) k1
 obtain ⟨m2,rfl⟩:=bXq r2.1
 have w2:wr ((5:Int)+(m2:Int))=((m2+5:Nat):Int):=by rw [bI (by omega) (by omega)];omega
 unfold yW dd ixb one aCg bS9 pj3 pj4 pj5 pj7 pj8 aW bR bT eX nD rR wD zz4 zz5 zz6 zz7 zz8 zz9
 simp only [aV,bK,bA,aZ,bD,e1,e2,aA,w2]
 refine mT (G:=bIp code) (fun (n:Nat) (s:Int×q41)=> ∃ d cc c p h,s=((n:Int),as,ls,d,cc,c,p,h)∧n<=11∧DbD (11 - n) d cc∧Cur code (c,p,h)) (fun r:lAS×lLk×lSg×lSg×lI×Int×Int=> ∃ d cc c p h,r=(as,ls,d,cc,c,p,h)∧DbD 11 d cc∧Cur code (c,p,h)) ?_ (m2+5) (((m2+5:Nat):Int),as,ls,[],[],c2,p2,h2) ⟨[],[],c2,p2,h2,rfl,by omega,⟨by simp,by simp,fun x hx=>(bXi hx).elim,fun x hx=>(bXi hx).elim,fun x hx=>(bXi hx).elim⟩,k2⟩ ?_
 ·rintro n s ⟨d,cc,c3,p3,h3,rfl,hn,hk,k3⟩
  cases n with
  | zero=>exact .inl ⟨_,rfl,d,cc,c3,p3,h3,rfl,hk,k3⟩
  | succ n=>
   right
   obtain ⟨v4,c4,p4,h4,e4,k4⟩:=tA hl (n:=3) (by decide) (by decide) k3
   have wn:wr (((n+1:Nat):Int) - 1)=(n:Int):=by rw [bI (by omega) (by omega)];omega
   have step: ∀ kind:Int,∃ d' cc' c' p' h',(Option.bind (jE (c4,p4,h4) (as,ls) kind) fun y58=>Option.bind (uP (as,ls) (y58.1,y58.2.1,y58.2.2.1)) fun y59=>Option.bind (oB (as,ls) (d,cc) y59) fun y60=>some (y60.1,y60.2,y58.2.2.2.1,y58.2.2.2.2.1,y58.2.2.2.2.2))=some (d',cc',c',p',h')∧DbD (11 - n) d' cc'∧Cur code (c',p',h'):=by
    intro kind
    obtain ⟨a5,b5,hs5,c5,p5,h5,e5,⟨l5,i5⟩,k5⟩:=aZw hl ht kind k4
    obtain ⟨hs6,e6,l6,i6⟩:=bLm (as:=as) (ls:=ls) (s:=(a5,b5,hs5)) l5 i5
    obtain ⟨d7,cc7,e7,q7⟩:=bIu ht (n:=11 - (n+1)) (by omega) hk (s:=(a5,b5,hs6)) l6 (i6.as (by have :=ht.len;omega))
    refine ⟨d7,cc7,c5,p5,h5,?_,q7.mono (by omega),k5⟩
    simp only [e5,e6,e7,aA]
   simp only [zX (show ((n+1:Nat):Int)>0 by omega),zZ,e4,aA]
   cases v4 with
   | true=>
    obtain ⟨d',cc',c',p',h',e,q,k⟩:=step 1
    refine ⟨n,_,by omega,?_,d',cc',c',p',h',rfl,by omega,q,k⟩
    simp only [zZ,aA,e,wn]
   | false=>
    obtain ⟨d',cc',c',p',h',e,q,k⟩:=step 2
    refine ⟨n,_,by omega,?_,d',cc',c',p',h',rfl,by omega,q,k⟩
    simp only [zY,aA,e,wn]
 rintro r ⟨d,cc,c3,p3,h3,rfl,hk,k3⟩
 obtain ⟨v4,c4,p4,h4,e4,r4,k4⟩:=aY hl (n:=3) (by decide) (by decide) k3
 obtain ⟨m4,rfl⟩:=bXq r4.1
 have w4:wr ((1:Int)+(m4:Int))=((m4+1:Nat):Int):=by rw [bI (by omega) (by omega)];omega
 have hA:=ht.len
 have hL:=ht.links
 have smT:SmB 68719476736 tTo (as,ls):=⟨⟨by show as.length<=_;omega,fun _ _=>⟨trivial,trivial,trivial⟩⟩,by show ls.length<=_;omega,fun _ _=>⟨trivial,trivial,trivial,trivial,trivial⟩⟩
 have smK:SmB 68719476736 tDb (d,cc):=⟨aMj (by omega) hk.down hk.hd,aMj (by omega) hk.core hk.hc⟩
 have hok:aT9 (as,ls) 60=true:=by unfold aT9;rw [ht.top];rfl
 have e5:=bSh (t:=(as,ls)) (k:=(d,cc)) (c:=12) (now:=60) smT smK
 rw [hok,zZ] at e5
 simp only [e5,e4,w4,aA]
 have cap12:cond (inR 12 1 20) (12:Int) 1=12:=rfl
 simp only [cap12]
 refine mT (G:=bIp code) (NwI code) (NwQ code) ?_ (m4+1) (((m4+1:Nat):Int),d,cc,12,60,0,[],as,ls,d,cc,[],[],[],[],[],c4,p4,h4) ⟨as,ls,d,cc,[],[],[],c4,p4,h4,rfl,by omega,⟨ht,hk,rfl,⟨by simp,fun x hx=>(bXi hx).elim,fun x hx=>(bXi hx).elim,List.Pairwise.nil⟩,rfl,rfl,rfl,rfl,bXf _,fun x hx=>(bXi hx).elim,rfl,List.Pairwise.nil⟩,k4⟩ ?_
 rotate_left
 ·rintro r ⟨as,ls,d,cc,res,flows,box,c5,p5,h5,rfl,hd,k5⟩
  exact ⟨_,c5,p5,h5,rfl,hd,k5⟩
 ·rintro n s ⟨as,ls,d,cc,res,flows,box,c5,p5,h5,rfl,hn,hd,k5⟩
  cases n with
  | zero=>exact .inl ⟨_,rfl,as,ls,d,cc,res,flows,box,c5,p5,h5,rfl,hd,k5⟩
  | succ n=>
   right
   obtain ⟨a6,b6,c6,p6,h6,e6,⟨ra6,rb6⟩,k6⟩:=bQb hl (by decide) hd.db k5
   obtain ⟨v7,c7,p7,h7,e7,m7,k7⟩:=aE5 hl (l:=[(0:Int),(0:Int),((n+1:Nat):Int)]) (by simp) (by simp) k6
   obtain ⟨v8,c8,p8,h8,e8,r8,k8⟩:=aY hl (n:=3) (by decide) (by decide) k7
   obtain ⟨m8,rfl⟩:=bXq r8.1
   have w8:wr ((1:Int)+(m8:Int))=((m8+1:Nat):Int):=by rw [bI (by omega) (by omega)];omega
   have wn:wr (((n+1:Nat):Int) - 1)=(n:Int):=by rw [bI (by omega) (by omega)];omega
   have enf: ∀ a b c:Int,yP a b c=some (a,b,c,0,0,0,[],[],[]):=fun _ _ _=>rfl
   simp only [zX (show ((n+1:Nat):Int)>0 by omega),zZ,e6,e7,enf,e8,w8,wn,aA,Option.bind_assoc]
   refine mT (G:=fun o=> ∃ m s',m<n+1∧o=some (bWt s')∧NwI code m s') (fun (n:Nat) (s:Int×Int×Int×Int×Int×Int×Int×lMs×lPt×lRv×List Int×q24)=> ∃ ms c p h,s=((n:Int),a6,b6,v7,0,0,0,ms,[],[],c,p,h)∧n<=3∧tot (.sl tMs) ms+4 * n<=12∧(∀ m∈ms,tG m)∧Cur code (c,p,h)) (fun s:Int×Int×Int×Int×Int×Int×lMs×lPt×lRv×List Int×Int×Int=> ∃ ms c p h,s=(a6,b6,v7,0,0,0,ms,[],[],c,p,h)∧tot (.sl tMs) ms<=12∧(∀ m∈ms,tG m)∧Cur code (c,p,h)) ?_ (m8+1) (((m8+1:Nat):Int),a6,b6,v7,(0:Int),(0:Int),(0:Int),[],[],[],c8,p8,h8) ⟨[],c8,p8,h8,rfl,by omega,by rw [aCq];omega,fun m hm=>(bXi hm).elim,k8⟩ ?_
   ·rintro i s ⟨ms,c9,p9,h9,rfl,hi,hm,hb,k9⟩
    cases i with
    | zero=>exact .inl ⟨_,rfl,ms,c9,p9,h9,rfl,by omega,hb,k9⟩
    | succ i=>
     right
     obtain ⟨v10,c10,p10,h10,e10,r10,k10⟩:=aY hl (n:=3) (by decide) (by decide) k9
     obtain ⟨m10,rfl⟩:=bXq r10.1
     obtain ⟨l11,c11,p11,h11,e11,⟨r11,b11⟩,k11⟩:=aK9 hl (n:=m10) (by omega) k10
     have hf:tot tFl (a6,b6,v7,0,ms,[],0,0,[])<=1000:=by rw [aF9];show _+0+0<=_;omega
     have en:=bL6 (f:=(a6,b6,v7,0,ms,[],0,0,[])) (b:=l11) ((bG (B:=1000) hf).mono (by decide)) ⟨by omega,fun e he=>trivial⟩
     have wi:wr (((i+1:Nat):Int) - 1)=(i:Int):=by rw [bI (by omega) (by omega)];omega
     simp only [zX (show ((i+1:Nat):Int)>0 by omega),zZ,e10,e11,en,aA,wi]
     unfold aNm
     split
     ·refine ⟨i,_,by omega,rfl,ms++[l11],c11,p11,h11,rfl,by omega,?_,?_,k11⟩
      ·rw [sQ,aZ9];omega
      ·intro m hm
       rcases bW5.1 hm with hm | hm
       ·exact hb m hm
       ·rw [bW3.1 hm];exact b11
     ·exact ⟨i,_,by omega,rfl,ms,c11,p11,h11,rfl,by omega,by omega,hb,k11⟩
   rintro r ⟨ms,c9,p9,h9,rfl,hm,hb,k9⟩
   obtain ⟨l10,e10,hl10⟩:=bUu hd.top (hd.db.mono (by decide)) ra6.1 rb6.1 60
   have tf:tot tFl (a6,b6,v7,0,ms,[],0,0,[])<=1073741824:=by rw [aF9];show _+0+0<=_;omega
   have ea:=bI0 (w:=((as,ls),(d,cc),(12,res,[]),60,[],[],flows,box,0)) (f:=(a6,b6,v7,0,ms,[],0,0,[])) (l:=l10) (bWv (hd.tot (by omega)) (by decide)) tf (bWv (aS7 hl10.d) (by decide)) e10
   cases hbad:aLg ((as,ls),(d,cc),(12,res,[]),60,[],[],flows,box,0) (a6,b6,v7,0,ms,[],0,0,[]) with
   | true=>
    rw [hbad] at ea
    simp only [zV,bWx] at ea
    simp only [ea,aA,aXm,zY]
    exact ⟨n,_,by omega,rfl,as,ls,d,cc,res,flows,box,c9,p9,h9,rfl,by omega,hd.mono (by omega),k9⟩
   | false=>
    rw [hbad] at ea
    simp only [bW2,zU,bW7] at ea
    simp only [ea,aA,aXm,bTd,zZ]
    unfold aLg at hbad
    simp only [Bool.or_eq_false_iff,Bool.not_eq_false'] at hbad
    obtain ⟨⟨⟨⟨⟨b1,b2⟩,b3⟩,b4⟩,b5⟩,b6'⟩:=hbad
    have hnone:=bDe b6'
    have hfl:(flows.length:Int)<4:=by have h5: ¬ ((flows.length:Int)>=4):=of_decide_eq_false b5;omega
    have hfl':flows.length<=3 - (n+1):=hd.len
    generalize hg:bMg (a6,b6,v7,0,ms,[],0,0,[]) l10 60=g
    have hL:((flows++[g]).length:Int)=((flows.length+1:Nat):Int):=by simp
    have wl:wr (((flows.length+1:Nat):Int) - 1)=(flows.length:Int):=by rw [bI (by omega) (by omega)];omega
    have hx:(flows++[g])[flows.length]? =some g:=by simp
    have hset: ∀ y,(flows++[g]).set flows.length y=flows++[y]:=fun y=>by simp
    have hlt:flows.length<(flows++[g]).length:=by simp
    obtain ⟨m,em,hm1,hm4⟩: ∃ m:Nat,(if (4:Int)<(g.2.2.2.2.2.1.length:Int) then (4:Int) else (g.2.2.2.2.2.1.length:Int))=(m:Int)∧m<=g.2.2.2.2.2.1.length∧m<=4:=by
     by_cases h4:(4:Int)<(g.2.2.2.2.2.1.length:Int)
     ·exact ⟨4,by rw [zT h4];rfl,by omega,by omega⟩
     ·exact ⟨g.2.2.2.2.2.1.length,by rw [zS h4],bXb _,by omega⟩
    have hmem: ∀ y∈g.2.2.2.2.2.1,nA y:=fun y hy=>by
     rw [← hg] at hy
     exact (hl10.2 y (aKr hy)).1
    simp only [hL,wl,zX (show (0:Int)<=(flows.length:Int) by omega),zX (show (flows.length:Int)<((flows.length+1:Nat):Int) by omega),zZ,bW4,hx,aA,aTt,em,aHu hm1,gN,zX hlt,hset]
    have fin: ∀ res' c p h,tF res' 12 60→Cur code (c,p,h)→NwI code n ((n:Int),d,cc,12,60,0,res',as,ls,d,cc,[],[],[],flows++[(g.1,g.2.1,g.2.2.1,g.2.2.2.1,g.2.2.2.2.1,List.take m g.2.2.2.2.2.1,g.2.2.2.2.2.2.1,g.2.2.2.2.2.2.2.1,g.2.2.2.2.2.2.2.2)],box++[(b6,a6,0,[])],c,p,h):=by
     intro res' c p h hr hc
     have hF:FlD (as,ls) (g.1,g.2.1,g.2.2.1,g.2.2.2.1,g.2.2.2.2.1,List.take m g.2.2.2.2.2.1,g.2.2.2.2.2.2.1,g.2.2.2.2.2.2.2.1,g.2.2.2.2.2.2.2.2):=by
      rw [← hg]
      exact bIx (f:=(a6,b6,v7,0,ms,[],0,0,[])) hm4 b1 b2 b3 rfl rfl hm hb hl10
     have ge1:g.1=a6:=by rw [← hg];rfl
     have ge2:g.2.1=b6:=by rw [← hg];rfl
     refine ⟨as,ls,d,cc,res',_,_,c,p,h,rfl,by omega,⟨hd.top,hd.db,rfl,hr,rfl,rfl,rfl,rfl,?_,?_,?_,?_⟩,hc⟩
     ·show (flows++[_]).length<=_
      simp;omega
     ·intro f hf
      rcases bW5.1 hf with hf | hf
      ·exact hd.flows f hf
      ·rw [bW3.1 hf];exact hF
     ·show box++[_]=(flows++[_]).map _
      rw [bZl,← show box=flows.map (fun f=>((f.2.1,f.1,0,[]):den tIb)) from hd.box]
      simp only [bXg,List.map_nil,ge1,ge2]
     ·show (flows++[_]).Pairwise _
      rw [bZ8]
      refine ⟨hd.uniq,List.pairwise_singleton _ _,fun x hx y hy=> ?_⟩
      rw [bW3.1 hy]
      have hbx:((x.2.1,x.1,0,[]):den tIb)∈box:=by
       rw [show box=flows.map (fun f=>((f.2.1,f.1,0,[]):den tIb)) from hd.box]
       exact bW0.2 ⟨x,hx,rfl⟩
      have :=hnone _ hbx
      unfold wC at this
      unfold sZ
      rw [Bool.and_comm]
      simp only [ge1,ge2]
      exact this
    by_cases hm0:m=0
    ·subst hm0
     simp only [show decide (((0:Nat):Int)>0)=false from rfl,zY,aA]
     exact ⟨n,_,by omega,rfl,fin res c9 p9 h9 hd.res k9⟩
    ·simp only [zX (show (m:Int)>0 by omega),zZ,aA]
     cases decide (g.2.2.1>(0:Int)) with
     | false=>
      simp only [zY,aA]
      exact ⟨n,_,by omega,rfl,fin res c9 p9 h9 hd.res k9⟩
     | true=>
      have hp:idx (List.take m g.2.2.2.2.2.1) (0:Int)=some (g.2.2.2.2.2.1[0]'(by omega)):=by
       rw [show (0:Int)=((0:Nat):Int) from rfl,aH,bX8,zT (by omega)]
       exact bWu _
      obtain ⟨v11,c11,p11,h11,e11,r11,k11⟩:=aY hl (n:=2) (by decide) (by decide) k9
      obtain ⟨b12,m12,e12,q12⟩:=aX9 hd.res (hmem _ (bXa (show 0<g.2.2.2.2.2.1.length by omega))) g.2.2.1 (wr ((1:Int)+v11)) 4000
      simp only [zZ,hp,e11,e12,aA,aV,bK,bA,aZ,bD]
      exact ⟨n,_,by omega,rfl,fin m12 c11 p11 h11 q12 k11⟩

def aFd (w:den tNw) (l:List Int):den tNw:=(nT w,nK w,nG w,aN w,l,aR w,aB w,aU w,dW w)

def tP (w:den tNw) (i:Nat):den tNw:=aB0 w ((aR w).take i++(aR w).drop (i+1))

theorem bGb {w:den tNw} {i:Nat} {x:den tFy} (hx:(aR w)[i]? =some x) (hl:(aR w).length<=1073741824):uC w (i:Int)=some (bOc x (tP w i)):=by
 have hlt:i<(aR w).length:=(bW1.1 hx).1
 have hx:w.2.2.2.2.2.1[((i:Nat):Int).toNat]? =some x:=by rw [bW4];exact hx
 have h1:decide ((i:Int)<(w.2.2.2.2.2.1.length:Int))=true:=zX (by have :i<w.2.2.2.2.2.1.length:=hlt;omega)
 have e1:wr ((i:Int)+1)=((i+1:Nat):Int):=(wri (by omega) (by omega)).trans (by omega)
 have h2:bY ((i+1:Nat):Int) (w.2.2.2.2.2.1.length:Int) (w.2.2.2.2.2.1.length:Int)=true:=yQ (show i+1<=w.2.2.2.2.2.1.length from hlt)
 have h3:bY (0:Int) (i:Int) (w.2.2.2.2.2.1.length:Int)=true:=aHu (k:=i) (Nat.le_of_lt hlt)
 have hl:w.2.2.2.2.2.1.length<=1073741824:=hl
 unfold uC ixb aI aW bR zz4 zz5 zz6 zz7 zz8 zz9
 simp only [h1,hx,aA,zZ,e1,h2,h3,gN,aCw,List.nil_append,aD (b:=128) (n:=([]:lFy).length) (m:=(w.2.2.2.2.2.1.take i).length) (by decide) (by simp;omega),aD (b:=128) (n:=(w.2.2.2.2.2.1.take i).length) (m:=(w.2.2.2.2.2.1.drop (i+1)).length) (by decide) (by simp;omega),zX (show (0:Int)<=(i:Int) by omega)]
 rfl


def rA (m:Nat) (dead:List Int) (i:Int) (b:Bool):List Int:=((List.range m).map fun k:Nat=>((k:Nat):Int)).filter fun k:Int=>(nQ dead k&&(k != i))||(b&&(k==i))

def aC1 (w:den tNw) (i:Int) (b:Bool):Bool:=(nQ (aJ w) i==b)|| !inR i 0 (((nT w).2.length:Int) - 1)

def tM (w:den tNw) (i:Int) (b:Bool):den tNw:=if aC1 w i b then w else aFd w (rA (nT w).2.length (aJ w) i b)

theorem bG9 {w:den tNw} {i:Int} {b:Bool} (h1:(nT w).2.length<=1073741824) (h2:(aJ w).length<=68719476736):wV w i b=some (!aC1 w i b,cA (tM w i b)):=by
 have w1:wr ((w.1.2.length:Int) - 1)=(w.1.2.length:Int) - 1:=jO (bWv h1 (by decide))
 have e1:=fun n=>aGa (l:=w.2.2.2.2.1) (n:=n) h2
 unfold wV tM aC1 zz4 zz5 zz6 zz7 zz8
 simp only [e1,aA,w1,iH]
 cases hb:(nQ w.2.2.2.2.1 i==b) with
 | true=>rfl
 | false=>
  simp only [zY,aA,Bool.false_or]
  cases inR i 0 ((w.1.2.length:Int) - 1) with
  | false=>rfl
  | true=>
   simp only [bWx,zY,bW2,zU,bW7]
   refine cC (G:=fun o=>o=some (true,cA (aFd w (rA (nT w).2.length (aJ w) i b)))) w.1.2.length (fun s:Int×List Int=>s.1) (fun k s=>s.2.length<=k∧s.2=rA k (aJ w) i b) (fun r:List Int=>r=rA w.1.2.length (aJ w) i b) ?_ ?_ 0 ((0:Int),[]) (bXf _) rfl ⟨by simp,rfl⟩ ?_
   ·rintro k ⟨_,l⟩ hk rfl ⟨g1,g2⟩
    simp only at g1 g2
    right
    have hk':k<=1073741824:=bWv (Nat.le_of_lt hk) h1
    simp only [zX (show (k:Int)<(w.1.2.length:Int) by omega),zZ,aA,aD (b:=8) (n:=l.length) (m:=1) (by decide) (by omega),show wr ((k:Int)+1)=((k+1:Nat):Int) from (wri (by omega) (by omega)).trans (by omega)]
    have hl:rA (k+1) (aJ w) i b=rA k (aJ w) i b++(if (nQ (aJ w) (k:Int)&&((k:Int) != i))||(b&&((k:Int)==i)) then [(k:Int)] else []):=by
     unfold rA
     rw [List.range_succ,bZl,List.filter_append]
     congr 1
     simp only [bXg,List.map_nil,bZw,List.filter_nil]
    have hd:aJ w=w.2.2.2.2.1:=rfl
    rw [hl,← g2,hd]
    cases nQ w.2.2.2.2.1 (k:Int)<;>cases hki:((k:Int)==i)<;>cases b<;>simp only [bne,hki,zZ,zY,aA,bWx,bW7,Bool.and_true,Bool.and_false,Bool.true_and,Bool.false_and,bYt,Bool.or_false,Bool.true_or,Bool.false_or,bW2,zV,zU,bX1]<;>first
     | exact ⟨_,rfl,rfl,by simp;omega,rfl⟩
     | exact ⟨_,rfl,rfl,by simp only;omega,rfl⟩
   ·rintro ⟨_,l⟩ rfl ⟨g1,g2⟩
    exact ⟨l,by simp only [zW (bXh _),zY],g2⟩
   ·rintro r rfl
    rfl

def aA8 (f:den tFl) (b:List Int):den tFl:=if eQ (enq f b) then enq f b else f


def doW (w:den tNw) (e:den fZ):Bool×den tNw:=
 if e.1==1 then (!decide (aN w>=1000000),pP w)
 else if e.1==2 then (match inR e.2.1 0 (((aR w).length:Int) - 1),(aR w)[e.2.1.toNat]? with
  | true,some x=>(true,fC (tP w e.2.1.toNat) x.1 x.2.1 x.2.2)
  | _,_=>(false,w))
 else if e.1==3 then (if inR e.2.1 0 (((aR w).length:Int) - 1) then (true,zO (tP w e.2.1.toNat)) else (false,w))
 else if e.1==4 then (match inR e.2.1 0 (((aR w).length:Int) - 1)&& !decide (((aR w).length:Int)>=150),(aR w)[e.2.1.toNat]? with
  | true,some x=>(true,aB0 w (aR w++[x]))
  | _,_=>(false,w))
 else if e.1==5||e.1==6 then (!aC1 w e.2.1 (e.1==5),tM w e.2.1 (e.1==5))
 else if e.1==7 then (if cX (nT w) e.2.2.2.1&& !decide (((aR w).length:Int)>=150) then (true,aB0 w (aR w++[e.2.2.2])) else (false,w))
 else if e.1==8 then (match inR e.2.1 0 (((aB w).length:Int) - 1),(aB w)[e.2.1.toNat]? with
  | true,some f=>(eQ (enq f e.2.2.1),cT w ((aB w).set e.2.1.toNat (aA8 f e.2.2.1)))
  | _,_=>(false,w))
 else (false,w)

theorem aGo {α:Type} {l:List α} {n:Int} (hl:l.length<=1073741824) (h:inR n 0 ((l.length:Int) - 1)=true): ∃ (i:Nat) (x:α),n=(i:Int)∧l[i]? =some x∧decide (n<(l.length:Int))=true∧decide ((0:Int)<=n)=true:=by
 obtain ⟨h0,h1⟩:=bJ.1 h
 obtain ⟨i,rfl⟩:=bXq h0
 have hi:i<l.length:=by omega
 exact ⟨i,l[i],rfl,bWu hi,zX (by omega),zX h0⟩

theorem aXy {B F:Nat} {w:den tNw} {r inn:Int} {p:den tPk} (hk:kX B F w) (hp:fY p):kX (B+(160+F)) F (fC w r inn p):=by
 obtain ⟨h1,h2⟩:=aJp hk.bytes hp (r:=r) (inn:=inn)
 have h3:=aOv w r inn p
 have :=hk.flows
 have :=hk.tot
 exact ⟨by omega,by rw [h2];exact hk.flows,h1⟩

theorem aYe {B F:Nat} {w:den tNw} {l:lFy} (hk:kX B F w) (hl:tot (.sl tFy) l<=tot (.sl tFy) (aR w)) (hb: ∀ x∈l,fY x.2.2):kX B F (aB0 w l):=by
 have h1:=aPw w l
 have :=hk.tot
 exact ⟨by omega,hk.flows,⟨hb,hk.bytes.msg⟩⟩

theorem aEr {B F:Nat} {w:den tNw} (hk:kX B F w) (i:Nat):kX B F (tP w i):=by
 refine aYe hk ?_ fun x hx=>hk.bytes.fly x ?_
 ·have h1:=sQ (t:=tFy) ((aR w).take i) ((aR w).drop i)
  rw [bYj] at h1
  rw [sQ,h1]
  have :tot (.sl tFy) ((aR w).drop (i+1))<=tot (.sl tFy) ((aR w).drop i):=by
   cases h:(aR w).drop i with
   | nil=>
    have :(aR w).drop (i+1)=[]:=by rw [← List.drop_drop,h];rfl
    rw [this];exact bXb _
   | cons x l=>
    have :(aR w).drop (i+1)=l:=by rw [← List.drop_drop,h];rfl
    rw [this,kW];omega
  omega
 ·rcases bW5.1 hx with hx | hx
  ·exact bYe hx
  ·exact bYi hx

theorem bWb {B F:Nat} {w:den tNw} {e:den fZ} (hF:F<=1000) (hk:kX B F w) (hB:B+(F+1) * (160+F)<=536870912) (h9:(e.1==(9:Int))=false) (hd:SmB 4294967296 (.sl tb) e.2.2.1) (hp:tot tPk e.2.2.2.2.2<=34359738368):aBd w e=some ((doW w e).1,cA (doW w e).2):=by
 obtain ⟨kd,n,data,to,ing,pk⟩:=e
 simp only at h9 hd hp
 have hB0:B<=536870912:=by have :=bXf ((F+1) * (160+F));omega
 have hB1:B+F * (160+F)<=536870912:=by rw [bXu] at hB;omega
 have nl:=fA w
 have l1:w.2.2.2.2.2.1.length<=1073741824:=aZb hk (by omega)
 have l2:w.2.2.2.2.2.2.1.length<=1073741824:=bWv hk.flows (by omega)
 obtain ⟨n1,n2,n3⟩:=aE3 hk (by omega)
 have w1:wr ((w.2.2.2.2.2.1.length:Int) - 1)=(w.2.2.2.2.2.1.length:Int) - 1:=jO (by omega)
 have w2:wr ((w.2.2.2.2.2.2.1.length:Int) - 1)=(w.2.2.2.2.2.2.1.length:Int) - 1:=jO (by omega)
 have a1:aG 128 w.2.2.2.2.2.1.length 1=true:=aD (by decide) (by omega)
 unfold aBd doW ixb aI jF aRd pj2 eY aW bR bT eX nD rR wD aAj aCl aB9 aHn aKq aLu aKy aRg zz4 zz5 zz6 zz7 zz8 zz9
 simp only [w1,iH,aA]
 cases c1:(kd==(1:Int)) with
 | true=>
  show Option.bind (uA w) _=_
  rw [bOy hF hk hB1]
  rfl
 | false=>
 cases c2:(kd==(2:Int)) with
 | true=>
  simp only [zY,zZ,bW2,zU,zV]
  cases hin:inR n 0 ((w.2.2.2.2.2.1.length:Int) - 1) with
  | false=>rfl
  | true=>
   obtain ⟨i,x,rfl,hx,_,_⟩:=aGo l1 hin
   have hx:(aR w)[i]? =some x:=hx
   have e1:=bGb (w:=w) hx l1
   have kg:=aEr hk i
   obtain ⟨m1,m2,m3⟩:=aE3 kg (by omega)
   have hxm:=bW6 hx
   have htx:tot tPk x.2.2<=536870912:=by
    have h1:=wF (t:=tFy) hxm
    have h2:tot tFy x=tot tPk x.2.2:=by simp [rM,tT]
    have :=hk.tot
    omega
   have e2:=bAe (w:=tP w i) (r:=x.1) (inn:=x.2.1) m1 m2 m3 htx (hk.bytes.fly x hxm)
   have e3:Option.bind (Option.bind (dZ (tP w i) x.1 x.2.1 x.2.2) fun y4=>some y4) (fun s5=>some (true,s5))=some (true,cA (fC (tP w i) x.1 x.2.1 x.2.2)):=by rw [e2];rfl
   rw [zZ,e1,aA]
   have hx':w.2.2.2.2.2.1[((i:Nat):Int).toNat]? =some x:=by rw [bW4];exact hx
   rw [hx']
   exact e3
 | false=>
 cases c3:(kd==(3:Int)) with
 | true=>
  simp only [zY,zZ,bW2,zU,zV]
  cases hin:inR n 0 ((w.2.2.2.2.2.1.length:Int) - 1) with
  | false=>rfl
  | true=>
   obtain ⟨i,x,rfl,hx,_,_⟩:=aGo l1 hin
   have hx:(aR w)[i]? =some x:=hx
   have e1:=bGb (w:=w) hx l1
   rw [zZ,e1,aA]
   rfl
 | false=>
 cases c4:(kd==(4:Int)) with
 | true=>
  simp only [zY,zZ,bW2,zU,zV]
  cases hin:inR n 0 ((w.2.2.2.2.2.1.length:Int) - 1) with
  | false=>rfl
  | true=>
   obtain ⟨i,x,rfl,hx,hlt,hz⟩:=aGo l1 hin
   have hx:(aR w)[i]? =some x:=hx
   have hxm:=bW6 hx
   have htx:tot tPk x.2.2<=34359738368:=by
    have h1:=wF (t:=tFy) hxm
    have h2:tot tFy x=tot tPk x.2.2:=by simp [rM,tT]
    have :=hk.tot
    omega
   have hx':w.2.2.2.2.2.1[((i:Nat):Int).toNat]? =some x:=by rw [bW4];exact hx
   have e1:=aDd (fW htx)
   cases decide ((w.2.2.2.2.2.1.length:Int)>=150) with
   | true=>rfl
   | false=>
    simp only [bWx,bW7,zY,zZ,aA,hlt,hz,hx',a1,Bool.and_self]
    rw [show ((x.2.2.1,x.2.2.2.1,x.2.2.2.2.1,x.2.2.2.2.2.1,x.2.2.2.2.2.2.1,x.2.2.2.2.2.2.2.1,x.2.2.2.2.2.2.2.2.1,x.2.2.2.2.2.2.2.2.2.1,x.2.2.2.2.2.2.2.2.2.2.1,x.2.2.2.2.2.2.2.2.2.2.2):den tPk)=x.2.2 from rfl,e1,aA]
    rfl
 | false=>
 cases c5:(kd==(5:Int)) with
 | true=>
  simp only [zY,zZ,bW2,zU,zV,aA,Bool.true_or]
  rw [show ((w.1,w.2.1,w.2.2.1,w.2.2.2.1,w.2.2.2.2.1,w.2.2.2.2.2.1,w.2.2.2.2.2.2.1,w.2.2.2.2.2.2.2.1,w.2.2.2.2.2.2.2.2):den tNw)=w from rfl,bG9 n1.links n1.dead]
  rfl
 | false=>
 cases c6:(kd==(6:Int)) with
 | true=>
  simp only [zY,zZ,bW2,zU,zV,aA,bYt]
  rw [show ((w.1,w.2.1,w.2.2.1,w.2.2.2.1,w.2.2.2.2.1,w.2.2.2.2.2.1,w.2.2.2.2.2.2.1,w.2.2.2.2.2.2.2.1,w.2.2.2.2.2.2.2.2):den tNw)=w from rfl,bG9 n1.links n1.dead]
  rfl
 | false=>
 cases c7:(kd==(7:Int)) with
 | true=>
  simp only [zY,zZ,bW2,zU,zV,aA,bYm,aM,aD4 n1.as]
  have e1:=aDd (fW hp)
  cases cX w.1 to with
  | false=>rfl
  | true=>
   cases decide ((w.2.2.2.2.2.1.length:Int)>=150) with
   | true=>rfl
   | false=>
    simp only [bWx,bW7,zY,zZ,aA,a1,e1]
    rfl
 | false=>
 cases c8:(kd==(8:Int)) with
 | true=>
  simp only [zY,zZ,bW2,zU,zV,aA,bYm,aM]
  unfold yO ixb pj2 pj9 zz4 zz5 zz6 zz7 zz8 zz9
  simp only [w2,iH,aA,c8,zZ]
  cases hin:inR n 0 ((w.2.2.2.2.2.2.1.length:Int) - 1) with
  | false=>rfl
  | true=>
   obtain ⟨i,x,rfl,hx,hlt,hz⟩:=aGo l2 hin
   have hx:(aB w)[i]? =some x:=hx
   have hxm:=bW6 hx
   have hx':w.2.2.2.2.2.2.1[((i:Nat):Int).toNat]? =some x:=by rw [bW4];exact hx
   have hfx:tot tFl x<=536870912:=by
    have h1:=wF (t:=tFl) hxm
    have :=hk.tot
    omega
   have e1:=bL6 (f:=x) (b:=data) ((bG hfx).mono (by decide)) hd
   have hlt2:decide (((i:Nat):Int).toNat<w.2.2.2.2.2.2.1.length)=true:=zX (by rw [bW4];exact (bW1.1 hx).1)
   simp only [bWx,zY,zZ,hlt,hz,hx',hlt2,aA]
   rw [show ((x.1,x.2.1,x.2.2.1,x.2.2.2.1,x.2.2.2.2.1,x.2.2.2.2.2.1,x.2.2.2.2.2.2.1,x.2.2.2.2.2.2.2.1,x.2.2.2.2.2.2.2.2):den tFl)=x from rfl,e1,aA]
   unfold aNm aA8
   cases eQ (enq x data)<;>rfl
 | false=>
  simp only [h9,zY,zZ,bW2,zU,zV,aA,bYm]
  rfl


def aEs (p:den tPt):Prop:=bW9 (α:=den tPp) p<=4∧ ∀ x:den tPp,x∈(show lPp from p)→x.2.2.2.length<=5

theorem nA.e {p:den tPt} (h:nA p):aEs p:=⟨bWv h.1 (by decide),h.2⟩

theorem bF4 {p:den tPt} (h:aEs p):tot tPt p<=24:=by
 have h1:=yS (t:=tPp) (B:=5) (l:=p) fun x hx=>aWy (h.2 x hx)
 have h2:=h.1
 show tot (.sl tPp) p<=24
 omega

theorem aEs.set {p:lPp} (h:nA p) {i:Nat} {x:den tPp} (hx:x.2.2.2.length<=5):aEs (p.set i x):=by
 refine ⟨by have :=h.1;show (p.set i x).length<=4;rw [bYl];omega,fun y hy=> ?_⟩
 rcases bZm (show y∈p.set i x from hy) with hy | rfl
 ·exact h.2 y hy
 ·exact hx

theorem bFx {code:List Int} (hl:code.length<=1048576) {c:List Int} {p h:Int} (hc:Cur code (c,p,h)): ∃ (q:lPp) (c':List Int) (p' h':Int),zE (c,p,h)=some (q,c',p',h')∧aEs q∧Cur code (c',p',h'):=by
 obtain ⟨as,ls,q,c1,p1,h1,e1,hq,_,k1⟩:=aWq hl hc
 unfold zE ixb pj3 pj4
 simp only [e1,aA,aV,bK,bA,aZ,bD]
 by_cases h0:q.length=0
 ·rw [show ((q.length:Int)==0)=true by rw [beq_iff_eq];omega,zZ]
  exact ⟨q,c1,p1,h1,rfl,hq.e,k1⟩
 have hq3:q.length<=3:=hq.1
 rw [show ((q.length:Int)==0)=false by rw [beq_eq_false_iff_ne];omega,zY]
 obtain ⟨v2,c2,p2,h2,e2,r2,k2⟩:=aY hl (n:=(q.length:Int)) (by omega) (by omega) k1
 obtain ⟨m,rfl⟩:=bXq r2.1
 have hm:m<q.length:=by omega
 have hx:q[m]? =some q[m]:=bWu hm
 have hx5:q[m].2.2.2.length<=5:=hq.2 _ (bXa hm)
 obtain ⟨v3,c3,p3,h3,e3,r3,k3⟩:=aY hl (n:=12) (by decide) (by decide) k2
 simp only [e2,e3,aA,zX (show (0:Int)<=(m:Int) by omega),zX (show (m:Int)<(q.length:Int) by omega),zZ,bW4,hx]
 cases v3==(0:Int) with
 | true=>
  obtain ⟨v4,c4,p4,h4,e4,_,k4⟩:=aY hl (n:=6) (by decide) (by decide) k3
  exact ⟨_,c4,p4,h4,by simp only [zZ,e4,aA];rfl,aEs.set hq (by exact hx5),k4⟩
 | false=>
 cases v3==(1:Int) with
 | true=>
  obtain ⟨v4,c4,p4,h4,e4,k4⟩:=aIl hl k3
  exact ⟨_,c4,p4,h4,by simp only [zZ,zY,e4,aA];rfl,aEs.set hq (by exact hx5),k4⟩
 | false=>
 cases v3==(2:Int) with
 | true=>
  have sx:SmB 68719476736 tPp q[m]:=⟨trivial,trivial,trivial,by omega,fun _ _=>⟨trivial,trivial,trivial,trivial,trivial⟩⟩
  refine ⟨q++[q[m]],c3,p3,h3,?_,⟨by show (q++[q[m]]).length<=4;simp;omega,fun y hy=> ?_⟩,k3⟩
  ·simp only [zZ,zY,aNn (p:=q[m]) (by omega),aM,aA,aD (b:=48) (n:=q.length) (m:=1) (by decide) (by omega)]
  ·rcases bW5.1 (show y∈q++[q[m]] from hy) with hy | hy
   ·exact hq.2 y hy
   ·rw [bW3.1 hy];exact hx5
 | false=>
 cases v3==(3:Int) with
 | true=>
  have s1:bY (1:Int) (q.length:Int) (q.length:Int)=true:=yQ (k:=1) (by omega)
  have s2:cut q (1:Int) (q.length:Int)=q.drop 1:=aCw (k:=1)
  refine ⟨q.drop 1,c3,p3,h3,by simp only [zZ,zY,s1,s2,aA],⟨by show (q.drop 1).length<=4;simp;omega,fun y hy=>hq.2 y (bYi (show y∈q.drop 1 from hy))⟩,k3⟩
 | false=>
 cases v3==(4:Int) with
 | false=>exact ⟨q,c3,p3,h3,by simp only [zY,aA],hq.e,k3⟩
 | true=>
  simp only [zZ,zY]
  by_cases hp:(q[m].2.2.2.length:Int)>0
  ·obtain ⟨v4,c4,p4,h4,e4,r4,k4⟩:=aY hl (n:=(q[m].2.2.2.length:Int)) hp (by omega) k3
   obtain ⟨i,rfl⟩:=bXq r4.1
   have hi:i<q[m].2.2.2.length:=by omega
   obtain ⟨v5,c5,p5,h5,e5,k5⟩:=aIl hl k4
   refine ⟨_,c5,p5,h5,?_,aEs.set hq (i:=m) (x:=(q[m].1,q[m].2.1,q[m].2.2.1,q[m].2.2.2.set i (q[m].2.2.2[i].1,q[m].2.2.2[i].2.1,q[m].2.2.2[i].2.2.1,q[m].2.2.2[i].2.2.2.1,v5))) (by show (q[m].2.2.2.set i _).length<=5;rw [bYl];exact hx5),k5⟩
   simp only [zX hp,zZ,e4,e5,aA,zX (show (0:Int)<=(i:Int) by omega),zX (show (i:Int)<(q[m].2.2.2.length:Int) by omega),bW4,bWu hi,aV,bK,bA,aZ,bD]
  ·exact ⟨q,c3,p3,h3,by simp only [zW hp,zY,aA],hq.e,k3⟩


structure bK9 (p:den tPk):Prop where
 path:aEs p.2.2.2.1
 len:p.2.2.2.2.2.2.2.2.2.length<=1000
 bytes:fY p

theorem aY5 (p:den tPk):tot tPk p=tot tPt p.2.2.2.1+p.2.2.2.2.2.2.2.2.2.length:=by
 have e:tot tPk p=tot tPt p.2.2.2.1+tot (.sl tb) p.2.2.2.2.2.2.2.2.2:=by simp [rM,tT]
 rw [e,jU (t:=tb) rfl]

theorem bKw {p:den tPk} (h:bK9 p):tot tPk p<=1100:=by
 have h1:=bF4 h.path
 have h2:=h.len
 rw [aY5]
 omega

theorem bFg {code:List Int} (hl:code.length<=1048576) {c:List Int} {p h:Int} (hc:Cur code (c,p,h)): ∃ (as:lAS) (ls:lLk) (k:den tPk) (c':List Int) (p' h':Int),zH (c,p,h)=some (as,ls,k.1,k.2.1,k.2.2.1,k.2.2.2.1,k.2.2.2.2.1,k.2.2.2.2.2.1,k.2.2.2.2.2.2.1,k.2.2.2.2.2.2.2.1,k.2.2.2.2.2.2.2.2.1,k.2.2.2.2.2.2.2.2.2,c',p',h')∧bK9 k∧yF as ls∧Cur code (c',p',h'):=by
 obtain ⟨as,ls,k,c1,p1,h1,e1,hk,kt,k1⟩:=bQw hl hc
 obtain ⟨v2,c2,p2,h2,e2,r2,k2⟩:=aY hl (n:=14) (by decide) (by decide) k1
 have hkp:bK9 k:=⟨hk.path.e,hk.len,hk.bytes⟩
 unfold zH pj3 pj4 aW bR bT zz4 zz5 zz6 zz7 zz8 zz9
 simp only [e1,e2,aA,aV,bK,bA,aZ,bD]
 cases v2==(0:Int) with
 | true=>
  obtain ⟨v3,c3,p3,h3,e3,_,k3⟩:=aY hl (n:=4) (by decide) (by decide) k2
  exact ⟨as,ls,(k.1,k.2.1,k.2.2.1,k.2.2.2.1,wr (v3 - 1),k.2.2.2.2.2.1,k.2.2.2.2.2.2.1,k.2.2.2.2.2.2.2.1,k.2.2.2.2.2.2.2.2.1,k.2.2.2.2.2.2.2.2.2),c3,p3,h3,by simp only [zZ,e3,aA],⟨hkp.path,hkp.len,hkp.bytes⟩,kt,k3⟩
 | false=>
 cases v2==(1:Int) with
 | true=>
  obtain ⟨v3,c3,p3,h3,e3,_,k3⟩:=aY hl (n:=4) (by decide) (by decide) k2
  exact ⟨as,ls,(k.1,k.2.1,k.2.2.1,k.2.2.2.1,k.2.2.2.2.1,wr (v3 - 1),k.2.2.2.2.2.2.1,k.2.2.2.2.2.2.2.1,k.2.2.2.2.2.2.2.2.1,k.2.2.2.2.2.2.2.2.2),c3,p3,h3,by simp only [zZ,zY,e3,aA],⟨hkp.path,hkp.len,hkp.bytes⟩,kt,k3⟩
 | false=>
 cases v2==(2:Int) with
 | true=>
  obtain ⟨v3,c3,p3,h3,e3,k3⟩:=aIl hl k2
  exact ⟨as,ls,(k.1,k.2.1,k.2.2.1,k.2.2.2.1,k.2.2.2.2.1,k.2.2.2.2.2.1,v3,k.2.2.2.2.2.2.2.1,k.2.2.2.2.2.2.2.2.1,k.2.2.2.2.2.2.2.2.2),c3,p3,h3,by simp only [zZ,zY,e3,aA],⟨hkp.path,hkp.len,hkp.bytes⟩,kt,k3⟩
 | false=>
 cases v2==(3:Int) with
 | true=>
  obtain ⟨v3,c3,p3,h3,e3,_,k3⟩:=aY hl (n:=9) (by decide) (by decide) k2
  exact ⟨as,ls,(k.1,k.2.1,v3,k.2.2.2.1,k.2.2.2.2.1,k.2.2.2.2.2.1,k.2.2.2.2.2.2.1,k.2.2.2.2.2.2.2.1,k.2.2.2.2.2.2.2.2.1,k.2.2.2.2.2.2.2.2.2),c3,p3,h3,by simp only [zZ,zY,e3,aA],⟨hkp.path,hkp.len,hkp.bytes⟩,kt,k3⟩
 | false=>
 cases v2==(4:Int) with
 | true=>
  obtain ⟨v3,c3,p3,h3,e3,_,k3⟩:=aE5 hl (l:=[(-1:Int),(100000:Int),(100001:Int)]) (by decide) (by decide) k2
  exact ⟨as,ls,(k.1,k.2.1,k.2.2.1,k.2.2.2.1,k.2.2.2.2.1,k.2.2.2.2.2.1,k.2.2.2.2.2.2.1,k.2.2.2.2.2.2.2.1,v3,k.2.2.2.2.2.2.2.2.2),c3,p3,h3,by simp only [zZ,zY,e3,aA],⟨hkp.path,hkp.len,hkp.bytes⟩,kt,k3⟩
 | false=>
 cases v2==(5:Int) with
 | true=>
  obtain ⟨q3,c3,p3,h3,e3,hq,k3⟩:=bFx hl k2
  exact ⟨as,ls,(k.1,k.2.1,k.2.2.1,q3,k.2.2.2.2.1,k.2.2.2.2.2.1,k.2.2.2.2.2.2.1,k.2.2.2.2.2.2.2.1,k.2.2.2.2.2.2.2.2.1,k.2.2.2.2.2.2.2.2.2),c3,p3,h3,by simp only [zZ,zY,e3,aA],⟨hq,hkp.len,hkp.bytes⟩,kt,k3⟩
 | false=>
 cases v2==(6:Int) with
 | true=>
  obtain ⟨v3,c3,p3,h3,e3,_,k3⟩:=aY hl (n:=6) (by decide) (by decide) k2
  exact ⟨as,ls,(wr (v3 - 1),k.2.1,k.2.2.1,k.2.2.2.1,k.2.2.2.2.1,k.2.2.2.2.2.1,k.2.2.2.2.2.2.1,k.2.2.2.2.2.2.2.1,k.2.2.2.2.2.2.2.2.1,k.2.2.2.2.2.2.2.2.2),c3,p3,h3,by simp only [zZ,zY,e3,aA],⟨hkp.path,hkp.len,hkp.bytes⟩,kt,k3⟩
 | false=>exact ⟨as,ls,k,c2,p2,h2,by simp only [zY,aA],hkp,kt,k2⟩


structure EvD (w:den tNw) (e:den fZ):Prop where
 lo:(1:Int)<=e.1
 hi:(8:Int)>=e.1
 data:e.2.2.1.length<=3∧tG e.2.2.1
 pk:tot tPk e.2.2.2.2.2<=1100∧fY e.2.2.2.2.2
 harm:harm w e=true


structure bIc (w:den tNw):Prop where
 tot:tot tNw w<=536870912
 as:1<=(nT w).1.length∧(nT w).1.length<=8
 links:(nT w).2.length<=100
 flyN:(aR w).length<=150
 fly: ∀ x∈aR w,Go.V.tot tPk x.2.2<=1100
 bytes: ∀ x∈aR w,fY x.2.2
 flows:(aB w).length<=4

theorem bCz {w:den tNw} {e:den fZ} (h:(e.1==(7:Int))=false):harm w e=true:=by
 unfold harm
 rw [h];rfl

theorem bEi {w:den tNw} {to ing:Int} {pk:den tPk}:harm w ((7:Int),(0:Int),[],(to,ing,((3:Int),pk.2)))=true:=by
 unfold harm tS
 rw [show (((3:Int),pk.2):den tPk).1=3 from rfl,show ((3:Int)==3)=true from rfl,bYt,bYt]
 rfl

def fgR (w:den tNw) (e:den fZ) (c:List Int) (p h:Int):q6:=
 (e.1,e.2.1,e.2.2.2.1,e.2.2.2.2.1,e.2.2.2.2.2.1,e.2.2.2.2.2.2.1,e.2.2.2.2.2.2.2.1,e.2.2.2.2.2.2.2.2.1,e.2.2.2.2.2.2.2.2.2.1,e.2.2.2.2.2.2.2.2.2.2.1,e.2.2.2.2.2.2.2.2.2.2.2.1,e.2.2.2.2.2.2.2.2.2.2.2.2.1,e.2.2.2.2.2.2.2.2.2.2.2.2.2.1,e.2.2.2.2.2.2.2.2.2.2.2.2.2.2,e.2.2.1,c,p,h,aR w,aB w,aU w)

def nxR (w:den tNw) (e:den fZ) (c:List Int) (p h:Int):q6:=
 (e.1,e.2.1,e.2.2.2.1,e.2.2.2.2.1,e.2.2.2.2.2.1,e.2.2.2.2.2.2.1,e.2.2.2.2.2.2.2.1,e.2.2.2.2.2.2.2.2.1,e.2.2.2.2.2.2.2.2.2.1,e.2.2.2.2.2.2.2.2.2.2.1,e.2.2.2.2.2.2.2.2.2.2.2.1,e.2.2.2.2.2.2.2.2.2.2.2.2.1,e.2.2.2.2.2.2.2.2.2.2.2.2.2.1,e.2.2.1,e.2.2.2.2.2.2.2.2.2.2.2.2.2.2,c,p,h,aR w,aB w,aU w)

theorem bG1 {code:List Int} (hl:code.length<=1048576) {w:den tNw} (hw:bIc w) {c:List Int} {p h:Int} (hc:Cur code (c,p,h)): ∃ e c' p' h',nN (c,p,h) w=some (fgR w e c' p' h')∧EvD w e∧Cur code (c',p',h'):=by
 obtain ⟨as,ls,k,c1,p1,h1,e1,hk,_,k1⟩:=bFg hl hc
 have ha:1<=w.1.1.length∧w.1.1.length<=8:=hw.as
 have hfn:=hw.flyN
 obtain ⟨v2,c2,p2,h2,e2,r2,k2⟩:=aY hl (n:=(w.1.1.length:Int)) (by omega) (by omega) k1
 obtain ⟨v3,c3,p3,h3,e3,r3,k3⟩:=aY hl (n:=7) (by decide) (by decide) k2
 have sw:SmB 68719476736 tNw w:=(bG hw.tot).mono (by decide)
 have fin: ∀ (k:den tPk) (c:List Int) (p h:Int),tot tPk k<=1100→fY k→Cur code (c,p,h)→ ∃ e c' p' h',(Option.bind (Option.bind (pL w ((7:Int),(0:Int),[],(v2,v3,(k.1,k.2.1,k.2.2.1,k.2.2.2.1,k.2.2.2.2.1,k.2.2.2.2.2.1,k.2.2.2.2.2.2.1,k.2.2.2.2.2.2.2.1,k.2.2.2.2.2.2.2.2.1,k.2.2.2.2.2.2.2.2.2)))) fun y31=>cond (!y31) (some ((7:Int),(0:Int),v2,v3,(3:Int),k.2.1,k.2.2.1,k.2.2.2.1,k.2.2.2.2.1,k.2.2.2.2.2.1,k.2.2.2.2.2.2.1,k.2.2.2.2.2.2.2.1,k.2.2.2.2.2.2.2.2.1)) (some ((7:Int),(0:Int),v2,v3,k.1,k.2.1,k.2.2.1,k.2.2.2.1,k.2.2.2.2.1,k.2.2.2.2.2.1,k.2.2.2.2.2.2.1,k.2.2.2.2.2.2.2.1,k.2.2.2.2.2.2.2.2.1))) fun s32=>some (s32.1,s32.2.1,s32.2.2.1,s32.2.2.2.1,s32.2.2.2.2.1,s32.2.2.2.2.2.1,s32.2.2.2.2.2.2.1,s32.2.2.2.2.2.2.2.1,s32.2.2.2.2.2.2.2.2.1,s32.2.2.2.2.2.2.2.2.2.1,s32.2.2.2.2.2.2.2.2.2.2.1,s32.2.2.2.2.2.2.2.2.2.2.2.1,s32.2.2.2.2.2.2.2.2.2.2.2.2,k.2.2.2.2.2.2.2.2.2,([]:List Int),c,p,h,w.2.2.2.2.2.1,w.2.2.2.2.2.2.1,w.2.2.2.2.2.2.2.1))=some (fgR w e c' p' h')∧EvD w e∧Cur code (c',p',h'):=by
  intro k c p h ht hb hc
  have se:SmB 68719476736 fZ ((7:Int),(0:Int),[],(v2,v3,k)):=⟨trivial,trivial,⟨by simp,fun x hx=>trivial⟩,trivial,trivial,(bG ht).mono (by decide)⟩
  have e9:pL w ((7:Int),(0:Int),[],(v2,v3,(k.1,k.2.1,k.2.2.1,k.2.2.2.1,k.2.2.2.2.1,k.2.2.2.2.2.1,k.2.2.2.2.2.2.1,k.2.2.2.2.2.2.2.1,k.2.2.2.2.2.2.2.2.1,k.2.2.2.2.2.2.2.2.2)))=some (harm w ((7:Int),(0:Int),[],(v2,v3,k))):=bR5 sw se
  rw [e9,aA]
  cases hb':harm w ((7:Int),(0:Int),[],(v2,v3,k)) with
  | true=>exact ⟨((7:Int),(0:Int),[],(v2,v3,k)),c,p,h,rfl,⟨by show (1:Int)<=7;decide,by show (8:Int)>=7;decide,⟨bXf _,fun x hx=>(bXi hx).elim⟩,⟨ht,hb⟩,hb'⟩,hc⟩
  | false=>exact ⟨((7:Int),(0:Int),[],(v2,v3,((3:Int),k.2))),c,p,h,rfl,⟨by show (1:Int)<=7;decide,by show (8:Int)>=7;decide,⟨bXf _,fun x hx=>(bXi hx).elim⟩,⟨ht,hb⟩,bEi⟩,hc⟩
 unfold nN ixb aI pj3 pj4 eY aW bR bT eX nD rR wD zz4 zz5 zz6 zz7 zz8 zz9
 simp only [e1,e2,e3,aA,aV,bK,bA,aZ,bD]
 have done:=fun c p h hc=>fin k c p h (bKw hk) hk.bytes hc
 by_cases hf:(w.2.2.2.2.2.1.length:Int)>0
 ·obtain ⟨v4,c4,p4,h4,e4,k4⟩:=tA hl (n:=2) (by decide) (by decide) k3
  simp only [zX hf,zZ,e4,aA]
  cases v4 with
  | false=>
   simp only [zY,aA]
   exact done c4 p4 h4 k4
  | true=>
   have hfn:w.2.2.2.2.2.1.length<=150:=hfn
   obtain ⟨v5,c5,p5,h5,e5,r5,k5⟩:=aY hl (n:=(w.2.2.2.2.2.1.length:Int)) hf (by omega) k4
   obtain ⟨i,rfl⟩:=bXq r5.1
   have hi:i<w.2.2.2.2.2.1.length:=by omega
   have hx:w.2.2.2.2.2.1[i]? =some w.2.2.2.2.2.1[i]:=bWu hi
   have hm:w.2.2.2.2.2.1[i]∈aR w:=bXa hi
   have ht:=hw.fly _ hm
   have hb:=hw.bytes _ hm
   generalize w.2.2.2.2.2.1[i]=x at hx hm ht hb
   have e6:=aDd (p:=x.2.2) (fW (bWv ht (by decide)))
   obtain ⟨v7,c7,p7,h7,e7,k7⟩:=tA hl (n:=2) (by decide) (by decide) k5
   simp only [zZ,e5,aA,zX (show (0:Int)<=(i:Int) by omega),zX (show (i:Int)<(w.2.2.2.2.2.1.length:Int) by omega),bW4,hx,aM,e6,e7]
   cases v7 with
   | false=>
    simp only [zY,aA]
    exact fin x.2.2 c7 p7 h7 ht hb k7
   | true=>
    obtain ⟨v8,c8,p8,h8,e8,k8⟩:=aIl hl k7
    simp only [zZ,e8,aA]
    exact fin (x.2.2.1,x.2.2.2.1,x.2.2.2.2.1,x.2.2.2.2.2.1,x.2.2.2.2.2.2.1,x.2.2.2.2.2.2.2.1,v8,x.2.2.2.2.2.2.2.2.2.1,x.2.2.2.2.2.2.2.2.2.2.1,x.2.2.2.2.2.2.2.2.2.2.2) c8 p8 h8 ht hb k8
 ·simp only [zW hf,zY,aA]
  exact done c3 p3 h3 k3

theorem bI4 {code:List Int} (hl:code.length<=1048576) {w:den tNw} (hw:bIc w) {c:List Int} {p h:Int} (hc:Cur code (c,p,h)): ∃ e c' p' h',sP (c,p,h) w=some (nxR w e c' p' h')∧EvD w e∧Cur code (c',p',h'):=by
 have hlk:w.1.2.length<=100:=hw.links
 have hfl:w.2.2.2.2.2.2.1.length<=4:=hw.flows
 have hfn:w.2.2.2.2.2.1.length<=150:=hw.flyN
 have wl:wr ((w.1.2.length:Int)+1)=((w.1.2.length+1:Nat):Int):=bN (by omega)
 have wf:wr ((w.2.2.2.2.2.2.1.length:Int)+1)=((w.2.2.2.2.2.2.1.length+1:Nat):Int):=bN (by omega)
 have pk0D:tot tPk ((0:Int),(0:Int),(0:Int),[],(0:Int),(0:Int),(0:Int),(0:Int),(0:Int),[])<=1100∧fY ((0:Int),(0:Int),(0:Int),[],(0:Int),(0:Int),(0:Int),(0:Int),(0:Int),[]):=⟨by rw [aY5];exact bXf _,fun x hx=>(bXi hx).elim⟩
 have ev: ∀ (kd n:Int) (data:List Int),(1:Int)<=kd→(8:Int)>=kd→(kd==(7:Int))=false→data.length<=3→tG data→EvD w (kd,n,data,((0:Int),(0:Int),((0:Int),(0:Int),(0:Int),[],(0:Int),(0:Int),(0:Int),(0:Int),(0:Int),[]))):=fun kd n data a b d e f=>⟨a,b,⟨e,f⟩,pk0D,bCz d⟩
 have nob:tG []:=fun x hx=>(bXi hx).elim
 obtain ⟨v1,c1,p1,h1,e1,r1,k1⟩:=aY hl (n:=24) (by decide) (by decide) hc
 obtain ⟨v2,c2,p2,h2,e2,r2,k2⟩:=aY hl (n:=((w.1.2.length+1:Nat):Int)) (by omega) (by omega) k1
 unfold sP pj3 pj6 eY aW bR bT eX nD rR zz4 zz5 zz6 zz7 zz8 zz9
 simp only [e1,aA,wl,wf,e2]
 cases v1==(0:Int) with
 | true=>
  exact ⟨((5:Int),v2,[],((0:Int),(0:Int),((0:Int),(0:Int),(0:Int),[],(0:Int),(0:Int),(0:Int),(0:Int),(0:Int),[]))),c2,p2,h2,rfl,ev 5 v2 [] (by decide) (by decide) rfl (bXf _) nob,k2⟩
 | false=>
 simp only [zY]
 obtain ⟨b3,e3⟩: ∃ b,(cond (v1==(1:Int)) (some (v1==(1:Int))) (some (v1==(2:Int))))=some b:=by cases v1==(1:Int)<;>exact ⟨_,rfl⟩
 rw [e3,aA]
 cases b3 with
 | true=>
  exact ⟨((6:Int),v2,[],((0:Int),(0:Int),((0:Int),(0:Int),(0:Int),[],(0:Int),(0:Int),(0:Int),(0:Int),(0:Int),[]))),c2,p2,h2,rfl,ev 6 v2 [] (by decide) (by decide) rfl (bXf _) nob,k2⟩
 | false=>
 simp only [zY]
 cases v1==(3:Int) with
 | true=>
  obtain ⟨e,c4,p4,h4,e4,d4,k4⟩:=bG1 hl hw k1
  refine ⟨e,c4,p4,h4,?_,d4,k4⟩
  rw [zZ]
  show Option.bind (nN (c1,p1,h1) w) _=_
  rw [e4]
  rfl
 | false=>
 simp only [zY]
 cases v1==(4:Int) with
 | true=>
  obtain ⟨v4,c4,p4,h4,e4,r4,k4⟩:=aY hl (n:=((w.2.2.2.2.2.2.1.length+1:Nat):Int)) (by omega) (by omega) k1
  obtain ⟨v5,c5,p5,h5,e5,r5,k5⟩:=aY hl (n:=3) (by decide) (by decide) k4
  obtain ⟨m5,rfl⟩:=bXq r5.1
  obtain ⟨l6,c6,p6,h6,e6,⟨r6,b6⟩,k6⟩:=aK9 hl (n:=m5) (by omega) k5
  exact ⟨((8:Int),v4,l6,((0:Int),(0:Int),((0:Int),(0:Int),(0:Int),[],(0:Int),(0:Int),(0:Int),(0:Int),(0:Int),[]))),c6,p6,h6,by simp only [zZ,e4,e5,e6,aA];rfl,ev 8 v4 l6 (by decide) (by decide) rfl (by omega) b6,k6⟩
 | false=>
 simp only [zY]
 have tick: ∀ c p h,Cur code (c,p,h)→ ∃ e c' p' h',(some ((1:Int),(0:Int),(0:Int),(0:Int),(0:Int),(0:Int),(0:Int),[],(0:Int),(0:Int),(0:Int),(0:Int),(0:Int),[],[],c,p,h,w.2.2.2.2.2.1,w.2.2.2.2.2.2.1,w.2.2.2.2.2.2.2.1):Option q6)=some (nxR w e c' p' h')∧EvD w e∧Cur code (c',p',h'):=fun c p h hc=>
  ⟨((1:Int),(0:Int),[],((0:Int),(0:Int),((0:Int),(0:Int),(0:Int),[],(0:Int),(0:Int),(0:Int),(0:Int),(0:Int),[]))),c,p,h,rfl,ev 1 0 [] (by decide) (by decide) rfl (bXf _) nob,hc⟩
 by_cases hf:(w.2.2.2.2.2.1.length:Int)>0
 ·obtain ⟨v4,c4,p4,h4,e4,k4⟩:=tA hl (n:=4) (by decide) (by decide) k1
  simp only [zX hf,zZ,e4,aA]
  cases v4 with
  | true=>
   simp only [bWx,zY]
   exact tick c4 p4 h4 k4
  | false=>
   simp only [bW7,zZ]
   obtain ⟨m,em,hm1,hm2⟩: ∃ m:Int,(if (3:Int)<(w.2.2.2.2.2.1.length:Int) then (3:Int) else (w.2.2.2.2.2.1.length:Int))=m∧0<m∧m<=256:=by
    split
    ·exact ⟨_,rfl,by decide,by decide⟩
    ·exact ⟨_,rfl,by omega,by omega⟩
   obtain ⟨v5,c5,p5,h5,e5,r5,k5⟩:=aY hl hm1 hm2 k4
   obtain ⟨v6,c6,p6,h6,e6,r6,k6⟩:=aY hl (n:=12) (by decide) (by decide) k5
   simp only [aTt,em,e5,e6,aA]
   cases v6==(0:Int) with
   | true=>exact ⟨((3:Int),v5,[],((0:Int),(0:Int),((0:Int),(0:Int),(0:Int),[],(0:Int),(0:Int),(0:Int),(0:Int),(0:Int),[]))),c6,p6,h6,rfl,ev 3 v5 [] (by decide) (by decide) rfl (bXf _) nob,k6⟩
   | false=>
    cases v6==(1:Int) with
    | true=>exact ⟨((4:Int),v5,[],((0:Int),(0:Int),((0:Int),(0:Int),(0:Int),[],(0:Int),(0:Int),(0:Int),(0:Int),(0:Int),[]))),c6,p6,h6,rfl,ev 4 v5 [] (by decide) (by decide) rfl (bXf _) nob,k6⟩
    | false=>exact ⟨((2:Int),v5,[],((0:Int),(0:Int),((0:Int),(0:Int),(0:Int),[],(0:Int),(0:Int),(0:Int),(0:Int),(0:Int),[]))),c6,p6,h6,rfl,ev 2 v5 [] (by decide) (by decide) rfl (bXf _) nob,k6⟩
 ·simp only [zW hf,zY,aA]
  exact tick c1 p1 h1 k1

theorem aZr {s d now now':Int} (hn:now<=now'): ∀ {l:lRs},(∀ x∈l,(0:Int)<=x.2.2.2.1∧(20:Int)>=x.2.2.2.1)→rs s d now' l<=rs s d now l
 | [],_=>bX3 _
 | x::l,h=>by
  have ih:=aZr (s:=s) (d:=d) hn (l:=l) fun y hy=>h y (bW8 _ hy)
  have hx:=h x (by simp)
  unfold rs
  by_cases c:now'<=x.2.2.2.2
  ·rw [zX c,zX (show now<=x.2.2.2.2 from Int.le_trans hn c)]
   split<;>omega
  ·rw [zW c,Bool.and_false]
   simp only [bW2,zU]
   split<;>omega

theorem tF.later {l:lRs} {cap now now':Int} (h:tF l cap now) (hn:now<=now'):tF l cap now':=
 ⟨h.len,h.val,fun x hx=>Int.le_trans (aZr hn (vF h.val)) (h.rate x hx),h.pw⟩

theorem OkS.tick {g:den tSc} {now now':Int} (h:OkS g now) (hn:now<=now'):OkS (g.1,aD2 g.2.1 now',[]) now':=
 ⟨h.lo,h.hi,(h.res.later hn).filter _,fun j x hx=>by simp at hx⟩


structure cQ (w w':den tNw):Prop where
 top:nT w'=nT w
 now:aN w'=aN w
 gate:OkS (nG w) (aN w)→OkS (nG w') (aN w')
 fly: ∀ x∈aR w',x∈aR w∨tot tPk x.2.2<=1100
 flyN:(aR w).length<=150→(aR w').length<=150

theorem cQ.refl (w:den tNw):cQ w w:=⟨rfl,rfl,id,fun x hx=> .inl hx,id⟩

theorem cQ.trans {a b c:den tNw} (h:cQ a b) (k:cQ b c):cQ a c:=
 ⟨k.top.trans h.top,k.now.trans h.now,fun hg=>k.gate (h.gate hg),fun x hx=>(k.fly x hx).elim (h.fly x) .inr,fun hl=>k.flyN (h.flyN hl)⟩

theorem cQ.drop (w:den tNw):cQ w (zO w):=⟨rfl,rfl,id,fun x hx=> .inl hx,id⟩

theorem cQ.box (w:den tNw) (i:Nat) (x:den tIb):cQ w (pB w i x):=⟨rfl,rfl,id,fun x hx=> .inl hx,id⟩

theorem cQ.flows (w:den tNw) (l:lFl):cQ w (cT w l):=⟨rfl,rfl,id,fun x hx=> .inl hx,id⟩

theorem cQ.tell (w:den tNw) (r:Int) (p:den tPk):cQ w (tQ w r p):=cQ.flows w _

theorem cQ.send {w:den tNw} {r eg:Int} {p:den tPk} (hp:tot tPk p<=1100):cQ w (oX w r eg p):=by
 unfold oX
 split
 ·rename_i hc
  rw [bWw,zR] at hc
  refine ⟨rfl,rfl,fun hg=>hg.trans _ _ _,fun x hx=> ?_,fun hl=> ?_⟩
  ·rcases bW5.1 (show x∈aR w++_ from hx) with hx | hx
   ·exact .inl hx
   ·have :x=_:=bW3.1 hx
    subst this
    exact .inr hp
  ·show (aR w++_).length<=150
   have :=hc.2
   simp
   omega
 ·exact cQ.drop w

theorem aM5 {t:den tTo} {now:Int} {dead:List Int} {r inn:Int} {p:den tPk} (h:((bS t now dead r inn p).1==0)=true):tot tPk (bS t now dead r inn p).2.2.1<=1100:=by
 have hv:gP p=true:=aKt (t:=t) (r:=r) (now:=now) (dead:=rQ t dead r) (inn:=inn) (by
  have h:((fwd t r now (rQ t dead r) inn p).1==0)=true:=h
  rw [eq_of_beq h];rfl)
 unfold bS
 rw [aL3]
 exact bWv (aO8 hv) (by decide)

theorem cQ.proc0 (w:den tNw) (r inn:Int) (p:den tPk):cQ w (proc0 w r inn p):=by
 unfold Go.Proofs.YtecighmpdcffcaaGreat.proc0
 split
 ·rename_i h;exact cQ.send (aM5 h)
 ·split
  ·exact cQ.tell w _ _
  ·exact cQ.drop w

theorem cQ.proc (w:den tNw) (r inn:Int) (p:den tPk):cQ w (fC w r inn p):=by
 unfold fC
 split
 ·rename_i h;exact cQ.send (aM5 h)
 ·split
  ·split
   ·unfold xS
    split
    ·exact cQ.refl w
    ·split
     ·exact (cQ.box w _ _).trans (cQ.proc0 _ _ _ _)
     ·exact cQ.box w _ _
   ·exact cQ.tell w _ _
  ·split
   ·unfold aB8
    split
    ·exact (cQ.proc0 _ _ _ _).trans (cQ.drop _)
    ·exact (cQ.tell _ _ _).trans (cQ.drop _)
   ·exact cQ.drop w

theorem cQ.stepT (k:Nat) (w:den tNw):cQ w (stepT k w):=by
 unfold Go.Proofs.YtecighmpdcffcaaGreat.stepT
 split
 ·split
  ·exact (cQ.flows w _).trans (cQ.proc _ _ _ _)
  ·exact cQ.flows w _
 ·exact cQ.refl w

theorem cQ.tickL: ∀ (n k:Nat) (w:den tNw),cQ w (tickL k n w)
 | 0,_,w=>cQ.refl w
 | n+1,k,w=>(cQ.stepT k w).trans (cQ.tickL n (k+1) _)


structure rJ (t:den tTo) (B k:Nat) (w:den tNw):Prop where
 keep:kX B 4 w
 top:nT w=t
 gate:OkS (nG w) (aN w)
 lo:(0:Int)<=aN w
 hi:aN w<=60+(k:Int)
 fly: ∀ x∈aR w,tot tPk x.2.2<=1100
 flyN:(aR w).length<=150

theorem rJ.mono {t:den tTo} {B C k j:Nat} {w:den tNw} (h:rJ t B k w) (hB:B<=C) (hk:k<=j):rJ t C j w:=⟨h.keep.mono hB,h.top,h.gate,h.lo,by have :=h.hi;omega,h.fly,h.flyN⟩

theorem rJ.step {t:den tTo} {B C k:Nat} {w w':den tNw} (h:rJ t B k w) (s:cQ w w') (hk:kX C 4 w'):rJ t C k w':=
 ⟨hk,s.top.trans h.top,s.gate h.gate,by rw [s.now];exact h.lo,by rw [s.now];exact h.hi,fun x hx=>(s.fly x hx).elim (h.fly x) id,s.flyN h.flyN⟩

theorem bDa {t:den tTo} {B k:Nat} {w:den tNw} (h:rJ t B k w) (hk:k<=1000):rJ t B (k+1) (aEl w):=by
 have hlo:=h.lo
 have hhi:=h.hi
 have e:wr (aN w+1)=aN w+1:=bI (by omega) (by omega)
 refine ⟨aEm h.keep,h.top,?_,?_,?_,h.fly,h.flyN⟩
 ·show OkS ((nG w).1,aD2 (nG w).2.1 (wr (aN w+1)),[]) (wr (aN w+1))
  rw [e]
  exact h.gate.tick (by omega)
 ·show (0:Int)<=wr (aN w+1)
  omega
 ·show wr (aN w+1)<=_
  omega

theorem bEj {t:den tTo} {B k:Nat} {w:den tNw} (h:rJ t B k w) (hk:k<=1000):rJ t (B+656) (k+1) (pP w):=by
 have hkp:=bBq h.keep
 unfold pP at hkp ⊢
 split
 ·exact h.mono (by omega) (by omega)
 ·rename_i hn
  rw [zS hn] at hkp
  exact (bDa h hk).step (cQ.tickL _ _ _) hkp

theorem aYk {w:den tNw} {x:den tFy}:tot tNw (aB0 w (aR w++[x]))=tot tNw w+(1+tot tPk x.2.2):=by
 have h1:=aPw w (aR w++[x])
 rw [sQ,aFb] at h1
 have e:tot tFy x=tot tPk x.2.2:=by simp [rM,tT]
 omega

theorem bHq (m:Nat) (dead:List Int) (i:Int) (b:Bool):(rA m dead i b).length<=m:=by
 unfold rA
 exact bWv (bZp ..) (by simp)

theorem aYa (w:den tNw) (l:List Int):tot tNw (aFd w l)+(aJ w).length=tot tNw w+l.length:=by
 have e:tot tNw (aFd w l)=(tot (.sl tAS) (nT w).1+tot (.sl tLk) (nT w).2)+((tot (.sl tSg) (nK w).1+tot (.sl tSg) (nK w).2)+((0+(tot (.sl tRs) (nG w).2.1+tot (.sl tUs) (nG w).2.2))+(0+(tot (.sl ti) l+(tot (.sl tFy) (aR w)+(tot (.sl tFl) (aB w)+(tot (.sl tIb) (aU w)+0))))))):=rfl
 have r: ∀ l:List Int,tot (.sl ti) l=l.length:=fun l=>jU rfl
 rw [e,fA w,r,r]
 omega


theorem aYv {t:den tTo} {B k:Nat} {w:den tNw} {e:den fZ} (h:rJ t B k w) (hk:k<=1000) (ht:t.2.length<=100) (he:EvD w e):rJ t (B+2000) (k+1) (doW w e).2:=by
 have same:rJ t (B+2000) (k+1) w:=h.mono (by omega) (by omega)
 unfold doW
 split
 ·exact (bEj h hk).mono (by omega) (by omega)
 ·split
  ·split
   ·rename_i x hi hx
    have hm:=bW6 hx
    have hb:=h.keep.bytes.fly x hm
    have hg:rJ t B k (tP w e.2.1.toNat):=h.step ⟨rfl,rfl,id,fun y hy=> ?_,fun hl=> ?_⟩ (aEr h.keep _)
    ·exact ((hg.step (cQ.proc _ _ _ _) (aXy hg.keep hb)).mono (by omega) (by omega))
    ·rcases bW5.1 (show y∈(aR w).take _++(aR w).drop _ from hy) with hy | hy
     ·exact .inl (bYe hy)
     ·exact .inl (bYi hy)
    ·show ((aR w).take _++(aR w).drop _).length<=150
     simp only [bXp,bX6,bYx]
     omega
   ·exact same
  ·split
   ·split
    ·have hg:rJ t B k (tP w e.2.1.toNat):=h.step ⟨rfl,rfl,id,fun y hy=> ?_,fun hl=> ?_⟩ (aEr h.keep _)
     ·exact (hg.step (cQ.drop _) ⟨hg.keep.tot,hg.keep.flows,⟨hg.keep.bytes.fly,hg.keep.bytes.msg⟩⟩).mono (by omega) (by omega)
     ·rcases bW5.1 (show y∈(aR w).take _++(aR w).drop _ from hy) with hy | hy
      ·exact .inl (bYe hy)
      ·exact .inl (bYi hy)
     ·show ((aR w).take _++(aR w).drop _).length<=150
      simp only [bXp,bX6,bYx]
      omega
    ·exact same
   ·split
    ·split
     ·rename_i x hi hx
      have hm:=bW6 hx
      rw [bWw] at hi
      have hlt: ¬ (((aR w).length:Int)>=150):=by have :=hi.2;simpa using this
      have ht':=aYk (w:=w) (x:=x)
      have hx':=h.fly x hm
      have hkp:=h.keep.tot
      refine rJ.mono (B:=B+1101) (k:=k) (h.step (w':=aB0 w (aR w++[x])) ⟨rfl,rfl,id,fun y hy=> ?_,fun hl=> ?_⟩ ⟨by omega,h.keep.flows,⟨fun y hy=> ?_,h.keep.bytes.msg⟩⟩) (by omega) (by omega)
      ·rcases bW5.1 (show y∈aR w++[x] from hy) with hy | hy
       ·exact .inl hy
       ·rw [bW3.1 hy];exact .inl hm
      ·show (aR w++[x]).length<=150
       simp only [bXp,bYg]
       omega
      ·rcases bW5.1 (show y∈aR w++[x] from hy) with hy | hy
       ·exact h.keep.bytes.fly y hy
       ·rw [bW3.1 hy];exact h.keep.bytes.fly x hm
     ·exact same
    ·split
     ·show rJ t (B+2000) (k+1) (tM w e.2.1 (e.1==5))
      unfold tM
      split
      ·exact same
      ·have h1:=aYa w (rA (nT w).2.length (aJ w) e.2.1 (e.1==5))
       have h2:=bHq (nT w).2.length (aJ w) e.2.1 (e.1==5)
       have h3:(nT w).2.length<=100:=by rw [h.top];exact ht
       have hkp:=h.keep.tot
       exact rJ.mono (B:=B+100) (k:=k) (h.step (w':=aFd w (rA (nT w).2.length (aJ w) e.2.1 (e.1==5))) ⟨rfl,rfl,id,fun y hy=> .inl hy,id⟩ ⟨by omega,h.keep.flows,⟨h.keep.bytes.fly,h.keep.bytes.msg⟩⟩) (by omega) (by omega)
     ·split
      ·split
       ·rename_i hc
        rw [bWw] at hc
        have hlt: ¬ (((aR w).length:Int)>=150):=by have :=hc.2;simpa using this
        have ht':=aYk (w:=w) (x:=e.2.2.2)
        have hx':=he.pk.1
        have hkp:=h.keep.tot
        refine rJ.mono (B:=B+1101) (k:=k) (h.step (w':=aB0 w (aR w++[e.2.2.2])) ⟨rfl,rfl,id,fun y hy=> ?_,fun hl=> ?_⟩ ⟨by omega,h.keep.flows,⟨fun y hy=> ?_,h.keep.bytes.msg⟩⟩) (by omega) (by omega)
        ·rcases bW5.1 (show y∈aR w++[e.2.2.2] from hy) with hy | hy
         ·exact .inl hy
         ·rw [bW3.1 hy];exact .inr hx'
        ·show (aR w++[e.2.2.2]).length<=150
         simp only [bXp,bYg]
         omega
        ·rcases bW5.1 (show y∈aR w++[e.2.2.2] from hy) with hy | hy
         ·exact h.keep.bytes.fly y hy
         ·rw [bW3.1 hy];exact he.pk.2
       ·exact same
      ·split
       ·split
        ·rename_i f hi hf
         have hm:=bW6 hf
         have h1:=aR4 (t:=tFl) (y:=aA8 f e.2.2.1) hf
         have h5:=aF7 w ((aB w).set e.2.1.toNat (aA8 f e.2.2.1))
         have h6:=fA w
         have hkp:=h.keep.tot
         have h2:tot tFl (aA8 f e.2.2.1)<=tot tFl f+4:=by
          unfold aA8
          split
          ·obtain ⟨a,b,c,d,ms,ps,cu,wa,rv⟩:=f
           show tot tFl (a,b,c,d,ms++[e.2.2.1],ps,cu,wa,rv)<=tot tFl (a,b,c,d,ms,ps,cu,wa,rv)+4
           rw [aF9,aF9,sQ,aZ9]
           have :=he.data.1
           omega
          ·omega
         refine rJ.mono (B:=B+4) (k:=k) (h.step (w':=cT w ((aB w).set e.2.1.toNat (aA8 f e.2.2.1))) (cQ.flows w _) ⟨by omega,by show ((aB w).set _ _).length<=4;rw [bYl];exact h.keep.flows,⟨h.keep.bytes.fly,fun g hg m hmm=> ?_⟩⟩) (by omega) (by omega)
         rcases bZm (show g∈(aB w).set _ _ from hg) with hg | rfl
         ·exact h.keep.bytes.msg g hg m hmm
         ·unfold aA8 at hmm
          split at hmm
          ·rcases bW5.1 (show m∈f.2.2.2.2.1++[e.2.2.1] from hmm) with hmm | hmm
           ·exact h.keep.bytes.msg f hm m hmm
           ·rw [bW3.1 hmm];exact he.data.2
          ·exact h.keep.bytes.msg f hm m hmm
        ·exact same
       ·exact same


inductive Ran (v:den tNw):lN→den tNw→Prop
 | nil:Ran v [] v
 | snoc {l:lN} {w:den tNw} {e:den fZ} (h:Ran v l w) (he:EvD w e):Ran v (l++[e]) (doW w e).2
theorem yD.gateOk {n:Nat} {v:den tNw} (h:yD n v):OkS (nG v) (aN v):=by
 have h1:=h.res
 rw [h.now,h.gate]
 exact ⟨by show (1:Int)<=12;decide,by show (20:Int)>=12;decide,h1,fun j x hx=>by simp at hx⟩

theorem yD.run {v:den tNw} (h:yD 3 v):rJ (nT v) 1000 0 v where
 keep:=⟨h.tot (by decide),bWv h.len (by decide),⟨fun x hx=>(by rw [h.fly] at hx;cases hx),fun f hf m hm=>(h.flows f hf).bytes m hm⟩⟩
 top:=rfl
 gate:=h.gateOk
 lo:=by rw [h.now];decide
 hi:=by rw [h.now];decide
 fly:=fun x hx=>by rw [h.fly] at hx;cases hx
 flyN:=by rw [h.fly];exact bXf _

theorem Ran.run {v:den tNw} (hv:yD 3 v) {l:lN} {w:den tNw} (h:Ran v l w):l.length<=1000→rJ (nT v) (1000+2000 * l.length) l.length w:=by
 induction h with
 | nil=>intro _;exact hv.run
 | snoc h he ih=>
  intro hl
  simp only [bXp,bYg] at hl ⊢
  exact (aYv (ih (by omega)) (by omega) hv.top.links he).mono (by omega) (by omega)

theorem rJ.netE {t:den tTo} {B k:Nat} {w:den tNw} (h:rJ t B k w) (hB:B<=536870912) (h1:1<=t.1.length) (h8:t.1.length<=8) (hl:t.2.length<=100):bIc w:=
 ⟨bWv h.keep.tot hB,by rw [h.top];exact ⟨h1,h8⟩,by rw [h.top];exact hl,h.flyN,h.fly,h.keep.bytes.fly,h.keep.flows⟩

def bWn (v:den tNw) (l:lN) (w:den tNw) (c:List Int) (p h:Int):q15:=
 ((nG v).1,aN v,dW v,l,(nT w).1,(nT w).2,(nK w).1,(nK w).2,(nG w).1,(nG w).2.1,(nG w).2.2,aN w,aJ w,dW w,(nT v).1,(nT v).2,(nK v).1,(nK v).2,(nG v).2.1,(nG v).2.2,aJ v,aR v,aB v,aU v,aR w,aB w,aU w,c,p,h)

abbrev RnS:=Int×lAS×lLk×lSg×lSg×Int×lRs×lUs×Int×lI×Int×lN×lFy×lFl×lIb×lI×Int×Int

abbrev RnR:=lAS×lLk×lSg×lSg×Int×lRs×lUs×Int×lI×Int×lN×lFy×lFl×lIb×lI×Int×Int

def rnS (n:Nat) (l:lN) (w:den tNw) (c:List Int) (p h:Int):RnS:=((n:Int),(nT w).1,(nT w).2,(nK w).1,(nK w).2,(nG w).1,(nG w).2.1,(nG w).2.2,aN w,aJ w,dW w,l,aR w,aB w,aU w,c,p,h)

def bTx (code:List Int) (N:Nat) (o:Option q15):Prop:=
 ∃ v l w c' p' h',o=some (bWn v l w c' p' h')∧yD 3 v∧Ran v l w∧l.length<=N∧Cur code (c',p',h')

theorem bQd {code:List Int} (hl:code.length<=1048576) {most:Nat} (h0:0<most) (h1:most<=200) {c:List Int} {p h:Int} (hc:Cur code (c,p,h)):bTx code (3+most) (yV (c,p,h) (most:Int)):=by
 obtain ⟨v,c1,p1,h1',e1,hv,k1⟩:=bO7 hl hc
 obtain ⟨v2,c2,p2,h2,e2,r2,k2⟩:=aY hl (n:=(most:Int)) (by omega) (by omega) k1
 obtain ⟨m2,rfl⟩:=bXq r2.1
 have w2:wr ((3:Int)+(m2:Int))=((m2+3:Nat):Int):=by rw [bI (by omega) (by omega)];omega
 have sw:SmB 68719476736 tNw v:=(bG (hv.tot (by decide))).mono (by decide)
 have e3:qB (((zJ v c1 p1 h1').2.2.2.1,(zJ v c1 p1 h1').2.2.2.2.1),((zJ v c1 p1 h1').2.2.2.2.2.1,(zJ v c1 p1 h1').2.2.2.2.2.2.1),((zJ v c1 p1 h1').1,(zJ v c1 p1 h1').2.2.2.2.2.2.2.1,(zJ v c1 p1 h1').2.2.2.2.2.2.2.2.1),(zJ v c1 p1 h1').2.1,(zJ v c1 p1 h1').2.2.2.2.2.2.2.2.2.1,(zJ v c1 p1 h1').2.2.2.2.2.2.2.2.2.2.1,(zJ v c1 p1 h1').2.2.2.2.2.2.2.2.2.2.2.1,(zJ v c1 p1 h1').2.2.2.2.2.2.2.2.2.2.2.2.1,(zJ v c1 p1 h1').2.2.1)=some (aN7 v):=aZk sw
 have e2:aE ((zJ v c1 p1 h1').2.2.2.2.2.2.2.2.2.2.2.2.2.1,(zJ v c1 p1 h1').2.2.2.2.2.2.2.2.2.2.2.2.2.2.1,(zJ v c1 p1 h1').2.2.2.2.2.2.2.2.2.2.2.2.2.2.2) (most:Int)=some ((m2:Int),c2,p2,h2):=e2
 unfold yV bSx pj3 pj6 aW bR bT eX nD rR wD aAj aCl aB9 aHn zz4 zz5 zz6 zz7 zz8 zz9
 simp only [aV,bK,bA,aZ,bD,e1,aA,e3,e2,w2]
 refine mT (G:=bTx code (3+most)) (fun (n:Nat) (s:RnS)=> ∃ l w c p h,s=rnS n l w c p h∧l.length+n<=3+most∧Ran v l w∧Cur code (c,p,h)) (fun r:RnR=> ∃ n l w c p h,r=(rnS n l w c p h).2∧l.length<=3+most∧Ran v l w∧Cur code (c,p,h)) ?_ (m2+3) (rnS (m2+3) [] v c2 p2 h2) ⟨[],v,c2,p2,h2,rfl,by simp only [bY6];omega,.nil,k2⟩ ?_
 ·rintro n s ⟨l,w,c3,p3,h3,rfl,hn,hr,k3⟩
  cases n with
  | zero=>exact .inl ⟨_,rfl,0,l,w,c3,p3,h3,rfl,by omega,hr,k3⟩
  | succ n=>
   right
   have hrun:=hr.run hv (by omega)
   have hE:=hrun.netE (by omega) hv.top.pos hv.top.len hv.top.links
   obtain ⟨e,c4,p4,h4,e4,he,k4⟩:=bI4 hl hE k3
   have e5:=bWb (w:=w) (e:=e) (by decide) hrun.keep (by omega) (by
     have h8:=he.hi
     have h9: ¬ (e.1=(9:Int)):=fun h=>by rw [h] at h8;exact absurd h8 (by decide)
     exact beq_eq_false_iff_ne.2 h9) ⟨by have :=he.data.1;omega,fun x hx=>trivial⟩ (bWv he.pk.1 (by decide))
   have wn:wr (((n+1:Nat):Int) - 1)=(n:Int):=by rw [bI (by omega) (by omega)];omega
   refine ⟨n,rnS n (l++[e]) (doW w e).2 c4 p4 h4,by omega,?_,l++[e],(doW w e).2,c4,p4,h4,rfl,by simp only [bXp,bYg];omega,hr.snoc he,k4⟩
   obtain ⟨⟨as,ls⟩,⟨dn,co⟩,⟨cap,res,us⟩,now,dead,fly,flows,box,drop⟩:=w
   obtain ⟨kd,en,data,to,ing,k1,k2,k3,k4,k5,k6,k7,k8,k9,k10⟩:=e
   show cond (decide (((n+1:Nat):Int)>(0:Int))) _ _=_
   rw [zX (show ((n+1:Nat):Int)>0 by omega),zZ]
   simp only [rnS,nT,nK,nG,aN,aJ,aR,aB,aU,dW,zZ,e4,aA,nxR,aD (b:=168) (n:=l.length) (m:=1) (by decide) (by omega),e5,cA,wn]
 ·rintro r ⟨n,l,w,c3,p3,h3,rfl,hn,hr,k3⟩
  exact ⟨v,l,w,c3,p3,h3,rfl,hv,hr,hn,k3⟩

theorem bLh {code:List Int} (hl:code.length<=1048576) {m:Nat} (hm:3<=m∧m<=1000): ∃ n:Nat,xH code (m:Int)=some (n:Int)∧n<=m:=by
 unfold xH
 have e:Int.tdiv (code.length:Int) 12=((code.length / 12:Nat):Int):=rfl
 have w:wr ((code.length:Int).tdiv 12)=((code.length / 12:Nat):Int):=by rw [e,bI (by omega) (by omega)]
 have w2:wr ((3:Int)+((code.length / 12:Nat):Int))=((3+code.length / 12:Nat):Int):=by rw [bI (by omega) (by omega)];omega
 simp only [w,w2]
 by_cases h:((3+code.length / 12:Nat):Int)>(m:Int)
 ·rw [zX h]
  exact ⟨m,rfl,bXb _⟩
 ·rw [zW h]
  exact ⟨3+code.length / 12,rfl,by omega⟩

def hdS (l:dK):Option Int:=l.head?.map fun x=>(x.1:Int)

def ltS (l:dK):Option Int:=l.getLast?.map fun x=>(x.1:Int)

theorem aIz (l:dK) (x:den yK):ltS (l++[x])=some x.1:=by unfold ltS;rw [bZg];rfl

theorem aNl (l:dK) (x:den yK):hdS (l++[x])=if l=[] then some x.1 else hdS l:=by
 cases l with
 | nil=>rfl
 | cons y l=>rfl

theorem bOq (nf:Bool) (p:den tPp) (i:Nat) (h:den cG) (out:dK):ltS (yC nf p i h out)=some h.1∧hdS (yC nf p i h out)=if out=[] then some h.1 else hdS out:=by
 unfold yC
 rcases mH out with rfl | ⟨m,z,rfl⟩
 ·exact ⟨rfl,rfl⟩
 ·rw [bZg]
  simp only
  split
  ·rename_i hc
   simp only [bWw,beq_iff_eq] at hc
   rw [bZ6]
   refine ⟨aIz _ _,?_⟩
   have hne:m++[z]≠[]:=by simp
   rw [zS hne,aNl,aNl]
   by_cases hm:m=[]
   ·rw [zT hm,zT hm];exact congrArg some hc.2.2.symm
   ·rw [zS hm,zS hm]
  ·exact ⟨aIz _ _,by rw [aNl]⟩

theorem aQh (nf:Bool) (p:den tPp): ∀ (l:cZ) (k:Nat) (a:dK),ltS (cN (fun i h b=>yC nf p i h b) k l a)=(if l=[] then ltS a else gA l)∧hdS (cN (fun i h b=>yC nf p i h b) k l a)=(if a=[] then oV l else hdS a)
 | [],k,a=>by
  refine ⟨rfl,?_⟩
  show hdS a=_
  split
  ·rename_i h;rw [h];rfl
  ·rfl
 | x::l,k,a=>by
  obtain ⟨h1,h2⟩:=aQh nf p l (k+1) (yC nf p k x a)
  obtain ⟨g1,g2⟩:=bOq nf p k x a
  have hne:yC nf p k x a≠[]:=fun e=>by rw [e] at g1;cases g1
  rw [zS hne,g2] at h2
  refine ⟨?_,?_⟩
  ·show ltS (cN _ (k+1) l (yC nf p k x a))=_
   cases l with
   | nil=>
    show ltS (yC nf p k x a)=_
    rw [zS (List.cons_ne_nil _ _),g1];rfl
   | cons y l=>
    rw [h1,zS (List.cons_ne_nil _ _),zS (List.cons_ne_nil _ _)]
    unfold gA
    rw [List.getLast?_cons_cons]
  ·show hdS (cN _ (k+1) l (yC nf p k x a))=_
   rw [h2];rfl

theorem aWh: ∀ (p:lPp) (k:Nat) (a:dK),a≠[]→hdS (cN (fun k x a=>rF (decide (0<k)) x a) k p a)=hdS a∧(∀ b,aC2 p=some b→ltS (cN (fun k x a=>rF (decide (0<k)) x a) k p a)=some b)
 | [],k,a,_=>⟨rfl,fun b h=>by cases h⟩
 | x::p,k,a,ha=>by
  obtain ⟨g1,g2⟩:=aQh (decide (0<k)) x x.2.2.2 0 a
  rw [zS ha] at g2
  have hne:rF (decide (0<k)) x a≠[]:=fun e=>by
   have g2:hdS (rF (decide (0<k)) x a)=hdS a:=g2
   rw [e] at g2
   cases a with
   | nil=>exact ha rfl
   | cons y l=>cases g2
  obtain ⟨h1,h2⟩:=aWh p (k+1) (rF (decide (0<k)) x a) hne
  refine ⟨h1.trans g2,fun b hb=> ?_⟩
  cases p with
  | nil=>
   have hb:gA x.2.2.2=some b:=hb
   show ltS (rF (decide (0<k)) x a)=some b
   have g1:ltS (rF (decide (0<k)) x a)=_:=g1
   rw [g1,zS (fun e=>by rw [e] at hb;cases hb),hb]
  | cons y p=>
   have hb:aC2 (y::p)=some b:=by
    unfold aC2 at hb ⊢
    rwa [List.getLast?_cons_cons] at hb
   exact h2 b hb

theorem aY7 (l:dK):hdS (aHm l)=hdS l∧ltS (aHm l)=ltS l:=by
 unfold aHm
 cases l with
 | nil=>exact ⟨rfl,rfl⟩
 | cons x xs=>
  simp only
  rcases mH xs with rfl | ⟨m,z,rfl⟩
  ·exact ⟨rfl,rfl⟩
  ·have e:((x.1,(0:Int),x.2.2)::(m++[z]):dK)=((x.1,(0:Int),x.2.2)::m)++[z]:=rfl
   rw [e,bZg]
   simp only
   rw [bZ6,aIz]
   refine ⟨rfl,?_⟩
   rw [show (x::(m++[z]):dK)=(x::m)++[z] from rfl,aIz]


theorem aQn {p:lPp} {a b:Int} (ha:aKw p=some a) (hb:aC2 p=some b):ends p=(a,b):=by
 cases p with
 | nil=>cases ha
 | cons x p=>
  have ha:oV x.2.2.2=some a:=ha
  obtain ⟨g1,g2⟩:=aQh false x x.2.2.2 0 []
  have g1:ltS (rF false x [])=_:=g1
  have g2:hdS (rF false x [])=oV x.2.2.2:=g2
  have hne:rF false x []≠[]:=fun e=>by rw [e] at g2;rw [← g2] at ha;cases ha
  obtain ⟨h1,h2⟩:=aWh p 1 (rF false x []) hne
  have e0:aAq (x::p)=cN (fun k x a=>rF (decide (0<k)) x a) 1 p (rF false x []):=rfl
  have f1:hdS (gT (x::p))=some a:=by
   unfold gT
   rw [(aY7 _).1,e0,h1,g2,ha]
  have f2:ltS (gT (x::p))=some b:=by
   unfold gT
   rw [(aY7 _).2,e0]
   cases p with
   | nil=>
    have hb:gA x.2.2.2=some b:=hb
    show ltS (rF false x [])=some b
    rw [g1,zS (fun e=>by rw [e] at hb;cases hb),hb]
   | cons y p=>
    have hb:aC2 (y::p)=some b:=by
     unfold aC2 at hb ⊢
     rwa [List.getLast?_cons_cons] at hb
    exact h2 b hb
  unfold ends
  unfold hdS at f1
  unfold ltS at f2
  obtain ⟨u,hu,eu⟩:=bXn.1 f1
  obtain ⟨v,hv,ev⟩:=bXn.1 f2
  rw [hu,hv]
  simp only
  rw [eu,ev]

theorem aTi (x:den tPp):oV (xE x).2.2.2=gA x.2.2.2∧gA (xE x).2.2.2=oV x.2.2.2:=by
 unfold xE oV gA
 simp only [List.head?_reverse,List.getLast?_reverse,and_self]

theorem aSx (p:lPp):aKw (aCk p)=aC2 p∧aC2 (aCk p)=aKw p:=by
 unfold aCk aKw aC2
 rw [List.head?_map,List.getLast?_map,List.head?_reverse,List.getLast?_reverse]
 constructor
 ·cases p.getLast? with
  | none=>rfl
  | some x=>exact (aTi x).1
 ·cases p.head? with
  | none=>rfl
  | some x=>exact (aTi x).2

theorem aRl {α:Type} (p:α→α→Bool) (hp: ∀ x y,p x y=true→x=y): ∀ {a b:List α},a.length=b.length→aHb p a b=true→a=b
 | [],[],_,_=>rfl
 | [],_::_,h,_=>by simp at h
 | _::_,[],h,_=>by simp at h
 | x::a,y::b,h,e=>by
  simp only [aHb,bWw] at e
  rw [hp x y e.1,aRl p hp (by simpa using h) e.2]

theorem aY8 (b:Bool):cond b true false=b:=by cases b<;>rfl

theorem bH3 {a b:cZ} (h:aPc a b=true):a=b:=by
 unfold aPc at h
 by_cases hl:a.length=b.length
 ·rw [zX hl,bWx,zY,aY8] at h
  refine aRl _ (fun x y e=> ?_) hl h
  simp only [bWw,beq_iff_eq,and_true] at e
  obtain ⟨e1,e2,e3,e4,e5⟩:=e
  obtain ⟨x1,x2,x3,x4,x5⟩:=x
  obtain ⟨y1,y2,y3,y4,y5⟩:=y
  simp only at e1 e2 e3 e4 e5
  rw [e1,e2,e3,e4,e5]
 ·rw [zW hl] at h;cases h

theorem aXo {a b:Bool}:cond a b false=true↔a=true∧b=true:=by cases a<;>cases b<;>simp

theorem bHy {a b:den tPp} (h:aD3 a b=true):a=b:=by
 unfold aD3 at h
 simp only [aXo,beq_iff_eq] at h
 obtain ⟨e1,e2,e3,e4⟩:=h
 have e4:=bH3 e4
 obtain ⟨x1,x2,x3,x4⟩:=a
 obtain ⟨y1,y2,y3,y4⟩:=b
 simp only at e1 e2 e3 e4
 rw [e1,e2,e3,e4]

theorem bKr {a b:lPp} (h:aP4 a b=true):a=b:=by
 unfold aP4 at h
 by_cases hl:a.length=b.length
 ·rw [zX hl,bWx,zY,aY8] at h
  exact aRl _ (fun x y e=>bHy e) hl h
 ·rw [zW hl] at h;cases h

theorem bIb {a b:den tPk} (ha:fY a) (hb:fY b) (h:aAw a b=true):a=b:=by
 unfold aAw at h
 simp only [aXo,beq_iff_eq] at h
 obtain ⟨e1,e2,e3,e4,e5,e6,e7,e8,e9,e10⟩:=h
 have e4:=bKr e4
 have e10:=(bHe ha hb).1 e10
 obtain ⟨x1,x2,x3,x4,x5,x6,x7,x8,x9,x10⟩:=a
 obtain ⟨y1,y2,y3,y4,y5,y6,y7,y8,y9,y10⟩:=b
 simp only at e1 e2 e3 e4 e5 e6 e7 e8 e9 e10
 rw [e1,e2,e3,e4,e5,e6,e7,e8,e9,e10]

theorem eqI {a b:Int} (h:a=b):a=b:=h

theorem ltI {a b:Int} (h:a<b):a<b:=h

theorem leI {a b:Int} (h:a<=b):a<=b:=h


structure vX (t:den tTo) (f:den tFl) (x:den tIb):Prop where
 val:eQ f=true
 src:cX t f.1=true
 dst:cX t f.2.1=true
 xAS:x.1=f.2.1
 xFrom:x.2.1=f.1
 next:x.2.2.1=(x.2.2.2.length:Int)
 recv:x.2.2.2=f.2.2.2.2.1.take x.2.2.2.length
 len:x.2.2.2.length<=f.2.2.2.2.1.length
 ack:f.2.2.2.1<=(x.2.2.2.length:Int)
 paths: ∀ p∈f.2.2.2.2.2.1,aKw p=some f.1∧aC2 p=some f.2.1


def rU (w:den tNw) (p:den tPk):Prop:= ∀ (k:Nat) (f:den tFl) (x:den tIb),(aB w)[k]? =some f→(aU w)[k]? =some x→
 (p.1=(1:Int)→p.2.1=f.1→p.2.2.1=f.2.1→aKw p.2.2.2.1=some f.1∧aC2 p.2.2.2.1=some f.2.1∧ ∃ s:Nat,p.2.2.2.2.2.2.2.2.1=(s:Int)∧f.2.2.2.2.1[s]? =some p.2.2.2.2.2.2.2.2.2)∧
 (p.1=(2:Int)→p.2.1=f.2.1→p.2.2.1=f.1→p.2.2.2.2.2.2.2.2.1<x.2.2.1)

def bJ6 (w:den tNw) (p:den tPk):Prop:=gP p=true→rU w p

structure dM (t:den tTo) (w:den tNw):Prop where
 top:nT w=t
 lenB:(aU w).length=(aB w).length
 flow: ∀ (k:Nat) (f:den tFl) (x:den tIb),(aB w)[k]? =some f→(aU w)[k]? =some x→vX t f x
 uniq:(aB w).Pairwise fun f g=>sZ g f=false
 good: ∀ y∈aR w,bJ6 w y.2.2
 to: ∀ y∈aR w,cX t y.1=true


structure aNv (w w':den tNw):Prop where
 flow: ∀ (k:Nat) (f':den tFl),(aB w')[k]? =some f'→ ∃ f,(aB w)[k]? =some f∧f'.1=f.1∧f'.2.1=f.2.1∧ ∀ (s:Nat) (m:List Int),f.2.2.2.2.1[s]? =some m→f'.2.2.2.2.1[s]? =some m
 box: ∀ (k:Nat) (x':den tIb),(aU w')[k]? =some x'→ ∃ x,(aU w)[k]? =some x∧x.2.2.1<=x'.2.2.1

theorem aNv.refl (w:den tNw):aNv w w:=⟨fun k f h=>⟨f,h,rfl,rfl,fun _ _ h=>h⟩,fun k x h=>⟨x,h,bX3 _⟩⟩

theorem rU.grow {w w':den tNw} {p:den tPk} (h:rU w p) (g:aNv w w'):rU w' p:=fun k f' x' hf hx=>by
 obtain ⟨f,hf0,e1,e2,e3⟩:=g.flow k f' hf
 obtain ⟨x,hx0,e4⟩:=g.box k x' hx
 obtain ⟨h1,h2⟩:=h k f x hf0 hx0
 rw [e1,e2]
 refine ⟨fun a b c=> ?_,fun a b c=>Int.lt_of_lt_of_le (h2 a b c) e4⟩
 obtain ⟨q1,q2,s,q3,q4⟩:=h1 a b c
 exact ⟨q1,q2,s,q3,e3 s _ q4⟩

theorem rU.goTo {w:den tNw} {p:den tPk} (h:rU w p) (i j b:Int):rU w (goTo p i j b):=h

theorem aJ2 {w:den tNw} {p:den tPk} (h:p.1=(3:Int)):rU w p:=fun k f x _ _=>⟨fun e=>absurd (h.symm.trans e) (by decide),fun e=>absurd (h.symm.trans e) (by decide)⟩


theorem dM.same {t:den tTo} {w w':den tNw} (h:dM t w) (e1:nT w'=nT w) (e2:aB w'=aB w) (e3:aU w'=aU w) (e4: ∀ y∈aR w',y∈aR w∨(rU w y.2.2∧cX t y.1=true)):dM t w':=by
 have g:aNv w w':=⟨fun k f h=>⟨f,by rw [← e2];exact h,rfl,rfl,fun _ _ h=>h⟩,fun k x h=>⟨x,by rw [← e3];exact h,bX3 _⟩⟩
 refine ⟨e1.trans h.top,by rw [e2,e3];exact h.lenB,fun k f x hf hx=>h.flow k f x (by rw [← e2];exact hf) (by rw [← e3];exact hx),by rw [e2];exact h.uniq,fun y hy=> ?_,fun y hy=> ?_⟩
 ·rcases e4 y hy with hy | ⟨hy,_⟩
  ·exact fun hv=>(h.good y hy hv).grow g
  ·exact fun _=>hy.grow g
 ·rcases e4 y hy with hy | ⟨_,hy⟩
  ·exact h.to y hy
  ·exact hy

theorem dM.drop {t:den tTo} {w:den tNw} (h:dM t w):dM t (zO w):=h.same rfl rfl rfl fun y hy=> .inl hy


theorem dM.map {t:den tTo} {w:den tNw} (h:dM t w) {l:lFl} (hl:l.length=(aB w).length)
  (hm: ∀ (k:Nat) (f':den tFl),l[k]? =some f'→ ∃ f,(aB w)[k]? =some f∧f'.1=f.1∧f'.2.1=f.2.1∧(∀ (s:Nat) (m:List Int),f.2.2.2.2.1[s]? =some m→f'.2.2.2.2.1[s]? =some m)∧ ∀ x,(aU w)[k]? =some x→vX t f x→vX t f' x):dM t (cT w l):=by
 have g:aNv w (cT w l):=⟨fun k f' hf=>by
  obtain ⟨f,a,b,c,d,_⟩:=hm k f' hf
  exact ⟨f,a,b,c,d⟩,fun k x h=>⟨x,h,bX3 _⟩⟩
 refine ⟨h.top,by show (aU w).length=l.length;rw [hl];exact h.lenB,fun k f' x hf hx=> ?_,?_,fun y hy hv=>(h.good y hy hv).grow g,h.to⟩
 ·obtain ⟨f,a,_,_,_,e⟩:=hm k f' hf
  exact e x hx (h.flow k f x a hx)
 ·show l.Pairwise _
  rw [bYp]
  intro i j hi hj hij
  obtain ⟨f,a,b,c,_⟩:=hm i l[i] (bWu hi)
  obtain ⟨f',a',b',c',_⟩:=hm j l[j] (bWu hj)
  obtain ⟨hi',ei⟩:=bW1.1 a
  obtain ⟨hj',ej⟩:=bW1.1 a'
  have :=(bYp.1 h.uniq) i j hi' hj' hij
  rw [ei,ej] at this
  unfold sZ at this ⊢
  rw [b,c,b',c']
  exact this


theorem dM.one {t:den tTo} {w:den tNw} (h:dM t w) {i j:Nat} {f g:den tFl} (hf:(aB w)[i]? =some f) (hg:(aB w)[j]? =some g) (e1:f.1=g.1) (e2:f.2.1=g.2.1):i=j:=by
 obtain ⟨hi,ei⟩:=bW1.1 hf
 obtain ⟨hj,ej⟩:=bW1.1 hg
 have hs: ∀ a b:den tFl,a.1=b.1→a.2.1=b.2.1→sZ b a=true:=fun a b x y=>by
  unfold sZ
  rw [x,y];simp
 rcases Nat.lt_trichotomy i j with c | c | c
 ·have :=(bYp.1 h.uniq) i j hi hj c
  rw [ei,ej,hs f g e1 e2] at this
  cases this
 ·exact c
 ·have :=(bYp.1 h.uniq) j i hj hi c
  rw [ei,ej,hs g f e1.symm e2.symm] at this
  cases this

theorem bDh {t:den tTo} {f:den tFl} {x:den tIb} {p:den tPk} (h:vX t f x) (hp:aM8 f p=true→p.2.2.2.2.2.2.2.2.1<x.2.2.1):vX t (tK f p) x:=by
 unfold tK
 split
 ·rename_i ha
  have hs:=hp ha
  unfold aM8 at ha
  simp only [bWw,beq_iff_eq] at ha
  obtain ⟨_,_,_,h4,h5⟩:=ha
  obtain ⟨h6,h7⟩:=bJ.1 h5
  have hn:=h.next
  have hv:=(nJ f).1 h.val
  have hm:f.2.2.2.2.1.length<=20:=hv.2.2.2.2.1
  have e:wr (f.2.2.2.1+1)=f.2.2.2.1+1:=bI (by omega) (by omega)
  rw [e]
  refine ⟨?_,h.src,h.dst,h.xAS,h.xFrom,h.next,h.recv,h.len,?_,h.paths⟩
  ·rw [nJ]
   obtain ⟨q1,q2,q3,q4,q5,q6,q7,q8,q9,q10,q11,q12⟩:=hv
   exact ⟨q1,q2,q3,q4,q5,bJ.2 ⟨by show (0:Int)<=f.2.2.2.1+1;omega,by show (f.2.2.2.2.1.length:Int)>=f.2.2.2.1+1;omega⟩,q7,q8,q9,q10,rfl,q12⟩
  ·have e1:f.2.2.2.1<x.2.2.1:=h4▸hs
   rw [hn] at e1
   exact Int.add_one_le_of_lt e1
 ·exact h

theorem bB6 {t:den tTo} {f:den tFl} {x:den tIb} {p:den tPk} (h:vX t f x):vX t (xO f p) x:=by
 unfold xO
 cases p.1==3&&(vQ p.2.2.2.2.2.2.2.2.2).2.2.2 with
 | false=>exact h
 | true=>
  rw [zZ]
  have hv:=(nJ f).1 h.val
  refine ⟨?_,h.src,h.dst,h.xAS,h.xFrom,h.next,h.recv,h.len,h.ack,h.paths⟩
  rw [nJ]
  obtain ⟨q1,q2,q3,q4,q5,q6,q7,q8,q9,q10,q11,q12⟩:=hv
  obtain ⟨r1,r2⟩:=bJf (l:=f.2.2.2.2.2.2.2.2) (x:=aAa p.2.2.2.2.2.2.2.2.2) ⟨q12,q9⟩
  refine ⟨q1,q2,q3,q4,q5,q6,q7,q8,r2,?_,?_,r1⟩
  ·show cond _ _ _=(0:Int)∨inR (cond _ _ _) 0 _=true
   cases aQr f (aAa p.2.2.2.2.2.2.2.2.2) with
   | false=>exact q10
   | true=>exact aU6 q7 q10
  ·show inR (cond _ _ _) 0 4=true
   cases aQr f (aAa p.2.2.2.2.2.2.2.2.2) with
   | false=>exact q11
   | true=>rfl

theorem bE8 (f:den tFl) (p:den tPk):(tK f p).1=f.1∧(tK f p).2.1=f.2.1∧(tK f p).2.2.2.2.1=f.2.2.2.2.1:=by
 unfold tK;split<;>exact ⟨rfl,rfl,rfl⟩

theorem bHl (f:den tFl) (p:den tPk):(xO f p).1=f.1∧(xO f p).2.1=f.2.1∧(xO f p).2.2.2.2.1=f.2.2.2.2.1:=by
 unfold xO;cases p.1==3&&(vQ p.2.2.2.2.2.2.2.2.2).2.2.2<;>exact ⟨rfl,rfl,rfl⟩

theorem dM.tell {t:den tTo} {w:den tNw} {p:den tPk} (h:dM t w) (hg:rU w p) (r:Int):dM t (tQ w r p):=by
 refine h.map (by simp) fun k f' hf'=> ?_
 rw [bY2] at hf'
 obtain ⟨f,hf,rfl⟩:=bXn.1 hf'
 have ht:(oA r p f).1=f.1∧(oA r p f).2.1=f.2.1∧(oA r p f).2.2.2.2.1=f.2.2.2.2.1:=by
  unfold oA
  split
  ·split
   ·exact bE8 f p
   ·exact bHl f p
  ·exact ⟨rfl,rfl,rfl⟩
 refine ⟨f,hf,ht.1,ht.2.1,fun s m hm=>by rw [ht.2.2];exact hm,fun x hx hfx=> ?_⟩
 unfold oA
 split
 ·split
  ·refine bDh hfx fun ha=> ?_
   unfold aM8 at ha
   simp only [bWw,beq_iff_eq] at ha
   exact (hg k f x hf hx).2 ha.1 ha.2.1 ha.2.2.1
  ·exact bB6 hfx
 ·exact hfx

theorem dM.send {t:den tTo} {w:den tNw} {p:den tPk} (h:dM t w) (hg:rU w p) {r eg:Int} (hr:cX t (remote t r eg).1=true):dM t (oX w r eg p):=by
 unfold oX
 split
 ·refine h.same rfl rfl rfl fun y hy=> ?_
  rcases bW5.1 (show y∈aR w++_ from hy) with hy | hy
  ·exact .inl hy
  ·have :y=_:=bW3.1 hy
   subst this
   exact .inr ⟨hg,by rw [h.top];exact hr⟩
 ·exact h.drop


theorem bA0 {t:den tTo} {w:den tNw} {k:Nat} {f:den tFl} {x:den tIb} {p:den tPk} (hf:(aB w)[k]? =some f) (hx:(aU w)[k]? =some x) (hg:rU w p) (h:vX t f x):vX t f (dE x p)∧x.2.2.1<=(dE x p).2.2.1:=by
 unfold dE
 split
 ·rename_i ht
  unfold aN9 yI at ht
  simp only [bWw,beq_iff_eq,zR] at ht
  obtain ⟨⟨h1,h2,h3⟩,h4,h5⟩:=ht
  obtain ⟨_,_,s,g1,g2⟩:=(hg k f x hf hx).1 h1 (by rw [h2,h.xFrom]) (by rw [h3,h.xAS])
  have hn:=eqI h.next
  have h5:=ltI h5
  have h4':=eqI h4
  have g1':=eqI g1
  have hs:s=x.2.2.2.length:=by omega
  subst hs
  obtain ⟨hlt,he⟩:=bW1.1 g2
  have e:wr (x.2.2.1+1)=((x.2.2.2.length+1:Nat):Int):=by
   rw [hn];exact bN (by omega)
  rw [e]
  have ha:=leI h.ack
  refine ⟨⟨h.val,h.src,h.dst,h.xAS,h.xFrom,by show ((x.2.2.2.length+1:Nat):Int)=((x.2.2.2++[_]).length:Int);simp,?_,?_,?_,h.paths⟩,?_⟩
  ·show x.2.2.2++[p.2.2.2.2.2.2.2.2.2]=f.2.2.2.2.1.take (x.2.2.2++[p.2.2.2.2.2.2.2.2.2]).length
   rw [bXp,bYg,List.take_add_one,g2,← h.recv]
   rfl
  ·show (x.2.2.2++[p.2.2.2.2.2.2.2.2.2]).length<=_
   rw [bXp,bYg];omega
  ·refine leI (a:=f.2.2.2.1) (b:=((x.2.2.2++[p.2.2.2.2.2.2.2.2.2]).length:Int)) ?_
   rw [bXp,bYg];omega
  ·refine leI (a:=x.2.2.1) (b:=((x.2.2.2.length+1:Nat):Int)) ?_
   omega
 ·exact ⟨h,bX3 _⟩

theorem dM.box {t:den tTo} {w:den tNw} {k:Nat} {x x':den tIb} (h:dM t w) (hx:(aU w)[k]? =some x) (hn:x.2.2.1<=x'.2.2.1) (hf: ∀ f,(aB w)[k]? =some f→vX t f x'):dM t (pB w k x')∧aNv w (pB w k x'):=by
 have hk:k<(aU w).length:=(bW1.1 hx).1
 have g:aNv w (pB w k x'):=⟨fun k f h=>⟨f,h,rfl,rfl,fun _ _ h=>h⟩,fun j y hy=>by
  replace hy:((aU w).set k x')[j]? =some y:=hy
  rw [bY5] at hy
  split at hy
  ·rename_i e
   subst e
   try rw [zT hk] at hy
   injection hy with hy
   subst hy
   exact ⟨x,hx,hn⟩
  ·exact ⟨y,hy,bX3 _⟩⟩
 refine ⟨⟨h.top,by show ((aU w).set k x').length=_;rw [bYl];exact h.lenB,fun j f y hf' hy=> ?_,h.uniq,fun y hy hv=>(h.good y hy hv).grow g,h.to⟩,g⟩
 replace hy:((aU w).set k x')[j]? =some y:=hy
 rw [bY5] at hy
 split at hy
 ·rename_i e
  subst e
  try rw [zT hk] at hy
  injection hy with hy
  subst hy
  exact hf f hf'
 ·exact h.flow j f y hf' hy


theorem bKz {t:den tTo} {w:den tNw} {k:Nat} {x:den tIb} {p:den tPk} (h:dM t w) (hk: ∃ f,(aB w)[k]? =some f) (hx:(aU w)[k]? =some x) (ha:aCh x p=true) (hg:rU w p):rU w (nB x p):=by
 obtain ⟨f,hf⟩:=hk
 have hfx:=h.flow k f x hf hx
 unfold aCh yI at ha
 simp only [bWw,beq_iff_eq,bXx,decide_eq_false_iff_not] at ha
 obtain ⟨⟨h1,h2,h3⟩,h4⟩:=ha
 have e1:(p.2.1:Int)=f.1:=h2.trans hfx.xFrom
 have e2:(p.2.2.1:Int)=f.2.1:=h3.trans hfx.xAS
 obtain ⟨p1,p2,_⟩:=(hg k f x hf hx).1 h1 e1 e2
 have he:ends (aCk p.2.2.2.1)=(f.2.1,f.1):=aQn ((aSx _).1.trans p2) ((aSx _).2.trans p1)
 have hm:nB x p=aDp 2 (aCk p.2.2.2.1) p.2.2.2.2.2.2.2.1 p.2.2.2.2.2.2.2.2.1 []:=by
  unfold nB
  rw [zT (by
   unfold aCh yI
   simp only [bWw,beq_iff_eq,bXx,decide_eq_false_iff_not]
   exact ⟨⟨h1,h2,h3⟩,h4⟩)]
  rfl
 intro j g y hg' hy
 refine ⟨fun e=> ?_,fun _ a b=> ?_⟩
 ·rw [hm] at e;exact absurd e (show ¬ ((2:Int)=1) by decide)
 ·rw [hm] at a b ⊢
  have a:(ends (aCk p.2.2.2.1)).1=g.2.1:=a
  have b:(ends (aCk p.2.2.2.1)).2=g.1:=b
  rw [he] at a b
  have hj:k=j:=h.one hf hg' b a
  subst hj
  have :some x=some y:=hx.symm.trans hy
  injection this with this
  subst this
  exact Int.not_le.1 h4

theorem aRu {t:den tTo} {p:den tPt} (h:wfP t p=true) {k:Nat} {x:den tPp} (hx:p[k]? =some x):rB t x=true∧(k=0∨aMa ((p[k - 1]?).getD pt0) x=true):=by
 unfold wfP at h
 rw [bWw] at h
 have :=(aCu (xQ t p) p).1 h.2 k x hx
 unfold xQ at this
 rw [bWw,bYa,zR] at this
 exact this

theorem bKa {t:den tTo} {x:den tPp} (h:rB t x=true) {k:Nat} {y:den cG} (hy:x.2.2.2[k]? =some y):cX t y.1=true∧(k=0∨aIn t x ((x.2.2.2[k - 1]?).getD h0) y=true):=by
 unfold rB at h
 simp only [bWw] at h
 obtain ⟨_,_,_,_,h5,h6⟩:=h
 have a:=(aCu (aEf t x.2.2.2) x.2.2.2).1 h5 k y hy
 have b:=(aCu (xM t x) x.2.2.2).1 h6 k y hy
 unfold aEf at a
 unfold xM at b
 simp only [bWw] at a
 rw [bYa,zR] at b
 exact ⟨a.2.1,b⟩

theorem aU0 {t:den tTo} {x:den tPp} (h:rB t x=true):0<x.2.2.2.length:=by
 unfold rB at h
 rw [bWw] at h
 have :=(bJ.1 h.1).1
 omega

theorem bSm {t:den tTo} {p:den tPk} (hw:wfP t p.2.2.2.1=true) (hh:cH p=true) (hz:0<=cW p) (hl:dL p=true) (ha:fX p=false):cW (adv p)=cW p∧(adv p).2.2.2.2.1=p.2.2.2.2.1+1∧(adv p).2.2.2.1=p.2.2.2.1:=by
 obtain ⟨i,e1,e2⟩:=aQf hh hz hl ha
 obtain ⟨i',j,f1,f2,f3,f4,f5⟩:=gO hh
 have f1':=eqI f1
 have :i'=i:=by have :=eqI (f1.symm.trans e1);omega
 subst this
 have e:adv p=goTo p (p.2.2.2.2.1+1) 0 (rO p).2.2.1:=by
  unfold adv
  rw [ha,hl,zW (show ¬ cW p<0 by omega)]
  rfl
 rw [e]
 refine ⟨?_,rfl,rfl⟩
 obtain ⟨v1,v2⟩:=aRu hw e2
 obtain ⟨u1,_⟩:=aRu hw f3
 have hj:aMa (bO p) (rO p)=true:=by
  rcases v2 with v2 | v2
  ·omega
  ·rw [show i'+1 - 1=i' by omega,f3] at v2
   exact v2
 unfold aMa at hj
 rw [bWw,beq_iff_eq] at hj
 have hp:=aU0 v1
 have hq:=aU0 u1
 have hhd:(rO p).2.2.2[0]? =some (aG8 (rO p)):=by
  unfold aG8
  rw [bWu hp];rfl
 have hjl:j=(bO p).2.2.2.length - 1:=by
  unfold dL at hl
  rw [beq_iff_eq,f2] at hl
  have hl:=eqI hl
  omega
 have hlt:aJo (bO p)=cU p:=by
  unfold aJo
  rw [← hjl,f4];rfl
 have hn:cH (goTo p (p.2.2.2.2.1+1) 0 (rO p).2.2.1)=true∧bO (goTo p (p.2.2.2.2.1+1) 0 (rO p).2.2.1)=rO p∧cU (goTo p (p.2.2.2.2.1+1) 0 (rO p).2.2.1)=aG8 (rO p):=by
  have en:(p.2.2.2.2.1+1).toNat=i'+1:=by rw [f1];omega
  have a:bO (goTo p (p.2.2.2.2.1+1) 0 (rO p).2.2.1)=rO p:=by
   show (p.2.2.2.1[(p.2.2.2.2.1+1).toNat]?).getD pt0=_
   rw [en,e2];rfl
  refine ⟨?_,a,?_⟩
  ·have hlen:=(bW1.1 e2).1
   show (inR (p.2.2.2.2.1+1) 0 ((p.2.2.2.1.length:Int) - 1)&&inR (0:Int) 0 (((((p.2.2.2.1[(p.2.2.2.2.1+1).toNat]?).getD (0,0,0,[])).2.2.2.length:Nat):Int) - 1))=true
   rw [en,e2,f1,bWw]
   refine ⟨bJ.2 ⟨by omega,by omega⟩,bJ.2 ⟨by omega,?_⟩⟩
   show (0:Int)<=((rO p).2.2.2.length:Int) - 1
   omega
  ·unfold cU
   rw [a]
   show ((rO p).2.2.2[(0:Int).toNat]?).getD h0=_
   rw [show (0:Int).toNat=0 from rfl,hhd];rfl
 obtain ⟨_,_,_,_,_,_,g⟩:=gO hn.1
 rw [g,hn.2.2,← hj.2,hlt,← f5]

theorem aXp {t:den tTo} {now:Int}: ∀ (n:Nat) (p:den tPk),wfP t p.2.2.2.1=true→p.2.2.2.2.1+(n:Int)=(p.2.2.2.1.length:Int)→(goC t now n p).1=0→(dL (goC t now n p).2=false∨fX (goC t now n p).2=true)∧cW (goC t now n p).2=cW p∧(goC t now n p).2.2.2.2.1=p.2.2.2.1
 | 0,p,hw,hn,h=>by
  exfalso
  obtain ⟨h1,h2⟩:=zI (show dC t now p=0 from h)
  obtain ⟨i,j,f1,_,f3,_⟩:=gO h1
  have :=(bW1.1 f3).1
  have hn:=eqI hn
  have f1:=eqI f1
  omega
 | n+1,p,hw,hn,h=>by
  have hc0:=aKd h
  obtain ⟨h1,h2⟩:=zI hc0
  obtain ⟨s1,s2,_,_,s5,s6⟩:=(sF t p).cur
  have sp:(aT t p).2.2.2.1=p.2.2.2.1:=(sF t p).1
  have si:(aT t p).2.2.2.2.1=p.2.2.2.2.1:=(sF t p).2.1
  unfold goC at h ⊢
  split at h
  ·rename_i hc
   rw [zT hc]
   simp only [bWw,bXx] at hc
   obtain ⟨a1,a2,a3⟩:=bSm (t:=t) (p:=aT t p) (by rw [sp];exact hw) (s1.trans h1) (by rw [s2];exact h2) hc.2.1 hc.2.2
   obtain ⟨b1,b2,b3⟩:=aXp n (adv (aT t p)) (by rw [a3,sp];exact hw) (by rw [a2,a3,si,sp];refine eqI ?_;have hn:=eqI hn;omega) h
   exact ⟨b1,b2.trans (a1.trans s2),b3.trans (a3.trans sp)⟩
  ·rename_i hc
   rw [zS hc]
   refine ⟨?_,s2,sp⟩
   rw [hc0] at hc
   show dL (aT t p)=false∨fX (aT t p)=true
   cases hl:dL (aT t p) with
   | false=>exact .inl rfl
   | true=>
    right
    rw [hl] at hc
    simpa using hc


theorem aSi {t:den tTo} {now:Int} {dead:List Int} {r inn:Int} {p:den tPk} (h:((bS t now dead r inn p).1==0)=true):cX t (remote t r (bS t now dead r inn p).2.1).1=true:=by
 have h:(fwd t r now (rQ t dead r) inn p).1=0:=eq_of_beq (show ((fwd t r now (rQ t dead r) inn p).1==0)=true from h)
 unfold bS
 unfold fwd at h ⊢
 split at h
 ·exact absurd h (show ¬ ((2:Int)=0) by decide)
 rename_i c1
 rw [zS c1]
 split at h
 ·exact absurd h (show ¬ ((3:Int)=0) by decide)
 rename_i c2
 rw [zS c2]
 split at h
 ·rename_i c3;simp only [bXx,beq_eq_false_iff_ne] at c3;exact absurd h c3
 rename_i c3
 rw [zS c3]
 split at h
 ·split at h<;>first | exact absurd h (show ¬ ((1:Int)=0) by decide) | exact absurd h (show ¬ ((2:Int)=0) by decide)
 rename_i c4
 rw [zS c4]
 split at h
 ·exact absurd h (show ¬ ((6:Int)=0) by decide)
 rename_i c5
 rw [zS c5]
 split at h
 ·exact absurd h (show ¬ ((7:Int)=0) by decide)
 rename_i c6
 rw [zS c6]
 simp only [bYa,bXx,not_or,Bool.not_eq_false,beq_iff_eq] at c1 c3 c4
 obtain ⟨v1,v2,v3⟩:=c1
 have hw:wfP t p.2.2.2.1=true:=by
  unfold xU at v2
  rw [bWw] at v2
  exact v2.1
 have hh:cH p=true:=by
  unfold gP at v1
  simp only [bWw] at v1
  exact v1.2.2.1
 obtain ⟨i,j,f1,_,f3,_⟩:=gO hh
 have hlen:=(bW1.1 f3).1
 obtain ⟨b1,b2,b3⟩:=aXp (t:=t) (now:=now) (p.2.2.2.1.length - p.2.2.2.2.1.toNat) p hw (by rw [f1,bW4];refine eqI ?_;omega) c3
 obtain ⟨q1,q2,_⟩:=aFj (t:=t) (now:=now) (p.2.2.2.1.length - p.2.2.2.2.1.toNat) p c3
 show cX t (remote t r (pEg (bO (bQ t now p).2) (cU (bQ t now p).2))).1=true
 have e:bQ t now p=goC t now (p.2.2.2.1.length - p.2.2.2.2.1.toNat) p:=rfl
 have c4:fX (bQ t now p).2=false:=by simpa using c4
 rw [← e] at b1 b2 b3 q1 q2
 generalize (bQ t now p).2=q at *
 have hl:dL q=false:=b1.elim id fun h=>by rw [c4] at h;cases h
 obtain ⟨a,b,g1,g2,g3,g4,g5⟩:=gO q1
 have b3:(q.2.2.2.1:lPp)=p.2.2.2.1:=b3
 have g3':(p.2.2.2.1:lPp)[a]? =some (bO q):=by rw [← b3];exact g3
 obtain ⟨w1,_⟩:=aRu hw g3'
 have hb:=(bW1.1 g4).1
 have hb2:b+1<(bO q).2.2.2.length:=by
  unfold dL at hl
  rw [g2,beq_eq_false_iff_ne] at hl
  have hl: ¬ ((b:Int)=((bO q).2.2.2.length:Int) - 1):=hl
  omega
 obtain ⟨y1,y2⟩:=bKa w1 (bWu hb2)
 rcases y2 with y2 | y2
 ·omega
 ·rw [show b+1 - 1=b by omega,g4] at y2
  unfold aIn at y2
  simp only [bWw,beq_iff_eq,bXs] at y2
  have er:r=(cU q).1:=by
   have :=v3
   rw [← g5,b2]
   exact this.symm
  rw [er,y2.2.1]
  exact y1

theorem aB5 {w:den tNw} {t:den tTo} {now:Int} {dead:List Int} {r inn:Int} {p:den tPk} (h:rU w p):rU w (bS t now dead r inn p).2.2.1:=by
 obtain ⟨i,j,b,e⟩:=aNe t r now (rQ t dead r) inn p
 unfold bS
 rw [e]
 exact h.goTo i j b

theorem aSy {t:den tTo} {w:den tNw} {r inn:Int} {p:den tPk} (h:dM t w) (hg:rU w p):dM t (proc0 w r inn p):=by
 unfold proc0
 split
 ·rename_i hc
  exact h.send (aB5 hg) (by rw [← h.top];exact aSi hc)
 ·split
  ·exact h.tell (aB5 hg) r
  ·exact h.drop

theorem bGs {t:den tTo} {w:den tNw} {r:Int} {p:den tPk} (h:dM t w) (hg:rU w p):dM t (xS w r p):=by
 unfold xS
 split
 ·exact h
 ·rename_i hc
  rcases aFv (aU w) r p.2.1 with hf | ⟨k,x,hf,hx⟩
  ·rw [hf] at hc;exact absurd (by decide) hc
  ·have hba:vT w k=x:=by unfold vT;rw [hx];rfl
   rw [hf,bW4,hba]
   have hk:=(bW1.1 hx).1
   have hkf:k<(aB w).length:=by rw [← h.lenB];exact hk
   have hfl:(aB w)[k]? =some (aB w)[k]:=bWu hkf
   obtain ⟨d1,d2⟩:=bA0 hfl hx hg (h.flow k _ x hfl hx)
   obtain ⟨b1,b2⟩:=h.box hx d2 (fun f hf'=>by
    have :some f=some (aB w)[k]:=hf'.symm.trans hfl
    injection this with this
    rw [this];exact d1)
   split
   ·rename_i ha
    refine aSy b1 (bKz b1 ⟨_,hfl⟩ ?_ ha (hg.grow b2))
    show ((aU w).set k (dE x p))[k]? =_
    rw [bY7 hk]
   ·exact b1

theorem aSs {t:den tTo} {w:den tNw} {r inn:Int} {p:den tPk} (h:dM t w) (hg:bJ6 w p):dM t (fC w r inn p):=by
 cases hv:gP p with
 | false=>rw [aSr hv];exact h.drop
 | true=>
  have hg:=hg hv
  unfold fC
  split
  ·rename_i hc
   exact h.send (aB5 hg) (by rw [← h.top];exact aSi hc)
  ·split
   ·split
    ·exact bGs h (aB5 hg)
    ·exact h.tell (aB5 hg) r
   ·split
    ·unfold aB8
     split
     ·exact (aSy h (aJ2 rfl)).drop
     ·exact (h.tell (aJ2 rfl) r).drop
    ·exact h.drop

theorem aS6 (f:den tFl): ∃ c wt:Int,(aF f).1=pN f c wt∧((aF f).2.2=true→(aF f).2.1=rH (pN f c wt)∧uI (pN f c wt)=true):=by
 unfold aF
 split
 ·rename_i hs
  split
  ·exact ⟨_,_,rfl,fun _=>⟨rfl,hs⟩⟩
  ·split
   ·exact ⟨_,_,rfl,fun h=>⟨rfl,h⟩⟩
   ·exact ⟨_,_,rfl,fun h=>by cases h⟩
 ·exact ⟨_,_,rfl,fun h=>by cases h⟩


theorem dM.set {t:den tTo} {w:den tNw} (h:dM t w) {k:Nat} {f g:den tFl} (hf:(aB w)[k]? =some f) (e1:g.1=f.1) (e2:g.2.1=f.2.1) (e3: ∀ (s:Nat) (m:List Int),f.2.2.2.2.1[s]? =some m→g.2.2.2.2.1[s]? =some m) (e4: ∀ x,vX t f x→vX t g x):dM t (cT w ((aB w).set k g)):=by
 refine h.map (by simp) fun j f' hf'=> ?_
 rw [bY5] at hf'
 split at hf'
 ·rename_i e
  subst e
  rw [zT (bW1.1 hf).1] at hf'
  injection hf' with hf'
  subst hf'
  exact ⟨f,hf,e1,e2,e3,fun x _=>e4 x⟩
 ·exact ⟨f',hf',rfl,rfl,fun _ _ h=>h,fun x _ h=>h⟩

theorem bF1 {t:den tTo} {w:den tNw} {k:Nat} {g:den tFl} (h:dM t w) (hg:(aB w)[k]? =some g) (hs:uI g=true):rU w (rH g):=by
 have hk:k<(aU w).length:=by rw [h.lenB];exact (bW1.1 hg).1
 have hfi:=h.flow k g _ hg (bWu hk)
 have hs':=hs
 unfold uI at hs'
 rw [bWw] at hs'
 obtain ⟨a0,a1⟩:=bJ.1 hs'.1
 obtain ⟨b0,b1⟩:=bJ.1 hs'.2
 have hc:g.2.2.2.2.2.2.1.toNat<g.2.2.2.2.2.1.length:=by omega
 have ha:g.2.2.2.1.toNat<g.2.2.2.2.1.length:=by omega
 have hpth:g.2.2.2.2.2.1[g.2.2.2.2.2.2.1.toNat]? =some (g.2.2.2.2.2.1[g.2.2.2.2.2.2.1.toNat]'hc):=bWu hc
 have hmsg:g.2.2.2.2.1[g.2.2.2.1.toNat]? =some (g.2.2.2.2.1[g.2.2.2.1.toNat]'ha):=bWu ha
 obtain ⟨p1,p2⟩:=hfi.paths _ (bW6 hpth)
 have he:=aQn p1 p2
 have e:rH g=aDp 1 (g.2.2.2.2.2.1[g.2.2.2.2.2.2.1.toNat]'hc) g.2.2.1 g.2.2.2.1 (g.2.2.2.2.1[g.2.2.2.1.toNat]'ha):=by
  unfold rH
  rw [zT hs,hpth,hmsg];rfl
 rw [e]
 intro j f x hf hx
 refine ⟨fun _ a b=> ?_,fun a=>absurd a (show ¬ ((1:Int)=2) by decide)⟩
 have a:(ends (g.2.2.2.2.2.1[g.2.2.2.2.2.2.1.toNat]'hc)).1=f.1:=a
 have b:(ends (g.2.2.2.2.2.1[g.2.2.2.2.2.2.1.toNat]'hc)).2=f.2.1:=b
 rw [he] at a b
 have hj:k=j:=h.one hg hf a b
 subst hj
 have :some g=some f:=hg.symm.trans hf
 injection this with this
 subst this
 exact ⟨p1,p2,g.2.2.2.1.toNat,(Int.toNat_of_nonneg b0).symm,hmsg⟩

theorem aSh {t:den tTo} {w:den tNw} (k:Nat) (h:dM t w):dM t (stepT k w):=by
 unfold stepT
 split
 ·rename_i f hf
  obtain ⟨c,wt,e1,e2⟩:=aS6 f
  have hset:dM t (cT w ((aB w).set k (aF f).1)):=by
   refine h.set hf (by rw [e1];rfl) (by rw [e1];rfl) (fun s m hm=>by rw [e1];exact hm) fun x hx=> ?_
   have hv:=aLf hx.val
   rw [e1] at hv ⊢
   exact ⟨hv,hx.src,hx.dst,hx.xAS,hx.xFrom,hx.next,hx.recv,hx.len,hx.ack,hx.paths⟩
  split
  ·rename_i hb
   obtain ⟨g1,g2⟩:=e2 hb
   rw [← e1] at g1 g2
   refine aSs hset fun _=> ?_
   rw [g1]
   refine bF1 hset (k:=k) ?_ g2
   show ((aB w).set k _)[k]? =_
   rw [bY7 (bW1.1 hf).1]
  ·exact hset
 ·exact h

theorem aSu {t:den tTo}: ∀ (n k:Nat) {w:den tNw},dM t w→dM t (tickL k n w)
 | 0,_,_,h=>h
 | n+1,k,_,h=>aSu n (k+1) (aSh k h)

theorem bFf {t:den tTo} {w:den tNw} (h:dM t w):dM t (pP w):=by
 unfold pP
 split
 ·exact h
 ·exact aSu _ _ (h.same (w':=aEl w) rfl rfl rfl fun y hy=> .inl hy)

theorem bQg {t:den tTo} {w:den tNw} {k:Nat} {f:den tFl} {b:List Int} (h:dM t w) (hf:(aB w)[k]? =some f):dM t (cT w ((aB w).set k (aA8 f b))):=by
 unfold aA8
 split
 ·rename_i hv
  refine h.set hf rfl rfl (fun s m hm=> ?_) fun x hx=> ?_
  ·show (f.2.2.2.2.1++[b])[s]? =some m
   rw [bZz (bW1.1 hm).1];exact hm
  ·refine ⟨hv,hx.src,hx.dst,hx.xAS,hx.xFrom,hx.next,?_,?_,hx.ack,hx.paths⟩
   ·show x.2.2.2=(f.2.2.2.2.1++[b]).take _
    rw [List.take_append_of_le_length hx.len];exact hx.recv
   ·show x.2.2.2.length<=(f.2.2.2.2.1++[b]).length
    have :=hx.len
    rw [bXp];omega
 ·exact h.set hf rfl rfl (fun _ _ h=>h) fun _ h=>h

theorem bGk {t:den tTo} {w:den tNw} {e:den fZ} (h:dM t w) (hb: ∀ x∈aR w,fY x.2.2) (hp:fY e.2.2.2.2.2) (h7:(e.1==(7:Int))=true) (hh:harm w e=true):bJ6 w e.2.2.2.2.2:=by
 intro hv
 unfold harm tS at hh
 rw [h7,hv] at hh
 cases h3:(e.2.2.2.2.2.1==(3:Int)) with
 | true=>exact aJ2 (eq_of_beq h3)
 | false=>
  rw [h3] at hh
  simp only [bWx,bYm,zY] at hh
  cases ha:w.2.2.2.2.2.1.all (fun x=> !aAw x.2.2 e.2.2.2.2.2) with
  | true=>
   rw [ha,zZ,bXk] at hh
   intro k f x hf hx
   have :=hh f (bW6 hf)
   unfold aAe at this
   refine ⟨fun _ a b=> ?_,fun _ a b=> ?_⟩
   ·rw [a,b] at this;simp at this
   ·rw [a,b] at this;simp at this
  | false=>
   rw [List.all_eq_false] at ha
   obtain ⟨x,hx,he⟩:=ha
   have hx:x∈aR w:=hx
   have he:aAw x.2.2 e.2.2.2.2.2=true:=by simpa using he
   have :=bIb (hb x hx) hp he
   rw [← this]
   exact h.good x hx (by rw [this];exact hv)

end Go.Proofs.YtecighmpdcffcaaGreat
