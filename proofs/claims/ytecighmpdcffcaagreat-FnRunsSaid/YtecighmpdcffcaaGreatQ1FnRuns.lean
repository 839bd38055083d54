/-
  Facts and plain laws: what the functions compute, in plain words. Conditions: as each says.
-/
import Derived.Test.YtecighmpdcffcaaGreatQ0FnRuns
open Nat renaming le_trans→bY8,le_refl→bZq,succ_mul→bZ8,mul_le_mul_right→cAl,zero_add→bZ3,le_of_ble_eq_true→cB7,zero_le→bZt
open Bool renaming false_eq_true→bZd,false_and→bZu,and_self→cA9,and_false→cA6,eq_iff_iff→bZy,and_eq_true→bZb,not_eq_true'→cAa,or_eq_true→cAm,not_true→bY9,or_self→cAx,not_false→bZj,or_true→cA8
open Sum renaming elim_inl→cAc,elim_inr→cBs,inl→bY6,inr→bY5
open List renaming getElem?_eq_some_iff→bZf,mem_of_getElem?→bZk,map_cons→bZv,length_cons→cAb,length→bZo,mem_append→bZh,mem_singleton→bZg,mem_map→bZe,length_set→cA5,mem_or_eq_of_mem_set→cBz,length_filter_le→cBu,getElem?_eq_getElem→bY7,getElem_mem→bZl,getElem?_cons_zero→cB0,mem_cons→bZc,pairwise_iff_getElem→cA2,mem_cons_of_mem→bZm,filter_cons→cB8,mem_iff_getElem?→cB9,mem_filter→bZr,length_append→bZ5,length_singleton→cAt,pairwise_append→cCl,getElem?_set_self→cCa,mem_of_mem_take→cAq,mem_of_mem_drop→cAv,not_mem_nil→bZw,take_append_drop→cAr,all_eq_true→bZx,getElem?_take→cAk,length_take→cAh,length_drop→cA4,append_nil→cAf,drop_eq_getElem_cons→cCi,length_map→cAe,length_nil→cBk,map_append→cBy,getLast?_concat→cBt,dropLast_concat→cCk
open Int renaming toNat_natCast→bZi,eq_ofNat_of_zero_le→bZ1,le_refl→cA1,lt_irrefl→bZp
open Array renaming length_toList→cBx
open Option renaming map_eq_some_iff→bZ2
set_option linter.unusedVariables false
set_option linter.unusedSimpArgs false
set_option maxRecDepth 100000
namespace Go.Proofs.YtecighmpdcffcaaGreat
open Go.Ab Go.V
theorem aRl {w:den tNw} {r inn:Int} {p:den tPk} (h:aBx w) (hp:aCk p) (hk:(p.1==1)=false):gP w r inn p=some (cB (proc0 w r inn p)):=by
 have hp2:tot tPt p.2.2.2.1<=1073741824:=aIs hp.sz
 have hs:=hp.step (nT w) (aQ w) (aK w) r inn
 have hkeep:=aE0 w.1 r w.2.2.2.1 (uK w.1 w.2.2.2.2.1 r) inn p
 have hval:=aL0 (t:=w.1) (r:=r) (now:=w.2.2.2.1) (dead:=uK w.1 w.2.2.2.2.1 r) (inn:=inn) (p:=p)
 unfold gP dY.b aI aC4 eE pj2 pj3 cO aN bD bH zz4 zz5 zz6 zz7 zz8 zz9
 simp only [aM,bAm h.links h.dead,bOc h.as (bY8 h.links (by decide)) (bY8 hp.sz (by decide)) hp2,aA,aV,bJ,aZ,aY,bA,hk]
 rw [show fwd w.1 r w.2.2.2.1 (uK w.1 w.2.2.2.2.1 r) inn p=cJ (nT w) (aQ w) (aK w) r inn p from rfl] at hkeep hval ⊢
 unfold proc0
 generalize cJ (nT w) (aQ w) (aK w) r inn p=v at hs hkeep hval
 have hback:(((fwS v).2.2.1,(fwS v).2.2.2.1,(fwS v).2.2.2.2.1,(fwS v).2.2.2.2.2.2.2.2.2.2.1,(fwS v).2.2.2.2.2.1,(fwS v).2.2.2.2.2.2.1,(fwS v).2.2.2.2.2.2.2.1,(fwS v).2.2.2.2.2.2.2.2.1,(fwS v).2.2.2.2.2.2.2.2.2.1,(fwS v).2.2.2.2.2.2.2.2.2.2.2):den tPk)=v.2.2.1:=rfl
 rw [show (fwS v).1=v.1 from rfl,show (fwS v).2.1=v.2.1 from rfl]
 cases c1:v.1==1
 ·cases c0:v.1==0
  ·cases c7:v.1==7
   ·simp only [zY,aA,bZd,zU,cAc];rfl
   ·simp only [zZ,zY,aA,bZd,zU,cAc];rfl
  ·unfold sM
   rw [hkeep.2.2.1]
   simp only [zZ,zY,zV,aGq (t:=w.1) (bY8 h.links (by decide)),aZ8 h.res h.use,aA]
   cases ct:(sB w.2.2.1 p.2.2.2.2.2.2.2.1 r v.2.1 w.2.2.2.1).2.1
   ·simp only [zY,aA,bZu,bZd,zU,cAc];rfl
   ·by_cases hl:(aS w).length<150
    ·have h150:decide ((w.2.2.2.2.2.1.length:Int)<150)=true:=zX (by have :w.2.2.2.2.2.1.length<150:=hl;omega)
     rw [zX hl]
     simp only [zZ,aA,h150,cA9,zV,aD (b:=128) (n:=w.2.2.2.2.2.1.length) (m:=1) (by decide) (show (aS w).length+1<=_ by omega),cBs]
     rfl
    ·have h150:decide ((w.2.2.2.2.2.1.length:Int)<150)=false:=zW (by have : ¬ w.2.2.2.2.2.1.length<150:=hl;omega)
     rw [zW hl]
     simp only [zZ,zY,aA,h150,cA6,bZd,zU,cAc]
     rfl
 ·have c0:(v.1==0)=false:=by
   have :v.1=1:=by simpa using c1
   rw [this];rfl
  have hv:gX p=true:=hval (by rw [show v.1=1 from by simpa using c1];rfl)
  have hq1:(v.2.2.1.1==1)=false:=by rw [hkeep.1];exact hk
  have hq2:(v.2.2.1.1==2)=false→(v.2.2.1.1==3)=true:=by rw [hkeep.1];exact kinds hv hk
  rw [hback,bRr h hs hq1 hq2]
  simp only [c0,zZ,aA,bZd,zU,zV,cBs]

theorem bT7 {w:den tNw} {r:Int} {p:den tPk} (h:aBx w) (hbn:(bO w).length<=68719476736) (hbx: ∀ x∈bO w,tot tIb x<=1073741824) (hp:aCk p) (hk:(p.1==1)=true):jH w r p=some (cB (aB0 w r p)):=by
 unfold jH jH.b aB0 ixb aI eE pj2 pj3 pj4 pj9 cO aN zz4 zz5 zz6 zz7 zz8 zz9
 simp only [hk,zZ,aS2 hbn,aA]
 rcases aJ2 (bO w) r p.2.1 with hf | ⟨k,x,hf,hx⟩
 ·rw [show jT w.2.2.2.2.2.2.2.1 r p.2.1= -1 from hf]
  rfl
 ·have hlt:=(bZf.1 hx).1
  have hx0:w.2.2.2.2.2.2.2.1[k]? =some x:=hx
  have hxm:=hbx x (bZk hx)
  have hxs:SmB 4294967296 tIb x:=(bF hxm).mono (by decide)
  have hvs:SmB 4294967296 tPk p:=(bF hp.sz).mono (by decide)
  have hd1:decide ((k:Int)<(w.2.2.2.2.2.2.2.1.length:Int))=true:=zX (by have :k<w.2.2.2.2.2.2.2.1.length:=hlt;omega)
  have hd2:decide (k<w.2.2.2.2.2.2.2.1.length)=true:=zX hlt
  have hba:aAd w k=x:=by unfold aAd;rw [hx];rfl
  rw [show jT w.2.2.2.2.2.2.2.1 r p.2.1=(k:Int) from hf,zW (show ¬ (k:Int)<0 by omega),zS (show ¬ (k:Int)<0 by omega),bZi,hba]
  have e1:gP (w.1,w.2.1,w.2.2.1,w.2.2.2.1,w.2.2.2.2.1,w.2.2.2.2.2.1,w.2.2.2.2.2.2.1,w.2.2.2.2.2.2.2.1.set k (eG x p),w.2.2.2.2.2.2.2.2) r 0 (nZ (eG x p) p)=some (cB (proc0 (tZ w k (eG x p)) r 0 (nZ (eG x p) p))):=by
   cases ca:aC7 (eG x p) p with
   | true=>exact aRl (aHo h) (aPp hp) (aP3 ca)
   | false=>exact aRl (aHo h) (aPp hp) (by unfold nZ;rw [ca];rfl)
  simp only [zY,fI,hd1,hd2,zZ,hx0,aA,aM,bRk hxs hvs,bRx (x:=eG x p) (p:=p) (bY8 (aIs hp.sz) (by decide)),aV,bJ,aZ,aY,bA,pkB,e1]
  cases aC7 (eG x p) p<;>rfl

theorem bA1 {w:den tNw} {r inn:Int} {p:den tPk} (h:aBx w) (hbn:(bO w).length<=68719476736) (hbx: ∀ x∈bO w,tot tIb x<=1073741824) (hz:tot tPk p<=536870912) (hb:gE p):dY w r inn p=some (cB (iQ w r inn p)):=by
 have hp:aCk p:=⟨by omega,hb⟩
 have hp2:tot tPt p.2.2.2.1<=1073741824:=aIs hp.sz
 have hs:=hp.step (nT w) (aQ w) (aK w) r inn
 have hkeep:=aE0 w.1 r w.2.2.2.1 (uK w.1 w.2.2.2.2.1 r) inn p
 have hval:=aL0 (t:=w.1) (r:=r) (now:=w.2.2.2.1) (dead:=uK w.1 w.2.2.2.2.1 r) (inn:=inn) (p:=p)
 have hsev:=bIp (t:=w.1) (r:=r) (now:=w.2.2.2.1) (dead:=uK w.1 w.2.2.2.2.1 r) (inn:=inn) (p:=p)
 unfold dY dY.b aI aC4 eE pj2 pj3 cO aN bD bH zz4 zz5 zz6 zz7 zz8 zz9
 simp only [aM,bAm h.links h.dead,bOc h.as (bY8 h.links (by decide)) (bY8 hp.sz (by decide)) hp2,aA,aV,bJ,aZ,aY,bA]
 rw [show fwd w.1 r w.2.2.2.1 (uK w.1 w.2.2.2.2.1 r) inn p=cJ (nT w) (aQ w) (aK w) r inn p from rfl] at hkeep hval hsev ⊢
 unfold iQ
 generalize cJ (nT w) (aQ w) (aK w) r inn p=v at hs hkeep hval hsev
 have hback:(((fwS v).2.2.1,(fwS v).2.2.2.1,(fwS v).2.2.2.2.1,(fwS v).2.2.2.2.2.2.2.2.2.2.1,(fwS v).2.2.2.2.2.1,(fwS v).2.2.2.2.2.2.1,(fwS v).2.2.2.2.2.2.2.1,(fwS v).2.2.2.2.2.2.2.2.1,(fwS v).2.2.2.2.2.2.2.2.2.1,(fwS v).2.2.2.2.2.2.2.2.2.2.2):den tPk)=v.2.2.1:=rfl
 rw [show (fwS v).1=v.1 from rfl,show (fwS v).2.1=v.2.1 from rfl]
 cases c1:v.1==1
 ·cases c0:v.1==0
  ·cases c7:v.1==7
   ·simp only [zY,aA,bZd,zU,cAc,bZu];rfl
   ·cases ck:p.1==1
    ·simp only [zZ,zY,aA,bZd,zU,cAc,cA6];rfl
    ·obtain ⟨hz0,hd0⟩:=hsev (by simpa using c7)
     have hn:aCk (cF r (aQ w) v.2.2.2 p):=bAi hz
     have ht1:tot tPt (sD p)<=34359738368:=bY8 (aDa p) (bY8 hp2 (by decide))
     have hlen:decide (((hU (sD p)).length:Int)>1)=decide ((hU (sD p)).length>1):=by rw [bZy];simp only [zR,gt_iff_lt];omega
     have e1:gP w r 0 ((pkR (cF r w.2.2.2.1 v.2.2.2 p)).1,(pkR (cF r w.2.2.2.1 v.2.2.2 p)).2.1,(pkR (cF r w.2.2.2.1 v.2.2.2 p)).2.2.1,(pkR (cF r w.2.2.2.1 v.2.2.2 p)).2.2.2.2.2.2.2.2.1,(pkR (cF r w.2.2.2.1 v.2.2.2 p)).2.2.2.1,(pkR (cF r w.2.2.2.1 v.2.2.2 p)).2.2.2.2.1,(pkR (cF r w.2.2.2.1 v.2.2.2 p)).2.2.2.2.2.1,(pkR (cF r w.2.2.2.1 v.2.2.2 p)).2.2.2.2.2.2.1,(pkR (cF r w.2.2.2.1 v.2.2.2 p)).2.2.2.2.2.2.2.1,(pkR (cF r w.2.2.2.1 v.2.2.2 p)).2.2.2.2.2.2.2.2.2)=some (cB (proc0 w r 0 (cF r (aQ w) v.2.2.2 p))):=aRl h hn rfl
     have e2:nN w r ((pkR (cF r w.2.2.2.1 v.2.2.2 p)).1,(pkR (cF r w.2.2.2.1 v.2.2.2 p)).2.1,(pkR (cF r w.2.2.2.1 v.2.2.2 p)).2.2.1,(pkR (cF r w.2.2.2.1 v.2.2.2 p)).2.2.2.2.2.2.2.2.1,(pkR (cF r w.2.2.2.1 v.2.2.2 p)).2.2.2.1,(pkR (cF r w.2.2.2.1 v.2.2.2 p)).2.2.2.2.1,(pkR (cF r w.2.2.2.1 v.2.2.2 p)).2.2.2.2.2.1,(pkR (cF r w.2.2.2.1 v.2.2.2 p)).2.2.2.2.2.2.1,(pkR (cF r w.2.2.2.1 v.2.2.2 p)).2.2.2.2.2.2.2.1,(pkR (cF r w.2.2.2.1 v.2.2.2 p)).2.2.2.2.2.2.2.2.2)=some (cB (wT w r (cF r (aQ w) v.2.2.2 p))):=aS6 rfl h.flows h.flowsN hn.sz hn.by_
     simp only [zZ,zY,aA,bZd,zU,cA9,zV,bVp (t:=w.1) (now:=w.2.2.2.1) (p:=p) (bY8 hp.sz (by decide)) hz0,← hd0,bSc (t:=w.1) (r:=r) (now:=w.2.2.2.1) (d:=v.2.2.2) (bY8 hp.sz (by decide)),aW3 (gB (p:=p) (by omega)),aV,bJ,aZ,aY,bA,aGd ht1,hlen,e1,e2]
     unfold aEv
     cases hd:decide ((hU (sD p)).length>1)
     ·rw [zS (of_decide_eq_false hd)];rfl
     ·rw [zT (of_decide_eq_true hd)];rfl
  ·unfold sM
   rw [hkeep.2.2.1]
   simp only [zZ,zY,zV,aGq (t:=w.1) (bY8 h.links (by decide)),aZ8 h.res h.use,aA]
   cases ct:(sB w.2.2.1 p.2.2.2.2.2.2.2.1 r v.2.1 w.2.2.2.1).2.1
   ·simp only [zY,aA,bZu,bZd,zU,cAc];rfl
   ·by_cases hl:(aS w).length<150
    ·have h150:decide ((w.2.2.2.2.2.1.length:Int)<150)=true:=zX (by have :w.2.2.2.2.2.1.length<150:=hl;omega)
     rw [zX hl]
     simp only [zZ,aA,h150,cA9,zV,aD (b:=128) (n:=w.2.2.2.2.2.1.length) (m:=1) (by decide) (show (aS w).length+1<=_ by omega),cBs]
     rfl
    ·have h150:decide ((w.2.2.2.2.2.1.length:Int)<150)=false:=zW (by have : ¬ w.2.2.2.2.2.1.length<150:=hl;omega)
     rw [zW hl]
     simp only [zZ,zY,aA,h150,cA6,bZd,zU,cAc]
     rfl
 ·have c0:(v.1==0)=false:=by
   have :v.1=1:=by simpa using c1
   rw [this];rfl
  have hv:gX p=true:=hval (by rw [show v.1=1 from by simpa using c1];rfl)
  rw [hback]
  cases ck:p.1==1 with
  | true=>
   rw [bT7 h hbn hbx hs (by rw [hkeep.1];exact ck)]
   simp only [c0,zZ,aA,bZd,zU,zV,cBs]
  | false=>
   have hq1:(v.2.2.1.1==1)=false:=by rw [hkeep.1];exact ck
   have hq2:(v.2.2.1.1==2)=false→(v.2.2.1.1==3)=true:=by rw [hkeep.1];exact kinds hv ck
   rw [bT3 h hs hq1 hq2]
   simp only [c0,zZ,aA,bZd,zU,zV,cBs]

theorem fA (w:den tNw):tot tNw w=(tot (.sl tAS) (nT w).1+tot (.sl tLk) (nT w).2)+((tot (.sl tSg) (nK w).1+tot (.sl tSg) (nK w).2)+((0+(tot (.sl tRs) (nG w).2.1+tot (.sl tUs) (nG w).2.2))+(0+(tot (.sl ti) (aK w)+(tot (.sl tFy) (aS w)+(tot (.sl tFl) (aC w)+(tot (.sl tIb) (bO w)+0))))))):=rfl

theorem aOo {w:den tNw} (h:tot tNw w<=1073741824):aBx w where
 as:=by have :=fA w;have :=eW (t:=tAS) (nT w).1;omega
 links:=by have :=fA w;have :=eW (t:=tLk) (nT w).2;omega
 dead:=by have :=fA w;have :=eW (t:=ti) (aK w);omega
 res:=by have :=fA w;have :=eW (t:=tRs) (nG w).2.1;omega
 use:=by have :=fA w;have :=eW (t:=tUs) (nG w).2.2;omega
 flowsN:=by have :=fA w;have :=eW (t:=tFl) (aC w);omega
 flows:=fun f hf=>by have :=fA w;have :=xJ (t:=tFl) hf;omega

theorem bV5 {w:den tNw} (h:tot tNw w<=1073741824):(bO w).length<=68719476736∧ ∀ x∈bO w,tot tIb x<=1073741824:=
 ⟨by have :=fA w;have :=eW (t:=tIb) (bO w);omega,fun x hx=>by have :=fA w;have :=xJ (t:=tIb) hx;omega⟩

theorem aE1 (w:den tNw):tot tNw (aBc w)=tot tNw w:=rfl

theorem bAc (l:lUs):tot (.sl tUs) l=l.length:=kF rfl

theorem bGa (g:den tSc) (id s d now:Int):tot (.sl tRs) (sB g id s d now).2.2.1=tot (.sl tRs) g.2.1∧tot (.sl tUs) (sB g id s d now).2.2.2<=tot (.sl tUs) g.2.2+1:=by
 have m1:=aTi g.2.2 id s d
 have m2:=aTi g.2.2 0 s d
 rw [bAc,bAc]
 unfold sB
 split
 ·exact ⟨rfl,by simpa using m1⟩
 ·split
  ·exact ⟨rfl,by simpa using m2⟩
  ·exact ⟨rfl,by simp⟩

theorem aUn (w:den tNw) (r eg:Int) (p:den tPk):tot tNw (sM w r eg p)<=tot tNw w+(2+tot tPk p):=by
 unfold sM
 split
 ·obtain ⟨e1,e2⟩:=bGa (nG w) p.2.2.2.2.2.2.2.1 r eg (aQ w)
  rw [fA,fA w]
  simp only [nT,nK,nG,aK,aS,aC,bO] at e1 e2 ⊢
  rw [tO,aGc]
  have e3:tot tFy ((remote w.1 r eg).1,(remote w.1 r eg).2,p)=tot tPk p:=by simp [rX,uP]
  rw [e3]
  omega
 ·rw [aE1];omega

theorem bIa (f:den tFl) (p:den tPk):tot tFl (vF f p)=tot tFl f:=by
 unfold vF
 split<;>rfl

theorem bGk (r:Int) (p:den tPk) (f:den tFl):tot tFl (rS r p f)<=tot tFl f+1:=by
 unfold rS
 split
 ·split
  ·rw [bIa];omega
  ·exact bG2 f p
 ·omega

theorem bBh (r:Int) (p:den tPk): ∀ l:lFl,tot (.sl tFl) (l.map (rS r p))<=tot (.sl tFl) l+l.length
 | []=>by simp
 | f::l=>by
  have h1:=bGk r p f
  have h2:=bBh r p l
  rw [bZv,lM,lM,cAb]
  omega

theorem aGy (w:den tNw) (l:lFl):tot tNw (dG w l)=(tot (.sl tAS) (nT w).1+tot (.sl tLk) (nT w).2)+((tot (.sl tSg) (nK w).1+tot (.sl tSg) (nK w).2)+((0+(tot (.sl tRs) (nG w).2.1+tot (.sl tUs) (nG w).2.2))+(0+(tot (.sl ti) (aK w)+(tot (.sl tFy) (aS w)+(tot (.sl tFl) l+(tot (.sl tIb) (bO w)+0))))))):=rfl

theorem bC3 (w:den tNw) (k:Nat) (x:den tIb):tot tNw (tZ w k x)=(tot (.sl tAS) (nT w).1+tot (.sl tLk) (nT w).2)+((tot (.sl tSg) (nK w).1+tot (.sl tSg) (nK w).2)+((0+(tot (.sl tRs) (nG w).2.1+tot (.sl tUs) (nG w).2.2))+(0+(tot (.sl ti) (aK w)+(tot (.sl tFy) (aS w)+(tot (.sl tFl) (aC w)+(tot (.sl tIb) ((bO w).set k x)+0))))))):=rfl

theorem aL4 (w:den tNw) (r:Int) (p:den tPk):tot tNw (wT w r p)<=tot tNw w+(aC w).length:=by
 have h:=bBh r p (aC w)
 unfold wT
 rw [aGy,fA w]
 omega

theorem aTu (w:den tNw) (r inn:Int) (p:den tPk):tot tNw (proc0 w r inn p)<=tot tNw w+(2+tot tPk p+(aC w).length):=by
 unfold proc0
 split
 ·have :=aUn w r (cJ (nT w) (aQ w) (aK w) r inn p).2.1 (cJ (nT w) (aQ w) (aK w) r inn p).2.2.1
  have e:tot tPk (cJ (nT w) (aQ w) (aK w) r inn p).2.2.1=tot tPk p:=aNr _ _ _ _ _ _
  omega
 ·split
  ·have :=aL4 w r (cJ (nT w) (aQ w) (aK w) r inn p).2.2.1
   omega
  ·rw [aE1];omega

theorem aRm {t:Ty} {l:List (den t)} {k:Nat} {x y:den t} (h:l[k]? =some x):tot (.sl t) (l.set k y)+tot t x=tot (.sl t) l+tot t y:=by
 induction l generalizing k with
 | nil=>cases h
 | cons z l ih=>
  cases k with
  | zero=>
   have :z=x:=by simpa using h
   subst this
   rw [List.set_cons_zero,lM,lM];omega
  | succ k=>
   have :=ih (k:=k) (by simpa using h)
   rw [List.set_cons_succ,lM,lM];omega

theorem bFz (x:den tIb) (p:den tPk):tot tIb (eG x p)<=tot tIb x+(1+tot tPk p):=by
 have h1:=bHw x p
 have h2:=(aNg (p:=p) (bZq _)).2
 have e: ∀ y:den tIb,tot tIb y=tot (.sl tMs) y.2.2.2:=fun y=>by simp [rX,uP]
 rw [e,e]
 omega

theorem bFp (w:den tNw) (r:Int) (p:den tPk):tot tNw (aB0 w r p)<=tot tNw w+(3+2 * tot tPk p+(aC w).length):=by
 unfold aB0
 split
 ·omega
 ·rcases aJ2 (bO w) r p.2.1 with hf | ⟨k,x,hf,hx⟩
  ·rename_i hc;rw [hf] at hc;exact absurd (by decide) hc
  ·have hba:aAd w k=x:=by unfold aAd;rw [hx];rfl
   rw [hf,bZi,hba]
   have h1:=aRm (t:=tIb) (y:=eG x p) hx
   have h2:=bFz x p
   have h3:tot tNw (tZ w k (eG x p))<=tot tNw w+(1+tot tPk p):=by
    rw [bC3,fA w]
    omega
   split
   ·have h4:=aTu (tZ w k (eG x p)) r 0 (nZ (eG x p) p)
    have h5:=aT6 (eG x p) p
    have h6:(aC (tZ w k (eG x p))).length=(aC w).length:=rfl
    omega
   ·omega

theorem bHz (w:den tNw) (r d:Int) (p:den tPk):tot tNw (aEv w r d p)<=tot tNw w+(20+tot tPk p+(aC w).length):=by
 unfold aEv
 rw [aE1]
 split
 ·have h1:=aTu w r 0 (cF r (aQ w) d p)
  have h2:=aUe r (aQ w) d p
  omega
 ·have :=aL4 w r (cF r (aQ w) d p)
  omega

theorem bHp (w:den tNw) (r inn:Int) (p:den tPk):tot tNw (iQ w r inn p)<=tot tNw w+(20+2 * tot tPk p+(aC w).length):=by
 have e:tot tPk (cJ (nT w) (aQ w) (aK w) r inn p).2.2.1=tot tPk p:=aNr _ _ _ _ _ _
 unfold iQ
 split
 ·have :=aUn w r (cJ (nT w) (aQ w) (aK w) r inn p).2.1 (cJ (nT w) (aQ w) (aK w) r inn p).2.2.1
  omega
 ·split
  ·split
   ·have :=bFp w r (cJ (nT w) (aQ w) (aK w) r inn p).2.2.1
    omega
   ·have :=aL4 w r (cJ (nT w) (aQ w) (aK w) r inn p).2.2.1
    omega
  ·split
   ·have :=bHz w r (cJ (nT w) (aQ w) (aK w) r inn p).2.2.2 p
    omega
   ·rw [aE1];omega

theorem bIm {p:den tPp} (h:aBj p=true):tot tPp p<=8:=by
 unfold aBj aFs at h
 simp only [bZb,zR] at h
 have e:tot tPp p=tot (.sl cH) p.2.2.2:=by simp [rX,uP]
 rw [e,kF rfl]
 exact h.2.2.2.1

theorem bMi {p:den tPt} (h:aHf p=true):tot tPt p<=27:=by
 unfold aHf at h
 rw [bZb,zR] at h
 have key: ∀ l:lPp,l.all aBj=true→tot (.sl tPp) l<=9 * l.length:=by
  intro l
  induction l with
  | nil=>intro _;exact bZq _
  | cons x l ih=>
   intro hl
   rw [List.all_cons,bZb] at hl
   have h1:=bIm hl.1
   have h2:=ih hl.2
   rw [lM,cAb]
   omega
 have :=key p h.2
 have h1:bZo p<=3:=h.1
 show tot (.sl tPp) p<=27
 omega

theorem aQp {p:den tPk} (h:gX p=true):tot tPk p<=67:=by
 have h':=h
 unfold gX at h'
 simp only [bZb,zR] at h'
 have h1:=bMi h'.2.1
 have h2:p.2.2.2.2.2.2.2.2.2.length<=40:=by have :=h'.2.2.2.2.2.2.2.2.2;omega
 have e:tot tPk p=tot tPt p.2.2.2.1+tot (.sl tb) p.2.2.2.2.2.2.2.2.2:=by simp [rX,uP]
 rw [e,kF (t:=tb) rfl]
 omega

theorem aUl {w:den tNw} {r inn:Int} {p:den tPk} (h:gX p=false):iQ w r inn p=aBc w:=by
 have hv:cJ (nT w) (aQ w) (aK w) r inn p=(2,0,p,0):=by
  unfold cJ fwd
  rw [h];rfl
 unfold iQ
 rw [hv]
 rfl

theorem aQa (w:den tNw) (r inn:Int) (p:den tPk):tot tNw (iQ w r inn p)<=tot tNw w+(160+(aC w).length):=by
 cases h:gX p with
 | true=>
  have h1:=bHp w r inn p
  have h2:=aQp h
  omega
 | false=>rw [aUl h,aE1];omega


structure xB (w:den tNw):Prop where
 fly: ∀ x∈aS w,gE x.2.2
 msg: ∀ f∈aC w,∀ m∈f.2.2.2.2.1,tW m

theorem aP5 {w:den tNw} (h:xB w) {r eg:Int} {p:den tPk} (hp:gE p):xB (sM w r eg p)∧(aC (sM w r eg p)).length=(aC w).length:=by
 unfold sM
 split
 ·refine ⟨⟨fun x hx=> ?_,h.msg⟩,rfl⟩
  rcases bZh.1 (show x∈aS w++_ from hx) with hx | hx
  ·exact h.fly x hx
  ·have :x=_:=bZg.1 hx
   subst this
   exact hp
 ·exact ⟨⟨h.fly,h.msg⟩,rfl⟩

theorem bJg (r:Int) (p:den tPk) (f:den tFl):(rS r p f).2.2.2.2.1=f.2.2.2.2.1:=by
 unfold rS
 split
 ·split
  ·exact (aZo f p).1
  ·unfold aAc
   cases p.1==3&&(xD p.2.2.2.2.2.2.2.2.2).2.2.2<;>rfl
 ·rfl

theorem aKz {w:den tNw} (h:xB w) (r:Int) (p:den tPk):xB (wT w r p)∧(aC (wT w r p)).length=(aC w).length:=by
 refine ⟨⟨h.fly,fun f hf m hm=> ?_⟩,by show ((aC w).map _).length=_;simp⟩
 obtain ⟨g,hg,rfl⟩:=bZe.1 (show f∈(aC w).map (rS r p) from hf)
 rw [bJg] at hm
 exact h.msg g hg m hm

theorem aFk {w:den tNw} (h:xB w):xB (aBc w)∧(aC (aBc w)).length=(aC w).length:=⟨⟨h.fly,h.msg⟩,rfl⟩

theorem aN5 {w:den tNw} (h:xB w) (k:Nat) (x:den tIb):xB (tZ w k x)∧(aC (tZ w k x)).length=(aC w).length:=⟨⟨h.fly,h.msg⟩,rfl⟩

theorem aN8 {t:den tTo} {now:Int} {dead:List Int} {r inn:Int} {p:den tPk} (hp:gE p):gE (cJ t now dead r inn p).2.2.1:=fun x hx=>hp x (by unfold cJ at hx;rwa [(aE0 t r now _ inn p).2.2.2] at hx)

theorem aPt {w:den tNw} (h:xB w) {r inn:Int} {p:den tPk} (hp:gE p):xB (proc0 w r inn p)∧(aC (proc0 w r inn p)).length=(aC w).length:=by
 unfold proc0
 split
 ·exact aP5 h (aN8 hp)
 ·split
  ·exact aKz h _ _
  ·exact aFk h

theorem aKd {w:den tNw} (h:xB w) {r inn:Int} {p:den tPk} (hp:gE p):xB (iQ w r inn p)∧(aC (iQ w r inn p)).length=(aC w).length:=by
 unfold iQ
 split
 ·exact aP5 h (aN8 hp)
 ·split
  ·split
   ·unfold aB0
    split
    ·exact ⟨h,rfl⟩
    ·split
     ·obtain ⟨h1,h2⟩:=aN5 h (jT (bO w) r (cJ (nT w) (aQ w) (aK w) r inn p).2.2.1.2.1).toNat (eG (aAd w (jT (bO w) r (cJ (nT w) (aQ w) (aK w) r inn p).2.2.1.2.1).toNat) (cJ (nT w) (aQ w) (aK w) r inn p).2.2.1)
      obtain ⟨h3,h4⟩:=aPt h1 (r:=r) (inn:=0) (p:=nZ (eG (aAd w (jT (bO w) r (cJ (nT w) (aQ w) (aK w) r inn p).2.2.1.2.1).toNat) (cJ (nT w) (aQ w) (aK w) r inn p).2.2.1) (cJ (nT w) (aQ w) (aK w) r inn p).2.2.1) (by
       unfold nZ
       split
       ·exact fun x hx=>by cases hx
       ·exact fun x hx=>by cases hx)
      exact ⟨h3,h4.trans h2⟩
     ·exact aN5 h _ _
   ·exact aKz h _ _
  ·split
   ·unfold aEv
    split
    ·obtain ⟨h1,h2⟩:=aPt h (r:=r) (inn:=0) (p:=cF r (aQ w) (cJ (nT w) (aQ w) (aK w) r inn p).2.2.2 p) (aP0 _)
     obtain ⟨h3,h4⟩:=aFk h1
     exact ⟨h3,h4.trans h2⟩
    ·obtain ⟨h1,h2⟩:=aKz h r (cF r (aQ w) (cJ (nT w) (aQ w) (aK w) r inn p).2.2.2 p)
     obtain ⟨h3,h4⟩:=aFk h1
     exact ⟨h3,h4.trans h2⟩
   ·exact aFk h

def aDg (w:den tNw) (l:lFy):den tNw:=(nT w,nK w,nG w,aQ w,aK w,l,aC w,bO w,dD w)

def bPz (x:den tFy) (w:den tNw):q27:=
 (x.1,x.2.1,x.2.2.1,x.2.2.2.1,x.2.2.2.2.1,x.2.2.2.2.2.1,x.2.2.2.2.2.2.1,x.2.2.2.2.2.2.2.1,x.2.2.2.2.2.2.2.2.1,x.2.2.2.2.2.2.2.2.2.1,x.2.2.2.2.2.2.2.2.2.2.1,x.2.2.2.2.2.2.2.2.2.2.2,cB w)

theorem aQ2 (w:den tNw) (l:lFy):tot tNw (aDg w l)+tot (.sl tFy) (aS w)=tot tNw w+tot (.sl tFy) l:=by
 have e:tot tNw (aDg w l)=(tot (.sl tAS) (nT w).1+tot (.sl tLk) (nT w).2)+((tot (.sl tSg) (nK w).1+tot (.sl tSg) (nK w).2)+((0+(tot (.sl tRs) (nG w).2.1+tot (.sl tUs) (nG w).2.2))+(0+(tot (.sl ti) (aK w)+(tot (.sl tFy) l+(tot (.sl tFl) (aC w)+(tot (.sl tIb) (bO w)+0))))))):=rfl
 rw [e,fA w]
 omega


structure lK (B F:Nat) (w:den tNw):Prop where
 tot:Go.V.tot tNw w<=B
 flows:(aC w).length<=F
 bytes:xB w

theorem lK.mono {B C F:Nat} {w:den tNw} (h:lK B F w) (hb:B<=C):lK C F w:=⟨bY8 h.tot hb,h.flows,h.bytes⟩

theorem bDt {B F:Nat} {w:den tNw} (hk:lK B F w) {r inn:Int} {p:den tPk} (hp:gE p):lK (B+(160+F)) F (iQ w r inn p):=by
 obtain ⟨h1,h2⟩:=aKd hk.bytes (r:=r) (inn:=inn) hp
 have h3:=aQa w r inn p
 have h4:=hk.tot
 have h5:=hk.flows
 exact ⟨by omega,by omega,h1⟩

theorem aGi {B F:Nat} {w:den tNw} (h:lK B F w) (hB:B<=1073741824):aBx w∧(bO w).length<=68719476736∧ ∀ x∈bO w,tot tIb x<=1073741824:=
 ⟨aOo (bY8 h.tot hB),bV5 (bY8 h.tot hB)⟩

theorem bBc {B F:Nat} {w:den tNw} (h:lK B F w) (hB:B<=1073741824):(aS w).length<=1073741824:=by
 have :=fA w
 have :=eW (t:=tFy) (aS w)
 have :=h.tot
 omega

theorem bHh (f:den tFl):(aF f).1.2.2.2.2.1=f.2.2.2.2.1:=by
 unfold aF
 repeat' split
 all_goals rfl

theorem aZd {f:den tFl} (h: ∀ m∈f.2.2.2.2.1,tW m):gE (wR f):=by
 unfold wR
 split
 ·intro x hx
  have hx:x∈(f.2.2.2.2.1[f.2.2.2.1.toNat]?).getD []:=hx
  cases hm:f.2.2.2.2.1[f.2.2.2.1.toNat]? with
  | none=>rw [hm] at hx;cases hx
  | some m=>rw [hm] at hx;exact h m (bZk hm) x hx
 ·intro x hx;cases hx

theorem aZi {f:den tFl} (h: ∀ m∈f.2.2.2.2.1,tW m):gE (aF f).2.1:=by
 unfold aF
 repeat' split
 all_goals first
  | exact aZd h
  | (intro x hx;cases hx)


def stepT (k:Nat) (w:den tNw):den tNw:=match (aC w)[k]? with
 | some f=>if (aF f).2.2 then iQ (dG w ((aC w).set k (aF f).1)) (aF f).1.1 0 (aF f).2.1 else dG w ((aC w).set k (aF f).1)
 | none=>w

def tickL:Nat→Nat→den tNw→den tNw
 | _,0,w=>w
 | k,n+1,w=>tickL (k+1) n (stepT k w)

def aH4 (w:den tNw):den tNw:=(nT w,nK w,((nG w).1,aEx (nG w).2.1 (wr (aQ w+1)),[]),wr (aQ w+1),aK w,aS w,aC w,bO w,dD w)

def uI (w:den tNw):den tNw:=if aQ w>=1000000 then w else tickL 0 (aC w).length (aH4 w)

theorem aMa {B F:Nat} {w:den tNw} {k:Nat} {f:den tFl} (hk:lK B F w) (hf:(aC w)[k]? =some f):lK B F (dG w ((aC w).set k (aF f).1))∧tot tPk (aF f).2.1<=B∧gE (aF f).2.1:=by
 have hm:=bZk hf
 have h1:=aRm (t:=tFl) (y:=(aF f).1) hf
 have h2:=(aTj f).1
 have h3:=(aTj f).2
 have h4:=xJ (t:=tFl) hm
 have h5:=aGy w ((aC w).set k (aF f).1)
 have h6:=fA w
 have h7:=hk.tot
 refine ⟨⟨by omega,?_,⟨hk.bytes.fly,fun g hg m hmm=> ?_⟩⟩,by omega,aZi (hk.bytes.msg f hm)⟩
 ·show ((aC w).set k _).length<=F
  rw [cA5];exact hk.flows
 ·rcases cBz (show g∈(aC w).set k (aF f).1 from hg) with hg | rfl
  ·exact hk.bytes.msg g hg m hmm
  ·rw [bHh] at hmm
   exact hk.bytes.msg f hm m hmm

theorem aPy {B F:Nat} {w:den tNw} (k:Nat) (hk:lK B F w):lK (B+(160+F)) F (stepT k w)∧(aC (stepT k w)).length=(aC w).length:=by
 unfold stepT
 split
 ·rename_i f hf
  obtain ⟨h1,h2,h3⟩:=aMa hk hf
  have hl:(aC (dG w ((aC w).set k (aF f).1))).length=(aC w).length:=by show ((aC w).set k _).length=_;rw [cA5]
  split
  ·exact ⟨bDt h1 h3,(aKd h1.bytes h3).2.trans hl⟩
  ·exact ⟨h1.mono (by omega),hl⟩
 ·exact ⟨hk.mono (by omega),rfl⟩

theorem aQy {F:Nat}: ∀ (n k:Nat) {B:Nat} {w:den tNw},lK B F w→lK (B+n * (160+F)) F (tickL k n w)∧(aC (tickL k n w)).length=(aC w).length
 | 0,k,B,w,hk=>⟨hk.mono (by omega),rfl⟩
 | n+1,k,B,w,hk=>by
  obtain ⟨h1,h2⟩:=aPy k hk
  obtain ⟨h3,h4⟩:=aQy n (k+1) h1
  unfold tickL
  exact ⟨h3.mono (by rw [bZ8];omega),h4.trans h2⟩

theorem bJa (l:lRs) (now:Int):(aEx l now).length<=l.length:=cBu _ _

theorem aFu {B F:Nat} {w:den tNw} (hk:lK B F w):lK B F (aH4 w):=by
 refine ⟨?_,hk.flows,⟨hk.bytes.fly,hk.bytes.msg⟩⟩
 have h1:=hk.tot
 have h2:=fA w
 have h3:=bJa (nG w).2.1 (wr (aQ w+1))
 have e:tot tNw (aH4 w)=(tot (.sl tAS) (nT w).1+tot (.sl tLk) (nT w).2)+((tot (.sl tSg) (nK w).1+tot (.sl tSg) (nK w).2)+((0+(tot (.sl tRs) (aEx (nG w).2.1 (wr (aQ w+1)))+tot (.sl tUs) []))+(0+(tot (.sl ti) (aK w)+(tot (.sl tFy) (aS w)+(tot (.sl tFl) (aC w)+(tot (.sl tIb) (bO w)+0))))))):=rfl
 have r1: ∀ l:lRs,tot (.sl tRs) l=l.length:=fun l=>kF rfl
 have r2:=r1 (aEx (nG w).2.1 (wr (aQ w+1)))
 have r3:=r1 (nG w).2.1
 rw [aD7] at e
 omega

theorem bDm {B F:Nat} {w:den tNw} (hk:lK B F w):lK (B+F * (160+F)) F (uI w):=by
 unfold uI
 split
 ·exact hk.mono (by omega)
 ·have :=(aQy (aC w).length 0 (aFu hk)).1
  refine this.mono ?_
  have h1:(aC w).length * (160+F)<=F * (160+F):=cAl _ hk.flows
  omega

theorem aTw {F:Nat} {S R:Type} (enc:Nat→den tNw→S) (out:den tNw→R) (N:Nat) {step:S→Option (S⊕R)}
  (H1: ∀ (k:Nat) (w:den tNw),k<N→(aC w).length=N→lK 536870912 F w→step (enc k w)=some (.inl (enc (k+1) (stepT k w))))
  (H2: ∀ (w:den tNw),(aC w).length=N→step (enc N w)=some (.inr (out w))):
  ∀ (m k B:Nat) (w:den tNw),k+m=N→(aC w).length=N→lK B F w→B+m * (160+F)<=536870912→aB step (enc k w)=some (out (tickL k m w)):=by
 intro m
 induction m with
 | zero=>
  intro k B w hk hn hw hB
  have :k=N:=by omega
  subst this
  exact bY (H2 w hn)
 | succ m ih=>
  intro k B w hk hn hw hB
  rw [bZ8] at hB
  obtain ⟨h1,h2⟩:=aPy k hw
  rw [dT (H1 k w (by omega) hn (hw.mono (by omega)))]
  exact ih (k+1) _ _ (by omega) (h2.trans hn) h1 (by omega)

theorem bS0 {B F:Nat} {w0:den tNw} (hF:F<=1000) (hk:lK B F w0) (hB:B+F * (160+F)<=536870912):nC w0=some (!decide (aQ w0>=1000000),cB (uI w0)):=by
 have hres:(nG w0).2.1.length<=1073741824:=(aOo (bY8 hk.tot (by omega))).res
 unfold nC uI ixb aKy eE pj3 pj9 aN bD bH cV jM sI xO aBo aDe aC6 zz4 zz5 zz6 zz7 zz8 zz9
 by_cases hnow:aQ w0>=1000000
 ·rw [zT hnow,zX (p:=w0.2.2.2.1>=1000000) hnow]
  rfl
 ·rw [zS hnow,zW (p:=w0.2.2.2.1>=1000000) hnow,zY]
  unfold wC
  simp only [bJx hres,aA]
  refine Eq.trans (congrArg (fun o=>Option.bind o _) (aTw (F:=F) (fun k w=>((k:Int),cB w)) cB (aC w0).length (fun k w hk' hn hw=> ?_) (fun w hn=> ?_) (aC w0).length 0 B (aH4 w0) (bZ3 _) rfl (aFu hk) (by have :(aC w0).length * (160+F)<=F * (160+F):=cAl _ hk.flows;omega))) ?_
  ·obtain ⟨f,hf⟩: ∃ f,(aC w)[k]? =some f:=⟨_,bY7 (show k<(aC w).length by omega)⟩
   obtain ⟨k1,k2,k3⟩:=aMa hw hf
   obtain ⟨n1,n2,n3⟩:=aGi k1 (by decide)
   have hft:tot tFl f<=34359738368:=by have :=xJ (t:=tFl) (bZk hf);have :=fA w;have :=hw.tot;omega
   have hd:decide ((k:Int)<(w0.2.2.2.2.2.2.1.length:Int))=true:=zX (by have :k<w0.2.2.2.2.2.2.1.length:=(by exact hk');omega)
   have hd1:decide ((k:Int)<((cB w).2.1.length:Int))=true:=zX (by have :k<(cB w).2.1.length:=(show k<(aC w).length by omega);omega)
   have hd2:decide (k<(cB w).2.1.length)=true:=zX (show k<(aC w).length by omega)
   have hf':(cB w).2.1[k]? =some f:=hf
   have hwr:wr ((k:Int)+1)=((k+1:Nat):Int):=(wri (by have :=hk.flows;omega) (by have :=hk.flows;omega)).trans (by omega)
   have e:stepT k w=if (aF f).2.2 then iQ (dG w ((aC w).set k (aF f).1)) (aF f).1.1 0 (aF f).2.1 else dG w ((aC w).set k (aF f).1):=by unfold stepT;rw [hf]
   have e1:bW (((cB w).2.2.2.1,(cB w).2.2.2.2.1),((cB w).2.2.2.2.2.1,(cB w).2.2.2.2.2.2.1),((cB w).2.2.2.2.2.2.2.1,(cB w).2.2.2.2.2.2.2.2.1,(cB w).2.2.2.2.2.2.2.2.2.1),(cB w).2.2.2.2.2.2.2.2.2.2.1,(cB w).2.2.2.2.2.2.2.2.2.2.2.1,(cB w).1,((cB w).2.1.set k ((dR (aF f).1 (aF f).2.1 (aF f).2.2).1,(dR (aF f).1 (aF f).2.1 (aF f).2.2).2.1,(dR (aF f).1 (aF f).2.1 (aF f).2.2).2.2.1,(dR (aF f).1 (aF f).2.1 (aF f).2.2).2.2.2.1,(dR (aF f).1 (aF f).2.1 (aF f).2.2).2.2.2.2.2.2.2.2.2.2.2.2.2.2.2.1,(dR (aF f).1 (aF f).2.1 (aF f).2.2).2.2.2.2.2.2.2.2.2.2.2.2.2.2.2.2.1,(dR (aF f).1 (aF f).2.1 (aF f).2.2).2.2.2.2.1,(dR (aF f).1 (aF f).2.1 (aF f).2.2).2.2.2.2.2.1,(dR (aF f).1 (aF f).2.1 (aF f).2.2).2.2.2.2.2.2.2.2.2.2.2.2.2.2.2.2.2.1)),(cB w).2.2.1,(cB w).2.2.2.2.2.2.2.2.2.2.2.2) (dR (aF f).1 (aF f).2.1 (aF f).2.2).1 0 ((dR (aF f).1 (aF f).2.1 (aF f).2.2).2.2.2.2.2.2.1,(dR (aF f).1 (aF f).2.1 (aF f).2.2).2.2.2.2.2.2.2.1,(dR (aF f).1 (aF f).2.1 (aF f).2.2).2.2.2.2.2.2.2.2.1,(dR (aF f).1 (aF f).2.1 (aF f).2.2).2.2.2.2.2.2.2.2.2.2.2.2.2.2.2.2.2.2.1,(dR (aF f).1 (aF f).2.1 (aF f).2.2).2.2.2.2.2.2.2.2.2.1,(dR (aF f).1 (aF f).2.1 (aF f).2.2).2.2.2.2.2.2.2.2.2.2.1,(dR (aF f).1 (aF f).2.1 (aF f).2.2).2.2.2.2.2.2.2.2.2.2.2.1,(dR (aF f).1 (aF f).2.1 (aF f).2.2).2.2.2.2.2.2.2.2.2.2.2.2.1,(dR (aF f).1 (aF f).2.1 (aF f).2.2).2.2.2.2.2.2.2.2.2.2.2.2.2.1,(dR (aF f).1 (aF f).2.1 (aF f).2.2).2.2.2.2.2.2.2.2.2.2.2.2.2.2.2.2.2.2.2)=some (cB (iQ (dG w ((aC w).set k (aF f).1)) (aF f).1.1 0 (aF f).2.1)):=bAq (w:=dG w ((aC w).set k (aF f).1)) n1 n2 n3 k2 k3
   rw [e]
   simp only [hd,hd1,hd2,fI,bZi,hf',zZ,aA,aM,bS6 hft,hwr]
   cases hb:(aF f).2.2
   ·rfl
   ·rw [hb] at e1
    rw [zT rfl]
    show Option.bind (cond true _ _) _=_
    rw [zZ]
    show Option.bind (Option.bind (bW _ _ 0 _) fun y12=>_) _=_
    rw [e1]
    rfl
  ·have hd:decide ((((aC w0).length:Nat):Int)<(w0.2.2.2.2.2.2.1.length:Int))=false:=zW (by have :w0.2.2.2.2.2.2.1.length=(aC w0).length:=rfl;omega)
   simp only [hd,zY]
  ·rfl

theorem bRl {B F:Nat} {w0:den tNw} (hF:F<=1000) (hk:lK B F w0) (hB:B+F * (160+F)<=536870912):vI w0=some (!decide (aQ w0>=1000000),cB (uI w0)):=by
 have hres:(nG w0).2.1.length<=1073741824:=(aOo (bY8 hk.tot (by omega))).res
 unfold vI uI ixb aKy eE pj3 pj9 aN bD bH cV jM sI xO aBo aDe aC6 zz4 zz5 zz6 zz7 zz8 zz9
 by_cases hnow:aQ w0>=1000000
 ·rw [zT hnow,zX (p:=w0.2.2.2.1>=1000000) hnow]
  rfl
 ·rw [zS hnow,zW (p:=w0.2.2.2.1>=1000000) hnow,zY]
  unfold wI
  simp only [bMf hres,aA]
  refine Eq.trans (congrArg (fun o=>Option.bind o _) (aTw (F:=F) (fun k w=>((k:Int),cB w)) cB (aC w0).length (fun k w hk' hn hw=> ?_) (fun w hn=> ?_) (aC w0).length 0 B (aH4 w0) (bZ3 _) rfl (aFu hk) (by have :(aC w0).length * (160+F)<=F * (160+F):=cAl _ hk.flows;omega))) ?_
  ·obtain ⟨f,hf⟩: ∃ f,(aC w)[k]? =some f:=⟨_,bY7 (show k<(aC w).length by omega)⟩
   obtain ⟨k1,k2,k3⟩:=aMa hw hf
   obtain ⟨n1,n2,n3⟩:=aGi k1 (by decide)
   have hft:tot tFl f<=34359738368:=by have :=xJ (t:=tFl) (bZk hf);have :=fA w;have :=hw.tot;omega
   have hd:decide ((k:Int)<((cB w).2.1.length:Int))=true:=zX (by have :k<(cB w).2.1.length:=(by show k<(aC w).length;omega);omega)
   have hd1:decide ((k:Int)<((cB w).2.1.length:Int))=true:=zX (by have :k<(cB w).2.1.length:=(show k<(aC w).length by omega);omega)
   have hd2:decide (k<(cB w).2.1.length)=true:=zX (show k<(aC w).length by omega)
   have hf':(cB w).2.1[k]? =some f:=hf
   have hwr:wr ((k:Int)+1)=((k+1:Nat):Int):=(wri (by have :=hk.flows;omega) (by have :=hk.flows;omega)).trans (by omega)
   have e:stepT k w=if (aF f).2.2 then iQ (dG w ((aC w).set k (aF f).1)) (aF f).1.1 0 (aF f).2.1 else dG w ((aC w).set k (aF f).1):=by unfold stepT;rw [hf]
   have e1:dY (((cB w).2.2.2.1,(cB w).2.2.2.2.1),((cB w).2.2.2.2.2.1,(cB w).2.2.2.2.2.2.1),((cB w).2.2.2.2.2.2.2.1,(cB w).2.2.2.2.2.2.2.2.1,(cB w).2.2.2.2.2.2.2.2.2.1),(cB w).2.2.2.2.2.2.2.2.2.2.1,(cB w).2.2.2.2.2.2.2.2.2.2.2.1,(cB w).1,((cB w).2.1.set k ((dR (aF f).1 (aF f).2.1 (aF f).2.2).1,(dR (aF f).1 (aF f).2.1 (aF f).2.2).2.1,(dR (aF f).1 (aF f).2.1 (aF f).2.2).2.2.1,(dR (aF f).1 (aF f).2.1 (aF f).2.2).2.2.2.1,(dR (aF f).1 (aF f).2.1 (aF f).2.2).2.2.2.2.2.2.2.2.2.2.2.2.2.2.2.1,(dR (aF f).1 (aF f).2.1 (aF f).2.2).2.2.2.2.2.2.2.2.2.2.2.2.2.2.2.2.1,(dR (aF f).1 (aF f).2.1 (aF f).2.2).2.2.2.2.1,(dR (aF f).1 (aF f).2.1 (aF f).2.2).2.2.2.2.2.1,(dR (aF f).1 (aF f).2.1 (aF f).2.2).2.2.2.2.2.2.2.2.2.2.2.2.2.2.2.2.2.1)),(cB w).2.2.1,(cB w).2.2.2.2.2.2.2.2.2.2.2.2) (dR (aF f).1 (aF f).2.1 (aF f).2.2).1 0 ((dR (aF f).1 (aF f).2.1 (aF f).2.2).2.2.2.2.2.2.1,(dR (aF f).1 (aF f).2.1 (aF f).2.2).2.2.2.2.2.2.2.1,(dR (aF f).1 (aF f).2.1 (aF f).2.2).2.2.2.2.2.2.2.2.1,(dR (aF f).1 (aF f).2.1 (aF f).2.2).2.2.2.2.2.2.2.2.2.2.2.2.2.2.2.2.2.2.1,(dR (aF f).1 (aF f).2.1 (aF f).2.2).2.2.2.2.2.2.2.2.2.1,(dR (aF f).1 (aF f).2.1 (aF f).2.2).2.2.2.2.2.2.2.2.2.2.1,(dR (aF f).1 (aF f).2.1 (aF f).2.2).2.2.2.2.2.2.2.2.2.2.2.1,(dR (aF f).1 (aF f).2.1 (aF f).2.2).2.2.2.2.2.2.2.2.2.2.2.2.1,(dR (aF f).1 (aF f).2.1 (aF f).2.2).2.2.2.2.2.2.2.2.2.2.2.2.2.1,(dR (aF f).1 (aF f).2.1 (aF f).2.2).2.2.2.2.2.2.2.2.2.2.2.2.2.2.2.2.2.2.2)=some (cB (iQ (dG w ((aC w).set k (aF f).1)) (aF f).1.1 0 (aF f).2.1)):=bA1 (w:=dG w ((aC w).set k (aF f).1)) n1 n2 n3 k2 k3
   rw [e]
   simp only [hd,hd1,hd2,fI,bZi,hf',zZ,aA,aM,bSq hft,hwr]
   cases hb:(aF f).2.2
   ·rfl
   ·rw [hb] at e1
    rw [zT rfl]
    show Option.bind (cond true _ _) _=_
    rw [zZ]
    show Option.bind (Option.bind (dY _ _ 0 _) fun y12=>_) _=_
    rw [e1]
    rfl
  ·have hd:decide ((((aC w0).length:Nat):Int)<((cB w).2.1.length:Int))=false:=zW (by have :(cB w).2.1.length=(aC w0).length:=hn;omega)
   simp only [hd,zY]
  ·rfl


def Ans {α:Type} (o:Option α) (P:α→Prop):Prop:= ∃ y,o=some y∧P y

theorem bL6 {S R:Type} {step:S→Option (S⊕R)} (I:Nat→S→Prop) (Q:R→Prop) (h: ∀ n s,I n s→(∃ r,step s=some (.inr r)∧Q r)∨ ∃ m s',m<n∧step s=some (.inl s')∧I m s') (n:Nat): ∀ s,I n s→Ans (aB step s) Q:=by
 induction n using Nat.strongRecOn with
 | ind n ih=>
  intro s hs
  rcases h n s hs with ⟨r,h1,h2⟩ | ⟨m,s',h1,h2,h3⟩
  ·exact ⟨r,bY h1,h2⟩
  ·obtain ⟨r,h4,h5⟩:=ih m h1 s' h3
   exact ⟨r,(dT h2).trans h4,h5⟩

theorem kI {S R T:Type} {step:S→Option (S⊕R)} (I:Nat→S→Prop) (Q:R→Prop) {k:R→Option T} {G:Option T→Prop} (h: ∀ n s,I n s→(∃ r,step s=some (.inr r)∧Q r)∨ ∃ m s',m<n∧step s=some (.inl s')∧I m s') (n:Nat) (s:S) (hs:I n s) (hk: ∀ r,Q r→G (k r)):G (Option.bind (aB step s) k):=by
 obtain ⟨r,h1,h2⟩:=bL6 I Q h n s hs
 rw [h1]
 exact hk r h2


theorem bZ {S R T:Type} {step:S→Option (S⊕R)} (len:Nat) (pos:S→Int) (J:Nat→S→Prop) (Q:R→Prop) {k:R→Option T} {G:Option T→Prop}
  (h: ∀ (i:Nat) (s:S),i<len→pos s=(i:Int)→J i s→(∃ r,step s=some (.inr r)∧Q r)∨ ∃ s',step s=some (.inl s')∧pos s'=((i+1:Nat):Int)∧J (i+1) s')
  (he: ∀ s:S,pos s=(len:Int)→J len s→ ∃ r,step s=some (.inr r)∧Q r) (i0:Nat) (s0:S) (hi:i0<=len) (hp:pos s0=(i0:Int)) (hJ:J i0 s0) (hk: ∀ r,Q r→G (k r)):G (Option.bind (aB step s0) k):=by
 refine kI (fun n s=> ∃ i:Nat,pos s=(i:Int)∧i+n=len∧J i s) Q ?_ (len - i0) s0 ⟨i0,hp,by omega,hJ⟩ hk
 rintro n s ⟨i,h1,h2,h3⟩
 cases n with
 | zero=>
  have e:i=len:=by omega
  subst e
  exact .inl (he s h1 h3)
 | succ n=>
  rcases h i s (by omega) h1 h3 with h4 | ⟨s',h4,h5,h6⟩
  ·exact .inl h4
  ·exact .inr ⟨n,s',by omega,h4,i+1,h5,by omega,h6⟩

theorem bN {n:Int} (h0: -1000000000000<=n) (h1:n<=1000000000000):wr n=n:=wri (by omega) (by omega)

theorem aW {n:Nat} (h:n<=1000000000):wr ((n:Int)+1)=((n+1:Nat):Int):=by rw [bN (by omega) (by omega)];omega

theorem aYm (a:Int):0<=yT .i64 a 255∧yT .i64 a 255<=255:=by
 have h:((BitVec.ofInt 64 a &&& BitVec.ofInt 64 255).toNat)<=255:=by
  rw [BitVec.toNat_and]
  exact bY8 Nat.and_le_right (by decide)
 have e:yT .i64 a 255=wr (((BitVec.ofInt 64 a &&& BitVec.ofInt 64 255).toNat:Nat):Int):=rfl
 rw [e,show wr (((BitVec.ofInt 64 a &&& BitVec.ofInt 64 255).toNat:Nat):Int)=_ from wri (by omega) (by omega)]
 omega


def Cur (code:List Int) (c:List Int×q25):Prop:=c.1=code∧0<=c.2.1∧c.2.1<=(code.length:Int)

theorem aG4 {code:List Int} (hl:code.length<=1048576) {c:List Int} {p h:Int} (hc:Cur code (c,p,h)): ∃ v c' p' h',pR (c,p,h)=some (v,c',p',h')∧(0<=v∧v<=255)∧Cur code (c',p',h'):=by
 obtain ⟨h1,h2,h3⟩:=hc
 simp only at h1 h2 h3
 subst h1
 unfold pR pj4
 simp only [aA]
 by_cases hp:p<(c.length:Int)
 ·obtain ⟨m,rfl⟩:=bZ1 h2
  have hm:m<c.length:=by omega
  rw [zX hp,zZ,aG,bY7 hm]
  refine ⟨_,_,_,_,rfl,aYm _,rfl,?_,?_⟩
  ·show 0<=wr ((m:Int)+1);rw [show wr ((m:Int)+1)=(m:Int)+1 from wri (by omega) (by omega)];omega
  ·show wr ((m:Int)+1)<=_;rw [show wr ((m:Int)+1)=(m:Int)+1 from wri (by omega) (by omega)];omega
 ·rw [zW hp,zY]
  exact ⟨_,_,_,_,rfl,aYm _,rfl,h2,h3⟩

theorem bC {code:List Int} (hl:code.length<=1048576) {n:Int} (h0:0<n) (h1:n<=256) {c:List Int} {p h:Int} (hc:Cur code (c,p,h)): ∃ v c' p' h',aE (c,p,h) n=some (v,c',p',h')∧(0<=v∧v<n)∧Cur code (c',p',h'):=by
 obtain ⟨v,c',p',h',hb,hv,hc'⟩:=aG4 hl hc
 refine ⟨Int.tmod v n,c',p',h',?_,⟨Int.tmod_nonneg _ hv.1,Int.tmod_lt_of_pos _ h0⟩,hc'⟩
 unfold aE pj3
 rw [zW (by omega),zY,zX h1,zZ]
 simp only [hb,aA]
 rw [show (n==0)=false by rw [beq_eq_false_iff_ne];omega,zY]

theorem aHh {code:List Int} (hl:code.length<=1048576) {n:Int} (h1:256<n) {c:List Int} {p h:Int} (hc:Cur code (c,p,h)): ∃ v c' p' h',aE (c,p,h) n=some (v,c',p',h')∧(0<=v∧v<n)∧Cur code (c',p',h'):=by
 obtain ⟨v1,c1,p1,h1',e1,r1,k1⟩:=aG4 hl hc
 obtain ⟨v2,c2,p2,h2',e2,r2,k2⟩:=aG4 hl k1
 obtain ⟨v3,c3,p3,h3',e3,r3,k3⟩:=aG4 hl k2
 have w1:wr (v1 * 65536)=v1 * 65536:=bN (by omega) (by omega)
 have w2:wr (v2 * 256)=v2 * 256:=bN (by omega) (by omega)
 have w3:wr (v1 * 65536+v2 * 256)=v1 * 65536+v2 * 256:=bN (by omega) (by omega)
 have w4:wr (v1 * 65536+v2 * 256+v3)=v1 * 65536+v2 * 256+v3:=bN (by omega) (by omega)
 refine ⟨Int.tmod (v1 * 65536+v2 * 256+v3) n,c3,p3,h3',?_,⟨Int.tmod_nonneg _ (by omega),Int.tmod_lt_of_pos _ (by omega)⟩,k3⟩
 unfold aE pj3
 rw [zW (by omega),zY,zW (by omega),zY]
 simp only [e1,e2,e3,aA,w1,w2,w3,w4]
 rw [show (n==0)=false by rw [beq_eq_false_iff_ne];omega,zY]

theorem aGj {code:List Int} (hl:code.length<=1048576) {l:List Int} (h0:0<l.length) (h1:l.length<=256) {c:List Int} {p h:Int} (hc:Cur code (c,p,h)): ∃ v c' p' h',oT (c,p,h) l=some (v,c',p',h')∧v∈l∧Cur code (c',p',h'):=by
 obtain ⟨v,c',p',h',hb,hv,hc'⟩:=bC hl (n:=(l.length:Int)) (by omega) (by omega) hc
 obtain ⟨m,rfl⟩:=bZ1 hv.1
 have hm:m<l.length:=by omega
 refine ⟨l[m],c',p',h',?_,bZl hm,hc'⟩
 unfold oT pj3
 simp only [hb,aA,aG,bY7 hm]

theorem tR {code:List Int} (hl:code.length<=1048576) {n:Int} (h0:0<n) (h1:n<=256) {c:List Int} {p h:Int} (hc:Cur code (c,p,h)): ∃ b c' p' h',dM (c,p,h) n=some (b,c',p',h')∧Cur code (c',p',h'):=by
 obtain ⟨v,c',p',h',hb,hv,hc'⟩:=bC hl h0 h1 hc
 refine ⟨v==0,c',p',h',?_,hc'⟩
 unfold dM pj3
 simp only [hb,aA]

theorem bR5 {code:List Int} (hl:code.length<=1048576): ∃ c p h,aCw code=some (c,p,h)∧Cur code (c,p,h):=by
 unfold aCw
 refine kI (G:=fun o=> ∃ c p h,o=some (c,p,h)∧Cur code (c,p,h)) (fun n s=> ∃ k:Nat,s.2=(k:Int)∧k+n=code.length) (fun _=>True) ?_ code.length _ ⟨0,rfl,by omega⟩ ?_
 ·rintro n ⟨a,b⟩ ⟨k,hk,hn⟩
  simp only at hk
  subst hk
  by_cases h1:(k:Int)<(code.length:Int)
  ·by_cases h2:(k:Int)<4000
   ·right
    have hk:k<code.length:=by omega
    refine ⟨n - 1,(yT .i64 (wr ((wr ((wr (a * (137:Int)))+(wr code[k])))+(11:Int))) (1073741823:Int),((k+1:Nat):Int)),by omega,?_,k+1,rfl,by omega⟩
    simp only [zX h1,zX h2,zZ,aA,aG,bY7 hk]
    rw [show wr ((k:Int)+1)=((k+1:Nat):Int) from by rw [show wr ((k:Int)+1)=(k:Int)+1 from wri (by omega) (by omega)];omega]
   ·left
    refine ⟨a,?_,trivial⟩
    simp only [zX h1,zW h2,zZ,zY,aA]
  ·left
   refine ⟨a,?_,trivial⟩
   simp only [zW h1,zY,aA]
 ·intro r _
  exact ⟨_,_,_,rfl,rfl,cA1 0,by show (0:Int)<=_;omega⟩

theorem aOl {α:Type} (p:Nat→α→Bool): ∀ (l:List α) (k:Nat),(cD (fun k x=>if p k x then none else some ()) k l).isNone=true↔ ∀ j x,l[j]? =some x→p (k+j) x=true
 | [],k=>by simp [cD]
 | x::l,k=>by
  have ih:=aOl p l (k+1)
  cases hp:p k x with
  | true=>
   simp only [cD,hp,zV]
   rw [ih]
   constructor
   ·intro h j y hy
    cases j with
    | zero=>simp only [cB0,Option.some.injEq] at hy;subst hy;exact hp
    | succ j=>simp only [List.getElem?_cons_succ] at hy;have :=h j y hy;rwa [show k+1+j=k+(j+1) by omega] at this
   ·intro h j y hy
    have :=h (j+1) y (by simpa using hy);rwa [show k+(j+1)=k+1+j by omega] at this
  | false=>
   simp only [cD,hp]
   constructor
   ·intro h;simp at h
   ·intro h;have :=h 0 x (by simp);rw [Nat.add_zero,hp] at this;cases this

def plc (id s d:Int):Nat→lUs→Int
 | _,[]=> -1
 | k,x::l=>if jP id s d x then (k:Int) else plc id s d (k+1) l

theorem aE6 (l:lUs) (id s d:Int):place l id s d=plc id s d 0 l:=by
 unfold place
 have : ∀ (l:lUs) (k:Nat),(match cD (fun k x=>if jP id s d x then some (k:Int) else none) k l with
  | some i=>i
  | none=> -1)=plc id s d k l:=by
  intro l
  induction l with
  | nil=>intro k;rfl
  | cons x l ih=>
   intro k
   cases hp:jP id s d x with
   | true=>simp only [cD,plc,hp,zV]
   | false=>simp only [cD,plc,hp];exact ih (k+1)
 exact this l 0

theorem aV6 {id s d:Int}: ∀ (l:lUs) (k:Nat),(plc id s d k l= -1∧ ∀ x∈l,jP id s d x=false)∨ ∃ j x,plc id s d k l=((k+j:Nat):Int)∧l[j]? =some x∧jP id s d x=true
 | [],_=> .inl ⟨rfl,fun x hx=>by cases hx⟩
 | x::l,k=>by
  unfold plc
  cases hp:jP id s d x with
  | true=>exact .inr ⟨0,x,by simp,by simp,hp⟩
  | false=>
   rcases aV6 l (k+1) with ⟨h1,h2⟩ | ⟨j,y,h1,h2,h3⟩
   ·refine .inl ⟨by simpa using h1,fun y hy=> ?_⟩
    rcases bZc.1 hy with rfl | hy
    ·exact hp
    ·exact h2 y hy
   ·exact .inr ⟨j+1,y,by rw [zS (by simp),h1];congr 1;omega,by simpa using h2,h3⟩

theorem bEh (l:lUs) (id s d:Int):(place l id s d= -1∧ ∀ x∈l,jP id s d x=false)∨ ∃ (j:Nat) (x:den tUs),place l id s d=(j:Int)∧l[j]? =some x∧jP id s d x=true:=by
 rw [aE6]
 rcases aV6 (id:=id) (s:=s) (d:=d) l 0 with h | ⟨j,x,h1,h2,h3⟩
 ·exact .inl h
 ·exact .inr ⟨j,x,by rw [h1,bZ3],h2,h3⟩

theorem bAe {id s d:Int} (z:lUs): ∀ (l:lUs) (k:Nat),plc id s d k (l++z)=if plc id s d k l<0 then plc id s d (k+l.length) z else plc id s d k l
 | [],k=>by simp [plc]
 | x::l,k=>by
  have e1:plc id s d k (x::l)=if jP id s d x then (k:Int) else plc id s d (k+1) l:=rfl
  have e2:plc id s d k (x::l++z)=if jP id s d x then (k:Int) else plc id s d (k+1) (l++z):=rfl
  by_cases hp:jP id s d x=true
  ·rw [zT hp] at e1 e2
   rw [e1,e2,zS (by omega)]
  ·rw [zS hp] at e1 e2
   rw [e1,e2,bAe z l (k+1),show k+(x::l).length=k+1+l.length by simp only [cAb];omega]


theorem aWl {id s d:Int}: ∀ (l m:lUs) (k:Nat),l.map (fun x=>(x.1,x.2.1,x.2.2.1))=m.map (fun x=>(x.1,x.2.1,x.2.2.1))→plc id s d k l=plc id s d k m
 | [],[],_,_=>rfl
 | [],_::_,_,h=>by simp at h
 | _::_,[],_,h=>by simp at h
 | x::l,y::m,k,h=>by
  simp only [bZv,List.cons.injEq,Prod.mk.injEq] at h
  obtain ⟨⟨h1,h2,h3⟩,h4⟩:=h
  have e:jP id s d x=jP id s d y:=by unfold jP;rw [h1,h2,h3]
  simp only [plc,e,aWl l m (k+1) h4]

theorem aLh {id s d:Int} {x:den tUs}:jP id s d x=true↔x.1=id∧x.2.1=s∧x.2.2.1=d:=by unfold jP;simp


def aR1 (g:den tSc) (now:Int):Prop:= ∀ (j:Nat) (x:den tUs),g.2.2[j]? =some x→place g.2.2 x.1 x.2.1 x.2.2.1=(j:Int)∧(1:Int)<=x.2.2.2∧oN g x.1 x.2.1 x.2.2.1 now>=x.2.2.2

theorem bB4 {g:den tSc} {now:Int}:zA g now=true↔(1:Int)<=g.1∧(20:Int)>=g.1∧xE g.2.1 g.1 now=true∧aR1 g now:=by
 unfold zA aR1
 rw [bZb,bZb,aOl]
 unfold inR okU
 simp only [bZb,zR,beq_iff_eq,bZ3,inR,and_assoc]

theorem aY6 {l:lRs} {cap now:Int}:xE l cap now=true↔l.length<=40∧ ∀ (j:Nat) (x:den tRs),l[j]? =some x→uC x=true∧rate l x.2.1 x.2.2.1 now<=cap∧ ∀ y∈l.take j,gK x y=false:=by
 unfold xE
 rw [bZb,aOl]
 unfold okR
 simp only [bZb,zR,bZ3,cAa,decide_eq_false_iff_not,List.any_eq_false,Bool.not_eq_true,Int.not_lt,gt_iff_lt]

theorem aKr (x y:den tRs):gK x y=gK y x:=by
 unfold gK atR
 rw [bZy]
 simp only [bZb,beq_iff_eq]
 constructor<;>(rintro ⟨a,b,c⟩;exact ⟨a.symm,b.symm,c.symm⟩)

theorem bH2 {l:lRs}:(∀ (j:Nat) (x:den tRs),l[j]? =some x→ ∀ y∈l.take j,gK x y=false)↔l.Pairwise fun x y=>gK x y=false:=by
 rw [cA2]
 constructor
 ·intro h i j hi hj hij
  rw [aKr]
  exact h j l[j] (bY7 hj) l[i] (List.mem_take_iff_getElem.2 ⟨i,by omega,rfl⟩)
 ·intro h j x hx y hy
  obtain ⟨i,hi,rfl⟩:=List.mem_take_iff_getElem.1 hy
  obtain ⟨hj,rfl⟩:=bZf.1 hx
  rw [aKr]
  exact h i j (by omega) hj (by omega)


def rs (s d now:Int):lRs→Int
 | []=>0
 | x::l=>(if atR x s d&&decide (now<=x.2.2.2.2) then x.2.2.2.1 else 0)+rs s d now l

theorem aPr {s d now:Int}: ∀ {l:lRs},(∀ x∈l,(0:Int)<=x.2.2.2.1∧(20:Int)>=x.2.2.2.1)→0<=rs s d now l∧rs s d now l<=20 * l.length
 | [],_=>by simp [rs]
 | x::l,h=>by
  have ih:=aPr (s:=s) (d:=d) (now:=now) (l:=l) fun y hy=>h y (bZm _ hy)
  have hx:=h x (by simp)
  have e:((x::l).length:Int)=l.length+1:=by simp
  unfold rs
  rw [e]
  split<;>omega

theorem aL5 {s d now:Int}: ∀ (l:lRs) (a:Int),(∀ x∈l,(0:Int)<=x.2.2.2.1∧(20:Int)>=x.2.2.2.1)→0<=a→a+20 * l.length<=1000000000000→
  l.foldl (fun a x=>if atR x s d&&decide (now<=x.2.2.2.2) then wr (a+x.2.2.2.1) else a) a=a+rs s d now l
 | [],a,_,_,_=>by simp [rs]
 | x::l,a,h,h0,hb=>by
  have hx:=h x (by simp)
  simp only [cAb,Int.natCast_add,Int.natCast_one] at hb
  simp only [List.foldl_cons,rs]
  split
  ·rw [show wr (a+x.2.2.2.1)=a+x.2.2.2.1 from wri (by omega) (by omega),aL5 l _ (fun y hy=>h y (bZm _ hy)) (by omega) (by omega)];omega
  ·rw [aL5 l a (fun y hy=>h y (bZm _ hy)) h0 (by omega)];omega

theorem aNm {s d now:Int} {l:lRs} (h: ∀ x∈l,(0:Int)<=x.2.2.2.1∧(20:Int)>=x.2.2.2.1) (hl:l.length<=1000000):rate l s d now=rs s d now l:=by
 unfold rate
 rw [aL5 l 0 h (by omega) (by omega)];omega

theorem bGs {s d now:Int} (m:lRs): ∀ l:lRs,rs s d now (l++m)=rs s d now l+rs s d now m
 | []=>by simp [rs]
 | x::l=>by simp only [List.cons_append,rs,bGs m l];omega

theorem aUs {s d now:Int} (p:den tRs→Bool): ∀ {l:lRs},(∀ x∈l,(0:Int)<=x.2.2.2.1∧(20:Int)>=x.2.2.2.1)→rs s d now (l.filter p)<=rs s d now l
 | [],_=>by simp [rs]
 | x::l,h=>by
  have ih:=aUs (s:=s) (d:=d) (now:=now) p (l:=l) fun y hy=>h y (bZm _ hy)
  have hx:=h x (by simp)
  rw [cB8]
  split
  ·simp only [rs];omega
  ·simp only [rs];split<;>omega


structure tX (l:lRs) (cap now:Int):Prop where
 len:l.length<=40
 val: ∀ x∈l,uC x=true
 rate: ∀ x∈l,rs x.2.1 x.2.2.1 now l<=cap
 pw:l.Pairwise fun x y=>gK x y=false

theorem aNz {x:den tRs} (h:uC x=true):(1:Int)<=x.1∧(1:Int)<=x.2.2.2.1∧(20:Int)>=x.2.2.2.1:=by
 unfold uC inR at h
 simp only [bZb,zR] at h
 exact ⟨h.1.1,h.2.1.1,h.2.1.2⟩

theorem wE {l:lRs} (h: ∀ x∈l,uC x=true): ∀ x∈l,(0:Int)<=x.2.2.2.1∧(20:Int)>=x.2.2.2.1:=fun x hx=>by
 have :=aNz (h x hx);omega

theorem bMg {l:lRs} {cap now:Int}:xE l cap now=true↔tX l cap now:=by
 rw [aY6]
 constructor
 ·rintro ⟨h1,h2⟩
  have hv: ∀ x∈l,uC x=true:=fun x hx=>by
   obtain ⟨j,hj⟩:=cB9.1 hx
   exact (h2 j x hj).1
  exact ⟨h1,hv,fun x hx=>by
   obtain ⟨j,hj⟩:=cB9.1 hx
   rw [← aNm (wE hv) (by omega)];exact (h2 j x hj).2.1,bH2.1 fun j x hj=>(h2 j x hj).2.2⟩
 ·rintro ⟨h1,h2,h3,h4⟩
  refine ⟨h1,fun j x hj=> ?_⟩
  have hx:=bZk hj
  exact ⟨h2 x hx,by rw [aNm (wE h2) (by omega)];exact h3 x hx,bH2.2 h4 j x hj⟩

theorem tX.filter {l:lRs} {cap now:Int} (h:tX l cap now) (p:den tRs→Bool):tX (l.filter p) cap now:=
 ⟨bY8 (cBu ..) h.len,fun x hx=>h.val x (bZr.1 hx).1,fun x hx=>Int.le_trans (aUs p (wE h.val)) (h.rate x (bZr.1 hx).1),h.pw.filter _⟩


def admR (l:lRs) (x:den tRs) (cap now:Int):lRs:=
 if !uC x||decide (x.2.2.2.2<now)||decide (wr (rate (l.filter fun y=> !gK x y) x.2.1 x.2.2.1 now+x.2.2.2.1)>cap)||decide (((l.filter fun y=> !gK x y).length:Int)>=40) then l else (l.filter fun y=> !gK x y)++[x]

theorem tX.admR {l:lRs} {cap now:Int} (h:tX l cap now) (x:den tRs):tX (admR l x cap now) cap now:=by
 unfold Go.Proofs.YtecighmpdcffcaaGreat.admR
 split
 ·exact h
 ·rename_i hc
  simp only [cAm,cAa,zR,not_or,Bool.not_eq_false] at hc
  obtain ⟨⟨⟨c1,c2⟩,c3⟩,c4⟩:=hc
  have hf:=h.filter fun y=> !gK x y
  have hx:=aNz c1
  have hr:tX (l.filter fun y=> !gK x y) cap now:=hf
  rw [aNm (wE hf.val) (by have :=hf.len;omega)] at c3
  have hb:=aPr (s:=x.2.1) (d:=x.2.2.1) (now:=now) (wE hf.val)
  have hl:=hf.len
  rw [show wr (rs x.2.1 x.2.2.1 now (l.filter fun y=> !gK x y)+x.2.2.2.1)=rs x.2.1 x.2.2.1 now (l.filter fun y=> !gK x y)+x.2.2.2.1 from wri (by omega) (by omega)] at c3
  refine ⟨by simp only [bZ5,cAt];omega,?_,?_,?_⟩
  ·intro y hy
   rcases bZh.1 hy with hy | hy
   ·exact hf.val y hy
   ·rw [bZg.1 hy];exact c1
  ·intro y hy
   rw [bGs]
   simp only [rs]
   rcases bZh.1 hy with hy | hy
   ·have h1:=hf.rate y hy
    cases ha:atR x y.2.1 y.2.2.1 with
    | false=>simp only [bZu,bZd,zU];omega
    | true=>
     have ha':=ha
     unfold atR at ha'
     simp only [bZb,beq_iff_eq] at ha'
     rw [← ha'.1,← ha'.2]
     split<;>omega
   ·rw [bZg.1 hy];split<;>omega
  ·rw [cCl]
   refine ⟨hf.pw,List.pairwise_singleton _ _,fun y hy z hz=> ?_⟩
   rw [bZg.1 hz,aKr]
   have :=(bZr.1 hy).2
   simpa using this

theorem bH5 {l:lUs} {id s d:Int} (z:lUs):place (l++z) id s d=if place l id s d<0 then plc id s d l.length z else place l id s d:=by
 rw [aE6,aE6,bAe,bZ3]

theorem bDb {l m:lUs} {id s d:Int} (h:l.map (fun x=>(x.1,x.2.1,x.2.2.1))=m.map (fun x=>(x.1,x.2.1,x.2.2.1))):place l id s d=place m id s d:=by
 rw [aE6,aE6,aWl l m 0 h]

theorem bE3 (l:lUs) (id s d:Int):(place l id s d= -1∧(∀ x∈l,jP id s d x=false)∧uG l id s d=0∧wS l id s d=l++[(id,s,d,1)])∨
  ∃ (j:Nat) (x:den tUs),place l id s d=(j:Int)∧l[j]? =some x∧jP id s d x=true∧uG l id s d=x.2.2.2∧wS l id s d=l.set j (x.1,x.2.1,x.2.2.1,wr (x.2.2.2+1)):=by
 rcases bEh l id s d with ⟨h1,h2⟩ | ⟨j,x,h1,h2,h3⟩
 ·refine .inl ⟨h1,h2,?_,?_⟩
  ·unfold uG;rw [h1,zT (by decide)]
  ·unfold wS;rw [h1,zT (by decide)]
 ·refine .inr ⟨j,x,h1,h2,h3,?_,?_⟩
  ·unfold uG;rw [h1,zS (by omega),bZi,h2];rfl
  ·unfold wS;rw [h1,zS (by omega),bZi];simp only [h2]

theorem bJ4 {l:lUs} {j:Nat} {x:den tUs} (h:l[j]? =some x) (c:Int):(l.set j (x.1,x.2.1,x.2.2.1,c)).map (fun x=>(x.1,x.2.1,x.2.2.1))=l.map (fun x=>(x.1,x.2.1,x.2.2.1)):=by
 rw [List.map_set]
 apply List.ext_getElem?
 intro i
 by_cases hij:j=i
 ·subst hij
  obtain ⟨hlt,rfl⟩:=bZf.1 h
  rw [cCa (by simpa using hlt),List.getElem?_map,bY7 hlt];rfl
 ·rw [List.getElem?_set_ne hij]

theorem aR1.more {g:den tSc} {now id s d:Int} (h:aR1 g now) (hu:uG g.2.2 id s d<oN g id s d now) (hb:oN g id s d now<=1000000):aR1 (g.1,g.2.1,wS g.2.2 id s d) now:=by
 have hr: ∀ i s d,oN (g.1,g.2.1,wS g.2.2 id s d) i s d now=oN g i s d now:=fun _ _ _=>rfl
 intro j x hx
 have hx:(wS g.2.2 id s d)[j]? =some x:=hx
 show place (wS g.2.2 id s d) x.1 x.2.1 x.2.2.1=(j:Int)∧(1:Int)<=x.2.2.2∧oN g x.1 x.2.1 x.2.2.1 now>=x.2.2.2
 rcases bE3 g.2.2 id s d with ⟨h1,h2,h3,h4⟩ | ⟨i,y,h1,h2,h3,h4,h5⟩
 ·rw [h4] at hx ⊢
  rw [bH5]
  by_cases hj:j<g.2.2.length
  ·rw [List.getElem?_append_left hj] at hx
   obtain ⟨a,b,c⟩:=h j x hx
   rw [a,zS (by omega)]
   exact ⟨rfl,b,c⟩
  ·rw [List.getElem?_append_right (by omega)] at hx
   have hj0:j - g.2.2.length=0:=by
    cases hk:j - g.2.2.length with
    | zero=>rfl
    | succ k=>rw [hk] at hx;simp at hx
   rw [hj0] at hx
   simp only [cB0,Option.some.injEq] at hx
   subst hx
   have hj':j=g.2.2.length:=by omega
   simp only
   rw [h1,zT (by decide),hj']
   refine ⟨?_,cA1 1,?_⟩
   ·unfold plc
    rw [zT (show jP id s d (id,s,d,1)=true from aLh.2 ⟨rfl,rfl,rfl⟩)]
   ·rw [h3] at hu;omega
 ·rw [h5] at hx ⊢
  rw [bDb (bJ4 h2 _)]
  by_cases hij:i=j
  ·subst hij
   rw [cCa (bZf.1 h2).1] at hx
   simp only [Option.some.injEq] at hx
   subst hx
   obtain ⟨a,b,c⟩:=h i y h2
   obtain ⟨k1,k2,k3⟩:=aLh.1 h3
   simp only
   rw [k1,k2,k3] at a c ⊢
   rw [h4] at hu
   have hw:wr (y.2.2.2+1)=y.2.2.2+1:=wri (by omega) (by omega)
   rw [hw]
   exact ⟨a,by omega,by omega⟩
  ·rw [List.getElem?_set_ne hij] at hx
   exact h j x hx

def rr (id s d now:Int):lRs→Int
 | []=>0
 | x::l=>if x.1==id&&(atR x s d&&decide (now<=x.2.2.2.2)) then x.2.2.2.1 else rr id s d now l

theorem bB7 (l:lRs) (id s d now:Int):aBk l id s d now=rr id s d now l:=by
 unfold aBk
 have : ∀ (l:lRs) (k:Nat),(match cD (fun _ (x:den tRs)=>if x.1==id&&(atR x s d&&decide (now<=x.2.2.2.2)) then some x.2.2.2.1 else none) k l with
  | some r=>r
  | none=>0)=rr id s d now l:=by
  intro l
  induction l with
  | nil=>intro k;rfl
  | cons x l ih=>
   intro k
   cases hp:(x.1==id&&(atR x s d&&decide (now<=x.2.2.2.2))) with
   | true=>simp only [cD,rr,hp,zV]
   | false=>simp only [cD,rr,hp];exact ih (k+1)
 exact this l 0

theorem bGb {id s d now:Int}: ∀ {l:lRs},(∀ x∈l,(0:Int)<=x.2.2.2.1∧(20:Int)>=x.2.2.2.1)→0<=rr id s d now l∧rr id s d now l<=20
 | [],_=>by simp [rr]
 | x::l,h=>by
  have ih:=bGb (id:=id) (s:=s) (d:=d) (now:=now) (l:=l) fun y hy=>h y (bZm _ hy)
  have hx:=h x (by simp)
  unfold rr
  split<;>omega

theorem bOm {s d now:Int}: ∀ {l:lRs},rs s d now l=0∨ ∃ x∈l,x.2.1=s∧x.2.2.1=d
 | []=> .inl rfl
 | x::l=>by
  by_cases ha:atR x s d=true
  ·unfold atR at ha
   simp only [bZb,beq_iff_eq] at ha
   exact .inr ⟨x,by simp,ha⟩
  ·rcases bOm (s:=s) (d:=d) (now:=now) (l:=l) with h | ⟨y,hy,h⟩
   ·left
    unfold rs
    rw [h];simp [ha]
   ·exact .inr ⟨y,bZm _ hy,h⟩

theorem tX.rs_le {l:lRs} {cap now:Int} (h:tX l cap now) (hc:0<=cap) (s d:Int):rs s d now l<=cap:=by
 rcases bOm (s:=s) (d:=d) (now:=now) (l:=l) with h0 | ⟨x,hx,h1,h2⟩
 ·omega
 ·have :=h.rate x hx;rw [h1,h2] at this;exact this

theorem bSj {l:lRs} {cap now:Int} (h:tX l cap now) (hc:1<=cap∧cap<=20) (s d:Int):free l cap s d now=cap - rs s d now l:=by
 have h1:=h.rs_le (by omega) s d
 have h2:=aPr (s:=s) (d:=d) (now:=now) (wE h.val)
 unfold free
 rw [aNm (wE h.val) (by have :=h.len;omega),show wr (cap - rs s d now l)=cap - rs s d now l from wri (by omega) (by omega)]
 split<;>omega


structure OkS (g:den tSc) (now:Int):Prop where
 lo:(1:Int)<=g.1
 hi:(20:Int)>=g.1
 res:tX g.2.1 g.1 now
 use:aR1 g now

theorem bR4 {g:den tSc} {now:Int}:zA g now=true↔OkS g now:=by
 rw [bB4,bMg]
 exact ⟨fun ⟨a,b,c,d⟩=>⟨a,b,c,d⟩,fun ⟨a,b,c,d⟩=>⟨a,b,c,d⟩⟩

theorem OkS.rate_le {g:den tSc} {now:Int} (h:OkS g now) (id s d:Int):0<=oN g id s d now∧oN g id s d now<=20:=by
 unfold oN
 split
 ·rw [bSj h.res ⟨h.lo,h.hi⟩]
  have h1:=h.res.rs_le (by have :=h.lo;omega) s d
  have h2:=aPr (s:=s) (d:=d) (now:=now) (wE h.res.val)
  have :=h.hi
  omega
 ·rw [bB7];exact bGb (wE h.res.val)


abbrev bXj (p:Int×Bool×lRs×lUs):den tSc:=(p.1,p.2.2.1,p.2.2.2)

theorem OkS.trans {g:den tSc} {now:Int} (h:OkS g now) (id s d:Int):OkS (bXj (sB g id s d now)) now:=by
 unfold sB
 split
 ·rename_i hu
  exact ⟨h.lo,h.hi,h.res,h.use.more hu (by have :=h.rate_le id s d;omega)⟩
 ·split
  ·rename_i hu
   exact ⟨h.lo,h.hi,h.res,h.use.more hu (by have :=h.rate_le 0 s d;omega)⟩
  ·exact h

theorem OkS.pw {g:den tSc} {now:Int} (h:OkS g now):g.2.2.Pairwise fun x y=>jP x.1 x.2.1 x.2.2.1 y=false:=by
 rw [cA2]
 intro i j hi hj hij
 cases hs:jP g.2.2[i].1 g.2.2[i].2.1 g.2.2[i].2.2.1 g.2.2[j] with
 | false=>rfl
 | true=>
  obtain ⟨k1,k2,k3⟩:=aLh.1 hs
  have a:=(h.use i _ (bY7 hi)).1
  have b:=(h.use j _ (bY7 hj)).1
  rw [k1,k2,k3,a] at b
  omega

theorem bQ7 {l:lRs} {x:den tRs} {cap now:Int} (h:l.length<=1000000): ∃ b,aCn l x cap now=some (b,admR l x cap now):=by
 have hf:(l.filter fun y=> !gK x y).length<=1000000:=bY8 (cBu ..) h
 unfold aCn admR pj5 zz4
 rw [show ((x.1,x.2.1,x.2.2.1,x.2.2.2.1,x.2.2.2.2):den tRs)=x from rfl,aTk (by omega),aA,aVw,aA,aXe (by omega),aA]
 rw [aD (b:=40) (by decide) (by simp;omega),aD (b:=40) (by decide) (by omega)]
 cases c1:uC x
 ·exact ⟨false,by simp⟩
 ·cases c2:decide (x.2.2.2.2<now)
  ·cases c3:decide (wr (rate (l.filter fun y=> !gK x y) x.2.1 x.2.2.1 now+x.2.2.2.1)>cap)
   ·cases c4:decide (((l.filter fun y=> !gK x y).length:Int)>=40)
    ·exact ⟨true,by simp only [bY9,zY,zZ,aA,cAx,bZd,zU]⟩
    ·exact ⟨false,by simp [aA]⟩
   ·exact ⟨false,by simp [aA]⟩
  ·exact ⟨false,by simp [aA]⟩

theorem bCv {a b:lRs} (h:a.length<=1073741824): ∃ v,qX a b=some v∧(a=b→v=true):=by
 unfold qX zz4
 by_cases hn:a.length=b.length
 ·rw [hn,bne_self_eq_false,zY,← hn]
  refine kI (G:=fun o=> ∃ v,o=some v∧(a=b→v=true)) (fun (n:Nat) (s:Int)=> ∃ k:Nat,s=(k:Int)∧k+n=a.length) (fun (r:Unit⊕Bool)=>a=b→r= .inl ()) ?_ a.length _ ⟨0,rfl,by omega⟩ ?_
  ·rintro n _ ⟨k,rfl,hk⟩
   cases n with
   | zero=>exact .inl ⟨.inl (),by simp only [zW (show ¬ (k:Int)<(a.length:Int) by omega),zY],fun _=>rfl⟩
   | succ n=>
    have h1:k<a.length:=by omega
    have h2:k<b.length:=by omega
    simp only [zX (show (k:Int)<(a.length:Int) by omega),zZ,aG,bY7 h1,bY7 h2,aA]
    cases hc:((a[k].1==b[k].1)&&((a[k].2.1==b[k].2.1)&&((a[k].2.2.1==b[k].2.2.1)&&((a[k].2.2.2.1==b[k].2.2.2.1)&&((a[k].2.2.2.2==b[k].2.2.2.2)&&true))))) with
    | true=>
     refine .inr ⟨n,((k+1:Nat):Int),by omega,?_,k+1,rfl,by omega⟩
     simp only [bY9,zY]
     rw [show wr ((k:Int)+1)=((k+1:Nat):Int) from by rw [show wr ((k:Int)+1)=(k:Int)+1 from wri (by omega) (by omega)];omega]
    | false=>
     refine .inl ⟨.inr false,by simp only [bZj,zZ],fun e=> ?_⟩
     subst e
     simp at hc
  ·intro r hr
   cases r with
   | inl u=>exact ⟨true,rfl,fun _=>rfl⟩
   | inr v=>exact ⟨v,rfl,fun e=>by cases hr e⟩
 ·rw [show ((a.length:Int) != (b.length:Int))=true by rw [bne_iff_ne];omega,zZ]
  exact ⟨false,rfl,fun e=>absurd (congrArg bZo e) hn⟩

theorem bL9 {a b:den tSc} (h1:a.2.1.length<=1073741824) (h2:a.2.2.length<=1073741824): ∃ v,qI a b=some v∧(a=b→v=true):=by
 obtain ⟨v1,e1,k1⟩:=bCv (b:=b.2.1) h1
 unfold qI
 rw [e1,aA]
 cases hc:(a.1 != b.1) with
 | true=>exact ⟨false,rfl,fun e=>by subst e;simp at hc⟩
 | false=>
  cases v1 with
  | false=>exact ⟨false,rfl,fun e=>by subst e;cases k1 rfl⟩
  | true=>
   by_cases hn:a.2.2.length=b.2.2.length
   ·simp only [zY,bY9,hn,bne_self_eq_false,aA]
    rw [← hn]
    refine kI (G:=fun o=> ∃ v,o=some v∧(a=b→v=true)) (fun (n:Nat) (s:Int)=> ∃ k:Nat,s=(k:Int)∧k+n=a.2.2.length) (fun (r:Unit⊕Bool)=>a=b→r= .inl ()) ?_ a.2.2.length _ ⟨0,rfl,by omega⟩ ?_
    ·rintro n _ ⟨k,rfl,hk⟩
     cases n with
     | zero=>exact .inl ⟨.inl (),by simp only [zW (show ¬ (k:Int)<(a.2.2.length:Int) by omega),zY],fun _=>rfl⟩
     | succ n=>
      have h3:k<a.2.2.length:=by omega
      have h4:k<b.2.2.length:=by omega
      simp only [zX (show (k:Int)<(a.2.2.length:Int) by omega),zZ,aG,bY7 h3,bY7 h4,aA]
      cases hc:((a.2.2[k].1==b.2.2[k].1)&&((a.2.2[k].2.1==b.2.2[k].2.1)&&((a.2.2[k].2.2.1==b.2.2[k].2.2.1)&&((a.2.2[k].2.2.2==b.2.2[k].2.2.2)&&true)))) with
      | true=>
       refine .inr ⟨n,((k+1:Nat):Int),by omega,?_,k+1,rfl,by omega⟩
       simp only [bY9,zY]
       rw [show wr ((k:Int)+1)=((k+1:Nat):Int) from by rw [show wr ((k:Int)+1)=(k:Int)+1 from wri (by omega) (by omega)];omega]
      | false=>
       refine .inl ⟨.inr false,by simp only [bZj,zZ],fun e=> ?_⟩
       subst e
       simp at hc
    ·intro r hr
     cases r with
     | inl u=>exact ⟨true,rfl,fun _=>rfl⟩
     | inr v=>exact ⟨v,rfl,fun e=>by cases hr e⟩
   ·simp only [zY,bY9,aA]
    rw [show ((a.2.2.length:Int) != (b.2.2.length:Int))=true by rw [bne_iff_ne];omega,zZ]
    exact ⟨false,rfl,fun e=>absurd (by rw [e]) hn⟩

theorem bH4 {a:den tSc} (h1:a.2.1.length<=1073741824) (h2:a.2.2.length<=1073741824):qI a a=some true:=by
 obtain ⟨v,e,k⟩:=bL9 (b:=a) h1 h2
 rw [e,k rfl]

theorem aDx {l:List Int} {n x:Int} (h:x∈pK l n):x=n∨x∈l:=by
 unfold pK at h
 split at h
 ·exact .inr h
 ·simp only [bZh,bZg] at h
  rcases h with (h | h) | h
  ·exact .inr (cAq h)
  ·exact .inl h
  ·exact .inr (cAv h)

theorem bF2 {r d:Int} {x:den tLk} {a:List Int} (h:d∈oP r x a):cY x r d=true∨d∈a:=by
 unfold oP at h
 unfold cY
 cases c1:x.1==r<;>cases c2:x.2.2.1==r<;>rw [c1,c2] at h<;>simp only [zZ,zY] at h
 ·exact .inr h
 ·rcases aDx h with e | h
  ·left;simp [e]
  ·exact .inr h
 ·rcases aDx h with e | h
  ·left;simp [e]
  ·exact .inr h
 ·rcases aDx h with e | h
  ·left;simp [e]
  ·rcases aDx h with e | h
   ·left;simp [e]
   ·exact .inr h

theorem bI3 {t:den tTo} {r d:Int} (h:d∈gA t r): ∃ x∈t.2,cY x r d=true:=by
 have : ∀ (l:lLk) (k:Nat) (a:List Int),d∈cN (fun _ x a=>oP r x a) k l a→(∃ x∈l,cY x r d=true)∨d∈a:=by
  intro l
  induction l with
  | nil=>intro k a h;exact .inr h
  | cons x l ih=>
   intro k a h
   rcases ih (k+1) (oP r x a) h with ⟨y,hy,e⟩ | h
   ·exact .inl ⟨y,bZm _ hy,e⟩
   ·rcases bF2 h with e | h
    ·exact .inl ⟨x,by simp,e⟩
    ·exact .inr h
 rcases this t.2 0 [] h with h | h
 ·exact h
 ·cases h

theorem aXy {t:den tTo} {r d:Int} (h: ∃ x∈t.2,cY x r d=true): ∃ (j:Nat) (x:den tLk),pN t r d=(j:Int)∧t.2[j]? =some x∧cY x r d=true:=by
 rcases aFa t r d with e | h
 ·exfalso
  have : ∀ (l:lLk) (k:Nat),(∃ x∈l,cY x r d=true)→ ∃ i,cD (fun k x=>if cY x r d then some ((k:Nat):Int) else none) k l=some i∧0<=i:=by
   intro l
   induction l with
   | nil=>rintro k ⟨x,hx,_⟩;cases hx
   | cons y l ih=>
    rintro k ⟨x,hx,hxe⟩
    cases c:cY y r d with
    | true=>exact ⟨(k:Int),by simp [cD,c],by omega⟩
    | false=>
     rcases bZc.1 hx with rfl | hx
     ·rw [c] at hxe;cases hxe
     ·obtain ⟨i,h1,h2⟩:=ih (k+1) ⟨x,hx,hxe⟩
      exact ⟨i,by simp only [cD,c];exact h1,h2⟩
  obtain ⟨i,h1,h2⟩:=this t.2 0 h
  unfold pN at e
  rw [h1] at e
  have e:i= -1:=e
  omega
 ·exact h


theorem bGr {t:den tTo} (hv: ∀ x∈t.2,aAh t x=true) {r d:Int} (h:d∈gA t r):cM t (remote t r d).1=true:=by
 obtain ⟨j,x,e,hx,he⟩:=aXy (bI3 h)
 have hl:=hv x (bZk hx)
 unfold remote
 rw [e,zS (by omega),bZi,hx]
 unfold aAh at hl
 simp only [bZb] at hl
 unfold bD1
 simp only [Option.getD_some]
 cases x.1==r&&x.2.1==d with
 | true=>exact hl.2.1
 | false=>exact hl.1

theorem bFk {t:den tTo} {r k:Int} (h:t.2.length<=1000000): ∃ l,iP t r k=some l∧l.length<=2 * t.2.length∧ ∀ d∈l,d∈gA t r:=by
 have hd:=aFb t r
 unfold iP ixb pj2
 rw [show ((t.1,t.2):den tTo)=t from rfl,aM0 (t:=t) (by omega),aA]
 refine bZ (G:=fun o=> ∃ l,o=some l∧l.length<=2 * t.2.length∧ ∀ d∈l,d∈gA t r) (gA t r).length (fun s:Int×List Int=>s.1) (fun i s=>s.2.length<=i∧ ∀ d∈s.2,d∈gA t r) (fun l:List Int=>l.length<=2 * t.2.length∧ ∀ d∈l,d∈gA t r) ?_ ?_ 0 ((0:Int),[]) (by omega) rfl ⟨by simp,fun d hd=>(bZw hd).elim⟩ (fun l hl=>⟨l,rfl,hl⟩)
 ·rintro i ⟨_,l⟩ hi rfl ⟨h1,h2⟩
  right
  simp only at h1 h2
  simp only [zX (show (i:Int)<((gA t r).length:Int) by omega),zX (show (0:Int)<=(i:Int) by omega),zZ,bZi,bY7 hi,aA,aSb (t:=t) (show t.2.length<=68719476736 by omega),aW (show i<=1000000000 by omega)]
  rw [aD (b:=8) (n:=l.length) (m:=1) (by decide) (by omega),zZ]
  cases aB6 t r (gA t r)[i]==k with
  | true=>exact ⟨_,rfl,rfl,by simp;omega,fun d hd=>by
    rcases bZh.1 hd with hd | hd
    ·exact h2 d hd
    ·rw [bZg.1 hd];exact bZl hi⟩
  | false=>exact ⟨_,rfl,rfl,by show l.length<=i+1;omega,h2⟩
 ·rintro ⟨_,l⟩ rfl ⟨h1,h2⟩
  exact ⟨l,by simp only [zW (bZp _),zY],by simp only at h1;omega,h2⟩

theorem aHs (l:List Int) (n:Int):n∈pK l n:=by
 unfold pK
 split
 ·next h=>exact bZk h
 ·simp

theorem aEj {l:List Int} {n x:Int} (h:x∈l):x∈pK l n:=by
 unfold pK
 split
 ·exact h
 ·rw [← cAr (kO l n) l] at h
  simp only [bZh,bZg] at h ⊢
  rcases h with h | h
  ·exact .inl (.inl h)
  ·exact .inr h

theorem bK2 {l:List Int} {n:Int} (h:n∉l):(pK l n).length=l.length+1:=by
 unfold pK
 rw [zS (fun e=>h (bZk e))]
 have :=aR4 l n
 simp
 omega

theorem bF5 {r d:Int} {x:den tLk} {a:List Int} (h:d∈a):d∈oP r x a:=by
 unfold oP
 cases x.2.2.1==r<;>cases x.1==r<;>simp only [zZ,zY]
 ·exact h
 ·exact aEj h
 ·exact aEj h
 ·exact aEj (aEj h)

theorem bHa {r d:Int} {x:den tLk} {a:List Int} (h:cY x r d=true):d∈oP r x a:=by
 unfold cY at h
 unfold oP
 simp only [cAm,bZb] at h
 rcases h with ⟨h1,h2⟩ | ⟨h1,h2⟩
 ·rw [h1,eq_of_beq h2]
  cases x.2.2.1==r<;>simp only [zZ,zY]
  ·exact aHs _ _
  ·exact aEj (aHs _ _)
 ·rw [h1,eq_of_beq h2]
  cases x.1==r<;>simp only [zZ,zY]<;>exact aHs _ _

theorem aJ1 (as:lAS) (ls:lLk) (r:Int):gA (as,ls) r=ls.foldl (fun a x=>oP r x a) []:=wL (fun a x=>oP r x a) ls 0 []

theorem bH7 {as:lAS} {ls:lLk} {r d:Int} {x:den tLk} (hx:x∈ls) (h:cY x r d=true):d∈gA (as,ls) r:=by
 rw [aJ1]
 have keep: ∀ (l:lLk) (a:List Int),d∈a→d∈l.foldl (fun a x=>oP r x a) a:=by
  intro l
  induction l with
  | nil=>exact fun a h=>h
  | cons y l ih=>exact fun a h=>ih _ (bF5 h)
 have : ∀ (l:lLk) (a:List Int),x∈l→d∈l.foldl (fun a x=>oP r x a) a:=by
  intro l
  induction l with
  | nil=>exact fun a h=>(bZw h).elim
  | cons y l ih=>
   intro a hm
   rcases bZc.1 hm with rfl | hm
   ·exact keep l _ (bHa h)
   ·exact ih _ hm
 exact this ls [] hx


structure qP (ls:lLk):Prop where
 num: ∀ r d:Int,d∈gA ([],ls) r→1<=d∧d<=((gA ([],ls) r).length:Int)
 pw:ls.Pairwise fun y x=>cY y x.1 x.2.1=false∧cY y x.2.2.1 x.2.2.2.1=false

theorem bEv:qP []:=⟨fun r d h=>(bZw h).elim,List.Pairwise.nil⟩

theorem qP.no {ls:lLk} (h:qP ls) {y:den tLk} (hy:y∈ls) (r:Int):cY y r (((gA ([],ls) r).length:Int)+1)=false:=by
 cases e:cY y r (((gA ([],ls) r).length:Int)+1) with
 | false=>rfl
 | true=>have :=(h.num r _ (bH7 hy e)).2;omega

theorem qP.grow {L:List Int} (h: ∀ d∈L,(1:Int)<=d∧d<=(L.length:Int)): ∀ d∈pK L ((L.length:Int)+1),(1:Int)<=d∧d<=((pK L ((L.length:Int)+1)).length:Int):=by
 have hn:((L.length:Int)+1)∉L:=fun e=>by have :=(h _ e).2;omega
 rw [bK2 hn]
 intro d hd
 rcases aDx hd with rfl | hd
 ·omega
 ·have :=h d hd;omega

theorem qP.snoc {ls:lLk} (h:qP ls) {a b:Int} (hab:a≠b) (k:Int):qP (ls++[(a,((gA ([],ls) a).length:Int)+1,b,((gA ([],ls) b).length:Int)+1,k)]):=by
 constructor
 ·intro r
  rw [aJ1,List.foldl_append,← aJ1]
  show ∀ d,d∈oP r _ _→_∧_<=((oP r _ _).length:Int)
  unfold oP
  by_cases ha:a=r
  ·subst ha
   have hb:(b==a)=false:=by simp;exact fun e=>hab e.symm
   simp only [hb,beq_self_eq_true,zZ,zY]
   exact qP.grow (h.num a)
  ·have ha':(a==r)=false:=by simpa using ha
   by_cases hb:b=r
   ·subst hb
    simp only [ha',beq_self_eq_true,zZ,zY]
    exact qP.grow (h.num b)
   ·have hb':(b==r)=false:=by simpa using hb
    simp only [ha',hb',zY]
    exact h.num r
 ·rw [cCl]
  refine ⟨h.pw,List.pairwise_singleton _ _,fun y hy x hx=> ?_⟩
  rw [bZg.1 hx]
  exact ⟨h.no hy a,h.no hy b⟩

theorem aHg {t:den tTo} {a b k:Int} (h:t.2.length<=1000000) (hab:a≠b) (hf:qP t.2): ∃ ls,uO t a b k=some (t.1,ls)∧ls.length<=t.2.length+1∧qP ls:=by
 have la:=aFb t a
 have lb:=aFb t b
 unfold uO pj2
 rw [show ((t.1,t.2):den tTo)=t from rfl,aM0 (t:=t) (by omega),aM0 (t:=t) (by omega),aA,aA,aD (b:=40) (n:=t.2.length) (m:=1) (by decide) (by omega)]
 have w1:wr (((gA t a).length:Int)+1)=((gA t a).length:Int)+1:=bN (by omega) (by omega)
 have w2:wr (((gA t b).length:Int)+1)=((gA t b).length:Int)+1:=bN (by omega) (by omega)
 cases decide (wr (((gA t a).length:Int)+1)<=6) with
 | false=>exact ⟨t.2,rfl,by omega,hf⟩
 | true=>
  cases decide (wr (((gA t b).length:Int)+1)<=6) with
  | false=>exact ⟨t.2,rfl,by omega,hf⟩
  | true=>
   refine ⟨t.2++[(a,wr (((gA t a).length:Int)+1),b,wr (((gA t b).length:Int)+1),k)],rfl,by simp,?_⟩
   rw [w1,w2]
   exact hf.snoc hab k


def AsI (as:lAS):Prop:= ∀ (j:Nat) (x:den tAS),as[j]? =some x→((0:Int)<=x.1∧(1:Int)>=x.1)∧ ∃ v:Int,0<=v∧v<1000000∧1+8 * v+(j:Int)=x.2.2

theorem bS8:AsI []:=fun j x h=>by simp at h

theorem AsI.snoc {as:lAS} (h:AsI as) {d v:Int} {b:Bool} (hd:0<=d∧1>=d) (hv:0<=v∧v<1000000):AsI (as++[(d,b,1+8 * v+(as.length:Int))]):=by
 intro j x hx
 rw [List.getElem?_append] at hx
 split at hx
 ·exact h j x hx
 ·next hj=>
  have hj0:j - as.length=0:=by
   have :=(bZf.1 hx).1
   simp at this
   omega
  rw [hj0] at hx
  simp only [cB0,Option.some.injEq] at hx
  subst hx
  exact ⟨hd,v,hv.1,hv.2,by show 1+8 * v+(j:Int)=1+8 * v+(as.length:Int);omega⟩

theorem AsI.set {as:lAS} (h:AsI as) {i q:Nat} (hi:i<as.length) (hq:q<as.length):AsI (as.set i (as[q].1,as[i].2.1,as[i].2.2)):=by
 intro j x hx
 rw [List.getElem?_set] at hx
 split at hx
 ·next e=>
  subst e
  simp only [hi,zV,Option.some.injEq] at hx
  subst hx
  exact ⟨(h q as[q] (bY7 hq)).1,(h i as[i] (bY7 hi)).2⟩
 ·exact h j x hx

theorem aZz {α:Type} (p:Nat→α→Bool) {l:List α} (h: ∀ (j:Nat) (x:α),l[j]? =some x→p j x=true):(l.zipIdx 0).all (fun z=>p z.2 z.1)=true:=by
 rw [bZx]
 rintro ⟨x,j⟩ hm
 exact h j x (by simpa using List.mem_zipIdx_iff_getElem?.1 hm)

theorem aHl {α:Type} {l:List α} {j:Nat} {y:α} (h:y∈l.take j): ∃ i,i<j∧l[i]? =some y:=by
 obtain ⟨i,hi⟩:=cB9.1 h
 rw [cAk] at hi
 split at hi
 ·next c=>exact ⟨i,c,hi⟩
 ·cases hi

theorem bSd {as:lAS} {ls:lLk} (h1:1<=as.length) (h8:as.length<=8) (ha:AsI as) (hv: ∀ x∈ls,aAh (as,ls) x=true) (hp:ls.Pairwise fun y x=>cY y x.1 x.2.1=false∧cY y x.2.2.1 x.2.2.2.1=false):uL (as,ls)=true:=by
 unfold uL
 rw [bZb,bZb]
 refine ⟨?_,?_,?_⟩
 ·simp only [inR,bZb,zR];omega
 ·refine aZz (asP (as,ls)) (l:=as) fun j x hx=> ?_
  obtain ⟨⟨a0,a1⟩,v,v0,v1,v2⟩:=ha j x hx
  have hj:j<as.length:=(bZf.1 hx).1
  have v2:1+8 * v+(j:Int)=x.2.2:=v2
  unfold asP
  simp only [bZb,inR,zR]
  refine ⟨⟨a0,show (2:Int)>=x.1 by omega⟩,⟨show (1:Int)<=x.2.2 by omega,show (2147483646:Int)>=x.2.2 by omega⟩,bZx.2 fun y hy=> ?_⟩
  obtain ⟨i,hi,hy⟩:=aHl hy
  obtain ⟨_,w,w0,w1,w2⟩:=ha i y hy
  have w2:1+8 * w+(i:Int)=y.2.2:=w2
  have :x.2.2≠y.2.2:=fun e=>by
   have e:1+8 * v+(j:Int)=1+8 * w+(i:Int):=v2.trans (e.trans w2.symm)
   omega
  simpa using this
 ·refine aZz (lkP (as,ls)) (l:=ls) fun j x hx=> ?_
  unfold lkP
  rw [bZb]
  refine ⟨hv x (bZk hx),bZx.2 fun y hy=> ?_⟩
  obtain ⟨i,hi,hy⟩:=aHl hy
  obtain ⟨hi',ei⟩:=bZf.1 hy
  obtain ⟨hj',ej⟩:=bZf.1 hx
  have :=(cA2.1 hp) i j hi' hj' hi
  rw [ei,ej] at this
  simp [this.1,this.2]


structure aCi (as:lAS) (ls:lLk):Prop where
 pos:1<=as.length
 len:as.length<=8
 links:ls.length<=100
 val: ∀ x∈ls,aAh (as,ls) x=true
 top:uL (as,ls)=true

def aXb (code:List Int) (o:Option (lAS×lLk×List Int×q25)):Prop:= ∃ as ls c' p' h',o=some (as,ls,c',p',h')∧aCi as ls∧Cur code (c',p',h')

def T3I (code:List Int) (n:Nat) (i:Nat) (s:Int×lAS×lLk×List Int×q25):Prop:=(s.2.1.length=n∧AsI s.2.1∧qP s.2.2.1)∧s.2.2.1.length<=10 * i∧Cur code s.2.2.2

theorem bAj {code:List Int} (hl:code.length<=1048576) {c:List Int} {p h:Int} (hc:Cur code (c,p,h)):aXb code (wJ (c,p,h)):=by
 obtain ⟨v1,c1,p1,h1,e1,r1,k1⟩:=bC hl (n:=3) (by decide) (by decide) hc
 obtain ⟨v2,c2,p2,h2,e2,r2,k2⟩:=bC hl (n:=6) (by decide) (by decide) k1
 obtain ⟨m1,rfl⟩:=bZ1 r1.1
 obtain ⟨m2,rfl⟩:=bZ1 r2.1
 have w1:wr ((1:Int)+(m1:Int))=((m1+1:Nat):Int):=by rw [bN (by omega) (by omega)];omega
 have w2:wr (((m1+1:Nat):Int)+(m2:Int))=((m1+1+m2:Nat):Int):=by rw [bN (by omega) (by omega)];omega
 unfold wJ ixb pj2 pj3 pj4 pj5
 simp only [e1,e2,aA,aV,bJ,aZ,aY,bA,w1,w2]
 generalize hco:m1+1=co at *
 generalize hn:co+m2=n at *
 have hco1:1<=co:=by omega
 have hcn:co<=n:=by omega
 have hn8:n<=8:=by omega
 refine bZ (G:=aXb code) n (fun s:Int×lAS×List Int×Int×Int=>s.1) (fun i s=>(s.2.1.length=i∧AsI s.2.1)∧Cur code s.2.2) (fun r:lAS×List Int×Int×Int=>(r.1.length=n∧AsI r.1)∧Cur code r.2) ?_ ?_ 0 ((0:Int),[],c2,p2,h2) (by omega) rfl ⟨⟨rfl,bS8⟩,k2⟩ ?_
 ·rintro i ⟨_,as,c3,p3,h3⟩ hi rfl ⟨⟨a1,a3⟩,a2⟩
  simp only at a1 a2 a3
  right
  obtain ⟨v4,c4,p4,h4,e4,r4,k4⟩:=bC hl (n:=2) (by decide) (by decide) a2
  obtain ⟨v5,c5,p5,h5,e5,r5,k5⟩:=aHh hl (n:=1000000) (by decide) k4
  refine ⟨(((i+1:Nat):Int),as++[(v4,decide ((i:Int)<((co:Nat):Int)),wr ((wr ((1:Int)+(wr (v5 * (8:Int)))))+(i:Int)))],c5,p5,h5),?_,rfl,⟨by simp [a1],?_⟩,k5⟩
  simp only [zX (show (i:Int)<(n:Int) by omega),zZ,e4,e5,aA,aD (b:=24) (n:=as.length) (m:=1) (by decide) (by omega),aW (show i<=1000000000 by omega)]
  have e:wr ((wr ((1:Int)+(wr (v5 * (8:Int)))))+(i:Int))=1+8 * v5+(as.length:Int):=by
   rw [bN (n:=v5 * 8) (by omega) (by omega),bN (n:=1+v5 * 8) (by omega) (by omega),bN (by omega) (by omega)]
   omega
  show AsI (as++[_])
  rw [e]
  exact a3.snoc ⟨by omega,by omega⟩ ⟨by omega,by omega⟩
 ·rintro ⟨_,as,c3,p3,h3⟩ rfl ⟨a1,a2⟩
  exact ⟨(as,c3,p3,h3),by simp only [zW (bZp _),zY],a1,a2⟩
 rintro ⟨as,c3,p3,h3⟩ ⟨⟨a1,a3⟩,a2⟩
 simp only at a1 a2 a3
 refine bZ (G:=aXb code) co (fun s:Int×lAS×lLk×List Int×Int×Int=>s.1) (fun i s=>1<=i∧T3I code n i s) (fun r:lAS×lLk×List Int×Int×Int=>(r.1.length=n∧AsI r.1∧qP r.2.1)∧r.2.1.length<=10 * co∧Cur code r.2.2) ?_ ?_ 1 ((1:Int),as,[],c3,p3,h3) hco1 rfl ⟨bZq 1,⟨a1,a3,bEv⟩,by simp,a2⟩ ?_
 ·rintro i ⟨_,as,ls,c4,p4,h4⟩ hi rfl ⟨b0,b1,b2,b3⟩
  simp only at b1 b2 b3
  right
  obtain ⟨v5,c5,p5,h5,e5,r5,k5⟩:=bC hl (n:=(i:Int)) (by omega) (by omega) b3
  obtain ⟨l6,e6,r6,f6⟩:=aHg (t:=(as,ls)) (a:=v5) (b:=(i:Int)) (k:=1) (by show ls.length<=_;omega) (by omega) b1.2.2
  obtain ⟨v7,c7,p7,h7,e7,k7⟩:=tR hl (n:=2) (by decide) (by decide) k5
  simp only at e6 r6
  cases v7 with
  | false=>
   refine ⟨(((i+1:Nat):Int),as,l6,c7,p7,h7),?_,rfl,by omega,⟨b1.1,b1.2.1,f6⟩,by simp only;omega,k7⟩
   simp only [zX (show (i:Int)<(co:Int) by omega),zZ,zY,e5,e6,e7,aA,aW (show i<=1000000000 by omega)]
  | true=>
   obtain ⟨v8,c8,p8,h8,e8,r8,k8⟩:=bC hl (n:=(i:Int)) (by omega) (by omega) k7
   obtain ⟨l9,e9,r9,f9⟩:=aHg (t:=(as,l6)) (a:=v8) (b:=(i:Int)) (k:=1) (by show l6.length<=_;omega) (by omega) f6
   simp only at e9 r9
   refine ⟨(((i+1:Nat):Int),as,l9,c8,p8,h8),?_,rfl,by omega,⟨b1.1,b1.2.1,f9⟩,by simp only;omega,k8⟩
   simp only [zX (show (i:Int)<(co:Int) by omega),zZ,e5,e6,e7,e8,e9,aA,aW (show i<=1000000000 by omega)]
 ·rintro ⟨_,as,ls,c4,p4,h4⟩ rfl ⟨b0,b1,b2,b3⟩
  exact ⟨(as,ls,c4,p4,h4),by simp only [zW (bZp _),zY],b1,b2,b3⟩
 rintro ⟨as,ls,c4,p4,h4⟩ ⟨b1,b2,b3⟩
 simp only at b1 b2 b3
 refine bZ (G:=aXb code) n (fun s:Int×lAS×lLk×List Int×Int×Int=>s.1) (fun i s=>1<=i∧co<=i∧T3I code n i s) (fun r:lAS×lLk×List Int×Int×Int=>(r.1.length=n∧AsI r.1∧qP r.2.1)∧r.2.1.length<=10 * n∧Cur code r.2.2) ?_ ?_ co (((co:Nat):Int),as,ls,c4,p4,h4) hcn rfl ⟨hco1,bZq co,b1,b2,b3⟩ ?_
 ·rintro i ⟨_,as,ls,c5,p5,h5⟩ hi rfl ⟨d0,d1,⟨d2,d5,d6⟩,d3,d4⟩
  simp only at d2 d3 d4 d5 d6
  right
  have hlen:(as.length:Int)=(n:Int):=by omega
  obtain ⟨v6,c6,p6,h6,e6,r6,k6⟩:=bC hl (n:=2) (by decide) (by decide) d4
  obtain ⟨m6,rfl⟩:=bZ1 r6.1
  have w6:wr ((1:Int)+(m6:Int))=((m6+1:Nat):Int):=by rw [bN (by omega) (by omega)];omega
  simp only [hlen,zX (show (i:Int)<(n:Int) by omega),zZ,e6,w6,aA,Option.bind_assoc]
  refine kI (G:=fun o=> ∃ s',o=some (bY6 s')∧s'.1=((i+1:Nat):Int)∧1<=i+1∧co<=i+1∧T3I code n (i+1) s') (fun (m:Nat) (s:Int×lAS×lLk×List Int×q25)=>s.1=(m:Int)∧m<=2∧(s.2.1.length=n∧AsI s.2.1∧qP s.2.2.1)∧s.2.2.1.length+m<=10 * i+2∧Cur code s.2.2.2) (fun r:lAS×lLk×List Int×Int×Int=>(r.1.length=n∧AsI r.1∧qP r.2.1)∧r.2.1.length<=10 * i+2∧Cur code r.2.2) ?_ (m6+1) (((m6+1:Nat):Int),as,ls,c6,p6,h6) ⟨rfl,by omega,⟨d2,d5,d6⟩,by simp only;omega,k6⟩ ?_
  ·rintro m ⟨_,as,ls,c7,p7,h7⟩ ⟨rfl,f1,⟨f2,f5,f6⟩,f3,f4⟩
   simp only at f2 f3 f4 f5 f6
   cases m with
   | zero=>exact .inl ⟨(as,ls,c7,p7,h7),rfl,⟨f2,f5,f6⟩,by simpa using f3,f4⟩
   | succ m=>
    right
    obtain ⟨v8,c8,p8,h8,e8,r8,k8⟩:=bC hl (n:=(i:Int)) (by omega) (by omega) f4
    obtain ⟨q8,rfl⟩:=bZ1 r8.1
    obtain ⟨v9,c9,p9,h9,e9,k9⟩:=tR hl (n:=5) (by decide) (by decide) k8
    have hq:q8<n:=by omega
    have hlen:(as.length:Int)=(n:Int):=by omega
    have hq1:as[q8]? =some (as[q8]'(by omega)):=bY7 (by omega)
    have hi1:as[i]? =some (as[i]'(by omega)):=bY7 (by omega)
    have wm:wr (((m+1:Nat):Int) - 1)=(m:Int):=by rw [bN (by omega) (by omega)];omega
    have fin: ∀ (as':lAS) (c p h:_),as'.length=n→AsI as'→Cur code (c,p,h)→ ∃ s',(Option.bind (cond (decide ((0:Int)<=(q8:Int))) (cond (decide ((q8:Int)<(as'.length:Int))) (Option.bind as'[((q8:Nat):Int).toNat]? fun x79=>cond (decide ((0:Int)<=(i:Int))) (cond (decide ((i:Int)<(as'.length:Int))) (Option.bind as'[((i:Nat):Int).toNat]? fun x80=>cond (x79.1==x80.1) (Option.bind (uO (as',ls) (q8:Int) (i:Int) (2:Int)) fun y81=>some (y81.1,y81.2,c,p,h)) (some (as',ls,c,p,h))) none) none) none) none) fun (s82:lAS×lLk×List Int×q25)=>some (bY6 (wr (((m+1:Nat):Int) - (1:Int)),s82.1,s82.2.1,s82.2.2.1,s82.2.2.2.1,s82.2.2.2.2)):Option ((Int×lAS×lLk×List Int×q25)⊕(lAS×lLk×List Int×q25)))=some (bY6 s')∧s'.1=(m:Int)∧m<=2∧(s'.2.1.length=n∧AsI s'.2.1∧qP s'.2.2.1)∧s'.2.2.1.length+m<=10 * i+2∧Cur code s'.2.2.2:=by
     intro as' c p h g1 g3 g2
     have hl':(as'.length:Int)=(n:Int):=by omega
     have hq1:as'[q8]? =some (as'[q8]'(by omega)):=bY7 (by omega)
     have hi1:as'[i]? =some (as'[i]'(by omega)):=bY7 (by omega)
     simp only [hl',zX (show (0:Int)<=(q8:Int) by omega),zX (show (q8:Int)<(n:Int) by omega),zX (show (0:Int)<=(i:Int) by omega),zX (show (i:Int)<(n:Int) by omega),zZ,bZi,hq1,hi1,aA,wm]
     obtain ⟨l6,e6,r6,z6⟩:=aHg (t:=(as',ls)) (a:=(q8:Int)) (b:=(i:Int)) (k:=2) (by show ls.length<=_;omega) (by omega) f6
     simp only at e6 r6
     cases (as'[q8]'(by omega)).1==(as'[i]'(by omega)).1 with
     | true=>exact ⟨_,by simp only [zZ,e6,aA];rfl,rfl,by omega,⟨g1,g3,z6⟩,by simp only;omega,g2⟩
     | false=>exact ⟨_,by simp only [zY,aA];rfl,rfl,by omega,⟨g1,g3,f6⟩,by simp only;omega,g2⟩
    cases v9 with
    | true=>
     obtain ⟨s',g1,g2⟩:=fin as c9 p9 h9 f2 f5 k9
     refine ⟨m,s',by omega,?_,g2⟩
     rw [← g1]
     simp only [zX (show ((m+1:Nat):Int)>0 by omega),zZ,zY,e8,e9,aA,bY9]
    | false=>
     obtain ⟨s',g1,g2⟩:=fin (as.set i ((as[q8]'(by omega)).1,(as[i]'(by omega)).2.1,(as[i]'(by omega)).2.2)) c9 p9 h9 (by simp [f2]) (f5.set (by omega) (by omega)) k9
     refine ⟨m,s',by omega,?_,g2⟩
     rw [← g1]
     simp only [zX (show ((m+1:Nat):Int)>0 by omega),zZ,e8,e9,aA,bZj,hlen,zX (show (0:Int)<=(q8:Int) by omega),zX (show (q8:Int)<(n:Int) by omega),zX (show (0:Int)<=(i:Int) by omega),zX (show (i:Int)<(n:Int) by omega),bZi,hq1,hi1]
  ·rintro ⟨as,ls,c7,p7,h7⟩ ⟨⟨f1,f5,f6⟩,f2,f3⟩
   simp only at f1 f2 f3 f5 f6
   have w7:wr (wr ((i:Int) - (co:Int))+1)=((i - co+1:Nat):Int):=by rw [bN (n:=(i:Int) - (co:Int)) (by omega) (by omega),bN (by omega) (by omega)];omega
   obtain ⟨v8,c8,p8,h8,e8,r8,k8⟩:=bC hl (n:=((i - co+1:Nat):Int)) (by omega) (by omega) f3
   obtain ⟨v9,c9,p9,h9,e9,k9⟩:=tR hl (n:=3) (by decide) (by decide) k8
   simp only [w7,e8,aA,aW (show i<=1000000000 by omega)]
   cases hlt:decide (wr ((co:Int)+v8)<(i:Int)) with
   | false=>exact ⟨_,by simp only [zY,aA];rfl,rfl,by omega,by omega,⟨f1,f5,f6⟩,by simp only;omega,k8⟩
   | true=>
    have hlt':=of_decide_eq_true hlt
    obtain ⟨l6,e6,r6,z6⟩:=aHg (t:=(as,ls)) (a:=wr ((co:Int)+v8)) (b:=(i:Int)) (k:=3) (by show ls.length<=_;omega) (by omega) f6
    simp only at e6 r6
    cases v9 with
    | false=>exact ⟨_,by simp only [zZ,zY,e9,aA];rfl,rfl,by omega,by omega,⟨f1,f5,f6⟩,by simp only;omega,k9⟩
    | true=>exact ⟨_,by simp only [zZ,e9,e6,aA];rfl,rfl,by omega,by omega,⟨f1,f5,z6⟩,by simp only;omega,k9⟩
 ·rintro ⟨_,as,ls,c5,p5,h5⟩ rfl ⟨d0,d1,⟨d2,d5⟩,d3,d4⟩
  simp only at d2 d3 d4 d5
  exact ⟨(as,ls,c5,p5,h5),by simp only [d2,zW (bZp _),zY],⟨d2,d5⟩,d3,d4⟩
 rintro ⟨as,ls,c5,p5,h5⟩ ⟨⟨d2,d5,d6⟩,d3,d4⟩
 simp only at d2 d3 d4 d5 d6
 refine bZ (G:=aXb code) ls.length (fun s:Int×lLk=>s.1) (fun i s=>(s.2.length<=i∧List.Sublist s.2 (ls.take i))∧ ∀ x∈s.2,aAh (as,ls) x=true) (fun r:lLk=>(r.length<=ls.length∧List.Sublist r ls)∧ ∀ x∈r,aAh (as,ls) x=true) ?_ ?_ 0 ((0:Int),[]) (by omega) rfl ⟨⟨by simp,List.nil_sublist _⟩,fun d hd=>(bZw hd).elim⟩ ?_
 ·rintro i ⟨_,l⟩ hi rfl ⟨⟨g1,g3⟩,g2⟩
  simp only at g1 g2 g3
  right
  have htk:ls.take (i+1)=ls.take i++[ls[i]]:=(List.take_append_getElem hi).symm
  simp only [zX (show (i:Int)<(ls.length:Int) by omega),zX (show (0:Int)<=(i:Int) by omega),zZ,bZi,bY7 hi,aA,aZ6 (t:=(as,ls)) (show as.length<=68719476736 by omega),aW (show i<=1000000000 by omega)]
  rw [aD (b:=40) (n:=l.length) (m:=1) (by decide) (by omega),zZ]
  cases hv:aAh (as,ls) ls[i] with
  | true=>exact ⟨_,rfl,rfl,⟨by simp;omega,by rw [htk];exact g3.append (List.Sublist.refl _)⟩,fun x hx=>by
    rcases bZh.1 hx with hx | hx
    ·exact g2 x hx
    ·rw [bZg.1 hx];exact hv⟩
  | false=>exact ⟨_,rfl,rfl,⟨by show l.length<=i+1;omega,by rw [htk];exact g3.trans (List.sublist_append_left _ _)⟩,g2⟩
 ·rintro ⟨_,l⟩ rfl ⟨⟨g1,g3⟩,g2⟩
  exact ⟨l,by simp only [zW (bZp _),zY],⟨g1,g3.trans (List.take_sublist _ _)⟩,g2⟩
 rintro l ⟨⟨g1,g3⟩,g2⟩
 exact ⟨as,l,c5,p5,h5,rfl,⟨by omega,by omega,by omega,g2,bSd (by omega) (by omega) d5 g2 (d6.pw.sublist g3)⟩,d4⟩

theorem aD6 {s:den tSg} (h:s.2.2.length<=1000000): ∃ l,dB s=some l∧l.length=s.2.2.length:=by
 unfold dB
 refine bZ (G:=fun o=> ∃ l,o=some l∧l.length=s.2.2.length) s.2.2.length (fun s:Int×List Int=>s.1) (fun i t=>t.2.length=i) (fun l:List Int=>l.length=s.2.2.length) ?_ ?_ 0 ((0:Int),[]) (by omega) rfl rfl (fun l hl=>⟨l,rfl,hl⟩)
 ·rintro i ⟨_,l⟩ hi rfl h1
  simp only at h1
  right
  refine ⟨(((i+1:Nat):Int),l++[s.2.2[i].1]),?_,rfl,by simp [h1]⟩
  simp only [zX (show (i:Int)<(s.2.2.length:Int) by omega),zZ,aG,bY7 hi,aA,aD (b:=8) (n:=l.length) (m:=1) (by decide) (by omega),aW (show i<=1000000000 by omega)]
 ·rintro ⟨_,l⟩ rfl h1
  exact ⟨l,by simp only [zW (bZp _),zY],h1⟩

theorem bG9 {s:den tSg} {n:Nat} (hn:n<=s.2.2.length) (h:s.2.2.length<=1000000): ∃ l,uU s (n:Int)=some l∧l.length=n:=by
 unfold uU zz4
 refine bZ (G:=fun o=> ∃ l,o=some l∧l.length=n) n (fun s:Int×List Int=>s.1) (fun i t=>t.2.length=i) (fun l:List Int=>l.length=n) ?_ ?_ 0 ((0:Int),[]) (by omega) rfl rfl (fun l hl=>⟨l,rfl,hl⟩)
 ·rintro i ⟨_,l⟩ hi rfl h1
  simp only at h1
  right
  have hi':i<s.2.2.length:=by omega
  refine ⟨(((i+1:Nat):Int),l++[s.2.2[i].2.2.2.2]),?_,rfl,by simp [h1]⟩
  simp only [zX (show (i:Int)<(n:Int) by omega),zZ,aG,bY7 hi',aA,aD (b:=8) (n:=l.length) (m:=1) (by decide) (by omega),aW (show i<=1000000000 by omega)]
 ·rintro ⟨_,l⟩ rfl h1
  exact ⟨l,by simp only [zW (bZp _),zY],h1⟩

theorem bI1 {b:Int} {l:List Int} (h:l.length<=1000000): ∃ v,vR b l=some v:=by
 unfold vR
 refine bZ (G:=fun o=> ∃ v,o=some v) l.length (fun s:Int×Int=>s.2) (fun i t=>True) (fun v:Int=>True) ?_ ?_ 0 (b,(0:Int)) (by omega) rfl trivial (fun v hv=>⟨v,rfl⟩)
 ·rintro i ⟨v,_⟩ hi rfl _
  right
  refine ⟨(aPa v l[i],((i+1:Nat):Int)),?_,rfl,trivial⟩
  simp only [zX (show (i:Int)<(l.length:Int) by omega),zZ,aG,bY7 hi,aA,aXv,aW (show i<=1000000000 by omega)]
 ·rintro ⟨v,_⟩ rfl _
  exact ⟨v,by simp only [zW (bZp _),zY],trivial⟩

theorem aCc {s:den tSg} (i:Int) (h:s.2.2.length<=1000000): ∃ v,hO s i=some v:=by
 unfold hO pj3
 rw [fG,aA]
 cases hc:inR i 0 (s.2.2.length:Int) with
 | false=>exact ⟨0,rfl⟩
 | true=>
  obtain ⟨h0,h1⟩:=bT.1 hc
  obtain ⟨n,rfl⟩:=bZ1 h0
  obtain ⟨l,e,k⟩:=bG9 (s:=s) (n:=n) (by omega) h
  obtain ⟨v,e2⟩:=bI1 (b:=s.2.1) (l:=l) (by omega)
  refine ⟨v,?_⟩
  show Option.bind (uU s (n:Int)) _=_
  rw [e,aA,e2,aA]

theorem aYl (key ts b:Int) (h:den cH):fC key ts b h=some (h.1,h.2.1,h.2.2.1,h.2.2.2.1,aIf key ts b h):=by
 unfold fC pj5
 rw [show ((h.1,h.2.1,h.2.2.1,h.2.2.2.1,h.2.2.2.2):den cH)=h from rfl,bF6,aA]

def bYf (code:List Int) (o:Option (Int×Int×dA×List Int×q25)):Prop:= ∃ a b hs c' p' h',o=some (a,b,hs,c',p',h')∧hs.length<=5∧Cur code (c',p',h')


def aG8 (hs:dA):Prop:= ∀ x∈hs,(0:Int)<=x.1∧(8:Int)>x.1

def bYm (code:List Int) (o:Option (Int×Int×dA×List Int×q25)):Prop:= ∃ a b hs c' p' h',o=some (a,b,hs,c',p',h')∧(hs.length<=5∧aG8 hs)∧Cur code (c',p',h')

theorem aG8.snoc {hs:dA} {x:den cH} (h:aG8 hs) (hx:(0:Int)<=x.1∧(8:Int)>x.1):aG8 (hs++[x]):=fun y hy=>(bZh.1 hy).elim (h y) fun hy=>by rw [bZg.1 hy];exact hx


def InN (n:Int) (hs:dA):Prop:= ∀ x∈hs,(0:Int)<=x.1∧n>x.1

def bMw (n:Int) (code:List Int) (o:Option (Int×Int×dA×List Int×q25)):Prop:= ∃ a b hs c' p' h',o=some (a,b,hs,c',p',h')∧(hs.length<=5∧InN n hs)∧Cur code (c',p',h')

theorem InN.snoc {n:Int} {hs:dA} {x:den cH} (h:InN n hs) (hx:(0:Int)<=x.1∧n>x.1):InN n (hs++[x]):=fun y hy=>(bZh.1 hy).elim (h y) fun hy=>by rw [bZg.1 hy];exact hx

theorem InN.as {n:Int} {hs:dA} (h:InN n hs) (hn:n<=8):aG8 hs:=fun x hx=>⟨(h x hx).1,by have :=(h x hx).2;omega⟩

abbrev GrS:=Int×Int×Int×Int×Int×dA×List Int×Int×Int

theorem bA9 {code:List Int} (hl:code.length<=1048576) {as:lAS} {ls:lLk} (ht:aCi as ls) (k:Int) {c:List Int} {p h:Int} (hc:Cur code (c,p,h)):bMw (as.length:Int) code (jN (c,p,h) (as,ls) k):=by
 have hlen:=ht.len
 have hlk:=ht.links
 unfold jN dd ixb one pj2 pj3 pj5 pj6 zz4 zz5 zz6
 simp only [aV,bJ,aZ,aY,bA]
 refine bZ (G:=bMw (as.length:Int) code) as.length (fun s:Int×List Int=>s.1) (fun i t=>t.2.length<=i∧ ∀ x∈t.2,0<=x∧x<(as.length:Int)) (fun r:List Int=>r.length<=8∧ ∀ x∈r,0<=x∧x<(as.length:Int)) ?_ ?_ 0 ((0:Int),[]) (by omega) rfl ⟨by simp,fun d hd=>(bZw hd).elim⟩ ?_
 ·rintro i ⟨_,l⟩ hi rfl ⟨g1,g2⟩
  simp only at g1 g2
  right
  simp only [zX (show (i:Int)<(as.length:Int) by omega),zZ,aG,bY7 hi,aA,aD (b:=8) (n:=l.length) (m:=1) (by decide) (by omega),aW (show i<=1000000000 by omega)]
  cases as[i].2.1 with
  | true=>exact ⟨_,rfl,rfl,by simp;omega,fun x hx=>by
    rcases bZh.1 hx with hx | hx
    ·exact g2 x hx
    ·rw [bZg.1 hx];omega⟩
  | false=>exact ⟨_,rfl,rfl,by show l.length<=i+1;omega,g2⟩
 ·rintro ⟨_,l⟩ rfl ⟨g1,g2⟩
  exact ⟨l,by simp only [zW (bZp _),zY],by simp only at g1;omega,g2⟩
 rintro cores ⟨g1,g2⟩
 obtain ⟨v1,c1,p1,h1,e1,r1,k1⟩:=bC hl (n:=50) (by decide) (by decide) hc
 obtain ⟨v2,c2,p2,h2,e2,r2,k2⟩:=aHh hl (n:=1000000) (by decide) k1
 simp only [e1,e2,aA]
 by_cases h0:cores.length=0
 ·rw [show ((cores.length:Int)==0)=true by rw [beq_iff_eq];omega,zZ]
  exact ⟨_,_,_,_,_,_,rfl,⟨by simp,fun x hx=>(bZw hx).elim⟩,k2⟩
 rw [show ((cores.length:Int)==0)=false by rw [beq_eq_false_iff_ne];omega,zY]
 obtain ⟨v3,c3,p3,h3,e3,r3,k3⟩:=bC hl (n:=(cores.length:Int)) (by omega) (by omega) k2
 obtain ⟨m3,rfl⟩:=bZ1 r3.1
 have hm3:m3<cores.length:=by omega
 have hr:=g2 cores[m3] (bZl hm3)
 simp only [e3,aA,zX (show (0:Int)<=(m3:Int) by omega),zX (show (m3:Int)<(cores.length:Int) by omega),zZ,bZi,bY7 hm3]
 generalize cores[m3]=r at hr
 refine bZ (G:=bMw (as.length:Int) code) 5 (fun s:GrS=>s.2.2.1) (fun i s=>(0<=s.1∧s.1<(as.length:Int))∧(s.2.2.2.2.2.1.length=i∧InN (as.length:Int) s.2.2.2.2.2.1)∧Cur code s.2.2.2.2.2.2) (fun z:((Int×Int×dA×List Int×q25)⊕(Int×Int×dA×List Int×q25))=> ∃ a b hs c p h,(z= .inl (a,b,hs,c,p,h)∨z= .inr (a,b,hs,c,p,h))∧(hs.length<=5∧InN (as.length:Int) hs)∧Cur code (c,p,h)) ?_ ?_ 0 (r,(0:Int),(0:Int),v1,v2,[],c3,p3,h3) (by omega) rfl ⟨hr,⟨rfl,fun x hx=>(bZw hx).elim⟩,k3⟩ ?_
 ·rintro i ⟨r,inn,_,ts,be,hs,c4,p4,h4⟩ hi rfl ⟨b1,⟨b2,b2'⟩,b3⟩
  simp only at b1 b2 b2' b3
  obtain ⟨rn,rfl⟩:=bZ1 b1.1
  have hrn:rn<as.length:=by omega
  obtain ⟨ds,ek,dl,dm⟩:=bFk (t:=(as,ls)) (r:=(rn:Int)) (k:=k) (by show ls.length<=_;omega)
  have dl:ds.length<=2 * ls.length:=dl
  have hout: ∃ out c5 p5 h5,(Option.bind (cond (decide ((ds.length:Int)>(0:Int))) (Option.bind (dM (c4,p4,h4) (5:Int)) fun y35=>some (!y35.1,y35.2.1,y35.2.2.1,y35.2.2.2)) (some (false,c4,p4,h4))) fun (s36:Bool×List Int×q25)=>cond s36.1 (Option.bind (aE (s36.2.1,s36.2.2.1,s36.2.2.2) (ds.length:Int)) fun y37=>cond (decide ((0:Int)<=y37.1)) (cond (decide (y37.1<(ds.length:Int))) (Option.bind ds[y37.1.toNat]? fun x38=>some (x38,y37.2.1,y37.2.2.1,y37.2.2.2)) none) none) (some ((0:Int),s36.2.1,s36.2.2.1,s36.2.2.2)):Option (Int×List Int×q25))=some (out,c5,p5,h5)∧(out=0∨out∈gA (as,ls) (rn:Int))∧Cur code (c5,p5,h5):=by
   by_cases hd:(ds.length:Int)>0
   ·obtain ⟨v5,c5,p5,h5,e5,k5⟩:=tR hl (n:=5) (by decide) (by decide) b3
    simp only [zX hd,zZ,e5,aA]
    cases v5 with
    | true=>exact ⟨0,c5,p5,h5,rfl,.inl rfl,k5⟩
    | false=>
     obtain ⟨v6,c6,p6,h6,e6,r6,k6⟩:=bC hl (n:=(ds.length:Int)) hd (by omega) k5
     obtain ⟨m6,rfl⟩:=bZ1 r6.1
     have hm6:m6<ds.length:=by omega
     exact ⟨ds[m6],c6,p6,h6,by simp only [bZj,zZ,e6,aA,zX (show (0:Int)<=(m6:Int) by omega),zX (show (m6:Int)<(ds.length:Int) by omega),bZi,bY7 hm6],.inr (dm _ (bZl hm6)),k6⟩
   ·exact ⟨0,c4,p4,h4,by simp only [zW hd,zY,aA],.inl rfl,b3⟩
  obtain ⟨out,c5,p5,h5,eo,ho,k5⟩:=hout
  obtain ⟨al,ea,hal⟩:=aD6 (s:=(ts,be,hs)) (by show hs.length<=_;omega)
  have hal:al.length=hs.length:=hal
  have er:=aGq (t:=(as,ls)) (r:=(rn:Int)) (d:=out) (show ls.length<=68719476736 by omega)
  have hfar:out∈gA (as,ls) (rn:Int)→0<=(remote (as,ls) (rn:Int) out).1∧(remote (as,ls) (rn:Int) out).1<(as.length:Int):=fun hd=>by
   have :=bGr (t:=(as,ls)) ht.val hd
   unfold cM at this
   obtain ⟨h0,h1⟩:=bT.1 this
   exact ⟨h0,by simp only at h1;omega⟩
  generalize remote (as,ls) (rn:Int) out=fd at er hfar
  obtain ⟨far,door⟩:=fd
  simp only at hfar
  obtain ⟨bb,eb⟩: ∃ b:Bool,(cond (out != (0:Int)) (Option.bind (dB (ts,be,hs)) fun y41=>Option.bind (fK y41 far) fun y42=>cond y42 (some true) (cond (far==(rn:Int)) (some true) (some (inn==out)))) (some (inn==out)))=some b:=by
   rw [ea,aA,aGr (by omega),aA]
   cases out != 0<;>cases oL al far<;>cases far==(rn:Int)<;>exact ⟨_,rfl⟩
  obtain ⟨v6,c6,p6,h6,e6,r6,k6⟩:=bC hl (n:=50) (by decide) (by decide) k5
  obtain ⟨bt,et⟩:=aCc (s:=(ts,be,hs)) (hs.length:Int) (by show hs.length<=_;omega)
  have ix:as[rn]? =some as[rn]:=bY7 hrn
  have hap:aH 40 hs.length 1=true:=aD (by decide) (by omega)
  simp only [zX (show (i:Int)<5 by omega),zZ,ek,aA]
  rw [eo,aA]
  simp only [er,aA]
  rw [eb,aA]
  have body: ∀ o:Int,o=0∨o=out→(∃ r,(cond (o==(0:Int)) (some (bY5 (bY5 (ts,be,hs++[(((rn:Int),inn,o,wr ((wr (ts+(50:Int)))+v6),aIf as[rn].2.2 ts bt ((rn:Int),inn,o,wr ((wr (ts+(50:Int)))+v6),0)):den cH)],c6,p6,h6)))) (some (bY6 (far,door,wr ((i:Int)+(1:Int)),ts,be,hs++[(((rn:Int),inn,o,wr ((wr (ts+(50:Int)))+v6),aIf as[rn].2.2 ts bt ((rn:Int),inn,o,wr ((wr (ts+(50:Int)))+v6),0)):den cH)],c6,p6,h6))):Option (GrS⊕((Int×Int×dA×List Int×q25)⊕(Int×Int×dA×List Int×q25))))=some (.inr r)∧(∃ a b hs c p h,(r= .inl (a,b,hs,c,p,h)∨r= .inr (a,b,hs,c,p,h))∧(hs.length<=5∧InN (as.length:Int) hs)∧Cur code (c,p,h)))∨
    ∃ s':GrS,(cond (o==(0:Int)) (some (bY5 (bY5 (ts,be,hs++[(((rn:Int),inn,o,wr ((wr (ts+(50:Int)))+v6),aIf as[rn].2.2 ts bt ((rn:Int),inn,o,wr ((wr (ts+(50:Int)))+v6),0)):den cH)],c6,p6,h6)))) (some (bY6 (far,door,wr ((i:Int)+(1:Int)),ts,be,hs++[(((rn:Int),inn,o,wr ((wr (ts+(50:Int)))+v6),aIf as[rn].2.2 ts bt ((rn:Int),inn,o,wr ((wr (ts+(50:Int)))+v6),0)):den cH)],c6,p6,h6))):Option (GrS⊕((Int×Int×dA×List Int×q25)⊕(Int×Int×dA×List Int×q25))))=some (.inl s')∧s'.2.2.1=((i+1:Nat):Int)∧(0<=s'.1∧s'.1<(as.length:Int))∧(s'.2.2.2.2.2.1.length=i+1∧InN (as.length:Int) s'.2.2.2.2.2.1)∧Cur code s'.2.2.2.2.2.2:=by
   intro o hoo
   cases hz:(o==(0:Int)) with
   | true=>exact .inl ⟨_,rfl,ts,be,_,c6,p6,h6,.inr rfl,⟨by simp;omega,b2'.snoc ⟨by simp only;omega,by simp only;omega⟩⟩,k6⟩
   | false=>
    refine .inr ⟨_,rfl,aW (show i<=1000000000 by omega),?_,⟨by simp [b2],b2'.snoc ⟨by simp only;omega,by simp only;omega⟩⟩,k6⟩
    have hne:o≠0:=by simpa using hz
    rcases hoo with h | rfl
    ·exact absurd h hne
    ·rcases ho with h | h
     ·exact absurd h hne
     ·exact hfar h
  cases bb with
  | true=>
   cases inn==(0:Int) with
   | true=>exact .inl ⟨_,rfl,ts,be,hs,c5,p5,h5,.inr rfl,⟨by omega,b2'⟩,k5⟩
   | false=>
    have :=body 0 (.inl rfl)
    simpa only [zZ,zY,aA,cAc,e6,aG,ix,et,aYl,hap] using this
  | false=>
   have :=body out (.inr rfl)
   simpa only [zZ,zY,aA,cAc,e6,aG,ix,et,aYl,hap] using this
 ·rintro ⟨r,inn,_,ts,be,hs,c4,p4,h4⟩ rfl ⟨b1,⟨b2,b2'⟩,b3⟩
  simp only at b1 b2 b2' b3
  exact ⟨.inl (ts,be,hs,c4,p4,h4),by simp only [show decide ((((5:Nat):Int))<(5:Int))=false from rfl,zY],ts,be,hs,c4,p4,h4,.inl rfl,⟨by omega,b2'⟩,b3⟩
 ·rintro z ⟨a,b,hs,c,p,h,hz,h5,k5⟩
  rcases hz with rfl | rfl
  ·exact ⟨a,b,hs,c,p,h,rfl,h5,k5⟩
  ·exact ⟨a,b,hs,c,p,h,rfl,h5,k5⟩

theorem bR9 {code:List Int} (hl:code.length<=1048576) {as:lAS} {ls:lLk} (ht:aCi as ls) (k:Int) {c:List Int} {p h:Int} (hc:Cur code (c,p,h)):bYm code (jN (c,p,h) (as,ls) k):=by
 obtain ⟨a,b,hs,c1,p1,h1,e,⟨l,m⟩,k1⟩:=bA9 hl ht k hc
 exact ⟨a,b,hs,c1,p1,h1,e,⟨l,m.as (by have :=ht.len;omega)⟩,k1⟩

theorem aGt {code:List Int} (hl:code.length<=1048576) {as:lAS} {ls:lLk} (ht:aCi as ls) (k:Int) {c:List Int} {p h:Int} (hc:Cur code (c,p,h)):bYf code (jN (c,p,h) (as,ls) k):=by
 obtain ⟨a,b,hs,c1,p1,h1,e,⟨l,_⟩,k1⟩:=bR9 hl ht k hc
 exact ⟨a,b,hs,c1,p1,h1,e,l,k1⟩

theorem aZv {as:lAS} {ls:lLk} (ht:aCi as ls) {s:den tSg} (h:s.2.2.length<=1000): ∃ b,iZ (as,ls) s=some b∧(b=true→ ∃ x,s.2.2[0]? =some x∧cM (as,ls) x.1=true):=by
 obtain ⟨al,ea,hal⟩:=aD6 (s:=s) (by omega)
 have hlen:=ht.len
 have hlk:=ht.links
 unfold iZ pj2 pj3 pj5
 rw [fG,aA]
 cases hc:inR (s.2.2.length:Int) 1 8 with
 | false=>exact ⟨false,rfl,fun e=>by cases e⟩
 | true=>
  obtain ⟨h0,h1⟩:=bT.1 hc
  have h00:0<s.2.2.length:=by omega
  have i0:idx s.2.2 (0:Int)=some s.2.2[0]:=by rw [show (0:Int)=((0:Nat):Int) from rfl,aG,bY7 h00]
  simp only [bY9,zY,i0,aA]
  cases s.2.2[0].2.1 != (0:Int) with
  | true=>exact ⟨false,rfl,fun e=>by cases e⟩
  | false=>
   simp only [zY]
   rw [show ((s.1,s.2.1,s.2.2):den tSg)=s from rfl,ea,aA]
   refine bZ (G:=fun o=> ∃ b,o=some b∧(b=true→ ∃ x,s.2.2[0]? =some x∧cM (as,ls) x.1=true)) s.2.2.length (fun s:List Int×Int=>s.2) (fun i t=>t.1=al∧(0<i→cM (as,ls) s.2.2[0].1=true)) (fun r:Unit⊕Bool=>r= .inl ()∧cM (as,ls) s.2.2[0].1=true∨r= .inr false) ?_ ?_ 0 (al,(0:Int)) (by omega) rfl ⟨rfl,fun h=>by omega⟩ ?_
   ·rintro i ⟨_,_⟩ hi rfl ⟨rfl,g2⟩
    rename_i al
    have ix:idx s.2.2 (i:Int)=some s.2.2[i]:=by rw [aG,bY7 hi]
    simp only [zX (show (i:Int)<(s.2.2.length:Int) by omega),zZ,ix,aA]
    rw [show ((s.2.2[i].1,s.2.2[i].2.1,s.2.2[i].2.2.1,s.2.2[i].2.2.2.1,s.2.2[i].2.2.2.2):den cH)=s.2.2[i] from rfl,aKh,aA,aBu (t:=(as,ls)) (show as.length<=_ by omega),aA]
    have e1:bR (0:Int) (i:Int) (al.length:Int)=true:=xS (by rw [hal];exact hi)
    have e2:fK (cut al (0:Int) (i:Int)) s.2.2[i].1=some (oL (cut al (0:Int) (i:Int)) s.2.2[i].1):=aGr (by rw [fF];exact bY8 (List.length_take_le _ _) (by omega))
    obtain ⟨b,eb,hb⟩: ∃ b:Bool,(cond (!(jS s.2.2[i])) (some true) (cond (!(cM (as,ls) s.2.2[i].1)) (some true) (cond (bR (0:Int) (i:Int) (al.length:Int)) (Option.bind (fK (cut al (0:Int) (i:Int)) s.2.2[i].1) fun y20=>cond y20 (some true) (cond (s.2.2[i].2.2.1==(0:Int)) (some (decide ((i:Int)<(wr ((s.2.2.length:Int) - (1:Int)))))) (some false))) none)))=some b∧(b=false→cM (as,ls) s.2.2[i].1=true):=by
     rw [e1,e2,aA]
     cases jS s.2.2[i]
     ·exact ⟨true,rfl,fun e=>by cases e⟩
     ·cases cM (as,ls) s.2.2[i].1
      ·exact ⟨true,rfl,fun e=>by cases e⟩
      ·cases oL (cut al (0:Int) (i:Int)) s.2.2[i].1
       ·cases s.2.2[i].2.2.1==(0:Int)
        ·exact ⟨false,rfl,fun _=>rfl⟩
        ·exact ⟨_,rfl,fun _=>rfl⟩
       ·exact ⟨true,rfl,fun _=>rfl⟩
    rw [eb,aA]
    cases b with
    | true=>exact .inl ⟨.inr false,rfl,.inr rfl⟩
    | false=>
     have hok:=hb rfl
     by_cases hp:i=0
     ·subst hp
      refine .inr ⟨(al,((1:Nat):Int)),?_,rfl,rfl,fun _=>hok⟩
      rfl
     ·have hi1:i - 1<s.2.2.length:=by omega
      have w1:wr ((i:Int) - 1)=((i - 1:Nat):Int):=by rw [bN (by omega) (by omega)];omega
      have er:=aGq (t:=(as,ls)) (r:=s.2.2[i - 1].1) (d:=s.2.2[i - 1].2.2.1) (show ls.length<=68719476736 by omega)
      simp only [zY,zX (show (i:Int)>0 by omega),zZ,w1,aG,bY7 hi1,aA,er]
      obtain ⟨b2,eb2⟩: ∃ b:Bool,(cond ((remote (as,ls) s.2.2[i - 1].1 s.2.2[i - 1].2.2.1).1 != s.2.2[i].1) (some true) (some ((remote (as,ls) s.2.2[i - 1].1 s.2.2[i - 1].2.2.1).2 != s.2.2[i].2.1)))=some b:=by
       cases (remote (as,ls) s.2.2[i - 1].1 s.2.2[i - 1].2.2.1).1 != s.2.2[i].1<;>exact ⟨_,rfl⟩
      rw [eb2,aA]
      cases b2 with
      | true=>exact .inl ⟨.inr false,rfl,.inr rfl⟩
      | false=>
       refine .inr ⟨(al,((i+1:Nat):Int)),?_,rfl,rfl,fun _=>g2 (by omega)⟩
       simp only [zY,aA,cAc,aW (show i<=1000000000 by omega)]
   ·rintro ⟨_,_⟩ rfl ⟨rfl,g2⟩
    exact ⟨.inl (),by simp only [zW (bZp _),zY],.inl ⟨rfl,g2 h00⟩⟩
   ·rintro r (⟨rfl,hr⟩ | rfl)
    ·exact ⟨true,rfl,fun _=>⟨s.2.2[0],bY7 h00,hr⟩⟩
    ·exact ⟨false,rfl,fun e=>by cases e⟩

theorem bS3 {as:lAS} {ls:lLk} (ht:aCi as ls) {s:den tSg} (h:s.2.2.length<=1000): ∃ v,gM (as,ls) s=some v:=by
 have hlen:=ht.len
 unfold gM pj2 pj3 pj5
 refine bZ (G:=fun o=> ∃ b,o=some b) s.2.2.length (fun s:Int=>s) (fun i t=>True) (fun r:Unit⊕Int=>True) ?_ ?_ 0 (0:Int) (by omega) rfl trivial ?_
 ·rintro i _ hi rfl _
  obtain ⟨bt,et⟩:=aCc (s:=s) (i:Int) (by omega)
  have et:hO (s.1,s.2.1,s.2.2) (i:Int)=some bt:=et
  have ev:=aV3 (t:=(as,ls)) (ts:=s.1) (beta:=bt) (h:=s.2.2[i]) (show as.length<=68719476736 by omega)
  have ev:fV (as,ls) s.1 bt (s.2.2[i].1,s.2.2[i].2.1,s.2.2[i].2.2.1,s.2.2[i].2.2.2.1,s.2.2[i].2.2.2.2)=some _:=ev
  simp only [zX (show (i:Int)<(s.2.2.length:Int) by omega),zZ,aG,bY7 hi,aA,et,ev,aW (show i<=1000000000 by omega)]
  cases aDs (as,ls) s.1 bt s.2.2[i] with
  | true=>exact .inr ⟨_,rfl,rfl,trivial⟩
  | false=>exact .inl ⟨_,rfl,trivial⟩
 ·rintro _ rfl _
  exact ⟨.inl (),by simp only [zW (bZp _),zY],trivial⟩
 ·rintro r _
  cases r with
  | inl u=>exact ⟨_,rfl⟩
  | inr v=>exact ⟨_,rfl⟩

theorem aTv {as:lAS} {ls:lLk} (ht:aCi as ls) {s:den tSg} (h:s.2.2.length<=1000): ∃ v,gN (as,ls) s=some v:=by
 have hlen:=ht.len
 have hlk:=ht.links
 obtain ⟨b,eb,hb⟩:=aZv ht h
 unfold gN pj2 pj3
 have eb:iZ (as,ls) (s.1,s.2.1,s.2.2)=some b:=eb
 rw [eb,aA]
 cases b with
 | false=>exact ⟨0,rfl⟩
 | true=>
  obtain ⟨x,hx,hok⟩:=hb rfl
  obtain ⟨h0,rfl⟩:=bZf.1 hx
  obtain ⟨y,hy,iy⟩:=aFz hok
  have ef:cI (s.1,s.2.1,s.2.2)=some s.2.2[0].1:=by
   unfold cI
   rw [show ((s.2.2.length:Int)==0)=false by rw [beq_eq_false_iff_ne];omega,zY,show (0:Int)=((0:Nat):Int) from rfl,aG,bY7 h0,aA]
  have iy:idx as s.2.2[0].1=some y:=iy
  simp only [bY9,zY,ef,iy,aA]
  cases y.2.1 with
  | false=>exact ⟨0,rfl⟩
  | true=>
   simp only [bY9,zY]
   refine bZ (G:=fun o=> ∃ b,o=some b) s.2.2.length (fun s:Int×Int=>s.2) (fun i t=>True) (fun r:Int⊕Int=>True) ?_ ?_ 0 ((0:Int),(0:Int)) (by omega) rfl trivial ?_
   ·rintro i ⟨k,_⟩ hi rfl _
    have ek:=aSb (t:=(as,ls)) (r:=s.2.2[i].1) (d:=s.2.2[i].2.2.1) (show ls.length<=68719476736 by omega)
    simp only [zX (show (i:Int)<(s.2.2.length:Int) by omega),zZ,aG,bY7 hi,aA,ek,aW (show i<=1000000000 by omega)]
    cases s.2.2[i].2.2.1==(0:Int) with
    | true=>exact .inr ⟨_,rfl,rfl,trivial⟩
    | false=>
     cases k != (0:Int) with
     | false=>exact .inr ⟨_,rfl,rfl,trivial⟩
     | true=>
      simp only [zZ,zY,aA]
      cases aB6 (as,ls) s.2.2[i].1 s.2.2[i].2.2.1 != k with
      | true=>exact .inl ⟨_,rfl,trivial⟩
      | false=>exact .inr ⟨_,rfl,rfl,trivial⟩
   ·rintro ⟨k,_⟩ rfl _
    exact ⟨.inl k,by simp only [zW (bZp _),zY],trivial⟩
   ·rintro r _
    cases r with
    | inr v=>exact ⟨_,rfl⟩
    | inl v=>
     simp only [cAc]
     cases v==(1:Int)
     ·cases v==(2:Int)<;>exact ⟨_,rfl⟩
     ·exact ⟨_,rfl⟩

theorem bB9 {as:lAS} {ls:lLk} (ht:aCi as ls) {s:den tSg} (h:s.2.2.length<=1000): ∃ b,lE (as,ls) s=some b∧(b=true→s.2.2≠[]):=by
 obtain ⟨b,eb,hb⟩:=aZv ht h
 have hb:b=true→s.2.2≠[]:=fun e he=>by
  obtain ⟨x,hx,_⟩:=hb e
  rw [he] at hx
  cases hx
 obtain ⟨v,ev⟩:=bS3 ht h
 obtain ⟨k,ek⟩:=aTv ht h
 have eb:iZ (as,ls) (s.1,s.2.1,s.2.2)=some b:=eb
 have ev:gM (as,ls) (s.1,s.2.1,s.2.2)=some v:=ev
 have ek:gN (as,ls) (s.1,s.2.1,s.2.2)=some k:=ek
 unfold lE pj2 pj3
 simp only [eb,ev,ek,fG,aEh,aA]
 cases b
 ·exact ⟨_,rfl,fun e=>Bool.noConfusion e⟩
 ·have hb:=hb rfl
  cases decide (v<0)
  ·exact ⟨_,rfl,fun _=>hb⟩
  ·cases k != (0:Int)
   ·exact ⟨_,rfl,fun _=>hb⟩
   ·cases inR s.1 0 1000000<;>exact ⟨_,rfl,fun _=>hb⟩

theorem bK3 {s:den tSg} (h:s.2.2.length<=1000): ∃ b,lC s=some b:=by
 unfold lC
 by_cases h0:(s.2.2.length:Int)>0
 ·have w1:wr ((s.2.2.length:Int) - 1)=((s.2.2.length - 1:Nat):Int):=by rw [bN (by omega) (by omega)];omega
  rw [zX h0,zZ,w1,aG,bY7 (by omega),aA,aA]
  exact ⟨_,rfl⟩
 ·rw [zW h0,zY]
  exact ⟨_,rfl⟩

theorem aRd {a b:dA} (h:a.length<=1000000): ∃ v,iV a b=some v:=by
 unfold iV zz4
 by_cases hn:a.length=b.length
 ·rw [hn,bne_self_eq_false,zY,← hn]
  refine bZ (G:=fun o=> ∃ b,o=some b) a.length (fun s:Int=>s) (fun i t=>True) (fun r:Unit⊕Bool=>True) ?_ ?_ 0 (0:Int) (by omega) rfl trivial ?_
  ·rintro i _ hi rfl _
   have h2:i<b.length:=by omega
   simp only [zX (show (i:Int)<(a.length:Int) by omega),zZ,aG,bY7 hi,bY7 h2,aA,aW (show i<=1000000000 by omega)]
   cases ((a[i].1==b[i].1)&&((a[i].2.1==b[i].2.1)&&((a[i].2.2.1==b[i].2.2.1)&&((a[i].2.2.2.1==b[i].2.2.2.1)&&((a[i].2.2.2.2==b[i].2.2.2.2)&&true))))) with
   | true=>exact .inr ⟨_,rfl,rfl,trivial⟩
   | false=>exact .inl ⟨_,rfl,trivial⟩
  ·rintro _ rfl _
   exact ⟨.inl (),by simp only [zW (bZp _),zY],trivial⟩
  ·rintro r _
   cases r with
   | inl u=>exact ⟨_,rfl⟩
   | inr v=>exact ⟨_,rfl⟩
 ·rw [show ((a.length:Int) != (b.length:Int))=true by rw [bne_iff_ne];omega,zZ]
  exact ⟨_,rfl⟩

theorem bF7 {a b:den tSg} (h:a.2.2.length<=1000000): ∃ v,jR a b=some v:=by
 obtain ⟨v,e⟩:=aRd (b:=b.2.2) h
 unfold jR
 rw [e,aA]
 cases a.1==b.1
 ·exact ⟨_,rfl⟩
 ·cases a.2.1==b.2.1<;>exact ⟨_,rfl⟩

theorem aXf {l:lSg} {s:den tSg} (hl:l.length<=1000000) (h: ∀ x∈l,x.2.2.length<=1000): ∃ v,tP l s=some v:=by
 unfold tP pj3
 refine bZ (G:=fun o=> ∃ b,o=some b) l.length (fun s:Int=>s) (fun i t=>True) (fun r:Unit⊕Bool=>True) ?_ ?_ 0 (0:Int) (by omega) rfl trivial ?_
 ·rintro i _ hi rfl _
  obtain ⟨v,e⟩:=bF7 (a:=l[i]) (b:=s) (by have :=h l[i] (bZl hi);omega)
  have e:jR (l[i].1,l[i].2.1,l[i].2.2) (s.1,s.2.1,s.2.2)=some v:=e
  simp only [zX (show (i:Int)<(l.length:Int) by omega),zZ,aG,bY7 hi,aA,e,aW (show i<=1000000000 by omega)]
  cases v with
  | false=>exact .inr ⟨_,rfl,rfl,trivial⟩
  | true=>exact .inl ⟨_,rfl,trivial⟩
 ·rintro _ rfl _
  exact ⟨.inl (),by simp only [zW (bZp _),zY],trivial⟩
 ·rintro r _
  cases r with
  | inl u=>exact ⟨_,rfl⟩
  | inr v=>exact ⟨_,rfl⟩


structure DbD (n:Nat) (d c:lSg):Prop where
 down:d.length<=n
 core:c.length<=n
 hd: ∀ x∈d,x.2.2.length<=5
 hc: ∀ x∈c,x.2.2.length<=5
 ha: ∀ x∈d,x.2.2≠[]∧aG8 x.2.2

theorem aNp {l:lSg} {n:Nat} (hn:n<=1000) (h:l.length<=n) (hh: ∀ x∈l,x.2.2.length<=5):SmB 68719476736 (.sl tSg) l:=by
 refine ⟨by omega,fun x hx=>⟨trivial,trivial,?_,fun e he=>⟨trivial,trivial,trivial,trivial,trivial⟩⟩⟩
 have :=hh x hx
 show x.2.2.length<=_
 omega

theorem bMl {as:lAS} {ls:lLk} (ht:aCi as ls) {n:Nat} (hn:n<=100) {d c:lSg} (hk:DbD n d c) {s:den tSg} (h:s.2.2.length<=5) (ha:aG8 s.2.2): ∃ d' c',oA (as,ls) (d,c) s=some (d',c')∧DbD (n+1) d' c':=by
 obtain ⟨b1,e1,hb1⟩:=bB9 ht (s:=s) (by omega)
 obtain ⟨b2,e2⟩:=bK3 (s:=s) (by omega)
 obtain ⟨b3,e3⟩:=aXf (l:=d) (s:=s) (by have :=hk.down;omega) (fun x hx=>by have :=hk.hd x hx;omega)
 obtain ⟨b4,e4⟩:=aXf (l:=c) (s:=s) (by have :=hk.core;omega) (fun x hx=>by have :=hk.hc x hx;omega)
 obtain ⟨k,ek⟩:=aTv ht (s:=s) (by omega)
 have c1:=aDy (aNp (by omega) hk.down hk.hd)
 have c2:=aDy (aNp (by omega) hk.core hk.hc)
 have c3:=aGa (x:=s) (by omega)
 have e5: ∃ b,oJ (d,c) s=some b:=by
  unfold oJ pj3
  have e3:tP d (s.1,s.2.1,s.2.2)=some b3:=e3
  have e4:tP c (s.1,s.2.1,s.2.2)=some b4:=e4
  simp only [e3,e4,aA]
  cases b3<;>exact ⟨_,rfl⟩
 obtain ⟨b5,e5⟩:=e5
 have hdn:=hk.down
 have hcn:=hk.core
 have e1:lE (as,ls) (s.1,s.2.1,s.2.2)=some b1:=e1
 have e2:lC (s.1,s.2.1,s.2.2)=some b2:=e2
 have e5:oJ (d,c) (s.1,s.2.1,s.2.2)=some b5:=e5
 have ek:gN (as,ls) (s.1,s.2.1,s.2.2)=some k:=ek
 have c3:fX (s.1,s.2.1,s.2.2)=some s:=c3
 have same:DbD (n+1) d c:=⟨by omega,by omega,hk.hd,hk.hc,hk.ha⟩
 unfold oA pj2 pj3
 simp only [c1,c2,aA,aV,bJ,aZ,aY,bA,e1,e2,e5,ek,c3,aD (b:=40) (n:=d.length) (m:=1) (by decide) (by omega),aD (b:=40) (n:=c.length) (m:=1) (by decide) (by omega),zZ]
 obtain ⟨b6,e6,hb6⟩: ∃ b:Bool,(cond (!b1) (some true) (cond (!b2) (some true) (some b5)))=some b∧(b=false→b1=true):=by
  cases b1
  ·exact ⟨_,rfl,fun e=>Bool.noConfusion e⟩
  ·cases b2<;>exact ⟨_,rfl,fun _=>rfl⟩
 rw [e6,aA]
 cases b6 with
 | true=>exact ⟨d,c,rfl,same⟩
 | false=>
  have hne:=hb1 (hb6 rfl)
  cases k==(2:Int) with
  | true=>exact ⟨_,_,rfl,by simp;omega,by simp only;omega,fun x hx=>(bZh.1 hx).elim (hk.hd x) fun hx=>by rw [bZg.1 hx];exact h,hk.hc,fun x hx=>(bZh.1 hx).elim (hk.ha x) fun hx=>by rw [bZg.1 hx];exact ⟨hne,ha⟩⟩
  | false=>exact ⟨_,_,rfl,by simp only;omega,by simp;omega,hk.hd,fun x hx=>(bZh.1 hx).elim (hk.hc x) fun hx=>by rw [bZg.1 hx];exact h,hk.ha⟩

theorem DbD.mono {n m:Nat} {d c:lSg} (h:DbD n d c) (hm:n<=m):DbD m d c:=⟨bY8 h.down hm,bY8 h.core hm,h.hd,h.hc,h.ha⟩

theorem aUj {s:den tSg} (h:s.2.2.length<=1000): ∃ v,eI s=some v:=by
 unfold eI
 by_cases h0:s.2.2.length=0
 ·rw [show ((s.2.2.length:Int)==0)=true by rw [beq_iff_eq];omega,zZ]
  exact ⟨_,rfl⟩
 ·have w1:wr ((s.2.2.length:Int) - 1)=((s.2.2.length - 1:Nat):Int):=by rw [bN (by omega) (by omega)];omega
  rw [show ((s.2.2.length:Int)==0)=false by rw [beq_eq_false_iff_ne];omega,zY,w1,aG,bY7 (by omega),aA]
  exact ⟨_,rfl⟩

theorem bKi {s:den tSg} (h:s.2.2.length<=1000) (h0:s.2.2≠[]) (ha:aG8 s.2.2): ∃ v,eI s=some v∧0<=v∧v<8:=by
 have hl:=List.length_pos_iff.2 h0
 unfold eI
 have w1:wr ((s.2.2.length:Int) - 1)=((s.2.2.length - 1:Nat):Int):=by rw [bN (by omega) (by omega)];omega
 rw [show ((s.2.2.length:Int)==0)=false by rw [beq_eq_false_iff_ne];omega,zY,w1,aG,bY7 (by omega),aA]
 have :=ha _ (bZl (show s.2.2.length - 1<s.2.2.length by omega))
 exact ⟨_,rfl,this.1,this.2⟩

theorem aKq {s:den tSg}: ∃ v,cI s=some v:=by
 unfold cI
 by_cases h0:s.2.2.length=0
 ·rw [show ((s.2.2.length:Int)==0)=true by rw [beq_iff_eq];omega,zZ]
  exact ⟨_,rfl⟩
 ·rw [show ((s.2.2.length:Int)==0)=false by rw [beq_eq_false_iff_ne];omega,zY,show (0:Int)=((0:Nat):Int) from rfl,aG,bY7 (by omega),aA]
  exact ⟨_,rfl⟩

theorem aXh {code:List Int} (hl:code.length<=1048576) {d:lSg} (hd:d.length<=200) (h5: ∀ x∈d,x.2.2.length<=5) (ha: ∀ x∈d,x.2.2≠[]∧aG8 x.2.2) (k:Int) (hk:0<k∧k<=256) (z:Int) (hz:0<=z∧z<8) {c:List Int} {p h:Int} (hc:Cur code (c,p,h)):
  ∃ v c' p' h',(Option.bind (cond (decide ((d.length:Int)>(0:Int))) (Option.bind (dM (c,p,h) k) fun y3=>some (!y3.1,y3.2.1,y3.2.2.1,y3.2.2.2)) (some (false,c,p,h))) fun (s4:Bool×List Int×q25)=>cond s4.1 (Option.bind (aE (s4.2.1,s4.2.2.1,s4.2.2.2) (d.length:Int)) fun y5=>Option.bind (idx d y5.1) fun x6=>Option.bind (eI (x6.1,x6.2.1,x6.2.2)) fun y7=>some (y7,y5.2.1,y5.2.2.1,y5.2.2.2)) (some (z,s4.2.1,s4.2.2.1,s4.2.2.2)):Option (Int×List Int×q25))=some (v,c',p',h')∧(0<=v∧v<8)∧Cur code (c',p',h'):=by
 by_cases h0:(d.length:Int)>0
 ·obtain ⟨v1,c1,p1,h1,e1,k1⟩:=tR hl (n:=k) hk.1 hk.2 hc
  simp only [zX h0,zZ,e1,aA]
  cases v1 with
  | true=>exact ⟨z,c1,p1,h1,rfl,hz,k1⟩
  | false=>
   obtain ⟨v2,c2,p2,h2,e2,r2,k2⟩:=bC hl (n:=(d.length:Int)) h0 (by omega) k1
   obtain ⟨m2,rfl⟩:=bZ1 r2.1
   have hm:m2<d.length:=by omega
   obtain ⟨v3,e3,r3⟩:=bKi (s:=d[m2]) (by have :=h5 d[m2] (bZl hm);omega) (ha d[m2] (bZl hm)).1 (ha d[m2] (bZl hm)).2
   have e3:eI (d[m2].1,d[m2].2.1,d[m2].2.2)=some v3:=e3
   exact ⟨v3,c2,p2,h2,by simp only [bZj,zZ,e2,aA,aG,bY7 hm,e3],r3,k2⟩
 ·exact ⟨z,c,p,h,by simp only [zW h0,zY,aA],hz,hc⟩

theorem bSw {code:List Int} (hl:code.length<=1048576) {n:Nat} (hn:n<=100) {d cc:lSg} (hk:DbD n d cc) {c:List Int} {p h:Int} (hc:Cur code (c,p,h)): ∃ a b c' p' h',xT (c,p,h) (d,cc)=some (a,b,c',p',h')∧((0<=a∧a<8)∧(0<=b∧b<8))∧Cur code (c',p',h'):=by
 have hd:=hk.down
 obtain ⟨v1,c1,p1,h1,e1,r1,k1⟩:=bC hl (n:=8) (by decide) (by decide) hc
 obtain ⟨v2,c2,p2,h2,e2,r2,k2⟩:=bC hl (n:=8) (by decide) (by decide) k1
 obtain ⟨v3,c3,p3,h3,e3,r3,k3⟩:=aXh hl (d:=d) (by omega) hk.hd hk.ha 4 (by decide) v1 r1 k2
 obtain ⟨v4,c4,p4,h4,e4,r4,k4⟩:=aXh hl (d:=d) (by omega) hk.hd hk.ha 3 (by decide) v2 r2 k3
 refine ⟨v3,v4,c4,p4,h4,?_,⟨r3,r4⟩,k4⟩
 unfold xT pj3 pj4
 simp only [e1,e2,aA,aV,bJ,aZ,aY,bA]
 rw [e3,aA,e4,aA]


def aKo (n:Nat) (l:lSg):Prop:=l.length<=n∧ ∀ x∈l,x.2.2.length<=5

theorem yJ {s:den tSg} (h:s.2.2.length<=5) (k i:Int): ∃ q:den tPp,bQ s k i=some q∧q.2.2.2.length<=5:=by
 unfold bQ pj3 pj4 pj5 zz4
 obtain ⟨b1,eb1⟩:=aCc (s:=s) i (by omega)
 obtain ⟨b2,eb2⟩:=aCc (s:=s) (s.2.2.length:Int) (by omega)
 have eb1:hO (s.1,s.2.1,s.2.2) i=some b1:=eb1
 have eb2:hO (s.1,s.2.1,s.2.2) (s.2.2.length:Int)=some b2:=eb2
 simp only [fG,aA,aV,bJ,aZ,aY,bA,eb1,eb2,aEa]
 have w1:wr ((s.2.2.length:Int) - 1)=(s.2.2.length:Int) - 1:=bN (by omega) (by omega)
 rw [w1]
 cases c1:inR i 0 ((s.2.2.length:Int) - 1) with
 | false=>exact ⟨(0,0,0,[]),rfl,by simp⟩
 | true=>
  cases inR k 1 4 with
  | false=>exact ⟨(0,0,0,[]),rfl,by simp⟩
  | true=>
   obtain ⟨h0,h1⟩:=bT.1 c1
   obtain ⟨m,rfl⟩:=bZ1 h0
   simp only [bY9,zY,aA]
   cases jY k with
   | false=>
    have e1:bR (m:Int) (s.2.2.length:Int) (s.2.2.length:Int)=true:=xR (by omega)
    have l1:(cut s.2.2 (m:Int) (s.2.2.length:Int)).length<=5:=by unfold cut;rw [cAh,cA4];omega
    rw [e1,aD (b:=40) (by decide) (by simp;omega)]
    exact ⟨_,rfl,by simpa using l1⟩
   | true=>
    refine kI (G:=fun o=> ∃ q:den tPp,o=some q∧q.2.2.2.length<=5) (fun (n:Nat) (t:Int×q13)=>t.1=(n:Int) - 1∧n+t.2.2.2.2.length<=s.2.2.length) (fun q:den tPp=>q.2.2.2.length<=5) ?_ s.2.2.length ((s.2.2.length:Int) - 1,k,s.1,b2,[]) ⟨rfl,by simp⟩ (fun q hq=>⟨q,rfl,hq⟩)
    rintro n ⟨_,x,y,z,l⟩ ⟨rfl,g⟩
    simp only at g
    by_cases hn:(n:Int) - 1>=(m:Int)
    ·right
     have hn1:(n:Int) - 1=((n - 1:Nat):Int):=by omega
     have hi:n - 1<s.2.2.length:=by omega
     refine ⟨n - 1,(((n - 1:Nat):Int) - 1,x,y,z,l++[s.2.2[n - 1]]),by omega,?_,rfl,by simp;omega⟩
     simp only [zX hn,zZ,aD (b:=40) (n:=l.length) (m:=1) (by decide) (by omega)]
     rw [hn1,aG,bY7 hi,aA,bN (n:=((n - 1:Nat):Int) - 1) (by omega) (by omega)]
    ·left
     exact ⟨(x,y,z,l),by simp only [zW hn,zY],by show l.length<=5;omega⟩


def nQ (p:den tPt):Prop:=bZo (α:=den tPp) p<=3∧ ∀ x:den tPp,x∈(show lPp from p)→x.2.2.2.length<=5

def xF (n:Nat) (l:lPt):Prop:=l.length<=n∧ ∀ p∈l,nQ p

theorem aO9:nQ []:=⟨by simp,fun x hx=>(bZw hx).elim⟩

theorem xF.add {n m:Nat} {a b:lPt} (ha:xF n a) (hb:xF m b):xF (n+m) (a++b):=⟨by rw [bZ5];have :=ha.1;have :=hb.1;omega,fun p hp=>(bZh.1 hp).elim (ha.2 p) (hb.2 p)⟩

theorem aCx {n:Nat} (h:n<=1000000000):wr ((n:Int) - 1)=(n:Int) - 1:=bN (by omega) (by omega)

theorem bLe {up down:den tSg} (h1:up.2.2.length<=5) (h2:down.2.2.length<=5): ∃ p,iW up down=some p∧nQ p:=by
 obtain ⟨y1,e1,l1⟩:=aD6 (s:=up) (by omega)
 obtain ⟨y2,e2,l2⟩:=aD6 (s:=down) (by omega)
 have e1:dB (up.1,up.2.1,up.2.2)=some y1:=e1
 have e2:dB (down.1,down.2.1,down.2.2)=some y2:=e2
 have hm: ∃ p,jI up down=some p∧nQ p:=by
  unfold jI ixb pj3 pj4
  rw [e1,aA,e2,aA,aCx (n:=y1.length) (by omega)]
  refine kI (G:=fun o=> ∃ p,o=some p∧nQ p) (fun (n:Nat) (s:Int)=>s=(n:Int) - 1∧n<=y1.length) (fun z:Unit⊕den tPt=> ∀ p,z= .inr p→nQ p) ?_ y1.length ((y1.length:Int) - 1) ⟨rfl,bZq _⟩ ?_
  ·rintro n _ ⟨rfl,hn⟩
   by_cases h0:(n:Int) - 1>=0
   ·simp only [zX h0,zZ]
    have hn1:(n:Int) - 1=((n - 1:Nat):Int):=by omega
    have hi:n - 1<y1.length:=by omega
    rw [aCx (n:=y2.length) (by omega)]
    refine kI (G:=fun (o:Option (Int⊕(Unit⊕den tPt)))=>(∃ r:Unit⊕den tPt,o=some (bY5 r)∧ ∀ p,r=bY5 p→nQ p)∨ ∃ (m:Nat) (s':Int),m<n∧o=some (bY6 s')∧s'=(m:Int) - 1∧m<=y1.length) (fun (k:Nat) (s:Int)=>s=(k:Int) - 1∧k<=y2.length) (fun z:Unit⊕(Int⊕(Unit⊕den tPt))=>z= .inl ()∨ ∃ p,z= .inr (.inr (.inr p))∧nQ p) ?_ y2.length ((y2.length:Int) - 1) ⟨rfl,bZq _⟩ ?_
    ·rintro k _ ⟨rfl,hk⟩
     by_cases g0:(k:Int) - 1>=0
     ·have hk1:(k:Int) - 1=((k - 1:Nat):Int):=by omega
      have hj:k - 1<y2.length:=by omega
      simp only [hn1,hk1,zX (show ((k - 1:Nat):Int)>=0 by omega),zX (show (0:Int)<=((n - 1:Nat):Int) by omega),zX (show (0:Int)<=((k - 1:Nat):Int) by omega),zX (show ((n - 1:Nat):Int)<(y1.length:Int) by omega),zX (show ((k - 1:Nat):Int)<(y2.length:Int) by omega),zZ,bZi,bY7 hi,bY7 hj,aA]
      cases y1[n - 1]==y2[k - 1] with
      | true=>
       obtain ⟨q1,f1,g1⟩:=yJ h1 1 ((n - 1:Nat):Int)
       obtain ⟨q2,f2,g2⟩:=yJ h2 4 ((k - 1:Nat):Int)
       have f1:bQ (up.1,up.2.1,up.2.2) 1 ((n - 1:Nat):Int)=some q1:=f1
       have f2:bQ (down.1,down.2.1,down.2.2) 4 ((k - 1:Nat):Int)=some q2:=f2
       exact .inl ⟨.inr (.inr (.inr [q1,q2])),by simp only [zZ,f1,f2,aA],.inr ⟨[q1,q2],rfl,by simp,fun x hx=>by
        have hx:x∈[q1,q2]:=hx
        simp only [bZc,bZw,or_false] at hx
        rcases hx with rfl | rfl
        ·exact g1
        ·exact g2⟩⟩
      | false=>exact .inr ⟨k - 1,((k - 1:Nat):Int) - 1,by omega,by simp only [zY,aCx (n:=k - 1) (by omega)],rfl,by omega⟩
     ·exact .inl ⟨.inl (),by simp only [zW g0,zY],.inl rfl⟩
    ·rintro z (rfl | ⟨p,rfl,hp⟩)
     ·exact .inr ⟨n - 1,((n - 1:Nat):Int) - 1,by omega,by simp only [cAc,hn1,aCx (n:=n - 1) (by omega)],rfl,by omega⟩
     ·exact .inl ⟨.inr p,rfl,fun q hq=>by cases hq;exact hp⟩
   ·exact .inl ⟨.inl (),by simp only [zW h0,zY],fun p hp=>by cases hp⟩
  ·rintro z hz
   cases z with
   | inl u=>exact ⟨[],rfl,aO9⟩
   | inr p=>exact ⟨p,rfl,hz p rfl⟩
 obtain ⟨p,ep,kp⟩:=hm
 have ep:jI (up.1,up.2.1,up.2.2) (down.1,down.2.1,down.2.2)=some p:=ep
 exact ⟨p,by unfold iW pj3;rw [ep,aA],kp⟩

theorem xF.one {p:den tPt} (h:nQ p):xF 1 [p]:=⟨by simp,fun q hq=>by rw [bZg.1 hq];exact h⟩

theorem xF.mono {n m:Nat} {l:lPt} (h:xF n l) (hm:n<=m):xF m l:=⟨bY8 h.1 hm,h.2⟩

theorem aAs {t:Ty} {B:Nat}: ∀ {l:List (den t)},(∀ x∈l,tot t x<=B)→tot (.sl t) l<=(B+1) * l.length
 | [],_=>by simp [tot]
 | x::l,h=>by
  have ih:=aAs (l:=l) fun y hy=>h y (bZm _ hy)
  have hx:=h x (by simp)
  rw [lM,cAb,Nat.mul_add,Nat.mul_one]
  omega

theorem aXo {q:den tPp} (h:q.2.2.2.length<=5):tot tPp q<=5:=by
 show tot ti q.1+(tot ti q.2.1+(tot ti q.2.2.1+tot (.sl cH) q.2.2.2))<=5
 rw [kF (t:=cH) rfl]
 show 0+(0+(0+q.2.2.2.length))<=5
 omega

theorem aJj {p:den tPt} (h:nQ p):tot tPt p<=18:=by
 have h1:=aAs (t:=tPp) (B:=5) (l:=p) fun x hx=>aXo (h.2 x hx)
 have h2:=h.1
 show tot (.sl tPp) p<=18
 have :(5+1) * bZo (α:=den tPp) p<=18:=by omega
 exact bY8 h1 this

theorem aUu {n:Nat} {l:lPt} (h:xF n l):tot (.sl tPt) l<=19 * n:=by
 have h1:=aAs (t:=tPt) (B:=18) (l:=l) fun x hx=>aJj (h.2 x hx)
 have h2:=h.1
 have :(18+1) * l.length<=19 * n:=by omega
 exact bY8 h1 this

theorem bGc {as:lAS} {ls:lLk} (ht:aCi as ls) {q:den tPp} (h:q.2.2.2.length<=5): ∃ b,oE (as,ls) q=some b:=by
 have hlen:=ht.len
 unfold oE pj2 pj4 pj5
 refine bZ (G:=fun o=> ∃ b,o=some b) q.2.2.2.length (fun s:Int=>s) (fun i t=>True) (fun r:Unit⊕Bool=>True) ?_ ?_ 0 (0:Int) (by omega) rfl trivial ?_
 ·rintro i _ hi rfl _
  obtain ⟨bt,et⟩: ∃ v,yC (q.1,q.2.1,q.2.2.1,q.2.2.2) (i:Int)=some v:=by
   unfold yC pj4
   have e1:=aS8 (p:=q) (n:=i) (by omega) (by omega)
   have e2:=aS8 (p:=q) (n:=i+1) (by omega) (by omega)
   have e1:iB (q.1,q.2.1,q.2.2.1,q.2.2.2) (i:Int)=some _:=e1
   have e2:iB (q.1,q.2.1,q.2.2.1,q.2.2.2) ((i+1:Nat):Int)=some _:=e2
   simp only [aEa,aA,aW (show i<=1000000000 by omega),e1,e2]
   cases jY q.1<;>exact ⟨_,rfl⟩
  have ev:=aV3 (t:=(as,ls)) (ts:=q.2.1) (beta:=bt) (h:=q.2.2.2[i]) (show as.length<=68719476736 by omega)
  have ev:fV (as,ls) q.2.1 bt (q.2.2.2[i].1,q.2.2.2[i].2.1,q.2.2.2[i].2.2.1,q.2.2.2[i].2.2.2.1,q.2.2.2[i].2.2.2.2)=some _:=ev
  simp only [zX (show (i:Int)<(q.2.2.2.length:Int) by omega),zZ,aG,bY7 hi,aA,et,ev,aW (show i<=1000000000 by omega)]
  cases aDs (as,ls) q.2.1 bt q.2.2.2[i] with
  | true=>exact .inr ⟨_,rfl,rfl,trivial⟩
  | false=>exact .inl ⟨_,rfl,trivial⟩
 ·rintro _ rfl _
  exact ⟨.inl (),by simp only [zW (bZp _),zY],trivial⟩
 ·rintro r _
  cases r with
  | inl u=>exact ⟨_,rfl⟩
  | inr v=>exact ⟨_,rfl⟩

theorem bMu {as:lAS} {ls:lLk} (ht:aCi as ls) {p:lPp} (h:nQ p): ∃ b,qY (as,ls) p=some b:=by
 have h3:=h.1
 unfold qY pj2 pj4
 refine bZ (G:=fun o=> ∃ b,o=some b) p.length (fun s:Int=>s) (fun i t=>True) (fun r:Unit⊕Bool=>True) ?_ ?_ 0 (0:Int) (by omega) rfl trivial ?_
 ·rintro i _ hi rfl _
  obtain ⟨b,eb⟩:=bGc ht (q:=p[i]) (h.2 p[i] (bZl hi))
  have eb:oE (as,ls) (p[i].1,p[i].2.1,p[i].2.2.1,p[i].2.2.2)=some b:=eb
  simp only [zX (show (i:Int)<(p.length:Int) by omega),zZ,aG,bY7 hi,aA,eb,aW (show i<=1000000000 by omega)]
  cases b with
  | true=>exact .inr ⟨_,rfl,rfl,trivial⟩
  | false=>exact .inl ⟨_,rfl,trivial⟩
 ·rintro _ rfl _
  exact ⟨.inl (),by simp only [zW (bZp _),zY],trivial⟩
 ·rintro r _
  cases r with
  | inl u=>exact ⟨_,rfl⟩
  | inr v=>exact ⟨_,rfl⟩

theorem bE5 {as:lAS} {ls:lLk} (ht:aCi as ls) {p:lPp} (h:nQ p) (now:Int): ∃ b,rM (as,ls) p now=some b:=by
 have hlen:=ht.len
 have hlk:=ht.links
 have h3:=h.1
 have e1:=aTt (t:=(as,ls)) (p:=p) (show as.length<=_ by omega) (show ls.length<=_ by omega) (bY8 (aJj h) (by decide))
 obtain ⟨b2,e2⟩:=bMu ht h
 unfold rM pj2 pj5
 rw [e1,aA,e2,aA]
 obtain ⟨b3,e3⟩: ∃ b:Bool,(cond (!(zI (as,ls) p)) (some true) (some (!b2)))=some b:=by cases zI (as,ls) p<;>exact ⟨_,rfl⟩
 rw [e3,aA]
 cases b3 with
 | true=>exact ⟨_,rfl⟩
 | false=>
  refine bZ (G:=fun o=> ∃ b,o=some b) p.length (fun s:Int=>s) (fun i t=>True) (fun r:Unit⊕Bool=>True) ?_ ?_ 0 (0:Int) (by omega) rfl trivial ?_
  ·rintro i _ hi rfl _
   have hh:=h.2 p[i] (bZl hi)
   simp only [zX (show (i:Int)<(p.length:Int) by omega),zZ,aG,bY7 hi,aA]
   cases decide (p[i].2.1>now) with
   | true=>exact .inl ⟨_,rfl,trivial⟩
   | false=>
    simp only [zY]
    refine bZ (G:=fun (o:Option (Int⊕(Unit⊕Bool)))=>(∃ r,o=some (bY5 r)∧True)∨ ∃ s':Int,o=some (bY6 s')∧s'=((i+1:Nat):Int)∧True) p[i].2.2.2.length (fun s:Int=>s) (fun j t=>True) (fun z:Unit⊕(Int⊕(Unit⊕Bool))=>z= .inl ()∨ ∃ b,z= .inr (.inr (.inr b))) ?_ ?_ 0 (0:Int) (by omega) rfl trivial ?_
    ·rintro j _ hj rfl _
     have ehv: ∀ (hp:den cH) (n:Int),mL hp n=some (decide (n<=hp.2.2.2.1)):=fun _ _=>rfl
     simp only [zX (show (j:Int)<(p[i].2.2.2.length:Int) by omega),zZ,aG,bY7 hj,aA,ehv,aW (show j<=1000000000 by omega)]
     cases decide (now<=p[i].2.2.2[j].2.2.2.1) with
     | true=>exact .inr ⟨_,rfl,rfl,trivial⟩
     | false=>exact .inl ⟨_,rfl,.inr ⟨false,rfl⟩⟩
    ·rintro _ rfl _
     exact ⟨.inl (),by simp only [zW (bZp _),zY],.inl rfl⟩
    ·rintro z (rfl | ⟨b,rfl⟩)
     ·exact .inr ⟨((i+1:Nat):Int),by simp only [cAc,aW (show i<=1000000000 by omega)],rfl,trivial⟩
     ·exact .inl ⟨.inr b,rfl,trivial⟩
  ·rintro _ rfl _
   exact ⟨.inl (),by simp only [zW (bZp _),zY],trivial⟩
  ·rintro r _
   cases r with
   | inl u=>exact ⟨_,rfl⟩
   | inr v=>exact ⟨_,rfl⟩

theorem bMs {a b:den tPp} (h:a.2.2.2.length<=5): ∃ v,kC a b=some v:=by
 obtain ⟨v,e⟩:=aRd (a:=a.2.2.2) (b:=b.2.2.2) (by omega)
 unfold kC
 rw [e,aA]
 cases a.1==b.1
 ·exact ⟨_,rfl⟩
 ·cases a.2.1==b.2.1
  ·exact ⟨_,rfl⟩
  ·cases a.2.2.1==b.2.2.1<;>exact ⟨_,rfl⟩

theorem bRm {a b:lPp} (h:nQ a): ∃ v,iY a b=some v:=by
 have h3:=h.1
 have h3:a.length<=3:=h3
 unfold iY pj4
 by_cases hn:a.length=b.length
 ·rw [hn,bne_self_eq_false,zY,← hn]
  refine bZ (G:=fun o=> ∃ b,o=some b) a.length (fun s:Int=>s) (fun i t=>True) (fun r:Unit⊕Bool=>True) ?_ ?_ 0 (0:Int) (by omega) rfl trivial ?_
  ·rintro i _ hi rfl _
   have h2:i<b.length:=by omega
   obtain ⟨v,e⟩:=bMs (a:=a[i]) (b:=b[i]) (h.2 a[i] (bZl hi))
   have e:kC (a[i].1,a[i].2.1,a[i].2.2.1,a[i].2.2.2) (b[i].1,b[i].2.1,b[i].2.2.1,b[i].2.2.2)=some v:=e
   simp only [zX (show (i:Int)<(a.length:Int) by omega),zZ,aG,bY7 hi,bY7 h2,aA,e,aW (show i<=1000000000 by omega)]
   cases v with
   | true=>exact .inr ⟨_,rfl,rfl,trivial⟩
   | false=>exact .inl ⟨_,rfl,trivial⟩
  ·rintro _ rfl _
   exact ⟨.inl (),by simp only [zW (bZp _),zY],trivial⟩
  ·rintro r _
   cases r with
   | inl u=>exact ⟨_,rfl⟩
   | inr v=>exact ⟨_,rfl⟩
 ·rw [show ((a.length:Int) != (b.length:Int))=true by rw [bne_iff_ne];omega,zZ]
  exact ⟨_,rfl⟩

theorem bJ5 {n:Nat} (hn:n<=100000) {l:lPt} (h:xF n l) (p:den tPt): ∃ v,xZ l p=some v:=by
 have h1:=h.1
 unfold xZ
 refine bZ (G:=fun o=> ∃ b,o=some b) l.length (fun s:Int=>s) (fun i t=>True) (fun r:Unit⊕Bool=>True) ?_ ?_ 0 (0:Int) (by omega) rfl trivial ?_
 ·rintro i _ hi rfl _
  obtain ⟨v,e⟩:=bRm (a:=l[i]) (b:=p) (h.2 l[i] (bZl hi))
  simp only [zX (show (i:Int)<(l.length:Int) by omega),zZ,aG,bY7 hi,aA,e,aW (show i<=1000000000 by omega)]
  cases v with
  | false=>exact .inr ⟨_,rfl,rfl,trivial⟩
  | true=>exact .inl ⟨_,rfl,trivial⟩
 ·rintro _ rfl _
  exact ⟨.inl (),by simp only [zW (bZp _),zY],trivial⟩
 ·rintro r _
  cases r with
  | inl u=>exact ⟨_,rfl⟩
  | inr v=>exact ⟨_,rfl⟩

theorem aLe {code:List Int} (hl:code.length<=1048576) {n:Nat} (hn:n<=1000) {c:List Int} {p h:Int} (hc:Cur code (c,p,h)): ∃ l c' p' h',dP (c,p,h) (n:Int)=some (l,c',p',h')∧(l.length=n∧ ∀ x∈l,0<=x∧x<=255)∧Cur code (c',p',h'):=by
 unfold dP pj3 pj4
 refine bZ (G:=fun o=> ∃ l c' p' h',o=some (l,c',p',h')∧(l.length=n∧ ∀ x∈l,0<=x∧x<=255)∧Cur code (c',p',h')) n (fun s:Int×List Int×List Int×Int×Int=>s.1) (fun i s=>(s.2.1.length=i∧ ∀ x∈s.2.1,0<=x∧x<=255)∧Cur code s.2.2) (fun r:List Int×List Int×Int×Int=>(r.1.length=n∧ ∀ x∈r.1,0<=x∧x<=255)∧Cur code r.2) ?_ ?_ 0 ((0:Int),[],c,p,h) (by omega) rfl ⟨⟨rfl,fun x hx=>(bZw hx).elim⟩,hc⟩ (fun r hr=>⟨r.1,r.2.1,r.2.2.1,r.2.2.2,rfl,hr.1,hr.2⟩)
 ·rintro i ⟨_,l,c1,p1,h1⟩ hi rfl ⟨⟨g1,g2⟩,k1⟩
  simp only at g1 g2 k1
  obtain ⟨v,c2,p2,h2,e2,r2,k2⟩:=aG4 hl k1
  obtain ⟨m,rfl⟩:=bZ1 r2.1
  right
  refine ⟨(((i+1:Nat):Int),l++[(m:Int)],c2,p2,h2),?_,rfl,⟨by simp [g1],fun x hx=>(bZh.1 hx).elim (g2 x) fun hx=>by rw [bZg.1 hx];omega⟩,k2⟩
  simp only [zX (show (i:Int)<(n:Int) by omega),zZ,e2,aA,aD (b:=1) (n:=l.length) (m:=1) (by decide) (by omega),aW (show i<=1000000000 by omega),aD4 (n:=m) (by omega)]
 ·rintro ⟨_,l,c1,p1,h1⟩ rfl ⟨g,k1⟩
  exact ⟨(l,c1,p1,h1),by simp only [zW (bZp _),zY],g,k1⟩

theorem bFi {up down:den tSg} (h1:up.2.2.length<=5) (h2:down.2.2.length<=5): ∃ p,jI up down=some p∧nQ p:=by
 obtain ⟨p,e,k⟩:=bLe h1 h2
 unfold iW pj3 at e
 refine ⟨p,?_,k⟩
 cases hm:jI (up.1,up.2.1,up.2.2) (down.1,down.2.1,down.2.2) with
 | none=>rw [hm] at e;cases e
 | some q=>rw [hm,aA] at e;cases e;rfl

def bWa (code:List Int) (o:Option (lAS×lLk×lPp×List Int×q25)):Prop:= ∃ (as:lAS) (ls:lLk) (q:lPp) (c':List Int) (p' h':Int),o=some (as,ls,q,c',p',h')∧nQ q∧Cur code (c',p',h')

theorem aKs {q:den tPp} (h:q.2.2.2.length<=5):nQ [q]:=⟨by simp,fun x hx=>by
 have hx:x∈[q]:=hx
 rw [bZg.1 hx];exact h⟩

abbrev PdS:=Int×Int×Int×Int×Int×dA×dA×List Int×Int×Int

theorem aWc {code:List Int} (hl:code.length<=1048576) {c:List Int} {p h:Int} (hc:Cur code (c,p,h)):bWa code (sX (c,p,h)):=by
 obtain ⟨as,ls,c1,p1,h1,e1,ht,k1⟩:=bAj hl hc
 obtain ⟨t2,b2,s2,c2,p2,h2,e2,l2,k2⟩:=aGt hl ht 2 k1
 obtain ⟨t3,b3,s3,c3,p3,h3,e3,l3,k3⟩:=aGt hl ht 2 k2
 obtain ⟨t4,b4,s4,c4,p4,h4,e4,l4,k4⟩:=aGt hl ht 1 k3
 obtain ⟨v5,c5,p5,h5,e5,r5,k5⟩:=bC hl (n:=5) (by decide) (by decide) k4
 unfold sX dd one pj3 pj4 pj6 pj9 zz4 zz5 zz6 zz7
 simp only [e1,e2,e3,e4,e5,aA,aV,bJ,aZ,aY,bA,show aH 48 0 1=true from by decide,zZ]
 cases v5==(0:Int) with
 | true=>
  obtain ⟨q,eq,kq⟩:=bFi (up:=(t2,b2,s2)) (down:=(t3,b3,s3)) l2 l3
  exact ⟨as,ls,q,c5,p5,h5,by simp only [zZ,eq,aA],kq,k5⟩
 | false=>
  cases v5==(1:Int) with
  | true=>
   simp only [zZ,zY]
   by_cases hs:(s2.length:Int)>0
   ·obtain ⟨v6,c6,p6,h6,e6,r6,k6⟩:=aGj hl (l:=[(1:Int),(4:Int)]) (by decide) (by decide) k5
    obtain ⟨q,eq,kq⟩:=yJ (s:=(t2,b2,s2)) l2 v6 0
    exact ⟨as,ls,[q],c6,p6,h6,by simp only [zX hs,zZ,e6,eq,aA],aKs kq,k6⟩
   ·exact ⟨as,ls,[],c5,p5,h5,by simp only [zW hs,zY,aA],aO9,k5⟩
  | false=>
   cases v5==(2:Int) with
   | true=>
    simp only [zZ,zY]
    by_cases hs:(s4.length:Int)>0
    ·obtain ⟨v6,c6,p6,h6,e6,r6,k6⟩:=aGj hl (l:=[(2:Int),(3:Int)]) (by decide) (by decide) k5
     obtain ⟨q,eq,kq⟩:=yJ (s:=(t4,b4,s4)) l4 v6 0
     exact ⟨as,ls,[q],c6,p6,h6,by simp only [zX hs,zZ,e6,eq,aA],aKs kq,k6⟩
    ·exact ⟨as,ls,[],c5,p5,h5,by simp only [zW hs,zY,aA],aO9,k5⟩
   | false=>
    simp only [zY]
    obtain ⟨fc,efc⟩:=aKq (s:=(t4,b4,s4))
    obtain ⟨lc,elc⟩:=aUj (s:=(t4,b4,s4)) (by show s4.length<=_;omega)
    refine bZ (G:=bWa code) 6 (fun s:PdS=>s.1) (fun i s=>s.2.2.2.2.2.1.length<=5∧s.2.2.2.2.2.2.1.length<=5∧Cur code s.2.2.2.2.2.2.2) (fun r:Int×Int×Int×Int×dA×dA×List Int×Int×Int=>r.2.2.2.2.1.length<=5∧r.2.2.2.2.2.1.length<=5∧Cur code r.2.2.2.2.2.2) ?_ ?_ 0 ((0:Int),t2,b2,t3,b3,s2,s3,c5,p5,h5) (by omega) rfl ⟨l2,l3,k5⟩ ?_
    ·rintro i ⟨_,ut,ub,dt,db,us,ds,c6,p6,h6⟩ hi rfl ⟨g1,g2,g3⟩
     simp only at g1 g2 g3
     simp only [zX (show (i:Int)<6 by omega),zZ,aA,efc,elc]
     cases decide ((s4.length:Int)>0) with
     | false=>exact .inl ⟨(ut,ub,dt,db,us,ds,c6,p6,h6),rfl,g1,g2,g3⟩
     | true=>
      right
      obtain ⟨fu,efu⟩:=aKq (s:=(ut,ub,us))
      obtain ⟨fd,efd⟩:=aKq (s:=(dt,db,ds))
      simp only [zZ,efu,efd,aA]
      obtain ⟨x1,ex1⟩: ∃ b:Bool,(cond (decide ((us.length:Int)>(0:Int))) (some (fu != fc)) (some false))=some b:=by cases decide ((us.length:Int)>(0:Int))<;>exact ⟨_,rfl⟩
      obtain ⟨x2,ex2⟩: ∃ b:Bool,(cond (decide ((ds.length:Int)>(0:Int))) (some (fd != lc)) (some false))=some b:=by cases decide ((ds.length:Int)>(0:Int))<;>exact ⟨_,rfl⟩
      simp only [ex1,ex2,aA]
      obtain ⟨y1,y2,y3,c7,p7,h7,ey,ly,ky⟩: ∃ a b hs c p h,(cond x1 (Option.bind (jN (c6,p6,h6) (as,ls) (2:Int)) fun y72=>some (y72.1,y72.2.1,y72.2.2.1,y72.2.2.2.1,y72.2.2.2.2.1,y72.2.2.2.2.2)) (some (ut,ub,us,c6,p6,h6)))=some (a,b,hs,c,p,h)∧hs.length<=5∧Cur code (c,p,h):=by
       cases x1 with
       | false=>exact ⟨ut,ub,us,c6,p6,h6,rfl,g1,g3⟩
       | true=>
        obtain ⟨a,b,hs,c,p,h,eg,lg,kg⟩:=aGt hl ht 2 g3
        exact ⟨a,b,hs,c,p,h,by simp only [zZ,eg,aA],lg,kg⟩
      rw [ey,aA]
      simp only
      cases x2 with
      | false=>exact ⟨_,rfl,aW (show i<=1000000000 by omega),ly,g2,ky⟩
      | true=>
       obtain ⟨a,b,hs,c,p,h,eg,lg,kg⟩:=aGt hl ht 2 ky
       refine ⟨_,by simp only [zZ,eg,aA];rfl,aW (show i<=1000000000 by omega),ly,lg,kg⟩
    ·rintro ⟨_,ut,ub,dt,db,us,ds,c6,p6,h6⟩ rfl ⟨g1,g2,g3⟩
     exact ⟨(ut,ub,dt,db,us,ds,c6,p6,h6),by simp only [show decide (((6:Nat):Int)<(6:Int))=false from rfl,zY,aA],g1,g2,g3⟩
    rintro ⟨ut,ub,dt,db,us,ds,c6,p6,h6⟩ ⟨g1,g2,g3⟩
    simp only at g1 g2 g3
    obtain ⟨q1,f1,m1⟩:=yJ (s:=(ut,ub,us)) g1 1 0
    obtain ⟨q2,f2,m2⟩:=yJ (s:=(t4,b4,s4)) l4 2 0
    obtain ⟨q3,f3,m3⟩:=yJ (s:=(dt,db,ds)) g2 4 0
    have one: ∀ (l:lPp) (q:den tPp) (n:Nat),l.length<=n→q.2.2.2.length<=5→(∀ x∈l,x.2.2.2.length<=5)→(l++[q]).length<=n+1∧ ∀ x∈l++[q],x.2.2.2.length<=5:=fun l q n hl hq h=>⟨by simp;omega,fun x hx=>(bZh.1 hx).elim (h x) fun hx=>by rw [bZg.1 hx];exact hq⟩
    simp only [f1,f2,f3,aA]
    obtain ⟨a1,j1,i1,i2⟩: ∃ l:lPp,(cond (decide ((us.length:Int)>(0:Int))) (some [q1]) (some []))=some l∧l.length<=1∧ ∀ x∈l,x.2.2.2.length<=5:=by
     cases decide ((us.length:Int)>(0:Int))
     ·exact ⟨[],rfl,by simp,fun x hx=>(bZw hx).elim⟩
     ·exact ⟨[q1],rfl,by simp,fun x hx=>by rw [bZg.1 hx];exact m1⟩
    rw [show ((q1.1,q1.2.1,q1.2.2.1,q1.2.2.2):den tPp)=q1 from rfl,j1,aA,aD (b:=48) (n:=a1.length) (m:=1) (by decide) (by omega)]
    obtain ⟨a2,j2,i3,i4⟩: ∃ l:lPp,(cond (decide ((s4.length:Int)>(0:Int))) (cond true (some (a1++[q2])) none) (some a1))=some l∧l.length<=2∧ ∀ x∈l,x.2.2.2.length<=5:=by
     cases decide ((s4.length:Int)>(0:Int))
     ·exact ⟨a1,rfl,by omega,i2⟩
     ·exact ⟨a1++[q2],rfl,one a1 q2 1 i1 m2 i2⟩
    rw [show ((q2.1,q2.2.1,q2.2.2.1,q2.2.2.2):den tPp)=q2 from rfl,j2,aA,aD (b:=48) (n:=a2.length) (m:=1) (by decide) (by omega)]
    cases decide ((ds.length:Int)>(0:Int))
    ·exact ⟨as,ls,a2,c6,p6,h6,rfl,⟨bY8 i3 (by decide),i4⟩,g3⟩
    ·exact ⟨as,ls,a2++[q3],c6,p6,h6,rfl,one a2 q3 2 i3 m3 i4,g3⟩


structure bY0 (p:den tPk):Prop where
 path:nQ p.2.2.2.1
 len:p.2.2.2.2.2.2.2.2.2.length<=1000
 bytes: ∀ x∈p.2.2.2.2.2.2.2.2.2,(0:Int)<=x∧x<=(255:Int)

theorem bRe {code:List Int} (hl:code.length<=1048576) {c:List Int} {p h:Int} (hc:Cur code (c,p,h)): ∃ (as:lAS) (ls:lLk) (k:den tPk) (c':List Int) (p' h':Int),yB (c,p,h)=some (as,ls,k.1,k.2.1,k.2.2.1,k.2.2.2.2.1,k.2.2.2.2.2.1,k.2.2.2.2.2.2.1,k.2.2.2.2.2.2.2.1,k.2.2.2.2.2.2.2.2.1,k.2.2.2.1,k.2.2.2.2.2.2.2.2.2,c',p',h')∧bY0 k∧Cur code (c',p',h'):=by
 obtain ⟨as,ls,q,c1,p1,h1,e1,kq,k1⟩:=aWc hl hc
 obtain ⟨v2,c2,p2,h2,e2,r2,k2⟩:=bC hl (n:=3) (by decide) (by decide) k1
 obtain ⟨v3,c3,p3,h3,e3,r3,k3⟩:=bC hl (n:=9) (by decide) (by decide) k2
 obtain ⟨v4,c4,p4,h4,e4,r4,k4⟩:=bC hl (n:=3) (by decide) (by decide) k3
 obtain ⟨v5,c5,p5,h5,e5,r5,k5⟩:=bC hl (n:=4) (by decide) (by decide) k4
 obtain ⟨m5,rfl⟩:=bZ1 r5.1
 obtain ⟨l6,c6,p6,h6,e6,⟨r6,b6⟩,k6⟩:=aLe hl (n:=m5) (by omega) k5
 have e7:=aNf (kind:=wr (1+v2)) (res:=v4) (seq:=v3) (p:=q) (pay:=l6) (bY8 (aJj kq) (by decide)) (by omega)
 refine ⟨as,ls,aFx (wr (1+v2)) q v4 v3 l6,c6,p6,h6,?_,⟨kq,by show l6.length<=_;omega,b6⟩,k6⟩
 unfold yB dd bTm pj3 zz4 zz5 zz6 zz7 zz8 zz9
 simp only [e1,e2,e3,e4,e5,e6,e7,aA,aV,bJ,aZ,aY,bA]
 rfl

theorem bVn (a b:Int):yW a b=some (a,b,0,[]):=rfl


def RvD (l:lRv):Prop:=l.length<=16∧ ∀ y∈l,dS y=true

theorem bKq {l:lRv} {x:den tRv} (h:RvD l):RvD (aK2 l x):=by
 obtain ⟨h1,h2⟩:=h
 unfold aK2
 cases hv:dS x with
 | false=>exact ⟨h1,h2⟩
 | true=>
  simp only [zZ]
  cases hs:cD (aA7 x l) 0 l with
  | some r=>
   have :=aLy (fun r:lRv=> @ite Nat (RvD r) (Classical.propDecidable _) 0 1) 0 (g:=aA7 x l) (l:=l) (k:=0) (fun j y r' hy hr=>by
    have hp:RvD r':=by
     unfold aA7 at hr
     cases c1:y.1==x.1 with
     | false=>rw [c1] at hr;cases hr
     | true=>
      cases c2:y.2.1==x.2.1 with
      | false=>rw [c1,c2] at hr;cases hr
      | true=>
       rw [c1,c2] at hr
       injection hr with hr
       rw [← hr]
       have hy':=h2 y (bZk hy)
       refine ⟨by simpa using h1,fun z hz=> ?_⟩
       rcases cBz hz with hz | rfl
       ·exact h2 z hz
       ·unfold dS at hv hy' ⊢
        simp only [bZb] at hv hy' ⊢
        refine ⟨hy'.1,hy'.2.1,?_⟩
        split
        ·exact hv.2.2
        ·exact hy'.2.2
    simp only [zT hp]
    exact bZq _) r hs
   by_cases hp:RvD r
   ·exact hp
   ·simp only [zS hp] at this
    omega
  | none=>
   have hx: ∀ y∈l++[x],dS y=true:=fun y hy=>(bZh.1 hy).elim (h2 y) fun hy=>by rw [bZg.1 hy];exact hv
   by_cases c:16<l.length+1
   ·simp only [c,zV]
    exact ⟨by simp;omega,fun y hy=>hx y (cAv hy)⟩
   ·simp only [c,zU]
    exact ⟨by simp;omega,hx⟩

theorem aG3 (a b c d cu wa:Int) (ms:lMs) (ps:lPt) (rv:lRv):tot tFl (a,b,c,d,ms,ps,cu,wa,rv)=tot (.sl tMs) ms+tot (.sl tPt) ps+rv.length:=by
 show tot ti a+(tot ti b+(tot ti c+(tot ti d+(tot (.sl tMs) ms+(tot (.sl tPt) ps+(tot ti cu+(tot ti wa+tot (.sl tRv) rv)))))))=_
 rw [kF (t:=tRv) rfl]
 show 0+(0+(0+(0+(_+(_+(0+(0+_)))))))=_
 omega

theorem bA3 (b:List Int):tot (.sl tMs) [b]=1+b.length:=by
 rw [lM]
 show 1+tot (.sl tb) b+tot (.sl tMs) []=_
 rw [kF (t:=tb) rfl]
 rfl

theorem vE (f:den tFl):gR f=true↔inR f.1 0 7=true∧inR f.2.1 0 7=true∧f.1≠f.2.1∧inR f.2.2.1 0 100000=true∧f.2.2.2.2.1.length<=20∧inR f.2.2.2.1 0 (f.2.2.2.2.1.length:Int)=true∧f.2.2.2.2.2.1.length<=24∧
  (∀ m∈f.2.2.2.2.1,m.length<=40)∧(∀ x∈f.2.2.2.2.2.2.2.2,dS x=true)∧(f.2.2.2.2.2.2.1=0∨inR f.2.2.2.2.2.2.1 0 ((f.2.2.2.2.2.1.length:Int) - 1)=true)∧inR f.2.2.2.2.2.2.2.1 0 4=true∧f.2.2.2.2.2.2.2.2.length<=16:=by
 unfold gR
 simp only [bZb,cAm,cAa,beq_iff_eq,beq_eq_false_iff_ne,zR,bZx,ne_eq]

theorem aYa {c:Int} {n:Nat} (hn:n<=24) (h:c=0∨inR c 0 ((n:Int) - 1)=true):(if wr (c+1)>=(n:Int) then (0:Int) else wr (c+1))=0∨inR (if wr (c+1)>=(n:Int) then (0:Int) else wr (c+1)) 0 ((n:Int) - 1)=true:=by
 have hc:0<=c∧c<=24:=by
  rcases h with e | e
  ·omega
  ·have :=bT.1 e;omega
 rw [bN (by omega) (by omega)]
 split
 ·exact .inl rfl
 ·right
  rw [bT]
  omega

theorem bSh {w:Int} (h:inR w 0 4=true) (h4: ¬ (w==4)=true):inR (wr (w+1)) 0 4=true:=by
 rw [bT] at h
 rw [beq_iff_eq] at h4
 rw [bN (by omega) (by omega),bT]
 omega

theorem bJb {f:den tFl} (h:gR f=true):gR (aF f).1=true:=by
 rw [vE] at h
 obtain ⟨h1,h2,h3,h4,h5,h6,h7,h8,h9,h10,h11,h12⟩:=h
 have key: ∀ c w:Int,(c=0∨inR c 0 ((f.2.2.2.2.2.1.length:Int) - 1)=true)→inR w 0 4=true→gR (rT f c w)=true:=fun c w hc hw=>by
  rw [vE]
  exact ⟨h1,h2,h3,h4,h5,h6,h7,h8,h9,hc,hw,h12⟩
 unfold aF
 split
 ·split
  ·exact key _ _ h10 rfl
  ·split
   ·exact key _ _ (aYa h7 h10) rfl
   ·next e4=>exact key _ _ h10 (bSh h11 e4)
 ·exact key _ _ h10 rfl


def Cmp {α:Type} (a b:α) (o:Option Bool):Prop:= ∃ v,o=some v∧(a=b→v=true)


theorem aEf {α:Type} (a b:List α) (st:Int→Option (Int⊕(Unit⊕Bool))) (h:a.length<=1073741824)
  (hs: ∀ (i:Nat) (hi:i<a.length) (hj:i<b.length),∃ v:Bool,st (i:Int)=some (cond (!v) (.inr (.inr false)) (.inl ((i+1:Nat):Int)))∧(a[i]=b[i]→v=true)) (he:st (a.length:Int)=some (.inr (.inl ()))):
  Cmp a b (cond ((a.length:Int) != (b.length:Int)) (some false) (Option.bind (aB st (0:Int)) fun z=>Sum.elim (fun _=>some true) some z)):=by
 by_cases hn:a.length=b.length
 ·rw [hn,bne_self_eq_false,zY]
  refine bZ (G:=Cmp a b) a.length (fun s:Int=>s) (fun i t=>True) (fun r:Unit⊕Bool=>a=b→r= .inl ()) ?_ ?_ 0 (0:Int) (by omega) rfl trivial ?_
  ·rintro i _ hi rfl _
   obtain ⟨v,e,k⟩:=hs i hi (by omega)
   rw [e]
   cases v with
   | true=>exact .inr ⟨_,rfl,rfl,trivial⟩
   | false=>exact .inl ⟨.inr false,rfl,fun e=>by subst e;cases k rfl⟩
  ·rintro _ rfl _
   exact ⟨.inl (),he,fun _=>rfl⟩
  ·rintro r hr
   cases r with
   | inl u=>exact ⟨true,rfl,fun _=>rfl⟩
   | inr v=>exact ⟨v,rfl,fun e=>by cases hr e⟩
 ·rw [show ((a.length:Int) != (b.length:Int))=true by rw [bne_iff_ne];omega,zZ]
  exact ⟨false,rfl,fun e=>absurd (congrArg bZo e) hn⟩

theorem aXu {a b:List Int} (h:a.length<=1000000):Cmp a b (aBw a b):=by
 unfold aBw
 refine aEf a b _ (by omega) (fun i hi hj=>⟨a[i]==b[i],?_,fun e=>by simpa using e⟩) ?_
 ·simp only [zX (show (i:Int)<(a.length:Int) by omega),zZ,aG,bY7 hi,bY7 hj,aA,aW (show i<=1000000000 by omega),bne]
  cases a[i]==b[i]<;>rfl
 ·simp only [zW (bZp _),zY]

theorem aQ4 {a b:List lI} (h:a.length<=1000000) (hm: ∀ m∈a,m.length<=1000000):Cmp a b (mH a b):=by
 unfold mH
 refine aEf a b _ (by omega) (fun i hi hj=> ?_) ?_
 ·obtain ⟨v,e,k⟩:=aXu (a:=a[i]) (b:=b[i]) (hm _ (bZl hi))
  refine ⟨v,?_,k⟩
  simp only [zX (show (i:Int)<(a.length:Int) by omega),zZ,aG,bY7 hi,bY7 hj,aA,aW (show i<=1000000000 by omega),e]
  cases v<;>rfl
 ·simp only [zW (bZp _),zY]

theorem bGn {a b:lRv} (h:a.length<=1000000):Cmp a b (sR a b):=by
 unfold sR
 refine aEf a b _ (by omega) (fun i hi hj=>⟨((a[i].1==b[i].1)&&((a[i].2.1==b[i].2.1)&&((a[i].2.2==b[i].2.2)&&true))),?_,fun e=>by rw [e];simp⟩) ?_
 ·simp only [zX (show (i:Int)<(a.length:Int) by omega),zZ,aG,bY7 hi,bY7 hj,aA,aW (show i<=1000000000 by omega)]
  cases ((a[i].1==b[i].1)&&((a[i].2.1==b[i].2.1)&&((a[i].2.2==b[i].2.2)&&true)))<;>rfl
 ·simp only [zW (bZp _),zY]

theorem bSb {a b:den tIb} (h:a.2.2.2.length<=1000000) (hm: ∀ m:List Int,m∈(show List lI from a.2.2.2)→m.length<=1000000):Cmp a b (xX a b):=by
 obtain ⟨v,e,k⟩:=aQ4 (a:=a.2.2.2) (b:=b.2.2.2) h hm
 unfold xX
 rw [e,aA]
 cases c1:a.1==b.1
 ·exact ⟨false,rfl,fun e=>by subst e;simp at c1⟩
 ·cases c2:a.2.1==b.2.1
  ·exact ⟨false,rfl,fun e=>by subst e;simp at c2⟩
  ·cases c3:a.2.2.1==b.2.2.1
   ·exact ⟨false,rfl,fun e=>by subst e;simp at c3⟩
   ·exact ⟨v,rfl,fun e=>by subst e;exact k rfl⟩

theorem aVx {a b:dA} (h:a.length<=1000000):Cmp a b (pY a b):=by
 unfold pY zz4
 refine aEf a b _ (by omega) (fun i hi hj=>⟨((a[i].1==b[i].1)&&((a[i].2.1==b[i].2.1)&&((a[i].2.2.1==b[i].2.2.1)&&((a[i].2.2.2.1==b[i].2.2.2.1)&&((a[i].2.2.2.2==b[i].2.2.2.2)&&true))))),?_,fun e=>by rw [e];simp⟩) ?_
 ·simp only [zX (show (i:Int)<(a.length:Int) by omega),zZ,aG,bY7 hi,bY7 hj,aA,aW (show i<=1000000000 by omega)]
  cases ((a[i].1==b[i].1)&&((a[i].2.1==b[i].2.1)&&((a[i].2.2.1==b[i].2.2.1)&&((a[i].2.2.2.1==b[i].2.2.2.1)&&((a[i].2.2.2.2==b[i].2.2.2.2)&&true)))))<;>rfl
 ·simp only [zW (bZp _),zY]

theorem bJo {a b:den tPp} (h:a.2.2.2.length<=1000000):Cmp a b (sE a b):=by
 obtain ⟨v,e,k⟩:=aVx (a:=a.2.2.2) (b:=b.2.2.2) h
 unfold sE
 rw [e,aA]
 cases c1:a.1==b.1
 ·exact ⟨false,rfl,fun e=>by subst e;simp at c1⟩
 ·cases c2:a.2.1==b.2.1
  ·exact ⟨false,rfl,fun e=>by subst e;simp at c2⟩
  ·cases c3:a.2.2.1==b.2.2.1
   ·exact ⟨false,rfl,fun e=>by subst e;simp at c3⟩
   ·exact ⟨v,rfl,fun e=>by subst e;exact k rfl⟩

theorem aX9 {a b:lPp} (h:a.length<=1000000) (hp: ∀ x∈a,x.2.2.2.length<=1000000):Cmp a b (pW a b):=by
 unfold pW pj4
 refine aEf a b _ (by omega) (fun i hi hj=> ?_) ?_
 ·obtain ⟨v,e,k⟩:=bJo (a:=a[i]) (b:=b[i]) (hp _ (bZl hi))
  have e:sE (a[i].1,a[i].2.1,a[i].2.2.1,a[i].2.2.2) (b[i].1,b[i].2.1,b[i].2.2.1,b[i].2.2.2)=some v:=e
  refine ⟨v,?_,k⟩
  simp only [zX (show (i:Int)<(a.length:Int) by omega),zZ,aG,bY7 hi,bY7 hj,aA,aW (show i<=1000000000 by omega),e]
  cases v<;>rfl
 ·simp only [zW (bZp _),zY]

theorem bG3 {a b:lPt} (h:a.length<=1000000) (hp: ∀ p:lPp,p∈(show List lPp from a)→p.length<=1000000∧ ∀ x∈p,x.2.2.2.length<=1000000):Cmp a b (sZ a b):=by
 unfold sZ
 refine aEf a b _ (by omega) (fun i hi hj=> ?_) ?_
 ·obtain ⟨h1,h2⟩:=hp a[i] (bZl hi)
  obtain ⟨v,e,k⟩:=aX9 (a:=a[i]) (b:=b[i]) h1 h2
  refine ⟨v,?_,k⟩
  simp only [zX (show (i:Int)<(a.length:Int) by omega),zZ,aG,bY7 hi,bY7 hj,aA,aW (show i<=1000000000 by omega),e]
  cases v<;>rfl
 ·simp only [zW (bZp _),zY]

theorem aXk {p:lPp} (h:SmB 1000000 tPt p):p.length<=1000000∧ ∀ x∈p,x.2.2.2.length<=1000000:=⟨h.1,fun x hx=>(h.2 x hx).2.2.2.1⟩

theorem bJw {a b:den tFl} (h:SmB 1000000 tFl a):Cmp a b (vG a b):=by
 obtain ⟨v1,e1,k1⟩:=aQ4 (a:=a.2.2.2.2.1) (b:=b.2.2.2.2.1) h.2.2.2.2.1.1 (fun m hm=>(h.2.2.2.2.1.2 m hm).1)
 obtain ⟨v2,e2,k2⟩:=bG3 (a:=a.2.2.2.2.2.1) (b:=b.2.2.2.2.2.1) h.2.2.2.2.2.1.1 (fun p hp=>aXk (h.2.2.2.2.2.1.2 p hp))
 obtain ⟨v3,e3,k3⟩:=bGn (a:=a.2.2.2.2.2.2.2.2) (b:=b.2.2.2.2.2.2.2.2) h.2.2.2.2.2.2.2.2.1
 unfold vG zz4 zz5 zz6 zz7 zz8
 rw [e1,aA,e2,aA,e3,aA]
 cases c0:a.1==b.1
 ·exact ⟨false,rfl,fun e=>by subst e;simp at c0⟩
 ·cases c1:a.2.1==b.2.1
  ·exact ⟨false,rfl,fun e=>by subst e;simp at c1⟩
  ·cases c2:a.2.2.1==b.2.2.1
   ·exact ⟨false,rfl,fun e=>by subst e;simp at c2⟩
   ·cases c3:a.2.2.2.1==b.2.2.2.1
    ·exact ⟨false,rfl,fun e=>by subst e;simp at c3⟩
    ·cases v1
     ·exact ⟨false,rfl,fun e=>by subst e;cases k1 rfl⟩
     ·cases v2
      ·exact ⟨false,rfl,fun e=>by subst e;cases k2 rfl⟩
      ·cases c6:a.2.2.2.2.2.2.1==b.2.2.2.2.2.2.1
       ·exact ⟨false,rfl,fun e=>by subst e;simp at c6⟩
       ·cases c7:a.2.2.2.2.2.2.2.1==b.2.2.2.2.2.2.2.1
        ·exact ⟨false,rfl,fun e=>by subst e;simp at c7⟩
        ·exact ⟨v3,rfl,fun e=>by subst e;exact k3 rfl⟩

theorem bS1 {a b:den tPk} (h:SmB 1000000 tPk a):Cmp a b (qT a b):=by
 obtain ⟨h1,h2⟩:=aXk h.2.2.2.1
 obtain ⟨v1,e1,k1⟩:=aX9 (a:=a.2.2.2.1) (b:=b.2.2.2.1) h1 h2
 obtain ⟨v2,e2,k2⟩:=aXu (a:=a.2.2.2.2.2.2.2.2.2) (b:=b.2.2.2.2.2.2.2.2.2) h.2.2.2.2.2.2.2.2.2.1
 unfold qT zz4 zz5 zz6 zz7 zz8 zz9
 rw [e1,aA,e2,aA]
 cases c0:a.1==b.1
 ·exact ⟨false,rfl,fun e=>by subst e;simp at c0⟩
 ·cases c1:a.2.1==b.2.1
  ·exact ⟨false,rfl,fun e=>by subst e;simp at c1⟩
  ·cases c2:a.2.2.1==b.2.2.1
   ·exact ⟨false,rfl,fun e=>by subst e;simp at c2⟩
   ·cases v1
    ·exact ⟨false,rfl,fun e=>by subst e;cases k1 rfl⟩
    ·cases c4:a.2.2.2.2.1==b.2.2.2.2.1
     ·exact ⟨false,rfl,fun e=>by subst e;simp at c4⟩
     ·cases c5:a.2.2.2.2.2.1==b.2.2.2.2.2.1
      ·exact ⟨false,rfl,fun e=>by subst e;simp at c5⟩
      ·cases c6:a.2.2.2.2.2.2.1==b.2.2.2.2.2.2.1
       ·exact ⟨false,rfl,fun e=>by subst e;simp at c6⟩
       ·cases c7:a.2.2.2.2.2.2.2.1==b.2.2.2.2.2.2.2.1
        ·exact ⟨false,rfl,fun e=>by subst e;simp at c7⟩
        ·cases c8:a.2.2.2.2.2.2.2.2.1==b.2.2.2.2.2.2.2.2.1
         ·exact ⟨false,rfl,fun e=>by subst e;simp at c8⟩
         ·exact ⟨v2,rfl,fun e=>by subst e;exact k2 rfl⟩


def Byt (l:List Int):Prop:= ∀ x∈l,0<=x∧x<=255

theorem bWk (bs:ByteArray): ∀ (n i:Nat) (r:List UInt8),n+i=bs.size→ByteArray.toList.loop bs i r=r.reverse++bs.data.toList.drop i:=by
 intro n
 induction n with
 | zero=>
  intro i r h
  unfold ByteArray.toList.loop
  rw [zS (by omega),List.drop_of_length_le (by rw [cBx];show bs.size<=i;omega),cAf]
 | succ n ih=>
  intro i r h
  unfold ByteArray.toList.loop
  rw [zT (by omega),ih (i+1) _ (by omega)]
  have hi:i<bs.data.toList.length:=by rw [cBx];show i<bs.size;omega
  rw [cCi hi,List.reverse_cons,List.append_assoc]
  congr 2
  simp [ByteArray.get!]
  rw [getElem!_pos bs.data i (by rw [← cBx];exact hi)]

theorem bl (bs:ByteArray):bs.toList=bs.data.toList:=by
 unfold ByteArray.toList
 rw [bWk bs bs.size 0 [] (by omega)]
 simp

theorem aRg (l:List Int):(yL l).toList=l.map fun n=>UInt8.ofNat n.toNat:=by
 rw [bl];rfl

theorem bJd {a b:List Int} (ha:Byt a) (hb:Byt b):((yL a).toList==(yL b).toList)=true↔a=b:=by
 rw [beq_iff_eq,aRg,aRg]
 constructor
 ·intro h
  have hl:=congrArg bZo h
  simp only [cAe] at hl
  refine List.ext_getElem hl fun i h1 h2=> ?_
  have h3:(a.map fun n=>UInt8.ofNat n.toNat)[i]'(by simpa using h1)=(b.map fun n=>UInt8.ofNat n.toNat)[i]'(by simpa using h2):=by simp only [h]
  simp only [List.getElem_map] at h3
  have a1:=ha _ (bZl h1)
  have b1:=hb _ (bZl h2)
  have h4:=congrArg UInt8.toNat h3
  simp only [UInt8.toNat_ofNat'] at h4
  omega
 ·intro h;rw [h]

def pJ (l:dA):Option Int:=l.head?.map fun x=>(x.1:Int)

def gF (l:dA):Option Int:=l.getLast?.map fun x=>(x.1:Int)

def aL7 (p:lPp):Option Int:=p.head?.bind fun x=>pJ x.2.2.2

def aDw (p:lPp):Option Int:=p.getLast?.bind fun x=>gF x.2.2.2

theorem aW1 {s:den tSg} (h:s.2.2.length<=1000): ∃ v,eI s=some v∧(0<=v→gF s.2.2=some v):=by
 unfold eI
 by_cases h0:s.2.2.length=0
 ·rw [show ((s.2.2.length:Int)==0)=true by rw [beq_iff_eq];omega,zZ]
  exact ⟨_,rfl,fun h=>absurd h (by decide)⟩
 ·have w1:wr ((s.2.2.length:Int) - 1)=((s.2.2.length - 1:Nat):Int):=by rw [bN (by omega) (by omega)];omega
  rw [show ((s.2.2.length:Int)==0)=false by rw [beq_eq_false_iff_ne];omega,zY,w1,aG,bY7 (by omega),aA]
  refine ⟨_,rfl,fun _=> ?_⟩
  unfold gF
  rw [List.getLast?_eq_getElem?,bY7 (by omega)]
  rfl

theorem bF8 {s:den tSg}: ∃ v,cI s=some v∧(0<=v→pJ s.2.2=some v):=by
 unfold cI
 by_cases h0:s.2.2.length=0
 ·rw [show ((s.2.2.length:Int)==0)=true by rw [beq_iff_eq];omega,zZ]
  exact ⟨_,rfl,fun h=>absurd h (by decide)⟩
 ·rw [show ((s.2.2.length:Int)==0)=false by rw [beq_eq_false_iff_ne];omega,zY,show (0:Int)=((0:Nat):Int) from rfl,aG,bY7 (by omega),aA]
  refine ⟨_,rfl,fun _=> ?_⟩
  unfold pJ
  rw [List.head?_eq_getElem?,bY7 (by omega)]
  rfl

theorem bSn {s:den tSg} (h:s.2.2.length<=5) {k:Int} (hk:inR k 1 4=true) {m:Nat} (hm:m<s.2.2.length): ∃ t b:Int,bQ s k (m:Int)=some (k,t,b,if jY k then (s.2.2.drop m).reverse else s.2.2.drop m):=by
 unfold bQ pj3 pj4 pj5 zz4
 obtain ⟨b1,eb1⟩:=aCc (s:=s) (m:Int) (by omega)
 obtain ⟨b2,eb2⟩:=aCc (s:=s) (s.2.2.length:Int) (by omega)
 have eb1:hO (s.1,s.2.1,s.2.2) (m:Int)=some b1:=eb1
 have eb2:hO (s.1,s.2.1,s.2.2) (s.2.2.length:Int)=some b2:=eb2
 simp only [fG,aA,aV,bJ,aZ,aY,bA,eb1,eb2,aEa]
 have w1:wr ((s.2.2.length:Int) - 1)=(s.2.2.length:Int) - 1:=bN (by omega) (by omega)
 have c1:inR (m:Int) 0 ((s.2.2.length:Int) - 1)=true:=bT.2 ⟨by omega,by omega⟩
 rw [w1,c1,hk]
 simp only [bY9,zY,aA]
 cases jY k with
 | false=>
  have e1:bR (m:Int) (s.2.2.length:Int) (s.2.2.length:Int)=true:=xR (by omega)
  rw [e1,aCa,aD (b:=40) (by decide) (by simp;omega)]
  exact ⟨_,_,rfl⟩
 | true=>
  refine kI (G:=fun o=> ∃ t b:Int,o=some (k,t,b,(s.2.2.drop m).reverse)) (fun (n:Nat) (t:Int×q13)=>t=((n:Int) - 1,k,s.1,b2,(s.2.2.drop n).reverse)∧m<=n∧n<=s.2.2.length) (fun q:den tPp=>q=(k,s.1,b2,(s.2.2.drop m).reverse)) ?_ s.2.2.length ((s.2.2.length:Int) - 1,k,s.1,b2,[]) ⟨by rw [List.drop_length];rfl,by omega,bZq _⟩ (fun q hq=>⟨s.1,b2,by rw [hq]⟩)
  rintro n _ ⟨rfl,g1,g2⟩
  by_cases hn:(n:Int) - 1>=(m:Int)
  ·right
   have hn1:(n:Int) - 1=((n - 1:Nat):Int):=by omega
   have hi:n - 1<s.2.2.length:=by omega
   have hd:(s.2.2.drop (n - 1)).reverse=(s.2.2.drop n).reverse++[s.2.2[n - 1]]:=by
    rw [cCi hi,List.reverse_cons,show n - 1+1=n by omega]
   refine ⟨n - 1,(((n - 1:Nat):Int) - 1,k,s.1,b2,(s.2.2.drop (n - 1)).reverse),by omega,?_,rfl,by omega,by omega⟩
   simp only [zX hn,zZ,aD (b:=40) (n:=(s.2.2.drop n).reverse.length) (m:=1) (by decide) (by simp;omega)]
   rw [hn1,aG,bY7 hi,aA,bN (n:=((n - 1:Nat):Int) - 1) (by omega) (by omega),hd]
  ·left
   have hnm:n=m:=by omega
   subst hnm
   exact ⟨_,by simp only [zW hn,zY],rfl⟩


theorem aCu {s:den tSg} (h:s.2.2.length<=5) {k:Int} (hk:inR k 1 4=true) {m:Nat} (hm:m<s.2.2.length): ∃ q:den tPp,bQ s k (m:Int)=some q∧q.2.2.2.length<=5∧pJ q.2.2.2=(if jY k then gF s.2.2 else some s.2.2[m].1)∧gF q.2.2.2=(if jY k then some s.2.2[m].1 else gF s.2.2):=by
 obtain ⟨t,b,e⟩:=bSn h hk hm
 have hl:gF (s.2.2.drop m)=gF s.2.2:=by
  unfold gF
  rw [List.getLast?_drop,zS (by omega)]
 have hf:pJ (s.2.2.drop m)=some s.2.2[m].1:=by
  unfold pJ
  rw [List.head?_drop,bY7 hm];rfl
 refine ⟨_,e,?_,?_,?_⟩
 ·show (if jY k then _ else _:dA).length<=5
  split<;>simp only [List.length_reverse,cA4]<;>omega
 ·show pJ (if jY k then _ else _)=_
  split
  ·rw [← hl];unfold pJ gF;rw [List.head?_reverse]
  ·exact hf
 ·show gF (if jY k then _ else _)=_
  split
  ·rw [← hf];unfold pJ gF;rw [List.getLast?_reverse]
  ·exact hl


def aU5 (r:Int) (n:Nat) (l:lSg):Prop:=aKo n l∧ ∀ x∈l,gF x.2.2=some r

theorem aRb {n:Nat} (hn:n<=100) {d cc:lSg} (hk:DbD n d cc) {r:Int} (hr:0<=r): ∃ l,dL (d,cc) r=some l∧aU5 r n l:=by
 have hd:=hk.down
 unfold dL pj3
 refine bZ (G:=fun o=> ∃ l,o=some l∧aU5 r n l) d.length (fun s:Int×lSg=>s.1) (fun i s=>aU5 r i s.2) (fun l:lSg=>aU5 r n l) ?_ ?_ 0 ((0:Int),[]) (by omega) rfl ⟨⟨by simp,fun x hx=>(bZw hx).elim⟩,fun x hx=>(bZw hx).elim⟩ (fun l hl=>⟨l,rfl,hl⟩)
 ·rintro i ⟨_,l⟩ hi rfl ⟨⟨g1,g2⟩,g3⟩
  simp only at g1 g2 g3
  right
  have h5:=hk.hd d[i] (bZl hi)
  obtain ⟨v,ev,hv⟩:=aW1 (s:=d[i]) (by omega)
  have ev:eI (d[i].1,d[i].2.1,d[i].2.2)=some v:=ev
  have ec:=aGa (x:=d[i]) (by omega)
  have ec:fX (d[i].1,d[i].2.1,d[i].2.2)=some d[i]:=ec
  simp only [zX (show (i:Int)<(d.length:Int) by omega),zZ,aG,bY7 hi,aA,ev,ec,aD (b:=40) (n:=l.length) (m:=1) (by decide) (by omega),aW (show i<=1000000000 by omega)]
  cases hvr:(v==r) with
  | true=>
   have hvr:v=r:=eq_of_beq hvr
   exact ⟨_,rfl,rfl,⟨by simp;omega,fun x hx=>(bZh.1 hx).elim (g2 x) fun hx=>by rw [bZg.1 hx];exact h5⟩,fun x hx=>(bZh.1 hx).elim (g3 x) fun hx=>by rw [bZg.1 hx,← hvr];exact hv (by omega)⟩
  | false=>exact ⟨_,rfl,rfl,⟨by show l.length<=i+1;omega,g2⟩,g3⟩
 ·rintro ⟨_,l⟩ rfl ⟨⟨g1,g2⟩,g3⟩
  exact ⟨l,by simp only [zW (bZp _),zY],⟨by simp only at g1;omega,g2⟩,g3⟩


def aVa (a b:Int) (n:Nat) (l:lSg):Prop:=aKo n l∧ ∀ x∈l,pJ x.2.2=some a∧gF x.2.2=some b

theorem bQc {n:Nat} (hn:n<=100) {d cc:lSg} (hk:DbD n d cc) {a b:Int} (ha:0<=a) (hb:0<=b): ∃ l,nX (d,cc) a b=some l∧aVa a b n l:=by
 have hd:=hk.core
 unfold nX pj3
 refine bZ (G:=fun o=> ∃ l,o=some l∧aVa a b n l) cc.length (fun s:Int×lSg=>s.1) (fun i s=>aVa a b i s.2) (fun l:lSg=>aVa a b n l) ?_ ?_ 0 ((0:Int),[]) (by omega) rfl ⟨⟨by simp,fun x hx=>(bZw hx).elim⟩,fun x hx=>(bZw hx).elim⟩ (fun l hl=>⟨l,rfl,hl⟩)
 ·rintro i ⟨_,l⟩ hi rfl ⟨⟨g1,g2⟩,g3⟩
  simp only at g1 g2 g3
  right
  have h5:=hk.hc cc[i] (bZl hi)
  obtain ⟨v,ev,hv⟩:=aW1 (s:=cc[i]) (by omega)
  have ev:eI (cc[i].1,cc[i].2.1,cc[i].2.2)=some v:=ev
  obtain ⟨u,eu,hu⟩:=bF8 (s:=cc[i])
  have eu:cI (cc[i].1,cc[i].2.1,cc[i].2.2)=some u:=eu
  have ec:=aGa (x:=cc[i]) (by omega)
  have ec:fX (cc[i].1,cc[i].2.1,cc[i].2.2)=some cc[i]:=ec
  simp only [zX (show (i:Int)<(cc.length:Int) by omega),zZ,aG,bY7 hi,aA,ev,eu,ec,aD (b:=40) (n:=l.length) (m:=1) (by decide) (by omega),aW (show i<=1000000000 by omega)]
  cases hua:(u==a) with
  | true=>
   simp only [zZ,aA]
   cases hvb:(v==b) with
   | true=>
    have hua:u=a:=eq_of_beq hua
    have hvb:v=b:=eq_of_beq hvb
    exact ⟨_,rfl,rfl,⟨by simp;omega,fun x hx=>(bZh.1 hx).elim (g2 x) fun hx=>by rw [bZg.1 hx];exact h5⟩,fun x hx=>(bZh.1 hx).elim (g3 x) fun hx=>by rw [bZg.1 hx,← hua,← hvb];exact ⟨hu (by omega),hv (by omega)⟩⟩
   | false=>exact ⟨_,rfl,rfl,⟨by show l.length<=i+1;omega,g2⟩,g3⟩
  | false=>exact ⟨_,rfl,rfl,⟨by show l.length<=i+1;omega,g2⟩,g3⟩
 ·rintro ⟨_,l⟩ rfl ⟨⟨g1,g2⟩,g3⟩
  exact ⟨l,by simp only [zW (bZp _),zY],⟨by simp only at g1;omega,g2⟩,g3⟩

theorem bV8 {s:den tSg} (h:s.2.2.length<=1000) (r:Int): ∃ v,oH s r=some v∧(0<=v→ ∃ (m:Nat) (x:den cH),v=(m:Int)∧s.2.2[m]? =some x∧x.1=r):=by
 unfold oH
 refine bZ (G:=fun o=> ∃ v,o=some v∧(0<=v→ ∃ (m:Nat) (x:den cH),v=(m:Int)∧s.2.2[m]? =some x∧x.1=r)) s.2.2.length (fun s:Int=>s) (fun i t=>True) (fun z:Unit⊕Int=> ∀ v,z= .inr v→ ∃ (m:Nat) (x:den cH),v=(m:Int)∧s.2.2[m]? =some x∧x.1=r) ?_ ?_ 0 (0:Int) (by omega) rfl trivial ?_
 ·rintro i _ hi rfl _
  simp only [zX (show (i:Int)<(s.2.2.length:Int) by omega),zZ,aG,bY7 hi,aA,aW (show i<=1000000000 by omega)]
  cases hx:(s.2.2[i].1==r) with
  | true=>exact .inl ⟨_,rfl,fun v hv=>by cases hv;exact ⟨i,s.2.2[i],rfl,bY7 hi,eq_of_beq hx⟩⟩
  | false=>exact .inr ⟨_,rfl,rfl,trivial⟩
 ·rintro _ rfl _
  exact ⟨.inl (),by simp only [zW (bZp _),zY],fun v hv=>by cases hv⟩
 ·rintro z hz
  cases z with
  | inl u=>exact ⟨-1,rfl,fun h=>absurd h (by decide)⟩
  | inr v=>exact ⟨v,rfl,fun _=>hz v rfl⟩


def aQk (a b:Int) (p:den tPt):Prop:=nQ p∧aL7 p=some a∧aDw p=some b

def cA (a b:Int) (n:Nat) (l:lPt):Prop:=l.length<=n∧ ∀ p∈l,aQk a b p

theorem cA.add {a b:Int} {n m:Nat} {k l:lPt} (ha:cA a b n k) (hb:cA a b m l):cA a b (n+m) (k++l):=⟨by rw [bZ5];have :=ha.1;have :=hb.1;omega,fun p hp=>(bZh.1 hp).elim (ha.2 p) (hb.2 p)⟩

theorem cA.one {a b:Int} {p:den tPt} (h:aQk a b p):cA a b 1 [p]:=⟨by simp,fun q hq=>by rw [bZg.1 hq];exact h⟩

theorem cA.mono {a b:Int} {n m:Nat} {l:lPt} (h:cA a b n l) (hm:n<=m):cA a b m l:=⟨bY8 h.1 hm,h.2⟩

theorem cA.d {a b:Int} {n:Nat} {l:lPt} (h:cA a b n l):xF n l:=⟨h.1,fun p hp=>(h.2 p hp).1⟩

theorem bHk {up core down:den tSg} (h1:up.2.2.length<=5) (h2:core.2.2.length<=5) (h3:down.2.2.length<=5) (b:Bool) (hc:0<core.2.2.length) {x y:Int}
  (hx:(up.2.2.length=0∧(if b then gF core.2.2 else pJ core.2.2)=some x)∨(0<up.2.2.length∧gF up.2.2=some x))
  (hy:(down.2.2.length=0∧(if b then pJ core.2.2 else gF core.2.2)=some y)∨(0<down.2.2.length∧gF down.2.2=some y)): ∃ p,mC up core b down=some p∧aQk x y p:=by
 have h0:pJ core.2.2=some core.2.2[0].1:=by
  unfold pJ
  rw [List.head?_eq_getElem?,bY7 hc];rfl
 obtain ⟨q2,e2,k2,f2,l2⟩:=aCu (s:=core) h2 (k:=cond b 3 2) (m:=0) (by cases b<;>rfl) hc
 have e2:bQ (core.1,core.2.1,core.2.2) (cond b 3 2) 0=some q2:=e2
 have eb:(cond b (some (3:Int)) (some (2:Int)))=some (cond b 3 2):=by cases b<;>rfl
 have F2:pJ q2.2.2.2=(if b then gF core.2.2 else pJ core.2.2):=by rw [f2,h0];cases b<;>rfl
 have L2:gF q2.2.2.2=(if b then pJ core.2.2 else gF core.2.2):=by rw [l2,h0];cases b<;>rfl
 have dc:decide ((core.2.2.length:Int)>(0:Int))=true:=zX (by omega)
 obtain ⟨q1,e1,k1⟩:=yJ (s:=up) h1 1 0
 obtain ⟨q3,e3,k3⟩:=yJ (s:=down) h3 4 0
 have e1':bQ (up.1,up.2.1,up.2.2) 1 0=some q1:=e1
 have e3':bQ (down.1,down.2.1,down.2.2) 4 0=some q3:=e3
 have F1:0<up.2.2.length→pJ q1.2.2.2=gF up.2.2:=fun hu=>by
  obtain ⟨q,e,_,f,_⟩:=aCu (s:=up) h1 (k:=1) (m:=0) rfl hu
  have :some q1=some q:=e1.symm.trans e
  injection this with this
  rw [this,f];rfl
 have L3:0<down.2.2.length→gF q3.2.2.2=gF down.2.2:=fun hu=>by
  obtain ⟨q,e,_,_,l⟩:=aCu (s:=down) h3 (k:=4) (m:=0) rfl hu
  have :some q3=some q:=e3.symm.trans e
  injection this with this
  rw [this,l];rfl
 unfold mC pj3 pj4
 rw [eb]
 simp only [e1',e2,e3',aA,dc,zZ]
 rw [show aH 48 0 1=true from by decide]
 rcases hx with ⟨hu,hx⟩ | ⟨hu,hx⟩
 ·rw [zW (show ¬ ((up.2.2.length:Int)>0) by omega)]
  rcases hy with ⟨hd,hy⟩ | ⟨hd,hy⟩
  ·rw [zW (show ¬ ((down.2.2.length:Int)>0) by omega)]
   exact ⟨[q2],rfl,aKs k2,by show pJ q2.2.2.2=_;rw [F2,hx],by show gF q2.2.2.2=_;rw [L2,hy]⟩
  ·rw [zX (show (down.2.2.length:Int)>0 by omega)]
   refine ⟨[q2,q3],rfl,⟨cB7 rfl,fun z hz=> ?_⟩,by show pJ q2.2.2.2=_;rw [F2,hx],by show gF q3.2.2.2=_;rw [L3 hd,hy]⟩
   have hz:z∈[q2,q3]:=hz
   simp only [bZc,bZw,or_false] at hz
   rcases hz with rfl | rfl
   ·exact k2
   ·exact k3
 ·rw [zX (show (up.2.2.length:Int)>0 by omega)]
  rcases hy with ⟨hd,hy⟩ | ⟨hd,hy⟩
  ·rw [zW (show ¬ ((down.2.2.length:Int)>0) by omega)]
   refine ⟨[q1,q2],rfl,⟨cB7 rfl,fun z hz=> ?_⟩,by show pJ q1.2.2.2=_;rw [F1 hu,hx],by show gF q2.2.2.2=_;rw [L2,hy]⟩
   have hz:z∈[q1,q2]:=hz
   simp only [bZc,bZw,or_false] at hz
   rcases hz with rfl | rfl
   ·exact k1
   ·exact k2
  ·rw [zX (show (down.2.2.length:Int)>0 by omega)]
   refine ⟨[q1,q2,q3],rfl,⟨cB7 rfl,fun z hz=> ?_⟩,by show pJ q1.2.2.2=_;rw [F1 hu,hx],by show gF q3.2.2.2=_;rw [L3 hd,hy]⟩
   have hz:z∈[q1,q2,q3]:=hz
   simp only [bZc,bZw,or_false] at hz
   rcases hz with rfl | rfl | rfl
   ·exact k1
   ·exact k2
   ·exact k3


def bMo (up:den tSg) (a x:Int):Prop:=(up.2.2.length=0∧a=x)∨(0<up.2.2.length∧gF up.2.2=some x)

theorem aPo {n:Nat} (hn:n<=100) {d cc:lSg} (hk:DbD n d cc) {up down:den tSg} (h1:up.2.2.length<=5) (h3:down.2.2.length<=5) {a b x y:Int} (ha:0<=a) (hb:0<=b) (hx:bMo up a x) (hy:bMo down b y): ∃ l,iS (d,cc) up a b down=some l∧cA x y (2 * n) l:=by
 obtain ⟨y1,e1,⟨f1,g1⟩,b1⟩:=bQc hn hk ha hb
 obtain ⟨y2,e2,⟨f2,g2⟩,b2⟩:=bQc hn hk hb ha
 unfold iS ixb pj2 pj3
 rw [e1,aA]
 refine bZ (G:=fun o=> ∃ l,o=some l∧cA x y (2 * n) l) y1.length (fun s:Int×lPt=>s.1) (fun i s=>cA x y i s.2) (fun l:lPt=>cA x y n l) ?_ ?_ 0 ((0:Int),[]) (by omega) rfl ⟨by simp,fun x hx=>(bZw hx).elim⟩ ?_
 ·rintro i ⟨_,l⟩ hi rfl hp
  simp only at hp
  have hl:=hp.1
  right
  have hpos:0<y1[i].2.2.length:=by
   have :=(b1 y1[i] (bZl hi)).1
   cases h0:y1[i].2.2 with
   | nil=>rw [h0] at this;cases this
   | cons z l=>exact Nat.succ_pos _
  obtain ⟨p,ep,kp⟩:=bHk h1 (g1 y1[i] (bZl hi)) h3 false hpos (x:=x) (y:=y) (hx.imp (fun h=>⟨h.1,by rw [← h.2];exact (b1 y1[i] (bZl hi)).1⟩) id) (hy.imp (fun h=>⟨h.1,by rw [← h.2];exact (b1 y1[i] (bZl hi)).2⟩) id)
  have ep:mC (up.1,up.2.1,up.2.2) (y1[i].1,y1[i].2.1,y1[i].2.2) false (down.1,down.2.1,down.2.2)=some p:=ep
  refine ⟨(((i+1:Nat):Int),l++[p]),?_,rfl,hp.add (m:=1) ⟨by simp,fun q hq=>by rw [bZg.1 hq];exact kp⟩⟩
  simp only [zX (show (i:Int)<(y1.length:Int) by omega),zX (show (0:Int)<=(i:Int) by omega),zZ,bZi,bY7 hi,aA,ep,aD (b:=24) (n:=l.length) (m:=1) (by decide) (by omega),aW (show i<=1000000000 by omega)]
 ·rintro ⟨_,l⟩ rfl hp
  simp only at hp
  exact ⟨l,by simp only [zW (bZp _),zY],bY8 hp.1 f1,hp.2⟩
 rintro l1 hl1
 rw [e2,aA]
 refine bZ (G:=fun o=> ∃ l,o=some l∧cA x y (2 * n) l) y2.length (fun s:Int×lPt=>s.1) (fun i s=>cA x y (n+i) s.2) (fun l:lPt=>cA x y (2 * n) l) ?_ ?_ 0 ((0:Int),l1) (by omega) rfl hl1 (fun l hl=>⟨l,rfl,hl⟩)
 ·rintro i ⟨_,l⟩ hi rfl hp
  simp only at hp
  have hl:=hp.1
  right
  have hpos:0<y2[i].2.2.length:=by
   have :=(b2 y2[i] (bZl hi)).1
   cases h0:y2[i].2.2 with
   | nil=>rw [h0] at this;cases this
   | cons z l=>exact Nat.succ_pos _
  obtain ⟨p,ep,kp⟩:=bHk h1 (g2 y2[i] (bZl hi)) h3 true hpos (x:=x) (y:=y) (hx.imp (fun h=>⟨h.1,by rw [← h.2];exact (b2 y2[i] (bZl hi)).2⟩) id) (hy.imp (fun h=>⟨h.1,by rw [← h.2];exact (b2 y2[i] (bZl hi)).1⟩) id)
  have ep:mC (up.1,up.2.1,up.2.2) (y2[i].1,y2[i].2.1,y2[i].2.2) true (down.1,down.2.1,down.2.2)=some p:=ep
  refine ⟨(((i+1:Nat):Int),l++[p]),?_,rfl,hp.add (m:=1) ⟨by simp,fun q hq=>by rw [bZg.1 hq];exact kp⟩⟩
  simp only [zX (show (i:Int)<(y2.length:Int) by omega),zX (show (0:Int)<=(i:Int) by omega),zZ,bZi,bY7 hi,aA,ep,aD (b:=24) (n:=l.length) (m:=1) (by decide) (by omega),aW (show i<=1000000000 by omega)]
 ·rintro ⟨_,l⟩ rfl hp
  simp only at hp
  exact ⟨l,by simp only [zW (bZp _),zY],bY8 hp.1 (by omega),hp.2⟩


def aM5 (a b:Int) (p:den tPt):Prop:=p=[]∨aQk a b p

theorem bWi {up down:den tSg} (h1:up.2.2.length<=5) (h2:down.2.2.length<=5) {x y:Int} (hx:gF up.2.2=some x) (hy:gF down.2.2=some y): ∃ p,iW up down=some p∧aM5 x y p:=by
 obtain ⟨y1,e1,l1⟩:=aD6 (s:=up) (by omega)
 obtain ⟨y2,e2,l2⟩:=aD6 (s:=down) (by omega)
 have e1:dB (up.1,up.2.1,up.2.2)=some y1:=e1
 have e2:dB (down.1,down.2.1,down.2.2)=some y2:=e2
 have hm: ∃ p,jI up down=some p∧aM5 x y p:=by
  unfold jI ixb pj3 pj4
  rw [e1,aA,e2,aA,aCx (n:=y1.length) (by omega)]
  refine kI (G:=fun o=> ∃ p,o=some p∧aM5 x y p) (fun (n:Nat) (s:Int)=>s=(n:Int) - 1∧n<=y1.length) (fun z:Unit⊕den tPt=> ∀ p,z= .inr p→aM5 x y p) ?_ y1.length ((y1.length:Int) - 1) ⟨rfl,bZq _⟩ ?_
  ·rintro n _ ⟨rfl,hn⟩
   by_cases h0:(n:Int) - 1>=0
   ·simp only [zX h0,zZ]
    have hn1:(n:Int) - 1=((n - 1:Nat):Int):=by omega
    have hi:n - 1<y1.length:=by omega
    rw [aCx (n:=y2.length) (by omega)]
    refine kI (G:=fun (o:Option (Int⊕(Unit⊕den tPt)))=>(∃ r:Unit⊕den tPt,o=some (bY5 r)∧ ∀ p,r=bY5 p→aM5 x y p)∨ ∃ (m:Nat) (s':Int),m<n∧o=some (bY6 s')∧s'=(m:Int) - 1∧m<=y1.length) (fun (k:Nat) (s:Int)=>s=(k:Int) - 1∧k<=y2.length) (fun z:Unit⊕(Int⊕(Unit⊕den tPt))=>z= .inl ()∨ ∃ p,z= .inr (.inr (.inr p))∧aM5 x y p) ?_ y2.length ((y2.length:Int) - 1) ⟨rfl,bZq _⟩ ?_
    ·rintro k _ ⟨rfl,hk⟩
     by_cases g0:(k:Int) - 1>=0
     ·have hk1:(k:Int) - 1=((k - 1:Nat):Int):=by omega
      have hj:k - 1<y2.length:=by omega
      simp only [hn1,hk1,zX (show ((k - 1:Nat):Int)>=0 by omega),zX (show (0:Int)<=((n - 1:Nat):Int) by omega),zX (show (0:Int)<=((k - 1:Nat):Int) by omega),zX (show ((n - 1:Nat):Int)<(y1.length:Int) by omega),zX (show ((k - 1:Nat):Int)<(y2.length:Int) by omega),zZ,bZi,bY7 hi,bY7 hj,aA]
      cases y1[n - 1]==y2[k - 1] with
      | true=>
       obtain ⟨q1,f1,g1,u1,u2⟩:=aCu (s:=up) h1 (k:=1) (m:=n - 1) rfl (by omega)
       obtain ⟨q2,f2,g2,v1,v2⟩:=aCu (s:=down) h2 (k:=4) (m:=k - 1) rfl (by omega)
       have f1:bQ (up.1,up.2.1,up.2.2) 1 ((n - 1:Nat):Int)=some q1:=f1
       have f2:bQ (down.1,down.2.1,down.2.2) 4 ((k - 1:Nat):Int)=some q2:=f2
       exact .inl ⟨.inr (.inr (.inr [q1,q2])),by simp only [zZ,f1,f2,aA],.inr ⟨[q1,q2],rfl,.inr ⟨⟨cB7 rfl,fun x hx=>by
        have hx:x∈[q1,q2]:=hx
        simp only [bZc,bZw,or_false] at hx
        rcases hx with rfl | rfl
        ·exact g1
        ·exact g2⟩,u1.trans hx,v2.trans hy⟩⟩⟩
      | false=>exact .inr ⟨k - 1,((k - 1:Nat):Int) - 1,by omega,by simp only [zY,aCx (n:=k - 1) (by omega)],rfl,by omega⟩
     ·exact .inl ⟨.inl (),by simp only [zW g0,zY],.inl rfl⟩
    ·rintro z (rfl | ⟨p,rfl,hp⟩)
     ·exact .inr ⟨n - 1,((n - 1:Nat):Int) - 1,by omega,by simp only [cAc,hn1,aCx (n:=n - 1) (by omega)],rfl,by omega⟩
     ·exact .inl ⟨.inr p,rfl,fun q hq=>by cases hq;exact hp⟩
   ·exact .inl ⟨.inl (),by simp only [zW h0,zY],fun p hp=>by cases hp⟩
  ·rintro z hz
   cases z with
   | inl u=>exact ⟨[],rfl,.inl rfl⟩
   | inr p=>exact ⟨p,rfl,hz p rfl⟩
 obtain ⟨p,ep,kp⟩:=hm
 have ep:jI (up.1,up.2.1,up.2.2) (down.1,down.2.1,down.2.2)=some p:=ep
 exact ⟨p,by unfold iW pj3;rw [ep,aA],kp⟩

theorem bNx {y:lSg} {n:Nat} (hn:n<=100) (hy:aKo n y) (kind r:Int) {a b:Int} (hk4:inR kind 1 4=true) (hends: ∀ s∈y,∀ (m:Nat) (x:den cH),s.2.2[m]? =some x→x.1=r→(if jY kind then gF s.2.2 else some x.1)=some a∧(if jY kind then some x.1 else gF s.2.2)=some b) {m:Nat} (hm:m<=10000) {l0:lPt} (h0:cA a b m l0) {T:Type} {k:lPt→Option T} {G:Option T→Prop} (hk: ∀ l,cA a b (m+n) l→G (k l)):
  G (Option.bind (aB (fun (s8:Int×lPt)=>cond (decide (s8.1<(y.length:Int))) (Option.bind (cond (decide ((0:Int)<=s8.1)) (cond (decide (s8.1<(y.length:Int))) (Option.bind y[s8.1.toNat]? fun x9=>Option.bind (oH (x9.1,x9.2.1,x9.2.2) r) fun y10=>cond (decide (y10>=(0:Int))) (cond (decide ((0:Int)<=s8.1)) (cond (decide (s8.1<(y.length:Int))) (Option.bind y[s8.1.toNat]? fun x11=>Option.bind (bQ (x11.1,x11.2.1,x11.2.2) kind y10) fun y12=>cond (aH 24 s8.2.length 1) (some (s8.2++[[(y12.1,y12.2.1,y12.2.2.1,y12.2.2.2)]])) none) none) none) (some s8.2)) none) none) fun (s13:lPt)=>some (bY6 (wr (s8.1+(1:Int)),s13))) (some (bY5 s8.2))) ((0:Int),l0)) k):=by
 obtain ⟨hy1,hy2⟩:=hy
 refine bZ (G:=G) y.length (fun s:Int×lPt=>s.1) (fun i s=>cA a b (m+i) s.2) (fun l:lPt=>cA a b (m+n) l) ?_ ?_ 0 ((0:Int),l0) (by omega) rfl h0 hk
 ·rintro i ⟨_,l⟩ hi rfl hp
  simp only at hp
  have hl:=hp.1
  have h5:=hy2 y[i] (bZl hi)
  obtain ⟨v,ev,iv⟩:=bV8 (s:=y[i]) (by omega) r
  have ev:oH (y[i].1,y[i].2.1,y[i].2.2) r=some v:=ev
  right
  by_cases hv:v>=0
  ·obtain ⟨m',x',rfl,hx',hr'⟩:=iv hv
   obtain ⟨hm',ex'⟩:=bZf.1 hx'
   obtain ⟨q,eq,kq,u1,u2⟩:=aCu (s:=y[i]) h5 hk4 hm'
   obtain ⟨z1,z2⟩:=hends y[i] (bZl hi) m' x' hx' hr'
   rw [ex'] at u1 u2
   have eq:bQ (y[i].1,y[i].2.1,y[i].2.2) kind (m':Int)=some q:=eq
   simp only [zX (show (i:Int)<(y.length:Int) by omega),zX (show (0:Int)<=(i:Int) by omega),zZ,bZi,bY7 hi,aA,ev,eq,zX hv,aD (b:=24) (n:=l.length) (m:=1) (by decide) (by omega),aW (show i<=1000000000 by omega)]
   exact ⟨_,rfl,rfl,hp.add (cA.one (p:=[q]) ⟨aKs kq,u1.trans z1,u2.trans z2⟩)⟩
  ·simp only [zX (show (i:Int)<(y.length:Int) by omega),zX (show (0:Int)<=(i:Int) by omega),zZ,bZi,bY7 hi,aA,ev,zW hv,zY,aW (show i<=1000000000 by omega)]
   exact ⟨_,rfl,rfl,hp.mono (by omega)⟩
 ·rintro ⟨_,l⟩ rfl hp
  simp only at hp
  exact ⟨l,by simp only [zW (bZp _),zY],hp.mono (by omega)⟩

theorem bU2 {n:Nat} (hn:n<=100) {d cc:lSg} (hk:DbD n d cc) {a b:Int} (ha:0<=a) (hb:0<=b): ∃ l,vJ (d,cc) a b=some l∧cA a b (4 * n) l:=by
 obtain ⟨y1,e1,g1,w1⟩:=aRb hn hk ha
 obtain ⟨y2,e2,g2,w2⟩:=aRb hn hk hb
 obtain ⟨y3,e3,g3⟩:=aPo hn hk (up:=(0,0,[])) (down:=(0,0,[])) (by simp) (by simp) ha hb (.inl ⟨rfl,rfl⟩) (.inl ⟨rfl,rfl⟩)
 unfold vJ ixb pj2 pj3 pj4
 rw [e1,aA]
 refine bNx hn g1 1 b (a:=a) (b:=b) rfl (fun s hs m x hx hr=>⟨w1 s hs,by show some x.1=some b;rw [hr]⟩) (m:=0) (by omega) (l0:=[]) ⟨by simp,fun x hx=>(bZw hx).elim⟩ (G:=fun o=> ∃ l,o=some l∧cA a b (4 * n) l) (fun l hl=> ?_)
 rw [e2,aA]
 refine bNx hn g2 4 a (a:=a) (b:=b) rfl (fun s hs m x hx hr=>⟨by show some x.1=some a;rw [hr],w2 s hs⟩) (m:=0+n) (by omega) hl (G:=fun o=> ∃ l,o=some l∧cA a b (4 * n) l) (fun l hl=> ?_)
 have h1:=hl.1
 have h2:=g3.1
 rw [e3,aA,aD (b:=24) (by decide) (by omega)]
 exact ⟨_,rfl,(hl.add g3).mono (by omega)⟩

theorem aKb {s:den tSg} {a x:Int} (h:gF s.2.2=some x):bMo s a x:=by
 cases h0:s.2.2 with
 | nil=>rw [h0] at h;cases h
 | cons z l=>exact .inr ⟨by rw [h0];exact Nat.succ_pos _,h⟩

theorem aRe {s:den tSg} {x:Int} (h:gF s.2.2=some x) (hi:aG8 s.2.2): ∃ v,cI s=some v∧0<=v:=by
 have hp:0<s.2.2.length:=by
  cases h0:s.2.2 with
  | nil=>rw [h0] at h;cases h
  | cons z l=>exact Nat.succ_pos _
 unfold cI
 rw [show ((s.2.2.length:Int)==0)=false by rw [beq_eq_false_iff_ne];omega,zY,show (0:Int)=((0:Nat):Int) from rfl,aG,bY7 hp,aA]
 exact ⟨_,rfl,(hi _ (bZl hp)).1⟩

theorem bIn {n:Nat} (hn:n<=100) {d cc:lSg} (hk:DbD n d cc) (r:Int): ∃ l,dL (d,cc) r=some l∧(aKo n l∧ ∀ x∈l,x∈d):=by
 have hd:=hk.down
 unfold dL pj3
 refine bZ (G:=fun o=> ∃ l,o=some l∧(aKo n l∧ ∀ x∈l,x∈d)) d.length (fun s:Int×lSg=>s.1) (fun i s=>(aKo i s.2∧ ∀ x∈s.2,x∈d)) (fun l:lSg=>(aKo n l∧ ∀ x∈l,x∈d)) ?_ ?_ 0 ((0:Int),[]) (by omega) rfl ⟨⟨by simp,fun x hx=>(bZw hx).elim⟩,fun x hx=>(bZw hx).elim⟩ (fun l hl=>⟨l,rfl,hl⟩)
 ·rintro i ⟨_,l⟩ hi rfl ⟨⟨g1,g2⟩,g3⟩
  simp only at g1 g2 g3
  right
  have h5:=hk.hd d[i] (bZl hi)
  obtain ⟨v,ev⟩:=aUj (s:=d[i]) (by omega)
  have ev:eI (d[i].1,d[i].2.1,d[i].2.2)=some v:=ev
  have ec:=aGa (x:=d[i]) (by omega)
  have ec:fX (d[i].1,d[i].2.1,d[i].2.2)=some d[i]:=ec
  simp only [zX (show (i:Int)<(d.length:Int) by omega),zZ,aG,bY7 hi,aA,ev,ec,aD (b:=40) (n:=l.length) (m:=1) (by decide) (by omega),aW (show i<=1000000000 by omega)]
  cases v==r with
  | true=>exact ⟨_,rfl,rfl,⟨by simp;omega,fun x hx=>(bZh.1 hx).elim (g2 x) fun hx=>by rw [bZg.1 hx];exact h5⟩,fun x hx=>(bZh.1 hx).elim (g3 x) fun hx=>by rw [bZg.1 hx];exact bZl hi⟩
  | false=>exact ⟨_,rfl,rfl,⟨by show l.length<=i+1;omega,g2⟩,g3⟩
 ·rintro ⟨_,l⟩ rfl ⟨⟨g1,g2⟩,g3⟩
  exact ⟨l,by simp only [zW (bZp _),zY],⟨by simp only at g1;omega,g2⟩,g3⟩

theorem aX5 {d cc:lSg} (hk:DbD 13 d cc) {r:Int} {l:lSg} (h:dL (d,cc) r=some l): ∀ x∈l,aG8 x.2.2:=by
 obtain ⟨l',e,_,hm⟩:=bIn (n:=13) (by decide) hk r
 have :some l=some l':=h.symm.trans e
 injection this with this
 rw [this]
 exact fun x hx=>(hk.ha x (hm x hx)).2

theorem bXf {as:lAS} {ls:lLk} (ht:aCi as ls) {d cc:lSg} (hk:DbD 13 d cc) {a b:Int} (ha:0<=a) (hb:0<=b): ∃ l,nM (as,ls) (d,cc) a b=some l∧cA a b 10000 l:=by
 have hlen:=ht.len
 unfold nM ixb pj2 pj3
 rw [aBu (t:=(as,ls)) (show as.length<=_ by omega),aBu (t:=(as,ls)) (show as.length<=_ by omega),aA,aA]
 obtain ⟨b1,e1,k1⟩: ∃ v:Bool,(cond (a==b) (some true) (cond (!(cM (as,ls) a)) (some true) (some (!(cM (as,ls) b)))))=some v∧(v=false→cM (as,ls) a=true∧cM (as,ls) b=true):=by
  cases a==b
  ·cases cM (as,ls) a
   ·exact ⟨true,rfl,fun h=>by cases h⟩
   ·cases cM (as,ls) b
    ·exact ⟨true,rfl,fun h=>by cases h⟩
    ·exact ⟨false,rfl,fun _=>⟨rfl,rfl⟩⟩
  ·exact ⟨true,rfl,fun h=>by cases h⟩
 rw [e1,aA]
 cases b1 with
 | true=>exact ⟨[],rfl,by simp,fun x hx=>(bZw hx).elim⟩
 | false=>
  obtain ⟨ka,kb⟩:=k1 rfl
  obtain ⟨xa,_,ia⟩:=aFz ka
  obtain ⟨xb,_,ib⟩:=aFz kb
  have ia:idx as a=some xa:=ia
  have ib:idx as b=some xb:=ib
  obtain ⟨y4,e4,g4⟩:=bU2 (n:=13) (by decide) hk ha hb
  obtain ⟨y5,e5,⟨g5,f5⟩,w5⟩:=aRb (n:=13) (by decide) hk ha
  obtain ⟨y6,e6,⟨g6,f6⟩,w6⟩:=aRb (n:=13) (by decide) hk hb
  have i5:=aX5 hk e5
  have i6:=aX5 hk e6
  simp only [zY,e4,e5,e6,aA,aV,bJ,aZ,aY,bA,ia,ib]
  refine bZ (G:=fun o=> ∃ l,o=some l∧cA a b 10000 l) y5.length (fun s:Int×lPt=>s.1) (fun i s=>cA a b (52+13 * i) s.2) (fun l:lPt=>cA a b 221 l) ?_ ?_ 0 ((0:Int),y4) (by omega) rfl g4 ?_
  ·rintro i ⟨_,l⟩ hi rfl hp
   simp only at hp
   right
   simp only [zX (show (i:Int)<(y5.length:Int) by omega),zZ]
   refine bZ (G:=fun (o:Option (q24⊕lPt))=> ∃ s':Int×lPt,o=some (bY6 s')∧s'.1=((i+1:Nat):Int)∧cA a b (52+13 * (i+1)) s'.2) y6.length (fun s:Int×lPt=>s.1) (fun j s=>cA a b (52+13 * i+j) s.2) (fun l:lPt=>cA a b (52+13 * (i+1)) l) ?_ ?_ 0 ((0:Int),l) (by omega) rfl hp ?_
   ·rintro j ⟨_,l⟩ hj rfl hq
    simp only at hq
    have hl:=hq.1
    obtain ⟨p,ep,kp⟩:=bWi (f5 y5[i] (bZl hi)) (f6 y6[j] (bZl hj)) (w5 y5[i] (bZl hi)) (w6 y6[j] (bZl hj))
    have ep:iW (y5[i].1,y5[i].2.1,y5[i].2.2) (y6[j].1,y6[j].2.1,y6[j].2.2)=some p:=ep
    right
    simp only [zX (show (j:Int)<(y6.length:Int) by omega),zX (show (0:Int)<=(i:Int) by omega),zX (show (0:Int)<=(j:Int) by omega),zZ,bZi,bY7 hi,bY7 hj,aA,ep,aD (b:=24) (n:=l.length) (m:=1) (by decide) (by omega),aW (show j<=1000000000 by omega)]
    cases hdp:decide ((bZo (α:=den tPp) p:Int)>0) with
    | true=>
     have kp:aQk a b p:=kp.elim (fun h=>by rw [h] at hdp;cases hdp) id
     exact ⟨_,rfl,rfl,hq.add (cA.one kp)⟩
    | false=>exact ⟨_,rfl,rfl,hq.mono (by omega)⟩
   ·rintro ⟨_,l⟩ rfl hq
    simp only at hq
    exact ⟨l,by simp only [zW (bZp _),zY],hq.mono (by omega)⟩
   ·rintro l hl
    exact ⟨_,rfl,aW (by omega),hl⟩
  ·rintro ⟨_,l⟩ rfl hp
   simp only at hp
   exact ⟨l,by simp only [zW (bZp _),zY],hp.mono (by omega)⟩
  rintro l39 h39
  refine bZ (G:=fun o=> ∃ l,o=some l∧cA a b 10000 l) y6.length (fun s:Int×lPt=>s.1) (fun i s=>cA a b (221+26 * i) s.2) (fun l:lPt=>cA a b 559 l) ?_ ?_ 0 ((0:Int),l39) (by omega) rfl h39 ?_
  ·rintro i ⟨_,l⟩ hi rfl hp
   simp only at hp
   have hl:=hp.1
   simp only [zX (show (i:Int)<(y6.length:Int) by omega),zX (show (0:Int)<=(i:Int) by omega),zZ,bZi,bY7 hi,aA]
   cases xa.2.1 with
   | false=>exact .inl ⟨l,by simp only [zY],hp.mono (by omega)⟩
   | true=>
    obtain ⟨v,ev,v0⟩:=aRe (s:=y6[i]) (w6 y6[i] (bZl hi)) (i6 y6[i] (bZl hi))
    have ev:cI (y6[i].1,y6[i].2.1,y6[i].2.2)=some v:=ev
    obtain ⟨q,eq,kq⟩:=aPo (n:=13) (by decide) hk (up:=(0,0,[])) (down:=y6[i]) (by simp) (f6 y6[i] (bZl hi)) ha v0 (.inl ⟨rfl,rfl⟩) (aKb (w6 y6[i] (bZl hi)))
    have hq:=kq.1
    have eq:iS (d,cc) (0,0,[]) a v (y6[i].1,y6[i].2.1,y6[i].2.2)=some q:=eq
    exact .inr ⟨(((i+1:Nat):Int),l++q),by simp only [zZ,ev,eq,aA,aD (b:=24) (n:=l.length) (m:=q.length) (by decide) (by omega),aW (show i<=1000000000 by omega)],rfl,(hp.add kq).mono (by omega)⟩
  ·rintro ⟨_,l⟩ rfl hp
   simp only at hp
   exact ⟨l,by simp only [zW (bZp _),zY,aA],hp.mono (by omega)⟩
  rintro l54 h54
  refine bZ (G:=fun o=> ∃ l,o=some l∧cA a b 10000 l) y5.length (fun s:Int×lPt=>s.1) (fun i s=>cA a b (559+26 * i) s.2) (fun l:lPt=>cA a b 897 l) ?_ ?_ 0 ((0:Int),l54) (by omega) rfl h54 ?_
  ·rintro i ⟨_,l⟩ hi rfl hp
   simp only at hp
   have hl:=hp.1
   simp only [zX (show (i:Int)<(y5.length:Int) by omega),zX (show (0:Int)<=(i:Int) by omega),zZ,bZi,bY7 hi,aA]
   cases xb.2.1 with
   | false=>exact .inl ⟨l,by simp only [zY],hp.mono (by omega)⟩
   | true=>
    obtain ⟨v,ev,v0⟩:=aRe (s:=y5[i]) (w5 y5[i] (bZl hi)) (i5 y5[i] (bZl hi))
    have ev:cI (y5[i].1,y5[i].2.1,y5[i].2.2)=some v:=ev
    obtain ⟨q,eq,kq⟩:=aPo (n:=13) (by decide) hk (up:=y5[i]) (down:=(0,0,[])) (f5 y5[i] (bZl hi)) (by simp) v0 hb (aKb (w5 y5[i] (bZl hi))) (.inl ⟨rfl,rfl⟩)
    have hq:=kq.1
    have eq:iS (d,cc) (y5[i].1,y5[i].2.1,y5[i].2.2) v b (0,0,[])=some q:=eq
    exact .inr ⟨(((i+1:Nat):Int),l++q),by simp only [zZ,ev,eq,aA,aD (b:=24) (n:=l.length) (m:=q.length) (by decide) (by omega),aW (show i<=1000000000 by omega)],rfl,(hp.add kq).mono (by omega)⟩
  ·rintro ⟨_,l⟩ rfl hp
   simp only at hp
   exact ⟨l,by simp only [zW (bZp _),zY,aA],hp.mono (by omega)⟩
  rintro l69 h69
  refine bZ (G:=fun o=> ∃ l,o=some l∧cA a b 10000 l) y5.length (fun s:Int×lPt=>s.1) (fun i s=>cA a b (897+338 * i) s.2) (fun l:lPt=>cA a b 10000 l) ?_ ?_ 0 ((0:Int),l69) (by omega) rfl h69 (fun l hl=>⟨l,rfl,hl⟩)
  ·rintro i ⟨_,l⟩ hi rfl hp
   simp only at hp
   right
   simp only [zX (show (i:Int)<(y5.length:Int) by omega),zZ]
   refine bZ (G:=fun (o:Option (q24⊕lPt))=> ∃ s':Int×lPt,o=some (bY6 s')∧s'.1=((i+1:Nat):Int)∧cA a b (897+338 * (i+1)) s'.2) y6.length (fun s:Int×lPt=>s.1) (fun j s=>cA a b (897+338 * i+26 * j) s.2) (fun l:lPt=>cA a b (897+338 * (i+1)) l) ?_ ?_ 0 ((0:Int),l) (by omega) rfl hp ?_
   ·rintro j ⟨_,l⟩ hj rfl hq
    simp only at hq
    have hl:=hq.1
    obtain ⟨v,ev,v0⟩:=aRe (s:=y5[i]) (w5 y5[i] (bZl hi)) (i5 y5[i] (bZl hi))
    have ev:cI (y5[i].1,y5[i].2.1,y5[i].2.2)=some v:=ev
    obtain ⟨u,eu,u0⟩:=aRe (s:=y6[j]) (w6 y6[j] (bZl hj)) (i6 y6[j] (bZl hj))
    have eu:cI (y6[j].1,y6[j].2.1,y6[j].2.2)=some u:=eu
    obtain ⟨q,eq,kq⟩:=aPo (n:=13) (by decide) hk (up:=y5[i]) (down:=y6[j]) (f5 y5[i] (bZl hi)) (f6 y6[j] (bZl hj)) v0 u0 (aKb (w5 y5[i] (bZl hi))) (aKb (w6 y6[j] (bZl hj)))
    have hq':=kq.1
    have eq:iS (d,cc) (y5[i].1,y5[i].2.1,y5[i].2.2) v u (y6[j].1,y6[j].2.1,y6[j].2.2)=some q:=eq
    exact .inr ⟨(((j+1:Nat):Int),l++q),by simp only [zX (show (j:Int)<(y6.length:Int) by omega),zX (show (i:Int)<(y5.length:Int) by omega),zX (show (0:Int)<=(i:Int) by omega),zX (show (0:Int)<=(j:Int) by omega),zZ,bZi,bY7 hi,bY7 hj,aA,ev,eu,eq,aD (b:=24) (n:=l.length) (m:=q.length) (by decide) (by omega),aW (show j<=1000000000 by omega)],rfl,(hq.add kq).mono (by omega)⟩
   ·rintro ⟨_,l⟩ rfl hq
    simp only at hq
    exact ⟨l,by simp only [zW (bZp _),zY],hq.mono (by omega)⟩
   ·rintro l hl
    exact ⟨_,rfl,aW (by omega),hl⟩
  ·rintro ⟨_,l⟩ rfl hp
   simp only at hp
   exact ⟨l,by simp only [zW (bZp _),zY],hp.mono (by omega)⟩

theorem bXm {as:lAS} {ls:lLk} (ht:aCi as ls) {d cc:lSg} (hk:DbD 13 d cc) {a b:Int} (ha:0<=a) (hb:0<=b) (now:Int): ∃ l,kV (as,ls) (d,cc) a b now=some l∧cA a b 24 l:=by
 obtain ⟨y,ey,hy⟩:=bXf ht hk ha hb
 have hy1:=hy.1
 unfold kV ixb pj2
 rw [ey,aA]
 refine bZ (G:=fun o=> ∃ l,o=some l∧cA a b 24 l) y.length (fun s:Int×lPt=>s.1) (fun i s=>cA a b 24 s.2) (fun l:lPt=>cA a b 24 l) ?_ ?_ 0 ((0:Int),[]) (by omega) rfl ⟨by simp,fun x hx=>(bZw hx).elim⟩ (fun l hl=>⟨l,rfl,hl⟩)
 ·rintro i ⟨_,l⟩ hi rfl hp
  simp only at hp
  have hl:=hp.1
  have hyi:=hy.2 y[i] (bZl hi)
  simp only [zX (show (i:Int)<(y.length:Int) by omega),zZ,aA]
  by_cases hc:(l.length:Int)<24
  ·right
   obtain ⟨b1,f1⟩:=bE5 ht hyi.1 now
   obtain ⟨b2,f2⟩:=bJ5 (n:=24) (by decide) hp.d y[i]
   simp only [zX hc,zZ,zX (show (0:Int)<=(i:Int) by omega),zX (show (i:Int)<(y.length:Int) by omega),bZi,bY7 hi,aA,f1,f2,aD (b:=24) (n:=l.length) (m:=1) (by decide) (by omega),aW (show i<=1000000000 by omega)]
   cases b1 with
   | false=>exact ⟨_,rfl,rfl,hp⟩
   | true=>
    cases b2 with
    | true=>exact ⟨_,rfl,rfl,hp⟩
    | false=>exact ⟨_,rfl,rfl,by simp;omega,fun q hq=>(bZh.1 hq).elim (hp.2 q) fun hq=>by rw [bZg.1 hq];exact hyi⟩
  ·left
   exact ⟨l,by simp only [zW hc,zY],hp⟩
 ·rintro ⟨_,l⟩ rfl hp
  exact ⟨l,by simp only [zW (bZp _),zY,aA],hp⟩

theorem aJe {code:List Int} (hl:code.length<=1048576) {c:List Int} {p h:Int} (hc:Cur code (c,p,h)): ∃ v c' p' h',nA (c,p,h)=some (v,c',p',h')∧Cur code (c',p',h'):=by
 obtain ⟨v1,c1,p1,h1,e1,k1⟩:=tR hl (n:=10) (by decide) (by decide) hc
 unfold nA pj3 pj4
 simp only [e1,aA]
 cases v1 with
 | true=>
  obtain ⟨v2,c2,p2,h2,e2,_,k2⟩:=aGj hl (l:=[(-1:Int),(2147483647:Int),(2147483648:Int)]) (by decide) (by decide) k1
  exact ⟨v2,c2,p2,h2,by simp only [zZ,e2,aA],k2⟩
 | false=>
  obtain ⟨v2,c2,p2,h2,e2,k2⟩:=tR hl (n:=4) (by decide) (by decide) k1
  simp only [zY,e2,aA]
  cases v2 with
  | true=>
   obtain ⟨v3,c3,p3,h3,e3,_,k3⟩:=aGj hl (l:=[(0:Int),(1:Int),(2147483646:Int)]) (by decide) (by decide) k2
   exact ⟨v3,c3,p3,h3,by simp only [zZ,e3,aA],k3⟩
  | false=>
   obtain ⟨v3,c3,p3,h3,e3,_,k3⟩:=aHh hl (n:=1000000) (by decide) k2
   obtain ⟨v4,c4,p4,h4,e4,_,k4⟩:=aHh hl (n:=2000) (by decide) k3
   exact ⟨wr (v3 * v4),c4,p4,h4,by simp only [zY,e3,e4,aA],k4⟩

theorem bL4 {as:lAS} {ls:lLk} {s:den tSg} (h5:s.2.2.length<=5) (hi:InN (as.length:Int) s.2.2): ∃ hs,vS (as,ls) s=some (s.1,s.2.1,hs)∧hs.length<=5∧InN (as.length:Int) hs:=by
 unfold vS ixb pj3 pj5 zz4
 rw [show ((s.1,s.2.1,s.2.2):den tSg)=s from rfl,aGa (by omega),aA]
 refine bZ (G:=fun o=> ∃ hs,o=some (s.1,s.2.1,hs)∧hs.length<=5∧InN (as.length:Int) hs) s.2.2.length (fun z:Int×dA=>z.1) (fun i z=>z.2.length=s.2.2.length∧InN (as.length:Int) z.2) (fun r:dA=>r.length=s.2.2.length∧InN (as.length:Int) r) ?_ ?_ 0 ((0:Int),s.2.2) (by omega) rfl ⟨rfl,hi⟩ ?_
 ·rintro i ⟨_,l⟩ hlt rfl ⟨g1,g2⟩
  simp only at g1 g2
  right
  have hil:i<l.length:=by omega
  have hx:l[i]? =some l[i]:=bY7 hil
  obtain ⟨q0,q1⟩:=g2 l[i] (bZl hil)
  obtain ⟨m,hm⟩:=bZ1 q0
  have hml:m<as.length:=by omega
  obtain ⟨bt,et⟩:=aCc (s:=(s.1,s.2.1,l)) (i:Int) (by show l.length<=_;omega)
  have ex:idx as l[i].1=some as[m]:=by rw [hm,aG];exact bY7 hml
  simp only [zX (show (i:Int)<(l.length:Int) by omega),zX (show (0:Int)<=(i:Int) by omega),zZ,bZi,hx,aA,ex,et,aYl,zX hil]
  refine ⟨_,rfl,aW (show i<=1000000000 by omega),by simp [g1],fun y hy=> ?_⟩
  rcases cBz hy with hy | rfl
  ·exact g2 y hy
  ·exact ⟨q0,q1⟩
 ·rintro ⟨_,l⟩ rfl ⟨g1,g2⟩
  simp only at g1 g2
  exact ⟨l,by simp only [g1,zW (bZp _),zY],g1,g2⟩
 ·rintro l ⟨g1,g2⟩
  exact ⟨l,rfl,by omega,g2⟩

theorem bEq {p:den tPt} (h:nQ p): ∃ l,pH p=some l∧l.length<=18:=by
 have ht:=aJj h
 have hs:=aC1 p
 unfold pH ixb pj3
 rw [aGd (by omega),aA]
 refine bZ (G:=fun o=> ∃ l,o=some l∧l.length<=18) (hU p).length (fun z:Int×dN=>z.1) (fun i z=>z.2.length<=i) (fun r:dN=>r.length<=18) ?_ ?_ 0 ((0:Int),[]) (by omega) rfl (by simp) (fun l hl=>⟨l,rfl,hl⟩)
 ·rintro i ⟨_,l⟩ hlt rfl g1
  simp only at g1
  right
  simp only [zX (show (i:Int)<((hU p).length:Int) by omega),zX (show (0:Int)<=(i:Int) by omega),zZ,bZi,bY7 hlt,aA,aD (b:=24) (n:=l.length) (m:=1) (by decide) (by omega),aW (show i<=1000000000 by omega)]
  cases ((hU p)[i].2.2 != (0:Int)) with
  | true=>exact ⟨_,rfl,rfl,by simp;omega⟩
  | false=>exact ⟨_,rfl,rfl,by show l.length<=i+1;omega⟩
 ·rintro ⟨_,l⟩ rfl g1
  exact ⟨l,by simp only [zW (bZp _),zY],by simp only at g1;omega⟩

theorem aZc {l:lRs} {cap now:Int} (hl:tX l cap now) {p:den tPt} (hp:nQ p) (id r till:Int): ∃ b m,dE l id p r till cap now=some (b,m)∧tX m cap now:=by
 obtain ⟨d,ed,hd⟩:=bEq hp
 have hn:=hl.len
 unfold dE ixb
 rw [aD (b:=40) (n:=([]:lRs).length) (m:=l.length) (by decide) (by simp;omega),zZ,ed,aA]
 refine bZ (G:=fun o=> ∃ b m,o=some (b,m)∧tX m cap now) d.length (fun z:Int×lRs=>z.1) (fun i z=>tX z.2 cap now) (fun r:lRs⊕(Bool×lRs)=>match r with | .inl m=>tX m cap now | .inr m=>tX m.2 cap now) ?_ ?_ 0 ((0:Int),[]++l) (by omega) rfl hl ?_
 ·rintro i ⟨_,m⟩ hlt rfl g1
  simp only at g1
  have hm:=g1.len
  obtain ⟨b,eb⟩:=bQ7 (l:=m) (x:=(id,d[i].1,d[i].2.2,r,till)) (cap:=cap) (now:=now) (by omega)
  simp only [zX (show (i:Int)<(d.length:Int) by omega),zX (show (0:Int)<=(i:Int) by omega),zZ,bZi,bY7 hlt,aA,eb,aW (show i<=1000000000 by omega)]
  cases b with
  | true=>exact .inr ⟨_,rfl,rfl,g1.admR _⟩
  | false=>exact .inl ⟨_,rfl,hl⟩
 ·rintro ⟨_,m⟩ rfl g1
  exact ⟨.inl m,by simp only [zW (bZp _),zY],g1⟩
 ·rintro (m | ⟨b,m⟩) hm
  ·exact ⟨_,m,rfl,hm⟩
  ·exact ⟨b,m,rfl,hm⟩

def aLq (w:den tNw) (f:den tFl):Bool:= !gR f|| !cM (nT w) f.1|| !cM (nT w) f.2.1||(f.2.2.2.1 != 0)||decide (((aC w).length:Int)>=4)||decide (jT (bO w) f.2.1 f.1>=0)

def bQu (f:den tFl) (l:lPt) (now:Int):den tFl:=(f.1,f.2.1,f.2.2.1,f.2.2.2.1,f.2.2.2.2.1,aNo f l now,0,0,f.2.2.2.2.2.2.2.2)

def bUc (w:den tNw) (f:den tFl) (l:lPt):den tNw:=(nT w,nK w,nG w,aQ w,aK w,aS w,aC w++[bQu f l (aQ w)],bO w++[(f.2.1,f.1,0,[])],dD w)

def aYv (w:den tNw) (b:Bool):Int×Int×Int×Bool×q21:=
 ((nG w).1,aQ w,dD w,b,(nT w).1,(nT w).2,(nK w).1,(nK w).2,(nG w).2.1,(nG w).2.2,aK w,aS w,aC w,bO w)

theorem bKo {w:den tNw} {f:den tFl} {l:lPt} (hw:tot tNw w<=1073741824) (hf:tot tFl f<=1073741824) (hl:tot (.sl tPt) l<=1073741824) (el:kV (nT w) (nK w) f.1 f.2.1 (aQ w)=some l):
  xY w f=some (aYv (if aLq w f then w else bUc w f l) (!aLq w f)):=by
 have sw:SmB 68719476736 tNw w:=(bF hw).mono (by decide)
 have sf:SmB 68719476736 tFl f:=(bF hf).mono (by decide)
 have n1:w.1.1.length<=68719476736:=sw.1.1.1
 have n2:w.2.2.2.2.2.2.2.1.length<=1073741824:=(bF hw).2.2.2.2.2.2.2.1.1
 have n3:w.2.2.2.2.2.2.1.length<=1073741824:=(bF hw).2.2.2.2.2.2.1.1
 have el:kV w.1 w.2.1 f.1 f.2.1 w.2.2.2.1=some l:=el
 have a1:aH 120 w.2.2.2.2.2.2.1.length 1=true:=aD (by decide) (by omega)
 have a2:aH 48 w.2.2.2.2.2.2.2.1.length 1=true:=aD (by decide) (by omega)
 unfold xY aLq aI pj2 pj4 pj9 cO aN bD bH zz4 zz5 zz6 zz7 zz8 zz9
 simp only [aM,aI6 sw,aOf sf,aBu n1,aS2 (show w.2.2.2.2.2.2.2.1.length<=68719476736 by omega),el,bVv hf hl,bVn,aA,aC9,a1,a2,zZ]
 cases gR f
 ·rfl
 cases cM w.1 f.1
 ·rfl
 cases cM w.1 f.2.1
 ·rfl
 cases f.2.2.2.1 != 0 with
 | true=>rfl
 | false=>cases decide ((w.2.2.2.2.2.2.1.length:Int)>=4) with
  | true=>rfl
  | false=>cases decide (jT w.2.2.2.2.2.2.2.1 f.2.1 f.1>=0)<;>rfl

theorem bM3 {x y:den tPt} {l:lPt} (h:y∈aJ9 x l):y=x∨y∈l:=by
 unfold aJ9 at h
 simp only [bZh,bZg] at h
 rcases h with (h | h) | h
 ·exact .inr (cAq h)
 ·exact .inl h
 ·exact .inr (cAv h)

theorem bFn {y:den tPt} {l:lPt} (h:y∈aHv l):y∈l:=by
 have : ∀ (l:lPt) (k:Nat) (a:lPt),y∈cN (fun _ x a=>aJ9 x a) k l a→y∈l∨y∈a:=by
  intro l
  induction l with
  | nil=>exact fun k a h=> .inr h
  | cons x l ih=>
   intro k a h
   rcases ih (k+1) (aJ9 x a) h with h | h
   ·exact .inl (bZm _ h)
   ·rcases bM3 h with rfl | h
    ·exact .inl (by simp)
    ·exact .inr h
 rcases this l 0 [] h with h | h
 ·exact h
 ·exact (bZw h).elim

theorem aMw {f:den tFl} {y:den tPt} {l:lPt} {now:Int} (h:y∈aNo f l now):y∈l:=by
 unfold aNo aI7 at h
 have h:=cAq h
 simp only [bZh,bZr] at h
 rcases h with h | h<;>exact bFn h.1


structure FlD (t:den tTo) (f:den tFl):Prop where
 val:gR f=true
 src:cM t f.1=true
 dst:cM t f.2.1=true
 ack:f.2.2.2.1=(0:Int)
 cur:f.2.2.2.2.2.2.1=(0:Int)
 wait:f.2.2.2.2.2.2.2.1=(0:Int)
 rev:f.2.2.2.2.2.2.2.2=[]
 paths:xF 4 f.2.2.2.2.2.1
 msgs:tot (.sl tMs) f.2.2.2.2.1<=12
 bytes: ∀ m∈f.2.2.2.2.1,tW m
 ends: ∀ p∈f.2.2.2.2.2.1,aL7 p=some f.1∧aDw p=some f.2.1


structure zO (n:Nat) (w:den tNw):Prop where
 top:aCi (nT w).1 (nT w).2
 db:DbD 11 (nK w).1 (nK w).2
 gate:nG w=(12,(nG w).2.1,[])
 res:tX (nG w).2.1 12 60
 now:aQ w=60
 dead:aK w=[]
 fly:aS w=[]
 drop:dD w=0
 len:(aC w).length<=n
 flows: ∀ f∈aC w,FlD (nT w) f
 box:bO w=(aC w).map fun f=>((f.2.1,f.1,0,[]):den tIb)
 uniq:(aC w).Pairwise fun f g=>pQ g f=false

theorem FlD.tot {t:den tTo} {f:den tFl} (h:FlD t f):tot tFl f<=100:=by
 obtain ⟨a,b,c,d,ms,ps,cu,wa,rv⟩:=f
 rw [aG3]
 have h1:=h.msgs
 have h2:=aUu h.paths
 have h3:rv=[]:=h.rev
 rw [h3]
 simp only at h1 h2
 simp only [cBk]
 omega

theorem bBg {s:den tSg} (h:s.2.2.length<=5):tot tSg s<=5:=by
 have e:tot tSg s=s.2.2.length:=by
  show 0+(0+tot (.sl cH) s.2.2)=_
  rw [kF rfl];omega
 omega

theorem zO.tot {n:Nat} {w:den tNw} (hn:n<=4) (h:zO n w):Go.V.tot tNw w<=1000:=by
 rw [fA]
 have h1:=h.top.len
 have h2:=h.top.links
 have h3:=aAs (t:=tSg) (B:=5) (l:=(nK w).1) fun x hx=>bBg (h.db.hd x hx)
 have h4:=aAs (t:=tSg) (B:=5) (l:=(nK w).2) fun x hx=>bBg (h.db.hc x hx)
 have h5:=aAs (t:=tFl) (B:=100) (l:=aC w) fun f hf=>(h.flows f hf).tot
 have h6:=h.db.down
 have h7:=h.db.core
 have h8:=h.len
 have h9:=h.res.len
 have h10:(nG w).2.2=[]:=by rw [h.gate]
 have h11:Go.V.tot (.sl tIb) (bO w)<=(0+1) * (bO w).length:=aAs (t:=tIb) fun x hx=>by
  rw [h.box] at hx
  obtain ⟨f,_,rfl⟩:=bZe.1 hx
  exact bZq _
 have h12:(bO w).length=(aC w).length:=by rw [h.box,cAe]
 rw [h.dead,h.fly,h10,aD7,aD7,aD7,kF (t:=tAS) rfl,kF (t:=tLk) rfl,kF (t:=tRs) rfl]
 omega

theorem zO.mono {n m:Nat} {w:den tNw} (h:zO n w) (hm:n<=m):zO m w:=⟨h.top,h.db,h.gate,h.res,h.now,h.dead,h.fly,h.drop,bY8 h.len hm,h.flows,h.box,h.uniq⟩

def aAl (w:den tNw) (c:List Int) (p h:Int):q33:=
 ((nG w).1,aQ w,dD w,(nT w).1,(nT w).2,(nK w).1,(nK w).2,(nG w).2.1,(nG w).2.2,aK w,aS w,aC w,bO w,c,p,h)

abbrev NwS:=Int×lSg×lSg×Int×Int×Int×lRs×lAS×lLk×lSg×lSg×lUs×lI×lFy×lFl×lIb×lI×Int×Int

abbrev NwR:=Int×Int×Int×lRs×lAS×lLk×lSg×lSg×lUs×lI×lFy×lFl×lIb×lI×Int×Int

def NwI (code:List Int) (n:Nat) (s:NwS):Prop:= ∃ as ls d cc res flows box c p h,s=((n:Int),d,cc,12,60,0,res,as,ls,d,cc,[],[],[],flows,box,c,p,h)∧n<=3∧zO (3 - n) ((as,ls),(d,cc),(12,res,[]),60,[],[],flows,box,0)∧Cur code (c,p,h)

def NwQ (code:List Int) (r:NwR):Prop:= ∃ as ls d cc res flows box c p h,r=(12,60,0,res,as,ls,d,cc,[],[],[],flows,box,c,p,h)∧zO 3 ((as,ls),(d,cc),(12,res,[]),60,[],[],flows,box,0)∧Cur code (c,p,h)

theorem bKb {t:den tTo} {f:den tFl} {l:lPt} {now:Int} {n:Nat} (hn:n<=4) (hv:gR f=true) (hs:cM t f.1=true) (hd:cM t f.2.1=true) (hk:f.2.2.2.1=(0:Int)) (hr:f.2.2.2.2.2.2.2.2=[]) (hm:tot (.sl tMs) f.2.2.2.2.1<=12) (hb: ∀ m∈f.2.2.2.2.1,tW m) (hl:cA f.1 f.2.1 24 l):
  FlD t (f.1,f.2.1,f.2.2.1,f.2.2.2.1,f.2.2.2.2.1,(aNo f l now).take n,0,0,f.2.2.2.2.2.2.2.2) where
 val:=by
  rw [vE] at hv ⊢
  obtain ⟨q1,q2,q3,q4,q5,q6,q7,q8,q9,q10,q11,q12⟩:=hv
  exact ⟨q1,q2,q3,q4,q5,q6,by simp only [cAh];omega,q8,q9,.inl rfl,rfl,q12⟩
 src:=hs
 dst:=hd
 ack:=hk
 cur:=rfl
 wait:=rfl
 rev:=hr
 paths:=⟨by simp only [cAh];omega,fun p hp=>(hl.2 p (aMw (cAq hp))).1⟩
 msgs:=hm
 bytes:=hb
 ends:=fun p hp=>(hl.2 p (aMw (cAq hp))).2

theorem bC6 {l:lIb} {a b:Int} (h:decide (jT l a b>=0)=false): ∀ x∈l,oQ a b x=false:=by
 have h:=of_decide_eq_false h
 unfold jT at h
 cases e:l.findIdx? (oQ a b) with
 | none=>exact fun x hx=>by simpa using List.findIdx?_eq_none_iff.1 e x hx
 | some i=>rw [e] at h;exact absurd (show (0:Int)<=((0+i:Nat):Int) by omega) h

def bMb (code:List Int) (o:Option q33):Prop:= ∃ w c' p' h',o=some (aAl w c' p' h')∧zO 3 w∧Cur code (c',p',h')

theorem bR1 {code:List Int} (hl:code.length<=1048576) {c:List Int} {p h:Int} (hc:Cur code (c,p,h)):bMb code (aAu (c,p,h)):=by
 obtain ⟨as,ls,c1,p1,h1,e1,ht,k1⟩:=bAj hl hc
 obtain ⟨v2,c2,p2,h2,e2,r2,k2⟩:=bC hl (n:=7) (by decide) (by decide) k1
 obtain ⟨m2,rfl⟩:=bZ1 r2.1
 have w2:wr ((5:Int)+(m2:Int))=((m2+5:Nat):Int):=by rw [bN (by omega) (by omega)];omega
 unfold aAu dd ixb one aC4 bU5 pj3 pj4 pj5 pj7 pj8 aN bD bH cV jM sI xO zz4 zz5 zz6 zz7 zz8 zz9
 simp only [aV,bJ,aZ,aY,bA,e1,e2,aA,w2]
 refine kI (G:=bMb code) (fun (n:Nat) (s:Int×q42)=> ∃ d cc c p h,s=((n:Int),as,ls,d,cc,c,p,h)∧n<=11∧DbD (11 - n) d cc∧Cur code (c,p,h)) (fun r:lAS×lLk×lSg×lSg×lI×Int×Int=> ∃ d cc c p h,r=(as,ls,d,cc,c,p,h)∧DbD 11 d cc∧Cur code (c,p,h)) ?_ (m2+5) (((m2+5:Nat):Int),as,ls,[],[],c2,p2,h2) ⟨[],[],c2,p2,h2,rfl,by omega,⟨by simp,by simp,fun x hx=>(bZw hx).elim,fun x hx=>(bZw hx).elim,fun x hx=>(bZw hx).elim⟩,k2⟩ ?_
 ·rintro n s ⟨d,cc,c3,p3,h3,rfl,hn,hk,k3⟩
  cases n with
  | zero=>exact .inl ⟨_,rfl,d,cc,c3,p3,h3,rfl,hk,k3⟩
  | succ n=>
   right
   obtain ⟨v4,c4,p4,h4,e4,k4⟩:=tR hl (n:=3) (by decide) (by decide) k3
   have wn:wr (((n+1:Nat):Int) - 1)=(n:Int):=by rw [bN (by omega) (by omega)];omega
   have step: ∀ kind:Int,∃ d' cc' c' p' h',(Option.bind (jN (c4,p4,h4) (as,ls) kind) fun y58=>Option.bind (vS (as,ls) (y58.1,y58.2.1,y58.2.2.1)) fun y59=>Option.bind (oA (as,ls) (d,cc) y59) fun y60=>some (y60.1,y60.2,y58.2.2.2.1,y58.2.2.2.2.1,y58.2.2.2.2.2))=some (d',cc',c',p',h')∧DbD (11 - n) d' cc'∧Cur code (c',p',h'):=by
    intro kind
    obtain ⟨a5,b5,hs5,c5,p5,h5,e5,⟨l5,i5⟩,k5⟩:=bA9 hl ht kind k4
    obtain ⟨hs6,e6,l6,i6⟩:=bL4 (as:=as) (ls:=ls) (s:=(a5,b5,hs5)) l5 i5
    obtain ⟨d7,cc7,e7,q7⟩:=bMl ht (n:=11 - (n+1)) (by omega) hk (s:=(a5,b5,hs6)) l6 (i6.as (by have :=ht.len;omega))
    refine ⟨d7,cc7,c5,p5,h5,?_,q7.mono (by omega),k5⟩
    simp only [e5,e6,e7,aA]
   simp only [zX (show ((n+1:Nat):Int)>0 by omega),zZ,e4,aA]
   cases v4 with
   | true=>
    obtain ⟨d',cc',c',p',h',e,q,k⟩:=step 1
    refine ⟨n,_,by omega,?_,d',cc',c',p',h',rfl,by omega,q,k⟩
    simp only [zZ,aA,e,wn]
   | false=>
    obtain ⟨d',cc',c',p',h',e,q,k⟩:=step 2
    refine ⟨n,_,by omega,?_,d',cc',c',p',h',rfl,by omega,q,k⟩
    simp only [zY,aA,e,wn]
 rintro r ⟨d,cc,c3,p3,h3,rfl,hk,k3⟩
 obtain ⟨v4,c4,p4,h4,e4,r4,k4⟩:=bC hl (n:=3) (by decide) (by decide) k3
 obtain ⟨m4,rfl⟩:=bZ1 r4.1
 have w4:wr ((1:Int)+(m4:Int))=((m4+1:Nat):Int):=by rw [bN (by omega) (by omega)];omega
 have hA:=ht.len
 have hL:=ht.links
 have smT:SmB 68719476736 tTo (as,ls):=⟨⟨by show as.length<=_;omega,fun _ _=>⟨trivial,trivial,trivial⟩⟩,by show ls.length<=_;omega,fun _ _=>⟨trivial,trivial,trivial,trivial,trivial⟩⟩
 have smK:SmB 68719476736 tDb (d,cc):=⟨aNp (by omega) hk.down hk.hd,aNp (by omega) hk.core hk.hc⟩
 have hok:aU3 (as,ls) 60=true:=by unfold aU3;rw [ht.top];rfl
 have e5:=bTd (t:=(as,ls)) (k:=(d,cc)) (c:=12) (now:=60) smT smK
 rw [hok,zZ] at e5
 simp only [e5,e4,w4,aA]
 have cap12:cond (inR 12 1 20) (12:Int) 1=12:=rfl
 simp only [cap12]
 refine kI (G:=bMb code) (NwI code) (NwQ code) ?_ (m4+1) (((m4+1:Nat):Int),d,cc,12,60,0,[],as,ls,d,cc,[],[],[],[],[],c4,p4,h4) ⟨as,ls,d,cc,[],[],[],c4,p4,h4,rfl,by omega,⟨ht,hk,rfl,⟨by simp,fun x hx=>(bZw hx).elim,fun x hx=>(bZw hx).elim,List.Pairwise.nil⟩,rfl,rfl,rfl,rfl,bZt _,fun x hx=>(bZw hx).elim,rfl,List.Pairwise.nil⟩,k4⟩ ?_
 rotate_left
 ·rintro r ⟨as,ls,d,cc,res,flows,box,c5,p5,h5,rfl,hd,k5⟩
  exact ⟨_,c5,p5,h5,rfl,hd,k5⟩
 ·rintro n s ⟨as,ls,d,cc,res,flows,box,c5,p5,h5,rfl,hn,hd,k5⟩
  cases n with
  | zero=>exact .inl ⟨_,rfl,as,ls,d,cc,res,flows,box,c5,p5,h5,rfl,hd,k5⟩
  | succ n=>
   right
   obtain ⟨a6,b6,c6,p6,h6,e6,⟨ra6,rb6⟩,k6⟩:=bSw hl (by decide) hd.db k5
   obtain ⟨v7,c7,p7,h7,e7,m7,k7⟩:=aGj hl (l:=[(0:Int),(0:Int),((n+1:Nat):Int)]) (by simp) (by simp) k6
   obtain ⟨v8,c8,p8,h8,e8,r8,k8⟩:=bC hl (n:=3) (by decide) (by decide) k7
   obtain ⟨m8,rfl⟩:=bZ1 r8.1
   have w8:wr ((1:Int)+(m8:Int))=((m8+1:Nat):Int):=by rw [bN (by omega) (by omega)];omega
   have wn:wr (((n+1:Nat):Int) - 1)=(n:Int):=by rw [bN (by omega) (by omega)];omega
   have enf: ∀ a b c:Int,aAp a b c=some (a,b,c,0,0,0,[],[],[]):=fun _ _ _=>rfl
   simp only [zX (show ((n+1:Nat):Int)>0 by omega),zZ,e6,e7,enf,e8,w8,wn,aA,Option.bind_assoc]
   refine kI (G:=fun o=> ∃ m s',m<n+1∧o=some (bY6 s')∧NwI code m s') (fun (n:Nat) (s:Int×Int×Int×Int×Int×Int×Int×lMs×lPt×lRv×List Int×q25)=> ∃ ms c p h,s=((n:Int),a6,b6,v7,0,0,0,ms,[],[],c,p,h)∧n<=3∧tot (.sl tMs) ms+4 * n<=12∧(∀ m∈ms,tW m)∧Cur code (c,p,h)) (fun s:Int×Int×Int×Int×Int×Int×lMs×lPt×lRv×List Int×Int×Int=> ∃ ms c p h,s=(a6,b6,v7,0,0,0,ms,[],[],c,p,h)∧tot (.sl tMs) ms<=12∧(∀ m∈ms,tW m)∧Cur code (c,p,h)) ?_ (m8+1) (((m8+1:Nat):Int),a6,b6,v7,(0:Int),(0:Int),(0:Int),[],[],[],c8,p8,h8) ⟨[],c8,p8,h8,rfl,by omega,by rw [aD7];omega,fun m hm=>(bZw hm).elim,k8⟩ ?_
   ·rintro i s ⟨ms,c9,p9,h9,rfl,hi,hm,hb,k9⟩
    cases i with
    | zero=>exact .inl ⟨_,rfl,ms,c9,p9,h9,rfl,by omega,hb,k9⟩
    | succ i=>
     right
     obtain ⟨v10,c10,p10,h10,e10,r10,k10⟩:=bC hl (n:=3) (by decide) (by decide) k9
     obtain ⟨m10,rfl⟩:=bZ1 r10.1
     obtain ⟨l11,c11,p11,h11,e11,⟨r11,b11⟩,k11⟩:=aLe hl (n:=m10) (by omega) k10
     have hf:tot tFl (a6,b6,v7,0,ms,[],0,0,[])<=1000:=by rw [aG3];show _+0+0<=_;omega
     have en:=bN8 (f:=(a6,b6,v7,0,ms,[],0,0,[])) (b:=l11) ((bF (B:=1000) hf).mono (by decide)) ⟨by omega,fun e he=>trivial⟩
     have wi:wr (((i+1:Nat):Int) - 1)=(i:Int):=by rw [bN (by omega) (by omega)];omega
     simp only [zX (show ((i+1:Nat):Int)>0 by omega),zZ,e10,e11,en,aA,wi]
     unfold aOm
     split
     ·refine ⟨i,_,by omega,rfl,ms++[l11],c11,p11,h11,rfl,by omega,?_,?_,k11⟩
      ·rw [tO,bA3];omega
      ·intro m hm
       rcases bZh.1 hm with hm | hm
       ·exact hb m hm
       ·rw [bZg.1 hm];exact b11
     ·exact ⟨i,_,by omega,rfl,ms,c11,p11,h11,rfl,by omega,by omega,hb,k11⟩
   rintro r ⟨ms,c9,p9,h9,rfl,hm,hb,k9⟩
   obtain ⟨l10,e10,hl10⟩:=bXm hd.top (hd.db.mono (by decide)) ra6.1 rb6.1 60
   have tf:tot tFl (a6,b6,v7,0,ms,[],0,0,[])<=1073741824:=by rw [aG3];show _+0+0<=_;omega
   have ea:=bKo (w:=((as,ls),(d,cc),(12,res,[]),60,[],[],flows,box,0)) (f:=(a6,b6,v7,0,ms,[],0,0,[])) (l:=l10) (bY8 (hd.tot (by omega)) (by decide)) tf (bY8 (aUu hl10.d) (by decide)) e10
   cases hbad:aLq ((as,ls),(d,cc),(12,res,[]),60,[],[],flows,box,0) (a6,b6,v7,0,ms,[],0,0,[]) with
   | true=>
    rw [hbad] at ea
    simp only [zV,bY9] at ea
    simp only [ea,aA,aYv,zY]
    exact ⟨n,_,by omega,rfl,as,ls,d,cc,res,flows,box,c9,p9,h9,rfl,by omega,hd.mono (by omega),k9⟩
   | false=>
    rw [hbad] at ea
    simp only [bZd,zU,bZj] at ea
    simp only [ea,aA,aYv,bUc,zZ]
    unfold aLq at hbad
    simp only [Bool.or_eq_false_iff,Bool.not_eq_false'] at hbad
    obtain ⟨⟨⟨⟨⟨b1,b2⟩,b3⟩,b4⟩,b5⟩,b6'⟩:=hbad
    have hnone:=bC6 b6'
    have hfl:(flows.length:Int)<4:=by have h5: ¬ ((flows.length:Int)>=4):=of_decide_eq_false b5;omega
    have hfl':flows.length<=3 - (n+1):=hd.len
    generalize hg:bQu (a6,b6,v7,0,ms,[],0,0,[]) l10 60=g
    have hL:((flows++[g]).length:Int)=((flows.length+1:Nat):Int):=by simp
    have wl:wr (((flows.length+1:Nat):Int) - 1)=(flows.length:Int):=by rw [bN (by omega) (by omega)];omega
    have hx:(flows++[g])[flows.length]? =some g:=by simp
    have hset: ∀ y,(flows++[g]).set flows.length y=flows++[y]:=fun y=>by simp
    have hlt:flows.length<(flows++[g]).length:=by simp
    obtain ⟨m,em,hm1,hm4⟩: ∃ m:Nat,(if (4:Int)<(g.2.2.2.2.2.1.length:Int) then (4:Int) else (g.2.2.2.2.2.1.length:Int))=(m:Int)∧m<=g.2.2.2.2.2.1.length∧m<=4:=by
     by_cases h4:(4:Int)<(g.2.2.2.2.2.1.length:Int)
     ·exact ⟨4,by rw [zT h4];rfl,by omega,by omega⟩
     ·exact ⟨g.2.2.2.2.2.1.length,by rw [zS h4],bZq _,by omega⟩
    have hmem: ∀ y∈g.2.2.2.2.2.1,nQ y:=fun y hy=>by
     rw [← hg] at hy
     exact (hl10.2 y (aMw hy)).1
    simp only [hL,wl,zX (show (0:Int)<=(flows.length:Int) by omega),zX (show (flows.length:Int)<((flows.length+1:Nat):Int) by omega),zZ,bZi,hx,aA,aVq,em,aF5 hm1,fF,zX hlt,hset]
    have fin: ∀ res' c p h,tX res' 12 60→Cur code (c,p,h)→NwI code n ((n:Int),d,cc,12,60,0,res',as,ls,d,cc,[],[],[],flows++[(g.1,g.2.1,g.2.2.1,g.2.2.2.1,g.2.2.2.2.1,List.take m g.2.2.2.2.2.1,g.2.2.2.2.2.2.1,g.2.2.2.2.2.2.2.1,g.2.2.2.2.2.2.2.2)],box++[(b6,a6,0,[])],c,p,h):=by
     intro res' c p h hr hc
     have hF:FlD (as,ls) (g.1,g.2.1,g.2.2.1,g.2.2.2.1,g.2.2.2.2.1,List.take m g.2.2.2.2.2.1,g.2.2.2.2.2.2.1,g.2.2.2.2.2.2.2.1,g.2.2.2.2.2.2.2.2):=by
      rw [← hg]
      exact bKb (f:=(a6,b6,v7,0,ms,[],0,0,[])) hm4 b1 b2 b3 rfl rfl hm hb hl10
     have ge1:g.1=a6:=by rw [← hg];rfl
     have ge2:g.2.1=b6:=by rw [← hg];rfl
     refine ⟨as,ls,d,cc,res',_,_,c,p,h,rfl,by omega,⟨hd.top,hd.db,rfl,hr,rfl,rfl,rfl,rfl,?_,?_,?_,?_⟩,hc⟩
     ·show (flows++[_]).length<=_
      simp;omega
     ·intro f hf
      rcases bZh.1 hf with hf | hf
      ·exact hd.flows f hf
      ·rw [bZg.1 hf];exact hF
     ·show box++[_]=(flows++[_]).map _
      rw [cBy,← show box=flows.map (fun f=>((f.2.1,f.1,0,[]):den tIb)) from hd.box]
      simp only [bZv,List.map_nil,ge1,ge2]
     ·show (flows++[_]).Pairwise _
      rw [cCl]
      refine ⟨hd.uniq,List.pairwise_singleton _ _,fun x hx y hy=> ?_⟩
      rw [bZg.1 hy]
      have hbx:((x.2.1,x.1,0,[]):den tIb)∈box:=by
       rw [show box=flows.map (fun f=>((f.2.1,f.1,0,[]):den tIb)) from hd.box]
       exact bZe.2 ⟨x,hx,rfl⟩
      have :=hnone _ hbx
      unfold oQ at this
      unfold pQ
      rw [Bool.and_comm]
      simp only [ge1,ge2]
      exact this
    by_cases hm0:m=0
    ·subst hm0
     simp only [show decide (((0:Nat):Int)>0)=false from rfl,zY,aA]
     exact ⟨n,_,by omega,rfl,fin res c9 p9 h9 hd.res k9⟩
    ·simp only [zX (show (m:Int)>0 by omega),zZ,aA]
     cases decide (g.2.2.1>(0:Int)) with
     | false=>
      simp only [zY,aA]
      exact ⟨n,_,by omega,rfl,fin res c9 p9 h9 hd.res k9⟩
     | true=>
      have hp:idx (List.take m g.2.2.2.2.2.1) (0:Int)=some (g.2.2.2.2.2.1[0]'(by omega)):=by
       rw [show (0:Int)=((0:Nat):Int) from rfl,aG,cAk,zT (by omega)]
       exact bY7 _
      obtain ⟨v11,c11,p11,h11,e11,r11,k11⟩:=bC hl (n:=2) (by decide) (by decide) k9
      obtain ⟨b12,m12,e12,q12⟩:=aZc hd.res (hmem _ (bZl (show 0<g.2.2.2.2.2.1.length by omega))) g.2.2.1 (wr ((1:Int)+v11)) 4000
      simp only [zZ,hp,e11,e12,aA,aV,bJ,aZ,aY,bA]
      exact ⟨n,_,by omega,rfl,fin m12 c11 p11 h11 q12 k11⟩

def aF9 (w:den tNw) (l:List Int):den tNw:=(nT w,nK w,nG w,aQ w,l,aS w,aC w,bO w,dD w)

def yN (w:den tNw) (i:Nat):den tNw:=aDg w ((aS w).take i++(aS w).drop (i+1))

theorem bFt {w:den tNw} {i:Nat} {x:den tFy} (hx:(aS w)[i]? =some x) (hl:(aS w).length<=1073741824):vP w (i:Int)=some (bPz x (yN w i)):=by
 have hlt:i<(aS w).length:=(bZf.1 hx).1
 have hx:w.2.2.2.2.2.1[((i:Nat):Int).toNat]? =some x:=by rw [bZi];exact hx
 have h1:decide ((i:Int)<(w.2.2.2.2.2.1.length:Int))=true:=zX (by have :i<w.2.2.2.2.2.1.length:=hlt;omega)
 have e1:wr ((i:Int)+1)=((i+1:Nat):Int):=(wri (by omega) (by omega)).trans (by omega)
 have h2:bR ((i+1:Nat):Int) (w.2.2.2.2.2.1.length:Int) (w.2.2.2.2.2.1.length:Int)=true:=xR (show i+1<=w.2.2.2.2.2.1.length from hlt)
 have h3:bR (0:Int) (i:Int) (w.2.2.2.2.2.1.length:Int)=true:=aF5 (k:=i) (Nat.le_of_lt hlt)
 have hl:w.2.2.2.2.2.1.length<=1073741824:=hl
 unfold vP ixb aI aN bD zz4 zz5 zz6 zz7 zz8 zz9
 simp only [h1,hx,aA,zZ,e1,h2,h3,fF,aCa,List.nil_append,aD (b:=128) (n:=([]:lFy).length) (m:=(w.2.2.2.2.2.1.take i).length) (by decide) (by simp;omega),aD (b:=128) (n:=(w.2.2.2.2.2.1.take i).length) (m:=(w.2.2.2.2.2.1.drop (i+1)).length) (by decide) (by simp;omega),zX (show (0:Int)<=(i:Int) by omega)]
 rfl


def rQ (m:Nat) (dead:List Int) (i:Int) (b:Bool):List Int:=((List.range m).map fun k:Nat=>((k:Nat):Int)).filter fun k:Int=>(oL dead k&&(k != i))||(b&&(k==i))

def aEl (w:den tNw) (i:Int) (b:Bool):Bool:=(oL (aK w) i==b)|| !inR i 0 (((nT w).2.length:Int) - 1)

def yD (w:den tNw) (i:Int) (b:Bool):den tNw:=if aEl w i b then w else aF9 w (rQ (nT w).2.length (aK w) i b)

theorem bHs {w:den tNw} {i:Int} {b:Bool} (h1:(nT w).2.length<=1073741824) (h2:(aK w).length<=68719476736):xQ w i b=some (!aEl w i b,cB (yD w i b)):=by
 have w1:wr ((w.1.2.length:Int) - 1)=(w.1.2.length:Int) - 1:=jE (bY8 h1 (by decide))
 have e1:=fun n=>aGr (l:=w.2.2.2.2.1) (n:=n) h2
 unfold xQ yD aEl zz4 zz5 zz6 zz7 zz8
 simp only [e1,aA,w1,fG]
 cases hb:(oL w.2.2.2.2.1 i==b) with
 | true=>rfl
 | false=>
  simp only [zY,aA,Bool.false_or]
  cases inR i 0 ((w.1.2.length:Int) - 1) with
  | false=>rfl
  | true=>
   simp only [bY9,zY,bZd,zU,bZj]
   refine bZ (G:=fun o=>o=some (true,cB (aF9 w (rQ (nT w).2.length (aK w) i b)))) w.1.2.length (fun s:Int×List Int=>s.1) (fun k s=>s.2.length<=k∧s.2=rQ k (aK w) i b) (fun r:List Int=>r=rQ w.1.2.length (aK w) i b) ?_ ?_ 0 ((0:Int),[]) (bZt _) rfl ⟨by simp,rfl⟩ ?_
   ·rintro k ⟨_,l⟩ hk rfl ⟨g1,g2⟩
    simp only at g1 g2
    right
    have hk':k<=1073741824:=bY8 (Nat.le_of_lt hk) h1
    simp only [zX (show (k:Int)<(w.1.2.length:Int) by omega),zZ,aA,aD (b:=8) (n:=l.length) (m:=1) (by decide) (by omega),show wr ((k:Int)+1)=((k+1:Nat):Int) from (wri (by omega) (by omega)).trans (by omega)]
    have hl:rQ (k+1) (aK w) i b=rQ k (aK w) i b++(if (oL (aK w) (k:Int)&&((k:Int) != i))||(b&&((k:Int)==i)) then [(k:Int)] else []):=by
     unfold rQ
     rw [List.range_succ,cBy,List.filter_append]
     congr 1
     simp only [bZv,List.map_nil,cB8,List.filter_nil]
    have hd:aK w=w.2.2.2.2.1:=rfl
    rw [hl,← g2,hd]
    cases oL w.2.2.2.2.1 (k:Int)<;>cases hki:((k:Int)==i)<;>cases b<;>simp only [bne,hki,zZ,zY,aA,bY9,bZj,Bool.and_true,cA6,Bool.true_and,bZu,cA8,Bool.or_false,Bool.true_or,Bool.false_or,bZd,zV,zU,cAf]<;>first
     | exact ⟨_,rfl,rfl,by simp;omega,rfl⟩
     | exact ⟨_,rfl,rfl,by simp only;omega,rfl⟩
   ·rintro ⟨_,l⟩ rfl ⟨g1,g2⟩
    exact ⟨l,by simp only [zW (bZp _),zY],g2⟩
   ·rintro r rfl
    rfl

def aDu (f:den tFl) (b:List Int):den tFl:=if gR (enq f b) then enq f b else f


def doW (w:den tNw) (e:den gC):Bool×den tNw:=
 if e.1==1 then (!decide (aQ w>=1000000),uI w)
 else if e.1==2 then (match inR e.2.1 0 (((aS w).length:Int) - 1),(aS w)[e.2.1.toNat]? with
  | true,some x=>(true,iQ (yN w e.2.1.toNat) x.1 x.2.1 x.2.2)
  | _,_=>(false,w))
 else if e.1==3 then (if inR e.2.1 0 (((aS w).length:Int) - 1) then (true,aBc (yN w e.2.1.toNat)) else (false,w))
 else if e.1==4 then (match inR e.2.1 0 (((aS w).length:Int) - 1)&& !decide (((aS w).length:Int)>=150),(aS w)[e.2.1.toNat]? with
  | true,some x=>(true,aDg w (aS w++[x]))
  | _,_=>(false,w))
 else if e.1==5||e.1==6 then (!aEl w e.2.1 (e.1==5),yD w e.2.1 (e.1==5))
 else if e.1==7 then (if cM (nT w) e.2.2.2.1&& !decide (((aS w).length:Int)>=150) then (true,aDg w (aS w++[e.2.2.2])) else (false,w))
 else if e.1==8 then (match inR e.2.1 0 (((aC w).length:Int) - 1),(aC w)[e.2.1.toNat]? with
  | true,some f=>(gR (enq f e.2.2.1),dG w ((aC w).set e.2.1.toNat (aDu f e.2.2.1)))
  | _,_=>(false,w))
 else (false,w)

theorem aHm {α:Type} {l:List α} {n:Int} (hl:l.length<=1073741824) (h:inR n 0 ((l.length:Int) - 1)=true): ∃ (i:Nat) (x:α),n=(i:Int)∧l[i]? =some x∧decide (n<(l.length:Int))=true∧decide ((0:Int)<=n)=true:=by
 obtain ⟨h0,h1⟩:=bT.1 h
 obtain ⟨i,rfl⟩:=bZ1 h0
 have hi:i<l.length:=by omega
 exact ⟨i,l[i],rfl,bY7 hi,zX (by omega),zX h0⟩

theorem aZn {B F:Nat} {w:den tNw} {r inn:Int} {p:den tPk} (hk:lK B F w) (hp:gE p):lK (B+(160+F)) F (iQ w r inn p):=by
 obtain ⟨h1,h2⟩:=aKd hk.bytes hp (r:=r) (inn:=inn)
 have h3:=aQa w r inn p
 have :=hk.flows
 have :=hk.tot
 exact ⟨by omega,by rw [h2];exact hk.flows,h1⟩

theorem aY1 {B F:Nat} {w:den tNw} {l:lFy} (hk:lK B F w) (hl:tot (.sl tFy) l<=tot (.sl tFy) (aS w)) (hb: ∀ x∈l,gE x.2.2):lK B F (aDg w l):=by
 have h1:=aQ2 w l
 have :=hk.tot
 exact ⟨by omega,hk.flows,⟨hb,hk.bytes.msg⟩⟩

theorem aFt {B F:Nat} {w:den tNw} (hk:lK B F w) (i:Nat):lK B F (yN w i):=by
 refine aY1 hk ?_ fun x hx=>hk.bytes.fly x ?_
 ·have h1:=tO (t:=tFy) ((aS w).take i) ((aS w).drop i)
  rw [cAr] at h1
  rw [tO,h1]
  have :tot (.sl tFy) ((aS w).drop (i+1))<=tot (.sl tFy) ((aS w).drop i):=by
   cases h:(aS w).drop i with
   | nil=>
    have :(aS w).drop (i+1)=[]:=by rw [← List.drop_drop,h];rfl
    rw [this];exact bZq _
   | cons x l=>
    have :(aS w).drop (i+1)=l:=by rw [← List.drop_drop,h];rfl
    rw [this,lM];omega
  omega
 ·rcases bZh.1 hx with hx | hx
  ·exact cAq hx
  ·exact cAv hx

theorem bT5 {B F:Nat} {w:den tNw} {e:den gC} (hF:F<=1000) (hk:lK B F w) (hB:B+(F+1) * (160+F)<=536870912) (h9:(e.1==(9:Int))=false) (hd:SmB 4294967296 (.sl tb) e.2.2.1) (hp:tot tPk e.2.2.2.2.2<=34359738368):zK w e=some ((doW w e).1,cB (doW w e).2):=by
 obtain ⟨kd,n,data,to,ing,pk⟩:=e
 simp only at h9 hd hp
 have hB0:B<=536870912:=by have :=bZt ((F+1) * (160+F));omega
 have hB1:B+F * (160+F)<=536870912:=by rw [bZ8] at hB;omega
 have nl:=fA w
 have l1:w.2.2.2.2.2.1.length<=1073741824:=bBc hk (by omega)
 have l2:w.2.2.2.2.2.2.1.length<=1073741824:=bY8 hk.flows (by omega)
 obtain ⟨n1,n2,n3⟩:=aGi hk (by omega)
 have w1:wr ((w.2.2.2.2.2.1.length:Int) - 1)=(w.2.2.2.2.2.1.length:Int) - 1:=jE (by omega)
 have w2:wr ((w.2.2.2.2.2.2.1.length:Int) - 1)=(w.2.2.2.2.2.2.1.length:Int) - 1:=jE (by omega)
 have a1:aH 128 w.2.2.2.2.2.1.length 1=true:=aD (by decide) (by omega)
 unfold zK doW ixb aI eE aMx pj2 cO aN bD bH cV jM sI xO aBo aDe aC6 aIc aMn aMh aK7 aS0 zz4 zz5 zz6 zz7 zz8 zz9
 simp only [w1,fG,aA]
 cases c1:(kd==(1:Int)) with
 | true=>
  show Option.bind (vI w) _=_
  rw [bRl hF hk hB1]
  rfl
 | false=>
 cases c2:(kd==(2:Int)) with
 | true=>
  simp only [zY,zZ,bZd,zU,zV]
  cases hin:inR n 0 ((w.2.2.2.2.2.1.length:Int) - 1) with
  | false=>rfl
  | true=>
   obtain ⟨i,x,rfl,hx,_,_⟩:=aHm l1 hin
   have hx:(aS w)[i]? =some x:=hx
   have e1:=bFt (w:=w) hx l1
   have kg:=aFt hk i
   obtain ⟨m1,m2,m3⟩:=aGi kg (by omega)
   have hxm:=bZk hx
   have htx:tot tPk x.2.2<=536870912:=by
    have h1:=xJ (t:=tFy) hxm
    have h2:tot tFy x=tot tPk x.2.2:=by simp [rX,uP]
    have :=hk.tot
    omega
   have e2:=bA1 (w:=yN w i) (r:=x.1) (inn:=x.2.1) m1 m2 m3 htx (hk.bytes.fly x hxm)
   have e3:Option.bind (Option.bind (dY (yN w i) x.1 x.2.1 x.2.2) fun y4=>some y4) (fun s5=>some (true,s5))=some (true,cB (iQ (yN w i) x.1 x.2.1 x.2.2)):=by rw [e2];rfl
   rw [zZ,e1,aA]
   have hx':w.2.2.2.2.2.1[((i:Nat):Int).toNat]? =some x:=by rw [bZi];exact hx
   rw [hx']
   exact e3
 | false=>
 cases c3:(kd==(3:Int)) with
 | true=>
  simp only [zY,zZ,bZd,zU,zV]
  cases hin:inR n 0 ((w.2.2.2.2.2.1.length:Int) - 1) with
  | false=>rfl
  | true=>
   obtain ⟨i,x,rfl,hx,_,_⟩:=aHm l1 hin
   have hx:(aS w)[i]? =some x:=hx
   have e1:=bFt (w:=w) hx l1
   rw [zZ,e1,aA]
   rfl
 | false=>
 cases c4:(kd==(4:Int)) with
 | true=>
  simp only [zY,zZ,bZd,zU,zV]
  cases hin:inR n 0 ((w.2.2.2.2.2.1.length:Int) - 1) with
  | false=>rfl
  | true=>
   obtain ⟨i,x,rfl,hx,hlt,hz⟩:=aHm l1 hin
   have hx:(aS w)[i]? =some x:=hx
   have hxm:=bZk hx
   have htx:tot tPk x.2.2<=34359738368:=by
    have h1:=xJ (t:=tFy) hxm
    have h2:tot tFy x=tot tPk x.2.2:=by simp [rX,uP]
    have :=hk.tot
    omega
   have hx':w.2.2.2.2.2.1[((i:Nat):Int).toNat]? =some x:=by rw [bZi];exact hx
   have e1:=aEg (gB htx)
   cases decide ((w.2.2.2.2.2.1.length:Int)>=150) with
   | true=>rfl
   | false=>
    simp only [bY9,bZj,zY,zZ,aA,hlt,hz,hx',a1,cA9]
    rw [show ((x.2.2.1,x.2.2.2.1,x.2.2.2.2.1,x.2.2.2.2.2.1,x.2.2.2.2.2.2.1,x.2.2.2.2.2.2.2.1,x.2.2.2.2.2.2.2.2.1,x.2.2.2.2.2.2.2.2.2.1,x.2.2.2.2.2.2.2.2.2.2.1,x.2.2.2.2.2.2.2.2.2.2.2):den tPk)=x.2.2 from rfl,e1,aA]
    rfl
 | false=>
 cases c5:(kd==(5:Int)) with
 | true=>
  simp only [zY,zZ,bZd,zU,zV,aA,Bool.true_or]
  rw [show ((w.1,w.2.1,w.2.2.1,w.2.2.2.1,w.2.2.2.2.1,w.2.2.2.2.2.1,w.2.2.2.2.2.2.1,w.2.2.2.2.2.2.2.1,w.2.2.2.2.2.2.2.2):den tNw)=w from rfl,bHs n1.links n1.dead]
  rfl
 | false=>
 cases c6:(kd==(6:Int)) with
 | true=>
  simp only [zY,zZ,bZd,zU,zV,aA,cA8]
  rw [show ((w.1,w.2.1,w.2.2.1,w.2.2.2.1,w.2.2.2.2.1,w.2.2.2.2.2.1,w.2.2.2.2.2.2.1,w.2.2.2.2.2.2.2.1,w.2.2.2.2.2.2.2.2):den tNw)=w from rfl,bHs n1.links n1.dead]
  rfl
 | false=>
 cases c7:(kd==(7:Int)) with
 | true=>
  simp only [zY,zZ,bZd,zU,zV,aA,cAx,aM,aBu n1.as]
  have e1:=aEg (gB hp)
  cases cM w.1 to with
  | false=>rfl
  | true=>
   cases decide ((w.2.2.2.2.2.1.length:Int)>=150) with
   | true=>rfl
   | false=>
    simp only [bY9,bZj,zY,zZ,aA,a1,e1]
    rfl
 | false=>
 cases c8:(kd==(8:Int)) with
 | true=>
  simp only [zY,zZ,bZd,zU,zV,aA,cAx,aM]
  unfold aAi ixb pj2 pj9 zz4 zz5 zz6 zz7 zz8 zz9
  simp only [w2,fG,aA,c8,zZ]
  cases hin:inR n 0 ((w.2.2.2.2.2.2.1.length:Int) - 1) with
  | false=>rfl
  | true=>
   obtain ⟨i,x,rfl,hx,hlt,hz⟩:=aHm l2 hin
   have hx:(aC w)[i]? =some x:=hx
   have hxm:=bZk hx
   have hx':w.2.2.2.2.2.2.1[((i:Nat):Int).toNat]? =some x:=by rw [bZi];exact hx
   have hfx:tot tFl x<=536870912:=by
    have h1:=xJ (t:=tFl) hxm
    have :=hk.tot
    omega
   have e1:=bN8 (f:=x) (b:=data) ((bF hfx).mono (by decide)) hd
   have hlt2:decide (((i:Nat):Int).toNat<w.2.2.2.2.2.2.1.length)=true:=zX (by rw [bZi];exact (bZf.1 hx).1)
   simp only [bY9,zY,zZ,hlt,hz,hx',hlt2,aA]
   rw [show ((x.1,x.2.1,x.2.2.1,x.2.2.2.1,x.2.2.2.2.1,x.2.2.2.2.2.1,x.2.2.2.2.2.2.1,x.2.2.2.2.2.2.2.1,x.2.2.2.2.2.2.2.2):den tFl)=x from rfl,e1,aA]
   unfold aOm aDu
   cases gR (enq x data)<;>rfl
 | false=>
  simp only [h9,zY,zZ,bZd,zU,zV,aA,cAx]
  rfl


def aFw (p:den tPt):Prop:=bZo (α:=den tPp) p<=4∧ ∀ x:den tPp,x∈(show lPp from p)→x.2.2.2.length<=5

theorem nQ.e {p:den tPt} (h:nQ p):aFw p:=⟨bY8 h.1 (by decide),h.2⟩

theorem bFl {p:den tPt} (h:aFw p):tot tPt p<=24:=by
 have h1:=aAs (t:=tPp) (B:=5) (l:=p) fun x hx=>aXo (h.2 x hx)
 have h2:=h.1
 show tot (.sl tPp) p<=24
 omega

theorem aFw.set {p:lPp} (h:nQ p) {i:Nat} {x:den tPp} (hx:x.2.2.2.length<=5):aFw (p.set i x):=by
 refine ⟨by have :=h.1;show (p.set i x).length<=4;rw [cA5];omega,fun y hy=> ?_⟩
 rcases cBz (show y∈p.set i x from hy) with hy | rfl
 ·exact h.2 y hy
 ·exact hx

theorem bFs {code:List Int} (hl:code.length<=1048576) {c:List Int} {p h:Int} (hc:Cur code (c,p,h)): ∃ (q:lPp) (c':List Int) (p' h':Int),aA1 (c,p,h)=some (q,c',p',h')∧aFw q∧Cur code (c',p',h'):=by
 obtain ⟨as,ls,q,c1,p1,h1,e1,hq,k1⟩:=aWc hl hc
 unfold aA1 ixb pj3 pj4
 simp only [e1,aA,aV,bJ,aZ,aY,bA]
 by_cases h0:q.length=0
 ·rw [show ((q.length:Int)==0)=true by rw [beq_iff_eq];omega,zZ]
  exact ⟨q,c1,p1,h1,rfl,hq.e,k1⟩
 have hq3:q.length<=3:=hq.1
 rw [show ((q.length:Int)==0)=false by rw [beq_eq_false_iff_ne];omega,zY]
 obtain ⟨v2,c2,p2,h2,e2,r2,k2⟩:=bC hl (n:=(q.length:Int)) (by omega) (by omega) k1
 obtain ⟨m,rfl⟩:=bZ1 r2.1
 have hm:m<q.length:=by omega
 have hx:q[m]? =some q[m]:=bY7 hm
 have hx5:q[m].2.2.2.length<=5:=hq.2 _ (bZl hm)
 obtain ⟨v3,c3,p3,h3,e3,r3,k3⟩:=bC hl (n:=12) (by decide) (by decide) k2
 simp only [e2,e3,aA,zX (show (0:Int)<=(m:Int) by omega),zX (show (m:Int)<(q.length:Int) by omega),zZ,bZi,hx]
 cases v3==(0:Int) with
 | true=>
  obtain ⟨v4,c4,p4,h4,e4,_,k4⟩:=bC hl (n:=6) (by decide) (by decide) k3
  exact ⟨_,c4,p4,h4,by simp only [zZ,e4,aA];rfl,aFw.set hq (by exact hx5),k4⟩
 | false=>
 cases v3==(1:Int) with
 | true=>
  obtain ⟨v4,c4,p4,h4,e4,k4⟩:=aJe hl k3
  exact ⟨_,c4,p4,h4,by simp only [zZ,zY,e4,aA];rfl,aFw.set hq (by exact hx5),k4⟩
 | false=>
 cases v3==(2:Int) with
 | true=>
  have sx:SmB 68719476736 tPp q[m]:=⟨trivial,trivial,trivial,by omega,fun _ _=>⟨trivial,trivial,trivial,trivial,trivial⟩⟩
  refine ⟨q++[q[m]],c3,p3,h3,?_,⟨by show (q++[q[m]]).length<=4;simp;omega,fun y hy=> ?_⟩,k3⟩
  ·simp only [zZ,zY,aPb (p:=q[m]) (by omega),aM,aA,aD (b:=48) (n:=q.length) (m:=1) (by decide) (by omega)]
  ·rcases bZh.1 (show y∈q++[q[m]] from hy) with hy | hy
   ·exact hq.2 y hy
   ·rw [bZg.1 hy];exact hx5
 | false=>
 cases v3==(3:Int) with
 | true=>
  have s1:bR (1:Int) (q.length:Int) (q.length:Int)=true:=xR (k:=1) (by omega)
  have s2:cut q (1:Int) (q.length:Int)=q.drop 1:=aCa (k:=1)
  refine ⟨q.drop 1,c3,p3,h3,by simp only [zZ,zY,s1,s2,aA],⟨by show (q.drop 1).length<=4;simp;omega,fun y hy=>hq.2 y (cAv (show y∈q.drop 1 from hy))⟩,k3⟩
 | false=>
 cases v3==(4:Int) with
 | false=>exact ⟨q,c3,p3,h3,by simp only [zY,aA],hq.e,k3⟩
 | true=>
  simp only [zZ,zY]
  by_cases hp:(q[m].2.2.2.length:Int)>0
  ·obtain ⟨v4,c4,p4,h4,e4,r4,k4⟩:=bC hl (n:=(q[m].2.2.2.length:Int)) hp (by omega) k3
   obtain ⟨i,rfl⟩:=bZ1 r4.1
   have hi:i<q[m].2.2.2.length:=by omega
   obtain ⟨v5,c5,p5,h5,e5,k5⟩:=aJe hl k4
   refine ⟨_,c5,p5,h5,?_,aFw.set hq (i:=m) (x:=(q[m].1,q[m].2.1,q[m].2.2.1,q[m].2.2.2.set i (q[m].2.2.2[i].1,q[m].2.2.2[i].2.1,q[m].2.2.2[i].2.2.1,q[m].2.2.2[i].2.2.2.1,v5))) (by show (q[m].2.2.2.set i _).length<=5;rw [cA5];exact hx5),k5⟩
   simp only [zX hp,zZ,e4,e5,aA,zX (show (0:Int)<=(i:Int) by omega),zX (show (i:Int)<(q[m].2.2.2.length:Int) by omega),bZi,bY7 hi,aV,bJ,aZ,aY,bA]
  ·exact ⟨q,c3,p3,h3,by simp only [zW hp,zY,aA],hq.e,k3⟩


structure bJl (p:den tPk):Prop where
 path:aFw p.2.2.2.1
 len:p.2.2.2.2.2.2.2.2.2.length<=1000
 bytes:gE p

theorem bAv (p:den tPk):tot tPk p=tot tPt p.2.2.2.1+p.2.2.2.2.2.2.2.2.2.length:=by
 have e:tot tPk p=tot tPt p.2.2.2.1+tot (.sl tb) p.2.2.2.2.2.2.2.2.2:=by simp [rX,uP]
 rw [e,kF (t:=tb) rfl]

theorem bMm {p:den tPk} (h:bJl p):tot tPk p<=1100:=by
 have h1:=bFl h.path
 have h2:=h.len
 rw [bAv]
 omega

theorem bGx {code:List Int} (hl:code.length<=1048576) {c:List Int} {p h:Int} (hc:Cur code (c,p,h)): ∃ (as:lAS) (ls:lLk) (k:den tPk) (c':List Int) (p' h':Int),aAx (c,p,h)=some (as,ls,k.1,k.2.1,k.2.2.1,k.2.2.2.1,k.2.2.2.2.1,k.2.2.2.2.2.1,k.2.2.2.2.2.2.1,k.2.2.2.2.2.2.2.1,k.2.2.2.2.2.2.2.2.1,k.2.2.2.2.2.2.2.2.2,c',p',h')∧bJl k∧Cur code (c',p',h'):=by
 obtain ⟨as,ls,k,c1,p1,h1,e1,hk,k1⟩:=bRe hl hc
 obtain ⟨v2,c2,p2,h2,e2,r2,k2⟩:=bC hl (n:=14) (by decide) (by decide) k1
 have hkp:bJl k:=⟨hk.path.e,hk.len,hk.bytes⟩
 unfold aAx pj3 pj4 aN bD bH zz4 zz5 zz6 zz7 zz8 zz9
 simp only [e1,e2,aA,aV,bJ,aZ,aY,bA]
 cases v2==(0:Int) with
 | true=>
  obtain ⟨v3,c3,p3,h3,e3,_,k3⟩:=bC hl (n:=4) (by decide) (by decide) k2
  exact ⟨as,ls,(k.1,k.2.1,k.2.2.1,k.2.2.2.1,wr (v3 - 1),k.2.2.2.2.2.1,k.2.2.2.2.2.2.1,k.2.2.2.2.2.2.2.1,k.2.2.2.2.2.2.2.2.1,k.2.2.2.2.2.2.2.2.2),c3,p3,h3,by simp only [zZ,e3,aA],⟨hkp.path,hkp.len,hkp.bytes⟩,k3⟩
 | false=>
 cases v2==(1:Int) with
 | true=>
  obtain ⟨v3,c3,p3,h3,e3,_,k3⟩:=bC hl (n:=4) (by decide) (by decide) k2
  exact ⟨as,ls,(k.1,k.2.1,k.2.2.1,k.2.2.2.1,k.2.2.2.2.1,wr (v3 - 1),k.2.2.2.2.2.2.1,k.2.2.2.2.2.2.2.1,k.2.2.2.2.2.2.2.2.1,k.2.2.2.2.2.2.2.2.2),c3,p3,h3,by simp only [zZ,zY,e3,aA],⟨hkp.path,hkp.len,hkp.bytes⟩,k3⟩
 | false=>
 cases v2==(2:Int) with
 | true=>
  obtain ⟨v3,c3,p3,h3,e3,k3⟩:=aJe hl k2
  exact ⟨as,ls,(k.1,k.2.1,k.2.2.1,k.2.2.2.1,k.2.2.2.2.1,k.2.2.2.2.2.1,v3,k.2.2.2.2.2.2.2.1,k.2.2.2.2.2.2.2.2.1,k.2.2.2.2.2.2.2.2.2),c3,p3,h3,by simp only [zZ,zY,e3,aA],⟨hkp.path,hkp.len,hkp.bytes⟩,k3⟩
 | false=>
 cases v2==(3:Int) with
 | true=>
  obtain ⟨v3,c3,p3,h3,e3,_,k3⟩:=bC hl (n:=9) (by decide) (by decide) k2
  exact ⟨as,ls,(k.1,k.2.1,v3,k.2.2.2.1,k.2.2.2.2.1,k.2.2.2.2.2.1,k.2.2.2.2.2.2.1,k.2.2.2.2.2.2.2.1,k.2.2.2.2.2.2.2.2.1,k.2.2.2.2.2.2.2.2.2),c3,p3,h3,by simp only [zZ,zY,e3,aA],⟨hkp.path,hkp.len,hkp.bytes⟩,k3⟩
 | false=>
 cases v2==(4:Int) with
 | true=>
  obtain ⟨v3,c3,p3,h3,e3,_,k3⟩:=aGj hl (l:=[(-1:Int),(100000:Int),(100001:Int)]) (by decide) (by decide) k2
  exact ⟨as,ls,(k.1,k.2.1,k.2.2.1,k.2.2.2.1,k.2.2.2.2.1,k.2.2.2.2.2.1,k.2.2.2.2.2.2.1,k.2.2.2.2.2.2.2.1,v3,k.2.2.2.2.2.2.2.2.2),c3,p3,h3,by simp only [zZ,zY,e3,aA],⟨hkp.path,hkp.len,hkp.bytes⟩,k3⟩
 | false=>
 cases v2==(5:Int) with
 | true=>
  obtain ⟨q3,c3,p3,h3,e3,hq,k3⟩:=bFs hl k2
  exact ⟨as,ls,(k.1,k.2.1,k.2.2.1,q3,k.2.2.2.2.1,k.2.2.2.2.2.1,k.2.2.2.2.2.2.1,k.2.2.2.2.2.2.2.1,k.2.2.2.2.2.2.2.2.1,k.2.2.2.2.2.2.2.2.2),c3,p3,h3,by simp only [zZ,zY,e3,aA],⟨hq,hkp.len,hkp.bytes⟩,k3⟩
 | false=>
 cases v2==(6:Int) with
 | true=>
  obtain ⟨v3,c3,p3,h3,e3,_,k3⟩:=bC hl (n:=6) (by decide) (by decide) k2
  exact ⟨as,ls,(wr (v3 - 1),k.2.1,k.2.2.1,k.2.2.2.1,k.2.2.2.2.1,k.2.2.2.2.2.1,k.2.2.2.2.2.2.1,k.2.2.2.2.2.2.2.1,k.2.2.2.2.2.2.2.2.1,k.2.2.2.2.2.2.2.2.2),c3,p3,h3,by simp only [zZ,zY,e3,aA],⟨hkp.path,hkp.len,hkp.bytes⟩,k3⟩
 | false=>exact ⟨as,ls,k,c2,p2,h2,by simp only [zY,aA],hkp,k2⟩


structure EvD (w:den tNw) (e:den gC):Prop where
 lo:(1:Int)<=e.1
 hi:(8:Int)>=e.1
 data:e.2.2.1.length<=3∧tW e.2.2.1
 pk:tot tPk e.2.2.2.2.2<=1100∧gE e.2.2.2.2.2
 harm:harm w e=true


structure bMn (w:den tNw):Prop where
 tot:tot tNw w<=536870912
 as:1<=(nT w).1.length∧(nT w).1.length<=8
 links:(nT w).2.length<=100
 flyN:(aS w).length<=150
 fly: ∀ x∈aS w,Go.V.tot tPk x.2.2<=1100
 bytes: ∀ x∈aS w,gE x.2.2
 flows:(aC w).length<=4

theorem bDw {w:den tNw} {e:den gC} (h:(e.1==(7:Int))=false):harm w e=true:=by
 unfold harm
 rw [h];rfl

theorem bGi {w:den tNw} {to ing:Int} {pk:den tPk}:harm w ((7:Int),(0:Int),[],(to,ing,((3:Int),pk.2)))=true:=by
 unfold harm uM
 rw [show (((3:Int),pk.2):den tPk).1=3 from rfl,show ((3:Int)==3)=true from rfl,cA8,cA8]
 rfl

def fgR (w:den tNw) (e:den gC) (c:List Int) (p h:Int):q7:=
 (e.1,e.2.1,e.2.2.2.1,e.2.2.2.2.1,e.2.2.2.2.2.1,e.2.2.2.2.2.2.1,e.2.2.2.2.2.2.2.1,e.2.2.2.2.2.2.2.2.1,e.2.2.2.2.2.2.2.2.2.1,e.2.2.2.2.2.2.2.2.2.2.1,e.2.2.2.2.2.2.2.2.2.2.2.1,e.2.2.2.2.2.2.2.2.2.2.2.2.1,e.2.2.2.2.2.2.2.2.2.2.2.2.2.1,e.2.2.2.2.2.2.2.2.2.2.2.2.2.2,e.2.2.1,c,p,h,aS w,aC w,bO w)

def nxR (w:den tNw) (e:den gC) (c:List Int) (p h:Int):q7:=
 (e.1,e.2.1,e.2.2.2.1,e.2.2.2.2.1,e.2.2.2.2.2.1,e.2.2.2.2.2.2.1,e.2.2.2.2.2.2.2.1,e.2.2.2.2.2.2.2.2.1,e.2.2.2.2.2.2.2.2.2.1,e.2.2.2.2.2.2.2.2.2.2.1,e.2.2.2.2.2.2.2.2.2.2.2.1,e.2.2.2.2.2.2.2.2.2.2.2.2.1,e.2.2.2.2.2.2.2.2.2.2.2.2.2.1,e.2.2.1,e.2.2.2.2.2.2.2.2.2.2.2.2.2.2,c,p,h,aS w,aC w,bO w)

theorem bI7 {code:List Int} (hl:code.length<=1048576) {w:den tNw} (hw:bMn w) {c:List Int} {p h:Int} (hc:Cur code (c,p,h)): ∃ e c' p' h',nY (c,p,h) w=some (fgR w e c' p' h')∧EvD w e∧Cur code (c',p',h'):=by
 obtain ⟨as,ls,k,c1,p1,h1,e1,hk,k1⟩:=bGx hl hc
 have ha:1<=w.1.1.length∧w.1.1.length<=8:=hw.as
 have hfn:=hw.flyN
 obtain ⟨v2,c2,p2,h2,e2,r2,k2⟩:=bC hl (n:=(w.1.1.length:Int)) (by omega) (by omega) k1
 obtain ⟨v3,c3,p3,h3,e3,r3,k3⟩:=bC hl (n:=7) (by decide) (by decide) k2
 have sw:SmB 68719476736 tNw w:=(bF hw.tot).mono (by decide)
 have fin: ∀ (k:den tPk) (c:List Int) (p h:Int),tot tPk k<=1100→gE k→Cur code (c,p,h)→ ∃ e c' p' h',(Option.bind (Option.bind (qE w ((7:Int),(0:Int),[],(v2,v3,(k.1,k.2.1,k.2.2.1,k.2.2.2.1,k.2.2.2.2.1,k.2.2.2.2.2.1,k.2.2.2.2.2.2.1,k.2.2.2.2.2.2.2.1,k.2.2.2.2.2.2.2.2.1,k.2.2.2.2.2.2.2.2.2)))) fun y31=>cond (!y31) (some ((7:Int),(0:Int),v2,v3,(3:Int),k.2.1,k.2.2.1,k.2.2.2.1,k.2.2.2.2.1,k.2.2.2.2.2.1,k.2.2.2.2.2.2.1,k.2.2.2.2.2.2.2.1,k.2.2.2.2.2.2.2.2.1)) (some ((7:Int),(0:Int),v2,v3,k.1,k.2.1,k.2.2.1,k.2.2.2.1,k.2.2.2.2.1,k.2.2.2.2.2.1,k.2.2.2.2.2.2.1,k.2.2.2.2.2.2.2.1,k.2.2.2.2.2.2.2.2.1))) fun s32=>some (s32.1,s32.2.1,s32.2.2.1,s32.2.2.2.1,s32.2.2.2.2.1,s32.2.2.2.2.2.1,s32.2.2.2.2.2.2.1,s32.2.2.2.2.2.2.2.1,s32.2.2.2.2.2.2.2.2.1,s32.2.2.2.2.2.2.2.2.2.1,s32.2.2.2.2.2.2.2.2.2.2.1,s32.2.2.2.2.2.2.2.2.2.2.2.1,s32.2.2.2.2.2.2.2.2.2.2.2.2,k.2.2.2.2.2.2.2.2.2,([]:List Int),c,p,h,w.2.2.2.2.2.1,w.2.2.2.2.2.2.1,w.2.2.2.2.2.2.2.1))=some (fgR w e c' p' h')∧EvD w e∧Cur code (c',p',h'):=by
  intro k c p h ht hb hc
  have se:SmB 68719476736 gC ((7:Int),(0:Int),[],(v2,v3,k)):=⟨trivial,trivial,⟨by simp,fun x hx=>trivial⟩,trivial,trivial,(bF ht).mono (by decide)⟩
  have e9:qE w ((7:Int),(0:Int),[],(v2,v3,(k.1,k.2.1,k.2.2.1,k.2.2.2.1,k.2.2.2.2.1,k.2.2.2.2.2.1,k.2.2.2.2.2.2.1,k.2.2.2.2.2.2.2.1,k.2.2.2.2.2.2.2.2.1,k.2.2.2.2.2.2.2.2.2)))=some (harm w ((7:Int),(0:Int),[],(v2,v3,k))):=bUx sw se
  rw [e9,aA]
  cases hb':harm w ((7:Int),(0:Int),[],(v2,v3,k)) with
  | true=>exact ⟨((7:Int),(0:Int),[],(v2,v3,k)),c,p,h,rfl,⟨by show (1:Int)<=7;decide,by show (8:Int)>=7;decide,⟨bZt _,fun x hx=>(bZw hx).elim⟩,⟨ht,hb⟩,hb'⟩,hc⟩
  | false=>exact ⟨((7:Int),(0:Int),[],(v2,v3,((3:Int),k.2))),c,p,h,rfl,⟨by show (1:Int)<=7;decide,by show (8:Int)>=7;decide,⟨bZt _,fun x hx=>(bZw hx).elim⟩,⟨ht,hb⟩,bGi⟩,hc⟩
 unfold nY ixb aI pj3 pj4 cO aN bD bH cV jM sI xO zz4 zz5 zz6 zz7 zz8 zz9
 simp only [e1,e2,e3,aA,aV,bJ,aZ,aY,bA]
 have done:=fun c p h hc=>fin k c p h (bMm hk) hk.bytes hc
 by_cases hf:(w.2.2.2.2.2.1.length:Int)>0
 ·obtain ⟨v4,c4,p4,h4,e4,k4⟩:=tR hl (n:=2) (by decide) (by decide) k3
  simp only [zX hf,zZ,e4,aA]
  cases v4 with
  | false=>
   simp only [zY,aA]
   exact done c4 p4 h4 k4
  | true=>
   have hfn:w.2.2.2.2.2.1.length<=150:=hfn
   obtain ⟨v5,c5,p5,h5,e5,r5,k5⟩:=bC hl (n:=(w.2.2.2.2.2.1.length:Int)) hf (by omega) k4
   obtain ⟨i,rfl⟩:=bZ1 r5.1
   have hi:i<w.2.2.2.2.2.1.length:=by omega
   have hx:w.2.2.2.2.2.1[i]? =some w.2.2.2.2.2.1[i]:=bY7 hi
   have hm:w.2.2.2.2.2.1[i]∈aS w:=bZl hi
   have ht:=hw.fly _ hm
   have hb:=hw.bytes _ hm
   generalize w.2.2.2.2.2.1[i]=x at hx hm ht hb
   have e6:=aEg (p:=x.2.2) (gB (bY8 ht (by decide)))
   obtain ⟨v7,c7,p7,h7,e7,k7⟩:=tR hl (n:=2) (by decide) (by decide) k5
   simp only [zZ,e5,aA,zX (show (0:Int)<=(i:Int) by omega),zX (show (i:Int)<(w.2.2.2.2.2.1.length:Int) by omega),bZi,hx,aM,e6,e7]
   cases v7 with
   | false=>
    simp only [zY,aA]
    exact fin x.2.2 c7 p7 h7 ht hb k7
   | true=>
    obtain ⟨v8,c8,p8,h8,e8,k8⟩:=aJe hl k7
    simp only [zZ,e8,aA]
    exact fin (x.2.2.1,x.2.2.2.1,x.2.2.2.2.1,x.2.2.2.2.2.1,x.2.2.2.2.2.2.1,x.2.2.2.2.2.2.2.1,v8,x.2.2.2.2.2.2.2.2.2.1,x.2.2.2.2.2.2.2.2.2.2.1,x.2.2.2.2.2.2.2.2.2.2.2) c8 p8 h8 ht hb k8
 ·simp only [zW hf,zY,aA]
  exact done c3 p3 h3 k3

theorem bJr {code:List Int} (hl:code.length<=1048576) {w:den tNw} (hw:bMn w) {c:List Int} {p h:Int} (hc:Cur code (c,p,h)): ∃ e c' p' h',sU (c,p,h) w=some (nxR w e c' p' h')∧EvD w e∧Cur code (c',p',h'):=by
 have hlk:w.1.2.length<=100:=hw.links
 have hfl:w.2.2.2.2.2.2.1.length<=4:=hw.flows
 have hfn:w.2.2.2.2.2.1.length<=150:=hw.flyN
 have wl:wr ((w.1.2.length:Int)+1)=((w.1.2.length+1:Nat):Int):=aW (by omega)
 have wf:wr ((w.2.2.2.2.2.2.1.length:Int)+1)=((w.2.2.2.2.2.2.1.length+1:Nat):Int):=aW (by omega)
 have pk0D:tot tPk ((0:Int),(0:Int),(0:Int),[],(0:Int),(0:Int),(0:Int),(0:Int),(0:Int),[])<=1100∧gE ((0:Int),(0:Int),(0:Int),[],(0:Int),(0:Int),(0:Int),(0:Int),(0:Int),[]):=⟨by rw [bAv];exact bZt _,fun x hx=>(bZw hx).elim⟩
 have ev: ∀ (kd n:Int) (data:List Int),(1:Int)<=kd→(8:Int)>=kd→(kd==(7:Int))=false→data.length<=3→tW data→EvD w (kd,n,data,((0:Int),(0:Int),((0:Int),(0:Int),(0:Int),[],(0:Int),(0:Int),(0:Int),(0:Int),(0:Int),[]))):=fun kd n data a b d e f=>⟨a,b,⟨e,f⟩,pk0D,bDw d⟩
 have nob:tW []:=fun x hx=>(bZw hx).elim
 obtain ⟨v1,c1,p1,h1,e1,r1,k1⟩:=bC hl (n:=24) (by decide) (by decide) hc
 obtain ⟨v2,c2,p2,h2,e2,r2,k2⟩:=bC hl (n:=((w.1.2.length+1:Nat):Int)) (by omega) (by omega) k1
 unfold sU pj3 pj6 cO aN bD bH cV jM sI zz4 zz5 zz6 zz7 zz8 zz9
 simp only [e1,aA,wl,wf,e2]
 cases v1==(0:Int) with
 | true=>
  exact ⟨((5:Int),v2,[],((0:Int),(0:Int),((0:Int),(0:Int),(0:Int),[],(0:Int),(0:Int),(0:Int),(0:Int),(0:Int),[]))),c2,p2,h2,rfl,ev 5 v2 [] (by decide) (by decide) rfl (bZt _) nob,k2⟩
 | false=>
 simp only [zY]
 obtain ⟨b3,e3⟩: ∃ b,(cond (v1==(1:Int)) (some (v1==(1:Int))) (some (v1==(2:Int))))=some b:=by cases v1==(1:Int)<;>exact ⟨_,rfl⟩
 rw [e3,aA]
 cases b3 with
 | true=>
  exact ⟨((6:Int),v2,[],((0:Int),(0:Int),((0:Int),(0:Int),(0:Int),[],(0:Int),(0:Int),(0:Int),(0:Int),(0:Int),[]))),c2,p2,h2,rfl,ev 6 v2 [] (by decide) (by decide) rfl (bZt _) nob,k2⟩
 | false=>
 simp only [zY]
 cases v1==(3:Int) with
 | true=>
  obtain ⟨e,c4,p4,h4,e4,d4,k4⟩:=bI7 hl hw k1
  refine ⟨e,c4,p4,h4,?_,d4,k4⟩
  rw [zZ]
  show Option.bind (nY (c1,p1,h1) w) _=_
  rw [e4]
  rfl
 | false=>
 simp only [zY]
 cases v1==(4:Int) with
 | true=>
  obtain ⟨v4,c4,p4,h4,e4,r4,k4⟩:=bC hl (n:=((w.2.2.2.2.2.2.1.length+1:Nat):Int)) (by omega) (by omega) k1
  obtain ⟨v5,c5,p5,h5,e5,r5,k5⟩:=bC hl (n:=3) (by decide) (by decide) k4
  obtain ⟨m5,rfl⟩:=bZ1 r5.1
  obtain ⟨l6,c6,p6,h6,e6,⟨r6,b6⟩,k6⟩:=aLe hl (n:=m5) (by omega) k5
  exact ⟨((8:Int),v4,l6,((0:Int),(0:Int),((0:Int),(0:Int),(0:Int),[],(0:Int),(0:Int),(0:Int),(0:Int),(0:Int),[]))),c6,p6,h6,by simp only [zZ,e4,e5,e6,aA];rfl,ev 8 v4 l6 (by decide) (by decide) rfl (by omega) b6,k6⟩
 | false=>
 simp only [zY]
 have tick: ∀ c p h,Cur code (c,p,h)→ ∃ e c' p' h',(some ((1:Int),(0:Int),(0:Int),(0:Int),(0:Int),(0:Int),(0:Int),[],(0:Int),(0:Int),(0:Int),(0:Int),(0:Int),[],[],c,p,h,w.2.2.2.2.2.1,w.2.2.2.2.2.2.1,w.2.2.2.2.2.2.2.1):Option q7)=some (nxR w e c' p' h')∧EvD w e∧Cur code (c',p',h'):=fun c p h hc=>
  ⟨((1:Int),(0:Int),[],((0:Int),(0:Int),((0:Int),(0:Int),(0:Int),[],(0:Int),(0:Int),(0:Int),(0:Int),(0:Int),[]))),c,p,h,rfl,ev 1 0 [] (by decide) (by decide) rfl (bZt _) nob,hc⟩
 by_cases hf:(w.2.2.2.2.2.1.length:Int)>0
 ·obtain ⟨v4,c4,p4,h4,e4,k4⟩:=tR hl (n:=4) (by decide) (by decide) k1
  simp only [zX hf,zZ,e4,aA]
  cases v4 with
  | true=>
   simp only [bY9,zY]
   exact tick c4 p4 h4 k4
  | false=>
   simp only [bZj,zZ]
   obtain ⟨m,em,hm1,hm2⟩: ∃ m:Int,(if (3:Int)<(w.2.2.2.2.2.1.length:Int) then (3:Int) else (w.2.2.2.2.2.1.length:Int))=m∧0<m∧m<=256:=by
    split
    ·exact ⟨_,rfl,by decide,by decide⟩
    ·exact ⟨_,rfl,by omega,by omega⟩
   obtain ⟨v5,c5,p5,h5,e5,r5,k5⟩:=bC hl hm1 hm2 k4
   obtain ⟨v6,c6,p6,h6,e6,r6,k6⟩:=bC hl (n:=12) (by decide) (by decide) k5
   simp only [aVq,em,e5,e6,aA]
   cases v6==(0:Int) with
   | true=>exact ⟨((3:Int),v5,[],((0:Int),(0:Int),((0:Int),(0:Int),(0:Int),[],(0:Int),(0:Int),(0:Int),(0:Int),(0:Int),[]))),c6,p6,h6,rfl,ev 3 v5 [] (by decide) (by decide) rfl (bZt _) nob,k6⟩
   | false=>
    cases v6==(1:Int) with
    | true=>exact ⟨((4:Int),v5,[],((0:Int),(0:Int),((0:Int),(0:Int),(0:Int),[],(0:Int),(0:Int),(0:Int),(0:Int),(0:Int),[]))),c6,p6,h6,rfl,ev 4 v5 [] (by decide) (by decide) rfl (bZt _) nob,k6⟩
    | false=>exact ⟨((2:Int),v5,[],((0:Int),(0:Int),((0:Int),(0:Int),(0:Int),[],(0:Int),(0:Int),(0:Int),(0:Int),(0:Int),[]))),c6,p6,h6,rfl,ev 2 v5 [] (by decide) (by decide) rfl (bZt _) nob,k6⟩
 ·simp only [zW hf,zY,aA]
  exact tick c1 p1 h1 k1

theorem aZu {s d now now':Int} (hn:now<=now'): ∀ {l:lRs},(∀ x∈l,(0:Int)<=x.2.2.2.1∧(20:Int)>=x.2.2.2.1)→rs s d now' l<=rs s d now l
 | [],_=>cA1 _
 | x::l,h=>by
  have ih:=aZu (s:=s) (d:=d) hn (l:=l) fun y hy=>h y (bZm _ hy)
  have hx:=h x (by simp)
  unfold rs
  by_cases c:now'<=x.2.2.2.2
  ·rw [zX c,zX (show now<=x.2.2.2.2 from Int.le_trans hn c)]
   split<;>omega
  ·rw [zW c,cA6]
   simp only [bZd,zU]
   split<;>omega

theorem tX.later {l:lRs} {cap now now':Int} (h:tX l cap now) (hn:now<=now'):tX l cap now':=
 ⟨h.len,h.val,fun x hx=>Int.le_trans (aZu hn (wE h.val)) (h.rate x hx),h.pw⟩

theorem OkS.tick {g:den tSc} {now now':Int} (h:OkS g now) (hn:now<=now'):OkS (g.1,aEx g.2.1 now',[]) now':=
 ⟨h.lo,h.hi,(h.res.later hn).filter _,fun j x hx=>by simp at hx⟩


structure cR (w w':den tNw):Prop where
 top:nT w'=nT w
 now:aQ w'=aQ w
 gate:OkS (nG w) (aQ w)→OkS (nG w') (aQ w')
 fly: ∀ x∈aS w',x∈aS w∨tot tPk x.2.2<=1100
 flyN:(aS w).length<=150→(aS w').length<=150

theorem cR.refl (w:den tNw):cR w w:=⟨rfl,rfl,id,fun x hx=> .inl hx,id⟩

theorem cR.trans {a b c:den tNw} (h:cR a b) (k:cR b c):cR a c:=
 ⟨k.top.trans h.top,k.now.trans h.now,fun hg=>k.gate (h.gate hg),fun x hx=>(k.fly x hx).elim (h.fly x) .inr,fun hl=>k.flyN (h.flyN hl)⟩

theorem cR.drop (w:den tNw):cR w (aBc w):=⟨rfl,rfl,id,fun x hx=> .inl hx,id⟩

theorem cR.box (w:den tNw) (i:Nat) (x:den tIb):cR w (tZ w i x):=⟨rfl,rfl,id,fun x hx=> .inl hx,id⟩

theorem cR.flows (w:den tNw) (l:lFl):cR w (dG w l):=⟨rfl,rfl,id,fun x hx=> .inl hx,id⟩

theorem cR.tell (w:den tNw) (r:Int) (p:den tPk):cR w (wT w r p):=cR.flows w _

theorem cR.send {w:den tNw} {r eg:Int} {p:den tPk} (hp:tot tPk p<=1100):cR w (sM w r eg p):=by
 unfold sM
 split
 ·rename_i hc
  rw [bZb,zR] at hc
  refine ⟨rfl,rfl,fun hg=>hg.trans _ _ _,fun x hx=> ?_,fun hl=> ?_⟩
  ·rcases bZh.1 (show x∈aS w++_ from hx) with hx | hx
   ·exact .inl hx
   ·have :x=_:=bZg.1 hx
    subst this
    exact .inr hp
  ·show (aS w++_).length<=150
   have :=hc.2
   simp
   omega
 ·exact cR.drop w

theorem aN0 {t:den tTo} {now:Int} {dead:List Int} {r inn:Int} {p:den tPk} (h:((cJ t now dead r inn p).1==0)=true):tot tPk (cJ t now dead r inn p).2.2.1<=1100:=by
 have hv:gX p=true:=aL0 (t:=t) (r:=r) (now:=now) (dead:=uK t dead r) (inn:=inn) (by
  have h:((fwd t r now (uK t dead r) inn p).1==0)=true:=h
  rw [eq_of_beq h];rfl)
 unfold cJ
 rw [aNr]
 exact bY8 (aQp hv) (by decide)

theorem cR.proc0 (w:den tNw) (r inn:Int) (p:den tPk):cR w (proc0 w r inn p):=by
 unfold Go.Proofs.YtecighmpdcffcaaGreat.proc0
 split
 ·rename_i h;exact cR.send (aN0 h)
 ·split
  ·exact cR.tell w _ _
  ·exact cR.drop w

theorem cR.proc (w:den tNw) (r inn:Int) (p:den tPk):cR w (iQ w r inn p):=by
 unfold iQ
 split
 ·rename_i h;exact cR.send (aN0 h)
 ·split
  ·split
   ·unfold aB0
    split
    ·exact cR.refl w
    ·split
     ·exact (cR.box w _ _).trans (cR.proc0 _ _ _ _)
     ·exact cR.box w _ _
   ·exact cR.tell w _ _
  ·split
   ·unfold aEv
    split
    ·exact (cR.proc0 _ _ _ _).trans (cR.drop _)
    ·exact (cR.tell _ _ _).trans (cR.drop _)
   ·exact cR.drop w

theorem cR.stepT (k:Nat) (w:den tNw):cR w (stepT k w):=by
 unfold Go.Proofs.YtecighmpdcffcaaGreat.stepT
 split
 ·split
  ·exact (cR.flows w _).trans (cR.proc _ _ _ _)
  ·exact cR.flows w _
 ·exact cR.refl w

theorem cR.tickL: ∀ (n k:Nat) (w:den tNw),cR w (tickL k n w)
 | 0,_,w=>cR.refl w
 | n+1,k,w=>(cR.stepT k w).trans (cR.tickL n (k+1) _)


structure rY (t:den tTo) (B k:Nat) (w:den tNw):Prop where
 keep:lK B 4 w
 top:nT w=t
 gate:OkS (nG w) (aQ w)
 lo:(0:Int)<=aQ w
 hi:aQ w<=60+(k:Int)
 fly: ∀ x∈aS w,tot tPk x.2.2<=1100
 flyN:(aS w).length<=150

theorem rY.mono {t:den tTo} {B C k j:Nat} {w:den tNw} (h:rY t B k w) (hB:B<=C) (hk:k<=j):rY t C j w:=⟨h.keep.mono hB,h.top,h.gate,h.lo,by have :=h.hi;omega,h.fly,h.flyN⟩

theorem rY.step {t:den tTo} {B C k:Nat} {w w':den tNw} (h:rY t B k w) (s:cR w w') (hk:lK C 4 w'):rY t C k w':=
 ⟨hk,s.top.trans h.top,s.gate h.gate,by rw [s.now];exact h.lo,by rw [s.now];exact h.hi,fun x hx=>(s.fly x hx).elim (h.fly x) id,s.flyN h.flyN⟩

theorem bDy {t:den tTo} {B k:Nat} {w:den tNw} (h:rY t B k w) (hk:k<=1000):rY t B (k+1) (aH4 w):=by
 have hlo:=h.lo
 have hhi:=h.hi
 have e:wr (aQ w+1)=aQ w+1:=bN (by omega) (by omega)
 refine ⟨aFu h.keep,h.top,?_,?_,?_,h.fly,h.flyN⟩
 ·show OkS ((nG w).1,aEx (nG w).2.1 (wr (aQ w+1)),[]) (wr (aQ w+1))
  rw [e]
  exact h.gate.tick (by omega)
 ·show (0:Int)<=wr (aQ w+1)
  omega
 ·show wr (aQ w+1)<=_
  omega

theorem bFv {t:den tTo} {B k:Nat} {w:den tNw} (h:rY t B k w) (hk:k<=1000):rY t (B+656) (k+1) (uI w):=by
 have hkp:=bDm h.keep
 unfold uI at hkp ⊢
 split
 ·exact h.mono (by omega) (by omega)
 ·rename_i hn
  rw [zS hn] at hkp
  exact (bDy h hk).step (cR.tickL _ _ _) hkp

theorem aZ7 {w:den tNw} {x:den tFy}:tot tNw (aDg w (aS w++[x]))=tot tNw w+(1+tot tPk x.2.2):=by
 have h1:=aQ2 w (aS w++[x])
 rw [tO,aGc] at h1
 have e:tot tFy x=tot tPk x.2.2:=by simp [rX,uP]
 omega

theorem bGp (m:Nat) (dead:List Int) (i:Int) (b:Bool):(rQ m dead i b).length<=m:=by
 unfold rQ
 exact bY8 (cBu ..) (by simp)

theorem aZl (w:den tNw) (l:List Int):tot tNw (aF9 w l)+(aK w).length=tot tNw w+l.length:=by
 have e:tot tNw (aF9 w l)=(tot (.sl tAS) (nT w).1+tot (.sl tLk) (nT w).2)+((tot (.sl tSg) (nK w).1+tot (.sl tSg) (nK w).2)+((0+(tot (.sl tRs) (nG w).2.1+tot (.sl tUs) (nG w).2.2))+(0+(tot (.sl ti) l+(tot (.sl tFy) (aS w)+(tot (.sl tFl) (aC w)+(tot (.sl tIb) (bO w)+0))))))):=rfl
 have r: ∀ l:List Int,tot (.sl ti) l=l.length:=fun l=>kF rfl
 rw [e,fA w,r,r]
 omega


theorem bA7 {t:den tTo} {B k:Nat} {w:den tNw} {e:den gC} (h:rY t B k w) (hk:k<=1000) (ht:t.2.length<=100) (he:EvD w e):rY t (B+2000) (k+1) (doW w e).2:=by
 have same:rY t (B+2000) (k+1) w:=h.mono (by omega) (by omega)
 unfold doW
 split
 ·exact (bFv h hk).mono (by omega) (by omega)
 ·split
  ·split
   ·rename_i x hi hx
    have hm:=bZk hx
    have hb:=h.keep.bytes.fly x hm
    have hg:rY t B k (yN w e.2.1.toNat):=h.step ⟨rfl,rfl,id,fun y hy=> ?_,fun hl=> ?_⟩ (aFt h.keep _)
    ·exact ((hg.step (cR.proc _ _ _ _) (aZn hg.keep hb)).mono (by omega) (by omega))
    ·rcases bZh.1 (show y∈(aS w).take _++(aS w).drop _ from hy) with hy | hy
     ·exact .inl (cAq hy)
     ·exact .inl (cAv hy)
    ·show ((aS w).take _++(aS w).drop _).length<=150
     simp only [bZ5,cAh,cA4]
     omega
   ·exact same
  ·split
   ·split
    ·have hg:rY t B k (yN w e.2.1.toNat):=h.step ⟨rfl,rfl,id,fun y hy=> ?_,fun hl=> ?_⟩ (aFt h.keep _)
     ·exact (hg.step (cR.drop _) ⟨hg.keep.tot,hg.keep.flows,⟨hg.keep.bytes.fly,hg.keep.bytes.msg⟩⟩).mono (by omega) (by omega)
     ·rcases bZh.1 (show y∈(aS w).take _++(aS w).drop _ from hy) with hy | hy
      ·exact .inl (cAq hy)
      ·exact .inl (cAv hy)
     ·show ((aS w).take _++(aS w).drop _).length<=150
      simp only [bZ5,cAh,cA4]
      omega
    ·exact same
   ·split
    ·split
     ·rename_i x hi hx
      have hm:=bZk hx
      rw [bZb] at hi
      have hlt: ¬ (((aS w).length:Int)>=150):=by have :=hi.2;simpa using this
      have ht':=aZ7 (w:=w) (x:=x)
      have hx':=h.fly x hm
      have hkp:=h.keep.tot
      refine rY.mono (B:=B+1101) (k:=k) (h.step (w':=aDg w (aS w++[x])) ⟨rfl,rfl,id,fun y hy=> ?_,fun hl=> ?_⟩ ⟨by omega,h.keep.flows,⟨fun y hy=> ?_,h.keep.bytes.msg⟩⟩) (by omega) (by omega)
      ·rcases bZh.1 (show y∈aS w++[x] from hy) with hy | hy
       ·exact .inl hy
       ·rw [bZg.1 hy];exact .inl hm
      ·show (aS w++[x]).length<=150
       simp only [bZ5,cAt]
       omega
      ·rcases bZh.1 (show y∈aS w++[x] from hy) with hy | hy
       ·exact h.keep.bytes.fly y hy
       ·rw [bZg.1 hy];exact h.keep.bytes.fly x hm
     ·exact same
    ·split
     ·show rY t (B+2000) (k+1) (yD w e.2.1 (e.1==5))
      unfold yD
      split
      ·exact same
      ·have h1:=aZl w (rQ (nT w).2.length (aK w) e.2.1 (e.1==5))
       have h2:=bGp (nT w).2.length (aK w) e.2.1 (e.1==5)
       have h3:(nT w).2.length<=100:=by rw [h.top];exact ht
       have hkp:=h.keep.tot
       exact rY.mono (B:=B+100) (k:=k) (h.step (w':=aF9 w (rQ (nT w).2.length (aK w) e.2.1 (e.1==5))) ⟨rfl,rfl,id,fun y hy=> .inl hy,id⟩ ⟨by omega,h.keep.flows,⟨h.keep.bytes.fly,h.keep.bytes.msg⟩⟩) (by omega) (by omega)
     ·split
      ·split
       ·rename_i hc
        rw [bZb] at hc
        have hlt: ¬ (((aS w).length:Int)>=150):=by have :=hc.2;simpa using this
        have ht':=aZ7 (w:=w) (x:=e.2.2.2)
        have hx':=he.pk.1
        have hkp:=h.keep.tot
        refine rY.mono (B:=B+1101) (k:=k) (h.step (w':=aDg w (aS w++[e.2.2.2])) ⟨rfl,rfl,id,fun y hy=> ?_,fun hl=> ?_⟩ ⟨by omega,h.keep.flows,⟨fun y hy=> ?_,h.keep.bytes.msg⟩⟩) (by omega) (by omega)
        ·rcases bZh.1 (show y∈aS w++[e.2.2.2] from hy) with hy | hy
         ·exact .inl hy
         ·rw [bZg.1 hy];exact .inr hx'
        ·show (aS w++[e.2.2.2]).length<=150
         simp only [bZ5,cAt]
         omega
        ·rcases bZh.1 (show y∈aS w++[e.2.2.2] from hy) with hy | hy
         ·exact h.keep.bytes.fly y hy
         ·rw [bZg.1 hy];exact he.pk.2
       ·exact same
      ·split
       ·split
        ·rename_i f hi hf
         have hm:=bZk hf
         have h1:=aRm (t:=tFl) (y:=aDu f e.2.2.1) hf
         have h5:=aGy w ((aC w).set e.2.1.toNat (aDu f e.2.2.1))
         have h6:=fA w
         have hkp:=h.keep.tot
         have h2:tot tFl (aDu f e.2.2.1)<=tot tFl f+4:=by
          unfold aDu
          split
          ·obtain ⟨a,b,c,d,ms,ps,cu,wa,rv⟩:=f
           show tot tFl (a,b,c,d,ms++[e.2.2.1],ps,cu,wa,rv)<=tot tFl (a,b,c,d,ms,ps,cu,wa,rv)+4
           rw [aG3,aG3,tO,bA3]
           have :=he.data.1
           omega
          ·omega
         refine rY.mono (B:=B+4) (k:=k) (h.step (w':=dG w ((aC w).set e.2.1.toNat (aDu f e.2.2.1))) (cR.flows w _) ⟨by omega,by show ((aC w).set _ _).length<=4;rw [cA5];exact h.keep.flows,⟨h.keep.bytes.fly,fun g hg m hmm=> ?_⟩⟩) (by omega) (by omega)
         rcases cBz (show g∈(aC w).set _ _ from hg) with hg | rfl
         ·exact h.keep.bytes.msg g hg m hmm
         ·unfold aDu at hmm
          split at hmm
          ·rcases bZh.1 (show m∈f.2.2.2.2.1++[e.2.2.1] from hmm) with hmm | hmm
           ·exact h.keep.bytes.msg f hm m hmm
           ·rw [bZg.1 hmm];exact he.data.2
          ·exact h.keep.bytes.msg f hm m hmm
        ·exact same
       ·exact same


inductive Ran (v:den tNw):fM→den tNw→Prop
 | nil:Ran v [] v
 | snoc {l:fM} {w:den tNw} {e:den gC} (h:Ran v l w) (he:EvD w e):Ran v (l++[e]) (doW w e).2
theorem zO.gateOk {n:Nat} {v:den tNw} (h:zO n v):OkS (nG v) (aQ v):=by
 have h1:=h.res
 rw [h.now,h.gate]
 exact ⟨by show (1:Int)<=12;decide,by show (20:Int)>=12;decide,h1,fun j x hx=>by simp at hx⟩

theorem zO.run {v:den tNw} (h:zO 3 v):rY (nT v) 1000 0 v where
 keep:=⟨h.tot (by decide),bY8 h.len (by decide),⟨fun x hx=>(by rw [h.fly] at hx;cases hx),fun f hf m hm=>(h.flows f hf).bytes m hm⟩⟩
 top:=rfl
 gate:=h.gateOk
 lo:=by rw [h.now];decide
 hi:=by rw [h.now];decide
 fly:=fun x hx=>by rw [h.fly] at hx;cases hx
 flyN:=by rw [h.fly];exact bZt _

theorem Ran.run {v:den tNw} (hv:zO 3 v) {l:fM} {w:den tNw} (h:Ran v l w):l.length<=1000→rY (nT v) (1000+2000 * l.length) l.length w:=by
 induction h with
 | nil=>intro _;exact hv.run
 | snoc h he ih=>
  intro hl
  simp only [bZ5,cAt] at hl ⊢
  exact (bA7 (ih (by omega)) (by omega) hv.top.links he).mono (by omega) (by omega)

theorem rY.netE {t:den tTo} {B k:Nat} {w:den tNw} (h:rY t B k w) (hB:B<=536870912) (h1:1<=t.1.length) (h8:t.1.length<=8) (hl:t.2.length<=100):bMn w:=
 ⟨bY8 h.keep.tot hB,by rw [h.top];exact ⟨h1,h8⟩,by rw [h.top];exact hl,h.flyN,h.fly,h.keep.bytes.fly,h.keep.flows⟩

def bYh (v:den tNw) (l:fM) (w:den tNw) (c:List Int) (p h:Int):q16:=
 ((nG v).1,aQ v,dD v,l,(nT w).1,(nT w).2,(nK w).1,(nK w).2,(nG w).1,(nG w).2.1,(nG w).2.2,aQ w,aK w,dD w,(nT v).1,(nT v).2,(nK v).1,(nK v).2,(nG v).2.1,(nG v).2.2,aK v,aS v,aC v,bO v,aS w,aC w,bO w,c,p,h)

abbrev RnS:=Int×lAS×lLk×lSg×lSg×Int×lRs×lUs×Int×lI×Int×fM×lFy×lFl×lIb×lI×Int×Int

abbrev RnR:=lAS×lLk×lSg×lSg×Int×lRs×lUs×Int×lI×Int×fM×lFy×lFl×lIb×lI×Int×Int

def rnS (n:Nat) (l:fM) (w:den tNw) (c:List Int) (p h:Int):RnS:=((n:Int),(nT w).1,(nT w).2,(nK w).1,(nK w).2,(nG w).1,(nG w).2.1,(nG w).2.2,aQ w,aK w,dD w,l,aS w,aC w,bO w,c,p,h)

def bVz (code:List Int) (N:Nat) (o:Option q16):Prop:=
 ∃ v l w c' p' h',o=some (bYh v l w c' p' h')∧zO 3 v∧Ran v l w∧l.length<=N∧Cur code (c',p',h')

theorem bQ2 {code:List Int} (hl:code.length<=1048576) {most:Nat} (h0:0<most) (h1:most<=200) {c:List Int} {p h:Int} (hc:Cur code (c,p,h)):bVz code (3+most) (yX (c,p,h) (most:Int)):=by
 obtain ⟨v,c1,p1,h1',e1,hv,k1⟩:=bR1 hl hc
 obtain ⟨v2,c2,p2,h2,e2,r2,k2⟩:=bC hl (n:=(most:Int)) (by omega) (by omega) k1
 obtain ⟨m2,rfl⟩:=bZ1 r2.1
 have w2:wr ((3:Int)+(m2:Int))=((m2+3:Nat):Int):=by rw [bN (by omega) (by omega)];omega
 have sw:SmB 68719476736 tNw v:=(bF (hv.tot (by decide))).mono (by decide)
 have e3:gH (((aAl v c1 p1 h1').2.2.2.1,(aAl v c1 p1 h1').2.2.2.2.1),((aAl v c1 p1 h1').2.2.2.2.2.1,(aAl v c1 p1 h1').2.2.2.2.2.2.1),((aAl v c1 p1 h1').1,(aAl v c1 p1 h1').2.2.2.2.2.2.2.1,(aAl v c1 p1 h1').2.2.2.2.2.2.2.2.1),(aAl v c1 p1 h1').2.1,(aAl v c1 p1 h1').2.2.2.2.2.2.2.2.2.1,(aAl v c1 p1 h1').2.2.2.2.2.2.2.2.2.2.1,(aAl v c1 p1 h1').2.2.2.2.2.2.2.2.2.2.2.1,(aAl v c1 p1 h1').2.2.2.2.2.2.2.2.2.2.2.2.1,(aAl v c1 p1 h1').2.2.1)=some (aC9 v):=aI6 sw
 have e2:aE ((aAl v c1 p1 h1').2.2.2.2.2.2.2.2.2.2.2.2.2.1,(aAl v c1 p1 h1').2.2.2.2.2.2.2.2.2.2.2.2.2.2.1,(aAl v c1 p1 h1').2.2.2.2.2.2.2.2.2.2.2.2.2.2.2) (most:Int)=some ((m2:Int),c2,p2,h2):=e2
 unfold yX bUk pj3 pj6 aN bD bH cV jM sI xO aBo aDe aC6 aIc zz4 zz5 zz6 zz7 zz8 zz9
 simp only [aV,bJ,aZ,aY,bA,e1,aA,e3,e2,w2]
 refine kI (G:=bVz code (3+most)) (fun (n:Nat) (s:RnS)=> ∃ l w c p h,s=rnS n l w c p h∧l.length+n<=3+most∧Ran v l w∧Cur code (c,p,h)) (fun r:RnR=> ∃ n l w c p h,r=(rnS n l w c p h).2∧l.length<=3+most∧Ran v l w∧Cur code (c,p,h)) ?_ (m2+3) (rnS (m2+3) [] v c2 p2 h2) ⟨[],v,c2,p2,h2,rfl,by simp only [cBk];omega,.nil,k2⟩ ?_
 ·rintro n s ⟨l,w,c3,p3,h3,rfl,hn,hr,k3⟩
  cases n with
  | zero=>exact .inl ⟨_,rfl,0,l,w,c3,p3,h3,rfl,by omega,hr,k3⟩
  | succ n=>
   right
   have hrun:=hr.run hv (by omega)
   have hE:=hrun.netE (by omega) hv.top.pos hv.top.len hv.top.links
   obtain ⟨e,c4,p4,h4,e4,he,k4⟩:=bJr hl hE k3
   have e5:=bT5 (w:=w) (e:=e) (by decide) hrun.keep (by omega) (by
     have h8:=he.hi
     have h9: ¬ (e.1=(9:Int)):=fun h=>by rw [h] at h8;exact absurd h8 (by decide)
     exact beq_eq_false_iff_ne.2 h9) ⟨by have :=he.data.1;omega,fun x hx=>trivial⟩ (bY8 he.pk.1 (by decide))
   have wn:wr (((n+1:Nat):Int) - 1)=(n:Int):=by rw [bN (by omega) (by omega)];omega
   refine ⟨n,rnS n (l++[e]) (doW w e).2 c4 p4 h4,by omega,?_,l++[e],(doW w e).2,c4,p4,h4,rfl,by simp only [bZ5,cAt];omega,hr.snoc he,k4⟩
   obtain ⟨⟨as,ls⟩,⟨dn,co⟩,⟨cap,res,us⟩,now,dead,fly,flows,box,drop⟩:=w
   obtain ⟨kd,en,data,to,ing,k1,k2,k3,k4,k5,k6,k7,k8,k9,k10⟩:=e
   show cond (decide (((n+1:Nat):Int)>(0:Int))) _ _=_
   rw [zX (show ((n+1:Nat):Int)>0 by omega),zZ]
   simp only [rnS,nT,nK,nG,aQ,aK,aS,aC,bO,dD,zZ,e4,aA,nxR,aD (b:=168) (n:=l.length) (m:=1) (by decide) (by omega),e5,cB,wn]
 ·rintro r ⟨n,l,w,c3,p3,h3,rfl,hn,hr,k3⟩
  exact ⟨v,l,w,c3,p3,h3,rfl,hv,hr,hn,k3⟩

def aLk (w:den tNw):q5:=
 ((nT w).1,(nT w).2,(nK w).1,(nK w).2,(nG w).1,(nG w).2.1,(nG w).2.2,aQ w,aK w,dD w,aS w,aC w,bO w)

def hdS (l:dN):Option Int:=l.head?.map fun x=>(x.1:Int)

def ltS (l:dN):Option Int:=l.getLast?.map fun x=>(x.1:Int)

theorem aKp (l:dN) (x:den aAf):ltS (l++[x])=some x.1:=by unfold ltS;rw [cBt];rfl

theorem aOg (l:dN) (x:den aAf):hdS (l++[x])=if l=[] then some x.1 else hdS l:=by
 cases l with
 | nil=>rfl
 | cons y l=>rfl

theorem bR2 (nf:Bool) (p:den tPp) (i:Nat) (h:den cH) (out:dN):ltS (zP nf p i h out)=some h.1∧hdS (zP nf p i h out)=if out=[] then some h.1 else hdS out:=by
 unfold zP
 rcases mU out with rfl | ⟨m,z,rfl⟩
 ·exact ⟨rfl,rfl⟩
 ·rw [cBt]
  simp only
  split
  ·rename_i hc
   simp only [bZb,beq_iff_eq] at hc
   rw [cCk]
   refine ⟨aKp _ _,?_⟩
   have hne:m++[z]≠[]:=by simp
   rw [zS hne,aOg,aOg]
   by_cases hm:m=[]
   ·rw [zT hm,zT hm];exact congrArg some hc.2.2.symm
   ·rw [zS hm,zS hm]
  ·exact ⟨aKp _ _,by rw [aOg]⟩

theorem aSo (nf:Bool) (p:den tPp): ∀ (l:dA) (k:Nat) (a:dN),ltS (cN (fun i h b=>zP nf p i h b) k l a)=(if l=[] then ltS a else gF l)∧hdS (cN (fun i h b=>zP nf p i h b) k l a)=(if a=[] then pJ l else hdS a)
 | [],k,a=>by
  refine ⟨rfl,?_⟩
  show hdS a=_
  split
  ·rename_i h;rw [h];rfl
  ·rfl
 | x::l,k,a=>by
  obtain ⟨h1,h2⟩:=aSo nf p l (k+1) (zP nf p k x a)
  obtain ⟨g1,g2⟩:=bR2 nf p k x a
  have hne:zP nf p k x a≠[]:=fun e=>by rw [e] at g1;cases g1
  rw [zS hne,g2] at h2
  refine ⟨?_,?_⟩
  ·show ltS (cN _ (k+1) l (zP nf p k x a))=_
   cases l with
   | nil=>
    show ltS (zP nf p k x a)=_
    rw [zS (List.cons_ne_nil _ _),g1];rfl
   | cons y l=>
    rw [h1,zS (List.cons_ne_nil _ _),zS (List.cons_ne_nil _ _)]
    unfold gF
    rw [List.getLast?_cons_cons]
  ·show hdS (cN _ (k+1) l (zP nf p k x a))=_
   rw [h2];rfl

theorem aVu: ∀ (p:lPp) (k:Nat) (a:dN),a≠[]→hdS (cN (fun k x a=>rV (decide (0<k)) x a) k p a)=hdS a∧(∀ b,aDw p=some b→ltS (cN (fun k x a=>rV (decide (0<k)) x a) k p a)=some b)
 | [],k,a,_=>⟨rfl,fun b h=>by cases h⟩
 | x::p,k,a,ha=>by
  obtain ⟨g1,g2⟩:=aSo (decide (0<k)) x x.2.2.2 0 a
  rw [zS ha] at g2
  have hne:rV (decide (0<k)) x a≠[]:=fun e=>by
   have g2:hdS (rV (decide (0<k)) x a)=hdS a:=g2
   rw [e] at g2
   cases a with
   | nil=>exact ha rfl
   | cons y l=>cases g2
  obtain ⟨h1,h2⟩:=aVu p (k+1) (rV (decide (0<k)) x a) hne
  refine ⟨h1.trans g2,fun b hb=> ?_⟩
  cases p with
  | nil=>
   have hb:gF x.2.2.2=some b:=hb
   show ltS (rV (decide (0<k)) x a)=some b
   have g1:ltS (rV (decide (0<k)) x a)=_:=g1
   rw [g1,zS (fun e=>by rw [e] at hb;cases hb),hb]
  | cons y p=>
   have hb:aDw (y::p)=some b:=by
    unfold aDw at hb ⊢
    rwa [List.getLast?_cons_cons] at hb
   exact h2 b hb

theorem aZr (l:dN):hdS (aIm l)=hdS l∧ltS (aIm l)=ltS l:=by
 unfold aIm
 cases l with
 | nil=>exact ⟨rfl,rfl⟩
 | cons x xs=>
  simp only
  rcases mU xs with rfl | ⟨m,z,rfl⟩
  ·exact ⟨rfl,rfl⟩
  ·have e:((x.1,(0:Int),x.2.2)::(m++[z]):dN)=((x.1,(0:Int),x.2.2)::m)++[z]:=rfl
   rw [e,cBt]
   simp only
   rw [cCk,aKp]
   refine ⟨rfl,?_⟩
   rw [show (x::(m++[z]):dN)=(x::m)++[z] from rfl,aKp]


theorem aZt {p:lPp} {a b:Int} (ha:aL7 p=some a) (hb:aDw p=some b):ends p=(a,b):=by
 cases p with
 | nil=>cases ha
 | cons x p=>
  have ha:pJ x.2.2.2=some a:=ha
  obtain ⟨g1,g2⟩:=aSo false x x.2.2.2 0 []
  have g1:ltS (rV false x [])=_:=g1
  have g2:hdS (rV false x [])=pJ x.2.2.2:=g2
  have hne:rV false x []≠[]:=fun e=>by rw [e] at g2;rw [← g2] at ha;cases ha
  obtain ⟨h1,h2⟩:=aVu p 1 (rV false x []) hne
  have e0:aBt (x::p)=cN (fun k x a=>rV (decide (0<k)) x a) 1 p (rV false x []):=rfl
  have f1:hdS (hU (x::p))=some a:=by
   unfold hU
   rw [(aZr _).1,e0,h1,g2,ha]
  have f2:ltS (hU (x::p))=some b:=by
   unfold hU
   rw [(aZr _).2,e0]
   cases p with
   | nil=>
    have hb:gF x.2.2.2=some b:=hb
    show ltS (rV false x [])=some b
    rw [g1,zS (fun e=>by rw [e] at hb;cases hb),hb]
   | cons y p=>
    have hb:aDw (y::p)=some b:=by
     unfold aDw at hb ⊢
     rwa [List.getLast?_cons_cons] at hb
    exact h2 b hb
  unfold ends
  unfold hdS at f1
  unfold ltS at f2
  obtain ⟨u,hu,eu⟩:=bZ2.1 f1
  obtain ⟨v,hv,ev⟩:=bZ2.1 f2
  rw [hu,hv]
  simp only
  rw [eu,ev]

theorem aUf (x:den tPp):pJ (yV x).2.2.2=gF x.2.2.2∧gF (yV x).2.2.2=pJ x.2.2.2:=by
 unfold yV pJ gF
 simp only [List.head?_reverse,List.getLast?_reverse,and_self]

theorem aUb (p:lPp):aL7 (aDq p)=aDw p∧aDw (aDq p)=aL7 p:=by
 unfold aDq aL7 aDw
 rw [List.head?_map,List.getLast?_map,List.head?_reverse,List.getLast?_reverse]
 constructor
 ·cases p.getLast? with
  | none=>rfl
  | some x=>exact (aUf x).1
 ·cases p.head? with
  | none=>rfl
  | some x=>exact (aUf x).2

theorem aSf {α:Type} (p:α→α→Bool) (hp: ∀ x y,p x y=true→x=y): ∀ {a b:List α},a.length=b.length→aIj p a b=true→a=b
 | [],[],_,_=>rfl
 | [],_::_,h,_=>by simp at h
 | _::_,[],h,_=>by simp at h
 | x::a,y::b,h,e=>by
  simp only [aIj,bZb] at e
  rw [hp x y e.1,aSf p hp (by simpa using h) e.2]

theorem bBl (b:Bool):cond b true false=b:=by cases b<;>rfl

theorem bKa {a b:dA} (h:aPn a b=true):a=b:=by
 unfold aPn at h
 by_cases hl:a.length=b.length
 ·rw [zX hl,bY9,zY,bBl] at h
  refine aSf _ (fun x y e=> ?_) hl h
  simp only [bZb,beq_iff_eq,and_true] at e
  obtain ⟨e1,e2,e3,e4,e5⟩:=e
  obtain ⟨x1,x2,x3,x4,x5⟩:=x
  obtain ⟨y1,y2,y3,y4,y5⟩:=y
  simp only at e1 e2 e3 e4 e5
  rw [e1,e2,e3,e4,e5]
 ·rw [zW hl] at h;cases h

theorem aX6 {a b:Bool}:cond a b false=true↔a=true∧b=true:=by cases a<;>cases b<;>simp

theorem bI4 {a b:den tPp} (h:aEy a b=true):a=b:=by
 unfold aEy at h
 simp only [aX6,beq_iff_eq] at h
 obtain ⟨e1,e2,e3,e4⟩:=h
 have e4:=bKa e4
 obtain ⟨x1,x2,x3,x4⟩:=a
 obtain ⟨y1,y2,y3,y4⟩:=b
 simp only at e1 e2 e3 e4
 rw [e1,e2,e3,e4]

theorem bLp {a b:lPp} (h:aP4 a b=true):a=b:=by
 unfold aP4 at h
 by_cases hl:a.length=b.length
 ·rw [zX hl,bY9,zY,bBl] at h
  exact aSf _ (fun x y e=>bI4 e) hl h
 ·rw [zW hl] at h;cases h

theorem bLz {a b:den tPk} (ha:gE a) (hb:gE b) (h:aBz a b=true):a=b:=by
 unfold aBz at h
 simp only [aX6,beq_iff_eq] at h
 obtain ⟨e1,e2,e3,e4,e5,e6,e7,e8,e9,e10⟩:=h
 have e4:=bLp e4
 have e10:=(bJd ha hb).1 e10
 obtain ⟨x1,x2,x3,x4,x5,x6,x7,x8,x9,x10⟩:=a
 obtain ⟨y1,y2,y3,y4,y5,y6,y7,y8,y9,y10⟩:=b
 simp only at e1 e2 e3 e4 e5 e6 e7 e8 e9 e10
 rw [e1,e2,e3,e4,e5,e6,e7,e8,e9,e10]

theorem eqI {a b:Int} (h:a=b):a=b:=h

theorem ltI {a b:Int} (h:a<b):a<b:=h

theorem leI {a b:Int} (h:a<=b):a<=b:=h


structure aAg (t:den tTo) (f:den tFl) (x:den tIb):Prop where
 val:gR f=true
 src:cM t f.1=true
 dst:cM t f.2.1=true
 xAS:x.1=f.2.1
 xFrom:x.2.1=f.1
 next:x.2.2.1=(x.2.2.2.length:Int)
 recv:x.2.2.2=f.2.2.2.2.1.take x.2.2.2.length
 len:x.2.2.2.length<=f.2.2.2.2.1.length
 ack:f.2.2.2.1<=(x.2.2.2.length:Int)
 paths: ∀ p∈f.2.2.2.2.2.1,aL7 p=some f.1∧aDw p=some f.2.1


def sN (w:den tNw) (p:den tPk):Prop:= ∀ (k:Nat) (f:den tFl) (x:den tIb),(aC w)[k]? =some f→(bO w)[k]? =some x→
 (p.1=(1:Int)→p.2.1=f.1→p.2.2.1=f.2.1→aL7 p.2.2.2.1=some f.1∧aDw p.2.2.2.1=some f.2.1∧ ∃ s:Nat,p.2.2.2.2.2.2.2.2.1=(s:Int)∧f.2.2.2.2.1[s]? =some p.2.2.2.2.2.2.2.2.2)∧
 (p.1=(2:Int)→p.2.1=f.2.1→p.2.2.1=f.1→p.2.2.2.2.2.2.2.2.1<x.2.2.1)

def bL3 (w:den tNw) (p:den tPk):Prop:=gX p=true→sN w p

end Go.Proofs.YtecighmpdcffcaaGreat
