/-
  Facts and plain laws: what the functions compute, in plain words. Conditions: as each says.
-/
import Derived.Test.YtnkjolpkcmgcaaaGreatQ0FnTop
open List renaming getElem?_eq_some_iff->cFz,mem_of_getElem?->cF9,map_cons->cGg,length_cons->cGv,length->cGd,mem_append->cF6,mem_singleton->cF5,mem_map->cF4,append_nil->cGq,length_nil->cHn,mem_cons_of_mem->cF7,mem_cons_self->cGb,length_set->cHm,mem_or_eq_of_mem_set->cI4,length_filter_le->cIn,getElem?_eq_getElem->cFx,getElem_mem->cHa,getElem?_cons_zero->cI7,mem_cons->cFy,pairwise_iff_getElem->cH1,foldl_cons->cIc,filter_cons->cH9,mem_iff_getElem?->cJg,mem_filter->cGc,length_append->cGh,length_singleton->cHf,pairwise_append->cJn,getElem?_set_self->cIo,getElem?_map->cHz,getElem?_set_ne->cI5,mem_of_mem_take->cHk,mem_of_mem_drop->cHq,not_mem_nil->cGn,take_append_drop->cHe,getElem?_set->cH3,all_eq_true->cGm,getElem?_take->cHd,Sublist->cIp,flatMap_cons->cI8,append_assoc->cGj,length_take->cG7,length_map->cGu,length_drop->cH7,nil_append->cGk,mem_flatMap->cG5,map_append->cHh
open Int renaming toNat_natCast->cF2,le_refl->cGx,eq_ofNat_of_zero_le->cGr,le_trans->cHb,lt_irrefl->cG2
open Nat renaming le_trans->cFv,le_refl->cF8,zero_le->cGe,succ_mul->cGo,zero_add->cGt,mul_le_mul_right->cG8,not_lt_zero->cI6
open Bool renaming false_eq_true->cF1,false_and->cGi,and_false->cHt,eq_iff_iff->cGl,and_self->cHw,and_eq_true->cFw,not_eq_true'->cGw,or_eq_true->cHi,not_true->cF0,or_self->cHj,not_false->cGa,false_or->cHy,or_true->cH4
open Sum renaming elim_inl->cG6,elim_inr->cIz,inl->cFu,inr->cFt
open Option renaming getD_some->cGy
open Array renaming length_toList->cI2
set_option linter.unusedVariables false
set_option linter.unusedSimpArgs false
set_option maxRecDepth 100000
namespace Go.Proofs.YtnkjolpkcmgcaaaGreat
open Go.Ab Go.V
theorem cAr{w:den tNw}{r:Int}{p:den tPk}(h:aCw w)(hbn:(aR w).length<=68719476736)(hbx:∀x∈aR w,tot tIb x<=1073741824)(hp:aC4 p)(hk:(p.1==1)=true):kT w r p=some (bB (qX w r p)):=by
 unfold kT kT.b qX ixb aL fT pj2 pj3 pj4 pj9 dT aS zz4 zz5 zz6 zz7 zz8 zz9;simp only[hk,zZ,bFf hbn,aA];rcases aLe (aR w) r p.2.1 with hf | ⟨k,x,hf,hx⟩
 .rw[show dS w.2.2.2.2.2.2.2.1 r p.2.1= -1 from hf];rfl
 .have hlt:=(cFz.1 hx).1;have hx0:w.2.2.2.2.2.2.2.1[k]? =some x:=hx;have hxm:=hbx x (cF9 hx);have hxs:SmB 4294967296 tIb x:=(bM hxm).mono (by decide);have hvs:SmB 4294967296 tPk p:=(bM hp.sz).mono (by decide);have hd1:decide ((k:Int)<(w.2.2.2.2.2.2.2.1.length:Int))=true:=zX (by have :k<w.2.2.2.2.2.2.2.1.length:=hlt;omega);have hd2:decide (k<w.2.2.2.2.2.2.2.1.length)=true:=zX hlt;have hba:jD w k=x:=by unfold jD;rw[hx];rfl
  rw[show dS w.2.2.2.2.2.2.2.1 r p.2.1=(k:Int) from hf,zW (show ¬ (k:Int)<0 by omega),zS (show ¬ (k:Int)<0 by omega),cF2,hba];have e1:iK (w.1,w.2.1,w.2.2.1,w.2.2.2.1,w.2.2.2.2.1,w.2.2.2.2.2.1,w.2.2.2.2.2.2.1,w.2.2.2.2.2.2.2.1.set k (cO x p),w.2.2.2.2.2.2.2.2) r 0 (jV (cO x p) p)=some (bB (proc0 (oQ w k (cO x p)) r 0 (jV (cO x p) p))):=by
   cases ca:aAl (cO x p) p with
   | true=>exact aV4 (aI3 h) (aTh hp) (aHa ca)
   | false=>exact aV4 (aI3 h) (aTh hp) (by unfold jV;rw[ca];rfl)
  simp only[zY,cU,hd1,hd2,zZ,hx0,aA,aP,bXx hxs hvs,bYm (x:=cO x p) (p:=p) (cFv (aKy hp.sz) (by decide)),bC,bT,bH,bI,bL,pkB,e1];cases aAl (cO x p) p<;>rfl
theorem bEs{w:den tNw}{r inn:Int}{p:den tPk}(h:aCw w)(hbn:(aR w).length<=68719476736)(hbx:∀x∈aR w,tot tIb x<=1073741824)(hz:tot tPk p<=536870912)(hb:gE p):eP w r inn p=some (bB (dM w r inn p)):=by
 have hp:aC4 p:=⟨by omega,hb⟩
 have hp2:tot tPt p.2.2.2.1<=1073741824:=aKy hp.sz;have hs:=hp.step (nT w) (aJ w) (aH w) r inn;have hkeep:=aBe w.1 r w.2.2.2.1 (dI w.1 w.2.2.2.2.1 r) inn p;have hval:=aDi (t:=w.1) (r:=r) (now:=w.2.2.2.1) (dead:=dI w.1 w.2.2.2.2.1 r) (inn:=inn) (p:=p);have hsev:=bMp (t:=w.1) (r:=r) (now:=w.2.2.2.1) (dead:=dI w.1 w.2.2.2.2.1 r) (inn:=inn) (p:=p);unfold eP eP.b aL yJ fT pj2 pj3 dT aS bD bR zz4 zz5 zz6 zz7 zz8 zz9;simp only[aP,bF9 h.links h.dead,bU0 h.as (cFv h.links (by decide)) (cFv hp.sz (by decide)) hp2,aA,bC,bT,bH,bI,bL];rw[show fwd w.1 r w.2.2.2.1 (dI w.1 w.2.2.2.2.1 r) inn p=aG (nT w) (aJ w) (aH w) r inn p from rfl]at hkeep hval hsev ⊢;unfold dM;generalize aG (nT w) (aJ w) (aH w) r inn p=v at hs hkeep hval hsev;have hback:(((fwS v).2.2.1,(fwS v).2.2.2.1,(fwS v).2.2.2.2.1,(fwS v).2.2.2.2.2.2.2.2.2.2.1,(fwS v).2.2.2.2.2.1,(fwS v).2.2.2.2.2.2.1,(fwS v).2.2.2.2.2.2.2.1,(fwS v).2.2.2.2.2.2.2.2.1,(fwS v).2.2.2.2.2.2.2.2.2.1,(fwS v).2.2.2.2.2.2.2.2.2.2.2):den tPk)=v.2.2.1:=rfl;rw[show (fwS v).1=v.1 from rfl,show (fwS v).2.1=v.2.1 from rfl];cases c1:v.1==1
 .cases c0:v.1==0
  .cases c7:v.1==7
   .simp only[zY,aA,cF1,zU,cG6,cGi];rfl
   .cases ck:p.1==1
    .simp only[zZ,zY,aA,cF1,zU,cG6,cHt];rfl
    .obtain⟨hz0,hd0⟩:=hsev (by simpa using c7);have hn:aC4 (cB r (aJ w) v.2.2.2 p):=bGm hz;have ht1:tot tPt (qA p)<=34359738368:=cFv (aEq p) (cFv hp2 (by decide));have hlen:decide (((fD (qA p)).length:Int)>1)=decide ((fD (qA p)).length>1):=by rw[cGl];simp only[zR,gt_iff_lt];omega
     have e1:iK w r 0 ((pkR (cB r w.2.2.2.1 v.2.2.2 p)).1,(pkR (cB r w.2.2.2.1 v.2.2.2 p)).2.1,(pkR (cB r w.2.2.2.1 v.2.2.2 p)).2.2.1,(pkR (cB r w.2.2.2.1 v.2.2.2 p)).2.2.2.2.2.2.2.2.1,(pkR (cB r w.2.2.2.1 v.2.2.2 p)).2.2.2.1,(pkR (cB r w.2.2.2.1 v.2.2.2 p)).2.2.2.2.1,(pkR (cB r w.2.2.2.1 v.2.2.2 p)).2.2.2.2.2.1,(pkR (cB r w.2.2.2.1 v.2.2.2 p)).2.2.2.2.2.2.1,(pkR (cB r w.2.2.2.1 v.2.2.2 p)).2.2.2.2.2.2.2.1,(pkR (cB r w.2.2.2.1 v.2.2.2 p)).2.2.2.2.2.2.2.2.2)=some (bB (proc0 w r 0 (cB r (aJ w) v.2.2.2 p))):=aV4 h hn rfl;have e2:oR w r ((pkR (cB r w.2.2.2.1 v.2.2.2 p)).1,(pkR (cB r w.2.2.2.1 v.2.2.2 p)).2.1,(pkR (cB r w.2.2.2.1 v.2.2.2 p)).2.2.1,(pkR (cB r w.2.2.2.1 v.2.2.2 p)).2.2.2.2.2.2.2.2.1,(pkR (cB r w.2.2.2.1 v.2.2.2 p)).2.2.2.1,(pkR (cB r w.2.2.2.1 v.2.2.2 p)).2.2.2.2.1,(pkR (cB r w.2.2.2.1 v.2.2.2 p)).2.2.2.2.2.1,(pkR (cB r w.2.2.2.1 v.2.2.2 p)).2.2.2.2.2.2.1,(pkR (cB r w.2.2.2.1 v.2.2.2 p)).2.2.2.2.2.2.2.1,(pkR (cB r w.2.2.2.1 v.2.2.2 p)).2.2.2.2.2.2.2.2.2)=some (bB (tI w r (cB r (aJ w) v.2.2.2 p))):=aVz rfl h.flows h.flowsN hn.sz hn.by_;simp only[zZ,zY,aA,cF1,zU,cHw,zV,cB9 (t:=w.1) (now:=w.2.2.2.1) (p:=p) (cFv hp.sz (by decide)) hz0,<- hd0,bXe (t:=w.1) (r:=r) (now:=w.2.2.2.1) (d:=v.2.2.2) (cFv hp.sz (by decide)),bA0 (fV (p:=p) (by omega)),bC,bT,bH,bI,bL,aHt ht1,hlen,e1,e2];unfold tQ;cases hd:decide ((fD (qA p)).length>1)
     .rw[zS (of_decide_eq_false hd)];rfl
     .rw[zT (of_decide_eq_true hd)];rfl
  .unfold gU;rw[hkeep.2.2.1];simp only[zZ,zY,zV,aIa (t:=w.1) (cFv h.links (by decide)),bGq h.res h.use,aA];cases ct:(oC w.2.2.1 p.2.2.2.2.2.2.2.1 r v.2.1 w.2.2.2.1).2.1
   .simp only[zY,aA,cGi,cF1,zU,cG6];rfl
   .by_cases hl:(aI w).length<150
    .have h150:decide ((w.2.2.2.2.2.1.length:Int)<150)=true:=zX (by have :w.2.2.2.2.2.1.length<150:=hl;omega);rw[zX hl];simp only[zZ,aA,h150,cHw,zV,aE (b:=128) (n:=w.2.2.2.2.2.1.length) (m:=1) (by decide) (show (aI w).length+1<=_ by omega),cIz];rfl
    .have h150:decide ((w.2.2.2.2.2.1.length:Int)<150)=false:=zW (by have : ¬ w.2.2.2.2.2.1.length<150:=hl;omega);rw[zW hl];simp only[zZ,zY,aA,h150,cHt,cF1,zU,cG6];rfl
 .have c0:(v.1==0)=false:=by
   have :v.1=1:=by simpa using c1
   rw[this];rfl
  have hv:dD p=true:=hval (by rw[show v.1=1 from by simpa using c1];rfl);rw[hback];cases ck:p.1==1 with
  | true=>
   rw[cAr h hbn hbx hs (by rw[hkeep.1];exact ck)];simp only[c0,zZ,aA,cF1,zU,zV,cIz]
  | false=>
   have hq1:(v.2.2.1.1==1)=false:=by rw[hkeep.1];exact ck
   have hq2:(v.2.2.1.1==2)=false->(v.2.2.1.1==3)=true:=by rw[hkeep.1];exact kinds hv ck
   rw[cBp h hs hq1 hq2];simp only[c0,zZ,aA,cF1,zU,zV,cIz]
theorem gB(w:den tNw):tot tNw w=(tot (.sl tAS) (nT w).1+tot (.sl tLk) (nT w).2)+((tot (.sl tSg) (nK w).1+tot (.sl tSg) (nK w).2)+((0+(tot (.sl tRs) (nG w).2.1+tot (.sl tUs) (nG w).2.2))+(0+(tot (.sl ti) (aH w)+(tot (.sl tFy) (aI w)+(tot (.sl tFl) (aB w)+(tot (.sl tIb) (aR w)+0))))))):=rfl
theorem aL1{w:den tNw}(h:tot tNw w<=1073741824):aCw w where
 as:=by have :=gB w;have :=dX (t:=tAS) (nT w).1;omega
 links:=by have :=gB w;have :=dX (t:=tLk) (nT w).2;omega
 dead:=by have :=gB w;have :=dX (t:=ti) (aH w);omega
 res:=by have :=gB w;have :=dX (t:=tRs) (nG w).2.1;omega
 use:=by have :=gB w;have :=dX (t:=tUs) (nG w).2.2;omega
 flowsN:=by have :=gB w;have :=dX (t:=tFl) (aB w);omega
 flows:=λf hf=>by have :=gB w;have :=vC (t:=tFl) hf;omega
theorem cBt{w:den tNw}(h:tot tNw w<=1073741824):(aR w).length<=68719476736/\ ∀x∈aR w,tot tIb x<=1073741824:=
 ⟨by have :=gB w;have :=dX (t:=tIb) (aR w);omega,λx hx=>by have :=gB w;have :=vC (t:=tIb) hx;omega⟩
theorem aFw(w:den tNw):tot tNw (wP w)=tot tNw w:=rfl
theorem bGd(l:lUs):tot (.sl tUs) l=l.length:=kS rfl
theorem bPf(g:den tSc)(id s d now:Int):tot (.sl tRs) (oC g id s d now).2.2.1=tot (.sl tRs) g.2.1/\tot (.sl tUs) (oC g id s d now).2.2.2<=tot (.sl tUs) g.2.2+1:=by
 have m1:=aYc g.2.2 id s d;have m2:=aYc g.2.2 0 s d;rw[bGd,bGd];unfold oC;split
 .exact⟨rfl,by simpa using m1⟩
 .split
  .exact⟨rfl,by simpa using m2⟩
  .exact⟨rfl,by simp⟩
theorem aYe(w:den tNw)(r eg:Int)(p:den tPk):tot tNw (gU w r eg p)<=tot tNw w+(2+tot tPk p):=by
 unfold gU;split
 .obtain⟨e1,e2⟩:=bPf (nG w) p.2.2.2.2.2.2.2.1 r eg (aJ w);rw[gB,gB w];simp only[nT,nK,nG,aH,aI,aB,aR]at e1 e2 ⊢;rw[vB,aHp];have e3:tot tFy ((remote w.1 r eg).1,(remote w.1 r eg).2,p)=tot tPk p:=by simp[oO,qC]
  rw[e3];omega
 .rw[aFw];omega
theorem bPs(f:den tFl)(p:den tPk):tot tFl (kG f p)=tot tFl f:=by
 unfold kG;split<;>rfl
theorem bMl(r:Int)(p:den tPk)(f:den tFl):tot tFl (cX r p f)<=tot tFl f+1:=by
 unfold cX;split
 .split
  .rw[bPs];omega
  .exact bMu f p
 .omega
theorem bFg(r:Int)(p:den tPk):∀l:lFl,tot (.sl tFl) (l.map (cX r p))<=tot (.sl tFl) l+l.length
 | []=>by simp
 | f::l=>by
  have h1:=bMl r p f;have h2:=bFg r p l;rw[cGg,kW,kW,cGv];omega
theorem aIh(w:den tNw)(l:lFl):tot tNw (bS w l)=(tot (.sl tAS) (nT w).1+tot (.sl tLk) (nT w).2)+((tot (.sl tSg) (nK w).1+tot (.sl tSg) (nK w).2)+((0+(tot (.sl tRs) (nG w).2.1+tot (.sl tUs) (nG w).2.2))+(0+(tot (.sl ti) (aH w)+(tot (.sl tFy) (aI w)+(tot (.sl tFl) l+(tot (.sl tIb) (aR w)+0))))))):=rfl
theorem bKt(w:den tNw)(k:Nat)(x:den tIb):tot tNw (oQ w k x)=(tot (.sl tAS) (nT w).1+tot (.sl tLk) (nT w).2)+((tot (.sl tSg) (nK w).1+tot (.sl tSg) (nK w).2)+((0+(tot (.sl tRs) (nG w).2.1+tot (.sl tUs) (nG w).2.2))+(0+(tot (.sl ti) (aH w)+(tot (.sl tFy) (aI w)+(tot (.sl tFl) (aB w)+(tot (.sl tIb) ((aR w).set k x)+0))))))):=rfl
theorem aNq(w:den tNw)(r:Int)(p:den tPk):tot tNw (tI w r p)<=tot tNw w+(aB w).length:=by
 have h:=bFg r p (aB w);unfold tI;rw[aIh,gB w];omega
theorem aXn(w:den tNw)(r inn:Int)(p:den tPk):tot tNw (proc0 w r inn p)<=tot tNw w+(2+tot tPk p+(aB w).length):=by
 unfold proc0;split
 .have :=aYe w r (aG (nT w) (aJ w) (aH w) r inn p).2.1 (aG (nT w) (aJ w) (aH w) r inn p).2.2.1;have e:tot tPk (aG (nT w) (aJ w) (aH w) r inn p).2.2.1=tot tPk p:=aKv _ _ _ _ _ _;omega
 .split
  .have :=aNq w r (aG (nT w) (aJ w) (aH w) r inn p).2.2.1;omega
  .rw[aFw];omega
theorem aUp{t:Ty}{l:List (den t)}{k:Nat}{x y:den t}(h:l[k]? =some x):tot (.sl t) (l.set k y)+tot t x=tot (.sl t) l+tot t y:=by
 induction l generalizing k with
 | nil=>cases h
 | cons z l ih=>
  cases k with
  | zero=>
   have :z=x:=by simpa using h
   subst this;rw[List.set_cons_zero,kW,kW];omega
  | succ k=>
   have :=ih (k:=k) (by simpa using h);rw[List.set_cons_succ,kW,kW];omega
theorem bPd(x:den tIb)(p:den tPk):tot tIb (cO x p)<=tot tIb x+(1+tot tPk p):=by
 have h1:=bNk x p;have h2:=(aPl (p:=p) (cF8 _)).2;have e:∀y:den tIb,tot tIb y=tot (.sl tMs) y.2.2.2:=λy=>by simp[oO,qC]
 rw[e,e];omega
theorem bOt(w:den tNw)(r:Int)(p:den tPk):tot tNw (qX w r p)<=tot tNw w+(3+2 * tot tPk p+(aB w).length):=by
 unfold qX;split
 .omega
 .rcases aLe (aR w) r p.2.1 with hf | ⟨k,x,hf,hx⟩
  .rename_i hc;rw[hf]at hc;exact absurd (by decide) hc
  .have hba:jD w k=x:=by unfold jD;rw[hx];rfl
   rw[hf,cF2,hba];have h1:=aUp (t:=tIb) (y:=cO x p) hx;have h2:=bPd x p;have h3:tot tNw (oQ w k (cO x p))<=tot tNw w+(1+tot tPk p):=by
    rw[bKt,gB w];omega
   split
   .have h4:=aXn (oQ w k (cO x p)) r 0 (jV (cO x p) p);have h5:=aWq (cO x p) p;have h6:(aB (oQ w k (cO x p))).length=(aB w).length:=rfl;omega
   .omega
theorem bLq(w:den tNw)(r d:Int)(p:den tPk):tot tNw (tQ w r d p)<=tot tNw w+(20+tot tPk p+(aB w).length):=by
 unfold tQ;rw[aFw];split
 .have h1:=aXn w r 0 (cB r (aJ w) d p);have h2:=aXl r (aJ w) d p;omega
 .have :=aNq w r (cB r (aJ w) d p);omega
theorem bLt(w:den tNw)(r inn:Int)(p:den tPk):tot tNw (dM w r inn p)<=tot tNw w+(20+2 * tot tPk p+(aB w).length):=by
 have e:tot tPk (aG (nT w) (aJ w) (aH w) r inn p).2.2.1=tot tPk p:=aKv _ _ _ _ _ _;unfold dM;split
 .have :=aYe w r (aG (nT w) (aJ w) (aH w) r inn p).2.1 (aG (nT w) (aJ w) (aH w) r inn p).2.2.1;omega
 .split
  .split
   .have :=bOt w r (aG (nT w) (aJ w) (aH w) r inn p).2.2.1;omega
   .have :=aNq w r (aG (nT w) (aJ w) (aH w) r inn p).2.2.1;omega
  .split
   .have :=bLq w r (aG (nT w) (aJ w) (aH w) r inn p).2.2.2 p;omega
   .rw[aFw];omega
theorem bOg{w:den tNw}(h:tot tNw w<=68719476736):SmB 68719476736 tNw w:=bM h
def qU(w:den tNw):q26:=
 ((nT w).1,(nT w).2,(nK w).1,(nK w).2,(nG w).1,(nG w).2.1,(nG w).2.2,aJ w,aH w,dR w,aI w,aB w,aR w)
theorem bOd{p:den tPp}(h:aB4 p=true):tot tPp p<=8:=by
 unfold aB4 aGt at h;simp only[cFw,zR]at h;have e:tot tPp p=tot (.sl bV) p.2.2.2:=by simp[oO,qC]
 rw[e,kS rfl];exact h.2.2.2.1
theorem bTs{p:den tPt}(h:aH4 p=true):tot tPt p<=27:=by
 unfold aH4 at h;rw[cFw,zR]at h;have key:∀l:lPp,l.all aB4=true->tot (.sl tPp) l<=9 * l.length:=by
  intro l
  induction l with
  | nil=>intro _;exact cF8 _
  | cons x l ih=>
   intro hl;rw[List.all_cons,cFw]at hl;have h1:=bOd hl.1;have h2:=ih hl.2;rw[kW,cGv];omega
 have :=key p h.2;have h1:cGd p<=3:=h.1;show tot (.sl tPp) p<=27;omega
theorem aGz{p:den tPk}(h:dD p=true):tot tPk p<=67:=by
 have h':=h;unfold dD at h';simp only[cFw,zR]at h';have h1:=bTs h'.2.1;have h2:p.2.2.2.2.2.2.2.2.2.length<=40:=by have :=h'.2.2.2.2.2.2.2.2.2;omega
 have e:tot tPk p=tot tPt p.2.2.2.1+tot (.sl tb) p.2.2.2.2.2.2.2.2.2:=by simp[oO,qC]
 rw[e,kS (t:=tb) rfl];omega
theorem aWk{w:den tNw}{r inn:Int}{p:den tPk}(h:dD p=false):dM w r inn p=wP w:=by
 have hv:aG (nT w) (aJ w) (aH w) r inn p=(2,0,p,0):=by
  unfold aG fwd;rw[h];rfl
 unfold dM;rw[hv];rfl
theorem aT8(w:den tNw)(r inn:Int)(p:den tPk):tot tNw (dM w r inn p)<=tot tNw w+(160+(aB w).length):=by
 cases h:dD p with
 | true=>
  have h1:=bLt w r inn p;have h2:=aGz h;omega
 | false=>rw[aWk h,aFw];omega
structure sW (w:den tNw):Prop where
 fly:∀x∈aI w,gE x.2.2
 msg:∀f∈aB w,∀m∈f.2.2.2.2.1,tY m
theorem aTf{w:den tNw}(h:sW w){r eg:Int}{p:den tPk}(hp:gE p):sW (gU w r eg p)/\(aB (gU w r eg p)).length=(aB w).length:=by
 unfold gU;split
 .refine⟨⟨λx hx=> ?_,h.msg⟩,rfl⟩;rcases cF6.1 (show x∈aI w++_ from hx) with hx | hx
  .exact h.fly x hx
  .have :x=_:=cF5.1 hx;subst this;exact hp
 .exact⟨⟨h.fly,h.msg⟩,rfl⟩
theorem bL7(r:Int)(p:den tPk)(f:den tFl):(cX r p f).2.2.2.2.1=f.2.2.2.2.1:=by
 unfold cX;split
 .split
  .exact (bDo f p).1
  .unfold iY;cases p.1==3&&(qW p.2.2.2.2.2.2.2.2.2).2.2.2<;>rfl
 .rfl
theorem aMy{w:den tNw}(h:sW w)(r:Int)(p:den tPk):sW (tI w r p)/\(aB (tI w r p)).length=(aB w).length:=by
 refine⟨⟨h.fly,λf hf m hm=> ?_⟩,by show ((aB w).map _).length=_;simp⟩;obtain⟨g,hg,rfl⟩:=cF4.1 (show f∈(aB w).map (cX r p) from hf);rw[bL7]at hm;exact h.msg g hg m hm
theorem aGw{w:den tNw}(h:sW w):sW (wP w)/\(aB (wP w)).length=(aB w).length:=⟨⟨h.fly,h.msg⟩,rfl⟩
theorem aQb{w:den tNw}(h:sW w)(k:Nat)(x:den tIb):sW (oQ w k x)/\(aB (oQ w k x)).length=(aB w).length:=⟨⟨h.fly,h.msg⟩,rfl⟩
theorem aQm{t:den tTo}{now:Int}{dead:List Int}{r inn:Int}{p:den tPk}(hp:gE p):gE (aG t now dead r inn p).2.2.1:=λx hx=>hp x (by unfold aG at hx;rwa [(aBe t r now _ inn p).2.2.2]at hx)
theorem aSf{w:den tNw}(h:sW w){r inn:Int}{p:den tPk}(hp:gE p):sW (proc0 w r inn p)/\(aB (proc0 w r inn p)).length=(aB w).length:=by
 unfold proc0;split
 .exact aTf h (aQm hp)
 .split
  .exact aMy h _ _
  .exact aGw h
theorem aK6{w:den tNw}(h:sW w){r inn:Int}{p:den tPk}(hp:gE p):sW (dM w r inn p)/\(aB (dM w r inn p)).length=(aB w).length:=by
 unfold dM;split
 .exact aTf h (aQm hp)
 .split
  .split
   .unfold qX;split
    .exact⟨h,rfl⟩
    .split
     .obtain⟨h1,h2⟩:=aQb h (dS (aR w) r (aG (nT w) (aJ w) (aH w) r inn p).2.2.1.2.1).toNat (cO (jD w (dS (aR w) r (aG (nT w) (aJ w) (aH w) r inn p).2.2.1.2.1).toNat) (aG (nT w) (aJ w) (aH w) r inn p).2.2.1);obtain⟨h3,h4⟩:=aSf h1 (r:=r) (inn:=0) (p:=jV (cO (jD w (dS (aR w) r (aG (nT w) (aJ w) (aH w) r inn p).2.2.1.2.1).toNat) (aG (nT w) (aJ w) (aH w) r inn p).2.2.1) (aG (nT w) (aJ w) (aH w) r inn p).2.2.1) (by
       unfold jV;split
       .exact λx hx=>by cases hx
       .exact λx hx=>by cases hx)
      exact⟨h3,h4.trans h2⟩
     .exact aQb h _ _
   .exact aMy h _ _
  .split
   .unfold tQ;split
    .obtain⟨h1,h2⟩:=aSf h (r:=r) (inn:=0) (p:=cB r (aJ w) (aG (nT w) (aJ w) (aH w) r inn p).2.2.2 p) (aS2 _);obtain⟨h3,h4⟩:=aGw h1;exact⟨h3,h4.trans h2⟩
    .obtain⟨h1,h2⟩:=aMy h r (cB r (aJ w) (aG (nT w) (aJ w) (aH w) r inn p).2.2.2 p);obtain⟨h3,h4⟩:=aGw h1;exact⟨h3,h4.trans h2⟩
   .exact aGw h
def cC(w:den tNw)(l:lFy):den tNw:=(nT w,nK w,nG w,aJ w,aH w,l,aB w,aR w,dR w)
def lA(x:den tFy)(w:den tNw):q28:=
 (x.1,x.2.1,x.2.2.1,x.2.2.2.1,x.2.2.2.2.1,x.2.2.2.2.2.1,x.2.2.2.2.2.2.1,x.2.2.2.2.2.2.2.1,x.2.2.2.2.2.2.2.2.1,x.2.2.2.2.2.2.2.2.2.1,x.2.2.2.2.2.2.2.2.2.2.1,x.2.2.2.2.2.2.2.2.2.2.2,bB w)
theorem cBc{w:den tNw}{x:den tFy}(hx:(aI w)[0]? =some x)(hl:(aI w).length<=1073741824):fS w 0=some (lA x (cC w ((aI w).drop 1))):=by
 have hlt:0<(aI w).length:=(cFz.1 hx).1;have hx:w.2.2.2.2.2.1[(0:Int).toNat]? =some x:=hx;have h1:decide ((0:Int)<(w.2.2.2.2.2.1.length:Int))=true:=zX (by have :0<w.2.2.2.2.2.1.length:=hlt;omega);have e1:wr ((0:Int)+1)=((1:Nat):Int):=rfl;have h2:cJ ((1:Nat):Int) (w.2.2.2.2.2.1.length:Int) (w.2.2.2.2.2.1.length:Int)=true:=aBw (show 1<=w.2.2.2.2.2.1.length from hlt);have h3:cJ (0:Int) (0:Int) (w.2.2.2.2.2.1.length:Int)=true:=aHh (k:=0) (cGe _);have h4:cut w.2.2.2.2.2.1 (0:Int) (0:Int)=[]:=by simp[cut]
 have hl:w.2.2.2.2.2.1.length<=1073741824:=hl;unfold fS ixb aL aS bD zz4 zz5 zz6 zz7 zz8 zz9;simp only[h1,hx,aA,zZ,e1,h2,h3,h4,aC7,cGq,cHn,aE (b:=128) (n:=0) (m:=0) (by decide) (by decide),aE (b:=128) (n:=0) (m:=(w.2.2.2.2.2.1.drop 1).length) (by decide) (by simp;omega),zX (show (0:Int)<=0 from cGx _)];rfl
theorem aL3(w:den tNw)(l:lFy):tot tNw (cC w l)+tot (.sl tFy) (aI w)=tot tNw w+tot (.sl tFy) l:=by
 have e:tot tNw (cC w l)=(tot (.sl tAS) (nT w).1+tot (.sl tLk) (nT w).2)+((tot (.sl tSg) (nK w).1+tot (.sl tSg) (nK w).2)+((0+(tot (.sl tRs) (nG w).2.1+tot (.sl tUs) (nG w).2.2))+(0+(tot (.sl ti) (aH w)+(tot (.sl tFy) l+(tot (.sl tFl) (aB w)+(tot (.sl tIb) (aR w)+0))))))):=rfl;rw[e,gB w];omega
def outW(w:den tNw):den tNw:=match aI w with
 | []=>w
 | x::l=>dM (cC w l) x.1 x.2.1 x.2.2
def delW:Nat->den tNw->den tNw
 | 0,w=>w
 | n+1,w=>match aI w with
  | []=>w
  | _::_=>delW n (outW w)
structure eV (B F:Nat) (w:den tNw):Prop where
 tot:Go.V.tot tNw w<=B
 flows:(aB w).length<=F
 bytes:sW w
theorem eV.mono{B C F:Nat}{w:den tNw}(h:eV B F w)(hb:B<=C):eV C F w:=⟨cFv h.tot hb,h.flows,h.bytes⟩
theorem bX6{w:den tNw}{x:den tFy}{l:lFy}(h:aI w=x::l):tot tNw (cC w l)+(1+tot tPk x.2.2)=tot tNw w:=by
 have h1:=aL3 w l;rw[h,kW]at h1;have e:tot tFy x=tot tPk x.2.2:=by simp[oO,qC]
 rw[e]at h1;omega
theorem aRy{B F:Nat}{w:den tNw}{x:den tFy}{l:lFy}(hk:eV B F w)(h:aI w=x::l):eV B F (cC w l)/\tot tPk x.2.2<=B/\gE x.2.2:=by
 have h1:=bX6 h;have h2:=hk.tot;refine⟨⟨by omega,hk.flows,⟨λy hy=>hk.bytes.fly y (by rw[h];exact cF7 _ hy),hk.bytes.msg⟩⟩,by omega,hk.bytes.fly x (by rw[h];exact cGb ..)⟩
theorem aMh{B F:Nat}{w:den tNw}(hk:eV B F w){r inn:Int}{p:den tPk}(hp:gE p):eV (B+(160+F)) F (dM w r inn p):=by
 obtain⟨h1,h2⟩:=aK6 hk.bytes (r:=r) (inn:=inn) hp;have h3:=aT8 w r inn p;have h4:=hk.tot;have h5:=hk.flows;exact⟨by omega,by omega,h1⟩
theorem aW6{B F:Nat}{w:den tNw}(hk:eV B F w):eV (B+(160+F)) F (outW w):=by
 unfold outW;split
 .exact hk.mono (by omega)
 .rename_i x l h;obtain⟨h1,h2,h3⟩:=aRy hk h;exact aMh h1 h3
theorem aW0{F:Nat}:∀(n:Nat) {B:Nat} {w:den tNw},eV B F w->eV (B+n * (160+F)) F (delW n w)
 | 0,B,w,hk=>hk.mono (by omega)
 | n+1,B,w,hk=>by
  unfold delW;split
  .exact hk.mono (by omega)
  .have :=aW0 n (aW6 hk);refine this.mono ?_;rw[cGo];omega
theorem bTc{F:Nat}{S R:Type}(enc:Nat->den tNw->S)(out:den tNw->R)(N:Nat){step:S->Option (S⊕R)}
  (H1:∀(k:Nat) (w:den tNw) (x:den tFy) (l:lFy),k<N->aI w=x::l->eV 536870912 F w->step (enc k w)=some (.inl (enc (k+1) (outW w))))
  (H2:∀(k:Nat) (w:den tNw),(k=N\/aI w=[])->step (enc k w)=some (.inr (out w))):
  ∀(m k B:Nat) (w:den tNw),k+m=N->eV B F w->B+m * (160+F)<=536870912->aC step (enc k w)=some (out (delW m w)):=by
 intro m
 induction m with
 | zero=>intro k B w hk hw hB;exact bA (H2 k w (.inl (by omega)))
 | succ m ih=>
  intro k B w hk hw hB;unfold delW;split
  .rename_i h;exact bA (H2 k w (.inr h))
  .rename_i x l h;rw[cGo]at hB;rw[cQ (H1 k w x l (by omega) h (hw.mono (by omega)))];exact ih (k+1) _ _ (by omega) (aW6 hw) (by omega)
theorem aFd{B F:Nat}{w:den tNw}(h:eV B F w)(hB:B<=1073741824):aCw w/\(aR w).length<=68719476736/\ ∀x∈aR w,tot tIb x<=1073741824:=
 ⟨aL1 (cFv h.tot hB),cBt (cFv h.tot hB)⟩
theorem aV2{B F:Nat}{w:den tNw}(h:eV B F w)(hB:B<=1073741824):(aI w).length<=1073741824:=by
 have :=gB w;have :=dX (t:=tFy) (aI w);have :=h.tot;omega
theorem cD3{F:Nat}{w:den tNw}{x:den tFy}{l:lFy}(h:aI w=x::l)(hk:eV 536870912 F w):fS (((bB w).2.2.2.1,(bB w).2.2.2.2.1),((bB w).2.2.2.2.2.1,(bB w).2.2.2.2.2.2.1),((bB w).2.2.2.2.2.2.2.1,(bB w).2.2.2.2.2.2.2.2.1,(bB w).2.2.2.2.2.2.2.2.2.1),(bB w).2.2.2.2.2.2.2.2.2.2.1,(bB w).2.2.2.2.2.2.2.2.2.2.2.1,(bB w).1,(bB w).2.1,(bB w).2.2.1,(bB w).2.2.2.2.2.2.2.2.2.2.2.2) 0=some (lA x (cC w l))/\bP (((lA x (cC w l)).2.2.2.2.2.2.2.2.2.2.2.2.2.2.2.1,(lA x (cC w l)).2.2.2.2.2.2.2.2.2.2.2.2.2.2.2.2.1),((lA x (cC w l)).2.2.2.2.2.2.2.2.2.2.2.2.2.2.2.2.2.1,(lA x (cC w l)).2.2.2.2.2.2.2.2.2.2.2.2.2.2.2.2.2.2.1),((lA x (cC w l)).2.2.2.2.2.2.2.2.2.2.2.2.2.2.2.2.2.2.2.1,(lA x (cC w l)).2.2.2.2.2.2.2.2.2.2.2.2.2.2.2.2.2.2.2.2.1,(lA x (cC w l)).2.2.2.2.2.2.2.2.2.2.2.2.2.2.2.2.2.2.2.2.2.1),(lA x (cC w l)).2.2.2.2.2.2.2.2.2.2.2.2.2.2.2.2.2.2.2.2.2.2.1,(lA x (cC w l)).2.2.2.2.2.2.2.2.2.2.2.2.2.2.2.2.2.2.2.2.2.2.2.1,(lA x (cC w l)).2.2.2.2.2.2.2.2.2.2.2.2.1,(lA x (cC w l)).2.2.2.2.2.2.2.2.2.2.2.2.2.1,(lA x (cC w l)).2.2.2.2.2.2.2.2.2.2.2.2.2.2.1,(lA x (cC w l)).2.2.2.2.2.2.2.2.2.2.2.2.2.2.2.2.2.2.2.2.2.2.2.2) (lA x (cC w l)).1 (lA x (cC w l)).2.1 ((lA x (cC w l)).2.2.1,(lA x (cC w l)).2.2.2.1,(lA x (cC w l)).2.2.2.2.1,(lA x (cC w l)).2.2.2.2.2.1,(lA x (cC w l)).2.2.2.2.2.2.1,(lA x (cC w l)).2.2.2.2.2.2.2.1,(lA x (cC w l)).2.2.2.2.2.2.2.2.1,(lA x (cC w l)).2.2.2.2.2.2.2.2.2.1,(lA x (cC w l)).2.2.2.2.2.2.2.2.2.2.1,(lA x (cC w l)).2.2.2.2.2.2.2.2.2.2.2.1)=some (bB (outW w)):=by
 have hx:(aI w)[0]? =some x:=by rw[h];rfl
 have hd:(aI w).drop 1=l:=by rw[h];rfl
 obtain⟨k1,k2,k3⟩:=aRy hk h;obtain⟨n1,n2,n3⟩:=aFd k1 (by decide);refine⟨?_,?_⟩
 .have :=cBc (w:=w) hx (aV2 hk (by decide));rw[hd]at this;exact this
 .have e:outW w=dM (cC w l) x.1 x.2.1 x.2.2:=by unfold outW;rw[h]
  rw[e];exact aVe (w:=cC w l) n1 n2 n3 k2 k3
theorem cEf{F:Nat}{w:den tNw}{n:Int}{B:Nat}(h0:0<=n)(hn:n<=1000000)(hk:eV B F w)(hB:B+n.toNat * (160+F)<=536870912):iG w n=some (bB (delW n.toNat w)):=by
 unfold iG fT aS bD bR eC kX tD wC aA1 aCk aCi aGp aJx aJ3 aJy aN5 zz4 zz5 zz6 zz7 zz8 zz9;refine bTc (F:=F) (λk w=>((k:Int),bB w)) bB n.toNat (λk w x l hk' hx hw=> ?_) (λk w hk'=> ?_) n.toNat 0 B w (cGt _) hk hB
 .obtain⟨e1,e2⟩:=cD3 hx hw;have hd:decide ((k:Int)<n)=true:=zX (by omega);have hp:decide (((bB w).1.length:Int)>0)=true:=by rw[show (bB w).1=aI w from rfl,hx];simp
  have hwr:wr ((k:Int)+1)=((k+1:Nat):Int):=(wri (by omega) (by omega)).trans (by omega);simp only[hd,hp,zZ,aA,e1,e2,hwr]
 .rcases hk' with rfl | h
  .have hd:decide (((n.toNat:Nat):Int)<n)=false:=zW (by omega);simp only[hd,zY,aA]
  .have hp:decide (((bB w).1.length:Int)>0)=false:=by rw[show (bB w).1=aI w from rfl,h];rfl
   simp only[hp,aA];cases decide ((k:Int)<n)<;>rfl
theorem bMm(f:den tFl):(aD f).1.2.2.2.2.1=f.2.2.2.2.1:=by
 unfold aD
 repeat' split
 all_goals rfl
theorem bDl{f:den tFl}(h:∀m∈f.2.2.2.2.1,tY m):gE (mV f):=by
 unfold mV;split
 .intro x hx;have hx:x∈(f.2.2.2.2.1[f.2.2.2.1.toNat]?).getD []:=hx;cases hm:f.2.2.2.2.1[f.2.2.2.1.toNat]? with
  | none=>rw[hm]at hx;cases hx
  | some m=>rw[hm]at hx;exact h m (cF9 hm) x hx
 .intro x hx;cases hx
theorem bD8{f:den tFl}(h:∀m∈f.2.2.2.2.1,tY m):gE (aD f).2.1:=by
 unfold aD
 repeat' split
 all_goals first
  | exact bDl h
  | (intro x hx;cases hx)
def stepT(k:Nat)(w:den tNw):den tNw:=match (aB w)[k]? with
 | some f=>if (aD f).2.2 then dM (bS w ((aB w).set k (aD f).1)) (aD f).1.1 0 (aD f).2.1 else bS w ((aB w).set k (aD f).1)
 | none=>w
def tickL:Nat->Nat->den tNw->den tNw
 | _,0,w=>w
 | k,n+1,w=>tickL (k+1) n (stepT k w)
def tick0(w:den tNw):den tNw:=(nT w,nK w,((nG w).1,vJ (nG w).2.1 (wr (aJ w+1)),[]),wr (aJ w+1),aH w,aI w,aB w,aR w,dR w)
def cZ(w:den tNw):den tNw:=if aJ w>=1000000 then w else tickL 0 (aB w).length (tick0 w)
theorem aN4{B F:Nat}{w:den tNw}{k:Nat}{f:den tFl}(hk:eV B F w)(hf:(aB w)[k]? =some f):eV B F (bS w ((aB w).set k (aD f).1))/\tot tPk (aD f).2.1<=B/\gE (aD f).2.1:=by
 have hm:=cF9 hf;have h1:=aUp (t:=tFl) (y:=(aD f).1) hf;have h2:=(aW1 f).1;have h3:=(aW1 f).2;have h4:=vC (t:=tFl) hm;have h5:=aIh w ((aB w).set k (aD f).1);have h6:=gB w;have h7:=hk.tot;refine⟨⟨by omega,?_,⟨hk.bytes.fly,λg hg m hmm=> ?_⟩⟩,by omega,bD8 (hk.bytes.msg f hm)⟩
 .show ((aB w).set k _).length<=F;rw[cHm];exact hk.flows
 .rcases cI4 (show g∈(aB w).set k (aD f).1 from hg) with hg | rfl
  .exact hk.bytes.msg g hg m hmm
  .rw[bMm]at hmm;exact hk.bytes.msg f hm m hmm
theorem aSu{B F:Nat}{w:den tNw}(k:Nat)(hk:eV B F w):eV (B+(160+F)) F (stepT k w)/\(aB (stepT k w)).length=(aB w).length:=by
 unfold stepT;split
 .rename_i f hf;obtain⟨h1,h2,h3⟩:=aN4 hk hf;have hl:(aB (bS w ((aB w).set k (aD f).1))).length=(aB w).length:=by show ((aB w).set k _).length=_;rw[cHm]
  split
  .exact⟨aMh h1 h3,(aK6 h1.bytes h3).2.trans hl⟩
  .exact⟨h1.mono (by omega),hl⟩
 .exact⟨hk.mono (by omega),rfl⟩
theorem aTp{F:Nat}:∀(n k:Nat) {B:Nat} {w:den tNw},eV B F w->eV (B+n * (160+F)) F (tickL k n w)/\(aB (tickL k n w)).length=(aB w).length
 | 0,k,B,w,hk=>⟨hk.mono (by omega),rfl⟩
 | n+1,k,B,w,hk=>by
  obtain⟨h1,h2⟩:=aSu k hk;obtain⟨h3,h4⟩:=aTp n (k+1) h1;unfold tickL;exact⟨h3.mono (by rw[cGo];omega),h4.trans h2⟩
theorem bPa(l:lRs)(now:Int):(vJ l now).length<=l.length:=cIn _ _
theorem aG2{B F:Nat}{w:den tNw}(hk:eV B F w):eV B F (tick0 w):=by
 refine⟨?_,hk.flows,⟨hk.bytes.fly,hk.bytes.msg⟩⟩;have h1:=hk.tot;have h2:=gB w;have h3:=bPa (nG w).2.1 (wr (aJ w+1));have e:tot tNw (tick0 w)=(tot (.sl tAS) (nT w).1+tot (.sl tLk) (nT w).2)+((tot (.sl tSg) (nK w).1+tot (.sl tSg) (nK w).2)+((0+(tot (.sl tRs) (vJ (nG w).2.1 (wr (aJ w+1)))+tot (.sl tUs) []))+(0+(tot (.sl ti) (aH w)+(tot (.sl tFy) (aI w)+(tot (.sl tFl) (aB w)+(tot (.sl tIb) (aR w)+0))))))):=rfl;have r1:∀l:lRs,tot (.sl tRs) l=l.length:=λl=>kS rfl
 have r2:=r1 (vJ (nG w).2.1 (wr (aJ w+1)));have r3:=r1 (nG w).2.1;rw[aDo]at e;omega
theorem aM9{B F:Nat}{w:den tNw}(hk:eV B F w):eV (B+F * (160+F)) F (cZ w):=by
 unfold cZ;split
 .exact hk.mono (by omega)
 .have :=(aTp (aB w).length 0 (aG2 hk)).1;refine this.mono ?_;have h1:(aB w).length * (160+F)<=F * (160+F):=cG8 _ hk.flows;omega
theorem aWi{F:Nat}{S R:Type}(enc:Nat->den tNw->S)(out:den tNw->R)(N:Nat){step:S->Option (S⊕R)}
  (H1:∀(k:Nat) (w:den tNw),k<N->(aB w).length=N->eV 536870912 F w->step (enc k w)=some (.inl (enc (k+1) (stepT k w))))
  (H2:∀(w:den tNw),(aB w).length=N->step (enc N w)=some (.inr (out w))):
  ∀(m k B:Nat) (w:den tNw),k+m=N->(aB w).length=N->eV B F w->B+m * (160+F)<=536870912->aC step (enc k w)=some (out (tickL k m w)):=by
 intro m
 induction m with
 | zero=>
  intro k B w hk hn hw hB;have :k=N:=by omega
  subst this;exact bA (H2 w hn)
 | succ m ih=>
  intro k B w hk hn hw hB;rw[cGo]at hB;obtain⟨h1,h2⟩:=aSu k hw;rw[cQ (H1 k w (by omega) hn (hw.mono (by omega)))];exact ih (k+1) _ _ (by omega) (h2.trans hn) h1 (by omega)
theorem bFr{B F:Nat}{w0:den tNw}(hF:F<=1000)(hk:eV B F w0)(hB:B+F * (160+F)<=536870912):kO w0=some (!decide (aJ w0>=1000000),bB (cZ w0)):=by
 have hres:(nG w0).2.1.length<=1073741824:=(aL1 (cFv hk.tot (by omega))).res;unfold kO cZ ixb aK8 fT pj3 pj9 aS bD bR eC kX tD wC aA1 aCk aCi zz4 zz5 zz6 zz7 zz8 zz9
 by_cases hnow:aJ w0>=1000000
 .rw[zT hnow,zX (p:=w0.2.2.2.1>=1000000) hnow];rfl
 .rw[zS hnow,zW (p:=w0.2.2.2.1>=1000000) hnow,zY];unfold yN;simp only[bQo hres,aA];refine Eq.trans (congrArg (λo=>Option.bind o _) (aWi (F:=F) (λk w=>((k:Int),bB w)) bB (aB w0).length (λk w hk' hn hw=> ?_) (λw hn=> ?_) (aB w0).length 0 B (tick0 w0) (cGt _) rfl (aG2 hk) (by have :(aB w0).length * (160+F)<=F * (160+F):=cG8 _ hk.flows;omega))) ?_
  .obtain⟨f,hf⟩:∃f,(aB w)[k]? =some f:=⟨_,cFx (show k<(aB w).length by omega)⟩
   obtain⟨k1,k2,k3⟩:=aN4 hw hf;obtain⟨n1,n2,n3⟩:=aFd k1 (by decide);have hft:tot tFl f<=34359738368:=by have :=vC (t:=tFl) (cF9 hf);have :=gB w;have :=hw.tot;omega
   have hd:decide ((k:Int)<(w0.2.2.2.2.2.2.1.length:Int))=true:=zX (by have :k<w0.2.2.2.2.2.2.1.length:=(by exact hk');omega);have hd1:decide ((k:Int)<((bB w).2.1.length:Int))=true:=zX (by have :k<(bB w).2.1.length:=(show k<(aB w).length by omega);omega);have hd2:decide (k<(bB w).2.1.length)=true:=zX (show k<(aB w).length by omega);have hf':(bB w).2.1[k]? =some f:=hf;have hwr:wr ((k:Int)+1)=((k+1:Nat):Int):=(wri (by have :=hk.flows;omega) (by have :=hk.flows;omega)).trans (by omega);have e:stepT k w=if (aD f).2.2 then dM (bS w ((aB w).set k (aD f).1)) (aD f).1.1 0 (aD f).2.1 else bS w ((aB w).set k (aD f).1):=by unfold stepT;rw[hf]
   have e1:bP (((bB w).2.2.2.1,(bB w).2.2.2.2.1),((bB w).2.2.2.2.2.1,(bB w).2.2.2.2.2.2.1),((bB w).2.2.2.2.2.2.2.1,(bB w).2.2.2.2.2.2.2.2.1,(bB w).2.2.2.2.2.2.2.2.2.1),(bB w).2.2.2.2.2.2.2.2.2.2.1,(bB w).2.2.2.2.2.2.2.2.2.2.2.1,(bB w).1,((bB w).2.1.set k ((eL (aD f).1 (aD f).2.1 (aD f).2.2).1,(eL (aD f).1 (aD f).2.1 (aD f).2.2).2.1,(eL (aD f).1 (aD f).2.1 (aD f).2.2).2.2.1,(eL (aD f).1 (aD f).2.1 (aD f).2.2).2.2.2.1,(eL (aD f).1 (aD f).2.1 (aD f).2.2).2.2.2.2.2.2.2.2.2.2.2.2.2.2.2.1,(eL (aD f).1 (aD f).2.1 (aD f).2.2).2.2.2.2.2.2.2.2.2.2.2.2.2.2.2.2.1,(eL (aD f).1 (aD f).2.1 (aD f).2.2).2.2.2.2.1,(eL (aD f).1 (aD f).2.1 (aD f).2.2).2.2.2.2.2.1,(eL (aD f).1 (aD f).2.1 (aD f).2.2).2.2.2.2.2.2.2.2.2.2.2.2.2.2.2.2.2.1)),(bB w).2.2.1,(bB w).2.2.2.2.2.2.2.2.2.2.2.2) (eL (aD f).1 (aD f).2.1 (aD f).2.2).1 0 ((eL (aD f).1 (aD f).2.1 (aD f).2.2).2.2.2.2.2.2.1,(eL (aD f).1 (aD f).2.1 (aD f).2.2).2.2.2.2.2.2.2.1,(eL (aD f).1 (aD f).2.1 (aD f).2.2).2.2.2.2.2.2.2.2.1,(eL (aD f).1 (aD f).2.1 (aD f).2.2).2.2.2.2.2.2.2.2.2.2.2.2.2.2.2.2.2.2.1,(eL (aD f).1 (aD f).2.1 (aD f).2.2).2.2.2.2.2.2.2.2.2.1,(eL (aD f).1 (aD f).2.1 (aD f).2.2).2.2.2.2.2.2.2.2.2.2.1,(eL (aD f).1 (aD f).2.1 (aD f).2.2).2.2.2.2.2.2.2.2.2.2.2.1,(eL (aD f).1 (aD f).2.1 (aD f).2.2).2.2.2.2.2.2.2.2.2.2.2.2.1,(eL (aD f).1 (aD f).2.1 (aD f).2.2).2.2.2.2.2.2.2.2.2.2.2.2.2.1,(eL (aD f).1 (aD f).2.1 (aD f).2.2).2.2.2.2.2.2.2.2.2.2.2.2.2.2.2.2.2.2.2)=some (bB (dM (bS w ((aB w).set k (aD f).1)) (aD f).1.1 0 (aD f).2.1)):=aVe (w:=bS w ((aB w).set k (aD f).1)) n1 n2 n3 k2 k3;rw[e];simp only[hd,hd1,hd2,cU,cF2,hf',zZ,aA,aP,bXz hft,hwr];cases hb:(aD f).2.2
   .rfl
   .rw[hb]at e1;rw[zT rfl];show Option.bind (cond true _ _) _=_;rw[zZ];show Option.bind (Option.bind (bP _ _ 0 _) λy12=>_) _=_;rw[e1];rfl
  .have hd:decide ((((aB w0).length:Nat):Int)<(w0.2.2.2.2.2.2.1.length:Int))=false:=zW (by have :w0.2.2.2.2.2.2.1.length=(aB w0).length:=rfl;omega);simp only[hd,zY]
  .rfl
theorem bZj{B F:Nat}{w0:den tNw}(hF:F<=1000)(hk:eV B F w0)(hB:B+F * (160+F)<=536870912):wS w0=some (!decide (aJ w0>=1000000),bB (cZ w0)):=by
 have hres:(nG w0).2.1.length<=1073741824:=(aL1 (cFv hk.tot (by omega))).res;unfold wS cZ ixb aK8 fT pj3 pj9 aS bD bR eC kX tD wC aA1 aCk aCi zz4 zz5 zz6 zz7 zz8 zz9
 by_cases hnow:aJ w0>=1000000
 .rw[zT hnow,zX (p:=w0.2.2.2.1>=1000000) hnow];rfl
 .rw[zS hnow,zW (p:=w0.2.2.2.1>=1000000) hnow,zY];unfold yI;simp only[bTd hres,aA];refine Eq.trans (congrArg (λo=>Option.bind o _) (aWi (F:=F) (λk w=>((k:Int),bB w)) bB (aB w0).length (λk w hk' hn hw=> ?_) (λw hn=> ?_) (aB w0).length 0 B (tick0 w0) (cGt _) rfl (aG2 hk) (by have :(aB w0).length * (160+F)<=F * (160+F):=cG8 _ hk.flows;omega))) ?_
  .obtain⟨f,hf⟩:∃f,(aB w)[k]? =some f:=⟨_,cFx (show k<(aB w).length by omega)⟩
   obtain⟨k1,k2,k3⟩:=aN4 hw hf;obtain⟨n1,n2,n3⟩:=aFd k1 (by decide);have hft:tot tFl f<=34359738368:=by have :=vC (t:=tFl) (cF9 hf);have :=gB w;have :=hw.tot;omega
   have hd:decide ((k:Int)<((bB w).2.1.length:Int))=true:=zX (by have :k<(bB w).2.1.length:=(by show k<(aB w).length;omega);omega);have hd1:decide ((k:Int)<((bB w).2.1.length:Int))=true:=zX (by have :k<(bB w).2.1.length:=(show k<(aB w).length by omega);omega);have hd2:decide (k<(bB w).2.1.length)=true:=zX (show k<(aB w).length by omega);have hf':(bB w).2.1[k]? =some f:=hf;have hwr:wr ((k:Int)+1)=((k+1:Nat):Int):=(wri (by have :=hk.flows;omega) (by have :=hk.flows;omega)).trans (by omega);have e:stepT k w=if (aD f).2.2 then dM (bS w ((aB w).set k (aD f).1)) (aD f).1.1 0 (aD f).2.1 else bS w ((aB w).set k (aD f).1):=by unfold stepT;rw[hf]
   have e1:eP (((bB w).2.2.2.1,(bB w).2.2.2.2.1),((bB w).2.2.2.2.2.1,(bB w).2.2.2.2.2.2.1),((bB w).2.2.2.2.2.2.2.1,(bB w).2.2.2.2.2.2.2.2.1,(bB w).2.2.2.2.2.2.2.2.2.1),(bB w).2.2.2.2.2.2.2.2.2.2.1,(bB w).2.2.2.2.2.2.2.2.2.2.2.1,(bB w).1,((bB w).2.1.set k ((eL (aD f).1 (aD f).2.1 (aD f).2.2).1,(eL (aD f).1 (aD f).2.1 (aD f).2.2).2.1,(eL (aD f).1 (aD f).2.1 (aD f).2.2).2.2.1,(eL (aD f).1 (aD f).2.1 (aD f).2.2).2.2.2.1,(eL (aD f).1 (aD f).2.1 (aD f).2.2).2.2.2.2.2.2.2.2.2.2.2.2.2.2.2.1,(eL (aD f).1 (aD f).2.1 (aD f).2.2).2.2.2.2.2.2.2.2.2.2.2.2.2.2.2.2.1,(eL (aD f).1 (aD f).2.1 (aD f).2.2).2.2.2.2.1,(eL (aD f).1 (aD f).2.1 (aD f).2.2).2.2.2.2.2.1,(eL (aD f).1 (aD f).2.1 (aD f).2.2).2.2.2.2.2.2.2.2.2.2.2.2.2.2.2.2.2.1)),(bB w).2.2.1,(bB w).2.2.2.2.2.2.2.2.2.2.2.2) (eL (aD f).1 (aD f).2.1 (aD f).2.2).1 0 ((eL (aD f).1 (aD f).2.1 (aD f).2.2).2.2.2.2.2.2.1,(eL (aD f).1 (aD f).2.1 (aD f).2.2).2.2.2.2.2.2.2.1,(eL (aD f).1 (aD f).2.1 (aD f).2.2).2.2.2.2.2.2.2.2.1,(eL (aD f).1 (aD f).2.1 (aD f).2.2).2.2.2.2.2.2.2.2.2.2.2.2.2.2.2.2.2.2.1,(eL (aD f).1 (aD f).2.1 (aD f).2.2).2.2.2.2.2.2.2.2.2.1,(eL (aD f).1 (aD f).2.1 (aD f).2.2).2.2.2.2.2.2.2.2.2.2.1,(eL (aD f).1 (aD f).2.1 (aD f).2.2).2.2.2.2.2.2.2.2.2.2.2.1,(eL (aD f).1 (aD f).2.1 (aD f).2.2).2.2.2.2.2.2.2.2.2.2.2.2.1,(eL (aD f).1 (aD f).2.1 (aD f).2.2).2.2.2.2.2.2.2.2.2.2.2.2.2.1,(eL (aD f).1 (aD f).2.1 (aD f).2.2).2.2.2.2.2.2.2.2.2.2.2.2.2.2.2.2.2.2.2)=some (bB (dM (bS w ((aB w).set k (aD f).1)) (aD f).1.1 0 (aD f).2.1)):=bEs (w:=bS w ((aB w).set k (aD f).1)) n1 n2 n3 k2 k3;rw[e];simp only[hd,hd1,hd2,cU,cF2,hf',zZ,aA,aP,bW0 hft,hwr];cases hb:(aD f).2.2
   .rfl
   .rw[hb]at e1;rw[zT rfl];show Option.bind (cond true _ _) _=_;rw[zZ];show Option.bind (Option.bind (eP _ _ 0 _) λy12=>_) _=_;rw[e1];rfl
  .have hd:decide ((((aB w0).length:Nat):Int)<((bB w).2.1.length:Int))=false:=zW (by have :(bB w).2.1.length=(aB w0).length:=hn;omega);simp only[hd,zY]
  .rfl
def nB(w:den tNw):den tNw:=delW 2000 (cZ w)
def aG0(F:Nat):Nat:=F * (160+F)+2000 * (160+F)
theorem aQn{B F:Nat}{w:den tNw}(hk:eV B F w):eV (B+aG0 F) F (nB w):=by
 have :=aW0 2000 (aM9 hk);exact this.mono (by unfold aG0;omega)
theorem bTl{B F:Nat}{w:den tNw}(hF:F<=1000)(hk:eV B F w)(hB:B+aG0 F<=536870912):lC w=some (bB (nB w)):=by
 unfold aG0 at hB;unfold lC fT dT aS bD bR eC zz4 zz5 zz6 zz7 zz8 zz9;have e1:=bFr hF hk (by omega);have e2:iG (((bB (cZ w)).2.2.2.1,(bB (cZ w)).2.2.2.2.1),((bB (cZ w)).2.2.2.2.2.1,(bB (cZ w)).2.2.2.2.2.2.1),((bB (cZ w)).2.2.2.2.2.2.2.1,(bB (cZ w)).2.2.2.2.2.2.2.2.1,(bB (cZ w)).2.2.2.2.2.2.2.2.2.1),(bB (cZ w)).2.2.2.2.2.2.2.2.2.2.1,(bB (cZ w)).2.2.2.2.2.2.2.2.2.2.2.1,(bB (cZ w)).1,(bB (cZ w)).2.1,(bB (cZ w)).2.2.1,(bB (cZ w)).2.2.2.2.2.2.2.2.2.2.2.2) 2000=some (bB (nB w)):=cEf (w:=cZ w) (n:=2000) (by decide) (by decide) (aM9 hk) (by show B+F * (160+F)+2000 * (160+F)<=_;omega);simp only[aP,e1,aA,e2]
theorem bJb{w:den tNw}(h:aKh w=true):(aB w).length<=4:=by
 unfold aKh at h;simp only[cFw,zR]at h;simp only[h]
theorem bVh{w:den tNw}(hv:aKh w=true)(h:tot tNw w<=134217728)(hb:sW w):eV 134217728 4 w:=⟨h,bJb hv,hb⟩
def cD:Nat->den tNw->den tNw
 | 0,w=>w
 | n+1,w=>cD n (nB w)
theorem aPc{F:Nat}:∀(n:Nat) {B:Nat} {w:den tNw},eV B F w->eV (B+n * aG0 F) F (cD n w)
 | 0,B,w,hk=>hk.mono (by omega)
 | n+1,B,w,hk=>by
  have :=aPc n (aQn hk);exact this.mono (by rw[cGo];omega)
theorem bDx{F:Nat}{S R:Type}(enc:Nat->den tNw->S)(out:den tNw->R)(N:Nat){step:S->Option (S⊕R)}
  (H1:∀(k B:Nat) (w:den tNw),k<N->eV B F w->B+aG0 F<=536870912->step (enc k w)=some (.inl (enc (k+1) (nB w))))
  (H2:∀(w:den tNw),step (enc N w)=some (.inr (out w))):
  ∀(m k B:Nat) (w:den tNw),k+m=N->eV B F w->B+m * aG0 F<=536870912->aC step (enc k w)=some (out (cD m w)):=by
 intro m
 induction m with
 | zero=>
  intro k B w hk hw hB;have :k=N:=by omega
  subst this;exact bA (H2 w)
 | succ m ih=>
  intro k B w hk hw hB;rw[cGo]at hB;rw[cQ (H1 k B w (by omega) hw (by omega))];exact ih (k+1) _ _ (by omega) (aQn hw) (by omega)
def wD(w:den tNw)(n:Int):den tNw:=if aKh w&&inR n 0 1000 then cD n.toNat w else w
theorem cEh:aG0 4=328656:=rfl
theorem aXk{n:Int}(h0:0<=n)(h1:n<=1000):134217728+n.toNat * aG0 4<=536870912:=by
 rw[cEh];have :n.toNat * 328656<=1000 * 328656:=Nat.mul_le_mul (by omega) (cF8 _);omega
theorem bQq{w:den tNw}{n:Int}(h:tot tNw w<=134217728)(hb:sW w):tot tNw (wD w n)<=536870912:=by
 unfold wD;split
 .rename_i hc;rw[cFw,aV]at hc;have h1:=(aPc n.toNat (bVh hc.1 h hb)).tot;have h2:=aXk hc.2.1 hc.2.2;omega
 .omega
theorem cCp{w:den tNw}{n:Int}(h:tot tNw w<=134217728)(hb:sW w):uN w n=some (aGh (wD w n)):=by
 have ht:=bQq (n:=n) h hb;unfold uN fT pj3 dT aS bD bR eC zz4 zz5 zz6 zz7 zz8 zz9;simp only[aP,aP7 (bOg (w:=w) (by omega)),aT2 (w:=w) (by omega),lR,aA];have e3:eY (((qU (wD w n)).1,(qU (wD w n)).2.1),((qU (wD w n)).2.2.1,(qU (wD w n)).2.2.2.1),((qU (wD w n)).2.2.2.2.1,(qU (wD w n)).2.2.2.2.2.1,(qU (wD w n)).2.2.2.2.2.2.1),(qU (wD w n)).2.2.2.2.2.2.2.1,(qU (wD w n)).2.2.2.2.2.2.2.2.1,(qU (wD w n)).2.2.2.2.2.2.2.2.2.2.1,(qU (wD w n)).2.2.2.2.2.2.2.2.2.2.2.1,(qU (wD w n)).2.2.2.2.2.2.2.2.2.2.2.2,(qU (wD w n)).2.2.2.2.2.2.2.2.2.1)=some (aGh (wD w n)):=aP7 (w:=wD w n) (bOg (by omega));unfold wD at e3 ⊢;cases cv:aKh w
 .rw[cv]at e3;simp only[zY,aA];simp only[cGi,cF1,zU]at e3 ⊢;exact congrArg (λo=>Option.bind o some) e3
 .cases cn:inR n 0 1000
  .rw[cv,cn]at e3;simp only[zZ,zY,aA];simp only[cHt,cF1,zU]at e3 ⊢;exact congrArg (λo=>Option.bind o some) e3
  .rw[cv,cn]at e3;have hr:=aV.1 cn;simp only[zZ,aA];simp only[cHw,zV]at e3 ⊢;refine Eq.trans (congrArg (λo=>Option.bind o _) (bDx (F:=4) (λk w=>((k:Int),qU w)) qU n.toNat (λk B w hk' hw hB=> ?_) (λw=> ?_) n.toNat 0 134217728 w (cGt _) (bVh cv h hb) (aXk hr.1 hr.2))) ?_
   .have hd:decide ((k:Int)<n)=true:=zX (by omega);have hwr:wr ((k:Int)+1)=((k+1:Nat):Int):=(wri (by omega) (by omega)).trans (by omega);have e1:lC (((qU w).1,(qU w).2.1),((qU w).2.2.1,(qU w).2.2.2.1),((qU w).2.2.2.2.1,(qU w).2.2.2.2.2.1,(qU w).2.2.2.2.2.2.1),(qU w).2.2.2.2.2.2.2.1,(qU w).2.2.2.2.2.2.2.2.1,(qU w).2.2.2.2.2.2.2.2.2.2.1,(qU w).2.2.2.2.2.2.2.2.2.2.2.1,(qU w).2.2.2.2.2.2.2.2.2.2.2.2,(qU w).2.2.2.2.2.2.2.2.2.1)=some (bB (nB w)):=bTl (w:=w) (by decide) hw hB;simp only[hd,zZ,e1,aA,hwr];rfl
   .have hd:decide (((n.toNat:Nat):Int)<n)=false:=zW (by omega);simp only[hd,zY]
   .simp only[aA];exact congrArg (λo=>Option.bind o some) e3
theorem cCw{w:den tNw}(h:tot tNw w<=134217728)(hb:sW w):aBb w=some (aGh (wD w (wr (8+oV w)))):=by
 unfold aBb fT dT;simp only[aP,bA3 (w:=w) (aL1 (by omega)).flowsN,cCp h hb,aA]
def Ans{α:Type}(o:Option α)(P:α->Prop):Prop:= ∃y,o=some y/\P y
theorem bT1{S R:Type}{step:S->Option (S⊕R)}(I:Nat->S->Prop)(Q:R->Prop)(h:∀n s,I n s->(∃r,step s=some (.inr r)/\Q r)\/ ∃m s',m<n/\step s=some (.inl s')/\I m s')(n:Nat):∀s,I n s->Ans (aC step s) Q:=by
 induction n using Nat.strongRecOn with
 | ind n ih=>
  intro s hs;rcases h n s hs with ⟨r,h1,h2⟩ | ⟨m,s',h1,h2,h3⟩
  .exact⟨r,bA h1,h2⟩
  .obtain⟨r,h4,h5⟩:=ih m h1 s' h3;exact⟨r,(cQ h2).trans h4,h5⟩
theorem aBl{S R T:Type}{step:S->Option (S⊕R)}(I:Nat->S->Prop)(Q:R->Prop){k:R->Option T}{G:Option T->Prop}(h:∀n s,I n s->(∃r,step s=some (.inr r)/\Q r)\/ ∃m s',m<n/\step s=some (.inl s')/\I m s')(n:Nat)(s:S)(hs:I n s)(hk:∀r,Q r->G (k r)):G (Option.bind (aC step s) k):=by
 obtain⟨r,h1,h2⟩:=bT1 I Q h n s hs;rw[h1];exact hk r h2
theorem iW{S R T:Type}{step:S->Option (S⊕R)}(len:Nat)(pos:S->Int)(J:Nat->S->Prop)(Q:R->Prop){k:R->Option T}{G:Option T->Prop}
  (h:∀(i:Nat) (s:S),i<len->pos s=(i:Int)->J i s->(∃r,step s=some (.inr r)/\Q r)\/ ∃s',step s=some (.inl s')/\pos s'=((i+1:Nat):Int)/\J (i+1) s')
  (he:∀s:S,pos s=(len:Int)->J len s-> ∃r,step s=some (.inr r)/\Q r) (i0:Nat) (s0:S) (hi:i0<=len) (hp:pos s0=(i0:Int)) (hJ:J i0 s0) (hk:∀r,Q r->G (k r)):G (Option.bind (aC step s0) k):=by
 refine aBl (λn s=> ∃i:Nat,pos s=(i:Int)/\i+n=len/\J i s) Q ?_ (len - i0) s0 ⟨i0,hp,by omega,hJ⟩ hk
 rintro n s ⟨i,h1,h2,h3⟩
 cases n with
 | zero=>
  have e:i=len:=by omega
  subst e;exact .inl (he s h1 h3)
 | succ n=>
  rcases h i s (by omega) h1 h3 with h4 | ⟨s',h4,h5,h6⟩
  .exact .inl h4
  .exact .inr ⟨n,s',by omega,h4,i+1,h5,by omega,h6⟩
theorem bE{n:Int}(h0: -1000000000000<=n)(h1:n<=1000000000000):wr n=n:=wri (by omega) (by omega)
theorem eE{n:Nat}(h:n<=1000000000):wr ((n:Int)+1)=((n+1:Nat):Int):=by rw[bE (by omega) (by omega)];omega
theorem bBw(a:Int):0<=aAg .i64 a 255/\aAg .i64 a 255<=255:=by
 have h:((BitVec.ofInt 64 a &&& BitVec.ofInt 64 255).toNat)<=255:=by
  rw[BitVec.toNat_and];exact cFv Nat.and_le_right (by decide)
 have e:aAg .i64 a 255=wr (((BitVec.ofInt 64 a &&& BitVec.ofInt 64 255).toNat:Nat):Int):=rfl;rw[e,show wr (((BitVec.ofInt 64 a &&& BitVec.ofInt 64 255).toNat:Nat):Int)=_ from wri (by omega) (by omega)];omega
def Cur(code:List Int)(c:List Int×q31):Prop:=c.1=code/\0<=c.2.1/\c.2.1<=(code.length:Int)
theorem aH6{code:List Int}(hl:code.length<=1048576){c:List Int}{p h:Int}(hc:Cur code (c,p,h)):∃v c' p' h',rF (c,p,h)=some (v,c',p',h')/\(0<=v/\v<=255)/\Cur code (c',p',h'):=by
 obtain⟨h1,h2,h3⟩:=hc;simp only at h1 h2 h3;subst h1;unfold rF pj4;simp only[aA]
 by_cases hp:p<(c.length:Int)
 .obtain⟨m,rfl⟩:=cGr h2;have hm:m<c.length:=by omega
  rw[zX hp,zZ,aN,cFx hm];refine⟨_,_,_,_,rfl,bBw _,rfl,?_,?_⟩
  .show 0<=wr ((m:Int)+1);rw[show wr ((m:Int)+1)=(m:Int)+1 from wri (by omega) (by omega)];omega
  .show wr ((m:Int)+1)<=_;rw[show wr ((m:Int)+1)=(m:Int)+1 from wri (by omega) (by omega)];omega
 .rw[zW hp,zY];exact⟨_,_,_,_,rfl,bBw _,rfl,h2,h3⟩
theorem bJ{code:List Int}(hl:code.length<=1048576){n:Int}(h0:0<n)(h1:n<=256){c:List Int}{p h:Int}(hc:Cur code (c,p,h)):∃v c' p' h',aF (c,p,h) n=some (v,c',p',h')/\(0<=v/\v<n)/\Cur code (c',p',h'):=by
 obtain⟨v,c',p',h',hb,hv,hc'⟩:=aH6 hl hc;refine⟨Int.tmod v n,c',p',h',?_,⟨Int.tmod_nonneg _ hv.1,Int.tmod_lt_of_pos _ h0⟩,hc'⟩;unfold aF pj3;rw[zW (by omega),zY,zX h1,zZ];simp only[hb,aA];rw[show (n==0)=false by rw[beq_eq_false_iff_ne];omega,zY]
theorem aI5{code:List Int}(hl:code.length<=1048576){n:Int}(h1:256<n){c:List Int}{p h:Int}(hc:Cur code (c,p,h)):∃v c' p' h',aF (c,p,h) n=some (v,c',p',h')/\(0<=v/\v<n)/\Cur code (c',p',h'):=by
 obtain⟨v1,c1,p1,h1',e1,r1,k1⟩:=aH6 hl hc;obtain⟨v2,c2,p2,h2',e2,r2,k2⟩:=aH6 hl k1;obtain⟨v3,c3,p3,h3',e3,r3,k3⟩:=aH6 hl k2;have w1:wr (v1 * 65536)=v1 * 65536:=bE (by omega) (by omega);have w2:wr (v2 * 256)=v2 * 256:=bE (by omega) (by omega);have w3:wr (v1 * 65536+v2 * 256)=v1 * 65536+v2 * 256:=bE (by omega) (by omega);have w4:wr (v1 * 65536+v2 * 256+v3)=v1 * 65536+v2 * 256+v3:=bE (by omega) (by omega);refine⟨Int.tmod (v1 * 65536+v2 * 256+v3) n,c3,p3,h3',?_,⟨Int.tmod_nonneg _ (by omega),Int.tmod_lt_of_pos _ (by omega)⟩,k3⟩;unfold aF pj3;rw[zW (by omega),zY,zW (by omega),zY];simp only[e1,e2,e3,aA,w1,w2,w3,w4];rw[show (n==0)=false by rw[beq_eq_false_iff_ne];omega,zY]
theorem aHk{code:List Int}(hl:code.length<=1048576){l:List Int}(h0:0<l.length)(h1:l.length<=256){c:List Int}{p h:Int}(hc:Cur code (c,p,h)):∃v c' p' h',qE (c,p,h) l=some (v,c',p',h')/\v∈l/\Cur code (c',p',h'):=by
 obtain⟨v,c',p',h',hb,hv,hc'⟩:=bJ hl (n:=(l.length:Int)) (by omega) (by omega) hc;obtain⟨m,rfl⟩:=cGr hv.1;have hm:m<l.length:=by omega
 refine⟨l[m],c',p',h',?_,cHa hm,hc'⟩;unfold qE pj3;simp only[hb,aA,aN,cFx hm]
theorem vE{code:List Int}(hl:code.length<=1048576){n:Int}(h0:0<n)(h1:n<=256){c:List Int}{p h:Int}(hc:Cur code (c,p,h)):∃b c' p' h',eD (c,p,h) n=some (b,c',p',h')/\Cur code (c',p',h'):=by
 obtain⟨v,c',p',h',hb,hv,hc'⟩:=bJ hl h0 h1 hc;refine⟨v==0,c',p',h',?_,hc'⟩;unfold eD pj3;simp only[hb,aA]
theorem bXt{code:List Int}(hl:code.length<=1048576):∃c p h,aDr code=some (c,p,h)/\Cur code (c,p,h):=by
 unfold aDr;refine aBl (G:=λo=> ∃c p h,o=some (c,p,h)/\Cur code (c,p,h)) (λn s=> ∃k:Nat,s.2=(k:Int)/\k+n=code.length) (λ_=>True) ?_ code.length _ ⟨0,rfl,by omega⟩ ?_
 .rintro n ⟨a,b⟩ ⟨k,hk,hn⟩
  simp only at hk;subst hk
  by_cases h1:(k:Int)<(code.length:Int)
  .by_cases h2:(k:Int)<4000
   .right;have hk:k<code.length:=by omega
    refine⟨n - 1,(aAg .i64 (wr ((wr ((wr (a * (137:Int)))+(wr code[k])))+(11:Int))) (1073741823:Int),((k+1:Nat):Int)),by omega,?_,k+1,rfl,by omega⟩;simp only[zX h1,zX h2,zZ,aA,aN,cFx hk];rw[show wr ((k:Int)+1)=((k+1:Nat):Int) from by rw[show wr ((k:Int)+1)=(k:Int)+1 from wri (by omega) (by omega)];omega]
   .left;refine⟨a,?_,trivial⟩;simp only[zX h1,zW h2,zZ,zY,aA]
  .left;refine⟨a,?_,trivial⟩;simp only[zW h1,zY,aA]
 .intro r _;exact⟨_,_,_,rfl,rfl,cGx 0,by show (0:Int)<=_;omega⟩
theorem aRl{α:Type}(p:Nat->α->Bool):∀(l:List α) (k:Nat),(bW (λk x=>if p k x then none else some ()) k l).isNone=true↔ ∀j x,l[j]? =some x->p (k+j) x=true
 | [],k=>by simp[bW]
 | x::l,k=>by
  have ih:=aRl p l (k+1);cases hp:p k x with
  | true=>
   simp only[bW,hp,zV];rw[ih];constructor
   .intro h j y hy;cases j with
    | zero=>simp only[cI7,Option.some.injEq]at hy;subst hy;exact hp
    | succ j=>simp only[List.getElem?_cons_succ]at hy;have :=h j y hy;rwa [show k+1+j=k+(j+1) by omega]at this
   .intro h j y hy;have :=h (j+1) y (by simpa using hy);rwa [show k+(j+1)=k+1+j by omega]at this
  | false=>
   simp only[bW,hp];constructor
   .intro h;simp at h
   .intro h;have :=h 0 x (by simp);rw[Nat.add_zero,hp]at this;cases this
def plc(id s d:Int):Nat->lUs->Int
 | _,[]=> -1
 | k,x::l=>if jC id s d x then (k:Int) else plc id s d (k+1) l
theorem aGa(l:lUs)(id s d:Int):place l id s d=plc id s d 0 l:=by
 unfold place;have :∀(l:lUs) (k:Nat),(match bW (λk x=>if jC id s d x then some (k:Int) else none) k l with
  | some i=>i
  | none=> -1)=plc id s d k l:=by
  intro l
  induction l with
  | nil=>intro k;rfl
  | cons x l ih=>
   intro k;cases hp:jC id s d x with
   | true=>simp only[bW,plc,hp,zV]
   | false=>simp only[bW,plc,hp];exact ih (k+1)
 exact this l 0
theorem aZk{id s d:Int}:∀(l:lUs) (k:Nat),(plc id s d k l= -1/\ ∀x∈l,jC id s d x=false)\/ ∃j x,plc id s d k l=((k+j:Nat):Int)/\l[j]? =some x/\jC id s d x=true
 | [],_=> .inl ⟨rfl,λx hx=>by cases hx⟩
 | x::l,k=>by
  unfold plc;cases hp:jC id s d x with
  | true=>exact .inr ⟨0,x,by simp,by simp,hp⟩
  | false=>
   rcases aZk l (k+1) with ⟨h1,h2⟩ | ⟨j,y,h1,h2,h3⟩
   .refine .inl ⟨by simpa using h1,λy hy=> ?_⟩;rcases cFy.1 hy with rfl | hy
    .exact hp
    .exact h2 y hy
   .exact .inr ⟨j+1,y,by rw[zS (by simp),h1];congr 1;omega,by simpa using h2,h3⟩
theorem aMv(l:lUs)(id s d:Int):(place l id s d= -1/\ ∀x∈l,jC id s d x=false)\/ ∃(j:Nat) (x:den tUs),place l id s d=(j:Int)/\l[j]? =some x/\jC id s d x=true:=by
 rw[aGa];rcases aZk (id:=id) (s:=s) (d:=d) l 0 with h | ⟨j,x,h1,h2,h3⟩
 .exact .inl h
 .exact .inr ⟨j,x,by rw[h1,cGt],h2,h3⟩
theorem bGi{id s d:Int}(z:lUs):∀(l:lUs) (k:Nat),plc id s d k (l++z)=if plc id s d k l<0 then plc id s d (k+l.length) z else plc id s d k l
 | [],k=>by simp[plc]
 | x::l,k=>by
  have e1:plc id s d k (x::l)=if jC id s d x then (k:Int) else plc id s d (k+1) l:=rfl
  have e2:plc id s d k (x::l++z)=if jC id s d x then (k:Int) else plc id s d (k+1) (l++z):=rfl
  by_cases hp:jC id s d x=true
  .rw[zT hp]at e1 e2;rw[e1,e2,zS (by omega)]
  .rw[zS hp]at e1 e2;rw[e1,e2,bGi z l (k+1),show k+(x::l).length=k+1+l.length by simp only[cGv];omega]
theorem aZn{id s d:Int}:∀(l m:lUs) (k:Nat),l.map (λx=>(x.1,x.2.1,x.2.2.1))=m.map (λx=>(x.1,x.2.1,x.2.2.1))->plc id s d k l=plc id s d k m
 | [],[],_,_=>rfl
 | [],_::_,_,h=>by simp at h
 | _::_,[],_,h=>by simp at h
 | x::l,y::m,k,h=>by
  simp only[cGg,List.cons.injEq,Prod.mk.injEq]at h;obtain⟨⟨h1,h2,h3⟩,h4⟩:=h;have e:jC id s d x=jC id s d y:=by unfold jC;rw[h1,h2,h3]
  simp only[plc,e,aZn l m (k+1) h4]
theorem aBj{id s d:Int}{x:den tUs}:jC id s d x=true↔x.1=id/\x.2.1=s/\x.2.2.1=d:=by unfold jC;simp
def aU0(g:den tSc)(now:Int):Prop:= ∀(j:Nat) (x:den tUs),g.2.2[j]? =some x->place g.2.2 x.1 x.2.1 x.2.2.1=(j:Int)/\(1:Int)<=x.2.2.2/\pB g x.1 x.2.1 x.2.2.1 now>=x.2.2.2
theorem bKv{g:den tSc}{now:Int}:aFz g now=true↔(1:Int)<=g.1/\(20:Int)>=g.1/\aDq g.2.1 g.1 now=true/\aU0 g now:=by
 unfold aFz aU0;rw[cFw,cFw,aRl];unfold inR okU;simp only[cFw,zR,beq_iff_eq,cGt,inR,and_assoc]
theorem bDr{l:lRs}{cap now:Int}:aDq l cap now=true↔l.length<=40/\ ∀(j:Nat) (x:den tRs),l[j]? =some x->xI x=true/\rate l x.2.1 x.2.2.1 now<=cap/\ ∀y∈l.take j,kF x y=false:=by
 unfold aDq;rw[cFw,aRl];unfold okR;simp only[cFw,zR,cGt,cGw,decide_eq_false_iff_not,List.any_eq_false,Bool.not_eq_true,Int.not_lt,gt_iff_lt]
theorem aM8(x y:den tRs):kF x y=kF y x:=by
 unfold kF atR;rw[cGl];simp only[cFw,beq_iff_eq];constructor<;>(rintro⟨a,b,c⟩;exact⟨a.symm,b.symm,c.symm⟩)
theorem bOb{l:lRs}:(∀(j:Nat) (x:den tRs),l[j]? =some x-> ∀y∈l.take j,kF x y=false)↔l.Pairwise λx y=>kF x y=false:=by
 rw[cH1];constructor
 .intro h i j hi hj hij;rw[aM8];exact h j l[j] (cFx hj) l[i] (List.mem_take_iff_getElem.2 ⟨i,by omega,rfl⟩)
 .intro h j x hx y hy;obtain⟨i,hi,rfl⟩:=List.mem_take_iff_getElem.1 hy;obtain⟨hj,rfl⟩:=cFz.1 hx;rw[aM8];exact h i j (by omega) hj (by omega)
def rs(s d now:Int):lRs->Int
 | []=>0
 | x::l=>(if atR x s d&&decide (now<=x.2.2.2.2) then x.2.2.2.1 else 0)+rs s d now l
theorem aSt{s d now:Int}:∀{l:lRs},(∀x∈l,(0:Int)<=x.2.2.2.1/\(20:Int)>=x.2.2.2.1)->0<=rs s d now l/\rs s d now l<=20 * l.length
 | [],_=>by simp[rs]
 | x::l,h=>by
  have ih:=aSt (s:=s) (d:=d) (now:=now) (l:=l) λy hy=>h y (cF7 _ hy)
  have hx:=h x (by simp);have e:((x::l).length:Int)=l.length+1:=by simp
  unfold rs;rw[e];split<;>omega
theorem aO4{s d now:Int}:∀(l:lRs) (a:Int),(∀x∈l,(0:Int)<=x.2.2.2.1/\(20:Int)>=x.2.2.2.1)->0<=a->a+20 * l.length<=1000000000000->
  l.foldl (λa x=>if atR x s d&&decide (now<=x.2.2.2.2) then wr (a+x.2.2.2.1) else a) a=a+rs s d now l
 | [],a,_,_,_=>by simp[rs]
 | x::l,a,h,h0,hb=>by
  have hx:=h x (by simp);simp only[cGv,Int.natCast_add,Int.natCast_one]at hb;simp only[cIc,rs];split
  .rw[show wr (a+x.2.2.2.1)=a+x.2.2.2.1 from wri (by omega) (by omega),aO4 l _ (λy hy=>h y (cF7 _ hy)) (by omega) (by omega)];omega
  .rw[aO4 l a (λy hy=>h y (cF7 _ hy)) h0 (by omega)];omega
theorem aPi{s d now:Int}{l:lRs}(h:∀x∈l,(0:Int)<=x.2.2.2.1/\(20:Int)>=x.2.2.2.1)(hl:l.length<=1000000):rate l s d now=rs s d now l:=by
 unfold rate;rw[aO4 l 0 h (by omega) (by omega)];omega
theorem bLv{s d now:Int}(m:lRs):∀l:lRs,rs s d now (l++m)=rs s d now l+rs s d now m
 | []=>by simp[rs]
 | x::l=>by simp only[List.cons_append,rs,bLv m l];omega
theorem aOi{s d now:Int}(p:den tRs->Bool):∀{l:lRs},(∀x∈l,(0:Int)<=x.2.2.2.1/\(20:Int)>=x.2.2.2.1)->rs s d now (l.filter p)<=rs s d now l
 | [],_=>by simp[rs]
 | x::l,h=>by
  have ih:=aOi (s:=s) (d:=d) (now:=now) p (l:=l) λy hy=>h y (cF7 _ hy)
  have hx:=h x (by simp);rw[cH9];split
  .simp only[rs];omega
  .simp only[rs];split<;>omega
theorem aWo{s d now:Int}:∀l:lRs,rs s d now (vJ l now)=rs s d now l
 | []=>rfl
 | x::l=>by
  have ih:=aWo (s:=s) (d:=d) (now:=now) l;unfold vJ at ih ⊢;rw[cH9];cases hd:decide (now<=x.2.2.2.2) with
  | true=>rw[zT rfl];simp only[rs,ih]
  | false=>rw[zS (by simp)];simp only[rs,hd,cHt,cF1,zU,ih];omega
structure vO (l:lRs) (cap now:Int):Prop where
 len:l.length<=40
 val:∀x∈l,xI x=true
 rate:∀x∈l,rs x.2.1 x.2.2.1 now l<=cap
 pw:l.Pairwise λx y=>kF x y=false
theorem aKg{x:den tRs}(h:xI x=true):(1:Int)<=x.1/\(1:Int)<=x.2.2.2.1/\(20:Int)>=x.2.2.2.1:=by
 unfold xI inR at h;simp only[cFw,zR]at h;exact⟨h.1.1,h.2.1.1,h.2.1.2⟩
theorem vI{l:lRs}(h:∀x∈l,xI x=true):∀x∈l,(0:Int)<=x.2.2.2.1/\(20:Int)>=x.2.2.2.1:=λx hx=>by
 have :=aKg (h x hx);omega
theorem bQh{l:lRs}{cap now:Int}:aDq l cap now=true↔vO l cap now:=by
 rw[bDr];constructor
 .rintro⟨h1,h2⟩
  have hv:∀x∈l,xI x=true:=λx hx=>by
   obtain⟨j,hj⟩:=cJg.1 hx;exact (h2 j x hj).1
  exact⟨h1,hv,λx hx=>by
   obtain⟨j,hj⟩:=cJg.1 hx;rw[<- aPi (vI hv) (by omega)];exact (h2 j x hj).2.1,bOb.1 λj x hj=>(h2 j x hj).2.2⟩
 .rintro⟨h1,h2,h3,h4⟩
  refine⟨h1,λj x hj=> ?_⟩;have hx:=cF9 hj;exact⟨h2 x hx,by rw[aPi (vI h2) (by omega)];exact h3 x hx,bOb.2 h4 j x hj⟩
theorem vO.filter{l:lRs}{cap now:Int}(h:vO l cap now)(p:den tRs->Bool):vO (l.filter p) cap now:=
 ⟨cFv (cIn ..) h.len,λx hx=>h.val x (cGc.1 hx).1,λx hx=>cHb (aOi p (vI h.val)) (h.rate x (cGc.1 hx).1),h.pw.filter _⟩
def admR(l:lRs)(x:den tRs)(cap now:Int):lRs:=
 if !xI x||decide (x.2.2.2.2<now)||decide (wr (rate (l.filter λy=> !kF x y) x.2.1 x.2.2.1 now+x.2.2.2.1)>cap)||decide (((l.filter λy=> !kF x y).length:Int)>=40) then l else (l.filter λy=> !kF x y)++[x]
theorem vO.admR{l:lRs}{cap now:Int}(h:vO l cap now)(x:den tRs):vO (admR l x cap now) cap now:=by
 unfold Go.Proofs.YtnkjolpkcmgcaaaGreat.admR;split
 .exact h
 .rename_i hc;simp only[cHi,cGw,zR,not_or,Bool.not_eq_false]at hc;obtain⟨⟨⟨c1,c2⟩,c3⟩,c4⟩:=hc;have hf:=h.filter λy=> !kF x y
  have hx:=aKg c1;have hr:vO (l.filter λy=> !kF x y) cap now:=hf;rw[aPi (vI hf.val) (by have :=hf.len;omega)]at c3;have hb:=aSt (s:=x.2.1) (d:=x.2.2.1) (now:=now) (vI hf.val);have hl:=hf.len;rw[show wr (rs x.2.1 x.2.2.1 now (l.filter λy=> !kF x y)+x.2.2.2.1)=rs x.2.1 x.2.2.1 now (l.filter λy=> !kF x y)+x.2.2.2.1 from wri (by omega) (by omega)]at c3;refine⟨by simp only[cGh,cHf];omega,?_,?_,?_⟩
  .intro y hy;rcases cF6.1 hy with hy | hy
   .exact hf.val y hy
   .rw[cF5.1 hy];exact c1
  .intro y hy;rw[bLv];simp only[rs];rcases cF6.1 hy with hy | hy
   .have h1:=hf.rate y hy;cases ha:atR x y.2.1 y.2.2.1 with
    | false=>simp only[cGi,cF1,zU];omega
    | true=>
     have ha':=ha;unfold atR at ha';simp only[cFw,beq_iff_eq]at ha';rw[<- ha'.1,<- ha'.2];split<;>omega
   .rw[cF5.1 hy];split<;>omega
  .rw[cJn];refine⟨hf.pw,List.pairwise_singleton _ _,λy hy z hz=> ?_⟩;rw[cF5.1 hz,aM8];have :=(cGc.1 hy).2;simpa using this
theorem aNk{l:lUs}{id s d:Int}(z:lUs):place (l++z) id s d=if place l id s d<0 then plc id s d l.length z else place l id s d:=by
 rw[aGa,aGa,bGi,cGt]
theorem aMq{l m:lUs}{id s d:Int}(h:l.map (λx=>(x.1,x.2.1,x.2.2.1))=m.map (λx=>(x.1,x.2.1,x.2.2.1))):place l id s d=place m id s d:=by
 rw[aGa,aGa,aZn l m 0 h]
theorem aMc(l:lUs)(id s d:Int):(place l id s d= -1/\(∀x∈l,jC id s d x=false)/\dK l id s d=0/\rW l id s d=l++[(id,s,d,1)])\/
  ∃(j:Nat) (x:den tUs),place l id s d=(j:Int)/\l[j]? =some x/\jC id s d x=true/\dK l id s d=x.2.2.2/\rW l id s d=l.set j (x.1,x.2.1,x.2.2.1,wr (x.2.2.2+1)):=by
 rcases aMv l id s d with ⟨h1,h2⟩ | ⟨j,x,h1,h2,h3⟩
 .refine .inl ⟨h1,h2,?_,?_⟩
  .unfold dK;rw[h1,zT (by decide)]
  .unfold rW;rw[h1,zT (by decide)]
 .refine .inr ⟨j,x,h1,h2,h3,?_,?_⟩
  .unfold dK;rw[h1,zS (by omega),cF2,h2];rfl
  .unfold rW;rw[h1,zS (by omega),cF2];simp only[h2]
theorem aQ4{l:lUs}{j:Nat}{x:den tUs}(h:l[j]? =some x)(c:Int):(l.set j (x.1,x.2.1,x.2.2.1,c)).map (λx=>(x.1,x.2.1,x.2.2.1))=l.map (λx=>(x.1,x.2.1,x.2.2.1)):=by
 rw[List.map_set];apply List.ext_getElem?;intro i
 by_cases hij:j=i
 .subst hij;obtain⟨hlt,rfl⟩:=cFz.1 h;rw[cIo (by simpa using hlt),cHz,cFx hlt];rfl
 .rw[cI5 hij]
theorem aU0.more{g:den tSc}{now id s d:Int}(h:aU0 g now)(hu:dK g.2.2 id s d<pB g id s d now)(hb:pB g id s d now<=1000000):aU0 (g.1,g.2.1,rW g.2.2 id s d) now:=by
 have hr:∀i s d,pB (g.1,g.2.1,rW g.2.2 id s d) i s d now=pB g i s d now:=λ_ _ _=>rfl
 intro j x hx;have hx:(rW g.2.2 id s d)[j]? =some x:=hx;show place (rW g.2.2 id s d) x.1 x.2.1 x.2.2.1=(j:Int)/\(1:Int)<=x.2.2.2/\pB g x.1 x.2.1 x.2.2.1 now>=x.2.2.2;rcases aMc g.2.2 id s d with ⟨h1,h2,h3,h4⟩ | ⟨i,y,h1,h2,h3,h4,h5⟩
 .rw[h4]at hx ⊢;rw[aNk]
  by_cases hj:j<g.2.2.length
  .rw[List.getElem?_append_left hj]at hx;obtain⟨a,b,c⟩:=h j x hx;rw[a,zS (by omega)];exact⟨rfl,b,c⟩
  .rw[List.getElem?_append_right (by omega)]at hx;have hj0:j - g.2.2.length=0:=by
    cases hk:j - g.2.2.length with
    | zero=>rfl
    | succ k=>rw[hk]at hx;simp at hx
   rw[hj0]at hx;simp only[cI7,Option.some.injEq]at hx;subst hx;have hj':j=g.2.2.length:=by omega
   simp only;rw[h1,zT (by decide),hj'];refine⟨?_,cGx 1,?_⟩
   .unfold plc;rw[zT (show jC id s d (id,s,d,1)=true from aBj.2 ⟨rfl,rfl,rfl⟩)]
   .rw[h3]at hu;omega
 .rw[h5]at hx ⊢;rw[aMq (aQ4 h2 _)]
  by_cases hij:i=j
  .subst hij;rw[cIo (cFz.1 h2).1]at hx;simp only[Option.some.injEq]at hx;subst hx;obtain⟨a,b,c⟩:=h i y h2;obtain⟨k1,k2,k3⟩:=aBj.1 h3;simp only;rw[k1,k2,k3]at a c ⊢;rw[h4]at hu;have hw:wr (y.2.2.2+1)=y.2.2.2+1:=wri (by omega) (by omega);rw[hw];exact⟨a,by omega,by omega⟩
  .rw[cI5 hij]at hx;exact h j x hx
def rr(id s d now:Int):lRs->Int
 | []=>0
 | x::l=>if x.1==id&&(atR x s d&&decide (now<=x.2.2.2.2)) then x.2.2.2.1 else rr id s d now l
theorem bI8(l:lRs)(id s d now:Int):aCf l id s d now=rr id s d now l:=by
 unfold aCf;have :∀(l:lRs) (k:Nat),(match bW (λ_ (x:den tRs)=>if x.1==id&&(atR x s d&&decide (now<=x.2.2.2.2)) then some x.2.2.2.1 else none) k l with
  | some r=>r
  | none=>0)=rr id s d now l:=by
  intro l
  induction l with
  | nil=>intro k;rfl
  | cons x l ih=>
   intro k;cases hp:(x.1==id&&(atR x s d&&decide (now<=x.2.2.2.2))) with
   | true=>simp only[bW,rr,hp,zV]
   | false=>simp only[bW,rr,hp];exact ih (k+1)
 exact this l 0
theorem bMd{id s d now:Int}:∀{l:lRs},(∀x∈l,(0:Int)<=x.2.2.2.1/\(20:Int)>=x.2.2.2.1)->0<=rr id s d now l/\rr id s d now l<=20
 | [],_=>by simp[rr]
 | x::l,h=>by
  have ih:=bMd (id:=id) (s:=s) (d:=d) (now:=now) (l:=l) λy hy=>h y (cF7 _ hy)
  have hx:=h x (by simp);unfold rr;split<;>omega
theorem bIj{s d now:Int}:∀{l:lRs},rs s d now l=0\/ ∃x∈l,x.2.1=s/\x.2.2.1=d
 | []=> .inl rfl
 | x::l=>by
  by_cases ha:atR x s d=true
  .unfold atR at ha;simp only[cFw,beq_iff_eq]at ha;exact .inr ⟨x,by simp,ha⟩
  .rcases bIj (s:=s) (d:=d) (now:=now) (l:=l) with h | ⟨y,hy,h⟩
   .left;unfold rs;rw[h];simp[ha]
   .exact .inr ⟨y,cF7 _ hy,h⟩
theorem vO.rs_le{l:lRs}{cap now:Int}(h:vO l cap now)(hc:0<=cap)(s d:Int):rs s d now l<=cap:=by
 rcases bIj (s:=s) (d:=d) (now:=now) (l:=l) with h0 | ⟨x,hx,h1,h2⟩
 .omega
 .have :=h.rate x hx;rw[h1,h2]at this;exact this
theorem bEe{l:lRs}{cap now:Int}(h:vO l cap now)(hc:1<=cap/\cap<=20)(s d:Int):free l cap s d now=cap - rs s d now l:=by
 have h1:=h.rs_le (by omega) s d;have h2:=aSt (s:=s) (d:=d) (now:=now) (vI h.val);unfold free;rw[aPi (vI h.val) (by have :=h.len;omega),show wr (cap - rs s d now l)=cap - rs s d now l from wri (by omega) (by omega)];split<;>omega
structure OkS (g:den tSc) (now:Int):Prop where
 lo:(1:Int)<=g.1
 hi:(20:Int)>=g.1
 res:vO g.2.1 g.1 now
 use:aU0 g now
theorem bW3{g:den tSc}{now:Int}:aFz g now=true↔OkS g now:=by
 rw[bKv,bQh];exact⟨λ⟨a,b,c,d⟩=>⟨a,b,c,d⟩,λ⟨a,b,c,d⟩=>⟨a,b,c,d⟩⟩
theorem OkS.rate_le{g:den tSc}{now:Int}(h:OkS g now)(id s d:Int):0<=pB g id s d now/\pB g id s d now<=20:=by
 unfold pB;split
 .rw[bEe h.res ⟨h.lo,h.hi⟩];have h1:=h.res.rs_le (by have :=h.lo;omega) s d;have h2:=aSt (s:=s) (d:=d) (now:=now) (vI h.res.val);have :=h.hi;omega
 .rw[bI8];exact bMd (vI h.res.val)
abbrev cDu(p:Int×Bool×lRs×lUs):den tSc:=(p.1,p.2.2.1,p.2.2.2)
theorem OkS.trans{g:den tSc}{now:Int}(h:OkS g now)(id s d:Int):OkS (cDu (oC g id s d now)) now:=by
 unfold oC;split
 .rename_i hu;exact⟨h.lo,h.hi,h.res,h.use.more hu (by have :=h.rate_le id s d;omega)⟩
 .split
  .rename_i hu;exact⟨h.lo,h.hi,h.res,h.use.more hu (by have :=h.rate_le 0 s d;omega)⟩
  .exact h
theorem OkS.pw{g:den tSc}{now:Int}(h:OkS g now):g.2.2.Pairwise λx y=>jC x.1 x.2.1 x.2.2.1 y=false:=by
 rw[cH1];intro i j hi hj hij;cases hs:jC g.2.2[i].1 g.2.2[i].2.1 g.2.2[i].2.2.1 g.2.2[j] with
 | false=>rfl
 | true=>
  obtain⟨k1,k2,k3⟩:=aBj.1 hs;have a:=(h.use i _ (cFx hi)).1;have b:=(h.use j _ (cFx hj)).1;rw[k1,k2,k3,a]at b;omega
theorem bM1{l:lUs}{id s d:Int}(h:0<=dK l id s d/\dK l id s d<=1000000):dK (rW l id s d) id s d=dK l id s d+1:=by
 rcases aMc l id s d with ⟨h1,h2,h3,h4⟩ | ⟨j,y,h1,h2,h3,h4,h5⟩
 .rw[h3,h4];unfold dK;have e:place (l++[(id,s,d,1)]) id s d=(l.length:Int):=by
   rw[aNk,h1,zT (by decide)];unfold plc;rw[zT (show jC id s d (id,s,d,1)=true from aBj.2 ⟨rfl,rfl,rfl⟩)]
  rw[e,zS (by omega),cF2];simp
 .rw[h4]at h ⊢;rw[h5];unfold dK;rw[aMq (aQ4 h2 _),h1,zS (by omega),cF2,cIo (cFz.1 h2).1];simp only[Option.map_some,cGy];exact wri (by omega) (by omega)
theorem bW2{l:lRs}{x:den tRs}{cap now:Int}(h:l.length<=1000000):∃b,aDl l x cap now=some (b,admR l x cap now):=by
 have hf:(l.filter λy=> !kF x y).length<=1000000:=cFv (cIn ..) h;unfold aDl admR pj5 zz4;rw[show ((x.1,x.2.1,x.2.2.1,x.2.2.2.1,x.2.2.2.2):den tRs)=x from rfl,bP5 (by omega),aA,bT3,aA,bPv (by omega),aA];rw[aE (b:=40) (by decide) (by simp;omega),aE (b:=40) (by decide) (by omega)];cases c1:xI x
 .exact⟨false,by simp⟩
 .cases c2:decide (x.2.2.2.2<now)
  .cases c3:decide (wr (rate (l.filter λy=> !kF x y) x.2.1 x.2.2.1 now+x.2.2.2.1)>cap)
   .cases c4:decide (((l.filter λy=> !kF x y).length:Int)>=40)
    .exact⟨true,by simp only[cF0,zY,zZ,aA,cHj,cF1,zU]⟩
    .exact⟨false,by simp[aA]⟩
   .exact⟨false,by simp[aA]⟩
  .exact⟨false,by simp[aA]⟩
theorem aE2{l:List Int}{n x:Int}(h:x∈qV l n):x=n\/x∈l:=by
 unfold qV at h;split at h
 .exact .inr h
 .simp only[cF6,cF5]at h;rcases h with (h | h) | h
  .exact .inr (cHk h)
  .exact .inl h
  .exact .inr (cHq h)
theorem bOf{r d:Int}{x:den tLk}{a:List Int}(h:d∈pS r x a):dL x r d=true\/d∈a:=by
 unfold pS at h;unfold dL;cases c1:x.1==r<;>cases c2:x.2.2.1==r<;>rw[c1,c2]at h<;>simp only[zZ,zY]at h
 .exact .inr h
 .rcases aE2 h with e | h
  .left;simp[e]
  .exact .inr h
 .rcases aE2 h with e | h
  .left;simp[e]
  .exact .inr h
 .rcases aE2 h with e | h
  .left;simp[e]
  .rcases aE2 h with e | h
   .left;simp[e]
   .exact .inr h
theorem bOx{t:den tTo}{r d:Int}(h:d∈hZ t r):∃x∈t.2,dL x r d=true:=by
 have :∀(l:lLk) (k:Nat) (a:List Int),d∈bO (λ_ x a=>pS r x a) k l a->(∃x∈l,dL x r d=true)\/d∈a:=by
  intro l
  induction l with
  | nil=>intro k a h;exact .inr h
  | cons x l ih=>
   intro k a h;rcases ih (k+1) (pS r x a) h with ⟨y,hy,e⟩ | h
   .exact .inl ⟨y,cF7 _ hy,e⟩
   .rcases bOf h with e | h
    .exact .inl ⟨x,by simp,e⟩
    .exact .inr h
 rcases this t.2 0 [] h with h | h
 .exact h
 .cases h
theorem bB6{t:den tTo}{r d:Int}(h:∃x∈t.2,dL x r d=true):∃(j:Nat) (x:den tLk),rA t r d=(j:Int)/\t.2[j]? =some x/\dL x r d=true:=by
 rcases aF7 t r d with e | h
 .exfalso;have :∀(l:lLk) (k:Nat),(∃x∈l,dL x r d=true)-> ∃i,bW (λk x=>if dL x r d then some ((k:Nat):Int) else none) k l=some i/\0<=i:=by
   intro l
   induction l with
   | nil=>rintro k ⟨x,hx,_⟩;cases hx
   | cons y l ih=>
    rintro k ⟨x,hx,hxe⟩
    cases c:dL y r d with
    | true=>exact⟨(k:Int),by simp[bW,c],by omega⟩
    | false=>
     rcases cFy.1 hx with rfl | hx
     .rw[c]at hxe;cases hxe
     .obtain⟨i,h1,h2⟩:=ih (k+1) ⟨x,hx,hxe⟩;exact⟨i,by simp only[bW,c];exact h1,h2⟩
  obtain⟨i,h1,h2⟩:=this t.2 0 h;unfold rA at e;rw[h1]at e;have e:i= -1:=e;omega
 .exact h
theorem bN9{t:den tTo}(hv:∀x∈t.2,aA4 t x=true){r d:Int}(h:d∈hZ t r):dE t (remote t r d).1=true:=by
 obtain⟨j,x,e,hx,he⟩:=bB6 (bOx h);have hl:=hv x (cF9 hx);unfold remote;rw[e,zS (by omega),cF2,hx];unfold aA4 at hl;simp only[cFw]at hl;unfold bGw;simp only[cGy];cases x.1==r&&x.2.1==d with
 | true=>exact hl.2.1
 | false=>exact hl.1
theorem bMb{t:den tTo}{r k:Int}(h:t.2.length<=1000000):∃l,jH t r k=some l/\l.length<=2 * t.2.length/\ ∀d∈l,d∈hZ t r:=by
 have hd:=aF4 t r;unfold jH ixb pj2;rw[show ((t.1,t.2):den tTo)=t from rfl,aPg (t:=t) (by omega),aA];refine iW (G:=λo=> ∃l,o=some l/\l.length<=2 * t.2.length/\ ∀d∈l,d∈hZ t r) (hZ t r).length (λs:Int×List Int=>s.1) (λi s=>s.2.length<=i/\ ∀d∈s.2,d∈hZ t r) (λl:List Int=>l.length<=2 * t.2.length/\ ∀d∈l,d∈hZ t r) ?_ ?_ 0 ((0:Int),[]) (by omega) rfl ⟨by simp,λd hd=>(cGn hd).elim⟩ (λl hl=>⟨l,rfl,hl⟩)
 .rintro i ⟨_,l⟩ hi rfl ⟨h1,h2⟩
  right;simp only at h1 h2;simp only[zX (show (i:Int)<((hZ t r).length:Int) by omega),zX (show (0:Int)<=(i:Int) by omega),zZ,cF2,cFx hi,aA,aVg (t:=t) (show t.2.length<=68719476736 by omega),eE (show i<=1000000000 by omega)];rw[aE (b:=8) (n:=l.length) (m:=1) (by decide) (by omega),zZ];cases aCx t r (hZ t r)[i]==k with
  | true=>exact⟨_,rfl,rfl,by simp;omega,λd hd=>by
    rcases cF6.1 hd with hd | hd
    .exact h2 d hd
    .rw[cF5.1 hd];exact cHa hi⟩
  | false=>exact⟨_,rfl,rfl,by show l.length<=i+1;omega,h2⟩
 .rintro⟨_,l⟩ rfl ⟨h1,h2⟩
  exact⟨l,by simp only[zW (cG2 _),zY],by simp only at h1;omega,h2⟩
theorem aIs(l:List Int)(n:Int):n∈qV l n:=by
 unfold qV;split
 .next h=>exact cF9 h
 .simp
theorem aE0{l:List Int}{n x:Int}(h:x∈l):x∈qV l n:=by
 unfold qV;split
 .exact h
 .rw[<- cHe (mE l n) l]at h;simp only[cF6,cF5]at h ⊢;rcases h with h | h
  .exact .inl (.inl h)
  .exact .inr h
theorem bRe{l:List Int}{n:Int}(h:n∉l):(qV l n).length=l.length+1:=by
 unfold qV;rw[zS (λe=>h (cF9 e))];have :=aUs l n;simp;omega
theorem bL1{r d:Int}{x:den tLk}{a:List Int}(h:d∈a):d∈pS r x a:=by
 unfold pS;cases x.2.2.1==r<;>cases x.1==r<;>simp only[zZ,zY]
 .exact h
 .exact aE0 h
 .exact aE0 h
 .exact aE0 (aE0 h)
theorem bLz{r d:Int}{x:den tLk}{a:List Int}(h:dL x r d=true):d∈pS r x a:=by
 unfold dL at h;unfold pS;simp only[cHi,cFw]at h;rcases h with ⟨h1,h2⟩ | ⟨h1,h2⟩
 .rw[h1,eq_of_beq h2];cases x.2.2.1==r<;>simp only[zZ,zY]
  .exact aIs _ _
  .exact aE0 (aIs _ _)
 .rw[h1,eq_of_beq h2];cases x.1==r<;>simp only[zZ,zY]<;>exact aIs _ _
theorem aMg(as:lAS)(ls:lLk)(r:Int):hZ (as,ls) r=ls.foldl (λa x=>pS r x a) []:=uE (λa x=>pS r x a) ls 0 []
theorem bNm{as:lAS}{ls:lLk}{r d:Int}{x:den tLk}(hx:x∈ls)(h:dL x r d=true):d∈hZ (as,ls) r:=by
 rw[aMg];have keep:∀(l:lLk) (a:List Int),d∈a->d∈l.foldl (λa x=>pS r x a) a:=by
  intro l
  induction l with
  | nil=>exact λa h=>h
  | cons y l ih=>exact λa h=>ih _ (bL1 h)
 have :∀(l:lLk) (a:List Int),x∈l->d∈l.foldl (λa x=>pS r x a) a:=by
  intro l
  induction l with
  | nil=>exact λa h=>(cGn h).elim
  | cons y l ih=>
   intro a hm;rcases cFy.1 hm with rfl | hm
   .exact keep l _ (bLz h)
   .exact ih _ hm
 exact this ls [] hx
structure tB (ls:lLk):Prop where
 num:∀r d:Int,d∈hZ ([],ls) r->1<=d/\d<=((hZ ([],ls) r).length:Int)
 pw:ls.Pairwise λy x=>dL y x.1 x.2.1=false/\dL y x.2.2.1 x.2.2.2.1=false
theorem bKp:tB []:=⟨λr d h=>(cGn h).elim,List.Pairwise.nil⟩
theorem tB.no{ls:lLk}(h:tB ls){y:den tLk}(hy:y∈ls)(r:Int):dL y r (((hZ ([],ls) r).length:Int)+1)=false:=by
 cases e:dL y r (((hZ ([],ls) r).length:Int)+1) with
 | false=>rfl
 | true=>have :=(h.num r _ (bNm hy e)).2;omega
theorem tB.grow{L:List Int}(h:∀d∈L,(1:Int)<=d/\d<=(L.length:Int)):∀d∈qV L ((L.length:Int)+1),(1:Int)<=d/\d<=((qV L ((L.length:Int)+1)).length:Int):=by
 have hn:((L.length:Int)+1)∉L:=λe=>by have :=(h _ e).2;omega
 rw[bRe hn];intro d hd;rcases aE2 hd with rfl | hd
 .omega
 .have :=h d hd;omega
theorem tB.snoc{ls:lLk}(h:tB ls){a b:Int}(hab:a≠b)(k:Int):tB (ls++[(a,((hZ ([],ls) a).length:Int)+1,b,((hZ ([],ls) b).length:Int)+1,k)]):=by
 constructor
 .intro r;rw[aMg,List.foldl_append,<- aMg];show ∀d,d∈pS r _ _->_/\_<=((pS r _ _).length:Int)
  unfold pS
  by_cases ha:a=r
  .subst ha;have hb:(b==a)=false:=by simp;exact λe=>hab e.symm
   simp only[hb,beq_self_eq_true,zZ,zY];exact tB.grow (h.num a)
  .have ha':(a==r)=false:=by simpa using ha
   by_cases hb:b=r
   .subst hb;simp only[ha',beq_self_eq_true,zZ,zY];exact tB.grow (h.num b)
   .have hb':(b==r)=false:=by simpa using hb
    simp only[ha',hb',zY];exact h.num r
 .rw[cJn];refine⟨h.pw,List.pairwise_singleton _ _,λy hy x hx=> ?_⟩;rw[cF5.1 hx];exact⟨h.no hy a,h.no hy b⟩
theorem aI8{t:den tTo}{a b k:Int}(h:t.2.length<=1000000)(hab:a≠b)(hf:tB t.2):∃ls,wI t a b k=some (t.1,ls)/\ls.length<=t.2.length+1/\tB ls:=by
 have la:=aF4 t a;have lb:=aF4 t b;unfold wI pj2;rw[show ((t.1,t.2):den tTo)=t from rfl,aPg (t:=t) (by omega),aPg (t:=t) (by omega),aA,aA,aE (b:=40) (n:=t.2.length) (m:=1) (by decide) (by omega)];have w1:wr (((hZ t a).length:Int)+1)=((hZ t a).length:Int)+1:=bE (by omega) (by omega);have w2:wr (((hZ t b).length:Int)+1)=((hZ t b).length:Int)+1:=bE (by omega) (by omega);cases decide (wr (((hZ t a).length:Int)+1)<=6) with
 | false=>exact⟨t.2,rfl,by omega,hf⟩
 | true=>
  cases decide (wr (((hZ t b).length:Int)+1)<=6) with
  | false=>exact⟨t.2,rfl,by omega,hf⟩
  | true=>
   refine⟨t.2++[(a,wr (((hZ t a).length:Int)+1),b,wr (((hZ t b).length:Int)+1),k)],rfl,by simp,?_⟩;rw[w1,w2];exact hf.snoc hab k
def AsI(as:lAS):Prop:= ∀(j:Nat) (x:den tAS),as[j]? =some x->((0:Int)<=x.1/\(1:Int)>=x.1)/\ ∃v:Int,0<=v/\v<1000000/\1+8 * v+(j:Int)=x.2.2
theorem bYg:AsI []:=λj x h=>by simp at h
theorem AsI.snoc{as:lAS}(h:AsI as){d v:Int}{b:Bool}(hd:0<=d/\1>=d)(hv:0<=v/\v<1000000):AsI (as++[(d,b,1+8 * v+(as.length:Int))]):=by
 intro j x hx;rw[List.getElem?_append]at hx;split at hx
 .exact h j x hx
 .next hj=>
  have hj0:j - as.length=0:=by
   have :=(cFz.1 hx).1;simp at this;omega
  rw[hj0]at hx;simp only[cI7,Option.some.injEq]at hx;subst hx;exact⟨hd,v,hv.1,hv.2,by show 1+8 * v+(j:Int)=1+8 * v+(as.length:Int);omega⟩
theorem AsI.set{as:lAS}(h:AsI as){i q:Nat}(hi:i<as.length)(hq:q<as.length):AsI (as.set i (as[q].1,as[i].2.1,as[i].2.2)):=by
 intro j x hx;rw[cH3]at hx;split at hx
 .next e=>
  subst e;simp only[hi,zV,Option.some.injEq]at hx;subst hx;exact⟨(h q as[q] (cFx hq)).1,(h i as[i] (cFx hi)).2⟩
 .exact h j x hx
theorem bEa{α:Type}(p:Nat->α->Bool){l:List α}(h:∀(j:Nat) (x:α),l[j]? =some x->p j x=true):(l.zipIdx 0).all (λz=>p z.2 z.1)=true:=by
 rw[cGm]
 rintro⟨x,j⟩ hm
 exact h j x (by simpa using List.mem_zipIdx_iff_getElem?.1 hm)
theorem aIz{α:Type}{l:List α}{j:Nat}{y:α}(h:y∈l.take j):∃i,i<j/\l[i]? =some y:=by
 obtain⟨i,hi⟩:=cJg.1 h;rw[cHd]at hi;split at hi
 .next c=>exact⟨i,c,hi⟩
 .cases hi
theorem bYz{as:lAS}{ls:lLk}(h1:1<=as.length)(h8:as.length<=8)(ha:AsI as)(hv:∀x∈ls,aA4 (as,ls) x=true)(hp:ls.Pairwise λy x=>dL y x.1 x.2.1=false/\dL y x.2.2.1 x.2.2.2.1=false):aCl (as,ls)=true:=by
 unfold aCl;rw[cFw,cFw];refine⟨?_,?_,?_⟩
 .simp only[inR,cFw,zR];omega
 .refine bEa (asP (as,ls)) (l:=as) λj x hx=> ?_
  obtain⟨⟨a0,a1⟩,v,v0,v1,v2⟩:=ha j x hx;have hj:j<as.length:=(cFz.1 hx).1;have v2:1+8 * v+(j:Int)=x.2.2:=v2;unfold asP;simp only[cFw,inR,zR];refine⟨⟨a0,show (2:Int)>=x.1 by omega⟩,⟨show (1:Int)<=x.2.2 by omega,show (2147483646:Int)>=x.2.2 by omega⟩,cGm.2 λy hy=> ?_⟩;obtain⟨i,hi,hy⟩:=aIz hy;obtain⟨_,w,w0,w1,w2⟩:=ha i y hy;have w2:1+8 * w+(i:Int)=y.2.2:=w2;have :x.2.2≠y.2.2:=λe=>by
   have e:1+8 * v+(j:Int)=1+8 * w+(i:Int):=v2.trans (e.trans w2.symm);omega
  simpa using this
 .refine bEa (lkP (as,ls)) (l:=ls) λj x hx=> ?_
  unfold lkP;rw[cFw];refine⟨hv x (cF9 hx),cGm.2 λy hy=> ?_⟩;obtain⟨i,hi,hy⟩:=aIz hy;obtain⟨hi',ei⟩:=cFz.1 hy;obtain⟨hj',ej⟩:=cFz.1 hx;have :=(cH1.1 hp) i j hi' hj' hi;rw[ei,ej]at this;simp[this.1,this.2]
structure aD5 (as:lAS) (ls:lLk):Prop where
 pos:1<=as.length
 len:as.length<=8
 links:ls.length<=100
 val:∀x∈ls,aA4 (as,ls) x=true
 top:aCl (as,ls)=true
def aZl(code:List Int)(o:Option (lAS×lLk×List Int×q31)):Prop:= ∃as ls c' p' h',o=some (as,ls,c',p',h')/\aD5 as ls/\Cur code (c',p',h')
def T3I(code:List Int)(n:Nat)(i:Nat)(s:Int×lAS×lLk×List Int×q31):Prop:=(s.2.1.length=n/\AsI s.2.1/\tB s.2.2.1)/\s.2.2.1.length<=10 * i/\Cur code s.2.2.2
theorem bFj{code:List Int}(hl:code.length<=1048576){c:List Int}{p h:Int}(hc:Cur code (c,p,h)):aZl code (yF (c,p,h)):=by
 obtain⟨v1,c1,p1,h1,e1,r1,k1⟩:=bJ hl (n:=3) (by decide) (by decide) hc;obtain⟨v2,c2,p2,h2,e2,r2,k2⟩:=bJ hl (n:=6) (by decide) (by decide) k1;obtain⟨m1,rfl⟩:=cGr r1.1;obtain⟨m2,rfl⟩:=cGr r2.1;have w1:wr ((1:Int)+(m1:Int))=((m1+1:Nat):Int):=by rw[bE (by omega) (by omega)];omega
 have w2:wr (((m1+1:Nat):Int)+(m2:Int))=((m1+1+m2:Nat):Int):=by rw[bE (by omega) (by omega)];omega
 unfold yF ixb pj2 pj3 pj4 pj5;simp only[e1,e2,aA,bC,bT,bH,bI,bL,w1,w2];generalize hco:m1+1=co at *;generalize hn:co+m2=n at *;have hco1:1<=co:=by omega
 have hcn:co<=n:=by omega
 have hn8:n<=8:=by omega
 refine iW (G:=aZl code) n (λs:Int×lAS×List Int×Int×Int=>s.1) (λi s=>(s.2.1.length=i/\AsI s.2.1)/\Cur code s.2.2) (λr:lAS×List Int×Int×Int=>(r.1.length=n/\AsI r.1)/\Cur code r.2) ?_ ?_ 0 ((0:Int),[],c2,p2,h2) (by omega) rfl ⟨⟨rfl,bYg⟩,k2⟩ ?_
 .rintro i ⟨_,as,c3,p3,h3⟩ hi rfl ⟨⟨a1,a3⟩,a2⟩
  simp only at a1 a2 a3;right;obtain⟨v4,c4,p4,h4,e4,r4,k4⟩:=bJ hl (n:=2) (by decide) (by decide) a2;obtain⟨v5,c5,p5,h5,e5,r5,k5⟩:=aI5 hl (n:=1000000) (by decide) k4;refine⟨(((i+1:Nat):Int),as++[(v4,decide ((i:Int)<((co:Nat):Int)),wr ((wr ((1:Int)+(wr (v5 * (8:Int)))))+(i:Int)))],c5,p5,h5),?_,rfl,⟨by simp[a1],?_⟩,k5⟩;simp only[zX (show (i:Int)<(n:Int) by omega),zZ,e4,e5,aA,aE (b:=24) (n:=as.length) (m:=1) (by decide) (by omega),eE (show i<=1000000000 by omega)];have e:wr ((wr ((1:Int)+(wr (v5 * (8:Int)))))+(i:Int))=1+8 * v5+(as.length:Int):=by
   rw[bE (n:=v5 * 8) (by omega) (by omega),bE (n:=1+v5 * 8) (by omega) (by omega),bE (by omega) (by omega)];omega
  show AsI (as++[_]);rw[e];exact a3.snoc ⟨by omega,by omega⟩ ⟨by omega,by omega⟩
 .rintro⟨_,as,c3,p3,h3⟩ rfl ⟨a1,a2⟩
  exact⟨(as,c3,p3,h3),by simp only[zW (cG2 _),zY],a1,a2⟩
 rintro⟨as,c3,p3,h3⟩ ⟨⟨a1,a3⟩,a2⟩
 simp only at a1 a2 a3;refine iW (G:=aZl code) co (λs:Int×lAS×lLk×List Int×Int×Int=>s.1) (λi s=>1<=i/\T3I code n i s) (λr:lAS×lLk×List Int×Int×Int=>(r.1.length=n/\AsI r.1/\tB r.2.1)/\r.2.1.length<=10 * co/\Cur code r.2.2) ?_ ?_ 1 ((1:Int),as,[],c3,p3,h3) hco1 rfl ⟨cF8 1,⟨a1,a3,bKp⟩,by simp,a2⟩ ?_
 .rintro i ⟨_,as,ls,c4,p4,h4⟩ hi rfl ⟨b0,b1,b2,b3⟩
  simp only at b1 b2 b3;right;obtain⟨v5,c5,p5,h5,e5,r5,k5⟩:=bJ hl (n:=(i:Int)) (by omega) (by omega) b3;obtain⟨l6,e6,r6,f6⟩:=aI8 (t:=(as,ls)) (a:=v5) (b:=(i:Int)) (k:=1) (by show ls.length<=_;omega) (by omega) b1.2.2;obtain⟨v7,c7,p7,h7,e7,k7⟩:=vE hl (n:=2) (by decide) (by decide) k5;simp only at e6 r6;cases v7 with
  | false=>
   refine⟨(((i+1:Nat):Int),as,l6,c7,p7,h7),?_,rfl,by omega,⟨b1.1,b1.2.1,f6⟩,by simp only;omega,k7⟩;simp only[zX (show (i:Int)<(co:Int) by omega),zZ,zY,e5,e6,e7,aA,eE (show i<=1000000000 by omega)]
  | true=>
   obtain⟨v8,c8,p8,h8,e8,r8,k8⟩:=bJ hl (n:=(i:Int)) (by omega) (by omega) k7;obtain⟨l9,e9,r9,f9⟩:=aI8 (t:=(as,l6)) (a:=v8) (b:=(i:Int)) (k:=1) (by show l6.length<=_;omega) (by omega) f6;simp only at e9 r9;refine⟨(((i+1:Nat):Int),as,l9,c8,p8,h8),?_,rfl,by omega,⟨b1.1,b1.2.1,f9⟩,by simp only;omega,k8⟩;simp only[zX (show (i:Int)<(co:Int) by omega),zZ,e5,e6,e7,e8,e9,aA,eE (show i<=1000000000 by omega)]
 .rintro⟨_,as,ls,c4,p4,h4⟩ rfl ⟨b0,b1,b2,b3⟩
  exact⟨(as,ls,c4,p4,h4),by simp only[zW (cG2 _),zY],b1,b2,b3⟩
 rintro⟨as,ls,c4,p4,h4⟩ ⟨b1,b2,b3⟩
 simp only at b1 b2 b3;refine iW (G:=aZl code) n (λs:Int×lAS×lLk×List Int×Int×Int=>s.1) (λi s=>1<=i/\co<=i/\T3I code n i s) (λr:lAS×lLk×List Int×Int×Int=>(r.1.length=n/\AsI r.1/\tB r.2.1)/\r.2.1.length<=10 * n/\Cur code r.2.2) ?_ ?_ co (((co:Nat):Int),as,ls,c4,p4,h4) hcn rfl ⟨hco1,cF8 co,b1,b2,b3⟩ ?_
 .rintro i ⟨_,as,ls,c5,p5,h5⟩ hi rfl ⟨d0,d1,⟨d2,d5,d6⟩,d3,d4⟩
  simp only at d2 d3 d4 d5 d6;right;have hlen:(as.length:Int)=(n:Int):=by omega
  obtain⟨v6,c6,p6,h6,e6,r6,k6⟩:=bJ hl (n:=2) (by decide) (by decide) d4;obtain⟨m6,rfl⟩:=cGr r6.1;have w6:wr ((1:Int)+(m6:Int))=((m6+1:Nat):Int):=by rw[bE (by omega) (by omega)];omega
  simp only[hlen,zX (show (i:Int)<(n:Int) by omega),zZ,e6,w6,aA,Option.bind_assoc];refine aBl (G:=λo=> ∃s',o=some (cFu s')/\s'.1=((i+1:Nat):Int)/\1<=i+1/\co<=i+1/\T3I code n (i+1) s') (λ(m:Nat) (s:Int×lAS×lLk×List Int×q31)=>s.1=(m:Int)/\m<=2/\(s.2.1.length=n/\AsI s.2.1/\tB s.2.2.1)/\s.2.2.1.length+m<=10 * i+2/\Cur code s.2.2.2) (λr:lAS×lLk×List Int×Int×Int=>(r.1.length=n/\AsI r.1/\tB r.2.1)/\r.2.1.length<=10 * i+2/\Cur code r.2.2) ?_ (m6+1) (((m6+1:Nat):Int),as,ls,c6,p6,h6) ⟨rfl,by omega,⟨d2,d5,d6⟩,by simp only;omega,k6⟩ ?_
  .rintro m ⟨_,as,ls,c7,p7,h7⟩ ⟨rfl,f1,⟨f2,f5,f6⟩,f3,f4⟩
   simp only at f2 f3 f4 f5 f6;cases m with
   | zero=>exact .inl ⟨(as,ls,c7,p7,h7),rfl,⟨f2,f5,f6⟩,by simpa using f3,f4⟩
   | succ m=>
    right;obtain⟨v8,c8,p8,h8,e8,r8,k8⟩:=bJ hl (n:=(i:Int)) (by omega) (by omega) f4;obtain⟨q8,rfl⟩:=cGr r8.1;obtain⟨v9,c9,p9,h9,e9,k9⟩:=vE hl (n:=5) (by decide) (by decide) k8;have hq:q8<n:=by omega
    have hlen:(as.length:Int)=(n:Int):=by omega
    have hq1:as[q8]? =some (as[q8]'(by omega)):=cFx (by omega);have hi1:as[i]? =some (as[i]'(by omega)):=cFx (by omega);have wm:wr (((m+1:Nat):Int) - 1)=(m:Int):=by rw[bE (by omega) (by omega)];omega
    have fin:∀(as':lAS) (c p h:_),as'.length=n->AsI as'->Cur code (c,p,h)-> ∃s',(Option.bind (cond (decide ((0:Int)<=(q8:Int))) (cond (decide ((q8:Int)<(as'.length:Int))) (Option.bind as'[((q8:Nat):Int).toNat]? λx79=>cond (decide ((0:Int)<=(i:Int))) (cond (decide ((i:Int)<(as'.length:Int))) (Option.bind as'[((i:Nat):Int).toNat]? λx80=>cond (x79.1==x80.1) (Option.bind (wI (as',ls) (q8:Int) (i:Int) (2:Int)) λy81=>some (y81.1,y81.2,c,p,h)) (some (as',ls,c,p,h))) none) none) none) none) λ(s82:lAS×lLk×List Int×q31)=>some (cFu (wr (((m+1:Nat):Int) - (1:Int)),s82.1,s82.2.1,s82.2.2.1,s82.2.2.2.1,s82.2.2.2.2)):Option ((Int×lAS×lLk×List Int×q31)⊕(lAS×lLk×List Int×q31)))=some (cFu s')/\s'.1=(m:Int)/\m<=2/\(s'.2.1.length=n/\AsI s'.2.1/\tB s'.2.2.1)/\s'.2.2.1.length+m<=10 * i+2/\Cur code s'.2.2.2:=by
     intro as' c p h g1 g3 g2;have hl':(as'.length:Int)=(n:Int):=by omega
     have hq1:as'[q8]? =some (as'[q8]'(by omega)):=cFx (by omega);have hi1:as'[i]? =some (as'[i]'(by omega)):=cFx (by omega);simp only[hl',zX (show (0:Int)<=(q8:Int) by omega),zX (show (q8:Int)<(n:Int) by omega),zX (show (0:Int)<=(i:Int) by omega),zX (show (i:Int)<(n:Int) by omega),zZ,cF2,hq1,hi1,aA,wm];obtain⟨l6,e6,r6,z6⟩:=aI8 (t:=(as',ls)) (a:=(q8:Int)) (b:=(i:Int)) (k:=2) (by show ls.length<=_;omega) (by omega) f6;simp only at e6 r6;cases (as'[q8]'(by omega)).1==(as'[i]'(by omega)).1 with
     | true=>exact⟨_,by simp only[zZ,e6,aA];rfl,rfl,by omega,⟨g1,g3,z6⟩,by simp only;omega,g2⟩
     | false=>exact⟨_,by simp only[zY,aA];rfl,rfl,by omega,⟨g1,g3,f6⟩,by simp only;omega,g2⟩
    cases v9 with
    | true=>
     obtain⟨s',g1,g2⟩:=fin as c9 p9 h9 f2 f5 k9;refine⟨m,s',by omega,?_,g2⟩;rw[<- g1];simp only[zX (show ((m+1:Nat):Int)>0 by omega),zZ,zY,e8,e9,aA,cF0]
    | false=>
     obtain⟨s',g1,g2⟩:=fin (as.set i ((as[q8]'(by omega)).1,(as[i]'(by omega)).2.1,(as[i]'(by omega)).2.2)) c9 p9 h9 (by simp[f2]) (f5.set (by omega) (by omega)) k9;refine⟨m,s',by omega,?_,g2⟩;rw[<- g1];simp only[zX (show ((m+1:Nat):Int)>0 by omega),zZ,e8,e9,aA,cGa,hlen,zX (show (0:Int)<=(q8:Int) by omega),zX (show (q8:Int)<(n:Int) by omega),zX (show (0:Int)<=(i:Int) by omega),zX (show (i:Int)<(n:Int) by omega),cF2,hq1,hi1]
  .rintro⟨as,ls,c7,p7,h7⟩ ⟨⟨f1,f5,f6⟩,f2,f3⟩
   simp only at f1 f2 f3 f5 f6;have w7:wr (wr ((i:Int) - (co:Int))+1)=((i - co+1:Nat):Int):=by rw[bE (n:=(i:Int) - (co:Int)) (by omega) (by omega),bE (by omega) (by omega)];omega
   obtain⟨v8,c8,p8,h8,e8,r8,k8⟩:=bJ hl (n:=((i - co+1:Nat):Int)) (by omega) (by omega) f3;obtain⟨v9,c9,p9,h9,e9,k9⟩:=vE hl (n:=3) (by decide) (by decide) k8;simp only[w7,e8,aA,eE (show i<=1000000000 by omega)];cases hlt:decide (wr ((co:Int)+v8)<(i:Int)) with
   | false=>exact⟨_,by simp only[zY,aA];rfl,rfl,by omega,by omega,⟨f1,f5,f6⟩,by simp only;omega,k8⟩
   | true=>
    have hlt':=of_decide_eq_true hlt;obtain⟨l6,e6,r6,z6⟩:=aI8 (t:=(as,ls)) (a:=wr ((co:Int)+v8)) (b:=(i:Int)) (k:=3) (by show ls.length<=_;omega) (by omega) f6;simp only at e6 r6;cases v9 with
    | false=>exact⟨_,by simp only[zZ,zY,e9,aA];rfl,rfl,by omega,by omega,⟨f1,f5,f6⟩,by simp only;omega,k9⟩
    | true=>exact⟨_,by simp only[zZ,e9,e6,aA];rfl,rfl,by omega,by omega,⟨f1,f5,z6⟩,by simp only;omega,k9⟩
 .rintro⟨_,as,ls,c5,p5,h5⟩ rfl ⟨d0,d1,⟨d2,d5⟩,d3,d4⟩
  simp only at d2 d3 d4 d5;exact⟨(as,ls,c5,p5,h5),by simp only[d2,zW (cG2 _),zY],⟨d2,d5⟩,d3,d4⟩
 rintro⟨as,ls,c5,p5,h5⟩ ⟨⟨d2,d5,d6⟩,d3,d4⟩
 simp only at d2 d3 d4 d5 d6;refine iW (G:=aZl code) ls.length (λs:Int×lLk=>s.1) (λi s=>(s.2.length<=i/\cIp s.2 (ls.take i))/\ ∀x∈s.2,aA4 (as,ls) x=true) (λr:lLk=>(r.length<=ls.length/\cIp r ls)/\ ∀x∈r,aA4 (as,ls) x=true) ?_ ?_ 0 ((0:Int),[]) (by omega) rfl ⟨⟨by simp,List.nil_sublist _⟩,λd hd=>(cGn hd).elim⟩ ?_
 .rintro i ⟨_,l⟩ hi rfl ⟨⟨g1,g3⟩,g2⟩
  simp only at g1 g2 g3;right;have htk:ls.take (i+1)=ls.take i++[ls[i]]:=(List.take_append_getElem hi).symm;simp only[zX (show (i:Int)<(ls.length:Int) by omega),zX (show (0:Int)<=(i:Int) by omega),zZ,cF2,cFx hi,aA,bF5 (t:=(as,ls)) (show as.length<=68719476736 by omega),eE (show i<=1000000000 by omega)];rw[aE (b:=40) (n:=l.length) (m:=1) (by decide) (by omega),zZ];cases hv:aA4 (as,ls) ls[i] with
  | true=>exact⟨_,rfl,rfl,⟨by simp;omega,by rw[htk];exact g3.append (cIp.refl _)⟩,λx hx=>by
    rcases cF6.1 hx with hx | hx
    .exact g2 x hx
    .rw[cF5.1 hx];exact hv⟩
  | false=>exact⟨_,rfl,rfl,⟨by show l.length<=i+1;omega,by rw[htk];exact g3.trans (List.sublist_append_left _ _)⟩,g2⟩
 .rintro⟨_,l⟩ rfl ⟨⟨g1,g3⟩,g2⟩
  exact⟨l,by simp only[zW (cG2 _),zY],⟨g1,g3.trans (List.take_sublist _ _)⟩,g2⟩
 rintro l ⟨⟨g1,g3⟩,g2⟩
 exact⟨as,l,c5,p5,h5,rfl,⟨by omega,by omega,by omega,g2,bYz (by omega) (by omega) d5 g2 (d6.pw.sublist g3)⟩,d4⟩
theorem bAk{s:den tSg}(h:s.2.2.length<=1000000):∃l,eF s=some l/\l.length=s.2.2.length:=by
 unfold eF;refine iW (G:=λo=> ∃l,o=some l/\l.length=s.2.2.length) s.2.2.length (λs:Int×List Int=>s.1) (λi t=>t.2.length=i) (λl:List Int=>l.length=s.2.2.length) ?_ ?_ 0 ((0:Int),[]) (by omega) rfl rfl (λl hl=>⟨l,rfl,hl⟩)
 .rintro i ⟨_,l⟩ hi rfl h1
  simp only at h1;right;refine⟨(((i+1:Nat):Int),l++[s.2.2[i].1]),?_,rfl,by simp[h1]⟩;simp only[zX (show (i:Int)<(s.2.2.length:Int) by omega),zZ,aN,cFx hi,aA,aE (b:=8) (n:=l.length) (m:=1) (by decide) (by omega),eE (show i<=1000000000 by omega)]
 .rintro⟨_,l⟩ rfl h1
  exact⟨l,by simp only[zW (cG2 _),zY],h1⟩
theorem bMo{s:den tSg}{n:Nat}(hn:n<=s.2.2.length)(h:s.2.2.length<=1000000):∃l,qO s (n:Int)=some l/\l.length=n:=by
 unfold qO zz4;refine iW (G:=λo=> ∃l,o=some l/\l.length=n) n (λs:Int×List Int=>s.1) (λi t=>t.2.length=i) (λl:List Int=>l.length=n) ?_ ?_ 0 ((0:Int),[]) (by omega) rfl rfl (λl hl=>⟨l,rfl,hl⟩)
 .rintro i ⟨_,l⟩ hi rfl h1
  simp only at h1;right;have hi':i<s.2.2.length:=by omega
  refine⟨(((i+1:Nat):Int),l++[s.2.2[i].2.2.2.2]),?_,rfl,by simp[h1]⟩;simp only[zX (show (i:Int)<(n:Int) by omega),zZ,aN,cFx hi',aA,aE (b:=8) (n:=l.length) (m:=1) (by decide) (by omega),eE (show i<=1000000000 by omega)]
 .rintro⟨_,l⟩ rfl h1
  exact⟨l,by simp only[zW (cG2 _),zY],h1⟩
theorem bNp{b:Int}{l:List Int}(h:l.length<=1000000):∃v,rM b l=some v:=by
 unfold rM;refine iW (G:=λo=> ∃v,o=some v) l.length (λs:Int×Int=>s.2) (λi t=>True) (λv:Int=>True) ?_ ?_ 0 (b,(0:Int)) (by omega) rfl trivial (λv hv=>⟨v,rfl⟩)
 .rintro i ⟨v,_⟩ hi rfl _
  right;refine⟨(aLw v l[i],((i+1:Nat):Int)),?_,rfl,trivial⟩;simp only[zX (show (i:Int)<(l.length:Int) by omega),zZ,aN,cFx hi,aA,aSp,eE (show i<=1000000000 by omega)]
 .rintro⟨v,_⟩ rfl _
  exact⟨v,by simp only[zW (cG2 _),zY],trivial⟩
theorem aRc{s:den tSg}(i:Int)(h:s.2.2.length<=1000000):∃v,iO s i=some v:=by
 unfold iO pj3;rw[jU,aA];cases hc:inR i 0 (s.2.2.length:Int) with
 | false=>exact⟨0,rfl⟩
 | true=>
  obtain⟨h0,h1⟩:=aV.1 hc;obtain⟨n,rfl⟩:=cGr h0;obtain⟨l,e,k⟩:=bMo (s:=s) (n:=n) (by omega) h;obtain⟨v,e2⟩:=bNp (b:=s.2.1) (l:=l) (by omega);refine⟨v,?_⟩;show Option.bind (qO s (n:Int)) _=_;rw[e,aA,e2,aA]
theorem aZr(key ts b:Int)(h:den bV):gC key ts b h=some (h.1,h.2.1,h.2.2.1,h.2.2.2.1,aKf key ts b h):=by
 unfold gC pj5;rw[show ((h.1,h.2.1,h.2.2.1,h.2.2.2.1,h.2.2.2.2):den bV)=h from rfl,bNy,aA]
def cFl(code:List Int)(o:Option (Int×Int×cR×List Int×q31)):Prop:= ∃a b hs c' p' h',o=some (a,b,hs,c',p',h')/\hs.length<=5/\Cur code (c',p',h')
def aMt(hs:cR):Prop:= ∀x∈hs,(0:Int)<=x.1/\(8:Int)>x.1
def cEz(code:List Int)(o:Option (Int×Int×cR×List Int×q31)):Prop:= ∃a b hs c' p' h',o=some (a,b,hs,c',p',h')/\(hs.length<=5/\aMt hs)/\Cur code (c',p',h')
theorem aMt.snoc{hs:cR}{x:den bV}(h:aMt hs)(hx:(0:Int)<=x.1/\(8:Int)>x.1):aMt (hs++[x]):=λy hy=>(cF6.1 hy).elim (h y) λhy=>by rw[cF5.1 hy];exact hx
def InN(n:Int)(hs:cR):Prop:= ∀x∈hs,(0:Int)<=x.1/\n>x.1
def bQ1(n:Int)(code:List Int)(o:Option (Int×Int×cR×List Int×q31)):Prop:= ∃a b hs c' p' h',o=some (a,b,hs,c',p',h')/\(hs.length<=5/\InN n hs)/\Cur code (c',p',h')
theorem InN.snoc{n:Int}{hs:cR}{x:den bV}(h:InN n hs)(hx:(0:Int)<=x.1/\n>x.1):InN n (hs++[x]):=λy hy=>(cF6.1 hy).elim (h y) λhy=>by rw[cF5.1 hy];exact hx
theorem InN.as{n:Int}{hs:cR}(h:InN n hs)(hn:n<=8):aMt hs:=λx hx=>⟨(h x hx).1,by have :=(h x hx).2;omega⟩
abbrev GrS:=Int×Int×Int×Int×Int×cR×List Int×Int×Int
theorem bFw{code:List Int}(hl:code.length<=1048576){as:lAS}{ls:lLk}(ht:aD5 as ls)(k:Int){c:List Int}{p h:Int}(hc:Cur code (c,p,h)):bQ1 (as.length:Int) code (kY (c,p,h) (as,ls) k):=by
 have hlen:=ht.len;have hlk:=ht.links;unfold kY dd ixb one pj2 pj3 pj5 pj6 zz4 zz5 zz6;simp only[bC,bT,bH,bI,bL];refine iW (G:=bQ1 (as.length:Int) code) as.length (λs:Int×List Int=>s.1) (λi t=>t.2.length<=i/\ ∀x∈t.2,0<=x/\x<(as.length:Int)) (λr:List Int=>r.length<=8/\ ∀x∈r,0<=x/\x<(as.length:Int)) ?_ ?_ 0 ((0:Int),[]) (by omega) rfl ⟨by simp,λd hd=>(cGn hd).elim⟩ ?_
 .rintro i ⟨_,l⟩ hi rfl ⟨g1,g2⟩
  simp only at g1 g2;right;simp only[zX (show (i:Int)<(as.length:Int) by omega),zZ,aN,cFx hi,aA,aE (b:=8) (n:=l.length) (m:=1) (by decide) (by omega),eE (show i<=1000000000 by omega)];cases as[i].2.1 with
  | true=>exact⟨_,rfl,rfl,by simp;omega,λx hx=>by
    rcases cF6.1 hx with hx | hx
    .exact g2 x hx
    .rw[cF5.1 hx];omega⟩
  | false=>exact⟨_,rfl,rfl,by show l.length<=i+1;omega,g2⟩
 .rintro⟨_,l⟩ rfl ⟨g1,g2⟩
  exact⟨l,by simp only[zW (cG2 _),zY],by simp only at g1;omega,g2⟩
 rintro cores ⟨g1,g2⟩
 obtain⟨v1,c1,p1,h1,e1,r1,k1⟩:=bJ hl (n:=50) (by decide) (by decide) hc;obtain⟨v2,c2,p2,h2,e2,r2,k2⟩:=aI5 hl (n:=1000000) (by decide) k1;simp only[e1,e2,aA]
 by_cases h0:cores.length=0
 .rw[show ((cores.length:Int)==0)=true by rw[beq_iff_eq];omega,zZ];exact⟨_,_,_,_,_,_,rfl,⟨by simp,λx hx=>(cGn hx).elim⟩,k2⟩
 rw[show ((cores.length:Int)==0)=false by rw[beq_eq_false_iff_ne];omega,zY];obtain⟨v3,c3,p3,h3,e3,r3,k3⟩:=bJ hl (n:=(cores.length:Int)) (by omega) (by omega) k2;obtain⟨m3,rfl⟩:=cGr r3.1;have hm3:m3<cores.length:=by omega
 have hr:=g2 cores[m3] (cHa hm3);simp only[e3,aA,zX (show (0:Int)<=(m3:Int) by omega),zX (show (m3:Int)<(cores.length:Int) by omega),zZ,cF2,cFx hm3];generalize cores[m3]=r at hr;refine iW (G:=bQ1 (as.length:Int) code) 5 (λs:GrS=>s.2.2.1) (λi s=>(0<=s.1/\s.1<(as.length:Int))/\(s.2.2.2.2.2.1.length=i/\InN (as.length:Int) s.2.2.2.2.2.1)/\Cur code s.2.2.2.2.2.2) (λz:((Int×Int×cR×List Int×q31)⊕(Int×Int×cR×List Int×q31))=> ∃a b hs c p h,(z= .inl (a,b,hs,c,p,h)\/z= .inr (a,b,hs,c,p,h))/\(hs.length<=5/\InN (as.length:Int) hs)/\Cur code (c,p,h)) ?_ ?_ 0 (r,(0:Int),(0:Int),v1,v2,[],c3,p3,h3) (by omega) rfl ⟨hr,⟨rfl,λx hx=>(cGn hx).elim⟩,k3⟩ ?_
 .rintro i ⟨r,inn,_,ts,be,hs,c4,p4,h4⟩ hi rfl ⟨b1,⟨b2,b2'⟩,b3⟩
  simp only at b1 b2 b2' b3;obtain⟨rn,rfl⟩:=cGr b1.1;have hrn:rn<as.length:=by omega
  obtain⟨ds,ek,dl,dm⟩:=bMb (t:=(as,ls)) (r:=(rn:Int)) (k:=k) (by show ls.length<=_;omega);have dl:ds.length<=2 * ls.length:=dl;have hout:∃out c5 p5 h5,(Option.bind (cond (decide ((ds.length:Int)>(0:Int))) (Option.bind (eD (c4,p4,h4) (5:Int)) λy35=>some (!y35.1,y35.2.1,y35.2.2.1,y35.2.2.2)) (some (false,c4,p4,h4))) λ(s36:Bool×List Int×q31)=>cond s36.1 (Option.bind (aF (s36.2.1,s36.2.2.1,s36.2.2.2) (ds.length:Int)) λy37=>cond (decide ((0:Int)<=y37.1)) (cond (decide (y37.1<(ds.length:Int))) (Option.bind ds[y37.1.toNat]? λx38=>some (x38,y37.2.1,y37.2.2.1,y37.2.2.2)) none) none) (some ((0:Int),s36.2.1,s36.2.2.1,s36.2.2.2)):Option (Int×List Int×q31))=some (out,c5,p5,h5)/\(out=0\/out∈hZ (as,ls) (rn:Int))/\Cur code (c5,p5,h5):=by
   by_cases hd:(ds.length:Int)>0
   .obtain⟨v5,c5,p5,h5,e5,k5⟩:=vE hl (n:=5) (by decide) (by decide) b3;simp only[zX hd,zZ,e5,aA];cases v5 with
    | true=>exact⟨0,c5,p5,h5,rfl,.inl rfl,k5⟩
    | false=>
     obtain⟨v6,c6,p6,h6,e6,r6,k6⟩:=bJ hl (n:=(ds.length:Int)) hd (by omega) k5;obtain⟨m6,rfl⟩:=cGr r6.1;have hm6:m6<ds.length:=by omega
     exact⟨ds[m6],c6,p6,h6,by simp only[cGa,zZ,e6,aA,zX (show (0:Int)<=(m6:Int) by omega),zX (show (m6:Int)<(ds.length:Int) by omega),cF2,cFx hm6],.inr (dm _ (cHa hm6)),k6⟩
   .exact⟨0,c4,p4,h4,by simp only[zW hd,zY,aA],.inl rfl,b3⟩
  obtain⟨out,c5,p5,h5,eo,ho,k5⟩:=hout;obtain⟨al,ea,hal⟩:=bAk (s:=(ts,be,hs)) (by show hs.length<=_;omega);have hal:al.length=hs.length:=hal;have er:=aIa (t:=(as,ls)) (r:=(rn:Int)) (d:=out) (show ls.length<=68719476736 by omega);have hfar:out∈hZ (as,ls) (rn:Int)->0<=(remote (as,ls) (rn:Int) out).1/\(remote (as,ls) (rn:Int) out).1<(as.length:Int):=λhd=>by
   have :=bN9 (t:=(as,ls)) ht.val hd;unfold dE at this;obtain⟨h0,h1⟩:=aV.1 this;exact⟨h0,by simp only at h1;omega⟩
  generalize remote (as,ls) (rn:Int) out=fd at er hfar;obtain⟨far,door⟩:=fd;simp only at hfar;obtain⟨bb,eb⟩:∃b:Bool,(cond (out != (0:Int)) (Option.bind (eF (ts,be,hs)) λy41=>Option.bind (gJ y41 far) λy42=>cond y42 (some true) (cond (far==(rn:Int)) (some true) (some (inn==out)))) (some (inn==out)))=some b:=by
   rw[ea,aA,aH2 (by omega),aA];cases out != 0<;>cases pF al far<;>cases far==(rn:Int)<;>exact⟨_,rfl⟩
  obtain⟨v6,c6,p6,h6,e6,r6,k6⟩:=bJ hl (n:=50) (by decide) (by decide) k5;obtain⟨bt,et⟩:=aRc (s:=(ts,be,hs)) (hs.length:Int) (by show hs.length<=_;omega);have ix:as[rn]? =some as[rn]:=cFx hrn;have hap:aK 40 hs.length 1=true:=aE (by decide) (by omega);simp only[zX (show (i:Int)<5 by omega),zZ,ek,aA];rw[eo,aA];simp only[er,aA];rw[eb,aA];have body:∀o:Int,o=0\/o=out->(∃r,(cond (o==(0:Int)) (some (cFt (cFt (ts,be,hs++[(((rn:Int),inn,o,wr ((wr (ts+(50:Int)))+v6),aKf as[rn].2.2 ts bt ((rn:Int),inn,o,wr ((wr (ts+(50:Int)))+v6),0)):den bV)],c6,p6,h6)))) (some (cFu (far,door,wr ((i:Int)+(1:Int)),ts,be,hs++[(((rn:Int),inn,o,wr ((wr (ts+(50:Int)))+v6),aKf as[rn].2.2 ts bt ((rn:Int),inn,o,wr ((wr (ts+(50:Int)))+v6),0)):den bV)],c6,p6,h6))):Option (GrS⊕((Int×Int×cR×List Int×q31)⊕(Int×Int×cR×List Int×q31))))=some (.inr r)/\(∃a b hs c p h,(r= .inl (a,b,hs,c,p,h)\/r= .inr (a,b,hs,c,p,h))/\(hs.length<=5/\InN (as.length:Int) hs)/\Cur code (c,p,h)))\/
    ∃s':GrS,(cond (o==(0:Int)) (some (cFt (cFt (ts,be,hs++[(((rn:Int),inn,o,wr ((wr (ts+(50:Int)))+v6),aKf as[rn].2.2 ts bt ((rn:Int),inn,o,wr ((wr (ts+(50:Int)))+v6),0)):den bV)],c6,p6,h6)))) (some (cFu (far,door,wr ((i:Int)+(1:Int)),ts,be,hs++[(((rn:Int),inn,o,wr ((wr (ts+(50:Int)))+v6),aKf as[rn].2.2 ts bt ((rn:Int),inn,o,wr ((wr (ts+(50:Int)))+v6),0)):den bV)],c6,p6,h6))):Option (GrS⊕((Int×Int×cR×List Int×q31)⊕(Int×Int×cR×List Int×q31))))=some (.inl s')/\s'.2.2.1=((i+1:Nat):Int)/\(0<=s'.1/\s'.1<(as.length:Int))/\(s'.2.2.2.2.2.1.length=i+1/\InN (as.length:Int) s'.2.2.2.2.2.1)/\Cur code s'.2.2.2.2.2.2:=by
   intro o hoo;cases hz:(o==(0:Int)) with
   | true=>exact .inl ⟨_,rfl,ts,be,_,c6,p6,h6,.inr rfl,⟨by simp;omega,b2'.snoc ⟨by simp only;omega,by simp only;omega⟩⟩,k6⟩
   | false=>
    refine .inr ⟨_,rfl,eE (show i<=1000000000 by omega),?_,⟨by simp[b2],b2'.snoc ⟨by simp only;omega,by simp only;omega⟩⟩,k6⟩;have hne:o≠0:=by simpa using hz
    rcases hoo with h | rfl
    .exact absurd h hne
    .rcases ho with h | h
     .exact absurd h hne
     .exact hfar h
  cases bb with
  | true=>
   cases inn==(0:Int) with
   | true=>exact .inl ⟨_,rfl,ts,be,hs,c5,p5,h5,.inr rfl,⟨by omega,b2'⟩,k5⟩
   | false=>
    have :=body 0 (.inl rfl);simpa only [zZ,zY,aA,cG6,e6,aN,ix,et,aZr,hap] using this
  | false=>
   have :=body out (.inr rfl);simpa only [zZ,zY,aA,cG6,e6,aN,ix,et,aZr,hap] using this
 .rintro⟨r,inn,_,ts,be,hs,c4,p4,h4⟩ rfl ⟨b1,⟨b2,b2'⟩,b3⟩
  simp only at b1 b2 b2' b3;exact⟨.inl (ts,be,hs,c4,p4,h4),by simp only[show decide ((((5:Nat):Int))<(5:Int))=false from rfl,zY],ts,be,hs,c4,p4,h4,.inl rfl,⟨by omega,b2'⟩,b3⟩
 .rintro z ⟨a,b,hs,c,p,h,hz,h5,k5⟩
  rcases hz with rfl | rfl
  .exact⟨a,b,hs,c,p,h,rfl,h5,k5⟩
  .exact⟨a,b,hs,c,p,h,rfl,h5,k5⟩
theorem bY7{code:List Int}(hl:code.length<=1048576){as:lAS}{ls:lLk}(ht:aD5 as ls)(k:Int){c:List Int}{p h:Int}(hc:Cur code (c,p,h)):cEz code (kY (c,p,h) (as,ls) k):=by
 obtain⟨a,b,hs,c1,p1,h1,e,⟨l,m⟩,k1⟩:=bFw hl ht k hc;exact⟨a,b,hs,c1,p1,h1,e,⟨l,m.as (by have :=ht.len;omega)⟩,k1⟩
theorem aH1{code:List Int}(hl:code.length<=1048576){as:lAS}{ls:lLk}(ht:aD5 as ls)(k:Int){c:List Int}{p h:Int}(hc:Cur code (c,p,h)):cFl code (kY (c,p,h) (as,ls) k):=by
 obtain⟨a,b,hs,c1,p1,h1,e,⟨l,_⟩,k1⟩:=bY7 hl ht k hc;exact⟨a,b,hs,c1,p1,h1,e,l,k1⟩
theorem bEt{as:lAS}{ls:lLk}(ht:aD5 as ls){s:den tSg}(h:s.2.2.length<=1000):∃b,kC (as,ls) s=some b/\(b=true-> ∃x,s.2.2[0]? =some x/\dE (as,ls) x.1=true):=by
 obtain⟨al,ea,hal⟩:=bAk (s:=s) (by omega);have hlen:=ht.len;have hlk:=ht.links;unfold kC pj2 pj3 pj5;rw[jU,aA];cases hc:inR (s.2.2.length:Int) 1 8 with
 | false=>exact⟨false,rfl,λe=>by cases e⟩
 | true=>
  obtain⟨h0,h1⟩:=aV.1 hc;have h00:0<s.2.2.length:=by omega
  have i0:idx s.2.2 (0:Int)=some s.2.2[0]:=by rw[show (0:Int)=((0:Nat):Int) from rfl,aN,cFx h00]
  simp only[cF0,zY,i0,aA];cases s.2.2[0].2.1 != (0:Int) with
  | true=>exact⟨false,rfl,λe=>by cases e⟩
  | false=>
   simp only[zY];rw[show ((s.1,s.2.1,s.2.2):den tSg)=s from rfl,ea,aA];refine iW (G:=λo=> ∃b,o=some b/\(b=true-> ∃x,s.2.2[0]? =some x/\dE (as,ls) x.1=true)) s.2.2.length (λs:List Int×Int=>s.2) (λi t=>t.1=al/\(0<i->dE (as,ls) s.2.2[0].1=true)) (λr:Unit⊕Bool=>r= .inl ()/\dE (as,ls) s.2.2[0].1=true\/r= .inr false) ?_ ?_ 0 (al,(0:Int)) (by omega) rfl ⟨rfl,λh=>by omega⟩ ?_
   .rintro i ⟨_,_⟩ hi rfl ⟨rfl,g2⟩
    rename_i al;have ix:idx s.2.2 (i:Int)=some s.2.2[i]:=by rw[aN,cFx hi]
    simp only[zX (show (i:Int)<(s.2.2.length:Int) by omega),zZ,ix,aA];rw[show ((s.2.2[i].1,s.2.2[i].2.1,s.2.2[i].2.2.1,s.2.2[i].2.2.2.1,s.2.2[i].2.2.2.2):den bV)=s.2.2[i] from rfl,aM6,aA,aFx (t:=(as,ls)) (show as.length<=_ by omega),aA];have e1:cJ (0:Int) (i:Int) (al.length:Int)=true:=zG (by rw[hal];exact hi);have e2:gJ (cut al (0:Int) (i:Int)) s.2.2[i].1=some (pF (cut al (0:Int) (i:Int)) s.2.2[i].1):=aH2 (by rw[iQ];exact cFv (List.length_take_le _ _) (by omega));obtain⟨b,eb,hb⟩:∃b:Bool,(cond (!(jZ s.2.2[i])) (some true) (cond (!(dE (as,ls) s.2.2[i].1)) (some true) (cond (cJ (0:Int) (i:Int) (al.length:Int)) (Option.bind (gJ (cut al (0:Int) (i:Int)) s.2.2[i].1) λy20=>cond y20 (some true) (cond (s.2.2[i].2.2.1==(0:Int)) (some (decide ((i:Int)<(wr ((s.2.2.length:Int) - (1:Int)))))) (some false))) none)))=some b/\(b=false->dE (as,ls) s.2.2[i].1=true):=by
     rw[e1,e2,aA];cases jZ s.2.2[i]
     .exact⟨true,rfl,λe=>by cases e⟩
     .cases dE (as,ls) s.2.2[i].1
      .exact⟨true,rfl,λe=>by cases e⟩
      .cases pF (cut al (0:Int) (i:Int)) s.2.2[i].1
       .cases s.2.2[i].2.2.1==(0:Int)
        .exact⟨false,rfl,λ_=>rfl⟩
        .exact⟨_,rfl,λ_=>rfl⟩
       .exact⟨true,rfl,λ_=>rfl⟩
    rw[eb,aA];cases b with
    | true=>exact .inl ⟨.inr false,rfl,.inr rfl⟩
    | false=>
     have hok:=hb rfl
     by_cases hp:i=0
     .subst hp;refine .inr ⟨(al,((1:Nat):Int)),?_,rfl,rfl,λ_=>hok⟩;rfl
     .have hi1:i - 1<s.2.2.length:=by omega
      have w1:wr ((i:Int) - 1)=((i - 1:Nat):Int):=by rw[bE (by omega) (by omega)];omega
      have er:=aIa (t:=(as,ls)) (r:=s.2.2[i - 1].1) (d:=s.2.2[i - 1].2.2.1) (show ls.length<=68719476736 by omega);simp only[zY,zX (show (i:Int)>0 by omega),zZ,w1,aN,cFx hi1,aA,er];obtain⟨b2,eb2⟩:∃b:Bool,(cond ((remote (as,ls) s.2.2[i - 1].1 s.2.2[i - 1].2.2.1).1 != s.2.2[i].1) (some true) (some ((remote (as,ls) s.2.2[i - 1].1 s.2.2[i - 1].2.2.1).2 != s.2.2[i].2.1)))=some b:=by
       cases (remote (as,ls) s.2.2[i - 1].1 s.2.2[i - 1].2.2.1).1 != s.2.2[i].1<;>exact⟨_,rfl⟩
      rw[eb2,aA];cases b2 with
      | true=>exact .inl ⟨.inr false,rfl,.inr rfl⟩
      | false=>
       refine .inr ⟨(al,((i+1:Nat):Int)),?_,rfl,rfl,λ_=>g2 (by omega)⟩;simp only[zY,aA,cG6,eE (show i<=1000000000 by omega)]
   .rintro⟨_,_⟩ rfl ⟨rfl,g2⟩
    exact⟨.inl (),by simp only[zW (cG2 _),zY],.inl ⟨rfl,g2 h00⟩⟩
   .rintro r (⟨rfl,hr⟩ | rfl)
    .exact⟨true,rfl,λ_=>⟨s.2.2[0],cFx h00,hr⟩⟩
    .exact⟨false,rfl,λe=>by cases e⟩
theorem bYp{as:lAS}{ls:lLk}(ht:aD5 as ls){s:den tSg}(h:s.2.2.length<=1000):∃v,iF (as,ls) s=some v:=by
 have hlen:=ht.len;unfold iF pj2 pj3 pj5;refine iW (G:=λo=> ∃b,o=some b) s.2.2.length (λs:Int=>s) (λi t=>True) (λr:Unit⊕Int=>True) ?_ ?_ 0 (0:Int) (by omega) rfl trivial ?_
 .rintro i _ hi rfl _
  obtain⟨bt,et⟩:=aRc (s:=s) (i:Int) (by omega);have et:iO (s.1,s.2.1,s.2.2) (i:Int)=some bt:=et;have ev:=bA2 (t:=(as,ls)) (ts:=s.1) (beta:=bt) (h:=s.2.2[i]) (show as.length<=68719476736 by omega);have ev:gX (as,ls) s.1 bt (s.2.2[i].1,s.2.2[i].2.1,s.2.2[i].2.2.1,s.2.2[i].2.2.2.1,s.2.2[i].2.2.2.2)=some _:=ev;simp only[zX (show (i:Int)<(s.2.2.length:Int) by omega),zZ,aN,cFx hi,aA,et,ev,eE (show i<=1000000000 by omega)];cases aBy (as,ls) s.1 bt s.2.2[i] with
  | true=>exact .inr ⟨_,rfl,rfl,trivial⟩
  | false=>exact .inl ⟨_,rfl,trivial⟩
 .rintro _ rfl _
  exact⟨.inl (),by simp only[zW (cG2 _),zY],trivial⟩
 .rintro r _
  cases r with
  | inl u=>exact⟨_,rfl⟩
  | inr v=>exact⟨_,rfl⟩
theorem aXg{as:lAS}{ls:lLk}(ht:aD5 as ls){s:den tSg}(h:s.2.2.length<=1000):∃v,gK (as,ls) s=some v:=by
 have hlen:=ht.len;have hlk:=ht.links;obtain⟨b,eb,hb⟩:=bEt ht h;unfold gK pj2 pj3;have eb:kC (as,ls) (s.1,s.2.1,s.2.2)=some b:=eb;rw[eb,aA];cases b with
 | false=>exact⟨0,rfl⟩
 | true=>
  obtain⟨x,hx,hok⟩:=hb rfl;obtain⟨h0,rfl⟩:=cFz.1 hx;obtain⟨y,hy,iy⟩:=aG1 hok;have ef:dV (s.1,s.2.1,s.2.2)=some s.2.2[0].1:=by
   unfold dV;rw[show ((s.2.2.length:Int)==0)=false by rw[beq_eq_false_iff_ne];omega,zY,show (0:Int)=((0:Nat):Int) from rfl,aN,cFx h0,aA]
  have iy:idx as s.2.2[0].1=some y:=iy;simp only[cF0,zY,ef,iy,aA];cases y.2.1 with
  | false=>exact⟨0,rfl⟩
  | true=>
   simp only[cF0,zY];refine iW (G:=λo=> ∃b,o=some b) s.2.2.length (λs:Int×Int=>s.2) (λi t=>True) (λr:Int⊕Int=>True) ?_ ?_ 0 ((0:Int),(0:Int)) (by omega) rfl trivial ?_
   .rintro i ⟨k,_⟩ hi rfl _
    have ek:=aVg (t:=(as,ls)) (r:=s.2.2[i].1) (d:=s.2.2[i].2.2.1) (show ls.length<=68719476736 by omega);simp only[zX (show (i:Int)<(s.2.2.length:Int) by omega),zZ,aN,cFx hi,aA,ek,eE (show i<=1000000000 by omega)];cases s.2.2[i].2.2.1==(0:Int) with
    | true=>exact .inr ⟨_,rfl,rfl,trivial⟩
    | false=>
     cases k != (0:Int) with
     | false=>exact .inr ⟨_,rfl,rfl,trivial⟩
     | true=>
      simp only[zZ,zY,aA];cases aCx (as,ls) s.2.2[i].1 s.2.2[i].2.2.1 != k with
      | true=>exact .inl ⟨_,rfl,trivial⟩
      | false=>exact .inr ⟨_,rfl,rfl,trivial⟩
   .rintro⟨k,_⟩ rfl _
    exact⟨.inl k,by simp only[zW (cG2 _),zY],trivial⟩
   .rintro r _
    cases r with
    | inr v=>exact⟨_,rfl⟩
    | inl v=>
     simp only[cG6];cases v==(1:Int)
     .cases v==(2:Int)<;>exact⟨_,rfl⟩
     .exact⟨_,rfl⟩
theorem bJk{as:lAS}{ls:lLk}(ht:aD5 as ls){s:den tSg}(h:s.2.2.length<=1000):∃b,kM (as,ls) s=some b/\(b=true->s.2.2≠[]):=by
 obtain⟨b,eb,hb⟩:=bEt ht h;have hb:b=true->s.2.2≠[]:=λe he=>by
  obtain⟨x,hx,_⟩:=hb e;rw[he]at hx;cases hx
 obtain⟨v,ev⟩:=bYp ht h;obtain⟨k,ek⟩:=aXg ht h;have eb:kC (as,ls) (s.1,s.2.1,s.2.2)=some b:=eb;have ev:iF (as,ls) (s.1,s.2.1,s.2.2)=some v:=ev;have ek:gK (as,ls) (s.1,s.2.1,s.2.2)=some k:=ek;unfold kM pj2 pj3;simp only[eb,ev,ek,jU,aEs,aA];cases b
 .exact⟨_,rfl,λe=>Bool.noConfusion e⟩
 .have hb:=hb rfl;cases decide (v<0)
  .exact⟨_,rfl,λ_=>hb⟩
  .cases k != (0:Int)
   .exact⟨_,rfl,λ_=>hb⟩
   .cases inR s.1 0 1000000<;>exact⟨_,rfl,λ_=>hb⟩
theorem bSn{s:den tSg}(h:s.2.2.length<=1000):∃b,kK s=some b:=by
 unfold kK
 by_cases h0:(s.2.2.length:Int)>0
 .have w1:wr ((s.2.2.length:Int) - 1)=((s.2.2.length - 1:Nat):Int):=by rw[bE (by omega) (by omega)];omega
  rw[zX h0,zZ,w1,aN,cFx (by omega),aA,aA];exact⟨_,rfl⟩
 .rw[zW h0,zY];exact⟨_,rfl⟩
theorem bHq{a b:cR}(h:a.length<=1000000):∃v,kB a b=some v:=by
 unfold kB zz4
 by_cases hn:a.length=b.length
 .rw[hn,bne_self_eq_false,zY,<- hn];refine iW (G:=λo=> ∃b,o=some b) a.length (λs:Int=>s) (λi t=>True) (λr:Unit⊕Bool=>True) ?_ ?_ 0 (0:Int) (by omega) rfl trivial ?_
  .rintro i _ hi rfl _
   have h2:i<b.length:=by omega
   simp only[zX (show (i:Int)<(a.length:Int) by omega),zZ,aN,cFx hi,cFx h2,aA,eE (show i<=1000000000 by omega)];cases ((a[i].1==b[i].1)&&((a[i].2.1==b[i].2.1)&&((a[i].2.2.1==b[i].2.2.1)&&((a[i].2.2.2.1==b[i].2.2.2.1)&&((a[i].2.2.2.2==b[i].2.2.2.2)&&true))))) with
   | true=>exact .inr ⟨_,rfl,rfl,trivial⟩
   | false=>exact .inl ⟨_,rfl,trivial⟩
  .rintro _ rfl _
   exact⟨.inl (),by simp only[zW (cG2 _),zY],trivial⟩
  .rintro r _
   cases r with
   | inl u=>exact⟨_,rfl⟩
   | inr v=>exact⟨_,rfl⟩
 .rw[show ((a.length:Int) != (b.length:Int))=true by rw[bne_iff_ne];omega,zZ];exact⟨_,rfl⟩
theorem bOy{a b:den tSg}(h:a.2.2.length<=1000000):∃v,lH a b=some v:=by
 obtain⟨v,e⟩:=bHq (b:=b.2.2) h;unfold lH;rw[e,aA];cases a.1==b.1
 .exact⟨_,rfl⟩
 .cases a.2.1==b.2.1<;>exact⟨_,rfl⟩
theorem aZi{l:lSg}{s:den tSg}(hl:l.length<=1000000)(h:∀x∈l,x.2.2.length<=1000):∃v,vF l s=some v:=by
 unfold vF pj3;refine iW (G:=λo=> ∃b,o=some b) l.length (λs:Int=>s) (λi t=>True) (λr:Unit⊕Bool=>True) ?_ ?_ 0 (0:Int) (by omega) rfl trivial ?_
 .rintro i _ hi rfl _
  obtain⟨v,e⟩:=bOy (a:=l[i]) (b:=s) (by have :=h l[i] (cHa hi);omega);have e:lH (l[i].1,l[i].2.1,l[i].2.2) (s.1,s.2.1,s.2.2)=some v:=e;simp only[zX (show (i:Int)<(l.length:Int) by omega),zZ,aN,cFx hi,aA,e,eE (show i<=1000000000 by omega)];cases v with
  | false=>exact .inr ⟨_,rfl,rfl,trivial⟩
  | true=>exact .inl ⟨_,rfl,trivial⟩
 .rintro _ rfl _
  exact⟨.inl (),by simp only[zW (cG2 _),zY],trivial⟩
 .rintro r _
  cases r with
  | inl u=>exact⟨_,rfl⟩
  | inr v=>exact⟨_,rfl⟩
structure DbD (n:Nat) (d c:lSg):Prop where
 down:d.length<=n
 core:c.length<=n
 hd:∀x∈d,x.2.2.length<=5
 hc:∀x∈c,x.2.2.length<=5
 ha:∀x∈d,x.2.2≠[]/\aMt x.2.2
theorem aP1{l:lSg}{n:Nat}(hn:n<=1000)(h:l.length<=n)(hh:∀x∈l,x.2.2.length<=5):SmB 68719476736 (.sl tSg) l:=by
 refine⟨by omega,λx hx=>⟨trivial,trivial,?_,λe he=>⟨trivial,trivial,trivial,trivial,trivial⟩⟩⟩;have :=hh x hx;show x.2.2.length<=_;omega
def bKz(t:den tTo)(s:den tSg)(k:Int):Prop:=kM t s=some true/\kK s=some true/\gK t s=some k
theorem bNa{as:lAS}{ls:lLk}(ht:aD5 as ls){n:Nat}(hn:n<=100){d c:lSg}(hk:DbD n d c){s:den tSg}(h:s.2.2.length<=5)(ha:aMt s.2.2):∃d' c',pM (as,ls) (d,c) s=some (d',c')/\DbD (n+1) d' c'/\(∀x∈d',x∈d\/(x=s/\bKz (as,ls) s 2))/\(∀x∈c',x∈c\/(x=s/\ ∃k,bKz (as,ls) s k/\k≠2)):=by
 obtain⟨b1,e1,hb1⟩:=bJk ht (s:=s) (by omega);obtain⟨b2,e2⟩:=bSn (s:=s) (by omega);obtain⟨b3,e3⟩:=aZi (l:=d) (s:=s) (by have :=hk.down;omega) (λx hx=>by have :=hk.hd x hx;omega);obtain⟨b4,e4⟩:=aZi (l:=c) (s:=s) (by have :=hk.core;omega) (λx hx=>by have :=hk.hc x hx;omega);obtain⟨k,ek⟩:=aXg ht (s:=s) (by omega);have c1:=aFa (aP1 (by omega) hk.down hk.hd);have c2:=aFa (aP1 (by omega) hk.core hk.hc);have c3:=aKr (x:=s) (by omega);have e5:∃b,pU (d,c) s=some b:=by
  unfold pU pj3;have e3:vF d (s.1,s.2.1,s.2.2)=some b3:=e3;have e4:vF c (s.1,s.2.1,s.2.2)=some b4:=e4;simp only[e3,e4,aA];cases b3<;>exact⟨_,rfl⟩
 obtain⟨b5,e5⟩:=e5;have hdn:=hk.down;have hcn:=hk.core;have e1:kM (as,ls) (s.1,s.2.1,s.2.2)=some b1:=e1;have e2:kK (s.1,s.2.1,s.2.2)=some b2:=e2;have e5:pU (d,c) (s.1,s.2.1,s.2.2)=some b5:=e5;have ek:gK (as,ls) (s.1,s.2.1,s.2.2)=some k:=ek;have c3:iV (s.1,s.2.1,s.2.2)=some s:=c3;have same:DbD (n+1) d c:=⟨by omega,by omega,hk.hd,hk.hc,hk.ha⟩
 unfold pM pj2 pj3;simp only[c1,c2,aA,bC,bT,bH,bI,bL,e1,e2,e5,ek,c3,aE (b:=40) (n:=d.length) (m:=1) (by decide) (by omega),aE (b:=40) (n:=c.length) (m:=1) (by decide) (by omega),zZ];obtain⟨b6,e6,hb6⟩:∃b:Bool,(cond (!b1) (some true) (cond (!b2) (some true) (some b5)))=some b/\(b=false->b1=true/\b2=true):=by
  cases b1
  .exact⟨_,rfl,λe=>Bool.noConfusion e⟩
  .cases b2
   .exact⟨_,rfl,λe=>Bool.noConfusion e⟩
   .exact⟨_,rfl,λ_=>⟨rfl,rfl⟩⟩
 rw[e6,aA];cases b6 with
 | true=>exact⟨d,c,rfl,same,λx hx=> .inl hx,λx hx=> .inl hx⟩
 | false=>
  obtain⟨hb1t,hb2t⟩:=hb6 rfl;have hne:=hb1 hb1t;rw[hb1t]at e1;rw[hb2t]at e2;cases hk2:(k==(2:Int)) with
  | true=>
   have hk2:k=2:=eq_of_beq hk2;rw[hk2]at ek;exact⟨_,_,rfl,⟨by simp;omega,by simp only;omega,λx hx=>(cF6.1 hx).elim (hk.hd x) λhx=>by rw[cF5.1 hx];exact h,hk.hc,λx hx=>(cF6.1 hx).elim (hk.ha x) λhx=>by rw[cF5.1 hx];exact⟨hne,ha⟩⟩,λx hx=>(cF6.1 hx).elim .inl λhx=> .inr ⟨cF5.1 hx,e1,e2,ek⟩,λx hx=> .inl hx⟩
  | false=>
   have hk2:k≠2:=by rw[beq_eq_false_iff_ne]at hk2;exact hk2
   exact⟨_,_,rfl,⟨by simp only;omega,by simp;omega,hk.hd,λx hx=>(cF6.1 hx).elim (hk.hc x) λhx=>by rw[cF5.1 hx];exact h,hk.ha⟩,λx hx=> .inl hx,λx hx=>(cF6.1 hx).elim .inl λhx=> .inr ⟨cF5.1 hx,k,⟨e1,e2,ek⟩,hk2⟩⟩
theorem DbD.mono{n m:Nat}{d c:lSg}(h:DbD n d c)(hm:n<=m):DbD m d c:=⟨cFv h.down hm,cFv h.core hm,h.hd,h.hc,h.ha⟩
theorem bLu{s:den tSg}(h:s.2.2.length<=1000):∃v,fY s=some v:=by
 unfold fY
 by_cases h0:s.2.2.length=0
 .rw[show ((s.2.2.length:Int)==0)=true by rw[beq_iff_eq];omega,zZ];exact⟨_,rfl⟩
 .have w1:wr ((s.2.2.length:Int) - 1)=((s.2.2.length - 1:Nat):Int):=by rw[bE (by omega) (by omega)];omega
  rw[show ((s.2.2.length:Int)==0)=false by rw[beq_eq_false_iff_ne];omega,zY,w1,aN,cFx (by omega),aA];exact⟨_,rfl⟩
theorem bSx{s:den tSg}(h:s.2.2.length<=1000)(h0:s.2.2≠[])(ha:aMt s.2.2):∃v,fY s=some v/\0<=v/\v<8:=by
 have hl:=List.length_pos_iff.2 h0;unfold fY;have w1:wr ((s.2.2.length:Int) - 1)=((s.2.2.length - 1:Nat):Int):=by rw[bE (by omega) (by omega)];omega
 rw[show ((s.2.2.length:Int)==0)=false by rw[beq_eq_false_iff_ne];omega,zY,w1,aN,cFx (by omega),aA];have :=ha _ (cHa (show s.2.2.length - 1<s.2.2.length by omega));exact⟨_,rfl,this.1,this.2⟩
theorem aK1{s:den tSg}:∃v,dV s=some v:=by
 unfold dV
 by_cases h0:s.2.2.length=0
 .rw[show ((s.2.2.length:Int)==0)=true by rw[beq_iff_eq];omega,zZ];exact⟨_,rfl⟩
 .rw[show ((s.2.2.length:Int)==0)=false by rw[beq_eq_false_iff_ne];omega,zY,show (0:Int)=((0:Nat):Int) from rfl,aN,cFx (by omega),aA];exact⟨_,rfl⟩
theorem bAm{code:List Int}(hl:code.length<=1048576){d:lSg}(hd:d.length<=200)(h5:∀x∈d,x.2.2.length<=5)(ha:∀x∈d,x.2.2≠[]/\aMt x.2.2)(k:Int)(hk:0<k/\k<=256)(z:Int)(hz:0<=z/\z<8){c:List Int}{p h:Int}(hc:Cur code (c,p,h)):
  ∃v c' p' h',(Option.bind (cond (decide ((d.length:Int)>(0:Int))) (Option.bind (eD (c,p,h) k) λy3=>some (!y3.1,y3.2.1,y3.2.2.1,y3.2.2.2)) (some (false,c,p,h))) λ(s4:Bool×List Int×q31)=>cond s4.1 (Option.bind (aF (s4.2.1,s4.2.2.1,s4.2.2.2) (d.length:Int)) λy5=>Option.bind (idx d y5.1) λx6=>Option.bind (fY (x6.1,x6.2.1,x6.2.2)) λy7=>some (y7,y5.2.1,y5.2.2.1,y5.2.2.2)) (some (z,s4.2.1,s4.2.2.1,s4.2.2.2)):Option (Int×List Int×q31))=some (v,c',p',h')/\(0<=v/\v<8)/\Cur code (c',p',h'):=by
 by_cases h0:(d.length:Int)>0
 .obtain⟨v1,c1,p1,h1,e1,k1⟩:=vE hl (n:=k) hk.1 hk.2 hc;simp only[zX h0,zZ,e1,aA];cases v1 with
  | true=>exact⟨z,c1,p1,h1,rfl,hz,k1⟩
  | false=>
   obtain⟨v2,c2,p2,h2,e2,r2,k2⟩:=bJ hl (n:=(d.length:Int)) h0 (by omega) k1;obtain⟨m2,rfl⟩:=cGr r2.1;have hm:m2<d.length:=by omega
   obtain⟨v3,e3,r3⟩:=bSx (s:=d[m2]) (by have :=h5 d[m2] (cHa hm);omega) (ha d[m2] (cHa hm)).1 (ha d[m2] (cHa hm)).2;have e3:fY (d[m2].1,d[m2].2.1,d[m2].2.2)=some v3:=e3;exact⟨v3,c2,p2,h2,by simp only[cGa,zZ,e2,aA,aN,cFx hm,e3],r3,k2⟩
 .exact⟨z,c,p,h,by simp only[zW h0,zY,aA],hz,hc⟩
theorem bX7{code:List Int}(hl:code.length<=1048576){n:Nat}(hn:n<=100){d cc:lSg}(hk:DbD n d cc){c:List Int}{p h:Int}(hc:Cur code (c,p,h)):∃a b c' p' h',zJ (c,p,h) (d,cc)=some (a,b,c',p',h')/\((0<=a/\a<8)/\(0<=b/\b<8))/\Cur code (c',p',h'):=by
 have hd:=hk.down;obtain⟨v1,c1,p1,h1,e1,r1,k1⟩:=bJ hl (n:=8) (by decide) (by decide) hc;obtain⟨v2,c2,p2,h2,e2,r2,k2⟩:=bJ hl (n:=8) (by decide) (by decide) k1;obtain⟨v3,c3,p3,h3,e3,r3,k3⟩:=bAm hl (d:=d) (by omega) hk.hd hk.ha 4 (by decide) v1 r1 k2;obtain⟨v4,c4,p4,h4,e4,r4,k4⟩:=bAm hl (d:=d) (by omega) hk.hd hk.ha 3 (by decide) v2 r2 k3;refine⟨v3,v4,c4,p4,h4,?_,⟨r3,r4⟩,k4⟩;unfold zJ pj3 pj4;simp only[e1,e2,aA,bC,bT,bH,bI,bL];rw[e3,aA,e4,aA]
theorem aSi{α β:Type}(g:α->List β):∀(l:List α) (k:Nat) (a:List β),bO (λ_ x a=>a++g x) k l a=a++l.flatMap g
 | [],_,a=>(cGq a).symm
 | x::l,k,a=>by
  show bO _ (k+1) l (a++g x)=_;rw[aSi g l (k+1) (a++g x),cI8,cGj]
theorem sO{α β R:Type}(l:List α)(g:α->List β)(out:List β->R)(a0:List β){step:Int×List β->Option ((Int×List β)⊕R)}(hl:l.length<=1000000)(hN:a0.length+(l.map λx=>(g x).length).sum<=1000000)
  (hs:∀(k:Nat) (x:α) (a:List β),idx l (k:Int)=some x->l[k]? =some x->x∈l->decide ((k:Int)<(l.length:Int))=true->wr ((k:Int)+1)=((k+1:Nat):Int)->a.length+(g x).length<=1000000->step ((k:Int),a)=some (.inl (((k+1:Nat):Int),a++g x)))
  (he:∀a,step ((l.length:Int),a)=some (.inr (out a))):aC step ((0:Int),a0)=some (out (a0++l.flatMap g)):=by
 rw[lJ (λk (a:List β)=>((k:Int),a)) ((0:Int),a0) a0 l (λ_ x a=>a++g x) cGd (λx=>(g x).length) 1000000 out rfl (by omega) hN (λk x a=>by rw[cGh];exact cF8 _) (λk x a h1 h2 h3 h4 h5 h6=>hs k x a h1 h2 (cF9 h2) h3 h4 h6) he,aSi]
theorem aOx{α:Type}{f:α->Nat}{c:Nat}:∀{l:List α},(∀x∈l,f x<=c)->(l.map f).sum<=l.length * c
 | [],_=>cGe _
 | x::l,h=>by
  have h1:=h x (by simp);have h2:=aOx (l:=l) λy hy=>h y (cF7 _ hy)
  rw[cGg,List.sum_cons,cGv,cGo];omega
theorem aQs{α β:Type}{g:α->List β}{c:Nat}:∀{l:List α},(∀x∈l,(g x).length<=c)->(l.flatMap g).length<=l.length * c
 | [],_=>cGe _
 | x::l,h=>by
  have h1:=h x (by simp);have h2:=aQs (l:=l) λy hy=>h y (cF7 _ hy)
  rw[cI8,cGh,cGv,cGo];omega
def eW(s:den tSg):Int:=match s.2.2 with
 | []=> -1
 | h::_=>h.1
def rD(s:den tSg):Int:=if s.2.2.length=0 then -1 else ((s.2.2[s.2.2.length - 1]?).getD h0).1
theorem bNe(s:den tSg):dV s=some (eW s):=by
 unfold dV eW;cases h:s.2.2 with
 | nil=>rfl
 | cons x l=>rfl
theorem bNz{s:den tSg}(hl:s.2.2.length<=1000000):fY s=some (rD s):=by
 unfold fY rD
 by_cases h:s.2.2.length=0
 .rw[zT h,h];rfl
 .rw[zS h,show ((s.2.2.length:Int)==0)=false by rw[beq_eq_false_iff_ne];omega,zY,bCd (by omega) (by omega),aN,cFx (show s.2.2.length - 1<s.2.2.length by omega)];rfl
def bOn(b:Int)(l:List Int):Int:=l.foldl aLw b
def bCi(l:cR):List Int:=l.map λh=>h.2.2.2.2
theorem bXy{b:Int}{l:List Int}(hl:l.length<=1000000):rM b l=some (bOn b l):=by
 unfold rM;rw[lJ (λk (a:Int)=>(a,(k:Int))) (b,(0:Int)) b l (λ_ x a=>aLw a x) (λ_=>0) (λ_=>0) 1 id rfl (by omega) (by rw[sum_nil];omega) (λk x a=>by omega) (λk x a hi hx hd hw hk hb=>by
  simp only[hd,hi,hw,zZ,aA,aSp]) (λa=>by simp),uE]
 rfl
theorem cA6{s:den tSg}{n:Nat}(hn:n<=s.2.2.length)(hl:s.2.2.length<=1000000):qO s (n:Int)=some (bCi (s.2.2.take n)):=by
 have e:(s.2.2.take n).length=n:=by rw[cG7];omega
 unfold qO zz4;rw[lJ (λk (a:List Int)=>((k:Int),a)) ((0:Int),[]) [] (s.2.2.take n) (λ_ x a=>a++[x.2.2.2.2]) cGd (λ_=>1) 1000000 id rfl (by omega) (by rw[fB];simp;omega) (λk x a=>by simp) (λk x a hi hx hd hw hk hb=>by
  have hx:=(aRs hx).1;rw[e]at hd;simp only[hd,aN,hx,hw,zZ,aA,aE (b:=8) (n:=a.length) (m:=1) (by decide) (by omega)]) (λa=>by rw[e];simp),iC (λh:den bV=>h.2.2.2.2)]
 rfl
def aHc(s:den tSg)(i:Int):Int:=if inR i 0 (s.2.2.length:Int) then bOn s.2.1 (bCi (s.2.2.take i.toNat)) else 0
theorem bGt{s:den tSg}{i:Int}(hl:s.2.2.length<=1000000):iO s i=some (aHc s i):=by
 unfold iO aHc pj3;simp only[jU,aA];cases h:inR i 0 (s.2.2.length:Int) with
 | false=>rfl
 | true=>
  obtain⟨g0,g1⟩:=aV.1 h;obtain⟨n,rfl⟩:=cGr g0;have e2:(bCi (s.2.2.take n)).length<=1000000:=by unfold bCi;rw[cGu,cG7];omega
  have e3:qO (s.1,s.2.1,s.2.2) (n:Int)=some (bCi (s.2.2.take n)):=cA6 (s:=s) (by omega) hl;simp only[cF0,zY,e3,aA,bXy e2,zV,cF2]
def oN(s:den tSg)(k i:Int):den tPp:=
 if inR i 0 ((s.2.2.length:Int) - 1)&&inR k 1 4 then
  (if iH k then (k,s.1,aHc s (s.2.2.length:Int),(s.2.2.drop i.toNat).reverse) else (k,s.1,aHc s i,s.2.2.drop i.toNat))
 else (0,0,0,[])
theorem aH0(s:den tSg)(k i:Int):(oN s k i).2.2.2.length<=s.2.2.length:=by
 unfold oN;split
 .split
  .show (s.2.2.drop i.toNat).reverse.length<=_;rw[List.length_reverse,cH7];omega
  .show (s.2.2.drop i.toNat).length<=_;rw[cH7];omega
 .exact cGe _
theorem aGc{s:den tSg}{k i:Int}(hl:s.2.2.length<=1000000):cK s k i=some (oN s k i):=by
 unfold cK oN pj3 pj4 pj5 zz4;simp only[jU,aA,bC,bT,bH,bI,bL,bE (n:=(s.2.2.length:Int) - 1) (by omega) (by omega)];cases c1:inR i 0 ((s.2.2.length:Int) - 1) with
 | false=>rfl
 | true=>
  cases c2:inR k 1 4 with
  | false=>rfl
  | true=>
   obtain⟨g0,g1⟩:=aV.1 c1;obtain⟨n,rfl⟩:=cGr g0;have e1:cJ (n:Int) (s.2.2.length:Int) (s.2.2.length:Int)=true:=aBw (by omega);have e2:iO (s.1,s.2.1,s.2.2) (n:Int)=some (aHc s (n:Int)):=bGt (s:=s) hl;have e3:iO (s.1,s.2.1,s.2.2) (s.2.2.length:Int)=some (aHc s (s.2.2.length:Int)):=bGt (s:=s) hl;simp only[cF0,zY,aA,e1,zZ,e2,aC7,aHu,cHw,zV,cF2];cases iH k with
   | false=>
    simp only[cGa,zZ,cGk,aE (b:=40) (n:=([]:cR).length) (m:=(s.2.2.drop n).length) (by decide) (by simp;omega),cF1,zU]
   | true=>
    simp only[cF0,zY,e3,aA,zV];have key:∀(m:Nat) (a:cR),n+m<=s.2.2.length->a.length+m<=s.2.2.length->aC (λs11:Int×Int×Int×Int×cR=>cond (decide (s11.1>=(n:Int))) (Option.bind (idx s.2.2 s11.1) λx12=>cond (aK 40 s11.2.2.2.2.length 1) (some (cFu (wr (s11.1 - (1:Int)),s11.2.1,s11.2.2.1,s11.2.2.2.1,s11.2.2.2.2++[x12]))) none) (some (cFt (s11.2.1,s11.2.2.1,s11.2.2.2.1,s11.2.2.2.2)))) (((n+m:Nat):Int) - 1,k,s.1,aHc s (s.2.2.length:Int),a)=some (k,s.1,aHc s (s.2.2.length:Int),a++((s.2.2.drop n).take m).reverse):=by
     intro m
     induction m with
     | zero=>
      intro a h1 h2;refine bA ?_;simp only[zW (show ¬ (((n+0:Nat):Int) - 1>=(n:Int)) by omega),zY,List.take_zero,List.reverse_nil,cGq]
     | succ m ih=>
      intro a h1 h2;have hx:s.2.2[n+m]? =some (s.2.2[n+m]'(by omega)):=cFx (by omega);have hw:((n+(m+1):Nat):Int) - 1=((n+m:Nat):Int):=by omega
      refine (cQ (s':=(((n+m:Nat):Int) - 1,k,s.1,aHc s (s.2.2.length:Int),a++[s.2.2[n+m]'(by omega)])) ?_).trans ?_
      .simp only[hw,zX (show ((n+m:Nat):Int)>=(n:Int) by omega),zZ,aN,hx,aA,aE (b:=40) (n:=a.length) (m:=1) (by decide) (by omega),bE (n:=((n+m:Nat):Int) - 1) (by omega) (by omega)]
      .rw[ih (a++[s.2.2[n+m]'(by omega)]) (by omega) (by simp;omega)];have hd:(s.2.2.drop n)[m]? =some (s.2.2[n+m]'(by omega)):=by rw[List.getElem?_drop];exact hx
       rw[List.take_add_one,hd,List.reverse_append];simp
    have :=key (s.2.2.length - n) [] (by omega) (by simp);rw[show n+(s.2.2.length - n)=s.2.2.length by omega,cGk,List.take_of_length_le (by rw[cH7];omega)]at this;rw[this];rfl
def cV(d:lSg)(r:Int):lSg:=d.filter λs=>rD s==r
def xA(c:lSg)(a b:Int):lSg:=c.filter λs=>eW s==a&&rD s==b
theorem aKd{α:Type}(p:α->Bool):∀l:List α,(l.flatMap λx=>cond (p x) [x] [])=l.filter p
 | []=>rfl
 | x::l=>by
  rw[cI8,aKd p l,cH9];cases p x<;>rfl
theorem bC6{α:Type}(p:α->Bool)(l:List α):(l.map λx=>(cond (p x) [x] []:List α).length).sum<=l.length:=by
 have :=aOx (f:=λx=>(cond (p x) [x] []:List α).length) (c:=1) (l:=l) λx _=>by cases p x<;>simp
 omega
theorem aMf{k:den tDb}{r:Int}(hl:k.1.length<=1000000)(hh:∀s∈k.1,s.2.2.length<=1000000):dU k r=some (cV k.1 r):=by
 unfold dU cV pj3;have hf:=bC6 (λs=>rD s==r) k.1;rw[sO k.1 (λs=>cond (rD s==r) [s] []) id [] hl (by simpa using cFv hf hl) (λi x a hi hx hm hd hw hb=>by
  have h1:=hh x hm;have e1:fY (x.1,x.2.1,x.2.2)=some (rD x):=bNz (s:=x) h1;have e2:iV (x.1,x.2.1,x.2.2)=some x:=aKr (x:=x) (by omega);simp only[hd,zZ,hi,aA,e1,e2,hw];cases c:rD x==r
  .simp
  .rw[c]at hb;simp only[zZ,aE (b:=40) (n:=a.length) (m:=1) (by decide) (by simp at hb;omega),aA]) (λa=>by simp)]
 rw[aKd,cGk];rfl
theorem bGl{k:den tDb}{p q:Int}(hl:k.2.length<=1000000)(hh:∀s∈k.2,s.2.2.length<=1000000):lY k p q=some (xA k.2 p q):=by
 unfold lY xA pj3;have hf:=bC6 (λs=>eW s==p&&rD s==q) k.2;rw[sO k.2 (λs=>cond (eW s==p&&rD s==q) [s] []) id [] hl (by simpa using cFv hf hl) (λi x a hi hx hm hd hw hb=>by
  have h1:=hh x hm;have e0:dV (x.1,x.2.1,x.2.2)=some (eW x):=bNe x;have e1:fY (x.1,x.2.1,x.2.2)=some (rD x):=bNz (s:=x) h1;have e2:iV (x.1,x.2.1,x.2.2)=some x:=aKr (x:=x) (by omega);simp only[hd,zZ,hi,aA,e0,e1,e2,hw];cases c:eW x==p
  .simp
  .cases c2:rD x==q
   .simp
   .rw[c,c2]at hb;simp only[zZ,cHw,aE (b:=40) (n:=a.length) (m:=1) (by decide) (by simp at hb;omega),aA]) (λa=>by simp)]
 rw[aKd,cGk];rfl
def fIx(l:cR)(r:Int):Int:=match bW (λk (x:den bV)=>if x.1==r then some (k:Int) else none) 0 l with
 | some v=>v
 | none=> -1
theorem bWo{s:den tSg}{r:Int}(hl:s.2.2.length<=1000000):pL s r=some (fIx s.2.2 r):=by
 unfold pL fIx;rw[aY (l:=s.2.2) (λk (x:den bV)=>if x.1==r then some (k:Int) else none) (by omega) (λk x hi hd hw hx hk=>by
  simp only[hd,hi,hw,zZ,aA];cases x.1==r<;>rfl) (by simp)]
 cases bW (λk (x:den bV)=>if x.1==r then some (k:Int) else none) 0 s.2.2<;>rfl
def lIx(l:cR)(r:Int):Nat->Int
 | 0=> -1
 | n+1=>if ((l[n]?).getD h0).1==r then (n:Int) else lIx l r n
def aGx(up down:den tSg):Nat->lPp
 | 0=>[]
 | n+1=>if lIx down.2.2 ((up.2.2[n]?).getD h0).1 down.2.2.length>=0 then [oN up 1 (n:Int),oN down 4 (lIx down.2.2 ((up.2.2[n]?).getD h0).1 down.2.2.length)] else aGx up down n
def aEo(up down:den tSg):lPp:=aGx up down up.2.2.length
theorem bMj{s:den tSg}(hl:s.2.2.length<=1000000):eF s=some (s.2.2.map λh=>(h.1:Int)):=by
 unfold eF;rw[lJ (λk (a:List Int)=>((k:Int),a)) ((0:Int),[]) [] s.2.2 (λ_ x a=>a++[x.1]) cGd (λ_=>1) 1000000 id rfl (by omega) (by rw[fB];simpa using hl) (λk x a=>by simp) (λk x a hi hx hd hw hk hb=>by
  simp only[hd,hi,hw,zZ,aA,aE (b:=8) (n:=a.length) (m:=1) (by decide) (by omega)]) (λa=>by simp),iC (λh:den bV=>(h.1:Int))]
 rfl
theorem bNq{up down:den tSg}(h1:up.2.2.length<=1000000)(h2:down.2.2.length<=1000000):mC up down=some (aEo up down):=by
 have e0:qK up down=some (aEo up down):=by
  unfold qK aEo ixb pj3 pj4;simp only[bMj h1,bMj h2,aA,cGu];rw[bE (n:=(up.2.2.length:Int) - 1) (by omega) (by omega)];have key:∀(G:Int->Option (Int⊕(Unit⊕lPp))) (n:Nat),n<=up.2.2.length->
    (∀m:Nat,m<up.2.2.length->G (m:Int)=if lIx down.2.2 ((up.2.2[m]?).getD h0).1 down.2.2.length>=0 then some (.inr (.inr [oN up 1 (m:Int),oN down 4 (lIx down.2.2 ((up.2.2[m]?).getD h0).1 down.2.2.length)])) else some (.inl ((m:Int) - 1)))->G (-1)=some (.inr (.inl ()))->
    Option.bind (aC G ((n:Int) - 1)) (λz:Unit⊕lPp=>Sum.elim (λ_=>some []) some z)=some (aGx up down n):=by
   intro G n
   induction n with
   | zero=>intro _ _ hG;rw[bA (r:=cFu ()) (show G (((0:Nat):Int) - 1)=_ from hG)];rfl
   | succ n ih=>
    intro hn hs he;have hw:((n+1:Nat):Int) - 1=(n:Int):=by omega
    rw[hw];have hg:=hs n (by omega);unfold aGx
    by_cases c:lIx down.2.2 ((up.2.2[n]?).getD h0).1 down.2.2.length>=0
    .rw[zT c]at hg ⊢;rw[bA hg];rfl
    .rw[zS c]at hg ⊢;rw[cQ hg];exact ih (by omega) hs he
  refine key _ up.2.2.length (cF8 _) (λm hm=> ?_) (by simp);have hx:up.2.2[m]? =some (up.2.2[m]'hm):=cFx hm;have e2:∀i,cK (up.1,up.2.1,up.2.2) 1 i=some (oN up 1 i):=λi=>aGc (s:=up) h1
  have e3:∀i,cK (down.1,down.2.1,down.2.2) 4 i=some (oN down 4 i):=λi=>aGc (s:=down) h2
  have hxm:(up.2.2.map λh=>(h.1:Int))[m]? =some (up.2.2[m]'hm).1:=by rw[cHz,hx];rfl
  simp only[aR0,cU,zZ,zX (show (m:Int)<(up.2.2.length:Int) by omega),cF2,hxm,hx,cGy,bE (n:=(m:Int) - 1) (by omega) (by omega),bE (n:=(down.2.2.length:Int) - 1) (by omega) (by omega),aA,e2,e3];have inner:∀(R:Type) (G:Int->Option (Int⊕(Unit⊕R))) (f:Int->R) (n:Nat),n<=down.2.2.length->
    (∀j:Nat,j<down.2.2.length->G (j:Int)=if ((down.2.2[j]?).getD h0).1==(up.2.2[m]'hm).1 then some (.inr (.inr (f (j:Int)))) else some (.inl ((j:Int) - 1)))->G (-1)=some (.inr (.inl ()))->
    aC G ((n:Int) - 1)=some (if lIx down.2.2 (up.2.2[m]'hm).1 n>=0 then .inr (f (lIx down.2.2 (up.2.2[m]'hm).1 n)) else .inl ()):=by
   intro R G f n
   induction n with
   | zero=>intro _ _ hG;rw[bA (r:=cFu ()) (show G (((0:Nat):Int) - 1)=_ from hG)];rfl
   | succ n ih=>
    intro hn hs he;have hw:((n+1:Nat):Int) - 1=(n:Int):=by omega
    rw[hw];have hg:=hs n (by omega);unfold lIx;cases c:((down.2.2[n]?).getD h0).1==(up.2.2[m]'hm).1 with
    | true=>
     rw[c,zT rfl]at hg;rw[bA hg,zT rfl,zT (by omega)]
    | false=>
     rw[c,zS (by decide)]at hg;rw[cQ hg];simp only[cF1,zU];exact ih (by omega) hs he
  rw[inner _ _ (λj=>(cFt (cFt [oN up 1 (m:Int),oN down 4 j]):Int⊕(Unit⊕lPp))) down.2.2.length (cF8 _) (λj hj=> ?_) (by simp)]
  .by_cases c:lIx down.2.2 (up.2.2[m]'hm).1 down.2.2.length>=0
   .rw[zT c,zT c];rfl
   .rw[zS c,zS c];rfl
  .have hy:down.2.2[j]? =some (down.2.2[j]'hj):=cFx hj;have hym:(down.2.2.map λh=>(h.1:Int))[j]? =some (down.2.2[j]'hj).1:=by rw[cHz,hy];rfl
   simp only[aR0,cU,zZ,zX (show (j:Int)<(down.2.2.length:Int) by omega),cF2,hym,hy,cGy,aA,bE (n:=(j:Int) - 1) (by omega) (by omega)];rw[show ((up.2.2[m]'hm).1==(down.2.2[j]'hj).1)=((down.2.2[j]'hj).1==(up.2.2[m]'hm).1) from cGl.2 ⟨λh=>by rw[beq_iff_eq]at h ⊢;exact h.symm,λh=>by rw[beq_iff_eq]at h ⊢;exact h.symm⟩];cases (down.2.2[j]'hj).1==(up.2.2[m]'hm).1<;>rfl
 unfold mC pj3;rw[show ((up.1,up.2.1,up.2.2):den tSg)=up from rfl,show ((down.1,down.2.1,down.2.2):den tSg)=down from rfl,e0];rfl
def kV(s:den tSg)(k:Int)(p:lPp):lPp:=cond (decide ((s.2.2.length:Int)>0)) (p++[oN s k 0]) p
theorem bCu(s:den tSg)(k:Int)(p:lPp):(kV s k p).length<=p.length+1:=by
 unfold kV;cases decide ((s.2.2.length:Int)>0)
 .simp
 .simp
def xU(up core:den tSg)(b:Bool)(down:den tSg):lPp:=kV down 4 (kV core (cond b 3 2) (kV up 1 []))
theorem bE0{up core down:den tSg}{b:Bool}(h1:up.2.2.length<=1000000)(h2:core.2.2.length<=1000000)(h3:down.2.2.length<=1000000):oG up core b down=some (xU up core b down):=by
 have l1:=bCu up 1 [];have l2:=bCu core (cond b 3 2) (kV up 1 []);simp only[cHn]at l1;have e1:cK (up.1,up.2.1,up.2.2) 1 0=some (oN up 1 0):=aGc (s:=up) h1;have e2:cK (core.1,core.2.1,core.2.2) (cond b 3 2) 0=some (oN core (cond b 3 2) 0):=aGc (s:=core) h2;have e3:cK (down.1,down.2.1,down.2.2) 4 0=some (oN down 4 0):=aGc (s:=down) h3;have eb:(cond b (some (3:Int)) (some (2:Int)))=some (cond b 3 2):=by cases b<;>rfl
 have f1:(cond (decide ((up.2.2.length:Int)>(0:Int))) (some [oN up 1 0]) (some []))=some (kV up 1 []):=by unfold kV;cases decide ((up.2.2.length:Int)>0)<;>rfl
 have f2:(cond (decide ((core.2.2.length:Int)>(0:Int))) (some (kV up 1 []++[oN core (cond b 3 2) 0])) (some (kV up 1 [])))=some (kV core (cond b 3 2) (kV up 1 [])):=by
  rw[show kV core (cond b 3 2) (kV up 1 [])=cond (decide ((core.2.2.length:Int)>0)) (kV up 1 []++[oN core (cond b 3 2) 0]) (kV up 1 []) from rfl];cases decide ((core.2.2.length:Int)>0)<;>rfl
 have f3:(cond (decide ((down.2.2.length:Int)>(0:Int))) (some (kV core (cond b 3 2) (kV up 1 [])++[oN down 4 0])) (some (kV core (cond b 3 2) (kV up 1 []))))=some (kV down 4 (kV core (cond b 3 2) (kV up 1 []))):=by
  rw[show kV down 4 (kV core (cond b 3 2) (kV up 1 []))=cond (decide ((down.2.2.length:Int)>0)) (kV core (cond b 3 2) (kV up 1 [])++[oN down 4 0]) (kV core (cond b 3 2) (kV up 1 [])) from rfl];cases decide ((down.2.2.length:Int)>0)<;>rfl
 unfold oG xU pj3 pj4;rw[eb];simp only[e1,e2,e3,aA,aE (b:=48) (n:=0) (m:=1) (by decide) (by omega),zZ,f1,aE (b:=48) (n:=(kV up 1 []).length) (m:=1) (by decide) (by omega),f2,aE (b:=48) (n:=(kV core (cond b 3 2) (kV up 1 [])).length) (m:=1) (by decide) (by omega),f3]
def dF(c:lSg)(up:den tSg)(a b:Int)(down:den tSg):List lPp:=
 (xA c a b).flatMap (λs=>[xU up s false down])++(xA c b a).flatMap (λs=>[xU up s true down])
theorem aRk(c:lSg)(a b:Int):(xA c a b).length<=c.length:=cIn _ _
theorem bN6(c:lSg)(a:Int):(cV c a).length<=c.length:=cIn _ _
theorem aR2{α β:Type}(f:α->β)(l:List α):(l.flatMap λs=>[f s]).length<=l.length:=by
 have :=aQs (g:=λs=>[f s]) (c:=1) (l:=l) λx _=>by simp
 omega
theorem aB9{c:lSg}(hc:c.length<=30)(up:den tSg)(a b:Int)(down:den tSg):(dF c up a b down).length<=60:=by
 unfold dF;rw[cGh];have h1:=aR2 (λs=>xU up s false down) (xA c a b);have h2:=aR2 (λs=>xU up s true down) (xA c b a);have h3:=aRk c a b;have h4:=aRk c b a;omega
structure DbS (k:den tDb):Prop where
 down:k.1.length<=30
 core:k.2.length<=30
 hd1:∀s∈k.1,s.2.2.length<=5
 hc1:∀s∈k.2,s.2.2.length<=5
theorem DbS.hd{k:den tDb}(h:DbS k):∀s∈k.1,s.2.2.length<=1000000:=λs hs=>cFv (h.hd1 s hs) (by decide)
theorem DbS.hc{k:den tDb}(h:DbS k):∀s∈k.2,s.2.2.length<=1000000:=λs hs=>cFv (h.hc1 s hs) (by decide)
theorem DbD.s{n:Nat}{d c:lSg}(h:DbD n d c)(hn:n<=30):DbS (d,c):=⟨cFv h.down hn,cFv h.core hn,h.hd,h.hc⟩
theorem DbS.downs{k:den tDb}(h:DbS k)(r:Int):(cV k.1 r).length<=30/\ ∀s∈cV k.1 r,s.2.2.length<=1000000:=⟨cFv (bN6 _ _) h.down,λs hs=>h.hd s (cGc.1 hs).1⟩
theorem DbS.betw{k:den tDb}(h:DbS k)(a b:Int):(xA k.2 a b).length<=30/\ ∀s∈xA k.2 a b,s.2.2.length<=1000000:=⟨cFv (aRk _ _ _) h.core,λs hs=>h.hc s (cGc.1 hs).1⟩
theorem bEi{k:den tDb}(h:DbS k){up down:den tSg}(h1:up.2.2.length<=1000000)(h3:down.2.2.length<=1000000)(a b:Int):gT k up a b down=some (dF k.2 up a b down):=by
 have e1:lY (k.1,k.2) a b=some (xA k.2 a b):=bGl (k:=k) (cFv h.core (by decide)) h.hc;have e2:lY (k.1,k.2) b a=some (xA k.2 b a):=bGl (k:=k) (cFv h.core (by decide)) h.hc;obtain⟨l1,m1⟩:=h.betw a b;obtain⟨l2,m2⟩:=h.betw b a;have n1:=aR2 (λs=>xU up s false down) (xA k.2 a b);unfold gT dF ixb pj2 pj3;rw[e1,aA];rw[sO (xA k.2 a b) (λs=>[xU up s false down]) (λx=>x) [] (by omega) (by have :=aOx (f:=λs=>([xU up s false down]:List lPp).length) (c:=1) (l:=xA k.2 a b) (λ_ _=>by simp);simp only[cHn];omega) (λi x y hi hx hm hd hw hb=>by
  have e:oG (up.1,up.2.1,up.2.2) (x.1,x.2.1,x.2.2) false (down.1,down.2.1,down.2.2)=some (xU up x false down):=bE0 (up:=up) (core:=x) (down:=down) h1 (m1 x hm) h3;simp only[hd,cU,zZ,cF2,hx,aA,e,hw,aE (b:=24) (n:=y.length) (m:=1) (by decide) (by simp at hb;omega)]) (λy=>by simp)]
 rw[aA,e2,aA,cGk];rw[sO (xA k.2 b a) (λs=>[xU up s true down]) (λx=>x) ((xA k.2 a b).flatMap λs=>[xU up s false down]) (by omega) (by have :=aOx (f:=λs=>([xU up s true down]:List lPp).length) (c:=1) (l:=xA k.2 b a) (λ_ _=>by simp);omega) (λi x y hi hx hm hd hw hb=>by
  have e:oG (up.1,up.2.1,up.2.2) (x.1,x.2.1,x.2.2) true (down.1,down.2.1,down.2.2)=some (xU up x true down):=bE0 (up:=up) (core:=x) (down:=down) h1 (m2 x hm) h3;simp only[hd,cU,zZ,cF2,hx,aA,e,hw,aE (b:=24) (n:=y.length) (m:=1) (by decide) (by simp at hb;omega)]) (λy=>by simp)]
 rfl
def jF:den tSg:=(0,0,[])
def tV(kind r:Int)(s:den tSg):List lPp:=cond (decide (fIx s.2.2 r>=0)) [[oN s kind (fIx s.2.2 r)]] []
def yO(u d:den tSg):List lPp:=cond (decide (((aEo u d).length:Int)>0)) [aEo u d] []
def oY(t:den tTo)(r:Int):Bool:=((t.1[r.toNat]?).getD (0,false,0)).2.1
theorem aM4(kind r:Int)(s:den tSg):(tV kind r s).length<=1:=by unfold tV;cases decide (fIx s.2.2 r>=0)<;>simp
theorem bOe(u d:den tSg):(yO u d).length<=1:=by unfold yO;cases decide (((aEo u d).length:Int)>0)<;>simp
def rO(t:den tTo)(k:den tDb)(a b:Int):List lPp:=
 cond (a==b||(!dE t a|| !dE t b)) [] (((((((cV k.1 a).flatMap (tV 1 b)++(cV k.1 b).flatMap (tV 4 a))++dF k.2 jF a b jF)
  ++(cV k.1 a).flatMap λu=>(cV k.1 b).flatMap λd=>yO u d)
  ++cond (oY t a) ((cV k.1 b).flatMap λd=>dF k.2 jF a (eW d) d) [])
  ++cond (oY t b) ((cV k.1 a).flatMap λu=>dF k.2 u (eW u) b jF) [])
  ++(cV k.1 a).flatMap λu=>(cV k.1 b).flatMap λd=>dF k.2 u (eW u) (eW d) d)
theorem aEz{α β:Type}{g:α->List β}{c n:Nat}{l:List α}(hl:l.length<=n)(h:∀x∈l,(g x).length<=c):(l.map λx=>(g x).length).sum<=n * c:=
 cFv (aOx h) (cG8 _ hl)
theorem aBo{α β:Type}{g:α->List β}{c n:Nat}{l:List α}(hl:l.length<=n)(h:∀x∈l,(g x).length<=c):(l.flatMap g).length<=n * c:=
 cFv (aQs h) (cG8 _ hl)
theorem aXz{downs:lSg}(h:downs.length<=30)(u:den tSg):(downs.flatMap λd=>yO u d).length<=30:=
 cFv (aBo (c:=1) h λd _=>bOe u d) (by decide)
theorem bAu{c downs:lSg}(hc:c.length<=30)(h:downs.length<=30)(u:den tSg):(downs.flatMap λd=>dF c u (eW u) (eW d) d).length<=1800:=
 cFv (aBo (c:=60) h λd _=>aB9 hc _ _ _ _) (by decide)
theorem aLi{k:den tDb}(h:DbS k)(a b:Int):(((cV k.1 a).flatMap (tV 1 b)).length<=30)/\(((cV k.1 b).flatMap (tV 4 a)).length<=30)/\((dF k.2 jF a b jF).length<=60)/\(((cV k.1 a).flatMap λu=>(cV k.1 b).flatMap λd=>yO u d).length<=900)/\(((cV k.1 b).flatMap λd=>dF k.2 jF a (eW d) d).length<=1800)/\(((cV k.1 a).flatMap λu=>dF k.2 u (eW u) b jF).length<=1800)/\(((cV k.1 a).map λs=>(tV 1 b s).length).sum<=30)/\(((cV k.1 b).map λs=>(tV 4 a s).length).sum<=30)/\(((cV k.1 a).map λu=>((cV k.1 b).flatMap λd=>yO u d).length).sum<=900)/\(((cV k.1 b).map λd=>(dF k.2 jF a (eW d) d).length).sum<=1800)/\(((cV k.1 a).map λu=>(dF k.2 u (eW u) b jF).length).sum<=1800)/\(((cV k.1 a).map λu=>((cV k.1 b).flatMap λd=>dF k.2 u (eW u) (eW d) d).length).sum<=54000):=by
 obtain⟨lu,mu⟩:=h.downs a;obtain⟨ld,md⟩:=h.downs b;exact⟨cFv (aBo (c:=1) lu λs _=>aM4 1 b s) (by decide),cFv (aBo (c:=1) ld λs _=>aM4 4 a s) (by decide),aB9 h.core jF a b jF,cFv (aBo (c:=30) lu λu _=>aXz ld u) (by decide),cFv (aBo (c:=60) ld λd _=>aB9 h.core _ _ _ _) (by decide),cFv (aBo (c:=60) lu λd _=>aB9 h.core _ _ _ _) (by decide),cFv (aEz (c:=1) lu λs _=>aM4 1 b s) (by decide),cFv (aEz (c:=1) ld λs _=>aM4 4 a s) (by decide),cFv (aEz (c:=30) lu λu _=>aXz ld u) (by decide),cFv (aEz (c:=60) ld λd _=>aB9 h.core _ _ _ _) (by decide),cFv (aEz (c:=60) lu λd _=>aB9 h.core _ _ _ _) (by decide),cFv (aEz (c:=1800) lu λu _=>bAu h.core ld u) (by decide)⟩
theorem bY6{k:den tDb}(h:DbS k)(a b:Int):tZ k a b=some ((((cV k.1 a).flatMap (tV 1 b)++(cV k.1 b).flatMap (tV 4 a))++dF k.2 jF a b jF)):=by
 have e1:dU (k.1,k.2) a=some (cV k.1 a):=aMf (k:=k) (cFv h.down (by decide)) h.hd;have e2:dU (k.1,k.2) b=some (cV k.1 b):=aMf (k:=k) (cFv h.down (by decide)) h.hd;obtain⟨lu,mu⟩:=h.downs a;obtain⟨ld,md⟩:=h.downs b;have hz1:gT (k.1,k.2) (0,0,[]) a b (0,0,[])=some (dF k.2 jF a b jF):=bEi (k:=k) h (up:=jF) (down:=jF) (by decide) (by decide) a b;obtain⟨n1,n2,n3,n4,n5,n6,s1,s2,s4,s5,s6,s7⟩:=aLi h a b;unfold tZ ixb pj2 pj3 pj4;rw[e1,aA];rw[sO (cV k.1 a) (tV 1 b) (λx=>x) [] (by omega) (by simp only[cHn];omega) (λi x y hi hx hm hd hw hb=>by
  have e:pL (x.1,x.2.1,x.2.2) b=some (fIx x.2.2 b):=bWo (s:=x) (mu x hm);have e':cK (x.1,x.2.1,x.2.2) 1 (fIx x.2.2 b)=some (oN x 1 (fIx x.2.2 b)):=aGc (s:=x) (mu x hm);have hb:y.length<=1000000:=by omega
  unfold tV;simp only[hd,cU,zZ,cF2,hx,aA,e,e',hw,aE (b:=24) (n:=y.length) (m:=1) (by decide) (by omega)];cases decide (fIx x.2.2 b>=0)
  .simp
  .rfl) (λy=>by simp)]
 rw[aA,cGk,e2,aA];rw[sO (cV k.1 b) (tV 4 a) (λx=>x) ((cV k.1 a).flatMap (tV 1 b)) (by omega) (by omega) (λi x y hi hx hm hd hw hb=>by
  have e:pL (x.1,x.2.1,x.2.2) a=some (fIx x.2.2 a):=bWo (s:=x) (md x hm);have e':cK (x.1,x.2.1,x.2.2) 4 (fIx x.2.2 a)=some (oN x 4 (fIx x.2.2 a)):=aGc (s:=x) (md x hm);have hb:y.length<=1000000:=by omega
  unfold tV;simp only[hd,cU,zZ,cF2,hx,aA,e,e',hw,aE (b:=24) (n:=y.length) (m:=1) (by decide) (by omega)];cases decide (fIx x.2.2 a>=0)
  .simp
  .rfl) (λy=>by simp)]
 rw[aA,hz1,aA,aE (b:=24) (n:=((cV k.1 a).flatMap (tV 1 b)++(cV k.1 b).flatMap (tV 4 a)).length) (m:=(dF k.2 jF a b jF).length) (by decide) (by rw[cGh];omega)];rfl
theorem aWy{α β:Type}(l:List α)(g:α->List β)(c:Bool)(a0:List β){step:Int×List β->Option ((Int×List β)⊕List β)}(hl:l.length<=1000000)(hN:a0.length+(l.map λx=>(g x).length).sum<=1000000)
  (hs:c=true-> ∀(k:Nat) (x:α) (a:List β),idx l (k:Int)=some x->l[k]? =some x->x∈l->decide ((k:Int)<(l.length:Int))=true->wr ((k:Int)+1)=((k+1:Nat):Int)->a.length+(g x).length<=1000000->step ((k:Int),a)=some (.inl (((k+1:Nat):Int),a++g x)))
  (he:∀a,step ((l.length:Int),a)=some (.inr a)) (hc:c=false->step ((0:Int),a0)=some (.inr a0)):aC step ((0:Int),a0)=some (a0++cond c (l.flatMap g) []):=by
 cases c with
 | true=>exact sO l g (λx=>x) a0 hl hN (hs rfl) he
 | false=>rw[zY,cGq];exact bA (hc rfl)
theorem bZ5{t:den tTo}{k:den tDb}(ht:t.1.length<=1000000)(h:DbS k)(a b:Int):mS t k a b=some (rO t k a b):=by
 have hA:=aFx (t:=t) (r:=a) (by omega);have hB:=aFx (t:=t) (r:=b) (by omega);unfold mS rO ixb pj2 pj3;rw[show ((t.1,t.2):den tTo)=t from rfl,hA,hB];cases c0:a==b with
 | true=>rfl
 | false=>
 cases c1:dE t a with
 | false=>rfl
 | true=>
 cases c2:dE t b with
 | false=>rfl
 | true=>
 have e1:dU (k.1,k.2) a=some (cV k.1 a):=aMf (k:=k) (cFv h.down (by decide)) h.hd;have e2:dU (k.1,k.2) b=some (cV k.1 b):=aMf (k:=k) (cFv h.down (by decide)) h.hd;obtain⟨lu,mu⟩:=h.downs a;obtain⟨ld,md⟩:=h.downs b;obtain⟨xa,hxa,ea⟩:=aG1 c1;obtain⟨xb,hxb,eb⟩:=aG1 c2;have ca:oY t a=xa.2.1:=by unfold oY;rw[hxa];rfl
 have cb:oY t b=xb.2.1:=by unfold oY;rw[hxb];rfl
 have hal:tZ (k.1,k.2) a b=some _:=bY6 (k:=k) h a b;have hcz:∀(u:den tSg) (x y:Int) (d:den tSg),u.2.2.length<=1000000->d.2.2.length<=1000000->gT (k.1,k.2) (u.1,u.2.1,u.2.2) x y (d.1,d.2.1,d.2.2)=some (dF k.2 u x y d):=λu x y d h1 h2=>bEi (k:=k) h (up:=u) (down:=d) h1 h2 x y
 have hz1:∀(x y:Int),gT (k.1,k.2) (0,0,[]) x y (0,0,[])=some (dF k.2 jF x y jF):=λx y=>hcz jF x y jF (by decide) (by decide)
 have hz2:∀(x y:Int) (d:den tSg),d.2.2.length<=1000000->gT (k.1,k.2) (0,0,[]) x y (d.1,d.2.1,d.2.2)=some (dF k.2 jF x y d):=λx y d hd=>hcz jF x y d (by decide) hd
 have hz3:∀(u:den tSg) (x y:Int),u.2.2.length<=1000000->gT (k.1,k.2) (u.1,u.2.1,u.2.2) x y (0,0,[])=some (dF k.2 u x y jF):=λu x y hu=>hcz u x y jF hu (by decide)
 have hf:∀s:den tSg,dV (s.1,s.2.1,s.2.2)=some (eW s):=λs=>bNe s
 obtain⟨n1,n2,n3,n4,n5,n6,s1,s2,s4,s5,s6,s7⟩:=aLi h a b;simp only[zY,zZ,aA,cF0,cHj,hal,e1,e2,bC,bT,bH,bI,bL];generalize hU:cV k.1 a=ups at *;generalize hD:cV k.1 b=downs at *;have q3:(ups.flatMap (tV 1 b)++downs.flatMap (tV 4 a)).length<=60:=by rw[cGh];omega
 generalize ups.flatMap (tV 1 b)++downs.flatMap (tV 4 a)=l3 at *;have q4:(l3++dF k.2 jF a b jF).length<=120:=by rw[cGh];omega
 generalize l3++dF k.2 jF a b jF=l4 at *;rw[sO ups (λu=>downs.flatMap λd=>yO u d) (λx=>x) l4 (by omega) (by omega) (λi u y hi hx hm hd hw hb=>by
  have hy:y.length<=1000000:=by omega
  have hb0:y.length+(downs.flatMap λd=>yO u d).length<=1000000:=hb;have hsum:(downs.map λd=>(yO u d).length).sum=(downs.flatMap λd=>yO u d).length:=by rw[List.length_flatMap]
  simp only[hd,cU,zZ,cF2,hx,aA,hw];rw[sO downs (λd=>yO u d) (λx=>x) y (by omega) (by rw[hsum];exact hb0) (λj d z hj hx' hm' hd' hw' hb'=>by
   have e:mC (u.1,u.2.1,u.2.2) (d.1,d.2.1,d.2.2)=some (aEo u d):=bNq (up:=u) (down:=d) (mu u hm) (md d hm');have hb:z.length<=1000000:=by omega
   unfold yO;simp only[hd',cU,zZ,cF2,hx',aA,e,hw',aE (b:=24) (n:=z.length) (m:=1) (by decide) (by omega)];cases decide (((aEo u d).length:Int)>0)
   .simp
   .rfl) (λy=>by simp)]
  rfl) (λy=>by simp)]
 rw[aA];have q5:(l4++ups.flatMap λu=>downs.flatMap λd=>yO u d).length<=1020:=by rw[cGh];omega
 generalize (l4++ups.flatMap λu=>downs.flatMap λd=>yO u d)=l5 at *;rw[aWy downs (λd=>dF k.2 jF a (eW d) d) (oY t a) l5 (by omega) (by omega) (λhc i d y hi hx hm hd hw hb=>by
  rw[ca]at hc;simp only[hd,cU,zZ,ea,hc,cF2,hx,aA,hf,hz2 _ _ d (md d hm),hw];rw[aE (b:=24) (n:=y.length) (m:=(dF k.2 jF a (eW d) d).length) (by decide) (by omega)];rfl) (λy=>by simp) (λhc=>by
  rw[ca]at hc;simp only[ea,aA,hc];cases decide ((0:Int)<(downs.length:Int))<;>rfl),aA]
 have q6:(l5++cond (oY t a) (downs.flatMap λd=>dF k.2 jF a (eW d) d) []).length<=2820:=by
  rw[cGh];cases oY t a
  .simp only[zY,cHn];omega
  .simp only[zZ];omega
 generalize (l5++cond (oY t a) (downs.flatMap λd=>dF k.2 jF a (eW d) d) [])=l6 at *;rw[aWy ups (λu=>dF k.2 u (eW u) b jF) (oY t b) l6 (by omega) (by omega) (λhc i d y hi hx hm hd hw hb=>by
  rw[cb]at hc;simp only[hd,cU,zZ,eb,hc,cF2,hx,aA,hf,hz3 d _ _ (mu d hm),hw];rw[aE (b:=24) (n:=y.length) (m:=(dF k.2 d (eW d) b jF).length) (by decide) (by omega)];rfl) (λy=>by simp) (λhc=>by
  rw[cb]at hc;simp only[eb,aA,hc];cases decide ((0:Int)<(ups.length:Int))<;>rfl),aA]
 have q7:(l6++cond (oY t b) (ups.flatMap λu=>dF k.2 u (eW u) b jF) []).length<=4620:=by
  rw[cGh];cases oY t b
  .simp only[zY,cHn];omega
  .simp only[zZ];omega
 generalize (l6++cond (oY t b) (ups.flatMap λu=>dF k.2 u (eW u) b jF) [])=l7 at *;rw[sO ups (λu=>downs.flatMap λd=>dF k.2 u (eW u) (eW d) d) (λx=>x) l7 (by omega) (by omega) (λi u y hi hx hm hd hw hb=>by
  have hb0:y.length+(downs.flatMap λd=>dF k.2 u (eW u) (eW d) d).length<=1000000:=hb;have hsum:(downs.map λd=>(dF k.2 u (eW u) (eW d) d).length).sum=(downs.flatMap λd=>dF k.2 u (eW u) (eW d) d).length:=by rw[List.length_flatMap]
  simp only[hd,cU,zZ,cF2,hx,aA,hw];rw[sO downs (λd=>dF k.2 u (eW u) (eW d) d) (λx=>x) y (by omega) (by rw[hsum];exact hb0) (λj d z hj hx' hm' hd' hw' hb'=>by
   simp only[hd',cU,zZ,cF2,hx',aA,hf,hcz u _ _ d (mu u hm) (md d hm'),hw'];rw[aE (b:=24) (n:=z.length) (m:=(dF k.2 u (eW u) (eW d) d).length) (by decide) (by omega)];rfl) (λy=>by simp)]
  rfl) (λy=>by simp)]
 rfl
def gW(p:den tPt):Prop:=cGd (α:=den tPp) p<=3/\ ∀x:den tPp,x∈(show lPp from p)->x.2.2.2.length<=5
def aS4(n:Nat)(l:lPt):Prop:=l.length<=n/\ ∀p∈l,gW p
theorem aRz:gW []:=⟨by simp,λx hx=>(cGn hx).elim⟩
theorem aBc{t:Ty}{B:Nat}:∀{l:List (den t)},(∀x∈l,tot t x<=B)->tot (.sl t) l<=(B+1) * l.length
 | [],_=>by simp[tot]
 | x::l,h=>by
  have ih:=aBc (l:=l) λy hy=>h y (cF7 _ hy)
  have hx:=h x (by simp);rw[kW,cGv,Nat.mul_add,Nat.mul_one];omega
theorem aZs{q:den tPp}(h:q.2.2.2.length<=5):tot tPp q<=5:=by
 show tot ti q.1+(tot ti q.2.1+(tot ti q.2.2.1+tot (.sl bV) q.2.2.2))<=5;rw[kS (t:=bV) rfl];show 0+(0+(0+q.2.2.2.length))<=5;omega
theorem aM5{p:den tPt}(h:gW p):tot tPt p<=18:=by
 have h1:=aBc (t:=tPp) (B:=5) (l:=p) λx hx=>aZs (h.2 x hx)
 have h2:=h.1;show tot (.sl tPp) p<=18;have :(5+1) * cGd (α:=den tPp) p<=18:=by omega
 exact cFv h1 this
theorem aWt{n:Nat}{l:lPt}(h:aS4 n l):tot (.sl tPt) l<=19 * n:=by
 have h1:=aBc (t:=tPt) (B:=18) (l:=l) λx hx=>aM5 (h.2 x hx)
 have h2:=h.1;have :(18+1) * l.length<=19 * n:=by omega
 exact cFv h1 this
theorem aH3{s:den tSg}(h:s.2.2.length<=5)(k i:Int):∃q:den tPp,cK s k i=some q/\q.2.2.2.length<=5:=⟨_,aGc (by omega),cFv (aH0 s k i) h⟩
theorem aV0{up down:den tSg}(h1:up.2.2.length<=5)(h2:down.2.2.length<=5):∀n:Nat,gW (aGx up down n)
 | 0=>aRz
 | n+1=>by
  unfold aGx;split
  .refine⟨by simp,λx hx=> ?_⟩;simp only[cFy,cGn,or_false]at hx;rcases hx with rfl | rfl
   .exact cFv (aH0 _ _ _) h1
   .exact cFv (aH0 _ _ _) h2
  .exact aV0 h1 h2 n
theorem bRv{up down:den tSg}(h1:up.2.2.length<=5)(h2:down.2.2.length<=5):∃p,mC up down=some p/\gW p:=⟨_,bNq (by omega) (by omega),aV0 h1 h2 _⟩
theorem bAj{p:lPp}(h:gW p):tot tPt p<=1073741824:=cFv (aM5 h) (by decide)
theorem bO4{x:den tPp}(h:x.2.2.2.length<=5):gW [x]:=⟨by simp,λy hy=>by rw[cF5.1 hy];exact h⟩
theorem aZu{s:den tSg}(hs:s.2.2.length<=5)(k:Int){p:lPp}{n:Nat}(hp:p.length<=n/\ ∀x∈p,x.2.2.2.length<=5):(kV s k p).length<=n+1/\ ∀x∈kV s k p,x.2.2.2.length<=5:=by
 unfold kV;cases decide ((s.2.2.length:Int)>0) with
 | false=>exact⟨cFv hp.1 (Nat.le_succ _),hp.2⟩
 | true=>
  refine⟨by simp;exact hp.1,λx hx=> ?_⟩;rcases cF6.1 (show x∈p++[oN s k 0] from hx) with hx | hx
  .exact hp.2 x hx
  .rw[cF5.1 hx];exact cFv (aH0 s k 0) hs
theorem bFy{up core down:den tSg}(h1:up.2.2.length<=5)(h2:core.2.2.length<=5)(h3:down.2.2.length<=5)(b:Bool):gW (xU up core b down):=
 aZu h3 4 (n:=2) (aZu h2 (cond b 3 2) (n:=1) (aZu h1 1 (n:=0) ⟨by simp,λx hx=>(cGn hx).elim⟩))
theorem aM2{k:den tDb}(h:DbS k){up down:den tSg}(h1:up.2.2.length<=5)(h3:down.2.2.length<=5)(a b:Int):∀p∈dF k.2 up a b down,gW p:=by
 intro p hp;unfold dF at hp;rcases cF6.1 hp with hp | hp
 .obtain⟨s,hs,hp⟩:=cG5.1 hp;rw[cF5.1 hp];exact bFy h1 (h.hc1 s (cGc.1 hs).1) h3 false
 .obtain⟨s,hs,hp⟩:=cG5.1 hp;rw[cF5.1 hp];exact bFy h1 (h.hc1 s (cGc.1 hs).1) h3 true
theorem bGe{t:den tTo}{k:den tDb}(h:DbS k)(a b:Int):∀p∈rO t k a b,gW p:=by
 intro p hp;have mu:∀s∈cV k.1 a,s.2.2.length<=5:=λs hs=>h.hd1 s (cGc.1 hs).1
 have md:∀s∈cV k.1 b,s.2.2.length<=5:=λs hs=>h.hd1 s (cGc.1 hs).1
 have one:∀(kind r:Int) (s:den tSg),s.2.2.length<=5-> ∀p∈tV kind r s,gW p:=λkind r s hs p hp=>by
  unfold tV at hp;cases hc:decide (fIx s.2.2 r>=0) with
  | false=>rw[hc]at hp;cases hp
  | true=>
   rw[hc]at hp;rw[cF5.1 hp];exact bO4 (cFv (aH0 _ _ _) hs)
 unfold rO at hp;cases hc:(a==b||(!dE t a|| !dE t b)) with
 | true=>rw[hc]at hp;cases hp
 | false=>
 rw[hc]at hp;simp only[zY,cF6]at hp;rcases hp with (((((hp | hp) | hp) | hp) | hp) | hp) | hp
 .obtain⟨s,hs,hp⟩:=cG5.1 hp;exact one _ _ s (mu s hs) p hp
 .obtain⟨s,hs,hp⟩:=cG5.1 hp;exact one _ _ s (md s hs) p hp
 .exact aM2 h (by decide) (by decide) _ _ p hp
 .obtain⟨u,hu,hp⟩:=cG5.1 hp;obtain⟨d,hd,hp⟩:=cG5.1 hp;unfold yO at hp;cases hq:decide (((aEo u d).length:Int)>0) with
  | false=>rw[hq]at hp;cases hp
  | true=>
   rw[hq]at hp;rw[cF5.1 hp];exact aV0 (mu u hu) (md d hd) _
 .cases hq:oY t a with
  | false=>rw[hq]at hp;cases hp
  | true=>
   rw[hq]at hp;obtain⟨d,hd,hp⟩:=cG5.1 hp;exact aM2 h (by decide) (md d hd) _ _ p hp
 .cases hq:oY t b with
  | false=>rw[hq]at hp;cases hp
  | true=>
   rw[hq]at hp;obtain⟨u,hu,hp⟩:=cG5.1 hp;exact aM2 h (mu u hu) (by decide) _ _ p hp
 .obtain⟨u,hu,hp⟩:=cG5.1 hp;obtain⟨d,hd,hp⟩:=cG5.1 hp;exact aM2 h (mu u hu) (md d hd) _ _ p hp
theorem bMk{t:den tTo}{k:den tDb}(h:DbS k)(a b:Int):(rO t k a b).length<=100000:=by
 obtain⟨n1,n2,n3,n4,n5,n6,s1,s2,s4,s5,s6,s7⟩:=aLi h a b;have n7:((cV k.1 a).flatMap λu=>(cV k.1 b).flatMap λd=>dF k.2 u (eW u) (eW d) d).length<=54000:=by rw[List.length_flatMap];exact s7
 unfold rO;cases (a==b||(!dE t a|| !dE t b)) with
 | true=>exact cGe _
 | false=>
 cases oY t a<;>cases oY t b<;>simp only[zY,zZ,cGh,cHn]<;>omega
def aPd(q:den tPp)(i:Nat):Int:=aD8 q (if iH q.1 then i+1 else i)
def aK0(t:den tTo)(q:den tPp):Bool:=(q.2.2.2.zipIdx 0).all λz=>aBy t q.2.1 (aPd q z.2) z.1
def bBj(t:den tTo)(p:lPp):Bool:=p.all (aK0 t)
theorem bYa{t:den tTo}{q:den tPp}(ht:t.1.length<=1000000)(h:q.2.2.2.length<=1000000):pV t q=some (aK0 t q):=by
 unfold pV aK0 pj2 pj4 pj5;rw[aY (l:=q.2.2.2) (λk (x:den bV)=>if aBy t q.2.1 (aPd q k) x then none else some false) (by omega) (λk x hi hd hw hx hk=>by
  have e1:jB (q.1,q.2.1,q.2.2.1,q.2.2.2) (k:Int)=some (aD8 q k):=aVn (p:=q) (by omega) (by omega);have e2:jB (q.1,q.2.1,q.2.2.1,q.2.2.2) ((k+1:Nat):Int)=some (aD8 q (k+1)):=aVn (p:=q) (by omega) (by omega);have e3:∀b,gX (t.1,t.2) q.2.1 b (x.1,x.2.1,x.2.2.1,x.2.2.2.1,x.2.2.2.2)=some (aBy t q.2.1 b x):=λb=>bA2 (t:=t) (h:=x) (by omega)
  have eb:zH (q.1,q.2.1,q.2.2.1,q.2.2.2) (k:Int)=some (aPd q k):=by
   unfold zH aPd pj4;simp only[aHu,aA,hw,e1,e2];cases iH q.1<;>rfl
  simp only[hd,hi,hw,zZ,aA,eb,e3];cases aBy t q.2.1 (aPd q k) x<;>rfl) (by simp),aEd]
 cases (q.2.2.2.zipIdx 0).all λz=>aBy t q.2.1 (aPd q z.2) z.1<;>rfl
theorem cCk{t:den tTo}{p:lPp}(ht:t.1.length<=1000000)(h:gW p):pZ t p=some (bBj t p):=by
 have h3:=h.1;unfold pZ bBj pj2 pj4;rw[aY (l:=p) (λ_ (x:den tPp)=>if aK0 t x then none else some false) (by omega) (λk x hi hd hw hx hk=>by
  have e:pV (t.1,t.2) (x.1,x.2.1,x.2.2.1,x.2.2.2)=some (aK0 t x):=bYa (t:=t) (q:=x) ht (cFv (h.2 x hx) (by decide));simp only[hd,hi,hw,zZ,aA,e];cases aK0 t x<;>rfl) (by simp),nD]
 cases p.all (aK0 t)<;>rfl
def aY5(now:Int)(l:cR):Bool:=l.all λh=>decide (now<=h.2.2.2.1)
def aQ1(t:den tTo)(p:lPp)(now:Int):Bool:=cond (nP t p&&bBj t p) (p.all λx=> !decide (x.2.1>now)&&aY5 now x.2.2.2) false
theorem aVv{t:den tTo}{p:den tPt}(h:wfP t p=true){k:Nat}{x:den tPp}(hx:p[k]? =some x):fU t x=true/\(k=0\/aLa ((p[k - 1]?).getD pt0) x=true):=by
 unfold wfP at h;rw[cFw]at h;have :=(aAt (wG t p) p).1 h.2 k x hx;unfold wG at this;rw[cFw,cHi,zR]at this;exact this
theorem aZh{t:den tTo}{x:den tPp}(h:fU t x=true):0<x.2.2.2.length:=by
 unfold fU at h;rw[cFw]at h;have :=(aV.1 h.1).1;omega
theorem cC4{t:den tTo}{p:lPp}(ht:t.1.length<=1000000)(h2:t.2.length<=1000000)(h:gW p)(now:Int):pI t p now=some (aQ1 t p now):=by
 have h3:=h.1;have e1:mD (t.1,t.2) p=some (nP t p):=aX2 (t:=t) (p:=p) (by omega) (by omega) (bAj h);have e2:pZ (t.1,t.2) p=some (bBj t p):=cCk (t:=t) ht h;unfold pI aQ1 pj2 pj5;simp only[e1,e2,aA];cases c1:nP t p with
 | false=>rfl
 | true=>
  cases c2:bBj t p with
  | false=>rfl
  | true=>
   simp only[cF0,zY,aA,cHw,zZ];rw[aY (l:=p) (λ_ (x:den tPp)=>if !decide (x.2.1>now)&&aY5 now x.2.2.2 then none else some false) (by omega) (λk x hi hd hw hx hk=>by
    have hx3:=h.2 x hx;simp only[hd,hi,hw,zZ,aA];cases c:decide (x.2.1>now) with
    | true=>rfl
    | false=>
     simp only[zY];rw[aY (l:=x.2.2.2) (λ_ (y:den bV)=>if decide (now<=y.2.2.2.1) then none else some (cFt (cFt false))) (by omega) (λj y hj hd' hw' hy hk'=>by
      have ehv:∀(hp:den bV) (n:Int),oF hp n=some (decide (n<=hp.2.2.2.1)):=λ_ _=>rfl
      simp only[hd',hj,hw',zZ,aA,ehv];cases decide (now<=y.2.2.2.1)<;>rfl) (by simp),nD]
     unfold aY5;cases x.2.2.2.all λy=>decide (now<=y.2.2.2.1)<;>rfl) (by simp),nD]
   cases p.all λx=> !decide (x.2.1>now)&&aY5 now x.2.2.2<;>rfl
noncomputable def aMu(l:List lPp)(p:lPp):Bool:=l.any λx=>aD6 x p
theorem bA6{α:Type}(p:α->Bool):∀(l:List α) (k:Nat),bW (λ_ x=>if p x then some true else none) k l=if l.any p then some true else none
 | [],_=>rfl
 | x::l,k=>by
  rw[List.any_cons];unfold bW
  by_cases h:p x=true
  .rw[zT h,h];rfl
  .rw[zS h];have h':p x=false:=by simpa using h
   rw[h',cHy];exact bA6 p l (k+1)
theorem bAq{p:lPp}(h:gW p):SmB 68719476736 (.sl tPp) p:=(bM (t:=tPt) (bAj h)).mono (by decide)
theorem bZd{l:List lPp}{p:lPp}(hl:l.length<=1000000)(h:∀x∈l,gW x)(hp:gW p):wY l p=some (aMu l p):=by
 unfold wY aMu;rw[aY (l:=l) (λ_ (x:lPp)=>if aD6 x p then some true else none) (by omega) (λk x hi hd hw hx hk=>by
  have e:lS x p=some (aD6 x p):=bEf (bAq (h x hx)) (bAq hp);simp only[hd,hi,hw,zZ,aA,e];cases aD6 x p<;>rfl) (by simp),bA6 (λx=>aD6 x p)]
 cases l.any λx=>aD6 x p<;>rfl
noncomputable def xB(t:den tTo)(now:Int)(l:List lPp)(p:lPp):List lPp:=
 cond (decide ((l.length:Int)<24)) (cond (aQ1 t p now) (cond (aMu l p) l (l++[p])) l) l
noncomputable def aL8(t:den tTo)(k:den tDb)(a b now:Int):List lPp:=(rO t k a b).foldl (xB t now) []
theorem bL6{t:den tTo}{now:Int}{l:List lPp}{p:lPp}(h:l.length<=24/\ ∀x∈l,gW x)(hp:gW p):(xB t now l p).length<=24/\ ∀x∈xB t now l p,gW x:=by
 unfold xB
 by_cases hc:(l.length:Int)<24
 .rw[zX hc,zZ];cases aQ1 t p now with
  | false=>exact h
  | true=>
   cases aMu l p with
   | true=>exact h
   | false=>
    refine⟨by simp;omega,λx hx=> ?_⟩;rcases cF6.1 (show x∈l++[p] from hx) with hx | hx
    .exact h.2 x hx
    .rw[cF5.1 hx];exact hp
 .rw[zW hc];exact h
theorem bNc{t:den tTo}{now:Int}:∀(m l:List lPp),(∀p∈m,gW p)->l.length<=24->(∀x∈l,gW x)->(m.foldl (xB t now) l).length<=24/\ ∀x∈m.foldl (xB t now) l,gW x
 | [],l,_,h1,h2=>⟨h1,h2⟩
 | p::m,l,h,h1,h2=>by
  obtain⟨a,b⟩:=bL6 (t:=t) (now:=now) ⟨h1,h2⟩ (h p (by simp));exact bNc m _ (λq hq=>h q (cF7 _ hq)) a b
theorem aXo{t:den tTo}{now:Int}:∀(m l:List lPp),¬ ((l.length:Int)<24)->m.foldl (xB t now) l=l
 | [],_,_=>rfl
 | p::m,l,h=>by
  have e:xB t now l p=l:=by unfold xB;rw[zW h];rfl
  rw[cIc,e];exact aXo m l h
theorem bEq{t:den tTo}{k:den tDb}(ht:t.1.length<=1000000)(h2:t.2.length<=1000000)(h:DbS k)(a b now:Int):kI t k a b now=some (aL8 t k a b now):=by
 have e0:mS (t.1,t.2) (k.1,k.2) a b=some (rO t k a b):=bZ5 (t:=t) (k:=k) ht h a b;have hB:=bGe (t:=t) h a b;have hL:=bMk (t:=t) h a b;unfold kI aL8 ixb pj2;rw[e0,aA];have key:∀(G:Int×List lPp->Option ((Int×List lPp)⊕List lPp)),
   (∀(i:Nat) (p:lPp) (l:List lPp),(rO t k a b)[i]? =some p->i<(rO t k a b).length->p∈rO t k a b->l.length<=24->(∀x∈l,gW x)->(l.length:Int)<24->G ((i:Int),l)=some (.inl (((i+1:Nat):Int),xB t now l p)))->
   (∀(i:Nat) (l:List lPp),i<=(rO t k a b).length->(i=(rO t k a b).length\/ ¬ ((l.length:Int)<24))->G ((i:Int),l)=some (.inr l))->
   ∀(rest pre l:List lPp),pre++rest=rO t k a b->l.length<=24->(∀x∈l,gW x)->aC G ((pre.length:Int),l)=some (rest.foldl (xB t now) l):=by
  intro G hs he rest
  induction rest with
  | nil=>intro pre l hp h1 h3;exact bA (he pre.length l (by rw[<- hp];simp) (.inl (by rw[<- hp];simp)))
  | cons p rest ih=>
   intro pre l hp h1 h3;have hlt:pre.length<(rO t k a b).length:=by rw[<- hp];simp
   have hx:(rO t k a b)[pre.length]? =some p:=by rw[<- hp];simp
   by_cases hc:(l.length:Int)<24
   .have hpB:=hB p (cF9 hx);obtain⟨q1,q2⟩:=bL6 (t:=t) (now:=now) ⟨h1,h3⟩ hpB;rw[cQ (hs pre.length p l hx hlt (cF9 hx) h1 h3 hc),cIc];have :=ih (pre++[p]) (xB t now l p) (by simpa using hp) q1 q2;simpa using this
   .rw[aXo _ _ hc];exact bA (he pre.length l (by omega) (.inr hc))
 refine (congrArg (λo=>Option.bind o _) (key _ (λi p l hx hi hp h1 h3 hc=> ?_) (λi l hi hc=> ?_) (rO t k a b) [] [] rfl (by simp) (λx hx=>(cGn hx).elim))).trans ?_
 .have e1:pI (t.1,t.2) p now=some (aQ1 t p now):=cC4 (t:=t) ht h2 (hB p hp) now;have e2:wY l p=some (aMu l p):=bZd (by omega) h3 (hB p hp);have hd:decide ((i:Int)<((rO t k a b).length:Int))=true:=zX (by omega);have hw:wr ((i:Int)+1)=((i+1:Nat):Int):=eE (by omega);unfold xB;simp only[hd,cU,hw,zZ,cF2,hx,aA,e1,e2,zX hc,aE (b:=24) (n:=l.length) (m:=1) (by decide) (by omega)];cases aQ1 t p now<;>cases aMu l p<;>rfl
 .rcases hc with rfl | hc
  .simp only[zW (cG2 _),zY,aA]
  .cases decide ((i:Int)<((rO t k a b).length:Int)) with
   | false=>simp only[zY,aA]
   | true=>simp only[zZ,aA,zW hc,zY]
 .rfl
theorem bW8{t:den tTo}{k:den tDb}(h:DbS k)(a b now:Int):aS4 24 (aL8 t k a b now):=bNc _ _ (bGe h a b) (by simp) (λx hx=>(cGn hx).elim)
theorem aO1{code:List Int}(hl:code.length<=1048576){n:Nat}(hn:n<=1000){c:List Int}{p h:Int}(hc:Cur code (c,p,h)):∃l c' p' h',eK (c,p,h) (n:Int)=some (l,c',p',h')/\(l.length=n/\ ∀x∈l,0<=x/\x<=255)/\Cur code (c',p',h'):=by
 unfold eK pj3 pj4;refine iW (G:=λo=> ∃l c' p' h',o=some (l,c',p',h')/\(l.length=n/\ ∀x∈l,0<=x/\x<=255)/\Cur code (c',p',h')) n (λs:Int×List Int×List Int×Int×Int=>s.1) (λi s=>(s.2.1.length=i/\ ∀x∈s.2.1,0<=x/\x<=255)/\Cur code s.2.2) (λr:List Int×List Int×Int×Int=>(r.1.length=n/\ ∀x∈r.1,0<=x/\x<=255)/\Cur code r.2) ?_ ?_ 0 ((0:Int),[],c,p,h) (by omega) rfl ⟨⟨rfl,λx hx=>(cGn hx).elim⟩,hc⟩ (λr hr=>⟨r.1,r.2.1,r.2.2.1,r.2.2.2,rfl,hr.1,hr.2⟩)
 .rintro i ⟨_,l,c1,p1,h1⟩ hi rfl ⟨⟨g1,g2⟩,k1⟩
  simp only at g1 g2 k1;obtain⟨v,c2,p2,h2,e2,r2,k2⟩:=aH6 hl k1;obtain⟨m,rfl⟩:=cGr r2.1;right;refine⟨(((i+1:Nat):Int),l++[(m:Int)],c2,p2,h2),?_,rfl,⟨by simp[g1],λx hx=>(cF6.1 hx).elim (g2 x) λhx=>by rw[cF5.1 hx];omega⟩,k2⟩;simp only[zX (show (i:Int)<(n:Int) by omega),zZ,e2,aA,aE (b:=1) (n:=l.length) (m:=1) (by decide) (by omega),eE (show i<=1000000000 by omega),aFe (n:=m) (by omega)]
 .rintro⟨_,l,c1,p1,h1⟩ rfl ⟨g,k1⟩
  exact⟨(l,c1,p1,h1),by simp only[zW (cG2 _),zY],g,k1⟩
theorem bNw{up down:den tSg}(h1:up.2.2.length<=5)(h2:down.2.2.length<=5):∃p,qK up down=some p/\gW p:=by
 obtain⟨p,e,k⟩:=bRv h1 h2;unfold mC pj3 at e;refine⟨p,?_,k⟩;cases hm:qK (up.1,up.2.1,up.2.2) (down.1,down.2.1,down.2.2) with
 | none=>rw[hm]at e;cases e
 | some q=>rw[hm,aA]at e;cases e;rfl
def cAo(code:List Int)(o:Option (lAS×lLk×lPp×List Int×q31)):Prop:= ∃(as:lAS) (ls:lLk) (q:lPp) (c':List Int) (p' h':Int),o=some (as,ls,q,c',p',h')/\gW q/\aD5 as ls/\Cur code (c',p',h')
theorem bBr{q:den tPp}(h:q.2.2.2.length<=5):gW [q]:=⟨by simp,λx hx=>by
 have hx:x∈[q]:=hx;rw[cF5.1 hx];exact h⟩
abbrev PdS:=Int×Int×Int×Int×Int×cR×cR×List Int×Int×Int
theorem bBs{code:List Int}(hl:code.length<=1048576){c:List Int}{p h:Int}(hc:Cur code (c,p,h)):cAo code (uK (c,p,h)):=by
 obtain⟨as,ls,c1,p1,h1,e1,ht,k1⟩:=bFj hl hc;obtain⟨t2,b2,s2,c2,p2,h2,e2,l2,k2⟩:=aH1 hl ht 2 k1;obtain⟨t3,b3,s3,c3,p3,h3,e3,l3,k3⟩:=aH1 hl ht 2 k2;obtain⟨t4,b4,s4,c4,p4,h4,e4,l4,k4⟩:=aH1 hl ht 1 k3;obtain⟨v5,c5,p5,h5,e5,r5,k5⟩:=bJ hl (n:=5) (by decide) (by decide) k4;unfold uK dd one pj3 pj4 pj6 pj9 zz4 zz5 zz6 zz7;simp only[e1,e2,e3,e4,e5,aA,bC,bT,bH,bI,bL,show aK 48 0 1=true from by decide,zZ];cases v5==(0:Int) with
 | true=>
  obtain⟨q,eq,kq⟩:=bNw (up:=(t2,b2,s2)) (down:=(t3,b3,s3)) l2 l3;exact⟨as,ls,q,c5,p5,h5,by simp only[zZ,eq,aA],kq,ht,k5⟩
 | false=>
  cases v5==(1:Int) with
  | true=>
   simp only[zZ,zY]
   by_cases hs:(s2.length:Int)>0
   .obtain⟨v6,c6,p6,h6,e6,r6,k6⟩:=aHk hl (l:=[(1:Int),(4:Int)]) (by decide) (by decide) k5;obtain⟨q,eq,kq⟩:=aH3 (s:=(t2,b2,s2)) l2 v6 0;exact⟨as,ls,[q],c6,p6,h6,by simp only[zX hs,zZ,e6,eq,aA],bBr kq,ht,k6⟩
   .exact⟨as,ls,[],c5,p5,h5,by simp only[zW hs,zY,aA],aRz,ht,k5⟩
  | false=>
   cases v5==(2:Int) with
   | true=>
    simp only[zZ,zY]
    by_cases hs:(s4.length:Int)>0
    .obtain⟨v6,c6,p6,h6,e6,r6,k6⟩:=aHk hl (l:=[(2:Int),(3:Int)]) (by decide) (by decide) k5;obtain⟨q,eq,kq⟩:=aH3 (s:=(t4,b4,s4)) l4 v6 0;exact⟨as,ls,[q],c6,p6,h6,by simp only[zX hs,zZ,e6,eq,aA],bBr kq,ht,k6⟩
    .exact⟨as,ls,[],c5,p5,h5,by simp only[zW hs,zY,aA],aRz,ht,k5⟩
   | false=>
    simp only[zY];obtain⟨fc,efc⟩:=aK1 (s:=(t4,b4,s4));obtain⟨lc,elc⟩:=bLu (s:=(t4,b4,s4)) (by show s4.length<=_;omega);refine iW (G:=cAo code) 6 (λs:PdS=>s.1) (λi s=>s.2.2.2.2.2.1.length<=5/\s.2.2.2.2.2.2.1.length<=5/\Cur code s.2.2.2.2.2.2.2) (λr:Int×Int×Int×Int×cR×cR×List Int×Int×Int=>r.2.2.2.2.1.length<=5/\r.2.2.2.2.2.1.length<=5/\Cur code r.2.2.2.2.2.2) ?_ ?_ 0 ((0:Int),t2,b2,t3,b3,s2,s3,c5,p5,h5) (by omega) rfl ⟨l2,l3,k5⟩ ?_
    .rintro i ⟨_,ut,ub,dt,db,us,ds,c6,p6,h6⟩ hi rfl ⟨g1,g2,g3⟩
     simp only at g1 g2 g3;simp only[zX (show (i:Int)<6 by omega),zZ,aA,efc,elc];cases decide ((s4.length:Int)>0) with
     | false=>exact .inl ⟨(ut,ub,dt,db,us,ds,c6,p6,h6),rfl,g1,g2,g3⟩
     | true=>
      right;obtain⟨fu,efu⟩:=aK1 (s:=(ut,ub,us));obtain⟨fd,efd⟩:=aK1 (s:=(dt,db,ds));simp only[zZ,efu,efd,aA];obtain⟨x1,ex1⟩:∃b:Bool,(cond (decide ((us.length:Int)>(0:Int))) (some (fu != fc)) (some false))=some b:=by cases decide ((us.length:Int)>(0:Int))<;>exact⟨_,rfl⟩
      obtain⟨x2,ex2⟩:∃b:Bool,(cond (decide ((ds.length:Int)>(0:Int))) (some (fd != lc)) (some false))=some b:=by cases decide ((ds.length:Int)>(0:Int))<;>exact⟨_,rfl⟩
      simp only[ex1,ex2,aA];obtain⟨y1,y2,y3,c7,p7,h7,ey,ly,ky⟩:∃a b hs c p h,(cond x1 (Option.bind (kY (c6,p6,h6) (as,ls) (2:Int)) λy72=>some (y72.1,y72.2.1,y72.2.2.1,y72.2.2.2.1,y72.2.2.2.2.1,y72.2.2.2.2.2)) (some (ut,ub,us,c6,p6,h6)))=some (a,b,hs,c,p,h)/\hs.length<=5/\Cur code (c,p,h):=by
       cases x1 with
       | false=>exact⟨ut,ub,us,c6,p6,h6,rfl,g1,g3⟩
       | true=>
        obtain⟨a,b,hs,c,p,h,eg,lg,kg⟩:=aH1 hl ht 2 g3;exact⟨a,b,hs,c,p,h,by simp only[zZ,eg,aA],lg,kg⟩
      rw[ey,aA];simp only;cases x2 with
      | false=>exact⟨_,rfl,eE (show i<=1000000000 by omega),ly,g2,ky⟩
      | true=>
       obtain⟨a,b,hs,c,p,h,eg,lg,kg⟩:=aH1 hl ht 2 ky;refine⟨_,by simp only[zZ,eg,aA];rfl,eE (show i<=1000000000 by omega),ly,lg,kg⟩
    .rintro⟨_,ut,ub,dt,db,us,ds,c6,p6,h6⟩ rfl ⟨g1,g2,g3⟩
     exact⟨(ut,ub,dt,db,us,ds,c6,p6,h6),by simp only[show decide (((6:Nat):Int)<(6:Int))=false from rfl,zY,aA],g1,g2,g3⟩
    rintro⟨ut,ub,dt,db,us,ds,c6,p6,h6⟩ ⟨g1,g2,g3⟩
    simp only at g1 g2 g3;obtain⟨q1,f1,m1⟩:=aH3 (s:=(ut,ub,us)) g1 1 0;obtain⟨q2,f2,m2⟩:=aH3 (s:=(t4,b4,s4)) l4 2 0;obtain⟨q3,f3,m3⟩:=aH3 (s:=(dt,db,ds)) g2 4 0;have one:∀(l:lPp) (q:den tPp) (n:Nat),l.length<=n->q.2.2.2.length<=5->(∀x∈l,x.2.2.2.length<=5)->(l++[q]).length<=n+1/\ ∀x∈l++[q],x.2.2.2.length<=5:=λl q n hl hq h=>⟨by simp;omega,λx hx=>(cF6.1 hx).elim (h x) λhx=>by rw[cF5.1 hx];exact hq⟩
    simp only[f1,f2,f3,aA];obtain⟨a1,j1,i1,i2⟩:∃l:lPp,(cond (decide ((us.length:Int)>(0:Int))) (some [q1]) (some []))=some l/\l.length<=1/\ ∀x∈l,x.2.2.2.length<=5:=by
     cases decide ((us.length:Int)>(0:Int))
     .exact⟨[],rfl,by simp,λx hx=>(cGn hx).elim⟩
     .exact⟨[q1],rfl,by simp,λx hx=>by rw[cF5.1 hx];exact m1⟩
    rw[show ((q1.1,q1.2.1,q1.2.2.1,q1.2.2.2):den tPp)=q1 from rfl,j1,aA,aE (b:=48) (n:=a1.length) (m:=1) (by decide) (by omega)];obtain⟨a2,j2,i3,i4⟩:∃l:lPp,(cond (decide ((s4.length:Int)>(0:Int))) (cond true (some (a1++[q2])) none) (some a1))=some l/\l.length<=2/\ ∀x∈l,x.2.2.2.length<=5:=by
     cases decide ((s4.length:Int)>(0:Int))
     .exact⟨a1,rfl,by omega,i2⟩
     .exact⟨a1++[q2],rfl,one a1 q2 1 i1 m2 i2⟩
    rw[show ((q2.1,q2.2.1,q2.2.2.1,q2.2.2.2):den tPp)=q2 from rfl,j2,aA,aE (b:=48) (n:=a2.length) (m:=1) (by decide) (by omega)];cases decide ((ds.length:Int)>(0:Int))
    .exact⟨as,ls,a2,c6,p6,h6,rfl,⟨cFv i3 (by decide),i4⟩,ht,g3⟩
    .exact⟨as,ls,a2++[q3],c6,p6,h6,rfl,one a2 q3 2 i3 m3 i4,ht,g3⟩
structure cEy (p:den tPk):Prop where
 path:gW p.2.2.2.1
 len:p.2.2.2.2.2.2.2.2.2.length<=1000
 bytes:∀x∈p.2.2.2.2.2.2.2.2.2,(0:Int)<=x/\x<=(255:Int)
theorem bYo{code:List Int}(hl:code.length<=1048576){c:List Int}{p h:Int}(hc:Cur code (c,p,h)):∃(as:lAS) (ls:lLk) (k:den tPk) (c':List Int) (p' h':Int),zM (c,p,h)=some (as,ls,k.1,k.2.1,k.2.2.1,k.2.2.2.2.1,k.2.2.2.2.2.1,k.2.2.2.2.2.2.1,k.2.2.2.2.2.2.2.1,k.2.2.2.2.2.2.2.2.1,k.2.2.2.1,k.2.2.2.2.2.2.2.2.2,c',p',h')/\cEy k/\aD5 as ls/\Cur code (c',p',h'):=by
 obtain⟨as,ls,q,c1,p1,h1,e1,kq,kt,k1⟩:=bBs hl hc;obtain⟨v2,c2,p2,h2,e2,r2,k2⟩:=bJ hl (n:=3) (by decide) (by decide) k1;obtain⟨v3,c3,p3,h3,e3,r3,k3⟩:=bJ hl (n:=9) (by decide) (by decide) k2;obtain⟨v4,c4,p4,h4,e4,r4,k4⟩:=bJ hl (n:=3) (by decide) (by decide) k3;obtain⟨v5,c5,p5,h5,e5,r5,k5⟩:=bJ hl (n:=4) (by decide) (by decide) k4;obtain⟨m5,rfl⟩:=cGr r5.1;obtain⟨l6,c6,p6,h6,e6,⟨r6,b6⟩,k6⟩:=aO1 hl (n:=m5) (by omega) k5;have e7:=aPx (kind:=wr (1+v2)) (res:=v4) (seq:=v3) (p:=q) (pay:=l6) (cFv (aM5 kq) (by decide)) (by omega);refine⟨as,ls,gF (wr (1+v2)) q v4 v3 l6,c6,p6,h6,?_,⟨kq,by show l6.length<=_;omega,b6⟩,kt,k6⟩;unfold zM dd cCq pj3 zz4 zz5 zz6 zz7 zz8 zz9;simp only[e1,e2,e3,e4,e5,e6,e7,aA,bC,bT,bH,bI,bL];rfl
theorem cAz(a b:Int):aAd a b=some (a,b,0,[]):=rfl
def RvD(l:lRv):Prop:=l.length<=16/\ ∀y∈l,dO y=true
theorem bRi{l:lRv}{x:den tRv}(h:RvD l):RvD (aLd l x):=by
 obtain⟨h1,h2⟩:=h;unfold aLd;cases hv:dO x with
 | false=>exact⟨h1,h2⟩
 | true=>
  simp only[zZ];cases hs:bW (aB1 x l) 0 l with
  | some r=>
   have :=aNw (λr:lRv=> @ite Nat (RvD r) (Classical.propDecidable _) 0 1) 0 (g:=aB1 x l) (l:=l) (k:=0) (λj y r' hy hr=>by
    have hp:RvD r':=by
     unfold aB1 at hr;cases c1:y.1==x.1 with
     | false=>rw[c1]at hr;cases hr
     | true=>
      cases c2:y.2.1==x.2.1 with
      | false=>rw[c1,c2]at hr;cases hr
      | true=>
       rw[c1,c2]at hr;injection hr with hr;rw[<- hr];have hy':=h2 y (cF9 hy);refine⟨by simpa using h1,λz hz=> ?_⟩;rcases cI4 hz with hz | rfl
       .exact h2 z hz
       .unfold dO at hv hy' ⊢;simp only[cFw]at hv hy' ⊢;refine⟨hy'.1,hy'.2.1,?_⟩;split
        .exact hv.2.2
        .exact hy'.2.2
    simp only[zT hp];exact cF8 _) r hs
   by_cases hp:RvD r
   .exact hp
   .simp only[zS hp]at this;omega
  | none=>
   have hx:∀y∈l++[x],dO y=true:=λy hy=>(cF6.1 hy).elim (h2 y) λhy=>by rw[cF5.1 hy];exact hv
   by_cases c:16<l.length+1
   .simp only[c,zV];exact⟨by simp;omega,λy hy=>hx y (cHq hy)⟩
   .simp only[c,zU];exact⟨by simp;omega,hx⟩
theorem aHz(a b c d cu wa:Int)(ms:lMs)(ps:lPt)(rv:lRv):tot tFl (a,b,c,d,ms,ps,cu,wa,rv)=tot (.sl tMs) ms+tot (.sl tPt) ps+rv.length:=by
 show tot ti a+(tot ti b+(tot ti c+(tot ti d+(tot (.sl tMs) ms+(tot (.sl tPt) ps+(tot ti cu+(tot ti wa+tot (.sl tRv) rv)))))))=_;rw[kS (t:=tRv) rfl];show 0+(0+(0+(0+(_+(_+(0+(0+_)))))))=_;omega
theorem bEo(b:List Int):tot (.sl tMs) [b]=1+b.length:=by
 rw[kW];show 1+tot (.sl tb) b+tot (.sl tMs) []=_;rw[kS (t:=tb) rfl];rfl
theorem mU(f:den tFl):iR f=true↔inR f.1 0 7=true/\inR f.2.1 0 7=true/\f.1≠f.2.1/\inR f.2.2.1 0 100000=true/\f.2.2.2.2.1.length<=20/\inR f.2.2.2.1 0 (f.2.2.2.2.1.length:Int)=true/\f.2.2.2.2.2.1.length<=24/\
  (∀m∈f.2.2.2.2.1,m.length<=40)/\(∀x∈f.2.2.2.2.2.2.2.2,dO x=true)/\(f.2.2.2.2.2.2.1=0\/inR f.2.2.2.2.2.2.1 0 ((f.2.2.2.2.2.1.length:Int) - 1)=true)/\inR f.2.2.2.2.2.2.2.1 0 4=true/\f.2.2.2.2.2.2.2.2.length<=16:=by
 unfold iR;simp only[cFw,cHi,cGw,beq_iff_eq,beq_eq_false_iff_ne,zR,cGm,ne_eq]
theorem bDf{c:Int}{n:Nat}(hn:n<=24)(h:c=0\/inR c 0 ((n:Int) - 1)=true):(if wr (c+1)>=(n:Int) then (0:Int) else wr (c+1))=0\/inR (if wr (c+1)>=(n:Int) then (0:Int) else wr (c+1)) 0 ((n:Int) - 1)=true:=by
 have hc:0<=c/\c<=24:=by
  rcases h with e | e
  .omega
  .have :=aV.1 e;omega
 rw[bE (by omega) (by omega)];split
 .exact .inl rfl
 .right;rw[aV];omega
theorem bXl{w:Int}(h:inR w 0 4=true)(h4: ¬ (w==4)=true):inR (wr (w+1)) 0 4=true:=by
 rw[aV]at h;rw[beq_iff_eq]at h4;rw[bE (by omega) (by omega),aV];omega
theorem aXj{f:den tFl}(h:iR f=true):iR (aD f).1=true:=by
 rw[mU]at h;obtain⟨h1,h2,h3,h4,h5,h6,h7,h8,h9,h10,h11,h12⟩:=h;have key:∀c w:Int,(c=0\/inR c 0 ((f.2.2.2.2.2.1.length:Int) - 1)=true)->inR w 0 4=true->iR (setCW f c w)=true:=λc w hc hw=>by
  rw[mU];exact⟨h1,h2,h3,h4,h5,h6,h7,h8,h9,hc,hw,h12⟩
 unfold aD;split
 .split
  .exact key _ _ h10 rfl
  .split
   .exact key _ _ (bDf h7 h10) rfl
   .next e4=>exact key _ _ h10 (bXl h11 e4)
 .exact key _ _ h10 rfl
def Byt(l:List Int):Prop:= ∀x∈l,0<=x/\x<=255
theorem cDq(bs:ByteArray):∀(n i:Nat) (r:List UInt8),n+i=bs.size->ByteArray.toList.loop bs i r=r.reverse++bs.data.toList.drop i:=by
 intro n
 induction n with
 | zero=>
  intro i r h;unfold ByteArray.toList.loop;rw[zS (by omega),List.drop_of_length_le (by rw[cI2];show bs.size<=i;omega),cGq]
 | succ n ih=>
  intro i r h;unfold ByteArray.toList.loop;rw[zT (by omega),ih (i+1) _ (by omega)];have hi:i<bs.data.toList.length:=by rw[cI2];show i<bs.size;omega
  rw[List.drop_eq_getElem_cons hi,List.reverse_cons,cGj];congr 2;simp[ByteArray.get!];rw[getElem!_pos bs.data i (by rw[<- cI2];exact hi)]
theorem bl(bs:ByteArray):bs.toList=bs.data.toList:=by
 unfold ByteArray.toList;rw[cDq bs bs.size 0 [] (by omega)];simp
theorem aSv(l:List Int):(aAf l).toList=l.map λn=>UInt8.ofNat n.toNat:=by
 rw[bl];rfl
theorem bMq{a b:List Int}(ha:Byt a)(hb:Byt b):((aAf a).toList==(aAf b).toList)=true↔a=b:=by
 rw[beq_iff_eq,aSv,aSv];constructor
 .intro h;have hl:=congrArg cGd h;simp only[cGu]at hl;refine List.ext_getElem hl λi h1 h2=> ?_
  have h3:(a.map λn=>UInt8.ofNat n.toNat)[i]'(by simpa using h1)=(b.map λn=>UInt8.ofNat n.toNat)[i]'(by simpa using h2):=by simp only[h]
  simp only[List.getElem_map]at h3;have a1:=ha _ (cHa h1);have b1:=hb _ (cHa h2);have h4:=congrArg UInt8.toNat h3;simp only[UInt8.toNat_ofNat']at h4;omega
 .intro h;rw[h]
def aIq(l:cR):Option Int:=l.head?.map λx=>(x.1:Int)
def aC9(l:cR):Option Int:=l.getLast?.map λx=>(x.1:Int)
def aHy(p:lPp):Option Int:=p.head?.bind λx=>aIq x.2.2.2
def aCh(p:lPp):Option Int:=p.getLast?.bind λx=>aC9 x.2.2.2
def cD8(a b:Int)(p:den tPt):Prop:=gW p/\aHy p=some a/\aCh p=some b
def aN8(a b:Int)(n:Nat)(l:lPt):Prop:=l.length<=n/\ ∀p∈l,cD8 a b p
theorem aN8.d{a b:Int}{n:Nat}{l:lPt}(h:aN8 a b n l):aS4 n l:=⟨h.1,λp hp=>(h.2 p hp).1⟩
def aGq(a b:Int)(p:lPp):Prop:=aHy p=some a/\aCh p=some b
theorem bYt{s:den tSg}(h:s.2.2≠[]):aC9 s.2.2=some (rD s):=by
 have hl:s.2.2.length≠0:=λe=>h (List.length_eq_zero_iff.1 e)
 unfold aC9 rD;rw[zS hl,List.getLast?_eq_getElem?,cFx (show s.2.2.length - 1<s.2.2.length by omega)];rfl
theorem bAw{s:den tSg}(h:0<=eW s):s.2.2≠[]:=λe=>by
 unfold eW at h;rw[e]at h;exact absurd h (by decide)
theorem aF5{s:den tSg}{k:Int}{i:Nat}{x:den bV}(hk:inR k 1 4=true)(hx:s.2.2[i]? =some x):aIq (oN s k i).2.2.2=some (if iH k then rD s else x.1)/\aC9 (oN s k i).2.2.2=some (if iH k then (x.1:Int) else rD s):=by
 obtain⟨hi,e⟩:=cFz.1 hx;have hne:s.2.2≠[]:=λe=>by rw[e]at hi;exact absurd hi (cI6 _)
 have hl:=bYt hne;have hd:(s.2.2.drop i).head? =some x:=by rw[List.head?_drop];exact hx
 have hg:(s.2.2.drop i).getLast? =s.2.2.getLast? :=by rw[List.getLast?_drop,zS (by omega)]
 unfold oN;rw[show inR (i:Int) 0 ((s.2.2.length:Int) - 1)=true from aV.2 ⟨by omega,by omega⟩,hk];simp only[cHw,zV,cF2];unfold aC9 at hl;unfold aIq aC9;cases iH k with
 | true=>
  simp only[zV];rw[List.head?_reverse,List.getLast?_reverse,hg,hl,hd];exact⟨rfl,rfl⟩
 | false=>
  simp only[cF1,zU];rw[hg,hl,hd];exact⟨rfl,rfl⟩
theorem aOu{s:den tSg}{k:Int}(hk:inR k 1 4=true)(h:s.2.2≠[]):aIq (oN s k 0).2.2.2=some (if iH k then rD s else eW s)/\aC9 (oN s k 0).2.2.2=some (if iH k then eW s else rD s):=by
 unfold eW;cases hs:s.2.2 with
 | nil=>exact absurd hs h
 | cons x l=>exact aF5 (i:=0) hk (by rw[hs];rfl)
theorem bZ1{l:cR}{r:Int}(h:0<=fIx l r):∃(i:Nat) (x:den bV),fIx l r=(i:Int)/\l[i]? =some x/\x.1=r:=by
 unfold fIx at h|-;cases hs:bW (λk (x:den bV)=>if x.1==r then some (k:Int) else none) 0 l with
 | none=>rw[hs]at h;exact absurd h (by decide)
 | some v=>
  obtain⟨j,x,hx,hv,hp⟩:=aMl hs;exact⟨j,x,by rw[hv];simp,hx,eq_of_beq hp⟩
theorem bMz{l:cR}{r:Int}:∀{n:Nat},n<=l.length->0<=lIx l r n-> ∃(j:Nat) (y:den bV),lIx l r n=(j:Int)/\l[j]? =some y
 | 0,_,h=>absurd h (by show ¬ (0:Int)<= -1;decide)
 | n+1,hn,h=>by
  unfold lIx at h|-;split
  .exact⟨n,l[n]'(by omega),rfl,cFx (by omega)⟩
  .rename_i c;rw[zS c]at h;exact bMz (by omega) h
theorem bAy{x:den tPp}{a b:Int}(h1:aIq x.2.2.2=some a)(h2:aC9 x.2.2.2=some b):aGq a b [x]:=⟨h1,h2⟩
theorem aT7{up down:den tSg}(hd:down.2.2≠[]):∀n:Nat,n<=up.2.2.length->0<(aGx up down n).length->aGq (rD up) (rD down) (aGx up down n)
 | 0,_,h=>absurd h (Nat.lt_irrefl 0)
 | n+1,hn,h=>by
  unfold aGx at h|-;split
  .rename_i c;have hx:up.2.2[n]? =some (up.2.2[n]'(by omega)):=cFx (by omega);obtain⟨j,y,hj,hy⟩:=bMz (cF8 _) c;rw[hj];exact⟨(aF5 (k:=1) rfl hx).1,(aF5 (k:=4) rfl hy).2⟩
  .rename_i c;rw[zS c]at h;exact aT7 hd n (by omega) h
theorem aR8{up core down:den tSg}{b:Bool}(hc:core.2.2≠[]){x y:Int}(hx:(up.2.2=[]/\x=cond b (rD core) (eW core))\/(up.2.2≠[]/\x=rD up))(hy:(down.2.2=[]/\y=cond b (eW core) (rD core))\/(down.2.2≠[]/\y=rD down)):aGq x y (xU up core b down):=by
 have pos:∀{s:den tSg},s.2.2≠[]->decide ((s.2.2.length:Int)>0)=true:=λ{s} h=>zX (by have :=List.length_pos_iff.2 h;omega)
 have zero:∀{s:den tSg},s.2.2=[]->decide ((s.2.2.length:Int)>0)=false:=λ{s} h=>by rw[h];rfl
 have hr:iH (cond b 3 2)=b:=by cases b<;>rfl
 obtain⟨c1,c2⟩:=aOu (s:=core) (k:=cond b 3 2) (by cases b<;>rfl) hc;rw[hr]at c1 c2;unfold xU kV;rw[pos hc];simp only[zZ,cGk];unfold aGq aHy aCh;rcases hx with ⟨h1,rfl⟩ | ⟨h1,rfl⟩<;>rcases hy with ⟨h2,rfl⟩ | ⟨h2,rfl⟩
 .rw[zero h1,zero h2];cases b<;>exact⟨c1,c2⟩
 .rw[zero h1,pos h2];cases b<;>exact⟨c1,(aOu (k:=4) rfl h2).2⟩
 .rw[pos h1,zero h2];cases b<;>exact⟨(aOu (k:=1) rfl h1).1,c2⟩
 .rw[pos h1,pos h2];exact⟨(aOu (k:=1) rfl h1).1,(aOu (k:=4) rfl h2).2⟩
theorem aFp{c:lSg}{up down:den tSg}{a b x y:Int}(ha:0<=a)(hb:0<=b)(hx:(up.2.2=[]/\x=a)\/(up.2.2≠[]/\x=rD up))(hy:(down.2.2=[]/\y=b)\/(down.2.2≠[]/\y=rD down)):∀p∈dF c up a b down,aGq x y p:=by
 intro p hp;unfold dF at hp;rcases cF6.1 hp with hp | hp<;>obtain⟨s,hs,hp⟩:=cG5.1 hp<;>rw[cF5.1 hp]<;>have h:=(cGc.1 hs).2<;>rw[cFw,beq_iff_eq,beq_iff_eq]at h
 .exact aR8 (bAw (by rw[h.1];exact ha)) (hx.imp (λz=>⟨z.1,z.2.trans h.1.symm⟩) id) (hy.imp (λz=>⟨z.1,z.2.trans h.2.symm⟩) id)
 .exact aR8 (bAw (by rw[h.1];exact hb)) (hx.imp (λz=>⟨z.1,z.2.trans h.2.symm⟩) id) (hy.imp (λz=>⟨z.1,z.2.trans h.1.symm⟩) id)
theorem bG5{t:den tTo}{n:Nat}{k:den tDb}(h:DbD n k.1 k.2){a b:Int}(ha:0<=a)(hb:0<=b):∀p∈rO t k a b,aGq a b p:=by
 have dn:∀{r:Int} {s:den tSg},s∈cV k.1 r->rD s=r/\s.2.2≠[]/\0<=eW s:=λ{r s} hs=>by
  obtain⟨h1,h2⟩:=cGc.1 hs;obtain⟨h3,h4⟩:=h.ha s h1;refine⟨eq_of_beq h2,h3,?_⟩;unfold eW;cases hh:s.2.2 with
  | nil=>exact absurd hh h3
  | cons x l=>exact (h4 x (by rw[hh];exact cGb ..)).1
 intro p hp;unfold rO at hp;cases hc:(a==b||(!dE t a|| !dE t b)) with
 | true=>rw[hc]at hp;cases hp
 | false=>
 rw[hc]at hp;simp only[zY,cF6]at hp;have one:∀{kind r:Int} {s:den tSg},p∈tV kind r s-> ∃(i:Nat) (x:den bV),p=[oN s kind (i:Int)]/\s.2.2[i]? =some x/\x.1=r:=λ{kind r s} hp=>by
  unfold tV at hp;cases hq:decide (fIx s.2.2 r>=0) with
  | false=>rw[hq]at hp;cases hp
  | true=>
   rw[hq]at hp;obtain⟨i,x,e,hx,hr⟩:=bZ1 (of_decide_eq_true hq);exact⟨i,x,by rw[cF5.1 hp,e],hx,hr⟩
 rcases hp with (((((hp | hp) | hp) | hp) | hp) | hp) | hp
 .obtain⟨s,hs,hp⟩:=cG5.1 hp;obtain⟨i,x,rfl,hx,rfl⟩:=one hp;obtain⟨e1,e2⟩:=aF5 (k:=1) rfl hx;exact bAy (e1.trans (congrArg some (dn hs).1)) e2
 .obtain⟨s,hs,hp⟩:=cG5.1 hp;obtain⟨i,x,rfl,hx,rfl⟩:=one hp;obtain⟨e1,e2⟩:=aF5 (k:=4) rfl hx;exact bAy e1 (e2.trans (congrArg some (dn hs).1))
 .exact aFp ha hb (.inl ⟨rfl,rfl⟩) (.inl ⟨rfl,rfl⟩) p hp
 .obtain⟨u,hu,hp⟩:=cG5.1 hp;obtain⟨d,hd,hp⟩:=cG5.1 hp;unfold yO at hp;cases hq:decide (((aEo u d).length:Int)>0) with
  | false=>rw[hq]at hp;cases hp
  | true=>
   rw[hq]at hp;rw[cF5.1 hp];have :=aT7 (up:=u) (dn hd).2.1 u.2.2.length (cF8 _) (by have :=of_decide_eq_true hq;unfold aEo at this;omega);rw[(dn hu).1,(dn hd).1]at this;exact this
 .cases hq:oY t a with
  | false=>rw[hq]at hp;cases hp
  | true=>
   rw[hq]at hp;obtain⟨d,hd,hp⟩:=cG5.1 hp;exact aFp ha (dn hd).2.2 (.inl ⟨rfl,rfl⟩) (.inr ⟨(dn hd).2.1,(dn hd).1.symm⟩) p hp
 .cases hq:oY t b with
  | false=>rw[hq]at hp;cases hp
  | true=>
   rw[hq]at hp;obtain⟨u,hu,hp⟩:=cG5.1 hp;exact aFp (dn hu).2.2 hb (.inr ⟨(dn hu).2.1,(dn hu).1.symm⟩) (.inl ⟨rfl,rfl⟩) p hp
 .obtain⟨u,hu,hp⟩:=cG5.1 hp;obtain⟨d,hd,hp⟩:=cG5.1 hp;exact aFp (dn hu).2.2 (dn hd).2.2 (.inr ⟨(dn hu).2.1,(dn hu).1.symm⟩) (.inr ⟨(dn hd).2.1,(dn hd).1.symm⟩) p hp
theorem bS0{t:den tTo}{now:Int}{l:List lPp}{q p:lPp}(h:p∈xB t now l q):p∈l\/p=q:=by
 unfold xB at h;cases c1:decide ((l.length:Int)<24) with
 | false=>rw[c1]at h;exact .inl h
 | true=>
  cases c2:aQ1 t q now with
  | false=>rw[c1,c2]at h;exact .inl h
  | true=>
   cases c3:aMu l q with
   | true=>rw[c1,c2,c3]at h;exact .inl h
   | false=>
    rw[c1,c2,c3]at h;exact (cF6.1 (show p∈l++[q] from h)).imp id cF5.1
theorem bAv{t:den tTo}{now:Int}:∀(m l:List lPp),∀p∈m.foldl (xB t now) l,p∈l\/p∈m
 | [],l,p,h=> .inl h
 | q::m,l,p,h=>by
  rcases bAv m (xB t now l q) p h with h | h
  .exact (bS0 h).imp id λe=>by rw[e];exact cGb ..
  .exact .inr (cF7 _ h)
theorem bYq{t:den tTo}{n:Nat}{k:den tDb}(h:DbD n k.1 k.2)(hn:n<=30){a b:Int}(ha:0<=a)(hb:0<=b)(now:Int):aN8 a b 24 (aL8 t k a b now):=by
 obtain⟨h1,h2⟩:=bW8 (t:=t) (h.s hn) a b now;refine⟨h1,λp hp=>⟨h2 p hp,?_⟩⟩;rcases bAv _ _ p hp with hp | hp
 .cases hp
 .exact bG5 h ha hb p hp
theorem cC9{as:lAS}{ls:lLk}(ht:aD5 as ls){d cc:lSg}(hk:DbD 13 d cc){a b:Int}(ha:0<=a)(hb:0<=b)(now:Int):∃l,kI (as,ls) (d,cc) a b now=some l/\aN8 a b 24 l:=
 ⟨_,bEq (t:=(as,ls)) (k:=(d,cc)) (by have :=ht.len;show as.length<=_;omega) (by have :=ht.links;show ls.length<=_;omega) (hk.s (by decide)) a b now,bYq (k:=(d,cc)) hk (by decide) ha hb now⟩
theorem aMa{code:List Int}(hl:code.length<=1048576){c:List Int}{p h:Int}(hc:Cur code (c,p,h)):∃v c' p' h',oP (c,p,h)=some (v,c',p',h')/\Cur code (c',p',h'):=by
 obtain⟨v1,c1,p1,h1,e1,k1⟩:=vE hl (n:=10) (by decide) (by decide) hc;unfold oP pj3 pj4;simp only[e1,aA];cases v1 with
 | true=>
  obtain⟨v2,c2,p2,h2,e2,_,k2⟩:=aHk hl (l:=[(-1:Int),(2147483647:Int),(2147483648:Int)]) (by decide) (by decide) k1;exact⟨v2,c2,p2,h2,by simp only[zZ,e2,aA],k2⟩
 | false=>
  obtain⟨v2,c2,p2,h2,e2,k2⟩:=vE hl (n:=4) (by decide) (by decide) k1;simp only[zY,e2,aA];cases v2 with
  | true=>
   obtain⟨v3,c3,p3,h3,e3,_,k3⟩:=aHk hl (l:=[(0:Int),(1:Int),(2147483646:Int)]) (by decide) (by decide) k2;exact⟨v3,c3,p3,h3,by simp only[zZ,e3,aA],k3⟩
  | false=>
   obtain⟨v3,c3,p3,h3,e3,_,k3⟩:=aI5 hl (n:=1000000) (by decide) k2;obtain⟨v4,c4,p4,h4,e4,_,k4⟩:=aI5 hl (n:=2000) (by decide) k3;exact⟨wr (v3 * v4),c4,p4,h4,by simp only[zY,e3,e4,aA],k4⟩
def aT3(l:cR):Prop:= ∀(j:Nat) (y:den bV),l[j]? =some y->y.2.2.2.1=(5000:Int)
theorem bLy{as:lAS}{ls:lLk}{s:den tSg}(h5:s.2.2.length<=5)(hi:InN (as.length:Int) s.2.2):∃hs,wQ (as,ls) s=some (s.1,s.2.1,hs)/\hs.length<=5/\InN (as.length:Int) hs/\aT3 hs:=by
 unfold wQ ixb pj3 pj5 zz4;rw[show ((s.1,s.2.1,s.2.2):den tSg)=s from rfl,aKr (by omega),aA];refine iW (G:=λo=> ∃hs,o=some (s.1,s.2.1,hs)/\hs.length<=5/\InN (as.length:Int) hs/\aT3 hs) s.2.2.length (λz:Int×cR=>z.1) (λi z=>z.2.length=s.2.2.length/\InN (as.length:Int) z.2/\ ∀(j:Nat) (y:den bV),j<i->z.2[j]? =some y->y.2.2.2.1=(5000:Int)) (λr:cR=>r.length=s.2.2.length/\InN (as.length:Int) r/\aT3 r) ?_ ?_ 0 ((0:Int),s.2.2) (by omega) rfl ⟨rfl,hi,λj y hj=>absurd hj (cI6 j)⟩ ?_
 .rintro i ⟨_,l⟩ hlt rfl ⟨g1,g2,g3⟩
  simp only at g1 g2 g3;right;have hil:i<l.length:=by omega
  have hx:l[i]? =some l[i]:=cFx hil;obtain⟨q0,q1⟩:=g2 l[i] (cHa hil);obtain⟨m,hm⟩:=cGr q0;have hml:m<as.length:=by omega
  obtain⟨bt,et⟩:=aRc (s:=(s.1,s.2.1,l)) (i:Int) (by show l.length<=_;omega);have ex:idx as l[i].1=some as[m]:=by rw[hm,aN];exact cFx hml
  simp only[zX (show (i:Int)<(l.length:Int) by omega),zX (show (0:Int)<=(i:Int) by omega),zZ,cF2,hx,aA,ex,et,aZr,zX hil];refine⟨_,rfl,eE (show i<=1000000000 by omega),by simp[g1],λy hy=> ?_,λj y hj hy=> ?_⟩
  .rcases cI4 hy with hy | rfl
   .exact g2 y hy
   .exact⟨q0,q1⟩
  .simp only[cH3]at hy;split at hy
   .injection hy with hy;rw[<- hy]
   .exact g3 j y (by omega) hy
 .rintro⟨_,l⟩ rfl ⟨g1,g2,g3⟩
  simp only at g1 g2 g3;refine⟨l,by simp only[g1,zW (cG2 _),zY],g1,g2,λj y hy=>g3 j y ?_ hy⟩;have :=(cFz.1 hy).1;omega
 .rintro l ⟨g1,g2,g3⟩
  exact⟨l,rfl,by omega,g2,g3⟩
theorem bH8{p:den tPt}(h:gW p):∃l,qP p=some l/\l.length<=18:=by
 have ht:=aM5 h;have hs:=aDj p;unfold qP ixb pj3;rw[aHt (by omega),aA];refine iW (G:=λo=> ∃l,o=some l/\l.length<=18) (fD p).length (λz:Int×cE=>z.1) (λi z=>z.2.length<=i) (λr:cE=>r.length<=18) ?_ ?_ 0 ((0:Int),[]) (by omega) rfl (by simp) (λl hl=>⟨l,rfl,hl⟩)
 .rintro i ⟨_,l⟩ hlt rfl g1
  simp only at g1;right;simp only[zX (show (i:Int)<((fD p).length:Int) by omega),zX (show (0:Int)<=(i:Int) by omega),zZ,cF2,cFx hlt,aA,aE (b:=24) (n:=l.length) (m:=1) (by decide) (by omega),eE (show i<=1000000000 by omega)];cases ((fD p)[i].2.2 != (0:Int)) with
  | true=>exact⟨_,rfl,rfl,by simp;omega⟩
  | false=>exact⟨_,rfl,rfl,by show l.length<=i+1;omega⟩
 .rintro⟨_,l⟩ rfl g1
  exact⟨l,by simp only[zW (cG2 _),zY],by simp only at g1;omega⟩
theorem bRs{l:lRs}{x y:den tRs}{cap now:Int}(h:y∈admR l x cap now):y∈l\/y=x:=by
 unfold admR at h;split at h
 .exact .inl h
 .rcases cF6.1 h with h | h
  .exact .inl (cGc.1 h).1
  .exact .inr (cF5.1 h)
def bDe(l:lRs)(id r:Int)(m:lRs):Prop:= ∀y∈m,y∈l\/(y.1=id/\y.2.2.2.1=r)
theorem bBi{l:lRs}{cap now:Int}(hl:vO l cap now){p:den tPt}(hp:gW p)(id r till:Int):∃b m,dW l id p r till cap now=some (b,m)/\vO m cap now/\bDe l id r m:=by
 obtain⟨d,ed,hd⟩:=bH8 hp;have hn:=hl.len;unfold dW ixb;rw[aE (b:=40) (n:=([]:lRs).length) (m:=l.length) (by decide) (by simp;omega),zZ,ed,aA];refine iW (G:=λo=> ∃b m,o=some (b,m)/\vO m cap now/\bDe l id r m) d.length (λz:Int×lRs=>z.1) (λi z=>vO z.2 cap now/\bDe l id r z.2) (λx:lRs⊕(Bool×lRs)=>match x with | .inl m=>vO m cap now/\bDe l id r m | .inr m=>vO m.2 cap now/\bDe l id r m.2) ?_ ?_ 0 ((0:Int),[]++l) (by omega) rfl ⟨hl,λy hy=> .inl hy⟩ ?_
 .rintro i ⟨_,m⟩ hlt rfl ⟨g1,g2⟩
  simp only at g1 g2;have hm:=g1.len;obtain⟨b,eb⟩:=bW2 (l:=m) (x:=(id,d[i].1,d[i].2.2,r,till)) (cap:=cap) (now:=now) (by omega);simp only[zX (show (i:Int)<(d.length:Int) by omega),zX (show (0:Int)<=(i:Int) by omega),zZ,cF2,cFx hlt,aA,eb,eE (show i<=1000000000 by omega)];cases b with
  | true=>exact .inr ⟨_,rfl,rfl,g1.admR _,λy hy=>(bRs hy).elim (g2 y) λe=> .inr (by rw[e];exact⟨rfl,rfl⟩)⟩
  | false=>exact .inl ⟨_,rfl,hl,λy hy=> .inl hy⟩
 .rintro⟨_,m⟩ rfl ⟨g1,g2⟩
  exact⟨.inl m,by simp only[zW (cG2 _),zY],g1,g2⟩
 .rintro (m | ⟨b,m⟩) ⟨hm,h2⟩
  .exact⟨_,m,rfl,hm,h2⟩
  .exact⟨b,m,rfl,hm,h2⟩
def aOe(w:den tNw)(f:den tFl):Bool:= !iR f|| !dE (nT w) f.1|| !dE (nT w) f.2.1||(f.2.2.2.1 != 0)||decide (((aB w).length:Int)>=4)||decide (dS (aR w) f.2.1 f.1>=0)
def bU2(f:den tFl)(l:lPt)(now:Int):den tFl:=(f.1,f.2.1,f.2.2.1,f.2.2.2.1,f.2.2.2.2.1,aPn f l now,0,0,f.2.2.2.2.2.2.2.2)
def cCc(w:den tNw)(f:den tFl)(l:lPt):den tNw:=(nT w,nK w,nG w,aJ w,aH w,aI w,aB w++[bU2 f l (aJ w)],aR w++[(f.2.1,f.1,0,[])],dR w)
def bDd(w:den tNw)(b:Bool):q24:=
 ((nG w).1,aJ w,dR w,b,(nT w).1,(nT w).2,(nK w).1,(nK w).2,(nG w).2.1,(nG w).2.2,aH w,aI w,aB w,aR w)
theorem bRb{w:den tNw}{f:den tFl}{l:lPt}(hw:tot tNw w<=1073741824)(hf:tot tFl f<=1073741824)(hl:tot (.sl tPt) l<=1073741824)(el:kI (nT w) (nK w) f.1 f.2.1 (aJ w)=some l):
  zK w f=some (bDd (if aOe w f then w else cCc w f l) (!aOe w f)):=by
 have sw:SmB 68719476736 tNw w:=(bM hw).mono (by decide);have sf:SmB 68719476736 tFl f:=(bM hf).mono (by decide);have n1:w.1.1.length<=68719476736:=sw.1.1.1;have n2:w.2.2.2.2.2.2.2.1.length<=1073741824:=(bM hw).2.2.2.2.2.2.2.1.1;have n3:w.2.2.2.2.2.2.1.length<=1073741824:=(bM hw).2.2.2.2.2.2.1.1;have el:kI w.1 w.2.1 f.1 f.2.1 w.2.2.2.1=some l:=el;have a1:aK 120 w.2.2.2.2.2.2.1.length 1=true:=aE (by decide) (by omega);have a2:aK 48 w.2.2.2.2.2.2.2.1.length 1=true:=aE (by decide) (by omega);unfold zK aOe aL pj2 pj4 pj9 dT aS bD bR zz4 zz5 zz6 zz7 zz8 zz9;simp only[aP,bFq sw,bA9 sf,aFx n1,bFf (show w.2.2.2.2.2.2.2.1.length<=68719476736 by omega),el,cA1 hf hl,cAz,aA,aGh,a1,a2,zZ];cases iR f
 .rfl
 cases dE w.1 f.1
 .rfl
 cases dE w.1 f.2.1
 .rfl
 cases f.2.2.2.1 != 0 with
 | true=>rfl
 | false=>cases decide ((w.2.2.2.2.2.2.1.length:Int)>=4) with
  | true=>rfl
  | false=>cases decide (dS w.2.2.2.2.2.2.2.1 f.2.1 f.1>=0)<;>rfl
theorem bR0{x y:den tPt}{l:lPt}(h:y∈aLv x l):y=x\/y∈l:=by
 unfold aLv at h;simp only[cF6,cF5]at h;rcases h with (h | h) | h
 .exact .inr (cHk h)
 .exact .inl h
 .exact .inr (cHq h)
theorem bLw{y:den tPt}{l:lPt}(h:y∈aIy l):y∈l:=by
 have :∀(l:lPt) (k:Nat) (a:lPt),y∈bO (λ_ x a=>aLv x a) k l a->y∈l\/y∈a:=by
  intro l
  induction l with
  | nil=>exact λk a h=> .inr h
  | cons x l ih=>
   intro k a h;rcases ih (k+1) (aLv x a) h with h | h
   .exact .inl (cF7 _ h)
   .rcases bR0 h with rfl | h
    .exact .inl (by simp)
    .exact .inr h
 rcases this l 0 [] h with h | h
 .exact h
 .exact (cGn h).elim
theorem aJc{f:den tFl}{y:den tPt}{l:lPt}{now:Int}(h:y∈aPn f l now):y∈l:=by
 unfold aPn aKn at h;have h:=cHk h;simp only[cF6,cGc]at h;rcases h with h | h<;>exact bLw h.1
structure FlD (t:den tTo) (f:den tFl):Prop where
 val:iR f=true
 src:dE t f.1=true
 dst:dE t f.2.1=true
 ack:f.2.2.2.1=(0:Int)
 cur:f.2.2.2.2.2.2.1=(0:Int)
 wait:f.2.2.2.2.2.2.2.1=(0:Int)
 rev:f.2.2.2.2.2.2.2.2=[]
 paths:aS4 4 f.2.2.2.2.2.1
 msgs:tot (.sl tMs) f.2.2.2.2.1<=12
 bytes:∀m∈f.2.2.2.2.1,tY m
 ends:∀p∈f.2.2.2.2.2.1,aHy p=some f.1/\aCh p=some f.2.1
def cEr(t:den tTo)(x:den tSg):Prop:=aT3 x.2.2/\bKz t x 2
def cE5(t:den tTo)(x:den tSg):Prop:=aT3 x.2.2/\ ∃k,bKz t x k/\k≠2
def aY0(t:den tTo)(d c:lSg):Prop:=(∀x∈d,cEr t x)/\ ∀x∈c,cE5 t x
structure wB (n:Nat) (w:den tNw):Prop where
 top:aD5 (nT w).1 (nT w).2
 db:DbD 11 (nK w).1 (nK w).2
 gate:nG w=(12,(nG w).2.1,[])
 res:vO (nG w).2.1 12 60
 now:aJ w=60
 dead:aH w=[]
 fly:aI w=[]
 drop:dR w=0
 len:(aB w).length<=n
 flows:∀f∈aB w,FlD (nT w) f
 box:aR w=(aB w).map λf=>((f.2.1,f.1,0,[]):den tIb)
 uniq:(aB w).Pairwise λf g=>vV g f=false
 low:∀x∈(nG w).2.1,(3:Int)>=x.1/\(2:Int)>=x.2.2.2.1
 segs:aY0 (nT w) (nK w).1 (nK w).2
 find:∀f∈aB w,∀p∈f.2.2.2.2.2.1,p∈aL8 (nT w) (nK w) f.1 f.2.1 60
theorem FlD.tot{t:den tTo}{f:den tFl}(h:FlD t f):tot tFl f<=100:=by
 obtain⟨a,b,c,d,ms,ps,cu,wa,rv⟩:=f;rw[aHz];have h1:=h.msgs;have h2:=aWt h.paths;have h3:rv=[]:=h.rev;rw[h3];simp only at h1 h2;simp only[cHn];omega
theorem bF2{s:den tSg}(h:s.2.2.length<=5):tot tSg s<=5:=by
 have e:tot tSg s=s.2.2.length:=by
  show 0+(0+tot (.sl bV) s.2.2)=_;rw[kS rfl];omega
 omega
theorem wB.tot{n:Nat}{w:den tNw}(hn:n<=4)(h:wB n w):Go.V.tot tNw w<=1000:=by
 rw[gB];have h1:=h.top.len;have h2:=h.top.links;have h3:=aBc (t:=tSg) (B:=5) (l:=(nK w).1) λx hx=>bF2 (h.db.hd x hx)
 have h4:=aBc (t:=tSg) (B:=5) (l:=(nK w).2) λx hx=>bF2 (h.db.hc x hx)
 have h5:=aBc (t:=tFl) (B:=100) (l:=aB w) λf hf=>(h.flows f hf).tot
 have h6:=h.db.down;have h7:=h.db.core;have h8:=h.len;have h9:=h.res.len;have h10:(nG w).2.2=[]:=by rw[h.gate]
 have h11:Go.V.tot (.sl tIb) (aR w)<=(0+1) * (aR w).length:=aBc (t:=tIb) λx hx=>by
  rw[h.box]at hx;obtain⟨f,_,rfl⟩:=cF4.1 hx;exact cF8 _
 have h12:(aR w).length=(aB w).length:=by rw[h.box,cGu]
 rw[h.dead,h.fly,h10,aDo,aDo,aDo,kS (t:=tAS) rfl,kS (t:=tLk) rfl,kS (t:=tRs) rfl];omega
theorem wB.mono{n m:Nat}{w:den tNw}(h:wB n w)(hm:n<=m):wB m w:=⟨h.top,h.db,h.gate,h.res,h.now,h.dead,h.fly,h.drop,cFv h.len hm,h.flows,h.box,h.uniq,h.low,h.segs,h.find⟩
def aBn(w:den tNw)(c:List Int)(p h:Int):q36:=
 ((nG w).1,aJ w,dR w,(nT w).1,(nT w).2,(nK w).1,(nK w).2,(nG w).2.1,(nG w).2.2,aH w,aI w,aB w,aR w,c,p,h)
abbrev NwS:=Int×lSg×lSg×Int×Int×Int×lRs×lAS×lLk×lSg×lSg×lUs×lI×lFy×lFl×lIb×lI×Int×Int
abbrev NwR:=Int×Int×Int×lRs×lAS×lLk×lSg×lSg×lUs×lI×lFy×lFl×lIb×lI×Int×Int
def NwI(code:List Int)(n:Nat)(s:NwS):Prop:= ∃as ls d cc res flows box c p h,s=((n:Int),d,cc,12,60,0,res,as,ls,d,cc,[],[],[],flows,box,c,p,h)/\n<=3/\wB (3 - n) ((as,ls),(d,cc),(12,res,[]),60,[],[],flows,box,0)/\Cur code (c,p,h)
def NwQ(code:List Int)(r:NwR):Prop:= ∃as ls d cc res flows box c p h,r=(12,60,0,res,as,ls,d,cc,[],[],[],flows,box,c,p,h)/\wB 3 ((as,ls),(d,cc),(12,res,[]),60,[],[],flows,box,0)/\Cur code (c,p,h)
theorem bRz{t:den tTo}{f:den tFl}{l:lPt}{now:Int}{n:Nat}(hn:n<=4)(hv:iR f=true)(hs:dE t f.1=true)(hd:dE t f.2.1=true)(hk:f.2.2.2.1=(0:Int))(hr:f.2.2.2.2.2.2.2.2=[])(hm:tot (.sl tMs) f.2.2.2.2.1<=12)(hb:∀m∈f.2.2.2.2.1,tY m)(hl:aN8 f.1 f.2.1 24 l):
  FlD t (f.1,f.2.1,f.2.2.1,f.2.2.2.1,f.2.2.2.2.1,(aPn f l now).take n,0,0,f.2.2.2.2.2.2.2.2) where
 val:=by
  rw[mU]at hv ⊢;obtain⟨q1,q2,q3,q4,q5,q6,q7,q8,q9,q10,q11,q12⟩:=hv;exact⟨q1,q2,q3,q4,q5,q6,by simp only[cG7];omega,q8,q9,.inl rfl,rfl,q12⟩
 src:=hs
 dst:=hd
 ack:=hk
 cur:=rfl
 wait:=rfl
 rev:=hr
 paths:=⟨by simp only[cG7];omega,λp hp=>(hl.2 p (aJc (cHk hp))).1⟩
 msgs:=hm
 bytes:=hb
 ends:=λp hp=>(hl.2 p (aJc (cHk hp))).2
theorem bJo{l:lIb}{a b:Int}(h:decide (dS l a b>=0)=false):∀x∈l,rB a b x=false:=by
 have h:=of_decide_eq_false h;unfold dS at h;cases e:l.findIdx? (rB a b) with
 | none=>exact λx hx=>by simpa using List.findIdx?_eq_none_iff.1 e x hx
 | some i=>rw[e]at h;exact absurd (show (0:Int)<=((0+i:Nat):Int) by omega) h
def bQl(code:List Int)(o:Option q36):Prop:= ∃w c' p' h',o=some (aBn w c' p' h')/\wB 3 w/\Cur code (c',p',h')
theorem bXw{code:List Int}(hl:code.length<=1048576){c:List Int}{p h:Int}(hc:Cur code (c,p,h)):bQl code (aBm (c,p,h)):=by
 obtain⟨as,ls,c1,p1,h1,e1,ht,k1⟩:=bFj hl hc;obtain⟨v2,c2,p2,h2,e2,r2,k2⟩:=bJ hl (n:=7) (by decide) (by decide) k1;obtain⟨m2,rfl⟩:=cGr r2.1;have w2:wr ((5:Int)+(m2:Int))=((m2+5:Nat):Int):=by rw[bE (by omega) (by omega)];omega
 unfold aBm dd ixb one yJ cCv pj3 pj4 pj5 pj7 pj8 aS bD bR eC kX tD wC zz4 zz5 zz6 zz7 zz8 zz9;simp only[bC,bT,bH,bI,bL,e1,e2,aA,w2];refine aBl (G:=bQl code) (λ(n:Nat) (s:Int×q45)=> ∃d cc c p h,s=((n:Int),as,ls,d,cc,c,p,h)/\n<=11/\DbD (11 - n) d cc/\aY0 (as,ls) d cc/\Cur code (c,p,h)) (λr:lAS×lLk×lSg×lSg×lI×Int×Int=> ∃d cc c p h,r=(as,ls,d,cc,c,p,h)/\DbD 11 d cc/\aY0 (as,ls) d cc/\Cur code (c,p,h)) ?_ (m2+5) (((m2+5:Nat):Int),as,ls,[],[],c2,p2,h2) ⟨[],[],c2,p2,h2,rfl,by omega,⟨by simp,by simp,λx hx=>(cGn hx).elim,λx hx=>(cGn hx).elim,λx hx=>(cGn hx).elim⟩,⟨λx hx=>(cGn hx).elim,λx hx=>(cGn hx).elim⟩,k2⟩ ?_
 .rintro n s ⟨d,cc,c3,p3,h3,rfl,hn,hk,hseg,k3⟩
  cases n with
  | zero=>exact .inl ⟨_,rfl,d,cc,c3,p3,h3,rfl,hk,hseg,k3⟩
  | succ n=>
   right;obtain⟨v4,c4,p4,h4,e4,k4⟩:=vE hl (n:=3) (by decide) (by decide) k3;have wn:wr (((n+1:Nat):Int) - 1)=(n:Int):=by rw[bE (by omega) (by omega)];omega
   have step:∀kind:Int,∃d' cc' c' p' h',(Option.bind (kY (c4,p4,h4) (as,ls) kind) λy58=>Option.bind (wQ (as,ls) (y58.1,y58.2.1,y58.2.2.1)) λy59=>Option.bind (pM (as,ls) (d,cc) y59) λy60=>some (y60.1,y60.2,y58.2.2.2.1,y58.2.2.2.2.1,y58.2.2.2.2.2))=some (d',cc',c',p',h')/\DbD (11 - n) d' cc'/\aY0 (as,ls) d' cc'/\Cur code (c',p',h'):=by
    intro kind;obtain⟨a5,b5,hs5,c5,p5,h5,e5,⟨l5,i5⟩,k5⟩:=bFw hl ht kind k4;obtain⟨hs6,e6,l6,i6,j6⟩:=bLy (as:=as) (ls:=ls) (s:=(a5,b5,hs5)) l5 i5;obtain⟨d7,cc7,e7,q7,m7,n7⟩:=bNa ht (n:=11 - (n+1)) (by omega) hk (s:=(a5,b5,hs6)) l6 (i6.as (by have :=ht.len;omega));refine⟨d7,cc7,c5,p5,h5,?_,q7.mono (by omega),⟨λx hx=>(m7 x hx).elim (hseg.1 x) λe=>by rw[e.1];exact⟨j6,e.2⟩,λx hx=>(n7 x hx).elim (hseg.2 x) λe=>by rw[e.1];exact⟨j6,e.2⟩⟩,k5⟩;simp only[e5,e6,e7,aA]
   simp only[zX (show ((n+1:Nat):Int)>0 by omega),zZ,e4,aA];cases v4 with
   | true=>
    obtain⟨d',cc',c',p',h',e,q,sg,k⟩:=step 1;refine⟨n,_,by omega,?_,d',cc',c',p',h',rfl,by omega,q,sg,k⟩;simp only[zZ,aA,e,wn]
   | false=>
    obtain⟨d',cc',c',p',h',e,q,sg,k⟩:=step 2;refine⟨n,_,by omega,?_,d',cc',c',p',h',rfl,by omega,q,sg,k⟩;simp only[zY,aA,e,wn]
 rintro r ⟨d,cc,c3,p3,h3,rfl,hk,hseg,k3⟩
 obtain⟨v4,c4,p4,h4,e4,r4,k4⟩:=bJ hl (n:=3) (by decide) (by decide) k3;obtain⟨m4,rfl⟩:=cGr r4.1;have w4:wr ((1:Int)+(m4:Int))=((m4+1:Nat):Int):=by rw[bE (by omega) (by omega)];omega
 have hA:=ht.len;have hL:=ht.links;have smT:SmB 68719476736 tTo (as,ls):=⟨⟨by show as.length<=_;omega,λ_ _=>⟨trivial,trivial,trivial⟩⟩,by show ls.length<=_;omega,λ_ _=>⟨trivial,trivial,trivial,trivial,trivial⟩⟩
 have smK:SmB 68719476736 tDb (d,cc):=⟨aP1 (by omega) hk.down hk.hd,aP1 (by omega) hk.core hk.hc⟩
 have hok:aY3 (as,ls) 60=true:=by unfold aY3;rw[ht.top];rfl
 have e5:=bZx (t:=(as,ls)) (k:=(d,cc)) (c:=12) (now:=60) smT smK;rw[hok,zZ]at e5;simp only[e5,e4,w4,aA];have cap12:cond (inR 12 1 20) (12:Int) 1=12:=rfl;simp only[cap12];refine aBl (G:=bQl code) (NwI code) (NwQ code) ?_ (m4+1) (((m4+1:Nat):Int),d,cc,12,60,0,[],as,ls,d,cc,[],[],[],[],[],c4,p4,h4) ⟨as,ls,d,cc,[],[],[],c4,p4,h4,rfl,by omega,⟨ht,hk,rfl,⟨by simp,λx hx=>(cGn hx).elim,λx hx=>(cGn hx).elim,List.Pairwise.nil⟩,rfl,rfl,rfl,rfl,cGe _,λx hx=>(cGn hx).elim,rfl,List.Pairwise.nil,λx hx=>(cGn hx).elim,hseg,λx hx=>(cGn hx).elim⟩,k4⟩ ?_
 rotate_left
 .rintro r ⟨as,ls,d,cc,res,flows,box,c5,p5,h5,rfl,hd,k5⟩
  exact⟨_,c5,p5,h5,rfl,hd,k5⟩
 .rintro n s ⟨as,ls,d,cc,res,flows,box,c5,p5,h5,rfl,hn,hd,k5⟩
  cases n with
  | zero=>exact .inl ⟨_,rfl,as,ls,d,cc,res,flows,box,c5,p5,h5,rfl,hd,k5⟩
  | succ n=>
   right;obtain⟨a6,b6,c6,p6,h6,e6,⟨ra6,rb6⟩,k6⟩:=bX7 hl (by decide) hd.db k5;obtain⟨v7,c7,p7,h7,e7,m7,k7⟩:=aHk hl (l:=[(0:Int),(0:Int),((n+1:Nat):Int)]) (by simp) (by simp) k6;obtain⟨v8,c8,p8,h8,e8,r8,k8⟩:=bJ hl (n:=3) (by decide) (by decide) k7;obtain⟨m8,rfl⟩:=cGr r8.1;have w8:wr ((1:Int)+(m8:Int))=((m8+1:Nat):Int):=by rw[bE (by omega) (by omega)];omega
   have wn:wr (((n+1:Nat):Int) - 1)=(n:Int):=by rw[bE (by omega) (by omega)];omega
   have enf:∀a b c:Int,aBq a b c=some (a,b,c,0,0,0,[],[],[]):=λ_ _ _=>rfl
   simp only[zX (show ((n+1:Nat):Int)>0 by omega),zZ,e6,e7,enf,e8,w8,wn,aA,Option.bind_assoc];refine aBl (G:=λo=> ∃m s',m<n+1/\o=some (cFu s')/\NwI code m s') (λ(n:Nat) (s:Int×Int×Int×Int×Int×Int×Int×lMs×lPt×lRv×List Int×q31)=> ∃ms c p h,s=((n:Int),a6,b6,v7,0,0,0,ms,[],[],c,p,h)/\n<=3/\tot (.sl tMs) ms+4 * n<=12/\(∀m∈ms,tY m)/\Cur code (c,p,h)) (λs:Int×Int×Int×Int×Int×Int×lMs×lPt×lRv×List Int×Int×Int=> ∃ms c p h,s=(a6,b6,v7,0,0,0,ms,[],[],c,p,h)/\tot (.sl tMs) ms<=12/\(∀m∈ms,tY m)/\Cur code (c,p,h)) ?_ (m8+1) (((m8+1:Nat):Int),a6,b6,v7,(0:Int),(0:Int),(0:Int),[],[],[],c8,p8,h8) ⟨[],c8,p8,h8,rfl,by omega,by rw[aDo];omega,λm hm=>(cGn hm).elim,k8⟩ ?_
   .rintro i s ⟨ms,c9,p9,h9,rfl,hi,hm,hb,k9⟩
    cases i with
    | zero=>exact .inl ⟨_,rfl,ms,c9,p9,h9,rfl,by omega,hb,k9⟩
    | succ i=>
     right;obtain⟨v10,c10,p10,h10,e10,r10,k10⟩:=bJ hl (n:=3) (by decide) (by decide) k9;obtain⟨m10,rfl⟩:=cGr r10.1;obtain⟨l11,c11,p11,h11,e11,⟨r11,b11⟩,k11⟩:=aO1 hl (n:=m10) (by omega) k10;have hf:tot tFl (a6,b6,v7,0,ms,[],0,0,[])<=1000:=by rw[aHz];show _+0+0<=_;omega
     have en:=bWi (f:=(a6,b6,v7,0,ms,[],0,0,[])) (b:=l11) ((bM (B:=1000) hf).mono (by decide)) ⟨by omega,λe he=>trivial⟩;have wi:wr (((i+1:Nat):Int) - 1)=(i:Int):=by rw[bE (by omega) (by omega)];omega
     simp only[zX (show ((i+1:Nat):Int)>0 by omega),zZ,e10,e11,en,aA,wi];unfold aRt;split
     .refine⟨i,_,by omega,rfl,ms++[l11],c11,p11,h11,rfl,by omega,?_,?_,k11⟩
      .rw[vB,bEo];omega
      .intro m hm;rcases cF6.1 hm with hm | hm
       .exact hb m hm
       .rw[cF5.1 hm];exact b11
     .exact⟨i,_,by omega,rfl,ms,c11,p11,h11,rfl,by omega,by omega,hb,k11⟩
   rintro r ⟨ms,c9,p9,h9,rfl,hm,hb,k9⟩
   obtain⟨l10,e10,hl10⟩:=cC9 hd.top (hd.db.mono (by decide)) ra6.1 rb6.1 60;have el10:l10=aL8 (as,ls) (d,cc) a6 b6 60:=by
    have e11:=bEq (t:=(as,ls)) (k:=(d,cc)) (cFv (show as.length<=8 from hd.top.len) (by decide)) (cFv (show ls.length<=100 from hd.top.links) (by decide)) (hd.db.s (by decide)) a6 b6 60;exact Option.some.inj (e10.symm.trans e11)
   have tf:tot tFl (a6,b6,v7,0,ms,[],0,0,[])<=1073741824:=by rw[aHz];show _+0+0<=_;omega
   have ea:=bRb (w:=((as,ls),(d,cc),(12,res,[]),60,[],[],flows,box,0)) (f:=(a6,b6,v7,0,ms,[],0,0,[])) (l:=l10) (cFv (hd.tot (by omega)) (by decide)) tf (cFv (aWt hl10.d) (by decide)) e10;cases hbad:aOe ((as,ls),(d,cc),(12,res,[]),60,[],[],flows,box,0) (a6,b6,v7,0,ms,[],0,0,[]) with
   | true=>
    rw[hbad]at ea;simp only[zV,cF0]at ea;simp only[ea,aA,bDd,zY];exact⟨n,_,by omega,rfl,as,ls,d,cc,res,flows,box,c9,p9,h9,rfl,by omega,hd.mono (by omega),k9⟩
   | false=>
    rw[hbad]at ea;simp only[cF1,zU,cGa]at ea;simp only[ea,aA,bDd,cCc,zZ];unfold aOe at hbad;simp only[Bool.or_eq_false_iff,Bool.not_eq_false']at hbad;obtain⟨⟨⟨⟨⟨b1,b2⟩,b3⟩,b4⟩,b5⟩,b6'⟩:=hbad;have hnone:=bJo b6';have hfl:(flows.length:Int)<4:=by have h5: ¬ ((flows.length:Int)>=4):=of_decide_eq_false b5;omega
    have hfl':flows.length<=3 - (n+1):=hd.len;generalize hg:bU2 (a6,b6,v7,0,ms,[],0,0,[]) l10 60=g;have hL:((flows++[g]).length:Int)=((flows.length+1:Nat):Int):=by simp
    have wl:wr (((flows.length+1:Nat):Int) - 1)=(flows.length:Int):=by rw[bE (by omega) (by omega)];omega
    have hx:(flows++[g])[flows.length]? =some g:=by simp
    have hset:∀y,(flows++[g]).set flows.length y=flows++[y]:=λy=>by simp
    have hlt:flows.length<(flows++[g]).length:=by simp
    obtain⟨m,em,hm1,hm4⟩:∃m:Nat,(if (4:Int)<(g.2.2.2.2.2.1.length:Int) then (4:Int) else (g.2.2.2.2.2.1.length:Int))=(m:Int)/\m<=g.2.2.2.2.2.1.length/\m<=4:=by
     by_cases h4:(4:Int)<(g.2.2.2.2.2.1.length:Int)
     .exact⟨4,by rw[zT h4];rfl,by omega,by omega⟩
     .exact⟨g.2.2.2.2.2.1.length,by rw[zS h4],cF8 _,by omega⟩
    have hmem:∀y∈g.2.2.2.2.2.1,gW y:=λy hy=>by
     rw[<- hg]at hy;exact (hl10.2 y (aJc hy)).1
    simp only[hL,wl,zX (show (0:Int)<=(flows.length:Int) by omega),zX (show (flows.length:Int)<((flows.length+1:Nat):Int) by omega),zZ,cF2,hx,aA,aY7,em,aHh hm1,iQ,zX hlt,hset];have fin:∀res' c p h,vO res' 12 60->(∀x∈res',(3:Int)>=x.1/\(2:Int)>=x.2.2.2.1)->Cur code (c,p,h)->NwI code n ((n:Int),d,cc,12,60,0,res',as,ls,d,cc,[],[],[],flows++[(g.1,g.2.1,g.2.2.1,g.2.2.2.1,g.2.2.2.2.1,List.take m g.2.2.2.2.2.1,g.2.2.2.2.2.2.1,g.2.2.2.2.2.2.2.1,g.2.2.2.2.2.2.2.2)],box++[(b6,a6,0,[])],c,p,h):=by
     intro res' c p h hr hlow hc;have hF:FlD (as,ls) (g.1,g.2.1,g.2.2.1,g.2.2.2.1,g.2.2.2.2.1,List.take m g.2.2.2.2.2.1,g.2.2.2.2.2.2.1,g.2.2.2.2.2.2.2.1,g.2.2.2.2.2.2.2.2):=by
      rw[<- hg];exact bRz (f:=(a6,b6,v7,0,ms,[],0,0,[])) hm4 b1 b2 b3 rfl rfl hm hb hl10
     have ge1:g.1=a6:=by rw[<- hg];rfl
     have ge2:g.2.1=b6:=by rw[<- hg];rfl
     refine⟨as,ls,d,cc,res',_,_,c,p,h,rfl,by omega,⟨hd.top,hd.db,rfl,hr,rfl,rfl,rfl,rfl,?_,?_,?_,?_,hlow,hd.segs,?_⟩,hc⟩
     .show (flows++[_]).length<=_;simp;omega
     .intro f hf;rcases cF6.1 hf with hf | hf
      .exact hd.flows f hf
      .rw[cF5.1 hf];exact hF
     .show box++[_]=(flows++[_]).map _;rw[cHh,<- show box=flows.map (λf=>((f.2.1,f.1,0,[]):den tIb)) from hd.box];simp only[cGg,List.map_nil,ge1,ge2]
     .show (flows++[_]).Pairwise _;rw[cJn];refine⟨hd.uniq,List.pairwise_singleton _ _,λx hx y hy=> ?_⟩;rw[cF5.1 hy];have hbx:((x.2.1,x.1,0,[]):den tIb)∈box:=by
       rw[show box=flows.map (λf=>((f.2.1,f.1,0,[]):den tIb)) from hd.box];exact cF4.2 ⟨x,hx,rfl⟩
      have :=hnone _ hbx;unfold rB at this;unfold vV;rw[Bool.and_comm];simp only[ge1,ge2];exact this
     .intro f hf;rcases cF6.1 hf with hf | hf
      .exact hd.find f hf
      .rw[cF5.1 hf];intro y hy;have hy:y∈g.2.2.2.2.2.1:=cHk hy;show y∈aL8 (as,ls) (d,cc) g.1 g.2.1 60;rw[ge1,ge2,<- el10];rw[<- hg]at hy;exact aJc hy
    by_cases hm0:m=0
    .subst hm0;simp only[show decide (((0:Nat):Int)>0)=false from rfl,zY,aA];exact⟨n,_,by omega,rfl,fin res c9 p9 h9 hd.res hd.low k9⟩
    .simp only[zX (show (m:Int)>0 by omega),zZ,aA];cases hgt:decide (g.2.2.1>(0:Int)) with
     | false=>
      simp only[zY,aA];exact⟨n,_,by omega,rfl,fin res c9 p9 h9 hd.res hd.low k9⟩
     | true=>
      have hp:idx (List.take m g.2.2.2.2.2.1) (0:Int)=some (g.2.2.2.2.2.1[0]'(by omega)):=by
       rw[show (0:Int)=((0:Nat):Int) from rfl,aN,cHd,zT (by omega)];exact cFx _
      obtain⟨v11,c11,p11,h11,e11,r11,k11⟩:=bJ hl (n:=2) (by decide) (by decide) k9;obtain⟨b12,m12,e12,q12,n12⟩:=bBi hd.res (hmem _ (cHa (show 0<g.2.2.2.2.2.1.length by omega))) g.2.2.1 (wr ((1:Int)+v11)) 4000;simp only[zZ,hp,e11,e12,aA,bC,bT,bH,bI,bL];exact⟨n,_,by omega,rfl,fin m12 c11 p11 h11 q12 (λx hx=>(n12 x hx).elim (hd.low x) λe=>by
       rw[e.1,e.2];have g7:g.2.2.1=v7:=by rw[<- hg];rfl
       rw[g7];simp only[cFy,cGn,or_false]at m7;have w11:wr ((1:Int)+v11)=1+v11:=bE (by omega) (by omega);rw[w11];have h3:v7<=(3:Int):=by
        rcases m7 with e | e | e<;>rw[e]<;>omega
       exact⟨h3,(show (1+v11:Int)<=2 by omega)⟩) k11⟩
def aHg(w:den tNw)(l:List Int):den tNw:=(nT w,nK w,nG w,aJ w,l,aI w,aB w,aR w,dR w)
def yQ(w:den tNw)(i:Nat):den tNw:=cC w ((aI w).take i++(aI w).drop (i+1))
theorem bN1{w:den tNw}{i:Nat}{x:den tFy}(hx:(aI w)[i]? =some x)(hl:(aI w).length<=1073741824):xT w (i:Int)=some (lA x (yQ w i)):=by
 have hlt:i<(aI w).length:=(cFz.1 hx).1;have hx:w.2.2.2.2.2.1[((i:Nat):Int).toNat]? =some x:=by rw[cF2];exact hx
 have h1:decide ((i:Int)<(w.2.2.2.2.2.1.length:Int))=true:=zX (by have :i<w.2.2.2.2.2.1.length:=hlt;omega);have e1:wr ((i:Int)+1)=((i+1:Nat):Int):=(wri (by omega) (by omega)).trans (by omega);have h2:cJ ((i+1:Nat):Int) (w.2.2.2.2.2.1.length:Int) (w.2.2.2.2.2.1.length:Int)=true:=aBw (show i+1<=w.2.2.2.2.2.1.length from hlt);have h3:cJ (0:Int) (i:Int) (w.2.2.2.2.2.1.length:Int)=true:=aHh (k:=i) (Nat.le_of_lt hlt);have hl:w.2.2.2.2.2.1.length<=1073741824:=hl;unfold xT ixb aL aS bD zz4 zz5 zz6 zz7 zz8 zz9;simp only[h1,hx,aA,zZ,e1,h2,h3,iQ,aC7,cGk,aE (b:=128) (n:=([]:lFy).length) (m:=(w.2.2.2.2.2.1.take i).length) (by decide) (by simp;omega),aE (b:=128) (n:=(w.2.2.2.2.2.1.take i).length) (m:=(w.2.2.2.2.2.1.drop (i+1)).length) (by decide) (by simp;omega),zX (show (0:Int)<=(i:Int) by omega)];rfl
def tL(m:Nat)(dead:List Int)(i:Int)(b:Bool):List Int:=((List.range m).map λk:Nat=>((k:Nat):Int)).filter λk:Int=>(pF dead k&&(k != i))||(b&&(k==i))
def aFi(w:den tNw)(i:Int)(b:Bool):Bool:=(pF (aH w) i==b)|| !inR i 0 (((nT w).2.length:Int) - 1)
def tJ(w:den tNw)(i:Int)(b:Bool):den tNw:=if aFi w i b then w else aHg w (tL (nT w).2.length (aH w) i b)
theorem bNh{w:den tNw}{i:Int}{b:Bool}(h1:(nT w).2.length<=1073741824)(h2:(aH w).length<=68719476736):zL w i b=some (!aFi w i b,bB (tJ w i b)):=by
 have w1:wr ((w.1.2.length:Int) - 1)=(w.1.2.length:Int) - 1:=lM (cFv h1 (by decide));have e1:=λn=>aH2 (l:=w.2.2.2.2.1) (n:=n) h2
 unfold zL tJ aFi zz4 zz5 zz6 zz7 zz8;simp only[e1,aA,w1,jU];cases hb:(pF w.2.2.2.2.1 i==b) with
 | true=>rfl
 | false=>
  simp only[zY,aA,cHy];cases inR i 0 ((w.1.2.length:Int) - 1) with
  | false=>rfl
  | true=>
   simp only[cF0,zY,cF1,zU,cGa];refine iW (G:=λo=>o=some (true,bB (aHg w (tL (nT w).2.length (aH w) i b)))) w.1.2.length (λs:Int×List Int=>s.1) (λk s=>s.2.length<=k/\s.2=tL k (aH w) i b) (λr:List Int=>r=tL w.1.2.length (aH w) i b) ?_ ?_ 0 ((0:Int),[]) (cGe _) rfl ⟨by simp,rfl⟩ ?_
   .rintro k ⟨_,l⟩ hk rfl ⟨g1,g2⟩
    simp only at g1 g2;right;have hk':k<=1073741824:=cFv (Nat.le_of_lt hk) h1;simp only[zX (show (k:Int)<(w.1.2.length:Int) by omega),zZ,aA,aE (b:=8) (n:=l.length) (m:=1) (by decide) (by omega),show wr ((k:Int)+1)=((k+1:Nat):Int) from (wri (by omega) (by omega)).trans (by omega)];have hl:tL (k+1) (aH w) i b=tL k (aH w) i b++(if (pF (aH w) (k:Int)&&((k:Int) != i))||(b&&((k:Int)==i)) then [(k:Int)] else []):=by
     unfold tL;rw[List.range_succ,cHh,List.filter_append];congr 1;simp only[cGg,List.map_nil,cH9,List.filter_nil]
    have hd:aH w=w.2.2.2.2.1:=rfl;rw[hl,<- g2,hd];cases pF w.2.2.2.2.1 (k:Int)<;>cases hki:((k:Int)==i)<;>cases b<;>simp only[bne,hki,zZ,zY,aA,cF0,cGa,Bool.and_true,cHt,Bool.true_and,cGi,cH4,Bool.or_false,Bool.true_or,cHy,cF1,zV,zU,cGq]<;>first
     | exact⟨_,rfl,rfl,by simp;omega,rfl⟩
     | exact⟨_,rfl,rfl,by simp only;omega,rfl⟩
   .rintro⟨_,l⟩ rfl ⟨g1,g2⟩
    exact⟨l,by simp only[zW (cG2 _),zY],g2⟩
   .rintro r rfl
    rfl
def aD9(f:den tFl)(b:List Int):den tFl:=if iR (enq f b) then enq f b else f
def doW(w:den tNw)(e:den gA):Bool×den tNw:=
 if e.1==1 then (!decide (aJ w>=1000000),cZ w)
 else if e.1==2 then (match inR e.2.1 0 (((aI w).length:Int) - 1),(aI w)[e.2.1.toNat]? with
  | true,some x=>(true,dM (yQ w e.2.1.toNat) x.1 x.2.1 x.2.2)
  | _,_=>(false,w))
 else if e.1==3 then (if inR e.2.1 0 (((aI w).length:Int) - 1) then (true,wP (yQ w e.2.1.toNat)) else (false,w))
 else if e.1==4 then (match inR e.2.1 0 (((aI w).length:Int) - 1)&& !decide (((aI w).length:Int)>=150),(aI w)[e.2.1.toNat]? with
  | true,some x=>(true,cC w (aI w++[x]))
  | _,_=>(false,w))
 else if e.1==5||e.1==6 then (!aFi w e.2.1 (e.1==5),tJ w e.2.1 (e.1==5))
 else if e.1==7 then (if dE (nT w) e.2.2.2.1&& !decide (((aI w).length:Int)>=150) then (true,cC w (aI w++[e.2.2.2])) else (false,w))
 else if e.1==8 then (match inR e.2.1 0 (((aB w).length:Int) - 1),(aB w)[e.2.1.toNat]? with
  | true,some f=>(iR (enq f e.2.2.1),bS w ((aB w).set e.2.1.toNat (aD9 f e.2.2.1)))
  | _,_=>(false,w))
 else (false,w)
theorem aI6{α:Type}{l:List α}{n:Int}(hl:l.length<=1073741824)(h:inR n 0 ((l.length:Int) - 1)=true):∃(i:Nat) (x:α),n=(i:Int)/\l[i]? =some x/\decide (n<(l.length:Int))=true/\decide ((0:Int)<=n)=true:=by
 obtain⟨h0,h1⟩:=aV.1 h;obtain⟨i,rfl⟩:=cGr h0;have hi:i<l.length:=by omega
 exact⟨i,l[i],rfl,cFx hi,zX (by omega),zX h0⟩
theorem bDi{B F:Nat}{w:den tNw}{r inn:Int}{p:den tPk}(hk:eV B F w)(hp:gE p):eV (B+(160+F)) F (dM w r inn p):=by
 obtain⟨h1,h2⟩:=aK6 hk.bytes hp (r:=r) (inn:=inn);have h3:=aT8 w r inn p;have :=hk.flows;have :=hk.tot;exact⟨by omega,by rw[h2];exact hk.flows,h1⟩
theorem bD5{B F:Nat}{w:den tNw}{l:lFy}(hk:eV B F w)(hl:tot (.sl tFy) l<=tot (.sl tFy) (aI w))(hb:∀x∈l,gE x.2.2):eV B F (cC w l):=by
 have h1:=aL3 w l;have :=hk.tot;exact⟨by omega,hk.flows,⟨hb,hk.bytes.msg⟩⟩
theorem aGy{B F:Nat}{w:den tNw}(hk:eV B F w)(i:Nat):eV B F (yQ w i):=by
 refine bD5 hk ?_ λx hx=>hk.bytes.fly x ?_
 .have h1:=vB (t:=tFy) ((aI w).take i) ((aI w).drop i);rw[cHe]at h1;rw[vB,h1];have :tot (.sl tFy) ((aI w).drop (i+1))<=tot (.sl tFy) ((aI w).drop i):=by
   cases h:(aI w).drop i with
   | nil=>
    have :(aI w).drop (i+1)=[]:=by rw[<- List.drop_drop,h];rfl
    rw[this];exact cF8 _
   | cons x l=>
    have :(aI w).drop (i+1)=l:=by rw[<- List.drop_drop,h];rfl
    rw[this,kW];omega
  omega
 .rcases cF6.1 hx with hx | hx
  .exact cHk hx
  .exact cHq hx
theorem cFk{B F:Nat}{w:den tNw}{e:den gA}(hF:F<=1000)(hk:eV B F w)(hB:B+(F+1) * (160+F)<=536870912)(h9:(e.1==(9:Int))=false)(hd:SmB 4294967296 (.sl tb) e.2.2.1)(hp:tot tPk e.2.2.2.2.2<=34359738368):aDs w e=some ((doW w e).1,bB (doW w e).2):=by
 obtain⟨kd,n,data,to,ing,pk⟩:=e;simp only at h9 hd hp;have hB0:B<=536870912:=by have :=cGe ((F+1) * (160+F));omega
 have hB1:B+F * (160+F)<=536870912:=by rw[cGo]at hB;omega
 have nl:=gB w;have l1:w.2.2.2.2.2.1.length<=1073741824:=aV2 hk (by omega);have l2:w.2.2.2.2.2.2.1.length<=1073741824:=cFv hk.flows (by omega);obtain⟨n1,n2,n3⟩:=aFd hk (by omega);have w1:wr ((w.2.2.2.2.2.1.length:Int) - 1)=(w.2.2.2.2.2.1.length:Int) - 1:=lM (by omega);have w2:wr ((w.2.2.2.2.2.2.1.length:Int) - 1)=(w.2.2.2.2.2.2.1.length:Int) - 1:=lM (by omega);have a1:aK 128 w.2.2.2.2.2.1.length 1=true:=aE (by decide) (by omega);unfold aDs doW ixb aL fT aVc pj2 dT aS bD bR eC kX tD wC aA1 aCk aCi aGp aJx aJ3 aJy aN5 zz4 zz5 zz6 zz7 zz8 zz9;simp only[w1,jU,aA];cases c1:(kd==(1:Int)) with
 | true=>
  show Option.bind (wS w) _=_;rw[bZj hF hk hB1];rfl
 | false=>
 cases c2:(kd==(2:Int)) with
 | true=>
  simp only[zY,zZ,cF1,zU,zV];cases hin:inR n 0 ((w.2.2.2.2.2.1.length:Int) - 1) with
  | false=>rfl
  | true=>
   obtain⟨i,x,rfl,hx,_,_⟩:=aI6 l1 hin;have hx:(aI w)[i]? =some x:=hx;have e1:=bN1 (w:=w) hx l1;have kg:=aGy hk i;obtain⟨m1,m2,m3⟩:=aFd kg (by omega);have hxm:=cF9 hx;have htx:tot tPk x.2.2<=536870912:=by
    have h1:=vC (t:=tFy) hxm;have h2:tot tFy x=tot tPk x.2.2:=by simp[oO,qC]
    have :=hk.tot;omega
   have e2:=bEs (w:=yQ w i) (r:=x.1) (inn:=x.2.1) m1 m2 m3 htx (hk.bytes.fly x hxm);have e3:Option.bind (Option.bind (eP (yQ w i) x.1 x.2.1 x.2.2) λy4=>some y4) (λs5=>some (true,s5))=some (true,bB (dM (yQ w i) x.1 x.2.1 x.2.2)):=by rw[e2];rfl
   rw[zZ,e1,aA];have hx':w.2.2.2.2.2.1[((i:Nat):Int).toNat]? =some x:=by rw[cF2];exact hx
   rw[hx'];exact e3
 | false=>
 cases c3:(kd==(3:Int)) with
 | true=>
  simp only[zY,zZ,cF1,zU,zV];cases hin:inR n 0 ((w.2.2.2.2.2.1.length:Int) - 1) with
  | false=>rfl
  | true=>
   obtain⟨i,x,rfl,hx,_,_⟩:=aI6 l1 hin;have hx:(aI w)[i]? =some x:=hx;have e1:=bN1 (w:=w) hx l1;rw[zZ,e1,aA];rfl
 | false=>
 cases c4:(kd==(4:Int)) with
 | true=>
  simp only[zY,zZ,cF1,zU,zV];cases hin:inR n 0 ((w.2.2.2.2.2.1.length:Int) - 1) with
  | false=>rfl
  | true=>
   obtain⟨i,x,rfl,hx,hlt,hz⟩:=aI6 l1 hin;have hx:(aI w)[i]? =some x:=hx;have hxm:=cF9 hx;have htx:tot tPk x.2.2<=34359738368:=by
    have h1:=vC (t:=tFy) hxm;have h2:tot tFy x=tot tPk x.2.2:=by simp[oO,qC]
    have :=hk.tot;omega
   have hx':w.2.2.2.2.2.1[((i:Nat):Int).toNat]? =some x:=by rw[cF2];exact hx
   have e1:=aFj (fV htx);cases decide ((w.2.2.2.2.2.1.length:Int)>=150) with
   | true=>rfl
   | false=>
    simp only[cF0,cGa,zY,zZ,aA,hlt,hz,hx',a1,cHw];rw[show ((x.2.2.1,x.2.2.2.1,x.2.2.2.2.1,x.2.2.2.2.2.1,x.2.2.2.2.2.2.1,x.2.2.2.2.2.2.2.1,x.2.2.2.2.2.2.2.2.1,x.2.2.2.2.2.2.2.2.2.1,x.2.2.2.2.2.2.2.2.2.2.1,x.2.2.2.2.2.2.2.2.2.2.2):den tPk)=x.2.2 from rfl,e1,aA];rfl
 | false=>
 cases c5:(kd==(5:Int)) with
 | true=>
  simp only[zY,zZ,cF1,zU,zV,aA,Bool.true_or];rw[show ((w.1,w.2.1,w.2.2.1,w.2.2.2.1,w.2.2.2.2.1,w.2.2.2.2.2.1,w.2.2.2.2.2.2.1,w.2.2.2.2.2.2.2.1,w.2.2.2.2.2.2.2.2):den tNw)=w from rfl,bNh n1.links n1.dead];rfl
 | false=>
 cases c6:(kd==(6:Int)) with
 | true=>
  simp only[zY,zZ,cF1,zU,zV,aA,cH4];rw[show ((w.1,w.2.1,w.2.2.1,w.2.2.2.1,w.2.2.2.2.1,w.2.2.2.2.2.1,w.2.2.2.2.2.2.1,w.2.2.2.2.2.2.2.1,w.2.2.2.2.2.2.2.2):den tNw)=w from rfl,bNh n1.links n1.dead];rfl
 | false=>
 cases c7:(kd==(7:Int)) with
 | true=>
  simp only[zY,zZ,cF1,zU,zV,aA,cHj,aP,aFx n1.as];have e1:=aFj (fV hp);cases dE w.1 to with
  | false=>rfl
  | true=>
   cases decide ((w.2.2.2.2.2.1.length:Int)>=150) with
   | true=>rfl
   | false=>
    simp only[cF0,cGa,zY,zZ,aA,a1,e1];rfl
 | false=>
 cases c8:(kd==(8:Int)) with
 | true=>
  simp only[zY,zZ,cF1,zU,zV,aA,cHj,aP];unfold aBk ixb pj2 pj9 zz4 zz5 zz6 zz7 zz8 zz9;simp only[w2,jU,aA,c8,zZ];cases hin:inR n 0 ((w.2.2.2.2.2.2.1.length:Int) - 1) with
  | false=>rfl
  | true=>
   obtain⟨i,x,rfl,hx,hlt,hz⟩:=aI6 l2 hin;have hx:(aB w)[i]? =some x:=hx;have hxm:=cF9 hx;have hx':w.2.2.2.2.2.2.1[((i:Nat):Int).toNat]? =some x:=by rw[cF2];exact hx
   have hfx:tot tFl x<=536870912:=by
    have h1:=vC (t:=tFl) hxm;have :=hk.tot;omega
   have e1:=bWi (f:=x) (b:=data) ((bM hfx).mono (by decide)) hd;have hlt2:decide (((i:Nat):Int).toNat<w.2.2.2.2.2.2.1.length)=true:=zX (by rw[cF2];exact (cFz.1 hx).1);simp only[cF0,zY,zZ,hlt,hz,hx',hlt2,aA];rw[show ((x.1,x.2.1,x.2.2.1,x.2.2.2.1,x.2.2.2.2.1,x.2.2.2.2.2.1,x.2.2.2.2.2.2.1,x.2.2.2.2.2.2.2.1,x.2.2.2.2.2.2.2.2):den tFl)=x from rfl,e1,aA];unfold aRt aD9;cases iR (enq x data)<;>rfl
 | false=>
  simp only[h9,zY,zZ,cF1,zU,zV,aA,cHj];rfl
def aGu(p:den tPt):Prop:=cGd (α:=den tPp) p<=4/\ ∀x:den tPp,x∈(show lPp from p)->x.2.2.2.length<=5
theorem gW.e{p:den tPt}(h:gW p):aGu p:=⟨cFv h.1 (by decide),h.2⟩
theorem bM8{p:den tPt}(h:aGu p):tot tPt p<=24:=by
 have h1:=aBc (t:=tPp) (B:=5) (l:=p) λx hx=>aZs (h.2 x hx)
 have h2:=h.1;show tot (.sl tPp) p<=24;omega
theorem aGu.set{p:lPp}(h:gW p){i:Nat}{x:den tPp}(hx:x.2.2.2.length<=5):aGu (p.set i x):=by
 refine⟨by have :=h.1;show (p.set i x).length<=4;rw[cHm];omega,λy hy=> ?_⟩;rcases cI4 (show y∈p.set i x from hy) with hy | rfl
 .exact h.2 y hy
 .exact hx
theorem bN5{code:List Int}(hl:code.length<=1048576){c:List Int}{p h:Int}(hc:Cur code (c,p,h)):∃(q:lPp) (c':List Int) (p' h':Int),aA9 (c,p,h)=some (q,c',p',h')/\aGu q/\Cur code (c',p',h'):=by
 obtain⟨as,ls,q,c1,p1,h1,e1,hq,_,k1⟩:=bBs hl hc;unfold aA9 ixb pj3 pj4;simp only[e1,aA,bC,bT,bH,bI,bL]
 by_cases h0:q.length=0
 .rw[show ((q.length:Int)==0)=true by rw[beq_iff_eq];omega,zZ];exact⟨q,c1,p1,h1,rfl,hq.e,k1⟩
 have hq3:q.length<=3:=hq.1;rw[show ((q.length:Int)==0)=false by rw[beq_eq_false_iff_ne];omega,zY];obtain⟨v2,c2,p2,h2,e2,r2,k2⟩:=bJ hl (n:=(q.length:Int)) (by omega) (by omega) k1;obtain⟨m,rfl⟩:=cGr r2.1;have hm:m<q.length:=by omega
 have hx:q[m]? =some q[m]:=cFx hm;have hx5:q[m].2.2.2.length<=5:=hq.2 _ (cHa hm);obtain⟨v3,c3,p3,h3,e3,r3,k3⟩:=bJ hl (n:=12) (by decide) (by decide) k2;simp only[e2,e3,aA,zX (show (0:Int)<=(m:Int) by omega),zX (show (m:Int)<(q.length:Int) by omega),zZ,cF2,hx];cases v3==(0:Int) with
 | true=>
  obtain⟨v4,c4,p4,h4,e4,_,k4⟩:=bJ hl (n:=6) (by decide) (by decide) k3;exact⟨_,c4,p4,h4,by simp only[zZ,e4,aA];rfl,aGu.set hq (by exact hx5),k4⟩
 | false=>
 cases v3==(1:Int) with
 | true=>
  obtain⟨v4,c4,p4,h4,e4,k4⟩:=aMa hl k3;exact⟨_,c4,p4,h4,by simp only[zZ,zY,e4,aA];rfl,aGu.set hq (by exact hx5),k4⟩
 | false=>
 cases v3==(2:Int) with
 | true=>
  have sx:SmB 68719476736 tPp q[m]:=⟨trivial,trivial,trivial,by omega,λ_ _=>⟨trivial,trivial,trivial,trivial,trivial⟩⟩
  refine⟨q++[q[m]],c3,p3,h3,?_,⟨by show (q++[q[m]]).length<=4;simp;omega,λy hy=> ?_⟩,k3⟩
  .simp only[zZ,zY,aRh (p:=q[m]) (by omega),aP,aA,aE (b:=48) (n:=q.length) (m:=1) (by decide) (by omega)]
  .rcases cF6.1 (show y∈q++[q[m]] from hy) with hy | hy
   .exact hq.2 y hy
   .rw[cF5.1 hy];exact hx5
 | false=>
 cases v3==(3:Int) with
 | true=>
  have s1:cJ (1:Int) (q.length:Int) (q.length:Int)=true:=aBw (k:=1) (by omega);have s2:cut q (1:Int) (q.length:Int)=q.drop 1:=aC7 (k:=1);refine⟨q.drop 1,c3,p3,h3,by simp only[zZ,zY,s1,s2,aA],⟨by show (q.drop 1).length<=4;simp;omega,λy hy=>hq.2 y (cHq (show y∈q.drop 1 from hy))⟩,k3⟩
 | false=>
 cases v3==(4:Int) with
 | false=>exact⟨q,c3,p3,h3,by simp only[zY,aA],hq.e,k3⟩
 | true=>
  simp only[zZ,zY]
  by_cases hp:(q[m].2.2.2.length:Int)>0
  .obtain⟨v4,c4,p4,h4,e4,r4,k4⟩:=bJ hl (n:=(q[m].2.2.2.length:Int)) hp (by omega) k3;obtain⟨i,rfl⟩:=cGr r4.1;have hi:i<q[m].2.2.2.length:=by omega
   obtain⟨v5,c5,p5,h5,e5,k5⟩:=aMa hl k4;refine⟨_,c5,p5,h5,?_,aGu.set hq (i:=m) (x:=(q[m].1,q[m].2.1,q[m].2.2.1,q[m].2.2.2.set i (q[m].2.2.2[i].1,q[m].2.2.2[i].2.1,q[m].2.2.2[i].2.2.1,q[m].2.2.2[i].2.2.2.1,v5))) (by show (q[m].2.2.2.set i _).length<=5;rw[cHm];exact hx5),k5⟩;simp only[zX hp,zZ,e4,e5,aA,zX (show (0:Int)<=(i:Int) by omega),zX (show (i:Int)<(q[m].2.2.2.length:Int) by omega),cF2,cFx hi,bC,bT,bH,bI,bL]
  .exact⟨q,c3,p3,h3,by simp only[zW hp,zY,aA],hq.e,k3⟩
structure bTi (p:den tPk):Prop where
 path:aGu p.2.2.2.1
 len:p.2.2.2.2.2.2.2.2.2.length<=1000
 bytes:gE p
theorem bFb(p:den tPk):tot tPk p=tot tPt p.2.2.2.1+p.2.2.2.2.2.2.2.2.2.length:=by
 have e:tot tPk p=tot tPt p.2.2.2.1+tot (.sl tb) p.2.2.2.2.2.2.2.2.2:=by simp[oO,qC]
 rw[e,kS (t:=tb) rfl]
theorem bQm{p:den tPk}(h:bTi p):tot tPk p<=1100:=by
 have h1:=bM8 h.path;have h2:=h.len;rw[bFb];omega
theorem bP2{code:List Int}(hl:code.length<=1048576){c:List Int}{p h:Int}(hc:Cur code (c,p,h)):∃(as:lAS) (ls:lLk) (k:den tPk) (c':List Int) (p' h':Int),aA7 (c,p,h)=some (as,ls,k.1,k.2.1,k.2.2.1,k.2.2.2.1,k.2.2.2.2.1,k.2.2.2.2.2.1,k.2.2.2.2.2.2.1,k.2.2.2.2.2.2.2.1,k.2.2.2.2.2.2.2.2.1,k.2.2.2.2.2.2.2.2.2,c',p',h')/\bTi k/\aD5 as ls/\Cur code (c',p',h'):=by
 obtain⟨as,ls,k,c1,p1,h1,e1,hk,kt,k1⟩:=bYo hl hc;obtain⟨v2,c2,p2,h2,e2,r2,k2⟩:=bJ hl (n:=14) (by decide) (by decide) k1;have hkp:bTi k:=⟨hk.path.e,hk.len,hk.bytes⟩
 unfold aA7 pj3 pj4 aS bD bR zz4 zz5 zz6 zz7 zz8 zz9;simp only[e1,e2,aA,bC,bT,bH,bI,bL];cases v2==(0:Int) with
 | true=>
  obtain⟨v3,c3,p3,h3,e3,_,k3⟩:=bJ hl (n:=4) (by decide) (by decide) k2;exact⟨as,ls,(k.1,k.2.1,k.2.2.1,k.2.2.2.1,wr (v3 - 1),k.2.2.2.2.2.1,k.2.2.2.2.2.2.1,k.2.2.2.2.2.2.2.1,k.2.2.2.2.2.2.2.2.1,k.2.2.2.2.2.2.2.2.2),c3,p3,h3,by simp only[zZ,e3,aA],⟨hkp.path,hkp.len,hkp.bytes⟩,kt,k3⟩
 | false=>
 cases v2==(1:Int) with
 | true=>
  obtain⟨v3,c3,p3,h3,e3,_,k3⟩:=bJ hl (n:=4) (by decide) (by decide) k2;exact⟨as,ls,(k.1,k.2.1,k.2.2.1,k.2.2.2.1,k.2.2.2.2.1,wr (v3 - 1),k.2.2.2.2.2.2.1,k.2.2.2.2.2.2.2.1,k.2.2.2.2.2.2.2.2.1,k.2.2.2.2.2.2.2.2.2),c3,p3,h3,by simp only[zZ,zY,e3,aA],⟨hkp.path,hkp.len,hkp.bytes⟩,kt,k3⟩
 | false=>
 cases v2==(2:Int) with
 | true=>
  obtain⟨v3,c3,p3,h3,e3,k3⟩:=aMa hl k2;exact⟨as,ls,(k.1,k.2.1,k.2.2.1,k.2.2.2.1,k.2.2.2.2.1,k.2.2.2.2.2.1,v3,k.2.2.2.2.2.2.2.1,k.2.2.2.2.2.2.2.2.1,k.2.2.2.2.2.2.2.2.2),c3,p3,h3,by simp only[zZ,zY,e3,aA],⟨hkp.path,hkp.len,hkp.bytes⟩,kt,k3⟩
 | false=>
 cases v2==(3:Int) with
 | true=>
  obtain⟨v3,c3,p3,h3,e3,_,k3⟩:=bJ hl (n:=9) (by decide) (by decide) k2;exact⟨as,ls,(k.1,k.2.1,v3,k.2.2.2.1,k.2.2.2.2.1,k.2.2.2.2.2.1,k.2.2.2.2.2.2.1,k.2.2.2.2.2.2.2.1,k.2.2.2.2.2.2.2.2.1,k.2.2.2.2.2.2.2.2.2),c3,p3,h3,by simp only[zZ,zY,e3,aA],⟨hkp.path,hkp.len,hkp.bytes⟩,kt,k3⟩
 | false=>
 cases v2==(4:Int) with
 | true=>
  obtain⟨v3,c3,p3,h3,e3,_,k3⟩:=aHk hl (l:=[(-1:Int),(100000:Int),(100001:Int)]) (by decide) (by decide) k2;exact⟨as,ls,(k.1,k.2.1,k.2.2.1,k.2.2.2.1,k.2.2.2.2.1,k.2.2.2.2.2.1,k.2.2.2.2.2.2.1,k.2.2.2.2.2.2.2.1,v3,k.2.2.2.2.2.2.2.2.2),c3,p3,h3,by simp only[zZ,zY,e3,aA],⟨hkp.path,hkp.len,hkp.bytes⟩,kt,k3⟩
 | false=>
 cases v2==(5:Int) with
 | true=>
  obtain⟨q3,c3,p3,h3,e3,hq,k3⟩:=bN5 hl k2;exact⟨as,ls,(k.1,k.2.1,k.2.2.1,q3,k.2.2.2.2.1,k.2.2.2.2.2.1,k.2.2.2.2.2.2.1,k.2.2.2.2.2.2.2.1,k.2.2.2.2.2.2.2.2.1,k.2.2.2.2.2.2.2.2.2),c3,p3,h3,by simp only[zZ,zY,e3,aA],⟨hq,hkp.len,hkp.bytes⟩,kt,k3⟩
 | false=>
 cases v2==(6:Int) with
 | true=>
  obtain⟨v3,c3,p3,h3,e3,_,k3⟩:=bJ hl (n:=6) (by decide) (by decide) k2;exact⟨as,ls,(wr (v3 - 1),k.2.1,k.2.2.1,k.2.2.2.1,k.2.2.2.2.1,k.2.2.2.2.2.1,k.2.2.2.2.2.2.1,k.2.2.2.2.2.2.2.1,k.2.2.2.2.2.2.2.2.1,k.2.2.2.2.2.2.2.2.2),c3,p3,h3,by simp only[zZ,zY,e3,aA],⟨hkp.path,hkp.len,hkp.bytes⟩,kt,k3⟩
 | false=>exact⟨as,ls,k,c2,p2,h2,by simp only[zY,aA],hkp,kt,k2⟩
structure EvD (w:den tNw) (e:den gA):Prop where
 lo:(1:Int)<=e.1
 hi:(8:Int)>=e.1
 data:e.2.2.1.length<=3/\tY e.2.2.1
 pk:tot tPk e.2.2.2.2.2<=1100/\gE e.2.2.2.2.2
 harm:harm w e=true
structure EvS (e:den gA):Prop where
 data:e.2.2.1.length<=3/\tY e.2.2.1
 pk:tot tPk e.2.2.2.2.2<=1100/\gE e.2.2.2.2.2
theorem EvD.s{w:den tNw}{e:den gA}(h:EvD w e):EvS e:=⟨h.data,h.pk⟩
structure bRm (w:den tNw):Prop where
 tot:tot tNw w<=536870912
 as:1<=(nT w).1.length/\(nT w).1.length<=8
 links:(nT w).2.length<=200
 flyN:(aI w).length<=200
 fly:∀x∈aI w,Go.V.tot tPk x.2.2<=1100
 bytes:∀x∈aI w,gE x.2.2
 flows:(aB w).length<=4
theorem bJh{w:den tNw}{e:den gA}(h:(e.1==(7:Int))=false):harm w e=true:=by
 unfold harm;rw[h];rfl
theorem bMw{w:den tNw}{to ing:Int}{pk:den tPk}:harm w ((7:Int),(0:Int),[],(to,ing,((3:Int),pk.2)))=true:=by
 unfold harm wF;rw[show (((3:Int),pk.2):den tPk).1=3 from rfl,show ((3:Int)==3)=true from rfl,cH4,cH4];rfl
def fgR(w:den tNw)(e:den gA)(c:List Int)(p h:Int):q7:=
 (e.1,e.2.1,e.2.2.2.1,e.2.2.2.2.1,e.2.2.2.2.2.1,e.2.2.2.2.2.2.1,e.2.2.2.2.2.2.2.1,e.2.2.2.2.2.2.2.2.1,e.2.2.2.2.2.2.2.2.2.1,e.2.2.2.2.2.2.2.2.2.2.1,e.2.2.2.2.2.2.2.2.2.2.2.1,e.2.2.2.2.2.2.2.2.2.2.2.2.1,e.2.2.2.2.2.2.2.2.2.2.2.2.2.1,e.2.2.2.2.2.2.2.2.2.2.2.2.2.2,e.2.2.1,c,p,h,aI w,aB w,aR w)
def nxR(w:den tNw)(e:den gA)(c:List Int)(p h:Int):q7:=
 (e.1,e.2.1,e.2.2.2.1,e.2.2.2.2.1,e.2.2.2.2.2.1,e.2.2.2.2.2.2.1,e.2.2.2.2.2.2.2.1,e.2.2.2.2.2.2.2.2.1,e.2.2.2.2.2.2.2.2.2.1,e.2.2.2.2.2.2.2.2.2.2.1,e.2.2.2.2.2.2.2.2.2.2.2.1,e.2.2.2.2.2.2.2.2.2.2.2.2.1,e.2.2.2.2.2.2.2.2.2.2.2.2.2.1,e.2.2.1,e.2.2.2.2.2.2.2.2.2.2.2.2.2.2,c,p,h,aI w,aB w,aR w)
theorem bOv{code:List Int}(hl:code.length<=1048576){w:den tNw}(hw:bRm w){c:List Int}{p h:Int}(hc:Cur code (c,p,h)):∃e c' p' h',pO (c,p,h) w=some (fgR w e c' p' h')/\EvD w e/\Cur code (c',p',h'):=by
 obtain⟨as,ls,k,c1,p1,h1,e1,hk,_,k1⟩:=bP2 hl hc;have ha:1<=w.1.1.length/\w.1.1.length<=8:=hw.as;have hfn:=hw.flyN;obtain⟨v2,c2,p2,h2,e2,r2,k2⟩:=bJ hl (n:=(w.1.1.length:Int)) (by omega) (by omega) k1;obtain⟨v3,c3,p3,h3,e3,r3,k3⟩:=bJ hl (n:=7) (by decide) (by decide) k2;have sw:SmB 68719476736 tNw w:=(bM hw.tot).mono (by decide);have fin:∀(k:den tPk) (c:List Int) (p h:Int),tot tPk k<=1100->gE k->Cur code (c,p,h)-> ∃e c' p' h',(Option.bind (Option.bind (rK w ((7:Int),(0:Int),[],(v2,v3,(k.1,k.2.1,k.2.2.1,k.2.2.2.1,k.2.2.2.2.1,k.2.2.2.2.2.1,k.2.2.2.2.2.2.1,k.2.2.2.2.2.2.2.1,k.2.2.2.2.2.2.2.2.1,k.2.2.2.2.2.2.2.2.2)))) λy31=>cond (!y31) (some ((7:Int),(0:Int),v2,v3,(3:Int),k.2.1,k.2.2.1,k.2.2.2.1,k.2.2.2.2.1,k.2.2.2.2.2.1,k.2.2.2.2.2.2.1,k.2.2.2.2.2.2.2.1,k.2.2.2.2.2.2.2.2.1)) (some ((7:Int),(0:Int),v2,v3,k.1,k.2.1,k.2.2.1,k.2.2.2.1,k.2.2.2.2.1,k.2.2.2.2.2.1,k.2.2.2.2.2.2.1,k.2.2.2.2.2.2.2.1,k.2.2.2.2.2.2.2.2.1))) λs32=>some (s32.1,s32.2.1,s32.2.2.1,s32.2.2.2.1,s32.2.2.2.2.1,s32.2.2.2.2.2.1,s32.2.2.2.2.2.2.1,s32.2.2.2.2.2.2.2.1,s32.2.2.2.2.2.2.2.2.1,s32.2.2.2.2.2.2.2.2.2.1,s32.2.2.2.2.2.2.2.2.2.2.1,s32.2.2.2.2.2.2.2.2.2.2.2.1,s32.2.2.2.2.2.2.2.2.2.2.2.2,k.2.2.2.2.2.2.2.2.2,([]:List Int),c,p,h,w.2.2.2.2.2.1,w.2.2.2.2.2.2.1,w.2.2.2.2.2.2.2.1))=some (fgR w e c' p' h')/\EvD w e/\Cur code (c',p',h'):=by
  intro k c p h ht hb hc;have se:SmB 68719476736 gA ((7:Int),(0:Int),[],(v2,v3,k)):=⟨trivial,trivial,⟨by simp,λx hx=>trivial⟩,trivial,trivial,(bM ht).mono (by decide)⟩
  have e9:rK w ((7:Int),(0:Int),[],(v2,v3,(k.1,k.2.1,k.2.2.1,k.2.2.2.1,k.2.2.2.2.1,k.2.2.2.2.2.1,k.2.2.2.2.2.2.1,k.2.2.2.2.2.2.2.1,k.2.2.2.2.2.2.2.2.1,k.2.2.2.2.2.2.2.2.2)))=some (harm w ((7:Int),(0:Int),[],(v2,v3,k))):=cAj sw se;rw[e9,aA];cases hb':harm w ((7:Int),(0:Int),[],(v2,v3,k)) with
  | true=>exact⟨((7:Int),(0:Int),[],(v2,v3,k)),c,p,h,rfl,⟨by show (1:Int)<=7;decide,by show (8:Int)>=7;decide,⟨cGe _,λx hx=>(cGn hx).elim⟩,⟨ht,hb⟩,hb'⟩,hc⟩
  | false=>exact⟨((7:Int),(0:Int),[],(v2,v3,((3:Int),k.2))),c,p,h,rfl,⟨by show (1:Int)<=7;decide,by show (8:Int)>=7;decide,⟨cGe _,λx hx=>(cGn hx).elim⟩,⟨ht,hb⟩,bMw⟩,hc⟩
 unfold pO ixb aL pj3 pj4 dT aS bD bR eC kX tD wC zz4 zz5 zz6 zz7 zz8 zz9;simp only[e1,e2,e3,aA,bC,bT,bH,bI,bL];have done:=λc p h hc=>fin k c p h (bQm hk) hk.bytes hc
 by_cases hf:(w.2.2.2.2.2.1.length:Int)>0
 .obtain⟨v4,c4,p4,h4,e4,k4⟩:=vE hl (n:=2) (by decide) (by decide) k3;simp only[zX hf,zZ,e4,aA];cases v4 with
  | false=>
   simp only[zY,aA];exact done c4 p4 h4 k4
  | true=>
   have hfn:w.2.2.2.2.2.1.length<=200:=hfn;obtain⟨v5,c5,p5,h5,e5,r5,k5⟩:=bJ hl (n:=(w.2.2.2.2.2.1.length:Int)) hf (by omega) k4;obtain⟨i,rfl⟩:=cGr r5.1;have hi:i<w.2.2.2.2.2.1.length:=by omega
   have hx:w.2.2.2.2.2.1[i]? =some w.2.2.2.2.2.1[i]:=cFx hi;have hm:w.2.2.2.2.2.1[i]∈aI w:=cHa hi;have ht:=hw.fly _ hm;have hb:=hw.bytes _ hm;generalize w.2.2.2.2.2.1[i]=x at hx hm ht hb;have e6:=aFj (p:=x.2.2) (fV (cFv ht (by decide)));obtain⟨v7,c7,p7,h7,e7,k7⟩:=vE hl (n:=2) (by decide) (by decide) k5;simp only[zZ,e5,aA,zX (show (0:Int)<=(i:Int) by omega),zX (show (i:Int)<(w.2.2.2.2.2.1.length:Int) by omega),cF2,hx,aP,e6,e7];cases v7 with
   | false=>
    simp only[zY,aA];exact fin x.2.2 c7 p7 h7 ht hb k7
   | true=>
    obtain⟨v8,c8,p8,h8,e8,k8⟩:=aMa hl k7;simp only[zZ,e8,aA];exact fin (x.2.2.1,x.2.2.2.1,x.2.2.2.2.1,x.2.2.2.2.2.1,x.2.2.2.2.2.2.1,x.2.2.2.2.2.2.2.1,v8,x.2.2.2.2.2.2.2.2.2.1,x.2.2.2.2.2.2.2.2.2.2.1,x.2.2.2.2.2.2.2.2.2.2.2) c8 p8 h8 ht hb k8
 .simp only[zW hf,zY,aA];exact done c3 p3 h3 k3
theorem bR6{code:List Int}(hl:code.length<=1048576){w:den tNw}(hw:bRm w){c:List Int}{p h:Int}(hc:Cur code (c,p,h)):∃e c' p' h',uJ (c,p,h) w=some (nxR w e c' p' h')/\EvD w e/\Cur code (c',p',h'):=by
 have hlk:w.1.2.length<=200:=hw.links;have hfl:w.2.2.2.2.2.2.1.length<=4:=hw.flows;have hfn:w.2.2.2.2.2.1.length<=200:=hw.flyN;have wl:wr ((w.1.2.length:Int)+1)=((w.1.2.length+1:Nat):Int):=eE (by omega);have wf:wr ((w.2.2.2.2.2.2.1.length:Int)+1)=((w.2.2.2.2.2.2.1.length+1:Nat):Int):=eE (by omega);have pk0D:tot tPk ((0:Int),(0:Int),(0:Int),[],(0:Int),(0:Int),(0:Int),(0:Int),(0:Int),[])<=1100/\gE ((0:Int),(0:Int),(0:Int),[],(0:Int),(0:Int),(0:Int),(0:Int),(0:Int),[]):=⟨by rw[bFb];exact cGe _,λx hx=>(cGn hx).elim⟩
 have ev:∀(kd n:Int) (data:List Int),(1:Int)<=kd->(8:Int)>=kd->(kd==(7:Int))=false->data.length<=3->tY data->EvD w (kd,n,data,((0:Int),(0:Int),((0:Int),(0:Int),(0:Int),[],(0:Int),(0:Int),(0:Int),(0:Int),(0:Int),[]))):=λkd n data a b d e f=>⟨a,b,⟨e,f⟩,pk0D,bJh d⟩
 have nob:tY []:=λx hx=>(cGn hx).elim
 obtain⟨v1,c1,p1,h1,e1,r1,k1⟩:=bJ hl (n:=24) (by decide) (by decide) hc;obtain⟨v2,c2,p2,h2,e2,r2,k2⟩:=bJ hl (n:=((w.1.2.length+1:Nat):Int)) (by omega) (by omega) k1;unfold uJ pj3 pj6 dT aS bD bR eC kX tD zz4 zz5 zz6 zz7 zz8 zz9;simp only[e1,aA,wl,wf,e2];cases v1==(0:Int) with
 | true=>
  exact⟨((5:Int),v2,[],((0:Int),(0:Int),((0:Int),(0:Int),(0:Int),[],(0:Int),(0:Int),(0:Int),(0:Int),(0:Int),[]))),c2,p2,h2,rfl,ev 5 v2 [] (by decide) (by decide) rfl (cGe _) nob,k2⟩
 | false=>
 simp only[zY];obtain⟨b3,e3⟩:∃b,(cond (v1==(1:Int)) (some (v1==(1:Int))) (some (v1==(2:Int))))=some b:=by cases v1==(1:Int)<;>exact⟨_,rfl⟩
 rw[e3,aA];cases b3 with
 | true=>
  exact⟨((6:Int),v2,[],((0:Int),(0:Int),((0:Int),(0:Int),(0:Int),[],(0:Int),(0:Int),(0:Int),(0:Int),(0:Int),[]))),c2,p2,h2,rfl,ev 6 v2 [] (by decide) (by decide) rfl (cGe _) nob,k2⟩
 | false=>
 simp only[zY];cases v1==(3:Int) with
 | true=>
  obtain⟨e,c4,p4,h4,e4,d4,k4⟩:=bOv hl hw k1;refine⟨e,c4,p4,h4,?_,d4,k4⟩;rw[zZ];show Option.bind (pO (c1,p1,h1) w) _=_;rw[e4];rfl
 | false=>
 simp only[zY];cases v1==(4:Int) with
 | true=>
  obtain⟨v4,c4,p4,h4,e4,r4,k4⟩:=bJ hl (n:=((w.2.2.2.2.2.2.1.length+1:Nat):Int)) (by omega) (by omega) k1;obtain⟨v5,c5,p5,h5,e5,r5,k5⟩:=bJ hl (n:=3) (by decide) (by decide) k4;obtain⟨m5,rfl⟩:=cGr r5.1;obtain⟨l6,c6,p6,h6,e6,⟨r6,b6⟩,k6⟩:=aO1 hl (n:=m5) (by omega) k5;exact⟨((8:Int),v4,l6,((0:Int),(0:Int),((0:Int),(0:Int),(0:Int),[],(0:Int),(0:Int),(0:Int),(0:Int),(0:Int),[]))),c6,p6,h6,by simp only[zZ,e4,e5,e6,aA];rfl,ev 8 v4 l6 (by decide) (by decide) rfl (by omega) b6,k6⟩
 | false=>
 simp only[zY];have tick:∀c p h,Cur code (c,p,h)-> ∃e c' p' h',(some ((1:Int),(0:Int),(0:Int),(0:Int),(0:Int),(0:Int),(0:Int),[],(0:Int),(0:Int),(0:Int),(0:Int),(0:Int),[],[],c,p,h,w.2.2.2.2.2.1,w.2.2.2.2.2.2.1,w.2.2.2.2.2.2.2.1):Option q7)=some (nxR w e c' p' h')/\EvD w e/\Cur code (c',p',h'):=λc p h hc=>
  ⟨((1:Int),(0:Int),[],((0:Int),(0:Int),((0:Int),(0:Int),(0:Int),[],(0:Int),(0:Int),(0:Int),(0:Int),(0:Int),[]))),c,p,h,rfl,ev 1 0 [] (by decide) (by decide) rfl (cGe _) nob,hc⟩
 by_cases hf:(w.2.2.2.2.2.1.length:Int)>0
 .obtain⟨v4,c4,p4,h4,e4,k4⟩:=vE hl (n:=4) (by decide) (by decide) k1;simp only[zX hf,zZ,e4,aA];cases v4 with
  | true=>
   simp only[cF0,zY];exact tick c4 p4 h4 k4
  | false=>
   simp only[cGa,zZ];obtain⟨m,em,hm1,hm2⟩:∃m:Int,(if (3:Int)<(w.2.2.2.2.2.1.length:Int) then (3:Int) else (w.2.2.2.2.2.1.length:Int))=m/\0<m/\m<=256:=by
    split
    .exact⟨_,rfl,by decide,by decide⟩
    .exact⟨_,rfl,by omega,by omega⟩
   obtain⟨v5,c5,p5,h5,e5,r5,k5⟩:=bJ hl hm1 hm2 k4;obtain⟨v6,c6,p6,h6,e6,r6,k6⟩:=bJ hl (n:=12) (by decide) (by decide) k5;simp only[aY7,em,e5,e6,aA];cases v6==(0:Int) with
   | true=>exact⟨((3:Int),v5,[],((0:Int),(0:Int),((0:Int),(0:Int),(0:Int),[],(0:Int),(0:Int),(0:Int),(0:Int),(0:Int),[]))),c6,p6,h6,rfl,ev 3 v5 [] (by decide) (by decide) rfl (cGe _) nob,k6⟩
   | false=>
    cases v6==(1:Int) with
    | true=>exact⟨((4:Int),v5,[],((0:Int),(0:Int),((0:Int),(0:Int),(0:Int),[],(0:Int),(0:Int),(0:Int),(0:Int),(0:Int),[]))),c6,p6,h6,rfl,ev 4 v5 [] (by decide) (by decide) rfl (cGe _) nob,k6⟩
    | false=>exact⟨((2:Int),v5,[],((0:Int),(0:Int),((0:Int),(0:Int),(0:Int),[],(0:Int),(0:Int),(0:Int),(0:Int),(0:Int),[]))),c6,p6,h6,rfl,ev 2 v5 [] (by decide) (by decide) rfl (cGe _) nob,k6⟩
 .simp only[zW hf,zY,aA];exact tick c1 p1 h1 k1
theorem bFv{s d now now':Int}(hn:now<=now'):∀{l:lRs},(∀x∈l,(0:Int)<=x.2.2.2.1/\(20:Int)>=x.2.2.2.1)->rs s d now' l<=rs s d now l
 | [],_=>cGx _
 | x::l,h=>by
  have ih:=bFv (s:=s) (d:=d) hn (l:=l) λy hy=>h y (cF7 _ hy)
  have hx:=h x (by simp);unfold rs
  by_cases c:now'<=x.2.2.2.2
  .rw[zX c,zX (show now<=x.2.2.2.2 from cHb hn c)];split<;>omega
  .rw[zW c,cHt];simp only[cF1,zU];split<;>omega
theorem vO.later{l:lRs}{cap now now':Int}(h:vO l cap now)(hn:now<=now'):vO l cap now':=
 ⟨h.len,h.val,λx hx=>cHb (bFv hn (vI h.val)) (h.rate x hx),h.pw⟩
theorem OkS.tick{g:den tSc}{now now':Int}(h:OkS g now)(hn:now<=now'):OkS (g.1,vJ g.2.1 now',[]) now':=
 ⟨h.lo,h.hi,(h.res.later hn).filter _,λj x hx=>by simp at hx⟩
structure bX (w w':den tNw):Prop where
 top:nT w'=nT w
 now:aJ w'=aJ w
 gate:OkS (nG w) (aJ w)->OkS (nG w') (aJ w')
 fly:∀x∈aI w',x∈aI w\/tot tPk x.2.2<=1100
 flyN:(aI w).length<=150->(aI w').length<=150
theorem bX.refl(w:den tNw):bX w w:=⟨rfl,rfl,id,λx hx=> .inl hx,id⟩
theorem bX.trans{a b c:den tNw}(h:bX a b)(k:bX b c):bX a c:=
 ⟨k.top.trans h.top,k.now.trans h.now,λhg=>k.gate (h.gate hg),λx hx=>(k.fly x hx).elim (h.fly x) .inr,λhl=>k.flyN (h.flyN hl)⟩
theorem bX.drop(w:den tNw):bX w (wP w):=⟨rfl,rfl,id,λx hx=> .inl hx,id⟩
theorem bX.box(w:den tNw)(i:Nat)(x:den tIb):bX w (oQ w i x):=⟨rfl,rfl,id,λx hx=> .inl hx,id⟩
theorem bX.flows(w:den tNw)(l:lFl):bX w (bS w l):=⟨rfl,rfl,id,λx hx=> .inl hx,id⟩
theorem bX.tell(w:den tNw)(r:Int)(p:den tPk):bX w (tI w r p):=bX.flows w _
theorem bX.send{w:den tNw}{r eg:Int}{p:den tPk}(hp:tot tPk p<=1100):bX w (gU w r eg p):=by
 unfold gU;split
 .rename_i hc;rw[cFw,zR]at hc;refine⟨rfl,rfl,λhg=>hg.trans _ _ _,λx hx=> ?_,λhl=> ?_⟩
  .rcases cF6.1 (show x∈aI w++_ from hx) with hx | hx
   .exact .inl hx
   .have :x=_:=cF5.1 hx;subst this;exact .inr hp
  .show (aI w++_).length<=150;have :=hc.2;simp;omega
 .exact bX.drop w
theorem aQq{t:den tTo}{now:Int}{dead:List Int}{r inn:Int}{p:den tPk}(h:((aG t now dead r inn p).1==0)=true):tot tPk (aG t now dead r inn p).2.2.1<=1100:=by
 have hv:dD p=true:=aDi (t:=t) (r:=r) (now:=now) (dead:=dI t dead r) (inn:=inn) (by
  have h:((fwd t r now (dI t dead r) inn p).1==0)=true:=h;rw[eq_of_beq h];rfl)
 unfold aG;rw[aKv];exact cFv (aGz hv) (by decide)
theorem bX.proc0(w:den tNw)(r inn:Int)(p:den tPk):bX w (proc0 w r inn p):=by
 unfold Go.Proofs.YtnkjolpkcmgcaaaGreat.proc0;split
 .rename_i h;exact bX.send (aQq h)
 .split
  .exact bX.tell w _ _
  .exact bX.drop w
theorem bX.proc(w:den tNw)(r inn:Int)(p:den tPk):bX w (dM w r inn p):=by
 unfold dM;split
 .rename_i h;exact bX.send (aQq h)
 .split
  .split
   .unfold qX;split
    .exact bX.refl w
    .split
     .exact (bX.box w _ _).trans (bX.proc0 _ _ _ _)
     .exact bX.box w _ _
   .exact bX.tell w _ _
  .split
   .unfold tQ;split
    .exact (bX.proc0 _ _ _ _).trans (bX.drop _)
    .exact (bX.tell _ _ _).trans (bX.drop _)
   .exact bX.drop w
theorem bX.stepT(k:Nat)(w:den tNw):bX w (stepT k w):=by
 unfold Go.Proofs.YtnkjolpkcmgcaaaGreat.stepT;split
 .split
  .exact (bX.flows w _).trans (bX.proc _ _ _ _)
  .exact bX.flows w _
 .exact bX.refl w
theorem bX.tickL:∀(n k:Nat) (w:den tNw),bX w (tickL k n w)
 | 0,_,w=>bX.refl w
 | n+1,k,w=>(bX.stepT k w).trans (bX.tickL n (k+1) _)
structure sI (t:den tTo) (B k:Nat) (w:den tNw):Prop where
 keep:eV B 4 w
 top:nT w=t
 gate:OkS (nG w) (aJ w)
 lo:(0:Int)<=aJ w
 hi:aJ w<=60+(k:Int)
 fly:∀x∈aI w,tot tPk x.2.2<=1100
 flyN:(aI w).length<=150
theorem sI.mono{t:den tTo}{B C k j:Nat}{w:den tNw}(h:sI t B k w)(hB:B<=C)(hk:k<=j):sI t C j w:=⟨h.keep.mono hB,h.top,h.gate,h.lo,by have :=h.hi;omega,h.fly,h.flyN⟩
theorem sI.step{t:den tTo}{B C k:Nat}{w w':den tNw}(h:sI t B k w)(s:bX w w')(hk:eV C 4 w'):sI t C k w':=
 ⟨hk,s.top.trans h.top,s.gate h.gate,by rw[s.now];exact h.lo,by rw[s.now];exact h.hi,λx hx=>(s.fly x hx).elim (h.fly x) id,s.flyN h.flyN⟩
theorem bIu{t:den tTo}{B k:Nat}{w:den tNw}(h:sI t B k w)(hk:k<=10000000):sI t B (k+1) (tick0 w):=by
 have hlo:=h.lo;have hhi:=h.hi;have e:wr (aJ w+1)=aJ w+1:=bE (by omega) (by omega);refine⟨aG2 h.keep,h.top,?_,?_,?_,h.fly,h.flyN⟩
 .show OkS ((nG w).1,vJ (nG w).2.1 (wr (aJ w+1)),[]) (wr (aJ w+1));rw[e];exact h.gate.tick (by omega)
 .show (0:Int)<=wr (aJ w+1);omega
 .show wr (aJ w+1)<=_;omega
theorem aXf{t:den tTo}{B k:Nat}{w:den tNw}(h:sI t B k w)(hk:k<=10000000):sI t (B+656) (k+1) (cZ w):=by
 have hkp:=aM9 h.keep;unfold cZ at hkp ⊢;split
 .exact h.mono (by omega) (by omega)
 .rename_i hn;rw[zS hn]at hkp;exact (bIu h hk).step (bX.tickL _ _ _) hkp
theorem bFs{w:den tNw}{x:den tFy}:tot tNw (cC w (aI w++[x]))=tot tNw w+(1+tot tPk x.2.2):=by
 have h1:=aL3 w (aI w++[x]);rw[vB,aHp]at h1;have e:tot tFy x=tot tPk x.2.2:=by simp[oO,qC]
 omega
theorem bPm(m:Nat)(dead:List Int)(i:Int)(b:Bool):(tL m dead i b).length<=m:=by
 unfold tL;exact cFv (cIn ..) (by simp)
theorem bDm(w:den tNw)(l:List Int):tot tNw (aHg w l)+(aH w).length=tot tNw w+l.length:=by
 have e:tot tNw (aHg w l)=(tot (.sl tAS) (nT w).1+tot (.sl tLk) (nT w).2)+((tot (.sl tSg) (nK w).1+tot (.sl tSg) (nK w).2)+((0+(tot (.sl tRs) (nG w).2.1+tot (.sl tUs) (nG w).2.2))+(0+(tot (.sl ti) l+(tot (.sl tFy) (aI w)+(tot (.sl tFl) (aB w)+(tot (.sl tIb) (aR w)+0))))))):=rfl;have r:∀l:List Int,tot (.sl ti) l=l.length:=λl=>kS rfl
 rw[e,gB w,r,r];omega
theorem bFt{t:den tTo}{B k:Nat}{w:den tNw}{e:den gA}(h:sI t B k w)(hk:k<=10000000)(ht:t.2.length<=200)(he:EvS e):sI t (B+2000) (k+1) (doW w e).2:=by
 have same:sI t (B+2000) (k+1) w:=h.mono (by omega) (by omega);unfold doW;split
 .exact (aXf h hk).mono (by omega) (by omega)
 .split
  .split
   .rename_i x hi hx;have hm:=cF9 hx;have hb:=h.keep.bytes.fly x hm;have hg:sI t B k (yQ w e.2.1.toNat):=h.step ⟨rfl,rfl,id,λy hy=> ?_,λhl=> ?_⟩ (aGy h.keep _)
    .exact ((hg.step (bX.proc _ _ _ _) (bDi hg.keep hb)).mono (by omega) (by omega))
    .rcases cF6.1 (show y∈(aI w).take _++(aI w).drop _ from hy) with hy | hy
     .exact .inl (cHk hy)
     .exact .inl (cHq hy)
    .show ((aI w).take _++(aI w).drop _).length<=150;simp only[cGh,cG7,cH7];omega
   .exact same
  .split
   .split
    .have hg:sI t B k (yQ w e.2.1.toNat):=h.step ⟨rfl,rfl,id,λy hy=> ?_,λhl=> ?_⟩ (aGy h.keep _)
     .exact (hg.step (bX.drop _) ⟨hg.keep.tot,hg.keep.flows,⟨hg.keep.bytes.fly,hg.keep.bytes.msg⟩⟩).mono (by omega) (by omega)
     .rcases cF6.1 (show y∈(aI w).take _++(aI w).drop _ from hy) with hy | hy
      .exact .inl (cHk hy)
      .exact .inl (cHq hy)
     .show ((aI w).take _++(aI w).drop _).length<=150;simp only[cGh,cG7,cH7];omega
    .exact same
   .split
    .split
     .rename_i x hi hx;have hm:=cF9 hx;rw[cFw]at hi;have hlt: ¬ (((aI w).length:Int)>=150):=by have :=hi.2;simpa using this
      have ht':=bFs (w:=w) (x:=x);have hx':=h.fly x hm;have hkp:=h.keep.tot;refine sI.mono (B:=B+1101) (k:=k) (h.step (w':=cC w (aI w++[x])) ⟨rfl,rfl,id,λy hy=> ?_,λhl=> ?_⟩ ⟨by omega,h.keep.flows,⟨λy hy=> ?_,h.keep.bytes.msg⟩⟩) (by omega) (by omega)
      .rcases cF6.1 (show y∈aI w++[x] from hy) with hy | hy
       .exact .inl hy
       .rw[cF5.1 hy];exact .inl hm
      .show (aI w++[x]).length<=150;simp only[cGh,cHf];omega
      .rcases cF6.1 (show y∈aI w++[x] from hy) with hy | hy
       .exact h.keep.bytes.fly y hy
       .rw[cF5.1 hy];exact h.keep.bytes.fly x hm
     .exact same
    .split
     .show sI t (B+2000) (k+1) (tJ w e.2.1 (e.1==5));unfold tJ;split
      .exact same
      .have h1:=bDm w (tL (nT w).2.length (aH w) e.2.1 (e.1==5));have h2:=bPm (nT w).2.length (aH w) e.2.1 (e.1==5);have h3:(nT w).2.length<=200:=by rw[h.top];exact ht
       have hkp:=h.keep.tot;exact sI.mono (B:=B+200) (k:=k) (h.step (w':=aHg w (tL (nT w).2.length (aH w) e.2.1 (e.1==5))) ⟨rfl,rfl,id,λy hy=> .inl hy,id⟩ ⟨by omega,h.keep.flows,⟨h.keep.bytes.fly,h.keep.bytes.msg⟩⟩) (by omega) (by omega)
     .split
      .split
       .rename_i hc;rw[cFw]at hc;have hlt: ¬ (((aI w).length:Int)>=150):=by have :=hc.2;simpa using this
        have ht':=bFs (w:=w) (x:=e.2.2.2);have hx':=he.pk.1;have hkp:=h.keep.tot;refine sI.mono (B:=B+1101) (k:=k) (h.step (w':=cC w (aI w++[e.2.2.2])) ⟨rfl,rfl,id,λy hy=> ?_,λhl=> ?_⟩ ⟨by omega,h.keep.flows,⟨λy hy=> ?_,h.keep.bytes.msg⟩⟩) (by omega) (by omega)
        .rcases cF6.1 (show y∈aI w++[e.2.2.2] from hy) with hy | hy
         .exact .inl hy
         .rw[cF5.1 hy];exact .inr hx'
        .show (aI w++[e.2.2.2]).length<=150;simp only[cGh,cHf];omega
        .rcases cF6.1 (show y∈aI w++[e.2.2.2] from hy) with hy | hy
         .exact h.keep.bytes.fly y hy
         .rw[cF5.1 hy];exact he.pk.2
       .exact same
      .split
       .split
        .rename_i f hi hf;have hm:=cF9 hf;have h1:=aUp (t:=tFl) (y:=aD9 f e.2.2.1) hf;have h5:=aIh w ((aB w).set e.2.1.toNat (aD9 f e.2.2.1));have h6:=gB w;have hkp:=h.keep.tot;have h2:tot tFl (aD9 f e.2.2.1)<=tot tFl f+4:=by
          unfold aD9;split
          .obtain⟨a,b,c,d,ms,ps,cu,wa,rv⟩:=f;show tot tFl (a,b,c,d,ms++[e.2.2.1],ps,cu,wa,rv)<=tot tFl (a,b,c,d,ms,ps,cu,wa,rv)+4;rw[aHz,aHz,vB,bEo];have :=he.data.1;omega
          .omega
         refine sI.mono (B:=B+4) (k:=k) (h.step (w':=bS w ((aB w).set e.2.1.toNat (aD9 f e.2.2.1))) (bX.flows w _) ⟨by omega,by show ((aB w).set _ _).length<=4;rw[cHm];exact h.keep.flows,⟨h.keep.bytes.fly,λg hg m hmm=> ?_⟩⟩) (by omega) (by omega);rcases cI4 (show g∈(aB w).set _ _ from hg) with hg | rfl
         .exact h.keep.bytes.msg g hg m hmm
         .unfold aD9 at hmm;split at hmm
          .rcases cF6.1 (show m∈f.2.2.2.2.1++[e.2.2.1] from hmm) with hmm | hmm
           .exact h.keep.bytes.msg f hm m hmm
           .rw[cF5.1 hmm];exact he.data.2
          .exact h.keep.bytes.msg f hm m hmm
        .exact same
       .exact same
inductive Ran (v:den tNw):mG->den tNw->Prop
 | nil:Ran v [] v
 | snoc {l:mG} {w:den tNw} {e:den gA} (h:Ran v l w) (he:EvD w e):Ran v (l++[e]) (doW w e).2
theorem wB.gateOk{n:Nat}{v:den tNw}(h:wB n v):OkS (nG v) (aJ v):=by
 have h1:=h.res;rw[h.now,h.gate];exact⟨by show (1:Int)<=12;decide,by show (20:Int)>=12;decide,h1,λj x hx=>by simp at hx⟩
theorem wB.run{v:den tNw}(h:wB 3 v):sI (nT v) 1000 0 v where
 keep:=⟨h.tot (by decide),cFv h.len (by decide),⟨λx hx=>(by rw[h.fly]at hx;cases hx),λf hf m hm=>(h.flows f hf).bytes m hm⟩⟩
 top:=rfl
 gate:=h.gateOk
 lo:=by rw[h.now];decide
 hi:=by rw[h.now];decide
 fly:=λx hx=>by rw[h.fly]at hx;cases hx
 flyN:=by rw[h.fly];exact cGe _
theorem Ran.run{v:den tNw}(hv:wB 3 v){l:mG}{w:den tNw}(h:Ran v l w):l.length<=1000->sI (nT v) (1000+2000 * l.length) l.length w:=by
 induction h with
 | nil=>intro _;exact hv.run
 | snoc h he ih=>
  intro hl;simp only[cGh,cHf]at hl ⊢;exact (bFt (ih (by omega)) (by omega) (cFv hv.top.links (by decide)) he.s).mono (by omega) (by omega)
theorem sI.netE{t:den tTo}{B k:Nat}{w:den tNw}(h:sI t B k w)(hB:B<=536870912)(h1:1<=t.1.length)(h8:t.1.length<=8)(hl:t.2.length<=100):bRm w:=
 ⟨cFv h.keep.tot hB,by rw[h.top];exact⟨h1,h8⟩,by rw[h.top];exact cFv hl (by decide),cFv h.flyN (by decide),h.fly,h.keep.bytes.fly,h.keep.flows⟩
def cEw(v:den tNw)(l:mG)(w:den tNw)(c:List Int)(p h:Int):q16:=
 ((nG v).1,aJ v,dR v,l,(nT w).1,(nT w).2,(nK w).1,(nK w).2,(nG w).1,(nG w).2.1,(nG w).2.2,aJ w,aH w,dR w,(nT v).1,(nT v).2,(nK v).1,(nK v).2,(nG v).2.1,(nG v).2.2,aH v,aI v,aB v,aR v,aI w,aB w,aR w,c,p,h)
abbrev RnS:=Int×lAS×lLk×lSg×lSg×Int×lRs×lUs×Int×lI×Int×mG×lFy×lFl×lIb×lI×Int×Int
abbrev RnR:=lAS×lLk×lSg×lSg×Int×lRs×lUs×Int×lI×Int×mG×lFy×lFl×lIb×lI×Int×Int
def rnS(n:Nat)(l:mG)(w:den tNw)(c:List Int)(p h:Int):RnS:=((n:Int),(nT w).1,(nT w).2,(nK w).1,(nK w).2,(nG w).1,(nG w).2.1,(nG w).2.2,aJ w,aH w,dR w,l,aI w,aB w,aR w,c,p,h)
def cCg(code:List Int)(N:Nat)(o:Option q16):Prop:=
 ∃v l w c' p' h',o=some (cEw v l w c' p' h')/\wB 3 v/\Ran v l w/\l.length<=N/\Cur code (c',p',h')
end Go.Proofs.YtnkjolpkcmgcaaaGreat
