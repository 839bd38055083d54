/-
  Facts and plain laws: what the functions compute, in plain words. Conditions: as each says.
-/
import Derived.Test.YtcppmcbkokgfcaaGreatQ0FnEvents
open Nat renaming le_trans->cEa,le_refl->cEr,succ_mul->cE7,mul_le_mul_right->cFp,zero_add->cE9,zero_le->cEt
open Bool renaming false_eq_true->cEg,false_and->cEw,and_false->cGh,eq_iff_iff->cEz,and_self->cFv,and_eq_true->cEe,not_eq_true'->cFg,or_eq_true->cFq,not_true->cEc,or_self->cF0,not_false->cEm
open List renaming getElem?_eq_some_iff->cEj,mem_of_getElem?->cEn,getElem?_set_self->cHg,length_set->cFt,length->cEo,map_cons->cEv,length_cons->cE8,all_cons->cGd,mem_append->cEl,mem_singleton->cEk,mem_map->cEi,mem_cons_of_mem->cEp,mem_cons_self->cEu,mem_or_eq_of_mem_set->cG0,length_filter_le->cGa,getElem?_eq_getElem->cEb,getElem_mem->cFi,getElem?_cons_zero->cHa,mem_cons->cEh,pairwise_iff_getElem->cGe,foldl_cons->cF8,filter_cons->cGt,mem_iff_getElem?->cG4,mem_filter->cEq,length_append->cEy,pairwise_append->cHs,getElem?_map->cGf,not_mem_nil->cE1,mem_of_mem_take->cF3,mem_of_mem_drop->cF2,all_eq_true->cE6,getElem?_take->cFs,append_nil->cFe,append_assoc->cFc,length_take->cFl,length_map->cFb,length_drop->cGc,nil_append->cEx,length_nil->cFf,length_flatMap->cHh,mem_flatMap->cFk
open Int renaming toNat_natCast->cEf,eq_ofNat_of_zero_le->cE0,le_trans->cGu,lt_irrefl->cE2
open Sum renaming inl->cD9,inr->cD8,elim_inl->cFn,elim_inr->cG2,elim->cEd
open Option renaming getD_some->cE3
open Array renaming length_toList->cG8
set_option linter.unusedVariables false
set_option linter.unusedSimpArgs false
set_option maxRecDepth 100000
namespace Go.Proofs.YtcppmcbkokgfcaaGreat
open Go.Ab Go.V
theorem bFh {w:den tNw} {r inn:Int} {p:den tPk} (h:aDq w) (hbn:(bH w).length<=68719476736) (hbx: ∀ x∈bH w,tot tIb x<=1073741824) (hz:tot tPk p<=536870912) (hb:fP p):cC w r inn p=some (cB (gW w r inn p)):=by
 have hp:aD2 p:=⟨by omega,hb⟩
 have hp2:tot tPt p.2.2.2.1<=1073741824:=aKs hp.sz;have hs:=hp.step (nT w) (aN w) (aK w) r inn;have hkeep:=aGt w.1 r w.2.2.2.1 (wN w.1 w.2.2.2.2.1 r) inn p;unfold cC cC.b ixb aI jX pj2 pj3 pj4 cZ aL aU aV zz4 zz5 zz6 zz7 zz8 zz9;simp only [aP,bD6 h.links h.dead,bT0 h.as (cEa h.links (by decide)) (cEa hp.sz (by decide)) hp2,aA,aT,bF,aX,aY,bA];rw [show fwd w.1 r w.2.2.2.1 (wN w.1 w.2.2.2.2.1 r) inn p=cU (nT w) (aN w) (aK w) r inn p from rfl] at hkeep ⊢;unfold gW;generalize cU (nT w) (aN w) (aK w) r inn p=v at hs hkeep;simp only [fwI,aP];cases c0:v.1==0
 .cases c1:v.1==1
  .cases c7:v.1==7
   .simp only [zY,aA,cEg,zU,cEw];rfl
   .cases ck:p.1==1
    .simp only [zZ,zY,aA,cEg,zU,cGh];rfl
    .have hn:aD2 (cM r (aN w) v.2.2.2 p):=bEf hz;have ht1:tot tPt (uK p)<=34359738368:=cEa (aEo p) (cEa hp2 (by decide));have hlen:decide (((gX (uK p)).length:Int)>1)=decide ((gX (uK p)).length>1):=by rw [cEz];simp only [zR,gt_iff_lt];omega
     have e1:eP w r 0 ((pkR (cM r w.2.2.2.1 v.2.2.2 p)).1,(pkR (cM r w.2.2.2.1 v.2.2.2 p)).2.1,(pkR (cM r w.2.2.2.1 v.2.2.2 p)).2.2.1,(pkR (cM r w.2.2.2.1 v.2.2.2 p)).2.2.2.2.2.2.2.2.1,(pkR (cM r w.2.2.2.1 v.2.2.2 p)).2.2.2.1,(pkR (cM r w.2.2.2.1 v.2.2.2 p)).2.2.2.2.1,(pkR (cM r w.2.2.2.1 v.2.2.2 p)).2.2.2.2.2.1,(pkR (cM r w.2.2.2.1 v.2.2.2 p)).2.2.2.2.2.2.1,(pkR (cM r w.2.2.2.1 v.2.2.2 p)).2.2.2.2.2.2.2.1,(pkR (cM r w.2.2.2.1 v.2.2.2 p)).2.2.2.2.2.2.2.2.2)=some (cB (proc0 w r 0 (cM r (aN w) v.2.2.2 p))):=aVc h hn rfl;have e2:iO w r ((pkR (cM r w.2.2.2.1 v.2.2.2 p)).1,(pkR (cM r w.2.2.2.1 v.2.2.2 p)).2.1,(pkR (cM r w.2.2.2.1 v.2.2.2 p)).2.2.1,(pkR (cM r w.2.2.2.1 v.2.2.2 p)).2.2.2.2.2.2.2.2.1,(pkR (cM r w.2.2.2.1 v.2.2.2 p)).2.2.2.1,(pkR (cM r w.2.2.2.1 v.2.2.2 p)).2.2.2.2.1,(pkR (cM r w.2.2.2.1 v.2.2.2 p)).2.2.2.2.2.1,(pkR (cM r w.2.2.2.1 v.2.2.2 p)).2.2.2.2.2.2.1,(pkR (cM r w.2.2.2.1 v.2.2.2 p)).2.2.2.2.2.2.2.1,(pkR (cM r w.2.2.2.1 v.2.2.2 p)).2.2.2.2.2.2.2.2.2)=some (cB (xF w r (cM r (aN w) v.2.2.2 p))):=aVp h.flows h.flowsN hn.sz hn.by_;simp only [zZ,zY,aA,cEg,zU,cFv,zV,bW9 (t:=w.1) (r:=r) (now:=w.2.2.2.1) (d:=v.2.2.2) (cEa hp.sz (by decide)),bBn (gY (p:=p) (by omega)),aT,bF,aX,aY,bA];unfold jW;simp only [aKx ht1,aA,hlen,e1,e2];unfold aE2;cases hd:decide ((gX (uK p)).length>1)
     .rw [zS (of_decide_eq_false hd)];rfl
     .rw [zT (of_decide_eq_true hd)];rfl
  .cases ck:p.1==1
   .simp only [zZ,zY,aA,cEg,zU,zV,aVp h.flows h.flowsN hs.sz hs.by_]
   .simp only [zZ,zY,aA,cEg,zU,zV,bW0 hbn];unfold aDc;rw [hkeep.2.1];rcases aMc (bH w) r p.2.1 with hf | ⟨k,x,hf,hx⟩
    .rw [show kT w.2.2.2.2.2.2.2.1 r p.2.1= -1 from hf];rfl
    .have hlt:=(cEj.1 hx).1;have hx0:w.2.2.2.2.2.2.2.1[k]? =some x:=hx;have hxm:=hbx x (cEn hx);have hxs:SmB 4294967296 tIb x:=(bC hxm).mono (by decide);have hvs:SmB 4294967296 tPk v.2.2.1:=(bC hs.sz).mono (by decide);have hd1:decide ((k:Int)<(w.2.2.2.2.2.2.2.1.length:Int))=true:=zX (by have :k<w.2.2.2.2.2.2.2.1.length:=hlt;omega);have hd2:decide (k<w.2.2.2.2.2.2.2.1.length)=true:=zX hlt;have hset:(w.2.2.2.2.2.2.2.1.set k (eW x v.2.2.1))[k]? =some (eW x v.2.2.1):=cHg hlt;have hba:aBt w k=x:=by unfold aBt;rw [hx];rfl
     rw [show kT w.2.2.2.2.2.2.2.1 r p.2.1=(k:Int) from hf,zW (show ¬ (k:Int)<0 by omega),zS (show ¬ (k:Int)<0 by omega),cEf,hba];have e1:eP (w.1,w.2.1,w.2.2.1,w.2.2.2.1,w.2.2.2.2.1,w.2.2.2.2.2.1,w.2.2.2.2.2.2.1,w.2.2.2.2.2.2.2.1.set k (eW x v.2.2.1),w.2.2.2.2.2.2.2.2) r 0 (pS (eW x v.2.2.1) v.2.2.1)=some (cB (proc0 (uM w k (eW x v.2.2.1)) r 0 (pS (eW x v.2.2.1) v.2.2.1))):=by
      cases ca:aFc (eW x v.2.2.1) v.2.2.1 with
      | true=>exact aVc (aJ2 h) (aSi hs) (aSp ca)
      | false=>exact aVc (aJ2 h) (aSi hs) (by unfold pS;rw [ca];rfl)
     simp only [zY,bS,hd1,hd2,zZ,hx0,aA,bXe hxs hvs,cFt,hset,bW1 (x:=eW x v.2.2.1) (p:=v.2.2.1) (cEa (aKs hs.sz) (by decide)),aT,bF,aX,aY,bA,pkB,aP,e1];cases aFc (eW x v.2.2.1) v.2.2.1<;>rfl
 .simp only [zZ,zV,bEu h,aA]
def aCz (p q:den tPk):Prop:=p.2.2.2.1=q.2.2.2.1/\p.2.2.2.2.1=q.2.2.2.2.1/\p.2.2.2.2.2.1=q.2.2.2.2.2.1
theorem aCz.cur {p q:den tPk} (h:aCz p q):cQ p=cQ q/\dF p=dF q/\bT p=bT q/\dG p=dG q/\eB p=eB q/\hH p=hH q:=by
 obtain ⟨h1,h2,h3⟩:=h;have a1:cQ p=cQ q:=by unfold cQ;rw [h1,h2,h3]
 have a2:dF p=dF q:=by unfold dF;rw [a1,h1,h2,h3]
 have a3:bT p=bT q:=by unfold bT;rw [h1,h2]
 have a4:dG p=dG q:=by unfold dG;rw [a3,h3]
 have a5:eB p=eB q:=by unfold eB;rw [a3,h3]
 exact ⟨a1,a2,a3,a4,a5,by unfold hH aIr;rw [a2,a5,h1,h2]⟩
theorem aCz.adv {p q:den tPk} (h:aCz p q):aCz (adv p) (adv q):=by
 obtain ⟨a1,a2,a3,a4,a5,a6⟩:=h.cur;obtain ⟨h1,h2,h3⟩:=id h;unfold Go.Proofs.YtcppmcbkokgfcaaGreat.adv;rw [a2,a5,a6];split
 .exact h
 .split
  .exact ⟨h1,by show p.2.2.2.2.1+1=q.2.2.2.2.1+1;rw [h2],rfl⟩
  .exact ⟨h1,h2,by show p.2.2.2.2.2.1+1=q.2.2.2.2.2.1+1;rw [h3]⟩
theorem vF (t:den tTo) (p:den tPk):aCz (bD t p) p:=by
 obtain ⟨b,hb⟩:=aJ4 t p;rw [hb];exact ⟨rfl,rfl,rfl⟩
theorem aCz.trans {p q r:den tPk} (h:aCz p q) (k:aCz q r):aCz p r:=⟨h.1.trans k.1,h.2.1.trans k.2.1,h.2.2.trans k.2.2⟩
theorem aNa {t:den tTo} {now:Int} {n:Nat} {p:den tPk} (h:(goC t now n p).1=0):dR t now p=0:=by
 cases n with
 | zero=>exact h
 | succ n=>
  unfold goC at h;split at h
  .rename_i hc;rw [cEe] at hc;simpa using hc.1
  .exact h
theorem bNl {t:den tTo} {now:Int} {step:den tPk->Option (den tPk⊕den tPk)}
  (H: ∀ q,tot tPk q<=34359738368->cQ q=true->step q=some (if eB q&&decide (q.2.2.2.2.1<(q.2.2.2.1.length:Int) - 1) then .inl (adv q) else .inr q)):
  ∀ (n:Nat) (p q:den tPk),aCz p q->tot tPk q<=34359738368->(goC t now n p).1=0->p.2.2.2.1.length - p.2.2.2.2.1.toNat<=n-> ∃ r,aC step q=some r/\aCz (goC t now n p).2 r/\tot tPk r<=34359738368:=by
 intro n
 induction n with
 | zero=>
  intro p q hs hq hc hm;obtain ⟨hh,h0⟩:=aCt (aNa hc);obtain ⟨i,j,h1,h2,h3,h4,h5⟩:=iT hh;have hlt:=(cEj.1 h3).1;rw [h1,cEf] at hm;exact absurd hlt (by omega)
 | succ n ih=>
  intro p q hs hq hc hm;have hz:=aNa hc;obtain ⟨hh,h0⟩:=aCt hz;obtain ⟨a1,a2,a3,a4,a5,a6⟩:=hs.cur;obtain ⟨b1,b2,b3,b4,b5,b6⟩:=(vF t p).cur;have hstep:=H q hq (a1▸hh);rw [aZf (a1▸hh) (a2▸h0)] at hstep;cases hb:eB q&& !hH q with
  | false=>
   rw [hb] at hstep;have hg:goC t now (n+1) p=(dR t now p,bD t p):=by
    show (if _ then _ else _)=_;rw [b5,b6,a5,a6,hb,cGh];rfl
   rw [hg];exact ⟨q,bI hstep,(vF t p).trans hs,hq⟩
  | true=>
   rw [hb,zT rfl] at hstep;have hg:goC t now (n+1) p=goC t now n (adv (bD t p)):=by
    show (if _ then _ else _)=_;rw [b5,b6,a5,a6,hb,hz];rfl
   rw [hg] at hc ⊢;rw [cX hstep];obtain ⟨e1,e2⟩:=bBr (p:=bD t p) (by rw [b2];exact h0) (by rw [b5,b6,a5,a6];exact hb);obtain ⟨i,j,h1,h2,h3,h4,h5⟩:=iT hh;refine ih _ _ ((vF t p).trans hs).adv (by rw [aH5];exact hq) hc ?_;rw [e1,e2,(vF t p).1,(vF t p).2.1,h1];rw [h1,cEf] at hm;have :((i:Int)+1).toNat=i+1:=by omega
   rw [this];omega
def bI4 (t:den tTo) (now:Int) (p:den tPk):Int:=pEg (bT (bW t now p).2) (dG (bW t now p).2)
theorem bYk {t:den tTo} {now:Int} {p:den tPk} (h:tot tPk p<=34359738368) (hz:(bW t now p).1=0):vM p=some (bI4 t now p):=by
 unfold vM aI pj4 zz4 zz5 zz6 zz7 zz8 zz9;obtain ⟨r,hr,hs,ht⟩:=bNl (t:=t) (now:=now) (step:=fun s5=> @Option.bind Bool _ (Option.bind (idx s5.2.2.2.1 s5.2.2.2.2.1) fun x6=>cond (s5.2.2.2.2.2.1==(wr ((x6.2.2.2.length:Int) - (1:Int)))) (some (decide (s5.2.2.2.2.1<(wr ((s5.2.2.2.1.length:Int) - (1:Int)))))) (some false)) fun (s7:Bool)=>cond s7 (Option.bind (iK (s5.1,s5.2.1,s5.2.2.1,s5.2.2.2.1,s5.2.2.2.2.1,s5.2.2.2.2.2.1,s5.2.2.2.2.2.2.1,s5.2.2.2.2.2.2.2.1,s5.2.2.2.2.2.2.2.2.1,s5.2.2.2.2.2.2.2.2.2)) fun y8=>some (cD9 (y8.1,y8.2.1,y8.2.2.1,y8.2.2.2.2.2.2.2.2.1,y8.2.2.2.1,y8.2.2.2.2.1,y8.2.2.2.2.2.1,y8.2.2.2.2.2.2.1,y8.2.2.2.2.2.2.2.1,y8.2.2.2.2.2.2.2.2.2))) (some (cD8 (s5.1,s5.2.1,s5.2.2.1,s5.2.2.2.1,s5.2.2.2.2.1,s5.2.2.2.2.2.1,s5.2.2.2.2.2.2.1,s5.2.2.2.2.2.2.2.1,s5.2.2.2.2.2.2.2.2.1,s5.2.2.2.2.2.2.2.2.2)))) (fun q hq hh=>by
   obtain ⟨i,j,k1,k2,k3,k4,k5⟩:=iT hh;have l1:cEo q.2.2.2.1<=68719476736:=(gY hq).2.2.2.1.1;have hp1:idx q.2.2.2.1 q.2.2.2.2.1=some (bT q):=by rw [k1,aH];exact k3
   simp only [hp1,aA,fU (aB0 (gY hq) k3),fU l1,aP,bIl (gY hq)];unfold eB;cases q.2.2.2.2.2.1==((bT q).2.2.2.length:Int) - 1<;>cases decide (q.2.2.2.2.1<(q.2.2.2.1.length:Int) - 1)<;>rfl) _ p p ⟨rfl,rfl,rfl⟩ h hz (cEr _)
 have hs:aCz (bW t now p).2 r:=hs;have hr':aC _ (p.1,p.2.1,p.2.2.1,p.2.2.2.1,p.2.2.2.2.1,p.2.2.2.2.2.1,p.2.2.2.2.2.2.1,p.2.2.2.2.2.2.2.1,p.2.2.2.2.2.2.2.2.1,p.2.2.2.2.2.2.2.2.2)=some r:=hr;rw [hr',aA];obtain ⟨a1,a2,a3,a4,a5,a6⟩:=hs.cur;obtain ⟨g1,g2,g3⟩:=aH0 _ p hz;have g1:cQ r=true:=a1▸g1;obtain ⟨i,j,k1,k2,k3,k4,k5⟩:=iT g1;have hp1:idx r.2.2.2.1 r.2.2.2.2.1=some (bT r):=by rw [k1,aH];exact k3
 have hp2:dV (bT r) r.2.2.2.2.2.1=some (pEg (bT r) (dG r)):=by rw [k2];exact aYb k4 (aB0 (gY ht) k3)
 rw [hp1,aA];simp only [aP,hp2,aA];unfold bI4;rw [a3,a4]
theorem bKd {t:den tTo} {now:Int}: ∀ (n:Nat) (p:den tPk),(goC t now n p).1<=5
 | 0,p=>by
  show dR t now p<=5;unfold dR
  repeat' split
  all_goals decide
 | n+1,p=>by
  unfold goC;split
  .exact bKd n _
  .show dR t now p<=5;unfold dR
   repeat' split
   all_goals decide
theorem bKg {t:den tTo} {r now dead inn:Int} {p:den tPk} (h:(fwd t r now dead inn p).1=7):(bW t now p).1=0/\(fwd t r now dead inn p).2.2.2=bI4 t now p:=by
 have hg:(bW t now p).1<=5:=bKd _ p;unfold fwd at h ⊢;split at h
 .cases h
 .rename_i c1;rw [zS c1];split at h
  .cases h
  .rename_i c2;rw [zS c2];split at h
   .simp only at h;omega
   .rename_i c3;rw [zS c3];refine ⟨by simpa using c3,?_⟩;split at h
    .split at h<;>cases h
    .rename_i c4;rw [zS c4];split at h
     .cases h
     .rename_i c5;rw [zS c5];split at h
      .rename_i c6;rw [zT c6];rfl
      .cases h
theorem kinds {p:den tPk} (h:fY p=true) (h1:(p.1==1)=false) (h2:(p.1==2)=false):(p.1==3)=true:=by
 unfold fY at h;rw [cEe] at h;have hr:=bQ.1 h.1;have h1: ¬ p.1=(1:Int):=by simpa using h1
 have h2: ¬ p.1=(2:Int):=by simpa using h2
 have key: ∀ c:Int,1<=c->c<=3-> ¬ c=1-> ¬ c=2->c=3:=by intro c;omega
 have :p.1=(3:Int):=key p.1 hr.1 hr.2 h1 h2;rw [this];rfl
theorem bXg {w:den tNw} {r:Int} {p:den tPk} (h:aDq w) (hp:aD2 p) (hk:(p.1==1)=false) (hv:(p.1==2)=false->(p.1==3)=true):vO w r p=some (cB (xF w r p)):=by
 unfold vO kI.b ixb aI jX pj2 pj3 pj4 pj9 cZ aL zz4 zz5 zz6 zz7 zz8 zz9;rw [hk,zY];cases h2:p.1==2 with
 | true=>
  rw [zZ];refine bNd (w:=w) (r:=r) (p:=p) h2 h.flows h.flowsN (fun k f a ha hx hm hk'=> ?_) (fun a ha=> ?_)
  .obtain ⟨d1,d2⟩:=aP0 ha hk';have hw:wr ((k:Int)+1)=((k+1:Nat):Int):=(wri (by have :=h.flowsN;omega) (by have :=h.flowsN;omega)).trans (by omega);simp only [d1,d2,bS,cEf,hx,zZ,aA,aP,bEo (aWb (h.flows f hm)),aT,bF,aX,aY,bA,hw];unfold tX;rw [h2];cases f.1==r
   .simp only [zY,cEg,zU,aA,aLb hx]
   .simp only [zZ,zV,aA];rfl
  .show cond (decide ((((aD w).length:Nat):Int)<(a.length:Int))) _ _=_;rw [ha,zW (by omega)];rfl
 | false=>
  rw [zY,hv h2,zZ];simp only [aP,aVb h2 h.flows h.flowsN hp.sz hp.by_,aA]
theorem bX4 {w:den tNw} {r:Int} {p:den tPk} (h:aDq w) (hp:aD2 p) (hk:(p.1==1)=false) (hv:(p.1==2)=false->(p.1==3)=true):kI w r p=some (cB (xF w r p)):=by
 unfold kI kI.b ixb aI jX pj2 pj3 pj4 pj9 cZ aL zz4 zz5 zz6 zz7 zz8 zz9;rw [hk,zY];cases h2:p.1==2 with
 | true=>
  rw [zZ];refine bNd (w:=w) (r:=r) (p:=p) h2 h.flows h.flowsN (fun k f a ha hx hm hk'=> ?_) (fun a ha=> ?_)
  .obtain ⟨d1,d2⟩:=aP0 ha hk';have hw:wr ((k:Int)+1)=((k+1:Nat):Int):=(wri (by have :=h.flowsN;omega) (by have :=h.flowsN;omega)).trans (by omega);simp only [d1,d2,bS,cEf,hx,zZ,aA,aP,bEo (aWb (h.flows f hm)),aT,bF,aX,aY,bA,hw];unfold tX;rw [h2];cases f.1==r
   .simp only [zY,cEg,zU,aA,aLb hx]
   .simp only [zZ,zV,aA];rfl
  .show cond (decide ((((aD w).length:Nat):Int)<(a.length:Int))) _ _=_;rw [ha,zW (by omega)];rfl
 | false=>
  rw [zY,hv h2,zZ];simp only [aP,aVb h2 h.flows h.flowsN hp.sz hp.by_,aA]
theorem aUm {w:den tNw} {r inn:Int} {p:den tPk} (h:aDq w) (hp:aD2 p) (hk:(p.1==1)=false):iG w r inn p=some (cB (proc0 w r inn p)):=by
 have hp2:tot tPt p.2.2.2.1<=1073741824:=aKs hp.sz;have hs:=hp.step (nT w) (aN w) (aK w) r inn;have hkeep:=aGt w.1 r w.2.2.2.1 (wN w.1 w.2.2.2.2.1 r) inn p;have hval:=aNt (t:=w.1) (r:=r) (now:=w.2.2.2.1) (dead:=wN w.1 w.2.2.2.2.1 r) (inn:=inn) (p:=p);unfold iG eN.b aI aE6 jX pj2 pj3 cZ aL aU aV zz4 zz5 zz6 zz7 zz8 zz9;simp only [aP,bD4 h.links h.dead,bTl h.as (cEa h.links (by decide)) (cEa hp.sz (by decide)) hp2,aA,aT,bF,aX,aY,bA,hk];rw [show fwd w.1 r w.2.2.2.1 (wN w.1 w.2.2.2.2.1 r) inn p=cU (nT w) (aN w) (aK w) r inn p from rfl] at hkeep hval ⊢;unfold proc0;generalize cU (nT w) (aN w) (aK w) r inn p=v at hs hkeep hval;have hback:(((fwS v).2.2.1,(fwS v).2.2.2.1,(fwS v).2.2.2.2.1,(fwS v).2.2.2.2.2.2.2.2.2.2.1,(fwS v).2.2.2.2.2.1,(fwS v).2.2.2.2.2.2.1,(fwS v).2.2.2.2.2.2.2.1,(fwS v).2.2.2.2.2.2.2.2.1,(fwS v).2.2.2.2.2.2.2.2.2.1,(fwS v).2.2.2.2.2.2.2.2.2.2.2):den tPk)=v.2.2.1:=rfl;rw [show (fwS v).1=v.1 from rfl,show (fwS v).2.1=v.2.1 from rfl];cases c1:v.1==1
 .cases c0:v.1==0
  .cases c7:v.1==7
   .simp only [zY,aA,cEg,zU,cFn];rfl
   .simp only [zZ,zY,aA,cEg,zU,cFn];rfl
  .unfold sC;rw [hkeep.2.2.1];simp only [zZ,zY,zV,aI0 (t:=w.1) (cEa h.links (by decide)),aV2 h.res h.use,aA];cases ct:(lC w.2.2.1 p.2.2.2.2.2.2.2.1 r v.2.1 w.2.2.2.1).2.1
   .simp only [zY,aA,cEw,cEg,zU,cFn];rfl
   .by_cases hl:(aR w).length<150
    .have h150:decide ((w.2.2.2.2.2.1.length:Int)<150)=true:=zX (by have :w.2.2.2.2.2.1.length<150:=hl;omega);rw [zX hl];simp only [zZ,aA,h150,cFv,zV,aE (b:=128) (n:=w.2.2.2.2.2.1.length) (m:=1) (by decide) (show (aR w).length+1<=_ by omega),cG2];rfl
    .have h150:decide ((w.2.2.2.2.2.1.length:Int)<150)=false:=zW (by have : ¬ w.2.2.2.2.2.1.length<150:=hl;omega);rw [zW hl];simp only [zZ,zY,aA,h150,cGh,cEg,zU,cFn];rfl
 .have c0:(v.1==0)=false:=by
   have :v.1=1:=by simpa using c1
   rw [this];rfl
  have hv:fY p=true:=hval (by rw [show v.1=1 from by simpa using c1];rfl);have hq1:(v.2.2.1.1==1)=false:=by rw [hkeep.1];exact hk
  have hq2:(v.2.2.1.1==2)=false->(v.2.2.1.1==3)=true:=by rw [hkeep.1];exact kinds hv hk
  rw [hback,bXg h hs hq1 hq2];simp only [c0,zZ,aA,cEg,zU,zV,cG2]
theorem bYc {w:den tNw} {r:Int} {p:den tPk} (h:aDq w) (hbn:(bH w).length<=68719476736) (hbx: ∀ x∈bH w,tot tIb x<=1073741824) (hp:aD2 p) (hk:(p.1==1)=true):kI w r p=some (cB (aDc w r p)):=by
 unfold kI kI.b aDc ixb aI jX pj2 pj3 pj4 pj9 cZ aL zz4 zz5 zz6 zz7 zz8 zz9;simp only [hk,zZ,aWe hbn,aA];rcases aMc (bH w) r p.2.1 with hf | ⟨k,x,hf,hx⟩
 .rw [show kT w.2.2.2.2.2.2.2.1 r p.2.1= -1 from hf];rfl
 .have hlt:=(cEj.1 hx).1;have hx0:w.2.2.2.2.2.2.2.1[k]? =some x:=hx;have hxm:=hbx x (cEn hx);have hxs:SmB 4294967296 tIb x:=(bC hxm).mono (by decide);have hvs:SmB 4294967296 tPk p:=(bC hp.sz).mono (by decide);have hd1:decide ((k:Int)<(w.2.2.2.2.2.2.2.1.length:Int))=true:=zX (by have :k<w.2.2.2.2.2.2.2.1.length:=hlt;omega);have hd2:decide (k<w.2.2.2.2.2.2.2.1.length)=true:=zX hlt;have hba:aBt w k=x:=by unfold aBt;rw [hx];rfl
  rw [show kT w.2.2.2.2.2.2.2.1 r p.2.1=(k:Int) from hf,zW (show ¬ (k:Int)<0 by omega),zS (show ¬ (k:Int)<0 by omega),cEf,hba];have e1:iG (w.1,w.2.1,w.2.2.1,w.2.2.2.1,w.2.2.2.2.1,w.2.2.2.2.2.1,w.2.2.2.2.2.2.1,w.2.2.2.2.2.2.2.1.set k (eW x p),w.2.2.2.2.2.2.2.2) r 0 (pS (eW x p) p)=some (cB (proc0 (uM w k (eW x p)) r 0 (pS (eW x p) p))):=by
   cases ca:aFc (eW x p) p with
   | true=>exact aUm (aJ2 h) (aSi hp) (aSp ca)
   | false=>exact aUm (aJ2 h) (aSi hp) (by unfold pS;rw [ca];rfl)
  simp only [zY,bS,hd1,hd2,zZ,hx0,aA,aP,bXz hxs hvs,bVo (x:=eW x p) (p:=p) (cEa (aKs hp.sz) (by decide)),aT,bF,aX,aY,bA,pkB,e1];cases aFc (eW x p) p<;>rfl
theorem bEk {w:den tNw} {r inn:Int} {p:den tPk} (h:aDq w) (hbn:(bH w).length<=68719476736) (hbx: ∀ x∈bH w,tot tIb x<=1073741824) (hz:tot tPk p<=536870912) (hb:fP p):eN w r inn p=some (cB (gW w r inn p)):=by
 have hp:aD2 p:=⟨by omega,hb⟩
 have hp2:tot tPt p.2.2.2.1<=1073741824:=aKs hp.sz;have hs:=hp.step (nT w) (aN w) (aK w) r inn;have hkeep:=aGt w.1 r w.2.2.2.1 (wN w.1 w.2.2.2.2.1 r) inn p;have hval:=aNt (t:=w.1) (r:=r) (now:=w.2.2.2.1) (dead:=wN w.1 w.2.2.2.2.1 r) (inn:=inn) (p:=p);have hsev:=bKg (t:=w.1) (r:=r) (now:=w.2.2.2.1) (dead:=wN w.1 w.2.2.2.2.1 r) (inn:=inn) (p:=p);unfold eN eN.b aI aE6 jX pj2 pj3 cZ aL aU aV zz4 zz5 zz6 zz7 zz8 zz9;simp only [aP,bD4 h.links h.dead,bTl h.as (cEa h.links (by decide)) (cEa hp.sz (by decide)) hp2,aA,aT,bF,aX,aY,bA];rw [show fwd w.1 r w.2.2.2.1 (wN w.1 w.2.2.2.2.1 r) inn p=cU (nT w) (aN w) (aK w) r inn p from rfl] at hkeep hval hsev ⊢;unfold gW;generalize cU (nT w) (aN w) (aK w) r inn p=v at hs hkeep hval hsev;have hback:(((fwS v).2.2.1,(fwS v).2.2.2.1,(fwS v).2.2.2.2.1,(fwS v).2.2.2.2.2.2.2.2.2.2.1,(fwS v).2.2.2.2.2.1,(fwS v).2.2.2.2.2.2.1,(fwS v).2.2.2.2.2.2.2.1,(fwS v).2.2.2.2.2.2.2.2.1,(fwS v).2.2.2.2.2.2.2.2.2.1,(fwS v).2.2.2.2.2.2.2.2.2.2.2):den tPk)=v.2.2.1:=rfl;rw [show (fwS v).1=v.1 from rfl,show (fwS v).2.1=v.2.1 from rfl];cases c1:v.1==1
 .cases c0:v.1==0
  .cases c7:v.1==7
   .simp only [zY,aA,cEg,zU,cFn,cEw];rfl
   .cases ck:p.1==1
    .simp only [zZ,zY,aA,cEg,zU,cFn,cGh];rfl
    .obtain ⟨hz0,hd0⟩:=hsev (by simpa using c7);have hn:aD2 (cM r (aN w) v.2.2.2 p):=bEf hz;have ht1:tot tPt (uK p)<=34359738368:=cEa (aEo p) (cEa hp2 (by decide));have hlen:decide (((gX (uK p)).length:Int)>1)=decide ((gX (uK p)).length>1):=by rw [cEz];simp only [zR,gt_iff_lt];omega
     have e1:iG w r 0 ((pkR (cM r w.2.2.2.1 v.2.2.2 p)).1,(pkR (cM r w.2.2.2.1 v.2.2.2 p)).2.1,(pkR (cM r w.2.2.2.1 v.2.2.2 p)).2.2.1,(pkR (cM r w.2.2.2.1 v.2.2.2 p)).2.2.2.2.2.2.2.2.1,(pkR (cM r w.2.2.2.1 v.2.2.2 p)).2.2.2.1,(pkR (cM r w.2.2.2.1 v.2.2.2 p)).2.2.2.2.1,(pkR (cM r w.2.2.2.1 v.2.2.2 p)).2.2.2.2.2.1,(pkR (cM r w.2.2.2.1 v.2.2.2 p)).2.2.2.2.2.2.1,(pkR (cM r w.2.2.2.1 v.2.2.2 p)).2.2.2.2.2.2.2.1,(pkR (cM r w.2.2.2.1 v.2.2.2 p)).2.2.2.2.2.2.2.2.2)=some (cB (proc0 w r 0 (cM r (aN w) v.2.2.2 p))):=aUm h hn rfl;have e2:pC w r ((pkR (cM r w.2.2.2.1 v.2.2.2 p)).1,(pkR (cM r w.2.2.2.1 v.2.2.2 p)).2.1,(pkR (cM r w.2.2.2.1 v.2.2.2 p)).2.2.1,(pkR (cM r w.2.2.2.1 v.2.2.2 p)).2.2.2.2.2.2.2.2.1,(pkR (cM r w.2.2.2.1 v.2.2.2 p)).2.2.2.1,(pkR (cM r w.2.2.2.1 v.2.2.2 p)).2.2.2.2.1,(pkR (cM r w.2.2.2.1 v.2.2.2 p)).2.2.2.2.2.1,(pkR (cM r w.2.2.2.1 v.2.2.2 p)).2.2.2.2.2.2.1,(pkR (cM r w.2.2.2.1 v.2.2.2 p)).2.2.2.2.2.2.2.1,(pkR (cM r w.2.2.2.1 v.2.2.2 p)).2.2.2.2.2.2.2.2.2)=some (cB (xF w r (cM r (aN w) v.2.2.2 p))):=aVb rfl h.flows h.flowsN hn.sz hn.by_;simp only [zZ,zY,aA,cEg,zU,cFv,zV,bYk (t:=w.1) (now:=w.2.2.2.1) (p:=p) (cEa hp.sz (by decide)) hz0,<- hd0,bWd (t:=w.1) (r:=r) (now:=w.2.2.2.1) (d:=v.2.2.2) (cEa hp.sz (by decide)),bAy (gY (p:=p) (by omega)),aT,bF,aX,aY,bA,aH7 ht1,hlen,e1,e2];unfold aE2;cases hd:decide ((gX (uK p)).length>1)
     .rw [zS (of_decide_eq_false hd)];rfl
     .rw [zT (of_decide_eq_true hd)];rfl
  .unfold sC;rw [hkeep.2.2.1];simp only [zZ,zY,zV,aI0 (t:=w.1) (cEa h.links (by decide)),aV2 h.res h.use,aA];cases ct:(lC w.2.2.1 p.2.2.2.2.2.2.2.1 r v.2.1 w.2.2.2.1).2.1
   .simp only [zY,aA,cEw,cEg,zU,cFn];rfl
   .by_cases hl:(aR w).length<150
    .have h150:decide ((w.2.2.2.2.2.1.length:Int)<150)=true:=zX (by have :w.2.2.2.2.2.1.length<150:=hl;omega);rw [zX hl];simp only [zZ,aA,h150,cFv,zV,aE (b:=128) (n:=w.2.2.2.2.2.1.length) (m:=1) (by decide) (show (aR w).length+1<=_ by omega),cG2];rfl
    .have h150:decide ((w.2.2.2.2.2.1.length:Int)<150)=false:=zW (by have : ¬ w.2.2.2.2.2.1.length<150:=hl;omega);rw [zW hl];simp only [zZ,zY,aA,h150,cGh,cEg,zU,cFn];rfl
 .have c0:(v.1==0)=false:=by
   have :v.1=1:=by simpa using c1
   rw [this];rfl
  have hv:fY p=true:=hval (by rw [show v.1=1 from by simpa using c1];rfl);rw [hback];cases ck:p.1==1 with
  | true=>
   rw [bYc h hbn hbx hs (by rw [hkeep.1];exact ck)];simp only [c0,zZ,aA,cEg,zU,zV,cG2]
  | false=>
   have hq1:(v.2.2.1.1==1)=false:=by rw [hkeep.1];exact ck
   have hq2:(v.2.2.1.1==2)=false->(v.2.2.1.1==3)=true:=by rw [hkeep.1];exact kinds hv ck
   rw [bX4 h hs hq1 hq2];simp only [c0,zZ,aA,cEg,zU,zV,cG2]
theorem dX (w:den tNw):tot tNw w=(tot (.sl tAS) (nT w).1+tot (.sl tLk) (nT w).2)+((tot (.sl tSg) (nK w).1+tot (.sl tSg) (nK w).2)+((0+(tot (.sl tRs) (nG w).2.1+tot (.sl tUs) (nG w).2.2))+(0+(tot (.sl ti) (aK w)+(tot (.sl tFy) (aR w)+(tot (.sl tFl) (aD w)+(tot (.sl tIb) (bH w)+0))))))):=rfl
theorem aRx {w:den tNw} (h:tot tNw w<=1073741824):aDq w where
 as:=by have :=dX w;have :=dE (t:=tAS) (nT w).1;omega
 links:=by have :=dX w;have :=dE (t:=tLk) (nT w).2;omega
 dead:=by have :=dX w;have :=dE (t:=ti) (aK w);omega
 res:=by have :=dX w;have :=dE (t:=tRs) (nG w).2.1;omega
 use:=by have :=dX w;have :=dE (t:=tUs) (nG w).2.2;omega
 flowsN:=by have :=dX w;have :=dE (t:=tFl) (aD w);omega
 flows:=fun f hf=>by have :=dX w;have :=vW (t:=tFl) hf;omega
theorem cAs {w:den tNw} (h:tot tNw w<=1073741824):(bH w).length<=68719476736/\ ∀ x∈bH w,tot tIb x<=1073741824:=
 ⟨by have :=dX w;have :=dE (t:=tIb) (bH w);omega,fun x hx=>by have :=dX w;have :=vW (t:=tIb) hx;omega⟩
theorem aGj (w:den tNw):tot tNw (aBy w)=tot tNw w:=rfl
theorem bDv (l:lUs):tot (.sl tUs) l=l.length:=dK rfl
theorem bNo (g:den tSc) (id s d now:Int):tot (.sl tRs) (lC g id s d now).2.2.1=tot (.sl tRs) g.2.1/\tot (.sl tUs) (lC g id s d now).2.2.2<=tot (.sl tUs) g.2.2+1:=by
 have m1:=aJx g.2.2 id s d;have m2:=aJx g.2.2 0 s d;rw [bDv,bDv];unfold lC;split
 .exact ⟨rfl,by simpa using m1⟩
 .split
  .exact ⟨rfl,by simpa using m2⟩
  .exact ⟨rfl,by simp⟩
theorem aWo (w:den tNw) (r eg:Int) (p:den tPk):tot tNw (sC w r eg p)<=tot tNw w+(2+tot tPk p):=by
 unfold sC;split
 .obtain ⟨e1,e2⟩:=bNo (nG w) p.2.2.2.2.2.2.2.1 r eg (aN w);rw [dX,dX w];simp only [nT,nK,nG,aK,aR,aD,bH] at e1 e2 ⊢;rw [rT,aFs];have e3:tot tFy ((remote w.1 r eg).1,(remote w.1 r eg).2,p)=tot tPk p:=by simp [rP,vX]
  rw [e3];omega
 .rw [aGj];omega
theorem bMt (f:den tFl) (p:den tPk):tot tFl (yJ f p)=tot tFl f:=by
 unfold yJ;split<;>rfl
theorem bNj (r:Int) (p:den tPk) (f:den tFl):tot tFl (tX r p f)<=tot tFl f+1:=by
 unfold tX;split
 .split
  .rw [bMt];omega
  .exact bKb f p
 .omega
theorem bDx (r:Int) (p:den tPk): ∀ l:lFl,tot (.sl tFl) (l.map (tX r p))<=tot (.sl tFl) l+l.length
 | []=>by simp
 | f::l=>by
  have h1:=bNj r p f;have h2:=bDx r p l;rw [cEv,iM,iM,cE8];omega
theorem aEr (w:den tNw) (l:lFl):tot tNw (dI w l)=(tot (.sl tAS) (nT w).1+tot (.sl tLk) (nT w).2)+((tot (.sl tSg) (nK w).1+tot (.sl tSg) (nK w).2)+((0+(tot (.sl tRs) (nG w).2.1+tot (.sl tUs) (nG w).2.2))+(0+(tot (.sl ti) (aK w)+(tot (.sl tFy) (aR w)+(tot (.sl tFl) l+(tot (.sl tIb) (bH w)+0))))))):=rfl
theorem bHv (w:den tNw) (k:Nat) (x:den tIb):tot tNw (uM w k x)=(tot (.sl tAS) (nT w).1+tot (.sl tLk) (nT w).2)+((tot (.sl tSg) (nK w).1+tot (.sl tSg) (nK w).2)+((0+(tot (.sl tRs) (nG w).2.1+tot (.sl tUs) (nG w).2.2))+(0+(tot (.sl ti) (aK w)+(tot (.sl tFy) (aR w)+(tot (.sl tFl) (aD w)+(tot (.sl tIb) ((bH w).set k x)+0))))))):=rfl
theorem aN8 (w:den tNw) (r:Int) (p:den tPk):tot tNw (xF w r p)<=tot tNw w+(aD w).length:=by
 have h:=bDx r p (aD w);unfold xF;rw [aEr,dX w];omega
theorem aWw (w:den tNw) (r inn:Int) (p:den tPk):tot tNw (proc0 w r inn p)<=tot tNw w+(2+tot tPk p+(aD w).length):=by
 unfold proc0;split
 .have :=aWo w r (cU (nT w) (aN w) (aK w) r inn p).2.1 (cU (nT w) (aN w) (aK w) r inn p).2.2.1;have e:tot tPk (cU (nT w) (aN w) (aK w) r inn p).2.2.1=tot tPk p:=aO7 _ _ _ _ _ _;omega
 .split
  .have :=aN8 w r (cU (nT w) (aN w) (aK w) r inn p).2.2.1;omega
  .rw [aGj];omega
theorem aKy {t:Ty} {l:List (den t)} {k:Nat} {x y:den t} (h:l[k]? =some x):tot (.sl t) (l.set k y)+tot t x=tot (.sl t) l+tot t y:=by
 induction l generalizing k with
 | nil=>cases h
 | cons z l ih=>
  cases k with
  | zero=>
   have :z=x:=by simpa using h
   subst this;rw [List.set_cons_zero,iM,iM];omega
  | succ k=>
   have :=ih (k:=k) (by simpa using h);rw [List.set_cons_succ,iM,iM];omega
theorem bJ3 (x:den tIb) (p:den tPk):tot tIb (eW x p)<=tot tIb x+(1+tot tPk p):=by
 have h1:=bKu x p;have h2:=(aPt (p:=p) (cEr _)).2;have e: ∀ y:den tIb,tot tIb y=tot (.sl tMs) y.2.2.2:=fun y=>by simp [rP,vX]
 rw [e,e];omega
theorem bJp (w:den tNw) (r:Int) (p:den tPk):tot tNw (aDc w r p)<=tot tNw w+(3+2 * tot tPk p+(aD w).length):=by
 unfold aDc;split
 .omega
 .rcases aMc (bH w) r p.2.1 with hf | ⟨k,x,hf,hx⟩
  .rename_i hc;rw [hf] at hc;exact absurd (by decide) hc
  .have hba:aBt w k=x:=by unfold aBt;rw [hx];rfl
   rw [hf,cEf,hba];have h1:=aKy (t:=tIb) (y:=eW x p) hx;have h2:=bJ3 x p;have h3:tot tNw (uM w k (eW x p))<=tot tNw w+(1+tot tPk p):=by
    rw [bHv,dX w];omega
   split
   .have h4:=aWw (uM w k (eW x p)) r 0 (pS (eW x p) p);have h5:=aWv (eW x p) p;have h6:(aD (uM w k (eW x p))).length=(aD w).length:=rfl;omega
   .omega
theorem bMw (w:den tNw) (r d:Int) (p:den tPk):tot tNw (aE2 w r d p)<=tot tNw w+(20+tot tPk p+(aD w).length):=by
 unfold aE2;rw [aGj];split
 .have h1:=aWw w r 0 (cM r (aN w) d p);have h2:=aWp r (aN w) d p;omega
 .have :=aN8 w r (cM r (aN w) d p);omega
theorem bK8 (w:den tNw) (r inn:Int) (p:den tPk):tot tNw (gW w r inn p)<=tot tNw w+(20+2 * tot tPk p+(aD w).length):=by
 have e:tot tPk (cU (nT w) (aN w) (aK w) r inn p).2.2.1=tot tPk p:=aO7 _ _ _ _ _ _;unfold gW;split
 .have :=aWo w r (cU (nT w) (aN w) (aK w) r inn p).2.1 (cU (nT w) (aN w) (aK w) r inn p).2.2.1;omega
 .split
  .split
   .have :=bJp w r (cU (nT w) (aN w) (aK w) r inn p).2.2.1;omega
   .have :=aN8 w r (cU (nT w) (aN w) (aK w) r inn p).2.2.1;omega
  .split
   .have :=bMw w r (cU (nT w) (aN w) (aK w) r inn p).2.2.2 p;omega
   .rw [aGj];omega
theorem bLw {p:den tPp} (h:aCy p=true):tot tPp p<=8:=by
 unfold aCy aG7 at h;simp only [cEe,zR] at h;have e:tot tPp p=tot (.sl bU) p.2.2.2:=by simp [rP,vX]
 rw [e,dK rfl];exact h.2.2.2.1
theorem bOo {p:den tPt} (h:aI2 p=true):tot tPt p<=27:=by
 unfold aI2 at h;rw [cEe,zR] at h;have key: ∀ l:lPp,l.all aCy=true->tot (.sl tPp) l<=9 * l.length:=by
  intro l
  induction l with
  | nil=>intro _;exact cEr _
  | cons x l ih=>
   intro hl;rw [cGd,cEe] at hl;have h1:=bLw hl.1;have h2:=ih hl.2;rw [iM,cE8];omega
 have :=key p h.2;have h1:cEo p<=3:=h.1;show tot (.sl tPp) p<=27;omega
theorem aSm {p:den tPk} (h:fY p=true):tot tPk p<=67:=by
 have h':=h;unfold fY at h';simp only [cEe,zR] at h';have h1:=bOo h'.2.1;have h2:p.2.2.2.2.2.2.2.2.2.length<=40:=by have :=h'.2.2.2.2.2.2.2.2.2;omega
 have e:tot tPk p=tot tPt p.2.2.2.1+tot (.sl tb) p.2.2.2.2.2.2.2.2.2:=by simp [rP,vX]
 rw [e,dK (t:=tb) rfl];omega
theorem aXb {w:den tNw} {r inn:Int} {p:den tPk} (h:fY p=false):gW w r inn p=aBy w:=by
 have hv:cU (nT w) (aN w) (aK w) r inn p=(2,0,p,0):=by
  unfold cU fwd;rw [h];rfl
 unfold gW;rw [hv];rfl
theorem aS7 (w:den tNw) (r inn:Int) (p:den tPk):tot tNw (gW w r inn p)<=tot tNw w+(160+(aD w).length):=by
 cases h:fY p with
 | true=>
  have h1:=bK8 w r inn p;have h2:=aSm h;omega
 | false=>rw [aXb h,aGj];omega
structure xD (w:den tNw):Prop where
 fly: ∀ x∈aR w,fP x.2.2
 msg: ∀ f∈aD w,∀ m∈f.2.2.2.2.1,tO m
theorem aRy {w:den tNw} (h:xD w) {r eg:Int} {p:den tPk} (hp:fP p):xD (sC w r eg p)/\(aD (sC w r eg p)).length=(aD w).length:=by
 unfold sC;split
 .refine ⟨⟨fun x hx=> ?_,h.msg⟩,rfl⟩;rcases cEl.1 (show x∈aR w++_ from hx) with hx | hx
  .exact h.fly x hx
  .have :x=_:=cEk.1 hx;subst this;exact hp
 .exact ⟨⟨h.fly,h.msg⟩,rfl⟩
theorem bJ4 (r:Int) (p:den tPk) (f:den tFl):(tX r p f).2.2.2.2.1=f.2.2.2.2.1:=by
 unfold tX;split
 .split
  .exact (bCx f p).1
  .unfold aBv;cases p.1==3&&(aAd p.2.2.2.2.2.2.2.2.2).2.2.2<;>rfl
 .rfl
theorem aMs {w:den tNw} (h:xD w) (r:Int) (p:den tPk):xD (xF w r p)/\(aD (xF w r p)).length=(aD w).length:=by
 refine ⟨⟨h.fly,fun f hf m hm=> ?_⟩,by show ((aD w).map _).length=_;simp⟩;obtain ⟨g,hg,rfl⟩:=cEi.1 (show f∈(aD w).map (tX r p) from hf);rw [bJ4] at hm;exact h.msg g hg m hm
theorem aHe {w:den tNw} (h:xD w):xD (aBy w)/\(aD (aBy w)).length=(aD w).length:=⟨⟨h.fly,h.msg⟩,rfl⟩
theorem aQd {w:den tNw} (h:xD w) (k:Nat) (x:den tIb):xD (uM w k x)/\(aD (uM w k x)).length=(aD w).length:=⟨⟨h.fly,h.msg⟩,rfl⟩
theorem aP5 {t:den tTo} {now:Int} {dead:List Int} {r inn:Int} {p:den tPk} (hp:fP p):fP (cU t now dead r inn p).2.2.1:=fun x hx=>hp x (by unfold cU at hx;rwa [(aGt t r now _ inn p).2.2.2] at hx)
theorem aTa {w:den tNw} (h:xD w) {r inn:Int} {p:den tPk} (hp:fP p):xD (proc0 w r inn p)/\(aD (proc0 w r inn p)).length=(aD w).length:=by
 unfold proc0;split
 .exact aRy h (aP5 hp)
 .split
  .exact aMs h _ _
  .exact aHe h
theorem aLt {w:den tNw} (h:xD w) {r inn:Int} {p:den tPk} (hp:fP p):xD (gW w r inn p)/\(aD (gW w r inn p)).length=(aD w).length:=by
 unfold gW;split
 .exact aRy h (aP5 hp)
 .split
  .split
   .unfold aDc;split
    .exact ⟨h,rfl⟩
    .split
     .obtain ⟨h1,h2⟩:=aQd h (kT (bH w) r (cU (nT w) (aN w) (aK w) r inn p).2.2.1.2.1).toNat (eW (aBt w (kT (bH w) r (cU (nT w) (aN w) (aK w) r inn p).2.2.1.2.1).toNat) (cU (nT w) (aN w) (aK w) r inn p).2.2.1);obtain ⟨h3,h4⟩:=aTa h1 (r:=r) (inn:=0) (p:=pS (eW (aBt w (kT (bH w) r (cU (nT w) (aN w) (aK w) r inn p).2.2.1.2.1).toNat) (cU (nT w) (aN w) (aK w) r inn p).2.2.1) (cU (nT w) (aN w) (aK w) r inn p).2.2.1) (by
       unfold pS;split
       .exact fun x hx=>by cases hx
       .exact fun x hx=>by cases hx)
      exact ⟨h3,h4.trans h2⟩
     .exact aQd h _ _
   .exact aMs h _ _
  .split
   .unfold aE2;split
    .obtain ⟨h1,h2⟩:=aTa h (r:=r) (inn:=0) (p:=cM r (aN w) (cU (nT w) (aN w) (aK w) r inn p).2.2.2 p) (aTm _);obtain ⟨h3,h4⟩:=aHe h1;exact ⟨h3,h4.trans h2⟩
    .obtain ⟨h1,h2⟩:=aMs h r (cM r (aN w) (cU (nT w) (aN w) (aK w) r inn p).2.2.2 p);obtain ⟨h3,h4⟩:=aHe h1;exact ⟨h3,h4.trans h2⟩
   .exact aHe h
def uL (w:den tNw) (l:lFy):den tNw:=(nT w,nK w,nG w,aN w,aK w,l,aD w,bH w,cO w)
def bTz (x:den tFy) (w:den tNw):q29:=
 (x.1,x.2.1,x.2.2.1,x.2.2.2.1,x.2.2.2.2.1,x.2.2.2.2.2.1,x.2.2.2.2.2.2.1,x.2.2.2.2.2.2.2.1,x.2.2.2.2.2.2.2.2.1,x.2.2.2.2.2.2.2.2.2.1,x.2.2.2.2.2.2.2.2.2.2.1,x.2.2.2.2.2.2.2.2.2.2.2,cB w)
theorem aL5 (w:den tNw) (l:lFy):tot tNw (uL w l)+tot (.sl tFy) (aR w)=tot tNw w+tot (.sl tFy) l:=by
 have e:tot tNw (uL w l)=(tot (.sl tAS) (nT w).1+tot (.sl tLk) (nT w).2)+((tot (.sl tSg) (nK w).1+tot (.sl tSg) (nK w).2)+((0+(tot (.sl tRs) (nG w).2.1+tot (.sl tUs) (nG w).2.2))+(0+(tot (.sl ti) (aK w)+(tot (.sl tFy) l+(tot (.sl tFl) (aD w)+(tot (.sl tIb) (bH w)+0))))))):=rfl;rw [e,dX w];omega
def bRj (w:den tNw):den tNw:=match aR w with
 | []=>w
 | x::l=>gW (uL w l) x.1 x.2.1 x.2.2
def bGk:Nat->den tNw->den tNw
 | 0,w=>w
 | n+1,w=>match aR w with
  | []=>w
  | _::_=>bGk n (bRj w)
structure mB (B F:Nat) (w:den tNw):Prop where
 tot:Go.V.tot tNw w<=B
 flows:(aD w).length<=F
 bytes:xD w
theorem mB.mono {B C F:Nat} {w:den tNw} (h:mB B F w) (hb:B<=C):mB C F w:=⟨cEa h.tot hb,h.flows,h.bytes⟩
theorem bWx {w:den tNw} {x:den tFy} {l:lFy} (h:aR w=x::l):tot tNw (uL w l)+(1+tot tPk x.2.2)=tot tNw w:=by
 have h1:=aL5 w l;rw [h,iM] at h1;have e:tot tFy x=tot tPk x.2.2:=by simp [rP,vX]
 rw [e] at h1;omega
theorem bP7 {B F:Nat} {w:den tNw} {x:den tFy} {l:lFy} (hk:mB B F w) (h:aR w=x::l):mB B F (uL w l)/\tot tPk x.2.2<=B/\fP x.2.2:=by
 have h1:=bWx h;have h2:=hk.tot;refine ⟨⟨by omega,hk.flows,⟨fun y hy=>hk.bytes.fly y (by rw [h];exact cEp _ hy),hk.bytes.msg⟩⟩,by omega,hk.bytes.fly x (by rw [h];exact cEu ..)⟩
theorem aS4 {B F:Nat} {w:den tNw} (hk:mB B F w) {r inn:Int} {p:den tPk} (hp:fP p):mB (B+(160+F)) F (gW w r inn p):=by
 obtain ⟨h1,h2⟩:=aLt hk.bytes (r:=r) (inn:=inn) hp;have h3:=aS7 w r inn p;have h4:=hk.tot;have h5:=hk.flows;exact ⟨by omega,by omega,h1⟩
theorem aFo {B F:Nat} {w:den tNw} (h:mB B F w) (hB:B<=1073741824):aDq w/\(bH w).length<=68719476736/\ ∀ x∈bH w,tot tIb x<=1073741824:=
 ⟨aRx (cEa h.tot hB),cAs (cEa h.tot hB)⟩
theorem aPg {B F:Nat} {w:den tNw} (h:mB B F w) (hB:B<=1073741824):(aR w).length<=1073741824:=by
 have :=dX w;have :=dE (t:=tFy) (aR w);have :=h.tot;omega
theorem bLv (f:den tFl):(aF f).1.2.2.2.2.1=f.2.2.2.2.1:=by
 unfold aF
 repeat' split
 all_goals rfl
theorem bCv {f:den tFl} (h: ∀ m∈f.2.2.2.2.1,tO m):fP (zH f):=by
 unfold zH;split
 .intro x hx;have hx:x∈(f.2.2.2.2.1[f.2.2.2.1.toNat]?).getD []:=hx;cases hm:f.2.2.2.2.1[f.2.2.2.1.toNat]? with
  | none=>rw [hm] at hx;cases hx
  | some m=>rw [hm] at hx;exact h m (cEn hm) x hx
 .intro x hx;cases hx
theorem bCw {f:den tFl} (h: ∀ m∈f.2.2.2.2.1,tO m):fP (aF f).2.1:=by
 unfold aF
 repeat' split
 all_goals first
  | exact bCv h
  | (intro x hx;cases hx)
def stepT (k:Nat) (w:den tNw):den tNw:=match (aD w)[k]? with
 | some f=>if (aF f).2.2 then gW (dI w ((aD w).set k (aF f).1)) (aF f).1.1 0 (aF f).2.1 else dI w ((aD w).set k (aF f).1)
 | none=>w
def tickL:Nat->Nat->den tNw->den tNw
 | _,0,w=>w
 | k,n+1,w=>tickL (k+1) n (stepT k w)
def aHn (w:den tNw):den tNw:=(nT w,nK w,((nG w).1,aGl (nG w).2.1 (wr (aN w+1)),[]),wr (aN w+1),aK w,aR w,aD w,bH w,cO w)
def sJ (w:den tNw):den tNw:=if aN w>=1000000 then w else tickL 0 (aD w).length (aHn w)
theorem aOg {B F:Nat} {w:den tNw} {k:Nat} {f:den tFl} (hk:mB B F w) (hf:(aD w)[k]? =some f):mB B F (dI w ((aD w).set k (aF f).1))/\tot tPk (aF f).2.1<=B/\fP (aF f).2.1:=by
 have hm:=cEn hf;have h1:=aKy (t:=tFl) (y:=(aF f).1) hf;have h2:=(aXf f).1;have h3:=(aXf f).2;have h4:=vW (t:=tFl) hm;have h5:=aEr w ((aD w).set k (aF f).1);have h6:=dX w;have h7:=hk.tot;refine ⟨⟨by omega,?_,⟨hk.bytes.fly,fun g hg m hmm=> ?_⟩⟩,by omega,bCw (hk.bytes.msg f hm)⟩
 .show ((aD w).set k _).length<=F;rw [cFt];exact hk.flows
 .rcases cG0 (show g∈(aD w).set k (aF f).1 from hg) with hg | rfl
  .exact hk.bytes.msg g hg m hmm
  .rw [bLv] at hmm;exact hk.bytes.msg f hm m hmm
theorem aSx {B F:Nat} {w:den tNw} (k:Nat) (hk:mB B F w):mB (B+(160+F)) F (stepT k w)/\(aD (stepT k w)).length=(aD w).length:=by
 unfold stepT;split
 .rename_i f hf;obtain ⟨h1,h2,h3⟩:=aOg hk hf;have hl:(aD (dI w ((aD w).set k (aF f).1))).length=(aD w).length:=by show ((aD w).set k _).length=_;rw [cFt]
  split
  .exact ⟨aS4 h1 h3,(aLt h1.bytes h3).2.trans hl⟩
  .exact ⟨h1.mono (by omega),hl⟩
 .exact ⟨hk.mono (by omega),rfl⟩
theorem aTz {F:Nat}: ∀ (n k:Nat) {B:Nat} {w:den tNw},mB B F w->mB (B+n * (160+F)) F (tickL k n w)/\(aD (tickL k n w)).length=(aD w).length
 | 0,k,B,w,hk=>⟨hk.mono (by omega),rfl⟩
 | n+1,k,B,w,hk=>by
  obtain ⟨h1,h2⟩:=aSx k hk;obtain ⟨h3,h4⟩:=aTz n (k+1) h1;unfold tickL;exact ⟨h3.mono (by rw [cE7];omega),h4.trans h2⟩
theorem bK2 (l:lRs) (now:Int):(aGl l now).length<=l.length:=cGa _ _
theorem aHi {B F:Nat} {w:den tNw} (hk:mB B F w):mB B F (aHn w):=by
 refine ⟨?_,hk.flows,⟨hk.bytes.fly,hk.bytes.msg⟩⟩;have h1:=hk.tot;have h2:=dX w;have h3:=bK2 (nG w).2.1 (wr (aN w+1));have e:tot tNw (aHn w)=(tot (.sl tAS) (nT w).1+tot (.sl tLk) (nT w).2)+((tot (.sl tSg) (nK w).1+tot (.sl tSg) (nK w).2)+((0+(tot (.sl tRs) (aGl (nG w).2.1 (wr (aN w+1)))+tot (.sl tUs) []))+(0+(tot (.sl ti) (aK w)+(tot (.sl tFy) (aR w)+(tot (.sl tFl) (aD w)+(tot (.sl tIb) (bH w)+0))))))):=rfl;have r1: ∀ l:lRs,tot (.sl tRs) l=l.length:=fun l=>dK rfl
 have r2:=r1 (aGl (nG w).2.1 (wr (aN w+1)));have r3:=r1 (nG w).2.1;rw [aEk] at e;omega
theorem bGf {B F:Nat} {w:den tNw} (hk:mB B F w):mB (B+F * (160+F)) F (sJ w):=by
 unfold sJ;split
 .exact hk.mono (by omega)
 .have :=(aTz (aD w).length 0 (aHi hk)).1;refine this.mono ?_;have h1:(aD w).length * (160+F)<=F * (160+F):=cFp _ hk.flows;omega
theorem aWn {F:Nat} {S R:Type} (enc:Nat->den tNw->S) (out:den tNw->R) (N:Nat) {step:S->Option (S⊕R)}
  (H1: ∀ (k:Nat) (w:den tNw),k<N->(aD w).length=N->mB 536870912 F w->step (enc k w)=some (.inl (enc (k+1) (stepT k w))))
  (H2: ∀ (w:den tNw),(aD w).length=N->step (enc N w)=some (.inr (out w))):
  ∀ (m k B:Nat) (w:den tNw),k+m=N->(aD w).length=N->mB B F w->B+m * (160+F)<=536870912->aC step (enc k w)=some (out (tickL k m w)):=by
 intro m
 induction m with
 | zero=>
  intro k B w hk hn hw hB;have :k=N:=by omega
  subst this;exact bI (H2 w hn)
 | succ m ih=>
  intro k B w hk hn hw hB;rw [cE7] at hB;obtain ⟨h1,h2⟩:=aSx k hw;rw [cX (H1 k w (by omega) hn (hw.mono (by omega)))];exact ih (k+1) _ _ (by omega) (h2.trans hn) h1 (by omega)
theorem bXm {B F:Nat} {w0:den tNw} (hF:F<=1000) (hk:mB B F w0) (hB:B+F * (160+F)<=536870912):pA w0=some (!decide (aN w0>=1000000),cB (sJ w0)):=by
 have hres:(nG w0).2.1.length<=1073741824:=(aRx (cEa hk.tot (by omega))).res;unfold pA sJ ixb aMg jX pj3 pj9 aL aU aV bV eC fZ nA pX sU tH zz4 zz5 zz6 zz7 zz8 zz9
 by_cases hnow:aN w0>=1000000
 .rw [zT hnow,zX (p:=w0.2.2.2.1>=1000000) hnow];rfl
 .rw [zS hnow,zW (p:=w0.2.2.2.1>=1000000) hnow,zY];unfold yX;simp only [bQg hres,aA];refine Eq.trans (congrArg (fun o=>Option.bind o _) (aWn (F:=F) (fun k w=>((k:Int),cB w)) cB (aD w0).length (fun k w hk' hn hw=> ?_) (fun w hn=> ?_) (aD w0).length 0 B (aHn w0) (cE9 _) rfl (aHi hk) (by have :(aD w0).length * (160+F)<=F * (160+F):=cFp _ hk.flows;omega))) ?_
  .obtain ⟨f,hf⟩: ∃ f,(aD w)[k]? =some f:=⟨_,cEb (show k<(aD w).length by omega)⟩
   obtain ⟨k1,k2,k3⟩:=aOg hw hf;obtain ⟨n1,n2,n3⟩:=aFo k1 (by decide);have hft:tot tFl f<=34359738368:=by have :=vW (t:=tFl) (cEn hf);have :=dX w;have :=hw.tot;omega
   have hd:decide ((k:Int)<(w0.2.2.2.2.2.2.1.length:Int))=true:=zX (by have :k<w0.2.2.2.2.2.2.1.length:=(by exact hk');omega);have hd1:decide ((k:Int)<((cB w).2.1.length:Int))=true:=zX (by have :k<(cB w).2.1.length:=(show k<(aD w).length by omega);omega);have hd2:decide (k<(cB w).2.1.length)=true:=zX (show k<(aD w).length by omega);have hf':(cB w).2.1[k]? =some f:=hf;have hwr:wr ((k:Int)+1)=((k+1:Nat):Int):=(wri (by have :=hk.flows;omega) (by have :=hk.flows;omega)).trans (by omega);have e:stepT k w=if (aF f).2.2 then gW (dI w ((aD w).set k (aF f).1)) (aF f).1.1 0 (aF f).2.1 else dI w ((aD w).set k (aF f).1):=by unfold stepT;rw [hf]
   have e1:cC (((cB w).2.2.2.1,(cB w).2.2.2.2.1),((cB w).2.2.2.2.2.1,(cB w).2.2.2.2.2.2.1),((cB w).2.2.2.2.2.2.2.1,(cB w).2.2.2.2.2.2.2.2.1,(cB w).2.2.2.2.2.2.2.2.2.1),(cB w).2.2.2.2.2.2.2.2.2.2.1,(cB w).2.2.2.2.2.2.2.2.2.2.2.1,(cB w).1,((cB w).2.1.set k ((eE (aF f).1 (aF f).2.1 (aF f).2.2).1,(eE (aF f).1 (aF f).2.1 (aF f).2.2).2.1,(eE (aF f).1 (aF f).2.1 (aF f).2.2).2.2.1,(eE (aF f).1 (aF f).2.1 (aF f).2.2).2.2.2.1,(eE (aF f).1 (aF f).2.1 (aF f).2.2).2.2.2.2.2.2.2.2.2.2.2.2.2.2.2.1,(eE (aF f).1 (aF f).2.1 (aF f).2.2).2.2.2.2.2.2.2.2.2.2.2.2.2.2.2.2.1,(eE (aF f).1 (aF f).2.1 (aF f).2.2).2.2.2.2.1,(eE (aF f).1 (aF f).2.1 (aF f).2.2).2.2.2.2.2.1,(eE (aF f).1 (aF f).2.1 (aF f).2.2).2.2.2.2.2.2.2.2.2.2.2.2.2.2.2.2.2.1)),(cB w).2.2.1,(cB w).2.2.2.2.2.2.2.2.2.2.2.2) (eE (aF f).1 (aF f).2.1 (aF f).2.2).1 0 ((eE (aF f).1 (aF f).2.1 (aF f).2.2).2.2.2.2.2.2.1,(eE (aF f).1 (aF f).2.1 (aF f).2.2).2.2.2.2.2.2.2.1,(eE (aF f).1 (aF f).2.1 (aF f).2.2).2.2.2.2.2.2.2.2.1,(eE (aF f).1 (aF f).2.1 (aF f).2.2).2.2.2.2.2.2.2.2.2.2.2.2.2.2.2.2.2.2.1,(eE (aF f).1 (aF f).2.1 (aF f).2.2).2.2.2.2.2.2.2.2.2.1,(eE (aF f).1 (aF f).2.1 (aF f).2.2).2.2.2.2.2.2.2.2.2.2.1,(eE (aF f).1 (aF f).2.1 (aF f).2.2).2.2.2.2.2.2.2.2.2.2.2.1,(eE (aF f).1 (aF f).2.1 (aF f).2.2).2.2.2.2.2.2.2.2.2.2.2.2.1,(eE (aF f).1 (aF f).2.1 (aF f).2.2).2.2.2.2.2.2.2.2.2.2.2.2.2.1,(eE (aF f).1 (aF f).2.1 (aF f).2.2).2.2.2.2.2.2.2.2.2.2.2.2.2.2.2.2.2.2.2)=some (cB (gW (dI w ((aD w).set k (aF f).1)) (aF f).1.1 0 (aF f).2.1)):=bFh (w:=dI w ((aD w).set k (aF f).1)) n1 n2 n3 k2 k3;rw [e];simp only [hd,hd1,hd2,bS,cEf,hf',zZ,aA,aP,bXk hft,hwr];cases hb:(aF f).2.2
   .rfl
   .rw [hb] at e1;rw [zT rfl];show Option.bind (cond true _ _) _=_;rw [zZ];show Option.bind (Option.bind (cC _ _ 0 _) fun y12=>_) _=_;rw [e1];rfl
  .have hd:decide ((((aD w0).length:Nat):Int)<(w0.2.2.2.2.2.2.1.length:Int))=false:=zW (by have :w0.2.2.2.2.2.2.1.length=(aD w0).length:=rfl;omega);simp only [hd,zY]
  .rfl
theorem bVy {B F:Nat} {w0:den tNw} (hF:F<=1000) (hk:mB B F w0) (hB:B+F * (160+F)<=536870912):xZ w0=some (!decide (aN w0>=1000000),cB (sJ w0)):=by
 have hres:(nG w0).2.1.length<=1073741824:=(aRx (cEa hk.tot (by omega))).res;unfold xZ sJ ixb aMg jX pj3 pj9 aL aU aV bV eC fZ nA pX sU tH zz4 zz5 zz6 zz7 zz8 zz9
 by_cases hnow:aN w0>=1000000
 .rw [zT hnow,zX (p:=w0.2.2.2.1>=1000000) hnow];rfl
 .rw [zS hnow,zW (p:=w0.2.2.2.1>=1000000) hnow,zY];unfold yY;simp only [bPo hres,aA];refine Eq.trans (congrArg (fun o=>Option.bind o _) (aWn (F:=F) (fun k w=>((k:Int),cB w)) cB (aD w0).length (fun k w hk' hn hw=> ?_) (fun w hn=> ?_) (aD w0).length 0 B (aHn w0) (cE9 _) rfl (aHi hk) (by have :(aD w0).length * (160+F)<=F * (160+F):=cFp _ hk.flows;omega))) ?_
  .obtain ⟨f,hf⟩: ∃ f,(aD w)[k]? =some f:=⟨_,cEb (show k<(aD w).length by omega)⟩
   obtain ⟨k1,k2,k3⟩:=aOg hw hf;obtain ⟨n1,n2,n3⟩:=aFo k1 (by decide);have hft:tot tFl f<=34359738368:=by have :=vW (t:=tFl) (cEn hf);have :=dX w;have :=hw.tot;omega
   have hd:decide ((k:Int)<((cB w).2.1.length:Int))=true:=zX (by have :k<(cB w).2.1.length:=(by show k<(aD w).length;omega);omega);have hd1:decide ((k:Int)<((cB w).2.1.length:Int))=true:=zX (by have :k<(cB w).2.1.length:=(show k<(aD w).length by omega);omega);have hd2:decide (k<(cB w).2.1.length)=true:=zX (show k<(aD w).length by omega);have hf':(cB w).2.1[k]? =some f:=hf;have hwr:wr ((k:Int)+1)=((k+1:Nat):Int):=(wri (by have :=hk.flows;omega) (by have :=hk.flows;omega)).trans (by omega);have e:stepT k w=if (aF f).2.2 then gW (dI w ((aD w).set k (aF f).1)) (aF f).1.1 0 (aF f).2.1 else dI w ((aD w).set k (aF f).1):=by unfold stepT;rw [hf]
   have e1:eN (((cB w).2.2.2.1,(cB w).2.2.2.2.1),((cB w).2.2.2.2.2.1,(cB w).2.2.2.2.2.2.1),((cB w).2.2.2.2.2.2.2.1,(cB w).2.2.2.2.2.2.2.2.1,(cB w).2.2.2.2.2.2.2.2.2.1),(cB w).2.2.2.2.2.2.2.2.2.2.1,(cB w).2.2.2.2.2.2.2.2.2.2.2.1,(cB w).1,((cB w).2.1.set k ((eE (aF f).1 (aF f).2.1 (aF f).2.2).1,(eE (aF f).1 (aF f).2.1 (aF f).2.2).2.1,(eE (aF f).1 (aF f).2.1 (aF f).2.2).2.2.1,(eE (aF f).1 (aF f).2.1 (aF f).2.2).2.2.2.1,(eE (aF f).1 (aF f).2.1 (aF f).2.2).2.2.2.2.2.2.2.2.2.2.2.2.2.2.2.1,(eE (aF f).1 (aF f).2.1 (aF f).2.2).2.2.2.2.2.2.2.2.2.2.2.2.2.2.2.2.1,(eE (aF f).1 (aF f).2.1 (aF f).2.2).2.2.2.2.1,(eE (aF f).1 (aF f).2.1 (aF f).2.2).2.2.2.2.2.1,(eE (aF f).1 (aF f).2.1 (aF f).2.2).2.2.2.2.2.2.2.2.2.2.2.2.2.2.2.2.2.1)),(cB w).2.2.1,(cB w).2.2.2.2.2.2.2.2.2.2.2.2) (eE (aF f).1 (aF f).2.1 (aF f).2.2).1 0 ((eE (aF f).1 (aF f).2.1 (aF f).2.2).2.2.2.2.2.2.1,(eE (aF f).1 (aF f).2.1 (aF f).2.2).2.2.2.2.2.2.2.1,(eE (aF f).1 (aF f).2.1 (aF f).2.2).2.2.2.2.2.2.2.2.1,(eE (aF f).1 (aF f).2.1 (aF f).2.2).2.2.2.2.2.2.2.2.2.2.2.2.2.2.2.2.2.2.1,(eE (aF f).1 (aF f).2.1 (aF f).2.2).2.2.2.2.2.2.2.2.2.1,(eE (aF f).1 (aF f).2.1 (aF f).2.2).2.2.2.2.2.2.2.2.2.2.1,(eE (aF f).1 (aF f).2.1 (aF f).2.2).2.2.2.2.2.2.2.2.2.2.2.1,(eE (aF f).1 (aF f).2.1 (aF f).2.2).2.2.2.2.2.2.2.2.2.2.2.2.1,(eE (aF f).1 (aF f).2.1 (aF f).2.2).2.2.2.2.2.2.2.2.2.2.2.2.2.1,(eE (aF f).1 (aF f).2.1 (aF f).2.2).2.2.2.2.2.2.2.2.2.2.2.2.2.2.2.2.2.2.2)=some (cB (gW (dI w ((aD w).set k (aF f).1)) (aF f).1.1 0 (aF f).2.1)):=bEk (w:=dI w ((aD w).set k (aF f).1)) n1 n2 n3 k2 k3;rw [e];simp only [hd,hd1,hd2,bS,cEf,hf',zZ,aA,aP,bWy hft,hwr];cases hb:(aF f).2.2
   .rfl
   .rw [hb] at e1;rw [zT rfl];show Option.bind (cond true _ _) _=_;rw [zZ];show Option.bind (Option.bind (eN _ _ 0 _) fun y12=>_) _=_;rw [e1];rfl
  .have hd:decide ((((aD w0).length:Nat):Int)<((cB w).2.1.length:Int))=false:=zW (by have :(cB w).2.1.length=(aD w0).length:=hn;omega);simp only [hd,zY]
  .rfl
def Ans {α:Type} (o:Option α) (P:α->Prop):Prop:= ∃ y,o=some y/\P y
theorem bQ8 {S R:Type} {step:S->Option (S⊕R)} (I:Nat->S->Prop) (Q:R->Prop) (h: ∀ n s,I n s->(∃ r,step s=some (.inr r)/\Q r)\/ ∃ m s',m<n/\step s=some (.inl s')/\I m s') (n:Nat): ∀ s,I n s->Ans (aC step s) Q:=by
 induction n using Nat.strongRecOn with
 | ind n ih=>
  intro s hs;rcases h n s hs with ⟨r,h1,h2⟩ | ⟨m,s',h1,h2,h3⟩
  .exact ⟨r,bI h1,h2⟩
  .obtain ⟨r,h4,h5⟩:=ih m h1 s' h3;exact ⟨r,(cX h2).trans h4,h5⟩
theorem tV {S R T:Type} {step:S->Option (S⊕R)} (I:Nat->S->Prop) (Q:R->Prop) {k:R->Option T} {G:Option T->Prop} (h: ∀ n s,I n s->(∃ r,step s=some (.inr r)/\Q r)\/ ∃ m s',m<n/\step s=some (.inl s')/\I m s') (n:Nat) (s:S) (hs:I n s) (hk: ∀ r,Q r->G (k r)):G (Option.bind (aC step s) k):=by
 obtain ⟨r,h1,h2⟩:=bQ8 I Q h n s hs;rw [h1];exact hk r h2
theorem gZ {S R T:Type} {step:S->Option (S⊕R)} (len:Nat) (pos:S->Int) (J:Nat->S->Prop) (Q:R->Prop) {k:R->Option T} {G:Option T->Prop}
  (h: ∀ (i:Nat) (s:S),i<len->pos s=(i:Int)->J i s->(∃ r,step s=some (.inr r)/\Q r)\/ ∃ s',step s=some (.inl s')/\pos s'=((i+1:Nat):Int)/\J (i+1) s')
  (he: ∀ s:S,pos s=(len:Int)->J len s-> ∃ r,step s=some (.inr r)/\Q r) (i0:Nat) (s0:S) (hi:i0<=len) (hp:pos s0=(i0:Int)) (hJ:J i0 s0) (hk: ∀ r,Q r->G (k r)):G (Option.bind (aC step s0) k):=by
 refine tV (fun n s=> ∃ i:Nat,pos s=(i:Int)/\i+n=len/\J i s) Q ?_ (len - i0) s0 ⟨i0,hp,by omega,hJ⟩ hk
 rintro n s ⟨i,h1,h2,h3⟩
 cases n with
 | zero=>
  have e:i=len:=by omega
  subst e;exact .inl (he s h1 h3)
 | succ n=>
  rcases h i s (by omega) h1 h3 with h4 | ⟨s',h4,h5,h6⟩
  .exact .inl h4
  .exact .inr ⟨n,s',by omega,h4,i+1,h5,by omega,h6⟩
theorem bN {n:Int} (h0: -1000000000000<=n) (h1:n<=1000000000000):wr n=n:=wri (by omega) (by omega)
theorem cR {n:Nat} (h:n<=1000000000):wr ((n:Int)+1)=((n+1:Nat):Int):=by rw [bN (by omega) (by omega)];omega
theorem bBp (a:Int):0<=aA3 .i64 a 255/\aA3 .i64 a 255<=255:=by
 have h:((BitVec.ofInt 64 a &&& BitVec.ofInt 64 255).toNat)<=255:=by
  rw [BitVec.toNat_and];exact cEa Nat.and_le_right (by decide)
 have e:aA3 .i64 a 255=wr (((BitVec.ofInt 64 a &&& BitVec.ofInt 64 255).toNat:Nat):Int):=rfl;rw [e,show wr (((BitVec.ofInt 64 a &&& BitVec.ofInt 64 255).toNat:Nat):Int)=_ from wri (by omega) (by omega)];omega
def Cur (code:List Int) (c:List Int×q31):Prop:=c.1=code/\0<=c.2.1/\c.2.1<=(code.length:Int)
theorem aIu {code:List Int} (hl:code.length<=1048576) {c:List Int} {p h:Int} (hc:Cur code (c,p,h)): ∃ v c' p' h',rR (c,p,h)=some (v,c',p',h')/\(0<=v/\v<=255)/\Cur code (c',p',h'):=by
 obtain ⟨h1,h2,h3⟩:=hc;simp only at h1 h2 h3;subst h1;unfold rR pj4;simp only [aA]
 by_cases hp:p<(c.length:Int)
 .obtain ⟨m,rfl⟩:=cE0 h2;have hm:m<c.length:=by omega
  rw [zX hp,zZ,aH,cEb hm];refine ⟨_,_,_,_,rfl,bBp _,rfl,?_,?_⟩
  .show 0<=wr ((m:Int)+1);rw [show wr ((m:Int)+1)=(m:Int)+1 from wri (by omega) (by omega)];omega
  .show wr ((m:Int)+1)<=_;rw [show wr ((m:Int)+1)=(m:Int)+1 from wri (by omega) (by omega)];omega
 .rw [zW hp,zY];exact ⟨_,_,_,_,rfl,bBp _,rfl,h2,h3⟩
theorem aM {code:List Int} (hl:code.length<=1048576) {n:Int} (h0:0<n) (h1:n<=256) {c:List Int} {p h:Int} (hc:Cur code (c,p,h)): ∃ v c' p' h',aB (c,p,h) n=some (v,c',p',h')/\(0<=v/\v<n)/\Cur code (c',p',h'):=by
 obtain ⟨v,c',p',h',hb,hv,hc'⟩:=aIu hl hc;refine ⟨Int.tmod v n,c',p',h',?_,⟨Int.tmod_nonneg _ hv.1,Int.tmod_lt_of_pos _ h0⟩,hc'⟩;unfold aB pj3;rw [zW (by omega),zY,zX h1,zZ];simp only [hb,aA];rw [show (n==0)=false by rw [beq_eq_false_iff_ne];omega,zY]
theorem aJr {code:List Int} (hl:code.length<=1048576) {n:Int} (h1:256<n) {c:List Int} {p h:Int} (hc:Cur code (c,p,h)): ∃ v c' p' h',aB (c,p,h) n=some (v,c',p',h')/\(0<=v/\v<n)/\Cur code (c',p',h'):=by
 obtain ⟨v1,c1,p1,h1',e1,r1,k1⟩:=aIu hl hc;obtain ⟨v2,c2,p2,h2',e2,r2,k2⟩:=aIu hl k1;obtain ⟨v3,c3,p3,h3',e3,r3,k3⟩:=aIu hl k2;have w1:wr (v1 * 65536)=v1 * 65536:=bN (by omega) (by omega);have w2:wr (v2 * 256)=v2 * 256:=bN (by omega) (by omega);have w3:wr (v1 * 65536+v2 * 256)=v1 * 65536+v2 * 256:=bN (by omega) (by omega);have w4:wr (v1 * 65536+v2 * 256+v3)=v1 * 65536+v2 * 256+v3:=bN (by omega) (by omega);refine ⟨Int.tmod (v1 * 65536+v2 * 256+v3) n,c3,p3,h3',?_,⟨Int.tmod_nonneg _ (by omega),Int.tmod_lt_of_pos _ (by omega)⟩,k3⟩;unfold aB pj3;rw [zW (by omega),zY,zW (by omega),zY];simp only [e1,e2,e3,aA,w1,w2,w3,w4];rw [show (n==0)=false by rw [beq_eq_false_iff_ne];omega,zY]
theorem uE {code:List Int} (hl:code.length<=1048576) {l:List Int} (h0:0<l.length) (h1:l.length<=256) {c:List Int} {p h:Int} (hc:Cur code (c,p,h)): ∃ v c' p' h',eJ (c,p,h) l=some (v,c',p',h')/\v∈l/\Cur code (c',p',h'):=by
 obtain ⟨v,c',p',h',hb,hv,hc'⟩:=aM hl (n:=(l.length:Int)) (by omega) (by omega) hc;obtain ⟨m,rfl⟩:=cE0 hv.1;have hm:m<l.length:=by omega
 refine ⟨l[m],c',p',h',?_,cFi hm,hc'⟩;unfold eJ pj3;simp only [hb,aA,aH,cEb hm]
theorem pR {code:List Int} (hl:code.length<=1048576) {n:Int} (h0:0<n) (h1:n<=256) {c:List Int} {p h:Int} (hc:Cur code (c,p,h)): ∃ b c' p' h',cG (c,p,h) n=some (b,c',p',h')/\Cur code (c',p',h'):=by
 obtain ⟨v,c',p',h',hb,hv,hc'⟩:=aM hl h0 h1 hc;refine ⟨v==0,c',p',h',?_,hc'⟩;unfold cG pj3;simp only [hb,aA]
theorem aUc {code:List Int} (hl:code.length<=1048576): ∃ c p h,wW code=some (c,p,h)/\Cur code (c,p,h):=by
 unfold wW;refine tV (G:=fun o=> ∃ c p h,o=some (c,p,h)/\Cur code (c,p,h)) (fun n s=> ∃ k:Nat,s.2=(k:Int)/\k+n=code.length) (fun _=>True) ?_ code.length _ ⟨0,rfl,by omega⟩ ?_
 .rintro n ⟨a,b⟩ ⟨k,hk,hn⟩
  simp only at hk;subst hk
  by_cases h1:(k:Int)<(code.length:Int)
  .by_cases h2:(k:Int)<4000
   .right;have hk:k<code.length:=by omega
    refine ⟨n - 1,(aA3 .i64 (wr ((wr ((wr (a * (137:Int)))+(wr code[k])))+(11:Int))) (1073741823:Int),((k+1:Nat):Int)),by omega,?_,k+1,rfl,by omega⟩;simp only [zX h1,zX h2,zZ,aA,aH,cEb hk];rw [show wr ((k:Int)+1)=((k+1:Nat):Int) from by rw [show wr ((k:Int)+1)=(k:Int)+1 from wri (by omega) (by omega)];omega]
   .left;refine ⟨a,?_,trivial⟩;simp only [zX h1,zW h2,zZ,zY,aA]
  .left;refine ⟨a,?_,trivial⟩;simp only [zW h1,zY,aA]
 .intro r _;exact ⟨_,_,_,rfl,rfl,Int.le_refl 0,by show (0:Int)<=_;omega⟩
theorem aQn {α:Type} (p:Nat->α->Bool): ∀ (l:List α) (k:Nat),(bY (fun k x=>if p k x then none else some ()) k l).isNone=true↔ ∀ j x,l[j]? =some x->p (k+j) x=true
 | [],k=>by simp [bY]
 | x::l,k=>by
  have ih:=aQn p l (k+1);cases hp:p k x with
  | true=>
   simp only [bY,hp,zV];rw [ih];constructor
   .intro h j y hy;cases j with
    | zero=>simp only [cHa,Option.some.injEq] at hy;subst hy;exact hp
    | succ j=>simp only [List.getElem?_cons_succ] at hy;have :=h j y hy;rwa [show k+1+j=k+(j+1) by omega] at this
   .intro h j y hy;have :=h (j+1) y (by simpa using hy);rwa [show k+(j+1)=k+1+j by omega] at this
  | false=>
   simp only [bY,hp];constructor
   .intro h;simp at h
   .intro h;have :=h 0 x (by simp);rw [Nat.add_zero,hp] at this;cases this
def plc (id s d:Int):Nat->lUs->Int
 | _,[]=> -1
 | k,x::l=>if kP id s d x then (k:Int) else plc id s d (k+1) l
theorem aGw (l:lUs) (id s d:Int):place l id s d=plc id s d 0 l:=by
 unfold place;have : ∀ (l:lUs) (k:Nat),(match bY (fun k x=>if kP id s d x then some (k:Int) else none) k l with
  | some i=>i
  | none=> -1)=plc id s d k l:=by
  intro l
  induction l with
  | nil=>intro k;rfl
  | cons x l ih=>
   intro k;cases hp:kP id s d x with
   | true=>simp only [bY,plc,hp,zV]
   | false=>simp only [bY,plc,hp];exact ih (k+1)
 exact this l 0
theorem aZy {id s d:Int}: ∀ (l:lUs) (k:Nat),(plc id s d k l= -1/\ ∀ x∈l,kP id s d x=false)\/ ∃ j x,plc id s d k l=((k+j:Nat):Int)/\l[j]? =some x/\kP id s d x=true
 | [],_=> .inl ⟨rfl,fun x hx=>by cases hx⟩
 | x::l,k=>by
  unfold plc;cases hp:kP id s d x with
  | true=>exact .inr ⟨0,x,by simp,by simp,hp⟩
  | false=>
   rcases aZy l (k+1) with ⟨h1,h2⟩ | ⟨j,y,h1,h2,h3⟩
   .refine .inl ⟨by simpa using h1,fun y hy=> ?_⟩;rcases cEh.1 hy with rfl | hy
    .exact hp
    .exact h2 y hy
   .exact .inr ⟨j+1,y,by rw [zS (by simp),h1];congr 1;omega,by simpa using h2,h3⟩
theorem bH5 (l:lUs) (id s d:Int):(place l id s d= -1/\ ∀ x∈l,kP id s d x=false)\/ ∃ (j:Nat) (x:den tUs),place l id s d=(j:Int)/\l[j]? =some x/\kP id s d x=true:=by
 rw [aGw];rcases aZy (id:=id) (s:=s) (d:=d) l 0 with h | ⟨j,x,h1,h2,h3⟩
 .exact .inl h
 .exact .inr ⟨j,x,by rw [h1,cE9],h2,h3⟩
theorem bDy {id s d:Int} (z:lUs): ∀ (l:lUs) (k:Nat),plc id s d k (l++z)=if plc id s d k l<0 then plc id s d (k+l.length) z else plc id s d k l
 | [],k=>by simp [plc]
 | x::l,k=>by
  have e1:plc id s d k (x::l)=if kP id s d x then (k:Int) else plc id s d (k+1) l:=rfl
  have e2:plc id s d k (x::l++z)=if kP id s d x then (k:Int) else plc id s d (k+1) (l++z):=rfl
  by_cases hp:kP id s d x=true
  .rw [zT hp] at e1 e2;rw [e1,e2,zS (by omega)]
  .rw [zS hp] at e1 e2;rw [e1,e2,bDy z l (k+1),show k+(x::l).length=k+1+l.length by simp only [cE8];omega]
theorem bCd {id s d:Int}: ∀ (l m:lUs) (k:Nat),l.map (fun x=>(x.1,x.2.1,x.2.2.1))=m.map (fun x=>(x.1,x.2.1,x.2.2.1))->plc id s d k l=plc id s d k m
 | [],[],_,_=>rfl
 | [],_::_,_,h=>by simp at h
 | _::_,[],_,h=>by simp at h
 | x::l,y::m,k,h=>by
  simp only [cEv,List.cons.injEq,Prod.mk.injEq] at h;obtain ⟨⟨h1,h2,h3⟩,h4⟩:=h;have e:kP id s d x=kP id s d y:=by unfold kP;rw [h1,h2,h3]
  simp only [plc,e,bCd l m (k+1) h4]
theorem aN0 {id s d:Int} {x:den tUs}:kP id s d x=true↔x.1=id/\x.2.1=s/\x.2.2.1=d:=by unfold kP;simp
def aU8 (g:den tSc) (now:Int):Prop:= ∀ (j:Nat) (x:den tUs),g.2.2[j]? =some x->place g.2.2 x.1 x.2.1 x.2.2.1=(j:Int)/\(1:Int)<=x.2.2.2/\pO g x.1 x.2.1 x.2.2.1 now>=x.2.2.2
theorem bIp {g:den tSc} {now:Int}:aBh g now=true↔(1:Int)<=g.1/\(20:Int)>=g.1/\zQ g.2.1 g.1 now=true/\aU8 g now:=by
 unfold aBh aU8;rw [cEe,cEe,aQn];unfold inR okU;simp only [cEe,zR,beq_iff_eq,cE9,inR,and_assoc]
theorem bDc {l:lRs} {cap now:Int}:zQ l cap now=true↔l.length<=40/\ ∀ (j:Nat) (x:den tRs),l[j]? =some x->wH x=true/\rate l x.2.1 x.2.2.1 now<=cap/\ ∀ y∈l.take j,iE x y=false:=by
 unfold zQ;rw [cEe,aQn];unfold okR;simp only [cEe,zR,cE9,cFg,decide_eq_false_iff_not,List.any_eq_false,Bool.not_eq_true,Int.not_lt,gt_iff_lt]
theorem aL7 (x y:den tRs):iE x y=iE y x:=by
 unfold iE atR;rw [cEz];simp only [cEe,beq_iff_eq];constructor<;>(rintro ⟨a,b,c⟩;exact ⟨a.symm,b.symm,c.symm⟩)
theorem bL5 {l:lRs}:(∀ (j:Nat) (x:den tRs),l[j]? =some x-> ∀ y∈l.take j,iE x y=false)↔l.Pairwise fun x y=>iE x y=false:=by
 rw [cGe];constructor
 .intro h i j hi hj hij;rw [aL7];exact h j l[j] (cEb hj) l[i] (List.mem_take_iff_getElem.2 ⟨i,by omega,rfl⟩)
 .intro h j x hx y hy;obtain ⟨i,hi,rfl⟩:=List.mem_take_iff_getElem.1 hy;obtain ⟨hj,rfl⟩:=cEj.1 hx;rw [aL7];exact h i j (by omega) hj (by omega)
def rs (s d now:Int):lRs->Int
 | []=>0
 | x::l=>(if atR x s d&&decide (now<=x.2.2.2.2) then x.2.2.2.1 else 0)+rs s d now l
theorem aTh {s d now:Int}: ∀ {l:lRs},(∀ x∈l,(0:Int)<=x.2.2.2.1/\(20:Int)>=x.2.2.2.1)->0<=rs s d now l/\rs s d now l<=20 * l.length
 | [],_=>by simp [rs]
 | x::l,h=>by
  have ih:=aTh (s:=s) (d:=d) (now:=now) (l:=l) fun y hy=>h y (cEp _ hy)
  have hx:=h x (by simp);have e:((x::l).length:Int)=l.length+1:=by simp
  unfold rs;rw [e];split<;>omega
theorem aNi {s d now:Int}: ∀ (l:lRs) (a:Int),(∀ x∈l,(0:Int)<=x.2.2.2.1/\(20:Int)>=x.2.2.2.1)->0<=a->a+20 * l.length<=1000000000000->
  l.foldl (fun a x=>if atR x s d&&decide (now<=x.2.2.2.2) then wr (a+x.2.2.2.1) else a) a=a+rs s d now l
 | [],a,_,_,_=>by simp [rs]
 | x::l,a,h,h0,hb=>by
  have hx:=h x (by simp);simp only [cE8,Int.natCast_add,Int.natCast_one] at hb;simp only [cF8,rs];split
  .rw [show wr (a+x.2.2.2.1)=a+x.2.2.2.1 from wri (by omega) (by omega),aNi l _ (fun y hy=>h y (cEp _ hy)) (by omega) (by omega)];omega
  .rw [aNi l a (fun y hy=>h y (cEp _ hy)) h0 (by omega)];omega
theorem aPd {s d now:Int} {l:lRs} (h: ∀ x∈l,(0:Int)<=x.2.2.2.1/\(20:Int)>=x.2.2.2.1) (hl:l.length<=1000000):rate l s d now=rs s d now l:=by
 unfold rate;rw [aNi l 0 h (by omega) (by omega)];omega
theorem bLd {s d now:Int} (m:lRs): ∀ l:lRs,rs s d now (l++m)=rs s d now l+rs s d now m
 | []=>by simp [rs]
 | x::l=>by simp only [List.cons_append,rs,bLd m l];omega
theorem aW5 {s d now:Int} (p:den tRs->Bool): ∀ {l:lRs},(∀ x∈l,(0:Int)<=x.2.2.2.1/\(20:Int)>=x.2.2.2.1)->rs s d now (l.filter p)<=rs s d now l
 | [],_=>by simp [rs]
 | x::l,h=>by
  have ih:=aW5 (s:=s) (d:=d) (now:=now) p (l:=l) fun y hy=>h y (cEp _ hy)
  have hx:=h x (by simp);rw [cGt];split
  .simp only [rs];omega
  .simp only [rs];split<;>omega
structure tK (l:lRs) (cap now:Int):Prop where
 len:l.length<=40
 val: ∀ x∈l,wH x=true
 rate: ∀ x∈l,rs x.2.1 x.2.2.1 now l<=cap
 pw:l.Pairwise fun x y=>iE x y=false
theorem aP6 {x:den tRs} (h:wH x=true):(1:Int)<=x.1/\(1:Int)<=x.2.2.2.1/\(20:Int)>=x.2.2.2.1:=by
 unfold wH inR at h;simp only [cEe,zR] at h;exact ⟨h.1.1,h.2.1.1,h.2.1.2⟩
theorem yN {l:lRs} (h: ∀ x∈l,wH x=true): ∀ x∈l,(0:Int)<=x.2.2.2.1/\(20:Int)>=x.2.2.2.1:=fun x hx=>by
 have :=aP6 (h x hx);omega
theorem bQt {l:lRs} {cap now:Int}:zQ l cap now=true↔tK l cap now:=by
 rw [bDc];constructor
 .rintro ⟨h1,h2⟩
  have hv: ∀ x∈l,wH x=true:=fun x hx=>by
   obtain ⟨j,hj⟩:=cG4.1 hx;exact (h2 j x hj).1
  exact ⟨h1,hv,fun x hx=>by
   obtain ⟨j,hj⟩:=cG4.1 hx;rw [<- aPd (yN hv) (by omega)];exact (h2 j x hj).2.1,bL5.1 fun j x hj=>(h2 j x hj).2.2⟩
 .rintro ⟨h1,h2,h3,h4⟩
  refine ⟨h1,fun j x hj=> ?_⟩;have hx:=cEn hj;exact ⟨h2 x hx,by rw [aPd (yN h2) (by omega)];exact h3 x hx,bL5.2 h4 j x hj⟩
theorem tK.filter {l:lRs} {cap now:Int} (h:tK l cap now) (p:den tRs->Bool):tK (l.filter p) cap now:=
 ⟨cEa (cGa ..) h.len,fun x hx=>h.val x (cEq.1 hx).1,fun x hx=>cGu (aW5 p (yN h.val)) (h.rate x (cEq.1 hx).1),h.pw.filter _⟩
def admR (l:lRs) (x:den tRs) (cap now:Int):lRs:=
 if !wH x||decide (x.2.2.2.2<now)||decide (wr (rate (l.filter fun y=> !iE x y) x.2.1 x.2.2.1 now+x.2.2.2.1)>cap)||decide (((l.filter fun y=> !iE x y).length:Int)>=40) then l else (l.filter fun y=> !iE x y)++[x]
theorem tK.admR {l:lRs} {cap now:Int} (h:tK l cap now) (x:den tRs):tK (admR l x cap now) cap now:=by
 unfold Go.Proofs.YtcppmcbkokgfcaaGreat.admR;split
 .exact h
 .rename_i hc;simp only [cFq,cFg,zR,not_or,Bool.not_eq_false] at hc;obtain ⟨⟨⟨c1,c2⟩,c3⟩,c4⟩:=hc;have hf:=h.filter fun y=> !iE x y
  have hx:=aP6 c1;have hr:tK (l.filter fun y=> !iE x y) cap now:=hf;rw [aPd (yN hf.val) (by have :=hf.len;omega)] at c3;have hb:=aTh (s:=x.2.1) (d:=x.2.2.1) (now:=now) (yN hf.val);have hl:=hf.len;rw [show wr (rs x.2.1 x.2.2.1 now (l.filter fun y=> !iE x y)+x.2.2.2.1)=rs x.2.1 x.2.2.1 now (l.filter fun y=> !iE x y)+x.2.2.2.1 from wri (by omega) (by omega)] at c3;refine ⟨by simp only [cEy,List.length_singleton];omega,?_,?_,?_⟩
  .intro y hy;rcases cEl.1 hy with hy | hy
   .exact hf.val y hy
   .rw [cEk.1 hy];exact c1
  .intro y hy;rw [bLd];simp only [rs];rcases cEl.1 hy with hy | hy
   .have h1:=hf.rate y hy;cases ha:atR x y.2.1 y.2.2.1 with
    | false=>simp only [cEw,cEg,zU];omega
    | true=>
     have ha':=ha;unfold atR at ha';simp only [cEe,beq_iff_eq] at ha';rw [<- ha'.1,<- ha'.2];split<;>omega
   .rw [cEk.1 hy];split<;>omega
  .rw [cHs];refine ⟨hf.pw,List.pairwise_singleton _ _,fun y hy z hz=> ?_⟩;rw [cEk.1 hz,aL7];have :=(cEq.1 hy).2;simpa using this
theorem bLm {l:lUs} {id s d:Int} (z:lUs):place (l++z) id s d=if place l id s d<0 then plc id s d l.length z else place l id s d:=by
 rw [aGw,aGw,bDy,cE9]
theorem bGp {l m:lUs} {id s d:Int} (h:l.map (fun x=>(x.1,x.2.1,x.2.2.1))=m.map (fun x=>(x.1,x.2.1,x.2.2.1))):place l id s d=place m id s d:=by
 rw [aGw,aGw,bCd l m 0 h]
theorem bGl (l:lUs) (id s d:Int):(place l id s d= -1/\(∀ x∈l,kP id s d x=false)/\wK l id s d=0/\zM l id s d=l++[(id,s,d,1)])\/
  ∃ (j:Nat) (x:den tUs),place l id s d=(j:Int)/\l[j]? =some x/\kP id s d x=true/\wK l id s d=x.2.2.2/\zM l id s d=l.set j (x.1,x.2.1,x.2.2.1,wr (x.2.2.2+1)):=by
 rcases bH5 l id s d with ⟨h1,h2⟩ | ⟨j,x,h1,h2,h3⟩
 .refine .inl ⟨h1,h2,?_,?_⟩
  .unfold wK;rw [h1,zT (by decide)]
  .unfold zM;rw [h1,zT (by decide)]
 .refine .inr ⟨j,x,h1,h2,h3,?_,?_⟩
  .unfold wK;rw [h1,zS (by omega),cEf,h2];rfl
  .unfold zM;rw [h1,zS (by omega),cEf];simp only [h2]
theorem bRm {l:lUs} {j:Nat} {x:den tUs} (h:l[j]? =some x) (c:Int):(l.set j (x.1,x.2.1,x.2.2.1,c)).map (fun x=>(x.1,x.2.1,x.2.2.1))=l.map (fun x=>(x.1,x.2.1,x.2.2.1)):=by
 rw [List.map_set];apply List.ext_getElem?;intro i
 by_cases hij:j=i
 .subst hij;obtain ⟨hlt,rfl⟩:=cEj.1 h;rw [cHg (by simpa using hlt),cGf,cEb hlt];rfl
 .rw [List.getElem?_set_ne hij]
theorem aU8.more {g:den tSc} {now id s d:Int} (h:aU8 g now) (hu:wK g.2.2 id s d<pO g id s d now) (hb:pO g id s d now<=1000000):aU8 (g.1,g.2.1,zM g.2.2 id s d) now:=by
 have hr: ∀ i s d,pO (g.1,g.2.1,zM g.2.2 id s d) i s d now=pO g i s d now:=fun _ _ _=>rfl
 intro j x hx;have hx:(zM g.2.2 id s d)[j]? =some x:=hx;show place (zM g.2.2 id s d) x.1 x.2.1 x.2.2.1=(j:Int)/\(1:Int)<=x.2.2.2/\pO g x.1 x.2.1 x.2.2.1 now>=x.2.2.2;rcases bGl g.2.2 id s d with ⟨h1,h2,h3,h4⟩ | ⟨i,y,h1,h2,h3,h4,h5⟩
 .rw [h4] at hx ⊢;rw [bLm]
  by_cases hj:j<g.2.2.length
  .rw [List.getElem?_append_left hj] at hx;obtain ⟨a,b,c⟩:=h j x hx;rw [a,zS (by omega)];exact ⟨rfl,b,c⟩
  .rw [List.getElem?_append_right (by omega)] at hx;have hj0:j - g.2.2.length=0:=by
    cases hk:j - g.2.2.length with
    | zero=>rfl
    | succ k=>rw [hk] at hx;simp at hx
   rw [hj0] at hx;simp only [cHa,Option.some.injEq] at hx;subst hx;have hj':j=g.2.2.length:=by omega
   simp only;rw [h1,zT (by decide),hj'];refine ⟨?_,Int.le_refl 1,?_⟩
   .unfold plc;rw [zT (show kP id s d (id,s,d,1)=true from aN0.2 ⟨rfl,rfl,rfl⟩)]
   .rw [h3] at hu;omega
 .rw [h5] at hx ⊢;rw [bGp (bRm h2 _)]
  by_cases hij:i=j
  .subst hij;rw [cHg (cEj.1 h2).1] at hx;simp only [Option.some.injEq] at hx;subst hx;obtain ⟨a,b,c⟩:=h i y h2;obtain ⟨k1,k2,k3⟩:=aN0.1 h3;simp only;rw [k1,k2,k3] at a c ⊢;rw [h4] at hu;have hw:wr (y.2.2.2+1)=y.2.2.2+1:=wri (by omega) (by omega);rw [hw];exact ⟨a,by omega,by omega⟩
  .rw [List.getElem?_set_ne hij] at hx;exact h j x hx
def rr (id s d now:Int):lRs->Int
 | []=>0
 | x::l=>if x.1==id&&(atR x s d&&decide (now<=x.2.2.2.2)) then x.2.2.2.1 else rr id s d now l
theorem bFs (l:lRs) (id s d now:Int):aC0 l id s d now=rr id s d now l:=by
 unfold aC0;have : ∀ (l:lRs) (k:Nat),(match bY (fun _ (x:den tRs)=>if x.1==id&&(atR x s d&&decide (now<=x.2.2.2.2)) then some x.2.2.2.1 else none) k l with
  | some r=>r
  | none=>0)=rr id s d now l:=by
  intro l
  induction l with
  | nil=>intro k;rfl
  | cons x l ih=>
   intro k;cases hp:(x.1==id&&(atR x s d&&decide (now<=x.2.2.2.2))) with
   | true=>simp only [bY,rr,hp,zV]
   | false=>simp only [bY,rr,hp];exact ih (k+1)
 exact this l 0
theorem bJj {id s d now:Int}: ∀ {l:lRs},(∀ x∈l,(0:Int)<=x.2.2.2.1/\(20:Int)>=x.2.2.2.1)->0<=rr id s d now l/\rr id s d now l<=20
 | [],_=>by simp [rr]
 | x::l,h=>by
  have ih:=bJj (id:=id) (s:=s) (d:=d) (now:=now) (l:=l) fun y hy=>h y (cEp _ hy)
  have hx:=h x (by simp);unfold rr;split<;>omega
theorem bSo {s d now:Int}: ∀ {l:lRs},rs s d now l=0\/ ∃ x∈l,x.2.1=s/\x.2.2.1=d
 | []=> .inl rfl
 | x::l=>by
  by_cases ha:atR x s d=true
  .unfold atR at ha;simp only [cEe,beq_iff_eq] at ha;exact .inr ⟨x,by simp,ha⟩
  .rcases bSo (s:=s) (d:=d) (now:=now) (l:=l) with h | ⟨y,hy,h⟩
   .left;unfold rs;rw [h];simp [ha]
   .exact .inr ⟨y,cEp _ hy,h⟩
theorem tK.rs_le {l:lRs} {cap now:Int} (h:tK l cap now) (hc:0<=cap) (s d:Int):rs s d now l<=cap:=by
 rcases bSo (s:=s) (d:=d) (now:=now) (l:=l) with h0 | ⟨x,hx,h1,h2⟩
 .omega
 .have :=h.rate x hx;rw [h1,h2] at this;exact this
theorem bV3 {l:lRs} {cap now:Int} (h:tK l cap now) (hc:1<=cap/\cap<=20) (s d:Int):free l cap s d now=cap - rs s d now l:=by
 have h1:=h.rs_le (by omega) s d;have h2:=aTh (s:=s) (d:=d) (now:=now) (yN h.val);unfold free;rw [aPd (yN h.val) (by have :=h.len;omega),show wr (cap - rs s d now l)=cap - rs s d now l from wri (by omega) (by omega)];split<;>omega
structure OkS (g:den tSc) (now:Int):Prop where
 lo:(1:Int)<=g.1
 hi:(20:Int)>=g.1
 res:tK g.2.1 g.1 now
 use:aU8 g now
theorem bWt {g:den tSc} {now:Int}:aBh g now=true↔OkS g now:=by
 rw [bIp,bQt];exact ⟨fun ⟨a,b,c,d⟩=>⟨a,b,c,d⟩,fun ⟨a,b,c,d⟩=>⟨a,b,c,d⟩⟩
theorem OkS.rate_le {g:den tSc} {now:Int} (h:OkS g now) (id s d:Int):0<=pO g id s d now/\pO g id s d now<=20:=by
 unfold pO;split
 .rw [bV3 h.res ⟨h.lo,h.hi⟩];have h1:=h.res.rs_le (by have :=h.lo;omega) s d;have h2:=aTh (s:=s) (d:=d) (now:=now) (yN h.res.val);have :=h.hi;omega
 .rw [bFs];exact bJj (yN h.res.val)
abbrev cCj (p:Int×Bool×lRs×lUs):den tSc:=(p.1,p.2.2.1,p.2.2.2)
theorem OkS.trans {g:den tSc} {now:Int} (h:OkS g now) (id s d:Int):OkS (cCj (lC g id s d now)) now:=by
 unfold lC;split
 .rename_i hu;exact ⟨h.lo,h.hi,h.res,h.use.more hu (by have :=h.rate_le id s d;omega)⟩
 .split
  .rename_i hu;exact ⟨h.lo,h.hi,h.res,h.use.more hu (by have :=h.rate_le 0 s d;omega)⟩
  .exact h
theorem bHj (g:den tSc) (id s d now:Int):(lC g id s d now).2.2.1=g.2.1/\(lC g id s d now).1=g.1/\(lC g id s d now).2.2.2.length<=g.2.2.length+1:=by
 unfold lC;split
 .exact ⟨rfl,rfl,aJx ..⟩
 .split
  .exact ⟨rfl,rfl,aJx ..⟩
  .exact ⟨rfl,rfl,by simp⟩
theorem OkS.pw {g:den tSc} {now:Int} (h:OkS g now):g.2.2.Pairwise fun x y=>kP x.1 x.2.1 x.2.2.1 y=false:=by
 rw [cGe];intro i j hi hj hij;cases hs:kP g.2.2[i].1 g.2.2[i].2.1 g.2.2[i].2.2.1 g.2.2[j] with
 | false=>rfl
 | true=>
  obtain ⟨k1,k2,k3⟩:=aN0.1 hs;have a:=(h.use i _ (cEb hi)).1;have b:=(h.use j _ (cEb hj)).1;rw [k1,k2,k3,a] at b;omega
theorem bFk {l:lRs} {x:den tRs} {cap now:Int} (h:l.length<=1000000): ∃ b,aBi l x cap now=some (b,admR l x cap now):=by
 have hf:(l.filter fun y=> !iE x y).length<=1000000:=cEa (cGa ..) h;unfold aBi admR pj5 zz4;rw [show ((x.1,x.2.1,x.2.2.1,x.2.2.2.1,x.2.2.2.2):den tRs)=x from rfl,aW1 (by omega),aA,aZx,aA,bA2 (by omega),aA];rw [aE (b:=40) (by decide) (by simp;omega),aE (b:=40) (by decide) (by omega)];cases c1:wH x
 .exact ⟨false,by simp⟩
 .cases c2:decide (x.2.2.2.2<now)
  .cases c3:decide (wr (rate (l.filter fun y=> !iE x y) x.2.1 x.2.2.1 now+x.2.2.2.1)>cap)
   .cases c4:decide (((l.filter fun y=> !iE x y).length:Int)>=40)
    .exact ⟨true,by simp only [cEc,zY,zZ,aA,cF0,cEg,zU]⟩
    .exact ⟨false,by simp [aA]⟩
   .exact ⟨false,by simp [aA]⟩
  .exact ⟨false,by simp [aA]⟩
theorem aW3 {code:List Int} (hl:code.length<=1048576) {c:List Int} {p h:Int} (hc:Cur code (c,p,h)): ∃ a b d r u c' p' h',sK (c,p,h)=some (a,b,d,r,u,c',p',h')/\Cur code (c',p',h'):=by
 obtain ⟨v1,c1,p1,h1,e1,_,k1⟩:=aM hl (n:=5) (by decide) (by decide) hc;obtain ⟨v2,c2,p2,h2,e2,_,k2⟩:=aM hl (n:=4) (by decide) (by decide) k1;obtain ⟨v3,c3,p3,h3,e3,_,k3⟩:=aM hl (n:=3) (by decide) (by decide) k2;obtain ⟨v4,c4,p4,h4,e4,_,k4⟩:=aM hl (n:=4) (by decide) (by decide) k3;obtain ⟨v5,c5,p5,h5,e5,_,k5⟩:=aM hl (n:=30) (by decide) (by decide) k4;refine ⟨wr (1+v1),v2,wr (1+v3),wr (1+v4),wr (40+v5),c5,p5,h5,?_,k5⟩;unfold sK pj3;simp only [e1,e2,e3,e4,e5,aA]
theorem bRi {v:Int} (h:v∈[(8:Int),8,4,12]):gF v=some (v,[],[]):=by
 unfold gF;rw [fQ,aA];simp only [cEh,cE1,or_false] at h;rcases h with rfl | rfl | rfl | rfl<;>rfl
theorem bEx {v:Int} (h:v∈[(8:Int),8,4,12]):1<=v/\v<=20:=by
 simp only [cEh,cE1,or_false] at h;rcases h with rfl | rfl | rfl | rfl<;>decide
theorem bRg (cap now:Int):tK [] cap now:=⟨by simp,fun x hx=>(cE1 hx).elim,fun x hx=>(cE1 hx).elim,List.Pairwise.nil⟩
def bH2 (code:List Int) (o:Option (Int×lRs×lUs×List Int×q31)):Prop:= ∃ cap l us c' p' h',o=some (cap,l,us,c',p',h')/\OkS (cap,l,us) 45/\us.length<=12/\Cur code (c',p',h')
theorem bPq {code:List Int} (hl:code.length<=1048576) {c:List Int} {p h:Int} (hc:Cur code (c,p,h)):bH2 code (aAg (c,p,h)):=by
 obtain ⟨cap,c1,p1,h1,e1,hcap,k1⟩:=uE hl (l:=[(8:Int),8,4,12]) (by decide) (by decide) hc;obtain ⟨v2,c2,p2,h2,e2,hv2,k2⟩:=aM hl (n:=6) (by decide) (by decide) k1;unfold aAg dd one pj3 pj4 pj5 pj6 zz4 zz5;simp only [e1,aA,bRi hcap,e2,aT,bF,aX,aY,bA];obtain ⟨n2,rfl⟩:=cE0 hv2.1;refine tV (G:=bH2 code) (fun (n:Nat) (s:Int×Int×lRs×List Int×q31)=>s.1=(n:Int)/\n<=12/\s.2.1=cap/\tK s.2.2.1 cap 45/\Cur code s.2.2.2) (fun (r:Int×lRs×List Int×q31)=>r.1=cap/\tK r.2.1 cap 45/\Cur code r.2.2) ?_ n2 _ ⟨rfl,by omega,rfl,bRg ..,k2⟩ ?_
 .rintro n ⟨i,cap',l,c3,p3,h3⟩ ⟨i1,i2,i3,i4,i5⟩
  simp only at i1 i2 i3 i4 i5;subst i1 i3;cases n with
  | zero=>exact .inl ⟨_,rfl,rfl,i4,i5⟩
  | succ n=>
   right;obtain ⟨a,b,d,r,u,c4,p4,h4,e4,k4⟩:=aW3 hl i5;obtain ⟨bb,ea⟩:=bFk (l:=l) (x:=(a,b,d,r,u)) (cap:=cap') (now:=45) (by have :=i4.len;omega);refine ⟨n,((n:Int),cap',admR l (a,b,d,r,u) cap' 45,c4,p4,h4),by omega,?_,rfl,by omega,rfl,i4.admR _,k4⟩;simp only [zX (show ((n+1:Nat):Int)>0 by omega),zZ,e4,aA,ea];rw [show wr (((n+1:Nat):Int) - 1)=(n:Int) from by rw [show wr (((n+1:Nat):Int) - 1)=((n+1:Nat):Int) - 1 from wri (by omega) (by omega)];omega]
 .rintro ⟨cap',l,c3,p3,h3⟩ ⟨i1,i2,i3⟩
  simp only at i1 i2 i3;subst i1;obtain ⟨v5,c5,p5,h5,e5,hv5,k5⟩:=aM hl (n:=12) (by decide) (by decide) i3;simp only [e5,aA];obtain ⟨n5,rfl⟩:=cE0 hv5.1;refine tV (G:=bH2 code) (fun (n:Nat) (s:Int×Int×lRs×lUs×List Int×q31)=>s.1=(n:Int)/\OkS (s.2.1,s.2.2.1,s.2.2.2.1) 45/\s.2.2.2.1.length+n<=12/\Cur code s.2.2.2.2) (fun (r:Int×lRs×lUs×List Int×q31)=>OkS (r.1,r.2.1,r.2.2.1) 45/\r.2.2.1.length<=12/\Cur code r.2.2.2) ?_ n5 _ ⟨rfl,⟨(bEx hcap).1,(bEx hcap).2,i2,fun j x hj=>by simp at hj⟩,by simp;omega,k5⟩ ?_
  .rintro n ⟨i,cap',l,us,c6,p6,h6⟩ ⟨i1,i2,i3,i4⟩
   simp only at i1 i2 i3 i4;subst i1;cases n with
   | zero=>exact .inl ⟨_,rfl,i2,by simpa using i3,i4⟩
   | succ n=>
    right;obtain ⟨v7,c7,p7,h7,e7,hv7,k7⟩:=aM hl (n:=5) (by decide) (by decide) i4;obtain ⟨v8,c8,p8,h8,e8,hv8,k8⟩:=aM hl (n:=3) (by decide) (by decide) k7;obtain ⟨v9,c9,p9,h9,e9,hv9,k9⟩:=aM hl (n:=2) (by decide) (by decide) k8;have et:=aV2 (g:=(cap',l,us)) (id:=v7) (s:=v8) (d:=wr (1+v9)) (now:=45) (by have :=i2.res.len;simp only at this;show l.length<=_;omega) (by show us.length<=_;omega);have hk:=i2.trans v7 v8 (wr (1+v9));obtain ⟨g1,g2,g3⟩:=bHj (cap',l,us) v7 v8 (wr (1+v9)) 45;refine ⟨n,((n:Int),(lC (cap',l,us) v7 v8 (wr (1+v9)) 45).1,(lC (cap',l,us) v7 v8 (wr (1+v9)) 45).2.2.1,(lC (cap',l,us) v7 v8 (wr (1+v9)) 45).2.2.2,c9,p9,h9),by omega,?_,rfl,hk,by simp only at g3 ⊢;omega,k9⟩;simp only [zX (show ((n+1:Nat):Int)>0 by omega),zZ,e7,e8,e9,aA,et];rw [show wr (((n+1:Nat):Int) - 1)=(n:Int) from by rw [show wr (((n+1:Nat):Int) - 1)=((n+1:Nat):Int) - 1 from wri (by omega) (by omega)];omega]
  .rintro ⟨cap',l,us,c6,p6,h6⟩ ⟨i1,i2,i3⟩
   exact ⟨_,_,_,_,_,_,rfl,i1,i2,i3⟩
theorem bRn {code:List Int} (hl:code.length<=1048576) {c:List Int} {p h:Int} (hc:Cur code (c,p,h)): ∃ a b d r u c' p' h',aCi (c,p,h)=some (a,b,d,r,u,c',p',h')/\Cur code (c',p',h'):=by
 obtain ⟨a,b,d,r,u,c1,p1,h1,e1,k1⟩:=aW3 hl hc;obtain ⟨v,c2,p2,h2,e2,_,k2⟩:=aM hl (n:=12) (by decide) (by decide) k1;unfold aCi pj3 pj8 zz4 zz5;simp only [e1,e2,aA];cases d0:(v==(0:Int)) with
 | true=>
  obtain ⟨w,c3,p3,h3,e3,_,k3⟩:=uE hl (l:=[(0:Int),(100000:Int),(100001:Int)]) (by decide) (by decide) k2;exact ⟨w,b,d,r,u,c3,p3,h3,by simp only [zZ,e3,aA],k3⟩
 | false=>
  cases d1:(v==(1:Int)) with
  | true=>
   obtain ⟨w,c3,p3,h3,e3,_,k3⟩:=uE hl (l:=[(0:Int),(20:Int),(21:Int),(-1:Int)]) (by decide) (by decide) k2;exact ⟨a,b,d,w,u,c3,p3,h3,by simp only [zZ,zY,e3,aA],k3⟩
  | false=>
   cases d2:(v==(2:Int)) with
   | true=>
    obtain ⟨w,c3,p3,h3,e3,_,k3⟩:=uE hl (l:=[(0:Int),(7:Int)]) (by decide) (by decide) k2;exact ⟨a,b,w,r,u,c3,p3,h3,by simp only [zZ,zY,e3,aA],k3⟩
   | false=>exact ⟨a,b,d,r,u,c2,p2,h2,by simp only [zY,aA],k2⟩
theorem bG1 {a b:lRs} (h:a.length<=1073741824): ∃ v,tP a b=some v/\(a=b->v=true):=by
 unfold tP zz4
 by_cases hn:a.length=b.length
 .rw [hn,bne_self_eq_false,zY,<- hn];refine tV (G:=fun o=> ∃ v,o=some v/\(a=b->v=true)) (fun (n:Nat) (s:Int)=> ∃ k:Nat,s=(k:Int)/\k+n=a.length) (fun (r:Unit⊕Bool)=>a=b->r= .inl ()) ?_ a.length _ ⟨0,rfl,by omega⟩ ?_
  .rintro n _ ⟨k,rfl,hk⟩
   cases n with
   | zero=>exact .inl ⟨.inl (),by simp only [zW (show ¬ (k:Int)<(a.length:Int) by omega),zY],fun _=>rfl⟩
   | succ n=>
    have h1:k<a.length:=by omega
    have h2:k<b.length:=by omega
    simp only [zX (show (k:Int)<(a.length:Int) by omega),zZ,aH,cEb h1,cEb h2,aA];cases hc:((a[k].1==b[k].1)&&((a[k].2.1==b[k].2.1)&&((a[k].2.2.1==b[k].2.2.1)&&((a[k].2.2.2.1==b[k].2.2.2.1)&&((a[k].2.2.2.2==b[k].2.2.2.2)&&true))))) with
    | true=>
     refine .inr ⟨n,((k+1:Nat):Int),by omega,?_,k+1,rfl,by omega⟩;simp only [cEc,zY];rw [show wr ((k:Int)+1)=((k+1:Nat):Int) from by rw [show wr ((k:Int)+1)=(k:Int)+1 from wri (by omega) (by omega)];omega]
    | false=>
     refine .inl ⟨.inr false,by simp only [cEm,zZ],fun e=> ?_⟩;subst e;simp at hc
  .intro r hr;cases r with
   | inl u=>exact ⟨true,rfl,fun _=>rfl⟩
   | inr v=>exact ⟨v,rfl,fun e=>by cases hr e⟩
 .rw [show ((a.length:Int) != (b.length:Int))=true by rw [bne_iff_ne];omega,zZ];exact ⟨false,rfl,fun e=>absurd (congrArg cEo e) hn⟩
theorem bP2 {a b:den tSc} (h1:a.2.1.length<=1073741824) (h2:a.2.2.length<=1073741824): ∃ v,sB a b=some v/\(a=b->v=true):=by
 obtain ⟨v1,e1,k1⟩:=bG1 (b:=b.2.1) h1;unfold sB;rw [e1,aA];cases hc:(a.1 != b.1) with
 | true=>exact ⟨false,rfl,fun e=>by subst e;simp at hc⟩
 | false=>
  cases v1 with
  | false=>exact ⟨false,rfl,fun e=>by subst e;cases k1 rfl⟩
  | true=>
   by_cases hn:a.2.2.length=b.2.2.length
   .simp only [zY,cEc,hn,bne_self_eq_false,aA];rw [<- hn];refine tV (G:=fun o=> ∃ v,o=some v/\(a=b->v=true)) (fun (n:Nat) (s:Int)=> ∃ k:Nat,s=(k:Int)/\k+n=a.2.2.length) (fun (r:Unit⊕Bool)=>a=b->r= .inl ()) ?_ a.2.2.length _ ⟨0,rfl,by omega⟩ ?_
    .rintro n _ ⟨k,rfl,hk⟩
     cases n with
     | zero=>exact .inl ⟨.inl (),by simp only [zW (show ¬ (k:Int)<(a.2.2.length:Int) by omega),zY],fun _=>rfl⟩
     | succ n=>
      have h3:k<a.2.2.length:=by omega
      have h4:k<b.2.2.length:=by omega
      simp only [zX (show (k:Int)<(a.2.2.length:Int) by omega),zZ,aH,cEb h3,cEb h4,aA];cases hc:((a.2.2[k].1==b.2.2[k].1)&&((a.2.2[k].2.1==b.2.2[k].2.1)&&((a.2.2[k].2.2.1==b.2.2[k].2.2.1)&&((a.2.2[k].2.2.2==b.2.2[k].2.2.2)&&true)))) with
      | true=>
       refine .inr ⟨n,((k+1:Nat):Int),by omega,?_,k+1,rfl,by omega⟩;simp only [cEc,zY];rw [show wr ((k:Int)+1)=((k+1:Nat):Int) from by rw [show wr ((k:Int)+1)=(k:Int)+1 from wri (by omega) (by omega)];omega]
      | false=>
       refine .inl ⟨.inr false,by simp only [cEm,zZ],fun e=> ?_⟩;subst e;simp at hc
    .intro r hr;cases r with
     | inl u=>exact ⟨true,rfl,fun _=>rfl⟩
     | inr v=>exact ⟨v,rfl,fun e=>by cases hr e⟩
   .simp only [zY,cEc,aA];rw [show ((a.2.2.length:Int) != (b.2.2.length:Int))=true by rw [bne_iff_ne];omega,zZ];exact ⟨false,rfl,fun e=>absurd (by rw [e]) hn⟩
theorem bKw {a:den tSc} (h1:a.2.1.length<=1073741824) (h2:a.2.2.length<=1073741824):sB a a=some true:=by
 obtain ⟨v,e,k⟩:=bP2 (b:=a) h1 h2;rw [e,k rfl]
theorem aFt {l:List Int} {n x:Int} (h:x∈rH l n):x=n\/x∈l:=by
 unfold rH at h;split at h
 .exact .inr h
 .simp only [cEl,cEk] at h;rcases h with (h | h) | h
  .exact .inr (cF3 h)
  .exact .inl h
  .exact .inr (cF2 h)
theorem bL3 {r d:Int} {x:den tLk} {a:List Int} (h:d∈qB r x a):dH x r d=true\/d∈a:=by
 unfold qB at h;unfold dH;cases c1:x.1==r<;>cases c2:x.2.2.1==r<;>rw [c1,c2] at h<;>simp only [zZ,zY] at h
 .exact .inr h
 .rcases aFt h with e | h
  .left;simp [e]
  .exact .inr h
 .rcases aFt h with e | h
  .left;simp [e]
  .exact .inr h
 .rcases aFt h with e | h
  .left;simp [e]
  .rcases aFt h with e | h
   .left;simp [e]
   .exact .inr h
theorem bKj {t:den tTo} {r d:Int} (h:d∈gV t r): ∃ x∈t.2,dH x r d=true:=by
 have : ∀ (l:lLk) (k:Nat) (a:List Int),d∈bZ (fun _ x a=>qB r x a) k l a->(∃ x∈l,dH x r d=true)\/d∈a:=by
  intro l
  induction l with
  | nil=>intro k a h;exact .inr h
  | cons x l ih=>
   intro k a h;rcases ih (k+1) (qB r x a) h with ⟨y,hy,e⟩ | h
   .exact .inl ⟨y,cEp _ hy,e⟩
   .rcases bL3 h with e | h
    .exact .inl ⟨x,by simp,e⟩
    .exact .inr h
 rcases this t.2 0 [] h with h | h
 .exact h
 .cases h
theorem bA4 {t:den tTo} {r d:Int} (h: ∃ x∈t.2,dH x r d=true): ∃ (j:Nat) (x:den tLk),rK t r d=(j:Int)/\t.2[j]? =some x/\dH x r d=true:=by
 rcases aGp t r d with e | h
 .exfalso;have : ∀ (l:lLk) (k:Nat),(∃ x∈l,dH x r d=true)-> ∃ i,bY (fun k x=>if dH x r d then some ((k:Nat):Int) else none) k l=some i/\0<=i:=by
   intro l
   induction l with
   | nil=>rintro k ⟨x,hx,_⟩;cases hx
   | cons y l ih=>
    rintro k ⟨x,hx,hxe⟩
    cases c:dH y r d with
    | true=>exact ⟨(k:Int),by simp [bY,c],by omega⟩
    | false=>
     rcases cEh.1 hx with rfl | hx
     .rw [c] at hxe;cases hxe
     .obtain ⟨i,h1,h2⟩:=ih (k+1) ⟨x,hx,hxe⟩;exact ⟨i,by simp only [bY,c];exact h1,h2⟩
  obtain ⟨i,h1,h2⟩:=this t.2 0 h;unfold rK at e;rw [h1] at e;have e:i= -1:=e;omega
 .exact h
theorem bLs {t:den tTo} (hv: ∀ x∈t.2,aBw t x=true) {r d:Int} (h:d∈gV t r):cN t (remote t r d).1=true:=by
 obtain ⟨j,x,e,hx,he⟩:=bA4 (bKj h);have hl:=hv x (cEn hx);unfold remote;rw [e,zS (by omega),cEf,hx];unfold aBw at hl;simp only [cEe] at hl;unfold bGc;simp only [cE3];cases x.1==r&&x.2.1==d with
 | true=>exact hl.2.1
 | false=>exact hl.1
theorem bKf {t:den tTo} {r k:Int} (h:t.2.length<=1000000): ∃ l,jF t r k=some l/\l.length<=2 * t.2.length/\ ∀ d∈l,d∈gV t r:=by
 have hd:=aGk t r;unfold jF ixb pj2;rw [show ((t.1,t.2):den tTo)=t from rfl,aPx (t:=t) (by omega),aA];refine gZ (G:=fun o=> ∃ l,o=some l/\l.length<=2 * t.2.length/\ ∀ d∈l,d∈gV t r) (gV t r).length (fun s:Int×List Int=>s.1) (fun i s=>s.2.length<=i/\ ∀ d∈s.2,d∈gV t r) (fun l:List Int=>l.length<=2 * t.2.length/\ ∀ d∈l,d∈gV t r) ?_ ?_ 0 ((0:Int),[]) (by omega) rfl ⟨by simp,fun d hd=>(cE1 hd).elim⟩ (fun l hl=>⟨l,rfl,hl⟩)
 .rintro i ⟨_,l⟩ hi rfl ⟨h1,h2⟩
  right;simp only at h1 h2;simp only [zX (show (i:Int)<((gV t r).length:Int) by omega),zX (show (0:Int)<=(i:Int) by omega),zZ,cEf,cEb hi,aA,aVy (t:=t) (show t.2.length<=68719476736 by omega),cR (show i<=1000000000 by omega)];rw [aE (b:=8) (n:=l.length) (m:=1) (by decide) (by omega),zZ];cases aDt t r (gV t r)[i]==k with
  | true=>exact ⟨_,rfl,rfl,by simp;omega,fun d hd=>by
    rcases cEl.1 hd with hd | hd
    .exact h2 d hd
    .rw [cEk.1 hd];exact cFi hi⟩
  | false=>exact ⟨_,rfl,rfl,by show l.length<=i+1;omega,h2⟩
 .rintro ⟨_,l⟩ rfl ⟨h1,h2⟩
  exact ⟨l,by simp only [zW (cE2 _),zY],by simp only at h1;omega,h2⟩
theorem aJz (l:List Int) (n:Int):n∈rH l n:=by
 unfold rH;split
 .next h=>exact cEn h
 .simp
theorem aFx {l:List Int} {n x:Int} (h:x∈l):x∈rH l n:=by
 unfold rH;split
 .exact h
 .rw [<- List.take_append_drop (lS l n) l] at h;simp only [cEl,cEk] at h ⊢;rcases h with h | h
  .exact .inl (.inl h)
  .exact .inr h
theorem bQx {l:List Int} {n:Int} (h:n∉l):(rH l n).length=l.length+1:=by
 unfold rH;rw [zS (fun e=>h (cEn e))];have :=aWg l n;simp;omega
theorem bLj {r d:Int} {x:den tLk} {a:List Int} (h:d∈a):d∈qB r x a:=by
 unfold qB;cases x.2.2.1==r<;>cases x.1==r<;>simp only [zZ,zY]
 .exact h
 .exact aFx h
 .exact aFx h
 .exact aFx (aFx h)
theorem bLl {r d:Int} {x:den tLk} {a:List Int} (h:dH x r d=true):d∈qB r x a:=by
 unfold dH at h;unfold qB;simp only [cFq,cEe] at h;rcases h with ⟨h1,h2⟩ | ⟨h1,h2⟩
 .rw [h1,eq_of_beq h2];cases x.2.2.1==r<;>simp only [zZ,zY]
  .exact aJz _ _
  .exact aFx (aJz _ _)
 .rw [h1,eq_of_beq h2];cases x.1==r<;>simp only [zZ,zY]<;>exact aJz _ _
theorem aMa (as:lAS) (ls:lLk) (r:Int):gV (as,ls) r=ls.foldl (fun a x=>qB r x a) []:=sM (fun a x=>qB r x a) ls 0 []
theorem bMs {as:lAS} {ls:lLk} {r d:Int} {x:den tLk} (hx:x∈ls) (h:dH x r d=true):d∈gV (as,ls) r:=by
 rw [aMa];have keep: ∀ (l:lLk) (a:List Int),d∈a->d∈l.foldl (fun a x=>qB r x a) a:=by
  intro l
  induction l with
  | nil=>exact fun a h=>h
  | cons y l ih=>exact fun a h=>ih _ (bLj h)
 have : ∀ (l:lLk) (a:List Int),x∈l->d∈l.foldl (fun a x=>qB r x a) a:=by
  intro l
  induction l with
  | nil=>exact fun a h=>(cE1 h).elim
  | cons y l ih=>
   intro a hm;rcases cEh.1 hm with rfl | hm
   .exact keep l _ (bLl h)
   .exact ih _ hm
 exact this ls [] hx
structure tG (ls:lLk):Prop where
 num: ∀ r d:Int,d∈gV ([],ls) r->1<=d/\d<=((gV ([],ls) r).length:Int)
 pw:ls.Pairwise fun y x=>dH y x.1 x.2.1=false/\dH y x.2.2.1 x.2.2.2.1=false
theorem bGt:tG []:=⟨fun r d h=>(cE1 h).elim,List.Pairwise.nil⟩
theorem tG.no {ls:lLk} (h:tG ls) {y:den tLk} (hy:y∈ls) (r:Int):dH y r (((gV ([],ls) r).length:Int)+1)=false:=by
 cases e:dH y r (((gV ([],ls) r).length:Int)+1) with
 | false=>rfl
 | true=>have :=(h.num r _ (bMs hy e)).2;omega
theorem tG.grow {L:List Int} (h: ∀ d∈L,(1:Int)<=d/\d<=(L.length:Int)): ∀ d∈rH L ((L.length:Int)+1),(1:Int)<=d/\d<=((rH L ((L.length:Int)+1)).length:Int):=by
 have hn:((L.length:Int)+1)∉L:=fun e=>by have :=(h _ e).2;omega
 rw [bQx hn];intro d hd;rcases aFt hd with rfl | hd
 .omega
 .have :=h d hd;omega
theorem tG.snoc {ls:lLk} (h:tG ls) {a b:Int} (hab:a≠b) (k:Int):tG (ls++[(a,((gV ([],ls) a).length:Int)+1,b,((gV ([],ls) b).length:Int)+1,k)]):=by
 constructor
 .intro r;rw [aMa,List.foldl_append,<- aMa];show ∀ d,d∈qB r _ _->_/\_<=((qB r _ _).length:Int)
  unfold qB
  by_cases ha:a=r
  .subst ha;have hb:(b==a)=false:=by simp;exact fun e=>hab e.symm
   simp only [hb,beq_self_eq_true,zZ,zY];exact tG.grow (h.num a)
  .have ha':(a==r)=false:=by simpa using ha
   by_cases hb:b=r
   .subst hb;simp only [ha',beq_self_eq_true,zZ,zY];exact tG.grow (h.num b)
   .have hb':(b==r)=false:=by simpa using hb
    simp only [ha',hb',zY];exact h.num r
 .rw [cHs];refine ⟨h.pw,List.pairwise_singleton _ _,fun y hy x hx=> ?_⟩;rw [cEk.1 hx];exact ⟨h.no hy a,h.no hy b⟩
theorem aJi {t:den tTo} {a b k:Int} (h:t.2.length<=1000000) (hab:a≠b) (hf:tG t.2): ∃ ls,wU t a b k=some (t.1,ls)/\ls.length<=t.2.length+1/\tG ls:=by
 have la:=aGk t a;have lb:=aGk t b;unfold wU pj2;rw [show ((t.1,t.2):den tTo)=t from rfl,aPx (t:=t) (by omega),aPx (t:=t) (by omega),aA,aA,aE (b:=40) (n:=t.2.length) (m:=1) (by decide) (by omega)];have w1:wr (((gV t a).length:Int)+1)=((gV t a).length:Int)+1:=bN (by omega) (by omega);have w2:wr (((gV t b).length:Int)+1)=((gV t b).length:Int)+1:=bN (by omega) (by omega);cases decide (wr (((gV t a).length:Int)+1)<=6) with
 | false=>exact ⟨t.2,rfl,by omega,hf⟩
 | true=>
  cases decide (wr (((gV t b).length:Int)+1)<=6) with
  | false=>exact ⟨t.2,rfl,by omega,hf⟩
  | true=>
   refine ⟨t.2++[(a,wr (((gV t a).length:Int)+1),b,wr (((gV t b).length:Int)+1),k)],rfl,by simp,?_⟩;rw [w1,w2];exact hf.snoc hab k
def AsI (as:lAS):Prop:= ∀ (j:Nat) (x:den tAS),as[j]? =some x->((0:Int)<=x.1/\(1:Int)>=x.1)/\ ∃ v:Int,0<=v/\v<1000000/\1+8 * v+(j:Int)=x.2.2
theorem bXd:AsI []:=fun j x h=>by simp at h
theorem AsI.snoc {as:lAS} (h:AsI as) {d v:Int} {b:Bool} (hd:0<=d/\1>=d) (hv:0<=v/\v<1000000):AsI (as++[(d,b,1+8 * v+(as.length:Int))]):=by
 intro j x hx;rw [List.getElem?_append] at hx;split at hx
 .exact h j x hx
 .next hj=>
  have hj0:j - as.length=0:=by
   have :=(cEj.1 hx).1;simp at this;omega
  rw [hj0] at hx;simp only [cHa,Option.some.injEq] at hx;subst hx;exact ⟨hd,v,hv.1,hv.2,by show 1+8 * v+(j:Int)=1+8 * v+(as.length:Int);omega⟩
theorem AsI.set {as:lAS} (h:AsI as) {i q:Nat} (hi:i<as.length) (hq:q<as.length):AsI (as.set i (as[q].1,as[i].2.1,as[i].2.2)):=by
 intro j x hx;rw [List.getElem?_set] at hx;split at hx
 .next e=>
  subst e;simp only [hi,zV,Option.some.injEq] at hx;subst hx;exact ⟨(h q as[q] (cEb hq)).1,(h i as[i] (cEb hi)).2⟩
 .exact h j x hx
theorem bFe {α:Type} (p:Nat->α->Bool) {l:List α} (h: ∀ (j:Nat) (x:α),l[j]? =some x->p j x=true):(l.zipIdx 0).all (fun z=>p z.2 z.1)=true:=by
 rw [cE6]
 rintro ⟨x,j⟩ hm
 exact h j x (by simpa using List.mem_zipIdx_iff_getElem?.1 hm)
theorem aOv {α:Type} {l:List α} {j:Nat} {y:α} (h:y∈l.take j): ∃ i,i<j/\l[i]? =some y:=by
 obtain ⟨i,hi⟩:=cG4.1 h;rw [cFs] at hi;split at hi
 .next c=>exact ⟨i,c,hi⟩
 .cases hi
theorem bV7 {as:lAS} {ls:lLk} (h1:1<=as.length) (h8:as.length<=8) (ha:AsI as) (hv: ∀ x∈ls,aBw (as,ls) x=true) (hp:ls.Pairwise fun y x=>dH y x.1 x.2.1=false/\dH y x.2.2.1 x.2.2.2.1=false):aE7 (as,ls)=true:=by
 unfold aE7;rw [cEe,cEe];refine ⟨?_,?_,?_⟩
 .simp only [inR,cEe,zR];omega
 .refine bFe (asP (as,ls)) (l:=as) fun j x hx=> ?_
  obtain ⟨⟨a0,a1⟩,v,v0,v1,v2⟩:=ha j x hx;have hj:j<as.length:=(cEj.1 hx).1;have v2:1+8 * v+(j:Int)=x.2.2:=v2;unfold asP;simp only [cEe,inR,zR];refine ⟨⟨a0,show (2:Int)>=x.1 by omega⟩,⟨show (1:Int)<=x.2.2 by omega,show (2147483646:Int)>=x.2.2 by omega⟩,cE6.2 fun y hy=> ?_⟩;obtain ⟨i,hi,hy⟩:=aOv hy;obtain ⟨_,w,w0,w1,w2⟩:=ha i y hy;have w2:1+8 * w+(i:Int)=y.2.2:=w2;have :x.2.2≠y.2.2:=fun e=>by
   have e:1+8 * v+(j:Int)=1+8 * w+(i:Int):=v2.trans (e.trans w2.symm);omega
  simpa using this
 .refine bFe (lkP (as,ls)) (l:=ls) fun j x hx=> ?_
  unfold lkP;rw [cEe];refine ⟨hv x (cEn hx),cE6.2 fun y hy=> ?_⟩;obtain ⟨i,hi,hy⟩:=aOv hy;obtain ⟨hi',ei⟩:=cEj.1 hy;obtain ⟨hj',ej⟩:=cEj.1 hx;have :=(cGe.1 hp) i j hi' hj' hi;rw [ei,ej] at this;simp [this.1,this.2]
structure aEs (as:lAS) (ls:lLk):Prop where
 pos:1<=as.length
 len:as.length<=8
 links:ls.length<=100
 val: ∀ x∈ls,aBw (as,ls) x=true
 top:aE7 (as,ls)=true
def bCh (code:List Int) (o:Option (lAS×lLk×List Int×q31)):Prop:= ∃ as ls c' p' h',o=some (as,ls,c',p',h')/\aEs as ls/\Cur code (c',p',h')
def T3I (code:List Int) (n:Nat) (i:Nat) (s:Int×lAS×lLk×List Int×q31):Prop:=(s.2.1.length=n/\AsI s.2.1/\tG s.2.2.1)/\s.2.2.1.length<=10 * i/\Cur code s.2.2.2
theorem aVr {code:List Int} (hl:code.length<=1048576) {c:List Int} {p h:Int} (hc:Cur code (c,p,h)):bCh code (uI (c,p,h)):=by
 obtain ⟨v1,c1,p1,h1,e1,r1,k1⟩:=aM hl (n:=3) (by decide) (by decide) hc;obtain ⟨v2,c2,p2,h2,e2,r2,k2⟩:=aM hl (n:=6) (by decide) (by decide) k1;obtain ⟨m1,rfl⟩:=cE0 r1.1;obtain ⟨m2,rfl⟩:=cE0 r2.1;have w1:wr ((1:Int)+(m1:Int))=((m1+1:Nat):Int):=by rw [bN (by omega) (by omega)];omega
 have w2:wr (((m1+1:Nat):Int)+(m2:Int))=((m1+1+m2:Nat):Int):=by rw [bN (by omega) (by omega)];omega
 unfold uI ixb pj2 pj3 pj4 pj5;simp only [e1,e2,aA,aT,bF,aX,aY,bA,w1,w2];generalize hco:m1+1=co at *;generalize hn:co+m2=n at *;have hco1:1<=co:=by omega
 have hcn:co<=n:=by omega
 have hn8:n<=8:=by omega
 refine gZ (G:=bCh code) n (fun s:Int×lAS×List Int×Int×Int=>s.1) (fun i s=>(s.2.1.length=i/\AsI s.2.1)/\Cur code s.2.2) (fun r:lAS×List Int×Int×Int=>(r.1.length=n/\AsI r.1)/\Cur code r.2) ?_ ?_ 0 ((0:Int),[],c2,p2,h2) (by omega) rfl ⟨⟨rfl,bXd⟩,k2⟩ ?_
 .rintro i ⟨_,as,c3,p3,h3⟩ hi rfl ⟨⟨a1,a3⟩,a2⟩
  simp only at a1 a2 a3;right;obtain ⟨v4,c4,p4,h4,e4,r4,k4⟩:=aM hl (n:=2) (by decide) (by decide) a2;obtain ⟨v5,c5,p5,h5,e5,r5,k5⟩:=aJr hl (n:=1000000) (by decide) k4;refine ⟨(((i+1:Nat):Int),as++[(v4,decide ((i:Int)<((co:Nat):Int)),wr ((wr ((1:Int)+(wr (v5 * (8:Int)))))+(i:Int)))],c5,p5,h5),?_,rfl,⟨by simp [a1],?_⟩,k5⟩;simp only [zX (show (i:Int)<(n:Int) by omega),zZ,e4,e5,aA,aE (b:=24) (n:=as.length) (m:=1) (by decide) (by omega),cR (show i<=1000000000 by omega)];have e:wr ((wr ((1:Int)+(wr (v5 * (8:Int)))))+(i:Int))=1+8 * v5+(as.length:Int):=by
   rw [bN (n:=v5 * 8) (by omega) (by omega),bN (n:=1+v5 * 8) (by omega) (by omega),bN (by omega) (by omega)];omega
  show AsI (as++[_]);rw [e];exact a3.snoc ⟨by omega,by omega⟩ ⟨by omega,by omega⟩
 .rintro ⟨_,as,c3,p3,h3⟩ rfl ⟨a1,a2⟩
  exact ⟨(as,c3,p3,h3),by simp only [zW (cE2 _),zY],a1,a2⟩
 rintro ⟨as,c3,p3,h3⟩ ⟨⟨a1,a3⟩,a2⟩
 simp only at a1 a2 a3;refine gZ (G:=bCh code) co (fun s:Int×lAS×lLk×List Int×Int×Int=>s.1) (fun i s=>1<=i/\T3I code n i s) (fun r:lAS×lLk×List Int×Int×Int=>(r.1.length=n/\AsI r.1/\tG r.2.1)/\r.2.1.length<=10 * co/\Cur code r.2.2) ?_ ?_ 1 ((1:Int),as,[],c3,p3,h3) hco1 rfl ⟨cEr 1,⟨a1,a3,bGt⟩,by simp,a2⟩ ?_
 .rintro i ⟨_,as,ls,c4,p4,h4⟩ hi rfl ⟨b0,b1,b2,b3⟩
  simp only at b1 b2 b3;right;obtain ⟨v5,c5,p5,h5,e5,r5,k5⟩:=aM hl (n:=(i:Int)) (by omega) (by omega) b3;obtain ⟨l6,e6,r6,f6⟩:=aJi (t:=(as,ls)) (a:=v5) (b:=(i:Int)) (k:=1) (by show ls.length<=_;omega) (by omega) b1.2.2;obtain ⟨v7,c7,p7,h7,e7,k7⟩:=pR hl (n:=2) (by decide) (by decide) k5;simp only at e6 r6;cases v7 with
  | false=>
   refine ⟨(((i+1:Nat):Int),as,l6,c7,p7,h7),?_,rfl,by omega,⟨b1.1,b1.2.1,f6⟩,by simp only;omega,k7⟩;simp only [zX (show (i:Int)<(co:Int) by omega),zZ,zY,e5,e6,e7,aA,cR (show i<=1000000000 by omega)]
  | true=>
   obtain ⟨v8,c8,p8,h8,e8,r8,k8⟩:=aM hl (n:=(i:Int)) (by omega) (by omega) k7;obtain ⟨l9,e9,r9,f9⟩:=aJi (t:=(as,l6)) (a:=v8) (b:=(i:Int)) (k:=1) (by show l6.length<=_;omega) (by omega) f6;simp only at e9 r9;refine ⟨(((i+1:Nat):Int),as,l9,c8,p8,h8),?_,rfl,by omega,⟨b1.1,b1.2.1,f9⟩,by simp only;omega,k8⟩;simp only [zX (show (i:Int)<(co:Int) by omega),zZ,e5,e6,e7,e8,e9,aA,cR (show i<=1000000000 by omega)]
 .rintro ⟨_,as,ls,c4,p4,h4⟩ rfl ⟨b0,b1,b2,b3⟩
  exact ⟨(as,ls,c4,p4,h4),by simp only [zW (cE2 _),zY],b1,b2,b3⟩
 rintro ⟨as,ls,c4,p4,h4⟩ ⟨b1,b2,b3⟩
 simp only at b1 b2 b3;refine gZ (G:=bCh code) n (fun s:Int×lAS×lLk×List Int×Int×Int=>s.1) (fun i s=>1<=i/\co<=i/\T3I code n i s) (fun r:lAS×lLk×List Int×Int×Int=>(r.1.length=n/\AsI r.1/\tG r.2.1)/\r.2.1.length<=10 * n/\Cur code r.2.2) ?_ ?_ co (((co:Nat):Int),as,ls,c4,p4,h4) hcn rfl ⟨hco1,cEr co,b1,b2,b3⟩ ?_
 .rintro i ⟨_,as,ls,c5,p5,h5⟩ hi rfl ⟨d0,d1,⟨d2,d5,d6⟩,d3,d4⟩
  simp only at d2 d3 d4 d5 d6;right;have hlen:(as.length:Int)=(n:Int):=by omega
  obtain ⟨v6,c6,p6,h6,e6,r6,k6⟩:=aM hl (n:=2) (by decide) (by decide) d4;obtain ⟨m6,rfl⟩:=cE0 r6.1;have w6:wr ((1:Int)+(m6:Int))=((m6+1:Nat):Int):=by rw [bN (by omega) (by omega)];omega
  simp only [hlen,zX (show (i:Int)<(n:Int) by omega),zZ,e6,w6,aA,Option.bind_assoc];refine tV (G:=fun o=> ∃ s',o=some (cD9 s')/\s'.1=((i+1:Nat):Int)/\1<=i+1/\co<=i+1/\T3I code n (i+1) s') (fun (m:Nat) (s:Int×lAS×lLk×List Int×q31)=>s.1=(m:Int)/\m<=2/\(s.2.1.length=n/\AsI s.2.1/\tG s.2.2.1)/\s.2.2.1.length+m<=10 * i+2/\Cur code s.2.2.2) (fun r:lAS×lLk×List Int×Int×Int=>(r.1.length=n/\AsI r.1/\tG r.2.1)/\r.2.1.length<=10 * i+2/\Cur code r.2.2) ?_ (m6+1) (((m6+1:Nat):Int),as,ls,c6,p6,h6) ⟨rfl,by omega,⟨d2,d5,d6⟩,by simp only;omega,k6⟩ ?_
  .rintro m ⟨_,as,ls,c7,p7,h7⟩ ⟨rfl,f1,⟨f2,f5,f6⟩,f3,f4⟩
   simp only at f2 f3 f4 f5 f6;cases m with
   | zero=>exact .inl ⟨(as,ls,c7,p7,h7),rfl,⟨f2,f5,f6⟩,by simpa using f3,f4⟩
   | succ m=>
    right;obtain ⟨v8,c8,p8,h8,e8,r8,k8⟩:=aM hl (n:=(i:Int)) (by omega) (by omega) f4;obtain ⟨q8,rfl⟩:=cE0 r8.1;obtain ⟨v9,c9,p9,h9,e9,k9⟩:=pR hl (n:=5) (by decide) (by decide) k8;have hq:q8<n:=by omega
    have hlen:(as.length:Int)=(n:Int):=by omega
    have hq1:as[q8]? =some (as[q8]'(by omega)):=cEb (by omega);have hi1:as[i]? =some (as[i]'(by omega)):=cEb (by omega);have wm:wr (((m+1:Nat):Int) - 1)=(m:Int):=by rw [bN (by omega) (by omega)];omega
    have fin: ∀ (as':lAS) (c p h:_),as'.length=n->AsI as'->Cur code (c,p,h)-> ∃ s',(Option.bind (cond (decide ((0:Int)<=(q8:Int))) (cond (decide ((q8:Int)<(as'.length:Int))) (Option.bind as'[((q8:Nat):Int).toNat]? fun x79=>cond (decide ((0:Int)<=(i:Int))) (cond (decide ((i:Int)<(as'.length:Int))) (Option.bind as'[((i:Nat):Int).toNat]? fun x80=>cond (x79.1==x80.1) (Option.bind (wU (as',ls) (q8:Int) (i:Int) (2:Int)) fun y81=>some (y81.1,y81.2,c,p,h)) (some (as',ls,c,p,h))) none) none) none) none) fun (s82:lAS×lLk×List Int×q31)=>some (cD9 (wr (((m+1:Nat):Int) - (1:Int)),s82.1,s82.2.1,s82.2.2.1,s82.2.2.2.1,s82.2.2.2.2)):Option ((Int×lAS×lLk×List Int×q31)⊕(lAS×lLk×List Int×q31)))=some (cD9 s')/\s'.1=(m:Int)/\m<=2/\(s'.2.1.length=n/\AsI s'.2.1/\tG s'.2.2.1)/\s'.2.2.1.length+m<=10 * i+2/\Cur code s'.2.2.2:=by
     intro as' c p h g1 g3 g2;have hl':(as'.length:Int)=(n:Int):=by omega
     have hq1:as'[q8]? =some (as'[q8]'(by omega)):=cEb (by omega);have hi1:as'[i]? =some (as'[i]'(by omega)):=cEb (by omega);simp only [hl',zX (show (0:Int)<=(q8:Int) by omega),zX (show (q8:Int)<(n:Int) by omega),zX (show (0:Int)<=(i:Int) by omega),zX (show (i:Int)<(n:Int) by omega),zZ,cEf,hq1,hi1,aA,wm];obtain ⟨l6,e6,r6,z6⟩:=aJi (t:=(as',ls)) (a:=(q8:Int)) (b:=(i:Int)) (k:=2) (by show ls.length<=_;omega) (by omega) f6;simp only at e6 r6;cases (as'[q8]'(by omega)).1==(as'[i]'(by omega)).1 with
     | true=>exact ⟨_,by simp only [zZ,e6,aA];rfl,rfl,by omega,⟨g1,g3,z6⟩,by simp only;omega,g2⟩
     | false=>exact ⟨_,by simp only [zY,aA];rfl,rfl,by omega,⟨g1,g3,f6⟩,by simp only;omega,g2⟩
    cases v9 with
    | true=>
     obtain ⟨s',g1,g2⟩:=fin as c9 p9 h9 f2 f5 k9;refine ⟨m,s',by omega,?_,g2⟩;rw [<- g1];simp only [zX (show ((m+1:Nat):Int)>0 by omega),zZ,zY,e8,e9,aA,cEc]
    | false=>
     obtain ⟨s',g1,g2⟩:=fin (as.set i ((as[q8]'(by omega)).1,(as[i]'(by omega)).2.1,(as[i]'(by omega)).2.2)) c9 p9 h9 (by simp [f2]) (f5.set (by omega) (by omega)) k9;refine ⟨m,s',by omega,?_,g2⟩;rw [<- g1];simp only [zX (show ((m+1:Nat):Int)>0 by omega),zZ,e8,e9,aA,cEm,hlen,zX (show (0:Int)<=(q8:Int) by omega),zX (show (q8:Int)<(n:Int) by omega),zX (show (0:Int)<=(i:Int) by omega),zX (show (i:Int)<(n:Int) by omega),cEf,hq1,hi1]
  .rintro ⟨as,ls,c7,p7,h7⟩ ⟨⟨f1,f5,f6⟩,f2,f3⟩
   simp only at f1 f2 f3 f5 f6;have w7:wr (wr ((i:Int) - (co:Int))+1)=((i - co+1:Nat):Int):=by rw [bN (n:=(i:Int) - (co:Int)) (by omega) (by omega),bN (by omega) (by omega)];omega
   obtain ⟨v8,c8,p8,h8,e8,r8,k8⟩:=aM hl (n:=((i - co+1:Nat):Int)) (by omega) (by omega) f3;obtain ⟨v9,c9,p9,h9,e9,k9⟩:=pR hl (n:=3) (by decide) (by decide) k8;simp only [w7,e8,aA,cR (show i<=1000000000 by omega)];cases hlt:decide (wr ((co:Int)+v8)<(i:Int)) with
   | false=>exact ⟨_,by simp only [zY,aA];rfl,rfl,by omega,by omega,⟨f1,f5,f6⟩,by simp only;omega,k8⟩
   | true=>
    have hlt':=of_decide_eq_true hlt;obtain ⟨l6,e6,r6,z6⟩:=aJi (t:=(as,ls)) (a:=wr ((co:Int)+v8)) (b:=(i:Int)) (k:=3) (by show ls.length<=_;omega) (by omega) f6;simp only at e6 r6;cases v9 with
    | false=>exact ⟨_,by simp only [zZ,zY,e9,aA];rfl,rfl,by omega,by omega,⟨f1,f5,f6⟩,by simp only;omega,k9⟩
    | true=>exact ⟨_,by simp only [zZ,e9,e6,aA];rfl,rfl,by omega,by omega,⟨f1,f5,z6⟩,by simp only;omega,k9⟩
 .rintro ⟨_,as,ls,c5,p5,h5⟩ rfl ⟨d0,d1,⟨d2,d5⟩,d3,d4⟩
  simp only at d2 d3 d4 d5;exact ⟨(as,ls,c5,p5,h5),by simp only [d2,zW (cE2 _),zY],⟨d2,d5⟩,d3,d4⟩
 rintro ⟨as,ls,c5,p5,h5⟩ ⟨⟨d2,d5,d6⟩,d3,d4⟩
 simp only at d2 d3 d4 d5 d6;refine gZ (G:=bCh code) ls.length (fun s:Int×lLk=>s.1) (fun i s=>(s.2.length<=i/\List.Sublist s.2 (ls.take i))/\ ∀ x∈s.2,aBw (as,ls) x=true) (fun r:lLk=>(r.length<=ls.length/\List.Sublist r ls)/\ ∀ x∈r,aBw (as,ls) x=true) ?_ ?_ 0 ((0:Int),[]) (by omega) rfl ⟨⟨by simp,List.nil_sublist _⟩,fun d hd=>(cE1 hd).elim⟩ ?_
 .rintro i ⟨_,l⟩ hi rfl ⟨⟨g1,g3⟩,g2⟩
  simp only at g1 g2 g3;right;have htk:ls.take (i+1)=ls.take i++[ls[i]]:=(List.take_append_getElem hi).symm;simp only [zX (show (i:Int)<(ls.length:Int) by omega),zX (show (0:Int)<=(i:Int) by omega),zZ,cEf,cEb hi,aA,bEz (t:=(as,ls)) (show as.length<=68719476736 by omega),cR (show i<=1000000000 by omega)];rw [aE (b:=40) (n:=l.length) (m:=1) (by decide) (by omega),zZ];cases hv:aBw (as,ls) ls[i] with
  | true=>exact ⟨_,rfl,rfl,⟨by simp;omega,by rw [htk];exact g3.append (List.Sublist.refl _)⟩,fun x hx=>by
    rcases cEl.1 hx with hx | hx
    .exact g2 x hx
    .rw [cEk.1 hx];exact hv⟩
  | false=>exact ⟨_,rfl,rfl,⟨by show l.length<=i+1;omega,by rw [htk];exact g3.trans (List.sublist_append_left _ _)⟩,g2⟩
 .rintro ⟨_,l⟩ rfl ⟨⟨g1,g3⟩,g2⟩
  exact ⟨l,by simp only [zW (cE2 _),zY],⟨g1,g3.trans (List.take_sublist _ _)⟩,g2⟩
 rintro l ⟨⟨g1,g3⟩,g2⟩
 exact ⟨as,l,c5,p5,h5,rfl,⟨by omega,by omega,by omega,g2,bV7 (by omega) (by omega) d5 g2 (d6.pw.sublist g3)⟩,d4⟩
theorem bAk {s:den tSg} (h:s.2.2.length<=1000000): ∃ l,dY s=some l/\l.length=s.2.2.length:=by
 unfold dY;refine gZ (G:=fun o=> ∃ l,o=some l/\l.length=s.2.2.length) s.2.2.length (fun s:Int×List Int=>s.1) (fun i t=>t.2.length=i) (fun l:List Int=>l.length=s.2.2.length) ?_ ?_ 0 ((0:Int),[]) (by omega) rfl rfl (fun l hl=>⟨l,rfl,hl⟩)
 .rintro i ⟨_,l⟩ hi rfl h1
  simp only at h1;right;refine ⟨(((i+1:Nat):Int),l++[s.2.2[i].1]),?_,rfl,by simp [h1]⟩;simp only [zX (show (i:Int)<(s.2.2.length:Int) by omega),zZ,aH,cEb hi,aA,aE (b:=8) (n:=l.length) (m:=1) (by decide) (by omega),cR (show i<=1000000000 by omega)]
 .rintro ⟨_,l⟩ rfl h1
  exact ⟨l,by simp only [zW (cE2 _),zY],h1⟩
theorem bJh {s:den tSg} {n:Nat} (hn:n<=s.2.2.length) (h:s.2.2.length<=1000000): ∃ l,rB s (n:Int)=some l/\l.length=n:=by
 unfold rB zz4;refine gZ (G:=fun o=> ∃ l,o=some l/\l.length=n) n (fun s:Int×List Int=>s.1) (fun i t=>t.2.length=i) (fun l:List Int=>l.length=n) ?_ ?_ 0 ((0:Int),[]) (by omega) rfl rfl (fun l hl=>⟨l,rfl,hl⟩)
 .rintro i ⟨_,l⟩ hi rfl h1
  simp only at h1;right;have hi':i<s.2.2.length:=by omega
  refine ⟨(((i+1:Nat):Int),l++[s.2.2[i].2.2.2.2]),?_,rfl,by simp [h1]⟩;simp only [zX (show (i:Int)<(n:Int) by omega),zZ,aH,cEb hi',aA,aE (b:=8) (n:=l.length) (m:=1) (by decide) (by omega),cR (show i<=1000000000 by omega)]
 .rintro ⟨_,l⟩ rfl h1
  exact ⟨l,by simp only [zW (cE2 _),zY],h1⟩
theorem bJw {b:Int} {l:List Int} (h:l.length<=1000000): ∃ v,sI b l=some v:=by
 unfold sI;refine gZ (G:=fun o=> ∃ v,o=some v) l.length (fun s:Int×Int=>s.2) (fun i t=>True) (fun v:Int=>True) ?_ ?_ 0 (b,(0:Int)) (by omega) rfl trivial (fun v hv=>⟨v,rfl⟩)
 .rintro i ⟨v,_⟩ hi rfl _
  right;refine ⟨(aKf v l[i],((i+1:Nat):Int)),?_,rfl,trivial⟩;simp only [zX (show (i:Int)<(l.length:Int) by omega),zZ,aH,cEb hi,aA,aSu,cR (show i<=1000000000 by omega)]
 .rintro ⟨v,_⟩ rfl _
  exact ⟨v,by simp only [zW (cE2 _),zY],trivial⟩
theorem aQ0 {s:den tSg} (i:Int) (h:s.2.2.length<=1000000): ∃ v,iP s i=some v:=by
 unfold iP pj3;rw [fQ,aA];cases hc:inR i 0 (s.2.2.length:Int) with
 | false=>exact ⟨0,rfl⟩
 | true=>
  obtain ⟨h0,h1⟩:=bQ.1 hc;obtain ⟨n,rfl⟩:=cE0 h0;obtain ⟨l,e,k⟩:=bJh (s:=s) (n:=n) (by omega) h;obtain ⟨v,e2⟩:=bJw (b:=s.2.1) (l:=l) (by omega);refine ⟨v,?_⟩;show Option.bind (rB s (n:Int)) _=_;rw [e,aA,e2,aA]
theorem bB2 (key ts b:Int) (h:den bU):fX key ts b h=some (h.1,h.2.1,h.2.2.1,h.2.2.2.1,aJ9 key ts b h):=by
 unfold fX pj5;rw [show ((h.1,h.2.1,h.2.2.1,h.2.2.2.1,h.2.2.2.2):den bU)=h from rfl,bNb,aA]
def cD0 (code:List Int) (o:Option (Int×Int×cF×List Int×q31)):Prop:= ∃ a b hs c' p' h',o=some (a,b,hs,c',p',h')/\hs.length<=5/\Cur code (c',p',h')
def aLk (hs:cF):Prop:= ∀ x∈hs,(0:Int)<=x.1/\(8:Int)>x.1
def cD2 (code:List Int) (o:Option (Int×Int×cF×List Int×q31)):Prop:= ∃ a b hs c' p' h',o=some (a,b,hs,c',p',h')/\(hs.length<=5/\aLk hs)/\Cur code (c',p',h')
theorem aLk.snoc {hs:cF} {x:den bU} (h:aLk hs) (hx:(0:Int)<=x.1/\(8:Int)>x.1):aLk (hs++[x]):=fun y hy=>(cEl.1 hy).elim (h y) fun hy=>by rw [cEk.1 hy];exact hx
def InN (n:Int) (hs:cF):Prop:= ∀ x∈hs,(0:Int)<=x.1/\n>x.1
def bPj (n:Int) (code:List Int) (o:Option (Int×Int×cF×List Int×q31)):Prop:= ∃ a b hs c' p' h',o=some (a,b,hs,c',p',h')/\(hs.length<=5/\InN n hs)/\Cur code (c',p',h')
theorem InN.snoc {n:Int} {hs:cF} {x:den bU} (h:InN n hs) (hx:(0:Int)<=x.1/\n>x.1):InN n (hs++[x]):=fun y hy=>(cEl.1 hy).elim (h y) fun hy=>by rw [cEk.1 hy];exact hx
theorem InN.as {n:Int} {hs:cF} (h:InN n hs) (hn:n<=8):aLk hs:=fun x hx=>⟨(h x hx).1,by have :=(h x hx).2;omega⟩
abbrev GrS:=Int×Int×Int×Int×Int×cF×List Int×Int×Int
theorem bEg {code:List Int} (hl:code.length<=1048576) {as:lAS} {ls:lLk} (ht:aEs as ls) (k:Int) {c:List Int} {p h:Int} (hc:Cur code (c,p,h)):bPj (as.length:Int) code (kO (c,p,h) (as,ls) k):=by
 have hlen:=ht.len;have hlk:=ht.links;unfold kO dd ixb one pj2 pj3 pj5 pj6 zz4 zz5 zz6;simp only [aT,bF,aX,aY,bA];refine gZ (G:=bPj (as.length:Int) code) as.length (fun s:Int×List Int=>s.1) (fun i t=>t.2.length<=i/\ ∀ x∈t.2,0<=x/\x<(as.length:Int)) (fun r:List Int=>r.length<=8/\ ∀ x∈r,0<=x/\x<(as.length:Int)) ?_ ?_ 0 ((0:Int),[]) (by omega) rfl ⟨by simp,fun d hd=>(cE1 hd).elim⟩ ?_
 .rintro i ⟨_,l⟩ hi rfl ⟨g1,g2⟩
  simp only at g1 g2;right;simp only [zX (show (i:Int)<(as.length:Int) by omega),zZ,aH,cEb hi,aA,aE (b:=8) (n:=l.length) (m:=1) (by decide) (by omega),cR (show i<=1000000000 by omega)];cases as[i].2.1 with
  | true=>exact ⟨_,rfl,rfl,by simp;omega,fun x hx=>by
    rcases cEl.1 hx with hx | hx
    .exact g2 x hx
    .rw [cEk.1 hx];omega⟩
  | false=>exact ⟨_,rfl,rfl,by show l.length<=i+1;omega,g2⟩
 .rintro ⟨_,l⟩ rfl ⟨g1,g2⟩
  exact ⟨l,by simp only [zW (cE2 _),zY],by simp only at g1;omega,g2⟩
 rintro cores ⟨g1,g2⟩
 obtain ⟨v1,c1,p1,h1,e1,r1,k1⟩:=aM hl (n:=50) (by decide) (by decide) hc;obtain ⟨v2,c2,p2,h2,e2,r2,k2⟩:=aJr hl (n:=1000000) (by decide) k1;simp only [e1,e2,aA]
 by_cases h0:cores.length=0
 .rw [show ((cores.length:Int)==0)=true by rw [beq_iff_eq];omega,zZ];exact ⟨_,_,_,_,_,_,rfl,⟨by simp,fun x hx=>(cE1 hx).elim⟩,k2⟩
 rw [show ((cores.length:Int)==0)=false by rw [beq_eq_false_iff_ne];omega,zY];obtain ⟨v3,c3,p3,h3,e3,r3,k3⟩:=aM hl (n:=(cores.length:Int)) (by omega) (by omega) k2;obtain ⟨m3,rfl⟩:=cE0 r3.1;have hm3:m3<cores.length:=by omega
 have hr:=g2 cores[m3] (cFi hm3);simp only [e3,aA,zX (show (0:Int)<=(m3:Int) by omega),zX (show (m3:Int)<(cores.length:Int) by omega),zZ,cEf,cEb hm3];generalize cores[m3]=r at hr;refine gZ (G:=bPj (as.length:Int) code) 5 (fun s:GrS=>s.2.2.1) (fun i s=>(0<=s.1/\s.1<(as.length:Int))/\(s.2.2.2.2.2.1.length=i/\InN (as.length:Int) s.2.2.2.2.2.1)/\Cur code s.2.2.2.2.2.2) (fun z:((Int×Int×cF×List Int×q31)⊕(Int×Int×cF×List Int×q31))=> ∃ a b hs c p h,(z= .inl (a,b,hs,c,p,h)\/z= .inr (a,b,hs,c,p,h))/\(hs.length<=5/\InN (as.length:Int) hs)/\Cur code (c,p,h)) ?_ ?_ 0 (r,(0:Int),(0:Int),v1,v2,[],c3,p3,h3) (by omega) rfl ⟨hr,⟨rfl,fun x hx=>(cE1 hx).elim⟩,k3⟩ ?_
 .rintro i ⟨r,inn,_,ts,be,hs,c4,p4,h4⟩ hi rfl ⟨b1,⟨b2,b2'⟩,b3⟩
  simp only at b1 b2 b2' b3;obtain ⟨rn,rfl⟩:=cE0 b1.1;have hrn:rn<as.length:=by omega
  obtain ⟨ds,ek,dl,dm⟩:=bKf (t:=(as,ls)) (r:=(rn:Int)) (k:=k) (by show ls.length<=_;omega);have dl:ds.length<=2 * ls.length:=dl;have hout: ∃ out c5 p5 h5,(Option.bind (cond (decide ((ds.length:Int)>(0:Int))) (Option.bind (cG (c4,p4,h4) (5:Int)) fun y35=>some (!y35.1,y35.2.1,y35.2.2.1,y35.2.2.2)) (some (false,c4,p4,h4))) fun (s36:Bool×List Int×q31)=>cond s36.1 (Option.bind (aB (s36.2.1,s36.2.2.1,s36.2.2.2) (ds.length:Int)) fun y37=>cond (decide ((0:Int)<=y37.1)) (cond (decide (y37.1<(ds.length:Int))) (Option.bind ds[y37.1.toNat]? fun x38=>some (x38,y37.2.1,y37.2.2.1,y37.2.2.2)) none) none) (some ((0:Int),s36.2.1,s36.2.2.1,s36.2.2.2)):Option (Int×List Int×q31))=some (out,c5,p5,h5)/\(out=0\/out∈gV (as,ls) (rn:Int))/\Cur code (c5,p5,h5):=by
   by_cases hd:(ds.length:Int)>0
   .obtain ⟨v5,c5,p5,h5,e5,k5⟩:=pR hl (n:=5) (by decide) (by decide) b3;simp only [zX hd,zZ,e5,aA];cases v5 with
    | true=>exact ⟨0,c5,p5,h5,rfl,.inl rfl,k5⟩
    | false=>
     obtain ⟨v6,c6,p6,h6,e6,r6,k6⟩:=aM hl (n:=(ds.length:Int)) hd (by omega) k5;obtain ⟨m6,rfl⟩:=cE0 r6.1;have hm6:m6<ds.length:=by omega
     exact ⟨ds[m6],c6,p6,h6,by simp only [cEm,zZ,e6,aA,zX (show (0:Int)<=(m6:Int) by omega),zX (show (m6:Int)<(ds.length:Int) by omega),cEf,cEb hm6],.inr (dm _ (cFi hm6)),k6⟩
   .exact ⟨0,c4,p4,h4,by simp only [zW hd,zY,aA],.inl rfl,b3⟩
  obtain ⟨out,c5,p5,h5,eo,ho,k5⟩:=hout;obtain ⟨al,ea,hal⟩:=bAk (s:=(ts,be,hs)) (by show hs.length<=_;omega);have hal:al.length=hs.length:=hal;have er:=aI0 (t:=(as,ls)) (r:=(rn:Int)) (d:=out) (show ls.length<=68719476736 by omega);have hfar:out∈gV (as,ls) (rn:Int)->0<=(remote (as,ls) (rn:Int) out).1/\(remote (as,ls) (rn:Int) out).1<(as.length:Int):=fun hd=>by
   have :=bLs (t:=(as,ls)) ht.val hd;unfold cN at this;obtain ⟨h0,h1⟩:=bQ.1 this;exact ⟨h0,by simp only at h1;omega⟩
  generalize remote (as,ls) (rn:Int) out=fd at er hfar;obtain ⟨far,door⟩:=fd;simp only at hfar;obtain ⟨bb,eb⟩: ∃ b:Bool,(cond (out != (0:Int)) (Option.bind (dY (ts,be,hs)) fun y41=>Option.bind (gD y41 far) fun y42=>cond y42 (some true) (cond (far==(rn:Int)) (some true) (some (inn==out)))) (some (inn==out)))=some b:=by
   rw [ea,aA,aIw (by omega),aA];cases out != 0<;>cases qC al far<;>cases far==(rn:Int)<;>exact ⟨_,rfl⟩
  obtain ⟨v6,c6,p6,h6,e6,r6,k6⟩:=aM hl (n:=50) (by decide) (by decide) k5;obtain ⟨bt,et⟩:=aQ0 (s:=(ts,be,hs)) (hs.length:Int) (by show hs.length<=_;omega);have ix:as[rn]? =some as[rn]:=cEb hrn;have hap:aG 40 hs.length 1=true:=aE (by decide) (by omega);simp only [zX (show (i:Int)<5 by omega),zZ,ek,aA];rw [eo,aA];simp only [er,aA];rw [eb,aA];have body: ∀ o:Int,o=0\/o=out->(∃ r,(cond (o==(0:Int)) (some (cD8 (cD8 (ts,be,hs++[(((rn:Int),inn,o,wr ((wr (ts+(50:Int)))+v6),aJ9 as[rn].2.2 ts bt ((rn:Int),inn,o,wr ((wr (ts+(50:Int)))+v6),0)):den bU)],c6,p6,h6)))) (some (cD9 (far,door,wr ((i:Int)+(1:Int)),ts,be,hs++[(((rn:Int),inn,o,wr ((wr (ts+(50:Int)))+v6),aJ9 as[rn].2.2 ts bt ((rn:Int),inn,o,wr ((wr (ts+(50:Int)))+v6),0)):den bU)],c6,p6,h6))):Option (GrS⊕((Int×Int×cF×List Int×q31)⊕(Int×Int×cF×List Int×q31))))=some (.inr r)/\(∃ a b hs c p h,(r= .inl (a,b,hs,c,p,h)\/r= .inr (a,b,hs,c,p,h))/\(hs.length<=5/\InN (as.length:Int) hs)/\Cur code (c,p,h)))\/
    ∃ s':GrS,(cond (o==(0:Int)) (some (cD8 (cD8 (ts,be,hs++[(((rn:Int),inn,o,wr ((wr (ts+(50:Int)))+v6),aJ9 as[rn].2.2 ts bt ((rn:Int),inn,o,wr ((wr (ts+(50:Int)))+v6),0)):den bU)],c6,p6,h6)))) (some (cD9 (far,door,wr ((i:Int)+(1:Int)),ts,be,hs++[(((rn:Int),inn,o,wr ((wr (ts+(50:Int)))+v6),aJ9 as[rn].2.2 ts bt ((rn:Int),inn,o,wr ((wr (ts+(50:Int)))+v6),0)):den bU)],c6,p6,h6))):Option (GrS⊕((Int×Int×cF×List Int×q31)⊕(Int×Int×cF×List Int×q31))))=some (.inl s')/\s'.2.2.1=((i+1:Nat):Int)/\(0<=s'.1/\s'.1<(as.length:Int))/\(s'.2.2.2.2.2.1.length=i+1/\InN (as.length:Int) s'.2.2.2.2.2.1)/\Cur code s'.2.2.2.2.2.2:=by
   intro o hoo;cases hz:(o==(0:Int)) with
   | true=>exact .inl ⟨_,rfl,ts,be,_,c6,p6,h6,.inr rfl,⟨by simp;omega,b2'.snoc ⟨by simp only;omega,by simp only;omega⟩⟩,k6⟩
   | false=>
    refine .inr ⟨_,rfl,cR (show i<=1000000000 by omega),?_,⟨by simp [b2],b2'.snoc ⟨by simp only;omega,by simp only;omega⟩⟩,k6⟩;have hne:o≠0:=by simpa using hz
    rcases hoo with h | rfl
    .exact absurd h hne
    .rcases ho with h | h
     .exact absurd h hne
     .exact hfar h
  cases bb with
  | true=>
   cases inn==(0:Int) with
   | true=>exact .inl ⟨_,rfl,ts,be,hs,c5,p5,h5,.inr rfl,⟨by omega,b2'⟩,k5⟩
   | false=>
    have :=body 0 (.inl rfl);simpa only [zZ,zY,aA,cFn,e6,aH,ix,et,bB2,hap] using this
  | false=>
   have :=body out (.inr rfl);simpa only [zZ,zY,aA,cFn,e6,aH,ix,et,bB2,hap] using this
 .rintro ⟨r,inn,_,ts,be,hs,c4,p4,h4⟩ rfl ⟨b1,⟨b2,b2'⟩,b3⟩
  simp only at b1 b2 b2' b3;exact ⟨.inl (ts,be,hs,c4,p4,h4),by simp only [show decide ((((5:Nat):Int))<(5:Int))=false from rfl,zY],ts,be,hs,c4,p4,h4,.inl rfl,⟨by omega,b2'⟩,b3⟩
 .rintro z ⟨a,b,hs,c,p,h,hz,h5,k5⟩
  rcases hz with rfl | rfl
  .exact ⟨a,b,hs,c,p,h,rfl,h5,k5⟩
  .exact ⟨a,b,hs,c,p,h,rfl,h5,k5⟩
theorem bXl {code:List Int} (hl:code.length<=1048576) {as:lAS} {ls:lLk} (ht:aEs as ls) (k:Int) {c:List Int} {p h:Int} (hc:Cur code (c,p,h)):cD2 code (kO (c,p,h) (as,ls) k):=by
 obtain ⟨a,b,hs,c1,p1,h1,e,⟨l,m⟩,k1⟩:=bEg hl ht k hc;exact ⟨a,b,hs,c1,p1,h1,e,⟨l,m.as (by have :=ht.len;omega)⟩,k1⟩
theorem aIg {code:List Int} (hl:code.length<=1048576) {as:lAS} {ls:lLk} (ht:aEs as ls) (k:Int) {c:List Int} {p h:Int} (hc:Cur code (c,p,h)):cD0 code (kO (c,p,h) (as,ls) k):=by
 obtain ⟨a,b,hs,c1,p1,h1,e,⟨l,_⟩,k1⟩:=bXl hl ht k hc;exact ⟨a,b,hs,c1,p1,h1,e,l,k1⟩
theorem bEj {as:lAS} {ls:lLk} (ht:aEs as ls) {s:den tSg} (h:s.2.2.length<=1000): ∃ b,jZ (as,ls) s=some b/\(b=true-> ∃ x,s.2.2[0]? =some x/\cN (as,ls) x.1=true):=by
 obtain ⟨al,ea,hal⟩:=bAk (s:=s) (by omega);have hlen:=ht.len;have hlk:=ht.links;unfold jZ pj2 pj3 pj5;rw [fQ,aA];cases hc:inR (s.2.2.length:Int) 1 8 with
 | false=>exact ⟨false,rfl,fun e=>by cases e⟩
 | true=>
  obtain ⟨h0,h1⟩:=bQ.1 hc;have h00:0<s.2.2.length:=by omega
  have i0:idx s.2.2 (0:Int)=some s.2.2[0]:=by rw [show (0:Int)=((0:Nat):Int) from rfl,aH,cEb h00]
  simp only [cEc,zY,i0,aA];cases s.2.2[0].2.1 != (0:Int) with
  | true=>exact ⟨false,rfl,fun e=>by cases e⟩
  | false=>
   simp only [zY];rw [show ((s.1,s.2.1,s.2.2):den tSg)=s from rfl,ea,aA];refine gZ (G:=fun o=> ∃ b,o=some b/\(b=true-> ∃ x,s.2.2[0]? =some x/\cN (as,ls) x.1=true)) s.2.2.length (fun s:List Int×Int=>s.2) (fun i t=>t.1=al/\(0<i->cN (as,ls) s.2.2[0].1=true)) (fun r:Unit⊕Bool=>r= .inl ()/\cN (as,ls) s.2.2[0].1=true\/r= .inr false) ?_ ?_ 0 (al,(0:Int)) (by omega) rfl ⟨rfl,fun h=>by omega⟩ ?_
   .rintro i ⟨_,_⟩ hi rfl ⟨rfl,g2⟩
    rename_i al;have ix:idx s.2.2 (i:Int)=some s.2.2[i]:=by rw [aH,cEb hi]
    simp only [zX (show (i:Int)<(s.2.2.length:Int) by omega),zZ,ix,aA];rw [show ((s.2.2[i].1,s.2.2[i].2.1,s.2.2[i].2.2.1,s.2.2[i].2.2.2.1,s.2.2[i].2.2.2.2):den bU)=s.2.2[i] from rfl,aMk,aA,aDf (t:=(as,ls)) (show as.length<=_ by omega),aA];have e1:bX (0:Int) (i:Int) (al.length:Int)=true:=aAk (by rw [hal];exact hi);have e2:gD (cut al (0:Int) (i:Int)) s.2.2[i].1=some (qC (cut al (0:Int) (i:Int)) s.2.2[i].1):=aIw (by rw [fR];exact cEa (List.length_take_le _ _) (by omega));obtain ⟨b,eb,hb⟩: ∃ b:Bool,(cond (!(kS s.2.2[i])) (some true) (cond (!(cN (as,ls) s.2.2[i].1)) (some true) (cond (bX (0:Int) (i:Int) (al.length:Int)) (Option.bind (gD (cut al (0:Int) (i:Int)) s.2.2[i].1) fun y20=>cond y20 (some true) (cond (s.2.2[i].2.2.1==(0:Int)) (some (decide ((i:Int)<(wr ((s.2.2.length:Int) - (1:Int)))))) (some false))) none)))=some b/\(b=false->cN (as,ls) s.2.2[i].1=true):=by
     rw [e1,e2,aA];cases kS s.2.2[i]
     .exact ⟨true,rfl,fun e=>by cases e⟩
     .cases cN (as,ls) s.2.2[i].1
      .exact ⟨true,rfl,fun e=>by cases e⟩
      .cases qC (cut al (0:Int) (i:Int)) s.2.2[i].1
       .cases s.2.2[i].2.2.1==(0:Int)
        .exact ⟨false,rfl,fun _=>rfl⟩
        .exact ⟨_,rfl,fun _=>rfl⟩
       .exact ⟨true,rfl,fun _=>rfl⟩
    rw [eb,aA];cases b with
    | true=>exact .inl ⟨.inr false,rfl,.inr rfl⟩
    | false=>
     have hok:=hb rfl
     by_cases hp:i=0
     .subst hp;refine .inr ⟨(al,((1:Nat):Int)),?_,rfl,rfl,fun _=>hok⟩;rfl
     .have hi1:i - 1<s.2.2.length:=by omega
      have w1:wr ((i:Int) - 1)=((i - 1:Nat):Int):=by rw [bN (by omega) (by omega)];omega
      have er:=aI0 (t:=(as,ls)) (r:=s.2.2[i - 1].1) (d:=s.2.2[i - 1].2.2.1) (show ls.length<=68719476736 by omega);simp only [zY,zX (show (i:Int)>0 by omega),zZ,w1,aH,cEb hi1,aA,er];obtain ⟨b2,eb2⟩: ∃ b:Bool,(cond ((remote (as,ls) s.2.2[i - 1].1 s.2.2[i - 1].2.2.1).1 != s.2.2[i].1) (some true) (some ((remote (as,ls) s.2.2[i - 1].1 s.2.2[i - 1].2.2.1).2 != s.2.2[i].2.1)))=some b:=by
       cases (remote (as,ls) s.2.2[i - 1].1 s.2.2[i - 1].2.2.1).1 != s.2.2[i].1<;>exact ⟨_,rfl⟩
      rw [eb2,aA];cases b2 with
      | true=>exact .inl ⟨.inr false,rfl,.inr rfl⟩
      | false=>
       refine .inr ⟨(al,((i+1:Nat):Int)),?_,rfl,rfl,fun _=>g2 (by omega)⟩;simp only [zY,aA,cFn,cR (show i<=1000000000 by omega)]
   .rintro ⟨_,_⟩ rfl ⟨rfl,g2⟩
    exact ⟨.inl (),by simp only [zW (cE2 _),zY],.inl ⟨rfl,g2 h00⟩⟩
   .rintro r (⟨rfl,hr⟩ | rfl)
    .exact ⟨true,rfl,fun _=>⟨s.2.2[0],cEb h00,hr⟩⟩
    .exact ⟨false,rfl,fun e=>by cases e⟩
theorem bVg {as:lAS} {ls:lLk} (ht:aEs as ls) {s:den tSg} (h:s.2.2.length<=1000): ∃ v,iD (as,ls) s=some v:=by
 have hlen:=ht.len;unfold iD pj2 pj3 pj5;refine gZ (G:=fun o=> ∃ b,o=some b) s.2.2.length (fun s:Int=>s) (fun i t=>True) (fun r:Unit⊕Int=>True) ?_ ?_ 0 (0:Int) (by omega) rfl trivial ?_
 .rintro i _ hi rfl _
  obtain ⟨bt,et⟩:=aQ0 (s:=s) (i:Int) (by omega);have et:iP (s.1,s.2.1,s.2.2) (i:Int)=some bt:=et;have ev:=bAb (t:=(as,ls)) (ts:=s.1) (beta:=bt) (h:=s.2.2[i]) (show as.length<=68719476736 by omega);have ev:gR (as,ls) s.1 bt (s.2.2[i].1,s.2.2[i].2.1,s.2.2[i].2.2.1,s.2.2[i].2.2.2.1,s.2.2[i].2.2.2.2)=some _:=ev;simp only [zX (show (i:Int)<(s.2.2.length:Int) by omega),zZ,aH,cEb hi,aA,et,ev,cR (show i<=1000000000 by omega)];cases wP (as,ls) s.1 bt s.2.2[i] with
  | true=>exact .inr ⟨_,rfl,rfl,trivial⟩
  | false=>exact .inl ⟨_,rfl,trivial⟩
 .rintro _ rfl _
  exact ⟨.inl (),by simp only [zW (cE2 _),zY],trivial⟩
 .rintro r _
  cases r with
  | inl u=>exact ⟨_,rfl⟩
  | inr v=>exact ⟨_,rfl⟩
theorem aXg {as:lAS} {ls:lLk} (ht:aEs as ls) {s:den tSg} (h:s.2.2.length<=1000): ∃ v,iF (as,ls) s=some v:=by
 have hlen:=ht.len;have hlk:=ht.links;obtain ⟨b,eb,hb⟩:=bEj ht h;unfold iF pj2 pj3;have eb:jZ (as,ls) (s.1,s.2.1,s.2.2)=some b:=eb;rw [eb,aA];cases b with
 | false=>exact ⟨0,rfl⟩
 | true=>
  obtain ⟨x,hx,hok⟩:=hb rfl;obtain ⟨h0,rfl⟩:=cEj.1 hx;obtain ⟨y,hy,iy⟩:=aGg hok;have ef:dP (s.1,s.2.1,s.2.2)=some s.2.2[0].1:=by
   unfold dP;rw [show ((s.2.2.length:Int)==0)=false by rw [beq_eq_false_iff_ne];omega,zY,show (0:Int)=((0:Nat):Int) from rfl,aH,cEb h0,aA]
  have iy:idx as s.2.2[0].1=some y:=iy;simp only [cEc,zY,ef,iy,aA];cases y.2.1 with
  | false=>exact ⟨0,rfl⟩
  | true=>
   simp only [cEc,zY];refine gZ (G:=fun o=> ∃ b,o=some b) s.2.2.length (fun s:Int×Int=>s.2) (fun i t=>True) (fun r:Int⊕Int=>True) ?_ ?_ 0 ((0:Int),(0:Int)) (by omega) rfl trivial ?_
   .rintro i ⟨k,_⟩ hi rfl _
    have ek:=aVy (t:=(as,ls)) (r:=s.2.2[i].1) (d:=s.2.2[i].2.2.1) (show ls.length<=68719476736 by omega);simp only [zX (show (i:Int)<(s.2.2.length:Int) by omega),zZ,aH,cEb hi,aA,ek,cR (show i<=1000000000 by omega)];cases s.2.2[i].2.2.1==(0:Int) with
    | true=>exact .inr ⟨_,rfl,rfl,trivial⟩
    | false=>
     cases k != (0:Int) with
     | false=>exact .inr ⟨_,rfl,rfl,trivial⟩
     | true=>
      simp only [zZ,zY,aA];cases aDt (as,ls) s.2.2[i].1 s.2.2[i].2.2.1 != k with
      | true=>exact .inl ⟨_,rfl,trivial⟩
      | false=>exact .inr ⟨_,rfl,rfl,trivial⟩
   .rintro ⟨k,_⟩ rfl _
    exact ⟨.inl k,by simp only [zW (cE2 _),zY],trivial⟩
   .rintro r _
    cases r with
    | inr v=>exact ⟨_,rfl⟩
    | inl v=>
     simp only [cFn];cases v==(1:Int)
     .cases v==(2:Int)<;>exact ⟨_,rfl⟩
     .exact ⟨_,rfl⟩
theorem bGj {as:lAS} {ls:lLk} (ht:aEs as ls) {s:den tSg} (h:s.2.2.length<=1000): ∃ b,mU (as,ls) s=some b/\(b=true->s.2.2≠[]):=by
 obtain ⟨b,eb,hb⟩:=bEj ht h;have hb:b=true->s.2.2≠[]:=fun e he=>by
  obtain ⟨x,hx,_⟩:=hb e;rw [he] at hx;cases hx
 obtain ⟨v,ev⟩:=bVg ht h;obtain ⟨k,ek⟩:=aXg ht h;have eb:jZ (as,ls) (s.1,s.2.1,s.2.2)=some b:=eb;have ev:iD (as,ls) (s.1,s.2.1,s.2.2)=some v:=ev;have ek:iF (as,ls) (s.1,s.2.1,s.2.2)=some k:=ek;unfold mU pj2 pj3;simp only [eb,ev,ek,fQ,aFp,aA];cases b
 .exact ⟨_,rfl,fun e=>Bool.noConfusion e⟩
 .have hb:=hb rfl;cases decide (v<0)
  .exact ⟨_,rfl,fun _=>hb⟩
  .cases k != (0:Int)
   .exact ⟨_,rfl,fun _=>hb⟩
   .cases inR s.1 0 1000000<;>exact ⟨_,rfl,fun _=>hb⟩
theorem bQ6 {s:den tSg} (h:s.2.2.length<=1000): ∃ b,mR s=some b:=by
 unfold mR
 by_cases h0:(s.2.2.length:Int)>0
 .have w1:wr ((s.2.2.length:Int) - 1)=((s.2.2.length - 1:Nat):Int):=by rw [bN (by omega) (by omega)];omega
  rw [zX h0,zZ,w1,aH,cEb (by omega),aA,aA];exact ⟨_,rfl⟩
 .rw [zW h0,zY];exact ⟨_,rfl⟩
theorem bGo {a b:cF} (h:a.length<=1000000): ∃ v,jV a b=some v:=by
 unfold jV zz4
 by_cases hn:a.length=b.length
 .rw [hn,bne_self_eq_false,zY,<- hn];refine gZ (G:=fun o=> ∃ b,o=some b) a.length (fun s:Int=>s) (fun i t=>True) (fun r:Unit⊕Bool=>True) ?_ ?_ 0 (0:Int) (by omega) rfl trivial ?_
  .rintro i _ hi rfl _
   have h2:i<b.length:=by omega
   simp only [zX (show (i:Int)<(a.length:Int) by omega),zZ,aH,cEb hi,cEb h2,aA,cR (show i<=1000000000 by omega)];cases ((a[i].1==b[i].1)&&((a[i].2.1==b[i].2.1)&&((a[i].2.2.1==b[i].2.2.1)&&((a[i].2.2.2.1==b[i].2.2.2.1)&&((a[i].2.2.2.2==b[i].2.2.2.2)&&true))))) with
   | true=>exact .inr ⟨_,rfl,rfl,trivial⟩
   | false=>exact .inl ⟨_,rfl,trivial⟩
  .rintro _ rfl _
   exact ⟨.inl (),by simp only [zW (cE2 _),zY],trivial⟩
  .rintro r _
   cases r with
   | inl u=>exact ⟨_,rfl⟩
   | inr v=>exact ⟨_,rfl⟩
 .rw [show ((a.length:Int) != (b.length:Int))=true by rw [bne_iff_ne];omega,zZ];exact ⟨_,rfl⟩
theorem bKh {a b:den tSg} (h:a.2.2.length<=1000000): ∃ v,kY a b=some v:=by
 obtain ⟨v,e⟩:=bGo (b:=b.2.2) h;unfold kY;rw [e,aA];cases a.1==b.1
 .exact ⟨_,rfl⟩
 .cases a.2.1==b.2.1<;>exact ⟨_,rfl⟩
theorem bAl {l:lSg} {s:den tSg} (hl:l.length<=1000000) (h: ∀ x∈l,x.2.2.length<=1000): ∃ v,wE l s=some v:=by
 unfold wE pj3;refine gZ (G:=fun o=> ∃ b,o=some b) l.length (fun s:Int=>s) (fun i t=>True) (fun r:Unit⊕Bool=>True) ?_ ?_ 0 (0:Int) (by omega) rfl trivial ?_
 .rintro i _ hi rfl _
  obtain ⟨v,e⟩:=bKh (a:=l[i]) (b:=s) (by have :=h l[i] (cFi hi);omega);have e:kY (l[i].1,l[i].2.1,l[i].2.2) (s.1,s.2.1,s.2.2)=some v:=e;simp only [zX (show (i:Int)<(l.length:Int) by omega),zZ,aH,cEb hi,aA,e,cR (show i<=1000000000 by omega)];cases v with
  | false=>exact .inr ⟨_,rfl,rfl,trivial⟩
  | true=>exact .inl ⟨_,rfl,trivial⟩
 .rintro _ rfl _
  exact ⟨.inl (),by simp only [zW (cE2 _),zY],trivial⟩
 .rintro r _
  cases r with
  | inl u=>exact ⟨_,rfl⟩
  | inr v=>exact ⟨_,rfl⟩
structure DbD (n:Nat) (d c:lSg):Prop where
 down:d.length<=n
 core:c.length<=n
 hd: ∀ x∈d,x.2.2.length<=5
 hc: ∀ x∈c,x.2.2.length<=5
 ha: ∀ x∈d,x.2.2≠[]/\aLk x.2.2
theorem aPl {l:lSg} {n:Nat} (hn:n<=1000) (h:l.length<=n) (hh: ∀ x∈l,x.2.2.length<=5):SmB 68719476736 (.sl tSg) l:=by
 refine ⟨by omega,fun x hx=>⟨trivial,trivial,?_,fun e he=>⟨trivial,trivial,trivial,trivial,trivial⟩⟩⟩;have :=hh x hx;show x.2.2.length<=_;omega
theorem bQv {as:lAS} {ls:lLk} (ht:aEs as ls) {n:Nat} (hn:n<=100) {d c:lSg} (hk:DbD n d c) {s:den tSg} (h:s.2.2.length<=5) (ha:aLk s.2.2): ∃ d' c',qS (as,ls) (d,c) s=some (d',c')/\DbD (n+1) d' c':=by
 obtain ⟨b1,e1,hb1⟩:=bGj ht (s:=s) (by omega);obtain ⟨b2,e2⟩:=bQ6 (s:=s) (by omega);obtain ⟨b3,e3⟩:=bAl (l:=d) (s:=s) (by have :=hk.down;omega) (fun x hx=>by have :=hk.hd x hx;omega);obtain ⟨b4,e4⟩:=bAl (l:=c) (s:=s) (by have :=hk.core;omega) (fun x hx=>by have :=hk.hc x hx;omega);obtain ⟨k,ek⟩:=aXg ht (s:=s) (by omega);have c1:=aFy (aPl (by omega) hk.down hk.hd);have c2:=aFy (aPl (by omega) hk.core hk.hc);have c3:=aKq (x:=s) (by omega);have e5: ∃ b,qI (d,c) s=some b:=by
  unfold qI pj3;have e3:wE d (s.1,s.2.1,s.2.2)=some b3:=e3;have e4:wE c (s.1,s.2.1,s.2.2)=some b4:=e4;simp only [e3,e4,aA];cases b3<;>exact ⟨_,rfl⟩
 obtain ⟨b5,e5⟩:=e5;have hdn:=hk.down;have hcn:=hk.core;have e1:mU (as,ls) (s.1,s.2.1,s.2.2)=some b1:=e1;have e2:mR (s.1,s.2.1,s.2.2)=some b2:=e2;have e5:qI (d,c) (s.1,s.2.1,s.2.2)=some b5:=e5;have ek:iF (as,ls) (s.1,s.2.1,s.2.2)=some k:=ek;have c3:iS (s.1,s.2.1,s.2.2)=some s:=c3;have same:DbD (n+1) d c:=⟨by omega,by omega,hk.hd,hk.hc,hk.ha⟩
 unfold qS pj2 pj3;simp only [c1,c2,aA,aT,bF,aX,aY,bA,e1,e2,e5,ek,c3,aE (b:=40) (n:=d.length) (m:=1) (by decide) (by omega),aE (b:=40) (n:=c.length) (m:=1) (by decide) (by omega),zZ];obtain ⟨b6,e6,hb6⟩: ∃ b:Bool,(cond (!b1) (some true) (cond (!b2) (some true) (some b5)))=some b/\(b=false->b1=true):=by
  cases b1
  .exact ⟨_,rfl,fun e=>Bool.noConfusion e⟩
  .cases b2<;>exact ⟨_,rfl,fun _=>rfl⟩
 rw [e6,aA];cases b6 with
 | true=>exact ⟨d,c,rfl,same⟩
 | false=>
  have hne:=hb1 (hb6 rfl);cases k==(2:Int) with
  | true=>exact ⟨_,_,rfl,by simp;omega,by simp only;omega,fun x hx=>(cEl.1 hx).elim (hk.hd x) fun hx=>by rw [cEk.1 hx];exact h,hk.hc,fun x hx=>(cEl.1 hx).elim (hk.ha x) fun hx=>by rw [cEk.1 hx];exact ⟨hne,ha⟩⟩
  | false=>exact ⟨_,_,rfl,by simp only;omega,by simp;omega,hk.hd,fun x hx=>(cEl.1 hx).elim (hk.hc x) fun hx=>by rw [cEk.1 hx];exact h,hk.ha⟩
theorem DbD.mono {n m:Nat} {d c:lSg} (h:DbD n d c) (hm:n<=m):DbD m d c:=⟨cEa h.down hm,cEa h.core hm,h.hd,h.hc,h.ha⟩
theorem bNr {s:den tSg} (h:s.2.2.length<=1000): ∃ v,fS s=some v:=by
 unfold fS
 by_cases h0:s.2.2.length=0
 .rw [show ((s.2.2.length:Int)==0)=true by rw [beq_iff_eq];omega,zZ];exact ⟨_,rfl⟩
 .have w1:wr ((s.2.2.length:Int) - 1)=((s.2.2.length - 1:Nat):Int):=by rw [bN (by omega) (by omega)];omega
  rw [show ((s.2.2.length:Int)==0)=false by rw [beq_eq_false_iff_ne];omega,zY,w1,aH,cEb (by omega),aA];exact ⟨_,rfl⟩
theorem bOs {s:den tSg} (h:s.2.2.length<=1000) (h0:s.2.2≠[]) (ha:aLk s.2.2): ∃ v,fS s=some v/\0<=v/\v<8:=by
 have hl:=List.length_pos_iff.2 h0;unfold fS;have w1:wr ((s.2.2.length:Int) - 1)=((s.2.2.length - 1:Nat):Int):=by rw [bN (by omega) (by omega)];omega
 rw [show ((s.2.2.length:Int)==0)=false by rw [beq_eq_false_iff_ne];omega,zY,w1,aH,cEb (by omega),aA];have :=ha _ (cFi (show s.2.2.length - 1<s.2.2.length by omega));exact ⟨_,rfl,this.1,this.2⟩
theorem aM2 {s:den tSg}: ∃ v,dP s=some v:=by
 unfold dP
 by_cases h0:s.2.2.length=0
 .rw [show ((s.2.2.length:Int)==0)=true by rw [beq_iff_eq];omega,zZ];exact ⟨_,rfl⟩
 .rw [show ((s.2.2.length:Int)==0)=false by rw [beq_eq_false_iff_ne];omega,zY,show (0:Int)=((0:Nat):Int) from rfl,aH,cEb (by omega),aA];exact ⟨_,rfl⟩
theorem aZ9 {code:List Int} (hl:code.length<=1048576) {d:lSg} (hd:d.length<=200) (h5: ∀ x∈d,x.2.2.length<=5) (ha: ∀ x∈d,x.2.2≠[]/\aLk x.2.2) (k:Int) (hk:0<k/\k<=256) (z:Int) (hz:0<=z/\z<8) {c:List Int} {p h:Int} (hc:Cur code (c,p,h)):
  ∃ v c' p' h',(Option.bind (cond (decide ((d.length:Int)>(0:Int))) (Option.bind (cG (c,p,h) k) fun y3=>some (!y3.1,y3.2.1,y3.2.2.1,y3.2.2.2)) (some (false,c,p,h))) fun (s4:Bool×List Int×q31)=>cond s4.1 (Option.bind (aB (s4.2.1,s4.2.2.1,s4.2.2.2) (d.length:Int)) fun y5=>Option.bind (idx d y5.1) fun x6=>Option.bind (fS (x6.1,x6.2.1,x6.2.2)) fun y7=>some (y7,y5.2.1,y5.2.2.1,y5.2.2.2)) (some (z,s4.2.1,s4.2.2.1,s4.2.2.2)):Option (Int×List Int×q31))=some (v,c',p',h')/\(0<=v/\v<8)/\Cur code (c',p',h'):=by
 by_cases h0:(d.length:Int)>0
 .obtain ⟨v1,c1,p1,h1,e1,k1⟩:=pR hl (n:=k) hk.1 hk.2 hc;simp only [zX h0,zZ,e1,aA];cases v1 with
  | true=>exact ⟨z,c1,p1,h1,rfl,hz,k1⟩
  | false=>
   obtain ⟨v2,c2,p2,h2,e2,r2,k2⟩:=aM hl (n:=(d.length:Int)) h0 (by omega) k1;obtain ⟨m2,rfl⟩:=cE0 r2.1;have hm:m2<d.length:=by omega
   obtain ⟨v3,e3,r3⟩:=bOs (s:=d[m2]) (by have :=h5 d[m2] (cFi hm);omega) (ha d[m2] (cFi hm)).1 (ha d[m2] (cFi hm)).2;have e3:fS (d[m2].1,d[m2].2.1,d[m2].2.2)=some v3:=e3;exact ⟨v3,c2,p2,h2,by simp only [cEm,zZ,e2,aA,aH,cEb hm,e3],r3,k2⟩
 .exact ⟨z,c,p,h,by simp only [zW h0,zY,aA],hz,hc⟩
theorem bVi {code:List Int} (hl:code.length<=1048576) {n:Nat} (hn:n<=100) {d cc:lSg} (hk:DbD n d cc) {c:List Int} {p h:Int} (hc:Cur code (c,p,h)): ∃ a b c' p' h',aAf (c,p,h) (d,cc)=some (a,b,c',p',h')/\((0<=a/\a<8)/\(0<=b/\b<8))/\Cur code (c',p',h'):=by
 have hd:=hk.down;obtain ⟨v1,c1,p1,h1,e1,r1,k1⟩:=aM hl (n:=8) (by decide) (by decide) hc;obtain ⟨v2,c2,p2,h2,e2,r2,k2⟩:=aM hl (n:=8) (by decide) (by decide) k1;obtain ⟨v3,c3,p3,h3,e3,r3,k3⟩:=aZ9 hl (d:=d) (by omega) hk.hd hk.ha 4 (by decide) v1 r1 k2;obtain ⟨v4,c4,p4,h4,e4,r4,k4⟩:=aZ9 hl (d:=d) (by omega) hk.hd hk.ha 3 (by decide) v2 r2 k3;refine ⟨v3,v4,c4,p4,h4,?_,⟨r3,r4⟩,k4⟩;unfold aAf pj3 pj4;simp only [e1,e2,aA,aT,bF,aX,aY,bA];rw [e3,aA,e4,aA]
theorem aTe {α β:Type} (g:α->List β): ∀ (l:List α) (k:Nat) (a:List β),bZ (fun _ x a=>a++g x) k l a=a++l.flatMap g
 | [],_,a=>(cFe a).symm
 | x::l,k,a=>by
  show bZ _ (k+1) l (a++g x)=_;rw [aTe g l (k+1) (a++g x),List.flatMap_cons,cFc]
theorem eA {α β R:Type} (l:List α) (g:α->List β) (out:List β->R) (a0:List β) {step:Int×List β->Option ((Int×List β)⊕R)} (hl:l.length<=1000000) (hN:a0.length+(l.map fun x=>(g x).length).sum<=1000000)
  (hs: ∀ (k:Nat) (x:α) (a:List β),idx l (k:Int)=some x->l[k]? =some x->x∈l->decide ((k:Int)<(l.length:Int))=true->wr ((k:Int)+1)=((k+1:Nat):Int)->a.length+(g x).length<=1000000->step ((k:Int),a)=some (.inl (((k+1:Nat):Int),a++g x)))
  (he: ∀ a,step ((l.length:Int),a)=some (.inr (out a))):aC step ((0:Int),a0)=some (out (a0++l.flatMap g)):=by
 rw [fO (fun k (a:List β)=>((k:Int),a)) ((0:Int),a0) a0 l (fun _ x a=>a++g x) cEo (fun x=>(g x).length) 1000000 out rfl (by omega) hN (fun k x a=>by rw [cEy];exact cEr _) (fun k x a h1 h2 h3 h4 h5 h6=>hs k x a h1 h2 (cEn h2) h3 h4 h6) he,aTe]
theorem aI9 {α:Type} {f:α->Nat} {c:Nat}: ∀ {l:List α},(∀ x∈l,f x<=c)->(l.map f).sum<=l.length * c
 | [],_=>cEt _
 | x::l,h=>by
  have h1:=h x (by simp);have h2:=aI9 (l:=l) fun y hy=>h y (cEp _ hy)
  rw [cEv,List.sum_cons,cE8,cE7];omega
theorem aQo {α β:Type} {g:α->List β} {c:Nat}: ∀ {l:List α},(∀ x∈l,(g x).length<=c)->(l.flatMap g).length<=l.length * c
 | [],_=>cEt _
 | x::l,h=>by
  have h1:=h x (by simp);have h2:=aQo (l:=l) fun y hy=>h y (cEp _ hy)
  rw [List.flatMap_cons,cEy,cE8,cE7];omega
def cA (s:den tSg):Int:=match s.2.2 with
 | []=> -1
 | h::_=>h.1
def kN (s:den tSg):Int:=if s.2.2.length=0 then -1 else ((s.2.2[s.2.2.length - 1]?).getD h0).1
theorem bK4 (s:den tSg):jJ s=some (cA s):=by
 unfold jJ cA;cases h:s.2.2 with
 | nil=>rfl
 | cons x l=>rfl
theorem bNc (s:den tSg):dP s=some (cA s):=by
 unfold dP cA;cases h:s.2.2 with
 | nil=>rfl
 | cons x l=>rfl
theorem bKe {s:den tSg} (hl:s.2.2.length<=1000000):uH s=some (kN s):=by
 unfold uH kN
 by_cases h:s.2.2.length=0
 .rw [zT h,h];rfl
 .rw [zS h,show ((s.2.2.length:Int)==0)=false by rw [beq_eq_false_iff_ne];omega,zY,aTc (by omega) (by omega),aH,cEb (show s.2.2.length - 1<s.2.2.length by omega)];rfl
theorem bNg {s:den tSg} (hl:s.2.2.length<=1000000):fS s=some (kN s):=by
 unfold fS kN
 by_cases h:s.2.2.length=0
 .rw [zT h,h];rfl
 .rw [zS h,show ((s.2.2.length:Int)==0)=false by rw [beq_eq_false_iff_ne];omega,zY,aTc (by omega) (by omega),aH,cEb (show s.2.2.length - 1<s.2.2.length by omega)];rfl
def bCe (b:Int) (l:List Int):Int:=l.foldl aKf b
def aNu (l:cF):List Int:=l.map fun h=>h.2.2.2.2
theorem cAr {l:cF} (hl:l.length<=1000000):aCk l=some (aNu l):=by
 unfold aCk zz4;rw [fO (fun k (a:List Int)=>((k:Int),a)) ((0:Int),[]) [] l (fun _ x a=>a++[x.2.2.2.2]) cEo (fun _=>1) 1000000 id rfl (by omega) (by rw [dS];simpa using hl) (fun k x a=>by simp) (fun k x a hi hx hd hw hk hb=>by
  simp only [hd,hi,hw,zZ,aA,aE (b:=8) (n:=a.length) (m:=1) (by decide) (by omega)]) (fun a=>by simp),fV (fun h:den bU=>h.2.2.2.2)]
 rfl
theorem bXy {b:Int} {l:List Int} (hl:l.length<=1000000):xU b l=some (bCe b l):=by
 unfold xU;rw [fO (fun k (a:Int)=>(a,(k:Int))) (b,(0:Int)) b l (fun _ x a=>aKf a x) (fun _=>0) (fun _=>0) 1 id rfl (by omega) (by rw [sum_nil];omega) (fun k x a=>by omega) (fun k x a hi hx hd hw hk hb=>by
  simp only [hd,hi,hw,zZ,aA,bBi]) (fun a=>by simp),sM]
 rfl
theorem bVr {b:Int} {l:List Int} (hl:l.length<=1000000):sI b l=some (bCe b l):=by
 unfold sI;rw [fO (fun k (a:Int)=>(a,(k:Int))) (b,(0:Int)) b l (fun _ x a=>aKf a x) (fun _=>0) (fun _=>0) 1 id rfl (by omega) (by rw [sum_nil];omega) (fun k x a=>by omega) (fun k x a hi hx hd hw hk hb=>by
  simp only [hd,hi,hw,zZ,aA,aSu]) (fun a=>by simp),sM]
 rfl
theorem cAy {s:den tSg} {n:Nat} (hn:n<=s.2.2.length) (hl:s.2.2.length<=1000000):rB s (n:Int)=some (aNu (s.2.2.take n)):=by
 have e:(s.2.2.take n).length=n:=by rw [cFl];omega
 unfold rB zz4;rw [fO (fun k (a:List Int)=>((k:Int),a)) ((0:Int),[]) [] (s.2.2.take n) (fun _ x a=>a++[x.2.2.2.2]) cEo (fun _=>1) 1000000 id rfl (by omega) (by rw [dS];simp;omega) (fun k x a=>by simp) (fun k x a hi hx hd hw hk hb=>by
  have hx:=(aK8 hx).1;rw [e] at hd;simp only [hd,aH,hx,hw,zZ,aA,aE (b:=8) (n:=a.length) (m:=1) (by decide) (by omega)]) (fun a=>by rw [e];simp),fV (fun h:den bU=>h.2.2.2.2)]
 rfl
def aC6 (s:den tSg) (i:Int):Int:=if inR i 0 (s.2.2.length:Int) then bCe s.2.1 (aNu (s.2.2.take i.toNat)) else 0
theorem bFc {s:den tSg} {i:Int} (hl:s.2.2.length<=1000000):uG s i=some (aC6 s i):=by
 unfold uG aC6;simp only [kM,aA];cases h:inR i 0 (s.2.2.length:Int) with
 | false=>rfl
 | true=>
  obtain ⟨g0,g1⟩:=bQ.1 h;obtain ⟨n,rfl⟩:=cE0 g0;have e:(s.2.2.take n).length<=1000000:=by rw [cFl];omega
  have e2:(aNu (s.2.2.take n)).length<=1000000:=by unfold aNu;rw [cFb];exact e
  have e3:bX (0:Int) (n:Int) (s.2.2.length:Int)=true:=aH4 (by omega);simp only [cEc,zY,e3,zZ,fR,cAr e,aA,bXy e2,zV,cEf]
theorem bFd {s:den tSg} {i:Int} (hl:s.2.2.length<=1000000):iP s i=some (aC6 s i):=by
 unfold iP aC6 pj3;simp only [fQ,aA];cases h:inR i 0 (s.2.2.length:Int) with
 | false=>rfl
 | true=>
  obtain ⟨g0,g1⟩:=bQ.1 h;obtain ⟨n,rfl⟩:=cE0 g0;have e2:(aNu (s.2.2.take n)).length<=1000000:=by unfold aNu;rw [cFb,cFl];omega
  have e3:rB (s.1,s.2.1,s.2.2) (n:Int)=some (aNu (s.2.2.take n)):=cAy (s:=s) (by omega) hl;simp only [cEc,zY,e3,aA,bVr e2,zV,cEf]
def jA (s:den tSg) (k i:Int):den tPp:=
 if inR i 0 ((s.2.2.length:Int) - 1)&&inR k 1 4 then
  (if kW k then (k,s.1,aC6 s (s.2.2.length:Int),(s.2.2.drop i.toNat).reverse) else (k,s.1,aC6 s i,s.2.2.drop i.toNat))
 else (0,0,0,[])
theorem aI7 (s:den tSg) (k i:Int):(jA s k i).2.2.2.length<=s.2.2.length:=by
 unfold jA;split
 .split
  .show (s.2.2.drop i.toNat).reverse.length<=_;rw [List.length_reverse,cGc];omega
  .show (s.2.2.drop i.toNat).length<=_;rw [cGc];omega
 .exact cEt _
theorem aOa {s:den tSg} {k i:Int} (hl:s.2.2.length<=1000000):eX s k i=some (jA s k i):=by
 unfold eX jA pj3 pj4;simp only [kM,aA,aT,bF,aX,aY,bA,bN (n:=(s.2.2.length:Int) - 1) (by omega) (by omega)];cases c1:inR i 0 ((s.2.2.length:Int) - 1) with
 | false=>rfl
 | true=>
  cases c2:inR k 1 4 with
  | false=>rfl
  | true=>
   obtain ⟨g0,g1⟩:=bQ.1 c1;obtain ⟨n,rfl⟩:=cE0 g0;have e1:bX (n:Int) (s.2.2.length:Int) (s.2.2.length:Int)=true:=aCq (by omega);have e2:uG (s.1,s.2.1,s.2.2) (n:Int)=some (aC6 s (n:Int)):=bFc (s:=s) hl;have e3:uG (s.1,s.2.1,s.2.2) (s.2.2.length:Int)=some (aC6 s (s.2.2.length:Int)):=bFc (s:=s) hl;have e4:(s.2.2.drop n).length<=68719476736:=by rw [cGc];omega
   simp only [cEc,zY,aA,e1,zZ,e2,aD0,aU4 e4,aHz,cFv,zV,cEf];cases kW k with
   | false=>rfl
   | true=>simp only [zZ,e3,bJ0 e4,aA,zV]
theorem aGn {s:den tSg} {k i:Int} (hl:s.2.2.length<=1000000):cI s k i=some (jA s k i):=by
 unfold cI jA pj3 pj4 pj5 zz4;simp only [fQ,aA,aT,bF,aX,aY,bA,bN (n:=(s.2.2.length:Int) - 1) (by omega) (by omega)];cases c1:inR i 0 ((s.2.2.length:Int) - 1) with
 | false=>rfl
 | true=>
  cases c2:inR k 1 4 with
  | false=>rfl
  | true=>
   obtain ⟨g0,g1⟩:=bQ.1 c1;obtain ⟨n,rfl⟩:=cE0 g0;have e1:bX (n:Int) (s.2.2.length:Int) (s.2.2.length:Int)=true:=aCq (by omega);have e2:iP (s.1,s.2.1,s.2.2) (n:Int)=some (aC6 s (n:Int)):=bFd (s:=s) hl;have e3:iP (s.1,s.2.1,s.2.2) (s.2.2.length:Int)=some (aC6 s (s.2.2.length:Int)):=bFd (s:=s) hl;simp only [cEc,zY,aA,e1,zZ,e2,aD0,aH2,cFv,zV,cEf];cases kW k with
   | false=>
    simp only [cEm,zZ,cEx,aE (b:=40) (n:=([]:cF).length) (m:=(s.2.2.drop n).length) (by decide) (by simp;omega),cEg,zU]
   | true=>
    simp only [cEc,zY,e3,aA,zV];have key: ∀ (m:Nat) (a:cF),n+m<=s.2.2.length->a.length+m<=s.2.2.length->aC (fun s11:Int×Int×Int×Int×cF=>cond (decide (s11.1>=(n:Int))) (Option.bind (idx s.2.2 s11.1) fun x12=>cond (aG 40 s11.2.2.2.2.length 1) (some (cD9 (wr (s11.1 - (1:Int)),s11.2.1,s11.2.2.1,s11.2.2.2.1,s11.2.2.2.2++[x12]))) none) (some (cD8 (s11.2.1,s11.2.2.1,s11.2.2.2.1,s11.2.2.2.2)))) (((n+m:Nat):Int) - 1,k,s.1,aC6 s (s.2.2.length:Int),a)=some (k,s.1,aC6 s (s.2.2.length:Int),a++((s.2.2.drop n).take m).reverse):=by
     intro m
     induction m with
     | zero=>
      intro a h1 h2;refine bI ?_;simp only [zW (show ¬ (((n+0:Nat):Int) - 1>=(n:Int)) by omega),zY,List.take_zero,List.reverse_nil,cFe]
     | succ m ih=>
      intro a h1 h2;have hx:s.2.2[n+m]? =some (s.2.2[n+m]'(by omega)):=cEb (by omega);have hw:((n+(m+1):Nat):Int) - 1=((n+m:Nat):Int):=by omega
      refine (cX (s':=(((n+m:Nat):Int) - 1,k,s.1,aC6 s (s.2.2.length:Int),a++[s.2.2[n+m]'(by omega)])) ?_).trans ?_
      .simp only [hw,zX (show ((n+m:Nat):Int)>=(n:Int) by omega),zZ,aH,hx,aA,aE (b:=40) (n:=a.length) (m:=1) (by decide) (by omega),bN (n:=((n+m:Nat):Int) - 1) (by omega) (by omega)]
      .rw [ih (a++[s.2.2[n+m]'(by omega)]) (by omega) (by simp;omega)];have hd:(s.2.2.drop n)[m]? =some (s.2.2[n+m]'(by omega)):=by rw [List.getElem?_drop];exact hx
       rw [List.take_add_one,hd,List.reverse_append];simp
    have :=key (s.2.2.length - n) [] (by omega) (by simp);rw [show n+(s.2.2.length - n)=s.2.2.length by omega,cEx,List.take_of_length_le (by rw [cGc];omega)] at this;rw [this];rfl
def cH (d:lSg) (r:Int):lSg:=d.filter fun s=>kN s==r
def mN (c:lSg) (a b:Int):lSg:=c.filter fun s=>cA s==a&&kN s==b
theorem aDd {α:Type} (p:α->Bool): ∀ l:List α,(l.flatMap fun x=>cond (p x) [x] [])=l.filter p
 | []=>rfl
 | x::l=>by
  rw [List.flatMap_cons,aDd p l,cGt];cases p x<;>rfl
theorem aLj {α:Type} (p:α->Bool) (l:List α):(l.map fun x=>(cond (p x) [x] []:List α).length).sum<=l.length:=by
 have :=aI9 (f:=fun x=>(cond (p x) [x] []:List α).length) (c:=1) (l:=l) fun x _=>by cases p x<;>simp
 omega
theorem aZ8 {k:den tDb} {r:Int} (hl:k.1.length<=1000000) (hh: ∀ s∈k.1,s.2.2.length<=1000000):iI k r=some (cH k.1 r):=by
 unfold iI cH pj3;have hf:=aLj (fun s=>kN s==r) k.1;rw [eA k.1 (fun s=>cond (kN s==r) [s] []) id [] hl (by simpa using cEa hf hl) (fun i x a hi hx hm hd hw hb=>by
  have h1:=hh x hm;have e1:uH (x.1,x.2.1,x.2.2)=some (kN x):=bKe (s:=x) h1;have e2:fN (x.1,x.2.1,x.2.2)=some x:=aVz (x:=x) (by omega);simp only [hd,zZ,hi,aA,e1,e2,hw];cases c:kN x==r
  .simp
  .rw [c] at hb;simp only [zZ,aE (b:=40) (n:=a.length) (m:=1) (by decide) (by simp at hb;omega),aA]) (fun a=>by simp)]
 rw [aDd,cEx];rfl
theorem aL8 {k:den tDb} {r:Int} (hl:k.1.length<=1000000) (hh: ∀ s∈k.1,s.2.2.length<=1000000):dM k r=some (cH k.1 r):=by
 unfold dM cH pj3;have hf:=aLj (fun s=>kN s==r) k.1;rw [eA k.1 (fun s=>cond (kN s==r) [s] []) id [] hl (by simpa using cEa hf hl) (fun i x a hi hx hm hd hw hb=>by
  have h1:=hh x hm;have e1:fS (x.1,x.2.1,x.2.2)=some (kN x):=bNg (s:=x) h1;have e2:iS (x.1,x.2.1,x.2.2)=some x:=aKq (x:=x) (by omega);simp only [hd,zZ,hi,aA,e1,e2,hw];cases c:kN x==r
  .simp
  .rw [c] at hb;simp only [zZ,aE (b:=40) (n:=a.length) (m:=1) (by decide) (by simp at hb;omega),aA]) (fun a=>by simp)]
 rw [aDd,cEx];rfl
theorem bDt {k:den tDb} {p q:Int} (hl:k.2.length<=1000000) (hh: ∀ s∈k.2,s.2.2.length<=1000000):pY k p q=some (mN k.2 p q):=by
 unfold pY mN pj3;have hf:=aLj (fun s=>cA s==p&&kN s==q) k.2;rw [eA k.2 (fun s=>cond (cA s==p&&kN s==q) [s] []) id [] hl (by simpa using cEa hf hl) (fun i x a hi hx hm hd hw hb=>by
  have h1:=hh x hm;have e0:jJ (x.1,x.2.1,x.2.2)=some (cA x):=bK4 x;have e1:uH (x.1,x.2.1,x.2.2)=some (kN x):=bKe (s:=x) h1;have e2:fN (x.1,x.2.1,x.2.2)=some x:=aVz (x:=x) (by omega);simp only [hd,zZ,hi,aA,e0,e1,e2,hw];cases c:cA x==p
  .simp
  .cases c2:kN x==q
   .simp
   .rw [c,c2] at hb;simp only [zZ,cFv,aE (b:=40) (n:=a.length) (m:=1) (by decide) (by simp at hb;omega),aA]) (fun a=>by simp)]
 rw [aDd,cEx];rfl
theorem bEt {k:den tDb} {p q:Int} (hl:k.2.length<=1000000) (hh: ∀ s∈k.2,s.2.2.length<=1000000):lO k p q=some (mN k.2 p q):=by
 unfold lO mN pj3;have hf:=aLj (fun s=>cA s==p&&kN s==q) k.2;rw [eA k.2 (fun s=>cond (cA s==p&&kN s==q) [s] []) id [] hl (by simpa using cEa hf hl) (fun i x a hi hx hm hd hw hb=>by
  have h1:=hh x hm;have e0:dP (x.1,x.2.1,x.2.2)=some (cA x):=bNc x;have e1:fS (x.1,x.2.1,x.2.2)=some (kN x):=bNg (s:=x) h1;have e2:iS (x.1,x.2.1,x.2.2)=some x:=aKq (x:=x) (by omega);simp only [hd,zZ,hi,aA,e0,e1,e2,hw];cases c:cA x==p
  .simp
  .cases c2:kN x==q
   .simp
   .rw [c,c2] at hb;simp only [zZ,cFv,aE (b:=40) (n:=a.length) (m:=1) (by decide) (by simp at hb;omega),aA]) (fun a=>by simp)]
 rw [aDd,cEx];rfl
def fIx (l:cF) (r:Int):Int:=match bY (fun k (x:den bU)=>if x.1==r then some (k:Int) else none) 0 l with
 | some v=>v
 | none=> -1
theorem bSz {s:den tSg} {r:Int} (hl:s.2.2.length<=1000000):lP s r=some (fIx s.2.2 r):=by
 unfold lP fIx;rw [aO (l:=s.2.2) (fun k (x:den bU)=>if x.1==r then some (k:Int) else none) (by omega) (fun k x hi hd hw hx hk=>by
  simp only [hd,hi,hw,zZ,aA];cases x.1==r<;>rfl) (by simp)]
 cases bY (fun k (x:den bU)=>if x.1==r then some (k:Int) else none) 0 s.2.2<;>rfl
theorem bUp {s:den tSg} {r:Int} (hl:s.2.2.length<=1000000):pW s r=some (fIx s.2.2 r):=by
 unfold pW fIx;rw [aO (l:=s.2.2) (fun k (x:den bU)=>if x.1==r then some (k:Int) else none) (by omega) (fun k x hi hd hw hx hk=>by
  simp only [hd,hi,hw,zZ,aA];cases x.1==r<;>rfl) (by simp)]
 cases bY (fun k (x:den bU)=>if x.1==r then some (k:Int) else none) 0 s.2.2<;>rfl
def lIx (l:cF) (r:Int):Nat->Int
 | 0=> -1
 | n+1=>if ((l[n]?).getD h0).1==r then (n:Int) else lIx l r n
theorem cC0 {s:den tSg} {r:Int} (hl:s.2.2.length<=1000000):sG s r=some (lIx s.2.2 r s.2.2.length):=by
 unfold sG;rw [bN (n:=(s.2.2.length:Int) - 1) (by omega) (by omega)];have key: ∀ n:Nat,n<=s.2.2.length->Option.bind (aC (fun s3:Int=>cond (decide (s3>=(0:Int))) (Option.bind (idx s.2.2 s3) fun x4=>cond (x4.1==r) (some (cD8 (cD8 s3))) (some (cD9 (wr (s3 - (1:Int)))))) (some (cD8 (cD9 ())))) ((n:Int) - 1)) (fun z:Unit⊕Int=>cEd (fun s5=>some (-1:Int)) some z)=some (lIx s.2.2 r n):=by
  intro n
  induction n with
  | zero=>intro _;rw [bI (r:=cD9 ()) (by simp)];rfl
  | succ n ih=>
   intro hn;have hx:s.2.2[n]? =some (s.2.2[n]'(by omega)):=cEb (by omega);have hw:((n+1:Nat):Int) - 1=(n:Int):=by omega
   rw [hw];unfold lIx;rw [hx,cE3];cases c:(s.2.2[n]'(by omega)).1==r with
   | true=>rw [bI (r:=cD8 (n:Int)) (by simp only [aFu,zZ,aH,hx,aA,c])];rfl
   | false=>
    rw [cX (s':=(n:Int) - 1) (by simp only [aFu,zZ,aH,hx,aA,c,zY,bN (n:=(n:Int) - 1) (by omega) (by omega)]),ih (by omega)];rfl
 exact key s.2.2.length (cEr _)
def aEm (up down:den tSg):Nat->lPp
 | 0=>[]
 | n+1=>if lIx down.2.2 ((up.2.2[n]?).getD h0).1 down.2.2.length>=0 then [jA up 1 (n:Int),jA down 4 (lIx down.2.2 ((up.2.2[n]?).getD h0).1 down.2.2.length)] else aEm up down n
def aA5 (up down:den tSg):lPp:=aEm up down up.2.2.length
theorem bZr {up down:den tSg} (h1:up.2.2.length<=1000000) (h2:down.2.2.length<=1000000):qN up down=some (aA5 up down):=by
 unfold qN aA5 pj3 pj4;rw [bN (n:=(up.2.2.length:Int) - 1) (by omega) (by omega)];have key: ∀ (G:Int->Option (Int⊕(Unit⊕lPp))) (n:Nat),n<=up.2.2.length->
   (∀ m:Nat,m<up.2.2.length->G (m:Int)=if lIx down.2.2 ((up.2.2[m]?).getD h0).1 down.2.2.length>=0 then some (.inr (.inr [jA up 1 (m:Int),jA down 4 (lIx down.2.2 ((up.2.2[m]?).getD h0).1 down.2.2.length)])) else some (.inl ((m:Int) - 1)))->G (-1)=some (.inr (.inl ()))->
   Option.bind (aC G ((n:Int) - 1)) (fun z:Unit⊕lPp=>cEd (fun _=>some []) some z)=some (aEm up down n):=by
  intro G n
  induction n with
  | zero=>intro _ _ hG;rw [bI (r:=cD9 ()) (show G (((0:Nat):Int) - 1)=_ from hG)];rfl
  | succ n ih=>
   intro hn hs he;have hw:((n+1:Nat):Int) - 1=(n:Int):=by omega
   rw [hw];have hg:=hs n (by omega);unfold aEm
   by_cases c:lIx down.2.2 ((up.2.2[n]?).getD h0).1 down.2.2.length>=0
   .rw [zT c] at hg ⊢;rw [bI hg];rfl
   .rw [zS c] at hg ⊢;rw [cX hg];exact ih (by omega) hs he
 refine key _ up.2.2.length (cEr _) (fun m hm=> ?_) (by simp);have hx:up.2.2[m]? =some (up.2.2[m]'hm):=cEb hm;have e1: ∀ r,sG (down.1,down.2.1,down.2.2) r=some (lIx down.2.2 r down.2.2.length):=fun r=>cC0 (s:=down) h2
 have e2: ∀ i,eX (up.1,up.2.1,up.2.2) 1 i=some (jA up 1 i):=fun i=>aOa (s:=up) h1
 have e3: ∀ i,eX (down.1,down.2.1,down.2.2) 4 i=some (jA down 4 i):=fun i=>aOa (s:=down) h2
 simp only [aFu,zZ,aH,hx,aA,cE3,e1,e2,e3,bN (n:=(m:Int) - 1) (by omega) (by omega)]
 by_cases c:lIx down.2.2 (up.2.2[m]'hm).1 down.2.2.length>=0
 .rw [zT c,zX c,zZ]
 .rw [zS c,zW c,zY]
theorem bNi {s:den tSg} (hl:s.2.2.length<=1000000):dY s=some (s.2.2.map fun h=>(h.1:Int)):=by
 unfold dY;rw [fO (fun k (a:List Int)=>((k:Int),a)) ((0:Int),[]) [] s.2.2 (fun _ x a=>a++[x.1]) cEo (fun _=>1) 1000000 id rfl (by omega) (by rw [dS];simpa using hl) (fun k x a=>by simp) (fun k x a hi hx hd hw hk hb=>by
  simp only [hd,hi,hw,zZ,aA,aE (b:=8) (n:=a.length) (m:=1) (by decide) (by omega)]) (fun a=>by simp),fV (fun h:den bU=>(h.1:Int))]
 rfl
theorem bJv {up down:den tSg} (h1:up.2.2.length<=1000000) (h2:down.2.2.length<=1000000):lK up down=some (aA5 up down):=by
 have e0:qW up down=some (aA5 up down):=by
  unfold qW aA5 ixb pj3 pj4;simp only [bNi h1,bNi h2,aA,cFb];rw [bN (n:=(up.2.2.length:Int) - 1) (by omega) (by omega)];have key: ∀ (G:Int->Option (Int⊕(Unit⊕lPp))) (n:Nat),n<=up.2.2.length->
    (∀ m:Nat,m<up.2.2.length->G (m:Int)=if lIx down.2.2 ((up.2.2[m]?).getD h0).1 down.2.2.length>=0 then some (.inr (.inr [jA up 1 (m:Int),jA down 4 (lIx down.2.2 ((up.2.2[m]?).getD h0).1 down.2.2.length)])) else some (.inl ((m:Int) - 1)))->G (-1)=some (.inr (.inl ()))->
    Option.bind (aC G ((n:Int) - 1)) (fun z:Unit⊕lPp=>cEd (fun _=>some []) some z)=some (aEm up down n):=by
   intro G n
   induction n with
   | zero=>intro _ _ hG;rw [bI (r:=cD9 ()) (show G (((0:Nat):Int) - 1)=_ from hG)];rfl
   | succ n ih=>
    intro hn hs he;have hw:((n+1:Nat):Int) - 1=(n:Int):=by omega
    rw [hw];have hg:=hs n (by omega);unfold aEm
    by_cases c:lIx down.2.2 ((up.2.2[n]?).getD h0).1 down.2.2.length>=0
    .rw [zT c] at hg ⊢;rw [bI hg];rfl
    .rw [zS c] at hg ⊢;rw [cX hg];exact ih (by omega) hs he
  refine key _ up.2.2.length (cEr _) (fun m hm=> ?_) (by simp);have hx:up.2.2[m]? =some (up.2.2[m]'hm):=cEb hm;have e2: ∀ i,cI (up.1,up.2.1,up.2.2) 1 i=some (jA up 1 i):=fun i=>aGn (s:=up) h1
  have e3: ∀ i,cI (down.1,down.2.1,down.2.2) 4 i=some (jA down 4 i):=fun i=>aGn (s:=down) h2
  have hxm:(up.2.2.map fun h=>(h.1:Int))[m]? =some (up.2.2[m]'hm).1:=by rw [cGf,hx];rfl
  simp only [aFu,bS,zZ,zX (show (m:Int)<(up.2.2.length:Int) by omega),cEf,hxm,hx,cE3,bN (n:=(m:Int) - 1) (by omega) (by omega),bN (n:=(down.2.2.length:Int) - 1) (by omega) (by omega),aA,e2,e3];have inner: ∀ (R:Type) (G:Int->Option (Int⊕(Unit⊕R))) (f:Int->R) (n:Nat),n<=down.2.2.length->
    (∀ j:Nat,j<down.2.2.length->G (j:Int)=if ((down.2.2[j]?).getD h0).1==(up.2.2[m]'hm).1 then some (.inr (.inr (f (j:Int)))) else some (.inl ((j:Int) - 1)))->G (-1)=some (.inr (.inl ()))->
    aC G ((n:Int) - 1)=some (if lIx down.2.2 (up.2.2[m]'hm).1 n>=0 then .inr (f (lIx down.2.2 (up.2.2[m]'hm).1 n)) else .inl ()):=by
   intro R G f n
   induction n with
   | zero=>intro _ _ hG;rw [bI (r:=cD9 ()) (show G (((0:Nat):Int) - 1)=_ from hG)];rfl
   | succ n ih=>
    intro hn hs he;have hw:((n+1:Nat):Int) - 1=(n:Int):=by omega
    rw [hw];have hg:=hs n (by omega);unfold lIx;cases c:((down.2.2[n]?).getD h0).1==(up.2.2[m]'hm).1 with
    | true=>
     rw [c,zT rfl] at hg;rw [bI hg,zT rfl,zT (by omega)]
    | false=>
     rw [c,zS (by decide)] at hg;rw [cX hg];simp only [cEg,zU];exact ih (by omega) hs he
  rw [inner _ _ (fun j=>(cD8 (cD8 [jA up 1 (m:Int),jA down 4 j]):Int⊕(Unit⊕lPp))) down.2.2.length (cEr _) (fun j hj=> ?_) (by simp)]
  .by_cases c:lIx down.2.2 (up.2.2[m]'hm).1 down.2.2.length>=0
   .rw [zT c,zT c];rfl
   .rw [zS c,zS c];rfl
  .have hy:down.2.2[j]? =some (down.2.2[j]'hj):=cEb hj;have hym:(down.2.2.map fun h=>(h.1:Int))[j]? =some (down.2.2[j]'hj).1:=by rw [cGf,hy];rfl
   simp only [aFu,bS,zZ,zX (show (j:Int)<(down.2.2.length:Int) by omega),cEf,hym,hy,cE3,aA,bN (n:=(j:Int) - 1) (by omega) (by omega)];rw [show ((up.2.2[m]'hm).1==(down.2.2[j]'hj).1)=((down.2.2[j]'hj).1==(up.2.2[m]'hm).1) from cEz.2 ⟨fun h=>by rw [beq_iff_eq] at h ⊢;exact h.symm,fun h=>by rw [beq_iff_eq] at h ⊢;exact h.symm⟩];cases (down.2.2[j]'hj).1==(up.2.2[m]'hm).1<;>rfl
 unfold lK pj3;rw [show ((up.1,up.2.1,up.2.2):den tSg)=up from rfl,show ((down.1,down.2.1,down.2.2):den tSg)=down from rfl,e0];rfl
def gG (s:den tSg) (k:Int) (p:lPp):lPp:=cond (decide ((s.2.2.length:Int)>0)) (p++[jA s k 0]) p
theorem aMj (s:den tSg) (k:Int) (p:lPp):(gG s k p).length<=p.length+1:=by
 unfold gG;cases decide ((s.2.2.length:Int)>0)
 .simp
 .simp
def nB (up core:den tSg) (b:Bool) (down:den tSg):lPp:=gG down 4 (gG core (cond b 3 2) (gG up 1 []))
theorem aUg {s:den tSg} {k:Int} {p:lPp} (h:s.2.2.length<=1000000) (hp:p.length<=1000000):gC s k p=some (gG s k p):=by
 have e2:eX (s.1,s.2.1,s.2.2) k 0=some (jA s k 0):=aOa (s:=s) h;unfold gC gG pj3 pj4;simp only [e2,aA,aE (b:=48) (n:=p.length) (m:=1) (by decide) (by omega),zZ];cases decide ((s.2.2.length:Int)>0)<;>rfl
theorem bD2 {up core down:den tSg} {b:Bool} (h1:up.2.2.length<=1000000) (h2:core.2.2.length<=1000000) (h3:down.2.2.length<=1000000):oI up core b down=some (nB up core b down):=by
 have l1:=aMj up 1 [];have l2:=aMj core (cond b 3 2) (gG up 1 []);simp only [cFf] at l1;have e1:gC (up.1,up.2.1,up.2.2) 1 []=some (gG up 1 []):=aUg (s:=up) h1 (by simp);have e2:gC (core.1,core.2.1,core.2.2) (cond b 3 2) (gG up 1 [])=some _:=aUg (s:=core) (k:=cond b 3 2) h2 (by omega);have e3:gC (down.1,down.2.1,down.2.2) 4 (gG core (cond b 3 2) (gG up 1 []))=some _:=aUg (s:=down) h3 (by omega);have eb:(cond b (some (3:Int)) (some (2:Int)))=some (cond b 3 2):=by cases b<;>rfl
 unfold oI nB pj3;rw [eb];simp only [e1,e2,e3,aA]
theorem bEe {up core down:den tSg} {b:Bool} (h1:up.2.2.length<=1000000) (h2:core.2.2.length<=1000000) (h3:down.2.2.length<=1000000):nV up core b down=some (nB up core b down):=by
 have l1:=aMj up 1 [];have l2:=aMj core (cond b 3 2) (gG up 1 []);simp only [cFf] at l1;have e1:cI (up.1,up.2.1,up.2.2) 1 0=some (jA up 1 0):=aGn (s:=up) h1;have e2:cI (core.1,core.2.1,core.2.2) (cond b 3 2) 0=some (jA core (cond b 3 2) 0):=aGn (s:=core) h2;have e3:cI (down.1,down.2.1,down.2.2) 4 0=some (jA down 4 0):=aGn (s:=down) h3;have eb:(cond b (some (3:Int)) (some (2:Int)))=some (cond b 3 2):=by cases b<;>rfl
 have f1:(cond (decide ((up.2.2.length:Int)>(0:Int))) (some [jA up 1 0]) (some []))=some (gG up 1 []):=by unfold gG;cases decide ((up.2.2.length:Int)>0)<;>rfl
 have f2:(cond (decide ((core.2.2.length:Int)>(0:Int))) (some (gG up 1 []++[jA core (cond b 3 2) 0])) (some (gG up 1 [])))=some (gG core (cond b 3 2) (gG up 1 [])):=by
  rw [show gG core (cond b 3 2) (gG up 1 [])=cond (decide ((core.2.2.length:Int)>0)) (gG up 1 []++[jA core (cond b 3 2) 0]) (gG up 1 []) from rfl];cases decide ((core.2.2.length:Int)>0)<;>rfl
 have f3:(cond (decide ((down.2.2.length:Int)>(0:Int))) (some (gG core (cond b 3 2) (gG up 1 [])++[jA down 4 0])) (some (gG core (cond b 3 2) (gG up 1 []))))=some (gG down 4 (gG core (cond b 3 2) (gG up 1 []))):=by
  rw [show gG down 4 (gG core (cond b 3 2) (gG up 1 []))=cond (decide ((down.2.2.length:Int)>0)) (gG core (cond b 3 2) (gG up 1 [])++[jA down 4 0]) (gG core (cond b 3 2) (gG up 1 [])) from rfl];cases decide ((down.2.2.length:Int)>0)<;>rfl
 unfold nV nB pj3 pj4;rw [eb];simp only [e1,e2,e3,aA,aE (b:=48) (n:=0) (m:=1) (by decide) (by omega),zZ,f1,aE (b:=48) (n:=(gG up 1 []).length) (m:=1) (by decide) (by omega),f2,aE (b:=48) (n:=(gG core (cond b 3 2) (gG up 1 [])).length) (m:=1) (by decide) (by omega),f3]
def bK (c:lSg) (up:den tSg) (a b:Int) (down:den tSg):List lPp:=
 (mN c a b).flatMap (fun s=>[nB up s false down])++(mN c b a).flatMap (fun s=>[nB up s true down])
theorem aRp (c:lSg) (a b:Int):(mN c a b).length<=c.length:=cGa _ _
theorem bLc (c:lSg) (a:Int):(cH c a).length<=c.length:=cGa _ _
theorem aL0 {α β:Type} (f:α->β) (l:List α):(l.flatMap fun s=>[f s]).length<=l.length:=by
 have :=aQo (g:=fun s=>[f s]) (c:=1) (l:=l) fun x _=>by simp
 omega
theorem aC2 {c:lSg} (hc:c.length<=30) (up:den tSg) (a b:Int) (down:den tSg):(bK c up a b down).length<=60:=by
 unfold bK;rw [cEy];have h1:=aL0 (fun s=>nB up s false down) (mN c a b);have h2:=aL0 (fun s=>nB up s true down) (mN c b a);have h3:=aRp c a b;have h4:=aRp c b a;omega
structure DbS (k:den tDb):Prop where
 down:k.1.length<=30
 core:k.2.length<=30
 hd1: ∀ s∈k.1,s.2.2.length<=5
 hc1: ∀ s∈k.2,s.2.2.length<=5
theorem DbS.hd {k:den tDb} (h:DbS k): ∀ s∈k.1,s.2.2.length<=1000000:=fun s hs=>cEa (h.hd1 s hs) (by decide)
theorem DbS.hc {k:den tDb} (h:DbS k): ∀ s∈k.2,s.2.2.length<=1000000:=fun s hs=>cEa (h.hc1 s hs) (by decide)
theorem DbD.s {n:Nat} {d c:lSg} (h:DbD n d c) (hn:n<=30):DbS (d,c):=⟨cEa h.down hn,cEa h.core hn,h.hd,h.hc⟩
theorem DbS.downs {k:den tDb} (h:DbS k) (r:Int):(cH k.1 r).length<=30/\ ∀ s∈cH k.1 r,s.2.2.length<=1000000:=⟨cEa (bLc _ _) h.down,fun s hs=>h.hd s (cEq.1 hs).1⟩
theorem DbS.betw {k:den tDb} (h:DbS k) (a b:Int):(mN k.2 a b).length<=30/\ ∀ s∈mN k.2 a b,s.2.2.length<=1000000:=⟨cEa (aRp _ _ _) h.core,fun s hs=>h.hc s (cEq.1 hs).1⟩
theorem bWb {k:den tDb} (h:DbS k) {up down:den tSg} (h1:up.2.2.length<=1000000) (h3:down.2.2.length<=1000000) (a b:Int):dQ k up a b down=some (bK k.2 up a b down):=by
 have e1:pY (k.1,k.2) a b=some (mN k.2 a b):=bDt (k:=k) (cEa h.core (by decide)) h.hc;have e2:pY (k.1,k.2) b a=some (mN k.2 b a):=bDt (k:=k) (cEa h.core (by decide)) h.hc;obtain ⟨l1,m1⟩:=h.betw a b;obtain ⟨l2,m2⟩:=h.betw b a;have n1:=aL0 (fun s=>nB up s false down) (mN k.2 a b);unfold dQ bK ixb pj2 pj3;rw [e1,aA];rw [eA (mN k.2 a b) (fun s=>[nB up s false down]) (fun x=>x) [] (by omega) (by have :=aI9 (f:=fun s=>([nB up s false down]:List lPp).length) (c:=1) (l:=mN k.2 a b) (fun _ _=>by simp);simp only [cFf];omega) (fun i x y hi hx hm hd hw hb=>by
  have e:oI (up.1,up.2.1,up.2.2) (x.1,x.2.1,x.2.2) false (down.1,down.2.1,down.2.2)=some (nB up x false down):=bD2 (up:=up) (core:=x) (down:=down) h1 (m1 x hm) h3;simp only [hd,bS,zZ,cEf,hx,aA,e,hw,aE (b:=24) (n:=y.length) (m:=1) (by decide) (by simp at hb;omega)]) (fun y=>by simp)]
 rw [aA,e2,aA,cEx];rw [eA (mN k.2 b a) (fun s=>[nB up s true down]) (fun x=>x) ((mN k.2 a b).flatMap fun s=>[nB up s false down]) (by omega) (by have :=aI9 (f:=fun s=>([nB up s true down]:List lPp).length) (c:=1) (l:=mN k.2 b a) (fun _ _=>by simp);omega) (fun i x y hi hx hm hd hw hb=>by
  have e:oI (up.1,up.2.1,up.2.2) (x.1,x.2.1,x.2.2) true (down.1,down.2.1,down.2.2)=some (nB up x true down):=bD2 (up:=up) (core:=x) (down:=down) h1 (m2 x hm) h3;simp only [hd,bS,zZ,cEf,hx,aA,e,hw,aE (b:=24) (n:=y.length) (m:=1) (by decide) (by simp at hb;omega)]) (fun y=>by simp)]
 rfl
theorem bDs {k:den tDb} (h:DbS k) {up down:den tSg} (h1:up.2.2.length<=1000000) (h3:down.2.2.length<=1000000) (a b:Int):gN k up a b down=some (bK k.2 up a b down):=by
 have e1:lO (k.1,k.2) a b=some (mN k.2 a b):=bEt (k:=k) (cEa h.core (by decide)) h.hc;have e2:lO (k.1,k.2) b a=some (mN k.2 b a):=bEt (k:=k) (cEa h.core (by decide)) h.hc;obtain ⟨l1,m1⟩:=h.betw a b;obtain ⟨l2,m2⟩:=h.betw b a;have n1:=aL0 (fun s=>nB up s false down) (mN k.2 a b);unfold gN bK ixb pj2 pj3;rw [e1,aA];rw [eA (mN k.2 a b) (fun s=>[nB up s false down]) (fun x=>x) [] (by omega) (by have :=aI9 (f:=fun s=>([nB up s false down]:List lPp).length) (c:=1) (l:=mN k.2 a b) (fun _ _=>by simp);simp only [cFf];omega) (fun i x y hi hx hm hd hw hb=>by
  have e:nV (up.1,up.2.1,up.2.2) (x.1,x.2.1,x.2.2) false (down.1,down.2.1,down.2.2)=some (nB up x false down):=bEe (up:=up) (core:=x) (down:=down) h1 (m1 x hm) h3;simp only [hd,bS,zZ,cEf,hx,aA,e,hw,aE (b:=24) (n:=y.length) (m:=1) (by decide) (by simp at hb;omega)]) (fun y=>by simp)]
 rw [aA,e2,aA,cEx];rw [eA (mN k.2 b a) (fun s=>[nB up s true down]) (fun x=>x) ((mN k.2 a b).flatMap fun s=>[nB up s false down]) (by omega) (by have :=aI9 (f:=fun s=>([nB up s true down]:List lPp).length) (c:=1) (l:=mN k.2 b a) (fun _ _=>by simp);omega) (fun i x y hi hx hm hd hw hb=>by
  have e:nV (up.1,up.2.1,up.2.2) (x.1,x.2.1,x.2.2) true (down.1,down.2.1,down.2.2)=some (nB up x true down):=bEe (up:=up) (core:=x) (down:=down) h1 (m2 x hm) h3;simp only [hd,bS,zZ,cEf,hx,aA,e,hw,aE (b:=24) (n:=y.length) (m:=1) (by decide) (by simp at hb;omega)]) (fun y=>by simp)]
 rfl
def dA:den tSg:=(0,0,[])
def mS (kind r:Int) (s:den tSg):List lPp:=cond (decide (fIx s.2.2 r>=0)) [[jA s kind (fIx s.2.2 r)]] []
def pH (u d:den tSg):List lPp:=cond (decide (((aA5 u d).length:Int)>0)) [aA5 u d] []
def eG (t:den tTo) (r:Int):Bool:=((t.1[r.toNat]?).getD (0,false,0)).2.1
theorem aMb (kind r:Int) (s:den tSg):(mS kind r s).length<=1:=by unfold mS;cases decide (fIx s.2.2 r>=0)<;>simp
theorem bKc (u d:den tSg):(pH u d).length<=1:=by unfold pH;cases decide (((aA5 u d).length:Int)>0)<;>simp
def oM (t:den tTo) (k:den tDb) (a b:Int):List lPp:=
 cond (a==b||(!cN t a|| !cN t b)) [] (((((((cH k.1 a).flatMap (mS 1 b)++(cH k.1 b).flatMap (mS 4 a))++bK k.2 dA a b dA)
  ++(cH k.1 a).flatMap fun u=>(cH k.1 b).flatMap fun d=>pH u d)
  ++cond (eG t a) ((cH k.1 b).flatMap fun d=>bK k.2 dA a (cA d) d) [])
  ++cond (eG t b) ((cH k.1 a).flatMap fun u=>bK k.2 u (cA u) b dA) [])
  ++(cH k.1 a).flatMap fun u=>(cH k.1 b).flatMap fun d=>bK k.2 u (cA u) (cA d) d)
theorem bMe {t:den tTo} {r:Int} (ht:t.1.length<=1000000) (h:cN t r=true):aAx t r=some (eG t r):=by
 obtain ⟨x,hx,ex⟩:=aGg h;unfold aAx eG pj2;simp only [aP,aEu (t:=t) (r:=r) (by omega),h,aA,zZ,ex,hx,cE3]
theorem aFm {α β:Type} {g:α->List β} {c n:Nat} {l:List α} (hl:l.length<=n) (h: ∀ x∈l,(g x).length<=c):(l.map fun x=>(g x).length).sum<=n * c:=
 cEa (aI9 h) (cFp _ hl)
theorem aCd {α β:Type} {g:α->List β} {c n:Nat} {l:List α} (hl:l.length<=n) (h: ∀ x∈l,(g x).length<=c):(l.flatMap g).length<=n * c:=
 cEa (aQo h) (cFp _ hl)
theorem aXn {downs:lSg} (h:downs.length<=30) (u:den tSg):(downs.flatMap fun d=>pH u d).length<=30:=
 cEa (aCd (c:=1) h fun d _=>bKc u d) (by decide)
theorem aZ3 {c downs:lSg} (hc:c.length<=30) (h:downs.length<=30) (u:den tSg):(downs.flatMap fun d=>bK c u (cA u) (cA d) d).length<=1800:=
 cEa (aCd (c:=60) h fun d _=>aC2 hc _ _ _ _) (by decide)
theorem aHm {k:den tDb} (h:DbS k) (a b:Int):(((cH k.1 a).flatMap (mS 1 b)).length<=30)/\(((cH k.1 b).flatMap (mS 4 a)).length<=30)/\((bK k.2 dA a b dA).length<=60)/\(((cH k.1 a).flatMap fun u=>(cH k.1 b).flatMap fun d=>pH u d).length<=900)/\(((cH k.1 b).flatMap fun d=>bK k.2 dA a (cA d) d).length<=1800)/\(((cH k.1 a).flatMap fun u=>bK k.2 u (cA u) b dA).length<=1800)/\(((cH k.1 a).map fun s=>(mS 1 b s).length).sum<=30)/\(((cH k.1 b).map fun s=>(mS 4 a s).length).sum<=30)/\(((cH k.1 a).map fun u=>((cH k.1 b).flatMap fun d=>pH u d).length).sum<=900)/\(((cH k.1 b).map fun d=>(bK k.2 dA a (cA d) d).length).sum<=1800)/\(((cH k.1 a).map fun u=>(bK k.2 u (cA u) b dA).length).sum<=1800)/\(((cH k.1 a).map fun u=>((cH k.1 b).flatMap fun d=>bK k.2 u (cA u) (cA d) d).length).sum<=54000):=by
 obtain ⟨lu,mu⟩:=h.downs a;obtain ⟨ld,md⟩:=h.downs b;exact ⟨cEa (aCd (c:=1) lu fun s _=>aMb 1 b s) (by decide),cEa (aCd (c:=1) ld fun s _=>aMb 4 a s) (by decide),aC2 h.core dA a b dA,cEa (aCd (c:=30) lu fun u _=>aXn ld u) (by decide),cEa (aCd (c:=60) ld fun d _=>aC2 h.core _ _ _ _) (by decide),cEa (aCd (c:=60) lu fun d _=>aC2 h.core _ _ _ _) (by decide),cEa (aFm (c:=1) lu fun s _=>aMb 1 b s) (by decide),cEa (aFm (c:=1) ld fun s _=>aMb 4 a s) (by decide),cEa (aFm (c:=30) lu fun u _=>aXn ld u) (by decide),cEa (aFm (c:=60) ld fun d _=>aC2 h.core _ _ _ _) (by decide),cEa (aFm (c:=60) lu fun d _=>aC2 h.core _ _ _ _) (by decide),cEa (aFm (c:=1800) lu fun u _=>aZ3 h.core ld u) (by decide)⟩
theorem cAm {t:den tTo} {k:den tDb} (ht:t.1.length<=1000000) (h:DbS k) (a b:Int):nD t k a b=some (oM t k a b):=by
 have hA:=aEu (t:=t) (r:=a) (by omega);have hB:=aEu (t:=t) (r:=b) (by omega);unfold nD oM ixb pj2 pj3 pj4;rw [show ((t.1,t.2):den tTo)=t from rfl,hA,hB];cases c0:a==b with
 | true=>rfl
 | false=>
 cases c1:cN t a with
 | false=>rfl
 | true=>
 cases c2:cN t b with
 | false=>rfl
 | true=>
 have e1:iI (k.1,k.2) a=some (cH k.1 a):=aZ8 (k:=k) (cEa h.down (by decide)) h.hd;have e2:iI (k.1,k.2) b=some (cH k.1 b):=aZ8 (k:=k) (cEa h.down (by decide)) h.hd;obtain ⟨lu,mu⟩:=h.downs a;obtain ⟨ld,md⟩:=h.downs b;have ec1:=bMe ht c1;have ec2:=bMe ht c2;have hcz: ∀ (u:den tSg) (x y:Int) (d:den tSg),u.2.2.length<=1000000->d.2.2.length<=1000000->dQ (k.1,k.2) (u.1,u.2.1,u.2.2) x y (d.1,d.2.1,d.2.2)=some (bK k.2 u x y d):=fun u x y d h1 h2=>bWb (k:=k) h (up:=u) (down:=d) h1 h2 x y
 have hz1: ∀ (x y:Int),dQ (k.1,k.2) (0,0,[]) x y (0,0,[])=some (bK k.2 dA x y dA):=fun x y=>hcz dA x y dA (by decide) (by decide)
 have hz2: ∀ (x y:Int) (d:den tSg),d.2.2.length<=1000000->dQ (k.1,k.2) (0,0,[]) x y (d.1,d.2.1,d.2.2)=some (bK k.2 dA x y d):=fun x y d hd=>hcz dA x y d (by decide) hd
 have hz3: ∀ (u:den tSg) (x y:Int),u.2.2.length<=1000000->dQ (k.1,k.2) (u.1,u.2.1,u.2.2) x y (0,0,[])=some (bK k.2 u x y dA):=fun u x y hu=>hcz u x y dA hu (by decide)
 have hf: ∀ s:den tSg,jJ (s.1,s.2.1,s.2.2)=some (cA s):=fun s=>bK4 s
 obtain ⟨n1,n2,n3,n4,n5,n6,s1,s2,s4,s5,s6,s7⟩:=aHm h a b;simp only [zY,zZ,aA,cEc,cF0,e1,e2];generalize hU:cH k.1 a=ups at *;generalize hD:cH k.1 b=downs at *;rw [eA ups (mS 1 b) (fun x=>x) [] (by omega) (by simp only [cFf];omega) (fun i x y hi hx hm hd hw hb=>by
  have e:lP (x.1,x.2.1,x.2.2) b=some (fIx x.2.2 b):=bSz (s:=x) (mu x hm);have e':eX (x.1,x.2.1,x.2.2) 1 (fIx x.2.2 b)=some (jA x 1 (fIx x.2.2 b)):=aOa (s:=x) (mu x hm);have hb:y.length<=1000000:=by omega
  unfold mS;simp only [hd,bS,zZ,cEf,hx,aA,e,e',hw,aE (b:=24) (n:=y.length) (m:=1) (by decide) (by omega)];cases decide (fIx x.2.2 b>=0)
  .simp
  .rfl) (fun y=>by simp)]
 rw [aA,cEx];rw [eA downs (mS 4 a) (fun x=>x) (ups.flatMap (mS 1 b)) (by omega) (by omega) (fun i x y hi hx hm hd hw hb=>by
  have e:lP (x.1,x.2.1,x.2.2) a=some (fIx x.2.2 a):=bSz (s:=x) (md x hm);have e':eX (x.1,x.2.1,x.2.2) 4 (fIx x.2.2 a)=some (jA x 4 (fIx x.2.2 a)):=aOa (s:=x) (md x hm);have hb:y.length<=1000000:=by omega
  unfold mS;simp only [hd,bS,zZ,cEf,hx,aA,e,e',hw,aE (b:=24) (n:=y.length) (m:=1) (by decide) (by omega)];cases decide (fIx x.2.2 a>=0)
  .simp
  .rfl) (fun y=>by simp)]
 rw [aA,hz1,aA];have q3:(ups.flatMap (mS 1 b)++downs.flatMap (mS 4 a)).length<=60:=by rw [cEy];omega
 generalize ups.flatMap (mS 1 b)++downs.flatMap (mS 4 a)=l3 at *;rw [aE (b:=24) (n:=l3.length) (m:=(bK k.2 dA a b dA).length) (by decide) (by omega),zZ];have q4:(l3++bK k.2 dA a b dA).length<=120:=by rw [cEy];omega
 generalize l3++bK k.2 dA a b dA=l4 at *;rw [eA ups (fun u=>downs.flatMap fun d=>pH u d) (fun x=>x) l4 (by omega) (by omega) (fun i u y hi hx hm hd hw hb=>by
  have hy:y.length<=1000000:=by omega
  have hb0:y.length+(downs.flatMap fun d=>pH u d).length<=1000000:=hb;have hsum:(downs.map fun d=>(pH u d).length).sum=(downs.flatMap fun d=>pH u d).length:=by rw [cHh]
  simp only [hd,bS,zZ,cEf,hx,aA,hw];rw [eA downs (fun d=>pH u d) (fun x=>x) y (by omega) (by rw [hsum];exact hb0) (fun j d z hj hx' hm' hd' hw' hb'=>by
   have e:qN (u.1,u.2.1,u.2.2) (d.1,d.2.1,d.2.2)=some (aA5 u d):=bZr (up:=u) (down:=d) (mu u hm) (md d hm');have hb:z.length<=1000000:=by omega
   unfold pH;simp only [hd',bS,zZ,cEf,hx',aA,e,hw',aE (b:=24) (n:=z.length) (m:=1) (by decide) (by omega)];cases decide (((aA5 u d).length:Int)>0)
   .simp
   .rfl) (fun y=>by simp)]
  rfl) (fun y=>by simp)]
 rw [aA,ec1,aA];have q5:(l4++ups.flatMap fun u=>downs.flatMap fun d=>pH u d).length<=1020:=by rw [cEy];omega
 generalize (l4++ups.flatMap fun u=>downs.flatMap fun d=>pH u d)=l5 at *;have st5:(cond (eG t a) (aC (fun s57:Int×List lPp=>cond (decide (s57.1<(downs.length:Int))) (cond (decide ((0:Int)<=s57.1)) (cond (decide (s57.1<(downs.length:Int))) (Option.bind downs[s57.1.toNat]? fun x58=>Option.bind (jJ (x58.1,x58.2.1,x58.2.2)) fun y59=>Option.bind (dQ (k.1,k.2) ((0:Int),(0:Int),[]) a y59 (x58.1,x58.2.1,x58.2.2)) fun y60=>cond (aG 24 s57.2.length y60.length) (some (cD9 (wr (s57.1+(1:Int)),s57.2++y60))) none) none) none) (some (cD8 s57.2))) ((0:Int),l5)) (some l5))=some (l5++cond (eG t a) (downs.flatMap fun d=>bK k.2 dA a (cA d) d) []):=by
  cases eG t a with
  | false=>simp
  | true=>
   simp only [zZ];exact eA downs (fun d=>bK k.2 dA a (cA d) d) (fun x=>x) l5 (by omega) (by omega) (fun i d y hi hx hm hd hw hb=>by
    simp only [hd,bS,zZ,cEf,hx,aA,hf,hz2 _ _ d (md d hm),hw];rw [aE (b:=24) (n:=y.length) (m:=(bK k.2 dA a (cA d) d).length) (by decide) (by omega)];rfl) (fun y=>by simp)
 rw [st5,aA,ec2,aA];have q6:(l5++cond (eG t a) (downs.flatMap fun d=>bK k.2 dA a (cA d) d) []).length<=2820:=by
  rw [cEy];cases eG t a
  .simp only [zY,cFf];omega
  .simp only [zZ];omega
 generalize (l5++cond (eG t a) (downs.flatMap fun d=>bK k.2 dA a (cA d) d) [])=l6 at *;have st6:(cond (eG t b) (aC (fun s67:Int×List lPp=>cond (decide (s67.1<(ups.length:Int))) (cond (decide ((0:Int)<=s67.1)) (cond (decide (s67.1<(ups.length:Int))) (Option.bind ups[s67.1.toNat]? fun x68=>Option.bind (jJ (x68.1,x68.2.1,x68.2.2)) fun y69=>Option.bind (dQ (k.1,k.2) (x68.1,x68.2.1,x68.2.2) y69 b ((0:Int),(0:Int),[])) fun y70=>cond (aG 24 s67.2.length y70.length) (some (cD9 (wr (s67.1+(1:Int)),s67.2++y70))) none) none) none) (some (cD8 s67.2))) ((0:Int),l6)) (some l6))=some (l6++cond (eG t b) (ups.flatMap fun u=>bK k.2 u (cA u) b dA) []):=by
  cases eG t b with
  | false=>simp
  | true=>
   simp only [zZ];exact eA ups (fun u=>bK k.2 u (cA u) b dA) (fun x=>x) l6 (by omega) (by omega) (fun i d y hi hx hm hd hw hb=>by
    simp only [hd,bS,zZ,cEf,hx,aA,hf,hz3 d _ _ (mu d hm),hw];rw [aE (b:=24) (n:=y.length) (m:=(bK k.2 d (cA d) b dA).length) (by decide) (by omega)];rfl) (fun y=>by simp)
 rw [st6,aA];have q7:(l6++cond (eG t b) (ups.flatMap fun u=>bK k.2 u (cA u) b dA) []).length<=4620:=by
  rw [cEy];cases eG t b
  .simp only [zY,cFf];omega
  .simp only [zZ];omega
 generalize (l6++cond (eG t b) (ups.flatMap fun u=>bK k.2 u (cA u) b dA) [])=l7 at *;rw [eA ups (fun u=>downs.flatMap fun d=>bK k.2 u (cA u) (cA d) d) (fun x=>x) l7 (by omega) (by omega) (fun i u y hi hx hm hd hw hb=>by
  have hb0:y.length+(downs.flatMap fun d=>bK k.2 u (cA u) (cA d) d).length<=1000000:=hb;have hsum:(downs.map fun d=>(bK k.2 u (cA u) (cA d) d).length).sum=(downs.flatMap fun d=>bK k.2 u (cA u) (cA d) d).length:=by rw [cHh]
  simp only [hd,bS,zZ,cEf,hx,aA,hw];rw [eA downs (fun d=>bK k.2 u (cA u) (cA d) d) (fun x=>x) y (by omega) (by rw [hsum];exact hb0) (fun j d z hj hx' hm' hd' hw' hb'=>by
   simp only [hd',bS,zZ,cEf,hx',aA,hf,hcz u _ _ d (mu u hm) (md d hm'),hw'];rw [aE (b:=24) (n:=z.length) (m:=(bK k.2 u (cA u) (cA d) d).length) (by decide) (by omega)];rfl) (fun y=>by simp)]
  rfl) (fun y=>by simp)]
 rfl
theorem bWm {k:den tDb} (h:DbS k) (a b:Int):uS k a b=some ((((cH k.1 a).flatMap (mS 1 b)++(cH k.1 b).flatMap (mS 4 a))++bK k.2 dA a b dA)):=by
 have e1:dM (k.1,k.2) a=some (cH k.1 a):=aL8 (k:=k) (cEa h.down (by decide)) h.hd;have e2:dM (k.1,k.2) b=some (cH k.1 b):=aL8 (k:=k) (cEa h.down (by decide)) h.hd;obtain ⟨lu,mu⟩:=h.downs a;obtain ⟨ld,md⟩:=h.downs b;have hz1:gN (k.1,k.2) (0,0,[]) a b (0,0,[])=some (bK k.2 dA a b dA):=bDs (k:=k) h (up:=dA) (down:=dA) (by decide) (by decide) a b;obtain ⟨n1,n2,n3,n4,n5,n6,s1,s2,s4,s5,s6,s7⟩:=aHm h a b;unfold uS ixb pj2 pj3 pj4;rw [e1,aA];rw [eA (cH k.1 a) (mS 1 b) (fun x=>x) [] (by omega) (by simp only [cFf];omega) (fun i x y hi hx hm hd hw hb=>by
  have e:pW (x.1,x.2.1,x.2.2) b=some (fIx x.2.2 b):=bUp (s:=x) (mu x hm);have e':cI (x.1,x.2.1,x.2.2) 1 (fIx x.2.2 b)=some (jA x 1 (fIx x.2.2 b)):=aGn (s:=x) (mu x hm);have hb:y.length<=1000000:=by omega
  unfold mS;simp only [hd,bS,zZ,cEf,hx,aA,e,e',hw,aE (b:=24) (n:=y.length) (m:=1) (by decide) (by omega)];cases decide (fIx x.2.2 b>=0)
  .simp
  .rfl) (fun y=>by simp)]
 rw [aA,cEx,e2,aA];rw [eA (cH k.1 b) (mS 4 a) (fun x=>x) ((cH k.1 a).flatMap (mS 1 b)) (by omega) (by omega) (fun i x y hi hx hm hd hw hb=>by
  have e:pW (x.1,x.2.1,x.2.2) a=some (fIx x.2.2 a):=bUp (s:=x) (md x hm);have e':cI (x.1,x.2.1,x.2.2) 4 (fIx x.2.2 a)=some (jA x 4 (fIx x.2.2 a)):=aGn (s:=x) (md x hm);have hb:y.length<=1000000:=by omega
  unfold mS;simp only [hd,bS,zZ,cEf,hx,aA,e,e',hw,aE (b:=24) (n:=y.length) (m:=1) (by decide) (by omega)];cases decide (fIx x.2.2 a>=0)
  .simp
  .rfl) (fun y=>by simp)]
 rw [aA,hz1,aA,aE (b:=24) (n:=((cH k.1 a).flatMap (mS 1 b)++(cH k.1 b).flatMap (mS 4 a)).length) (m:=(bK k.2 dA a b dA).length) (by decide) (by rw [cEy];omega)];rfl
theorem aWx {α β:Type} (l:List α) (g:α->List β) (c:Bool) (a0:List β) {step:Int×List β->Option ((Int×List β)⊕List β)} (hl:l.length<=1000000) (hN:a0.length+(l.map fun x=>(g x).length).sum<=1000000)
  (hs:c=true-> ∀ (k:Nat) (x:α) (a:List β),idx l (k:Int)=some x->l[k]? =some x->x∈l->decide ((k:Int)<(l.length:Int))=true->wr ((k:Int)+1)=((k+1:Nat):Int)->a.length+(g x).length<=1000000->step ((k:Int),a)=some (.inl (((k+1:Nat):Int),a++g x)))
  (he: ∀ a,step ((l.length:Int),a)=some (.inr a)) (hc:c=false->step ((0:Int),a0)=some (.inr a0)):aC step ((0:Int),a0)=some (a0++cond c (l.flatMap g) []):=by
 cases c with
 | true=>exact eA l g (fun x=>x) a0 hl hN (hs rfl) he
 | false=>rw [zY,cFe];exact bI (hc rfl)
theorem cAb {t:den tTo} {k:den tDb} (ht:t.1.length<=1000000) (h:DbS k) (a b:Int):nC t k a b=some (oM t k a b):=by
 have hA:=aDf (t:=t) (r:=a) (by omega);have hB:=aDf (t:=t) (r:=b) (by omega);unfold nC oM ixb pj2 pj3;rw [show ((t.1,t.2):den tTo)=t from rfl,hA,hB];cases c0:a==b with
 | true=>rfl
 | false=>
 cases c1:cN t a with
 | false=>rfl
 | true=>
 cases c2:cN t b with
 | false=>rfl
 | true=>
 have e1:dM (k.1,k.2) a=some (cH k.1 a):=aL8 (k:=k) (cEa h.down (by decide)) h.hd;have e2:dM (k.1,k.2) b=some (cH k.1 b):=aL8 (k:=k) (cEa h.down (by decide)) h.hd;obtain ⟨lu,mu⟩:=h.downs a;obtain ⟨ld,md⟩:=h.downs b;obtain ⟨xa,hxa,ea⟩:=aGg c1;obtain ⟨xb,hxb,eb⟩:=aGg c2;have ca:eG t a=xa.2.1:=by unfold eG;rw [hxa];rfl
 have cb:eG t b=xb.2.1:=by unfold eG;rw [hxb];rfl
 have hal:uS (k.1,k.2) a b=some _:=bWm (k:=k) h a b;have hcz: ∀ (u:den tSg) (x y:Int) (d:den tSg),u.2.2.length<=1000000->d.2.2.length<=1000000->gN (k.1,k.2) (u.1,u.2.1,u.2.2) x y (d.1,d.2.1,d.2.2)=some (bK k.2 u x y d):=fun u x y d h1 h2=>bDs (k:=k) h (up:=u) (down:=d) h1 h2 x y
 have hz1: ∀ (x y:Int),gN (k.1,k.2) (0,0,[]) x y (0,0,[])=some (bK k.2 dA x y dA):=fun x y=>hcz dA x y dA (by decide) (by decide)
 have hz2: ∀ (x y:Int) (d:den tSg),d.2.2.length<=1000000->gN (k.1,k.2) (0,0,[]) x y (d.1,d.2.1,d.2.2)=some (bK k.2 dA x y d):=fun x y d hd=>hcz dA x y d (by decide) hd
 have hz3: ∀ (u:den tSg) (x y:Int),u.2.2.length<=1000000->gN (k.1,k.2) (u.1,u.2.1,u.2.2) x y (0,0,[])=some (bK k.2 u x y dA):=fun u x y hu=>hcz u x y dA hu (by decide)
 have hf: ∀ s:den tSg,dP (s.1,s.2.1,s.2.2)=some (cA s):=fun s=>bNc s
 obtain ⟨n1,n2,n3,n4,n5,n6,s1,s2,s4,s5,s6,s7⟩:=aHm h a b;simp only [zY,zZ,aA,cEc,cF0,hal,e1,e2,aT,bF,aX,aY,bA];generalize hU:cH k.1 a=ups at *;generalize hD:cH k.1 b=downs at *;have q3:(ups.flatMap (mS 1 b)++downs.flatMap (mS 4 a)).length<=60:=by rw [cEy];omega
 generalize ups.flatMap (mS 1 b)++downs.flatMap (mS 4 a)=l3 at *;have q4:(l3++bK k.2 dA a b dA).length<=120:=by rw [cEy];omega
 generalize l3++bK k.2 dA a b dA=l4 at *;rw [eA ups (fun u=>downs.flatMap fun d=>pH u d) (fun x=>x) l4 (by omega) (by omega) (fun i u y hi hx hm hd hw hb=>by
  have hy:y.length<=1000000:=by omega
  have hb0:y.length+(downs.flatMap fun d=>pH u d).length<=1000000:=hb;have hsum:(downs.map fun d=>(pH u d).length).sum=(downs.flatMap fun d=>pH u d).length:=by rw [cHh]
  simp only [hd,bS,zZ,cEf,hx,aA,hw];rw [eA downs (fun d=>pH u d) (fun x=>x) y (by omega) (by rw [hsum];exact hb0) (fun j d z hj hx' hm' hd' hw' hb'=>by
   have e:lK (u.1,u.2.1,u.2.2) (d.1,d.2.1,d.2.2)=some (aA5 u d):=bJv (up:=u) (down:=d) (mu u hm) (md d hm');have hb:z.length<=1000000:=by omega
   unfold pH;simp only [hd',bS,zZ,cEf,hx',aA,e,hw',aE (b:=24) (n:=z.length) (m:=1) (by decide) (by omega)];cases decide (((aA5 u d).length:Int)>0)
   .simp
   .rfl) (fun y=>by simp)]
  rfl) (fun y=>by simp)]
 rw [aA];have q5:(l4++ups.flatMap fun u=>downs.flatMap fun d=>pH u d).length<=1020:=by rw [cEy];omega
 generalize (l4++ups.flatMap fun u=>downs.flatMap fun d=>pH u d)=l5 at *;rw [aWx downs (fun d=>bK k.2 dA a (cA d) d) (eG t a) l5 (by omega) (by omega) (fun hc i d y hi hx hm hd hw hb=>by
  rw [ca] at hc;simp only [hd,bS,zZ,ea,hc,cEf,hx,aA,hf,hz2 _ _ d (md d hm),hw];rw [aE (b:=24) (n:=y.length) (m:=(bK k.2 dA a (cA d) d).length) (by decide) (by omega)];rfl) (fun y=>by simp) (fun hc=>by
  rw [ca] at hc;simp only [ea,aA,hc];cases decide ((0:Int)<(downs.length:Int))<;>rfl),aA]
 have q6:(l5++cond (eG t a) (downs.flatMap fun d=>bK k.2 dA a (cA d) d) []).length<=2820:=by
  rw [cEy];cases eG t a
  .simp only [zY,cFf];omega
  .simp only [zZ];omega
 generalize (l5++cond (eG t a) (downs.flatMap fun d=>bK k.2 dA a (cA d) d) [])=l6 at *;rw [aWx ups (fun u=>bK k.2 u (cA u) b dA) (eG t b) l6 (by omega) (by omega) (fun hc i d y hi hx hm hd hw hb=>by
  rw [cb] at hc;simp only [hd,bS,zZ,eb,hc,cEf,hx,aA,hf,hz3 d _ _ (mu d hm),hw];rw [aE (b:=24) (n:=y.length) (m:=(bK k.2 d (cA d) b dA).length) (by decide) (by omega)];rfl) (fun y=>by simp) (fun hc=>by
  rw [cb] at hc;simp only [eb,aA,hc];cases decide ((0:Int)<(ups.length:Int))<;>rfl),aA]
 have q7:(l6++cond (eG t b) (ups.flatMap fun u=>bK k.2 u (cA u) b dA) []).length<=4620:=by
  rw [cEy];cases eG t b
  .simp only [zY,cFf];omega
  .simp only [zZ];omega
 generalize (l6++cond (eG t b) (ups.flatMap fun u=>bK k.2 u (cA u) b dA) [])=l7 at *;rw [eA ups (fun u=>downs.flatMap fun d=>bK k.2 u (cA u) (cA d) d) (fun x=>x) l7 (by omega) (by omega) (fun i u y hi hx hm hd hw hb=>by
  have hb0:y.length+(downs.flatMap fun d=>bK k.2 u (cA u) (cA d) d).length<=1000000:=hb;have hsum:(downs.map fun d=>(bK k.2 u (cA u) (cA d) d).length).sum=(downs.flatMap fun d=>bK k.2 u (cA u) (cA d) d).length:=by rw [cHh]
  simp only [hd,bS,zZ,cEf,hx,aA,hw];rw [eA downs (fun d=>bK k.2 u (cA u) (cA d) d) (fun x=>x) y (by omega) (by rw [hsum];exact hb0) (fun j d z hj hx' hm' hd' hw' hb'=>by
   simp only [hd',bS,zZ,cEf,hx',aA,hf,hcz u _ _ d (mu u hm) (md d hm'),hw'];rw [aE (b:=24) (n:=z.length) (m:=(bK k.2 u (cA u) (cA d) d).length) (by decide) (by omega)];rfl) (fun y=>by simp)]
  rfl) (fun y=>by simp)]
 rfl
def eR (p:den tPt):Prop:=cEo (α:=den tPp) p<=3/\ ∀ x:den tPp,x∈(show lPp from p)->x.2.2.2.length<=5
def aR8 (n:Nat) (l:lPt):Prop:=l.length<=n/\ ∀ p∈l,eR p
theorem aQk:eR []:=⟨by simp,fun x hx=>(cE1 hx).elim⟩
theorem aB3 {t:Ty} {B:Nat}: ∀ {l:List (den t)},(∀ x∈l,tot t x<=B)->tot (.sl t) l<=(B+1) * l.length
 | [],_=>by simp [tot]
 | x::l,h=>by
  have ih:=aB3 (l:=l) fun y hy=>h y (cEp _ hy)
  have hx:=h x (by simp);rw [iM,cE8,Nat.mul_add,Nat.mul_one];omega
theorem aZc {q:den tPp} (h:q.2.2.2.length<=5):tot tPp q<=5:=by
 show tot ti q.1+(tot ti q.2.1+(tot ti q.2.2.1+tot (.sl bU) q.2.2.2))<=5;rw [dK (t:=bU) rfl];show 0+(0+(0+q.2.2.2.length))<=5;omega
theorem aIh {p:den tPt} (h:eR p):tot tPt p<=18:=by
 have h1:=aB3 (t:=tPp) (B:=5) (l:=p) fun x hx=>aZc (h.2 x hx)
 have h2:=h.1;show tot (.sl tPp) p<=18;have :(5+1) * cEo (α:=den tPp) p<=18:=by omega
 exact cEa h1 this
theorem aOd {n:Nat} {l:lPt} (h:aR8 n l):tot (.sl tPt) l<=19 * n:=by
 have h1:=aB3 (t:=tPt) (B:=18) (l:=l) fun x hx=>aIh (h.2 x hx)
 have h2:=h.1;have :(18+1) * l.length<=19 * n:=by omega
 exact cEa h1 this
theorem aIp {s:den tSg} (h:s.2.2.length<=5) (k i:Int): ∃ q:den tPp,cI s k i=some q/\q.2.2.2.length<=5:=⟨_,aGn (by omega),cEa (aI7 s k i) h⟩
theorem aU5 {up down:den tSg} (h1:up.2.2.length<=5) (h2:down.2.2.length<=5): ∀ n:Nat,eR (aEm up down n)
 | 0=>aQk
 | n+1=>by
  unfold aEm;split
  .refine ⟨by simp,fun x hx=> ?_⟩;simp only [cEh,cE1,or_false] at hx;rcases hx with rfl | rfl
   .exact cEa (aI7 _ _ _) h1
   .exact cEa (aI7 _ _ _) h2
  .exact aU5 h1 h2 n
theorem bQ4 {up down:den tSg} (h1:up.2.2.length<=5) (h2:down.2.2.length<=5): ∃ p,lK up down=some p/\eR p:=⟨_,bJv (by omega) (by omega),aU5 h1 h2 _⟩
theorem aRm {p:lPp} (h:eR p):tot tPt p<=1073741824:=cEa (aIh h) (by decide)
theorem bLy {x:den tPp} (h:x.2.2.2.length<=5):eR [x]:=⟨by simp,fun y hy=>by rw [cEk.1 hy];exact h⟩
theorem aZs {s:den tSg} (hs:s.2.2.length<=5) (k:Int) {p:lPp} {n:Nat} (hp:p.length<=n/\ ∀ x∈p,x.2.2.2.length<=5):(gG s k p).length<=n+1/\ ∀ x∈gG s k p,x.2.2.2.length<=5:=by
 unfold gG;cases decide ((s.2.2.length:Int)>0) with
 | false=>exact ⟨cEa hp.1 (Nat.le_succ _),hp.2⟩
 | true=>
  refine ⟨by simp;exact hp.1,fun x hx=> ?_⟩;rcases cEl.1 (show x∈p++[jA s k 0] from hx) with hx | hx
  .exact hp.2 x hx
  .rw [cEk.1 hx];exact cEa (aI7 s k 0) hs
theorem bDu {up core down:den tSg} (h1:up.2.2.length<=5) (h2:core.2.2.length<=5) (h3:down.2.2.length<=5) (b:Bool):eR (nB up core b down):=
 aZs h3 4 (n:=2) (aZs h2 (cond b 3 2) (n:=1) (aZs h1 1 (n:=0) ⟨by simp,fun x hx=>(cE1 hx).elim⟩))
theorem aMi {k:den tDb} (h:DbS k) {up down:den tSg} (h1:up.2.2.length<=5) (h3:down.2.2.length<=5) (a b:Int): ∀ p∈bK k.2 up a b down,eR p:=by
 intro p hp;unfold bK at hp;rcases cEl.1 hp with hp | hp
 .obtain ⟨s,hs,hp⟩:=cFk.1 hp;rw [cEk.1 hp];exact bDu h1 (h.hc1 s (cEq.1 hs).1) h3 false
 .obtain ⟨s,hs,hp⟩:=cFk.1 hp;rw [cEk.1 hp];exact bDu h1 (h.hc1 s (cEq.1 hs).1) h3 true
theorem aVs {t:den tTo} {k:den tDb} (h:DbS k) (a b:Int): ∀ p∈oM t k a b,eR p:=by
 intro p hp;have mu: ∀ s∈cH k.1 a,s.2.2.length<=5:=fun s hs=>h.hd1 s (cEq.1 hs).1
 have md: ∀ s∈cH k.1 b,s.2.2.length<=5:=fun s hs=>h.hd1 s (cEq.1 hs).1
 have one: ∀ (kind r:Int) (s:den tSg),s.2.2.length<=5-> ∀ p∈mS kind r s,eR p:=fun kind r s hs p hp=>by
  unfold mS at hp;cases hc:decide (fIx s.2.2 r>=0) with
  | false=>rw [hc] at hp;cases hp
  | true=>
   rw [hc] at hp;rw [cEk.1 hp];exact bLy (cEa (aI7 _ _ _) hs)
 unfold oM at hp;cases hc:(a==b||(!cN t a|| !cN t b)) with
 | true=>rw [hc] at hp;cases hp
 | false=>
 rw [hc] at hp;simp only [zY,cEl] at hp;rcases hp with (((((hp | hp) | hp) | hp) | hp) | hp) | hp
 .obtain ⟨s,hs,hp⟩:=cFk.1 hp;exact one _ _ s (mu s hs) p hp
 .obtain ⟨s,hs,hp⟩:=cFk.1 hp;exact one _ _ s (md s hs) p hp
 .exact aMi h (by decide) (by decide) _ _ p hp
 .obtain ⟨u,hu,hp⟩:=cFk.1 hp;obtain ⟨d,hd,hp⟩:=cFk.1 hp;unfold pH at hp;cases hq:decide (((aA5 u d).length:Int)>0) with
  | false=>rw [hq] at hp;cases hp
  | true=>
   rw [hq] at hp;rw [cEk.1 hp];exact aU5 (mu u hu) (md d hd) _
 .cases hq:eG t a with
  | false=>rw [hq] at hp;cases hp
  | true=>
   rw [hq] at hp;obtain ⟨d,hd,hp⟩:=cFk.1 hp;exact aMi h (by decide) (md d hd) _ _ p hp
 .cases hq:eG t b with
  | false=>rw [hq] at hp;cases hp
  | true=>
   rw [hq] at hp;obtain ⟨u,hu,hp⟩:=cFk.1 hp;exact aMi h (mu u hu) (by decide) _ _ p hp
 .obtain ⟨u,hu,hp⟩:=cFk.1 hp;obtain ⟨d,hd,hp⟩:=cFk.1 hp;exact aMi h (mu u hu) (md d hd) _ _ p hp
theorem aW9 {t:den tTo} {k:den tDb} (h:DbS k) (a b:Int):(oM t k a b).length<=100000:=by
 obtain ⟨n1,n2,n3,n4,n5,n6,s1,s2,s4,s5,s6,s7⟩:=aHm h a b;have n7:((cH k.1 a).flatMap fun u=>(cH k.1 b).flatMap fun d=>bK k.2 u (cA u) (cA d) d).length<=54000:=by rw [cHh];exact s7
 unfold oM;cases (a==b||(!cN t a|| !cN t b)) with
 | true=>exact cEt _
 | false=>
 cases eG t a<;>cases eG t b<;>simp only [zY,zZ,cEy,cFf]<;>omega
def aHq (q:den tPp) (i:Nat):Int:=aBc q (if kW q.1 then i+1 else i)
def aCu (t:den tTo) (q:den tPp):Bool:=(q.2.2.2.zipIdx 0).all fun z=>wP t q.2.1 (aHq q z.2) z.1
def aMp (t:den tTo) (p:lPp):Bool:=p.all (aCu t)
theorem bXs {t:den tTo} {q:den tPp} (ht:t.1.length<=1000000) (h:q.2.2.2.length<=1000000):pL t q=some (aCu t q):=by
 unfold pL aCu pj2 pj4 pj5;rw [aO (l:=q.2.2.2) (fun k (x:den bU)=>if wP t q.2.1 (aHq q k) x then none else some false) (by omega) (fun k x hi hd hw hx hk=>by
  have e1:kE (q.1,q.2.1,q.2.2.1,q.2.2.2) (k:Int)=some (aBc q k):=aV7 (p:=q) (by omega) (by omega);have e2:kE (q.1,q.2.1,q.2.2.1,q.2.2.2) ((k+1:Nat):Int)=some (aBc q (k+1)):=aV7 (p:=q) (by omega) (by omega);have e3: ∀ b,nW (t.1,t.2) q.2.1 b (x.1,x.2.1,x.2.2.1,x.2.2.2.1,x.2.2.2.2)=some (wP t q.2.1 b x):=fun b=>bA3 (t:=t) (h:=x) (by omega)
  simp only [hd,hi,hw,zZ,aA,e1,e2,e3,aHz];unfold aHq;cases kW q.1 with
  | true=>
   simp only [zZ,aA,e3,zV];cases wP t q.2.1 (aBc q (k+1)) x<;>rfl
  | false=>
   simp only [zY,aA,e3,cEg,zU];cases wP t q.2.1 (aBc q k) x<;>rfl) (by simp),aBx]
 cases (q.2.2.2.zipIdx 0).all fun z=>wP t q.2.1 (aHq q z.2) z.1<;>rfl
theorem bVm {t:den tTo} {q:den tPp} (ht:t.1.length<=1000000) (h:q.2.2.2.length<=1000000):pV t q=some (aCu t q):=by
 unfold pV aCu pj2 pj4 pj5;rw [aO (l:=q.2.2.2) (fun k (x:den bU)=>if wP t q.2.1 (aHq q k) x then none else some false) (by omega) (fun k x hi hd hw hx hk=>by
  have e1:iX (q.1,q.2.1,q.2.2.1,q.2.2.2) (k:Int)=some (aBc q k):=aVh (p:=q) (by omega) (by omega);have e2:iX (q.1,q.2.1,q.2.2.1,q.2.2.2) ((k+1:Nat):Int)=some (aBc q (k+1)):=aVh (p:=q) (by omega) (by omega);have e3: ∀ b,gR (t.1,t.2) q.2.1 b (x.1,x.2.1,x.2.2.1,x.2.2.2.1,x.2.2.2.2)=some (wP t q.2.1 b x):=fun b=>bAb (t:=t) (h:=x) (by omega)
  have eb:aAl (q.1,q.2.1,q.2.2.1,q.2.2.2) (k:Int)=some (aHq q k):=by
   unfold aAl aHq pj4;simp only [aH2,aA,hw,e1,e2];cases kW q.1<;>rfl
  simp only [hd,hi,hw,zZ,aA,eb,e3];cases wP t q.2.1 (aHq q k) x<;>rfl) (by simp),aBx]
 cases (q.2.2.2.zipIdx 0).all fun z=>wP t q.2.1 (aHq q z.2) z.1<;>rfl
theorem bZ8 {t:den tTo} {p:lPp} (ht:t.1.length<=1000000) (h:eR p):qR t p=some (aMp t p):=by
 have h3:=h.1;unfold qR aMp pj2 pj4;rw [aO (l:=p) (fun _ (x:den tPp)=>if aCu t x then none else some false) (by omega) (fun k x hi hd hw hx hk=>by
  have e:pL (t.1,t.2) (x.1,x.2.1,x.2.2.1,x.2.2.2)=some (aCu t x):=bXs (t:=t) (q:=x) ht (cEa (h.2 x hx) (by decide));simp only [hd,hi,hw,zZ,aA,e];cases aCu t x<;>rfl) (by simp),iC]
 cases p.all (aCu t)<;>rfl
theorem cBe {t:den tTo} {p:lPp} (ht:t.1.length<=1000000) (h:eR p):pQ t p=some (aMp t p):=by
 have h3:=h.1;unfold pQ aMp pj2 pj4;rw [aO (l:=p) (fun _ (x:den tPp)=>if aCu t x then none else some false) (by omega) (fun k x hi hd hw hx hk=>by
  have e:pV (t.1,t.2) (x.1,x.2.1,x.2.2.1,x.2.2.2)=some (aCu t x):=bVm (t:=t) (q:=x) ht (cEa (h.2 x hx) (by decide));simp only [hd,hi,hw,zZ,aA,e];cases aCu t x<;>rfl) (by simp),iC]
 cases p.all (aCu t)<;>rfl
def aDa (now:Int) (l:cF):Bool:=l.all fun h=>decide (now<=h.2.2.2.1)
def aIy (t:den tTo) (p:lPp) (now:Int):Bool:=cond (rQ t p&&aMp t p) (p.all fun x=> !decide (x.2.1>now)&&aDa now x.2.2.2) false
theorem aRs (now:Int): ∀ (l:cF) (a:Int),decide (now>(l.foldl oX (a,true)).1)= !(decide (now<=a)&&aDa now l)
 | [],a=>by
  show decide (now>a)= !(decide (now<=a)&&true)
  by_cases h:now<=a
  .rw [zX h,zW (by omega)];rfl
  .rw [zW h,zX (by omega)];rfl
 | h::l,a=>by
  rw [cF8];unfold aDa;rw [cGd]
  by_cases c:h.2.2.2.1<a
  .have e2:oX (a,true) h=(h.2.2.2.1,true):=by unfold oX;simp [c]
   rw [e2,aRs now l];unfold aDa
   by_cases d:now<=h.2.2.2.1
   .rw [zX d,zX (cGu d (Int.le_of_lt c))];rfl
   .rw [zW d];simp
  .have e2:oX (a,true) h=(a,true):=by unfold oX;simp [c]
   rw [e2,aRs now l];unfold aDa
   by_cases d:now<=a
   .rw [zX d,zX (cGu d (Int.not_lt.1 c))];rfl
   .rw [zW d];rfl
theorem bOf {now:Int} {l:cF} (h:l≠[]):decide (now>yI l)= !aDa now l:=by
 cases l with
 | nil=>exact absurd rfl h
 | cons x l=>
  unfold yI;rw [cF8];have e2:oX (0,false) x=(x.2.2.2.1,true):=by unfold oX;simp
  rw [e2,aRs];unfold aDa;rw [cGd]
theorem bRk {l:cF} (hl:l.length<=1000000):iH l=some (yI l):=by
 unfold iH;rw [fO (fun k (a:Int)=>(a,(k:Int))) ((0:Int),(0:Int)) 0 l aBg (fun _=>0) (fun _=>0) 1 id rfl (by omega) (by rw [sum_nil];omega) (fun k x a=>by omega) (fun k x a hi hx hd hw hk hb=>by
  simp only [hd,hi,hw,zZ,aA];unfold aBg
  by_cases h0:k=0
  .subst h0;rw [zT (.inl rfl)];rfl
  .rw [show ((k:Int)==0)=false by rw [beq_eq_false_iff_ne];omega];simp only [zY,aA]
   by_cases c:x.2.2.2.1<a
   .rw [zX c,zT (.inr c)];rfl
   .rw [zW c,zS (by rintro (e | e);exact h0 e;exact c e)];rfl) (fun a=>by simp),bB1]
 rfl
theorem aPc {t:den tTo} {p:den tPt} (h:wfP t p=true) {k:Nat} {x:den tPp} (hx:p[k]? =some x):uA t x=true/\(k=0\/aPh ((p[k - 1]?).getD pt0) x=true):=by
 unfold wfP at h;rw [cEe] at h;have :=(aC1 (aA6 t p) p).1 h.2 k x hx;unfold aA6 at this;rw [cEe,cFq,zR] at this;exact this
theorem aRu {t:den tTo} {x:den tPp} (h:uA t x=true):0<x.2.2.2.length:=by
 unfold uA at h;rw [cEe] at h;have :=(bQ.1 h.1).1;omega
theorem bDb {t:den tTo} {p:lPp} (h:rQ t p=true): ∀ x∈p,x.2.2.2≠[]:=by
 intro x hx e;unfold rQ at h;rw [cEe] at h;obtain ⟨k,hk⟩:=cG4.1 hx;have :=aRu (aPc h.1 hk).1;rw [e] at this;exact absurd this (by decide)
theorem bZj {t:den tTo} {p:lPp} (ht:t.1.length<=1000000) (h2:t.2.length<=1000000) (h:eR p) (now:Int):qP t p now=some (aIy t p now):=by
 have h3:=h.1;have e1:lJ (t.1,t.2) p=some (rQ t p):=aWs (t:=t) (p:=p) (by omega) (by omega) (aRm h);have e2:qR (t.1,t.2) p=some (aMp t p):=bZ8 (t:=t) ht h;unfold qP aIy pj2;simp only [e1,e2,aA];cases c1:rQ t p with
 | false=>rfl
 | true=>
  cases c2:aMp t p with
  | false=>rfl
  | true=>
   simp only [cEc,zY,aA,cFv,zZ];rw [aO (l:=p) (fun _ (x:den tPp)=>if !decide (x.2.1>now)&&aDa now x.2.2.2 then none else some false) (by omega) (fun k x hi hd hw hx hk=>by
    have e:iH x.2.2.2=some (yI x.2.2.2):=bRk (cEa (h.2 x hx) (by decide));simp only [hd,hi,hw,zZ,aA,e,bOf (now:=now) (bDb c1 x hx)];cases decide (x.2.1>now)<;>cases aDa now x.2.2.2<;>rfl) (by simp),iC]
   cases p.all fun x=> !decide (x.2.1>now)&&aDa now x.2.2.2<;>rfl
theorem bYu {t:den tTo} {p:lPp} (ht:t.1.length<=1000000) (h2:t.2.length<=1000000) (h:eR p) (now:Int):qO t p now=some (aIy t p now):=by
 have h3:=h.1;have e1:lU (t.1,t.2) p=some (rQ t p):=aX0 (t:=t) (p:=p) (by omega) (by omega) (aRm h);have e2:pQ (t.1,t.2) p=some (aMp t p):=cBe (t:=t) ht h;unfold qO aIy pj2 pj5;simp only [e1,e2,aA];cases c1:rQ t p with
 | false=>rfl
 | true=>
  cases c2:aMp t p with
  | false=>rfl
  | true=>
   simp only [cEc,zY,aA,cFv,zZ];rw [aO (l:=p) (fun _ (x:den tPp)=>if !decide (x.2.1>now)&&aDa now x.2.2.2 then none else some false) (by omega) (fun k x hi hd hw hx hk=>by
    have hx3:=h.2 x hx;simp only [hd,hi,hw,zZ,aA];cases c:decide (x.2.1>now) with
    | true=>rfl
    | false=>
     simp only [zY];rw [aO (l:=x.2.2.2) (fun _ (y:den bU)=>if decide (now<=y.2.2.2.1) then none else some (cD8 (cD8 false))) (by omega) (fun j y hj hd' hw' hy hk'=>by
      have ehv: ∀ (hp:den bU) (n:Int),nZ hp n=some (decide (n<=hp.2.2.2.1)):=fun _ _=>rfl
      simp only [hd',hj,hw',zZ,aA,ehv];cases decide (now<=y.2.2.2.1)<;>rfl) (by simp),iC]
     unfold aDa;cases x.2.2.2.all fun y=>decide (now<=y.2.2.2.1)<;>rfl) (by simp),iC]
   cases p.all fun x=> !decide (x.2.1>now)&&aDa now x.2.2.2<;>rfl
noncomputable def aEw (l:List lPp) (p:lPp):Bool:=l.any fun x=>wJ x p
theorem aQt {α:Type} (p:α->Bool): ∀ (l:List α) (k:Nat),bY (fun _ x=>if p x then some true else none) k l=if l.any p then some true else none
 | [],_=>rfl
 | x::l,k=>by
  rw [List.any_cons];unfold bY
  by_cases h:p x=true
  .rw [zT h,h];rfl
  .rw [zS h];have h':p x=false:=by simpa using h
   rw [h',Bool.false_or];exact aQt p l (k+1)
theorem aLq {p:lPp} (h:eR p):SmB 68719476736 (.sl tPp) p:=(bC (t:=tPt) (aRm h)).mono (by decide)
theorem bW4 {l:List lPp} {p:lPp} (hl:l.length<=1000000) (h: ∀ x∈l,eR x) (hp:eR p):xQ l p=some (aEw l p):=by
 unfold xQ aEw;rw [aO (l:=l) (fun _ (x:lPp)=>if wJ x p then some true else none) (by omega) (fun k x hi hd hw hx hk=>by
  have e:lB x p=some (wJ x p):=bEi (aLq (h x hx)) (aLq hp);simp only [hd,hi,hw,zZ,aA,e];cases wJ x p<;>rfl) (by simp),aQt (fun x=>wJ x p)]
 cases l.any fun x=>wJ x p<;>rfl
theorem bWw {l:List lPp} {p:lPp} (hl:l.length<=1000000) (h: ∀ x∈l,eR x) (hp:eR p):xV l p=some (aEw l p):=by
 unfold xV aEw;rw [aO (l:=l) (fun _ (x:lPp)=>if wJ x p then some true else none) (by omega) (fun k x hi hd hw hx hk=>by
  have e:lM x p=some (wJ x p):=bEs (aLq (h x hx)) (aLq hp);simp only [hd,hi,hw,zZ,aA,e];cases wJ x p<;>rfl) (by simp),aQt (fun x=>wJ x p)]
 cases l.any fun x=>wJ x p<;>rfl
noncomputable def uY (t:den tTo) (now:Int) (l:List lPp) (p:lPp):List lPp:=
 cond (decide ((l.length:Int)<24)) (cond (aIy t p now) (cond (aEw l p) l (l++[p])) l) l
noncomputable def wO (t:den tTo) (k:den tDb) (a b now:Int):List lPp:=(oM t k a b).foldl (uY t now) []
theorem bA8 {t:den tTo} {now:Int} {l:List lPp} {p:lPp} (h:l.length<=24/\ ∀ x∈l,eR x) (hp:eR p):(uY t now l p).length<=24/\ ∀ x∈uY t now l p,eR x:=by
 unfold uY
 by_cases hc:(l.length:Int)<24
 .rw [zX hc,zZ];cases aIy t p now with
  | false=>exact h
  | true=>
   cases aEw l p with
   | true=>exact h
   | false=>
    refine ⟨by simp;omega,fun x hx=> ?_⟩;rcases cEl.1 (show x∈l++[p] from hx) with hx | hx
    .exact h.2 x hx
    .rw [cEk.1 hx];exact hp
 .rw [zW hc];exact h
theorem bL1 {t:den tTo} {now:Int}: ∀ (m l:List lPp),(∀ p∈m,eR p)->l.length<=24->(∀ x∈l,eR x)->(m.foldl (uY t now) l).length<=24/\ ∀ x∈m.foldl (uY t now) l,eR x
 | [],l,_,h1,h2=>⟨h1,h2⟩
 | p::m,l,h,h1,h2=>by
  obtain ⟨a,b⟩:=bA8 (t:=t) (now:=now) ⟨h1,h2⟩ (h p (by simp));exact bL1 m _ (fun q hq=>h q (cEp _ hq)) a b
theorem aX3 {t:den tTo} {now:Int}: ∀ (m l:List lPp),¬ ((l.length:Int)<24)->m.foldl (uY t now) l=l
 | [],_,_=>rfl
 | p::m,l,h=>by
  have e:uY t now l p=l:=by unfold uY;rw [zW h];rfl
  rw [cF8,e];exact aX3 m l h
theorem bW8 {t:den tTo} {k:den tDb} (ht:t.1.length<=1000000) (h2:t.2.length<=1000000) (h:DbS k) (a b now:Int):sE t k a b now=some (wO t k a b now):=by
 have e0:nD (t.1,t.2) (k.1,k.2) a b=some (oM t k a b):=cAm (t:=t) (k:=k) ht h a b;have hB:=aVs (t:=t) h a b;have hL:=aW9 (t:=t) h a b;unfold sE wO pj2;rw [e0,aA];rw [(aJm (l:=oM t k a b) (uY t now) (fun _ l=>l.length<=24/\ ∀ x∈l,eR x) (out:=fun x=>x) (by omega) ⟨by simp,fun x hx=>(cE1 hx).elim⟩ (fun i p l hi hd hw hp hk hI=>by
  have e1:qP (t.1,t.2) p now=some (aIy t p now):=bZj (t:=t) ht h2 (hB p hp) now;have e2:xQ l p=some (aEw l p):=bW4 (by omega) hI.2 (hB p hp);refine ⟨?_,bA8 hI (hB p hp)⟩;unfold uY;simp only [hd,hi,hw,zZ,aA,e1,e2,aE (b:=24) (n:=l.length) (m:=1) (by decide) (by omega)];cases decide ((l.length:Int)<24)<;>cases aIy t p now<;>cases aEw l p<;>rfl) (fun l=>by simp)).1]
 rfl
theorem bDq {t:den tTo} {k:den tDb} (ht:t.1.length<=1000000) (h2:t.2.length<=1000000) (h:DbS k) (a b now:Int):iW t k a b now=some (wO t k a b now):=by
 have e0:nC (t.1,t.2) (k.1,k.2) a b=some (oM t k a b):=cAb (t:=t) (k:=k) ht h a b;have hB:=aVs (t:=t) h a b;have hL:=aW9 (t:=t) h a b;unfold iW wO ixb pj2;rw [e0,aA];have key: ∀ (G:Int×List lPp->Option ((Int×List lPp)⊕List lPp)),
   (∀ (i:Nat) (p:lPp) (l:List lPp),(oM t k a b)[i]? =some p->i<(oM t k a b).length->p∈oM t k a b->l.length<=24->(∀ x∈l,eR x)->(l.length:Int)<24->G ((i:Int),l)=some (.inl (((i+1:Nat):Int),uY t now l p)))->
   (∀ (i:Nat) (l:List lPp),i<=(oM t k a b).length->(i=(oM t k a b).length\/ ¬ ((l.length:Int)<24))->G ((i:Int),l)=some (.inr l))->
   ∀ (rest pre l:List lPp),pre++rest=oM t k a b->l.length<=24->(∀ x∈l,eR x)->aC G ((pre.length:Int),l)=some (rest.foldl (uY t now) l):=by
  intro G hs he rest
  induction rest with
  | nil=>intro pre l hp h1 h3;exact bI (he pre.length l (by rw [<- hp];simp) (.inl (by rw [<- hp];simp)))
  | cons p rest ih=>
   intro pre l hp h1 h3;have hlt:pre.length<(oM t k a b).length:=by rw [<- hp];simp
   have hx:(oM t k a b)[pre.length]? =some p:=by rw [<- hp];simp
   by_cases hc:(l.length:Int)<24
   .have hpB:=hB p (cEn hx);obtain ⟨q1,q2⟩:=bA8 (t:=t) (now:=now) ⟨h1,h3⟩ hpB;rw [cX (hs pre.length p l hx hlt (cEn hx) h1 h3 hc),cF8];have :=ih (pre++[p]) (uY t now l p) (by simpa using hp) q1 q2;simpa using this
   .rw [aX3 _ _ hc];exact bI (he pre.length l (by omega) (.inr hc))
 refine (congrArg (fun o=>Option.bind o _) (key _ (fun i p l hx hi hp h1 h3 hc=> ?_) (fun i l hi hc=> ?_) (oM t k a b) [] [] rfl (by simp) (fun x hx=>(cE1 hx).elim))).trans ?_
 .have e1:qO (t.1,t.2) p now=some (aIy t p now):=bYu (t:=t) ht h2 (hB p hp) now;have e2:xV l p=some (aEw l p):=bWw (by omega) h3 (hB p hp);have hd:decide ((i:Int)<((oM t k a b).length:Int))=true:=zX (by omega);have hw:wr ((i:Int)+1)=((i+1:Nat):Int):=cR (by omega);unfold uY;simp only [hd,bS,hw,zZ,cEf,hx,aA,e1,e2,zX hc,aE (b:=24) (n:=l.length) (m:=1) (by decide) (by omega)];cases aIy t p now<;>cases aEw l p<;>rfl
 .rcases hc with rfl | hc
  .simp only [zW (cE2 _),zY,aA]
  .cases decide ((i:Int)<((oM t k a b).length:Int)) with
   | false=>simp only [zY,aA]
   | true=>simp only [zZ,aA,zW hc,zY]
 .rfl
theorem aVg {t:den tTo} {k:den tDb} (h:DbS k) (a b now:Int):aR8 24 (wO t k a b now):=bL1 _ _ (aVs h a b) (by simp) (fun x hx=>(cE1 hx).elim)
theorem aNc {code:List Int} (hl:code.length<=1048576) {n:Nat} (hn:n<=1000) {c:List Int} {p h:Int} (hc:Cur code (c,p,h)): ∃ l c' p' h',dO (c,p,h) (n:Int)=some (l,c',p',h')/\(l.length=n/\ ∀ x∈l,0<=x/\x<=255)/\Cur code (c',p',h'):=by
 unfold dO pj3 pj4;refine gZ (G:=fun o=> ∃ l c' p' h',o=some (l,c',p',h')/\(l.length=n/\ ∀ x∈l,0<=x/\x<=255)/\Cur code (c',p',h')) n (fun s:Int×List Int×List Int×Int×Int=>s.1) (fun i s=>(s.2.1.length=i/\ ∀ x∈s.2.1,0<=x/\x<=255)/\Cur code s.2.2) (fun r:List Int×List Int×Int×Int=>(r.1.length=n/\ ∀ x∈r.1,0<=x/\x<=255)/\Cur code r.2) ?_ ?_ 0 ((0:Int),[],c,p,h) (by omega) rfl ⟨⟨rfl,fun x hx=>(cE1 hx).elim⟩,hc⟩ (fun r hr=>⟨r.1,r.2.1,r.2.2.1,r.2.2.2,rfl,hr.1,hr.2⟩)
 .rintro i ⟨_,l,c1,p1,h1⟩ hi rfl ⟨⟨g1,g2⟩,k1⟩
  simp only at g1 g2 k1;obtain ⟨v,c2,p2,h2,e2,r2,k2⟩:=aIu hl k1;obtain ⟨m,rfl⟩:=cE0 r2.1;right;refine ⟨(((i+1:Nat):Int),l++[(m:Int)],c2,p2,h2),?_,rfl,⟨by simp [g1],fun x hx=>(cEl.1 hx).elim (g2 x) fun hx=>by rw [cEk.1 hx];omega⟩,k2⟩;simp only [zX (show (i:Int)<(n:Int) by omega),zZ,e2,aA,aE (b:=1) (n:=l.length) (m:=1) (by decide) (by omega),cR (show i<=1000000000 by omega),aFq (n:=m) (by omega)]
 .rintro ⟨_,l,c1,p1,h1⟩ rfl ⟨g,k1⟩
  exact ⟨(l,c1,p1,h1),by simp only [zW (cE2 _),zY],g,k1⟩
theorem bNk {up down:den tSg} (h1:up.2.2.length<=5) (h2:down.2.2.length<=5): ∃ p,qW up down=some p/\eR p:=by
 obtain ⟨p,e,k⟩:=bQ4 h1 h2;unfold lK pj3 at e;refine ⟨p,?_,k⟩;cases hm:qW (up.1,up.2.1,up.2.2) (down.1,down.2.1,down.2.2) with
 | none=>rw [hm] at e;cases e
 | some q=>rw [hm,aA] at e;cases e;rfl
def bYg (code:List Int) (o:Option (lAS×lLk×lPp×List Int×q31)):Prop:= ∃ (as:lAS) (ls:lLk) (q:lPp) (c':List Int) (p' h':Int),o=some (as,ls,q,c',p',h')/\eR q/\aEs as ls/\Cur code (c',p',h')
theorem bB9 {q:den tPp} (h:q.2.2.2.length<=5):eR [q]:=⟨by simp,fun x hx=>by
 have hx:x∈[q]:=hx;rw [cEk.1 hx];exact h⟩
abbrev PdS:=Int×Int×Int×Int×Int×cF×cF×List Int×Int×Int
theorem aZ1 {code:List Int} (hl:code.length<=1048576) {c:List Int} {p h:Int} (hc:Cur code (c,p,h)):bYg code (vA (c,p,h)):=by
 obtain ⟨as,ls,c1,p1,h1,e1,ht,k1⟩:=aVr hl hc;obtain ⟨t2,b2,s2,c2,p2,h2,e2,l2,k2⟩:=aIg hl ht 2 k1;obtain ⟨t3,b3,s3,c3,p3,h3,e3,l3,k3⟩:=aIg hl ht 2 k2;obtain ⟨t4,b4,s4,c4,p4,h4,e4,l4,k4⟩:=aIg hl ht 1 k3;obtain ⟨v5,c5,p5,h5,e5,r5,k5⟩:=aM hl (n:=5) (by decide) (by decide) k4;unfold vA dd one pj3 pj4 pj6 pj9 zz4 zz5 zz6 zz7;simp only [e1,e2,e3,e4,e5,aA,aT,bF,aX,aY,bA,show aG 48 0 1=true from by decide,zZ];cases v5==(0:Int) with
 | true=>
  obtain ⟨q,eq,kq⟩:=bNk (up:=(t2,b2,s2)) (down:=(t3,b3,s3)) l2 l3;exact ⟨as,ls,q,c5,p5,h5,by simp only [zZ,eq,aA],kq,ht,k5⟩
 | false=>
  cases v5==(1:Int) with
  | true=>
   simp only [zZ,zY]
   by_cases hs:(s2.length:Int)>0
   .obtain ⟨v6,c6,p6,h6,e6,r6,k6⟩:=uE hl (l:=[(1:Int),(4:Int)]) (by decide) (by decide) k5;obtain ⟨q,eq,kq⟩:=aIp (s:=(t2,b2,s2)) l2 v6 0;exact ⟨as,ls,[q],c6,p6,h6,by simp only [zX hs,zZ,e6,eq,aA],bB9 kq,ht,k6⟩
   .exact ⟨as,ls,[],c5,p5,h5,by simp only [zW hs,zY,aA],aQk,ht,k5⟩
  | false=>
   cases v5==(2:Int) with
   | true=>
    simp only [zZ,zY]
    by_cases hs:(s4.length:Int)>0
    .obtain ⟨v6,c6,p6,h6,e6,r6,k6⟩:=uE hl (l:=[(2:Int),(3:Int)]) (by decide) (by decide) k5;obtain ⟨q,eq,kq⟩:=aIp (s:=(t4,b4,s4)) l4 v6 0;exact ⟨as,ls,[q],c6,p6,h6,by simp only [zX hs,zZ,e6,eq,aA],bB9 kq,ht,k6⟩
    .exact ⟨as,ls,[],c5,p5,h5,by simp only [zW hs,zY,aA],aQk,ht,k5⟩
   | false=>
    simp only [zY];obtain ⟨fc,efc⟩:=aM2 (s:=(t4,b4,s4));obtain ⟨lc,elc⟩:=bNr (s:=(t4,b4,s4)) (by show s4.length<=_;omega);refine gZ (G:=bYg code) 6 (fun s:PdS=>s.1) (fun i s=>s.2.2.2.2.2.1.length<=5/\s.2.2.2.2.2.2.1.length<=5/\Cur code s.2.2.2.2.2.2.2) (fun r:Int×Int×Int×Int×cF×cF×List Int×Int×Int=>r.2.2.2.2.1.length<=5/\r.2.2.2.2.2.1.length<=5/\Cur code r.2.2.2.2.2.2) ?_ ?_ 0 ((0:Int),t2,b2,t3,b3,s2,s3,c5,p5,h5) (by omega) rfl ⟨l2,l3,k5⟩ ?_
    .rintro i ⟨_,ut,ub,dt,db,us,ds,c6,p6,h6⟩ hi rfl ⟨g1,g2,g3⟩
     simp only at g1 g2 g3;simp only [zX (show (i:Int)<6 by omega),zZ,aA,efc,elc];cases decide ((s4.length:Int)>0) with
     | false=>exact .inl ⟨(ut,ub,dt,db,us,ds,c6,p6,h6),rfl,g1,g2,g3⟩
     | true=>
      right;obtain ⟨fu,efu⟩:=aM2 (s:=(ut,ub,us));obtain ⟨fd,efd⟩:=aM2 (s:=(dt,db,ds));simp only [zZ,efu,efd,aA];obtain ⟨x1,ex1⟩: ∃ b:Bool,(cond (decide ((us.length:Int)>(0:Int))) (some (fu != fc)) (some false))=some b:=by cases decide ((us.length:Int)>(0:Int))<;>exact ⟨_,rfl⟩
      obtain ⟨x2,ex2⟩: ∃ b:Bool,(cond (decide ((ds.length:Int)>(0:Int))) (some (fd != lc)) (some false))=some b:=by cases decide ((ds.length:Int)>(0:Int))<;>exact ⟨_,rfl⟩
      simp only [ex1,ex2,aA];obtain ⟨y1,y2,y3,c7,p7,h7,ey,ly,ky⟩: ∃ a b hs c p h,(cond x1 (Option.bind (kO (c6,p6,h6) (as,ls) (2:Int)) fun y72=>some (y72.1,y72.2.1,y72.2.2.1,y72.2.2.2.1,y72.2.2.2.2.1,y72.2.2.2.2.2)) (some (ut,ub,us,c6,p6,h6)))=some (a,b,hs,c,p,h)/\hs.length<=5/\Cur code (c,p,h):=by
       cases x1 with
       | false=>exact ⟨ut,ub,us,c6,p6,h6,rfl,g1,g3⟩
       | true=>
        obtain ⟨a,b,hs,c,p,h,eg,lg,kg⟩:=aIg hl ht 2 g3;exact ⟨a,b,hs,c,p,h,by simp only [zZ,eg,aA],lg,kg⟩
      rw [ey,aA];simp only;cases x2 with
      | false=>exact ⟨_,rfl,cR (show i<=1000000000 by omega),ly,g2,ky⟩
      | true=>
       obtain ⟨a,b,hs,c,p,h,eg,lg,kg⟩:=aIg hl ht 2 ky;refine ⟨_,by simp only [zZ,eg,aA];rfl,cR (show i<=1000000000 by omega),ly,lg,kg⟩
    .rintro ⟨_,ut,ub,dt,db,us,ds,c6,p6,h6⟩ rfl ⟨g1,g2,g3⟩
     exact ⟨(ut,ub,dt,db,us,ds,c6,p6,h6),by simp only [show decide (((6:Nat):Int)<(6:Int))=false from rfl,zY,aA],g1,g2,g3⟩
    rintro ⟨ut,ub,dt,db,us,ds,c6,p6,h6⟩ ⟨g1,g2,g3⟩
    simp only at g1 g2 g3;obtain ⟨q1,f1,m1⟩:=aIp (s:=(ut,ub,us)) g1 1 0;obtain ⟨q2,f2,m2⟩:=aIp (s:=(t4,b4,s4)) l4 2 0;obtain ⟨q3,f3,m3⟩:=aIp (s:=(dt,db,ds)) g2 4 0;have one: ∀ (l:lPp) (q:den tPp) (n:Nat),l.length<=n->q.2.2.2.length<=5->(∀ x∈l,x.2.2.2.length<=5)->(l++[q]).length<=n+1/\ ∀ x∈l++[q],x.2.2.2.length<=5:=fun l q n hl hq h=>⟨by simp;omega,fun x hx=>(cEl.1 hx).elim (h x) fun hx=>by rw [cEk.1 hx];exact hq⟩
    simp only [f1,f2,f3,aA];obtain ⟨a1,j1,i1,i2⟩: ∃ l:lPp,(cond (decide ((us.length:Int)>(0:Int))) (some [q1]) (some []))=some l/\l.length<=1/\ ∀ x∈l,x.2.2.2.length<=5:=by
     cases decide ((us.length:Int)>(0:Int))
     .exact ⟨[],rfl,by simp,fun x hx=>(cE1 hx).elim⟩
     .exact ⟨[q1],rfl,by simp,fun x hx=>by rw [cEk.1 hx];exact m1⟩
    rw [show ((q1.1,q1.2.1,q1.2.2.1,q1.2.2.2):den tPp)=q1 from rfl,j1,aA,aE (b:=48) (n:=a1.length) (m:=1) (by decide) (by omega)];obtain ⟨a2,j2,i3,i4⟩: ∃ l:lPp,(cond (decide ((s4.length:Int)>(0:Int))) (cond true (some (a1++[q2])) none) (some a1))=some l/\l.length<=2/\ ∀ x∈l,x.2.2.2.length<=5:=by
     cases decide ((s4.length:Int)>(0:Int))
     .exact ⟨a1,rfl,by omega,i2⟩
     .exact ⟨a1++[q2],rfl,one a1 q2 1 i1 m2 i2⟩
    rw [show ((q2.1,q2.2.1,q2.2.2.1,q2.2.2.2):den tPp)=q2 from rfl,j2,aA,aE (b:=48) (n:=a2.length) (m:=1) (by decide) (by omega)];cases decide ((ds.length:Int)>(0:Int))
    .exact ⟨as,ls,a2,c6,p6,h6,rfl,⟨cEa i3 (by decide),i4⟩,ht,g3⟩
    .exact ⟨as,ls,a2++[q3],c6,p6,h6,rfl,one a2 q3 2 i3 m3 i4,ht,g3⟩
structure cAj (p:den tPk):Prop where
 path:eR p.2.2.2.1
 len:p.2.2.2.2.2.2.2.2.2.length<=1000
 bytes: ∀ x∈p.2.2.2.2.2.2.2.2.2,(0:Int)<=x/\x<=(255:Int)
theorem bPu {p:den tPk} (h:cAj p):tot tPk p<=1018:=by
 have h1:=aIh h.path;have h2:=h.len;show tot ti p.1+(tot ti p.2.1+(tot ti p.2.2.1+(tot tPt p.2.2.2.1+(tot ti p.2.2.2.2.1+(tot ti p.2.2.2.2.2.1+(tot ti p.2.2.2.2.2.2.1+(tot ti p.2.2.2.2.2.2.2.1+(tot ti p.2.2.2.2.2.2.2.2.1+tot (.sl tb) p.2.2.2.2.2.2.2.2.2))))))))<=1018;rw [dK (t:=tb) rfl];show 0+(0+(0+(_+(0+(0+(0+(0+(0+_))))))))<=1018;omega
theorem bEd {code:List Int} (hl:code.length<=1048576) {c:List Int} {p h:Int} (hc:Cur code (c,p,h)): ∃ (as:lAS) (ls:lLk) (k:den tPk) (c':List Int) (p' h':Int),vD (c,p,h)=some (as,ls,k.1,k.2.1,k.2.2.1,k.2.2.2.2.1,k.2.2.2.2.2.1,k.2.2.2.2.2.2.1,k.2.2.2.2.2.2.2.1,k.2.2.2.2.2.2.2.2.1,k.2.2.2.1,k.2.2.2.2.2.2.2.2.2,c',p',h')/\cAj k/\aEs as ls/\Cur code (c',p',h'):=by
 obtain ⟨as,ls,q,c1,p1,h1,e1,kq,kt,k1⟩:=aZ1 hl hc;obtain ⟨v2,c2,p2,h2,e2,r2,k2⟩:=aM hl (n:=3) (by decide) (by decide) k1;obtain ⟨v3,c3,p3,h3,e3,r3,k3⟩:=aM hl (n:=9) (by decide) (by decide) k2;obtain ⟨v4,c4,p4,h4,e4,r4,k4⟩:=aM hl (n:=3) (by decide) (by decide) k3;obtain ⟨v5,c5,p5,h5,e5,r5,k5⟩:=aM hl (n:=4) (by decide) (by decide) k4;obtain ⟨m5,rfl⟩:=cE0 r5.1;obtain ⟨l6,c6,p6,h6,e6,⟨r6,b6⟩,k6⟩:=aNc hl (n:=m5) (by omega) k5;have e7:=aPp (kind:=wr (1+v2)) (res:=v4) (seq:=v3) (p:=q) (pay:=l6) (cEa (aIh kq) (by decide)) (by omega);refine ⟨as,ls,aG6 (wr (1+v2)) q v4 v3 l6,c6,p6,h6,?_,⟨kq,by show l6.length<=_;omega,b6⟩,kt,k6⟩;unfold vD dd cA8 pj3 zz4 zz5 zz6 zz7 zz8 zz9;simp only [e1,e2,e3,e4,e5,e6,e7,aA,aT,bF,aX,aY,bA];rfl
theorem bMi (a b:Int):uW a b=some (a,b,0,[]):=rfl
def RvD (l:lRv):Prop:=l.length<=16/\ ∀ y∈l,eK y=true
theorem bO7 {l:lRv} {x:den tRv} (h:RvD l):RvD (aK0 l x):=by
 obtain ⟨h1,h2⟩:=h;unfold aK0;cases hv:eK x with
 | false=>exact ⟨h1,h2⟩
 | true=>
  simp only [zZ];cases hs:bY (aC7 x l) 0 l with
  | some r=>
   have :=aOy (fun r:lRv=> @ite Nat (RvD r) (Classical.propDecidable _) 0 1) 0 (g:=aC7 x l) (l:=l) (k:=0) (fun j y r' hy hr=>by
    have hp:RvD r':=by
     unfold aC7 at hr;cases c1:y.1==x.1 with
     | false=>rw [c1] at hr;cases hr
     | true=>
      cases c2:y.2.1==x.2.1 with
      | false=>rw [c1,c2] at hr;cases hr
      | true=>
       rw [c1,c2] at hr;injection hr with hr;rw [<- hr];have hy':=h2 y (cEn hy);refine ⟨by simpa using h1,fun z hz=> ?_⟩;rcases cG0 hz with hz | rfl
       .exact h2 z hz
       .unfold eK at hv hy' ⊢;simp only [cEe] at hv hy' ⊢;refine ⟨hy'.1,hy'.2.1,?_⟩;split
        .exact hv.2.2
        .exact hy'.2.2
    simp only [zT hp];exact cEr _) r hs
   by_cases hp:RvD r
   .exact hp
   .simp only [zS hp] at this;omega
  | none=>
   have hx: ∀ y∈l++[x],eK y=true:=fun y hy=>(cEl.1 hy).elim (h2 y) fun hy=>by rw [cEk.1 hy];exact hv
   by_cases c:16<l.length+1
   .simp only [c,zV];exact ⟨by simp;omega,fun y hy=>hx y (cF2 hy)⟩
   .simp only [c,zU];exact ⟨by simp;omega,hx⟩
theorem aDz (a b c d cu wa:Int) (ms:lMs) (ps:lPt) (rv:lRv):tot tFl (a,b,c,d,ms,ps,cu,wa,rv)=tot (.sl tMs) ms+tot (.sl tPt) ps+rv.length:=by
 show tot ti a+(tot ti b+(tot ti c+(tot ti d+(tot (.sl tMs) ms+(tot (.sl tPt) ps+(tot ti cu+(tot ti wa+tot (.sl tRv) rv)))))))=_;rw [dK (t:=tRv) rfl];show 0+(0+(0+(0+(_+(_+(0+(0+_)))))))=_;omega
theorem bDi (b:List Int):tot (.sl tMs) [b]=1+b.length:=by
 rw [iM];show 1+tot (.sl tb) b+tot (.sl tMs) []=_;rw [dK (t:=tb) rfl];rfl
theorem aA7 (f:den tFl):jQ f=true↔inR f.1 0 7=true/\inR f.2.1 0 7=true/\f.1≠f.2.1/\inR f.2.2.1 0 100000=true/\f.2.2.2.2.1.length<=20/\inR f.2.2.2.1 0 (f.2.2.2.2.1.length:Int)=true/\f.2.2.2.2.2.1.length<=24/\
  (∀ m∈f.2.2.2.2.1,m.length<=40)/\(∀ x∈f.2.2.2.2.2.2.2.2,eK x=true)/\(f.2.2.2.2.2.2.1=0\/inR f.2.2.2.2.2.2.1 0 ((f.2.2.2.2.2.1.length:Int) - 1)=true)/\inR f.2.2.2.2.2.2.2.1 0 4=true/\f.2.2.2.2.2.2.2.2.length<=16:=by
 unfold jQ;simp only [cEe,cFq,cFg,beq_iff_eq,beq_eq_false_iff_ne,zR,cE6,ne_eq]
theorem bBd {c:Int} {n:Nat} (hn:n<=24) (h:c=0\/inR c 0 ((n:Int) - 1)=true):(if wr (c+1)>=(n:Int) then (0:Int) else wr (c+1))=0\/inR (if wr (c+1)>=(n:Int) then (0:Int) else wr (c+1)) 0 ((n:Int) - 1)=true:=by
 have hc:0<=c/\c<=24:=by
  rcases h with e | e
  .omega
  .have :=bQ.1 e;omega
 rw [bN (by omega) (by omega)];split
 .exact .inl rfl
 .right;rw [bQ];omega
theorem bWj {w:Int} (h:inR w 0 4=true) (h4: ¬ (w==4)=true):inR (wr (w+1)) 0 4=true:=by
 rw [bQ] at h;rw [beq_iff_eq] at h4;rw [bN (by omega) (by omega),bQ];omega
theorem bJn {f:den tFl} (h:jQ f=true):jQ (aF f).1=true:=by
 rw [aA7] at h;obtain ⟨h1,h2,h3,h4,h5,h6,h7,h8,h9,h10,h11,h12⟩:=h;have key: ∀ c w:Int,(c=0\/inR c 0 ((f.2.2.2.2.2.1.length:Int) - 1)=true)->inR w 0 4=true->jQ (pN f c w)=true:=fun c w hc hw=>by
  rw [aA7];exact ⟨h1,h2,h3,h4,h5,h6,h7,h8,h9,hc,hw,h12⟩
 unfold aF;split
 .split
  .exact key _ _ h10 rfl
  .split
   .exact key _ _ (bBd h7 h10) rfl
   .next e4=>exact key _ _ h10 (bWj h11 e4)
 .exact key _ _ h10 rfl
def Cmp {α:Type} (a b:α) (o:Option Bool):Prop:= ∃ v,o=some v/\(a=b->v=true)
theorem aF1 {α:Type} (a b:List α) (st:Int->Option (Int⊕(Unit⊕Bool))) (h:a.length<=1073741824)
  (hs: ∀ (i:Nat) (hi:i<a.length) (hj:i<b.length),∃ v:Bool,st (i:Int)=some (cond (!v) (.inr (.inr false)) (.inl ((i+1:Nat):Int)))/\(a[i]=b[i]->v=true)) (he:st (a.length:Int)=some (.inr (.inl ()))):
  Cmp a b (cond ((a.length:Int) != (b.length:Int)) (some false) (Option.bind (aC st (0:Int)) fun z=>cEd (fun _=>some true) some z)):=by
 by_cases hn:a.length=b.length
 .rw [hn,bne_self_eq_false,zY];refine gZ (G:=Cmp a b) a.length (fun s:Int=>s) (fun i t=>True) (fun r:Unit⊕Bool=>a=b->r= .inl ()) ?_ ?_ 0 (0:Int) (by omega) rfl trivial ?_
  .rintro i _ hi rfl _
   obtain ⟨v,e,k⟩:=hs i hi (by omega);rw [e];cases v with
   | true=>exact .inr ⟨_,rfl,rfl,trivial⟩
   | false=>exact .inl ⟨.inr false,rfl,fun e=>by subst e;cases k rfl⟩
  .rintro _ rfl _
   exact ⟨.inl (),he,fun _=>rfl⟩
  .rintro r hr
   cases r with
   | inl u=>exact ⟨true,rfl,fun _=>rfl⟩
   | inr v=>exact ⟨v,rfl,fun e=>by cases hr e⟩
 .rw [show ((a.length:Int) != (b.length:Int))=true by rw [bne_iff_ne];omega,zZ];exact ⟨false,rfl,fun e=>absurd (congrArg cEo e) hn⟩
theorem aZj {a b:List Int} (h:a.length<=10000000):Cmp a b (aDm a b):=by
 unfold aDm;refine aF1 a b _ (by omega) (fun i hi hj=>⟨a[i]==b[i],?_,fun e=>by simpa using e⟩) ?_
 .simp only [zX (show (i:Int)<(a.length:Int) by omega),zZ,aH,cEb hi,cEb hj,aA,cR (show i<=1000000000 by omega),bne];cases a[i]==b[i]<;>rfl
 .simp only [zW (cE2 _),zY]
theorem aT1 {a b:List lI} (h:a.length<=10000000) (hm: ∀ m∈a,m.length<=10000000):Cmp a b (oB a b):=by
 unfold oB;refine aF1 a b _ (by omega) (fun i hi hj=> ?_) ?_
 .obtain ⟨v,e,k⟩:=aZj (a:=a[i]) (b:=b[i]) (hm _ (cFi hi));refine ⟨v,?_,k⟩;simp only [zX (show (i:Int)<(a.length:Int) by omega),zZ,aH,cEb hi,cEb hj,aA,cR (show i<=1000000000 by omega),e];cases v<;>rfl
 .simp only [zW (cE2 _),zY]
theorem bJs {a b:lRv} (h:a.length<=10000000):Cmp a b (vT a b):=by
 unfold vT;refine aF1 a b _ (by omega) (fun i hi hj=>⟨((a[i].1==b[i].1)&&((a[i].2.1==b[i].2.1)&&((a[i].2.2==b[i].2.2)&&true))),?_,fun e=>by rw [e];simp⟩) ?_
 .simp only [zX (show (i:Int)<(a.length:Int) by omega),zZ,aH,cEb hi,cEb hj,aA,cR (show i<=1000000000 by omega)];cases ((a[i].1==b[i].1)&&((a[i].2.1==b[i].2.1)&&((a[i].2.2==b[i].2.2)&&true)))<;>rfl
 .simp only [zW (cE2 _),zY]
theorem bV9 {a b:den tIb} (h:a.2.2.2.length<=10000000) (hm: ∀ m:List Int,m∈(show List lI from a.2.2.2)->m.length<=10000000):Cmp a b (aAn a b):=by
 obtain ⟨v,e,k⟩:=aT1 (a:=a.2.2.2) (b:=b.2.2.2) h hm;unfold aAn;rw [e,aA];cases c1:a.1==b.1
 .exact ⟨false,rfl,fun e=>by subst e;simp at c1⟩
 .cases c2:a.2.1==b.2.1
  .exact ⟨false,rfl,fun e=>by subst e;simp at c2⟩
  .cases c3:a.2.2.1==b.2.2.1
   .exact ⟨false,rfl,fun e=>by subst e;simp at c3⟩
   .exact ⟨v,rfl,fun e=>by subst e;exact k rfl⟩
theorem bAp {a b:cF} (h:a.length<=10000000):Cmp a b (sD a b):=by
 unfold sD zz4;refine aF1 a b _ (by omega) (fun i hi hj=>⟨((a[i].1==b[i].1)&&((a[i].2.1==b[i].2.1)&&((a[i].2.2.1==b[i].2.2.1)&&((a[i].2.2.2.1==b[i].2.2.2.1)&&((a[i].2.2.2.2==b[i].2.2.2.2)&&true))))),?_,fun e=>by rw [e];simp⟩) ?_
 .simp only [zX (show (i:Int)<(a.length:Int) by omega),zZ,aH,cEb hi,cEb hj,aA,cR (show i<=1000000000 by omega)];cases ((a[i].1==b[i].1)&&((a[i].2.1==b[i].2.1)&&((a[i].2.2.1==b[i].2.2.1)&&((a[i].2.2.2.1==b[i].2.2.2.1)&&((a[i].2.2.2.2==b[i].2.2.2.2)&&true)))))<;>rfl
 .simp only [zW (cE2 _),zY]
theorem bQu {a b:den tPp} (h:a.2.2.2.length<=10000000):Cmp a b (uP a b):=by
 obtain ⟨v,e,k⟩:=bAp (a:=a.2.2.2) (b:=b.2.2.2) h;unfold uP;rw [e,aA];cases c1:a.1==b.1
 .exact ⟨false,rfl,fun e=>by subst e;simp at c1⟩
 .cases c2:a.2.1==b.2.1
  .exact ⟨false,rfl,fun e=>by subst e;simp at c2⟩
  .cases c3:a.2.2.1==b.2.2.1
   .exact ⟨false,rfl,fun e=>by subst e;simp at c3⟩
   .exact ⟨v,rfl,fun e=>by subst e;exact k rfl⟩
theorem aZ4 {a b:lPp} (h:a.length<=10000000) (hp: ∀ x∈a,x.2.2.2.length<=10000000):Cmp a b (sH a b):=by
 unfold sH pj4;refine aF1 a b _ (by omega) (fun i hi hj=> ?_) ?_
 .obtain ⟨v,e,k⟩:=bQu (a:=a[i]) (b:=b[i]) (hp _ (cFi hi));have e:uP (a[i].1,a[i].2.1,a[i].2.2.1,a[i].2.2.2) (b[i].1,b[i].2.1,b[i].2.2.1,b[i].2.2.2)=some v:=e;refine ⟨v,?_,k⟩;simp only [zX (show (i:Int)<(a.length:Int) by omega),zZ,aH,cEb hi,cEb hj,aA,cR (show i<=1000000000 by omega),e];cases v<;>rfl
 .simp only [zW (cE2 _),zY]
theorem bMk {a b:lPt} (h:a.length<=10000000) (hp: ∀ p:lPp,p∈(show List lPp from a)->p.length<=10000000/\ ∀ x∈p,x.2.2.2.length<=10000000):Cmp a b (vR a b):=by
 unfold vR;refine aF1 a b _ (by omega) (fun i hi hj=> ?_) ?_
 .obtain ⟨h1,h2⟩:=hp a[i] (cFi hi);obtain ⟨v,e,k⟩:=aZ4 (a:=a[i]) (b:=b[i]) h1 h2;refine ⟨v,?_,k⟩;simp only [zX (show (i:Int)<(a.length:Int) by omega),zZ,aH,cEb hi,cEb hj,aA,cR (show i<=1000000000 by omega),e];cases v<;>rfl
 .simp only [zW (cE2 _),zY]
theorem bBh {p:lPp} (h:SmB 10000000 tPt p):p.length<=10000000/\ ∀ x∈p,x.2.2.2.length<=10000000:=⟨h.1,fun x hx=>(h.2 x hx).2.2.2.1⟩
theorem bOk {a b:den tFl} (h:SmB 10000000 tFl a):Cmp a b (xI a b):=by
 obtain ⟨v1,e1,k1⟩:=aT1 (a:=a.2.2.2.2.1) (b:=b.2.2.2.2.1) h.2.2.2.2.1.1 (fun m hm=>(h.2.2.2.2.1.2 m hm).1);obtain ⟨v2,e2,k2⟩:=bMk (a:=a.2.2.2.2.2.1) (b:=b.2.2.2.2.2.1) h.2.2.2.2.2.1.1 (fun p hp=>bBh (h.2.2.2.2.2.1.2 p hp));obtain ⟨v3,e3,k3⟩:=bJs (a:=a.2.2.2.2.2.2.2.2) (b:=b.2.2.2.2.2.2.2.2) h.2.2.2.2.2.2.2.2.1;unfold xI zz4 zz5 zz6 zz7 zz8;rw [e1,aA,e2,aA,e3,aA];cases c0:a.1==b.1
 .exact ⟨false,rfl,fun e=>by subst e;simp at c0⟩
 .cases c1:a.2.1==b.2.1
  .exact ⟨false,rfl,fun e=>by subst e;simp at c1⟩
  .cases c2:a.2.2.1==b.2.2.1
   .exact ⟨false,rfl,fun e=>by subst e;simp at c2⟩
   .cases c3:a.2.2.2.1==b.2.2.2.1
    .exact ⟨false,rfl,fun e=>by subst e;simp at c3⟩
    .cases v1
     .exact ⟨false,rfl,fun e=>by subst e;cases k1 rfl⟩
     .cases v2
      .exact ⟨false,rfl,fun e=>by subst e;cases k2 rfl⟩
      .cases c6:a.2.2.2.2.2.2.1==b.2.2.2.2.2.2.1
       .exact ⟨false,rfl,fun e=>by subst e;simp at c6⟩
       .cases c7:a.2.2.2.2.2.2.2.1==b.2.2.2.2.2.2.2.1
        .exact ⟨false,rfl,fun e=>by subst e;simp at c7⟩
        .exact ⟨v3,rfl,fun e=>by subst e;exact k3 rfl⟩
theorem bVs {a b:den tPk} (h:SmB 10000000 tPk a):Cmp a b (sT a b):=by
 obtain ⟨h1,h2⟩:=bBh h.2.2.2.1;obtain ⟨v1,e1,k1⟩:=aZ4 (a:=a.2.2.2.1) (b:=b.2.2.2.1) h1 h2;obtain ⟨v2,e2,k2⟩:=aZj (a:=a.2.2.2.2.2.2.2.2.2) (b:=b.2.2.2.2.2.2.2.2.2) h.2.2.2.2.2.2.2.2.2.1;unfold sT zz4 zz5 zz6 zz7 zz8 zz9;rw [e1,aA,e2,aA];cases c0:a.1==b.1
 .exact ⟨false,rfl,fun e=>by subst e;simp at c0⟩
 .cases c1:a.2.1==b.2.1
  .exact ⟨false,rfl,fun e=>by subst e;simp at c1⟩
  .cases c2:a.2.2.1==b.2.2.1
   .exact ⟨false,rfl,fun e=>by subst e;simp at c2⟩
   .cases v1
    .exact ⟨false,rfl,fun e=>by subst e;cases k1 rfl⟩
    .cases c4:a.2.2.2.2.1==b.2.2.2.2.1
     .exact ⟨false,rfl,fun e=>by subst e;simp at c4⟩
     .cases c5:a.2.2.2.2.2.1==b.2.2.2.2.2.1
      .exact ⟨false,rfl,fun e=>by subst e;simp at c5⟩
      .cases c6:a.2.2.2.2.2.2.1==b.2.2.2.2.2.2.1
       .exact ⟨false,rfl,fun e=>by subst e;simp at c6⟩
       .cases c7:a.2.2.2.2.2.2.2.1==b.2.2.2.2.2.2.2.1
        .exact ⟨false,rfl,fun e=>by subst e;simp at c7⟩
        .cases c8:a.2.2.2.2.2.2.2.2.1==b.2.2.2.2.2.2.2.2.1
         .exact ⟨false,rfl,fun e=>by subst e;simp at c8⟩
         .exact ⟨v2,rfl,fun e=>by subst e;exact k2 rfl⟩
def Byt (l:List Int):Prop:= ∀ x∈l,0<=x/\x<=255
theorem cBv (bs:ByteArray): ∀ (n i:Nat) (r:List UInt8),n+i=bs.size->ByteArray.toList.loop bs i r=r.reverse++bs.data.toList.drop i:=by
 intro n
 induction n with
 | zero=>
  intro i r h;unfold ByteArray.toList.loop;rw [zS (by omega),List.drop_of_length_le (by rw [cG8];show bs.size<=i;omega),cFe]
 | succ n ih=>
  intro i r h;unfold ByteArray.toList.loop;rw [zT (by omega),ih (i+1) _ (by omega)];have hi:i<bs.data.toList.length:=by rw [cG8];show i<bs.size;omega
  rw [List.drop_eq_getElem_cons hi,List.reverse_cons,cFc];congr 2;simp [ByteArray.get!];rw [getElem!_pos bs.data i (by rw [<- cG8];exact hi)]
theorem bl (bs:ByteArray):bs.toList=bs.data.toList:=by
 unfold ByteArray.toList;rw [cBv bs bs.size 0 [] (by omega)];simp
theorem aTb (l:List Int):(aAz l).toList=l.map fun n=>UInt8.ofNat n.toNat:=by
 rw [bl];rfl
theorem bMz {a b:List Int} (ha:Byt a) (hb:Byt b):((aAz a).toList==(aAz b).toList)=true↔a=b:=by
 rw [beq_iff_eq,aTb,aTb];constructor
 .intro h;have hl:=congrArg cEo h;simp only [cFb] at hl;refine List.ext_getElem hl fun i h1 h2=> ?_
  have h3:(a.map fun n=>UInt8.ofNat n.toNat)[i]'(by simpa using h1)=(b.map fun n=>UInt8.ofNat n.toNat)[i]'(by simpa using h2):=by simp only [h]
  simp only [List.getElem_map] at h3;have a1:=ha _ (cFi h1);have b1:=hb _ (cFi h2);have h4:=congrArg UInt8.toNat h3;simp only [UInt8.toNat_ofNat'] at h4;omega
 .intro h;rw [h]
def aIs (l:cF):Option Int:=l.head?.map fun x=>(x.1:Int)
def aDw (l:cF):Option Int:=l.getLast?.map fun x=>(x.1:Int)
def aJ8 (p:lPp):Option Int:=p.head?.bind fun x=>aIs x.2.2.2
def aDx (p:lPp):Option Int:=p.getLast?.bind fun x=>aDw x.2.2.2
def cBy (a b:Int) (p:den tPt):Prop:=eR p/\aJ8 p=some a/\aDx p=some b
def aOi (a b:Int) (n:Nat) (l:lPt):Prop:=l.length<=n/\ ∀ p∈l,cBy a b p
theorem aOi.d {a b:Int} {n:Nat} {l:lPt} (h:aOi a b n l):aR8 n l:=⟨h.1,fun p hp=>(h.2 p hp).1⟩
def aG1 (a b:Int) (p:lPp):Prop:=aJ8 p=some a/\aDx p=some b
theorem bWc {s:den tSg} (h:s.2.2≠[]):aDw s.2.2=some (kN s):=by
 have hl:s.2.2.length≠0:=fun e=>h (List.length_eq_zero_iff.1 e)
 unfold aDw kN;rw [zS hl,List.getLast?_eq_getElem?,cEb (show s.2.2.length - 1<s.2.2.length by omega)];rfl
theorem bAu {s:den tSg} (h:0<=cA s):s.2.2≠[]:=fun e=>by
 unfold cA at h;rw [e] at h;exact absurd h (by decide)
theorem aGm {s:den tSg} {k:Int} {i:Nat} {x:den bU} (hk:inR k 1 4=true) (hx:s.2.2[i]? =some x):aIs (jA s k i).2.2.2=some (if kW k then kN s else x.1)/\aDw (jA s k i).2.2.2=some (if kW k then (x.1:Int) else kN s):=by
 obtain ⟨hi,e⟩:=cEj.1 hx;have hne:s.2.2≠[]:=fun e=>by rw [e] at hi;exact absurd hi (Nat.not_lt_zero _)
 have hl:=bWc hne;have hd:(s.2.2.drop i).head? =some x:=by rw [List.head?_drop];exact hx
 have hg:(s.2.2.drop i).getLast? =s.2.2.getLast? :=by rw [List.getLast?_drop,zS (by omega)]
 unfold jA;rw [show inR (i:Int) 0 ((s.2.2.length:Int) - 1)=true from bQ.2 ⟨by omega,by omega⟩,hk];simp only [cFv,zV,cEf];unfold aDw at hl;unfold aIs aDw;cases kW k with
 | true=>
  simp only [zV];rw [List.head?_reverse,List.getLast?_reverse,hg,hl,hd];exact ⟨rfl,rfl⟩
 | false=>
  simp only [cEg,zU];rw [hg,hl,hd];exact ⟨rfl,rfl⟩
theorem aNx {s:den tSg} {k:Int} (hk:inR k 1 4=true) (h:s.2.2≠[]):aIs (jA s k 0).2.2.2=some (if kW k then kN s else cA s)/\aDw (jA s k 0).2.2.2=some (if kW k then cA s else kN s):=by
 unfold cA;cases hs:s.2.2 with
 | nil=>exact absurd hs h
 | cons x l=>exact aGm (i:=0) hk (by rw [hs];rfl)
theorem bZ1 {l:cF} {r:Int} (h:0<=fIx l r): ∃ (i:Nat) (x:den bU),fIx l r=(i:Int)/\l[i]? =some x/\x.1=r:=by
 unfold fIx at h ⊢;cases hs:bY (fun k (x:den bU)=>if x.1==r then some (k:Int) else none) 0 l with
 | none=>rw [hs] at h;exact absurd h (by decide)
 | some v=>
  obtain ⟨j,x,hx,hv,hp⟩:=aL2 hs;exact ⟨j,x,by rw [hv];simp,hx,eq_of_beq hp⟩
theorem bL0 {l:cF} {r:Int}: ∀ {n:Nat},n<=l.length->0<=lIx l r n-> ∃ (j:Nat) (y:den bU),lIx l r n=(j:Int)/\l[j]? =some y
 | 0,_,h=>absurd h (by show ¬ (0:Int)<= -1;decide)
 | n+1,hn,h=>by
  unfold lIx at h ⊢;split
  .exact ⟨n,l[n]'(by omega),rfl,cEb (by omega)⟩
  .rename_i c;rw [zS c] at h;exact bL0 (by omega) h
theorem aY7 {x:den tPp} {a b:Int} (h1:aIs x.2.2.2=some a) (h2:aDw x.2.2.2=some b):aG1 a b [x]:=⟨h1,h2⟩
theorem aTo {up down:den tSg} (hd:down.2.2≠[]): ∀ n:Nat,n<=up.2.2.length->0<(aEm up down n).length->aG1 (kN up) (kN down) (aEm up down n)
 | 0,_,h=>absurd h (Nat.lt_irrefl 0)
 | n+1,hn,h=>by
  unfold aEm at h ⊢;split
  .rename_i c;have hx:up.2.2[n]? =some (up.2.2[n]'(by omega)):=cEb (by omega);obtain ⟨j,y,hj,hy⟩:=bL0 (cEr _) c;rw [hj];exact ⟨(aGm (k:=1) rfl hx).1,(aGm (k:=4) rfl hy).2⟩
  .rename_i c;rw [zS c] at h;exact aTo hd n (by omega) h
theorem aSk {up core down:den tSg} {b:Bool} (hc:core.2.2≠[]) {x y:Int} (hx:(up.2.2=[]/\x=cond b (kN core) (cA core))\/(up.2.2≠[]/\x=kN up)) (hy:(down.2.2=[]/\y=cond b (cA core) (kN core))\/(down.2.2≠[]/\y=kN down)):aG1 x y (nB up core b down):=by
 have pos: ∀ {s:den tSg},s.2.2≠[]->decide ((s.2.2.length:Int)>0)=true:=fun {s} h=>zX (by have :=List.length_pos_iff.2 h;omega)
 have zero: ∀ {s:den tSg},s.2.2=[]->decide ((s.2.2.length:Int)>0)=false:=fun {s} h=>by rw [h];rfl
 have hr:kW (cond b 3 2)=b:=by cases b<;>rfl
 obtain ⟨c1,c2⟩:=aNx (s:=core) (k:=cond b 3 2) (by cases b<;>rfl) hc;rw [hr] at c1 c2;unfold nB gG;rw [pos hc];simp only [zZ,cEx];unfold aG1 aJ8 aDx;rcases hx with ⟨h1,rfl⟩ | ⟨h1,rfl⟩<;>rcases hy with ⟨h2,rfl⟩ | ⟨h2,rfl⟩
 .rw [zero h1,zero h2];cases b<;>exact ⟨c1,c2⟩
 .rw [zero h1,pos h2];cases b<;>exact ⟨c1,(aNx (k:=4) rfl h2).2⟩
 .rw [pos h1,zero h2];cases b<;>exact ⟨(aNx (k:=1) rfl h1).1,c2⟩
 .rw [pos h1,pos h2];exact ⟨(aNx (k:=1) rfl h1).1,(aNx (k:=4) rfl h2).2⟩
theorem aF8 {c:lSg} {up down:den tSg} {a b x y:Int} (ha:0<=a) (hb:0<=b) (hx:(up.2.2=[]/\x=a)\/(up.2.2≠[]/\x=kN up)) (hy:(down.2.2=[]/\y=b)\/(down.2.2≠[]/\y=kN down)): ∀ p∈bK c up a b down,aG1 x y p:=by
 intro p hp;unfold bK at hp;rcases cEl.1 hp with hp | hp<;>obtain ⟨s,hs,hp⟩:=cFk.1 hp<;>rw [cEk.1 hp]<;>have h:=(cEq.1 hs).2<;>rw [cEe,beq_iff_eq,beq_iff_eq] at h
 .exact aSk (bAu (by rw [h.1];exact ha)) (hx.imp (fun z=>⟨z.1,z.2.trans h.1.symm⟩) id) (hy.imp (fun z=>⟨z.1,z.2.trans h.2.symm⟩) id)
 .exact aSk (bAu (by rw [h.1];exact hb)) (hx.imp (fun z=>⟨z.1,z.2.trans h.2.symm⟩) id) (hy.imp (fun z=>⟨z.1,z.2.trans h.1.symm⟩) id)
theorem bG2 {t:den tTo} {n:Nat} {k:den tDb} (h:DbD n k.1 k.2) {a b:Int} (ha:0<=a) (hb:0<=b): ∀ p∈oM t k a b,aG1 a b p:=by
 have dn: ∀ {r:Int} {s:den tSg},s∈cH k.1 r->kN s=r/\s.2.2≠[]/\0<=cA s:=fun {r s} hs=>by
  obtain ⟨h1,h2⟩:=cEq.1 hs;obtain ⟨h3,h4⟩:=h.ha s h1;refine ⟨eq_of_beq h2,h3,?_⟩;unfold cA;cases hh:s.2.2 with
  | nil=>exact absurd hh h3
  | cons x l=>exact (h4 x (by rw [hh];exact cEu ..)).1
 intro p hp;unfold oM at hp;cases hc:(a==b||(!cN t a|| !cN t b)) with
 | true=>rw [hc] at hp;cases hp
 | false=>
 rw [hc] at hp;simp only [zY,cEl] at hp;have one: ∀ {kind r:Int} {s:den tSg},p∈mS kind r s-> ∃ (i:Nat) (x:den bU),p=[jA s kind (i:Int)]/\s.2.2[i]? =some x/\x.1=r:=fun {kind r s} hp=>by
  unfold mS at hp;cases hq:decide (fIx s.2.2 r>=0) with
  | false=>rw [hq] at hp;cases hp
  | true=>
   rw [hq] at hp;obtain ⟨i,x,e,hx,hr⟩:=bZ1 (of_decide_eq_true hq);exact ⟨i,x,by rw [cEk.1 hp,e],hx,hr⟩
 rcases hp with (((((hp | hp) | hp) | hp) | hp) | hp) | hp
 .obtain ⟨s,hs,hp⟩:=cFk.1 hp;obtain ⟨i,x,rfl,hx,rfl⟩:=one hp;obtain ⟨e1,e2⟩:=aGm (k:=1) rfl hx;exact aY7 (e1.trans (congrArg some (dn hs).1)) e2
 .obtain ⟨s,hs,hp⟩:=cFk.1 hp;obtain ⟨i,x,rfl,hx,rfl⟩:=one hp;obtain ⟨e1,e2⟩:=aGm (k:=4) rfl hx;exact aY7 e1 (e2.trans (congrArg some (dn hs).1))
 .exact aF8 ha hb (.inl ⟨rfl,rfl⟩) (.inl ⟨rfl,rfl⟩) p hp
 .obtain ⟨u,hu,hp⟩:=cFk.1 hp;obtain ⟨d,hd,hp⟩:=cFk.1 hp;unfold pH at hp;cases hq:decide (((aA5 u d).length:Int)>0) with
  | false=>rw [hq] at hp;cases hp
  | true=>
   rw [hq] at hp;rw [cEk.1 hp];have :=aTo (up:=u) (dn hd).2.1 u.2.2.length (cEr _) (by have :=of_decide_eq_true hq;unfold aA5 at this;omega);rw [(dn hu).1,(dn hd).1] at this;exact this
 .cases hq:eG t a with
  | false=>rw [hq] at hp;cases hp
  | true=>
   rw [hq] at hp;obtain ⟨d,hd,hp⟩:=cFk.1 hp;exact aF8 ha (dn hd).2.2 (.inl ⟨rfl,rfl⟩) (.inr ⟨(dn hd).2.1,(dn hd).1.symm⟩) p hp
 .cases hq:eG t b with
  | false=>rw [hq] at hp;cases hp
  | true=>
   rw [hq] at hp;obtain ⟨u,hu,hp⟩:=cFk.1 hp;exact aF8 (dn hu).2.2 hb (.inr ⟨(dn hu).2.1,(dn hu).1.symm⟩) (.inl ⟨rfl,rfl⟩) p hp
 .obtain ⟨u,hu,hp⟩:=cFk.1 hp;obtain ⟨d,hd,hp⟩:=cFk.1 hp;exact aF8 (dn hu).2.2 (dn hd).2.2 (.inr ⟨(dn hu).2.1,(dn hu).1.symm⟩) (.inr ⟨(dn hd).2.1,(dn hd).1.symm⟩) p hp
theorem bPv {t:den tTo} {now:Int} {l:List lPp} {q p:lPp} (h:p∈uY t now l q):p∈l\/p=q:=by
 unfold uY at h;cases c1:decide ((l.length:Int)<24) with
 | false=>rw [c1] at h;exact .inl h
 | true=>
  cases c2:aIy t q now with
  | false=>rw [c1,c2] at h;exact .inl h
  | true=>
   cases c3:aEw l q with
   | true=>rw [c1,c2,c3] at h;exact .inl h
   | false=>
    rw [c1,c2,c3] at h;exact (cEl.1 (show p∈l++[q] from h)).imp id cEk.1
theorem aZh {t:den tTo} {now:Int}: ∀ (m l:List lPp),∀ p∈m.foldl (uY t now) l,p∈l\/p∈m
 | [],l,p,h=> .inl h
 | q::m,l,p,h=>by
  rcases aZh m (uY t now l q) p h with h | h
  .exact (bPv h).imp id fun e=>by rw [e];exact cEu ..
  .exact .inr (cEp _ h)
theorem bWv {t:den tTo} {n:Nat} {k:den tDb} (h:DbD n k.1 k.2) (hn:n<=30) {a b:Int} (ha:0<=a) (hb:0<=b) (now:Int):aOi a b 24 (wO t k a b now):=by
 obtain ⟨h1,h2⟩:=aVg (t:=t) (h.s hn) a b now;refine ⟨h1,fun p hp=>⟨h2 p hp,?_⟩⟩;rcases aZh _ _ p hp with hp | hp
 .cases hp
 .exact bG2 h ha hb p hp
theorem cB2 {as:lAS} {ls:lLk} (ht:aEs as ls) {d cc:lSg} (hk:DbD 13 d cc) {a b:Int} (ha:0<=a) (hb:0<=b) (now:Int): ∃ l,iW (as,ls) (d,cc) a b now=some l/\aOi a b 24 l:=
 ⟨_,bDq (t:=(as,ls)) (k:=(d,cc)) (by have :=ht.len;show as.length<=_;omega) (by have :=ht.links;show ls.length<=_;omega) (hk.s (by decide)) a b now,bWv (k:=(d,cc)) hk (by decide) ha hb now⟩
theorem aMe {code:List Int} (hl:code.length<=1048576) {c:List Int} {p h:Int} (hc:Cur code (c,p,h)): ∃ v c' p' h',lY (c,p,h)=some (v,c',p',h')/\Cur code (c',p',h'):=by
 obtain ⟨v1,c1,p1,h1,e1,k1⟩:=pR hl (n:=10) (by decide) (by decide) hc;unfold lY pj3 pj4;simp only [e1,aA];cases v1 with
 | true=>
  obtain ⟨v2,c2,p2,h2,e2,_,k2⟩:=uE hl (l:=[(-1:Int),(2147483647:Int),(2147483648:Int)]) (by decide) (by decide) k1;exact ⟨v2,c2,p2,h2,by simp only [zZ,e2,aA],k2⟩
 | false=>
  obtain ⟨v2,c2,p2,h2,e2,k2⟩:=pR hl (n:=4) (by decide) (by decide) k1;simp only [zY,e2,aA];cases v2 with
  | true=>
   obtain ⟨v3,c3,p3,h3,e3,_,k3⟩:=uE hl (l:=[(0:Int),(1:Int),(2147483646:Int)]) (by decide) (by decide) k2;exact ⟨v3,c3,p3,h3,by simp only [zZ,e3,aA],k3⟩
  | false=>
   obtain ⟨v3,c3,p3,h3,e3,_,k3⟩:=aJr hl (n:=1000000) (by decide) k2;obtain ⟨v4,c4,p4,h4,e4,_,k4⟩:=aJr hl (n:=2000) (by decide) k3;exact ⟨wr (v3 * v4),c4,p4,h4,by simp only [zY,e3,e4,aA],k4⟩
theorem bO2 {as:lAS} {ls:lLk} {s:den tSg} (h5:s.2.2.length<=5) (hi:InN (as.length:Int) s.2.2): ∃ hs,yH (as,ls) s=some (s.1,s.2.1,hs)/\hs.length<=5/\InN (as.length:Int) hs:=by
 unfold yH ixb pj3 pj5 zz4;rw [show ((s.1,s.2.1,s.2.2):den tSg)=s from rfl,aKq (by omega),aA];refine gZ (G:=fun o=> ∃ hs,o=some (s.1,s.2.1,hs)/\hs.length<=5/\InN (as.length:Int) hs) s.2.2.length (fun z:Int×cF=>z.1) (fun i z=>z.2.length=s.2.2.length/\InN (as.length:Int) z.2) (fun r:cF=>r.length=s.2.2.length/\InN (as.length:Int) r) ?_ ?_ 0 ((0:Int),s.2.2) (by omega) rfl ⟨rfl,hi⟩ ?_
 .rintro i ⟨_,l⟩ hlt rfl ⟨g1,g2⟩
  simp only at g1 g2;right;have hil:i<l.length:=by omega
  have hx:l[i]? =some l[i]:=cEb hil;obtain ⟨q0,q1⟩:=g2 l[i] (cFi hil);obtain ⟨m,hm⟩:=cE0 q0;have hml:m<as.length:=by omega
  obtain ⟨bt,et⟩:=aQ0 (s:=(s.1,s.2.1,l)) (i:Int) (by show l.length<=_;omega);have ex:idx as l[i].1=some as[m]:=by rw [hm,aH];exact cEb hml
  simp only [zX (show (i:Int)<(l.length:Int) by omega),zX (show (0:Int)<=(i:Int) by omega),zZ,cEf,hx,aA,ex,et,bB2,zX hil];refine ⟨_,rfl,cR (show i<=1000000000 by omega),by simp [g1],fun y hy=> ?_⟩;rcases cG0 hy with hy | rfl
  .exact g2 y hy
  .exact ⟨q0,q1⟩
 .rintro ⟨_,l⟩ rfl ⟨g1,g2⟩
  simp only at g1 g2;exact ⟨l,by simp only [g1,zW (cE2 _),zY],g1,g2⟩
 .rintro l ⟨g1,g2⟩
  exact ⟨l,rfl,by omega,g2⟩
theorem bI1 {p:den tPt} (h:eR p): ∃ l,rF p=some l/\l.length<=18:=by
 have ht:=aIh h;have hs:=aEe p;unfold rF ixb pj3;rw [aH7 (by omega),aA];refine gZ (G:=fun o=> ∃ l,o=some l/\l.length<=18) (gX p).length (fun z:Int×dZ=>z.1) (fun i z=>z.2.length<=i) (fun r:dZ=>r.length<=18) ?_ ?_ 0 ((0:Int),[]) (by omega) rfl (by simp) (fun l hl=>⟨l,rfl,hl⟩)
 .rintro i ⟨_,l⟩ hlt rfl g1
  simp only at g1;right;simp only [zX (show (i:Int)<((gX p).length:Int) by omega),zX (show (0:Int)<=(i:Int) by omega),zZ,cEf,cEb hlt,aA,aE (b:=24) (n:=l.length) (m:=1) (by decide) (by omega),cR (show i<=1000000000 by omega)];cases ((gX p)[i].2.2 != (0:Int)) with
  | true=>exact ⟨_,rfl,rfl,by simp;omega⟩
  | false=>exact ⟨_,rfl,rfl,by show l.length<=i+1;omega⟩
 .rintro ⟨_,l⟩ rfl g1
  exact ⟨l,by simp only [zW (cE2 _),zY],by simp only at g1;omega⟩
theorem bC7 {l:lRs} {cap now:Int} (hl:tK l cap now) {p:den tPt} (hp:eR p) (id r till:Int): ∃ b m,dN l id p r till cap now=some (b,m)/\tK m cap now:=by
 obtain ⟨d,ed,hd⟩:=bI1 hp;have hn:=hl.len;unfold dN ixb;rw [aE (b:=40) (n:=([]:lRs).length) (m:=l.length) (by decide) (by simp;omega),zZ,ed,aA];refine gZ (G:=fun o=> ∃ b m,o=some (b,m)/\tK m cap now) d.length (fun z:Int×lRs=>z.1) (fun i z=>tK z.2 cap now) (fun r:lRs⊕(Bool×lRs)=>match r with | .inl m=>tK m cap now | .inr m=>tK m.2 cap now) ?_ ?_ 0 ((0:Int),[]++l) (by omega) rfl hl ?_
 .rintro i ⟨_,m⟩ hlt rfl g1
  simp only at g1;have hm:=g1.len;obtain ⟨b,eb⟩:=bFk (l:=m) (x:=(id,d[i].1,d[i].2.2,r,till)) (cap:=cap) (now:=now) (by omega);simp only [zX (show (i:Int)<(d.length:Int) by omega),zX (show (0:Int)<=(i:Int) by omega),zZ,cEf,cEb hlt,aA,eb,cR (show i<=1000000000 by omega)];cases b with
  | true=>exact .inr ⟨_,rfl,rfl,g1.admR _⟩
  | false=>exact .inl ⟨_,rfl,hl⟩
 .rintro ⟨_,m⟩ rfl g1
  exact ⟨.inl m,by simp only [zW (cE2 _),zY],g1⟩
 .rintro (m | ⟨b,m⟩) hm
  .exact ⟨_,m,rfl,hm⟩
  .exact ⟨b,m,rfl,hm⟩
def aOc (w:den tNw) (f:den tFl):Bool:= !jQ f|| !cN (nT w) f.1|| !cN (nT w) f.2.1||(f.2.2.2.1 != 0)||decide (((aD w).length:Int)>=4)||decide (kT (bH w) f.2.1 f.1>=0)
def aLx (f:den tFl) (l:lPt) (now:Int):den tFl:=(f.1,f.2.1,f.2.2.1,f.2.2.2.1,f.2.2.2.2.1,aE8 f l now,0,0,f.2.2.2.2.2.2.2.2)
def cAd (w:den tNw) (f:den tFl) (l:lPt):den tNw:=(nT w,nK w,nG w,aN w,aK w,aR w,aD w++[aLx f l (aN w)],bH w++[(f.2.1,f.1,0,[])],cO w)
def bAh (w:den tNw) (b:Bool):Int×Int×Int×Bool×q8:=
 ((nG w).1,aN w,cO w,b,(nT w).1,(nT w).2,(nK w).1,(nK w).2,(nG w).2.1,(nG w).2.2,aK w,aR w,aD w,bH w)
theorem bOv {w:den tNw} {f:den tFl} {l:lPt} (hw:tot tNw w<=1073741824) (hf:tot tFl f<=1073741824) (hl:tot (.sl tPt) l<=1073741824) (el:iW (nT w) (nK w) f.1 f.2.1 (aN w)=some l):
  aAs w f=some (bAh (if aOc w f then w else cAd w f l) (!aOc w f)):=by
 have sw:SmB 68719476736 tNw w:=(bC hw).mono (by decide);have sf:SmB 68719476736 tFl f:=(bC hf).mono (by decide);have n1:w.1.1.length<=68719476736:=sw.1.1.1;have n2:w.2.2.2.2.2.2.2.1.length<=1073741824:=(bC hw).2.2.2.2.2.2.2.1.1;have n3:w.2.2.2.2.2.2.1.length<=1073741824:=(bC hw).2.2.2.2.2.2.1.1;have el:iW w.1 w.2.1 f.1 f.2.1 w.2.2.2.1=some l:=el;have a1:aG 120 w.2.2.2.2.2.2.1.length 1=true:=aE (by decide) (by omega);have a2:aG 48 w.2.2.2.2.2.2.2.1.length 1=true:=aE (by decide) (by omega);unfold aAs aOc aI pj2 pj4 pj9 cZ aL aU aV zz4 zz5 zz6 zz7 zz8 zz9;simp only [aP,aUt sw,aQ9 sf,aDf n1,aWe (show w.2.2.2.2.2.2.2.1.length<=68719476736 by omega),el,bM5 hf hl,bMi,aA,aNv,a1,a2,zZ];cases jQ f
 .rfl
 cases cN w.1 f.1
 .rfl
 cases cN w.1 f.2.1
 .rfl
 cases f.2.2.2.1 != 0 with
 | true=>rfl
 | false=>cases decide ((w.2.2.2.2.2.2.1.length:Int)>=4) with
  | true=>rfl
  | false=>cases decide (kT w.2.2.2.2.2.2.2.1 f.2.1 f.1>=0)<;>rfl
theorem bQ2 {x y:den tPt} {l:lPt} (h:y∈aKb x l):y=x\/y∈l:=by
 unfold aKb at h;simp only [cEl,cEk] at h;rcases h with (h | h) | h
 .exact .inr (cF3 h)
 .exact .inl h
 .exact .inr (cF2 h)
theorem bJt {y:den tPt} {l:lPt} (h:y∈aBu l):y∈l:=by
 have : ∀ (l:lPt) (k:Nat) (a:lPt),y∈bZ (fun _ x a=>aKb x a) k l a->y∈l\/y∈a:=by
  intro l
  induction l with
  | nil=>exact fun k a h=> .inr h
  | cons x l ih=>
   intro k a h;rcases ih (k+1) (aKb x a) h with h | h
   .exact .inl (cEp _ h)
   .rcases bQ2 h with rfl | h
    .exact .inl (by simp)
    .exact .inr h
 rcases this l 0 [] h with h | h
 .exact h
 .exact (cE1 h).elim
theorem aNw {f:den tFl} {y:den tPt} {l:lPt} {now:Int} (h:y∈aE8 f l now):y∈l:=by
 unfold aE8 aAe at h;have h:=cF3 h;simp only [cEl,cEq] at h;rcases h with h | h<;>exact bJt h.1
structure FlD (t:den tTo) (f:den tFl):Prop where
 val:jQ f=true
 src:cN t f.1=true
 dst:cN t f.2.1=true
 ack:f.2.2.2.1=(0:Int)
 cur:f.2.2.2.2.2.2.1=(0:Int)
 wait:f.2.2.2.2.2.2.2.1=(0:Int)
 rev:f.2.2.2.2.2.2.2.2=[]
 paths:aR8 4 f.2.2.2.2.2.1
 msgs:tot (.sl tMs) f.2.2.2.2.1<=12
 bytes: ∀ m∈f.2.2.2.2.1,tO m
 ends: ∀ p∈f.2.2.2.2.2.1,aJ8 p=some f.1/\aDx p=some f.2.1
structure aBa (n:Nat) (w:den tNw):Prop where
 top:aEs (nT w).1 (nT w).2
 db:DbD 11 (nK w).1 (nK w).2
 gate:nG w=(12,(nG w).2.1,[])
 res:tK (nG w).2.1 12 60
 now:aN w=60
 dead:aK w=[]
 fly:aR w=[]
 drop:cO w=0
 len:(aD w).length<=n
 flows: ∀ f∈aD w,FlD (nT w) f
 box:bH w=(aD w).map fun f=>((f.2.1,f.1,0,[]):den tIb)
 uniq:(aD w).Pairwise fun f g=>rL g f=false
theorem FlD.tot {t:den tTo} {f:den tFl} (h:FlD t f):tot tFl f<=100:=by
 obtain ⟨a,b,c,d,ms,ps,cu,wa,rv⟩:=f;rw [aDz];have h1:=h.msgs;have h2:=aOd h.paths;have h3:rv=[]:=h.rev;rw [h3];simp only at h1 h2;simp only [cFf];omega
theorem bE9 {s:den tSg} (h:s.2.2.length<=5):tot tSg s<=5:=by
 have e:tot tSg s=s.2.2.length:=by
  show 0+(0+tot (.sl bU) s.2.2)=_;rw [dK rfl];omega
 omega
theorem aBa.tot {n:Nat} {w:den tNw} (hn:n<=4) (h:aBa n w):Go.V.tot tNw w<=1000:=by
 rw [dX];have h1:=h.top.len;have h2:=h.top.links;have h3:=aB3 (t:=tSg) (B:=5) (l:=(nK w).1) fun x hx=>bE9 (h.db.hd x hx)
 have h4:=aB3 (t:=tSg) (B:=5) (l:=(nK w).2) fun x hx=>bE9 (h.db.hc x hx)
 have h5:=aB3 (t:=tFl) (B:=100) (l:=aD w) fun f hf=>(h.flows f hf).tot
 have h6:=h.db.down;have h7:=h.db.core;have h8:=h.len;have h9:=h.res.len;have h10:(nG w).2.2=[]:=by rw [h.gate]
 have h11:Go.V.tot (.sl tIb) (bH w)<=(0+1) * (bH w).length:=aB3 (t:=tIb) fun x hx=>by
  rw [h.box] at hx;obtain ⟨f,_,rfl⟩:=cEi.1 hx;exact cEr _
 have h12:(bH w).length=(aD w).length:=by rw [h.box,cFb]
 rw [h.dead,h.fly,h10,aEk,aEk,aEk,dK (t:=tAS) rfl,dK (t:=tLk) rfl,dK (t:=tRs) rfl];omega
theorem aBa.mono {n m:Nat} {w:den tNw} (h:aBa n w) (hm:n<=m):aBa m w:=⟨h.top,h.db,h.gate,h.res,h.now,h.dead,h.fly,h.drop,cEa h.len hm,h.flows,h.box,h.uniq⟩
def aCm (w:den tNw) (c:List Int) (p h:Int):q37:=
 ((nG w).1,aN w,cO w,(nT w).1,(nT w).2,(nK w).1,(nK w).2,(nG w).2.1,(nG w).2.2,aK w,aR w,aD w,bH w,c,p,h)
abbrev NwS:=Int×lSg×lSg×Int×Int×Int×lRs×lAS×lLk×lSg×lSg×lUs×lI×lFy×lFl×lIb×lI×Int×Int
abbrev NwR:=Int×Int×Int×lRs×lAS×lLk×lSg×lSg×lUs×lI×lFy×lFl×lIb×lI×Int×Int
def NwI (code:List Int) (n:Nat) (s:NwS):Prop:= ∃ as ls d cc res flows box c p h,s=((n:Int),d,cc,12,60,0,res,as,ls,d,cc,[],[],[],flows,box,c,p,h)/\n<=3/\aBa (3 - n) ((as,ls),(d,cc),(12,res,[]),60,[],[],flows,box,0)/\Cur code (c,p,h)
def NwQ (code:List Int) (r:NwR):Prop:= ∃ as ls d cc res flows box c p h,r=(12,60,0,res,as,ls,d,cc,[],[],[],flows,box,c,p,h)/\aBa 3 ((as,ls),(d,cc),(12,res,[]),60,[],[],flows,box,0)/\Cur code (c,p,h)
theorem bRe {t:den tTo} {f:den tFl} {l:lPt} {now:Int} {n:Nat} (hn:n<=4) (hv:jQ f=true) (hs:cN t f.1=true) (hd:cN t f.2.1=true) (hk:f.2.2.2.1=(0:Int)) (hr:f.2.2.2.2.2.2.2.2=[]) (hm:tot (.sl tMs) f.2.2.2.2.1<=12) (hb: ∀ m∈f.2.2.2.2.1,tO m) (hl:aOi f.1 f.2.1 24 l):
  FlD t (f.1,f.2.1,f.2.2.1,f.2.2.2.1,f.2.2.2.2.1,(aE8 f l now).take n,0,0,f.2.2.2.2.2.2.2.2) where
 val:=by
  rw [aA7] at hv ⊢;obtain ⟨q1,q2,q3,q4,q5,q6,q7,q8,q9,q10,q11,q12⟩:=hv;exact ⟨q1,q2,q3,q4,q5,q6,by simp only [cFl];omega,q8,q9,.inl rfl,rfl,q12⟩
 src:=hs
 dst:=hd
 ack:=hk
 cur:=rfl
 wait:=rfl
 rev:=hr
 paths:=⟨by simp only [cFl];omega,fun p hp=>(hl.2 p (aNw (cF3 hp))).1⟩
 msgs:=hm
 bytes:=hb
 ends:=fun p hp=>(hl.2 p (aNw (cF3 hp))).2
theorem bIc {l:lIb} {a b:Int} (h:decide (kT l a b>=0)=false): ∀ x∈l,pZ a b x=false:=by
 have h:=of_decide_eq_false h;unfold kT at h;cases e:l.findIdx? (pZ a b) with
 | none=>exact fun x hx=>by simpa using List.findIdx?_eq_none_iff.1 e x hx
 | some i=>rw [e] at h;exact absurd (show (0:Int)<=((0+i:Nat):Int) by omega) h
def bQ9 (code:List Int) (o:Option q37):Prop:= ∃ w c' p' h',o=some (aCm w c' p' h')/\aBa 3 w/\Cur code (c',p',h')
theorem bXq {code:List Int} (hl:code.length<=1048576) {c:List Int} {p h:Int} (hc:Cur code (c,p,h)):bQ9 code (aCs (c,p,h)):=by
 obtain ⟨as,ls,c1,p1,h1,e1,ht,k1⟩:=aVr hl hc;obtain ⟨v2,c2,p2,h2,e2,r2,k2⟩:=aM hl (n:=7) (by decide) (by decide) k1;obtain ⟨m2,rfl⟩:=cE0 r2.1;have w2:wr ((5:Int)+(m2:Int))=((m2+5:Nat):Int):=by rw [bN (by omega) (by omega)];omega
 unfold aCs dd ixb one aE6 bHd pj3 pj4 pj5 pj7 pj8 aL aU aV bV eC fZ nA zz4 zz5 zz6 zz7 zz8 zz9;simp only [aT,bF,aX,aY,bA,e1,e2,aA,w2];refine tV (G:=bQ9 code) (fun (n:Nat) (s:Int×q49)=> ∃ d cc c p h,s=((n:Int),as,ls,d,cc,c,p,h)/\n<=11/\DbD (11 - n) d cc/\Cur code (c,p,h)) (fun r:lAS×lLk×lSg×lSg×lI×Int×Int=> ∃ d cc c p h,r=(as,ls,d,cc,c,p,h)/\DbD 11 d cc/\Cur code (c,p,h)) ?_ (m2+5) (((m2+5:Nat):Int),as,ls,[],[],c2,p2,h2) ⟨[],[],c2,p2,h2,rfl,by omega,⟨by simp,by simp,fun x hx=>(cE1 hx).elim,fun x hx=>(cE1 hx).elim,fun x hx=>(cE1 hx).elim⟩,k2⟩ ?_
 .rintro n s ⟨d,cc,c3,p3,h3,rfl,hn,hk,k3⟩
  cases n with
  | zero=>exact .inl ⟨_,rfl,d,cc,c3,p3,h3,rfl,hk,k3⟩
  | succ n=>
   right;obtain ⟨v4,c4,p4,h4,e4,k4⟩:=pR hl (n:=3) (by decide) (by decide) k3;have wn:wr (((n+1:Nat):Int) - 1)=(n:Int):=by rw [bN (by omega) (by omega)];omega
   have step: ∀ kind:Int,∃ d' cc' c' p' h',(Option.bind (kO (c4,p4,h4) (as,ls) kind) fun y58=>Option.bind (yH (as,ls) (y58.1,y58.2.1,y58.2.2.1)) fun y59=>Option.bind (qS (as,ls) (d,cc) y59) fun y60=>some (y60.1,y60.2,y58.2.2.2.1,y58.2.2.2.2.1,y58.2.2.2.2.2))=some (d',cc',c',p',h')/\DbD (11 - n) d' cc'/\Cur code (c',p',h'):=by
    intro kind;obtain ⟨a5,b5,hs5,c5,p5,h5,e5,⟨l5,i5⟩,k5⟩:=bEg hl ht kind k4;obtain ⟨hs6,e6,l6,i6⟩:=bO2 (as:=as) (ls:=ls) (s:=(a5,b5,hs5)) l5 i5;obtain ⟨d7,cc7,e7,q7⟩:=bQv ht (n:=11 - (n+1)) (by omega) hk (s:=(a5,b5,hs6)) l6 (i6.as (by have :=ht.len;omega));refine ⟨d7,cc7,c5,p5,h5,?_,q7.mono (by omega),k5⟩;simp only [e5,e6,e7,aA]
   simp only [zX (show ((n+1:Nat):Int)>0 by omega),zZ,e4,aA];cases v4 with
   | true=>
    obtain ⟨d',cc',c',p',h',e,q,k⟩:=step 1;refine ⟨n,_,by omega,?_,d',cc',c',p',h',rfl,by omega,q,k⟩;simp only [zZ,aA,e,wn]
   | false=>
    obtain ⟨d',cc',c',p',h',e,q,k⟩:=step 2;refine ⟨n,_,by omega,?_,d',cc',c',p',h',rfl,by omega,q,k⟩;simp only [zY,aA,e,wn]
 rintro r ⟨d,cc,c3,p3,h3,rfl,hk,k3⟩
 obtain ⟨v4,c4,p4,h4,e4,r4,k4⟩:=aM hl (n:=3) (by decide) (by decide) k3;obtain ⟨m4,rfl⟩:=cE0 r4.1;have w4:wr ((1:Int)+(m4:Int))=((m4+1:Nat):Int):=by rw [bN (by omega) (by omega)];omega
 have hA:=ht.len;have hL:=ht.links;have smT:SmB 68719476736 tTo (as,ls):=⟨⟨by show as.length<=_;omega,fun _ _=>⟨trivial,trivial,trivial⟩⟩,by show ls.length<=_;omega,fun _ _=>⟨trivial,trivial,trivial,trivial,trivial⟩⟩
 have smK:SmB 68719476736 tDb (d,cc):=⟨aPl (by omega) hk.down hk.hd,aPl (by omega) hk.core hk.hc⟩
 have hok:aYd (as,ls) 60=true:=by unfold aYd;rw [ht.top];rfl
 have e5:=bYf (t:=(as,ls)) (k:=(d,cc)) (c:=12) (now:=60) smT smK;rw [hok,zZ] at e5;simp only [e5,e4,w4,aA];have cap12:cond (inR 12 1 20) (12:Int) 1=12:=rfl;simp only [cap12];refine tV (G:=bQ9 code) (NwI code) (NwQ code) ?_ (m4+1) (((m4+1:Nat):Int),d,cc,12,60,0,[],as,ls,d,cc,[],[],[],[],[],c4,p4,h4) ⟨as,ls,d,cc,[],[],[],c4,p4,h4,rfl,by omega,⟨ht,hk,rfl,⟨by simp,fun x hx=>(cE1 hx).elim,fun x hx=>(cE1 hx).elim,List.Pairwise.nil⟩,rfl,rfl,rfl,rfl,cEt _,fun x hx=>(cE1 hx).elim,rfl,List.Pairwise.nil⟩,k4⟩ ?_
 rotate_left
 .rintro r ⟨as,ls,d,cc,res,flows,box,c5,p5,h5,rfl,hd,k5⟩
  exact ⟨_,c5,p5,h5,rfl,hd,k5⟩
 .rintro n s ⟨as,ls,d,cc,res,flows,box,c5,p5,h5,rfl,hn,hd,k5⟩
  cases n with
  | zero=>exact .inl ⟨_,rfl,as,ls,d,cc,res,flows,box,c5,p5,h5,rfl,hd,k5⟩
  | succ n=>
   right;obtain ⟨a6,b6,c6,p6,h6,e6,⟨ra6,rb6⟩,k6⟩:=bVi hl (by decide) hd.db k5;obtain ⟨v7,c7,p7,h7,e7,m7,k7⟩:=uE hl (l:=[(0:Int),(0:Int),((n+1:Nat):Int)]) (by simp) (by simp) k6;obtain ⟨v8,c8,p8,h8,e8,r8,k8⟩:=aM hl (n:=3) (by decide) (by decide) k7;obtain ⟨m8,rfl⟩:=cE0 r8.1;have w8:wr ((1:Int)+(m8:Int))=((m8+1:Nat):Int):=by rw [bN (by omega) (by omega)];omega
   have wn:wr (((n+1:Nat):Int) - 1)=(n:Int):=by rw [bN (by omega) (by omega)];omega
   have enf: ∀ a b c:Int,aCr a b c=some (a,b,c,0,0,0,[],[],[]):=fun _ _ _=>rfl
   simp only [zX (show ((n+1:Nat):Int)>0 by omega),zZ,e6,e7,enf,e8,w8,wn,aA,Option.bind_assoc];refine tV (G:=fun o=> ∃ m s',m<n+1/\o=some (cD9 s')/\NwI code m s') (fun (n:Nat) (s:Int×Int×Int×Int×Int×Int×Int×lMs×lPt×lRv×List Int×q31)=> ∃ ms c p h,s=((n:Int),a6,b6,v7,0,0,0,ms,[],[],c,p,h)/\n<=3/\tot (.sl tMs) ms+4 * n<=12/\(∀ m∈ms,tO m)/\Cur code (c,p,h)) (fun s:Int×Int×Int×Int×Int×Int×lMs×lPt×lRv×List Int×Int×Int=> ∃ ms c p h,s=(a6,b6,v7,0,0,0,ms,[],[],c,p,h)/\tot (.sl tMs) ms<=12/\(∀ m∈ms,tO m)/\Cur code (c,p,h)) ?_ (m8+1) (((m8+1:Nat):Int),a6,b6,v7,(0:Int),(0:Int),(0:Int),[],[],[],c8,p8,h8) ⟨[],c8,p8,h8,rfl,by omega,by rw [aEk];omega,fun m hm=>(cE1 hm).elim,k8⟩ ?_
   .rintro i s ⟨ms,c9,p9,h9,rfl,hi,hm,hb,k9⟩
    cases i with
    | zero=>exact .inl ⟨_,rfl,ms,c9,p9,h9,rfl,by omega,hb,k9⟩
    | succ i=>
     right;obtain ⟨v10,c10,p10,h10,e10,r10,k10⟩:=aM hl (n:=3) (by decide) (by decide) k9;obtain ⟨m10,rfl⟩:=cE0 r10.1;obtain ⟨l11,c11,p11,h11,e11,⟨r11,b11⟩,k11⟩:=aNc hl (n:=m10) (by omega) k10;have hf:tot tFl (a6,b6,v7,0,ms,[],0,0,[])<=1000:=by rw [aDz];show _+0+0<=_;omega
     have en:=bRu (f:=(a6,b6,v7,0,ms,[],0,0,[])) (b:=l11) ((bC (B:=1000) hf).mono (by decide)) ⟨by omega,fun e he=>trivial⟩;have wi:wr (((i+1:Nat):Int) - 1)=(i:Int):=by rw [bN (by omega) (by omega)];omega
     simp only [zX (show ((i+1:Nat):Int)>0 by omega),zZ,e10,e11,en,aA,wi];unfold aQu;split
     .refine ⟨i,_,by omega,rfl,ms++[l11],c11,p11,h11,rfl,by omega,?_,?_,k11⟩
      .rw [rT,bDi];omega
      .intro m hm;rcases cEl.1 hm with hm | hm
       .exact hb m hm
       .rw [cEk.1 hm];exact b11
     .exact ⟨i,_,by omega,rfl,ms,c11,p11,h11,rfl,by omega,by omega,hb,k11⟩
   rintro r ⟨ms,c9,p9,h9,rfl,hm,hb,k9⟩
   obtain ⟨l10,e10,hl10⟩:=cB2 hd.top (hd.db.mono (by decide)) ra6.1 rb6.1 60;have tf:tot tFl (a6,b6,v7,0,ms,[],0,0,[])<=1073741824:=by rw [aDz];show _+0+0<=_;omega
   have ea:=bOv (w:=((as,ls),(d,cc),(12,res,[]),60,[],[],flows,box,0)) (f:=(a6,b6,v7,0,ms,[],0,0,[])) (l:=l10) (cEa (hd.tot (by omega)) (by decide)) tf (cEa (aOd hl10.d) (by decide)) e10;cases hbad:aOc ((as,ls),(d,cc),(12,res,[]),60,[],[],flows,box,0) (a6,b6,v7,0,ms,[],0,0,[]) with
   | true=>
    rw [hbad] at ea;simp only [zV,cEc] at ea;simp only [ea,aA,bAh,zY];exact ⟨n,_,by omega,rfl,as,ls,d,cc,res,flows,box,c9,p9,h9,rfl,by omega,hd.mono (by omega),k9⟩
   | false=>
    rw [hbad] at ea;simp only [cEg,zU,cEm] at ea;simp only [ea,aA,bAh,cAd,zZ];unfold aOc at hbad;simp only [Bool.or_eq_false_iff,Bool.not_eq_false'] at hbad;obtain ⟨⟨⟨⟨⟨b1,b2⟩,b3⟩,b4⟩,b5⟩,b6'⟩:=hbad;have hnone:=bIc b6';have hfl:(flows.length:Int)<4:=by have h5: ¬ ((flows.length:Int)>=4):=of_decide_eq_false b5;omega
    have hfl':flows.length<=3 - (n+1):=hd.len;generalize hg:aLx (a6,b6,v7,0,ms,[],0,0,[]) l10 60=g;have hL:((flows++[g]).length:Int)=((flows.length+1:Nat):Int):=by simp
    have wl:wr (((flows.length+1:Nat):Int) - 1)=(flows.length:Int):=by rw [bN (by omega) (by omega)];omega
    have hx:(flows++[g])[flows.length]? =some g:=by simp
    have hset: ∀ y,(flows++[g]).set flows.length y=flows++[y]:=fun y=>by simp
    have hlt:flows.length<(flows++[g]).length:=by simp
    obtain ⟨m,em,hm1,hm4⟩: ∃ m:Nat,(if (4:Int)<(g.2.2.2.2.2.1.length:Int) then (4:Int) else (g.2.2.2.2.2.1.length:Int))=(m:Int)/\m<=g.2.2.2.2.2.1.length/\m<=4:=by
     by_cases h4:(4:Int)<(g.2.2.2.2.2.1.length:Int)
     .exact ⟨4,by rw [zT h4];rfl,by omega,by omega⟩
     .exact ⟨g.2.2.2.2.2.1.length,by rw [zS h4],cEr _,by omega⟩
    have hmem: ∀ y∈g.2.2.2.2.2.1,eR y:=fun y hy=>by
     rw [<- hg] at hy;exact (hl10.2 y (aNw hy)).1
    simp only [hL,wl,zX (show (0:Int)<=(flows.length:Int) by omega),zX (show (flows.length:Int)<((flows.length+1:Nat):Int) by omega),zZ,cEf,hx,aA,aYr,em,aH4 hm1,fR,zX hlt,hset];have fin: ∀ res' c p h,tK res' 12 60->Cur code (c,p,h)->NwI code n ((n:Int),d,cc,12,60,0,res',as,ls,d,cc,[],[],[],flows++[(g.1,g.2.1,g.2.2.1,g.2.2.2.1,g.2.2.2.2.1,List.take m g.2.2.2.2.2.1,g.2.2.2.2.2.2.1,g.2.2.2.2.2.2.2.1,g.2.2.2.2.2.2.2.2)],box++[(b6,a6,0,[])],c,p,h):=by
     intro res' c p h hr hc;have hF:FlD (as,ls) (g.1,g.2.1,g.2.2.1,g.2.2.2.1,g.2.2.2.2.1,List.take m g.2.2.2.2.2.1,g.2.2.2.2.2.2.1,g.2.2.2.2.2.2.2.1,g.2.2.2.2.2.2.2.2):=by
      rw [<- hg];exact bRe (f:=(a6,b6,v7,0,ms,[],0,0,[])) hm4 b1 b2 b3 rfl rfl hm hb hl10
     have ge1:g.1=a6:=by rw [<- hg];rfl
     have ge2:g.2.1=b6:=by rw [<- hg];rfl
     refine ⟨as,ls,d,cc,res',_,_,c,p,h,rfl,by omega,⟨hd.top,hd.db,rfl,hr,rfl,rfl,rfl,rfl,?_,?_,?_,?_⟩,hc⟩
     .show (flows++[_]).length<=_;simp;omega
     .intro f hf;rcases cEl.1 hf with hf | hf
      .exact hd.flows f hf
      .rw [cEk.1 hf];exact hF
     .show box++[_]=(flows++[_]).map _;rw [List.map_append,<- show box=flows.map (fun f=>((f.2.1,f.1,0,[]):den tIb)) from hd.box];simp only [cEv,List.map_nil,ge1,ge2]
     .show (flows++[_]).Pairwise _;rw [cHs];refine ⟨hd.uniq,List.pairwise_singleton _ _,fun x hx y hy=> ?_⟩;rw [cEk.1 hy];have hbx:((x.2.1,x.1,0,[]):den tIb)∈box:=by
       rw [show box=flows.map (fun f=>((f.2.1,f.1,0,[]):den tIb)) from hd.box];exact cEi.2 ⟨x,hx,rfl⟩
      have :=hnone _ hbx;unfold pZ at this;unfold rL;rw [Bool.and_comm];simp only [ge1,ge2];exact this
    by_cases hm0:m=0
    .subst hm0;simp only [show decide (((0:Nat):Int)>0)=false from rfl,zY,aA];exact ⟨n,_,by omega,rfl,fin res c9 p9 h9 hd.res k9⟩
    .simp only [zX (show (m:Int)>0 by omega),zZ,aA];cases decide (g.2.2.1>(0:Int)) with
     | false=>
      simp only [zY,aA];exact ⟨n,_,by omega,rfl,fin res c9 p9 h9 hd.res k9⟩
     | true=>
      have hp:idx (List.take m g.2.2.2.2.2.1) (0:Int)=some (g.2.2.2.2.2.1[0]'(by omega)):=by
       rw [show (0:Int)=((0:Nat):Int) from rfl,aH,cFs,zT (by omega)];exact cEb _
      obtain ⟨v11,c11,p11,h11,e11,r11,k11⟩:=aM hl (n:=2) (by decide) (by decide) k9;obtain ⟨b12,m12,e12,q12⟩:=bC7 hd.res (hmem _ (cFi (show 0<g.2.2.2.2.2.1.length by omega))) g.2.2.1 (wr ((1:Int)+v11)) 4000;simp only [zZ,hp,e11,e12,aA,aT,bF,aX,aY,bA];exact ⟨n,_,by omega,rfl,fin m12 c11 p11 h11 q12 k11⟩
def aHt (w:den tNw) (l:List Int):den tNw:=(nT w,nK w,nG w,aN w,l,aR w,aD w,bH w,cO w)
def aA9 (w:den tNw) (i:Nat):den tNw:=uL w ((aR w).take i++(aR w).drop (i+1))
end Go.Proofs.YtcppmcbkokgfcaaGreat
