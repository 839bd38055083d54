/-
  Facts and plain laws: what the functions compute, in plain words. Conditions: as each says.
-/
import Derived.Test.YtcppmcbkokgfcaaGreatQ0FnSettling
open Nat renaming le_trans->cBf,le_refl->cBs,zero_le->cB1,succ_mul->cCa,zero_add->cB9,mul_le_mul_right->cCn,mul_le_mul->cD8,le_of_ble_eq_true->cEg
open Bool renaming false_eq_true->cBj,false_and->cB0,and_false->cC4,eq_iff_iff->cB4,and_self->cC8,and_eq_true->cBg,not_false->cBq,not_true->cBh,not_eq_true'->cCg,or_eq_true->cCz
open List renaming mem_cons->cBk,mem_append->cBp,getElem?_eq_getElem->cBe,getElem?_eq_some_iff->cBm,mem_of_getElem?->cBr,getElem?_set_self->cEh,length_set->cC2,length->cBw,map_cons->cB3,length_cons->cCf,mem_singleton->cBn,mem_map->cBl,append_nil->cCm,length_nil->cDd,mem_cons_of_mem->cBu,mem_or_eq_of_mem_set->cDz,length_filter_le->cD3,getElem_mem->cBt,getElem?_cons_zero->cD9,pairwise_iff_getElem->cDi,mem_iff_getElem?->cEs,mem_filter->cBz,length_append->cCd,not_mem_nil->cB2,mem_of_mem_take->cCv,mem_of_mem_drop->cC1,all_eq_true->cB5,getElem?_take->cCs,length_take->cCq,length_drop->cDl,drop_eq_getElem_cons->cEf,length_map->cCl,map_append->cDy
open Int renaming toNat_natCast->cBo,le_refl->cC3,eq_ofNat_of_zero_le->cB7,lt_irrefl->cBx
open Sum renaming inl->cBd,inr->cBc,elim_inl->cCj,elim_inr->cD1
open Array renaming length_toList->cD6
set_option linter.unusedVariables false
set_option linter.unusedSimpArgs false
set_option maxRecDepth 100000
namespace Go.Proofs.YtcppmcbkokgfcaaGreat
open Go.Ab Go.V
theorem aS8 {w:den tNw} {r inn:Int} {p:den tPk} (h:aCn w) (hp:aCx p) (hk:(p.1==1)=false):eP w r inn p=some (aN (proc0 w r inn p)):=by
 have hp2:tot tPt p.2.2.2.1<=1073741824:=aI8 hp.sz
 have hs:=hp.step (nT w) (aT w) (aO w) r inn
 unfold eP cA.b ixb aL dM pj2 pj3 pj4 cG aG aI aR zz4 zz5 zz6 zz7 zz8 zz9
 simp only [aP,aS1 h.links h.dead,bG8 h.as (cBf h.links (by decide)) (cBf hp.sz (by decide)) hp2,aA,aS,bI,aZ,bA,bD,hk]
 rw [show fwd w.1 r w.2.2.2.1 (jS w.1 w.2.2.2.2.1 r) inn p=aW (nT w) (aT w) (aO w) r inn p from rfl]
 unfold proc0
 generalize aW (nT w) (aT w) (aO w) r inn p=v at hs
 simp only [fwI,aP]
 cases c0:v.1==0
 .cases c1:v.1==1
  .cases v.1==7
   .simp only [zY,aA,cBj,zU];rfl
   .simp only [zZ,zY,aA,cBj,zU];rfl
  .simp only [zZ,zY,aA,cBj,zU,zV,aTc h.flows h.flowsN hs.sz hs.by_]
 .simp only [zZ,zV,bDb h,aA]
theorem aXy: ∀ (k n:Nat),n<128 ^ (k+1)-> ∀ x∈vi k n,0<=x/\x<=255
 | 0,n,h,x,hx=>by
  have :x=(n:Int):=by simpa [vi] using hx
  subst this
  have :128 ^ (0+1)=128:=rfl
  omega
 | k+1,n,h,x,hx=>by
  unfold vi at hx
  split at hx
  .have :x=(n:Int):=by simpa using hx
   subst this
   omega
  .rcases cBk.1 hx with rfl | hx
   .omega
   .refine aXy k (n / 128) ?_ x hx
    rw [Nat.div_lt_iff_lt_mul (by decide)]
    rwa [<- Nat.pow_succ]
def tF (l:List Int):Prop:= ∀ x∈l,0<=x/\x<=255
theorem bG3 {b:List Int} {n:Int} (h:tF b):tF (aCt b n):=by
 unfold aCt
 split
 .rename_i hr
  have :=bM.1 hr
  intro x hx
  rcases cBp.1 hx with hx | hx
  .exact h x hx
  .exact aXy 5 n.toNat (by have :128 ^ (5+1)=4398046511104:=rfl;omega) x hx
 .exact h
theorem aRl: ∀ (l b:List Int),tF b->tF (aJo b l)
 | [],b,h=>h
 | x::xs,b,h=>aRl xs (aCt b x) (bG3 h)
theorem aQ5 (x:den tRv):tF (aHp x):=by
 unfold aHp
 split
 .exact aRl _ _ (fun x hx=>by cases hx)
 .exact fun x hx=>by cases hx
theorem bCb {r now d:Int} {p:den tPk} (h:tot tPk p<=536870912):aCx (cK r now d p) where
 sz:=by have :=aU4 r now d p;omega
 by_:=aQ5 _
theorem aR5 {x:den tIb} {p:den tPk} (h:aCx p):aCx (mW x p) where
 sz:=cBf (aVf x p) h.sz
 by_:=by
  unfold mW
  split
  .exact fun x hx=>by cases hx
  .exact fun x hx=>by cases hx
theorem bTr {l:lIb} {a b:Int} (h:l.length<=68719476736):rA l a b=some (gE l a b):=by
 unfold rA gE
 rw [aY (l:=l) (fun k x=>if oR a b x then some (k:Int) else none) (by omega) (fun k x hi hd hw hm hk=>by
  simp only [hd,hi,hw,zZ,aA]
  unfold oR
  cases x.1==a<;>cases x.2.1==b<;>rfl) (by simp),aNf (oR a b)]
 cases l.findIdx? (oR a b)<;>rfl
theorem aLd (l:lIb) (a b:Int):gE l a b= -1\/ ∃ (k:Nat) (x:den tIb),gE l a b=(k:Int)/\l[k]? =some x:=by
 unfold gE
 cases h:l.findIdx? (oR a b) with
 | none=>exact .inl rfl
 | some i=>
  have hlt:i<l.length:=by
   have :=List.findIdx?_eq_some_iff_findIdx_eq.1 h
   exact this.1
  exact .inr ⟨i,l[i],by simp,cBe hlt⟩
def rG (w:den tNw) (i:Nat) (x:den tIb):den tNw:=(nT w,nK w,nG w,aT w,aO w,aQ w,aD w,(bJ w).set i x,dQ w)
def vF (w:den tNw) (i:Nat):den tIb:=((bJ w)[i]?).getD (0,0,0,[])
def aAw (w:den tNw) (r:Int) (p:den tPk):den tNw:=
 if gE (bJ w) r p.2.1<0 then w
 else if aDh (eE (vF w (gE (bJ w) r p.2.1).toNat) p) p then
  proc0 (rG w (gE (bJ w) r p.2.1).toNat (eE (vF w (gE (bJ w) r p.2.1).toNat) p)) r 0 (mW (eE (vF w (gE (bJ w) r p.2.1).toNat) p) p)
 else rG w (gE (bJ w) r p.2.1).toNat (eE (vF w (gE (bJ w) r p.2.1).toNat) p)
def aEz (w:den tNw) (r d:Int) (p:den tPk):den tNw:=
 zA (if (iM (tE p)).length>1 then proc0 w r 0 (cK r (aT w) d p) else wR w r (cK r (aT w) d p))
def fK (w:den tNw) (r inn:Int) (p:den tPk):den tNw:=
 if (aW (nT w) (aT w) (aO w) r inn p).1==0 then rD w r (aW (nT w) (aT w) (aO w) r inn p).2.1 (aW (nT w) (aT w) (aO w) r inn p).2.2.1
 else if (aW (nT w) (aT w) (aO w) r inn p).1==1 then
  (if p.1==1 then aAw w r (aW (nT w) (aT w) (aO w) r inn p).2.2.1 else wR w r (aW (nT w) (aT w) (aO w) r inn p).2.2.1)
 else if (aW (nT w) (aT w) (aO w) r inn p).1==7&&p.1==1 then aEz w r (aW (nT w) (aT w) (aO w) r inn p).2.2.2 p
 else zA w
theorem aId {w:den tNw} (h:aCn w) {i:Nat} {x:den tIb}:aCn (rG w i x):=⟨h.as,h.links,h.dead,h.res,h.use,h.flowsN,h.flows⟩
theorem aSd {x:den tIb} {p:den tPk} (h:aDh x p=true):((mW x p).1==1)=false:=by
 unfold mW
 rw [h]
 rfl
theorem bDi {w:den tNw} {r inn:Int} {p:den tPk} (h:aCn w) (hbn:(bJ w).length<=68719476736) (hbx: ∀ x∈bJ w,tot tIb x<=1073741824) (hz:tot tPk p<=536870912) (hb:fR p):cA w r inn p=some (aN (fK w r inn p)):=by
 have hp:aCx p:=⟨by omega,hb⟩
 have hp2:tot tPt p.2.2.2.1<=1073741824:=aI8 hp.sz
 have hs:=hp.step (nT w) (aT w) (aO w) r inn
 have hkeep:=aC8 w.1 r w.2.2.2.1 (jS w.1 w.2.2.2.2.1 r) inn p
 unfold cA cA.b ixb aL dM pj2 pj3 pj4 cG aG aI aR zz4 zz5 zz6 zz7 zz8 zz9
 simp only [aP,aS1 h.links h.dead,bG8 h.as (cBf h.links (by decide)) (cBf hp.sz (by decide)) hp2,aA,aS,bI,aZ,bA,bD]
 rw [show fwd w.1 r w.2.2.2.1 (jS w.1 w.2.2.2.2.1 r) inn p=aW (nT w) (aT w) (aO w) r inn p from rfl] at hkeep ⊢
 unfold fK
 generalize aW (nT w) (aT w) (aO w) r inn p=v at hs hkeep
 simp only [fwI,aP]
 cases c0:v.1==0
 .cases c1:v.1==1
  .cases c7:v.1==7
   .simp only [zY,aA,cBj,zU,cB0];rfl
   .cases ck:p.1==1
    .simp only [zZ,zY,aA,cBj,zU,cC4];rfl
    .have hn:aCx (cK r (aT w) v.2.2.2 p):=bCb hz
     have ht1:tot tPt (tE p)<=34359738368:=cBf (aDi p) (cBf hp2 (by decide))
     have hlen:decide (((iM (tE p)).length:Int)>1)=decide ((iM (tE p)).length>1):=by rw [cB4];simp only [zR,gt_iff_lt];omega
     have e1:eP w r 0 ((pkR (cK r w.2.2.2.1 v.2.2.2 p)).1,(pkR (cK r w.2.2.2.1 v.2.2.2 p)).2.1,(pkR (cK r w.2.2.2.1 v.2.2.2 p)).2.2.1,(pkR (cK r w.2.2.2.1 v.2.2.2 p)).2.2.2.2.2.2.2.2.1,(pkR (cK r w.2.2.2.1 v.2.2.2 p)).2.2.2.1,(pkR (cK r w.2.2.2.1 v.2.2.2 p)).2.2.2.2.1,(pkR (cK r w.2.2.2.1 v.2.2.2 p)).2.2.2.2.2.1,(pkR (cK r w.2.2.2.1 v.2.2.2 p)).2.2.2.2.2.2.1,(pkR (cK r w.2.2.2.1 v.2.2.2 p)).2.2.2.2.2.2.2.1,(pkR (cK r w.2.2.2.1 v.2.2.2 p)).2.2.2.2.2.2.2.2.2)=some (aN (proc0 w r 0 (cK r (aT w) v.2.2.2 p))):=aS8 h hn rfl
     have e2:iG w r ((pkR (cK r w.2.2.2.1 v.2.2.2 p)).1,(pkR (cK r w.2.2.2.1 v.2.2.2 p)).2.1,(pkR (cK r w.2.2.2.1 v.2.2.2 p)).2.2.1,(pkR (cK r w.2.2.2.1 v.2.2.2 p)).2.2.2.2.2.2.2.2.1,(pkR (cK r w.2.2.2.1 v.2.2.2 p)).2.2.2.1,(pkR (cK r w.2.2.2.1 v.2.2.2 p)).2.2.2.2.1,(pkR (cK r w.2.2.2.1 v.2.2.2 p)).2.2.2.2.2.1,(pkR (cK r w.2.2.2.1 v.2.2.2 p)).2.2.2.2.2.2.1,(pkR (cK r w.2.2.2.1 v.2.2.2 p)).2.2.2.2.2.2.2.1,(pkR (cK r w.2.2.2.1 v.2.2.2 p)).2.2.2.2.2.2.2.2.2)=some (aN (wR w r (cK r (aT w) v.2.2.2 p))):=aTc h.flows h.flowsN hn.sz hn.by_
     simp only [zZ,zY,aA,cBj,zU,cC8,zV,bSy (t:=w.1) (r:=r) (now:=w.2.2.2.1) (d:=v.2.2.2) (cBf hp.sz (by decide)),aXp (fT (p:=p) (by omega)),aS,bI,aZ,bA,bD]
     unfold sM
     simp only [aUh ht1,aA,hlen,e1,e2]
     unfold aEz
     cases hd:decide ((iM (tE p)).length>1)
     .rw [zS (of_decide_eq_false hd)];rfl
     .rw [zT (of_decide_eq_true hd)];rfl
  .cases ck:p.1==1
   .simp only [zZ,zY,aA,cBj,zU,zV,aTc h.flows h.flowsN hs.sz hs.by_]
   .simp only [zZ,zY,aA,cBj,zU,zV,bTr hbn]
    unfold aAw
    rw [hkeep.2.1]
    rcases aLd (bJ w) r p.2.1 with hf | ⟨k,x,hf,hx⟩
    .rw [show gE w.2.2.2.2.2.2.2.1 r p.2.1= -1 from hf]
     rfl
    .have hlt:=(cBm.1 hx).1
     have hx0:w.2.2.2.2.2.2.2.1[k]? =some x:=hx
     have hxm:=hbx x (cBr hx)
     have hxs:SmB 4294967296 tIb x:=(bN hxm).mono (by decide)
     have hvs:SmB 4294967296 tPk v.2.2.1:=(bN hs.sz).mono (by decide)
     have hd1:decide ((k:Int)<(w.2.2.2.2.2.2.2.1.length:Int))=true:=zX (by have :k<w.2.2.2.2.2.2.2.1.length:=hlt;omega)
     have hd2:decide (k<w.2.2.2.2.2.2.2.1.length)=true:=zX hlt
     have hset:(w.2.2.2.2.2.2.2.1.set k (eE x v.2.2.1))[k]? =some (eE x v.2.2.1):=cEh hlt
     have hba:vF w k=x:=by unfold vF;rw [hx];rfl
     rw [show gE w.2.2.2.2.2.2.2.1 r p.2.1=(k:Int) from hf,zW (show ¬ (k:Int)<0 by omega),zS (show ¬ (k:Int)<0 by omega),cBo,hba]
     have e1:eP (w.1,w.2.1,w.2.2.1,w.2.2.2.1,w.2.2.2.2.1,w.2.2.2.2.2.1,w.2.2.2.2.2.2.1,w.2.2.2.2.2.2.2.1.set k (eE x v.2.2.1),w.2.2.2.2.2.2.2.2) r 0 (mW (eE x v.2.2.1) v.2.2.1)=some (aN (proc0 (rG w k (eE x v.2.2.1)) r 0 (mW (eE x v.2.2.1) v.2.2.1))):=by
      cases ca:aDh (eE x v.2.2.1) v.2.2.1 with
      | true=>exact aS8 (aId h) (aR5 hs) (aSd ca)
      | false=>exact aS8 (aId h) (aR5 hs) (by unfold mW;rw [ca];rfl)
     simp only [zY,fL,hd1,hd2,zZ,hx0,aA,bTt hxs hvs,cC2,hset,bS3 (x:=eE x v.2.2.1) (p:=v.2.2.1) (cBf (aI8 hs.sz) (by decide)),aS,bI,aZ,bA,bD,pkB,aP,e1]
     cases aDh (eE x v.2.2.1) v.2.2.1<;>rfl
 .simp only [zZ,zV,bDb h,aA]
def aBy (p q:den tPk):Prop:=p.2.2.2.1=q.2.2.2.1/\p.2.2.2.2.1=q.2.2.2.2.1/\p.2.2.2.2.2.1=q.2.2.2.2.2.1
theorem aBy.cur {p q:den tPk} (h:aBy p q):cI p=cI q/\dA p=dA q/\bV p=bV q/\dH p=dH q/\eB p=eB q/\fS p=fS q:=by
 obtain ⟨h1,h2,h3⟩:=h
 have a1:cI p=cI q:=by unfold cI;rw [h1,h2,h3]
 have a2:dA p=dA q:=by unfold dA;rw [a1,h1,h2,h3]
 have a3:bV p=bV q:=by unfold bV;rw [h1,h2]
 have a4:dH p=dH q:=by unfold dH;rw [a3,h3]
 have a5:eB p=eB q:=by unfold eB;rw [a3,h3]
 exact ⟨a1,a2,a3,a4,a5,by unfold fS aG6;rw [a2,a5,h1,h2]⟩
theorem aBy.adv {p q:den tPk} (h:aBy p q):aBy (adv p) (adv q):=by
 obtain ⟨a1,a2,a3,a4,a5,a6⟩:=h.cur
 obtain ⟨h1,h2,h3⟩:=id h
 unfold Go.Proofs.YtcppmcbkokgfcaaGreat.adv
 rw [a2,a5,a6]
 split
 .exact h
 .split
  .exact ⟨h1,by show p.2.2.2.2.1+1=q.2.2.2.2.1+1;rw [h2],rfl⟩
  .exact ⟨h1,h2,by show p.2.2.2.2.2.1+1=q.2.2.2.2.2.1+1;rw [h3]⟩
theorem uC (t:den tTo) (p:den tPk):aBy (bF t p) p:=by
 obtain ⟨b,hb⟩:=aI0 t p
 rw [hb]
 exact ⟨rfl,rfl,rfl⟩
theorem aBy.trans {p q r:den tPk} (h:aBy p q) (k:aBy q r):aBy p r:=⟨h.1.trans k.1,h.2.1.trans k.2.1,h.2.2.trans k.2.2⟩
theorem aIc {t:den tTo} {now:Int} {n:Nat} {p:den tPk} (h:(goC t now n p).1=0):dC t now p=0:=by
 cases n with
 | zero=>exact h
 | succ n=>
  unfold goC at h
  split at h
  .rename_i hc
   rw [cBg] at hc
   simpa using hc.1
  .exact h
theorem bIa {t:den tTo} {now:Int} {step:den tPk->Option (den tPk⊕den tPk)}
  (H: ∀ q,tot tPk q<=34359738368->cI q=true->step q=some (if eB q&&decide (q.2.2.2.2.1<(q.2.2.2.1.length:Int) - 1) then .inl (adv q) else .inr q)):
  ∀ (n:Nat) (p q:den tPk),aBy p q->tot tPk q<=34359738368->(goC t now n p).1=0->p.2.2.2.1.length - p.2.2.2.2.1.toNat<=n-> ∃ r,aC step q=some r/\aBy (goC t now n p).2 r/\tot tPk r<=34359738368:=by
 intro n
 induction n with
 | zero=>
  intro p q hs hq hc hm
  obtain ⟨hh,h0⟩:=zE (aIc hc)
  obtain ⟨i,j,h1,h2,h3,h4,h5⟩:=gV hh
  have hlt:=(cBm.1 h3).1
  rw [h1,cBo] at hm
  exact absurd hlt (by omega)
 | succ n ih=>
  intro p q hs hq hc hm
  have hz:=aIc hc
  obtain ⟨hh,h0⟩:=zE hz
  obtain ⟨a1,a2,a3,a4,a5,a6⟩:=hs.cur
  obtain ⟨b1,b2,b3,b4,b5,b6⟩:=(uC t p).cur
  have hstep:=H q hq (a1▸hh)
  rw [aZd (a1▸hh) (a2▸h0)] at hstep
  cases hb:eB q&& !fS q with
  | false=>
   rw [hb] at hstep
   have hg:goC t now (n+1) p=(dC t now p,bF t p):=by
    show (if _ then _ else _)=_
    rw [b5,b6,a5,a6,hb,cC4];rfl
   rw [hg]
   exact ⟨q,bQ hstep,(uC t p).trans hs,hq⟩
  | true=>
   rw [hb,zT rfl] at hstep
   have hg:goC t now (n+1) p=goC t now n (adv (bF t p)):=by
    show (if _ then _ else _)=_
    rw [b5,b6,a5,a6,hb,hz];rfl
   rw [hg] at hc ⊢
   rw [dW hstep]
   obtain ⟨e1,e2⟩:=aXt (p:=bF t p) (by rw [b2];exact h0) (by rw [b5,b6,a5,a6];exact hb)
   obtain ⟨i,j,h1,h2,h3,h4,h5⟩:=gV hh
   refine ih _ _ ((uC t p).trans hs).adv (by rw [aGf];exact hq) hc ?_
   rw [e1,e2,(uC t p).1,(uC t p).2.1,h1]
   rw [h1,cBo] at hm
   have :((i:Int)+1).toNat=i+1:=by omega
   rw [this]
   omega
def bDu (t:den tTo) (now:Int) (p:den tPk):Int:=pEg (bV (bT t now p).2) (dH (bT t now p).2)
theorem bXi {t:den tTo} {now:Int} {p:den tPk} (h:tot tPk p<=34359738368) (hz:(bT t now p).1=0):uN p=some (bDu t now p):=by
 unfold uN aL pj4 zz4 zz5 zz6 zz7 zz8 zz9
 obtain ⟨r,hr,hs,ht⟩:=bIa (t:=t) (now:=now) (step:=fun s5=> @Option.bind Bool _ (Option.bind (idx s5.2.2.2.1 s5.2.2.2.2.1) fun x6=>cond (s5.2.2.2.2.2.1==(wr ((x6.2.2.2.length:Int) - (1:Int)))) (some (decide (s5.2.2.2.2.1<(wr ((s5.2.2.2.1.length:Int) - (1:Int)))))) (some false)) fun (s7:Bool)=>cond s7 (Option.bind (iD (s5.1,s5.2.1,s5.2.2.1,s5.2.2.2.1,s5.2.2.2.2.1,s5.2.2.2.2.2.1,s5.2.2.2.2.2.2.1,s5.2.2.2.2.2.2.2.1,s5.2.2.2.2.2.2.2.2.1,s5.2.2.2.2.2.2.2.2.2)) fun y8=>some (cBd (y8.1,y8.2.1,y8.2.2.1,y8.2.2.2.2.2.2.2.2.1,y8.2.2.2.1,y8.2.2.2.2.1,y8.2.2.2.2.2.1,y8.2.2.2.2.2.2.1,y8.2.2.2.2.2.2.2.1,y8.2.2.2.2.2.2.2.2.2))) (some (cBc (s5.1,s5.2.1,s5.2.2.1,s5.2.2.2.1,s5.2.2.2.2.1,s5.2.2.2.2.2.1,s5.2.2.2.2.2.2.1,s5.2.2.2.2.2.2.2.1,s5.2.2.2.2.2.2.2.2.1,s5.2.2.2.2.2.2.2.2.2)))) (fun q hq hh=>by
   obtain ⟨i,j,k1,k2,k3,k4,k5⟩:=gV hh
   have l1:cBw q.2.2.2.1<=68719476736:=(fT hq).2.2.2.1.1
   have hp1:idx q.2.2.2.1 q.2.2.2.2.1=some (bV q):=by rw [k1,aH];exact k3
   simp only [hp1,aA,mH (aBk (fT hq) k3),mH l1,aP,bGv (fT hq)]
   unfold eB
   cases q.2.2.2.2.2.1==((bV q).2.2.2.length:Int) - 1<;>cases decide (q.2.2.2.2.1<(q.2.2.2.1.length:Int) - 1)<;>rfl) _ p p ⟨rfl,rfl,rfl⟩ h hz (cBs _)
 have hs:aBy (bT t now p).2 r:=hs
 have hr':aC _ (p.1,p.2.1,p.2.2.1,p.2.2.2.1,p.2.2.2.2.1,p.2.2.2.2.2.1,p.2.2.2.2.2.2.1,p.2.2.2.2.2.2.2.1,p.2.2.2.2.2.2.2.2.1,p.2.2.2.2.2.2.2.2.2)=some r:=hr
 rw [hr',aA]
 obtain ⟨a1,a2,a3,a4,a5,a6⟩:=hs.cur
 obtain ⟨g1,g2,g3⟩:=aEk _ p hz
 have g1:cI r=true:=a1▸g1
 obtain ⟨i,j,k1,k2,k3,k4,k5⟩:=gV g1
 have hp1:idx r.2.2.2.1 r.2.2.2.2.1=some (bV r):=by rw [k1,aH];exact k3
 have hp2:dY (bV r) r.2.2.2.2.2.1=some (pEg (bV r) (dH r)):=by rw [k2];exact aXe k4 (aBk (fT ht) k3)
 rw [hp1,aA]
 simp only [aP,hp2,aA]
 unfold bDu
 rw [a3,a4]
theorem bH5 {t:den tTo} {now:Int}: ∀ (n:Nat) (p:den tPk),(goC t now n p).1<=5
 | 0,p=>by
  show dC t now p<=5
  unfold dC
  repeat' split
  all_goals decide
 | n+1,p=>by
  unfold goC
  split
  .exact bH5 n _
  .show dC t now p<=5
   unfold dC
   repeat' split
   all_goals decide
theorem bK2 {t:den tTo} {r now dead inn:Int} {p:den tPk} (h:(fwd t r now dead inn p).1=7):(bT t now p).1=0/\(fwd t r now dead inn p).2.2.2=bDu t now p:=by
 have hg:(bT t now p).1<=5:=bH5 _ p
 unfold fwd at h ⊢
 split at h
 .cases h
 .rename_i c1
  rw [zS c1]
  split at h
  .cases h
  .rename_i c2
   rw [zS c2]
   split at h
   .simp only at h;omega
   .rename_i c3
    rw [zS c3]
    refine ⟨by simpa using c3,?_⟩
    split at h
    .split at h<;>cases h
    .rename_i c4
     rw [zS c4]
     split at h
     .cases h
     .rename_i c5
      rw [zS c5]
      split at h
      .rename_i c6
       rw [zT c6]
       rfl
      .cases h
theorem kinds {p:den tPk} (h:gD p=true) (h1:(p.1==1)=false) (h2:(p.1==2)=false):(p.1==3)=true:=by
 unfold gD at h
 rw [cBg] at h
 have hr:=bM.1 h.1
 have h1: ¬ p.1=(1:Int):=by simpa using h1
 have h2: ¬ p.1=(2:Int):=by simpa using h2
 have key: ∀ c:Int,1<=c->c<=3-> ¬ c=1-> ¬ c=2->c=3:=by intro c;omega
 have :p.1=(3:Int):=key p.1 hr.1 hr.2 h1 h2
 rw [this];rfl
theorem bUw {w:den tNw} {r:Int} {p:den tPk} (h:aCn w) (hp:aCx p) (hk:(p.1==1)=false) (hv:(p.1==2)=false->(p.1==3)=true):uL w r p=some (aN (wR w r p)):=by
 unfold uL kG.b ixb aL dM pj2 pj3 pj4 pj9 cG aG zz4 zz5 zz6 zz7 zz8 zz9
 rw [hk,zY]
 cases h2:p.1==2 with
 | true=>
  rw [zZ]
  refine bI5 (w:=w) (r:=r) (p:=p) h2 h.flows h.flowsN (fun k f a ha hx hm hk'=> ?_) (fun a ha=> ?_)
  .obtain ⟨d1,d2⟩:=aOc ha hk'
   have hw:wr ((k:Int)+1)=((k+1:Nat):Int):=(wri (by have :=h.flowsN;omega) (by have :=h.flowsN;omega)).trans (by omega)
   simp only [d1,d2,fL,cBo,hx,zZ,aA,aP,bC6 (aS9 (h.flows f hm)),aS,bI,aZ,bA,bD,hw]
   unfold sN
   rw [h2]
   cases f.1==r
   .simp only [zY,cBj,zU,aA,aJu hx]
   .simp only [zZ,zV,aA]
    rfl
  .show cond (decide ((((aD w).length:Nat):Int)<(a.length:Int))) _ _=_
   rw [ha,zW (by omega)]
   rfl
 | false=>
  rw [zY,hv h2,zZ]
  simp only [aP,aSv h2 h.flows h.flowsN hp.sz hp.by_,aA]
theorem bVa {w:den tNw} {r:Int} {p:den tPk} (h:aCn w) (hp:aCx p) (hk:(p.1==1)=false) (hv:(p.1==2)=false->(p.1==3)=true):kG w r p=some (aN (wR w r p)):=by
 unfold kG kG.b ixb aL dM pj2 pj3 pj4 pj9 cG aG zz4 zz5 zz6 zz7 zz8 zz9
 rw [hk,zY]
 cases h2:p.1==2 with
 | true=>
  rw [zZ]
  refine bI5 (w:=w) (r:=r) (p:=p) h2 h.flows h.flowsN (fun k f a ha hx hm hk'=> ?_) (fun a ha=> ?_)
  .obtain ⟨d1,d2⟩:=aOc ha hk'
   have hw:wr ((k:Int)+1)=((k+1:Nat):Int):=(wri (by have :=h.flowsN;omega) (by have :=h.flowsN;omega)).trans (by omega)
   simp only [d1,d2,fL,cBo,hx,zZ,aA,aP,bC6 (aS9 (h.flows f hm)),aS,bI,aZ,bA,bD,hw]
   unfold sN
   rw [h2]
   cases f.1==r
   .simp only [zY,cBj,zU,aA,aJu hx]
   .simp only [zZ,zV,aA]
    rfl
  .show cond (decide ((((aD w).length:Nat):Int)<(a.length:Int))) _ _=_
   rw [ha,zW (by omega)]
   rfl
 | false=>
  rw [zY,hv h2,zZ]
  simp only [aP,aSv h2 h.flows h.flowsN hp.sz hp.by_,aA]
theorem aTa {w:den tNw} {r inn:Int} {p:den tPk} (h:aCn w) (hp:aCx p) (hk:(p.1==1)=false):hZ w r inn p=some (aN (proc0 w r inn p)):=by
 have hp2:tot tPt p.2.2.2.1<=1073741824:=aI8 hp.sz
 have hs:=hp.step (nT w) (aT w) (aO w) r inn
 have hkeep:=aC8 w.1 r w.2.2.2.1 (jS w.1 w.2.2.2.2.1 r) inn p
 have hval:=aIa (t:=w.1) (r:=r) (now:=w.2.2.2.1) (dead:=jS w.1 w.2.2.2.2.1 r) (inn:=inn) (p:=p)
 unfold hZ eD.b aL vJ dM pj2 pj3 cG aG aI aR zz4 zz5 zz6 zz7 zz8 zz9
 simp only [aP,aUf h.links h.dead,bFz h.as (cBf h.links (by decide)) (cBf hp.sz (by decide)) hp2,aA,aS,bI,aZ,bA,bD,hk]
 rw [show fwd w.1 r w.2.2.2.1 (jS w.1 w.2.2.2.2.1 r) inn p=aW (nT w) (aT w) (aO w) r inn p from rfl] at hkeep hval ⊢
 unfold proc0
 generalize aW (nT w) (aT w) (aO w) r inn p=v at hs hkeep hval
 have hback:(((fwS v).2.2.1,(fwS v).2.2.2.1,(fwS v).2.2.2.2.1,(fwS v).2.2.2.2.2.2.2.2.2.2.1,(fwS v).2.2.2.2.2.1,(fwS v).2.2.2.2.2.2.1,(fwS v).2.2.2.2.2.2.2.1,(fwS v).2.2.2.2.2.2.2.2.1,(fwS v).2.2.2.2.2.2.2.2.2.1,(fwS v).2.2.2.2.2.2.2.2.2.2.2):den tPk)=v.2.2.1:=rfl
 rw [show (fwS v).1=v.1 from rfl,show (fwS v).2.1=v.2.1 from rfl]
 cases c1:v.1==1
 .cases c0:v.1==0
  .cases c7:v.1==7
   .simp only [zY,aA,cBj,zU,cCj];rfl
   .simp only [zZ,zY,aA,cBj,zU,cCj];rfl
  .unfold rD
   rw [hkeep.2.2.1]
   simp only [zZ,zY,zV,aEs (t:=w.1) (cBf h.links (by decide)),aS4 h.res h.use,aA]
   cases ct:(lH w.2.2.1 p.2.2.2.2.2.2.2.1 r v.2.1 w.2.2.2.1).2.1
   .simp only [zY,aA,cB0,cBj,zU,cCj];rfl
   .by_cases hl:(aQ w).length<150
    .have h150:decide ((w.2.2.2.2.2.1.length:Int)<150)=true:=zX (by have :w.2.2.2.2.2.1.length<150:=hl;omega)
     rw [zX hl]
     simp only [zZ,aA,h150,cC8,zV,aE (b:=128) (n:=w.2.2.2.2.2.1.length) (m:=1) (by decide) (show (aQ w).length+1<=_ by omega),cD1]
     rfl
    .have h150:decide ((w.2.2.2.2.2.1.length:Int)<150)=false:=zW (by have : ¬ w.2.2.2.2.2.1.length<150:=hl;omega)
     rw [zW hl]
     simp only [zZ,zY,aA,h150,cC4,cBj,zU,cCj]
     rfl
 .have c0:(v.1==0)=false:=by
   have :v.1=1:=by simpa using c1
   rw [this];rfl
  have hv:gD p=true:=hval (by rw [show v.1=1 from by simpa using c1];rfl)
  have hq1:(v.2.2.1.1==1)=false:=by rw [hkeep.1];exact hk
  have hq2:(v.2.2.1.1==2)=false->(v.2.2.1.1==3)=true:=by rw [hkeep.1];exact kinds hv hk
  rw [hback,bUw h hs hq1 hq2]
  simp only [c0,zZ,aA,cBj,zU,zV,cD1]
theorem bU7 {w:den tNw} {r:Int} {p:den tPk} (h:aCn w) (hbn:(bJ w).length<=68719476736) (hbx: ∀ x∈bJ w,tot tIb x<=1073741824) (hp:aCx p) (hk:(p.1==1)=true):kG w r p=some (aN (aAw w r p)):=by
 unfold kG kG.b aAw ixb aL dM pj2 pj3 pj4 pj9 cG aG zz4 zz5 zz6 zz7 zz8 zz9
 simp only [hk,zZ,aS7 hbn,aA]
 rcases aLd (bJ w) r p.2.1 with hf | ⟨k,x,hf,hx⟩
 .rw [show gE w.2.2.2.2.2.2.2.1 r p.2.1= -1 from hf]
  rfl
 .have hlt:=(cBm.1 hx).1
  have hx0:w.2.2.2.2.2.2.2.1[k]? =some x:=hx
  have hxm:=hbx x (cBr hx)
  have hxs:SmB 4294967296 tIb x:=(bN hxm).mono (by decide)
  have hvs:SmB 4294967296 tPk p:=(bN hp.sz).mono (by decide)
  have hd1:decide ((k:Int)<(w.2.2.2.2.2.2.2.1.length:Int))=true:=zX (by have :k<w.2.2.2.2.2.2.2.1.length:=hlt;omega)
  have hd2:decide (k<w.2.2.2.2.2.2.2.1.length)=true:=zX hlt
  have hba:vF w k=x:=by unfold vF;rw [hx];rfl
  rw [show gE w.2.2.2.2.2.2.2.1 r p.2.1=(k:Int) from hf,zW (show ¬ (k:Int)<0 by omega),zS (show ¬ (k:Int)<0 by omega),cBo,hba]
  have e1:hZ (w.1,w.2.1,w.2.2.1,w.2.2.2.1,w.2.2.2.2.1,w.2.2.2.2.2.1,w.2.2.2.2.2.2.1,w.2.2.2.2.2.2.2.1.set k (eE x p),w.2.2.2.2.2.2.2.2) r 0 (mW (eE x p) p)=some (aN (proc0 (rG w k (eE x p)) r 0 (mW (eE x p) p))):=by
   cases ca:aDh (eE x p) p with
   | true=>exact aTa (aId h) (aR5 hp) (aSd ca)
   | false=>exact aTa (aId h) (aR5 hp) (by unfold mW;rw [ca];rfl)
  simp only [zY,fL,hd1,hd2,zZ,hx0,aA,aP,bS5 hxs hvs,bTc (x:=eE x p) (p:=p) (cBf (aI8 hp.sz) (by decide)),aS,bI,aZ,bA,bD,pkB,e1]
  cases aDh (eE x p) p<;>rfl
theorem aSn {w:den tNw} {r inn:Int} {p:den tPk} (h:aCn w) (hbn:(bJ w).length<=68719476736) (hbx: ∀ x∈bJ w,tot tIb x<=1073741824) (hz:tot tPk p<=536870912) (hb:fR p):eD w r inn p=some (aN (fK w r inn p)):=by
 have hp:aCx p:=⟨by omega,hb⟩
 have hp2:tot tPt p.2.2.2.1<=1073741824:=aI8 hp.sz
 have hs:=hp.step (nT w) (aT w) (aO w) r inn
 have hkeep:=aC8 w.1 r w.2.2.2.1 (jS w.1 w.2.2.2.2.1 r) inn p
 have hval:=aIa (t:=w.1) (r:=r) (now:=w.2.2.2.1) (dead:=jS w.1 w.2.2.2.2.1 r) (inn:=inn) (p:=p)
 have hsev:=bK2 (t:=w.1) (r:=r) (now:=w.2.2.2.1) (dead:=jS w.1 w.2.2.2.2.1 r) (inn:=inn) (p:=p)
 unfold eD eD.b aL vJ dM pj2 pj3 cG aG aI aR zz4 zz5 zz6 zz7 zz8 zz9
 simp only [aP,aUf h.links h.dead,bFz h.as (cBf h.links (by decide)) (cBf hp.sz (by decide)) hp2,aA,aS,bI,aZ,bA,bD]
 rw [show fwd w.1 r w.2.2.2.1 (jS w.1 w.2.2.2.2.1 r) inn p=aW (nT w) (aT w) (aO w) r inn p from rfl] at hkeep hval hsev ⊢
 unfold fK
 generalize aW (nT w) (aT w) (aO w) r inn p=v at hs hkeep hval hsev
 have hback:(((fwS v).2.2.1,(fwS v).2.2.2.1,(fwS v).2.2.2.2.1,(fwS v).2.2.2.2.2.2.2.2.2.2.1,(fwS v).2.2.2.2.2.1,(fwS v).2.2.2.2.2.2.1,(fwS v).2.2.2.2.2.2.2.1,(fwS v).2.2.2.2.2.2.2.2.1,(fwS v).2.2.2.2.2.2.2.2.2.1,(fwS v).2.2.2.2.2.2.2.2.2.2.2):den tPk)=v.2.2.1:=rfl
 rw [show (fwS v).1=v.1 from rfl,show (fwS v).2.1=v.2.1 from rfl]
 cases c1:v.1==1
 .cases c0:v.1==0
  .cases c7:v.1==7
   .simp only [zY,aA,cBj,zU,cCj,cB0];rfl
   .cases ck:p.1==1
    .simp only [zZ,zY,aA,cBj,zU,cCj,cC4];rfl
    .obtain ⟨hz0,hd0⟩:=hsev (by simpa using c7)
     have hn:aCx (cK r (aT w) v.2.2.2 p):=bCb hz
     have ht1:tot tPt (tE p)<=34359738368:=cBf (aDi p) (cBf hp2 (by decide))
     have hlen:decide (((iM (tE p)).length:Int)>1)=decide ((iM (tE p)).length>1):=by rw [cB4];simp only [zR,gt_iff_lt];omega
     have e1:hZ w r 0 ((pkR (cK r w.2.2.2.1 v.2.2.2 p)).1,(pkR (cK r w.2.2.2.1 v.2.2.2 p)).2.1,(pkR (cK r w.2.2.2.1 v.2.2.2 p)).2.2.1,(pkR (cK r w.2.2.2.1 v.2.2.2 p)).2.2.2.2.2.2.2.2.1,(pkR (cK r w.2.2.2.1 v.2.2.2 p)).2.2.2.1,(pkR (cK r w.2.2.2.1 v.2.2.2 p)).2.2.2.2.1,(pkR (cK r w.2.2.2.1 v.2.2.2 p)).2.2.2.2.2.1,(pkR (cK r w.2.2.2.1 v.2.2.2 p)).2.2.2.2.2.2.1,(pkR (cK r w.2.2.2.1 v.2.2.2 p)).2.2.2.2.2.2.2.1,(pkR (cK r w.2.2.2.1 v.2.2.2 p)).2.2.2.2.2.2.2.2.2)=some (aN (proc0 w r 0 (cK r (aT w) v.2.2.2 p))):=aTa h hn rfl
     have e2:oA w r ((pkR (cK r w.2.2.2.1 v.2.2.2 p)).1,(pkR (cK r w.2.2.2.1 v.2.2.2 p)).2.1,(pkR (cK r w.2.2.2.1 v.2.2.2 p)).2.2.1,(pkR (cK r w.2.2.2.1 v.2.2.2 p)).2.2.2.2.2.2.2.2.1,(pkR (cK r w.2.2.2.1 v.2.2.2 p)).2.2.2.1,(pkR (cK r w.2.2.2.1 v.2.2.2 p)).2.2.2.2.1,(pkR (cK r w.2.2.2.1 v.2.2.2 p)).2.2.2.2.2.1,(pkR (cK r w.2.2.2.1 v.2.2.2 p)).2.2.2.2.2.2.1,(pkR (cK r w.2.2.2.1 v.2.2.2 p)).2.2.2.2.2.2.2.1,(pkR (cK r w.2.2.2.1 v.2.2.2 p)).2.2.2.2.2.2.2.2.2)=some (aN (wR w r (cK r (aT w) v.2.2.2 p))):=aSv rfl h.flows h.flowsN hn.sz hn.by_
     simp only [zZ,zY,aA,cBj,zU,cC8,zV,bXi (t:=w.1) (now:=w.2.2.2.1) (p:=p) (cBf hp.sz (by decide)) hz0,<- hd0,bTn (t:=w.1) (r:=r) (now:=w.2.2.2.1) (d:=v.2.2.2) (cBf hp.sz (by decide)),aXu (fT (p:=p) (by omega)),aS,bI,aZ,bA,bD,aGp ht1,hlen,e1,e2]
     unfold aEz
     cases hd:decide ((iM (tE p)).length>1)
     .rw [zS (of_decide_eq_false hd)];rfl
     .rw [zT (of_decide_eq_true hd)];rfl
  .unfold rD
   rw [hkeep.2.2.1]
   simp only [zZ,zY,zV,aEs (t:=w.1) (cBf h.links (by decide)),aS4 h.res h.use,aA]
   cases ct:(lH w.2.2.1 p.2.2.2.2.2.2.2.1 r v.2.1 w.2.2.2.1).2.1
   .simp only [zY,aA,cB0,cBj,zU,cCj];rfl
   .by_cases hl:(aQ w).length<150
    .have h150:decide ((w.2.2.2.2.2.1.length:Int)<150)=true:=zX (by have :w.2.2.2.2.2.1.length<150:=hl;omega)
     rw [zX hl]
     simp only [zZ,aA,h150,cC8,zV,aE (b:=128) (n:=w.2.2.2.2.2.1.length) (m:=1) (by decide) (show (aQ w).length+1<=_ by omega),cD1]
     rfl
    .have h150:decide ((w.2.2.2.2.2.1.length:Int)<150)=false:=zW (by have : ¬ w.2.2.2.2.2.1.length<150:=hl;omega)
     rw [zW hl]
     simp only [zZ,zY,aA,h150,cC4,cBj,zU,cCj]
     rfl
 .have c0:(v.1==0)=false:=by
   have :v.1=1:=by simpa using c1
   rw [this];rfl
  have hv:gD p=true:=hval (by rw [show v.1=1 from by simpa using c1];rfl)
  rw [hback]
  cases ck:p.1==1 with
  | true=>
   rw [bU7 h hbn hbx hs (by rw [hkeep.1];exact ck)]
   simp only [c0,zZ,aA,cBj,zU,zV,cD1]
  | false=>
   have hq1:(v.2.2.1.1==1)=false:=by rw [hkeep.1];exact ck
   have hq2:(v.2.2.1.1==2)=false->(v.2.2.1.1==3)=true:=by rw [hkeep.1];exact kinds hv ck
   rw [bVa h hs hq1 hq2]
   simp only [c0,zZ,aA,cBj,zU,zV,cD1]
theorem fN (w:den tNw):tot tNw w=(tot (.sl tAS) (nT w).1+tot (.sl tLk) (nT w).2)+((tot (.sl tSg) (nK w).1+tot (.sl tSg) (nK w).2)+((0+(tot (.sl tRs) (nG w).2.1+tot (.sl tUs) (nG w).2.2))+(0+(tot (.sl ti) (aO w)+(tot (.sl tFy) (aQ w)+(tot (.sl tFl) (aD w)+(tot (.sl tIb) (bJ w)+0))))))):=rfl
theorem aPq {w:den tNw} (h:tot tNw w<=1073741824):aCn w where
 as:=by have :=fN w;have :=dB (t:=tAS) (nT w).1;omega
 links:=by have :=fN w;have :=dB (t:=tLk) (nT w).2;omega
 dead:=by have :=fN w;have :=dB (t:=ti) (aO w);omega
 res:=by have :=fN w;have :=dB (t:=tRs) (nG w).2.1;omega
 use:=by have :=fN w;have :=dB (t:=tUs) (nG w).2.2;omega
 flowsN:=by have :=fN w;have :=dB (t:=tFl) (aD w);omega
 flows:=fun f hf=>by have :=fN w;have :=sO (t:=tFl) hf;omega
theorem bWw {w:den tNw} (h:tot tNw w<=1073741824):(bJ w).length<=68719476736/\ ∀ x∈bJ w,tot tIb x<=1073741824:=
 ⟨by have :=fN w;have :=dB (t:=tIb) (bJ w);omega,fun x hx=>by have :=fN w;have :=sO (t:=tIb) hx;omega⟩
theorem aE4 (w:den tNw):tot tNw (zA w)=tot tNw w:=rfl
theorem bCt (l:lUs):tot (.sl tUs) l=l.length:=dK rfl
theorem bKe (g:den tSc) (id s d now:Int):tot (.sl tRs) (lH g id s d now).2.2.1=tot (.sl tRs) g.2.1/\tot (.sl tUs) (lH g id s d now).2.2.2<=tot (.sl tUs) g.2.2+1:=by
 have m1:=aIi g.2.2 id s d
 have m2:=aIi g.2.2 0 s d
 rw [bCt,bCt]
 unfold lH
 split
 .exact ⟨rfl,by simpa using m1⟩
 .split
  .exact ⟨rfl,by simpa using m2⟩
  .exact ⟨rfl,by simp⟩
theorem aUp (w:den tNw) (r eg:Int) (p:den tPk):tot tNw (rD w r eg p)<=tot tNw w+(2+tot tPk p):=by
 unfold rD
 split
 .obtain ⟨e1,e2⟩:=bKe (nG w) p.2.2.2.2.2.2.2.1 r eg (aT w)
  rw [fN,fN w]
  simp only [nT,nK,nG,aO,aQ,aD,bJ] at e1 e2 ⊢
  rw [sU,aEf]
  have e3:tot tFy ((remote w.1 r eg).1,(remote w.1 r eg).2,p)=tot tPk p:=by simp [oW,qK]
  rw [e3]
  omega
 .rw [aE4];omega
theorem bIr (f:den tFl) (p:den tPk):tot tFl (wB f p)=tot tFl f:=by
 unfold wB
 split<;>rfl
theorem bJc (r:Int) (p:den tPk) (f:den tFl):tot tFl (sN r p f)<=tot tFl f+1:=by
 unfold sN
 split
 .split
  .rw [bIr];omega
  .exact bLc f p
 .omega
theorem bCs (r:Int) (p:den tPk): ∀ l:lFl,tot (.sl tFl) (l.map (sN r p))<=tot (.sl tFl) l+l.length
 | []=>by simp
 | f::l=>by
  have h1:=bJc r p f
  have h2:=bCs r p l
  rw [cB3,kH,kH,cCf]
  omega
theorem aGy (w:den tNw) (l:lFl):tot tNw (dU w l)=(tot (.sl tAS) (nT w).1+tot (.sl tLk) (nT w).2)+((tot (.sl tSg) (nK w).1+tot (.sl tSg) (nK w).2)+((0+(tot (.sl tRs) (nG w).2.1+tot (.sl tUs) (nG w).2.2))+(0+(tot (.sl ti) (aO w)+(tot (.sl tFy) (aQ w)+(tot (.sl tFl) l+(tot (.sl tIb) (bJ w)+0))))))):=rfl
theorem bHa (w:den tNw) (k:Nat) (x:den tIb):tot tNw (rG w k x)=(tot (.sl tAS) (nT w).1+tot (.sl tLk) (nT w).2)+((tot (.sl tSg) (nK w).1+tot (.sl tSg) (nK w).2)+((0+(tot (.sl tRs) (nG w).2.1+tot (.sl tUs) (nG w).2.2))+(0+(tot (.sl ti) (aO w)+(tot (.sl tFy) (aQ w)+(tot (.sl tFl) (aD w)+(tot (.sl tIb) ((bJ w).set k x)+0))))))):=rfl
theorem aMt (w:den tNw) (r:Int) (p:den tPk):tot tNw (wR w r p)<=tot tNw w+(aD w).length:=by
 have h:=bCs r p (aD w)
 unfold wR
 rw [aGy,fN w]
 omega
theorem aUk (w:den tNw) (r inn:Int) (p:den tPk):tot tNw (proc0 w r inn p)<=tot tNw w+(2+tot tPk p+(aD w).length):=by
 unfold proc0
 split
 .have :=aUp w r (aW (nT w) (aT w) (aO w) r inn p).2.1 (aW (nT w) (aT w) (aO w) r inn p).2.2.1
  have e:tot tPk (aW (nT w) (aT w) (aO w) r inn p).2.2.1=tot tPk p:=aI5 _ _ _ _ _ _
  omega
 .split
  .have :=aMt w r (aW (nT w) (aT w) (aO w) r inn p).2.2.1
   omega
  .rw [aE4];omega
theorem aOb {t:Ty} {l:List (den t)} {k:Nat} {x y:den t} (h:l[k]? =some x):tot (.sl t) (l.set k y)+tot t x=tot (.sl t) l+tot t y:=by
 induction l generalizing k with
 | nil=>cases h
 | cons z l ih=>
  cases k with
  | zero=>
   have :z=x:=by simpa using h
   subst this
   rw [List.set_cons_zero,kH,kH];omega
  | succ k=>
   have :=ih (k:=k) (by simpa using h)
   rw [List.set_cons_succ,kH,kH];omega
theorem bHr (x:den tIb) (p:den tPk):tot tIb (eE x p)<=tot tIb x+(1+tot tPk p):=by
 have h1:=bK7 x p
 have h2:=(aNj (p:=p) (cBs _)).2
 have e: ∀ y:den tIb,tot tIb y=tot (.sl tMs) y.2.2.2:=fun y=>by simp [oW,qK]
 rw [e,e]
 omega
theorem bKc (w:den tNw) (r:Int) (p:den tPk):tot tNw (aAw w r p)<=tot tNw w+(3+2 * tot tPk p+(aD w).length):=by
 unfold aAw
 split
 .omega
 .rcases aLd (bJ w) r p.2.1 with hf | ⟨k,x,hf,hx⟩
  .rename_i hc;rw [hf] at hc;exact absurd (by decide) hc
  .have hba:vF w k=x:=by unfold vF;rw [hx];rfl
   rw [hf,cBo,hba]
   have h1:=aOb (t:=tIb) (y:=eE x p) hx
   have h2:=bHr x p
   have h3:tot tNw (rG w k (eE x p))<=tot tNw w+(1+tot tPk p):=by
    rw [bHa,fN w]
    omega
   split
   .have h4:=aUk (rG w k (eE x p)) r 0 (mW (eE x p) p)
    have h5:=aVf (eE x p) p
    have h6:(aD (rG w k (eE x p))).length=(aD w).length:=rfl
    omega
   .omega
theorem bJ4 (w:den tNw) (r d:Int) (p:den tPk):tot tNw (aEz w r d p)<=tot tNw w+(20+tot tPk p+(aD w).length):=by
 unfold aEz
 rw [aE4]
 split
 .have h1:=aUk w r 0 (cK r (aT w) d p)
  have h2:=aU4 r (aT w) d p
  omega
 .have :=aMt w r (cK r (aT w) d p)
  omega
theorem bI1 (w:den tNw) (r inn:Int) (p:den tPk):tot tNw (fK w r inn p)<=tot tNw w+(20+2 * tot tPk p+(aD w).length):=by
 have e:tot tPk (aW (nT w) (aT w) (aO w) r inn p).2.2.1=tot tPk p:=aI5 _ _ _ _ _ _
 unfold fK
 split
 .have :=aUp w r (aW (nT w) (aT w) (aO w) r inn p).2.1 (aW (nT w) (aT w) (aO w) r inn p).2.2.1
  omega
 .split
  .split
   .have :=bKc w r (aW (nT w) (aT w) (aO w) r inn p).2.2.1
    omega
   .have :=aMt w r (aW (nT w) (aT w) (aO w) r inn p).2.2.1
    omega
  .split
   .have :=bJ4 w r (aW (nT w) (aT w) (aO w) r inn p).2.2.2 p
    omega
   .rw [aE4];omega
theorem aG5 {w:den tNw} (h:tot tNw w<=68719476736):SmB 68719476736 tNw w:=bN h
def dI (w:den tNw):q4:=
 ((nT w).1,(nT w).2,(nK w).1,(nK w).2,(nG w).1,(nG w).2.1,(nG w).2.2,aT w,aO w,dQ w,aQ w,aD w,bJ w)
theorem bKk {p:den tPp} (h:aBt p=true):tot tPp p<=8:=by
 unfold aBt aF0 at h
 simp only [cBg,zR] at h
 have e:tot tPp p=tot (.sl cM) p.2.2.2:=by simp [oW,qK]
 rw [e,dK rfl]
 exact h.2.2.2.1
theorem bL2 {p:den tPt} (h:aG4 p=true):tot tPt p<=27:=by
 unfold aG4 at h
 rw [cBg,zR] at h
 have key: ∀ l:lPp,l.all aBt=true->tot (.sl tPp) l<=9 * l.length:=by
  intro l
  induction l with
  | nil=>intro _;exact cBs _
  | cons x l ih=>
   intro hl
   rw [List.all_cons,cBg] at hl
   have h1:=bKk hl.1
   have h2:=ih hl.2
   rw [kH,cCf]
   omega
 have :=key p h.2
 have h1:cBw p<=3:=h.1
 show tot (.sl tPp) p<=27
 omega
theorem aF3 {p:den tPk} (h:gD p=true):tot tPk p<=67:=by
 have h':=h
 unfold gD at h'
 simp only [cBg,zR] at h'
 have h1:=bL2 h'.2.1
 have h2:p.2.2.2.2.2.2.2.2.2.length<=40:=by have :=h'.2.2.2.2.2.2.2.2.2;omega
 have e:tot tPk p=tot tPt p.2.2.2.1+tot (.sl tb) p.2.2.2.2.2.2.2.2.2:=by simp [oW,qK]
 rw [e,dK (t:=tb) rfl]
 omega
theorem aMa {w:den tNw} {r inn:Int} {p:den tPk} (h:gD p=false):fK w r inn p=zA w:=by
 have hv:aW (nT w) (aT w) (aO w) r inn p=(2,0,p,0):=by
  unfold aW fwd
  rw [h];rfl
 unfold fK
 rw [hv]
 rfl
theorem aQl (w:den tNw) (r inn:Int) (p:den tPk):tot tNw (fK w r inn p)<=tot tNw w+(160+(aD w).length):=by
 cases h:gD p with
 | true=>
  have h1:=bI1 w r inn p
  have h2:=aF3 h
  omega
 | false=>rw [aMa h,aE4];omega
structure kY (w:den tNw):Prop where
 fly: ∀ x∈aQ w,fR x.2.2
 msg: ∀ f∈aD w,∀ m∈f.2.2.2.2.1,tF m
theorem aR0 {w:den tNw} (h:kY w) {r eg:Int} {p:den tPk} (hp:fR p):kY (rD w r eg p)/\(aD (rD w r eg p)).length=(aD w).length:=by
 unfold rD
 split
 .refine ⟨⟨fun x hx=> ?_,h.msg⟩,rfl⟩
  rcases cBp.1 (show x∈aQ w++_ from hx) with hx | hx
  .exact h.fly x hx
  .have :x=_:=cBn.1 hx
   subst this
   exact hp
 .exact ⟨⟨h.fly,h.msg⟩,rfl⟩
theorem bIx (r:Int) (p:den tPk) (f:den tFl):(sN r p f).2.2.2.2.1=f.2.2.2.2.1:=by
 unfold sN
 split
 .split
  .exact (bBr f p).1
  .unfold aAr
   cases p.1==3&&(yJ p.2.2.2.2.2.2.2.2.2).2.2.2<;>rfl
 .rfl
theorem aK5 {w:den tNw} (h:kY w) (r:Int) (p:den tPk):kY (wR w r p)/\(aD (wR w r p)).length=(aD w).length:=by
 refine ⟨⟨h.fly,fun f hf m hm=> ?_⟩,by show ((aD w).map _).length=_;simp⟩
 obtain ⟨g,hg,rfl⟩:=cBl.1 (show f∈(aD w).map (sN r p) from hf)
 rw [bIx] at hm
 exact h.msg g hg m hm
theorem aFv {w:den tNw} (h:kY w):kY (zA w)/\(aD (zA w)).length=(aD w).length:=⟨⟨h.fly,h.msg⟩,rfl⟩
theorem aOt {w:den tNw} (h:kY w) (k:Nat) (x:den tIb):kY (rG w k x)/\(aD (rG w k x)).length=(aD w).length:=⟨⟨h.fly,h.msg⟩,rfl⟩
theorem aOq {t:den tTo} {now:Int} {dead:List Int} {r inn:Int} {p:den tPk} (hp:fR p):fR (aW t now dead r inn p).2.2.1:=fun x hx=>hp x (by unfold aW at hx;rwa [(aC8 t r now _ inn p).2.2.2] at hx)
theorem aRo {w:den tNw} (h:kY w) {r inn:Int} {p:den tPk} (hp:fR p):kY (proc0 w r inn p)/\(aD (proc0 w r inn p)).length=(aD w).length:=by
 unfold proc0
 split
 .exact aR0 h (aOq hp)
 .split
  .exact aK5 h _ _
  .exact aFv h
theorem aKg {w:den tNw} (h:kY w) {r inn:Int} {p:den tPk} (hp:fR p):kY (fK w r inn p)/\(aD (fK w r inn p)).length=(aD w).length:=by
 unfold fK
 split
 .exact aR0 h (aOq hp)
 .split
  .split
   .unfold aAw
    split
    .exact ⟨h,rfl⟩
    .split
     .obtain ⟨h1,h2⟩:=aOt h (gE (bJ w) r (aW (nT w) (aT w) (aO w) r inn p).2.2.1.2.1).toNat (eE (vF w (gE (bJ w) r (aW (nT w) (aT w) (aO w) r inn p).2.2.1.2.1).toNat) (aW (nT w) (aT w) (aO w) r inn p).2.2.1)
      obtain ⟨h3,h4⟩:=aRo h1 (r:=r) (inn:=0) (p:=mW (eE (vF w (gE (bJ w) r (aW (nT w) (aT w) (aO w) r inn p).2.2.1.2.1).toNat) (aW (nT w) (aT w) (aO w) r inn p).2.2.1) (aW (nT w) (aT w) (aO w) r inn p).2.2.1) (by
       unfold mW
       split
       .exact fun x hx=>by cases hx
       .exact fun x hx=>by cases hx)
      exact ⟨h3,h4.trans h2⟩
     .exact aOt h _ _
   .exact aK5 h _ _
  .split
   .unfold aEz
    split
    .obtain ⟨h1,h2⟩:=aRo h (r:=r) (inn:=0) (p:=cK r (aT w) (aW (nT w) (aT w) (aO w) r inn p).2.2.2 p) (aQ5 _)
     obtain ⟨h3,h4⟩:=aFv h1
     exact ⟨h3,h4.trans h2⟩
    .obtain ⟨h1,h2⟩:=aK5 h r (cK r (aT w) (aW (nT w) (aT w) (aO w) r inn p).2.2.2 p)
     obtain ⟨h3,h4⟩:=aFv h1
     exact ⟨h3,h4.trans h2⟩
   .exact aFv h
def bG (w:den tNw) (l:lFy):den tNw:=(nT w,nK w,nG w,aT w,aO w,l,aD w,bJ w,dQ w)
def cQ (x:den tFy) (w:den tNw):q29:=
 (x.1,x.2.1,x.2.2.1,x.2.2.2.1,x.2.2.2.2.1,x.2.2.2.2.2.1,x.2.2.2.2.2.2.1,x.2.2.2.2.2.2.2.1,x.2.2.2.2.2.2.2.2.1,x.2.2.2.2.2.2.2.2.2.1,x.2.2.2.2.2.2.2.2.2.2.1,x.2.2.2.2.2.2.2.2.2.2.2,aN w)
theorem bVl {w:den tNw} {x:den tFy} (hx:(aQ w)[0]? =some x) (hl:(aQ w).length<=1073741824):mG w 0=some (cQ x (bG w ((aQ w).drop 1))):=by
 have hlt:0<(aQ w).length:=(cBm.1 hx).1
 have hx:w.2.2.2.2.2.1[(0:Int).toNat]? =some x:=hx
 have h1:decide ((0:Int)<(w.2.2.2.2.2.1.length:Int))=true:=zX (by have :0<w.2.2.2.2.2.1.length:=hlt;omega)
 have e1:wr ((0:Int)+1)=((1:Nat):Int):=rfl
 have h2:cC ((1:Nat):Int) (w.2.2.2.2.2.1.length:Int) (w.2.2.2.2.2.1.length:Int)=true:=yM (show 1<=w.2.2.2.2.2.1.length from hlt)
 have h3:cC (0:Int) (0:Int) (w.2.2.2.2.2.1.length:Int)=true:=aGh (k:=0) (cB1 _)
 have h4:cut w.2.2.2.2.2.1 (0:Int) (0:Int)=[]:=by simp [cut]
 have hl:w.2.2.2.2.2.1.length<=1073741824:=hl
 unfold mG ixb aL aG aI zz4 zz5 zz6 zz7 zz8 zz9
 simp only [h1,hx,aA,zZ,e1,h2,h3,h4,aCy,cCm,cDd,aE (b:=128) (n:=0) (m:=0) (by decide) (by decide),aE (b:=128) (n:=0) (m:=(w.2.2.2.2.2.1.drop 1).length) (by decide) (by simp;omega),zX (show (0:Int)<=0 from cC3 _)]
 rfl
theorem bVx {w:den tNw} {x:den tFy} (hx:(aQ w)[0]? =some x) (hl:(aQ w).length<=1073741824):oJ w 0=some (cQ x (bG w ((aQ w).drop 1))):=by
 have hlt:0<(aQ w).length:=(cBm.1 hx).1
 have hx:w.2.2.2.2.2.1[(0:Int).toNat]? =some x:=hx
 have h1:decide ((0:Int)<(w.2.2.2.2.2.1.length:Int))=true:=zX (by have :0<w.2.2.2.2.2.1.length:=hlt;omega)
 have e1:wr ((0:Int)+1)=((1:Nat):Int):=rfl
 have h2:cC ((1:Nat):Int) (w.2.2.2.2.2.1.length:Int) (w.2.2.2.2.2.1.length:Int)=true:=yM (show 1<=w.2.2.2.2.2.1.length from hlt)
 have h3:cC (0:Int) (0:Int) (w.2.2.2.2.2.1.length:Int)=true:=aGh (k:=0) (cB1 _)
 have h4:cut w.2.2.2.2.2.1 (0:Int) (0:Int)=[]:=by simp [cut]
 have hl:w.2.2.2.2.2.1.length<=1073741824:=hl
 unfold oJ ixb aL aG aI zz4 zz5 zz6 zz7 zz8 zz9
 simp only [h1,hx,aA,zZ,e1,h2,h3,h4,aCy,cCm,cDd,aE (b:=128) (n:=0) (m:=0) (by decide) (by decide),aE (b:=128) (n:=0) (m:=(w.2.2.2.2.2.1.drop 1).length) (by decide) (by simp;omega),zX (show (0:Int)<=0 from cC3 _)]
 rfl
theorem aKq (w:den tNw) (l:lFy):tot tNw (bG w l)+tot (.sl tFy) (aQ w)=tot tNw w+tot (.sl tFy) l:=by
 have e:tot tNw (bG w l)=(tot (.sl tAS) (nT w).1+tot (.sl tLk) (nT w).2)+((tot (.sl tSg) (nK w).1+tot (.sl tSg) (nK w).2)+((0+(tot (.sl tRs) (nG w).2.1+tot (.sl tUs) (nG w).2.2))+(0+(tot (.sl ti) (aO w)+(tot (.sl tFy) l+(tot (.sl tFl) (aD w)+(tot (.sl tIb) (bJ w)+0))))))):=rfl
 rw [e,fN w]
 omega
def aAp (w:den tNw):den tNw:=match aQ w with
 | []=>w
 | x::l=>fK (bG w l) x.1 x.2.1 x.2.2
def aA2:Nat->den tNw->den tNw
 | 0,w=>w
 | n+1,w=>match aQ w with
  | []=>w
  | _::_=>aA2 n (aAp w)
structure eG (B F:Nat) (w:den tNw):Prop where
 tot:Go.V.tot tNw w<=B
 flows:(aD w).length<=F
 bytes:kY w
theorem eG.mono {B C F:Nat} {w:den tNw} (h:eG B F w) (hb:B<=C):eG C F w:=⟨cBf h.tot hb,h.flows,h.bytes⟩
theorem bTx {w:den tNw} {x:den tFy} {l:lFy} (h:aQ w=x::l):tot tNw (bG w l)+(1+tot tPk x.2.2)=tot tNw w:=by
 have h1:=aKq w l
 rw [h,kH] at h1
 have e:tot tFy x=tot tPk x.2.2:=by simp [oW,qK]
 rw [e] at h1
 omega
theorem aKv {B F:Nat} {w:den tNw} {x:den tFy} {l:lFy} (hk:eG B F w) (h:aQ w=x::l):eG B F (bG w l)/\tot tPk x.2.2<=B/\fR x.2.2:=by
 have h1:=bTx h
 have h2:=hk.tot
 refine ⟨⟨by omega,hk.flows,⟨fun y hy=>hk.bytes.fly y (by rw [h];exact cBu _ hy),hk.bytes.msg⟩⟩,by omega,hk.bytes.fly x (by rw [h];exact List.mem_cons_self ..)⟩
theorem aKy {B F:Nat} {w:den tNw} (hk:eG B F w) {r inn:Int} {p:den tPk} (hp:fR p):eG (B+(160+F)) F (fK w r inn p):=by
 obtain ⟨h1,h2⟩:=aKg hk.bytes (r:=r) (inn:=inn) hp
 have h3:=aQl w r inn p
 have h4:=hk.tot
 have h5:=hk.flows
 exact ⟨by omega,by omega,h1⟩
theorem aVi {B F:Nat} {w:den tNw} (hk:eG B F w):eG (B+(160+F)) F (aAp w):=by
 unfold aAp
 split
 .exact hk.mono (by omega)
 .rename_i x l h
  obtain ⟨h1,h2,h3⟩:=aKv hk h
  exact aKy h1 h3
theorem aIl {F:Nat}: ∀ (n:Nat) {B:Nat} {w:den tNw},eG B F w->eG (B+n * (160+F)) F (aA2 n w)
 | 0,B,w,hk=>hk.mono (by omega)
 | n+1,B,w,hk=>by
  unfold aA2
  split
  .exact hk.mono (by omega)
  .have :=aIl n (aVi hk)
   refine this.mono ?_
   rw [cCa];omega
theorem aXk {F:Nat} {S R:Type} (enc:Nat->den tNw->S) (out:den tNw->R) (N:Nat) {step:S->Option (S⊕R)}
  (H1: ∀ (k:Nat) (w:den tNw) (x:den tFy) (l:lFy),k<N->aQ w=x::l->eG 536870912 F w->step (enc k w)=some (.inl (enc (k+1) (aAp w))))
  (H2: ∀ (k:Nat) (w:den tNw),(k=N\/aQ w=[])->step (enc k w)=some (.inr (out w))):
  ∀ (m k B:Nat) (w:den tNw),k+m=N->eG B F w->B+m * (160+F)<=536870912->aC step (enc k w)=some (out (aA2 m w)):=by
 intro m
 induction m with
 | zero=>intro k B w hk hw hB;exact bQ (H2 k w (.inl (by omega)))
 | succ m ih=>
  intro k B w hk hw hB
  unfold aA2
  split
  .rename_i h;exact bQ (H2 k w (.inr h))
  .rename_i x l h
   rw [cCa] at hB
   rw [dW (H1 k w x l (by omega) h (hw.mono (by omega)))]
   exact ih (k+1) _ _ (by omega) (aVi hw) (by omega)
theorem aGo {B F:Nat} {w:den tNw} (h:eG B F w) (hB:B<=1073741824):aCn w/\(bJ w).length<=68719476736/\ ∀ x∈bJ w,tot tIb x<=1073741824:=
 ⟨aPq (cBf h.tot hB),bWw (cBf h.tot hB)⟩
theorem aOe {B F:Nat} {w:den tNw} (h:eG B F w) (hB:B<=1073741824):(aQ w).length<=1073741824:=by
 have :=fN w
 have :=dB (t:=tFy) (aQ w)
 have :=h.tot
 omega
theorem bY2 {F:Nat} {w:den tNw} {x:den tFy} {l:lFy} (h:aQ w=x::l) (hk:eG 536870912 F w):mG (((aN w).2.2.2.1,(aN w).2.2.2.2.1),((aN w).2.2.2.2.2.1,(aN w).2.2.2.2.2.2.1),((aN w).2.2.2.2.2.2.2.1,(aN w).2.2.2.2.2.2.2.2.1,(aN w).2.2.2.2.2.2.2.2.2.1),(aN w).2.2.2.2.2.2.2.2.2.2.1,(aN w).2.2.2.2.2.2.2.2.2.2.2.1,(aN w).1,(aN w).2.1,(aN w).2.2.1,(aN w).2.2.2.2.2.2.2.2.2.2.2.2) 0=some (cQ x (bG w l))/\cA (((cQ x (bG w l)).2.2.2.2.2.2.2.2.2.2.2.2.2.2.2.1,(cQ x (bG w l)).2.2.2.2.2.2.2.2.2.2.2.2.2.2.2.2.1),((cQ x (bG w l)).2.2.2.2.2.2.2.2.2.2.2.2.2.2.2.2.2.1,(cQ x (bG w l)).2.2.2.2.2.2.2.2.2.2.2.2.2.2.2.2.2.2.1),((cQ x (bG w l)).2.2.2.2.2.2.2.2.2.2.2.2.2.2.2.2.2.2.2.1,(cQ x (bG w l)).2.2.2.2.2.2.2.2.2.2.2.2.2.2.2.2.2.2.2.2.1,(cQ x (bG w l)).2.2.2.2.2.2.2.2.2.2.2.2.2.2.2.2.2.2.2.2.2.1),(cQ x (bG w l)).2.2.2.2.2.2.2.2.2.2.2.2.2.2.2.2.2.2.2.2.2.2.1,(cQ x (bG w l)).2.2.2.2.2.2.2.2.2.2.2.2.2.2.2.2.2.2.2.2.2.2.2.1,(cQ x (bG w l)).2.2.2.2.2.2.2.2.2.2.2.2.1,(cQ x (bG w l)).2.2.2.2.2.2.2.2.2.2.2.2.2.1,(cQ x (bG w l)).2.2.2.2.2.2.2.2.2.2.2.2.2.2.1,(cQ x (bG w l)).2.2.2.2.2.2.2.2.2.2.2.2.2.2.2.2.2.2.2.2.2.2.2.2) (cQ x (bG w l)).1 (cQ x (bG w l)).2.1 ((cQ x (bG w l)).2.2.1,(cQ x (bG w l)).2.2.2.1,(cQ x (bG w l)).2.2.2.2.1,(cQ x (bG w l)).2.2.2.2.2.1,(cQ x (bG w l)).2.2.2.2.2.2.1,(cQ x (bG w l)).2.2.2.2.2.2.2.1,(cQ x (bG w l)).2.2.2.2.2.2.2.2.1,(cQ x (bG w l)).2.2.2.2.2.2.2.2.2.1,(cQ x (bG w l)).2.2.2.2.2.2.2.2.2.2.1,(cQ x (bG w l)).2.2.2.2.2.2.2.2.2.2.2.1)=some (aN (aAp w)):=by
 have hx:(aQ w)[0]? =some x:=by rw [h];rfl
 have hd:(aQ w).drop 1=l:=by rw [h];rfl
 obtain ⟨k1,k2,k3⟩:=aKv hk h
 obtain ⟨n1,n2,n3⟩:=aGo k1 (by decide)
 refine ⟨?_,?_⟩
 .have :=bVl (w:=w) hx (aOe hk (by decide))
  rw [hd] at this
  exact this
 .have e:aAp w=fK (bG w l) x.1 x.2.1 x.2.2:=by unfold aAp;rw [h]
  rw [e]
  exact bDi (w:=bG w l) n1 n2 n3 k2 k3
theorem bZx {F:Nat} {w:den tNw} {x:den tFy} {l:lFy} (h:aQ w=x::l) (hk:eG 536870912 F w):oJ (((aN w).2.2.2.1,(aN w).2.2.2.2.1),((aN w).2.2.2.2.2.1,(aN w).2.2.2.2.2.2.1),((aN w).2.2.2.2.2.2.2.1,(aN w).2.2.2.2.2.2.2.2.1,(aN w).2.2.2.2.2.2.2.2.2.1),(aN w).2.2.2.2.2.2.2.2.2.2.1,(aN w).2.2.2.2.2.2.2.2.2.2.2.1,(aN w).1,(aN w).2.1,(aN w).2.2.1,(aN w).2.2.2.2.2.2.2.2.2.2.2.2) 0=some (cQ x (bG w l))/\eD (((cQ x (bG w l)).2.2.2.2.2.2.2.2.2.2.2.2.2.2.2.1,(cQ x (bG w l)).2.2.2.2.2.2.2.2.2.2.2.2.2.2.2.2.1),((cQ x (bG w l)).2.2.2.2.2.2.2.2.2.2.2.2.2.2.2.2.2.1,(cQ x (bG w l)).2.2.2.2.2.2.2.2.2.2.2.2.2.2.2.2.2.2.1),((cQ x (bG w l)).2.2.2.2.2.2.2.2.2.2.2.2.2.2.2.2.2.2.2.1,(cQ x (bG w l)).2.2.2.2.2.2.2.2.2.2.2.2.2.2.2.2.2.2.2.2.1,(cQ x (bG w l)).2.2.2.2.2.2.2.2.2.2.2.2.2.2.2.2.2.2.2.2.2.1),(cQ x (bG w l)).2.2.2.2.2.2.2.2.2.2.2.2.2.2.2.2.2.2.2.2.2.2.1,(cQ x (bG w l)).2.2.2.2.2.2.2.2.2.2.2.2.2.2.2.2.2.2.2.2.2.2.2.1,(cQ x (bG w l)).2.2.2.2.2.2.2.2.2.2.2.2.1,(cQ x (bG w l)).2.2.2.2.2.2.2.2.2.2.2.2.2.1,(cQ x (bG w l)).2.2.2.2.2.2.2.2.2.2.2.2.2.2.1,(cQ x (bG w l)).2.2.2.2.2.2.2.2.2.2.2.2.2.2.2.2.2.2.2.2.2.2.2.2) (cQ x (bG w l)).1 (cQ x (bG w l)).2.1 ((cQ x (bG w l)).2.2.1,(cQ x (bG w l)).2.2.2.1,(cQ x (bG w l)).2.2.2.2.1,(cQ x (bG w l)).2.2.2.2.2.1,(cQ x (bG w l)).2.2.2.2.2.2.1,(cQ x (bG w l)).2.2.2.2.2.2.2.1,(cQ x (bG w l)).2.2.2.2.2.2.2.2.1,(cQ x (bG w l)).2.2.2.2.2.2.2.2.2.1,(cQ x (bG w l)).2.2.2.2.2.2.2.2.2.2.1,(cQ x (bG w l)).2.2.2.2.2.2.2.2.2.2.2.1)=some (aN (aAp w)):=by
 have hx:(aQ w)[0]? =some x:=by rw [h];rfl
 have hd:(aQ w).drop 1=l:=by rw [h];rfl
 obtain ⟨k1,k2,k3⟩:=aKv hk h
 obtain ⟨n1,n2,n3⟩:=aGo k1 (by decide)
 refine ⟨?_,?_⟩
 .have :=bVx (w:=w) hx (aOe hk (by decide))
  rw [hd] at this
  exact this
 .have e:aAp w=fK (bG w l) x.1 x.2.1 x.2.2:=by unfold aAp;rw [h]
  rw [e]
  exact aSn (w:=bG w l) n1 n2 n3 k2 k3
theorem bQt {F:Nat} {w:den tNw} {n:Int} {B:Nat} (h0:0<=n) (hn:n<=1000000) (hk:eG B F w) (hB:B+n.toNat * (160+F)<=536870912):eC w n=some (aN (aA2 n.toNat w)):=by
 unfold eC dM aG aI aR bR fJ mP tA xR yZ aBp aD6 aHa aO8 aPx aLc zz4 zz5 zz6 zz7 zz8 zz9
 refine aXk (F:=F) (fun k w=>((k:Int),aN w)) aN n.toNat (fun k w x l hk' hx hw=> ?_) (fun k w hk'=> ?_) n.toNat 0 B w (cB9 _) hk hB
 .obtain ⟨e1,e2⟩:=bY2 hx hw
  have hd:decide ((k:Int)<n)=true:=zX (by omega)
  have hp:decide (((aN w).1.length:Int)>0)=true:=by rw [show (aN w).1=aQ w from rfl,hx];simp
  have hwr:wr ((k:Int)+1)=((k+1:Nat):Int):=(wri (by omega) (by omega)).trans (by omega)
  simp only [hd,hp,zZ,aA,e1,e2,hwr]
 .rcases hk' with rfl | h
  .have hd:decide (((n.toNat:Nat):Int)<n)=false:=zW (by omega)
   simp only [hd,zY,aA]
  .have hp:decide (((aN w).1.length:Int)>0)=false:=by rw [show (aN w).1=aQ w from rfl,h];rfl
   simp only [hp,aA]
   cases decide ((k:Int)<n)<;>rfl
def bQk:den kR:=(2,0,[],(0,0,(0,0,0,[],0,0,0,0,0,[])))
theorem bTb {F:Nat} {w:den tNw} {x:den tFy} {l:lFy} (h:aQ w=x::l) (hk:eG 536870912 F w):oD w bQk=some (true,aN (aAp w)):=by
 obtain ⟨e1,e2⟩:=bZx h hk
 have hl:w.2.2.2.2.2.1.length<=68719476736:=cBf (aOe hk (by decide)) (by decide)
 have hin:inR (0:Int) 0 ((w.2.2.2.2.2.1.length:Int) - 1)=true:=by
  rw [bM,show w.2.2.2.2.2.1=x::l from h,cCf]
  omega
 unfold oD bQk ixb aL dM aSr pj2 cG aG aI aR bR fJ mP tA xR yZ aBp aD6 aHa aO8 aPx aLc zz4 zz5 zz6 zz7 zz8 zz9
 simp only [eR,mH hl,hin,aA]
 have e1:oJ w 0=some (cQ x (bG w l)):=e1
 simp only [show ((2:Int)==1)=false from rfl,show ((2:Int)==2)=true from rfl,zY,zZ,aP,e1,aA,e2]
theorem bRp {F:Nat} {w:den tNw} {n:Int} {B:Nat} (h0:0<=n) (hn:n<=1000000) (hk:eG B F w) (hB:B+n.toNat * (160+F)<=536870912):sW w n=some (aN (aA2 n.toNat w)):=by
 unfold sW dM aG aI aR bR zz4 zz5 zz6 zz7 zz8 zz9
 refine aXk (F:=F) (fun k w=>((k:Int),aN w)) aN n.toNat (fun k w x l hk' hx hw=> ?_) (fun k w hk'=> ?_) n.toNat 0 B w (cB9 _) hk hB
 .have e1:oD (((aN w).2.2.2.1,(aN w).2.2.2.2.1),((aN w).2.2.2.2.2.1,(aN w).2.2.2.2.2.2.1),((aN w).2.2.2.2.2.2.2.1,(aN w).2.2.2.2.2.2.2.2.1,(aN w).2.2.2.2.2.2.2.2.2.1),(aN w).2.2.2.2.2.2.2.2.2.2.1,(aN w).2.2.2.2.2.2.2.2.2.2.2.1,(aN w).1,(aN w).2.1,(aN w).2.2.1,(aN w).2.2.2.2.2.2.2.2.2.2.2.2) ((2:Int),(0:Int),[],((0:Int),(0:Int),((0:Int),(0:Int),(0:Int),[],(0:Int),(0:Int),(0:Int),(0:Int),(0:Int),[])))=some (true,aN (aAp w)):=bTb hx hw
  have hd:decide ((k:Int)<n)=true:=zX (by omega)
  have hp:decide (((aN w).1.length:Int)>0)=true:=by rw [show (aN w).1=aQ w from rfl,hx];simp
  have hwr:wr ((k:Int)+1)=((k+1:Nat):Int):=(wri (by omega) (by omega)).trans (by omega)
  simp only [hd,hp,zZ,aA,e1,hwr]
 .rcases hk' with rfl | h
  .have hd:decide (((n.toNat:Nat):Int)<n)=false:=zW (by omega)
   simp only [hd,zY,aA]
  .have hp:decide (((aN w).1.length:Int)>0)=false:=by rw [show (aN w).1=aQ w from rfl,h];rfl
   simp only [hp,aA]
   cases decide ((k:Int)<n)<;>rfl
theorem bJq (f:den tFl):(aF f).1.2.2.2.2.1=f.2.2.2.2.1:=by
 unfold aF
 repeat' split
 all_goals rfl
theorem bBm {f:den tFl} (h: ∀ m∈f.2.2.2.2.1,tF m):fR (xV f):=by
 unfold xV
 split
 .intro x hx
  have hx:x∈(f.2.2.2.2.1[f.2.2.2.1.toNat]?).getD []:=hx
  cases hm:f.2.2.2.2.1[f.2.2.2.1.toNat]? with
  | none=>rw [hm] at hx;cases hx
  | some m=>rw [hm] at hx;exact h m (cBr hm) x hx
 .intro x hx;cases hx
theorem bBa {f:den tFl} (h: ∀ m∈f.2.2.2.2.1,tF m):fR (aF f).2.1:=by
 unfold aF
 repeat' split
 all_goals first
  | exact bBm h
  | (intro x hx;cases hx)
def stepT (k:Nat) (w:den tNw):den tNw:=match (aD w)[k]? with
 | some f=>if (aF f).2.2 then fK (dU w ((aD w).set k (aF f).1)) (aF f).1.1 0 (aF f).2.1 else dU w ((aD w).set k (aF f).1)
 | none=>w
def tickL:Nat->Nat->den tNw->den tNw
 | _,0,w=>w
 | k,n+1,w=>tickL (k+1) n (stepT k w)
def aE2 (w:den tNw):den tNw:=(nT w,nK w,((nG w).1,aFe (nG w).2.1 (wr (aT w+1)),[]),wr (aT w+1),aO w,aQ w,aD w,bJ w,dQ w)
def cV (w:den tNw):den tNw:=if aT w>=1000000 then w else tickL 0 (aD w).length (aE2 w)
theorem aLq {B F:Nat} {w:den tNw} {k:Nat} {f:den tFl} (hk:eG B F w) (hf:(aD w)[k]? =some f):eG B F (dU w ((aD w).set k (aF f).1))/\tot tPk (aF f).2.1<=B/\fR (aF f).2.1:=by
 have hm:=cBr hf
 have h1:=aOb (t:=tFl) (y:=(aF f).1) hf
 have h2:=(aU1 f).1
 have h3:=(aU1 f).2
 have h4:=sO (t:=tFl) hm
 have h5:=aGy w ((aD w).set k (aF f).1)
 have h6:=fN w
 have h7:=hk.tot
 refine ⟨⟨by omega,?_,⟨hk.bytes.fly,fun g hg m hmm=> ?_⟩⟩,by omega,bBa (hk.bytes.msg f hm)⟩
 .show ((aD w).set k _).length<=F
  rw [cC2];exact hk.flows
 .rcases cDz (show g∈(aD w).set k (aF f).1 from hg) with hg | rfl
  .exact hk.bytes.msg g hg m hmm
  .rw [bJq] at hmm
   exact hk.bytes.msg f hm m hmm
theorem aQf {B F:Nat} {w:den tNw} (k:Nat) (hk:eG B F w):eG (B+(160+F)) F (stepT k w)/\(aD (stepT k w)).length=(aD w).length:=by
 unfold stepT
 split
 .rename_i f hf
  obtain ⟨h1,h2,h3⟩:=aLq hk hf
  have hl:(aD (dU w ((aD w).set k (aF f).1))).length=(aD w).length:=by show ((aD w).set k _).length=_;rw [cC2]
  split
  .exact ⟨aKy h1 h3,(aKg h1.bytes h3).2.trans hl⟩
  .exact ⟨h1.mono (by omega),hl⟩
 .exact ⟨hk.mono (by omega),rfl⟩
theorem aRg {F:Nat}: ∀ (n k:Nat) {B:Nat} {w:den tNw},eG B F w->eG (B+n * (160+F)) F (tickL k n w)/\(aD (tickL k n w)).length=(aD w).length
 | 0,k,B,w,hk=>⟨hk.mono (by omega),rfl⟩
 | n+1,k,B,w,hk=>by
  obtain ⟨h1,h2⟩:=aQf k hk
  obtain ⟨h3,h4⟩:=aRg n (k+1) h1
  unfold tickL
  exact ⟨h3.mono (by rw [cCa];omega),h4.trans h2⟩
theorem bI7 (l:lRs) (now:Int):(aFe l now).length<=l.length:=cD3 _ _
theorem aGc {B F:Nat} {w:den tNw} (hk:eG B F w):eG B F (aE2 w):=by
 refine ⟨?_,hk.flows,⟨hk.bytes.fly,hk.bytes.msg⟩⟩
 have h1:=hk.tot
 have h2:=fN w
 have h3:=bI7 (nG w).2.1 (wr (aT w+1))
 have e:tot tNw (aE2 w)=(tot (.sl tAS) (nT w).1+tot (.sl tLk) (nT w).2)+((tot (.sl tSg) (nK w).1+tot (.sl tSg) (nK w).2)+((0+(tot (.sl tRs) (aFe (nG w).2.1 (wr (aT w+1)))+tot (.sl tUs) []))+(0+(tot (.sl ti) (aO w)+(tot (.sl tFy) (aQ w)+(tot (.sl tFl) (aD w)+(tot (.sl tIb) (bJ w)+0))))))):=rfl
 have r1: ∀ l:lRs,tot (.sl tRs) l=l.length:=fun l=>dK rfl
 have r2:=r1 (aFe (nG w).2.1 (wr (aT w+1)))
 have r3:=r1 (nG w).2.1
 rw [aB0] at e
 omega
theorem aFy {B F:Nat} {w:den tNw} (hk:eG B F w):eG (B+F * (160+F)) F (cV w):=by
 unfold cV
 split
 .exact hk.mono (by omega)
 .have :=(aRg (aD w).length 0 (aGc hk)).1
  refine this.mono ?_
  have h1:(aD w).length * (160+F)<=F * (160+F):=cCn _ hk.flows
  omega
theorem aUx {F:Nat} {S R:Type} (enc:Nat->den tNw->S) (out:den tNw->R) (N:Nat) {step:S->Option (S⊕R)}
  (H1: ∀ (k:Nat) (w:den tNw),k<N->(aD w).length=N->eG 536870912 F w->step (enc k w)=some (.inl (enc (k+1) (stepT k w))))
  (H2: ∀ (w:den tNw),(aD w).length=N->step (enc N w)=some (.inr (out w))):
  ∀ (m k B:Nat) (w:den tNw),k+m=N->(aD w).length=N->eG B F w->B+m * (160+F)<=536870912->aC step (enc k w)=some (out (tickL k m w)):=by
 intro m
 induction m with
 | zero=>
  intro k B w hk hn hw hB
  have :k=N:=by omega
  subst this
  exact bQ (H2 w hn)
 | succ m ih=>
  intro k B w hk hn hw hB
  rw [cCa] at hB
  obtain ⟨h1,h2⟩:=aQf k hw
  rw [dW (H1 k w (by omega) hn (hw.mono (by omega)))]
  exact ih (k+1) _ _ (by omega) (h2.trans hn) h1 (by omega)
theorem bUh {B F:Nat} {w0:den tNw} (hF:F<=1000) (hk:eG B F w0) (hB:B+F * (160+F)<=536870912):oB w0=some (!decide (aT w0>=1000000),aN (cV w0)):=by
 have hres:(nG w0).2.1.length<=1073741824:=(aPq (cBf hk.tot (by omega))).res
 unfold oB cV ixb aJx dM pj3 pj9 aG aI aR bR fJ mP tA xR yZ aBp zz4 zz5 zz6 zz7 zz8 zz9
 by_cases hnow:aT w0>=1000000
 .rw [zT hnow,zX (p:=w0.2.2.2.1>=1000000) hnow]
  rfl
 .rw [zS hnow,zW (p:=w0.2.2.2.1>=1000000) hnow,zY]
  unfold xL
  simp only [bPr hres,aA]
  refine Eq.trans (congrArg (fun o=>Option.bind o _) (aUx (F:=F) (fun k w=>((k:Int),aN w)) aN (aD w0).length (fun k w hk' hn hw=> ?_) (fun w hn=> ?_) (aD w0).length 0 B (aE2 w0) (cB9 _) rfl (aGc hk) (by have :(aD w0).length * (160+F)<=F * (160+F):=cCn _ hk.flows;omega))) ?_
  .obtain ⟨f,hf⟩: ∃ f,(aD w)[k]? =some f:=⟨_,cBe (show k<(aD w).length by omega)⟩
   obtain ⟨k1,k2,k3⟩:=aLq hw hf
   obtain ⟨n1,n2,n3⟩:=aGo k1 (by decide)
   have hft:tot tFl f<=34359738368:=by have :=sO (t:=tFl) (cBr hf);have :=fN w;have :=hw.tot;omega
   have hd:decide ((k:Int)<(w0.2.2.2.2.2.2.1.length:Int))=true:=zX (by have :k<w0.2.2.2.2.2.2.1.length:=(by exact hk');omega)
   have hd1:decide ((k:Int)<((aN w).2.1.length:Int))=true:=zX (by have :k<(aN w).2.1.length:=(show k<(aD w).length by omega);omega)
   have hd2:decide (k<(aN w).2.1.length)=true:=zX (show k<(aD w).length by omega)
   have hf':(aN w).2.1[k]? =some f:=hf
   have hwr:wr ((k:Int)+1)=((k+1:Nat):Int):=(wri (by have :=hk.flows;omega) (by have :=hk.flows;omega)).trans (by omega)
   have e:stepT k w=if (aF f).2.2 then fK (dU w ((aD w).set k (aF f).1)) (aF f).1.1 0 (aF f).2.1 else dU w ((aD w).set k (aF f).1):=by unfold stepT;rw [hf]
   have e1:cA (((aN w).2.2.2.1,(aN w).2.2.2.2.1),((aN w).2.2.2.2.2.1,(aN w).2.2.2.2.2.2.1),((aN w).2.2.2.2.2.2.2.1,(aN w).2.2.2.2.2.2.2.2.1,(aN w).2.2.2.2.2.2.2.2.2.1),(aN w).2.2.2.2.2.2.2.2.2.2.1,(aN w).2.2.2.2.2.2.2.2.2.2.2.1,(aN w).1,((aN w).2.1.set k ((eH (aF f).1 (aF f).2.1 (aF f).2.2).1,(eH (aF f).1 (aF f).2.1 (aF f).2.2).2.1,(eH (aF f).1 (aF f).2.1 (aF f).2.2).2.2.1,(eH (aF f).1 (aF f).2.1 (aF f).2.2).2.2.2.1,(eH (aF f).1 (aF f).2.1 (aF f).2.2).2.2.2.2.2.2.2.2.2.2.2.2.2.2.2.1,(eH (aF f).1 (aF f).2.1 (aF f).2.2).2.2.2.2.2.2.2.2.2.2.2.2.2.2.2.2.1,(eH (aF f).1 (aF f).2.1 (aF f).2.2).2.2.2.2.1,(eH (aF f).1 (aF f).2.1 (aF f).2.2).2.2.2.2.2.1,(eH (aF f).1 (aF f).2.1 (aF f).2.2).2.2.2.2.2.2.2.2.2.2.2.2.2.2.2.2.2.1)),(aN w).2.2.1,(aN w).2.2.2.2.2.2.2.2.2.2.2.2) (eH (aF f).1 (aF f).2.1 (aF f).2.2).1 0 ((eH (aF f).1 (aF f).2.1 (aF f).2.2).2.2.2.2.2.2.1,(eH (aF f).1 (aF f).2.1 (aF f).2.2).2.2.2.2.2.2.2.1,(eH (aF f).1 (aF f).2.1 (aF f).2.2).2.2.2.2.2.2.2.2.1,(eH (aF f).1 (aF f).2.1 (aF f).2.2).2.2.2.2.2.2.2.2.2.2.2.2.2.2.2.2.2.2.1,(eH (aF f).1 (aF f).2.1 (aF f).2.2).2.2.2.2.2.2.2.2.2.1,(eH (aF f).1 (aF f).2.1 (aF f).2.2).2.2.2.2.2.2.2.2.2.2.1,(eH (aF f).1 (aF f).2.1 (aF f).2.2).2.2.2.2.2.2.2.2.2.2.2.1,(eH (aF f).1 (aF f).2.1 (aF f).2.2).2.2.2.2.2.2.2.2.2.2.2.2.1,(eH (aF f).1 (aF f).2.1 (aF f).2.2).2.2.2.2.2.2.2.2.2.2.2.2.2.1,(eH (aF f).1 (aF f).2.1 (aF f).2.2).2.2.2.2.2.2.2.2.2.2.2.2.2.2.2.2.2.2.2)=some (aN (fK (dU w ((aD w).set k (aF f).1)) (aF f).1.1 0 (aF f).2.1)):=bDi (w:=dU w ((aD w).set k (aF f).1)) n1 n2 n3 k2 k3
   rw [e]
   simp only [hd,hd1,hd2,fL,cBo,hf',zZ,aA,aP,bTe hft,hwr]
   cases hb:(aF f).2.2
   .rfl
   .rw [hb] at e1
    rw [zT rfl]
    show Option.bind (cond true _ _) _=_
    rw [zZ]
    show Option.bind (Option.bind (cA _ _ 0 _) fun y12=>_) _=_
    rw [e1]
    rfl
  .have hd:decide ((((aD w0).length:Nat):Int)<(w0.2.2.2.2.2.2.1.length:Int))=false:=zW (by have :w0.2.2.2.2.2.2.1.length=(aD w0).length:=rfl;omega)
   simp only [hd,zY]
  .rfl
theorem bCf {B F:Nat} {w0:den tNw} (hF:F<=1000) (hk:eG B F w0) (hB:B+F * (160+F)<=536870912):wD w0=some (!decide (aT w0>=1000000),aN (cV w0)):=by
 have hres:(nG w0).2.1.length<=1073741824:=(aPq (cBf hk.tot (by omega))).res
 unfold wD cV ixb aJx dM pj3 pj9 aG aI aR bR fJ mP tA xR yZ aBp zz4 zz5 zz6 zz7 zz8 zz9
 by_cases hnow:aT w0>=1000000
 .rw [zT hnow,zX (p:=w0.2.2.2.1>=1000000) hnow]
  rfl
 .rw [zS hnow,zW (p:=w0.2.2.2.1>=1000000) hnow,zY]
  unfold xE
  simp only [bOk hres,aA]
  refine Eq.trans (congrArg (fun o=>Option.bind o _) (aUx (F:=F) (fun k w=>((k:Int),aN w)) aN (aD w0).length (fun k w hk' hn hw=> ?_) (fun w hn=> ?_) (aD w0).length 0 B (aE2 w0) (cB9 _) rfl (aGc hk) (by have :(aD w0).length * (160+F)<=F * (160+F):=cCn _ hk.flows;omega))) ?_
  .obtain ⟨f,hf⟩: ∃ f,(aD w)[k]? =some f:=⟨_,cBe (show k<(aD w).length by omega)⟩
   obtain ⟨k1,k2,k3⟩:=aLq hw hf
   obtain ⟨n1,n2,n3⟩:=aGo k1 (by decide)
   have hft:tot tFl f<=34359738368:=by have :=sO (t:=tFl) (cBr hf);have :=fN w;have :=hw.tot;omega
   have hd:decide ((k:Int)<((aN w).2.1.length:Int))=true:=zX (by have :k<(aN w).2.1.length:=(by show k<(aD w).length;omega);omega)
   have hd1:decide ((k:Int)<((aN w).2.1.length:Int))=true:=zX (by have :k<(aN w).2.1.length:=(show k<(aD w).length by omega);omega)
   have hd2:decide (k<(aN w).2.1.length)=true:=zX (show k<(aD w).length by omega)
   have hf':(aN w).2.1[k]? =some f:=hf
   have hwr:wr ((k:Int)+1)=((k+1:Nat):Int):=(wri (by have :=hk.flows;omega) (by have :=hk.flows;omega)).trans (by omega)
   have e:stepT k w=if (aF f).2.2 then fK (dU w ((aD w).set k (aF f).1)) (aF f).1.1 0 (aF f).2.1 else dU w ((aD w).set k (aF f).1):=by unfold stepT;rw [hf]
   have e1:eD (((aN w).2.2.2.1,(aN w).2.2.2.2.1),((aN w).2.2.2.2.2.1,(aN w).2.2.2.2.2.2.1),((aN w).2.2.2.2.2.2.2.1,(aN w).2.2.2.2.2.2.2.2.1,(aN w).2.2.2.2.2.2.2.2.2.1),(aN w).2.2.2.2.2.2.2.2.2.2.1,(aN w).2.2.2.2.2.2.2.2.2.2.2.1,(aN w).1,((aN w).2.1.set k ((eH (aF f).1 (aF f).2.1 (aF f).2.2).1,(eH (aF f).1 (aF f).2.1 (aF f).2.2).2.1,(eH (aF f).1 (aF f).2.1 (aF f).2.2).2.2.1,(eH (aF f).1 (aF f).2.1 (aF f).2.2).2.2.2.1,(eH (aF f).1 (aF f).2.1 (aF f).2.2).2.2.2.2.2.2.2.2.2.2.2.2.2.2.2.1,(eH (aF f).1 (aF f).2.1 (aF f).2.2).2.2.2.2.2.2.2.2.2.2.2.2.2.2.2.2.1,(eH (aF f).1 (aF f).2.1 (aF f).2.2).2.2.2.2.1,(eH (aF f).1 (aF f).2.1 (aF f).2.2).2.2.2.2.2.1,(eH (aF f).1 (aF f).2.1 (aF f).2.2).2.2.2.2.2.2.2.2.2.2.2.2.2.2.2.2.2.1)),(aN w).2.2.1,(aN w).2.2.2.2.2.2.2.2.2.2.2.2) (eH (aF f).1 (aF f).2.1 (aF f).2.2).1 0 ((eH (aF f).1 (aF f).2.1 (aF f).2.2).2.2.2.2.2.2.1,(eH (aF f).1 (aF f).2.1 (aF f).2.2).2.2.2.2.2.2.2.1,(eH (aF f).1 (aF f).2.1 (aF f).2.2).2.2.2.2.2.2.2.2.1,(eH (aF f).1 (aF f).2.1 (aF f).2.2).2.2.2.2.2.2.2.2.2.2.2.2.2.2.2.2.2.2.1,(eH (aF f).1 (aF f).2.1 (aF f).2.2).2.2.2.2.2.2.2.2.2.1,(eH (aF f).1 (aF f).2.1 (aF f).2.2).2.2.2.2.2.2.2.2.2.2.1,(eH (aF f).1 (aF f).2.1 (aF f).2.2).2.2.2.2.2.2.2.2.2.2.2.1,(eH (aF f).1 (aF f).2.1 (aF f).2.2).2.2.2.2.2.2.2.2.2.2.2.2.1,(eH (aF f).1 (aF f).2.1 (aF f).2.2).2.2.2.2.2.2.2.2.2.2.2.2.2.1,(eH (aF f).1 (aF f).2.1 (aF f).2.2).2.2.2.2.2.2.2.2.2.2.2.2.2.2.2.2.2.2.2)=some (aN (fK (dU w ((aD w).set k (aF f).1)) (aF f).1.1 0 (aF f).2.1)):=aSn (w:=dU w ((aD w).set k (aF f).1)) n1 n2 n3 k2 k3
   rw [e]
   simp only [hd,hd1,hd2,fL,cBo,hf',zZ,aA,aP,bUk hft,hwr]
   cases hb:(aF f).2.2
   .rfl
   .rw [hb] at e1
    rw [zT rfl]
    show Option.bind (cond true _ _) _=_
    rw [zZ]
    show Option.bind (Option.bind (eD _ _ 0 _) fun y12=>_) _=_
    rw [e1]
    rfl
  .have hd:decide ((((aD w0).length:Nat):Int)<((aN w).2.1.length:Int))=false:=zW (by have :(aN w).2.1.length=(aD w0).length:=hn;omega)
   simp only [hd,zY]
  .rfl
def tG (w:den tNw):den tNw:=aA2 2000 (cV w)
def aDo (F:Nat):Nat:=F * (160+F)+2000 * (160+F)
theorem aOl {B F:Nat} {w:den tNw} (hk:eG B F w):eG (B+aDo F) F (tG w):=by
 have :=aIl 2000 (aFy hk)
 exact this.mono (by unfold aDo;omega)
theorem bO9 {B F:Nat} {w:den tNw} (hF:F<=1000) (hk:eG B F w) (hB:B+aDo F<=536870912):kJ w=some (aN (tG w)):=by
 unfold aDo at hB
 unfold kJ dM cG aG aI aR bR zz4 zz5 zz6 zz7 zz8 zz9
 have e1:=bUh hF hk (by omega)
 have e2:eC (((aN (cV w)).2.2.2.1,(aN (cV w)).2.2.2.2.1),((aN (cV w)).2.2.2.2.2.1,(aN (cV w)).2.2.2.2.2.2.1),((aN (cV w)).2.2.2.2.2.2.2.1,(aN (cV w)).2.2.2.2.2.2.2.2.1,(aN (cV w)).2.2.2.2.2.2.2.2.2.1),(aN (cV w)).2.2.2.2.2.2.2.2.2.2.1,(aN (cV w)).2.2.2.2.2.2.2.2.2.2.2.1,(aN (cV w)).1,(aN (cV w)).2.1,(aN (cV w)).2.2.1,(aN (cV w)).2.2.2.2.2.2.2.2.2.2.2.2) 2000=some (aN (tG w)):=bQt (w:=cV w) (n:=2000) (by decide) (by decide) (aFy hk) (by show B+F * (160+F)+2000 * (160+F)<=_;omega)
 simp only [aP,e1,aA,e2]
theorem bPc {B F:Nat} {w:den tNw} (hF:F<=1000) (hk:eG B F w) (hB:B+F * (160+F)<=536870912):oD w ((1:Int),(0:Int),[],((0:Int),(0:Int),((0:Int),(0:Int),(0:Int),[],(0:Int),(0:Int),(0:Int),(0:Int),(0:Int),[])))=some (!decide (aT w>=1000000),aN (cV w)):=by
 unfold oD ixb aL dM aSr pj2 cG aG aI aR bR fJ mP tA xR yZ aBp aD6 aHa aO8 aPx aLc zz4 zz5 zz6 zz7 zz8 zz9
 simp only [eR,aA,show ((1:Int)==1)=true from rfl,zZ,aP,bCf hF hk hB]
theorem aXn {B F:Nat} {w:den tNw} (hF:F<=1000) (hk:eG B F w) (hB:B+aDo F<=536870912):nY w=some (aN (tG w)):=by
 unfold aDo at hB
 unfold nY dM cG aG aI aR bR zz4 zz5 zz6 zz7 zz8 zz9
 have e1:=bPc hF hk (by omega)
 have e2:sW (((aN (cV w)).2.2.2.1,(aN (cV w)).2.2.2.2.1),((aN (cV w)).2.2.2.2.2.1,(aN (cV w)).2.2.2.2.2.2.1),((aN (cV w)).2.2.2.2.2.2.2.1,(aN (cV w)).2.2.2.2.2.2.2.2.1,(aN (cV w)).2.2.2.2.2.2.2.2.2.1),(aN (cV w)).2.2.2.2.2.2.2.2.2.2.1,(aN (cV w)).2.2.2.2.2.2.2.2.2.2.2.1,(aN (cV w)).1,(aN (cV w)).2.1,(aN (cV w)).2.2.1,(aN (cV w)).2.2.2.2.2.2.2.2.2.2.2.2) 2000=some (aN (tG w)):=bRp (w:=cV w) (n:=2000) (by decide) (by decide) (aFy hk) (by show B+F * (160+F)+2000 * (160+F)<=_;omega)
 simp only [aP,e1,aA,e2]
theorem bE9 {w:den tNw} (h:xI w=true):(aD w).length<=4:=by
 unfold xI at h
 simp only [cBg,zR] at h
 simp only [h]
theorem aKk {w:den tNw} (hv:xI w=true) (h:tot tNw w<=16777216) (hb:kY w):eG 16777216 4 w:=⟨h,bE9 hv,hb⟩
def sY (w:den tNw) (n:Int):den tNw:=if xI w&&inR n 0 2000 then aA2 n.toNat w else w
theorem bMv {w:den tNw} {n:Int} (h:tot tNw w<=16777216) (hb:kY w):tot tNw (sY w n)<=536870912:=by
 unfold sY
 split
 .rename_i hc
  rw [cBg,bM] at hc
  have h1:=(aIl n.toNat (aKk hc.1 h hb)).tot
  have h2:n.toNat * (160+4)<=2000 * 164:=cD8 (by omega) (cBs _)
  omega
 .omega
theorem bXz {w:den tNw} {n:Int} (h:tot tNw w<=16777216) (hb:kY w):kX w n=some (eV (sY w n)):=by
 have ht:=bMv (n:=n) h hb
 unfold kX dM pj3 cG aG aI aR zz4 zz5 zz6 zz7 zz8 zz9
 simp only [aP,aN4 (aG5 (w:=w) (by omega)),bK6 (w:=w) (by omega),lR,aA]
 have e3:fG (((dI (sY w n)).1,(dI (sY w n)).2.1),((dI (sY w n)).2.2.1,(dI (sY w n)).2.2.2.1),((dI (sY w n)).2.2.2.2.1,(dI (sY w n)).2.2.2.2.2.1,(dI (sY w n)).2.2.2.2.2.2.1),(dI (sY w n)).2.2.2.2.2.2.2.1,(dI (sY w n)).2.2.2.2.2.2.2.2.1,(dI (sY w n)).2.2.2.2.2.2.2.2.2.2.1,(dI (sY w n)).2.2.2.2.2.2.2.2.2.2.2.1,(dI (sY w n)).2.2.2.2.2.2.2.2.2.2.2.2,(dI (sY w n)).2.2.2.2.2.2.2.2.2.1)=some (eV (sY w n)):=aN4 (w:=sY w n) (aG5 (by omega))
 have key: ∀ b,b=(xI w&&inR n 0 2000)->(@Option.bind Bool _ (cond (xI w) (some (inR n 0 2000)) (some false)) fun (s4:Bool)=>some s4)=some b:=by
  intro b hb
  subst hb
  cases xI w<;>rfl
 unfold sY at e3 ⊢
 cases cv:xI w
 .rw [cv] at e3
  simp only [zY,aA]
  simp only [cB0,cBj,zU] at e3 ⊢
  exact congrArg (fun o=>Option.bind o some) e3
 .cases cn:inR n 0 2000
  .rw [cv,cn] at e3
   simp only [zZ,zY,aA]
   simp only [cC4,cBj,zU] at e3 ⊢
   exact congrArg (fun o=>Option.bind o some) e3
  .rw [cv,cn] at e3
   have hr:=bM.1 cn
   have h2:n.toNat * (160+4)<=2000 * 164:=cD8 (by omega) (cBs _)
   have e1:eC (((eV w).2.2.2.1,(eV w).2.2.2.2.1),((eV w).2.2.2.2.2.1,(eV w).2.2.2.2.2.2.1),((eV w).1,(eV w).2.2.2.2.2.2.2.1,(eV w).2.2.2.2.2.2.2.2.1),(eV w).2.1,(eV w).2.2.2.2.2.2.2.2.2.1,(eV w).2.2.2.2.2.2.2.2.2.2.1,(eV w).2.2.2.2.2.2.2.2.2.2.2.1,(eV w).2.2.2.2.2.2.2.2.2.2.2.2,(eV w).2.2.1) n=some (aN (aA2 n.toNat w)):=bQt (w:=w) hr.1 (by omega) (aKk cv h hb) (by omega)
   simp only [zZ,aA,e1]
   simp only [cC8,zV] at e3 ⊢
   exact congrArg (fun o=>Option.bind o some) e3
theorem bXh {w:den tNw} {n:Int} (h:tot tNw w<=16777216) (hb:kY w):lS w n=some (dI (sY w n)):=by
 unfold lS dM pj3 cG aG aI aR zz4 zz5 zz6 zz7 zz8 zz9
 simp only [aP,aJe (aG5 (w:=w) (by omega)),aZe (w:=w) (by omega),eR,aA]
 unfold sY
 cases cv:xI w
 .simp only [zY,aA,cB0,cBj,zU]
  rfl
 .cases cn:inR n 0 2000
  .simp only [zZ,zY,aA,cC4,cBj,zU]
   rfl
  .have hr:=bM.1 cn
   have h2:n.toNat * (160+4)<=2000 * 164:=cD8 (by omega) (cBs _)
   have e1:sW (((eV w).2.2.2.1,(eV w).2.2.2.2.1),((eV w).2.2.2.2.2.1,(eV w).2.2.2.2.2.2.1),((eV w).1,(eV w).2.2.2.2.2.2.2.1,(eV w).2.2.2.2.2.2.2.2.1),(eV w).2.1,(eV w).2.2.2.2.2.2.2.2.2.1,(eV w).2.2.2.2.2.2.2.2.2.2.1,(eV w).2.2.2.2.2.2.2.2.2.2.2.1,(eV w).2.2.2.2.2.2.2.2.2.2.2.2,(eV w).2.2.1) n=some (aN (aA2 n.toNat w)):=bRp (w:=w) hr.1 (by omega) (aKk cv h hb) (by omega)
   simp only [zZ,aA,e1,cC8,zV]
   rfl
def nD:Nat->den tNw->den tNw
 | 0,w=>w
 | n+1,w=>nD n (tG w)
theorem aG9 {F:Nat}: ∀ (n:Nat) {B:Nat} {w:den tNw},eG B F w->eG (B+n * aDo F) F (nD n w)
 | 0,B,w,hk=>hk.mono (by omega)
 | n+1,B,w,hk=>by
  have :=aG9 n (aOl hk)
  exact this.mono (by rw [cCa];omega)
theorem aOx {F:Nat} {S R:Type} (enc:Nat->den tNw->S) (out:den tNw->R) (N:Nat) {step:S->Option (S⊕R)}
  (H1: ∀ (k B:Nat) (w:den tNw),k<N->eG B F w->B+aDo F<=536870912->step (enc k w)=some (.inl (enc (k+1) (tG w))))
  (H2: ∀ (w:den tNw),step (enc N w)=some (.inr (out w))):
  ∀ (m k B:Nat) (w:den tNw),k+m=N->eG B F w->B+m * aDo F<=536870912->aC step (enc k w)=some (out (nD m w)):=by
 intro m
 induction m with
 | zero=>
  intro k B w hk hw hB
  have :k=N:=by omega
  subst this
  exact bQ (H2 w)
 | succ m ih=>
  intro k B w hk hw hB
  rw [cCa] at hB
  rw [dW (H1 k B w (by omega) hw (by omega))]
  exact ih (k+1) _ _ (by omega) (aOl hw) (by omega)
def iR (w:den tNw) (n:Int):den tNw:=if xI w&&inR n 0 1000 then nD n.toNat w else w
theorem bR4:aDo 4=328656:=rfl
theorem aMg {n:Int} (h0:0<=n) (h1:n<=1000):16777216+n.toNat * aDo 4<=536870912:=by
 rw [bR4]
 have :n.toNat * 328656<=1000 * 328656:=cD8 (by omega) (cBs _)
 omega
theorem bNf {w:den tNw} {n:Int} (h:tot tNw w<=16777216) (hb:kY w):tot tNw (iR w n)<=536870912:=by
 unfold iR
 split
 .rename_i hc
  rw [cBg,bM] at hc
  have h1:=(aG9 n.toNat (aKk hc.1 h hb)).tot
  have h2:=aMg hc.2.1 hc.2.2
  omega
 .omega
theorem aRt {w:den tNw} {n:Int} (h:tot tNw w<=16777216) (hb:kY w):jV w n=some (eV (iR w n)):=by
 have ht:=bNf (n:=n) h hb
 unfold jV dM pj3 cG aG aI aR bR zz4 zz5 zz6 zz7 zz8 zz9
 simp only [aP,aN4 (aG5 (w:=w) (by omega)),bK6 (w:=w) (by omega),lR,aA]
 have e3:fG (((dI (iR w n)).1,(dI (iR w n)).2.1),((dI (iR w n)).2.2.1,(dI (iR w n)).2.2.2.1),((dI (iR w n)).2.2.2.2.1,(dI (iR w n)).2.2.2.2.2.1,(dI (iR w n)).2.2.2.2.2.2.1),(dI (iR w n)).2.2.2.2.2.2.2.1,(dI (iR w n)).2.2.2.2.2.2.2.2.1,(dI (iR w n)).2.2.2.2.2.2.2.2.2.2.1,(dI (iR w n)).2.2.2.2.2.2.2.2.2.2.2.1,(dI (iR w n)).2.2.2.2.2.2.2.2.2.2.2.2,(dI (iR w n)).2.2.2.2.2.2.2.2.2.1)=some (eV (iR w n)):=aN4 (w:=iR w n) (aG5 (by omega))
 unfold iR at e3 ⊢
 cases cv:xI w
 .rw [cv] at e3
  simp only [zY,aA]
  simp only [cB0,cBj,zU] at e3 ⊢
  exact congrArg (fun o=>Option.bind o some) e3
 .cases cn:inR n 0 1000
  .rw [cv,cn] at e3
   simp only [zZ,zY,aA]
   simp only [cC4,cBj,zU] at e3 ⊢
   exact congrArg (fun o=>Option.bind o some) e3
  .rw [cv,cn] at e3
   have hr:=bM.1 cn
   simp only [zZ,aA]
   simp only [cC8,zV] at e3 ⊢
   refine Eq.trans (congrArg (fun o=>Option.bind o _) (aOx (F:=4) (fun k w=>((k:Int),dI w)) dI n.toNat (fun k B w hk' hw hB=> ?_) (fun w=> ?_) n.toNat 0 16777216 w (cB9 _) (aKk cv h hb) (aMg hr.1 hr.2))) ?_
   .have hd:decide ((k:Int)<n)=true:=zX (by omega)
    have hwr:wr ((k:Int)+1)=((k+1:Nat):Int):=(wri (by omega) (by omega)).trans (by omega)
    have e1:kJ (((dI w).1,(dI w).2.1),((dI w).2.2.1,(dI w).2.2.2.1),((dI w).2.2.2.2.1,(dI w).2.2.2.2.2.1,(dI w).2.2.2.2.2.2.1),(dI w).2.2.2.2.2.2.2.1,(dI w).2.2.2.2.2.2.2.2.1,(dI w).2.2.2.2.2.2.2.2.2.2.1,(dI w).2.2.2.2.2.2.2.2.2.2.2.1,(dI w).2.2.2.2.2.2.2.2.2.2.2.2,(dI w).2.2.2.2.2.2.2.2.2.1)=some (aN (tG w)):=bO9 (w:=w) (by decide) hw hB
    simp only [hd,zZ,e1,aA,hwr]
    rfl
   .have hd:decide (((n.toNat:Nat):Int)<n)=false:=zW (by omega)
    simp only [hd,zY]
   .simp only [aA]
    exact congrArg (fun o=>Option.bind o some) e3
theorem bLp {w:den tNw} {n:Int} (h:tot tNw w<=16777216) (hb:kY w):nP w n=some (dI (iR w n)):=by
 unfold nP dM pj3 cG aG aI aR bR zz4 zz5 zz6 zz7 zz8 zz9
 simp only [aP,aJe (aG5 (w:=w) (by omega)),aZe (w:=w) (by omega),eR,aA]
 unfold iR
 cases cv:xI w
 .simp only [cBq,zZ,aA,cB0,cBj,zU]
  rfl
 .cases cn:inR n 0 1000
  .simp only [cBh,cBq,zZ,zY,aA,cC4,cBj,zU]
   rfl
  .have hr:=bM.1 cn
   simp only [cBh,zY,aA,cC8,zV]
   refine Eq.trans (congrArg (fun o=>Option.bind o _) (aOx (F:=4) (fun k w=>((k:Int),dI w)) dI n.toNat (fun k B w hk' hw hB=> ?_) (fun w=> ?_) n.toNat 0 16777216 w (cB9 _) (aKk cv h hb) (aMg hr.1 hr.2))) ?_
   .have hd:decide ((k:Int)<n)=true:=zX (by omega)
    have hwr:wr ((k:Int)+1)=((k+1:Nat):Int):=(wri (by omega) (by omega)).trans (by omega)
    have e1:nY (((dI w).1,(dI w).2.1),((dI w).2.2.1,(dI w).2.2.2.1),((dI w).2.2.2.2.1,(dI w).2.2.2.2.2.1,(dI w).2.2.2.2.2.2.1),(dI w).2.2.2.2.2.2.2.1,(dI w).2.2.2.2.2.2.2.2.1,(dI w).2.2.2.2.2.2.2.2.2.2.1,(dI w).2.2.2.2.2.2.2.2.2.2.2.1,(dI w).2.2.2.2.2.2.2.2.2.2.2.2,(dI w).2.2.2.2.2.2.2.2.2.1)=some (aN (tG w)):=aXn (w:=w) (by decide) hw hB
    simp only [hd,zZ,e1,aA,hwr]
    rfl
   .have hd:decide (((n.toNat:Nat):Int)<n)=false:=zW (by omega)
    simp only [hd,zY]
   .rfl
theorem bKw {w:den tNw} (h:tot tNw w<=16777216) (hb:kY w):tU w=some (eV (iR w 1)):=by
 unfold tU dM cG
 simp only [aP,aRt h hb,aA]
theorem bC3 (w:den tNw):iR w 1=if xI w then tG w else w:=by
 unfold iR
 rw [show inR 1 0 1000=true from rfl,Bool.and_true]
 rfl
theorem bYn {w:den tNw} (h:tot tNw w<=16777216) (hb:kY w):wO w=some (dI (iR w 1)):=by
 rw [bC3]
 unfold wO dM pj3 cG aG aI aR zz4 zz5 zz6 zz7 zz8 zz9
 simp only [aP,aJe (aG5 (w:=w) (by omega)),aZe (w:=w) (by omega),aA]
 cases cv:xI w
 .rfl
 .have e1:nY (((eV w).2.2.2.1,(eV w).2.2.2.2.1),((eV w).2.2.2.2.2.1,(eV w).2.2.2.2.2.2.1),((eV w).1,(eV w).2.2.2.2.2.2.2.1,(eV w).2.2.2.2.2.2.2.2.1),(eV w).2.1,(eV w).2.2.2.2.2.2.2.2.2.1,(eV w).2.2.2.2.2.2.2.2.2.2.1,(eV w).2.2.2.2.2.2.2.2.2.2.2.1,(eV w).2.2.2.2.2.2.2.2.2.2.2.2,(eV w).2.2.1)=some (aN (tG w)):=aXn (w:=w) (F:=4) (B:=16777216) (by decide) (aKk cv h hb) (by decide)
  simp only [zZ,e1,aA,zV]
  rfl
def Ans {α:Type} (o:Option α) (P:α->Prop):Prop:= ∃ y,o=some y/\P y
theorem bNs {S R:Type} {step:S->Option (S⊕R)} (I:Nat->S->Prop) (Q:R->Prop) (h: ∀ n s,I n s->(∃ r,step s=some (.inr r)/\Q r)\/ ∃ m s',m<n/\step s=some (.inl s')/\I m s') (n:Nat): ∀ s,I n s->Ans (aC step s) Q:=by
 induction n using Nat.strongRecOn with
 | ind n ih=>
  intro s hs
  rcases h n s hs with ⟨r,h1,h2⟩ | ⟨m,s',h1,h2,h3⟩
  .exact ⟨r,bQ h1,h2⟩
  .obtain ⟨r,h4,h5⟩:=ih m h1 s' h3
   exact ⟨r,(dW h2).trans h4,h5⟩
theorem jC {S R T:Type} {step:S->Option (S⊕R)} (I:Nat->S->Prop) (Q:R->Prop) {k:R->Option T} {G:Option T->Prop} (h: ∀ n s,I n s->(∃ r,step s=some (.inr r)/\Q r)\/ ∃ m s',m<n/\step s=some (.inl s')/\I m s') (n:Nat) (s:S) (hs:I n s) (hk: ∀ r,Q r->G (k r)):G (Option.bind (aC step s) k):=by
 obtain ⟨r,h1,h2⟩:=bNs I Q h n s hs
 rw [h1]
 exact hk r h2
theorem cE {S R T:Type} {step:S->Option (S⊕R)} (len:Nat) (pos:S->Int) (J:Nat->S->Prop) (Q:R->Prop) {k:R->Option T} {G:Option T->Prop}
  (h: ∀ (i:Nat) (s:S),i<len->pos s=(i:Int)->J i s->(∃ r,step s=some (.inr r)/\Q r)\/ ∃ s',step s=some (.inl s')/\pos s'=((i+1:Nat):Int)/\J (i+1) s')
  (he: ∀ s:S,pos s=(len:Int)->J len s-> ∃ r,step s=some (.inr r)/\Q r) (i0:Nat) (s0:S) (hi:i0<=len) (hp:pos s0=(i0:Int)) (hJ:J i0 s0) (hk: ∀ r,Q r->G (k r)):G (Option.bind (aC step s0) k):=by
 refine jC (fun n s=> ∃ i:Nat,pos s=(i:Int)/\i+n=len/\J i s) Q ?_ (len - i0) s0 ⟨i0,hp,by omega,hJ⟩ hk
 rintro n s ⟨i,h1,h2,h3⟩
 cases n with
 | zero=>
  have e:i=len:=by omega
  subst e
  exact .inl (he s h1 h3)
 | succ n=>
  rcases h i s (by omega) h1 h3 with h4 | ⟨s',h4,h5,h6⟩
  .exact .inl h4
  .exact .inr ⟨n,s',by omega,h4,i+1,h5,by omega,h6⟩
theorem bX {n:Int} (h0: -1000000000000<=n) (h1:n<=1000000000000):wr n=n:=wri (by omega) (by omega)
theorem bL {n:Nat} (h:n<=1000000000):wr ((n:Int)+1)=((n+1:Nat):Int):=by rw [bX (by omega) (by omega)];omega
theorem bAr (a:Int):0<=zJ .i64 a 255/\zJ .i64 a 255<=255:=by
 have h:((BitVec.ofInt 64 a &&& BitVec.ofInt 64 255).toNat)<=255:=by
  rw [BitVec.toNat_and]
  exact cBf Nat.and_le_right (by decide)
 have e:zJ .i64 a 255=wr (((BitVec.ofInt 64 a &&& BitVec.ofInt 64 255).toNat:Nat):Int):=rfl
 rw [e,show wr (((BitVec.ofInt 64 a &&& BitVec.ofInt 64 255).toNat:Nat):Int)=_ from wri (by omega) (by omega)]
 omega
def Cur (code:List Int) (c:List Int×q28):Prop:=c.1=code/\0<=c.2.1/\c.2.1<=(code.length:Int)
theorem aHj {code:List Int} (hl:code.length<=1048576) {c:List Int} {p h:Int} (hc:Cur code (c,p,h)): ∃ v c' p' h',qH (c,p,h)=some (v,c',p',h')/\(0<=v/\v<=255)/\Cur code (c',p',h'):=by
 obtain ⟨h1,h2,h3⟩:=hc
 simp only at h1 h2 h3
 subst h1
 unfold qH pj4
 simp only [aA]
 by_cases hp:p<(c.length:Int)
 .obtain ⟨m,rfl⟩:=cB7 h2
  have hm:m<c.length:=by omega
  rw [zX hp,zZ,aH,cBe hm]
  refine ⟨_,_,_,_,rfl,bAr _,rfl,?_,?_⟩
  .show 0<=wr ((m:Int)+1);rw [show wr ((m:Int)+1)=(m:Int)+1 from wri (by omega) (by omega)];omega
  .show wr ((m:Int)+1)<=_;rw [show wr ((m:Int)+1)=(m:Int)+1 from wri (by omega) (by omega)];omega
 .rw [zW hp,zY]
  exact ⟨_,_,_,_,rfl,bAr _,rfl,h2,h3⟩
theorem aK {code:List Int} (hl:code.length<=1048576) {n:Int} (h0:0<n) (h1:n<=256) {c:List Int} {p h:Int} (hc:Cur code (c,p,h)): ∃ v c' p' h',aB (c,p,h) n=some (v,c',p',h')/\(0<=v/\v<n)/\Cur code (c',p',h'):=by
 obtain ⟨v,c',p',h',hb,hv,hc'⟩:=aHj hl hc
 refine ⟨Int.tmod v n,c',p',h',?_,⟨Int.tmod_nonneg _ hv.1,Int.tmod_lt_of_pos _ h0⟩,hc'⟩
 unfold aB pj3
 rw [zW (by omega),zY,zX h1,zZ]
 simp only [hb,aA]
 rw [show (n==0)=false by rw [beq_eq_false_iff_ne];omega,zY]
theorem aH3 {code:List Int} (hl:code.length<=1048576) {n:Int} (h1:256<n) {c:List Int} {p h:Int} (hc:Cur code (c,p,h)): ∃ v c' p' h',aB (c,p,h) n=some (v,c',p',h')/\(0<=v/\v<n)/\Cur code (c',p',h'):=by
 obtain ⟨v1,c1,p1,h1',e1,r1,k1⟩:=aHj hl hc
 obtain ⟨v2,c2,p2,h2',e2,r2,k2⟩:=aHj hl k1
 obtain ⟨v3,c3,p3,h3',e3,r3,k3⟩:=aHj hl k2
 have w1:wr (v1 * 65536)=v1 * 65536:=bX (by omega) (by omega)
 have w2:wr (v2 * 256)=v2 * 256:=bX (by omega) (by omega)
 have w3:wr (v1 * 65536+v2 * 256)=v1 * 65536+v2 * 256:=bX (by omega) (by omega)
 have w4:wr (v1 * 65536+v2 * 256+v3)=v1 * 65536+v2 * 256+v3:=bX (by omega) (by omega)
 refine ⟨Int.tmod (v1 * 65536+v2 * 256+v3) n,c3,p3,h3',?_,⟨Int.tmod_nonneg _ (by omega),Int.tmod_lt_of_pos _ (by omega)⟩,k3⟩
 unfold aB pj3
 rw [zW (by omega),zY,zW (by omega),zY]
 simp only [e1,e2,e3,aA,w1,w2,w3,w4]
 rw [show (n==0)=false by rw [beq_eq_false_iff_ne];omega,zY]
theorem pL {code:List Int} (hl:code.length<=1048576) {l:List Int} (h0:0<l.length) (h1:l.length<=256) {c:List Int} {p h:Int} (hc:Cur code (c,p,h)): ∃ v c' p' h',dO (c,p,h) l=some (v,c',p',h')/\v∈l/\Cur code (c',p',h'):=by
 obtain ⟨v,c',p',h',hb,hv,hc'⟩:=aK hl (n:=(l.length:Int)) (by omega) (by omega) hc
 obtain ⟨m,rfl⟩:=cB7 hv.1
 have hm:m<l.length:=by omega
 refine ⟨l[m],c',p',h',?_,cBt hm,hc'⟩
 unfold dO pj3
 simp only [hb,aA,aH,cBe hm]
theorem sV {code:List Int} (hl:code.length<=1048576) {n:Int} (h0:0<n) (h1:n<=256) {c:List Int} {p h:Int} (hc:Cur code (c,p,h)): ∃ b c' p' h',dL (c,p,h) n=some (b,c',p',h')/\Cur code (c',p',h'):=by
 obtain ⟨v,c',p',h',hb,hv,hc'⟩:=aK hl h0 h1 hc
 refine ⟨v==0,c',p',h',?_,hc'⟩
 unfold dL pj3
 simp only [hb,aA]
theorem aTo {code:List Int} (hl:code.length<=1048576): ∃ c p h,vL code=some (c,p,h)/\Cur code (c,p,h):=by
 unfold vL
 refine jC (G:=fun o=> ∃ c p h,o=some (c,p,h)/\Cur code (c,p,h)) (fun n s=> ∃ k:Nat,s.2=(k:Int)/\k+n=code.length) (fun _=>True) ?_ code.length _ ⟨0,rfl,by omega⟩ ?_
 .rintro n ⟨a,b⟩ ⟨k,hk,hn⟩
  simp only at hk
  subst hk
  by_cases h1:(k:Int)<(code.length:Int)
  .by_cases h2:(k:Int)<4000
   .right
    have hk:k<code.length:=by omega
    refine ⟨n - 1,(zJ .i64 (wr ((wr ((wr (a * (137:Int)))+(wr code[k])))+(11:Int))) (1073741823:Int),((k+1:Nat):Int)),by omega,?_,k+1,rfl,by omega⟩
    simp only [zX h1,zX h2,zZ,aA,aH,cBe hk]
    rw [show wr ((k:Int)+1)=((k+1:Nat):Int) from by rw [show wr ((k:Int)+1)=(k:Int)+1 from wri (by omega) (by omega)];omega]
   .left
    refine ⟨a,?_,trivial⟩
    simp only [zX h1,zW h2,zZ,zY,aA]
  .left
   refine ⟨a,?_,trivial⟩
   simp only [zW h1,zY,aA]
 .intro r _
  exact ⟨_,_,_,rfl,rfl,cC3 0,by show (0:Int)<=_;omega⟩
theorem aPj {α:Type} (p:Nat->α->Bool): ∀ (l:List α) (k:Nat),(cB (fun k x=>if p k x then none else some ()) k l).isNone=true↔ ∀ j x,l[j]? =some x->p (k+j) x=true
 | [],k=>by simp [cB]
 | x::l,k=>by
  have ih:=aPj p l (k+1)
  cases hp:p k x with
  | true=>
   simp only [cB,hp,zV]
   rw [ih]
   constructor
   .intro h j y hy
    cases j with
    | zero=>simp only [cD9,Option.some.injEq] at hy;subst hy;exact hp
    | succ j=>simp only [List.getElem?_cons_succ] at hy;have :=h j y hy;rwa [show k+1+j=k+(j+1) by omega] at this
   .intro h j y hy
    have :=h (j+1) y (by simpa using hy);rwa [show k+(j+1)=k+1+j by omega] at this
  | false=>
   simp only [cB,hp]
   constructor
   .intro h;simp at h
   .intro h;have :=h 0 x (by simp);rw [Nat.add_zero,hp] at this;cases this
def plc (id s d:Int):Nat->lUs->Int
 | _,[]=> -1
 | k,x::l=>if kP id s d x then (k:Int) else plc id s d (k+1) l
theorem aFi (l:lUs) (id s d:Int):place l id s d=plc id s d 0 l:=by
 unfold place
 have : ∀ (l:lUs) (k:Nat),(match cB (fun k x=>if kP id s d x then some (k:Int) else none) k l with
  | some i=>i
  | none=> -1)=plc id s d k l:=by
  intro l
  induction l with
  | nil=>intro k;rfl
  | cons x l ih=>
   intro k
   cases hp:kP id s d x with
   | true=>simp only [cB,plc,hp,zV]
   | false=>simp only [cB,plc,hp];exact ih (k+1)
 exact this l 0
theorem aX0 {id s d:Int}: ∀ (l:lUs) (k:Nat),(plc id s d k l= -1/\ ∀ x∈l,kP id s d x=false)\/ ∃ j x,plc id s d k l=((k+j:Nat):Int)/\l[j]? =some x/\kP id s d x=true
 | [],_=> .inl ⟨rfl,fun x hx=>by cases hx⟩
 | x::l,k=>by
  unfold plc
  cases hp:kP id s d x with
  | true=>exact .inr ⟨0,x,by simp,by simp,hp⟩
  | false=>
   rcases aX0 l (k+1) with ⟨h1,h2⟩ | ⟨j,y,h1,h2,h3⟩
   .refine .inl ⟨by simpa using h1,fun y hy=> ?_⟩
    rcases cBk.1 hy with rfl | hy
    .exact hp
    .exact h2 y hy
   .exact .inr ⟨j+1,y,by rw [zS (by simp),h1];congr 1;omega,by simpa using h2,h3⟩
theorem bHn (l:lUs) (id s d:Int):(place l id s d= -1/\ ∀ x∈l,kP id s d x=false)\/ ∃ (j:Nat) (x:den tUs),place l id s d=(j:Int)/\l[j]? =some x/\kP id s d x=true:=by
 rw [aFi]
 rcases aX0 (id:=id) (s:=s) (d:=d) l 0 with h | ⟨j,x,h1,h2,h3⟩
 .exact .inl h
 .exact .inr ⟨j,x,by rw [h1,cB9],h2,h3⟩
theorem bB6 {id s d:Int} (z:lUs): ∀ (l:lUs) (k:Nat),plc id s d k (l++z)=if plc id s d k l<0 then plc id s d (k+l.length) z else plc id s d k l
 | [],k=>by simp [plc]
 | x::l,k=>by
  have e1:plc id s d k (x::l)=if kP id s d x then (k:Int) else plc id s d (k+1) l:=rfl
  have e2:plc id s d k (x::l++z)=if kP id s d x then (k:Int) else plc id s d (k+1) (l++z):=rfl
  by_cases hp:kP id s d x=true
  .rw [zT hp] at e1 e2
   rw [e1,e2,zS (by omega)]
  .rw [zS hp] at e1 e2
   rw [e1,e2,bB6 z l (k+1),show k+(x::l).length=k+1+l.length by simp only [cCf];omega]
theorem bAk {id s d:Int}: ∀ (l m:lUs) (k:Nat),l.map (fun x=>(x.1,x.2.1,x.2.2.1))=m.map (fun x=>(x.1,x.2.1,x.2.2.1))->plc id s d k l=plc id s d k m
 | [],[],_,_=>rfl
 | [],_::_,_,h=>by simp at h
 | _::_,[],_,h=>by simp at h
 | x::l,y::m,k,h=>by
  simp only [cB3,List.cons.injEq,Prod.mk.injEq] at h
  obtain ⟨⟨h1,h2,h3⟩,h4⟩:=h
  have e:kP id s d x=kP id s d y:=by unfold kP;rw [h1,h2,h3]
  simp only [plc,e,bAk l m (k+1) h4]
theorem aNe {id s d:Int} {x:den tUs}:kP id s d x=true↔x.1=id/\x.2.1=s/\x.2.2.1=d:=by unfold kP;simp
def aTf (g:den tSc) (now:Int):Prop:= ∀ (j:Nat) (x:den tUs),g.2.2[j]? =some x->place g.2.2 x.1 x.2.1 x.2.2.1=(j:Int)/\(1:Int)<=x.2.2.2/\oZ g x.1 x.2.1 x.2.2.1 now>=x.2.2.2
theorem bEg {g:den tSc} {now:Int}:aAc g now=true↔(1:Int)<=g.1/\(20:Int)>=g.1/\yK g.2.1 g.1 now=true/\aTf g now:=by
 unfold aAc aTf
 rw [cBg,cBg,aPj]
 unfold inR okU
 simp only [cBg,zR,beq_iff_eq,cB9,inR,and_assoc]
theorem bA3 {l:lRs} {cap now:Int}:yK l cap now=true↔l.length<=40/\ ∀ (j:Nat) (x:den tRs),l[j]? =some x->vD x=true/\rate l x.2.1 x.2.2.1 now<=cap/\ ∀ y∈l.take j,hO x y=false:=by
 unfold yK
 rw [cBg,aPj]
 unfold okR
 simp only [cBg,zR,cB9,cCg,decide_eq_false_iff_not,List.any_eq_false,Bool.not_eq_true,Int.not_lt,gt_iff_lt]
theorem aJ6 (x y:den tRs):hO x y=hO y x:=by
 unfold hO atR
 rw [cB4]
 simp only [cBg,beq_iff_eq]
 constructor<;>(rintro ⟨a,b,c⟩;exact ⟨a.symm,b.symm,c.symm⟩)
theorem bJ1 {l:lRs}:(∀ (j:Nat) (x:den tRs),l[j]? =some x-> ∀ y∈l.take j,hO x y=false)↔l.Pairwise fun x y=>hO x y=false:=by
 rw [cDi]
 constructor
 .intro h i j hi hj hij
  rw [aJ6]
  exact h j l[j] (cBe hj) l[i] (List.mem_take_iff_getElem.2 ⟨i,by omega,rfl⟩)
 .intro h j x hx y hy
  obtain ⟨i,hi,rfl⟩:=List.mem_take_iff_getElem.1 hy
  obtain ⟨hj,rfl⟩:=cBm.1 hx
  rw [aJ6]
  exact h i j (by omega) hj (by omega)
def rs (s d now:Int):lRs->Int
 | []=>0
 | x::l=>(if atR x s d&&decide (now<=x.2.2.2.2) then x.2.2.2.1 else 0)+rs s d now l
theorem aQr {s d now:Int}: ∀ {l:lRs},(∀ x∈l,(0:Int)<=x.2.2.2.1/\(20:Int)>=x.2.2.2.1)->0<=rs s d now l/\rs s d now l<=20 * l.length
 | [],_=>by simp [rs]
 | x::l,h=>by
  have ih:=aQr (s:=s) (d:=d) (now:=now) (l:=l) fun y hy=>h y (cBu _ hy)
  have hx:=h x (by simp)
  have e:((x::l).length:Int)=l.length+1:=by simp
  unfold rs
  rw [e]
  split<;>omega
theorem aMr {s d now:Int}: ∀ (l:lRs) (a:Int),(∀ x∈l,(0:Int)<=x.2.2.2.1/\(20:Int)>=x.2.2.2.1)->0<=a->a+20 * l.length<=1000000000000->
  l.foldl (fun a x=>if atR x s d&&decide (now<=x.2.2.2.2) then wr (a+x.2.2.2.1) else a) a=a+rs s d now l
 | [],a,_,_,_=>by simp [rs]
 | x::l,a,h,h0,hb=>by
  have hx:=h x (by simp)
  simp only [cCf,Int.natCast_add,Int.natCast_one] at hb
  simp only [List.foldl_cons,rs]
  split
  .rw [show wr (a+x.2.2.2.1)=a+x.2.2.2.1 from wri (by omega) (by omega),aMr l _ (fun y hy=>h y (cBu _ hy)) (by omega) (by omega)];omega
  .rw [aMr l a (fun y hy=>h y (cBu _ hy)) h0 (by omega)];omega
theorem aNn {s d now:Int} {l:lRs} (h: ∀ x∈l,(0:Int)<=x.2.2.2.1/\(20:Int)>=x.2.2.2.1) (hl:l.length<=1000000):rate l s d now=rs s d now l:=by
 unfold rate
 rw [aMr l 0 h (by omega) (by omega)];omega
theorem bIp {s d now:Int} (m:lRs): ∀ l:lRs,rs s d now (l++m)=rs s d now l+rs s d now m
 | []=>by simp [rs]
 | x::l=>by simp only [List.cons_append,rs,bIp m l];omega
theorem aVj {s d now:Int} (p:den tRs->Bool): ∀ {l:lRs},(∀ x∈l,(0:Int)<=x.2.2.2.1/\(20:Int)>=x.2.2.2.1)->rs s d now (l.filter p)<=rs s d now l
 | [],_=>by simp [rs]
 | x::l,h=>by
  have ih:=aVj (s:=s) (d:=d) (now:=now) p (l:=l) fun y hy=>h y (cBu _ hy)
  have hx:=h x (by simp)
  rw [List.filter_cons]
  split
  .simp only [rs];omega
  .simp only [rs];split<;>omega
structure rQ (l:lRs) (cap now:Int):Prop where
 len:l.length<=40
 val: ∀ x∈l,vD x=true
 rate: ∀ x∈l,rs x.2.1 x.2.2.1 now l<=cap
 pw:l.Pairwise fun x y=>hO x y=false
theorem aOv {x:den tRs} (h:vD x=true):(1:Int)<=x.1/\(1:Int)<=x.2.2.2.1/\(20:Int)>=x.2.2.2.1:=by
 unfold vD inR at h
 simp only [cBg,zR] at h
 exact ⟨h.1.1,h.2.1.1,h.2.1.2⟩
theorem xP {l:lRs} (h: ∀ x∈l,vD x=true): ∀ x∈l,(0:Int)<=x.2.2.2.1/\(20:Int)>=x.2.2.2.1:=fun x hx=>by
 have :=aOv (h x hx);omega
theorem bOm {l:lRs} {cap now:Int}:yK l cap now=true↔rQ l cap now:=by
 rw [bA3]
 constructor
 .rintro ⟨h1,h2⟩
  have hv: ∀ x∈l,vD x=true:=fun x hx=>by
   obtain ⟨j,hj⟩:=cEs.1 hx
   exact (h2 j x hj).1
  exact ⟨h1,hv,fun x hx=>by
   obtain ⟨j,hj⟩:=cEs.1 hx
   rw [<- aNn (xP hv) (by omega)];exact (h2 j x hj).2.1,bJ1.1 fun j x hj=>(h2 j x hj).2.2⟩
 .rintro ⟨h1,h2,h3,h4⟩
  refine ⟨h1,fun j x hj=> ?_⟩
  have hx:=cBr hj
  exact ⟨h2 x hx,by rw [aNn (xP h2) (by omega)];exact h3 x hx,bJ1.2 h4 j x hj⟩
theorem rQ.filter {l:lRs} {cap now:Int} (h:rQ l cap now) (p:den tRs->Bool):rQ (l.filter p) cap now:=
 ⟨cBf (cD3 ..) h.len,fun x hx=>h.val x (cBz.1 hx).1,fun x hx=>Int.le_trans (aVj p (xP h.val)) (h.rate x (cBz.1 hx).1),h.pw.filter _⟩
def admR (l:lRs) (x:den tRs) (cap now:Int):lRs:=
 if !vD x||decide (x.2.2.2.2<now)||decide (wr (rate (l.filter fun y=> !hO x y) x.2.1 x.2.2.1 now+x.2.2.2.1)>cap)||decide (((l.filter fun y=> !hO x y).length:Int)>=40) then l else (l.filter fun y=> !hO x y)++[x]
theorem rQ.admR {l:lRs} {cap now:Int} (h:rQ l cap now) (x:den tRs):rQ (admR l x cap now) cap now:=by
 unfold Go.Proofs.YtcppmcbkokgfcaaGreat.admR
 split
 .exact h
 .rename_i hc
  simp only [cCz,cCg,zR,not_or,Bool.not_eq_false] at hc
  obtain ⟨⟨⟨c1,c2⟩,c3⟩,c4⟩:=hc
  have hf:=h.filter fun y=> !hO x y
  have hx:=aOv c1
  have hr:rQ (l.filter fun y=> !hO x y) cap now:=hf
  rw [aNn (xP hf.val) (by have :=hf.len;omega)] at c3
  have hb:=aQr (s:=x.2.1) (d:=x.2.2.1) (now:=now) (xP hf.val)
  have hl:=hf.len
  rw [show wr (rs x.2.1 x.2.2.1 now (l.filter fun y=> !hO x y)+x.2.2.2.1)=rs x.2.1 x.2.2.1 now (l.filter fun y=> !hO x y)+x.2.2.2.1 from wri (by omega) (by omega)] at c3
  refine ⟨by simp only [cCd,List.length_singleton];omega,?_,?_,?_⟩
  .intro y hy
   rcases cBp.1 hy with hy | hy
   .exact hf.val y hy
   .rw [cBn.1 hy];exact c1
  .intro y hy
   rw [bIp]
   simp only [rs]
   rcases cBp.1 hy with hy | hy
   .have h1:=hf.rate y hy
    cases ha:atR x y.2.1 y.2.2.1 with
    | false=>simp only [cB0,cBj,zU];omega
    | true=>
     have ha':=ha
     unfold atR at ha'
     simp only [cBg,beq_iff_eq] at ha'
     rw [<- ha'.1,<- ha'.2]
     split<;>omega
   .rw [cBn.1 hy];split<;>omega
  .rw [List.pairwise_append]
   refine ⟨hf.pw,List.pairwise_singleton _ _,fun y hy z hz=> ?_⟩
   rw [cBn.1 hz,aJ6]
   have :=(cBz.1 hy).2
   simpa using this
theorem bLa {l:lUs} {id s d:Int} (z:lUs):place (l++z) id s d=if place l id s d<0 then plc id s d l.length z else place l id s d:=by
 rw [aFi,aFi,bB6,cB9]
theorem bEh {l m:lUs} {id s d:Int} (h:l.map (fun x=>(x.1,x.2.1,x.2.2.1))=m.map (fun x=>(x.1,x.2.1,x.2.2.1))):place l id s d=place m id s d:=by
 rw [aFi,aFi,bAk l m 0 h]
theorem bEo (l:lUs) (id s d:Int):(place l id s d= -1/\(∀ x∈l,kP id s d x=false)/\vG l id s d=0/\xT l id s d=l++[(id,s,d,1)])\/
  ∃ (j:Nat) (x:den tUs),place l id s d=(j:Int)/\l[j]? =some x/\kP id s d x=true/\vG l id s d=x.2.2.2/\xT l id s d=l.set j (x.1,x.2.1,x.2.2.1,wr (x.2.2.2+1)):=by
 rcases bHn l id s d with ⟨h1,h2⟩ | ⟨j,x,h1,h2,h3⟩
 .refine .inl ⟨h1,h2,?_,?_⟩
  .unfold vG;rw [h1,zT (by decide)]
  .unfold xT;rw [h1,zT (by decide)]
 .refine .inr ⟨j,x,h1,h2,h3,?_,?_⟩
  .unfold vG;rw [h1,zS (by omega),cBo,h2];rfl
  .unfold xT;rw [h1,zS (by omega),cBo];simp only [h2]
theorem bNq {l:lUs} {j:Nat} {x:den tUs} (h:l[j]? =some x) (c:Int):(l.set j (x.1,x.2.1,x.2.2.1,c)).map (fun x=>(x.1,x.2.1,x.2.2.1))=l.map (fun x=>(x.1,x.2.1,x.2.2.1)):=by
 rw [List.map_set]
 apply List.ext_getElem?
 intro i
 by_cases hij:j=i
 .subst hij
  obtain ⟨hlt,rfl⟩:=cBm.1 h
  rw [cEh (by simpa using hlt),List.getElem?_map,cBe hlt];rfl
 .rw [List.getElem?_set_ne hij]
theorem aTf.more {g:den tSc} {now id s d:Int} (h:aTf g now) (hu:vG g.2.2 id s d<oZ g id s d now) (hb:oZ g id s d now<=1000000):aTf (g.1,g.2.1,xT g.2.2 id s d) now:=by
 have hr: ∀ i s d,oZ (g.1,g.2.1,xT g.2.2 id s d) i s d now=oZ g i s d now:=fun _ _ _=>rfl
 intro j x hx
 have hx:(xT g.2.2 id s d)[j]? =some x:=hx
 show place (xT g.2.2 id s d) x.1 x.2.1 x.2.2.1=(j:Int)/\(1:Int)<=x.2.2.2/\oZ g x.1 x.2.1 x.2.2.1 now>=x.2.2.2
 rcases bEo g.2.2 id s d with ⟨h1,h2,h3,h4⟩ | ⟨i,y,h1,h2,h3,h4,h5⟩
 .rw [h4] at hx ⊢
  rw [bLa]
  by_cases hj:j<g.2.2.length
  .rw [List.getElem?_append_left hj] at hx
   obtain ⟨a,b,c⟩:=h j x hx
   rw [a,zS (by omega)]
   exact ⟨rfl,b,c⟩
  .rw [List.getElem?_append_right (by omega)] at hx
   have hj0:j - g.2.2.length=0:=by
    cases hk:j - g.2.2.length with
    | zero=>rfl
    | succ k=>rw [hk] at hx;simp at hx
   rw [hj0] at hx
   simp only [cD9,Option.some.injEq] at hx
   subst hx
   have hj':j=g.2.2.length:=by omega
   simp only
   rw [h1,zT (by decide),hj']
   refine ⟨?_,cC3 1,?_⟩
   .unfold plc
    rw [zT (show kP id s d (id,s,d,1)=true from aNe.2 ⟨rfl,rfl,rfl⟩)]
   .rw [h3] at hu;omega
 .rw [h5] at hx ⊢
  rw [bEh (bNq h2 _)]
  by_cases hij:i=j
  .subst hij
   rw [cEh (cBm.1 h2).1] at hx
   simp only [Option.some.injEq] at hx
   subst hx
   obtain ⟨a,b,c⟩:=h i y h2
   obtain ⟨k1,k2,k3⟩:=aNe.1 h3
   simp only
   rw [k1,k2,k3] at a c ⊢
   rw [h4] at hu
   have hw:wr (y.2.2.2+1)=y.2.2.2+1:=wri (by omega) (by omega)
   rw [hw]
   exact ⟨a,by omega,by omega⟩
  .rw [List.getElem?_set_ne hij] at hx
   exact h j x hx
def rr (id s d now:Int):lRs->Int
 | []=>0
 | x::l=>if x.1==id&&(atR x s d&&decide (now<=x.2.2.2.2)) then x.2.2.2.1 else rr id s d now l
theorem bGd (l:lRs) (id s d now:Int):aBz l id s d now=rr id s d now l:=by
 unfold aBz
 have : ∀ (l:lRs) (k:Nat),(match cB (fun _ (x:den tRs)=>if x.1==id&&(atR x s d&&decide (now<=x.2.2.2.2)) then some x.2.2.2.1 else none) k l with
  | some r=>r
  | none=>0)=rr id s d now l:=by
  intro l
  induction l with
  | nil=>intro k;rfl
  | cons x l ih=>
   intro k
   cases hp:(x.1==id&&(atR x s d&&decide (now<=x.2.2.2.2))) with
   | true=>simp only [cB,rr,hp,zV]
   | false=>simp only [cB,rr,hp];exact ih (k+1)
 exact this l 0
theorem bJt {id s d now:Int}: ∀ {l:lRs},(∀ x∈l,(0:Int)<=x.2.2.2.1/\(20:Int)>=x.2.2.2.1)->0<=rr id s d now l/\rr id s d now l<=20
 | [],_=>by simp [rr]
 | x::l,h=>by
  have ih:=bJt (id:=id) (s:=s) (d:=d) (now:=now) (l:=l) fun y hy=>h y (cBu _ hy)
  have hx:=h x (by simp)
  unfold rr
  split<;>omega
theorem bSj {s d now:Int}: ∀ {l:lRs},rs s d now l=0\/ ∃ x∈l,x.2.1=s/\x.2.2.1=d
 | []=> .inl rfl
 | x::l=>by
  by_cases ha:atR x s d=true
  .unfold atR at ha
   simp only [cBg,beq_iff_eq] at ha
   exact .inr ⟨x,by simp,ha⟩
  .rcases bSj (s:=s) (d:=d) (now:=now) (l:=l) with h | ⟨y,hy,h⟩
   .left
    unfold rs
    rw [h];simp [ha]
   .exact .inr ⟨y,cBu _ hy,h⟩
theorem rQ.rs_le {l:lRs} {cap now:Int} (h:rQ l cap now) (hc:0<=cap) (s d:Int):rs s d now l<=cap:=by
 rcases bSj (s:=s) (d:=d) (now:=now) (l:=l) with h0 | ⟨x,hx,h1,h2⟩
 .omega
 .have :=h.rate x hx;rw [h1,h2] at this;exact this
theorem bTk {l:lRs} {cap now:Int} (h:rQ l cap now) (hc:1<=cap/\cap<=20) (s d:Int):free l cap s d now=cap - rs s d now l:=by
 have h1:=h.rs_le (by omega) s d
 have h2:=aQr (s:=s) (d:=d) (now:=now) (xP h.val)
 unfold free
 rw [aNn (xP h.val) (by have :=h.len;omega),show wr (cap - rs s d now l)=cap - rs s d now l from wri (by omega) (by omega)]
 split<;>omega
structure OkS (g:den tSc) (now:Int):Prop where
 lo:(1:Int)<=g.1
 hi:(20:Int)>=g.1
 res:rQ g.2.1 g.1 now
 use:aTf g now
theorem bUv {g:den tSc} {now:Int}:aAc g now=true↔OkS g now:=by
 rw [bEg,bOm]
 exact ⟨fun ⟨a,b,c,d⟩=>⟨a,b,c,d⟩,fun ⟨a,b,c,d⟩=>⟨a,b,c,d⟩⟩
theorem OkS.rate_le {g:den tSc} {now:Int} (h:OkS g now) (id s d:Int):0<=oZ g id s d now/\oZ g id s d now<=20:=by
 unfold oZ
 split
 .rw [bTk h.res ⟨h.lo,h.hi⟩]
  have h1:=h.res.rs_le (by have :=h.lo;omega) s d
  have h2:=aQr (s:=s) (d:=d) (now:=now) (xP h.res.val)
  have :=h.hi
  omega
 .rw [bGd];exact bJt (xP h.res.val)
abbrev bZ6 (p:Int×Bool×lRs×lUs):den tSc:=(p.1,p.2.2.1,p.2.2.2)
theorem OkS.trans {g:den tSc} {now:Int} (h:OkS g now) (id s d:Int):OkS (bZ6 (lH g id s d now)) now:=by
 unfold lH
 split
 .rename_i hu
  exact ⟨h.lo,h.hi,h.res,h.use.more hu (by have :=h.rate_le id s d;omega)⟩
 .split
  .rename_i hu
   exact ⟨h.lo,h.hi,h.res,h.use.more hu (by have :=h.rate_le 0 s d;omega)⟩
  .exact h
theorem bFq (g:den tSc) (id s d now:Int):(lH g id s d now).2.2.1=g.2.1/\(lH g id s d now).1=g.1/\(lH g id s d now).2.2.2.length<=g.2.2.length+1:=by
 unfold lH
 split
 .exact ⟨rfl,rfl,aIi ..⟩
 .split
  .exact ⟨rfl,rfl,aIi ..⟩
  .exact ⟨rfl,rfl,by simp⟩
theorem OkS.pw {g:den tSc} {now:Int} (h:OkS g now):g.2.2.Pairwise fun x y=>kP x.1 x.2.1 x.2.2.1 y=false:=by
 rw [cDi]
 intro i j hi hj hij
 cases hs:kP g.2.2[i].1 g.2.2[i].2.1 g.2.2[i].2.2.1 g.2.2[j] with
 | false=>rfl
 | true=>
  obtain ⟨k1,k2,k3⟩:=aNe.1 hs
  have a:=(h.use i _ (cBe hi)).1
  have b:=(h.use j _ (cBe hj)).1
  rw [k1,k2,k3,a] at b
  omega
theorem bDg {l:lRs} {x:den tRs} {cap now:Int} (h:l.length<=1000000): ∃ b,aAh l x cap now=some (b,admR l x cap now):=by
 have hf:(l.filter fun y=> !hO x y).length<=1000000:=cBf (cD3 ..) h
 unfold aAh admR pj5 zz4
 rw [show ((x.1,x.2.1,x.2.2.1,x.2.2.2.1,x.2.2.2.2):den tRs)=x from rfl,aUq (by omega),aA,aXq,aA,aX5 (by omega),aA]
 rw [aE (b:=40) (by decide) (by simp;omega),aE (b:=40) (by decide) (by omega)]
 cases c1:vD x
 .exact ⟨false,by simp⟩
 .cases c2:decide (x.2.2.2.2<now)
  .cases c3:decide (wr (rate (l.filter fun y=> !hO x y) x.2.1 x.2.2.1 now+x.2.2.2.1)>cap)
   .cases c4:decide (((l.filter fun y=> !hO x y).length:Int)>=40)
    .exact ⟨true,by simp only [cBh,zY,zZ,aA,Bool.or_self,cBj,zU]⟩
    .exact ⟨false,by simp [aA]⟩
   .exact ⟨false,by simp [aA]⟩
  .exact ⟨false,by simp [aA]⟩
theorem aVk {code:List Int} (hl:code.length<=1048576) {c:List Int} {p h:Int} (hc:Cur code (c,p,h)): ∃ a b d r u c' p' h',rC (c,p,h)=some (a,b,d,r,u,c',p',h')/\Cur code (c',p',h'):=by
 obtain ⟨v1,c1,p1,h1,e1,_,k1⟩:=aK hl (n:=5) (by decide) (by decide) hc
 obtain ⟨v2,c2,p2,h2,e2,_,k2⟩:=aK hl (n:=4) (by decide) (by decide) k1
 obtain ⟨v3,c3,p3,h3,e3,_,k3⟩:=aK hl (n:=3) (by decide) (by decide) k2
 obtain ⟨v4,c4,p4,h4,e4,_,k4⟩:=aK hl (n:=4) (by decide) (by decide) k3
 obtain ⟨v5,c5,p5,h5,e5,_,k5⟩:=aK hl (n:=30) (by decide) (by decide) k4
 refine ⟨wr (1+v1),v2,wr (1+v3),wr (1+v4),wr (40+v5),c5,p5,h5,?_,k5⟩
 unfold rC pj3
 simp only [e1,e2,e3,e4,e5,aA]
theorem bNz {v:Int} (h:v∈[(8:Int),8,4,12]):fV v=some (v,[],[]):=by
 unfold fV
 rw [eR,aA]
 simp only [cBk,cB2,or_false] at h
 rcases h with rfl | rfl | rfl | rfl<;>rfl
theorem bCg {v:Int} (h:v∈[(8:Int),8,4,12]):1<=v/\v<=20:=by
 simp only [cBk,cB2,or_false] at h
 rcases h with rfl | rfl | rfl | rfl<;>decide
theorem bMo (cap now:Int):rQ [] cap now:=⟨by simp,fun x hx=>(cB2 hx).elim,fun x hx=>(cB2 hx).elim,List.Pairwise.nil⟩
def bGs (code:List Int) (o:Option (Int×lRs×lUs×List Int×q28)):Prop:= ∃ cap l us c' p' h',o=some (cap,l,us,c',p',h')/\OkS (cap,l,us) 45/\us.length<=12/\Cur code (c',p',h')
theorem bN1 {code:List Int} (hl:code.length<=1048576) {c:List Int} {p h:Int} (hc:Cur code (c,p,h)):bGs code (yO (c,p,h)):=by
 obtain ⟨cap,c1,p1,h1,e1,hcap,k1⟩:=pL hl (l:=[(8:Int),8,4,12]) (by decide) (by decide) hc
 obtain ⟨v2,c2,p2,h2,e2,hv2,k2⟩:=aK hl (n:=6) (by decide) (by decide) k1
 unfold yO dd one pj3 pj4 pj5 pj6 zz4 zz5
 simp only [e1,aA,bNz hcap,e2,aS,bI,aZ,bA,bD]
 obtain ⟨n2,rfl⟩:=cB7 hv2.1
 refine jC (G:=bGs code) (fun (n:Nat) (s:Int×Int×lRs×List Int×q28)=>s.1=(n:Int)/\n<=12/\s.2.1=cap/\rQ s.2.2.1 cap 45/\Cur code s.2.2.2) (fun (r:Int×lRs×List Int×q28)=>r.1=cap/\rQ r.2.1 cap 45/\Cur code r.2.2) ?_ n2 _ ⟨rfl,by omega,rfl,bMo ..,k2⟩ ?_
 .rintro n ⟨i,cap',l,c3,p3,h3⟩ ⟨i1,i2,i3,i4,i5⟩
  simp only at i1 i2 i3 i4 i5
  subst i1 i3
  cases n with
  | zero=>exact .inl ⟨_,rfl,rfl,i4,i5⟩
  | succ n=>
   right
   obtain ⟨a,b,d,r,u,c4,p4,h4,e4,k4⟩:=aVk hl i5
   obtain ⟨bb,ea⟩:=bDg (l:=l) (x:=(a,b,d,r,u)) (cap:=cap') (now:=45) (by have :=i4.len;omega)
   refine ⟨n,((n:Int),cap',admR l (a,b,d,r,u) cap' 45,c4,p4,h4),by omega,?_,rfl,by omega,rfl,i4.admR _,k4⟩
   simp only [zX (show ((n+1:Nat):Int)>0 by omega),zZ,e4,aA,ea]
   rw [show wr (((n+1:Nat):Int) - 1)=(n:Int) from by rw [show wr (((n+1:Nat):Int) - 1)=((n+1:Nat):Int) - 1 from wri (by omega) (by omega)];omega]
 .rintro ⟨cap',l,c3,p3,h3⟩ ⟨i1,i2,i3⟩
  simp only at i1 i2 i3
  subst i1
  obtain ⟨v5,c5,p5,h5,e5,hv5,k5⟩:=aK hl (n:=12) (by decide) (by decide) i3
  simp only [e5,aA]
  obtain ⟨n5,rfl⟩:=cB7 hv5.1
  refine jC (G:=bGs code) (fun (n:Nat) (s:Int×Int×lRs×lUs×List Int×q28)=>s.1=(n:Int)/\OkS (s.2.1,s.2.2.1,s.2.2.2.1) 45/\s.2.2.2.1.length+n<=12/\Cur code s.2.2.2.2) (fun (r:Int×lRs×lUs×List Int×q28)=>OkS (r.1,r.2.1,r.2.2.1) 45/\r.2.2.1.length<=12/\Cur code r.2.2.2) ?_ n5 _ ⟨rfl,⟨(bCg hcap).1,(bCg hcap).2,i2,fun j x hj=>by simp at hj⟩,by simp;omega,k5⟩ ?_
  .rintro n ⟨i,cap',l,us,c6,p6,h6⟩ ⟨i1,i2,i3,i4⟩
   simp only at i1 i2 i3 i4
   subst i1
   cases n with
   | zero=>exact .inl ⟨_,rfl,i2,by simpa using i3,i4⟩
   | succ n=>
    right
    obtain ⟨v7,c7,p7,h7,e7,hv7,k7⟩:=aK hl (n:=5) (by decide) (by decide) i4
    obtain ⟨v8,c8,p8,h8,e8,hv8,k8⟩:=aK hl (n:=3) (by decide) (by decide) k7
    obtain ⟨v9,c9,p9,h9,e9,hv9,k9⟩:=aK hl (n:=2) (by decide) (by decide) k8
    have et:=aS4 (g:=(cap',l,us)) (id:=v7) (s:=v8) (d:=wr (1+v9)) (now:=45) (by have :=i2.res.len;simp only at this;show l.length<=_;omega) (by show us.length<=_;omega)
    have hk:=i2.trans v7 v8 (wr (1+v9))
    obtain ⟨g1,g2,g3⟩:=bFq (cap',l,us) v7 v8 (wr (1+v9)) 45
    refine ⟨n,((n:Int),(lH (cap',l,us) v7 v8 (wr (1+v9)) 45).1,(lH (cap',l,us) v7 v8 (wr (1+v9)) 45).2.2.1,(lH (cap',l,us) v7 v8 (wr (1+v9)) 45).2.2.2,c9,p9,h9),by omega,?_,rfl,hk,by simp only at g3 ⊢;omega,k9⟩
    simp only [zX (show ((n+1:Nat):Int)>0 by omega),zZ,e7,e8,e9,aA,et]
    rw [show wr (((n+1:Nat):Int) - 1)=(n:Int) from by rw [show wr (((n+1:Nat):Int) - 1)=((n+1:Nat):Int) - 1 from wri (by omega) (by omega)];omega]
  .rintro ⟨cap',l,us,c6,p6,h6⟩ ⟨i1,i2,i3⟩
   exact ⟨_,_,_,_,_,_,rfl,i1,i2,i3⟩
theorem bOp {code:List Int} (hl:code.length<=1048576) {c:List Int} {p h:Int} (hc:Cur code (c,p,h)): ∃ a b d r u c' p' h',aBi (c,p,h)=some (a,b,d,r,u,c',p',h')/\Cur code (c',p',h'):=by
 obtain ⟨a,b,d,r,u,c1,p1,h1,e1,k1⟩:=aVk hl hc
 obtain ⟨v,c2,p2,h2,e2,_,k2⟩:=aK hl (n:=12) (by decide) (by decide) k1
 unfold aBi pj3 pj8 zz4 zz5
 simp only [e1,e2,aA]
 cases d0:(v==(0:Int)) with
 | true=>
  obtain ⟨w,c3,p3,h3,e3,_,k3⟩:=pL hl (l:=[(0:Int),(100000:Int),(100001:Int)]) (by decide) (by decide) k2
  exact ⟨w,b,d,r,u,c3,p3,h3,by simp only [zZ,e3,aA],k3⟩
 | false=>
  cases d1:(v==(1:Int)) with
  | true=>
   obtain ⟨w,c3,p3,h3,e3,_,k3⟩:=pL hl (l:=[(0:Int),(20:Int),(21:Int),(-1:Int)]) (by decide) (by decide) k2
   exact ⟨a,b,d,w,u,c3,p3,h3,by simp only [zZ,zY,e3,aA],k3⟩
  | false=>
   cases d2:(v==(2:Int)) with
   | true=>
    obtain ⟨w,c3,p3,h3,e3,_,k3⟩:=pL hl (l:=[(0:Int),(7:Int)]) (by decide) (by decide) k2
    exact ⟨a,b,w,r,u,c3,p3,h3,by simp only [zZ,zY,e3,aA],k3⟩
   | false=>exact ⟨a,b,d,r,u,c2,p2,h2,by simp only [zY,aA],k2⟩
theorem bDw {a b:lRs} (h:a.length<=1073741824): ∃ v,rJ a b=some v/\(a=b->v=true):=by
 unfold rJ zz4
 by_cases hn:a.length=b.length
 .rw [hn,bne_self_eq_false,zY,<- hn]
  refine jC (G:=fun o=> ∃ v,o=some v/\(a=b->v=true)) (fun (n:Nat) (s:Int)=> ∃ k:Nat,s=(k:Int)/\k+n=a.length) (fun (r:Unit⊕Bool)=>a=b->r= .inl ()) ?_ a.length _ ⟨0,rfl,by omega⟩ ?_
  .rintro n _ ⟨k,rfl,hk⟩
   cases n with
   | zero=>exact .inl ⟨.inl (),by simp only [zW (show ¬ (k:Int)<(a.length:Int) by omega),zY],fun _=>rfl⟩
   | succ n=>
    have h1:k<a.length:=by omega
    have h2:k<b.length:=by omega
    simp only [zX (show (k:Int)<(a.length:Int) by omega),zZ,aH,cBe h1,cBe h2,aA]
    cases hc:((a[k].1==b[k].1)&&((a[k].2.1==b[k].2.1)&&((a[k].2.2.1==b[k].2.2.1)&&((a[k].2.2.2.1==b[k].2.2.2.1)&&((a[k].2.2.2.2==b[k].2.2.2.2)&&true))))) with
    | true=>
     refine .inr ⟨n,((k+1:Nat):Int),by omega,?_,k+1,rfl,by omega⟩
     simp only [cBh,zY]
     rw [show wr ((k:Int)+1)=((k+1:Nat):Int) from by rw [show wr ((k:Int)+1)=(k:Int)+1 from wri (by omega) (by omega)];omega]
    | false=>
     refine .inl ⟨.inr false,by simp only [cBq,zZ],fun e=> ?_⟩
     subst e
     simp at hc
  .intro r hr
   cases r with
   | inl u=>exact ⟨true,rfl,fun _=>rfl⟩
   | inr v=>exact ⟨v,rfl,fun e=>by cases hr e⟩
 .rw [show ((a.length:Int) != (b.length:Int))=true by rw [bne_iff_ne];omega,zZ]
  exact ⟨false,rfl,fun e=>absurd (congrArg cBw e) hn⟩
theorem bMc {a b:den tSc} (h1:a.2.1.length<=1073741824) (h2:a.2.2.length<=1073741824): ∃ v,qV a b=some v/\(a=b->v=true):=by
 obtain ⟨v1,e1,k1⟩:=bDw (b:=b.2.1) h1
 unfold qV
 rw [e1,aA]
 cases hc:(a.1 != b.1) with
 | true=>exact ⟨false,rfl,fun e=>by subst e;simp at hc⟩
 | false=>
  cases v1 with
  | false=>exact ⟨false,rfl,fun e=>by subst e;cases k1 rfl⟩
  | true=>
   by_cases hn:a.2.2.length=b.2.2.length
   .simp only [zY,cBh,hn,bne_self_eq_false,aA]
    rw [<- hn]
    refine jC (G:=fun o=> ∃ v,o=some v/\(a=b->v=true)) (fun (n:Nat) (s:Int)=> ∃ k:Nat,s=(k:Int)/\k+n=a.2.2.length) (fun (r:Unit⊕Bool)=>a=b->r= .inl ()) ?_ a.2.2.length _ ⟨0,rfl,by omega⟩ ?_
    .rintro n _ ⟨k,rfl,hk⟩
     cases n with
     | zero=>exact .inl ⟨.inl (),by simp only [zW (show ¬ (k:Int)<(a.2.2.length:Int) by omega),zY],fun _=>rfl⟩
     | succ n=>
      have h3:k<a.2.2.length:=by omega
      have h4:k<b.2.2.length:=by omega
      simp only [zX (show (k:Int)<(a.2.2.length:Int) by omega),zZ,aH,cBe h3,cBe h4,aA]
      cases hc:((a.2.2[k].1==b.2.2[k].1)&&((a.2.2[k].2.1==b.2.2[k].2.1)&&((a.2.2[k].2.2.1==b.2.2[k].2.2.1)&&((a.2.2[k].2.2.2==b.2.2[k].2.2.2)&&true)))) with
      | true=>
       refine .inr ⟨n,((k+1:Nat):Int),by omega,?_,k+1,rfl,by omega⟩
       simp only [cBh,zY]
       rw [show wr ((k:Int)+1)=((k+1:Nat):Int) from by rw [show wr ((k:Int)+1)=(k:Int)+1 from wri (by omega) (by omega)];omega]
      | false=>
       refine .inl ⟨.inr false,by simp only [cBq,zZ],fun e=> ?_⟩
       subst e
       simp at hc
    .intro r hr
     cases r with
     | inl u=>exact ⟨true,rfl,fun _=>rfl⟩
     | inr v=>exact ⟨v,rfl,fun e=>by cases hr e⟩
   .simp only [zY,cBh,aA]
    rw [show ((a.2.2.length:Int) != (b.2.2.length:Int))=true by rw [bne_iff_ne];omega,zZ]
    exact ⟨false,rfl,fun e=>absurd (by rw [e]) hn⟩
theorem bJw {a:den tSc} (h1:a.2.1.length<=1073741824) (h2:a.2.2.length<=1073741824):qV a a=some true:=by
 obtain ⟨v,e,k⟩:=bMc (b:=a) h1 h2
 rw [e,k rfl]
theorem aHn {l:List Int} {n x:Int} (h:x∈tQ l n):x=n\/x∈l:=by
 unfold tQ at h
 split at h
 .exact .inr h
 .simp only [cBp,cBn] at h
  rcases h with (h | h) | h
  .exact .inr (cCv h)
  .exact .inl h
  .exact .inr (cC1 h)
theorem bJr {r d:Int} {x:den tLk} {a:List Int} (h:d∈pA r x a):dG x r d=true\/d∈a:=by
 unfold pA at h
 unfold dG
 cases c1:x.1==r<;>cases c2:x.2.2.1==r<;>rw [c1,c2] at h<;>simp only [zZ,zY] at h
 .exact .inr h
 .rcases aHn h with e | h
  .left;simp [e]
  .exact .inr h
 .rcases aHn h with e | h
  .left;simp [e]
  .exact .inr h
 .rcases aHn h with e | h
  .left;simp [e]
  .rcases aHn h with e | h
   .left;simp [e]
   .exact .inr h
theorem bH4 {t:den tTo} {r d:Int} (h:d∈gT t r): ∃ x∈t.2,dG x r d=true:=by
 have : ∀ (l:lLk) (k:Nat) (a:List Int),d∈cN (fun _ x a=>pA r x a) k l a->(∃ x∈l,dG x r d=true)\/d∈a:=by
  intro l
  induction l with
  | nil=>intro k a h;exact .inr h
  | cons x l ih=>
   intro k a h
   rcases ih (k+1) (pA r x a) h with ⟨y,hy,e⟩ | h
   .exact .inl ⟨y,cBu _ hy,e⟩
   .rcases bJr h with e | h
    .exact .inl ⟨x,by simp,e⟩
    .exact .inr h
 rcases this t.2 0 [] h with h | h
 .exact h
 .cases h
theorem bA0 {t:den tTo} {r d:Int} (h: ∃ x∈t.2,dG x r d=true): ∃ (j:Nat) (x:den tLk),pB t r d=(j:Int)/\t.2[j]? =some x/\dG x r d=true:=by
 rcases aE7 t r d with e | h
 .exfalso
  have : ∀ (l:lLk) (k:Nat),(∃ x∈l,dG x r d=true)-> ∃ i,cB (fun k x=>if dG x r d then some ((k:Nat):Int) else none) k l=some i/\0<=i:=by
   intro l
   induction l with
   | nil=>rintro k ⟨x,hx,_⟩;cases hx
   | cons y l ih=>
    rintro k ⟨x,hx,hxe⟩
    cases c:dG y r d with
    | true=>exact ⟨(k:Int),by simp [cB,c],by omega⟩
    | false=>
     rcases cBk.1 hx with rfl | hx
     .rw [c] at hxe;cases hxe
     .obtain ⟨i,h1,h2⟩:=ih (k+1) ⟨x,hx,hxe⟩
      exact ⟨i,by simp only [cB,c];exact h1,h2⟩
  obtain ⟨i,h1,h2⟩:=this t.2 0 h
  unfold pB at e
  rw [h1] at e
  have e:i= -1:=e
  omega
 .exact h
theorem bLx {t:den tTo} (hv: ∀ x∈t.2,aAu t x=true) {r d:Int} (h:d∈gT t r):cU t (remote t r d).1=true:=by
 obtain ⟨j,x,e,hx,he⟩:=bA0 (bH4 h)
 have hl:=hv x (cBr hx)
 unfold remote
 rw [e,zS (by omega),cBo,hx]
 unfold aAu at hl
 simp only [cBg] at hl
 unfold bE5
 simp only [Option.getD_some]
 cases x.1==r&&x.2.1==d with
 | true=>exact hl.2.1
 | false=>exact hl.1
theorem bI4 {t:den tTo} {r k:Int} (h:t.2.length<=1000000): ∃ l,iX t r k=some l/\l.length<=2 * t.2.length/\ ∀ d∈l,d∈gT t r:=by
 have hd:=aFj t r
 unfold iX ixb pj2
 rw [show ((t.1,t.2):den tTo)=t from rfl,aNr (t:=t) (by omega),aA]
 refine cE (G:=fun o=> ∃ l,o=some l/\l.length<=2 * t.2.length/\ ∀ d∈l,d∈gT t r) (gT t r).length (fun s:Int×List Int=>s.1) (fun i s=>s.2.length<=i/\ ∀ d∈s.2,d∈gT t r) (fun l:List Int=>l.length<=2 * t.2.length/\ ∀ d∈l,d∈gT t r) ?_ ?_ 0 ((0:Int),[]) (by omega) rfl ⟨by simp,fun d hd=>(cB2 hd).elim⟩ (fun l hl=>⟨l,rfl,hl⟩)
 .rintro i ⟨_,l⟩ hi rfl ⟨h1,h2⟩
  right
  simp only at h1 h2
  simp only [zX (show (i:Int)<((gT t r).length:Int) by omega),zX (show (0:Int)<=(i:Int) by omega),zZ,cBo,cBe hi,aA,aTx (t:=t) (show t.2.length<=68719476736 by omega),bL (show i<=1000000000 by omega)]
  rw [aE (b:=8) (n:=l.length) (m:=1) (by decide) (by omega),zZ]
  cases aCm t r (gT t r)[i]==k with
  | true=>exact ⟨_,rfl,rfl,by simp;omega,fun d hd=>by
    rcases cBp.1 hd with hd | hd
    .exact h2 d hd
    .rw [cBn.1 hd];exact cBt hi⟩
  | false=>exact ⟨_,rfl,rfl,by show l.length<=i+1;omega,h2⟩
 .rintro ⟨_,l⟩ rfl ⟨h1,h2⟩
  exact ⟨l,by simp only [zW (cBx _),zY],by simp only at h1;omega,h2⟩
theorem aM2 (l:List Int) (n:Int):n∈tQ l n:=by
 unfold tQ
 split
 .next h=>exact cBr h
 .simp
theorem aHl {l:List Int} {n x:Int} (h:x∈l):x∈tQ l n:=by
 unfold tQ
 split
 .exact h
 .rw [<- List.take_append_drop (sK l n) l] at h
  simp only [cBp,cBn] at h ⊢
  rcases h with h | h
  .exact .inl (.inl h)
  .exact .inr h
theorem bNp {l:List Int} {n:Int} (h:n∉l):(tQ l n).length=l.length+1:=by
 unfold tQ
 rw [zS (fun e=>h (cBr e))]
 have :=aT8 l n
 simp
 omega
theorem bHq {r d:Int} {x:den tLk} {a:List Int} (h:d∈a):d∈pA r x a:=by
 unfold pA
 cases x.2.2.1==r<;>cases x.1==r<;>simp only [zZ,zY]
 .exact h
 .exact aHl h
 .exact aHl h
 .exact aHl (aHl h)
theorem bKa {r d:Int} {x:den tLk} {a:List Int} (h:dG x r d=true):d∈pA r x a:=by
 unfold dG at h
 unfold pA
 simp only [cCz,cBg] at h
 rcases h with ⟨h1,h2⟩ | ⟨h1,h2⟩
 .rw [h1,eq_of_beq h2]
  cases x.2.2.1==r<;>simp only [zZ,zY]
  .exact aM2 _ _
  .exact aHl (aM2 _ _)
 .rw [h1,eq_of_beq h2]
  cases x.1==r<;>simp only [zZ,zY]<;>exact aM2 _ _
theorem aK6 (as:lAS) (ls:lLk) (r:Int):gT (as,ls) r=ls.foldl (fun a x=>pA r x a) []:=xD (fun a x=>pA r x a) ls 0 []
theorem bLv {as:lAS} {ls:lLk} {r d:Int} {x:den tLk} (hx:x∈ls) (h:dG x r d=true):d∈gT (as,ls) r:=by
 rw [aK6]
 have keep: ∀ (l:lLk) (a:List Int),d∈a->d∈l.foldl (fun a x=>pA r x a) a:=by
  intro l
  induction l with
  | nil=>exact fun a h=>h
  | cons y l ih=>exact fun a h=>ih _ (bHq h)
 have : ∀ (l:lLk) (a:List Int),x∈l->d∈l.foldl (fun a x=>pA r x a) a:=by
  intro l
  induction l with
  | nil=>exact fun a h=>(cB2 h).elim
  | cons y l ih=>
   intro a hm
   rcases cBk.1 hm with rfl | hm
   .exact keep l _ (bKa h)
   .exact ih _ hm
 exact this ls [] hx
structure rK (ls:lLk):Prop where
 num: ∀ r d:Int,d∈gT ([],ls) r->1<=d/\d<=((gT ([],ls) r).length:Int)
 pw:ls.Pairwise fun y x=>dG y x.1 x.2.1=false/\dG y x.2.2.1 x.2.2.2.1=false
theorem bFs:rK []:=⟨fun r d h=>(cB2 h).elim,List.Pairwise.nil⟩
theorem rK.no {ls:lLk} (h:rK ls) {y:den tLk} (hy:y∈ls) (r:Int):dG y r (((gT ([],ls) r).length:Int)+1)=false:=by
 cases e:dG y r (((gT ([],ls) r).length:Int)+1) with
 | false=>rfl
 | true=>have :=(h.num r _ (bLv hy e)).2;omega
theorem rK.grow {L:List Int} (h: ∀ d∈L,(1:Int)<=d/\d<=(L.length:Int)): ∀ d∈tQ L ((L.length:Int)+1),(1:Int)<=d/\d<=((tQ L ((L.length:Int)+1)).length:Int):=by
 have hn:((L.length:Int)+1)∉L:=fun e=>by have :=(h _ e).2;omega
 rw [bNp hn]
 intro d hd
 rcases aHn hd with rfl | hd
 .omega
 .have :=h d hd;omega
theorem rK.snoc {ls:lLk} (h:rK ls) {a b:Int} (hab:a≠b) (k:Int):rK (ls++[(a,((gT ([],ls) a).length:Int)+1,b,((gT ([],ls) b).length:Int)+1,k)]):=by
 constructor
 .intro r
  rw [aK6,List.foldl_append,<- aK6]
  show ∀ d,d∈pA r _ _->_/\_<=((pA r _ _).length:Int)
  unfold pA
  by_cases ha:a=r
  .subst ha
   have hb:(b==a)=false:=by simp;exact fun e=>hab e.symm
   simp only [hb,beq_self_eq_true,zZ,zY]
   exact rK.grow (h.num a)
  .have ha':(a==r)=false:=by simpa using ha
   by_cases hb:b=r
   .subst hb
    simp only [ha',beq_self_eq_true,zZ,zY]
    exact rK.grow (h.num b)
   .have hb':(b==r)=false:=by simpa using hb
    simp only [ha',hb',zY]
    exact h.num r
 .rw [List.pairwise_append]
  refine ⟨h.pw,List.pairwise_singleton _ _,fun y hy x hx=> ?_⟩
  rw [cBn.1 hx]
  exact ⟨h.no hy a,h.no hy b⟩
theorem aIj {t:den tTo} {a b k:Int} (h:t.2.length<=1000000) (hab:a≠b) (hf:rK t.2): ∃ ls,vK t a b k=some (t.1,ls)/\ls.length<=t.2.length+1/\rK ls:=by
 have la:=aFj t a
 have lb:=aFj t b
 unfold vK pj2
 rw [show ((t.1,t.2):den tTo)=t from rfl,aNr (t:=t) (by omega),aNr (t:=t) (by omega),aA,aA,aE (b:=40) (n:=t.2.length) (m:=1) (by decide) (by omega)]
 have w1:wr (((gT t a).length:Int)+1)=((gT t a).length:Int)+1:=bX (by omega) (by omega)
 have w2:wr (((gT t b).length:Int)+1)=((gT t b).length:Int)+1:=bX (by omega) (by omega)
 cases decide (wr (((gT t a).length:Int)+1)<=6) with
 | false=>exact ⟨t.2,rfl,by omega,hf⟩
 | true=>
  cases decide (wr (((gT t b).length:Int)+1)<=6) with
  | false=>exact ⟨t.2,rfl,by omega,hf⟩
  | true=>
   refine ⟨t.2++[(a,wr (((gT t a).length:Int)+1),b,wr (((gT t b).length:Int)+1),k)],rfl,by simp,?_⟩
   rw [w1,w2]
   exact hf.snoc hab k
def AsI (as:lAS):Prop:= ∀ (j:Nat) (x:den tAS),as[j]? =some x->((0:Int)<=x.1/\(1:Int)>=x.1)/\ ∃ v:Int,0<=v/\v<1000000/\1+8 * v+(j:Int)=x.2.2
theorem bSv:AsI []:=fun j x h=>by simp at h
theorem AsI.snoc {as:lAS} (h:AsI as) {d v:Int} {b:Bool} (hd:0<=d/\1>=d) (hv:0<=v/\v<1000000):AsI (as++[(d,b,1+8 * v+(as.length:Int))]):=by
 intro j x hx
 rw [List.getElem?_append] at hx
 split at hx
 .exact h j x hx
 .next hj=>
  have hj0:j - as.length=0:=by
   have :=(cBm.1 hx).1
   simp at this
   omega
  rw [hj0] at hx
  simp only [cD9,Option.some.injEq] at hx
  subst hx
  exact ⟨hd,v,hv.1,hv.2,by show 1+8 * v+(j:Int)=1+8 * v+(as.length:Int);omega⟩
theorem AsI.set {as:lAS} (h:AsI as) {i q:Nat} (hi:i<as.length) (hq:q<as.length):AsI (as.set i (as[q].1,as[i].2.1,as[i].2.2)):=by
 intro j x hx
 rw [List.getElem?_set] at hx
 split at hx
 .next e=>
  subst e
  simp only [hi,zV,Option.some.injEq] at hx
  subst hx
  exact ⟨(h q as[q] (cBe hq)).1,(h i as[i] (cBe hi)).2⟩
 .exact h j x hx
theorem bCc {α:Type} (p:Nat->α->Bool) {l:List α} (h: ∀ (j:Nat) (x:α),l[j]? =some x->p j x=true):(l.zipIdx 0).all (fun z=>p z.2 z.1)=true:=by
 rw [cB5]
 rintro ⟨x,j⟩ hm
 exact h j x (by simpa using List.mem_zipIdx_iff_getElem?.1 hm)
theorem aL7 {α:Type} {l:List α} {j:Nat} {y:α} (h:y∈l.take j): ∃ i,i<j/\l[i]? =some y:=by
 obtain ⟨i,hi⟩:=cEs.1 h
 rw [cCs] at hi
 split at hi
 .next c=>exact ⟨i,c,hi⟩
 .cases hi
theorem bSz {as:lAS} {ls:lLk} (h1:1<=as.length) (h8:as.length<=8) (ha:AsI as) (hv: ∀ x∈ls,aAu (as,ls) x=true) (hp:ls.Pairwise fun y x=>dG y x.1 x.2.1=false/\dG y x.2.2.1 x.2.2.2.1=false):aB6 (as,ls)=true:=by
 unfold aB6
 rw [cBg,cBg]
 refine ⟨?_,?_,?_⟩
 .simp only [inR,cBg,zR];omega
 .refine bCc (asP (as,ls)) (l:=as) fun j x hx=> ?_
  obtain ⟨⟨a0,a1⟩,v,v0,v1,v2⟩:=ha j x hx
  have hj:j<as.length:=(cBm.1 hx).1
  have v2:1+8 * v+(j:Int)=x.2.2:=v2
  unfold asP
  simp only [cBg,inR,zR]
  refine ⟨⟨a0,show (2:Int)>=x.1 by omega⟩,⟨show (1:Int)<=x.2.2 by omega,show (2147483646:Int)>=x.2.2 by omega⟩,cB5.2 fun y hy=> ?_⟩
  obtain ⟨i,hi,hy⟩:=aL7 hy
  obtain ⟨_,w,w0,w1,w2⟩:=ha i y hy
  have w2:1+8 * w+(i:Int)=y.2.2:=w2
  have :x.2.2≠y.2.2:=fun e=>by
   have e:1+8 * v+(j:Int)=1+8 * w+(i:Int):=v2.trans (e.trans w2.symm)
   omega
  simpa using this
 .refine bCc (lkP (as,ls)) (l:=ls) fun j x hx=> ?_
  unfold lkP
  rw [cBg]
  refine ⟨hv x (cBr hx),cB5.2 fun y hy=> ?_⟩
  obtain ⟨i,hi,hy⟩:=aL7 hy
  obtain ⟨hi',ei⟩:=cBm.1 hy
  obtain ⟨hj',ej⟩:=cBm.1 hx
  have :=(cDi.1 hp) i j hi' hj' hi
  rw [ei,ej] at this
  simp [this.1,this.2]
structure aAo (as:lAS) (ls:lLk):Prop where
 pos:1<=as.length
 len:as.length<=8
 links:ls.length<=100
 val: ∀ x∈ls,aAu (as,ls) x=true
 top:aB6 (as,ls)=true
def bAq (code:List Int) (o:Option (lAS×lLk×List Int×q28)):Prop:= ∃ as ls c' p' h',o=some (as,ls,c',p',h')/\aAo as ls/\Cur code (c',p',h')
def T3I (code:List Int) (n:Nat) (i:Nat) (s:Int×lAS×lLk×List Int×q28):Prop:=(s.2.1.length=n/\AsI s.2.1/\rK s.2.2.1)/\s.2.2.1.length<=10 * i/\Cur code s.2.2.2
theorem aSx {code:List Int} (hl:code.length<=1048576) {c:List Int} {p h:Int} (hc:Cur code (c,p,h)):bAq code (tC (c,p,h)):=by
 obtain ⟨v1,c1,p1,h1,e1,r1,k1⟩:=aK hl (n:=3) (by decide) (by decide) hc
 obtain ⟨v2,c2,p2,h2,e2,r2,k2⟩:=aK hl (n:=6) (by decide) (by decide) k1
 obtain ⟨m1,rfl⟩:=cB7 r1.1
 obtain ⟨m2,rfl⟩:=cB7 r2.1
 have w1:wr ((1:Int)+(m1:Int))=((m1+1:Nat):Int):=by rw [bX (by omega) (by omega)];omega
 have w2:wr (((m1+1:Nat):Int)+(m2:Int))=((m1+1+m2:Nat):Int):=by rw [bX (by omega) (by omega)];omega
 unfold tC ixb pj2 pj3 pj4 pj5
 simp only [e1,e2,aA,aS,bI,aZ,bA,bD,w1,w2]
 generalize hco:m1+1=co at *
 generalize hn:co+m2=n at *
 have hco1:1<=co:=by omega
 have hcn:co<=n:=by omega
 have hn8:n<=8:=by omega
 refine cE (G:=bAq code) n (fun s:Int×lAS×List Int×Int×Int=>s.1) (fun i s=>(s.2.1.length=i/\AsI s.2.1)/\Cur code s.2.2) (fun r:lAS×List Int×Int×Int=>(r.1.length=n/\AsI r.1)/\Cur code r.2) ?_ ?_ 0 ((0:Int),[],c2,p2,h2) (by omega) rfl ⟨⟨rfl,bSv⟩,k2⟩ ?_
 .rintro i ⟨_,as,c3,p3,h3⟩ hi rfl ⟨⟨a1,a3⟩,a2⟩
  simp only at a1 a2 a3
  right
  obtain ⟨v4,c4,p4,h4,e4,r4,k4⟩:=aK hl (n:=2) (by decide) (by decide) a2
  obtain ⟨v5,c5,p5,h5,e5,r5,k5⟩:=aH3 hl (n:=1000000) (by decide) k4
  refine ⟨(((i+1:Nat):Int),as++[(v4,decide ((i:Int)<((co:Nat):Int)),wr ((wr ((1:Int)+(wr (v5 * (8:Int)))))+(i:Int)))],c5,p5,h5),?_,rfl,⟨by simp [a1],?_⟩,k5⟩
  simp only [zX (show (i:Int)<(n:Int) by omega),zZ,e4,e5,aA,aE (b:=24) (n:=as.length) (m:=1) (by decide) (by omega),bL (show i<=1000000000 by omega)]
  have e:wr ((wr ((1:Int)+(wr (v5 * (8:Int)))))+(i:Int))=1+8 * v5+(as.length:Int):=by
   rw [bX (n:=v5 * 8) (by omega) (by omega),bX (n:=1+v5 * 8) (by omega) (by omega),bX (by omega) (by omega)]
   omega
  show AsI (as++[_])
  rw [e]
  exact a3.snoc ⟨by omega,by omega⟩ ⟨by omega,by omega⟩
 .rintro ⟨_,as,c3,p3,h3⟩ rfl ⟨a1,a2⟩
  exact ⟨(as,c3,p3,h3),by simp only [zW (cBx _),zY],a1,a2⟩
 rintro ⟨as,c3,p3,h3⟩ ⟨⟨a1,a3⟩,a2⟩
 simp only at a1 a2 a3
 refine cE (G:=bAq code) co (fun s:Int×lAS×lLk×List Int×Int×Int=>s.1) (fun i s=>1<=i/\T3I code n i s) (fun r:lAS×lLk×List Int×Int×Int=>(r.1.length=n/\AsI r.1/\rK r.2.1)/\r.2.1.length<=10 * co/\Cur code r.2.2) ?_ ?_ 1 ((1:Int),as,[],c3,p3,h3) hco1 rfl ⟨cBs 1,⟨a1,a3,bFs⟩,by simp,a2⟩ ?_
 .rintro i ⟨_,as,ls,c4,p4,h4⟩ hi rfl ⟨b0,b1,b2,b3⟩
  simp only at b1 b2 b3
  right
  obtain ⟨v5,c5,p5,h5,e5,r5,k5⟩:=aK hl (n:=(i:Int)) (by omega) (by omega) b3
  obtain ⟨l6,e6,r6,f6⟩:=aIj (t:=(as,ls)) (a:=v5) (b:=(i:Int)) (k:=1) (by show ls.length<=_;omega) (by omega) b1.2.2
  obtain ⟨v7,c7,p7,h7,e7,k7⟩:=sV hl (n:=2) (by decide) (by decide) k5
  simp only at e6 r6
  cases v7 with
  | false=>
   refine ⟨(((i+1:Nat):Int),as,l6,c7,p7,h7),?_,rfl,by omega,⟨b1.1,b1.2.1,f6⟩,by simp only;omega,k7⟩
   simp only [zX (show (i:Int)<(co:Int) by omega),zZ,zY,e5,e6,e7,aA,bL (show i<=1000000000 by omega)]
  | true=>
   obtain ⟨v8,c8,p8,h8,e8,r8,k8⟩:=aK hl (n:=(i:Int)) (by omega) (by omega) k7
   obtain ⟨l9,e9,r9,f9⟩:=aIj (t:=(as,l6)) (a:=v8) (b:=(i:Int)) (k:=1) (by show l6.length<=_;omega) (by omega) f6
   simp only at e9 r9
   refine ⟨(((i+1:Nat):Int),as,l9,c8,p8,h8),?_,rfl,by omega,⟨b1.1,b1.2.1,f9⟩,by simp only;omega,k8⟩
   simp only [zX (show (i:Int)<(co:Int) by omega),zZ,e5,e6,e7,e8,e9,aA,bL (show i<=1000000000 by omega)]
 .rintro ⟨_,as,ls,c4,p4,h4⟩ rfl ⟨b0,b1,b2,b3⟩
  exact ⟨(as,ls,c4,p4,h4),by simp only [zW (cBx _),zY],b1,b2,b3⟩
 rintro ⟨as,ls,c4,p4,h4⟩ ⟨b1,b2,b3⟩
 simp only at b1 b2 b3
 refine cE (G:=bAq code) n (fun s:Int×lAS×lLk×List Int×Int×Int=>s.1) (fun i s=>1<=i/\co<=i/\T3I code n i s) (fun r:lAS×lLk×List Int×Int×Int=>(r.1.length=n/\AsI r.1/\rK r.2.1)/\r.2.1.length<=10 * n/\Cur code r.2.2) ?_ ?_ co (((co:Nat):Int),as,ls,c4,p4,h4) hcn rfl ⟨hco1,cBs co,b1,b2,b3⟩ ?_
 .rintro i ⟨_,as,ls,c5,p5,h5⟩ hi rfl ⟨d0,d1,⟨d2,d5,d6⟩,d3,d4⟩
  simp only at d2 d3 d4 d5 d6
  right
  have hlen:(as.length:Int)=(n:Int):=by omega
  obtain ⟨v6,c6,p6,h6,e6,r6,k6⟩:=aK hl (n:=2) (by decide) (by decide) d4
  obtain ⟨m6,rfl⟩:=cB7 r6.1
  have w6:wr ((1:Int)+(m6:Int))=((m6+1:Nat):Int):=by rw [bX (by omega) (by omega)];omega
  simp only [hlen,zX (show (i:Int)<(n:Int) by omega),zZ,e6,w6,aA,Option.bind_assoc]
  refine jC (G:=fun o=> ∃ s',o=some (cBd s')/\s'.1=((i+1:Nat):Int)/\1<=i+1/\co<=i+1/\T3I code n (i+1) s') (fun (m:Nat) (s:Int×lAS×lLk×List Int×q28)=>s.1=(m:Int)/\m<=2/\(s.2.1.length=n/\AsI s.2.1/\rK s.2.2.1)/\s.2.2.1.length+m<=10 * i+2/\Cur code s.2.2.2) (fun r:lAS×lLk×List Int×Int×Int=>(r.1.length=n/\AsI r.1/\rK r.2.1)/\r.2.1.length<=10 * i+2/\Cur code r.2.2) ?_ (m6+1) (((m6+1:Nat):Int),as,ls,c6,p6,h6) ⟨rfl,by omega,⟨d2,d5,d6⟩,by simp only;omega,k6⟩ ?_
  .rintro m ⟨_,as,ls,c7,p7,h7⟩ ⟨rfl,f1,⟨f2,f5,f6⟩,f3,f4⟩
   simp only at f2 f3 f4 f5 f6
   cases m with
   | zero=>exact .inl ⟨(as,ls,c7,p7,h7),rfl,⟨f2,f5,f6⟩,by simpa using f3,f4⟩
   | succ m=>
    right
    obtain ⟨v8,c8,p8,h8,e8,r8,k8⟩:=aK hl (n:=(i:Int)) (by omega) (by omega) f4
    obtain ⟨q8,rfl⟩:=cB7 r8.1
    obtain ⟨v9,c9,p9,h9,e9,k9⟩:=sV hl (n:=5) (by decide) (by decide) k8
    have hq:q8<n:=by omega
    have hlen:(as.length:Int)=(n:Int):=by omega
    have hq1:as[q8]? =some (as[q8]'(by omega)):=cBe (by omega)
    have hi1:as[i]? =some (as[i]'(by omega)):=cBe (by omega)
    have wm:wr (((m+1:Nat):Int) - 1)=(m:Int):=by rw [bX (by omega) (by omega)];omega
    have fin: ∀ (as':lAS) (c p h:_),as'.length=n->AsI as'->Cur code (c,p,h)-> ∃ s',(Option.bind (cond (decide ((0:Int)<=(q8:Int))) (cond (decide ((q8:Int)<(as'.length:Int))) (Option.bind as'[((q8:Nat):Int).toNat]? fun x79=>cond (decide ((0:Int)<=(i:Int))) (cond (decide ((i:Int)<(as'.length:Int))) (Option.bind as'[((i:Nat):Int).toNat]? fun x80=>cond (x79.1==x80.1) (Option.bind (vK (as',ls) (q8:Int) (i:Int) (2:Int)) fun y81=>some (y81.1,y81.2,c,p,h)) (some (as',ls,c,p,h))) none) none) none) none) fun (s82:lAS×lLk×List Int×q28)=>some (cBd (wr (((m+1:Nat):Int) - (1:Int)),s82.1,s82.2.1,s82.2.2.1,s82.2.2.2.1,s82.2.2.2.2)):Option ((Int×lAS×lLk×List Int×q28)⊕(lAS×lLk×List Int×q28)))=some (cBd s')/\s'.1=(m:Int)/\m<=2/\(s'.2.1.length=n/\AsI s'.2.1/\rK s'.2.2.1)/\s'.2.2.1.length+m<=10 * i+2/\Cur code s'.2.2.2:=by
     intro as' c p h g1 g3 g2
     have hl':(as'.length:Int)=(n:Int):=by omega
     have hq1:as'[q8]? =some (as'[q8]'(by omega)):=cBe (by omega)
     have hi1:as'[i]? =some (as'[i]'(by omega)):=cBe (by omega)
     simp only [hl',zX (show (0:Int)<=(q8:Int) by omega),zX (show (q8:Int)<(n:Int) by omega),zX (show (0:Int)<=(i:Int) by omega),zX (show (i:Int)<(n:Int) by omega),zZ,cBo,hq1,hi1,aA,wm]
     obtain ⟨l6,e6,r6,z6⟩:=aIj (t:=(as',ls)) (a:=(q8:Int)) (b:=(i:Int)) (k:=2) (by show ls.length<=_;omega) (by omega) f6
     simp only at e6 r6
     cases (as'[q8]'(by omega)).1==(as'[i]'(by omega)).1 with
     | true=>exact ⟨_,by simp only [zZ,e6,aA];rfl,rfl,by omega,⟨g1,g3,z6⟩,by simp only;omega,g2⟩
     | false=>exact ⟨_,by simp only [zY,aA];rfl,rfl,by omega,⟨g1,g3,f6⟩,by simp only;omega,g2⟩
    cases v9 with
    | true=>
     obtain ⟨s',g1,g2⟩:=fin as c9 p9 h9 f2 f5 k9
     refine ⟨m,s',by omega,?_,g2⟩
     rw [<- g1]
     simp only [zX (show ((m+1:Nat):Int)>0 by omega),zZ,zY,e8,e9,aA,cBh]
    | false=>
     obtain ⟨s',g1,g2⟩:=fin (as.set i ((as[q8]'(by omega)).1,(as[i]'(by omega)).2.1,(as[i]'(by omega)).2.2)) c9 p9 h9 (by simp [f2]) (f5.set (by omega) (by omega)) k9
     refine ⟨m,s',by omega,?_,g2⟩
     rw [<- g1]
     simp only [zX (show ((m+1:Nat):Int)>0 by omega),zZ,e8,e9,aA,cBq,hlen,zX (show (0:Int)<=(q8:Int) by omega),zX (show (q8:Int)<(n:Int) by omega),zX (show (0:Int)<=(i:Int) by omega),zX (show (i:Int)<(n:Int) by omega),cBo,hq1,hi1]
  .rintro ⟨as,ls,c7,p7,h7⟩ ⟨⟨f1,f5,f6⟩,f2,f3⟩
   simp only at f1 f2 f3 f5 f6
   have w7:wr (wr ((i:Int) - (co:Int))+1)=((i - co+1:Nat):Int):=by rw [bX (n:=(i:Int) - (co:Int)) (by omega) (by omega),bX (by omega) (by omega)];omega
   obtain ⟨v8,c8,p8,h8,e8,r8,k8⟩:=aK hl (n:=((i - co+1:Nat):Int)) (by omega) (by omega) f3
   obtain ⟨v9,c9,p9,h9,e9,k9⟩:=sV hl (n:=3) (by decide) (by decide) k8
   simp only [w7,e8,aA,bL (show i<=1000000000 by omega)]
   cases hlt:decide (wr ((co:Int)+v8)<(i:Int)) with
   | false=>exact ⟨_,by simp only [zY,aA];rfl,rfl,by omega,by omega,⟨f1,f5,f6⟩,by simp only;omega,k8⟩
   | true=>
    have hlt':=of_decide_eq_true hlt
    obtain ⟨l6,e6,r6,z6⟩:=aIj (t:=(as,ls)) (a:=wr ((co:Int)+v8)) (b:=(i:Int)) (k:=3) (by show ls.length<=_;omega) (by omega) f6
    simp only at e6 r6
    cases v9 with
    | false=>exact ⟨_,by simp only [zZ,zY,e9,aA];rfl,rfl,by omega,by omega,⟨f1,f5,f6⟩,by simp only;omega,k9⟩
    | true=>exact ⟨_,by simp only [zZ,e9,e6,aA];rfl,rfl,by omega,by omega,⟨f1,f5,z6⟩,by simp only;omega,k9⟩
 .rintro ⟨_,as,ls,c5,p5,h5⟩ rfl ⟨d0,d1,⟨d2,d5⟩,d3,d4⟩
  simp only at d2 d3 d4 d5
  exact ⟨(as,ls,c5,p5,h5),by simp only [d2,zW (cBx _),zY],⟨d2,d5⟩,d3,d4⟩
 rintro ⟨as,ls,c5,p5,h5⟩ ⟨⟨d2,d5,d6⟩,d3,d4⟩
 simp only at d2 d3 d4 d5 d6
 refine cE (G:=bAq code) ls.length (fun s:Int×lLk=>s.1) (fun i s=>(s.2.length<=i/\List.Sublist s.2 (ls.take i))/\ ∀ x∈s.2,aAu (as,ls) x=true) (fun r:lLk=>(r.length<=ls.length/\List.Sublist r ls)/\ ∀ x∈r,aAu (as,ls) x=true) ?_ ?_ 0 ((0:Int),[]) (by omega) rfl ⟨⟨by simp,List.nil_sublist _⟩,fun d hd=>(cB2 hd).elim⟩ ?_
 .rintro i ⟨_,l⟩ hi rfl ⟨⟨g1,g3⟩,g2⟩
  simp only at g1 g2 g3
  right
  have htk:ls.take (i+1)=ls.take i++[ls[i]]:=(List.take_append_getElem hi).symm
  simp only [zX (show (i:Int)<(ls.length:Int) by omega),zX (show (0:Int)<=(i:Int) by omega),zZ,cBo,cBe hi,aA,bCx (t:=(as,ls)) (show as.length<=68719476736 by omega),bL (show i<=1000000000 by omega)]
  rw [aE (b:=40) (n:=l.length) (m:=1) (by decide) (by omega),zZ]
  cases hv:aAu (as,ls) ls[i] with
  | true=>exact ⟨_,rfl,rfl,⟨by simp;omega,by rw [htk];exact g3.append (List.Sublist.refl _)⟩,fun x hx=>by
    rcases cBp.1 hx with hx | hx
    .exact g2 x hx
    .rw [cBn.1 hx];exact hv⟩
  | false=>exact ⟨_,rfl,rfl,⟨by show l.length<=i+1;omega,by rw [htk];exact g3.trans (List.sublist_append_left _ _)⟩,g2⟩
 .rintro ⟨_,l⟩ rfl ⟨⟨g1,g3⟩,g2⟩
  exact ⟨l,by simp only [zW (cBx _),zY],⟨g1,g3.trans (List.take_sublist _ _)⟩,g2⟩
 rintro l ⟨⟨g1,g3⟩,g2⟩
 exact ⟨as,l,c5,p5,h5,rfl,⟨by omega,by omega,by omega,g2,bSz (by omega) (by omega) d5 g2 (d6.pw.sublist g3)⟩,d4⟩
theorem aEj {s:den tSg} (h:s.2.2.length<=1000000): ∃ l,dJ s=some l/\l.length=s.2.2.length:=by
 unfold dJ
 refine cE (G:=fun o=> ∃ l,o=some l/\l.length=s.2.2.length) s.2.2.length (fun s:Int×List Int=>s.1) (fun i t=>t.2.length=i) (fun l:List Int=>l.length=s.2.2.length) ?_ ?_ 0 ((0:Int),[]) (by omega) rfl rfl (fun l hl=>⟨l,rfl,hl⟩)
 .rintro i ⟨_,l⟩ hi rfl h1
  simp only at h1
  right
  refine ⟨(((i+1:Nat):Int),l++[s.2.2[i].1]),?_,rfl,by simp [h1]⟩
  simp only [zX (show (i:Int)<(s.2.2.length:Int) by omega),zZ,aH,cBe hi,aA,aE (b:=8) (n:=l.length) (m:=1) (by decide) (by omega),bL (show i<=1000000000 by omega)]
 .rintro ⟨_,l⟩ rfl h1
  exact ⟨l,by simp only [zW (cBx _),zY],h1⟩
theorem bJh {s:den tSg} {n:Nat} (hn:n<=s.2.2.length) (h:s.2.2.length<=1000000): ∃ l,wN s (n:Int)=some l/\l.length=n:=by
 unfold wN zz4
 refine cE (G:=fun o=> ∃ l,o=some l/\l.length=n) n (fun s:Int×List Int=>s.1) (fun i t=>t.2.length=i) (fun l:List Int=>l.length=n) ?_ ?_ 0 ((0:Int),[]) (by omega) rfl rfl (fun l hl=>⟨l,rfl,hl⟩)
 .rintro i ⟨_,l⟩ hi rfl h1
  simp only at h1
  right
  have hi':i<s.2.2.length:=by omega
  refine ⟨(((i+1:Nat):Int),l++[s.2.2[i].2.2.2.2]),?_,rfl,by simp [h1]⟩
  simp only [zX (show (i:Int)<(n:Int) by omega),zZ,aH,cBe hi',aA,aE (b:=8) (n:=l.length) (m:=1) (by decide) (by omega),bL (show i<=1000000000 by omega)]
 .rintro ⟨_,l⟩ rfl h1
  exact ⟨l,by simp only [zW (cBx _),zY],h1⟩
theorem bKu {b:Int} {l:List Int} (h:l.length<=1000000): ∃ v,wU b l=some v:=by
 unfold wU
 refine cE (G:=fun o=> ∃ v,o=some v) l.length (fun s:Int×Int=>s.2) (fun i t=>True) (fun v:Int=>True) ?_ ?_ 0 (b,(0:Int)) (by omega) rfl trivial (fun v hv=>⟨v,rfl⟩)
 .rintro i ⟨v,_⟩ hi rfl _
  right
  refine ⟨(aO7 v l[i],((i+1:Nat):Int)),?_,rfl,trivial⟩
  simp only [zX (show (i:Int)<(l.length:Int) by omega),zZ,aH,cBe hi,aA,bAs,bL (show i<=1000000000 by omega)]
 .rintro ⟨v,_⟩ rfl _
  exact ⟨v,by simp only [zW (cBx _),zY],trivial⟩
theorem aCu {s:den tSg} (i:Int) (h:s.2.2.length<=1000000): ∃ v,iK s i=some v:=by
 unfold iK pj3
 rw [eR,aA]
 cases hc:inR i 0 (s.2.2.length:Int) with
 | false=>exact ⟨0,rfl⟩
 | true=>
  obtain ⟨h0,h1⟩:=bM.1 hc
  obtain ⟨n,rfl⟩:=cB7 h0
  obtain ⟨l,e,k⟩:=bJh (s:=s) (n:=n) (by omega) h
  obtain ⟨v,e2⟩:=bKu (b:=s.2.1) (l:=l) (by omega)
  refine ⟨v,?_⟩
  show Option.bind (wN s (n:Int)) _=_
  rw [e,aA,e2,aA]
theorem aZw (key ts b:Int) (h:den cM):fP key ts b h=some (h.1,h.2.1,h.2.2.1,h.2.2.2.1,aI2 key ts b h):=by
 unfold fP pj5
 rw [show ((h.1,h.2.1,h.2.2.1,h.2.2.2.1,h.2.2.2.2):den cM)=h from rfl,bJu,aA]
def cA8 (code:List Int) (o:Option (Int×Int×dP×List Int×q28)):Prop:= ∃ a b hs c' p' h',o=some (a,b,hs,c',p',h')/\hs.length<=5/\Cur code (c',p',h')
def aG3 (hs:dP):Prop:= ∀ x∈hs,(0:Int)<=x.1/\(8:Int)>x.1
def cAt (code:List Int) (o:Option (Int×Int×dP×List Int×q28)):Prop:= ∃ a b hs c' p' h',o=some (a,b,hs,c',p',h')/\(hs.length<=5/\aG3 hs)/\Cur code (c',p',h')
theorem aG3.snoc {hs:dP} {x:den cM} (h:aG3 hs) (hx:(0:Int)<=x.1/\(8:Int)>x.1):aG3 (hs++[x]):=fun y hy=>(cBp.1 hy).elim (h y) fun hy=>by rw [cBn.1 hy];exact hx
def InN (n:Int) (hs:dP):Prop:= ∀ x∈hs,(0:Int)<=x.1/\n>x.1
def bMz (n:Int) (code:List Int) (o:Option (Int×Int×dP×List Int×q28)):Prop:= ∃ a b hs c' p' h',o=some (a,b,hs,c',p',h')/\(hs.length<=5/\InN n hs)/\Cur code (c',p',h')
theorem InN.snoc {n:Int} {hs:dP} {x:den cM} (h:InN n hs) (hx:(0:Int)<=x.1/\n>x.1):InN n (hs++[x]):=fun y hy=>(cBp.1 hy).elim (h y) fun hy=>by rw [cBn.1 hy];exact hx
theorem InN.as {n:Int} {hs:dP} (h:InN n hs) (hn:n<=8):aG3 hs:=fun x hx=>⟨(h x hx).1,by have :=(h x hx).2;omega⟩
abbrev GrS:=Int×Int×Int×Int×Int×dP×List Int×Int×Int
theorem bCp {code:List Int} (hl:code.length<=1048576) {as:lAS} {ls:lLk} (ht:aAo as ls) (k:Int) {c:List Int} {p h:Int} (hc:Cur code (c,p,h)):bMz (as.length:Int) code (kI (c,p,h) (as,ls) k):=by
 have hlen:=ht.len
 have hlk:=ht.links
 unfold kI dd ixb one pj2 pj3 pj5 pj6 zz4 zz5 zz6
 simp only [aS,bI,aZ,bA,bD]
 refine cE (G:=bMz (as.length:Int) code) as.length (fun s:Int×List Int=>s.1) (fun i t=>t.2.length<=i/\ ∀ x∈t.2,0<=x/\x<(as.length:Int)) (fun r:List Int=>r.length<=8/\ ∀ x∈r,0<=x/\x<(as.length:Int)) ?_ ?_ 0 ((0:Int),[]) (by omega) rfl ⟨by simp,fun d hd=>(cB2 hd).elim⟩ ?_
 .rintro i ⟨_,l⟩ hi rfl ⟨g1,g2⟩
  simp only at g1 g2
  right
  simp only [zX (show (i:Int)<(as.length:Int) by omega),zZ,aH,cBe hi,aA,aE (b:=8) (n:=l.length) (m:=1) (by decide) (by omega),bL (show i<=1000000000 by omega)]
  cases as[i].2.1 with
  | true=>exact ⟨_,rfl,rfl,by simp;omega,fun x hx=>by
    rcases cBp.1 hx with hx | hx
    .exact g2 x hx
    .rw [cBn.1 hx];omega⟩
  | false=>exact ⟨_,rfl,rfl,by show l.length<=i+1;omega,g2⟩
 .rintro ⟨_,l⟩ rfl ⟨g1,g2⟩
  exact ⟨l,by simp only [zW (cBx _),zY],by simp only at g1;omega,g2⟩
 rintro cores ⟨g1,g2⟩
 obtain ⟨v1,c1,p1,h1,e1,r1,k1⟩:=aK hl (n:=50) (by decide) (by decide) hc
 obtain ⟨v2,c2,p2,h2,e2,r2,k2⟩:=aH3 hl (n:=1000000) (by decide) k1
 simp only [e1,e2,aA]
 by_cases h0:cores.length=0
 .rw [show ((cores.length:Int)==0)=true by rw [beq_iff_eq];omega,zZ]
  exact ⟨_,_,_,_,_,_,rfl,⟨by simp,fun x hx=>(cB2 hx).elim⟩,k2⟩
 rw [show ((cores.length:Int)==0)=false by rw [beq_eq_false_iff_ne];omega,zY]
 obtain ⟨v3,c3,p3,h3,e3,r3,k3⟩:=aK hl (n:=(cores.length:Int)) (by omega) (by omega) k2
 obtain ⟨m3,rfl⟩:=cB7 r3.1
 have hm3:m3<cores.length:=by omega
 have hr:=g2 cores[m3] (cBt hm3)
 simp only [e3,aA,zX (show (0:Int)<=(m3:Int) by omega),zX (show (m3:Int)<(cores.length:Int) by omega),zZ,cBo,cBe hm3]
 generalize cores[m3]=r at hr
 refine cE (G:=bMz (as.length:Int) code) 5 (fun s:GrS=>s.2.2.1) (fun i s=>(0<=s.1/\s.1<(as.length:Int))/\(s.2.2.2.2.2.1.length=i/\InN (as.length:Int) s.2.2.2.2.2.1)/\Cur code s.2.2.2.2.2.2) (fun z:((Int×Int×dP×List Int×q28)⊕(Int×Int×dP×List Int×q28))=> ∃ a b hs c p h,(z= .inl (a,b,hs,c,p,h)\/z= .inr (a,b,hs,c,p,h))/\(hs.length<=5/\InN (as.length:Int) hs)/\Cur code (c,p,h)) ?_ ?_ 0 (r,(0:Int),(0:Int),v1,v2,[],c3,p3,h3) (by omega) rfl ⟨hr,⟨rfl,fun x hx=>(cB2 hx).elim⟩,k3⟩ ?_
 .rintro i ⟨r,inn,_,ts,be,hs,c4,p4,h4⟩ hi rfl ⟨b1,⟨b2,b2'⟩,b3⟩
  simp only at b1 b2 b2' b3
  obtain ⟨rn,rfl⟩:=cB7 b1.1
  have hrn:rn<as.length:=by omega
  obtain ⟨ds,ek,dl,dm⟩:=bI4 (t:=(as,ls)) (r:=(rn:Int)) (k:=k) (by show ls.length<=_;omega)
  have dl:ds.length<=2 * ls.length:=dl
  have hout: ∃ out c5 p5 h5,(Option.bind (cond (decide ((ds.length:Int)>(0:Int))) (Option.bind (dL (c4,p4,h4) (5:Int)) fun y35=>some (!y35.1,y35.2.1,y35.2.2.1,y35.2.2.2)) (some (false,c4,p4,h4))) fun (s36:Bool×List Int×q28)=>cond s36.1 (Option.bind (aB (s36.2.1,s36.2.2.1,s36.2.2.2) (ds.length:Int)) fun y37=>cond (decide ((0:Int)<=y37.1)) (cond (decide (y37.1<(ds.length:Int))) (Option.bind ds[y37.1.toNat]? fun x38=>some (x38,y37.2.1,y37.2.2.1,y37.2.2.2)) none) none) (some ((0:Int),s36.2.1,s36.2.2.1,s36.2.2.2)):Option (Int×List Int×q28))=some (out,c5,p5,h5)/\(out=0\/out∈gT (as,ls) (rn:Int))/\Cur code (c5,p5,h5):=by
   by_cases hd:(ds.length:Int)>0
   .obtain ⟨v5,c5,p5,h5,e5,k5⟩:=sV hl (n:=5) (by decide) (by decide) b3
    simp only [zX hd,zZ,e5,aA]
    cases v5 with
    | true=>exact ⟨0,c5,p5,h5,rfl,.inl rfl,k5⟩
    | false=>
     obtain ⟨v6,c6,p6,h6,e6,r6,k6⟩:=aK hl (n:=(ds.length:Int)) hd (by omega) k5
     obtain ⟨m6,rfl⟩:=cB7 r6.1
     have hm6:m6<ds.length:=by omega
     exact ⟨ds[m6],c6,p6,h6,by simp only [cBq,zZ,e6,aA,zX (show (0:Int)<=(m6:Int) by omega),zX (show (m6:Int)<(ds.length:Int) by omega),cBo,cBe hm6],.inr (dm _ (cBt hm6)),k6⟩
   .exact ⟨0,c4,p4,h4,by simp only [zW hd,zY,aA],.inl rfl,b3⟩
  obtain ⟨out,c5,p5,h5,eo,ho,k5⟩:=hout
  obtain ⟨al,ea,hal⟩:=aEj (s:=(ts,be,hs)) (by show hs.length<=_;omega)
  have hal:al.length=hs.length:=hal
  have er:=aEs (t:=(as,ls)) (r:=(rn:Int)) (d:=out) (show ls.length<=68719476736 by omega)
  have hfar:out∈gT (as,ls) (rn:Int)->0<=(remote (as,ls) (rn:Int) out).1/\(remote (as,ls) (rn:Int) out).1<(as.length:Int):=fun hd=>by
   have :=bLx (t:=(as,ls)) ht.val hd
   unfold cU at this
   obtain ⟨h0,h1⟩:=bM.1 this
   exact ⟨h0,by simp only at h1;omega⟩
  generalize remote (as,ls) (rn:Int) out=fd at er hfar
  obtain ⟨far,door⟩:=fd
  simp only at hfar
  obtain ⟨bb,eb⟩: ∃ b:Bool,(cond (out != (0:Int)) (Option.bind (dJ (ts,be,hs)) fun y41=>Option.bind (fZ y41 far) fun y42=>cond y42 (some true) (cond (far==(rn:Int)) (some true) (some (inn==out)))) (some (inn==out)))=some b:=by
   rw [ea,aA,aHi (by omega),aA]
   cases out != 0<;>cases tJ al far<;>cases far==(rn:Int)<;>exact ⟨_,rfl⟩
  obtain ⟨v6,c6,p6,h6,e6,r6,k6⟩:=aK hl (n:=50) (by decide) (by decide) k5
  obtain ⟨bt,et⟩:=aCu (s:=(ts,be,hs)) (hs.length:Int) (by show hs.length<=_;omega)
  have ix:as[rn]? =some as[rn]:=cBe hrn
  have hap:aM 40 hs.length 1=true:=aE (by decide) (by omega)
  simp only [zX (show (i:Int)<5 by omega),zZ,ek,aA]
  rw [eo,aA]
  simp only [er,aA]
  rw [eb,aA]
  have body: ∀ o:Int,o=0\/o=out->(∃ r,(cond (o==(0:Int)) (some (cBc (cBc (ts,be,hs++[(((rn:Int),inn,o,wr ((wr (ts+(50:Int)))+v6),aI2 as[rn].2.2 ts bt ((rn:Int),inn,o,wr ((wr (ts+(50:Int)))+v6),0)):den cM)],c6,p6,h6)))) (some (cBd (far,door,wr ((i:Int)+(1:Int)),ts,be,hs++[(((rn:Int),inn,o,wr ((wr (ts+(50:Int)))+v6),aI2 as[rn].2.2 ts bt ((rn:Int),inn,o,wr ((wr (ts+(50:Int)))+v6),0)):den cM)],c6,p6,h6))):Option (GrS⊕((Int×Int×dP×List Int×q28)⊕(Int×Int×dP×List Int×q28))))=some (.inr r)/\(∃ a b hs c p h,(r= .inl (a,b,hs,c,p,h)\/r= .inr (a,b,hs,c,p,h))/\(hs.length<=5/\InN (as.length:Int) hs)/\Cur code (c,p,h)))\/
    ∃ s':GrS,(cond (o==(0:Int)) (some (cBc (cBc (ts,be,hs++[(((rn:Int),inn,o,wr ((wr (ts+(50:Int)))+v6),aI2 as[rn].2.2 ts bt ((rn:Int),inn,o,wr ((wr (ts+(50:Int)))+v6),0)):den cM)],c6,p6,h6)))) (some (cBd (far,door,wr ((i:Int)+(1:Int)),ts,be,hs++[(((rn:Int),inn,o,wr ((wr (ts+(50:Int)))+v6),aI2 as[rn].2.2 ts bt ((rn:Int),inn,o,wr ((wr (ts+(50:Int)))+v6),0)):den cM)],c6,p6,h6))):Option (GrS⊕((Int×Int×dP×List Int×q28)⊕(Int×Int×dP×List Int×q28))))=some (.inl s')/\s'.2.2.1=((i+1:Nat):Int)/\(0<=s'.1/\s'.1<(as.length:Int))/\(s'.2.2.2.2.2.1.length=i+1/\InN (as.length:Int) s'.2.2.2.2.2.1)/\Cur code s'.2.2.2.2.2.2:=by
   intro o hoo
   cases hz:(o==(0:Int)) with
   | true=>exact .inl ⟨_,rfl,ts,be,_,c6,p6,h6,.inr rfl,⟨by simp;omega,b2'.snoc ⟨by simp only;omega,by simp only;omega⟩⟩,k6⟩
   | false=>
    refine .inr ⟨_,rfl,bL (show i<=1000000000 by omega),?_,⟨by simp [b2],b2'.snoc ⟨by simp only;omega,by simp only;omega⟩⟩,k6⟩
    have hne:o≠0:=by simpa using hz
    rcases hoo with h | rfl
    .exact absurd h hne
    .rcases ho with h | h
     .exact absurd h hne
     .exact hfar h
  cases bb with
  | true=>
   cases inn==(0:Int) with
   | true=>exact .inl ⟨_,rfl,ts,be,hs,c5,p5,h5,.inr rfl,⟨by omega,b2'⟩,k5⟩
   | false=>
    have :=body 0 (.inl rfl)
    simpa only [zZ,zY,aA,cCj,e6,aH,ix,et,aZw,hap] using this
  | false=>
   have :=body out (.inr rfl)
   simpa only [zZ,zY,aA,cCj,e6,aH,ix,et,aZw,hap] using this
 .rintro ⟨r,inn,_,ts,be,hs,c4,p4,h4⟩ rfl ⟨b1,⟨b2,b2'⟩,b3⟩
  simp only at b1 b2 b2' b3
  exact ⟨.inl (ts,be,hs,c4,p4,h4),by simp only [show decide ((((5:Nat):Int))<(5:Int))=false from rfl,zY],ts,be,hs,c4,p4,h4,.inl rfl,⟨by omega,b2'⟩,b3⟩
 .rintro z ⟨a,b,hs,c,p,h,hz,h5,k5⟩
  rcases hz with rfl | rfl
  .exact ⟨a,b,hs,c,p,h,rfl,h5,k5⟩
  .exact ⟨a,b,hs,c,p,h,rfl,h5,k5⟩
theorem bU4 {code:List Int} (hl:code.length<=1048576) {as:lAS} {ls:lLk} (ht:aAo as ls) (k:Int) {c:List Int} {p h:Int} (hc:Cur code (c,p,h)):cAt code (kI (c,p,h) (as,ls) k):=by
 obtain ⟨a,b,hs,c1,p1,h1,e,⟨l,m⟩,k1⟩:=bCp hl ht k hc
 exact ⟨a,b,hs,c1,p1,h1,e,⟨l,m.as (by have :=ht.len;omega)⟩,k1⟩
theorem aHe {code:List Int} (hl:code.length<=1048576) {as:lAS} {ls:lLk} (ht:aAo as ls) (k:Int) {c:List Int} {p h:Int} (hc:Cur code (c,p,h)):cA8 code (kI (c,p,h) (as,ls) k):=by
 obtain ⟨a,b,hs,c1,p1,h1,e,⟨l,_⟩,k1⟩:=bU4 hl ht k hc
 exact ⟨a,b,hs,c1,p1,h1,e,l,k1⟩
theorem bBy {as:lAS} {ls:lLk} (ht:aAo as ls) {s:den tSg} (h:s.2.2.length<=1000): ∃ b,jQ (as,ls) s=some b/\(b=true-> ∃ x,s.2.2[0]? =some x/\cU (as,ls) x.1=true):=by
 obtain ⟨al,ea,hal⟩:=aEj (s:=s) (by omega)
 have hlen:=ht.len
 have hlk:=ht.links
 unfold jQ pj2 pj3 pj5
 rw [eR,aA]
 cases hc:inR (s.2.2.length:Int) 1 8 with
 | false=>exact ⟨false,rfl,fun e=>by cases e⟩
 | true=>
  obtain ⟨h0,h1⟩:=bM.1 hc
  have h00:0<s.2.2.length:=by omega
  have i0:idx s.2.2 (0:Int)=some s.2.2[0]:=by rw [show (0:Int)=((0:Nat):Int) from rfl,aH,cBe h00]
  simp only [cBh,zY,i0,aA]
  cases s.2.2[0].2.1 != (0:Int) with
  | true=>exact ⟨false,rfl,fun e=>by cases e⟩
  | false=>
   simp only [zY]
   rw [show ((s.1,s.2.1,s.2.2):den tSg)=s from rfl,ea,aA]
   refine cE (G:=fun o=> ∃ b,o=some b/\(b=true-> ∃ x,s.2.2[0]? =some x/\cU (as,ls) x.1=true)) s.2.2.length (fun s:List Int×Int=>s.2) (fun i t=>t.1=al/\(0<i->cU (as,ls) s.2.2[0].1=true)) (fun r:Unit⊕Bool=>r= .inl ()/\cU (as,ls) s.2.2[0].1=true\/r= .inr false) ?_ ?_ 0 (al,(0:Int)) (by omega) rfl ⟨rfl,fun h=>by omega⟩ ?_
   .rintro i ⟨_,_⟩ hi rfl ⟨rfl,g2⟩
    rename_i al
    have ix:idx s.2.2 (i:Int)=some s.2.2[i]:=by rw [aH,cBe hi]
    simp only [zX (show (i:Int)<(s.2.2.length:Int) by omega),zZ,ix,aA]
    rw [show ((s.2.2[i].1,s.2.2[i].2.1,s.2.2[i].2.2.1,s.2.2[i].2.2.2.1,s.2.2[i].2.2.2.2):den cM)=s.2.2[i] from rfl,aJ4,aA,aCa (t:=(as,ls)) (show as.length<=_ by omega),aA]
    have e1:cC (0:Int) (i:Int) (al.length:Int)=true:=yV (by rw [hal];exact hi)
    have e2:fZ (cut al (0:Int) (i:Int)) s.2.2[i].1=some (tJ (cut al (0:Int) (i:Int)) s.2.2[i].1):=aHi (by rw [iE];exact cBf (List.length_take_le _ _) (by omega))
    obtain ⟨b,eb,hb⟩: ∃ b:Bool,(cond (!(kK s.2.2[i])) (some true) (cond (!(cU (as,ls) s.2.2[i].1)) (some true) (cond (cC (0:Int) (i:Int) (al.length:Int)) (Option.bind (fZ (cut al (0:Int) (i:Int)) s.2.2[i].1) fun y20=>cond y20 (some true) (cond (s.2.2[i].2.2.1==(0:Int)) (some (decide ((i:Int)<(wr ((s.2.2.length:Int) - (1:Int)))))) (some false))) none)))=some b/\(b=false->cU (as,ls) s.2.2[i].1=true):=by
     rw [e1,e2,aA]
     cases kK s.2.2[i]
     .exact ⟨true,rfl,fun e=>by cases e⟩
     .cases cU (as,ls) s.2.2[i].1
      .exact ⟨true,rfl,fun e=>by cases e⟩
      .cases tJ (cut al (0:Int) (i:Int)) s.2.2[i].1
       .cases s.2.2[i].2.2.1==(0:Int)
        .exact ⟨false,rfl,fun _=>rfl⟩
        .exact ⟨_,rfl,fun _=>rfl⟩
       .exact ⟨true,rfl,fun _=>rfl⟩
    rw [eb,aA]
    cases b with
    | true=>exact .inl ⟨.inr false,rfl,.inr rfl⟩
    | false=>
     have hok:=hb rfl
     by_cases hp:i=0
     .subst hp
      refine .inr ⟨(al,((1:Nat):Int)),?_,rfl,rfl,fun _=>hok⟩
      rfl
     .have hi1:i - 1<s.2.2.length:=by omega
      have w1:wr ((i:Int) - 1)=((i - 1:Nat):Int):=by rw [bX (by omega) (by omega)];omega
      have er:=aEs (t:=(as,ls)) (r:=s.2.2[i - 1].1) (d:=s.2.2[i - 1].2.2.1) (show ls.length<=68719476736 by omega)
      simp only [zY,zX (show (i:Int)>0 by omega),zZ,w1,aH,cBe hi1,aA,er]
      obtain ⟨b2,eb2⟩: ∃ b:Bool,(cond ((remote (as,ls) s.2.2[i - 1].1 s.2.2[i - 1].2.2.1).1 != s.2.2[i].1) (some true) (some ((remote (as,ls) s.2.2[i - 1].1 s.2.2[i - 1].2.2.1).2 != s.2.2[i].2.1)))=some b:=by
       cases (remote (as,ls) s.2.2[i - 1].1 s.2.2[i - 1].2.2.1).1 != s.2.2[i].1<;>exact ⟨_,rfl⟩
      rw [eb2,aA]
      cases b2 with
      | true=>exact .inl ⟨.inr false,rfl,.inr rfl⟩
      | false=>
       refine .inr ⟨(al,((i+1:Nat):Int)),?_,rfl,rfl,fun _=>g2 (by omega)⟩
       simp only [zY,aA,cCj,bL (show i<=1000000000 by omega)]
   .rintro ⟨_,_⟩ rfl ⟨rfl,g2⟩
    exact ⟨.inl (),by simp only [zW (cBx _),zY],.inl ⟨rfl,g2 h00⟩⟩
   .rintro r (⟨rfl,hr⟩ | rfl)
    .exact ⟨true,rfl,fun _=>⟨s.2.2[0],cBe h00,hr⟩⟩
    .exact ⟨false,rfl,fun e=>by cases e⟩
theorem bT3 {as:lAS} {ls:lLk} (ht:aAo as ls) {s:den tSg} (h:s.2.2.length<=1000): ∃ v,hU (as,ls) s=some v:=by
 have hlen:=ht.len
 unfold hU pj2 pj3 pj5
 refine cE (G:=fun o=> ∃ b,o=some b) s.2.2.length (fun s:Int=>s) (fun i t=>True) (fun r:Unit⊕Int=>True) ?_ ?_ 0 (0:Int) (by omega) rfl trivial ?_
 .rintro i _ hi rfl _
  obtain ⟨bt,et⟩:=aCu (s:=s) (i:Int) (by omega)
  have et:iK (s.1,s.2.1,s.2.2) (i:Int)=some bt:=et
  have ev:=aX6 (t:=(as,ls)) (ts:=s.1) (beta:=bt) (h:=s.2.2[i]) (show as.length<=68719476736 by omega)
  have ev:gR (as,ls) s.1 bt (s.2.2[i].1,s.2.2[i].2.1,s.2.2[i].2.2.1,s.2.2[i].2.2.2.1,s.2.2[i].2.2.2.2)=some _:=ev
  simp only [zX (show (i:Int)<(s.2.2.length:Int) by omega),zZ,aH,cBe hi,aA,et,ev,bL (show i<=1000000000 by omega)]
  cases aEg (as,ls) s.1 bt s.2.2[i] with
  | true=>exact .inr ⟨_,rfl,rfl,trivial⟩
  | false=>exact .inl ⟨_,rfl,trivial⟩
 .rintro _ rfl _
  exact ⟨.inl (),by simp only [zW (cBx _),zY],trivial⟩
 .rintro r _
  cases r with
  | inl u=>exact ⟨_,rfl⟩
  | inr v=>exact ⟨_,rfl⟩
theorem aUy {as:lAS} {ls:lLk} (ht:aAo as ls) {s:den tSg} (h:s.2.2.length<=1000): ∃ v,iC (as,ls) s=some v:=by
 have hlen:=ht.len
 have hlk:=ht.links
 obtain ⟨b,eb,hb⟩:=bBy ht h
 unfold iC pj2 pj3
 have eb:jQ (as,ls) (s.1,s.2.1,s.2.2)=some b:=eb
 rw [eb,aA]
 cases b with
 | false=>exact ⟨0,rfl⟩
 | true=>
  obtain ⟨x,hx,hok⟩:=hb rfl
  obtain ⟨h0,rfl⟩:=cBm.1 hx
  obtain ⟨y,hy,iy⟩:=aGa hok
  have ef:cR (s.1,s.2.1,s.2.2)=some s.2.2[0].1:=by
   unfold cR
   rw [show ((s.2.2.length:Int)==0)=false by rw [beq_eq_false_iff_ne];omega,zY,show (0:Int)=((0:Nat):Int) from rfl,aH,cBe h0,aA]
  have iy:idx as s.2.2[0].1=some y:=iy
  simp only [cBh,zY,ef,iy,aA]
  cases y.2.1 with
  | false=>exact ⟨0,rfl⟩
  | true=>
   simp only [cBh,zY]
   refine cE (G:=fun o=> ∃ b,o=some b) s.2.2.length (fun s:Int×Int=>s.2) (fun i t=>True) (fun r:Int⊕Int=>True) ?_ ?_ 0 ((0:Int),(0:Int)) (by omega) rfl trivial ?_
   .rintro i ⟨k,_⟩ hi rfl _
    have ek:=aTx (t:=(as,ls)) (r:=s.2.2[i].1) (d:=s.2.2[i].2.2.1) (show ls.length<=68719476736 by omega)
    simp only [zX (show (i:Int)<(s.2.2.length:Int) by omega),zZ,aH,cBe hi,aA,ek,bL (show i<=1000000000 by omega)]
    cases s.2.2[i].2.2.1==(0:Int) with
    | true=>exact .inr ⟨_,rfl,rfl,trivial⟩
    | false=>
     cases k != (0:Int) with
     | false=>exact .inr ⟨_,rfl,rfl,trivial⟩
     | true=>
      simp only [zZ,zY,aA]
      cases aCm (as,ls) s.2.2[i].1 s.2.2[i].2.2.1 != k with
      | true=>exact .inl ⟨_,rfl,trivial⟩
      | false=>exact .inr ⟨_,rfl,rfl,trivial⟩
   .rintro ⟨k,_⟩ rfl _
    exact ⟨.inl k,by simp only [zW (cBx _),zY],trivial⟩
   .rintro r _
    cases r with
    | inr v=>exact ⟨_,rfl⟩
    | inl v=>
     simp only [cCj]
     cases v==(1:Int)
     .cases v==(2:Int)<;>exact ⟨_,rfl⟩
     .exact ⟨_,rfl⟩
theorem bF2 {as:lAS} {ls:lLk} (ht:aAo as ls) {s:den tSg} (h:s.2.2.length<=1000): ∃ b,mL (as,ls) s=some b/\(b=true->s.2.2≠[]):=by
 obtain ⟨b,eb,hb⟩:=bBy ht h
 have hb:b=true->s.2.2≠[]:=fun e he=>by
  obtain ⟨x,hx,_⟩:=hb e
  rw [he] at hx
  cases hx
 obtain ⟨v,ev⟩:=bT3 ht h
 obtain ⟨k,ek⟩:=aUy ht h
 have eb:jQ (as,ls) (s.1,s.2.1,s.2.2)=some b:=eb
 have ev:hU (as,ls) (s.1,s.2.1,s.2.2)=some v:=ev
 have ek:iC (as,ls) (s.1,s.2.1,s.2.2)=some k:=ek
 unfold mL pj2 pj3
 simp only [eb,ev,ek,eR,aEi,aA]
 cases b
 .exact ⟨_,rfl,fun e=>Bool.noConfusion e⟩
 .have hb:=hb rfl
  cases decide (v<0)
  .exact ⟨_,rfl,fun _=>hb⟩
  .cases k != (0:Int)
   .exact ⟨_,rfl,fun _=>hb⟩
   .cases inR s.1 0 1000000<;>exact ⟨_,rfl,fun _=>hb⟩
theorem bMk {s:den tSg} (h:s.2.2.length<=1000): ∃ b,mF s=some b:=by
 unfold mF
 by_cases h0:(s.2.2.length:Int)>0
 .have w1:wr ((s.2.2.length:Int) - 1)=((s.2.2.length - 1:Nat):Int):=by rw [bX (by omega) (by omega)];omega
  rw [zX h0,zZ,w1,aH,cBe (by omega),aA,aA]
  exact ⟨_,rfl⟩
 .rw [zW h0,zY]
  exact ⟨_,rfl⟩
theorem aRj {a b:dP} (h:a.length<=1000000): ∃ v,jR a b=some v:=by
 unfold jR zz4
 by_cases hn:a.length=b.length
 .rw [hn,bne_self_eq_false,zY,<- hn]
  refine cE (G:=fun o=> ∃ b,o=some b) a.length (fun s:Int=>s) (fun i t=>True) (fun r:Unit⊕Bool=>True) ?_ ?_ 0 (0:Int) (by omega) rfl trivial ?_
  .rintro i _ hi rfl _
   have h2:i<b.length:=by omega
   simp only [zX (show (i:Int)<(a.length:Int) by omega),zZ,aH,cBe hi,cBe h2,aA,bL (show i<=1000000000 by omega)]
   cases ((a[i].1==b[i].1)&&((a[i].2.1==b[i].2.1)&&((a[i].2.2.1==b[i].2.2.1)&&((a[i].2.2.2.1==b[i].2.2.2.1)&&((a[i].2.2.2.2==b[i].2.2.2.2)&&true))))) with
   | true=>exact .inr ⟨_,rfl,rfl,trivial⟩
   | false=>exact .inl ⟨_,rfl,trivial⟩
  .rintro _ rfl _
   exact ⟨.inl (),by simp only [zW (cBx _),zY],trivial⟩
  .rintro r _
   cases r with
   | inl u=>exact ⟨_,rfl⟩
   | inr v=>exact ⟨_,rfl⟩
 .rw [show ((a.length:Int) != (b.length:Int))=true by rw [bne_iff_ne];omega,zZ]
  exact ⟨_,rfl⟩
theorem bJz {a b:den tSg} (h:a.2.2.length<=1000000): ∃ v,kN a b=some v:=by
 obtain ⟨v,e⟩:=aRj (b:=b.2.2) h
 unfold kN
 rw [e,aA]
 cases a.1==b.1
 .exact ⟨_,rfl⟩
 .cases a.2.1==b.2.1<;>exact ⟨_,rfl⟩
theorem aZ0 {l:lSg} {s:den tSg} (hl:l.length<=1000000) (h: ∀ x∈l,x.2.2.length<=1000): ∃ v,uZ l s=some v:=by
 unfold uZ pj3
 refine cE (G:=fun o=> ∃ b,o=some b) l.length (fun s:Int=>s) (fun i t=>True) (fun r:Unit⊕Bool=>True) ?_ ?_ 0 (0:Int) (by omega) rfl trivial ?_
 .rintro i _ hi rfl _
  obtain ⟨v,e⟩:=bJz (a:=l[i]) (b:=s) (by have :=h l[i] (cBt hi);omega)
  have e:kN (l[i].1,l[i].2.1,l[i].2.2) (s.1,s.2.1,s.2.2)=some v:=e
  simp only [zX (show (i:Int)<(l.length:Int) by omega),zZ,aH,cBe hi,aA,e,bL (show i<=1000000000 by omega)]
  cases v with
  | false=>exact .inr ⟨_,rfl,rfl,trivial⟩
  | true=>exact .inl ⟨_,rfl,trivial⟩
 .rintro _ rfl _
  exact ⟨.inl (),by simp only [zW (cBx _),zY],trivial⟩
 .rintro r _
  cases r with
  | inl u=>exact ⟨_,rfl⟩
  | inr v=>exact ⟨_,rfl⟩
structure DbD (n:Nat) (d c:lSg):Prop where
 down:d.length<=n
 core:c.length<=n
 hd: ∀ x∈d,x.2.2.length<=5
 hc: ∀ x∈c,x.2.2.length<=5
 ha: ∀ x∈d,x.2.2≠[]/\aG3 x.2.2
theorem aOh {l:lSg} {n:Nat} (hn:n<=1000) (h:l.length<=n) (hh: ∀ x∈l,x.2.2.length<=5):SmB 68719476736 (.sl tSg) l:=by
 refine ⟨by omega,fun x hx=>⟨trivial,trivial,?_,fun e he=>⟨trivial,trivial,trivial,trivial,trivial⟩⟩⟩
 have :=hh x hx
 show x.2.2.length<=_
 omega
theorem bMd {as:lAS} {ls:lLk} (ht:aAo as ls) {n:Nat} (hn:n<=100) {d c:lSg} (hk:DbD n d c) {s:den tSg} (h:s.2.2.length<=5) (ha:aG3 s.2.2): ∃ d' c',pH (as,ls) (d,c) s=some (d',c')/\DbD (n+1) d' c':=by
 obtain ⟨b1,e1,hb1⟩:=bF2 ht (s:=s) (by omega)
 obtain ⟨b2,e2⟩:=bMk (s:=s) (by omega)
 obtain ⟨b3,e3⟩:=aZ0 (l:=d) (s:=s) (by have :=hk.down;omega) (fun x hx=>by have :=hk.hd x hx;omega)
 obtain ⟨b4,e4⟩:=aZ0 (l:=c) (s:=s) (by have :=hk.core;omega) (fun x hx=>by have :=hk.hc x hx;omega)
 obtain ⟨k,ek⟩:=aUy ht (s:=s) (by omega)
 have c1:=aEb (aOh (by omega) hk.down hk.hd)
 have c2:=aEb (aOh (by omega) hk.core hk.hc)
 have c3:=aGs (x:=s) (by omega)
 have e5: ∃ b,pG (d,c) s=some b:=by
  unfold pG pj3
  have e3:uZ d (s.1,s.2.1,s.2.2)=some b3:=e3
  have e4:uZ c (s.1,s.2.1,s.2.2)=some b4:=e4
  simp only [e3,e4,aA]
  cases b3<;>exact ⟨_,rfl⟩
 obtain ⟨b5,e5⟩:=e5
 have hdn:=hk.down
 have hcn:=hk.core
 have e1:mL (as,ls) (s.1,s.2.1,s.2.2)=some b1:=e1
 have e2:mF (s.1,s.2.1,s.2.2)=some b2:=e2
 have e5:pG (d,c) (s.1,s.2.1,s.2.2)=some b5:=e5
 have ek:iC (as,ls) (s.1,s.2.1,s.2.2)=some k:=ek
 have c3:gQ (s.1,s.2.1,s.2.2)=some s:=c3
 have same:DbD (n+1) d c:=⟨by omega,by omega,hk.hd,hk.hc,hk.ha⟩
 unfold pH pj2 pj3
 simp only [c1,c2,aA,aS,bI,aZ,bA,bD,e1,e2,e5,ek,c3,aE (b:=40) (n:=d.length) (m:=1) (by decide) (by omega),aE (b:=40) (n:=c.length) (m:=1) (by decide) (by omega),zZ]
 obtain ⟨b6,e6,hb6⟩: ∃ b:Bool,(cond (!b1) (some true) (cond (!b2) (some true) (some b5)))=some b/\(b=false->b1=true):=by
  cases b1
  .exact ⟨_,rfl,fun e=>Bool.noConfusion e⟩
  .cases b2<;>exact ⟨_,rfl,fun _=>rfl⟩
 rw [e6,aA]
 cases b6 with
 | true=>exact ⟨d,c,rfl,same⟩
 | false=>
  have hne:=hb1 (hb6 rfl)
  cases k==(2:Int) with
  | true=>exact ⟨_,_,rfl,by simp;omega,by simp only;omega,fun x hx=>(cBp.1 hx).elim (hk.hd x) fun hx=>by rw [cBn.1 hx];exact h,hk.hc,fun x hx=>(cBp.1 hx).elim (hk.ha x) fun hx=>by rw [cBn.1 hx];exact ⟨hne,ha⟩⟩
  | false=>exact ⟨_,_,rfl,by simp only;omega,by simp;omega,hk.hd,fun x hx=>(cBp.1 hx).elim (hk.hc x) fun hx=>by rw [cBn.1 hx];exact h,hk.ha⟩
theorem DbD.mono {n m:Nat} {d c:lSg} (h:DbD n d c) (hm:n<=m):DbD m d c:=⟨cBf h.down hm,cBf h.core hm,h.hd,h.hc,h.ha⟩
theorem aVo {s:den tSg} (h:s.2.2.length<=1000): ∃ v,eW s=some v:=by
 unfold eW
 by_cases h0:s.2.2.length=0
 .rw [show ((s.2.2.length:Int)==0)=true by rw [beq_iff_eq];omega,zZ]
  exact ⟨_,rfl⟩
 .have w1:wr ((s.2.2.length:Int) - 1)=((s.2.2.length - 1:Nat):Int):=by rw [bX (by omega) (by omega)];omega
  rw [show ((s.2.2.length:Int)==0)=false by rw [beq_eq_false_iff_ne];omega,zY,w1,aH,cBe (by omega),aA]
  exact ⟨_,rfl⟩
theorem bPw {s:den tSg} (h:s.2.2.length<=1000) (h0:s.2.2≠[]) (ha:aG3 s.2.2): ∃ v,eW s=some v/\0<=v/\v<8:=by
 have hl:=List.length_pos_iff.2 h0
 unfold eW
 have w1:wr ((s.2.2.length:Int) - 1)=((s.2.2.length - 1:Nat):Int):=by rw [bX (by omega) (by omega)];omega
 rw [show ((s.2.2.length:Int)==0)=false by rw [beq_eq_false_iff_ne];omega,zY,w1,aH,cBe (by omega),aA]
 have :=ha _ (cBt (show s.2.2.length - 1<s.2.2.length by omega))
 exact ⟨_,rfl,this.1,this.2⟩
theorem aK0 {s:den tSg}: ∃ v,cR s=some v:=by
 unfold cR
 by_cases h0:s.2.2.length=0
 .rw [show ((s.2.2.length:Int)==0)=true by rw [beq_iff_eq];omega,zZ]
  exact ⟨_,rfl⟩
 .rw [show ((s.2.2.length:Int)==0)=false by rw [beq_eq_false_iff_ne];omega,zY,show (0:Int)=((0:Nat):Int) from rfl,aH,cBe (by omega),aA]
  exact ⟨_,rfl⟩
theorem aZ8 {code:List Int} (hl:code.length<=1048576) {d:lSg} (hd:d.length<=200) (h5: ∀ x∈d,x.2.2.length<=5) (ha: ∀ x∈d,x.2.2≠[]/\aG3 x.2.2) (k:Int) (hk:0<k/\k<=256) (z:Int) (hz:0<=z/\z<8) {c:List Int} {p h:Int} (hc:Cur code (c,p,h)):
  ∃ v c' p' h',(Option.bind (cond (decide ((d.length:Int)>(0:Int))) (Option.bind (dL (c,p,h) k) fun y3=>some (!y3.1,y3.2.1,y3.2.2.1,y3.2.2.2)) (some (false,c,p,h))) fun (s4:Bool×List Int×q28)=>cond s4.1 (Option.bind (aB (s4.2.1,s4.2.2.1,s4.2.2.2) (d.length:Int)) fun y5=>Option.bind (idx d y5.1) fun x6=>Option.bind (eW (x6.1,x6.2.1,x6.2.2)) fun y7=>some (y7,y5.2.1,y5.2.2.1,y5.2.2.2)) (some (z,s4.2.1,s4.2.2.1,s4.2.2.2)):Option (Int×List Int×q28))=some (v,c',p',h')/\(0<=v/\v<8)/\Cur code (c',p',h'):=by
 by_cases h0:(d.length:Int)>0
 .obtain ⟨v1,c1,p1,h1,e1,k1⟩:=sV hl (n:=k) hk.1 hk.2 hc
  simp only [zX h0,zZ,e1,aA]
  cases v1 with
  | true=>exact ⟨z,c1,p1,h1,rfl,hz,k1⟩
  | false=>
   obtain ⟨v2,c2,p2,h2,e2,r2,k2⟩:=aK hl (n:=(d.length:Int)) h0 (by omega) k1
   obtain ⟨m2,rfl⟩:=cB7 r2.1
   have hm:m2<d.length:=by omega
   obtain ⟨v3,e3,r3⟩:=bPw (s:=d[m2]) (by have :=h5 d[m2] (cBt hm);omega) (ha d[m2] (cBt hm)).1 (ha d[m2] (cBt hm)).2
   have e3:eW (d[m2].1,d[m2].2.1,d[m2].2.2)=some v3:=e3
   exact ⟨v3,c2,p2,h2,by simp only [cBq,zZ,e2,aA,aH,cBe hm,e3],r3,k2⟩
 .exact ⟨z,c,p,h,by simp only [zW h0,zY,aA],hz,hc⟩
theorem bUx {code:List Int} (hl:code.length<=1048576) {n:Nat} (hn:n<=100) {d cc:lSg} (hk:DbD n d cc) {c:List Int} {p h:Int} (hc:Cur code (c,p,h)): ∃ a b c' p' h',yR (c,p,h) (d,cc)=some (a,b,c',p',h')/\((0<=a/\a<8)/\(0<=b/\b<8))/\Cur code (c',p',h'):=by
 have hd:=hk.down
 obtain ⟨v1,c1,p1,h1,e1,r1,k1⟩:=aK hl (n:=8) (by decide) (by decide) hc
 obtain ⟨v2,c2,p2,h2,e2,r2,k2⟩:=aK hl (n:=8) (by decide) (by decide) k1
 obtain ⟨v3,c3,p3,h3,e3,r3,k3⟩:=aZ8 hl (d:=d) (by omega) hk.hd hk.ha 4 (by decide) v1 r1 k2
 obtain ⟨v4,c4,p4,h4,e4,r4,k4⟩:=aZ8 hl (d:=d) (by omega) hk.hd hk.ha 3 (by decide) v2 r2 k3
 refine ⟨v3,v4,c4,p4,h4,?_,⟨r3,r4⟩,k4⟩
 unfold yR pj3 pj4
 simp only [e1,e2,aA,aS,bI,aZ,bA,bD]
 rw [e3,aA,e4,aA]
def aK2 (n:Nat) (l:lSg):Prop:=l.length<=n/\ ∀ x∈l,x.2.2.length<=5
theorem zI {s:den tSg} (h:s.2.2.length<=5) (k i:Int): ∃ q:den tPp,bW s k i=some q/\q.2.2.2.length<=5:=by
 unfold bW pj3 pj4 pj5 zz4
 obtain ⟨b1,eb1⟩:=aCu (s:=s) i (by omega)
 obtain ⟨b2,eb2⟩:=aCu (s:=s) (s.2.2.length:Int) (by omega)
 have eb1:iK (s.1,s.2.1,s.2.2) i=some b1:=eb1
 have eb2:iK (s.1,s.2.1,s.2.2) (s.2.2.length:Int)=some b2:=eb2
 simp only [eR,aA,aS,bI,aZ,bA,bD,eb1,eb2,aD5]
 have w1:wr ((s.2.2.length:Int) - 1)=(s.2.2.length:Int) - 1:=bX (by omega) (by omega)
 rw [w1]
 cases c1:inR i 0 ((s.2.2.length:Int) - 1) with
 | false=>exact ⟨(0,0,0,[]),rfl,by simp⟩
 | true=>
  cases inR k 1 4 with
  | false=>exact ⟨(0,0,0,[]),rfl,by simp⟩
  | true=>
   obtain ⟨h0,h1⟩:=bM.1 c1
   obtain ⟨m,rfl⟩:=cB7 h0
   simp only [cBh,zY,aA]
   cases kU k with
   | false=>
    have e1:cC (m:Int) (s.2.2.length:Int) (s.2.2.length:Int)=true:=yM (by omega)
    have l1:(cut s.2.2 (m:Int) (s.2.2.length:Int)).length<=5:=by unfold cut;rw [cCq,cDl];omega
    rw [e1,aE (b:=40) (by decide) (by simp;omega)]
    exact ⟨_,rfl,by simpa using l1⟩
   | true=>
    refine jC (G:=fun o=> ∃ q:den tPp,o=some q/\q.2.2.2.length<=5) (fun (n:Nat) (t:Int×q24)=>t.1=(n:Int) - 1/\n+t.2.2.2.2.length<=s.2.2.length) (fun q:den tPp=>q.2.2.2.length<=5) ?_ s.2.2.length ((s.2.2.length:Int) - 1,k,s.1,b2,[]) ⟨rfl,by simp⟩ (fun q hq=>⟨q,rfl,hq⟩)
    rintro n ⟨_,x,y,z,l⟩ ⟨rfl,g⟩
    simp only at g
    by_cases hn:(n:Int) - 1>=(m:Int)
    .right
     have hn1:(n:Int) - 1=((n - 1:Nat):Int):=by omega
     have hi:n - 1<s.2.2.length:=by omega
     refine ⟨n - 1,(((n - 1:Nat):Int) - 1,x,y,z,l++[s.2.2[n - 1]]),by omega,?_,rfl,by simp;omega⟩
     simp only [zX hn,zZ,aE (b:=40) (n:=l.length) (m:=1) (by decide) (by omega)]
     rw [hn1,aH,cBe hi,aA,bX (n:=((n - 1:Nat):Int) - 1) (by omega) (by omega)]
    .left
     exact ⟨(x,y,z,l),by simp only [zW hn,zY],by show l.length<=5;omega⟩
def oM (p:den tPt):Prop:=cBw (α:=den tPp) p<=3/\ ∀ x:den tPp,x∈(show lPp from p)->x.2.2.2.length<=5
def yE (n:Nat) (l:lPt):Prop:=l.length<=n/\ ∀ p∈l,oM p
theorem aPh:oM []:=⟨by simp,fun x hx=>(cB2 hx).elim⟩
theorem yE.add {n m:Nat} {a b:lPt} (ha:yE n a) (hb:yE m b):yE (n+m) (a++b):=⟨by rw [cCd];have :=ha.1;have :=hb.1;omega,fun p hp=>(cBp.1 hp).elim (ha.2 p) (hb.2 p)⟩
theorem aC1 {n:Nat} (h:n<=1000000000):wr ((n:Int) - 1)=(n:Int) - 1:=bX (by omega) (by omega)
theorem bOd {up down:den tSg} (h1:up.2.2.length<=5) (h2:down.2.2.length<=5): ∃ p,jO up down=some p/\oM p:=by
 obtain ⟨y1,e1,l1⟩:=aEj (s:=up) (by omega)
 obtain ⟨y2,e2,l2⟩:=aEj (s:=down) (by omega)
 have e1:dJ (up.1,up.2.1,up.2.2)=some y1:=e1
 have e2:dJ (down.1,down.2.1,down.2.2)=some y2:=e2
 have hm: ∃ p,jZ up down=some p/\oM p:=by
  unfold jZ ixb pj3 pj4
  rw [e1,aA,e2,aA,aC1 (n:=y1.length) (by omega)]
  refine jC (G:=fun o=> ∃ p,o=some p/\oM p) (fun (n:Nat) (s:Int)=>s=(n:Int) - 1/\n<=y1.length) (fun z:Unit⊕den tPt=> ∀ p,z= .inr p->oM p) ?_ y1.length ((y1.length:Int) - 1) ⟨rfl,cBs _⟩ ?_
  .rintro n _ ⟨rfl,hn⟩
   by_cases h0:(n:Int) - 1>=0
   .simp only [zX h0,zZ]
    have hn1:(n:Int) - 1=((n - 1:Nat):Int):=by omega
    have hi:n - 1<y1.length:=by omega
    rw [aC1 (n:=y2.length) (by omega)]
    refine jC (G:=fun (o:Option (Int⊕(Unit⊕den tPt)))=>(∃ r:Unit⊕den tPt,o=some (cBc r)/\ ∀ p,r=cBc p->oM p)\/ ∃ (m:Nat) (s':Int),m<n/\o=some (cBd s')/\s'=(m:Int) - 1/\m<=y1.length) (fun (k:Nat) (s:Int)=>s=(k:Int) - 1/\k<=y2.length) (fun z:Unit⊕(Int⊕(Unit⊕den tPt))=>z= .inl ()\/ ∃ p,z= .inr (.inr (.inr p))/\oM p) ?_ y2.length ((y2.length:Int) - 1) ⟨rfl,cBs _⟩ ?_
    .rintro k _ ⟨rfl,hk⟩
     by_cases g0:(k:Int) - 1>=0
     .have hk1:(k:Int) - 1=((k - 1:Nat):Int):=by omega
      have hj:k - 1<y2.length:=by omega
      simp only [hn1,hk1,zX (show ((k - 1:Nat):Int)>=0 by omega),zX (show (0:Int)<=((n - 1:Nat):Int) by omega),zX (show (0:Int)<=((k - 1:Nat):Int) by omega),zX (show ((n - 1:Nat):Int)<(y1.length:Int) by omega),zX (show ((k - 1:Nat):Int)<(y2.length:Int) by omega),zZ,cBo,cBe hi,cBe hj,aA]
      cases y1[n - 1]==y2[k - 1] with
      | true=>
       obtain ⟨q1,f1,g1⟩:=zI h1 1 ((n - 1:Nat):Int)
       obtain ⟨q2,f2,g2⟩:=zI h2 4 ((k - 1:Nat):Int)
       have f1:bW (up.1,up.2.1,up.2.2) 1 ((n - 1:Nat):Int)=some q1:=f1
       have f2:bW (down.1,down.2.1,down.2.2) 4 ((k - 1:Nat):Int)=some q2:=f2
       exact .inl ⟨.inr (.inr (.inr [q1,q2])),by simp only [zZ,f1,f2,aA],.inr ⟨[q1,q2],rfl,by simp,fun x hx=>by
        have hx:x∈[q1,q2]:=hx
        simp only [cBk,cB2,or_false] at hx
        rcases hx with rfl | rfl
        .exact g1
        .exact g2⟩⟩
      | false=>exact .inr ⟨k - 1,((k - 1:Nat):Int) - 1,by omega,by simp only [zY,aC1 (n:=k - 1) (by omega)],rfl,by omega⟩
     .exact .inl ⟨.inl (),by simp only [zW g0,zY],.inl rfl⟩
    .rintro z (rfl | ⟨p,rfl,hp⟩)
     .exact .inr ⟨n - 1,((n - 1:Nat):Int) - 1,by omega,by simp only [cCj,hn1,aC1 (n:=n - 1) (by omega)],rfl,by omega⟩
     .exact .inl ⟨.inr p,rfl,fun q hq=>by cases hq;exact hp⟩
   .exact .inl ⟨.inl (),by simp only [zW h0,zY],fun p hp=>by cases hp⟩
  .rintro z hz
   cases z with
   | inl u=>exact ⟨[],rfl,aPh⟩
   | inr p=>exact ⟨p,rfl,hz p rfl⟩
 obtain ⟨p,ep,kp⟩:=hm
 have ep:jZ (up.1,up.2.1,up.2.2) (down.1,down.2.1,down.2.2)=some p:=ep
 exact ⟨p,by unfold jO pj3;rw [ep,aA],kp⟩
theorem yE.one {p:den tPt} (h:oM p):yE 1 [p]:=⟨by simp,fun q hq=>by rw [cBn.1 hq];exact h⟩
theorem yE.mono {n m:Nat} {l:lPt} (h:yE n l) (hm:n<=m):yE m l:=⟨cBf h.1 hm,h.2⟩
theorem aA7 {t:Ty} {B:Nat}: ∀ {l:List (den t)},(∀ x∈l,tot t x<=B)->tot (.sl t) l<=(B+1) * l.length
 | [],_=>by simp [tot]
 | x::l,h=>by
  have ih:=aA7 (l:=l) fun y hy=>h y (cBu _ hy)
  have hx:=h x (by simp)
  rw [kH,cCf,Nat.mul_add,Nat.mul_one]
  omega
theorem bAc {q:den tPp} (h:q.2.2.2.length<=5):tot tPp q<=5:=by
 show tot ti q.1+(tot ti q.2.1+(tot ti q.2.2.1+tot (.sl cM) q.2.2.2))<=5
 rw [dK (t:=cM) rfl]
 show 0+(0+(0+q.2.2.2.length))<=5
 omega
theorem aJ1 {p:den tPt} (h:oM p):tot tPt p<=18:=by
 have h1:=aA7 (t:=tPp) (B:=5) (l:=p) fun x hx=>bAc (h.2 x hx)
 have h2:=h.1
 show tot (.sl tPp) p<=18
 have :(5+1) * cBw (α:=den tPp) p<=18:=by omega
 exact cBf h1 this
theorem aU9 {n:Nat} {l:lPt} (h:yE n l):tot (.sl tPt) l<=19 * n:=by
 have h1:=aA7 (t:=tPt) (B:=18) (l:=l) fun x hx=>aJ1 (h.2 x hx)
 have h2:=h.1
 have :(18+1) * l.length<=19 * n:=by omega
 exact cBf h1 this
theorem bH7 {as:lAS} {ls:lLk} (ht:aAo as ls) {q:den tPp} (h:q.2.2.2.length<=5): ∃ b,pI (as,ls) q=some b:=by
 have hlen:=ht.len
 unfold pI pj2 pj4 pj5
 refine cE (G:=fun o=> ∃ b,o=some b) q.2.2.2.length (fun s:Int=>s) (fun i t=>True) (fun r:Unit⊕Bool=>True) ?_ ?_ 0 (0:Int) (by omega) rfl trivial ?_
 .rintro i _ hi rfl _
  obtain ⟨bt,et⟩: ∃ v,yQ (q.1,q.2.1,q.2.2.1,q.2.2.2) (i:Int)=some v:=by
   unfold yQ pj4
   have e1:=aS6 (p:=q) (n:=i) (by omega) (by omega)
   have e2:=aS6 (p:=q) (n:=i+1) (by omega) (by omega)
   have e1:iO (q.1,q.2.1,q.2.2.1,q.2.2.2) (i:Int)=some _:=e1
   have e2:iO (q.1,q.2.1,q.2.2.1,q.2.2.2) ((i+1:Nat):Int)=some _:=e2
   simp only [aD5,aA,bL (show i<=1000000000 by omega),e1,e2]
   cases kU q.1<;>exact ⟨_,rfl⟩
  have ev:=aX6 (t:=(as,ls)) (ts:=q.2.1) (beta:=bt) (h:=q.2.2.2[i]) (show as.length<=68719476736 by omega)
  have ev:gR (as,ls) q.2.1 bt (q.2.2.2[i].1,q.2.2.2[i].2.1,q.2.2.2[i].2.2.1,q.2.2.2[i].2.2.2.1,q.2.2.2[i].2.2.2.2)=some _:=ev
  simp only [zX (show (i:Int)<(q.2.2.2.length:Int) by omega),zZ,aH,cBe hi,aA,et,ev,bL (show i<=1000000000 by omega)]
  cases aEg (as,ls) q.2.1 bt q.2.2.2[i] with
  | true=>exact .inr ⟨_,rfl,rfl,trivial⟩
  | false=>exact .inl ⟨_,rfl,trivial⟩
 .rintro _ rfl _
  exact ⟨.inl (),by simp only [zW (cBx _),zY],trivial⟩
 .rintro r _
  cases r with
  | inl u=>exact ⟨_,rfl⟩
  | inr v=>exact ⟨_,rfl⟩
theorem bMj {as:lAS} {ls:lLk} (ht:aAo as ls) {p:lPp} (h:oM p): ∃ b,rU (as,ls) p=some b:=by
 have h3:=h.1
 unfold rU pj2 pj4
 refine cE (G:=fun o=> ∃ b,o=some b) p.length (fun s:Int=>s) (fun i t=>True) (fun r:Unit⊕Bool=>True) ?_ ?_ 0 (0:Int) (by omega) rfl trivial ?_
 .rintro i _ hi rfl _
  obtain ⟨b,eb⟩:=bH7 ht (q:=p[i]) (h.2 p[i] (cBt hi))
  have eb:pI (as,ls) (p[i].1,p[i].2.1,p[i].2.2.1,p[i].2.2.2)=some b:=eb
  simp only [zX (show (i:Int)<(p.length:Int) by omega),zZ,aH,cBe hi,aA,eb,bL (show i<=1000000000 by omega)]
  cases b with
  | true=>exact .inr ⟨_,rfl,rfl,trivial⟩
  | false=>exact .inl ⟨_,rfl,trivial⟩
 .rintro _ rfl _
  exact ⟨.inl (),by simp only [zW (cBx _),zY],trivial⟩
 .rintro r _
  cases r with
  | inl u=>exact ⟨_,rfl⟩
  | inr v=>exact ⟨_,rfl⟩
theorem bD0 {as:lAS} {ls:lLk} (ht:aAo as ls) {p:lPp} (h:oM p) (now:Int): ∃ b,rV (as,ls) p now=some b:=by
 have hlen:=ht.len
 have hlk:=ht.links
 have h3:=h.1
 have e1:=aUo (t:=(as,ls)) (p:=p) (show as.length<=_ by omega) (show ls.length<=_ by omega) (cBf (aJ1 h) (by decide))
 obtain ⟨b2,e2⟩:=bMj ht h
 unfold rV pj2 pj5
 rw [e1,aA,e2,aA]
 obtain ⟨b3,e3⟩: ∃ b:Bool,(cond (!(aAf (as,ls) p)) (some true) (some (!b2)))=some b:=by cases aAf (as,ls) p<;>exact ⟨_,rfl⟩
 rw [e3,aA]
 cases b3 with
 | true=>exact ⟨_,rfl⟩
 | false=>
  refine cE (G:=fun o=> ∃ b,o=some b) p.length (fun s:Int=>s) (fun i t=>True) (fun r:Unit⊕Bool=>True) ?_ ?_ 0 (0:Int) (by omega) rfl trivial ?_
  .rintro i _ hi rfl _
   have hh:=h.2 p[i] (cBt hi)
   simp only [zX (show (i:Int)<(p.length:Int) by omega),zZ,aH,cBe hi,aA]
   cases decide (p[i].2.1>now) with
   | true=>exact .inl ⟨_,rfl,trivial⟩
   | false=>
    simp only [zY]
    refine cE (G:=fun (o:Option (Int⊕(Unit⊕Bool)))=>(∃ r,o=some (cBc r)/\True)\/ ∃ s':Int,o=some (cBd s')/\s'=((i+1:Nat):Int)/\True) p[i].2.2.2.length (fun s:Int=>s) (fun j t=>True) (fun z:Unit⊕(Int⊕(Unit⊕Bool))=>z= .inl ()\/ ∃ b,z= .inr (.inr (.inr b))) ?_ ?_ 0 (0:Int) (by omega) rfl trivial ?_
    .rintro j _ hj rfl _
     have ehv: ∀ (hp:den cM) (n:Int),nH hp n=some (decide (n<=hp.2.2.2.1)):=fun _ _=>rfl
     simp only [zX (show (j:Int)<(p[i].2.2.2.length:Int) by omega),zZ,aH,cBe hj,aA,ehv,bL (show j<=1000000000 by omega)]
     cases decide (now<=p[i].2.2.2[j].2.2.2.1) with
     | true=>exact .inr ⟨_,rfl,rfl,trivial⟩
     | false=>exact .inl ⟨_,rfl,.inr ⟨false,rfl⟩⟩
    .rintro _ rfl _
     exact ⟨.inl (),by simp only [zW (cBx _),zY],.inl rfl⟩
    .rintro z (rfl | ⟨b,rfl⟩)
     .exact .inr ⟨((i+1:Nat):Int),by simp only [cCj,bL (show i<=1000000000 by omega)],rfl,trivial⟩
     .exact .inl ⟨.inr b,rfl,trivial⟩
  .rintro _ rfl _
   exact ⟨.inl (),by simp only [zW (cBx _),zY],trivial⟩
  .rintro r _
   cases r with
   | inl u=>exact ⟨_,rfl⟩
   | inr v=>exact ⟨_,rfl⟩
theorem bNy {a b:den tPp} (h:a.2.2.2.length<=5): ∃ v,lJ a b=some v:=by
 obtain ⟨v,e⟩:=aRj (a:=a.2.2.2) (b:=b.2.2.2) (by omega)
 unfold lJ
 rw [e,aA]
 cases a.1==b.1
 .exact ⟨_,rfl⟩
 .cases a.2.1==b.2.1
  .exact ⟨_,rfl⟩
  .cases a.2.2.1==b.2.2.1<;>exact ⟨_,rfl⟩
theorem bT6 {a b:lPp} (h:oM a): ∃ v,jP a b=some v:=by
 have h3:=h.1
 have h3:a.length<=3:=h3
 unfold jP pj4
 by_cases hn:a.length=b.length
 .rw [hn,bne_self_eq_false,zY,<- hn]
  refine cE (G:=fun o=> ∃ b,o=some b) a.length (fun s:Int=>s) (fun i t=>True) (fun r:Unit⊕Bool=>True) ?_ ?_ 0 (0:Int) (by omega) rfl trivial ?_
  .rintro i _ hi rfl _
   have h2:i<b.length:=by omega
   obtain ⟨v,e⟩:=bNy (a:=a[i]) (b:=b[i]) (h.2 a[i] (cBt hi))
   have e:lJ (a[i].1,a[i].2.1,a[i].2.2.1,a[i].2.2.2) (b[i].1,b[i].2.1,b[i].2.2.1,b[i].2.2.2)=some v:=e
   simp only [zX (show (i:Int)<(a.length:Int) by omega),zZ,aH,cBe hi,cBe h2,aA,e,bL (show i<=1000000000 by omega)]
   cases v with
   | true=>exact .inr ⟨_,rfl,rfl,trivial⟩
   | false=>exact .inl ⟨_,rfl,trivial⟩
  .rintro _ rfl _
   exact ⟨.inl (),by simp only [zW (cBx _),zY],trivial⟩
  .rintro r _
   cases r with
   | inl u=>exact ⟨_,rfl⟩
   | inr v=>exact ⟨_,rfl⟩
 .rw [show ((a.length:Int) != (b.length:Int))=true by rw [bne_iff_ne];omega,zZ]
  exact ⟨_,rfl⟩
theorem bMy {n:Nat} (hn:n<=100000) {l:lPt} (h:yE n l) (p:den tPt): ∃ v,yL l p=some v:=by
 have h1:=h.1
 unfold yL
 refine cE (G:=fun o=> ∃ b,o=some b) l.length (fun s:Int=>s) (fun i t=>True) (fun r:Unit⊕Bool=>True) ?_ ?_ 0 (0:Int) (by omega) rfl trivial ?_
 .rintro i _ hi rfl _
  obtain ⟨v,e⟩:=bT6 (a:=l[i]) (b:=p) (h.2 l[i] (cBt hi))
  simp only [zX (show (i:Int)<(l.length:Int) by omega),zZ,aH,cBe hi,aA,e,bL (show i<=1000000000 by omega)]
  cases v with
  | false=>exact .inr ⟨_,rfl,rfl,trivial⟩
  | true=>exact .inl ⟨_,rfl,trivial⟩
 .rintro _ rfl _
  exact ⟨.inl (),by simp only [zW (cBx _),zY],trivial⟩
 .rintro r _
  cases r with
  | inl u=>exact ⟨_,rfl⟩
  | inr v=>exact ⟨_,rfl⟩
theorem aNc {code:List Int} (hl:code.length<=1048576) {n:Nat} (hn:n<=1000) {c:List Int} {p h:Int} (hc:Cur code (c,p,h)): ∃ l c' p' h',eF (c,p,h) (n:Int)=some (l,c',p',h')/\(l.length=n/\ ∀ x∈l,0<=x/\x<=255)/\Cur code (c',p',h'):=by
 unfold eF pj3 pj4
 refine cE (G:=fun o=> ∃ l c' p' h',o=some (l,c',p',h')/\(l.length=n/\ ∀ x∈l,0<=x/\x<=255)/\Cur code (c',p',h')) n (fun s:Int×List Int×List Int×Int×Int=>s.1) (fun i s=>(s.2.1.length=i/\ ∀ x∈s.2.1,0<=x/\x<=255)/\Cur code s.2.2) (fun r:List Int×List Int×Int×Int=>(r.1.length=n/\ ∀ x∈r.1,0<=x/\x<=255)/\Cur code r.2) ?_ ?_ 0 ((0:Int),[],c,p,h) (by omega) rfl ⟨⟨rfl,fun x hx=>(cB2 hx).elim⟩,hc⟩ (fun r hr=>⟨r.1,r.2.1,r.2.2.1,r.2.2.2,rfl,hr.1,hr.2⟩)
 .rintro i ⟨_,l,c1,p1,h1⟩ hi rfl ⟨⟨g1,g2⟩,k1⟩
  simp only at g1 g2 k1
  obtain ⟨v,c2,p2,h2,e2,r2,k2⟩:=aHj hl k1
  obtain ⟨m,rfl⟩:=cB7 r2.1
  right
  refine ⟨(((i+1:Nat):Int),l++[(m:Int)],c2,p2,h2),?_,rfl,⟨by simp [g1],fun x hx=>(cBp.1 hx).elim (g2 x) fun hx=>by rw [cBn.1 hx];omega⟩,k2⟩
  simp only [zX (show (i:Int)<(n:Int) by omega),zZ,e2,aA,aE (b:=1) (n:=l.length) (m:=1) (by decide) (by omega),bL (show i<=1000000000 by omega),aEq (n:=m) (by omega)]
 .rintro ⟨_,l,c1,p1,h1⟩ rfl ⟨g,k1⟩
  exact ⟨(l,c1,p1,h1),by simp only [zW (cBx _),zY],g,k1⟩
theorem bIk {up down:den tSg} (h1:up.2.2.length<=5) (h2:down.2.2.length<=5): ∃ p,jZ up down=some p/\oM p:=by
 obtain ⟨p,e,k⟩:=bOd h1 h2
 unfold jO pj3 at e
 refine ⟨p,?_,k⟩
 cases hm:jZ (up.1,up.2.1,up.2.2) (down.1,down.2.1,down.2.2) with
 | none=>rw [hm] at e;cases e
 | some q=>rw [hm,aA] at e;cases e;rfl
def bXl (code:List Int) (o:Option (lAS×lLk×lPp×List Int×q28)):Prop:= ∃ (as:lAS) (ls:lLk) (q:lPp) (c':List Int) (p' h':Int),o=some (as,ls,q,c',p',h')/\oM q/\aAo as ls/\Cur code (c',p',h')
theorem aLg {q:den tPp} (h:q.2.2.2.length<=5):oM [q]:=⟨by simp,fun x hx=>by
 have hx:x∈[q]:=hx
 rw [cBn.1 hx];exact h⟩
abbrev PdS:=Int×Int×Int×Int×Int×dP×dP×List Int×Int×Int
theorem aY1 {code:List Int} (hl:code.length<=1048576) {c:List Int} {p h:Int} (hc:Cur code (c,p,h)):bXl code (uI (c,p,h)):=by
 obtain ⟨as,ls,c1,p1,h1,e1,ht,k1⟩:=aSx hl hc
 obtain ⟨t2,b2,s2,c2,p2,h2,e2,l2,k2⟩:=aHe hl ht 2 k1
 obtain ⟨t3,b3,s3,c3,p3,h3,e3,l3,k3⟩:=aHe hl ht 2 k2
 obtain ⟨t4,b4,s4,c4,p4,h4,e4,l4,k4⟩:=aHe hl ht 1 k3
 obtain ⟨v5,c5,p5,h5,e5,r5,k5⟩:=aK hl (n:=5) (by decide) (by decide) k4
 unfold uI dd one pj3 pj4 pj6 pj9 zz4 zz5 zz6 zz7
 simp only [e1,e2,e3,e4,e5,aA,aS,bI,aZ,bA,bD,show aM 48 0 1=true from by decide,zZ]
 cases v5==(0:Int) with
 | true=>
  obtain ⟨q,eq,kq⟩:=bIk (up:=(t2,b2,s2)) (down:=(t3,b3,s3)) l2 l3
  exact ⟨as,ls,q,c5,p5,h5,by simp only [zZ,eq,aA],kq,ht,k5⟩
 | false=>
  cases v5==(1:Int) with
  | true=>
   simp only [zZ,zY]
   by_cases hs:(s2.length:Int)>0
   .obtain ⟨v6,c6,p6,h6,e6,r6,k6⟩:=pL hl (l:=[(1:Int),(4:Int)]) (by decide) (by decide) k5
    obtain ⟨q,eq,kq⟩:=zI (s:=(t2,b2,s2)) l2 v6 0
    exact ⟨as,ls,[q],c6,p6,h6,by simp only [zX hs,zZ,e6,eq,aA],aLg kq,ht,k6⟩
   .exact ⟨as,ls,[],c5,p5,h5,by simp only [zW hs,zY,aA],aPh,ht,k5⟩
  | false=>
   cases v5==(2:Int) with
   | true=>
    simp only [zZ,zY]
    by_cases hs:(s4.length:Int)>0
    .obtain ⟨v6,c6,p6,h6,e6,r6,k6⟩:=pL hl (l:=[(2:Int),(3:Int)]) (by decide) (by decide) k5
     obtain ⟨q,eq,kq⟩:=zI (s:=(t4,b4,s4)) l4 v6 0
     exact ⟨as,ls,[q],c6,p6,h6,by simp only [zX hs,zZ,e6,eq,aA],aLg kq,ht,k6⟩
    .exact ⟨as,ls,[],c5,p5,h5,by simp only [zW hs,zY,aA],aPh,ht,k5⟩
   | false=>
    simp only [zY]
    obtain ⟨fc,efc⟩:=aK0 (s:=(t4,b4,s4))
    obtain ⟨lc,elc⟩:=aVo (s:=(t4,b4,s4)) (by show s4.length<=_;omega)
    refine cE (G:=bXl code) 6 (fun s:PdS=>s.1) (fun i s=>s.2.2.2.2.2.1.length<=5/\s.2.2.2.2.2.2.1.length<=5/\Cur code s.2.2.2.2.2.2.2) (fun r:Int×Int×Int×Int×dP×dP×List Int×Int×Int=>r.2.2.2.2.1.length<=5/\r.2.2.2.2.2.1.length<=5/\Cur code r.2.2.2.2.2.2) ?_ ?_ 0 ((0:Int),t2,b2,t3,b3,s2,s3,c5,p5,h5) (by omega) rfl ⟨l2,l3,k5⟩ ?_
    .rintro i ⟨_,ut,ub,dt,db,us,ds,c6,p6,h6⟩ hi rfl ⟨g1,g2,g3⟩
     simp only at g1 g2 g3
     simp only [zX (show (i:Int)<6 by omega),zZ,aA,efc,elc]
     cases decide ((s4.length:Int)>0) with
     | false=>exact .inl ⟨(ut,ub,dt,db,us,ds,c6,p6,h6),rfl,g1,g2,g3⟩
     | true=>
      right
      obtain ⟨fu,efu⟩:=aK0 (s:=(ut,ub,us))
      obtain ⟨fd,efd⟩:=aK0 (s:=(dt,db,ds))
      simp only [zZ,efu,efd,aA]
      obtain ⟨x1,ex1⟩: ∃ b:Bool,(cond (decide ((us.length:Int)>(0:Int))) (some (fu != fc)) (some false))=some b:=by cases decide ((us.length:Int)>(0:Int))<;>exact ⟨_,rfl⟩
      obtain ⟨x2,ex2⟩: ∃ b:Bool,(cond (decide ((ds.length:Int)>(0:Int))) (some (fd != lc)) (some false))=some b:=by cases decide ((ds.length:Int)>(0:Int))<;>exact ⟨_,rfl⟩
      simp only [ex1,ex2,aA]
      obtain ⟨y1,y2,y3,c7,p7,h7,ey,ly,ky⟩: ∃ a b hs c p h,(cond x1 (Option.bind (kI (c6,p6,h6) (as,ls) (2:Int)) fun y72=>some (y72.1,y72.2.1,y72.2.2.1,y72.2.2.2.1,y72.2.2.2.2.1,y72.2.2.2.2.2)) (some (ut,ub,us,c6,p6,h6)))=some (a,b,hs,c,p,h)/\hs.length<=5/\Cur code (c,p,h):=by
       cases x1 with
       | false=>exact ⟨ut,ub,us,c6,p6,h6,rfl,g1,g3⟩
       | true=>
        obtain ⟨a,b,hs,c,p,h,eg,lg,kg⟩:=aHe hl ht 2 g3
        exact ⟨a,b,hs,c,p,h,by simp only [zZ,eg,aA],lg,kg⟩
      rw [ey,aA]
      simp only
      cases x2 with
      | false=>exact ⟨_,rfl,bL (show i<=1000000000 by omega),ly,g2,ky⟩
      | true=>
       obtain ⟨a,b,hs,c,p,h,eg,lg,kg⟩:=aHe hl ht 2 ky
       refine ⟨_,by simp only [zZ,eg,aA];rfl,bL (show i<=1000000000 by omega),ly,lg,kg⟩
    .rintro ⟨_,ut,ub,dt,db,us,ds,c6,p6,h6⟩ rfl ⟨g1,g2,g3⟩
     exact ⟨(ut,ub,dt,db,us,ds,c6,p6,h6),by simp only [show decide (((6:Nat):Int)<(6:Int))=false from rfl,zY,aA],g1,g2,g3⟩
    rintro ⟨ut,ub,dt,db,us,ds,c6,p6,h6⟩ ⟨g1,g2,g3⟩
    simp only at g1 g2 g3
    obtain ⟨q1,f1,m1⟩:=zI (s:=(ut,ub,us)) g1 1 0
    obtain ⟨q2,f2,m2⟩:=zI (s:=(t4,b4,s4)) l4 2 0
    obtain ⟨q3,f3,m3⟩:=zI (s:=(dt,db,ds)) g2 4 0
    have one: ∀ (l:lPp) (q:den tPp) (n:Nat),l.length<=n->q.2.2.2.length<=5->(∀ x∈l,x.2.2.2.length<=5)->(l++[q]).length<=n+1/\ ∀ x∈l++[q],x.2.2.2.length<=5:=fun l q n hl hq h=>⟨by simp;omega,fun x hx=>(cBp.1 hx).elim (h x) fun hx=>by rw [cBn.1 hx];exact hq⟩
    simp only [f1,f2,f3,aA]
    obtain ⟨a1,j1,i1,i2⟩: ∃ l:lPp,(cond (decide ((us.length:Int)>(0:Int))) (some [q1]) (some []))=some l/\l.length<=1/\ ∀ x∈l,x.2.2.2.length<=5:=by
     cases decide ((us.length:Int)>(0:Int))
     .exact ⟨[],rfl,by simp,fun x hx=>(cB2 hx).elim⟩
     .exact ⟨[q1],rfl,by simp,fun x hx=>by rw [cBn.1 hx];exact m1⟩
    rw [show ((q1.1,q1.2.1,q1.2.2.1,q1.2.2.2):den tPp)=q1 from rfl,j1,aA,aE (b:=48) (n:=a1.length) (m:=1) (by decide) (by omega)]
    obtain ⟨a2,j2,i3,i4⟩: ∃ l:lPp,(cond (decide ((s4.length:Int)>(0:Int))) (cond true (some (a1++[q2])) none) (some a1))=some l/\l.length<=2/\ ∀ x∈l,x.2.2.2.length<=5:=by
     cases decide ((s4.length:Int)>(0:Int))
     .exact ⟨a1,rfl,by omega,i2⟩
     .exact ⟨a1++[q2],rfl,one a1 q2 1 i1 m2 i2⟩
    rw [show ((q2.1,q2.2.1,q2.2.2.1,q2.2.2.2):den tPp)=q2 from rfl,j2,aA,aE (b:=48) (n:=a2.length) (m:=1) (by decide) (by omega)]
    cases decide ((ds.length:Int)>(0:Int))
    .exact ⟨as,ls,a2,c6,p6,h6,rfl,⟨cBf i3 (by decide),i4⟩,ht,g3⟩
    .exact ⟨as,ls,a2++[q3],c6,p6,h6,rfl,one a2 q3 2 i3 m3 i4,ht,g3⟩
structure cA2 (p:den tPk):Prop where
 path:oM p.2.2.2.1
 len:p.2.2.2.2.2.2.2.2.2.length<=1000
 bytes: ∀ x∈p.2.2.2.2.2.2.2.2.2,(0:Int)<=x/\x<=(255:Int)
theorem bUr {code:List Int} (hl:code.length<=1048576) {c:List Int} {p h:Int} (hc:Cur code (c,p,h)): ∃ (as:lAS) (ls:lLk) (k:den tPk) (c':List Int) (p' h':Int),yW (c,p,h)=some (as,ls,k.1,k.2.1,k.2.2.1,k.2.2.2.2.1,k.2.2.2.2.2.1,k.2.2.2.2.2.2.1,k.2.2.2.2.2.2.2.1,k.2.2.2.2.2.2.2.2.1,k.2.2.2.1,k.2.2.2.2.2.2.2.2.2,c',p',h')/\cA2 k/\aAo as ls/\Cur code (c',p',h'):=by
 obtain ⟨as,ls,q,c1,p1,h1,e1,kq,kt,k1⟩:=aY1 hl hc
 obtain ⟨v2,c2,p2,h2,e2,r2,k2⟩:=aK hl (n:=3) (by decide) (by decide) k1
 obtain ⟨v3,c3,p3,h3,e3,r3,k3⟩:=aK hl (n:=9) (by decide) (by decide) k2
 obtain ⟨v4,c4,p4,h4,e4,r4,k4⟩:=aK hl (n:=3) (by decide) (by decide) k3
 obtain ⟨v5,c5,p5,h5,e5,r5,k5⟩:=aK hl (n:=4) (by decide) (by decide) k4
 obtain ⟨m5,rfl⟩:=cB7 r5.1
 obtain ⟨l6,c6,p6,h6,e6,⟨r6,b6⟩,k6⟩:=aNc hl (n:=m5) (by omega) k5
 have e7:=aJi (kind:=wr (1+v2)) (res:=v4) (seq:=v3) (p:=q) (pay:=l6) (cBf (aJ1 kq) (by decide)) (by omega)
 refine ⟨as,ls,gU (wr (1+v2)) q v4 v3 l6,c6,p6,h6,?_,⟨kq,by show l6.length<=_;omega,b6⟩,kt,k6⟩
 unfold yW dd bVi pj3 zz4 zz5 zz6 zz7 zz8 zz9
 simp only [e1,e2,e3,e4,e5,e6,e7,aA,aS,bI,aZ,bA,bD]
 rfl
theorem bJo (a b:Int):tT a b=some (a,b,0,[]):=rfl
def RvD (l:lRv):Prop:=l.length<=16/\ ∀ y∈l,eJ y=true
theorem bOf {l:lRv} {x:den tRv} (h:RvD l):RvD (aK8 l x):=by
 obtain ⟨h1,h2⟩:=h
 unfold aK8
 cases hv:eJ x with
 | false=>exact ⟨h1,h2⟩
 | true=>
  simp only [zZ]
  cases hs:cB (aB5 x l) 0 l with
  | some r=>
   have :=aM1 (fun r:lRv=> @ite Nat (RvD r) (Classical.propDecidable _) 0 1) 0 (g:=aB5 x l) (l:=l) (k:=0) (fun j y r' hy hr=>by
    have hp:RvD r':=by
     unfold aB5 at hr
     cases c1:y.1==x.1 with
     | false=>rw [c1] at hr;cases hr
     | true=>
      cases c2:y.2.1==x.2.1 with
      | false=>rw [c1,c2] at hr;cases hr
      | true=>
       rw [c1,c2] at hr
       injection hr with hr
       rw [<- hr]
       have hy':=h2 y (cBr hy)
       refine ⟨by simpa using h1,fun z hz=> ?_⟩
       rcases cDz hz with hz | rfl
       .exact h2 z hz
       .unfold eJ at hv hy' ⊢
        simp only [cBg] at hv hy' ⊢
        refine ⟨hy'.1,hy'.2.1,?_⟩
        split
        .exact hv.2.2
        .exact hy'.2.2
    simp only [zT hp]
    exact cBs _) r hs
   by_cases hp:RvD r
   .exact hp
   .simp only [zS hp] at this
    omega
  | none=>
   have hx: ∀ y∈l++[x],eJ y=true:=fun y hy=>(cBp.1 hy).elim (h2 y) fun hy=>by rw [cBn.1 hy];exact hv
   by_cases c:16<l.length+1
   .simp only [c,zV]
    exact ⟨by simp;omega,fun y hy=>hx y (cC1 hy)⟩
   .simp only [c,zU]
    exact ⟨by simp;omega,hx⟩
theorem aHd (a b c d cu wa:Int) (ms:lMs) (ps:lPt) (rv:lRv):tot tFl (a,b,c,d,ms,ps,cu,wa,rv)=tot (.sl tMs) ms+tot (.sl tPt) ps+rv.length:=by
 show tot ti a+(tot ti b+(tot ti c+(tot ti d+(tot (.sl tMs) ms+(tot (.sl tPt) ps+(tot ti cu+(tot ti wa+tot (.sl tRv) rv)))))))=_
 rw [dK (t:=tRv) rfl]
 show 0+(0+(0+(0+(_+(_+(0+(0+_)))))))=_
 omega
theorem bC1 (b:List Int):tot (.sl tMs) [b]=1+b.length:=by
 rw [kH]
 show 1+tot (.sl tb) b+tot (.sl tMs) []=_
 rw [dK (t:=tb) rfl]
 rfl
theorem vO (f:den tFl):lA f=true↔inR f.1 0 7=true/\inR f.2.1 0 7=true/\f.1≠f.2.1/\inR f.2.2.1 0 100000=true/\f.2.2.2.2.1.length<=20/\inR f.2.2.2.1 0 (f.2.2.2.2.1.length:Int)=true/\f.2.2.2.2.2.1.length<=24/\
  (∀ m∈f.2.2.2.2.1,m.length<=40)/\(∀ x∈f.2.2.2.2.2.2.2.2,eJ x=true)/\(f.2.2.2.2.2.2.1=0\/inR f.2.2.2.2.2.2.1 0 ((f.2.2.2.2.2.1.length:Int) - 1)=true)/\inR f.2.2.2.2.2.2.2.1 0 4=true/\f.2.2.2.2.2.2.2.2.length<=16:=by
 unfold lA
 simp only [cBg,cCz,cCg,beq_iff_eq,beq_eq_false_iff_ne,zR,cB5,ne_eq]
theorem aYr {c:Int} {n:Nat} (hn:n<=24) (h:c=0\/inR c 0 ((n:Int) - 1)=true):(if wr (c+1)>=(n:Int) then (0:Int) else wr (c+1))=0\/inR (if wr (c+1)>=(n:Int) then (0:Int) else wr (c+1)) 0 ((n:Int) - 1)=true:=by
 have hc:0<=c/\c<=24:=by
  rcases h with e | e
  .omega
  .have :=bM.1 e;omega
 rw [bX (by omega) (by omega)]
 split
 .exact .inl rfl
 .right
  rw [bM]
  omega
theorem bSx {w:Int} (h:inR w 0 4=true) (h4: ¬ (w==4)=true):inR (wr (w+1)) 0 4=true:=by
 rw [bM] at h
 rw [beq_iff_eq] at h4
 rw [bX (by omega) (by omega),bM]
 omega
theorem bIw {f:den tFl} (h:lA f=true):lA (aF f).1=true:=by
 rw [vO] at h
 obtain ⟨h1,h2,h3,h4,h5,h6,h7,h8,h9,h10,h11,h12⟩:=h
 have key: ∀ c w:Int,(c=0\/inR c 0 ((f.2.2.2.2.2.1.length:Int) - 1)=true)->inR w 0 4=true->lA (oQ f c w)=true:=fun c w hc hw=>by
  rw [vO]
  exact ⟨h1,h2,h3,h4,h5,h6,h7,h8,h9,hc,hw,h12⟩
 unfold aF
 split
 .split
  .exact key _ _ h10 rfl
  .split
   .exact key _ _ (aYr h7 h10) rfl
   .next e4=>exact key _ _ h10 (bSx h11 e4)
 .exact key _ _ h10 rfl
def Cmp {α:Type} (a b:α) (o:Option Bool):Prop:= ∃ v,o=some v/\(a=b->v=true)
theorem aEh {α:Type} (a b:List α) (st:Int->Option (Int⊕(Unit⊕Bool))) (h:a.length<=1073741824)
  (hs: ∀ (i:Nat) (hi:i<a.length) (hj:i<b.length),∃ v:Bool,st (i:Int)=some (cond (!v) (.inr (.inr false)) (.inl ((i+1:Nat):Int)))/\(a[i]=b[i]->v=true)) (he:st (a.length:Int)=some (.inr (.inl ()))):
  Cmp a b (cond ((a.length:Int) != (b.length:Int)) (some false) (Option.bind (aC st (0:Int)) fun z=>Sum.elim (fun _=>some true) some z)):=by
 by_cases hn:a.length=b.length
 .rw [hn,bne_self_eq_false,zY]
  refine cE (G:=Cmp a b) a.length (fun s:Int=>s) (fun i t=>True) (fun r:Unit⊕Bool=>a=b->r= .inl ()) ?_ ?_ 0 (0:Int) (by omega) rfl trivial ?_
  .rintro i _ hi rfl _
   obtain ⟨v,e,k⟩:=hs i hi (by omega)
   rw [e]
   cases v with
   | true=>exact .inr ⟨_,rfl,rfl,trivial⟩
   | false=>exact .inl ⟨.inr false,rfl,fun e=>by subst e;cases k rfl⟩
  .rintro _ rfl _
   exact ⟨.inl (),he,fun _=>rfl⟩
  .rintro r hr
   cases r with
   | inl u=>exact ⟨true,rfl,fun _=>rfl⟩
   | inr v=>exact ⟨v,rfl,fun e=>by cases hr e⟩
 .rw [show ((a.length:Int) != (b.length:Int))=true by rw [bne_iff_ne];omega,zZ]
  exact ⟨false,rfl,fun e=>absurd (congrArg cBw e) hn⟩
theorem bAo {a b:List Int} (h:a.length<=10000000):Cmp a b (aB8 a b):=by
 unfold aB8
 refine aEh a b _ (by omega) (fun i hi hj=>⟨a[i]==b[i],?_,fun e=>by simpa using e⟩) ?_
 .simp only [zX (show (i:Int)<(a.length:Int) by omega),zZ,aH,cBe hi,cBe hj,aA,bL (show i<=1000000000 by omega),bne]
  cases a[i]==b[i]<;>rfl
 .simp only [zW (cBx _),zY]
theorem aR4 {a b:List lI} (h:a.length<=10000000) (hm: ∀ m∈a,m.length<=10000000):Cmp a b (nE a b):=by
 unfold nE
 refine aEh a b _ (by omega) (fun i hi hj=> ?_) ?_
 .obtain ⟨v,e,k⟩:=bAo (a:=a[i]) (b:=b[i]) (hm _ (cBt hi))
  refine ⟨v,?_,k⟩
  simp only [zX (show (i:Int)<(a.length:Int) by omega),zZ,aH,cBe hi,cBe hj,aA,bL (show i<=1000000000 by omega),e]
  cases v<;>rfl
 .simp only [zW (cBx _),zY]
theorem bJm {a b:lRv} (h:a.length<=10000000):Cmp a b (uA a b):=by
 unfold uA
 refine aEh a b _ (by omega) (fun i hi hj=>⟨((a[i].1==b[i].1)&&((a[i].2.1==b[i].2.1)&&((a[i].2.2==b[i].2.2)&&true))),?_,fun e=>by rw [e];simp⟩) ?_
 .simp only [zX (show (i:Int)<(a.length:Int) by omega),zZ,aH,cBe hi,cBe hj,aA,bL (show i<=1000000000 by omega)]
  cases ((a[i].1==b[i].1)&&((a[i].2.1==b[i].2.1)&&((a[i].2.2==b[i].2.2)&&true)))<;>rfl
 .simp only [zW (cBx _),zY]
theorem bSq {a b:den tIb} (h:a.2.2.2.length<=10000000) (hm: ∀ m:List Int,m∈(show List lI from a.2.2.2)->m.length<=10000000):Cmp a b (yP a b):=by
 obtain ⟨v,e,k⟩:=aR4 (a:=a.2.2.2) (b:=b.2.2.2) h hm
 unfold yP
 rw [e,aA]
 cases c1:a.1==b.1
 .exact ⟨false,rfl,fun e=>by subst e;simp at c1⟩
 .cases c2:a.2.1==b.2.1
  .exact ⟨false,rfl,fun e=>by subst e;simp at c2⟩
  .cases c3:a.2.2.1==b.2.2.1
   .exact ⟨false,rfl,fun e=>by subst e;simp at c3⟩
   .exact ⟨v,rfl,fun e=>by subst e;exact k rfl⟩
theorem aZb {a b:dP} (h:a.length<=10000000):Cmp a b (qN a b):=by
 unfold qN zz4
 refine aEh a b _ (by omega) (fun i hi hj=>⟨((a[i].1==b[i].1)&&((a[i].2.1==b[i].2.1)&&((a[i].2.2.1==b[i].2.2.1)&&((a[i].2.2.2.1==b[i].2.2.2.1)&&((a[i].2.2.2.2==b[i].2.2.2.2)&&true))))),?_,fun e=>by rw [e];simp⟩) ?_
 .simp only [zX (show (i:Int)<(a.length:Int) by omega),zZ,aH,cBe hi,cBe hj,aA,bL (show i<=1000000000 by omega)]
  cases ((a[i].1==b[i].1)&&((a[i].2.1==b[i].2.1)&&((a[i].2.2.1==b[i].2.2.1)&&((a[i].2.2.2.1==b[i].2.2.2.1)&&((a[i].2.2.2.2==b[i].2.2.2.2)&&true)))))<;>rfl
 .simp only [zW (cBx _),zY]
theorem bOo {a b:den tPp} (h:a.2.2.2.length<=10000000):Cmp a b (tR a b):=by
 obtain ⟨v,e,k⟩:=aZb (a:=a.2.2.2) (b:=b.2.2.2) h
 unfold tR
 rw [e,aA]
 cases c1:a.1==b.1
 .exact ⟨false,rfl,fun e=>by subst e;simp at c1⟩
 .cases c2:a.2.1==b.2.1
  .exact ⟨false,rfl,fun e=>by subst e;simp at c2⟩
  .cases c3:a.2.2.1==b.2.2.1
   .exact ⟨false,rfl,fun e=>by subst e;simp at c3⟩
   .exact ⟨v,rfl,fun e=>by subst e;exact k rfl⟩
theorem aYy {a b:lPp} (h:a.length<=10000000) (hp: ∀ x∈a,x.2.2.2.length<=10000000):Cmp a b (qZ a b):=by
 unfold qZ pj4
 refine aEh a b _ (by omega) (fun i hi hj=> ?_) ?_
 .obtain ⟨v,e,k⟩:=bOo (a:=a[i]) (b:=b[i]) (hp _ (cBt hi))
  have e:tR (a[i].1,a[i].2.1,a[i].2.2.1,a[i].2.2.2) (b[i].1,b[i].2.1,b[i].2.2.1,b[i].2.2.2)=some v:=e
  refine ⟨v,?_,k⟩
  simp only [zX (show (i:Int)<(a.length:Int) by omega),zZ,aH,cBe hi,cBe hj,aA,bL (show i<=1000000000 by omega),e]
  cases v<;>rfl
 .simp only [zW (cBx _),zY]
theorem bIu {a b:lPt} (h:a.length<=10000000) (hp: ∀ p:lPp,p∈(show List lPp from a)->p.length<=10000000/\ ∀ x∈p,x.2.2.2.length<=10000000):Cmp a b (tW a b):=by
 unfold tW
 refine aEh a b _ (by omega) (fun i hi hj=> ?_) ?_
 .obtain ⟨h1,h2⟩:=hp a[i] (cBt hi)
  obtain ⟨v,e,k⟩:=aYy (a:=a[i]) (b:=b[i]) h1 h2
  refine ⟨v,?_,k⟩
  simp only [zX (show (i:Int)<(a.length:Int) by omega),zZ,aH,cBe hi,cBe hj,aA,bL (show i<=1000000000 by omega),e]
  cases v<;>rfl
 .simp only [zW (cBx _),zY]
theorem aZu {p:lPp} (h:SmB 10000000 tPt p):p.length<=10000000/\ ∀ x∈p,x.2.2.2.length<=10000000:=⟨h.1,fun x hx=>(h.2 x hx).2.2.2.1⟩
theorem bMp {a b:den tFl} (h:SmB 10000000 tFl a):Cmp a b (wH a b):=by
 obtain ⟨v1,e1,k1⟩:=aR4 (a:=a.2.2.2.2.1) (b:=b.2.2.2.2.1) h.2.2.2.2.1.1 (fun m hm=>(h.2.2.2.2.1.2 m hm).1)
 obtain ⟨v2,e2,k2⟩:=bIu (a:=a.2.2.2.2.2.1) (b:=b.2.2.2.2.2.1) h.2.2.2.2.2.1.1 (fun p hp=>aZu (h.2.2.2.2.2.1.2 p hp))
 obtain ⟨v3,e3,k3⟩:=bJm (a:=a.2.2.2.2.2.2.2.2) (b:=b.2.2.2.2.2.2.2.2) h.2.2.2.2.2.2.2.2.1
 unfold wH zz4 zz5 zz6 zz7 zz8
 rw [e1,aA,e2,aA,e3,aA]
 cases c0:a.1==b.1
 .exact ⟨false,rfl,fun e=>by subst e;simp at c0⟩
 .cases c1:a.2.1==b.2.1
  .exact ⟨false,rfl,fun e=>by subst e;simp at c1⟩
  .cases c2:a.2.2.1==b.2.2.1
   .exact ⟨false,rfl,fun e=>by subst e;simp at c2⟩
   .cases c3:a.2.2.2.1==b.2.2.2.1
    .exact ⟨false,rfl,fun e=>by subst e;simp at c3⟩
    .cases v1
     .exact ⟨false,rfl,fun e=>by subst e;cases k1 rfl⟩
     .cases v2
      .exact ⟨false,rfl,fun e=>by subst e;cases k2 rfl⟩
      .cases c6:a.2.2.2.2.2.2.1==b.2.2.2.2.2.2.1
       .exact ⟨false,rfl,fun e=>by subst e;simp at c6⟩
       .cases c7:a.2.2.2.2.2.2.2.1==b.2.2.2.2.2.2.2.1
        .exact ⟨false,rfl,fun e=>by subst e;simp at c7⟩
        .exact ⟨v3,rfl,fun e=>by subst e;exact k3 rfl⟩
theorem bTg {a b:den tPk} (h:SmB 10000000 tPk a):Cmp a b (sB a b):=by
 obtain ⟨h1,h2⟩:=aZu h.2.2.2.1
 obtain ⟨v1,e1,k1⟩:=aYy (a:=a.2.2.2.1) (b:=b.2.2.2.1) h1 h2
 obtain ⟨v2,e2,k2⟩:=bAo (a:=a.2.2.2.2.2.2.2.2.2) (b:=b.2.2.2.2.2.2.2.2.2) h.2.2.2.2.2.2.2.2.2.1
 unfold sB zz4 zz5 zz6 zz7 zz8 zz9
 rw [e1,aA,e2,aA]
 cases c0:a.1==b.1
 .exact ⟨false,rfl,fun e=>by subst e;simp at c0⟩
 .cases c1:a.2.1==b.2.1
  .exact ⟨false,rfl,fun e=>by subst e;simp at c1⟩
  .cases c2:a.2.2.1==b.2.2.1
   .exact ⟨false,rfl,fun e=>by subst e;simp at c2⟩
   .cases v1
    .exact ⟨false,rfl,fun e=>by subst e;cases k1 rfl⟩
    .cases c4:a.2.2.2.2.1==b.2.2.2.2.1
     .exact ⟨false,rfl,fun e=>by subst e;simp at c4⟩
     .cases c5:a.2.2.2.2.2.1==b.2.2.2.2.2.1
      .exact ⟨false,rfl,fun e=>by subst e;simp at c5⟩
      .cases c6:a.2.2.2.2.2.2.1==b.2.2.2.2.2.2.1
       .exact ⟨false,rfl,fun e=>by subst e;simp at c6⟩
       .cases c7:a.2.2.2.2.2.2.2.1==b.2.2.2.2.2.2.2.1
        .exact ⟨false,rfl,fun e=>by subst e;simp at c7⟩
        .cases c8:a.2.2.2.2.2.2.2.2.1==b.2.2.2.2.2.2.2.2.1
         .exact ⟨false,rfl,fun e=>by subst e;simp at c8⟩
         .exact ⟨v2,rfl,fun e=>by subst e;exact k2 rfl⟩
def Byt (l:List Int):Prop:= ∀ x∈l,0<=x/\x<=255
theorem bZd (bs:ByteArray): ∀ (n i:Nat) (r:List UInt8),n+i=bs.size->ByteArray.toList.loop bs i r=r.reverse++bs.data.toList.drop i:=by
 intro n
 induction n with
 | zero=>
  intro i r h
  unfold ByteArray.toList.loop
  rw [zS (by omega),List.drop_of_length_le (by rw [cD6];show bs.size<=i;omega),cCm]
 | succ n ih=>
  intro i r h
  unfold ByteArray.toList.loop
  rw [zT (by omega),ih (i+1) _ (by omega)]
  have hi:i<bs.data.toList.length:=by rw [cD6];show i<bs.size;omega
  rw [cEf hi,List.reverse_cons,List.append_assoc]
  congr 2
  simp [ByteArray.get!]
  rw [getElem!_pos bs.data i (by rw [<- cD6];exact hi)]
theorem bl (bs:ByteArray):bs.toList=bs.data.toList:=by
 unfold ByteArray.toList
 rw [bZd bs bs.size 0 [] (by omega)]
 simp
theorem aRx (l:List Int):(aAa l).toList=l.map fun n=>UInt8.ofNat n.toNat:=by
 rw [bl];rfl
theorem bLg {a b:List Int} (ha:Byt a) (hb:Byt b):((aAa a).toList==(aAa b).toList)=true↔a=b:=by
 rw [beq_iff_eq,aRx,aRx]
 constructor
 .intro h
  have hl:=congrArg cBw h
  simp only [cCl] at hl
  refine List.ext_getElem hl fun i h1 h2=> ?_
  have h3:(a.map fun n=>UInt8.ofNat n.toNat)[i]'(by simpa using h1)=(b.map fun n=>UInt8.ofNat n.toNat)[i]'(by simpa using h2):=by simp only [h]
  simp only [List.getElem_map] at h3
  have a1:=ha _ (cBt h1)
  have b1:=hb _ (cBt h2)
  have h4:=congrArg UInt8.toNat h3
  simp only [UInt8.toNat_ofNat'] at h4
  omega
 .intro h;rw [h]
def qA (l:dP):Option Int:=l.head?.map fun x=>(x.1:Int)
def gW (l:dP):Option Int:=l.getLast?.map fun x=>(x.1:Int)
def aMz (p:lPp):Option Int:=p.head?.bind fun x=>qA x.2.2.2
def aEu (p:lPp):Option Int:=p.getLast?.bind fun x=>gW x.2.2.2
theorem aY0 {s:den tSg} (h:s.2.2.length<=1000): ∃ v,eW s=some v/\(0<=v->gW s.2.2=some v):=by
 unfold eW
 by_cases h0:s.2.2.length=0
 .rw [show ((s.2.2.length:Int)==0)=true by rw [beq_iff_eq];omega,zZ]
  exact ⟨_,rfl,fun h=>absurd h (by decide)⟩
 .have w1:wr ((s.2.2.length:Int) - 1)=((s.2.2.length - 1:Nat):Int):=by rw [bX (by omega) (by omega)];omega
  rw [show ((s.2.2.length:Int)==0)=false by rw [beq_eq_false_iff_ne];omega,zY,w1,aH,cBe (by omega),aA]
  refine ⟨_,rfl,fun _=> ?_⟩
  unfold gW
  rw [List.getLast?_eq_getElem?,cBe (by omega)]
  rfl
theorem bK0 {s:den tSg}: ∃ v,cR s=some v/\(0<=v->qA s.2.2=some v):=by
 unfold cR
 by_cases h0:s.2.2.length=0
 .rw [show ((s.2.2.length:Int)==0)=true by rw [beq_iff_eq];omega,zZ]
  exact ⟨_,rfl,fun h=>absurd h (by decide)⟩
 .rw [show ((s.2.2.length:Int)==0)=false by rw [beq_eq_false_iff_ne];omega,zY,show (0:Int)=((0:Nat):Int) from rfl,aH,cBe (by omega),aA]
  refine ⟨_,rfl,fun _=> ?_⟩
  unfold qA
  rw [List.head?_eq_getElem?,cBe (by omega)]
  rfl
theorem bUy {s:den tSg} (h:s.2.2.length<=5) {k:Int} (hk:inR k 1 4=true) {m:Nat} (hm:m<s.2.2.length): ∃ t b:Int,bW s k (m:Int)=some (k,t,b,if kU k then (s.2.2.drop m).reverse else s.2.2.drop m):=by
 unfold bW pj3 pj4 pj5 zz4
 obtain ⟨b1,eb1⟩:=aCu (s:=s) (m:Int) (by omega)
 obtain ⟨b2,eb2⟩:=aCu (s:=s) (s.2.2.length:Int) (by omega)
 have eb1:iK (s.1,s.2.1,s.2.2) (m:Int)=some b1:=eb1
 have eb2:iK (s.1,s.2.1,s.2.2) (s.2.2.length:Int)=some b2:=eb2
 simp only [eR,aA,aS,bI,aZ,bA,bD,eb1,eb2,aD5]
 have w1:wr ((s.2.2.length:Int) - 1)=(s.2.2.length:Int) - 1:=bX (by omega) (by omega)
 have c1:inR (m:Int) 0 ((s.2.2.length:Int) - 1)=true:=bM.2 ⟨by omega,by omega⟩
 rw [w1,c1,hk]
 simp only [cBh,zY,aA]
 cases kU k with
 | false=>
  have e1:cC (m:Int) (s.2.2.length:Int) (s.2.2.length:Int)=true:=yM (by omega)
  rw [e1,aCy,aE (b:=40) (by decide) (by simp;omega)]
  exact ⟨_,_,rfl⟩
 | true=>
  refine jC (G:=fun o=> ∃ t b:Int,o=some (k,t,b,(s.2.2.drop m).reverse)) (fun (n:Nat) (t:Int×q24)=>t=((n:Int) - 1,k,s.1,b2,(s.2.2.drop n).reverse)/\m<=n/\n<=s.2.2.length) (fun q:den tPp=>q=(k,s.1,b2,(s.2.2.drop m).reverse)) ?_ s.2.2.length ((s.2.2.length:Int) - 1,k,s.1,b2,[]) ⟨by rw [List.drop_length];rfl,by omega,cBs _⟩ (fun q hq=>⟨s.1,b2,by rw [hq]⟩)
  rintro n _ ⟨rfl,g1,g2⟩
  by_cases hn:(n:Int) - 1>=(m:Int)
  .right
   have hn1:(n:Int) - 1=((n - 1:Nat):Int):=by omega
   have hi:n - 1<s.2.2.length:=by omega
   have hd:(s.2.2.drop (n - 1)).reverse=(s.2.2.drop n).reverse++[s.2.2[n - 1]]:=by
    rw [cEf hi,List.reverse_cons,show n - 1+1=n by omega]
   refine ⟨n - 1,(((n - 1:Nat):Int) - 1,k,s.1,b2,(s.2.2.drop (n - 1)).reverse),by omega,?_,rfl,by omega,by omega⟩
   simp only [zX hn,zZ,aE (b:=40) (n:=(s.2.2.drop n).reverse.length) (m:=1) (by decide) (by simp;omega)]
   rw [hn1,aH,cBe hi,aA,bX (n:=((n - 1:Nat):Int) - 1) (by omega) (by omega),hd]
  .left
   have hnm:n=m:=by omega
   subst hnm
   exact ⟨_,by simp only [zW hn,zY],rfl⟩
theorem aDd {s:den tSg} (h:s.2.2.length<=5) {k:Int} (hk:inR k 1 4=true) {m:Nat} (hm:m<s.2.2.length): ∃ q:den tPp,bW s k (m:Int)=some q/\q.2.2.2.length<=5/\qA q.2.2.2=(if kU k then gW s.2.2 else some s.2.2[m].1)/\gW q.2.2.2=(if kU k then some s.2.2[m].1 else gW s.2.2):=by
 obtain ⟨t,b,e⟩:=bUy h hk hm
 have hl:gW (s.2.2.drop m)=gW s.2.2:=by
  unfold gW
  rw [List.getLast?_drop,zS (by omega)]
 have hf:qA (s.2.2.drop m)=some s.2.2[m].1:=by
  unfold qA
  rw [List.head?_drop,cBe hm];rfl
 refine ⟨_,e,?_,?_,?_⟩
 .show (if kU k then _ else _:dP).length<=5
  split<;>simp only [List.length_reverse,cDl]<;>omega
 .show qA (if kU k then _ else _)=_
  split
  .rw [<- hl];unfold qA gW;rw [List.head?_reverse]
  .exact hf
 .show gW (if kU k then _ else _)=_
  split
  .rw [<- hf];unfold qA gW;rw [List.getLast?_reverse]
  .exact hl
def aWd (r:Int) (n:Nat) (l:lSg):Prop:=aK2 n l/\ ∀ x∈l,gW x.2.2=some r
theorem aQy {n:Nat} (hn:n<=100) {d cc:lSg} (hk:DbD n d cc) {r:Int} (hr:0<=r): ∃ l,eA (d,cc) r=some l/\aWd r n l:=by
 have hd:=hk.down
 unfold eA pj3
 refine cE (G:=fun o=> ∃ l,o=some l/\aWd r n l) d.length (fun s:Int×lSg=>s.1) (fun i s=>aWd r i s.2) (fun l:lSg=>aWd r n l) ?_ ?_ 0 ((0:Int),[]) (by omega) rfl ⟨⟨by simp,fun x hx=>(cB2 hx).elim⟩,fun x hx=>(cB2 hx).elim⟩ (fun l hl=>⟨l,rfl,hl⟩)
 .rintro i ⟨_,l⟩ hi rfl ⟨⟨g1,g2⟩,g3⟩
  simp only at g1 g2 g3
  right
  have h5:=hk.hd d[i] (cBt hi)
  obtain ⟨v,ev,hv⟩:=aY0 (s:=d[i]) (by omega)
  have ev:eW (d[i].1,d[i].2.1,d[i].2.2)=some v:=ev
  have ec:=aGs (x:=d[i]) (by omega)
  have ec:gQ (d[i].1,d[i].2.1,d[i].2.2)=some d[i]:=ec
  simp only [zX (show (i:Int)<(d.length:Int) by omega),zZ,aH,cBe hi,aA,ev,ec,aE (b:=40) (n:=l.length) (m:=1) (by decide) (by omega),bL (show i<=1000000000 by omega)]
  cases hvr:(v==r) with
  | true=>
   have hvr:v=r:=eq_of_beq hvr
   exact ⟨_,rfl,rfl,⟨by simp;omega,fun x hx=>(cBp.1 hx).elim (g2 x) fun hx=>by rw [cBn.1 hx];exact h5⟩,fun x hx=>(cBp.1 hx).elim (g3 x) fun hx=>by rw [cBn.1 hx,<- hvr];exact hv (by omega)⟩
  | false=>exact ⟨_,rfl,rfl,⟨by show l.length<=i+1;omega,g2⟩,g3⟩
 .rintro ⟨_,l⟩ rfl ⟨⟨g1,g2⟩,g3⟩
  exact ⟨l,by simp only [zW (cBx _),zY],⟨by simp only at g1;omega,g2⟩,g3⟩
def aWf (a b:Int) (n:Nat) (l:lSg):Prop:=aK2 n l/\ ∀ x∈l,qA x.2.2=some a/\gW x.2.2=some b
theorem bRo {n:Nat} (hn:n<=100) {d cc:lSg} (hk:DbD n d cc) {a b:Int} (ha:0<=a) (hb:0<=b): ∃ l,oV (d,cc) a b=some l/\aWf a b n l:=by
 have hd:=hk.core
 unfold oV pj3
 refine cE (G:=fun o=> ∃ l,o=some l/\aWf a b n l) cc.length (fun s:Int×lSg=>s.1) (fun i s=>aWf a b i s.2) (fun l:lSg=>aWf a b n l) ?_ ?_ 0 ((0:Int),[]) (by omega) rfl ⟨⟨by simp,fun x hx=>(cB2 hx).elim⟩,fun x hx=>(cB2 hx).elim⟩ (fun l hl=>⟨l,rfl,hl⟩)
 .rintro i ⟨_,l⟩ hi rfl ⟨⟨g1,g2⟩,g3⟩
  simp only at g1 g2 g3
  right
  have h5:=hk.hc cc[i] (cBt hi)
  obtain ⟨v,ev,hv⟩:=aY0 (s:=cc[i]) (by omega)
  have ev:eW (cc[i].1,cc[i].2.1,cc[i].2.2)=some v:=ev
  obtain ⟨u,eu,hu⟩:=bK0 (s:=cc[i])
  have eu:cR (cc[i].1,cc[i].2.1,cc[i].2.2)=some u:=eu
  have ec:=aGs (x:=cc[i]) (by omega)
  have ec:gQ (cc[i].1,cc[i].2.1,cc[i].2.2)=some cc[i]:=ec
  simp only [zX (show (i:Int)<(cc.length:Int) by omega),zZ,aH,cBe hi,aA,ev,eu,ec,aE (b:=40) (n:=l.length) (m:=1) (by decide) (by omega),bL (show i<=1000000000 by omega)]
  cases hua:(u==a) with
  | true=>
   simp only [zZ,aA]
   cases hvb:(v==b) with
   | true=>
    have hua:u=a:=eq_of_beq hua
    have hvb:v=b:=eq_of_beq hvb
    exact ⟨_,rfl,rfl,⟨by simp;omega,fun x hx=>(cBp.1 hx).elim (g2 x) fun hx=>by rw [cBn.1 hx];exact h5⟩,fun x hx=>(cBp.1 hx).elim (g3 x) fun hx=>by rw [cBn.1 hx,<- hua,<- hvb];exact ⟨hu (by omega),hv (by omega)⟩⟩
   | false=>exact ⟨_,rfl,rfl,⟨by show l.length<=i+1;omega,g2⟩,g3⟩
  | false=>exact ⟨_,rfl,rfl,⟨by show l.length<=i+1;omega,g2⟩,g3⟩
 .rintro ⟨_,l⟩ rfl ⟨⟨g1,g2⟩,g3⟩
  exact ⟨l,by simp only [zW (cBx _),zY],⟨by simp only at g1;omega,g2⟩,g3⟩
theorem bXx {s:den tSg} (h:s.2.2.length<=1000) (r:Int): ∃ v,pD s r=some v/\(0<=v-> ∃ (m:Nat) (x:den cM),v=(m:Int)/\s.2.2[m]? =some x/\x.1=r):=by
 unfold pD
 refine cE (G:=fun o=> ∃ v,o=some v/\(0<=v-> ∃ (m:Nat) (x:den cM),v=(m:Int)/\s.2.2[m]? =some x/\x.1=r)) s.2.2.length (fun s:Int=>s) (fun i t=>True) (fun z:Unit⊕Int=> ∀ v,z= .inr v-> ∃ (m:Nat) (x:den cM),v=(m:Int)/\s.2.2[m]? =some x/\x.1=r) ?_ ?_ 0 (0:Int) (by omega) rfl trivial ?_
 .rintro i _ hi rfl _
  simp only [zX (show (i:Int)<(s.2.2.length:Int) by omega),zZ,aH,cBe hi,aA,bL (show i<=1000000000 by omega)]
  cases hx:(s.2.2[i].1==r) with
  | true=>exact .inl ⟨_,rfl,fun v hv=>by cases hv;exact ⟨i,s.2.2[i],rfl,cBe hi,eq_of_beq hx⟩⟩
  | false=>exact .inr ⟨_,rfl,rfl,trivial⟩
 .rintro _ rfl _
  exact ⟨.inl (),by simp only [zW (cBx _),zY],fun v hv=>by cases hv⟩
 .rintro z hz
  cases z with
  | inl u=>exact ⟨-1,rfl,fun h=>absurd h (by decide)⟩
  | inr v=>exact ⟨v,rfl,fun _=>hz v rfl⟩
def aSb (a b:Int) (p:den tPt):Prop:=oM p/\aMz p=some a/\aEu p=some b
def cD (a b:Int) (n:Nat) (l:lPt):Prop:=l.length<=n/\ ∀ p∈l,aSb a b p
theorem cD.add {a b:Int} {n m:Nat} {k l:lPt} (ha:cD a b n k) (hb:cD a b m l):cD a b (n+m) (k++l):=⟨by rw [cCd];have :=ha.1;have :=hb.1;omega,fun p hp=>(cBp.1 hp).elim (ha.2 p) (hb.2 p)⟩
theorem cD.one {a b:Int} {p:den tPt} (h:aSb a b p):cD a b 1 [p]:=⟨by simp,fun q hq=>by rw [cBn.1 hq];exact h⟩
theorem cD.mono {a b:Int} {n m:Nat} {l:lPt} (h:cD a b n l) (hm:n<=m):cD a b m l:=⟨cBf h.1 hm,h.2⟩
theorem cD.d {a b:Int} {n:Nat} {l:lPt} (h:cD a b n l):yE n l:=⟨h.1,fun p hp=>(h.2 p hp).1⟩
theorem bIq {up core down:den tSg} (h1:up.2.2.length<=5) (h2:core.2.2.length<=5) (h3:down.2.2.length<=5) (b:Bool) (hc:0<core.2.2.length) {x y:Int}
  (hx:(up.2.2.length=0/\(if b then gW core.2.2 else qA core.2.2)=some x)\/(0<up.2.2.length/\gW up.2.2=some x))
  (hy:(down.2.2.length=0/\(if b then qA core.2.2 else gW core.2.2)=some y)\/(0<down.2.2.length/\gW down.2.2=some y)): ∃ p,nO up core b down=some p/\aSb x y p:=by
 have h0:qA core.2.2=some core.2.2[0].1:=by
  unfold qA
  rw [List.head?_eq_getElem?,cBe hc];rfl
 obtain ⟨q2,e2,k2,f2,l2⟩:=aDd (s:=core) h2 (k:=cond b 3 2) (m:=0) (by cases b<;>rfl) hc
 have e2:bW (core.1,core.2.1,core.2.2) (cond b 3 2) 0=some q2:=e2
 have eb:(cond b (some (3:Int)) (some (2:Int)))=some (cond b 3 2):=by cases b<;>rfl
 have F2:qA q2.2.2.2=(if b then gW core.2.2 else qA core.2.2):=by rw [f2,h0];cases b<;>rfl
 have L2:gW q2.2.2.2=(if b then qA core.2.2 else gW core.2.2):=by rw [l2,h0];cases b<;>rfl
 have dc:decide ((core.2.2.length:Int)>(0:Int))=true:=zX (by omega)
 obtain ⟨q1,e1,k1⟩:=zI (s:=up) h1 1 0
 obtain ⟨q3,e3,k3⟩:=zI (s:=down) h3 4 0
 have e1':bW (up.1,up.2.1,up.2.2) 1 0=some q1:=e1
 have e3':bW (down.1,down.2.1,down.2.2) 4 0=some q3:=e3
 have F1:0<up.2.2.length->qA q1.2.2.2=gW up.2.2:=fun hu=>by
  obtain ⟨q,e,_,f,_⟩:=aDd (s:=up) h1 (k:=1) (m:=0) rfl hu
  have :some q1=some q:=e1.symm.trans e
  injection this with this
  rw [this,f];rfl
 have L3:0<down.2.2.length->gW q3.2.2.2=gW down.2.2:=fun hu=>by
  obtain ⟨q,e,_,_,l⟩:=aDd (s:=down) h3 (k:=4) (m:=0) rfl hu
  have :some q3=some q:=e3.symm.trans e
  injection this with this
  rw [this,l];rfl
 unfold nO pj3 pj4
 rw [eb]
 simp only [e1',e2,e3',aA,dc,zZ]
 rw [show aM 48 0 1=true from by decide]
 rcases hx with ⟨hu,hx⟩ | ⟨hu,hx⟩
 .rw [zW (show ¬ ((up.2.2.length:Int)>0) by omega)]
  rcases hy with ⟨hd,hy⟩ | ⟨hd,hy⟩
  .rw [zW (show ¬ ((down.2.2.length:Int)>0) by omega)]
   exact ⟨[q2],rfl,aLg k2,by show qA q2.2.2.2=_;rw [F2,hx],by show gW q2.2.2.2=_;rw [L2,hy]⟩
  .rw [zX (show (down.2.2.length:Int)>0 by omega)]
   refine ⟨[q2,q3],rfl,⟨cEg rfl,fun z hz=> ?_⟩,by show qA q2.2.2.2=_;rw [F2,hx],by show gW q3.2.2.2=_;rw [L3 hd,hy]⟩
   have hz:z∈[q2,q3]:=hz
   simp only [cBk,cB2,or_false] at hz
   rcases hz with rfl | rfl
   .exact k2
   .exact k3
 .rw [zX (show (up.2.2.length:Int)>0 by omega)]
  rcases hy with ⟨hd,hy⟩ | ⟨hd,hy⟩
  .rw [zW (show ¬ ((down.2.2.length:Int)>0) by omega)]
   refine ⟨[q1,q2],rfl,⟨cEg rfl,fun z hz=> ?_⟩,by show qA q1.2.2.2=_;rw [F1 hu,hx],by show gW q2.2.2.2=_;rw [L2,hy]⟩
   have hz:z∈[q1,q2]:=hz
   simp only [cBk,cB2,or_false] at hz
   rcases hz with rfl | rfl
   .exact k1
   .exact k2
  .rw [zX (show (down.2.2.length:Int)>0 by omega)]
   refine ⟨[q1,q2,q3],rfl,⟨cEg rfl,fun z hz=> ?_⟩,by show qA q1.2.2.2=_;rw [F1 hu,hx],by show gW q3.2.2.2=_;rw [L3 hd,hy]⟩
   have hz:z∈[q1,q2,q3]:=hz
   simp only [cBk,cB2,or_false] at hz
   rcases hz with rfl | rfl | rfl
   .exact k1
   .exact k2
   .exact k3
def bOj (up:den tSg) (a x:Int):Prop:=(up.2.2.length=0/\a=x)\/(0<up.2.2.length/\gW up.2.2=some x)
theorem aQ0 {n:Nat} (hn:n<=100) {d cc:lSg} (hk:DbD n d cc) {up down:den tSg} (h1:up.2.2.length<=5) (h3:down.2.2.length<=5) {a b x y:Int} (ha:0<=a) (hb:0<=b) (hx:bOj up a x) (hy:bOj down b y): ∃ l,jL (d,cc) up a b down=some l/\cD x y (2 * n) l:=by
 obtain ⟨y1,e1,⟨f1,g1⟩,b1⟩:=bRo hn hk ha hb
 obtain ⟨y2,e2,⟨f2,g2⟩,b2⟩:=bRo hn hk hb ha
 unfold jL ixb pj2 pj3
 rw [e1,aA]
 refine cE (G:=fun o=> ∃ l,o=some l/\cD x y (2 * n) l) y1.length (fun s:Int×lPt=>s.1) (fun i s=>cD x y i s.2) (fun l:lPt=>cD x y n l) ?_ ?_ 0 ((0:Int),[]) (by omega) rfl ⟨by simp,fun x hx=>(cB2 hx).elim⟩ ?_
 .rintro i ⟨_,l⟩ hi rfl hp
  simp only at hp
  have hl:=hp.1
  right
  have hpos:0<y1[i].2.2.length:=by
   have :=(b1 y1[i] (cBt hi)).1
   cases h0:y1[i].2.2 with
   | nil=>rw [h0] at this;cases this
   | cons z l=>exact Nat.succ_pos _
  obtain ⟨p,ep,kp⟩:=bIq h1 (g1 y1[i] (cBt hi)) h3 false hpos (x:=x) (y:=y) (hx.imp (fun h=>⟨h.1,by rw [<- h.2];exact (b1 y1[i] (cBt hi)).1⟩) id) (hy.imp (fun h=>⟨h.1,by rw [<- h.2];exact (b1 y1[i] (cBt hi)).2⟩) id)
  have ep:nO (up.1,up.2.1,up.2.2) (y1[i].1,y1[i].2.1,y1[i].2.2) false (down.1,down.2.1,down.2.2)=some p:=ep
  refine ⟨(((i+1:Nat):Int),l++[p]),?_,rfl,hp.add (m:=1) ⟨by simp,fun q hq=>by rw [cBn.1 hq];exact kp⟩⟩
  simp only [zX (show (i:Int)<(y1.length:Int) by omega),zX (show (0:Int)<=(i:Int) by omega),zZ,cBo,cBe hi,aA,ep,aE (b:=24) (n:=l.length) (m:=1) (by decide) (by omega),bL (show i<=1000000000 by omega)]
 .rintro ⟨_,l⟩ rfl hp
  simp only at hp
  exact ⟨l,by simp only [zW (cBx _),zY],cBf hp.1 f1,hp.2⟩
 rintro l1 hl1
 rw [e2,aA]
 refine cE (G:=fun o=> ∃ l,o=some l/\cD x y (2 * n) l) y2.length (fun s:Int×lPt=>s.1) (fun i s=>cD x y (n+i) s.2) (fun l:lPt=>cD x y (2 * n) l) ?_ ?_ 0 ((0:Int),l1) (by omega) rfl hl1 (fun l hl=>⟨l,rfl,hl⟩)
 .rintro i ⟨_,l⟩ hi rfl hp
  simp only at hp
  have hl:=hp.1
  right
  have hpos:0<y2[i].2.2.length:=by
   have :=(b2 y2[i] (cBt hi)).1
   cases h0:y2[i].2.2 with
   | nil=>rw [h0] at this;cases this
   | cons z l=>exact Nat.succ_pos _
  obtain ⟨p,ep,kp⟩:=bIq h1 (g2 y2[i] (cBt hi)) h3 true hpos (x:=x) (y:=y) (hx.imp (fun h=>⟨h.1,by rw [<- h.2];exact (b2 y2[i] (cBt hi)).2⟩) id) (hy.imp (fun h=>⟨h.1,by rw [<- h.2];exact (b2 y2[i] (cBt hi)).1⟩) id)
  have ep:nO (up.1,up.2.1,up.2.2) (y2[i].1,y2[i].2.1,y2[i].2.2) true (down.1,down.2.1,down.2.2)=some p:=ep
  refine ⟨(((i+1:Nat):Int),l++[p]),?_,rfl,hp.add (m:=1) ⟨by simp,fun q hq=>by rw [cBn.1 hq];exact kp⟩⟩
  simp only [zX (show (i:Int)<(y2.length:Int) by omega),zX (show (0:Int)<=(i:Int) by omega),zZ,cBo,cBe hi,aA,ep,aE (b:=24) (n:=l.length) (m:=1) (by decide) (by omega),bL (show i<=1000000000 by omega)]
 .rintro ⟨_,l⟩ rfl hp
  simp only at hp
  exact ⟨l,by simp only [zW (cBx _),zY],cBf hp.1 (by omega),hp.2⟩
def aN3 (a b:Int) (p:den tPt):Prop:=p=[]\/aSb a b p
theorem bYs {up down:den tSg} (h1:up.2.2.length<=5) (h2:down.2.2.length<=5) {x y:Int} (hx:gW up.2.2=some x) (hy:gW down.2.2=some y): ∃ p,jO up down=some p/\aN3 x y p:=by
 obtain ⟨y1,e1,l1⟩:=aEj (s:=up) (by omega)
 obtain ⟨y2,e2,l2⟩:=aEj (s:=down) (by omega)
 have e1:dJ (up.1,up.2.1,up.2.2)=some y1:=e1
 have e2:dJ (down.1,down.2.1,down.2.2)=some y2:=e2
 have hm: ∃ p,jZ up down=some p/\aN3 x y p:=by
  unfold jZ ixb pj3 pj4
  rw [e1,aA,e2,aA,aC1 (n:=y1.length) (by omega)]
  refine jC (G:=fun o=> ∃ p,o=some p/\aN3 x y p) (fun (n:Nat) (s:Int)=>s=(n:Int) - 1/\n<=y1.length) (fun z:Unit⊕den tPt=> ∀ p,z= .inr p->aN3 x y p) ?_ y1.length ((y1.length:Int) - 1) ⟨rfl,cBs _⟩ ?_
  .rintro n _ ⟨rfl,hn⟩
   by_cases h0:(n:Int) - 1>=0
   .simp only [zX h0,zZ]
    have hn1:(n:Int) - 1=((n - 1:Nat):Int):=by omega
    have hi:n - 1<y1.length:=by omega
    rw [aC1 (n:=y2.length) (by omega)]
    refine jC (G:=fun (o:Option (Int⊕(Unit⊕den tPt)))=>(∃ r:Unit⊕den tPt,o=some (cBc r)/\ ∀ p,r=cBc p->aN3 x y p)\/ ∃ (m:Nat) (s':Int),m<n/\o=some (cBd s')/\s'=(m:Int) - 1/\m<=y1.length) (fun (k:Nat) (s:Int)=>s=(k:Int) - 1/\k<=y2.length) (fun z:Unit⊕(Int⊕(Unit⊕den tPt))=>z= .inl ()\/ ∃ p,z= .inr (.inr (.inr p))/\aN3 x y p) ?_ y2.length ((y2.length:Int) - 1) ⟨rfl,cBs _⟩ ?_
    .rintro k _ ⟨rfl,hk⟩
     by_cases g0:(k:Int) - 1>=0
     .have hk1:(k:Int) - 1=((k - 1:Nat):Int):=by omega
      have hj:k - 1<y2.length:=by omega
      simp only [hn1,hk1,zX (show ((k - 1:Nat):Int)>=0 by omega),zX (show (0:Int)<=((n - 1:Nat):Int) by omega),zX (show (0:Int)<=((k - 1:Nat):Int) by omega),zX (show ((n - 1:Nat):Int)<(y1.length:Int) by omega),zX (show ((k - 1:Nat):Int)<(y2.length:Int) by omega),zZ,cBo,cBe hi,cBe hj,aA]
      cases y1[n - 1]==y2[k - 1] with
      | true=>
       obtain ⟨q1,f1,g1,u1,u2⟩:=aDd (s:=up) h1 (k:=1) (m:=n - 1) rfl (by omega)
       obtain ⟨q2,f2,g2,v1,v2⟩:=aDd (s:=down) h2 (k:=4) (m:=k - 1) rfl (by omega)
       have f1:bW (up.1,up.2.1,up.2.2) 1 ((n - 1:Nat):Int)=some q1:=f1
       have f2:bW (down.1,down.2.1,down.2.2) 4 ((k - 1:Nat):Int)=some q2:=f2
       exact .inl ⟨.inr (.inr (.inr [q1,q2])),by simp only [zZ,f1,f2,aA],.inr ⟨[q1,q2],rfl,.inr ⟨⟨cEg rfl,fun x hx=>by
        have hx:x∈[q1,q2]:=hx
        simp only [cBk,cB2,or_false] at hx
        rcases hx with rfl | rfl
        .exact g1
        .exact g2⟩,u1.trans hx,v2.trans hy⟩⟩⟩
      | false=>exact .inr ⟨k - 1,((k - 1:Nat):Int) - 1,by omega,by simp only [zY,aC1 (n:=k - 1) (by omega)],rfl,by omega⟩
     .exact .inl ⟨.inl (),by simp only [zW g0,zY],.inl rfl⟩
    .rintro z (rfl | ⟨p,rfl,hp⟩)
     .exact .inr ⟨n - 1,((n - 1:Nat):Int) - 1,by omega,by simp only [cCj,hn1,aC1 (n:=n - 1) (by omega)],rfl,by omega⟩
     .exact .inl ⟨.inr p,rfl,fun q hq=>by cases hq;exact hp⟩
   .exact .inl ⟨.inl (),by simp only [zW h0,zY],fun p hp=>by cases hp⟩
  .rintro z hz
   cases z with
   | inl u=>exact ⟨[],rfl,.inl rfl⟩
   | inr p=>exact ⟨p,rfl,hz p rfl⟩
 obtain ⟨p,ep,kp⟩:=hm
 have ep:jZ (up.1,up.2.1,up.2.2) (down.1,down.2.1,down.2.2)=some p:=ep
 exact ⟨p,by unfold jO pj3;rw [ep,aA],kp⟩
theorem bRv {y:lSg} {n:Nat} (hn:n<=100) (hy:aK2 n y) (kind r:Int) {a b:Int} (hk4:inR kind 1 4=true) (hends: ∀ s∈y,∀ (m:Nat) (x:den cM),s.2.2[m]? =some x->x.1=r->(if kU kind then gW s.2.2 else some x.1)=some a/\(if kU kind then some x.1 else gW s.2.2)=some b) {m:Nat} (hm:m<=10000) {l0:lPt} (h0:cD a b m l0) {T:Type} {k:lPt->Option T} {G:Option T->Prop} (hk: ∀ l,cD a b (m+n) l->G (k l)):
  G (Option.bind (aC (fun (s8:Int×lPt)=>cond (decide (s8.1<(y.length:Int))) (Option.bind (cond (decide ((0:Int)<=s8.1)) (cond (decide (s8.1<(y.length:Int))) (Option.bind y[s8.1.toNat]? fun x9=>Option.bind (pD (x9.1,x9.2.1,x9.2.2) r) fun y10=>cond (decide (y10>=(0:Int))) (cond (decide ((0:Int)<=s8.1)) (cond (decide (s8.1<(y.length:Int))) (Option.bind y[s8.1.toNat]? fun x11=>Option.bind (bW (x11.1,x11.2.1,x11.2.2) kind y10) fun y12=>cond (aM 24 s8.2.length 1) (some (s8.2++[[(y12.1,y12.2.1,y12.2.2.1,y12.2.2.2)]])) none) none) none) (some s8.2)) none) none) fun (s13:lPt)=>some (cBd (wr (s8.1+(1:Int)),s13))) (some (cBc s8.2))) ((0:Int),l0)) k):=by
 obtain ⟨hy1,hy2⟩:=hy
 refine cE (G:=G) y.length (fun s:Int×lPt=>s.1) (fun i s=>cD a b (m+i) s.2) (fun l:lPt=>cD a b (m+n) l) ?_ ?_ 0 ((0:Int),l0) (by omega) rfl h0 hk
 .rintro i ⟨_,l⟩ hi rfl hp
  simp only at hp
  have hl:=hp.1
  have h5:=hy2 y[i] (cBt hi)
  obtain ⟨v,ev,iv⟩:=bXx (s:=y[i]) (by omega) r
  have ev:pD (y[i].1,y[i].2.1,y[i].2.2) r=some v:=ev
  right
  by_cases hv:v>=0
  .obtain ⟨m',x',rfl,hx',hr'⟩:=iv hv
   obtain ⟨hm',ex'⟩:=cBm.1 hx'
   obtain ⟨q,eq,kq,u1,u2⟩:=aDd (s:=y[i]) h5 hk4 hm'
   obtain ⟨z1,z2⟩:=hends y[i] (cBt hi) m' x' hx' hr'
   rw [ex'] at u1 u2
   have eq:bW (y[i].1,y[i].2.1,y[i].2.2) kind (m':Int)=some q:=eq
   simp only [zX (show (i:Int)<(y.length:Int) by omega),zX (show (0:Int)<=(i:Int) by omega),zZ,cBo,cBe hi,aA,ev,eq,zX hv,aE (b:=24) (n:=l.length) (m:=1) (by decide) (by omega),bL (show i<=1000000000 by omega)]
   exact ⟨_,rfl,rfl,hp.add (cD.one (p:=[q]) ⟨aLg kq,u1.trans z1,u2.trans z2⟩)⟩
  .simp only [zX (show (i:Int)<(y.length:Int) by omega),zX (show (0:Int)<=(i:Int) by omega),zZ,cBo,cBe hi,aA,ev,zW hv,zY,bL (show i<=1000000000 by omega)]
   exact ⟨_,rfl,rfl,hp.mono (by omega)⟩
 .rintro ⟨_,l⟩ rfl hp
  simp only at hp
  exact ⟨l,by simp only [zW (cBx _),zY],hp.mono (by omega)⟩
theorem bVt {n:Nat} (hn:n<=100) {d cc:lSg} (hk:DbD n d cc) {a b:Int} (ha:0<=a) (hb:0<=b): ∃ l,xA (d,cc) a b=some l/\cD a b (4 * n) l:=by
 obtain ⟨y1,e1,g1,w1⟩:=aQy hn hk ha
 obtain ⟨y2,e2,g2,w2⟩:=aQy hn hk hb
 obtain ⟨y3,e3,g3⟩:=aQ0 hn hk (up:=(0,0,[])) (down:=(0,0,[])) (by simp) (by simp) ha hb (.inl ⟨rfl,rfl⟩) (.inl ⟨rfl,rfl⟩)
 unfold xA ixb pj2 pj3 pj4
 rw [e1,aA]
 refine bRv hn g1 1 b (a:=a) (b:=b) rfl (fun s hs m x hx hr=>⟨w1 s hs,by show some x.1=some b;rw [hr]⟩) (m:=0) (by omega) (l0:=[]) ⟨by simp,fun x hx=>(cB2 hx).elim⟩ (G:=fun o=> ∃ l,o=some l/\cD a b (4 * n) l) (fun l hl=> ?_)
 rw [e2,aA]
 refine bRv hn g2 4 a (a:=a) (b:=b) rfl (fun s hs m x hx hr=>⟨by show some x.1=some a;rw [hr],w2 s hs⟩) (m:=0+n) (by omega) hl (G:=fun o=> ∃ l,o=some l/\cD a b (4 * n) l) (fun l hl=> ?_)
 have h1:=hl.1
 have h2:=g3.1
 rw [e3,aA,aE (b:=24) (by decide) (by omega)]
 exact ⟨_,rfl,(hl.add g3).mono (by omega)⟩
theorem aKs {s:den tSg} {a x:Int} (h:gW s.2.2=some x):bOj s a x:=by
 cases h0:s.2.2 with
 | nil=>rw [h0] at h;cases h
 | cons z l=>exact .inr ⟨by rw [h0];exact Nat.succ_pos _,h⟩
theorem aRq {s:den tSg} {x:Int} (h:gW s.2.2=some x) (hi:aG3 s.2.2): ∃ v,cR s=some v/\0<=v:=by
 have hp:0<s.2.2.length:=by
  cases h0:s.2.2 with
  | nil=>rw [h0] at h;cases h
  | cons z l=>exact Nat.succ_pos _
 unfold cR
 rw [show ((s.2.2.length:Int)==0)=false by rw [beq_eq_false_iff_ne];omega,zY,show (0:Int)=((0:Nat):Int) from rfl,aH,cBe hp,aA]
 exact ⟨_,rfl,(hi _ (cBt hp)).1⟩
theorem bH8 {n:Nat} (hn:n<=100) {d cc:lSg} (hk:DbD n d cc) (r:Int): ∃ l,eA (d,cc) r=some l/\(aK2 n l/\ ∀ x∈l,x∈d):=by
 have hd:=hk.down
 unfold eA pj3
 refine cE (G:=fun o=> ∃ l,o=some l/\(aK2 n l/\ ∀ x∈l,x∈d)) d.length (fun s:Int×lSg=>s.1) (fun i s=>(aK2 i s.2/\ ∀ x∈s.2,x∈d)) (fun l:lSg=>(aK2 n l/\ ∀ x∈l,x∈d)) ?_ ?_ 0 ((0:Int),[]) (by omega) rfl ⟨⟨by simp,fun x hx=>(cB2 hx).elim⟩,fun x hx=>(cB2 hx).elim⟩ (fun l hl=>⟨l,rfl,hl⟩)
 .rintro i ⟨_,l⟩ hi rfl ⟨⟨g1,g2⟩,g3⟩
  simp only at g1 g2 g3
  right
  have h5:=hk.hd d[i] (cBt hi)
  obtain ⟨v,ev⟩:=aVo (s:=d[i]) (by omega)
  have ev:eW (d[i].1,d[i].2.1,d[i].2.2)=some v:=ev
  have ec:=aGs (x:=d[i]) (by omega)
  have ec:gQ (d[i].1,d[i].2.1,d[i].2.2)=some d[i]:=ec
  simp only [zX (show (i:Int)<(d.length:Int) by omega),zZ,aH,cBe hi,aA,ev,ec,aE (b:=40) (n:=l.length) (m:=1) (by decide) (by omega),bL (show i<=1000000000 by omega)]
  cases v==r with
  | true=>exact ⟨_,rfl,rfl,⟨by simp;omega,fun x hx=>(cBp.1 hx).elim (g2 x) fun hx=>by rw [cBn.1 hx];exact h5⟩,fun x hx=>(cBp.1 hx).elim (g3 x) fun hx=>by rw [cBn.1 hx];exact cBt hi⟩
  | false=>exact ⟨_,rfl,rfl,⟨by show l.length<=i+1;omega,g2⟩,g3⟩
 .rintro ⟨_,l⟩ rfl ⟨⟨g1,g2⟩,g3⟩
  exact ⟨l,by simp only [zW (cBx _),zY],⟨by simp only at g1;omega,g2⟩,g3⟩
theorem aXr {d cc:lSg} (hk:DbD 13 d cc) {r:Int} {l:lSg} (h:eA (d,cc) r=some l): ∀ x∈l,aG3 x.2.2:=by
 obtain ⟨l',e,_,hm⟩:=bH8 (n:=13) (by decide) hk r
 have :some l=some l':=h.symm.trans e
 injection this with this
 rw [this]
 exact fun x hx=>(hk.ha x (hm x hx)).2
theorem bY8 {as:lAS} {ls:lLk} (ht:aAo as ls) {d cc:lSg} (hk:DbD 13 d cc) {a b:Int} (ha:0<=a) (hb:0<=b): ∃ l,oK (as,ls) (d,cc) a b=some l/\cD a b 10000 l:=by
 have hlen:=ht.len
 unfold oK ixb pj2 pj3
 rw [aCa (t:=(as,ls)) (show as.length<=_ by omega),aCa (t:=(as,ls)) (show as.length<=_ by omega),aA,aA]
 obtain ⟨b1,e1,k1⟩: ∃ v:Bool,(cond (a==b) (some true) (cond (!(cU (as,ls) a)) (some true) (some (!(cU (as,ls) b)))))=some v/\(v=false->cU (as,ls) a=true/\cU (as,ls) b=true):=by
  cases a==b
  .cases cU (as,ls) a
   .exact ⟨true,rfl,fun h=>by cases h⟩
   .cases cU (as,ls) b
    .exact ⟨true,rfl,fun h=>by cases h⟩
    .exact ⟨false,rfl,fun _=>⟨rfl,rfl⟩⟩
  .exact ⟨true,rfl,fun h=>by cases h⟩
 rw [e1,aA]
 cases b1 with
 | true=>exact ⟨[],rfl,by simp,fun x hx=>(cB2 hx).elim⟩
 | false=>
  obtain ⟨ka,kb⟩:=k1 rfl
  obtain ⟨xa,_,ia⟩:=aGa ka
  obtain ⟨xb,_,ib⟩:=aGa kb
  have ia:idx as a=some xa:=ia
  have ib:idx as b=some xb:=ib
  obtain ⟨y4,e4,g4⟩:=bVt (n:=13) (by decide) hk ha hb
  obtain ⟨y5,e5,⟨g5,f5⟩,w5⟩:=aQy (n:=13) (by decide) hk ha
  obtain ⟨y6,e6,⟨g6,f6⟩,w6⟩:=aQy (n:=13) (by decide) hk hb
  have i5:=aXr hk e5
  have i6:=aXr hk e6
  simp only [zY,e4,e5,e6,aA,aS,bI,aZ,bA,bD,ia,ib]
  refine cE (G:=fun o=> ∃ l,o=some l/\cD a b 10000 l) y5.length (fun s:Int×lPt=>s.1) (fun i s=>cD a b (52+13 * i) s.2) (fun l:lPt=>cD a b 221 l) ?_ ?_ 0 ((0:Int),y4) (by omega) rfl g4 ?_
  .rintro i ⟨_,l⟩ hi rfl hp
   simp only at hp
   right
   simp only [zX (show (i:Int)<(y5.length:Int) by omega),zZ]
   refine cE (G:=fun (o:Option (q40⊕lPt))=> ∃ s':Int×lPt,o=some (cBd s')/\s'.1=((i+1:Nat):Int)/\cD a b (52+13 * (i+1)) s'.2) y6.length (fun s:Int×lPt=>s.1) (fun j s=>cD a b (52+13 * i+j) s.2) (fun l:lPt=>cD a b (52+13 * (i+1)) l) ?_ ?_ 0 ((0:Int),l) (by omega) rfl hp ?_
   .rintro j ⟨_,l⟩ hj rfl hq
    simp only at hq
    have hl:=hq.1
    obtain ⟨p,ep,kp⟩:=bYs (f5 y5[i] (cBt hi)) (f6 y6[j] (cBt hj)) (w5 y5[i] (cBt hi)) (w6 y6[j] (cBt hj))
    have ep:jO (y5[i].1,y5[i].2.1,y5[i].2.2) (y6[j].1,y6[j].2.1,y6[j].2.2)=some p:=ep
    right
    simp only [zX (show (j:Int)<(y6.length:Int) by omega),zX (show (0:Int)<=(i:Int) by omega),zX (show (0:Int)<=(j:Int) by omega),zZ,cBo,cBe hi,cBe hj,aA,ep,aE (b:=24) (n:=l.length) (m:=1) (by decide) (by omega),bL (show j<=1000000000 by omega)]
    cases hdp:decide ((cBw (α:=den tPp) p:Int)>0) with
    | true=>
     have kp:aSb a b p:=kp.elim (fun h=>by rw [h] at hdp;cases hdp) id
     exact ⟨_,rfl,rfl,hq.add (cD.one kp)⟩
    | false=>exact ⟨_,rfl,rfl,hq.mono (by omega)⟩
   .rintro ⟨_,l⟩ rfl hq
    simp only at hq
    exact ⟨l,by simp only [zW (cBx _),zY],hq.mono (by omega)⟩
   .rintro l hl
    exact ⟨_,rfl,bL (by omega),hl⟩
  .rintro ⟨_,l⟩ rfl hp
   simp only at hp
   exact ⟨l,by simp only [zW (cBx _),zY],hp.mono (by omega)⟩
  rintro l39 h39
  refine cE (G:=fun o=> ∃ l,o=some l/\cD a b 10000 l) y6.length (fun s:Int×lPt=>s.1) (fun i s=>cD a b (221+26 * i) s.2) (fun l:lPt=>cD a b 559 l) ?_ ?_ 0 ((0:Int),l39) (by omega) rfl h39 ?_
  .rintro i ⟨_,l⟩ hi rfl hp
   simp only at hp
   have hl:=hp.1
   simp only [zX (show (i:Int)<(y6.length:Int) by omega),zX (show (0:Int)<=(i:Int) by omega),zZ,cBo,cBe hi,aA]
   cases xa.2.1 with
   | false=>exact .inl ⟨l,by simp only [zY],hp.mono (by omega)⟩
   | true=>
    obtain ⟨v,ev,v0⟩:=aRq (s:=y6[i]) (w6 y6[i] (cBt hi)) (i6 y6[i] (cBt hi))
    have ev:cR (y6[i].1,y6[i].2.1,y6[i].2.2)=some v:=ev
    obtain ⟨q,eq,kq⟩:=aQ0 (n:=13) (by decide) hk (up:=(0,0,[])) (down:=y6[i]) (by simp) (f6 y6[i] (cBt hi)) ha v0 (.inl ⟨rfl,rfl⟩) (aKs (w6 y6[i] (cBt hi)))
    have hq:=kq.1
    have eq:jL (d,cc) (0,0,[]) a v (y6[i].1,y6[i].2.1,y6[i].2.2)=some q:=eq
    exact .inr ⟨(((i+1:Nat):Int),l++q),by simp only [zZ,ev,eq,aA,aE (b:=24) (n:=l.length) (m:=q.length) (by decide) (by omega),bL (show i<=1000000000 by omega)],rfl,(hp.add kq).mono (by omega)⟩
  .rintro ⟨_,l⟩ rfl hp
   simp only at hp
   exact ⟨l,by simp only [zW (cBx _),zY,aA],hp.mono (by omega)⟩
  rintro l54 h54
  refine cE (G:=fun o=> ∃ l,o=some l/\cD a b 10000 l) y5.length (fun s:Int×lPt=>s.1) (fun i s=>cD a b (559+26 * i) s.2) (fun l:lPt=>cD a b 897 l) ?_ ?_ 0 ((0:Int),l54) (by omega) rfl h54 ?_
  .rintro i ⟨_,l⟩ hi rfl hp
   simp only at hp
   have hl:=hp.1
   simp only [zX (show (i:Int)<(y5.length:Int) by omega),zX (show (0:Int)<=(i:Int) by omega),zZ,cBo,cBe hi,aA]
   cases xb.2.1 with
   | false=>exact .inl ⟨l,by simp only [zY],hp.mono (by omega)⟩
   | true=>
    obtain ⟨v,ev,v0⟩:=aRq (s:=y5[i]) (w5 y5[i] (cBt hi)) (i5 y5[i] (cBt hi))
    have ev:cR (y5[i].1,y5[i].2.1,y5[i].2.2)=some v:=ev
    obtain ⟨q,eq,kq⟩:=aQ0 (n:=13) (by decide) hk (up:=y5[i]) (down:=(0,0,[])) (f5 y5[i] (cBt hi)) (by simp) v0 hb (aKs (w5 y5[i] (cBt hi))) (.inl ⟨rfl,rfl⟩)
    have hq:=kq.1
    have eq:jL (d,cc) (y5[i].1,y5[i].2.1,y5[i].2.2) v b (0,0,[])=some q:=eq
    exact .inr ⟨(((i+1:Nat):Int),l++q),by simp only [zZ,ev,eq,aA,aE (b:=24) (n:=l.length) (m:=q.length) (by decide) (by omega),bL (show i<=1000000000 by omega)],rfl,(hp.add kq).mono (by omega)⟩
  .rintro ⟨_,l⟩ rfl hp
   simp only at hp
   exact ⟨l,by simp only [zW (cBx _),zY,aA],hp.mono (by omega)⟩
  rintro l69 h69
  refine cE (G:=fun o=> ∃ l,o=some l/\cD a b 10000 l) y5.length (fun s:Int×lPt=>s.1) (fun i s=>cD a b (897+338 * i) s.2) (fun l:lPt=>cD a b 10000 l) ?_ ?_ 0 ((0:Int),l69) (by omega) rfl h69 (fun l hl=>⟨l,rfl,hl⟩)
  .rintro i ⟨_,l⟩ hi rfl hp
   simp only at hp
   right
   simp only [zX (show (i:Int)<(y5.length:Int) by omega),zZ]
   refine cE (G:=fun (o:Option (q40⊕lPt))=> ∃ s':Int×lPt,o=some (cBd s')/\s'.1=((i+1:Nat):Int)/\cD a b (897+338 * (i+1)) s'.2) y6.length (fun s:Int×lPt=>s.1) (fun j s=>cD a b (897+338 * i+26 * j) s.2) (fun l:lPt=>cD a b (897+338 * (i+1)) l) ?_ ?_ 0 ((0:Int),l) (by omega) rfl hp ?_
   .rintro j ⟨_,l⟩ hj rfl hq
    simp only at hq
    have hl:=hq.1
    obtain ⟨v,ev,v0⟩:=aRq (s:=y5[i]) (w5 y5[i] (cBt hi)) (i5 y5[i] (cBt hi))
    have ev:cR (y5[i].1,y5[i].2.1,y5[i].2.2)=some v:=ev
    obtain ⟨u,eu,u0⟩:=aRq (s:=y6[j]) (w6 y6[j] (cBt hj)) (i6 y6[j] (cBt hj))
    have eu:cR (y6[j].1,y6[j].2.1,y6[j].2.2)=some u:=eu
    obtain ⟨q,eq,kq⟩:=aQ0 (n:=13) (by decide) hk (up:=y5[i]) (down:=y6[j]) (f5 y5[i] (cBt hi)) (f6 y6[j] (cBt hj)) v0 u0 (aKs (w5 y5[i] (cBt hi))) (aKs (w6 y6[j] (cBt hj)))
    have hq':=kq.1
    have eq:jL (d,cc) (y5[i].1,y5[i].2.1,y5[i].2.2) v u (y6[j].1,y6[j].2.1,y6[j].2.2)=some q:=eq
    exact .inr ⟨(((j+1:Nat):Int),l++q),by simp only [zX (show (j:Int)<(y6.length:Int) by omega),zX (show (i:Int)<(y5.length:Int) by omega),zX (show (0:Int)<=(i:Int) by omega),zX (show (0:Int)<=(j:Int) by omega),zZ,cBo,cBe hi,cBe hj,aA,ev,eu,eq,aE (b:=24) (n:=l.length) (m:=q.length) (by decide) (by omega),bL (show j<=1000000000 by omega)],rfl,(hq.add kq).mono (by omega)⟩
   .rintro ⟨_,l⟩ rfl hq
    simp only at hq
    exact ⟨l,by simp only [zW (cBx _),zY],hq.mono (by omega)⟩
   .rintro l hl
    exact ⟨_,rfl,bL (by omega),hl⟩
  .rintro ⟨_,l⟩ rfl hp
   simp only at hp
   exact ⟨l,by simp only [zW (cBx _),zY],hp.mono (by omega)⟩
theorem bZb {as:lAS} {ls:lLk} (ht:aAo as ls) {d cc:lSg} (hk:DbD 13 d cc) {a b:Int} (ha:0<=a) (hb:0<=b) (now:Int): ∃ l,lY (as,ls) (d,cc) a b now=some l/\cD a b 24 l:=by
 obtain ⟨y,ey,hy⟩:=bY8 ht hk ha hb
 have hy1:=hy.1
 unfold lY ixb pj2
 rw [ey,aA]
 refine cE (G:=fun o=> ∃ l,o=some l/\cD a b 24 l) y.length (fun s:Int×lPt=>s.1) (fun i s=>cD a b 24 s.2) (fun l:lPt=>cD a b 24 l) ?_ ?_ 0 ((0:Int),[]) (by omega) rfl ⟨by simp,fun x hx=>(cB2 hx).elim⟩ (fun l hl=>⟨l,rfl,hl⟩)
 .rintro i ⟨_,l⟩ hi rfl hp
  simp only at hp
  have hl:=hp.1
  have hyi:=hy.2 y[i] (cBt hi)
  simp only [zX (show (i:Int)<(y.length:Int) by omega),zZ,aA]
  by_cases hc:(l.length:Int)<24
  .right
   obtain ⟨b1,f1⟩:=bD0 ht hyi.1 now
   obtain ⟨b2,f2⟩:=bMy (n:=24) (by decide) hp.d y[i]
   simp only [zX hc,zZ,zX (show (0:Int)<=(i:Int) by omega),zX (show (i:Int)<(y.length:Int) by omega),cBo,cBe hi,aA,f1,f2,aE (b:=24) (n:=l.length) (m:=1) (by decide) (by omega),bL (show i<=1000000000 by omega)]
   cases b1 with
   | false=>exact ⟨_,rfl,rfl,hp⟩
   | true=>
    cases b2 with
    | true=>exact ⟨_,rfl,rfl,hp⟩
    | false=>exact ⟨_,rfl,rfl,by simp;omega,fun q hq=>(cBp.1 hq).elim (hp.2 q) fun hq=>by rw [cBn.1 hq];exact hyi⟩
  .left
   exact ⟨l,by simp only [zW hc,zY],hp⟩
 .rintro ⟨_,l⟩ rfl hp
  exact ⟨l,by simp only [zW (cBx _),zY,aA],hp⟩
theorem aKo {code:List Int} (hl:code.length<=1048576) {c:List Int} {p h:Int} (hc:Cur code (c,p,h)): ∃ v c' p' h',nZ (c,p,h)=some (v,c',p',h')/\Cur code (c',p',h'):=by
 obtain ⟨v1,c1,p1,h1,e1,k1⟩:=sV hl (n:=10) (by decide) (by decide) hc
 unfold nZ pj3 pj4
 simp only [e1,aA]
 cases v1 with
 | true=>
  obtain ⟨v2,c2,p2,h2,e2,_,k2⟩:=pL hl (l:=[(-1:Int),(2147483647:Int),(2147483648:Int)]) (by decide) (by decide) k1
  exact ⟨v2,c2,p2,h2,by simp only [zZ,e2,aA],k2⟩
 | false=>
  obtain ⟨v2,c2,p2,h2,e2,k2⟩:=sV hl (n:=4) (by decide) (by decide) k1
  simp only [zY,e2,aA]
  cases v2 with
  | true=>
   obtain ⟨v3,c3,p3,h3,e3,_,k3⟩:=pL hl (l:=[(0:Int),(1:Int),(2147483646:Int)]) (by decide) (by decide) k2
   exact ⟨v3,c3,p3,h3,by simp only [zZ,e3,aA],k3⟩
  | false=>
   obtain ⟨v3,c3,p3,h3,e3,_,k3⟩:=aH3 hl (n:=1000000) (by decide) k2
   obtain ⟨v4,c4,p4,h4,e4,_,k4⟩:=aH3 hl (n:=2000) (by decide) k3
   exact ⟨wr (v3 * v4),c4,p4,h4,by simp only [zY,e3,e4,aA],k4⟩
theorem bNl {as:lAS} {ls:lLk} {s:den tSg} (h5:s.2.2.length<=5) (hi:InN (as.length:Int) s.2.2): ∃ hs,wS (as,ls) s=some (s.1,s.2.1,hs)/\hs.length<=5/\InN (as.length:Int) hs:=by
 unfold wS ixb pj3 pj5 zz4
 rw [show ((s.1,s.2.1,s.2.2):den tSg)=s from rfl,aGs (by omega),aA]
 refine cE (G:=fun o=> ∃ hs,o=some (s.1,s.2.1,hs)/\hs.length<=5/\InN (as.length:Int) hs) s.2.2.length (fun z:Int×dP=>z.1) (fun i z=>z.2.length=s.2.2.length/\InN (as.length:Int) z.2) (fun r:dP=>r.length=s.2.2.length/\InN (as.length:Int) r) ?_ ?_ 0 ((0:Int),s.2.2) (by omega) rfl ⟨rfl,hi⟩ ?_
 .rintro i ⟨_,l⟩ hlt rfl ⟨g1,g2⟩
  simp only at g1 g2
  right
  have hil:i<l.length:=by omega
  have hx:l[i]? =some l[i]:=cBe hil
  obtain ⟨q0,q1⟩:=g2 l[i] (cBt hil)
  obtain ⟨m,hm⟩:=cB7 q0
  have hml:m<as.length:=by omega
  obtain ⟨bt,et⟩:=aCu (s:=(s.1,s.2.1,l)) (i:Int) (by show l.length<=_;omega)
  have ex:idx as l[i].1=some as[m]:=by rw [hm,aH];exact cBe hml
  simp only [zX (show (i:Int)<(l.length:Int) by omega),zX (show (0:Int)<=(i:Int) by omega),zZ,cBo,hx,aA,ex,et,aZw,zX hil]
  refine ⟨_,rfl,bL (show i<=1000000000 by omega),by simp [g1],fun y hy=> ?_⟩
  rcases cDz hy with hy | rfl
  .exact g2 y hy
  .exact ⟨q0,q1⟩
 .rintro ⟨_,l⟩ rfl ⟨g1,g2⟩
  simp only at g1 g2
  exact ⟨l,by simp only [g1,zW (cBx _),zY],g1,g2⟩
 .rintro l ⟨g1,g2⟩
  exact ⟨l,rfl,by omega,g2⟩
theorem bHf {p:den tPt} (h:oM p): ∃ l,pT p=some l/\l.length<=18:=by
 have ht:=aJ1 h
 have hs:=aDa p
 unfold pT ixb pj3
 rw [aGp (by omega),aA]
 refine cE (G:=fun o=> ∃ l,o=some l/\l.length<=18) (iM p).length (fun z:Int×cJ=>z.1) (fun i z=>z.2.length<=i) (fun r:cJ=>r.length<=18) ?_ ?_ 0 ((0:Int),[]) (by omega) rfl (by simp) (fun l hl=>⟨l,rfl,hl⟩)
 .rintro i ⟨_,l⟩ hlt rfl g1
  simp only at g1
  right
  simp only [zX (show (i:Int)<((iM p).length:Int) by omega),zX (show (0:Int)<=(i:Int) by omega),zZ,cBo,cBe hlt,aA,aE (b:=24) (n:=l.length) (m:=1) (by decide) (by omega),bL (show i<=1000000000 by omega)]
  cases ((iM p)[i].2.2 != (0:Int)) with
  | true=>exact ⟨_,rfl,rfl,by simp;omega⟩
  | false=>exact ⟨_,rfl,rfl,by show l.length<=i+1;omega⟩
 .rintro ⟨_,l⟩ rfl g1
  exact ⟨l,by simp only [zW (cBx _),zY],by simp only at g1;omega⟩
theorem bBp {l:lRs} {cap now:Int} (hl:rQ l cap now) {p:den tPt} (hp:oM p) (id r till:Int): ∃ b m,dS l id p r till cap now=some (b,m)/\rQ m cap now:=by
 obtain ⟨d,ed,hd⟩:=bHf hp
 have hn:=hl.len
 unfold dS ixb
 rw [aE (b:=40) (n:=([]:lRs).length) (m:=l.length) (by decide) (by simp;omega),zZ,ed,aA]
 refine cE (G:=fun o=> ∃ b m,o=some (b,m)/\rQ m cap now) d.length (fun z:Int×lRs=>z.1) (fun i z=>rQ z.2 cap now) (fun r:lRs⊕(Bool×lRs)=>match r with | .inl m=>rQ m cap now | .inr m=>rQ m.2 cap now) ?_ ?_ 0 ((0:Int),[]++l) (by omega) rfl hl ?_
 .rintro i ⟨_,m⟩ hlt rfl g1
  simp only at g1
  have hm:=g1.len
  obtain ⟨b,eb⟩:=bDg (l:=m) (x:=(id,d[i].1,d[i].2.2,r,till)) (cap:=cap) (now:=now) (by omega)
  simp only [zX (show (i:Int)<(d.length:Int) by omega),zX (show (0:Int)<=(i:Int) by omega),zZ,cBo,cBe hlt,aA,eb,bL (show i<=1000000000 by omega)]
  cases b with
  | true=>exact .inr ⟨_,rfl,rfl,g1.admR _⟩
  | false=>exact .inl ⟨_,rfl,hl⟩
 .rintro ⟨_,m⟩ rfl g1
  exact ⟨.inl m,by simp only [zW (cBx _),zY],g1⟩
 .rintro (m | ⟨b,m⟩) hm
  .exact ⟨_,m,rfl,hm⟩
  .exact ⟨b,m,rfl,hm⟩
def aM3 (w:den tNw) (f:den tFl):Bool:= !lA f|| !cU (nT w) f.1|| !cU (nT w) f.2.1||(f.2.2.2.1 != 0)||decide (((aD w).length:Int)>=4)||decide (gE (bJ w) f.2.1 f.1>=0)
def bR5 (f:den tFl) (l:lPt) (now:Int):den tFl:=(f.1,f.2.1,f.2.2.1,f.2.2.2.1,f.2.2.2.2.1,aN1 f l now,0,0,f.2.2.2.2.2.2.2.2)
def bXb (w:den tNw) (f:den tFl) (l:lPt):den tNw:=(nT w,nK w,nG w,aT w,aO w,aQ w,aD w++[bR5 f l (aT w)],bJ w++[(f.2.1,f.1,0,[])],dQ w)
def bN3 (w:den tNw) (b:Bool):q36:=
 ((nG w).1,aT w,dQ w,b,(nT w).1,(nT w).2,(nK w).1,(nK w).2,(nG w).2.1,(nG w).2.2,aO w,aQ w,aD w,bJ w)
theorem bPp {w:den tNw} {f:den tFl} {l:lPt} (hw:tot tNw w<=1073741824) (hf:tot tFl f<=1073741824) (hl:tot (.sl tPt) l<=1073741824) (el:lY (nT w) (nK w) f.1 f.2.1 (aT w)=some l):
  yY w f=some (bN3 (if aM3 w f then w else bXb w f l) (!aM3 w f)):=by
 have sw:SmB 68719476736 tNw w:=(bN hw).mono (by decide)
 have sf:SmB 68719476736 tFl f:=(bN hf).mono (by decide)
 have n1:w.1.1.length<=68719476736:=sw.1.1.1
 have n2:w.2.2.2.2.2.2.2.1.length<=1073741824:=(bN hw).2.2.2.2.2.2.2.1.1
 have n3:w.2.2.2.2.2.2.1.length<=1073741824:=(bN hw).2.2.2.2.2.2.1.1
 have el:lY w.1 w.2.1 f.1 f.2.1 w.2.2.2.1=some l:=el
 have a1:aM 120 w.2.2.2.2.2.2.1.length 1=true:=aE (by decide) (by omega)
 have a2:aM 48 w.2.2.2.2.2.2.2.1.length 1=true:=aE (by decide) (by omega)
 unfold yY aM3 aL pj2 pj4 pj9 cG aG aI aR zz4 zz5 zz6 zz7 zz8 zz9
 simp only [aP,aJe sw,aO9 sf,aCa n1,aS7 (show w.2.2.2.2.2.2.2.1.length<=68719476736 by omega),el,bXk hf hl,bJo,aA,eV,a1,a2,zZ]
 cases lA f
 .rfl
 cases cU w.1 f.1
 .rfl
 cases cU w.1 f.2.1
 .rfl
 cases f.2.2.2.1 != 0 with
 | true=>rfl
 | false=>cases decide ((w.2.2.2.2.2.2.1.length:Int)>=4) with
  | true=>rfl
  | false=>cases decide (gE w.2.2.2.2.2.2.2.1 f.2.1 f.1>=0)<;>rfl
theorem bMn {x y:den tPt} {l:lPt} (h:y∈aLe x l):y=x\/y∈l:=by
 unfold aLe at h
 simp only [cBp,cBn] at h
 rcases h with (h | h) | h
 .exact .inr (cCv h)
 .exact .inl h
 .exact .inr (cC1 h)
theorem bKr {y:den tPt} {l:lPt} (h:y∈aHy l):y∈l:=by
 have : ∀ (l:lPt) (k:Nat) (a:lPt),y∈cN (fun _ x a=>aLe x a) k l a->y∈l\/y∈a:=by
  intro l
  induction l with
  | nil=>exact fun k a h=> .inr h
  | cons x l ih=>
   intro k a h
   rcases ih (k+1) (aLe x a) h with h | h
   .exact .inl (cBu _ h)
   .rcases bMn h with rfl | h
    .exact .inl (by simp)
    .exact .inr h
 rcases this l 0 [] h with h | h
 .exact h
 .exact (cB2 h).elim
theorem aLp {f:den tFl} {y:den tPt} {l:lPt} {now:Int} (h:y∈aN1 f l now):y∈l:=by
 unfold aN1 aI3 at h
 have h:=cCv h
 simp only [cBp,cBz] at h
 rcases h with h | h<;>exact bKr h.1
structure FlD (t:den tTo) (f:den tFl):Prop where
 val:lA f=true
 src:cU t f.1=true
 dst:cU t f.2.1=true
 ack:f.2.2.2.1=(0:Int)
 cur:f.2.2.2.2.2.2.1=(0:Int)
 wait:f.2.2.2.2.2.2.2.1=(0:Int)
 rev:f.2.2.2.2.2.2.2.2=[]
 paths:yE 4 f.2.2.2.2.2.1
 msgs:tot (.sl tMs) f.2.2.2.2.1<=12
 bytes: ∀ m∈f.2.2.2.2.1,tF m
 ends: ∀ p∈f.2.2.2.2.2.1,aMz p=some f.1/\aEu p=some f.2.1
structure yI (n:Nat) (w:den tNw):Prop where
 top:aAo (nT w).1 (nT w).2
 db:DbD 11 (nK w).1 (nK w).2
 gate:nG w=(12,(nG w).2.1,[])
 res:rQ (nG w).2.1 12 60
 now:aT w=60
 dead:aO w=[]
 fly:aQ w=[]
 drop:dQ w=0
 len:(aD w).length<=n
 flows: ∀ f∈aD w,FlD (nT w) f
 box:bJ w=(aD w).map fun f=>((f.2.1,f.1,0,[]):den tIb)
 uniq:(aD w).Pairwise fun f g=>qJ g f=false
theorem FlD.tot {t:den tTo} {f:den tFl} (h:FlD t f):tot tFl f<=100:=by
 obtain ⟨a,b,c,d,ms,ps,cu,wa,rv⟩:=f
 rw [aHd]
 have h1:=h.msgs
 have h2:=aU9 h.paths
 have h3:rv=[]:=h.rev
 rw [h3]
 simp only at h1 h2
 simp only [cDd]
 omega
theorem bDk {s:den tSg} (h:s.2.2.length<=5):tot tSg s<=5:=by
 have e:tot tSg s=s.2.2.length:=by
  show 0+(0+tot (.sl cM) s.2.2)=_
  rw [dK rfl];omega
 omega
theorem yI.tot {n:Nat} {w:den tNw} (hn:n<=4) (h:yI n w):Go.V.tot tNw w<=1000:=by
 rw [fN]
 have h1:=h.top.len
 have h2:=h.top.links
 have h3:=aA7 (t:=tSg) (B:=5) (l:=(nK w).1) fun x hx=>bDk (h.db.hd x hx)
 have h4:=aA7 (t:=tSg) (B:=5) (l:=(nK w).2) fun x hx=>bDk (h.db.hc x hx)
 have h5:=aA7 (t:=tFl) (B:=100) (l:=aD w) fun f hf=>(h.flows f hf).tot
 have h6:=h.db.down
 have h7:=h.db.core
 have h8:=h.len
 have h9:=h.res.len
 have h10:(nG w).2.2=[]:=by rw [h.gate]
 have h11:Go.V.tot (.sl tIb) (bJ w)<=(0+1) * (bJ w).length:=aA7 (t:=tIb) fun x hx=>by
  rw [h.box] at hx
  obtain ⟨f,_,rfl⟩:=cBl.1 hx
  exact cBs _
 have h12:(bJ w).length=(aD w).length:=by rw [h.box,cCl]
 rw [h.dead,h.fly,h10,aB0,aB0,aB0,dK (t:=tAS) rfl,dK (t:=tLk) rfl,dK (t:=tRs) rfl]
 omega
theorem yI.mono {n m:Nat} {w:den tNw} (h:yI n w) (hm:n<=m):yI m w:=⟨h.top,h.db,h.gate,h.res,h.now,h.dead,h.fly,h.drop,cBf h.len hm,h.flows,h.box,h.uniq⟩
def aAn (w:den tNw) (c:List Int) (p h:Int):q37:=
 ((nG w).1,aT w,dQ w,(nT w).1,(nT w).2,(nK w).1,(nK w).2,(nG w).2.1,(nG w).2.2,aO w,aQ w,aD w,bJ w,c,p,h)
abbrev NwS:=Int×lSg×lSg×Int×Int×Int×lRs×lAS×lLk×lSg×lSg×lUs×lI×lFy×lFl×lIb×lI×Int×Int
abbrev NwR:=Int×Int×Int×lRs×lAS×lLk×lSg×lSg×lUs×lI×lFy×lFl×lIb×lI×Int×Int
def NwI (code:List Int) (n:Nat) (s:NwS):Prop:= ∃ as ls d cc res flows box c p h,s=((n:Int),d,cc,12,60,0,res,as,ls,d,cc,[],[],[],flows,box,c,p,h)/\n<=3/\yI (3 - n) ((as,ls),(d,cc),(12,res,[]),60,[],[],flows,box,0)/\Cur code (c,p,h)
def NwQ (code:List Int) (r:NwR):Prop:= ∃ as ls d cc res flows box c p h,r=(12,60,0,res,as,ls,d,cc,[],[],[],flows,box,c,p,h)/\yI 3 ((as,ls),(d,cc),(12,res,[]),60,[],[],flows,box,0)/\Cur code (c,p,h)
theorem bNd {t:den tTo} {f:den tFl} {l:lPt} {now:Int} {n:Nat} (hn:n<=4) (hv:lA f=true) (hs:cU t f.1=true) (hd:cU t f.2.1=true) (hk:f.2.2.2.1=(0:Int)) (hr:f.2.2.2.2.2.2.2.2=[]) (hm:tot (.sl tMs) f.2.2.2.2.1<=12) (hb: ∀ m∈f.2.2.2.2.1,tF m) (hl:cD f.1 f.2.1 24 l):
  FlD t (f.1,f.2.1,f.2.2.1,f.2.2.2.1,f.2.2.2.2.1,(aN1 f l now).take n,0,0,f.2.2.2.2.2.2.2.2) where
 val:=by
  rw [vO] at hv ⊢
  obtain ⟨q1,q2,q3,q4,q5,q6,q7,q8,q9,q10,q11,q12⟩:=hv
  exact ⟨q1,q2,q3,q4,q5,q6,by simp only [cCq];omega,q8,q9,.inl rfl,rfl,q12⟩
 src:=hs
 dst:=hd
 ack:=hk
 cur:=rfl
 wait:=rfl
 rev:=hr
 paths:=⟨by simp only [cCq];omega,fun p hp=>(hl.2 p (aLp (cCv hp))).1⟩
 msgs:=hm
 bytes:=hb
 ends:=fun p hp=>(hl.2 p (aLp (cCv hp))).2
theorem bEd {l:lIb} {a b:Int} (h:decide (gE l a b>=0)=false): ∀ x∈l,oR a b x=false:=by
 have h:=of_decide_eq_false h
 unfold gE at h
 cases e:l.findIdx? (oR a b) with
 | none=>exact fun x hx=>by simpa using List.findIdx?_eq_none_iff.1 e x hx
 | some i=>rw [e] at h;exact absurd (show (0:Int)<=((0+i:Nat):Int) by omega) h
def bMx (code:List Int) (o:Option q37):Prop:= ∃ w c' p' h',o=some (aAn w c' p' h')/\yI 3 w/\Cur code (c',p',h')
theorem bCn {code:List Int} (hl:code.length<=1048576) {c:List Int} {p h:Int} (hc:Cur code (c,p,h)):bMx code (xK (c,p,h)):=by
 obtain ⟨as,ls,c1,p1,h1,e1,ht,k1⟩:=aSx hl hc
 obtain ⟨v2,c2,p2,h2,e2,r2,k2⟩:=aK hl (n:=7) (by decide) (by decide) k1
 obtain ⟨m2,rfl⟩:=cB7 r2.1
 have w2:wr ((5:Int)+(m2:Int))=((m2+5:Nat):Int):=by rw [bX (by omega) (by omega)];omega
 unfold xK dd ixb one vJ bF9 pj3 pj4 pj5 pj7 pj8 aG aI aR bR fJ mP tA zz4 zz5 zz6 zz7 zz8 zz9
 simp only [aS,bI,aZ,bA,bD,e1,e2,aA,w2]
 refine jC (G:=bMx code) (fun (n:Nat) (s:Int×q49)=> ∃ d cc c p h,s=((n:Int),as,ls,d,cc,c,p,h)/\n<=11/\DbD (11 - n) d cc/\Cur code (c,p,h)) (fun r:lAS×lLk×lSg×lSg×lI×Int×Int=> ∃ d cc c p h,r=(as,ls,d,cc,c,p,h)/\DbD 11 d cc/\Cur code (c,p,h)) ?_ (m2+5) (((m2+5:Nat):Int),as,ls,[],[],c2,p2,h2) ⟨[],[],c2,p2,h2,rfl,by omega,⟨by simp,by simp,fun x hx=>(cB2 hx).elim,fun x hx=>(cB2 hx).elim,fun x hx=>(cB2 hx).elim⟩,k2⟩ ?_
 .rintro n s ⟨d,cc,c3,p3,h3,rfl,hn,hk,k3⟩
  cases n with
  | zero=>exact .inl ⟨_,rfl,d,cc,c3,p3,h3,rfl,hk,k3⟩
  | succ n=>
   right
   obtain ⟨v4,c4,p4,h4,e4,k4⟩:=sV hl (n:=3) (by decide) (by decide) k3
   have wn:wr (((n+1:Nat):Int) - 1)=(n:Int):=by rw [bX (by omega) (by omega)];omega
   have step: ∀ kind:Int,∃ d' cc' c' p' h',(Option.bind (kI (c4,p4,h4) (as,ls) kind) fun y58=>Option.bind (wS (as,ls) (y58.1,y58.2.1,y58.2.2.1)) fun y59=>Option.bind (pH (as,ls) (d,cc) y59) fun y60=>some (y60.1,y60.2,y58.2.2.2.1,y58.2.2.2.2.1,y58.2.2.2.2.2))=some (d',cc',c',p',h')/\DbD (11 - n) d' cc'/\Cur code (c',p',h'):=by
    intro kind
    obtain ⟨a5,b5,hs5,c5,p5,h5,e5,⟨l5,i5⟩,k5⟩:=bCp hl ht kind k4
    obtain ⟨hs6,e6,l6,i6⟩:=bNl (as:=as) (ls:=ls) (s:=(a5,b5,hs5)) l5 i5
    obtain ⟨d7,cc7,e7,q7⟩:=bMd ht (n:=11 - (n+1)) (by omega) hk (s:=(a5,b5,hs6)) l6 (i6.as (by have :=ht.len;omega))
    refine ⟨d7,cc7,c5,p5,h5,?_,q7.mono (by omega),k5⟩
    simp only [e5,e6,e7,aA]
   simp only [zX (show ((n+1:Nat):Int)>0 by omega),zZ,e4,aA]
   cases v4 with
   | true=>
    obtain ⟨d',cc',c',p',h',e,q,k⟩:=step 1
    refine ⟨n,_,by omega,?_,d',cc',c',p',h',rfl,by omega,q,k⟩
    simp only [zZ,aA,e,wn]
   | false=>
    obtain ⟨d',cc',c',p',h',e,q,k⟩:=step 2
    refine ⟨n,_,by omega,?_,d',cc',c',p',h',rfl,by omega,q,k⟩
    simp only [zY,aA,e,wn]
 rintro r ⟨d,cc,c3,p3,h3,rfl,hk,k3⟩
 obtain ⟨v4,c4,p4,h4,e4,r4,k4⟩:=aK hl (n:=3) (by decide) (by decide) k3
 obtain ⟨m4,rfl⟩:=cB7 r4.1
 have w4:wr ((1:Int)+(m4:Int))=((m4+1:Nat):Int):=by rw [bX (by omega) (by omega)];omega
 have hA:=ht.len
 have hL:=ht.links
 have smT:SmB 68719476736 tTo (as,ls):=⟨⟨by show as.length<=_;omega,fun _ _=>⟨trivial,trivial,trivial⟩⟩,by show ls.length<=_;omega,fun _ _=>⟨trivial,trivial,trivial,trivial,trivial⟩⟩
 have smK:SmB 68719476736 tDb (d,cc):=⟨aOh (by omega) hk.down hk.hd,aOh (by omega) hk.core hk.hc⟩
 have hok:aW3 (as,ls) 60=true:=by unfold aW3;rw [ht.top];rfl
 have e5:=bXf (t:=(as,ls)) (k:=(d,cc)) (c:=12) (now:=60) smT smK
 rw [hok,zZ] at e5
 simp only [e5,e4,w4,aA]
 have cap12:cond (inR 12 1 20) (12:Int) 1=12:=rfl
 simp only [cap12]
 refine jC (G:=bMx code) (NwI code) (NwQ code) ?_ (m4+1) (((m4+1:Nat):Int),d,cc,12,60,0,[],as,ls,d,cc,[],[],[],[],[],c4,p4,h4) ⟨as,ls,d,cc,[],[],[],c4,p4,h4,rfl,by omega,⟨ht,hk,rfl,⟨by simp,fun x hx=>(cB2 hx).elim,fun x hx=>(cB2 hx).elim,List.Pairwise.nil⟩,rfl,rfl,rfl,rfl,cB1 _,fun x hx=>(cB2 hx).elim,rfl,List.Pairwise.nil⟩,k4⟩ ?_
 rotate_left
 .rintro r ⟨as,ls,d,cc,res,flows,box,c5,p5,h5,rfl,hd,k5⟩
  exact ⟨_,c5,p5,h5,rfl,hd,k5⟩
 .rintro n s ⟨as,ls,d,cc,res,flows,box,c5,p5,h5,rfl,hn,hd,k5⟩
  cases n with
  | zero=>exact .inl ⟨_,rfl,as,ls,d,cc,res,flows,box,c5,p5,h5,rfl,hd,k5⟩
  | succ n=>
   right
   obtain ⟨a6,b6,c6,p6,h6,e6,⟨ra6,rb6⟩,k6⟩:=bUx hl (by decide) hd.db k5
   obtain ⟨v7,c7,p7,h7,e7,m7,k7⟩:=pL hl (l:=[(0:Int),(0:Int),((n+1:Nat):Int)]) (by simp) (by simp) k6
   obtain ⟨v8,c8,p8,h8,e8,r8,k8⟩:=aK hl (n:=3) (by decide) (by decide) k7
   obtain ⟨m8,rfl⟩:=cB7 r8.1
   have w8:wr ((1:Int)+(m8:Int))=((m8+1:Nat):Int):=by rw [bX (by omega) (by omega)];omega
   have wn:wr (((n+1:Nat):Int) - 1)=(n:Int):=by rw [bX (by omega) (by omega)];omega
   have enf: ∀ a b c:Int,tY a b c=some (a,b,c,0,0,0,[],[],[]):=fun _ _ _=>rfl
   simp only [zX (show ((n+1:Nat):Int)>0 by omega),zZ,e6,e7,enf,e8,w8,wn,aA,Option.bind_assoc]
   refine jC (G:=fun o=> ∃ m s',m<n+1/\o=some (cBd s')/\NwI code m s') (fun (n:Nat) (s:Int×Int×Int×Int×Int×Int×Int×lMs×lPt×lRv×List Int×q28)=> ∃ ms c p h,s=((n:Int),a6,b6,v7,0,0,0,ms,[],[],c,p,h)/\n<=3/\tot (.sl tMs) ms+4 * n<=12/\(∀ m∈ms,tF m)/\Cur code (c,p,h)) (fun s:Int×Int×Int×Int×Int×Int×lMs×lPt×lRv×List Int×Int×Int=> ∃ ms c p h,s=(a6,b6,v7,0,0,0,ms,[],[],c,p,h)/\tot (.sl tMs) ms<=12/\(∀ m∈ms,tF m)/\Cur code (c,p,h)) ?_ (m8+1) (((m8+1:Nat):Int),a6,b6,v7,(0:Int),(0:Int),(0:Int),[],[],[],c8,p8,h8) ⟨[],c8,p8,h8,rfl,by omega,by rw [aB0];omega,fun m hm=>(cB2 hm).elim,k8⟩ ?_
   .rintro i s ⟨ms,c9,p9,h9,rfl,hi,hm,hb,k9⟩
    cases i with
    | zero=>exact .inl ⟨_,rfl,ms,c9,p9,h9,rfl,by omega,hb,k9⟩
    | succ i=>
     right
     obtain ⟨v10,c10,p10,h10,e10,r10,k10⟩:=aK hl (n:=3) (by decide) (by decide) k9
     obtain ⟨m10,rfl⟩:=cB7 r10.1
     obtain ⟨l11,c11,p11,h11,e11,⟨r11,b11⟩,k11⟩:=aNc hl (n:=m10) (by omega) k10
     have hf:tot tFl (a6,b6,v7,0,ms,[],0,0,[])<=1000:=by rw [aHd];show _+0+0<=_;omega
     have en:=bQf (f:=(a6,b6,v7,0,ms,[],0,0,[])) (b:=l11) ((bN (B:=1000) hf).mono (by decide)) ⟨by omega,fun e he=>trivial⟩
     have wi:wr (((i+1:Nat):Int) - 1)=(i:Int):=by rw [bX (by omega) (by omega)];omega
     simp only [zX (show ((i+1:Nat):Int)>0 by omega),zZ,e10,e11,en,aA,wi]
     unfold bG7
     split
     .refine ⟨i,_,by omega,rfl,ms++[l11],c11,p11,h11,rfl,by omega,?_,?_,k11⟩
      .rw [sU,bC1];omega
      .intro m hm
       rcases cBp.1 hm with hm | hm
       .exact hb m hm
       .rw [cBn.1 hm];exact b11
     .exact ⟨i,_,by omega,rfl,ms,c11,p11,h11,rfl,by omega,by omega,hb,k11⟩
   rintro r ⟨ms,c9,p9,h9,rfl,hm,hb,k9⟩
   obtain ⟨l10,e10,hl10⟩:=bZb hd.top (hd.db.mono (by decide)) ra6.1 rb6.1 60
   have tf:tot tFl (a6,b6,v7,0,ms,[],0,0,[])<=1073741824:=by rw [aHd];show _+0+0<=_;omega
   have ea:=bPp (w:=((as,ls),(d,cc),(12,res,[]),60,[],[],flows,box,0)) (f:=(a6,b6,v7,0,ms,[],0,0,[])) (l:=l10) (cBf (hd.tot (by omega)) (by decide)) tf (cBf (aU9 hl10.d) (by decide)) e10
   cases hbad:aM3 ((as,ls),(d,cc),(12,res,[]),60,[],[],flows,box,0) (a6,b6,v7,0,ms,[],0,0,[]) with
   | true=>
    rw [hbad] at ea
    simp only [zV,cBh] at ea
    simp only [ea,aA,bN3,zY]
    exact ⟨n,_,by omega,rfl,as,ls,d,cc,res,flows,box,c9,p9,h9,rfl,by omega,hd.mono (by omega),k9⟩
   | false=>
    rw [hbad] at ea
    simp only [cBj,zU,cBq] at ea
    simp only [ea,aA,bN3,bXb,zZ]
    unfold aM3 at hbad
    simp only [Bool.or_eq_false_iff,Bool.not_eq_false'] at hbad
    obtain ⟨⟨⟨⟨⟨b1,b2⟩,b3⟩,b4⟩,b5⟩,b6'⟩:=hbad
    have hnone:=bEd b6'
    have hfl:(flows.length:Int)<4:=by have h5: ¬ ((flows.length:Int)>=4):=of_decide_eq_false b5;omega
    have hfl':flows.length<=3 - (n+1):=hd.len
    generalize hg:bR5 (a6,b6,v7,0,ms,[],0,0,[]) l10 60=g
    have hL:((flows++[g]).length:Int)=((flows.length+1:Nat):Int):=by simp
    have wl:wr (((flows.length+1:Nat):Int) - 1)=(flows.length:Int):=by rw [bX (by omega) (by omega)];omega
    have hx:(flows++[g])[flows.length]? =some g:=by simp
    have hset: ∀ y,(flows++[g]).set flows.length y=flows++[y]:=fun y=>by simp
    have hlt:flows.length<(flows++[g]).length:=by simp
    obtain ⟨m,em,hm1,hm4⟩: ∃ m:Nat,(if (4:Int)<(g.2.2.2.2.2.1.length:Int) then (4:Int) else (g.2.2.2.2.2.1.length:Int))=(m:Int)/\m<=g.2.2.2.2.2.1.length/\m<=4:=by
     by_cases h4:(4:Int)<(g.2.2.2.2.2.1.length:Int)
     .exact ⟨4,by rw [zT h4];rfl,by omega,by omega⟩
     .exact ⟨g.2.2.2.2.2.1.length,by rw [zS h4],cBs _,by omega⟩
    have hmem: ∀ y∈g.2.2.2.2.2.1,oM y:=fun y hy=>by
     rw [<- hg] at hy
     exact (hl10.2 y (aLp hy)).1
    simp only [hL,wl,zX (show (0:Int)<=(flows.length:Int) by omega),zX (show (flows.length:Int)<((flows.length+1:Nat):Int) by omega),zZ,cBo,hx,aA,aWh,em,aGh hm1,iE,zX hlt,hset]
    have fin: ∀ res' c p h,rQ res' 12 60->Cur code (c,p,h)->NwI code n ((n:Int),d,cc,12,60,0,res',as,ls,d,cc,[],[],[],flows++[(g.1,g.2.1,g.2.2.1,g.2.2.2.1,g.2.2.2.2.1,List.take m g.2.2.2.2.2.1,g.2.2.2.2.2.2.1,g.2.2.2.2.2.2.2.1,g.2.2.2.2.2.2.2.2)],box++[(b6,a6,0,[])],c,p,h):=by
     intro res' c p h hr hc
     have hF:FlD (as,ls) (g.1,g.2.1,g.2.2.1,g.2.2.2.1,g.2.2.2.2.1,List.take m g.2.2.2.2.2.1,g.2.2.2.2.2.2.1,g.2.2.2.2.2.2.2.1,g.2.2.2.2.2.2.2.2):=by
      rw [<- hg]
      exact bNd (f:=(a6,b6,v7,0,ms,[],0,0,[])) hm4 b1 b2 b3 rfl rfl hm hb hl10
     have ge1:g.1=a6:=by rw [<- hg];rfl
     have ge2:g.2.1=b6:=by rw [<- hg];rfl
     refine ⟨as,ls,d,cc,res',_,_,c,p,h,rfl,by omega,⟨hd.top,hd.db,rfl,hr,rfl,rfl,rfl,rfl,?_,?_,?_,?_⟩,hc⟩
     .show (flows++[_]).length<=_
      simp;omega
     .intro f hf
      rcases cBp.1 hf with hf | hf
      .exact hd.flows f hf
      .rw [cBn.1 hf];exact hF
     .show box++[_]=(flows++[_]).map _
      rw [cDy,<- show box=flows.map (fun f=>((f.2.1,f.1,0,[]):den tIb)) from hd.box]
      simp only [cB3,List.map_nil,ge1,ge2]
     .show (flows++[_]).Pairwise _
      rw [List.pairwise_append]
      refine ⟨hd.uniq,List.pairwise_singleton _ _,fun x hx y hy=> ?_⟩
      rw [cBn.1 hy]
      have hbx:((x.2.1,x.1,0,[]):den tIb)∈box:=by
       rw [show box=flows.map (fun f=>((f.2.1,f.1,0,[]):den tIb)) from hd.box]
       exact cBl.2 ⟨x,hx,rfl⟩
      have :=hnone _ hbx
      unfold oR at this
      unfold qJ
      rw [Bool.and_comm]
      simp only [ge1,ge2]
      exact this
    by_cases hm0:m=0
    .subst hm0
     simp only [show decide (((0:Nat):Int)>0)=false from rfl,zY,aA]
     exact ⟨n,_,by omega,rfl,fin res c9 p9 h9 hd.res k9⟩
    .simp only [zX (show (m:Int)>0 by omega),zZ,aA]
     cases decide (g.2.2.1>(0:Int)) with
     | false=>
      simp only [zY,aA]
      exact ⟨n,_,by omega,rfl,fin res c9 p9 h9 hd.res k9⟩
     | true=>
      have hp:idx (List.take m g.2.2.2.2.2.1) (0:Int)=some (g.2.2.2.2.2.1[0]'(by omega)):=by
       rw [show (0:Int)=((0:Nat):Int) from rfl,aH,cCs,zT (by omega)]
       exact cBe _
      obtain ⟨v11,c11,p11,h11,e11,r11,k11⟩:=aK hl (n:=2) (by decide) (by decide) k9
      obtain ⟨b12,m12,e12,q12⟩:=bBp hd.res (hmem _ (cBt (show 0<g.2.2.2.2.2.1.length by omega))) g.2.2.1 (wr ((1:Int)+v11)) 4000
      simp only [zZ,hp,e11,e12,aA,aS,bI,aZ,bA,bD]
      exact ⟨n,_,by omega,rfl,fin m12 c11 p11 h11 q12 k11⟩
def aI6 (w:den tNw) (l:List Int):den tNw:=(nT w,nK w,nG w,aT w,l,aQ w,aD w,bJ w,dQ w)
def aDp (w:den tNw) (i:Nat):den tNw:=bG w ((aQ w).take i++(aQ w).drop (i+1))
theorem bJ5 {w:den tNw} {i:Nat} {x:den tFy} (hx:(aQ w)[i]? =some x) (hl:(aQ w).length<=1073741824):oJ w (i:Int)=some (cQ x (aDp w i)):=by
 have hlt:i<(aQ w).length:=(cBm.1 hx).1
 have hx:w.2.2.2.2.2.1[((i:Nat):Int).toNat]? =some x:=by rw [cBo];exact hx
 have h1:decide ((i:Int)<(w.2.2.2.2.2.1.length:Int))=true:=zX (by have :i<w.2.2.2.2.2.1.length:=hlt;omega)
 have e1:wr ((i:Int)+1)=((i+1:Nat):Int):=(wri (by omega) (by omega)).trans (by omega)
 have h2:cC ((i+1:Nat):Int) (w.2.2.2.2.2.1.length:Int) (w.2.2.2.2.2.1.length:Int)=true:=yM (show i+1<=w.2.2.2.2.2.1.length from hlt)
 have h3:cC (0:Int) (i:Int) (w.2.2.2.2.2.1.length:Int)=true:=aGh (k:=i) (Nat.le_of_lt hlt)
 have hl:w.2.2.2.2.2.1.length<=1073741824:=hl
 unfold oJ ixb aL aG aI zz4 zz5 zz6 zz7 zz8 zz9
 simp only [h1,hx,aA,zZ,e1,h2,h3,iE,aCy,List.nil_append,aE (b:=128) (n:=([]:lFy).length) (m:=(w.2.2.2.2.2.1.take i).length) (by decide) (by simp;omega),aE (b:=128) (n:=(w.2.2.2.2.2.1.take i).length) (m:=(w.2.2.2.2.2.1.drop (i+1)).length) (by decide) (by simp;omega),zX (show (0:Int)<=(i:Int) by omega)]
 rfl
def aB4 (m:Nat) (dead:List Int) (i:Int) (b:Bool):List Int:=((List.range m).map fun k:Nat=>((k:Nat):Int)).filter fun k:Int=>(tJ dead k&&(k != i))||(b&&(k==i))
def aNt (w:den tNw) (i:Int) (b:Bool):Bool:=(tJ (aO w) i==b)|| !inR i 0 (((nT w).2.length:Int) - 1)
def aDt (w:den tNw) (i:Int) (b:Bool):den tNw:=if aNt w i b then w else aI6 w (aB4 (nT w).2.length (aO w) i b)
theorem bJe {w:den tNw} {i:Int} {b:Bool} (h1:(nT w).2.length<=1073741824) (h2:(aO w).length<=68719476736):yN w i b=some (!aNt w i b,aN (aDt w i b)):=by
 have w1:wr ((w.1.2.length:Int) - 1)=(w.1.2.length:Int) - 1:=mH (cBf h1 (by decide))
 have e1:=fun n=>aHi (l:=w.2.2.2.2.1) (n:=n) h2
 unfold yN aDt aNt zz4 zz5 zz6 zz7 zz8
 simp only [e1,aA,w1,eR]
 cases hb:(tJ w.2.2.2.2.1 i==b) with
 | true=>rfl
 | false=>
  simp only [zY,aA,Bool.false_or]
  cases inR i 0 ((w.1.2.length:Int) - 1) with
  | false=>rfl
  | true=>
   simp only [cBh,zY,cBj,zU,cBq]
   refine cE (G:=fun o=>o=some (true,aN (aI6 w (aB4 (nT w).2.length (aO w) i b)))) w.1.2.length (fun s:Int×List Int=>s.1) (fun k s=>s.2.length<=k/\s.2=aB4 k (aO w) i b) (fun r:List Int=>r=aB4 w.1.2.length (aO w) i b) ?_ ?_ 0 ((0:Int),[]) (cB1 _) rfl ⟨by simp,rfl⟩ ?_
   .rintro k ⟨_,l⟩ hk rfl ⟨g1,g2⟩
    simp only at g1 g2
    right
    have hk':k<=1073741824:=cBf (Nat.le_of_lt hk) h1
    simp only [zX (show (k:Int)<(w.1.2.length:Int) by omega),zZ,aA,aE (b:=8) (n:=l.length) (m:=1) (by decide) (by omega),show wr ((k:Int)+1)=((k+1:Nat):Int) from (wri (by omega) (by omega)).trans (by omega)]
    have hl:aB4 (k+1) (aO w) i b=aB4 k (aO w) i b++(if (tJ (aO w) (k:Int)&&((k:Int) != i))||(b&&((k:Int)==i)) then [(k:Int)] else []):=by
     unfold aB4
     rw [List.range_succ,cDy,List.filter_append]
     congr 1
     simp only [cB3,List.map_nil,List.filter_cons,List.filter_nil]
    have hd:aO w=w.2.2.2.2.1:=rfl
    rw [hl,<- g2,hd]
    cases tJ w.2.2.2.2.1 (k:Int)<;>cases hki:((k:Int)==i)<;>cases b<;>simp only [bne,hki,zZ,zY,aA,cBh,cBq,Bool.and_true,cC4,Bool.true_and,cB0,Bool.or_true,Bool.or_false,Bool.true_or,Bool.false_or,cBj,zV,zU,cCm]<;>first
     | exact ⟨_,rfl,rfl,by simp;omega,rfl⟩
     | exact ⟨_,rfl,rfl,by simp only;omega,rfl⟩
   .rintro ⟨_,l⟩ rfl ⟨g1,g2⟩
    exact ⟨l,by simp only [zW (cBx _),zY],g2⟩
   .rintro r rfl
    rfl
def aIs (f:den tFl) (b:List Int):den tFl:=if lA (enq f b) then enq f b else f
def doW (w:den tNw) (e:den kR):Bool×den tNw:=
 if e.1==1 then (!decide (aT w>=1000000),cV w)
 else if e.1==2 then (match inR e.2.1 0 (((aQ w).length:Int) - 1),(aQ w)[e.2.1.toNat]? with
  | true,some x=>(true,fK (aDp w e.2.1.toNat) x.1 x.2.1 x.2.2)
  | _,_=>(false,w))
 else if e.1==3 then (if inR e.2.1 0 (((aQ w).length:Int) - 1) then (true,zA (aDp w e.2.1.toNat)) else (false,w))
 else if e.1==4 then (match inR e.2.1 0 (((aQ w).length:Int) - 1)&& !decide (((aQ w).length:Int)>=150),(aQ w)[e.2.1.toNat]? with
  | true,some x=>(true,bG w (aQ w++[x]))
  | _,_=>(false,w))
 else if e.1==5||e.1==6 then (!aNt w e.2.1 (e.1==5),aDt w e.2.1 (e.1==5))
 else if e.1==7 then (if cU (nT w) e.2.2.2.1&& !decide (((aQ w).length:Int)>=150) then (true,bG w (aQ w++[e.2.2.2])) else (false,w))
 else if e.1==8 then (match inR e.2.1 0 (((aD w).length:Int) - 1),(aD w)[e.2.1.toNat]? with
  | true,some f=>(lA (enq f e.2.2.1),dU w ((aD w).set e.2.1.toNat (aIs f e.2.2.1)))
  | _,_=>(false,w))
 else (false,w)
theorem aWz {α:Type} {l:List α} {n:Int} (hl:l.length<=1073741824) (h:inR n 0 ((l.length:Int) - 1)=true): ∃ (i:Nat) (x:α),n=(i:Int)/\l[i]? =some x/\decide (n<(l.length:Int))=true/\decide ((0:Int)<=n)=true:=by
 obtain ⟨h0,h1⟩:=bM.1 h
 obtain ⟨i,rfl⟩:=cB7 h0
 have hi:i<l.length:=by omega
 exact ⟨i,l[i],rfl,cBe hi,zX (by omega),zX h0⟩
end Go.Proofs.YtcppmcbkokgfcaaGreat
