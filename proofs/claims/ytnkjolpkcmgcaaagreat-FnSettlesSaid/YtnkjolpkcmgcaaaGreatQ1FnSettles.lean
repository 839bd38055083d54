/-
  Facts and plain laws: what the functions compute, in plain words. Conditions: as each says.
-/
import Derived.Test.YtnkjolpkcmgcaaaGreatQ0FnSettles
open List renaming getElem?_eq_some_iff->cEz,length->cFd,mem_of_getElem?->cE9,map_cons->cFg,length_cons->cFw,mem_append->cE4,mem_singleton->cE3,mem_map->cE5,append_nil->cFv,length_nil->cGl,mem_cons_of_mem->cE7,mem_cons_self->cFb,length_set->cF8,mem_or_eq_of_mem_set->cHx,length_filter_le->cHn,getElem?_eq_getElem->cEx,getElem_mem->cGh,getElem?_cons_zero->cH7,mem_cons->cEy,pairwise_iff_getElem->cG5,foldl_cons->cHb,filter_cons->cHm,mem_iff_getElem?->cIm,mem_filter->cFc,length_append->cFj,getElem?_set_self->cHo,getElem?_map->cGy,getElem?_set_ne->cH5,not_mem_nil->cFi,Pairwise->cH1,mem_of_mem_take->cGj,mem_of_mem_drop->cGq,take_append_drop->cGd,getElem?_set->cG3,all_eq_true->cFn,getElem?_take->cGc,Sublist->cHp,flatMap_cons->cH8,append_assoc->cFk,length_take->cF6,length_map->cFt,length_drop->cG8,nil_append->cFl,mem_flatMap->cF4,map_append->cGi
open Int renaming toNat_natCast->cE0,le_refl->cFx,eq_ofNat_of_zero_le->cFo,lt_irrefl->cF5
open Bool renaming and_false->cGt,and_eq_true->cEw,false_eq_true->cE1,false_and->cFh,and_self->cG0,eq_iff_iff->cFm,not_eq_true'->cFu,or_eq_true->cGm,not_true->cE2,or_self->cGn,not_false->cFa,false_or->cGx,or_true->cG4
open Sum renaming inl->cEu,inr->cEt,elim_inl->cGg,elim_inr->cH0
open Nat renaming le_refl->cE8,le_trans->cEv,zero_le->cFe,succ_mul->cFq,zero_add->cFs,mul_le_mul_right->cF7,not_lt_zero->cH6
open Option renaming getD_some->cFy
open Array renaming length_toList->cH4
set_option linter.unusedVariables false
set_option linter.unusedSimpArgs false
set_option maxRecDepth 100000
namespace Go.Proofs.YtnkjolpkcmgcaaaGreat
open Go.Ab Go.V
theorem bM0{t:den tTo}{now:Int}{step:den tPk->Option (den tPk⊕den tPk)}
  (H:∀q,tot tPk q<=34359738368->cH q=true->step q=some (if cQ q&&decide (q.2.2.2.2.1<(q.2.2.2.1.length:Int) - 1) then .inl (adv q) else .inr q)):
  ∀(n:Nat) (p q:den tPk),aBk p q->tot tPk q<=34359738368->(goC t now n p).1=0->p.2.2.2.1.length - p.2.2.2.2.1.toNat<=n-> ∃r,aD step q=some r/\aBk (goC t now n p).2 r/\tot tPk r<=34359738368:=by
 intro n
 induction n with
 | zero=>
  intro p q hs hq hc hm;obtain⟨hh,h0⟩:=vD (yH hc);obtain⟨i,j,h1,h2,h3,h4,h5⟩:=fX hh;have hlt:=(cEz.1 h3).1;rw[h1,cE0]at hm;exact absurd hlt (by omega)
 | succ n ih=>
  intro p q hs hq hc hm;have hz:=yH hc;obtain⟨hh,h0⟩:=vD hz;obtain⟨a1,a2,a3,a4,a5,a6⟩:=hs.cur;obtain⟨b1,b2,b3,b4,b5,b6⟩:=(uB t p).cur;have hstep:=H q hq (a1▸hh);rw[bBu (a1▸hh) (a2▸h0)]at hstep;cases hb:cQ q&& !dG q with
  | false=>
   rw[hb]at hstep;have hg:goC t now (n+1) p=(cN t now p,aT t p):=by
    show (if _ then _ else _)=_;rw[b5,b6,a5,a6,hb,cGt];rfl
   rw[hg];exact⟨q,bH hstep,(uB t p).trans hs,hq⟩
  | true=>
   rw[hb,zT rfl]at hstep;have hg:goC t now (n+1) p=goC t now n (adv (aT t p)):=by
    show (if _ then _ else _)=_;rw[b5,b6,a5,a6,hb,hz];rfl
   rw[hg]at hc ⊢;rw[cY hstep];obtain⟨e1,e2⟩:=aZi (p:=aT t p) (by rw[b2];exact h0) (by rw[b5,b6,a5,a6];exact hb);obtain⟨i,j,h1,h2,h3,h4,h5⟩:=fX hh;refine ih _ _ ((uB t p).trans hs).adv (by rw[aGw];exact hq) hc ?_;rw[e1,e2,(uB t p).1,(uB t p).2.1,h1];rw[h1,cE0]at hm;have :((i:Int)+1).toNat=i+1:=by omega
   rw[this];omega
def bIp(t:den tTo)(now:Int)(p:den tPk):Int:=pEg (bM (bB t now p).2) (cW (bB t now p).2)
theorem cAe{t:den tTo}{now:Int}{p:den tPk}(h:tot tPk p<=34359738368)(hz:(bB t now p).1=0):uE p=some (bIp t now p):=by
 unfold uE aM pj4 zz4 zz5 zz6 zz7 zz8 zz9;obtain⟨r,hr,hs,ht⟩:=bM0 (t:=t) (now:=now) (step:=λs5=> @Option.bind Bool _ (Option.bind (idx s5.2.2.2.1 s5.2.2.2.2.1) λx6=>cond (s5.2.2.2.2.2.1==(wr ((x6.2.2.2.length:Int) - (1:Int)))) (some (decide (s5.2.2.2.2.1<(wr ((s5.2.2.2.1.length:Int) - (1:Int)))))) (some false)) λ(s7:Bool)=>cond s7 (Option.bind (iP (s5.1,s5.2.1,s5.2.2.1,s5.2.2.2.1,s5.2.2.2.2.1,s5.2.2.2.2.2.1,s5.2.2.2.2.2.2.1,s5.2.2.2.2.2.2.2.1,s5.2.2.2.2.2.2.2.2.1,s5.2.2.2.2.2.2.2.2.2)) λy8=>some (cEu (y8.1,y8.2.1,y8.2.2.1,y8.2.2.2.2.2.2.2.2.1,y8.2.2.2.1,y8.2.2.2.2.1,y8.2.2.2.2.2.1,y8.2.2.2.2.2.2.1,y8.2.2.2.2.2.2.2.1,y8.2.2.2.2.2.2.2.2.2))) (some (cEt (s5.1,s5.2.1,s5.2.2.1,s5.2.2.2.1,s5.2.2.2.2.1,s5.2.2.2.2.2.1,s5.2.2.2.2.2.2.1,s5.2.2.2.2.2.2.2.1,s5.2.2.2.2.2.2.2.2.1,s5.2.2.2.2.2.2.2.2.2)))) (λq hq hh=>by
   obtain⟨i,j,k1,k2,k3,k4,k5⟩:=fX hh;have l1:cFd q.2.2.2.1<=68719476736:=(fY hq).2.2.2.1.1;have hp1:idx q.2.2.2.1 q.2.2.2.2.1=some (bM q):=by rw[k1,aR];exact k3
   simp only[hp1,aA,oI (aA8 (fY hq) k3),oI l1,aP,bIj (fY hq)];unfold cQ;cases q.2.2.2.2.2.1==((bM q).2.2.2.length:Int) - 1<;>cases decide (q.2.2.2.2.1<(q.2.2.2.1.length:Int) - 1)<;>rfl) _ p p ⟨rfl,rfl,rfl⟩ h hz (cE8 _)
 have hs:aBk (bB t now p).2 r:=hs;have hr':aD _ (p.1,p.2.1,p.2.2.1,p.2.2.2.1,p.2.2.2.2.1,p.2.2.2.2.2.1,p.2.2.2.2.2.2.1,p.2.2.2.2.2.2.2.1,p.2.2.2.2.2.2.2.2.1,p.2.2.2.2.2.2.2.2.2)=some r:=hr;rw[hr',aA];obtain⟨a1,a2,a3,a4,a5,a6⟩:=hs.cur;obtain⟨g1,g2,g3⟩:=aBv _ p hz;have g1:cH r=true:=a1▸g1;obtain⟨i,j,k1,k2,k3,k4,k5⟩:=fX g1;have hp1:idx r.2.2.2.1 r.2.2.2.2.1=some (bM r):=by rw[k1,aR];exact k3
 have hp2:eD (bM r) r.2.2.2.2.2.1=some (pEg (bM r) (cW r)):=by rw[k2];exact aYp k4 (aA8 (fY ht) k3)
 rw[hp1,aA];simp only[aP,hp2,aA];unfold bIp;rw[a3,a4]
theorem aZ4{t:den tTo}{now:Int}:∀(n:Nat) (p:den tPk),(goC t now n p).1<=5
 | 0,p=>by
  show cN t now p<=5;unfold cN
  repeat' split
  all_goals decide
 | n+1,p=>by
  unfold goC;split
  .exact aZ4 n _
  .show cN t now p<=5;unfold cN
   repeat' split
   all_goals decide
theorem bMn{t:den tTo}{r now dead inn:Int}{p:den tPk}(h:(fwd t r now dead inn p).1=7):(bB t now p).1=0/\(fwd t r now dead inn p).2.2.2=bIp t now p:=by
 have hg:(bB t now p).1<=5:=aZ4 _ p;unfold fwd at h|-;split at h
 .cases h
 .rename_i c1;rw[zS c1];split at h
  .cases h
  .rename_i c2;rw[zS c2];split at h
   .simp only at h;omega
   .rename_i c3;rw[zS c3];refine⟨by simpa using c3,?_⟩;split at h
    .split at h<;>cases h
    .rename_i c4;rw[zS c4];split at h
     .cases h
     .rename_i c5;rw[zS c5];split at h
      .rename_i c6;rw[zT c6];rfl
      .cases h
theorem kinds{p:den tPk}(h:dC p=true)(h1:(p.1==1)=false)(h2:(p.1==2)=false):(p.1==3)=true:=by
 unfold dC at h;rw[cEw]at h;have hr:=aZ.1 h.1;have h1: ¬ p.1=(1:Int):=by simpa using h1
 have h2: ¬ p.1=(2:Int):=by simpa using h2
 have key:∀c:Int,1<=c->c<=3-> ¬ c=1-> ¬ c=2->c=3:=by intro c;omega
 have :p.1=(3:Int):=key p.1 hr.1 hr.2 h1 h2;rw[this];rfl
theorem bWq{w:den tNw}{r:Int}{p:den tPk}(h:aCg w)(hp:aCl p)(hk:(p.1==1)=false)(hv:(p.1==2)=false->(p.1==3)=true):uH w r p=some (bI (tF w r p)):=by
 unfold uH kL.b ixb aM iK pj2 pj3 pj4 pj9 dS aO zz4 zz5 zz6 zz7 zz8 zz9;rw[hk,zY];cases h2:p.1==2 with
 | true=>
  rw[zZ];refine bOu (w:=w) (r:=r) (p:=p) h2 h.flows h.flowsN (λk f a ha hx hm hk'=> ?_) (λa ha=> ?_)
  .obtain⟨d1,d2⟩:=aN8 ha hk';have hw:wr ((k:Int)+1)=((k+1:Nat):Int):=(wri (by have :=h.flowsN;omega) (by have :=h.flowsN;omega)).trans (by omega);simp only[d1,d2,cT,cE0,hx,zZ,aA,aP,bFx (aUa (h.flows f hm)),aW,bN,bF,bE,bG,hw];unfold cX;rw[h2];cases f.1==r
   .simp only[zY,cE1,zU,aA,aK0 hx]
   .simp only[zZ,zV,aA];rfl
  .show cond (decide ((((aB w).length:Nat):Int)<(a.length:Int))) _ _=_;rw[ha,zW (by omega)];rfl
 | false=>
  rw[zY,hv h2,zZ];simp only[aP,aUy h2 h.flows h.flowsN hp.sz hp.by_,aA]
theorem cBz{w:den tNw}{r:Int}{p:den tPk}(h:aCg w)(hp:aCl p)(hk:(p.1==1)=false)(hv:(p.1==2)=false->(p.1==3)=true):kL w r p=some (bI (tF w r p)):=by
 unfold kL kL.b ixb aM iK pj2 pj3 pj4 pj9 dS aO zz4 zz5 zz6 zz7 zz8 zz9;rw[hk,zY];cases h2:p.1==2 with
 | true=>
  rw[zZ];refine bOu (w:=w) (r:=r) (p:=p) h2 h.flows h.flowsN (λk f a ha hx hm hk'=> ?_) (λa ha=> ?_)
  .obtain⟨d1,d2⟩:=aN8 ha hk';have hw:wr ((k:Int)+1)=((k+1:Nat):Int):=(wri (by have :=h.flowsN;omega) (by have :=h.flowsN;omega)).trans (by omega);simp only[d1,d2,cT,cE0,hx,zZ,aA,aP,bFx (aUa (h.flows f hm)),aW,bN,bF,bE,bG,hw];unfold cX;rw[h2];cases f.1==r
   .simp only[zY,cE1,zU,aA,aK0 hx]
   .simp only[zZ,zV,aA];rfl
  .show cond (decide ((((aB w).length:Nat):Int)<(a.length:Int))) _ _=_;rw[ha,zW (by omega)];rfl
 | false=>
  rw[zY,hv h2,zZ];simp only[aP,aUy h2 h.flows h.flowsN hp.sz hp.by_,aA]
theorem aU4{w:den tNw}{r inn:Int}{p:den tPk}(h:aCg w)(hp:aCl p)(hk:(p.1==1)=false):iC w r inn p=some (bI (proc0 w r inn p)):=by
 have hp2:tot tPt p.2.2.2.1<=1073741824:=aJf hp.sz;have hs:=hp.step (nT w) (aI w) (aJ w) r inn;have hkeep:=aAh w.1 r w.2.2.2.1 (dL w.1 w.2.2.2.2.1 r) inn p;have hval:=aC1 (t:=w.1) (r:=r) (now:=w.2.2.2.1) (dead:=dL w.1 w.2.2.2.2.1 r) (inn:=inn) (p:=p);unfold iC eN.b aM vU iK pj2 pj3 dS aO bC bK zz4 zz5 zz6 zz7 zz8 zz9;simp only[aP,aU7 h.links h.dead,bHy h.as (cEv h.links (by decide)) (cEv hp.sz (by decide)) hp2,aA,aW,bN,bF,bE,bG,hk];rw[show fwd w.1 r w.2.2.2.1 (dL w.1 w.2.2.2.2.1 r) inn p=aG (nT w) (aI w) (aJ w) r inn p from rfl]at hkeep hval ⊢;unfold proc0;generalize aG (nT w) (aI w) (aJ w) r inn p=v at hs hkeep hval;have hback:(((fwS v).2.2.1,(fwS v).2.2.2.1,(fwS v).2.2.2.2.1,(fwS v).2.2.2.2.2.2.2.2.2.2.1,(fwS v).2.2.2.2.2.1,(fwS v).2.2.2.2.2.2.1,(fwS v).2.2.2.2.2.2.2.1,(fwS v).2.2.2.2.2.2.2.2.1,(fwS v).2.2.2.2.2.2.2.2.2.1,(fwS v).2.2.2.2.2.2.2.2.2.2.2):den tPk)=v.2.2.1:=rfl;rw[show (fwS v).1=v.1 from rfl,show (fwS v).2.1=v.2.1 from rfl];cases c1:v.1==1
 .cases c0:v.1==0
  .cases c7:v.1==7
   .simp only[zY,aA,cE1,zU,cGg];rfl
   .simp only[zZ,zY,aA,cE1,zU,cGg];rfl
  .unfold gM;rw[hkeep.2.2.1];simp only[zZ,zY,zV,aEe (t:=w.1) (cEv h.links (by decide)),aUt h.res h.use,aA];cases ct:(gX w.2.2.1 p.2.2.2.2.2.2.2.1 r v.2.1 w.2.2.2.1).2.1
   .simp only[zY,aA,cFh,cE1,zU,cGg];rfl
   .by_cases hl:(aH w).length<150
    .have h150:decide ((w.2.2.2.2.2.1.length:Int)<150)=true:=zX (by have :w.2.2.2.2.2.1.length<150:=hl;omega);rw[zX hl];simp only[zZ,aA,h150,cG0,zV,aF (b:=128) (n:=w.2.2.2.2.2.1.length) (m:=1) (by decide) (show (aH w).length+1<=_ by omega),cH0];rfl
    .have h150:decide ((w.2.2.2.2.2.1.length:Int)<150)=false:=zW (by have : ¬ w.2.2.2.2.2.1.length<150:=hl;omega);rw[zW hl];simp only[zZ,zY,aA,h150,cGt,cE1,zU,cGg];rfl
 .have c0:(v.1==0)=false:=by
   have :v.1=1:=by simpa using c1
   rw[this];rfl
  have hv:dC p=true:=hval (by rw[show v.1=1 from by simpa using c1];rfl);have hq1:(v.2.2.1.1==1)=false:=by rw[hkeep.1];exact hk
  have hq2:(v.2.2.1.1==2)=false->(v.2.2.1.1==3)=true:=by rw[hkeep.1];exact kinds hv hk
  rw[hback,bWq h hs hq1 hq2];simp only[c0,zZ,aA,cE1,zU,zV,cH0]
theorem bZs{w:den tNw}{r:Int}{p:den tPk}(h:aCg w)(hbn:(aS w).length<=68719476736)(hbx:∀x∈aS w,tot tIb x<=1073741824)(hp:aCl p)(hk:(p.1==1)=true):kL w r p=some (bI (qJ w r p)):=by
 unfold kL kL.b qJ ixb aM iK pj2 pj3 pj4 pj9 dS aO zz4 zz5 zz6 zz7 zz8 zz9;simp only[hk,zZ,bE6 hbn,aA];rcases aJ7 (aS w) r p.2.1 with hf | ⟨k,x,hf,hx⟩
 .rw[show dU w.2.2.2.2.2.2.2.1 r p.2.1= -1 from hf];rfl
 .have hlt:=(cEz.1 hx).1;have hx0:w.2.2.2.2.2.2.2.1[k]? =some x:=hx;have hxm:=hbx x (cE9 hx);have hxs:SmB 4294967296 tIb x:=(bR hxm).mono (by decide);have hvs:SmB 4294967296 tPk p:=(bR hp.sz).mono (by decide);have hd1:decide ((k:Int)<(w.2.2.2.2.2.2.2.1.length:Int))=true:=zX (by have :k<w.2.2.2.2.2.2.2.1.length:=hlt;omega);have hd2:decide (k<w.2.2.2.2.2.2.2.1.length)=true:=zX hlt;have hba:iV w k=x:=by unfold iV;rw[hx];rfl
  rw[show dU w.2.2.2.2.2.2.2.1 r p.2.1=(k:Int) from hf,zW (show ¬ (k:Int)<0 by omega),zS (show ¬ (k:Int)<0 by omega),cE0,hba];have e1:iC (w.1,w.2.1,w.2.2.1,w.2.2.2.1,w.2.2.2.2.1,w.2.2.2.2.2.1,w.2.2.2.2.2.2.1,w.2.2.2.2.2.2.2.1.set k (cM x p),w.2.2.2.2.2.2.2.2) r 0 (jT (cM x p) p)=some (bI (proc0 (oB w k (cM x p)) r 0 (jT (cM x p) p))):=by
   cases ca:yS (cM x p) p with
   | true=>exact aU4 (aIh h) (aRf hp) (aF7 ca)
   | false=>exact aU4 (aIh h) (aRf hp) (by unfold jT;rw[ca];rfl)
  simp only[zY,cT,hd1,hd2,zZ,hx0,aA,aP,bWn hxs hvs,bWf (x:=cM x p) (p:=p) (cEv (aJf hp.sz) (by decide)),aW,bN,bF,bE,bG,pkB,e1];cases yS (cM x p) p<;>rfl
theorem bD1{w:den tNw}{r inn:Int}{p:den tPk}(h:aCg w)(hbn:(aS w).length<=68719476736)(hbx:∀x∈aS w,tot tIb x<=1073741824)(hz:tot tPk p<=536870912)(hb:fR p):eN w r inn p=some (bI (dW w r inn p)):=by
 have hp:aCl p:=⟨by omega,hb⟩
 have hp2:tot tPt p.2.2.2.1<=1073741824:=aJf hp.sz;have hs:=hp.step (nT w) (aI w) (aJ w) r inn;have hkeep:=aAh w.1 r w.2.2.2.1 (dL w.1 w.2.2.2.2.1 r) inn p;have hval:=aC1 (t:=w.1) (r:=r) (now:=w.2.2.2.1) (dead:=dL w.1 w.2.2.2.2.1 r) (inn:=inn) (p:=p);have hsev:=bMn (t:=w.1) (r:=r) (now:=w.2.2.2.1) (dead:=dL w.1 w.2.2.2.2.1 r) (inn:=inn) (p:=p);unfold eN eN.b aM vU iK pj2 pj3 dS aO bC bK zz4 zz5 zz6 zz7 zz8 zz9;simp only[aP,aU7 h.links h.dead,bHy h.as (cEv h.links (by decide)) (cEv hp.sz (by decide)) hp2,aA,aW,bN,bF,bE,bG];rw[show fwd w.1 r w.2.2.2.1 (dL w.1 w.2.2.2.2.1 r) inn p=aG (nT w) (aI w) (aJ w) r inn p from rfl]at hkeep hval hsev ⊢;unfold dW;generalize aG (nT w) (aI w) (aJ w) r inn p=v at hs hkeep hval hsev;have hback:(((fwS v).2.2.1,(fwS v).2.2.2.1,(fwS v).2.2.2.2.1,(fwS v).2.2.2.2.2.2.2.2.2.2.1,(fwS v).2.2.2.2.2.1,(fwS v).2.2.2.2.2.2.1,(fwS v).2.2.2.2.2.2.2.1,(fwS v).2.2.2.2.2.2.2.2.1,(fwS v).2.2.2.2.2.2.2.2.2.1,(fwS v).2.2.2.2.2.2.2.2.2.2.2):den tPk)=v.2.2.1:=rfl;rw[show (fwS v).1=v.1 from rfl,show (fwS v).2.1=v.2.1 from rfl];cases c1:v.1==1
 .cases c0:v.1==0
  .cases c7:v.1==7
   .simp only[zY,aA,cE1,zU,cGg,cFh];rfl
   .cases ck:p.1==1
    .simp only[zZ,zY,aA,cE1,zU,cGg,cGt];rfl
    .obtain⟨hz0,hd0⟩:=hsev (by simpa using c7);have hn:aCl (cB r (aI w) v.2.2.2 p):=bE5 hz;have ht1:tot tPt (oV p)<=34359738368:=cEv (aDv p) (cEv hp2 (by decide));have hlen:decide (((fD (oV p)).length:Int)>1)=decide ((fD (oV p)).length>1):=by rw[cFm];simp only[zR,gt_iff_lt];omega
     have e1:iC w r 0 ((pkR (cB r w.2.2.2.1 v.2.2.2 p)).1,(pkR (cB r w.2.2.2.1 v.2.2.2 p)).2.1,(pkR (cB r w.2.2.2.1 v.2.2.2 p)).2.2.1,(pkR (cB r w.2.2.2.1 v.2.2.2 p)).2.2.2.2.2.2.2.2.1,(pkR (cB r w.2.2.2.1 v.2.2.2 p)).2.2.2.1,(pkR (cB r w.2.2.2.1 v.2.2.2 p)).2.2.2.2.1,(pkR (cB r w.2.2.2.1 v.2.2.2 p)).2.2.2.2.2.1,(pkR (cB r w.2.2.2.1 v.2.2.2 p)).2.2.2.2.2.2.1,(pkR (cB r w.2.2.2.1 v.2.2.2 p)).2.2.2.2.2.2.2.1,(pkR (cB r w.2.2.2.1 v.2.2.2 p)).2.2.2.2.2.2.2.2.2)=some (bI (proc0 w r 0 (cB r (aI w) v.2.2.2 p))):=aU4 h hn rfl;have e2:oN w r ((pkR (cB r w.2.2.2.1 v.2.2.2 p)).1,(pkR (cB r w.2.2.2.1 v.2.2.2 p)).2.1,(pkR (cB r w.2.2.2.1 v.2.2.2 p)).2.2.1,(pkR (cB r w.2.2.2.1 v.2.2.2 p)).2.2.2.2.2.2.2.2.1,(pkR (cB r w.2.2.2.1 v.2.2.2 p)).2.2.2.1,(pkR (cB r w.2.2.2.1 v.2.2.2 p)).2.2.2.2.1,(pkR (cB r w.2.2.2.1 v.2.2.2 p)).2.2.2.2.2.1,(pkR (cB r w.2.2.2.1 v.2.2.2 p)).2.2.2.2.2.2.1,(pkR (cB r w.2.2.2.1 v.2.2.2 p)).2.2.2.2.2.2.2.1,(pkR (cB r w.2.2.2.1 v.2.2.2 p)).2.2.2.2.2.2.2.2.2)=some (bI (tF w r (cB r (aI w) v.2.2.2 p))):=aUy rfl h.flows h.flowsN hn.sz hn.by_;simp only[zZ,zY,aA,cE1,zU,cG0,zV,cAe (t:=w.1) (now:=w.2.2.2.1) (p:=p) (cEv hp.sz (by decide)) hz0,<- hd0,bYg (t:=w.1) (r:=r) (now:=w.2.2.2.1) (d:=v.2.2.2) (cEv hp.sz (by decide)),bBo (fY (p:=p) (by omega)),aW,bN,bF,bE,bG,aGm ht1,hlen,e1,e2];unfold tA;cases hd:decide ((fD (oV p)).length>1)
     .rw[zS (of_decide_eq_false hd)];rfl
     .rw[zT (of_decide_eq_true hd)];rfl
  .unfold gM;rw[hkeep.2.2.1];simp only[zZ,zY,zV,aEe (t:=w.1) (cEv h.links (by decide)),aUt h.res h.use,aA];cases ct:(gX w.2.2.1 p.2.2.2.2.2.2.2.1 r v.2.1 w.2.2.2.1).2.1
   .simp only[zY,aA,cFh,cE1,zU,cGg];rfl
   .by_cases hl:(aH w).length<150
    .have h150:decide ((w.2.2.2.2.2.1.length:Int)<150)=true:=zX (by have :w.2.2.2.2.2.1.length<150:=hl;omega);rw[zX hl];simp only[zZ,aA,h150,cG0,zV,aF (b:=128) (n:=w.2.2.2.2.2.1.length) (m:=1) (by decide) (show (aH w).length+1<=_ by omega),cH0];rfl
    .have h150:decide ((w.2.2.2.2.2.1.length:Int)<150)=false:=zW (by have : ¬ w.2.2.2.2.2.1.length<150:=hl;omega);rw[zW hl];simp only[zZ,zY,aA,h150,cGt,cE1,zU,cGg];rfl
 .have c0:(v.1==0)=false:=by
   have :v.1=1:=by simpa using c1
   rw[this];rfl
  have hv:dC p=true:=hval (by rw[show v.1=1 from by simpa using c1];rfl);rw[hback];cases ck:p.1==1 with
  | true=>
   rw[bZs h hbn hbx hs (by rw[hkeep.1];exact ck)];simp only[c0,zZ,aA,cE1,zU,zV,cH0]
  | false=>
   have hq1:(v.2.2.1.1==1)=false:=by rw[hkeep.1];exact ck
   have hq2:(v.2.2.1.1==2)=false->(v.2.2.1.1==3)=true:=by rw[hkeep.1];exact kinds hv ck
   rw[cBz h hs hq1 hq2];simp only[c0,zZ,aA,cE1,zU,zV,cH0]
theorem gA(w:den tNw):tot tNw w=(tot (.sl tAS) (nT w).1+tot (.sl tLk) (nT w).2)+((tot (.sl tSg) (nK w).1+tot (.sl tSg) (nK w).2)+((0+(tot (.sl tRs) (nG w).2.1+tot (.sl tUs) (nG w).2.2))+(0+(tot (.sl ti) (aJ w)+(tot (.sl tFy) (aH w)+(tot (.sl tFl) (aB w)+(tot (.sl tIb) (aS w)+0))))))):=rfl
theorem aK4{w:den tNw}(h:tot tNw w<=1073741824):aCg w where
 as:=by have :=gA w;have :=dP (t:=tAS) (nT w).1;omega
 links:=by have :=gA w;have :=dP (t:=tLk) (nT w).2;omega
 dead:=by have :=gA w;have :=dP (t:=ti) (aJ w);omega
 res:=by have :=gA w;have :=dP (t:=tRs) (nG w).2.1;omega
 use:=by have :=gA w;have :=dP (t:=tUs) (nG w).2.2;omega
 flowsN:=by have :=gA w;have :=dP (t:=tFl) (aB w);omega
 flows:=λf hf=>by have :=gA w;have :=tG (t:=tFl) hf;omega
theorem cAo{w:den tNw}(h:tot tNw w<=1073741824):(aS w).length<=68719476736/\ ∀x∈aS w,tot tIb x<=1073741824:=
 ⟨by have :=gA w;have :=dP (t:=tIb) (aS w);omega,λx hx=>by have :=gA w;have :=tG (t:=tIb) hx;omega⟩
theorem aFa(w:den tNw):tot tNw (wX w)=tot tNw w:=rfl
theorem bEp(l:lUs):tot (.sl tUs) l=l.length:=dQ rfl
theorem bK6(g:den tSc)(id s d now:Int):tot (.sl tRs) (gX g id s d now).2.2.1=tot (.sl tRs) g.2.1/\tot (.sl tUs) (gX g id s d now).2.2.2<=tot (.sl tUs) g.2.2+1:=by
 have m1:=aIg g.2.2 id s d;have m2:=aIg g.2.2 0 s d;rw[bEp,bEp];unfold gX;split
 .exact⟨rfl,by simpa using m1⟩
 .split
  .exact⟨rfl,by simpa using m2⟩
  .exact⟨rfl,by simp⟩
theorem aW5(w:den tNw)(r eg:Int)(p:den tPk):tot tNw (gM w r eg p)<=tot tNw w+(2+tot tPk p):=by
 unfold gM;split
 .obtain⟨e1,e2⟩:=bK6 (nG w) p.2.2.2.2.2.2.2.1 r eg (aI w);rw[gA,gA w];simp only[nT,nK,nG,aJ,aH,aB,aS]at e1 e2 ⊢;rw[sY,aD8];have e3:tot tFy ((remote w.1 r eg).1,(remote w.1 r eg).2,p)=tot tPk p:=by simp[pC,qU]
  rw[e3];omega
 .rw[aFa];omega
theorem bOf(f:den tFl)(p:den tPk):tot tFl (kC f p)=tot tFl f:=by
 unfold kC;split<;>rfl
theorem bLg(r:Int)(p:den tPk)(f:den tFl):tot tFl (cX r p f)<=tot tFl f+1:=by
 unfold cX;split
 .split
  .rw[bOf];omega
  .exact bNl f p
 .omega
theorem bEc(r:Int)(p:den tPk):∀l:lFl,tot (.sl tFl) (l.map (cX r p))<=tot (.sl tFl) l+l.length
 | []=>by simp
 | f::l=>by
  have h1:=bLg r p f;have h2:=bEc r p l;rw[cFg,kT,kT,cFw];omega
theorem aG7(w:den tNw)(l:lFl):tot tNw (bS w l)=(tot (.sl tAS) (nT w).1+tot (.sl tLk) (nT w).2)+((tot (.sl tSg) (nK w).1+tot (.sl tSg) (nK w).2)+((0+(tot (.sl tRs) (nG w).2.1+tot (.sl tUs) (nG w).2.2))+(0+(tot (.sl ti) (aJ w)+(tot (.sl tFy) (aH w)+(tot (.sl tFl) l+(tot (.sl tIb) (aS w)+0))))))):=rfl
theorem bHa(w:den tNw)(k:Nat)(x:den tIb):tot tNw (oB w k x)=(tot (.sl tAS) (nT w).1+tot (.sl tLk) (nT w).2)+((tot (.sl tSg) (nK w).1+tot (.sl tSg) (nK w).2)+((0+(tot (.sl tRs) (nG w).2.1+tot (.sl tUs) (nG w).2.2))+(0+(tot (.sl ti) (aJ w)+(tot (.sl tFy) (aH w)+(tot (.sl tFl) (aB w)+(tot (.sl tIb) ((aS w).set k x)+0))))))):=rfl
theorem aMs(w:den tNw)(r:Int)(p:den tPk):tot tNw (tF w r p)<=tot tNw w+(aB w).length:=by
 have h:=bEc r p (aB w);unfold tF;rw[aG7,gA w];omega
theorem aV3(w:den tNw)(r inn:Int)(p:den tPk):tot tNw (proc0 w r inn p)<=tot tNw w+(2+tot tPk p+(aB w).length):=by
 unfold proc0;split
 .have :=aW5 w r (aG (nT w) (aI w) (aJ w) r inn p).2.1 (aG (nT w) (aI w) (aJ w) r inn p).2.2.1;have e:tot tPk (aG (nT w) (aI w) (aJ w) r inn p).2.2.1=tot tPk p:=aJr _ _ _ _ _ _;omega
 .split
  .have :=aMs w r (aG (nT w) (aI w) (aJ w) r inn p).2.2.1;omega
  .rw[aFa];omega
theorem aN7{t:Ty}{l:List (den t)}{k:Nat}{x y:den t}(h:l[k]? =some x):tot (.sl t) (l.set k y)+tot t x=tot (.sl t) l+tot t y:=by
 induction l generalizing k with
 | nil=>cases h
 | cons z l ih=>
  cases k with
  | zero=>
   have :z=x:=by simpa using h
   subst this;rw[List.set_cons_zero,kT,kT];omega
  | succ k=>
   have :=ih (k:=k) (by simpa using h);rw[List.set_cons_succ,kT,kT];omega
theorem bOc(x:den tIb)(p:den tPk):tot tIb (cM x p)<=tot tIb x+(1+tot tPk p):=by
 have h1:=bNv x p;have h2:=(aOx (p:=p) (cE8 _)).2;have e:∀y:den tIb,tot tIb y=tot (.sl tMs) y.2.2.2:=λy=>by simp[pC,qU]
 rw[e,e];omega
theorem bLv(w:den tNw)(r:Int)(p:den tPk):tot tNw (qJ w r p)<=tot tNw w+(3+2 * tot tPk p+(aB w).length):=by
 unfold qJ;split
 .omega
 .rcases aJ7 (aS w) r p.2.1 with hf | ⟨k,x,hf,hx⟩
  .rename_i hc;rw[hf]at hc;exact absurd (by decide) hc
  .have hba:iV w k=x:=by unfold iV;rw[hx];rfl
   rw[hf,cE0,hba];have h1:=aN7 (t:=tIb) (y:=cM x p) hx;have h2:=bOc x p;have h3:tot tNw (oB w k (cM x p))<=tot tNw w+(1+tot tPk p):=by
    rw[bHa,gA w];omega
   split
   .have h4:=aV3 (oB w k (cM x p)) r 0 (jT (cM x p) p);have h5:=aWq (cM x p) p;have h6:(aB (oB w k (cM x p))).length=(aB w).length:=rfl;omega
   .omega
theorem bN1(w:den tNw)(r d:Int)(p:den tPk):tot tNw (tA w r d p)<=tot tNw w+(20+tot tPk p+(aB w).length):=by
 unfold tA;rw[aFa];split
 .have h1:=aV3 w r 0 (cB r (aI w) d p);have h2:=aWd r (aI w) d p;omega
 .have :=aMs w r (cB r (aI w) d p);omega
theorem bLk(w:den tNw)(r inn:Int)(p:den tPk):tot tNw (dW w r inn p)<=tot tNw w+(20+2 * tot tPk p+(aB w).length):=by
 have e:tot tPk (aG (nT w) (aI w) (aJ w) r inn p).2.2.1=tot tPk p:=aJr _ _ _ _ _ _;unfold dW;split
 .have :=aW5 w r (aG (nT w) (aI w) (aJ w) r inn p).2.1 (aG (nT w) (aI w) (aJ w) r inn p).2.2.1;omega
 .split
  .split
   .have :=bLv w r (aG (nT w) (aI w) (aJ w) r inn p).2.2.1;omega
   .have :=aMs w r (aG (nT w) (aI w) (aJ w) r inn p).2.2.1;omega
  .split
   .have :=bN1 w r (aG (nT w) (aI w) (aJ w) r inn p).2.2.2 p;omega
   .rw[aFa];omega
theorem bKz{w:den tNw}(h:tot tNw w<=68719476736):SmB 68719476736 tNw w:=bR h
def qF(w:den tNw):q14:=
 ((nT w).1,(nT w).2,(nK w).1,(nK w).2,(nG w).1,(nG w).2.1,(nG w).2.2,aI w,aJ w,dN w,aH w,aB w,aS w)
theorem bLh{p:den tPp}(h:aBt p=true):tot tPp p<=8:=by
 unfold aBt aF0 at h;simp only[cEw,zR]at h;have e:tot tPp p=tot (.sl bU) p.2.2.2:=by simp[pC,qU]
 rw[e,dQ rfl];exact h.2.2.2.1
theorem bRb{p:den tPt}(h:aHj p=true):tot tPt p<=27:=by
 unfold aHj at h;rw[cEw,zR]at h;have key:∀l:lPp,l.all aBt=true->tot (.sl tPp) l<=9 * l.length:=by
  intro l
  induction l with
  | nil=>intro _;exact cE8 _
  | cons x l ih=>
   intro hl;rw[List.all_cons,cEw]at hl;have h1:=bLh hl.1;have h2:=ih hl.2;rw[kT,cFw];omega
 have :=key p h.2;have h1:cFd p<=3:=h.1;show tot (.sl tPp) p<=27;omega
theorem aF5{p:den tPk}(h:dC p=true):tot tPk p<=67:=by
 have h':=h;unfold dC at h';simp only[cEw,zR]at h';have h1:=bRb h'.2.1;have h2:p.2.2.2.2.2.2.2.2.2.length<=40:=by have :=h'.2.2.2.2.2.2.2.2.2;omega
 have e:tot tPk p=tot tPt p.2.2.2.1+tot (.sl tb) p.2.2.2.2.2.2.2.2.2:=by simp[pC,qU]
 rw[e,dQ (t:=tb) rfl];omega
theorem aW9{w:den tNw}{r inn:Int}{p:den tPk}(h:dC p=false):dW w r inn p=wX w:=by
 have hv:aG (nT w) (aI w) (aJ w) r inn p=(2,0,p,0):=by
  unfold aG fwd;rw[h];rfl
 unfold dW;rw[hv];rfl
theorem aRa(w:den tNw)(r inn:Int)(p:den tPk):tot tNw (dW w r inn p)<=tot tNw w+(160+(aB w).length):=by
 cases h:dC p with
 | true=>
  have h1:=bLk w r inn p;have h2:=aF5 h;omega
 | false=>rw[aW9 h,aFa];omega
structure qM (w:den tNw):Prop where
 fly:∀x∈aH w,fR x.2.2
 msg:∀f∈aB w,∀m∈f.2.2.2.2.1,sG m
theorem aSn{w:den tNw}(h:qM w){r eg:Int}{p:den tPk}(hp:fR p):qM (gM w r eg p)/\(aB (gM w r eg p)).length=(aB w).length:=by
 unfold gM;split
 .refine⟨⟨λx hx=> ?_,h.msg⟩,rfl⟩;rcases cE4.1 (show x∈aH w++_ from hx) with hx | hx
  .exact h.fly x hx
  .have :x=_:=cE3.1 hx;subst this;exact hp
 .exact⟨⟨h.fly,h.msg⟩,rfl⟩
theorem bL0(r:Int)(p:den tPk)(f:den tFl):(cX r p f).2.2.2.2.1=f.2.2.2.2.1:=by
 unfold cX;split
 .split
  .exact (bDi f p).1
  .unfold iT;cases p.1==3&&(qE p.2.2.2.2.2.2.2.2.2).2.2.2<;>rfl
 .rfl
theorem aKr{w:den tNw}(h:qM w)(r:Int)(p:den tPk):qM (tF w r p)/\(aB (tF w r p)).length=(aB w).length:=by
 refine⟨⟨h.fly,λf hf m hm=> ?_⟩,by show ((aB w).map _).length=_;simp⟩;obtain⟨g,hg,rfl⟩:=cE5.1 (show f∈(aB w).map (cX r p) from hf);rw[bL0]at hm;exact h.msg g hg m hm
theorem aF3{w:den tNw}(h:qM w):qM (wX w)/\(aB (wX w)).length=(aB w).length:=⟨⟨h.fly,h.msg⟩,rfl⟩
theorem aPn{w:den tNw}(h:qM w)(k:Nat)(x:den tIb):qM (oB w k x)/\(aB (oB w k x)).length=(aB w).length:=⟨⟨h.fly,h.msg⟩,rfl⟩
theorem aPh{t:den tTo}{now:Int}{dead:List Int}{r inn:Int}{p:den tPk}(hp:fR p):fR (aG t now dead r inn p).2.2.1:=λx hx=>hp x (by unfold aG at hx;rwa [(aAh t r now _ inn p).2.2.2]at hx)
theorem aR3{w:den tNw}(h:qM w){r inn:Int}{p:den tPk}(hp:fR p):qM (proc0 w r inn p)/\(aB (proc0 w r inn p)).length=(aB w).length:=by
 unfold proc0;split
 .exact aSn h (aPh hp)
 .split
  .exact aKr h _ _
  .exact aF3 h
theorem aJ9{w:den tNw}(h:qM w){r inn:Int}{p:den tPk}(hp:fR p):qM (dW w r inn p)/\(aB (dW w r inn p)).length=(aB w).length:=by
 unfold dW;split
 .exact aSn h (aPh hp)
 .split
  .split
   .unfold qJ;split
    .exact⟨h,rfl⟩
    .split
     .obtain⟨h1,h2⟩:=aPn h (dU (aS w) r (aG (nT w) (aI w) (aJ w) r inn p).2.2.1.2.1).toNat (cM (iV w (dU (aS w) r (aG (nT w) (aI w) (aJ w) r inn p).2.2.1.2.1).toNat) (aG (nT w) (aI w) (aJ w) r inn p).2.2.1);obtain⟨h3,h4⟩:=aR3 h1 (r:=r) (inn:=0) (p:=jT (cM (iV w (dU (aS w) r (aG (nT w) (aI w) (aJ w) r inn p).2.2.1.2.1).toNat) (aG (nT w) (aI w) (aJ w) r inn p).2.2.1) (aG (nT w) (aI w) (aJ w) r inn p).2.2.1) (by
       unfold jT;split
       .exact λx hx=>by cases hx
       .exact λx hx=>by cases hx)
      exact⟨h3,h4.trans h2⟩
     .exact aPn h _ _
   .exact aKr h _ _
  .split
   .unfold tA;split
    .obtain⟨h1,h2⟩:=aR3 h (r:=r) (inn:=0) (p:=cB r (aI w) (aG (nT w) (aI w) (aJ w) r inn p).2.2.2 p) (aQ7 _);obtain⟨h3,h4⟩:=aF3 h1;exact⟨h3,h4.trans h2⟩
    .obtain⟨h1,h2⟩:=aKr h r (cB r (aI w) (aG (nT w) (aI w) (aJ w) r inn p).2.2.2 p);obtain⟨h3,h4⟩:=aF3 h1;exact⟨h3,h4.trans h2⟩
   .exact aF3 h
def cC(w:den tNw)(l:lFy):den tNw:=(nT w,nK w,nG w,aI w,aJ w,l,aB w,aS w,dN w)
def lM(x:den tFy)(w:den tNw):q28:=
 (x.1,x.2.1,x.2.2.1,x.2.2.2.1,x.2.2.2.2.1,x.2.2.2.2.2.1,x.2.2.2.2.2.2.1,x.2.2.2.2.2.2.2.1,x.2.2.2.2.2.2.2.2.1,x.2.2.2.2.2.2.2.2.2.1,x.2.2.2.2.2.2.2.2.2.2.1,x.2.2.2.2.2.2.2.2.2.2.2,bI w)
theorem bZw{w:den tNw}{x:den tFy}(hx:(aH w)[0]? =some x)(hl:(aH w).length<=1073741824):mQ w 0=some (lM x (cC w ((aH w).drop 1))):=by
 have hlt:0<(aH w).length:=(cEz.1 hx).1;have hx:w.2.2.2.2.2.1[(0:Int).toNat]? =some x:=hx;have h1:decide ((0:Int)<(w.2.2.2.2.2.1.length:Int))=true:=zX (by have :0<w.2.2.2.2.2.1.length:=hlt;omega);have e1:wr ((0:Int)+1)=((1:Nat):Int):=rfl;have h2:cO ((1:Nat):Int) (w.2.2.2.2.2.1.length:Int) (w.2.2.2.2.2.1.length:Int)=true:=aCv (show 1<=w.2.2.2.2.2.1.length from hlt);have h3:cO (0:Int) (0:Int) (w.2.2.2.2.2.1.length:Int)=true:=aJn (k:=0) (cFe _);have h4:cut w.2.2.2.2.2.1 (0:Int) (0:Int)=[]:=by simp[cut]
 have hl:w.2.2.2.2.2.1.length<=1073741824:=hl;unfold mQ ixb aM aO bC zz4 zz5 zz6 zz7 zz8 zz9;simp only[h1,hx,aA,zZ,e1,h2,h3,h4,aEc,cFv,cGl,aF (b:=128) (n:=0) (m:=0) (by decide) (by decide),aF (b:=128) (n:=0) (m:=(w.2.2.2.2.2.1.drop 1).length) (by decide) (by simp;omega),zX (show (0:Int)<=0 from cFx _)];rfl
theorem aLy(w:den tNw)(l:lFy):tot tNw (cC w l)+tot (.sl tFy) (aH w)=tot tNw w+tot (.sl tFy) l:=by
 have e:tot tNw (cC w l)=(tot (.sl tAS) (nT w).1+tot (.sl tLk) (nT w).2)+((tot (.sl tSg) (nK w).1+tot (.sl tSg) (nK w).2)+((0+(tot (.sl tRs) (nG w).2.1+tot (.sl tUs) (nG w).2.2))+(0+(tot (.sl ti) (aJ w)+(tot (.sl tFy) l+(tot (.sl tFl) (aB w)+(tot (.sl tIb) (aS w)+0))))))):=rfl;rw[e,gA w];omega
def outW(w:den tNw):den tNw:=match aH w with
 | []=>w
 | x::l=>dW (cC w l) x.1 x.2.1 x.2.2
def delW:Nat->den tNw->den tNw
 | 0,w=>w
 | n+1,w=>match aH w with
  | []=>w
  | _::_=>delW n (outW w)
structure fM (B F:Nat) (w:den tNw):Prop where
 tot:Go.V.tot tNw w<=B
 flows:(aB w).length<=F
 bytes:qM w
theorem fM.mono{B C F:Nat}{w:den tNw}(h:fM B F w)(hb:B<=C):fM C F w:=⟨cEv h.tot hb,h.flows,h.bytes⟩
theorem bYd{w:den tNw}{x:den tFy}{l:lFy}(h:aH w=x::l):tot tNw (cC w l)+(1+tot tPk x.2.2)=tot tNw w:=by
 have h1:=aLy w l;rw[h,kT]at h1;have e:tot tFy x=tot tPk x.2.2:=by simp[pC,qU]
 rw[e]at h1;omega
theorem aQk{B F:Nat}{w:den tNw}{x:den tFy}{l:lFy}(hk:fM B F w)(h:aH w=x::l):fM B F (cC w l)/\tot tPk x.2.2<=B/\fR x.2.2:=by
 have h1:=bYd h;have h2:=hk.tot;refine⟨⟨by omega,hk.flows,⟨λy hy=>hk.bytes.fly y (by rw[h];exact cE7 _ hy),hk.bytes.msg⟩⟩,by omega,hk.bytes.fly x (by rw[h];exact cFb ..)⟩
theorem aKx{B F:Nat}{w:den tNw}(hk:fM B F w){r inn:Int}{p:den tPk}(hp:fR p):fM (B+(160+F)) F (dW w r inn p):=by
 obtain⟨h1,h2⟩:=aJ9 hk.bytes (r:=r) (inn:=inn) hp;have h3:=aRa w r inn p;have h4:=hk.tot;have h5:=hk.flows;exact⟨by omega,by omega,h1⟩
theorem aV4{B F:Nat}{w:den tNw}(hk:fM B F w):fM (B+(160+F)) F (outW w):=by
 unfold outW;split
 .exact hk.mono (by omega)
 .rename_i x l h;obtain⟨h1,h2,h3⟩:=aQk hk h;exact aKx h1 h3
theorem aW7{F:Nat}:∀(n:Nat) {B:Nat} {w:den tNw},fM B F w->fM (B+n * (160+F)) F (delW n w)
 | 0,B,w,hk=>hk.mono (by omega)
 | n+1,B,w,hk=>by
  unfold delW;split
  .exact hk.mono (by omega)
  .have :=aW7 n (aV4 hk);refine this.mono ?_;rw[cFq];omega
theorem bRw{F:Nat}{S R:Type}(enc:Nat->den tNw->S)(out:den tNw->R)(N:Nat){step:S->Option (S⊕R)}
  (H1:∀(k:Nat) (w:den tNw) (x:den tFy) (l:lFy),k<N->aH w=x::l->fM 536870912 F w->step (enc k w)=some (.inl (enc (k+1) (outW w))))
  (H2:∀(k:Nat) (w:den tNw),(k=N\/aH w=[])->step (enc k w)=some (.inr (out w))):
  ∀(m k B:Nat) (w:den tNw),k+m=N->fM B F w->B+m * (160+F)<=536870912->aD step (enc k w)=some (out (delW m w)):=by
 intro m
 induction m with
 | zero=>intro k B w hk hw hB;exact bH (H2 k w (.inl (by omega)))
 | succ m ih=>
  intro k B w hk hw hB;unfold delW;split
  .rename_i h;exact bH (H2 k w (.inr h))
  .rename_i x l h;rw[cFq]at hB;rw[cY (H1 k w x l (by omega) h (hw.mono (by omega)))];exact ih (k+1) _ _ (by omega) (aV4 hw) (by omega)
theorem aJu{B F:Nat}{w:den tNw}(h:fM B F w)(hB:B<=1073741824):aCg w/\(aS w).length<=68719476736/\ ∀x∈aS w,tot tIb x<=1073741824:=
 ⟨aK4 (cEv h.tot hB),cAo (cEv h.tot hB)⟩
theorem bF9{B F:Nat}{w:den tNw}(h:fM B F w)(hB:B<=1073741824):(aH w).length<=1073741824:=by
 have :=gA w;have :=dP (t:=tFy) (aH w);have :=h.tot;omega
theorem cCs{F:Nat}{w:den tNw}{x:den tFy}{l:lFy}(h:aH w=x::l)(hk:fM 536870912 F w):mQ (((bI w).2.2.2.1,(bI w).2.2.2.2.1),((bI w).2.2.2.2.2.1,(bI w).2.2.2.2.2.2.1),((bI w).2.2.2.2.2.2.2.1,(bI w).2.2.2.2.2.2.2.2.1,(bI w).2.2.2.2.2.2.2.2.2.1),(bI w).2.2.2.2.2.2.2.2.2.2.1,(bI w).2.2.2.2.2.2.2.2.2.2.2.1,(bI w).1,(bI w).2.1,(bI w).2.2.1,(bI w).2.2.2.2.2.2.2.2.2.2.2.2) 0=some (lM x (cC w l))/\cF (((lM x (cC w l)).2.2.2.2.2.2.2.2.2.2.2.2.2.2.2.1,(lM x (cC w l)).2.2.2.2.2.2.2.2.2.2.2.2.2.2.2.2.1),((lM x (cC w l)).2.2.2.2.2.2.2.2.2.2.2.2.2.2.2.2.2.1,(lM x (cC w l)).2.2.2.2.2.2.2.2.2.2.2.2.2.2.2.2.2.2.1),((lM x (cC w l)).2.2.2.2.2.2.2.2.2.2.2.2.2.2.2.2.2.2.2.1,(lM x (cC w l)).2.2.2.2.2.2.2.2.2.2.2.2.2.2.2.2.2.2.2.2.1,(lM x (cC w l)).2.2.2.2.2.2.2.2.2.2.2.2.2.2.2.2.2.2.2.2.2.1),(lM x (cC w l)).2.2.2.2.2.2.2.2.2.2.2.2.2.2.2.2.2.2.2.2.2.2.1,(lM x (cC w l)).2.2.2.2.2.2.2.2.2.2.2.2.2.2.2.2.2.2.2.2.2.2.2.1,(lM x (cC w l)).2.2.2.2.2.2.2.2.2.2.2.2.1,(lM x (cC w l)).2.2.2.2.2.2.2.2.2.2.2.2.2.1,(lM x (cC w l)).2.2.2.2.2.2.2.2.2.2.2.2.2.2.1,(lM x (cC w l)).2.2.2.2.2.2.2.2.2.2.2.2.2.2.2.2.2.2.2.2.2.2.2.2) (lM x (cC w l)).1 (lM x (cC w l)).2.1 ((lM x (cC w l)).2.2.1,(lM x (cC w l)).2.2.2.1,(lM x (cC w l)).2.2.2.2.1,(lM x (cC w l)).2.2.2.2.2.1,(lM x (cC w l)).2.2.2.2.2.2.1,(lM x (cC w l)).2.2.2.2.2.2.2.1,(lM x (cC w l)).2.2.2.2.2.2.2.2.1,(lM x (cC w l)).2.2.2.2.2.2.2.2.2.1,(lM x (cC w l)).2.2.2.2.2.2.2.2.2.2.1,(lM x (cC w l)).2.2.2.2.2.2.2.2.2.2.2.1)=some (bI (outW w)):=by
 have hx:(aH w)[0]? =some x:=by rw[h];rfl
 have hd:(aH w).drop 1=l:=by rw[h];rfl
 obtain⟨k1,k2,k3⟩:=aQk hk h;obtain⟨n1,n2,n3⟩:=aJu k1 (by decide);refine⟨?_,?_⟩
 .have :=bZw (w:=w) hx (bF9 hk (by decide));rw[hd]at this;exact this
 .have e:outW w=dW (cC w l) x.1 x.2.1 x.2.2:=by unfold outW;rw[h]
  rw[e];exact bEm (w:=cC w l) n1 n2 n3 k2 k3
theorem cC4{F:Nat}{w:den tNw}{n:Int}{B:Nat}(h0:0<=n)(hn:n<=1000000)(hk:fM B F w)(hB:B+n.toNat * (160+F)<=536870912):iB w n=some (bI (delW n.toNat w)):=by
 unfold iB iK aO bC bK dY kV vE aA2 aD6 aG1 aHf aP1 aY4 bBs bCn aQ0 zz4 zz5 zz6 zz7 zz8 zz9;refine bRw (F:=F) (λk w=>((k:Int),bI w)) bI n.toNat (λk w x l hk' hx hw=> ?_) (λk w hk'=> ?_) n.toNat 0 B w (cFs _) hk hB
 .obtain⟨e1,e2⟩:=cCs hx hw;have hd:decide ((k:Int)<n)=true:=zX (by omega);have hp:decide (((bI w).1.length:Int)>0)=true:=by rw[show (bI w).1=aH w from rfl,hx];simp
  have hwr:wr ((k:Int)+1)=((k+1:Nat):Int):=(wri (by omega) (by omega)).trans (by omega);simp only[hd,hp,zZ,aA,e1,e2,hwr]
 .rcases hk' with rfl | h
  .have hd:decide (((n.toNat:Nat):Int)<n)=false:=zW (by omega);simp only[hd,zY,aA]
  .have hp:decide (((bI w).1.length:Int)>0)=false:=by rw[show (bI w).1=aH w from rfl,h];rfl
   simp only[hp,aA];cases decide ((k:Int)<n)<;>rfl
theorem bNp(f:den tFl):(aE f).1.2.2.2.2.1=f.2.2.2.2.1:=by
 unfold aE
 repeat' split
 all_goals rfl
theorem bDt{f:den tFl}(h:∀m∈f.2.2.2.2.1,sG m):fR (mO f):=by
 unfold mO;split
 .intro x hx;have hx:x∈(f.2.2.2.2.1[f.2.2.2.1.toNat]?).getD []:=hx;cases hm:f.2.2.2.2.1[f.2.2.2.1.toNat]? with
  | none=>rw[hm]at hx;cases hx
  | some m=>rw[hm]at hx;exact h m (cE9 hm) x hx
 .intro x hx;cases hx
theorem bC6{f:den tFl}(h:∀m∈f.2.2.2.2.1,sG m):fR (aE f).2.1:=by
 unfold aE
 repeat' split
 all_goals first
  | exact bDt h
  | (intro x hx;cases hx)
def stepT(k:Nat)(w:den tNw):den tNw:=match (aB w)[k]? with
 | some f=>if (aE f).2.2 then dW (bS w ((aB w).set k (aE f).1)) (aE f).1.1 0 (aE f).2.1 else bS w ((aB w).set k (aE f).1)
 | none=>w
def tickL:Nat->Nat->den tNw->den tNw
 | _,0,w=>w
 | k,n+1,w=>tickL (k+1) n (stepT k w)
def tick0(w:den tNw):den tNw:=(nT w,nK w,((nG w).1,vL (nG w).2.1 (wr (aI w+1)),[]),wr (aI w+1),aJ w,aH w,aB w,aS w,dN w)
def dA(w:den tNw):den tNw:=if aI w>=1000000 then w else tickL 0 (aB w).length (tick0 w)
theorem aMr{B F:Nat}{w:den tNw}{k:Nat}{f:den tFl}(hk:fM B F w)(hf:(aB w)[k]? =some f):fM B F (bS w ((aB w).set k (aE f).1))/\tot tPk (aE f).2.1<=B/\fR (aE f).2.1:=by
 have hm:=cE9 hf;have h1:=aN7 (t:=tFl) (y:=(aE f).1) hf;have h2:=(aWl f).1;have h3:=(aWl f).2;have h4:=tG (t:=tFl) hm;have h5:=aG7 w ((aB w).set k (aE f).1);have h6:=gA w;have h7:=hk.tot;refine⟨⟨by omega,?_,⟨hk.bytes.fly,λg hg m hmm=> ?_⟩⟩,by omega,bC6 (hk.bytes.msg f hm)⟩
 .show ((aB w).set k _).length<=F;rw[cF8];exact hk.flows
 .rcases cHx (show g∈(aB w).set k (aE f).1 from hg) with hg | rfl
  .exact hk.bytes.msg g hg m hmm
  .rw[bNp]at hmm;exact hk.bytes.msg f hm m hmm
theorem aSw{B F:Nat}{w:den tNw}(k:Nat)(hk:fM B F w):fM (B+(160+F)) F (stepT k w)/\(aB (stepT k w)).length=(aB w).length:=by
 unfold stepT;split
 .rename_i f hf;obtain⟨h1,h2,h3⟩:=aMr hk hf;have hl:(aB (bS w ((aB w).set k (aE f).1))).length=(aB w).length:=by show ((aB w).set k _).length=_;rw[cF8]
  split
  .exact⟨aKx h1 h3,(aJ9 h1.bytes h3).2.trans hl⟩
  .exact⟨h1.mono (by omega),hl⟩
 .exact⟨hk.mono (by omega),rfl⟩
theorem aTf{F:Nat}:∀(n k:Nat) {B:Nat} {w:den tNw},fM B F w->fM (B+n * (160+F)) F (tickL k n w)/\(aB (tickL k n w)).length=(aB w).length
 | 0,k,B,w,hk=>⟨hk.mono (by omega),rfl⟩
 | n+1,k,B,w,hk=>by
  obtain⟨h1,h2⟩:=aSw k hk;obtain⟨h3,h4⟩:=aTf n (k+1) h1;unfold tickL;exact⟨h3.mono (by rw[cFq];omega),h4.trans h2⟩
theorem bN0(l:lRs)(now:Int):(vL l now).length<=l.length:=cHn _ _
theorem aF9{B F:Nat}{w:den tNw}(hk:fM B F w):fM B F (tick0 w):=by
 refine⟨?_,hk.flows,⟨hk.bytes.fly,hk.bytes.msg⟩⟩;have h1:=hk.tot;have h2:=gA w;have h3:=bN0 (nG w).2.1 (wr (aI w+1));have e:tot tNw (tick0 w)=(tot (.sl tAS) (nT w).1+tot (.sl tLk) (nT w).2)+((tot (.sl tSg) (nK w).1+tot (.sl tSg) (nK w).2)+((0+(tot (.sl tRs) (vL (nG w).2.1 (wr (aI w+1)))+tot (.sl tUs) []))+(0+(tot (.sl ti) (aJ w)+(tot (.sl tFy) (aH w)+(tot (.sl tFl) (aB w)+(tot (.sl tIb) (aS w)+0))))))):=rfl;have r1:∀l:lRs,tot (.sl tRs) l=l.length:=λl=>dQ rfl
 have r2:=r1 (vL (nG w).2.1 (wr (aI w+1)));have r3:=r1 (nG w).2.1;rw[aBm]at e;omega
theorem aK3{B F:Nat}{w:den tNw}(hk:fM B F w):fM (B+F * (160+F)) F (dA w):=by
 unfold dA;split
 .exact hk.mono (by omega)
 .have :=(aTf (aB w).length 0 (aF9 hk)).1;refine this.mono ?_;have h1:(aB w).length * (160+F)<=F * (160+F):=cF7 _ hk.flows;omega
theorem aWj{F:Nat}{S R:Type}(enc:Nat->den tNw->S)(out:den tNw->R)(N:Nat){step:S->Option (S⊕R)}
  (H1:∀(k:Nat) (w:den tNw),k<N->(aB w).length=N->fM 536870912 F w->step (enc k w)=some (.inl (enc (k+1) (stepT k w))))
  (H2:∀(w:den tNw),(aB w).length=N->step (enc N w)=some (.inr (out w))):
  ∀(m k B:Nat) (w:den tNw),k+m=N->(aB w).length=N->fM B F w->B+m * (160+F)<=536870912->aD step (enc k w)=some (out (tickL k m w)):=by
 intro m
 induction m with
 | zero=>
  intro k B w hk hn hw hB;have :k=N:=by omega
  subst this;exact bH (H2 w hn)
 | succ m ih=>
  intro k B w hk hn hw hB;rw[cFq]at hB;obtain⟨h1,h2⟩:=aSw k hw;rw[cY (H1 k w (by omega) hn (hw.mono (by omega)))];exact ih (k+1) _ _ (by omega) (h2.trans hn) h1 (by omega)
theorem bWp{B F:Nat}{w0:den tNw}(hF:F<=1000)(hk:fM B F w0)(hB:B+F * (160+F)<=536870912):oF w0=some (!decide (aI w0>=1000000),bI (dA w0)):=by
 have hres:(nG w0).2.1.length<=1073741824:=(aK4 (cEv hk.tot (by omega))).res;unfold oF dA ixb aK1 iK pj3 pj9 aO bC bK dY kV vE aA2 aD6 aG1 aHf zz4 zz5 zz6 zz7 zz8 zz9
 by_cases hnow:aI w0>=1000000
 .rw[zT hnow,zX (p:=w0.2.2.2.1>=1000000) hnow];rfl
 .rw[zS hnow,zW (p:=w0.2.2.2.1>=1000000) hnow,zY];unfold xO;simp only[bS6 hres,aA];refine Eq.trans (congrArg (λo=>Option.bind o _) (aWj (F:=F) (λk w=>((k:Int),bI w)) bI (aB w0).length (λk w hk' hn hw=> ?_) (λw hn=> ?_) (aB w0).length 0 B (tick0 w0) (cFs _) rfl (aF9 hk) (by have :(aB w0).length * (160+F)<=F * (160+F):=cF7 _ hk.flows;omega))) ?_
  .obtain⟨f,hf⟩:∃f,(aB w)[k]? =some f:=⟨_,cEx (show k<(aB w).length by omega)⟩
   obtain⟨k1,k2,k3⟩:=aMr hw hf;obtain⟨n1,n2,n3⟩:=aJu k1 (by decide);have hft:tot tFl f<=34359738368:=by have :=tG (t:=tFl) (cE9 hf);have :=gA w;have :=hw.tot;omega
   have hd:decide ((k:Int)<(w0.2.2.2.2.2.2.1.length:Int))=true:=zX (by have :k<w0.2.2.2.2.2.2.1.length:=(by exact hk');omega);have hd1:decide ((k:Int)<((bI w).2.1.length:Int))=true:=zX (by have :k<(bI w).2.1.length:=(show k<(aB w).length by omega);omega);have hd2:decide (k<(bI w).2.1.length)=true:=zX (show k<(aB w).length by omega);have hf':(bI w).2.1[k]? =some f:=hf;have hwr:wr ((k:Int)+1)=((k+1:Nat):Int):=(wri (by have :=hk.flows;omega) (by have :=hk.flows;omega)).trans (by omega);have e:stepT k w=if (aE f).2.2 then dW (bS w ((aB w).set k (aE f).1)) (aE f).1.1 0 (aE f).2.1 else bS w ((aB w).set k (aE f).1):=by unfold stepT;rw[hf]
   have e1:cF (((bI w).2.2.2.1,(bI w).2.2.2.2.1),((bI w).2.2.2.2.2.1,(bI w).2.2.2.2.2.2.1),((bI w).2.2.2.2.2.2.2.1,(bI w).2.2.2.2.2.2.2.2.1,(bI w).2.2.2.2.2.2.2.2.2.1),(bI w).2.2.2.2.2.2.2.2.2.2.1,(bI w).2.2.2.2.2.2.2.2.2.2.2.1,(bI w).1,((bI w).2.1.set k ((eH (aE f).1 (aE f).2.1 (aE f).2.2).1,(eH (aE f).1 (aE f).2.1 (aE f).2.2).2.1,(eH (aE f).1 (aE f).2.1 (aE f).2.2).2.2.1,(eH (aE f).1 (aE f).2.1 (aE f).2.2).2.2.2.1,(eH (aE f).1 (aE f).2.1 (aE f).2.2).2.2.2.2.2.2.2.2.2.2.2.2.2.2.2.1,(eH (aE f).1 (aE f).2.1 (aE f).2.2).2.2.2.2.2.2.2.2.2.2.2.2.2.2.2.2.1,(eH (aE f).1 (aE f).2.1 (aE f).2.2).2.2.2.2.1,(eH (aE f).1 (aE f).2.1 (aE f).2.2).2.2.2.2.2.1,(eH (aE f).1 (aE f).2.1 (aE f).2.2).2.2.2.2.2.2.2.2.2.2.2.2.2.2.2.2.2.1)),(bI w).2.2.1,(bI w).2.2.2.2.2.2.2.2.2.2.2.2) (eH (aE f).1 (aE f).2.1 (aE f).2.2).1 0 ((eH (aE f).1 (aE f).2.1 (aE f).2.2).2.2.2.2.2.2.1,(eH (aE f).1 (aE f).2.1 (aE f).2.2).2.2.2.2.2.2.2.1,(eH (aE f).1 (aE f).2.1 (aE f).2.2).2.2.2.2.2.2.2.2.1,(eH (aE f).1 (aE f).2.1 (aE f).2.2).2.2.2.2.2.2.2.2.2.2.2.2.2.2.2.2.2.2.1,(eH (aE f).1 (aE f).2.1 (aE f).2.2).2.2.2.2.2.2.2.2.2.1,(eH (aE f).1 (aE f).2.1 (aE f).2.2).2.2.2.2.2.2.2.2.2.2.1,(eH (aE f).1 (aE f).2.1 (aE f).2.2).2.2.2.2.2.2.2.2.2.2.2.1,(eH (aE f).1 (aE f).2.1 (aE f).2.2).2.2.2.2.2.2.2.2.2.2.2.2.1,(eH (aE f).1 (aE f).2.1 (aE f).2.2).2.2.2.2.2.2.2.2.2.2.2.2.2.1,(eH (aE f).1 (aE f).2.1 (aE f).2.2).2.2.2.2.2.2.2.2.2.2.2.2.2.2.2.2.2.2.2)=some (bI (dW (bS w ((aB w).set k (aE f).1)) (aE f).1.1 0 (aE f).2.1)):=bEm (w:=bS w ((aB w).set k (aE f).1)) n1 n2 n3 k2 k3;rw[e];simp only[hd,hd1,hd2,cT,cE0,hf',zZ,aA,aP,bWz hft,hwr];cases hb:(aE f).2.2
   .rfl
   .rw[hb]at e1;rw[zT rfl];show Option.bind (cond true _ _) _=_;rw[zZ];show Option.bind (Option.bind (cF _ _ 0 _) λy12=>_) _=_;rw[e1];rfl
  .have hd:decide ((((aB w0).length:Nat):Int)<(w0.2.2.2.2.2.2.1.length:Int))=false:=zW (by have :w0.2.2.2.2.2.2.1.length=(aB w0).length:=rfl;omega);simp only[hd,zY]
  .rfl
theorem bXn{B F:Nat}{w0:den tNw}(hF:F<=1000)(hk:fM B F w0)(hB:B+F * (160+F)<=536870912):wF w0=some (!decide (aI w0>=1000000),bI (dA w0)):=by
 have hres:(nG w0).2.1.length<=1073741824:=(aK4 (cEv hk.tot (by omega))).res;unfold wF dA ixb aK1 iK pj3 pj9 aO bC bK dY kV vE aA2 aD6 aG1 aHf zz4 zz5 zz6 zz7 zz8 zz9
 by_cases hnow:aI w0>=1000000
 .rw[zT hnow,zX (p:=w0.2.2.2.1>=1000000) hnow];rfl
 .rw[zS hnow,zW (p:=w0.2.2.2.1>=1000000) hnow,zY];unfold xS;simp only[bR9 hres,aA];refine Eq.trans (congrArg (λo=>Option.bind o _) (aWj (F:=F) (λk w=>((k:Int),bI w)) bI (aB w0).length (λk w hk' hn hw=> ?_) (λw hn=> ?_) (aB w0).length 0 B (tick0 w0) (cFs _) rfl (aF9 hk) (by have :(aB w0).length * (160+F)<=F * (160+F):=cF7 _ hk.flows;omega))) ?_
  .obtain⟨f,hf⟩:∃f,(aB w)[k]? =some f:=⟨_,cEx (show k<(aB w).length by omega)⟩
   obtain⟨k1,k2,k3⟩:=aMr hw hf;obtain⟨n1,n2,n3⟩:=aJu k1 (by decide);have hft:tot tFl f<=34359738368:=by have :=tG (t:=tFl) (cE9 hf);have :=gA w;have :=hw.tot;omega
   have hd:decide ((k:Int)<((bI w).2.1.length:Int))=true:=zX (by have :k<(bI w).2.1.length:=(by show k<(aB w).length;omega);omega);have hd1:decide ((k:Int)<((bI w).2.1.length:Int))=true:=zX (by have :k<(bI w).2.1.length:=(show k<(aB w).length by omega);omega);have hd2:decide (k<(bI w).2.1.length)=true:=zX (show k<(aB w).length by omega);have hf':(bI w).2.1[k]? =some f:=hf;have hwr:wr ((k:Int)+1)=((k+1:Nat):Int):=(wri (by have :=hk.flows;omega) (by have :=hk.flows;omega)).trans (by omega);have e:stepT k w=if (aE f).2.2 then dW (bS w ((aB w).set k (aE f).1)) (aE f).1.1 0 (aE f).2.1 else bS w ((aB w).set k (aE f).1):=by unfold stepT;rw[hf]
   have e1:eN (((bI w).2.2.2.1,(bI w).2.2.2.2.1),((bI w).2.2.2.2.2.1,(bI w).2.2.2.2.2.2.1),((bI w).2.2.2.2.2.2.2.1,(bI w).2.2.2.2.2.2.2.2.1,(bI w).2.2.2.2.2.2.2.2.2.1),(bI w).2.2.2.2.2.2.2.2.2.2.1,(bI w).2.2.2.2.2.2.2.2.2.2.2.1,(bI w).1,((bI w).2.1.set k ((eH (aE f).1 (aE f).2.1 (aE f).2.2).1,(eH (aE f).1 (aE f).2.1 (aE f).2.2).2.1,(eH (aE f).1 (aE f).2.1 (aE f).2.2).2.2.1,(eH (aE f).1 (aE f).2.1 (aE f).2.2).2.2.2.1,(eH (aE f).1 (aE f).2.1 (aE f).2.2).2.2.2.2.2.2.2.2.2.2.2.2.2.2.2.1,(eH (aE f).1 (aE f).2.1 (aE f).2.2).2.2.2.2.2.2.2.2.2.2.2.2.2.2.2.2.1,(eH (aE f).1 (aE f).2.1 (aE f).2.2).2.2.2.2.1,(eH (aE f).1 (aE f).2.1 (aE f).2.2).2.2.2.2.2.1,(eH (aE f).1 (aE f).2.1 (aE f).2.2).2.2.2.2.2.2.2.2.2.2.2.2.2.2.2.2.2.1)),(bI w).2.2.1,(bI w).2.2.2.2.2.2.2.2.2.2.2.2) (eH (aE f).1 (aE f).2.1 (aE f).2.2).1 0 ((eH (aE f).1 (aE f).2.1 (aE f).2.2).2.2.2.2.2.2.1,(eH (aE f).1 (aE f).2.1 (aE f).2.2).2.2.2.2.2.2.2.1,(eH (aE f).1 (aE f).2.1 (aE f).2.2).2.2.2.2.2.2.2.2.1,(eH (aE f).1 (aE f).2.1 (aE f).2.2).2.2.2.2.2.2.2.2.2.2.2.2.2.2.2.2.2.2.1,(eH (aE f).1 (aE f).2.1 (aE f).2.2).2.2.2.2.2.2.2.2.2.1,(eH (aE f).1 (aE f).2.1 (aE f).2.2).2.2.2.2.2.2.2.2.2.2.1,(eH (aE f).1 (aE f).2.1 (aE f).2.2).2.2.2.2.2.2.2.2.2.2.2.1,(eH (aE f).1 (aE f).2.1 (aE f).2.2).2.2.2.2.2.2.2.2.2.2.2.2.1,(eH (aE f).1 (aE f).2.1 (aE f).2.2).2.2.2.2.2.2.2.2.2.2.2.2.2.1,(eH (aE f).1 (aE f).2.1 (aE f).2.2).2.2.2.2.2.2.2.2.2.2.2.2.2.2.2.2.2.2.2)=some (bI (dW (bS w ((aB w).set k (aE f).1)) (aE f).1.1 0 (aE f).2.1)):=bD1 (w:=bS w ((aB w).set k (aE f).1)) n1 n2 n3 k2 k3;rw[e];simp only[hd,hd1,hd2,cT,cE0,hf',zZ,aA,aP,bXy hft,hwr];cases hb:(aE f).2.2
   .rfl
   .rw[hb]at e1;rw[zT rfl];show Option.bind (cond true _ _) _=_;rw[zZ];show Option.bind (Option.bind (eN _ _ 0 _) λy12=>_) _=_;rw[e1];rfl
  .have hd:decide ((((aB w0).length:Nat):Int)<((bI w).2.1.length:Int))=false:=zW (by have :(bI w).2.1.length=(aB w0).length:=hn;omega);simp only[hd,zY]
  .rfl
def mX(w:den tNw):den tNw:=delW 2000 (dA w)
def aGb(F:Nat):Nat:=F * (160+F)+2000 * (160+F)
theorem aPe{B F:Nat}{w:den tNw}(hk:fM B F w):fM (B+aGb F) F (mX w):=by
 have :=aW7 2000 (aK3 hk);exact this.mono (by unfold aGb;omega)
theorem bP4{B F:Nat}{w:den tNw}(hF:F<=1000)(hk:fM B F w)(hB:B+aGb F<=536870912):lB w=some (bI (mX w)):=by
 unfold aGb at hB;unfold lB iK dS aO bC bK dY zz4 zz5 zz6 zz7 zz8 zz9;have e1:=bWp hF hk (by omega);have e2:iB (((bI (dA w)).2.2.2.1,(bI (dA w)).2.2.2.2.1),((bI (dA w)).2.2.2.2.2.1,(bI (dA w)).2.2.2.2.2.2.1),((bI (dA w)).2.2.2.2.2.2.2.1,(bI (dA w)).2.2.2.2.2.2.2.2.1,(bI (dA w)).2.2.2.2.2.2.2.2.2.1),(bI (dA w)).2.2.2.2.2.2.2.2.2.2.1,(bI (dA w)).2.2.2.2.2.2.2.2.2.2.2.1,(bI (dA w)).1,(bI (dA w)).2.1,(bI (dA w)).2.2.1,(bI (dA w)).2.2.2.2.2.2.2.2.2.2.2.2) 2000=some (bI (mX w)):=cC4 (w:=dA w) (n:=2000) (by decide) (by decide) (aK3 hk) (by show B+F * (160+F)+2000 * (160+F)<=_;omega);simp only[aP,e1,aA,e2]
theorem bIh{w:den tNw}(h:aI8 w=true):(aB w).length<=4:=by
 unfold aI8 at h;simp only[cEw,zR]at h;simp only[h]
theorem bT7{w:den tNw}(hv:aI8 w=true)(h:tot tNw w<=134217728)(hb:qM w):fM 134217728 4 w:=⟨h,bIh hv,hb⟩
def bZ:Nat->den tNw->den tNw
 | 0,w=>w
 | n+1,w=>bZ n (mX w)
theorem aMl{F:Nat}:∀(n:Nat) {B:Nat} {w:den tNw},fM B F w->fM (B+n * aGb F) F (bZ n w)
 | 0,B,w,hk=>hk.mono (by omega)
 | n+1,B,w,hk=>by
  have :=aMl n (aPe hk);exact this.mono (by rw[cFq];omega)
theorem bC2{F:Nat}{S R:Type}(enc:Nat->den tNw->S)(out:den tNw->R)(N:Nat){step:S->Option (S⊕R)}
  (H1:∀(k B:Nat) (w:den tNw),k<N->fM B F w->B+aGb F<=536870912->step (enc k w)=some (.inl (enc (k+1) (mX w))))
  (H2:∀(w:den tNw),step (enc N w)=some (.inr (out w))):
  ∀(m k B:Nat) (w:den tNw),k+m=N->fM B F w->B+m * aGb F<=536870912->aD step (enc k w)=some (out (bZ m w)):=by
 intro m
 induction m with
 | zero=>
  intro k B w hk hw hB;have :k=N:=by omega
  subst this;exact bH (H2 w)
 | succ m ih=>
  intro k B w hk hw hB;rw[cFq]at hB;rw[cY (H1 k B w (by omega) hw (by omega))];exact ih (k+1) _ _ (by omega) (aPe hw) (by omega)
def vR(w:den tNw)(n:Int):den tNw:=if aI8 w&&inR n 0 1000 then bZ n.toNat w else w
theorem cDa:aGb 4=328656:=rfl
theorem aXg{n:Int}(h0:0<=n)(h1:n<=1000):134217728+n.toNat * aGb 4<=536870912:=by
 rw[cDa];have :n.toNat * 328656<=1000 * 328656:=Nat.mul_le_mul (by omega) (cE8 _);omega
theorem bTi{w:den tNw}{n:Int}(h:tot tNw w<=134217728)(hb:qM w):tot tNw (vR w n)<=536870912:=by
 unfold vR;split
 .rename_i hc;rw[cEw,aZ]at hc;have h1:=(aMl n.toNat (bT7 hc.1 h hb)).tot;have h2:=aXg hc.2.1 hc.2.2;omega
 .omega
theorem cBk{w:den tNw}{n:Int}(h:tot tNw w<=134217728)(hb:qM w):uK w n=some (aNq (vR w n)):=by
 have ht:=bTi (n:=n) h hb;unfold uK iK pj3 dS aO bC bK dY zz4 zz5 zz6 zz7 zz8 zz9;simp only[aP,bEo (bKz (w:=w) (by omega)),bLb (w:=w) (by omega),mN,aA];have e3:mJ (((qF (vR w n)).1,(qF (vR w n)).2.1),((qF (vR w n)).2.2.1,(qF (vR w n)).2.2.2.1),((qF (vR w n)).2.2.2.2.1,(qF (vR w n)).2.2.2.2.2.1,(qF (vR w n)).2.2.2.2.2.2.1),(qF (vR w n)).2.2.2.2.2.2.2.1,(qF (vR w n)).2.2.2.2.2.2.2.2.1,(qF (vR w n)).2.2.2.2.2.2.2.2.2.2.1,(qF (vR w n)).2.2.2.2.2.2.2.2.2.2.2.1,(qF (vR w n)).2.2.2.2.2.2.2.2.2.2.2.2,(qF (vR w n)).2.2.2.2.2.2.2.2.2.1)=some (aNq (vR w n)):=bEo (w:=vR w n) (bKz (by omega));unfold vR at e3 ⊢;cases cv:aI8 w
 .rw[cv]at e3;simp only[zY,aA];simp only[cFh,cE1,zU]at e3 ⊢;exact congrArg (λo=>Option.bind o some) e3
 .cases cn:inR n 0 1000
  .rw[cv,cn]at e3;simp only[zZ,zY,aA];simp only[cGt,cE1,zU]at e3 ⊢;exact congrArg (λo=>Option.bind o some) e3
  .rw[cv,cn]at e3;have hr:=aZ.1 cn;simp only[zZ,aA];simp only[cG0,zV]at e3 ⊢;refine Eq.trans (congrArg (λo=>Option.bind o _) (bC2 (F:=4) (λk w=>((k:Int),qF w)) qF n.toNat (λk B w hk' hw hB=> ?_) (λw=> ?_) n.toNat 0 134217728 w (cFs _) (bT7 cv h hb) (aXg hr.1 hr.2))) ?_
   .have hd:decide ((k:Int)<n)=true:=zX (by omega);have hwr:wr ((k:Int)+1)=((k+1:Nat):Int):=(wri (by omega) (by omega)).trans (by omega);have e1:lB (((qF w).1,(qF w).2.1),((qF w).2.2.1,(qF w).2.2.2.1),((qF w).2.2.2.2.1,(qF w).2.2.2.2.2.1,(qF w).2.2.2.2.2.2.1),(qF w).2.2.2.2.2.2.2.1,(qF w).2.2.2.2.2.2.2.2.1,(qF w).2.2.2.2.2.2.2.2.2.2.1,(qF w).2.2.2.2.2.2.2.2.2.2.2.1,(qF w).2.2.2.2.2.2.2.2.2.2.2.2,(qF w).2.2.2.2.2.2.2.2.2.1)=some (bI (mX w)):=bP4 (w:=w) (by decide) hw hB;simp only[hd,zZ,e1,aA,hwr];rfl
   .have hd:decide (((n.toNat:Nat):Int)<n)=false:=zW (by omega);simp only[hd,zY]
   .simp only[aA];exact congrArg (λo=>Option.bind o some) e3
theorem cAl{w:den tNw}(h:tot tNw w<=134217728)(hb:qM w):aAi w=some (aNq (vR w (wr (8+lG w)))):=by
 unfold aAi iK dS;simp only[aP,aQi (w:=w) (aK4 (by omega)).flowsN,cBk h hb,aA]
def Ans{α:Type}(o:Option α)(P:α->Prop):Prop:= ∃y,o=some y/\P y
theorem bPp{S R:Type}{step:S->Option (S⊕R)}(I:Nat->S->Prop)(Q:R->Prop)(h:∀n s,I n s->(∃r,step s=some (.inr r)/\Q r)\/ ∃m s',m<n/\step s=some (.inl s')/\I m s')(n:Nat):∀s,I n s->Ans (aD step s) Q:=by
 induction n using Nat.strongRecOn with
 | ind n ih=>
  intro s hs;rcases h n s hs with ⟨r,h1,h2⟩ | ⟨m,s',h1,h2,h3⟩
  .exact⟨r,bH h1,h2⟩
  .obtain⟨r,h4,h5⟩:=ih m h1 s' h3;exact⟨r,(cY h2).trans h4,h5⟩
theorem wW{S R T:Type}{step:S->Option (S⊕R)}(I:Nat->S->Prop)(Q:R->Prop){k:R->Option T}{G:Option T->Prop}(h:∀n s,I n s->(∃r,step s=some (.inr r)/\Q r)\/ ∃m s',m<n/\step s=some (.inl s')/\I m s')(n:Nat)(s:S)(hs:I n s)(hk:∀r,Q r->G (k r)):G (Option.bind (aD step s) k):=by
 obtain⟨r,h1,h2⟩:=bPp I Q h n s hs;rw[h1];exact hk r h2
theorem jP{S R T:Type}{step:S->Option (S⊕R)}(len:Nat)(pos:S->Int)(J:Nat->S->Prop)(Q:R->Prop){k:R->Option T}{G:Option T->Prop}
  (h:∀(i:Nat) (s:S),i<len->pos s=(i:Int)->J i s->(∃r,step s=some (.inr r)/\Q r)\/ ∃s',step s=some (.inl s')/\pos s'=((i+1:Nat):Int)/\J (i+1) s')
  (he:∀s:S,pos s=(len:Int)->J len s-> ∃r,step s=some (.inr r)/\Q r) (i0:Nat) (s0:S) (hi:i0<=len) (hp:pos s0=(i0:Int)) (hJ:J i0 s0) (hk:∀r,Q r->G (k r)):G (Option.bind (aD step s0) k):=by
 refine wW (λn s=> ∃i:Nat,pos s=(i:Int)/\i+n=len/\J i s) Q ?_ (len - i0) s0 ⟨i0,hp,by omega,hJ⟩ hk
 rintro n s ⟨i,h1,h2,h3⟩
 cases n with
 | zero=>
  have e:i=len:=by omega
  subst e;exact .inl (he s h1 h3)
 | succ n=>
  rcases h i s (by omega) h1 h3 with h4 | ⟨s',h4,h5,h6⟩
  .exact .inl h4
  .exact .inr ⟨n,s',by omega,h4,i+1,h5,by omega,h6⟩
theorem bJ{n:Int}(h0: -1000000000000<=n)(h1:n<=1000000000000):wr n=n:=wri (by omega) (by omega)
theorem eZ{n:Nat}(h:n<=1000000000):wr ((n:Int)+1)=((n+1:Nat):Int):=by rw[bJ (by omega) (by omega)];omega
theorem bBt(a:Int):0<=yR .i64 a 255/\yR .i64 a 255<=255:=by
 have h:((BitVec.ofInt 64 a &&& BitVec.ofInt 64 255).toNat)<=255:=by
  rw[BitVec.toNat_and];exact cEv Nat.and_le_right (by decide)
 have e:yR .i64 a 255=wr (((BitVec.ofInt 64 a &&& BitVec.ofInt 64 255).toNat:Nat):Int):=rfl;rw[e,show wr (((BitVec.ofInt 64 a &&& BitVec.ofInt 64 255).toNat:Nat):Int)=_ from wri (by omega) (by omega)];omega
def Cur(code:List Int)(c:List Int×q26):Prop:=c.1=code/\0<=c.2.1/\c.2.1<=(code.length:Int)
theorem aHs{code:List Int}(hl:code.length<=1048576){c:List Int}{p h:Int}(hc:Cur code (c,p,h)):∃v c' p' h',qR (c,p,h)=some (v,c',p',h')/\(0<=v/\v<=255)/\Cur code (c',p',h'):=by
 obtain⟨h1,h2,h3⟩:=hc;simp only at h1 h2 h3;subst h1;unfold qR pj4;simp only[aA]
 by_cases hp:p<(c.length:Int)
 .obtain⟨m,rfl⟩:=cFo h2;have hm:m<c.length:=by omega
  rw[zX hp,zZ,aR,cEx hm];refine⟨_,_,_,_,rfl,bBt _,rfl,?_,?_⟩
  .show 0<=wr ((m:Int)+1);rw[show wr ((m:Int)+1)=(m:Int)+1 from wri (by omega) (by omega)];omega
  .show wr ((m:Int)+1)<=_;rw[show wr ((m:Int)+1)=(m:Int)+1 from wri (by omega) (by omega)];omega
 .rw[zW hp,zY];exact⟨_,_,_,_,rfl,bBt _,rfl,h2,h3⟩
theorem aL{code:List Int}(hl:code.length<=1048576){n:Int}(h0:0<n)(h1:n<=256){c:List Int}{p h:Int}(hc:Cur code (c,p,h)):∃v c' p' h',aC (c,p,h) n=some (v,c',p',h')/\(0<=v/\v<n)/\Cur code (c',p',h'):=by
 obtain⟨v,c',p',h',hb,hv,hc'⟩:=aHs hl hc;refine⟨Int.tmod v n,c',p',h',?_,⟨Int.tmod_nonneg _ hv.1,Int.tmod_lt_of_pos _ h0⟩,hc'⟩;unfold aC pj3;rw[zW (by omega),zY,zX h1,zZ];simp only[hb,aA];rw[show (n==0)=false by rw[beq_eq_false_iff_ne];omega,zY]
theorem aIm{code:List Int}(hl:code.length<=1048576){n:Int}(h1:256<n){c:List Int}{p h:Int}(hc:Cur code (c,p,h)):∃v c' p' h',aC (c,p,h) n=some (v,c',p',h')/\(0<=v/\v<n)/\Cur code (c',p',h'):=by
 obtain⟨v1,c1,p1,h1',e1,r1,k1⟩:=aHs hl hc;obtain⟨v2,c2,p2,h2',e2,r2,k2⟩:=aHs hl k1;obtain⟨v3,c3,p3,h3',e3,r3,k3⟩:=aHs hl k2;have w1:wr (v1 * 65536)=v1 * 65536:=bJ (by omega) (by omega);have w2:wr (v2 * 256)=v2 * 256:=bJ (by omega) (by omega);have w3:wr (v1 * 65536+v2 * 256)=v1 * 65536+v2 * 256:=bJ (by omega) (by omega);have w4:wr (v1 * 65536+v2 * 256+v3)=v1 * 65536+v2 * 256+v3:=bJ (by omega) (by omega);refine⟨Int.tmod (v1 * 65536+v2 * 256+v3) n,c3,p3,h3',?_,⟨Int.tmod_nonneg _ (by omega),Int.tmod_lt_of_pos _ (by omega)⟩,k3⟩;unfold aC pj3;rw[zW (by omega),zY,zW (by omega),zY];simp only[e1,e2,e3,aA,w1,w2,w3,w4];rw[show (n==0)=false by rw[beq_eq_false_iff_ne];omega,zY]
theorem tC{code:List Int}(hl:code.length<=1048576){l:List Int}(h0:0<l.length)(h1:l.length<=256){c:List Int}{p h:Int}(hc:Cur code (c,p,h)):∃v c' p' h',eI (c,p,h) l=some (v,c',p',h')/\v∈l/\Cur code (c',p',h'):=by
 obtain⟨v,c',p',h',hb,hv,hc'⟩:=aL hl (n:=(l.length:Int)) (by omega) (by omega) hc;obtain⟨m,rfl⟩:=cFo hv.1;have hm:m<l.length:=by omega
 refine⟨l[m],c',p',h',?_,cGh hm,hc'⟩;unfold eI pj3;simp only[hb,aA,aR,cEx hm]
theorem tJ{code:List Int}(hl:code.length<=1048576){n:Int}(h0:0<n)(h1:n<=256){c:List Int}{p h:Int}(hc:Cur code (c,p,h)):∃b c' p' h',dT (c,p,h) n=some (b,c',p',h')/\Cur code (c',p',h'):=by
 obtain⟨v,c',p',h',hb,hv,hc'⟩:=aL hl h0 h1 hc;refine⟨v==0,c',p',h',?_,hc'⟩;unfold dT pj3;simp only[hb,aA]
theorem bFo{code:List Int}(hl:code.length<=1048576):∃c p h,zQ code=some (c,p,h)/\Cur code (c,p,h):=by
 unfold zQ;refine wW (G:=λo=> ∃c p h,o=some (c,p,h)/\Cur code (c,p,h)) (λn s=> ∃k:Nat,s.2=(k:Int)/\k+n=code.length) (λ_=>True) ?_ code.length _ ⟨0,rfl,by omega⟩ ?_
 .rintro n ⟨a,b⟩ ⟨k,hk,hn⟩
  simp only at hk;subst hk
  by_cases h1:(k:Int)<(code.length:Int)
  .by_cases h2:(k:Int)<4000
   .right;have hk:k<code.length:=by omega
    refine⟨n - 1,(yR .i64 (wr ((wr ((wr (a * (137:Int)))+(wr code[k])))+(11:Int))) (1073741823:Int),((k+1:Nat):Int)),by omega,?_,k+1,rfl,by omega⟩;simp only[zX h1,zX h2,zZ,aA,aR,cEx hk];rw[show wr ((k:Int)+1)=((k+1:Nat):Int) from by rw[show wr ((k:Int)+1)=(k:Int)+1 from wri (by omega) (by omega)];omega]
   .left;refine⟨a,?_,trivial⟩;simp only[zX h1,zW h2,zZ,zY,aA]
  .left;refine⟨a,?_,trivial⟩;simp only[zW h1,zY,aA]
 .intro r _;exact⟨_,_,_,rfl,rfl,cFx 0,by show (0:Int)<=_;omega⟩
theorem aQv{α:Type}(p:Nat->α->Bool):∀(l:List α) (k:Nat),(bW (λk x=>if p k x then none else some ()) k l).isNone=true↔ ∀j x,l[j]? =some x->p (k+j) x=true
 | [],k=>by simp[bW]
 | x::l,k=>by
  have ih:=aQv p l (k+1);cases hp:p k x with
  | true=>
   simp only[bW,hp,zV];rw[ih];constructor
   .intro h j y hy;cases j with
    | zero=>simp only[cH7,Option.some.injEq]at hy;subst hy;exact hp
    | succ j=>simp only[List.getElem?_cons_succ]at hy;have :=h j y hy;rwa [show k+1+j=k+(j+1) by omega]at this
   .intro h j y hy;have :=h (j+1) y (by simpa using hy);rwa [show k+(j+1)=k+1+j by omega]at this
  | false=>
   simp only[bW,hp];constructor
   .intro h;simp at h
   .intro h;have :=h 0 x (by simp);rw[Nat.add_zero,hp]at this;cases this
def plc(id s d:Int):Nat->lUs->Int
 | _,[]=> -1
 | k,x::l=>if iW id s d x then (k:Int) else plc id s d (k+1) l
theorem aFg(l:lUs)(id s d:Int):place l id s d=plc id s d 0 l:=by
 unfold place;have :∀(l:lUs) (k:Nat),(match bW (λk x=>if iW id s d x then some (k:Int) else none) k l with
  | some i=>i
  | none=> -1)=plc id s d k l:=by
  intro l
  induction l with
  | nil=>intro k;rfl
  | cons x l ih=>
   intro k;cases hp:iW id s d x with
   | true=>simp only[bW,plc,hp,zV]
   | false=>simp only[bW,plc,hp];exact ih (k+1)
 exact this l 0
theorem bBp{id s d:Int}:∀(l:lUs) (k:Nat),(plc id s d k l= -1/\ ∀x∈l,iW id s d x=false)\/ ∃j x,plc id s d k l=((k+j:Nat):Int)/\l[j]? =some x/\iW id s d x=true
 | [],_=> .inl ⟨rfl,λx hx=>by cases hx⟩
 | x::l,k=>by
  unfold plc;cases hp:iW id s d x with
  | true=>exact .inr ⟨0,x,by simp,by simp,hp⟩
  | false=>
   rcases bBp l (k+1) with ⟨h1,h2⟩ | ⟨j,y,h1,h2,h3⟩
   .refine .inl ⟨by simpa using h1,λy hy=> ?_⟩;rcases cEy.1 hy with rfl | hy
    .exact hp
    .exact h2 y hy
   .exact .inr ⟨j+1,y,by rw[zS (by simp),h1];congr 1;omega,by simpa using h2,h3⟩
theorem aKt(l:lUs)(id s d:Int):(place l id s d= -1/\ ∀x∈l,iW id s d x=false)\/ ∃(j:Nat) (x:den tUs),place l id s d=(j:Int)/\l[j]? =some x/\iW id s d x=true:=by
 rw[aFg];rcases bBp (id:=id) (s:=s) (d:=d) l 0 with h | ⟨j,x,h1,h2,h3⟩
 .exact .inl h
 .exact .inr ⟨j,x,by rw[h1,cFs],h2,h3⟩
theorem bFr{id s d:Int}(z:lUs):∀(l:lUs) (k:Nat),plc id s d k (l++z)=if plc id s d k l<0 then plc id s d (k+l.length) z else plc id s d k l
 | [],k=>by simp[plc]
 | x::l,k=>by
  have e1:plc id s d k (x::l)=if iW id s d x then (k:Int) else plc id s d (k+1) l:=rfl
  have e2:plc id s d k (x::l++z)=if iW id s d x then (k:Int) else plc id s d (k+1) (l++z):=rfl
  by_cases hp:iW id s d x=true
  .rw[zT hp]at e1 e2;rw[e1,e2,zS (by omega)]
  .rw[zS hp]at e1 e2;rw[e1,e2,bFr z l (k+1),show k+(x::l).length=k+1+l.length by simp only[cFw];omega]
theorem bAz{id s d:Int}:∀(l m:lUs) (k:Nat),l.map (λx=>(x.1,x.2.1,x.2.2.1))=m.map (λx=>(x.1,x.2.1,x.2.2.1))->plc id s d k l=plc id s d k m
 | [],[],_,_=>rfl
 | [],_::_,_,h=>by simp at h
 | _::_,[],_,h=>by simp at h
 | x::l,y::m,k,h=>by
  simp only[cFg,List.cons.injEq,Prod.mk.injEq]at h;obtain⟨⟨h1,h2,h3⟩,h4⟩:=h;have e:iW id s d x=iW id s d y:=by unfold iW;rw[h1,h2,h3]
  simp only[plc,e,bAz l m (k+1) h4]
theorem aBd{id s d:Int}{x:den tUs}:iW id s d x=true↔x.1=id/\x.2.1=s/\x.2.2.1=d:=by unfold iW;simp
def aT7(g:den tSc)(now:Int):Prop:= ∀(j:Nat) (x:den tUs),g.2.2[j]? =some x->place g.2.2 x.1 x.2.1 x.2.2.1=(j:Int)/\(1:Int)<=x.2.2.2/\oO g x.1 x.2.1 x.2.2.1 now>=x.2.2.2
theorem bKq{g:den tSc}{now:Int}:aE8 g now=true↔(1:Int)<=g.1/\(20:Int)>=g.1/\aCw g.2.1 g.1 now=true/\aT7 g now:=by
 unfold aE8 aT7;rw[cEw,cEw,aQv];unfold inR okU;simp only[cEw,zR,beq_iff_eq,cFs,inR,and_assoc]
theorem bDh{l:lRs}{cap now:Int}:aCw l cap now=true↔l.length<=40/\ ∀(j:Nat) (x:den tRs),l[j]? =some x->wE x=true/\rate l x.2.1 x.2.2.1 now<=cap/\ ∀y∈l.take j,kB x y=false:=by
 unfold aCw;rw[cEw,aQv];unfold okR;simp only[cEw,zR,cFs,cFu,decide_eq_false_iff_not,List.any_eq_false,Bool.not_eq_true,Int.not_lt,gt_iff_lt]
theorem aKs(x y:den tRs):kB x y=kB y x:=by
 unfold kB atR;rw[cFm];simp only[cEw,beq_iff_eq];constructor<;>(rintro⟨a,b,c⟩;exact⟨a.symm,b.symm,c.symm⟩)
theorem bMp{l:lRs}:(∀(j:Nat) (x:den tRs),l[j]? =some x-> ∀y∈l.take j,kB x y=false)↔l.Pairwise λx y=>kB x y=false:=by
 rw[cG5];constructor
 .intro h i j hi hj hij;rw[aKs];exact h j l[j] (cEx hj) l[i] (List.mem_take_iff_getElem.2 ⟨i,by omega,rfl⟩)
 .intro h j x hx y hy;obtain⟨i,hi,rfl⟩:=List.mem_take_iff_getElem.1 hy;obtain⟨hj,rfl⟩:=cEz.1 hx;rw[aKs];exact h i j (by omega) hj (by omega)
def rs(s d now:Int):lRs->Int
 | []=>0
 | x::l=>(if atR x s d&&decide (now<=x.2.2.2.2) then x.2.2.2.1 else 0)+rs s d now l
theorem aS5{s d now:Int}:∀{l:lRs},(∀x∈l,(0:Int)<=x.2.2.2.1/\(20:Int)>=x.2.2.2.1)->0<=rs s d now l/\rs s d now l<=20 * l.length
 | [],_=>by simp[rs]
 | x::l,h=>by
  have ih:=aS5 (s:=s) (d:=d) (now:=now) (l:=l) λy hy=>h y (cE7 _ hy)
  have hx:=h x (by simp);have e:((x::l).length:Int)=l.length+1:=by simp
  unfold rs;rw[e];split<;>omega
theorem aM6{s d now:Int}:∀(l:lRs) (a:Int),(∀x∈l,(0:Int)<=x.2.2.2.1/\(20:Int)>=x.2.2.2.1)->0<=a->a+20 * l.length<=1000000000000->
  l.foldl (λa x=>if atR x s d&&decide (now<=x.2.2.2.2) then wr (a+x.2.2.2.1) else a) a=a+rs s d now l
 | [],a,_,_,_=>by simp[rs]
 | x::l,a,h,h0,hb=>by
  have hx:=h x (by simp);simp only[cFw,Int.natCast_add,Int.natCast_one]at hb;simp only[cHb,rs];split
  .rw[show wr (a+x.2.2.2.1)=a+x.2.2.2.1 from wri (by omega) (by omega),aM6 l _ (λy hy=>h y (cE7 _ hy)) (by omega) (by omega)];omega
  .rw[aM6 l a (λy hy=>h y (cE7 _ hy)) h0 (by omega)];omega
theorem aOb{s d now:Int}{l:lRs}(h:∀x∈l,(0:Int)<=x.2.2.2.1/\(20:Int)>=x.2.2.2.1)(hl:l.length<=1000000):rate l s d now=rs s d now l:=by
 unfold rate;rw[aM6 l 0 h (by omega) (by omega)];omega
theorem bK4{s d now:Int}(m:lRs):∀l:lRs,rs s d now (l++m)=rs s d now l+rs s d now m
 | []=>by simp[rs]
 | x::l=>by simp only[List.cons_append,rs,bK4 m l];omega
theorem aNx{s d now:Int}(p:den tRs->Bool):∀{l:lRs},(∀x∈l,(0:Int)<=x.2.2.2.1/\(20:Int)>=x.2.2.2.1)->rs s d now (l.filter p)<=rs s d now l
 | [],_=>by simp[rs]
 | x::l,h=>by
  have ih:=aNx (s:=s) (d:=d) (now:=now) p (l:=l) λy hy=>h y (cE7 _ hy)
  have hx:=h x (by simp);rw[cHm];split
  .simp only[rs];omega
  .simp only[rs];split<;>omega
theorem aWk{s d now:Int}:∀l:lRs,rs s d now (vL l now)=rs s d now l
 | []=>rfl
 | x::l=>by
  have ih:=aWk (s:=s) (d:=d) (now:=now) l;unfold vL at ih ⊢;rw[cHm];cases hd:decide (now<=x.2.2.2.2) with
  | true=>rw[zT rfl];simp only[rs,ih]
  | false=>rw[zS (by simp)];simp only[rs,hd,cGt,cE1,zU,ih];omega
structure rQ (l:lRs) (cap now:Int):Prop where
 len:l.length<=40
 val:∀x∈l,wE x=true
 rate:∀x∈l,rs x.2.1 x.2.2.1 now l<=cap
 pw:l.Pairwise λx y=>kB x y=false
theorem aJd{x:den tRs}(h:wE x=true):(1:Int)<=x.1/\(1:Int)<=x.2.2.2.1/\(20:Int)>=x.2.2.2.1:=by
 unfold wE inR at h;simp only[cEw,zR]at h;exact⟨h.1.1,h.2.1.1,h.2.1.2⟩
theorem vN{l:lRs}(h:∀x∈l,wE x=true):∀x∈l,(0:Int)<=x.2.2.2.1/\(20:Int)>=x.2.2.2.1:=λx hx=>by
 have :=aJd (h x hx);omega
theorem bRs{l:lRs}{cap now:Int}:aCw l cap now=true↔rQ l cap now:=by
 rw[bDh];constructor
 .rintro⟨h1,h2⟩
  have hv:∀x∈l,wE x=true:=λx hx=>by
   obtain⟨j,hj⟩:=cIm.1 hx;exact (h2 j x hj).1
  exact⟨h1,hv,λx hx=>by
   obtain⟨j,hj⟩:=cIm.1 hx;rw[<- aOb (vN hv) (by omega)];exact (h2 j x hj).2.1,bMp.1 λj x hj=>(h2 j x hj).2.2⟩
 .rintro⟨h1,h2,h3,h4⟩
  refine⟨h1,λj x hj=> ?_⟩;have hx:=cE9 hj;exact⟨h2 x hx,by rw[aOb (vN h2) (by omega)];exact h3 x hx,bMp.2 h4 j x hj⟩
theorem rQ.filter{l:lRs}{cap now:Int}(h:rQ l cap now)(p:den tRs->Bool):rQ (l.filter p) cap now:=
 ⟨cEv (cHn ..) h.len,λx hx=>h.val x (cFc.1 hx).1,λx hx=>Int.le_trans (aNx p (vN h.val)) (h.rate x (cFc.1 hx).1),h.pw.filter _⟩
def admR(l:lRs)(x:den tRs)(cap now:Int):lRs:=
 if !wE x||decide (x.2.2.2.2<now)||decide (wr (rate (l.filter λy=> !kB x y) x.2.1 x.2.2.1 now+x.2.2.2.1)>cap)||decide (((l.filter λy=> !kB x y).length:Int)>=40) then l else (l.filter λy=> !kB x y)++[x]
theorem rQ.admR{l:lRs}{cap now:Int}(h:rQ l cap now)(x:den tRs):rQ (admR l x cap now) cap now:=by
 unfold Go.Proofs.YtnkjolpkcmgcaaaGreat.admR;split
 .exact h
 .rename_i hc;simp only[cGm,cFu,zR,not_or,Bool.not_eq_false]at hc;obtain⟨⟨⟨c1,c2⟩,c3⟩,c4⟩:=hc;have hf:=h.filter λy=> !kB x y
  have hx:=aJd c1;have hr:rQ (l.filter λy=> !kB x y) cap now:=hf;rw[aOb (vN hf.val) (by have :=hf.len;omega)]at c3;have hb:=aS5 (s:=x.2.1) (d:=x.2.2.1) (now:=now) (vN hf.val);have hl:=hf.len;rw[show wr (rs x.2.1 x.2.2.1 now (l.filter λy=> !kB x y)+x.2.2.2.1)=rs x.2.1 x.2.2.1 now (l.filter λy=> !kB x y)+x.2.2.2.1 from wri (by omega) (by omega)]at c3;refine⟨by simp only[cFj,List.length_singleton];omega,?_,?_,?_⟩
  .intro y hy;rcases cE4.1 hy with hy | hy
   .exact hf.val y hy
   .rw[cE3.1 hy];exact c1
  .intro y hy;rw[bK4];simp only[rs];rcases cE4.1 hy with hy | hy
   .have h1:=hf.rate y hy;cases ha:atR x y.2.1 y.2.2.1 with
    | false=>simp only[cFh,cE1,zU];omega
    | true=>
     have ha':=ha;unfold atR at ha';simp only[cEw,beq_iff_eq]at ha';rw[<- ha'.1,<- ha'.2];split<;>omega
   .rw[cE3.1 hy];split<;>omega
  .rw[List.pairwise_append];refine⟨hf.pw,List.pairwise_singleton _ _,λy hy z hz=> ?_⟩;rw[cE3.1 hz,aKs];have :=(cFc.1 hy).2;simpa using this
theorem aM1{l:lUs}{id s d:Int}(z:lUs):place (l++z) id s d=if place l id s d<0 then plc id s d l.length z else place l id s d:=by
 rw[aFg,aFg,bFr,cFs]
theorem aK9{l m:lUs}{id s d:Int}(h:l.map (λx=>(x.1,x.2.1,x.2.2.1))=m.map (λx=>(x.1,x.2.1,x.2.2.1))):place l id s d=place m id s d:=by
 rw[aFg,aFg,bAz l m 0 h]
theorem aJ8(l:lUs)(id s d:Int):(place l id s d= -1/\(∀x∈l,iW id s d x=false)/\dH l id s d=0/\rG l id s d=l++[(id,s,d,1)])\/
  ∃(j:Nat) (x:den tUs),place l id s d=(j:Int)/\l[j]? =some x/\iW id s d x=true/\dH l id s d=x.2.2.2/\rG l id s d=l.set j (x.1,x.2.1,x.2.2.1,wr (x.2.2.2+1)):=by
 rcases aKt l id s d with ⟨h1,h2⟩ | ⟨j,x,h1,h2,h3⟩
 .refine .inl ⟨h1,h2,?_,?_⟩
  .unfold dH;rw[h1,zT (by decide)]
  .unfold rG;rw[h1,zT (by decide)]
 .refine .inr ⟨j,x,h1,h2,h3,?_,?_⟩
  .unfold dH;rw[h1,zS (by omega),cE0,h2];rfl
  .unfold rG;rw[h1,zS (by omega),cE0];simp only[h2]
theorem aPq{l:lUs}{j:Nat}{x:den tUs}(h:l[j]? =some x)(c:Int):(l.set j (x.1,x.2.1,x.2.2.1,c)).map (λx=>(x.1,x.2.1,x.2.2.1))=l.map (λx=>(x.1,x.2.1,x.2.2.1)):=by
 rw[List.map_set];apply List.ext_getElem?;intro i
 by_cases hij:j=i
 .subst hij;obtain⟨hlt,rfl⟩:=cEz.1 h;rw[cHo (by simpa using hlt),cGy,cEx hlt];rfl
 .rw[cH5 hij]
theorem aT7.more{g:den tSc}{now id s d:Int}(h:aT7 g now)(hu:dH g.2.2 id s d<oO g id s d now)(hb:oO g id s d now<=1000000):aT7 (g.1,g.2.1,rG g.2.2 id s d) now:=by
 have hr:∀i s d,oO (g.1,g.2.1,rG g.2.2 id s d) i s d now=oO g i s d now:=λ_ _ _=>rfl
 intro j x hx;have hx:(rG g.2.2 id s d)[j]? =some x:=hx;show place (rG g.2.2 id s d) x.1 x.2.1 x.2.2.1=(j:Int)/\(1:Int)<=x.2.2.2/\oO g x.1 x.2.1 x.2.2.1 now>=x.2.2.2;rcases aJ8 g.2.2 id s d with ⟨h1,h2,h3,h4⟩ | ⟨i,y,h1,h2,h3,h4,h5⟩
 .rw[h4]at hx ⊢;rw[aM1]
  by_cases hj:j<g.2.2.length
  .rw[List.getElem?_append_left hj]at hx;obtain⟨a,b,c⟩:=h j x hx;rw[a,zS (by omega)];exact⟨rfl,b,c⟩
  .rw[List.getElem?_append_right (by omega)]at hx;have hj0:j - g.2.2.length=0:=by
    cases hk:j - g.2.2.length with
    | zero=>rfl
    | succ k=>rw[hk]at hx;simp at hx
   rw[hj0]at hx;simp only[cH7,Option.some.injEq]at hx;subst hx;have hj':j=g.2.2.length:=by omega
   simp only;rw[h1,zT (by decide),hj'];refine⟨?_,cFx 1,?_⟩
   .unfold plc;rw[zT (show iW id s d (id,s,d,1)=true from aBd.2 ⟨rfl,rfl,rfl⟩)]
   .rw[h3]at hu;omega
 .rw[h5]at hx ⊢;rw[aK9 (aPq h2 _)]
  by_cases hij:i=j
  .subst hij;rw[cHo (cEz.1 h2).1]at hx;simp only[Option.some.injEq]at hx;subst hx;obtain⟨a,b,c⟩:=h i y h2;obtain⟨k1,k2,k3⟩:=aBd.1 h3;simp only;rw[k1,k2,k3]at a c ⊢;rw[h4]at hu;have hw:wr (y.2.2.2+1)=y.2.2.2+1:=wri (by omega) (by omega);rw[hw];exact⟨a,by omega,by omega⟩
  .rw[cH5 hij]at hx;exact h j x hx
def rr(id s d now:Int):lRs->Int
 | []=>0
 | x::l=>if x.1==id&&(atR x s d&&decide (now<=x.2.2.2.2)) then x.2.2.2.1 else rr id s d now l
theorem bG2(l:lRs)(id s d now:Int):aBg l id s d now=rr id s d now l:=by
 unfold aBg;have :∀(l:lRs) (k:Nat),(match bW (λ_ (x:den tRs)=>if x.1==id&&(atR x s d&&decide (now<=x.2.2.2.2)) then some x.2.2.2.1 else none) k l with
  | some r=>r
  | none=>0)=rr id s d now l:=by
  intro l
  induction l with
  | nil=>intro k;rfl
  | cons x l ih=>
   intro k;cases hp:(x.1==id&&(atR x s d&&decide (now<=x.2.2.2.2))) with
   | true=>simp only[bW,rr,hp,zV]
   | false=>simp only[bW,rr,hp];exact ih (k+1)
 exact this l 0
theorem bK8{id s d now:Int}:∀{l:lRs},(∀x∈l,(0:Int)<=x.2.2.2.1/\(20:Int)>=x.2.2.2.1)->0<=rr id s d now l/\rr id s d now l<=20
 | [],_=>by simp[rr]
 | x::l,h=>by
  have ih:=bK8 (id:=id) (s:=s) (d:=d) (now:=now) (l:=l) λy hy=>h y (cE7 _ hy)
  have hx:=h x (by simp);unfold rr;split<;>omega
theorem bG4{s d now:Int}:∀{l:lRs},rs s d now l=0\/ ∃x∈l,x.2.1=s/\x.2.2.1=d
 | []=> .inl rfl
 | x::l=>by
  by_cases ha:atR x s d=true
  .unfold atR at ha;simp only[cEw,beq_iff_eq]at ha;exact .inr ⟨x,by simp,ha⟩
  .rcases bG4 (s:=s) (d:=d) (now:=now) (l:=l) with h | ⟨y,hy,h⟩
   .left;unfold rs;rw[h];simp[ha]
   .exact .inr ⟨y,cE7 _ hy,h⟩
theorem rQ.rs_le{l:lRs}{cap now:Int}(h:rQ l cap now)(hc:0<=cap)(s d:Int):rs s d now l<=cap:=by
 rcases bG4 (s:=s) (d:=d) (now:=now) (l:=l) with h0 | ⟨x,hx,h1,h2⟩
 .omega
 .have :=h.rate x hx;rw[h1,h2]at this;exact this
theorem bD4{l:lRs}{cap now:Int}(h:rQ l cap now)(hc:1<=cap/\cap<=20)(s d:Int):free l cap s d now=cap - rs s d now l:=by
 have h1:=h.rs_le (by omega) s d;have h2:=aS5 (s:=s) (d:=d) (now:=now) (vN h.val);unfold free;rw[aOb (vN h.val) (by have :=h.len;omega),show wr (cap - rs s d now l)=cap - rs s d now l from wri (by omega) (by omega)];split<;>omega
structure OkS (g:den tSc) (now:Int):Prop where
 lo:(1:Int)<=g.1
 hi:(20:Int)>=g.1
 res:rQ g.2.1 g.1 now
 use:aT7 g now
theorem bV9{g:den tSc}{now:Int}:aE8 g now=true↔OkS g now:=by
 rw[bKq,bRs];exact⟨λ⟨a,b,c,d⟩=>⟨a,b,c,d⟩,λ⟨a,b,c,d⟩=>⟨a,b,c,d⟩⟩
theorem OkS.rate_le{g:den tSc}{now:Int}(h:OkS g now)(id s d:Int):0<=oO g id s d now/\oO g id s d now<=20:=by
 unfold oO;split
 .rw[bD4 h.res ⟨h.lo,h.hi⟩];have h1:=h.res.rs_le (by have :=h.lo;omega) s d;have h2:=aS5 (s:=s) (d:=d) (now:=now) (vN h.res.val);have :=h.hi;omega
 .rw[bG2];exact bK8 (vN h.res.val)
abbrev cDf(p:Int×Bool×lRs×lUs):den tSc:=(p.1,p.2.2.1,p.2.2.2)
theorem OkS.trans{g:den tSc}{now:Int}(h:OkS g now)(id s d:Int):OkS (cDf (gX g id s d now)) now:=by
 unfold gX;split
 .rename_i hu;exact⟨h.lo,h.hi,h.res,h.use.more hu (by have :=h.rate_le id s d;omega)⟩
 .split
  .rename_i hu;exact⟨h.lo,h.hi,h.res,h.use.more hu (by have :=h.rate_le 0 s d;omega)⟩
  .exact h
theorem bI1(g:den tSc)(id s d now:Int):(gX g id s d now).2.2.1=g.2.1/\(gX g id s d now).1=g.1/\(gX g id s d now).2.2.2.length<=g.2.2.length+1:=by
 unfold gX;split
 .exact⟨rfl,rfl,aIg ..⟩
 .split
  .exact⟨rfl,rfl,aIg ..⟩
  .exact⟨rfl,rfl,by simp⟩
theorem OkS.pw{g:den tSc}{now:Int}(h:OkS g now):g.2.2.Pairwise λx y=>iW x.1 x.2.1 x.2.2.1 y=false:=by
 rw[cG5];intro i j hi hj hij;cases hs:iW g.2.2[i].1 g.2.2[i].2.1 g.2.2[i].2.2.1 g.2.2[j] with
 | false=>rfl
 | true=>
  obtain⟨k1,k2,k3⟩:=aBd.1 hs;have a:=(h.use i _ (cEx hi)).1;have b:=(h.use j _ (cEx hj)).1;rw[k1,k2,k3,a]at b;omega
theorem bOo{l:lUs}{id s d:Int}(h:0<=dH l id s d/\dH l id s d<=1000000):dH (rG l id s d) id s d=dH l id s d+1:=by
 rcases aJ8 l id s d with ⟨h1,h2,h3,h4⟩ | ⟨j,y,h1,h2,h3,h4,h5⟩
 .rw[h3,h4];unfold dH;have e:place (l++[(id,s,d,1)]) id s d=(l.length:Int):=by
   rw[aM1,h1,zT (by decide)];unfold plc;rw[zT (show iW id s d (id,s,d,1)=true from aBd.2 ⟨rfl,rfl,rfl⟩)]
  rw[e,zS (by omega),cE0];simp
 .rw[h4]at h ⊢;rw[h5];unfold dH;rw[aK9 (aPq h2 _),h1,zS (by omega),cE0,cHo (cEz.1 h2).1];simp only[Option.map_some,cFy];exact wri (by omega) (by omega)
theorem bFh{l:lRs}{x:den tRs}{cap now:Int}(h:l.length<=1000000):∃b,zO l x cap now=some (b,admR l x cap now):=by
 have hf:(l.filter λy=> !kB x y).length<=1000000:=cEv (cHn ..) h;unfold zO admR pj5 zz4;rw[show ((x.1,x.2.1,x.2.2.1,x.2.2.2.1,x.2.2.2.2):den tRs)=x from rfl,bPa (by omega),aA,bRc,aA,bOj (by omega),aA];rw[aF (b:=40) (by decide) (by simp;omega),aF (b:=40) (by decide) (by omega)];cases c1:wE x
 .exact⟨false,by simp⟩
 .cases c2:decide (x.2.2.2.2<now)
  .cases c3:decide (wr (rate (l.filter λy=> !kB x y) x.2.1 x.2.2.1 now+x.2.2.2.1)>cap)
   .cases c4:decide (((l.filter λy=> !kB x y).length:Int)>=40)
    .exact⟨true,by simp only[cE2,zY,zZ,aA,cGn,cE1,zU]⟩
    .exact⟨false,by simp[aA]⟩
   .exact⟨false,by simp[aA]⟩
  .exact⟨false,by simp[aA]⟩
theorem aVp{code:List Int}(hl:code.length<=1048576){c:List Int}{p h:Int}(hc:Cur code (c,p,h)):∃a b d r u c' p' h',qY (c,p,h)=some (a,b,d,r,u,c',p',h')/\Cur code (c',p',h'):=by
 obtain⟨v1,c1,p1,h1,e1,_,k1⟩:=aL hl (n:=5) (by decide) (by decide) hc;obtain⟨v2,c2,p2,h2,e2,_,k2⟩:=aL hl (n:=4) (by decide) (by decide) k1;obtain⟨v3,c3,p3,h3,e3,_,k3⟩:=aL hl (n:=3) (by decide) (by decide) k2;obtain⟨v4,c4,p4,h4,e4,_,k4⟩:=aL hl (n:=4) (by decide) (by decide) k3;obtain⟨v5,c5,p5,h5,e5,_,k5⟩:=aL hl (n:=30) (by decide) (by decide) k4;refine⟨wr (1+v1),v2,wr (1+v3),wr (1+v4),wr (40+v5),c5,p5,h5,?_,k5⟩;unfold qY pj3;simp only[e1,e2,e3,e4,e5,aA]
theorem bQ1{v:Int}(h:v∈[(8:Int),8,4,12]):gD v=some (v,[],[]):=by
 unfold gD;rw[iY,aA];simp only[cEy,cFi,or_false]at h;rcases h with rfl | rfl | rfl | rfl<;>rfl
theorem bEr{v:Int}(h:v∈[(8:Int),8,4,12]):1<=v/\v<=20:=by
 simp only[cEy,cFi,or_false]at h;rcases h with rfl | rfl | rfl | rfl<;>decide
theorem bRl(cap now:Int):rQ [] cap now:=⟨by simp,λx hx=>(cFi hx).elim,λx hx=>(cFi hx).elim,cH1.nil⟩
def bKe(code:List Int)(o:Option (Int×lRs×lUs×List Int×q26)):Prop:= ∃cap l us c' p' h',o=some (cap,l,us,c',p',h')/\OkS (cap,l,us) 45/\us.length<=12/\Cur code (c',p',h')
theorem bQt{code:List Int}(hl:code.length<=1048576){c:List Int}{p h:Int}(hc:Cur code (c,p,h)):bKe code (yJ (c,p,h)):=by
 obtain⟨cap,c1,p1,h1,e1,hcap,k1⟩:=tC hl (l:=[(8:Int),8,4,12]) (by decide) (by decide) hc;obtain⟨v2,c2,p2,h2,e2,hv2,k2⟩:=aL hl (n:=6) (by decide) (by decide) k1;unfold yJ dd one pj3 pj4 pj5 pj6 zz4 zz5;simp only[e1,aA,bQ1 hcap,e2,aW,bN,bF,bE,bG];obtain⟨n2,rfl⟩:=cFo hv2.1;refine wW (G:=bKe code) (λ(n:Nat) (s:Int×Int×lRs×List Int×q26)=>s.1=(n:Int)/\n<=12/\s.2.1=cap/\rQ s.2.2.1 cap 45/\Cur code s.2.2.2) (λ(r:Int×lRs×List Int×q26)=>r.1=cap/\rQ r.2.1 cap 45/\Cur code r.2.2) ?_ n2 _ ⟨rfl,by omega,rfl,bRl ..,k2⟩ ?_
 .rintro n ⟨i,cap',l,c3,p3,h3⟩ ⟨i1,i2,i3,i4,i5⟩
  simp only at i1 i2 i3 i4 i5;subst i1 i3;cases n with
  | zero=>exact .inl ⟨_,rfl,rfl,i4,i5⟩
  | succ n=>
   right;obtain⟨a,b,d,r,u,c4,p4,h4,e4,k4⟩:=aVp hl i5;obtain⟨bb,ea⟩:=bFh (l:=l) (x:=(a,b,d,r,u)) (cap:=cap') (now:=45) (by have :=i4.len;omega);refine⟨n,((n:Int),cap',admR l (a,b,d,r,u) cap' 45,c4,p4,h4),by omega,?_,rfl,by omega,rfl,i4.admR _,k4⟩;simp only[zX (show ((n+1:Nat):Int)>0 by omega),zZ,e4,aA,ea];rw[show wr (((n+1:Nat):Int) - 1)=(n:Int) from by rw[show wr (((n+1:Nat):Int) - 1)=((n+1:Nat):Int) - 1 from wri (by omega) (by omega)];omega]
 .rintro⟨cap',l,c3,p3,h3⟩ ⟨i1,i2,i3⟩
  simp only at i1 i2 i3;subst i1;obtain⟨v5,c5,p5,h5,e5,hv5,k5⟩:=aL hl (n:=12) (by decide) (by decide) i3;simp only[e5,aA];obtain⟨n5,rfl⟩:=cFo hv5.1;refine wW (G:=bKe code) (λ(n:Nat) (s:Int×Int×lRs×lUs×List Int×q26)=>s.1=(n:Int)/\OkS (s.2.1,s.2.2.1,s.2.2.2.1) 45/\s.2.2.2.1.length+n<=12/\Cur code s.2.2.2.2) (λ(r:Int×lRs×lUs×List Int×q26)=>OkS (r.1,r.2.1,r.2.2.1) 45/\r.2.2.1.length<=12/\Cur code r.2.2.2) ?_ n5 _ ⟨rfl,⟨(bEr hcap).1,(bEr hcap).2,i2,λj x hj=>by simp at hj⟩,by simp;omega,k5⟩ ?_
  .rintro n ⟨i,cap',l,us,c6,p6,h6⟩ ⟨i1,i2,i3,i4⟩
   simp only at i1 i2 i3 i4;subst i1;cases n with
   | zero=>exact .inl ⟨_,rfl,i2,by simpa using i3,i4⟩
   | succ n=>
    right;obtain⟨v7,c7,p7,h7,e7,hv7,k7⟩:=aL hl (n:=5) (by decide) (by decide) i4;obtain⟨v8,c8,p8,h8,e8,hv8,k8⟩:=aL hl (n:=3) (by decide) (by decide) k7;obtain⟨v9,c9,p9,h9,e9,hv9,k9⟩:=aL hl (n:=2) (by decide) (by decide) k8;have et:=aUt (g:=(cap',l,us)) (id:=v7) (s:=v8) (d:=wr (1+v9)) (now:=45) (by have :=i2.res.len;simp only at this;show l.length<=_;omega) (by show us.length<=_;omega);have hk:=i2.trans v7 v8 (wr (1+v9));obtain⟨g1,g2,g3⟩:=bI1 (cap',l,us) v7 v8 (wr (1+v9)) 45;refine⟨n,((n:Int),(gX (cap',l,us) v7 v8 (wr (1+v9)) 45).1,(gX (cap',l,us) v7 v8 (wr (1+v9)) 45).2.2.1,(gX (cap',l,us) v7 v8 (wr (1+v9)) 45).2.2.2,c9,p9,h9),by omega,?_,rfl,hk,by simp only at g3 ⊢;omega,k9⟩;simp only[zX (show ((n+1:Nat):Int)>0 by omega),zZ,e7,e8,e9,aA,et];rw[show wr (((n+1:Nat):Int) - 1)=(n:Int) from by rw[show wr (((n+1:Nat):Int) - 1)=((n+1:Nat):Int) - 1 from wri (by omega) (by omega)];omega]
  .rintro⟨cap',l,us,c6,p6,h6⟩ ⟨i1,i2,i3⟩
   exact⟨_,_,_,_,_,_,rfl,i1,i2,i3⟩
theorem bSv{code:List Int}(hl:code.length<=1048576){c:List Int}{p h:Int}(hc:Cur code (c,p,h)):∃a b d r u c' p' h',aAl (c,p,h)=some (a,b,d,r,u,c',p',h')/\Cur code (c',p',h'):=by
 obtain⟨a,b,d,r,u,c1,p1,h1,e1,k1⟩:=aVp hl hc;obtain⟨v,c2,p2,h2,e2,_,k2⟩:=aL hl (n:=12) (by decide) (by decide) k1;unfold aAl pj3 pj8 zz4 zz5;simp only[e1,e2,aA];cases d0:(v==(0:Int)) with
 | true=>
  obtain⟨w,c3,p3,h3,e3,_,k3⟩:=tC hl (l:=[(0:Int),(100000:Int),(100001:Int)]) (by decide) (by decide) k2;exact⟨w,b,d,r,u,c3,p3,h3,by simp only[zZ,e3,aA],k3⟩
 | false=>
  cases d1:(v==(1:Int)) with
  | true=>
   obtain⟨w,c3,p3,h3,e3,_,k3⟩:=tC hl (l:=[(0:Int),(20:Int),(21:Int),(-1:Int)]) (by decide) (by decide) k2;exact⟨a,b,d,w,u,c3,p3,h3,by simp only[zZ,zY,e3,aA],k3⟩
  | false=>
   cases d2:(v==(2:Int)) with
   | true=>
    obtain⟨w,c3,p3,h3,e3,_,k3⟩:=tC hl (l:=[(0:Int),(7:Int)]) (by decide) (by decide) k2;exact⟨a,b,w,r,u,c3,p3,h3,by simp only[zZ,zY,e3,aA],k3⟩
   | false=>exact⟨a,b,d,r,u,c2,p2,h2,by simp only[zY,aA],k2⟩
theorem aHt{l:List Int}{n x:Int}(h:x∈tX l n):x=n\/x∈l:=by
 unfold tX at h;split at h
 .exact .inr h
 .simp only[cE4,cE3]at h;rcases h with (h | h) | h
  .exact .inr (cGj h)
  .exact .inl h
  .exact .inr (cGq h)
theorem bNm{r d:Int}{x:den tLk}{a:List Int}(h:d∈oW r x a):dJ x r d=true\/d∈a:=by
 unfold oW at h;unfold dJ;cases c1:x.1==r<;>cases c2:x.2.2.1==r<;>rw[c1,c2]at h<;>simp only[zZ,zY]at h
 .exact .inr h
 .rcases aHt h with e | h
  .left;simp[e]
  .exact .inr h
 .rcases aHt h with e | h
  .left;simp[e]
  .exact .inr h
 .rcases aHt h with e | h
  .left;simp[e]
  .rcases aHt h with e | h
   .left;simp[e]
   .exact .inr h
theorem bNz{t:den tTo}{r d:Int}(h:d∈gV t r):∃x∈t.2,dJ x r d=true:=by
 have :∀(l:lLk) (k:Nat) (a:List Int),d∈bQ (λ_ x a=>oW r x a) k l a->(∃x∈l,dJ x r d=true)\/d∈a:=by
  intro l
  induction l with
  | nil=>intro k a h;exact .inr h
  | cons x l ih=>
   intro k a h;rcases ih (k+1) (oW r x a) h with ⟨y,hy,e⟩ | h
   .exact .inl ⟨y,cE7 _ hy,e⟩
   .rcases bNm h with e | h
    .exact .inl ⟨x,by simp,e⟩
    .exact .inr h
 rcases this t.2 0 [] h with h | h
 .exact h
 .cases h
theorem aZ5{t:den tTo}{r d:Int}(h:∃x∈t.2,dJ x r d=true):∃(j:Nat) (x:den tLk),qK t r d=(j:Int)/\t.2[j]? =some x/\dJ x r d=true:=by
 rcases aE7 t r d with e | h
 .exfalso;have :∀(l:lLk) (k:Nat),(∃x∈l,dJ x r d=true)-> ∃i,bW (λk x=>if dJ x r d then some ((k:Nat):Int) else none) k l=some i/\0<=i:=by
   intro l
   induction l with
   | nil=>rintro k ⟨x,hx,_⟩;cases hx
   | cons y l ih=>
    rintro k ⟨x,hx,hxe⟩
    cases c:dJ y r d with
    | true=>exact⟨(k:Int),by simp[bW,c],by omega⟩
    | false=>
     rcases cEy.1 hx with rfl | hx
     .rw[c]at hxe;cases hxe
     .obtain⟨i,h1,h2⟩:=ih (k+1) ⟨x,hx,hxe⟩;exact⟨i,by simp only[bW,c];exact h1,h2⟩
  obtain⟨i,h1,h2⟩:=this t.2 0 h;unfold qK at e;rw[h1]at e;have e:i= -1:=e;omega
 .exact h
theorem bOd{t:den tTo}(hv:∀x∈t.2,aAd t x=true){r d:Int}(h:d∈gV t r):dF t (remote t r d).1=true:=by
 obtain⟨j,x,e,hx,he⟩:=aZ5 (bNz h);have hl:=hv x (cE9 hx);unfold remote;rw[e,zS (by omega),cE0,hx];unfold aAd at hl;simp only[cEw]at hl;unfold bI3;simp only[cFy];cases x.1==r&&x.2.1==d with
 | true=>exact hl.2.1
 | false=>exact hl.1
theorem bLi{t:den tTo}{r k:Int}(h:t.2.length<=1000000):∃l,jH t r k=some l/\l.length<=2 * t.2.length/\ ∀d∈l,d∈gV t r:=by
 have hd:=aFf t r;unfold jH ixb pj2;rw[show ((t.1,t.2):den tTo)=t from rfl,aOp (t:=t) (by omega),aA];refine jP (G:=λo=> ∃l,o=some l/\l.length<=2 * t.2.length/\ ∀d∈l,d∈gV t r) (gV t r).length (λs:Int×List Int=>s.1) (λi s=>s.2.length<=i/\ ∀d∈s.2,d∈gV t r) (λl:List Int=>l.length<=2 * t.2.length/\ ∀d∈l,d∈gV t r) ?_ ?_ 0 ((0:Int),[]) (by omega) rfl ⟨by simp,λd hd=>(cFi hd).elim⟩ (λl hl=>⟨l,rfl,hl⟩)
 .rintro i ⟨_,l⟩ hi rfl ⟨h1,h2⟩
  right;simp only at h1 h2;simp only[zX (show (i:Int)<((gV t r).length:Int) by omega),zX (show (0:Int)<=(i:Int) by omega),zZ,cE0,cEx hi,aA,aT8 (t:=t) (show t.2.length<=68719476736 by omega),eZ (show i<=1000000000 by omega)];rw[aF (b:=8) (n:=l.length) (m:=1) (by decide) (by omega),zZ];cases aCa t r (gV t r)[i]==k with
  | true=>exact⟨_,rfl,rfl,by simp;omega,λd hd=>by
    rcases cE4.1 hd with hd | hd
    .exact h2 d hd
    .rw[cE3.1 hd];exact cGh hi⟩
  | false=>exact⟨_,rfl,rfl,by show l.length<=i+1;omega,h2⟩
 .rintro⟨_,l⟩ rfl ⟨h1,h2⟩
  exact⟨l,by simp only[zW (cF5 _),zY],by simp only at h1;omega,h2⟩
theorem aNn(l:List Int)(n:Int):n∈tX l n:=by
 unfold tX;split
 .next h=>exact cE9 h
 .simp
theorem aHn{l:List Int}{n x:Int}(h:x∈l):x∈tX l n:=by
 unfold tX;split
 .exact h
 .rw[<- cGd (sR l n) l]at h;simp only[cE4,cE3]at h ⊢;rcases h with h | h
  .exact .inl (.inl h)
  .exact .inr h
theorem bRp{l:List Int}{n:Int}(h:n∉l):(tX l n).length=l.length+1:=by
 unfold tX;rw[zS (λe=>h (cE9 e))];have :=aUb l n;simp;omega
theorem bL2{r d:Int}{x:den tLk}{a:List Int}(h:d∈a):d∈oW r x a:=by
 unfold oW;cases x.2.2.1==r<;>cases x.1==r<;>simp only[zZ,zY]
 .exact h
 .exact aHn h
 .exact aHn h
 .exact aHn (aHn h)
theorem bNy{r d:Int}{x:den tLk}{a:List Int}(h:dJ x r d=true):d∈oW r x a:=by
 unfold dJ at h;unfold oW;simp only[cGm,cEw]at h;rcases h with ⟨h1,h2⟩ | ⟨h1,h2⟩
 .rw[h1,eq_of_beq h2];cases x.2.2.1==r<;>simp only[zZ,zY]
  .exact aNn _ _
  .exact aHn (aNn _ _)
 .rw[h1,eq_of_beq h2];cases x.1==r<;>simp only[zZ,zY]<;>exact aNn _ _
theorem aJ2(as:lAS)(ls:lLk)(r:Int):gV (as,ls) r=ls.foldl (λa x=>oW r x a) []:=uV (λa x=>oW r x a) ls 0 []
theorem bOt{as:lAS}{ls:lLk}{r d:Int}{x:den tLk}(hx:x∈ls)(h:dJ x r d=true):d∈gV (as,ls) r:=by
 rw[aJ2];have keep:∀(l:lLk) (a:List Int),d∈a->d∈l.foldl (λa x=>oW r x a) a:=by
  intro l
  induction l with
  | nil=>exact λa h=>h
  | cons y l ih=>exact λa h=>ih _ (bL2 h)
 have :∀(l:lLk) (a:List Int),x∈l->d∈l.foldl (λa x=>oW r x a) a:=by
  intro l
  induction l with
  | nil=>exact λa h=>(cFi h).elim
  | cons y l ih=>
   intro a hm;rcases cEy.1 hm with rfl | hm
   .exact keep l _ (bNy h)
   .exact ih _ hm
 exact this ls [] hx
structure sC (ls:lLk):Prop where
 num:∀r d:Int,d∈gV ([],ls) r->1<=d/\d<=((gV ([],ls) r).length:Int)
 pw:ls.Pairwise λy x=>dJ y x.1 x.2.1=false/\dJ y x.2.2.1 x.2.2.2.1=false
theorem bG8:sC []:=⟨λr d h=>(cFi h).elim,cH1.nil⟩
theorem sC.no{ls:lLk}(h:sC ls){y:den tLk}(hy:y∈ls)(r:Int):dJ y r (((gV ([],ls) r).length:Int)+1)=false:=by
 cases e:dJ y r (((gV ([],ls) r).length:Int)+1) with
 | false=>rfl
 | true=>have :=(h.num r _ (bOt hy e)).2;omega
theorem sC.grow{L:List Int}(h:∀d∈L,(1:Int)<=d/\d<=(L.length:Int)):∀d∈tX L ((L.length:Int)+1),(1:Int)<=d/\d<=((tX L ((L.length:Int)+1)).length:Int):=by
 have hn:((L.length:Int)+1)∉L:=λe=>by have :=(h _ e).2;omega
 rw[bRp hn];intro d hd;rcases aHt hd with rfl | hd
 .omega
 .have :=h d hd;omega
theorem sC.snoc{ls:lLk}(h:sC ls){a b:Int}(hab:a≠b)(k:Int):sC (ls++[(a,((gV ([],ls) a).length:Int)+1,b,((gV ([],ls) b).length:Int)+1,k)]):=by
 constructor
 .intro r;rw[aJ2,List.foldl_append,<- aJ2];show ∀d,d∈oW r _ _->_/\_<=((oW r _ _).length:Int)
  unfold oW
  by_cases ha:a=r
  .subst ha;have hb:(b==a)=false:=by simp;exact λe=>hab e.symm
   simp only[hb,beq_self_eq_true,zZ,zY];exact sC.grow (h.num a)
  .have ha':(a==r)=false:=by simpa using ha
   by_cases hb:b=r
   .subst hb;simp only[ha',beq_self_eq_true,zZ,zY];exact sC.grow (h.num b)
   .have hb':(b==r)=false:=by simpa using hb
    simp only[ha',hb',zY];exact h.num r
 .rw[List.pairwise_append];refine⟨h.pw,List.pairwise_singleton _ _,λy hy x hx=> ?_⟩;rw[cE3.1 hx];exact⟨h.no hy a,h.no hy b⟩
theorem aIa{t:den tTo}{a b k:Int}(h:t.2.length<=1000000)(hab:a≠b)(hf:sC t.2):∃ls,vW t a b k=some (t.1,ls)/\ls.length<=t.2.length+1/\sC ls:=by
 have la:=aFf t a;have lb:=aFf t b;unfold vW pj2;rw[show ((t.1,t.2):den tTo)=t from rfl,aOp (t:=t) (by omega),aOp (t:=t) (by omega),aA,aA,aF (b:=40) (n:=t.2.length) (m:=1) (by decide) (by omega)];have w1:wr (((gV t a).length:Int)+1)=((gV t a).length:Int)+1:=bJ (by omega) (by omega);have w2:wr (((gV t b).length:Int)+1)=((gV t b).length:Int)+1:=bJ (by omega) (by omega);cases decide (wr (((gV t a).length:Int)+1)<=6) with
 | false=>exact⟨t.2,rfl,by omega,hf⟩
 | true=>
  cases decide (wr (((gV t b).length:Int)+1)<=6) with
  | false=>exact⟨t.2,rfl,by omega,hf⟩
  | true=>
   refine⟨t.2++[(a,wr (((gV t a).length:Int)+1),b,wr (((gV t b).length:Int)+1),k)],rfl,by simp,?_⟩;rw[w1,w2];exact hf.snoc hab k
def AsI(as:lAS):Prop:= ∀(j:Nat) (x:den tAS),as[j]? =some x->((0:Int)<=x.1/\(1:Int)>=x.1)/\ ∃v:Int,0<=v/\v<1000000/\1+8 * v+(j:Int)=x.2.2
theorem bW1:AsI []:=λj x h=>by simp at h
theorem AsI.snoc{as:lAS}(h:AsI as){d v:Int}{b:Bool}(hd:0<=d/\1>=d)(hv:0<=v/\v<1000000):AsI (as++[(d,b,1+8 * v+(as.length:Int))]):=by
 intro j x hx;rw[List.getElem?_append]at hx;split at hx
 .exact h j x hx
 .next hj=>
  have hj0:j - as.length=0:=by
   have :=(cEz.1 hx).1;simp at this;omega
  rw[hj0]at hx;simp only[cH7,Option.some.injEq]at hx;subst hx;exact⟨hd,v,hv.1,hv.2,by show 1+8 * v+(j:Int)=1+8 * v+(as.length:Int);omega⟩
theorem AsI.set{as:lAS}(h:AsI as){i q:Nat}(hi:i<as.length)(hq:q<as.length):AsI (as.set i (as[q].1,as[i].2.1,as[i].2.2)):=by
 intro j x hx;rw[cG3]at hx;split at hx
 .next e=>
  subst e;simp only[hi,zV,Option.some.injEq]at hx;subst hx;exact⟨(h q as[q] (cEx hq)).1,(h i as[i] (cEx hi)).2⟩
 .exact h j x hx
theorem bFv{α:Type}(p:Nat->α->Bool){l:List α}(h:∀(j:Nat) (x:α),l[j]? =some x->p j x=true):(l.zipIdx 0).all (λz=>p z.2 z.1)=true:=by
 rw[cFn]
 rintro⟨x,j⟩ hm
 exact h j x (by simpa using List.mem_zipIdx_iff_getElem?.1 hm)
theorem aN3{α:Type}{l:List α}{j:Nat}{y:α}(h:y∈l.take j):∃i,i<j/\l[i]? =some y:=by
 obtain⟨i,hi⟩:=cIm.1 h;rw[cGc]at hi;split at hi
 .next c=>exact⟨i,c,hi⟩
 .cases hi
theorem bXi{as:lAS}{ls:lLk}(h1:1<=as.length)(h8:as.length<=8)(ha:AsI as)(hv:∀x∈ls,aAd (as,ls) x=true)(hp:ls.Pairwise λy x=>dJ y x.1 x.2.1=false/\dJ y x.2.2.1 x.2.2.2.1=false):aCq (as,ls)=true:=by
 unfold aCq;rw[cEw,cEw];refine⟨?_,?_,?_⟩
 .simp only[inR,cEw,zR];omega
 .refine bFv (asP (as,ls)) (l:=as) λj x hx=> ?_
  obtain⟨⟨a0,a1⟩,v,v0,v1,v2⟩:=ha j x hx;have hj:j<as.length:=(cEz.1 hx).1;have v2:1+8 * v+(j:Int)=x.2.2:=v2;unfold asP;simp only[cEw,inR,zR];refine⟨⟨a0,show (2:Int)>=x.1 by omega⟩,⟨show (1:Int)<=x.2.2 by omega,show (2147483646:Int)>=x.2.2 by omega⟩,cFn.2 λy hy=> ?_⟩;obtain⟨i,hi,hy⟩:=aN3 hy;obtain⟨_,w,w0,w1,w2⟩:=ha i y hy;have w2:1+8 * w+(i:Int)=y.2.2:=w2;have :x.2.2≠y.2.2:=λe=>by
   have e:1+8 * v+(j:Int)=1+8 * w+(i:Int):=v2.trans (e.trans w2.symm);omega
  simpa using this
 .refine bFv (lkP (as,ls)) (l:=ls) λj x hx=> ?_
  unfold lkP;rw[cEw];refine⟨hv x (cE9 hx),cFn.2 λy hy=> ?_⟩;obtain⟨i,hi,hy⟩:=aN3 hy;obtain⟨hi',ei⟩:=cEz.1 hy;obtain⟨hj',ej⟩:=cEz.1 hx;have :=(cG5.1 hp) i j hi' hj' hi;rw[ei,ej]at this;simp[this.1,this.2]
structure aDz (as:lAS) (ls:lLk):Prop where
 pos:1<=as.length
 len:as.length<=8
 links:ls.length<=100
 val:∀x∈ls,aAd (as,ls) x=true
 top:aCq (as,ls)=true
def aZp(code:List Int)(o:Option (lAS×lLk×List Int×q26)):Prop:= ∃as ls c' p' h',o=some (as,ls,c',p',h')/\aDz as ls/\Cur code (c',p',h')
def T3I(code:List Int)(n:Nat)(i:Nat)(s:Int×lAS×lLk×List Int×q26):Prop:=(s.2.1.length=n/\AsI s.2.1/\sC s.2.2.1)/\s.2.2.1.length<=10 * i/\Cur code s.2.2.2
theorem aVa{code:List Int}(hl:code.length<=1048576){c:List Int}{p h:Int}(hc:Cur code (c,p,h)):aZp code (tI (c,p,h)):=by
 obtain⟨v1,c1,p1,h1,e1,r1,k1⟩:=aL hl (n:=3) (by decide) (by decide) hc;obtain⟨v2,c2,p2,h2,e2,r2,k2⟩:=aL hl (n:=6) (by decide) (by decide) k1;obtain⟨m1,rfl⟩:=cFo r1.1;obtain⟨m2,rfl⟩:=cFo r2.1;have w1:wr ((1:Int)+(m1:Int))=((m1+1:Nat):Int):=by rw[bJ (by omega) (by omega)];omega
 have w2:wr (((m1+1:Nat):Int)+(m2:Int))=((m1+1+m2:Nat):Int):=by rw[bJ (by omega) (by omega)];omega
 unfold tI ixb pj2 pj3 pj4 pj5;simp only[e1,e2,aA,aW,bN,bF,bE,bG,w1,w2];generalize hco:m1+1=co at *;generalize hn:co+m2=n at *;have hco1:1<=co:=by omega
 have hcn:co<=n:=by omega
 have hn8:n<=8:=by omega
 refine jP (G:=aZp code) n (λs:Int×lAS×List Int×Int×Int=>s.1) (λi s=>(s.2.1.length=i/\AsI s.2.1)/\Cur code s.2.2) (λr:lAS×List Int×Int×Int=>(r.1.length=n/\AsI r.1)/\Cur code r.2) ?_ ?_ 0 ((0:Int),[],c2,p2,h2) (by omega) rfl ⟨⟨rfl,bW1⟩,k2⟩ ?_
 .rintro i ⟨_,as,c3,p3,h3⟩ hi rfl ⟨⟨a1,a3⟩,a2⟩
  simp only at a1 a2 a3;right;obtain⟨v4,c4,p4,h4,e4,r4,k4⟩:=aL hl (n:=2) (by decide) (by decide) a2;obtain⟨v5,c5,p5,h5,e5,r5,k5⟩:=aIm hl (n:=1000000) (by decide) k4;refine⟨(((i+1:Nat):Int),as++[(v4,decide ((i:Int)<((co:Nat):Int)),wr ((wr ((1:Int)+(wr (v5 * (8:Int)))))+(i:Int)))],c5,p5,h5),?_,rfl,⟨by simp[a1],?_⟩,k5⟩;simp only[zX (show (i:Int)<(n:Int) by omega),zZ,e4,e5,aA,aF (b:=24) (n:=as.length) (m:=1) (by decide) (by omega),eZ (show i<=1000000000 by omega)];have e:wr ((wr ((1:Int)+(wr (v5 * (8:Int)))))+(i:Int))=1+8 * v5+(as.length:Int):=by
   rw[bJ (n:=v5 * 8) (by omega) (by omega),bJ (n:=1+v5 * 8) (by omega) (by omega),bJ (by omega) (by omega)];omega
  show AsI (as++[_]);rw[e];exact a3.snoc ⟨by omega,by omega⟩ ⟨by omega,by omega⟩
 .rintro⟨_,as,c3,p3,h3⟩ rfl ⟨a1,a2⟩
  exact⟨(as,c3,p3,h3),by simp only[zW (cF5 _),zY],a1,a2⟩
 rintro⟨as,c3,p3,h3⟩ ⟨⟨a1,a3⟩,a2⟩
 simp only at a1 a2 a3;refine jP (G:=aZp code) co (λs:Int×lAS×lLk×List Int×Int×Int=>s.1) (λi s=>1<=i/\T3I code n i s) (λr:lAS×lLk×List Int×Int×Int=>(r.1.length=n/\AsI r.1/\sC r.2.1)/\r.2.1.length<=10 * co/\Cur code r.2.2) ?_ ?_ 1 ((1:Int),as,[],c3,p3,h3) hco1 rfl ⟨cE8 1,⟨a1,a3,bG8⟩,by simp,a2⟩ ?_
 .rintro i ⟨_,as,ls,c4,p4,h4⟩ hi rfl ⟨b0,b1,b2,b3⟩
  simp only at b1 b2 b3;right;obtain⟨v5,c5,p5,h5,e5,r5,k5⟩:=aL hl (n:=(i:Int)) (by omega) (by omega) b3;obtain⟨l6,e6,r6,f6⟩:=aIa (t:=(as,ls)) (a:=v5) (b:=(i:Int)) (k:=1) (by show ls.length<=_;omega) (by omega) b1.2.2;obtain⟨v7,c7,p7,h7,e7,k7⟩:=tJ hl (n:=2) (by decide) (by decide) k5;simp only at e6 r6;cases v7 with
  | false=>
   refine⟨(((i+1:Nat):Int),as,l6,c7,p7,h7),?_,rfl,by omega,⟨b1.1,b1.2.1,f6⟩,by simp only;omega,k7⟩;simp only[zX (show (i:Int)<(co:Int) by omega),zZ,zY,e5,e6,e7,aA,eZ (show i<=1000000000 by omega)]
  | true=>
   obtain⟨v8,c8,p8,h8,e8,r8,k8⟩:=aL hl (n:=(i:Int)) (by omega) (by omega) k7;obtain⟨l9,e9,r9,f9⟩:=aIa (t:=(as,l6)) (a:=v8) (b:=(i:Int)) (k:=1) (by show l6.length<=_;omega) (by omega) f6;simp only at e9 r9;refine⟨(((i+1:Nat):Int),as,l9,c8,p8,h8),?_,rfl,by omega,⟨b1.1,b1.2.1,f9⟩,by simp only;omega,k8⟩;simp only[zX (show (i:Int)<(co:Int) by omega),zZ,e5,e6,e7,e8,e9,aA,eZ (show i<=1000000000 by omega)]
 .rintro⟨_,as,ls,c4,p4,h4⟩ rfl ⟨b0,b1,b2,b3⟩
  exact⟨(as,ls,c4,p4,h4),by simp only[zW (cF5 _),zY],b1,b2,b3⟩
 rintro⟨as,ls,c4,p4,h4⟩ ⟨b1,b2,b3⟩
 simp only at b1 b2 b3;refine jP (G:=aZp code) n (λs:Int×lAS×lLk×List Int×Int×Int=>s.1) (λi s=>1<=i/\co<=i/\T3I code n i s) (λr:lAS×lLk×List Int×Int×Int=>(r.1.length=n/\AsI r.1/\sC r.2.1)/\r.2.1.length<=10 * n/\Cur code r.2.2) ?_ ?_ co (((co:Nat):Int),as,ls,c4,p4,h4) hcn rfl ⟨hco1,cE8 co,b1,b2,b3⟩ ?_
 .rintro i ⟨_,as,ls,c5,p5,h5⟩ hi rfl ⟨d0,d1,⟨d2,d5,d6⟩,d3,d4⟩
  simp only at d2 d3 d4 d5 d6;right;have hlen:(as.length:Int)=(n:Int):=by omega
  obtain⟨v6,c6,p6,h6,e6,r6,k6⟩:=aL hl (n:=2) (by decide) (by decide) d4;obtain⟨m6,rfl⟩:=cFo r6.1;have w6:wr ((1:Int)+(m6:Int))=((m6+1:Nat):Int):=by rw[bJ (by omega) (by omega)];omega
  simp only[hlen,zX (show (i:Int)<(n:Int) by omega),zZ,e6,w6,aA,Option.bind_assoc];refine wW (G:=λo=> ∃s',o=some (cEu s')/\s'.1=((i+1:Nat):Int)/\1<=i+1/\co<=i+1/\T3I code n (i+1) s') (λ(m:Nat) (s:Int×lAS×lLk×List Int×q26)=>s.1=(m:Int)/\m<=2/\(s.2.1.length=n/\AsI s.2.1/\sC s.2.2.1)/\s.2.2.1.length+m<=10 * i+2/\Cur code s.2.2.2) (λr:lAS×lLk×List Int×Int×Int=>(r.1.length=n/\AsI r.1/\sC r.2.1)/\r.2.1.length<=10 * i+2/\Cur code r.2.2) ?_ (m6+1) (((m6+1:Nat):Int),as,ls,c6,p6,h6) ⟨rfl,by omega,⟨d2,d5,d6⟩,by simp only;omega,k6⟩ ?_
  .rintro m ⟨_,as,ls,c7,p7,h7⟩ ⟨rfl,f1,⟨f2,f5,f6⟩,f3,f4⟩
   simp only at f2 f3 f4 f5 f6;cases m with
   | zero=>exact .inl ⟨(as,ls,c7,p7,h7),rfl,⟨f2,f5,f6⟩,by simpa using f3,f4⟩
   | succ m=>
    right;obtain⟨v8,c8,p8,h8,e8,r8,k8⟩:=aL hl (n:=(i:Int)) (by omega) (by omega) f4;obtain⟨q8,rfl⟩:=cFo r8.1;obtain⟨v9,c9,p9,h9,e9,k9⟩:=tJ hl (n:=5) (by decide) (by decide) k8;have hq:q8<n:=by omega
    have hlen:(as.length:Int)=(n:Int):=by omega
    have hq1:as[q8]? =some (as[q8]'(by omega)):=cEx (by omega);have hi1:as[i]? =some (as[i]'(by omega)):=cEx (by omega);have wm:wr (((m+1:Nat):Int) - 1)=(m:Int):=by rw[bJ (by omega) (by omega)];omega
    have fin:∀(as':lAS) (c p h:_),as'.length=n->AsI as'->Cur code (c,p,h)-> ∃s',(Option.bind (cond (decide ((0:Int)<=(q8:Int))) (cond (decide ((q8:Int)<(as'.length:Int))) (Option.bind as'[((q8:Nat):Int).toNat]? λx79=>cond (decide ((0:Int)<=(i:Int))) (cond (decide ((i:Int)<(as'.length:Int))) (Option.bind as'[((i:Nat):Int).toNat]? λx80=>cond (x79.1==x80.1) (Option.bind (vW (as',ls) (q8:Int) (i:Int) (2:Int)) λy81=>some (y81.1,y81.2,c,p,h)) (some (as',ls,c,p,h))) none) none) none) none) λ(s82:lAS×lLk×List Int×q26)=>some (cEu (wr (((m+1:Nat):Int) - (1:Int)),s82.1,s82.2.1,s82.2.2.1,s82.2.2.2.1,s82.2.2.2.2)):Option ((Int×lAS×lLk×List Int×q26)⊕(lAS×lLk×List Int×q26)))=some (cEu s')/\s'.1=(m:Int)/\m<=2/\(s'.2.1.length=n/\AsI s'.2.1/\sC s'.2.2.1)/\s'.2.2.1.length+m<=10 * i+2/\Cur code s'.2.2.2:=by
     intro as' c p h g1 g3 g2;have hl':(as'.length:Int)=(n:Int):=by omega
     have hq1:as'[q8]? =some (as'[q8]'(by omega)):=cEx (by omega);have hi1:as'[i]? =some (as'[i]'(by omega)):=cEx (by omega);simp only[hl',zX (show (0:Int)<=(q8:Int) by omega),zX (show (q8:Int)<(n:Int) by omega),zX (show (0:Int)<=(i:Int) by omega),zX (show (i:Int)<(n:Int) by omega),zZ,cE0,hq1,hi1,aA,wm];obtain⟨l6,e6,r6,z6⟩:=aIa (t:=(as',ls)) (a:=(q8:Int)) (b:=(i:Int)) (k:=2) (by show ls.length<=_;omega) (by omega) f6;simp only at e6 r6;cases (as'[q8]'(by omega)).1==(as'[i]'(by omega)).1 with
     | true=>exact⟨_,by simp only[zZ,e6,aA];rfl,rfl,by omega,⟨g1,g3,z6⟩,by simp only;omega,g2⟩
     | false=>exact⟨_,by simp only[zY,aA];rfl,rfl,by omega,⟨g1,g3,f6⟩,by simp only;omega,g2⟩
    cases v9 with
    | true=>
     obtain⟨s',g1,g2⟩:=fin as c9 p9 h9 f2 f5 k9;refine⟨m,s',by omega,?_,g2⟩;rw[<- g1];simp only[zX (show ((m+1:Nat):Int)>0 by omega),zZ,zY,e8,e9,aA,cE2]
    | false=>
     obtain⟨s',g1,g2⟩:=fin (as.set i ((as[q8]'(by omega)).1,(as[i]'(by omega)).2.1,(as[i]'(by omega)).2.2)) c9 p9 h9 (by simp[f2]) (f5.set (by omega) (by omega)) k9;refine⟨m,s',by omega,?_,g2⟩;rw[<- g1];simp only[zX (show ((m+1:Nat):Int)>0 by omega),zZ,e8,e9,aA,cFa,hlen,zX (show (0:Int)<=(q8:Int) by omega),zX (show (q8:Int)<(n:Int) by omega),zX (show (0:Int)<=(i:Int) by omega),zX (show (i:Int)<(n:Int) by omega),cE0,hq1,hi1]
  .rintro⟨as,ls,c7,p7,h7⟩ ⟨⟨f1,f5,f6⟩,f2,f3⟩
   simp only at f1 f2 f3 f5 f6;have w7:wr (wr ((i:Int) - (co:Int))+1)=((i - co+1:Nat):Int):=by rw[bJ (n:=(i:Int) - (co:Int)) (by omega) (by omega),bJ (by omega) (by omega)];omega
   obtain⟨v8,c8,p8,h8,e8,r8,k8⟩:=aL hl (n:=((i - co+1:Nat):Int)) (by omega) (by omega) f3;obtain⟨v9,c9,p9,h9,e9,k9⟩:=tJ hl (n:=3) (by decide) (by decide) k8;simp only[w7,e8,aA,eZ (show i<=1000000000 by omega)];cases hlt:decide (wr ((co:Int)+v8)<(i:Int)) with
   | false=>exact⟨_,by simp only[zY,aA];rfl,rfl,by omega,by omega,⟨f1,f5,f6⟩,by simp only;omega,k8⟩
   | true=>
    have hlt':=of_decide_eq_true hlt;obtain⟨l6,e6,r6,z6⟩:=aIa (t:=(as,ls)) (a:=wr ((co:Int)+v8)) (b:=(i:Int)) (k:=3) (by show ls.length<=_;omega) (by omega) f6;simp only at e6 r6;cases v9 with
    | false=>exact⟨_,by simp only[zZ,zY,e9,aA];rfl,rfl,by omega,by omega,⟨f1,f5,f6⟩,by simp only;omega,k9⟩
    | true=>exact⟨_,by simp only[zZ,e9,e6,aA];rfl,rfl,by omega,by omega,⟨f1,f5,z6⟩,by simp only;omega,k9⟩
 .rintro⟨_,as,ls,c5,p5,h5⟩ rfl ⟨d0,d1,⟨d2,d5⟩,d3,d4⟩
  simp only at d2 d3 d4 d5;exact⟨(as,ls,c5,p5,h5),by simp only[d2,zW (cF5 _),zY],⟨d2,d5⟩,d3,d4⟩
 rintro⟨as,ls,c5,p5,h5⟩ ⟨⟨d2,d5,d6⟩,d3,d4⟩
 simp only at d2 d3 d4 d5 d6;refine jP (G:=aZp code) ls.length (λs:Int×lLk=>s.1) (λi s=>(s.2.length<=i/\cHp s.2 (ls.take i))/\ ∀x∈s.2,aAd (as,ls) x=true) (λr:lLk=>(r.length<=ls.length/\cHp r ls)/\ ∀x∈r,aAd (as,ls) x=true) ?_ ?_ 0 ((0:Int),[]) (by omega) rfl ⟨⟨by simp,List.nil_sublist _⟩,λd hd=>(cFi hd).elim⟩ ?_
 .rintro i ⟨_,l⟩ hi rfl ⟨⟨g1,g3⟩,g2⟩
  simp only at g1 g2 g3;right;have htk:ls.take (i+1)=ls.take i++[ls[i]]:=(List.take_append_getElem hi).symm;simp only[zX (show (i:Int)<(ls.length:Int) by omega),zX (show (0:Int)<=(i:Int) by omega),zZ,cE0,cEx hi,aA,bDz (t:=(as,ls)) (show as.length<=68719476736 by omega),eZ (show i<=1000000000 by omega)];rw[aF (b:=40) (n:=l.length) (m:=1) (by decide) (by omega),zZ];cases hv:aAd (as,ls) ls[i] with
  | true=>exact⟨_,rfl,rfl,⟨by simp;omega,by rw[htk];exact g3.append (cHp.refl _)⟩,λx hx=>by
    rcases cE4.1 hx with hx | hx
    .exact g2 x hx
    .rw[cE3.1 hx];exact hv⟩
  | false=>exact⟨_,rfl,rfl,⟨by show l.length<=i+1;omega,by rw[htk];exact g3.trans (List.sublist_append_left _ _)⟩,g2⟩
 .rintro⟨_,l⟩ rfl ⟨⟨g1,g3⟩,g2⟩
  exact⟨l,by simp only[zW (cF5 _),zY],⟨g1,g3.trans (List.take_sublist _ _)⟩,g2⟩
 rintro l ⟨⟨g1,g3⟩,g2⟩
 exact⟨as,l,c5,p5,h5,rfl,⟨by omega,by omega,by omega,g2,bXi (by omega) (by omega) d5 g2 (d6.pw.sublist g3)⟩,d4⟩
theorem bA2{s:den tSg}(h:s.2.2.length<=1000000):∃l,eE s=some l/\l.length=s.2.2.length:=by
 unfold eE;refine jP (G:=λo=> ∃l,o=some l/\l.length=s.2.2.length) s.2.2.length (λs:Int×List Int=>s.1) (λi t=>t.2.length=i) (λl:List Int=>l.length=s.2.2.length) ?_ ?_ 0 ((0:Int),[]) (by omega) rfl rfl (λl hl=>⟨l,rfl,hl⟩)
 .rintro i ⟨_,l⟩ hi rfl h1
  simp only at h1;right;refine⟨(((i+1:Nat):Int),l++[s.2.2[i].1]),?_,rfl,by simp[h1]⟩;simp only[zX (show (i:Int)<(s.2.2.length:Int) by omega),zZ,aR,cEx hi,aA,aF (b:=8) (n:=l.length) (m:=1) (by decide) (by omega),eZ (show i<=1000000000 by omega)]
 .rintro⟨_,l⟩ rfl h1
  exact⟨l,by simp only[zW (cF5 _),zY],h1⟩
theorem bLp{s:den tSg}{n:Nat}(hn:n<=s.2.2.length)(h:s.2.2.length<=1000000):∃l,pY s (n:Int)=some l/\l.length=n:=by
 unfold pY zz4;refine jP (G:=λo=> ∃l,o=some l/\l.length=n) n (λs:Int×List Int=>s.1) (λi t=>t.2.length=i) (λl:List Int=>l.length=n) ?_ ?_ 0 ((0:Int),[]) (by omega) rfl rfl (λl hl=>⟨l,rfl,hl⟩)
 .rintro i ⟨_,l⟩ hi rfl h1
  simp only at h1;right;have hi':i<s.2.2.length:=by omega
  refine⟨(((i+1:Nat):Int),l++[s.2.2[i].2.2.2.2]),?_,rfl,by simp[h1]⟩;simp only[zX (show (i:Int)<(n:Int) by omega),zZ,aR,cEx hi',aA,aF (b:=8) (n:=l.length) (m:=1) (by decide) (by omega),eZ (show i<=1000000000 by omega)]
 .rintro⟨_,l⟩ rfl h1
  exact⟨l,by simp only[zW (cF5 _),zY],h1⟩
theorem bOv{b:Int}{l:List Int}(h:l.length<=1000000):∃v,qZ b l=some v:=by
 unfold qZ;refine jP (G:=λo=> ∃v,o=some v) l.length (λs:Int×Int=>s.2) (λi t=>True) (λv:Int=>True) ?_ ?_ 0 (b,(0:Int)) (by omega) rfl trivial (λv hv=>⟨v,rfl⟩)
 .rintro i ⟨v,_⟩ hi rfl _
  right;refine⟨(aK6 v l[i],((i+1:Nat):Int)),?_,rfl,trivial⟩;simp only[zX (show (i:Int)<(l.length:Int) by omega),zZ,aR,cEx hi,aA,aRp,eZ (show i<=1000000000 by omega)]
 .rintro⟨v,_⟩ rfl _
  exact⟨v,by simp only[zW (cF5 _),zY],trivial⟩
theorem aPp{s:den tSg}(i:Int)(h:s.2.2.length<=1000000):∃v,iM s i=some v:=by
 unfold iM pj3;rw[iY,aA];cases hc:inR i 0 (s.2.2.length:Int) with
 | false=>exact⟨0,rfl⟩
 | true=>
  obtain⟨h0,h1⟩:=aZ.1 hc;obtain⟨n,rfl⟩:=cFo h0;obtain⟨l,e,k⟩:=bLp (s:=s) (n:=n) (by omega) h;obtain⟨v,e2⟩:=bOv (b:=s.2.1) (l:=l) (by omega);refine⟨v,?_⟩;show Option.bind (pY s (n:Int)) _=_;rw[e,aA,e2,aA]
theorem bAa(key ts b:Int)(h:den bU):fW key ts b h=some (h.1,h.2.1,h.2.2.1,h.2.2.2.1,aJb key ts b h):=by
 unfold fW pj5;rw[show ((h.1,h.2.1,h.2.2.1,h.2.2.2.1,h.2.2.2.2):den bU)=h from rfl,bMt,aA]
def cEl(code:List Int)(o:Option (Int×Int×cV×List Int×q26)):Prop:= ∃a b hs c' p' h',o=some (a,b,hs,c',p',h')/\hs.length<=5/\Cur code (c',p',h')
def aLz(hs:cV):Prop:= ∀x∈hs,(0:Int)<=x.1/\(8:Int)>x.1
def cEa(code:List Int)(o:Option (Int×Int×cV×List Int×q26)):Prop:= ∃a b hs c' p' h',o=some (a,b,hs,c',p',h')/\(hs.length<=5/\aLz hs)/\Cur code (c',p',h')
theorem aLz.snoc{hs:cV}{x:den bU}(h:aLz hs)(hx:(0:Int)<=x.1/\(8:Int)>x.1):aLz (hs++[x]):=λy hy=>(cE4.1 hy).elim (h y) λhy=>by rw[cE3.1 hy];exact hx
def InN(n:Int)(hs:cV):Prop:= ∀x∈hs,(0:Int)<=x.1/\n>x.1
def bSa(n:Int)(code:List Int)(o:Option (Int×Int×cV×List Int×q26)):Prop:= ∃a b hs c' p' h',o=some (a,b,hs,c',p',h')/\(hs.length<=5/\InN n hs)/\Cur code (c',p',h')
theorem InN.snoc{n:Int}{hs:cV}{x:den bU}(h:InN n hs)(hx:(0:Int)<=x.1/\n>x.1):InN n (hs++[x]):=λy hy=>(cE4.1 hy).elim (h y) λhy=>by rw[cE3.1 hy];exact hx
theorem InN.as{n:Int}{hs:cV}(h:InN n hs)(hn:n<=8):aLz hs:=λx hx=>⟨(h x hx).1,by have :=(h x hx).2;omega⟩
abbrev GrS:=Int×Int×Int×Int×Int×cV×List Int×Int×Int
theorem bE3{code:List Int}(hl:code.length<=1048576){as:lAS}{ls:lLk}(ht:aDz as ls)(k:Int){c:List Int}{p h:Int}(hc:Cur code (c,p,h)):bSa (as.length:Int) code (kS (c,p,h) (as,ls) k):=by
 have hlen:=ht.len;have hlk:=ht.links;unfold kS dd ixb one pj2 pj3 pj5 pj6 zz4 zz5 zz6;simp only[aW,bN,bF,bE,bG];refine jP (G:=bSa (as.length:Int) code) as.length (λs:Int×List Int=>s.1) (λi t=>t.2.length<=i/\ ∀x∈t.2,0<=x/\x<(as.length:Int)) (λr:List Int=>r.length<=8/\ ∀x∈r,0<=x/\x<(as.length:Int)) ?_ ?_ 0 ((0:Int),[]) (by omega) rfl ⟨by simp,λd hd=>(cFi hd).elim⟩ ?_
 .rintro i ⟨_,l⟩ hi rfl ⟨g1,g2⟩
  simp only at g1 g2;right;simp only[zX (show (i:Int)<(as.length:Int) by omega),zZ,aR,cEx hi,aA,aF (b:=8) (n:=l.length) (m:=1) (by decide) (by omega),eZ (show i<=1000000000 by omega)];cases as[i].2.1 with
  | true=>exact⟨_,rfl,rfl,by simp;omega,λx hx=>by
    rcases cE4.1 hx with hx | hx
    .exact g2 x hx
    .rw[cE3.1 hx];omega⟩
  | false=>exact⟨_,rfl,rfl,by show l.length<=i+1;omega,g2⟩
 .rintro⟨_,l⟩ rfl ⟨g1,g2⟩
  exact⟨l,by simp only[zW (cF5 _),zY],by simp only at g1;omega,g2⟩
 rintro cores ⟨g1,g2⟩
 obtain⟨v1,c1,p1,h1,e1,r1,k1⟩:=aL hl (n:=50) (by decide) (by decide) hc;obtain⟨v2,c2,p2,h2,e2,r2,k2⟩:=aIm hl (n:=1000000) (by decide) k1;simp only[e1,e2,aA]
 by_cases h0:cores.length=0
 .rw[show ((cores.length:Int)==0)=true by rw[beq_iff_eq];omega,zZ];exact⟨_,_,_,_,_,_,rfl,⟨by simp,λx hx=>(cFi hx).elim⟩,k2⟩
 rw[show ((cores.length:Int)==0)=false by rw[beq_eq_false_iff_ne];omega,zY];obtain⟨v3,c3,p3,h3,e3,r3,k3⟩:=aL hl (n:=(cores.length:Int)) (by omega) (by omega) k2;obtain⟨m3,rfl⟩:=cFo r3.1;have hm3:m3<cores.length:=by omega
 have hr:=g2 cores[m3] (cGh hm3);simp only[e3,aA,zX (show (0:Int)<=(m3:Int) by omega),zX (show (m3:Int)<(cores.length:Int) by omega),zZ,cE0,cEx hm3];generalize cores[m3]=r at hr;refine jP (G:=bSa (as.length:Int) code) 5 (λs:GrS=>s.2.2.1) (λi s=>(0<=s.1/\s.1<(as.length:Int))/\(s.2.2.2.2.2.1.length=i/\InN (as.length:Int) s.2.2.2.2.2.1)/\Cur code s.2.2.2.2.2.2) (λz:((Int×Int×cV×List Int×q26)⊕(Int×Int×cV×List Int×q26))=> ∃a b hs c p h,(z= .inl (a,b,hs,c,p,h)\/z= .inr (a,b,hs,c,p,h))/\(hs.length<=5/\InN (as.length:Int) hs)/\Cur code (c,p,h)) ?_ ?_ 0 (r,(0:Int),(0:Int),v1,v2,[],c3,p3,h3) (by omega) rfl ⟨hr,⟨rfl,λx hx=>(cFi hx).elim⟩,k3⟩ ?_
 .rintro i ⟨r,inn,_,ts,be,hs,c4,p4,h4⟩ hi rfl ⟨b1,⟨b2,b2'⟩,b3⟩
  simp only at b1 b2 b2' b3;obtain⟨rn,rfl⟩:=cFo b1.1;have hrn:rn<as.length:=by omega
  obtain⟨ds,ek,dl,dm⟩:=bLi (t:=(as,ls)) (r:=(rn:Int)) (k:=k) (by show ls.length<=_;omega);have dl:ds.length<=2 * ls.length:=dl;have hout:∃out c5 p5 h5,(Option.bind (cond (decide ((ds.length:Int)>(0:Int))) (Option.bind (dT (c4,p4,h4) (5:Int)) λy35=>some (!y35.1,y35.2.1,y35.2.2.1,y35.2.2.2)) (some (false,c4,p4,h4))) λ(s36:Bool×List Int×q26)=>cond s36.1 (Option.bind (aC (s36.2.1,s36.2.2.1,s36.2.2.2) (ds.length:Int)) λy37=>cond (decide ((0:Int)<=y37.1)) (cond (decide (y37.1<(ds.length:Int))) (Option.bind ds[y37.1.toNat]? λx38=>some (x38,y37.2.1,y37.2.2.1,y37.2.2.2)) none) none) (some ((0:Int),s36.2.1,s36.2.2.1,s36.2.2.2)):Option (Int×List Int×q26))=some (out,c5,p5,h5)/\(out=0\/out∈gV (as,ls) (rn:Int))/\Cur code (c5,p5,h5):=by
   by_cases hd:(ds.length:Int)>0
   .obtain⟨v5,c5,p5,h5,e5,k5⟩:=tJ hl (n:=5) (by decide) (by decide) b3;simp only[zX hd,zZ,e5,aA];cases v5 with
    | true=>exact⟨0,c5,p5,h5,rfl,.inl rfl,k5⟩
    | false=>
     obtain⟨v6,c6,p6,h6,e6,r6,k6⟩:=aL hl (n:=(ds.length:Int)) hd (by omega) k5;obtain⟨m6,rfl⟩:=cFo r6.1;have hm6:m6<ds.length:=by omega
     exact⟨ds[m6],c6,p6,h6,by simp only[cFa,zZ,e6,aA,zX (show (0:Int)<=(m6:Int) by omega),zX (show (m6:Int)<(ds.length:Int) by omega),cE0,cEx hm6],.inr (dm _ (cGh hm6)),k6⟩
   .exact⟨0,c4,p4,h4,by simp only[zW hd,zY,aA],.inl rfl,b3⟩
  obtain⟨out,c5,p5,h5,eo,ho,k5⟩:=hout;obtain⟨al,ea,hal⟩:=bA2 (s:=(ts,be,hs)) (by show hs.length<=_;omega);have hal:al.length=hs.length:=hal;have er:=aEe (t:=(as,ls)) (r:=(rn:Int)) (d:=out) (show ls.length<=68719476736 by omega);have hfar:out∈gV (as,ls) (rn:Int)->0<=(remote (as,ls) (rn:Int) out).1/\(remote (as,ls) (rn:Int) out).1<(as.length:Int):=λhd=>by
   have :=bOd (t:=(as,ls)) ht.val hd;unfold dF at this;obtain⟨h0,h1⟩:=aZ.1 this;exact⟨h0,by simp only at h1;omega⟩
  generalize remote (as,ls) (rn:Int) out=fd at er hfar;obtain⟨far,door⟩:=fd;simp only at hfar;obtain⟨bb,eb⟩:∃b:Bool,(cond (out != (0:Int)) (Option.bind (eE (ts,be,hs)) λy41=>Option.bind (gB y41 far) λy42=>cond y42 (some true) (cond (far==(rn:Int)) (some true) (some (inn==out)))) (some (inn==out)))=some b:=by
   rw[ea,aA,aHq (by omega),aA];cases out != 0<;>cases rV al far<;>cases far==(rn:Int)<;>exact⟨_,rfl⟩
  obtain⟨v6,c6,p6,h6,e6,r6,k6⟩:=aL hl (n:=50) (by decide) (by decide) k5;obtain⟨bt,et⟩:=aPp (s:=(ts,be,hs)) (hs.length:Int) (by show hs.length<=_;omega);have ix:as[rn]? =some as[rn]:=cEx hrn;have hap:aK 40 hs.length 1=true:=aF (by decide) (by omega);simp only[zX (show (i:Int)<5 by omega),zZ,ek,aA];rw[eo,aA];simp only[er,aA];rw[eb,aA];have body:∀o:Int,o=0\/o=out->(∃r,(cond (o==(0:Int)) (some (cEt (cEt (ts,be,hs++[(((rn:Int),inn,o,wr ((wr (ts+(50:Int)))+v6),aJb as[rn].2.2 ts bt ((rn:Int),inn,o,wr ((wr (ts+(50:Int)))+v6),0)):den bU)],c6,p6,h6)))) (some (cEu (far,door,wr ((i:Int)+(1:Int)),ts,be,hs++[(((rn:Int),inn,o,wr ((wr (ts+(50:Int)))+v6),aJb as[rn].2.2 ts bt ((rn:Int),inn,o,wr ((wr (ts+(50:Int)))+v6),0)):den bU)],c6,p6,h6))):Option (GrS⊕((Int×Int×cV×List Int×q26)⊕(Int×Int×cV×List Int×q26))))=some (.inr r)/\(∃a b hs c p h,(r= .inl (a,b,hs,c,p,h)\/r= .inr (a,b,hs,c,p,h))/\(hs.length<=5/\InN (as.length:Int) hs)/\Cur code (c,p,h)))\/
    ∃s':GrS,(cond (o==(0:Int)) (some (cEt (cEt (ts,be,hs++[(((rn:Int),inn,o,wr ((wr (ts+(50:Int)))+v6),aJb as[rn].2.2 ts bt ((rn:Int),inn,o,wr ((wr (ts+(50:Int)))+v6),0)):den bU)],c6,p6,h6)))) (some (cEu (far,door,wr ((i:Int)+(1:Int)),ts,be,hs++[(((rn:Int),inn,o,wr ((wr (ts+(50:Int)))+v6),aJb as[rn].2.2 ts bt ((rn:Int),inn,o,wr ((wr (ts+(50:Int)))+v6),0)):den bU)],c6,p6,h6))):Option (GrS⊕((Int×Int×cV×List Int×q26)⊕(Int×Int×cV×List Int×q26))))=some (.inl s')/\s'.2.2.1=((i+1:Nat):Int)/\(0<=s'.1/\s'.1<(as.length:Int))/\(s'.2.2.2.2.2.1.length=i+1/\InN (as.length:Int) s'.2.2.2.2.2.1)/\Cur code s'.2.2.2.2.2.2:=by
   intro o hoo;cases hz:(o==(0:Int)) with
   | true=>exact .inl ⟨_,rfl,ts,be,_,c6,p6,h6,.inr rfl,⟨by simp;omega,b2'.snoc ⟨by simp only;omega,by simp only;omega⟩⟩,k6⟩
   | false=>
    refine .inr ⟨_,rfl,eZ (show i<=1000000000 by omega),?_,⟨by simp[b2],b2'.snoc ⟨by simp only;omega,by simp only;omega⟩⟩,k6⟩;have hne:o≠0:=by simpa using hz
    rcases hoo with h | rfl
    .exact absurd h hne
    .rcases ho with h | h
     .exact absurd h hne
     .exact hfar h
  cases bb with
  | true=>
   cases inn==(0:Int) with
   | true=>exact .inl ⟨_,rfl,ts,be,hs,c5,p5,h5,.inr rfl,⟨by omega,b2'⟩,k5⟩
   | false=>
    have :=body 0 (.inl rfl);simpa only [zZ,zY,aA,cGg,e6,aR,ix,et,bAa,hap] using this
  | false=>
   have :=body out (.inr rfl);simpa only [zZ,zY,aA,cGg,e6,aR,ix,et,bAa,hap] using this
 .rintro⟨r,inn,_,ts,be,hs,c4,p4,h4⟩ rfl ⟨b1,⟨b2,b2'⟩,b3⟩
  simp only at b1 b2 b2' b3;exact⟨.inl (ts,be,hs,c4,p4,h4),by simp only[show decide ((((5:Nat):Int))<(5:Int))=false from rfl,zY],ts,be,hs,c4,p4,h4,.inl rfl,⟨by omega,b2'⟩,b3⟩
 .rintro z ⟨a,b,hs,c,p,h,hz,h5,k5⟩
  rcases hz with rfl | rfl
  .exact⟨a,b,hs,c,p,h,rfl,h5,k5⟩
  .exact⟨a,b,hs,c,p,h,rfl,h5,k5⟩
theorem bW3{code:List Int}(hl:code.length<=1048576){as:lAS}{ls:lLk}(ht:aDz as ls)(k:Int){c:List Int}{p h:Int}(hc:Cur code (c,p,h)):cEa code (kS (c,p,h) (as,ls) k):=by
 obtain⟨a,b,hs,c1,p1,h1,e,⟨l,m⟩,k1⟩:=bE3 hl ht k hc;exact⟨a,b,hs,c1,p1,h1,e,⟨l,m.as (by have :=ht.len;omega)⟩,k1⟩
theorem aHp{code:List Int}(hl:code.length<=1048576){as:lAS}{ls:lLk}(ht:aDz as ls)(k:Int){c:List Int}{p h:Int}(hc:Cur code (c,p,h)):cEl code (kS (c,p,h) (as,ls) k):=by
 obtain⟨a,b,hs,c1,p1,h1,e,⟨l,_⟩,k1⟩:=bW3 hl ht k hc;exact⟨a,b,hs,c1,p1,h1,e,l,k1⟩
theorem bD2{as:lAS}{ls:lLk}(ht:aDz as ls){s:den tSg}(h:s.2.2.length<=1000):∃b,kA (as,ls) s=some b/\(b=true-> ∃x,s.2.2[0]? =some x/\dF (as,ls) x.1=true):=by
 obtain⟨al,ea,hal⟩:=bA2 (s:=s) (by omega);have hlen:=ht.len;have hlk:=ht.links;unfold kA pj2 pj3 pj5;rw[iY,aA];cases hc:inR (s.2.2.length:Int) 1 8 with
 | false=>exact⟨false,rfl,λe=>by cases e⟩
 | true=>
  obtain⟨h0,h1⟩:=aZ.1 hc;have h00:0<s.2.2.length:=by omega
  have i0:idx s.2.2 (0:Int)=some s.2.2[0]:=by rw[show (0:Int)=((0:Nat):Int) from rfl,aR,cEx h00]
  simp only[cE2,zY,i0,aA];cases s.2.2[0].2.1 != (0:Int) with
  | true=>exact⟨false,rfl,λe=>by cases e⟩
  | false=>
   simp only[zY];rw[show ((s.1,s.2.1,s.2.2):den tSg)=s from rfl,ea,aA];refine jP (G:=λo=> ∃b,o=some b/\(b=true-> ∃x,s.2.2[0]? =some x/\dF (as,ls) x.1=true)) s.2.2.length (λs:List Int×Int=>s.2) (λi t=>t.1=al/\(0<i->dF (as,ls) s.2.2[0].1=true)) (λr:Unit⊕Bool=>r= .inl ()/\dF (as,ls) s.2.2[0].1=true\/r= .inr false) ?_ ?_ 0 (al,(0:Int)) (by omega) rfl ⟨rfl,λh=>by omega⟩ ?_
   .rintro i ⟨_,_⟩ hi rfl ⟨rfl,g2⟩
    rename_i al;have ix:idx s.2.2 (i:Int)=some s.2.2[i]:=by rw[aR,cEx hi]
    simp only[zX (show (i:Int)<(s.2.2.length:Int) by omega),zZ,ix,aA];rw[show ((s.2.2[i].1,s.2.2[i].2.1,s.2.2[i].2.2.1,s.2.2[i].2.2.2.1,s.2.2[i].2.2.2.2):den bU)=s.2.2[i] from rfl,aLk,aA,aFi (t:=(as,ls)) (show as.length<=_ by omega),aA];have e1:cO (0:Int) (i:Int) (al.length:Int)=true:=yK (by rw[hal];exact hi);have e2:gB (cut al (0:Int) (i:Int)) s.2.2[i].1=some (rV (cut al (0:Int) (i:Int)) s.2.2[i].1):=aHq (by rw[jU];exact cEv (List.length_take_le _ _) (by omega));obtain⟨b,eb,hb⟩:∃b:Bool,(cond (!(jW s.2.2[i])) (some true) (cond (!(dF (as,ls) s.2.2[i].1)) (some true) (cond (cO (0:Int) (i:Int) (al.length:Int)) (Option.bind (gB (cut al (0:Int) (i:Int)) s.2.2[i].1) λy20=>cond y20 (some true) (cond (s.2.2[i].2.2.1==(0:Int)) (some (decide ((i:Int)<(wr ((s.2.2.length:Int) - (1:Int)))))) (some false))) none)))=some b/\(b=false->dF (as,ls) s.2.2[i].1=true):=by
     rw[e1,e2,aA];cases jW s.2.2[i]
     .exact⟨true,rfl,λe=>by cases e⟩
     .cases dF (as,ls) s.2.2[i].1
      .exact⟨true,rfl,λe=>by cases e⟩
      .cases rV (cut al (0:Int) (i:Int)) s.2.2[i].1
       .cases s.2.2[i].2.2.1==(0:Int)
        .exact⟨false,rfl,λ_=>rfl⟩
        .exact⟨_,rfl,λ_=>rfl⟩
       .exact⟨true,rfl,λ_=>rfl⟩
    rw[eb,aA];cases b with
    | true=>exact .inl ⟨.inr false,rfl,.inr rfl⟩
    | false=>
     have hok:=hb rfl
     by_cases hp:i=0
     .subst hp;refine .inr ⟨(al,((1:Nat):Int)),?_,rfl,rfl,λ_=>hok⟩;rfl
     .have hi1:i - 1<s.2.2.length:=by omega
      have w1:wr ((i:Int) - 1)=((i - 1:Nat):Int):=by rw[bJ (by omega) (by omega)];omega
      have er:=aEe (t:=(as,ls)) (r:=s.2.2[i - 1].1) (d:=s.2.2[i - 1].2.2.1) (show ls.length<=68719476736 by omega);simp only[zY,zX (show (i:Int)>0 by omega),zZ,w1,aR,cEx hi1,aA,er];obtain⟨b2,eb2⟩:∃b:Bool,(cond ((remote (as,ls) s.2.2[i - 1].1 s.2.2[i - 1].2.2.1).1 != s.2.2[i].1) (some true) (some ((remote (as,ls) s.2.2[i - 1].1 s.2.2[i - 1].2.2.1).2 != s.2.2[i].2.1)))=some b:=by
       cases (remote (as,ls) s.2.2[i - 1].1 s.2.2[i - 1].2.2.1).1 != s.2.2[i].1<;>exact⟨_,rfl⟩
      rw[eb2,aA];cases b2 with
      | true=>exact .inl ⟨.inr false,rfl,.inr rfl⟩
      | false=>
       refine .inr ⟨(al,((i+1:Nat):Int)),?_,rfl,rfl,λ_=>g2 (by omega)⟩;simp only[zY,aA,cGg,eZ (show i<=1000000000 by omega)]
   .rintro⟨_,_⟩ rfl ⟨rfl,g2⟩
    exact⟨.inl (),by simp only[zW (cF5 _),zY],.inl ⟨rfl,g2 h00⟩⟩
   .rintro r (⟨rfl,hr⟩ | rfl)
    .exact⟨true,rfl,λ_=>⟨s.2.2[0],cEx h00,hr⟩⟩
    .exact⟨false,rfl,λe=>by cases e⟩
theorem bYf{as:lAS}{ls:lLk}(ht:aDz as ls){s:den tSg}(h:s.2.2.length<=1000):∃v,iA (as,ls) s=some v:=by
 have hlen:=ht.len;unfold iA pj2 pj3 pj5;refine jP (G:=λo=> ∃b,o=some b) s.2.2.length (λs:Int=>s) (λi t=>True) (λr:Unit⊕Int=>True) ?_ ?_ 0 (0:Int) (by omega) rfl trivial ?_
 .rintro i _ hi rfl _
  obtain⟨bt,et⟩:=aPp (s:=s) (i:Int) (by omega);have et:iM (s.1,s.2.1,s.2.2) (i:Int)=some bt:=et;have ev:=aYu (t:=(as,ls)) (ts:=s.1) (beta:=bt) (h:=s.2.2[i]) (show as.length<=68719476736 by omega);have ev:gT (as,ls) s.1 bt (s.2.2[i].1,s.2.2[i].2.1,s.2.2[i].2.2.1,s.2.2[i].2.2.2.1,s.2.2[i].2.2.2.2)=some _:=ev;simp only[zX (show (i:Int)<(s.2.2.length:Int) by omega),zZ,aR,cEx hi,aA,et,ev,eZ (show i<=1000000000 by omega)];cases aAn (as,ls) s.1 bt s.2.2[i] with
  | true=>exact .inr ⟨_,rfl,rfl,trivial⟩
  | false=>exact .inl ⟨_,rfl,trivial⟩
 .rintro _ rfl _
  exact⟨.inl (),by simp only[zW (cF5 _),zY],trivial⟩
 .rintro r _
  cases r with
  | inl u=>exact⟨_,rfl⟩
  | inr v=>exact⟨_,rfl⟩
theorem aV1{as:lAS}{ls:lLk}(ht:aDz as ls){s:den tSg}(h:s.2.2.length<=1000):∃v,gE (as,ls) s=some v:=by
 have hlen:=ht.len;have hlk:=ht.links;obtain⟨b,eb,hb⟩:=bD2 ht h;unfold gE pj2 pj3;have eb:kA (as,ls) (s.1,s.2.1,s.2.2)=some b:=eb;rw[eb,aA];cases b with
 | false=>exact⟨0,rfl⟩
 | true=>
  obtain⟨x,hx,hok⟩:=hb rfl;obtain⟨h0,rfl⟩:=cEz.1 hx;obtain⟨y,hy,iy⟩:=aGd hok;have ef:eA (s.1,s.2.1,s.2.2)=some s.2.2[0].1:=by
   unfold eA;rw[show ((s.2.2.length:Int)==0)=false by rw[beq_eq_false_iff_ne];omega,zY,show (0:Int)=((0:Nat):Int) from rfl,aR,cEx h0,aA]
  have iy:idx as s.2.2[0].1=some y:=iy;simp only[cE2,zY,ef,iy,aA];cases y.2.1 with
  | false=>exact⟨0,rfl⟩
  | true=>
   simp only[cE2,zY];refine jP (G:=λo=> ∃b,o=some b) s.2.2.length (λs:Int×Int=>s.2) (λi t=>True) (λr:Int⊕Int=>True) ?_ ?_ 0 ((0:Int),(0:Int)) (by omega) rfl trivial ?_
   .rintro i ⟨k,_⟩ hi rfl _
    have ek:=aT8 (t:=(as,ls)) (r:=s.2.2[i].1) (d:=s.2.2[i].2.2.1) (show ls.length<=68719476736 by omega);simp only[zX (show (i:Int)<(s.2.2.length:Int) by omega),zZ,aR,cEx hi,aA,ek,eZ (show i<=1000000000 by omega)];cases s.2.2[i].2.2.1==(0:Int) with
    | true=>exact .inr ⟨_,rfl,rfl,trivial⟩
    | false=>
     cases k != (0:Int) with
     | false=>exact .inr ⟨_,rfl,rfl,trivial⟩
     | true=>
      simp only[zZ,zY,aA];cases aCa (as,ls) s.2.2[i].1 s.2.2[i].2.2.1 != k with
      | true=>exact .inl ⟨_,rfl,trivial⟩
      | false=>exact .inr ⟨_,rfl,rfl,trivial⟩
   .rintro⟨k,_⟩ rfl _
    exact⟨.inl k,by simp only[zW (cF5 _),zY],trivial⟩
   .rintro r _
    cases r with
    | inr v=>exact⟨_,rfl⟩
    | inl v=>
     simp only[cGg];cases v==(1:Int)
     .cases v==(2:Int)<;>exact⟨_,rfl⟩
     .exact⟨_,rfl⟩
theorem bHx{as:lAS}{ls:lLk}(ht:aDz as ls){s:den tSg}(h:s.2.2.length<=1000):∃b,kJ (as,ls) s=some b/\(b=true->s.2.2≠[]):=by
 obtain⟨b,eb,hb⟩:=bD2 ht h;have hb:b=true->s.2.2≠[]:=λe he=>by
  obtain⟨x,hx,_⟩:=hb e;rw[he]at hx;cases hx
 obtain⟨v,ev⟩:=bYf ht h;obtain⟨k,ek⟩:=aV1 ht h;have eb:kA (as,ls) (s.1,s.2.1,s.2.2)=some b:=eb;have ev:iA (as,ls) (s.1,s.2.1,s.2.2)=some v:=ev;have ek:gE (as,ls) (s.1,s.2.1,s.2.2)=some k:=ek;unfold kJ pj2 pj3;simp only[eb,ev,ek,iY,aEb,aA];cases b
 .exact⟨_,rfl,λe=>Bool.noConfusion e⟩
 .have hb:=hb rfl;cases decide (v<0)
  .exact⟨_,rfl,λ_=>hb⟩
  .cases k != (0:Int)
   .exact⟨_,rfl,λ_=>hb⟩
   .cases inR s.1 0 1000000<;>exact⟨_,rfl,λ_=>hb⟩
theorem bR1{s:den tSg}(h:s.2.2.length<=1000):∃b,kH s=some b:=by
 unfold kH
 by_cases h0:(s.2.2.length:Int)>0
 .have w1:wr ((s.2.2.length:Int) - 1)=((s.2.2.length - 1:Nat):Int):=by rw[bJ (by omega) (by omega)];omega
  rw[zX h0,zZ,w1,aR,cEx (by omega),aA,aA];exact⟨_,rfl⟩
 .rw[zW h0,zY];exact⟨_,rfl⟩
theorem bIx{a b:cV}(h:a.length<=1000000):∃v,jY a b=some v:=by
 unfold jY zz4
 by_cases hn:a.length=b.length
 .rw[hn,bne_self_eq_false,zY,<- hn];refine jP (G:=λo=> ∃b,o=some b) a.length (λs:Int=>s) (λi t=>True) (λr:Unit⊕Bool=>True) ?_ ?_ 0 (0:Int) (by omega) rfl trivial ?_
  .rintro i _ hi rfl _
   have h2:i<b.length:=by omega
   simp only[zX (show (i:Int)<(a.length:Int) by omega),zZ,aR,cEx hi,cEx h2,aA,eZ (show i<=1000000000 by omega)];cases ((a[i].1==b[i].1)&&((a[i].2.1==b[i].2.1)&&((a[i].2.2.1==b[i].2.2.1)&&((a[i].2.2.2.1==b[i].2.2.2.1)&&((a[i].2.2.2.2==b[i].2.2.2.2)&&true))))) with
   | true=>exact .inr ⟨_,rfl,rfl,trivial⟩
   | false=>exact .inl ⟨_,rfl,trivial⟩
  .rintro _ rfl _
   exact⟨.inl (),by simp only[zW (cF5 _),zY],trivial⟩
  .rintro r _
   cases r with
   | inl u=>exact⟨_,rfl⟩
   | inr v=>exact⟨_,rfl⟩
 .rw[show ((a.length:Int) != (b.length:Int))=true by rw[bne_iff_ne];omega,zZ];exact⟨_,rfl⟩
theorem bMj{a b:den tSg}(h:a.2.2.length<=1000000):∃v,kY a b=some v:=by
 obtain⟨v,e⟩:=bIx (b:=b.2.2) h;unfold kY;rw[e,aA];cases a.1==b.1
 .exact⟨_,rfl⟩
 .cases a.2.1==b.2.1<;>exact⟨_,rfl⟩
theorem bCs{l:lSg}{s:den tSg}(hl:l.length<=1000000)(h:∀x∈l,x.2.2.length<=1000):∃v,vK l s=some v:=by
 unfold vK pj3;refine jP (G:=λo=> ∃b,o=some b) l.length (λs:Int=>s) (λi t=>True) (λr:Unit⊕Bool=>True) ?_ ?_ 0 (0:Int) (by omega) rfl trivial ?_
 .rintro i _ hi rfl _
  obtain⟨v,e⟩:=bMj (a:=l[i]) (b:=s) (by have :=h l[i] (cGh hi);omega);have e:kY (l[i].1,l[i].2.1,l[i].2.2) (s.1,s.2.1,s.2.2)=some v:=e;simp only[zX (show (i:Int)<(l.length:Int) by omega),zZ,aR,cEx hi,aA,e,eZ (show i<=1000000000 by omega)];cases v with
  | false=>exact .inr ⟨_,rfl,rfl,trivial⟩
  | true=>exact .inl ⟨_,rfl,trivial⟩
 .rintro _ rfl _
  exact⟨.inl (),by simp only[zW (cF5 _),zY],trivial⟩
 .rintro r _
  cases r with
  | inl u=>exact⟨_,rfl⟩
  | inr v=>exact⟨_,rfl⟩
structure DbD (n:Nat) (d c:lSg):Prop where
 down:d.length<=n
 core:c.length<=n
 hd:∀x∈d,x.2.2.length<=5
 hc:∀x∈c,x.2.2.length<=5
 ha:∀x∈d,x.2.2≠[]/\aLz x.2.2
theorem aO1{l:lSg}{n:Nat}(hn:n<=1000)(h:l.length<=n)(hh:∀x∈l,x.2.2.length<=5):SmB 68719476736 (.sl tSg) l:=by
 refine⟨by omega,λx hx=>⟨trivial,trivial,?_,λe he=>⟨trivial,trivial,trivial,trivial,trivial⟩⟩⟩;have :=hh x hx;show x.2.2.length<=_;omega
def bKl(t:den tTo)(s:den tSg)(k:Int):Prop:=kJ t s=some true/\kH s=some true/\gE t s=some k
theorem bL1{as:lAS}{ls:lLk}(ht:aDz as ls){n:Nat}(hn:n<=100){d c:lSg}(hk:DbD n d c){s:den tSg}(h:s.2.2.length<=5)(ha:aLz s.2.2):∃d' c',oX (as,ls) (d,c) s=some (d',c')/\DbD (n+1) d' c'/\(∀x∈d',x∈d\/(x=s/\bKl (as,ls) s 2))/\(∀x∈c',x∈c\/(x=s/\ ∃k,bKl (as,ls) s k/\k≠2)):=by
 obtain⟨b1,e1,hb1⟩:=bHx ht (s:=s) (by omega);obtain⟨b2,e2⟩:=bR1 (s:=s) (by omega);obtain⟨b3,e3⟩:=bCs (l:=d) (s:=s) (by have :=hk.down;omega) (λx hx=>by have :=hk.hd x hx;omega);obtain⟨b4,e4⟩:=bCs (l:=c) (s:=s) (by have :=hk.core;omega) (λx hx=>by have :=hk.hc x hx;omega);obtain⟨k,ek⟩:=aV1 ht (s:=s) (by omega);have c1:=aD9 (aO1 (by omega) hk.down hk.hd);have c2:=aD9 (aO1 (by omega) hk.core hk.hc);have c3:=aJo (x:=s) (by omega);have e5:∃b,pF (d,c) s=some b:=by
  unfold pF pj3;have e3:vK d (s.1,s.2.1,s.2.2)=some b3:=e3;have e4:vK c (s.1,s.2.1,s.2.2)=some b4:=e4;simp only[e3,e4,aA];cases b3<;>exact⟨_,rfl⟩
 obtain⟨b5,e5⟩:=e5;have hdn:=hk.down;have hcn:=hk.core;have e1:kJ (as,ls) (s.1,s.2.1,s.2.2)=some b1:=e1;have e2:kH (s.1,s.2.1,s.2.2)=some b2:=e2;have e5:pF (d,c) (s.1,s.2.1,s.2.2)=some b5:=e5;have ek:gE (as,ls) (s.1,s.2.1,s.2.2)=some k:=ek;have c3:iG (s.1,s.2.1,s.2.2)=some s:=c3;have same:DbD (n+1) d c:=⟨by omega,by omega,hk.hd,hk.hc,hk.ha⟩
 unfold oX pj2 pj3;simp only[c1,c2,aA,aW,bN,bF,bE,bG,e1,e2,e5,ek,c3,aF (b:=40) (n:=d.length) (m:=1) (by decide) (by omega),aF (b:=40) (n:=c.length) (m:=1) (by decide) (by omega),zZ];obtain⟨b6,e6,hb6⟩:∃b:Bool,(cond (!b1) (some true) (cond (!b2) (some true) (some b5)))=some b/\(b=false->b1=true/\b2=true):=by
  cases b1
  .exact⟨_,rfl,λe=>Bool.noConfusion e⟩
  .cases b2
   .exact⟨_,rfl,λe=>Bool.noConfusion e⟩
   .exact⟨_,rfl,λ_=>⟨rfl,rfl⟩⟩
 rw[e6,aA];cases b6 with
 | true=>exact⟨d,c,rfl,same,λx hx=> .inl hx,λx hx=> .inl hx⟩
 | false=>
  obtain⟨hb1t,hb2t⟩:=hb6 rfl;have hne:=hb1 hb1t;rw[hb1t]at e1;rw[hb2t]at e2;cases hk2:(k==(2:Int)) with
  | true=>
   have hk2:k=2:=eq_of_beq hk2;rw[hk2]at ek;exact⟨_,_,rfl,⟨by simp;omega,by simp only;omega,λx hx=>(cE4.1 hx).elim (hk.hd x) λhx=>by rw[cE3.1 hx];exact h,hk.hc,λx hx=>(cE4.1 hx).elim (hk.ha x) λhx=>by rw[cE3.1 hx];exact⟨hne,ha⟩⟩,λx hx=>(cE4.1 hx).elim .inl λhx=> .inr ⟨cE3.1 hx,e1,e2,ek⟩,λx hx=> .inl hx⟩
  | false=>
   have hk2:k≠2:=by rw[beq_eq_false_iff_ne]at hk2;exact hk2
   exact⟨_,_,rfl,⟨by simp only;omega,by simp;omega,hk.hd,λx hx=>(cE4.1 hx).elim (hk.hc x) λhx=>by rw[cE3.1 hx];exact h,hk.ha⟩,λx hx=> .inl hx,λx hx=>(cE4.1 hx).elim .inl λhx=> .inr ⟨cE3.1 hx,k,⟨e1,e2,ek⟩,hk2⟩⟩
theorem DbD.mono{n m:Nat}{d c:lSg}(h:DbD n d c)(hm:n<=m):DbD m d c:=⟨cEv h.down hm,cEv h.core hm,h.hd,h.hc,h.ha⟩
theorem bOs{s:den tSg}(h:s.2.2.length<=1000):∃v,fT s=some v:=by
 unfold fT
 by_cases h0:s.2.2.length=0
 .rw[show ((s.2.2.length:Int)==0)=true by rw[beq_iff_eq];omega,zZ];exact⟨_,rfl⟩
 .have w1:wr ((s.2.2.length:Int) - 1)=((s.2.2.length - 1:Nat):Int):=by rw[bJ (by omega) (by omega)];omega
  rw[show ((s.2.2.length:Int)==0)=false by rw[beq_eq_false_iff_ne];omega,zY,w1,aR,cEx (by omega),aA];exact⟨_,rfl⟩
theorem bRy{s:den tSg}(h:s.2.2.length<=1000)(h0:s.2.2≠[])(ha:aLz s.2.2):∃v,fT s=some v/\0<=v/\v<8:=by
 have hl:=List.length_pos_iff.2 h0;unfold fT;have w1:wr ((s.2.2.length:Int) - 1)=((s.2.2.length - 1:Nat):Int):=by rw[bJ (by omega) (by omega)];omega
 rw[show ((s.2.2.length:Int)==0)=false by rw[beq_eq_false_iff_ne];omega,zY,w1,aR,cEx (by omega),aA];have :=ha _ (cGh (show s.2.2.length - 1<s.2.2.length by omega));exact⟨_,rfl,this.1,this.2⟩
theorem aLf{s:den tSg}:∃v,eA s=some v:=by
 unfold eA
 by_cases h0:s.2.2.length=0
 .rw[show ((s.2.2.length:Int)==0)=true by rw[beq_iff_eq];omega,zZ];exact⟨_,rfl⟩
 .rw[show ((s.2.2.length:Int)==0)=false by rw[beq_eq_false_iff_ne];omega,zY,show (0:Int)=((0:Nat):Int) from rfl,aR,cEx (by omega),aA];exact⟨_,rfl⟩
theorem aZo{code:List Int}(hl:code.length<=1048576){d:lSg}(hd:d.length<=200)(h5:∀x∈d,x.2.2.length<=5)(ha:∀x∈d,x.2.2≠[]/\aLz x.2.2)(k:Int)(hk:0<k/\k<=256)(z:Int)(hz:0<=z/\z<8){c:List Int}{p h:Int}(hc:Cur code (c,p,h)):
  ∃v c' p' h',(Option.bind (cond (decide ((d.length:Int)>(0:Int))) (Option.bind (dT (c,p,h) k) λy3=>some (!y3.1,y3.2.1,y3.2.2.1,y3.2.2.2)) (some (false,c,p,h))) λ(s4:Bool×List Int×q26)=>cond s4.1 (Option.bind (aC (s4.2.1,s4.2.2.1,s4.2.2.2) (d.length:Int)) λy5=>Option.bind (idx d y5.1) λx6=>Option.bind (fT (x6.1,x6.2.1,x6.2.2)) λy7=>some (y7,y5.2.1,y5.2.2.1,y5.2.2.2)) (some (z,s4.2.1,s4.2.2.1,s4.2.2.2)):Option (Int×List Int×q26))=some (v,c',p',h')/\(0<=v/\v<8)/\Cur code (c',p',h'):=by
 by_cases h0:(d.length:Int)>0
 .obtain⟨v1,c1,p1,h1,e1,k1⟩:=tJ hl (n:=k) hk.1 hk.2 hc;simp only[zX h0,zZ,e1,aA];cases v1 with
  | true=>exact⟨z,c1,p1,h1,rfl,hz,k1⟩
  | false=>
   obtain⟨v2,c2,p2,h2,e2,r2,k2⟩:=aL hl (n:=(d.length:Int)) h0 (by omega) k1;obtain⟨m2,rfl⟩:=cFo r2.1;have hm:m2<d.length:=by omega
   obtain⟨v3,e3,r3⟩:=bRy (s:=d[m2]) (by have :=h5 d[m2] (cGh hm);omega) (ha d[m2] (cGh hm)).1 (ha d[m2] (cGh hm)).2;have e3:fT (d[m2].1,d[m2].2.1,d[m2].2.2)=some v3:=e3;exact⟨v3,c2,p2,h2,by simp only[cFa,zZ,e2,aA,aR,cEx hm,e3],r3,k2⟩
 .exact⟨z,c,p,h,by simp only[zW h0,zY,aA],hz,hc⟩
theorem bXx{code:List Int}(hl:code.length<=1048576){n:Nat}(hn:n<=100){d cc:lSg}(hk:DbD n d cc){c:List Int}{p h:Int}(hc:Cur code (c,p,h)):∃a b c' p' h',yO (c,p,h) (d,cc)=some (a,b,c',p',h')/\((0<=a/\a<8)/\(0<=b/\b<8))/\Cur code (c',p',h'):=by
 have hd:=hk.down;obtain⟨v1,c1,p1,h1,e1,r1,k1⟩:=aL hl (n:=8) (by decide) (by decide) hc;obtain⟨v2,c2,p2,h2,e2,r2,k2⟩:=aL hl (n:=8) (by decide) (by decide) k1;obtain⟨v3,c3,p3,h3,e3,r3,k3⟩:=aZo hl (d:=d) (by omega) hk.hd hk.ha 4 (by decide) v1 r1 k2;obtain⟨v4,c4,p4,h4,e4,r4,k4⟩:=aZo hl (d:=d) (by omega) hk.hd hk.ha 3 (by decide) v2 r2 k3;refine⟨v3,v4,c4,p4,h4,?_,⟨r3,r4⟩,k4⟩;unfold yO pj3 pj4;simp only[e1,e2,aA,aW,bN,bF,bE,bG];rw[e3,aA,e4,aA]
theorem aRk{α β:Type}(g:α->List β):∀(l:List α) (k:Nat) (a:List β),bQ (λ_ x a=>a++g x) k l a=a++l.flatMap g
 | [],_,a=>(cFv a).symm
 | x::l,k,a=>by
  show bQ _ (k+1) l (a++g x)=_;rw[aRk g l (k+1) (a++g x),cH8,cFk]
theorem sI{α β R:Type}(l:List α)(g:α->List β)(out:List β->R)(a0:List β){step:Int×List β->Option ((Int×List β)⊕R)}(hl:l.length<=1000000)(hN:a0.length+(l.map λx=>(g x).length).sum<=1000000)
  (hs:∀(k:Nat) (x:α) (a:List β),idx l (k:Int)=some x->l[k]? =some x->x∈l->decide ((k:Int)<(l.length:Int))=true->wr ((k:Int)+1)=((k+1:Nat):Int)->a.length+(g x).length<=1000000->step ((k:Int),a)=some (.inl (((k+1:Nat):Int),a++g x)))
  (he:∀a,step ((l.length:Int),a)=some (.inr (out a))):aD step ((0:Int),a0)=some (out (a0++l.flatMap g)):=by
 rw[kD (λk (a:List β)=>((k:Int),a)) ((0:Int),a0) a0 l (λ_ x a=>a++g x) cFd (λx=>(g x).length) 1000000 out rfl (by omega) hN (λk x a=>by rw[cFj];exact cE8 _) (λk x a h1 h2 h3 h4 h5 h6=>hs k x a h1 h2 (cE9 h2) h3 h4 h6) he,aRk]
theorem aM0{α:Type}{f:α->Nat}{c:Nat}:∀{l:List α},(∀x∈l,f x<=c)->(l.map f).sum<=l.length * c
 | [],_=>cFe _
 | x::l,h=>by
  have h1:=h x (by simp);have h2:=aM0 (l:=l) λy hy=>h y (cE7 _ hy)
  rw[cFg,List.sum_cons,cFw,cFq];omega
theorem aQc{α β:Type}{g:α->List β}{c:Nat}:∀{l:List α},(∀x∈l,(g x).length<=c)->(l.flatMap g).length<=l.length * c
 | [],_=>cFe _
 | x::l,h=>by
  have h1:=h x (by simp);have h2:=aQc (l:=l) λy hy=>h y (cE7 _ hy)
  rw[cH8,cFj,cFw,cFq];omega
def eU(s:den tSg):Int:=match s.2.2 with
 | []=> -1
 | h::_=>h.1
def qT(s:den tSg):Int:=if s.2.2.length=0 then -1 else ((s.2.2[s.2.2.length - 1]?).getD h0).1
theorem bNa(s:den tSg):eA s=some (eU s):=by
 unfold eA eU;cases h:s.2.2 with
 | nil=>rfl
 | cons x l=>rfl
theorem bPj{s:den tSg}(hl:s.2.2.length<=1000000):fT s=some (qT s):=by
 unfold fT qT
 by_cases h:s.2.2.length=0
 .rw[zT h,h];rfl
 .rw[zS h,show ((s.2.2.length:Int)==0)=false by rw[beq_eq_false_iff_ne];omega,zY,bCb (by omega) (by omega),aR,cEx (show s.2.2.length - 1<s.2.2.length by omega)];rfl
def bLq(b:Int)(l:List Int):Int:=l.foldl aK6 b
def aZ9(l:cV):List Int:=l.map λh=>h.2.2.2.2
theorem bX4{b:Int}{l:List Int}(hl:l.length<=1000000):qZ b l=some (bLq b l):=by
 unfold qZ;rw[kD (λk (a:Int)=>(a,(k:Int))) (b,(0:Int)) b l (λ_ x a=>aK6 a x) (λ_=>0) (λ_=>0) 1 id rfl (by omega) (by rw[sum_nil];omega) (λk x a=>by omega) (λk x a hi hx hd hw hk hb=>by
  simp only[hd,hi,hw,zZ,aA,aRp]) (λa=>by simp),uV]
 rfl
theorem bZd{s:den tSg}{n:Nat}(hn:n<=s.2.2.length)(hl:s.2.2.length<=1000000):pY s (n:Int)=some (aZ9 (s.2.2.take n)):=by
 have e:(s.2.2.take n).length=n:=by rw[cF6];omega
 unfold pY zz4;rw[kD (λk (a:List Int)=>((k:Int),a)) ((0:Int),[]) [] (s.2.2.take n) (λ_ x a=>a++[x.2.2.2.2]) cFd (λ_=>1) 1000000 id rfl (by omega) (by rw[eY];simp;omega) (λk x a=>by simp) (λk x a hi hx hd hw hk hb=>by
  have hx:=(aPr hx).1;rw[e]at hd;simp only[hd,aR,hx,hw,zZ,aA,aF (b:=8) (n:=a.length) (m:=1) (by decide) (by omega)]) (λa=>by rw[e];simp),hH (λh:den bU=>h.2.2.2.2)]
 rfl
def aGi(s:den tSg)(i:Int):Int:=if inR i 0 (s.2.2.length:Int) then bLq s.2.1 (aZ9 (s.2.2.take i.toNat)) else 0
theorem bEz{s:den tSg}{i:Int}(hl:s.2.2.length<=1000000):iM s i=some (aGi s i):=by
 unfold iM aGi pj3;simp only[iY,aA];cases h:inR i 0 (s.2.2.length:Int) with
 | false=>rfl
 | true=>
  obtain⟨g0,g1⟩:=aZ.1 h;obtain⟨n,rfl⟩:=cFo g0;have e2:(aZ9 (s.2.2.take n)).length<=1000000:=by unfold aZ9;rw[cFt,cF6];omega
  have e3:pY (s.1,s.2.1,s.2.2) (n:Int)=some (aZ9 (s.2.2.take n)):=bZd (s:=s) (by omega) hl;simp only[cE2,zY,e3,aA,bX4 e2,zV,cE0]
def nZ(s:den tSg)(k i:Int):den tPp:=
 if inR i 0 ((s.2.2.length:Int) - 1)&&inR k 1 4 then
  (if hZ k then (k,s.1,aGi s (s.2.2.length:Int),(s.2.2.drop i.toNat).reverse) else (k,s.1,aGi s i,s.2.2.drop i.toNat))
 else (0,0,0,[])
theorem aG3(s:den tSg)(k i:Int):(nZ s k i).2.2.2.length<=s.2.2.length:=by
 unfold nZ;split
 .split
  .show (s.2.2.drop i.toNat).reverse.length<=_;rw[List.length_reverse,cG8];omega
  .show (s.2.2.drop i.toNat).length<=_;rw[cG8];omega
 .exact cFe _
theorem aE6{s:den tSg}{k i:Int}(hl:s.2.2.length<=1000000):cI s k i=some (nZ s k i):=by
 unfold cI nZ pj3 pj4 pj5 zz4;simp only[iY,aA,aW,bN,bF,bE,bG,bJ (n:=(s.2.2.length:Int) - 1) (by omega) (by omega)];cases c1:inR i 0 ((s.2.2.length:Int) - 1) with
 | false=>rfl
 | true=>
  cases c2:inR k 1 4 with
  | false=>rfl
  | true=>
   obtain⟨g0,g1⟩:=aZ.1 c1;obtain⟨n,rfl⟩:=cFo g0;have e1:cO (n:Int) (s.2.2.length:Int) (s.2.2.length:Int)=true:=aCv (by omega);have e2:iM (s.1,s.2.1,s.2.2) (n:Int)=some (aGi s (n:Int)):=bEz (s:=s) hl;have e3:iM (s.1,s.2.1,s.2.2) (s.2.2.length:Int)=some (aGi s (s.2.2.length:Int)):=bEz (s:=s) hl;simp only[cE2,zY,aA,e1,zZ,e2,aEc,aGz,cG0,zV,cE0];cases hZ k with
   | false=>
    simp only[cFa,zZ,cFl,aF (b:=40) (n:=([]:cV).length) (m:=(s.2.2.drop n).length) (by decide) (by simp;omega),cE1,zU]
   | true=>
    simp only[cE2,zY,e3,aA,zV];have key:∀(m:Nat) (a:cV),n+m<=s.2.2.length->a.length+m<=s.2.2.length->aD (λs11:Int×Int×Int×Int×cV=>cond (decide (s11.1>=(n:Int))) (Option.bind (idx s.2.2 s11.1) λx12=>cond (aK 40 s11.2.2.2.2.length 1) (some (cEu (wr (s11.1 - (1:Int)),s11.2.1,s11.2.2.1,s11.2.2.2.1,s11.2.2.2.2++[x12]))) none) (some (cEt (s11.2.1,s11.2.2.1,s11.2.2.2.1,s11.2.2.2.2)))) (((n+m:Nat):Int) - 1,k,s.1,aGi s (s.2.2.length:Int),a)=some (k,s.1,aGi s (s.2.2.length:Int),a++((s.2.2.drop n).take m).reverse):=by
     intro m
     induction m with
     | zero=>
      intro a h1 h2;refine bH ?_;simp only[zW (show ¬ (((n+0:Nat):Int) - 1>=(n:Int)) by omega),zY,List.take_zero,List.reverse_nil,cFv]
     | succ m ih=>
      intro a h1 h2;have hx:s.2.2[n+m]? =some (s.2.2[n+m]'(by omega)):=cEx (by omega);have hw:((n+(m+1):Nat):Int) - 1=((n+m:Nat):Int):=by omega
      refine (cY (s':=(((n+m:Nat):Int) - 1,k,s.1,aGi s (s.2.2.length:Int),a++[s.2.2[n+m]'(by omega)])) ?_).trans ?_
      .simp only[hw,zX (show ((n+m:Nat):Int)>=(n:Int) by omega),zZ,aR,hx,aA,aF (b:=40) (n:=a.length) (m:=1) (by decide) (by omega),bJ (n:=((n+m:Nat):Int) - 1) (by omega) (by omega)]
      .rw[ih (a++[s.2.2[n+m]'(by omega)]) (by omega) (by simp;omega)];have hd:(s.2.2.drop n)[m]? =some (s.2.2[n+m]'(by omega)):=by rw[List.getElem?_drop];exact hx
       rw[List.take_add_one,hd,List.reverse_append];simp
    have :=key (s.2.2.length - n) [] (by omega) (by simp);rw[show n+(s.2.2.length - n)=s.2.2.length by omega,cFl,List.take_of_length_le (by rw[cG8];omega)]at this;rw[this];rfl
def cU(d:lSg)(r:Int):lSg:=d.filter λs=>qT s==r
def xC(c:lSg)(a b:Int):lSg:=c.filter λs=>eU s==a&&qT s==b
theorem aJa{α:Type}(p:α->Bool):∀l:List α,(l.flatMap λx=>cond (p x) [x] [])=l.filter p
 | []=>rfl
 | x::l=>by
  rw[cH8,aJa p l,cHm];cases p x<;>rfl
theorem bB8{α:Type}(p:α->Bool)(l:List α):(l.map λx=>(cond (p x) [x] []:List α).length).sum<=l.length:=by
 have :=aM0 (f:=λx=>(cond (p x) [x] []:List α).length) (c:=1) (l:=l) λx _=>by cases p x<;>simp
 omega
theorem aL3{k:den tDb}{r:Int}(hl:k.1.length<=1000000)(hh:∀s∈k.1,s.2.2.length<=1000000):dX k r=some (cU k.1 r):=by
 unfold dX cU pj3;have hf:=bB8 (λs=>qT s==r) k.1;rw[sI k.1 (λs=>cond (qT s==r) [s] []) id [] hl (by simpa using cEv hf hl) (λi x a hi hx hm hd hw hb=>by
  have h1:=hh x hm;have e1:fT (x.1,x.2.1,x.2.2)=some (qT x):=bPj (s:=x) h1;have e2:iG (x.1,x.2.1,x.2.2)=some x:=aJo (x:=x) (by omega);simp only[hd,zZ,hi,aA,e1,e2,hw];cases c:qT x==r
  .simp
  .rw[c]at hb;simp only[zZ,aF (b:=40) (n:=a.length) (m:=1) (by decide) (by simp at hb;omega),aA]) (λa=>by simp)]
 rw[aJa,cFl];rfl
theorem bEu{k:den tDb}{p q:Int}(hl:k.2.length<=1000000)(hh:∀s∈k.2,s.2.2.length<=1000000):lR k p q=some (xC k.2 p q):=by
 unfold lR xC pj3;have hf:=bB8 (λs=>eU s==p&&qT s==q) k.2;rw[sI k.2 (λs=>cond (eU s==p&&qT s==q) [s] []) id [] hl (by simpa using cEv hf hl) (λi x a hi hx hm hd hw hb=>by
  have h1:=hh x hm;have e0:eA (x.1,x.2.1,x.2.2)=some (eU x):=bNa x;have e1:fT (x.1,x.2.1,x.2.2)=some (qT x):=bPj (s:=x) h1;have e2:iG (x.1,x.2.1,x.2.2)=some x:=aJo (x:=x) (by omega);simp only[hd,zZ,hi,aA,e0,e1,e2,hw];cases c:eU x==p
  .simp
  .cases c2:qT x==q
   .simp
   .rw[c,c2]at hb;simp only[zZ,cG0,aF (b:=40) (n:=a.length) (m:=1) (by decide) (by simp at hb;omega),aA]) (λa=>by simp)]
 rw[aJa,cFl];rfl
def fIx(l:cV)(r:Int):Int:=match bW (λk (x:den bU)=>if x.1==r then some (k:Int) else none) 0 l with
 | some v=>v
 | none=> -1
theorem bTu{s:den tSg}{r:Int}(hl:s.2.2.length<=1000000):oZ s r=some (fIx s.2.2 r):=by
 unfold oZ fIx;rw[aX (l:=s.2.2) (λk (x:den bU)=>if x.1==r then some (k:Int) else none) (by omega) (λk x hi hd hw hx hk=>by
  simp only[hd,hi,hw,zZ,aA];cases x.1==r<;>rfl) (by simp)]
 cases bW (λk (x:den bU)=>if x.1==r then some (k:Int) else none) 0 s.2.2<;>rfl
def lIx(l:cV)(r:Int):Nat->Int
 | 0=> -1
 | n+1=>if ((l[n]?).getD h0).1==r then (n:Int) else lIx l r n
def aGh(up down:den tSg):Nat->lPp
 | 0=>[]
 | n+1=>if lIx down.2.2 ((up.2.2[n]?).getD h0).1 down.2.2.length>=0 then [nZ up 1 (n:Int),nZ down 4 (lIx down.2.2 ((up.2.2[n]?).getD h0).1 down.2.2.length)] else aGh up down n
def aDu(up down:den tSg):lPp:=aGh up down up.2.2.length
theorem bNq{s:den tSg}(hl:s.2.2.length<=1000000):eE s=some (s.2.2.map λh=>(h.1:Int)):=by
 unfold eE;rw[kD (λk (a:List Int)=>((k:Int),a)) ((0:Int),[]) [] s.2.2 (λ_ x a=>a++[x.1]) cFd (λ_=>1) 1000000 id rfl (by omega) (by rw[eY];simpa using hl) (λk x a=>by simp) (λk x a hi hx hd hw hk hb=>by
  simp only[hd,hi,hw,zZ,aA,aF (b:=8) (n:=a.length) (m:=1) (by decide) (by omega)]) (λa=>by simp),hH (λh:den bU=>(h.1:Int))]
 rfl
theorem bLm{up down:den tSg}(h1:up.2.2.length<=1000000)(h2:down.2.2.length<=1000000):mB up down=some (aDu up down):=by
 have e0:qC up down=some (aDu up down):=by
  unfold qC aDu ixb pj3 pj4;simp only[bNq h1,bNq h2,aA,cFt];rw[bJ (n:=(up.2.2.length:Int) - 1) (by omega) (by omega)];have key:∀(G:Int->Option (Int⊕(Unit⊕lPp))) (n:Nat),n<=up.2.2.length->
    (∀m:Nat,m<up.2.2.length->G (m:Int)=if lIx down.2.2 ((up.2.2[m]?).getD h0).1 down.2.2.length>=0 then some (.inr (.inr [nZ up 1 (m:Int),nZ down 4 (lIx down.2.2 ((up.2.2[m]?).getD h0).1 down.2.2.length)])) else some (.inl ((m:Int) - 1)))->G (-1)=some (.inr (.inl ()))->
    Option.bind (aD G ((n:Int) - 1)) (λz:Unit⊕lPp=>Sum.elim (λ_=>some []) some z)=some (aGh up down n):=by
   intro G n
   induction n with
   | zero=>intro _ _ hG;rw[bH (r:=cEu ()) (show G (((0:Nat):Int) - 1)=_ from hG)];rfl
   | succ n ih=>
    intro hn hs he;have hw:((n+1:Nat):Int) - 1=(n:Int):=by omega
    rw[hw];have hg:=hs n (by omega);unfold aGh
    by_cases c:lIx down.2.2 ((up.2.2[n]?).getD h0).1 down.2.2.length>=0
    .rw[zT c]at hg ⊢;rw[bH hg];rfl
    .rw[zS c]at hg ⊢;rw[cY hg];exact ih (by omega) hs he
  refine key _ up.2.2.length (cE8 _) (λm hm=> ?_) (by simp);have hx:up.2.2[m]? =some (up.2.2[m]'hm):=cEx hm;have e2:∀i,cI (up.1,up.2.1,up.2.2) 1 i=some (nZ up 1 i):=λi=>aE6 (s:=up) h1
  have e3:∀i,cI (down.1,down.2.1,down.2.2) 4 i=some (nZ down 4 i):=λi=>aE6 (s:=down) h2
  have hxm:(up.2.2.map λh=>(h.1:Int))[m]? =some (up.2.2[m]'hm).1:=by rw[cGy,hx];rfl
  simp only[aP3,cT,zZ,zX (show (m:Int)<(up.2.2.length:Int) by omega),cE0,hxm,hx,cFy,bJ (n:=(m:Int) - 1) (by omega) (by omega),bJ (n:=(down.2.2.length:Int) - 1) (by omega) (by omega),aA,e2,e3];have inner:∀(R:Type) (G:Int->Option (Int⊕(Unit⊕R))) (f:Int->R) (n:Nat),n<=down.2.2.length->
    (∀j:Nat,j<down.2.2.length->G (j:Int)=if ((down.2.2[j]?).getD h0).1==(up.2.2[m]'hm).1 then some (.inr (.inr (f (j:Int)))) else some (.inl ((j:Int) - 1)))->G (-1)=some (.inr (.inl ()))->
    aD G ((n:Int) - 1)=some (if lIx down.2.2 (up.2.2[m]'hm).1 n>=0 then .inr (f (lIx down.2.2 (up.2.2[m]'hm).1 n)) else .inl ()):=by
   intro R G f n
   induction n with
   | zero=>intro _ _ hG;rw[bH (r:=cEu ()) (show G (((0:Nat):Int) - 1)=_ from hG)];rfl
   | succ n ih=>
    intro hn hs he;have hw:((n+1:Nat):Int) - 1=(n:Int):=by omega
    rw[hw];have hg:=hs n (by omega);unfold lIx;cases c:((down.2.2[n]?).getD h0).1==(up.2.2[m]'hm).1 with
    | true=>
     rw[c,zT rfl]at hg;rw[bH hg,zT rfl,zT (by omega)]
    | false=>
     rw[c,zS (by decide)]at hg;rw[cY hg];simp only[cE1,zU];exact ih (by omega) hs he
  rw[inner _ _ (λj=>(cEt (cEt [nZ up 1 (m:Int),nZ down 4 j]):Int⊕(Unit⊕lPp))) down.2.2.length (cE8 _) (λj hj=> ?_) (by simp)]
  .by_cases c:lIx down.2.2 (up.2.2[m]'hm).1 down.2.2.length>=0
   .rw[zT c,zT c];rfl
   .rw[zS c,zS c];rfl
  .have hy:down.2.2[j]? =some (down.2.2[j]'hj):=cEx hj;have hym:(down.2.2.map λh=>(h.1:Int))[j]? =some (down.2.2[j]'hj).1:=by rw[cGy,hy];rfl
   simp only[aP3,cT,zZ,zX (show (j:Int)<(down.2.2.length:Int) by omega),cE0,hym,hy,cFy,aA,bJ (n:=(j:Int) - 1) (by omega) (by omega)];rw[show ((up.2.2[m]'hm).1==(down.2.2[j]'hj).1)=((down.2.2[j]'hj).1==(up.2.2[m]'hm).1) from cFm.2 ⟨λh=>by rw[beq_iff_eq]at h ⊢;exact h.symm,λh=>by rw[beq_iff_eq]at h ⊢;exact h.symm⟩];cases (down.2.2[j]'hj).1==(up.2.2[m]'hm).1<;>rfl
 unfold mB pj3;rw[show ((up.1,up.2.1,up.2.2):den tSg)=up from rfl,show ((down.1,down.2.1,down.2.2):den tSg)=down from rfl,e0];rfl
def kU(s:den tSg)(k:Int)(p:lPp):lPp:=cond (decide ((s.2.2.length:Int)>0)) (p++[nZ s k 0]) p
theorem bAe(s:den tSg)(k:Int)(p:lPp):(kU s k p).length<=p.length+1:=by
 unfold kU;cases decide ((s.2.2.length:Int)>0)
 .simp
 .simp
def vY(up core:den tSg)(b:Bool)(down:den tSg):lPp:=kU down 4 (kU core (cond b 3 2) (kU up 1 []))
theorem bDx{up core down:den tSg}{b:Bool}(h1:up.2.2.length<=1000000)(h2:core.2.2.length<=1000000)(h3:down.2.2.length<=1000000):nR up core b down=some (vY up core b down):=by
 have l1:=bAe up 1 [];have l2:=bAe core (cond b 3 2) (kU up 1 []);simp only[cGl]at l1;have e1:cI (up.1,up.2.1,up.2.2) 1 0=some (nZ up 1 0):=aE6 (s:=up) h1;have e2:cI (core.1,core.2.1,core.2.2) (cond b 3 2) 0=some (nZ core (cond b 3 2) 0):=aE6 (s:=core) h2;have e3:cI (down.1,down.2.1,down.2.2) 4 0=some (nZ down 4 0):=aE6 (s:=down) h3;have eb:(cond b (some (3:Int)) (some (2:Int)))=some (cond b 3 2):=by cases b<;>rfl
 have f1:(cond (decide ((up.2.2.length:Int)>(0:Int))) (some [nZ up 1 0]) (some []))=some (kU up 1 []):=by unfold kU;cases decide ((up.2.2.length:Int)>0)<;>rfl
 have f2:(cond (decide ((core.2.2.length:Int)>(0:Int))) (some (kU up 1 []++[nZ core (cond b 3 2) 0])) (some (kU up 1 [])))=some (kU core (cond b 3 2) (kU up 1 [])):=by
  rw[show kU core (cond b 3 2) (kU up 1 [])=cond (decide ((core.2.2.length:Int)>0)) (kU up 1 []++[nZ core (cond b 3 2) 0]) (kU up 1 []) from rfl];cases decide ((core.2.2.length:Int)>0)<;>rfl
 have f3:(cond (decide ((down.2.2.length:Int)>(0:Int))) (some (kU core (cond b 3 2) (kU up 1 [])++[nZ down 4 0])) (some (kU core (cond b 3 2) (kU up 1 []))))=some (kU down 4 (kU core (cond b 3 2) (kU up 1 []))):=by
  rw[show kU down 4 (kU core (cond b 3 2) (kU up 1 []))=cond (decide ((down.2.2.length:Int)>0)) (kU core (cond b 3 2) (kU up 1 [])++[nZ down 4 0]) (kU core (cond b 3 2) (kU up 1 [])) from rfl];cases decide ((down.2.2.length:Int)>0)<;>rfl
 unfold nR vY pj3 pj4;rw[eb];simp only[e1,e2,e3,aA,aF (b:=48) (n:=0) (m:=1) (by decide) (by omega),zZ,f1,aF (b:=48) (n:=(kU up 1 []).length) (m:=1) (by decide) (by omega),f2,aF (b:=48) (n:=(kU core (cond b 3 2) (kU up 1 [])).length) (m:=1) (by decide) (by omega),f3]
def dB(c:lSg)(up:den tSg)(a b:Int)(down:den tSg):List lPp:=
 (xC c a b).flatMap (λs=>[vY up s false down])++(xC c b a).flatMap (λs=>[vY up s true down])
theorem aQu(c:lSg)(a b:Int):(xC c a b).length<=c.length:=cHn _ _
theorem bN4(c:lSg)(a:Int):(cU c a).length<=c.length:=cHn _ _
theorem aQf{α β:Type}(f:α->β)(l:List α):(l.flatMap λs=>[f s]).length<=l.length:=by
 have :=aQc (g:=λs=>[f s]) (c:=1) (l:=l) λx _=>by simp
 omega
theorem aBl{c:lSg}(hc:c.length<=30)(up:den tSg)(a b:Int)(down:den tSg):(dB c up a b down).length<=60:=by
 unfold dB;rw[cFj];have h1:=aQf (λs=>vY up s false down) (xC c a b);have h2:=aQf (λs=>vY up s true down) (xC c b a);have h3:=aQu c a b;have h4:=aQu c b a;omega
structure DbS (k:den tDb):Prop where
 down:k.1.length<=30
 core:k.2.length<=30
 hd1:∀s∈k.1,s.2.2.length<=5
 hc1:∀s∈k.2,s.2.2.length<=5
theorem DbS.hd{k:den tDb}(h:DbS k):∀s∈k.1,s.2.2.length<=1000000:=λs hs=>cEv (h.hd1 s hs) (by decide)
theorem DbS.hc{k:den tDb}(h:DbS k):∀s∈k.2,s.2.2.length<=1000000:=λs hs=>cEv (h.hc1 s hs) (by decide)
theorem DbD.s{n:Nat}{d c:lSg}(h:DbD n d c)(hn:n<=30):DbS (d,c):=⟨cEv h.down hn,cEv h.core hn,h.hd,h.hc⟩
theorem DbS.downs{k:den tDb}(h:DbS k)(r:Int):(cU k.1 r).length<=30/\ ∀s∈cU k.1 r,s.2.2.length<=1000000:=⟨cEv (bN4 _ _) h.down,λs hs=>h.hd s (cFc.1 hs).1⟩
theorem DbS.betw{k:den tDb}(h:DbS k)(a b:Int):(xC k.2 a b).length<=30/\ ∀s∈xC k.2 a b,s.2.2.length<=1000000:=⟨cEv (aQu _ _ _) h.core,λs hs=>h.hc s (cFc.1 hs).1⟩
theorem bFi{k:den tDb}(h:DbS k){up down:den tSg}(h1:up.2.2.length<=1000000)(h3:down.2.2.length<=1000000)(a b:Int):gH k up a b down=some (dB k.2 up a b down):=by
 have e1:lR (k.1,k.2) a b=some (xC k.2 a b):=bEu (k:=k) (cEv h.core (by decide)) h.hc;have e2:lR (k.1,k.2) b a=some (xC k.2 b a):=bEu (k:=k) (cEv h.core (by decide)) h.hc;obtain⟨l1,m1⟩:=h.betw a b;obtain⟨l2,m2⟩:=h.betw b a;have n1:=aQf (λs=>vY up s false down) (xC k.2 a b);unfold gH dB ixb pj2 pj3;rw[e1,aA];rw[sI (xC k.2 a b) (λs=>[vY up s false down]) (λx=>x) [] (by omega) (by have :=aM0 (f:=λs=>([vY up s false down]:List lPp).length) (c:=1) (l:=xC k.2 a b) (λ_ _=>by simp);simp only[cGl];omega) (λi x y hi hx hm hd hw hb=>by
  have e:nR (up.1,up.2.1,up.2.2) (x.1,x.2.1,x.2.2) false (down.1,down.2.1,down.2.2)=some (vY up x false down):=bDx (up:=up) (core:=x) (down:=down) h1 (m1 x hm) h3;simp only[hd,cT,zZ,cE0,hx,aA,e,hw,aF (b:=24) (n:=y.length) (m:=1) (by decide) (by simp at hb;omega)]) (λy=>by simp)]
 rw[aA,e2,aA,cFl];rw[sI (xC k.2 b a) (λs=>[vY up s true down]) (λx=>x) ((xC k.2 a b).flatMap λs=>[vY up s false down]) (by omega) (by have :=aM0 (f:=λs=>([vY up s true down]:List lPp).length) (c:=1) (l:=xC k.2 b a) (λ_ _=>by simp);omega) (λi x y hi hx hm hd hw hb=>by
  have e:nR (up.1,up.2.1,up.2.2) (x.1,x.2.1,x.2.2) true (down.1,down.2.1,down.2.2)=some (vY up x true down):=bDx (up:=up) (core:=x) (down:=down) h1 (m2 x hm) h3;simp only[hd,cT,zZ,cE0,hx,aA,e,hw,aF (b:=24) (n:=y.length) (m:=1) (by decide) (by simp at hb;omega)]) (λy=>by simp)]
 rfl
def jA:den tSg:=(0,0,[])
def tQ(kind r:Int)(s:den tSg):List lPp:=cond (decide (fIx s.2.2 r>=0)) [[nZ s kind (fIx s.2.2 r)]] []
def yB(u d:den tSg):List lPp:=cond (decide (((aDu u d).length:Int)>0)) [aDu u d] []
def oD(t:den tTo)(r:Int):Bool:=((t.1[r.toNat]?).getD (0,false,0)).2.1
theorem aKp(kind r:Int)(s:den tSg):(tQ kind r s).length<=1:=by unfold tQ;cases decide (fIx s.2.2 r>=0)<;>simp
theorem bM7(u d:den tSg):(yB u d).length<=1:=by unfold yB;cases decide (((aDu u d).length:Int)>0)<;>simp
def rH(t:den tTo)(k:den tDb)(a b:Int):List lPp:=
 cond (a==b||(!dF t a|| !dF t b)) [] (((((((cU k.1 a).flatMap (tQ 1 b)++(cU k.1 b).flatMap (tQ 4 a))++dB k.2 jA a b jA)
  ++(cU k.1 a).flatMap λu=>(cU k.1 b).flatMap λd=>yB u d)
  ++cond (oD t a) ((cU k.1 b).flatMap λd=>dB k.2 jA a (eU d) d) [])
  ++cond (oD t b) ((cU k.1 a).flatMap λu=>dB k.2 u (eU u) b jA) [])
  ++(cU k.1 a).flatMap λu=>(cU k.1 b).flatMap λd=>dB k.2 u (eU u) (eU d) d)
theorem aD7{α β:Type}{g:α->List β}{c n:Nat}{l:List α}(hl:l.length<=n)(h:∀x∈l,(g x).length<=c):(l.map λx=>(g x).length).sum<=n * c:=
 cEv (aM0 h) (cF7 _ hl)
theorem aAq{α β:Type}{g:α->List β}{c n:Nat}{l:List α}(hl:l.length<=n)(h:∀x∈l,(g x).length<=c):(l.flatMap g).length<=n * c:=
 cEv (aQc h) (cF7 _ hl)
theorem aVu{downs:lSg}(h:downs.length<=30)(u:den tSg):(downs.flatMap λd=>yB u d).length<=30:=
 cEv (aAq (c:=1) h λd _=>bM7 u d) (by decide)
theorem aZr{c downs:lSg}(hc:c.length<=30)(h:downs.length<=30)(u:den tSg):(downs.flatMap λd=>dB c u (eU u) (eU d) d).length<=1800:=
 cEv (aAq (c:=60) h λd _=>aBl hc _ _ _ _) (by decide)
theorem aKq{k:den tDb}(h:DbS k)(a b:Int):(((cU k.1 a).flatMap (tQ 1 b)).length<=30)/\(((cU k.1 b).flatMap (tQ 4 a)).length<=30)/\((dB k.2 jA a b jA).length<=60)/\(((cU k.1 a).flatMap λu=>(cU k.1 b).flatMap λd=>yB u d).length<=900)/\(((cU k.1 b).flatMap λd=>dB k.2 jA a (eU d) d).length<=1800)/\(((cU k.1 a).flatMap λu=>dB k.2 u (eU u) b jA).length<=1800)/\(((cU k.1 a).map λs=>(tQ 1 b s).length).sum<=30)/\(((cU k.1 b).map λs=>(tQ 4 a s).length).sum<=30)/\(((cU k.1 a).map λu=>((cU k.1 b).flatMap λd=>yB u d).length).sum<=900)/\(((cU k.1 b).map λd=>(dB k.2 jA a (eU d) d).length).sum<=1800)/\(((cU k.1 a).map λu=>(dB k.2 u (eU u) b jA).length).sum<=1800)/\(((cU k.1 a).map λu=>((cU k.1 b).flatMap λd=>dB k.2 u (eU u) (eU d) d).length).sum<=54000):=by
 obtain⟨lu,mu⟩:=h.downs a;obtain⟨ld,md⟩:=h.downs b;exact⟨cEv (aAq (c:=1) lu λs _=>aKp 1 b s) (by decide),cEv (aAq (c:=1) ld λs _=>aKp 4 a s) (by decide),aBl h.core jA a b jA,cEv (aAq (c:=30) lu λu _=>aVu ld u) (by decide),cEv (aAq (c:=60) ld λd _=>aBl h.core _ _ _ _) (by decide),cEv (aAq (c:=60) lu λd _=>aBl h.core _ _ _ _) (by decide),cEv (aD7 (c:=1) lu λs _=>aKp 1 b s) (by decide),cEv (aD7 (c:=1) ld λs _=>aKp 4 a s) (by decide),cEv (aD7 (c:=30) lu λu _=>aVu ld u) (by decide),cEv (aD7 (c:=60) ld λd _=>aBl h.core _ _ _ _) (by decide),cEv (aD7 (c:=60) lu λd _=>aBl h.core _ _ _ _) (by decide),cEv (aD7 (c:=1800) lu λu _=>aZr h.core ld u) (by decide)⟩
theorem bXe{k:den tDb}(h:DbS k)(a b:Int):tZ k a b=some ((((cU k.1 a).flatMap (tQ 1 b)++(cU k.1 b).flatMap (tQ 4 a))++dB k.2 jA a b jA)):=by
 have e1:dX (k.1,k.2) a=some (cU k.1 a):=aL3 (k:=k) (cEv h.down (by decide)) h.hd;have e2:dX (k.1,k.2) b=some (cU k.1 b):=aL3 (k:=k) (cEv h.down (by decide)) h.hd;obtain⟨lu,mu⟩:=h.downs a;obtain⟨ld,md⟩:=h.downs b;have hz1:gH (k.1,k.2) (0,0,[]) a b (0,0,[])=some (dB k.2 jA a b jA):=bFi (k:=k) h (up:=jA) (down:=jA) (by decide) (by decide) a b;obtain⟨n1,n2,n3,n4,n5,n6,s1,s2,s4,s5,s6,s7⟩:=aKq h a b;unfold tZ ixb pj2 pj3 pj4;rw[e1,aA];rw[sI (cU k.1 a) (tQ 1 b) (λx=>x) [] (by omega) (by simp only[cGl];omega) (λi x y hi hx hm hd hw hb=>by
  have e:oZ (x.1,x.2.1,x.2.2) b=some (fIx x.2.2 b):=bTu (s:=x) (mu x hm);have e':cI (x.1,x.2.1,x.2.2) 1 (fIx x.2.2 b)=some (nZ x 1 (fIx x.2.2 b)):=aE6 (s:=x) (mu x hm);have hb:y.length<=1000000:=by omega
  unfold tQ;simp only[hd,cT,zZ,cE0,hx,aA,e,e',hw,aF (b:=24) (n:=y.length) (m:=1) (by decide) (by omega)];cases decide (fIx x.2.2 b>=0)
  .simp
  .rfl) (λy=>by simp)]
 rw[aA,cFl,e2,aA];rw[sI (cU k.1 b) (tQ 4 a) (λx=>x) ((cU k.1 a).flatMap (tQ 1 b)) (by omega) (by omega) (λi x y hi hx hm hd hw hb=>by
  have e:oZ (x.1,x.2.1,x.2.2) a=some (fIx x.2.2 a):=bTu (s:=x) (md x hm);have e':cI (x.1,x.2.1,x.2.2) 4 (fIx x.2.2 a)=some (nZ x 4 (fIx x.2.2 a)):=aE6 (s:=x) (md x hm);have hb:y.length<=1000000:=by omega
  unfold tQ;simp only[hd,cT,zZ,cE0,hx,aA,e,e',hw,aF (b:=24) (n:=y.length) (m:=1) (by decide) (by omega)];cases decide (fIx x.2.2 a>=0)
  .simp
  .rfl) (λy=>by simp)]
 rw[aA,hz1,aA,aF (b:=24) (n:=((cU k.1 a).flatMap (tQ 1 b)++(cU k.1 b).flatMap (tQ 4 a)).length) (m:=(dB k.2 jA a b jA).length) (by decide) (by rw[cFj];omega)];rfl
theorem aXf{α β:Type}(l:List α)(g:α->List β)(c:Bool)(a0:List β){step:Int×List β->Option ((Int×List β)⊕List β)}(hl:l.length<=1000000)(hN:a0.length+(l.map λx=>(g x).length).sum<=1000000)
  (hs:c=true-> ∀(k:Nat) (x:α) (a:List β),idx l (k:Int)=some x->l[k]? =some x->x∈l->decide ((k:Int)<(l.length:Int))=true->wr ((k:Int)+1)=((k+1:Nat):Int)->a.length+(g x).length<=1000000->step ((k:Int),a)=some (.inl (((k+1:Nat):Int),a++g x)))
  (he:∀a,step ((l.length:Int),a)=some (.inr a)) (hc:c=false->step ((0:Int),a0)=some (.inr a0)):aD step ((0:Int),a0)=some (a0++cond c (l.flatMap g) []):=by
 cases c with
 | true=>exact sI l g (λx=>x) a0 hl hN (hs rfl) he
 | false=>rw[zY,cFv];exact bH (hc rfl)
theorem bZ9{t:den tTo}{k:den tDb}(ht:t.1.length<=1000000)(h:DbS k)(a b:Int):mW t k a b=some (rH t k a b):=by
 have hA:=aFi (t:=t) (r:=a) (by omega);have hB:=aFi (t:=t) (r:=b) (by omega);unfold mW rH ixb pj2 pj3;rw[show ((t.1,t.2):den tTo)=t from rfl,hA,hB];cases c0:a==b with
 | true=>rfl
 | false=>
 cases c1:dF t a with
 | false=>rfl
 | true=>
 cases c2:dF t b with
 | false=>rfl
 | true=>
 have e1:dX (k.1,k.2) a=some (cU k.1 a):=aL3 (k:=k) (cEv h.down (by decide)) h.hd;have e2:dX (k.1,k.2) b=some (cU k.1 b):=aL3 (k:=k) (cEv h.down (by decide)) h.hd;obtain⟨lu,mu⟩:=h.downs a;obtain⟨ld,md⟩:=h.downs b;obtain⟨xa,hxa,ea⟩:=aGd c1;obtain⟨xb,hxb,eb⟩:=aGd c2;have ca:oD t a=xa.2.1:=by unfold oD;rw[hxa];rfl
 have cb:oD t b=xb.2.1:=by unfold oD;rw[hxb];rfl
 have hal:tZ (k.1,k.2) a b=some _:=bXe (k:=k) h a b;have hcz:∀(u:den tSg) (x y:Int) (d:den tSg),u.2.2.length<=1000000->d.2.2.length<=1000000->gH (k.1,k.2) (u.1,u.2.1,u.2.2) x y (d.1,d.2.1,d.2.2)=some (dB k.2 u x y d):=λu x y d h1 h2=>bFi (k:=k) h (up:=u) (down:=d) h1 h2 x y
 have hz1:∀(x y:Int),gH (k.1,k.2) (0,0,[]) x y (0,0,[])=some (dB k.2 jA x y jA):=λx y=>hcz jA x y jA (by decide) (by decide)
 have hz2:∀(x y:Int) (d:den tSg),d.2.2.length<=1000000->gH (k.1,k.2) (0,0,[]) x y (d.1,d.2.1,d.2.2)=some (dB k.2 jA x y d):=λx y d hd=>hcz jA x y d (by decide) hd
 have hz3:∀(u:den tSg) (x y:Int),u.2.2.length<=1000000->gH (k.1,k.2) (u.1,u.2.1,u.2.2) x y (0,0,[])=some (dB k.2 u x y jA):=λu x y hu=>hcz u x y jA hu (by decide)
 have hf:∀s:den tSg,eA (s.1,s.2.1,s.2.2)=some (eU s):=λs=>bNa s
 obtain⟨n1,n2,n3,n4,n5,n6,s1,s2,s4,s5,s6,s7⟩:=aKq h a b;simp only[zY,zZ,aA,cE2,cGn,hal,e1,e2,aW,bN,bF,bE,bG];generalize hU:cU k.1 a=ups at *;generalize hD:cU k.1 b=downs at *;have q3:(ups.flatMap (tQ 1 b)++downs.flatMap (tQ 4 a)).length<=60:=by rw[cFj];omega
 generalize ups.flatMap (tQ 1 b)++downs.flatMap (tQ 4 a)=l3 at *;have q4:(l3++dB k.2 jA a b jA).length<=120:=by rw[cFj];omega
 generalize l3++dB k.2 jA a b jA=l4 at *;rw[sI ups (λu=>downs.flatMap λd=>yB u d) (λx=>x) l4 (by omega) (by omega) (λi u y hi hx hm hd hw hb=>by
  have hy:y.length<=1000000:=by omega
  have hb0:y.length+(downs.flatMap λd=>yB u d).length<=1000000:=hb;have hsum:(downs.map λd=>(yB u d).length).sum=(downs.flatMap λd=>yB u d).length:=by rw[List.length_flatMap]
  simp only[hd,cT,zZ,cE0,hx,aA,hw];rw[sI downs (λd=>yB u d) (λx=>x) y (by omega) (by rw[hsum];exact hb0) (λj d z hj hx' hm' hd' hw' hb'=>by
   have e:mB (u.1,u.2.1,u.2.2) (d.1,d.2.1,d.2.2)=some (aDu u d):=bLm (up:=u) (down:=d) (mu u hm) (md d hm');have hb:z.length<=1000000:=by omega
   unfold yB;simp only[hd',cT,zZ,cE0,hx',aA,e,hw',aF (b:=24) (n:=z.length) (m:=1) (by decide) (by omega)];cases decide (((aDu u d).length:Int)>0)
   .simp
   .rfl) (λy=>by simp)]
  rfl) (λy=>by simp)]
 rw[aA];have q5:(l4++ups.flatMap λu=>downs.flatMap λd=>yB u d).length<=1020:=by rw[cFj];omega
 generalize (l4++ups.flatMap λu=>downs.flatMap λd=>yB u d)=l5 at *;rw[aXf downs (λd=>dB k.2 jA a (eU d) d) (oD t a) l5 (by omega) (by omega) (λhc i d y hi hx hm hd hw hb=>by
  rw[ca]at hc;simp only[hd,cT,zZ,ea,hc,cE0,hx,aA,hf,hz2 _ _ d (md d hm),hw];rw[aF (b:=24) (n:=y.length) (m:=(dB k.2 jA a (eU d) d).length) (by decide) (by omega)];rfl) (λy=>by simp) (λhc=>by
  rw[ca]at hc;simp only[ea,aA,hc];cases decide ((0:Int)<(downs.length:Int))<;>rfl),aA]
 have q6:(l5++cond (oD t a) (downs.flatMap λd=>dB k.2 jA a (eU d) d) []).length<=2820:=by
  rw[cFj];cases oD t a
  .simp only[zY,cGl];omega
  .simp only[zZ];omega
 generalize (l5++cond (oD t a) (downs.flatMap λd=>dB k.2 jA a (eU d) d) [])=l6 at *;rw[aXf ups (λu=>dB k.2 u (eU u) b jA) (oD t b) l6 (by omega) (by omega) (λhc i d y hi hx hm hd hw hb=>by
  rw[cb]at hc;simp only[hd,cT,zZ,eb,hc,cE0,hx,aA,hf,hz3 d _ _ (mu d hm),hw];rw[aF (b:=24) (n:=y.length) (m:=(dB k.2 d (eU d) b jA).length) (by decide) (by omega)];rfl) (λy=>by simp) (λhc=>by
  rw[cb]at hc;simp only[eb,aA,hc];cases decide ((0:Int)<(ups.length:Int))<;>rfl),aA]
 have q7:(l6++cond (oD t b) (ups.flatMap λu=>dB k.2 u (eU u) b jA) []).length<=4620:=by
  rw[cFj];cases oD t b
  .simp only[zY,cGl];omega
  .simp only[zZ];omega
 generalize (l6++cond (oD t b) (ups.flatMap λu=>dB k.2 u (eU u) b jA) [])=l7 at *;rw[sI ups (λu=>downs.flatMap λd=>dB k.2 u (eU u) (eU d) d) (λx=>x) l7 (by omega) (by omega) (λi u y hi hx hm hd hw hb=>by
  have hb0:y.length+(downs.flatMap λd=>dB k.2 u (eU u) (eU d) d).length<=1000000:=hb;have hsum:(downs.map λd=>(dB k.2 u (eU u) (eU d) d).length).sum=(downs.flatMap λd=>dB k.2 u (eU u) (eU d) d).length:=by rw[List.length_flatMap]
  simp only[hd,cT,zZ,cE0,hx,aA,hw];rw[sI downs (λd=>dB k.2 u (eU u) (eU d) d) (λx=>x) y (by omega) (by rw[hsum];exact hb0) (λj d z hj hx' hm' hd' hw' hb'=>by
   simp only[hd',cT,zZ,cE0,hx',aA,hf,hcz u _ _ d (mu u hm) (md d hm'),hw'];rw[aF (b:=24) (n:=z.length) (m:=(dB k.2 u (eU u) (eU d) d).length) (by decide) (by omega)];rfl) (λy=>by simp)]
  rfl) (λy=>by simp)]
 rfl
def gO(p:den tPt):Prop:=cFd (α:=den tPp) p<=3/\ ∀x:den tPp,x∈(show lPp from p)->x.2.2.2.length<=5
def aS9(n:Nat)(l:lPt):Prop:=l.length<=n/\ ∀p∈l,gO p
theorem aQ2:gO []:=⟨by simp,λx hx=>(cFi hx).elim⟩
theorem aAu{t:Ty}{B:Nat}:∀{l:List (den t)},(∀x∈l,tot t x<=B)->tot (.sl t) l<=(B+1) * l.length
 | [],_=>by simp[tot]
 | x::l,h=>by
  have ih:=aAu (l:=l) λy hy=>h y (cE7 _ hy)
  have hx:=h x (by simp);rw[kT,cFw,Nat.mul_add,Nat.mul_one];omega
theorem bCl{q:den tPp}(h:q.2.2.2.length<=5):tot tPp q<=5:=by
 show tot ti q.1+(tot ti q.2.1+(tot ti q.2.2.1+tot (.sl bU) q.2.2.2))<=5;rw[dQ (t:=bU) rfl];show 0+(0+(0+q.2.2.2.length))<=5;omega
theorem aKk{p:den tPt}(h:gO p):tot tPt p<=18:=by
 have h1:=aAu (t:=tPp) (B:=5) (l:=p) λx hx=>bCl (h.2 x hx)
 have h2:=h.1;show tot (.sl tPp) p<=18;have :(5+1) * cFd (α:=den tPp) p<=18:=by omega
 exact cEv h1 this
theorem aWn{n:Nat}{l:lPt}(h:aS9 n l):tot (.sl tPt) l<=19 * n:=by
 have h1:=aAu (t:=tPt) (B:=18) (l:=l) λx hx=>aKk (h.2 x hx)
 have h2:=h.1;have :(18+1) * l.length<=19 * n:=by omega
 exact cEv h1 this
theorem aG9{s:den tSg}(h:s.2.2.length<=5)(k i:Int):∃q:den tPp,cI s k i=some q/\q.2.2.2.length<=5:=⟨_,aE6 (by omega),cEv (aG3 s k i) h⟩
theorem aTr{up down:den tSg}(h1:up.2.2.length<=5)(h2:down.2.2.length<=5):∀n:Nat,gO (aGh up down n)
 | 0=>aQ2
 | n+1=>by
  unfold aGh;split
  .refine⟨by simp,λx hx=> ?_⟩;simp only[cEy,cFi,or_false]at hx;rcases hx with rfl | rfl
   .exact cEv (aG3 _ _ _) h1
   .exact cEv (aG3 _ _ _) h2
  .exact aTr h1 h2 n
theorem bSq{up down:den tSg}(h1:up.2.2.length<=5)(h2:down.2.2.length<=5):∃p,mB up down=some p/\gO p:=⟨_,bLm (by omega) (by omega),aTr h1 h2 _⟩
theorem bBf{p:lPp}(h:gO p):tot tPt p<=1073741824:=cEv (aKk h) (by decide)
theorem bOa{x:den tPp}(h:x.2.2.2.length<=5):gO [x]:=⟨by simp,λy hy=>by rw[cE3.1 hy];exact h⟩
theorem aY3{s:den tSg}(hs:s.2.2.length<=5)(k:Int){p:lPp}{n:Nat}(hp:p.length<=n/\ ∀x∈p,x.2.2.2.length<=5):(kU s k p).length<=n+1/\ ∀x∈kU s k p,x.2.2.2.length<=5:=by
 unfold kU;cases decide ((s.2.2.length:Int)>0) with
 | false=>exact⟨cEv hp.1 (Nat.le_succ _),hp.2⟩
 | true=>
  refine⟨by simp;exact hp.1,λx hx=> ?_⟩;rcases cE4.1 (show x∈p++[nZ s k 0] from hx) with hx | hx
  .exact hp.2 x hx
  .rw[cE3.1 hx];exact cEv (aG3 s k 0) hs
theorem bFa{up core down:den tSg}(h1:up.2.2.length<=5)(h2:core.2.2.length<=5)(h3:down.2.2.length<=5)(b:Bool):gO (vY up core b down):=
 aY3 h3 4 (n:=2) (aY3 h2 (cond b 3 2) (n:=1) (aY3 h1 1 (n:=0) ⟨by simp,λx hx=>(cFi hx).elim⟩))
theorem aL5{k:den tDb}(h:DbS k){up down:den tSg}(h1:up.2.2.length<=5)(h3:down.2.2.length<=5)(a b:Int):∀p∈dB k.2 up a b down,gO p:=by
 intro p hp;unfold dB at hp;rcases cE4.1 hp with hp | hp
 .obtain⟨s,hs,hp⟩:=cF4.1 hp;rw[cE3.1 hp];exact bFa h1 (h.hc1 s (cFc.1 hs).1) h3 false
 .obtain⟨s,hs,hp⟩:=cF4.1 hp;rw[cE3.1 hp];exact bFa h1 (h.hc1 s (cFc.1 hs).1) h3 true
theorem bD0{t:den tTo}{k:den tDb}(h:DbS k)(a b:Int):∀p∈rH t k a b,gO p:=by
 intro p hp;have mu:∀s∈cU k.1 a,s.2.2.length<=5:=λs hs=>h.hd1 s (cFc.1 hs).1
 have md:∀s∈cU k.1 b,s.2.2.length<=5:=λs hs=>h.hd1 s (cFc.1 hs).1
 have one:∀(kind r:Int) (s:den tSg),s.2.2.length<=5-> ∀p∈tQ kind r s,gO p:=λkind r s hs p hp=>by
  unfold tQ at hp;cases hc:decide (fIx s.2.2 r>=0) with
  | false=>rw[hc]at hp;cases hp
  | true=>
   rw[hc]at hp;rw[cE3.1 hp];exact bOa (cEv (aG3 _ _ _) hs)
 unfold rH at hp;cases hc:(a==b||(!dF t a|| !dF t b)) with
 | true=>rw[hc]at hp;cases hp
 | false=>
 rw[hc]at hp;simp only[zY,cE4]at hp;rcases hp with (((((hp | hp) | hp) | hp) | hp) | hp) | hp
 .obtain⟨s,hs,hp⟩:=cF4.1 hp;exact one _ _ s (mu s hs) p hp
 .obtain⟨s,hs,hp⟩:=cF4.1 hp;exact one _ _ s (md s hs) p hp
 .exact aL5 h (by decide) (by decide) _ _ p hp
 .obtain⟨u,hu,hp⟩:=cF4.1 hp;obtain⟨d,hd,hp⟩:=cF4.1 hp;unfold yB at hp;cases hq:decide (((aDu u d).length:Int)>0) with
  | false=>rw[hq]at hp;cases hp
  | true=>
   rw[hq]at hp;rw[cE3.1 hp];exact aTr (mu u hu) (md d hd) _
 .cases hq:oD t a with
  | false=>rw[hq]at hp;cases hp
  | true=>
   rw[hq]at hp;obtain⟨d,hd,hp⟩:=cF4.1 hp;exact aL5 h (by decide) (md d hd) _ _ p hp
 .cases hq:oD t b with
  | false=>rw[hq]at hp;cases hp
  | true=>
   rw[hq]at hp;obtain⟨u,hu,hp⟩:=cF4.1 hp;exact aL5 h (mu u hu) (by decide) _ _ p hp
 .obtain⟨u,hu,hp⟩:=cF4.1 hp;obtain⟨d,hd,hp⟩:=cF4.1 hp;exact aL5 h (mu u hu) (md d hd) _ _ p hp
theorem bOn{t:den tTo}{k:den tDb}(h:DbS k)(a b:Int):(rH t k a b).length<=100000:=by
 obtain⟨n1,n2,n3,n4,n5,n6,s1,s2,s4,s5,s6,s7⟩:=aKq h a b;have n7:((cU k.1 a).flatMap λu=>(cU k.1 b).flatMap λd=>dB k.2 u (eU u) (eU d) d).length<=54000:=by rw[List.length_flatMap];exact s7
 unfold rH;cases (a==b||(!dF t a|| !dF t b)) with
 | true=>exact cFe _
 | false=>
 cases oD t a<;>cases oD t b<;>simp only[zY,zZ,cFj,cGl]<;>omega
def aN9(q:den tPp)(i:Nat):Int:=aDn q (if hZ q.1 then i+1 else i)
def aLj(t:den tTo)(q:den tPp):Bool:=(q.2.2.2.zipIdx 0).all λz=>aAn t q.2.1 (aN9 q z.2) z.1
def bCc(t:den tTo)(p:lPp):Bool:=p.all (aLj t)
theorem bXu{t:den tTo}{q:den tPp}(ht:t.1.length<=1000000)(h:q.2.2.2.length<=1000000):pE t q=some (aLj t q):=by
 unfold pE aLj pj2 pj4 pj5;rw[aX (l:=q.2.2.2) (λk (x:den bU)=>if aAn t q.2.1 (aN9 q k) x then none else some false) (by omega) (λk x hi hd hw hx hk=>by
  have e1:iS (q.1,q.2.1,q.2.2.1,q.2.2.2) (k:Int)=some (aDn q k):=aTp (p:=q) (by omega) (by omega);have e2:iS (q.1,q.2.1,q.2.2.1,q.2.2.2) ((k+1:Nat):Int)=some (aDn q (k+1)):=aTp (p:=q) (by omega) (by omega);have e3:∀b,gT (t.1,t.2) q.2.1 b (x.1,x.2.1,x.2.2.1,x.2.2.2.1,x.2.2.2.2)=some (aAn t q.2.1 b x):=λb=>aYu (t:=t) (h:=x) (by omega)
  have eb:yP (q.1,q.2.1,q.2.2.1,q.2.2.2) (k:Int)=some (aN9 q k):=by
   unfold yP aN9 pj4;simp only[aGz,aA,hw,e1,e2];cases hZ q.1<;>rfl
  simp only[hd,hi,hw,zZ,aA,eb,e3];cases aAn t q.2.1 (aN9 q k) x<;>rfl) (by simp),aDh]
 cases (q.2.2.2.zipIdx 0).all λz=>aAn t q.2.1 (aN9 q z.2) z.1<;>rfl
theorem cBy{t:den tTo}{p:lPp}(ht:t.1.length<=1000000)(h:gO p):pA t p=some (bCc t p):=by
 have h3:=h.1;unfold pA bCc pj2 pj4;rw[aX (l:=p) (λ_ (x:den tPp)=>if aLj t x then none else some false) (by omega) (λk x hi hd hw hx hk=>by
  have e:pE (t.1,t.2) (x.1,x.2.1,x.2.2.1,x.2.2.2)=some (aLj t x):=bXu (t:=t) (q:=x) ht (cEv (h.2 x hx) (by decide));simp only[hd,hi,hw,zZ,aA,e];cases aLj t x<;>rfl) (by simp),lH]
 cases p.all (aLj t)<;>rfl
def aXn(now:Int)(l:cV):Bool:=l.all λh=>decide (now<=h.2.2.2.1)
def aQt(t:den tTo)(p:lPp)(now:Int):Bool:=cond (qQ t p&&bCc t p) (p.all λx=> !decide (x.2.1>now)&&aXn now x.2.2.2) false
theorem aT5{t:den tTo}{p:den tPt}(h:wfP t p=true){k:Nat}{x:den tPp}(hx:p[k]? =some x):fO t x=true/\(k=0\/aLc ((p[k - 1]?).getD pt0) x=true):=by
 unfold wfP at h;rw[cEw]at h;have :=(zI (vT t p) p).1 h.2 k x hx;unfold vT at this;rw[cEw,cGm,zR]at this;exact this
theorem bBj{t:den tTo}{x:den tPp}(h:fO t x=true):0<x.2.2.2.length:=by
 unfold fO at h;rw[cEw]at h;have :=(aZ.1 h.1).1;omega
theorem cBt{t:den tTo}{p:lPp}(ht:t.1.length<=1000000)(h2:t.2.length<=1000000)(h:gO p)(now:Int):pL t p now=some (aQt t p now):=by
 have h3:=h.1;have e1:lP (t.1,t.2) p=some (qQ t p):=aVq (t:=t) (p:=p) (by omega) (by omega) (bBf h);have e2:pA (t.1,t.2) p=some (bCc t p):=cBy (t:=t) ht h;unfold pL aQt pj2 pj5;simp only[e1,e2,aA];cases c1:qQ t p with
 | false=>rfl
 | true=>
  cases c2:bCc t p with
  | false=>rfl
  | true=>
   simp only[cE2,zY,aA,cG0,zZ];rw[aX (l:=p) (λ_ (x:den tPp)=>if !decide (x.2.1>now)&&aXn now x.2.2.2 then none else some false) (by omega) (λk x hi hd hw hx hk=>by
    have hx3:=h.2 x hx;simp only[hd,hi,hw,zZ,aA];cases c:decide (x.2.1>now) with
    | true=>rfl
    | false=>
     simp only[zY];rw[aX (l:=x.2.2.2) (λ_ (y:den bU)=>if decide (now<=y.2.2.2.1) then none else some (cEt (cEt false))) (by omega) (λj y hj hd' hw' hy hk'=>by
      have ehv:∀(hp:den bU) (n:Int),nO hp n=some (decide (n<=hp.2.2.2.1)):=λ_ _=>rfl
      simp only[hd',hj,hw',zZ,aA,ehv];cases decide (now<=y.2.2.2.1)<;>rfl) (by simp),lH]
     unfold aXn;cases x.2.2.2.all λy=>decide (now<=y.2.2.2.1)<;>rfl) (by simp),lH]
   cases p.all λx=> !decide (x.2.1>now)&&aXn now x.2.2.2<;>rfl
noncomputable def aL4(l:List lPp)(p:lPp):Bool:=l.any λx=>aDb x p
theorem bA1{α:Type}(p:α->Bool):∀(l:List α) (k:Nat),bW (λ_ x=>if p x then some true else none) k l=if l.any p then some true else none
 | [],_=>rfl
 | x::l,k=>by
  rw[List.any_cons];unfold bW
  by_cases h:p x=true
  .rw[zT h,h];rfl
  .rw[zS h];have h':p x=false:=by simpa using h
   rw[h',cGx];exact bA1 p l (k+1)
theorem bBx{p:lPp}(h:gO p):SmB 68719476736 (.sl tPp) p:=(bR (t:=tPt) (bBf h)).mono (by decide)
theorem bX6{l:List lPp}{p:lPp}(hl:l.length<=1000000)(h:∀x∈l,gO x)(hp:gO p):wQ l p=some (aL4 l p):=by
 unfold wQ aL4;rw[aX (l:=l) (λ_ (x:lPp)=>if aDb x p then some true else none) (by omega) (λk x hi hd hw hx hk=>by
  have e:mC x p=some (aDb x p):=bFz (bBx (h x hx)) (bBx hp);simp only[hd,hi,hw,zZ,aA,e];cases aDb x p<;>rfl) (by simp),bA1 (λx=>aDb x p)]
 cases l.any λx=>aDb x p<;>rfl
noncomputable def vX(t:den tTo)(now:Int)(l:List lPp)(p:lPp):List lPp:=
 cond (decide ((l.length:Int)<24)) (cond (aQt t p now) (cond (aL4 l p) l (l++[p])) l) l
noncomputable def aLq(t:den tTo)(k:den tDb)(a b now:Int):List lPp:=(rH t k a b).foldl (vX t now) []
theorem bLo{t:den tTo}{now:Int}{l:List lPp}{p:lPp}(h:l.length<=24/\ ∀x∈l,gO x)(hp:gO p):(vX t now l p).length<=24/\ ∀x∈vX t now l p,gO x:=by
 unfold vX
 by_cases hc:(l.length:Int)<24
 .rw[zX hc,zZ];cases aQt t p now with
  | false=>exact h
  | true=>
   cases aL4 l p with
   | true=>exact h
   | false=>
    refine⟨by simp;omega,λx hx=> ?_⟩;rcases cE4.1 (show x∈l++[p] from hx) with hx | hx
    .exact h.2 x hx
    .rw[cE3.1 hx];exact hp
 .rw[zW hc];exact h
theorem bNe{t:den tTo}{now:Int}:∀(m l:List lPp),(∀p∈m,gO p)->l.length<=24->(∀x∈l,gO x)->(m.foldl (vX t now) l).length<=24/\ ∀x∈m.foldl (vX t now) l,gO x
 | [],l,_,h1,h2=>⟨h1,h2⟩
 | p::m,l,h,h1,h2=>by
  obtain⟨a,b⟩:=bLo (t:=t) (now:=now) ⟨h1,h2⟩ (h p (by simp));exact bNe m _ (λq hq=>h q (cE7 _ hq)) a b
theorem aW8{t:den tTo}{now:Int}:∀(m l:List lPp),¬ ((l.length:Int)<24)->m.foldl (vX t now) l=l
 | [],_,_=>rfl
 | p::m,l,h=>by
  have e:vX t now l p=l:=by unfold vX;rw[zW h];rfl
  rw[cHb,e];exact aW8 m l h
theorem bFq{t:den tTo}{k:den tDb}(ht:t.1.length<=1000000)(h2:t.2.length<=1000000)(h:DbS k)(a b now:Int):kE t k a b now=some (aLq t k a b now):=by
 have e0:mW (t.1,t.2) (k.1,k.2) a b=some (rH t k a b):=bZ9 (t:=t) (k:=k) ht h a b;have hB:=bD0 (t:=t) h a b;have hL:=bOn (t:=t) h a b;unfold kE aLq ixb pj2;rw[e0,aA];have key:∀(G:Int×List lPp->Option ((Int×List lPp)⊕List lPp)),
   (∀(i:Nat) (p:lPp) (l:List lPp),(rH t k a b)[i]? =some p->i<(rH t k a b).length->p∈rH t k a b->l.length<=24->(∀x∈l,gO x)->(l.length:Int)<24->G ((i:Int),l)=some (.inl (((i+1:Nat):Int),vX t now l p)))->
   (∀(i:Nat) (l:List lPp),i<=(rH t k a b).length->(i=(rH t k a b).length\/ ¬ ((l.length:Int)<24))->G ((i:Int),l)=some (.inr l))->
   ∀(rest pre l:List lPp),pre++rest=rH t k a b->l.length<=24->(∀x∈l,gO x)->aD G ((pre.length:Int),l)=some (rest.foldl (vX t now) l):=by
  intro G hs he rest
  induction rest with
  | nil=>intro pre l hp h1 h3;exact bH (he pre.length l (by rw[<- hp];simp) (.inl (by rw[<- hp];simp)))
  | cons p rest ih=>
   intro pre l hp h1 h3;have hlt:pre.length<(rH t k a b).length:=by rw[<- hp];simp
   have hx:(rH t k a b)[pre.length]? =some p:=by rw[<- hp];simp
   by_cases hc:(l.length:Int)<24
   .have hpB:=hB p (cE9 hx);obtain⟨q1,q2⟩:=bLo (t:=t) (now:=now) ⟨h1,h3⟩ hpB;rw[cY (hs pre.length p l hx hlt (cE9 hx) h1 h3 hc),cHb];have :=ih (pre++[p]) (vX t now l p) (by simpa using hp) q1 q2;simpa using this
   .rw[aW8 _ _ hc];exact bH (he pre.length l (by omega) (.inr hc))
 refine (congrArg (λo=>Option.bind o _) (key _ (λi p l hx hi hp h1 h3 hc=> ?_) (λi l hi hc=> ?_) (rH t k a b) [] [] rfl (by simp) (λx hx=>(cFi hx).elim))).trans ?_
 .have e1:pL (t.1,t.2) p now=some (aQt t p now):=cBt (t:=t) ht h2 (hB p hp) now;have e2:wQ l p=some (aL4 l p):=bX6 (by omega) h3 (hB p hp);have hd:decide ((i:Int)<((rH t k a b).length:Int))=true:=zX (by omega);have hw:wr ((i:Int)+1)=((i+1:Nat):Int):=eZ (by omega);unfold vX;simp only[hd,cT,hw,zZ,cE0,hx,aA,e1,e2,zX hc,aF (b:=24) (n:=l.length) (m:=1) (by decide) (by omega)];cases aQt t p now<;>cases aL4 l p<;>rfl
 .rcases hc with rfl | hc
  .simp only[zW (cF5 _),zY,aA]
  .cases decide ((i:Int)<((rH t k a b).length:Int)) with
   | false=>simp only[zY,aA]
   | true=>simp only[zZ,aA,zW hc,zY]
 .rfl
theorem bX7{t:den tTo}{k:den tDb}(h:DbS k)(a b now:Int):aS9 24 (aLq t k a b now):=bNe _ _ (bD0 h a b) (by simp) (λx hx=>(cFi hx).elim)
theorem aNs{code:List Int}(hl:code.length<=1048576){n:Nat}(hn:n<=1000){c:List Int}{p h:Int}(hc:Cur code (c,p,h)):∃l c' p' h',eF (c,p,h) (n:Int)=some (l,c',p',h')/\(l.length=n/\ ∀x∈l,0<=x/\x<=255)/\Cur code (c',p',h'):=by
 unfold eF pj3 pj4;refine jP (G:=λo=> ∃l c' p' h',o=some (l,c',p',h')/\(l.length=n/\ ∀x∈l,0<=x/\x<=255)/\Cur code (c',p',h')) n (λs:Int×List Int×List Int×Int×Int=>s.1) (λi s=>(s.2.1.length=i/\ ∀x∈s.2.1,0<=x/\x<=255)/\Cur code s.2.2) (λr:List Int×List Int×Int×Int=>(r.1.length=n/\ ∀x∈r.1,0<=x/\x<=255)/\Cur code r.2) ?_ ?_ 0 ((0:Int),[],c,p,h) (by omega) rfl ⟨⟨rfl,λx hx=>(cFi hx).elim⟩,hc⟩ (λr hr=>⟨r.1,r.2.1,r.2.2.1,r.2.2.2,rfl,hr.1,hr.2⟩)
 .rintro i ⟨_,l,c1,p1,h1⟩ hi rfl ⟨⟨g1,g2⟩,k1⟩
  simp only at g1 g2 k1;obtain⟨v,c2,p2,h2,e2,r2,k2⟩:=aHs hl k1;obtain⟨m,rfl⟩:=cFo r2.1;right;refine⟨(((i+1:Nat):Int),l++[(m:Int)],c2,p2,h2),?_,rfl,⟨by simp[g1],λx hx=>(cE4.1 hx).elim (g2 x) λhx=>by rw[cE3.1 hx];omega⟩,k2⟩;simp only[zX (show (i:Int)<(n:Int) by omega),zZ,e2,aA,aF (b:=1) (n:=l.length) (m:=1) (by decide) (by omega),eZ (show i<=1000000000 by omega),aEk (n:=m) (by omega)]
 .rintro⟨_,l,c1,p1,h1⟩ rfl ⟨g,k1⟩
  exact⟨(l,c1,p1,h1),by simp only[zW (cF5 _),zY],g,k1⟩
theorem bMq{up down:den tSg}(h1:up.2.2.length<=5)(h2:down.2.2.length<=5):∃p,qC up down=some p/\gO p:=by
 obtain⟨p,e,k⟩:=bSq h1 h2;unfold mB pj3 at e;refine⟨p,?_,k⟩;cases hm:qC (up.1,up.2.1,up.2.2) (down.1,down.2.1,down.2.2) with
 | none=>rw[hm]at e;cases e
 | some q=>rw[hm,aA]at e;cases e;rfl
def bYt(code:List Int)(o:Option (lAS×lLk×lPp×List Int×q26)):Prop:= ∃(as:lAS) (ls:lLk) (q:lPp) (c':List Int) (p' h':Int),o=some (as,ls,q,c',p',h')/\gO q/\aDz as ls/\Cur code (c',p',h')
theorem bBd{q:den tPp}(h:q.2.2.2.length<=5):gO [q]:=⟨by simp,λx hx=>by
 have hx:x∈[q]:=hx;rw[cE3.1 hx];exact h⟩
abbrev PdS:=Int×Int×Int×Int×Int×cV×cV×List Int×Int×Int
theorem bCt{code:List Int}(hl:code.length<=1048576){c:List Int}{p h:Int}(hc:Cur code (c,p,h)):bYt code (uQ (c,p,h)):=by
 obtain⟨as,ls,c1,p1,h1,e1,ht,k1⟩:=aVa hl hc;obtain⟨t2,b2,s2,c2,p2,h2,e2,l2,k2⟩:=aHp hl ht 2 k1;obtain⟨t3,b3,s3,c3,p3,h3,e3,l3,k3⟩:=aHp hl ht 2 k2;obtain⟨t4,b4,s4,c4,p4,h4,e4,l4,k4⟩:=aHp hl ht 1 k3;obtain⟨v5,c5,p5,h5,e5,r5,k5⟩:=aL hl (n:=5) (by decide) (by decide) k4;unfold uQ dd one pj3 pj4 pj6 pj9 zz4 zz5 zz6 zz7;simp only[e1,e2,e3,e4,e5,aA,aW,bN,bF,bE,bG,show aK 48 0 1=true from by decide,zZ];cases v5==(0:Int) with
 | true=>
  obtain⟨q,eq,kq⟩:=bMq (up:=(t2,b2,s2)) (down:=(t3,b3,s3)) l2 l3;exact⟨as,ls,q,c5,p5,h5,by simp only[zZ,eq,aA],kq,ht,k5⟩
 | false=>
  cases v5==(1:Int) with
  | true=>
   simp only[zZ,zY]
   by_cases hs:(s2.length:Int)>0
   .obtain⟨v6,c6,p6,h6,e6,r6,k6⟩:=tC hl (l:=[(1:Int),(4:Int)]) (by decide) (by decide) k5;obtain⟨q,eq,kq⟩:=aG9 (s:=(t2,b2,s2)) l2 v6 0;exact⟨as,ls,[q],c6,p6,h6,by simp only[zX hs,zZ,e6,eq,aA],bBd kq,ht,k6⟩
   .exact⟨as,ls,[],c5,p5,h5,by simp only[zW hs,zY,aA],aQ2,ht,k5⟩
  | false=>
   cases v5==(2:Int) with
   | true=>
    simp only[zZ,zY]
    by_cases hs:(s4.length:Int)>0
    .obtain⟨v6,c6,p6,h6,e6,r6,k6⟩:=tC hl (l:=[(2:Int),(3:Int)]) (by decide) (by decide) k5;obtain⟨q,eq,kq⟩:=aG9 (s:=(t4,b4,s4)) l4 v6 0;exact⟨as,ls,[q],c6,p6,h6,by simp only[zX hs,zZ,e6,eq,aA],bBd kq,ht,k6⟩
    .exact⟨as,ls,[],c5,p5,h5,by simp only[zW hs,zY,aA],aQ2,ht,k5⟩
   | false=>
    simp only[zY];obtain⟨fc,efc⟩:=aLf (s:=(t4,b4,s4));obtain⟨lc,elc⟩:=bOs (s:=(t4,b4,s4)) (by show s4.length<=_;omega);refine jP (G:=bYt code) 6 (λs:PdS=>s.1) (λi s=>s.2.2.2.2.2.1.length<=5/\s.2.2.2.2.2.2.1.length<=5/\Cur code s.2.2.2.2.2.2.2) (λr:Int×Int×Int×Int×cV×cV×List Int×Int×Int=>r.2.2.2.2.1.length<=5/\r.2.2.2.2.2.1.length<=5/\Cur code r.2.2.2.2.2.2) ?_ ?_ 0 ((0:Int),t2,b2,t3,b3,s2,s3,c5,p5,h5) (by omega) rfl ⟨l2,l3,k5⟩ ?_
    .rintro i ⟨_,ut,ub,dt,db,us,ds,c6,p6,h6⟩ hi rfl ⟨g1,g2,g3⟩
     simp only at g1 g2 g3;simp only[zX (show (i:Int)<6 by omega),zZ,aA,efc,elc];cases decide ((s4.length:Int)>0) with
     | false=>exact .inl ⟨(ut,ub,dt,db,us,ds,c6,p6,h6),rfl,g1,g2,g3⟩
     | true=>
      right;obtain⟨fu,efu⟩:=aLf (s:=(ut,ub,us));obtain⟨fd,efd⟩:=aLf (s:=(dt,db,ds));simp only[zZ,efu,efd,aA];obtain⟨x1,ex1⟩:∃b:Bool,(cond (decide ((us.length:Int)>(0:Int))) (some (fu != fc)) (some false))=some b:=by cases decide ((us.length:Int)>(0:Int))<;>exact⟨_,rfl⟩
      obtain⟨x2,ex2⟩:∃b:Bool,(cond (decide ((ds.length:Int)>(0:Int))) (some (fd != lc)) (some false))=some b:=by cases decide ((ds.length:Int)>(0:Int))<;>exact⟨_,rfl⟩
      simp only[ex1,ex2,aA];obtain⟨y1,y2,y3,c7,p7,h7,ey,ly,ky⟩:∃a b hs c p h,(cond x1 (Option.bind (kS (c6,p6,h6) (as,ls) (2:Int)) λy72=>some (y72.1,y72.2.1,y72.2.2.1,y72.2.2.2.1,y72.2.2.2.2.1,y72.2.2.2.2.2)) (some (ut,ub,us,c6,p6,h6)))=some (a,b,hs,c,p,h)/\hs.length<=5/\Cur code (c,p,h):=by
       cases x1 with
       | false=>exact⟨ut,ub,us,c6,p6,h6,rfl,g1,g3⟩
       | true=>
        obtain⟨a,b,hs,c,p,h,eg,lg,kg⟩:=aHp hl ht 2 g3;exact⟨a,b,hs,c,p,h,by simp only[zZ,eg,aA],lg,kg⟩
      rw[ey,aA];simp only;cases x2 with
      | false=>exact⟨_,rfl,eZ (show i<=1000000000 by omega),ly,g2,ky⟩
      | true=>
       obtain⟨a,b,hs,c,p,h,eg,lg,kg⟩:=aHp hl ht 2 ky;refine⟨_,by simp only[zZ,eg,aA];rfl,eZ (show i<=1000000000 by omega),ly,lg,kg⟩
    .rintro⟨_,ut,ub,dt,db,us,ds,c6,p6,h6⟩ rfl ⟨g1,g2,g3⟩
     exact⟨(ut,ub,dt,db,us,ds,c6,p6,h6),by simp only[show decide (((6:Nat):Int)<(6:Int))=false from rfl,zY,aA],g1,g2,g3⟩
    rintro⟨ut,ub,dt,db,us,ds,c6,p6,h6⟩ ⟨g1,g2,g3⟩
    simp only at g1 g2 g3;obtain⟨q1,f1,m1⟩:=aG9 (s:=(ut,ub,us)) g1 1 0;obtain⟨q2,f2,m2⟩:=aG9 (s:=(t4,b4,s4)) l4 2 0;obtain⟨q3,f3,m3⟩:=aG9 (s:=(dt,db,ds)) g2 4 0;have one:∀(l:lPp) (q:den tPp) (n:Nat),l.length<=n->q.2.2.2.length<=5->(∀x∈l,x.2.2.2.length<=5)->(l++[q]).length<=n+1/\ ∀x∈l++[q],x.2.2.2.length<=5:=λl q n hl hq h=>⟨by simp;omega,λx hx=>(cE4.1 hx).elim (h x) λhx=>by rw[cE3.1 hx];exact hq⟩
    simp only[f1,f2,f3,aA];obtain⟨a1,j1,i1,i2⟩:∃l:lPp,(cond (decide ((us.length:Int)>(0:Int))) (some [q1]) (some []))=some l/\l.length<=1/\ ∀x∈l,x.2.2.2.length<=5:=by
     cases decide ((us.length:Int)>(0:Int))
     .exact⟨[],rfl,by simp,λx hx=>(cFi hx).elim⟩
     .exact⟨[q1],rfl,by simp,λx hx=>by rw[cE3.1 hx];exact m1⟩
    rw[show ((q1.1,q1.2.1,q1.2.2.1,q1.2.2.2):den tPp)=q1 from rfl,j1,aA,aF (b:=48) (n:=a1.length) (m:=1) (by decide) (by omega)];obtain⟨a2,j2,i3,i4⟩:∃l:lPp,(cond (decide ((s4.length:Int)>(0:Int))) (cond true (some (a1++[q2])) none) (some a1))=some l/\l.length<=2/\ ∀x∈l,x.2.2.2.length<=5:=by
     cases decide ((s4.length:Int)>(0:Int))
     .exact⟨a1,rfl,by omega,i2⟩
     .exact⟨a1++[q2],rfl,one a1 q2 1 i1 m2 i2⟩
    rw[show ((q2.1,q2.2.1,q2.2.2.1,q2.2.2.2):den tPp)=q2 from rfl,j2,aA,aF (b:=48) (n:=a2.length) (m:=1) (by decide) (by omega)];cases decide ((ds.length:Int)>(0:Int))
    .exact⟨as,ls,a2,c6,p6,h6,rfl,⟨cEv i3 (by decide),i4⟩,ht,g3⟩
    .exact⟨as,ls,a2++[q3],c6,p6,h6,rfl,one a2 q3 2 i3 m3 i4,ht,g3⟩
structure cEj (p:den tPk):Prop where
 path:gO p.2.2.2.1
 len:p.2.2.2.2.2.2.2.2.2.length<=1000
 bytes:∀x∈p.2.2.2.2.2.2.2.2.2,(0:Int)<=x/\x<=(255:Int)
theorem bYh{code:List Int}(hl:code.length<=1048576){c:List Int}{p h:Int}(hc:Cur code (c,p,h)):∃(as:lAS) (ls:lLk) (k:den tPk) (c':List Int) (p' h':Int),yL (c,p,h)=some (as,ls,k.1,k.2.1,k.2.2.1,k.2.2.2.2.1,k.2.2.2.2.2.1,k.2.2.2.2.2.2.1,k.2.2.2.2.2.2.2.1,k.2.2.2.2.2.2.2.2.1,k.2.2.2.1,k.2.2.2.2.2.2.2.2.2,c',p',h')/\cEj k/\aDz as ls/\Cur code (c',p',h'):=by
 obtain⟨as,ls,q,c1,p1,h1,e1,kq,kt,k1⟩:=bCt hl hc;obtain⟨v2,c2,p2,h2,e2,r2,k2⟩:=aL hl (n:=3) (by decide) (by decide) k1;obtain⟨v3,c3,p3,h3,e3,r3,k3⟩:=aL hl (n:=9) (by decide) (by decide) k2;obtain⟨v4,c4,p4,h4,e4,r4,k4⟩:=aL hl (n:=3) (by decide) (by decide) k3;obtain⟨v5,c5,p5,h5,e5,r5,k5⟩:=aL hl (n:=4) (by decide) (by decide) k4;obtain⟨m5,rfl⟩:=cFo r5.1;obtain⟨l6,c6,p6,h6,e6,⟨r6,b6⟩,k6⟩:=aNs hl (n:=m5) (by omega) k5;have e7:=aJl (kind:=wr (1+v2)) (res:=v4) (seq:=v3) (p:=q) (pay:=l6) (cEv (aKk kq) (by decide)) (by omega);refine⟨as,ls,dM (wr (1+v2)) q v4 v3 l6,c6,p6,h6,?_,⟨kq,by show l6.length<=_;omega,b6⟩,kt,k6⟩;unfold yL dd bY3 pj3 zz4 zz5 zz6 zz7 zz8 zz9;simp only[e1,e2,e3,e4,e5,e6,e7,aA,aW,bN,bF,bE,bG];rfl
theorem bLt(a b:Int):tV a b=some (a,b,0,[]):=rfl
def RvD(l:lRv):Prop:=l.length<=16/\ ∀y∈l,dR y=true
theorem bTd{l:lRv}{x:den tRv}(h:RvD l):RvD (aKu l x):=by
 obtain⟨h1,h2⟩:=h;unfold aKu;cases hv:dR x with
 | false=>exact⟨h1,h2⟩
 | true=>
  simp only[zZ];cases hs:bW (aBi x l) 0 l with
  | some r=>
   have :=aN0 (λr:lRv=> @ite Nat (RvD r) (Classical.propDecidable _) 0 1) 0 (g:=aBi x l) (l:=l) (k:=0) (λj y r' hy hr=>by
    have hp:RvD r':=by
     unfold aBi at hr;cases c1:y.1==x.1 with
     | false=>rw[c1]at hr;cases hr
     | true=>
      cases c2:y.2.1==x.2.1 with
      | false=>rw[c1,c2]at hr;cases hr
      | true=>
       rw[c1,c2]at hr;injection hr with hr;rw[<- hr];have hy':=h2 y (cE9 hy);refine⟨by simpa using h1,λz hz=> ?_⟩;rcases cHx hz with hz | rfl
       .exact h2 z hz
       .unfold dR at hv hy' ⊢;simp only[cEw]at hv hy' ⊢;refine⟨hy'.1,hy'.2.1,?_⟩;split
        .exact hv.2.2
        .exact hy'.2.2
    simp only[zT hp];exact cE8 _) r hs
   by_cases hp:RvD r
   .exact hp
   .simp only[zS hp]at this;omega
  | none=>
   have hx:∀y∈l++[x],dR y=true:=λy hy=>(cE4.1 hy).elim (h2 y) λhy=>by rw[cE3.1 hy];exact hv
   by_cases c:16<l.length+1
   .simp only[c,zV];exact⟨by simp;omega,λy hy=>hx y (cGq hy)⟩
   .simp only[c,zU];exact⟨by simp;omega,hx⟩
theorem aHg(a b c d cu wa:Int)(ms:lMs)(ps:lPt)(rv:lRv):tot tFl (a,b,c,d,ms,ps,cu,wa,rv)=tot (.sl tMs) ms+tot (.sl tPt) ps+rv.length:=by
 show tot ti a+(tot ti b+(tot ti c+(tot ti d+(tot (.sl tMs) ms+(tot (.sl tPt) ps+(tot ti cu+(tot ti wa+tot (.sl tRv) rv)))))))=_;rw[dQ (t:=tRv) rfl];show 0+(0+(0+(0+(_+(_+(0+(0+_)))))))=_;omega
theorem bD3(b:List Int):tot (.sl tMs) [b]=1+b.length:=by
 rw[kT];show 1+tot (.sl tb) b+tot (.sl tMs) []=_;rw[dQ (t:=tb) rfl];rfl
theorem nY(f:den tFl):lV f=true↔inR f.1 0 7=true/\inR f.2.1 0 7=true/\f.1≠f.2.1/\inR f.2.2.1 0 100000=true/\f.2.2.2.2.1.length<=20/\inR f.2.2.2.1 0 (f.2.2.2.2.1.length:Int)=true/\f.2.2.2.2.2.1.length<=24/\
  (∀m∈f.2.2.2.2.1,m.length<=40)/\(∀x∈f.2.2.2.2.2.2.2.2,dR x=true)/\(f.2.2.2.2.2.2.1=0\/inR f.2.2.2.2.2.2.1 0 ((f.2.2.2.2.2.1.length:Int) - 1)=true)/\inR f.2.2.2.2.2.2.2.1 0 4=true/\f.2.2.2.2.2.2.2.2.length<=16:=by
 unfold lV;simp only[cEw,cGm,cFu,beq_iff_eq,beq_eq_false_iff_ne,zR,cFn,ne_eq]
theorem aY6{c:Int}{n:Nat}(hn:n<=24)(h:c=0\/inR c 0 ((n:Int) - 1)=true):(if wr (c+1)>=(n:Int) then (0:Int) else wr (c+1))=0\/inR (if wr (c+1)>=(n:Int) then (0:Int) else wr (c+1)) 0 ((n:Int) - 1)=true:=by
 have hc:0<=c/\c<=24:=by
  rcases h with e | e
  .omega
  .have :=aZ.1 e;omega
 rw[bJ (by omega) (by omega)];split
 .exact .inl rfl
 .right;rw[aZ];omega
theorem bWv{w:Int}(h:inR w 0 4=true)(h4: ¬ (w==4)=true):inR (wr (w+1)) 0 4=true:=by
 rw[aZ]at h;rw[beq_iff_eq]at h4;rw[bJ (by omega) (by omega),aZ];omega
theorem aV8{f:den tFl}(h:lV f=true):lV (aE f).1=true:=by
 rw[nY]at h;obtain⟨h1,h2,h3,h4,h5,h6,h7,h8,h9,h10,h11,h12⟩:=h;have key:∀c w:Int,(c=0\/inR c 0 ((f.2.2.2.2.2.1.length:Int) - 1)=true)->inR w 0 4=true->lV (setCW f c w)=true:=λc w hc hw=>by
  rw[nY];exact⟨h1,h2,h3,h4,h5,h6,h7,h8,h9,hc,hw,h12⟩
 unfold aE;split
 .split
  .exact key _ _ h10 rfl
  .split
   .exact key _ _ (aY6 h7 h10) rfl
   .next e4=>exact key _ _ h10 (bWv h11 e4)
 .exact key _ _ h10 rfl
def Byt(l:List Int):Prop:= ∀x∈l,0<=x/\x<=255
theorem cC8(bs:ByteArray):∀(n i:Nat) (r:List UInt8),n+i=bs.size->ByteArray.toList.loop bs i r=r.reverse++bs.data.toList.drop i:=by
 intro n
 induction n with
 | zero=>
  intro i r h;unfold ByteArray.toList.loop;rw[zS (by omega),List.drop_of_length_le (by rw[cH4];show bs.size<=i;omega),cFv]
 | succ n ih=>
  intro i r h;unfold ByteArray.toList.loop;rw[zT (by omega),ih (i+1) _ (by omega)];have hi:i<bs.data.toList.length:=by rw[cH4];show i<bs.size;omega
  rw[List.drop_eq_getElem_cons hi,List.reverse_cons,cFk];congr 2;simp[ByteArray.get!];rw[getElem!_pos bs.data i (by rw[<- cH4];exact hi)]
theorem bl(bs:ByteArray):bs.toList=bs.data.toList:=by
 unfold ByteArray.toList;rw[cC8 bs bs.size 0 [] (by omega)];simp
theorem aRx(l:List Int):(yW l).toList=l.map λn=>UInt8.ofNat n.toNat:=by
 rw[bl];rfl
theorem bOx{a b:List Int}(ha:Byt a)(hb:Byt b):((yW a).toList==(yW b).toList)=true↔a=b:=by
 rw[beq_iff_eq,aRx,aRx];constructor
 .intro h;have hl:=congrArg cFd h;simp only[cFt]at hl;refine List.ext_getElem hl λi h1 h2=> ?_
  have h3:(a.map λn=>UInt8.ofNat n.toNat)[i]'(by simpa using h1)=(b.map λn=>UInt8.ofNat n.toNat)[i]'(by simpa using h2):=by simp only[h]
  simp only[List.getElem_map]at h3;have a1:=ha _ (cGh h1);have b1:=hb _ (cGh h2);have h4:=congrArg UInt8.toNat h3;simp only[UInt8.toNat_ofNat']at h4;omega
 .intro h;rw[h]
def aHh(l:cV):Option Int:=l.head?.map λx=>(x.1:Int)
def aCn(l:cV):Option Int:=l.getLast?.map λx=>(x.1:Int)
def aG6(p:lPp):Option Int:=p.head?.bind λx=>aHh x.2.2.2
def aBx(p:lPp):Option Int:=p.getLast?.bind λx=>aCn x.2.2.2
def cC0(a b:Int)(p:den tPt):Prop:=gO p/\aG6 p=some a/\aBx p=some b
def aNp(a b:Int)(n:Nat)(l:lPt):Prop:=l.length<=n/\ ∀p∈l,cC0 a b p
theorem aNp.d{a b:Int}{n:Nat}{l:lPt}(h:aNp a b n l):aS9 n l:=⟨h.1,λp hp=>(h.2 p hp).1⟩
def aFq(a b:Int)(p:lPp):Prop:=aG6 p=some a/\aBx p=some b
theorem bWb{s:den tSg}(h:s.2.2≠[]):aCn s.2.2=some (qT s):=by
 have hl:s.2.2.length≠0:=λe=>h (List.length_eq_zero_iff.1 e)
 unfold aCn qT;rw[zS hl,List.getLast?_eq_getElem?,cEx (show s.2.2.length - 1<s.2.2.length by omega)];rfl
theorem aYy{s:den tSg}(h:0<=eU s):s.2.2≠[]:=λe=>by
 unfold eU at h;rw[e]at h;exact absurd h (by decide)
theorem aFc{s:den tSg}{k:Int}{i:Nat}{x:den bU}(hk:inR k 1 4=true)(hx:s.2.2[i]? =some x):aHh (nZ s k i).2.2.2=some (if hZ k then qT s else x.1)/\aCn (nZ s k i).2.2.2=some (if hZ k then (x.1:Int) else qT s):=by
 obtain⟨hi,e⟩:=cEz.1 hx;have hne:s.2.2≠[]:=λe=>by rw[e]at hi;exact absurd hi (cH6 _)
 have hl:=bWb hne;have hd:(s.2.2.drop i).head? =some x:=by rw[List.head?_drop];exact hx
 have hg:(s.2.2.drop i).getLast? =s.2.2.getLast? :=by rw[List.getLast?_drop,zS (by omega)]
 unfold nZ;rw[show inR (i:Int) 0 ((s.2.2.length:Int) - 1)=true from aZ.2 ⟨by omega,by omega⟩,hk];simp only[cG0,zV,cE0];unfold aCn at hl;unfold aHh aCn;cases hZ k with
 | true=>
  simp only[zV];rw[List.head?_reverse,List.getLast?_reverse,hg,hl,hd];exact⟨rfl,rfl⟩
 | false=>
  simp only[cE1,zU];rw[hg,hl,hd];exact⟨rfl,rfl⟩
theorem aMd{s:den tSg}{k:Int}(hk:inR k 1 4=true)(h:s.2.2≠[]):aHh (nZ s k 0).2.2.2=some (if hZ k then qT s else eU s)/\aCn (nZ s k 0).2.2.2=some (if hZ k then eU s else qT s):=by
 unfold eU;cases hs:s.2.2 with
 | nil=>exact absurd hs h
 | cons x l=>exact aFc (i:=0) hk (by rw[hs];rfl)
theorem bY0{l:cV}{r:Int}(h:0<=fIx l r):∃(i:Nat) (x:den bU),fIx l r=(i:Int)/\l[i]? =some x/\x.1=r:=by
 unfold fIx at h|-;cases hs:bW (λk (x:den bU)=>if x.1==r then some (k:Int) else none) 0 l with
 | none=>rw[hs]at h;exact absurd h (by decide)
 | some v=>
  obtain⟨j,x,hx,hv,hp⟩:=aKo hs;exact⟨j,x,by rw[hv];simp,hx,eq_of_beq hp⟩
theorem bNw{l:cV}{r:Int}:∀{n:Nat},n<=l.length->0<=lIx l r n-> ∃(j:Nat) (y:den bU),lIx l r n=(j:Int)/\l[j]? =some y
 | 0,_,h=>absurd h (by show ¬ (0:Int)<= -1;decide)
 | n+1,hn,h=>by
  unfold lIx at h|-;split
  .exact⟨n,l[n]'(by omega),rfl,cEx (by omega)⟩
  .rename_i c;rw[zS c]at h;exact bNw (by omega) h
theorem aZs{x:den tPp}{a b:Int}(h1:aHh x.2.2.2=some a)(h2:aCn x.2.2.2=some b):aFq a b [x]:=⟨h1,h2⟩
theorem aSp{up down:den tSg}(hd:down.2.2≠[]):∀n:Nat,n<=up.2.2.length->0<(aGh up down n).length->aFq (qT up) (qT down) (aGh up down n)
 | 0,_,h=>absurd h (Nat.lt_irrefl 0)
 | n+1,hn,h=>by
  unfold aGh at h|-;split
  .rename_i c;have hx:up.2.2[n]? =some (up.2.2[n]'(by omega)):=cEx (by omega);obtain⟨j,y,hj,hy⟩:=bNw (cE8 _) c;rw[hj];exact⟨(aFc (k:=1) rfl hx).1,(aFc (k:=4) rfl hy).2⟩
  .rename_i c;rw[zS c]at h;exact aSp hd n (by omega) h
theorem aTd{up core down:den tSg}{b:Bool}(hc:core.2.2≠[]){x y:Int}(hx:(up.2.2=[]/\x=cond b (qT core) (eU core))\/(up.2.2≠[]/\x=qT up))(hy:(down.2.2=[]/\y=cond b (eU core) (qT core))\/(down.2.2≠[]/\y=qT down)):aFq x y (vY up core b down):=by
 have pos:∀{s:den tSg},s.2.2≠[]->decide ((s.2.2.length:Int)>0)=true:=λ{s} h=>zX (by have :=List.length_pos_iff.2 h;omega)
 have zero:∀{s:den tSg},s.2.2=[]->decide ((s.2.2.length:Int)>0)=false:=λ{s} h=>by rw[h];rfl
 have hr:hZ (cond b 3 2)=b:=by cases b<;>rfl
 obtain⟨c1,c2⟩:=aMd (s:=core) (k:=cond b 3 2) (by cases b<;>rfl) hc;rw[hr]at c1 c2;unfold vY kU;rw[pos hc];simp only[zZ,cFl];unfold aFq aG6 aBx;rcases hx with ⟨h1,rfl⟩ | ⟨h1,rfl⟩<;>rcases hy with ⟨h2,rfl⟩ | ⟨h2,rfl⟩
 .rw[zero h1,zero h2];cases b<;>exact⟨c1,c2⟩
 .rw[zero h1,pos h2];cases b<;>exact⟨c1,(aMd (k:=4) rfl h2).2⟩
 .rw[pos h1,zero h2];cases b<;>exact⟨(aMd (k:=1) rfl h1).1,c2⟩
 .rw[pos h1,pos h2];exact⟨(aMd (k:=1) rfl h1).1,(aMd (k:=4) rfl h2).2⟩
theorem aEq{c:lSg}{up down:den tSg}{a b x y:Int}(ha:0<=a)(hb:0<=b)(hx:(up.2.2=[]/\x=a)\/(up.2.2≠[]/\x=qT up))(hy:(down.2.2=[]/\y=b)\/(down.2.2≠[]/\y=qT down)):∀p∈dB c up a b down,aFq x y p:=by
 intro p hp;unfold dB at hp;rcases cE4.1 hp with hp | hp<;>obtain⟨s,hs,hp⟩:=cF4.1 hp<;>rw[cE3.1 hp]<;>have h:=(cFc.1 hs).2<;>rw[cEw,beq_iff_eq,beq_iff_eq]at h
 .exact aTd (aYy (by rw[h.1];exact ha)) (hx.imp (λz=>⟨z.1,z.2.trans h.1.symm⟩) id) (hy.imp (λz=>⟨z.1,z.2.trans h.2.symm⟩) id)
 .exact aTd (aYy (by rw[h.1];exact hb)) (hx.imp (λz=>⟨z.1,z.2.trans h.2.symm⟩) id) (hy.imp (λz=>⟨z.1,z.2.trans h.1.symm⟩) id)
theorem bGi{t:den tTo}{n:Nat}{k:den tDb}(h:DbD n k.1 k.2){a b:Int}(ha:0<=a)(hb:0<=b):∀p∈rH t k a b,aFq a b p:=by
 have dn:∀{r:Int} {s:den tSg},s∈cU k.1 r->qT s=r/\s.2.2≠[]/\0<=eU s:=λ{r s} hs=>by
  obtain⟨h1,h2⟩:=cFc.1 hs;obtain⟨h3,h4⟩:=h.ha s h1;refine⟨eq_of_beq h2,h3,?_⟩;unfold eU;cases hh:s.2.2 with
  | nil=>exact absurd hh h3
  | cons x l=>exact (h4 x (by rw[hh];exact cFb ..)).1
 intro p hp;unfold rH at hp;cases hc:(a==b||(!dF t a|| !dF t b)) with
 | true=>rw[hc]at hp;cases hp
 | false=>
 rw[hc]at hp;simp only[zY,cE4]at hp;have one:∀{kind r:Int} {s:den tSg},p∈tQ kind r s-> ∃(i:Nat) (x:den bU),p=[nZ s kind (i:Int)]/\s.2.2[i]? =some x/\x.1=r:=λ{kind r s} hp=>by
  unfold tQ at hp;cases hq:decide (fIx s.2.2 r>=0) with
  | false=>rw[hq]at hp;cases hp
  | true=>
   rw[hq]at hp;obtain⟨i,x,e,hx,hr⟩:=bY0 (of_decide_eq_true hq);exact⟨i,x,by rw[cE3.1 hp,e],hx,hr⟩
 rcases hp with (((((hp | hp) | hp) | hp) | hp) | hp) | hp
 .obtain⟨s,hs,hp⟩:=cF4.1 hp;obtain⟨i,x,rfl,hx,rfl⟩:=one hp;obtain⟨e1,e2⟩:=aFc (k:=1) rfl hx;exact aZs (e1.trans (congrArg some (dn hs).1)) e2
 .obtain⟨s,hs,hp⟩:=cF4.1 hp;obtain⟨i,x,rfl,hx,rfl⟩:=one hp;obtain⟨e1,e2⟩:=aFc (k:=4) rfl hx;exact aZs e1 (e2.trans (congrArg some (dn hs).1))
 .exact aEq ha hb (.inl ⟨rfl,rfl⟩) (.inl ⟨rfl,rfl⟩) p hp
 .obtain⟨u,hu,hp⟩:=cF4.1 hp;obtain⟨d,hd,hp⟩:=cF4.1 hp;unfold yB at hp;cases hq:decide (((aDu u d).length:Int)>0) with
  | false=>rw[hq]at hp;cases hp
  | true=>
   rw[hq]at hp;rw[cE3.1 hp];have :=aSp (up:=u) (dn hd).2.1 u.2.2.length (cE8 _) (by have :=of_decide_eq_true hq;unfold aDu at this;omega);rw[(dn hu).1,(dn hd).1]at this;exact this
 .cases hq:oD t a with
  | false=>rw[hq]at hp;cases hp
  | true=>
   rw[hq]at hp;obtain⟨d,hd,hp⟩:=cF4.1 hp;exact aEq ha (dn hd).2.2 (.inl ⟨rfl,rfl⟩) (.inr ⟨(dn hd).2.1,(dn hd).1.symm⟩) p hp
 .cases hq:oD t b with
  | false=>rw[hq]at hp;cases hp
  | true=>
   rw[hq]at hp;obtain⟨u,hu,hp⟩:=cF4.1 hp;exact aEq (dn hu).2.2 hb (.inr ⟨(dn hu).2.1,(dn hu).1.symm⟩) (.inl ⟨rfl,rfl⟩) p hp
 .obtain⟨u,hu,hp⟩:=cF4.1 hp;obtain⟨d,hd,hp⟩:=cF4.1 hp;exact aEq (dn hu).2.2 (dn hd).2.2 (.inr ⟨(dn hu).2.1,(dn hu).1.symm⟩) (.inr ⟨(dn hd).2.1,(dn hd).1.symm⟩) p hp
theorem bQv{t:den tTo}{now:Int}{l:List lPp}{q p:lPp}(h:p∈vX t now l q):p∈l\/p=q:=by
 unfold vX at h;cases c1:decide ((l.length:Int)<24) with
 | false=>rw[c1]at h;exact .inl h
 | true=>
  cases c2:aQt t q now with
  | false=>rw[c1,c2]at h;exact .inl h
  | true=>
   cases c3:aL4 l q with
   | true=>rw[c1,c2,c3]at h;exact .inl h
   | false=>
    rw[c1,c2,c3]at h;exact (cE4.1 (show p∈l++[q] from h)).imp id cE3.1
theorem bCw{t:den tTo}{now:Int}:∀(m l:List lPp),∀p∈m.foldl (vX t now) l,p∈l\/p∈m
 | [],l,p,h=> .inl h
 | q::m,l,p,h=>by
  rcases bCw m (vX t now l q) p h with h | h
  .exact (bQv h).imp id λe=>by rw[e];exact cFb ..
  .exact .inr (cE7 _ h)
theorem bX8{t:den tTo}{n:Nat}{k:den tDb}(h:DbD n k.1 k.2)(hn:n<=30){a b:Int}(ha:0<=a)(hb:0<=b)(now:Int):aNp a b 24 (aLq t k a b now):=by
 obtain⟨h1,h2⟩:=bX7 (t:=t) (h.s hn) a b now;refine⟨h1,λp hp=>⟨h2 p hp,?_⟩⟩;rcases bCw _ _ p hp with hp | hp
 .cases hp
 .exact bGi h ha hb p hp
theorem cDb{as:lAS}{ls:lLk}(ht:aDz as ls){d cc:lSg}(hk:DbD 13 d cc){a b:Int}(ha:0<=a)(hb:0<=b)(now:Int):∃l,kE (as,ls) (d,cc) a b now=some l/\aNp a b 24 l:=
 ⟨_,bFq (t:=(as,ls)) (k:=(d,cc)) (by have :=ht.len;show as.length<=_;omega) (by have :=ht.links;show ls.length<=_;omega) (hk.s (by decide)) a b now,bX8 (k:=(d,cc)) hk (by decide) ha hb now⟩
theorem aK7{code:List Int}(hl:code.length<=1048576){c:List Int}{p h:Int}(hc:Cur code (c,p,h)):∃v c' p' h',oA (c,p,h)=some (v,c',p',h')/\Cur code (c',p',h'):=by
 obtain⟨v1,c1,p1,h1,e1,k1⟩:=tJ hl (n:=10) (by decide) (by decide) hc;unfold oA pj3 pj4;simp only[e1,aA];cases v1 with
 | true=>
  obtain⟨v2,c2,p2,h2,e2,_,k2⟩:=tC hl (l:=[(-1:Int),(2147483647:Int),(2147483648:Int)]) (by decide) (by decide) k1;exact⟨v2,c2,p2,h2,by simp only[zZ,e2,aA],k2⟩
 | false=>
  obtain⟨v2,c2,p2,h2,e2,k2⟩:=tJ hl (n:=4) (by decide) (by decide) k1;simp only[zY,e2,aA];cases v2 with
  | true=>
   obtain⟨v3,c3,p3,h3,e3,_,k3⟩:=tC hl (l:=[(0:Int),(1:Int),(2147483646:Int)]) (by decide) (by decide) k2;exact⟨v3,c3,p3,h3,by simp only[zZ,e3,aA],k3⟩
  | false=>
   obtain⟨v3,c3,p3,h3,e3,_,k3⟩:=aIm hl (n:=1000000) (by decide) k2;obtain⟨v4,c4,p4,h4,e4,_,k4⟩:=aIm hl (n:=2000) (by decide) k3;exact⟨wr (v3 * v4),c4,p4,h4,by simp only[zY,e3,e4,aA],k4⟩
def aSq(l:cV):Prop:= ∀(j:Nat) (y:den bU),l[j]? =some y->y.2.2.2.1=(5000:Int)
theorem bNx{as:lAS}{ls:lLk}{s:den tSg}(h5:s.2.2.length<=5)(hi:InN (as.length:Int) s.2.2):∃hs,wC (as,ls) s=some (s.1,s.2.1,hs)/\hs.length<=5/\InN (as.length:Int) hs/\aSq hs:=by
 unfold wC ixb pj3 pj5 zz4;rw[show ((s.1,s.2.1,s.2.2):den tSg)=s from rfl,aJo (by omega),aA];refine jP (G:=λo=> ∃hs,o=some (s.1,s.2.1,hs)/\hs.length<=5/\InN (as.length:Int) hs/\aSq hs) s.2.2.length (λz:Int×cV=>z.1) (λi z=>z.2.length=s.2.2.length/\InN (as.length:Int) z.2/\ ∀(j:Nat) (y:den bU),j<i->z.2[j]? =some y->y.2.2.2.1=(5000:Int)) (λr:cV=>r.length=s.2.2.length/\InN (as.length:Int) r/\aSq r) ?_ ?_ 0 ((0:Int),s.2.2) (by omega) rfl ⟨rfl,hi,λj y hj=>absurd hj (cH6 j)⟩ ?_
 .rintro i ⟨_,l⟩ hlt rfl ⟨g1,g2,g3⟩
  simp only at g1 g2 g3;right;have hil:i<l.length:=by omega
  have hx:l[i]? =some l[i]:=cEx hil;obtain⟨q0,q1⟩:=g2 l[i] (cGh hil);obtain⟨m,hm⟩:=cFo q0;have hml:m<as.length:=by omega
  obtain⟨bt,et⟩:=aPp (s:=(s.1,s.2.1,l)) (i:Int) (by show l.length<=_;omega);have ex:idx as l[i].1=some as[m]:=by rw[hm,aR];exact cEx hml
  simp only[zX (show (i:Int)<(l.length:Int) by omega),zX (show (0:Int)<=(i:Int) by omega),zZ,cE0,hx,aA,ex,et,bAa,zX hil];refine⟨_,rfl,eZ (show i<=1000000000 by omega),by simp[g1],λy hy=> ?_,λj y hj hy=> ?_⟩
  .rcases cHx hy with hy | rfl
   .exact g2 y hy
   .exact⟨q0,q1⟩
  .simp only[cG3]at hy;split at hy
   .injection hy with hy;rw[<- hy]
   .exact g3 j y (by omega) hy
 .rintro⟨_,l⟩ rfl ⟨g1,g2,g3⟩
  simp only at g1 g2 g3;refine⟨l,by simp only[g1,zW (cF5 _),zY],g1,g2,λj y hy=>g3 j y ?_ hy⟩;have :=(cEz.1 hy).1;omega
 .rintro l ⟨g1,g2,g3⟩
  exact⟨l,rfl,by omega,g2,g3⟩
theorem bJu{p:den tPt}(h:gO p):∃l,pX p=some l/\l.length<=18:=by
 have ht:=aKk h;have hs:=aC6 p;unfold pX ixb pj3;rw[aGm (by omega),aA];refine jP (G:=λo=> ∃l,o=some l/\l.length<=18) (fD p).length (λz:Int×bV=>z.1) (λi z=>z.2.length<=i) (λr:bV=>r.length<=18) ?_ ?_ 0 ((0:Int),[]) (by omega) rfl (by simp) (λl hl=>⟨l,rfl,hl⟩)
 .rintro i ⟨_,l⟩ hlt rfl g1
  simp only at g1;right;simp only[zX (show (i:Int)<((fD p).length:Int) by omega),zX (show (0:Int)<=(i:Int) by omega),zZ,cE0,cEx hlt,aA,aF (b:=24) (n:=l.length) (m:=1) (by decide) (by omega),eZ (show i<=1000000000 by omega)];cases ((fD p)[i].2.2 != (0:Int)) with
  | true=>exact⟨_,rfl,rfl,by simp;omega⟩
  | false=>exact⟨_,rfl,rfl,by show l.length<=i+1;omega⟩
 .rintro⟨_,l⟩ rfl g1
  exact⟨l,by simp only[zW (cF5 _),zY],by simp only at g1;omega⟩
theorem bSx{l:lRs}{x y:den tRs}{cap now:Int}(h:y∈admR l x cap now):y∈l\/y=x:=by
 unfold admR at h;split at h
 .exact .inl h
 .rcases cE4.1 h with h | h
  .exact .inl (cFc.1 h).1
  .exact .inr (cE3.1 h)
def aY0(l:lRs)(id r:Int)(m:lRs):Prop:= ∀y∈m,y∈l\/(y.1=id/\y.2.2.2.1=r)
theorem aZ7{l:lRs}{cap now:Int}(hl:rQ l cap now){p:den tPt}(hp:gO p)(id r till:Int):∃b m,dZ l id p r till cap now=some (b,m)/\rQ m cap now/\aY0 l id r m:=by
 obtain⟨d,ed,hd⟩:=bJu hp;have hn:=hl.len;unfold dZ ixb;rw[aF (b:=40) (n:=([]:lRs).length) (m:=l.length) (by decide) (by simp;omega),zZ,ed,aA];refine jP (G:=λo=> ∃b m,o=some (b,m)/\rQ m cap now/\aY0 l id r m) d.length (λz:Int×lRs=>z.1) (λi z=>rQ z.2 cap now/\aY0 l id r z.2) (λx:lRs⊕(Bool×lRs)=>match x with | .inl m=>rQ m cap now/\aY0 l id r m | .inr m=>rQ m.2 cap now/\aY0 l id r m.2) ?_ ?_ 0 ((0:Int),[]++l) (by omega) rfl ⟨hl,λy hy=> .inl hy⟩ ?_
 .rintro i ⟨_,m⟩ hlt rfl ⟨g1,g2⟩
  simp only at g1 g2;have hm:=g1.len;obtain⟨b,eb⟩:=bFh (l:=m) (x:=(id,d[i].1,d[i].2.2,r,till)) (cap:=cap) (now:=now) (by omega);simp only[zX (show (i:Int)<(d.length:Int) by omega),zX (show (0:Int)<=(i:Int) by omega),zZ,cE0,cEx hlt,aA,eb,eZ (show i<=1000000000 by omega)];cases b with
  | true=>exact .inr ⟨_,rfl,rfl,g1.admR _,λy hy=>(bSx hy).elim (g2 y) λe=> .inr (by rw[e];exact⟨rfl,rfl⟩)⟩
  | false=>exact .inl ⟨_,rfl,hl,λy hy=> .inl hy⟩
 .rintro⟨_,m⟩ rfl ⟨g1,g2⟩
  exact⟨.inl m,by simp only[zW (cF5 _),zY],g1,g2⟩
 .rintro (m | ⟨b,m⟩) ⟨hm,h2⟩
  .exact⟨_,m,rfl,hm,h2⟩
  .exact⟨b,m,rfl,hm,h2⟩
def aMw(w:den tNw)(f:den tFl):Bool:= !lV f|| !dF (nT w) f.1|| !dF (nT w) f.2.1||(f.2.2.2.1 != 0)||decide (((aB w).length:Int)>=4)||decide (dU (aS w) f.2.1 f.1>=0)
def bTr(f:den tFl)(l:lPt)(now:Int):den tFl:=(f.1,f.2.1,f.2.2.1,f.2.2.2.1,f.2.2.2.2.1,aOy f l now,0,0,f.2.2.2.2.2.2.2.2)
def cCf(w:den tNw)(f:den tFl)(l:lPt):den tNw:=(nT w,nK w,nG w,aI w,aJ w,aH w,aB w++[bTr f l (aI w)],aS w++[(f.2.1,f.1,0,[])],dN w)
def bP1(w:den tNw)(b:Bool):q35:=
 ((nG w).1,aI w,dN w,b,(nT w).1,(nT w).2,(nK w).1,(nK w).2,(nG w).2.1,(nG w).2.2,aJ w,aH w,aB w,aS w)
theorem bQ6{w:den tNw}{f:den tFl}{l:lPt}(hw:tot tNw w<=1073741824)(hf:tot tFl f<=1073741824)(hl:tot (.sl tPt) l<=1073741824)(el:kE (nT w) (nK w) f.1 f.2.1 (aI w)=some l):
  yM w f=some (bP1 (if aMw w f then w else cCf w f l) (!aMw w f)):=by
 have sw:SmB 68719476736 tNw w:=(bR hw).mono (by decide);have sf:SmB 68719476736 tFl f:=(bR hf).mono (by decide);have n1:w.1.1.length<=68719476736:=sw.1.1.1;have n2:w.2.2.2.2.2.2.2.1.length<=1073741824:=(bR hw).2.2.2.2.2.2.2.1.1;have n3:w.2.2.2.2.2.2.1.length<=1073741824:=(bR hw).2.2.2.2.2.2.1.1;have el:kE w.1 w.2.1 f.1 f.2.1 w.2.2.2.1=some l:=el;have a1:aK 120 w.2.2.2.2.2.2.1.length 1=true:=aF (by decide) (by omega);have a2:aK 48 w.2.2.2.2.2.2.2.1.length 1=true:=aF (by decide) (by omega);unfold yM aMw aM pj2 pj4 pj9 dS aO bC bK zz4 zz5 zz6 zz7 zz8 zz9;simp only[aP,bGa sw,aY5 sf,aFi n1,bE6 (show w.2.2.2.2.2.2.2.1.length<=68719476736 by omega),el,cAg hf hl,bLt,aA,aNq,a1,a2,zZ];cases lV f
 .rfl
 cases dF w.1 f.1
 .rfl
 cases dF w.1 f.2.1
 .rfl
 cases f.2.2.2.1 != 0 with
 | true=>rfl
 | false=>cases decide ((w.2.2.2.2.2.2.1.length:Int)>=4) with
  | true=>rfl
  | false=>cases decide (dU w.2.2.2.2.2.2.2.1 f.2.1 f.1>=0)<;>rfl
theorem bSk{x y:den tPt}{l:lPt}(h:y∈aL0 x l):y=x\/y∈l:=by
 unfold aL0 at h;simp only[cE4,cE3]at h;rcases h with (h | h) | h
 .exact .inr (cGj h)
 .exact .inl h
 .exact .inr (cGq h)
theorem bLc{y:den tPt}{l:lPt}(h:y∈aIk l):y∈l:=by
 have :∀(l:lPt) (k:Nat) (a:lPt),y∈bQ (λ_ x a=>aL0 x a) k l a->y∈l\/y∈a:=by
  intro l
  induction l with
  | nil=>exact λk a h=> .inr h
  | cons x l ih=>
   intro k a h;rcases ih (k+1) (aL0 x a) h with h | h
   .exact .inl (cE7 _ h)
   .rcases bSk h with rfl | h
    .exact .inl (by simp)
    .exact .inr h
 rcases this l 0 [] h with h | h
 .exact h
 .exact (cFi h).elim
theorem aIq{f:den tFl}{y:den tPt}{l:lPt}{now:Int}(h:y∈aOy f l now):y∈l:=by
 unfold aOy aJx at h;have h:=cGj h;simp only[cE4,cFc]at h;rcases h with h | h<;>exact bLc h.1
structure FlD (t:den tTo) (f:den tFl):Prop where
 val:lV f=true
 src:dF t f.1=true
 dst:dF t f.2.1=true
 ack:f.2.2.2.1=(0:Int)
 cur:f.2.2.2.2.2.2.1=(0:Int)
 wait:f.2.2.2.2.2.2.2.1=(0:Int)
 rev:f.2.2.2.2.2.2.2.2=[]
 paths:aS9 4 f.2.2.2.2.2.1
 msgs:tot (.sl tMs) f.2.2.2.2.1<=12
 bytes:∀m∈f.2.2.2.2.1,sG m
 ends:∀p∈f.2.2.2.2.2.1,aG6 p=some f.1/\aBx p=some f.2.1
def cDv(t:den tTo)(x:den tSg):Prop:=aSq x.2.2/\bKl t x 2
def cD1(t:den tTo)(x:den tSg):Prop:=aSq x.2.2/\ ∃k,bKl t x k/\k≠2
def aX0(t:den tTo)(d c:lSg):Prop:=(∀x∈d,cDv t x)/\ ∀x∈c,cD1 t x
structure vI (n:Nat) (w:den tNw):Prop where
 top:aDz (nT w).1 (nT w).2
 db:DbD 11 (nK w).1 (nK w).2
 gate:nG w=(12,(nG w).2.1,[])
 res:rQ (nG w).2.1 12 60
 now:aI w=60
 dead:aJ w=[]
 fly:aH w=[]
 drop:dN w=0
 len:(aB w).length<=n
 flows:∀f∈aB w,FlD (nT w) f
 box:aS w=(aB w).map λf=>((f.2.1,f.1,0,[]):den tIb)
 uniq:(aB w).Pairwise λf g=>vH g f=false
 low:∀x∈(nG w).2.1,(3:Int)>=x.1/\(2:Int)>=x.2.2.2.1
 segs:aX0 (nT w) (nK w).1 (nK w).2
 find:∀f∈aB w,∀p∈f.2.2.2.2.2.1,p∈aLq (nT w) (nK w) f.1 f.2.1 60
theorem FlD.tot{t:den tTo}{f:den tFl}(h:FlD t f):tot tFl f<=100:=by
 obtain⟨a,b,c,d,ms,ps,cu,wa,rv⟩:=f;rw[aHg];have h1:=h.msgs;have h2:=aWn h.paths;have h3:rv=[]:=h.rev;rw[h3];simp only at h1 h2;simp only[cGl];omega
theorem bDy{s:den tSg}(h:s.2.2.length<=5):tot tSg s<=5:=by
 have e:tot tSg s=s.2.2.length:=by
  show 0+(0+tot (.sl bU) s.2.2)=_;rw[dQ rfl];omega
 omega
theorem vI.tot{n:Nat}{w:den tNw}(hn:n<=4)(h:vI n w):Go.V.tot tNw w<=1000:=by
 rw[gA];have h1:=h.top.len;have h2:=h.top.links;have h3:=aAu (t:=tSg) (B:=5) (l:=(nK w).1) λx hx=>bDy (h.db.hd x hx)
 have h4:=aAu (t:=tSg) (B:=5) (l:=(nK w).2) λx hx=>bDy (h.db.hc x hx)
 have h5:=aAu (t:=tFl) (B:=100) (l:=aB w) λf hf=>(h.flows f hf).tot
 have h6:=h.db.down;have h7:=h.db.core;have h8:=h.len;have h9:=h.res.len;have h10:(nG w).2.2=[]:=by rw[h.gate]
 have h11:Go.V.tot (.sl tIb) (aS w)<=(0+1) * (aS w).length:=aAu (t:=tIb) λx hx=>by
  rw[h.box]at hx;obtain⟨f,_,rfl⟩:=cE5.1 hx;exact cE8 _
 have h12:(aS w).length=(aB w).length:=by rw[h.box,cFt]
 rw[h.dead,h.fly,h10,aBm,aBm,aBm,dQ (t:=tAS) rfl,dQ (t:=tLk) rfl,dQ (t:=tRs) rfl];omega
theorem vI.mono{n m:Nat}{w:den tNw}(h:vI n w)(hm:n<=m):vI m w:=⟨h.top,h.db,h.gate,h.res,h.now,h.dead,h.fly,h.drop,cEv h.len hm,h.flows,h.box,h.uniq,h.low,h.segs,h.find⟩
def aAt(w:den tNw)(c:List Int)(p h:Int):q36:=
 ((nG w).1,aI w,dN w,(nT w).1,(nT w).2,(nK w).1,(nK w).2,(nG w).2.1,(nG w).2.2,aJ w,aH w,aB w,aS w,c,p,h)
abbrev NwS:=Int×lSg×lSg×Int×Int×Int×lRs×lAS×lLk×lSg×lSg×lUs×lI×lFy×lFl×lIb×lI×Int×Int
abbrev NwR:=Int×Int×Int×lRs×lAS×lLk×lSg×lSg×lUs×lI×lFy×lFl×lIb×lI×Int×Int
def NwI(code:List Int)(n:Nat)(s:NwS):Prop:= ∃as ls d cc res flows box c p h,s=((n:Int),d,cc,12,60,0,res,as,ls,d,cc,[],[],[],flows,box,c,p,h)/\n<=3/\vI (3 - n) ((as,ls),(d,cc),(12,res,[]),60,[],[],flows,box,0)/\Cur code (c,p,h)
def NwQ(code:List Int)(r:NwR):Prop:= ∃as ls d cc res flows box c p h,r=(12,60,0,res,as,ls,d,cc,[],[],[],flows,box,c,p,h)/\vI 3 ((as,ls),(d,cc),(12,res,[]),60,[],[],flows,box,0)/\Cur code (c,p,h)
theorem bQ5{t:den tTo}{f:den tFl}{l:lPt}{now:Int}{n:Nat}(hn:n<=4)(hv:lV f=true)(hs:dF t f.1=true)(hd:dF t f.2.1=true)(hk:f.2.2.2.1=(0:Int))(hr:f.2.2.2.2.2.2.2.2=[])(hm:tot (.sl tMs) f.2.2.2.2.1<=12)(hb:∀m∈f.2.2.2.2.1,sG m)(hl:aNp f.1 f.2.1 24 l):
  FlD t (f.1,f.2.1,f.2.2.1,f.2.2.2.1,f.2.2.2.2.1,(aOy f l now).take n,0,0,f.2.2.2.2.2.2.2.2) where
 val:=by
  rw[nY]at hv ⊢;obtain⟨q1,q2,q3,q4,q5,q6,q7,q8,q9,q10,q11,q12⟩:=hv;exact⟨q1,q2,q3,q4,q5,q6,by simp only[cF6];omega,q8,q9,.inl rfl,rfl,q12⟩
 src:=hs
 dst:=hd
 ack:=hk
 cur:=rfl
 wait:=rfl
 rev:=hr
 paths:=⟨by simp only[cF6];omega,λp hp=>(hl.2 p (aIq (cGj hp))).1⟩
 msgs:=hm
 bytes:=hb
 ends:=λp hp=>(hl.2 p (aIq (cGj hp))).2
theorem bG3{l:lIb}{a b:Int}(h:decide (dU l a b>=0)=false):∀x∈l,qL a b x=false:=by
 have h:=of_decide_eq_false h;unfold dU at h;cases e:l.findIdx? (qL a b) with
 | none=>exact λx hx=>by simpa using List.findIdx?_eq_none_iff.1 e x hx
 | some i=>rw[e]at h;exact absurd (show (0:Int)<=((0+i:Nat):Int) by omega) h
def bSb(code:List Int)(o:Option q36):Prop:= ∃w c' p' h',o=some (aAt w c' p' h')/\vI 3 w/\Cur code (c',p',h')
theorem bVz{code:List Int}(hl:code.length<=1048576){c:List Int}{p h:Int}(hc:Cur code (c,p,h)):bSb code (aAo (c,p,h)):=by
 obtain⟨as,ls,c1,p1,h1,e1,ht,k1⟩:=aVa hl hc;obtain⟨v2,c2,p2,h2,e2,r2,k2⟩:=aL hl (n:=7) (by decide) (by decide) k1;obtain⟨m2,rfl⟩:=cFo r2.1;have w2:wr ((5:Int)+(m2:Int))=((m2+5:Nat):Int):=by rw[bJ (by omega) (by omega)];omega
 unfold aAo dd ixb one vU bJf pj3 pj4 pj5 pj7 pj8 aO bC bK dY kV vE aA2 zz4 zz5 zz6 zz7 zz8 zz9;simp only[aW,bN,bF,bE,bG,e1,e2,aA,w2];refine wW (G:=bSb code) (λ(n:Nat) (s:Int×q47)=> ∃d cc c p h,s=((n:Int),as,ls,d,cc,c,p,h)/\n<=11/\DbD (11 - n) d cc/\aX0 (as,ls) d cc/\Cur code (c,p,h)) (λr:lAS×lLk×lSg×lSg×lI×Int×Int=> ∃d cc c p h,r=(as,ls,d,cc,c,p,h)/\DbD 11 d cc/\aX0 (as,ls) d cc/\Cur code (c,p,h)) ?_ (m2+5) (((m2+5:Nat):Int),as,ls,[],[],c2,p2,h2) ⟨[],[],c2,p2,h2,rfl,by omega,⟨by simp,by simp,λx hx=>(cFi hx).elim,λx hx=>(cFi hx).elim,λx hx=>(cFi hx).elim⟩,⟨λx hx=>(cFi hx).elim,λx hx=>(cFi hx).elim⟩,k2⟩ ?_
 .rintro n s ⟨d,cc,c3,p3,h3,rfl,hn,hk,hseg,k3⟩
  cases n with
  | zero=>exact .inl ⟨_,rfl,d,cc,c3,p3,h3,rfl,hk,hseg,k3⟩
  | succ n=>
   right;obtain⟨v4,c4,p4,h4,e4,k4⟩:=tJ hl (n:=3) (by decide) (by decide) k3;have wn:wr (((n+1:Nat):Int) - 1)=(n:Int):=by rw[bJ (by omega) (by omega)];omega
   have step:∀kind:Int,∃d' cc' c' p' h',(Option.bind (kS (c4,p4,h4) (as,ls) kind) λy58=>Option.bind (wC (as,ls) (y58.1,y58.2.1,y58.2.2.1)) λy59=>Option.bind (oX (as,ls) (d,cc) y59) λy60=>some (y60.1,y60.2,y58.2.2.2.1,y58.2.2.2.2.1,y58.2.2.2.2.2))=some (d',cc',c',p',h')/\DbD (11 - n) d' cc'/\aX0 (as,ls) d' cc'/\Cur code (c',p',h'):=by
    intro kind;obtain⟨a5,b5,hs5,c5,p5,h5,e5,⟨l5,i5⟩,k5⟩:=bE3 hl ht kind k4;obtain⟨hs6,e6,l6,i6,j6⟩:=bNx (as:=as) (ls:=ls) (s:=(a5,b5,hs5)) l5 i5;obtain⟨d7,cc7,e7,q7,m7,n7⟩:=bL1 ht (n:=11 - (n+1)) (by omega) hk (s:=(a5,b5,hs6)) l6 (i6.as (by have :=ht.len;omega));refine⟨d7,cc7,c5,p5,h5,?_,q7.mono (by omega),⟨λx hx=>(m7 x hx).elim (hseg.1 x) λe=>by rw[e.1];exact⟨j6,e.2⟩,λx hx=>(n7 x hx).elim (hseg.2 x) λe=>by rw[e.1];exact⟨j6,e.2⟩⟩,k5⟩;simp only[e5,e6,e7,aA]
   simp only[zX (show ((n+1:Nat):Int)>0 by omega),zZ,e4,aA];cases v4 with
   | true=>
    obtain⟨d',cc',c',p',h',e,q,sg,k⟩:=step 1;refine⟨n,_,by omega,?_,d',cc',c',p',h',rfl,by omega,q,sg,k⟩;simp only[zZ,aA,e,wn]
   | false=>
    obtain⟨d',cc',c',p',h',e,q,sg,k⟩:=step 2;refine⟨n,_,by omega,?_,d',cc',c',p',h',rfl,by omega,q,sg,k⟩;simp only[zY,aA,e,wn]
 rintro r ⟨d,cc,c3,p3,h3,rfl,hk,hseg,k3⟩
 obtain⟨v4,c4,p4,h4,e4,r4,k4⟩:=aL hl (n:=3) (by decide) (by decide) k3;obtain⟨m4,rfl⟩:=cFo r4.1;have w4:wr ((1:Int)+(m4:Int))=((m4+1:Nat):Int):=by rw[bJ (by omega) (by omega)];omega
 have hA:=ht.len;have hL:=ht.links;have smT:SmB 68719476736 tTo (as,ls):=⟨⟨by show as.length<=_;omega,λ_ _=>⟨trivial,trivial,trivial⟩⟩,by show ls.length<=_;omega,λ_ _=>⟨trivial,trivial,trivial,trivial,trivial⟩⟩
 have smK:SmB 68719476736 tDb (d,cc):=⟨aO1 (by omega) hk.down hk.hd,aO1 (by omega) hk.core hk.hc⟩
 have hok:aX7 (as,ls) 60=true:=by unfold aX7;rw[ht.top];rfl
 have e5:=bYz (t:=(as,ls)) (k:=(d,cc)) (c:=12) (now:=60) smT smK;rw[hok,zZ]at e5;simp only[e5,e4,w4,aA];have cap12:cond (inR 12 1 20) (12:Int) 1=12:=rfl;simp only[cap12];refine wW (G:=bSb code) (NwI code) (NwQ code) ?_ (m4+1) (((m4+1:Nat):Int),d,cc,12,60,0,[],as,ls,d,cc,[],[],[],[],[],c4,p4,h4) ⟨as,ls,d,cc,[],[],[],c4,p4,h4,rfl,by omega,⟨ht,hk,rfl,⟨by simp,λx hx=>(cFi hx).elim,λx hx=>(cFi hx).elim,cH1.nil⟩,rfl,rfl,rfl,rfl,cFe _,λx hx=>(cFi hx).elim,rfl,cH1.nil,λx hx=>(cFi hx).elim,hseg,λx hx=>(cFi hx).elim⟩,k4⟩ ?_
 rotate_left
 .rintro r ⟨as,ls,d,cc,res,flows,box,c5,p5,h5,rfl,hd,k5⟩
  exact⟨_,c5,p5,h5,rfl,hd,k5⟩
 .rintro n s ⟨as,ls,d,cc,res,flows,box,c5,p5,h5,rfl,hn,hd,k5⟩
  cases n with
  | zero=>exact .inl ⟨_,rfl,as,ls,d,cc,res,flows,box,c5,p5,h5,rfl,hd,k5⟩
  | succ n=>
   right;obtain⟨a6,b6,c6,p6,h6,e6,⟨ra6,rb6⟩,k6⟩:=bXx hl (by decide) hd.db k5;obtain⟨v7,c7,p7,h7,e7,m7,k7⟩:=tC hl (l:=[(0:Int),(0:Int),((n+1:Nat):Int)]) (by simp) (by simp) k6;obtain⟨v8,c8,p8,h8,e8,r8,k8⟩:=aL hl (n:=3) (by decide) (by decide) k7;obtain⟨m8,rfl⟩:=cFo r8.1;have w8:wr ((1:Int)+(m8:Int))=((m8+1:Nat):Int):=by rw[bJ (by omega) (by omega)];omega
   have wn:wr (((n+1:Nat):Int) - 1)=(n:Int):=by rw[bJ (by omega) (by omega)];omega
   have enf:∀a b c:Int,aAy a b c=some (a,b,c,0,0,0,[],[],[]):=λ_ _ _=>rfl
   simp only[zX (show ((n+1:Nat):Int)>0 by omega),zZ,e6,e7,enf,e8,w8,wn,aA,Option.bind_assoc];refine wW (G:=λo=> ∃m s',m<n+1/\o=some (cEu s')/\NwI code m s') (λ(n:Nat) (s:Int×Int×Int×Int×Int×Int×Int×lMs×lPt×lRv×List Int×q26)=> ∃ms c p h,s=((n:Int),a6,b6,v7,0,0,0,ms,[],[],c,p,h)/\n<=3/\tot (.sl tMs) ms+4 * n<=12/\(∀m∈ms,sG m)/\Cur code (c,p,h)) (λs:Int×Int×Int×Int×Int×Int×lMs×lPt×lRv×List Int×Int×Int=> ∃ms c p h,s=(a6,b6,v7,0,0,0,ms,[],[],c,p,h)/\tot (.sl tMs) ms<=12/\(∀m∈ms,sG m)/\Cur code (c,p,h)) ?_ (m8+1) (((m8+1:Nat):Int),a6,b6,v7,(0:Int),(0:Int),(0:Int),[],[],[],c8,p8,h8) ⟨[],c8,p8,h8,rfl,by omega,by rw[aBm];omega,λm hm=>(cFi hm).elim,k8⟩ ?_
   .rintro i s ⟨ms,c9,p9,h9,rfl,hi,hm,hb,k9⟩
    cases i with
    | zero=>exact .inl ⟨_,rfl,ms,c9,p9,h9,rfl,by omega,hb,k9⟩
    | succ i=>
     right;obtain⟨v10,c10,p10,h10,e10,r10,k10⟩:=aL hl (n:=3) (by decide) (by decide) k9;obtain⟨m10,rfl⟩:=cFo r10.1;obtain⟨l11,c11,p11,h11,e11,⟨r11,b11⟩,k11⟩:=aNs hl (n:=m10) (by omega) k10;have hf:tot tFl (a6,b6,v7,0,ms,[],0,0,[])<=1000:=by rw[aHg];show _+0+0<=_;omega
     have en:=bT2 (f:=(a6,b6,v7,0,ms,[],0,0,[])) (b:=l11) ((bR (B:=1000) hf).mono (by decide)) ⟨by omega,λe he=>trivial⟩;have wi:wr (((i+1:Nat):Int) - 1)=(i:Int):=by rw[bJ (by omega) (by omega)];omega
     simp only[zX (show ((i+1:Nat):Int)>0 by omega),zZ,e10,e11,en,aA,wi];unfold bJa;split
     .refine⟨i,_,by omega,rfl,ms++[l11],c11,p11,h11,rfl,by omega,?_,?_,k11⟩
      .rw[sY,bD3];omega
      .intro m hm;rcases cE4.1 hm with hm | hm
       .exact hb m hm
       .rw[cE3.1 hm];exact b11
     .exact⟨i,_,by omega,rfl,ms,c11,p11,h11,rfl,by omega,by omega,hb,k11⟩
   rintro r ⟨ms,c9,p9,h9,rfl,hm,hb,k9⟩
   obtain⟨l10,e10,hl10⟩:=cDb hd.top (hd.db.mono (by decide)) ra6.1 rb6.1 60;have el10:l10=aLq (as,ls) (d,cc) a6 b6 60:=by
    have e11:=bFq (t:=(as,ls)) (k:=(d,cc)) (cEv (show as.length<=8 from hd.top.len) (by decide)) (cEv (show ls.length<=100 from hd.top.links) (by decide)) (hd.db.s (by decide)) a6 b6 60;exact Option.some.inj (e10.symm.trans e11)
   have tf:tot tFl (a6,b6,v7,0,ms,[],0,0,[])<=1073741824:=by rw[aHg];show _+0+0<=_;omega
   have ea:=bQ6 (w:=((as,ls),(d,cc),(12,res,[]),60,[],[],flows,box,0)) (f:=(a6,b6,v7,0,ms,[],0,0,[])) (l:=l10) (cEv (hd.tot (by omega)) (by decide)) tf (cEv (aWn hl10.d) (by decide)) e10;cases hbad:aMw ((as,ls),(d,cc),(12,res,[]),60,[],[],flows,box,0) (a6,b6,v7,0,ms,[],0,0,[]) with
   | true=>
    rw[hbad]at ea;simp only[zV,cE2]at ea;simp only[ea,aA,bP1,zY];exact⟨n,_,by omega,rfl,as,ls,d,cc,res,flows,box,c9,p9,h9,rfl,by omega,hd.mono (by omega),k9⟩
   | false=>
    rw[hbad]at ea;simp only[cE1,zU,cFa]at ea;simp only[ea,aA,bP1,cCf,zZ];unfold aMw at hbad;simp only[Bool.or_eq_false_iff,Bool.not_eq_false']at hbad;obtain⟨⟨⟨⟨⟨b1,b2⟩,b3⟩,b4⟩,b5⟩,b6'⟩:=hbad;have hnone:=bG3 b6';have hfl:(flows.length:Int)<4:=by have h5: ¬ ((flows.length:Int)>=4):=of_decide_eq_false b5;omega
    have hfl':flows.length<=3 - (n+1):=hd.len;generalize hg:bTr (a6,b6,v7,0,ms,[],0,0,[]) l10 60=g;have hL:((flows++[g]).length:Int)=((flows.length+1:Nat):Int):=by simp
    have wl:wr (((flows.length+1:Nat):Int) - 1)=(flows.length:Int):=by rw[bJ (by omega) (by omega)];omega
    have hx:(flows++[g])[flows.length]? =some g:=by simp
    have hset:∀y,(flows++[g]).set flows.length y=flows++[y]:=λy=>by simp
    have hlt:flows.length<(flows++[g]).length:=by simp
    obtain⟨m,em,hm1,hm4⟩:∃m:Nat,(if (4:Int)<(g.2.2.2.2.2.1.length:Int) then (4:Int) else (g.2.2.2.2.2.1.length:Int))=(m:Int)/\m<=g.2.2.2.2.2.1.length/\m<=4:=by
     by_cases h4:(4:Int)<(g.2.2.2.2.2.1.length:Int)
     .exact⟨4,by rw[zT h4];rfl,by omega,by omega⟩
     .exact⟨g.2.2.2.2.2.1.length,by rw[zS h4],cE8 _,by omega⟩
    have hmem:∀y∈g.2.2.2.2.2.1,gO y:=λy hy=>by
     rw[<- hg]at hy;exact (hl10.2 y (aIq hy)).1
    simp only[hL,wl,zX (show (0:Int)<=(flows.length:Int) by omega),zX (show (flows.length:Int)<((flows.length+1:Nat):Int) by omega),zZ,cE0,hx,aA,aXp,em,aJn hm1,jU,zX hlt,hset];have fin:∀res' c p h,rQ res' 12 60->(∀x∈res',(3:Int)>=x.1/\(2:Int)>=x.2.2.2.1)->Cur code (c,p,h)->NwI code n ((n:Int),d,cc,12,60,0,res',as,ls,d,cc,[],[],[],flows++[(g.1,g.2.1,g.2.2.1,g.2.2.2.1,g.2.2.2.2.1,List.take m g.2.2.2.2.2.1,g.2.2.2.2.2.2.1,g.2.2.2.2.2.2.2.1,g.2.2.2.2.2.2.2.2)],box++[(b6,a6,0,[])],c,p,h):=by
     intro res' c p h hr hlow hc;have hF:FlD (as,ls) (g.1,g.2.1,g.2.2.1,g.2.2.2.1,g.2.2.2.2.1,List.take m g.2.2.2.2.2.1,g.2.2.2.2.2.2.1,g.2.2.2.2.2.2.2.1,g.2.2.2.2.2.2.2.2):=by
      rw[<- hg];exact bQ5 (f:=(a6,b6,v7,0,ms,[],0,0,[])) hm4 b1 b2 b3 rfl rfl hm hb hl10
     have ge1:g.1=a6:=by rw[<- hg];rfl
     have ge2:g.2.1=b6:=by rw[<- hg];rfl
     refine⟨as,ls,d,cc,res',_,_,c,p,h,rfl,by omega,⟨hd.top,hd.db,rfl,hr,rfl,rfl,rfl,rfl,?_,?_,?_,?_,hlow,hd.segs,?_⟩,hc⟩
     .show (flows++[_]).length<=_;simp;omega
     .intro f hf;rcases cE4.1 hf with hf | hf
      .exact hd.flows f hf
      .rw[cE3.1 hf];exact hF
     .show box++[_]=(flows++[_]).map _;rw[cGi,<- show box=flows.map (λf=>((f.2.1,f.1,0,[]):den tIb)) from hd.box];simp only[cFg,List.map_nil,ge1,ge2]
     .show (flows++[_]).Pairwise _;rw[List.pairwise_append];refine⟨hd.uniq,List.pairwise_singleton _ _,λx hx y hy=> ?_⟩;rw[cE3.1 hy];have hbx:((x.2.1,x.1,0,[]):den tIb)∈box:=by
       rw[show box=flows.map (λf=>((f.2.1,f.1,0,[]):den tIb)) from hd.box];exact cE5.2 ⟨x,hx,rfl⟩
      have :=hnone _ hbx;unfold qL at this;unfold vH;rw[Bool.and_comm];simp only[ge1,ge2];exact this
     .intro f hf;rcases cE4.1 hf with hf | hf
      .exact hd.find f hf
      .rw[cE3.1 hf];intro y hy;have hy:y∈g.2.2.2.2.2.1:=cGj hy;show y∈aLq (as,ls) (d,cc) g.1 g.2.1 60;rw[ge1,ge2,<- el10];rw[<- hg]at hy;exact aIq hy
    by_cases hm0:m=0
    .subst hm0;simp only[show decide (((0:Nat):Int)>0)=false from rfl,zY,aA];exact⟨n,_,by omega,rfl,fin res c9 p9 h9 hd.res hd.low k9⟩
    .simp only[zX (show (m:Int)>0 by omega),zZ,aA];cases hgt:decide (g.2.2.1>(0:Int)) with
     | false=>
      simp only[zY,aA];exact⟨n,_,by omega,rfl,fin res c9 p9 h9 hd.res hd.low k9⟩
     | true=>
      have hp:idx (List.take m g.2.2.2.2.2.1) (0:Int)=some (g.2.2.2.2.2.1[0]'(by omega)):=by
       rw[show (0:Int)=((0:Nat):Int) from rfl,aR,cGc,zT (by omega)];exact cEx _
      obtain⟨v11,c11,p11,h11,e11,r11,k11⟩:=aL hl (n:=2) (by decide) (by decide) k9;obtain⟨b12,m12,e12,q12,n12⟩:=aZ7 hd.res (hmem _ (cGh (show 0<g.2.2.2.2.2.1.length by omega))) g.2.2.1 (wr ((1:Int)+v11)) 4000;simp only[zZ,hp,e11,e12,aA,aW,bN,bF,bE,bG];exact⟨n,_,by omega,rfl,fin m12 c11 p11 h11 q12 (λx hx=>(n12 x hx).elim (hd.low x) λe=>by
       rw[e.1,e.2];have g7:g.2.2.1=v7:=by rw[<- hg];rfl
       rw[g7];simp only[cEy,cFi,or_false]at m7;have w11:wr ((1:Int)+v11)=1+v11:=bJ (by omega) (by omega);rw[w11];have h3:v7<=(3:Int):=by
        rcases m7 with e | e | e<;>rw[e]<;>omega
       exact⟨h3,(show (1+v11:Int)<=2 by omega)⟩) k11⟩
def aJi(w:den tNw)(l:List Int):den tNw:=(nT w,nK w,nG w,aI w,l,aH w,aB w,aS w,dN w)
def aB4(w:den tNw)(i:Nat):den tNw:=cC w ((aH w).take i++(aH w).drop (i+1))
theorem bO8{w:den tNw}{i:Nat}{x:den tFy}(hx:(aH w)[i]? =some x)(hl:(aH w).length<=1073741824):wI w (i:Int)=some (lM x (aB4 w i)):=by
 have hlt:i<(aH w).length:=(cEz.1 hx).1;have hx:w.2.2.2.2.2.1[((i:Nat):Int).toNat]? =some x:=by rw[cE0];exact hx
 have h1:decide ((i:Int)<(w.2.2.2.2.2.1.length:Int))=true:=zX (by have :i<w.2.2.2.2.2.1.length:=hlt;omega);have e1:wr ((i:Int)+1)=((i+1:Nat):Int):=(wri (by omega) (by omega)).trans (by omega);have h2:cO ((i+1:Nat):Int) (w.2.2.2.2.2.1.length:Int) (w.2.2.2.2.2.1.length:Int)=true:=aCv (show i+1<=w.2.2.2.2.2.1.length from hlt);have h3:cO (0:Int) (i:Int) (w.2.2.2.2.2.1.length:Int)=true:=aJn (k:=i) (Nat.le_of_lt hlt);have hl:w.2.2.2.2.2.1.length<=1073741824:=hl;unfold wI ixb aM aO bC zz4 zz5 zz6 zz7 zz8 zz9;simp only[h1,hx,aA,zZ,e1,h2,h3,jU,aEc,cFl,aF (b:=128) (n:=([]:lFy).length) (m:=(w.2.2.2.2.2.1.take i).length) (by decide) (by simp;omega),aF (b:=128) (n:=(w.2.2.2.2.2.1.take i).length) (m:=(w.2.2.2.2.2.1.drop (i+1)).length) (by decide) (by simp;omega),zX (show (0:Int)<=(i:Int) by omega)];rfl
def aBf(m:Nat)(dead:List Int)(i:Int)(b:Bool):List Int:=((List.range m).map λk:Nat=>((k:Nat):Int)).filter λk:Int=>(rV dead k&&(k != i))||(b&&(k==i))
def aOz(w:den tNw)(i:Int)(b:Bool):Bool:=(rV (aJ w) i==b)|| !inR i 0 (((nT w).2.length:Int) - 1)
def yC(w:den tNw)(i:Int)(b:Bool):den tNw:=if aOz w i b then w else aJi w (aBf (nT w).2.length (aJ w) i b)
theorem bLd{w:den tNw}{i:Int}{b:Bool}(h1:(nT w).2.length<=1073741824)(h2:(aJ w).length<=68719476736):yI w i b=some (!aOz w i b,bI (yC w i b)):=by
 have w1:wr ((w.1.2.length:Int) - 1)=(w.1.2.length:Int) - 1:=oI (cEv h1 (by decide));have e1:=λn=>aHq (l:=w.2.2.2.2.1) (n:=n) h2
 unfold yI yC aOz zz4 zz5 zz6 zz7 zz8;simp only[e1,aA,w1,iY];cases hb:(rV w.2.2.2.2.1 i==b) with
 | true=>rfl
 | false=>
  simp only[zY,aA,cGx];cases inR i 0 ((w.1.2.length:Int) - 1) with
  | false=>rfl
  | true=>
   simp only[cE2,zY,cE1,zU,cFa];refine jP (G:=λo=>o=some (true,bI (aJi w (aBf (nT w).2.length (aJ w) i b)))) w.1.2.length (λs:Int×List Int=>s.1) (λk s=>s.2.length<=k/\s.2=aBf k (aJ w) i b) (λr:List Int=>r=aBf w.1.2.length (aJ w) i b) ?_ ?_ 0 ((0:Int),[]) (cFe _) rfl ⟨by simp,rfl⟩ ?_
   .rintro k ⟨_,l⟩ hk rfl ⟨g1,g2⟩
    simp only at g1 g2;right;have hk':k<=1073741824:=cEv (Nat.le_of_lt hk) h1;simp only[zX (show (k:Int)<(w.1.2.length:Int) by omega),zZ,aA,aF (b:=8) (n:=l.length) (m:=1) (by decide) (by omega),show wr ((k:Int)+1)=((k+1:Nat):Int) from (wri (by omega) (by omega)).trans (by omega)];have hl:aBf (k+1) (aJ w) i b=aBf k (aJ w) i b++(if (rV (aJ w) (k:Int)&&((k:Int) != i))||(b&&((k:Int)==i)) then [(k:Int)] else []):=by
     unfold aBf;rw[List.range_succ,cGi,List.filter_append];congr 1;simp only[cFg,List.map_nil,cHm,List.filter_nil]
    have hd:aJ w=w.2.2.2.2.1:=rfl;rw[hl,<- g2,hd];cases rV w.2.2.2.2.1 (k:Int)<;>cases hki:((k:Int)==i)<;>cases b<;>simp only[bne,hki,zZ,zY,aA,cE2,cFa,Bool.and_true,cGt,Bool.true_and,cFh,cG4,Bool.or_false,Bool.true_or,cGx,cE1,zV,zU,cFv]<;>first
     | exact⟨_,rfl,rfl,by simp;omega,rfl⟩
     | exact⟨_,rfl,rfl,by simp only;omega,rfl⟩
   .rintro⟨_,l⟩ rfl ⟨g1,g2⟩
    exact⟨l,by simp only[zW (cF5 _),zY],g2⟩
   .rintro r rfl
    rfl
def aHm(f:den tFl)(b:List Int):den tFl:=if lV (enq f b) then enq f b else f
def doW(w:den tNw)(e:den iJ):Bool×den tNw:=
 if e.1==1 then (!decide (aI w>=1000000),dA w)
 else if e.1==2 then (match inR e.2.1 0 (((aH w).length:Int) - 1),(aH w)[e.2.1.toNat]? with
  | true,some x=>(true,dW (aB4 w e.2.1.toNat) x.1 x.2.1 x.2.2)
  | _,_=>(false,w))
 else if e.1==3 then (if inR e.2.1 0 (((aH w).length:Int) - 1) then (true,wX (aB4 w e.2.1.toNat)) else (false,w))
 else if e.1==4 then (match inR e.2.1 0 (((aH w).length:Int) - 1)&& !decide (((aH w).length:Int)>=150),(aH w)[e.2.1.toNat]? with
  | true,some x=>(true,cC w (aH w++[x]))
  | _,_=>(false,w))
 else if e.1==5||e.1==6 then (!aOz w e.2.1 (e.1==5),yC w e.2.1 (e.1==5))
 else if e.1==7 then (if dF (nT w) e.2.2.2.1&& !decide (((aH w).length:Int)>=150) then (true,cC w (aH w++[e.2.2.2])) else (false,w))
 else if e.1==8 then (match inR e.2.1 0 (((aB w).length:Int) - 1),(aB w)[e.2.1.toNat]? with
  | true,some f=>(lV (enq f e.2.2.1),bS w ((aB w).set e.2.1.toNat (aHm f e.2.2.1)))
  | _,_=>(false,w))
 else (false,w)
theorem aYe{α:Type}{l:List α}{n:Int}(hl:l.length<=1073741824)(h:inR n 0 ((l.length:Int) - 1)=true):∃(i:Nat) (x:α),n=(i:Int)/\l[i]? =some x/\decide (n<(l.length:Int))=true/\decide ((0:Int)<=n)=true:=by
 obtain⟨h0,h1⟩:=aZ.1 h;obtain⟨i,rfl⟩:=cFo h0;have hi:i<l.length:=by omega
 exact⟨i,l[i],rfl,cEx hi,zX (by omega),zX h0⟩
theorem bDj{B F:Nat}{w:den tNw}{r inn:Int}{p:den tPk}(hk:fM B F w)(hp:fR p):fM (B+(160+F)) F (dW w r inn p):=by
 obtain⟨h1,h2⟩:=aJ9 hk.bytes hp (r:=r) (inn:=inn);have h3:=aRa w r inn p;have :=hk.flows;have :=hk.tot;exact⟨by omega,by rw[h2];exact hk.flows,h1⟩
theorem bDp{B F:Nat}{w:den tNw}{l:lFy}(hk:fM B F w)(hl:tot (.sl tFy) l<=tot (.sl tFy) (aH w))(hb:∀x∈l,fR x.2.2):fM B F (cC w l):=by
 have h1:=aLy w l;have :=hk.tot;exact⟨by omega,hk.flows,⟨hb,hk.bytes.msg⟩⟩
theorem aLw{B F:Nat}{w:den tNw}(hk:fM B F w)(i:Nat):fM B F (aB4 w i):=by
 refine bDp hk ?_ λx hx=>hk.bytes.fly x ?_
 .have h1:=sY (t:=tFy) ((aH w).take i) ((aH w).drop i);rw[cGd]at h1;rw[sY,h1];have :tot (.sl tFy) ((aH w).drop (i+1))<=tot (.sl tFy) ((aH w).drop i):=by
   cases h:(aH w).drop i with
   | nil=>
    have :(aH w).drop (i+1)=[]:=by rw[<- List.drop_drop,h];rfl
    rw[this];exact cE8 _
   | cons x l=>
    have :(aH w).drop (i+1)=l:=by rw[<- List.drop_drop,h];rfl
    rw[this,kT];omega
  omega
 .rcases cE4.1 hx with hx | hx
  .exact cGj hx
  .exact cGq hx
theorem cEk{B F:Nat}{w:den tNw}{e:den iJ}(hF:F<=1000)(hk:fM B F w)(hB:B+(F+1) * (160+F)<=536870912)(h9:(e.1==(9:Int))=false)(hd:SmB 4294967296 (.sl tb) e.2.2.1)(hp:tot tPk e.2.2.2.2.2<=34359738368):aC2 w e=some ((doW w e).1,bI (doW w e).2):=by
 obtain⟨kd,n,data,to,ing,pk⟩:=e;simp only at h9 hd hp;have hB0:B<=536870912:=by have :=cFe ((F+1) * (160+F));omega
 have hB1:B+F * (160+F)<=536870912:=by rw[cFq]at hB;omega
 have nl:=gA w;have l1:w.2.2.2.2.2.1.length<=1073741824:=bF9 hk (by omega);have l2:w.2.2.2.2.2.2.1.length<=1073741824:=cEv hk.flows (by omega);obtain⟨n1,n2,n3⟩:=aJu hk (by omega);have w1:wr ((w.2.2.2.2.2.1.length:Int) - 1)=(w.2.2.2.2.2.1.length:Int) - 1:=oI (by omega);have w2:wr ((w.2.2.2.2.2.2.1.length:Int) - 1)=(w.2.2.2.2.2.2.1.length:Int) - 1:=oI (by omega);have a1:aK 128 w.2.2.2.2.2.1.length 1=true:=aF (by decide) (by omega);unfold aC2 doW ixb aM iK bHr pj2 dS aO bC bK dY kV vE aA2 aD6 aG1 aHf aP1 aY4 bBs bCn aQ0 zz4 zz5 zz6 zz7 zz8 zz9;simp only[w1,iY,aA];cases c1:(kd==(1:Int)) with
 | true=>
  show Option.bind (wF w) _=_;rw[bXn hF hk hB1];rfl
 | false=>
 cases c2:(kd==(2:Int)) with
 | true=>
  simp only[zY,zZ,cE1,zU,zV];cases hin:inR n 0 ((w.2.2.2.2.2.1.length:Int) - 1) with
  | false=>rfl
  | true=>
   obtain⟨i,x,rfl,hx,_,_⟩:=aYe l1 hin;have hx:(aH w)[i]? =some x:=hx;have e1:=bO8 (w:=w) hx l1;have kg:=aLw hk i;obtain⟨m1,m2,m3⟩:=aJu kg (by omega);have hxm:=cE9 hx;have htx:tot tPk x.2.2<=536870912:=by
    have h1:=tG (t:=tFy) hxm;have h2:tot tFy x=tot tPk x.2.2:=by simp[pC,qU]
    have :=hk.tot;omega
   have e2:=bD1 (w:=aB4 w i) (r:=x.1) (inn:=x.2.1) m1 m2 m3 htx (hk.bytes.fly x hxm);have e3:Option.bind (Option.bind (eN (aB4 w i) x.1 x.2.1 x.2.2) λy4=>some y4) (λs5=>some (true,s5))=some (true,bI (dW (aB4 w i) x.1 x.2.1 x.2.2)):=by rw[e2];rfl
   rw[zZ,e1,aA];have hx':w.2.2.2.2.2.1[((i:Nat):Int).toNat]? =some x:=by rw[cE0];exact hx
   rw[hx'];exact e3
 | false=>
 cases c3:(kd==(3:Int)) with
 | true=>
  simp only[zY,zZ,cE1,zU,zV];cases hin:inR n 0 ((w.2.2.2.2.2.1.length:Int) - 1) with
  | false=>rfl
  | true=>
   obtain⟨i,x,rfl,hx,_,_⟩:=aYe l1 hin;have hx:(aH w)[i]? =some x:=hx;have e1:=bO8 (w:=w) hx l1;rw[zZ,e1,aA];rfl
 | false=>
 cases c4:(kd==(4:Int)) with
 | true=>
  simp only[zY,zZ,cE1,zU,zV];cases hin:inR n 0 ((w.2.2.2.2.2.1.length:Int) - 1) with
  | false=>rfl
  | true=>
   obtain⟨i,x,rfl,hx,hlt,hz⟩:=aYe l1 hin;have hx:(aH w)[i]? =some x:=hx;have hxm:=cE9 hx;have htx:tot tPk x.2.2<=34359738368:=by
    have h1:=tG (t:=tFy) hxm;have h2:tot tFy x=tot tPk x.2.2:=by simp[pC,qU]
    have :=hk.tot;omega
   have hx':w.2.2.2.2.2.1[((i:Nat):Int).toNat]? =some x:=by rw[cE0];exact hx
   have e1:=aCs (fY htx);cases decide ((w.2.2.2.2.2.1.length:Int)>=150) with
   | true=>rfl
   | false=>
    simp only[cE2,cFa,zY,zZ,aA,hlt,hz,hx',a1,cG0];rw[show ((x.2.2.1,x.2.2.2.1,x.2.2.2.2.1,x.2.2.2.2.2.1,x.2.2.2.2.2.2.1,x.2.2.2.2.2.2.2.1,x.2.2.2.2.2.2.2.2.1,x.2.2.2.2.2.2.2.2.2.1,x.2.2.2.2.2.2.2.2.2.2.1,x.2.2.2.2.2.2.2.2.2.2.2):den tPk)=x.2.2 from rfl,e1,aA];rfl
 | false=>
 cases c5:(kd==(5:Int)) with
 | true=>
  simp only[zY,zZ,cE1,zU,zV,aA,Bool.true_or];rw[show ((w.1,w.2.1,w.2.2.1,w.2.2.2.1,w.2.2.2.2.1,w.2.2.2.2.2.1,w.2.2.2.2.2.2.1,w.2.2.2.2.2.2.2.1,w.2.2.2.2.2.2.2.2):den tNw)=w from rfl,bLd n1.links n1.dead];rfl
 | false=>
 cases c6:(kd==(6:Int)) with
 | true=>
  simp only[zY,zZ,cE1,zU,zV,aA,cG4];rw[show ((w.1,w.2.1,w.2.2.1,w.2.2.2.1,w.2.2.2.2.1,w.2.2.2.2.2.1,w.2.2.2.2.2.2.1,w.2.2.2.2.2.2.2.1,w.2.2.2.2.2.2.2.2):den tNw)=w from rfl,bLd n1.links n1.dead];rfl
 | false=>
 cases c7:(kd==(7:Int)) with
 | true=>
  simp only[zY,zZ,cE1,zU,zV,aA,cGn,aP,aFi n1.as];have e1:=aCs (fY hp);cases dF w.1 to with
  | false=>rfl
  | true=>
   cases decide ((w.2.2.2.2.2.1.length:Int)>=150) with
   | true=>rfl
   | false=>
    simp only[cE2,cFa,zY,zZ,aA,a1,e1];rfl
 | false=>
 cases c8:(kd==(8:Int)) with
 | true=>
  simp only[zY,zZ,cE1,zU,zV,aA,cGn,aP];unfold aBa ixb pj2 pj9 zz4 zz5 zz6 zz7 zz8 zz9;simp only[w2,iY,aA,c8,zZ];cases hin:inR n 0 ((w.2.2.2.2.2.2.1.length:Int) - 1) with
  | false=>rfl
  | true=>
   obtain⟨i,x,rfl,hx,hlt,hz⟩:=aYe l2 hin;have hx:(aB w)[i]? =some x:=hx;have hxm:=cE9 hx;have hx':w.2.2.2.2.2.2.1[((i:Nat):Int).toNat]? =some x:=by rw[cE0];exact hx
   have hfx:tot tFl x<=536870912:=by
    have h1:=tG (t:=tFl) hxm;have :=hk.tot;omega
   have e1:=bT2 (f:=x) (b:=data) ((bR hfx).mono (by decide)) hd;have hlt2:decide (((i:Nat):Int).toNat<w.2.2.2.2.2.2.1.length)=true:=zX (by rw[cE0];exact (cEz.1 hx).1);simp only[cE2,zY,zZ,hlt,hz,hx',hlt2,aA];rw[show ((x.1,x.2.1,x.2.2.1,x.2.2.2.1,x.2.2.2.2.1,x.2.2.2.2.2.1,x.2.2.2.2.2.2.1,x.2.2.2.2.2.2.2.1,x.2.2.2.2.2.2.2.2):den tFl)=x from rfl,e1,aA];unfold bJa aHm;cases lV (enq x data)<;>rfl
 | false=>
  simp only[h9,zY,zZ,cE1,zU,zV,aA,cGn];rfl
def aFy(p:den tPt):Prop:=cFd (α:=den tPp) p<=4/\ ∀x:den tPp,x∈(show lPp from p)->x.2.2.2.length<=5
theorem gO.e{p:den tPt}(h:gO p):aFy p:=⟨cEv h.1 (by decide),h.2⟩
theorem bNh{p:den tPt}(h:aFy p):tot tPt p<=24:=by
 have h1:=aAu (t:=tPp) (B:=5) (l:=p) λx hx=>bCl (h.2 x hx)
 have h2:=h.1;show tot (.sl tPp) p<=24;omega
theorem aFy.set{p:lPp}(h:gO p){i:Nat}{x:den tPp}(hx:x.2.2.2.length<=5):aFy (p.set i x):=by
 refine⟨by have :=h.1;show (p.set i x).length<=4;rw[cF8];omega,λy hy=> ?_⟩;rcases cHx (show y∈p.set i x from hy) with hy | rfl
 .exact h.2 y hy
 .exact hx
theorem bOb{code:List Int}(hl:code.length<=1048576){c:List Int}{p h:Int}(hc:Cur code (c,p,h)):∃(q:lPp) (c':List Int) (p' h':Int),aAx (c,p,h)=some (q,c',p',h')/\aFy q/\Cur code (c',p',h'):=by
 obtain⟨as,ls,q,c1,p1,h1,e1,hq,_,k1⟩:=bCt hl hc;unfold aAx ixb pj3 pj4;simp only[e1,aA,aW,bN,bF,bE,bG]
 by_cases h0:q.length=0
 .rw[show ((q.length:Int)==0)=true by rw[beq_iff_eq];omega,zZ];exact⟨q,c1,p1,h1,rfl,hq.e,k1⟩
 have hq3:q.length<=3:=hq.1;rw[show ((q.length:Int)==0)=false by rw[beq_eq_false_iff_ne];omega,zY];obtain⟨v2,c2,p2,h2,e2,r2,k2⟩:=aL hl (n:=(q.length:Int)) (by omega) (by omega) k1;obtain⟨m,rfl⟩:=cFo r2.1;have hm:m<q.length:=by omega
 have hx:q[m]? =some q[m]:=cEx hm;have hx5:q[m].2.2.2.length<=5:=hq.2 _ (cGh hm);obtain⟨v3,c3,p3,h3,e3,r3,k3⟩:=aL hl (n:=12) (by decide) (by decide) k2;simp only[e2,e3,aA,zX (show (0:Int)<=(m:Int) by omega),zX (show (m:Int)<(q.length:Int) by omega),zZ,cE0,hx];cases v3==(0:Int) with
 | true=>
  obtain⟨v4,c4,p4,h4,e4,_,k4⟩:=aL hl (n:=6) (by decide) (by decide) k3;exact⟨_,c4,p4,h4,by simp only[zZ,e4,aA];rfl,aFy.set hq (by exact hx5),k4⟩
 | false=>
 cases v3==(1:Int) with
 | true=>
  obtain⟨v4,c4,p4,h4,e4,k4⟩:=aK7 hl k3;exact⟨_,c4,p4,h4,by simp only[zZ,zY,e4,aA];rfl,aFy.set hq (by exact hx5),k4⟩
 | false=>
 cases v3==(2:Int) with
 | true=>
  have sx:SmB 68719476736 tPp q[m]:=⟨trivial,trivial,trivial,by omega,λ_ _=>⟨trivial,trivial,trivial,trivial,trivial⟩⟩
  refine⟨q++[q[m]],c3,p3,h3,?_,⟨by show (q++[q[m]]).length<=4;simp;omega,λy hy=> ?_⟩,k3⟩
  .simp only[zZ,zY,aP8 (p:=q[m]) (by omega),aP,aA,aF (b:=48) (n:=q.length) (m:=1) (by decide) (by omega)]
  .rcases cE4.1 (show y∈q++[q[m]] from hy) with hy | hy
   .exact hq.2 y hy
   .rw[cE3.1 hy];exact hx5
 | false=>
 cases v3==(3:Int) with
 | true=>
  have s1:cO (1:Int) (q.length:Int) (q.length:Int)=true:=aCv (k:=1) (by omega);have s2:cut q (1:Int) (q.length:Int)=q.drop 1:=aEc (k:=1);refine⟨q.drop 1,c3,p3,h3,by simp only[zZ,zY,s1,s2,aA],⟨by show (q.drop 1).length<=4;simp;omega,λy hy=>hq.2 y (cGq (show y∈q.drop 1 from hy))⟩,k3⟩
 | false=>
 cases v3==(4:Int) with
 | false=>exact⟨q,c3,p3,h3,by simp only[zY,aA],hq.e,k3⟩
 | true=>
  simp only[zZ,zY]
  by_cases hp:(q[m].2.2.2.length:Int)>0
  .obtain⟨v4,c4,p4,h4,e4,r4,k4⟩:=aL hl (n:=(q[m].2.2.2.length:Int)) hp (by omega) k3;obtain⟨i,rfl⟩:=cFo r4.1;have hi:i<q[m].2.2.2.length:=by omega
   obtain⟨v5,c5,p5,h5,e5,k5⟩:=aK7 hl k4;refine⟨_,c5,p5,h5,?_,aFy.set hq (i:=m) (x:=(q[m].1,q[m].2.1,q[m].2.2.1,q[m].2.2.2.set i (q[m].2.2.2[i].1,q[m].2.2.2[i].2.1,q[m].2.2.2[i].2.2.1,q[m].2.2.2[i].2.2.2.1,v5))) (by show (q[m].2.2.2.set i _).length<=5;rw[cF8];exact hx5),k5⟩;simp only[zX hp,zZ,e4,e5,aA,zX (show (0:Int)<=(i:Int) by omega),zX (show (i:Int)<(q[m].2.2.2.length:Int) by omega),cE0,cEx hi,aW,bN,bF,bE,bG]
  .exact⟨q,c3,p3,h3,by simp only[zW hp,zY,aA],hq.e,k3⟩
structure bQq (p:den tPk):Prop where
 path:aFy p.2.2.2.1
 len:p.2.2.2.2.2.2.2.2.2.length<=1000
 bytes:fR p
theorem aUh(p:den tPk):tot tPk p=tot tPt p.2.2.2.1+p.2.2.2.2.2.2.2.2.2.length:=by
 have e:tot tPk p=tot tPt p.2.2.2.1+tot (.sl tb) p.2.2.2.2.2.2.2.2.2:=by simp[pC,qU]
 rw[e,dQ (t:=tb) rfl]
theorem bQ2{p:den tPk}(h:bQq p):tot tPk p<=1100:=by
 have h1:=bNh h.path;have h2:=h.len;rw[aUh];omega
theorem bLx{code:List Int}(hl:code.length<=1048576){c:List Int}{p h:Int}(hc:Cur code (c,p,h)):∃(as:lAS) (ls:lLk) (k:den tPk) (c':List Int) (p' h':Int),aAj (c,p,h)=some (as,ls,k.1,k.2.1,k.2.2.1,k.2.2.2.1,k.2.2.2.2.1,k.2.2.2.2.2.1,k.2.2.2.2.2.2.1,k.2.2.2.2.2.2.2.1,k.2.2.2.2.2.2.2.2.1,k.2.2.2.2.2.2.2.2.2,c',p',h')/\bQq k/\aDz as ls/\Cur code (c',p',h'):=by
 obtain⟨as,ls,k,c1,p1,h1,e1,hk,kt,k1⟩:=bYh hl hc;obtain⟨v2,c2,p2,h2,e2,r2,k2⟩:=aL hl (n:=14) (by decide) (by decide) k1;have hkp:bQq k:=⟨hk.path.e,hk.len,hk.bytes⟩
 unfold aAj pj3 pj4 aO bC bK zz4 zz5 zz6 zz7 zz8 zz9;simp only[e1,e2,aA,aW,bN,bF,bE,bG];cases v2==(0:Int) with
 | true=>
  obtain⟨v3,c3,p3,h3,e3,_,k3⟩:=aL hl (n:=4) (by decide) (by decide) k2;exact⟨as,ls,(k.1,k.2.1,k.2.2.1,k.2.2.2.1,wr (v3 - 1),k.2.2.2.2.2.1,k.2.2.2.2.2.2.1,k.2.2.2.2.2.2.2.1,k.2.2.2.2.2.2.2.2.1,k.2.2.2.2.2.2.2.2.2),c3,p3,h3,by simp only[zZ,e3,aA],⟨hkp.path,hkp.len,hkp.bytes⟩,kt,k3⟩
 | false=>
 cases v2==(1:Int) with
 | true=>
  obtain⟨v3,c3,p3,h3,e3,_,k3⟩:=aL hl (n:=4) (by decide) (by decide) k2;exact⟨as,ls,(k.1,k.2.1,k.2.2.1,k.2.2.2.1,k.2.2.2.2.1,wr (v3 - 1),k.2.2.2.2.2.2.1,k.2.2.2.2.2.2.2.1,k.2.2.2.2.2.2.2.2.1,k.2.2.2.2.2.2.2.2.2),c3,p3,h3,by simp only[zZ,zY,e3,aA],⟨hkp.path,hkp.len,hkp.bytes⟩,kt,k3⟩
 | false=>
 cases v2==(2:Int) with
 | true=>
  obtain⟨v3,c3,p3,h3,e3,k3⟩:=aK7 hl k2;exact⟨as,ls,(k.1,k.2.1,k.2.2.1,k.2.2.2.1,k.2.2.2.2.1,k.2.2.2.2.2.1,v3,k.2.2.2.2.2.2.2.1,k.2.2.2.2.2.2.2.2.1,k.2.2.2.2.2.2.2.2.2),c3,p3,h3,by simp only[zZ,zY,e3,aA],⟨hkp.path,hkp.len,hkp.bytes⟩,kt,k3⟩
 | false=>
 cases v2==(3:Int) with
 | true=>
  obtain⟨v3,c3,p3,h3,e3,_,k3⟩:=aL hl (n:=9) (by decide) (by decide) k2;exact⟨as,ls,(k.1,k.2.1,v3,k.2.2.2.1,k.2.2.2.2.1,k.2.2.2.2.2.1,k.2.2.2.2.2.2.1,k.2.2.2.2.2.2.2.1,k.2.2.2.2.2.2.2.2.1,k.2.2.2.2.2.2.2.2.2),c3,p3,h3,by simp only[zZ,zY,e3,aA],⟨hkp.path,hkp.len,hkp.bytes⟩,kt,k3⟩
 | false=>
 cases v2==(4:Int) with
 | true=>
  obtain⟨v3,c3,p3,h3,e3,_,k3⟩:=tC hl (l:=[(-1:Int),(100000:Int),(100001:Int)]) (by decide) (by decide) k2;exact⟨as,ls,(k.1,k.2.1,k.2.2.1,k.2.2.2.1,k.2.2.2.2.1,k.2.2.2.2.2.1,k.2.2.2.2.2.2.1,k.2.2.2.2.2.2.2.1,v3,k.2.2.2.2.2.2.2.2.2),c3,p3,h3,by simp only[zZ,zY,e3,aA],⟨hkp.path,hkp.len,hkp.bytes⟩,kt,k3⟩
 | false=>
 cases v2==(5:Int) with
 | true=>
  obtain⟨q3,c3,p3,h3,e3,hq,k3⟩:=bOb hl k2;exact⟨as,ls,(k.1,k.2.1,k.2.2.1,q3,k.2.2.2.2.1,k.2.2.2.2.2.1,k.2.2.2.2.2.2.1,k.2.2.2.2.2.2.2.1,k.2.2.2.2.2.2.2.2.1,k.2.2.2.2.2.2.2.2.2),c3,p3,h3,by simp only[zZ,zY,e3,aA],⟨hq,hkp.len,hkp.bytes⟩,kt,k3⟩
 | false=>
 cases v2==(6:Int) with
 | true=>
  obtain⟨v3,c3,p3,h3,e3,_,k3⟩:=aL hl (n:=6) (by decide) (by decide) k2;exact⟨as,ls,(wr (v3 - 1),k.2.1,k.2.2.1,k.2.2.2.1,k.2.2.2.2.1,k.2.2.2.2.2.1,k.2.2.2.2.2.2.1,k.2.2.2.2.2.2.2.1,k.2.2.2.2.2.2.2.2.1,k.2.2.2.2.2.2.2.2.2),c3,p3,h3,by simp only[zZ,zY,e3,aA],⟨hkp.path,hkp.len,hkp.bytes⟩,kt,k3⟩
 | false=>exact⟨as,ls,k,c2,p2,h2,by simp only[zY,aA],hkp,kt,k2⟩
structure EvD (w:den tNw) (e:den iJ):Prop where
 lo:(1:Int)<=e.1
 hi:(8:Int)>=e.1
 data:e.2.2.1.length<=3/\sG e.2.2.1
 pk:tot tPk e.2.2.2.2.2<=1100/\fR e.2.2.2.2.2
 harm:harm w e=true
structure EvS (e:den iJ):Prop where
 data:e.2.2.1.length<=3/\sG e.2.2.1
 pk:tot tPk e.2.2.2.2.2<=1100/\fR e.2.2.2.2.2
theorem EvD.s{w:den tNw}{e:den iJ}(h:EvD w e):EvS e:=⟨h.data,h.pk⟩
structure bP7 (w:den tNw):Prop where
 tot:tot tNw w<=536870912
 as:1<=(nT w).1.length/\(nT w).1.length<=8
 links:(nT w).2.length<=200
 flyN:(aH w).length<=200
 fly:∀x∈aH w,Go.V.tot tPk x.2.2<=1100
 bytes:∀x∈aH w,fR x.2.2
 flows:(aB w).length<=4
theorem bIk{w:den tNw}{e:den iJ}(h:(e.1==(7:Int))=false):harm w e=true:=by
 unfold harm;rw[h];rfl
theorem bK2{w:den tNw}{to ing:Int}{pk:den tPk}:harm w ((7:Int),(0:Int),[],(to,ing,((3:Int),pk.2)))=true:=by
 unfold harm vV;rw[show (((3:Int),pk.2):den tPk).1=3 from rfl,show ((3:Int)==3)=true from rfl,cG4,cG4];rfl
def fgR(w:den tNw)(e:den iJ)(c:List Int)(p h:Int):q7:=
 (e.1,e.2.1,e.2.2.2.1,e.2.2.2.2.1,e.2.2.2.2.2.1,e.2.2.2.2.2.2.1,e.2.2.2.2.2.2.2.1,e.2.2.2.2.2.2.2.2.1,e.2.2.2.2.2.2.2.2.2.1,e.2.2.2.2.2.2.2.2.2.2.1,e.2.2.2.2.2.2.2.2.2.2.2.1,e.2.2.2.2.2.2.2.2.2.2.2.2.1,e.2.2.2.2.2.2.2.2.2.2.2.2.2.1,e.2.2.2.2.2.2.2.2.2.2.2.2.2.2,e.2.2.1,c,p,h,aH w,aB w,aS w)
def nxR(w:den tNw)(e:den iJ)(c:List Int)(p h:Int):q7:=
 (e.1,e.2.1,e.2.2.2.1,e.2.2.2.2.1,e.2.2.2.2.2.1,e.2.2.2.2.2.2.1,e.2.2.2.2.2.2.2.1,e.2.2.2.2.2.2.2.2.1,e.2.2.2.2.2.2.2.2.2.1,e.2.2.2.2.2.2.2.2.2.2.1,e.2.2.2.2.2.2.2.2.2.2.2.1,e.2.2.2.2.2.2.2.2.2.2.2.2.1,e.2.2.2.2.2.2.2.2.2.2.2.2.2.1,e.2.2.1,e.2.2.2.2.2.2.2.2.2.2.2.2.2.2,c,p,h,aH w,aB w,aS w)
theorem bLa{code:List Int}(hl:code.length<=1048576){w:den tNw}(hw:bP7 w){c:List Int}{p h:Int}(hc:Cur code (c,p,h)):∃e c' p' h',pD (c,p,h) w=some (fgR w e c' p' h')/\EvD w e/\Cur code (c',p',h'):=by
 obtain⟨as,ls,k,c1,p1,h1,e1,hk,_,k1⟩:=bLx hl hc;have ha:1<=w.1.1.length/\w.1.1.length<=8:=hw.as;have hfn:=hw.flyN;obtain⟨v2,c2,p2,h2,e2,r2,k2⟩:=aL hl (n:=(w.1.1.length:Int)) (by omega) (by omega) k1;obtain⟨v3,c3,p3,h3,e3,r3,k3⟩:=aL hl (n:=7) (by decide) (by decide) k2;have sw:SmB 68719476736 tNw w:=(bR hw.tot).mono (by decide);have fin:∀(k:den tPk) (c:List Int) (p h:Int),tot tPk k<=1100->fR k->Cur code (c,p,h)-> ∃e c' p' h',(Option.bind (Option.bind (qV w ((7:Int),(0:Int),[],(v2,v3,(k.1,k.2.1,k.2.2.1,k.2.2.2.1,k.2.2.2.2.1,k.2.2.2.2.2.1,k.2.2.2.2.2.2.1,k.2.2.2.2.2.2.2.1,k.2.2.2.2.2.2.2.2.1,k.2.2.2.2.2.2.2.2.2)))) λy31=>cond (!y31) (some ((7:Int),(0:Int),v2,v3,(3:Int),k.2.1,k.2.2.1,k.2.2.2.1,k.2.2.2.2.1,k.2.2.2.2.2.1,k.2.2.2.2.2.2.1,k.2.2.2.2.2.2.2.1,k.2.2.2.2.2.2.2.2.1)) (some ((7:Int),(0:Int),v2,v3,k.1,k.2.1,k.2.2.1,k.2.2.2.1,k.2.2.2.2.1,k.2.2.2.2.2.1,k.2.2.2.2.2.2.1,k.2.2.2.2.2.2.2.1,k.2.2.2.2.2.2.2.2.1))) λs32=>some (s32.1,s32.2.1,s32.2.2.1,s32.2.2.2.1,s32.2.2.2.2.1,s32.2.2.2.2.2.1,s32.2.2.2.2.2.2.1,s32.2.2.2.2.2.2.2.1,s32.2.2.2.2.2.2.2.2.1,s32.2.2.2.2.2.2.2.2.2.1,s32.2.2.2.2.2.2.2.2.2.2.1,s32.2.2.2.2.2.2.2.2.2.2.2.1,s32.2.2.2.2.2.2.2.2.2.2.2.2,k.2.2.2.2.2.2.2.2.2,([]:List Int),c,p,h,w.2.2.2.2.2.1,w.2.2.2.2.2.2.1,w.2.2.2.2.2.2.2.1))=some (fgR w e c' p' h')/\EvD w e/\Cur code (c',p',h'):=by
  intro k c p h ht hb hc;have se:SmB 68719476736 iJ ((7:Int),(0:Int),[],(v2,v3,k)):=⟨trivial,trivial,⟨by simp,λx hx=>trivial⟩,trivial,trivial,(bR ht).mono (by decide)⟩
  have e9:qV w ((7:Int),(0:Int),[],(v2,v3,(k.1,k.2.1,k.2.2.1,k.2.2.2.1,k.2.2.2.2.1,k.2.2.2.2.2.1,k.2.2.2.2.2.2.1,k.2.2.2.2.2.2.2.1,k.2.2.2.2.2.2.2.2.1,k.2.2.2.2.2.2.2.2.2)))=some (harm w ((7:Int),(0:Int),[],(v2,v3,k))):=cBq sw se;rw[e9,aA];cases hb':harm w ((7:Int),(0:Int),[],(v2,v3,k)) with
  | true=>exact⟨((7:Int),(0:Int),[],(v2,v3,k)),c,p,h,rfl,⟨by show (1:Int)<=7;decide,by show (8:Int)>=7;decide,⟨cFe _,λx hx=>(cFi hx).elim⟩,⟨ht,hb⟩,hb'⟩,hc⟩
  | false=>exact⟨((7:Int),(0:Int),[],(v2,v3,((3:Int),k.2))),c,p,h,rfl,⟨by show (1:Int)<=7;decide,by show (8:Int)>=7;decide,⟨cFe _,λx hx=>(cFi hx).elim⟩,⟨ht,hb⟩,bK2⟩,hc⟩
 unfold pD ixb aM pj3 pj4 dS aO bC bK dY kV vE aA2 zz4 zz5 zz6 zz7 zz8 zz9;simp only[e1,e2,e3,aA,aW,bN,bF,bE,bG];have done:=λc p h hc=>fin k c p h (bQ2 hk) hk.bytes hc
 by_cases hf:(w.2.2.2.2.2.1.length:Int)>0
 .obtain⟨v4,c4,p4,h4,e4,k4⟩:=tJ hl (n:=2) (by decide) (by decide) k3;simp only[zX hf,zZ,e4,aA];cases v4 with
  | false=>
   simp only[zY,aA];exact done c4 p4 h4 k4
  | true=>
   have hfn:w.2.2.2.2.2.1.length<=200:=hfn;obtain⟨v5,c5,p5,h5,e5,r5,k5⟩:=aL hl (n:=(w.2.2.2.2.2.1.length:Int)) hf (by omega) k4;obtain⟨i,rfl⟩:=cFo r5.1;have hi:i<w.2.2.2.2.2.1.length:=by omega
   have hx:w.2.2.2.2.2.1[i]? =some w.2.2.2.2.2.1[i]:=cEx hi;have hm:w.2.2.2.2.2.1[i]∈aH w:=cGh hi;have ht:=hw.fly _ hm;have hb:=hw.bytes _ hm;generalize w.2.2.2.2.2.1[i]=x at hx hm ht hb;have e6:=aCs (p:=x.2.2) (fY (cEv ht (by decide)));obtain⟨v7,c7,p7,h7,e7,k7⟩:=tJ hl (n:=2) (by decide) (by decide) k5;simp only[zZ,e5,aA,zX (show (0:Int)<=(i:Int) by omega),zX (show (i:Int)<(w.2.2.2.2.2.1.length:Int) by omega),cE0,hx,aP,e6,e7];cases v7 with
   | false=>
    simp only[zY,aA];exact fin x.2.2 c7 p7 h7 ht hb k7
   | true=>
    obtain⟨v8,c8,p8,h8,e8,k8⟩:=aK7 hl k7;simp only[zZ,e8,aA];exact fin (x.2.2.1,x.2.2.2.1,x.2.2.2.2.1,x.2.2.2.2.2.1,x.2.2.2.2.2.2.1,x.2.2.2.2.2.2.2.1,v8,x.2.2.2.2.2.2.2.2.2.1,x.2.2.2.2.2.2.2.2.2.2.1,x.2.2.2.2.2.2.2.2.2.2.2) c8 p8 h8 ht hb k8
 .simp only[zW hf,zY,aA];exact done c3 p3 h3 k3
end Go.Proofs.YtnkjolpkcmgcaaaGreat
