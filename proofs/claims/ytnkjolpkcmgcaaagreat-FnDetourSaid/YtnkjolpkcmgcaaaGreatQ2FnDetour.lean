/-
  Facts and plain laws: what the functions compute, in plain words. Conditions: as each says.
-/
import Derived.Test.YtnkjolpkcmgcaaaGreatQ1FnDetour
open Bool renaming false_eq_true->bZ8,and_eq_true->bZu,not_eq_true'->cAx
open Int renaming le_trans->cA6,le_refl->cAu,toNat_natCast->bZ4,eq_ofNat_of_zero_le->cA0
open List renaming length_map->cAr,mem_cons->bZx,getElem?_eq_some_iff->bZy,getElem?_set_ne->cCu,mem_cons_self->bZ6,mem_cons_of_mem->bZ0,length_cons->cAy,getElem?_map->cBq,mem_append->bZ2,mem_singleton->bZz,getElem?_eq_getElem->bZw,getElem_mem->cBd,getElem?_set_self->cB4,mem_of_getElem?->bZ9,length_set->cBl,mem_filter->cAa,not_mem_nil->cAj,mem_iff_getElem?->cC6,mem_flatMap->cAm,all_eq_true->cAi,mem_of_mem_drop->cBk
open Nat renaming le_refl->bZ7,add_le_add_right->cBy,zero_le->cAe,le_add_left->cBo,le_succ->cAw,le_trans->bZv,not_lt_zero->cCh
set_option linter.unusedVariables false
set_option linter.unusedSimpArgs false
set_option maxRecDepth 100000
namespace Go.Proofs.YtnkjolpkcmgcaaaGreat
open Go.Ab Go.V
theorem aYy{t:den tTo}{now:Int}{dead:List Int}:∀(n:Nat) (r inn:Int) (p:den tPk) (st:bM),(aEv t now dead n r inn p st).1=1->Arr t now dead r inn p
 | 0,r,inn,p,st,h=>absurd (show (0:Int)=1 from h) (by decide)
 | n+1,r,inn,p,st,h=>by
  unfold aEv at h;cases c1:(aD t now dead r inn p).1==1 with
  | true=>exact .here (eq_of_beq c1)
  | false=>
   cases c0:(aD t now dead r inn p).1==0 with
   | true=>
    rw[c0,c1]at h;simp only[Bool.true_or,zV,bZ8,zU]at h;exact .step (eq_of_beq c0) (aYy n _ _ _ _ h)
   | false=>
    rw[c0,c1]at h;simp only[Bool.or_self,bZ8,zU]at h;rw[h]at c1;exact absurd c1 (by decide)
theorem bCp{t:den tTo}{a n b:Int}(h1:a<=n)(h2:n<=b){p:den tPk}(ha:dO t a p=0)(hb:dO t b p=0):dO t n p=0:=by
 unfold dO at ha hb ⊢;split at ha
 .rename_i hs;rw[zT hs]at hb ⊢;split at ha
  .rename_i ta;split at hb
   .rename_i tb;have :wN p n=true:=by
     unfold wN at ta tb ⊢;simp only[bZu,cAx,decide_eq_false_iff_not,zR]at ta tb ⊢;exact⟨ta.1,leI (cA6 ta.2.1 h1),leI (cA6 h2 tb.2.2)⟩
    rw[zT this]
   .exact absurd hb (show ¬ (5:Int)=0 by decide)
  .exact absurd ha (show ¬ (5:Int)=0 by decide)
 .exact absurd ha (show ¬ (4:Int)=0 by decide)
theorem bC7{t:den tTo}{a n b:Int}(h1:a<=n)(h2:n<=b):∀(k:Nat) (p:den tPk),(goC t a k p).1=0->(goC t b k p).1=0->goC t n k p=goC t a k p
 | 0,p,ha,hb=>by
  unfold goC at ha hb ⊢;rw[bCp h1 h2 ha hb,show dO t a p=0 from ha]
 | k+1,p,ha,hb=>by
  have ca:=zO ha;have cb:=zO hb;have cn:=bCp h1 h2 ca cb;unfold goC at ha hb ⊢;rw[ca]at ha ⊢;rw[cb]at hb;rw[cn];split at ha
  .rename_i hc;rw[zT hc]at hb ⊢;rw[zT hc];exact bC7 h1 h2 k _ ha hb
  .rename_i hc;rw[zS hc];exact (zS hc).symm
theorem aNc{t:den tTo}{a n b:Int}(h1:a<=n)(h2:n<=b){dead:List Int}{r inn:Int}{p:den tPk}(ha:(aD t a dead r inn p).1=0\/(aD t a dead r inn p).1=1)(hb:(aD t b dead r inn p).1=0\/(aD t b dead r inn p).1=1):aD t n dead r inn p=aD t a dead r inn p:=by
 have ga:=(qS (t:=t) (r:=r) (now:=a) (dead:=eG t dead r) (inn:=inn) (p:=p) (ha.elim .inl λe=> .inr (.inl e))).go;have gb:=(qS (t:=t) (r:=r) (now:=b) (dead:=eG t dead r) (inn:=inn) (p:=p) (hb.elim .inl λe=> .inr (.inl e))).go;have e:bA t n p=bA t a p:=bC7 h1 h2 _ p ga gb;unfold aD fwd;rw[e]
theorem Arr.code{t:den tTo}{now:Int}{dead:List Int}{r inn:Int}{p:den tPk}(h:Arr t now dead r inn p):(aD t now dead r inn p).1=0\/(aD t now dead r inn p).1=1:=by
 exact h.or.elim .inr λe=> .inl e.1
theorem Arr.mid{t:den tTo}{a n b:Int}(h1:a<=n)(h2:n<=b){dead:List Int}{r inn:Int}{p:den tPk}(ha:Arr t a dead r inn p)(hb:Arr t b dead r inn p):Arr t n dead r inn p:=by
 refine Arr.ind (M:=λr inn p=>Arr t b dead r inn p->Arr t n dead r inn p) (λr inn p h hb=> ?_) (λr inn p h k ih hb=> ?_) ha hb
 .have e:=aNc h1 h2 (.inr h) hb.code;exact .here (by rw[e];exact h)
 .have e:=aNc h1 h2 (.inl h) hb.code;have e2:=aNc (cA6 h1 h2) (cAu b) (.inl h) hb.code;refine .step (by rw[e];exact h) ?_;rw[e];rcases hb.or with g | ⟨g,kb⟩
  .rw[e2,h]at g;exact absurd g (by decide)
  .rw[e2]at kb;exact ih kb
def mK(p:den tPk)(m:Int×Int×Int×List Int):den tPk:=(m.1,p.2.1,p.2.2.1,p.2.2.2.1,p.2.2.2.2.1,p.2.2.2.2.2.1,p.2.2.2.2.2.2.1,m.2.1,m.2.2.1,m.2.2.2)
def okM(m:Int×Int×Int×List Int):Bool:=inR m.1 1 3&&(inR m.2.1 0 100000&&(inR m.2.2.1 0 100000&&decide ((m.2.2.2.length:Int)<=40)))
theorem bLb{p:den tPk}{m:Int×Int×Int×List Int}(h:dR p=true)(hm:okM m=true):dR (mK p m)=true:=by
 unfold dR at h|-;unfold okM at hm;simp only[bZu]at h hm ⊢;exact⟨hm.1,h.2.1,h.2.2.1,h.2.2.2.1,h.2.2.2.2.1,h.2.2.2.2.2.1,h.2.2.2.2.2.2.1,hm.2.1,hm.2.2.1,hm.2.2.2⟩
theorem aRj(t:den tTo)(p:den tPk)(m:Int×Int×Int×List Int):aX t (mK p m)=mK (aX t p) m:=by
 have e:yU t (mK p m)=yU t p:=rfl;unfold aX;rw[e];split<;>rfl
theorem bDl(p:den tPk)(m:Int×Int×Int×List Int):adv (mK p m)=mK (adv p) m:=by
 have e1:cF (mK p m)=cF p:=rfl;have e2:dQ (mK p m)=dQ p:=rfl;have e3:dI (mK p m)=dI p:=rfl;unfold adv;rw[e1,e2,e3];split
 .rfl
 .split<;>rfl
theorem bCr{t:den tTo}{now:Int}(m:Int×Int×Int×List Int):∀(n:Nat) (p:den tPk),goC t now n (mK p m)=((goC t now n p).1,mK (goC t now n p).2 m)
 | 0,p=>by
  unfold goC;rw[aRj];rfl
 | n+1,p=>by
  have e:dO t now (mK p m)=dO t now p:=rfl;have e2:dI (mK (aX t p) m)=dI (aX t p):=rfl;have e3:dQ (mK (aX t p) m)=dQ (aX t p):=rfl;unfold goC;rw[aRj,e,e2,e3,bDl,bCr m n];split<;>rfl
theorem bS4{t:den tTo}{r now dead inn:Int}{p:den tPk}{m:Int×Int×Int×List Int}(h:dR p=true)(hm:dR (mK p m)=true):fwd t r now dead inn (mK p m)=((fwd t r now dead inn p).1,(fwd t r now dead inn p).2.1,mK (fwd t r now dead inn p).2.2.1 m,(fwd t r now dead inn p).2.2.2):=by
 have g:bA t now (mK p m)=((bA t now p).1,mK (bA t now p).2 m):=bCr m _ p;have e1:cF (mK p m)=cF p:=rfl;have e2:aL4 (mK p m)=aL4 p:=rfl;have e3:∀q,dQ (mK q m)=dQ q:=λ_=>rfl
 have e4:∀q,pEg (bQ (mK q m)) (dN (mK q m))=pEg (bQ q) (dN q):=λ_=>rfl
 have e5:∀q:den tPk,(mK q m).2.2.1=q.2.2.1:=λ_=>rfl
 have e6:(mK p m).2.2.2.1=p.2.2.2.1:=rfl;unfold fwd;rw[h,hm,g,e1,e2,e6];simp only[e3,e4,e5,bDl]
 repeat' split
 all_goals rfl
theorem aZn{t:den tTo}{now:Int}{dead:List Int}{r inn:Int}{p:den tPk}{m:Int×Int×Int×List Int}(h:dR p=true)(hm:okM m=true):aD t now dead r inn (mK p m)=((aD t now dead r inn p).1,(aD t now dead r inn p).2.1,mK (aD t now dead r inn p).2.2.1 m,(aD t now dead r inn p).2.2.2):=bS4 h (bLb h hm)
theorem Arr.thru{t:den tTo}{now:Int}{dead:List Int}{r inn:Int}{p:den tPk}(h:Arr t now dead r inn p):bW6 t r now (eG t dead r) inn p:=qS (h.code.elim .inl λe=> .inr (.inl e))
theorem Arr.set{t:den tTo}{now:Int}{dead:List Int}{r inn:Int}{p:den tPk}{m:Int×Int×Int×List Int}(hm:okM m=true)(h:Arr t now dead r inn p):Arr t now dead r inn (mK p m):=by
 refine Arr.ind (M:=λr inn p=>Arr t now dead r inn (mK p m)) (λr inn p h=> ?_) (λr inn p h k ih=> ?_) h
 .have e:=aZn (now:=now) (dead:=dead) (r:=r) (inn:=inn) (Arr.here h).thru.val hm (t:=t);exact .here (by rw[e];exact h)
 .have e:=aZn (now:=now) (dead:=dead) (r:=r) (inn:=inn) (Arr.step h k).thru.val hm (t:=t);refine .step (by rw[e];exact h) ?_;rw[e];exact ih
theorem aFg{t:den tTo}{now:Int}{dead:List Int}{p:den tPt}(h:wO t now dead p=true):Arr t now dead (ends p).1 0 (dT 1 p 0 0 []):=aYy 30 _ _ _ _ (eq_of_beq h)
theorem Arr.alive{t:den tTo}{now:Int}{dead:List Int}{r inn:Int}{p:den tPk}(h:Arr t now dead r inn p):∀x∈fut p,aBy (eG t dead x.1) x.2=false:=by
 refine Arr.ind (M:=λr inn p=> ∀x∈fut p,aBy (eG t dead x.1) x.2=false) (λr inn p h=> ?_) (λr inn p h k ih=> ?_) h
 .intro x hx;have th:=qS (t:=t) (r:=r) (now:=now) (dead:=eG t dead r) (inn:=inn) (p:=p) (.inr (.inl h));have h:(fwd t r now (eG t dead r) inn p).1=1:=h;have :fut p=[]:=by
   obtain⟨g1,g2,g3⟩:=aUv (aFd th.sim) th.go;have b:fut (bA t now p).2=fut p:=aSx _ p th.go;have hl:dQ (bA t now p).2=true:=by
    unfold fwd at h;split at h
    .exact absurd h (show ¬ ((2:Int)=1) by decide)
    split at h
    .exact absurd h (show ¬ ((3:Int)=1) by decide)
    split at h
    .rw[th.go]at h;exact absurd h (show ¬ ((0:Int)=1) by decide)
    split at h
    .rename_i c;exact c
    split at h
    .exact absurd h (show ¬ ((6:Int)=1) by decide)
    split at h
    .exact absurd h (show ¬ ((7:Int)=1) by decide)
    .exact absurd h (show ¬ ((0:Int)=1) by decide)
   obtain⟨q1,q2,_⟩:=aBd (t:=t) (now:=now) (p.2.2.2.1.length - p.2.2.2.2.1.toNat) p th.go;obtain⟨i,j,f1,f2,f3,f4,f5,f6⟩:=bAd (p:=(bA t now p).2) q1;unfold dQ dI aHa at hl;simp only[bZu]at hl;obtain⟨_,h1,h2⟩:=hl;rw[f2]at h1;rw[f1]at h2;have h1:(j:Int)=((bQ (bA t now p).2).2.2.2.length:Int) - 1:=eq_of_beq h1;have h2:(i:Int)=((bA t now p).2.2.2.2.1.length:Int) - 1:=eq_of_beq h2;rw[<- b,f5];have a1:(egs (bQ (bA t now p).2)).dropLast.drop j=[]:=by
    rw[List.drop_eq_nil_iff];unfold egs;rw[List.length_dropLast,cAr];omega
   have a2:List.drop (i+1) (bA t now p).2.2.2.2.1=[]:=by
    rw[List.drop_eq_nil_iff];omega
   rw[a1,a2];rfl
  rw[this]at hx;cases hx
 .obtain⟨e1,e2⟩:=bCf (t:=t) (r:=r) (now:=now) (dead:=eG t dead r) (inn:=inn) (p:=p) h;intro x hx;rw[e1]at hx;rcases bZx.1 hx with rfl | hx
  .exact e2
  .exact ih x hx
theorem aPx{l:lUs}{id s d i' s' d':Int}(h: ¬ (id=i'/\s=s'/\d=d')):dC (rF l id s d) i' s' d'=dC l i' s' d':=by
 have hx:jL i' s' d' (id,s,d,1)=false:=by
  cases c:jL i' s' d' (id,s,d,1) with
  | false=>rfl
  | true=>exact absurd (xX.1 c) (λ⟨a,b,c⟩=>h ⟨a,b,c⟩)
 rcases aHz l id s d with ⟨_,_,_,h4⟩ | ⟨j,x,_,h2,h3,_,h5⟩
 .rw[h4];unfold dC;rw[aKx];rcases aJf l i' s' d' with ⟨p1,_⟩ | ⟨k,y,p1,p2,_⟩
  .rw[p1,zT (show (-1:Int)<0 by decide),zT (show (-1:Int)<0 by decide)];have :plc i' s' d' l.length [((id,s,d,1):den tUs)]= -1:=by
    unfold plc;rw[hx];rfl
   rw[this];rfl
  .simp only[p1,zS (show ¬ (k:Int)<0 by omega),bZ4,List.getElem?_append_left (bZy.1 p2).1]
 .rw[h5];unfold dC;rw[aIq (aN0 h2 _)];rcases aJf l i' s' d' with ⟨p1,_⟩ | ⟨k,y,p1,p2,p3⟩
  .rw[p1];rfl
  .simp only[p1,zS (show ¬ (k:Int)<0 by omega),bZ4]
   by_cases hk:j=k
   .subst hk;rw[h2]at p2;injection p2 with p2;subst p2;obtain⟨a1,a2,a3⟩:=xX.1 h3;obtain⟨b1,b2,b3⟩:=xX.1 p3;exact absurd ⟨a1.symm.trans b1,a2.symm.trans b2,a3.symm.trans b3⟩ h
   .rw[cCu hk]
noncomputable def kU(d:Int×Int)(p:den tPk):Nat:=(if d∈fut p then 1 else 0)+(if p.1==1 then 1 else 0)
noncomputable def aGu(d:Int×Int):lFy->Nat
 | []=>0
 | x::l=>kU d x.2.2+aGu d l
theorem aT2(d:Int×Int):∀(l:lFy) (x:den tFy),aGu d (l++[x])=aGu d l+kU d x.2.2
 | [],x=>by show kU d x.2.2+0=0+kU d x.2.2;omega
 | y::l,x=>by
  show kU d y.2.2+aGu d (l++[x])=kU d y.2.2+aGu d l+kU d x.2.2;rw[aT2 d l x];omega
theorem aTr(d:Int×Int)(p:den tPk):kU d p<=2:=by
 unfold kU;split<;>split<;>decide
theorem aHy{d:Int×Int}{p:den tPk}(h:(p.1==(1:Int))=false):kU d p<=1:=by
 unfold kU;rw[h];split<;>decide
theorem aE6{d:Int×Int}{p:den tPk}(h:(p.1==(1:Int))=true):1<=kU d p:=by
 unfold kU;rw[h];split<;>decide
structure Mid (t:den tTo) (τ:Int) (dead:List Int) (e:Int×Int->Nat) (m:Nat) (w:den tNw):Prop where
 top:nT w=t
 now:aG w=τ
 dead:aH w=dead
 cap:∀s d:Int,6<=free (nG w).2.1 (nG w).1 s d τ
 bud:∀d:Int×Int,dC (nG w).2.2 0 d.1 d.2+((aGu d (aE w)+e d:Nat):Int)<=6
 low:∀d:Int×Int,0<=dC (nG w).2.2 0 d.1 d.2
 len:(aE w).length+m<=4
theorem Mid.mono{t:den tTo}{τ:Int}{dead:List Int}{e e':Int×Int->Nat}{m m':Nat}{w:den tNw}(h:Mid t τ dead e m w)(he:∀d,e' d<=e d)(hm:m'<=m):Mid t τ dead e' m' w:=
 ⟨h.top,h.now,h.dead,h.cap,λd=>by have :=h.bud d;have :=he d;omega,h.low,by have :=h.len;omega⟩
theorem Mid.flows{t:den tTo}{τ:Int}{dead:List Int}{e:Int×Int->Nat}{m:Nat}{w:den tNw}(h:Mid t τ dead e m w)(l:lFl):Mid t τ dead e m (bR w l):=⟨h.top,h.now,h.dead,h.cap,h.bud,h.low,h.len⟩
theorem Mid.box{t:den tTo}{τ:Int}{dead:List Int}{e:Int×Int->Nat}{m:Nat}{w:den tNw}(h:Mid t τ dead e m w)(k:Nat)(x:den tIb):Mid t τ dead e m (nV w k x):=⟨h.top,h.now,h.dead,h.cap,h.bud,h.low,h.len⟩
theorem Mid.drop{t:den tTo}{τ:Int}{dead:List Int}{e:Int×Int->Nat}{m:Nat}{w:den tNw}(h:Mid t τ dead e m w):Mid t τ dead e m (sT w):=⟨h.top,h.now,h.dead,h.cap,h.bud,h.low,h.len⟩
theorem Mid.send{t:den tTo}{τ:Int}{dead:List Int}{e:Int×Int->Nat}{m:Nat}{w:den tNw}{r inn:Int}{p:den tPk}(h:Mid t τ dead (λd=>kU d p+e d) (m+1) w)(hc:(aD t τ dead r inn p).1=0):
  aE (eH w r (aD t τ dead r inn p).2.1 (aD t τ dead r inn p).2.2.1)=aE w++[((remote t r (aD t τ dead r inn p).2.1).1,(remote t r (aD t τ dead r inn p).2.1).2,(aD t τ dead r inn p).2.2.1)]/\
  aB (eH w r (aD t τ dead r inn p).2.1 (aD t τ dead r inn p).2.2.1)=aB w/\aQ (eH w r (aD t τ dead r inn p).2.1 (aD t τ dead r inn p).2.2.1)=aQ w/\dX (eH w r (aD t τ dead r inn p).2.1 (aD t τ dead r inn p).2.2.1)=dX w/\
  Mid t τ dead e m (eH w r (aD t τ dead r inn p).2.1 (aD t τ dead r inn p).2.2.1):=by
 have th:=qS (t:=t) (r:=r) (now:=τ) (dead:=eG t dead r) (inn:=inn) (p:=p) (.inl hc);obtain⟨f1,_⟩:=bCf (t:=t) (r:=r) (now:=τ) (dead:=eG t dead r) (inn:=inn) (p:=p) hc;have f1:fut p=(r,(aD t τ dead r inn p).2.1)::fut (aD t τ dead r inn p).2.2.1:=f1;obtain⟨fk,_⟩:=aCk t r τ (eG t dead r) inn p;have fk:(aD t τ dead r inn p).2.2.1.1=p.1:=fk;have nd:(fut p).Nodup:=by
  obtain⟨a,ea⟩:=bD8 p;have :=aY1 th.sim;rw[ea]at this;exact (List.nodup_append.1 this).2.1
 rw[f1,List.nodup_cons]at nd;generalize hp':(aD t τ dead r inn p).2.2.1=p' at *;generalize hg:(aD t τ dead r inn p).2.1=eg at *;have one:kU (r,eg) p=1+kU (r,eg) p':=by
  unfold kU;rw[f1,fk,zT (bZ6 ..),zS nd.1];omega
 have oth:∀d,kU d p'<=kU d p:=λd=>by
  unfold kU;rw[f1,fk]
  by_cases hd:d∈fut p'
  .rw[zT hd,zT (bZ0 _ hd)];exact bZ7 _
  .rw[zS hd];exact cBy (cAe _) _
 have hb:=h.bud (r,eg);have hl:=h.low (r,eg);simp only at hb hl;rw[one]at hb;have hfree:=h.cap r eg;have hlt:dC (nG w).2.2 0 r eg<pI (nG w) 0 r eg (aG w):=by
  rw[h.now];show _<free (nG w).2.1 (nG w).1 r eg τ;omega
 have hn:decide ((aE w).length<150)=true:=by have :=h.len;rw[zR];omega
 have tr:∃u,pQ (nG w) p'.2.2.2.2.2.2.2.1 r eg (aG w)=((nG w).1,true,(nG w).2.1,u)/\dC u 0 r eg<=dC (nG w).2.2 0 r eg+1/\0<=dC u 0 r eg/\ ∀d:Int×Int,d≠(r,eg)->dC u 0 d.1 d.2=dC (nG w).2.2 0 d.1 d.2:=by
  have more:dC (rF (nG w).2.2 0 r eg) 0 r eg=dC (nG w).2.2 0 r eg+1:=bKf ⟨hl,by omega⟩;have far:∀d:Int×Int,d≠(r,eg)->dC (rF (nG w).2.2 0 r eg) 0 d.1 d.2=dC (nG w).2.2 0 d.1 d.2:=λd hd=>aPx λ⟨_,a,b⟩=>hd (Prod.ext a.symm b.symm)
  unfold pQ
  by_cases hu:dC (nG w).2.2 p'.2.2.2.2.2.2.2.1 r eg<pI (nG w) p'.2.2.2.2.2.2.2.1 r eg (aG w)
  .rw[zT hu];refine⟨_,rfl,?_⟩
   by_cases h0:p'.2.2.2.2.2.2.2.1=(0:Int)
   .rw[h0];exact⟨by omega,by omega,far⟩
   .have :∀s d,dC (rF (nG w).2.2 p'.2.2.2.2.2.2.2.1 r eg) 0 s d=dC (nG w).2.2 0 s d:=λs d=>aPx λ⟨a,_,_⟩=>h0 a
    rw[this];exact⟨by omega,hl,λd _=>this _ _⟩
  .rw[zS hu,zT hlt];exact⟨_,rfl,by omega,by omega,far⟩
 obtain⟨u,t1,t2,t3,t4⟩:=tr;have e0:eH w r eg p'=(nT w,nK w,((nG w).1,(nG w).2.1,u),aG w,aH w,aE w++[((remote (nT w) r eg).1,(remote (nT w) r eg).2,p')],aB w,aQ w,dX w):=by
  unfold eH;rw[t1,hn];rfl
 rw[e0];refine⟨by rw[h.top],rfl,rfl,rfl,h.top,h.now,h.dead,h.cap,λd=> ?_,λd=> ?_,?_⟩
 .show dC u 0 d.1 d.2+((aGu d (aE w++[((remote (nT w) r eg).1,(remote (nT w) r eg).2,p')])+e d:Nat):Int)<=6;rw[aT2];show dC u 0 d.1 d.2+((aGu d (aE w)+kU d p'+e d:Nat):Int)<=6
  by_cases hd:d=(r,eg)
  .subst hd;show dC u 0 r eg+_<=_;omega
  .have a:=h.bud d;have b:=oth d;rw[t4 d hd];omega
 .show 0<=dC u 0 d.1 d.2
  by_cases hd:d=(r,eg)
  .subst hd;exact t3
  .rw[t4 d hd];exact h.low d
 .show (aE w++[_]).length+m<=4;have :=h.len;simp only[List.length_append,List.length_singleton];omega
theorem Mid.step{t:den tTo}{τ:Int}{dead:List Int}{e:Int×Int->Nat}{m:Nat}{w:den tNw}(h:Mid t τ dead e m w)(r inn:Int)(p:den tPk):aD (nT w) (aG w) (aH w) r inn p=aD t τ dead r inn p:=by rw[h.top,h.now,h.dead]
theorem Mid.proc0{t:den tTo}{τ:Int}{dead:List Int}{e:Int×Int->Nat}{m:Nat}{w:den tNw}{r inn:Int}{p:den tPk}(h:Mid t τ dead (λd=>kU d p+e d) (m+1) w):Mid t τ dead e m (proc0 w r inn p):=by
 have h':Mid t τ dead e m w:=h.mono (λd=>cBo _ _) (cAw _);unfold Go.Proofs.YtnkjolpkcmgcaaaGreat.proc0;rw[h.step r inn p];split
 .rename_i c;exact (h.send (eq_of_beq c)).2.2.2.2
 .split
  .exact h'.flows _
  .exact h'.drop
theorem Mid.data{t:den tTo}{τ:Int}{dead:List Int}{e:Int×Int->Nat}{m:Nat}{w:den tNw}{r:Int}{p:den tPk}(h:Mid t τ dead (λd=>1+e d) (m+1) w):Mid t τ dead e m (nB w r p):=by
 have h':Mid t τ dead e m w:=h.mono (λd=>cBo _ _) (cAw _);unfold nB;split
 .exact h'
 .split
  .rename_i hb;refine Mid.proc0 ((h.box _ _).mono (λd=> ?_) (bZ7 _));exact cBy (aHy (aIs hb)) _
  .exact h'.box _ _
theorem Mid.note{t:den tTo}{τ:Int}{dead:List Int}{e:Int×Int->Nat}{m:Nat}{w:den tNw}{r d:Int}{p:den tPk}(h:Mid t τ dead (λd=>1+e d) (m+1) w):Mid t τ dead e m (oM w r d p):=by
 have h':Mid t τ dead e m w:=h.mono (λd=>cBo _ _) (cAw _);unfold oM;split
 .exact (Mid.proc0 (h.mono (λd=>cBy (aHy rfl) _) (bZ7 _))).drop
 .exact (h'.flows _).drop
theorem Mid.proc{t:den tTo}{τ:Int}{dead:List Int}{e:Int×Int->Nat}{m:Nat}{w:den tNw}{r inn:Int}{p:den tPk}(h:Mid t τ dead (λd=>kU d p+e d) (m+1) w):Mid t τ dead e m (cZ w r inn p):=by
 have h':Mid t τ dead e m w:=h.mono (λd=>cBo _ _) (cAw _);unfold cZ;rw[h.step r inn p];split
 .rename_i c;exact (h.send (eq_of_beq c)).2.2.2.2
 .split
  .split
   .rename_i h1;exact Mid.data (h.mono (λd=>cBy (aE6 h1) _) (bZ7 _))
   .exact h'.flows _
  .split
   .rename_i h1;rw[bZu]at h1;exact Mid.note (h.mono (λd=>cBy (aE6 h1.2) _) (bZ7 _))
   .exact h'.drop
theorem Mid.take{t:den tTo}{τ:Int}{dead:List Int}{e:Int×Int->Nat}{m:Nat}{w:den tNw}{x:den tFy}{l:lFy}(h:Mid t τ dead e m w)(hf:aE w=x::l):Mid t τ dead (λd=>kU d x.2.2+e d) (m+1) (bJ w l):=by
 refine⟨h.top,h.now,h.dead,h.cap,λd=> ?_,h.low,?_⟩
 .have a:=h.bud d;rw[hf]at a;have a:dC (nG w).2.2 0 d.1 d.2+((kU d x.2.2+aGu d l+e d:Nat):Int)<=6:=a;show dC (nG w).2.2 0 d.1 d.2+((aGu d l+(kU d x.2.2+e d):Nat):Int)<=6;omega
 .have a:=h.len;rw[hf]at a;simp only[cAy]at a;show l.length+(m+1)<=4;omega
theorem Mid.out{t:den tTo}{τ:Int}{dead:List Int}{e:Int×Int->Nat}{m:Nat}{w:den tNw}(h:Mid t τ dead e m w):Mid t τ dead e m (outW w):=by
 unfold outW;split
 .exact h
 .rename_i x l hf;exact (h.take hf).proc
theorem Mid.tickT{t:den tTo}{τ:Int}{dead:List Int}{e:Int×Int->Nat}{m:Nat}{w:den tNw}(k:Nat)(h:Mid t τ dead (λd=>2+e d) (m+1) w):Mid t τ dead e m (stepT k w):=by
 have h':Mid t τ dead e m w:=h.mono (λd=>cBo _ _) (cAw _);unfold stepT;split
 .split
  .exact Mid.proc ((h.flows _).mono (λd=>cBy (aTr _ _) _) (bZ7 _))
  .exact h'.flows _
 .exact h'
theorem bKi{w:den tNw}{t:den tTo}{τ:Int}{dead:List Int}(h1:nT w=t)(h2:aG w=τ)(h3:aH w=dead)(hc:∀s d:Int,6<=free (nG w).2.1 (nG w).1 s d τ)(hu:(nG w).2.2=[])(hf:aE w=[]):Mid t τ dead (λ_=>2 * 3) 3 w:=by
 have u0:∀s d,dC ([]:lUs) 0 s d=0:=λ_ _=>rfl
 refine⟨h1,h2,h3,hc,λd=> ?_,λd=> ?_,?_⟩
 .rw[hu,hf,u0];show (0:Int)+((0+2 * 3:Nat):Int)<=6;decide
 .rw[hu,u0];exact cAu _
 .rw[hf];decide
def aB0(t:den tTo)(τ:Int)(dead:List Int)(p:den tPt):Prop:=Arr t τ dead (ends p).1 0 (dT 1 p 0 0 [])/\Arr t τ dead (ends (fF p)).1 0 (dT 1 (fF p) 0 0 [])
def aFx(t:den tTo)(dead:List Int)(b:List Int):Prop:= ∃r d u:Int,b=sB (r,d,u)/\aBy (eG t dead r) d=true
theorem bI0{b:List Int}{p n:Nat}(h:b[p]? =some (n:Int))(hn:n<128):rv b p=((n:Int),((p+1:Nat):Int),true):=by
 show aIk b p 6 0 0=_;unfold aIk;rw[Nat.add_zero,h];simp only[bZ4];rw[zT hn];have e:decide (1000000000000<0+n % 128 * 2 ^ (7 * 0))=false:=by
  rw[decide_eq_false_iff_not];have :n % 128<128:=Nat.mod_lt _ (by decide);simp only[Nat.mul_zero,Nat.pow_zero,Nat.mul_one];omega
 rw[e];have e2:0+n % 128 * 2 ^ (7 * 0)=n:=by
  rw[Nat.mod_eq_of_lt hn];simp
 rw[e2];simp
theorem bIt{k n:Nat}(h:n<128):vi k n=[(n:Int)]:=by
 cases k with
 | zero=>rfl
 | succ k=>unfold vi;rw[zT h]
theorem bKe{x:den tRv}(h:(sD (sB x)).2.2.2=true):(tE (sB x)).1=x.1/\(tE (sB x)).2.1=x.2.1/\dJ x=true:=by
 cases hv:dJ x with
 | false=>
  have e:sB x=[]:=by unfold sB;rw[hv];rfl
  rw[e]at h;exact absurd h (by decide)
 | true=>
  have hv':=hv;unfold dJ at hv';simp only[bZu]at hv';obtain⟨a1,a2⟩:=aS.1 hv'.1;obtain⟨b1,b2⟩:=aS.1 hv'.2.1;obtain⟨c1,c2⟩:=aS.1 hv'.2.2;have big:∀(a:Int),0<=a->a<=1000000->inR a 0 1000000000000=true:=λa h1 h2=>aS.2 ⟨h1,by omega⟩
  obtain⟨m,hm⟩:=cA0 a1;obtain⟨n,hn⟩:=cA0 (show (0:Int)<=x.2.1 from cA6 (by decide) b1);have hm7:m<=7:=by rw[hm]at a2;omega
  have hn6:n<=6:=by rw[hn]at b2;omega
  have e:sB x=(m:Int)::(n:Int)::vi 5 x.2.2.toNat:=by
   unfold sB;rw[hv,zT rfl];unfold aLe;simp only[List.foldl_cons,List.foldl_nil];unfold aC0;rw[big _ a1 (leI (cA6 a2 (by decide))),big _ (cA6 (by decide) b1) (leI (cA6 b2 (by decide))),big _ c1 c2,hm,hn];simp only[zV,bZ4];rw[bIt (show m<128 by omega),bIt (show n<128 by omega)];rfl
  have r0:rv (sB x) 0=((m:Int),((0+1:Nat):Int),true):=bI0 (by rw[e];rfl) (by omega);have r1:rv (sB x) 1=((n:Int),((1+1:Nat):Int),true):=bI0 (by rw[e];rfl) (by omega);have d:∃q b l,aJk (sB x)=(q,b,l)/\(b=false/\l=[]\/ ∃z,l=[(m:Int),(n:Int),z]):=by
   unfold aJk;rw[r0];simp only[zZ,bZ4,Nat.zero_add];rw[r1];simp only[zZ,bZ4];cases (rv (sB x) (1+1)).2.2 with
   | false=>exact⟨_,_,_,rfl,.inl ⟨rfl,rfl⟩⟩
   | true=>exact⟨_,_,_,rfl,.inr ⟨_,rfl⟩⟩
  obtain⟨q,b,l,d1,d2⟩:=d;unfold tE;unfold sD at h|-;rw[d1]at h ⊢;rcases d2 with ⟨rfl,rfl⟩ | ⟨z,rfl⟩
  .exact absurd h Bool.false_ne_true
  .cases b with
   | false=>exact absurd h Bool.false_ne_true
   | true=>
    simp only at h|-;cases c1:q==((sB x).length:Int) with
    | false=>rw[c1]at h;exact absurd h Bool.false_ne_true
    | true=>
     rw[c1]at h;cases c2:dJ ((m:Int),(n:Int),z) with
     | false=>rw[c2]at h;exact absurd h Bool.false_ne_true
     | true=>exact⟨hm.symm,hn.symm,trivial⟩
theorem bE1{t:den tTo}{τ:Int}{dead:List Int}{p:lPp}(h:aB0 t τ dead p):wfP t p=true/\ ∀x,(x∈mW p\/x∈aC7 p)->aFb x/\aBy (eG t dead x.1) x.2=false:=by
 have hw:wfP t p=true:=aFd h.1.thru.sim;have hv:=aIa (aNe hw);refine⟨hw,λx hx=>⟨aYp hv x hx,?_⟩⟩;rcases hx with hx | hx
 .exact h.1.alive x (by rw[bDo];exact hx)
 .exact h.2.alive x (by rw[bDo];exact aY6 hv x hx)
theorem bWf{t:den tTo}{τ:Int}{dead:List Int}{p:lPp}(h:aB0 t τ dead p){b:List Int}(hb:aFx t dead b)(hd:(sD b).2.2.2=true):oQ p (tE b)=false:=by
 obtain⟨r,d,u,rfl,h7⟩:=hb;obtain⟨e1,e2,e3⟩:=bKe hd;obtain⟨hw,ha⟩:=bE1 h;cases hc:oQ p (tE (sB (r,d,u))) with
 | false=>rfl
 | true=>
  exfalso;unfold oQ at hc;rw[bZu,e1,e2,aEq]at hc;obtain⟨x,hx,e⟩:=bS7 hw hc.2;obtain⟨d1,d2⟩:=ha x hx;unfold dJ at e3;simp only[bZu]at e3;obtain⟨a1,a2⟩:=aS.1 e3.1;obtain⟨b1,b2⟩:=aS.1 e3.2.1;have :(r,d)=x:=bT8 ⟨a1,a2,cA6 (by decide) b1,b2⟩ d1 e;rw[<- this]at d2;rw[h7]at d2;cases d2
theorem bFc{t:den tTo}{τ:Int}{dead:List Int}{f:den tFl}{q:den tPk}(h:aB0 t τ dead ((f.2.2.2.2.2.1[f.2.2.2.2.2.2.1.toNat]?).getD []))(hq:q.1=(3:Int)->aFx t dead q.2.2.2.2.2.2.2.2.2):
  (iK f q).2.2.2.1=f.2.2.2.1/\(iK f q).2.2.2.2.2.2.1=f.2.2.2.2.2.2.1/\(iK f q).2.2.2.2.2.2.2.1=f.2.2.2.2.2.2.2.1/\(iK f q).2.2.2.2.2.1=f.2.2.2.2.2.1:=by
 unfold iK;cases c:(q.1==3&&(sD q.2.2.2.2.2.2.2.2.2).2.2.2) with
 | false=>exact⟨rfl,rfl,rfl,rfl⟩
 | true=>
  rw[bZu]at c;have hh:aJ6 f (tE q.2.2.2.2.2.2.2.2.2)=false:=by
   unfold aJ6;rw[bWf h (hq (eq_of_beq c.1)) c.2,Bool.and_false]
  rw[hh];exact⟨rfl,rfl,rfl,rfl⟩
theorem bPz{t:den tTo}{r now dead inn:Int}{p:den tPk}(h:(fwd t r now dead inn p).1=7):aBy dead (fwd t r now dead inn p).2.2.2=true:=by
 have th:=qS (.inr (.inr h));unfold fwd at h|-;split at h
 .exact absurd h (show ¬ ((2:Int)=7) by decide)
 rename_i c1;rw[zS c1];split at h
 .exact absurd h (show ¬ ((3:Int)=7) by decide)
 rename_i c2;rw[zS c2];split at h
 .rw[th.go]at h;exact absurd h (show ¬ ((0:Int)=7) by decide)
 rename_i c3;rw[zS c3];split at h
 .split at h<;>first | exact absurd h (show ¬ ((1:Int)=7) by decide) | exact absurd h (show ¬ ((2:Int)=7) by decide)
 rename_i c4;rw[zS c4];split at h
 .exact absurd h (show ¬ ((6:Int)=7) by decide)
 rename_i c5;rw[zS c5];split at h
 .rename_i c6;rw[zT c6];exact c6
 .exact absurd h (show ¬ ((0:Int)=7) by decide)
def dE(f:den tFl):Int:=f.2.2.2.1
def eX(f:den tFl):Int:=f.2.2.2.2.2.2.1
def eF(f:den tFl):Int:=f.2.2.2.2.2.2.2.1
structure Aim where
 t:den tTo
 now:Int
 dead:List Int
 src:Int
 dst:Int
 ms:lMs
 ps:lPt
 c:Nat
 q:den tPt
 i:Nat
 m:Int
structure pC (A:Aim):Prop where
 at_:A.ps[A.c]? =some A.q
 work:aB0 A.t A.now A.dead A.q
 fst_:aE0 A.q=some A.src
 lst_:yN A.q=some A.dst
 few:A.ms.length<=20
 some_:A.ps.length<=24
structure FC (A:Aim) (f:den tFl):Prop where
 src:f.1=A.src
 dst:f.2.1=A.dst
 ms:f.2.2.2.2.1=A.ms
 ps:f.2.2.2.2.2.1=A.ps
 a0:0<=dE f
 a1:dE f<=(A.ms.length:Int)
 c0:0<=eX f
 c1:eX f<(A.ps.length:Int)
 w0:0<=eF f
 w1:eF f<=4
def qT(n c cur w:Int):Int:=if cur=c then (if w=0 then 0 else n) else if cur<c then c - cur else n+c - cur
def muF(A:Aim)(f:den tFl):Int:=2 * ((A.ms.length:Int) - dE f)+(5 - eF f)+6 * qT A.ps.length A.c (eX f) (eF f)
theorem aYb{n c cur w:Int}(h0:0<=c)(h1:c<n)(h2:0<=cur)(h3:cur<n):0<=qT n c cur w/\qT n c cur w<=n:=by
 unfold qT;split
 .split<;>omega
 .split<;>omega
theorem bJe{n c cur w:Int}(h0:0<=c)(h1:c<n)(h2:0<=cur)(h3:cur<n):qT n c cur 0<=qT n c cur w:=by
 unfold qT;split
 .rw[zT rfl];split<;>omega
 .exact cAu _
theorem aZm{n c cur w:Int}(h:cur≠c):qT n c cur w=qT n c cur 0:=by
 unfold qT;rw[zS h,zS h]
def nxI(n cur:Int):Int:=if cur+1>=n then 0 else cur+1
theorem aKe{n c cur w:Int}(h0:0<=c)(h1:c<n)(h2:0<=cur)(h3:cur<n)(h4:cur≠c\/w≠0):0<=nxI n cur/\nxI n cur<n/\1<=qT n c cur w/\qT n c (nxI n cur) 0+1<=qT n c cur w:=by
 unfold qT nxI
 by_cases e:cur=c
 .have hw:w≠0:=h4.elim (λh=>absurd e h) id;subst e;rw[zT rfl,zS hw]
  by_cases g:cur+1>=n
  .rw[zT g]
   by_cases z:(0:Int)=cur
   .rw[zT z,zT rfl];omega
   .rw[zS z,zT (by omega)];omega
  .rw[zS g,zS (by omega),zS (by omega)];omega
 .rw[zS e]
  by_cases g:cur+1>=n
  .rw[zT g,zS (by omega)]
   by_cases z:(0:Int)=c
   .rw[zT z,zT rfl];omega
   .rw[zS z,zT (by omega)];omega
  .rw[zS g]
   by_cases z:cur+1=c
   .rw[zT z,zT rfl,zT (by omega)];omega
   .rw[zS z]
    by_cases y:cur<c
    .rw[zT y,zT (by omega)];omega
    .rw[zS y,zS (by omega)];omega
theorem aBr{A:Aim}{f:den tFl}(hA:pC A)(h:FC A f):oN f=nxI A.ps.length (eX f):=by
 have a:=h.c0;have b:=h.c1;have c:=hA.some_;have e:wr (eX f+1)=eX f+1:=wri (by omega) (by omega);have e2:wr (f.2.2.2.2.2.2.1+1)=eX f+1:=e;unfold oN nxI;rw[e2,h.ps]
theorem pC.cn{A:Aim}(h:pC A):(A.c:Int)<(A.ps.length:Int):=by
 have :=(bZy.1 h.at_).1;omega
theorem FC.work{A:Aim}{f:den tFl}(hA:pC A)(h:FC A f)(hc:eX f=A.c):aB0 A.t A.now A.dead ((f.2.2.2.2.2.1[f.2.2.2.2.2.2.1.toNat]?).getD []):=by
 have e:f.2.2.2.2.2.2.1=(A.c:Int):=hc;rw[h.ps,e,bZ4,hA.at_];exact hA.work
def Rel(A:Aim)(p:den tPk):Prop:=(p.1=(1:Int)/\p.2.1=A.src/\p.2.2.1=A.dst)\/(p.1=(2:Int)/\p.2.1=A.dst/\p.2.2.1=A.src)
theorem aYt{A:Aim}{f:den tFl}{p:den tPk}(h:FC A f)(ha:vZ f p=true):Rel A p/\p.2.2.2.2.2.2.2.2.1=dE f/\dE f<(A.ms.length:Int):=by
 unfold vZ at ha;simp only[bZu,beq_iff_eq]at ha;obtain⟨h1,h2,h3,h4,h5⟩:=ha;obtain⟨_,h6⟩:=aS.1 h5;rw[h.ms]at h6;have h6:dE f<=(A.ms.length:Int) - 1:=h6;exact⟨.inr ⟨h1,h2.trans h.dst,h3.trans h.src⟩,h4,by omega⟩
theorem bQo{A:Aim}{f:den tFl}{p:den tPk}(hA:pC A)(h:FC A f)(ha:vZ f p=true):FC A (jH f p)/\dE (jH f p)=dE f+1/\eX (jH f p)=eX f/\eF (jH f p)=0:=by
 obtain⟨_,_,h1⟩:=aYt h ha;have a0:=h.a0;have hl:=hA.few;have e:wr (dE f+1)=dE f+1:=wri (by omega) (by omega);have e1:jH f p=(f.1,f.2.1,f.2.2.1,wr (f.2.2.2.1+1),f.2.2.2.2.1,f.2.2.2.2.2.1,f.2.2.2.2.2.2.1,0,f.2.2.2.2.2.2.2.2):=by unfold jH;rw[ha];rfl
 have e2:dE (jH f p)=dE f+1:=by rw[e1];exact e
 rw[e1]at e2 ⊢;exact⟨⟨h.src,h.dst,h.ms,h.ps,by rw[e2];omega,by rw[e2];omega,h.c0,h.c1,cAu _,by show (0:Int)<=4;decide⟩,e2,rfl,rfl⟩
theorem bIa{A:Aim}{f:den tFl}{p:den tPk}(hA:pC A)(h:FC A f)(hr:p.1=(3:Int)->aFx A.t A.dead p.2.2.2.2.2.2.2.2.2):FC A (iK f p)/\dE (iK f p)=dE f/\
  ((eX (iK f p)=eX f/\eF (iK f p)=eF f)\/(eX f≠A.c/\eX (iK f p)=nxI A.ps.length (eX f)/\eF (iK f p)=0)):=by
 have cn:=hA.cn
 by_cases hc:eX f=A.c
 .obtain⟨k1,k2,k3,k4⟩:=bFc (h.work hA hc) hr;have k1:dE (iK f p)=dE f:=k1;have k2:eX (iK f p)=eX f:=k2;have k3:eF (iK f p)=eF f:=k3;obtain⟨m1,m2,m3⟩:=aUz f p;exact⟨⟨m1.trans h.src,m2.trans h.dst,m3.trans h.ms,k4.trans h.ps,by rw[k1];exact h.a0,by rw[k1];exact h.a1,by rw[k2];exact h.c0,by rw[k2];exact h.c1,by rw[k3];exact h.w0,by rw[k3];exact h.w1⟩,k1,.inl ⟨k2,k3⟩⟩
 .have hn:=aKe (n:=A.ps.length) (c:=A.c) (cur:=eX f) (w:=0) (by omega) cn h.c0 h.c1 (.inl hc);unfold iK;cases c:(p.1==3&&(sD p.2.2.2.2.2.2.2.2.2).2.2.2) with
  | false=>exact⟨h,rfl,.inl ⟨rfl,rfl⟩⟩
  | true=>
   rw[zZ];cases c2:aJ6 f (tE p.2.2.2.2.2.2.2.2.2) with
   | false=>exact⟨⟨h.src,h.dst,h.ms,h.ps,h.a0,h.a1,h.c0,h.c1,h.w0,h.w1⟩,rfl,.inl ⟨rfl,rfl⟩⟩
   | true=>
    have e:oN f=nxI A.ps.length (eX f):=aBr hA h;refine⟨⟨h.src,h.dst,h.ms,h.ps,h.a0,h.a1,?_,?_,cAu _,(by show (0:Int)<=4;decide)⟩,rfl,.inr ⟨hc,e,rfl⟩⟩
    .show 0<=oN f;rw[e];exact hn.1
    .show oN f<_;rw[e];exact hn.2.1
theorem bDc{A:Aim}{f:den tFl}{p:den tPk}{r:Int}(hA:pC A)(h:FC A f)(hr:p.1=(3:Int)->aFx A.t A.dead p.2.2.2.2.2.2.2.2.2):FC A (cI r p f)/\
  ((dE (cI r p f)=dE f/\eX (cI r p f)=eX f/\eF (cI r p f)=eF f)\/
   (Rel A p/\dE f<(A.ms.length:Int)/\dE (cI r p f)=dE f+1/\eX (cI r p f)=eX f/\eF (cI r p f)=0)\/
   (eX f≠A.c/\dE (cI r p f)=dE f/\eX (cI r p f)=nxI A.ps.length (eX f)/\eF (cI r p f)=0)):=by
 unfold cI;split
 .split
  .cases ha:vZ f p with
   | false=>
    have :jH f p=f:=by unfold jH;rw[ha];rfl
    rw[this];exact⟨h,.inl ⟨rfl,rfl,rfl⟩⟩
   | true=>
    obtain⟨k1,k2,k3,k4⟩:=bQo hA h ha;obtain⟨r1,_,r3⟩:=aYt h ha;exact⟨k1,.inr (.inl ⟨r1,r3,k2,k3,k4⟩)⟩
  .obtain⟨k1,k2,k3⟩:=bIa hA h hr;refine⟨k1,?_⟩;rcases k3 with ⟨a,b⟩ | ⟨a,b,c⟩
   .exact .inl ⟨k2,a,b⟩
   .exact .inr (.inr ⟨a,k2,b,c⟩)
 .exact⟨h,.inl ⟨rfl,rfl,rfl⟩⟩
theorem bCb{A:Aim}{f:den tFl}{p:den tPk}{r:Int}(hA:pC A)(h:FC A f)(hr:p.1=(3:Int)->aFx A.t A.dead p.2.2.2.2.2.2.2.2.2)(hw:Rel A p->eF f<=1):muF A (cI r p f)<=muF A f/\(eF (cI r p f)=eF f\/eF (cI r p f)=0):=by
 have cn:=hA.cn;obtain⟨k,h'⟩:=bDc (r:=r) hA h hr;have w1:=h.w1;have w0:=h.w0;rcases h' with ⟨a,b,c⟩ | ⟨a,b,c,d,e⟩ | ⟨a,b,c,d⟩
 .unfold muF;rw[a,b,c];exact⟨cAu _,.inl rfl⟩
 .have :=hw a;have f1:=bJe (n:=A.ps.length) (c:=A.c) (cur:=eX f) (w:=eF f) (by omega) cn h.c0 h.c1;refine⟨?_,.inr e⟩;unfold muF;rw[c,d,e];omega
 .have f1:=aKe (n:=A.ps.length) (c:=A.c) (cur:=eX f) (w:=eF f) (by omega) cn h.c0 h.c1 (.inl a);refine⟨?_,.inr d⟩;unfold muF;rw[b,c,d];omega
def bLl(A:Aim)(a:Int)(z:den tFy):Prop:=Arr A.t A.now A.dead z.1 z.2.1 z.2.2/\z.2.2.1=(1:Int)/\z.2.2.2.1=A.src/\z.2.2.2.2.1=A.dst/\z.2.2.2.2.2.1=A.q/\z.2.2.2.2.2.2.2.2.2.2.1=a
def bX0(A:Aim)(a:Int)(z:den tFy):Prop:=Arr A.t A.now A.dead z.1 z.2.1 z.2.2/\z.2.2.1=(2:Int)/\z.2.2.2.1=A.dst/\z.2.2.2.2.1=A.src/\z.2.2.2.2.2.2.2.2.2.2.1=a
def Trk(A:Aim)(a:Int)(z:den tFy):Prop:=bLl A a z\/bX0 A a z
def bEo(A:Aim)(f:den tFl)(L:lFy):Prop:=dE f<(A.ms.length:Int)/\muF A f<=A.m/\ ∀y∈L,¬ Rel A y.2.2
def bQt(A:Aim)(f:den tFl)(L:lFy):Prop:=muF A f+1<=A.m/\(eF f<=1\/ ∀y∈L,¬ Rel A y.2.2)
def bX5(A:Aim)(f:den tFl)(L:lFy):Prop:=eX f=A.c/\eF f=1/\dE f<(A.ms.length:Int)/\2 * ((A.ms.length:Int) - dE f)+4<=A.m/\ ∃y∈L,Trk A (dE f) y
def Flw(A:Aim)(b:Bool)(w:den tNw)(L:lFy):Prop:= ∃f,(aB w)[A.i]? =some f/\FC A f/\((b=false/\bEo A f L)\/(b=true/\(bQt A f L\/bX5 A f L)))
def bDr(A:Aim)(L L':lFy):Prop:= ∀y∈L',Rel A y.2.2-> ∃z∈L,Rel A z.2.2
theorem Flw.same{A:Aim}{b:Bool}{w w':den tNw}{L L':lFy}(h:Flw A b w L)(e:(aB w')[A.i]? =(aB w)[A.i]?)(hr:bDr A L L')(ht:∀a,∀y∈L,Trk A a y-> ∃z∈L',Trk A a z):Flw A b w' L':=by
 obtain⟨f,h1,h2,h3⟩:=h;have none:(∀y∈L,¬ Rel A y.2.2)-> ∀y∈L',¬ Rel A y.2.2:=λhn y hy c=>by
  obtain⟨z,hz,r⟩:=hr y hy c;exact hn z hz r
 refine⟨f,by rw[e];exact h1,h2,?_⟩;rcases h3 with ⟨hb,g1,g2,g3⟩ | ⟨hb,⟨g1,g2⟩ | ⟨g1,g2,g3,g4,y,hy,g5⟩⟩
 .exact .inl ⟨hb,g1,g2,none g3⟩
 .exact .inr ⟨hb,.inl ⟨g1,g2.elim .inl λg=> .inr (none g)⟩⟩
 .obtain⟨z,hz,g6⟩:=ht _ y hy g5;exact .inr ⟨hb,.inr ⟨g1,g2,g3,g4,z,hz,g6⟩⟩
theorem Flw.told{A:Aim}(hA:pC A){b:Bool}{w:den tNw}{L L':lFy}{r:Int}{q:den tPk}(h:Flw A b w L)(hq:q.1=(3:Int)->aFx A.t A.dead q.2.2.2.2.2.2.2.2.2)(hl:Rel A q-> ∃z∈L,Rel A z.2.2)(hr:bDr A L L')
  (ht:∀a,∀y∈L,Trk A a y->(∃z∈L',Trk A a z)\/ ∀f,FC A f->dE f=a->a<(A.ms.length:Int)->dE (cI r q f)=dE f+1):Flw A b (sS w r q) L':=by
 obtain⟨f,h1,h2,h3⟩:=h;have none:(∀y∈L,¬ Rel A y.2.2)-> ∀y∈L',¬ Rel A y.2.2:=λhn y hy c=>by
  obtain⟨z,hz,r⟩:=hr y hy c;exact hn z hz r
 obtain⟨k,h'⟩:=bDc (r:=r) hA h2 hq;refine⟨cI r q f,?_,k,?_⟩
 .show ((aB w).map (cI r q))[A.i]? =_;rw[cBq,h1];rfl
 rcases h3 with ⟨hb,g1,g2,g3⟩ | ⟨hb,⟨g1,g2⟩ | ⟨g1,g2,g3,g4,y,hy,g5⟩⟩
 .have nr: ¬ Rel A q:=λc=>by
   obtain⟨z,hz,r⟩:=hl c;exact g3 z hz r
  obtain⟨m1,_⟩:=bCb (r:=r) hA h2 hq λc=>absurd c nr
  refine .inl ⟨hb,?_,cA6 m1 g2,none g3⟩;rcases h' with ⟨a,_⟩ | ⟨a,_⟩ | ⟨_,a,_⟩
  .rw[a];exact g1
  .exact absurd a nr
  .rw[a];exact g1
 .have hw:Rel A q->eF f<=1:=λc=>g2.elim id λg=>by
   obtain⟨z,hz,r⟩:=hl c;exact absurd r (g z hz)
  obtain⟨m1,m2⟩:=bCb (r:=r) hA h2 hq hw;refine .inr ⟨hb,.inl ⟨by omega,?_⟩⟩;rcases m2 with m2 | m2
  .rw[m2];exact g2.elim .inl λg=> .inr (none g)
  .exact .inl (by rw[m2];decide)
 .rcases h' with ⟨a,b',c⟩ | ⟨a,b',c,d,e⟩ | ⟨a,_⟩
  .rcases ht _ y hy g5 with ⟨z,hz,g6⟩ | g6
   .exact .inr ⟨hb,.inr ⟨by rw[b'];exact g1,by rw[c];exact g2,by rw[a];exact g3,by rw[a];exact g4,z,hz,by rw[a];exact g6⟩⟩
   .have :=g6 f h2 rfl g3;omega
  .refine .inr ⟨hb,.inl ⟨?_,.inl (by rw[e];decide)⟩⟩;have z0:qT A.ps.length A.c (eX f) 0=0:=by unfold qT;rw[zT g1,zT rfl]
   unfold muF;rw[c,d,e,z0];omega
  .exact absurd g1 a
theorem aXm{t:den tTo}{r now dead inn:Int}{p:den tPk}(h:(fwd t r now dead inn p).1=1):p.2.2.1=r:=by
 have th:=qS (.inr (.inl h));obtain⟨i,j,b,e⟩:=aEa t r now dead inn p;unfold fwd at h e;split at h
 .exact absurd h (show ¬ ((2:Int)=1) by decide)
 rename_i c1;rw[zS c1]at e;split at h
 .exact absurd h (show ¬ ((3:Int)=1) by decide)
 rename_i c2;rw[zS c2]at e;split at h
 .rw[th.go]at h;exact absurd h (show ¬ ((0:Int)=1) by decide)
 rename_i c3;rw[zS c3]at e;split at h
 .rename_i c4;rw[zT c4]at e;split at h
  .rename_i c5;rw[zT c5]at e;have :(bA t now p).2.2.2.1=p.2.2.1:=by
    have e:(bA t now p).2=goTo p i j b:=e;rw[e];rfl
   rw[<- this];exact eq_of_beq c5
  .exact absurd h (show ¬ ((2:Int)=1) by decide)
 split at h
 .exact absurd h (show ¬ ((6:Int)=1) by decide)
 split at h
 .exact absurd h (show ¬ ((7:Int)=1) by decide)
 .exact absurd h (show ¬ ((0:Int)=1) by decide)
theorem zL(t:den tTo)(now:Int)(dead:List Int)(r inn:Int)(p:den tPk):∃i j b,(aD t now dead r inn p).2.2.1=goTo p i j b:=aEa t r now (eG t dead r) inn p
theorem bQa{A:Aim}{a r inn:Int}{p:den tPk}(h:Trk A a (r,inn,p))(hc:(aD A.t A.now A.dead r inn p).1=0):Trk A a ((remote A.t r (aD A.t A.now A.dead r inn p).2.1).1,(remote A.t r (aD A.t A.now A.dead r inn p).2.1).2,(aD A.t A.now A.dead r inn p).2.2.1):=by
 obtain⟨i,j,b,e⟩:=zL A.t A.now A.dead r inn p;have key:∀(h:Arr A.t A.now A.dead r inn p),Arr A.t A.now A.dead (remote A.t r (aD A.t A.now A.dead r inn p).2.1).1 (remote A.t r (aD A.t A.now A.dead r inn p).2.1).2 (aD A.t A.now A.dead r inn p).2.2.1:=λh=>by
  rcases h.or with h1 | ⟨_,h2⟩
  .rw[hc]at h1;exact absurd h1 (by decide)
  .exact h2
 rcases h with ⟨h0,h1⟩ | ⟨h0,h1⟩
 .refine .inl ⟨key h0,?_⟩;simp only[e];exact h1
 .refine .inr ⟨key h0,?_⟩;simp only[e];exact h1
theorem aZi{A:Aim}{a:Int}{z:den tFy}(h:Trk A a z):Arr A.t A.now A.dead z.1 z.2.1 z.2.2:=h.elim (·.1) (·.1)
structure Rnd (A:Aim) (b:Bool) (e:Int×Int->Nat) (m:Nat) (w:den tNw) (L:lFy):Prop where
 mid:Mid A.t A.now A.dead e m w
 flw:Flw A b w L
 rev:∀y∈L,y.2.2.1=(3:Int)->aFx A.t A.dead y.2.2.2.2.2.2.2.2.2.2.2
theorem Rnd.fwd{A:Aim}{b:Bool}{e:Int×Int->Nat}{m:Nat}{w:den tNw}{r inn:Int}{p:den tPk}(h:Rnd A b (λd=>kU d p+e d) (m+1) w ((r,inn,p)::aE w))(hc:(aD A.t A.now A.dead r inn p).1=0):
  Rnd A b e m (eH w r (aD A.t A.now A.dead r inn p).2.1 (aD A.t A.now A.dead r inn p).2.2.1) (aE (eH w r (aD A.t A.now A.dead r inn p).2.1 (aD A.t A.now A.dead r inn p).2.2.1)):=by
 obtain⟨s1,s2,s3,_,s4⟩:=h.mid.send hc;obtain⟨i,j,b',eg⟩:=zL A.t A.now A.dead r inn p;rw[s1];refine⟨s4,h.flw.same (by rw[s2]) (λy hy c=> ?_) (λa y hy c=> ?_),λy hy c=> ?_⟩
 .rcases bZ2.1 hy with hy | hy
  .exact⟨y,bZ0 _ hy,c⟩
  .refine⟨_,bZ6 ..,?_⟩;have :y=_:=bZz.1 hy;rw[this]at c;simp only[eg]at c;exact c
 .rcases bZx.1 hy with hy | hy
  .subst hy;exact⟨_,List.mem_append_right _ (bZz.2 rfl),bQa c hc⟩
  .exact⟨y,List.mem_append_left _ hy,c⟩
 .rcases bZ2.1 hy with hy | hy
  .exact h.rev y (bZ0 _ hy) c
  .have :y=_:=bZz.1 hy;rw[this]at c ⊢;simp only[eg]at c ⊢;exact h.rev _ (bZ6 ..) c
theorem Rnd.lost{A:Aim}{b:Bool}{e:Int×Int->Nat}{m:Nat}{w:den tNw}{r inn:Int}{p:den tPk}(h:Rnd A b (λd=>kU d p+e d) (m+1) w ((r,inn,p)::aE w))(hc: ¬ Arr A.t A.now A.dead r inn p):Rnd A b e m (sT w) (aE w):=by
 refine⟨(h.mid.mono (λd=>cBo _ _) (cAw _)).drop,h.flw.same rfl (λy hy c=>⟨y,bZ0 _ hy,c⟩) (λa y hy c=> ?_),λy hy=>h.rev y (bZ0 _ hy)⟩;rcases bZx.1 hy with hy | hy
 .subst hy;exact absurd (aZi c) hc
 .exact⟨y,hy,c⟩
theorem Rnd.home{A:Aim}(hA:pC A){b:Bool}{e:Int×Int->Nat}{m:Nat}{w:den tNw}{r inn:Int}{p:den tPk}(h:Rnd A b (λd=>kU d p+e d) (m+1) w ((r,inn,p)::aE w))(hk:(p.1==(1:Int))=false)(hc:(aD A.t A.now A.dead r inn p).1=1):
  Rnd A b e m (sS w r (aD A.t A.now A.dead r inn p).2.2.1) (aE w):=by
 obtain⟨i,j,b',eg⟩:=zL A.t A.now A.dead r inn p;have hd:p.2.2.1=r:=aXm hc;rw[eg];refine⟨(h.mid.mono (λd=>cBo _ _) (cAw _)).flows _,h.flw.told hA (λc=>h.rev _ (bZ6 ..) c) (λc=>⟨_,bZ6 ..,c⟩) (λy hy c=>⟨y,bZ0 _ hy,c⟩) (λa y hy c=> ?_),λy hy=>h.rev y (bZ0 _ hy)⟩;rcases bZx.1 hy with hy | hy
 .subst hy;refine .inr λf hf e1 e2=> ?_
  rcases c with ⟨_,c,_⟩ | ⟨_,c1,c2,c3,c4⟩
  .have c:p.1=(1:Int):=c;rw[c]at hk;exact absurd hk (by decide)
  .have ha:vZ f (goTo p i j b')=true:=by
    unfold vZ;show ((p.1==2)&&((p.2.1==f.2.1)&&((p.2.2.1==f.1)&&((p.2.2.2.2.2.2.2.2.1==f.2.2.2.1)&&inR f.2.2.2.1 0 ((f.2.2.2.2.1.length:Int) - 1)))))=true;have c1:p.1=(2:Int):=c1;have c2:p.2.1=A.dst:=c2;have c3:p.2.2.1=A.src:=c3;have c4:p.2.2.2.2.2.2.2.2.1=a:=c4;have ef:f.2.2.2.1=a:=e1;rw[c1,c2,c3,c4,hf.src,hf.dst,ef,hf.ms];simp only[beq_self_eq_true,Bool.true_and];have :=hf.a0;exact aS.2 ⟨by omega,by omega⟩
   have :cI r (goTo p i j b') f=jH f (goTo p i j b'):=by
    unfold cI;have c1:(goTo p i j b').1=(2:Int):=c1;have c3:p.2.2.1=A.src:=c3;rw[c1];have :(f.1==r)=true:=by rw[beq_iff_eq,hf.src,<- hd];exact c3.symm
    rw[this];rfl
   rw[this];exact (bQo hA hf ha).2.1
 .exact .inl ⟨y,hy,c⟩
theorem Rnd.proc0{A:Aim}(hA:pC A){b:Bool}{e:Int×Int->Nat}{m:Nat}{w:den tNw}{r inn:Int}{p:den tPk}(h:Rnd A b (λd=>kU d p+e d) (m+1) w ((r,inn,p)::aE w))(hk:(p.1==(1:Int))=false):Rnd A b e m (proc0 w r inn p) (aE (proc0 w r inn p)):=by
 unfold Go.Proofs.YtnkjolpkcmgcaaaGreat.proc0;rw[h.mid.step r inn p];split
 .rename_i c;exact h.fwd (eq_of_beq c)
 .rename_i c0;split
  .rename_i c;exact h.home hA hk (eq_of_beq c)
  .rename_i c1;refine h.lost λg=> ?_
   rcases g.code with g | g
   .rw[g]at c0;exact c0 rfl
   .rw[g]at c1;exact c1 rfl
theorem aRb(l:lIb)(a b:Int):(dD l a b<0/\ ∀x∈l,oO a b x=false)\/ ∃(k:Nat) (x:den tIb),dD l a b=(k:Int)/\l[k]? =some x/\oO a b x=true:=by
 unfold dD;cases h:l.findIdx? (oO a b) with
 | none=>
  refine .inl ⟨by decide,λx hx=> ?_⟩;have :=List.findIdx?_eq_none_iff.1 h x hx;simpa using this
 | some i=>
  obtain⟨h1,h2,_⟩:=List.findIdx?_eq_some_iff_getElem.1 h;exact .inr ⟨i,l[i],by simp,bZw h1,h2⟩
theorem aZq{t:den tTo}{w:den tNw}(hi:bL t w){r s:Int}(h: ¬ dD (aQ w) r s<0):∃(k:Nat) (f:den tFl),dD (aQ w) r s=(k:Int)/\(aB w)[k]? =some f/\(aQ w)[k]? =some (iT w k)/\wH t f (iT w k)/\f.1=s/\f.2.1=r/\(iT w k).1=r/\(iT w k).2.1=s:=by
 rcases aRb (aQ w) r s with ⟨h1,_⟩ | ⟨k,x,h1,h2,h3⟩
 .exact absurd h1 h
 .have hlt:=(bZy.1 h2).1;have hl:k<(aB w).length:=by rw[<- hi.lenB];exact hlt
  have hb:iT w k=x:=by unfold iT;rw[h2];rfl
  have hF:=hi.flow k _ x (bZw hl) h2;unfold oO at h3;simp only[bZu,beq_iff_eq]at h3;refine⟨k,_,h1,bZw hl,by rw[hb];exact h2,by rw[hb];exact hF,?_,?_,by rw[hb];exact h3.1,by rw[hb];exact h3.2⟩
  .rw[<- hF.xFrom];exact h3.2
  .rw[<- hF.xAS];exact h3.1
theorem aH8(x:den tIb)(p:den tPk):(cV x p).1=x.1/\(cV x p).2.1=x.2.1:=by
 unfold cV;split<;>exact⟨rfl,rfl⟩
theorem aXj{t:den tTo}{w:den tNw}(hi:bL t w){r:Int}{p:den tPk}(hg:mF w p)(h: ¬ dD (aQ w) r p.2.1<0)(ha:zJ (cV (iT w (dD (aQ w) r p.2.1).toNat) p) p=true):
  p.2.2.1=r/\p.1=(1:Int)/\lB (cV (iT w (dD (aQ w) r p.2.1).toNat) p) p=dT 2 (fF p.2.2.2.1) p.2.2.2.2.2.2.2.1 p.2.2.2.2.2.2.2.2.1 []/\ends (fF p.2.2.2.1)=(p.2.2.1,p.2.1):=by
 obtain⟨k,f,e1,e2,e3,e4,e5,e6,e7,e8⟩:=aZq hi h;have hm:lB (cV (iT w (dD (aQ w) r p.2.1).toNat) p) p=dT 2 (fF p.2.2.2.1) p.2.2.2.2.2.2.2.1 p.2.2.2.2.2.2.2.2.1 []:=by
  unfold lB;rw[ha];rfl
 rw[e1,bZ4]at ha;unfold zJ xC at ha;simp only[bZu,beq_iff_eq]at ha;obtain⟨⟨h1,h2,h3⟩,_⟩:=ha;have h3:p.2.2.1=r:=h3.trans ((aH8 _ _).1.trans e7);obtain⟨p1,p2,_⟩:=(hg k f _ e2 e3).1 h1 e5.symm (h3.trans e6.symm);refine⟨h3,h1,hm,?_⟩;rw[aHg ((aF2 _).1.trans p2) ((aF2 _).2.trans p1),e5,e6,h3]
theorem Rnd.data{A:Aim}(hA:pC A){b:Bool}{e:Int×Int->Nat}{m:Nat}{w:den tNw}{r inn:Int}{p:den tPk}(h:Rnd A b (λd=>kU d p+e d) (m+1) w ((r,inn,p)::aE w))(hi:bL A.t w)(hg:mF w p)(hk:(p.1==(1:Int))=true)(hc:(aD A.t A.now A.dead r inn p).1=1):
  Rnd A b e m (nB w r (aD A.t A.now A.dead r inn p).2.2.1) (aE (nB w r (aD A.t A.now A.dead r inn p).2.2.1)):=by
 obtain⟨i,j,b',eg⟩:=zL A.t A.now A.dead r inn p;have hd:p.2.2.1=r:=aXm hc;have hv:dR p=true:=(qS (t:=A.t) (r:=r) (now:=A.now) (dead:=eG A.t A.dead r) (inn:=inn) (p:=p) (.inr (.inl hc))).val;rw[eg];have hg':mF w (goTo p i j b'):=hg.goTo i j b';have tracked:∀a,Trk A a (r,inn,p)->(∃f,(aB w)[A.i]? =some f/\FC A f/\dE f=a/\a<(A.ms.length:Int))-> ¬ dD (aQ w) r (goTo p i j b').2.1<0/\zJ (cV (iT w (dD (aQ w) r (goTo p i j b').2.1).toNat) (goTo p i j b')) (goTo p i j b')=true/\p.2.1=A.src/\p.2.2.2.1=A.q/\p.2.2.2.2.2.2.2.2.1=a:=by
  rintro a (⟨ta,t1,t2,t3,t4,t5⟩ | ⟨_,t1,_⟩) ⟨f,f1,f2,f3,f4⟩
  .have t2:p.2.1=A.src:=t2;have t3:p.2.2.1=A.dst:=t3;have t5:p.2.2.2.2.2.2.2.2.1=a:=t5;have hlt:A.i<(aQ w).length:=by rw[hi.lenB];exact (bZy.1 f1).1
   have hFi:=hi.flow A.i f _ f1 (bZw hlt);have hn: ¬ dD (aQ w) r p.2.1<0:=by
    rcases aRb (aQ w) r p.2.1 with ⟨_,h2⟩ | ⟨k,x,h1,_⟩
    .have :=h2 _ (cBd hlt);unfold oO at this;rw[hFi.xAS,hFi.xFrom,f2.src,f2.dst,t2,<- hd,t3]at this;simp at this
    .rw[h1];omega
   refine⟨hn,?_,t2,t4,t5⟩;obtain⟨k,g,e1,e2,e3,e4,e5,e6,e7,e8⟩:=aZq hi hn;have hki:k=A.i:=hi.one e2 f1 (by rw[e5,t2,f2.src]) (by rw[e6,<- hd,t3,f2.dst]);subst hki;rw[f1]at e2;injection e2 with e2;subst e2;show zJ (cV (iT w (dD (aQ w) r p.2.1).toNat) (goTo p i j b')) (goTo p i j b')=true;rw[e1,bZ4];generalize iT w A.i=x at e3 e4 e7 e8;have hack:dE f<=(x.2.2.2.length:Int):=e4.ack;have hnx:x.2.2.1=(x.2.2.2.length:Int):=e4.next
   have few:=hA.few;have ha0:0<=a:=by rw[<- f3];exact f2.a0
   have hcm:xC x (goTo p i j b')=true:=by
    unfold xC;show ((p.1==1)&&((p.2.1==x.2.1)&&(p.2.2.1==x.1)))=true;rw[hk,e8,e7,hd];simp
   have hcm2:xC (cV x (goTo p i j b')) (goTo p i j b')=true:=by
    unfold xC at hcm ⊢;rw[(aH8 _ _).1,(aH8 _ _).2];exact hcm
   have key:a<(cV x (goTo p i j b')).2.2.1:=by
    unfold cV aWp;rw[hcm];show a<(if (true&&((p.2.2.2.2.2.2.2.2.1==x.2.2.1)&&decide (x.2.2.1<20)))=true then _ else x).2.2.1;rw[t5]
    by_cases ea:a=x.2.2.1
    .have h20':a<(20:Int):=by omega
     have h20:x.2.2.1<20:=by rw[<- ea];exact h20'
     have :(a==x.2.2.1)=true:=by rw[beq_iff_eq];exact ea
     rw[this,zX h20];have wr1:∀z:Int,0<=z->z<=100->wr (z+1)=z+1:=λz h1 h2=>wri (by omega) (by omega)
     have e1:=wr1 a ha0 (by omega);show a<wr (x.2.2.1+1);rw[<- ea,e1];exact Int.lt_succ a
    .have :(a==x.2.2.1)=false:=by rw[beq_eq_false_iff_ne];exact ea
     rw[this];show a<x.2.2.1;have hx:x.2.2.1=(x.2.2.2.length:Int):=hnx;have ea: ¬ a=x.2.2.1:=ea;rw[hx]at ea ⊢;omega
   unfold zJ;rw[hcm2];show (true&& !decide (p.2.2.2.2.2.2.2.2.1>=(cV x (goTo p i j b')).2.2.1))=true;rw[t5,zW (show ¬ a>=(cV x (goTo p i j b')).2.2.1 from λc=>absurd key (Int.not_lt.2 c))];rfl
  .have t1:p.1=(2:Int):=t1;rw[t1]at hk;exact absurd hk (by decide)
 have weak:Mid A.t A.now A.dead e m w:=h.mid.mono (λd=>cBo _ _) (cAw _);obtain⟨f,f1,f2,f3⟩:=h.flw;have hT:∀a,∀y∈(r,inn,p)::aE w,Trk A a y->((b=false/\bEo A f ((r,inn,p)::aE w))\/(b=true/\bQt A f ((r,inn,p)::aE w)))\/True:=λ_ _ _ _=> .inr trivial
 unfold nB;split
 .rename_i hx;refine⟨weak,⟨f,f1,f2,?_⟩,λy hy=>h.rev y (bZ0 _ hy)⟩;rcases f3 with ⟨hb,g1,g2,g3⟩ | ⟨hb,⟨g1,g2⟩ | ⟨g1,g2,g3,g4,y,hy,g5⟩⟩
  .exact .inl ⟨hb,g1,g2,λy hy=>g3 y (bZ0 _ hy)⟩
  .exact .inr ⟨hb,.inl ⟨g1,g2.elim .inl λg=> .inr λy hy=>g y (bZ0 _ hy)⟩⟩
  .rcases bZx.1 hy with hy | hy
   .subst hy;exact absurd hx (tracked _ g5 ⟨f,f1,f2,rfl,g3⟩).1
   .exact .inr ⟨hb,.inr ⟨g1,g2,g3,g4,y,hy,g5⟩⟩
 .rename_i hx;split
  .rename_i ha;obtain⟨q1,q2,q3,q4⟩:=aXj hi hg' hx ha;rw[q3];have q4:ends (fF p.2.2.2.1)=(p.2.2.1,p.2.1):=q4;refine Rnd.proc0 hA (inn:=0) ⟨(h.mid.box _ _).mono (λd=> ?_) (bZ7 _),⟨f,f1,f2,?_⟩,λy hy c=> ?_⟩ rfl
   .exact cBy (bZv (aHy rfl) (aE6 hk)) _
   .have hrel:bDr A ((r,inn,p)::aE w) ((r,0,dT 2 (fF p.2.2.2.1) p.2.2.2.2.2.2.2.1 p.2.2.2.2.2.2.2.2.1 [])::aE w):=λy hy c=>by
     rcases bZx.1 hy with hy | hy
     .refine⟨_,bZ6 ..,?_⟩;rw[hy]at c;rcases c with ⟨c,_⟩ | ⟨_,c1,c2⟩
      .exact absurd c (show ¬ ((2:Int)=1) by decide)
      .have c1:(ends (fF p.2.2.2.1)).1=A.dst:=c1;have c2:(ends (fF p.2.2.2.1)).2=A.src:=c2;rw[q4]at c1 c2;exact .inl ⟨eq_of_beq hk,c2,c1⟩
     .exact⟨y,bZ0 _ hy,c⟩
    have none:(∀y∈(r,inn,p)::aE w,¬ Rel A y.2.2)-> ∀y∈(r,(0:Int),dT 2 (fF p.2.2.2.1) p.2.2.2.2.2.2.2.1 p.2.2.2.2.2.2.2.2.1 [])::aE w,¬ Rel A y.2.2:=λhn y hy c=>by
     obtain⟨z,hz,r⟩:=hrel y hy c;exact hn z hz r
    rcases f3 with ⟨hb,g1,g2,g3⟩ | ⟨hb,⟨g1,g2⟩ | ⟨g1,g2,g3,g4,y,hy,g5⟩⟩
    .exact .inl ⟨hb,g1,g2,none g3⟩
    .exact .inr ⟨hb,.inl ⟨g1,g2.elim .inl λg=> .inr (none g)⟩⟩
    .rcases bZx.1 hy with hy | hy
     .subst hy;obtain⟨_,_,u1,u2,u3⟩:=tracked _ g5 ⟨f,f1,f2,rfl,g3⟩;refine .inr ⟨hb,.inr ⟨g1,g2,g3,g4,_,bZ6 ..,.inr ⟨?_,rfl,?_,?_,u3⟩⟩⟩
      .have hw:=hA.work.2;have hends:(ends (fF A.q)).1=r:=by rw[<- u2,q4,hd]
       rw[hends]at hw;have hv':=hv;unfold dR at hv';simp only[bZu]at hv';have :=hw.set (m:=(2,p.2.2.2.2.2.2.2.1,p.2.2.2.2.2.2.2.2.1,[])) (by
        unfold okM;simp only[bZu];exact⟨by decide,hv'.2.2.2.2.2.2.2.1,hv'.2.2.2.2.2.2.2.2.1,rfl⟩)
       show Arr A.t A.now A.dead r 0 (dT 2 (fF p.2.2.2.1) p.2.2.2.2.2.2.2.1 p.2.2.2.2.2.2.2.2.1 []);rw[u2];exact this
      .show (ends (fF p.2.2.2.1)).1=A.dst;rw[q4];rcases g5 with ⟨_,_,_,g,_⟩ | ⟨_,g,_⟩
       .exact g
       .have g:p.1=(2:Int):=g;rw[g]at hk;exact absurd hk (by decide)
      .show (ends (fF p.2.2.2.1)).2=A.src;rw[q4];exact u1
     .exact .inr ⟨hb,.inr ⟨g1,g2,g3,g4,y,bZ0 _ hy,g5⟩⟩
   .rcases bZx.1 hy with hy | hy
    .rw[hy]at c;exact absurd c (show ¬ ((2:Int)=3) by decide)
    .exact h.rev y (bZ0 _ hy) c
  .rename_i ha;refine⟨weak.box _ _,⟨f,f1,f2,?_⟩,λy hy=>h.rev y (bZ0 _ hy)⟩;rcases f3 with ⟨hb,g1,g2,g3⟩ | ⟨hb,⟨g1,g2⟩ | ⟨g1,g2,g3,g4,y,hy,g5⟩⟩
   .exact .inl ⟨hb,g1,g2,λy hy=>g3 y (bZ0 _ hy)⟩
   .exact .inr ⟨hb,.inl ⟨g1,g2.elim .inl λg=> .inr λy hy=>g y (bZ0 _ hy)⟩⟩
   .rcases bZx.1 hy with hy | hy
    .subst hy;exact absurd (tracked _ g5 ⟨f,f1,f2,rfl,g3⟩).2.1 ha
    .exact .inr ⟨hb,.inr ⟨g1,g2,g3,g4,y,hy,g5⟩⟩
theorem Rnd.note{A:Aim}(hA:pC A){b:Bool}{e:Int×Int->Nat}{m:Nat}{w:den tNw}{r inn:Int}{p:den tPk}(h:Rnd A b (λd=>kU d p+e d) (m+1) w ((r,inn,p)::aE w))(hk:(p.1==(1:Int))=true)(hc:(aD A.t A.now A.dead r inn p).1=7):
  Rnd A b e m (oM w r (aD A.t A.now A.dead r inn p).2.2.2 p) (aE (oM w r (aD A.t A.now A.dead r inn p).2.2.2 p)):=by
 have hrev:aFx A.t A.dead (dG r (aG w) (aD A.t A.now A.dead r inn p).2.2.2 p).2.2.2.2.2.2.2.2.2:=⟨r,_,_,rfl,bPz hc⟩
 generalize (aD A.t A.now A.dead r inn p).2.2.2=d at hrev;have key:Rnd A b (λd'=>kU d' (dG r (aG w) d p)+e d') (m+1) w ((r,0,dG r (aG w) d p)::aE w):=by
  refine⟨h.mid.mono (λd=>cBy (bZv (aHy rfl) (aE6 hk)) _) (bZ7 _),h.flw.same rfl (λy hy c=> ?_) (λa y hy c=> ?_),λy hy c=> ?_⟩
  .rcases bZx.1 hy with hy | hy
   .rw[hy]at c;rcases c with ⟨c,_⟩ | ⟨c,_⟩
    .exact absurd c (show ¬ ((3:Int)=1) by decide)
    .exact absurd c (show ¬ ((3:Int)=2) by decide)
   .exact⟨y,bZ0 _ hy,c⟩
  .rcases bZx.1 hy with hy | hy
   .subst hy;rcases (aZi c).code with g | g
    .rw[show (aD A.t A.now A.dead r inn p).1=7 from hc]at g;exact absurd g (by decide)
    .rw[show (aD A.t A.now A.dead r inn p).1=7 from hc]at g;exact absurd g (by decide)
   .exact⟨y,bZ0 _ hy,c⟩
  .rcases bZx.1 hy with hy | hy
   .rw[hy];exact hrev
   .exact h.rev y (bZ0 _ hy) c
 unfold oM;split
 .have r1:=key.proc0 hA rfl;exact⟨r1.mid.drop,r1.flw.same rfl (λy hy c=>⟨y,hy,c⟩) (λa y hy c=>⟨y,hy,c⟩),r1.rev⟩
 .refine⟨((key.mid.mono (λd=>cBo _ _) (cAw _)).flows _).drop,Flw.same (w:=sS w r (dG r (aG w) d p)) (L:=aE w) (key.flw.told hA (λ_=>hrev) (λc=>⟨_,bZ6 ..,c⟩) (λy hy c=>⟨y,bZ0 _ hy,c⟩) (λa y hy c=> ?_)) rfl (λy hy c=>⟨y,hy,c⟩) (λa y hy c=>⟨y,hy,c⟩),λy hy=>key.rev y (bZ0 _ hy)⟩;rcases bZx.1 hy with hy | hy
  .subst hy;rcases c with ⟨_,c,_⟩ | ⟨_,c,_⟩
   .exact absurd c (show ¬ ((3:Int)=1) by decide)
   .exact absurd c (show ¬ ((3:Int)=2) by decide)
  .exact .inl ⟨y,hy,c⟩
theorem Rnd.proc{A:Aim}(hA:pC A){b:Bool}{e:Int×Int->Nat}{m:Nat}{w:den tNw}{r inn:Int}{p:den tPk}(h:Rnd A b (λd=>kU d p+e d) (m+1) w ((r,inn,p)::aE w))(hi:bL A.t w)(hg:aNs w p):Rnd A b e m (cZ w r inn p) (aE (cZ w r inn p)):=by
 unfold cZ;rw[h.mid.step r inn p];split
 .rename_i c;exact h.fwd (eq_of_beq c)
 .rename_i c0;split
  .rename_i c1;have hv:dR p=true:=(qS (t:=A.t) (r:=r) (now:=A.now) (dead:=eG A.t A.dead r) (inn:=inn) (p:=p) (.inr (.inl (eq_of_beq c1)))).val;split
   .rename_i hk;exact h.data hA hi (hg hv) hk (eq_of_beq c1)
   .rename_i hk;exact h.home hA (eq_false_of_ne_true hk) (eq_of_beq c1)
  .rename_i c1;split
   .rename_i c7;rw[bZu]at c7;exact h.note hA c7.2 (eq_of_beq c7.1)
   .refine h.lost λg=> ?_
    rcases g.code with g | g
    .rw[g]at c0;exact c0 rfl
    .rw[g]at c1;exact c1 rfl
theorem Rnd.out{A:Aim}(hA:pC A){b:Bool}{e:Int×Int->Nat}{m:Nat}{w:den tNw}(h:Rnd A b e m w (aE w))(hi:bL A.t w):Rnd A b e m (outW w) (aE (outW w))/\bL A.t (outW w):=by
 unfold outW;split
 .exact⟨h,hi⟩
 .rename_i x l hf;have hi':bL A.t (bJ w l):=hi.same rfl rfl rfl λy hy=> .inl (by rw[hf];exact bZ0 _ hy)
  have hg:aNs (bJ w l) x.2.2:=hi.good x (by rw[hf];exact bZ6 ..);refine⟨Rnd.proc hA ⟨h.mid.take hf,?_,?_⟩ hi' hg,aCg hi' hg⟩
  .have :=h.flw;rw[hf]at this;exact this.same rfl (λy hy c=>⟨y,hy,c⟩) (λa y hy c=>⟨y,hy,c⟩)
  .have :=h.rev;rw[hf]at this;exact this
theorem Rnd.del{A:Aim}(hA:pC A){b:Bool}{e:Int×Int->Nat}{m:Nat}:∀(n:Nat) {w:den tNw},Rnd A b e m w (aE w)->bL A.t w->Rnd A b e m (delW n w) (aE (delW n w))/\bL A.t (delW n w)
 | 0,w,h,hi=>⟨h,hi⟩
 | n+1,w,h,hi=>by
  unfold delW;split
  .exact⟨h,hi⟩
  .obtain⟨h1,h2⟩:=h.out hA hi;exact Rnd.del hA n h1 h2
theorem aR2{t:den tTo}{w:den tNw}{k:Nat}{f:den tFl}(h:bL t w)(hf:(aB w)[k]? =some f):bL t (bR w ((aB w).set k (aI f).1))/\((aI f).2.2=true->mF (bR w ((aB w).set k (aI f).1)) (aI f).2.1):=by
 obtain⟨c,wt,e1,e2⟩:=vQ f;have hset:bL t (bR w ((aB w).set k (aI f).1)):=by
  refine h.set hf (by rw[e1];rfl) (by rw[e1];rfl) (λs m hm=>by rw[e1];exact hm) λx hx=> ?_
  have hv:=aTy hx.val;rw[e1]at hv ⊢;exact⟨hv,hx.src,hx.dst,hx.xAS,hx.xFrom,hx.next,hx.recv,hx.len,hx.ack,hx.paths⟩
 refine⟨hset,λhb=> ?_⟩;obtain⟨g1,g2⟩:=e2 hb;rw[<- e1]at g1 g2;rw[g1];refine aUm hset (k:=k) ?_ g2;show ((aB w).set k _)[k]? =_;rw[cB4 (bZy.1 hf).1]
theorem aJy{t:den tTo}{w:den tNw}{k:Nat}{f:den tFl}(h:bL t w)(hf:(aB w)[k]? =some f)(hs:(aI f).2.2=true):(aI f).2.1.1=(1:Int)/\(aI f).2.1.2.1=f.1/\(aI f).2.1.2.2.1=f.2.1/\(aI f).1.1=f.1:=by
 obtain⟨c,wt,e1,e2⟩:=vQ f;obtain⟨g1,g2⟩:=e2 hs;have hk:k<(aQ w).length:=by rw[h.lenB];exact (bZy.1 hf).1
 have hfi:=h.flow k f _ hf (bZw hk);have g3:=g2;unfold sends at g3;rw[bZu]at g3;obtain⟨a0,a1⟩:=aS.1 g3.1;have hc:c.toNat<f.2.2.2.2.2.1.length:=by
  have a0:0<=c:=a0;have a1:c<=(f.2.2.2.2.2.1.length:Int) - 1:=a1;omega
 obtain⟨p1,p2⟩:=hfi.paths _ (bZ9 (bZw hc));have he:=aHg p1 p2;have e:lE (setCW f c wt)=dT 1 (f.2.2.2.2.2.1[c.toNat]'hc) f.2.2.1 f.2.2.2.1 ((f.2.2.2.2.1[f.2.2.2.1.toNat]?).getD []):=by
  unfold lE;rw[zT g2];show dT 1 ((f.2.2.2.2.2.1[c.toNat]?).getD []) _ _ _=_;rw[bZw hc];rfl
 rw[g1,e,e1];refine⟨rfl,?_,?_,rfl⟩
 .show (ends _).1=_;rw[he]
 .show (ends _).2=_;rw[he]
theorem Rnd.other{A:Aim}(hA:pC A){b:Bool}{e:Int×Int->Nat}{m:Nat}{w:den tNw}{k:Nat}(h:Rnd A b (λd=>2+e d) (m+1) w (aE w))(hi:bL A.t w)(hk:k≠A.i):Rnd A b e m (stepT k w) (aE (stepT k w))/\bL A.t (stepT k w):=by
 refine⟨?_,aFq k hi⟩;unfold stepT;split
 .rename_i f hf;obtain⟨i1,i2⟩:=aR2 hi hf;have same:(aB (bR w ((aB w).set k (aI f).1)))[A.i]? =(aB w)[A.i]? :=cCu hk;split
  .rename_i hb;obtain⟨s1,s2,s3,s4⟩:=aJy hi hf hb;refine Rnd.proc hA (inn:=0) ⟨(h.mid.flows _).mono (λd=>cBy (aTr _ _) _) (bZ7 _),h.flw.same same (λy hy c=> ?_) (λa y hy c=>⟨y,bZ0 _ hy,c⟩),λy hy c=> ?_⟩ i1 λ_=>i2 hb
   .rcases bZx.1 hy with hy | hy
    .exfalso;rw[hy]at c;obtain⟨g,g1,g2,_⟩:=h.flw;rcases c with ⟨_,c1,c2⟩ | ⟨c0,_⟩
     .exact hk (hi.one hf g1 (by rw[g2.src,<- c1];exact s2.symm) (by rw[g2.dst,<- c2];exact s3.symm))
     .rw[s1]at c0;exact absurd c0 (by decide)
    .exact⟨y,hy,c⟩
   .rcases bZx.1 hy with hy | hy
    .rw[hy]at c;rw[s1]at c;exact absurd c (by decide)
    .exact h.rev y hy c
  .exact⟨(h.mid.flows _).mono (λd=>cBo _ _) (cAw _),h.flw.same same (λy hy c=>⟨y,hy,c⟩) (λa y hy c=>⟨y,hy,c⟩),h.rev⟩
 .exact⟨h.mid.mono (λd=>cBo _ _) (cAw _),h.flw,h.rev⟩
theorem FC.setCW{A:Aim}{f:den tFl}(h:FC A f){c wt:Int}(c0:0<=c)(c1:c<(A.ps.length:Int))(w0:0<=wt)(w1:wt<=4):FC A (setCW f c wt):=⟨h.src,h.dst,h.ms,h.ps,h.a0,h.a1,c0,c1,w0,w1⟩
theorem FC.sends{A:Aim}{f:den tFl}(h:FC A f)(ha:dE f<(A.ms.length:Int)):sends f=true:=by
 have c0:=h.c0;have c1:=h.c1;have a0:=h.a0;unfold Go.Proofs.YtnkjolpkcmgcaaaGreat.sends;rw[bZu];refine⟨aS.2 ⟨h.c0,?_⟩,aS.2 ⟨h.a0,?_⟩⟩
 .rw[h.ps];show eX f<=_;omega
 .rw[h.ms];show dE f<=_;omega
theorem Rnd.own{A:Aim}(hA:pC A){e:Int×Int->Nat}{m:Nat}{w:den tNw}(h:Rnd A false (λd=>2+e d) (m+1) w (aE w))(hi:bL A.t w):Rnd A true e m (stepT A.i w) (aE (stepT A.i w))/\bL A.t (stepT A.i w):=by
 refine⟨?_,aFq A.i hi⟩;obtain⟨f,f1,f2,f3⟩:=h.flw;have f3:bEo A f (aE w):=f3.elim (·.2) λc=>absurd c.1 (by decide)
 obtain⟨g1,g2,g3⟩:=f3;obtain⟨i1,i2⟩:=aR2 hi f1;have hlt:=(bZy.1 f1).1;have self:∀g,(aB (bR w ((aB w).set A.i g)))[A.i]? =some g:=λg=>cB4 hlt
 have hs:=f2.sends g1;have cn:=hA.cn;have w0:=f2.w0;have w1:=f2.w1;have a0:=f2.a0;have few:=hA.few;have data:∀c wt:Int,c=A.c->sends (setCW f c wt)=true->bLl A (dE f) (A.src,0,lE (setCW f c wt)):=by
  intro c wt hc hsd;have hk:A.i<(aQ w).length:=by rw[hi.lenB];exact hlt
  have hv:=(mE f).1 (hi.flow _ f _ f1 (bZw hk)).val;have hms:(f.2.2.2.2.1[f.2.2.2.1.toNat]?).getD []∈f.2.2.2.2.1:=by
   have :f.2.2.2.1.toNat<f.2.2.2.2.1.length:=by
    rw[f2.ms];have key:∀(z:Int) (n:Nat),0<=z->z<(n:Int)->z.toNat<n:=λz n h1 h2=>by omega
    exact key _ _ a0 g1
   rw[bZw this];exact cBd this
  have eq:lE (setCW f c wt)=dT 1 A.q f.2.2.1 (dE f) ((f.2.2.2.2.1[f.2.2.2.1.toNat]?).getD []):=by
   unfold lE;rw[zT hsd];show dT 1 ((f.2.2.2.2.2.1[c.toNat]?).getD []) _ _ _=_;rw[f2.ps,hc,bZ4,hA.at_];rfl
  have hends:ends A.q=(A.src,A.dst):=aHg hA.fst_ hA.lst_;rw[eq];have hw:=hA.work.1;rw[hends]at hw;refine⟨hw.set (m:=(1,f.2.2.1,dE f,(f.2.2.2.2.1[f.2.2.2.1.toNat]?).getD [])) ?_,rfl,?_,?_,rfl,rfl⟩
  .unfold okM;simp only[bZu];refine⟨by decide,hv.2.2.2.1,aS.2 ⟨a0,by omega⟩,?_⟩;rw[zR];have :=hv.2.2.2.2.2.2.2.1 _ hms;omega
  .show (ends A.q).1=A.src;rw[hends]
  .show (ends A.q).2=A.dst;rw[hends]
 have rest:∀(c wt:Int),aI f=(setCW f c wt,lE (setCW f c wt),true)->sends (setCW f c wt)=true->0<=c->c<(A.ps.length:Int)->wt=1->(c=A.c->2 * ((A.ms.length:Int) - dE f)+4<=A.m)->(c≠A.c->muF A (setCW f c wt)+1<=A.m)->Rnd A true e m (stepT A.i w) (aE (stepT A.i w)):=by
  intro c wt ht hsd c0 c1 hw hT hS;subst hw;have hfc:=f2.setCW c0 c1 (show (0:Int)<=1 by decide) (show (1:Int)<=4 by decide);obtain⟨s1,s2,s3,s4⟩:=aJy hi f1 (by rw[ht]);rw[ht]at i1 i2 s1 s2 s3;have est:stepT A.i w=cZ (bR w ((aB w).set A.i (setCW f c 1))) A.src 0 (lE (setCW f c 1)):=by
   unfold stepT;rw[f1];show (if (aI f).2.2=true then cZ (bR w ((aB w).set A.i (aI f).1)) (aI f).1.1 0 (aI f).2.1 else _)=_;rw[ht];show cZ _ (setCW f c 1).1 0 _=_;rw[show (setCW f c 1).1=A.src from f2.src]
  rw[est];refine Rnd.proc hA ⟨(h.mid.flows _).mono (λd=>cBy (aTr _ _) _) (bZ7 _),⟨_,self _,hfc,.inr ⟨rfl,?_⟩⟩,λy hy c=> ?_⟩ i1 λ_=>i2 rfl
  .by_cases hc:c=A.c
   .exact .inr ⟨hc,rfl,g1,hT hc,_,bZ6 ..,.inl (data c 1 hc hsd)⟩
   .exact .inl ⟨hS hc,.inl (show (1:Int)<=1 by decide)⟩
  .rcases bZx.1 hy with hy | hy
   .rw[hy]at c;rw[s1]at c;exact absurd c (by decide)
   .exact h.rev y hy c
 by_cases h0:eF f=0
 .have ht:aI f=(setCW f (eX f) 1,lE f,true):=by
   unfold aI;rw[hs];have :(f.2.2.2.2.2.2.2.1==0)=true:=by rw[beq_iff_eq];exact h0
   rw[this];rfl
  have e1:lE f=lE (setCW f (eX f) 1):=rfl;rw[e1]at ht;have hm:muF A f=2 * ((A.ms.length:Int) - dE f)+(5 - 0)+6 * qT A.ps.length A.c (eX f) 0:=by unfold muF;rw[h0]
  have fp:=(aYb (n:=A.ps.length) (c:=A.c) (cur:=eX f) (w:=0) (by omega) cn f2.c0 f2.c1).1;refine rest _ 1 ht hs f2.c0 f2.c1 rfl (λhc=>by omega) λhc=> ?_
  have e2:muF A (setCW f (eX f) 1)=2 * ((A.ms.length:Int) - dE f)+(5 - 1)+6 * qT A.ps.length A.c (eX f) 1:=rfl;rw[e2,aZm hc];omega
 .by_cases h4:eF f=4
  .have hn:=aKe (n:=A.ps.length) (c:=A.c) (cur:=eX f) (w:=eF f) (by omega) cn f2.c0 f2.c1 (.inr h0);have hs2:sends (setCW f (oN f) 1)=true:=by
    have :FC A (setCW f (oN f) 1):=f2.setCW (by rw[aBr hA f2];exact hn.1) (by rw[aBr hA f2];exact hn.2.1) (by decide) (by decide);exact this.sends g1
   have ht:aI f=(setCW f (oN f) 1,lE (setCW f (oN f) 1),true):=by
    unfold aI;rw[hs];have a:(f.2.2.2.2.2.2.2.1==0)=false:=by rw[beq_eq_false_iff_ne];exact h0
    have b:(f.2.2.2.2.2.2.2.1==4)=true:=by rw[beq_iff_eq];exact h4
    rw[a,b,hs2];rfl
   have hm:muF A f=2 * ((A.ms.length:Int) - dE f)+(5 - 4)+6 * qT A.ps.length A.c (eX f) (eF f):=by unfold muF;rw[<- h4]
   refine rest _ 1 ht hs2 (by rw[aBr hA f2];exact hn.1) (by rw[aBr hA f2];exact hn.2.1) rfl (λhc=>by omega) λhc=> ?_
   have e2:muF A (setCW f (oN f) 1)=2 * ((A.ms.length:Int) - dE f)+(5 - 1)+6 * qT A.ps.length A.c (oN f) 1:=rfl;rw[e2,aZm hc,aBr hA f2];omega
  .have e:wr (eF f+1)=eF f+1:=wri (by omega) (by omega);have ht:aI f=(setCW f (eX f) (eF f+1),pk0,false):=by
    unfold aI;rw[hs];have a:(f.2.2.2.2.2.2.2.1==0)=false:=by rw[beq_eq_false_iff_ne];exact h0
    have b:(f.2.2.2.2.2.2.2.1==4)=false:=by rw[beq_eq_false_iff_ne];exact h4
    rw[a,b,<- e];rfl
   have est:stepT A.i w=bR w ((aB w).set A.i (setCW f (eX f) (eF f+1))):=by
    unfold stepT;rw[f1];show (if (aI f).2.2=true then _ else bR w ((aB w).set A.i (aI f).1))=_;rw[ht];rfl
   rw[est];refine⟨(h.mid.flows _).mono (λd=>cBo _ _) (cAw _),⟨_,self _,f2.setCW f2.c0 f2.c1 (by omega) (by omega),.inr ⟨rfl,.inl ⟨?_,.inr g3⟩⟩⟩,h.rev⟩;have e2:muF A (setCW f (eX f) (eF f+1))=2 * ((A.ms.length:Int) - dE f)+(5 - (eF f+1))+6 * qT A.ps.length A.c (eX f) (eF f+1):=rfl;have e3:qT A.ps.length A.c (eX f) (eF f+1)=qT A.ps.length A.c (eX f) (eF f):=by
    unfold qT;rw[zS (show ¬ eF f+1=0 by omega),zS h0]
   have e4:muF A f=2 * ((A.ms.length:Int) - dE f)+(5 - eF f)+6 * qT A.ps.length A.c (eX f) (eF f):=rfl;rw[e2,e3];omega
theorem Rnd.ticks{A:Aim}(hA:pC A):∀(n k:Nat) {w:den tNw},Rnd A (decide (A.i<k)) (λ_=>2 * n) n w (aE w)->bL A.t w->Rnd A (decide (A.i<k+n)) (λ_=>2 * 0) 0 (tickL k n w) (aE (tickL k n w))/\bL A.t (tickL k n w)
 | 0,k,w,h,hi=>⟨h,hi⟩
 | n+1,k,w,h,hi=>by
  have h':Rnd A (decide (A.i<k)) (λd=>2+(λ_=>2 * n) d) (n+1) w (aE w):=⟨h.mid.mono (λd=>by show 2+2 * n<=2 * (n+1);omega) (bZ7 _),h.flw,h.rev⟩
  show Rnd A _ _ 0 (tickL (k+1) n (stepT k w)) (aE (tickL (k+1) n (stepT k w)))/\bL A.t (tickL (k+1) n (stepT k w));have goal:Rnd A (decide (A.i<k+1)) (λ_=>2 * n) n (stepT k w) (aE (stepT k w))/\bL A.t (stepT k w):=by
   by_cases hk:k=A.i
   .subst hk;rw[zW (Nat.lt_irrefl _)]at h';rw[zX (Nat.lt_succ_self _)];exact h'.own hA hi
   .have e:decide (A.i<k+1)=decide (A.i<k):=by
     rw[Bool.eq_iff_iff,zR,zR];omega
    rw[e];exact h'.other hA hi hk
  have r:=Rnd.ticks hA n (k+1) goal.1 goal.2;rw[show k+1+n=k+(n+1) by omega]at r;exact r
theorem bO8{A:Aim}(hA:pC A){w:den tNw}(hi:bL A.t w)(h0:aE w=[])(hl:(aB w).length<=3)(hn:wr (aG w+1)=A.now)(hlt: ¬ aG w>=1000000)(hd:aH w=A.dead)
  (hc:∀s d:Int,6<=free (tU (nG w).2.1 A.now) (nG w).1 s d A.now) {f:den tFl} (hf:(aB w)[A.i]? =some f) (hF:FC A f) (ha:dE f<(A.ms.length:Int)) (hm:muF A f<=A.m):
  ∃f',(aB (iP w))[A.i]? =some f'/\FC A f'/\muF A f'+1<=A.m:=by
 have m0:Mid A.t A.now A.dead (λ_=>2 * 3) 3 (tick0 w):=bKi hi.top hn hd (by rw[<- hn]at hc ⊢;exact hc) rfl h0;have i0:bL A.t (tick0 w):=hi.same rfl rfl rfl λy hy=> .inl hy
 have f0:aE (tick0 w)=[]:=h0;have r0:Rnd A (decide (A.i<0)) (λ_=>2 * (aB w).length) (aB w).length (tick0 w) (aE (tick0 w)):=by
  refine⟨m0.mono (λd=>by show 2 * _<=2 * 3;omega) hl,⟨f,hf,hF,.inl ⟨rfl,ha,hm,λy hy=> ?_⟩⟩,λy hy=> ?_⟩
  .rw[f0]at hy;cases hy
  .rw[f0]at hy;cases hy
 obtain⟨r1,i1⟩:=Rnd.ticks hA _ _ r0 i0;rw[Nat.zero_add,zX (bZy.1 hf).1]at r1;obtain⟨r2,i2⟩:=r1.del hA 2000 i1;have er:iP w=delW 2000 (tickL 0 (aB w).length (tick0 w)):=by
  unfold iP cG;rw[zS hlt]
 rw[<- er]at r2;have e0:aE (iP w)=[]:=aM2 (by omega) h0;obtain⟨f',g1,g2,g3⟩:=r2.flw;refine⟨f',g1,g2,?_⟩;rcases g3 with ⟨hb,_⟩ | ⟨_,⟨g3,_⟩ | ⟨_,_,_,_,y,hy,_⟩⟩
 .cases hb
 .exact g3
 .rw[e0]at hy;cases hy
structure aK7 (w w':den tNw):Prop where
 cap:(nG w').1=(nG w).1
 res:(nG w').2.1=(nG w).2.1
 flow:aB w'=aB w\/ ∃r p,aB w'=(aB w).map (cI r p)
theorem aKy(w:den tNw)(r eg:Int)(p:den tPk):aK7 w (eH w r eg p)/\aB (eH w r eg p)=aB w:=by
 have tr:∀(g:den tSc) (id s d now:Int),(pQ g id s d now).1=g.1/\(pQ g id s d now).2.2.1=g.2.1:=λg id s d now=>by
  unfold pQ;split
  .exact⟨rfl,rfl⟩
  .split<;>exact⟨rfl,rfl⟩
 unfold eH;split
 .exact⟨⟨(tr _ _ _ _ _).1,(tr _ _ _ _ _).2,.inl rfl⟩,rfl⟩
 .exact⟨⟨rfl,rfl,.inl rfl⟩,rfl⟩
theorem aOq(w:den tNw)(r inn:Int)(p:den tPk):aK7 w (proc0 w r inn p):=by
 unfold proc0;split
 .exact (aKy _ _ _ _).1
 .split
  .exact⟨rfl,rfl,.inr ⟨_,_,rfl⟩⟩
  .exact⟨rfl,rfl,.inl rfl⟩
theorem bJo(w:den tNw)(r:Int)(p:den tPk):aK7 w (nB w r p):=by
 unfold nB;split
 .exact⟨rfl,rfl,.inl rfl⟩
 .split
  .have h:=aOq (nV w (dD (aQ w) r p.2.1).toNat (cV (iT w (dD (aQ w) r p.2.1).toNat) p)) r 0 (lB (cV (iT w (dD (aQ w) r p.2.1).toNat) p) p);exact⟨h.cap,h.res,h.flow⟩
  .exact⟨rfl,rfl,.inl rfl⟩
theorem bIu(w:den tNw)(r d:Int)(p:den tPk):aK7 w (oM w r d p):=by
 unfold oM;split
 .have h:=aOq w r 0 (dG r (aG w) d p);exact⟨h.cap,h.res,h.flow⟩
 .exact⟨rfl,rfl,.inr ⟨_,_,rfl⟩⟩
theorem xI(w:den tNw)(r inn:Int)(p:den tPk):aK7 w (cZ w r inn p):=by
 unfold cZ;split
 .exact (aKy _ _ _ _).1
 .split
  .split
   .exact bJo _ _ _
   .exact⟨rfl,rfl,.inr ⟨_,_,rfl⟩⟩
  .split
   .exact bIu _ _ _ _
   .exact⟨rfl,rfl,.inl rfl⟩
def fZ(P:Nat->den tFl->Prop)(w:den tNw):Prop:= ∀(k:Nat) (f:den tFl),(aB w)[k]? =some f->P k f
theorem fZ.eq{P:Nat->den tFl->Prop}{w w':den tNw}(h:fZ P w)(e:aB w'=aB w):fZ P w':=λk f hf=>h k f (by rw[<- e];exact hf)
theorem fZ.tame{P:Nat->den tFl->Prop}(hT:∀k r q f,P k f->P k (cI r q f)){w w':den tNw}(h:fZ P w)(t:aK7 w w'):fZ P w':=by
 rcases t.flow with e | ⟨r,p,e⟩
 .exact h.eq e
 .intro k f hf;rw[e,cBq]at hf;obtain⟨g,hg,rfl⟩:=Option.map_eq_some_iff.1 hf;exact hT k r p g (h k g hg)
theorem fZ.out{P:Nat->den tFl->Prop}(hT:∀k r q f,P k f->P k (cI r q f)){w:den tNw}(h:fZ P w):fZ P (outW w):=by
 unfold outW;split
 .exact h
 .rename_i x l hf;exact fZ.tame hT (w:=bJ w l) (h.eq rfl) (xI _ _ _ _)
theorem fZ.del{P:Nat->den tFl->Prop}(hT:∀k r q f,P k f->P k (cI r q f)):∀(n:Nat) {w:den tNw},fZ P w->fZ P (delW n w)
 | 0,_,h=>h
 | n+1,w,h=>by
  unfold delW;split
  .exact h
  .exact fZ.del hT n (h.out hT)
theorem fZ.set{P:Nat->den tFl->Prop}{w:den tNw}(h:fZ P w){k:Nat}{g:den tFl}(hg:P k g):fZ P (bR w ((aB w).set k g)):=by
 intro j f hf;have hf:((aB w).set k g)[j]? =some f:=hf
 by_cases e:k=j
 .subst e;rw[List.getElem?_set]at hf;simp only[zV]at hf;split at hf
  .injection hf with hf;subst hf;exact hg
  .cases hf
 .rw[cCu e]at hf;exact h j f hf
theorem fZ.tickT{P:Nat->den tFl->Prop}(hT:∀k r q f,P k f->P k (cI r q f))(hK:∀k f,P k f->P k (aI f).1)(k:Nat){w:den tNw}(h:fZ P w):fZ P (stepT k w):=by
 unfold stepT;split
 .rename_i f hf;have h1:fZ P (bR w ((aB w).set k (aI f).1)):=h.set (hK k f (h k f hf));split
  .exact h1.tame hT (xI _ _ _ _)
  .exact h1
 .exact h
theorem fZ.tickL{P:Nat->den tFl->Prop}(hT:∀k r q f,P k f->P k (cI r q f))(hK:∀k f,P k f->P k (aI f).1):∀(n k:Nat) {w:den tNw},fZ P w->fZ P (tickL k n w)
 | 0,_,_,h=>h
 | n+1,k,w,h=>fZ.tickL hT hK n (k+1) (fZ.tickT hT hK k h)
theorem fZ.tick{P:Nat->den tFl->Prop}(hT:∀k r q f,P k f->P k (cI r q f))(hK:∀k f,P k f->P k (aI f).1){w:den tNw}(h:fZ P w):fZ P (cG w):=by
 unfold cG;split
 .exact h
 .exact fZ.tickL hT hK _ _ (w:=tick0 w) (h.eq rfl)
theorem fZ.round{P:Nat->den tFl->Prop}(hT:∀k r q f,P k f->P k (cI r q f))(hK:∀k f,P k f->P k (aI f).1){w:den tNw}(h:fZ P w):fZ P (iP w):=(h.tick hT hK).del hT _
theorem fZ.rounds{P:Nat->den tFl->Prop}(hT:∀k r q f,P k f->P k (cI r q f))(hK:∀k f,P k f->P k (aI f).1):∀(n:Nat) {w:den tNw},fZ P w->fZ P (aK n w)
 | 0,_,h=>h
 | n+1,w,h=>fZ.rounds hT hK n (h.round hT hK)
theorem aNz{w w':den tNw}(t:aK7 w w'):(aB w').length=(aB w).length:=by
 rcases t.flow with e | ⟨r,p,e⟩
 .rw[e]
 .rw[e,cAr]
structure eL (w:den tNw):Prop where
 cap:(nG w).1=(12:Int)
 low:∀s d now:Int,rs s d now (nG w).2.1<=6
 pos:∀x∈(nG w).2.1,(0:Int)<=x.2.2.2.1/\(20:Int)>=x.2.2.2.1
 few:(aB w).length<=3
 pth:fZ (λ_ f=>f.2.2.2.2.2.1.length<=4) w
theorem bOd:∀(k:Nat) (r:Int) (q:den tPk) (f:den tFl),f.2.2.2.2.2.1.length<=4->(cI r q f).2.2.2.2.2.1.length<=4:=λk r q f h=>by
 unfold cI;split
 .split
  .unfold jH;split<;>exact h
  .unfold iK;cases q.1==3&&(sD q.2.2.2.2.2.2.2.2.2).2.2.2<;>exact h
 .exact h
theorem bO3:∀(k:Nat) (f:den tFl),f.2.2.2.2.2.1.length<=4->(aI f).1.2.2.2.2.2.1.length<=4:=λk f h=>by
 obtain⟨c,wt,e,_⟩:=vQ f;rw[e];exact h
theorem eL.tame{w w':den tNw}(h:eL w)(t:aK7 w w'):eL w':=⟨t.cap.trans h.cap,by rw[t.res];exact h.low,by rw[t.res];exact h.pos,by rw[aNz t];exact h.few,h.pth.tame bOd t⟩
theorem eL.fly{w:den tNw}(h:eL w)(l:lFy):eL (bJ w l):=⟨h.cap,h.low,h.pos,h.few,h.pth.eq rfl⟩
theorem eL.out{w:den tNw}(h:eL w):eL (outW w):=by
 unfold outW;split
 .exact h
 .rename_i x l _;exact (h.fly l).tame (xI _ _ _ _)
theorem eL.del:∀(n:Nat) {w:den tNw},eL w->eL (delW n w)
 | 0,_,h=>h
 | n+1,w,h=>by
  unfold delW;split
  .exact h
  .exact eL.del n h.out
theorem eL.set{w:den tNw}(h:eL w){k:Nat}{g:den tFl}(hg:g.2.2.2.2.2.1.length<=4):eL (bR w ((aB w).set k g)):=⟨h.cap,h.low,h.pos,by show ((aB w).set k g).length<=3;rw[cBl];exact h.few,h.pth.set hg⟩
theorem eL.tickT(k:Nat){w:den tNw}(h:eL w):eL (stepT k w):=by
 unfold stepT;split
 .rename_i f hf;have h1:eL (bR w ((aB w).set k (aI f).1)):=h.set (bO3 k f (h.pth k f hf));split
  .exact h1.tame (xI _ _ _ _)
  .exact h1
 .exact h
theorem eL.tickL:∀(n k:Nat) {w:den tNw},eL w->eL (tickL k n w)
 | 0,_,_,h=>h
 | n+1,k,w,h=>eL.tickL n (k+1) (h.tickT k)
theorem eL.tick0{w:den tNw}(h:eL w):eL (tick0 w):=by
 refine⟨h.cap,λs d now=> ?_,λx hx=> ?_,h.few,h.pth.eq rfl⟩
 .show rs s d now (tU (nG w).2.1 (wr (aG w+1)))<=6;exact cA6 (aJ4 _ h.pos) (h.low s d now)
 .have hx:x∈tU (nG w).2.1 (wr (aG w+1)):=hx;exact h.pos x ((cAa.1 hx).1)
theorem eL.tick{w:den tNw}(h:eL w):eL (cG w):=by
 unfold cG;split
 .exact h
 .exact eL.tickL _ _ h.tick0
theorem eL.round{w:den tNw}(h:eL w):eL (iP w):=h.tick.del _
theorem eL.event{w:den tNw}(h:eL w)(e:den jJ):eL (doW w e).2:=by
 unfold doW;split
 .exact h.tick
 split
 .split
  .exact (eL.fly h _).tame (xI _ _ _ _)
  .exact h
 split
 .split
  .have :=h.fly ((zB w e.2.1.toNat).2.2.2.2.2.1);exact⟨h.cap,h.low,h.pos,h.few,h.pth.eq rfl⟩
  .exact h
 split
 .split
  .exact h.fly _
  .exact h
 split
 .have hl:aB (aV w e.2.1 (e.1==5))=aB w/\nG (aV w e.2.1 (e.1==5))=nG w:=by unfold aV;first | exact⟨rfl,rfl⟩ | (split<;>exact⟨rfl,rfl⟩)
  exact⟨by rw[hl.2];exact h.cap,by rw[hl.2];exact h.low,by rw[hl.2];exact h.pos,by rw[hl.1];exact h.few,h.pth.eq hl.1⟩
 split
 .split
  .exact h.fly _
  .exact h
 split
 .split
  .rename_i f _ hf;refine h.set ?_;have hp:=h.pth _ _ hf;unfold aBl
   first | exact hp | (split<;>exact hp)
  .exact h
 .exact h
theorem bJ8{w:den tNw}(h:eL w)(ho:OkS (nG w) (aG w))(hn:wr (aG w+1)=aG w+1):∀s d:Int,6<=free (tU (nG w).2.1 (aG w+1)) (nG w).1 s d (aG w+1):=by
 intro s d;have ht:=ho.tick (now':=aG w+1) (by omega);have hc:(nG w).1=(12:Int):=h.cap;have e:=bBz (l:=tU (nG w).2.1 (aG w+1)) (cap:=(nG w).1) (now:=aG w+1) ht.res (by rw[hc];decide) s d;rw[e,aUp,hc];have :=h.low s d (aG w+1);omega
theorem bK.outW(w:den tNw):bK w (outW w):=by
 unfold Go.Proofs.YtnkjolpkcmgcaaaGreat.outW;split
 .exact bK.refl w
 .rename_i x l hf;have hs:bK w (bJ w l):=⟨rfl,rfl,id,λy hy=> .inl (by rw[hf];exact bZ0 _ hy),λhn=>by
   rw[hf]at hn;show l.length<=150;simp only[cAy]at hn;omega⟩
  exact hs.trans (bK.proc _ _ _ _)
theorem bK.delW:∀(n:Nat) (w:den tNw),bK w (delW n w)
 | 0,w=>bK.refl w
 | n+1,w=>by
  unfold Go.Proofs.YtnkjolpkcmgcaaaGreat.delW;split
  .exact bK.refl w
  .exact (bK.outW w).trans (bK.delW n _)
theorem bJi{w:den tNw}(h0:0<=aG w)(h:aG w+1<=1000000):aG (iP w)=aG w+1:=by
 have e1:aG (iP w)=aG (cG w):=(bK.delW 2000 (cG w)).now;have e2:cG w=tickL 0 (aB w).length (tick0 w):=by
  unfold cG;rw[zS (show ¬ aG w>=1000000 by omega)]
 have e3:aG (tickL 0 (aB w).length (tick0 w))=aG (tick0 w):=(bK.tickL _ _ _).now;have e4:aG (tick0 w)=wr (aG w+1):=rfl;rw[e1,e2,e3,e4,aY (by omega) (by omega)]
theorem aPn:∀(n:Nat) (w:den tNw),aH (delW n w)=aH w
 | 0,_=>rfl
 | n+1,w=>by
  unfold delW;split
  .rfl
  .exact (aPn n (outW w)).trans (bKk w)
theorem bDs(w:den tNw):aH (iP w)=aH w:=(aPn 2000 (cG w)).trans (aIn w)
theorem bS5(w:den tNw):(aB (outW w)).length=(aB w).length:=by
 unfold outW;split
 .rfl
 .exact (aNz (xI _ _ _ _)).trans rfl
theorem bCq:∀(n:Nat) (w:den tNw),(aB (delW n w)).length=(aB w).length
 | 0,_=>rfl
 | n+1,w=>by
  unfold delW;split
  .rfl
  .exact (bCq n (outW w)).trans (bS5 w)
theorem bL7(k:Nat)(w:den tNw):(aB (stepT k w)).length=(aB w).length:=by
 unfold stepT;split
 .split
  .exact (aNz (xI _ _ _ _)).trans (by show ((aB w).set k _).length=_;rw[cBl])
  .show ((aB w).set k _).length=_;rw[cBl]
 .rfl
theorem aU2:∀(n k:Nat) (w:den tNw),(aB (tickL k n w)).length=(aB w).length
 | 0,_,_=>rfl
 | n+1,k,w=>by
  unfold tickL;exact (aU2 n (k+1) (stepT k w)).trans (bL7 k w)
theorem aUj(w:den tNw):(aB (iP w)).length=(aB w).length:=by
 refine (bCq 2000 (cG w)).trans ?_;unfold cG;split
 .rfl
 .exact aU2 _ 0 (tick0 w)
theorem aBi{t:den tTo}{B k d:Nat}{w:den tNw}(h:eI t B k d w)(hc:eL w)(n:Nat):k+n<=1000->d+n * 4008<=800000000->eI t (B+n * 328656) (k+n) (d+n * 4008) (aK n w)/\eL (aK n w)/\aG (aK n w)=aG w+n/\aH (aK n w)=aH w/\(aB (aK n w)).length=(aB w).length:=by
 induction n with
 | zero=>
  intro _ _;exact⟨h.mono (by omega) (by omega) (by omega),hc,by show aG w=aG w+((0:Nat):Int);omega,rfl,rfl⟩
 | succ n ih=>
  intro hk hd;obtain⟨a,b,c,e,g⟩:=ih (by omega) (by omega);have hlo:=h.run.lo;have hhi:=h.run.hi;rw[xV];refine⟨(eI.step a (by omega) (by omega)).mono (by omega) (by omega) (by omega),b.round,?_,(bDs _).trans e,(aUj _).trans g⟩;rw[bJi (by omega) (by omega),c];omega
theorem aOo{t:den tTo}{B k d:Nat}{w:den tNw}(h:eI t B k d w)(hc:eL w)(n:Nat):k+n<=1000->d+n * 4008<=800000000->aE (aK n w)=[]\/fD (aK n w)+1440 * n<=fD w:=by
 induction n with
 | zero=>intro _ _;exact .inr (bZ7 _)
 | succ n ih=>
  intro hk hd;have hf:=(aBi h hc n (by omega) (by omega)).2.1.few;rw[xV];rcases ih (by omega) (by omega) with g | g
  .exact .inl (aM2 (by omega) g)
  .rcases aP6 (w:=aK n w) (by omega) with g2 | g2
   .exact .inl g2
   .exact .inr (by omega)
theorem aZz{t:den tTo}{B k d:Nat}{w:den tNw}(h:eI t B k d w)(hc:eL w){n:Nat}(hn:15<=n)(hk:k+n<=1000)(hd:d+n * 4008<=800000000):aE (aK n w)=[]:=by
 rcases aOo h hc n hk hd with g | g
 .exact g
 .have h1:=bCm (aE w);have h2:=h.run.flyN;have h3:fD w=aC6 (aE w):=rfl;have h4:140 * (aE w).length<=140 * 150:=Nat.mul_le_mul_left _ h2;omega
def zA(f0 f:den tFl):Prop:=f.1=f0.1/\f.2.1=f0.2.1/\f.2.2.2.2.1=f0.2.2.2.2.1/\f.2.2.2.2.2.1=f0.2.2.2.2.2.1
theorem zA.trans{a b c:den tFl}(h:zA a b)(k:zA b c):zA a c:=⟨k.1.trans h.1,k.2.1.trans h.2.1,k.2.2.1.trans h.2.2.1,k.2.2.2.trans h.2.2.2⟩
theorem aUt(r:Int)(q:den tPk)(f:den tFl):zA f (cI r q f):=by
 unfold cI;split
 .split
  .unfold jH;split<;>exact⟨rfl,rfl,rfl,rfl⟩
  .unfold iK;cases q.1==3&&(sD q.2.2.2.2.2.2.2.2.2).2.2.2<;>exact⟨rfl,rfl,rfl,rfl⟩
 .exact⟨rfl,rfl,rfl,rfl⟩
theorem bKg(f:den tFl):zA f (aI f).1:=by
 obtain⟨c,wt,e,_⟩:=vQ f;rw[e];exact⟨rfl,rfl,rfl,rfl⟩
def bQx(i:Nat)(f0:den tFl)(k:Nat)(f:den tFl):Prop:=k=i->zA f0 f
theorem aBw{w:den tNw}{i:Nat}{f0:den tFl}(hf:(aB w)[i]? =some f0)(n:Nat){f:den tFl}(h:(aB (aK n w))[i]? =some f):zA f0 f:=by
 have a:fZ (bQx i f0) w:=λk g hg e=>by
  rw[e,hf]at hg;injection hg with hg;rw[hg];exact⟨rfl,rfl,rfl,rfl⟩
 exact fZ.rounds (P:=bQx i f0) (λk r q g hg e=>(hg e).trans (aUt r q g)) (λk g hg e=>(hg e).trans (bKg g)) n a i f h rfl
def aA8(f:den tFl):Prop:=f.2.2.2.1=(f.2.2.2.2.1.length:Int)
theorem bJ1{r:Int}{q:den tPk}{f:den tFl}(h:aA8 f):aA8 (cI r q f):=by
 have ha:vZ f q=false:=by
  have e:inR f.2.2.2.1 0 ((f.2.2.2.2.1.length:Int) - 1)=false:=by
   have h:f.2.2.2.1=(f.2.2.2.2.1.length:Int):=h;rw[h];cases c:inR (f.2.2.2.2.1.length:Int) 0 ((f.2.2.2.2.1.length:Int) - 1) with
   | false=>rfl
   | true=>have :=(aS.1 c).2;omega
  unfold vZ;rw[e];simp
 unfold cI;split
 .split
  .unfold jH;rw[ha];exact h
  .unfold iK;cases q.1==3&&(sD q.2.2.2.2.2.2.2.2.2).2.2.2<;>exact h
 .exact h
theorem bIe{f:den tFl}(h:aA8 f):aA8 (aI f).1:=by
 obtain⟨c,wt,e,_⟩:=vQ f;rw[e];exact h
def mkA(t:den tTo)(dead:List Int)(f0:den tFl)(c:Nat)(q:den tPt)(i:Nat)(now m:Int):Aim:=⟨t,now,dead,f0.1,f0.2.1,f0.2.2.2.2.1,f0.2.2.2.2.2.1,c,q,i,m⟩
theorem bEn{t:den tTo}{dead:List Int}{f0:den tFl}{c:Nat}{q:den tPt}{i:Nat}{now m:Int}{f:den tFl}(hv:hO f=true)(hs:zA f0 f)(hp:0<f0.2.2.2.2.2.1.length):FC (mkA t dead f0 c q i now m) f:=by
 rw[mE]at hv;obtain⟨q1,q2,q3,q4,q5,q6,q7,q8,q9,q10,q11,q12⟩:=hv;obtain⟨s1,s2,s3,s4⟩:=hs;obtain⟨a0,a1⟩:=aS.1 q6;obtain⟨w0,w1⟩:=aS.1 q11;rw[s3]at a1;rw[s4]at q10;refine⟨s1,s2,s3,s4,a0,a1,?_,?_,w0,w1⟩
 .rcases q10 with e | e
  .show 0<=f.2.2.2.2.2.2.1;rw[e];exact cAu _
  .exact (aS.1 e).1
 .show f.2.2.2.2.2.2.1<(f0.2.2.2.2.2.1.length:Int);rcases q10 with e | e
  .rw[e];exact Int.ofNat_lt.2 hp
  .have key:∀a b:Int,a<=b - 1->a<b:=λa b h=>by omega
   exact key _ _ (aS.1 e).2
theorem aU3{A:Aim}(hA:A.c<A.ps.length){f:den tFl}(h:FC A f):0<=muF A f/\muF A f<=2 * (A.ms.length:Int)+5+6 * (A.ps.length:Int):=by
 have a0:=h.a0;have a1:=h.a1;have w0:=h.w0;have w1:=h.w1;obtain⟨f0,f1⟩:=aYb (n:=A.ps.length) (c:=A.c) (cur:=eX f) (w:=eF f) (by omega) (by omega) h.c0 h.c1;unfold muF;constructor<;>omega
theorem bBa{t:den tTo}{B k d:Nat}{w:den tNw}(h:eI t B k d w)(hc:eL w){i:Nat}{f0:den tFl}(hf:(aB w)[i]? =some f0){c:Nat}{q:den tPt}(hq:f0.2.2.2.2.2.1[c]? =some q)(N:Nat)(hN:k+N<=1000)(hd:d+N * 4008<=800000000)
  (hw:∀τ:Int,aG w<=τ->τ<=aG w+N->aB0 t τ (aH w) q) (hn:15+(2 * f0.2.2.2.2.1.length+5+6 * f0.2.2.2.2.2.1.length)+1<=N):
  ∃f,(aB (aK N w))[i]? =some f/\aA8 f/\zA f0 f:=by
 have hcl:c<f0.2.2.2.2.2.1.length:=(bZy.1 hq).1;have hil:i<(aB w).length:=(bZy.1 hf).1;have hlo:=h.run.lo;have hhi:=h.run.hi;have hb:i<(aQ w).length:=by rw[h.inv.lenB];exact hil
 have hI:=h.inv.flow i f0 _ hf (bZw hb);have hv0:=(mE f0).1 hI.val;obtain⟨_,_,_,_,v5,_,v7,_⟩:=hv0;have hends:=hI.paths q (bZ9 hq);have key:∀m:Nat,15+m<=N-> ∃f,(aB (aK (15+m) w))[i]? =some f/\(aA8 f\/muF (mkA t (aH w) f0 c q i 0 0) f+m<=2 * (f0.2.2.2.2.1.length:Int)+5+6 * (f0.2.2.2.2.2.1.length:Int)):=by
  intro m
  induction m with
  | zero=>
   intro hm;obtain⟨a1,a2,a3,a4,a5⟩:=aBi h hc 15 (by omega) (by omega);have hl:i<(aB (aK 15 w)).length:=by rw[a5];exact hil
   refine⟨_,bZw hl,.inr ?_⟩;have hb:i<(aQ (aK 15 w)).length:=by rw[a1.inv.lenB];exact hl
   have hv:=(a1.inv.flow i _ _ (bZw hl) (bZw hb)).val;have hF:FC (mkA t (aH w) f0 c q i 0 0) _:=bEn hv (aBw hf 15 (bZw hl)) (by omega);have :=(aU3 (A:=mkA t (aH w) f0 c q i 0 0) hcl hF).2;have this:muF (mkA t (aH w) f0 c q i 0 0) _<=2 * (f0.2.2.2.2.1.length:Int)+5+6 * (f0.2.2.2.2.2.1.length:Int):=this;omega
  | succ m ih=>
   intro hm;obtain⟨f,hf',hor⟩:=ih (by omega);obtain⟨a1,a2,a3,a4,a5⟩:=aBi h hc (15+m) (by omega) (by omega);have e0:=aZz h hc (n:=15+m) (by omega) (by omega) (by omega);have hS:=aBw hf (15+m) hf';rw[show 15+(m+1)=15+m+1 by omega,xV];have hl:i<(aB (aK (15+m) w)).length:=(bZy.1 hf').1;have hb:i<(aQ (aK (15+m) w)).length:=by rw[a1.inv.lenB];exact hl
   have hv:=(a1.inv.flow i _ _ hf' (bZw hb)).val;have hl2:i<(aB (iP (aK (15+m) w))).length:=by rw[aUj];exact hl
   by_cases hD:aA8 f
   .refine⟨_,bZw hl2,.inl ?_⟩;have a:fZ (λk g=>k=i->aA8 g) (aK (15+m) w):=λk g hg e=>by
     rw[e,hf']at hg;injection hg with hg;rw[<- hg];exact hD
    exact fZ.round (P:=λk g=>k=i->aA8 g) (λk r q g hg e=>bJ1 (hg e)) (λk g hg e=>bIe (hg e)) a i _ (bZw hl2) rfl
   .have hmu:muF (mkA t (aH w) f0 c q i 0 0) f+m<=2 * (f0.2.2.2.2.1.length:Int)+5+6 * (f0.2.2.2.2.2.1.length:Int):=hor.elim (λg=>absurd g hD) id;have hF:∀now m',FC (mkA t (aH w) f0 c q i now m') f:=λnow m'=>bEn hv hS (by omega)
    have hlt:dE f<(f0.2.2.2.2.1.length:Int):=by
     have h1:dE f<=(f0.2.2.2.2.1.length:Int):=(hF 0 0).a1;have h2: ¬ dE f=(f.2.2.2.2.1.length:Int):=hD;rw[hS.2.2.1]at h2;omega
    have wn:wr (aG (aK (15+m) w)+1)=aG (aK (15+m) w)+1:=aY (by omega) (by omega);have hwk:=hw (aG (aK (15+m) w)+1) (by omega) (by omega);have hA:pC (mkA t (aH w) f0 c q i (aG (aK (15+m) w)+1) (muF (mkA t (aH w) f0 c q i 0 0) f)):=⟨hq,hwk,hends.1,hends.2,v5,v7⟩
    obtain⟨f',g1,g2,g3⟩:=bO8 hA (w:=aK (15+m) w) a1.inv e0 a2.few wn (by omega) a4 (bJ8 a2 a1.run.gate wn) hf' (hF _ _) hlt (cAu _);refine⟨f',g1,.inr ?_⟩;have g3:muF (mkA t (aH w) f0 c q i 0 0) f'+1<=muF (mkA t (aH w) f0 c q i 0 0) f:=g3;omega
 obtain⟨f,g1,g2⟩:=key (N - 15) (by omega);rw[show 15+(N - 15)=N by omega]at g1;have hS:=aBw hf N g1;refine⟨f,g1,g2.elim id λg=> ?_,hS⟩;obtain⟨a1,a2,a3,a4,a5⟩:=aBi h hc N (by omega) (by omega);have hl:i<(aB (aK N w)).length:=(bZy.1 g1).1;have hb:i<(aQ (aK N w)).length:=by rw[a1.inv.lenB];exact hl
 have hv:=(a1.inv.flow i _ _ g1 (bZw hb)).val;have hF:FC (mkA t (aH w) f0 c q i 0 0) f:=bEn hv hS (by omega);have :=(aU3 (A:=mkA t (aH w) f0 c q i 0 0) hcl hF).1;omega
theorem bD1{f:den tFl}(h1:f.2.2.2.2.2.1.length<=24)(h2:f.2.2.2.2.1.length<=20):aAj f=21 * (f.2.2.2.2.2.1.length:Int)+42+2 * (f.2.2.2.2.1.length:Int):=by
 unfold aAj;have e1:wr ((f.2.2.2.2.2.1.length:Int)+(2:Int))=(f.2.2.2.2.2.1.length:Int)+2:=aY (by omega) (by omega);have e2:wr ((2:Int) * (f.2.2.2.2.1.length:Int))=2 * (f.2.2.2.2.1.length:Int):=aY (by omega) (by omega);rw[e1,e2];have e3:wr (((f.2.2.2.2.2.1.length:Int)+2) * (21:Int))=21 * (f.2.2.2.2.2.1.length:Int)+42:=by rw[aY (by omega) (by omega)];omega
 rw[e3];exact aY (by omega) (by omega)
theorem aVa(g:den tFl->Int)(b:Int):∀(l:lFl) (k:Nat) (a:Int),(∀f∈l,g f<=b)->a<=b->bI (λ_ f a=>if g f>a then g f else a) k l a<=b/\a<=bI (λ_ f a=>if g f>a then g f else a) k l a/\ ∀f∈l,g f<=bI (λ_ f a=>if g f>a then g f else a) k l a
 | [],k,a,_,h=>⟨h,cAu _,λf hf=>(cAj hf).elim⟩
 | x::l,k,a,hl,h=>by
  have hx:=hl x (bZ6 ..);have ha':(if g x>a then g x else a)<=b:=by split<;>omega
  obtain⟨i1,i2,i3⟩:=aVa g b l (k+1) (if g x>a then g x else a) (λf hf=>hl f (bZ0 _ hf)) ha';have a1:a<=(if g x>a then g x else a)/\g x<=(if g x>a then g x else a):=by split<;>constructor<;>omega
  show bI _ (k+1) l (if g x>a then g x else a)<=b/\a<=bI _ (k+1) l (if g x>a then g x else a)/\ ∀f∈x::l,g f<=bI _ (k+1) l (if g x>a then g x else a);refine⟨i1,cA6 a1.1 i2,λf hf=> ?_⟩;rcases bZx.1 hf with rfl | hf
  .exact cA6 a1.2 i2
  .exact i3 f hf
theorem aVu{w:den tNw}(hp:∀f∈aB w,f.2.2.2.2.2.1.length<=4/\f.2.2.2.2.1.length<=20):0<=mO w/\mO w<=166/\ ∀f∈aB w,21 * (f.2.2.2.2.2.1.length:Int)+42+2 * (f.2.2.2.2.1.length:Int)<=mO w:=by
 have e:∀f∈aB w,aAj f=21 * (f.2.2.2.2.2.1.length:Int)+42+2 * (f.2.2.2.2.1.length:Int):=λf hf=>by
  have :=hp f hf;exact bD1 (by omega) (by omega)
 obtain⟨i1,i2,i3⟩:=aVa aAj 166 (aB w) 0 0 (λf hf=>by have :=hp f hf;rw[e f hf];omega) (by decide);exact⟨i2,i1,λf hf=>by rw[<- e f hf];exact i3 f hf⟩
theorem bDz(g:den tPt->Bool)(l:lPt):∀k:Nat,(∃i:Int,bN (λk p=>if g p then some (k:Int) else none) k l=some i/\0<=i/\ ∃(c:Nat) (q:den tPt),l[c]? =some q/\g q=true)\/(bN (λk p=>if g p then some (k:Int) else none) k l=none/\ ∀q∈l,g q=false):=by
 induction l with
 | nil=>exact λk=> .inr ⟨rfl,λq hq=>(cAj hq).elim⟩
 | cons x l ih=>
  intro k;unfold bN;cases hx:g x with
  | true=>
   simp only[zV];exact .inl ⟨k,rfl,by omega,0,x,rfl,hx⟩
  | false=>
   simp only[bZ8,zU];rcases ih (k+1) with ⟨i,h1,h2,c,q,h3,h4⟩ | ⟨h1,h2⟩
   .exact .inl ⟨i,h1,h2,c+1,q,h3,h4⟩
   .refine .inr ⟨h1,λq hq=> ?_⟩;rcases bZx.1 hq with rfl | hq
    .exact hx
    .exact h2 q hq
theorem aP5(w:den tNw)(f:den tFl):(0<=pH w f/\ ∃(c:Nat) (q:den tPt),f.2.2.2.2.2.1[c]? =some q/\xJ w q=true)\/(pH w f= -1/\ ∀q∈f.2.2.2.2.2.1,xJ w q=false):=by
 unfold pH;rcases bDz (xJ w) f.2.2.2.2.2.1 0 with ⟨i,h1,h2,h3⟩ | ⟨h1,h2⟩
 .rw[h1];exact .inl ⟨h2,h3⟩
 .rw[h1];exact .inr ⟨rfl,h2⟩
theorem bGc{t:den tTo}{B k d:Nat}{w:den tNw}(h:eI t B k d w)(hc:eL w)(hk:k+174<=1000)(hd:d+174 * 4008<=800000000):∃N:Nat,wr (8+mO w)=(N:Int)/\N<=174/\yQ w=aG w+N/\
  ∀(i:Nat) (f0:den tFl),(aB w)[i]? =some f0->0<=pH w f0-> ∃f,(aB (aK N w))[i]? =some f/\aA8 f/\zA f0 f:=by
 have hp:∀f∈aB w,f.2.2.2.2.2.1.length<=4/\f.2.2.2.2.1.length<=20:=λf hf=>by
  obtain⟨i,hi⟩:=cC6.1 hf;have hl:i<(aB w).length:=(bZy.1 hi).1;have hb:i<(aQ w).length:=by rw[h.inv.lenB];exact hl
  have hv:=(mE f).1 (h.inv.flow i _ _ hi (bZw hb)).val;exact⟨hc.pth i f hi,hv.2.2.2.2.1⟩
 obtain⟨s1,s2,s3⟩:=aVu hp;have hlo:=h.run.lo;have hhi:=h.run.hi;have e1:wr (8+mO w)=8+mO w:=aY (by omega) (by omega);have hN:∃N:Nat,8+mO w=(N:Int):=⟨(8+mO w).toNat,by omega⟩
 obtain⟨N,hN⟩:=hN;have e2:yQ w=aG w+N:=by
  show wr (aG w+wr (8+mO w))=_;rw[e1,hN,aY (by omega) (by omega)]
 refine⟨N,by rw[e1];exact hN,by omega,e2,λi f0 hf hwk=> ?_⟩
 .rcases aP5 w f0 with ⟨_,c,q,hq,hok⟩ | ⟨e,_⟩
  .unfold xJ aDn at hok;simp only[bZu]at hok;obtain⟨⟨p1,p2⟩,p3,p4⟩:=hok;rw[e2]at p3 p4;have htop:w.1=t:=h.run.top;rw[htop]at p1 p2 p3 p4;have hm:=s3 f0 (bZ9 hf);refine bBa h hc hf hq N (by omega) (by omega) (fun τ t1 t2=>⟨?_,?_⟩) (by omega)
   .exact (aFg p1).mid t1 t2 (aFg p3)
   .exact (aFg p2).mid t1 t2 (aFg p4)
  .omega
theorem bMa{s d now i:Int}:∀{l:lRs},l.Pairwise (λx y=>iS x y=false)->(∀x∈l,x.1=i/\(0:Int)<=x.2.2.2.1/\(2:Int)>=x.2.2.2.1)->rs s d now l<=2
 | [],_,_=>by simp[rs]
 | x::l,hp,h=>by
  have ih:=bMa (s:=s) (d:=d) (now:=now) (i:=i) (List.pairwise_cons.1 hp).2 λy hy=>h y (bZ0 _ hy)
  have hx:=h x (bZ6 ..);unfold rs;cases ha:atR x s d with
  | false=>simp only[Bool.false_and,bZ8,zU];omega
  | true=>
   have h0:rs s d now l=0:=by
    rcases bGb (s:=s) (d:=d) (now:=now) (l:=l) with h0 | ⟨y,hy,e1,e2⟩
    .exact h0
    .have hn:=(List.pairwise_cons.1 hp).1 y hy;have hy':=(h y (bZ0 _ hy)).1;unfold atR at ha;simp only[bZu,beq_iff_eq]at ha;have :iS x y=true:=by
      unfold iS atR;simp only[bZu,beq_iff_eq];exact⟨hy'.trans hx.1.symm,e1.trans ha.1.symm,e2.trans ha.2.symm⟩
     rw[this]at hn;cases hn
   rw[h0];split<;>omega
theorem aZg{s d now:Int}:∀{l:lRs},(∀x∈l,(1:Int)<=x.1/\(3:Int)>=x.1)->rs s d now l=rs s d now (l.filter λx=>x.1==(1:Int))+rs s d now (l.filter λx=>x.1==(2:Int))+rs s d now (l.filter λx=>x.1==(3:Int))
 | [],_=>by simp[rs]
 | x::l,h=>by
  have ih:=aZg (s:=s) (d:=d) (now:=now) (l:=l) λy hy=>h y (bZ0 _ hy)
  have hx:=h x (bZ6 ..);have key:∀z:Int,1<=z->3>=z->z=1\/z=2\/z=3:=λz h1 h2=>by omega
  have h3:x.1=(1:Int)\/x.1=(2:Int)\/x.1=(3:Int):=key _ hx.1 hx.2;simp only[List.filter_cons];rcases h3 with e | e | e
  .rw[e];simp only[show ((1:Int)==1)=true from rfl,show ((1:Int)==2)=false from rfl,show ((1:Int)==3)=false from rfl,zV,bZ8,zU,rs];omega
  .rw[e];simp only[show ((2:Int)==1)=false from rfl,show ((2:Int)==2)=true from rfl,show ((2:Int)==3)=false from rfl,zV,bZ8,zU,rs];omega
  .rw[e];simp only[show ((3:Int)==1)=false from rfl,show ((3:Int)==2)=false from rfl,show ((3:Int)==3)=true from rfl,zV,bZ8,zU,rs];omega
theorem qX.calm{w:den tNw}(h:qX 3 w):eL w:=by
 have hr:=rZ h.res.val;have hv:∀x∈(nG w).2.1,(1:Int)<=x.1/\(3:Int)>=x.1/\(0:Int)<=x.2.2.2.1/\(2:Int)>=x.2.2.2.1:=λx hx=>⟨(aGs (h.res.val x hx)).1,(h.low x hx).1,(hr x hx).1,(h.low x hx).2⟩
 refine⟨by rw[h.gate],λs d now=> ?_,hr,h.len,λk f hf=>(h.flows f (bZ9 hf)).paths.1⟩;rw[aZg λx hx=>⟨(hv x hx).1,(hv x hx).2.1⟩];have one:∀i:Int,rs s d now ((nG w).2.1.filter λx=>x.1==i)<=2:=λi=>bMa (i:=i) (h.res.pw.filter _) λx hx=>by
  obtain⟨h1,h2⟩:=cAa.1 hx;exact⟨eq_of_beq h2,(hv x h1).2.2.1,(hv x h1).2.2.2⟩
 have a:=one 1;have b:=one 2;have c:=one 3;omega
theorem Ran.calm{v:den tNw}(hv:qX 3 v){l:yL}{w:den tNw}(h:Ran v l w):eL w:=by
 induction h with
 | nil=>exact hv.calm
 | snoc h he ih=>exact ih.event _
def bYd(x:den tPp):Prop:=x.2.1<=(60:Int)/\ ∀h∈x.2.2.2,h.2.2.2.1=(5000:Int)
def aB5(q:lPp):Prop:= ∀x∈q,bYd x
theorem aB5.rev{q:lPp}(h:aB5 q):aB5 (fF q):=by
 intro x hx;unfold fF at hx;obtain⟨y,hy,rfl⟩:=List.mem_map.1 hx;have :=h y (List.mem_reverse.1 hy);exact⟨this.1,λz hz=>this.2 z (List.mem_reverse.1 hz)⟩
def Tm(a:Int):Prop:=60<=a/\a<=5000
theorem aXe{t:den tTo}{a b:Int}(ha:Tm a)(hb:Tm b){p:den tPk}(hl:aB5 p.2.2.2.1):dO t a p=dO t b p:=by
 unfold dO;cases hs:yU t p with
 | false=>rfl
 | true=>
  have hh:cO p=true:=by
   unfold yU at hs;rw[bZu]at hs;exact hs.1
  obtain⟨i,j,h1,h2,h3,h4,h5⟩:=nE hh;obtain⟨l1,l2⟩:=hl _ (bZ9 h3);have l2:=l2 _ (bZ9 h4);have e:wN p a=wN p b:=by
   unfold wN;rw[l2,zX (show (bQ p).2.1<=a from cA6 l1 ha.1),zX (show (bQ p).2.1<=b from cA6 l1 hb.1),zX ha.2,zX hb.2]
  rw[e]
theorem bJh(p:den tPk):(adv p).2.2.2.1=p.2.2.2.1:=by
 unfold adv;split
 .rfl
 .split<;>rfl
theorem bAj{t:den tTo}{a b:Int}(ha:Tm a)(hb:Tm b):∀(n:Nat) (p:den tPk),aB5 p.2.2.2.1->goC t a n p=goC t b n p
 | 0,p,hl=>by
  unfold goC;rw[aXe ha hb hl]
 | n+1,p,hl=>by
  unfold goC;rw[aXe ha hb hl,bAj ha hb n (adv (aX t p)) (by rw[bJh,(qY t p).2.2.2.1];exact hl)]
theorem aVr{t:den tTo}{a b:Int}(ha:Tm a)(hb:Tm b){dead:List Int}{r inn:Int}{p:den tPk}(hl:aB5 p.2.2.2.1):aD t a dead r inn p=aD t b dead r inn p:=by
 have e:bA t a p=bA t b p:=bAj ha hb _ p hl;unfold aD fwd;rw[e]
theorem bEu{t:den tTo}{now:Int}{dead:List Int}{r inn:Int}{p:den tPk}:(aD t now dead r inn p).2.2.1.2.2.2.1=p.2.2.2.1:=by
 obtain⟨i,j,b,e⟩:=zL t now dead r inn p;rw[e];rfl
theorem Arr.time{t:den tTo}{a b:Int}(ha:Tm a)(hb:Tm b){dead:List Int}{r inn:Int}{p:den tPk}(hl:aB5 p.2.2.2.1)(h:Arr t a dead r inn p):Arr t b dead r inn p:=by
 refine Arr.ind (M:=λr inn p=>aB5 p.2.2.2.1->Arr t b dead r inn p) (λr inn p h hl=> ?_) (λr inn p h k ih hl=> ?_) h hl
 .exact .here (by rw[<- aVr ha hb hl];exact h)
 .have e:=aVr (t:=t) (dead:=dead) (r:=r) (inn:=inn) ha hb hl;refine .step (by rw[<- e];exact h) ?_;rw[<- e];exact ih (by rw[bEu];exact hl)
theorem bMh{t:den tTo}{now:Int}{dead:List Int}{r inn:Int}{p:den tPk}(h:Arr t now dead r inn p):∀(n:Nat) (st:bM),qO p<n->(aEv t now dead n r inn p st).1=1:=by
 refine Arr.ind (M:=λr inn p=> ∀(n:Nat) (st:bM),qO p<n->(aEv t now dead n r inn p st).1=1) (λr inn p h n st hn=> ?_) (λr inn p h k ih n st hn=> ?_) h
 .cases n with
  | zero=>exact absurd hn (cCh _)
  | succ n=>
   unfold aEv;rw[h];rfl
 .cases n with
  | zero=>exact absurd hn (cCh _)
  | succ n=>
   have hr:=bBx (t:=t) (r:=r) (now:=now) (dead:=eG t dead r) (inn:=inn) (p:=p) h;have hr:qO (aD t now dead r inn p).2.2.1+1<=qO p:=hr;unfold aEv;rw[h];exact ih n _ (by omega)
theorem aFh{t:den tTo}{now:Int}{dead:List Int}{q:den tPt}(hq:dP q<=29)(h:Arr t now dead (ends q).1 0 (dT 1 q 0 0 [])):wO t now dead q=true:=by
 have e:=bMh h 30 [] (by rw[aSh];omega);unfold wO bGv;rw[beq_iff_eq];exact e
theorem bSy{w:den tNw}{q:den tPt}(hl:aB5 q)(hq:dP q<=29)(h1:Tm (aG w))(h2:Tm (yQ w))(h:xJ w q=false){τ:Int}(hτ:Tm τ): ¬ aB0 (nT w) τ (aH w) q:=by
 rintro⟨a,b⟩
 have hr:dP (fF q)<=29:=by rw[aFs];exact hq
 have r1:wO (nT w) (aG w) (aH w) q=true:=aFh hq (a.time hτ h1 hl);have r2:wO (nT w) (aG w) (aH w) (fF q)=true:=aFh hr (b.time hτ h1 hl.rev);have r3:wO (nT w) (yQ w) (aH w) q=true:=aFh hq (a.time hτ h2 hl);have r4:wO (nT w) (yQ w) (aH w) (fF q)=true:=aFh hr (b.time hτ h2 hl.rev);have :xJ w q=true:=by
  unfold xJ aDn;simp only[bZu];exact⟨⟨r1,r2⟩,r3,r4⟩
 rw[this]at h;cases h
def Sta(A:Aim)(q:den tPt):Prop:=Arr A.t A.now A.dead (ends q).1 0 (dT 1 q 0 0 [])
def Cln(A:Aim)(y:den tFy):Prop:=
 (y.2.2.1=(1:Int)->y.2.2.2.1=A.src->y.2.2.2.2.1=A.dst->y.2.2.2.2.2.1∈A.ps/\(Arr A.t A.now A.dead y.1 y.2.1 y.2.2->Sta A y.2.2.2.2.2.1))/\
 (y.2.2.1=(2:Int)->y.2.2.2.1=A.dst->y.2.2.2.2.1=A.src-> ¬ Arr A.t A.now A.dead y.1 y.2.1 y.2.2)
structure Saf (A:Aim) (w:den tNw) (L:lFy):Prop where
 top:nT w=A.t
 now:aG w=A.now
 dead:aH w=A.dead
 flow:∃f,(aB w)[A.i]? =some f/\f.1=A.src/\f.2.1=A.dst/\f.2.2.2.2.2.1=A.ps/\dE f=A.m
 pk:∀y∈L,Cln A y
def NoW(A:Aim):Prop:= ∀q∈A.ps,¬ aB0 A.t A.now A.dead q
theorem Saf.step{A:Aim}{w:den tNw}{L:lFy}(h:Saf A w L)(r inn:Int)(p:den tPk):aD (nT w) (aG w) (aH w) r inn p=aD A.t A.now A.dead r inn p:=by rw[h.top,h.now,h.dead]
theorem Saf.same{A:Aim}{w w':den tNw}{L L':lFy}(h:Saf A w L)(e1:nT w'=nT w)(e2:aG w'=aG w)(e3:aH w'=aH w)(e4:aB w'=aB w)(e5:∀y∈L',Cln A y):Saf A w' L':=
 ⟨e1.trans h.top,e2.trans h.now,e3.trans h.dead,by rw[e4];exact h.flow,e5⟩
theorem bPe{r:Int}{q:den tPk}{f:den tFl}(h:vZ f q=false):dE (cI r q f)=dE f:=by
 unfold cI;split
 .split
  .unfold jH;rw[h];rfl
  .unfold iK;cases q.1==3&&(sD q.2.2.2.2.2.2.2.2.2).2.2.2<;>rfl
 .rfl
theorem Saf.told{A:Aim}{w:den tNw}{L L':lFy}{r:Int}{q:den tPk}(h:Saf A w L)(hn:∀f:den tFl,f.1=A.src->f.2.1=A.dst->vZ f q=false)(e5:∀y∈L',Cln A y):Saf A (sS w r q) L':=by
 obtain⟨f,f1,f2,f3,f4,f5⟩:=h.flow;obtain⟨t1,t2,t3,t4⟩:=aUt r q f;refine⟨h.top,h.now,h.dead,⟨cI r q f,?_,t1.trans f2,t2.trans f3,t4.trans f4,(bPe (hn f f2 f3)).trans f5⟩,e5⟩;show ((aB w).map (cI r q))[A.i]? =_;rw[cBq,f1];rfl
theorem bNp{w:den tNw}{r eg:Int}{p:den tPk}{y:den tFy}(h:y∈aE (eH w r eg p)):y∈aE w\/y=((remote (nT w) r eg).1,(remote (nT w) r eg).2,p):=by
 unfold eH at h;split at h
 .have h:y∈aE w++[((remote (nT w) r eg).1,(remote (nT w) r eg).2,p)]:=h;rcases bZ2.1 h with h | h
  .exact .inl h
  .exact .inr (bZz.1 h)
 .exact .inl h
theorem aXg(w:den tNw)(r eg:Int)(p:den tPk):nT (eH w r eg p)=nT w/\aG (eH w r eg p)=aG w:=by
 unfold eH;split<;>exact⟨rfl,rfl⟩
theorem aO5{t:den tTo}{now:Int}{dead:List Int}{r inn:Int}{p:den tPk}:(aD t now dead r inn p).2.2.1.1=p.1/\(aD t now dead r inn p).2.2.1.2.1=p.2.1/\(aD t now dead r inn p).2.2.1.2.2.1=p.2.2.1/\(aD t now dead r inn p).2.2.1.2.2.2.1=p.2.2.2.1:=by
 obtain⟨i,j,b,e⟩:=zL t now dead r inn p;rw[e];exact⟨rfl,rfl,rfl,rfl⟩
theorem Saf.fwd{A:Aim}{w:den tNw}{r inn:Int}{p:den tPk}(h:Saf A w ((r,inn,p)::aE w))(hc:(aD A.t A.now A.dead r inn p).1=0):
  Saf A (eH w r (aD A.t A.now A.dead r inn p).2.1 (aD A.t A.now A.dead r inn p).2.2.1) (aE (eH w r (aD A.t A.now A.dead r inn p).2.1 (aD A.t A.now A.dead r inn p).2.2.1)):=by
 refine h.same (aXg _ _ _ _).1 (aXg _ _ _ _).2 (aIj _ _ _ _) (aKy _ _ _ _).2 λy hy=> ?_
 rcases bNp hy with hy | hy
 .exact h.pk y (bZ0 _ hy)
 .obtain⟨g1,g2⟩:=h.pk _ (bZ6 ..);obtain⟨k1,k2,k3,k4⟩:=aO5 (t:=A.t) (now:=A.now) (dead:=A.dead) (r:=r) (inn:=inn) (p:=p);rw[hy,h.top];refine⟨λa b c=> ?_,λa b c d=> ?_⟩
  .obtain⟨u1,u2⟩:=g1 (k1.symm.trans a) (k2.symm.trans b) (k3.symm.trans c);refine⟨?_,λd=> ?_⟩
   .show (aD A.t A.now A.dead r inn p).2.2.1.2.2.2.1∈A.ps;rw[k4];exact u1
   .show Sta A (aD A.t A.now A.dead r inn p).2.2.1.2.2.2.1;rw[k4];exact u2 (.step hc d)
  .exact g2 (k1.symm.trans a) (k2.symm.trans b) (k3.symm.trans c) (.step hc d)
theorem Saf.lost{A:Aim}{w:den tNw}{y:den tFy}(h:Saf A w (y::aE w)):Saf A (sT w) (aE w):=h.same rfl rfl rfl rfl λz hz=>h.pk z (bZ0 _ hz)
theorem aPj{f:den tFl}{q:den tPk}(h:vZ f q=true):q.1=(2:Int)/\q.2.1=f.2.1/\q.2.2.1=f.1:=by
 unfold vZ at h;simp only[bZu,beq_iff_eq]at h;exact⟨h.1,h.2.1,h.2.2.1⟩
theorem Saf.home{A:Aim}{w:den tNw}{r inn:Int}{p:den tPk}(h:Saf A w ((r,inn,p)::aE w))(hc:(aD A.t A.now A.dead r inn p).1=1):Saf A (sS w r (aD A.t A.now A.dead r inn p).2.2.1) (aE w):=by
 refine h.told (λf f1 f2=> ?_) λz hz=>h.pk z (bZ0 _ hz)
 obtain⟨_,g2⟩:=h.pk _ (bZ6 ..);obtain⟨k1,k2,k3,k4⟩:=aO5 (t:=A.t) (now:=A.now) (dead:=A.dead) (r:=r) (inn:=inn) (p:=p);cases ha:vZ f (aD A.t A.now A.dead r inn p).2.2.1 with
 | false=>rfl
 | true=>
  obtain⟨a1,a2,a3⟩:=aPj ha;exact absurd (Arr.here hc) (g2 (k1.symm.trans a1) (k2.symm.trans (a2.trans f2)) (k3.symm.trans (a3.trans f1)))
theorem Saf.proc0{A:Aim}{w:den tNw}{r inn:Int}{p:den tPk}(h:Saf A w ((r,inn,p)::aE w)):Saf A (proc0 w r inn p) (aE (proc0 w r inn p)):=by
 unfold Go.Proofs.YtnkjolpkcmgcaaaGreat.proc0;rw[h.step r inn p];split
 .rename_i c;exact h.fwd (eq_of_beq c)
 .split
  .rename_i c;exact h.home (eq_of_beq c)
  .exact h.lost
theorem Saf.data{A:Aim}(hno:NoW A){w:den tNw}{r inn:Int}{p:den tPk}(h:Saf A w ((r,inn,p)::aE w))(hi:bL A.t w)(hg:mF w p)(hk:(p.1==(1:Int))=true)(hc:(aD A.t A.now A.dead r inn p).1=1):
  Saf A (nB w r (aD A.t A.now A.dead r inn p).2.2.1) (aE (nB w r (aD A.t A.now A.dead r inn p).2.2.1)):=by
 obtain⟨i,j,b',eg⟩:=zL A.t A.now A.dead r inn p;obtain⟨g1,_⟩:=h.pk _ (bZ6 ..);have hv:dR p=true:=(qS (t:=A.t) (r:=r) (now:=A.now) (dead:=eG A.t A.dead r) (inn:=inn) (p:=p) (.inr (.inl hc))).val;rw[eg];have hg':mF w (goTo p i j b'):=hg.goTo i j b';have tl:∀y∈aE w,Cln A y:=λy hy=>h.pk y (bZ0 _ hy)
 unfold nB;split
 .exact h.same rfl rfl rfl rfl tl
 .rename_i hx;split
  .rename_i ha;obtain⟨q1,q2,q3,q4⟩:=aXj hi hg' hx ha;rw[q3];have q1:p.2.2.1=r:=q1;have q4:ends (fF p.2.2.2.1)=(p.2.2.1,p.2.1):=q4;refine Saf.proc0 (inn:=0) (h.same rfl rfl rfl rfl λy hy=> ?_);rcases bZx.1 hy with hy | hy
   .rw[hy];refine⟨λa=>absurd a (show ¬ ((2:Int)=1) by decide),λ_ b c d=> ?_⟩;have b:(ends (fF p.2.2.2.1)).1=A.dst:=b;have c:(ends (fF p.2.2.2.1)).2=A.src:=c;rw[q4]at b c;obtain⟨u1,u2⟩:=g1 (eq_of_beq hk) c b;refine hno _ u1 ⟨u2 (.here hc),?_⟩;rw[q4];show Arr A.t A.now A.dead p.2.2.1 0 (dT 1 (fF p.2.2.2.1) 0 0 []);rw[q1];exact Arr.set (m:=(1,0,0,[])) rfl d
   .exact tl y hy
  .exact h.same rfl rfl rfl rfl tl
theorem Saf.note{A:Aim}{w:den tNw}{r d:Int}{p:den tPk}(h:Saf A w (aE w)):Saf A (oM w r d p) (aE (oM w r d p)):=by
 unfold oM;split
 .have key:Saf A w ((r,0,dG r (aG w) d p)::aE w):=h.same rfl rfl rfl rfl λy hy=>by
   rcases bZx.1 hy with hy | hy
   .rw[hy];exact⟨λa=>absurd a (show ¬ ((3:Int)=1) by decide),λa=>absurd a (show ¬ ((3:Int)=2) by decide)⟩
   .exact h.pk y hy
  have r1:=key.proc0;exact r1.same rfl rfl rfl rfl r1.pk
 .have r1:Saf A (sS w r (dG r (aG w) d p)) (aE w):=h.told (λf _ _=>by
   cases ha:vZ f (dG r (aG w) d p) with
   | false=>rfl
   | true=>exact absurd (aPj ha).1 (show ¬ ((3:Int)=2) by decide)) h.pk
  exact r1.same rfl rfl rfl rfl r1.pk
theorem Saf.proc{A:Aim}(hno:NoW A){w:den tNw}{r inn:Int}{p:den tPk}(h:Saf A w ((r,inn,p)::aE w))(hi:bL A.t w)(hg:aNs w p):Saf A (cZ w r inn p) (aE (cZ w r inn p)):=by
 unfold cZ;rw[h.step r inn p];split
 .rename_i c;exact h.fwd (eq_of_beq c)
 .split
  .rename_i c1;have hv:dR p=true:=(qS (t:=A.t) (r:=r) (now:=A.now) (dead:=eG A.t A.dead r) (inn:=inn) (p:=p) (.inr (.inl (eq_of_beq c1)))).val;split
   .rename_i hk;exact h.data hno hi (hg hv) hk (eq_of_beq c1)
   .exact h.home (eq_of_beq c1)
  .split
   .exact Saf.note (h.same rfl rfl rfl rfl λy hy=>h.pk y (bZ0 _ hy))
   .exact h.lost
theorem Saf.out{A:Aim}(hno:NoW A){w:den tNw}(h:Saf A w (aE w))(hi:bL A.t w):Saf A (outW w) (aE (outW w))/\bL A.t (outW w):=by
 unfold outW;split
 .exact⟨h,hi⟩
 .rename_i x l hf;have hi':bL A.t (bJ w l):=hi.same rfl rfl rfl λy hy=> .inl (by rw[hf];exact bZ0 _ hy)
  have hg:aNs (bJ w l) x.2.2:=hi.good x (by rw[hf];exact bZ6 ..);refine⟨Saf.proc hno (h.same rfl rfl rfl rfl ?_) hi' hg,aCg hi' hg⟩;have :=h.pk;rw[hf]at this;exact this
theorem Saf.del{A:Aim}(hno:NoW A):∀(n:Nat) {w:den tNw},Saf A w (aE w)->bL A.t w->Saf A (delW n w) (aE (delW n w))/\bL A.t (delW n w)
 | 0,w,h,hi=>⟨h,hi⟩
 | n+1,w,h,hi=>by
  unfold delW;split
  .exact⟨h,hi⟩
  .obtain⟨h1,h2⟩:=h.out hno hi;exact Saf.del hno n h1 h2
theorem bKa{f:den tFl}(hs:(aI f).2.2=true):(aI f).2.1.2.2.2.1∈f.2.2.2.2.2.1/\(aI f).2.1=dT 1 (aI f).2.1.2.2.2.1 f.2.2.1 f.2.2.2.1 ((f.2.2.2.2.1[f.2.2.2.1.toNat]?).getD []):=by
 obtain⟨c,wt,e1,e2⟩:=vQ f;obtain⟨g1,g2⟩:=e2 hs;have g3:=g2;unfold sends at g3;rw[bZu]at g3;obtain⟨a0,a1⟩:=aS.1 g3.1;have hc:c.toNat<f.2.2.2.2.2.1.length:=by
  have a0:0<=c:=a0;have a1:c<=(f.2.2.2.2.2.1.length:Int) - 1:=a1;omega
 have e:lE (setCW f c wt)=dT 1 (f.2.2.2.2.2.1[c.toNat]'hc) f.2.2.1 f.2.2.2.1 ((f.2.2.2.2.1[f.2.2.2.1.toNat]?).getD []):=by
  unfold lE;rw[zT g2];show dT 1 ((f.2.2.2.2.2.1[c.toNat]?).getD []) _ _ _=_;rw[bZw hc];rfl
 rw[g1,e];exact⟨cBd hc,rfl⟩
theorem Saf.tickT{A:Aim}(hno:NoW A){w:den tNw}(k:Nat)(h:Saf A w (aE w))(hi:bL A.t w):Saf A (stepT k w) (aE (stepT k w))/\bL A.t (stepT k w):=by
 refine⟨?_,aFq k hi⟩;unfold stepT;split
 .rename_i f hf;obtain⟨i1,i2⟩:=aR2 hi hf;have hset:∀L,(∀y∈L,Cln A y)->Saf A (bR w ((aB w).set k (aI f).1)) L:=λL hL=>by
   obtain⟨g,q1,q2,q3,q4,q5⟩:=h.flow;refine⟨h.top,h.now,h.dead,?_,hL⟩
   by_cases e:k=A.i
   .subst e;rw[hf]at q1;injection q1 with q1;subst q1;obtain⟨c,wt,e1,_⟩:=vQ f;refine⟨_,cB4 (bZy.1 hf).1,?_⟩;rw[e1];exact⟨q2,q3,q4,q5⟩
   .exact⟨g,(cCu e).trans q1,q2,q3,q4,q5⟩
  split
  .rename_i hb;obtain⟨s1,s2,s3,s4⟩:=aJy hi hf hb;obtain⟨m1,m2⟩:=bKa hb;refine Saf.proc hno (inn:=0) (hset _ λy hy=> ?_) i1 λ_=>i2 hb
   rcases bZx.1 hy with hy | hy
   .rw[hy];refine⟨λa b c=> ?_,λa=> ?_⟩
    .obtain⟨g,q1,q2,q3,q4,q5⟩:=h.flow;have e:k=A.i:=hi.one hf q1 (by rw[q2,<- b];exact s2.symm) (by rw[q3,<- c];exact s3.symm);subst e;rw[hf]at q1;injection q1 with q1;subst q1;refine⟨by rw[<- q4];exact m1,λd=> ?_⟩;have d:Arr A.t A.now A.dead (aI f).1.1 0 (aI f).2.1:=d;have e5:(aI f).1.1=(ends (aI f).2.1.2.2.2.1).1:=by
      have :(aI f).2.1.2.1=(ends (aI f).2.1.2.2.2.1).1:=by
       have :=congrArg (λz:den tPk=>z.2.1) m2;exact this
      rw[s4,<- s2,this]
     show Arr A.t A.now A.dead (ends (aI f).2.1.2.2.2.1).1 0 (dT 1 (aI f).2.1.2.2.2.1 0 0 []);rw[<- e5];have e6:mK (aI f).2.1 (1,0,0,[])=dT 1 (aI f).2.1.2.2.2.1 0 0 []:=by
      conv=>lhs;rw[m2]
      rfl
     rw[<- e6];exact Arr.set (m:=(1,0,0,[])) rfl d
    .have a:(aI f).2.1.1=(2:Int):=a;rw[s1]at a;exact absurd a (by decide)
   .exact h.pk y hy
  .exact hset _ h.pk
 .exact h
theorem Saf.ticks{A:Aim}(hno:NoW A):∀(n k:Nat) {w:den tNw},Saf A w (aE w)->bL A.t w->Saf A (tickL k n w) (aE (tickL k n w))/\bL A.t (tickL k n w)
 | 0,k,w,h,hi=>⟨h,hi⟩
 | n+1,k,w,h,hi=>by
  obtain⟨a,b⟩:=h.tickT hno k hi;exact Saf.ticks hno n (k+1) a b
theorem bGi{A:Aim}(hno:NoW A){w:den tNw}(hi:bL A.t w)(h0:aE w=[])(hn:wr (aG w+1)=A.now)(hlt: ¬ aG w>=1000000)(hd:aH w=A.dead){f:den tFl}(hf:(aB w)[A.i]? =some f)(h1:f.1=A.src)(h2:f.2.1=A.dst)(h3:f.2.2.2.2.2.1=A.ps)(h4:dE f=A.m):
  ∃f',(aB (iP w))[A.i]? =some f'/\dE f'=A.m:=by
 have i0:bL A.t (tick0 w):=hi.same rfl rfl rfl λy hy=> .inl hy
 have f0:aE (tick0 w)=[]:=h0;have r0:Saf A (tick0 w) (aE (tick0 w)):=⟨hi.top,hn,hd,⟨f,hf,h1,h2,h3,h4⟩,λy hy=>by rw[f0]at hy;cases hy⟩
 obtain⟨r1,i1⟩:=Saf.ticks hno (aB w).length 0 r0 i0;obtain⟨r2,i2⟩:=r1.del hno 2000 i1;have er:iP w=delW 2000 (tickL 0 (aB w).length (tick0 w)):=by
  unfold iP cG;rw[zS hlt]
 rw[<- er]at r2;obtain⟨f',g1,_,_,_,g5⟩:=r2.flow;exact⟨f',g1,g5⟩
theorem bBl{t:den tTo}{B k d:Nat}{w:den tNw}(h:eI t B k d w)(hc:eL w)(h0:aE w=[]){i:Nat}{f0:den tFl}(hf:(aB w)[i]? =some f0)(hno:∀τ:Int,aG w<=τ->τ<=aG w+1000-> ∀q∈f0.2.2.2.2.2.1,¬ aB0 t τ (aH w) q)(n:Nat):
  k+n<=1000->d+n * 4008<=800000000-> ∃f,(aB (aK n w))[i]? =some f/\dE f=dE f0:=by
 induction n with
 | zero=>intro _ _;exact⟨f0,hf,rfl⟩
 | succ n ih=>
  intro hk hd;obtain⟨f,g1,g2⟩:=ih (by omega) (by omega);obtain⟨a1,a2,a3,a4,a5⟩:=aBi h hc n (by omega) (by omega);have hlo:=h.run.lo;have hhi:=h.run.hi;have e0:aE (aK n w)=[]:=by
   rcases aOo h hc n (by omega) (by omega) with g | g
   .exact g
   .have :fD w=0:=by unfold fD;rw[h0];rfl
    by_cases hn:n=0
    .subst hn;exact h0
    .omega
  obtain⟨s1,s2,s3,s4⟩:=aBw hf n g1;have wn:wr (aG (aK n w)+1)=aG (aK n w)+1:=aY (by omega) (by omega);have hn:=hno (aG (aK n w)+1) (by omega) (by omega);rw[xV];obtain⟨f',q1,q2⟩:=bGi (A:=⟨t,aG (aK n w)+1,aH w,f0.1,f0.2.1,[],f0.2.2.2.2.2.1,0,[],i,dE f0⟩) hn (w:=aK n w) a1.inv e0 wn (by omega) a4 g1 s1 s2 s4 g2;exact⟨f',q1,q2⟩
structure bS2 (t:den tTo) (B k d:Nat) (w:den tNw) (N:Nat):Prop where
 cnt:wr (8+mO w)=(N:Int)
 few:N<=174
 run:sV w (wr (8+mO w))=aK N w
 rnd:eI t (B+N * 328656) (k+N) (d+N * 4008) (aK N w)
 calm:eL (aK N w)
 now:aG (aK N w)=aG w+N
 dead:aH (aK N w)=aH w
 len:(aB (aK N w)).length=(aB w).length
 later:yQ w=aG w+N
 go:∀(i:Nat) (f0:den tFl),(aB w)[i]? =some f0->0<=pH w f0-> ∃f,(aB (aK N w))[i]? =some f/\aA8 f/\zA f0 f
theorem aRt{t:den tTo}{B k d:Nat}{w:den tNw}(h:eI t B k d w)(hc:eL w)(hk:k<=400)(hd:d<=10000000)(ht:yP t=true):∃N:Nat,bS2 t B k d w N:=by
 obtain⟨N,h1,h2,h3,h4⟩:=bGc h hc (by omega) (by omega);obtain⟨a1,a2,a3,a4,a5⟩:=aBi h hc N (by omega) (by omega);refine⟨N,h1,h2,?_,a1,a2,a3,a4,a5,h3,h4⟩;unfold sV;rw[h.valid (by omega) ht,h1,show inR (N:Int) 0 1000=true from aS.2 ⟨by omega,by omega⟩,bZ4];rfl
theorem bCc{w:den tNw}(h:tot tNw w<=1073741824){i:Nat}{f:den tFl}(hf:(aB w)[i]? =some f):fJ w f=some (pH w f):=by
 have hF:tot (.sl tFl) w.2.2.2.2.2.2.1<=1073741824:=yC (bD (bD (bD (bD (bD (bD h))))));have hm:=yK (t:=tFl) (bZ9 hf);have hF:tot (.sl tFl) (aB w)<=1073741824:=hF;exact bR6 (bXy h) (by omega)
theorem eI.event{t:den tTo}{B k d:Nat}{w:den tNw}{e:den jJ}(h:eI t B k d w)(hk:k<=900)(hd:d<=10000000)(ht:t.2.length<=100)(he:EvD w e):eI t (B+2000) (k+1) (d+8) (doW w e).2 where
 run:=aS8 h.run (by omega) (by omega) he.s
 inv:=bCl h.inv h.run.keep.bytes.fly he.pk.2 he.harm
 drop:=h.drop.event h.run.keep.flows (by omega)
 dead:=by
  have :=aZl (w:=w) (e:=e) (by rw[h.run.top];exact h.dead);rw[h.run.top]at this;exact this
theorem bI5{t:den tTo}{B k d:Nat}{w:den tNw}{e:den jJ}(h:eI t B k d w)(hB:B<=200000000)(hk:k<=900)(hd:d<=10000000)(ht:yP t=true)(hl:t.2.length<=100)(he:EvD w e):nD w e=some (aXp (doW w e).2 (doW w e).1):=by
 have hK:=h.run.keep;have hv:=h.valid (by omega) ht;have h':=h.event hk hd hl he;have hK':=h'.run.keep;have e0:=aO0 (w:=w) (bZv hK.tot (by omega));rw[hv]at e0;have e1:=aLs (bCo hK (by omega));have e2:=bY3 (w:=w) (e:=e) (by decide) hK (by omega) (bTz he) ⟨by have :=he.data.1;omega,λx hx=>trivial⟩ (bZv he.pk.1 (by decide)) (by rw[h.run.top];exact h.dead);have e3:=aLs (bCo hK' (by omega));obtain⟨⟨as,ls⟩,⟨dn,co⟩,⟨cap,res,us⟩,now,dead,fly,flows,box,drop⟩:=w;obtain⟨kd,en,data,to,ing,k1,k2,k3,k4,k5,k6,k7,k8,k9,k10⟩:=e;unfold nD bF kW bO bV cJ iH zz4 zz5 zz6 zz7 zz8 zz9;simp only[e0,e1,aA,Bool.not_true,zY,aIw,nT,nK,nG,aG,aH,aE,aB,aQ,dX,e2];cases hb:(doW ((as,ls),(dn,co),(cap,res,us),now,dead,fly,flows,box,drop) (kd,en,data,to,ing,k1,k2,k3,k4,k5,k6,k7,k8,k9,k10)).1 with
 | false=>
  have :=bVg hb;rw[this];simp only[Bool.not_false,zZ,aA];rfl
 | true=>
  simp only[Bool.not_true,zY];generalize (doW ((as,ls),(dn,co),(cap,res,us),now,dead,fly,flows,box,drop) (kd,en,data,to,ing,k1,k2,k3,k4,k5,k6,k7,k8,k9,k10)).2=w' at *;obtain⟨⟨as',ls'⟩,⟨dn',co'⟩,⟨cap',res',us'⟩,now',dead',fly',flows',box',drop'⟩:=w';simp only[bX,nT,nK,nG,aG,aH,aE,aB,aQ,dX,e3,aA,aIw];rfl
theorem bAz(w:den tNw)(i:Int)(b:Bool):aB (aV w i b)=aB w:=by unfold aV;split<;>rfl
def evL(k n:Int):den jJ:=(k,n,[],((0:Int),(0:Int),((0:Int),(0:Int),(0:Int),[],(0:Int),(0:Int),(0:Int),(0:Int),(0:Int),[])))
theorem bQ2(w:den tNw){k:Int}(hk:k=5\/k=6)(n:Int):EvD w (evL k n):=by
 refine⟨?_,?_,⟨cAe _,λx hx=>(cAj hx).elim⟩,⟨by unfold evL;rw[bR3];exact cAe _,λx hx=>(cAj hx).elim⟩,bF0 ?_⟩
 .show (1:Int)<=k;omega
 .show (8:Int)>=k;omega
 .show (k==(7:Int))=false;rcases hk with rfl | rfl<;>rfl
def aDu(k:den tDb)(x:den tPp):Prop:=(∃s∈k.1,∃i:Int,x=iO s 1 i\/x=iO s 4 i)\/(∃s∈k.2,x=iO s 2 0\/x=iO s 3 0)
theorem aKh{k:den tDb}{s:den tSg}{kd:Int}{p:lPp}(hs:s=fG\/aDu k (iO s kd 0))(hp:∀x∈p,aDu k x):∀x∈iF s kd p,aDu k x:=by
 intro x hx;unfold iF at hx;rcases hs with rfl | hs
 .exact hp x hx
 .cases hc:decide ((s.2.2.length:Int)>0) with
  | false=>rw[hc]at hx;exact hp x hx
  | true=>
   rw[hc]at hx;rcases bZ2.1 hx with hx | hx
   .exact hp x hx
   .rw[bZz.1 hx];exact hs
theorem aQq{k:den tDb}{up core down:den tSg}{b:Bool}(h1:up=fG\/up∈k.1)(h2:core∈k.2)(h3:down=fG\/down∈k.1):∀x∈qW up core b down,aDu k x:=by
 unfold qW;refine aKh (h3.elim .inl λh=> .inr (.inl ⟨_,h,0,.inr rfl⟩)) (aKh (.inr (.inr ⟨_,h2,?_⟩)) (aKh (h1.elim .inl λh=> .inr (.inl ⟨_,h,0,.inl rfl⟩)) (λx hx=>(cAj hx).elim)));cases b
 .exact .inl rfl
 .exact .inr rfl
theorem aB2{k:den tDb}{up down:den tSg}(h1:up=fG\/up∈k.1)(h3:down=fG\/down∈k.1)(a b:Int):∀p∈cA k.2 up a b down,∀x∈p,aDu k x:=by
 intro p hp;unfold cA at hp;rcases bZ2.1 hp with hp | hp
 .obtain⟨s,hs,hp⟩:=cAm.1 hp;rw[bZz.1 hp];exact aQq h1 (cAa.1 hs).1 h3
 .obtain⟨s,hs,hp⟩:=cAm.1 hp;rw[bZz.1 hp];exact aQq h1 (cAa.1 hs).1 h3
theorem bG2{k:den tDb}{up down:den tSg}(h1:up∈k.1)(h2:down∈k.1)(n:Nat):∀x∈aAv up down n,aDu k x:=by
 induction n with
 | zero=>intro x hx;exact (cAj hx).elim
 | succ n ih=>
  intro x hx;unfold aAv at hx;split at hx
  .simp only[bZx,cAj,or_false]at hx;rcases hx with rfl | rfl
   .exact .inl ⟨_,h1,_,.inl rfl⟩
   .exact .inl ⟨_,h2,_,.inr rfl⟩
  .exact ih x hx
theorem bFg{t:den tTo}{k:den tDb}(a b:Int):∀p∈mU t k a b,∀x∈p,aDu k x:=by
 intro p hp;have mu:∀r,∀s∈bZ k.1 r,s∈k.1:=λr s hs=>(cAa.1 hs).1
 have one:∀(kind r:Int) (s:den tSg),s∈k.1->(kind=1\/kind=4)-> ∀p∈oX kind r s,∀x∈p,aDu k x:=λkind r s hs hk p hp=>by
  unfold oX at hp;cases hc:decide (fIx s.2.2 r>=0) with
  | false=>rw[hc]at hp;cases hp
  | true=>
   rw[hc]at hp;rw[bZz.1 hp];intro x hx;rw[bZz.1 hx];rcases hk with rfl | rfl
   .exact .inl ⟨_,hs,_,.inl rfl⟩
   .exact .inl ⟨_,hs,_,.inr rfl⟩
 unfold mU at hp;cases hc:(a==b||(!cH t a|| !cH t b)) with
 | true=>rw[hc]at hp;cases hp
 | false=>
 rw[hc]at hp;simp only[zY,bZ2]at hp;rcases hp with (((((hp | hp) | hp) | hp) | hp) | hp) | hp
 .obtain⟨s,hs,hp⟩:=cAm.1 hp;exact one _ _ s (mu _ s hs) (.inl rfl) p hp
 .obtain⟨s,hs,hp⟩:=cAm.1 hp;exact one _ _ s (mu _ s hs) (.inr rfl) p hp
 .exact aB2 (.inl rfl) (.inl rfl) _ _ p hp
 .obtain⟨u,hu,hp⟩:=cAm.1 hp;obtain⟨d,hd,hp⟩:=cAm.1 hp;unfold uB at hp;cases hq:decide (((yX u d).length:Int)>0) with
  | false=>rw[hq]at hp;cases hp
  | true=>
   rw[hq]at hp;rw[bZz.1 hp];exact bG2 (mu _ u hu) (mu _ d hd) _
 .cases hq:kV t a with
  | false=>rw[hq]at hp;cases hp
  | true=>
   rw[hq]at hp;obtain⟨d,hd,hp⟩:=cAm.1 hp;exact aB2 (.inl rfl) (.inr (mu _ d hd)) _ _ p hp
 .cases hq:kV t b with
  | false=>rw[hq]at hp;cases hp
  | true=>
   rw[hq]at hp;obtain⟨u,hu,hp⟩:=cAm.1 hp;exact aB2 (.inr (mu _ u hu)) (.inl rfl) _ _ p hp
 .obtain⟨u,hu,hp⟩:=cAm.1 hp;obtain⟨d,hd,hp⟩:=cAm.1 hp;exact aB2 (.inr (mu _ u hu)) (.inr (mu _ d hd)) _ _ p hp
theorem bN1{t:den tTo}{now:Int}{p:lPp}(m:List lPp):∀l:List lPp,p∈m.foldl (rG t now) l->p∈l\/(p∈m/\aCx t p now=true):=by
 induction m with
 | nil=>exact λl h=> .inl h
 | cons q m ih=>
  intro l h;rcases ih _ h with h | ⟨h1,h2⟩
  .unfold rG at h;cases c1:decide ((l.length:Int)<24) with
   | false=>rw[c1]at h;exact .inl h
   | true=>
    rw[c1]at h;cases c2:aCx t q now with
    | false=>rw[c2]at h;exact .inl h
    | true=>
     rw[c2]at h;cases c3:aFc l q with
     | true=>rw[c3]at h;exact .inl h
     | false=>
      rw[c3]at h;rcases bZ2.1 h with h | h
      .exact .inl h
      .rw[bZz.1 h];exact .inr ⟨bZ6 ..,c2⟩
  .exact .inr ⟨bZ0 _ h1,h2⟩
theorem bH1{t:den tTo}{k:den tDb}{a b now:Int}{p:lPp}(h:p∈aFy t k a b now):p∈mU t k a b/\aCx t p now=true:=by
 rcases bN1 _ _ h with h | h
 .exact (cAj h).elim
 .exact h
theorem bD4{t:den tTo}{p:lPp}{now:Int}(h:aCx t p now=true):mN t p=true/\(∀x∈p,aDh t x=true)/\ ∀x∈p,x.2.1<=now:=by
 unfold aCx at h;cases c:(mN t p&&aRz t p) with
 | false=>rw[c]at h;cases h
 | true=>
  rw[c]at h;rw[bZu]at c;refine⟨c.1,cAi.1 c.2,λx hx=> ?_⟩;have :=cAi.1 h x hx;rw[bZu,cAx,decide_eq_false_iff_not]at this;exact Int.not_lt.1 this.1
theorem aFo{s:den tSg}{k i:Int}{h:den bG}(hh:h∈(iO s k i).2.2.2):h∈s.2.2:=by
 unfold iO at hh;split at hh
 .split at hh
  .exact cBk (List.mem_reverse.1 hh)
  .exact cBk hh
 .exact (cAj hh).elim
theorem qX.paths{w:den tNw}{n:Nat}(h:qX n w):∀f∈aB w,∀q∈f.2.2.2.2.2.1,aB5 q/\mN (nT w) q=true/\(∀x∈q,aDh (nT w) x=true)/\(∀x∈q,aDu (nK w) x)/\dP q<=29:=by
 intro f hf q hq;obtain⟨h1,h2⟩:=bH1 (h.find f hf q hq);obtain⟨u1,u2,u3⟩:=bD4 h2;have hfrom:=bFg _ _ q h1;refine⟨λx hx=>⟨u3 x hx,λz hz=> ?_⟩,u1,u2,hfrom,?_⟩
 .have key:∀s:den tSg,aLn s.2.2->z∈s.2.2->z.2.2.2.1=(5000:Int):=λs hs hm=>by
   obtain⟨j,hj⟩:=cC6.1 hm;exact hs j z hj
  rcases hfrom x hx with ⟨s,hs,i,e | e⟩ | ⟨s,hs,e | e⟩<;>rw[e]at hz
  .exact key s (h.segs.1 s hs).1 (aFo hz)
  .exact key s (h.segs.1 s hs).1 (aFo hz)
  .exact key s (h.segs.2 s hs).1 (aFo hz)
  .exact key s (h.segs.2 s hs).1 (aFo hz)
 .have hD:=(h.flows f hf).paths.2 q hq;have :=aHt hD;exact bZv (aFf q) (bZv this (by decide))
end Go.Proofs.YtnkjolpkcmgcaaaGreat
