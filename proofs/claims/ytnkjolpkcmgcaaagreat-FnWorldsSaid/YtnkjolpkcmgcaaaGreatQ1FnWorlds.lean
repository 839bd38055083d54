/-
  Facts and plain laws: what the functions compute, in plain words. Conditions: as each says.
-/
import Derived.Test.YtnkjolpkcmgcaaaGreatQ0FnWorlds
open Nat renaming le_refl->cCx,le_trans->cCc,succ_mul->cDd,mul_le_mul_right->cDq,zero_add->cDg,zero_le->cCz,not_lt_zero->cFc
open Int renaming toNat_natCast->cCm,eq_ofNat_of_zero_le->cC5,le_trans->cEu,lt_irrefl->cC0
open Bool renaming and_eq_true->cCf,not_eq_true'->cDk,eq_iff_iff->cC7,or_eq_true->cD1,false_eq_true->cCs,not_true->cCd,or_self->cEl,not_false->cCh,and_self->cD7,false_or->cEb
open List renaming all_cons->cEe,length_cons->cDe,length->cCv,mem_append->cCo,mem_singleton->cCn,mem_map->cCl,mem_cons_of_mem->cCu,mem_cons_self->cCy,mem_of_getElem?->cCt,length_set->cDv,mem_or_eq_of_mem_set->cEt,length_filter_le->cEc,getElem?_eq_getElem->cCe,getElem_mem->cC9,getElem?_cons_zero->cFd,mem_cons->cCk,map_cons->cC1,pairwise_iff_getElem->cEm,getElem?_eq_some_iff->cCq,foldl_cons->cEa,filter_cons->cE3,mem_iff_getElem?->cE4,mem_filter->cCw,length_append->cC3,getElem?_set_self->cFt,getElem?_map->cEj,not_mem_nil->cC2,mem_of_mem_take->cDx,mem_of_mem_drop->cD4,take_append_drop->cD5,getElem?_set->cEk,all_eq_true->cC6,getElem?_take->cDu,append_nil->cDl,append_assoc->cDi,length_take->cDf,length_map->cDb,length_drop->cD6,nil_append->cC4,length_nil->cDj,length_flatMap->cFj,mem_flatMap->cDn,map_append->cE0
open Option renaming getD_some->cDc
open Sum renaming inl->cCb,inr->cCa,elim_inl->cCp,elim->cCg
open Array renaming length_toList->cFa
set_option linter.unusedVariables false
set_option linter.unusedSimpArgs false
set_option maxRecDepth 100000
namespace Go.Proofs.YtnkjolpkcmgcaaaGreat
open Go.Ab Go.V
theorem aUu(w:den tNw)(r inn:Int)(p:den tPk):tot tNw (proc0 w r inn p)<=tot tNw w+(2+tot tPk p+(aD w).length):=by
 unfold proc0;split
 .have :=aVf w r (cX (nT w) (aL w) (aK w) r inn p).2.1 (cX (nT w) (aL w) (aK w) r inn p).2.2.1;have e:tot tPk (cX (nT w) (aL w) (aK w) r inn p).2.2.1=tot tPk p:=aNg _ _ _ _ _ _;omega
 .split
  .have :=aMo w r (cX (nT w) (aL w) (aK w) r inn p).2.2.1;omega
  .rw[aEr];omega
theorem aNq{t:Ty}{l:List (den t)}{k:Nat}{x y:den t}(h:l[k]? =some x):tot (.sl t) (l.set k y)+tot t x=tot (.sl t) l+tot t y:=by
 induction l generalizing k with
 | nil=>cases h
 | cons z l ih=>
  cases k with
  | zero=>
   have :z=x:=by simpa using h
   subst this;rw[List.set_cons_zero,hH,hH];omega
  | succ k=>
   have :=ih (k:=k) (by simpa using h);rw[List.set_cons_succ,hH,hH];omega
theorem bJ7(x:den tIb)(p:den tPk):tot tIb (kI x p)<=tot tIb x+(1+tot tPk p):=by
 have h1:=bHz x p;have h2:=(aNh (p:=p) (cCx _)).2;have e:∀y:den tIb,tot tIb y=tot (.sl tMs) y.2.2.2:=λy=>by simp[sI,vD]
 rw[e,e];omega
theorem bI2(w:den tNw)(r:Int)(p:den tPk):tot tNw (aB7 w r p)<=tot tNw w+(3+2 * tot tPk p+(aD w).length):=by
 unfold aB7;split
 .omega
 .rcases aPb (aW w) r p.2.1 with hf | ⟨k,x,hf,hx⟩
  .rename_i hc;rw[hf]at hc;exact absurd (by decide) hc
  .have hba:aCe w k=x:=by unfold aCe;rw[hx];rfl
   rw[hf,cCm,hba];have h1:=aNq (t:=tIb) (y:=kI x p) hx;have h2:=bJ7 x p;have h3:tot tNw (uN w k (kI x p))<=tot tNw w+(1+tot tPk p):=by
    rw[bFx,fK w];omega
   split
   .have h4:=aUu (uN w k (kI x p)) r 0 (uW (kI x p) p);have h5:=aUg (kI x p) p;have h6:(aD (uN w k (kI x p))).length=(aD w).length:=rfl;omega
   .omega
theorem bJf(w:den tNw)(r d:Int)(p:den tPk):tot tNw (aEm w r d p)<=tot tNw w+(20+tot tPk p+(aD w).length):=by
 unfold aEm;rw[aEr];split
 .have h1:=aUu w r 0 (gF r (aL w) d p);have h2:=aVu r (aL w) d p;omega
 .have :=aMo w r (gF r (aL w) d p);omega
theorem bJl(w:den tNw)(r inn:Int)(p:den tPk):tot tNw (kD w r inn p)<=tot tNw w+(20+2 * tot tPk p+(aD w).length):=by
 have e:tot tPk (cX (nT w) (aL w) (aK w) r inn p).2.2.1=tot tPk p:=aNg _ _ _ _ _ _;unfold kD;split
 .have :=aVf w r (cX (nT w) (aL w) (aK w) r inn p).2.1 (cX (nT w) (aL w) (aK w) r inn p).2.2.1;omega
 .split
  .split
   .have :=bI2 w r (cX (nT w) (aL w) (aK w) r inn p).2.2.1;omega
   .have :=aMo w r (cX (nT w) (aL w) (aK w) r inn p).2.2.1;omega
  .split
   .have :=bJf w r (cX (nT w) (aL w) (aK w) r inn p).2.2.2 p;omega
   .rw[aEr];omega
theorem bId{p:den tPp}(h:aHh p=true):tot tPp p<=8:=by
 unfold aHh aR2 at h;simp only[cCf,zR]at h;have e:tot tPp p=tot (.sl bP) p.2.2.2:=by simp[sI,vD]
 rw[e,cZ rfl];exact h.2.2.2.1
theorem bQt{p:den tPt}(h:aT6 p=true):tot tPt p<=27:=by
 unfold aT6 at h;rw[cCf,zR]at h;have key:∀l:lPp,l.all aHh=true->tot (.sl tPp) l<=9 * l.length:=by
  intro l
  induction l with
  | nil=>intro _;exact cCx _
  | cons x l ih=>
   intro hl;rw[cEe,cCf]at hl;have h1:=bId hl.1;have h2:=ih hl.2;rw[hH,cDe];omega
 have :=key p h.2;have h1:cCv p<=3:=h.1;show tot (.sl tPp) p<=27;omega
theorem aQf{p:den tPk}(h:kE p=true):tot tPk p<=67:=by
 have h':=h;unfold kE at h';simp only[cCf,zR]at h';have h1:=bQt h'.2.1;have h2:p.2.2.2.2.2.2.2.2.2.length<=40:=by have :=h'.2.2.2.2.2.2.2.2.2;omega
 have e:tot tPk p=tot tPt p.2.2.2.1+tot (.sl tb) p.2.2.2.2.2.2.2.2.2:=by simp[sI,vD]
 rw[e,cZ (t:=tb) rfl];omega
theorem aVh{w:den tNw}{r inn:Int}{p:den tPk}(h:kE p=false):kD w r inn p=aAk w:=by
 have hv:cX (nT w) (aL w) (aK w) r inn p=(2,0,p,0):=by
  unfold cX fwd;rw[h];rfl
 unfold kD;rw[hv];rfl
theorem aPw(w:den tNw)(r inn:Int)(p:den tPk):tot tNw (kD w r inn p)<=tot tNw w+(160+(aD w).length):=by
 cases h:kE p with
 | true=>
  have h1:=bJl w r inn p;have h2:=aQf h;omega
 | false=>rw[aVh h,aEr];omega
structure sO (w:den tNw):Prop where
 fly:∀x∈aQ w,eU x.2.2
 msg:∀f∈aD w,∀m∈f.2.2.2.2.1,iH m
theorem aP9{w:den tNw}(h:sO w){r eg:Int}{p:den tPk}(hp:eU p):sO (sU w r eg p)/\(aD (sU w r eg p)).length=(aD w).length:=by
 unfold sU;split
 .refine⟨⟨λx hx=> ?_,h.msg⟩,rfl⟩;rcases cCo.1 (show x∈aQ w++_ from hx) with hx | hx
  .exact h.fly x hx
  .have :x=_:=cCn.1 hx;subst this;exact hp
 .exact⟨⟨h.fly,h.msg⟩,rfl⟩
theorem bLz(r:Int)(p:den tPk)(f:den tFl):(uY r p f).2.2.2.2.1=f.2.2.2.2.1:=by
 unfold uY;split
 .split
  .exact (bA4 f p).1
  .unfold aCc;cases p.1==3&&(aDa p.2.2.2.2.2.2.2.2.2).2.2.2<;>rfl
 .rfl
theorem aJk{w:den tNw}(h:sO w)(r:Int)(p:den tPk):sO (yJ w r p)/\(aD (yJ w r p)).length=(aD w).length:=by
 refine⟨⟨h.fly,λf hf m hm=> ?_⟩,by show ((aD w).map _).length=_;simp⟩;obtain⟨g,hg,rfl⟩:=cCl.1 (show f∈(aD w).map (uY r p) from hf);rw[bLz]at hm;exact h.msg g hg m hm
theorem aFp{w:den tNw}(h:sO w):sO (aAk w)/\(aD (aAk w)).length=(aD w).length:=⟨⟨h.fly,h.msg⟩,rfl⟩
theorem aN4{w:den tNw}(h:sO w)(k:Nat)(x:den tIb):sO (uN w k x)/\(aD (uN w k x)).length=(aD w).length:=⟨⟨h.fly,h.msg⟩,rfl⟩
theorem aOb{t:den tTo}{now:Int}{dead:List Int}{r inn:Int}{p:den tPk}(hp:eU p):eU (cX t now dead r inn p).2.2.1:=λx hx=>hp x (by unfold cX at hx;rwa [(aHc t r now _ inn p).2.2.2]at hx)
theorem aQu{w:den tNw}(h:sO w){r inn:Int}{p:den tPk}(hp:eU p):sO (proc0 w r inn p)/\(aD (proc0 w r inn p)).length=(aD w).length:=by
 unfold proc0;split
 .exact aP9 h (aOb hp)
 .split
  .exact aJk h _ _
  .exact aFp h
theorem aJy{w:den tNw}(h:sO w){r inn:Int}{p:den tPk}(hp:eU p):sO (kD w r inn p)/\(aD (kD w r inn p)).length=(aD w).length:=by
 unfold kD;split
 .exact aP9 h (aOb hp)
 .split
  .split
   .unfold aB7;split
    .exact⟨h,rfl⟩
    .split
     .obtain⟨h1,h2⟩:=aN4 h (kC (aW w) r (cX (nT w) (aL w) (aK w) r inn p).2.2.1.2.1).toNat (kI (aCe w (kC (aW w) r (cX (nT w) (aL w) (aK w) r inn p).2.2.1.2.1).toNat) (cX (nT w) (aL w) (aK w) r inn p).2.2.1);obtain⟨h3,h4⟩:=aQu h1 (r:=r) (inn:=0) (p:=uW (kI (aCe w (kC (aW w) r (cX (nT w) (aL w) (aK w) r inn p).2.2.1.2.1).toNat) (cX (nT w) (aL w) (aK w) r inn p).2.2.1) (cX (nT w) (aL w) (aK w) r inn p).2.2.1) (by
       unfold uW;split
       .exact λx hx=>by cases hx
       .exact λx hx=>by cases hx)
      exact⟨h3,h4.trans h2⟩
     .exact aN4 h _ _
   .exact aJk h _ _
  .split
   .unfold aEm;split
    .obtain⟨h1,h2⟩:=aQu h (r:=r) (inn:=0) (p:=gF r (aL w) (cX (nT w) (aL w) (aK w) r inn p).2.2.2 p) (aRd _);obtain⟨h3,h4⟩:=aFp h1;exact⟨h3,h4.trans h2⟩
    .obtain⟨h1,h2⟩:=aJk h r (gF r (aL w) (cX (nT w) (aL w) (aK w) r inn p).2.2.2 p);obtain⟨h3,h4⟩:=aFp h1;exact⟨h3,h4.trans h2⟩
   .exact aFp h
def sN(w:den tNw)(l:lFy):den tNw:=(nT w,nK w,nG w,aL w,aK w,l,aD w,aW w,cW w)
def bZy(x:den tFy)(w:den tNw):Int×Int×Int×Int×Int×lPp×Int×Int×Int×Int×Int×lI×q1:=
 (x.1,x.2.1,x.2.2.1,x.2.2.2.1,x.2.2.2.2.1,x.2.2.2.2.2.1,x.2.2.2.2.2.2.1,x.2.2.2.2.2.2.2.1,x.2.2.2.2.2.2.2.2.1,x.2.2.2.2.2.2.2.2.2.1,x.2.2.2.2.2.2.2.2.2.2.1,x.2.2.2.2.2.2.2.2.2.2.2,fW w)
theorem aJp(w:den tNw)(l:lFy):tot tNw (sN w l)+tot (.sl tFy) (aQ w)=tot tNw w+tot (.sl tFy) l:=by
 have e:tot tNw (sN w l)=(tot (.sl tAS) (nT w).1+tot (.sl tLk) (nT w).2)+((tot (.sl tSg) (nK w).1+tot (.sl tSg) (nK w).2)+((0+(tot (.sl tRs) (nG w).2.1+tot (.sl tUs) (nG w).2.2))+(0+(tot (.sl ti) (aK w)+(tot (.sl tFy) l+(tot (.sl tFl) (aD w)+(tot (.sl tIb) (aW w)+0))))))):=rfl;rw[e,fK w];omega
def bPg(w:den tNw):den tNw:=match aQ w with
 | []=>w
 | x::l=>kD (sN w l) x.1 x.2.1 x.2.2
def bDp:Nat->den tNw->den tNw
 | 0,w=>w
 | n+1,w=>match aQ w with
  | []=>w
  | _::_=>bDp n (bPg w)
structure nE (B F:Nat) (w:den tNw):Prop where
 tot:Go.V.tot tNw w<=B
 flows:(aD w).length<=F
 bytes:sO w
theorem nE.mono{B C F:Nat}{w:den tNw}(h:nE B F w)(hb:B<=C):nE C F w:=⟨cCc h.tot hb,h.flows,h.bytes⟩
theorem bU9{w:den tNw}{x:den tFy}{l:lFy}(h:aQ w=x::l):tot tNw (sN w l)+(1+tot tPk x.2.2)=tot tNw w:=by
 have h1:=aJp w l;rw[h,hH]at h1;have e:tot tFy x=tot tPk x.2.2:=by simp[sI,vD]
 rw[e]at h1;omega
theorem bP3{B F:Nat}{w:den tNw}{x:den tFy}{l:lFy}(hk:nE B F w)(h:aQ w=x::l):nE B F (sN w l)/\tot tPk x.2.2<=B/\eU x.2.2:=by
 have h1:=bU9 h;have h2:=hk.tot;refine⟨⟨by omega,hk.flows,⟨λy hy=>hk.bytes.fly y (by rw[h];exact cCu _ hy),hk.bytes.msg⟩⟩,by omega,hk.bytes.fly x (by rw[h];exact cCy ..)⟩
theorem aP4{B F:Nat}{w:den tNw}(hk:nE B F w){r inn:Int}{p:den tPk}(hp:eU p):nE (B+(160+F)) F (kD w r inn p):=by
 obtain⟨h1,h2⟩:=aJy hk.bytes (r:=r) (inn:=inn) hp;have h3:=aPw w r inn p;have h4:=hk.tot;have h5:=hk.flows;exact⟨by omega,by omega,h1⟩
theorem aR4{B F:Nat}{w:den tNw}(h:nE B F w)(hB:B<=1073741824):aFm w/\(aW w).length<=68719476736/\ ∀x∈aW w,tot tIb x<=1073741824:=
 ⟨aYv (cCc h.tot hB),bWj (cCc h.tot hB)⟩
theorem bT5{B F:Nat}{w:den tNw}(h:nE B F w)(hB:B<=1073741824):(aQ w).length<=1073741824:=by
 have :=fK w;have :=eF (t:=tFy) (aQ w);have :=h.tot;omega
theorem bIk(f:den tFl):(aR f).1.2.2.2.2.1=f.2.2.2.2.1:=by
 unfold aR
 repeat' split
 all_goals rfl
theorem bAi{f:den tFl}(h:∀m∈f.2.2.2.2.1,iH m):eU (aBm f):=by
 unfold aBm;split
 .intro x hx;have hx:x∈(f.2.2.2.2.1[f.2.2.2.1.toNat]?).getD []:=hx;cases hm:f.2.2.2.2.1[f.2.2.2.1.toNat]? with
  | none=>rw[hm]at hx;cases hx
  | some m=>rw[hm]at hx;exact h m (cCt hm) x hx
 .intro x hx;cases hx
theorem bAk{f:den tFl}(h:∀m∈f.2.2.2.2.1,iH m):eU (aR f).2.1:=by
 unfold aR
 repeat' split
 all_goals first
  | exact bAi h
  | (intro x hx;cases hx)
def stepT(k:Nat)(w:den tNw):den tNw:=match (aD w)[k]? with
 | some f=>if (aR f).2.2 then kD (eR w ((aD w).set k (aR f).1)) (aR f).1.1 0 (aR f).2.1 else eR w ((aD w).set k (aR f).1)
 | none=>w
def tickL:Nat->Nat->den tNw->den tNw
 | _,0,w=>w
 | k,n+1,w=>tickL (k+1) n (stepT k w)
def aHy(w:den tNw):den tNw:=(nT w,nK w,((nG w).1,aGy (nG w).2.1 (wr (aL w+1)),[]),wr (aL w+1),aK w,aQ w,aD w,aW w,cW w)
def tC(w:den tNw):den tNw:=if aL w>=1000000 then w else tickL 0 (aD w).length (aHy w)
theorem aT9{B F:Nat}{w:den tNw}{k:Nat}{f:den tFl}(hk:nE B F w)(hf:(aD w)[k]? =some f):nE B F (eR w ((aD w).set k (aR f).1))/\tot tPk (aR f).2.1<=B/\eU (aR f).2.1:=by
 have hm:=cCt hf;have h1:=aNq (t:=tFl) (y:=(aR f).1) hf;have h2:=(aVk f).1;have h3:=(aVk f).2;have h4:=aC4 (t:=tFl) hm;have h5:=aGx w ((aD w).set k (aR f).1);have h6:=fK w;have h7:=hk.tot;refine⟨⟨by omega,?_,⟨hk.bytes.fly,λg hg m hmm=> ?_⟩⟩,by omega,bAk (hk.bytes.msg f hm)⟩
 .show ((aD w).set k _).length<=F;rw[cDv];exact hk.flows
 .rcases cEt (show g∈(aD w).set k (aR f).1 from hg) with hg | rfl
  .exact hk.bytes.msg g hg m hmm
  .rw[bIk]at hmm;exact hk.bytes.msg f hm m hmm
theorem aP3{B F:Nat}{w:den tNw}(k:Nat)(hk:nE B F w):nE (B+(160+F)) F (stepT k w)/\(aD (stepT k w)).length=(aD w).length:=by
 unfold stepT;split
 .rename_i f hf;obtain⟨h1,h2,h3⟩:=aT9 hk hf;have hl:(aD (eR w ((aD w).set k (aR f).1))).length=(aD w).length:=by show ((aD w).set k _).length=_;rw[cDv]
  split
  .exact⟨aP4 h1 h3,(aJy h1.bytes h3).2.trans hl⟩
  .exact⟨h1.mono (by omega),hl⟩
 .exact⟨hk.mono (by omega),rfl⟩
theorem aRr{F:Nat}:∀(n k:Nat) {B:Nat} {w:den tNw},nE B F w->nE (B+n * (160+F)) F (tickL k n w)/\(aD (tickL k n w)).length=(aD w).length
 | 0,k,B,w,hk=>⟨hk.mono (by omega),rfl⟩
 | n+1,k,B,w,hk=>by
  obtain⟨h1,h2⟩:=aP3 k hk;obtain⟨h3,h4⟩:=aRr n (k+1) h1;unfold tickL;exact⟨h3.mono (by rw[cDd];omega),h4.trans h2⟩
theorem bIs(l:lRs)(now:Int):(aGy l now).length<=l.length:=cEc _ _
theorem aKp{B F:Nat}{w:den tNw}(hk:nE B F w):nE B F (aHy w):=by
 refine⟨?_,hk.flows,⟨hk.bytes.fly,hk.bytes.msg⟩⟩;have h1:=hk.tot;have h2:=fK w;have h3:=bIs (nG w).2.1 (wr (aL w+1));have e:tot tNw (aHy w)=(tot (.sl tAS) (nT w).1+tot (.sl tLk) (nT w).2)+((tot (.sl tSg) (nK w).1+tot (.sl tSg) (nK w).2)+((0+(tot (.sl tRs) (aGy (nG w).2.1 (wr (aL w+1)))+tot (.sl tUs) []))+(0+(tot (.sl ti) (aK w)+(tot (.sl tFy) (aQ w)+(tot (.sl tFl) (aD w)+(tot (.sl tIb) (aW w)+0))))))):=rfl;have r1:∀l:lRs,tot (.sl tRs) l=l.length:=λl=>cZ rfl
 have r2:=r1 (aGy (nG w).2.1 (wr (aL w+1)));have r3:=r1 (nG w).2.1;rw[xK]at e;omega
theorem bFi{B F:Nat}{w:den tNw}(hk:nE B F w):nE (B+F * (160+F)) F (tC w):=by
 unfold tC;split
 .exact hk.mono (by omega)
 .have :=(aRr (aD w).length 0 (aKp hk)).1;refine this.mono ?_;have h1:(aD w).length * (160+F)<=F * (160+F):=cDq _ hk.flows;omega
theorem bLr{F:Nat}{S R:Type}(enc:Nat->den tNw->S)(out:den tNw->R)(N:Nat){step:S->Option (S⊕R)}
  (H1:∀(k:Nat) (w:den tNw),k<N->(aD w).length=N->nE 536870912 F w->step (enc k w)=some (.inl (enc (k+1) (stepT k w))))
  (H2:∀(w:den tNw),(aD w).length=N->step (enc N w)=some (.inr (out w))):
  ∀(m k B:Nat) (w:den tNw),k+m=N->(aD w).length=N->nE B F w->B+m * (160+F)<=536870912->aC step (enc k w)=some (out (tickL k m w)):=by
 intro m
 induction m with
 | zero=>
  intro k B w hk hn hw hB;have :k=N:=by omega
  subst this;exact bH (H2 w hn)
 | succ m ih=>
  intro k B w hk hn hw hB;rw[cDd]at hB;obtain⟨h1,h2⟩:=aP3 k hw;rw[dA (H1 k w (by omega) hn (hw.mono (by omega)))];exact ih (k+1) _ _ (by omega) (h2.trans hn) h1 (by omega)
theorem bTz{B F:Nat}{w0:den tNw}(hF:F<=1000)(hk:nE B F w0)(hB:B+F * (160+F)<=536870912):vT w0=some (!decide (aL w0>=1000000),fW (tC w0)):=by
 have hres:(nG w0).2.1.length<=1073741824:=(aYv (cCc hk.tot (by omega))).res;unfold vT tC ixb bFf yO pj3 pj9 aU bG bC cU kH mI sV vA yR aCs zz4 zz5 zz6 zz7 zz8 zz9
 by_cases hnow:aL w0>=1000000
 .rw[zT hnow,zX (p:=w0.2.2.2.1>=1000000) hnow];rfl
 .rw[zS hnow,zW (p:=w0.2.2.2.1>=1000000) hnow,zY];unfold wR;simp only[bM3 hres,aA];refine Eq.trans (congrArg (λo=>Option.bind o _) (bLr (F:=F) (λk w=>((k:Int),fW w)) fW (aD w0).length (λk w hk' hn hw=> ?_) (λw hn=> ?_) (aD w0).length 0 B (aHy w0) (cDg _) rfl (aKp hk) (by have :(aD w0).length * (160+F)<=F * (160+F):=cDq _ hk.flows;omega))) ?_
  .obtain⟨f,hf⟩:∃f,(aD w)[k]? =some f:=⟨_,cCe (show k<(aD w).length by omega)⟩
   obtain⟨k1,k2,k3⟩:=aT9 hw hf;obtain⟨n1,n2,n3⟩:=aR4 k1 (by decide);have hft:tot tFl f<=34359738368:=by have :=aC4 (t:=tFl) (cCt hf);have :=fK w;have :=hw.tot;omega
   have hd:decide ((k:Int)<((fW w).2.1.length:Int))=true:=zX (by have :k<(fW w).2.1.length:=(by show k<(aD w).length;omega);omega);have hd1:decide ((k:Int)<((fW w).2.1.length:Int))=true:=zX (by have :k<(fW w).2.1.length:=(show k<(aD w).length by omega);omega);have hd2:decide (k<(fW w).2.1.length)=true:=zX (show k<(aD w).length by omega);have hf':(fW w).2.1[k]? =some f:=hf;have hwr:wr ((k:Int)+1)=((k+1:Nat):Int):=(wri (by have :=hk.flows;omega) (by have :=hk.flows;omega)).trans (by omega);have e:stepT k w=if (aR f).2.2 then kD (eR w ((aD w).set k (aR f).1)) (aR f).1.1 0 (aR f).2.1 else eR w ((aD w).set k (aR f).1):=by unfold stepT;rw[hf]
   have e1:dZ (((fW w).2.2.2.1,(fW w).2.2.2.2.1),((fW w).2.2.2.2.2.1,(fW w).2.2.2.2.2.2.1),((fW w).2.2.2.2.2.2.2.1,(fW w).2.2.2.2.2.2.2.2.1,(fW w).2.2.2.2.2.2.2.2.2.1),(fW w).2.2.2.2.2.2.2.2.2.2.1,(fW w).2.2.2.2.2.2.2.2.2.2.2.1,(fW w).1,((fW w).2.1.set k ((qH (aR f).1 (aR f).2.1 (aR f).2.2).1,(qH (aR f).1 (aR f).2.1 (aR f).2.2).2.1,(qH (aR f).1 (aR f).2.1 (aR f).2.2).2.2.1,(qH (aR f).1 (aR f).2.1 (aR f).2.2).2.2.2.1,(qH (aR f).1 (aR f).2.1 (aR f).2.2).2.2.2.2.2.2.2.2.2.2.2.2.2.2.2.1,(qH (aR f).1 (aR f).2.1 (aR f).2.2).2.2.2.2.2.2.2.2.2.2.2.2.2.2.2.2.1,(qH (aR f).1 (aR f).2.1 (aR f).2.2).2.2.2.2.1,(qH (aR f).1 (aR f).2.1 (aR f).2.2).2.2.2.2.2.1,(qH (aR f).1 (aR f).2.1 (aR f).2.2).2.2.2.2.2.2.2.2.2.2.2.2.2.2.2.2.2.1)),(fW w).2.2.1,(fW w).2.2.2.2.2.2.2.2.2.2.2.2) (qH (aR f).1 (aR f).2.1 (aR f).2.2).1 0 ((qH (aR f).1 (aR f).2.1 (aR f).2.2).2.2.2.2.2.2.1,(qH (aR f).1 (aR f).2.1 (aR f).2.2).2.2.2.2.2.2.2.1,(qH (aR f).1 (aR f).2.1 (aR f).2.2).2.2.2.2.2.2.2.2.1,(qH (aR f).1 (aR f).2.1 (aR f).2.2).2.2.2.2.2.2.2.2.2.2.2.2.2.2.2.2.2.2.1,(qH (aR f).1 (aR f).2.1 (aR f).2.2).2.2.2.2.2.2.2.2.2.1,(qH (aR f).1 (aR f).2.1 (aR f).2.2).2.2.2.2.2.2.2.2.2.2.1,(qH (aR f).1 (aR f).2.1 (aR f).2.2).2.2.2.2.2.2.2.2.2.2.2.1,(qH (aR f).1 (aR f).2.1 (aR f).2.2).2.2.2.2.2.2.2.2.2.2.2.2.1,(qH (aR f).1 (aR f).2.1 (aR f).2.2).2.2.2.2.2.2.2.2.2.2.2.2.2.1,(qH (aR f).1 (aR f).2.1 (aR f).2.2).2.2.2.2.2.2.2.2.2.2.2.2.2.2.2.2.2.2.2)=some (fW (kD (eR w ((aD w).set k (aR f).1)) (aR f).1.1 0 (aR f).2.1)):=bBq (w:=eR w ((aD w).set k (aR f).1)) n1 n2 n3 k2 k3;rw[e];simp only[hd,hd1,hd2,bZ,cCm,hf',zZ,aA,aN,bV9 hft,hwr];cases hb:(aR f).2.2
   .rfl
   .rw[hb]at e1;rw[zT rfl];show Option.bind (cond true _ _) _=_;rw[zZ];show Option.bind (Option.bind (dZ _ _ 0 _) λy12=>_) _=_;rw[e1];rfl
  .have hd:decide ((((aD w0).length:Nat):Int)<((fW w).2.1.length:Int))=false:=zW (by have :(fW w).2.1.length=(aD w0).length:=hn;omega);simp only[hd,zY]
  .rfl
def Ans{α:Type}(o:Option α)(P:α->Prop):Prop:= ∃y,o=some y/\P y
theorem bQ1{S R:Type}{step:S->Option (S⊕R)}(I:Nat->S->Prop)(Q:R->Prop)(h:∀n s,I n s->(∃r,step s=some (.inr r)/\Q r)\/ ∃m s',m<n/\step s=some (.inl s')/\I m s')(n:Nat):∀s,I n s->Ans (aC step s) Q:=by
 induction n using Nat.strongRecOn with
 | ind n ih=>
  intro s hs;rcases h n s hs with ⟨r,h1,h2⟩ | ⟨m,s',h1,h2,h3⟩
  .exact⟨r,bH h1,h2⟩
  .obtain⟨r,h4,h5⟩:=ih m h1 s' h3;exact⟨r,(dA h2).trans h4,h5⟩
theorem pW{S R T:Type}{step:S->Option (S⊕R)}(I:Nat->S->Prop)(Q:R->Prop){k:R->Option T}{G:Option T->Prop}(h:∀n s,I n s->(∃r,step s=some (.inr r)/\Q r)\/ ∃m s',m<n/\step s=some (.inl s')/\I m s')(n:Nat)(s:S)(hs:I n s)(hk:∀r,Q r->G (k r)):G (Option.bind (aC step s) k):=by
 obtain⟨r,h1,h2⟩:=bQ1 I Q h n s hs;rw[h1];exact hk r h2
theorem fL{S R T:Type}{step:S->Option (S⊕R)}(len:Nat)(pos:S->Int)(J:Nat->S->Prop)(Q:R->Prop){k:R->Option T}{G:Option T->Prop}
  (h:∀(i:Nat) (s:S),i<len->pos s=(i:Int)->J i s->(∃r,step s=some (.inr r)/\Q r)\/ ∃s',step s=some (.inl s')/\pos s'=((i+1:Nat):Int)/\J (i+1) s')
  (he:∀s:S,pos s=(len:Int)->J len s-> ∃r,step s=some (.inr r)/\Q r) (i0:Nat) (s0:S) (hi:i0<=len) (hp:pos s0=(i0:Int)) (hJ:J i0 s0) (hk:∀r,Q r->G (k r)):G (Option.bind (aC step s0) k):=by
 refine pW (λn s=> ∃i:Nat,pos s=(i:Int)/\i+n=len/\J i s) Q ?_ (len - i0) s0 ⟨i0,hp,by omega,hJ⟩ hk
 rintro n s ⟨i,h1,h2,h3⟩
 cases n with
 | zero=>
  have e:i=len:=by omega
  subst e;exact .inl (he s h1 h3)
 | succ n=>
  rcases h i s (by omega) h1 h3 with h4 | ⟨s',h4,h5,h6⟩
  .exact .inl h4
  .exact .inr ⟨n,s',by omega,h4,i+1,h5,by omega,h6⟩
theorem bD{n:Int}(h0: -1000000000000<=n)(h1:n<=1000000000000):wr n=n:=wri (by omega) (by omega)
theorem bK{n:Nat}(h:n<=1000000000):wr ((n:Int)+1)=((n+1:Nat):Int):=by rw[bD (by omega) (by omega)];omega
theorem aYm(a:Int):0<=aAb .i64 a 255/\aAb .i64 a 255<=255:=by
 have h:((BitVec.ofInt 64 a &&& BitVec.ofInt 64 255).toNat)<=255:=by
  rw[BitVec.toNat_and];exact cCc Nat.and_le_right (by decide)
 have e:aAb .i64 a 255=wr (((BitVec.ofInt 64 a &&& BitVec.ofInt 64 255).toNat:Nat):Int):=rfl;rw[e,show wr (((BitVec.ofInt 64 a &&& BitVec.ofInt 64 255).toNat:Nat):Int)=_ from wri (by omega) (by omega)];omega
def Cur(code:List Int)(c:List Int×q30):Prop:=c.1=code/\0<=c.2.1/\c.2.1<=(code.length:Int)
theorem aGr{code:List Int}(hl:code.length<=1048576){c:List Int}{p h:Int}(hc:Cur code (c,p,h)):∃v c' p' h',qD (c,p,h)=some (v,c',p',h')/\(0<=v/\v<=255)/\Cur code (c',p',h'):=by
 obtain⟨h1,h2,h3⟩:=hc;simp only at h1 h2 h3;subst h1;unfold qD pj4;simp only[aA]
 by_cases hp:p<(c.length:Int)
 .obtain⟨m,rfl⟩:=cC5 h2;have hm:m<c.length:=by omega
  rw[zX hp,zZ,aF,cCe hm];refine⟨_,_,_,_,rfl,aYm _,rfl,?_,?_⟩
  .show 0<=wr ((m:Int)+1);rw[show wr ((m:Int)+1)=(m:Int)+1 from wri (by omega) (by omega)];omega
  .show wr ((m:Int)+1)<=_;rw[show wr ((m:Int)+1)=(m:Int)+1 from wri (by omega) (by omega)];omega
 .rw[zW hp,zY];exact⟨_,_,_,_,rfl,aYm _,rfl,h2,h3⟩
theorem aH{code:List Int}(hl:code.length<=1048576){n:Int}(h0:0<n)(h1:n<=256){c:List Int}{p h:Int}(hc:Cur code (c,p,h)):∃v c' p' h',aB (c,p,h) n=some (v,c',p',h')/\(0<=v/\v<n)/\Cur code (c',p',h'):=by
 obtain⟨v,c',p',h',hb,hv,hc'⟩:=aGr hl hc;refine⟨Int.tmod v n,c',p',h',?_,⟨Int.tmod_nonneg _ hv.1,Int.tmod_lt_of_pos _ h0⟩,hc'⟩;unfold aB pj3;rw[zW (by omega),zY,zX h1,zZ];simp only[hb,aA];rw[show (n==0)=false by rw[beq_eq_false_iff_ne];omega,zY]
theorem aHw{code:List Int}(hl:code.length<=1048576){n:Int}(h1:256<n){c:List Int}{p h:Int}(hc:Cur code (c,p,h)):∃v c' p' h',aB (c,p,h) n=some (v,c',p',h')/\(0<=v/\v<n)/\Cur code (c',p',h'):=by
 obtain⟨v1,c1,p1,h1',e1,r1,k1⟩:=aGr hl hc;obtain⟨v2,c2,p2,h2',e2,r2,k2⟩:=aGr hl k1;obtain⟨v3,c3,p3,h3',e3,r3,k3⟩:=aGr hl k2;have w1:wr (v1 * 65536)=v1 * 65536:=bD (by omega) (by omega);have w2:wr (v2 * 256)=v2 * 256:=bD (by omega) (by omega);have w3:wr (v1 * 65536+v2 * 256)=v1 * 65536+v2 * 256:=bD (by omega) (by omega);have w4:wr (v1 * 65536+v2 * 256+v3)=v1 * 65536+v2 * 256+v3:=bD (by omega) (by omega);refine⟨Int.tmod (v1 * 65536+v2 * 256+v3) n,c3,p3,h3',?_,⟨Int.tmod_nonneg _ (by omega),Int.tmod_lt_of_pos _ (by omega)⟩,k3⟩;unfold aB pj3;rw[zW (by omega),zY,zW (by omega),zY];simp only[e1,e2,e3,aA,w1,w2,w3,w4];rw[show (n==0)=false by rw[beq_eq_false_iff_ne];omega,zY]
theorem pJ{code:List Int}(hl:code.length<=1048576){l:List Int}(h0:0<l.length)(h1:l.length<=256){c:List Int}{p h:Int}(hc:Cur code (c,p,h)):∃v c' p' h',cH (c,p,h) l=some (v,c',p',h')/\v∈l/\Cur code (c',p',h'):=by
 obtain⟨v,c',p',h',hb,hv,hc'⟩:=aH hl (n:=(l.length:Int)) (by omega) (by omega) hc;obtain⟨m,rfl⟩:=cC5 hv.1;have hm:m<l.length:=by omega
 refine⟨l[m],c',p',h',?_,cC9 hm,hc'⟩;unfold cH pj3;simp only[hb,aA,aF,cCe hm]
theorem jX{code:List Int}(hl:code.length<=1048576){n:Int}(h0:0<n)(h1:n<=256){c:List Int}{p h:Int}(hc:Cur code (c,p,h)):∃b c' p' h',bS (c,p,h) n=some (b,c',p',h')/\Cur code (c',p',h'):=by
 obtain⟨v,c',p',h',hb,hv,hc'⟩:=aH hl h0 h1 hc;refine⟨v==0,c',p',h',?_,hc'⟩;unfold bS pj3;simp only[hb,aA]
theorem aNd{code:List Int}(hl:code.length<=1048576):∃c p h,sE code=some (c,p,h)/\Cur code (c,p,h):=by
 unfold sE;refine pW (G:=λo=> ∃c p h,o=some (c,p,h)/\Cur code (c,p,h)) (λn s=> ∃k:Nat,s.2=(k:Int)/\k+n=code.length) (λ_=>True) ?_ code.length _ ⟨0,rfl,by omega⟩ ?_
 .rintro n ⟨a,b⟩ ⟨k,hk,hn⟩
  simp only at hk;subst hk
  by_cases h1:(k:Int)<(code.length:Int)
  .by_cases h2:(k:Int)<4000
   .right;have hk:k<code.length:=by omega
    refine⟨n - 1,(aAb .i64 (wr ((wr ((wr (a * (137:Int)))+(wr code[k])))+(11:Int))) (1073741823:Int),((k+1:Nat):Int)),by omega,?_,k+1,rfl,by omega⟩;simp only[zX h1,zX h2,zZ,aA,aF,cCe hk];rw[show wr ((k:Int)+1)=((k+1:Nat):Int) from by rw[show wr ((k:Int)+1)=(k:Int)+1 from wri (by omega) (by omega)];omega]
   .left;refine⟨a,?_,trivial⟩;simp only[zX h1,zW h2,zZ,zY,aA]
  .left;refine⟨a,?_,trivial⟩;simp only[zW h1,zY,aA]
 .intro r _;exact⟨_,_,_,rfl,rfl,Int.le_refl 0,by show (0:Int)<=_;omega⟩
theorem aPc{α:Type}(p:Nat->α->Bool):∀(l:List α) (k:Nat),(bU (λk x=>if p k x then none else some ()) k l).isNone=true↔ ∀j x,l[j]? =some x->p (k+j) x=true
 | [],k=>by simp[bU]
 | x::l,k=>by
  have ih:=aPc p l (k+1);cases hp:p k x with
  | true=>
   simp only[bU,hp,zV];rw[ih];constructor
   .intro h j y hy;cases j with
    | zero=>simp only[cFd,Option.some.injEq]at hy;subst hy;exact hp
    | succ j=>simp only[List.getElem?_cons_succ]at hy;have :=h j y hy;rwa [show k+1+j=k+(j+1) by omega]at this
   .intro h j y hy;have :=h (j+1) y (by simpa using hy);rwa [show k+(j+1)=k+1+j by omega]at this
  | false=>
   simp only[bU,hp];constructor
   .intro h;simp at h
   .intro h;have :=h 0 x (by simp);rw[Nat.add_zero,hp]at this;cases this
def plc(id s d:Int):Nat->lUs->Int
 | _,[]=> -1
 | k,x::l=>if kB id s d x then (k:Int) else plc id s d (k+1) l
theorem aEt(l:lUs)(id s d:Int):place l id s d=plc id s d 0 l:=by
 unfold place;have :∀(l:lUs) (k:Nat),(match bU (λk x=>if kB id s d x then some (k:Int) else none) k l with
  | some i=>i
  | none=> -1)=plc id s d k l:=by
  intro l
  induction l with
  | nil=>intro k;rfl
  | cons x l ih=>
   intro k;cases hp:kB id s d x with
   | true=>simp only[bU,plc,hp,zV]
   | false=>simp only[bU,plc,hp];exact ih (k+1)
 exact this l 0
theorem aZd{id s d:Int}:∀(l:lUs) (k:Nat),(plc id s d k l= -1/\ ∀x∈l,kB id s d x=false)\/ ∃j x,plc id s d k l=((k+j:Nat):Int)/\l[j]? =some x/\kB id s d x=true
 | [],_=> .inl ⟨rfl,λx hx=>by cases hx⟩
 | x::l,k=>by
  unfold plc;cases hp:kB id s d x with
  | true=>exact .inr ⟨0,x,by simp,by simp,hp⟩
  | false=>
   rcases aZd l (k+1) with ⟨h1,h2⟩ | ⟨j,y,h1,h2,h3⟩
   .refine .inl ⟨by simpa using h1,λy hy=> ?_⟩;rcases cCk.1 hy with rfl | hy
    .exact hp
    .exact h2 y hy
   .exact .inr ⟨j+1,y,by rw[zS (by simp),h1];congr 1;omega,by simpa using h2,h3⟩
theorem bGy(l:lUs)(id s d:Int):(place l id s d= -1/\ ∀x∈l,kB id s d x=false)\/ ∃(j:Nat) (x:den tUs),place l id s d=(j:Int)/\l[j]? =some x/\kB id s d x=true:=by
 rw[aEt];rcases aZd (id:=id) (s:=s) (d:=d) l 0 with h | ⟨j,x,h1,h2,h3⟩
 .exact .inl h
 .exact .inr ⟨j,x,by rw[h1,cDg],h2,h3⟩
theorem bB8{id s d:Int}(z:lUs):∀(l:lUs) (k:Nat),plc id s d k (l++z)=if plc id s d k l<0 then plc id s d (k+l.length) z else plc id s d k l
 | [],k=>by simp[plc]
 | x::l,k=>by
  have e1:plc id s d k (x::l)=if kB id s d x then (k:Int) else plc id s d (k+1) l:=rfl
  have e2:plc id s d k (x::l++z)=if kB id s d x then (k:Int) else plc id s d (k+1) (l++z):=rfl
  by_cases hp:kB id s d x=true
  .rw[zT hp]at e1 e2;rw[e1,e2,zS (by omega)]
  .rw[zS hp]at e1 e2;rw[e1,e2,bB8 z l (k+1),show k+(x::l).length=k+1+l.length by simp only[cDe];omega]
theorem aW8{id s d:Int}:∀(l m:lUs) (k:Nat),l.map (λx=>(x.1,x.2.1,x.2.2.1))=m.map (λx=>(x.1,x.2.1,x.2.2.1))->plc id s d k l=plc id s d k m
 | [],[],_,_=>rfl
 | [],_::_,_,h=>by simp at h
 | _::_,[],_,h=>by simp at h
 | x::l,y::m,k,h=>by
  simp only[cC1,List.cons.injEq,Prod.mk.injEq]at h;obtain⟨⟨h1,h2,h3⟩,h4⟩:=h;have e:kB id s d x=kB id s d y:=by unfold kB;rw[h1,h2,h3]
  simp only[plc,e,aW8 l m (k+1) h4]
theorem aLk{id s d:Int}{x:den tUs}:kB id s d x=true↔x.1=id/\x.2.1=s/\x.2.2.1=d:=by unfold kB;simp
def aTd(g:den tSc)(now:Int):Prop:= ∀(j:Nat) (x:den tUs),g.2.2[j]? =some x->place g.2.2 x.1 x.2.1 x.2.2.1=(j:Int)/\(1:Int)<=x.2.2.2/\tF g x.1 x.2.1 x.2.2.1 now>=x.2.2.2
theorem bE8{g:den tSc}{now:Int}:xG g now=true↔(1:Int)<=g.1/\(20:Int)>=g.1/\xU g.2.1 g.1 now=true/\aTd g now:=by
 unfold xG aTd;rw[cCf,cCf,aPc];unfold inR okU;simp only[cCf,zR,beq_iff_eq,cDg,inR,and_assoc]
theorem bA2{l:lRs}{cap now:Int}:xU l cap now=true↔l.length<=40/\ ∀(j:Nat) (x:den tRs),l[j]? =some x->uJ x=true/\rate l x.2.1 x.2.2.1 now<=cap/\ ∀y∈l.take j,gP x y=false:=by
 unfold xU;rw[cCf,aPc];unfold okR;simp only[cCf,zR,cDg,cDk,decide_eq_false_iff_not,List.any_eq_false,Bool.not_eq_true,Int.not_lt,gt_iff_lt]
theorem aJq(x y:den tRs):gP x y=gP y x:=by
 unfold gP atR;rw[cC7];simp only[cCf,beq_iff_eq];constructor<;>(rintro⟨a,b,c⟩;exact⟨a.symm,b.symm,c.symm⟩)
theorem bLl{l:lRs}:(∀(j:Nat) (x:den tRs),l[j]? =some x-> ∀y∈l.take j,gP x y=false)↔l.Pairwise λx y=>gP x y=false:=by
 rw[cEm];constructor
 .intro h i j hi hj hij;rw[aJq];exact h j l[j] (cCe hj) l[i] (List.mem_take_iff_getElem.2 ⟨i,by omega,rfl⟩)
 .intro h j x hx y hy;obtain⟨i,hi,rfl⟩:=List.mem_take_iff_getElem.1 hy;obtain⟨hj,rfl⟩:=cCq.1 hx;rw[aJq];exact h i j (by omega) hj (by omega)
def rs(s d now:Int):lRs->Int
 | []=>0
 | x::l=>(if atR x s d&&decide (now<=x.2.2.2.2) then x.2.2.2.1 else 0)+rs s d now l
theorem aQy{s d now:Int}:∀{l:lRs},(∀x∈l,(0:Int)<=x.2.2.2.1/\(20:Int)>=x.2.2.2.1)->0<=rs s d now l/\rs s d now l<=20 * l.length
 | [],_=>by simp[rs]
 | x::l,h=>by
  have ih:=aQy (s:=s) (d:=d) (now:=now) (l:=l) λy hy=>h y (cCu _ hy)
  have hx:=h x (by simp);have e:((x::l).length:Int)=l.length+1:=by simp
  unfold rs;rw[e];split<;>omega
theorem aMn{s d now:Int}:∀(l:lRs) (a:Int),(∀x∈l,(0:Int)<=x.2.2.2.1/\(20:Int)>=x.2.2.2.1)->0<=a->a+20 * l.length<=1000000000000->
  l.foldl (λa x=>if atR x s d&&decide (now<=x.2.2.2.2) then wr (a+x.2.2.2.1) else a) a=a+rs s d now l
 | [],a,_,_,_=>by simp[rs]
 | x::l,a,h,h0,hb=>by
  have hx:=h x (by simp);simp only[cDe,Int.natCast_add,Int.natCast_one]at hb;simp only[cEa,rs];split
  .rw[show wr (a+x.2.2.2.1)=a+x.2.2.2.1 from wri (by omega) (by omega),aMn l _ (λy hy=>h y (cCu _ hy)) (by omega) (by omega)];omega
  .rw[aMn l a (λy hy=>h y (cCu _ hy)) h0 (by omega)];omega
theorem aNw{s d now:Int}{l:lRs}(h:∀x∈l,(0:Int)<=x.2.2.2.1/\(20:Int)>=x.2.2.2.1)(hl:l.length<=1000000):rate l s d now=rs s d now l:=by
 unfold rate;rw[aMn l 0 h (by omega) (by omega)];omega
theorem bK6{s d now:Int}(m:lRs):∀l:lRs,rs s d now (l++m)=rs s d now l+rs s d now m
 | []=>by simp[rs]
 | x::l=>by simp only[List.cons_append,rs,bK6 m l];omega
theorem aT8{s d now:Int}(p:den tRs->Bool):∀{l:lRs},(∀x∈l,(0:Int)<=x.2.2.2.1/\(20:Int)>=x.2.2.2.1)->rs s d now (l.filter p)<=rs s d now l
 | [],_=>by simp[rs]
 | x::l,h=>by
  have ih:=aT8 (s:=s) (d:=d) (now:=now) p (l:=l) λy hy=>h y (cCu _ hy)
  have hx:=h x (by simp);rw[cE3];split
  .simp only[rs];omega
  .simp only[rs];split<;>omega
structure rF (l:lRs) (cap now:Int):Prop where
 len:l.length<=40
 val:∀x∈l,uJ x=true
 rate:∀x∈l,rs x.2.1 x.2.2.1 now l<=cap
 pw:l.Pairwise λx y=>gP x y=false
theorem aN7{x:den tRs}(h:uJ x=true):(1:Int)<=x.1/\(1:Int)<=x.2.2.2.1/\(20:Int)>=x.2.2.2.1:=by
 unfold uJ inR at h;simp only[cCf,zR]at h;exact⟨h.1.1,h.2.1.1,h.2.1.2⟩
theorem wV{l:lRs}(h:∀x∈l,uJ x=true):∀x∈l,(0:Int)<=x.2.2.2.1/\(20:Int)>=x.2.2.2.1:=λx hx=>by
 have :=aN7 (h x hx);omega
theorem bNc{l:lRs}{cap now:Int}:xU l cap now=true↔rF l cap now:=by
 rw[bA2];constructor
 .rintro⟨h1,h2⟩
  have hv:∀x∈l,uJ x=true:=λx hx=>by
   obtain⟨j,hj⟩:=cE4.1 hx;exact (h2 j x hj).1
  exact⟨h1,hv,λx hx=>by
   obtain⟨j,hj⟩:=cE4.1 hx;rw[<- aNw (wV hv) (by omega)];exact (h2 j x hj).2.1,bLl.1 λj x hj=>(h2 j x hj).2.2⟩
 .rintro⟨h1,h2,h3,h4⟩
  refine⟨h1,λj x hj=> ?_⟩;have hx:=cCt hj;exact⟨h2 x hx,by rw[aNw (wV h2) (by omega)];exact h3 x hx,bLl.2 h4 j x hj⟩
theorem rF.filter{l:lRs}{cap now:Int}(h:rF l cap now)(p:den tRs->Bool):rF (l.filter p) cap now:=
 ⟨cCc (cEc ..) h.len,λx hx=>h.val x (cCw.1 hx).1,λx hx=>cEu (aT8 p (wV h.val)) (h.rate x (cCw.1 hx).1),h.pw.filter _⟩
def admR(l:lRs)(x:den tRs)(cap now:Int):lRs:=
 if !uJ x||decide (x.2.2.2.2<now)||decide (wr (rate (l.filter λy=> !gP x y) x.2.1 x.2.2.1 now+x.2.2.2.1)>cap)||decide (((l.filter λy=> !gP x y).length:Int)>=40) then l else (l.filter λy=> !gP x y)++[x]
theorem rF.admR{l:lRs}{cap now:Int}(h:rF l cap now)(x:den tRs):rF (admR l x cap now) cap now:=by
 unfold Go.Proofs.YtnkjolpkcmgcaaaGreat.admR;split
 .exact h
 .rename_i hc;simp only[cD1,cDk,zR,not_or,Bool.not_eq_false]at hc;obtain⟨⟨⟨c1,c2⟩,c3⟩,c4⟩:=hc;have hf:=h.filter λy=> !gP x y
  have hx:=aN7 c1;have hr:rF (l.filter λy=> !gP x y) cap now:=hf;rw[aNw (wV hf.val) (by have :=hf.len;omega)]at c3;have hb:=aQy (s:=x.2.1) (d:=x.2.2.1) (now:=now) (wV hf.val);have hl:=hf.len;rw[show wr (rs x.2.1 x.2.2.1 now (l.filter λy=> !gP x y)+x.2.2.2.1)=rs x.2.1 x.2.2.1 now (l.filter λy=> !gP x y)+x.2.2.2.1 from wri (by omega) (by omega)]at c3;refine⟨by simp only[cC3,List.length_singleton];omega,?_,?_,?_⟩
  .intro y hy;rcases cCo.1 hy with hy | hy
   .exact hf.val y hy
   .rw[cCn.1 hy];exact c1
  .intro y hy;rw[bK6];simp only[rs];rcases cCo.1 hy with hy | hy
   .have h1:=hf.rate y hy;cases ha:atR x y.2.1 y.2.2.1 with
    | false=>simp only[Bool.false_and,cCs,zU];omega
    | true=>
     have ha':=ha;unfold atR at ha';simp only[cCf,beq_iff_eq]at ha';rw[<- ha'.1,<- ha'.2];split<;>omega
   .rw[cCn.1 hy];split<;>omega
  .rw[List.pairwise_append];refine⟨hf.pw,List.pairwise_singleton _ _,λy hy z hz=> ?_⟩;rw[cCn.1 hz,aJq];have :=(cCw.1 hy).2;simpa using this
theorem bJh{l:lUs}{id s d:Int}(z:lUs):place (l++z) id s d=if place l id s d<0 then plc id s d l.length z else place l id s d:=by
 rw[aEt,aEt,bB8,cDg]
theorem bEl{l m:lUs}{id s d:Int}(h:l.map (λx=>(x.1,x.2.1,x.2.2.1))=m.map (λx=>(x.1,x.2.1,x.2.2.1))):place l id s d=place m id s d:=by
 rw[aEt,aEt,aW8 l m 0 h]
theorem bHr(l:lUs)(id s d:Int):(place l id s d= -1/\(∀x∈l,kB id s d x=false)/\aB8 l id s d=0/\aAg l id s d=l++[(id,s,d,1)])\/
  ∃(j:Nat) (x:den tUs),place l id s d=(j:Int)/\l[j]? =some x/\kB id s d x=true/\aB8 l id s d=x.2.2.2/\aAg l id s d=l.set j (x.1,x.2.1,x.2.2.1,wr (x.2.2.2+1)):=by
 rcases bGy l id s d with ⟨h1,h2⟩ | ⟨j,x,h1,h2,h3⟩
 .refine .inl ⟨h1,h2,?_,?_⟩
  .unfold aB8;rw[h1,zT (by decide)]
  .unfold aAg;rw[h1,zT (by decide)]
 .refine .inr ⟨j,x,h1,h2,h3,?_,?_⟩
  .unfold aB8;rw[h1,zS (by omega),cCm,h2];rfl
  .unfold aAg;rw[h1,zS (by omega),cCm];simp only[h2]
theorem bP7{l:lUs}{j:Nat}{x:den tUs}(h:l[j]? =some x)(c:Int):(l.set j (x.1,x.2.1,x.2.2.1,c)).map (λx=>(x.1,x.2.1,x.2.2.1))=l.map (λx=>(x.1,x.2.1,x.2.2.1)):=by
 rw[List.map_set];apply List.ext_getElem?;intro i
 by_cases hij:j=i
 .subst hij;obtain⟨hlt,rfl⟩:=cCq.1 h;rw[cFt (by simpa using hlt),cEj,cCe hlt];rfl
 .rw[List.getElem?_set_ne hij]
theorem aTd.more{g:den tSc}{now id s d:Int}(h:aTd g now)(hu:aB8 g.2.2 id s d<tF g id s d now)(hb:tF g id s d now<=1000000):aTd (g.1,g.2.1,aAg g.2.2 id s d) now:=by
 have hr:∀i s d,tF (g.1,g.2.1,aAg g.2.2 id s d) i s d now=tF g i s d now:=λ_ _ _=>rfl
 intro j x hx;have hx:(aAg g.2.2 id s d)[j]? =some x:=hx;show place (aAg g.2.2 id s d) x.1 x.2.1 x.2.2.1=(j:Int)/\(1:Int)<=x.2.2.2/\tF g x.1 x.2.1 x.2.2.1 now>=x.2.2.2;rcases bHr g.2.2 id s d with ⟨h1,h2,h3,h4⟩ | ⟨i,y,h1,h2,h3,h4,h5⟩
 .rw[h4]at hx ⊢;rw[bJh]
  by_cases hj:j<g.2.2.length
  .rw[List.getElem?_append_left hj]at hx;obtain⟨a,b,c⟩:=h j x hx;rw[a,zS (by omega)];exact⟨rfl,b,c⟩
  .rw[List.getElem?_append_right (by omega)]at hx;have hj0:j - g.2.2.length=0:=by
    cases hk:j - g.2.2.length with
    | zero=>rfl
    | succ k=>rw[hk]at hx;simp at hx
   rw[hj0]at hx;simp only[cFd,Option.some.injEq]at hx;subst hx;have hj':j=g.2.2.length:=by omega
   simp only;rw[h1,zT (by decide),hj'];refine⟨?_,Int.le_refl 1,?_⟩
   .unfold plc;rw[zT (show kB id s d (id,s,d,1)=true from aLk.2 ⟨rfl,rfl,rfl⟩)]
   .rw[h3]at hu;omega
 .rw[h5]at hx ⊢;rw[bEl (bP7 h2 _)]
  by_cases hij:i=j
  .subst hij;rw[cFt (cCq.1 h2).1]at hx;simp only[Option.some.injEq]at hx;subst hx;obtain⟨a,b,c⟩:=h i y h2;obtain⟨k1,k2,k3⟩:=aLk.1 h3;simp only;rw[k1,k2,k3]at a c ⊢;rw[h4]at hu;have hw:wr (y.2.2.2+1)=y.2.2.2+1:=wri (by omega) (by omega);rw[hw];exact⟨a,by omega,by omega⟩
  .rw[List.getElem?_set_ne hij]at hx;exact h j x hx
def rr(id s d now:Int):lRs->Int
 | []=>0
 | x::l=>if x.1==id&&(atR x s d&&decide (now<=x.2.2.2.2)) then x.2.2.2.1 else rr id s d now l
theorem bD5(l:lRs)(id s d now:Int):aBp l id s d now=rr id s d now l:=by
 unfold aBp;have :∀(l:lRs) (k:Nat),(match bU (λ_ (x:den tRs)=>if x.1==id&&(atR x s d&&decide (now<=x.2.2.2.2)) then some x.2.2.2.1 else none) k l with
  | some r=>r
  | none=>0)=rr id s d now l:=by
  intro l
  induction l with
  | nil=>intro k;rfl
  | cons x l ih=>
   intro k;cases hp:(x.1==id&&(atR x s d&&decide (now<=x.2.2.2.2))) with
   | true=>simp only[bU,rr,hp,zV]
   | false=>simp only[bU,rr,hp];exact ih (k+1)
 exact this l 0
theorem bLt{id s d now:Int}:∀{l:lRs},(∀x∈l,(0:Int)<=x.2.2.2.1/\(20:Int)>=x.2.2.2.1)->0<=rr id s d now l/\rr id s d now l<=20
 | [],_=>by simp[rr]
 | x::l,h=>by
  have ih:=bLt (id:=id) (s:=s) (d:=d) (now:=now) (l:=l) λy hy=>h y (cCu _ hy)
  have hx:=h x (by simp);unfold rr;split<;>omega
theorem bS0{s d now:Int}:∀{l:lRs},rs s d now l=0\/ ∃x∈l,x.2.1=s/\x.2.2.1=d
 | []=> .inl rfl
 | x::l=>by
  by_cases ha:atR x s d=true
  .unfold atR at ha;simp only[cCf,beq_iff_eq]at ha;exact .inr ⟨x,by simp,ha⟩
  .rcases bS0 (s:=s) (d:=d) (now:=now) (l:=l) with h | ⟨y,hy,h⟩
   .left;unfold rs;rw[h];simp[ha]
   .exact .inr ⟨y,cCu _ hy,h⟩
theorem rF.rs_le{l:lRs}{cap now:Int}(h:rF l cap now)(hc:0<=cap)(s d:Int):rs s d now l<=cap:=by
 rcases bS0 (s:=s) (d:=d) (now:=now) (l:=l) with h0 | ⟨x,hx,h1,h2⟩
 .omega
 .have :=h.rate x hx;rw[h1,h2]at this;exact this
theorem bUr{l:lRs}{cap now:Int}(h:rF l cap now)(hc:1<=cap/\cap<=20)(s d:Int):free l cap s d now=cap - rs s d now l:=by
 have h1:=h.rs_le (by omega) s d;have h2:=aQy (s:=s) (d:=d) (now:=now) (wV h.val);unfold free;rw[aNw (wV h.val) (by have :=h.len;omega),show wr (cap - rs s d now l)=cap - rs s d now l from wri (by omega) (by omega)];split<;>omega
structure OkS (g:den tSc) (now:Int):Prop where
 lo:(1:Int)<=g.1
 hi:(20:Int)>=g.1
 res:rF g.2.1 g.1 now
 use:aTd g now
theorem bU1{g:den tSc}{now:Int}:xG g now=true↔OkS g now:=by
 rw[bE8,bNc];exact⟨λ⟨a,b,c,d⟩=>⟨a,b,c,d⟩,λ⟨a,b,c,d⟩=>⟨a,b,c,d⟩⟩
theorem OkS.rate_le{g:den tSc}{now:Int}(h:OkS g now)(id s d:Int):0<=tF g id s d now/\tF g id s d now<=20:=by
 unfold tF;split
 .rw[bUr h.res ⟨h.lo,h.hi⟩];have h1:=h.res.rs_le (by have :=h.lo;omega) s d;have h2:=aQy (s:=s) (d:=d) (now:=now) (wV h.res.val);have :=h.hi;omega
 .rw[bD5];exact bLt (wV h.res.val)
abbrev cAv(p:Int×Bool×lRs×lUs):den tSc:=(p.1,p.2.2.1,p.2.2.2)
theorem OkS.trans{g:den tSc}{now:Int}(h:OkS g now)(id s d:Int):OkS (cAv (nS g id s d now)) now:=by
 unfold nS;split
 .rename_i hu;exact⟨h.lo,h.hi,h.res,h.use.more hu (by have :=h.rate_le id s d;omega)⟩
 .split
  .rename_i hu;exact⟨h.lo,h.hi,h.res,h.use.more hu (by have :=h.rate_le 0 s d;omega)⟩
  .exact h
theorem bGz(g:den tSc)(id s d now:Int):(nS g id s d now).2.2.1=g.2.1/\(nS g id s d now).1=g.1/\(nS g id s d now).2.2.2.length<=g.2.2.length+1:=by
 unfold nS;split
 .exact⟨rfl,rfl,aHr ..⟩
 .split
  .exact⟨rfl,rfl,aHr ..⟩
  .exact⟨rfl,rfl,by simp⟩
theorem OkS.pw{g:den tSc}{now:Int}(h:OkS g now):g.2.2.Pairwise λx y=>kB x.1 x.2.1 x.2.2.1 y=false:=by
 rw[cEm];intro i j hi hj hij;cases hs:kB g.2.2[i].1 g.2.2[i].2.1 g.2.2[i].2.2.1 g.2.2[j] with
 | false=>rfl
 | true=>
  obtain⟨k1,k2,k3⟩:=aLk.1 hs;have a:=(h.use i _ (cCe hi)).1;have b:=(h.use j _ (cCe hj)).1;rw[k1,k2,k3,a]at b;omega
theorem bBg{l:lRs}{x:den tRs}{cap now:Int}(h:l.length<=1000000):∃b,zK l x cap now=some (b,admR l x cap now):=by
 have hf:(l.filter λy=> !gP x y).length<=1000000:=cCc (cEc ..) h;unfold zK admR pj5 zz4;rw[show ((x.1,x.2.1,x.2.2.1,x.2.2.2.1,x.2.2.2.2):den tRs)=x from rfl,aUo (by omega),aA,aX7,aA,aW3 (by omega),aA];rw[aE (b:=40) (by decide) (by simp;omega),aE (b:=40) (by decide) (by omega)];cases c1:uJ x
 .exact⟨false,by simp⟩
 .cases c2:decide (x.2.2.2.2<now)
  .cases c3:decide (wr (rate (l.filter λy=> !gP x y) x.2.1 x.2.2.1 now+x.2.2.2.1)>cap)
   .cases c4:decide (((l.filter λy=> !gP x y).length:Int)>=40)
    .exact⟨true,by simp only[cCd,zY,zZ,aA,cEl,cCs,zU]⟩
    .exact⟨false,by simp[aA]⟩
   .exact⟨false,by simp[aA]⟩
  .exact⟨false,by simp[aA]⟩
theorem aVs{code:List Int}(hl:code.length<=1048576){c:List Int}{p h:Int}(hc:Cur code (c,p,h)):∃a b d r u c' p' h',qI (c,p,h)=some (a,b,d,r,u,c',p',h')/\Cur code (c',p',h'):=by
 obtain⟨v1,c1,p1,h1,e1,_,k1⟩:=aH hl (n:=5) (by decide) (by decide) hc;obtain⟨v2,c2,p2,h2,e2,_,k2⟩:=aH hl (n:=4) (by decide) (by decide) k1;obtain⟨v3,c3,p3,h3,e3,_,k3⟩:=aH hl (n:=3) (by decide) (by decide) k2;obtain⟨v4,c4,p4,h4,e4,_,k4⟩:=aH hl (n:=4) (by decide) (by decide) k3;obtain⟨v5,c5,p5,h5,e5,_,k5⟩:=aH hl (n:=30) (by decide) (by decide) k4;refine⟨wr (1+v1),v2,wr (1+v3),wr (1+v4),wr (40+v5),c5,p5,h5,?_,k5⟩;unfold qI pj3;simp only[e1,e2,e3,e4,e5,aA]
theorem bOi{v:Int}(h:v∈[(8:Int),8,4,12]):fH v=some (v,[],[]):=by
 unfold fH;rw[eZ,aA];simp only[cCk,cC2,or_false]at h;rcases h with rfl | rfl | rfl | rfl<;>rfl
theorem bBe{v:Int}(h:v∈[(8:Int),8,4,12]):1<=v/\v<=20:=by
 simp only[cCk,cC2,or_false]at h;rcases h with rfl | rfl | rfl | rfl<;>decide
theorem bNm(cap now:Int):rF [] cap now:=⟨by simp,λx hx=>(cC2 hx).elim,λx hx=>(cC2 hx).elim,List.Pairwise.nil⟩
def bFk(code:List Int)(o:Option (Int×lRs×lUs×List Int×q30)):Prop:= ∃cap l us c' p' h',o=some (cap,l,us,c',p',h')/\OkS (cap,l,us) 45/\us.length<=12/\Cur code (c',p',h')
theorem bNx{code:List Int}(hl:code.length<=1048576){c:List Int}{p h:Int}(hc:Cur code (c,p,h)):bFk code (xZ (c,p,h)):=by
 obtain⟨cap,c1,p1,h1,e1,hcap,k1⟩:=pJ hl (l:=[(8:Int),8,4,12]) (by decide) (by decide) hc;obtain⟨v2,c2,p2,h2,e2,hv2,k2⟩:=aH hl (n:=6) (by decide) (by decide) k1;unfold xZ dd one pj3 pj4 pj5 pj6 zz4 zz5;simp only[e1,aA,bOi hcap,e2,aT,bI,aX,aY,aZ];obtain⟨n2,rfl⟩:=cC5 hv2.1;refine pW (G:=bFk code) (λ(n:Nat) (s:Int×Int×lRs×List Int×q30)=>s.1=(n:Int)/\n<=12/\s.2.1=cap/\rF s.2.2.1 cap 45/\Cur code s.2.2.2) (λ(r:Int×lRs×List Int×q30)=>r.1=cap/\rF r.2.1 cap 45/\Cur code r.2.2) ?_ n2 _ ⟨rfl,by omega,rfl,bNm ..,k2⟩ ?_
 .rintro n ⟨i,cap',l,c3,p3,h3⟩ ⟨i1,i2,i3,i4,i5⟩
  simp only at i1 i2 i3 i4 i5;subst i1 i3;cases n with
  | zero=>exact .inl ⟨_,rfl,rfl,i4,i5⟩
  | succ n=>
   right;obtain⟨a,b,d,r,u,c4,p4,h4,e4,k4⟩:=aVs hl i5;obtain⟨bb,ea⟩:=bBg (l:=l) (x:=(a,b,d,r,u)) (cap:=cap') (now:=45) (by have :=i4.len;omega);refine⟨n,((n:Int),cap',admR l (a,b,d,r,u) cap' 45,c4,p4,h4),by omega,?_,rfl,by omega,rfl,i4.admR _,k4⟩;simp only[zX (show ((n+1:Nat):Int)>0 by omega),zZ,e4,aA,ea];rw[show wr (((n+1:Nat):Int) - 1)=(n:Int) from by rw[show wr (((n+1:Nat):Int) - 1)=((n+1:Nat):Int) - 1 from wri (by omega) (by omega)];omega]
 .rintro⟨cap',l,c3,p3,h3⟩ ⟨i1,i2,i3⟩
  simp only at i1 i2 i3;subst i1;obtain⟨v5,c5,p5,h5,e5,hv5,k5⟩:=aH hl (n:=12) (by decide) (by decide) i3;simp only[e5,aA];obtain⟨n5,rfl⟩:=cC5 hv5.1;refine pW (G:=bFk code) (λ(n:Nat) (s:Int×Int×lRs×lUs×List Int×q30)=>s.1=(n:Int)/\OkS (s.2.1,s.2.2.1,s.2.2.2.1) 45/\s.2.2.2.1.length+n<=12/\Cur code s.2.2.2.2) (λ(r:Int×lRs×lUs×List Int×q30)=>OkS (r.1,r.2.1,r.2.2.1) 45/\r.2.2.1.length<=12/\Cur code r.2.2.2) ?_ n5 _ ⟨rfl,⟨(bBe hcap).1,(bBe hcap).2,i2,λj x hj=>by simp at hj⟩,by simp;omega,k5⟩ ?_
  .rintro n ⟨i,cap',l,us,c6,p6,h6⟩ ⟨i1,i2,i3,i4⟩
   simp only at i1 i2 i3 i4;subst i1;cases n with
   | zero=>exact .inl ⟨_,rfl,i2,by simpa using i3,i4⟩
   | succ n=>
    right;obtain⟨v7,c7,p7,h7,e7,hv7,k7⟩:=aH hl (n:=5) (by decide) (by decide) i4;obtain⟨v8,c8,p8,h8,e8,hv8,k8⟩:=aH hl (n:=3) (by decide) (by decide) k7;obtain⟨v9,c9,p9,h9,e9,hv9,k9⟩:=aH hl (n:=2) (by decide) (by decide) k8;have et:=aTe (g:=(cap',l,us)) (id:=v7) (s:=v8) (d:=wr (1+v9)) (now:=45) (by have :=i2.res.len;simp only at this;show l.length<=_;omega) (by show us.length<=_;omega);have hk:=i2.trans v7 v8 (wr (1+v9));obtain⟨g1,g2,g3⟩:=bGz (cap',l,us) v7 v8 (wr (1+v9)) 45;refine⟨n,((n:Int),(nS (cap',l,us) v7 v8 (wr (1+v9)) 45).1,(nS (cap',l,us) v7 v8 (wr (1+v9)) 45).2.2.1,(nS (cap',l,us) v7 v8 (wr (1+v9)) 45).2.2.2,c9,p9,h9),by omega,?_,rfl,hk,by simp only at g3 ⊢;omega,k9⟩;simp only[zX (show ((n+1:Nat):Int)>0 by omega),zZ,e7,e8,e9,aA,et];rw[show wr (((n+1:Nat):Int) - 1)=(n:Int) from by rw[show wr (((n+1:Nat):Int) - 1)=((n+1:Nat):Int) - 1 from wri (by omega) (by omega)];omega]
  .rintro⟨cap',l,us,c6,p6,h6⟩ ⟨i1,i2,i3⟩
   exact⟨_,_,_,_,_,_,rfl,i1,i2,i3⟩
theorem bOu{code:List Int}(hl:code.length<=1048576){c:List Int}{p h:Int}(hc:Cur code (c,p,h)):∃a b d r u c' p' h',aBa (c,p,h)=some (a,b,d,r,u,c',p',h')/\Cur code (c',p',h'):=by
 obtain⟨a,b,d,r,u,c1,p1,h1,e1,k1⟩:=aVs hl hc;obtain⟨v,c2,p2,h2,e2,_,k2⟩:=aH hl (n:=12) (by decide) (by decide) k1;unfold aBa pj3 pj8 zz4 zz5;simp only[e1,e2,aA];cases d0:(v==(0:Int)) with
 | true=>
  obtain⟨w,c3,p3,h3,e3,_,k3⟩:=pJ hl (l:=[(0:Int),(100000:Int),(100001:Int)]) (by decide) (by decide) k2;exact⟨w,b,d,r,u,c3,p3,h3,by simp only[zZ,e3,aA],k3⟩
 | false=>
  cases d1:(v==(1:Int)) with
  | true=>
   obtain⟨w,c3,p3,h3,e3,_,k3⟩:=pJ hl (l:=[(0:Int),(20:Int),(21:Int),(-1:Int)]) (by decide) (by decide) k2;exact⟨a,b,d,w,u,c3,p3,h3,by simp only[zZ,zY,e3,aA],k3⟩
  | false=>
   cases d2:(v==(2:Int)) with
   | true=>
    obtain⟨w,c3,p3,h3,e3,_,k3⟩:=pJ hl (l:=[(0:Int),(7:Int)]) (by decide) (by decide) k2;exact⟨a,b,w,r,u,c3,p3,h3,by simp only[zZ,zY,e3,aA],k3⟩
   | false=>exact⟨a,b,d,r,u,c2,p2,h2,by simp only[zY,aA],k2⟩
theorem bGh{a b:lRs}(h:a.length<=1073741824):∃v,mM a b=some v/\(a=b->v=true):=by
 unfold mM zz4
 by_cases hn:a.length=b.length
 .rw[hn,bne_self_eq_false,zY,<- hn];refine pW (G:=λo=> ∃v,o=some v/\(a=b->v=true)) (λ(n:Nat) (s:Int)=> ∃k:Nat,s=(k:Int)/\k+n=a.length) (λ(r:Unit⊕Bool)=>a=b->r= .inl ()) ?_ a.length _ ⟨0,rfl,by omega⟩ ?_
  .rintro n _ ⟨k,rfl,hk⟩
   cases n with
   | zero=>exact .inl ⟨.inl (),by simp only[zW (show ¬ (k:Int)<(a.length:Int) by omega),zY],λ_=>rfl⟩
   | succ n=>
    have h1:k<a.length:=by omega
    have h2:k<b.length:=by omega
    simp only[zX (show (k:Int)<(a.length:Int) by omega),zZ,aF,cCe h1,cCe h2,aA];cases hc:((a[k].1==b[k].1)&&((a[k].2.1==b[k].2.1)&&((a[k].2.2.1==b[k].2.2.1)&&((a[k].2.2.2.1==b[k].2.2.2.1)&&((a[k].2.2.2.2==b[k].2.2.2.2)&&true))))) with
    | true=>
     refine .inr ⟨n,((k+1:Nat):Int),by omega,?_,k+1,rfl,by omega⟩;simp only[cCd,zY];rw[show wr ((k:Int)+1)=((k+1:Nat):Int) from by rw[show wr ((k:Int)+1)=(k:Int)+1 from wri (by omega) (by omega)];omega]
    | false=>
     refine .inl ⟨.inr false,by simp only[cCh,zZ],λe=> ?_⟩;subst e;simp at hc
  .intro r hr;cases r with
   | inl u=>exact⟨true,rfl,λ_=>rfl⟩
   | inr v=>exact⟨v,rfl,λe=>by cases hr e⟩
 .rw[show ((a.length:Int) != (b.length:Int))=true by rw[bne_iff_ne];omega,zZ];exact⟨false,rfl,λe=>absurd (congrArg cCv e) hn⟩
theorem bO3{a b:den tSc}(h1:a.2.1.length<=1073741824)(h2:a.2.2.length<=1073741824):∃v,mX a b=some v/\(a=b->v=true):=by
 obtain⟨v1,e1,k1⟩:=bGh (b:=b.2.1) h1;unfold mX;rw[e1,aA];cases hc:(a.1 != b.1) with
 | true=>exact⟨false,rfl,λe=>by subst e;simp at hc⟩
 | false=>
  cases v1 with
  | false=>exact⟨false,rfl,λe=>by subst e;cases k1 rfl⟩
  | true=>
   by_cases hn:a.2.2.length=b.2.2.length
   .simp only[zY,cCd,hn,bne_self_eq_false,aA];rw[<- hn];refine pW (G:=λo=> ∃v,o=some v/\(a=b->v=true)) (λ(n:Nat) (s:Int)=> ∃k:Nat,s=(k:Int)/\k+n=a.2.2.length) (λ(r:Unit⊕Bool)=>a=b->r= .inl ()) ?_ a.2.2.length _ ⟨0,rfl,by omega⟩ ?_
    .rintro n _ ⟨k,rfl,hk⟩
     cases n with
     | zero=>exact .inl ⟨.inl (),by simp only[zW (show ¬ (k:Int)<(a.2.2.length:Int) by omega),zY],λ_=>rfl⟩
     | succ n=>
      have h3:k<a.2.2.length:=by omega
      have h4:k<b.2.2.length:=by omega
      simp only[zX (show (k:Int)<(a.2.2.length:Int) by omega),zZ,aF,cCe h3,cCe h4,aA];cases hc:((a.2.2[k].1==b.2.2[k].1)&&((a.2.2[k].2.1==b.2.2[k].2.1)&&((a.2.2[k].2.2.1==b.2.2[k].2.2.1)&&((a.2.2[k].2.2.2==b.2.2[k].2.2.2)&&true)))) with
      | true=>
       refine .inr ⟨n,((k+1:Nat):Int),by omega,?_,k+1,rfl,by omega⟩;simp only[cCd,zY];rw[show wr ((k:Int)+1)=((k+1:Nat):Int) from by rw[show wr ((k:Int)+1)=(k:Int)+1 from wri (by omega) (by omega)];omega]
      | false=>
       refine .inl ⟨.inr false,by simp only[cCh,zZ],λe=> ?_⟩;subst e;simp at hc
    .intro r hr;cases r with
     | inl u=>exact⟨true,rfl,λ_=>rfl⟩
     | inr v=>exact⟨v,rfl,λe=>by cases hr e⟩
   .simp only[zY,cCd,aA];rw[show ((a.2.2.length:Int) != (b.2.2.length:Int))=true by rw[bne_iff_ne];omega,zZ];exact⟨false,rfl,λe=>absurd (by rw[e]) hn⟩
theorem bJr{a:den tSc}(h1:a.2.1.length<=1073741824)(h2:a.2.2.length<=1073741824):mX a a=some true:=by
 obtain⟨v,e,k⟩:=bO3 (b:=a) h1 h2;rw[e,k rfl]
theorem aGq{l:List Int}{n x:Int}(h:x∈wT l n):x=n\/x∈l:=by
 unfold wT at h;split at h
 .exact .inr h
 .simp only[cCo,cCn]at h;rcases h with (h | h) | h
  .exact .inr (cDx h)
  .exact .inl h
  .exact .inr (cD4 h)
theorem bMd{r d:Int}{x:den tLk}{a:List Int}(h:d∈qX r x a):dB x r d=true\/d∈a:=by
 unfold qX at h;unfold dB;cases c1:x.1==r<;>cases c2:x.2.2.1==r<;>rw[c1,c2]at h<;>simp only[zZ,zY]at h
 .exact .inr h
 .rcases aGq h with e | h
  .left;simp[e]
  .exact .inr h
 .rcases aGq h with e | h
  .left;simp[e]
  .exact .inr h
 .rcases aGq h with e | h
  .left;simp[e]
  .rcases aGq h with e | h
   .left;simp[e]
   .exact .inr h
theorem bI1{t:den tTo}{r d:Int}(h:d∈iB t r):∃x∈t.2,dB x r d=true:=by
 have :∀(l:lLk) (k:Nat) (a:List Int),d∈bT (λ_ x a=>qX r x a) k l a->(∃x∈l,dB x r d=true)\/d∈a:=by
  intro l
  induction l with
  | nil=>intro k a h;exact .inr h
  | cons x l ih=>
   intro k a h;rcases ih (k+1) (qX r x a) h with ⟨y,hy,e⟩ | h
   .exact .inl ⟨y,cCu _ hy,e⟩
   .rcases bMd h with e | h
    .exact .inl ⟨x,by simp,e⟩
    .exact .inr h
 rcases this t.2 0 [] h with h | h
 .exact h
 .cases h
theorem aYt{t:den tTo}{r d:Int}(h:∃x∈t.2,dB x r d=true):∃(j:Nat) (x:den tLk),sP t r d=(j:Int)/\t.2[j]? =some x/\dB x r d=true:=by
 rcases aHe t r d with e | h
 .exfalso;have :∀(l:lLk) (k:Nat),(∃x∈l,dB x r d=true)-> ∃i,bU (λk x=>if dB x r d then some ((k:Nat):Int) else none) k l=some i/\0<=i:=by
   intro l
   induction l with
   | nil=>rintro k ⟨x,hx,_⟩;cases hx
   | cons y l ih=>
    rintro k ⟨x,hx,hxe⟩
    cases c:dB y r d with
    | true=>exact⟨(k:Int),by simp[bU,c],by omega⟩
    | false=>
     rcases cCk.1 hx with rfl | hx
     .rw[c]at hxe;cases hxe
     .obtain⟨i,h1,h2⟩:=ih (k+1) ⟨x,hx,hxe⟩;exact⟨i,by simp only[bU,c];exact h1,h2⟩
  obtain⟨i,h1,h2⟩:=this t.2 0 h;unfold sP at e;rw[h1]at e;have e:i= -1:=e;omega
 .exact h
theorem bLm{t:den tTo}(hv:∀x∈t.2,aAn t x=true){r d:Int}(h:d∈iB t r):cD t (remote t r d).1=true:=by
 obtain⟨j,x,e,hx,he⟩:=aYt (bI1 h);have hl:=hv x (cCt hx);unfold remote;rw[e,zS (by omega),cCm,hx];unfold aAn at hl;simp only[cCf]at hl;unfold bDb;simp only[cDc];cases x.1==r&&x.2.1==d with
 | true=>exact hl.2.1
 | false=>exact hl.1
theorem bIr{t:den tTo}{r k:Int}(h:t.2.length<=1000000):∃l,iP t r k=some l/\l.length<=2 * t.2.length/\ ∀d∈l,d∈iB t r:=by
 have hd:=aG4 t r;unfold iP ixb pj2;rw[show ((t.1,t.2):den tTo)=t from rfl,aM9 (t:=t) (by omega),aA];refine fL (G:=λo=> ∃l,o=some l/\l.length<=2 * t.2.length/\ ∀d∈l,d∈iB t r) (iB t r).length (λs:Int×List Int=>s.1) (λi s=>s.2.length<=i/\ ∀d∈s.2,d∈iB t r) (λl:List Int=>l.length<=2 * t.2.length/\ ∀d∈l,d∈iB t r) ?_ ?_ 0 ((0:Int),[]) (by omega) rfl ⟨by simp,λd hd=>(cC2 hd).elim⟩ (λl hl=>⟨l,rfl,hl⟩)
 .rintro i ⟨_,l⟩ hi rfl ⟨h1,h2⟩
  right;simp only at h1 h2;simp only[zX (show (i:Int)<((iB t r).length:Int) by omega),zX (show (0:Int)<=(i:Int) by omega),zZ,cCm,cCe hi,aA,aT4 (t:=t) (show t.2.length<=68719476736 by omega),bK (show i<=1000000000 by omega)];rw[aE (b:=8) (n:=l.length) (m:=1) (by decide) (by omega),zZ];cases aG2 t r (iB t r)[i]==k with
  | true=>exact⟨_,rfl,rfl,by simp;omega,λd hd=>by
    rcases cCo.1 hd with hd | hd
    .exact h2 d hd
    .rw[cCn.1 hd];exact cC9 hi⟩
  | false=>exact⟨_,rfl,rfl,by show l.length<=i+1;omega,h2⟩
 .rintro⟨_,l⟩ rfl ⟨h1,h2⟩
  exact⟨l,by simp only[zW (cC0 _),zY],by simp only at h1;omega,h2⟩
theorem aL4(l:List Int)(n:Int):n∈wT l n:=by
 unfold wT;split
 .next h=>exact cCt h
 .simp
theorem aGw{l:List Int}{n x:Int}(h:x∈l):x∈wT l n:=by
 unfold wT;split
 .exact h
 .rw[<- cD5 (aAc l n) l]at h;simp only[cCo,cCn]at h ⊢;rcases h with h | h
  .exact .inl (.inl h)
  .exact .inr h
theorem bP6{l:List Int}{n:Int}(h:n∉l):(wT l n).length=l.length+1:=by
 unfold wT;rw[zS (λe=>h (cCt e))];have :=bCs l n;simp;omega
theorem bLp{r d:Int}{x:den tLk}{a:List Int}(h:d∈a):d∈qX r x a:=by
 unfold qX;cases x.2.2.1==r<;>cases x.1==r<;>simp only[zZ,zY]
 .exact h
 .exact aGw h
 .exact aGw h
 .exact aGw (aGw h)
theorem bIb{r d:Int}{x:den tLk}{a:List Int}(h:dB x r d=true):d∈qX r x a:=by
 unfold dB at h;unfold qX;simp only[cD1,cCf]at h;rcases h with ⟨h1,h2⟩ | ⟨h1,h2⟩
 .rw[h1,eq_of_beq h2];cases x.2.2.1==r<;>simp only[zZ,zY]
  .exact aL4 _ _
  .exact aGw (aL4 _ _)
 .rw[h1,eq_of_beq h2];cases x.1==r<;>simp only[zZ,zY]<;>exact aL4 _ _
theorem aJ2(as:lAS)(ls:lLk)(r:Int):iB (as,ls) r=ls.foldl (λa x=>qX r x a) []:=uD (λa x=>qX r x a) ls 0 []
theorem bIl{as:lAS}{ls:lLk}{r d:Int}{x:den tLk}(hx:x∈ls)(h:dB x r d=true):d∈iB (as,ls) r:=by
 rw[aJ2];have keep:∀(l:lLk) (a:List Int),d∈a->d∈l.foldl (λa x=>qX r x a) a:=by
  intro l
  induction l with
  | nil=>exact λa h=>h
  | cons y l ih=>exact λa h=>ih _ (bLp h)
 have :∀(l:lLk) (a:List Int),x∈l->d∈l.foldl (λa x=>qX r x a) a:=by
  intro l
  induction l with
  | nil=>exact λa h=>(cC2 h).elim
  | cons y l ih=>
   intro a hm;rcases cCk.1 hm with rfl | hm
   .exact keep l _ (bIb h)
   .exact ih _ hm
 exact this ls [] hx
structure rB (ls:lLk):Prop where
 num:∀r d:Int,d∈iB ([],ls) r->1<=d/\d<=((iB ([],ls) r).length:Int)
 pw:ls.Pairwise λy x=>dB y x.1 x.2.1=false/\dB y x.2.2.1 x.2.2.2.1=false
theorem bEh:rB []:=⟨λr d h=>(cC2 h).elim,List.Pairwise.nil⟩
theorem rB.no{ls:lLk}(h:rB ls){y:den tLk}(hy:y∈ls)(r:Int):dB y r (((iB ([],ls) r).length:Int)+1)=false:=by
 cases e:dB y r (((iB ([],ls) r).length:Int)+1) with
 | false=>rfl
 | true=>have :=(h.num r _ (bIl hy e)).2;omega
theorem rB.grow{L:List Int}(h:∀d∈L,(1:Int)<=d/\d<=(L.length:Int)):∀d∈wT L ((L.length:Int)+1),(1:Int)<=d/\d<=((wT L ((L.length:Int)+1)).length:Int):=by
 have hn:((L.length:Int)+1)∉L:=λe=>by have :=(h _ e).2;omega
 rw[bP6 hn];intro d hd;rcases aGq hd with rfl | hd
 .omega
 .have :=h d hd;omega
theorem rB.snoc{ls:lLk}(h:rB ls){a b:Int}(hab:a≠b)(k:Int):rB (ls++[(a,((iB ([],ls) a).length:Int)+1,b,((iB ([],ls) b).length:Int)+1,k)]):=by
 constructor
 .intro r;rw[aJ2,List.foldl_append,<- aJ2];show ∀d,d∈qX r _ _->_/\_<=((qX r _ _).length:Int)
  unfold qX
  by_cases ha:a=r
  .subst ha;have hb:(b==a)=false:=by simp;exact λe=>hab e.symm
   simp only[hb,beq_self_eq_true,zZ,zY];exact rB.grow (h.num a)
  .have ha':(a==r)=false:=by simpa using ha
   by_cases hb:b=r
   .subst hb;simp only[ha',beq_self_eq_true,zZ,zY];exact rB.grow (h.num b)
   .have hb':(b==r)=false:=by simpa using hb
    simp only[ha',hb',zY];exact h.num r
 .rw[List.pairwise_append];refine⟨h.pw,List.pairwise_singleton _ _,λy hy x hx=> ?_⟩;rw[cCn.1 hx];exact⟨h.no hy a,h.no hy b⟩
theorem aHz{t:den tTo}{a b k:Int}(h:t.2.length<=1000000)(hab:a≠b)(hf:rB t.2):∃ls,vE t a b k=some (t.1,ls)/\ls.length<=t.2.length+1/\rB ls:=by
 have la:=aG4 t a;have lb:=aG4 t b;unfold vE pj2;rw[show ((t.1,t.2):den tTo)=t from rfl,aM9 (t:=t) (by omega),aM9 (t:=t) (by omega),aA,aA,aE (b:=40) (n:=t.2.length) (m:=1) (by decide) (by omega)];have w1:wr (((iB t a).length:Int)+1)=((iB t a).length:Int)+1:=bD (by omega) (by omega);have w2:wr (((iB t b).length:Int)+1)=((iB t b).length:Int)+1:=bD (by omega) (by omega);cases decide (wr (((iB t a).length:Int)+1)<=6) with
 | false=>exact⟨t.2,rfl,by omega,hf⟩
 | true=>
  cases decide (wr (((iB t b).length:Int)+1)<=6) with
  | false=>exact⟨t.2,rfl,by omega,hf⟩
  | true=>
   refine⟨t.2++[(a,wr (((iB t a).length:Int)+1),b,wr (((iB t b).length:Int)+1),k)],rfl,by simp,?_⟩;rw[w1,w2];exact hf.snoc hab k
def AsI(as:lAS):Prop:= ∀(j:Nat) (x:den tAS),as[j]? =some x->((0:Int)<=x.1/\(1:Int)>=x.1)/\ ∃v:Int,0<=v/\v<1000000/\1+8 * v+(j:Int)=x.2.2
theorem bT1:AsI []:=λj x h=>by simp at h
theorem AsI.snoc{as:lAS}(h:AsI as){d v:Int}{b:Bool}(hd:0<=d/\1>=d)(hv:0<=v/\v<1000000):AsI (as++[(d,b,1+8 * v+(as.length:Int))]):=by
 intro j x hx;rw[List.getElem?_append]at hx;split at hx
 .exact h j x hx
 .next hj=>
  have hj0:j - as.length=0:=by
   have :=(cCq.1 hx).1;simp at this;omega
  rw[hj0]at hx;simp only[cFd,Option.some.injEq]at hx;subst hx;exact⟨hd,v,hv.1,hv.2,by show 1+8 * v+(j:Int)=1+8 * v+(as.length:Int);omega⟩
theorem AsI.set{as:lAS}(h:AsI as){i q:Nat}(hi:i<as.length)(hq:q<as.length):AsI (as.set i (as[q].1,as[i].2.1,as[i].2.2)):=by
 intro j x hx;rw[cEk]at hx;split at hx
 .next e=>
  subst e;simp only[hi,zV,Option.some.injEq]at hx;subst hx;exact⟨(h q as[q] (cCe hq)).1,(h i as[i] (cCe hi)).2⟩
 .exact h j x hx
theorem bC3{α:Type}(p:Nat->α->Bool){l:List α}(h:∀(j:Nat) (x:α),l[j]? =some x->p j x=true):(l.zipIdx 0).all (λz=>p z.2 z.1)=true:=by
 rw[cC6]
 rintro⟨x,j⟩ hm
 exact h j x (by simpa using List.mem_zipIdx_iff_getElem?.1 hm)
theorem aMe{α:Type}{l:List α}{j:Nat}{y:α}(h:y∈l.take j):∃i,i<j/\l[i]? =some y:=by
 obtain⟨i,hi⟩:=cE4.1 h;rw[cDu]at hi;split at hi
 .next c=>exact⟨i,c,hi⟩
 .cases hi
theorem bTo{as:lAS}{ls:lLk}(h1:1<=as.length)(h8:as.length<=8)(ha:AsI as)(hv:∀x∈ls,aAn (as,ls) x=true)(hp:ls.Pairwise λy x=>dB y x.1 x.2.1=false/\dB y x.2.2.1 x.2.2.2.1=false):aBb (as,ls)=true:=by
 unfold aBb;rw[cCf,cCf];refine⟨?_,?_,?_⟩
 .simp only[inR,cCf,zR];omega
 .refine bC3 (asP (as,ls)) (l:=as) λj x hx=> ?_
  obtain⟨⟨a0,a1⟩,v,v0,v1,v2⟩:=ha j x hx;have hj:j<as.length:=(cCq.1 hx).1;have v2:1+8 * v+(j:Int)=x.2.2:=v2;unfold asP;simp only[cCf,inR,zR];refine⟨⟨a0,show (2:Int)>=x.1 by omega⟩,⟨show (1:Int)<=x.2.2 by omega,show (2147483646:Int)>=x.2.2 by omega⟩,cC6.2 λy hy=> ?_⟩;obtain⟨i,hi,hy⟩:=aMe hy;obtain⟨_,w,w0,w1,w2⟩:=ha i y hy;have w2:1+8 * w+(i:Int)=y.2.2:=w2;have :x.2.2≠y.2.2:=λe=>by
   have e:1+8 * v+(j:Int)=1+8 * w+(i:Int):=v2.trans (e.trans w2.symm);omega
  simpa using this
 .refine bC3 (lkP (as,ls)) (l:=ls) λj x hx=> ?_
  unfold lkP;rw[cCf];refine⟨hv x (cCt hx),cC6.2 λy hy=> ?_⟩;obtain⟨i,hi,hy⟩:=aMe hy;obtain⟨hi',ei⟩:=cCq.1 hy;obtain⟨hj',ej⟩:=cCq.1 hx;have :=(cEm.1 hp) i j hi' hj' hi;rw[ei,ej]at this;simp[this.1,this.2]
structure zQ (as:lAS) (ls:lLk):Prop where
 pos:1<=as.length
 len:as.length<=8
 links:ls.length<=100
 val:∀x∈ls,aAn (as,ls) x=true
 top:aBb (as,ls)=true
def aXz(code:List Int)(o:Option (lAS×lLk×List Int×q30)):Prop:= ∃as ls c' p' h',o=some (as,ls,c',p',h')/\zQ as ls/\Cur code (c',p',h')
def T3I(code:List Int)(n:Nat)(i:Nat)(s:Int×lAS×lLk×List Int×q30):Prop:=(s.2.1.length=n/\AsI s.2.1/\rB s.2.2.1)/\s.2.2.1.length<=10 * i/\Cur code s.2.2.2
theorem aNm{code:List Int}(hl:code.length<=1048576){c:List Int}{p h:Int}(hc:Cur code (c,p,h)):aXz code (oT (c,p,h)):=by
 obtain⟨v1,c1,p1,h1,e1,r1,k1⟩:=aH hl (n:=3) (by decide) (by decide) hc;obtain⟨v2,c2,p2,h2,e2,r2,k2⟩:=aH hl (n:=6) (by decide) (by decide) k1;obtain⟨m1,rfl⟩:=cC5 r1.1;obtain⟨m2,rfl⟩:=cC5 r2.1;have w1:wr ((1:Int)+(m1:Int))=((m1+1:Nat):Int):=by rw[bD (by omega) (by omega)];omega
 have w2:wr (((m1+1:Nat):Int)+(m2:Int))=((m1+1+m2:Nat):Int):=by rw[bD (by omega) (by omega)];omega
 unfold oT ixb pj2 pj3 pj4 pj5;simp only[e1,e2,aA,aT,bI,aX,aY,aZ,w1,w2];generalize hco:m1+1=co at *;generalize hn:co+m2=n at *;have hco1:1<=co:=by omega
 have hcn:co<=n:=by omega
 have hn8:n<=8:=by omega
 refine fL (G:=aXz code) n (λs:Int×lAS×List Int×Int×Int=>s.1) (λi s=>(s.2.1.length=i/\AsI s.2.1)/\Cur code s.2.2) (λr:lAS×List Int×Int×Int=>(r.1.length=n/\AsI r.1)/\Cur code r.2) ?_ ?_ 0 ((0:Int),[],c2,p2,h2) (by omega) rfl ⟨⟨rfl,bT1⟩,k2⟩ ?_
 .rintro i ⟨_,as,c3,p3,h3⟩ hi rfl ⟨⟨a1,a3⟩,a2⟩
  simp only at a1 a2 a3;right;obtain⟨v4,c4,p4,h4,e4,r4,k4⟩:=aH hl (n:=2) (by decide) (by decide) a2;obtain⟨v5,c5,p5,h5,e5,r5,k5⟩:=aHw hl (n:=1000000) (by decide) k4;refine⟨(((i+1:Nat):Int),as++[(v4,decide ((i:Int)<((co:Nat):Int)),wr ((wr ((1:Int)+(wr (v5 * (8:Int)))))+(i:Int)))],c5,p5,h5),?_,rfl,⟨by simp[a1],?_⟩,k5⟩;simp only[zX (show (i:Int)<(n:Int) by omega),zZ,e4,e5,aA,aE (b:=24) (n:=as.length) (m:=1) (by decide) (by omega),bK (show i<=1000000000 by omega)];have e:wr ((wr ((1:Int)+(wr (v5 * (8:Int)))))+(i:Int))=1+8 * v5+(as.length:Int):=by
   rw[bD (n:=v5 * 8) (by omega) (by omega),bD (n:=1+v5 * 8) (by omega) (by omega),bD (by omega) (by omega)];omega
  show AsI (as++[_]);rw[e];exact a3.snoc ⟨by omega,by omega⟩ ⟨by omega,by omega⟩
 .rintro⟨_,as,c3,p3,h3⟩ rfl ⟨a1,a2⟩
  exact⟨(as,c3,p3,h3),by simp only[zW (cC0 _),zY],a1,a2⟩
 rintro⟨as,c3,p3,h3⟩ ⟨⟨a1,a3⟩,a2⟩
 simp only at a1 a2 a3;refine fL (G:=aXz code) co (λs:Int×lAS×lLk×List Int×Int×Int=>s.1) (λi s=>1<=i/\T3I code n i s) (λr:lAS×lLk×List Int×Int×Int=>(r.1.length=n/\AsI r.1/\rB r.2.1)/\r.2.1.length<=10 * co/\Cur code r.2.2) ?_ ?_ 1 ((1:Int),as,[],c3,p3,h3) hco1 rfl ⟨cCx 1,⟨a1,a3,bEh⟩,by simp,a2⟩ ?_
 .rintro i ⟨_,as,ls,c4,p4,h4⟩ hi rfl ⟨b0,b1,b2,b3⟩
  simp only at b1 b2 b3;right;obtain⟨v5,c5,p5,h5,e5,r5,k5⟩:=aH hl (n:=(i:Int)) (by omega) (by omega) b3;obtain⟨l6,e6,r6,f6⟩:=aHz (t:=(as,ls)) (a:=v5) (b:=(i:Int)) (k:=1) (by show ls.length<=_;omega) (by omega) b1.2.2;obtain⟨v7,c7,p7,h7,e7,k7⟩:=jX hl (n:=2) (by decide) (by decide) k5;simp only at e6 r6;cases v7 with
  | false=>
   refine⟨(((i+1:Nat):Int),as,l6,c7,p7,h7),?_,rfl,by omega,⟨b1.1,b1.2.1,f6⟩,by simp only;omega,k7⟩;simp only[zX (show (i:Int)<(co:Int) by omega),zZ,zY,e5,e6,e7,aA,bK (show i<=1000000000 by omega)]
  | true=>
   obtain⟨v8,c8,p8,h8,e8,r8,k8⟩:=aH hl (n:=(i:Int)) (by omega) (by omega) k7;obtain⟨l9,e9,r9,f9⟩:=aHz (t:=(as,l6)) (a:=v8) (b:=(i:Int)) (k:=1) (by show l6.length<=_;omega) (by omega) f6;simp only at e9 r9;refine⟨(((i+1:Nat):Int),as,l9,c8,p8,h8),?_,rfl,by omega,⟨b1.1,b1.2.1,f9⟩,by simp only;omega,k8⟩;simp only[zX (show (i:Int)<(co:Int) by omega),zZ,e5,e6,e7,e8,e9,aA,bK (show i<=1000000000 by omega)]
 .rintro⟨_,as,ls,c4,p4,h4⟩ rfl ⟨b0,b1,b2,b3⟩
  exact⟨(as,ls,c4,p4,h4),by simp only[zW (cC0 _),zY],b1,b2,b3⟩
 rintro⟨as,ls,c4,p4,h4⟩ ⟨b1,b2,b3⟩
 simp only at b1 b2 b3;refine fL (G:=aXz code) n (λs:Int×lAS×lLk×List Int×Int×Int=>s.1) (λi s=>1<=i/\co<=i/\T3I code n i s) (λr:lAS×lLk×List Int×Int×Int=>(r.1.length=n/\AsI r.1/\rB r.2.1)/\r.2.1.length<=10 * n/\Cur code r.2.2) ?_ ?_ co (((co:Nat):Int),as,ls,c4,p4,h4) hcn rfl ⟨hco1,cCx co,b1,b2,b3⟩ ?_
 .rintro i ⟨_,as,ls,c5,p5,h5⟩ hi rfl ⟨d0,d1,⟨d2,d5,d6⟩,d3,d4⟩
  simp only at d2 d3 d4 d5 d6;right;have hlen:(as.length:Int)=(n:Int):=by omega
  obtain⟨v6,c6,p6,h6,e6,r6,k6⟩:=aH hl (n:=2) (by decide) (by decide) d4;obtain⟨m6,rfl⟩:=cC5 r6.1;have w6:wr ((1:Int)+(m6:Int))=((m6+1:Nat):Int):=by rw[bD (by omega) (by omega)];omega
  simp only[hlen,zX (show (i:Int)<(n:Int) by omega),zZ,e6,w6,aA,Option.bind_assoc];refine pW (G:=λo=> ∃s',o=some (cCb s')/\s'.1=((i+1:Nat):Int)/\1<=i+1/\co<=i+1/\T3I code n (i+1) s') (λ(m:Nat) (s:Int×lAS×lLk×List Int×q30)=>s.1=(m:Int)/\m<=2/\(s.2.1.length=n/\AsI s.2.1/\rB s.2.2.1)/\s.2.2.1.length+m<=10 * i+2/\Cur code s.2.2.2) (λr:lAS×lLk×List Int×Int×Int=>(r.1.length=n/\AsI r.1/\rB r.2.1)/\r.2.1.length<=10 * i+2/\Cur code r.2.2) ?_ (m6+1) (((m6+1:Nat):Int),as,ls,c6,p6,h6) ⟨rfl,by omega,⟨d2,d5,d6⟩,by simp only;omega,k6⟩ ?_
  .rintro m ⟨_,as,ls,c7,p7,h7⟩ ⟨rfl,f1,⟨f2,f5,f6⟩,f3,f4⟩
   simp only at f2 f3 f4 f5 f6;cases m with
   | zero=>exact .inl ⟨(as,ls,c7,p7,h7),rfl,⟨f2,f5,f6⟩,by simpa using f3,f4⟩
   | succ m=>
    right;obtain⟨v8,c8,p8,h8,e8,r8,k8⟩:=aH hl (n:=(i:Int)) (by omega) (by omega) f4;obtain⟨q8,rfl⟩:=cC5 r8.1;obtain⟨v9,c9,p9,h9,e9,k9⟩:=jX hl (n:=5) (by decide) (by decide) k8;have hq:q8<n:=by omega
    have hlen:(as.length:Int)=(n:Int):=by omega
    have hq1:as[q8]? =some (as[q8]'(by omega)):=cCe (by omega);have hi1:as[i]? =some (as[i]'(by omega)):=cCe (by omega);have wm:wr (((m+1:Nat):Int) - 1)=(m:Int):=by rw[bD (by omega) (by omega)];omega
    have fin:∀(as':lAS) (c p h:_),as'.length=n->AsI as'->Cur code (c,p,h)-> ∃s',(Option.bind (cond (decide ((0:Int)<=(q8:Int))) (cond (decide ((q8:Int)<(as'.length:Int))) (Option.bind as'[((q8:Nat):Int).toNat]? λx79=>cond (decide ((0:Int)<=(i:Int))) (cond (decide ((i:Int)<(as'.length:Int))) (Option.bind as'[((i:Nat):Int).toNat]? λx80=>cond (x79.1==x80.1) (Option.bind (vE (as',ls) (q8:Int) (i:Int) (2:Int)) λy81=>some (y81.1,y81.2,c,p,h)) (some (as',ls,c,p,h))) none) none) none) none) λ(s82:lAS×lLk×List Int×q30)=>some (cCb (wr (((m+1:Nat):Int) - (1:Int)),s82.1,s82.2.1,s82.2.2.1,s82.2.2.2.1,s82.2.2.2.2)):Option ((Int×lAS×lLk×List Int×q30)⊕(lAS×lLk×List Int×q30)))=some (cCb s')/\s'.1=(m:Int)/\m<=2/\(s'.2.1.length=n/\AsI s'.2.1/\rB s'.2.2.1)/\s'.2.2.1.length+m<=10 * i+2/\Cur code s'.2.2.2:=by
     intro as' c p h g1 g3 g2;have hl':(as'.length:Int)=(n:Int):=by omega
     have hq1:as'[q8]? =some (as'[q8]'(by omega)):=cCe (by omega);have hi1:as'[i]? =some (as'[i]'(by omega)):=cCe (by omega);simp only[hl',zX (show (0:Int)<=(q8:Int) by omega),zX (show (q8:Int)<(n:Int) by omega),zX (show (0:Int)<=(i:Int) by omega),zX (show (i:Int)<(n:Int) by omega),zZ,cCm,hq1,hi1,aA,wm];obtain⟨l6,e6,r6,z6⟩:=aHz (t:=(as',ls)) (a:=(q8:Int)) (b:=(i:Int)) (k:=2) (by show ls.length<=_;omega) (by omega) f6;simp only at e6 r6;cases (as'[q8]'(by omega)).1==(as'[i]'(by omega)).1 with
     | true=>exact⟨_,by simp only[zZ,e6,aA];rfl,rfl,by omega,⟨g1,g3,z6⟩,by simp only;omega,g2⟩
     | false=>exact⟨_,by simp only[zY,aA];rfl,rfl,by omega,⟨g1,g3,f6⟩,by simp only;omega,g2⟩
    cases v9 with
    | true=>
     obtain⟨s',g1,g2⟩:=fin as c9 p9 h9 f2 f5 k9;refine⟨m,s',by omega,?_,g2⟩;rw[<- g1];simp only[zX (show ((m+1:Nat):Int)>0 by omega),zZ,zY,e8,e9,aA,cCd]
    | false=>
     obtain⟨s',g1,g2⟩:=fin (as.set i ((as[q8]'(by omega)).1,(as[i]'(by omega)).2.1,(as[i]'(by omega)).2.2)) c9 p9 h9 (by simp[f2]) (f5.set (by omega) (by omega)) k9;refine⟨m,s',by omega,?_,g2⟩;rw[<- g1];simp only[zX (show ((m+1:Nat):Int)>0 by omega),zZ,e8,e9,aA,cCh,hlen,zX (show (0:Int)<=(q8:Int) by omega),zX (show (q8:Int)<(n:Int) by omega),zX (show (0:Int)<=(i:Int) by omega),zX (show (i:Int)<(n:Int) by omega),cCm,hq1,hi1]
  .rintro⟨as,ls,c7,p7,h7⟩ ⟨⟨f1,f5,f6⟩,f2,f3⟩
   simp only at f1 f2 f3 f5 f6;have w7:wr (wr ((i:Int) - (co:Int))+1)=((i - co+1:Nat):Int):=by rw[bD (n:=(i:Int) - (co:Int)) (by omega) (by omega),bD (by omega) (by omega)];omega
   obtain⟨v8,c8,p8,h8,e8,r8,k8⟩:=aH hl (n:=((i - co+1:Nat):Int)) (by omega) (by omega) f3;obtain⟨v9,c9,p9,h9,e9,k9⟩:=jX hl (n:=3) (by decide) (by decide) k8;simp only[w7,e8,aA,bK (show i<=1000000000 by omega)];cases hlt:decide (wr ((co:Int)+v8)<(i:Int)) with
   | false=>exact⟨_,by simp only[zY,aA];rfl,rfl,by omega,by omega,⟨f1,f5,f6⟩,by simp only;omega,k8⟩
   | true=>
    have hlt':=of_decide_eq_true hlt;obtain⟨l6,e6,r6,z6⟩:=aHz (t:=(as,ls)) (a:=wr ((co:Int)+v8)) (b:=(i:Int)) (k:=3) (by show ls.length<=_;omega) (by omega) f6;simp only at e6 r6;cases v9 with
    | false=>exact⟨_,by simp only[zZ,zY,e9,aA];rfl,rfl,by omega,by omega,⟨f1,f5,f6⟩,by simp only;omega,k9⟩
    | true=>exact⟨_,by simp only[zZ,e9,e6,aA];rfl,rfl,by omega,by omega,⟨f1,f5,z6⟩,by simp only;omega,k9⟩
 .rintro⟨_,as,ls,c5,p5,h5⟩ rfl ⟨d0,d1,⟨d2,d5⟩,d3,d4⟩
  simp only at d2 d3 d4 d5;exact⟨(as,ls,c5,p5,h5),by simp only[d2,zW (cC0 _),zY],⟨d2,d5⟩,d3,d4⟩
 rintro⟨as,ls,c5,p5,h5⟩ ⟨⟨d2,d5,d6⟩,d3,d4⟩
 simp only at d2 d3 d4 d5 d6;refine fL (G:=aXz code) ls.length (λs:Int×lLk=>s.1) (λi s=>(s.2.length<=i/\List.Sublist s.2 (ls.take i))/\ ∀x∈s.2,aAn (as,ls) x=true) (λr:lLk=>(r.length<=ls.length/\List.Sublist r ls)/\ ∀x∈r,aAn (as,ls) x=true) ?_ ?_ 0 ((0:Int),[]) (by omega) rfl ⟨⟨by simp,List.nil_sublist _⟩,λd hd=>(cC2 hd).elim⟩ ?_
 .rintro i ⟨_,l⟩ hi rfl ⟨⟨g1,g3⟩,g2⟩
  simp only at g1 g2 g3;right;have htk:ls.take (i+1)=ls.take i++[ls[i]]:=(List.take_append_getElem hi).symm;simp only[zX (show (i:Int)<(ls.length:Int) by omega),zX (show (0:Int)<=(i:Int) by omega),zZ,cCm,cCe hi,aA,bCn (t:=(as,ls)) (show as.length<=68719476736 by omega),bK (show i<=1000000000 by omega)];rw[aE (b:=40) (n:=l.length) (m:=1) (by decide) (by omega),zZ];cases hv:aAn (as,ls) ls[i] with
  | true=>exact⟨_,rfl,rfl,⟨by simp;omega,by rw[htk];exact g3.append (List.Sublist.refl _)⟩,λx hx=>by
    rcases cCo.1 hx with hx | hx
    .exact g2 x hx
    .rw[cCn.1 hx];exact hv⟩
  | false=>exact⟨_,rfl,rfl,⟨by show l.length<=i+1;omega,by rw[htk];exact g3.trans (List.sublist_append_left _ _)⟩,g2⟩
 .rintro⟨_,l⟩ rfl ⟨⟨g1,g3⟩,g2⟩
  exact⟨l,by simp only[zW (cC0 _),zY],⟨g1,g3.trans (List.take_sublist _ _)⟩,g2⟩
 rintro l ⟨⟨g1,g3⟩,g2⟩
 exact⟨as,l,c5,p5,h5,rfl,⟨by omega,by omega,by omega,g2,bTo (by omega) (by omega) d5 g2 (d6.pw.sublist g3)⟩,d4⟩
theorem bAb{s:den tSg}(h:s.2.2.length<=1000000):∃l,dL s=some l/\l.length=s.2.2.length:=by
 unfold dL;refine fL (G:=λo=> ∃l,o=some l/\l.length=s.2.2.length) s.2.2.length (λs:Int×List Int=>s.1) (λi t=>t.2.length=i) (λl:List Int=>l.length=s.2.2.length) ?_ ?_ 0 ((0:Int),[]) (by omega) rfl rfl (λl hl=>⟨l,rfl,hl⟩)
 .rintro i ⟨_,l⟩ hi rfl h1
  simp only at h1;right;refine⟨(((i+1:Nat):Int),l++[s.2.2[i].1]),?_,rfl,by simp[h1]⟩;simp only[zX (show (i:Int)<(s.2.2.length:Int) by omega),zZ,aF,cCe hi,aA,aE (b:=8) (n:=l.length) (m:=1) (by decide) (by omega),bK (show i<=1000000000 by omega)]
 .rintro⟨_,l⟩ rfl h1
  exact⟨l,by simp only[zW (cC0 _),zY],h1⟩
theorem bKp{s:den tSg}{n:Nat}(hn:n<=s.2.2.length)(h:s.2.2.length<=1000000):∃l,pT s (n:Int)=some l/\l.length=n:=by
 unfold pT zz4;refine fL (G:=λo=> ∃l,o=some l/\l.length=n) n (λs:Int×List Int=>s.1) (λi t=>t.2.length=i) (λl:List Int=>l.length=n) ?_ ?_ 0 ((0:Int),[]) (by omega) rfl rfl (λl hl=>⟨l,rfl,hl⟩)
 .rintro i ⟨_,l⟩ hi rfl h1
  simp only at h1;right;have hi':i<s.2.2.length:=by omega
  refine⟨(((i+1:Nat):Int),l++[s.2.2[i].2.2.2.2]),?_,rfl,by simp[h1]⟩;simp only[zX (show (i:Int)<(n:Int) by omega),zZ,aF,cCe hi',aA,aE (b:=8) (n:=l.length) (m:=1) (by decide) (by omega),bK (show i<=1000000000 by omega)]
 .rintro⟨_,l⟩ rfl h1
  exact⟨l,by simp only[zW (cC0 _),zY],h1⟩
theorem bIa{b:Int}{l:List Int}(h:l.length<=1000000):∃v,qV b l=some v:=by
 unfold qV;refine fL (G:=λo=> ∃v,o=some v) l.length (λs:Int×Int=>s.2) (λi t=>True) (λv:Int=>True) ?_ ?_ 0 (b,(0:Int)) (by omega) rfl trivial (λv hv=>⟨v,rfl⟩)
 .rintro i ⟨v,_⟩ hi rfl _
  right;refine⟨(aIa v l[i],((i+1:Nat):Int)),?_,rfl,trivial⟩;simp only[zX (show (i:Int)<(l.length:Int) by omega),zZ,aF,cCe hi,aA,aQv,bK (show i<=1000000000 by omega)]
 .rintro⟨v,_⟩ rfl _
  exact⟨v,by simp only[zW (cC0 _),zY],trivial⟩
theorem aPr{s:den tSg}(i:Int)(h:s.2.2.length<=1000000):∃v,gU s i=some v:=by
 unfold gU pj3;rw[eZ,aA];cases hc:inR i 0 (s.2.2.length:Int) with
 | false=>exact⟨0,rfl⟩
 | true=>
  obtain⟨h0,h1⟩:=cE.1 hc;obtain⟨n,rfl⟩:=cC5 h0;obtain⟨l,e,k⟩:=bKp (s:=s) (n:=n) (by omega) h;obtain⟨v,e2⟩:=bIa (b:=s.2.1) (l:=l) (by omega);refine⟨v,?_⟩;show Option.bind (pT s (n:Int)) _=_;rw[e,aA,e2,aA]
theorem aZl(key ts b:Int)(h:den bP):fB key ts b h=some (h.1,h.2.1,h.2.2.1,h.2.2.2.1,aIh key ts b h):=by
 unfold fB pj5;rw[show ((h.1,h.2.1,h.2.2.1,h.2.2.2.1,h.2.2.2.2):den bP)=h from rfl,bJy,aA]
def cBt(code:List Int)(o:Option (Int×Int×bQ×List Int×q30)):Prop:= ∃a b hs c' p' h',o=some (a,b,hs,c',p',h')/\hs.length<=5/\Cur code (c',p',h')
def aH7(hs:bQ):Prop:= ∀x∈hs,(0:Int)<=x.1/\(8:Int)>x.1
def cB6(code:List Int)(o:Option (Int×Int×bQ×List Int×q30)):Prop:= ∃a b hs c' p' h',o=some (a,b,hs,c',p',h')/\(hs.length<=5/\aH7 hs)/\Cur code (c',p',h')
theorem aH7.snoc{hs:bQ}{x:den bP}(h:aH7 hs)(hx:(0:Int)<=x.1/\(8:Int)>x.1):aH7 (hs++[x]):=λy hy=>(cCo.1 hy).elim (h y) λhy=>by rw[cCn.1 hy];exact hx
def InN(n:Int)(hs:bQ):Prop:= ∀x∈hs,(0:Int)<=x.1/\n>x.1
def bNt(n:Int)(code:List Int)(o:Option (Int×Int×bQ×List Int×q30)):Prop:= ∃a b hs c' p' h',o=some (a,b,hs,c',p',h')/\(hs.length<=5/\InN n hs)/\Cur code (c',p',h')
theorem InN.snoc{n:Int}{hs:bQ}{x:den bP}(h:InN n hs)(hx:(0:Int)<=x.1/\n>x.1):InN n (hs++[x]):=λy hy=>(cCo.1 hy).elim (h y) λhy=>by rw[cCn.1 hy];exact hx
theorem InN.as{n:Int}{hs:bQ}(h:InN n hs)(hn:n<=8):aH7 hs:=λx hx=>⟨(h x hx).1,by have :=(h x hx).2;omega⟩
abbrev GrS:=Int×Int×Int×Int×Int×bQ×List Int×Int×Int
theorem bCu{code:List Int}(hl:code.length<=1048576){as:lAS}{ls:lLk}(ht:zQ as ls)(k:Int){c:List Int}{p h:Int}(hc:Cur code (c,p,h)):bNt (as.length:Int) code (fZ (c,p,h) (as,ls) k):=by
 have hlen:=ht.len;have hlk:=ht.links;unfold fZ dd ixb one pj2 pj3 pj5 pj6 zz4 zz5 zz6;simp only[aT,bI,aX,aY,aZ];refine fL (G:=bNt (as.length:Int) code) as.length (λs:Int×List Int=>s.1) (λi t=>t.2.length<=i/\ ∀x∈t.2,0<=x/\x<(as.length:Int)) (λr:List Int=>r.length<=8/\ ∀x∈r,0<=x/\x<(as.length:Int)) ?_ ?_ 0 ((0:Int),[]) (by omega) rfl ⟨by simp,λd hd=>(cC2 hd).elim⟩ ?_
 .rintro i ⟨_,l⟩ hi rfl ⟨g1,g2⟩
  simp only at g1 g2;right;simp only[zX (show (i:Int)<(as.length:Int) by omega),zZ,aF,cCe hi,aA,aE (b:=8) (n:=l.length) (m:=1) (by decide) (by omega),bK (show i<=1000000000 by omega)];cases as[i].2.1 with
  | true=>exact⟨_,rfl,rfl,by simp;omega,λx hx=>by
    rcases cCo.1 hx with hx | hx
    .exact g2 x hx
    .rw[cCn.1 hx];omega⟩
  | false=>exact⟨_,rfl,rfl,by show l.length<=i+1;omega,g2⟩
 .rintro⟨_,l⟩ rfl ⟨g1,g2⟩
  exact⟨l,by simp only[zW (cC0 _),zY],by simp only at g1;omega,g2⟩
 rintro cores ⟨g1,g2⟩
 obtain⟨v1,c1,p1,h1,e1,r1,k1⟩:=aH hl (n:=50) (by decide) (by decide) hc;obtain⟨v2,c2,p2,h2,e2,r2,k2⟩:=aHw hl (n:=1000000) (by decide) k1;simp only[e1,e2,aA]
 by_cases h0:cores.length=0
 .rw[show ((cores.length:Int)==0)=true by rw[beq_iff_eq];omega,zZ];exact⟨_,_,_,_,_,_,rfl,⟨by simp,λx hx=>(cC2 hx).elim⟩,k2⟩
 rw[show ((cores.length:Int)==0)=false by rw[beq_eq_false_iff_ne];omega,zY];obtain⟨v3,c3,p3,h3,e3,r3,k3⟩:=aH hl (n:=(cores.length:Int)) (by omega) (by omega) k2;obtain⟨m3,rfl⟩:=cC5 r3.1;have hm3:m3<cores.length:=by omega
 have hr:=g2 cores[m3] (cC9 hm3);simp only[e3,aA,zX (show (0:Int)<=(m3:Int) by omega),zX (show (m3:Int)<(cores.length:Int) by omega),zZ,cCm,cCe hm3];generalize cores[m3]=r at hr;refine fL (G:=bNt (as.length:Int) code) 5 (λs:GrS=>s.2.2.1) (λi s=>(0<=s.1/\s.1<(as.length:Int))/\(s.2.2.2.2.2.1.length=i/\InN (as.length:Int) s.2.2.2.2.2.1)/\Cur code s.2.2.2.2.2.2) (λz:((Int×Int×bQ×List Int×q30)⊕(Int×Int×bQ×List Int×q30))=> ∃a b hs c p h,(z= .inl (a,b,hs,c,p,h)\/z= .inr (a,b,hs,c,p,h))/\(hs.length<=5/\InN (as.length:Int) hs)/\Cur code (c,p,h)) ?_ ?_ 0 (r,(0:Int),(0:Int),v1,v2,[],c3,p3,h3) (by omega) rfl ⟨hr,⟨rfl,λx hx=>(cC2 hx).elim⟩,k3⟩ ?_
 .rintro i ⟨r,inn,_,ts,be,hs,c4,p4,h4⟩ hi rfl ⟨b1,⟨b2,b2'⟩,b3⟩
  simp only at b1 b2 b2' b3;obtain⟨rn,rfl⟩:=cC5 b1.1;have hrn:rn<as.length:=by omega
  obtain⟨ds,ek,dl,dm⟩:=bIr (t:=(as,ls)) (r:=(rn:Int)) (k:=k) (by show ls.length<=_;omega);have dl:ds.length<=2 * ls.length:=dl;have hout:∃out c5 p5 h5,(Option.bind (cond (decide ((ds.length:Int)>(0:Int))) (Option.bind (bS (c4,p4,h4) (5:Int)) λy35=>some (!y35.1,y35.2.1,y35.2.2.1,y35.2.2.2)) (some (false,c4,p4,h4))) λ(s36:Bool×List Int×q30)=>cond s36.1 (Option.bind (aB (s36.2.1,s36.2.2.1,s36.2.2.2) (ds.length:Int)) λy37=>cond (decide ((0:Int)<=y37.1)) (cond (decide (y37.1<(ds.length:Int))) (Option.bind ds[y37.1.toNat]? λx38=>some (x38,y37.2.1,y37.2.2.1,y37.2.2.2)) none) none) (some ((0:Int),s36.2.1,s36.2.2.1,s36.2.2.2)):Option (Int×List Int×q30))=some (out,c5,p5,h5)/\(out=0\/out∈iB (as,ls) (rn:Int))/\Cur code (c5,p5,h5):=by
   by_cases hd:(ds.length:Int)>0
   .obtain⟨v5,c5,p5,h5,e5,k5⟩:=jX hl (n:=5) (by decide) (by decide) b3;simp only[zX hd,zZ,e5,aA];cases v5 with
    | true=>exact⟨0,c5,p5,h5,rfl,.inl rfl,k5⟩
    | false=>
     obtain⟨v6,c6,p6,h6,e6,r6,k6⟩:=aH hl (n:=(ds.length:Int)) hd (by omega) k5;obtain⟨m6,rfl⟩:=cC5 r6.1;have hm6:m6<ds.length:=by omega
     exact⟨ds[m6],c6,p6,h6,by simp only[cCh,zZ,e6,aA,zX (show (0:Int)<=(m6:Int) by omega),zX (show (m6:Int)<(ds.length:Int) by omega),cCm,cCe hm6],.inr (dm _ (cC9 hm6)),k6⟩
   .exact⟨0,c4,p4,h4,by simp only[zW hd,zY,aA],.inl rfl,b3⟩
  obtain⟨out,c5,p5,h5,eo,ho,k5⟩:=hout;obtain⟨al,ea,hal⟩:=bAb (s:=(ts,be,hs)) (by show hs.length<=_;omega);have hal:al.length=hs.length:=hal;have er:=aGf (t:=(as,ls)) (r:=(rn:Int)) (d:=out) (show ls.length<=68719476736 by omega);have hfar:out∈iB (as,ls) (rn:Int)->0<=(remote (as,ls) (rn:Int) out).1/\(remote (as,ls) (rn:Int) out).1<(as.length:Int):=λhd=>by
   have :=bLm (t:=(as,ls)) ht.val hd;unfold cD at this;obtain⟨h0,h1⟩:=cE.1 this;exact⟨h0,by simp only at h1;omega⟩
  generalize remote (as,ls) (rn:Int) out=fd at er hfar;obtain⟨far,door⟩:=fd;simp only at hfar;obtain⟨bb,eb⟩:∃b:Bool,(cond (out != (0:Int)) (Option.bind (dL (ts,be,hs)) λy41=>Option.bind (fJ y41 far) λy42=>cond y42 (some true) (cond (far==(rn:Int)) (some true) (some (inn==out)))) (some (inn==out)))=some b:=by
   rw[ea,aA,aGa (by omega),aA];cases out != 0<;>cases xB al far<;>cases far==(rn:Int)<;>exact⟨_,rfl⟩
  obtain⟨v6,c6,p6,h6,e6,r6,k6⟩:=aH hl (n:=50) (by decide) (by decide) k5;obtain⟨bt,et⟩:=aPr (s:=(ts,be,hs)) (hs.length:Int) (by show hs.length<=_;omega);have ix:as[rn]? =some as[rn]:=cCe hrn;have hap:aG 40 hs.length 1=true:=aE (by decide) (by omega);simp only[zX (show (i:Int)<5 by omega),zZ,ek,aA];rw[eo,aA];simp only[er,aA];rw[eb,aA];have body:∀o:Int,o=0\/o=out->(∃r,(cond (o==(0:Int)) (some (cCa (cCa (ts,be,hs++[(((rn:Int),inn,o,wr ((wr (ts+(50:Int)))+v6),aIh as[rn].2.2 ts bt ((rn:Int),inn,o,wr ((wr (ts+(50:Int)))+v6),0)):den bP)],c6,p6,h6)))) (some (cCb (far,door,wr ((i:Int)+(1:Int)),ts,be,hs++[(((rn:Int),inn,o,wr ((wr (ts+(50:Int)))+v6),aIh as[rn].2.2 ts bt ((rn:Int),inn,o,wr ((wr (ts+(50:Int)))+v6),0)):den bP)],c6,p6,h6))):Option (GrS⊕((Int×Int×bQ×List Int×q30)⊕(Int×Int×bQ×List Int×q30))))=some (.inr r)/\(∃a b hs c p h,(r= .inl (a,b,hs,c,p,h)\/r= .inr (a,b,hs,c,p,h))/\(hs.length<=5/\InN (as.length:Int) hs)/\Cur code (c,p,h)))\/
    ∃s':GrS,(cond (o==(0:Int)) (some (cCa (cCa (ts,be,hs++[(((rn:Int),inn,o,wr ((wr (ts+(50:Int)))+v6),aIh as[rn].2.2 ts bt ((rn:Int),inn,o,wr ((wr (ts+(50:Int)))+v6),0)):den bP)],c6,p6,h6)))) (some (cCb (far,door,wr ((i:Int)+(1:Int)),ts,be,hs++[(((rn:Int),inn,o,wr ((wr (ts+(50:Int)))+v6),aIh as[rn].2.2 ts bt ((rn:Int),inn,o,wr ((wr (ts+(50:Int)))+v6),0)):den bP)],c6,p6,h6))):Option (GrS⊕((Int×Int×bQ×List Int×q30)⊕(Int×Int×bQ×List Int×q30))))=some (.inl s')/\s'.2.2.1=((i+1:Nat):Int)/\(0<=s'.1/\s'.1<(as.length:Int))/\(s'.2.2.2.2.2.1.length=i+1/\InN (as.length:Int) s'.2.2.2.2.2.1)/\Cur code s'.2.2.2.2.2.2:=by
   intro o hoo;cases hz:(o==(0:Int)) with
   | true=>exact .inl ⟨_,rfl,ts,be,_,c6,p6,h6,.inr rfl,⟨by simp;omega,b2'.snoc ⟨by simp only;omega,by simp only;omega⟩⟩,k6⟩
   | false=>
    refine .inr ⟨_,rfl,bK (show i<=1000000000 by omega),?_,⟨by simp[b2],b2'.snoc ⟨by simp only;omega,by simp only;omega⟩⟩,k6⟩;have hne:o≠0:=by simpa using hz
    rcases hoo with h | rfl
    .exact absurd h hne
    .rcases ho with h | h
     .exact absurd h hne
     .exact hfar h
  cases bb with
  | true=>
   cases inn==(0:Int) with
   | true=>exact .inl ⟨_,rfl,ts,be,hs,c5,p5,h5,.inr rfl,⟨by omega,b2'⟩,k5⟩
   | false=>
    have :=body 0 (.inl rfl);simpa only [zZ,zY,aA,cCp,e6,aF,ix,et,aZl,hap] using this
  | false=>
   have :=body out (.inr rfl);simpa only [zZ,zY,aA,cCp,e6,aF,ix,et,aZl,hap] using this
 .rintro⟨r,inn,_,ts,be,hs,c4,p4,h4⟩ rfl ⟨b1,⟨b2,b2'⟩,b3⟩
  simp only at b1 b2 b2' b3;exact⟨.inl (ts,be,hs,c4,p4,h4),by simp only[show decide ((((5:Nat):Int))<(5:Int))=false from rfl,zY],ts,be,hs,c4,p4,h4,.inl rfl,⟨by omega,b2'⟩,b3⟩
 .rintro z ⟨a,b,hs,c,p,h,hz,h5,k5⟩
  rcases hz with rfl | rfl
  .exact⟨a,b,hs,c,p,h,rfl,h5,k5⟩
  .exact⟨a,b,hs,c,p,h,rfl,h5,k5⟩
theorem bBn{code:List Int}(hl:code.length<=1048576){as:lAS}{ls:lLk}(ht:zQ as ls)(k:Int){c:List Int}{p h:Int}(hc:Cur code (c,p,h)):cB6 code (fZ (c,p,h) (as,ls) k):=by
 obtain⟨a,b,hs,c1,p1,h1,e,⟨l,m⟩,k1⟩:=bCu hl ht k hc;exact⟨a,b,hs,c1,p1,h1,e,⟨l,m.as (by have :=ht.len;omega)⟩,k1⟩
theorem aGd{code:List Int}(hl:code.length<=1048576){as:lAS}{ls:lLk}(ht:zQ as ls)(k:Int){c:List Int}{p h:Int}(hc:Cur code (c,p,h)):cBt code (fZ (c,p,h) (as,ls) k):=by
 obtain⟨a,b,hs,c1,p1,h1,e,⟨l,_⟩,k1⟩:=bBn hl ht k hc;exact⟨a,b,hs,c1,p1,h1,e,l,k1⟩
theorem bB6{as:lAS}{ls:lLk}(ht:zQ as ls){s:den tSg}(h:s.2.2.length<=1000):∃b,jF (as,ls) s=some b/\(b=true-> ∃x,s.2.2[0]? =some x/\cD (as,ls) x.1=true):=by
 obtain⟨al,ea,hal⟩:=bAb (s:=s) (by omega);have hlen:=ht.len;have hlk:=ht.links;unfold jF pj2 pj3 pj5;rw[eZ,aA];cases hc:inR (s.2.2.length:Int) 1 8 with
 | false=>exact⟨false,rfl,λe=>by cases e⟩
 | true=>
  obtain⟨h0,h1⟩:=cE.1 hc;have h00:0<s.2.2.length:=by omega
  have i0:idx s.2.2 (0:Int)=some s.2.2[0]:=by rw[show (0:Int)=((0:Nat):Int) from rfl,aF,cCe h00]
  simp only[cCd,zY,i0,aA];cases s.2.2[0].2.1 != (0:Int) with
  | true=>exact⟨false,rfl,λe=>by cases e⟩
  | false=>
   simp only[zY];rw[show ((s.1,s.2.1,s.2.2):den tSg)=s from rfl,ea,aA];refine fL (G:=λo=> ∃b,o=some b/\(b=true-> ∃x,s.2.2[0]? =some x/\cD (as,ls) x.1=true)) s.2.2.length (λs:List Int×Int=>s.2) (λi t=>t.1=al/\(0<i->cD (as,ls) s.2.2[0].1=true)) (λr:Unit⊕Bool=>r= .inl ()/\cD (as,ls) s.2.2[0].1=true\/r= .inr false) ?_ ?_ 0 (al,(0:Int)) (by omega) rfl ⟨rfl,λh=>by omega⟩ ?_
   .rintro i ⟨_,_⟩ hi rfl ⟨rfl,g2⟩
    rename_i al;have ix:idx s.2.2 (i:Int)=some s.2.2[i]:=by rw[aF,cCe hi]
    simp only[zX (show (i:Int)<(s.2.2.length:Int) by omega),zZ,ix,aA];rw[show ((s.2.2[i].1,s.2.2[i].2.1,s.2.2[i].2.2.1,s.2.2[i].2.2.2.1,s.2.2[i].2.2.2.2):den bP)=s.2.2[i] from rfl,aJm,aA,aBy (t:=(as,ls)) (show as.length<=_ by omega),aA];have e1:bY (0:Int) (i:Int) (al.length:Int)=true:=yF (by rw[hal];exact hi);have e2:fJ (cut al (0:Int) (i:Int)) s.2.2[i].1=some (xB (cut al (0:Int) (i:Int)) s.2.2[i].1):=aGa (by rw[hO];exact cCc (List.length_take_le _ _) (by omega));obtain⟨b,eb,hb⟩:∃b:Bool,(cond (!(oG s.2.2[i])) (some true) (cond (!(cD (as,ls) s.2.2[i].1)) (some true) (cond (bY (0:Int) (i:Int) (al.length:Int)) (Option.bind (fJ (cut al (0:Int) (i:Int)) s.2.2[i].1) λy20=>cond y20 (some true) (cond (s.2.2[i].2.2.1==(0:Int)) (some (decide ((i:Int)<(wr ((s.2.2.length:Int) - (1:Int)))))) (some false))) none)))=some b/\(b=false->cD (as,ls) s.2.2[i].1=true):=by
     rw[e1,e2,aA];cases oG s.2.2[i]
     .exact⟨true,rfl,λe=>by cases e⟩
     .cases cD (as,ls) s.2.2[i].1
      .exact⟨true,rfl,λe=>by cases e⟩
      .cases xB (cut al (0:Int) (i:Int)) s.2.2[i].1
       .cases s.2.2[i].2.2.1==(0:Int)
        .exact⟨false,rfl,λ_=>rfl⟩
        .exact⟨_,rfl,λ_=>rfl⟩
       .exact⟨true,rfl,λ_=>rfl⟩
    rw[eb,aA];cases b with
    | true=>exact .inl ⟨.inr false,rfl,.inr rfl⟩
    | false=>
     have hok:=hb rfl
     by_cases hp:i=0
     .subst hp;refine .inr ⟨(al,((1:Nat):Int)),?_,rfl,rfl,λ_=>hok⟩;rfl
     .have hi1:i - 1<s.2.2.length:=by omega
      have w1:wr ((i:Int) - 1)=((i - 1:Nat):Int):=by rw[bD (by omega) (by omega)];omega
      have er:=aGf (t:=(as,ls)) (r:=s.2.2[i - 1].1) (d:=s.2.2[i - 1].2.2.1) (show ls.length<=68719476736 by omega);simp only[zY,zX (show (i:Int)>0 by omega),zZ,w1,aF,cCe hi1,aA,er];obtain⟨b2,eb2⟩:∃b:Bool,(cond ((remote (as,ls) s.2.2[i - 1].1 s.2.2[i - 1].2.2.1).1 != s.2.2[i].1) (some true) (some ((remote (as,ls) s.2.2[i - 1].1 s.2.2[i - 1].2.2.1).2 != s.2.2[i].2.1)))=some b:=by
       cases (remote (as,ls) s.2.2[i - 1].1 s.2.2[i - 1].2.2.1).1 != s.2.2[i].1<;>exact⟨_,rfl⟩
      rw[eb2,aA];cases b2 with
      | true=>exact .inl ⟨.inr false,rfl,.inr rfl⟩
      | false=>
       refine .inr ⟨(al,((i+1:Nat):Int)),?_,rfl,rfl,λ_=>g2 (by omega)⟩;simp only[zY,aA,cCp,bK (show i<=1000000000 by omega)]
   .rintro⟨_,_⟩ rfl ⟨rfl,g2⟩
    exact⟨.inl (),by simp only[zW (cC0 _),zY],.inl ⟨rfl,g2 h00⟩⟩
   .rintro r (⟨rfl,hr⟩ | rfl)
    .exact⟨true,rfl,λ_=>⟨s.2.2[0],cCe h00,hr⟩⟩
    .exact⟨false,rfl,λe=>by cases e⟩
theorem bUi{as:lAS}{ls:lLk}(ht:zQ as ls){s:den tSg}(h:s.2.2.length<=1000):∃v,gO (as,ls) s=some v:=by
 have hlen:=ht.len;unfold gO pj2 pj3 pj5;refine fL (G:=λo=> ∃b,o=some b) s.2.2.length (λs:Int=>s) (λi t=>True) (λr:Unit⊕Int=>True) ?_ ?_ 0 (0:Int) (by omega) rfl trivial ?_
 .rintro i _ hi rfl _
  obtain⟨bt,et⟩:=aPr (s:=s) (i:Int) (by omega);have et:gU (s.1,s.2.1,s.2.2) (i:Int)=some bt:=et;have ev:=aZ6 (t:=(as,ls)) (ts:=s.1) (beta:=bt) (h:=s.2.2[i]) (show as.length<=68719476736 by omega);have ev:gE (as,ls) s.1 bt (s.2.2[i].1,s.2.2[i].2.1,s.2.2[i].2.2.1,s.2.2[i].2.2.2.1,s.2.2[i].2.2.2.2)=some _:=ev;simp only[zX (show (i:Int)<(s.2.2.length:Int) by omega),zZ,aF,cCe hi,aA,et,ev,bK (show i<=1000000000 by omega)];cases xQ (as,ls) s.1 bt s.2.2[i] with
  | true=>exact .inr ⟨_,rfl,rfl,trivial⟩
  | false=>exact .inl ⟨_,rfl,trivial⟩
 .rintro _ rfl _
  exact⟨.inl (),by simp only[zW (cC0 _),zY],trivial⟩
 .rintro r _
  cases r with
  | inl u=>exact⟨_,rfl⟩
  | inr v=>exact⟨_,rfl⟩
theorem aUh{as:lAS}{ls:lLk}(ht:zQ as ls){s:den tSg}(h:s.2.2.length<=1000):∃v,fM (as,ls) s=some v:=by
 have hlen:=ht.len;have hlk:=ht.links;obtain⟨b,eb,hb⟩:=bB6 ht h;unfold fM pj2 pj3;have eb:jF (as,ls) (s.1,s.2.1,s.2.2)=some b:=eb;rw[eb,aA];cases b with
 | false=>exact⟨0,rfl⟩
 | true=>
  obtain⟨x,hx,hok⟩:=hb rfl;obtain⟨h0,rfl⟩:=cCq.1 hx;obtain⟨y,hy,iy⟩:=aEn hok;have ef:dE (s.1,s.2.1,s.2.2)=some s.2.2[0].1:=by
   unfold dE;rw[show ((s.2.2.length:Int)==0)=false by rw[beq_eq_false_iff_ne];omega,zY,show (0:Int)=((0:Nat):Int) from rfl,aF,cCe h0,aA]
  have iy:idx as s.2.2[0].1=some y:=iy;simp only[cCd,zY,ef,iy,aA];cases y.2.1 with
  | false=>exact⟨0,rfl⟩
  | true=>
   simp only[cCd,zY];refine fL (G:=λo=> ∃b,o=some b) s.2.2.length (λs:Int×Int=>s.2) (λi t=>True) (λr:Int⊕Int=>True) ?_ ?_ 0 ((0:Int),(0:Int)) (by omega) rfl trivial ?_
   .rintro i ⟨k,_⟩ hi rfl _
    have ek:=aT4 (t:=(as,ls)) (r:=s.2.2[i].1) (d:=s.2.2[i].2.2.1) (show ls.length<=68719476736 by omega);simp only[zX (show (i:Int)<(s.2.2.length:Int) by omega),zZ,aF,cCe hi,aA,ek,bK (show i<=1000000000 by omega)];cases s.2.2[i].2.2.1==(0:Int) with
    | true=>exact .inr ⟨_,rfl,rfl,trivial⟩
    | false=>
     cases k != (0:Int) with
     | false=>exact .inr ⟨_,rfl,rfl,trivial⟩
     | true=>
      simp only[zZ,zY,aA];cases aG2 (as,ls) s.2.2[i].1 s.2.2[i].2.2.1 != k with
      | true=>exact .inl ⟨_,rfl,trivial⟩
      | false=>exact .inr ⟨_,rfl,rfl,trivial⟩
   .rintro⟨k,_⟩ rfl _
    exact⟨.inl k,by simp only[zW (cC0 _),zY],trivial⟩
   .rintro r _
    cases r with
    | inr v=>exact⟨_,rfl⟩
    | inl v=>
     simp only[cCp];cases v==(1:Int)
     .cases v==(2:Int)<;>exact⟨_,rfl⟩
     .exact⟨_,rfl⟩
theorem bEg{as:lAS}{ls:lLk}(ht:zQ as ls){s:den tSg}(h:s.2.2.length<=1000):∃b,jN (as,ls) s=some b/\(b=true->s.2.2≠[]):=by
 obtain⟨b,eb,hb⟩:=bB6 ht h;have hb:b=true->s.2.2≠[]:=λe he=>by
  obtain⟨x,hx,_⟩:=hb e;rw[he]at hx;cases hx
 obtain⟨v,ev⟩:=bUi ht h;obtain⟨k,ek⟩:=aUh ht h;have eb:jF (as,ls) (s.1,s.2.1,s.2.2)=some b:=eb;have ev:gO (as,ls) (s.1,s.2.1,s.2.2)=some v:=ev;have ek:fM (as,ls) (s.1,s.2.1,s.2.2)=some k:=ek;unfold jN pj2 pj3;simp only[eb,ev,ek,eZ,aD1,aA];cases b
 .exact⟨_,rfl,λe=>Bool.noConfusion e⟩
 .have hb:=hb rfl;cases decide (v<0)
  .exact⟨_,rfl,λ_=>hb⟩
  .cases k != (0:Int)
   .exact⟨_,rfl,λ_=>hb⟩
   .cases inR s.1 0 1000000<;>exact⟨_,rfl,λ_=>hb⟩
theorem bQv{s:den tSg}(h:s.2.2.length<=1000):∃b,jH s=some b:=by
 unfold jH
 by_cases h0:(s.2.2.length:Int)>0
 .have w1:wr ((s.2.2.length:Int) - 1)=((s.2.2.length - 1:Nat):Int):=by rw[bD (by omega) (by omega)];omega
  rw[zX h0,zZ,w1,aF,cCe (by omega),aA,aA];exact⟨_,rfl⟩
 .rw[zW h0,zY];exact⟨_,rfl⟩
theorem bHw{a b:bQ}(h:a.length<=1000000):∃v,jE a b=some v:=by
 unfold jE zz4
 by_cases hn:a.length=b.length
 .rw[hn,bne_self_eq_false,zY,<- hn];refine fL (G:=λo=> ∃b,o=some b) a.length (λs:Int=>s) (λi t=>True) (λr:Unit⊕Bool=>True) ?_ ?_ 0 (0:Int) (by omega) rfl trivial ?_
  .rintro i _ hi rfl _
   have h2:i<b.length:=by omega
   simp only[zX (show (i:Int)<(a.length:Int) by omega),zZ,aF,cCe hi,cCe h2,aA,bK (show i<=1000000000 by omega)];cases ((a[i].1==b[i].1)&&((a[i].2.1==b[i].2.1)&&((a[i].2.2.1==b[i].2.2.1)&&((a[i].2.2.2.1==b[i].2.2.2.1)&&((a[i].2.2.2.2==b[i].2.2.2.2)&&true))))) with
   | true=>exact .inr ⟨_,rfl,rfl,trivial⟩
   | false=>exact .inl ⟨_,rfl,trivial⟩
  .rintro _ rfl _
   exact⟨.inl (),by simp only[zW (cC0 _),zY],trivial⟩
  .rintro r _
   cases r with
   | inl u=>exact⟨_,rfl⟩
   | inr v=>exact⟨_,rfl⟩
 .rw[show ((a.length:Int) != (b.length:Int))=true by rw[bne_iff_ne];omega,zZ];exact⟨_,rfl⟩
theorem bIf{a b:den tSg}(h:a.2.2.length<=1000000):∃v,kA a b=some v:=by
 obtain⟨v,e⟩:=bHw (b:=b.2.2) h;unfold kA;rw[e,aA];cases a.1==b.1
 .exact⟨_,rfl⟩
 .cases a.2.1==b.2.1<;>exact⟨_,rfl⟩
theorem aY8{l:lSg}{s:den tSg}(hl:l.length<=1000000)(h:∀x∈l,x.2.2.length<=1000):∃v,uO l s=some v:=by
 unfold uO pj3;refine fL (G:=λo=> ∃b,o=some b) l.length (λs:Int=>s) (λi t=>True) (λr:Unit⊕Bool=>True) ?_ ?_ 0 (0:Int) (by omega) rfl trivial ?_
 .rintro i _ hi rfl _
  obtain⟨v,e⟩:=bIf (a:=l[i]) (b:=s) (by have :=h l[i] (cC9 hi);omega);have e:kA (l[i].1,l[i].2.1,l[i].2.2) (s.1,s.2.1,s.2.2)=some v:=e;simp only[zX (show (i:Int)<(l.length:Int) by omega),zZ,aF,cCe hi,aA,e,bK (show i<=1000000000 by omega)];cases v with
  | false=>exact .inr ⟨_,rfl,rfl,trivial⟩
  | true=>exact .inl ⟨_,rfl,trivial⟩
 .rintro _ rfl _
  exact⟨.inl (),by simp only[zW (cC0 _),zY],trivial⟩
 .rintro r _
  cases r with
  | inl u=>exact⟨_,rfl⟩
  | inr v=>exact⟨_,rfl⟩
structure DbD (n:Nat) (d c:lSg):Prop where
 down:d.length<=n
 core:c.length<=n
 hd:∀x∈d,x.2.2.length<=5
 hc:∀x∈c,x.2.2.length<=5
 ha:∀x∈d,x.2.2≠[]/\aH7 x.2.2
theorem aF6{l:lSg}{n:Nat}(hn:n<=1000)(h:l.length<=n)(hh:∀x∈l,x.2.2.length<=5):SmB 68719476736 (.sl tSg) l:=by
 refine⟨by omega,λx hx=>⟨trivial,trivial,?_,λe he=>⟨trivial,trivial,trivial,trivial,trivial⟩⟩⟩;have :=hh x hx;show x.2.2.length<=_;omega
def bGi(t:den tTo)(s:den tSg)(k:Int):Prop:=jN t s=some true/\jH s=some true/\fM t s=some k
theorem aU4{as:lAS}{ls:lLk}(ht:zQ as ls){n:Nat}(hn:n<=100){d c:lSg}(hk:DbD n d c){s:den tSg}(h:s.2.2.length<=5)(ha:aH7 s.2.2):∃d' c',gY (as,ls) (d,c) s=some (d',c')/\DbD (n+1) d' c'/\(∀x∈d',x∈d\/(x=s/\bGi (as,ls) s 2))/\(∀x∈c',x∈c\/(x=s/\ ∃k,bGi (as,ls) s k/\k≠2)):=by
 obtain⟨b1,e1,hb1⟩:=bEg ht (s:=s) (by omega);obtain⟨b2,e2⟩:=bQv (s:=s) (by omega);obtain⟨b3,e3⟩:=aY8 (l:=d) (s:=s) (by have :=hk.down;omega) (λx hx=>by have :=hk.hd x hx;omega);obtain⟨b4,e4⟩:=aY8 (l:=c) (s:=s) (by have :=hk.core;omega) (λx hx=>by have :=hk.hc x hx;omega);obtain⟨k,ek⟩:=aUh ht (s:=s) (by omega);have c1:=aDy (aF6 (by omega) hk.down hk.hd);have c2:=aDy (aF6 (by omega) hk.core hk.hc);have c3:=aIp (x:=s) (by omega);have e5:∃b,oR (d,c) s=some b:=by
  unfold oR pj3;have e3:uO d (s.1,s.2.1,s.2.2)=some b3:=e3;have e4:uO c (s.1,s.2.1,s.2.2)=some b4:=e4;simp only[e3,e4,aA];cases b3<;>exact⟨_,rfl⟩
 obtain⟨b5,e5⟩:=e5;have hdn:=hk.down;have hcn:=hk.core;have e1:jN (as,ls) (s.1,s.2.1,s.2.2)=some b1:=e1;have e2:jH (s.1,s.2.1,s.2.2)=some b2:=e2;have e5:oR (d,c) (s.1,s.2.1,s.2.2)=some b5:=e5;have ek:fM (as,ls) (s.1,s.2.1,s.2.2)=some k:=ek;have c3:eG (s.1,s.2.1,s.2.2)=some s:=c3;have same:DbD (n+1) d c:=⟨by omega,by omega,hk.hd,hk.hc,hk.ha⟩
 unfold gY pj2 pj3;simp only[c1,c2,aA,aT,bI,aX,aY,aZ,e1,e2,e5,ek,c3,aE (b:=40) (n:=d.length) (m:=1) (by decide) (by omega),aE (b:=40) (n:=c.length) (m:=1) (by decide) (by omega),zZ];obtain⟨b6,e6,hb6⟩:∃b:Bool,(cond (!b1) (some true) (cond (!b2) (some true) (some b5)))=some b/\(b=false->b1=true/\b2=true):=by
  cases b1
  .exact⟨_,rfl,λe=>Bool.noConfusion e⟩
  .cases b2
   .exact⟨_,rfl,λe=>Bool.noConfusion e⟩
   .exact⟨_,rfl,λ_=>⟨rfl,rfl⟩⟩
 rw[e6,aA];cases b6 with
 | true=>exact⟨d,c,rfl,same,λx hx=> .inl hx,λx hx=> .inl hx⟩
 | false=>
  obtain⟨hb1t,hb2t⟩:=hb6 rfl;have hne:=hb1 hb1t;rw[hb1t]at e1;rw[hb2t]at e2;cases hk2:(k==(2:Int)) with
  | true=>
   have hk2:k=2:=eq_of_beq hk2;rw[hk2]at ek;exact⟨_,_,rfl,⟨by simp;omega,by simp only;omega,λx hx=>(cCo.1 hx).elim (hk.hd x) λhx=>by rw[cCn.1 hx];exact h,hk.hc,λx hx=>(cCo.1 hx).elim (hk.ha x) λhx=>by rw[cCn.1 hx];exact⟨hne,ha⟩⟩,λx hx=>(cCo.1 hx).elim .inl λhx=> .inr ⟨cCn.1 hx,e1,e2,ek⟩,λx hx=> .inl hx⟩
  | false=>
   have hk2:k≠2:=by rw[beq_eq_false_iff_ne]at hk2;exact hk2
   exact⟨_,_,rfl,⟨by simp only;omega,by simp;omega,hk.hd,λx hx=>(cCo.1 hx).elim (hk.hc x) λhx=>by rw[cCn.1 hx];exact h,hk.ha⟩,λx hx=> .inl hx,λx hx=>(cCo.1 hx).elim .inl λhx=> .inr ⟨cCn.1 hx,k,⟨e1,e2,ek⟩,hk2⟩⟩
theorem bQk{as:lAS}{ls:lLk}(ht:zQ as ls){n:Nat}(hn:n<=100){d c:lSg}(hk:DbD n d c){s:den tSg}(h:s.2.2.length<=5)(ha:aH7 s.2.2):∃d' c',gY (as,ls) (d,c) s=some (d',c')/\DbD (n+1) d' c':=by
 obtain⟨d',c',e,k,_⟩:=aU4 ht hn hk h ha;exact⟨d',c',e,k⟩
theorem DbD.mono{n m:Nat}{d c:lSg}(h:DbD n d c)(hm:n<=m):DbD m d c:=⟨cCc h.down hm,cCc h.core hm,h.hd,h.hc,h.ha⟩
theorem bMs{s:den tSg}(h:s.2.2.length<=1000):∃v,eV s=some v:=by
 unfold eV
 by_cases h0:s.2.2.length=0
 .rw[show ((s.2.2.length:Int)==0)=true by rw[beq_iff_eq];omega,zZ];exact⟨_,rfl⟩
 .have w1:wr ((s.2.2.length:Int) - 1)=((s.2.2.length - 1:Nat):Int):=by rw[bD (by omega) (by omega)];omega
  rw[show ((s.2.2.length:Int)==0)=false by rw[beq_eq_false_iff_ne];omega,zY,w1,aF,cCe (by omega),aA];exact⟨_,rfl⟩
theorem bQo{s:den tSg}(h:s.2.2.length<=1000)(h0:s.2.2≠[])(ha:aH7 s.2.2):∃v,eV s=some v/\0<=v/\v<8:=by
 have hl:=List.length_pos_iff.2 h0;unfold eV;have w1:wr ((s.2.2.length:Int) - 1)=((s.2.2.length - 1:Nat):Int):=by rw[bD (by omega) (by omega)];omega
 rw[show ((s.2.2.length:Int)==0)=false by rw[beq_eq_false_iff_ne];omega,zY,w1,aF,cCe (by omega),aA];have :=ha _ (cC9 (show s.2.2.length - 1<s.2.2.length by omega));exact⟨_,rfl,this.1,this.2⟩
theorem aJz{s:den tSg}:∃v,dE s=some v:=by
 unfold dE
 by_cases h0:s.2.2.length=0
 .rw[show ((s.2.2.length:Int)==0)=true by rw[beq_iff_eq];omega,zZ];exact⟨_,rfl⟩
 .rw[show ((s.2.2.length:Int)==0)=false by rw[beq_eq_false_iff_ne];omega,zY,show (0:Int)=((0:Nat):Int) from rfl,aF,cCe (by omega),aA];exact⟨_,rfl⟩
theorem aZh{code:List Int}(hl:code.length<=1048576){d:lSg}(hd:d.length<=200)(h5:∀x∈d,x.2.2.length<=5)(ha:∀x∈d,x.2.2≠[]/\aH7 x.2.2)(k:Int)(hk:0<k/\k<=256)(z:Int)(hz:0<=z/\z<8){c:List Int}{p h:Int}(hc:Cur code (c,p,h)):
  ∃v c' p' h',(Option.bind (cond (decide ((d.length:Int)>(0:Int))) (Option.bind (bS (c,p,h) k) λy3=>some (!y3.1,y3.2.1,y3.2.2.1,y3.2.2.2)) (some (false,c,p,h))) λ(s4:Bool×List Int×q30)=>cond s4.1 (Option.bind (aB (s4.2.1,s4.2.2.1,s4.2.2.2) (d.length:Int)) λy5=>Option.bind (idx d y5.1) λx6=>Option.bind (eV (x6.1,x6.2.1,x6.2.2)) λy7=>some (y7,y5.2.1,y5.2.2.1,y5.2.2.2)) (some (z,s4.2.1,s4.2.2.1,s4.2.2.2)):Option (Int×List Int×q30))=some (v,c',p',h')/\(0<=v/\v<8)/\Cur code (c',p',h'):=by
 by_cases h0:(d.length:Int)>0
 .obtain⟨v1,c1,p1,h1,e1,k1⟩:=jX hl (n:=k) hk.1 hk.2 hc;simp only[zX h0,zZ,e1,aA];cases v1 with
  | true=>exact⟨z,c1,p1,h1,rfl,hz,k1⟩
  | false=>
   obtain⟨v2,c2,p2,h2,e2,r2,k2⟩:=aH hl (n:=(d.length:Int)) h0 (by omega) k1;obtain⟨m2,rfl⟩:=cC5 r2.1;have hm:m2<d.length:=by omega
   obtain⟨v3,e3,r3⟩:=bQo (s:=d[m2]) (by have :=h5 d[m2] (cC9 hm);omega) (ha d[m2] (cC9 hm)).1 (ha d[m2] (cC9 hm)).2;have e3:eV (d[m2].1,d[m2].2.1,d[m2].2.2)=some v3:=e3;exact⟨v3,c2,p2,h2,by simp only[cCh,zZ,e2,aA,aF,cCe hm,e3],r3,k2⟩
 .exact⟨z,c,p,h,by simp only[zW h0,zY,aA],hz,hc⟩
theorem bCa{code:List Int}(hl:code.length<=1048576){n:Nat}(hn:n<=100){d cc:lSg}(hk:DbD n d cc){c:List Int}{p h:Int}(hc:Cur code (c,p,h)):∃a b c' p' h',rQ (c,p,h) (d,cc)=some (a,b,c',p',h')/\((0<=a/\a<8)/\(0<=b/\b<8))/\Cur code (c',p',h'):=by
 have hd:=hk.down;obtain⟨v1,c1,p1,h1,e1,r1,k1⟩:=aH hl (n:=8) (by decide) (by decide) hc;obtain⟨v2,c2,p2,h2,e2,r2,k2⟩:=aH hl (n:=8) (by decide) (by decide) k1;obtain⟨v3,c3,p3,h3,e3,r3,k3⟩:=aZh hl (d:=d) (by omega) hk.hd hk.ha 4 (by decide) v1 r1 k2;obtain⟨v4,c4,p4,h4,e4,r4,k4⟩:=aZh hl (d:=d) (by omega) hk.hd hk.ha 3 (by decide) v2 r2 k3;refine⟨v3,v4,c4,p4,h4,?_,⟨r3,r4⟩,k4⟩;unfold rQ pj3 pj4;simp only[e1,e2,aA,aT,bI,aX,aY,aZ];rw[e3,aA,e4,aA]
theorem aRy{α β:Type}(g:α->List β):∀(l:List α) (k:Nat) (a:List β),bT (λ_ x a=>a++g x) k l a=a++l.flatMap g
 | [],_,a=>(cDl a).symm
 | x::l,k,a=>by
  show bT _ (k+1) l (a++g x)=_;rw[aRy g l (k+1) (a++g x),List.flatMap_cons,cDi]
theorem dR{α β R:Type}(l:List α)(g:α->List β)(out:List β->R)(a0:List β){step:Int×List β->Option ((Int×List β)⊕R)}(hl:l.length<=1000000)(hN:a0.length+(l.map λx=>(g x).length).sum<=1000000)
  (hs:∀(k:Nat) (x:α) (a:List β),idx l (k:Int)=some x->l[k]? =some x->x∈l->decide ((k:Int)<(l.length:Int))=true->wr ((k:Int)+1)=((k+1:Nat):Int)->a.length+(g x).length<=1000000->step ((k:Int),a)=some (.inl (((k+1:Nat):Int),a++g x)))
  (he:∀a,step ((l.length:Int),a)=some (.inr (out a))):aC step ((0:Int),a0)=some (out (a0++l.flatMap g)):=by
 rw[fS (λk (a:List β)=>((k:Int),a)) ((0:Int),a0) a0 l (λ_ x a=>a++g x) cCv (λx=>(g x).length) 1000000 out rfl (by omega) hN (λk x a=>by rw[cC3];exact cCx _) (λk x a h1 h2 h3 h4 h5 h6=>hs k x a h1 h2 (cCt h2) h3 h4 h6) he,aRy]
theorem aGs{α:Type}{f:α->Nat}{c:Nat}:∀{l:List α},(∀x∈l,f x<=c)->(l.map f).sum<=l.length * c
 | [],_=>cCz _
 | x::l,h=>by
  have h1:=h x (by simp);have h2:=aGs (l:=l) λy hy=>h y (cCu _ hy)
  rw[cC1,List.sum_cons,cDe,cDd];omega
theorem aPf{α β:Type}{g:α->List β}{c:Nat}:∀{l:List α},(∀x∈l,(g x).length<=c)->(l.flatMap g).length<=l.length * c
 | [],_=>cCz _
 | x::l,h=>by
  have h1:=h x (by simp);have h2:=aPf (l:=l) λy hy=>h y (cCu _ hy)
  rw[List.flatMap_cons,cC3,cDe,cDd];omega
def bV(s:den tSg):Int:=match s.2.2 with
 | []=> -1
 | h::_=>h.1
def jY(s:den tSg):Int:=if s.2.2.length=0 then -1 else ((s.2.2[s.2.2.length - 1]?).getD h0).1
theorem bMk(s:den tSg):iT s=some (bV s):=by
 unfold iT bV;cases h:s.2.2 with
 | nil=>rfl
 | cons x l=>rfl
theorem bKi(s:den tSg):dE s=some (bV s):=by
 unfold dE bV;cases h:s.2.2 with
 | nil=>rfl
 | cons x l=>rfl
theorem bKl{s:den tSg}(hl:s.2.2.length<=1000000):sL s=some (jY s):=by
 unfold sL jY
 by_cases h:s.2.2.length=0
 .rw[zT h,h];rfl
 .rw[zS h,show ((s.2.2.length:Int)==0)=false by rw[beq_eq_false_iff_ne];omega,zY,aPu (by omega) (by omega),aF,cCe (show s.2.2.length - 1<s.2.2.length by omega)];rfl
theorem bIw{s:den tSg}(hl:s.2.2.length<=1000000):eV s=some (jY s):=by
 unfold eV jY
 by_cases h:s.2.2.length=0
 .rw[zT h,h];rfl
 .rw[zS h,show ((s.2.2.length:Int)==0)=false by rw[beq_eq_false_iff_ne];omega,zY,aPu (by omega) (by omega),aF,cCe (show s.2.2.length - 1<s.2.2.length by omega)];rfl
def aW9(b:Int)(l:List Int):Int:=l.foldl aIa b
def aMf(l:bQ):List Int:=l.map λh=>h.2.2.2.2
theorem bW2{l:bQ}(hl:l.length<=1000000):aA1 l=some (aMf l):=by
 unfold aA1 zz4;rw[fS (λk (a:List Int)=>((k:Int),a)) ((0:Int),[]) [] l (λ_ x a=>a++[x.2.2.2.2]) cCv (λ_=>1) 1000000 id rfl (by omega) (by rw[dP];simpa using hl) (λk x a=>by simp) (λk x a hi hx hd hw hk hb=>by
  simp only[hd,hi,hw,zZ,aA,aE (b:=8) (n:=a.length) (m:=1) (by decide) (by omega)]) (λa=>by simp),fP (λh:den bP=>h.2.2.2.2)]
 rfl
theorem bUl{b:Int}{l:List Int}(hl:l.length<=1000000):vG b l=some (aW9 b l):=by
 unfold vG;rw[fS (λk (a:Int)=>(a,(k:Int))) (b,(0:Int)) b l (λ_ x a=>aIa a x) (λ_=>0) (λ_=>0) 1 id rfl (by omega) (by rw[sum_nil];omega) (λk x a=>by omega) (λk x a hi hx hd hw hk hb=>by
  simp only[hd,hi,hw,zZ,aA,bMc]) (λa=>by simp),uD]
 rfl
theorem bT7{b:Int}{l:List Int}(hl:l.length<=1000000):qV b l=some (aW9 b l):=by
 unfold qV;rw[fS (λk (a:Int)=>(a,(k:Int))) (b,(0:Int)) b l (λ_ x a=>aIa a x) (λ_=>0) (λ_=>0) 1 id rfl (by omega) (by rw[sum_nil];omega) (λk x a=>by omega) (λk x a hi hx hd hw hk hb=>by
  simp only[hd,hi,hw,zZ,aA,aQv]) (λa=>by simp),uD]
 rfl
theorem bW8{s:den tSg}{n:Nat}(hn:n<=s.2.2.length)(hl:s.2.2.length<=1000000):pT s (n:Int)=some (aMf (s.2.2.take n)):=by
 have e:(s.2.2.take n).length=n:=by rw[cDf];omega
 unfold pT zz4;rw[fS (λk (a:List Int)=>((k:Int),a)) ((0:Int),[]) [] (s.2.2.take n) (λ_ x a=>a++[x.2.2.2.2]) cCv (λ_=>1) 1000000 id rfl (by omega) (by rw[dP];simp;omega) (λk x a=>by simp) (λk x a hi hx hd hw hk hb=>by
  have hx:=(aKd hx).1;rw[e]at hd;simp only[hd,aF,hx,hw,zZ,aA,aE (b:=8) (n:=a.length) (m:=1) (by decide) (by omega)]) (λa=>by rw[e];simp),fP (λh:den bP=>h.2.2.2.2)]
 rfl
def aBj(s:den tSg)(i:Int):Int:=if inR i 0 (s.2.2.length:Int) then aW9 s.2.1 (aMf (s.2.2.take i.toNat)) else 0
theorem bCw{s:den tSg}{i:Int}(hl:s.2.2.length<=1000000):sJ s i=some (aBj s i):=by
 unfold sJ aBj;simp only[rE,aA];cases h:inR i 0 (s.2.2.length:Int) with
 | false=>rfl
 | true=>
  obtain⟨g0,g1⟩:=cE.1 h;obtain⟨n,rfl⟩:=cC5 g0;have e:(s.2.2.take n).length<=1000000:=by rw[cDf];omega
  have e2:(aMf (s.2.2.take n)).length<=1000000:=by unfold aMf;rw[cDb];exact e
  have e3:bY (0:Int) (n:Int) (s.2.2.length:Int)=true:=aIq (by omega);simp only[cCd,zY,e3,zZ,hO,bW2 e,aA,bUl e2,zV,cCm]
theorem bCp{s:den tSg}{i:Int}(hl:s.2.2.length<=1000000):gU s i=some (aBj s i):=by
 unfold gU aBj pj3;simp only[eZ,aA];cases h:inR i 0 (s.2.2.length:Int) with
 | false=>rfl
 | true=>
  obtain⟨g0,g1⟩:=cE.1 h;obtain⟨n,rfl⟩:=cC5 g0;have e2:(aMf (s.2.2.take n)).length<=1000000:=by unfold aMf;rw[cDb,cDf];omega
  have e3:pT (s.1,s.2.1,s.2.2) (n:Int)=some (aMf (s.2.2.take n)):=bW8 (s:=s) (by omega) hl;simp only[cCd,zY,e3,aA,bT7 e2,zV,cCm]
def iF(s:den tSg)(k i:Int):den tPp:=
 if inR i 0 ((s.2.2.length:Int) - 1)&&inR k 1 4 then
  (if kJ k then (k,s.1,aBj s (s.2.2.length:Int),(s.2.2.drop i.toNat).reverse) else (k,s.1,aBj s i,s.2.2.drop i.toNat))
 else (0,0,0,[])
theorem aF8(s:den tSg)(k i:Int):(iF s k i).2.2.2.length<=s.2.2.length:=by
 unfold iF;split
 .split
  .show (s.2.2.drop i.toNat).reverse.length<=_;rw[List.length_reverse,cD6];omega
  .show (s.2.2.drop i.toNat).length<=_;rw[cD6];omega
 .exact cCz _
theorem aLp{s:den tSg}{k i:Int}(hl:s.2.2.length<=1000000):eI s k i=some (iF s k i):=by
 unfold eI iF pj3 pj4;simp only[rE,aA,aT,bI,aX,aY,aZ,bD (n:=(s.2.2.length:Int) - 1) (by omega) (by omega)];cases c1:inR i 0 ((s.2.2.length:Int) - 1) with
 | false=>rfl
 | true=>
  cases c2:inR k 1 4 with
  | false=>rfl
  | true=>
   obtain⟨g0,g1⟩:=cE.1 c1;obtain⟨n,rfl⟩:=cC5 g0;have e1:bY (n:Int) (s.2.2.length:Int) (s.2.2.length:Int)=true:=aCy (by omega);have e2:sJ (s.1,s.2.1,s.2.2) (n:Int)=some (aBj s (n:Int)):=bCw (s:=s) hl;have e3:sJ (s.1,s.2.1,s.2.2) (s.2.2.length:Int)=some (aBj s (s.2.2.length:Int)):=bCw (s:=s) hl;have e4:(s.2.2.drop n).length<=68719476736:=by rw[cD6];omega
   simp only[cCd,zY,aA,e1,zZ,e2,aGh,aSx e4,aIz,cD7,zV,cCm];cases kJ k with
   | false=>rfl
   | true=>simp only[zZ,e3,bYm e4,aA,zV]
theorem aEv{s:den tSg}{k i:Int}(hl:s.2.2.length<=1000000):cB s k i=some (iF s k i):=by
 unfold cB iF pj3 pj4 pj5 zz4;simp only[eZ,aA,aT,bI,aX,aY,aZ,bD (n:=(s.2.2.length:Int) - 1) (by omega) (by omega)];cases c1:inR i 0 ((s.2.2.length:Int) - 1) with
 | false=>rfl
 | true=>
  cases c2:inR k 1 4 with
  | false=>rfl
  | true=>
   obtain⟨g0,g1⟩:=cE.1 c1;obtain⟨n,rfl⟩:=cC5 g0;have e1:bY (n:Int) (s.2.2.length:Int) (s.2.2.length:Int)=true:=aCy (by omega);have e2:gU (s.1,s.2.1,s.2.2) (n:Int)=some (aBj s (n:Int)):=bCp (s:=s) hl;have e3:gU (s.1,s.2.1,s.2.2) (s.2.2.length:Int)=some (aBj s (s.2.2.length:Int)):=bCp (s:=s) hl;simp only[cCd,zY,aA,e1,zZ,e2,aGh,aF1,cD7,zV,cCm];cases kJ k with
   | false=>
    simp only[cCh,zZ,cC4,aE (b:=40) (n:=([]:bQ).length) (m:=(s.2.2.drop n).length) (by decide) (by simp;omega),cCs,zU]
   | true=>
    simp only[cCd,zY,e3,aA,zV];have key:∀(m:Nat) (a:bQ),n+m<=s.2.2.length->a.length+m<=s.2.2.length->aC (λs11:Int×Int×Int×Int×bQ=>cond (decide (s11.1>=(n:Int))) (Option.bind (idx s.2.2 s11.1) λx12=>cond (aG 40 s11.2.2.2.2.length 1) (some (cCb (wr (s11.1 - (1:Int)),s11.2.1,s11.2.2.1,s11.2.2.2.1,s11.2.2.2.2++[x12]))) none) (some (cCa (s11.2.1,s11.2.2.1,s11.2.2.2.1,s11.2.2.2.2)))) (((n+m:Nat):Int) - 1,k,s.1,aBj s (s.2.2.length:Int),a)=some (k,s.1,aBj s (s.2.2.length:Int),a++((s.2.2.drop n).take m).reverse):=by
     intro m
     induction m with
     | zero=>
      intro a h1 h2;refine bH ?_;simp only[zW (show ¬ (((n+0:Nat):Int) - 1>=(n:Int)) by omega),zY,List.take_zero,List.reverse_nil,cDl]
     | succ m ih=>
      intro a h1 h2;have hx:s.2.2[n+m]? =some (s.2.2[n+m]'(by omega)):=cCe (by omega);have hw:((n+(m+1):Nat):Int) - 1=((n+m:Nat):Int):=by omega
      refine (dA (s':=(((n+m:Nat):Int) - 1,k,s.1,aBj s (s.2.2.length:Int),a++[s.2.2[n+m]'(by omega)])) ?_).trans ?_
      .simp only[hw,zX (show ((n+m:Nat):Int)>=(n:Int) by omega),zZ,aF,hx,aA,aE (b:=40) (n:=a.length) (m:=1) (by decide) (by omega),bD (n:=((n+m:Nat):Int) - 1) (by omega) (by omega)]
      .rw[ih (a++[s.2.2[n+m]'(by omega)]) (by omega) (by simp;omega)];have hd:(s.2.2.drop n)[m]? =some (s.2.2[n+m]'(by omega)):=by rw[List.getElem?_drop];exact hx
       rw[List.take_add_one,hd,List.reverse_append];simp
    have :=key (s.2.2.length - n) [] (by omega) (by simp);rw[show n+(s.2.2.length - n)=s.2.2.length by omega,cC4,List.take_of_length_le (by rw[cD6];omega)]at this;rw[this];rfl
def cA(d:lSg)(r:Int):lSg:=d.filter λs=>jY s==r
def lV(c:lSg)(a b:Int):lSg:=c.filter λs=>bV s==a&&jY s==b
theorem aB4{α:Type}(p:α->Bool):∀l:List α,(l.flatMap λx=>cond (p x) [x] [])=l.filter p
 | []=>rfl
 | x::l=>by
  rw[List.flatMap_cons,aB4 p l,cE3];cases p x<;>rfl
theorem aJw{α:Type}(p:α->Bool)(l:List α):(l.map λx=>(cond (p x) [x] []:List α).length).sum<=l.length:=by
 have :=aGs (f:=λx=>(cond (p x) [x] []:List α).length) (c:=1) (l:=l) λx _=>by cases p x<;>simp
 omega
theorem aZo{k:den tDb}{r:Int}(hl:k.1.length<=1000000)(hh:∀s∈k.1,s.2.2.length<=1000000):gS k r=some (cA k.1 r):=by
 unfold gS cA pj3;have hf:=aJw (λs=>jY s==r) k.1;rw[dR k.1 (λs=>cond (jY s==r) [s] []) id [] hl (by simpa using cCc hf hl) (λi x a hi hx hm hd hw hb=>by
  have h1:=hh x hm;have e1:sL (x.1,x.2.1,x.2.2)=some (jY x):=bKl (s:=x) h1;have e2:eQ (x.1,x.2.1,x.2.2)=some x:=aTy (x:=x) (by omega);simp only[hd,zZ,hi,aA,e1,e2,hw];cases c:jY x==r
  .simp
  .rw[c]at hb;simp only[zZ,aE (b:=40) (n:=a.length) (m:=1) (by decide) (by simp at hb;omega),aA]) (λa=>by simp)]
 rw[aB4,cC4];rfl
theorem aK1{k:den tDb}{r:Int}(hl:k.1.length<=1000000)(hh:∀s∈k.1,s.2.2.length<=1000000):dD k r=some (cA k.1 r):=by
 unfold dD cA pj3;have hf:=aJw (λs=>jY s==r) k.1;rw[dR k.1 (λs=>cond (jY s==r) [s] []) id [] hl (by simpa using cCc hf hl) (λi x a hi hx hm hd hw hb=>by
  have h1:=hh x hm;have e1:eV (x.1,x.2.1,x.2.2)=some (jY x):=bIw (s:=x) h1;have e2:eG (x.1,x.2.1,x.2.2)=some x:=aIp (x:=x) (by omega);simp only[hd,zZ,hi,aA,e1,e2,hw];cases c:jY x==r
  .simp
  .rw[c]at hb;simp only[zZ,aE (b:=40) (n:=a.length) (m:=1) (by decide) (by simp at hb;omega),aA]) (λa=>by simp)]
 rw[aB4,cC4];rfl
theorem bBy{k:den tDb}{p q:Int}(hl:k.2.length<=1000000)(hh:∀s∈k.2,s.2.2.length<=1000000):oY k p q=some (lV k.2 p q):=by
 unfold oY lV pj3;have hf:=aJw (λs=>bV s==p&&jY s==q) k.2;rw[dR k.2 (λs=>cond (bV s==p&&jY s==q) [s] []) id [] hl (by simpa using cCc hf hl) (λi x a hi hx hm hd hw hb=>by
  have h1:=hh x hm;have e0:iT (x.1,x.2.1,x.2.2)=some (bV x):=bMk x;have e1:sL (x.1,x.2.1,x.2.2)=some (jY x):=bKl (s:=x) h1;have e2:eQ (x.1,x.2.1,x.2.2)=some x:=aTy (x:=x) (by omega);simp only[hd,zZ,hi,aA,e0,e1,e2,hw];cases c:bV x==p
  .simp
  .cases c2:jY x==q
   .simp
   .rw[c,c2]at hb;simp only[zZ,cD7,aE (b:=40) (n:=a.length) (m:=1) (by decide) (by simp at hb;omega),aA]) (λa=>by simp)]
 rw[aB4,cC4];rfl
theorem bCx{k:den tDb}{p q:Int}(hl:k.2.length<=1000000)(hh:∀s∈k.2,s.2.2.length<=1000000):kV k p q=some (lV k.2 p q):=by
 unfold kV lV pj3;have hf:=aJw (λs=>bV s==p&&jY s==q) k.2;rw[dR k.2 (λs=>cond (bV s==p&&jY s==q) [s] []) id [] hl (by simpa using cCc hf hl) (λi x a hi hx hm hd hw hb=>by
  have h1:=hh x hm;have e0:dE (x.1,x.2.1,x.2.2)=some (bV x):=bKi x;have e1:eV (x.1,x.2.1,x.2.2)=some (jY x):=bIw (s:=x) h1;have e2:eG (x.1,x.2.1,x.2.2)=some x:=aIp (x:=x) (by omega);simp only[hd,zZ,hi,aA,e0,e1,e2,hw];cases c:bV x==p
  .simp
  .cases c2:jY x==q
   .simp
   .rw[c,c2]at hb;simp only[zZ,cD7,aE (b:=40) (n:=a.length) (m:=1) (by decide) (by simp at hb;omega),aA]) (λa=>by simp)]
 rw[aB4,cC4];rfl
def fIx(l:bQ)(r:Int):Int:=match bU (λk (x:den bP)=>if x.1==r then some (k:Int) else none) 0 l with
 | some v=>v
 | none=> -1
theorem bTc{s:den tSg}{r:Int}(hl:s.2.2.length<=1000000):kZ s r=some (fIx s.2.2 r):=by
 unfold kZ fIx;rw[aM (l:=s.2.2) (λk (x:den bP)=>if x.1==r then some (k:Int) else none) (by omega) (λk x hi hd hw hx hk=>by
  simp only[hd,hi,hw,zZ,aA];cases x.1==r<;>rfl) (by simp)]
 cases bU (λk (x:den bP)=>if x.1==r then some (k:Int) else none) 0 s.2.2<;>rfl
theorem bRz{s:den tSg}{r:Int}(hl:s.2.2.length<=1000000):oI s r=some (fIx s.2.2 r):=by
 unfold oI fIx;rw[aM (l:=s.2.2) (λk (x:den bP)=>if x.1==r then some (k:Int) else none) (by omega) (λk x hi hd hw hx hk=>by
  simp only[hd,hi,hw,zZ,aA];cases x.1==r<;>rfl) (by simp)]
 cases bU (λk (x:den bP)=>if x.1==r then some (k:Int) else none) 0 s.2.2<;>rfl
def lIx(l:bQ)(r:Int):Nat->Int
 | 0=> -1
 | n+1=>if ((l[n]?).getD h0).1==r then (n:Int) else lIx l r n
theorem bZn{s:den tSg}{r:Int}(hl:s.2.2.length<=1000000):qR s r=some (lIx s.2.2 r s.2.2.length):=by
 unfold qR;rw[bD (n:=(s.2.2.length:Int) - 1) (by omega) (by omega)];have key:∀n:Nat,n<=s.2.2.length->Option.bind (aC (λs3:Int=>cond (decide (s3>=(0:Int))) (Option.bind (idx s.2.2 s3) λx4=>cond (x4.1==r) (some (cCa (cCa s3))) (some (cCb (wr (s3 - (1:Int)))))) (some (cCa (cCb ())))) ((n:Int) - 1)) (λz:Unit⊕Int=>cCg (λs5=>some (-1:Int)) some z)=some (lIx s.2.2 r n):=by
  intro n
  induction n with
  | zero=>intro _;rw[bH (r:=cCb ()) (by simp)];rfl
  | succ n ih=>
   intro hn;have hx:s.2.2[n]? =some (s.2.2[n]'(by omega)):=cCe (by omega);have hw:((n+1:Nat):Int) - 1=(n:Int):=by omega
   rw[hw];unfold lIx;rw[hx,cDc];cases c:(s.2.2[n]'(by omega)).1==r with
   | true=>rw[bH (r:=cCa (n:Int)) (by simp only[aDx,zZ,aF,hx,aA,c])];rfl
   | false=>
    rw[dA (s':=(n:Int) - 1) (by simp only[aDx,zZ,aF,hx,aA,c,zY,bD (n:=(n:Int) - 1) (by omega) (by omega)]),ih (by omega)];rfl
 exact key s.2.2.length (cCx _)
def aDj(up down:den tSg):Nat->lPp
 | 0=>[]
 | n+1=>if lIx down.2.2 ((up.2.2[n]?).getD h0).1 down.2.2.length>=0 then [iF up 1 (n:Int),iF down 4 (lIx down.2.2 ((up.2.2[n]?).getD h0).1 down.2.2.length)] else aDj up down n
def yX(up down:den tSg):lPp:=aDj up down up.2.2.length
theorem bWi{up down:den tSg}(h1:up.2.2.length<=1000000)(h2:down.2.2.length<=1000000):oP up down=some (yX up down):=by
 unfold oP yX pj3 pj4;rw[bD (n:=(up.2.2.length:Int) - 1) (by omega) (by omega)];have key:∀(G:Int->Option (Int⊕(Unit⊕lPp))) (n:Nat),n<=up.2.2.length->
   (∀m:Nat,m<up.2.2.length->G (m:Int)=if lIx down.2.2 ((up.2.2[m]?).getD h0).1 down.2.2.length>=0 then some (.inr (.inr [iF up 1 (m:Int),iF down 4 (lIx down.2.2 ((up.2.2[m]?).getD h0).1 down.2.2.length)])) else some (.inl ((m:Int) - 1)))->G (-1)=some (.inr (.inl ()))->
   Option.bind (aC G ((n:Int) - 1)) (λz:Unit⊕lPp=>cCg (λ_=>some []) some z)=some (aDj up down n):=by
  intro G n
  induction n with
  | zero=>intro _ _ hG;rw[bH (r:=cCb ()) (show G (((0:Nat):Int) - 1)=_ from hG)];rfl
  | succ n ih=>
   intro hn hs he;have hw:((n+1:Nat):Int) - 1=(n:Int):=by omega
   rw[hw];have hg:=hs n (by omega);unfold aDj
   by_cases c:lIx down.2.2 ((up.2.2[n]?).getD h0).1 down.2.2.length>=0
   .rw[zT c]at hg ⊢;rw[bH hg];rfl
   .rw[zS c]at hg ⊢;rw[dA hg];exact ih (by omega) hs he
 refine key _ up.2.2.length (cCx _) (λm hm=> ?_) (by simp);have hx:up.2.2[m]? =some (up.2.2[m]'hm):=cCe hm;have e1:∀r,qR (down.1,down.2.1,down.2.2) r=some (lIx down.2.2 r down.2.2.length):=λr=>bZn (s:=down) h2
 have e2:∀i,eI (up.1,up.2.1,up.2.2) 1 i=some (iF up 1 i):=λi=>aLp (s:=up) h1
 have e3:∀i,eI (down.1,down.2.1,down.2.2) 4 i=some (iF down 4 i):=λi=>aLp (s:=down) h2
 simp only[aDx,zZ,aF,hx,aA,cDc,e1,e2,e3,bD (n:=(m:Int) - 1) (by omega) (by omega)]
 by_cases c:lIx down.2.2 (up.2.2[m]'hm).1 down.2.2.length>=0
 .rw[zT c,zX c,zZ]
 .rw[zS c,zW c,zY]
theorem bJm{s:den tSg}(hl:s.2.2.length<=1000000):dL s=some (s.2.2.map λh=>(h.1:Int)):=by
 unfold dL;rw[fS (λk (a:List Int)=>((k:Int),a)) ((0:Int),[]) [] s.2.2 (λ_ x a=>a++[x.1]) cCv (λ_=>1) 1000000 id rfl (by omega) (by rw[dP];simpa using hl) (λk x a=>by simp) (λk x a hi hx hd hw hk hb=>by
  simp only[hd,hi,hw,zZ,aA,aE (b:=8) (n:=a.length) (m:=1) (by decide) (by omega)]) (λa=>by simp),fP (λh:den bP=>(h.1:Int))]
 rfl
theorem bJ2{up down:den tSg}(h1:up.2.2.length<=1000000)(h2:down.2.2.length<=1000000):kT up down=some (yX up down):=by
 have e0:pZ up down=some (yX up down):=by
  unfold pZ yX ixb pj3 pj4;simp only[bJm h1,bJm h2,aA,cDb];rw[bD (n:=(up.2.2.length:Int) - 1) (by omega) (by omega)];have key:∀(G:Int->Option (Int⊕(Unit⊕lPp))) (n:Nat),n<=up.2.2.length->
    (∀m:Nat,m<up.2.2.length->G (m:Int)=if lIx down.2.2 ((up.2.2[m]?).getD h0).1 down.2.2.length>=0 then some (.inr (.inr [iF up 1 (m:Int),iF down 4 (lIx down.2.2 ((up.2.2[m]?).getD h0).1 down.2.2.length)])) else some (.inl ((m:Int) - 1)))->G (-1)=some (.inr (.inl ()))->
    Option.bind (aC G ((n:Int) - 1)) (λz:Unit⊕lPp=>cCg (λ_=>some []) some z)=some (aDj up down n):=by
   intro G n
   induction n with
   | zero=>intro _ _ hG;rw[bH (r:=cCb ()) (show G (((0:Nat):Int) - 1)=_ from hG)];rfl
   | succ n ih=>
    intro hn hs he;have hw:((n+1:Nat):Int) - 1=(n:Int):=by omega
    rw[hw];have hg:=hs n (by omega);unfold aDj
    by_cases c:lIx down.2.2 ((up.2.2[n]?).getD h0).1 down.2.2.length>=0
    .rw[zT c]at hg ⊢;rw[bH hg];rfl
    .rw[zS c]at hg ⊢;rw[dA hg];exact ih (by omega) hs he
  refine key _ up.2.2.length (cCx _) (λm hm=> ?_) (by simp);have hx:up.2.2[m]? =some (up.2.2[m]'hm):=cCe hm;have e2:∀i,cB (up.1,up.2.1,up.2.2) 1 i=some (iF up 1 i):=λi=>aEv (s:=up) h1
  have e3:∀i,cB (down.1,down.2.1,down.2.2) 4 i=some (iF down 4 i):=λi=>aEv (s:=down) h2
  have hxm:(up.2.2.map λh=>(h.1:Int))[m]? =some (up.2.2[m]'hm).1:=by rw[cEj,hx];rfl
  simp only[aDx,bZ,zZ,zX (show (m:Int)<(up.2.2.length:Int) by omega),cCm,hxm,hx,cDc,bD (n:=(m:Int) - 1) (by omega) (by omega),bD (n:=(down.2.2.length:Int) - 1) (by omega) (by omega),aA,e2,e3];have inner:∀(R:Type) (G:Int->Option (Int⊕(Unit⊕R))) (f:Int->R) (n:Nat),n<=down.2.2.length->
    (∀j:Nat,j<down.2.2.length->G (j:Int)=if ((down.2.2[j]?).getD h0).1==(up.2.2[m]'hm).1 then some (.inr (.inr (f (j:Int)))) else some (.inl ((j:Int) - 1)))->G (-1)=some (.inr (.inl ()))->
    aC G ((n:Int) - 1)=some (if lIx down.2.2 (up.2.2[m]'hm).1 n>=0 then .inr (f (lIx down.2.2 (up.2.2[m]'hm).1 n)) else .inl ()):=by
   intro R G f n
   induction n with
   | zero=>intro _ _ hG;rw[bH (r:=cCb ()) (show G (((0:Nat):Int) - 1)=_ from hG)];rfl
   | succ n ih=>
    intro hn hs he;have hw:((n+1:Nat):Int) - 1=(n:Int):=by omega
    rw[hw];have hg:=hs n (by omega);unfold lIx;cases c:((down.2.2[n]?).getD h0).1==(up.2.2[m]'hm).1 with
    | true=>
     rw[c,zT rfl]at hg;rw[bH hg,zT rfl,zT (by omega)]
    | false=>
     rw[c,zS (by decide)]at hg;rw[dA hg];simp only[cCs,zU];exact ih (by omega) hs he
  rw[inner _ _ (λj=>(cCa (cCa [iF up 1 (m:Int),iF down 4 j]):Int⊕(Unit⊕lPp))) down.2.2.length (cCx _) (λj hj=> ?_) (by simp)]
  .by_cases c:lIx down.2.2 (up.2.2[m]'hm).1 down.2.2.length>=0
   .rw[zT c,zT c];rfl
   .rw[zS c,zS c];rfl
  .have hy:down.2.2[j]? =some (down.2.2[j]'hj):=cCe hj;have hym:(down.2.2.map λh=>(h.1:Int))[j]? =some (down.2.2[j]'hj).1:=by rw[cEj,hy];rfl
   simp only[aDx,bZ,zZ,zX (show (j:Int)<(down.2.2.length:Int) by omega),cCm,hym,hy,cDc,aA,bD (n:=(j:Int) - 1) (by omega) (by omega)];rw[show ((up.2.2[m]'hm).1==(down.2.2[j]'hj).1)=((down.2.2[j]'hj).1==(up.2.2[m]'hm).1) from cC7.2 ⟨λh=>by rw[beq_iff_eq]at h ⊢;exact h.symm,λh=>by rw[beq_iff_eq]at h ⊢;exact h.symm⟩];cases (down.2.2[j]'hj).1==(up.2.2[m]'hm).1<;>rfl
 unfold kT pj3;rw[show ((up.1,up.2.1,up.2.2):den tSg)=up from rfl,show ((down.1,down.2.1,down.2.2):den tSg)=down from rfl,e0];rfl
def fN(s:den tSg)(k:Int)(p:lPp):lPp:=cond (decide ((s.2.2.length:Int)>0)) (p++[iF s k 0]) p
theorem aKn(s:den tSg)(k:Int)(p:lPp):(fN s k p).length<=p.length+1:=by
 unfold fN;cases decide ((s.2.2.length:Int)>0)
 .simp
 .simp
def lS(up core:den tSg)(b:Bool)(down:den tSg):lPp:=fN down 4 (fN core (cond b 3 2) (fN up 1 []))
theorem aSp{s:den tSg}{k:Int}{p:lPp}(h:s.2.2.length<=1000000)(hp:p.length<=1000000):fG s k p=some (fN s k p):=by
 have e2:eI (s.1,s.2.1,s.2.2) k 0=some (iF s k 0):=aLp (s:=s) h;unfold fG fN pj3 pj4;simp only[e2,aA,aE (b:=48) (n:=p.length) (m:=1) (by decide) (by omega),zZ];cases decide ((s.2.2.length:Int)>0)<;>rfl
theorem bBo{up core down:den tSg}{b:Bool}(h1:up.2.2.length<=1000000)(h2:core.2.2.length<=1000000)(h3:down.2.2.length<=1000000):mN up core b down=some (lS up core b down):=by
 have l1:=aKn up 1 [];have l2:=aKn core (cond b 3 2) (fN up 1 []);simp only[cDj]at l1;have e1:fG (up.1,up.2.1,up.2.2) 1 []=some (fN up 1 []):=aSp (s:=up) h1 (by simp);have e2:fG (core.1,core.2.1,core.2.2) (cond b 3 2) (fN up 1 [])=some _:=aSp (s:=core) (k:=cond b 3 2) h2 (by omega);have e3:fG (down.1,down.2.1,down.2.2) 4 (fN core (cond b 3 2) (fN up 1 []))=some _:=aSp (s:=down) h3 (by omega);have eb:(cond b (some (3:Int)) (some (2:Int)))=some (cond b 3 2):=by cases b<;>rfl
 unfold mN lS pj3;rw[eb];simp only[e1,e2,e3,aA]
theorem bBl{up core down:den tSg}{b:Bool}(h1:up.2.2.length<=1000000)(h2:core.2.2.length<=1000000)(h3:down.2.2.length<=1000000):mL up core b down=some (lS up core b down):=by
 have l1:=aKn up 1 [];have l2:=aKn core (cond b 3 2) (fN up 1 []);simp only[cDj]at l1;have e1:cB (up.1,up.2.1,up.2.2) 1 0=some (iF up 1 0):=aEv (s:=up) h1;have e2:cB (core.1,core.2.1,core.2.2) (cond b 3 2) 0=some (iF core (cond b 3 2) 0):=aEv (s:=core) h2;have e3:cB (down.1,down.2.1,down.2.2) 4 0=some (iF down 4 0):=aEv (s:=down) h3;have eb:(cond b (some (3:Int)) (some (2:Int)))=some (cond b 3 2):=by cases b<;>rfl
 have f1:(cond (decide ((up.2.2.length:Int)>(0:Int))) (some [iF up 1 0]) (some []))=some (fN up 1 []):=by unfold fN;cases decide ((up.2.2.length:Int)>0)<;>rfl
 have f2:(cond (decide ((core.2.2.length:Int)>(0:Int))) (some (fN up 1 []++[iF core (cond b 3 2) 0])) (some (fN up 1 [])))=some (fN core (cond b 3 2) (fN up 1 [])):=by
  rw[show fN core (cond b 3 2) (fN up 1 [])=cond (decide ((core.2.2.length:Int)>0)) (fN up 1 []++[iF core (cond b 3 2) 0]) (fN up 1 []) from rfl];cases decide ((core.2.2.length:Int)>0)<;>rfl
 have f3:(cond (decide ((down.2.2.length:Int)>(0:Int))) (some (fN core (cond b 3 2) (fN up 1 [])++[iF down 4 0])) (some (fN core (cond b 3 2) (fN up 1 []))))=some (fN down 4 (fN core (cond b 3 2) (fN up 1 []))):=by
  rw[show fN down 4 (fN core (cond b 3 2) (fN up 1 []))=cond (decide ((down.2.2.length:Int)>0)) (fN core (cond b 3 2) (fN up 1 [])++[iF down 4 0]) (fN core (cond b 3 2) (fN up 1 [])) from rfl];cases decide ((down.2.2.length:Int)>0)<;>rfl
 unfold mL lS pj3 pj4;rw[eb];simp only[e1,e2,e3,aA,aE (b:=48) (n:=0) (m:=1) (by decide) (by omega),zZ,f1,aE (b:=48) (n:=(fN up 1 []).length) (m:=1) (by decide) (by omega),f2,aE (b:=48) (n:=(fN core (cond b 3 2) (fN up 1 [])).length) (m:=1) (by decide) (by omega),f3]
def bF(c:lSg)(up:den tSg)(a b:Int)(down:den tSg):List lPp:=
 (lV c a b).flatMap (λs=>[lS up s false down])++(lV c b a).flatMap (λs=>[lS up s true down])
theorem aO8(c:lSg)(a b:Int):(lV c a b).length<=c.length:=cEc _ _
theorem bIi(c:lSg)(a:Int):(cA c a).length<=c.length:=cEc _ _
theorem aJe{α β:Type}(f:α->β)(l:List α):(l.flatMap λs=>[f s]).length<=l.length:=by
 have :=aPf (g:=λs=>[f s]) (c:=1) (l:=l) λx _=>by simp
 omega
theorem aBg{c:lSg}(hc:c.length<=30)(up:den tSg)(a b:Int)(down:den tSg):(bF c up a b down).length<=60:=by
 unfold bF;rw[cC3];have h1:=aJe (λs=>lS up s false down) (lV c a b);have h2:=aJe (λs=>lS up s true down) (lV c b a);have h3:=aO8 c a b;have h4:=aO8 c b a;omega
structure DbS (k:den tDb):Prop where
 down:k.1.length<=30
 core:k.2.length<=30
 hd1:∀s∈k.1,s.2.2.length<=5
 hc1:∀s∈k.2,s.2.2.length<=5
theorem DbS.hd{k:den tDb}(h:DbS k):∀s∈k.1,s.2.2.length<=1000000:=λs hs=>cCc (h.hd1 s hs) (by decide)
theorem DbS.hc{k:den tDb}(h:DbS k):∀s∈k.2,s.2.2.length<=1000000:=λs hs=>cCc (h.hc1 s hs) (by decide)
theorem DbD.s{n:Nat}{d c:lSg}(h:DbD n d c)(hn:n<=30):DbS (d,c):=⟨cCc h.down hn,cCc h.core hn,h.hd,h.hc⟩
theorem DbS.downs{k:den tDb}(h:DbS k)(r:Int):(cA k.1 r).length<=30/\ ∀s∈cA k.1 r,s.2.2.length<=1000000:=⟨cCc (bIi _ _) h.down,λs hs=>h.hd s (cCw.1 hs).1⟩
theorem DbS.betw{k:den tDb}(h:DbS k)(a b:Int):(lV k.2 a b).length<=30/\ ∀s∈lV k.2 a b,s.2.2.length<=1000000:=⟨cCc (aO8 _ _ _) h.core,λs hs=>h.hc s (cCw.1 hs).1⟩
theorem bU0{k:den tDb}(h:DbS k){up down:den tSg}(h1:up.2.2.length<=1000000)(h3:down.2.2.length<=1000000)(a b:Int):dF k up a b down=some (bF k.2 up a b down):=by
 have e1:oY (k.1,k.2) a b=some (lV k.2 a b):=bBy (k:=k) (cCc h.core (by decide)) h.hc;have e2:oY (k.1,k.2) b a=some (lV k.2 b a):=bBy (k:=k) (cCc h.core (by decide)) h.hc;obtain⟨l1,m1⟩:=h.betw a b;obtain⟨l2,m2⟩:=h.betw b a;have n1:=aJe (λs=>lS up s false down) (lV k.2 a b);unfold dF bF ixb pj2 pj3;rw[e1,aA];rw[dR (lV k.2 a b) (λs=>[lS up s false down]) (λx=>x) [] (by omega) (by have :=aGs (f:=λs=>([lS up s false down]:List lPp).length) (c:=1) (l:=lV k.2 a b) (λ_ _=>by simp);simp only[cDj];omega) (λi x y hi hx hm hd hw hb=>by
  have e:mN (up.1,up.2.1,up.2.2) (x.1,x.2.1,x.2.2) false (down.1,down.2.1,down.2.2)=some (lS up x false down):=bBo (up:=up) (core:=x) (down:=down) h1 (m1 x hm) h3;simp only[hd,bZ,zZ,cCm,hx,aA,e,hw,aE (b:=24) (n:=y.length) (m:=1) (by decide) (by simp at hb;omega)]) (λy=>by simp)]
 rw[aA,e2,aA,cC4];rw[dR (lV k.2 b a) (λs=>[lS up s true down]) (λx=>x) ((lV k.2 a b).flatMap λs=>[lS up s false down]) (by omega) (by have :=aGs (f:=λs=>([lS up s true down]:List lPp).length) (c:=1) (l:=lV k.2 b a) (λ_ _=>by simp);omega) (λi x y hi hx hm hd hw hb=>by
  have e:mN (up.1,up.2.1,up.2.2) (x.1,x.2.1,x.2.2) true (down.1,down.2.1,down.2.2)=some (lS up x true down):=bBo (up:=up) (core:=x) (down:=down) h1 (m2 x hm) h3;simp only[hd,bZ,zZ,cCm,hx,aA,e,hw,aE (b:=24) (n:=y.length) (m:=1) (by decide) (by simp at hb;omega)]) (λy=>by simp)]
 rfl
theorem bBp{k:den tDb}(h:DbS k){up down:den tSg}(h1:up.2.2.length<=1000000)(h3:down.2.2.length<=1000000)(a b:Int):fR k up a b down=some (bF k.2 up a b down):=by
 have e1:kV (k.1,k.2) a b=some (lV k.2 a b):=bCx (k:=k) (cCc h.core (by decide)) h.hc;have e2:kV (k.1,k.2) b a=some (lV k.2 b a):=bCx (k:=k) (cCc h.core (by decide)) h.hc;obtain⟨l1,m1⟩:=h.betw a b;obtain⟨l2,m2⟩:=h.betw b a;have n1:=aJe (λs=>lS up s false down) (lV k.2 a b);unfold fR bF ixb pj2 pj3;rw[e1,aA];rw[dR (lV k.2 a b) (λs=>[lS up s false down]) (λx=>x) [] (by omega) (by have :=aGs (f:=λs=>([lS up s false down]:List lPp).length) (c:=1) (l:=lV k.2 a b) (λ_ _=>by simp);simp only[cDj];omega) (λi x y hi hx hm hd hw hb=>by
  have e:mL (up.1,up.2.1,up.2.2) (x.1,x.2.1,x.2.2) false (down.1,down.2.1,down.2.2)=some (lS up x false down):=bBl (up:=up) (core:=x) (down:=down) h1 (m1 x hm) h3;simp only[hd,bZ,zZ,cCm,hx,aA,e,hw,aE (b:=24) (n:=y.length) (m:=1) (by decide) (by simp at hb;omega)]) (λy=>by simp)]
 rw[aA,e2,aA,cC4];rw[dR (lV k.2 b a) (λs=>[lS up s true down]) (λx=>x) ((lV k.2 a b).flatMap λs=>[lS up s false down]) (by omega) (by have :=aGs (f:=λs=>([lS up s true down]:List lPp).length) (c:=1) (l:=lV k.2 b a) (λ_ _=>by simp);omega) (λi x y hi hx hm hd hw hb=>by
  have e:mL (up.1,up.2.1,up.2.2) (x.1,x.2.1,x.2.2) true (down.1,down.2.1,down.2.2)=some (lS up x true down):=bBl (up:=up) (core:=x) (down:=down) h1 (m2 x hm) h3;simp only[hd,bZ,zZ,cCm,hx,aA,e,hw,aE (b:=24) (n:=y.length) (m:=1) (by decide) (by simp at hb;omega)]) (λy=>by simp)]
 rfl
def cT:den tSg:=(0,0,[])
def lM(kind r:Int)(s:den tSg):List lPp:=cond (decide (fIx s.2.2 r>=0)) [[iF s kind (fIx s.2.2 r)]] []
def nW(u d:den tSg):List lPp:=cond (decide (((yX u d).length:Int)>0)) [yX u d] []
def dV(t:den tTo)(r:Int):Bool:=((t.1[r.toNat]?).getD (0,false,0)).2.1
theorem aJi(kind r:Int)(s:den tSg):(lM kind r s).length<=1:=by unfold lM;cases decide (fIx s.2.2 r>=0)<;>simp
theorem bK8(u d:den tSg):(nW u d).length<=1:=by unfold nW;cases decide (((yX u d).length:Int)>0)<;>simp
def nC(t:den tTo)(k:den tDb)(a b:Int):List lPp:=
 cond (a==b||(!cD t a|| !cD t b)) [] (((((((cA k.1 a).flatMap (lM 1 b)++(cA k.1 b).flatMap (lM 4 a))++bF k.2 cT a b cT)
  ++(cA k.1 a).flatMap λu=>(cA k.1 b).flatMap λd=>nW u d)
  ++cond (dV t a) ((cA k.1 b).flatMap λd=>bF k.2 cT a (bV d) d) [])
  ++cond (dV t b) ((cA k.1 a).flatMap λu=>bF k.2 u (bV u) b cT) [])
  ++(cA k.1 a).flatMap λu=>(cA k.1 b).flatMap λd=>bF k.2 u (bV u) (bV d) d)
theorem bJ3{t:den tTo}{r:Int}(ht:t.1.length<=1000000)(h:cD t r=true):yZ t r=some (dV t r):=by
 obtain⟨x,hx,ex⟩:=aEn h;unfold yZ dV pj2;simp only[aN,aDb (t:=t) (r:=r) (by omega),h,aA,zZ,ex,hx,cDc]
theorem aDw{α β:Type}{g:α->List β}{c n:Nat}{l:List α}(hl:l.length<=n)(h:∀x∈l,(g x).length<=c):(l.map λx=>(g x).length).sum<=n * c:=
 cCc (aGs h) (cDq _ hl)
theorem aAt{α β:Type}{g:α->List β}{c n:Nat}{l:List α}(hl:l.length<=n)(h:∀x∈l,(g x).length<=c):(l.flatMap g).length<=n * c:=
 cCc (aPf h) (cDq _ hl)
theorem aU9{downs:lSg}(h:downs.length<=30)(u:den tSg):(downs.flatMap λd=>nW u d).length<=30:=
 cCc (aAt (c:=1) h λd _=>bK8 u d) (by decide)
theorem aXq{c downs:lSg}(hc:c.length<=30)(h:downs.length<=30)(u:den tSg):(downs.flatMap λd=>bF c u (bV u) (bV d) d).length<=1800:=
 cCc (aAt (c:=60) h λd _=>aBg hc _ _ _ _) (by decide)
theorem aFi{k:den tDb}(h:DbS k)(a b:Int):(((cA k.1 a).flatMap (lM 1 b)).length<=30)/\(((cA k.1 b).flatMap (lM 4 a)).length<=30)/\((bF k.2 cT a b cT).length<=60)/\(((cA k.1 a).flatMap λu=>(cA k.1 b).flatMap λd=>nW u d).length<=900)/\(((cA k.1 b).flatMap λd=>bF k.2 cT a (bV d) d).length<=1800)/\(((cA k.1 a).flatMap λu=>bF k.2 u (bV u) b cT).length<=1800)/\(((cA k.1 a).map λs=>(lM 1 b s).length).sum<=30)/\(((cA k.1 b).map λs=>(lM 4 a s).length).sum<=30)/\(((cA k.1 a).map λu=>((cA k.1 b).flatMap λd=>nW u d).length).sum<=900)/\(((cA k.1 b).map λd=>(bF k.2 cT a (bV d) d).length).sum<=1800)/\(((cA k.1 a).map λu=>(bF k.2 u (bV u) b cT).length).sum<=1800)/\(((cA k.1 a).map λu=>((cA k.1 b).flatMap λd=>bF k.2 u (bV u) (bV d) d).length).sum<=54000):=by
 obtain⟨lu,mu⟩:=h.downs a;obtain⟨ld,md⟩:=h.downs b;exact⟨cCc (aAt (c:=1) lu λs _=>aJi 1 b s) (by decide),cCc (aAt (c:=1) ld λs _=>aJi 4 a s) (by decide),aBg h.core cT a b cT,cCc (aAt (c:=30) lu λu _=>aU9 ld u) (by decide),cCc (aAt (c:=60) ld λd _=>aBg h.core _ _ _ _) (by decide),cCc (aAt (c:=60) lu λd _=>aBg h.core _ _ _ _) (by decide),cCc (aDw (c:=1) lu λs _=>aJi 1 b s) (by decide),cCc (aDw (c:=1) ld λs _=>aJi 4 a s) (by decide),cCc (aDw (c:=30) lu λu _=>aU9 ld u) (by decide),cCc (aDw (c:=60) ld λd _=>aBg h.core _ _ _ _) (by decide),cCc (aDw (c:=60) lu λd _=>aBg h.core _ _ _ _) (by decide),cCc (aDw (c:=1800) lu λu _=>aXq h.core ld u) (by decide)⟩
theorem bZb{t:den tTo}{k:den tDb}(ht:t.1.length<=1000000)(h:DbS k)(a b:Int):lK t k a b=some (nC t k a b):=by
 have hA:=aDb (t:=t) (r:=a) (by omega);have hB:=aDb (t:=t) (r:=b) (by omega);unfold lK nC ixb pj2 pj3 pj4;rw[show ((t.1,t.2):den tTo)=t from rfl,hA,hB];cases c0:a==b with
 | true=>rfl
 | false=>
 cases c1:cD t a with
 | false=>rfl
 | true=>
 cases c2:cD t b with
 | false=>rfl
 | true=>
 have e1:gS (k.1,k.2) a=some (cA k.1 a):=aZo (k:=k) (cCc h.down (by decide)) h.hd;have e2:gS (k.1,k.2) b=some (cA k.1 b):=aZo (k:=k) (cCc h.down (by decide)) h.hd;obtain⟨lu,mu⟩:=h.downs a;obtain⟨ld,md⟩:=h.downs b;have ec1:=bJ3 ht c1;have ec2:=bJ3 ht c2;have hcz:∀(u:den tSg) (x y:Int) (d:den tSg),u.2.2.length<=1000000->d.2.2.length<=1000000->dF (k.1,k.2) (u.1,u.2.1,u.2.2) x y (d.1,d.2.1,d.2.2)=some (bF k.2 u x y d):=λu x y d h1 h2=>bU0 (k:=k) h (up:=u) (down:=d) h1 h2 x y
 have hz1:∀(x y:Int),dF (k.1,k.2) (0,0,[]) x y (0,0,[])=some (bF k.2 cT x y cT):=λx y=>hcz cT x y cT (by decide) (by decide)
 have hz2:∀(x y:Int) (d:den tSg),d.2.2.length<=1000000->dF (k.1,k.2) (0,0,[]) x y (d.1,d.2.1,d.2.2)=some (bF k.2 cT x y d):=λx y d hd=>hcz cT x y d (by decide) hd
 have hz3:∀(u:den tSg) (x y:Int),u.2.2.length<=1000000->dF (k.1,k.2) (u.1,u.2.1,u.2.2) x y (0,0,[])=some (bF k.2 u x y cT):=λu x y hu=>hcz u x y cT hu (by decide)
 have hf:∀s:den tSg,iT (s.1,s.2.1,s.2.2)=some (bV s):=λs=>bMk s
 obtain⟨n1,n2,n3,n4,n5,n6,s1,s2,s4,s5,s6,s7⟩:=aFi h a b;simp only[zY,zZ,aA,cCd,cEl,e1,e2];generalize hU:cA k.1 a=ups at *;generalize hD:cA k.1 b=downs at *;rw[dR ups (lM 1 b) (λx=>x) [] (by omega) (by simp only[cDj];omega) (λi x y hi hx hm hd hw hb=>by
  have e:kZ (x.1,x.2.1,x.2.2) b=some (fIx x.2.2 b):=bTc (s:=x) (mu x hm);have e':eI (x.1,x.2.1,x.2.2) 1 (fIx x.2.2 b)=some (iF x 1 (fIx x.2.2 b)):=aLp (s:=x) (mu x hm);have hb:y.length<=1000000:=by omega
  unfold lM;simp only[hd,bZ,zZ,cCm,hx,aA,e,e',hw,aE (b:=24) (n:=y.length) (m:=1) (by decide) (by omega)];cases decide (fIx x.2.2 b>=0)
  .simp
  .rfl) (λy=>by simp)]
 rw[aA,cC4];rw[dR downs (lM 4 a) (λx=>x) (ups.flatMap (lM 1 b)) (by omega) (by omega) (λi x y hi hx hm hd hw hb=>by
  have e:kZ (x.1,x.2.1,x.2.2) a=some (fIx x.2.2 a):=bTc (s:=x) (md x hm);have e':eI (x.1,x.2.1,x.2.2) 4 (fIx x.2.2 a)=some (iF x 4 (fIx x.2.2 a)):=aLp (s:=x) (md x hm);have hb:y.length<=1000000:=by omega
  unfold lM;simp only[hd,bZ,zZ,cCm,hx,aA,e,e',hw,aE (b:=24) (n:=y.length) (m:=1) (by decide) (by omega)];cases decide (fIx x.2.2 a>=0)
  .simp
  .rfl) (λy=>by simp)]
 rw[aA,hz1,aA];have q3:(ups.flatMap (lM 1 b)++downs.flatMap (lM 4 a)).length<=60:=by rw[cC3];omega
 generalize ups.flatMap (lM 1 b)++downs.flatMap (lM 4 a)=l3 at *;rw[aE (b:=24) (n:=l3.length) (m:=(bF k.2 cT a b cT).length) (by decide) (by omega),zZ];have q4:(l3++bF k.2 cT a b cT).length<=120:=by rw[cC3];omega
 generalize l3++bF k.2 cT a b cT=l4 at *;rw[dR ups (λu=>downs.flatMap λd=>nW u d) (λx=>x) l4 (by omega) (by omega) (λi u y hi hx hm hd hw hb=>by
  have hy:y.length<=1000000:=by omega
  have hb0:y.length+(downs.flatMap λd=>nW u d).length<=1000000:=hb;have hsum:(downs.map λd=>(nW u d).length).sum=(downs.flatMap λd=>nW u d).length:=by rw[cFj]
  simp only[hd,bZ,zZ,cCm,hx,aA,hw];rw[dR downs (λd=>nW u d) (λx=>x) y (by omega) (by rw[hsum];exact hb0) (λj d z hj hx' hm' hd' hw' hb'=>by
   have e:oP (u.1,u.2.1,u.2.2) (d.1,d.2.1,d.2.2)=some (yX u d):=bWi (up:=u) (down:=d) (mu u hm) (md d hm');have hb:z.length<=1000000:=by omega
   unfold nW;simp only[hd',bZ,zZ,cCm,hx',aA,e,hw',aE (b:=24) (n:=z.length) (m:=1) (by decide) (by omega)];cases decide (((yX u d).length:Int)>0)
   .simp
   .rfl) (λy=>by simp)]
  rfl) (λy=>by simp)]
 rw[aA,ec1,aA];have q5:(l4++ups.flatMap λu=>downs.flatMap λd=>nW u d).length<=1020:=by rw[cC3];omega
 generalize (l4++ups.flatMap λu=>downs.flatMap λd=>nW u d)=l5 at *;have st5:(cond (dV t a) (aC (λs57:Int×List lPp=>cond (decide (s57.1<(downs.length:Int))) (cond (decide ((0:Int)<=s57.1)) (cond (decide (s57.1<(downs.length:Int))) (Option.bind downs[s57.1.toNat]? λx58=>Option.bind (iT (x58.1,x58.2.1,x58.2.2)) λy59=>Option.bind (dF (k.1,k.2) ((0:Int),(0:Int),[]) a y59 (x58.1,x58.2.1,x58.2.2)) λy60=>cond (aG 24 s57.2.length y60.length) (some (cCb (wr (s57.1+(1:Int)),s57.2++y60))) none) none) none) (some (cCa s57.2))) ((0:Int),l5)) (some l5))=some (l5++cond (dV t a) (downs.flatMap λd=>bF k.2 cT a (bV d) d) []):=by
  cases dV t a with
  | false=>simp
  | true=>
   simp only[zZ];exact dR downs (λd=>bF k.2 cT a (bV d) d) (λx=>x) l5 (by omega) (by omega) (λi d y hi hx hm hd hw hb=>by
    simp only[hd,bZ,zZ,cCm,hx,aA,hf,hz2 _ _ d (md d hm),hw];rw[aE (b:=24) (n:=y.length) (m:=(bF k.2 cT a (bV d) d).length) (by decide) (by omega)];rfl) (λy=>by simp)
 rw[st5,aA,ec2,aA];have q6:(l5++cond (dV t a) (downs.flatMap λd=>bF k.2 cT a (bV d) d) []).length<=2820:=by
  rw[cC3];cases dV t a
  .simp only[zY,cDj];omega
  .simp only[zZ];omega
 generalize (l5++cond (dV t a) (downs.flatMap λd=>bF k.2 cT a (bV d) d) [])=l6 at *;have st6:(cond (dV t b) (aC (λs67:Int×List lPp=>cond (decide (s67.1<(ups.length:Int))) (cond (decide ((0:Int)<=s67.1)) (cond (decide (s67.1<(ups.length:Int))) (Option.bind ups[s67.1.toNat]? λx68=>Option.bind (iT (x68.1,x68.2.1,x68.2.2)) λy69=>Option.bind (dF (k.1,k.2) (x68.1,x68.2.1,x68.2.2) y69 b ((0:Int),(0:Int),[])) λy70=>cond (aG 24 s67.2.length y70.length) (some (cCb (wr (s67.1+(1:Int)),s67.2++y70))) none) none) none) (some (cCa s67.2))) ((0:Int),l6)) (some l6))=some (l6++cond (dV t b) (ups.flatMap λu=>bF k.2 u (bV u) b cT) []):=by
  cases dV t b with
  | false=>simp
  | true=>
   simp only[zZ];exact dR ups (λu=>bF k.2 u (bV u) b cT) (λx=>x) l6 (by omega) (by omega) (λi d y hi hx hm hd hw hb=>by
    simp only[hd,bZ,zZ,cCm,hx,aA,hf,hz3 d _ _ (mu d hm),hw];rw[aE (b:=24) (n:=y.length) (m:=(bF k.2 d (bV d) b cT).length) (by decide) (by omega)];rfl) (λy=>by simp)
 rw[st6,aA];have q7:(l6++cond (dV t b) (ups.flatMap λu=>bF k.2 u (bV u) b cT) []).length<=4620:=by
  rw[cC3];cases dV t b
  .simp only[zY,cDj];omega
  .simp only[zZ];omega
 generalize (l6++cond (dV t b) (ups.flatMap λu=>bF k.2 u (bV u) b cT) [])=l7 at *;rw[dR ups (λu=>downs.flatMap λd=>bF k.2 u (bV u) (bV d) d) (λx=>x) l7 (by omega) (by omega) (λi u y hi hx hm hd hw hb=>by
  have hb0:y.length+(downs.flatMap λd=>bF k.2 u (bV u) (bV d) d).length<=1000000:=hb;have hsum:(downs.map λd=>(bF k.2 u (bV u) (bV d) d).length).sum=(downs.flatMap λd=>bF k.2 u (bV u) (bV d) d).length:=by rw[cFj]
  simp only[hd,bZ,zZ,cCm,hx,aA,hw];rw[dR downs (λd=>bF k.2 u (bV u) (bV d) d) (λx=>x) y (by omega) (by rw[hsum];exact hb0) (λj d z hj hx' hm' hd' hw' hb'=>by
   simp only[hd',bZ,zZ,cCm,hx',aA,hf,hcz u _ _ d (mu u hm) (md d hm'),hw'];rw[aE (b:=24) (n:=z.length) (m:=(bF k.2 u (bV u) (bV d) d).length) (by decide) (by omega)];rfl) (λy=>by simp)]
  rfl) (λy=>by simp)]
 rfl
theorem bU5{k:den tDb}(h:DbS k)(a b:Int):sZ k a b=some ((((cA k.1 a).flatMap (lM 1 b)++(cA k.1 b).flatMap (lM 4 a))++bF k.2 cT a b cT)):=by
 have e1:dD (k.1,k.2) a=some (cA k.1 a):=aK1 (k:=k) (cCc h.down (by decide)) h.hd;have e2:dD (k.1,k.2) b=some (cA k.1 b):=aK1 (k:=k) (cCc h.down (by decide)) h.hd;obtain⟨lu,mu⟩:=h.downs a;obtain⟨ld,md⟩:=h.downs b;have hz1:fR (k.1,k.2) (0,0,[]) a b (0,0,[])=some (bF k.2 cT a b cT):=bBp (k:=k) h (up:=cT) (down:=cT) (by decide) (by decide) a b;obtain⟨n1,n2,n3,n4,n5,n6,s1,s2,s4,s5,s6,s7⟩:=aFi h a b;unfold sZ ixb pj2 pj3 pj4;rw[e1,aA];rw[dR (cA k.1 a) (lM 1 b) (λx=>x) [] (by omega) (by simp only[cDj];omega) (λi x y hi hx hm hd hw hb=>by
  have e:oI (x.1,x.2.1,x.2.2) b=some (fIx x.2.2 b):=bRz (s:=x) (mu x hm);have e':cB (x.1,x.2.1,x.2.2) 1 (fIx x.2.2 b)=some (iF x 1 (fIx x.2.2 b)):=aEv (s:=x) (mu x hm);have hb:y.length<=1000000:=by omega
  unfold lM;simp only[hd,bZ,zZ,cCm,hx,aA,e,e',hw,aE (b:=24) (n:=y.length) (m:=1) (by decide) (by omega)];cases decide (fIx x.2.2 b>=0)
  .simp
  .rfl) (λy=>by simp)]
 rw[aA,cC4,e2,aA];rw[dR (cA k.1 b) (lM 4 a) (λx=>x) ((cA k.1 a).flatMap (lM 1 b)) (by omega) (by omega) (λi x y hi hx hm hd hw hb=>by
  have e:oI (x.1,x.2.1,x.2.2) a=some (fIx x.2.2 a):=bRz (s:=x) (md x hm);have e':cB (x.1,x.2.1,x.2.2) 4 (fIx x.2.2 a)=some (iF x 4 (fIx x.2.2 a)):=aEv (s:=x) (md x hm);have hb:y.length<=1000000:=by omega
  unfold lM;simp only[hd,bZ,zZ,cCm,hx,aA,e,e',hw,aE (b:=24) (n:=y.length) (m:=1) (by decide) (by omega)];cases decide (fIx x.2.2 a>=0)
  .simp
  .rfl) (λy=>by simp)]
 rw[aA,hz1,aA,aE (b:=24) (n:=((cA k.1 a).flatMap (lM 1 b)++(cA k.1 b).flatMap (lM 4 a)).length) (m:=(bF k.2 cT a b cT).length) (by decide) (by rw[cC3];omega)];rfl
theorem aUd{α β:Type}(l:List α)(g:α->List β)(c:Bool)(a0:List β){step:Int×List β->Option ((Int×List β)⊕List β)}(hl:l.length<=1000000)(hN:a0.length+(l.map λx=>(g x).length).sum<=1000000)
  (hs:c=true-> ∀(k:Nat) (x:α) (a:List β),idx l (k:Int)=some x->l[k]? =some x->x∈l->decide ((k:Int)<(l.length:Int))=true->wr ((k:Int)+1)=((k+1:Nat):Int)->a.length+(g x).length<=1000000->step ((k:Int),a)=some (.inl (((k+1:Nat):Int),a++g x)))
  (he:∀a,step ((l.length:Int),a)=some (.inr a)) (hc:c=false->step ((0:Int),a0)=some (.inr a0)):aC step ((0:Int),a0)=some (a0++cond c (l.flatMap g) []):=by
 cases c with
 | true=>exact dR l g (λx=>x) a0 hl hN (hs rfl) he
 | false=>rw[zY,cDl];exact bH (hc rfl)
theorem bXw{t:den tTo}{k:den tDb}(ht:t.1.length<=1000000)(h:DbS k)(a b:Int):lY t k a b=some (nC t k a b):=by
 have hA:=aBy (t:=t) (r:=a) (by omega);have hB:=aBy (t:=t) (r:=b) (by omega);unfold lY nC ixb pj2 pj3;rw[show ((t.1,t.2):den tTo)=t from rfl,hA,hB];cases c0:a==b with
 | true=>rfl
 | false=>
 cases c1:cD t a with
 | false=>rfl
 | true=>
 cases c2:cD t b with
 | false=>rfl
 | true=>
 have e1:dD (k.1,k.2) a=some (cA k.1 a):=aK1 (k:=k) (cCc h.down (by decide)) h.hd;have e2:dD (k.1,k.2) b=some (cA k.1 b):=aK1 (k:=k) (cCc h.down (by decide)) h.hd;obtain⟨lu,mu⟩:=h.downs a;obtain⟨ld,md⟩:=h.downs b;obtain⟨xa,hxa,ea⟩:=aEn c1;obtain⟨xb,hxb,eb⟩:=aEn c2;have ca:dV t a=xa.2.1:=by unfold dV;rw[hxa];rfl
 have cb:dV t b=xb.2.1:=by unfold dV;rw[hxb];rfl
 have hal:sZ (k.1,k.2) a b=some _:=bU5 (k:=k) h a b;have hcz:∀(u:den tSg) (x y:Int) (d:den tSg),u.2.2.length<=1000000->d.2.2.length<=1000000->fR (k.1,k.2) (u.1,u.2.1,u.2.2) x y (d.1,d.2.1,d.2.2)=some (bF k.2 u x y d):=λu x y d h1 h2=>bBp (k:=k) h (up:=u) (down:=d) h1 h2 x y
 have hz1:∀(x y:Int),fR (k.1,k.2) (0,0,[]) x y (0,0,[])=some (bF k.2 cT x y cT):=λx y=>hcz cT x y cT (by decide) (by decide)
 have hz2:∀(x y:Int) (d:den tSg),d.2.2.length<=1000000->fR (k.1,k.2) (0,0,[]) x y (d.1,d.2.1,d.2.2)=some (bF k.2 cT x y d):=λx y d hd=>hcz cT x y d (by decide) hd
 have hz3:∀(u:den tSg) (x y:Int),u.2.2.length<=1000000->fR (k.1,k.2) (u.1,u.2.1,u.2.2) x y (0,0,[])=some (bF k.2 u x y cT):=λu x y hu=>hcz u x y cT hu (by decide)
 have hf:∀s:den tSg,dE (s.1,s.2.1,s.2.2)=some (bV s):=λs=>bKi s
 obtain⟨n1,n2,n3,n4,n5,n6,s1,s2,s4,s5,s6,s7⟩:=aFi h a b;simp only[zY,zZ,aA,cCd,cEl,hal,e1,e2,aT,bI,aX,aY,aZ];generalize hU:cA k.1 a=ups at *;generalize hD:cA k.1 b=downs at *;have q3:(ups.flatMap (lM 1 b)++downs.flatMap (lM 4 a)).length<=60:=by rw[cC3];omega
 generalize ups.flatMap (lM 1 b)++downs.flatMap (lM 4 a)=l3 at *;have q4:(l3++bF k.2 cT a b cT).length<=120:=by rw[cC3];omega
 generalize l3++bF k.2 cT a b cT=l4 at *;rw[dR ups (λu=>downs.flatMap λd=>nW u d) (λx=>x) l4 (by omega) (by omega) (λi u y hi hx hm hd hw hb=>by
  have hy:y.length<=1000000:=by omega
  have hb0:y.length+(downs.flatMap λd=>nW u d).length<=1000000:=hb;have hsum:(downs.map λd=>(nW u d).length).sum=(downs.flatMap λd=>nW u d).length:=by rw[cFj]
  simp only[hd,bZ,zZ,cCm,hx,aA,hw];rw[dR downs (λd=>nW u d) (λx=>x) y (by omega) (by rw[hsum];exact hb0) (λj d z hj hx' hm' hd' hw' hb'=>by
   have e:kT (u.1,u.2.1,u.2.2) (d.1,d.2.1,d.2.2)=some (yX u d):=bJ2 (up:=u) (down:=d) (mu u hm) (md d hm');have hb:z.length<=1000000:=by omega
   unfold nW;simp only[hd',bZ,zZ,cCm,hx',aA,e,hw',aE (b:=24) (n:=z.length) (m:=1) (by decide) (by omega)];cases decide (((yX u d).length:Int)>0)
   .simp
   .rfl) (λy=>by simp)]
  rfl) (λy=>by simp)]
 rw[aA];have q5:(l4++ups.flatMap λu=>downs.flatMap λd=>nW u d).length<=1020:=by rw[cC3];omega
 generalize (l4++ups.flatMap λu=>downs.flatMap λd=>nW u d)=l5 at *;rw[aUd downs (λd=>bF k.2 cT a (bV d) d) (dV t a) l5 (by omega) (by omega) (λhc i d y hi hx hm hd hw hb=>by
  rw[ca]at hc;simp only[hd,bZ,zZ,ea,hc,cCm,hx,aA,hf,hz2 _ _ d (md d hm),hw];rw[aE (b:=24) (n:=y.length) (m:=(bF k.2 cT a (bV d) d).length) (by decide) (by omega)];rfl) (λy=>by simp) (λhc=>by
  rw[ca]at hc;simp only[ea,aA,hc];cases decide ((0:Int)<(downs.length:Int))<;>rfl),aA]
 have q6:(l5++cond (dV t a) (downs.flatMap λd=>bF k.2 cT a (bV d) d) []).length<=2820:=by
  rw[cC3];cases dV t a
  .simp only[zY,cDj];omega
  .simp only[zZ];omega
 generalize (l5++cond (dV t a) (downs.flatMap λd=>bF k.2 cT a (bV d) d) [])=l6 at *;rw[aUd ups (λu=>bF k.2 u (bV u) b cT) (dV t b) l6 (by omega) (by omega) (λhc i d y hi hx hm hd hw hb=>by
  rw[cb]at hc;simp only[hd,bZ,zZ,eb,hc,cCm,hx,aA,hf,hz3 d _ _ (mu d hm),hw];rw[aE (b:=24) (n:=y.length) (m:=(bF k.2 d (bV d) b cT).length) (by decide) (by omega)];rfl) (λy=>by simp) (λhc=>by
  rw[cb]at hc;simp only[eb,aA,hc];cases decide ((0:Int)<(ups.length:Int))<;>rfl),aA]
 have q7:(l6++cond (dV t b) (ups.flatMap λu=>bF k.2 u (bV u) b cT) []).length<=4620:=by
  rw[cC3];cases dV t b
  .simp only[zY,cDj];omega
  .simp only[zZ];omega
 generalize (l6++cond (dV t b) (ups.flatMap λu=>bF k.2 u (bV u) b cT) [])=l7 at *;rw[dR ups (λu=>downs.flatMap λd=>bF k.2 u (bV u) (bV d) d) (λx=>x) l7 (by omega) (by omega) (λi u y hi hx hm hd hw hb=>by
  have hb0:y.length+(downs.flatMap λd=>bF k.2 u (bV u) (bV d) d).length<=1000000:=hb;have hsum:(downs.map λd=>(bF k.2 u (bV u) (bV d) d).length).sum=(downs.flatMap λd=>bF k.2 u (bV u) (bV d) d).length:=by rw[cFj]
  simp only[hd,bZ,zZ,cCm,hx,aA,hw];rw[dR downs (λd=>bF k.2 u (bV u) (bV d) d) (λx=>x) y (by omega) (by rw[hsum];exact hb0) (λj d z hj hx' hm' hd' hw' hb'=>by
   simp only[hd',bZ,zZ,cCm,hx',aA,hf,hcz u _ _ d (mu u hm) (md d hm'),hw'];rw[aE (b:=24) (n:=z.length) (m:=(bF k.2 u (bV u) (bV d) d).length) (by decide) (by omega)];rfl) (λy=>by simp)]
  rfl) (λy=>by simp)]
 rfl
def eC(p:den tPt):Prop:=cCv (α:=den tPp) p<=3/\ ∀x:den tPp,x∈(show lPp from p)->x.2.2.2.length<=5
def aQs(n:Nat)(l:lPt):Prop:=l.length<=n/\ ∀p∈l,eC p
theorem aPg:eC []:=⟨by simp,λx hx=>(cC2 hx).elim⟩
theorem wP{t:Ty}{B:Nat}:∀{l:List (den t)},(∀x∈l,tot t x<=B)->tot (.sl t) l<=(B+1) * l.length
 | [],_=>by simp[tot]
 | x::l,h=>by
  have ih:=wP (l:=l) λy hy=>h y (cCu _ hy)
  have hx:=h x (by simp);rw[hH,cDe,Nat.mul_add,Nat.mul_one];omega
theorem aZa{q:den tPp}(h:q.2.2.2.length<=5):tot tPp q<=5:=by
 show tot ti q.1+(tot ti q.2.1+(tot ti q.2.2.1+tot (.sl bP) q.2.2.2))<=5;rw[cZ (t:=bP) rfl];show 0+(0+(0+q.2.2.2.length))<=5;omega
theorem aKj{p:den tPt}(h:eC p):tot tPt p<=18:=by
 have h1:=wP (t:=tPp) (B:=5) (l:=p) λx hx=>aZa (h.2 x hx)
 have h2:=h.1;show tot (.sl tPp) p<=18;have :(5+1) * cCv (α:=den tPp) p<=18:=by omega
 exact cCc h1 this
theorem aL7{n:Nat}{l:lPt}(h:aQs n l):tot (.sl tPt) l<=19 * n:=by
 have h1:=wP (t:=tPt) (B:=18) (l:=l) λx hx=>aKj (h.2 x hx)
 have h2:=h.1;have :(18+1) * l.length<=19 * n:=by omega
 exact cCc h1 this
theorem aG1{s:den tSg}(h:s.2.2.length<=5)(k i:Int):∃q:den tPp,cB s k i=some q/\q.2.2.2.length<=5:=⟨_,aEv (by omega),cCc (aF8 s k i) h⟩
theorem aSo{up down:den tSg}(h1:up.2.2.length<=5)(h2:down.2.2.length<=5):∀n:Nat,eC (aDj up down n)
 | 0=>aPg
 | n+1=>by
  unfold aDj;split
  .refine⟨by simp,λx hx=> ?_⟩;simp only[cCk,cC2,or_false]at hx;rcases hx with rfl | rfl
   .exact cCc (aF8 _ _ _) h1
   .exact cCc (aF8 _ _ _) h2
  .exact aSo h1 h2 n
theorem bOn{up down:den tSg}(h1:up.2.2.length<=5)(h2:down.2.2.length<=5):∃p,kT up down=some p/\eC p:=⟨_,bJ2 (by omega) (by omega),aSo h1 h2 _⟩
theorem aO3{p:lPp}(h:eC p):tot tPt p<=1073741824:=cCc (aKj h) (by decide)
theorem bKj{x:den tPp}(h:x.2.2.2.length<=5):eC [x]:=⟨by simp,λy hy=>by rw[cCn.1 hy];exact h⟩
theorem aZe{s:den tSg}(hs:s.2.2.length<=5)(k:Int){p:lPp}{n:Nat}(hp:p.length<=n/\ ∀x∈p,x.2.2.2.length<=5):(fN s k p).length<=n+1/\ ∀x∈fN s k p,x.2.2.2.length<=5:=by
 unfold fN;cases decide ((s.2.2.length:Int)>0) with
 | false=>exact⟨cCc hp.1 (Nat.le_succ _),hp.2⟩
 | true=>
  refine⟨by simp;exact hp.1,λx hx=> ?_⟩;rcases cCo.1 (show x∈p++[iF s k 0] from hx) with hx | hx
  .exact hp.2 x hx
  .rw[cCn.1 hx];exact cCc (aF8 s k 0) hs
theorem bB0{up core down:den tSg}(h1:up.2.2.length<=5)(h2:core.2.2.length<=5)(h3:down.2.2.length<=5)(b:Bool):eC (lS up core b down):=
 aZe h3 4 (n:=2) (aZe h2 (cond b 3 2) (n:=1) (aZe h1 1 (n:=0) ⟨by simp,λx hx=>(cC2 hx).elim⟩))
theorem aJh{k:den tDb}(h:DbS k){up down:den tSg}(h1:up.2.2.length<=5)(h3:down.2.2.length<=5)(a b:Int):∀p∈bF k.2 up a b down,eC p:=by
 intro p hp;unfold bF at hp;rcases cCo.1 hp with hp | hp
 .obtain⟨s,hs,hp⟩:=cDn.1 hp;rw[cCn.1 hp];exact bB0 h1 (h.hc1 s (cCw.1 hs).1) h3 false
 .obtain⟨s,hs,hp⟩:=cDn.1 hp;rw[cCn.1 hp];exact bB0 h1 (h.hc1 s (cCw.1 hs).1) h3 true
theorem aSd{t:den tTo}{k:den tDb}(h:DbS k)(a b:Int):∀p∈nC t k a b,eC p:=by
 intro p hp;have mu:∀s∈cA k.1 a,s.2.2.length<=5:=λs hs=>h.hd1 s (cCw.1 hs).1
 have md:∀s∈cA k.1 b,s.2.2.length<=5:=λs hs=>h.hd1 s (cCw.1 hs).1
 have one:∀(kind r:Int) (s:den tSg),s.2.2.length<=5-> ∀p∈lM kind r s,eC p:=λkind r s hs p hp=>by
  unfold lM at hp;cases hc:decide (fIx s.2.2 r>=0) with
  | false=>rw[hc]at hp;cases hp
  | true=>
   rw[hc]at hp;rw[cCn.1 hp];exact bKj (cCc (aF8 _ _ _) hs)
 unfold nC at hp;cases hc:(a==b||(!cD t a|| !cD t b)) with
 | true=>rw[hc]at hp;cases hp
 | false=>
 rw[hc]at hp;simp only[zY,cCo]at hp;rcases hp with (((((hp | hp) | hp) | hp) | hp) | hp) | hp
 .obtain⟨s,hs,hp⟩:=cDn.1 hp;exact one _ _ s (mu s hs) p hp
 .obtain⟨s,hs,hp⟩:=cDn.1 hp;exact one _ _ s (md s hs) p hp
 .exact aJh h (by decide) (by decide) _ _ p hp
 .obtain⟨u,hu,hp⟩:=cDn.1 hp;obtain⟨d,hd,hp⟩:=cDn.1 hp;unfold nW at hp;cases hq:decide (((yX u d).length:Int)>0) with
  | false=>rw[hq]at hp;cases hp
  | true=>
   rw[hq]at hp;rw[cCn.1 hp];exact aSo (mu u hu) (md d hd) _
 .cases hq:dV t a with
  | false=>rw[hq]at hp;cases hp
  | true=>
   rw[hq]at hp;obtain⟨d,hd,hp⟩:=cDn.1 hp;exact aJh h (by decide) (md d hd) _ _ p hp
 .cases hq:dV t b with
  | false=>rw[hq]at hp;cases hp
  | true=>
   rw[hq]at hp;obtain⟨u,hu,hp⟩:=cDn.1 hp;exact aJh h (mu u hu) (by decide) _ _ p hp
 .obtain⟨u,hu,hp⟩:=cDn.1 hp;obtain⟨d,hd,hp⟩:=cDn.1 hp;exact aJh h (mu u hu) (md d hd) _ _ p hp
theorem aUx{t:den tTo}{k:den tDb}(h:DbS k)(a b:Int):(nC t k a b).length<=100000:=by
 obtain⟨n1,n2,n3,n4,n5,n6,s1,s2,s4,s5,s6,s7⟩:=aFi h a b;have n7:((cA k.1 a).flatMap λu=>(cA k.1 b).flatMap λd=>bF k.2 u (bV u) (bV d) d).length<=54000:=by rw[cFj];exact s7
 unfold nC;cases (a==b||(!cD t a|| !cD t b)) with
 | true=>exact cCz _
 | false=>
 cases dV t a<;>cases dV t b<;>simp only[zY,zZ,cC3,cDj]<;>omega
def aFf(q:den tPp)(i:Nat):Int:=yK q (if kJ q.1 then i+1 else i)
def aBt(t:den tTo)(q:den tPp):Bool:=(q.2.2.2.zipIdx 0).all λz=>xQ t q.2.1 (aFf q z.2) z.1
def aKg(t:den tTo)(p:lPp):Bool:=p.all (aBt t)
theorem bTx{t:den tTo}{q:den tPp}(ht:t.1.length<=1000000)(h:q.2.2.2.length<=1000000):pH t q=some (aBt t q):=by
 unfold pH aBt pj2 pj4 pj5;rw[aM (l:=q.2.2.2) (λk (x:den bP)=>if xQ t q.2.1 (aFf q k) x then none else some false) (by omega) (λk x hi hd hw hx hk=>by
  have e1:mU (q.1,q.2.1,q.2.2.1,q.2.2.2) (k:Int)=some (yK q k):=bC5 (p:=q) (by omega) (by omega);have e2:mU (q.1,q.2.1,q.2.2.1,q.2.2.2) ((k+1:Nat):Int)=some (yK q (k+1)):=bC5 (p:=q) (by omega) (by omega);have e3:∀b,qS (t.1,t.2) q.2.1 b (x.1,x.2.1,x.2.2.1,x.2.2.2.1,x.2.2.2.2)=some (xQ t q.2.1 b x):=λb=>bY1 (t:=t) (h:=x) (by omega)
  simp only[hd,hi,hw,zZ,aA,e1,e2,e3,aIz];unfold aFf;cases kJ q.1 with
  | true=>
   simp only[zZ,aA,e3,zV];cases xQ t q.2.1 (yK q (k+1)) x<;>rfl
  | false=>
   simp only[zY,aA,e3,cCs,zU];cases xQ t q.2.1 (yK q k) x<;>rfl) (by simp),aAj]
 cases (q.2.2.2.zipIdx 0).all λz=>xQ t q.2.1 (aFf q z.2) z.1<;>rfl
theorem bV3{t:den tTo}{q:den tPp}(ht:t.1.length<=1000000)(h:q.2.2.2.length<=1000000):oS t q=some (aBt t q):=by
 unfold oS aBt pj2 pj4 pj5;rw[aM (l:=q.2.2.2) (λk (x:den bP)=>if xQ t q.2.1 (aFf q k) x then none else some false) (by omega) (λk x hi hd hw hx hk=>by
  have e1:iE (q.1,q.2.1,q.2.2.1,q.2.2.2) (k:Int)=some (yK q k):=aTq (p:=q) (by omega) (by omega);have e2:iE (q.1,q.2.1,q.2.2.1,q.2.2.2) ((k+1:Nat):Int)=some (yK q (k+1)):=aTq (p:=q) (by omega) (by omega);have e3:∀b,gE (t.1,t.2) q.2.1 b (x.1,x.2.1,x.2.2.1,x.2.2.2.1,x.2.2.2.2)=some (xQ t q.2.1 b x):=λb=>aZ6 (t:=t) (h:=x) (by omega)
  have eb:yG (q.1,q.2.1,q.2.2.1,q.2.2.2) (k:Int)=some (aFf q k):=by
   unfold yG aFf pj4;simp only[aF1,aA,hw,e1,e2];cases kJ q.1<;>rfl
  simp only[hd,hi,hw,zZ,aA,eb,e3];cases xQ t q.2.1 (aFf q k) x<;>rfl) (by simp),aAj]
 cases (q.2.2.2.zipIdx 0).all λz=>xQ t q.2.1 (aFf q z.2) z.1<;>rfl
theorem bXc{t:den tTo}{p:lPp}(ht:t.1.length<=1000000)(h:eC p):oK t p=some (aKg t p):=by
 have h3:=h.1;unfold oK aKg pj2 pj4;rw[aM (l:=p) (λ_ (x:den tPp)=>if aBt t x then none else some false) (by omega) (λk x hi hd hw hx hk=>by
  have e:pH (t.1,t.2) (x.1,x.2.1,x.2.2.1,x.2.2.2)=some (aBt t x):=bTx (t:=t) (q:=x) ht (cCc (h.2 x hx) (by decide));simp only[hd,hi,hw,zZ,aA,e];cases aBt t x<;>rfl) (by simp),kK]
 cases p.all (aBt t)<;>rfl
theorem bYl{t:den tTo}{p:lPp}(ht:t.1.length<=1000000)(h:eC p):oF t p=some (aKg t p):=by
 have h3:=h.1;unfold oF aKg pj2 pj4;rw[aM (l:=p) (λ_ (x:den tPp)=>if aBt t x then none else some false) (by omega) (λk x hi hd hw hx hk=>by
  have e:oS (t.1,t.2) (x.1,x.2.1,x.2.2.1,x.2.2.2)=some (aBt t x):=bV3 (t:=t) (q:=x) ht (cCc (h.2 x hx) (by decide));simp only[hd,hi,hw,zZ,aA,e];cases aBt t x<;>rfl) (by simp),kK]
 cases p.all (aBt t)<;>rfl
def aBh(now:Int)(l:bQ):Bool:=l.all λh=>decide (now<=h.2.2.2.1)
def aGi(t:den tTo)(p:lPp)(now:Int):Bool:=cond (sC t p&&aKg t p) (p.all λx=> !decide (x.2.1>now)&&aBh now x.2.2.2) false
theorem aOu(now:Int):∀(l:bQ) (a:Int),decide (now>(l.foldl nR (a,true)).1)= !(decide (now<=a)&&aBh now l)
 | [],a=>by
  show decide (now>a)= !(decide (now<=a)&&true)
  by_cases h:now<=a
  .rw[zX h,zW (by omega)];rfl
  .rw[zW h,zX (by omega)];rfl
 | h::l,a=>by
  rw[cEa];unfold aBh;rw[cEe]
  by_cases c:h.2.2.2.1<a
  .have e2:nR (a,true) h=(h.2.2.2.1,true):=by unfold nR;simp[c]
   rw[e2,aOu now l];unfold aBh
   by_cases d:now<=h.2.2.2.1
   .rw[zX d,zX (cEu d (Int.le_of_lt c))];rfl
   .rw[zW d];simp
  .have e2:nR (a,true) h=(a,true):=by unfold nR;simp[c]
   rw[e2,aOu now l];unfold aBh
   by_cases d:now<=a
   .rw[zX d,zX (cEu d (Int.not_lt.1 c))];rfl
   .rw[zW d];rfl
theorem bQb{now:Int}{l:bQ}(h:l≠[]):decide (now>wB l)= !aBh now l:=by
 cases l with
 | nil=>exact absurd rfl h
 | cons x l=>
  unfold wB;rw[cEa];have e2:nR (0,false) x=(x.2.2.2.1,true):=by unfold nR;simp
  rw[e2,aOu];unfold aBh;rw[cEe]
theorem bNp{l:bQ}(hl:l.length<=1000000):gR l=some (wB l):=by
 unfold gR;rw[fS (λk (a:Int)=>(a,(k:Int))) ((0:Int),(0:Int)) 0 l zF (λ_=>0) (λ_=>0) 1 id rfl (by omega) (by rw[sum_nil];omega) (λk x a=>by omega) (λk x a hi hx hd hw hk hb=>by
  simp only[hd,hi,hw,zZ,aA];unfold zF
  by_cases h0:k=0
  .subst h0;rw[zT (.inl rfl)];rfl
  .rw[show ((k:Int)==0)=false by rw[beq_eq_false_iff_ne];omega];simp only[zY,aA]
   by_cases c:x.2.2.2.1<a
   .rw[zX c,zT (.inr c)];rfl
   .rw[zW c,zS (by rintro (e | e);exact h0 e;exact c e)];rfl) (λa=>by simp),aYa]
 rfl
theorem aNo{t:den tTo}{p:den tPt}(h:wfP t p=true){k:Nat}{x:den tPp}(hx:p[k]? =some x):rZ t x=true/\(k=0\/aM6 ((p[k - 1]?).getD pt0) x=true):=by
 unfold wfP at h;rw[cCf]at h;have :=(xH (zA t p) p).1 h.2 k x hx;unfold zA at this;rw[cCf,cD1,zR]at this;exact this
theorem aPh{t:den tTo}{x:den tPp}(h:rZ t x=true):0<x.2.2.2.length:=by
 unfold rZ at h;rw[cCf]at h;have :=(cE.1 h.1).1;omega
theorem bA6{t:den tTo}{p:lPp}(h:sC t p=true):∀x∈p,x.2.2.2≠[]:=by
 intro x hx e;unfold sC at h;rw[cCf]at h;obtain⟨k,hk⟩:=cE4.1 hx;have :=aPh (aNo h.1 hk).1;rw[e]at this;exact absurd this (by decide)
theorem bW5{t:den tTo}{p:lPp}(ht:t.1.length<=1000000)(h2:t.2.length<=1000000)(h:eC p)(now:Int):oQ t p now=some (aGi t p now):=by
 have h3:=h.1;have e1:oV (t.1,t.2) p=some (sC t p):=bJs (t:=t) (p:=p) (by omega) (by omega) (aO3 h);have e2:oK (t.1,t.2) p=some (aKg t p):=bXc (t:=t) ht h;unfold oQ aGi pj2;simp only[e1,e2,aA];cases c1:sC t p with
 | false=>rfl
 | true=>
  cases c2:aKg t p with
  | false=>rfl
  | true=>
   simp only[cCd,zY,aA,cD7,zZ];rw[aM (l:=p) (λ_ (x:den tPp)=>if !decide (x.2.1>now)&&aBh now x.2.2.2 then none else some false) (by omega) (λk x hi hd hw hx hk=>by
    have e:gR x.2.2.2=some (wB x.2.2.2):=bNp (cCc (h.2 x hx) (by decide));simp only[hd,hi,hw,zZ,aA,e,bQb (now:=now) (bA6 c1 x hx)];cases decide (x.2.1>now)<;>cases aBh now x.2.2.2<;>rfl) (by simp),kK]
   cases p.all λx=> !decide (x.2.1>now)&&aBh now x.2.2.2<;>rfl
theorem bY3{t:den tTo}{p:lPp}(ht:t.1.length<=1000000)(h2:t.2.length<=1000000)(h:eC p)(now:Int):oH t p now=some (aGi t p now):=by
 have h3:=h.1;have e1:kO (t.1,t.2) p=some (sC t p):=aUp (t:=t) (p:=p) (by omega) (by omega) (aO3 h);have e2:oF (t.1,t.2) p=some (aKg t p):=bYl (t:=t) ht h;unfold oH aGi pj2 pj5;simp only[e1,e2,aA];cases c1:sC t p with
 | false=>rfl
 | true=>
  cases c2:aKg t p with
  | false=>rfl
  | true=>
   simp only[cCd,zY,aA,cD7,zZ];rw[aM (l:=p) (λ_ (x:den tPp)=>if !decide (x.2.1>now)&&aBh now x.2.2.2 then none else some false) (by omega) (λk x hi hd hw hx hk=>by
    have hx3:=h.2 x hx;simp only[hd,hi,hw,zZ,aA];cases c:decide (x.2.1>now) with
    | true=>rfl
    | false=>
     simp only[zY];rw[aM (l:=x.2.2.2) (λ_ (y:den bP)=>if decide (now<=y.2.2.2.1) then none else some (cCa (cCa false))) (by omega) (λj y hj hd' hw' hy hk'=>by
      have ehv:∀(hp:den bP) (n:Int),mR hp n=some (decide (n<=hp.2.2.2.1)):=λ_ _=>rfl
      simp only[hd',hj,hw',zZ,aA,ehv];cases decide (now<=y.2.2.2.1)<;>rfl) (by simp),kK]
     unfold aBh;cases x.2.2.2.all λy=>decide (now<=y.2.2.2.1)<;>rfl) (by simp),kK]
   cases p.all λx=> !decide (x.2.1>now)&&aBh now x.2.2.2<;>rfl
noncomputable def aDg(l:List lPp)(p:lPp):Bool:=l.any λx=>oM x p
theorem aOj{α:Type}(p:α->Bool):∀(l:List α) (k:Nat),bU (λ_ x=>if p x then some true else none) k l=if l.any p then some true else none
 | [],_=>rfl
 | x::l,k=>by
  rw[List.any_cons];unfold bU
  by_cases h:p x=true
  .rw[zT h,h];rfl
  .rw[zS h];have h':p x=false:=by simpa using h
   rw[h',cEb];exact aOj p l (k+1)
theorem aKs{p:lPp}(h:eC p):SmB 68719476736 (.sl tPp) p:=(bB (t:=tPt) (aO3 h)).mono (by decide)
theorem bVs{l:List lPp}{p:lPp}(hl:l.length<=1000000)(h:∀x∈l,eC x)(hp:eC p):vS l p=some (aDg l p):=by
 unfold vS aDg;rw[aM (l:=l) (λ_ (x:lPp)=>if oM x p then some true else none) (by omega) (λk x hi hd hw hx hk=>by
  have e:gZ x p=some (oM x p):=aTv (aKs (h x hx)) (aKs hp);simp only[hd,hi,hw,zZ,aA,e];cases oM x p<;>rfl) (by simp),aOj (λx=>oM x p)]
 cases l.any λx=>oM x p<;>rfl
theorem bVy{l:List lPp}{p:lPp}(hl:l.length<=1000000)(h:∀x∈l,eC x)(hp:eC p):vX l p=some (aDg l p):=by
 unfold vX aDg;rw[aM (l:=l) (λ_ (x:lPp)=>if oM x p then some true else none) (by omega) (λk x hi hd hw hx hk=>by
  have e:lE x p=some (oM x p):=bC1 (aKs (h x hx)) (aKs hp);simp only[hd,hi,hw,zZ,aA,e];cases oM x p<;>rfl) (by simp),aOj (λx=>oM x p)]
 cases l.any λx=>oM x p<;>rfl
noncomputable def tD(t:den tTo)(now:Int)(l:List lPp)(p:lPp):List lPp:=
 cond (decide ((l.length:Int)<24)) (cond (aGi t p now) (cond (aDg l p) l (l++[p])) l) l
noncomputable def aEi(t:den tTo)(k:den tDb)(a b now:Int):List lPp:=(nC t k a b).foldl (tD t now) []
theorem aYz{t:den tTo}{now:Int}{l:List lPp}{p:lPp}(h:l.length<=24/\ ∀x∈l,eC x)(hp:eC p):(tD t now l p).length<=24/\ ∀x∈tD t now l p,eC x:=by
 unfold tD
 by_cases hc:(l.length:Int)<24
 .rw[zX hc,zZ];cases aGi t p now with
  | false=>exact h
  | true=>
   cases aDg l p with
   | true=>exact h
   | false=>
    refine⟨by simp;omega,λx hx=> ?_⟩;rcases cCo.1 (show x∈l++[p] from hx) with hx | hx
    .exact h.2 x hx
    .rw[cCn.1 hx];exact hp
 .rw[zW hc];exact h
theorem bJp{t:den tTo}{now:Int}:∀(m l:List lPp),(∀p∈m,eC p)->l.length<=24->(∀x∈l,eC x)->(m.foldl (tD t now) l).length<=24/\ ∀x∈m.foldl (tD t now) l,eC x
 | [],l,_,h1,h2=>⟨h1,h2⟩
 | p::m,l,h,h1,h2=>by
  obtain⟨a,b⟩:=aYz (t:=t) (now:=now) ⟨h1,h2⟩ (h p (by simp));exact bJp m _ (λq hq=>h q (cCu _ hq)) a b
theorem aVm{t:den tTo}{now:Int}:∀(m l:List lPp),¬ ((l.length:Int)<24)->m.foldl (tD t now) l=l
 | [],_,_=>rfl
 | p::m,l,h=>by
  have e:tD t now l p=l:=by unfold tD;rw[zW h];rfl
  rw[cEa,e];exact aVm m l h
theorem bWd{t:den tTo}{k:den tDb}(ht:t.1.length<=1000000)(h2:t.2.length<=1000000)(h:DbS k)(a b now:Int):oA t k a b now=some (aEi t k a b now):=by
 have e0:lK (t.1,t.2) (k.1,k.2) a b=some (nC t k a b):=bZb (t:=t) (k:=k) ht h a b;have hB:=aSd (t:=t) h a b;have hL:=aUx (t:=t) h a b;unfold oA aEi pj2;rw[e0,aA];rw[(aMv (l:=nC t k a b) (tD t now) (λ_ l=>l.length<=24/\ ∀x∈l,eC x) (out:=λx=>x) (by omega) ⟨by simp,λx hx=>(cC2 hx).elim⟩ (λi p l hi hd hw hp hk hI=>by
  have e1:oQ (t.1,t.2) p now=some (aGi t p now):=bW5 (t:=t) ht h2 (hB p hp) now;have e2:vS l p=some (aDg l p):=bVs (by omega) hI.2 (hB p hp);refine⟨?_,aYz hI (hB p hp)⟩;unfold tD;simp only[hd,hi,hw,zZ,aA,e1,e2,aE (b:=24) (n:=l.length) (m:=1) (by decide) (by omega)];cases decide ((l.length:Int)<24)<;>cases aGi t p now<;>cases aDg l p<;>rfl) (λl=>by simp)).1]
 rfl
theorem aT5{t:den tTo}{k:den tDb}(ht:t.1.length<=1000000)(h2:t.2.length<=1000000)(h:DbS k)(a b now:Int):hP t k a b now=some (aEi t k a b now):=by
 have e0:lY (t.1,t.2) (k.1,k.2) a b=some (nC t k a b):=bXw (t:=t) (k:=k) ht h a b;have hB:=aSd (t:=t) h a b;have hL:=aUx (t:=t) h a b;unfold hP aEi ixb pj2;rw[e0,aA];have key:∀(G:Int×List lPp->Option ((Int×List lPp)⊕List lPp)),
   (∀(i:Nat) (p:lPp) (l:List lPp),(nC t k a b)[i]? =some p->i<(nC t k a b).length->p∈nC t k a b->l.length<=24->(∀x∈l,eC x)->(l.length:Int)<24->G ((i:Int),l)=some (.inl (((i+1:Nat):Int),tD t now l p)))->
   (∀(i:Nat) (l:List lPp),i<=(nC t k a b).length->(i=(nC t k a b).length\/ ¬ ((l.length:Int)<24))->G ((i:Int),l)=some (.inr l))->
   ∀(rest pre l:List lPp),pre++rest=nC t k a b->l.length<=24->(∀x∈l,eC x)->aC G ((pre.length:Int),l)=some (rest.foldl (tD t now) l):=by
  intro G hs he rest
  induction rest with
  | nil=>intro pre l hp h1 h3;exact bH (he pre.length l (by rw[<- hp];simp) (.inl (by rw[<- hp];simp)))
  | cons p rest ih=>
   intro pre l hp h1 h3;have hlt:pre.length<(nC t k a b).length:=by rw[<- hp];simp
   have hx:(nC t k a b)[pre.length]? =some p:=by rw[<- hp];simp
   by_cases hc:(l.length:Int)<24
   .have hpB:=hB p (cCt hx);obtain⟨q1,q2⟩:=aYz (t:=t) (now:=now) ⟨h1,h3⟩ hpB;rw[dA (hs pre.length p l hx hlt (cCt hx) h1 h3 hc),cEa];have :=ih (pre++[p]) (tD t now l p) (by simpa using hp) q1 q2;simpa using this
   .rw[aVm _ _ hc];exact bH (he pre.length l (by omega) (.inr hc))
 refine (congrArg (λo=>Option.bind o _) (key _ (λi p l hx hi hp h1 h3 hc=> ?_) (λi l hi hc=> ?_) (nC t k a b) [] [] rfl (by simp) (λx hx=>(cC2 hx).elim))).trans ?_
 .have e1:oH (t.1,t.2) p now=some (aGi t p now):=bY3 (t:=t) ht h2 (hB p hp) now;have e2:vX l p=some (aDg l p):=bVy (by omega) h3 (hB p hp);have hd:decide ((i:Int)<((nC t k a b).length:Int))=true:=zX (by omega);have hw:wr ((i:Int)+1)=((i+1:Nat):Int):=bK (by omega);unfold tD;simp only[hd,bZ,hw,zZ,cCm,hx,aA,e1,e2,zX hc,aE (b:=24) (n:=l.length) (m:=1) (by decide) (by omega)];cases aGi t p now<;>cases aDg l p<;>rfl
 .rcases hc with rfl | hc
  .simp only[zW (cC0 _),zY,aA]
  .cases decide ((i:Int)<((nC t k a b).length:Int)) with
   | false=>simp only[zY,aA]
   | true=>simp only[zZ,aA,zW hc,zY]
 .rfl
theorem bWa{t:den tTo}{k:den tDb}(h:DbS k)(a b now:Int):aQs 24 (aEi t k a b now):=bJp _ _ (aSd h a b) (by simp) (λx hx=>(cC2 hx).elim)
theorem aLg{code:List Int}(hl:code.length<=1048576){n:Nat}(hn:n<=1000){c:List Int}{p h:Int}(hc:Cur code (c,p,h)):∃l c' p' h',dS (c,p,h) (n:Int)=some (l,c',p',h')/\(l.length=n/\ ∀x∈l,0<=x/\x<=255)/\Cur code (c',p',h'):=by
 unfold dS pj3 pj4;refine fL (G:=λo=> ∃l c' p' h',o=some (l,c',p',h')/\(l.length=n/\ ∀x∈l,0<=x/\x<=255)/\Cur code (c',p',h')) n (λs:Int×List Int×List Int×Int×Int=>s.1) (λi s=>(s.2.1.length=i/\ ∀x∈s.2.1,0<=x/\x<=255)/\Cur code s.2.2) (λr:List Int×List Int×Int×Int=>(r.1.length=n/\ ∀x∈r.1,0<=x/\x<=255)/\Cur code r.2) ?_ ?_ 0 ((0:Int),[],c,p,h) (by omega) rfl ⟨⟨rfl,λx hx=>(cC2 hx).elim⟩,hc⟩ (λr hr=>⟨r.1,r.2.1,r.2.2.1,r.2.2.2,rfl,hr.1,hr.2⟩)
 .rintro i ⟨_,l,c1,p1,h1⟩ hi rfl ⟨⟨g1,g2⟩,k1⟩
  simp only at g1 g2 k1;obtain⟨v,c2,p2,h2,e2,r2,k2⟩:=aGr hl k1;obtain⟨m,rfl⟩:=cC5 r2.1;right;refine⟨(((i+1:Nat):Int),l++[(m:Int)],c2,p2,h2),?_,rfl,⟨by simp[g1],λx hx=>(cCo.1 hx).elim (g2 x) λhx=>by rw[cCn.1 hx];omega⟩,k2⟩;simp only[zX (show (i:Int)<(n:Int) by omega),zZ,e2,aA,aE (b:=1) (n:=l.length) (m:=1) (by decide) (by omega),bK (show i<=1000000000 by omega),aNy (n:=m) (by omega)]
 .rintro⟨_,l,c1,p1,h1⟩ rfl ⟨g,k1⟩
  exact⟨(l,c1,p1,h1),by simp only[zW (cC0 _),zY],g,k1⟩
theorem bKv{up down:den tSg}(h1:up.2.2.length<=5)(h2:down.2.2.length<=5):∃p,pZ up down=some p/\eC p:=by
 obtain⟨p,e,k⟩:=bOn h1 h2;unfold kT pj3 at e;refine⟨p,?_,k⟩;cases hm:pZ (up.1,up.2.1,up.2.2) (down.1,down.2.1,down.2.2) with
 | none=>rw[hm]at e;cases e
 | some q=>rw[hm,aA]at e;cases e;rfl
def bZc(code:List Int)(o:Option (lAS×lLk×lPp×List Int×q30)):Prop:= ∃(as:lAS) (ls:lLk) (q:lPp) (c':List Int) (p' h':Int),o=some (as,ls,q,c',p',h')/\eC q/\zQ as ls/\Cur code (c',p',h')
theorem aY9{q:den tPp}(h:q.2.2.2.length<=5):eC [q]:=⟨by simp,λx hx=>by
 have hx:x∈[q]:=hx;rw[cCn.1 hx];exact h⟩
abbrev PdS:=Int×Int×Int×Int×Int×bQ×bQ×List Int×Int×Int
theorem aZx{code:List Int}(hl:code.length<=1048576){c:List Int}{p h:Int}(hc:Cur code (c,p,h)):bZc code (tR (c,p,h)):=by
 obtain⟨as,ls,c1,p1,h1,e1,ht,k1⟩:=aNm hl hc;obtain⟨t2,b2,s2,c2,p2,h2,e2,l2,k2⟩:=aGd hl ht 2 k1;obtain⟨t3,b3,s3,c3,p3,h3,e3,l3,k3⟩:=aGd hl ht 2 k2;obtain⟨t4,b4,s4,c4,p4,h4,e4,l4,k4⟩:=aGd hl ht 1 k3;obtain⟨v5,c5,p5,h5,e5,r5,k5⟩:=aH hl (n:=5) (by decide) (by decide) k4;unfold tR dd one pj3 pj4 pj6 pj9 zz4 zz5 zz6 zz7;simp only[e1,e2,e3,e4,e5,aA,aT,bI,aX,aY,aZ,show aG 48 0 1=true from by decide,zZ];cases v5==(0:Int) with
 | true=>
  obtain⟨q,eq,kq⟩:=bKv (up:=(t2,b2,s2)) (down:=(t3,b3,s3)) l2 l3;exact⟨as,ls,q,c5,p5,h5,by simp only[zZ,eq,aA],kq,ht,k5⟩
 | false=>
  cases v5==(1:Int) with
  | true=>
   simp only[zZ,zY]
   by_cases hs:(s2.length:Int)>0
   .obtain⟨v6,c6,p6,h6,e6,r6,k6⟩:=pJ hl (l:=[(1:Int),(4:Int)]) (by decide) (by decide) k5;obtain⟨q,eq,kq⟩:=aG1 (s:=(t2,b2,s2)) l2 v6 0;exact⟨as,ls,[q],c6,p6,h6,by simp only[zX hs,zZ,e6,eq,aA],aY9 kq,ht,k6⟩
   .exact⟨as,ls,[],c5,p5,h5,by simp only[zW hs,zY,aA],aPg,ht,k5⟩
  | false=>
   cases v5==(2:Int) with
   | true=>
    simp only[zZ,zY]
    by_cases hs:(s4.length:Int)>0
    .obtain⟨v6,c6,p6,h6,e6,r6,k6⟩:=pJ hl (l:=[(2:Int),(3:Int)]) (by decide) (by decide) k5;obtain⟨q,eq,kq⟩:=aG1 (s:=(t4,b4,s4)) l4 v6 0;exact⟨as,ls,[q],c6,p6,h6,by simp only[zX hs,zZ,e6,eq,aA],aY9 kq,ht,k6⟩
    .exact⟨as,ls,[],c5,p5,h5,by simp only[zW hs,zY,aA],aPg,ht,k5⟩
   | false=>
    simp only[zY];obtain⟨fc,efc⟩:=aJz (s:=(t4,b4,s4));obtain⟨lc,elc⟩:=bMs (s:=(t4,b4,s4)) (by show s4.length<=_;omega);refine fL (G:=bZc code) 6 (λs:PdS=>s.1) (λi s=>s.2.2.2.2.2.1.length<=5/\s.2.2.2.2.2.2.1.length<=5/\Cur code s.2.2.2.2.2.2.2) (λr:Int×Int×Int×Int×bQ×bQ×List Int×Int×Int=>r.2.2.2.2.1.length<=5/\r.2.2.2.2.2.1.length<=5/\Cur code r.2.2.2.2.2.2) ?_ ?_ 0 ((0:Int),t2,b2,t3,b3,s2,s3,c5,p5,h5) (by omega) rfl ⟨l2,l3,k5⟩ ?_
    .rintro i ⟨_,ut,ub,dt,db,us,ds,c6,p6,h6⟩ hi rfl ⟨g1,g2,g3⟩
     simp only at g1 g2 g3;simp only[zX (show (i:Int)<6 by omega),zZ,aA,efc,elc];cases decide ((s4.length:Int)>0) with
     | false=>exact .inl ⟨(ut,ub,dt,db,us,ds,c6,p6,h6),rfl,g1,g2,g3⟩
     | true=>
      right;obtain⟨fu,efu⟩:=aJz (s:=(ut,ub,us));obtain⟨fd,efd⟩:=aJz (s:=(dt,db,ds));simp only[zZ,efu,efd,aA];obtain⟨x1,ex1⟩:∃b:Bool,(cond (decide ((us.length:Int)>(0:Int))) (some (fu != fc)) (some false))=some b:=by cases decide ((us.length:Int)>(0:Int))<;>exact⟨_,rfl⟩
      obtain⟨x2,ex2⟩:∃b:Bool,(cond (decide ((ds.length:Int)>(0:Int))) (some (fd != lc)) (some false))=some b:=by cases decide ((ds.length:Int)>(0:Int))<;>exact⟨_,rfl⟩
      simp only[ex1,ex2,aA];obtain⟨y1,y2,y3,c7,p7,h7,ey,ly,ky⟩:∃a b hs c p h,(cond x1 (Option.bind (fZ (c6,p6,h6) (as,ls) (2:Int)) λy72=>some (y72.1,y72.2.1,y72.2.2.1,y72.2.2.2.1,y72.2.2.2.2.1,y72.2.2.2.2.2)) (some (ut,ub,us,c6,p6,h6)))=some (a,b,hs,c,p,h)/\hs.length<=5/\Cur code (c,p,h):=by
       cases x1 with
       | false=>exact⟨ut,ub,us,c6,p6,h6,rfl,g1,g3⟩
       | true=>
        obtain⟨a,b,hs,c,p,h,eg,lg,kg⟩:=aGd hl ht 2 g3;exact⟨a,b,hs,c,p,h,by simp only[zZ,eg,aA],lg,kg⟩
      rw[ey,aA];simp only;cases x2 with
      | false=>exact⟨_,rfl,bK (show i<=1000000000 by omega),ly,g2,ky⟩
      | true=>
       obtain⟨a,b,hs,c,p,h,eg,lg,kg⟩:=aGd hl ht 2 ky;refine⟨_,by simp only[zZ,eg,aA];rfl,bK (show i<=1000000000 by omega),ly,lg,kg⟩
    .rintro⟨_,ut,ub,dt,db,us,ds,c6,p6,h6⟩ rfl ⟨g1,g2,g3⟩
     exact⟨(ut,ub,dt,db,us,ds,c6,p6,h6),by simp only[show decide (((6:Nat):Int)<(6:Int))=false from rfl,zY,aA],g1,g2,g3⟩
    rintro⟨ut,ub,dt,db,us,ds,c6,p6,h6⟩ ⟨g1,g2,g3⟩
    simp only at g1 g2 g3;obtain⟨q1,f1,m1⟩:=aG1 (s:=(ut,ub,us)) g1 1 0;obtain⟨q2,f2,m2⟩:=aG1 (s:=(t4,b4,s4)) l4 2 0;obtain⟨q3,f3,m3⟩:=aG1 (s:=(dt,db,ds)) g2 4 0;have one:∀(l:lPp) (q:den tPp) (n:Nat),l.length<=n->q.2.2.2.length<=5->(∀x∈l,x.2.2.2.length<=5)->(l++[q]).length<=n+1/\ ∀x∈l++[q],x.2.2.2.length<=5:=λl q n hl hq h=>⟨by simp;omega,λx hx=>(cCo.1 hx).elim (h x) λhx=>by rw[cCn.1 hx];exact hq⟩
    simp only[f1,f2,f3,aA];obtain⟨a1,j1,i1,i2⟩:∃l:lPp,(cond (decide ((us.length:Int)>(0:Int))) (some [q1]) (some []))=some l/\l.length<=1/\ ∀x∈l,x.2.2.2.length<=5:=by
     cases decide ((us.length:Int)>(0:Int))
     .exact⟨[],rfl,by simp,λx hx=>(cC2 hx).elim⟩
     .exact⟨[q1],rfl,by simp,λx hx=>by rw[cCn.1 hx];exact m1⟩
    rw[show ((q1.1,q1.2.1,q1.2.2.1,q1.2.2.2):den tPp)=q1 from rfl,j1,aA,aE (b:=48) (n:=a1.length) (m:=1) (by decide) (by omega)];obtain⟨a2,j2,i3,i4⟩:∃l:lPp,(cond (decide ((s4.length:Int)>(0:Int))) (cond true (some (a1++[q2])) none) (some a1))=some l/\l.length<=2/\ ∀x∈l,x.2.2.2.length<=5:=by
     cases decide ((s4.length:Int)>(0:Int))
     .exact⟨a1,rfl,by omega,i2⟩
     .exact⟨a1++[q2],rfl,one a1 q2 1 i1 m2 i2⟩
    rw[show ((q2.1,q2.2.1,q2.2.2.1,q2.2.2.2):den tPp)=q2 from rfl,j2,aA,aE (b:=48) (n:=a2.length) (m:=1) (by decide) (by omega)];cases decide ((ds.length:Int)>(0:Int))
    .exact⟨as,ls,a2,c6,p6,h6,rfl,⟨cCc i3 (by decide),i4⟩,ht,g3⟩
    .exact⟨as,ls,a2++[q3],c6,p6,h6,rfl,one a2 q3 2 i3 m3 i4,ht,g3⟩
structure cBj (p:den tPk):Prop where
 path:eC p.2.2.2.1
 len:p.2.2.2.2.2.2.2.2.2.length<=1000
 bytes:∀x∈p.2.2.2.2.2.2.2.2.2,(0:Int)<=x/\x<=(255:Int)
theorem bT3{code:List Int}(hl:code.length<=1048576){c:List Int}{p h:Int}(hc:Cur code (c,p,h)):∃(as:lAS) (ls:lLk) (k:den tPk) (c':List Int) (p' h':Int),xY (c,p,h)=some (as,ls,k.1,k.2.1,k.2.2.1,k.2.2.2.2.1,k.2.2.2.2.2.1,k.2.2.2.2.2.2.1,k.2.2.2.2.2.2.2.1,k.2.2.2.2.2.2.2.2.1,k.2.2.2.1,k.2.2.2.2.2.2.2.2.2,c',p',h')/\cBj k/\zQ as ls/\Cur code (c',p',h'):=by
 obtain⟨as,ls,q,c1,p1,h1,e1,kq,kt,k1⟩:=aZx hl hc;obtain⟨v2,c2,p2,h2,e2,r2,k2⟩:=aH hl (n:=3) (by decide) (by decide) k1;obtain⟨v3,c3,p3,h3,e3,r3,k3⟩:=aH hl (n:=9) (by decide) (by decide) k2;obtain⟨v4,c4,p4,h4,e4,r4,k4⟩:=aH hl (n:=3) (by decide) (by decide) k3;obtain⟨v5,c5,p5,h5,e5,r5,k5⟩:=aH hl (n:=4) (by decide) (by decide) k4;obtain⟨m5,rfl⟩:=cC5 r5.1;obtain⟨l6,c6,p6,h6,e6,⟨r6,b6⟩,k6⟩:=aLg hl (n:=m5) (by omega) k5;have e7:=aNk (kind:=wr (1+v2)) (res:=v4) (seq:=v3) (p:=q) (pay:=l6) (cCc (aKj kq) (by decide)) (by omega);refine⟨as,ls,aG6 (wr (1+v2)) q v4 v3 l6,c6,p6,h6,?_,⟨kq,by show l6.length<=_;omega,b6⟩,kt,k6⟩;unfold xY dd bZf pj3 zz4 zz5 zz6 zz7 zz8 zz9;simp only[e1,e2,e3,e4,e5,e6,e7,aA,aT,bI,aX,aY,aZ];rfl
theorem bKg(a b:Int):tB a b=some (a,b,0,[]):=rfl
def RvD(l:lRv):Prop:=l.length<=16/\ ∀y∈l,eW y=true
theorem bPr{l:lRv}{x:den tRv}(h:RvD l):RvD (aOm l x):=by
 obtain⟨h1,h2⟩:=h;unfold aOm;cases hv:eW x with
 | false=>exact⟨h1,h2⟩
 | true=>
  simp only[zZ];cases hs:bU (aEo x l) 0 l with
  | some r=>
   have :=aMq (λr:lRv=> @ite Nat (RvD r) (Classical.propDecidable _) 0 1) 0 (g:=aEo x l) (l:=l) (k:=0) (λj y r' hy hr=>by
    have hp:RvD r':=by
     unfold aEo at hr;cases c1:y.1==x.1 with
     | false=>rw[c1]at hr;cases hr
     | true=>
      cases c2:y.2.1==x.2.1 with
      | false=>rw[c1,c2]at hr;cases hr
      | true=>
       rw[c1,c2]at hr;injection hr with hr;rw[<- hr];have hy':=h2 y (cCt hy);refine⟨by simpa using h1,λz hz=> ?_⟩;rcases cEt hz with hz | rfl
       .exact h2 z hz
       .unfold eW at hv hy' ⊢;simp only[cCf]at hv hy' ⊢;refine⟨hy'.1,hy'.2.1,?_⟩;split
        .exact hv.2.2
        .exact hy'.2.2
    simp only[zT hp];exact cCx _) r hs
   by_cases hp:RvD r
   .exact hp
   .simp only[zS hp]at this;omega
  | none=>
   have hx:∀y∈l++[x],eW y=true:=λy hy=>(cCo.1 hy).elim (h2 y) λhy=>by rw[cCn.1 hy];exact hv
   by_cases c:16<l.length+1
   .simp only[c,zV];exact⟨by simp;omega,λy hy=>hx y (cD4 hy)⟩
   .simp only[c,zU];exact⟨by simp;omega,hx⟩
theorem yY(a b c d cu wa:Int)(ms:lMs)(ps:lPt)(rv:lRv):tot tFl (a,b,c,d,ms,ps,cu,wa,rv)=tot (.sl tMs) ms+tot (.sl tPt) ps+rv.length:=by
 show tot ti a+(tot ti b+(tot ti c+(tot ti d+(tot (.sl tMs) ms+(tot (.sl tPt) ps+(tot ti cu+(tot ti wa+tot (.sl tRv) rv)))))))=_;rw[cZ (t:=tRv) rfl];show 0+(0+(0+(0+(_+(_+(0+(0+_)))))))=_;omega
theorem bBb(b:List Int):tot (.sl tMs) [b]=1+b.length:=by
 rw[hH];show 1+tot (.sl tb) b+tot (.sl tMs) []=_;rw[cZ (t:=tb) rfl];rfl
theorem qG(f:den tFl):iJ f=true↔inR f.1 0 7=true/\inR f.2.1 0 7=true/\f.1≠f.2.1/\inR f.2.2.1 0 100000=true/\f.2.2.2.2.1.length<=20/\inR f.2.2.2.1 0 (f.2.2.2.2.1.length:Int)=true/\f.2.2.2.2.2.1.length<=24/\
  (∀m∈f.2.2.2.2.1,m.length<=40)/\(∀x∈f.2.2.2.2.2.2.2.2,eW x=true)/\(f.2.2.2.2.2.2.1=0\/inR f.2.2.2.2.2.2.1 0 ((f.2.2.2.2.2.1.length:Int) - 1)=true)/\inR f.2.2.2.2.2.2.2.1 0 4=true/\f.2.2.2.2.2.2.2.2.length<=16:=by
 unfold iJ;simp only[cCf,cD1,cDk,beq_iff_eq,beq_eq_false_iff_ne,zR,cC6,ne_eq]
theorem aXw{c:Int}{n:Nat}(hn:n<=24)(h:c=0\/inR c 0 ((n:Int) - 1)=true):(if wr (c+1)>=(n:Int) then (0:Int) else wr (c+1))=0\/inR (if wr (c+1)>=(n:Int) then (0:Int) else wr (c+1)) 0 ((n:Int) - 1)=true:=by
 have hc:0<=c/\c<=24:=by
  rcases h with e | e
  .omega
  .have :=cE.1 e;omega
 rw[bD (by omega) (by omega)];split
 .exact .inl rfl
 .right;rw[cE];omega
theorem bTt{w:Int}(h:inR w 0 4=true)(h4: ¬ (w==4)=true):inR (wr (w+1)) 0 4=true:=by
 rw[cE]at h;rw[beq_iff_eq]at h4;rw[bD (by omega) (by omega),cE];omega
theorem bJ6{f:den tFl}(h:iJ f=true):iJ (aR f).1=true:=by
 rw[qG]at h;obtain⟨h1,h2,h3,h4,h5,h6,h7,h8,h9,h10,h11,h12⟩:=h;have key:∀c w:Int,(c=0\/inR c 0 ((f.2.2.2.2.2.1.length:Int) - 1)=true)->inR w 0 4=true->iJ (sB f c w)=true:=λc w hc hw=>by
  rw[qG];exact⟨h1,h2,h3,h4,h5,h6,h7,h8,h9,hc,hw,h12⟩
 unfold aR;split
 .split
  .exact key _ _ h10 rfl
  .split
   .exact key _ _ (aXw h7 h10) rfl
   .next e4=>exact key _ _ h10 (bTt h11 e4)
 .exact key _ _ h10 rfl
def Cmp{α:Type}(a b:α)(o:Option Bool):Prop:= ∃v,o=some v/\(a=b->v=true)
theorem aEa{α:Type}(a b:List α)(st:Int->Option (Int⊕(Unit⊕Bool)))(h:a.length<=1073741824)
  (hs:∀(i:Nat) (hi:i<a.length) (hj:i<b.length),∃v:Bool,st (i:Int)=some (cond (!v) (.inr (.inr false)) (.inl ((i+1:Nat):Int)))/\(a[i]=b[i]->v=true)) (he:st (a.length:Int)=some (.inr (.inl ()))):
  Cmp a b (cond ((a.length:Int) != (b.length:Int)) (some false) (Option.bind (aC st (0:Int)) λz=>cCg (λ_=>some true) some z)):=by
 by_cases hn:a.length=b.length
 .rw[hn,bne_self_eq_false,zY];refine fL (G:=Cmp a b) a.length (λs:Int=>s) (λi t=>True) (λr:Unit⊕Bool=>a=b->r= .inl ()) ?_ ?_ 0 (0:Int) (by omega) rfl trivial ?_
  .rintro i _ hi rfl _
   obtain⟨v,e,k⟩:=hs i hi (by omega);rw[e];cases v with
   | true=>exact .inr ⟨_,rfl,rfl,trivial⟩
   | false=>exact .inl ⟨.inr false,rfl,λe=>by subst e;cases k rfl⟩
  .rintro _ rfl _
   exact⟨.inl (),he,λ_=>rfl⟩
  .rintro r hr
   cases r with
   | inl u=>exact⟨true,rfl,λ_=>rfl⟩
   | inr v=>exact⟨v,rfl,λe=>by cases hr e⟩
 .rw[show ((a.length:Int) != (b.length:Int))=true by rw[bne_iff_ne];omega,zZ];exact⟨false,rfl,λe=>absurd (congrArg cCv e) hn⟩
theorem aZ3{a b:List Int}(h:a.length<=10000000):Cmp a b (zG a b):=by
 unfold zG;refine aEa a b _ (by omega) (λi hi hj=>⟨a[i]==b[i],?_,λe=>by simpa using e⟩) ?_
 .simp only[zX (show (i:Int)<(a.length:Int) by omega),zZ,aF,cCe hi,cCe hj,aA,bK (show i<=1000000000 by omega),bne];cases a[i]==b[i]<;>rfl
 .simp only[zW (cC0 _),zY]
theorem aRp{a b:List lI}(h:a.length<=10000000)(hm:∀m∈a,m.length<=10000000):Cmp a b (jC a b):=by
 unfold jC;refine aEa a b _ (by omega) (λi hi hj=> ?_) ?_
 .obtain⟨v,e,k⟩:=aZ3 (a:=a[i]) (b:=b[i]) (hm _ (cC9 hi));refine⟨v,?_,k⟩;simp only[zX (show (i:Int)<(a.length:Int) by omega),zZ,aF,cCe hi,cCe hj,aA,bK (show i<=1000000000 by omega),e];cases v<;>rfl
 .simp only[zW (cC0 _),zY]
theorem bL3{a b:lRv}(h:a.length<=10000000):Cmp a b (nZ a b):=by
 unfold nZ;refine aEa a b _ (by omega) (λi hi hj=>⟨((a[i].1==b[i].1)&&((a[i].2.1==b[i].2.1)&&((a[i].2.2==b[i].2.2)&&true))),?_,λe=>by rw[e];simp⟩) ?_
 .simp only[zX (show (i:Int)<(a.length:Int) by omega),zZ,aF,cCe hi,cCe hj,aA,bK (show i<=1000000000 by omega)];cases ((a[i].1==b[i].1)&&((a[i].2.1==b[i].2.1)&&((a[i].2.2==b[i].2.2)&&true)))<;>rfl
 .simp only[zW (cC0 _),zY]
theorem bV1{a b:den tIb}(h:a.2.2.2.length<=10000000)(hm:∀m:List Int,m∈(show List lI from a.2.2.2)->m.length<=10000000):Cmp a b (tP a b):=by
 obtain⟨v,e,k⟩:=aRp (a:=a.2.2.2) (b:=b.2.2.2) h hm;unfold tP;rw[e,aA];cases c1:a.1==b.1
 .exact⟨false,rfl,λe=>by subst e;simp at c1⟩
 .cases c2:a.2.1==b.2.1
  .exact⟨false,rfl,λe=>by subst e;simp at c2⟩
  .cases c3:a.2.2.1==b.2.2.1
   .exact⟨false,rfl,λe=>by subst e;simp at c3⟩
   .exact⟨v,rfl,λe=>by subst e;exact k rfl⟩
theorem aW4{a b:bQ}(h:a.length<=10000000):Cmp a b (mZ a b):=by
 unfold mZ zz4;refine aEa a b _ (by omega) (λi hi hj=>⟨((a[i].1==b[i].1)&&((a[i].2.1==b[i].2.1)&&((a[i].2.2.1==b[i].2.2.1)&&((a[i].2.2.2.1==b[i].2.2.2.1)&&((a[i].2.2.2.2==b[i].2.2.2.2)&&true))))),?_,λe=>by rw[e];simp⟩) ?_
 .simp only[zX (show (i:Int)<(a.length:Int) by omega),zZ,aF,cCe hi,cCe hj,aA,bK (show i<=1000000000 by omega)];cases ((a[i].1==b[i].1)&&((a[i].2.1==b[i].2.1)&&((a[i].2.2.1==b[i].2.2.1)&&((a[i].2.2.2.1==b[i].2.2.2.1)&&((a[i].2.2.2.2==b[i].2.2.2.2)&&true)))))<;>rfl
 .simp only[zW (cC0 _),zY]
theorem bNn{a b:den tPp}(h:a.2.2.2.length<=10000000):Cmp a b (nB a b):=by
 obtain⟨v,e,k⟩:=aW4 (a:=a.2.2.2) (b:=b.2.2.2) h;unfold nB;rw[e,aA];cases c1:a.1==b.1
 .exact⟨false,rfl,λe=>by subst e;simp at c1⟩
 .cases c2:a.2.1==b.2.1
  .exact⟨false,rfl,λe=>by subst e;simp at c2⟩
  .cases c3:a.2.2.1==b.2.2.1
   .exact⟨false,rfl,λe=>by subst e;simp at c3⟩
   .exact⟨v,rfl,λe=>by subst e;exact k rfl⟩
theorem aXs{a b:lPp}(h:a.length<=10000000)(hp:∀x∈a,x.2.2.2.length<=10000000):Cmp a b (mY a b):=by
 unfold mY pj4;refine aEa a b _ (by omega) (λi hi hj=> ?_) ?_
 .obtain⟨v,e,k⟩:=bNn (a:=a[i]) (b:=b[i]) (hp _ (cC9 hi));have e:nB (a[i].1,a[i].2.1,a[i].2.2.1,a[i].2.2.2) (b[i].1,b[i].2.1,b[i].2.2.1,b[i].2.2.2)=some v:=e;refine⟨v,?_,k⟩;simp only[zX (show (i:Int)<(a.length:Int) by omega),zZ,aF,cCe hi,cCe hj,aA,bK (show i<=1000000000 by omega),e];cases v<;>rfl
 .simp only[zW (cC0 _),zY]
theorem bJ8{a b:lPt}(h:a.length<=10000000)(hp:∀p:lPp,p∈(show List lPp from a)->p.length<=10000000/\ ∀x∈p,x.2.2.2.length<=10000000):Cmp a b (oC a b):=by
 unfold oC;refine aEa a b _ (by omega) (λi hi hj=> ?_) ?_
 .obtain⟨h1,h2⟩:=hp a[i] (cC9 hi);obtain⟨v,e,k⟩:=aXs (a:=a[i]) (b:=b[i]) h1 h2;refine⟨v,?_,k⟩;simp only[zX (show (i:Int)<(a.length:Int) by omega),zZ,aF,cCe hi,cCe hj,aA,bK (show i<=1000000000 by omega),e];cases v<;>rfl
 .simp only[zW (cC0 _),zY]
theorem bAa{p:lPp}(h:SmB 10000000 tPt p):p.length<=10000000/\ ∀x∈p,x.2.2.2.length<=10000000:=⟨h.1,λx hx=>(h.2 x hx).2.2.2.1⟩
theorem bNy{a b:den tFl}(h:SmB 10000000 tFl a):Cmp a b (qO a b):=by
 obtain⟨v1,e1,k1⟩:=aRp (a:=a.2.2.2.2.1) (b:=b.2.2.2.2.1) h.2.2.2.2.1.1 (λm hm=>(h.2.2.2.2.1.2 m hm).1);obtain⟨v2,e2,k2⟩:=bJ8 (a:=a.2.2.2.2.2.1) (b:=b.2.2.2.2.2.1) h.2.2.2.2.2.1.1 (λp hp=>bAa (h.2.2.2.2.2.1.2 p hp));obtain⟨v3,e3,k3⟩:=bL3 (a:=a.2.2.2.2.2.2.2.2) (b:=b.2.2.2.2.2.2.2.2) h.2.2.2.2.2.2.2.2.1;unfold qO zz4 zz5 zz6 zz7 zz8;rw[e1,aA,e2,aA,e3,aA];cases c0:a.1==b.1
 .exact⟨false,rfl,λe=>by subst e;simp at c0⟩
 .cases c1:a.2.1==b.2.1
  .exact⟨false,rfl,λe=>by subst e;simp at c1⟩
  .cases c2:a.2.2.1==b.2.2.1
   .exact⟨false,rfl,λe=>by subst e;simp at c2⟩
   .cases c3:a.2.2.2.1==b.2.2.2.1
    .exact⟨false,rfl,λe=>by subst e;simp at c3⟩
    .cases v1
     .exact⟨false,rfl,λe=>by subst e;cases k1 rfl⟩
     .cases v2
      .exact⟨false,rfl,λe=>by subst e;cases k2 rfl⟩
      .cases c6:a.2.2.2.2.2.2.1==b.2.2.2.2.2.2.1
       .exact⟨false,rfl,λe=>by subst e;simp at c6⟩
       .cases c7:a.2.2.2.2.2.2.2.1==b.2.2.2.2.2.2.2.1
        .exact⟨false,rfl,λe=>by subst e;simp at c7⟩
        .exact⟨v3,rfl,λe=>by subst e;exact k3 rfl⟩
theorem bU7{a b:den tPk}(h:SmB 10000000 tPk a):Cmp a b (mO a b):=by
 obtain⟨h1,h2⟩:=bAa h.2.2.2.1;obtain⟨v1,e1,k1⟩:=aXs (a:=a.2.2.2.1) (b:=b.2.2.2.1) h1 h2;obtain⟨v2,e2,k2⟩:=aZ3 (a:=a.2.2.2.2.2.2.2.2.2) (b:=b.2.2.2.2.2.2.2.2.2) h.2.2.2.2.2.2.2.2.2.1;unfold mO zz4 zz5 zz6 zz7 zz8 zz9;rw[e1,aA,e2,aA];cases c0:a.1==b.1
 .exact⟨false,rfl,λe=>by subst e;simp at c0⟩
 .cases c1:a.2.1==b.2.1
  .exact⟨false,rfl,λe=>by subst e;simp at c1⟩
  .cases c2:a.2.2.1==b.2.2.1
   .exact⟨false,rfl,λe=>by subst e;simp at c2⟩
   .cases v1
    .exact⟨false,rfl,λe=>by subst e;cases k1 rfl⟩
    .cases c4:a.2.2.2.2.1==b.2.2.2.2.1
     .exact⟨false,rfl,λe=>by subst e;simp at c4⟩
     .cases c5:a.2.2.2.2.2.1==b.2.2.2.2.2.1
      .exact⟨false,rfl,λe=>by subst e;simp at c5⟩
      .cases c6:a.2.2.2.2.2.2.1==b.2.2.2.2.2.2.1
       .exact⟨false,rfl,λe=>by subst e;simp at c6⟩
       .cases c7:a.2.2.2.2.2.2.2.1==b.2.2.2.2.2.2.2.1
        .exact⟨false,rfl,λe=>by subst e;simp at c7⟩
        .cases c8:a.2.2.2.2.2.2.2.2.1==b.2.2.2.2.2.2.2.2.1
         .exact⟨false,rfl,λe=>by subst e;simp at c8⟩
         .exact⟨v2,rfl,λe=>by subst e;exact k2 rfl⟩
def Byt(l:List Int):Prop:= ∀x∈l,0<=x/\x<=255
def oZ{α:Type}(a b:α)(o:Option Bool):Prop:= ∃v,o=some v/\(v=true↔a=b)
theorem bJ1{α:Type}{a b:α}{o p:Option Bool}(h:oZ a b o)(k:oZ a b p):∃v,o=some v/\p=some v:=by
 obtain⟨v,e,i⟩:=h;obtain⟨w,f,j⟩:=k;have :v=w:=cC7.2 (i.trans j.symm);exact⟨v,e,by rw[this];exact f⟩
theorem vR{α:Type}(a b:List α)(st:Int->Option (Int⊕(Unit⊕Bool)))(h:a.length<=1073741824)
  (hs:∀(i:Nat) (hi:i<a.length) (hj:i<b.length),∃v:Bool,st (i:Int)=some (cond (!v) (.inr (.inr false)) (.inl ((i+1:Nat):Int)))/\(v=true↔a[i]=b[i])) (he:st (a.length:Int)=some (.inr (.inl ()))):
  oZ a b (cond ((a.length:Int) != (b.length:Int)) (some false) (Option.bind (aC st (0:Int)) λz=>cCg (λ_=>some true) some z)):=by
 by_cases hn:a.length=b.length
 .rw[hn,bne_self_eq_false,zY];refine fL (G:=oZ a b) a.length (λs:Int=>s) (λi t=> ∀j (h1:j<a.length) (h2:j<b.length),j<i->a[j]=b[j]) (λr:Unit⊕Bool=>(r= .inl ()/\a=b)\/(r= .inr false/\a≠b)) ?_ ?_ 0 (0:Int) (by omega) rfl (λj h1 h2 h3=>by omega) ?_
  .rintro i _ hi rfl hJ
   obtain⟨v,e,k⟩:=hs i hi (by omega);rw[e];cases v with
   | true=>
    refine .inr ⟨_,rfl,rfl,λj h1 h2 h3=> ?_⟩
    by_cases hj:j=i
    .subst hj;exact k.1 rfl
    .exact hJ j h1 h2 (by omega)
   | false=>
    refine .inl ⟨.inr false,rfl,.inr ⟨rfl,λe=> ?_⟩⟩;subst e;have :=k.2 rfl;cases this
  .rintro _ rfl hJ
   exact⟨.inl (),he,.inl ⟨rfl,List.ext_getElem hn λj h1 h2=>hJ j h1 h2 h1⟩⟩
  .rintro r (⟨rfl,e⟩ | ⟨rfl,e⟩)
   .exact⟨true,rfl,λ_=>e,λ_=>rfl⟩
   .exact⟨false,rfl,(λh=>by cases h),λh=>absurd h e⟩
 .rw[show ((a.length:Int) != (b.length:Int))=true by rw[bne_iff_ne];omega,zZ];exact⟨false,rfl,(λh=>by cases h),λe=>absurd (congrArg cCv e) hn⟩
theorem aUw{a b:List Int}(h:a.length<=1000000):oZ a b (zG a b):=by
 unfold zG;refine vR a b _ (by omega) (λi hi hj=>⟨a[i]==b[i],?_,by simp⟩) ?_
 .simp only[zX (show (i:Int)<(a.length:Int) by omega),zZ,aF,cCe hi,cCe hj,aA,bK (show i<=1000000000 by omega),bne];cases a[i]==b[i]<;>rfl
 .simp only[zW (cC0 _),zY]
theorem aN9{a b:List lI}(h:a.length<=1000000)(hm:∀m∈a,m.length<=1000000):oZ a b (jC a b):=by
 unfold jC;refine vR a b _ (by omega) (λi hi hj=> ?_) ?_
 .obtain⟨v,e,k⟩:=aUw (a:=a[i]) (b:=b[i]) (hm _ (cC9 hi));refine⟨v,?_,k⟩;simp only[zX (show (i:Int)<(a.length:Int) by omega),zZ,aF,cCe hi,cCe hj,aA,bK (show i<=1000000000 by omega),e];cases v<;>rfl
 .simp only[zW (cC0 _),zY]
theorem cAg(bs:ByteArray):∀(n i:Nat) (r:List UInt8),n+i=bs.size->ByteArray.toList.loop bs i r=r.reverse++bs.data.toList.drop i:=by
 intro n
 induction n with
 | zero=>
  intro i r h;unfold ByteArray.toList.loop;rw[zS (by omega),List.drop_of_length_le (by rw[cFa];show bs.size<=i;omega),cDl]
 | succ n ih=>
  intro i r h;unfold ByteArray.toList.loop;rw[zT (by omega),ih (i+1) _ (by omega)];have hi:i<bs.data.toList.length:=by rw[cFa];show i<bs.size;omega
  rw[List.drop_eq_getElem_cons hi,List.reverse_cons,cDi];congr 2;simp[ByteArray.get!];rw[getElem!_pos bs.data i (by rw[<- cFa];exact hi)]
theorem bl(bs:ByteArray):bs.toList=bs.data.toList:=by
 unfold ByteArray.toList;rw[cAg bs bs.size 0 [] (by omega)];simp
theorem aRx(l:List Int):(zB l).toList=l.map λn=>UInt8.ofNat n.toNat:=by
 rw[bl];rfl
theorem aUl{a b:List Int}(ha:Byt a)(hb:Byt b):((zB a).toList==(zB b).toList)=true↔a=b:=by
 rw[beq_iff_eq,aRx,aRx];constructor
 .intro h;have hl:=congrArg cCv h;simp only[cDb]at hl;refine List.ext_getElem hl λi h1 h2=> ?_
  have h3:(a.map λn=>UInt8.ofNat n.toNat)[i]'(by simpa using h1)=(b.map λn=>UInt8.ofNat n.toNat)[i]'(by simpa using h2):=by simp only[h]
  simp only[List.getElem_map]at h3;have a1:=ha _ (cC9 h1);have b1:=hb _ (cC9 h2);have h4:=congrArg UInt8.toNat h3;simp only[UInt8.toNat_ofNat']at h4;omega
 .intro h;rw[h]
def aGt(l:bQ):Option Int:=l.head?.map λx=>(x.1:Int)
def aCp(l:bQ):Option Int:=l.getLast?.map λx=>(x.1:Int)
def aH6(p:lPp):Option Int:=p.head?.bind λx=>aGt x.2.2.2
def aCi(p:lPp):Option Int:=p.getLast?.bind λx=>aCp x.2.2.2
def cA4(a b:Int)(p:den tPt):Prop:=eC p/\aH6 p=some a/\aCi p=some b
def aLl(a b:Int)(n:Nat)(l:lPt):Prop:=l.length<=n/\ ∀p∈l,cA4 a b p
theorem aLl.d{a b:Int}{n:Nat}{l:lPt}(h:aLl a b n l):aQs n l:=⟨h.1,λp hp=>(h.2 p hp).1⟩
def aFb(a b:Int)(p:lPp):Prop:=aH6 p=some a/\aCi p=some b
theorem bUd{s:den tSg}(h:s.2.2≠[]):aCp s.2.2=some (jY s):=by
 have hl:s.2.2.length≠0:=λe=>h (List.length_eq_zero_iff.1 e)
 unfold aCp jY;rw[zS hl,List.getLast?_eq_getElem?,cCe (show s.2.2.length - 1<s.2.2.length by omega)];rfl
theorem aXe{s:den tSg}(h:0<=bV s):s.2.2≠[]:=λe=>by
 unfold bV at h;rw[e]at h;exact absurd h (by decide)
theorem aEu{s:den tSg}{k:Int}{i:Nat}{x:den bP}(hk:inR k 1 4=true)(hx:s.2.2[i]? =some x):aGt (iF s k i).2.2.2=some (if kJ k then jY s else x.1)/\aCp (iF s k i).2.2.2=some (if kJ k then (x.1:Int) else jY s):=by
 obtain⟨hi,e⟩:=cCq.1 hx;have hne:s.2.2≠[]:=λe=>by rw[e]at hi;exact absurd hi (cFc _)
 have hl:=bUd hne;have hd:(s.2.2.drop i).head? =some x:=by rw[List.head?_drop];exact hx
 have hg:(s.2.2.drop i).getLast? =s.2.2.getLast? :=by rw[List.getLast?_drop,zS (by omega)]
 unfold iF;rw[show inR (i:Int) 0 ((s.2.2.length:Int) - 1)=true from cE.2 ⟨by omega,by omega⟩,hk];simp only[cD7,zV,cCm];unfold aCp at hl;unfold aGt aCp;cases kJ k with
 | true=>
  simp only[zV];rw[List.head?_reverse,List.getLast?_reverse,hg,hl,hd];exact⟨rfl,rfl⟩
 | false=>
  simp only[cCs,zU];rw[hg,hl,hd];exact⟨rfl,rfl⟩
theorem aLq{s:den tSg}{k:Int}(hk:inR k 1 4=true)(h:s.2.2≠[]):aGt (iF s k 0).2.2.2=some (if kJ k then jY s else bV s)/\aCp (iF s k 0).2.2.2=some (if kJ k then bV s else jY s):=by
 unfold bV;cases hs:s.2.2 with
 | nil=>exact absurd hs h
 | cons x l=>exact aEu (i:=0) hk (by rw[hs];rfl)
theorem bX6{l:bQ}{r:Int}(h:0<=fIx l r):∃(i:Nat) (x:den bP),fIx l r=(i:Int)/\l[i]? =some x/\x.1=r:=by
 unfold fIx at h|-;cases hs:bU (λk (x:den bP)=>if x.1==r then some (k:Int) else none) 0 l with
 | none=>rw[hs]at h;exact absurd h (by decide)
 | some v=>
  obtain⟨j,x,hx,hv,hp⟩:=aKm hs;exact⟨j,x,by rw[hv];simp,hx,eq_of_beq hp⟩
theorem bKm{l:bQ}{r:Int}:∀{n:Nat},n<=l.length->0<=lIx l r n-> ∃(j:Nat) (y:den bP),lIx l r n=(j:Int)/\l[j]? =some y
 | 0,_,h=>absurd h (by show ¬ (0:Int)<= -1;decide)
 | n+1,hn,h=>by
  unfold lIx at h|-;split
  .exact⟨n,l[n]'(by omega),rfl,cCe (by omega)⟩
  .rename_i c;rw[zS c]at h;exact bKm (by omega) h
theorem aY7{x:den tPp}{a b:Int}(h1:aGt x.2.2.2=some a)(h2:aCp x.2.2.2=some b):aFb a b [x]:=⟨h1,h2⟩
theorem aQ9{up down:den tSg}(hd:down.2.2≠[]):∀n:Nat,n<=up.2.2.length->0<(aDj up down n).length->aFb (jY up) (jY down) (aDj up down n)
 | 0,_,h=>absurd h (Nat.lt_irrefl 0)
 | n+1,hn,h=>by
  unfold aDj at h|-;split
  .rename_i c;have hx:up.2.2[n]? =some (up.2.2[n]'(by omega)):=cCe (by omega);obtain⟨j,y,hj,hy⟩:=bKm (cCx _) c;rw[hj];exact⟨(aEu (k:=1) rfl hx).1,(aEu (k:=4) rfl hy).2⟩
  .rename_i c;rw[zS c]at h;exact aQ9 hd n (by omega) h
theorem aQc{up core down:den tSg}{b:Bool}(hc:core.2.2≠[]){x y:Int}(hx:(up.2.2=[]/\x=cond b (jY core) (bV core))\/(up.2.2≠[]/\x=jY up))(hy:(down.2.2=[]/\y=cond b (bV core) (jY core))\/(down.2.2≠[]/\y=jY down)):aFb x y (lS up core b down):=by
 have pos:∀{s:den tSg},s.2.2≠[]->decide ((s.2.2.length:Int)>0)=true:=λ{s} h=>zX (by have :=List.length_pos_iff.2 h;omega)
 have zero:∀{s:den tSg},s.2.2=[]->decide ((s.2.2.length:Int)>0)=false:=λ{s} h=>by rw[h];rfl
 have hr:kJ (cond b 3 2)=b:=by cases b<;>rfl
 obtain⟨c1,c2⟩:=aLq (s:=core) (k:=cond b 3 2) (by cases b<;>rfl) hc;rw[hr]at c1 c2;unfold lS fN;rw[pos hc];simp only[zZ,cC4];unfold aFb aH6 aCi;rcases hx with ⟨h1,rfl⟩ | ⟨h1,rfl⟩<;>rcases hy with ⟨h2,rfl⟩ | ⟨h2,rfl⟩
 .rw[zero h1,zero h2];cases b<;>exact⟨c1,c2⟩
 .rw[zero h1,pos h2];cases b<;>exact⟨c1,(aLq (k:=4) rfl h2).2⟩
 .rw[pos h1,zero h2];cases b<;>exact⟨(aLq (k:=1) rfl h1).1,c2⟩
 .rw[pos h1,pos h2];exact⟨(aLq (k:=1) rfl h1).1,(aLq (k:=4) rfl h2).2⟩
theorem aEg{c:lSg}{up down:den tSg}{a b x y:Int}(ha:0<=a)(hb:0<=b)(hx:(up.2.2=[]/\x=a)\/(up.2.2≠[]/\x=jY up))(hy:(down.2.2=[]/\y=b)\/(down.2.2≠[]/\y=jY down)):∀p∈bF c up a b down,aFb x y p:=by
 intro p hp;unfold bF at hp;rcases cCo.1 hp with hp | hp<;>obtain⟨s,hs,hp⟩:=cDn.1 hp<;>rw[cCn.1 hp]<;>have h:=(cCw.1 hs).2<;>rw[cCf,beq_iff_eq,beq_iff_eq]at h
 .exact aQc (aXe (by rw[h.1];exact ha)) (hx.imp (λz=>⟨z.1,z.2.trans h.1.symm⟩) id) (hy.imp (λz=>⟨z.1,z.2.trans h.2.symm⟩) id)
 .exact aQc (aXe (by rw[h.1];exact hb)) (hx.imp (λz=>⟨z.1,z.2.trans h.2.symm⟩) id) (hy.imp (λz=>⟨z.1,z.2.trans h.1.symm⟩) id)
theorem bDv{t:den tTo}{n:Nat}{k:den tDb}(h:DbD n k.1 k.2){a b:Int}(ha:0<=a)(hb:0<=b):∀p∈nC t k a b,aFb a b p:=by
 have dn:∀{r:Int} {s:den tSg},s∈cA k.1 r->jY s=r/\s.2.2≠[]/\0<=bV s:=λ{r s} hs=>by
  obtain⟨h1,h2⟩:=cCw.1 hs;obtain⟨h3,h4⟩:=h.ha s h1;refine⟨eq_of_beq h2,h3,?_⟩;unfold bV;cases hh:s.2.2 with
  | nil=>exact absurd hh h3
  | cons x l=>exact (h4 x (by rw[hh];exact cCy ..)).1
 intro p hp;unfold nC at hp;cases hc:(a==b||(!cD t a|| !cD t b)) with
 | true=>rw[hc]at hp;cases hp
 | false=>
 rw[hc]at hp;simp only[zY,cCo]at hp;have one:∀{kind r:Int} {s:den tSg},p∈lM kind r s-> ∃(i:Nat) (x:den bP),p=[iF s kind (i:Int)]/\s.2.2[i]? =some x/\x.1=r:=λ{kind r s} hp=>by
  unfold lM at hp;cases hq:decide (fIx s.2.2 r>=0) with
  | false=>rw[hq]at hp;cases hp
  | true=>
   rw[hq]at hp;obtain⟨i,x,e,hx,hr⟩:=bX6 (of_decide_eq_true hq);exact⟨i,x,by rw[cCn.1 hp,e],hx,hr⟩
 rcases hp with (((((hp | hp) | hp) | hp) | hp) | hp) | hp
 .obtain⟨s,hs,hp⟩:=cDn.1 hp;obtain⟨i,x,rfl,hx,rfl⟩:=one hp;obtain⟨e1,e2⟩:=aEu (k:=1) rfl hx;exact aY7 (e1.trans (congrArg some (dn hs).1)) e2
 .obtain⟨s,hs,hp⟩:=cDn.1 hp;obtain⟨i,x,rfl,hx,rfl⟩:=one hp;obtain⟨e1,e2⟩:=aEu (k:=4) rfl hx;exact aY7 e1 (e2.trans (congrArg some (dn hs).1))
 .exact aEg ha hb (.inl ⟨rfl,rfl⟩) (.inl ⟨rfl,rfl⟩) p hp
 .obtain⟨u,hu,hp⟩:=cDn.1 hp;obtain⟨d,hd,hp⟩:=cDn.1 hp;unfold nW at hp;cases hq:decide (((yX u d).length:Int)>0) with
  | false=>rw[hq]at hp;cases hp
  | true=>
   rw[hq]at hp;rw[cCn.1 hp];have :=aQ9 (up:=u) (dn hd).2.1 u.2.2.length (cCx _) (by have :=of_decide_eq_true hq;unfold yX at this;omega);rw[(dn hu).1,(dn hd).1]at this;exact this
 .cases hq:dV t a with
  | false=>rw[hq]at hp;cases hp
  | true=>
   rw[hq]at hp;obtain⟨d,hd,hp⟩:=cDn.1 hp;exact aEg ha (dn hd).2.2 (.inl ⟨rfl,rfl⟩) (.inr ⟨(dn hd).2.1,(dn hd).1.symm⟩) p hp
 .cases hq:dV t b with
  | false=>rw[hq]at hp;cases hp
  | true=>
   rw[hq]at hp;obtain⟨u,hu,hp⟩:=cDn.1 hp;exact aEg (dn hu).2.2 hb (.inr ⟨(dn hu).2.1,(dn hu).1.symm⟩) (.inl ⟨rfl,rfl⟩) p hp
 .obtain⟨u,hu,hp⟩:=cDn.1 hp;obtain⟨d,hd,hp⟩:=cDn.1 hp;exact aEg (dn hu).2.2 (dn hd).2.2 (.inr ⟨(dn hu).2.1,(dn hu).1.symm⟩) (.inr ⟨(dn hd).2.1,(dn hd).1.symm⟩) p hp
theorem bNa{t:den tTo}{now:Int}{l:List lPp}{q p:lPp}(h:p∈tD t now l q):p∈l\/p=q:=by
 unfold tD at h;cases c1:decide ((l.length:Int)<24) with
 | false=>rw[c1]at h;exact .inl h
 | true=>
  cases c2:aGi t q now with
  | false=>rw[c1,c2]at h;exact .inl h
  | true=>
   cases c3:aDg l q with
   | true=>rw[c1,c2,c3]at h;exact .inl h
   | false=>
    rw[c1,c2,c3]at h;exact (cCo.1 (show p∈l++[q] from h)).imp id cCn.1
theorem aZg{t:den tTo}{now:Int}:∀(m l:List lPp),∀p∈m.foldl (tD t now) l,p∈l\/p∈m
 | [],l,p,h=> .inl h
 | q::m,l,p,h=>by
  rcases aZg m (tD t now l q) p h with h | h
  .exact (bNa h).imp id λe=>by rw[e];exact cCy ..
  .exact .inr (cCu _ h)
theorem bU4{t:den tTo}{n:Nat}{k:den tDb}(h:DbD n k.1 k.2)(hn:n<=30){a b:Int}(ha:0<=a)(hb:0<=b)(now:Int):aLl a b 24 (aEi t k a b now):=by
 obtain⟨h1,h2⟩:=bWa (t:=t) (h.s hn) a b now;refine⟨h1,λp hp=>⟨h2 p hp,?_⟩⟩;rcases aZg _ _ p hp with hp | hp
 .cases hp
 .exact bDv h ha hb p hp
theorem bTl{as:lAS}{ls:lLk}(ht:zQ as ls){d cc:lSg}(hk:DbD 13 d cc){a b:Int}(ha:0<=a)(hb:0<=b)(now:Int):∃l,hP (as,ls) (d,cc) a b now=some l/\aLl a b 24 l:=
 ⟨_,aT5 (t:=(as,ls)) (k:=(d,cc)) (by have :=ht.len;show as.length<=_;omega) (by have :=ht.links;show ls.length<=_;omega) (hk.s (by decide)) a b now,bU4 (k:=(d,cc)) hk (by decide) ha hb now⟩
theorem aKl{code:List Int}(hl:code.length<=1048576){c:List Int}{p h:Int}(hc:Cur code (c,p,h)):∃v c' p' h',nD (c,p,h)=some (v,c',p',h')/\Cur code (c',p',h'):=by
 obtain⟨v1,c1,p1,h1,e1,k1⟩:=jX hl (n:=10) (by decide) (by decide) hc;unfold nD pj3 pj4;simp only[e1,aA];cases v1 with
 | true=>
  obtain⟨v2,c2,p2,h2,e2,_,k2⟩:=pJ hl (l:=[(-1:Int),(2147483647:Int),(2147483648:Int)]) (by decide) (by decide) k1;exact⟨v2,c2,p2,h2,by simp only[zZ,e2,aA],k2⟩
 | false=>
  obtain⟨v2,c2,p2,h2,e2,k2⟩:=jX hl (n:=4) (by decide) (by decide) k1;simp only[zY,e2,aA];cases v2 with
  | true=>
   obtain⟨v3,c3,p3,h3,e3,_,k3⟩:=pJ hl (l:=[(0:Int),(1:Int),(2147483646:Int)]) (by decide) (by decide) k2;exact⟨v3,c3,p3,h3,by simp only[zZ,e3,aA],k3⟩
  | false=>
   obtain⟨v3,c3,p3,h3,e3,_,k3⟩:=aHw hl (n:=1000000) (by decide) k2;obtain⟨v4,c4,p4,h4,e4,_,k4⟩:=aHw hl (n:=2000) (by decide) k3;exact⟨wr (v3 * v4),c4,p4,h4,by simp only[zY,e3,e4,aA],k4⟩
def aP7(l:bQ):Prop:= ∀(j:Nat) (y:den bP),l[j]? =some y->y.2.2.2.1=(5000:Int)
theorem bKx{as:lAS}{ls:lLk}{s:den tSg}(h5:s.2.2.length<=5)(hi:InN (as.length:Int) s.2.2):∃hs,wC (as,ls) s=some (s.1,s.2.1,hs)/\hs.length<=5/\InN (as.length:Int) hs/\aP7 hs:=by
 unfold wC ixb pj3 pj5 zz4;rw[show ((s.1,s.2.1,s.2.2):den tSg)=s from rfl,aIp (by omega),aA];refine fL (G:=λo=> ∃hs,o=some (s.1,s.2.1,hs)/\hs.length<=5/\InN (as.length:Int) hs/\aP7 hs) s.2.2.length (λz:Int×bQ=>z.1) (λi z=>z.2.length=s.2.2.length/\InN (as.length:Int) z.2/\ ∀(j:Nat) (y:den bP),j<i->z.2[j]? =some y->y.2.2.2.1=(5000:Int)) (λr:bQ=>r.length=s.2.2.length/\InN (as.length:Int) r/\aP7 r) ?_ ?_ 0 ((0:Int),s.2.2) (by omega) rfl ⟨rfl,hi,λj y hj=>absurd hj (cFc j)⟩ ?_
 .rintro i ⟨_,l⟩ hlt rfl ⟨g1,g2,g3⟩
  simp only at g1 g2 g3;right;have hil:i<l.length:=by omega
  have hx:l[i]? =some l[i]:=cCe hil;obtain⟨q0,q1⟩:=g2 l[i] (cC9 hil);obtain⟨m,hm⟩:=cC5 q0;have hml:m<as.length:=by omega
  obtain⟨bt,et⟩:=aPr (s:=(s.1,s.2.1,l)) (i:Int) (by show l.length<=_;omega);have ex:idx as l[i].1=some as[m]:=by rw[hm,aF];exact cCe hml
  simp only[zX (show (i:Int)<(l.length:Int) by omega),zX (show (0:Int)<=(i:Int) by omega),zZ,cCm,hx,aA,ex,et,aZl,zX hil];refine⟨_,rfl,bK (show i<=1000000000 by omega),by simp[g1],λy hy=> ?_,λj y hj hy=> ?_⟩
  .rcases cEt hy with hy | rfl
   .exact g2 y hy
   .exact⟨q0,q1⟩
  .simp only[cEk]at hy;split at hy
   .injection hy with hy;rw[<- hy]
   .exact g3 j y (by omega) hy
 .rintro⟨_,l⟩ rfl ⟨g1,g2,g3⟩
  simp only at g1 g2 g3;refine⟨l,by simp only[g1,zW (cC0 _),zY],g1,g2,λj y hy=>g3 j y ?_ hy⟩;have :=(cCq.1 hy).1;omega
 .rintro l ⟨g1,g2,g3⟩
  exact⟨l,rfl,by omega,g2,g3⟩
theorem bE0{p:den tPt}(h:eC p):∃l,pX p=some l/\l.length<=18:=by
 have ht:=aKj h;have hs:=aE1 p;unfold pX ixb pj3;rw[aF2 (by omega),aA];refine fL (G:=λo=> ∃l,o=some l/\l.length<=18) (jG p).length (λz:Int×dO=>z.1) (λi z=>z.2.length<=i) (λr:dO=>r.length<=18) ?_ ?_ 0 ((0:Int),[]) (by omega) rfl (by simp) (λl hl=>⟨l,rfl,hl⟩)
 .rintro i ⟨_,l⟩ hlt rfl g1
  simp only at g1;right;simp only[zX (show (i:Int)<((jG p).length:Int) by omega),zX (show (0:Int)<=(i:Int) by omega),zZ,cCm,cCe hlt,aA,aE (b:=24) (n:=l.length) (m:=1) (by decide) (by omega),bK (show i<=1000000000 by omega)];cases ((jG p)[i].2.2 != (0:Int)) with
  | true=>exact⟨_,rfl,rfl,by simp;omega⟩
  | false=>exact⟨_,rfl,rfl,by show l.length<=i+1;omega⟩
 .rintro⟨_,l⟩ rfl g1
  exact⟨l,by simp only[zW (cC0 _),zY],by simp only at g1;omega⟩
theorem bO5{l:lRs}{x y:den tRs}{cap now:Int}(h:y∈admR l x cap now):y∈l\/y=x:=by
 unfold admR at h;split at h
 .exact .inl h
 .rcases cCo.1 h with h | h
  .exact .inl (cCw.1 h).1
  .exact .inr (cCn.1 h)
def aW6(l:lRs)(id r:Int)(m:lRs):Prop:= ∀y∈m,y∈l\/(y.1=id/\y.2.2.2.1=r)
theorem aY3{l:lRs}{cap now:Int}(hl:rF l cap now){p:den tPt}(hp:eC p)(id r till:Int):∃b m,dG l id p r till cap now=some (b,m)/\rF m cap now/\aW6 l id r m:=by
 obtain⟨d,ed,hd⟩:=bE0 hp;have hn:=hl.len;unfold dG ixb;rw[aE (b:=40) (n:=([]:lRs).length) (m:=l.length) (by decide) (by simp;omega),zZ,ed,aA];refine fL (G:=λo=> ∃b m,o=some (b,m)/\rF m cap now/\aW6 l id r m) d.length (λz:Int×lRs=>z.1) (λi z=>rF z.2 cap now/\aW6 l id r z.2) (λx:lRs⊕(Bool×lRs)=>match x with | .inl m=>rF m cap now/\aW6 l id r m | .inr m=>rF m.2 cap now/\aW6 l id r m.2) ?_ ?_ 0 ((0:Int),[]++l) (by omega) rfl ⟨hl,λy hy=> .inl hy⟩ ?_
 .rintro i ⟨_,m⟩ hlt rfl ⟨g1,g2⟩
  simp only at g1 g2;have hm:=g1.len;obtain⟨b,eb⟩:=bBg (l:=m) (x:=(id,d[i].1,d[i].2.2,r,till)) (cap:=cap) (now:=now) (by omega);simp only[zX (show (i:Int)<(d.length:Int) by omega),zX (show (0:Int)<=(i:Int) by omega),zZ,cCm,cCe hlt,aA,eb,bK (show i<=1000000000 by omega)];cases b with
  | true=>exact .inr ⟨_,rfl,rfl,g1.admR _,λy hy=>(bO5 hy).elim (g2 y) λe=> .inr (by rw[e];exact⟨rfl,rfl⟩)⟩
  | false=>exact .inl ⟨_,rfl,hl,λy hy=> .inl hy⟩
 .rintro⟨_,m⟩ rfl ⟨g1,g2⟩
  exact⟨.inl m,by simp only[zW (cC0 _),zY],g1,g2⟩
 .rintro (m | ⟨b,m⟩) ⟨hm,h2⟩
  .exact⟨_,m,rfl,hm,h2⟩
  .exact⟨b,m,rfl,hm,h2⟩
def aA4(w:den tNw)(f:den tFl):Bool:= !iJ f|| !cD (nT w) f.1|| !cD (nT w) f.2.1||(f.2.2.2.1 != 0)||decide (((aD w).length:Int)>=4)||decide (kC (aW w) f.2.1 f.1>=0)
def aC9(f:den tFl)(l:lPt)(now:Int):den tFl:=(f.1,f.2.1,f.2.2.1,f.2.2.2.1,f.2.2.2.2.1,aCg f l now,0,0,f.2.2.2.2.2.2.2.2)
def aAe(w:den tNw)(f:den tFl)(l:lPt):den tNw:=(nT w,nK w,nG w,aL w,aK w,aQ w,aD w++[aC9 f l (aL w)],aW w++[(f.2.1,f.1,0,[])],cW w)
def aOy(w:den tNw)(b:Bool):q39:=
 ((nG w).1,aL w,cW w,b,(nT w).1,(nT w).2,(nK w).1,(nK w).2,(nG w).2.1,(nG w).2.2,aK w,aQ w,aD w,aW w)
theorem aZ0{w:den tNw}{f:den tFl}{l:lPt}(hw:tot tNw w<=1073741824)(hf:tot tFl f<=1073741824)(hl:tot (.sl tPt) l<=1073741824)(el:hP (nT w) (nK w) f.1 f.2.1 (aL w)=some l):
  rN w f=some (aOy (if aA4 w f then w else aAe w f l) (!aA4 w f)):=by
 have sw:SmB 68719476736 tNw w:=(bB hw).mono (by decide);have sf:SmB 68719476736 tFl f:=(bB hf).mono (by decide);have n1:w.1.1.length<=68719476736:=sw.1.1.1;have n2:w.2.2.2.2.2.2.2.1.length<=1073741824:=(bB hw).2.2.2.2.2.2.2.1.1;have n3:w.2.2.2.2.2.2.1.length<=1073741824:=(bB hw).2.2.2.2.2.2.1.1;have el:hP w.1 w.2.1 f.1 f.2.1 w.2.2.2.1=some l:=el;have a1:aG 120 w.2.2.2.2.2.2.1.length 1=true:=aE (by decide) (by omega);have a2:aG 48 w.2.2.2.2.2.2.2.1.length 1=true:=aE (by decide) (by omega);unfold rN aA4 bM pj2 pj4 pj9 lN aU bG bC zz4 zz5 zz6 zz7 zz8 zz9;simp only[aN,aS8 sw,aO2 sf,aBy n1,aSa (show w.2.2.2.2.2.2.2.1.length<=68719476736 by omega),el,bYe hf hl,bKg,aA,aT0,a1,a2,zZ];cases iJ f
 .rfl
 cases cD w.1 f.1
 .rfl
 cases cD w.1 f.2.1
 .rfl
 cases f.2.2.2.1 != 0 with
 | true=>rfl
 | false=>cases decide ((w.2.2.2.2.2.2.1.length:Int)>=4) with
  | true=>rfl
  | false=>cases decide (kC w.2.2.2.2.2.2.2.1 f.2.1 f.1>=0)<;>rfl
theorem bM1{x y:den tPt}{l:lPt}(h:y∈aIj x l):y=x\/y∈l:=by
 unfold aIj at h;simp only[cCo,cCn]at h;rcases h with (h | h) | h
 .exact .inr (cDx h)
 .exact .inl h
 .exact .inr (cD4 h)
theorem bKt{y:den tPt}{l:lPt}(h:y∈aAh l):y∈l:=by
 have :∀(l:lPt) (k:Nat) (a:lPt),y∈bT (λ_ x a=>aIj x a) k l a->y∈l\/y∈a:=by
  intro l
  induction l with
  | nil=>exact λk a h=> .inr h
  | cons x l ih=>
   intro k a h;rcases ih (k+1) (aIj x a) h with h | h
   .exact .inl (cCu _ h)
   .rcases bM1 h with rfl | h
    .exact .inl (by simp)
    .exact .inr h
 rcases this l 0 [] h with h | h
 .exact h
 .exact (cC2 h).elim
theorem aHm{f:den tFl}{y:den tPt}{l:lPt}{now:Int}(h:y∈aCg f l now):y∈l:=by
 unfold aCg xS at h;have h:=cDx h;simp only[cCo,cCw]at h;rcases h with h | h<;>exact bKt h.1
structure FlD (t:den tTo) (f:den tFl):Prop where
 val:iJ f=true
 src:cD t f.1=true
 dst:cD t f.2.1=true
 ack:f.2.2.2.1=(0:Int)
 cur:f.2.2.2.2.2.2.1=(0:Int)
 wait:f.2.2.2.2.2.2.2.1=(0:Int)
 rev:f.2.2.2.2.2.2.2.2=[]
 paths:aQs 4 f.2.2.2.2.2.1
 msgs:tot (.sl tMs) f.2.2.2.2.1<=12
 bytes:∀m∈f.2.2.2.2.1,iH m
 ends:∀p∈f.2.2.2.2.2.1,aH6 p=some f.1/\aCi p=some f.2.1
def cB1(t:den tTo)(x:den tSg):Prop:=aP7 x.2.2/\bGi t x 2
def cBx(t:den tTo)(x:den tSg):Prop:=aP7 x.2.2/\ ∃k,bGi t x k/\k≠2
def aWt(t:den tTo)(d c:lSg):Prop:=(∀x∈d,cB1 t x)/\ ∀x∈c,cBx t x
structure uI (n:Nat) (w:den tNw):Prop where
 top:zQ (nT w).1 (nT w).2
 db:DbD 11 (nK w).1 (nK w).2
 gate:nG w=(12,(nG w).2.1,[])
 res:rF (nG w).2.1 12 60
 now:aL w=60
 dead:aK w=[]
 fly:aQ w=[]
 drop:cW w=0
 len:(aD w).length<=n
 flows:∀f∈aD w,FlD (nT w) f
 box:aW w=(aD w).map λf=>((f.2.1,f.1,0,[]):den tIb)
 uniq:(aD w).Pairwise λf g=>pB g f=false
 low:∀x∈(nG w).2.1,(3:Int)>=x.1/\(2:Int)>=x.2.2.2.1
 segs:aWt (nT w) (nK w).1 (nK w).2
 find:∀f∈aD w,∀p∈f.2.2.2.2.2.1,p∈aEi (nT w) (nK w) f.1 f.2.1 60
theorem FlD.tot{t:den tTo}{f:den tFl}(h:FlD t f):tot tFl f<=100:=by
 obtain⟨a,b,c,d,ms,ps,cu,wa,rv⟩:=f;rw[yY];have h1:=h.msgs;have h2:=aL7 h.paths;have h3:rv=[]:=h.rev;rw[h3];simp only at h1 h2;simp only[cDj];omega
theorem aNx{s:den tSg}(h:s.2.2.length<=5):tot tSg s<=5:=by
 have e:tot tSg s=s.2.2.length:=by
  show 0+(0+tot (.sl bP) s.2.2)=_;rw[cZ rfl];omega
 omega
theorem uI.tot{n:Nat}{w:den tNw}(hn:n<=4)(h:uI n w):Go.V.tot tNw w<=1000:=by
 rw[fK];have h1:=h.top.len;have h2:=h.top.links;have h3:=wP (t:=tSg) (B:=5) (l:=(nK w).1) λx hx=>aNx (h.db.hd x hx)
 have h4:=wP (t:=tSg) (B:=5) (l:=(nK w).2) λx hx=>aNx (h.db.hc x hx)
 have h5:=wP (t:=tFl) (B:=100) (l:=aD w) λf hf=>(h.flows f hf).tot
 have h6:=h.db.down;have h7:=h.db.core;have h8:=h.len;have h9:=h.res.len;have h10:(nG w).2.2=[]:=by rw[h.gate]
 have h11:Go.V.tot (.sl tIb) (aW w)<=(0+1) * (aW w).length:=wP (t:=tIb) λx hx=>by
  rw[h.box]at hx;obtain⟨f,_,rfl⟩:=cCl.1 hx;exact cCx _
 have h12:(aW w).length=(aD w).length:=by rw[h.box,cDb]
 rw[h.dead,h.fly,h10,xK,xK,xK,cZ (t:=tAS) rfl,cZ (t:=tLk) rfl,cZ (t:=tRs) rfl];omega
theorem uI.mono{n m:Nat}{w:den tNw}(h:uI n w)(hm:n<=m):uI m w:=⟨h.top,h.db,h.gate,h.res,h.now,h.dead,h.fly,h.drop,cCc h.len hm,h.flows,h.box,h.uniq,h.low,h.segs,h.find⟩
def aAa(w:den tNw)(c:List Int)(p h:Int):q31:=
 ((nG w).1,aL w,cW w,(nT w).1,(nT w).2,(nK w).1,(nK w).2,(nG w).2.1,(nG w).2.2,aK w,aQ w,aD w,aW w,c,p,h)
abbrev NwS:=Int×lSg×lSg×Int×Int×Int×lRs×lAS×lLk×lSg×lSg×lUs×lI×lFy×lFl×lIb×lI×Int×Int
abbrev NwR:=Int×Int×Int×lRs×lAS×lLk×lSg×lSg×lUs×lI×lFy×lFl×lIb×lI×Int×Int
def NwI(code:List Int)(n:Nat)(s:NwS):Prop:= ∃as ls d cc res flows box c p h,s=((n:Int),d,cc,12,60,0,res,as,ls,d,cc,[],[],[],flows,box,c,p,h)/\n<=3/\uI (3 - n) ((as,ls),(d,cc),(12,res,[]),60,[],[],flows,box,0)/\Cur code (c,p,h)
def NwQ(code:List Int)(r:NwR):Prop:= ∃as ls d cc res flows box c p h,r=(12,60,0,res,as,ls,d,cc,[],[],[],flows,box,c,p,h)/\uI 3 ((as,ls),(d,cc),(12,res,[]),60,[],[],flows,box,0)/\Cur code (c,p,h)
theorem bNl{t:den tTo}{f:den tFl}{l:lPt}{now:Int}{n:Nat}(hn:n<=4)(hv:iJ f=true)(hs:cD t f.1=true)(hd:cD t f.2.1=true)(hk:f.2.2.2.1=(0:Int))(hr:f.2.2.2.2.2.2.2.2=[])(hm:tot (.sl tMs) f.2.2.2.2.1<=12)(hb:∀m∈f.2.2.2.2.1,iH m)(hl:aLl f.1 f.2.1 24 l):
  FlD t (f.1,f.2.1,f.2.2.1,f.2.2.2.1,f.2.2.2.2.1,(aCg f l now).take n,0,0,f.2.2.2.2.2.2.2.2) where
 val:=by
  rw[qG]at hv ⊢;obtain⟨q1,q2,q3,q4,q5,q6,q7,q8,q9,q10,q11,q12⟩:=hv;exact⟨q1,q2,q3,q4,q5,q6,by simp only[cDf];omega,q8,q9,.inl rfl,rfl,q12⟩
 src:=hs
 dst:=hd
 ack:=hk
 cur:=rfl
 wait:=rfl
 rev:=hr
 paths:=⟨by simp only[cDf];omega,λp hp=>(hl.2 p (aHm (cDx hp))).1⟩
 msgs:=hm
 bytes:=hb
 ends:=λp hp=>(hl.2 p (aHm (cDx hp))).2
theorem aP0{l:lIb}{a b:Int}(h:decide (kC l a b>=0)=false):∀x∈l,nL a b x=false:=by
 have h:=of_decide_eq_false h;unfold kC at h;cases e:l.findIdx? (nL a b) with
 | none=>exact λx hx=>by simpa using List.findIdx?_eq_none_iff.1 e x hx
 | some i=>rw[e]at h;exact absurd (show (0:Int)<=((0+i:Nat):Int) by omega) h
def bM2(code:List Int)(o:Option q31):Prop:= ∃w c' p' h',o=some (aAa w c' p' h')/\uI 3 w/\Cur code (c',p',h')
theorem bBa{code:List Int}(hl:code.length<=1048576){c:List Int}{p h:Int}(hc:Cur code (c,p,h)):bM2 code (wW (c,p,h)):=by
 obtain⟨as,ls,c1,p1,h1,e1,ht,k1⟩:=aNm hl hc;obtain⟨v2,c2,p2,h2,e2,r2,k2⟩:=aH hl (n:=7) (by decide) (by decide) k1;obtain⟨m2,rfl⟩:=cC5 r2.1;have w2:wr ((5:Int)+(m2:Int))=((m2+5:Nat):Int):=by rw[bD (by omega) (by omega)];omega
 unfold wW dd ixb one aDc bD9 pj3 pj4 pj5 pj7 pj8 aU bG bC cU kH mI sV zz4 zz5 zz6 zz7 zz8 zz9;simp only[aT,bI,aX,aY,aZ,e1,e2,aA,w2];refine pW (G:=bM2 code) (λ(n:Nat) (s:Int×q10)=> ∃d cc c p h,s=((n:Int),as,ls,d,cc,c,p,h)/\n<=11/\DbD (11 - n) d cc/\aWt (as,ls) d cc/\Cur code (c,p,h)) (λr:lAS×lLk×lSg×lSg×lI×Int×Int=> ∃d cc c p h,r=(as,ls,d,cc,c,p,h)/\DbD 11 d cc/\aWt (as,ls) d cc/\Cur code (c,p,h)) ?_ (m2+5) (((m2+5:Nat):Int),as,ls,[],[],c2,p2,h2) ⟨[],[],c2,p2,h2,rfl,by omega,⟨by simp,by simp,λx hx=>(cC2 hx).elim,λx hx=>(cC2 hx).elim,λx hx=>(cC2 hx).elim⟩,⟨λx hx=>(cC2 hx).elim,λx hx=>(cC2 hx).elim⟩,k2⟩ ?_
 .rintro n s ⟨d,cc,c3,p3,h3,rfl,hn,hk,hseg,k3⟩
  cases n with
  | zero=>exact .inl ⟨_,rfl,d,cc,c3,p3,h3,rfl,hk,hseg,k3⟩
  | succ n=>
   right;obtain⟨v4,c4,p4,h4,e4,k4⟩:=jX hl (n:=3) (by decide) (by decide) k3;have wn:wr (((n+1:Nat):Int) - 1)=(n:Int):=by rw[bD (by omega) (by omega)];omega
   have step:∀kind:Int,∃d' cc' c' p' h',(Option.bind (fZ (c4,p4,h4) (as,ls) kind) λy58=>Option.bind (wC (as,ls) (y58.1,y58.2.1,y58.2.2.1)) λy59=>Option.bind (gY (as,ls) (d,cc) y59) λy60=>some (y60.1,y60.2,y58.2.2.2.1,y58.2.2.2.2.1,y58.2.2.2.2.2))=some (d',cc',c',p',h')/\DbD (11 - n) d' cc'/\aWt (as,ls) d' cc'/\Cur code (c',p',h'):=by
    intro kind;obtain⟨a5,b5,hs5,c5,p5,h5,e5,⟨l5,i5⟩,k5⟩:=bCu hl ht kind k4;obtain⟨hs6,e6,l6,i6,j6⟩:=bKx (as:=as) (ls:=ls) (s:=(a5,b5,hs5)) l5 i5;obtain⟨d7,cc7,e7,q7,m7,n7⟩:=aU4 ht (n:=11 - (n+1)) (by omega) hk (s:=(a5,b5,hs6)) l6 (i6.as (by have :=ht.len;omega));refine⟨d7,cc7,c5,p5,h5,?_,q7.mono (by omega),⟨λx hx=>(m7 x hx).elim (hseg.1 x) λe=>by rw[e.1];exact⟨j6,e.2⟩,λx hx=>(n7 x hx).elim (hseg.2 x) λe=>by rw[e.1];exact⟨j6,e.2⟩⟩,k5⟩;simp only[e5,e6,e7,aA]
   simp only[zX (show ((n+1:Nat):Int)>0 by omega),zZ,e4,aA];cases v4 with
   | true=>
    obtain⟨d',cc',c',p',h',e,q,sg,k⟩:=step 1;refine⟨n,_,by omega,?_,d',cc',c',p',h',rfl,by omega,q,sg,k⟩;simp only[zZ,aA,e,wn]
   | false=>
    obtain⟨d',cc',c',p',h',e,q,sg,k⟩:=step 2;refine⟨n,_,by omega,?_,d',cc',c',p',h',rfl,by omega,q,sg,k⟩;simp only[zY,aA,e,wn]
 rintro r ⟨d,cc,c3,p3,h3,rfl,hk,hseg,k3⟩
 obtain⟨v4,c4,p4,h4,e4,r4,k4⟩:=aH hl (n:=3) (by decide) (by decide) k3;obtain⟨m4,rfl⟩:=cC5 r4.1;have w4:wr ((1:Int)+(m4:Int))=((m4+1:Nat):Int):=by rw[bD (by omega) (by omega)];omega
 have hA:=ht.len;have hL:=ht.links;have smT:SmB 68719476736 tTo (as,ls):=⟨⟨by show as.length<=_;omega,λ_ _=>⟨trivial,trivial,trivial⟩⟩,by show ls.length<=_;omega,λ_ _=>⟨trivial,trivial,trivial,trivial,trivial⟩⟩
 have smK:SmB 68719476736 tDb (d,cc):=⟨aF6 (by omega) hk.down hk.hd,aF6 (by omega) hk.core hk.hc⟩
 have hok:aHt (as,ls) 60=true:=by unfold aHt;rw[ht.top];rfl
 have e5:=bLi (t:=(as,ls)) (k:=(d,cc)) (c:=12) (now:=60) smT smK;rw[hok,zZ]at e5;simp only[e5,e4,w4,aA];have cap12:cond (inR 12 1 20) (12:Int) 1=12:=rfl;simp only[cap12];refine pW (G:=bM2 code) (NwI code) (NwQ code) ?_ (m4+1) (((m4+1:Nat):Int),d,cc,12,60,0,[],as,ls,d,cc,[],[],[],[],[],c4,p4,h4) ⟨as,ls,d,cc,[],[],[],c4,p4,h4,rfl,by omega,⟨ht,hk,rfl,⟨by simp,λx hx=>(cC2 hx).elim,λx hx=>(cC2 hx).elim,List.Pairwise.nil⟩,rfl,rfl,rfl,rfl,cCz _,λx hx=>(cC2 hx).elim,rfl,List.Pairwise.nil,λx hx=>(cC2 hx).elim,hseg,λx hx=>(cC2 hx).elim⟩,k4⟩ ?_
 rotate_left
 .rintro r ⟨as,ls,d,cc,res,flows,box,c5,p5,h5,rfl,hd,k5⟩
  exact⟨_,c5,p5,h5,rfl,hd,k5⟩
 .rintro n s ⟨as,ls,d,cc,res,flows,box,c5,p5,h5,rfl,hn,hd,k5⟩
  cases n with
  | zero=>exact .inl ⟨_,rfl,as,ls,d,cc,res,flows,box,c5,p5,h5,rfl,hd,k5⟩
  | succ n=>
   right;obtain⟨a6,b6,c6,p6,h6,e6,⟨ra6,rb6⟩,k6⟩:=bCa hl (by decide) hd.db k5;obtain⟨v7,c7,p7,h7,e7,m7,k7⟩:=pJ hl (l:=[(0:Int),(0:Int),((n+1:Nat):Int)]) (by simp) (by simp) k6;obtain⟨v8,c8,p8,h8,e8,r8,k8⟩:=aH hl (n:=3) (by decide) (by decide) k7;obtain⟨m8,rfl⟩:=cC5 r8.1;have w8:wr ((1:Int)+(m8:Int))=((m8+1:Nat):Int):=by rw[bD (by omega) (by omega)];omega
   have wn:wr (((n+1:Nat):Int) - 1)=(n:Int):=by rw[bD (by omega) (by omega)];omega
   have enf:∀a b c:Int,tY a b c=some (a,b,c,0,0,0,[],[],[]):=λ_ _ _=>rfl
   simp only[zX (show ((n+1:Nat):Int)>0 by omega),zZ,e6,e7,enf,e8,w8,wn,aA,Option.bind_assoc];refine pW (G:=λo=> ∃m s',m<n+1/\o=some (cCb s')/\NwI code m s') (λ(n:Nat) (s:Int×Int×Int×Int×Int×Int×Int×lMs×lPt×lRv×List Int×q30)=> ∃ms c p h,s=((n:Int),a6,b6,v7,0,0,0,ms,[],[],c,p,h)/\n<=3/\tot (.sl tMs) ms+4 * n<=12/\(∀m∈ms,iH m)/\Cur code (c,p,h)) (λs:Int×Int×Int×Int×Int×Int×lMs×lPt×lRv×List Int×Int×Int=> ∃ms c p h,s=(a6,b6,v7,0,0,0,ms,[],[],c,p,h)/\tot (.sl tMs) ms<=12/\(∀m∈ms,iH m)/\Cur code (c,p,h)) ?_ (m8+1) (((m8+1:Nat):Int),a6,b6,v7,(0:Int),(0:Int),(0:Int),[],[],[],c8,p8,h8) ⟨[],c8,p8,h8,rfl,by omega,by rw[xK];omega,λm hm=>(cC2 hm).elim,k8⟩ ?_
   .rintro i s ⟨ms,c9,p9,h9,rfl,hi,hm,hb,k9⟩
    cases i with
    | zero=>exact .inl ⟨_,rfl,ms,c9,p9,h9,rfl,by omega,hb,k9⟩
    | succ i=>
     right;obtain⟨v10,c10,p10,h10,e10,r10,k10⟩:=aH hl (n:=3) (by decide) (by decide) k9;obtain⟨m10,rfl⟩:=cC5 r10.1;obtain⟨l11,c11,p11,h11,e11,⟨r11,b11⟩,k11⟩:=aLg hl (n:=m10) (by omega) k10;have hf:tot tFl (a6,b6,v7,0,ms,[],0,0,[])<=1000:=by rw[yY];show _+0+0<=_;omega
     have en:=bFs (f:=(a6,b6,v7,0,ms,[],0,0,[])) (b:=l11) ((bB (B:=1000) hf).mono (by decide)) ⟨by omega,λe he=>trivial⟩;have wi:wr (((i+1:Nat):Int) - 1)=(i:Int):=by rw[bD (by omega) (by omega)];omega
     simp only[zX (show ((i+1:Nat):Int)>0 by omega),zZ,e10,e11,en,aA,wi];unfold aZq;split
     .refine⟨i,_,by omega,rfl,ms++[l11],c11,p11,h11,rfl,by omega,?_,?_,k11⟩
      .rw[pM,bBb];omega
      .intro m hm;rcases cCo.1 hm with hm | hm
       .exact hb m hm
       .rw[cCn.1 hm];exact b11
     .exact⟨i,_,by omega,rfl,ms,c11,p11,h11,rfl,by omega,by omega,hb,k11⟩
   rintro r ⟨ms,c9,p9,h9,rfl,hm,hb,k9⟩
   obtain⟨l10,e10,hl10⟩:=bTl hd.top (hd.db.mono (by decide)) ra6.1 rb6.1 60;have el10:l10=aEi (as,ls) (d,cc) a6 b6 60:=by
    have e11:=aT5 (t:=(as,ls)) (k:=(d,cc)) (cCc (show as.length<=8 from hd.top.len) (by decide)) (cCc (show ls.length<=100 from hd.top.links) (by decide)) (hd.db.s (by decide)) a6 b6 60;exact Option.some.inj (e10.symm.trans e11)
   have tf:tot tFl (a6,b6,v7,0,ms,[],0,0,[])<=1073741824:=by rw[yY];show _+0+0<=_;omega
   have ea:=aZ0 (w:=((as,ls),(d,cc),(12,res,[]),60,[],[],flows,box,0)) (f:=(a6,b6,v7,0,ms,[],0,0,[])) (l:=l10) (cCc (hd.tot (by omega)) (by decide)) tf (cCc (aL7 hl10.d) (by decide)) e10;cases hbad:aA4 ((as,ls),(d,cc),(12,res,[]),60,[],[],flows,box,0) (a6,b6,v7,0,ms,[],0,0,[]) with
   | true=>
    rw[hbad]at ea;simp only[zV,cCd]at ea;simp only[ea,aA,aOy,zY];exact⟨n,_,by omega,rfl,as,ls,d,cc,res,flows,box,c9,p9,h9,rfl,by omega,hd.mono (by omega),k9⟩
   | false=>
    rw[hbad]at ea;simp only[cCs,zU,cCh]at ea;simp only[ea,aA,aOy,aAe,zZ];unfold aA4 at hbad;simp only[Bool.or_eq_false_iff,Bool.not_eq_false']at hbad;obtain⟨⟨⟨⟨⟨b1,b2⟩,b3⟩,b4⟩,b5⟩,b6'⟩:=hbad;have hnone:=aP0 b6';have hfl:(flows.length:Int)<4:=by have h5: ¬ ((flows.length:Int)>=4):=of_decide_eq_false b5;omega
    have hfl':flows.length<=3 - (n+1):=hd.len;generalize hg:aC9 (a6,b6,v7,0,ms,[],0,0,[]) l10 60=g;have hL:((flows++[g]).length:Int)=((flows.length+1:Nat):Int):=by simp
    have wl:wr (((flows.length+1:Nat):Int) - 1)=(flows.length:Int):=by rw[bD (by omega) (by omega)];omega
    have hx:(flows++[g])[flows.length]? =some g:=by simp
    have hset:∀y,(flows++[g]).set flows.length y=flows++[y]:=λy=>by simp
    have hlt:flows.length<(flows++[g]).length:=by simp
    obtain⟨m,em,hm1,hm4⟩:∃m:Nat,(if (4:Int)<(g.2.2.2.2.2.1.length:Int) then (4:Int) else (g.2.2.2.2.2.1.length:Int))=(m:Int)/\m<=g.2.2.2.2.2.1.length/\m<=4:=by
     by_cases h4:(4:Int)<(g.2.2.2.2.2.1.length:Int)
     .exact⟨4,by rw[zT h4];rfl,by omega,by omega⟩
     .exact⟨g.2.2.2.2.2.1.length,by rw[zS h4],cCx _,by omega⟩
    have hmem:∀y∈g.2.2.2.2.2.1,eC y:=λy hy=>by
     rw[<- hg]at hy;exact (hl10.2 y (aHm hy)).1
    simp only[hL,wl,zX (show (0:Int)<=(flows.length:Int) by omega),zX (show (flows.length:Int)<((flows.length+1:Nat):Int) by omega),zZ,cCm,hx,aA,aWh,em,aIq hm1,hO,zX hlt,hset];have fin:∀res' c p h,rF res' 12 60->(∀x∈res',(3:Int)>=x.1/\(2:Int)>=x.2.2.2.1)->Cur code (c,p,h)->NwI code n ((n:Int),d,cc,12,60,0,res',as,ls,d,cc,[],[],[],flows++[(g.1,g.2.1,g.2.2.1,g.2.2.2.1,g.2.2.2.2.1,List.take m g.2.2.2.2.2.1,g.2.2.2.2.2.2.1,g.2.2.2.2.2.2.2.1,g.2.2.2.2.2.2.2.2)],box++[(b6,a6,0,[])],c,p,h):=by
     intro res' c p h hr hlow hc;have hF:FlD (as,ls) (g.1,g.2.1,g.2.2.1,g.2.2.2.1,g.2.2.2.2.1,List.take m g.2.2.2.2.2.1,g.2.2.2.2.2.2.1,g.2.2.2.2.2.2.2.1,g.2.2.2.2.2.2.2.2):=by
      rw[<- hg];exact bNl (f:=(a6,b6,v7,0,ms,[],0,0,[])) hm4 b1 b2 b3 rfl rfl hm hb hl10
     have ge1:g.1=a6:=by rw[<- hg];rfl
     have ge2:g.2.1=b6:=by rw[<- hg];rfl
     refine⟨as,ls,d,cc,res',_,_,c,p,h,rfl,by omega,⟨hd.top,hd.db,rfl,hr,rfl,rfl,rfl,rfl,?_,?_,?_,?_,hlow,hd.segs,?_⟩,hc⟩
     .show (flows++[_]).length<=_;simp;omega
     .intro f hf;rcases cCo.1 hf with hf | hf
      .exact hd.flows f hf
      .rw[cCn.1 hf];exact hF
     .show box++[_]=(flows++[_]).map _;rw[cE0,<- show box=flows.map (λf=>((f.2.1,f.1,0,[]):den tIb)) from hd.box];simp only[cC1,List.map_nil,ge1,ge2]
     .show (flows++[_]).Pairwise _;rw[List.pairwise_append];refine⟨hd.uniq,List.pairwise_singleton _ _,λx hx y hy=> ?_⟩;rw[cCn.1 hy];have hbx:((x.2.1,x.1,0,[]):den tIb)∈box:=by
       rw[show box=flows.map (λf=>((f.2.1,f.1,0,[]):den tIb)) from hd.box];exact cCl.2 ⟨x,hx,rfl⟩
      have :=hnone _ hbx;unfold nL at this;unfold pB;rw[Bool.and_comm];simp only[ge1,ge2];exact this
     .intro f hf;rcases cCo.1 hf with hf | hf
      .exact hd.find f hf
      .rw[cCn.1 hf];intro y hy;have hy:y∈g.2.2.2.2.2.1:=cDx hy;show y∈aEi (as,ls) (d,cc) g.1 g.2.1 60;rw[ge1,ge2,<- el10];rw[<- hg]at hy;exact aHm hy
    by_cases hm0:m=0
    .subst hm0;simp only[show decide (((0:Nat):Int)>0)=false from rfl,zY,aA];exact⟨n,_,by omega,rfl,fin res c9 p9 h9 hd.res hd.low k9⟩
    .simp only[zX (show (m:Int)>0 by omega),zZ,aA];cases hgt:decide (g.2.2.1>(0:Int)) with
     | false=>
      simp only[zY,aA];exact⟨n,_,by omega,rfl,fin res c9 p9 h9 hd.res hd.low k9⟩
     | true=>
      have hp:idx (List.take m g.2.2.2.2.2.1) (0:Int)=some (g.2.2.2.2.2.1[0]'(by omega)):=by
       rw[show (0:Int)=((0:Nat):Int) from rfl,aF,cDu,zT (by omega)];exact cCe _
      obtain⟨v11,c11,p11,h11,e11,r11,k11⟩:=aH hl (n:=2) (by decide) (by decide) k9;obtain⟨b12,m12,e12,q12,n12⟩:=aY3 hd.res (hmem _ (cC9 (show 0<g.2.2.2.2.2.1.length by omega))) g.2.2.1 (wr ((1:Int)+v11)) 4000;simp only[zZ,hp,e11,e12,aA,aT,bI,aX,aY,aZ];exact⟨n,_,by omega,rfl,fin m12 c11 p11 h11 q12 (λx hx=>(n12 x hx).elim (hd.low x) λe=>by
       rw[e.1,e.2];have g7:g.2.2.1=v7:=by rw[<- hg];rfl
       rw[g7];simp only[cCk,cC2,or_false]at m7;have w11:wr ((1:Int)+v11)=1+v11:=bD (by omega) (by omega);rw[w11];have h3:v7<=(3:Int):=by
        rcases m7 with e | e | e<;>rw[e]<;>omega
       exact⟨h3,(show (1+v11:Int)<=2 by omega)⟩) k11⟩
def aI0(w:den tNw)(l:List Int):den tNw:=(nT w,nK w,nG w,aL w,l,aQ w,aD w,aW w,cW w)
def aC7(w:den tNw)(i:Nat):den tNw:=sN w ((aQ w).take i++(aQ w).drop (i+1))
theorem bKw{w:den tNw}{i:Nat}{x:den tFy}(hx:(aQ w)[i]? =some x)(hl:(aQ w).length<=1073741824):vO w (i:Int)=some (bZy x (aC7 w i)):=by
 have hlt:i<(aQ w).length:=(cCq.1 hx).1;have hx:w.2.2.2.2.2.1[((i:Nat):Int).toNat]? =some x:=by rw[cCm];exact hx
 have h1:decide ((i:Int)<(w.2.2.2.2.2.1.length:Int))=true:=zX (by have :i<w.2.2.2.2.2.1.length:=hlt;omega);have e1:wr ((i:Int)+1)=((i+1:Nat):Int):=(wri (by omega) (by omega)).trans (by omega);have h2:bY ((i+1:Nat):Int) (w.2.2.2.2.2.1.length:Int) (w.2.2.2.2.2.1.length:Int)=true:=aCy (show i+1<=w.2.2.2.2.2.1.length from hlt);have h3:bY (0:Int) (i:Int) (w.2.2.2.2.2.1.length:Int)=true:=aIq (k:=i) (Nat.le_of_lt hlt);have hl:w.2.2.2.2.2.1.length<=1073741824:=hl;unfold vO ixb bM aU bG zz4 zz5 zz6 zz7 zz8 zz9;simp only[h1,hx,aA,zZ,e1,h2,h3,hO,aGh,cC4,aE (b:=128) (n:=([]:lFy).length) (m:=(w.2.2.2.2.2.1.take i).length) (by decide) (by simp;omega),aE (b:=128) (n:=(w.2.2.2.2.2.1.take i).length) (m:=(w.2.2.2.2.2.1.drop (i+1)).length) (by decide) (by simp;omega),zX (show (0:Int)<=(i:Int) by omega)];rfl
def aBk(m:Nat)(dead:List Int)(i:Int)(b:Bool):List Int:=((List.range m).map λk:Nat=>((k:Nat):Int)).filter λk:Int=>(xB dead k&&(k != i))||(b&&(k==i))
def aNj(w:den tNw)(i:Int)(b:Bool):Bool:=(xB (aK w) i==b)|| !inR i 0 (((nT w).2.length:Int) - 1)
def aBr(w:den tNw)(i:Int)(b:Bool):den tNw:=if aNj w i b then w else aI0 w (aBk (nT w).2.length (aK w) i b)
theorem bJn{w:den tNw}{i:Int}{b:Bool}(h1:(nT w).2.length<=1073741824)(h2:(aK w).length<=68719476736):yH w i b=some (!aNj w i b,fW (aBr w i b)):=by
 have w1:wr ((w.1.2.length:Int) - 1)=(w.1.2.length:Int) - 1:=pI (cCc h1 (by decide));have e1:=λn=>aGa (l:=w.2.2.2.2.1) (n:=n) h2
 unfold yH aBr aNj zz4 zz5 zz6 zz7 zz8;simp only[e1,aA,w1,eZ];cases hb:(xB w.2.2.2.2.1 i==b) with
 | true=>rfl
 | false=>
  simp only[zY,aA,cEb];cases inR i 0 ((w.1.2.length:Int) - 1) with
  | false=>rfl
  | true=>
   simp only[cCd,zY,cCs,zU,cCh];refine fL (G:=λo=>o=some (true,fW (aI0 w (aBk (nT w).2.length (aK w) i b)))) w.1.2.length (λs:Int×List Int=>s.1) (λk s=>s.2.length<=k/\s.2=aBk k (aK w) i b) (λr:List Int=>r=aBk w.1.2.length (aK w) i b) ?_ ?_ 0 ((0:Int),[]) (cCz _) rfl ⟨by simp,rfl⟩ ?_
   .rintro k ⟨_,l⟩ hk rfl ⟨g1,g2⟩
    simp only at g1 g2;right;have hk':k<=1073741824:=cCc (Nat.le_of_lt hk) h1;simp only[zX (show (k:Int)<(w.1.2.length:Int) by omega),zZ,aA,aE (b:=8) (n:=l.length) (m:=1) (by decide) (by omega),show wr ((k:Int)+1)=((k+1:Nat):Int) from (wri (by omega) (by omega)).trans (by omega)];have hl:aBk (k+1) (aK w) i b=aBk k (aK w) i b++(if (xB (aK w) (k:Int)&&((k:Int) != i))||(b&&((k:Int)==i)) then [(k:Int)] else []):=by
     unfold aBk;rw[List.range_succ,cE0,List.filter_append];congr 1;simp only[cC1,List.map_nil,cE3,List.filter_nil]
    have hd:aK w=w.2.2.2.2.1:=rfl;rw[hl,<- g2,hd];cases xB w.2.2.2.2.1 (k:Int)<;>cases hki:((k:Int)==i)<;>cases b<;>simp only[bne,hki,zZ,zY,aA,cCd,cCh,Bool.and_true,Bool.and_false,Bool.true_and,Bool.false_and,Bool.or_true,Bool.or_false,Bool.true_or,cEb,cCs,zV,zU,cDl]<;>first
     | exact⟨_,rfl,rfl,by simp;omega,rfl⟩
     | exact⟨_,rfl,rfl,by simp only;omega,rfl⟩
   .rintro⟨_,l⟩ rfl ⟨g1,g2⟩
    exact⟨l,by simp only[zW (cC0 _),zY],g2⟩
   .rintro r rfl
    rfl
def aIb(f:den tFl)(b:List Int):den tFl:=if iJ (enq f b) then enq f b else f
def doW(w:den tNw)(e:den iI):Bool×den tNw:=
 if e.1==1 then (!decide (aL w>=1000000),tC w)
 else if e.1==2 then (match inR e.2.1 0 (((aQ w).length:Int) - 1),(aQ w)[e.2.1.toNat]? with
  | true,some x=>(true,kD (aC7 w e.2.1.toNat) x.1 x.2.1 x.2.2)
  | _,_=>(false,w))
 else if e.1==3 then (if inR e.2.1 0 (((aQ w).length:Int) - 1) then (true,aAk (aC7 w e.2.1.toNat)) else (false,w))
 else if e.1==4 then (match inR e.2.1 0 (((aQ w).length:Int) - 1)&& !decide (((aQ w).length:Int)>=150),(aQ w)[e.2.1.toNat]? with
  | true,some x=>(true,sN w (aQ w++[x]))
  | _,_=>(false,w))
 else if e.1==5||e.1==6 then (!aNj w e.2.1 (e.1==5),aBr w e.2.1 (e.1==5))
 else if e.1==7 then (if cD (nT w) e.2.2.2.1&& !decide (((aQ w).length:Int)>=150) then (true,sN w (aQ w++[e.2.2.2])) else (false,w))
 else if e.1==8 then (match inR e.2.1 0 (((aD w).length:Int) - 1),(aD w)[e.2.1.toNat]? with
  | true,some f=>(iJ (enq f e.2.2.1),eR w ((aD w).set e.2.1.toNat (aIb f e.2.2.1)))
  | _,_=>(false,w))
 else (false,w)
theorem aWb{α:Type}{l:List α}{n:Int}(hl:l.length<=1073741824)(h:inR n 0 ((l.length:Int) - 1)=true):∃(i:Nat) (x:α),n=(i:Int)/\l[i]? =some x/\decide (n<(l.length:Int))=true/\decide ((0:Int)<=n)=true:=by
 obtain⟨h0,h1⟩:=cE.1 h;obtain⟨i,rfl⟩:=cC5 h0;have hi:i<l.length:=by omega
 exact⟨i,l[i],rfl,cCe hi,zX (by omega),zX h0⟩
theorem bAy{B F:Nat}{w:den tNw}{r inn:Int}{p:den tPk}(hk:nE B F w)(hp:eU p):nE (B+(160+F)) F (kD w r inn p):=by
 obtain⟨h1,h2⟩:=aJy hk.bytes hp (r:=r) (inn:=inn);have h3:=aPw w r inn p;have :=hk.flows;have :=hk.tot;exact⟨by omega,by rw[h2];exact hk.flows,h1⟩
theorem bA1{B F:Nat}{w:den tNw}{l:lFy}(hk:nE B F w)(hl:tot (.sl tFy) l<=tot (.sl tFy) (aQ w))(hb:∀x∈l,eU x.2.2):nE B F (sN w l):=by
 have h1:=aJp w l;have :=hk.tot;exact⟨by omega,hk.flows,⟨hb,hk.bytes.msg⟩⟩
theorem aJu{B F:Nat}{w:den tNw}(hk:nE B F w)(i:Nat):nE B F (aC7 w i):=by
 refine bA1 hk ?_ λx hx=>hk.bytes.fly x ?_
 .have h1:=pM (t:=tFy) ((aQ w).take i) ((aQ w).drop i);rw[cD5]at h1;rw[pM,h1];have :tot (.sl tFy) ((aQ w).drop (i+1))<=tot (.sl tFy) ((aQ w).drop i):=by
   cases h:(aQ w).drop i with
   | nil=>
    have :(aQ w).drop (i+1)=[]:=by rw[<- List.drop_drop,h];rfl
    rw[this];exact cCx _
   | cons x l=>
    have :(aQ w).drop (i+1)=l:=by rw[<- List.drop_drop,h];rfl
    rw[this,hH];omega
  omega
 .rcases cCo.1 hx with hx | hx
  .exact cDx hx
  .exact cD4 hx
theorem cBl{B F:Nat}{w:den tNw}{e:den iI}(hF:F<=1000)(hk:nE B F w)(hB:B+(F+1) * (160+F)<=536870912)(h9:(e.1==(9:Int))=false)(hd:SmB 4294967296 (.sl tb) e.2.2.1)(hp:tot tPk e.2.2.2.2.2<=34359738368):aCx w e=some ((doW w e).1,fW (doW w e).2):=by
 obtain⟨kd,n,data,to,ing,pk⟩:=e;simp only at h9 hd hp;have hB0:B<=536870912:=by have :=cCz ((F+1) * (160+F));omega
 have hB1:B+F * (160+F)<=536870912:=by rw[cDd]at hB;omega
 have nl:=fK w;have l1:w.2.2.2.2.2.1.length<=1073741824:=bT5 hk (by omega);have l2:w.2.2.2.2.2.2.1.length<=1073741824:=cCc hk.flows (by omega);obtain⟨n1,n2,n3⟩:=aR4 hk (by omega);have w1:wr ((w.2.2.2.2.2.1.length:Int) - 1)=(w.2.2.2.2.2.1.length:Int) - 1:=pI (by omega);have w2:wr ((w.2.2.2.2.2.2.1.length:Int) - 1)=(w.2.2.2.2.2.2.1.length:Int) - 1:=pI (by omega);have a1:aG 128 w.2.2.2.2.2.1.length 1=true:=aE (by decide) (by omega);unfold aCx doW ixb bM yO bEk pj2 lN aU bG bC cU kH mI sV vA yR aCs aGc aKc aO0 aOs aJr zz4 zz5 zz6 zz7 zz8 zz9;simp only[w1,eZ,aA];cases c1:(kd==(1:Int)) with
 | true=>
  show Option.bind (vT w) _=_;rw[bTz hF hk hB1];rfl
 | false=>
 cases c2:(kd==(2:Int)) with
 | true=>
  simp only[zY,zZ,cCs,zU,zV];cases hin:inR n 0 ((w.2.2.2.2.2.1.length:Int) - 1) with
  | false=>rfl
  | true=>
   obtain⟨i,x,rfl,hx,_,_⟩:=aWb l1 hin;have hx:(aQ w)[i]? =some x:=hx;have e1:=bKw (w:=w) hx l1;have kg:=aJu hk i;obtain⟨m1,m2,m3⟩:=aR4 kg (by omega);have hxm:=cCt hx;have htx:tot tPk x.2.2<=536870912:=by
    have h1:=aC4 (t:=tFy) hxm;have h2:tot tFy x=tot tPk x.2.2:=by simp[sI,vD]
    have :=hk.tot;omega
   have e2:=bBq (w:=aC7 w i) (r:=x.1) (inn:=x.2.1) m1 m2 m3 htx (hk.bytes.fly x hxm);have e3:Option.bind (Option.bind (dZ (aC7 w i) x.1 x.2.1 x.2.2) λy4=>some y4) (λs5=>some (true,s5))=some (true,fW (kD (aC7 w i) x.1 x.2.1 x.2.2)):=by rw[e2];rfl
   rw[zZ,e1,aA];have hx':w.2.2.2.2.2.1[((i:Nat):Int).toNat]? =some x:=by rw[cCm];exact hx
   rw[hx'];exact e3
 | false=>
 cases c3:(kd==(3:Int)) with
 | true=>
  simp only[zY,zZ,cCs,zU,zV];cases hin:inR n 0 ((w.2.2.2.2.2.1.length:Int) - 1) with
  | false=>rfl
  | true=>
   obtain⟨i,x,rfl,hx,_,_⟩:=aWb l1 hin;have hx:(aQ w)[i]? =some x:=hx;have e1:=bKw (w:=w) hx l1;rw[zZ,e1,aA];rfl
 | false=>
 cases c4:(kd==(4:Int)) with
 | true=>
  simp only[zY,zZ,cCs,zU,zV];cases hin:inR n 0 ((w.2.2.2.2.2.1.length:Int) - 1) with
  | false=>rfl
  | true=>
   obtain⟨i,x,rfl,hx,hlt,hz⟩:=aWb l1 hin;have hx:(aQ w)[i]? =some x:=hx;have hxm:=cCt hx;have htx:tot tPk x.2.2<=34359738368:=by
    have h1:=aC4 (t:=tFy) hxm;have h2:tot tFy x=tot tPk x.2.2:=by simp[sI,vD]
    have :=hk.tot;omega
   have hx':w.2.2.2.2.2.1[((i:Nat):Int).toNat]? =some x:=by rw[cCm];exact hx
   have e1:=aD4 (sD htx);cases decide ((w.2.2.2.2.2.1.length:Int)>=150) with
   | true=>rfl
   | false=>
    simp only[cCd,cCh,zY,zZ,aA,hlt,hz,hx',a1,cD7];rw[show ((x.2.2.1,x.2.2.2.1,x.2.2.2.2.1,x.2.2.2.2.2.1,x.2.2.2.2.2.2.1,x.2.2.2.2.2.2.2.1,x.2.2.2.2.2.2.2.2.1,x.2.2.2.2.2.2.2.2.2.1,x.2.2.2.2.2.2.2.2.2.2.1,x.2.2.2.2.2.2.2.2.2.2.2):den tPk)=x.2.2 from rfl,e1,aA];rfl
 | false=>
 cases c5:(kd==(5:Int)) with
 | true=>
  simp only[zY,zZ,cCs,zU,zV,aA,Bool.true_or];rw[show ((w.1,w.2.1,w.2.2.1,w.2.2.2.1,w.2.2.2.2.1,w.2.2.2.2.2.1,w.2.2.2.2.2.2.1,w.2.2.2.2.2.2.2.1,w.2.2.2.2.2.2.2.2):den tNw)=w from rfl,bJn n1.links n1.dead];rfl
 | false=>
 cases c6:(kd==(6:Int)) with
 | true=>
  simp only[zY,zZ,cCs,zU,zV,aA,Bool.or_true];rw[show ((w.1,w.2.1,w.2.2.1,w.2.2.2.1,w.2.2.2.2.1,w.2.2.2.2.2.1,w.2.2.2.2.2.2.1,w.2.2.2.2.2.2.2.1,w.2.2.2.2.2.2.2.2):den tNw)=w from rfl,bJn n1.links n1.dead];rfl
 | false=>
 cases c7:(kd==(7:Int)) with
 | true=>
  simp only[zY,zZ,cCs,zU,zV,aA,cEl,aN,aBy n1.as];have e1:=aD4 (sD hp);cases cD w.1 to with
  | false=>rfl
  | true=>
   cases decide ((w.2.2.2.2.2.1.length:Int)>=150) with
   | true=>rfl
   | false=>
    simp only[cCd,cCh,zY,zZ,aA,a1,e1];rfl
 | false=>
 cases c8:(kd==(8:Int)) with
 | true=>
  simp only[zY,zZ,cCs,zU,zV,aA,cEl,aN];unfold aA7 ixb pj2 pj9 zz4 zz5 zz6 zz7 zz8 zz9;simp only[w2,eZ,aA,c8,zZ];cases hin:inR n 0 ((w.2.2.2.2.2.2.1.length:Int) - 1) with
  | false=>rfl
  | true=>
   obtain⟨i,x,rfl,hx,hlt,hz⟩:=aWb l2 hin;have hx:(aD w)[i]? =some x:=hx;have hxm:=cCt hx;have hx':w.2.2.2.2.2.2.1[((i:Nat):Int).toNat]? =some x:=by rw[cCm];exact hx
   have hfx:tot tFl x<=536870912:=by
    have h1:=aC4 (t:=tFl) hxm;have :=hk.tot;omega
   have e1:=bFs (f:=x) (b:=data) ((bB hfx).mono (by decide)) hd;have hlt2:decide (((i:Nat):Int).toNat<w.2.2.2.2.2.2.1.length)=true:=zX (by rw[cCm];exact (cCq.1 hx).1);simp only[cCd,zY,zZ,hlt,hz,hx',hlt2,aA];rw[show ((x.1,x.2.1,x.2.2.1,x.2.2.2.1,x.2.2.2.2.1,x.2.2.2.2.2.1,x.2.2.2.2.2.2.1,x.2.2.2.2.2.2.2.1,x.2.2.2.2.2.2.2.2):den tFl)=x from rfl,e1,aA];unfold aZq aIb;cases iJ (enq x data)<;>rfl
 | false=>
  simp only[h9,zY,zZ,cCs,zU,zV,aA,cEl];rfl
def aFq(p:den tPt):Prop:=cCv (α:=den tPp) p<=4/\ ∀x:den tPp,x∈(show lPp from p)->x.2.2.2.length<=5
theorem eC.e{p:den tPt}(h:eC p):aFq p:=⟨cCc h.1 (by decide),h.2⟩
theorem bIu{p:den tPt}(h:aFq p):tot tPt p<=24:=by
 have h1:=wP (t:=tPp) (B:=5) (l:=p) λx hx=>aZa (h.2 x hx)
 have h2:=h.1;show tot (.sl tPp) p<=24;omega
theorem aFq.set{p:lPp}(h:eC p){i:Nat}{x:den tPp}(hx:x.2.2.2.length<=5):aFq (p.set i x):=by
 refine⟨by have :=h.1;show (p.set i x).length<=4;rw[cDv];omega,λy hy=> ?_⟩;rcases cEt (show y∈p.set i x from hy) with hy | rfl
 .exact h.2 y hy
 .exact hx
theorem bJu{code:List Int}(hl:code.length<=1048576){c:List Int}{p h:Int}(hc:Cur code (c,p,h)):∃(q:lPp) (c':List Int) (p' h':Int),aAp (c,p,h)=some (q,c',p',h')/\aFq q/\Cur code (c',p',h'):=by
 obtain⟨as,ls,q,c1,p1,h1,e1,hq,_,k1⟩:=aZx hl hc;unfold aAp ixb pj3 pj4;simp only[e1,aA,aT,bI,aX,aY,aZ]
 by_cases h0:q.length=0
 .rw[show ((q.length:Int)==0)=true by rw[beq_iff_eq];omega,zZ];exact⟨q,c1,p1,h1,rfl,hq.e,k1⟩
 have hq3:q.length<=3:=hq.1;rw[show ((q.length:Int)==0)=false by rw[beq_eq_false_iff_ne];omega,zY];obtain⟨v2,c2,p2,h2,e2,r2,k2⟩:=aH hl (n:=(q.length:Int)) (by omega) (by omega) k1;obtain⟨m,rfl⟩:=cC5 r2.1;have hm:m<q.length:=by omega
 have hx:q[m]? =some q[m]:=cCe hm;have hx5:q[m].2.2.2.length<=5:=hq.2 _ (cC9 hm);obtain⟨v3,c3,p3,h3,e3,r3,k3⟩:=aH hl (n:=12) (by decide) (by decide) k2;simp only[e2,e3,aA,zX (show (0:Int)<=(m:Int) by omega),zX (show (m:Int)<(q.length:Int) by omega),zZ,cCm,hx];cases v3==(0:Int) with
 | true=>
  obtain⟨v4,c4,p4,h4,e4,_,k4⟩:=aH hl (n:=6) (by decide) (by decide) k3;exact⟨_,c4,p4,h4,by simp only[zZ,e4,aA];rfl,aFq.set hq (by exact hx5),k4⟩
 | false=>
 cases v3==(1:Int) with
 | true=>
  obtain⟨v4,c4,p4,h4,e4,k4⟩:=aKl hl k3;exact⟨_,c4,p4,h4,by simp only[zZ,zY,e4,aA];rfl,aFq.set hq (by exact hx5),k4⟩
 | false=>
 cases v3==(2:Int) with
 | true=>
  have sx:SmB 68719476736 tPp q[m]:=⟨trivial,trivial,trivial,by omega,λ_ _=>⟨trivial,trivial,trivial,trivial,trivial⟩⟩
  refine⟨q++[q[m]],c3,p3,h3,?_,⟨by show (q++[q[m]]).length<=4;simp;omega,λy hy=> ?_⟩,k3⟩
  .simp only[zZ,zY,aPs (p:=q[m]) (by omega),aN,aA,aE (b:=48) (n:=q.length) (m:=1) (by decide) (by omega)]
  .rcases cCo.1 (show y∈q++[q[m]] from hy) with hy | hy
   .exact hq.2 y hy
   .rw[cCn.1 hy];exact hx5
 | false=>
 cases v3==(3:Int) with
 | true=>
  have s1:bY (1:Int) (q.length:Int) (q.length:Int)=true:=aCy (k:=1) (by omega);have s2:cut q (1:Int) (q.length:Int)=q.drop 1:=aGh (k:=1);refine⟨q.drop 1,c3,p3,h3,by simp only[zZ,zY,s1,s2,aA],⟨by show (q.drop 1).length<=4;simp;omega,λy hy=>hq.2 y (cD4 (show y∈q.drop 1 from hy))⟩,k3⟩
 | false=>
 cases v3==(4:Int) with
 | false=>exact⟨q,c3,p3,h3,by simp only[zY,aA],hq.e,k3⟩
 | true=>
  simp only[zZ,zY]
  by_cases hp:(q[m].2.2.2.length:Int)>0
  .obtain⟨v4,c4,p4,h4,e4,r4,k4⟩:=aH hl (n:=(q[m].2.2.2.length:Int)) hp (by omega) k3;obtain⟨i,rfl⟩:=cC5 r4.1;have hi:i<q[m].2.2.2.length:=by omega
   obtain⟨v5,c5,p5,h5,e5,k5⟩:=aKl hl k4;refine⟨_,c5,p5,h5,?_,aFq.set hq (i:=m) (x:=(q[m].1,q[m].2.1,q[m].2.2.1,q[m].2.2.2.set i (q[m].2.2.2[i].1,q[m].2.2.2[i].2.1,q[m].2.2.2[i].2.2.1,q[m].2.2.2[i].2.2.2.1,v5))) (by show (q[m].2.2.2.set i _).length<=5;rw[cDv];exact hx5),k5⟩;simp only[zX hp,zZ,e4,e5,aA,zX (show (0:Int)<=(i:Int) by omega),zX (show (i:Int)<(q[m].2.2.2.length:Int) by omega),cCm,cCe hi,aT,bI,aX,aY,aZ]
  .exact⟨q,c3,p3,h3,by simp only[zW hp,zY,aA],hq.e,k3⟩
structure bQx (p:den tPk):Prop where
 path:aFq p.2.2.2.1
 len:p.2.2.2.2.2.2.2.2.2.length<=1000
 bytes:eU p
theorem aTj(p:den tPk):tot tPk p=tot tPt p.2.2.2.1+p.2.2.2.2.2.2.2.2.2.length:=by
 have e:tot tPk p=tot tPt p.2.2.2.1+tot (.sl tb) p.2.2.2.2.2.2.2.2.2:=by simp[sI,vD]
 rw[e,cZ (t:=tb) rfl]
theorem bM9{p:den tPk}(h:bQx p):tot tPk p<=1100:=by
 have h1:=bIu h.path;have h2:=h.len;rw[aTj];omega
theorem bLo{code:List Int}(hl:code.length<=1048576){c:List Int}{p h:Int}(hc:Cur code (c,p,h)):∃(as:lAS) (ls:lLk) (k:den tPk) (c':List Int) (p' h':Int),aA5 (c,p,h)=some (as,ls,k.1,k.2.1,k.2.2.1,k.2.2.2.1,k.2.2.2.2.1,k.2.2.2.2.2.1,k.2.2.2.2.2.2.1,k.2.2.2.2.2.2.2.1,k.2.2.2.2.2.2.2.2.1,k.2.2.2.2.2.2.2.2.2,c',p',h')/\bQx k/\zQ as ls/\Cur code (c',p',h'):=by
 obtain⟨as,ls,k,c1,p1,h1,e1,hk,kt,k1⟩:=bT3 hl hc;obtain⟨v2,c2,p2,h2,e2,r2,k2⟩:=aH hl (n:=14) (by decide) (by decide) k1;have hkp:bQx k:=⟨hk.path.e,hk.len,hk.bytes⟩
 unfold aA5 pj3 pj4 aU bG bC zz4 zz5 zz6 zz7 zz8 zz9;simp only[e1,e2,aA,aT,bI,aX,aY,aZ];cases v2==(0:Int) with
 | true=>
  obtain⟨v3,c3,p3,h3,e3,_,k3⟩:=aH hl (n:=4) (by decide) (by decide) k2;exact⟨as,ls,(k.1,k.2.1,k.2.2.1,k.2.2.2.1,wr (v3 - 1),k.2.2.2.2.2.1,k.2.2.2.2.2.2.1,k.2.2.2.2.2.2.2.1,k.2.2.2.2.2.2.2.2.1,k.2.2.2.2.2.2.2.2.2),c3,p3,h3,by simp only[zZ,e3,aA],⟨hkp.path,hkp.len,hkp.bytes⟩,kt,k3⟩
 | false=>
 cases v2==(1:Int) with
 | true=>
  obtain⟨v3,c3,p3,h3,e3,_,k3⟩:=aH hl (n:=4) (by decide) (by decide) k2;exact⟨as,ls,(k.1,k.2.1,k.2.2.1,k.2.2.2.1,k.2.2.2.2.1,wr (v3 - 1),k.2.2.2.2.2.2.1,k.2.2.2.2.2.2.2.1,k.2.2.2.2.2.2.2.2.1,k.2.2.2.2.2.2.2.2.2),c3,p3,h3,by simp only[zZ,zY,e3,aA],⟨hkp.path,hkp.len,hkp.bytes⟩,kt,k3⟩
 | false=>
 cases v2==(2:Int) with
 | true=>
  obtain⟨v3,c3,p3,h3,e3,k3⟩:=aKl hl k2;exact⟨as,ls,(k.1,k.2.1,k.2.2.1,k.2.2.2.1,k.2.2.2.2.1,k.2.2.2.2.2.1,v3,k.2.2.2.2.2.2.2.1,k.2.2.2.2.2.2.2.2.1,k.2.2.2.2.2.2.2.2.2),c3,p3,h3,by simp only[zZ,zY,e3,aA],⟨hkp.path,hkp.len,hkp.bytes⟩,kt,k3⟩
 | false=>
 cases v2==(3:Int) with
 | true=>
  obtain⟨v3,c3,p3,h3,e3,_,k3⟩:=aH hl (n:=9) (by decide) (by decide) k2;exact⟨as,ls,(k.1,k.2.1,v3,k.2.2.2.1,k.2.2.2.2.1,k.2.2.2.2.2.1,k.2.2.2.2.2.2.1,k.2.2.2.2.2.2.2.1,k.2.2.2.2.2.2.2.2.1,k.2.2.2.2.2.2.2.2.2),c3,p3,h3,by simp only[zZ,zY,e3,aA],⟨hkp.path,hkp.len,hkp.bytes⟩,kt,k3⟩
 | false=>
 cases v2==(4:Int) with
 | true=>
  obtain⟨v3,c3,p3,h3,e3,_,k3⟩:=pJ hl (l:=[(-1:Int),(100000:Int),(100001:Int)]) (by decide) (by decide) k2;exact⟨as,ls,(k.1,k.2.1,k.2.2.1,k.2.2.2.1,k.2.2.2.2.1,k.2.2.2.2.2.1,k.2.2.2.2.2.2.1,k.2.2.2.2.2.2.2.1,v3,k.2.2.2.2.2.2.2.2.2),c3,p3,h3,by simp only[zZ,zY,e3,aA],⟨hkp.path,hkp.len,hkp.bytes⟩,kt,k3⟩
 | false=>
 cases v2==(5:Int) with
 | true=>
  obtain⟨q3,c3,p3,h3,e3,hq,k3⟩:=bJu hl k2;exact⟨as,ls,(k.1,k.2.1,k.2.2.1,q3,k.2.2.2.2.1,k.2.2.2.2.2.1,k.2.2.2.2.2.2.1,k.2.2.2.2.2.2.2.1,k.2.2.2.2.2.2.2.2.1,k.2.2.2.2.2.2.2.2.2),c3,p3,h3,by simp only[zZ,zY,e3,aA],⟨hq,hkp.len,hkp.bytes⟩,kt,k3⟩
 | false=>
 cases v2==(6:Int) with
 | true=>
  obtain⟨v3,c3,p3,h3,e3,_,k3⟩:=aH hl (n:=6) (by decide) (by decide) k2;exact⟨as,ls,(wr (v3 - 1),k.2.1,k.2.2.1,k.2.2.2.1,k.2.2.2.2.1,k.2.2.2.2.2.1,k.2.2.2.2.2.2.1,k.2.2.2.2.2.2.2.1,k.2.2.2.2.2.2.2.2.1,k.2.2.2.2.2.2.2.2.2),c3,p3,h3,by simp only[zZ,zY,e3,aA],⟨hkp.path,hkp.len,hkp.bytes⟩,kt,k3⟩
 | false=>exact⟨as,ls,k,c2,p2,h2,by simp only[zY,aA],hkp,kt,k2⟩
structure EvD (w:den tNw) (e:den iI):Prop where
 lo:(1:Int)<=e.1
 hi:(8:Int)>=e.1
 data:e.2.2.1.length<=3/\iH e.2.2.1
 pk:tot tPk e.2.2.2.2.2<=1100/\eU e.2.2.2.2.2
 harm:harm w e=true
structure EvS (e:den iI):Prop where
 data:e.2.2.1.length<=3/\iH e.2.2.1
 pk:tot tPk e.2.2.2.2.2<=1100/\eU e.2.2.2.2.2
theorem EvD.s{w:den tNw}{e:den iI}(h:EvD w e):EvS e:=⟨h.data,h.pk⟩
structure bP1 (w:den tNw):Prop where
 tot:tot tNw w<=536870912
 as:1<=(nT w).1.length/\(nT w).1.length<=8
 links:(nT w).2.length<=200
 flyN:(aQ w).length<=200
 fly:∀x∈aQ w,Go.V.tot tPk x.2.2<=1100
 bytes:∀x∈aQ w,eU x.2.2
 flows:(aD w).length<=4
theorem bFy{w:den tNw}{e:den iI}(h:(e.1==(7:Int))=false):harm w e=true:=by
 unfold harm;rw[h];rfl
theorem bKn{w:den tNw}{to ing:Int}{pk:den tPk}:harm w ((7:Int),(0:Int),[],(to,ing,((3:Int),pk.2)))=true:=by
 unfold harm vC;rw[show (((3:Int),pk.2):den tPk).1=3 from rfl,show ((3:Int)==3)=true from rfl,Bool.or_true,Bool.or_true];rfl
def fgR(w:den tNw)(e:den iI)(c:List Int)(p h:Int):q5:=
 (e.1,e.2.1,e.2.2.2.1,e.2.2.2.2.1,e.2.2.2.2.2.1,e.2.2.2.2.2.2.1,e.2.2.2.2.2.2.2.1,e.2.2.2.2.2.2.2.2.1,e.2.2.2.2.2.2.2.2.2.1,e.2.2.2.2.2.2.2.2.2.2.1,e.2.2.2.2.2.2.2.2.2.2.2.1,e.2.2.2.2.2.2.2.2.2.2.2.2.1,e.2.2.2.2.2.2.2.2.2.2.2.2.2.1,e.2.2.2.2.2.2.2.2.2.2.2.2.2.2,e.2.2.1,c,p,h,aQ w,aD w,aW w)
def nxR(w:den tNw)(e:den iI)(c:List Int)(p h:Int):q5:=
 (e.1,e.2.1,e.2.2.2.1,e.2.2.2.2.1,e.2.2.2.2.2.1,e.2.2.2.2.2.2.1,e.2.2.2.2.2.2.2.1,e.2.2.2.2.2.2.2.2.1,e.2.2.2.2.2.2.2.2.2.1,e.2.2.2.2.2.2.2.2.2.2.1,e.2.2.2.2.2.2.2.2.2.2.2.1,e.2.2.2.2.2.2.2.2.2.2.2.2.1,e.2.2.2.2.2.2.2.2.2.2.2.2.2.1,e.2.2.1,e.2.2.2.2.2.2.2.2.2.2.2.2.2.2,c,p,h,aQ w,aD w,aW w)
end Go.Proofs.YtnkjolpkcmgcaaaGreat
