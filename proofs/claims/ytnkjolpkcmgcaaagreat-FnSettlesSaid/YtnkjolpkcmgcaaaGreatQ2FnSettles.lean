/-
  Facts and plain laws: what the functions compute, in plain words. Conditions: as each says.
-/
import Derived.Test.YtnkjolpkcmgcaaaGreatQ1FnSettles
open Nat renaming zero_le->cFe,le_trans->cEv,le_refl->cE8,le_succ->cFz,zero_add->cFs,le_of_eq->cGv,le_add_right->cHz,add_sub_cancel->cH9,add_le_add_right->cG6,le_add_left->cGr
open List renaming not_mem_nil->cFi,mem_cons_of_mem->cE7,mem_append->cE4,mem_singleton->cE3,mem_of_getElem?->cE9,mem_of_mem_take->cGj,mem_of_mem_drop->cGq,length_append->cFj,length_take->cF6,length_drop->cG8,length_singleton->cGe,length_set->cF8,mem_or_eq_of_mem_set->cHx,getLast?_concat->cGs,dropLast_concat->cG9,pairwise_iff_getElem->cG5,getElem?_eq_getElem->cEx,getElem?_eq_some_iff->cEz,getElem?_map->cGy,getElem?_set->cG3,getElem?_set_self->cHo,getElem?_append_left->cIb,all_eq_true->cFn,Pairwise->cH1,mem_map->cE5,mem_filter->cFc,length_map->cFt,mem_cons->cEy,length_cons->cFw,reverse_cons->cIe,map_append->cGi,drop_eq_getElem_cons->cHl,mem_cons_self->cFb,take_append_drop->cGd,append_assoc->cFk,append_nil->cFv,length_dropLast->cIf,cons_append->cHs,nil_append->cFl,getElem?_append_right->cHi,map_map->cHh,flatMap_cons->cH8,Sublist->cHp,filter_cons->cHm,nodup_append->cF3,getElem?_set_ne->cH5,getElem_mem->cGh
open Int renaming eq_ofNat_of_zero_le->cFo,le_refl->cFx,le_trans->cGa,toNat_natCast->cE0
open Bool renaming not_true->cE2,and_false->cGt,false_eq_true->cE1,and_eq_true->cEw,not_eq_true'->cFu,or_eq_true->cGm,or_self->cGn
open Option renaming map_eq_some_iff->cFr,getD_some->cFy
set_option linter.unusedVariables false
set_option linter.unusedSimpArgs false
set_option maxRecDepth 100000
namespace Go.Proofs.YtnkjolpkcmgcaaaGreat
open Go.Ab Go.V
theorem bRm{code:List Int}(hl:code.length<=1048576){w:den tNw}(hw:bP7 w){c:List Int}{p h:Int}(hc:Cur code (c,p,h)):∃e c' p' h',uD (c,p,h) w=some (nxR w e c' p' h')/\EvD w e/\Cur code (c',p',h'):=by
 have hlk:w.1.2.length<=200:=hw.links;have hfl:w.2.2.2.2.2.2.1.length<=4:=hw.flows;have hfn:w.2.2.2.2.2.1.length<=200:=hw.flyN;have wl:wr ((w.1.2.length:Int)+1)=((w.1.2.length+1:Nat):Int):=eZ (by omega);have wf:wr ((w.2.2.2.2.2.2.1.length:Int)+1)=((w.2.2.2.2.2.2.1.length+1:Nat):Int):=eZ (by omega);have pk0D:tot tPk ((0:Int),(0:Int),(0:Int),[],(0:Int),(0:Int),(0:Int),(0:Int),(0:Int),[])<=1100/\fR ((0:Int),(0:Int),(0:Int),[],(0:Int),(0:Int),(0:Int),(0:Int),(0:Int),[]):=⟨by rw[aUh];exact cFe _,λx hx=>(cFi hx).elim⟩
 have ev:∀(kd n:Int) (data:List Int),(1:Int)<=kd->(8:Int)>=kd->(kd==(7:Int))=false->data.length<=3->sG data->EvD w (kd,n,data,((0:Int),(0:Int),((0:Int),(0:Int),(0:Int),[],(0:Int),(0:Int),(0:Int),(0:Int),(0:Int),[]))):=λkd n data a b d e f=>⟨a,b,⟨e,f⟩,pk0D,bIk d⟩
 have nob:sG []:=λx hx=>(cFi hx).elim
 obtain⟨v1,c1,p1,h1,e1,r1,k1⟩:=aL hl (n:=24) (by decide) (by decide) hc;obtain⟨v2,c2,p2,h2,e2,r2,k2⟩:=aL hl (n:=((w.1.2.length+1:Nat):Int)) (by omega) (by omega) k1;unfold uD pj3 pj6 dS aO bC bK dY kV vE zz4 zz5 zz6 zz7 zz8 zz9;simp only[e1,aA,wl,wf,e2];cases v1==(0:Int) with
 | true=>
  exact⟨((5:Int),v2,[],((0:Int),(0:Int),((0:Int),(0:Int),(0:Int),[],(0:Int),(0:Int),(0:Int),(0:Int),(0:Int),[]))),c2,p2,h2,rfl,ev 5 v2 [] (by decide) (by decide) rfl (cFe _) nob,k2⟩
 | false=>
 simp only[zY];obtain⟨b3,e3⟩:∃b,(cond (v1==(1:Int)) (some (v1==(1:Int))) (some (v1==(2:Int))))=some b:=by cases v1==(1:Int)<;>exact⟨_,rfl⟩
 rw[e3,aA];cases b3 with
 | true=>
  exact⟨((6:Int),v2,[],((0:Int),(0:Int),((0:Int),(0:Int),(0:Int),[],(0:Int),(0:Int),(0:Int),(0:Int),(0:Int),[]))),c2,p2,h2,rfl,ev 6 v2 [] (by decide) (by decide) rfl (cFe _) nob,k2⟩
 | false=>
 simp only[zY];cases v1==(3:Int) with
 | true=>
  obtain⟨e,c4,p4,h4,e4,d4,k4⟩:=bLa hl hw k1;refine⟨e,c4,p4,h4,?_,d4,k4⟩;rw[zZ];show Option.bind (pD (c1,p1,h1) w) _=_;rw[e4];rfl
 | false=>
 simp only[zY];cases v1==(4:Int) with
 | true=>
  obtain⟨v4,c4,p4,h4,e4,r4,k4⟩:=aL hl (n:=((w.2.2.2.2.2.2.1.length+1:Nat):Int)) (by omega) (by omega) k1;obtain⟨v5,c5,p5,h5,e5,r5,k5⟩:=aL hl (n:=3) (by decide) (by decide) k4;obtain⟨m5,rfl⟩:=cFo r5.1;obtain⟨l6,c6,p6,h6,e6,⟨r6,b6⟩,k6⟩:=aNs hl (n:=m5) (by omega) k5;exact⟨((8:Int),v4,l6,((0:Int),(0:Int),((0:Int),(0:Int),(0:Int),[],(0:Int),(0:Int),(0:Int),(0:Int),(0:Int),[]))),c6,p6,h6,by simp only[zZ,e4,e5,e6,aA];rfl,ev 8 v4 l6 (by decide) (by decide) rfl (by omega) b6,k6⟩
 | false=>
 simp only[zY];have tick:∀c p h,Cur code (c,p,h)-> ∃e c' p' h',(some ((1:Int),(0:Int),(0:Int),(0:Int),(0:Int),(0:Int),(0:Int),[],(0:Int),(0:Int),(0:Int),(0:Int),(0:Int),[],[],c,p,h,w.2.2.2.2.2.1,w.2.2.2.2.2.2.1,w.2.2.2.2.2.2.2.1):Option q7)=some (nxR w e c' p' h')/\EvD w e/\Cur code (c',p',h'):=λc p h hc=>
  ⟨((1:Int),(0:Int),[],((0:Int),(0:Int),((0:Int),(0:Int),(0:Int),[],(0:Int),(0:Int),(0:Int),(0:Int),(0:Int),[]))),c,p,h,rfl,ev 1 0 [] (by decide) (by decide) rfl (cFe _) nob,hc⟩
 by_cases hf:(w.2.2.2.2.2.1.length:Int)>0
 .obtain⟨v4,c4,p4,h4,e4,k4⟩:=tJ hl (n:=4) (by decide) (by decide) k1;simp only[zX hf,zZ,e4,aA];cases v4 with
  | true=>
   simp only[cE2,zY];exact tick c4 p4 h4 k4
  | false=>
   simp only[Bool.not_false,zZ];obtain⟨m,em,hm1,hm2⟩:∃m:Int,(if (3:Int)<(w.2.2.2.2.2.1.length:Int) then (3:Int) else (w.2.2.2.2.2.1.length:Int))=m/\0<m/\m<=256:=by
    split
    .exact⟨_,rfl,by decide,by decide⟩
    .exact⟨_,rfl,by omega,by omega⟩
   obtain⟨v5,c5,p5,h5,e5,r5,k5⟩:=aL hl hm1 hm2 k4;obtain⟨v6,c6,p6,h6,e6,r6,k6⟩:=aL hl (n:=12) (by decide) (by decide) k5;simp only[aXp,em,e5,e6,aA];cases v6==(0:Int) with
   | true=>exact⟨((3:Int),v5,[],((0:Int),(0:Int),((0:Int),(0:Int),(0:Int),[],(0:Int),(0:Int),(0:Int),(0:Int),(0:Int),[]))),c6,p6,h6,rfl,ev 3 v5 [] (by decide) (by decide) rfl (cFe _) nob,k6⟩
   | false=>
    cases v6==(1:Int) with
    | true=>exact⟨((4:Int),v5,[],((0:Int),(0:Int),((0:Int),(0:Int),(0:Int),[],(0:Int),(0:Int),(0:Int),(0:Int),(0:Int),[]))),c6,p6,h6,rfl,ev 4 v5 [] (by decide) (by decide) rfl (cFe _) nob,k6⟩
    | false=>exact⟨((2:Int),v5,[],((0:Int),(0:Int),((0:Int),(0:Int),(0:Int),[],(0:Int),(0:Int),(0:Int),(0:Int),(0:Int),[]))),c6,p6,h6,rfl,ev 2 v5 [] (by decide) (by decide) rfl (cFe _) nob,k6⟩
 .simp only[zW hf,zY,aA];exact tick c1 p1 h1 k1
theorem bE2{s d now now':Int}(hn:now<=now'):∀{l:lRs},(∀x∈l,(0:Int)<=x.2.2.2.1/\(20:Int)>=x.2.2.2.1)->rs s d now' l<=rs s d now l
 | [],_=>cFx _
 | x::l,h=>by
  have ih:=bE2 (s:=s) (d:=d) hn (l:=l) λy hy=>h y (cE7 _ hy)
  have hx:=h x (by simp);unfold rs
  by_cases c:now'<=x.2.2.2.2
  .rw[zX c,zX (show now<=x.2.2.2.2 from cGa hn c)];split<;>omega
  .rw[zW c,cGt];simp only[cE1,zU];split<;>omega
theorem rQ.later{l:lRs}{cap now now':Int}(h:rQ l cap now)(hn:now<=now'):rQ l cap now':=
 ⟨h.len,h.val,λx hx=>cGa (bE2 hn (vN h.val)) (h.rate x hx),h.pw⟩
theorem OkS.tick{g:den tSc}{now now':Int}(h:OkS g now)(hn:now<=now'):OkS (g.1,vL g.2.1 now',[]) now':=
 ⟨h.lo,h.hi,(h.res.later hn).filter _,λj x hx=>by simp at hx⟩
structure bX (w w':den tNw):Prop where
 top:nT w'=nT w
 now:aI w'=aI w
 gate:OkS (nG w) (aI w)->OkS (nG w') (aI w')
 fly:∀x∈aH w',x∈aH w\/tot tPk x.2.2<=1100
 flyN:(aH w).length<=150->(aH w').length<=150
theorem bX.refl(w:den tNw):bX w w:=⟨rfl,rfl,id,λx hx=> .inl hx,id⟩
theorem bX.trans{a b c:den tNw}(h:bX a b)(k:bX b c):bX a c:=
 ⟨k.top.trans h.top,k.now.trans h.now,λhg=>k.gate (h.gate hg),λx hx=>(k.fly x hx).elim (h.fly x) .inr,λhl=>k.flyN (h.flyN hl)⟩
theorem bX.drop(w:den tNw):bX w (wX w):=⟨rfl,rfl,id,λx hx=> .inl hx,id⟩
theorem bX.box(w:den tNw)(i:Nat)(x:den tIb):bX w (oB w i x):=⟨rfl,rfl,id,λx hx=> .inl hx,id⟩
theorem bX.flows(w:den tNw)(l:lFl):bX w (bS w l):=⟨rfl,rfl,id,λx hx=> .inl hx,id⟩
theorem bX.tell(w:den tNw)(r:Int)(p:den tPk):bX w (tF w r p):=bX.flows w _
theorem bX.send{w:den tNw}{r eg:Int}{p:den tPk}(hp:tot tPk p<=1100):bX w (gM w r eg p):=by
 unfold gM;split
 .rename_i hc;rw[cEw,zR]at hc;refine⟨rfl,rfl,λhg=>hg.trans _ _ _,λx hx=> ?_,λhl=> ?_⟩
  .rcases cE4.1 (show x∈aH w++_ from hx) with hx | hx
   .exact .inl hx
   .have :x=_:=cE3.1 hx;subst this;exact .inr hp
  .show (aH w++_).length<=150;have :=hc.2;simp;omega
 .exact bX.drop w
theorem aPa{t:den tTo}{now:Int}{dead:List Int}{r inn:Int}{p:den tPk}(h:((aG t now dead r inn p).1==0)=true):tot tPk (aG t now dead r inn p).2.2.1<=1100:=by
 have hv:dC p=true:=aC1 (t:=t) (r:=r) (now:=now) (dead:=dL t dead r) (inn:=inn) (by
  have h:((fwd t r now (dL t dead r) inn p).1==0)=true:=h;rw[eq_of_beq h];rfl)
 unfold aG;rw[aJr];exact cEv (aF5 hv) (by decide)
theorem bX.proc0(w:den tNw)(r inn:Int)(p:den tPk):bX w (proc0 w r inn p):=by
 unfold Go.Proofs.YtnkjolpkcmgcaaaGreat.proc0;split
 .rename_i h;exact bX.send (aPa h)
 .split
  .exact bX.tell w _ _
  .exact bX.drop w
theorem bX.proc(w:den tNw)(r inn:Int)(p:den tPk):bX w (dW w r inn p):=by
 unfold dW;split
 .rename_i h;exact bX.send (aPa h)
 .split
  .split
   .unfold qJ;split
    .exact bX.refl w
    .split
     .exact (bX.box w _ _).trans (bX.proc0 _ _ _ _)
     .exact bX.box w _ _
   .exact bX.tell w _ _
  .split
   .unfold tA;split
    .exact (bX.proc0 _ _ _ _).trans (bX.drop _)
    .exact (bX.tell _ _ _).trans (bX.drop _)
   .exact bX.drop w
theorem bX.stepT(k:Nat)(w:den tNw):bX w (stepT k w):=by
 unfold Go.Proofs.YtnkjolpkcmgcaaaGreat.stepT;split
 .split
  .exact (bX.flows w _).trans (bX.proc _ _ _ _)
  .exact bX.flows w _
 .exact bX.refl w
theorem bX.tickL:∀(n k:Nat) (w:den tNw),bX w (tickL k n w)
 | 0,_,w=>bX.refl w
 | n+1,k,w=>(bX.stepT k w).trans (bX.tickL n (k+1) _)
structure rW (t:den tTo) (B k:Nat) (w:den tNw):Prop where
 keep:fM B 4 w
 top:nT w=t
 gate:OkS (nG w) (aI w)
 lo:(0:Int)<=aI w
 hi:aI w<=60+(k:Int)
 fly:∀x∈aH w,tot tPk x.2.2<=1100
 flyN:(aH w).length<=150
theorem rW.mono{t:den tTo}{B C k j:Nat}{w:den tNw}(h:rW t B k w)(hB:B<=C)(hk:k<=j):rW t C j w:=⟨h.keep.mono hB,h.top,h.gate,h.lo,by have :=h.hi;omega,h.fly,h.flyN⟩
theorem rW.step{t:den tTo}{B C k:Nat}{w w':den tNw}(h:rW t B k w)(s:bX w w')(hk:fM C 4 w'):rW t C k w':=
 ⟨hk,s.top.trans h.top,s.gate h.gate,by rw[s.now];exact h.lo,by rw[s.now];exact h.hi,λx hx=>(s.fly x hx).elim (h.fly x) id,s.flyN h.flyN⟩
theorem bIt{t:den tTo}{B k:Nat}{w:den tNw}(h:rW t B k w)(hk:k<=10000000):rW t B (k+1) (tick0 w):=by
 have hlo:=h.lo;have hhi:=h.hi;have e:wr (aI w+1)=aI w+1:=bJ (by omega) (by omega);refine⟨aF9 h.keep,h.top,?_,?_,?_,h.fly,h.flyN⟩
 .show OkS ((nG w).1,vL (nG w).2.1 (wr (aI w+1)),[]) (wr (aI w+1));rw[e];exact h.gate.tick (by omega)
 .show (0:Int)<=wr (aI w+1);omega
 .show wr (aI w+1)<=_;omega
theorem aVv{t:den tTo}{B k:Nat}{w:den tNw}(h:rW t B k w)(hk:k<=10000000):rW t (B+656) (k+1) (dA w):=by
 have hkp:=aK3 h.keep;unfold dA at hkp ⊢;split
 .exact h.mono (by omega) (by omega)
 .rename_i hn;rw[zS hn]at hkp;exact (bIt h hk).step (bX.tickL _ _ _) hkp
theorem bFm{w:den tNw}{x:den tFy}:tot tNw (cC w (aH w++[x]))=tot tNw w+(1+tot tPk x.2.2):=by
 have h1:=aLy w (aH w++[x]);rw[sY,aD8]at h1;have e:tot tFy x=tot tPk x.2.2:=by simp[pC,qU]
 omega
theorem bMz(m:Nat)(dead:List Int)(i:Int)(b:Bool):(aBf m dead i b).length<=m:=by
 unfold aBf;exact cEv (List.length_filter_le ..) (by simp)
theorem bC1(w:den tNw)(l:List Int):tot tNw (aJi w l)+(aJ w).length=tot tNw w+l.length:=by
 have e:tot tNw (aJi w l)=(tot (.sl tAS) (nT w).1+tot (.sl tLk) (nT w).2)+((tot (.sl tSg) (nK w).1+tot (.sl tSg) (nK w).2)+((0+(tot (.sl tRs) (nG w).2.1+tot (.sl tUs) (nG w).2.2))+(0+(tot (.sl ti) l+(tot (.sl tFy) (aH w)+(tot (.sl tFl) (aB w)+(tot (.sl tIb) (aS w)+0))))))):=rfl;have r:∀l:List Int,tot (.sl ti) l=l.length:=λl=>dQ rfl
 rw[e,gA w,r,r];omega
theorem bF2{t:den tTo}{B k:Nat}{w:den tNw}{e:den iJ}(h:rW t B k w)(hk:k<=10000000)(ht:t.2.length<=200)(he:EvS e):rW t (B+2000) (k+1) (doW w e).2:=by
 have same:rW t (B+2000) (k+1) w:=h.mono (by omega) (by omega);unfold doW;split
 .exact (aVv h hk).mono (by omega) (by omega)
 .split
  .split
   .rename_i x hi hx;have hm:=cE9 hx;have hb:=h.keep.bytes.fly x hm;have hg:rW t B k (aB4 w e.2.1.toNat):=h.step ⟨rfl,rfl,id,λy hy=> ?_,λhl=> ?_⟩ (aLw h.keep _)
    .exact ((hg.step (bX.proc _ _ _ _) (bDj hg.keep hb)).mono (by omega) (by omega))
    .rcases cE4.1 (show y∈(aH w).take _++(aH w).drop _ from hy) with hy | hy
     .exact .inl (cGj hy)
     .exact .inl (cGq hy)
    .show ((aH w).take _++(aH w).drop _).length<=150;simp only[cFj,cF6,cG8];omega
   .exact same
  .split
   .split
    .have hg:rW t B k (aB4 w e.2.1.toNat):=h.step ⟨rfl,rfl,id,λy hy=> ?_,λhl=> ?_⟩ (aLw h.keep _)
     .exact (hg.step (bX.drop _) ⟨hg.keep.tot,hg.keep.flows,⟨hg.keep.bytes.fly,hg.keep.bytes.msg⟩⟩).mono (by omega) (by omega)
     .rcases cE4.1 (show y∈(aH w).take _++(aH w).drop _ from hy) with hy | hy
      .exact .inl (cGj hy)
      .exact .inl (cGq hy)
     .show ((aH w).take _++(aH w).drop _).length<=150;simp only[cFj,cF6,cG8];omega
    .exact same
   .split
    .split
     .rename_i x hi hx;have hm:=cE9 hx;rw[cEw]at hi;have hlt: ¬ (((aH w).length:Int)>=150):=by have :=hi.2;simpa using this
      have ht':=bFm (w:=w) (x:=x);have hx':=h.fly x hm;have hkp:=h.keep.tot;refine rW.mono (B:=B+1101) (k:=k) (h.step (w':=cC w (aH w++[x])) ⟨rfl,rfl,id,λy hy=> ?_,λhl=> ?_⟩ ⟨by omega,h.keep.flows,⟨λy hy=> ?_,h.keep.bytes.msg⟩⟩) (by omega) (by omega)
      .rcases cE4.1 (show y∈aH w++[x] from hy) with hy | hy
       .exact .inl hy
       .rw[cE3.1 hy];exact .inl hm
      .show (aH w++[x]).length<=150;simp only[cFj,cGe];omega
      .rcases cE4.1 (show y∈aH w++[x] from hy) with hy | hy
       .exact h.keep.bytes.fly y hy
       .rw[cE3.1 hy];exact h.keep.bytes.fly x hm
     .exact same
    .split
     .show rW t (B+2000) (k+1) (yC w e.2.1 (e.1==5));unfold yC;split
      .exact same
      .have h1:=bC1 w (aBf (nT w).2.length (aJ w) e.2.1 (e.1==5));have h2:=bMz (nT w).2.length (aJ w) e.2.1 (e.1==5);have h3:(nT w).2.length<=200:=by rw[h.top];exact ht
       have hkp:=h.keep.tot;exact rW.mono (B:=B+200) (k:=k) (h.step (w':=aJi w (aBf (nT w).2.length (aJ w) e.2.1 (e.1==5))) ⟨rfl,rfl,id,λy hy=> .inl hy,id⟩ ⟨by omega,h.keep.flows,⟨h.keep.bytes.fly,h.keep.bytes.msg⟩⟩) (by omega) (by omega)
     .split
      .split
       .rename_i hc;rw[cEw]at hc;have hlt: ¬ (((aH w).length:Int)>=150):=by have :=hc.2;simpa using this
        have ht':=bFm (w:=w) (x:=e.2.2.2);have hx':=he.pk.1;have hkp:=h.keep.tot;refine rW.mono (B:=B+1101) (k:=k) (h.step (w':=cC w (aH w++[e.2.2.2])) ⟨rfl,rfl,id,λy hy=> ?_,λhl=> ?_⟩ ⟨by omega,h.keep.flows,⟨λy hy=> ?_,h.keep.bytes.msg⟩⟩) (by omega) (by omega)
        .rcases cE4.1 (show y∈aH w++[e.2.2.2] from hy) with hy | hy
         .exact .inl hy
         .rw[cE3.1 hy];exact .inr hx'
        .show (aH w++[e.2.2.2]).length<=150;simp only[cFj,cGe];omega
        .rcases cE4.1 (show y∈aH w++[e.2.2.2] from hy) with hy | hy
         .exact h.keep.bytes.fly y hy
         .rw[cE3.1 hy];exact he.pk.2
       .exact same
      .split
       .split
        .rename_i f hi hf;have hm:=cE9 hf;have h1:=aN7 (t:=tFl) (y:=aHm f e.2.2.1) hf;have h5:=aG7 w ((aB w).set e.2.1.toNat (aHm f e.2.2.1));have h6:=gA w;have hkp:=h.keep.tot;have h2:tot tFl (aHm f e.2.2.1)<=tot tFl f+4:=by
          unfold aHm;split
          .obtain⟨a,b,c,d,ms,ps,cu,wa,rv⟩:=f;show tot tFl (a,b,c,d,ms++[e.2.2.1],ps,cu,wa,rv)<=tot tFl (a,b,c,d,ms,ps,cu,wa,rv)+4;rw[aHg,aHg,sY,bD3];have :=he.data.1;omega
          .omega
         refine rW.mono (B:=B+4) (k:=k) (h.step (w':=bS w ((aB w).set e.2.1.toNat (aHm f e.2.2.1))) (bX.flows w _) ⟨by omega,by show ((aB w).set _ _).length<=4;rw[cF8];exact h.keep.flows,⟨h.keep.bytes.fly,λg hg m hmm=> ?_⟩⟩) (by omega) (by omega);rcases cHx (show g∈(aB w).set _ _ from hg) with hg | rfl
         .exact h.keep.bytes.msg g hg m hmm
         .unfold aHm at hmm;split at hmm
          .rcases cE4.1 (show m∈f.2.2.2.2.1++[e.2.2.1] from hmm) with hmm | hmm
           .exact h.keep.bytes.msg f hm m hmm
           .rw[cE3.1 hmm];exact he.data.2
          .exact h.keep.bytes.msg f hm m hmm
        .exact same
       .exact same
inductive Ran (v:den tNw):tR->den tNw->Prop
 | nil:Ran v [] v
 | snoc {l:tR} {w:den tNw} {e:den iJ} (h:Ran v l w) (he:EvD w e):Ran v (l++[e]) (doW w e).2
theorem vI.gateOk{n:Nat}{v:den tNw}(h:vI n v):OkS (nG v) (aI v):=by
 have h1:=h.res;rw[h.now,h.gate];exact⟨by show (1:Int)<=12;decide,by show (20:Int)>=12;decide,h1,λj x hx=>by simp at hx⟩
theorem vI.run{v:den tNw}(h:vI 3 v):rW (nT v) 1000 0 v where
 keep:=⟨h.tot (by decide),cEv h.len (by decide),⟨λx hx=>(by rw[h.fly]at hx;cases hx),λf hf m hm=>(h.flows f hf).bytes m hm⟩⟩
 top:=rfl
 gate:=h.gateOk
 lo:=by rw[h.now];decide
 hi:=by rw[h.now];decide
 fly:=λx hx=>by rw[h.fly]at hx;cases hx
 flyN:=by rw[h.fly];exact cFe _
theorem Ran.run{v:den tNw}(hv:vI 3 v){l:tR}{w:den tNw}(h:Ran v l w):l.length<=1000->rW (nT v) (1000+2000 * l.length) l.length w:=by
 induction h with
 | nil=>intro _;exact hv.run
 | snoc h he ih=>
  intro hl;simp only[cFj,cGe]at hl ⊢;exact (bF2 (ih (by omega)) (by omega) (cEv hv.top.links (by decide)) he.s).mono (by omega) (by omega)
theorem rW.netE{t:den tTo}{B k:Nat}{w:den tNw}(h:rW t B k w)(hB:B<=536870912)(h1:1<=t.1.length)(h8:t.1.length<=8)(hl:t.2.length<=100):bP7 w:=
 ⟨cEv h.keep.tot hB,by rw[h.top];exact⟨h1,h8⟩,by rw[h.top];exact cEv hl (by decide),cEv h.flyN (by decide),h.fly,h.keep.bytes.fly,h.keep.flows⟩
def cEc(v:den tNw)(l:tR)(w:den tNw)(c:List Int)(p h:Int):q17:=
 ((nG v).1,aI v,dN v,l,(nT w).1,(nT w).2,(nK w).1,(nK w).2,(nG w).1,(nG w).2.1,(nG w).2.2,aI w,aJ w,dN w,(nT v).1,(nT v).2,(nK v).1,(nK v).2,(nG v).2.1,(nG v).2.2,aJ v,aH v,aB v,aS v,aH w,aB w,aS w,c,p,h)
abbrev RnS:=Int×lAS×lLk×lSg×lSg×Int×lRs×lUs×Int×lI×Int×tR×lFy×lFl×lIb×lI×Int×Int
abbrev RnR:=lAS×lLk×lSg×lSg×Int×lRs×lUs×Int×lI×Int×tR×lFy×lFl×lIb×lI×Int×Int
def rnS(n:Nat)(l:tR)(w:den tNw)(c:List Int)(p h:Int):RnS:=((n:Int),(nT w).1,(nT w).2,(nK w).1,(nK w).2,(nG w).1,(nG w).2.1,(nG w).2.2,aI w,aJ w,dN w,l,aH w,aB w,aS w,c,p,h)
def cAj(code:List Int)(N:Nat)(o:Option q17):Prop:=
 ∃v l w c' p' h',o=some (cEc v l w c' p' h')/\vI 3 v/\Ran v l w/\l.length<=N/\Cur code (c',p',h')
theorem bX0{code:List Int}(hl:code.length<=1048576){most:Nat}(h0:0<most)(h1:most<=200){c:List Int}{p h:Int}(hc:Cur code (c,p,h)):cAj code (3+most) (aAk (c,p,h) (most:Int)):=by
 obtain⟨v,c1,p1,h1',e1,hv,k1⟩:=bVz hl hc;obtain⟨v2,c2,p2,h2,e2,r2,k2⟩:=aL hl (n:=(most:Int)) (by omega) (by omega) k1;obtain⟨m2,rfl⟩:=cFo r2.1;have w2:wr ((3:Int)+(m2:Int))=((m2+3:Nat):Int):=by rw[bJ (by omega) (by omega)];omega
 have sw:SmB 68719476736 tNw v:=(bR (hv.tot (by decide))).mono (by decide);have e3:sM (((aAt v c1 p1 h1').2.2.2.1,(aAt v c1 p1 h1').2.2.2.2.1),((aAt v c1 p1 h1').2.2.2.2.2.1,(aAt v c1 p1 h1').2.2.2.2.2.2.1),((aAt v c1 p1 h1').1,(aAt v c1 p1 h1').2.2.2.2.2.2.2.1,(aAt v c1 p1 h1').2.2.2.2.2.2.2.2.1),(aAt v c1 p1 h1').2.1,(aAt v c1 p1 h1').2.2.2.2.2.2.2.2.2.1,(aAt v c1 p1 h1').2.2.2.2.2.2.2.2.2.2.1,(aAt v c1 p1 h1').2.2.2.2.2.2.2.2.2.2.2.1,(aAt v c1 p1 h1').2.2.2.2.2.2.2.2.2.2.2.2.1,(aAt v c1 p1 h1').2.2.1)=some (aNq v):=bGa sw;have e2:aC ((aAt v c1 p1 h1').2.2.2.2.2.2.2.2.2.2.2.2.2.1,(aAt v c1 p1 h1').2.2.2.2.2.2.2.2.2.2.2.2.2.2.1,(aAt v c1 p1 h1').2.2.2.2.2.2.2.2.2.2.2.2.2.2.2) (most:Int)=some ((m2:Int),c2,p2,h2):=e2;unfold aAk bZ2 pj3 pj6 aO bC bK dY kV vE aA2 aD6 aG1 aHf aP1 zz4 zz5 zz6 zz7 zz8 zz9;simp only[aW,bN,bF,bE,bG,e1,aA,e3,e2,w2];refine wW (G:=cAj code (3+most)) (λ(n:Nat) (s:RnS)=> ∃l w c p h,s=rnS n l w c p h/\l.length+n<=3+most/\Ran v l w/\Cur code (c,p,h)) (λr:RnR=> ∃n l w c p h,r=(rnS n l w c p h).2/\l.length<=3+most/\Ran v l w/\Cur code (c,p,h)) ?_ (m2+3) (rnS (m2+3) [] v c2 p2 h2) ⟨[],v,c2,p2,h2,rfl,by simp only[List.length_nil];omega,.nil,k2⟩ ?_
 .rintro n s ⟨l,w,c3,p3,h3,rfl,hn,hr,k3⟩
  cases n with
  | zero=>exact .inl ⟨_,rfl,0,l,w,c3,p3,h3,rfl,by omega,hr,k3⟩
  | succ n=>
   right;have hrun:=hr.run hv (by omega);have hE:=hrun.netE (by omega) hv.top.pos hv.top.len hv.top.links;obtain⟨e,c4,p4,h4,e4,he,k4⟩:=bRm hl hE k3;have e5:=cEk (w:=w) (e:=e) (by decide) hrun.keep (by omega) (by
     have h8:=he.hi;have h9: ¬ (e.1=(9:Int)):=λh=>by rw[h]at h8;exact absurd h8 (by decide)
     exact beq_eq_false_iff_ne.2 h9) ⟨by have :=he.data.1;omega,λx hx=>trivial⟩ (cEv he.pk.1 (by decide))
   have wn:wr (((n+1:Nat):Int) - 1)=(n:Int):=by rw[bJ (by omega) (by omega)];omega
   refine⟨n,rnS n (l++[e]) (doW w e).2 c4 p4 h4,by omega,?_,l++[e],(doW w e).2,c4,p4,h4,rfl,by simp only[cFj,cGe];omega,hr.snoc he,k4⟩;obtain⟨⟨as,ls⟩,⟨dn,co⟩,⟨cap,res,us⟩,now,dead,fly,flows,box,drop⟩:=w;obtain⟨kd,en,data,to,ing,k1,k2,k3,k4,k5,k6,k7,k8,k9,k10⟩:=e;show cond (decide (((n+1:Nat):Int)>(0:Int))) _ _=_;rw[zX (show ((n+1:Nat):Int)>0 by omega),zZ];simp only[rnS,nT,nK,nG,aI,aJ,aH,aB,aS,dN,zZ,e4,aA,nxR,aF (b:=168) (n:=l.length) (m:=1) (by decide) (by omega),e5,bI,wn]
 .rintro r ⟨n,l,w,c3,p3,h3,rfl,hn,hr,k3⟩
  exact⟨v,l,w,c3,p3,h3,rfl,hv,hr,hn,k3⟩
theorem bQd{code:List Int}(hl:code.length<=1048576){m:Nat}(hm:3<=m/\m<=1000):∃n:Nat,zE code (m:Int)=some (n:Int)/\n<=m:=by
 unfold zE;have e:Int.tdiv (code.length:Int) 12=((code.length / 12:Nat):Int):=rfl;have w:wr ((code.length:Int).tdiv 12)=((code.length / 12:Nat):Int):=by rw[e,bJ (by omega) (by omega)]
 have w2:wr ((3:Int)+((code.length / 12:Nat):Int))=((3+code.length / 12:Nat):Int):=by rw[bJ (by omega) (by omega)];omega
 simp only[w,w2]
 by_cases h:((3+code.length / 12:Nat):Int)>(m:Int)
 .rw[zX h];exact⟨m,rfl,cE8 _⟩
 .rw[zW h];exact⟨3+code.length / 12,rfl,by omega⟩
def bRx(w:den tNw):q14:=
 ((nT w).1,(nT w).2,(nK w).1,(nK w).2,(nG w).1,(nG w).2.1,(nG w).2.2,aI w,aJ w,dN w,aH w,aB w,aS w)
theorem aXe{code:List Int}(hl:code.length<=1048576){most:Nat}(h0:0<most)(h1:most<=200){c:List Int}{p h:Int}(hc:Cur code (c,p,h)):∃v l w c' p' h',rM (c,p,h) (most:Int)=some ((nT w).1,(nT w).2,(nK w).1,(nK w).2,(nG w).1,(nG w).2.1,(nG w).2.2,aI w,aJ w,dN w,aH w,aB w,aS w,c',p',h')/\vI 3 v/\Ran v l w/\l.length<=3+most/\Cur code (c',p',h'):=by
 obtain⟨v,l,w,c1,p1,h1,e1,hv,hr,hn,k1⟩:=bX0 hl h0 h1 hc;exact⟨v,l,w,c1,p1,h1,by unfold rM pj3 pj6 aO bC bK dY aQ0 zz4 zz5 zz6 zz7 zz8 zz9;rw[e1];rfl,hv,hr,hn,k1⟩
theorem bGm{code:List Int}(hl:code.length<=1048576):∃v l w,pV code=some (bRx w)/\vI 3 v/\Ran v l w/\l.length<=93:=by
 obtain⟨c0,p0,h0,e0,k0⟩:=bFo hl;obtain⟨n,en,hn⟩:=bQd hl (m:=60) (by decide);have w1:wr ((30:Int)+(n:Int))=((30+n:Nat):Int):=by rw[bJ (by omega) (by omega)];omega
 obtain⟨v,l,w,c1,p1,h1,e1,hv,hr,hn',k1⟩:=aXe hl (most:=30+n) (by omega) (by omega) k0;refine⟨v,l,w,?_,hv,hr,by omega⟩;have en:zE code 60=some (n:Int):=en;unfold pV pj3 aO bC bK zz4 zz5 zz6 zz7 zz8 zz9;simp only[e0,en,aA,w1,e1];rfl
def hdS(l:bV):Option Int:=l.head?.map λx=>(x.1:Int)
def ltS(l:bV):Option Int:=l.getLast?.map λx=>(x.1:Int)
theorem aK8(l:bV)(x:den mR):ltS (l++[x])=some x.1:=by unfold ltS;rw[cGs];rfl
theorem aQw(l:bV)(x:den mR):hdS (l++[x])=if l=[] then some x.1 else hdS l:=by
 cases l with
 | nil=>rfl
 | cons y l=>rfl
theorem bX3(nf:Bool)(p:den tPp)(i:Nat)(h:den bU)(out:bV):ltS (tK nf p i h out)=some h.1/\hdS (tK nf p i h out)=if out=[] then some h.1 else hdS out:=by
 unfold tK;rcases gF out with rfl | ⟨m,z,rfl⟩
 .exact⟨rfl,rfl⟩
 .rw[cGs];simp only;split
  .rename_i hc;simp only[cEw,beq_iff_eq]at hc;rw[cG9];refine⟨aK8 _ _,?_⟩;have hne:m++[z]≠[]:=by simp
   rw[zS hne,aQw,aQw]
   by_cases hm:m=[]
   .rw[zT hm,zT hm];exact congrArg some hc.2.2.symm
   .rw[zS hm,zS hm]
  .exact⟨aK8 _ _,by rw[aQw]⟩
theorem aVf(nf:Bool)(p:den tPp):∀(l:cV) (k:Nat) (a:bV),ltS (bQ (λi h b=>tK nf p i h b) k l a)=(if l=[] then ltS a else aCn l)/\hdS (bQ (λi h b=>tK nf p i h b) k l a)=(if a=[] then aHh l else hdS a)
 | [],k,a=>by
  refine⟨rfl,?_⟩;show hdS a=_;split
  .rename_i h;rw[h];rfl
  .rfl
 | x::l,k,a=>by
  obtain⟨h1,h2⟩:=aVf nf p l (k+1) (tK nf p k x a);obtain⟨g1,g2⟩:=bX3 nf p k x a;have hne:tK nf p k x a≠[]:=λe=>by rw[e]at g1;cases g1
  rw[zS hne,g2]at h2;refine⟨?_,?_⟩
  .show ltS (bQ _ (k+1) l (tK nf p k x a))=_;cases l with
   | nil=>
    show ltS (tK nf p k x a)=_;rw[zS (List.cons_ne_nil _ _),g1];rfl
   | cons y l=>
    rw[h1,zS (List.cons_ne_nil _ _),zS (List.cons_ne_nil _ _)];unfold aCn;rw[List.getLast?_cons_cons]
  .show hdS (bQ _ (k+1) l (tK nf p k x a))=_;rw[h2];rfl
theorem bAk:∀(p:lPp) (k:Nat) (a:bV),a≠[]->hdS (bQ (λk x a=>jV (decide (0<k)) x a) k p a)=hdS a/\(∀b,aBx p=some b->ltS (bQ (λk x a=>jV (decide (0<k)) x a) k p a)=some b)
 | [],k,a,_=>⟨rfl,λb h=>by cases h⟩
 | x::p,k,a,ha=>by
  obtain⟨g1,g2⟩:=aVf (decide (0<k)) x x.2.2.2 0 a;rw[zS ha]at g2;have hne:jV (decide (0<k)) x a≠[]:=λe=>by
   have g2:hdS (jV (decide (0<k)) x a)=hdS a:=g2;rw[e]at g2;cases a with
   | nil=>exact ha rfl
   | cons y l=>cases g2
  obtain⟨h1,h2⟩:=bAk p (k+1) (jV (decide (0<k)) x a) hne;refine⟨h1.trans g2,λb hb=> ?_⟩;cases p with
  | nil=>
   have hb:aCn x.2.2.2=some b:=hb;show ltS (jV (decide (0<k)) x a)=some b;have g1:ltS (jV (decide (0<k)) x a)=_:=g1;rw[g1,zS (λe=>by rw[e]at hb;cases hb),hb]
  | cons y p=>
   have hb:aBx (y::p)=some b:=by
    unfold aBx at hb ⊢
    rwa [List.getLast?_cons_cons]at hb
   exact h2 b hb
theorem bF4(l:bV):hdS (aFv l)=hdS l/\ltS (aFv l)=ltS l:=by
 unfold aFv;cases l with
 | nil=>exact⟨rfl,rfl⟩
 | cons x xs=>
  simp only;rcases gF xs with rfl | ⟨m,z,rfl⟩
  .exact⟨rfl,rfl⟩
  .have e:((x.1,(0:Int),x.2.2)::(m++[z]):bV)=((x.1,(0:Int),x.2.2)::m)++[z]:=rfl;rw[e,cGs];simp only;rw[cG9,aK8];refine⟨rfl,?_⟩;rw[show (x::(m++[z]):bV)=(x::m)++[z] from rfl,aK8]
theorem aJg{p:lPp}{a b:Int}(ha:aG6 p=some a)(hb:aBx p=some b):ends p=(a,b):=by
 cases p with
 | nil=>cases ha
 | cons x p=>
  have ha:aHh x.2.2.2=some a:=ha;obtain⟨g1,g2⟩:=aVf false x x.2.2.2 0 [];have g1:ltS (jV false x [])=_:=g1;have g2:hdS (jV false x [])=aHh x.2.2.2:=g2;have hne:jV false x []≠[]:=λe=>by rw[e]at g2;rw[<- g2]at ha;cases ha
  obtain⟨h1,h2⟩:=bAk p 1 (jV false x []) hne;have e0:aAs (x::p)=bQ (λk x a=>jV (decide (0<k)) x a) 1 p (jV false x []):=rfl;have f1:hdS (fD (x::p))=some a:=by
   unfold fD;rw[(bF4 _).1,e0,h1,g2,ha]
  have f2:ltS (fD (x::p))=some b:=by
   unfold fD;rw[(bF4 _).2,e0];cases p with
   | nil=>
    have hb:aCn x.2.2.2=some b:=hb;show ltS (jV false x [])=some b;rw[g1,zS (λe=>by rw[e]at hb;cases hb),hb]
   | cons y p=>
    have hb:aBx (y::p)=some b:=by
     unfold aBx at hb ⊢
     rwa [List.getLast?_cons_cons]at hb
    exact h2 b hb
  unfold ends;unfold hdS at f1;unfold ltS at f2;obtain⟨u,hu,eu⟩:=cFr.1 f1;obtain⟨v,hv,ev⟩:=cFr.1 f2;rw[hu,hv];simp only;rw[eu,ev]
theorem aWt(x:den tPp):aHh (pJ x).2.2.2=aCn x.2.2.2/\aCn (pJ x).2.2.2=aHh x.2.2.2:=by
 unfold pJ aHh aCn;simp only[List.head?_reverse,List.getLast?_reverse,and_self]
theorem aH5(p:lPp):aG6 (jS p)=aBx p/\aBx (jS p)=aG6 p:=by
 unfold jS aG6 aBx;rw[List.head?_map,List.getLast?_map,List.head?_reverse,List.getLast?_reverse];constructor
 .cases p.getLast? with
  | none=>rfl
  | some x=>exact (aWt x).1
 .cases p.head? with
  | none=>rfl
  | some x=>exact (aWt x).2
theorem aU6{α:Type}(p:α->α->Bool)(hp:∀x y,p x y=true->x=y):∀{a b:List α},a.length=b.length->aIy p a b=true->a=b
 | [],[],_,_=>rfl
 | [],_::_,h,_=>by simp at h
 | _::_,[],h,_=>by simp at h
 | x::a,y::b,h,e=>by
  simp only[aIy,cEw]at e;rw[hp x y e.1,aU6 p hp (by simpa using h) e.2]
theorem bFe(b:Bool):cond b true false=b:=by cases b<;>rfl
theorem bQ4{a b:cV}(h:aSo a b=true):a=b:=by
 unfold aSo at h
 by_cases hl:a.length=b.length
 .rw[zX hl,cE2,zY,bFe]at h;refine aU6 _ (λx y e=> ?_) hl h;simp only[cEw,beq_iff_eq,and_true]at e;obtain⟨e1,e2,e3,e4,e5⟩:=e;obtain⟨x1,x2,x3,x4,x5⟩:=x;obtain⟨y1,y2,y3,y4,y5⟩:=y;simp only at e1 e2 e3 e4 e5;rw[e1,e2,e3,e4,e5]
 .rw[zW hl]at h;cases h
theorem bCe{a b:Bool}:cond a b false=true↔a=true/\b=true:=by cases a<;>cases b<;>simp
theorem bL5{a b:den tPp}(h:aE9 a b=true):a=b:=by
 unfold aE9 at h;simp only[bCe,beq_iff_eq]at h;obtain⟨e1,e2,e3,e4⟩:=h;have e4:=bQ4 e4;obtain⟨x1,x2,x3,x4⟩:=a;obtain⟨y1,y2,y3,y4⟩:=b;simp only at e1 e2 e3 e4;rw[e1,e2,e3,e4]
theorem bSw{a b:lPp}(h:aDb a b=true):a=b:=by
 unfold aDb at h
 by_cases hl:a.length=b.length
 .rw[zX hl,cE2,zY,bFe]at h;exact aU6 _ (λx y e=>bL5 e) hl h
 .rw[zW hl]at h;cases h
theorem bTf{a b:den tPk}(ha:fR a)(hb:fR b)(h:aCe a b=true):a=b:=by
 unfold aCe at h;simp only[bCe,beq_iff_eq]at h;obtain⟨e1,e2,e3,e4,e5,e6,e7,e8,e9,e10⟩:=h;have e4:=bSw e4;have e10:=(bOx ha hb).1 e10;obtain⟨x1,x2,x3,x4,x5,x6,x7,x8,x9,x10⟩:=a;obtain⟨y1,y2,y3,y4,y5,y6,y7,y8,y9,y10⟩:=b;simp only at e1 e2 e3 e4 e5 e6 e7 e8 e9 e10;rw[e1,e2,e3,e4,e5,e6,e7,e8,e9,e10]
theorem eqI{a b:Int}(h:a=b):a=b:=h
theorem ltI{a b:Int}(h:a<b):a<b:=h
theorem leI{a b:Int}(h:a<=b):a<=b:=h
structure zD (t:den tTo) (f:den tFl) (x:den tIb):Prop where
 val:lV f=true
 src:dF t f.1=true
 dst:dF t f.2.1=true
 xAS:x.1=f.2.1
 xFrom:x.2.1=f.1
 next:x.2.2.1=(x.2.2.2.length:Int)
 recv:x.2.2.2=f.2.2.2.2.1.take x.2.2.2.length
 len:x.2.2.2.length<=f.2.2.2.2.1.length
 ack:f.2.2.2.1<=(x.2.2.2.length:Int)
 paths:∀p∈f.2.2.2.2.2.1,aG6 p=some f.1/\aBx p=some f.2.1
def oY(w:den tNw)(p:den tPk):Prop:= ∀(k:Nat) (f:den tFl) (x:den tIb),(aB w)[k]? =some f->(aS w)[k]? =some x->
 (p.1=(1:Int)->p.2.1=f.1->p.2.2.1=f.2.1->aG6 p.2.2.2.1=some f.1/\aBx p.2.2.2.1=some f.2.1/\ ∃s:Nat,p.2.2.2.2.2.2.2.2.1=(s:Int)/\f.2.2.2.2.1[s]? =some p.2.2.2.2.2.2.2.2.2)/\
 (p.1=(2:Int)->p.2.1=f.2.1->p.2.2.1=f.1->p.2.2.2.2.2.2.2.2.1<x.2.2.1)
def bAl(w:den tNw)(p:den tPk):Prop:=dC p=true->oY w p
structure cS (t:den tTo) (w:den tNw):Prop where
 top:nT w=t
 lenB:(aS w).length=(aB w).length
 flow:∀(k:Nat) (f:den tFl) (x:den tIb),(aB w)[k]? =some f->(aS w)[k]? =some x->zD t f x
 uniq:(aB w).Pairwise λf g=>vH g f=false
 good:∀y∈aH w,bAl w y.2.2
 to:∀y∈aH w,dF t y.1=true
structure aPy (w w':den tNw):Prop where
 flow:∀(k:Nat) (f':den tFl),(aB w')[k]? =some f'-> ∃f,(aB w)[k]? =some f/\f'.1=f.1/\f'.2.1=f.2.1/\ ∀(s:Nat) (m:List Int),f.2.2.2.2.1[s]? =some m->f'.2.2.2.2.1[s]? =some m
 box:∀(k:Nat) (x':den tIb),(aS w')[k]? =some x'-> ∃x,(aS w)[k]? =some x/\x.2.2.1<=x'.2.2.1
theorem aPy.refl(w:den tNw):aPy w w:=⟨λk f h=>⟨f,h,rfl,rfl,λ_ _ h=>h⟩,λk x h=>⟨x,h,cFx _⟩⟩
theorem oY.grow{w w':den tNw}{p:den tPk}(h:oY w p)(g:aPy w w'):oY w' p:=λk f' x' hf hx=>by
 obtain⟨f,hf0,e1,e2,e3⟩:=g.flow k f' hf;obtain⟨x,hx0,e4⟩:=g.box k x' hx;obtain⟨h1,h2⟩:=h k f x hf0 hx0;rw[e1,e2];refine⟨λa b c=> ?_,λa b c=>Int.lt_of_lt_of_le (h2 a b c) e4⟩;obtain⟨q1,q2,s,q3,q4⟩:=h1 a b c;exact⟨q1,q2,s,q3,e3 s _ q4⟩
theorem oY.goTo{w:den tNw}{p:den tPk}(h:oY w p)(i j b:Int):oY w (goTo p i j b):=h
theorem aM2{w:den tNw}{p:den tPk}(h:p.1=(3:Int)):oY w p:=λk f x _ _=>⟨λe=>absurd (h.symm.trans e) (by decide),λe=>absurd (h.symm.trans e) (by decide)⟩
theorem cS.same{t:den tTo}{w w':den tNw}(h:cS t w)(e1:nT w'=nT w)(e2:aB w'=aB w)(e3:aS w'=aS w)(e4:∀y∈aH w',y∈aH w\/(oY w y.2.2/\dF t y.1=true)):cS t w':=by
 have g:aPy w w':=⟨λk f h=>⟨f,by rw[<- e2];exact h,rfl,rfl,λ_ _ h=>h⟩,λk x h=>⟨x,by rw[<- e3];exact h,cFx _⟩⟩
 refine⟨e1.trans h.top,by rw[e2,e3];exact h.lenB,λk f x hf hx=>h.flow k f x (by rw[<- e2];exact hf) (by rw[<- e3];exact hx),by rw[e2];exact h.uniq,λy hy=> ?_,λy hy=> ?_⟩
 .rcases e4 y hy with hy | ⟨hy,_⟩
  .exact λhv=>(h.good y hy hv).grow g
  .exact λ_=>hy.grow g
 .rcases e4 y hy with hy | ⟨_,hy⟩
  .exact h.to y hy
  .exact hy
theorem cS.drop{t:den tTo}{w:den tNw}(h:cS t w):cS t (wX w):=h.same rfl rfl rfl λy hy=> .inl hy
theorem cS.map{t:den tTo}{w:den tNw}(h:cS t w){l:lFl}(hl:l.length=(aB w).length)
  (hm:∀(k:Nat) (f':den tFl),l[k]? =some f'-> ∃f,(aB w)[k]? =some f/\f'.1=f.1/\f'.2.1=f.2.1/\(∀(s:Nat) (m:List Int),f.2.2.2.2.1[s]? =some m->f'.2.2.2.2.1[s]? =some m)/\ ∀x,(aS w)[k]? =some x->zD t f x->zD t f' x):cS t (bS w l):=by
 have g:aPy w (bS w l):=⟨λk f' hf=>by
  obtain⟨f,a,b,c,d,_⟩:=hm k f' hf;exact⟨f,a,b,c,d⟩,λk x h=>⟨x,h,cFx _⟩⟩
 refine⟨h.top,by show (aS w).length=l.length;rw[hl];exact h.lenB,λk f' x hf hx=> ?_,?_,λy hy hv=>(h.good y hy hv).grow g,h.to⟩
 .obtain⟨f,a,_,_,_,e⟩:=hm k f' hf;exact e x hx (h.flow k f x a hx)
 .show l.Pairwise _;rw[cG5];intro i j hi hj hij;obtain⟨f,a,b,c,_⟩:=hm i l[i] (cEx hi);obtain⟨f',a',b',c',_⟩:=hm j l[j] (cEx hj);obtain⟨hi',ei⟩:=cEz.1 a;obtain⟨hj',ej⟩:=cEz.1 a';have :=(cG5.1 h.uniq) i j hi' hj' hij;rw[ei,ej]at this;unfold vH at this ⊢;rw[b,c,b',c'];exact this
theorem cS.one{t:den tTo}{w:den tNw}(h:cS t w){i j:Nat}{f g:den tFl}(hf:(aB w)[i]? =some f)(hg:(aB w)[j]? =some g)(e1:f.1=g.1)(e2:f.2.1=g.2.1):i=j:=by
 obtain⟨hi,ei⟩:=cEz.1 hf;obtain⟨hj,ej⟩:=cEz.1 hg;have hs:∀a b:den tFl,a.1=b.1->a.2.1=b.2.1->vH b a=true:=λa b x y=>by
  unfold vH;rw[x,y];simp
 rcases Nat.lt_trichotomy i j with c | c | c
 .have :=(cG5.1 h.uniq) i j hi hj c;rw[ei,ej,hs f g e1 e2]at this;cases this
 .exact c
 .have :=(cG5.1 h.uniq) j i hj hi c;rw[ei,ej,hs g f e1.symm e2.symm]at this;cases this
theorem bKw{t:den tTo}{f:den tFl}{x:den tIb}{p:den tPk}(h:zD t f x)(hp:aDl f p=true->p.2.2.2.2.2.2.2.2.1<x.2.2.1):zD t (kC f p) x:=by
 unfold kC;split
 .rename_i ha;have hs:=hp ha;unfold aDl at ha;simp only[cEw,beq_iff_eq]at ha;obtain⟨_,_,_,h4,h5⟩:=ha;obtain⟨h6,h7⟩:=aZ.1 h5;have hn:=h.next
  have hv:=(nY f).1 h.val;have hm:f.2.2.2.2.1.length<=20:=hv.2.2.2.2.1;have e:wr (f.2.2.2.1+1)=f.2.2.2.1+1:=bJ (by omega) (by omega);rw[e];refine⟨?_,h.src,h.dst,h.xAS,h.xFrom,h.next,h.recv,h.len,?_,h.paths⟩
  .rw[nY];obtain⟨q1,q2,q3,q4,q5,q6,q7,q8,q9,q10,q11,q12⟩:=hv;exact⟨q1,q2,q3,q4,q5,aZ.2 ⟨by show (0:Int)<=f.2.2.2.1+1;omega,by show (f.2.2.2.2.1.length:Int)>=f.2.2.2.1+1;omega⟩,q7,q8,q9,q10,rfl,q12⟩
  .have e1:f.2.2.2.1<x.2.2.1:=h4▸hs;rw[hn]at e1;exact Int.add_one_le_of_lt e1
 .exact h
theorem bKr{t:den tTo}{f:den tFl}{x:den tIb}{p:den tPk}(h:zD t f x):zD t (iT f p) x:=by
 unfold iT;cases p.1==3&&(qE p.2.2.2.2.2.2.2.2.2).2.2.2 with
 | false=>exact h
 | true=>
  rw[zZ];have hv:=(nY f).1 h.val;refine⟨?_,h.src,h.dst,h.xAS,h.xFrom,h.next,h.recv,h.len,h.ack,h.paths⟩;rw[nY];obtain⟨q1,q2,q3,q4,q5,q6,q7,q8,q9,q10,q11,q12⟩:=hv;obtain⟨r1,r2⟩:=bTd (l:=f.2.2.2.2.2.2.2.2) (x:=tE p.2.2.2.2.2.2.2.2.2) ⟨q12,q9⟩;refine⟨q1,q2,q3,q4,q5,q6,q7,q8,r2,?_,?_,r1⟩
  .show cond _ _ _=(0:Int)\/inR (cond _ _ _) 0 _=true;cases aJz f (tE p.2.2.2.2.2.2.2.2.2) with
   | false=>exact q10
   | true=>exact aY6 q7 q10
  .show inR (cond _ _ _) 0 4=true;cases aJz f (tE p.2.2.2.2.2.2.2.2.2) with
   | false=>exact q11
   | true=>rfl
theorem bM3(f:den tFl)(p:den tPk):(kC f p).1=f.1/\(kC f p).2.1=f.2.1/\(kC f p).2.2.2.2.1=f.2.2.2.2.1:=by
 unfold kC;split<;>exact⟨rfl,rfl,rfl⟩
theorem aWz(f:den tFl)(p:den tPk):(iT f p).1=f.1/\(iT f p).2.1=f.2.1/\(iT f p).2.2.2.2.1=f.2.2.2.2.1:=by
 unfold iT;cases p.1==3&&(qE p.2.2.2.2.2.2.2.2.2).2.2.2<;>exact⟨rfl,rfl,rfl⟩
theorem cS.tell{t:den tTo}{w:den tNw}{p:den tPk}(h:cS t w)(hg:oY w p)(r:Int):cS t (tF w r p):=by
 refine h.map (by simp) λk f' hf'=> ?_
 rw[cGy]at hf';obtain⟨f,hf,rfl⟩:=cFr.1 hf';have ht:(cX r p f).1=f.1/\(cX r p f).2.1=f.2.1/\(cX r p f).2.2.2.2.1=f.2.2.2.2.1:=by
  unfold cX;split
  .split
   .exact bM3 f p
   .exact aWz f p
  .exact⟨rfl,rfl,rfl⟩
 refine⟨f,hf,ht.1,ht.2.1,λs m hm=>by rw[ht.2.2];exact hm,λx hx hfx=> ?_⟩;unfold cX;split
 .split
  .refine bKw hfx λha=> ?_
   unfold aDl at ha;simp only[cEw,beq_iff_eq]at ha;exact (hg k f x hf hx).2 ha.1 ha.2.1 ha.2.2.1
  .exact bKr hfx
 .exact hfx
theorem cS.send{t:den tTo}{w:den tNw}{p:den tPk}(h:cS t w)(hg:oY w p){r eg:Int}(hr:dF t (remote t r eg).1=true):cS t (gM w r eg p):=by
 unfold gM;split
 .refine h.same rfl rfl rfl λy hy=> ?_
  rcases cE4.1 (show y∈aH w++_ from hy) with hy | hy
  .exact .inl hy
  .have :y=_:=cE3.1 hy;subst this;exact .inr ⟨hg,by rw[h.top];exact hr⟩
 .exact h.drop
theorem bHb{t:den tTo}{w:den tNw}{k:Nat}{f:den tFl}{x:den tIb}{p:den tPk}(hf:(aB w)[k]? =some f)(hx:(aS w)[k]? =some x)(hg:oY w p)(h:zD t f x):zD t f (cM x p)/\x.2.2.1<=(cM x p).2.2.1:=by
 unfold cM;split
 .rename_i ht;unfold aRd vQ at ht;simp only[cEw,beq_iff_eq,zR]at ht;obtain⟨⟨h1,h2,h3⟩,h4,h5⟩:=ht;obtain⟨_,_,s,g1,g2⟩:=(hg k f x hf hx).1 h1 (by rw[h2,h.xFrom]) (by rw[h3,h.xAS]);have hn:=eqI h.next
  have h5:=ltI h5;have h4':=eqI h4;have g1':=eqI g1;have hs:s=x.2.2.2.length:=by omega
  subst hs;obtain⟨hlt,he⟩:=cEz.1 g2;have e:wr (x.2.2.1+1)=((x.2.2.2.length+1:Nat):Int):=by
   rw[hn];exact eZ (by omega)
  rw[e];have ha:=leI h.ack;refine⟨⟨h.val,h.src,h.dst,h.xAS,h.xFrom,by show ((x.2.2.2.length+1:Nat):Int)=((x.2.2.2++[_]).length:Int);simp,?_,?_,?_,h.paths⟩,?_⟩
  .show x.2.2.2++[p.2.2.2.2.2.2.2.2.2]=f.2.2.2.2.1.take (x.2.2.2++[p.2.2.2.2.2.2.2.2.2]).length;rw[cFj,cGe,List.take_add_one,g2,<- h.recv];rfl
  .show (x.2.2.2++[p.2.2.2.2.2.2.2.2.2]).length<=_;rw[cFj,cGe];omega
  .refine leI (a:=f.2.2.2.1) (b:=((x.2.2.2++[p.2.2.2.2.2.2.2.2.2]).length:Int)) ?_;rw[cFj,cGe];omega
  .refine leI (a:=x.2.2.1) (b:=((x.2.2.2.length+1:Nat):Int)) ?_;omega
 .exact⟨h,cFx _⟩
theorem cS.box{t:den tTo}{w:den tNw}{k:Nat}{x x':den tIb}(h:cS t w)(hx:(aS w)[k]? =some x)(hn:x.2.2.1<=x'.2.2.1)(hf:∀f,(aB w)[k]? =some f->zD t f x'):cS t (oB w k x')/\aPy w (oB w k x'):=by
 have hk:k<(aS w).length:=(cEz.1 hx).1;have g:aPy w (oB w k x'):=⟨λk f h=>⟨f,h,rfl,rfl,λ_ _ h=>h⟩,λj y hy=>by
  replace hy:((aS w).set k x')[j]? =some y:=hy;rw[cG3]at hy;split at hy
  .rename_i e;subst e
   try rw[zT hk]at hy
   injection hy with hy;subst hy;exact⟨x,hx,hn⟩
  .exact⟨y,hy,cFx _⟩⟩
 refine⟨⟨h.top,by show ((aS w).set k x').length=_;rw[cF8];exact h.lenB,λj f y hf' hy=> ?_,h.uniq,λy hy hv=>(h.good y hy hv).grow g,h.to⟩,g⟩;replace hy:((aS w).set k x')[j]? =some y:=hy;rw[cG3]at hy;split at hy
 .rename_i e;subst e
  try rw[zT hk]at hy
  injection hy with hy;subst hy;exact hf f hf'
 .exact h.flow j f y hf' hy
theorem bPo{t:den tTo}{w:den tNw}{k:Nat}{x:den tIb}{p:den tPk}(h:cS t w)(hk:∃f,(aB w)[k]? =some f)(hx:(aS w)[k]? =some x)(ha:yS x p=true)(hg:oY w p):oY w (jT x p):=by
 obtain⟨f,hf⟩:=hk;have hfx:=h.flow k f x hf hx;unfold yS vQ at ha;simp only[cEw,beq_iff_eq,cFu,decide_eq_false_iff_not]at ha;obtain⟨⟨h1,h2,h3⟩,h4⟩:=ha;have e1:(p.2.1:Int)=f.1:=h2.trans hfx.xFrom;have e2:(p.2.2.1:Int)=f.2.1:=h3.trans hfx.xAS;obtain⟨p1,p2,_⟩:=(hg k f x hf hx).1 h1 e1 e2;have he:ends (jS p.2.2.2.1)=(f.2.1,f.1):=aJg ((aH5 _).1.trans p2) ((aH5 _).2.trans p1);have hm:jT x p=dM 2 (jS p.2.2.2.1) p.2.2.2.2.2.2.2.1 p.2.2.2.2.2.2.2.2.1 []:=by
  unfold jT;rw[zT (by
   unfold yS vQ;simp only[cEw,beq_iff_eq,cFu,decide_eq_false_iff_not];exact⟨⟨h1,h2,h3⟩,h4⟩)]
  rfl
 intro j g y hg' hy;refine⟨λe=> ?_,λ_ a b=> ?_⟩
 .rw[hm]at e;exact absurd e (show ¬ ((2:Int)=1) by decide)
 .rw[hm]at a b ⊢;have a:(ends (jS p.2.2.2.1)).1=g.2.1:=a;have b:(ends (jS p.2.2.2.1)).2=g.1:=b;rw[he]at a b;have hj:k=j:=h.one hf hg' b a;subst hj;have :some x=some y:=hx.symm.trans hy;injection this with this;subst this;exact Int.not_le.1 h4
theorem aZ0{t:den tTo}{x:den tPp}(h:fO t x=true){k:Nat}{y:den bU}(hy:x.2.2.2[k]? =some y):dF t y.1=true/\(k=0\/aI1 t x ((x.2.2.2[k - 1]?).getD h0) y=true):=by
 unfold fO at h;simp only[cEw]at h;obtain⟨_,_,_,_,h5,h6⟩:=h;have a:=(zI (aDe t x.2.2.2) x.2.2.2).1 h5 k y hy;have b:=(zI (yY t x) x.2.2.2).1 h6 k y hy;unfold aDe at a;unfold yY at b;simp only[cEw]at a;rw[cGm,zR]at b;exact⟨a.2.1,b⟩
theorem bZz{t:den tTo}{p:den tPk}(hw:wfP t p.2.2.2.1=true)(hh:cH p=true)(hz:0<=cD p)(hl:cQ p=true)(ha:dG p=false):cD (adv p)=cD p/\(adv p).2.2.2.2.1=p.2.2.2.2.1+1/\(adv p).2.2.2.1=p.2.2.2.1:=by
 obtain⟨i,e1,e2⟩:=aTz hh hz hl ha;obtain⟨i',j,f1,f2,f3,f4,f5⟩:=fX hh;have f1':=eqI f1;have :i'=i:=by have :=eqI (f1.symm.trans e1);omega
 subst this;have e:adv p=goTo p (p.2.2.2.2.1+1) 0 (sK p).2.2.1:=by
  unfold adv;rw[ha,hl,zW (show ¬ cD p<0 by omega)];rfl
 rw[e];refine⟨?_,rfl,rfl⟩;obtain⟨v1,v2⟩:=aT5 hw e2;obtain⟨u1,_⟩:=aT5 hw f3;have hj:aLc (bM p) (sK p)=true:=by
  rcases v2 with v2 | v2
  .omega
  .rw[show i'+1 - 1=i' by omega,f3]at v2;exact v2
 unfold aLc at hj;rw[cEw,beq_iff_eq]at hj;have hp:=bBj v1;have hq:=bBj u1;have hhd:(sK p).2.2.2[0]? =some (aDa (sK p)):=by
  unfold aDa;rw[cEx hp];rfl
 have hjl:j=(bM p).2.2.2.length - 1:=by
  unfold cQ at hl;rw[beq_iff_eq,f2]at hl;have hl:=eqI hl;omega
 have hlt:aBo (bM p)=cW p:=by
  unfold aBo;rw[<- hjl,f4];rfl
 have hn:cH (goTo p (p.2.2.2.2.1+1) 0 (sK p).2.2.1)=true/\bM (goTo p (p.2.2.2.2.1+1) 0 (sK p).2.2.1)=sK p/\cW (goTo p (p.2.2.2.2.1+1) 0 (sK p).2.2.1)=aDa (sK p):=by
  have en:(p.2.2.2.2.1+1).toNat=i'+1:=by rw[f1];omega
  have a:bM (goTo p (p.2.2.2.2.1+1) 0 (sK p).2.2.1)=sK p:=by
   show (p.2.2.2.1[(p.2.2.2.2.1+1).toNat]?).getD pt0=_;rw[en,e2];rfl
  refine⟨?_,a,?_⟩
  .have hlen:=(cEz.1 e2).1;show (inR (p.2.2.2.2.1+1) 0 ((p.2.2.2.1.length:Int) - 1)&&inR (0:Int) 0 (((((p.2.2.2.1[(p.2.2.2.2.1+1).toNat]?).getD (0,0,0,[])).2.2.2.length:Nat):Int) - 1))=true;rw[en,e2,f1,cEw];refine⟨aZ.2 ⟨by omega,by omega⟩,aZ.2 ⟨by omega,?_⟩⟩;show (0:Int)<=((sK p).2.2.2.length:Int) - 1;omega
  .unfold cW;rw[a];show ((sK p).2.2.2[(0:Int).toNat]?).getD h0=_;rw[show (0:Int).toNat=0 from rfl,hhd];rfl
 obtain⟨_,_,_,_,_,_,g⟩:=fX hn.1;rw[g,hn.2.2,<- hj.2,hlt,<- f5]
theorem aP4{t:den tTo}{now:Int}:∀(n:Nat) (p:den tPk),wfP t p.2.2.2.1=true->p.2.2.2.2.1+(n:Int)=(p.2.2.2.1.length:Int)->(goC t now n p).1=0->(cQ (goC t now n p).2=false\/dG (goC t now n p).2=true)/\cD (goC t now n p).2=cD p/\(goC t now n p).2.2.2.2.1=p.2.2.2.1
 | 0,p,hw,hn,h=>by
  exfalso;obtain⟨h1,h2⟩:=vD (show cN t now p=0 from h);obtain⟨i,j,f1,_,f3,_⟩:=fX h1;have :=(cEz.1 f3).1;have hn:=eqI hn;have f1:=eqI f1;omega
 | n+1,p,hw,hn,h=>by
  have hc0:=yH h;obtain⟨h1,h2⟩:=vD hc0;obtain⟨s1,s2,_,_,s5,s6⟩:=(uB t p).cur;have sp:(aT t p).2.2.2.1=p.2.2.2.1:=(uB t p).1;have si:(aT t p).2.2.2.2.1=p.2.2.2.2.1:=(uB t p).2.1;unfold goC at h|-;split at h
  .rename_i hc;rw[zT hc];simp only[cEw,cFu]at hc;obtain⟨a1,a2,a3⟩:=bZz (t:=t) (p:=aT t p) (by rw[sp];exact hw) (s1.trans h1) (by rw[s2];exact h2) hc.2.1 hc.2.2;obtain⟨b1,b2,b3⟩:=aP4 n (adv (aT t p)) (by rw[a3,sp];exact hw) (by rw[a2,a3,si,sp];refine eqI ?_;have hn:=eqI hn;omega) h;exact⟨b1,b2.trans (a1.trans s2),b3.trans (a3.trans sp)⟩
  .rename_i hc;rw[zS hc];refine⟨?_,s2,sp⟩;rw[hc0]at hc;show cQ (aT t p)=false\/dG (aT t p)=true;cases hl:cQ (aT t p) with
   | false=>exact .inl rfl
   | true=>
    right;rw[hl]at hc;simpa using hc
theorem aWc{t:den tTo}{now:Int}{dead:List Int}{r inn:Int}{p:den tPk}(h:((aG t now dead r inn p).1==0)=true):dF t (remote t r (aG t now dead r inn p).2.1).1=true:=by
 have h:(fwd t r now (dL t dead r) inn p).1=0:=eq_of_beq (show ((fwd t r now (dL t dead r) inn p).1==0)=true from h);unfold aG;unfold fwd at h|-;split at h
 .exact absurd h (show ¬ ((2:Int)=0) by decide)
 rename_i c1;rw[zS c1];split at h
 .exact absurd h (show ¬ ((3:Int)=0) by decide)
 rename_i c2;rw[zS c2];split at h
 .rename_i c3;simp only[cFu,beq_eq_false_iff_ne]at c3;exact absurd h c3
 rename_i c3;rw[zS c3];split at h
 .split at h<;>first | exact absurd h (show ¬ ((1:Int)=0) by decide) | exact absurd h (show ¬ ((2:Int)=0) by decide)
 rename_i c4;rw[zS c4];split at h
 .exact absurd h (show ¬ ((6:Int)=0) by decide)
 rename_i c5;rw[zS c5];split at h
 .exact absurd h (show ¬ ((7:Int)=0) by decide)
 rename_i c6;rw[zS c6];simp only[cGm,cFu,not_or,Bool.not_eq_false,beq_iff_eq]at c1 c3 c4;obtain⟨v1,v2,v3⟩:=c1;have hw:wfP t p.2.2.2.1=true:=by
  unfold qQ at v2;rw[cEw]at v2;exact v2.1
 have hh:cH p=true:=by
  unfold dC at v1;simp only[cEw]at v1;exact v1.2.2.1
 obtain⟨i,j,f1,_,f3,_⟩:=fX hh;have hlen:=(cEz.1 f3).1;obtain⟨b1,b2,b3⟩:=aP4 (t:=t) (now:=now) (p.2.2.2.1.length - p.2.2.2.2.1.toNat) p hw (by rw[f1,cE0];refine eqI ?_;omega) c3;obtain⟨q1,q2,_⟩:=aBv (t:=t) (now:=now) (p.2.2.2.1.length - p.2.2.2.2.1.toNat) p c3;show dF t (remote t r (pEg (bM (bB t now p).2) (cW (bB t now p).2))).1=true;have e:bB t now p=goC t now (p.2.2.2.1.length - p.2.2.2.2.1.toNat) p:=rfl;have c4:dG (bB t now p).2=false:=by simpa using c4
 rw[<- e]at b1 b2 b3 q1 q2;generalize (bB t now p).2=q at *;have hl:cQ q=false:=b1.elim id λh=>by rw[c4]at h;cases h
 obtain⟨a,b,g1,g2,g3,g4,g5⟩:=fX q1;have b3:(q.2.2.2.1:lPp)=p.2.2.2.1:=b3;have g3':(p.2.2.2.1:lPp)[a]? =some (bM q):=by rw[<- b3];exact g3
 obtain⟨w1,_⟩:=aT5 hw g3';have hb:=(cEz.1 g4).1;have hb2:b+1<(bM q).2.2.2.length:=by
  unfold cQ at hl;rw[g2,beq_eq_false_iff_ne]at hl;have hl: ¬ ((b:Int)=((bM q).2.2.2.length:Int) - 1):=hl;omega
 obtain⟨y1,y2⟩:=aZ0 w1 (cEx hb2);rcases y2 with y2 | y2
 .omega
 .rw[show b+1 - 1=b by omega,g4]at y2;unfold aI1 at y2;simp only[cEw,beq_iff_eq,cFy]at y2;have er:r=(cW q).1:=by
   have :=v3;rw[<- g5,b2];exact this.symm
  rw[er,y2.2.1];exact y1
theorem aDm{w:den tNw}{t:den tTo}{now:Int}{dead:List Int}{r inn:Int}{p:den tPk}(h:oY w p):oY w (aG t now dead r inn p).2.2.1:=by
 obtain⟨i,j,b,e⟩:=aHu t r now (dL t dead r) inn p;unfold aG;rw[e];exact h.goTo i j b
theorem aWh{t:den tTo}{w:den tNw}{r inn:Int}{p:den tPk}(h:cS t w)(hg:oY w p):cS t (proc0 w r inn p):=by
 unfold proc0;split
 .rename_i hc;exact h.send (aDm hg) (by rw[<- h.top];exact aWc hc)
 .split
  .exact h.tell (aDm hg) r
  .exact h.drop
theorem bN5{t:den tTo}{w:den tNw}{r:Int}{p:den tPk}(h:cS t w)(hg:oY w p):cS t (qJ w r p):=by
 unfold qJ;split
 .exact h
 .rename_i hc;rcases aJ7 (aS w) r p.2.1 with hf | ⟨k,x,hf,hx⟩
  .rw[hf]at hc;exact absurd (by decide) hc
  .have hba:iV w k=x:=by unfold iV;rw[hx];rfl
   rw[hf,cE0,hba];have hk:=(cEz.1 hx).1;have hkf:k<(aB w).length:=by rw[<- h.lenB];exact hk
   have hfl:(aB w)[k]? =some (aB w)[k]:=cEx hkf;obtain⟨d1,d2⟩:=bHb hfl hx hg (h.flow k _ x hfl hx);obtain⟨b1,b2⟩:=h.box hx d2 (λf hf'=>by
    have :some f=some (aB w)[k]:=hf'.symm.trans hfl;injection this with this;rw[this];exact d1)
   split
   .rename_i ha;refine aWh b1 (bPo b1 ⟨_,hfl⟩ ?_ ha (hg.grow b2));show ((aS w).set k (cM x p))[k]? =_;rw[cHo hk]
   .exact b1
theorem aH7{t:den tTo}{w:den tNw}{r inn:Int}{p:den tPk}(h:cS t w)(hg:bAl w p):cS t (dW w r inn p):=by
 cases hv:dC p with
 | false=>rw[aW9 hv];exact h.drop
 | true=>
  have hg:=hg hv;unfold dW;split
  .rename_i hc;exact h.send (aDm hg) (by rw[<- h.top];exact aWc hc)
  .split
   .split
    .exact bN5 h (aDm hg)
    .exact h.tell (aDm hg) r
   .split
    .unfold tA;split
     .exact (aWh h (aM2 rfl)).drop
     .exact (h.tell (aM2 rfl) r).drop
    .exact h.drop
theorem aCr(f:den tFl):∃c wt:Int,(aE f).1=setCW f c wt/\((aE f).2.2=true->(aE f).2.1=mO (setCW f c wt)/\sends (setCW f c wt)=true):=by
 unfold aE;split
 .rename_i hs;split
  .exact⟨_,_,rfl,λ_=>⟨rfl,hs⟩⟩
  .split
   .exact⟨_,_,rfl,λh=>⟨rfl,h⟩⟩
   .exact⟨_,_,rfl,λh=>by cases h⟩
 .exact⟨_,_,rfl,λh=>by cases h⟩
theorem cS.set{t:den tTo}{w:den tNw}(h:cS t w){k:Nat}{f g:den tFl}(hf:(aB w)[k]? =some f)(e1:g.1=f.1)(e2:g.2.1=f.2.1)(e3:∀(s:Nat) (m:List Int),f.2.2.2.2.1[s]? =some m->g.2.2.2.2.1[s]? =some m)(e4:∀x,zD t f x->zD t g x):cS t (bS w ((aB w).set k g)):=by
 refine h.map (by simp) λj f' hf'=> ?_
 rw[cG3]at hf';split at hf'
 .rename_i e;subst e;rw[zT (cEz.1 hf).1]at hf';injection hf' with hf';subst hf';exact⟨f,hf,e1,e2,e3,λx _=>e4 x⟩
 .exact⟨f',hf',rfl,rfl,λ_ _ h=>h,λx _ h=>h⟩
theorem aWw{t:den tTo}{w:den tNw}{k:Nat}{g:den tFl}(h:cS t w)(hg:(aB w)[k]? =some g)(hs:sends g=true):oY w (mO g):=by
 have hk:k<(aS w).length:=by rw[h.lenB];exact (cEz.1 hg).1
 have hfi:=h.flow k g _ hg (cEx hk);have hs':=hs;unfold sends at hs';rw[cEw]at hs';obtain⟨a0,a1⟩:=aZ.1 hs'.1;obtain⟨b0,b1⟩:=aZ.1 hs'.2;have hc:g.2.2.2.2.2.2.1.toNat<g.2.2.2.2.2.1.length:=by omega
 have ha:g.2.2.2.1.toNat<g.2.2.2.2.1.length:=by omega
 have hpth:g.2.2.2.2.2.1[g.2.2.2.2.2.2.1.toNat]? =some (g.2.2.2.2.2.1[g.2.2.2.2.2.2.1.toNat]'hc):=cEx hc;have hmsg:g.2.2.2.2.1[g.2.2.2.1.toNat]? =some (g.2.2.2.2.1[g.2.2.2.1.toNat]'ha):=cEx ha;obtain⟨p1,p2⟩:=hfi.paths _ (cE9 hpth);have he:=aJg p1 p2;have e:mO g=dM 1 (g.2.2.2.2.2.1[g.2.2.2.2.2.2.1.toNat]'hc) g.2.2.1 g.2.2.2.1 (g.2.2.2.2.1[g.2.2.2.1.toNat]'ha):=by
  unfold mO;rw[zT hs,hpth,hmsg];rfl
 rw[e];intro j f x hf hx;refine⟨λ_ a b=> ?_,λa=>absurd a (show ¬ ((1:Int)=2) by decide)⟩;have a:(ends (g.2.2.2.2.2.1[g.2.2.2.2.2.2.1.toNat]'hc)).1=f.1:=a;have b:(ends (g.2.2.2.2.2.1[g.2.2.2.2.2.2.1.toNat]'hc)).2=f.2.1:=b;rw[he]at a b;have hj:k=j:=h.one hg hf a b;subst hj;have :some g=some f:=hg.symm.trans hf;injection this with this;subst this;exact⟨p1,p2,g.2.2.2.1.toNat,(Int.toNat_of_nonneg b0).symm,hmsg⟩
theorem aMn{t:den tTo}{w:den tNw}(k:Nat)(h:cS t w):cS t (stepT k w):=by
 unfold stepT;split
 .rename_i f hf;obtain⟨c,wt,e1,e2⟩:=aCr f;have hset:cS t (bS w ((aB w).set k (aE f).1)):=by
   refine h.set hf (by rw[e1];rfl) (by rw[e1];rfl) (λs m hm=>by rw[e1];exact hm) λx hx=> ?_
   have hv:=aV8 hx.val;rw[e1]at hv ⊢;exact⟨hv,hx.src,hx.dst,hx.xAS,hx.xFrom,hx.next,hx.recv,hx.len,hx.ack,hx.paths⟩
  split
  .rename_i hb;obtain⟨g1,g2⟩:=e2 hb;rw[<- e1]at g1 g2;refine aH7 hset λ_=> ?_
   rw[g1];refine aWw hset (k:=k) ?_ g2;show ((aB w).set k _)[k]? =_;rw[cHo (cEz.1 hf).1]
  .exact hset
 .exact h
theorem aVj{t:den tTo}:∀(n k:Nat) {w:den tNw},cS t w->cS t (tickL k n w)
 | 0,_,_,h=>h
 | n+1,k,_,h=>aVj n (k+1) (aMn k h)
theorem aVs{t:den tTo}{w:den tNw}(h:cS t w):cS t (dA w):=by
 unfold dA;split
 .exact h
 .exact aVj _ _ (h.same (w':=tick0 w) rfl rfl rfl λy hy=> .inl hy)
theorem bW2{t:den tTo}{w:den tNw}{k:Nat}{f:den tFl}{b:List Int}(h:cS t w)(hf:(aB w)[k]? =some f):cS t (bS w ((aB w).set k (aHm f b))):=by
 unfold aHm;split
 .rename_i hv;refine h.set hf rfl rfl (λs m hm=> ?_) λx hx=> ?_
  .show (f.2.2.2.2.1++[b])[s]? =some m;rw[cIb (cEz.1 hm).1];exact hm
  .refine⟨hv,hx.src,hx.dst,hx.xAS,hx.xFrom,hx.next,?_,?_,hx.ack,hx.paths⟩
   .show x.2.2.2=(f.2.2.2.2.1++[b]).take _;rw[List.take_append_of_le_length hx.len];exact hx.recv
   .show x.2.2.2.length<=(f.2.2.2.2.1++[b]).length;have :=hx.len;rw[cFj];omega
 .exact h.set hf rfl rfl (λ_ _ h=>h) λ_ h=>h
theorem bNc{t:den tTo}{w:den tNw}{e:den iJ}(h:cS t w)(hb:∀x∈aH w,fR x.2.2)(hp:fR e.2.2.2.2.2)(h7:(e.1==(7:Int))=true)(hh:harm w e=true):bAl w e.2.2.2.2.2:=by
 intro hv;unfold harm vV at hh;rw[h7,hv]at hh;cases h3:(e.2.2.2.2.2.1==(3:Int)) with
 | true=>exact aM2 (eq_of_beq h3)
 | false=>
  rw[h3]at hh;simp only[cE2,cGn,zY]at hh;cases ha:w.2.2.2.2.2.1.all (λx=> !aCe x.2.2 e.2.2.2.2.2) with
  | true=>
   rw[ha,zZ,cFn]at hh;intro k f x hf hx;have :=hh f (cE9 hf);unfold aBp at this;refine⟨λ_ a b=> ?_,λ_ a b=> ?_⟩
   .rw[a,b]at this;simp at this
   .rw[a,b]at this;simp at this
  | false=>
   rw[List.all_eq_false]at ha;obtain⟨x,hx,he⟩:=ha;have hx:x∈aH w:=hx;have he:aCe x.2.2 e.2.2.2.2.2=true:=by simpa using he
   have :=bTf (hb x hx) hp he;rw[<- this];exact h.good x hx (by rw[this];exact hv)
theorem bVy{t:den tTo}{w:den tNw}{e:den iJ}(h:cS t w)(hb:∀x∈aH w,fR x.2.2)(hp:fR e.2.2.2.2.2)(hh:harm w e=true):cS t (doW w e).2:=by
 have bB:∀i,cS t (aB4 w i):=λi=>h.same (w':=aB4 w i) rfl rfl rfl λy hy=> .inl (by
  rcases cE4.1 (show y∈(aH w).take i++(aH w).drop (i+1) from hy) with hy | hy
  .exact cGj hy
  .exact cGq hy)
 unfold doW;split
 .exact aVs h
 .split
  .split
   .rename_i x hi hx;exact aH7 (bB _) (h.good x (cE9 hx))
   .exact h
  .split
   .split
    .exact (bB _).drop
    .exact h
   .split
    .split
     .rename_i x hi hx;have hm:=cE9 hx;refine⟨h.top,h.lenB,h.flow,h.uniq,λy hy=> ?_,λy hy=> ?_⟩
      .rcases cE4.1 (show y∈aH w++[x] from hy) with hy | hy
       .exact h.good y hy
       .rw[cE3.1 hy];exact h.good x hm
      .rcases cE4.1 (show y∈aH w++[x] from hy) with hy | hy
       .exact h.to y hy
       .rw[cE3.1 hy];exact h.to x hm
     .exact h
    .split
     .show cS t (yC w e.2.1 (e.1==5));unfold yC;split
      .exact h
      .exact h.same rfl rfl rfl λy hy=> .inl hy
     .split
      .rename_i h7;split
       .rename_i hc;rw[cEw]at hc;have hgd:=bNc h hb hp h7 hh;refine⟨h.top,h.lenB,h.flow,h.uniq,λy hy=> ?_,λy hy=> ?_⟩
        .rcases cE4.1 (show y∈aH w++[e.2.2.2] from hy) with hy | hy
         .exact h.good y hy
         .rw[cE3.1 hy];exact hgd
        .rcases cE4.1 (show y∈aH w++[e.2.2.2] from hy) with hy | hy
         .exact h.to y hy
         .rw[cE3.1 hy,<- h.top];exact hc.1
       .exact h
      .split
       .split
        .rename_i f hi hf;exact bW2 h hf
        .exact h
       .exact h
def cK(l:Nat)(n:Nat)(w:den tNw):Prop:=(l:Int)<=dN w/\(n:Int)>=dN w
abbrev bUo(n:Nat)(w:den tNw):Prop:=cK 0 n w
theorem cK.mono{l:Nat}{n m:Nat}{w:den tNw}(h:cK l n w)(hm:n<=m):cK l m w:=⟨h.1,by have :=h.2;omega⟩
theorem cK.eq{l:Nat}{n:Nat}{w w':den tNw}(h:cK l n w)(e:dN w'=dN w):cK l n w':=by
 unfold cK;rw[e];exact h
theorem cK.drop{l:Nat}{n:Nat}{w:den tNw}(h:cK l n w)(hn:n<=1000000000):cK l (n+1) (wX w):=by
 obtain⟨h0,h1⟩:=h;have e:wr (dN w+1)=dN w+1:=bJ (by omega) (by omega);exact⟨by show (l:Int)<=wr (dN w+1);omega,by show ((n+1:Nat):Int)>=wr (dN w+1);omega⟩
theorem cK.send{l:Nat}{n:Nat}{w:den tNw}(h:cK l n w)(hn:n<=1000000000)(r eg:Int)(p:den tPk):cK l (n+1) (gM w r eg p):=by
 unfold gM;split
 .exact h.mono (cFz _)
 .exact h.drop hn
theorem cK.proc0{l:Nat}{n:Nat}{w:den tNw}(h:cK l n w)(hn:n<=1000000000)(r inn:Int)(p:den tPk):cK l (n+1) (proc0 w r inn p):=by
 unfold Go.Proofs.YtnkjolpkcmgcaaaGreat.proc0;split
 .exact h.send hn _ _ _
 .split
  .exact cK.mono (n:=n) (h.eq rfl) (cFz _)
  .exact h.drop hn
theorem cK.proc{l:Nat}{n:Nat}{w:den tNw}(h:cK l n w)(hn:n<=999999000)(r inn:Int)(p:den tPk):cK l (n+2) (dW w r inn p):=by
 unfold dW;split
 .exact (h.send (by omega) _ _ _).mono (by omega)
 .split
  .split
   .unfold qJ;split
    .exact h.mono (by omega)
    .split
     .refine cK.mono (n:=n+1) (cK.proc0 (n:=n) ?_ (by omega) _ _ _) (by omega);exact cK.eq h rfl
     .exact cK.mono (n:=n) (h.eq rfl) (by omega)
   .exact cK.mono (n:=n) (h.eq rfl) (by omega)
  .split
   .unfold tA;split
    .exact (h.proc0 (by omega) _ _ _).drop (by omega)
    .refine cK.mono (n:=n+1) (cK.drop (n:=n) ?_ (by omega)) (by omega);exact cK.eq h rfl
   .exact (h.drop (by omega)).mono (by omega)
theorem cK.stepT{l:Nat}{n:Nat}{w:den tNw}(h:cK l n w)(hn:n<=999999000)(k:Nat):cK l (n+2) (stepT k w):=by
 unfold Go.Proofs.YtnkjolpkcmgcaaaGreat.stepT;split
 .split
  .refine cK.proc (n:=n) ?_ hn _ _ _;exact cK.eq h rfl
  .exact cK.mono (n:=n) (h.eq rfl) (by omega)
 .exact h.mono (by omega)
theorem cK.tickL{l:Nat}{m:Nat}:∀(m k:Nat) {n:Nat} {w:den tNw},cK l n w->n+2 * m<=999999000->cK l (n+2 * m) (tickL k m w)
 | 0,_,_,_,h,_=>h
 | m+1,k,n,w,h,hn=>by
  unfold Go.Proofs.YtnkjolpkcmgcaaaGreat.tickL;exact (cK.tickL (m:=0) m (k+1) (h.stepT (by omega) k) (by omega)).mono (by omega)
theorem cK.event{l:Nat}{n:Nat}{w:den tNw}{e:den iJ}(h:cK l n w)(hf:(aB w).length<=4)(hn:n<=900000000):cK l (n+8) (doW w e).2:=by
 have same:cK l (n+8) w:=h.mono (by omega);unfold doW;split
 .show cK l (n+8) (dA w);unfold dA;split
  .exact same
  .refine cK.mono (n:=n+2 * (aB w).length) (cK.tickL (m:=0) (aB w).length 0 (n:=n) ?_ (by omega)) (by omega);exact cK.eq h rfl
 .split
  .split
   .refine cK.mono (n:=n+2) (cK.proc (n:=n) ?_ (by omega) _ _ _) (by omega);exact cK.eq h rfl
   .exact same
  .split
   .split
    .refine cK.mono (n:=n+1) (cK.drop (n:=n) ?_ (by omega)) (by omega);exact cK.eq h rfl
    .exact same
   .split
    .split
     .exact same
     .exact same
    .split
     .show cK l (n+8) (yC w e.2.1 (e.1==5));unfold yC;split
      .exact same
      .exact same
     .split
      .split
       .exact same
       .exact same
      .split
       .split
        .exact same
        .exact same
       .exact same
def aCd(m:Nat)(l:List Int):Prop:=l.Pairwise (λa b=>a<b)/\ ∀n∈l,0<=n/\n<(m:Int)
theorem bOh(m:Nat)(dead:List Int)(i:Int)(b:Bool):aCd m (aBf m dead i b):=by
 unfold aBf;refine⟨cH1.filter _ (List.pairwise_map.2 (List.pairwise_lt_range.imp λh=>by omega)),λn hn=> ?_⟩;obtain⟨k,hk,rfl⟩:=cE5.1 (cFc.1 hn).1;have :=List.mem_range.1 hk;exact⟨by omega,by omega⟩
theorem aCd.all{m:Nat}{l:List Int}(h:aCd m l):(l.zipIdx 0).all (λz=>aH1 l m z.2 z.1)=true:=by
 refine (zI (aH1 l m) l).2 λk n hn=> ?_
 unfold aH1;have hm:=h.2 n (cE9 hn);rw[cEw,cGm,zR];refine⟨aZ.2 ⟨hm.1,by omega⟩,?_⟩
 by_cases h0:k=0
 .exact .inl h0
 .right;obtain⟨hk,e⟩:=cEz.1 hn;have :=(cG5.1 h.1) (k - 1) k (by omega) hk (by omega);rw[cEx (show k - 1<l.length by omega),cFy];rw[e]at this;rw[zW (show ¬ (l[k - 1]'(by omega)>=n) by omega)];rfl
theorem aR0(w:den tNw)(r eg:Int)(p:den tPk):aJ (gM w r eg p)=aJ w:=by unfold gM;split<;>rfl
theorem aTb(w:den tNw)(r inn:Int)(p:den tPk):aJ (proc0 w r inn p)=aJ w:=by
 unfold proc0;split
 .exact aR0 _ _ _ _
 .split<;>rfl
theorem bJl(w:den tNw):aJ (wX w)=aJ w:=rfl
theorem aGa(w:den tNw)(r inn:Int)(p:den tPk):aJ (dW w r inn p)=aJ w:=by
 unfold dW;split
 .exact aR0 _ _ _ _
 .split
  .split
   .unfold qJ;split
    .rfl
    .split
     .refine Eq.trans (aTb _ _ _ _) ?_;rfl
     .rfl
   .rfl
  .split
   .unfold tA;split
    .rw[bJl];exact aTb _ _ _ _
    .rfl
   .rfl
theorem bGp(k:Nat)(w:den tNw):aJ (stepT k w)=aJ w:=by
 unfold stepT;split
 .split
  .rename_i f hf hb;exact aGa (bS w ((aB w).set k (aE f).1)) _ _ _
  .rfl
 .rfl
theorem aSt:∀(n k:Nat) (w:den tNw),aJ (tickL k n w)=aJ w
 | 0,_,_=>rfl
 | n+1,k,w=>by
  unfold tickL;exact (aSt n (k+1) (stepT k w)).trans (bGp k w)
theorem aLu(w:den tNw):aJ (dA w)=aJ w:=by
 unfold dA;split
 .rfl
 .exact aSt (aB w).length 0 (tick0 w)
theorem bTb{w:den tNw}{e:den iJ}(h:aCd (nT w).2.length (aJ w)):aCd (nT w).2.length (aJ (doW w e).2):=by
 unfold doW;split
 .show aCd _ (aJ (dA w));rw[aLu];exact h
 .split
  .split
   .show aCd _ (aJ (dW _ _ _ _));rw[aGa];exact h
   .exact h
  .split
   .split<;>exact h
   .split
    .split<;>exact h
    .split
     .show aCd _ (aJ (yC w e.2.1 (e.1==5)));unfold yC;split
      .exact h
      .exact bOh _ _ _ _
     .split
      .split<;>exact h
      .split
       .split<;>exact h
       .exact h
theorem aPg:∀l:lMs,aBb l l=true
 | []=>rfl
 | x::l=>by
  show (aKg x x&&aBb l l)=true;rw[aPg l,Bool.and_true];unfold aKg;exact beq_self_eq_true _
theorem zD.ok{t:den tTo}{f:den tFl}{x:den tIb}(h:zD t f x):xOk x=true/\aGq f x=true:=by
 have hv:=(nY f).1 h.val;obtain⟨q1,q2,q3,q4,q5,q6,q7,q8,q9,q10,q11,q12⟩:=hv;have hl:=h.len;have hn:=h.next
 constructor
 .unfold xOk;simp only[cEw,cFu,beq_eq_false_iff_ne,beq_iff_eq,zR,cFn];refine⟨by rw[h.xAS];exact q2,by rw[h.xFrom];exact q1,λe=>q3 (by rw[<- h.xAS,<- h.xFrom];exact e.symm),hn,?_,λm hm=> ?_⟩
  .show (20:Int)>=x.2.2.1;rw[hn];omega
  .have hm':m∈f.2.2.2.2.1:=by
    rw[h.recv]at hm;exact cGj hm
   exact q8 m hm'
 .unfold aGq;simp only[cEw,beq_iff_eq,zR];refine⟨h.xAS,h.xFrom,hl,?_,h.ack⟩;rw[<- aJc,<- h.recv];exact aPg _
structure gW (t:den tTo) (B k d:Nat) (w:den tNw):Prop where
 run:rW t B k w
 inv:cS t w
 drop:bUo d w
 dead:aCd t.2.length (aJ w)
theorem gW.mono{t:den tTo}{B C k j d e:Nat}{w:den tNw}(h:gW t B k d w)(hB:B<=C)(hk:k<=j)(hd:d<=e):gW t C j e w:=⟨h.run.mono hB hk,h.inv,h.drop.mono hd,h.dead⟩
theorem gW.valid{t:den tTo}{B k d:Nat}{w:den tNw}(h:gW t B k d w)(hk:k<=1000)(ht:aCq t=true):aI8 w=true:=by
 have htop:w.1=t:=h.run.top;have hlo:=leI h.run.lo;have hhi:=leI h.run.hi;have hd:=h.drop.1;have hfl:w.2.2.2.2.2.2.1.length<=4:=h.run.keep.flows;have hfy:w.2.2.2.2.2.1.length<=150:=h.run.flyN;unfold aI8;simp only[cEw,zR,cFu,decide_eq_false_iff_not,cFn];refine⟨by rw[htop];exact ht,aZ.2 ⟨hlo,leI (cGa hhi (by omega))⟩,bV9.2 h.run.gate,?_,hfy,hfl,h.inv.lenB,?_,λx hx=>by rw[htop];exact h.inv.to x hx,?_⟩
 .have :=(aCd.all h.dead)
  rw[cFn]at this;rw[htop];exact this
 .show ¬ ((dN w:Int)<0);omega
 .have :(w.2.2.2.2.2.2.1.zipIdx 0).all (λz=>aH6 w z.2 z.1&&aH9 w z.2 z.1)=true:=by
   refine (zI (λk f=>aH6 w k f&&aH9 w k f) _).2 λj f hf=> ?_
   have hj:=(cEz.1 hf).1;have hb:j<(aS w).length:=by rw[h.inv.lenB];exact hj
   have hx:(aS w)[j]? =some (aS w)[j]:=cEx hb;have hfi:=h.inv.flow j f _ hf hx;obtain⟨o1,o2⟩:=hfi.ok;rw[cEw];constructor
   .unfold aH6;rw[show w.2.2.2.2.2.2.2.1[j]? =some (aS w)[j] from hx];simp only[cEw];exact⟨hfi.val,by rw[htop];exact hfi.src,by rw[htop];exact hfi.dst,o1,o2⟩
   .unfold aH9;rw[cFn];intro g hg;obtain⟨i,hi,hg⟩:=aN3 hg;obtain⟨hi',ei⟩:=cEz.1 hg;obtain⟨hj',ej⟩:=cEz.1 hf;have :=(cG5.1 h.inv.uniq) i j hi' hj' hi;have e1:(aB w)[i]=g:=ei;have e2:(aB w)[j]=f:=ej;rw[e1,e2]at this;rw[this];rfl
  rw[cFn]at this;intro z hz;have :=this z hz;rw[cEw]at this;exact this
structure aFm (t:den tTo) (k:Nat) (w:den tNw):Prop where
 run:rW t (1000+2000 * k) k w
 inv:cS t w
 drop:bUo (8 * k) w
 dead:aCd t.2.length (aJ w)
theorem aFm.round{t:den tTo}{k:Nat}{w:den tNw}(h:aFm t k w):gW t (1000+2000 * k) k (8 * k) w:=⟨h.run,h.inv,h.drop,h.dead⟩
theorem aFm.valid{t:den tTo}{k:Nat}{w:den tNw}(h:aFm t k w)(hk:k<=1000)(ht:aCq t=true):aI8 w=true:=h.round.valid hk ht
theorem vI.runV{v:den tNw}(h:vI 3 v):aFm (nT v) 0 v where
 run:=h.run
 inv:=by
  refine⟨rfl,by rw[h.box,cFt],λk f x hf hx=> ?_,h.uniq,λy hy=>(by rw[h.fly]at hy;cases hy),λy hy=>(by rw[h.fly]at hy;cases hy)⟩;have hm:=cE9 hf;have hF:=h.flows f hm;rw[h.box,cGy,hf]at hx;have hx:some ((f.2.1,f.1,0,[]):den tIb)=some x:=hx;injection hx with hx;subst hx;exact⟨hF.val,hF.src,hF.dst,rfl,rfl,rfl,rfl,cFe _,by rw[hF.ack];exact cFx _,hF.ends⟩
 drop:=⟨by rw[h.drop];decide,by rw[h.drop];decide⟩
 dead:=by rw[h.dead];exact⟨cH1.nil,λn hn=>(cFi hn).elim⟩
theorem aFm.event{t:den tTo}{k:Nat}{w:den tNw}{e:den iJ}(h:aFm t k w)(hk:k<=1000)(ht:t.2.length<=100)(he:EvD w e):aFm t (k+1) (doW w e).2 where
 run:=(bF2 h.run (by omega) (by omega) he.s).mono (by omega) (cE8 _)
 inv:=bVy h.inv h.run.keep.bytes.fly he.pk.2 he.harm
 drop:=(h.drop.event h.run.keep.flows (by omega)).mono (by omega)
 dead:=by
  have :=bTb (w:=w) (e:=e) (by rw[h.run.top];exact h.dead);rw[h.run.top]at this;exact this
theorem Ran.runV{v:den tNw}(hv:vI 3 v){l:tR}{w:den tNw}(h:Ran v l w):l.length<=1000->aFm (nT v) l.length w:=by
 induction h with
 | nil=>intro _;exact hv.runV
 | snoc h he ih=>
  intro hl;simp only[cFj,cGe]at hl ⊢;exact (ih (by omega)).event (by omega) hv.top.links he
theorem aZv{l:List Int}{n:Int}:rV l n=true↔n∈l:=by
 unfold rV;rw[cFu,List.all_eq_false];constructor
 .rintro⟨x,hx,e⟩
  have :x=n:=by simpa using e
  rw[<- this];exact hx
 .intro h;exact⟨n,h,by simp⟩
theorem bO9{R T:Type}{n:Nat}(hn:n<=10000000){step:Int->Option (Int⊕R)}{r:R}{k:R->Option T}(h:∀i:Nat,i<n->step (i:Int)=some (.inl ((i+1:Nat):Int)))(he:step (n:Int)=some (.inr r)):Option.bind (aD step (0:Int)) k=k r:=by
 refine jP (G:=λo=>o=k r) n (λs:Int=>s) (λ_ _=>True) (λx=>x=r) ?_ ?_ 0 (0:Int) (cFe _) rfl trivial (λx hx=>by rw[hx])
 .rintro i _ hi rfl _
  exact .inr ⟨_,h i hi,rfl,trivial⟩
 .rintro _ rfl _
  exact⟨r,he,rfl⟩
def bYx:den tNw->tR->den tNw
 | w,[]=>w
 | w,e::l=>bYx (doW w e).2 l
def bHh:den tNw->tR->Prop
 | _,[]=>True
 | w,e::l=>EvD w e/\bHh (doW w e).2 l
theorem bHh.runV{t:den tTo}(ht:t.2.length<=100):∀{l:tR} {k:Nat} {w:den tNw},aFm t k w->bHh w l->k+l.length<=1000->aFm t (k+l.length) (bYx w l)
 | [],_,_,h,_,_=>h
 | e::l,k,w,h,hd,hk=>by
  have hk:k+(l.length+1)<=1000:=hk;have :=bHh.runV ht (h.event (by omega) ht hd.1) hd.2 (by omega:k+1+l.length<=1000);have hn:k+(l.length+1)=k+1+l.length:=by omega
  show aFm t (k+(l.length+1)) _;rw[hn];exact this
def aJt(w w':den tNw):Prop:=(aB w').length=(aB w).length/\ ∀(k:Nat) (f f':den tFl),(aB w)[k]? =some f->(aB w')[k]? =some f'->f.2.2.2.1<=f'.2.2.2.1
def bTy(s d:Int)(w w':den tNw):Prop:=(aS w').length=(aS w).length/\ ∀(k:Nat) (x x':den tIb),(aS w)[k]? =some x->(aS w')[k]? =some x'->x'=x\/(x.2.1=s/\x.1=d/\x'.2.2.2.length=x.2.2.2.length+1)
theorem aJt.same{w w':den tNw}(h:aB w'=aB w):aJt w w':=by
 refine⟨by rw[h],λk f f' h1 h2=> ?_⟩;rw[h,h1]at h2;injection h2 with h2;rw[h2];exact cFx _
theorem aJt.trans{a b c:den tNw}(h:aJt a b)(g:aJt b c):aJt a c:=by
 refine⟨g.1.trans h.1,λk f f' h1 h2=> ?_⟩;have hk:k<(aB b).length:=by rw[h.1];exact (cEz.1 h1).1
 exact cGa (h.2 k f _ h1 (cEx hk)) (g.2 k _ f' (cEx hk) h2)
theorem bTy.same{s d:Int}{w w':den tNw}(h:aS w'=aS w):bTy s d w w':=by
 refine⟨by rw[h],λk x x' h1 h2=> .inl ?_⟩;rw[h,h1]at h2;injection h2 with h2;exact h2.symm
def bUy(P:Nat->Prop)(w w':den tNw):Prop:=(aS w').length=(aS w).length/\ ∀(k:Nat) (x x':den tIb),(aS w)[k]? =some x->(aS w')[k]? =some x'->x'.2.2.2.length=x.2.2.2.length\/(P k/\x'.2.2.2.length=x.2.2.2.length+1)
theorem bUy.same{P:Nat->Prop}{w w':den tNw}(h:aS w'=aS w):bUy P w w':=by
 refine⟨by rw[h],λk x x' h1 h2=> .inl ?_⟩;rw[h,h1]at h2;injection h2 with h2;rw[h2]
structure jQ (w w':den tNw):Prop where
 top:nT w'=nT w
 book:nK w'=nK w
 flows:(aB w').length=(aB w).length
 now:aI w<=aI w'
theorem jQ.refl(w:den tNw):jQ w w:=⟨rfl,rfl,rfl,cFx _⟩
theorem jQ.trans{a b c:den tNw}(h:jQ a b)(k:jQ b c):jQ a c:=⟨k.top.trans h.top,k.book.trans h.book,k.flows.trans h.flows,cGa h.now k.now⟩
theorem aCz(w:den tNw):jQ w (wX w):=⟨rfl,rfl,rfl,cFx _⟩
theorem aLx(w:den tNw)(l:lFy):jQ w (cC w l):=⟨rfl,rfl,rfl,cFx _⟩
theorem aF1(w:den tNw){l:lFl}(h:l.length=(aB w).length):jQ w (bS w l):=⟨rfl,rfl,h,cFx _⟩
theorem aNb(w:den tNw)(r:Int)(p:den tPk):jQ w (tF w r p):=aF1 w (cFt _)
theorem aWp(w:den tNw)(r eg:Int)(p:den tPk):jQ w (gM w r eg p):=by
 unfold gM;split
 .exact⟨rfl,rfl,rfl,cFx _⟩
 .exact aCz w
theorem aSl(w:den tNw)(r inn:Int)(p:den tPk):jQ w (proc0 w r inn p):=by
 unfold proc0;split
 .exact aWp _ _ _ _
 .split
  .exact aNb _ _ _
  .exact aCz w
theorem aZf(w:den tNw)(i:Nat)(x:den tIb):jQ w (oB w i x):=⟨rfl,rfl,rfl,cFx _⟩
theorem aV0(w:den tNw)(r inn:Int)(p:den tPk):jQ w (dW w r inn p):=by
 unfold dW;split
 .exact aWp _ _ _ _
 .split
  .split
   .unfold qJ;split
    .exact jQ.refl w
    .split
     .exact (aZf w _ _).trans (aSl _ _ _ _)
     .exact aZf w _ _
   .exact aNb _ _ _
  .split
   .unfold tA;split
    .exact (aSl _ _ _ _).trans (aCz _)
    .exact (aNb _ _ _).trans (aCz _)
   .exact aCz w
theorem bG0(k:Nat)(w:den tNw):jQ w (stepT k w):=by
 unfold stepT;split
 .split
  .exact (aF1 w (cF8)).trans (aV0 _ _ _ _)
  .exact aF1 w (cF8)
 .exact jQ.refl w
theorem aSb:∀(n k:Nat) (w:den tNw),jQ w (tickL k n w)
 | 0,_,w=>jQ.refl w
 | n+1,k,w=>by
  unfold tickL;exact (bG0 k w).trans (aSb n (k+1) (stepT k w))
theorem bOp{w:den tNw}(h0:(0:Int)<=aI w):jQ w (dA w):=by
 unfold dA;split
 .exact jQ.refl w
 .rename_i h;have e:wr (aI w+1)=aI w+1:=bJ (by omega) (by omega);have a:jQ w (tick0 w):=⟨rfl,rfl,rfl,by show aI w<=wr (aI w+1);omega⟩
  exact a.trans (aSb _ _ _)
theorem bTg{w:den tNw}{e:den iJ}(h0:(0:Int)<=aI w):jQ w (doW w e).2:=by
 unfold doW;split
 .exact bOp h0
 .split
  .split
   .exact (aLx w _).trans (aV0 _ _ _ _)
   .exact jQ.refl w
  .split
   .split
    .exact (aLx w _).trans (aCz _)
    .exact jQ.refl w
   .split
    .split
     .exact aLx w _
     .exact jQ.refl w
    .split
     .show jQ w (yC w e.2.1 (e.1==5));unfold yC;split
      .exact jQ.refl w
      .exact⟨rfl,rfl,rfl,cFx _⟩
     .split
      .split
       .exact aLx w _
       .exact jQ.refl w
      .split
       .split
        .exact aF1 w (cF8)
        .exact jQ.refl w
       .exact jQ.refl w
theorem Ran.book{v:den tNw}(hv:vI 3 v){l:tR}{w:den tNw}(h:Ran v l w):l.length<=1000->nK w=nK v:=by
 induction h with
 | nil=>intro _;rfl
 | snoc h he ih=>
  intro hl;simp only[cFj,cGe]at hl;have hr:=h.runV hv (by omega);exact (bTg hr.run.lo).book.trans (ih (by omega))
theorem bPu{code:List Int}(hl:code.length<=1048576){c:List Int}{p h:Int}(hc:Cur code (c,p,h)):∃v c' p' h',aAp (c,p,h)=some (v,c',p',h')/\(-1<=v/\v<=1000001)/\Cur code (c',p',h'):=by
 obtain⟨b1,c1,p1,h1,e1,k1⟩:=tJ hl (n:=10) (by decide) (by decide) hc;unfold aAp pj3 pj4;simp only[e1,aA];cases b1 with
 | true=>
  obtain⟨v,c2,p2,h2,e2,r2,k2⟩:=tC hl (l:=[(-1:Int),1000000,1000001]) (by decide) (by decide) k1;refine⟨v,c2,p2,h2,by simp only[zZ,e2,aA],?_,k2⟩;simp only[cEy,cFi,or_false]at r2;rcases r2 with rfl | rfl | rfl<;>decide
 | false=>
  obtain⟨v,c2,p2,h2,e2,r2,k2⟩:=aL hl (n:=200) (by decide) (by decide) k1;exact⟨v,c2,p2,h2,by simp only[zY,e2,aA],by omega,k2⟩
theorem bS8{code:List Int}(hl:code.length<=1048576){c:List Int}{p h:Int}(hc:Cur code (c,p,h)):∃as ls c' p' h',aC5 (c,p,h)=some (as,ls,c',p',h')/\as.length<=8/\ls.length<=101/\Cur code (c',p',h'):=by
 obtain⟨as,ls,c1,p1,h1,e1,ht,k1⟩:=aVa hl hc;have hp:=ht.pos;have hn:=ht.len;have hk:=ht.links;obtain⟨k,c2,p2,h2,e2,r2,k2⟩:=aL hl (n:=(as.length:Int)) (by omega) (by omega) k1;obtain⟨v3,c3,p3,h3,e3,r3,k3⟩:=aL hl (n:=14) (by decide) (by decide) k2;obtain⟨i,rfl⟩:=cFo r2.1;have hi:i<as.length:=by omega
 have d0:decide ((0:Int)<=(0:Int))=true:=by decide
 have d1:decide ((0:Int)<(as.length:Int))=true:=zX (by omega);have d2:decide ((0:Int)<=(i:Int))=true:=zX (by omega);have d3:decide ((i:Int)<(as.length:Int))=true:=zX (by omega);have g0:as[(0:Int).toNat]? =some (as[0]'(by omega)):=cEx (show 0<as.length by omega);have gi:as[i]? =some (as[i]'hi):=cEx hi;unfold aC5 dd ixb one pj2 pj3 pj5;simp only[e1,e2,e3,aA,aW,bN,bF,bE,bG];cases v3==(0:Int) with
 | true=>
  obtain⟨v4,c4,p4,h4,e4,_,k4⟩:=tC hl (l:=[(0:Int),(-1:Int),2147483647,(as[0]'(by omega)).2.2]) (by simp) (by simp) k3;exact⟨_,ls,c4,p4,h4,by simp only[zZ,d0,d1,d2,d3,g0,gi,cE0,e4,aA];rfl,by rw[cF8];exact hn,by omega,k4⟩
 | false=>
 cases v3==(1:Int) with
 | true=>
  obtain⟨v4,c4,p4,h4,e4,_,k4⟩:=tC hl (l:=[(-1:Int),3,2]) (by simp) (by simp) k3;exact⟨_,ls,c4,p4,h4,by simp only[zZ,zY,d0,d1,d2,d3,g0,gi,cE0,e4,aA];rfl,by rw[cF8];exact hn,by omega,k4⟩
 | false=>
 cases v3==(2:Int) with
 | true=>exact⟨_,ls,c3,p3,h3,by simp only[zZ,zY,d0,d1,d2,d3,g0,gi,cE0,aA];rfl,by rw[cF8];exact hn,by omega,k3⟩
 | false=>
 cases v3==(3:Int) with
 | true=>
  by_cases hz:(ls.length:Int)>0
  .obtain⟨v4,c4,p4,h4,e4,r4,k4⟩:=aL hl (n:=(ls.length:Int)) (by omega) (by omega) k3;obtain⟨j,rfl⟩:=cFo r4.1;have hj:j<ls.length:=by omega
   refine⟨as,ls++[ls[j]'hj],c4,p4,h4,?_,hn,by simp;omega,k4⟩;simp only[zZ,zY,zX hz,e4,aA,zX (show (0:Int)<=(j:Int) by omega),zX (show (j:Int)<(ls.length:Int) by omega),cE0,cEx hj,aF (b:=40) (n:=ls.length) (m:=1) (by decide) (by omega),aW,bN,bF,bE,bG]
  .exact⟨as,ls,c3,p3,h3,by simp only[zZ,zY,zW hz,aA],hn,by omega,k3⟩
 | false=>
 cases v3==(4:Int) with
 | true=>
  obtain⟨v4,c4,p4,h4,e4,r4,k4⟩:=aL hl (n:=9) (by decide) (by decide) k3;obtain⟨v5,c5,p5,h5,e5,r5,k5⟩:=aL hl (n:=9) (by decide) (by decide) k4;obtain⟨v6,c6,p6,h6,e6,r6,k6⟩:=aL hl (n:=5) (by decide) (by decide) k5;exact⟨as,ls++[(wr (v4 - 1),6,v5,6,v6)],c6,p6,h6,by simp only[zZ,zY,e4,e5,e6,aA,aF (b:=40) (n:=ls.length) (m:=1) (by decide) (by omega),aW,bN,bF,bE,bG],hn,by simp;omega,k6⟩
 | false=>
 cases v3==(5:Int) with
 | true=>exact⟨[],ls,c3,p3,h3,by simp only[zZ,zY,aA],by simp,by omega,k3⟩
 | false=>exact⟨as,ls,c3,p3,h3,by simp only[zY,aA],hn,by omega,k3⟩
theorem bLy{code:List Int}(hl:code.length<=1048576){c:List Int}{p h:Int}(hc:Cur code (c,p,h)):∃cap l us c' p' h',aAm (c,p,h)=some (cap,l,us,c',p',h')/\l.length<=1000/\us.length<=1000/\Cur code (c',p',h'):=by
 obtain⟨cap,l,us,c1,p1,h1,e1,hs,hu,k1⟩:=bQt hl hc;have hr:l.length<=40:=hs.res.len;obtain⟨v2,c2,p2,h2,e2,r2,k2⟩:=aL hl (n:=12) (by decide) (by decide) k1;unfold aAm pj3 pj6 zz4 zz5;simp only[e1,e2,aA,aW,bN,bF,bE,bG];cases v2==(0:Int) with
 | true=>
  obtain⟨v4,c4,p4,h4,e4,_,k4⟩:=tC hl (l:=[(0:Int),1,20,21]) (by simp) (by simp) k2;exact⟨v4,l,us,c4,p4,h4,by simp only[zZ,e4,aA],by omega,by omega,k4⟩
 | false=>
 cases v2==(1:Int) with
 | true=>
  obtain⟨v4,c4,p4,h4,e4,r4,k4⟩:=aL hl (n:=3) (by decide) (by decide) k2;obtain⟨v5,c5,p5,h5,e5,r5,k5⟩:=aL hl (n:=9) (by decide) (by decide) k4;exact⟨cap,l,us++[(v4,1,1,v5)],c5,p5,h5,by simp only[zZ,zY,e4,e5,aA,aF (b:=32) (n:=us.length) (m:=1) (by decide) (by omega),aW,bN,bF,bE,bG],by omega,by simp;omega,k5⟩
 | false=>
 cases v2==(2:Int) with
 | true=>
  obtain⟨x1,x2,x3,x4,x5,c4,p4,h4,e4,k4⟩:=bSv hl k2;exact⟨cap,l++[(x1,x2,x3,x4,x5)],us,c4,p4,h4,by simp only[zZ,zY,e4,aA,aF (b:=40) (n:=l.length) (m:=1) (by decide) (by omega),aW,bN,bF,bE,bG],by simp;omega,by omega,k4⟩
 | false=>exact⟨cap,l,us,c2,p2,h2,by simp only[zY,aA],by omega,by omega,k2⟩
structure bJt (w:den tNw):Prop where
 tot:Go.V.tot tNw w<=303000
 bytes:qM w
 flows:(aB w).length<=4
 fly:(aH w).length<=151
 as:(nT w).1.length<=8
 links:(nT w).2.length<=101
 dead:(aJ w).length<=101
 db:DbD 11 (nK w).1 (nK w).2
 drop:dN w<=900000
 flyT:∀x∈aH w,Go.V.tot tPk x.2.2<=1100
def bY8(w:den tNw)(c:List Int)(p h:Int):q25:=
 ((nT w).1,(nT w).2,(nK w).1,(nK w).2,(nG w).1,(nG w).2.1,(nG w).2.2,aI w,aJ w,dN w,aH w,aB w,aS w,c,p,h)
theorem bX9{l:List Int}{m:Nat}(h:aCd m l):l.length<=m:=by
 have h1:=h.1;have h2:=h.2;have :∀(l:List Int) (a:Int),l.Pairwise (λa b=>a<b)->(∀n∈l,a<=n/\n<(m:Int))->(l.length:Int)<=max 0 ((m:Int) - a):=by
  intro l
  induction l with
  | nil=>intro a _ _;simp;omega
  | cons x l ih=>
   intro a hp hb;obtain⟨p1,p2⟩:=List.pairwise_cons.1 hp;have hx:=hb x (by simp);have :=ih (x+1) p2 (λn hn=>⟨by have :=p1 n hn;omega,(hb n (cE7 _ hn)).2⟩);rw[cFw];omega
 have :=this l 0 h1 h2;omega
theorem aCk(as:lAS)(ls:lLk)(dn co:lSg)(cap:Int)(res:lRs)(us:lUs)(now:Int)(dead:List Int)(fly:lFy)(flows:lFl)(box:lIb)(drop:Int):tot tNw ((as,ls),(dn,co),(cap,res,us),now,dead,fly,flows,box,drop)=(as.length+ls.length)+((tot (.sl tSg) dn+tot (.sl tSg) co)+((0+(res.length+us.length))+(0+(dead.length+(tot (.sl tFy) fly+(tot (.sl tFl) flows+(tot (.sl tIb) box+0))))))):=by
 have :=gA ((as,ls),(dn,co),(cap,res,us),now,dead,fly,flows,box,drop);rw[this];show (tot (.sl tAS) as+tot (.sl tLk) ls)+((tot (.sl tSg) dn+tot (.sl tSg) co)+((0+(tot (.sl tRs) res+tot (.sl tUs) us))+(0+(tot (.sl ti) dead+(tot (.sl tFy) fly+(tot (.sl tFl) flows+(tot (.sl tIb) box+0)))))))=_;rw[dQ (t:=tAS) rfl,dQ (t:=tLk) rfl,dQ (t:=tRs) rfl,dQ (t:=tUs) rfl,dQ (t:=ti) rfl]
theorem bFc{t:Ty}{l:List (den t)}{x:den t}(h:tot t x=0):tot (.sl t) (l++[x])=tot (.sl t) l+1:=by rw[sY,aD8,h]
theorem bLr{code:List Int}(hl:code.length<=1048576){most:Nat}(h0:0<most)(h1:most<=100){c:List Int}{p h:Int}(hc:Cur code (c,p,h)):∃w c' p' h',aAr (c,p,h) (most:Int)=some (bY8 w c' p' h')/\bJt w/\Cur code (c',p',h'):=by
 obtain⟨v,l,w,c1,p1,h1',e1,hv,hr,hn,k1⟩:=aXe hl h0 (by omega) hc;have hR:=hr.run hv (by omega);have hV:=hr.runV hv (by omega);have ht:tot tNw w<=300000:=cEv hR.keep.tot (by omega);have hf:=hR.keep.flows;have hy:=hR.flyN;have hdl:(aJ w).length<=100:=cEv (bX9 hV.dead) hv.top.links;have has:(nT w).1.length<=8:=by rw[hR.top];exact hv.top.len
 have hls:(nT w).2.length<=100:=by rw[hR.top];exact hv.top.links
 have hb:=hR.keep.bytes;have hdb:DbD 11 (nK w).1 (nK w).2:=by rw[hr.book hv (by omega)];exact hv.db
 have hdr:dN w<=900000:=by have :=hV.drop.2;omega
 have hft:=hR.fly;have base:bJt w:=⟨by omega,hb,hf,by omega,has,by omega,by omega,hdb,hdr,hft⟩
 obtain⟨v2,c2,p2,h2,e2,r2,k2⟩:=aL hl (n:=30) (by decide) (by decide) k1;have nb:(aS w).length<=1000000:=by have :=gA w;have :=dP (t:=tIb) (aS w);omega
 clear hr hR hV hv;obtain⟨⟨as0,ls0⟩,⟨dn,co⟩,⟨cap0,res,us0⟩,now,dead,fly,flows,box,drop⟩:=w;simp only[nT,nK,nG,aI,aJ,aH,aB,aS,dN]at ht hf hy hdl has hls nb e1 hdb hdr hft;have hN:=aCk as0 ls0 dn co cap0 res us0 now dead fly flows box drop;have bf:∀x∈fly,fR x.2.2:=hb.fly;have bm:∀f∈flows,∀m∈f.2.2.2.2.1,sG m:=hb.msg;unfold aAr ixb bJf pj2 pj3 pj4 aO bC bK dY zz4 zz5 zz6 zz7 zz8 zz9;simp only[e1,e2,aA,aW,bN,bF,bE,bG];cases v2==(0:Int) with
 | true=>
  obtain⟨as,ls,c3,p3,h3,e3,l1,l2,k3⟩:=bS8 hl k2;refine⟨((as,ls),(dn,co),(cap0,res,us0),now,dead,fly,flows,box,drop),c3,p3,h3,by simp only[zZ,e3,aA];rfl,⟨?_,⟨bf,bm⟩,hf,by show fly.length<=151;omega,l1,l2,by show (dead).length<=101;omega,hdb,hdr,hft⟩,k3⟩;rw[aCk];have a1:=dQ (t:=tAS) (l:=as) rfl;have a2:=dQ (t:=tLk) (l:=ls) rfl;omega
 | false=>
 cases v2==(1:Int) with
 | true=>
  obtain⟨v3,c3,p3,h3,e3,r3,k3⟩:=bPu hl k2;exact⟨((as0,ls0),(dn,co),(cap0,res,us0),v3,dead,fly,flows,box,drop),c3,p3,h3,by simp only[zZ,zY,e3,aA];rfl,⟨base.tot,⟨bf,bm⟩,hf,base.fly,has,base.links,base.dead,hdb,hdr,hft⟩,k3⟩
 | false=>
 cases v2==(2:Int) with
 | true=>
  obtain⟨cap,l3,us,c3,p3,h3,e3,l1,l2,k3⟩:=bLy hl k2;refine⟨((as0,ls0),(dn,co),(cap,l3,us),now,dead,fly,flows,box,drop),c3,p3,h3,by simp only[zZ,zY,e3,aA];rfl,⟨?_,⟨bf,bm⟩,hf,base.fly,has,base.links,base.dead,hdb,hdr,hft⟩,k3⟩;rw[aCk];have a1:=dQ (t:=tRs) (l:=l3) rfl;have a2:=dQ (t:=tUs) (l:=us) rfl;omega
 | false=>
 cases v2==(3:Int) with
 | true=>
  obtain⟨v3,c3,p3,h3,e3,r3,k3⟩:=aL hl (n:=9) (by decide) (by decide) k2;obtain⟨v4,c4,p4,h4,e4,r4,k4⟩:=aL hl (n:=9) (by decide) (by decide) k3;refine⟨((as0,ls0),(dn,co),(cap0,res,us0),now,[v3,v4],fly,flows,box,drop),c4,p4,h4,by simp only[zZ,zY,e3,e4,aA];rfl,⟨?_,⟨bf,bm⟩,hf,base.fly,has,base.links,by show [v3,v4].length<=101;simp,hdb,hdr,hft⟩,k4⟩;rw[aCk,show [v3,v4].length=2 from rfl];have a1:tot (.sl ti) [v3,v4]=2:=by rw[dQ (t:=ti) rfl];rfl
  omega
 | false=>
 cases v2==(4:Int) with
 | true=>exact⟨((as0,ls0),(dn,co),(cap0,res,us0),now,dead,fly,flows,box,(-1:Int)),c2,p2,h2,by simp only[zZ,zY,aA];rfl,⟨base.tot,⟨bf,bm⟩,hf,base.fly,has,base.links,base.dead,hdb,(by show (-1:Int)<=900000;decide),hft⟩,k2⟩
 | false=>
 cases v2==(5:Int) with
 | true=>
  refine⟨((as0,ls0),(dn,co),(cap0,res,us0),now,dead,fly,flows,box++[((0:Int),(1:Int),(0:Int),[])],drop),c2,p2,h2,by simp only[zZ,zY,bLt,aA,aF (b:=48) (n:=box.length) (m:=1) (by decide) (by omega)];rfl,⟨?_,⟨bf,bm⟩,hf,base.fly,has,base.links,base.dead,hdb,hdr,hft⟩,k2⟩;rw[aCk,bFc rfl];omega
 | false=>
 cases v2==(6:Int) with
 | true=>
  by_cases hz:(flows.length:Int)>0
  .obtain⟨v3,c3,p3,h3,e3,r3,k3⟩:=aL hl (n:=6) (by decide) (by decide) k2;have hg:flows[0]? =some (flows[0]'(by omega)):=cEx (by omega);refine⟨((as0,ls0),(dn,co),(cap0,res,us0),now,dead,fly,flows.set 0 (setCW (flows[0]'(by omega)) v3 (flows[0]'(by omega)).2.2.2.2.2.2.2.1),box,drop),c3,p3,h3,?_,⟨?_,⟨bf,λf hf'=> ?_⟩,by show (flows.set 0 _).length<=4;rw[cF8];exact hf,base.fly,has,base.links,base.dead,hdb,hdr,hft⟩,k3⟩
   .simp only[zZ,zY,zX hz,e3,aA,show decide ((0:Int)<=(0:Int))=true from rfl,zX (show (0:Int)<(flows.length:Int) by omega),show (0:Int).toNat=0 from rfl,hg];rfl
   .rw[aCk];have a1:=aN7 (t:=tFl) (y:=setCW (flows[0]'(by omega)) v3 (flows[0]'(by omega)).2.2.2.2.2.2.2.1) hg;have a2:tot tFl (setCW (flows[0]'(by omega)) v3 (flows[0]'(by omega)).2.2.2.2.2.2.2.1)=tot tFl (flows[0]'(by omega)):=rfl;omega
   .rcases cHx (show f∈flows.set 0 _ from hf') with hf' | rfl
    .exact bm f hf'
    .have hm0:=bm _ (cE9 hg);exact hm0
  .exact⟨((as0,ls0),(dn,co),(cap0,res,us0),now,dead,fly,flows,box,drop),c2,p2,h2,by simp only[zZ,zY,zW hz,aA];rfl,base,k2⟩
 | false=>
 cases v2==(7:Int) with
 | true=>
  obtain⟨v3,c3,p3,h3,e3,r3,k3⟩:=aL hl (n:=9) (by decide) (by decide) k2;refine⟨((as0,ls0),(dn,co),(cap0,res,us0),now,dead,fly++[(v3,(0:Int),((0:Int),(0:Int),(0:Int),[],(0:Int),(0:Int),(0:Int),(0:Int),(0:Int),[]))],flows,box,drop),c3,p3,h3,by simp only[zZ,zY,e3,aA,aF (b:=128) (n:=fly.length) (m:=1) (by decide) (by omega)];rfl,⟨?_,⟨λx hx=> ?_,bm⟩,hf,by show (fly++[_]).length<=151;simp;omega,has,base.links,base.dead,hdb,hdr,λx hx=> ?_⟩,k3⟩
  .rw[aCk,bFc rfl];omega
  .rcases cE4.1 (show x∈fly++[_] from hx) with hx | hx
   .exact bf x hx
   .rw[cE3.1 hx];exact λy hy=>(cFi hy).elim
  .rcases cE4.1 (show x∈fly++[_] from hx) with hx | hx
   .exact hft x hx
   .rw[cE3.1 hx,aUh];exact cFe _
 | false=>exact⟨((as0,ls0),(dn,co),(cap0,res,us0),now,dead,fly,flows,box,drop),c2,p2,h2,by simp only[zY,aA];rfl,base,k2⟩
def fB:lPp->Nat
 | []=>0
 | x::l=>x.2.2.2.length+fB l
theorem aE5:∀a b:lPp,fB (a++b)=fB a+fB b
 | [],b=>(cFs _).symm
 | x::a,b=>by
  show x.2.2.2.length+fB (a++b)=x.2.2.2.length+fB a+fB b;rw[aE5 a b];omega
theorem aMh:∀l:lPp,fB l<=tot (.sl tPp) l
 | []=>cFe _
 | x::l=>by
  have :=aMh l;rw[kT];have e:tot tPp x=x.2.2.2.length:=by
   show tot ti x.1+(tot ti x.2.1+(tot ti x.2.2.1+tot (.sl bU) x.2.2.2))=_;rw[dQ (t:=bU) rfl];simp[qU]
  show x.2.2.2.length+fB l<=_;omega
theorem aNl:∀l:lPp,fB (jS l)=fB l
 | []=>rfl
 | x::l=>by
  have :=aNl l;unfold jS at this ⊢;rw[cIe,cGi,aE5,this];show fB l+((pJ x).2.2.2.length+0)=x.2.2.2.length+fB l;unfold pJ;simp only[List.length_reverse];omega
def xP(p:den tPk):Nat:=fB (p.2.2.2.1.drop p.2.2.2.2.1.toNat) - p.2.2.2.2.2.1.toNat
theorem cAt{p:den tPk}(h:cH p=true):∃i j:Nat,p.2.2.2.2.1=(i:Int)/\p.2.2.2.2.2.1=(j:Int)/\j<(bM p).2.2.2.length/\fB (p.2.2.2.1.drop i)=(bM p).2.2.2.length+fB (p.2.2.2.1.drop (i+1)):=by
 obtain⟨i,j,h1,h2,h3,h4,_⟩:=fX h;refine⟨i,j,h1,h2,(cEz.1 h4).1,?_⟩;obtain⟨hlt,e⟩:=cEz.1 h3;rw[cHl hlt,e];rfl
theorem bGc{p:den tPk}(h:cH p=true)(h0:0<=cD p)(ha:dG p=false):xP (adv p)+1=xP p:=by
 obtain⟨i,j,h1,h2,h3,h4⟩:=cAt h;unfold adv;rw[ha,zW (show ¬ cD p<0 by omega),cGn,zS (by decide)];unfold xP;rw[h1,h2,cE0,cE0,h4];split
 .rename_i hl;unfold cQ at hl;rw[h2]at hl;have hl:(j:Int)=((bM p).2.2.2.length:Int) - 1:=eq_of_beq hl;show fB (p.2.2.2.1.drop ((i:Int)+1).toNat) - (0:Int).toNat+1=_;rw[show ((i:Int)+1).toNat=i+1 by omega,show (0:Int).toNat=0 from rfl];omega
 .rename_i hl;show fB (p.2.2.2.1.drop (i:Int).toNat) - ((j:Int)+1).toNat+1=_;rw[show ((j:Int)+1).toNat=j+1 by omega,cE0,h4];omega
theorem aKm(t:den tTo)(p:den tPk):xP (aT t p)=xP p:=by
 unfold aT;split<;>rfl
theorem bD5{t:den tTo}{now:Int}:∀(n:Nat) (p:den tPk),(goC t now n p).1=0->xP (goC t now n p).2<=xP p
 | 0,p,h=>cGv (aKm t p)
 | n+1,p,h=>by
  obtain⟨h1,h2⟩:=vD (yH h);obtain⟨e1,e2,_⟩:=wR t p;unfold goC at h|-;split at h
  .rename_i hc;rw[zT hc];simp only[cEw,cFu]at hc;have :=bD5 n _ h;have h3:=bGc (p:=aT t p) (e1.trans h1) (by rw[e2];exact h2) hc.2.2;rw[aKm]at h3;omega
  .rename_i hc;rw[zS hc];exact cGv (aKm t p)
theorem bYo{t:den tTo}{r now dead inn:Int}{p:den tPk}(h:(fwd t r now dead inn p).1=0):xP (fwd t r now dead inn p).2.2.1+1<=xP p:=by
 unfold fwd at h|-;split at h
 .exact absurd h (show ¬ ((2:Int)=0) by decide)
 rename_i c1;rw[zS c1];split at h
 .exact absurd h (show ¬ ((3:Int)=0) by decide)
 rename_i c2;rw[zS c2];split at h
 .rename_i c3;simp only[cFu,beq_eq_false_iff_ne]at c3;exact absurd h c3
 rename_i c3;rw[zS c3];split at h
 .split at h<;>first | exact absurd h (show ¬ ((1:Int)=0) by decide) | exact absurd h (show ¬ ((2:Int)=0) by decide)
 rename_i c4;rw[zS c4];split at h
 .exact absurd h (show ¬ ((6:Int)=0) by decide)
 rename_i c5;rw[zS c5];split at h
 .exact absurd h (show ¬ ((7:Int)=0) by decide)
 rename_i c6;rw[zS c6];have c3:(bB t now p).1=0:=by simpa using c3
 have c4:dG (bB t now p).2=false:=by simpa using c4
 obtain⟨q1,q2,_⟩:=aBv (t:=t) (now:=now) (p.2.2.2.1.length - p.2.2.2.2.1.toNat) p c3;have a:=bD5 (t:=t) (now:=now) (p.2.2.2.1.length - p.2.2.2.2.1.toNat) p c3;have b:=bGc (p:=(bB t now p).2) q1 q2 c4;show xP (adv (bB t now p).2)+1<=xP p;have a:xP (bB t now p).2<=xP p:=a;omega
def aFl(p:den tPk):Nat:=1+xP p+cond (p.1==(1:Int)) 72 0
theorem bQf{t:den tTo}{now:Int}{dead:List Int}{r inn:Int}{p:den tPk}(h:((aG t now dead r inn p).1==0)=true):aFl (aG t now dead r inn p).2.2.1+1<=aFl p:=by
 have h:(fwd t r now (dL t dead r) inn p).1=0:=eq_of_beq (show ((fwd t r now (dL t dead r) inn p).1==0)=true from h);have a:=bYo h;have b:=(aAh t r now (dL t dead r) inn p).1;unfold aG aFl;rw[b];omega
theorem bN6(w:den tNw):aJ (outW w)=aJ w:=by
 unfold outW;split
 .rfl
 .exact aGa _ _ _ _
theorem gW.out{t:den tTo}{B k d:Nat}{w:den tNw}(h:gW t B k d w)(hd:d<=900000000):gW t (B+164) k (d+2) (outW w):=by
 unfold outW;split
 .exact h.mono (by omega) (cE8 _) (by omega)
 .rename_i x l hf;have hx:x∈aH w:=by rw[hf];exact cFb ..
  have hs:bX w (cC w l):=⟨rfl,rfl,id,λy hy=> .inl (by rw[hf];exact cE7 _ hy),λhn=>by
   rw[hf]at hn;show l.length<=150;simp only[cFw]at hn;omega⟩
  obtain⟨k1,k2,k3⟩:=aQk h.run.keep hf;have hk:=aKx (r:=x.1) (inn:=x.2.1) (p:=x.2.2) k1 k3;refine⟨h.run.step (hs.trans (bX.proc _ _ _ _)) hk,?_,?_,?_⟩
  .exact aH7 (h.inv.same (w':=cC w l) rfl rfl rfl λy hy=> .inl (by rw[hf];exact cE7 _ hy)) (h.inv.good x hx)
  .exact cK.proc (n:=d) (w:=cC w l) (cK.eq h.drop rfl) (by omega) _ _ _
  .rw[aGa];exact h.dead
theorem gW.del{t:den tTo}:∀(n:Nat) {B k d:Nat} {w:den tNw},gW t B k d w->d+2 * n<=900000000->gW t (B+n * 164) k (d+2 * n) (delW n w)
 | 0,B,k,d,w,h,_=>h.mono (by omega) (cE8 _) (by omega)
 | n+1,B,k,d,w,h,hd=>by
  unfold delW;split
  .exact h.mono (by omega) (cE8 _) (by omega)
  .exact (gW.del n (h.out (by omega)) (by omega)).mono (by rw[Nat.succ_mul];omega) (cE8 _) (by omega)
theorem gW.tick{t:den tTo}{B k d:Nat}{w:den tNw}(h:gW t B k d w)(hk:k<=1000)(hd:d<=900000000):gW t (B+656) (k+1) (d+8) (dA w):=by
 refine⟨aVv h.run (by omega),aVs h.inv,?_,by rw[aLu];exact h.dead⟩;have hf:=h.run.keep.flows;unfold dA;split
 .exact h.drop.mono (by omega)
 .refine cK.mono (n:=d+2 * (aB w).length) (cK.tickL (m:=0) (aB w).length 0 (n:=d) ?_ (by omega)) (by omega);exact cK.eq h.drop rfl
theorem gW.step{t:den tTo}{B k d:Nat}{w:den tNw}(h:gW t B k d w)(hk:k<=1000)(hd:d<=800000000):gW t (B+328656) (k+1) (d+4008) (delW 2000 (dA w)):=
 ((h.tick hk (by omega)).del 2000 (by omega)).mono (by omega) (cE8 _) (by omega)
theorem aDi:∀(n:Nat) (w:den tNw),bZ (n+1) w=mX (bZ n w)
 | 0,_=>rfl
 | n+1,w=>aDi n (mX w)
def bUw(w:den tNw)(c:List Int)(p h:Int):lAS×lLk×lSg×lSg×Int×lRs×lUs×Int×lI×Int×lI×Int×Int×lFy×lFl×lIb:=
 ((nT w).1,(nT w).2,(nK w).1,(nK w).2,(nG w).1,(nG w).2.1,(nG w).2.2,aI w,aJ w,dN w,c,p,h,aH w,aB w,aS w)
theorem bS3{code:List Int}(hl:code.length<=1048576){most:Nat}(h0:0<most)(h1:most<=100):∃w c' p' h',wN code (most:Int)=some (bUw w c' p' h')/\bJt w/\Cur code (c',p',h'):=by
 obtain⟨c0,p0,h0',e0,k0⟩:=bFo hl;obtain⟨w,c1,p1,h1',e1,hw,k1⟩:=bLr hl h0 h1 k0;refine⟨w,c1,p1,h1',?_,hw,k1⟩;unfold wN pj3 aO bC bK dY kV vE zz4 zz5 zz6 zz7 zz8 zz9;simp only[e0,e1,aA,bY8];rfl
def oR(p:den tPk):Nat:=if dC p then aFl p else 1
theorem bAi(p:den tPk):1<=oR p:=by
 unfold oR aFl;split<;>omega
theorem bFu(p:den tPk):oR p<=140:=by
 unfold oR;split
 .rename_i hv;have ht:=aF5 hv;have hk:tot tPk p=tot tPt p.2.2.2.1+tot (.sl tb) p.2.2.2.2.2.2.2.2.2:=by simp[pC,qU]
  have hh:=aMh p.2.2.2.1;have hh:fB p.2.2.2.1<=tot tPt p.2.2.2.1:=hh;have hr:xP p<=fB p.2.2.2.1:=by
   unfold xP;have e:=aE5 (p.2.2.2.1.take p.2.2.2.2.1.toNat) (p.2.2.2.1.drop p.2.2.2.2.1.toNat);rw[cGd]at e;omega
  have hc:cond (p.1==(1:Int)) 72 0<=72:=by cases (p.1==(1:Int))<;>decide
  unfold aFl;omega
 .decide
theorem aVl{p:den tPk}(h:(p.1==(1:Int))=false)(hh:fB p.2.2.2.1<=70)(h0:xP p<=fB p.2.2.2.1):oR p<=71:=by
 unfold oR;split
 .unfold aFl;rw[h];show 1+xP p+0<=71;omega
 .decide
def aFt:lFy->Nat
 | []=>0
 | x::l=>oR x.2.2+aFt l
theorem aWy:∀(l:lFy) (x:den tFy),aFt (l++[x])=aFt l+oR x.2.2
 | [],x=>by show oR x.2.2+0=0+oR x.2.2;omega
 | y::l,x=>by
  show oR y.2.2+aFt (l++[x])=oR y.2.2+aFt l+oR x.2.2;rw[aWy l x];omega
theorem bEb:∀l:lFy,aFt l<=140 * l.length
 | []=>cE8 _
 | x::l=>by
  have :=bEb l;have :=bFu x.2.2;show oR x.2.2+aFt l<=140 * (l.length+1);omega
def gI(w:den tNw):Nat:=aFt (aH w)
theorem aVz(w:den tNw)(r eg:Int)(p:den tPk):gI (gM w r eg p)<=gI w+oR p:=by
 unfold gM;split
 .show aFt (aH w++[_])<=_;rw[aWy];exact cE8 _
 .exact cHz _ _
theorem aV6{t:den tTo}{now:Int}{dead:List Int}{r inn:Int}{p:den tPk}(h:((aG t now dead r inn p).1==0)=true):dC p=true/\oR (aG t now dead r inn p).2.2.1+1<=oR p:=by
 have hv:dC p=true:=aC1 (t:=t) (r:=r) (now:=now) (dead:=dL t dead r) (inn:=inn) (by
  have h:((fwd t r now (dL t dead r) inn p).1==0)=true:=h;rw[eq_of_beq h];rfl)
 refine⟨hv,?_⟩;have a:=bQf h;have b:oR (aG t now dead r inn p).2.2.1<=aFl (aG t now dead r inn p).2.2.1:=by
  unfold oR;split
  .exact cE8 _
  .unfold aFl;omega
 have c:oR p=aFl p:=by unfold oR;rw[zT hv]
 omega
theorem aSh(w:den tNw)(r inn:Int)(p:den tPk):gI (proc0 w r inn p)+1<=gI w+oR p:=by
 have hp:=bAi p;unfold proc0;split
 .rename_i hc;have :=(aV6 hc).2;have :=aVz w r (aG (nT w) (aI w) (aJ w) r inn p).2.1 (aG (nT w) (aI w) (aJ w) r inn p).2.2.1;omega
 .split
  .show gI w+1<=_;omega
  .show gI w+1<=_;omega
theorem bEx{kind res seq:Int}{p:den tPt}{pay:List Int}:xP (dM kind p res seq pay)=fB p:=by
 show fB (List.drop 0 p) - 0=fB p;rw[List.drop_zero];rfl
theorem bIi:∀(l:lPp) (i j:Nat),fB (aEd l i j)<=fB l:=by
 intro l i j;unfold aEd;split
 .rename_i x hx;rw[aE5];have e:=aE5 (l.take i) (l.drop i);rw[cGd]at e;obtain⟨hlt,e2⟩:=cEz.1 hx;rw[cHl hlt,e2]at e;have e:fB l=fB (l.take i)+(x.2.2.2.length+fB (l.drop (i+1))):=e;show fB (l.take i)+((x.2.2.2.take (j+1)).length+0)<=_;rw[cF6];omega
 .exact cFe _
theorem bDf(p:den tPk):fB (oV p)<=fB p.2.2.2.1:=by
 unfold oV;split
 .exact cFe _
 .exact bIi _ _ _
theorem aSu{p:den tPk}(hv:dC p=true):fB p.2.2.2.1<=67:=by
 have ht:=aF5 hv;have hk:tot tPk p=tot tPt p.2.2.2.1+tot (.sl tb) p.2.2.2.2.2.2.2.2.2:=by simp[pC,qU]
 have hh:=aMh p.2.2.2.1;have hh:fB p.2.2.2.1<=tot tPt p.2.2.2.1:=hh;omega
theorem bKv{w:den tNw}{r:Int}{p:den tPk}(h:fB p.2.2.2.1<=70):gI (qJ w r p)<=gI w+70:=by
 unfold qJ;split
 .omega
 .split
  .rename_i hb;have a:=aSh (oB w (dU (aS w) r p.2.1).toNat (cM (iV w (dU (aS w) r p.2.1).toNat) p)) r 0 (jT (cM (iV w (dU (aS w) r p.2.1).toNat) p) p);have b:oR (jT (cM (iV w (dU (aS w) r p.2.1).toNat) p) p)<=71:=by
    refine aVl (aF7 hb) ?_ ?_
    .unfold jT;rw[hb];show fB (jS p.2.2.2.1)<=70;rw[aNl];exact h
    .unfold jT;rw[hb];exact cGv bEx
   have e:gI (oB w (dU (aS w) r p.2.1).toNat (cM (iV w (dU (aS w) r p.2.1).toNat) p))=gI w:=rfl;omega
  .exact cHz _ _
theorem bH2{w:den tNw}{r d:Int}{p:den tPk}(h:fB p.2.2.2.1<=70):gI (tA w r d p)<=gI w+70:=by
 have e0:∀x,gI (wX x)=gI x:=λ_=>rfl
 unfold tA;rw[e0];split
 .have a:=aSh w r 0 (cB r (aI w) d p);have b:oR (cB r (aI w) d p)<=71:=by
   refine aVl rfl ?_ ?_
   .show fB (jS (oV p))<=70;rw[aNl];exact cEv (bDf p) h
   .exact cGv bEx
  omega
 .exact cHz _ _
theorem aRy(w:den tNw)(r inn:Int)(p:den tPk):gI (dW w r inn p)+1<=gI w+oR p:=by
 have hp:=bAi p;unfold dW;split
 .rename_i hc;have :=(aV6 hc).2;have :=aVz w r (aG (nT w) (aI w) (aJ w) r inn p).2.1 (aG (nT w) (aI w) (aJ w) r inn p).2.2.1;omega
 .split
  .rename_i hc;split
   .rename_i h1;have hv:dC p=true:=aC1 (t:=nT w) (r:=r) (now:=aI w) (dead:=dL (nT w) (aJ w) r) (inn:=inn) (by
     have h:((fwd (nT w) r (aI w) (dL (nT w) (aJ w) r) inn p).1==1)=true:=hc;rw[eq_of_beq h];rfl)
    have hh:=aSu hv;have e:(aG (nT w) (aI w) (aJ w) r inn p).2.2.1.2.2.2.1=p.2.2.2.1:=by
     obtain⟨i,j,b,e⟩:=aHu (nT w) r (aI w) (dL (nT w) (aJ w) r) inn p;unfold aG;rw[e];rfl
    have :=bKv (w:=w) (r:=r) (p:=(aG (nT w) (aI w) (aJ w) r inn p).2.2.1) (by rw[e];omega);have e2:oR p=1+xP p+72:=by unfold oR aFl;rw[hv,h1];rfl
    omega
   .show gI w+1<=_;omega
  .split
   .rename_i hc;rw[cEw]at hc;have hv:dC p=true:=aC1 (t:=nT w) (r:=r) (now:=aI w) (dead:=dL (nT w) (aJ w) r) (inn:=inn) (by
     have h:((fwd (nT w) r (aI w) (dL (nT w) (aJ w) r) inn p).1==7)=true:=hc.1;rw[eq_of_beq h];rfl)
    have hh:=aSu hv;have :=bH2 (w:=w) (r:=r) (d:=(aG (nT w) (aI w) (aJ w) r inn p).2.2.2) (p:=p) (by omega);have e2:oR p=1+xP p+72:=by unfold oR aFl;rw[hv,hc.2];rfl
    omega
   .show gI w+1<=_;omega
theorem bM2{w:den tNw}{x:den tFy}{l:lFy}(hf:aH w=x::l):gI (outW w)+1<=gI w:=by
 unfold outW;rw[hf];show gI (dW (cC w l) x.1 x.2.1 x.2.2)+1<=_;have h:=aRy (cC w l) x.1 x.2.1 x.2.2;have e:gI w=oR x.2.2+aFt l:=by unfold gI;rw[hf];rfl
 have e2:gI (cC w l)=aFt l:=rfl;omega
theorem aWe:∀(n:Nat) (w:den tNw),aH (delW n w)=[]\/gI (delW n w)+n<=gI w
 | 0,w=> .inr (cE8 _)
 | n+1,w=>by
  unfold delW;split
  .rename_i h;exact .inl h
  .rename_i x l h;have :=bM2 h;rcases aWe n (outW w) with h1 | h1
   .exact .inl h1
   .exact .inr (by omega)
theorem bG7(k:Nat)(w:den tNw):gI (stepT k w)<=gI w+140:=by
 unfold stepT;split
 .rename_i f hf;split
  .have h:=aRy (bS w ((aB w).set k (aE f).1)) (aE f).1.1 0 (aE f).2.1;have h2:=bFu (aE f).2.1;have e:gI (bS w ((aB w).set k (aE f).1))=gI w:=rfl;omega
  .exact cHz _ _
 .exact cHz _ _
theorem aTh:∀(n k:Nat) (w:den tNw),gI (tickL k n w)<=gI w+140 * n
 | 0,_,_=>cE8 _
 | n+1,k,w=>by
  have h1:=bG7 k w;have h2:=aTh n (k+1) (stepT k w);unfold tickL;omega
theorem bGl{w:den tNw}(hf:(aB w).length<=4):gI (dA w)<=gI w+560:=by
 unfold dA;split
 .omega
 .have h:=aTh (aB w).length 0 (tick0 w);have e:gI (tick0 w)=gI w:=rfl;have :140 * (aB w).length<=560:=by omega
  omega
theorem aRo{w:den tNw}(hf:(aB w).length<=4):aH (mX w)=[]\/gI (mX w)+1440<=gI w:=by
 have a:=bGl hf;rcases aWe 2000 (dA w) with h | h
 .exact .inl h
 .exact .inr (by show gI (delW 2000 (dA w))+1440<=_;omega)
theorem aO8{w:den tNw}(hf:(aB w).length<=4)(h0:aH w=[]):aH (mX w)=[]:=by
 have e:gI w=0:=by unfold gI;rw[h0];rfl
 rcases aRo hf with h | h
 .exact h
 .omega
def egs(x:den tPp):List q26:=x.2.2.2.map λh=>(h.1,pEg x h)
def ins(x:den tPp):List q26:=x.2.2.2.map λh=>(h.1,pIn x h)
def oQ:lPp->List q26
 | []=>[]
 | x::l=>(egs x).dropLast++oQ l
def aFs:lPp->List q26
 | []=>[]
 | x::l=>(ins x).tail++aFs l
def fut(p:den tPk):List q26:=match p.2.2.2.1.drop p.2.2.2.2.1.toNat with
 | []=>[]
 | x::l=>(egs x).dropLast.drop p.2.2.2.2.2.1.toNat++oQ l
theorem aQo:∀a b:lPp,oQ (a++b)=oQ a++oQ b
 | [],_=>rfl
 | x::a,b=>by
  show (egs x).dropLast++oQ (a++b)=(egs x).dropLast++oQ a++oQ b;rw[aQo a b,cFk]
theorem bF1{kind res seq:Int}{p:den tPt}{pay:List Int}:fut (dM kind p res seq pay)=oQ p:=by
 unfold fut;show (match List.drop 0 p with | []=>[] | x::l=>(egs x).dropLast.drop 0++oQ l)=oQ p;rw[List.drop_zero];cases p with
 | nil=>rfl
 | cons x l=>rfl
theorem bJi(p:den tPk):∃a,oQ p.2.2.2.1=a++fut p:=by
 have e:=aQo (p.2.2.2.1.take p.2.2.2.2.1.toNat) (p.2.2.2.1.drop p.2.2.2.2.1.toNat);rw[cGd]at e;unfold fut;split
 .rename_i h;exact⟨_,by rw[cFv]⟩
 .rename_i x l h;rw[h]at e;refine⟨oQ (p.2.2.2.1.take p.2.2.2.2.1.toNat)++(egs x).dropLast.take p.2.2.2.2.2.1.toNat,?_⟩;rw[e];show _++((egs x).dropLast++oQ l)=_;rw[cFk,<- cFk (List.take _ _),cGd]
theorem bAt{p:den tPk}(h:cH p=true):∃i j:Nat,p.2.2.2.2.1=(i:Int)/\p.2.2.2.2.2.1=(j:Int)/\(bM p).2.2.2[j]? =some (cW p)/\p.2.2.2.1[i]? =some (bM p)/\fut p=(egs (bM p)).dropLast.drop j++oQ (p.2.2.2.1.drop (i+1))/\cD p=(cW p).1:=by
 obtain⟨i,j,h1,h2,h3,h4,h5⟩:=fX h;refine⟨i,j,h1,h2,h4,h3,?_,h5⟩;obtain⟨hlt,e⟩:=cEz.1 h3;unfold fut;rw[h1,h2,cE0,cE0,cHl hlt,e]
theorem bX1{p:den tPk}(h:cH p=true)(h0:0<=cD p)(ha:dG p=false)(hl:cQ p=false):fut p=(cD p,pEg (bM p) (cW p))::fut (adv p):=by
 obtain⟨i,j,h1,h2,h3,h4,h5,h6⟩:=bAt h;have hlt:=(cEz.1 h3).1;have hne: ¬ (j:Int)=((bM p).2.2.2.length:Int) - 1:=by
  unfold cQ at hl;rw[h2]at hl;simpa using hl
 have e:adv p=goTo p p.2.2.2.2.1 (p.2.2.2.2.2.1+1) p.2.2.2.2.2.2.1:=by
  unfold adv;rw[ha,zW (show ¬ cD p<0 by omega),hl];rfl
 have e2:fut (adv p)=(egs (bM p)).dropLast.drop (j+1)++oQ (p.2.2.2.1.drop (i+1)):=by
  rw[e];unfold fut;show (match p.2.2.2.1.drop p.2.2.2.2.1.toNat with | []=>[] | x::l=>(egs x).dropLast.drop (p.2.2.2.2.2.1+1).toNat++oQ l)=_;obtain⟨hlt,e⟩:=cEz.1 h4;rw[h1,h2,cE0,show ((j:Int)+1).toNat=j+1 by omega,cHl hlt,e]
 have hd:j<(egs (bM p)).dropLast.length:=by unfold egs;rw[cIf,cFt];omega
 rw[h5,e2,cHl hd,cHs];congr 1;rw[List.getElem_dropLast];unfold egs;rw[List.getElem_map,h6];obtain⟨_,e3⟩:=cEz.1 h3;rw[e3]
theorem bPw{p:den tPk}(h:cH p=true)(h0:0<=cD p)(ha:dG p=false)(hl:cQ p=true):fut (adv p)=fut p:=by
 obtain⟨i,j,h1,h2,h3,h4,h5,h6⟩:=bAt h;have hlt:=(cEz.1 h3).1;have he:(j:Int)=((bM p).2.2.2.length:Int) - 1:=by
  unfold cQ at hl;rw[h2]at hl;simpa using hl
 have e:adv p=goTo p (p.2.2.2.2.1+1) 0 (sK p).2.2.1:=by
  unfold adv;rw[ha,zW (show ¬ cD p<0 by omega),hl];rfl
 have e2:fut (adv p)=oQ (p.2.2.2.1.drop (i+1)):=by
  rw[e];unfold fut;show (match p.2.2.2.1.drop (p.2.2.2.2.1+1).toNat with | []=>[] | x::l=>(egs x).dropLast.drop (0:Int).toNat++oQ l)=_;rw[h1,show ((i:Int)+1).toNat=i+1 by omega];cases p.2.2.2.1.drop (i+1) with
  | nil=>rfl
  | cons x l=>rfl
 have hd:(egs (bM p)).dropLast.drop j=[]:=by
  rw[List.drop_eq_nil_iff];unfold egs;rw[cIf,cFt];omega
 rw[h5,e2,hd,cFl]
theorem aLd(t:den tTo)(p:den tPk):fut (aT t p)=fut p:=by
 unfold aT;split<;>rfl
theorem aU2{t:den tTo}{now:Int}:∀(n:Nat) (p:den tPk),(goC t now n p).1=0->fut (goC t now n p).2=fut p
 | 0,p,h=>aLd t p
 | n+1,p,h=>by
  obtain⟨h1,h2⟩:=vD (yH h);obtain⟨e1,e2,_⟩:=wR t p;unfold goC at h|-;split at h
  .rename_i hc;rw[zT hc];simp only[cEw,cFu]at hc;rw[aU2 n _ h,bPw (p:=aT t p) (e1.trans h1) (by rw[e2];exact h2) hc.2.2 hc.2.1,aLd]
  .rename_i hc;rw[zS hc];exact aLd t p
structure cAq (t:den tTo) (r now dead inn:Int) (p:den tPk):Prop where
 val:dC p=true
 sim:qQ t p.2.2.2.1=true
 at_:cD p=r
 go:(bB t now p).1=0
theorem xR{t:den tTo}{r now dead inn:Int}{p:den tPk}(h:(fwd t r now dead inn p).1=0\/(fwd t r now dead inn p).1=1\/(fwd t r now dead inn p).1=7):cAq t r now dead inn p:=by
 unfold fwd at h;split at h
 .exact absurd h (show ¬ ((2:Int)=0\/(2:Int)=1\/(2:Int)=7) by decide)
 rename_i c1;split at h
 .exact absurd h (show ¬ ((3:Int)=0\/(3:Int)=1\/(3:Int)=7) by decide)
 split at h
 .rename_i c3;have hz: ¬ (bB t now p).1=0:=by simpa using c3
  have hle:(bB t now p).1<=5:=aZ4 _ _;have h:(bB t now p).1=0\/(bB t now p).1=1\/(bB t now p).1=7:=h;have h45:∀(n:Nat) (p:den tPk),(goC t now n p).1=0\/(goC t now n p).1=4\/(goC t now n p).1=5:=by
   have hc:∀p,cN t now p=0\/cN t now p=4\/cN t now p=5:=λp=>by
    unfold cN;split
    .split
     .exact .inl rfl
     .exact .inr (.inr rfl)
    .exact .inr (.inl rfl)
   intro n
   induction n with
   | zero=>intro p;exact hc p
   | succ n ih=>
    intro p;unfold goC;split
    .exact ih _
    .exact hc p
  have h45:(bB t now p).1=0\/(bB t now p).1=4\/(bB t now p).1=5:=h45 _ _;omega
 rename_i c3;have c1:=eq_false_of_ne_true c1;simp only[Bool.or_eq_false_iff,Bool.not_eq_false']at c1;exact⟨c1.1,c1.2.1,eq_of_beq c1.2.2,by simpa using c3⟩
theorem aHz{t:den tTo}{p:den tPt}(h:qQ t p=true):wfP t p=true:=(cEw _ _▸h:_/\_).1
theorem aWa{t:den tTo}{now:Int}{p:den tPk}(hw:wfP t p.2.2.2.1=true)(h:(bB t now p).1=0):(cQ (bB t now p).2=false\/dG (bB t now p).2=true)/\cD (bB t now p).2=cD p/\(bB t now p).2.2.2.2.1=p.2.2.2.1:=by
 obtain⟨h1,h2⟩:=vD (yH h);obtain⟨i,j,e1,e2,e3,_⟩:=fX h1;have hlt:=(cEz.1 e3).1;refine aP4 _ p hw ?_ h;have key:∀(a:Int) (i n:Nat),a=(i:Int)->i<n->a+((n - a.toNat:Nat):Int)=(n:Int):=by
  intro a i n h1 h2;subst h1;omega
 exact key _ i _ e1 hlt
theorem bD6{t:den tTo}{r now dead inn:Int}{p:den tPk}(h:(fwd t r now dead inn p).1=0):fut p=(r,(fwd t r now dead inn p).2.1)::fut (fwd t r now dead inn p).2.2.1/\aBj dead (fwd t r now dead inn p).2.1=false:=by
 have th:=xR (.inl h);obtain⟨g1,g2,g3⟩:=aWa (aHz th.sim) th.go;unfold fwd at h|-;split at h
 .exact absurd h (show ¬ ((2:Int)=0) by decide)
 rename_i c1;rw[zS c1];split at h
 .exact absurd h (show ¬ ((3:Int)=0) by decide)
 rename_i c2;rw[zS c2];split at h
 .rename_i c3;simp only[cFu,beq_eq_false_iff_ne]at c3;exact absurd h c3
 rename_i c3;rw[zS c3];split at h
 .split at h<;>first | exact absurd h (show ¬ ((1:Int)=0) by decide) | exact absurd h (show ¬ ((2:Int)=0) by decide)
 rename_i c4;rw[zS c4];split at h
 .exact absurd h (show ¬ ((6:Int)=0) by decide)
 rename_i c5;rw[zS c5];split at h
 .exact absurd h (show ¬ ((7:Int)=0) by decide)
 rename_i c6;rw[zS c6];have c4:dG (bB t now p).2=false:=by simpa using c4
 obtain⟨q1,q2,_⟩:=aBv (t:=t) (now:=now) (p.2.2.2.1.length - p.2.2.2.2.1.toNat) p th.go;have hl:cQ (bB t now p).2=false:=g1.elim id λe=>by rw[c4]at e;cases e
 have a:=bX1 (p:=(bB t now p).2) q1 q2 c4 hl;have b:fut (bB t now p).2=fut p:=aU2 _ p th.go;rw[b,g2,th.at_]at a;exact⟨a,by simpa using c6⟩
def eOf(l:bV):List q26:=l.map λs=>(s.1,s.2.2)
def iOf(l:bV):List q26:=l.map λs=>(s.1,s.2.1)
def stp(x:den tPp)(h:den bU):den mR:=(h.1,pIn x h,pEg x h)
theorem bPi{nf:Bool}{x:den tPp}{k:Nat}{h:den bU}{b:bV}(hk:0<k):tK nf x k h b=b++[stp x h]:=by
 unfold tK;split
 .rw[zW (show ¬ k=0 by omega),Bool.false_and,cGt,zS (by decide)];rfl
 .rfl
theorem aQj(nf:Bool)(x:den tPp):∀(l:cV) (k:Nat) (a:bV),0<k->bQ (λi h b=>tK nf x i h b) k l a=a++l.map (stp x)
 | [],_,a,_=>(cFv a).symm
 | h::l,k,a,hk=>by
  show bQ _ (k+1) l (tK nf x k h a)=_;rw[bPi hk,aQj nf x l (k+1) _ (Nat.succ_pos k),cFk];rfl
theorem bC5(x:den tPp):jV false x []=x.2.2.2.map (stp x):=by
 unfold jV;cases h:x.2.2.2 with
 | nil=>rfl
 | cons y l=>
  show bQ _ 1 l (tK false x 0 y [])=_;rw[aQj _ _ _ _ _ (by decide)];rfl
theorem bGo{x:den tPp}{a:bV}{z:den mR}{y:den bU}{l:cV}(hx:x.2.2.2=y::l)(ha:z.1=y.1):jV true x (a++[z])=a++((y.1,z.2.1,pEg x y):den mR)::l.map (stp x):=by
 unfold jV;rw[hx];show bQ _ 1 l (tK true x 0 y (a++[z]))=_;rw[aQj _ _ _ _ _ (by decide)];unfold tK;rw[cGs];simp only[Bool.true_and,decide_true,ha,beq_self_eq_true,zV,cG9,cFk,List.singleton_append]
def aOq(t:den tTo):lPp->Prop
 | []=>True
 | [x]=>fO t x=true
 | x::y::l=>fO t x=true/\(aBo x).1=(aDa y).1/\aOq t (y::l)
theorem aP7{t:den tTo}{p:lPp}(h:wfP t p=true):aOq t p:=by
 unfold wfP at h;have h:=(cEw _ _▸h:_/\_).2;have h:=(zI (vT t p) p).1 h;have key:∀(l a:lPp),p=a++l->aOq t l:=by
  intro l
  induction l with
  | nil=>intro a _;trivial
  | cons x l ih=>
   intro a e;have hx:p[a.length]? =some x:=by rw[e,cHi (cE8 _),Nat.sub_self];rfl
   have v:=h _ _ hx;unfold vT at v;rw[cEw]at v;have rest:=ih (a++[x]) (by rw[e,cFk];rfl);cases l with
   | nil=>exact v.1
   | cons y l=>
    refine⟨v.1,?_,rest⟩;have hy:p[a.length+1]? =some y:=by rw[e,cHi (by omega),show a.length+1 - a.length=1 by omega];rfl
    have vy:=h _ _ hy;unfold vT at vy;rw[cEw,zW (show ¬ a.length+1=0 by omega),Bool.false_or,cH9,hx]at vy;have :=vy.2;unfold aLc at this;rw[cEw]at this;exact eq_of_beq this.2
 exact key p [] rfl
theorem bAr{t:den tTo}:∀(l:lPp) (y:den tPp) (k:Nat) (a:bV) (z:den mR),0<k->aOq t (y::l)->z.1=(aBo y).1->
  ∃(b:bV) (w:den mR),bQ (λk x a=>jV (decide (0<k)) x a) k l (a++[z])=b++[w]/\eOf b=eOf a++oQ l/\iOf (b++[w])=iOf (a++[z])++aFs l
 | [],y,k,a,z,_,_,_=>⟨a,z,rfl,(cFv _).symm,(cFv _).symm⟩
 | x::l,y,k,a,z,hk,hj,hz=>by
  obtain⟨_,j2,j3⟩:=hj;have vx:fO t x=true:=by cases l with
   | nil=>exact j3
   | cons _ _=>exact j3.1
  have hp:=zG vx;cases hx:x.2.2.2 with
  | nil=>rw[hx]at hp;exact absurd hp (by decide)
  | cons h hs=>
   have hh:aDa x=h:=by unfold aDa;rw[hx];rfl
   have e1:jV true x (a++[z])=a++((h.1,z.2.1,pEg x h):den mR)::hs.map (stp x):=bGo hx (by rw[hz,j2,hh]);have e2:bQ (λk x a=>jV (decide (0<k)) x a) k (x::l) (a++[z])=bQ (λk x a=>jV (decide (0<k)) x a) (k+1) l (jV true x (a++[z])):=by
    show bQ _ (k+1) l (jV (decide (0<k)) x (a++[z]))=_;rw[zX hk]
   rcases gF (((h.1,z.2.1,pEg x h):den mR)::hs.map (stp x)) with h0 | ⟨m,w,hm⟩
   .cases h0
   .have hw:w.1=(aBo x).1:=by
     have hl:(((h.1,z.2.1,pEg x h):den mR)::hs.map (stp x)).getLast? =some w:=by rw[hm];exact cGs
     unfold aBo;rw[hx];rcases gF hs with rfl | ⟨hs',h',rfl⟩
     .simp only[List.map_nil,List.getLast?_singleton,Option.some.injEq]at hl;rw[<- hl];rfl
     .rw[cGi]at hl;have :((h.1,z.2.1,pEg x h):den mR)::(hs'.map (stp x)++[h'].map (stp x))=(((h.1,z.2.1,pEg x h):den mR)::hs'.map (stp x))++[stp x h']:=rfl;rw[this,cGs,Option.some.injEq]at hl;rw[<- hl];have :(h::(hs'++[h'])).length - 1=hs'.length+1:=by simp
      rw[this,List.getElem?_cons_succ,cHi (cE8 _),Nat.sub_self];rfl
    obtain⟨b,w',r1,r2,r3⟩:=bAr l x (k+1) (a++m) w (Nat.succ_pos k) j3 hw;refine⟨b,w',?_,?_,?_⟩
    .rw[e2,e1,hm,<- cFk];exact r1
    .rw[r2];have e3:eOf m=(egs x).dropLast:=by
      have :eOf (m++[w])=egs x:=by
       rw[<- hm];unfold egs eOf;rw[hx];simp only[List.map_cons,cHh];rfl
      rw[<- this];unfold eOf;rw[cGi,List.map_singleton,cG9]
     show eOf (a++m)++oQ l=eOf a++((egs x).dropLast++oQ l);unfold eOf at e3 ⊢;rw[cGi,e3,cFk]
    .rw[r3];have e4:iOf (m++[w])=(z.1,z.2.1)::(ins x).tail:=by
      rw[<- hm];unfold ins iOf;rw[hx];simp only[List.map_cons,cHh,List.tail_cons];rw[show (z.1:Int)=h.1 by rw[hz,j2,hh]];rfl
     show iOf (a++m++[w])++aFs l=iOf (a++[z])++((ins x).tail++aFs l);have e5:iOf (a++m++[w])=iOf a++iOf (m++[w]):=by unfold iOf;rw[cFk,cGi]
     have e6:iOf (a++[z])=iOf a++[(z.1,z.2.1)]:=by unfold iOf;rw[cGi];rfl
     rw[e5,e4,e6,cFk,cFk];rfl
theorem aZn{t:den tTo}{p:lPp}(h:aOq t p)(hp:p≠[]):∃r r':Int,eOf (fD p)=oQ p++[(r,0)]/\iOf (fD p)=(r',0)::aFs p:=by
 cases p with
 | nil=>exact absurd rfl hp
 | cons x l=>
  have vx:fO t x=true:=by cases l with
   | nil=>exact h
   | cons _ _=>exact h.1
  have hpos:=zG vx;rcases gF (x.2.2.2.map (stp x)) with h0 | ⟨a,z,hz⟩
  .rw[List.map_eq_nil_iff]at h0;rw[h0]at hpos;exact absurd hpos (by decide)
  .have hzl:z.1=(aBo x).1:=by
    rcases gF x.2.2.2 with e | ⟨hs,h',e⟩
    .rw[e]at hpos;exact absurd hpos (by decide)
    .have hl:(x.2.2.2.map (stp x)).getLast? =some z:=by rw[hz];exact cGs
     rw[e,cGi,List.map_singleton,cGs,Option.some.injEq]at hl;rw[<- hl];unfold aBo;rw[e,cFj,cGe,cH9,cHi (cE8 _),Nat.sub_self];rfl
   obtain⟨b,w,r1,r2,r3⟩:=bAr l x 1 a z (by decide) h hzl;have e0:aAs (x::l)=b++[w]:=by
    show bQ _ 1 l (jV false x [])=_;rw[bC5,hz];exact r1
   have e3:eOf a=(egs x).dropLast:=by
    have :eOf (a++[z])=egs x:=by
     rw[<- hz];unfold egs eOf;simp only[cHh];rfl
    rw[<- this];unfold eOf;rw[cGi,List.map_singleton,cG9]
   have e4:iOf (a++[z])=ins x:=by
    rw[<- hz];unfold ins iOf;simp only[cHh];rfl
   have hb:eOf b=oQ (x::l):=by rw[r2,e3];rfl
   have hi:(iOf (b++[w])).tail=aFs (x::l):=by
    rw[r3,e4];cases hx:x.2.2.2 with
    | nil=>rw[hx]at hpos;exact absurd hpos (by decide)
    | cons h' hs'=>
     show ((ins x)++aFs l).tail=(ins x).tail++aFs l;unfold ins;rw[hx];rfl
   unfold fD;rw[e0];cases b with
   | nil=>
    refine⟨w.1,w.1,?_,?_⟩
    .rw[<- hb];rfl
    .rw[<- hi];rfl
   | cons c b=>
    have e5:aFv (c::b++[w])=(c.1,0,c.2.2)::b++[(w.1,w.2.1,0)]:=by
     unfold aFv;simp only[cHs];rw[show (((c.1,0,c.2.2):den mR)::(b++[w]))=(((c.1,0,c.2.2):den mR)::b)++[w] from rfl,cGs];simp only[cG9];rfl
    rw[e5];refine⟨w.1,c.1,?_,?_⟩
    .rw[<- hb];unfold eOf;simp
    .rw[<- hi];unfold iOf;simp
def num(x:Int×Int):Int:=wr (wr (8 * x.1)+x.2)
def aU8(s:den mR):List Int:=(cond (s.2.1 != 0) [num (s.1,s.2.1)] [])++(cond (s.2.2 != 0) [num (s.1,s.2.2)] [])
theorem bCm(p:den tPt):fC p=(fD p).flatMap aU8:=by
 unfold fC;have :∀(l:bV) (k:Nat) (a:List Int),bQ (λ_ s a=>aG5 s a) k l a=a++l.flatMap aU8:=by
  intro l
  induction l with
  | nil=>intro k a;exact (cFv a).symm
  | cons s l ih=>
   intro k a;show bQ _ (k+1) l (aG5 s a)=_;rw[ih,cH8];unfold aG5 aU8 num;cases s.2.1 != 0<;>cases s.2.2 != 0<;>simp
 exact (this _ _ _).trans (cFl _)
theorem bCq:∀l:bV,cHp (((eOf l).filter λx=>x.2 != 0).map num) (l.flatMap aU8)
 | []=>cHp.slnil
 | s::l=>by
  have ih:=bCq l;rw[cH8];unfold aU8;rw[cFk];refine cHp.trans ?_ (List.sublist_append_right _ _);show cHp ((((s.1,s.2.2)::eOf l).filter λx=>x.2 != 0).map num) _;rw[cHm];cases h:(s.2.2 != 0) with
  | true=>
   simp only[zV];exact cHp.cons_cons _ ih
  | false=>
   simp only[cE1,zU];exact ih
theorem aLl{t:den tTo}:∀{p:lPp},aOq t p-> ∀x∈p,fO t x=true
 | [],_,x,hx=>by cases hx
 | [y],h,x,hx=>by rw[cE3]at hx;rw[hx];exact h
 | y::z::l,h,x,hx=>by
  rcases cEy.1 hx with rfl | hx
  .exact h.1
  .exact aLl h.2.2 x hx
theorem bXd{t:den tTo}{x:den tPp}(h:fO t x=true){y:Int×Int}(hy:y∈(egs x).dropLast):(y.2 != 0)=true:=by
 obtain⟨k,hk,e⟩:=List.getElem_of_mem hy;rw[List.getElem_dropLast]at e;unfold egs at e hk;rw[cIf,cFt]at hk;rw[List.getElem_map]at e;obtain⟨_,hl⟩:=aZ0 h (cEx (show k+1<x.2.2.2.length by omega));rcases hl with hl | hl
 .omega
 .unfold aI1 at hl;rw[cEw,cH9,cEx (show k<x.2.2.2.length by omega)]at hl;rw[<- e];exact hl.1
theorem bBq{t:den tTo}:∀{p:lPp},(∀x∈p,fO t x=true)-> ∀y∈oQ p,(y.2 != 0)=true
 | [],_,y,hy=>by cases hy
 | x::l,h,y,hy=>by
  rcases cE4.1 hy with hy | hy
  .exact bXd (h x (cFb ..)) hy
  .exact bBq (λz hz=>h z (cE7 _ hz)) y hy
theorem aZq{t:den tTo}{p:lPp}(h:qQ t p=true):(oQ p).Nodup:=by
 have hw:=aHz h;have hj:=aP7 hw
 by_cases hp:p=[]
 .subst hp;exact List.nodup_nil
 .obtain⟨r,r',e1,e2⟩:=aZn hj hp;unfold qQ at h;have h:=(cEw _ _▸h:_/\_).2;have h:=(zI (aDs (fC p)) (fC p)).1 h;have hn:(fC p).Nodup:=by
   refine cG5.2 λi j hi hj hij e=> ?_
   have a:=h j _ (cEx hj);unfold aDs at a;have :rV ((fC p).take j) (fC p)[j]=true:=by
    rw[aZv];refine cE9 (i:=i) ?_;rw[List.getElem?_take_of_lt hij,cEx hi,e]
   rw[this]at a;cases a
  rw[bCm]at hn;have s:=bCq (fD p);rw[e1,List.filter_append,List.filter_eq_self.2 (bBq (aLl hj))]at s;have s:=s.nodup hn;rw[cGi]at s;have s:=(cF3.1 s).1;exact cH1.of_map _ (λa b hab e=>hab (by rw[e])) s
theorem bWt{t:den tTo}{p:lPp}(h:wfP t p=true){n:Int}(hn:n∈fC p):∃x,(x∈oQ p\/x∈aFs p)/\n=num x:=by
 have hj:=aP7 h
 by_cases hp:p=[]
 .subst hp;cases hn
 .obtain⟨r,r',e1,e2⟩:=aZn hj hp;rw[bCm,List.mem_flatMap]at hn;obtain⟨s,hs,hn⟩:=hn;unfold aU8 at hn;have me:(s.1,s.2.2)∈eOf (fD p):=cE5.2 ⟨s,hs,rfl⟩;have mi:(s.1,s.2.1)∈iOf (fD p):=cE5.2 ⟨s,hs,rfl⟩;rw[e1,cE4,cE3]at me;rw[e2,cEy]at mi;rcases cE4.1 hn with hn | hn
  .cases c:(s.2.1 != 0) with
   | false=>rw[c]at hn;cases hn
   | true=>
    rw[c]at hn;refine⟨_,.inr (mi.elim (λe=> ?_) id),cE3.1 hn⟩;have :s.2.1=0:=(Prod.ext_iff.1 e).2;rw[this]at c;cases c
  .cases c:(s.2.2 != 0) with
   | false=>rw[c]at hn;cases hn
   | true=>
    rw[c]at hn;refine⟨_,.inl (me.elim id λe=> ?_),cE3.1 hn⟩;have :s.2.2=0:=(Prod.ext_iff.1 e).2;rw[this]at c;cases c
theorem bQi{t:den tTo}{x:den tPp}(h:fO t x=true):egs (pJ x)=(ins x).reverse:=by
 have hk:∀y,pEg (pJ x) y=pIn x y:=λy=>by
  unfold fO at h;simp only[cEw]at h;obtain⟨a,b⟩:=aZ.1 h.2.1;have e:hZ (pJ x).1= !hZ x.1:=by
   have key:∀k:Int,1<=k->k<=4->hZ (aLa k)= !hZ k:=by
    intro k h1 h2;have :k=1\/k=2\/k=3\/k=4:=by omega
    rcases this with e | e | e | e<;>rw[e]<;>decide
   exact key _ a b
  unfold pEg pIn;rw[e];cases hZ x.1<;>rfl
 unfold egs ins;rw[show (pJ x).2.2.2=x.2.2.2.reverse from rfl,List.map_reverse];congr 1;exact List.map_congr_left λy _=>by rw[hk]
theorem bA8{t:den tTo}:∀{p:lPp},(∀x∈p,fO t x=true)-> ∀y∈aFs p,y∈oQ (jS p)
 | [],_,y,hy=>by cases hy
 | x::l,h,y,hy=>by
  have e:jS (x::l)=jS l++[pJ x]:=by unfold jS;rw[cIe,cGi];rfl
  rw[e,aQo,cE4];rcases cE4.1 hy with hy | hy
  .refine .inr ?_;show y∈(egs (pJ x)).dropLast++[];rw[cFv,bQi (h x (cFb ..))];cases hc:ins x with
   | nil=>rw[hc]at hy;cases hy
   | cons a b=>
    rw[hc]at hy;rw[cIe,cG9];exact List.mem_reverse.2 hy
  .exact .inl (bA8 (λz hz=>h z (cE7 _ hz)) y hy)
def aIb(x:Int×Int):Prop:=0<=x.1/\x.1<=7/\0<=x.2/\x.2<=6
theorem bMu{x:Int×Int}(h:aIb x):num x=8 * x.1+x.2:=by
 obtain⟨a,b,c,d⟩:=h;unfold num;rw[show wr (8 * x.1)=8 * x.1 from wri (by omega) (by omega)];exact wri (by omega) (by omega)
theorem bWl{x y:Int×Int}(hx:aIb x)(hy:aIb y)(h:num x=num y):x=y:=by
 rw[bMu hx,bMu hy]at h;obtain⟨a,b,c,d⟩:=hx;obtain⟨a',b',c',d'⟩:=hy;exact Prod.ext (by omega) (by omega)
theorem aXc{t:den tTo}{x:den tPp}(h:fO t x=true){y:den bU}(hy:y∈x.2.2.2):aIb (y.1,pEg x y)/\aIb (y.1,pIn x y):=by
 unfold fO at h;simp only[cEw]at h;obtain⟨_,_,_,_,h5,_⟩:=h;obtain⟨k,hk,e⟩:=List.getElem_of_mem hy;have a:=(zI (aDe t x.2.2.2) x.2.2.2).1 h5 k y (by rw[<- e];exact cEx hk);unfold aDe jW at a;simp only[cEw]at a;obtain⟨⟨a1,a2,a3,_⟩,_⟩:=a;obtain⟨b1,b2⟩:=aZ.1 a1;obtain⟨b3,b4⟩:=aZ.1 a2;obtain⟨b5,b6⟩:=aZ.1 a3;unfold pEg pIn aIb;cases hZ x.1
 .exact⟨⟨b1,b2,b5,b6⟩,⟨b1,b2,b3,b4⟩⟩
 .exact⟨⟨b1,b2,b3,b4⟩,⟨b1,b2,b5,b6⟩⟩
theorem bB6{t:den tTo}:∀{p:lPp},(∀x∈p,fO t x=true)-> ∀y,(y∈oQ p\/y∈aFs p)->aIb y
 | [],_,y,hy=>by rcases hy with hy | hy<;>cases hy
 | x::l,h,y,hy=>by
  have hx:=h x (cFb ..);have ih:=bB6 (p:=l) (λz hz=>h z (cE7 _ hz)) y;rcases hy with hy | hy
  .rcases cE4.1 hy with hy | hy
   .have :=List.dropLast_subset _ hy;unfold egs at this;obtain⟨z,hz,rfl⟩:=cE5.1 this;exact (aXc hx hz).1
   .exact ih (.inl hy)
  .rcases cE4.1 hy with hy | hy
   .have :=List.mem_of_mem_tail hy;unfold ins at this;obtain⟨z,hz,rfl⟩:=cE5.1 this;exact (aXc hx hz).2
   .exact ih (.inr hy)
def cA3(t:den tTo)(now:Int)(dead:List Int):Nat->Int->Int->den tPk->Prop
 | 0,_,_,_=>False
 | n+1,r,inn,p=>(aG t now dead r inn p).1=1\/((aG t now dead r inn p).1=0/\cA3 t now dead n (remote t r (aG t now dead r inn p).2.1).1 (remote t r (aG t now dead r inn p).2.1).2 (aG t now dead r inn p).2.2.1)
def Arr(t:den tTo)(now:Int)(dead:List Int)(r inn:Int)(p:den tPk):Prop:= ∃n,cA3 t now dead n r inn p
theorem Arr.here{t:den tTo}{now:Int}{dead:List Int}{r inn:Int}{p:den tPk}(h:(aG t now dead r inn p).1=1):Arr t now dead r inn p:=⟨1,.inl h⟩
theorem Arr.step{t:den tTo}{now:Int}{dead:List Int}{r inn:Int}{p:den tPk}(h:(aG t now dead r inn p).1=0)(k:Arr t now dead (remote t r (aG t now dead r inn p).2.1).1 (remote t r (aG t now dead r inn p).2.1).2 (aG t now dead r inn p).2.2.1):Arr t now dead r inn p:=by
 obtain⟨n,k⟩:=k;exact⟨n+1,.inr ⟨h,k⟩⟩
theorem Arr.or{t:den tTo}{now:Int}{dead:List Int}{r inn:Int}{p:den tPk}(h:Arr t now dead r inn p):(aG t now dead r inn p).1=1\/((aG t now dead r inn p).1=0/\Arr t now dead (remote t r (aG t now dead r inn p).2.1).1 (remote t r (aG t now dead r inn p).2.1).2 (aG t now dead r inn p).2.2.1):=by
 obtain⟨n,h⟩:=h;cases n with
 | zero=>exact h.elim
 | succ n=>exact h.elim .inl λe=> .inr ⟨e.1,n,e.2⟩
theorem Arr.ind{t:den tTo}{now:Int}{dead:List Int}{M:Int->Int->den tPk->Prop}(h1:∀r inn p,(aG t now dead r inn p).1=1->M r inn p)
  (h2:∀r inn p,(aG t now dead r inn p).1=0->Arr t now dead (remote t r (aG t now dead r inn p).2.1).1 (remote t r (aG t now dead r inn p).2.1).2 (aG t now dead r inn p).2.2.1->M (remote t r (aG t now dead r inn p).2.1).1 (remote t r (aG t now dead r inn p).2.1).2 (aG t now dead r inn p).2.2.1->M r inn p)
  {r inn:Int} {p:den tPk} (h:Arr t now dead r inn p):M r inn p:=by
 obtain⟨n,h⟩:=h
 induction n generalizing r inn p with
 | zero=>exact h.elim
 | succ n ih=>
  rcases h with h | ⟨h,k⟩
  .exact h1 _ _ _ h
  .exact h2 _ _ _ h ⟨n,k⟩ (ih k)
theorem bBe{t:den tTo}{now:Int}{dead:List Int}:∀(n:Nat) (r inn:Int) (p:den tPk) (st:bV),(aQh t now dead n r inn p st).1=1->Arr t now dead r inn p
 | 0,r,inn,p,st,h=>absurd (show (0:Int)=1 from h) (by decide)
 | n+1,r,inn,p,st,h=>by
  unfold aQh at h;cases c1:(aG t now dead r inn p).1==1 with
  | true=>exact .here (eq_of_beq c1)
  | false=>
   cases c0:(aG t now dead r inn p).1==0 with
   | true=>
    rw[c0,c1]at h;simp only[Bool.true_or,zV,cE1,zU]at h;exact .step (eq_of_beq c0) (bBe n _ _ _ _ h)
   | false=>
    rw[c0,c1]at h;simp only[cGn,cE1,zU]at h;rw[h]at c1;exact absurd c1 (by decide)
theorem bEk{t:den tTo}{a n b:Int}(h1:a<=n)(h2:n<=b){p:den tPk}(ha:cN t a p=0)(hb:cN t b p=0):cN t n p=0:=by
 unfold cN at ha hb ⊢;split at ha
 .rename_i hs;rw[zT hs]at hb ⊢;split at ha
  .rename_i ta;split at hb
   .rename_i tb;have :zF p n=true:=by
     unfold zF at ta tb ⊢;simp only[cEw,cFu,decide_eq_false_iff_not,zR]at ta tb ⊢;exact⟨ta.1,leI (cGa ta.2.1 h1),leI (cGa h2 tb.2.2)⟩
    rw[zT this]
   .exact absurd hb (show ¬ (5:Int)=0 by decide)
  .exact absurd ha (show ¬ (5:Int)=0 by decide)
 .exact absurd ha (show ¬ (4:Int)=0 by decide)
theorem bDu{t:den tTo}{a n b:Int}(h1:a<=n)(h2:n<=b):∀(k:Nat) (p:den tPk),(goC t a k p).1=0->(goC t b k p).1=0->goC t n k p=goC t a k p
 | 0,p,ha,hb=>by
  unfold goC at ha hb ⊢;rw[bEk h1 h2 ha hb,show cN t a p=0 from ha]
 | k+1,p,ha,hb=>by
  have ca:=yH ha;have cb:=yH hb;have cn:=bEk h1 h2 ca cb;unfold goC at ha hb ⊢;rw[ca]at ha ⊢;rw[cb]at hb;rw[cn];split at ha
  .rename_i hc;rw[zT hc]at hb ⊢;rw[zT hc];exact bDu h1 h2 k _ ha hb
  .rename_i hc;rw[zS hc];exact (zS hc).symm
theorem aQ3{t:den tTo}{a n b:Int}(h1:a<=n)(h2:n<=b){dead:List Int}{r inn:Int}{p:den tPk}(ha:(aG t a dead r inn p).1=0\/(aG t a dead r inn p).1=1)(hb:(aG t b dead r inn p).1=0\/(aG t b dead r inn p).1=1):aG t n dead r inn p=aG t a dead r inn p:=by
 have ga:=(xR (t:=t) (r:=r) (now:=a) (dead:=dL t dead r) (inn:=inn) (p:=p) (ha.elim .inl λe=> .inr (.inl e))).go;have gb:=(xR (t:=t) (r:=r) (now:=b) (dead:=dL t dead r) (inn:=inn) (p:=p) (hb.elim .inl λe=> .inr (.inl e))).go;have e:bB t n p=bB t a p:=bDu h1 h2 _ p ga gb;unfold aG fwd;rw[e]
theorem Arr.code{t:den tTo}{now:Int}{dead:List Int}{r inn:Int}{p:den tPk}(h:Arr t now dead r inn p):(aG t now dead r inn p).1=0\/(aG t now dead r inn p).1=1:=by
 exact h.or.elim .inr λe=> .inl e.1
theorem Arr.mid{t:den tTo}{a n b:Int}(h1:a<=n)(h2:n<=b){dead:List Int}{r inn:Int}{p:den tPk}(ha:Arr t a dead r inn p)(hb:Arr t b dead r inn p):Arr t n dead r inn p:=by
 refine Arr.ind (M:=λr inn p=>Arr t b dead r inn p->Arr t n dead r inn p) (λr inn p h hb=> ?_) (λr inn p h k ih hb=> ?_) ha hb
 .have e:=aQ3 h1 h2 (.inr h) hb.code;exact .here (by rw[e];exact h)
 .have e:=aQ3 h1 h2 (.inl h) hb.code;have e2:=aQ3 (cGa h1 h2) (cFx b) (.inl h) hb.code;refine .step (by rw[e];exact h) ?_;rw[e];rcases hb.or with g | ⟨g,kb⟩
  .rw[e2,h]at g;exact absurd g (by decide)
  .rw[e2]at kb;exact ih kb
def oS(p:den tPk)(m:Int×Int×Int×List Int):den tPk:=(m.1,p.2.1,p.2.2.1,p.2.2.2.1,p.2.2.2.2.1,p.2.2.2.2.2.1,p.2.2.2.2.2.2.1,m.2.1,m.2.2.1,m.2.2.2)
def okM(m:Int×Int×Int×List Int):Bool:=inR m.1 1 3&&(inR m.2.1 0 100000&&(inR m.2.2.1 0 100000&&decide ((m.2.2.2.length:Int)<=40)))
theorem bOw{p:den tPk}{m:Int×Int×Int×List Int}(h:dC p=true)(hm:okM m=true):dC (oS p m)=true:=by
 unfold dC at h|-;unfold okM at hm;simp only[cEw]at h hm ⊢;exact⟨hm.1,h.2.1,h.2.2.1,h.2.2.2.1,h.2.2.2.2.1,h.2.2.2.2.2.1,h.2.2.2.2.2.2.1,hm.2.1,hm.2.2.1,hm.2.2.2⟩
theorem aTe(t:den tTo)(p:den tPk)(m:Int×Int×Int×List Int):aT t (oS p m)=oS (aT t p) m:=by
 have e:aBe t (oS p m)=aBe t p:=rfl;unfold aT;rw[e];split<;>rfl
theorem bEe(p:den tPk)(m:Int×Int×Int×List Int):adv (oS p m)=oS (adv p) m:=by
 have e1:cD (oS p m)=cD p:=rfl;have e2:dG (oS p m)=dG p:=rfl;have e3:cQ (oS p m)=cQ p:=rfl;unfold adv;rw[e1,e2,e3];split
 .rfl
 .split<;>rfl
theorem bEg{t:den tTo}{now:Int}(m:Int×Int×Int×List Int):∀(n:Nat) (p:den tPk),goC t now n (oS p m)=((goC t now n p).1,oS (goC t now n p).2 m)
 | 0,p=>by
  unfold goC;rw[aTe];rfl
 | n+1,p=>by
  have e:cN t now (oS p m)=cN t now p:=rfl;have e2:cQ (oS (aT t p) m)=cQ (aT t p):=rfl;have e3:dG (oS (aT t p) m)=dG (aT t p):=rfl;unfold goC;rw[aTe,e,e2,e3,bEe,bEg m n];split<;>rfl
theorem bYj{t:den tTo}{r now dead inn:Int}{p:den tPk}{m:Int×Int×Int×List Int}(h:dC p=true)(hm:dC (oS p m)=true):fwd t r now dead inn (oS p m)=((fwd t r now dead inn p).1,(fwd t r now dead inn p).2.1,oS (fwd t r now dead inn p).2.2.1 m,(fwd t r now dead inn p).2.2.2):=by
 have g:bB t now (oS p m)=((bB t now p).1,oS (bB t now p).2 m):=bEg m _ p;have e1:cD (oS p m)=cD p:=rfl;have e2:aGg (oS p m)=aGg p:=rfl;have e3:∀q,dG (oS q m)=dG q:=λ_=>rfl
 have e4:∀q,pEg (bM (oS q m)) (cW (oS q m))=pEg (bM q) (cW q):=λ_=>rfl
 have e5:∀q:den tPk,(oS q m).2.2.1=q.2.2.1:=λ_=>rfl
 have e6:(oS p m).2.2.2.1=p.2.2.2.1:=rfl;unfold fwd;rw[h,hm,g,e1,e2,e6];simp only[e3,e4,e5,bEe]
 repeat' split
 all_goals rfl
theorem bAh{t:den tTo}{now:Int}{dead:List Int}{r inn:Int}{p:den tPk}{m:Int×Int×Int×List Int}(h:dC p=true)(hm:okM m=true):aG t now dead r inn (oS p m)=((aG t now dead r inn p).1,(aG t now dead r inn p).2.1,oS (aG t now dead r inn p).2.2.1 m,(aG t now dead r inn p).2.2.2):=bYj h (bOw h hm)
theorem Arr.thru{t:den tTo}{now:Int}{dead:List Int}{r inn:Int}{p:den tPk}(h:Arr t now dead r inn p):cAq t r now (dL t dead r) inn p:=xR (h.code.elim .inl λe=> .inr (.inl e))
theorem Arr.set{t:den tTo}{now:Int}{dead:List Int}{r inn:Int}{p:den tPk}{m:Int×Int×Int×List Int}(hm:okM m=true)(h:Arr t now dead r inn p):Arr t now dead r inn (oS p m):=by
 refine Arr.ind (M:=λr inn p=>Arr t now dead r inn (oS p m)) (λr inn p h=> ?_) (λr inn p h k ih=> ?_) h
 .have e:=bAh (now:=now) (dead:=dead) (r:=r) (inn:=inn) (Arr.here h).thru.val hm (t:=t);exact .here (by rw[e];exact h)
 .have e:=bAh (now:=now) (dead:=dead) (r:=r) (inn:=inn) (Arr.step h k).thru.val hm (t:=t);refine .step (by rw[e];exact h) ?_;rw[e];exact ih
theorem aH3{t:den tTo}{now:Int}{dead:List Int}{p:den tPt}(h:aDc t now dead p=true):Arr t now dead (ends p).1 0 (dM 1 p 0 0 []):=bBe 30 _ _ _ _ (eq_of_beq h)
theorem Arr.alive{t:den tTo}{now:Int}{dead:List Int}{r inn:Int}{p:den tPk}(h:Arr t now dead r inn p):∀x∈fut p,aBj (dL t dead x.1) x.2=false:=by
 refine Arr.ind (M:=λr inn p=> ∀x∈fut p,aBj (dL t dead x.1) x.2=false) (λr inn p h=> ?_) (λr inn p h k ih=> ?_) h
 .intro x hx;have th:=xR (t:=t) (r:=r) (now:=now) (dead:=dL t dead r) (inn:=inn) (p:=p) (.inr (.inl h));have h:(fwd t r now (dL t dead r) inn p).1=1:=h;have :fut p=[]:=by
   obtain⟨g1,g2,g3⟩:=aWa (aHz th.sim) th.go;have b:fut (bB t now p).2=fut p:=aU2 _ p th.go;have hl:dG (bB t now p).2=true:=by
    unfold fwd at h;split at h
    .exact absurd h (show ¬ ((2:Int)=1) by decide)
    split at h
    .exact absurd h (show ¬ ((3:Int)=1) by decide)
    split at h
    .rw[th.go]at h;exact absurd h (show ¬ ((0:Int)=1) by decide)
    split at h
    .rename_i c;exact c
    split at h
    .exact absurd h (show ¬ ((6:Int)=1) by decide)
    split at h
    .exact absurd h (show ¬ ((7:Int)=1) by decide)
    .exact absurd h (show ¬ ((0:Int)=1) by decide)
   obtain⟨q1,q2,_⟩:=aBv (t:=t) (now:=now) (p.2.2.2.1.length - p.2.2.2.2.1.toNat) p th.go;obtain⟨i,j,f1,f2,f3,f4,f5,f6⟩:=bAt (p:=(bB t now p).2) q1;unfold dG cQ aE0 at hl;simp only[cEw]at hl;obtain⟨_,h1,h2⟩:=hl;rw[f2]at h1;rw[f1]at h2;have h1:(j:Int)=((bM (bB t now p).2).2.2.2.length:Int) - 1:=eq_of_beq h1;have h2:(i:Int)=((bB t now p).2.2.2.2.1.length:Int) - 1:=eq_of_beq h2;rw[<- b,f5];have a1:(egs (bM (bB t now p).2)).dropLast.drop j=[]:=by
    rw[List.drop_eq_nil_iff];unfold egs;rw[cIf,cFt];omega
   have a2:List.drop (i+1) (bB t now p).2.2.2.2.1=[]:=by
    rw[List.drop_eq_nil_iff];omega
   rw[a1,a2];rfl
  rw[this]at hx;cases hx
 .obtain⟨e1,e2⟩:=bD6 (t:=t) (r:=r) (now:=now) (dead:=dL t dead r) (inn:=inn) (p:=p) h;intro x hx;rw[e1]at hx;rcases cEy.1 hx with rfl | hx
  .exact e2
  .exact ih x hx
theorem aRr{l:lUs}{id s d i' s' d':Int}(h: ¬ (id=i'/\s=s'/\d=d')):dH (rG l id s d) i' s' d'=dH l i' s' d':=by
 have hx:iW i' s' d' (id,s,d,1)=false:=by
  cases c:iW i' s' d' (id,s,d,1) with
  | false=>rfl
  | true=>exact absurd (aBd.1 c) (λ⟨a,b,c⟩=>h ⟨a,b,c⟩)
 rcases aJ8 l id s d with ⟨_,_,_,h4⟩ | ⟨j,x,_,h2,h3,_,h5⟩
 .rw[h4];unfold dH;rw[aM1];rcases aKt l i' s' d' with ⟨p1,_⟩ | ⟨k,y,p1,p2,_⟩
  .rw[p1,zT (show (-1:Int)<0 by decide),zT (show (-1:Int)<0 by decide)];have :plc i' s' d' l.length [((id,s,d,1):den tUs)]= -1:=by
    unfold plc;rw[hx];rfl
   rw[this];rfl
  .simp only[p1,zS (show ¬ (k:Int)<0 by omega),cE0,cIb (cEz.1 p2).1]
 .rw[h5];unfold dH;rw[aK9 (aPq h2 _)];rcases aKt l i' s' d' with ⟨p1,_⟩ | ⟨k,y,p1,p2,p3⟩
  .rw[p1];rfl
  .simp only[p1,zS (show ¬ (k:Int)<0 by omega),cE0]
   by_cases hk:j=k
   .subst hk;rw[h2]at p2;injection p2 with p2;subst p2;obtain⟨a1,a2,a3⟩:=aBd.1 h3;obtain⟨b1,b2,b3⟩:=aBd.1 p3;exact absurd ⟨a1.symm.trans b1,a2.symm.trans b2,a3.symm.trans b3⟩ h
   .rw[cH5 hk]
noncomputable def mM(d:Int×Int)(p:den tPk):Nat:=(if d∈fut p then 1 else 0)+(if p.1==1 then 1 else 0)
noncomputable def aIt(d:Int×Int):lFy->Nat
 | []=>0
 | x::l=>mM d x.2.2+aIt d l
theorem aWi(d:Int×Int):∀(l:lFy) (x:den tFy),aIt d (l++[x])=aIt d l+mM d x.2.2
 | [],x=>by show mM d x.2.2+0=0+mM d x.2.2;omega
 | y::l,x=>by
  show mM d y.2.2+aIt d (l++[x])=mM d y.2.2+aIt d l+mM d x.2.2;rw[aWi d l x];omega
theorem aTo(d:Int×Int)(p:den tPk):mM d p<=2:=by
 unfold mM;split<;>split<;>decide
theorem aKy{d:Int×Int}{p:den tPk}(h:(p.1==(1:Int))=false):mM d p<=1:=by
 unfold mM;rw[h];split<;>decide
theorem aHy{d:Int×Int}{p:den tPk}(h:(p.1==(1:Int))=true):1<=mM d p:=by
 unfold mM;rw[h];split<;>decide
structure Mid (t:den tTo) (τ:Int) (dead:List Int) (e:Int×Int->Nat) (m:Nat) (w:den tNw):Prop where
 top:nT w=t
 now:aI w=τ
 dead:aJ w=dead
 cap:∀s d:Int,6<=free (nG w).2.1 (nG w).1 s d τ
 bud:∀d:Int×Int,dH (nG w).2.2 0 d.1 d.2+((aIt d (aH w)+e d:Nat):Int)<=6
 low:∀d:Int×Int,0<=dH (nG w).2.2 0 d.1 d.2
 len:(aH w).length+m<=4
theorem Mid.mono{t:den tTo}{τ:Int}{dead:List Int}{e e':Int×Int->Nat}{m m':Nat}{w:den tNw}(h:Mid t τ dead e m w)(he:∀d,e' d<=e d)(hm:m'<=m):Mid t τ dead e' m' w:=
 ⟨h.top,h.now,h.dead,h.cap,λd=>by have :=h.bud d;have :=he d;omega,h.low,by have :=h.len;omega⟩
theorem Mid.flows{t:den tTo}{τ:Int}{dead:List Int}{e:Int×Int->Nat}{m:Nat}{w:den tNw}(h:Mid t τ dead e m w)(l:lFl):Mid t τ dead e m (bS w l):=⟨h.top,h.now,h.dead,h.cap,h.bud,h.low,h.len⟩
theorem Mid.box{t:den tTo}{τ:Int}{dead:List Int}{e:Int×Int->Nat}{m:Nat}{w:den tNw}(h:Mid t τ dead e m w)(k:Nat)(x:den tIb):Mid t τ dead e m (oB w k x):=⟨h.top,h.now,h.dead,h.cap,h.bud,h.low,h.len⟩
theorem Mid.drop{t:den tTo}{τ:Int}{dead:List Int}{e:Int×Int->Nat}{m:Nat}{w:den tNw}(h:Mid t τ dead e m w):Mid t τ dead e m (wX w):=⟨h.top,h.now,h.dead,h.cap,h.bud,h.low,h.len⟩
theorem Mid.send{t:den tTo}{τ:Int}{dead:List Int}{e:Int×Int->Nat}{m:Nat}{w:den tNw}{r inn:Int}{p:den tPk}(h:Mid t τ dead (λd=>mM d p+e d) (m+1) w)(hc:(aG t τ dead r inn p).1=0):
  aH (gM w r (aG t τ dead r inn p).2.1 (aG t τ dead r inn p).2.2.1)=aH w++[((remote t r (aG t τ dead r inn p).2.1).1,(remote t r (aG t τ dead r inn p).2.1).2,(aG t τ dead r inn p).2.2.1)]/\
  aB (gM w r (aG t τ dead r inn p).2.1 (aG t τ dead r inn p).2.2.1)=aB w/\aS (gM w r (aG t τ dead r inn p).2.1 (aG t τ dead r inn p).2.2.1)=aS w/\dN (gM w r (aG t τ dead r inn p).2.1 (aG t τ dead r inn p).2.2.1)=dN w/\
  Mid t τ dead e m (gM w r (aG t τ dead r inn p).2.1 (aG t τ dead r inn p).2.2.1):=by
 have th:=xR (t:=t) (r:=r) (now:=τ) (dead:=dL t dead r) (inn:=inn) (p:=p) (.inl hc);obtain⟨f1,_⟩:=bD6 (t:=t) (r:=r) (now:=τ) (dead:=dL t dead r) (inn:=inn) (p:=p) hc;have f1:fut p=(r,(aG t τ dead r inn p).2.1)::fut (aG t τ dead r inn p).2.2.1:=f1;obtain⟨fk,_⟩:=aAh t r τ (dL t dead r) inn p;have fk:(aG t τ dead r inn p).2.2.1.1=p.1:=fk;have nd:(fut p).Nodup:=by
  obtain⟨a,ea⟩:=bJi p;have :=aZq th.sim;rw[ea]at this;exact (cF3.1 this).2.1
 rw[f1,List.nodup_cons]at nd;generalize hp':(aG t τ dead r inn p).2.2.1=p' at *;generalize hg:(aG t τ dead r inn p).2.1=eg at *;have one:mM (r,eg) p=1+mM (r,eg) p':=by
  unfold mM;rw[f1,fk,zT (cFb ..),zS nd.1];omega
 have oth:∀d,mM d p'<=mM d p:=λd=>by
  unfold mM;rw[f1,fk]
  by_cases hd:d∈fut p'
  .rw[zT hd,zT (cE7 _ hd)];exact cE8 _
  .rw[zS hd];exact cG6 (cFe _) _
 have hb:=h.bud (r,eg);have hl:=h.low (r,eg);simp only at hb hl;rw[one]at hb;have hfree:=h.cap r eg;have hlt:dH (nG w).2.2 0 r eg<oO (nG w) 0 r eg (aI w):=by
  rw[h.now];show _<free (nG w).2.1 (nG w).1 r eg τ;omega
 have hn:decide ((aH w).length<150)=true:=by have :=h.len;rw[zR];omega
 have tr:∃u,gX (nG w) p'.2.2.2.2.2.2.2.1 r eg (aI w)=((nG w).1,true,(nG w).2.1,u)/\dH u 0 r eg<=dH (nG w).2.2 0 r eg+1/\0<=dH u 0 r eg/\ ∀d:Int×Int,d≠(r,eg)->dH u 0 d.1 d.2=dH (nG w).2.2 0 d.1 d.2:=by
  have more:dH (rG (nG w).2.2 0 r eg) 0 r eg=dH (nG w).2.2 0 r eg+1:=bOo ⟨hl,by omega⟩;have far:∀d:Int×Int,d≠(r,eg)->dH (rG (nG w).2.2 0 r eg) 0 d.1 d.2=dH (nG w).2.2 0 d.1 d.2:=λd hd=>aRr λ⟨_,a,b⟩=>hd (Prod.ext a.symm b.symm)
  unfold gX
  by_cases hu:dH (nG w).2.2 p'.2.2.2.2.2.2.2.1 r eg<oO (nG w) p'.2.2.2.2.2.2.2.1 r eg (aI w)
  .rw[zT hu];refine⟨_,rfl,?_⟩
   by_cases h0:p'.2.2.2.2.2.2.2.1=(0:Int)
   .rw[h0];exact⟨by omega,by omega,far⟩
   .have :∀s d,dH (rG (nG w).2.2 p'.2.2.2.2.2.2.2.1 r eg) 0 s d=dH (nG w).2.2 0 s d:=λs d=>aRr λ⟨a,_,_⟩=>h0 a
    rw[this];exact⟨by omega,hl,λd _=>this _ _⟩
  .rw[zS hu,zT hlt];exact⟨_,rfl,by omega,by omega,far⟩
 obtain⟨u,t1,t2,t3,t4⟩:=tr;have e0:gM w r eg p'=(nT w,nK w,((nG w).1,(nG w).2.1,u),aI w,aJ w,aH w++[((remote (nT w) r eg).1,(remote (nT w) r eg).2,p')],aB w,aS w,dN w):=by
  unfold gM;rw[t1,hn];rfl
 rw[e0];refine⟨by rw[h.top],rfl,rfl,rfl,h.top,h.now,h.dead,h.cap,λd=> ?_,λd=> ?_,?_⟩
 .show dH u 0 d.1 d.2+((aIt d (aH w++[((remote (nT w) r eg).1,(remote (nT w) r eg).2,p')])+e d:Nat):Int)<=6;rw[aWi];show dH u 0 d.1 d.2+((aIt d (aH w)+mM d p'+e d:Nat):Int)<=6
  by_cases hd:d=(r,eg)
  .subst hd;show dH u 0 r eg+_<=_;omega
  .have a:=h.bud d;have b:=oth d;rw[t4 d hd];omega
 .show 0<=dH u 0 d.1 d.2
  by_cases hd:d=(r,eg)
  .subst hd;exact t3
  .rw[t4 d hd];exact h.low d
 .show (aH w++[_]).length+m<=4;have :=h.len;simp only[cFj,cGe];omega
theorem Mid.step{t:den tTo}{τ:Int}{dead:List Int}{e:Int×Int->Nat}{m:Nat}{w:den tNw}(h:Mid t τ dead e m w)(r inn:Int)(p:den tPk):aG (nT w) (aI w) (aJ w) r inn p=aG t τ dead r inn p:=by rw[h.top,h.now,h.dead]
theorem Mid.proc0{t:den tTo}{τ:Int}{dead:List Int}{e:Int×Int->Nat}{m:Nat}{w:den tNw}{r inn:Int}{p:den tPk}(h:Mid t τ dead (λd=>mM d p+e d) (m+1) w):Mid t τ dead e m (proc0 w r inn p):=by
 have h':Mid t τ dead e m w:=h.mono (λd=>cGr _ _) (cFz _);unfold Go.Proofs.YtnkjolpkcmgcaaaGreat.proc0;rw[h.step r inn p];split
 .rename_i c;exact (h.send (eq_of_beq c)).2.2.2.2
 .split
  .exact h'.flows _
  .exact h'.drop
theorem Mid.data{t:den tTo}{τ:Int}{dead:List Int}{e:Int×Int->Nat}{m:Nat}{w:den tNw}{r:Int}{p:den tPk}(h:Mid t τ dead (λd=>1+e d) (m+1) w):Mid t τ dead e m (qJ w r p):=by
 have h':Mid t τ dead e m w:=h.mono (λd=>cGr _ _) (cFz _);unfold qJ;split
 .exact h'
 .split
  .rename_i hb;refine Mid.proc0 ((h.box _ _).mono (λd=> ?_) (cE8 _));exact cG6 (aKy (aF7 hb)) _
  .exact h'.box _ _
theorem Mid.note{t:den tTo}{τ:Int}{dead:List Int}{e:Int×Int->Nat}{m:Nat}{w:den tNw}{r d:Int}{p:den tPk}(h:Mid t τ dead (λd=>1+e d) (m+1) w):Mid t τ dead e m (tA w r d p):=by
 have h':Mid t τ dead e m w:=h.mono (λd=>cGr _ _) (cFz _);unfold tA;split
 .exact (Mid.proc0 (h.mono (λd=>cG6 (aKy rfl) _) (cE8 _))).drop
 .exact (h'.flows _).drop
theorem Mid.proc{t:den tTo}{τ:Int}{dead:List Int}{e:Int×Int->Nat}{m:Nat}{w:den tNw}{r inn:Int}{p:den tPk}(h:Mid t τ dead (λd=>mM d p+e d) (m+1) w):Mid t τ dead e m (dW w r inn p):=by
 have h':Mid t τ dead e m w:=h.mono (λd=>cGr _ _) (cFz _);unfold dW;rw[h.step r inn p];split
 .rename_i c;exact (h.send (eq_of_beq c)).2.2.2.2
 .split
  .split
   .rename_i h1;exact Mid.data (h.mono (λd=>cG6 (aHy h1) _) (cE8 _))
   .exact h'.flows _
  .split
   .rename_i h1;rw[cEw]at h1;exact Mid.note (h.mono (λd=>cG6 (aHy h1.2) _) (cE8 _))
   .exact h'.drop
theorem Mid.take{t:den tTo}{τ:Int}{dead:List Int}{e:Int×Int->Nat}{m:Nat}{w:den tNw}{x:den tFy}{l:lFy}(h:Mid t τ dead e m w)(hf:aH w=x::l):Mid t τ dead (λd=>mM d x.2.2+e d) (m+1) (cC w l):=by
 refine⟨h.top,h.now,h.dead,h.cap,λd=> ?_,h.low,?_⟩
 .have a:=h.bud d;rw[hf]at a;have a:dH (nG w).2.2 0 d.1 d.2+((mM d x.2.2+aIt d l+e d:Nat):Int)<=6:=a;show dH (nG w).2.2 0 d.1 d.2+((aIt d l+(mM d x.2.2+e d):Nat):Int)<=6;omega
 .have a:=h.len;rw[hf]at a;simp only[cFw]at a;show l.length+(m+1)<=4;omega
theorem Mid.out{t:den tTo}{τ:Int}{dead:List Int}{e:Int×Int->Nat}{m:Nat}{w:den tNw}(h:Mid t τ dead e m w):Mid t τ dead e m (outW w):=by
 unfold outW;split
 .exact h
 .rename_i x l hf;exact (h.take hf).proc
theorem Mid.tickT{t:den tTo}{τ:Int}{dead:List Int}{e:Int×Int->Nat}{m:Nat}{w:den tNw}(k:Nat)(h:Mid t τ dead (λd=>2+e d) (m+1) w):Mid t τ dead e m (stepT k w):=by
 have h':Mid t τ dead e m w:=h.mono (λd=>cGr _ _) (cFz _);unfold stepT;split
 .split
  .exact Mid.proc ((h.flows _).mono (λd=>cG6 (aTo _ _) _) (cE8 _))
  .exact h'.flows _
 .exact h'
theorem bNt{w:den tNw}{t:den tTo}{τ:Int}{dead:List Int}(h1:nT w=t)(h2:aI w=τ)(h3:aJ w=dead)(hc:∀s d:Int,6<=free (nG w).2.1 (nG w).1 s d τ)(hu:(nG w).2.2=[])(hf:aH w=[]):Mid t τ dead (λ_=>2 * 3) 3 w:=by
 have u0:∀s d,dH ([]:lUs) 0 s d=0:=λ_ _=>rfl
 refine⟨h1,h2,h3,hc,λd=> ?_,λd=> ?_,?_⟩
 .rw[hu,hf,u0];show (0:Int)+((0+2 * 3:Nat):Int)<=6;decide
 .rw[hu,u0];exact cFx _
 .rw[hf];decide
def aO0(t:den tTo)(τ:Int)(dead:List Int)(p:den tPt):Prop:=Arr t τ dead (ends p).1 0 (dM 1 p 0 0 [])/\Arr t τ dead (ends (jS p)).1 0 (dM 1 (jS p) 0 0 [])
def aIl(t:den tTo)(dead:List Int)(b:List Int):Prop:= ∃r d u:Int,b=tH (r,d,u)/\aBj (dL t dead r) d=true
theorem bNn{b:List Int}{p n:Nat}(h:b[p]? =some (n:Int))(hn:n<128):rv b p=((n:Int),((p+1:Nat):Int),true):=by
 show aKh b p 6 0 0=_;unfold aKh;rw[Nat.add_zero,h];simp only[cE0];rw[zT hn];have e:decide (1000000000000<0+n % 128 * 2 ^ (7 * 0))=false:=by
  rw[decide_eq_false_iff_not];have :n % 128<128:=Nat.mod_lt _ (by decide);simp only[Nat.mul_zero,Nat.pow_zero,Nat.mul_one];omega
 rw[e];have e2:0+n % 128 * 2 ^ (7 * 0)=n:=by
  rw[Nat.mod_eq_of_lt hn];simp
 rw[e2];simp
theorem bM8{k n:Nat}(h:n<128):vi k n=[(n:Int)]:=by
 cases k with
 | zero=>rfl
 | succ k=>unfold vi;rw[zT h]
theorem bN3{x:den tRv}(h:(qE (tH x)).2.2.2=true):(tE (tH x)).1=x.1/\(tE (tH x)).2.1=x.2.1/\dR x=true:=by
 cases hv:dR x with
 | false=>
  have e:tH x=[]:=by unfold tH;rw[hv];rfl
  rw[e]at h;exact absurd h (by decide)
 | true=>
  have hv':=hv;unfold dR at hv';simp only[cEw]at hv';obtain⟨a1,a2⟩:=aZ.1 hv'.1;obtain⟨b1,b2⟩:=aZ.1 hv'.2.1;obtain⟨c1,c2⟩:=aZ.1 hv'.2.2;have big:∀(a:Int),0<=a->a<=1000000->inR a 0 1000000000000=true:=λa h1 h2=>aZ.2 ⟨h1,by omega⟩
  obtain⟨m,hm⟩:=cFo a1;obtain⟨n,hn⟩:=cFo (show (0:Int)<=x.2.1 from cGa (by decide) b1);have hm7:m<=7:=by rw[hm]at a2;omega
  have hn6:n<=6:=by rw[hn]at b2;omega
  have e:tH x=(m:Int)::(n:Int)::vi 5 x.2.2.toNat:=by
   unfold tH;rw[hv,zT rfl];unfold aI2;simp only[List.foldl_cons,List.foldl_nil];unfold aBw;rw[big _ a1 (leI (cGa a2 (by decide))),big _ (cGa (by decide) b1) (leI (cGa b2 (by decide))),big _ c1 c2,hm,hn];simp only[zV,cE0];rw[bM8 (show m<128 by omega),bM8 (show n<128 by omega)];rfl
  have r0:rv (tH x) 0=((m:Int),((0+1:Nat):Int),true):=bNn (by rw[e];rfl) (by omega);have r1:rv (tH x) 1=((n:Int),((1+1:Nat):Int),true):=bNn (by rw[e];rfl) (by omega);have d:∃q b l,aJe (tH x)=(q,b,l)/\(b=false/\l=[]\/ ∃z,l=[(m:Int),(n:Int),z]):=by
   unfold aJe;rw[r0];simp only[zZ,cE0,cFs];rw[r1];simp only[zZ,cE0];cases (rv (tH x) (1+1)).2.2 with
   | false=>exact⟨_,_,_,rfl,.inl ⟨rfl,rfl⟩⟩
   | true=>exact⟨_,_,_,rfl,.inr ⟨_,rfl⟩⟩
  obtain⟨q,b,l,d1,d2⟩:=d;unfold tE;unfold qE at h|-;rw[d1]at h ⊢;rcases d2 with ⟨rfl,rfl⟩ | ⟨z,rfl⟩
  .exact absurd h Bool.false_ne_true
  .cases b with
   | false=>exact absurd h Bool.false_ne_true
   | true=>
    simp only at h|-;cases c1:q==((tH x).length:Int) with
    | false=>rw[c1]at h;exact absurd h Bool.false_ne_true
    | true=>
     rw[c1]at h;cases c2:dR ((m:Int),(n:Int),z) with
     | false=>rw[c2]at h;exact absurd h Bool.false_ne_true
     | true=>exact⟨hm.symm,hn.symm,trivial⟩
theorem bGk{t:den tTo}{τ:Int}{dead:List Int}{p:lPp}(h:aO0 t τ dead p):wfP t p=true/\ ∀x,(x∈oQ p\/x∈aFs p)->aIb x/\aBj (dL t dead x.1) x.2=false:=by
 have hw:wfP t p=true:=aHz h.1.thru.sim;have hv:=aLl (aP7 hw);refine⟨hw,λx hx=>⟨bB6 hv x hx,?_⟩⟩;rcases hx with hx | hx
 .exact h.1.alive x (by rw[bF1];exact hx)
 .exact h.2.alive x (by rw[bF1];exact bA8 hv x hx)
theorem bZa{t:den tTo}{τ:Int}{dead:List Int}{p:lPp}(h:aO0 t τ dead p){b:List Int}(hb:aIl t dead b)(hd:(qE b).2.2.2=true):oM p (tE b)=false:=by
 obtain⟨r,d,u,rfl,h7⟩:=hb;obtain⟨e1,e2,e3⟩:=bN3 hd;obtain⟨hw,ha⟩:=bGk h;cases hc:oM p (tE (tH (r,d,u))) with
 | false=>rfl
 | true=>
  exfalso;unfold oM at hc;rw[cEw,e1,e2,aZv]at hc;obtain⟨x,hx,e⟩:=bWt hw hc.2;obtain⟨d1,d2⟩:=ha x hx;unfold dR at e3;simp only[cEw]at e3;obtain⟨a1,a2⟩:=aZ.1 e3.1;obtain⟨b1,b2⟩:=aZ.1 e3.2.1;have :(r,d)=x:=bWl ⟨a1,a2,cGa (by decide) b1,b2⟩ d1 e;rw[<- this]at d2;rw[h7]at d2;cases d2
theorem bG5{t:den tTo}{τ:Int}{dead:List Int}{f:den tFl}{q:den tPk}(h:aO0 t τ dead ((f.2.2.2.2.2.1[f.2.2.2.2.2.2.1.toNat]?).getD []))(hq:q.1=(3:Int)->aIl t dead q.2.2.2.2.2.2.2.2.2):
  (iT f q).2.2.2.1=f.2.2.2.1/\(iT f q).2.2.2.2.2.2.1=f.2.2.2.2.2.2.1/\(iT f q).2.2.2.2.2.2.2.1=f.2.2.2.2.2.2.2.1/\(iT f q).2.2.2.2.2.1=f.2.2.2.2.2.1:=by
 unfold iT;cases c:(q.1==3&&(qE q.2.2.2.2.2.2.2.2.2).2.2.2) with
 | false=>exact⟨rfl,rfl,rfl,rfl⟩
 | true=>
  rw[cEw]at c;have hh:aJz f (tE q.2.2.2.2.2.2.2.2.2)=false:=by
   unfold aJz;rw[bZa h (hq (eq_of_beq c.1)) c.2,cGt]
  rw[hh];exact⟨rfl,rfl,rfl,rfl⟩
theorem bRn{t:den tTo}{r now dead inn:Int}{p:den tPk}(h:(fwd t r now dead inn p).1=7):aBj dead (fwd t r now dead inn p).2.2.2=true:=by
 have th:=xR (.inr (.inr h));unfold fwd at h|-;split at h
 .exact absurd h (show ¬ ((2:Int)=7) by decide)
 rename_i c1;rw[zS c1];split at h
 .exact absurd h (show ¬ ((3:Int)=7) by decide)
 rename_i c2;rw[zS c2];split at h
 .rw[th.go]at h;exact absurd h (show ¬ ((0:Int)=7) by decide)
 rename_i c3;rw[zS c3];split at h
 .split at h<;>first | exact absurd h (show ¬ ((1:Int)=7) by decide) | exact absurd h (show ¬ ((2:Int)=7) by decide)
 rename_i c4;rw[zS c4];split at h
 .exact absurd h (show ¬ ((6:Int)=7) by decide)
 rename_i c5;rw[zS c5];split at h
 .rename_i c6;rw[zT c6];exact c6
 .exact absurd h (show ¬ ((0:Int)=7) by decide)
def fL(f:den tFl):Int:=f.2.2.2.1
def fN(f:den tFl):Int:=f.2.2.2.2.2.2.1
def eW(f:den tFl):Int:=f.2.2.2.2.2.2.2.1
structure Aim where
 t:den tTo
 now:Int
 dead:List Int
 src:Int
 dst:Int
 ms:lMs
 ps:lPt
 c:Nat
 q:den tPt
 i:Nat
 m:Int
structure rA (A:Aim):Prop where
 at_:A.ps[A.c]? =some A.q
 work:aO0 A.t A.now A.dead A.q
 fst_:aG6 A.q=some A.src
 lst_:aBx A.q=some A.dst
 few:A.ms.length<=20
 some_:A.ps.length<=24
structure FC (A:Aim) (f:den tFl):Prop where
 src:f.1=A.src
 dst:f.2.1=A.dst
 ms:f.2.2.2.2.1=A.ms
 ps:f.2.2.2.2.2.1=A.ps
 a0:0<=fL f
 a1:fL f<=(A.ms.length:Int)
 c0:0<=fN f
 c1:fN f<(A.ps.length:Int)
 w0:0<=eW f
 w1:eW f<=4
def tP(n c cur w:Int):Int:=if cur=c then (if w=0 then 0 else n) else if cur<c then c - cur else n+c - cur
def muF(A:Aim)(f:den tFl):Int:=2 * ((A.ms.length:Int) - fL f)+(5 - eW f)+6 * tP A.ps.length A.c (fN f) (eW f)
theorem bAx{n c cur w:Int}(h0:0<=c)(h1:c<n)(h2:0<=cur)(h3:cur<n):0<=tP n c cur w/\tP n c cur w<=n:=by
 unfold tP;split
 .split<;>omega
 .split<;>omega
theorem bMb{n c cur w:Int}(h0:0<=c)(h1:c<n)(h2:0<=cur)(h3:cur<n):tP n c cur 0<=tP n c cur w:=by
 unfold tP;split
 .rw[zT rfl];split<;>omega
 .exact cFx _
theorem bB7{n c cur w:Int}(h:cur≠c):tP n c cur w=tP n c cur 0:=by
 unfold tP;rw[zS h,zS h]
def nxI(n cur:Int):Int:=if cur+1>=n then 0 else cur+1
theorem aMz{n c cur w:Int}(h0:0<=c)(h1:c<n)(h2:0<=cur)(h3:cur<n)(h4:cur≠c\/w≠0):0<=nxI n cur/\nxI n cur<n/\1<=tP n c cur w/\tP n c (nxI n cur) 0+1<=tP n c cur w:=by
 unfold tP nxI
 by_cases e:cur=c
 .have hw:w≠0:=h4.elim (λh=>absurd e h) id;subst e;rw[zT rfl,zS hw]
  by_cases g:cur+1>=n
  .rw[zT g]
   by_cases z:(0:Int)=cur
   .rw[zT z,zT rfl];omega
   .rw[zS z,zT (by omega)];omega
  .rw[zS g,zS (by omega),zS (by omega)];omega
 .rw[zS e]
  by_cases g:cur+1>=n
  .rw[zT g,zS (by omega)]
   by_cases z:(0:Int)=c
   .rw[zT z,zT rfl];omega
   .rw[zS z,zT (by omega)];omega
  .rw[zS g]
   by_cases z:cur+1=c
   .rw[zT z,zT rfl,zT (by omega)];omega
   .rw[zS z]
    by_cases y:cur<c
    .rw[zT y,zT (by omega)];omega
    .rw[zS y,zS (by omega)];omega
theorem aD1{A:Aim}{f:den tFl}(hA:rA A)(h:FC A f):lJ f=nxI A.ps.length (fN f):=by
 have a:=h.c0;have b:=h.c1;have c:=hA.some_;have e:wr (fN f+1)=fN f+1:=wri (by omega) (by omega);have e2:wr (f.2.2.2.2.2.2.1+1)=fN f+1:=e;unfold lJ nxI;rw[e2,h.ps]
theorem rA.cn{A:Aim}(h:rA A):(A.c:Int)<(A.ps.length:Int):=by
 have :=(cEz.1 h.at_).1;omega
theorem FC.work{A:Aim}{f:den tFl}(hA:rA A)(h:FC A f)(hc:fN f=A.c):aO0 A.t A.now A.dead ((f.2.2.2.2.2.1[f.2.2.2.2.2.2.1.toNat]?).getD []):=by
 have e:f.2.2.2.2.2.2.1=(A.c:Int):=hc;rw[h.ps,e,cE0,hA.at_];exact hA.work
def Rel(A:Aim)(p:den tPk):Prop:=(p.1=(1:Int)/\p.2.1=A.src/\p.2.2.1=A.dst)\/(p.1=(2:Int)/\p.2.1=A.dst/\p.2.2.1=A.src)
theorem bBc{A:Aim}{f:den tFl}{p:den tPk}(h:FC A f)(ha:aDl f p=true):Rel A p/\p.2.2.2.2.2.2.2.2.1=fL f/\fL f<(A.ms.length:Int):=by
 unfold aDl at ha;simp only[cEw,beq_iff_eq]at ha;obtain⟨h1,h2,h3,h4,h5⟩:=ha;obtain⟨_,h6⟩:=aZ.1 h5;rw[h.ms]at h6;have h6:fL f<=(A.ms.length:Int) - 1:=h6;exact⟨.inr ⟨h1,h2.trans h.dst,h3.trans h.src⟩,h4,by omega⟩
theorem bTt{A:Aim}{f:den tFl}{p:den tPk}(hA:rA A)(h:FC A f)(ha:aDl f p=true):FC A (kC f p)/\fL (kC f p)=fL f+1/\fN (kC f p)=fN f/\eW (kC f p)=0:=by
 obtain⟨_,_,h1⟩:=bBc h ha;have a0:=h.a0;have hl:=hA.few;have e:wr (fL f+1)=fL f+1:=wri (by omega) (by omega);have e1:kC f p=(f.1,f.2.1,f.2.2.1,wr (f.2.2.2.1+1),f.2.2.2.2.1,f.2.2.2.2.2.1,f.2.2.2.2.2.2.1,0,f.2.2.2.2.2.2.2.2):=by unfold kC;rw[ha];rfl
 have e2:fL (kC f p)=fL f+1:=by rw[e1];exact e
 rw[e1]at e2 ⊢;exact⟨⟨h.src,h.dst,h.ms,h.ps,by rw[e2];omega,by rw[e2];omega,h.c0,h.c1,cFx _,by show (0:Int)<=4;decide⟩,e2,rfl,rfl⟩
theorem bK0{A:Aim}{f:den tFl}{p:den tPk}(hA:rA A)(h:FC A f)(hr:p.1=(3:Int)->aIl A.t A.dead p.2.2.2.2.2.2.2.2.2):FC A (iT f p)/\fL (iT f p)=fL f/\
  ((fN (iT f p)=fN f/\eW (iT f p)=eW f)\/(fN f≠A.c/\fN (iT f p)=nxI A.ps.length (fN f)/\eW (iT f p)=0)):=by
 have cn:=hA.cn
 by_cases hc:fN f=A.c
 .obtain⟨k1,k2,k3,k4⟩:=bG5 (h.work hA hc) hr;have k1:fL (iT f p)=fL f:=k1;have k2:fN (iT f p)=fN f:=k2;have k3:eW (iT f p)=eW f:=k3;obtain⟨m1,m2,m3⟩:=aWz f p;exact⟨⟨m1.trans h.src,m2.trans h.dst,m3.trans h.ms,k4.trans h.ps,by rw[k1];exact h.a0,by rw[k1];exact h.a1,by rw[k2];exact h.c0,by rw[k2];exact h.c1,by rw[k3];exact h.w0,by rw[k3];exact h.w1⟩,k1,.inl ⟨k2,k3⟩⟩
 .have hn:=aMz (n:=A.ps.length) (c:=A.c) (cur:=fN f) (w:=0) (by omega) cn h.c0 h.c1 (.inl hc);unfold iT;cases c:(p.1==3&&(qE p.2.2.2.2.2.2.2.2.2).2.2.2) with
  | false=>exact⟨h,rfl,.inl ⟨rfl,rfl⟩⟩
  | true=>
   rw[zZ];cases c2:aJz f (tE p.2.2.2.2.2.2.2.2.2) with
   | false=>exact⟨⟨h.src,h.dst,h.ms,h.ps,h.a0,h.a1,h.c0,h.c1,h.w0,h.w1⟩,rfl,.inl ⟨rfl,rfl⟩⟩
   | true=>
    have e:lJ f=nxI A.ps.length (fN f):=aD1 hA h;refine⟨⟨h.src,h.dst,h.ms,h.ps,h.a0,h.a1,?_,?_,cFx _,(by show (0:Int)<=4;decide)⟩,rfl,.inr ⟨hc,e,rfl⟩⟩
    .show 0<=lJ f;rw[e];exact hn.1
    .show lJ f<_;rw[e];exact hn.2.1
theorem bF8{A:Aim}{f:den tFl}{p:den tPk}{r:Int}(hA:rA A)(h:FC A f)(hr:p.1=(3:Int)->aIl A.t A.dead p.2.2.2.2.2.2.2.2.2):FC A (cX r p f)/\
  ((fL (cX r p f)=fL f/\fN (cX r p f)=fN f/\eW (cX r p f)=eW f)\/
   (Rel A p/\fL f<(A.ms.length:Int)/\fL (cX r p f)=fL f+1/\fN (cX r p f)=fN f/\eW (cX r p f)=0)\/
   (fN f≠A.c/\fL (cX r p f)=fL f/\fN (cX r p f)=nxI A.ps.length (fN f)/\eW (cX r p f)=0)):=by
 unfold cX;split
 .split
  .cases ha:aDl f p with
   | false=>
    have :kC f p=f:=by unfold kC;rw[ha];rfl
    rw[this];exact⟨h,.inl ⟨rfl,rfl,rfl⟩⟩
   | true=>
    obtain⟨k1,k2,k3,k4⟩:=bTt hA h ha;obtain⟨r1,_,r3⟩:=bBc h ha;exact⟨k1,.inr (.inl ⟨r1,r3,k2,k3,k4⟩)⟩
  .obtain⟨k1,k2,k3⟩:=bK0 hA h hr;refine⟨k1,?_⟩;rcases k3 with ⟨a,b⟩ | ⟨a,b,c⟩
   .exact .inl ⟨k2,a,b⟩
   .exact .inr (.inr ⟨a,k2,b,c⟩)
 .exact⟨h,.inl ⟨rfl,rfl,rfl⟩⟩
theorem bEw{A:Aim}{f:den tFl}{p:den tPk}{r:Int}(hA:rA A)(h:FC A f)(hr:p.1=(3:Int)->aIl A.t A.dead p.2.2.2.2.2.2.2.2.2)(hw:Rel A p->eW f<=1):muF A (cX r p f)<=muF A f/\(eW (cX r p f)=eW f\/eW (cX r p f)=0):=by
 have cn:=hA.cn;obtain⟨k,h'⟩:=bF8 (r:=r) hA h hr;have w1:=h.w1;have w0:=h.w0;rcases h' with ⟨a,b,c⟩ | ⟨a,b,c,d,e⟩ | ⟨a,b,c,d⟩
 .unfold muF;rw[a,b,c];exact⟨cFx _,.inl rfl⟩
 .have :=hw a;have f1:=bMb (n:=A.ps.length) (c:=A.c) (cur:=fN f) (w:=eW f) (by omega) cn h.c0 h.c1;refine⟨?_,.inr e⟩;unfold muF;rw[c,d,e];omega
 .have f1:=aMz (n:=A.ps.length) (c:=A.c) (cur:=fN f) (w:=eW f) (by omega) cn h.c0 h.c1 (.inl a);refine⟨?_,.inr d⟩;unfold muF;rw[b,c,d];omega
def bOi(A:Aim)(a:Int)(z:den tFy):Prop:=Arr A.t A.now A.dead z.1 z.2.1 z.2.2/\z.2.2.1=(1:Int)/\z.2.2.2.1=A.src/\z.2.2.2.2.1=A.dst/\z.2.2.2.2.2.1=A.q/\z.2.2.2.2.2.2.2.2.2.2.1=a
def cDn(A:Aim)(a:Int)(z:den tFy):Prop:=Arr A.t A.now A.dead z.1 z.2.1 z.2.2/\z.2.2.1=(2:Int)/\z.2.2.2.1=A.dst/\z.2.2.2.2.1=A.src/\z.2.2.2.2.2.2.2.2.2.2.1=a
def Trk(A:Aim)(a:Int)(z:den tFy):Prop:=bOi A a z\/cDn A a z
def bIn(A:Aim)(f:den tFl)(L:lFy):Prop:=fL f<(A.ms.length:Int)/\muF A f<=A.m/\ ∀y∈L,¬ Rel A y.2.2
def bUn(A:Aim)(f:den tFl)(L:lFy):Prop:=muF A f+1<=A.m/\(eW f<=1\/ ∀y∈L,¬ Rel A y.2.2)
def cCw(A:Aim)(f:den tFl)(L:lFy):Prop:=fN f=A.c/\eW f=1/\fL f<(A.ms.length:Int)/\2 * ((A.ms.length:Int) - fL f)+4<=A.m/\ ∃y∈L,Trk A (fL f) y
def Flw(A:Aim)(b:Bool)(w:den tNw)(L:lFy):Prop:= ∃f,(aB w)[A.i]? =some f/\FC A f/\((b=false/\bIn A f L)\/(b=true/\(bUn A f L\/cCw A f L)))
def bIr(A:Aim)(L L':lFy):Prop:= ∀y∈L',Rel A y.2.2-> ∃z∈L,Rel A z.2.2
theorem Flw.same{A:Aim}{b:Bool}{w w':den tNw}{L L':lFy}(h:Flw A b w L)(e:(aB w')[A.i]? =(aB w)[A.i]?)(hr:bIr A L L')(ht:∀a,∀y∈L,Trk A a y-> ∃z∈L',Trk A a z):Flw A b w' L':=by
 obtain⟨f,h1,h2,h3⟩:=h;have none:(∀y∈L,¬ Rel A y.2.2)-> ∀y∈L',¬ Rel A y.2.2:=λhn y hy c=>by
  obtain⟨z,hz,r⟩:=hr y hy c;exact hn z hz r
 refine⟨f,by rw[e];exact h1,h2,?_⟩;rcases h3 with ⟨hb,g1,g2,g3⟩ | ⟨hb,⟨g1,g2⟩ | ⟨g1,g2,g3,g4,y,hy,g5⟩⟩
 .exact .inl ⟨hb,g1,g2,none g3⟩
 .exact .inr ⟨hb,.inl ⟨g1,g2.elim .inl λg=> .inr (none g)⟩⟩
 .obtain⟨z,hz,g6⟩:=ht _ y hy g5;exact .inr ⟨hb,.inr ⟨g1,g2,g3,g4,z,hz,g6⟩⟩
theorem Flw.told{A:Aim}(hA:rA A){b:Bool}{w:den tNw}{L L':lFy}{r:Int}{q:den tPk}(h:Flw A b w L)(hq:q.1=(3:Int)->aIl A.t A.dead q.2.2.2.2.2.2.2.2.2)(hl:Rel A q-> ∃z∈L,Rel A z.2.2)(hr:bIr A L L')
  (ht:∀a,∀y∈L,Trk A a y->(∃z∈L',Trk A a z)\/ ∀f,FC A f->fL f=a->a<(A.ms.length:Int)->fL (cX r q f)=fL f+1):Flw A b (tF w r q) L':=by
 obtain⟨f,h1,h2,h3⟩:=h;have none:(∀y∈L,¬ Rel A y.2.2)-> ∀y∈L',¬ Rel A y.2.2:=λhn y hy c=>by
  obtain⟨z,hz,r⟩:=hr y hy c;exact hn z hz r
 obtain⟨k,h'⟩:=bF8 (r:=r) hA h2 hq;refine⟨cX r q f,?_,k,?_⟩
 .show ((aB w).map (cX r q))[A.i]? =_;rw[cGy,h1];rfl
 rcases h3 with ⟨hb,g1,g2,g3⟩ | ⟨hb,⟨g1,g2⟩ | ⟨g1,g2,g3,g4,y,hy,g5⟩⟩
 .have nr: ¬ Rel A q:=λc=>by
   obtain⟨z,hz,r⟩:=hl c;exact g3 z hz r
  obtain⟨m1,_⟩:=bEw (r:=r) hA h2 hq λc=>absurd c nr
  refine .inl ⟨hb,?_,cGa m1 g2,none g3⟩;rcases h' with ⟨a,_⟩ | ⟨a,_⟩ | ⟨_,a,_⟩
  .rw[a];exact g1
  .exact absurd a nr
  .rw[a];exact g1
 .have hw:Rel A q->eW f<=1:=λc=>g2.elim id λg=>by
   obtain⟨z,hz,r⟩:=hl c;exact absurd r (g z hz)
  obtain⟨m1,m2⟩:=bEw (r:=r) hA h2 hq hw;refine .inr ⟨hb,.inl ⟨by omega,?_⟩⟩;rcases m2 with m2 | m2
  .rw[m2];exact g2.elim .inl λg=> .inr (none g)
  .exact .inl (by rw[m2];decide)
 .rcases h' with ⟨a,b',c⟩ | ⟨a,b',c,d,e⟩ | ⟨a,_⟩
  .rcases ht _ y hy g5 with ⟨z,hz,g6⟩ | g6
   .exact .inr ⟨hb,.inr ⟨by rw[b'];exact g1,by rw[c];exact g2,by rw[a];exact g3,by rw[a];exact g4,z,hz,by rw[a];exact g6⟩⟩
   .have :=g6 f h2 rfl g3;omega
  .refine .inr ⟨hb,.inl ⟨?_,.inl (by rw[e];decide)⟩⟩;have z0:tP A.ps.length A.c (fN f) 0=0:=by unfold tP;rw[zT g1,zT rfl]
   unfold muF;rw[c,d,e,z0];omega
  .exact absurd g1 a
theorem aZj{t:den tTo}{r now dead inn:Int}{p:den tPk}(h:(fwd t r now dead inn p).1=1):p.2.2.1=r:=by
 have th:=xR (.inr (.inl h));obtain⟨i,j,b,e⟩:=aHu t r now dead inn p;unfold fwd at h e;split at h
 .exact absurd h (show ¬ ((2:Int)=1) by decide)
 rename_i c1;rw[zS c1]at e;split at h
 .exact absurd h (show ¬ ((3:Int)=1) by decide)
 rename_i c2;rw[zS c2]at e;split at h
 .rw[th.go]at h;exact absurd h (show ¬ ((0:Int)=1) by decide)
 rename_i c3;rw[zS c3]at e;split at h
 .rename_i c4;rw[zT c4]at e;split at h
  .rename_i c5;rw[zT c5]at e;have :(bB t now p).2.2.2.1=p.2.2.1:=by
    have e:(bB t now p).2=goTo p i j b:=e;rw[e];rfl
   rw[<- this];exact eq_of_beq c5
  .exact absurd h (show ¬ ((2:Int)=1) by decide)
 split at h
 .exact absurd h (show ¬ ((6:Int)=1) by decide)
 split at h
 .exact absurd h (show ¬ ((7:Int)=1) by decide)
 .exact absurd h (show ¬ ((0:Int)=1) by decide)
theorem aK5(t:den tTo)(now:Int)(dead:List Int)(r inn:Int)(p:den tPk):∃i j b,(aG t now dead r inn p).2.2.1=goTo p i j b:=aHu t r now (dL t dead r) inn p
theorem bQx{A:Aim}{a r inn:Int}{p:den tPk}(h:Trk A a (r,inn,p))(hc:(aG A.t A.now A.dead r inn p).1=0):Trk A a ((remote A.t r (aG A.t A.now A.dead r inn p).2.1).1,(remote A.t r (aG A.t A.now A.dead r inn p).2.1).2,(aG A.t A.now A.dead r inn p).2.2.1):=by
 obtain⟨i,j,b,e⟩:=aK5 A.t A.now A.dead r inn p;have key:∀(h:Arr A.t A.now A.dead r inn p),Arr A.t A.now A.dead (remote A.t r (aG A.t A.now A.dead r inn p).2.1).1 (remote A.t r (aG A.t A.now A.dead r inn p).2.1).2 (aG A.t A.now A.dead r inn p).2.2.1:=λh=>by
  rcases h.or with h1 | ⟨_,h2⟩
  .rw[hc]at h1;exact absurd h1 (by decide)
  .exact h2
 rcases h with ⟨h0,h1⟩ | ⟨h0,h1⟩
 .refine .inl ⟨key h0,?_⟩;simp only[e];exact h1
 .refine .inr ⟨key h0,?_⟩;simp only[e];exact h1
theorem aZz{A:Aim}{a:Int}{z:den tFy}(h:Trk A a z):Arr A.t A.now A.dead z.1 z.2.1 z.2.2:=h.elim (·.1) (·.1)
structure Rnd (A:Aim) (b:Bool) (e:Int×Int->Nat) (m:Nat) (w:den tNw) (L:lFy):Prop where
 mid:Mid A.t A.now A.dead e m w
 flw:Flw A b w L
 rev:∀y∈L,y.2.2.1=(3:Int)->aIl A.t A.dead y.2.2.2.2.2.2.2.2.2.2.2
theorem Rnd.fwd{A:Aim}{b:Bool}{e:Int×Int->Nat}{m:Nat}{w:den tNw}{r inn:Int}{p:den tPk}(h:Rnd A b (λd=>mM d p+e d) (m+1) w ((r,inn,p)::aH w))(hc:(aG A.t A.now A.dead r inn p).1=0):
  Rnd A b e m (gM w r (aG A.t A.now A.dead r inn p).2.1 (aG A.t A.now A.dead r inn p).2.2.1) (aH (gM w r (aG A.t A.now A.dead r inn p).2.1 (aG A.t A.now A.dead r inn p).2.2.1)):=by
 obtain⟨s1,s2,s3,_,s4⟩:=h.mid.send hc;obtain⟨i,j,b',eg⟩:=aK5 A.t A.now A.dead r inn p;rw[s1];refine⟨s4,h.flw.same (by rw[s2]) (λy hy c=> ?_) (λa y hy c=> ?_),λy hy c=> ?_⟩
 .rcases cE4.1 hy with hy | hy
  .exact⟨y,cE7 _ hy,c⟩
  .refine⟨_,cFb ..,?_⟩;have :y=_:=cE3.1 hy;rw[this]at c;simp only[eg]at c;exact c
 .rcases cEy.1 hy with hy | hy
  .subst hy;exact⟨_,List.mem_append_right _ (cE3.2 rfl),bQx c hc⟩
  .exact⟨y,List.mem_append_left _ hy,c⟩
 .rcases cE4.1 hy with hy | hy
  .exact h.rev y (cE7 _ hy) c
  .have :y=_:=cE3.1 hy;rw[this]at c ⊢;simp only[eg]at c ⊢;exact h.rev _ (cFb ..) c
theorem Rnd.lost{A:Aim}{b:Bool}{e:Int×Int->Nat}{m:Nat}{w:den tNw}{r inn:Int}{p:den tPk}(h:Rnd A b (λd=>mM d p+e d) (m+1) w ((r,inn,p)::aH w))(hc: ¬ Arr A.t A.now A.dead r inn p):Rnd A b e m (wX w) (aH w):=by
 refine⟨(h.mid.mono (λd=>cGr _ _) (cFz _)).drop,h.flw.same rfl (λy hy c=>⟨y,cE7 _ hy,c⟩) (λa y hy c=> ?_),λy hy=>h.rev y (cE7 _ hy)⟩;rcases cEy.1 hy with hy | hy
 .subst hy;exact absurd (aZz c) hc
 .exact⟨y,hy,c⟩
theorem Rnd.home{A:Aim}(hA:rA A){b:Bool}{e:Int×Int->Nat}{m:Nat}{w:den tNw}{r inn:Int}{p:den tPk}(h:Rnd A b (λd=>mM d p+e d) (m+1) w ((r,inn,p)::aH w))(hk:(p.1==(1:Int))=false)(hc:(aG A.t A.now A.dead r inn p).1=1):
  Rnd A b e m (tF w r (aG A.t A.now A.dead r inn p).2.2.1) (aH w):=by
 obtain⟨i,j,b',eg⟩:=aK5 A.t A.now A.dead r inn p;have hd:p.2.2.1=r:=aZj hc;rw[eg];refine⟨(h.mid.mono (λd=>cGr _ _) (cFz _)).flows _,h.flw.told hA (λc=>h.rev _ (cFb ..) c) (λc=>⟨_,cFb ..,c⟩) (λy hy c=>⟨y,cE7 _ hy,c⟩) (λa y hy c=> ?_),λy hy=>h.rev y (cE7 _ hy)⟩;rcases cEy.1 hy with hy | hy
 .subst hy;refine .inr λf hf e1 e2=> ?_
  rcases c with ⟨_,c,_⟩ | ⟨_,c1,c2,c3,c4⟩
  .have c:p.1=(1:Int):=c;rw[c]at hk;exact absurd hk (by decide)
  .have ha:aDl f (goTo p i j b')=true:=by
    unfold aDl;show ((p.1==2)&&((p.2.1==f.2.1)&&((p.2.2.1==f.1)&&((p.2.2.2.2.2.2.2.2.1==f.2.2.2.1)&&inR f.2.2.2.1 0 ((f.2.2.2.2.1.length:Int) - 1)))))=true;have c1:p.1=(2:Int):=c1;have c2:p.2.1=A.dst:=c2;have c3:p.2.2.1=A.src:=c3;have c4:p.2.2.2.2.2.2.2.2.1=a:=c4;have ef:f.2.2.2.1=a:=e1;rw[c1,c2,c3,c4,hf.src,hf.dst,ef,hf.ms];simp only[beq_self_eq_true,Bool.true_and];have :=hf.a0;exact aZ.2 ⟨by omega,by omega⟩
   have :cX r (goTo p i j b') f=kC f (goTo p i j b'):=by
    unfold cX;have c1:(goTo p i j b').1=(2:Int):=c1;have c3:p.2.2.1=A.src:=c3;rw[c1];have :(f.1==r)=true:=by rw[beq_iff_eq,hf.src,<- hd];exact c3.symm
    rw[this];rfl
   rw[this];exact (bTt hA hf ha).2.1
 .exact .inl ⟨y,hy,c⟩
theorem Rnd.proc0{A:Aim}(hA:rA A){b:Bool}{e:Int×Int->Nat}{m:Nat}{w:den tNw}{r inn:Int}{p:den tPk}(h:Rnd A b (λd=>mM d p+e d) (m+1) w ((r,inn,p)::aH w))(hk:(p.1==(1:Int))=false):Rnd A b e m (proc0 w r inn p) (aH (proc0 w r inn p)):=by
 unfold Go.Proofs.YtnkjolpkcmgcaaaGreat.proc0;rw[h.mid.step r inn p];split
 .rename_i c;exact h.fwd (eq_of_beq c)
 .rename_i c0;split
  .rename_i c;exact h.home hA hk (eq_of_beq c)
  .rename_i c1;refine h.lost λg=> ?_
   rcases g.code with g | g
   .rw[g]at c0;exact c0 rfl
   .rw[g]at c1;exact c1 rfl
theorem aR7(l:lIb)(a b:Int):(dU l a b<0/\ ∀x∈l,qL a b x=false)\/ ∃(k:Nat) (x:den tIb),dU l a b=(k:Int)/\l[k]? =some x/\qL a b x=true:=by
 unfold dU;cases h:l.findIdx? (qL a b) with
 | none=>
  refine .inl ⟨by decide,λx hx=> ?_⟩;have :=List.findIdx?_eq_none_iff.1 h x hx;simpa using this
 | some i=>
  obtain⟨h1,h2,_⟩:=List.findIdx?_eq_some_iff_getElem.1 h;exact .inr ⟨i,l[i],by simp,cEx h1,h2⟩
theorem bBr{t:den tTo}{w:den tNw}(hi:cS t w){r s:Int}(h: ¬ dU (aS w) r s<0):∃(k:Nat) (f:den tFl),dU (aS w) r s=(k:Int)/\(aB w)[k]? =some f/\(aS w)[k]? =some (iV w k)/\zD t f (iV w k)/\f.1=s/\f.2.1=r/\(iV w k).1=r/\(iV w k).2.1=s:=by
 rcases aR7 (aS w) r s with ⟨h1,_⟩ | ⟨k,x,h1,h2,h3⟩
 .exact absurd h1 h
 .have hlt:=(cEz.1 h2).1;have hl:k<(aB w).length:=by rw[<- hi.lenB];exact hlt
  have hb:iV w k=x:=by unfold iV;rw[h2];rfl
  have hF:=hi.flow k _ x (cEx hl) h2;unfold qL at h3;simp only[cEw,beq_iff_eq]at h3;refine⟨k,_,h1,cEx hl,by rw[hb];exact h2,by rw[hb];exact hF,?_,?_,by rw[hb];exact h3.1,by rw[hb];exact h3.2⟩
  .rw[<- hF.xFrom];exact h3.2
  .rw[<- hF.xAS];exact h3.1
theorem aLe(x:den tIb)(p:den tPk):(cM x p).1=x.1/\(cM x p).2.1=x.2.1:=by
 unfold cM;split<;>exact⟨rfl,rfl⟩
theorem bQp{t:den tTo}{w:den tNw}(hi:cS t w){r:Int}{p:den tPk}(hg:oY w p)(h: ¬ dU (aS w) r p.2.1<0)(ha:yS (cM (iV w (dU (aS w) r p.2.1).toNat) p) p=true):
  p.2.2.1=r/\p.1=(1:Int)/\jT (cM (iV w (dU (aS w) r p.2.1).toNat) p) p=dM 2 (jS p.2.2.2.1) p.2.2.2.2.2.2.2.1 p.2.2.2.2.2.2.2.2.1 []/\ends (jS p.2.2.2.1)=(p.2.2.1,p.2.1):=by
 obtain⟨k,f,e1,e2,e3,e4,e5,e6,e7,e8⟩:=bBr hi h;have hm:jT (cM (iV w (dU (aS w) r p.2.1).toNat) p) p=dM 2 (jS p.2.2.2.1) p.2.2.2.2.2.2.2.1 p.2.2.2.2.2.2.2.2.1 []:=by
  unfold jT;rw[ha];rfl
 rw[e1,cE0]at ha;unfold yS vQ at ha;simp only[cEw,beq_iff_eq]at ha;obtain⟨⟨h1,h2,h3⟩,_⟩:=ha;have h3:p.2.2.1=r:=h3.trans ((aLe _ _).1.trans e7);obtain⟨p1,p2,_⟩:=(hg k f _ e2 e3).1 h1 e5.symm (h3.trans e6.symm);refine⟨h3,h1,hm,?_⟩;rw[aJg ((aH5 _).1.trans p2) ((aH5 _).2.trans p1),e5,e6,h3]
theorem Rnd.data{A:Aim}(hA:rA A){b:Bool}{e:Int×Int->Nat}{m:Nat}{w:den tNw}{r inn:Int}{p:den tPk}(h:Rnd A b (λd=>mM d p+e d) (m+1) w ((r,inn,p)::aH w))(hi:cS A.t w)(hg:oY w p)(hk:(p.1==(1:Int))=true)(hc:(aG A.t A.now A.dead r inn p).1=1):
  Rnd A b e m (qJ w r (aG A.t A.now A.dead r inn p).2.2.1) (aH (qJ w r (aG A.t A.now A.dead r inn p).2.2.1)):=by
 obtain⟨i,j,b',eg⟩:=aK5 A.t A.now A.dead r inn p;have hd:p.2.2.1=r:=aZj hc;have hv:dC p=true:=(xR (t:=A.t) (r:=r) (now:=A.now) (dead:=dL A.t A.dead r) (inn:=inn) (p:=p) (.inr (.inl hc))).val;rw[eg];have hg':oY w (goTo p i j b'):=hg.goTo i j b';have tracked:∀a,Trk A a (r,inn,p)->(∃f,(aB w)[A.i]? =some f/\FC A f/\fL f=a/\a<(A.ms.length:Int))-> ¬ dU (aS w) r (goTo p i j b').2.1<0/\yS (cM (iV w (dU (aS w) r (goTo p i j b').2.1).toNat) (goTo p i j b')) (goTo p i j b')=true/\p.2.1=A.src/\p.2.2.2.1=A.q/\p.2.2.2.2.2.2.2.2.1=a:=by
  rintro a (⟨ta,t1,t2,t3,t4,t5⟩ | ⟨_,t1,_⟩) ⟨f,f1,f2,f3,f4⟩
  .have t2:p.2.1=A.src:=t2;have t3:p.2.2.1=A.dst:=t3;have t5:p.2.2.2.2.2.2.2.2.1=a:=t5;have hlt:A.i<(aS w).length:=by rw[hi.lenB];exact (cEz.1 f1).1
   have hFi:=hi.flow A.i f _ f1 (cEx hlt);have hn: ¬ dU (aS w) r p.2.1<0:=by
    rcases aR7 (aS w) r p.2.1 with ⟨_,h2⟩ | ⟨k,x,h1,_⟩
    .have :=h2 _ (cGh hlt);unfold qL at this;rw[hFi.xAS,hFi.xFrom,f2.src,f2.dst,t2,<- hd,t3]at this;simp at this
    .rw[h1];omega
   refine⟨hn,?_,t2,t4,t5⟩;obtain⟨k,g,e1,e2,e3,e4,e5,e6,e7,e8⟩:=bBr hi hn;have hki:k=A.i:=hi.one e2 f1 (by rw[e5,t2,f2.src]) (by rw[e6,<- hd,t3,f2.dst]);subst hki;rw[f1]at e2;injection e2 with e2;subst e2;show yS (cM (iV w (dU (aS w) r p.2.1).toNat) (goTo p i j b')) (goTo p i j b')=true;rw[e1,cE0];generalize iV w A.i=x at e3 e4 e7 e8;have hack:fL f<=(x.2.2.2.length:Int):=e4.ack;have hnx:x.2.2.1=(x.2.2.2.length:Int):=e4.next
   have few:=hA.few;have ha0:0<=a:=by rw[<- f3];exact f2.a0
   have hcm:vQ x (goTo p i j b')=true:=by
    unfold vQ;show ((p.1==1)&&((p.2.1==x.2.1)&&(p.2.2.1==x.1)))=true;rw[hk,e8,e7,hd];simp
   have hcm2:vQ (cM x (goTo p i j b')) (goTo p i j b')=true:=by
    unfold vQ at hcm ⊢;rw[(aLe _ _).1,(aLe _ _).2];exact hcm
   have key:a<(cM x (goTo p i j b')).2.2.1:=by
    unfold cM aRd;rw[hcm];show a<(if (true&&((p.2.2.2.2.2.2.2.2.1==x.2.2.1)&&decide (x.2.2.1<20)))=true then _ else x).2.2.1;rw[t5]
    by_cases ea:a=x.2.2.1
    .have h20':a<(20:Int):=by omega
     have h20:x.2.2.1<20:=by rw[<- ea];exact h20'
     have :(a==x.2.2.1)=true:=by rw[beq_iff_eq];exact ea
     rw[this,zX h20];have wr1:∀z:Int,0<=z->z<=100->wr (z+1)=z+1:=λz h1 h2=>wri (by omega) (by omega)
     have e1:=wr1 a ha0 (by omega);show a<wr (x.2.2.1+1);rw[<- ea,e1];exact Int.lt_succ a
    .have :(a==x.2.2.1)=false:=by rw[beq_eq_false_iff_ne];exact ea
     rw[this];show a<x.2.2.1;have hx:x.2.2.1=(x.2.2.2.length:Int):=hnx;have ea: ¬ a=x.2.2.1:=ea;rw[hx]at ea ⊢;omega
   unfold yS;rw[hcm2];show (true&& !decide (p.2.2.2.2.2.2.2.2.1>=(cM x (goTo p i j b')).2.2.1))=true;rw[t5,zW (show ¬ a>=(cM x (goTo p i j b')).2.2.1 from λc=>absurd key (Int.not_lt.2 c))];rfl
  .have t1:p.1=(2:Int):=t1;rw[t1]at hk;exact absurd hk (by decide)
 have weak:Mid A.t A.now A.dead e m w:=h.mid.mono (λd=>cGr _ _) (cFz _);obtain⟨f,f1,f2,f3⟩:=h.flw;have hT:∀a,∀y∈(r,inn,p)::aH w,Trk A a y->((b=false/\bIn A f ((r,inn,p)::aH w))\/(b=true/\bUn A f ((r,inn,p)::aH w)))\/True:=λ_ _ _ _=> .inr trivial
 unfold qJ;split
 .rename_i hx;refine⟨weak,⟨f,f1,f2,?_⟩,λy hy=>h.rev y (cE7 _ hy)⟩;rcases f3 with ⟨hb,g1,g2,g3⟩ | ⟨hb,⟨g1,g2⟩ | ⟨g1,g2,g3,g4,y,hy,g5⟩⟩
  .exact .inl ⟨hb,g1,g2,λy hy=>g3 y (cE7 _ hy)⟩
  .exact .inr ⟨hb,.inl ⟨g1,g2.elim .inl λg=> .inr λy hy=>g y (cE7 _ hy)⟩⟩
  .rcases cEy.1 hy with hy | hy
   .subst hy;exact absurd hx (tracked _ g5 ⟨f,f1,f2,rfl,g3⟩).1
   .exact .inr ⟨hb,.inr ⟨g1,g2,g3,g4,y,hy,g5⟩⟩
 .rename_i hx;split
  .rename_i ha;obtain⟨q1,q2,q3,q4⟩:=bQp hi hg' hx ha;rw[q3];have q4:ends (jS p.2.2.2.1)=(p.2.2.1,p.2.1):=q4;refine Rnd.proc0 hA (inn:=0) ⟨(h.mid.box _ _).mono (λd=> ?_) (cE8 _),⟨f,f1,f2,?_⟩,λy hy c=> ?_⟩ rfl
   .exact cG6 (cEv (aKy rfl) (aHy hk)) _
   .have hrel:bIr A ((r,inn,p)::aH w) ((r,0,dM 2 (jS p.2.2.2.1) p.2.2.2.2.2.2.2.1 p.2.2.2.2.2.2.2.2.1 [])::aH w):=λy hy c=>by
     rcases cEy.1 hy with hy | hy
     .refine⟨_,cFb ..,?_⟩;rw[hy]at c;rcases c with ⟨c,_⟩ | ⟨_,c1,c2⟩
      .exact absurd c (show ¬ ((2:Int)=1) by decide)
      .have c1:(ends (jS p.2.2.2.1)).1=A.dst:=c1;have c2:(ends (jS p.2.2.2.1)).2=A.src:=c2;rw[q4]at c1 c2;exact .inl ⟨eq_of_beq hk,c2,c1⟩
     .exact⟨y,cE7 _ hy,c⟩
    have none:(∀y∈(r,inn,p)::aH w,¬ Rel A y.2.2)-> ∀y∈(r,(0:Int),dM 2 (jS p.2.2.2.1) p.2.2.2.2.2.2.2.1 p.2.2.2.2.2.2.2.2.1 [])::aH w,¬ Rel A y.2.2:=λhn y hy c=>by
     obtain⟨z,hz,r⟩:=hrel y hy c;exact hn z hz r
    rcases f3 with ⟨hb,g1,g2,g3⟩ | ⟨hb,⟨g1,g2⟩ | ⟨g1,g2,g3,g4,y,hy,g5⟩⟩
    .exact .inl ⟨hb,g1,g2,none g3⟩
    .exact .inr ⟨hb,.inl ⟨g1,g2.elim .inl λg=> .inr (none g)⟩⟩
    .rcases cEy.1 hy with hy | hy
     .subst hy;obtain⟨_,_,u1,u2,u3⟩:=tracked _ g5 ⟨f,f1,f2,rfl,g3⟩;refine .inr ⟨hb,.inr ⟨g1,g2,g3,g4,_,cFb ..,.inr ⟨?_,rfl,?_,?_,u3⟩⟩⟩
      .have hw:=hA.work.2;have hends:(ends (jS A.q)).1=r:=by rw[<- u2,q4,hd]
       rw[hends]at hw;have hv':=hv;unfold dC at hv';simp only[cEw]at hv';have :=hw.set (m:=(2,p.2.2.2.2.2.2.2.1,p.2.2.2.2.2.2.2.2.1,[])) (by
        unfold okM;simp only[cEw];exact⟨by decide,hv'.2.2.2.2.2.2.2.1,hv'.2.2.2.2.2.2.2.2.1,rfl⟩)
       show Arr A.t A.now A.dead r 0 (dM 2 (jS p.2.2.2.1) p.2.2.2.2.2.2.2.1 p.2.2.2.2.2.2.2.2.1 []);rw[u2];exact this
      .show (ends (jS p.2.2.2.1)).1=A.dst;rw[q4];rcases g5 with ⟨_,_,_,g,_⟩ | ⟨_,g,_⟩
       .exact g
       .have g:p.1=(2:Int):=g;rw[g]at hk;exact absurd hk (by decide)
      .show (ends (jS p.2.2.2.1)).2=A.src;rw[q4];exact u1
     .exact .inr ⟨hb,.inr ⟨g1,g2,g3,g4,y,cE7 _ hy,g5⟩⟩
   .rcases cEy.1 hy with hy | hy
    .rw[hy]at c;exact absurd c (show ¬ ((2:Int)=3) by decide)
    .exact h.rev y (cE7 _ hy) c
  .rename_i ha;refine⟨weak.box _ _,⟨f,f1,f2,?_⟩,λy hy=>h.rev y (cE7 _ hy)⟩;rcases f3 with ⟨hb,g1,g2,g3⟩ | ⟨hb,⟨g1,g2⟩ | ⟨g1,g2,g3,g4,y,hy,g5⟩⟩
   .exact .inl ⟨hb,g1,g2,λy hy=>g3 y (cE7 _ hy)⟩
   .exact .inr ⟨hb,.inl ⟨g1,g2.elim .inl λg=> .inr λy hy=>g y (cE7 _ hy)⟩⟩
   .rcases cEy.1 hy with hy | hy
    .subst hy;exact absurd (tracked _ g5 ⟨f,f1,f2,rfl,g3⟩).2.1 ha
    .exact .inr ⟨hb,.inr ⟨g1,g2,g3,g4,y,hy,g5⟩⟩
theorem Rnd.note{A:Aim}(hA:rA A){b:Bool}{e:Int×Int->Nat}{m:Nat}{w:den tNw}{r inn:Int}{p:den tPk}(h:Rnd A b (λd=>mM d p+e d) (m+1) w ((r,inn,p)::aH w))(hk:(p.1==(1:Int))=true)(hc:(aG A.t A.now A.dead r inn p).1=7):
  Rnd A b e m (tA w r (aG A.t A.now A.dead r inn p).2.2.2 p) (aH (tA w r (aG A.t A.now A.dead r inn p).2.2.2 p)):=by
 have hrev:aIl A.t A.dead (cB r (aI w) (aG A.t A.now A.dead r inn p).2.2.2 p).2.2.2.2.2.2.2.2.2:=⟨r,_,_,rfl,bRn hc⟩
 generalize (aG A.t A.now A.dead r inn p).2.2.2=d at hrev;have key:Rnd A b (λd'=>mM d' (cB r (aI w) d p)+e d') (m+1) w ((r,0,cB r (aI w) d p)::aH w):=by
  refine⟨h.mid.mono (λd=>cG6 (cEv (aKy rfl) (aHy hk)) _) (cE8 _),h.flw.same rfl (λy hy c=> ?_) (λa y hy c=> ?_),λy hy c=> ?_⟩
  .rcases cEy.1 hy with hy | hy
   .rw[hy]at c;rcases c with ⟨c,_⟩ | ⟨c,_⟩
    .exact absurd c (show ¬ ((3:Int)=1) by decide)
    .exact absurd c (show ¬ ((3:Int)=2) by decide)
   .exact⟨y,cE7 _ hy,c⟩
  .rcases cEy.1 hy with hy | hy
   .subst hy;rcases (aZz c).code with g | g
    .rw[show (aG A.t A.now A.dead r inn p).1=7 from hc]at g;exact absurd g (by decide)
    .rw[show (aG A.t A.now A.dead r inn p).1=7 from hc]at g;exact absurd g (by decide)
   .exact⟨y,cE7 _ hy,c⟩
  .rcases cEy.1 hy with hy | hy
   .rw[hy];exact hrev
   .exact h.rev y (cE7 _ hy) c
 unfold tA;split
 .have r1:=key.proc0 hA rfl;exact⟨r1.mid.drop,r1.flw.same rfl (λy hy c=>⟨y,hy,c⟩) (λa y hy c=>⟨y,hy,c⟩),r1.rev⟩
 .refine⟨((key.mid.mono (λd=>cGr _ _) (cFz _)).flows _).drop,Flw.same (w:=tF w r (cB r (aI w) d p)) (L:=aH w) (key.flw.told hA (λ_=>hrev) (λc=>⟨_,cFb ..,c⟩) (λy hy c=>⟨y,cE7 _ hy,c⟩) (λa y hy c=> ?_)) rfl (λy hy c=>⟨y,hy,c⟩) (λa y hy c=>⟨y,hy,c⟩),λy hy=>key.rev y (cE7 _ hy)⟩;rcases cEy.1 hy with hy | hy
  .subst hy;rcases c with ⟨_,c,_⟩ | ⟨_,c,_⟩
   .exact absurd c (show ¬ ((3:Int)=1) by decide)
   .exact absurd c (show ¬ ((3:Int)=2) by decide)
  .exact .inl ⟨y,hy,c⟩
theorem Rnd.proc{A:Aim}(hA:rA A){b:Bool}{e:Int×Int->Nat}{m:Nat}{w:den tNw}{r inn:Int}{p:den tPk}(h:Rnd A b (λd=>mM d p+e d) (m+1) w ((r,inn,p)::aH w))(hi:cS A.t w)(hg:bAl w p):Rnd A b e m (dW w r inn p) (aH (dW w r inn p)):=by
 unfold dW;rw[h.mid.step r inn p];split
 .rename_i c;exact h.fwd (eq_of_beq c)
 .rename_i c0;split
  .rename_i c1;have hv:dC p=true:=(xR (t:=A.t) (r:=r) (now:=A.now) (dead:=dL A.t A.dead r) (inn:=inn) (p:=p) (.inr (.inl (eq_of_beq c1)))).val;split
   .rename_i hk;exact h.data hA hi (hg hv) hk (eq_of_beq c1)
   .rename_i hk;exact h.home hA (eq_false_of_ne_true hk) (eq_of_beq c1)
  .rename_i c1;split
   .rename_i c7;rw[cEw]at c7;exact h.note hA c7.2 (eq_of_beq c7.1)
   .refine h.lost λg=> ?_
    rcases g.code with g | g
    .rw[g]at c0;exact c0 rfl
    .rw[g]at c1;exact c1 rfl
theorem Rnd.out{A:Aim}(hA:rA A){b:Bool}{e:Int×Int->Nat}{m:Nat}{w:den tNw}(h:Rnd A b e m w (aH w))(hi:cS A.t w):Rnd A b e m (outW w) (aH (outW w))/\cS A.t (outW w):=by
 unfold outW;split
 .exact⟨h,hi⟩
 .rename_i x l hf;have hi':cS A.t (cC w l):=hi.same rfl rfl rfl λy hy=> .inl (by rw[hf];exact cE7 _ hy)
  have hg:bAl (cC w l) x.2.2:=hi.good x (by rw[hf];exact cFb ..);refine⟨Rnd.proc hA ⟨h.mid.take hf,?_,?_⟩ hi' hg,aH7 hi' hg⟩
  .have :=h.flw;rw[hf]at this;exact this.same rfl (λy hy c=>⟨y,hy,c⟩) (λa y hy c=>⟨y,hy,c⟩)
  .have :=h.rev;rw[hf]at this;exact this
theorem Rnd.del{A:Aim}(hA:rA A){b:Bool}{e:Int×Int->Nat}{m:Nat}:∀(n:Nat) {w:den tNw},Rnd A b e m w (aH w)->cS A.t w->Rnd A b e m (delW n w) (aH (delW n w))/\cS A.t (delW n w)
 | 0,w,h,hi=>⟨h,hi⟩
 | n+1,w,h,hi=>by
  unfold delW;split
  .exact⟨h,hi⟩
  .obtain⟨h1,h2⟩:=h.out hA hi;exact Rnd.del hA n h1 h2
theorem bEl{t:den tTo}{w:den tNw}{k:Nat}{f:den tFl}(h:cS t w)(hf:(aB w)[k]? =some f):cS t (bS w ((aB w).set k (aE f).1))/\((aE f).2.2=true->oY (bS w ((aB w).set k (aE f).1)) (aE f).2.1):=by
 obtain⟨c,wt,e1,e2⟩:=aCr f;have hset:cS t (bS w ((aB w).set k (aE f).1)):=by
  refine h.set hf (by rw[e1];rfl) (by rw[e1];rfl) (λs m hm=>by rw[e1];exact hm) λx hx=> ?_
  have hv:=aV8 hx.val;rw[e1]at hv ⊢;exact⟨hv,hx.src,hx.dst,hx.xAS,hx.xFrom,hx.next,hx.recv,hx.len,hx.ack,hx.paths⟩
 refine⟨hset,λhb=> ?_⟩;obtain⟨g1,g2⟩:=e2 hb;rw[<- e1]at g1 g2;rw[g1];refine aWw hset (k:=k) ?_ g2;show ((aB w).set k _)[k]? =_;rw[cHo (cEz.1 hf).1]
theorem aW1{t:den tTo}{w:den tNw}{k:Nat}{f:den tFl}(h:cS t w)(hf:(aB w)[k]? =some f)(hs:(aE f).2.2=true):(aE f).2.1.1=(1:Int)/\(aE f).2.1.2.1=f.1/\(aE f).2.1.2.2.1=f.2.1/\(aE f).1.1=f.1:=by
 obtain⟨c,wt,e1,e2⟩:=aCr f;obtain⟨g1,g2⟩:=e2 hs;have hk:k<(aS w).length:=by rw[h.lenB];exact (cEz.1 hf).1
 have hfi:=h.flow k f _ hf (cEx hk);have g3:=g2;unfold sends at g3;rw[cEw]at g3;obtain⟨a0,a1⟩:=aZ.1 g3.1;have hc:c.toNat<f.2.2.2.2.2.1.length:=by
  have a0:0<=c:=a0;have a1:c<=(f.2.2.2.2.2.1.length:Int) - 1:=a1;omega
 obtain⟨p1,p2⟩:=hfi.paths _ (cE9 (cEx hc));have he:=aJg p1 p2;have e:mO (setCW f c wt)=dM 1 (f.2.2.2.2.2.1[c.toNat]'hc) f.2.2.1 f.2.2.2.1 ((f.2.2.2.2.1[f.2.2.2.1.toNat]?).getD []):=by
  unfold mO;rw[zT g2];show dM 1 ((f.2.2.2.2.2.1[c.toNat]?).getD []) _ _ _=_;rw[cEx hc];rfl
 rw[g1,e,e1];refine⟨rfl,?_,?_,rfl⟩
 .show (ends _).1=_;rw[he]
 .show (ends _).2=_;rw[he]
theorem Rnd.other{A:Aim}(hA:rA A){b:Bool}{e:Int×Int->Nat}{m:Nat}{w:den tNw}{k:Nat}(h:Rnd A b (λd=>2+e d) (m+1) w (aH w))(hi:cS A.t w)(hk:k≠A.i):Rnd A b e m (stepT k w) (aH (stepT k w))/\cS A.t (stepT k w):=by
 refine⟨?_,aMn k hi⟩;unfold stepT;split
 .rename_i f hf;obtain⟨i1,i2⟩:=bEl hi hf;have same:(aB (bS w ((aB w).set k (aE f).1)))[A.i]? =(aB w)[A.i]? :=cH5 hk;split
  .rename_i hb;obtain⟨s1,s2,s3,s4⟩:=aW1 hi hf hb;refine Rnd.proc hA (inn:=0) ⟨(h.mid.flows _).mono (λd=>cG6 (aTo _ _) _) (cE8 _),h.flw.same same (λy hy c=> ?_) (λa y hy c=>⟨y,cE7 _ hy,c⟩),λy hy c=> ?_⟩ i1 λ_=>i2 hb
   .rcases cEy.1 hy with hy | hy
    .exfalso;rw[hy]at c;obtain⟨g,g1,g2,_⟩:=h.flw;rcases c with ⟨_,c1,c2⟩ | ⟨c0,_⟩
     .exact hk (hi.one hf g1 (by rw[g2.src,<- c1];exact s2.symm) (by rw[g2.dst,<- c2];exact s3.symm))
     .rw[s1]at c0;exact absurd c0 (by decide)
    .exact⟨y,hy,c⟩
   .rcases cEy.1 hy with hy | hy
    .rw[hy]at c;rw[s1]at c;exact absurd c (by decide)
    .exact h.rev y hy c
  .exact⟨(h.mid.flows _).mono (λd=>cGr _ _) (cFz _),h.flw.same same (λy hy c=>⟨y,hy,c⟩) (λa y hy c=>⟨y,hy,c⟩),h.rev⟩
 .exact⟨h.mid.mono (λd=>cGr _ _) (cFz _),h.flw,h.rev⟩
theorem FC.setCW{A:Aim}{f:den tFl}(h:FC A f){c wt:Int}(c0:0<=c)(c1:c<(A.ps.length:Int))(w0:0<=wt)(w1:wt<=4):FC A (setCW f c wt):=⟨h.src,h.dst,h.ms,h.ps,h.a0,h.a1,c0,c1,w0,w1⟩
theorem FC.sends{A:Aim}{f:den tFl}(h:FC A f)(ha:fL f<(A.ms.length:Int)):sends f=true:=by
 have c0:=h.c0;have c1:=h.c1;have a0:=h.a0;unfold Go.Proofs.YtnkjolpkcmgcaaaGreat.sends;rw[cEw];refine⟨aZ.2 ⟨h.c0,?_⟩,aZ.2 ⟨h.a0,?_⟩⟩
 .rw[h.ps];show fN f<=_;omega
 .rw[h.ms];show fL f<=_;omega
theorem Rnd.own{A:Aim}(hA:rA A){e:Int×Int->Nat}{m:Nat}{w:den tNw}(h:Rnd A false (λd=>2+e d) (m+1) w (aH w))(hi:cS A.t w):Rnd A true e m (stepT A.i w) (aH (stepT A.i w))/\cS A.t (stepT A.i w):=by
 refine⟨?_,aMn A.i hi⟩;obtain⟨f,f1,f2,f3⟩:=h.flw;have f3:bIn A f (aH w):=f3.elim (·.2) λc=>absurd c.1 (by decide)
 obtain⟨g1,g2,g3⟩:=f3;obtain⟨i1,i2⟩:=bEl hi f1;have hlt:=(cEz.1 f1).1;have self:∀g,(aB (bS w ((aB w).set A.i g)))[A.i]? =some g:=λg=>cHo hlt
 have hs:=f2.sends g1;have cn:=hA.cn;have w0:=f2.w0;have w1:=f2.w1;have a0:=f2.a0;have few:=hA.few;have data:∀c wt:Int,c=A.c->sends (setCW f c wt)=true->bOi A (fL f) (A.src,0,mO (setCW f c wt)):=by
  intro c wt hc hsd;have hk:A.i<(aS w).length:=by rw[hi.lenB];exact hlt
  have hv:=(nY f).1 (hi.flow _ f _ f1 (cEx hk)).val;have hms:(f.2.2.2.2.1[f.2.2.2.1.toNat]?).getD []∈f.2.2.2.2.1:=by
   have :f.2.2.2.1.toNat<f.2.2.2.2.1.length:=by
    rw[f2.ms];have key:∀(z:Int) (n:Nat),0<=z->z<(n:Int)->z.toNat<n:=λz n h1 h2=>by omega
    exact key _ _ a0 g1
   rw[cEx this];exact cGh this
  have eq:mO (setCW f c wt)=dM 1 A.q f.2.2.1 (fL f) ((f.2.2.2.2.1[f.2.2.2.1.toNat]?).getD []):=by
   unfold mO;rw[zT hsd];show dM 1 ((f.2.2.2.2.2.1[c.toNat]?).getD []) _ _ _=_;rw[f2.ps,hc,cE0,hA.at_];rfl
  have hends:ends A.q=(A.src,A.dst):=aJg hA.fst_ hA.lst_;rw[eq];have hw:=hA.work.1;rw[hends]at hw;refine⟨hw.set (m:=(1,f.2.2.1,fL f,(f.2.2.2.2.1[f.2.2.2.1.toNat]?).getD [])) ?_,rfl,?_,?_,rfl,rfl⟩
  .unfold okM;simp only[cEw];refine⟨by decide,hv.2.2.2.1,aZ.2 ⟨a0,by omega⟩,?_⟩;rw[zR];have :=hv.2.2.2.2.2.2.2.1 _ hms;omega
  .show (ends A.q).1=A.src;rw[hends]
  .show (ends A.q).2=A.dst;rw[hends]
 have rest:∀(c wt:Int),aE f=(setCW f c wt,mO (setCW f c wt),true)->sends (setCW f c wt)=true->0<=c->c<(A.ps.length:Int)->wt=1->(c=A.c->2 * ((A.ms.length:Int) - fL f)+4<=A.m)->(c≠A.c->muF A (setCW f c wt)+1<=A.m)->Rnd A true e m (stepT A.i w) (aH (stepT A.i w)):=by
  intro c wt ht hsd c0 c1 hw hT hS;subst hw;have hfc:=f2.setCW c0 c1 (show (0:Int)<=1 by decide) (show (1:Int)<=4 by decide);obtain⟨s1,s2,s3,s4⟩:=aW1 hi f1 (by rw[ht]);rw[ht]at i1 i2 s1 s2 s3;have est:stepT A.i w=dW (bS w ((aB w).set A.i (setCW f c 1))) A.src 0 (mO (setCW f c 1)):=by
   unfold stepT;rw[f1];show (if (aE f).2.2=true then dW (bS w ((aB w).set A.i (aE f).1)) (aE f).1.1 0 (aE f).2.1 else _)=_;rw[ht];show dW _ (setCW f c 1).1 0 _=_;rw[show (setCW f c 1).1=A.src from f2.src]
  rw[est];refine Rnd.proc hA ⟨(h.mid.flows _).mono (λd=>cG6 (aTo _ _) _) (cE8 _),⟨_,self _,hfc,.inr ⟨rfl,?_⟩⟩,λy hy c=> ?_⟩ i1 λ_=>i2 rfl
  .by_cases hc:c=A.c
   .exact .inr ⟨hc,rfl,g1,hT hc,_,cFb ..,.inl (data c 1 hc hsd)⟩
   .exact .inl ⟨hS hc,.inl (show (1:Int)<=1 by decide)⟩
  .rcases cEy.1 hy with hy | hy
   .rw[hy]at c;rw[s1]at c;exact absurd c (by decide)
   .exact h.rev y hy c
 by_cases h0:eW f=0
 .have ht:aE f=(setCW f (fN f) 1,mO f,true):=by
   unfold aE;rw[hs];have :(f.2.2.2.2.2.2.2.1==0)=true:=by rw[beq_iff_eq];exact h0
   rw[this];rfl
  have e1:mO f=mO (setCW f (fN f) 1):=rfl;rw[e1]at ht;have hm:muF A f=2 * ((A.ms.length:Int) - fL f)+(5 - 0)+6 * tP A.ps.length A.c (fN f) 0:=by unfold muF;rw[h0]
  have fp:=(bAx (n:=A.ps.length) (c:=A.c) (cur:=fN f) (w:=0) (by omega) cn f2.c0 f2.c1).1;refine rest _ 1 ht hs f2.c0 f2.c1 rfl (λhc=>by omega) λhc=> ?_
  have e2:muF A (setCW f (fN f) 1)=2 * ((A.ms.length:Int) - fL f)+(5 - 1)+6 * tP A.ps.length A.c (fN f) 1:=rfl;rw[e2,bB7 hc];omega
 .by_cases h4:eW f=4
  .have hn:=aMz (n:=A.ps.length) (c:=A.c) (cur:=fN f) (w:=eW f) (by omega) cn f2.c0 f2.c1 (.inr h0);have hs2:sends (setCW f (lJ f) 1)=true:=by
    have :FC A (setCW f (lJ f) 1):=f2.setCW (by rw[aD1 hA f2];exact hn.1) (by rw[aD1 hA f2];exact hn.2.1) (by decide) (by decide);exact this.sends g1
   have ht:aE f=(setCW f (lJ f) 1,mO (setCW f (lJ f) 1),true):=by
    unfold aE;rw[hs];have a:(f.2.2.2.2.2.2.2.1==0)=false:=by rw[beq_eq_false_iff_ne];exact h0
    have b:(f.2.2.2.2.2.2.2.1==4)=true:=by rw[beq_iff_eq];exact h4
    rw[a,b,hs2];rfl
   have hm:muF A f=2 * ((A.ms.length:Int) - fL f)+(5 - 4)+6 * tP A.ps.length A.c (fN f) (eW f):=by unfold muF;rw[<- h4]
   refine rest _ 1 ht hs2 (by rw[aD1 hA f2];exact hn.1) (by rw[aD1 hA f2];exact hn.2.1) rfl (λhc=>by omega) λhc=> ?_
   have e2:muF A (setCW f (lJ f) 1)=2 * ((A.ms.length:Int) - fL f)+(5 - 1)+6 * tP A.ps.length A.c (lJ f) 1:=rfl;rw[e2,bB7 hc,aD1 hA f2];omega
  .have e:wr (eW f+1)=eW f+1:=wri (by omega) (by omega);have ht:aE f=(setCW f (fN f) (eW f+1),pk0,false):=by
    unfold aE;rw[hs];have a:(f.2.2.2.2.2.2.2.1==0)=false:=by rw[beq_eq_false_iff_ne];exact h0
    have b:(f.2.2.2.2.2.2.2.1==4)=false:=by rw[beq_eq_false_iff_ne];exact h4
    rw[a,b,<- e];rfl
   have est:stepT A.i w=bS w ((aB w).set A.i (setCW f (fN f) (eW f+1))):=by
    unfold stepT;rw[f1];show (if (aE f).2.2=true then _ else bS w ((aB w).set A.i (aE f).1))=_;rw[ht];rfl
   rw[est];refine⟨(h.mid.flows _).mono (λd=>cGr _ _) (cFz _),⟨_,self _,f2.setCW f2.c0 f2.c1 (by omega) (by omega),.inr ⟨rfl,.inl ⟨?_,.inr g3⟩⟩⟩,h.rev⟩;have e2:muF A (setCW f (fN f) (eW f+1))=2 * ((A.ms.length:Int) - fL f)+(5 - (eW f+1))+6 * tP A.ps.length A.c (fN f) (eW f+1):=rfl;have e3:tP A.ps.length A.c (fN f) (eW f+1)=tP A.ps.length A.c (fN f) (eW f):=by
    unfold tP;rw[zS (show ¬ eW f+1=0 by omega),zS h0]
   have e4:muF A f=2 * ((A.ms.length:Int) - fL f)+(5 - eW f)+6 * tP A.ps.length A.c (fN f) (eW f):=rfl;rw[e2,e3];omega
theorem Rnd.ticks{A:Aim}(hA:rA A):∀(n k:Nat) {w:den tNw},Rnd A (decide (A.i<k)) (λ_=>2 * n) n w (aH w)->cS A.t w->Rnd A (decide (A.i<k+n)) (λ_=>2 * 0) 0 (tickL k n w) (aH (tickL k n w))/\cS A.t (tickL k n w)
 | 0,k,w,h,hi=>⟨h,hi⟩
 | n+1,k,w,h,hi=>by
  have h':Rnd A (decide (A.i<k)) (λd=>2+(λ_=>2 * n) d) (n+1) w (aH w):=⟨h.mid.mono (λd=>by show 2+2 * n<=2 * (n+1);omega) (cE8 _),h.flw,h.rev⟩
  show Rnd A _ _ 0 (tickL (k+1) n (stepT k w)) (aH (tickL (k+1) n (stepT k w)))/\cS A.t (tickL (k+1) n (stepT k w));have goal:Rnd A (decide (A.i<k+1)) (λ_=>2 * n) n (stepT k w) (aH (stepT k w))/\cS A.t (stepT k w):=by
   by_cases hk:k=A.i
   .subst hk;rw[zW (Nat.lt_irrefl _)]at h';rw[zX (Nat.lt_succ_self _)];exact h'.own hA hi
   .have e:decide (A.i<k+1)=decide (A.i<k):=by
     rw[Bool.eq_iff_iff,zR,zR];omega
    rw[e];exact h'.other hA hi hk
  have r:=Rnd.ticks hA n (k+1) goal.1 goal.2;rw[show k+1+n=k+(n+1) by omega]at r;exact r
theorem bSr{A:Aim}(hA:rA A){w:den tNw}(hi:cS A.t w)(h0:aH w=[])(hl:(aB w).length<=3)(hn:wr (aI w+1)=A.now)(hlt: ¬ aI w>=1000000)(hd:aJ w=A.dead)
  (hc:∀s d:Int,6<=free (vL (nG w).2.1 A.now) (nG w).1 s d A.now) {f:den tFl} (hf:(aB w)[A.i]? =some f) (hF:FC A f) (ha:fL f<(A.ms.length:Int)) (hm:muF A f<=A.m):
  ∃f',(aB (mX w))[A.i]? =some f'/\FC A f'/\muF A f'+1<=A.m:=by
 have m0:Mid A.t A.now A.dead (λ_=>2 * 3) 3 (tick0 w):=bNt hi.top hn hd (by rw[<- hn]at hc ⊢;exact hc) rfl h0;have i0:cS A.t (tick0 w):=hi.same rfl rfl rfl λy hy=> .inl hy
 have f0:aH (tick0 w)=[]:=h0;have r0:Rnd A (decide (A.i<0)) (λ_=>2 * (aB w).length) (aB w).length (tick0 w) (aH (tick0 w)):=by
  refine⟨m0.mono (λd=>by show 2 * _<=2 * 3;omega) hl,⟨f,hf,hF,.inl ⟨rfl,ha,hm,λy hy=> ?_⟩⟩,λy hy=> ?_⟩
  .rw[f0]at hy;cases hy
  .rw[f0]at hy;cases hy
 obtain⟨r1,i1⟩:=Rnd.ticks hA _ _ r0 i0;rw[cFs,zX (cEz.1 hf).1]at r1;obtain⟨r2,i2⟩:=r1.del hA 2000 i1;have er:mX w=delW 2000 (tickL 0 (aB w).length (tick0 w)):=by
  unfold mX dA;rw[zS hlt]
 rw[<- er]at r2;have e0:aH (mX w)=[]:=aO8 (by omega) h0;obtain⟨f',g1,g2,g3⟩:=r2.flw;refine⟨f',g1,g2,?_⟩;rcases g3 with ⟨hb,_⟩ | ⟨_,⟨g3,_⟩ | ⟨_,_,_,_,y,hy,_⟩⟩
 .cases hb
 .exact g3
 .rw[e0]at hy;cases hy
structure aNf (w w':den tNw):Prop where
 cap:(nG w').1=(nG w).1
 res:(nG w').2.1=(nG w).2.1
 flow:aB w'=aB w\/ ∃r p,aB w'=(aB w).map (cX r p)
theorem aW4(w:den tNw)(r eg:Int)(p:den tPk):aNf w (gM w r eg p)/\aB (gM w r eg p)=aB w:=by
 have tr:∀(g:den tSc) (id s d now:Int),(gX g id s d now).1=g.1/\(gX g id s d now).2.2.1=g.2.1:=λg id s d now=>by
  unfold gX;split
  .exact⟨rfl,rfl⟩
  .split<;>exact⟨rfl,rfl⟩
 unfold gM;split
 .exact⟨⟨(tr _ _ _ _ _).1,(tr _ _ _ _ _).2,.inl rfl⟩,rfl⟩
 .exact⟨⟨rfl,rfl,.inl rfl⟩,rfl⟩
theorem aSi(w:den tNw)(r inn:Int)(p:den tPk):aNf w (proc0 w r inn p):=by
 unfold proc0;split
 .exact (aW4 _ _ _ _).1
 .split
  .exact⟨rfl,rfl,.inr ⟨_,_,rfl⟩⟩
  .exact⟨rfl,rfl,.inl rfl⟩
theorem bNd(w:den tNw)(r:Int)(p:den tPk):aNf w (qJ w r p):=by
 unfold qJ;split
 .exact⟨rfl,rfl,.inl rfl⟩
 .split
  .have h:=aSi (oB w (dU (aS w) r p.2.1).toNat (cM (iV w (dU (aS w) r p.2.1).toNat) p)) r 0 (jT (cM (iV w (dU (aS w) r p.2.1).toNat) p) p);exact⟨h.cap,h.res,h.flow⟩
  .exact⟨rfl,rfl,.inl rfl⟩
theorem bK1(w:den tNw)(r d:Int)(p:den tPk):aNf w (tA w r d p):=by
 unfold tA;split
 .have h:=aSi w r 0 (cB r (aI w) d p);exact⟨h.cap,h.res,h.flow⟩
 .exact⟨rfl,rfl,.inr ⟨_,_,rfl⟩⟩
theorem aAz(w:den tNw)(r inn:Int)(p:den tPk):aNf w (dW w r inn p):=by
 unfold dW;split
 .exact (aW4 _ _ _ _).1
 .split
  .split
   .exact bNd _ _ _
   .exact⟨rfl,rfl,.inr ⟨_,_,rfl⟩⟩
  .split
   .exact bK1 _ _ _ _
   .exact⟨rfl,rfl,.inl rfl⟩
def gY(P:Nat->den tFl->Prop)(w:den tNw):Prop:= ∀(k:Nat) (f:den tFl),(aB w)[k]? =some f->P k f
theorem gY.eq{P:Nat->den tFl->Prop}{w w':den tNw}(h:gY P w)(e:aB w'=aB w):gY P w':=λk f hf=>h k f (by rw[<- e];exact hf)
theorem gY.tame{P:Nat->den tFl->Prop}(hT:∀k r q f,P k f->P k (cX r q f)){w w':den tNw}(h:gY P w)(t:aNf w w'):gY P w':=by
 rcases t.flow with e | ⟨r,p,e⟩
 .exact h.eq e
 .intro k f hf;rw[e,cGy]at hf;obtain⟨g,hg,rfl⟩:=cFr.1 hf;exact hT k r p g (h k g hg)
theorem gY.out{P:Nat->den tFl->Prop}(hT:∀k r q f,P k f->P k (cX r q f)){w:den tNw}(h:gY P w):gY P (outW w):=by
 unfold outW;split
 .exact h
 .rename_i x l hf;exact gY.tame hT (w:=cC w l) (h.eq rfl) (aAz _ _ _ _)
theorem gY.del{P:Nat->den tFl->Prop}(hT:∀k r q f,P k f->P k (cX r q f)):∀(n:Nat) {w:den tNw},gY P w->gY P (delW n w)
 | 0,_,h=>h
 | n+1,w,h=>by
  unfold delW;split
  .exact h
  .exact gY.del hT n (h.out hT)
theorem gY.set{P:Nat->den tFl->Prop}{w:den tNw}(h:gY P w){k:Nat}{g:den tFl}(hg:P k g):gY P (bS w ((aB w).set k g)):=by
 intro j f hf;have hf:((aB w).set k g)[j]? =some f:=hf
 by_cases e:k=j
 .subst e;rw[cG3]at hf;simp only[zV]at hf;split at hf
  .injection hf with hf;subst hf;exact hg
  .cases hf
 .rw[cH5 e]at hf;exact h j f hf
theorem gY.tickT{P:Nat->den tFl->Prop}(hT:∀k r q f,P k f->P k (cX r q f))(hK:∀k f,P k f->P k (aE f).1)(k:Nat){w:den tNw}(h:gY P w):gY P (stepT k w):=by
 unfold stepT;split
 .rename_i f hf;have h1:gY P (bS w ((aB w).set k (aE f).1)):=h.set (hK k f (h k f hf));split
  .exact h1.tame hT (aAz _ _ _ _)
  .exact h1
 .exact h
theorem gY.tickL{P:Nat->den tFl->Prop}(hT:∀k r q f,P k f->P k (cX r q f))(hK:∀k f,P k f->P k (aE f).1):∀(n k:Nat) {w:den tNw},gY P w->gY P (tickL k n w)
 | 0,_,_,h=>h
 | n+1,k,w,h=>gY.tickL hT hK n (k+1) (gY.tickT hT hK k h)
theorem gY.tick{P:Nat->den tFl->Prop}(hT:∀k r q f,P k f->P k (cX r q f))(hK:∀k f,P k f->P k (aE f).1){w:den tNw}(h:gY P w):gY P (dA w):=by
 unfold dA;split
 .exact h
 .exact gY.tickL hT hK _ _ (w:=tick0 w) (h.eq rfl)
theorem gY.round{P:Nat->den tFl->Prop}(hT:∀k r q f,P k f->P k (cX r q f))(hK:∀k f,P k f->P k (aE f).1){w:den tNw}(h:gY P w):gY P (mX w):=(h.tick hT hK).del hT _
theorem gY.rounds{P:Nat->den tFl->Prop}(hT:∀k r q f,P k f->P k (cX r q f))(hK:∀k f,P k f->P k (aE f).1):∀(n:Nat) {w:den tNw},gY P w->gY P (bZ n w)
 | 0,_,h=>h
 | n+1,w,h=>gY.rounds hT hK n (h.round hT hK)
theorem aQg{w w':den tNw}(t:aNf w w'):(aB w').length=(aB w).length:=by
 rcases t.flow with e | ⟨r,p,e⟩
 .rw[e]
 .rw[e,cFt]
structure fA (w:den tNw):Prop where
 cap:(nG w).1=(12:Int)
 low:∀s d now:Int,rs s d now (nG w).2.1<=6
 pos:∀x∈(nG w).2.1,(0:Int)<=x.2.2.2.1/\(20:Int)>=x.2.2.2.1
 few:(aB w).length<=3
 pth:gY (λ_ f=>f.2.2.2.2.2.1.length<=4) w
theorem bRf:∀(k:Nat) (r:Int) (q:den tPk) (f:den tFl),f.2.2.2.2.2.1.length<=4->(cX r q f).2.2.2.2.2.1.length<=4:=λk r q f h=>by
 unfold cX;split
 .split
  .unfold kC;split<;>exact h
  .unfold iT;cases q.1==3&&(qE q.2.2.2.2.2.2.2.2.2).2.2.2<;>exact h
 .exact h
theorem bSt:∀(k:Nat) (f:den tFl),f.2.2.2.2.2.1.length<=4->(aE f).1.2.2.2.2.2.1.length<=4:=λk f h=>by
 obtain⟨c,wt,e,_⟩:=aCr f;rw[e];exact h
theorem fA.tame{w w':den tNw}(h:fA w)(t:aNf w w'):fA w':=⟨t.cap.trans h.cap,by rw[t.res];exact h.low,by rw[t.res];exact h.pos,by rw[aQg t];exact h.few,h.pth.tame bRf t⟩
theorem fA.fly{w:den tNw}(h:fA w)(l:lFy):fA (cC w l):=⟨h.cap,h.low,h.pos,h.few,h.pth.eq rfl⟩
theorem fA.out{w:den tNw}(h:fA w):fA (outW w):=by
 unfold outW;split
 .exact h
 .rename_i x l _;exact (h.fly l).tame (aAz _ _ _ _)
theorem fA.del:∀(n:Nat) {w:den tNw},fA w->fA (delW n w)
 | 0,_,h=>h
 | n+1,w,h=>by
  unfold delW;split
  .exact h
  .exact fA.del n h.out
theorem fA.set{w:den tNw}(h:fA w){k:Nat}{g:den tFl}(hg:g.2.2.2.2.2.1.length<=4):fA (bS w ((aB w).set k g)):=⟨h.cap,h.low,h.pos,by show ((aB w).set k g).length<=3;rw[cF8];exact h.few,h.pth.set hg⟩
theorem fA.tickT(k:Nat){w:den tNw}(h:fA w):fA (stepT k w):=by
 unfold stepT;split
 .rename_i f hf;have h1:fA (bS w ((aB w).set k (aE f).1)):=h.set (bSt k f (h.pth k f hf));split
  .exact h1.tame (aAz _ _ _ _)
  .exact h1
 .exact h
theorem fA.tickL:∀(n k:Nat) {w:den tNw},fA w->fA (tickL k n w)
 | 0,_,_,h=>h
 | n+1,k,w,h=>fA.tickL n (k+1) (h.tickT k)
theorem fA.tick0{w:den tNw}(h:fA w):fA (tick0 w):=by
 refine⟨h.cap,λs d now=> ?_,λx hx=> ?_,h.few,h.pth.eq rfl⟩
 .show rs s d now (vL (nG w).2.1 (wr (aI w+1)))<=6;exact cGa (aNx _ h.pos) (h.low s d now)
 .have hx:x∈vL (nG w).2.1 (wr (aI w+1)):=hx;exact h.pos x ((cFc.1 hx).1)
theorem fA.tick{w:den tNw}(h:fA w):fA (dA w):=by
 unfold dA;split
 .exact h
 .exact fA.tickL _ _ h.tick0
theorem fA.round{w:den tNw}(h:fA w):fA (mX w):=h.tick.del _
theorem fA.event{w:den tNw}(h:fA w)(e:den iJ):fA (doW w e).2:=by
 unfold doW;split
 .exact h.tick
 split
 .split
  .exact (fA.fly h _).tame (aAz _ _ _ _)
  .exact h
 split
 .split
  .have :=h.fly ((aB4 w e.2.1.toNat).2.2.2.2.2.1);exact⟨h.cap,h.low,h.pos,h.few,h.pth.eq rfl⟩
  .exact h
 split
 .split
  .exact h.fly _
  .exact h
 split
 .have hl:aB (yC w e.2.1 (e.1==5))=aB w/\nG (yC w e.2.1 (e.1==5))=nG w:=by unfold yC;first | exact⟨rfl,rfl⟩ | (split<;>exact⟨rfl,rfl⟩)
  exact⟨by rw[hl.2];exact h.cap,by rw[hl.2];exact h.low,by rw[hl.2];exact h.pos,by rw[hl.1];exact h.few,h.pth.eq hl.1⟩
 split
 .split
  .exact h.fly _
  .exact h
 split
 .split
  .rename_i f _ hf;refine h.set ?_;have hp:=h.pth _ _ hf;unfold aHm
   first | exact hp | (split<;>exact hp)
  .exact h
 .exact h
theorem bOg{w:den tNw}(h:fA w)(ho:OkS (nG w) (aI w))(hn:wr (aI w+1)=aI w+1):∀s d:Int,6<=free (vL (nG w).2.1 (aI w+1)) (nG w).1 s d (aI w+1):=by
 intro s d;have ht:=ho.tick (now':=aI w+1) (by omega);have hc:(nG w).1=(12:Int):=h.cap;have e:=bD4 (l:=vL (nG w).2.1 (aI w+1)) (cap:=(nG w).1) (now:=aI w+1) ht.res (by rw[hc];decide) s d;rw[e,aWk,hc];have :=h.low s d (aI w+1);omega
theorem bX.outW(w:den tNw):bX w (outW w):=by
 unfold Go.Proofs.YtnkjolpkcmgcaaaGreat.outW;split
 .exact bX.refl w
 .rename_i x l hf;have hs:bX w (cC w l):=⟨rfl,rfl,id,λy hy=> .inl (by rw[hf];exact cE7 _ hy),λhn=>by
   rw[hf]at hn;show l.length<=150;simp only[cFw]at hn;omega⟩
  exact hs.trans (bX.proc _ _ _ _)
theorem bX.delW:∀(n:Nat) (w:den tNw),bX w (delW n w)
 | 0,w=>bX.refl w
 | n+1,w=>by
  unfold Go.Proofs.YtnkjolpkcmgcaaaGreat.delW;split
  .exact bX.refl w
  .exact (bX.outW w).trans (bX.delW n _)
theorem bO5{w:den tNw}(h0:0<=aI w)(h:aI w+1<=1000000):aI (mX w)=aI w+1:=by
 have e1:aI (mX w)=aI (dA w):=(bX.delW 2000 (dA w)).now;have e2:dA w=tickL 0 (aB w).length (tick0 w):=by
  unfold dA;rw[zS (show ¬ aI w>=1000000 by omega)]
 have e3:aI (tickL 0 (aB w).length (tick0 w))=aI (tick0 w):=(bX.tickL _ _ _).now;have e4:aI (tick0 w)=wr (aI w+1):=rfl;rw[e1,e2,e3,e4,bJ (by omega) (by omega)]
theorem aR6:∀(n:Nat) (w:den tNw),aJ (delW n w)=aJ w
 | 0,_=>rfl
 | n+1,w=>by
  unfold delW;split
  .rfl
  .exact (aR6 n (outW w)).trans (bN6 w)
theorem bKp(w:den tNw):aJ (mX w)=aJ w:=(aR6 2000 (dA w)).trans (aLu w)
theorem bV0(w:den tNw):(aB (outW w)).length=(aB w).length:=by
 unfold outW;split
 .rfl
 .exact (aQg (aAz _ _ _ _)).trans rfl
theorem bFl:∀(n:Nat) (w:den tNw),(aB (delW n w)).length=(aB w).length
 | 0,_=>rfl
 | n+1,w=>by
  unfold delW;split
  .rfl
  .exact (bFl n (outW w)).trans (bV0 w)
theorem bL7(k:Nat)(w:den tNw):(aB (stepT k w)).length=(aB w).length:=by
 unfold stepT;split
 .split
  .exact (aQg (aAz _ _ _ _)).trans (by show ((aB w).set k _).length=_;rw[cF8])
  .show ((aB w).set k _).length=_;rw[cF8]
 .rfl
theorem aXa:∀(n k:Nat) (w:den tNw),(aB (tickL k n w)).length=(aB w).length
 | 0,_,_=>rfl
 | n+1,k,w=>by
  unfold tickL;exact (aXa n (k+1) (stepT k w)).trans (bL7 k w)
theorem aWb(w:den tNw):(aB (mX w)).length=(aB w).length:=by
 refine (bFl 2000 (dA w)).trans ?_;unfold dA;split
 .rfl
 .exact aXa _ 0 (tick0 w)
theorem aG4{t:den tTo}{B k d:Nat}{w:den tNw}(h:gW t B k d w)(hc:fA w)(n:Nat):k+n<=1000->d+n * 4008<=800000000->gW t (B+n * 328656) (k+n) (d+n * 4008) (bZ n w)/\fA (bZ n w)/\aI (bZ n w)=aI w+n/\aJ (bZ n w)=aJ w/\(aB (bZ n w)).length=(aB w).length:=by
 induction n with
 | zero=>
  intro _ _;exact⟨h.mono (by omega) (by omega) (by omega),hc,by show aI w=aI w+((0:Nat):Int);omega,rfl,rfl⟩
 | succ n ih=>
  intro hk hd;obtain⟨a,b,c,e,g⟩:=ih (by omega) (by omega);have hlo:=h.run.lo;have hhi:=h.run.hi;rw[aDi];refine⟨(gW.step a (by omega) (by omega)).mono (by omega) (by omega) (by omega),b.round,?_,(bKp _).trans e,(aWb _).trans g⟩;rw[bO5 (by omega) (by omega),c];omega
theorem bHc{t:den tTo}{B k d:Nat}{w:den tNw}(h:gW t B k d w)(hc:fA w)(n:Nat):k+n<=1000->d+n * 4008<=800000000->aH (bZ n w)=[]\/gI (bZ n w)+1440 * n<=gI w:=by
 induction n with
 | zero=>intro _ _;exact .inr (cE8 _)
 | succ n ih=>
  intro hk hd;have hf:=(aG4 h hc n (by omega) (by omega)).2.1.few;rw[aDi];rcases ih (by omega) (by omega) with g | g
  .exact .inl (aO8 (by omega) g)
  .rcases aRo (w:=bZ n w) (by omega) with g2 | g2
   .exact .inl g2
   .exact .inr (by omega)
theorem bA0{t:den tTo}{B k d:Nat}{w:den tNw}(h:gW t B k d w)(hc:fA w){n:Nat}(hn:15<=n)(hk:k+n<=1000)(hd:d+n * 4008<=800000000):aH (bZ n w)=[]:=by
 rcases bHc h hc n hk hd with g | g
 .exact g
 .have h1:=bEb (aH w);have h2:=h.run.flyN;have h3:gI w=aFt (aH w):=rfl;have h4:140 * (aH w).length<=140 * 150:=Nat.mul_le_mul_left _ h2;omega
def aCc(f0 f:den tFl):Prop:=f.1=f0.1/\f.2.1=f0.2.1/\f.2.2.2.2.1=f0.2.2.2.2.1/\f.2.2.2.2.2.1=f0.2.2.2.2.2.1
theorem aCc.trans{a b c:den tFl}(h:aCc a b)(k:aCc b c):aCc a c:=⟨k.1.trans h.1,k.2.1.trans h.2.1,k.2.2.1.trans h.2.2.1,k.2.2.2.trans h.2.2.2⟩
theorem bPh(r:Int)(q:den tPk)(f:den tFl):aCc f (cX r q f):=by
 unfold cX;split
 .split
  .unfold kC;split<;>exact⟨rfl,rfl,rfl,rfl⟩
  .unfold iT;cases q.1==3&&(qE q.2.2.2.2.2.2.2.2.2).2.2.2<;>exact⟨rfl,rfl,rfl,rfl⟩
 .exact⟨rfl,rfl,rfl,rfl⟩
theorem bO2(f:den tFl):aCc f (aE f).1:=by
 obtain⟨c,wt,e,_⟩:=aCr f;rw[e];exact⟨rfl,rfl,rfl,rfl⟩
def bTp(i:Nat)(f0:den tFl)(k:Nat)(f:den tFl):Prop:=k=i->aCc f0 f
theorem aI9{w:den tNw}{i:Nat}{f0:den tFl}(hf:(aB w)[i]? =some f0)(n:Nat){f:den tFl}(h:(aB (bZ n w))[i]? =some f):aCc f0 f:=by
 have a:gY (bTp i f0) w:=λk g hg e=>by
  rw[e,hf]at hg;injection hg with hg;rw[hg];exact⟨rfl,rfl,rfl,rfl⟩
 exact gY.rounds (P:=bTp i f0) (λk r q g hg e=>(hg e).trans (bPh r q g)) (λk g hg e=>(hg e).trans (bO2 g)) n a i f h rfl
def aCf(f:den tFl):Prop:=f.2.2.2.1=(f.2.2.2.2.1.length:Int)
theorem bK3{r:Int}{q:den tPk}{f:den tFl}(h:aCf f):aCf (cX r q f):=by
 have ha:aDl f q=false:=by
  have e:inR f.2.2.2.1 0 ((f.2.2.2.2.1.length:Int) - 1)=false:=by
   have h:f.2.2.2.1=(f.2.2.2.2.1.length:Int):=h;rw[h];cases c:inR (f.2.2.2.2.1.length:Int) 0 ((f.2.2.2.2.1.length:Int) - 1) with
   | false=>rfl
   | true=>have :=(aZ.1 c).2;omega
  unfold aDl;rw[e];simp
 unfold cX;split
 .split
  .unfold kC;rw[ha];exact h
  .unfold iT;cases q.1==3&&(qE q.2.2.2.2.2.2.2.2.2).2.2.2<;>exact h
 .exact h
theorem bMh{f:den tFl}(h:aCf f):aCf (aE f).1:=by
 obtain⟨c,wt,e,_⟩:=aCr f;rw[e];exact h
def mkA(t:den tTo)(dead:List Int)(f0:den tFl)(c:Nat)(q:den tPt)(i:Nat)(now m:Int):Aim:=⟨t,now,dead,f0.1,f0.2.1,f0.2.2.2.2.1,f0.2.2.2.2.2.1,c,q,i,m⟩
theorem bJk{t:den tTo}{dead:List Int}{f0:den tFl}{c:Nat}{q:den tPt}{i:Nat}{now m:Int}{f:den tFl}(hv:lV f=true)(hs:aCc f0 f)(hp:0<f0.2.2.2.2.2.1.length):FC (mkA t dead f0 c q i now m) f:=by
 rw[nY]at hv;obtain⟨q1,q2,q3,q4,q5,q6,q7,q8,q9,q10,q11,q12⟩:=hv;obtain⟨s1,s2,s3,s4⟩:=hs;obtain⟨a0,a1⟩:=aZ.1 q6;obtain⟨w0,w1⟩:=aZ.1 q11;rw[s3]at a1;rw[s4]at q10;refine⟨s1,s2,s3,s4,a0,a1,?_,?_,w0,w1⟩
 .rcases q10 with e | e
  .show 0<=f.2.2.2.2.2.2.1;rw[e];exact cFx _
  .exact (aZ.1 e).1
 .show f.2.2.2.2.2.2.1<(f0.2.2.2.2.2.1.length:Int);rcases q10 with e | e
  .rw[e];exact Int.ofNat_lt.2 hp
  .have key:∀a b:Int,a<=b - 1->a<b:=λa b h=>by omega
   exact key _ _ (aZ.1 e).2
theorem aV7{A:Aim}(hA:A.c<A.ps.length){f:den tFl}(h:FC A f):0<=muF A f/\muF A f<=2 * (A.ms.length:Int)+5+6 * (A.ps.length:Int):=by
 have a0:=h.a0;have a1:=h.a1;have w0:=h.w0;have w1:=h.w1;obtain⟨f0,f1⟩:=bAx (n:=A.ps.length) (c:=A.c) (cur:=fN f) (w:=eW f) (by omega) (by omega) h.c0 h.c1;unfold muF;constructor<;>omega
theorem bDm{t:den tTo}{B k d:Nat}{w:den tNw}(h:gW t B k d w)(hc:fA w){i:Nat}{f0:den tFl}(hf:(aB w)[i]? =some f0){c:Nat}{q:den tPt}(hq:f0.2.2.2.2.2.1[c]? =some q)(N:Nat)(hN:k+N<=1000)(hd:d+N * 4008<=800000000)
  (hw:∀τ:Int,aI w<=τ->τ<=aI w+N->aO0 t τ (aJ w) q) (hn:15+(2 * f0.2.2.2.2.1.length+5+6 * f0.2.2.2.2.2.1.length)+1<=N):
  ∃f,(aB (bZ N w))[i]? =some f/\aCf f/\aCc f0 f:=by
 have hcl:c<f0.2.2.2.2.2.1.length:=(cEz.1 hq).1;have hil:i<(aB w).length:=(cEz.1 hf).1;have hlo:=h.run.lo;have hhi:=h.run.hi;have hb:i<(aS w).length:=by rw[h.inv.lenB];exact hil
 have hI:=h.inv.flow i f0 _ hf (cEx hb);have hv0:=(nY f0).1 hI.val;obtain⟨_,_,_,_,v5,_,v7,_⟩:=hv0;have hends:=hI.paths q (cE9 hq);have key:∀m:Nat,15+m<=N-> ∃f,(aB (bZ (15+m) w))[i]? =some f/\(aCf f\/muF (mkA t (aJ w) f0 c q i 0 0) f+m<=2 * (f0.2.2.2.2.1.length:Int)+5+6 * (f0.2.2.2.2.2.1.length:Int)):=by
  intro m
  induction m with
  | zero=>
   intro hm;obtain⟨a1,a2,a3,a4,a5⟩:=aG4 h hc 15 (by omega) (by omega);have hl:i<(aB (bZ 15 w)).length:=by rw[a5];exact hil
   refine⟨_,cEx hl,.inr ?_⟩;have hb:i<(aS (bZ 15 w)).length:=by rw[a1.inv.lenB];exact hl
   have hv:=(a1.inv.flow i _ _ (cEx hl) (cEx hb)).val;have hF:FC (mkA t (aJ w) f0 c q i 0 0) _:=bJk hv (aI9 hf 15 (cEx hl)) (by omega);have :=(aV7 (A:=mkA t (aJ w) f0 c q i 0 0) hcl hF).2;have this:muF (mkA t (aJ w) f0 c q i 0 0) _<=2 * (f0.2.2.2.2.1.length:Int)+5+6 * (f0.2.2.2.2.2.1.length:Int):=this;omega
  | succ m ih=>
   intro hm;obtain⟨f,hf',hor⟩:=ih (by omega);obtain⟨a1,a2,a3,a4,a5⟩:=aG4 h hc (15+m) (by omega) (by omega);have e0:=bA0 h hc (n:=15+m) (by omega) (by omega) (by omega);have hS:=aI9 hf (15+m) hf';rw[show 15+(m+1)=15+m+1 by omega,aDi];have hl:i<(aB (bZ (15+m) w)).length:=(cEz.1 hf').1;have hb:i<(aS (bZ (15+m) w)).length:=by rw[a1.inv.lenB];exact hl
   have hv:=(a1.inv.flow i _ _ hf' (cEx hb)).val;have hl2:i<(aB (mX (bZ (15+m) w))).length:=by rw[aWb];exact hl
   by_cases hD:aCf f
   .refine⟨_,cEx hl2,.inl ?_⟩;have a:gY (λk g=>k=i->aCf g) (bZ (15+m) w):=λk g hg e=>by
     rw[e,hf']at hg;injection hg with hg;rw[<- hg];exact hD
    exact gY.round (P:=λk g=>k=i->aCf g) (λk r q g hg e=>bK3 (hg e)) (λk g hg e=>bMh (hg e)) a i _ (cEx hl2) rfl
   .have hmu:muF (mkA t (aJ w) f0 c q i 0 0) f+m<=2 * (f0.2.2.2.2.1.length:Int)+5+6 * (f0.2.2.2.2.2.1.length:Int):=hor.elim (λg=>absurd g hD) id;have hF:∀now m',FC (mkA t (aJ w) f0 c q i now m') f:=λnow m'=>bJk hv hS (by omega)
    have hlt:fL f<(f0.2.2.2.2.1.length:Int):=by
     have h1:fL f<=(f0.2.2.2.2.1.length:Int):=(hF 0 0).a1;have h2: ¬ fL f=(f.2.2.2.2.1.length:Int):=hD;rw[hS.2.2.1]at h2;omega
    have wn:wr (aI (bZ (15+m) w)+1)=aI (bZ (15+m) w)+1:=bJ (by omega) (by omega);have hwk:=hw (aI (bZ (15+m) w)+1) (by omega) (by omega);have hA:rA (mkA t (aJ w) f0 c q i (aI (bZ (15+m) w)+1) (muF (mkA t (aJ w) f0 c q i 0 0) f)):=⟨hq,hwk,hends.1,hends.2,v5,v7⟩
    obtain⟨f',g1,g2,g3⟩:=bSr hA (w:=bZ (15+m) w) a1.inv e0 a2.few wn (by omega) a4 (bOg a2 a1.run.gate wn) hf' (hF _ _) hlt (cFx _);refine⟨f',g1,.inr ?_⟩;have g3:muF (mkA t (aJ w) f0 c q i 0 0) f'+1<=muF (mkA t (aJ w) f0 c q i 0 0) f:=g3;omega
 obtain⟨f,g1,g2⟩:=key (N - 15) (by omega);rw[show 15+(N - 15)=N by omega]at g1;have hS:=aI9 hf N g1;refine⟨f,g1,g2.elim id λg=> ?_,hS⟩;obtain⟨a1,a2,a3,a4,a5⟩:=aG4 h hc N (by omega) (by omega);have hl:i<(aB (bZ N w)).length:=(cEz.1 g1).1;have hb:i<(aS (bZ N w)).length:=by rw[a1.inv.lenB];exact hl
 have hv:=(a1.inv.flow i _ _ g1 (cEx hb)).val;have hF:FC (mkA t (aJ w) f0 c q i 0 0) f:=bJk hv hS (by omega);have :=(aV7 (A:=mkA t (aJ w) f0 c q i 0 0) hcl hF).1;omega
theorem bH9{f:den tFl}(h1:f.2.2.2.2.2.1.length<=24)(h2:f.2.2.2.2.1.length<=20):zH f=21 * (f.2.2.2.2.2.1.length:Int)+42+2 * (f.2.2.2.2.1.length:Int):=by
 unfold zH;have e1:wr ((f.2.2.2.2.2.1.length:Int)+(2:Int))=(f.2.2.2.2.2.1.length:Int)+2:=bJ (by omega) (by omega);have e2:wr ((2:Int) * (f.2.2.2.2.1.length:Int))=2 * (f.2.2.2.2.1.length:Int):=bJ (by omega) (by omega);rw[e1,e2];have e3:wr (((f.2.2.2.2.2.1.length:Int)+2) * (21:Int))=21 * (f.2.2.2.2.2.1.length:Int)+42:=by rw[bJ (by omega) (by omega)];omega
 rw[e3];exact bJ (by omega) (by omega)
theorem aWo(g:den tFl->Int)(b:Int):∀(l:lFl) (k:Nat) (a:Int),(∀f∈l,g f<=b)->a<=b->bQ (λ_ f a=>if g f>a then g f else a) k l a<=b/\a<=bQ (λ_ f a=>if g f>a then g f else a) k l a/\ ∀f∈l,g f<=bQ (λ_ f a=>if g f>a then g f else a) k l a
 | [],k,a,_,h=>⟨h,cFx _,λf hf=>(cFi hf).elim⟩
 | x::l,k,a,hl,h=>by
  have hx:=hl x (cFb ..);have ha':(if g x>a then g x else a)<=b:=by split<;>omega
  obtain⟨i1,i2,i3⟩:=aWo g b l (k+1) (if g x>a then g x else a) (λf hf=>hl f (cE7 _ hf)) ha';have a1:a<=(if g x>a then g x else a)/\g x<=(if g x>a then g x else a):=by split<;>constructor<;>omega
  show bQ _ (k+1) l (if g x>a then g x else a)<=b/\a<=bQ _ (k+1) l (if g x>a then g x else a)/\ ∀f∈x::l,g f<=bQ _ (k+1) l (if g x>a then g x else a);refine⟨i1,cGa a1.1 i2,λf hf=> ?_⟩;rcases cEy.1 hf with rfl | hf
  .exact cGa a1.2 i2
  .exact i3 f hf
theorem aXj{w:den tNw}(hp:∀f∈aB w,f.2.2.2.2.2.1.length<=4/\f.2.2.2.2.1.length<=20):0<=lG w/\lG w<=166/\ ∀f∈aB w,21 * (f.2.2.2.2.2.1.length:Int)+42+2 * (f.2.2.2.2.1.length:Int)<=lG w:=by
 have e:∀f∈aB w,zH f=21 * (f.2.2.2.2.2.1.length:Int)+42+2 * (f.2.2.2.2.1.length:Int):=λf hf=>by
  have :=hp f hf;exact bH9 (by omega) (by omega)
 obtain⟨i1,i2,i3⟩:=aWo zH 166 (aB w) 0 0 (λf hf=>by have :=hp f hf;rw[e f hf];omega) (by decide);exact⟨i2,i1,λf hf=>by rw[<- e f hf];exact i3 f hf⟩
theorem bJr(g:den tPt->Bool)(l:lPt):∀k:Nat,(∃i:Int,bW (λk p=>if g p then some (k:Int) else none) k l=some i/\0<=i/\ ∃(c:Nat) (q:den tPt),l[c]? =some q/\g q=true)\/(bW (λk p=>if g p then some (k:Int) else none) k l=none/\ ∀q∈l,g q=false):=by
 induction l with
 | nil=>exact λk=> .inr ⟨rfl,λq hq=>(cFi hq).elim⟩
 | cons x l ih=>
  intro k;unfold bW;cases hx:g x with
  | true=>
   simp only[zV];exact .inl ⟨k,rfl,by omega,0,x,rfl,hx⟩
  | false=>
   simp only[cE1,zU];rcases ih (k+1) with ⟨i,h1,h2,c,q,h3,h4⟩ | ⟨h1,h2⟩
   .exact .inl ⟨i,h1,h2,c+1,q,h3,h4⟩
   .refine .inr ⟨h1,λq hq=> ?_⟩;rcases cEy.1 hq with rfl | hq
    .exact hx
    .exact h2 q hq
theorem bI9(w:den tNw)(f:den tFl):(0<=yA w f/\ ∃(c:Nat) (q:den tPt),f.2.2.2.2.2.1[c]? =some q/\aA0 w q=true)\/(yA w f= -1/\ ∀q∈f.2.2.2.2.2.1,aA0 w q=false):=by
 unfold yA;rcases bJr (aA0 w) f.2.2.2.2.2.1 0 with ⟨i,h1,h2,h3⟩ | ⟨h1,h2⟩
 .rw[h1];exact .inl ⟨h2,h3⟩
 .rw[h1];exact .inr ⟨rfl,h2⟩
theorem bHq{t:den tTo}{B k d:Nat}{w:den tNw}(h:gW t B k d w)(hc:fA w)(hk:k+174<=1000)(hd:d+174 * 4008<=800000000):∃N:Nat,wr (8+lG w)=(N:Int)/\N<=174/\aFh w=aI w+N/\
  ∀(i:Nat) (f0:den tFl),(aB w)[i]? =some f0->0<=yA w f0-> ∃f,(aB (bZ N w))[i]? =some f/\aCf f/\aCc f0 f:=by
 have hp:∀f∈aB w,f.2.2.2.2.2.1.length<=4/\f.2.2.2.2.1.length<=20:=λf hf=>by
  obtain⟨i,hi⟩:=List.mem_iff_getElem?.1 hf;have hl:i<(aB w).length:=(cEz.1 hi).1;have hb:i<(aS w).length:=by rw[h.inv.lenB];exact hl
  have hv:=(nY f).1 (h.inv.flow i _ _ hi (cEx hb)).val;exact⟨hc.pth i f hi,hv.2.2.2.2.1⟩
 obtain⟨s1,s2,s3⟩:=aXj hp;have hlo:=h.run.lo;have hhi:=h.run.hi;have e1:wr (8+lG w)=8+lG w:=bJ (by omega) (by omega);have hN:∃N:Nat,8+lG w=(N:Int):=⟨(8+lG w).toNat,by omega⟩
 obtain⟨N,hN⟩:=hN;have e2:aFh w=aI w+N:=by
  show wr (aI w+wr (8+lG w))=_;rw[e1,hN,bJ (by omega) (by omega)]
 refine⟨N,by rw[e1];exact hN,by omega,e2,λi f0 hf hwk=> ?_⟩
 .rcases bI9 w f0 with ⟨_,c,q,hq,hok⟩ | ⟨e,_⟩
  .unfold aA0 aB5 at hok;simp only[cEw]at hok;obtain⟨⟨p1,p2⟩,p3,p4⟩:=hok;rw[e2]at p3 p4;have htop:w.1=t:=h.run.top;rw[htop]at p1 p2 p3 p4;have hm:=s3 f0 (cE9 hf);refine bDm h hc hf hq N (by omega) (by omega) (fun τ t1 t2=>⟨?_,?_⟩) (by omega)
   .exact (aH3 p1).mid t1 t2 (aH3 p3)
   .exact (aH3 p2).mid t1 t2 (aH3 p4)
  .omega
theorem bN7{s d now i:Int}:∀{l:lRs},l.Pairwise (λx y=>kB x y=false)->(∀x∈l,x.1=i/\(0:Int)<=x.2.2.2.1/\(2:Int)>=x.2.2.2.1)->rs s d now l<=2
 | [],_,_=>by simp[rs]
 | x::l,hp,h=>by
  have ih:=bN7 (s:=s) (d:=d) (now:=now) (i:=i) (List.pairwise_cons.1 hp).2 λy hy=>h y (cE7 _ hy)
  have hx:=h x (cFb ..);unfold rs;cases ha:atR x s d with
  | false=>simp only[Bool.false_and,cE1,zU];omega
  | true=>
   have h0:rs s d now l=0:=by
    rcases bG4 (s:=s) (d:=d) (now:=now) (l:=l) with h0 | ⟨y,hy,e1,e2⟩
    .exact h0
    .have hn:=(List.pairwise_cons.1 hp).1 y hy;have hy':=(h y (cE7 _ hy)).1;unfold atR at ha;simp only[cEw,beq_iff_eq]at ha;have :kB x y=true:=by
      unfold kB atR;simp only[cEw,beq_iff_eq];exact⟨hy'.trans hx.1.symm,e1.trans ha.1.symm,e2.trans ha.2.symm⟩
     rw[this]at hn;cases hn
   rw[h0];split<;>omega
theorem aZc{s d now:Int}:∀{l:lRs},(∀x∈l,(1:Int)<=x.1/\(3:Int)>=x.1)->rs s d now l=rs s d now (l.filter λx=>x.1==(1:Int))+rs s d now (l.filter λx=>x.1==(2:Int))+rs s d now (l.filter λx=>x.1==(3:Int))
 | [],_=>by simp[rs]
 | x::l,h=>by
  have ih:=aZc (s:=s) (d:=d) (now:=now) (l:=l) λy hy=>h y (cE7 _ hy)
  have hx:=h x (cFb ..);have key:∀z:Int,1<=z->3>=z->z=1\/z=2\/z=3:=λz h1 h2=>by omega
  have h3:x.1=(1:Int)\/x.1=(2:Int)\/x.1=(3:Int):=key _ hx.1 hx.2;simp only[cHm];rcases h3 with e | e | e
  .rw[e];simp only[show ((1:Int)==1)=true from rfl,show ((1:Int)==2)=false from rfl,show ((1:Int)==3)=false from rfl,zV,cE1,zU,rs];omega
  .rw[e];simp only[show ((2:Int)==1)=false from rfl,show ((2:Int)==2)=true from rfl,show ((2:Int)==3)=false from rfl,zV,cE1,zU,rs];omega
  .rw[e];simp only[show ((3:Int)==1)=false from rfl,show ((3:Int)==2)=false from rfl,show ((3:Int)==3)=true from rfl,zV,cE1,zU,rs];omega
theorem vI.calm{w:den tNw}(h:vI 3 w):fA w:=by
 have hr:=vN h.res.val;have hv:∀x∈(nG w).2.1,(1:Int)<=x.1/\(3:Int)>=x.1/\(0:Int)<=x.2.2.2.1/\(2:Int)>=x.2.2.2.1:=λx hx=>⟨(aJd (h.res.val x hx)).1,(h.low x hx).1,(hr x hx).1,(h.low x hx).2⟩
 refine⟨by rw[h.gate],λs d now=> ?_,hr,h.len,λk f hf=>(h.flows f (cE9 hf)).paths.1⟩;rw[aZc λx hx=>⟨(hv x hx).1,(hv x hx).2.1⟩];have one:∀i:Int,rs s d now ((nG w).2.1.filter λx=>x.1==i)<=2:=λi=>bN7 (i:=i) (h.res.pw.filter _) λx hx=>by
  obtain⟨h1,h2⟩:=cFc.1 hx;exact⟨eq_of_beq h2,(hv x h1).2.2.1,(hv x h1).2.2.2⟩
 have a:=one 1;have b:=one 2;have c:=one 3;omega
theorem Ran.calm{v:den tNw}(hv:vI 3 v){l:tR}{w:den tNw}(h:Ran v l w):fA w:=by
 induction h with
 | nil=>exact hv.calm
 | snoc h he ih=>exact ih.event _
structure bXv (t:den tTo) (B k d:Nat) (w:den tNw) (N:Nat):Prop where
 cnt:wr (8+lG w)=(N:Int)
 few:N<=174
 run:vR w (wr (8+lG w))=bZ N w
 rnd:gW t (B+N * 328656) (k+N) (d+N * 4008) (bZ N w)
 calm:fA (bZ N w)
 now:aI (bZ N w)=aI w+N
 dead:aJ (bZ N w)=aJ w
 len:(aB (bZ N w)).length=(aB w).length
 later:aFh w=aI w+N
 go:∀(i:Nat) (f0:den tFl),(aB w)[i]? =some f0->0<=yA w f0-> ∃f,(aB (bZ N w))[i]? =some f/\aCf f/\aCc f0 f
theorem bGj{t:den tTo}{B k d:Nat}{w:den tNw}(h:gW t B k d w)(hc:fA w)(hk:k<=400)(hd:d<=10000000)(ht:aCq t=true):∃N:Nat,bXv t B k d w N:=by
 obtain⟨N,h1,h2,h3,h4⟩:=bHq h hc (by omega) (by omega);obtain⟨a1,a2,a3,a4,a5⟩:=aG4 h hc N (by omega) (by omega);refine⟨N,h1,h2,?_,a1,a2,a3,a4,a5,h3,h4⟩;unfold vR;rw[h.valid (by omega) ht,h1,show inR (N:Int) 0 1000=true from aZ.2 ⟨by omega,by omega⟩,cE0];rfl
theorem bSd{t:den tTo}{w:den tNw}(h:cS t w){i:Nat}{f:den tFl}(hf:(aB w)[i]? =some f)(hd:aCf f):∃b,(aS w)[i]? =some b/\b.2.2.2.length=f.2.2.2.2.1.length:=by
 have hl:i<(aS w).length:=by rw[h.lenB];exact (cEz.1 hf).1
 have hI:=h.flow i f _ hf (cEx hl);refine⟨_,cEx hl,?_⟩;have h1:=hI.len;have h2:=hI.ack;have h3:f.2.2.2.1=(f.2.2.2.2.1.length:Int):=hd;rw[h3]at h2;have h2:=Int.ofNat_le.1 h2;exact Nat.le_antisymm h1 h2
theorem bDl{code:List Int}(hl:code.length<=1048576):∃w,jL code=some (bRx w)/\bJt w:=by
 obtain⟨w,c1,p1,h1,e1,hw,k1⟩:=bS3 hl (most:=60) (by decide) (by decide);have e1:wN code (60:Int)=_:=e1;refine⟨w,?_,hw⟩;unfold jL pj3 dY zz4 zz5 zz6 zz7 zz8 zz9;simp only[e1,bUw,aA];rfl
theorem bXw{w:den tNw}(h:tot tNw w<=1073741824){i:Nat}{f:den tFl}(hf:(aB w)[i]? =some f):iF w f=some (yA w f):=by
 have hF:tot (.sl tFl) w.2.2.2.2.2.2.1<=1073741824:=tT (aQ (aQ (aQ (aQ (aQ (aQ h))))));have hm:=tG (t:=tFl) (cE9 hf);have hF:tot (.sl tFl) (aB w)<=1073741824:=hF;exact bFb (bKy h) (by omega)
end Go.Proofs.YtnkjolpkcmgcaaaGreat
