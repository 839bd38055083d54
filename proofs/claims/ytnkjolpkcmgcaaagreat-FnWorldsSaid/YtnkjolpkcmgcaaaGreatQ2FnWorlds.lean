/-
  Facts and plain laws: what the functions compute, in plain words. Conditions: as each says.
-/
import Derived.Test.YtnkjolpkcmgcaaaGreatQ1FnWorlds
open Nat renaming zero_le->cCz,le_trans->cCc,le_refl->cCx
open List renaming not_mem_nil->cC2,getElem?_eq_getElem->cCe,getElem_mem->cC9,mem_cons_of_mem->cCu,mem_append->cCo,mem_singleton->cCn,mem_of_getElem?->cCt,mem_of_mem_take->cDx,mem_of_mem_drop->cD4,length_append->cC3,length_take->cDf,length_drop->cD6,length_singleton->cDz,length_set->cDv,mem_or_eq_of_mem_set->cEt,length_nil->cDj,getLast?_concat->cFe,dropLast_concat->cFs,pairwise_iff_getElem->cEm,getElem?_eq_some_iff->cCq,getElem?_map->cEj,getElem?_set->cEk,getElem?_set_self->cFt,getElem?_append_left->cE8,all_eq_true->cC6,length_map->cDb,length_cons->cDe,mem_iff_getElem?->cE4,mem_cons_self->cCy,length->cCv
open Int renaming eq_ofNat_of_zero_le->cC5,toNat_natCast->cCm,le_refl->cDr,le_trans->cEu,lt_irrefl->cC0
open Bool renaming not_true->cCd,not_false->cCh,and_eq_true->cCf,not_eq_true'->cDk,or_eq_true->cD1
open Option renaming map_eq_some_iff->cDa,getD_some->cDc
open Sum renaming elim_inl->cCp
set_option linter.unusedVariables false
set_option linter.unusedSimpArgs false
set_option maxRecDepth 100000
namespace Go.Proofs.YtnkjolpkcmgcaaaGreat
open Go.Ab Go.V
theorem bH3{code:List Int}(hl:code.length<=1048576){w:den tNw}(hw:bP1 w){c:List Int}{p h:Int}(hc:Cur code (c,p,h)):∃e c' p' h',oO (c,p,h) w=some (fgR w e c' p' h')/\EvD w e/\Cur code (c',p',h'):=by
 obtain⟨as,ls,k,c1,p1,h1,e1,hk,_,k1⟩:=bLo hl hc;have ha:1<=w.1.1.length/\w.1.1.length<=8:=hw.as;have hfn:=hw.flyN;obtain⟨v2,c2,p2,h2,e2,r2,k2⟩:=aH hl (n:=(w.1.1.length:Int)) (by omega) (by omega) k1;obtain⟨v3,c3,p3,h3,e3,r3,k3⟩:=aH hl (n:=7) (by decide) (by decide) k2;have sw:SmB 68719476736 tNw w:=(bB hw.tot).mono (by decide);have fin:∀(k:den tPk) (c:List Int) (p h:Int),tot tPk k<=1100->eU k->Cur code (c,p,h)-> ∃e c' p' h',(Option.bind (Option.bind (qQ w ((7:Int),(0:Int),[],(v2,v3,(k.1,k.2.1,k.2.2.1,k.2.2.2.1,k.2.2.2.2.1,k.2.2.2.2.2.1,k.2.2.2.2.2.2.1,k.2.2.2.2.2.2.2.1,k.2.2.2.2.2.2.2.2.1,k.2.2.2.2.2.2.2.2.2)))) λy31=>cond (!y31) (some ((7:Int),(0:Int),v2,v3,(3:Int),k.2.1,k.2.2.1,k.2.2.2.1,k.2.2.2.2.1,k.2.2.2.2.2.1,k.2.2.2.2.2.2.1,k.2.2.2.2.2.2.2.1,k.2.2.2.2.2.2.2.2.1)) (some ((7:Int),(0:Int),v2,v3,k.1,k.2.1,k.2.2.1,k.2.2.2.1,k.2.2.2.2.1,k.2.2.2.2.2.1,k.2.2.2.2.2.2.1,k.2.2.2.2.2.2.2.1,k.2.2.2.2.2.2.2.2.1))) λs32=>some (s32.1,s32.2.1,s32.2.2.1,s32.2.2.2.1,s32.2.2.2.2.1,s32.2.2.2.2.2.1,s32.2.2.2.2.2.2.1,s32.2.2.2.2.2.2.2.1,s32.2.2.2.2.2.2.2.2.1,s32.2.2.2.2.2.2.2.2.2.1,s32.2.2.2.2.2.2.2.2.2.2.1,s32.2.2.2.2.2.2.2.2.2.2.2.1,s32.2.2.2.2.2.2.2.2.2.2.2.2,k.2.2.2.2.2.2.2.2.2,([]:List Int),c,p,h,w.2.2.2.2.2.1,w.2.2.2.2.2.2.1,w.2.2.2.2.2.2.2.1))=some (fgR w e c' p' h')/\EvD w e/\Cur code (c',p',h'):=by
  intro k c p h ht hb hc;have se:SmB 68719476736 iI ((7:Int),(0:Int),[],(v2,v3,k)):=⟨trivial,trivial,⟨by simp,λx hx=>trivial⟩,trivial,trivial,(bB ht).mono (by decide)⟩
  have e9:qQ w ((7:Int),(0:Int),[],(v2,v3,(k.1,k.2.1,k.2.2.1,k.2.2.2.1,k.2.2.2.2.1,k.2.2.2.2.2.1,k.2.2.2.2.2.2.1,k.2.2.2.2.2.2.2.1,k.2.2.2.2.2.2.2.2.1,k.2.2.2.2.2.2.2.2.2)))=some (harm w ((7:Int),(0:Int),[],(v2,v3,k))):=bXd sw se;rw[e9,aA];cases hb':harm w ((7:Int),(0:Int),[],(v2,v3,k)) with
  | true=>exact⟨((7:Int),(0:Int),[],(v2,v3,k)),c,p,h,rfl,⟨by show (1:Int)<=7;decide,by show (8:Int)>=7;decide,⟨cCz _,λx hx=>(cC2 hx).elim⟩,⟨ht,hb⟩,hb'⟩,hc⟩
  | false=>exact⟨((7:Int),(0:Int),[],(v2,v3,((3:Int),k.2))),c,p,h,rfl,⟨by show (1:Int)<=7;decide,by show (8:Int)>=7;decide,⟨cCz _,λx hx=>(cC2 hx).elim⟩,⟨ht,hb⟩,bKn⟩,hc⟩
 unfold oO ixb bM pj3 pj4 lN aU bG bC cU kH mI sV zz4 zz5 zz6 zz7 zz8 zz9;simp only[e1,e2,e3,aA,aT,bI,aX,aY,aZ];have done:=λc p h hc=>fin k c p h (bM9 hk) hk.bytes hc
 by_cases hf:(w.2.2.2.2.2.1.length:Int)>0
 .obtain⟨v4,c4,p4,h4,e4,k4⟩:=jX hl (n:=2) (by decide) (by decide) k3;simp only[zX hf,zZ,e4,aA];cases v4 with
  | false=>
   simp only[zY,aA];exact done c4 p4 h4 k4
  | true=>
   have hfn:w.2.2.2.2.2.1.length<=200:=hfn;obtain⟨v5,c5,p5,h5,e5,r5,k5⟩:=aH hl (n:=(w.2.2.2.2.2.1.length:Int)) hf (by omega) k4;obtain⟨i,rfl⟩:=cC5 r5.1;have hi:i<w.2.2.2.2.2.1.length:=by omega
   have hx:w.2.2.2.2.2.1[i]? =some w.2.2.2.2.2.1[i]:=cCe hi;have hm:w.2.2.2.2.2.1[i]∈aQ w:=cC9 hi;have ht:=hw.fly _ hm;have hb:=hw.bytes _ hm;generalize w.2.2.2.2.2.1[i]=x at hx hm ht hb;have e6:=aD4 (p:=x.2.2) (sD (cCc ht (by decide)));obtain⟨v7,c7,p7,h7,e7,k7⟩:=jX hl (n:=2) (by decide) (by decide) k5;simp only[zZ,e5,aA,zX (show (0:Int)<=(i:Int) by omega),zX (show (i:Int)<(w.2.2.2.2.2.1.length:Int) by omega),cCm,hx,aN,e6,e7];cases v7 with
   | false=>
    simp only[zY,aA];exact fin x.2.2 c7 p7 h7 ht hb k7
   | true=>
    obtain⟨v8,c8,p8,h8,e8,k8⟩:=aKl hl k7;simp only[zZ,e8,aA];exact fin (x.2.2.1,x.2.2.2.1,x.2.2.2.2.1,x.2.2.2.2.2.1,x.2.2.2.2.2.2.1,x.2.2.2.2.2.2.2.1,v8,x.2.2.2.2.2.2.2.2.2.1,x.2.2.2.2.2.2.2.2.2.2.1,x.2.2.2.2.2.2.2.2.2.2.2) c8 p8 h8 ht hb k8
 .simp only[zW hf,zY,aA];exact done c3 p3 h3 k3
theorem bPt{code:List Int}(hl:code.length<=1048576){w:den tNw}(hw:bP1 w){c:List Int}{p h:Int}(hc:Cur code (c,p,h)):∃e c' p' h',tV (c,p,h) w=some (nxR w e c' p' h')/\EvD w e/\Cur code (c',p',h'):=by
 have hlk:w.1.2.length<=200:=hw.links;have hfl:w.2.2.2.2.2.2.1.length<=4:=hw.flows;have hfn:w.2.2.2.2.2.1.length<=200:=hw.flyN;have wl:wr ((w.1.2.length:Int)+1)=((w.1.2.length+1:Nat):Int):=bK (by omega);have wf:wr ((w.2.2.2.2.2.2.1.length:Int)+1)=((w.2.2.2.2.2.2.1.length+1:Nat):Int):=bK (by omega);have pk0D:tot tPk ((0:Int),(0:Int),(0:Int),[],(0:Int),(0:Int),(0:Int),(0:Int),(0:Int),[])<=1100/\eU ((0:Int),(0:Int),(0:Int),[],(0:Int),(0:Int),(0:Int),(0:Int),(0:Int),[]):=⟨by rw[aTj];exact cCz _,λx hx=>(cC2 hx).elim⟩
 have ev:∀(kd n:Int) (data:List Int),(1:Int)<=kd->(8:Int)>=kd->(kd==(7:Int))=false->data.length<=3->iH data->EvD w (kd,n,data,((0:Int),(0:Int),((0:Int),(0:Int),(0:Int),[],(0:Int),(0:Int),(0:Int),(0:Int),(0:Int),[]))):=λkd n data a b d e f=>⟨a,b,⟨e,f⟩,pk0D,bFy d⟩
 have nob:iH []:=λx hx=>(cC2 hx).elim
 obtain⟨v1,c1,p1,h1,e1,r1,k1⟩:=aH hl (n:=24) (by decide) (by decide) hc;obtain⟨v2,c2,p2,h2,e2,r2,k2⟩:=aH hl (n:=((w.1.2.length+1:Nat):Int)) (by omega) (by omega) k1;unfold tV pj3 pj6 lN aU bG bC cU kH mI zz4 zz5 zz6 zz7 zz8 zz9;simp only[e1,aA,wl,wf,e2];cases v1==(0:Int) with
 | true=>
  exact⟨((5:Int),v2,[],((0:Int),(0:Int),((0:Int),(0:Int),(0:Int),[],(0:Int),(0:Int),(0:Int),(0:Int),(0:Int),[]))),c2,p2,h2,rfl,ev 5 v2 [] (by decide) (by decide) rfl (cCz _) nob,k2⟩
 | false=>
 simp only[zY];obtain⟨b3,e3⟩:∃b,(cond (v1==(1:Int)) (some (v1==(1:Int))) (some (v1==(2:Int))))=some b:=by cases v1==(1:Int)<;>exact⟨_,rfl⟩
 rw[e3,aA];cases b3 with
 | true=>
  exact⟨((6:Int),v2,[],((0:Int),(0:Int),((0:Int),(0:Int),(0:Int),[],(0:Int),(0:Int),(0:Int),(0:Int),(0:Int),[]))),c2,p2,h2,rfl,ev 6 v2 [] (by decide) (by decide) rfl (cCz _) nob,k2⟩
 | false=>
 simp only[zY];cases v1==(3:Int) with
 | true=>
  obtain⟨e,c4,p4,h4,e4,d4,k4⟩:=bH3 hl hw k1;refine⟨e,c4,p4,h4,?_,d4,k4⟩;rw[zZ];show Option.bind (oO (c1,p1,h1) w) _=_;rw[e4];rfl
 | false=>
 simp only[zY];cases v1==(4:Int) with
 | true=>
  obtain⟨v4,c4,p4,h4,e4,r4,k4⟩:=aH hl (n:=((w.2.2.2.2.2.2.1.length+1:Nat):Int)) (by omega) (by omega) k1;obtain⟨v5,c5,p5,h5,e5,r5,k5⟩:=aH hl (n:=3) (by decide) (by decide) k4;obtain⟨m5,rfl⟩:=cC5 r5.1;obtain⟨l6,c6,p6,h6,e6,⟨r6,b6⟩,k6⟩:=aLg hl (n:=m5) (by omega) k5;exact⟨((8:Int),v4,l6,((0:Int),(0:Int),((0:Int),(0:Int),(0:Int),[],(0:Int),(0:Int),(0:Int),(0:Int),(0:Int),[]))),c6,p6,h6,by simp only[zZ,e4,e5,e6,aA];rfl,ev 8 v4 l6 (by decide) (by decide) rfl (by omega) b6,k6⟩
 | false=>
 simp only[zY];have tick:∀c p h,Cur code (c,p,h)-> ∃e c' p' h',(some ((1:Int),(0:Int),(0:Int),(0:Int),(0:Int),(0:Int),(0:Int),[],(0:Int),(0:Int),(0:Int),(0:Int),(0:Int),[],[],c,p,h,w.2.2.2.2.2.1,w.2.2.2.2.2.2.1,w.2.2.2.2.2.2.2.1):Option q5)=some (nxR w e c' p' h')/\EvD w e/\Cur code (c',p',h'):=λc p h hc=>
  ⟨((1:Int),(0:Int),[],((0:Int),(0:Int),((0:Int),(0:Int),(0:Int),[],(0:Int),(0:Int),(0:Int),(0:Int),(0:Int),[]))),c,p,h,rfl,ev 1 0 [] (by decide) (by decide) rfl (cCz _) nob,hc⟩
 by_cases hf:(w.2.2.2.2.2.1.length:Int)>0
 .obtain⟨v4,c4,p4,h4,e4,k4⟩:=jX hl (n:=4) (by decide) (by decide) k1;simp only[zX hf,zZ,e4,aA];cases v4 with
  | true=>
   simp only[cCd,zY];exact tick c4 p4 h4 k4
  | false=>
   simp only[cCh,zZ];obtain⟨m,em,hm1,hm2⟩:∃m:Int,(if (3:Int)<(w.2.2.2.2.2.1.length:Int) then (3:Int) else (w.2.2.2.2.2.1.length:Int))=m/\0<m/\m<=256:=by
    split
    .exact⟨_,rfl,by decide,by decide⟩
    .exact⟨_,rfl,by omega,by omega⟩
   obtain⟨v5,c5,p5,h5,e5,r5,k5⟩:=aH hl hm1 hm2 k4;obtain⟨v6,c6,p6,h6,e6,r6,k6⟩:=aH hl (n:=12) (by decide) (by decide) k5;simp only[aWh,em,e5,e6,aA];cases v6==(0:Int) with
   | true=>exact⟨((3:Int),v5,[],((0:Int),(0:Int),((0:Int),(0:Int),(0:Int),[],(0:Int),(0:Int),(0:Int),(0:Int),(0:Int),[]))),c6,p6,h6,rfl,ev 3 v5 [] (by decide) (by decide) rfl (cCz _) nob,k6⟩
   | false=>
    cases v6==(1:Int) with
    | true=>exact⟨((4:Int),v5,[],((0:Int),(0:Int),((0:Int),(0:Int),(0:Int),[],(0:Int),(0:Int),(0:Int),(0:Int),(0:Int),[]))),c6,p6,h6,rfl,ev 4 v5 [] (by decide) (by decide) rfl (cCz _) nob,k6⟩
    | false=>exact⟨((2:Int),v5,[],((0:Int),(0:Int),((0:Int),(0:Int),(0:Int),[],(0:Int),(0:Int),(0:Int),(0:Int),(0:Int),[]))),c6,p6,h6,rfl,ev 2 v5 [] (by decide) (by decide) rfl (cCz _) nob,k6⟩
 .simp only[zW hf,zY,aA];exact tick c1 p1 h1 k1
theorem bCj{s d now now':Int}(hn:now<=now'):∀{l:lRs},(∀x∈l,(0:Int)<=x.2.2.2.1/\(20:Int)>=x.2.2.2.1)->rs s d now' l<=rs s d now l
 | [],_=>cDr _
 | x::l,h=>by
  have ih:=bCj (s:=s) (d:=d) hn (l:=l) λy hy=>h y (cCu _ hy)
  have hx:=h x (by simp);unfold rs
  by_cases c:now'<=x.2.2.2.2
  .rw[zX c,zX (show now<=x.2.2.2.2 from cEu hn c)];split<;>omega
  .rw[zW c,Bool.and_false];simp only[Bool.false_eq_true,zU];split<;>omega
theorem rF.later{l:lRs}{cap now now':Int}(h:rF l cap now)(hn:now<=now'):rF l cap now':=
 ⟨h.len,h.val,λx hx=>cEu (bCj hn (wV h.val)) (h.rate x hx),h.pw⟩
theorem OkS.tick{g:den tSc}{now now':Int}(h:OkS g now)(hn:now<=now'):OkS (g.1,aGy g.2.1 now',[]) now':=
 ⟨h.lo,h.hi,(h.res.later hn).filter _,λj x hx=>by simp at hx⟩
structure cM (w w':den tNw):Prop where
 top:nT w'=nT w
 now:aL w'=aL w
 gate:OkS (nG w) (aL w)->OkS (nG w') (aL w')
 fly:∀x∈aQ w',x∈aQ w\/tot tPk x.2.2<=1100
 flyN:(aQ w).length<=150->(aQ w').length<=150
theorem cM.refl(w:den tNw):cM w w:=⟨rfl,rfl,id,λx hx=> .inl hx,id⟩
theorem cM.trans{a b c:den tNw}(h:cM a b)(k:cM b c):cM a c:=
 ⟨k.top.trans h.top,k.now.trans h.now,λhg=>k.gate (h.gate hg),λx hx=>(k.fly x hx).elim (h.fly x) .inr,λhl=>k.flyN (h.flyN hl)⟩
theorem cM.drop(w:den tNw):cM w (aAk w):=⟨rfl,rfl,id,λx hx=> .inl hx,id⟩
theorem cM.box(w:den tNw)(i:Nat)(x:den tIb):cM w (uN w i x):=⟨rfl,rfl,id,λx hx=> .inl hx,id⟩
theorem cM.flows(w:den tNw)(l:lFl):cM w (eR w l):=⟨rfl,rfl,id,λx hx=> .inl hx,id⟩
theorem cM.tell(w:den tNw)(r:Int)(p:den tPk):cM w (yJ w r p):=cM.flows w _
theorem cM.send{w:den tNw}{r eg:Int}{p:den tPk}(hp:tot tPk p<=1100):cM w (sU w r eg p):=by
 unfold sU;split
 .rename_i hc;rw[cCf,zR]at hc;refine⟨rfl,rfl,λhg=>hg.trans _ _ _,λx hx=> ?_,λhl=> ?_⟩
  .rcases cCo.1 (show x∈aQ w++_ from hx) with hx | hx
   .exact .inl hx
   .have :x=_:=cCn.1 hx;subst this;exact .inr hp
  .show (aQ w++_).length<=150;have :=hc.2;simp;omega
 .exact cM.drop w
theorem aOe{t:den tTo}{now:Int}{dead:List Int}{r inn:Int}{p:den tPk}(h:((cX t now dead r inn p).1==0)=true):tot tPk (cX t now dead r inn p).2.2.1<=1100:=by
 have hv:kE p=true:=aM0 (t:=t) (r:=r) (now:=now) (dead:=aAi t dead r) (inn:=inn) (by
  have h:((fwd t r now (aAi t dead r) inn p).1==0)=true:=h;rw[eq_of_beq h];rfl)
 unfold cX;rw[aNg];exact cCc (aQf hv) (by decide)
theorem cM.proc0(w:den tNw)(r inn:Int)(p:den tPk):cM w (proc0 w r inn p):=by
 unfold Go.Proofs.YtnkjolpkcmgcaaaGreat.proc0;split
 .rename_i h;exact cM.send (aOe h)
 .split
  .exact cM.tell w _ _
  .exact cM.drop w
theorem cM.proc(w:den tNw)(r inn:Int)(p:den tPk):cM w (kD w r inn p):=by
 unfold kD;split
 .rename_i h;exact cM.send (aOe h)
 .split
  .split
   .unfold aB7;split
    .exact cM.refl w
    .split
     .exact (cM.box w _ _).trans (cM.proc0 _ _ _ _)
     .exact cM.box w _ _
   .exact cM.tell w _ _
  .split
   .unfold aEm;split
    .exact (cM.proc0 _ _ _ _).trans (cM.drop _)
    .exact (cM.tell _ _ _).trans (cM.drop _)
   .exact cM.drop w
theorem cM.stepT(k:Nat)(w:den tNw):cM w (stepT k w):=by
 unfold Go.Proofs.YtnkjolpkcmgcaaaGreat.stepT;split
 .split
  .exact (cM.flows w _).trans (cM.proc _ _ _ _)
  .exact cM.flows w _
 .exact cM.refl w
theorem cM.tickL:∀(n k:Nat) (w:den tNw),cM w (tickL k n w)
 | 0,_,w=>cM.refl w
 | n+1,k,w=>(cM.stepT k w).trans (cM.tickL n (k+1) _)
structure rA (t:den tTo) (B k:Nat) (w:den tNw):Prop where
 keep:nE B 4 w
 top:nT w=t
 gate:OkS (nG w) (aL w)
 lo:(0:Int)<=aL w
 hi:aL w<=60+(k:Int)
 fly:∀x∈aQ w,tot tPk x.2.2<=1100
 flyN:(aQ w).length<=150
theorem rA.mono{t:den tTo}{B C k j:Nat}{w:den tNw}(h:rA t B k w)(hB:B<=C)(hk:k<=j):rA t C j w:=⟨h.keep.mono hB,h.top,h.gate,h.lo,by have :=h.hi;omega,h.fly,h.flyN⟩
theorem rA.step{t:den tTo}{B C k:Nat}{w w':den tNw}(h:rA t B k w)(s:cM w w')(hk:nE C 4 w'):rA t C k w':=
 ⟨hk,s.top.trans h.top,s.gate h.gate,by rw[s.now];exact h.lo,by rw[s.now];exact h.hi,λx hx=>(s.fly x hx).elim (h.fly x) id,s.flyN h.flyN⟩
theorem bE7{t:den tTo}{B k:Nat}{w:den tNw}(h:rA t B k w)(hk:k<=10000000):rA t B (k+1) (aHy w):=by
 have hlo:=h.lo;have hhi:=h.hi;have e:wr (aL w+1)=aL w+1:=bD (by omega) (by omega);refine⟨aKp h.keep,h.top,?_,?_,?_,h.fly,h.flyN⟩
 .show OkS ((nG w).1,aGy (nG w).2.1 (wr (aL w+1)),[]) (wr (aL w+1));rw[e];exact h.gate.tick (by omega)
 .show (0:Int)<=wr (aL w+1);omega
 .show wr (aL w+1)<=_;omega
theorem aUv{t:den tTo}{B k:Nat}{w:den tNw}(h:rA t B k w)(hk:k<=10000000):rA t (B+656) (k+1) (tC w):=by
 have hkp:=bFi h.keep;unfold tC at hkp ⊢;split
 .exact h.mono (by omega) (by omega)
 .rename_i hn;rw[zS hn]at hkp;exact (bE7 h hk).step (cM.tickL _ _ _) hkp
theorem bCe{w:den tNw}{x:den tFy}:tot tNw (sN w (aQ w++[x]))=tot tNw w+(1+tot tPk x.2.2):=by
 have h1:=aJp w (aQ w++[x]);rw[pM,aC5]at h1;have e:tot tFy x=tot tPk x.2.2:=by simp[sI,vD]
 omega
theorem bKo(m:Nat)(dead:List Int)(i:Int)(b:Bool):(aBk m dead i b).length<=m:=by
 unfold aBk;exact cCc (List.length_filter_le ..) (by simp)
theorem bAp(w:den tNw)(l:List Int):tot tNw (aI0 w l)+(aK w).length=tot tNw w+l.length:=by
 have e:tot tNw (aI0 w l)=(tot (.sl tAS) (nT w).1+tot (.sl tLk) (nT w).2)+((tot (.sl tSg) (nK w).1+tot (.sl tSg) (nK w).2)+((0+(tot (.sl tRs) (nG w).2.1+tot (.sl tUs) (nG w).2.2))+(0+(tot (.sl ti) l+(tot (.sl tFy) (aQ w)+(tot (.sl tFl) (aD w)+(tot (.sl tIb) (aW w)+0))))))):=rfl;have r:∀l:List Int,tot (.sl ti) l=l.length:=λl=>cZ rfl
 rw[e,fK w,r,r];omega
theorem bCb{t:den tTo}{B k:Nat}{w:den tNw}{e:den iI}(h:rA t B k w)(hk:k<=10000000)(ht:t.2.length<=200)(he:EvS e):rA t (B+2000) (k+1) (doW w e).2:=by
 have same:rA t (B+2000) (k+1) w:=h.mono (by omega) (by omega);unfold doW;split
 .exact (aUv h hk).mono (by omega) (by omega)
 .split
  .split
   .rename_i x hi hx;have hm:=cCt hx;have hb:=h.keep.bytes.fly x hm;have hg:rA t B k (aC7 w e.2.1.toNat):=h.step ⟨rfl,rfl,id,λy hy=> ?_,λhl=> ?_⟩ (aJu h.keep _)
    .exact ((hg.step (cM.proc _ _ _ _) (bAy hg.keep hb)).mono (by omega) (by omega))
    .rcases cCo.1 (show y∈(aQ w).take _++(aQ w).drop _ from hy) with hy | hy
     .exact .inl (cDx hy)
     .exact .inl (cD4 hy)
    .show ((aQ w).take _++(aQ w).drop _).length<=150;simp only[cC3,cDf,cD6];omega
   .exact same
  .split
   .split
    .have hg:rA t B k (aC7 w e.2.1.toNat):=h.step ⟨rfl,rfl,id,λy hy=> ?_,λhl=> ?_⟩ (aJu h.keep _)
     .exact (hg.step (cM.drop _) ⟨hg.keep.tot,hg.keep.flows,⟨hg.keep.bytes.fly,hg.keep.bytes.msg⟩⟩).mono (by omega) (by omega)
     .rcases cCo.1 (show y∈(aQ w).take _++(aQ w).drop _ from hy) with hy | hy
      .exact .inl (cDx hy)
      .exact .inl (cD4 hy)
     .show ((aQ w).take _++(aQ w).drop _).length<=150;simp only[cC3,cDf,cD6];omega
    .exact same
   .split
    .split
     .rename_i x hi hx;have hm:=cCt hx;rw[cCf]at hi;have hlt: ¬ (((aQ w).length:Int)>=150):=by have :=hi.2;simpa using this
      have ht':=bCe (w:=w) (x:=x);have hx':=h.fly x hm;have hkp:=h.keep.tot;refine rA.mono (B:=B+1101) (k:=k) (h.step (w':=sN w (aQ w++[x])) ⟨rfl,rfl,id,λy hy=> ?_,λhl=> ?_⟩ ⟨by omega,h.keep.flows,⟨λy hy=> ?_,h.keep.bytes.msg⟩⟩) (by omega) (by omega)
      .rcases cCo.1 (show y∈aQ w++[x] from hy) with hy | hy
       .exact .inl hy
       .rw[cCn.1 hy];exact .inl hm
      .show (aQ w++[x]).length<=150;simp only[cC3,cDz];omega
      .rcases cCo.1 (show y∈aQ w++[x] from hy) with hy | hy
       .exact h.keep.bytes.fly y hy
       .rw[cCn.1 hy];exact h.keep.bytes.fly x hm
     .exact same
    .split
     .show rA t (B+2000) (k+1) (aBr w e.2.1 (e.1==5));unfold aBr;split
      .exact same
      .have h1:=bAp w (aBk (nT w).2.length (aK w) e.2.1 (e.1==5));have h2:=bKo (nT w).2.length (aK w) e.2.1 (e.1==5);have h3:(nT w).2.length<=200:=by rw[h.top];exact ht
       have hkp:=h.keep.tot;exact rA.mono (B:=B+200) (k:=k) (h.step (w':=aI0 w (aBk (nT w).2.length (aK w) e.2.1 (e.1==5))) ⟨rfl,rfl,id,λy hy=> .inl hy,id⟩ ⟨by omega,h.keep.flows,⟨h.keep.bytes.fly,h.keep.bytes.msg⟩⟩) (by omega) (by omega)
     .split
      .split
       .rename_i hc;rw[cCf]at hc;have hlt: ¬ (((aQ w).length:Int)>=150):=by have :=hc.2;simpa using this
        have ht':=bCe (w:=w) (x:=e.2.2.2);have hx':=he.pk.1;have hkp:=h.keep.tot;refine rA.mono (B:=B+1101) (k:=k) (h.step (w':=sN w (aQ w++[e.2.2.2])) ⟨rfl,rfl,id,λy hy=> ?_,λhl=> ?_⟩ ⟨by omega,h.keep.flows,⟨λy hy=> ?_,h.keep.bytes.msg⟩⟩) (by omega) (by omega)
        .rcases cCo.1 (show y∈aQ w++[e.2.2.2] from hy) with hy | hy
         .exact .inl hy
         .rw[cCn.1 hy];exact .inr hx'
        .show (aQ w++[e.2.2.2]).length<=150;simp only[cC3,cDz];omega
        .rcases cCo.1 (show y∈aQ w++[e.2.2.2] from hy) with hy | hy
         .exact h.keep.bytes.fly y hy
         .rw[cCn.1 hy];exact he.pk.2
       .exact same
      .split
       .split
        .rename_i f hi hf;have hm:=cCt hf;have h1:=aNq (t:=tFl) (y:=aIb f e.2.2.1) hf;have h5:=aGx w ((aD w).set e.2.1.toNat (aIb f e.2.2.1));have h6:=fK w;have hkp:=h.keep.tot;have h2:tot tFl (aIb f e.2.2.1)<=tot tFl f+4:=by
          unfold aIb;split
          .obtain⟨a,b,c,d,ms,ps,cu,wa,rv⟩:=f;show tot tFl (a,b,c,d,ms++[e.2.2.1],ps,cu,wa,rv)<=tot tFl (a,b,c,d,ms,ps,cu,wa,rv)+4;rw[yY,yY,pM,bBb];have :=he.data.1;omega
          .omega
         refine rA.mono (B:=B+4) (k:=k) (h.step (w':=eR w ((aD w).set e.2.1.toNat (aIb f e.2.2.1))) (cM.flows w _) ⟨by omega,by show ((aD w).set _ _).length<=4;rw[cDv];exact h.keep.flows,⟨h.keep.bytes.fly,λg hg m hmm=> ?_⟩⟩) (by omega) (by omega);rcases cEt (show g∈(aD w).set _ _ from hg) with hg | rfl
         .exact h.keep.bytes.msg g hg m hmm
         .unfold aIb at hmm;split at hmm
          .rcases cCo.1 (show m∈f.2.2.2.2.1++[e.2.2.1] from hmm) with hmm | hmm
           .exact h.keep.bytes.msg f hm m hmm
           .rw[cCn.1 hmm];exact he.data.2
          .exact h.keep.bytes.msg f hm m hmm
        .exact same
       .exact same
inductive Ran (v:den tNw):uT->den tNw->Prop
 | nil:Ran v [] v
 | snoc {l:uT} {w:den tNw} {e:den iI} (h:Ran v l w) (he:EvD w e):Ran v (l++[e]) (doW w e).2
theorem uI.gateOk{n:Nat}{v:den tNw}(h:uI n v):OkS (nG v) (aL v):=by
 have h1:=h.res;rw[h.now,h.gate];exact⟨by show (1:Int)<=12;decide,by show (20:Int)>=12;decide,h1,λj x hx=>by simp at hx⟩
theorem uI.run{v:den tNw}(h:uI 3 v):rA (nT v) 1000 0 v where
 keep:=⟨h.tot (by decide),cCc h.len (by decide),⟨λx hx=>(by rw[h.fly]at hx;cases hx),λf hf m hm=>(h.flows f hf).bytes m hm⟩⟩
 top:=rfl
 gate:=h.gateOk
 lo:=by rw[h.now];decide
 hi:=by rw[h.now];decide
 fly:=λx hx=>by rw[h.fly]at hx;cases hx
 flyN:=by rw[h.fly];exact cCz _
theorem Ran.run{v:den tNw}(hv:uI 3 v){l:uT}{w:den tNw}(h:Ran v l w):l.length<=1000->rA (nT v) (1000+2000 * l.length) l.length w:=by
 induction h with
 | nil=>intro _;exact hv.run
 | snoc h he ih=>
  intro hl;simp only[cC3,cDz]at hl ⊢;exact (bCb (ih (by omega)) (by omega) (cCc hv.top.links (by decide)) he.s).mono (by omega) (by omega)
theorem rA.netE{t:den tTo}{B k:Nat}{w:den tNw}(h:rA t B k w)(hB:B<=536870912)(h1:1<=t.1.length)(h8:t.1.length<=8)(hl:t.2.length<=100):bP1 w:=
 ⟨cCc h.keep.tot hB,by rw[h.top];exact⟨h1,h8⟩,by rw[h.top];exact cCc hl (by decide),cCc h.flyN (by decide),h.fly,h.keep.bytes.fly,h.keep.flows⟩
def cBw(v:den tNw)(l:uT)(w:den tNw)(c:List Int)(p h:Int):q13:=
 ((nG v).1,aL v,cW v,l,(nT w).1,(nT w).2,(nK w).1,(nK w).2,(nG w).1,(nG w).2.1,(nG w).2.2,aL w,aK w,cW w,(nT v).1,(nT v).2,(nK v).1,(nK v).2,(nG v).2.1,(nG v).2.2,aK v,aQ v,aD v,aW v,aQ w,aD w,aW w,c,p,h)
abbrev RnS:=Int×lAS×lLk×lSg×lSg×Int×lRs×lUs×Int×lI×Int×uT×lFy×lFl×lIb×lI×Int×Int
abbrev RnR:=lAS×lLk×lSg×lSg×Int×lRs×lUs×Int×lI×Int×uT×lFy×lFl×lIb×lI×Int×Int
def rnS(n:Nat)(l:uT)(w:den tNw)(c:List Int)(p h:Int):RnS:=((n:Int),(nT w).1,(nT w).2,(nK w).1,(nK w).2,(nG w).1,(nG w).2.1,(nG w).2.2,aL w,aK w,cW w,l,aQ w,aD w,aW w,c,p,h)
def bWu(code:List Int)(N:Nat)(o:Option q13):Prop:=
 ∃v l w c' p' h',o=some (cBw v l w c' p' h')/\uI 3 v/\Ran v l w/\l.length<=N/\Cur code (c',p',h')
theorem bU2{code:List Int}(hl:code.length<=1048576){most:Nat}(h0:0<most)(h1:most<=200){c:List Int}{p h:Int}(hc:Cur code (c,p,h)):bWu code (3+most) (aAv (c,p,h) (most:Int)):=by
 obtain⟨v,c1,p1,h1',e1,hv,k1⟩:=bBa hl hc;obtain⟨v2,c2,p2,h2,e2,r2,k2⟩:=aH hl (n:=(most:Int)) (by omega) (by omega) k1;obtain⟨m2,rfl⟩:=cC5 r2.1;have w2:wr ((3:Int)+(m2:Int))=((m2+3:Nat):Int):=by rw[bD (by omega) (by omega)];omega
 have sw:SmB 68719476736 tNw v:=(bB (hv.tot (by decide))).mono (by decide);have e3:mF (((aAa v c1 p1 h1').2.2.2.1,(aAa v c1 p1 h1').2.2.2.2.1),((aAa v c1 p1 h1').2.2.2.2.2.1,(aAa v c1 p1 h1').2.2.2.2.2.2.1),((aAa v c1 p1 h1').1,(aAa v c1 p1 h1').2.2.2.2.2.2.2.1,(aAa v c1 p1 h1').2.2.2.2.2.2.2.2.1),(aAa v c1 p1 h1').2.1,(aAa v c1 p1 h1').2.2.2.2.2.2.2.2.2.1,(aAa v c1 p1 h1').2.2.2.2.2.2.2.2.2.2.1,(aAa v c1 p1 h1').2.2.2.2.2.2.2.2.2.2.2.1,(aAa v c1 p1 h1').2.2.2.2.2.2.2.2.2.2.2.2.1,(aAa v c1 p1 h1').2.2.1)=some (aT0 v):=aS8 sw;have e2:aB ((aAa v c1 p1 h1').2.2.2.2.2.2.2.2.2.2.2.2.2.1,(aAa v c1 p1 h1').2.2.2.2.2.2.2.2.2.2.2.2.2.2.1,(aAa v c1 p1 h1').2.2.2.2.2.2.2.2.2.2.2.2.2.2.2) (most:Int)=some ((m2:Int),c2,p2,h2):=e2;unfold aAv bWw pj3 pj6 aU bG bC cU kH mI sV vA yR aCs aGc zz4 zz5 zz6 zz7 zz8 zz9;simp only[aT,bI,aX,aY,aZ,e1,aA,e3,e2,w2];refine pW (G:=bWu code (3+most)) (λ(n:Nat) (s:RnS)=> ∃l w c p h,s=rnS n l w c p h/\l.length+n<=3+most/\Ran v l w/\Cur code (c,p,h)) (λr:RnR=> ∃n l w c p h,r=(rnS n l w c p h).2/\l.length<=3+most/\Ran v l w/\Cur code (c,p,h)) ?_ (m2+3) (rnS (m2+3) [] v c2 p2 h2) ⟨[],v,c2,p2,h2,rfl,by simp only[cDj];omega,.nil,k2⟩ ?_
 .rintro n s ⟨l,w,c3,p3,h3,rfl,hn,hr,k3⟩
  cases n with
  | zero=>exact .inl ⟨_,rfl,0,l,w,c3,p3,h3,rfl,by omega,hr,k3⟩
  | succ n=>
   right;have hrun:=hr.run hv (by omega);have hE:=hrun.netE (by omega) hv.top.pos hv.top.len hv.top.links;obtain⟨e,c4,p4,h4,e4,he,k4⟩:=bPt hl hE k3;have e5:=cBl (w:=w) (e:=e) (by decide) hrun.keep (by omega) (by
     have h8:=he.hi;have h9: ¬ (e.1=(9:Int)):=λh=>by rw[h]at h8;exact absurd h8 (by decide)
     exact beq_eq_false_iff_ne.2 h9) ⟨by have :=he.data.1;omega,λx hx=>trivial⟩ (cCc he.pk.1 (by decide))
   have wn:wr (((n+1:Nat):Int) - 1)=(n:Int):=by rw[bD (by omega) (by omega)];omega
   refine⟨n,rnS n (l++[e]) (doW w e).2 c4 p4 h4,by omega,?_,l++[e],(doW w e).2,c4,p4,h4,rfl,by simp only[cC3,cDz];omega,hr.snoc he,k4⟩;obtain⟨⟨as,ls⟩,⟨dn,co⟩,⟨cap,res,us⟩,now,dead,fly,flows,box,drop⟩:=w;obtain⟨kd,en,data,to,ing,k1,k2,k3,k4,k5,k6,k7,k8,k9,k10⟩:=e;show cond (decide (((n+1:Nat):Int)>(0:Int))) _ _=_;rw[zX (show ((n+1:Nat):Int)>0 by omega),zZ];simp only[rnS,nT,nK,nG,aL,aK,aQ,aD,aW,cW,zZ,e4,aA,nxR,aE (b:=168) (n:=l.length) (m:=1) (by decide) (by omega),e5,fW,wn]
 .rintro r ⟨n,l,w,c3,p3,h3,rfl,hn,hr,k3⟩
  exact⟨v,l,w,c3,p3,h3,rfl,hv,hr,hn,k3⟩
theorem bQs{code:List Int}(hl:code.length<=1048576){m:Nat}(hm:3<=m/\m<=1000):∃n:Nat,yV code (m:Int)=some (n:Int)/\n<=m:=by
 unfold yV;have e:Int.tdiv (code.length:Int) 12=((code.length / 12:Nat):Int):=rfl;have w:wr ((code.length:Int).tdiv 12)=((code.length / 12:Nat):Int):=by rw[e,bD (by omega) (by omega)]
 have w2:wr ((3:Int)+((code.length / 12:Nat):Int))=((3+code.length / 12:Nat):Int):=by rw[bD (by omega) (by omega)];omega
 simp only[w,w2]
 by_cases h:((3+code.length / 12:Nat):Int)>(m:Int)
 .rw[zX h];exact⟨m,rfl,cCx _⟩
 .rw[zW h];exact⟨3+code.length / 12,rfl,by omega⟩
def bPx(w:den tNw):q35:=
 ((nT w).1,(nT w).2,(nK w).1,(nK w).2,(nG w).1,(nG w).2.1,(nG w).2.2,aL w,aK w,cW w,aQ w,aD w,aW w)
theorem aL9{code:List Int}(hl:code.length<=1048576){most:Nat}(h0:0<most)(h1:most<=200){c:List Int}{p h:Int}(hc:Cur code (c,p,h)):∃v l w c' p' h',lW (c,p,h) (most:Int)=some ((nT w).1,(nT w).2,(nK w).1,(nK w).2,(nG w).1,(nG w).2.1,(nG w).2.2,aL w,aK w,cW w,aQ w,aD w,aW w,c',p',h')/\uI 3 v/\Ran v l w/\l.length<=3+most/\Cur code (c',p',h'):=by
 obtain⟨v,l,w,c1,p1,h1,e1,hv,hr,hn,k1⟩:=bU2 hl h0 h1 hc;exact⟨v,l,w,c1,p1,h1,by unfold lW pj3 pj6 aU bG bC cU aJr zz4 zz5 zz6 zz7 zz8 zz9;rw[e1];rfl,hv,hr,hn,k1⟩
theorem bHv{code:List Int}(hl:code.length<=1048576):∃v l w,qA code=some (bPx w)/\uI 3 v/\Ran v l w/\l.length<=93:=by
 obtain⟨c0,p0,h0,e0,k0⟩:=aNd hl;obtain⟨n,en,hn⟩:=bQs hl (m:=60) (by decide);have w1:wr ((30:Int)+(n:Int))=((30+n:Nat):Int):=by rw[bD (by omega) (by omega)];omega
 obtain⟨v,l,w,c1,p1,h1,e1,hv,hr,hn',k1⟩:=aL9 hl (most:=30+n) (by omega) (by omega) k0;refine⟨v,l,w,?_,hv,hr,by omega⟩;have en:yV code 60=some (n:Int):=en;unfold qA pj3 aU bG bC zz4 zz5 zz6 zz7 zz8 zz9;simp only[e0,en,aA,w1,e1];rfl
def hdS(l:dO):Option Int:=l.head?.map λx=>(x.1:Int)
def ltS(l:dO):Option Int:=l.getLast?.map λx=>(x.1:Int)
theorem aJx(l:dO)(x:den aBe):ltS (l++[x])=some x.1:=by unfold ltS;rw[cFe];rfl
theorem aOr(l:dO)(x:den aBe):hdS (l++[x])=if l=[] then some x.1 else hdS l:=by
 cases l with
 | nil=>rfl
 | cons y l=>rfl
theorem bVa(nf:Bool)(p:den tPp)(i:Nat)(h:den bP)(out:dO):ltS (aAd nf p i h out)=some h.1/\hdS (aAd nf p i h out)=if out=[] then some h.1 else hdS out:=by
 unfold aAd;rcases pU out with rfl | ⟨m,z,rfl⟩
 .exact⟨rfl,rfl⟩
 .rw[cFe];simp only;split
  .rename_i hc;simp only[cCf,beq_iff_eq]at hc;rw[cFs];refine⟨aJx _ _,?_⟩;have hne:m++[z]≠[]:=by simp
   rw[zS hne,aOr,aOr]
   by_cases hm:m=[]
   .rw[zT hm,zT hm];exact congrArg some hc.2.2.symm
   .rw[zS hm,zS hm]
  .exact⟨aJx _ _,by rw[aOr]⟩
theorem aR5(nf:Bool)(p:den tPp):∀(l:bQ) (k:Nat) (a:dO),ltS (bT (λi h b=>aAd nf p i h b) k l a)=(if l=[] then ltS a else aCp l)/\hdS (bT (λi h b=>aAd nf p i h b) k l a)=(if a=[] then aGt l else hdS a)
 | [],k,a=>by
  refine⟨rfl,?_⟩;show hdS a=_;split
  .rename_i h;rw[h];rfl
  .rfl
 | x::l,k,a=>by
  obtain⟨h1,h2⟩:=aR5 nf p l (k+1) (aAd nf p k x a);obtain⟨g1,g2⟩:=bVa nf p k x a;have hne:aAd nf p k x a≠[]:=λe=>by rw[e]at g1;cases g1
  rw[zS hne,g2]at h2;refine⟨?_,?_⟩
  .show ltS (bT _ (k+1) l (aAd nf p k x a))=_;cases l with
   | nil=>
    show ltS (aAd nf p k x a)=_;rw[zS (List.cons_ne_nil _ _),g1];rfl
   | cons y l=>
    rw[h1,zS (List.cons_ne_nil _ _),zS (List.cons_ne_nil _ _)];unfold aCp;rw[List.getLast?_cons_cons]
  .show hdS (bT _ (k+1) l (aAd nf p k x a))=_;rw[h2];rfl
theorem aZ5:∀(p:lPp) (k:Nat) (a:dO),a≠[]->hdS (bT (λk x a=>rY (decide (0<k)) x a) k p a)=hdS a/\(∀b,aCi p=some b->ltS (bT (λk x a=>rY (decide (0<k)) x a) k p a)=some b)
 | [],k,a,_=>⟨rfl,λb h=>by cases h⟩
 | x::p,k,a,ha=>by
  obtain⟨g1,g2⟩:=aR5 (decide (0<k)) x x.2.2.2 0 a;rw[zS ha]at g2;have hne:rY (decide (0<k)) x a≠[]:=λe=>by
   have g2:hdS (rY (decide (0<k)) x a)=hdS a:=g2;rw[e]at g2;cases a with
   | nil=>exact ha rfl
   | cons y l=>cases g2
  obtain⟨h1,h2⟩:=aZ5 p (k+1) (rY (decide (0<k)) x a) hne;refine⟨h1.trans g2,λb hb=> ?_⟩;cases p with
  | nil=>
   have hb:aCp x.2.2.2=some b:=hb;show ltS (rY (decide (0<k)) x a)=some b;have g1:ltS (rY (decide (0<k)) x a)=_:=g1;rw[g1,zS (λe=>by rw[e]at hb;cases hb),hb]
  | cons y p=>
   have hb:aCi (y::p)=some b:=by
    unfold aCi at hb ⊢
    rwa [List.getLast?_cons_cons]at hb
   exact h2 b hb
theorem bCc(l:dO):hdS (aIl l)=hdS l/\ltS (aIl l)=ltS l:=by
 unfold aIl;cases l with
 | nil=>exact⟨rfl,rfl⟩
 | cons x xs=>
  simp only;rcases pU xs with rfl | ⟨m,z,rfl⟩
  .exact⟨rfl,rfl⟩
  .have e:((x.1,(0:Int),x.2.2)::(m++[z]):dO)=((x.1,(0:Int),x.2.2)::m)++[z]:=rfl;rw[e,cFe];simp only;rw[cFs,aJx];refine⟨rfl,?_⟩;rw[show (x::(m++[z]):dO)=(x::m)++[z] from rfl,aJx]
theorem bB9{p:lPp}{a b:Int}(ha:aH6 p=some a)(hb:aCi p=some b):ends p=(a,b):=by
 cases p with
 | nil=>cases ha
 | cons x p=>
  have ha:aGt x.2.2.2=some a:=ha;obtain⟨g1,g2⟩:=aR5 false x x.2.2.2 0 [];have g1:ltS (rY false x [])=_:=g1;have g2:hdS (rY false x [])=aGt x.2.2.2:=g2;have hne:rY false x []≠[]:=λe=>by rw[e]at g2;rw[<- g2]at ha;cases ha
  obtain⟨h1,h2⟩:=aZ5 p 1 (rY false x []) hne;have e0:aBx (x::p)=bT (λk x a=>rY (decide (0<k)) x a) 1 p (rY false x []):=rfl;have f1:hdS (jG (x::p))=some a:=by
   unfold jG;rw[(bCc _).1,e0,h1,g2,ha]
  have f2:ltS (jG (x::p))=some b:=by
   unfold jG;rw[(bCc _).2,e0];cases p with
   | nil=>
    have hb:aCp x.2.2.2=some b:=hb;show ltS (rY false x [])=some b;rw[g1,zS (λe=>by rw[e]at hb;cases hb),hb]
   | cons y p=>
    have hb:aCi (y::p)=some b:=by
     unfold aCi at hb ⊢
     rwa [List.getLast?_cons_cons]at hb
    exact h2 b hb
  unfold ends;unfold hdS at f1;unfold ltS at f2;obtain⟨u,hu,eu⟩:=cDa.1 f1;obtain⟨v,hv,ev⟩:=cDa.1 f2;rw[hu,hv];simp only;rw[eu,ev]
theorem aVo(x:den tPp):aGt (aDn x).2.2.2=aCp x.2.2.2/\aCp (aDn x).2.2.2=aGt x.2.2.2:=by
 unfold aDn aGt aCp;simp only[List.head?_reverse,List.getLast?_reverse,and_self]
theorem aUa(p:lPp):aH6 (aE7 p)=aCi p/\aCi (aE7 p)=aH6 p:=by
 unfold aE7 aH6 aCi;rw[List.head?_map,List.getLast?_map,List.head?_reverse,List.getLast?_reverse];constructor
 .cases p.getLast? with
  | none=>rfl
  | some x=>exact (aVo x).1
 .cases p.head? with
  | none=>rfl
  | some x=>exact (aVo x).2
theorem aTr{α:Type}(p:α->α->Bool)(hp:∀x y,p x y=true->x=y):∀{a b:List α},a.length=b.length->fX p a b=true->a=b
 | [],[],_,_=>rfl
 | [],_::_,h,_=>by simp at h
 | _::_,[],h,_=>by simp at h
 | x::a,y::b,h,e=>by
  simp only[fX,cCf]at e;rw[hp x y e.1,aTr p hp (by simpa using h) e.2]
theorem bB3(b:Bool):cond b true false=b:=by cases b<;>rfl
theorem bPj{a b:bQ}(h:aFx a b=true):a=b:=by
 unfold aFx at h
 by_cases hl:a.length=b.length
 .rw[zX hl,cCd,zY,bB3]at h;refine aTr _ (λx y e=> ?_) hl h;simp only[cCf,beq_iff_eq,and_true]at e;obtain⟨e1,e2,e3,e4,e5⟩:=e;obtain⟨x1,x2,x3,x4,x5⟩:=x;obtain⟨y1,y2,y3,y4,y5⟩:=y;simp only at e1 e2 e3 e4 e5;rw[e1,e2,e3,e4,e5]
 .rw[zW hl]at h;cases h
theorem aXu{a b:Bool}:cond a b false=true↔a=true/\b=true:=by cases a<;>cases b<;>simp
theorem bKs{a b:den tPp}(h:uQ a b=true):a=b:=by
 unfold uQ at h;simp only[aXu,beq_iff_eq]at h;obtain⟨e1,e2,e3,e4⟩:=h;have e4:=bPj e4;obtain⟨x1,x2,x3,x4⟩:=a;obtain⟨y1,y2,y3,y4⟩:=b;simp only at e1 e2 e3 e4;rw[e1,e2,e3,e4]
theorem bQd{a b:lPp}(h:oM a b=true):a=b:=by
 unfold oM at h
 by_cases hl:a.length=b.length
 .rw[zX hl,cCd,zY,bB3]at h;exact aTr _ (λx y e=>bKs e) hl h
 .rw[zW hl]at h;cases h
theorem bP8{a b:den tPk}(ha:eU a)(hb:eU b)(h:qY a b=true):a=b:=by
 unfold qY at h;simp only[aXu,beq_iff_eq]at h;obtain⟨e1,e2,e3,e4,e5,e6,e7,e8,e9,e10⟩:=h;have e4:=bQd e4;have e10:=(aUl ha hb).1 e10;obtain⟨x1,x2,x3,x4,x5,x6,x7,x8,x9,x10⟩:=a;obtain⟨y1,y2,y3,y4,y5,y6,y7,y8,y9,y10⟩:=b;simp only at e1 e2 e3 e4 e5 e6 e7 e8 e9 e10;rw[e1,e2,e3,e4,e5,e6,e7,e8,e9,e10]
theorem eqI{a b:Int}(h:a=b):a=b:=h
theorem ltI{a b:Int}(h:a<b):a<b:=h
theorem leI{a b:Int}(h:a<=b):a<=b:=h
structure aAm (t:den tTo) (f:den tFl) (x:den tIb):Prop where
 val:iJ f=true
 src:cD t f.1=true
 dst:cD t f.2.1=true
 xAS:x.1=f.2.1
 xFrom:x.2.1=f.1
 next:x.2.2.1=(x.2.2.2.length:Int)
 recv:x.2.2.2=f.2.2.2.2.1.take x.2.2.2.length
 len:x.2.2.2.length<=f.2.2.2.2.1.length
 ack:f.2.2.2.1<=(x.2.2.2.length:Int)
 paths:∀p∈f.2.2.2.2.2.1,aH6 p=some f.1/\aCi p=some f.2.1
def sR(w:den tNw)(p:den tPk):Prop:= ∀(k:Nat) (f:den tFl) (x:den tIb),(aD w)[k]? =some f->(aW w)[k]? =some x->
 (p.1=(1:Int)->p.2.1=f.1->p.2.2.1=f.2.1->aH6 p.2.2.2.1=some f.1/\aCi p.2.2.2.1=some f.2.1/\ ∃s:Nat,p.2.2.2.2.2.2.2.2.1=(s:Int)/\f.2.2.2.2.1[s]? =some p.2.2.2.2.2.2.2.2.2)/\
 (p.1=(2:Int)->p.2.1=f.2.1->p.2.2.1=f.1->p.2.2.2.2.2.2.2.2.1<x.2.2.1)
def bQg(w:den tNw)(p:den tPk):Prop:=kE p=true->sR w p
structure eH (t:den tTo) (w:den tNw):Prop where
 top:nT w=t
 lenB:(aW w).length=(aD w).length
 flow:∀(k:Nat) (f:den tFl) (x:den tIb),(aD w)[k]? =some f->(aW w)[k]? =some x->aAm t f x
 uniq:(aD w).Pairwise λf g=>pB g f=false
 good:∀y∈aQ w,bQg w y.2.2
 to:∀y∈aQ w,cD t y.1=true
structure aOz (w w':den tNw):Prop where
 flow:∀(k:Nat) (f':den tFl),(aD w')[k]? =some f'-> ∃f,(aD w)[k]? =some f/\f'.1=f.1/\f'.2.1=f.2.1/\ ∀(s:Nat) (m:List Int),f.2.2.2.2.1[s]? =some m->f'.2.2.2.2.1[s]? =some m
 box:∀(k:Nat) (x':den tIb),(aW w')[k]? =some x'-> ∃x,(aW w)[k]? =some x/\x.2.2.1<=x'.2.2.1
theorem aOz.refl(w:den tNw):aOz w w:=⟨λk f h=>⟨f,h,rfl,rfl,λ_ _ h=>h⟩,λk x h=>⟨x,h,cDr _⟩⟩
theorem sR.grow{w w':den tNw}{p:den tPk}(h:sR w p)(g:aOz w w'):sR w' p:=λk f' x' hf hx=>by
 obtain⟨f,hf0,e1,e2,e3⟩:=g.flow k f' hf;obtain⟨x,hx0,e4⟩:=g.box k x' hx;obtain⟨h1,h2⟩:=h k f x hf0 hx0;rw[e1,e2];refine⟨λa b c=> ?_,λa b c=>Int.lt_of_lt_of_le (h2 a b c) e4⟩;obtain⟨q1,q2,s,q3,q4⟩:=h1 a b c;exact⟨q1,q2,s,q3,e3 s _ q4⟩
theorem sR.goTo{w:den tNw}{p:den tPk}(h:sR w p)(i j b:Int):sR w (goTo p i j b):=h
theorem aLz{w:den tNw}{p:den tPk}(h:p.1=(3:Int)):sR w p:=λk f x _ _=>⟨λe=>absurd (h.symm.trans e) (by decide),λe=>absurd (h.symm.trans e) (by decide)⟩
theorem eH.same{t:den tTo}{w w':den tNw}(h:eH t w)(e1:nT w'=nT w)(e2:aD w'=aD w)(e3:aW w'=aW w)(e4:∀y∈aQ w',y∈aQ w\/(sR w y.2.2/\cD t y.1=true)):eH t w':=by
 have g:aOz w w':=⟨λk f h=>⟨f,by rw[<- e2];exact h,rfl,rfl,λ_ _ h=>h⟩,λk x h=>⟨x,by rw[<- e3];exact h,cDr _⟩⟩
 refine⟨e1.trans h.top,by rw[e2,e3];exact h.lenB,λk f x hf hx=>h.flow k f x (by rw[<- e2];exact hf) (by rw[<- e3];exact hx),by rw[e2];exact h.uniq,λy hy=> ?_,λy hy=> ?_⟩
 .rcases e4 y hy with hy | ⟨hy,_⟩
  .exact λhv=>(h.good y hy hv).grow g
  .exact λ_=>hy.grow g
 .rcases e4 y hy with hy | ⟨_,hy⟩
  .exact h.to y hy
  .exact hy
theorem eH.drop{t:den tTo}{w:den tNw}(h:eH t w):eH t (aAk w):=h.same rfl rfl rfl λy hy=> .inl hy
theorem eH.map{t:den tTo}{w:den tNw}(h:eH t w){l:lFl}(hl:l.length=(aD w).length)
  (hm:∀(k:Nat) (f':den tFl),l[k]? =some f'-> ∃f,(aD w)[k]? =some f/\f'.1=f.1/\f'.2.1=f.2.1/\(∀(s:Nat) (m:List Int),f.2.2.2.2.1[s]? =some m->f'.2.2.2.2.1[s]? =some m)/\ ∀x,(aW w)[k]? =some x->aAm t f x->aAm t f' x):eH t (eR w l):=by
 have g:aOz w (eR w l):=⟨λk f' hf=>by
  obtain⟨f,a,b,c,d,_⟩:=hm k f' hf;exact⟨f,a,b,c,d⟩,λk x h=>⟨x,h,cDr _⟩⟩
 refine⟨h.top,by show (aW w).length=l.length;rw[hl];exact h.lenB,λk f' x hf hx=> ?_,?_,λy hy hv=>(h.good y hy hv).grow g,h.to⟩
 .obtain⟨f,a,_,_,_,e⟩:=hm k f' hf;exact e x hx (h.flow k f x a hx)
 .show l.Pairwise _;rw[cEm];intro i j hi hj hij;obtain⟨f,a,b,c,_⟩:=hm i l[i] (cCe hi);obtain⟨f',a',b',c',_⟩:=hm j l[j] (cCe hj);obtain⟨hi',ei⟩:=cCq.1 a;obtain⟨hj',ej⟩:=cCq.1 a';have :=(cEm.1 h.uniq) i j hi' hj' hij;rw[ei,ej]at this;unfold pB at this ⊢;rw[b,c,b',c'];exact this
theorem eH.one{t:den tTo}{w:den tNw}(h:eH t w){i j:Nat}{f g:den tFl}(hf:(aD w)[i]? =some f)(hg:(aD w)[j]? =some g)(e1:f.1=g.1)(e2:f.2.1=g.2.1):i=j:=by
 obtain⟨hi,ei⟩:=cCq.1 hf;obtain⟨hj,ej⟩:=cCq.1 hg;have hs:∀a b:den tFl,a.1=b.1->a.2.1=b.2.1->pB b a=true:=λa b x y=>by
  unfold pB;rw[x,y];simp
 rcases Nat.lt_trichotomy i j with c | c | c
 .have :=(cEm.1 h.uniq) i j hi hj c;rw[ei,ej,hs f g e1 e2]at this;cases this
 .exact c
 .have :=(cEm.1 h.uniq) j i hj hi c;rw[ei,ej,hs g f e1.symm e2.symm]at this;cases this
theorem bF9{t:den tTo}{f:den tFl}{x:den tIb}{p:den tPk}(h:aAm t f x)(hp:bAh f p=true->p.2.2.2.2.2.2.2.2.1<x.2.2.1):aAm t (yU f p) x:=by
 unfold yU;split
 .rename_i ha;have hs:=hp ha;unfold bAh at ha;simp only[cCf,beq_iff_eq]at ha;obtain⟨_,_,_,h4,h5⟩:=ha;obtain⟨h6,h7⟩:=cE.1 h5;have hn:=h.next
  have hv:=(qG f).1 h.val;have hm:f.2.2.2.2.1.length<=20:=hv.2.2.2.2.1;have e:wr (f.2.2.2.1+1)=f.2.2.2.1+1:=bD (by omega) (by omega);rw[e];refine⟨?_,h.src,h.dst,h.xAS,h.xFrom,h.next,h.recv,h.len,?_,h.paths⟩
  .rw[qG];obtain⟨q1,q2,q3,q4,q5,q6,q7,q8,q9,q10,q11,q12⟩:=hv;exact⟨q1,q2,q3,q4,q5,cE.2 ⟨by show (0:Int)<=f.2.2.2.1+1;omega,by show (f.2.2.2.2.1.length:Int)>=f.2.2.2.1+1;omega⟩,q7,q8,q9,q10,rfl,q12⟩
  .have e1:f.2.2.2.1<x.2.2.1:=h4▸hs;rw[hn]at e1;exact Int.add_one_le_of_lt e1
 .exact h
theorem bDn{t:den tTo}{f:den tFl}{x:den tIb}{p:den tPk}(h:aAm t f x):aAm t (aCc f p) x:=by
 unfold aCc;cases p.1==3&&(aDa p.2.2.2.2.2.2.2.2.2).2.2.2 with
 | false=>exact h
 | true=>
  rw[zZ];have hv:=(qG f).1 h.val;refine⟨?_,h.src,h.dst,h.xAS,h.xFrom,h.next,h.recv,h.len,h.ack,h.paths⟩;rw[qG];obtain⟨q1,q2,q3,q4,q5,q6,q7,q8,q9,q10,q11,q12⟩:=hv;obtain⟨r1,r2⟩:=bPr (l:=f.2.2.2.2.2.2.2.2) (x:=aEj p.2.2.2.2.2.2.2.2.2) ⟨q12,q9⟩;refine⟨q1,q2,q3,q4,q5,q6,q7,q8,r2,?_,?_,r1⟩
  .show cond _ _ _=(0:Int)\/inR (cond _ _ _) 0 _=true;cases bAc f (aEj p.2.2.2.2.2.2.2.2.2) with
   | false=>exact q10
   | true=>exact aXw q7 q10
  .show inR (cond _ _ _) 0 4=true;cases bAc f (aEj p.2.2.2.2.2.2.2.2.2) with
   | false=>exact q11
   | true=>rfl
theorem bIm(f:den tFl)(p:den tPk):(yU f p).1=f.1/\(yU f p).2.1=f.2.1/\(yU f p).2.2.2.2.1=f.2.2.2.2.1:=by
 unfold yU;split<;>exact⟨rfl,rfl,rfl⟩
theorem bMe(f:den tFl)(p:den tPk):(aCc f p).1=f.1/\(aCc f p).2.1=f.2.1/\(aCc f p).2.2.2.2.1=f.2.2.2.2.1:=by
 unfold aCc;cases p.1==3&&(aDa p.2.2.2.2.2.2.2.2.2).2.2.2<;>exact⟨rfl,rfl,rfl⟩
theorem eH.tell{t:den tTo}{w:den tNw}{p:den tPk}(h:eH t w)(hg:sR w p)(r:Int):eH t (yJ w r p):=by
 refine h.map (by simp) λk f' hf'=> ?_
 rw[cEj]at hf';obtain⟨f,hf,rfl⟩:=cDa.1 hf';have ht:(uY r p f).1=f.1/\(uY r p f).2.1=f.2.1/\(uY r p f).2.2.2.2.1=f.2.2.2.2.1:=by
  unfold uY;split
  .split
   .exact bIm f p
   .exact bMe f p
  .exact⟨rfl,rfl,rfl⟩
 refine⟨f,hf,ht.1,ht.2.1,λs m hm=>by rw[ht.2.2];exact hm,λx hx hfx=> ?_⟩;unfold uY;split
 .split
  .refine bF9 hfx λha=> ?_
   unfold bAh at ha;simp only[cCf,beq_iff_eq]at ha;exact (hg k f x hf hx).2 ha.1 ha.2.1 ha.2.2.1
  .exact bDn hfx
 .exact hfx
theorem eH.send{t:den tTo}{w:den tNw}{p:den tPk}(h:eH t w)(hg:sR w p){r eg:Int}(hr:cD t (remote t r eg).1=true):eH t (sU w r eg p):=by
 unfold sU;split
 .refine h.same rfl rfl rfl λy hy=> ?_
  rcases cCo.1 (show y∈aQ w++_ from hy) with hy | hy
  .exact .inl hy
  .have :y=_:=cCn.1 hy;subst this;exact .inr ⟨hg,by rw[h.top];exact hr⟩
 .exact h.drop
theorem bE4{t:den tTo}{w:den tNw}{k:Nat}{f:den tFl}{x:den tIb}{p:den tPk}(hf:(aD w)[k]? =some f)(hx:(aW w)[k]? =some x)(hg:sR w p)(h:aAm t f x):aAm t f (kI x p)/\x.2.2.1<=(kI x p).2.2.1:=by
 unfold kI;split
 .rename_i ht;unfold bDx aFg at ht;simp only[cCf,beq_iff_eq,zR]at ht;obtain⟨⟨h1,h2,h3⟩,h4,h5⟩:=ht;obtain⟨_,_,s,g1,g2⟩:=(hg k f x hf hx).1 h1 (by rw[h2,h.xFrom]) (by rw[h3,h.xAS]);have hn:=eqI h.next
  have h5:=ltI h5;have h4':=eqI h4;have g1':=eqI g1;have hs:s=x.2.2.2.length:=by omega
  subst hs;obtain⟨hlt,he⟩:=cCq.1 g2;have e:wr (x.2.2.1+1)=((x.2.2.2.length+1:Nat):Int):=by
   rw[hn];exact bK (by omega)
  rw[e];have ha:=leI h.ack;refine⟨⟨h.val,h.src,h.dst,h.xAS,h.xFrom,by show ((x.2.2.2.length+1:Nat):Int)=((x.2.2.2++[_]).length:Int);simp,?_,?_,?_,h.paths⟩,?_⟩
  .show x.2.2.2++[p.2.2.2.2.2.2.2.2.2]=f.2.2.2.2.1.take (x.2.2.2++[p.2.2.2.2.2.2.2.2.2]).length;rw[cC3,cDz,List.take_add_one,g2,<- h.recv];rfl
  .show (x.2.2.2++[p.2.2.2.2.2.2.2.2.2]).length<=_;rw[cC3,cDz];omega
  .refine leI (a:=f.2.2.2.1) (b:=((x.2.2.2++[p.2.2.2.2.2.2.2.2.2]).length:Int)) ?_;rw[cC3,cDz];omega
  .refine leI (a:=x.2.2.1) (b:=((x.2.2.2.length+1:Nat):Int)) ?_;omega
 .exact⟨h,cDr _⟩
theorem eH.box{t:den tTo}{w:den tNw}{k:Nat}{x x':den tIb}(h:eH t w)(hx:(aW w)[k]? =some x)(hn:x.2.2.1<=x'.2.2.1)(hf:∀f,(aD w)[k]? =some f->aAm t f x'):eH t (uN w k x')/\aOz w (uN w k x'):=by
 have hk:k<(aW w).length:=(cCq.1 hx).1;have g:aOz w (uN w k x'):=⟨λk f h=>⟨f,h,rfl,rfl,λ_ _ h=>h⟩,λj y hy=>by
  replace hy:((aW w).set k x')[j]? =some y:=hy;rw[cEk]at hy;split at hy
  .rename_i e;subst e
   try rw[zT hk]at hy
   injection hy with hy;subst hy;exact⟨x,hx,hn⟩
  .exact⟨y,hy,cDr _⟩⟩
 refine⟨⟨h.top,by show ((aW w).set k x').length=_;rw[cDv];exact h.lenB,λj f y hf' hy=> ?_,h.uniq,λy hy hv=>(h.good y hy hv).grow g,h.to⟩,g⟩;replace hy:((aW w).set k x')[j]? =some y:=hy;rw[cEk]at hy;split at hy
 .rename_i e;subst e
  try rw[zT hk]at hy
  injection hy with hy;subst hy;exact hf f hf'
 .exact h.flow j f y hf' hy
theorem bOy{t:den tTo}{w:den tNw}{k:Nat}{x:den tIb}{p:den tPk}(h:eH t w)(hk:∃f,(aD w)[k]? =some f)(hx:(aW w)[k]? =some x)(ha:aH3 x p=true)(hg:sR w p):sR w (uW x p):=by
 obtain⟨f,hf⟩:=hk;have hfx:=h.flow k f x hf hx;unfold aH3 aFg at ha;simp only[cCf,beq_iff_eq,cDk,decide_eq_false_iff_not]at ha;obtain⟨⟨h1,h2,h3⟩,h4⟩:=ha;have e1:(p.2.1:Int)=f.1:=h2.trans hfx.xFrom;have e2:(p.2.2.1:Int)=f.2.1:=h3.trans hfx.xAS;obtain⟨p1,p2,_⟩:=(hg k f x hf hx).1 h1 e1 e2;have he:ends (aE7 p.2.2.2.1)=(f.2.1,f.1):=bB9 ((aUa _).1.trans p2) ((aUa _).2.trans p1);have hm:uW x p=aG6 2 (aE7 p.2.2.2.1) p.2.2.2.2.2.2.2.1 p.2.2.2.2.2.2.2.2.1 []:=by
  unfold uW;rw[zT (by
   unfold aH3 aFg;simp only[cCf,beq_iff_eq,cDk,decide_eq_false_iff_not];exact⟨⟨h1,h2,h3⟩,h4⟩)]
  rfl
 intro j g y hg' hy;refine⟨λe=> ?_,λ_ a b=> ?_⟩
 .rw[hm]at e;exact absurd e (show ¬ ((2:Int)=1) by decide)
 .rw[hm]at a b ⊢;have a:(ends (aE7 p.2.2.2.1)).1=g.2.1:=a;have b:(ends (aE7 p.2.2.2.1)).2=g.1:=b;rw[he]at a b;have hj:k=j:=h.one hf hg' b a;subst hj;have :some x=some y:=hx.symm.trans hy;injection this with this;subst this;exact Int.not_le.1 h4
theorem bOo{t:den tTo}{x:den tPp}(h:rZ t x=true){k:Nat}{y:den bP}(hy:x.2.2.2[k]? =some y):cD t y.1=true/\(k=0\/aKf t x ((x.2.2.2[k - 1]?).getD h0) y=true):=by
 unfold rZ at h;simp only[cCf]at h;obtain⟨_,_,_,_,h5,h6⟩:=h;have a:=(xH (aE5 t x.2.2.2) x.2.2.2).1 h5 k y hy;have b:=(xH (zD t x) x.2.2.2).1 h6 k y hy;unfold aE5 at a;unfold zD at b;simp only[cCf]at a;rw[cD1,zR]at b;exact⟨a.2.1,b⟩
theorem bYu{t:den tTo}{p:den tPk}(hw:wfP t p.2.2.2.1=true)(hh:dQ p=true)(hz:0<=eD p)(hl:fD p=true)(ha:kP p=false):eD (adv p)=eD p/\(adv p).2.2.2.2.1=p.2.2.2.2.1+1/\(adv p).2.2.2.1=p.2.2.2.1:=by
 obtain⟨i,e1,e2⟩:=bCh hh hz hl ha;obtain⟨i',j,f1,f2,f3,f4,f5⟩:=mV hh;have f1':=eqI f1;have :i'=i:=by have :=eqI (f1.symm.trans e1);omega
 subst this;have e:adv p=goTo p (p.2.2.2.2.1+1) 0 (sQ p).2.2.1:=by
  unfold adv;rw[ha,hl,zW (show ¬ eD p<0 by omega)];rfl
 rw[e];refine⟨?_,rfl,rfl⟩;obtain⟨v1,v2⟩:=aNo hw e2;obtain⟨u1,_⟩:=aNo hw f3;have hj:aM6 (cK p) (sQ p)=true:=by
  rcases v2 with v2 | v2
  .omega
  .rw[show i'+1 - 1=i' by omega,f3]at v2;exact v2
 unfold aM6 at hj;rw[cCf,beq_iff_eq]at hj;have hp:=aPh v1;have hq:=aPh u1;have hhd:(sQ p).2.2.2[0]? =some (aHa (sQ p)):=by
  unfold aHa;rw[cCe hp];rfl
 have hjl:j=(cK p).2.2.2.length - 1:=by
  unfold fD at hl;rw[beq_iff_eq,f2]at hl;have hl:=eqI hl;omega
 have hlt:aJ4 (cK p)=dT p:=by
  unfold aJ4;rw[<- hjl,f4];rfl
 have hn:dQ (goTo p (p.2.2.2.2.1+1) 0 (sQ p).2.2.1)=true/\cK (goTo p (p.2.2.2.2.1+1) 0 (sQ p).2.2.1)=sQ p/\dT (goTo p (p.2.2.2.2.1+1) 0 (sQ p).2.2.1)=aHa (sQ p):=by
  have en:(p.2.2.2.2.1+1).toNat=i'+1:=by rw[f1];omega
  have a:cK (goTo p (p.2.2.2.2.1+1) 0 (sQ p).2.2.1)=sQ p:=by
   show (p.2.2.2.1[(p.2.2.2.2.1+1).toNat]?).getD pt0=_;rw[en,e2];rfl
  refine⟨?_,a,?_⟩
  .have hlen:=(cCq.1 e2).1;show (inR (p.2.2.2.2.1+1) 0 ((p.2.2.2.1.length:Int) - 1)&&inR (0:Int) 0 (((((p.2.2.2.1[(p.2.2.2.2.1+1).toNat]?).getD (0,0,0,[])).2.2.2.length:Nat):Int) - 1))=true;rw[en,e2,f1,cCf];refine⟨cE.2 ⟨by omega,by omega⟩,cE.2 ⟨by omega,?_⟩⟩;show (0:Int)<=((sQ p).2.2.2.length:Int) - 1;omega
  .unfold dT;rw[a];show ((sQ p).2.2.2[(0:Int).toNat]?).getD h0=_;rw[show (0:Int).toNat=0 from rfl,hhd];rfl
 obtain⟨_,_,_,_,_,_,g⟩:=mV hn.1;rw[g,hn.2.2,<- hj.2,hlt,<- f5]
theorem aZp{t:den tTo}{now:Int}:∀(n:Nat) (p:den tPk),wfP t p.2.2.2.1=true->p.2.2.2.2.1+(n:Int)=(p.2.2.2.1.length:Int)->(goC t now n p).1=0->(fD (goC t now n p).2=false\/kP (goC t now n p).2=true)/\eD (goC t now n p).2=eD p/\(goC t now n p).2.2.2.2.1=p.2.2.2.1
 | 0,p,hw,hn,h=>by
  exfalso;obtain⟨h1,h2⟩:=aA2 (show iW t now p=0 from h);obtain⟨i,j,f1,_,f3,_⟩:=mV h1;have :=(cCq.1 f3).1;have hn:=eqI hn;have f1:=eqI f1;omega
 | n+1,p,hw,hn,h=>by
  have hc0:=aMy h;obtain⟨h1,h2⟩:=aA2 hc0;obtain⟨s1,s2,_,_,s5,s6⟩:=(tW t p).cur;have sp:(bO t p).2.2.2.1=p.2.2.2.1:=(tW t p).1;have si:(bO t p).2.2.2.2.1=p.2.2.2.2.1:=(tW t p).2.1;unfold goC at h|-;split at h
  .rename_i hc;rw[zT hc];simp only[cCf,cDk]at hc;obtain⟨a1,a2,a3⟩:=bYu (t:=t) (p:=bO t p) (by rw[sp];exact hw) (s1.trans h1) (by rw[s2];exact h2) hc.2.1 hc.2.2;obtain⟨b1,b2,b3⟩:=aZp n (adv (bO t p)) (by rw[a3,sp];exact hw) (by rw[a2,a3,si,sp];refine eqI ?_;have hn:=eqI hn;omega) h;exact⟨b1,b2.trans (a1.trans s2),b3.trans (a3.trans sp)⟩
  .rename_i hc;rw[zS hc];refine⟨?_,s2,sp⟩;rw[hc0]at hc;show fD (bO t p)=false\/kP (bO t p)=true;cases hl:fD (bO t p) with
   | false=>exact .inl rfl
   | true=>
    right;rw[hl]at hc;simpa using hc
theorem aVw{t:den tTo}{now:Int}{dead:List Int}{r inn:Int}{p:den tPk}(h:((cX t now dead r inn p).1==0)=true):cD t (remote t r (cX t now dead r inn p).2.1).1=true:=by
 have h:(fwd t r now (aAi t dead r) inn p).1=0:=eq_of_beq (show ((fwd t r now (aAi t dead r) inn p).1==0)=true from h);unfold cX;unfold fwd at h|-;split at h
 .exact absurd h (show ¬ ((2:Int)=0) by decide)
 rename_i c1;rw[zS c1];split at h
 .exact absurd h (show ¬ ((3:Int)=0) by decide)
 rename_i c2;rw[zS c2];split at h
 .rename_i c3;simp only[cDk,beq_eq_false_iff_ne]at c3;exact absurd h c3
 rename_i c3;rw[zS c3];split at h
 .split at h<;>first | exact absurd h (show ¬ ((1:Int)=0) by decide) | exact absurd h (show ¬ ((2:Int)=0) by decide)
 rename_i c4;rw[zS c4];split at h
 .exact absurd h (show ¬ ((6:Int)=0) by decide)
 rename_i c5;rw[zS c5];split at h
 .exact absurd h (show ¬ ((7:Int)=0) by decide)
 rename_i c6;rw[zS c6];simp only[cD1,cDk,not_or,Bool.not_eq_false,beq_iff_eq]at c1 c3 c4;obtain⟨v1,v2,v3⟩:=c1;have hw:wfP t p.2.2.2.1=true:=by
  unfold sC at v2;rw[cCf]at v2;exact v2.1
 have hh:dQ p=true:=by
  unfold kE at v1;simp only[cCf]at v1;exact v1.2.2.1
 obtain⟨i,j,f1,_,f3,_⟩:=mV hh;have hlen:=(cCq.1 f3).1;obtain⟨b1,b2,b3⟩:=aZp (t:=t) (now:=now) (p.2.2.2.1.length - p.2.2.2.2.1.toNat) p hw (by rw[f1,cCm];refine eqI ?_;omega) c3;obtain⟨q1,q2,_⟩:=aI6 (t:=t) (now:=now) (p.2.2.2.1.length - p.2.2.2.2.1.toNat) p c3;show cD t (remote t r (pEg (cK (dC t now p).2) (dT (dC t now p).2))).1=true;have e:dC t now p=goC t now (p.2.2.2.1.length - p.2.2.2.2.1.toNat) p:=rfl;have c4:kP (dC t now p).2=false:=by simpa using c4
 rw[<- e]at b1 b2 b3 q1 q2;generalize (dC t now p).2=q at *;have hl:fD q=false:=b1.elim id λh=>by rw[c4]at h;cases h
 obtain⟨a,b,g1,g2,g3,g4,g5⟩:=mV q1;have b3:(q.2.2.2.1:lPp)=p.2.2.2.1:=b3;have g3':(p.2.2.2.1:lPp)[a]? =some (cK q):=by rw[<- b3];exact g3
 obtain⟨w1,_⟩:=aNo hw g3';have hb:=(cCq.1 g4).1;have hb2:b+1<(cK q).2.2.2.length:=by
  unfold fD at hl;rw[g2,beq_eq_false_iff_ne]at hl;have hl: ¬ ((b:Int)=((cK q).2.2.2.length:Int) - 1):=hl;omega
 obtain⟨y1,y2⟩:=bOo w1 (cCe hb2);rcases y2 with y2 | y2
 .omega
 .rw[show b+1 - 1=b by omega,g4]at y2;unfold aKf at y2;simp only[cCf,beq_iff_eq,cDc]at y2;have er:r=(dT q).1:=by
   have :=v3;rw[<- g5,b2];exact this.symm
  rw[er,y2.2.1];exact y1
theorem aC8{w:den tNw}{t:den tTo}{now:Int}{dead:List Int}{r inn:Int}{p:den tPk}(h:sR w p):sR w (cX t now dead r inn p).2.2.1:=by
 obtain⟨i,j,b,e⟩:=aZ1 t r now (aAi t dead r) inn p;unfold cX;rw[e];exact h.goTo i j b
theorem aU5{t:den tTo}{w:den tNw}{r inn:Int}{p:den tPk}(h:eH t w)(hg:sR w p):eH t (proc0 w r inn p):=by
 unfold proc0;split
 .rename_i hc;exact h.send (aC8 hg) (by rw[<- h.top];exact aVw hc)
 .split
  .exact h.tell (aC8 hg) r
  .exact h.drop
theorem bJi{t:den tTo}{w:den tNw}{r:Int}{p:den tPk}(h:eH t w)(hg:sR w p):eH t (aB7 w r p):=by
 unfold aB7;split
 .exact h
 .rename_i hc;rcases aPb (aW w) r p.2.1 with hf | ⟨k,x,hf,hx⟩
  .rw[hf]at hc;exact absurd (by decide) hc
  .have hba:aCe w k=x:=by unfold aCe;rw[hx];rfl
   rw[hf,cCm,hba];have hk:=(cCq.1 hx).1;have hkf:k<(aD w).length:=by rw[<- h.lenB];exact hk
   have hfl:(aD w)[k]? =some (aD w)[k]:=cCe hkf;obtain⟨d1,d2⟩:=bE4 hfl hx hg (h.flow k _ x hfl hx);obtain⟨b1,b2⟩:=h.box hx d2 (λf hf'=>by
    have :some f=some (aD w)[k]:=hf'.symm.trans hfl;injection this with this;rw[this];exact d1)
   split
   .rename_i ha;refine aU5 b1 (bOy b1 ⟨_,hfl⟩ ?_ ha (hg.grow b2));show ((aW w).set k (kI x p))[k]? =_;rw[cFt hk]
   .exact b1
theorem aMb{t:den tTo}{w:den tNw}{r inn:Int}{p:den tPk}(h:eH t w)(hg:bQg w p):eH t (kD w r inn p):=by
 cases hv:kE p with
 | false=>rw[aVh hv];exact h.drop
 | true=>
  have hg:=hg hv;unfold kD;split
  .rename_i hc;exact h.send (aC8 hg) (by rw[<- h.top];exact aVw hc)
  .split
   .split
    .exact bJi h (aC8 hg)
    .exact h.tell (aC8 hg) r
   .split
    .unfold aEm;split
     .exact (aU5 h (aLz rfl)).drop
     .exact (h.tell (aLz rfl) r).drop
    .exact h.drop
theorem bLb(f:den tFl):∃c wt:Int,(aR f).1=sB f c wt/\((aR f).2.2=true->(aR f).2.1=aBm (sB f c wt)/\aDl (sB f c wt)=true):=by
 unfold aR;split
 .rename_i hs;split
  .exact⟨_,_,rfl,λ_=>⟨rfl,hs⟩⟩
  .split
   .exact⟨_,_,rfl,λh=>⟨rfl,h⟩⟩
   .exact⟨_,_,rfl,λh=>by cases h⟩
 .exact⟨_,_,rfl,λh=>by cases h⟩
theorem eH.set{t:den tTo}{w:den tNw}(h:eH t w){k:Nat}{f g:den tFl}(hf:(aD w)[k]? =some f)(e1:g.1=f.1)(e2:g.2.1=f.2.1)(e3:∀(s:Nat) (m:List Int),f.2.2.2.2.1[s]? =some m->g.2.2.2.2.1[s]? =some m)(e4:∀x,aAm t f x->aAm t g x):eH t (eR w ((aD w).set k g)):=by
 refine h.map (by simp) λj f' hf'=> ?_
 rw[cEk]at hf';split at hf'
 .rename_i e;subst e;rw[zT (cCq.1 hf).1]at hf';injection hf' with hf';subst hf';exact⟨f,hf,e1,e2,e3,λx _=>e4 x⟩
 .exact⟨f',hf',rfl,rfl,λ_ _ h=>h,λx _ h=>h⟩
theorem bH7{t:den tTo}{w:den tNw}{k:Nat}{g:den tFl}(h:eH t w)(hg:(aD w)[k]? =some g)(hs:aDl g=true):sR w (aBm g):=by
 have hk:k<(aW w).length:=by rw[h.lenB];exact (cCq.1 hg).1
 have hfi:=h.flow k g _ hg (cCe hk);have hs':=hs;unfold aDl at hs';rw[cCf]at hs';obtain⟨a0,a1⟩:=cE.1 hs'.1;obtain⟨b0,b1⟩:=cE.1 hs'.2;have hc:g.2.2.2.2.2.2.1.toNat<g.2.2.2.2.2.1.length:=by omega
 have ha:g.2.2.2.1.toNat<g.2.2.2.2.1.length:=by omega
 have hpth:g.2.2.2.2.2.1[g.2.2.2.2.2.2.1.toNat]? =some (g.2.2.2.2.2.1[g.2.2.2.2.2.2.1.toNat]'hc):=cCe hc;have hmsg:g.2.2.2.2.1[g.2.2.2.1.toNat]? =some (g.2.2.2.2.1[g.2.2.2.1.toNat]'ha):=cCe ha;obtain⟨p1,p2⟩:=hfi.paths _ (cCt hpth);have he:=bB9 p1 p2;have e:aBm g=aG6 1 (g.2.2.2.2.2.1[g.2.2.2.2.2.2.1.toNat]'hc) g.2.2.1 g.2.2.2.1 (g.2.2.2.2.1[g.2.2.2.1.toNat]'ha):=by
  unfold aBm;rw[zT hs,hpth,hmsg];rfl
 rw[e];intro j f x hf hx;refine⟨λ_ a b=> ?_,λa=>absurd a (show ¬ ((1:Int)=2) by decide)⟩;have a:(ends (g.2.2.2.2.2.1[g.2.2.2.2.2.2.1.toNat]'hc)).1=f.1:=a;have b:(ends (g.2.2.2.2.2.1[g.2.2.2.2.2.2.1.toNat]'hc)).2=f.2.1:=b;rw[he]at a b;have hj:k=j:=h.one hg hf a b;subst hj;have :some g=some f:=hg.symm.trans hf;injection this with this;subst this;exact⟨p1,p2,g.2.2.2.1.toNat,(Int.toNat_of_nonneg b0).symm,hmsg⟩
theorem bMo{t:den tTo}{w:den tNw}(k:Nat)(h:eH t w):eH t (stepT k w):=by
 unfold stepT;split
 .rename_i f hf;obtain⟨c,wt,e1,e2⟩:=bLb f;have hset:eH t (eR w ((aD w).set k (aR f).1)):=by
   refine h.set hf (by rw[e1];rfl) (by rw[e1];rfl) (λs m hm=>by rw[e1];exact hm) λx hx=> ?_
   have hv:=bJ6 hx.val;rw[e1]at hv ⊢;exact⟨hv,hx.src,hx.dst,hx.xAS,hx.xFrom,hx.next,hx.recv,hx.len,hx.ack,hx.paths⟩
  split
  .rename_i hb;obtain⟨g1,g2⟩:=e2 hb;rw[<- e1]at g1 g2;refine aMb hset λ_=> ?_
   rw[g1];refine bH7 hset (k:=k) ?_ g2;show ((aD w).set k _)[k]? =_;rw[cFt (cCq.1 hf).1]
  .exact hset
 .exact h
theorem aVl{t:den tTo}:∀(n k:Nat) {w:den tNw},eH t w->eH t (tickL k n w)
 | 0,_,_,h=>h
 | n+1,k,_,h=>aVl n (k+1) (bMo k h)
theorem aUi{t:den tTo}{w:den tNw}(h:eH t w):eH t (tC w):=by
 unfold tC;split
 .exact h
 .exact aVl _ _ (h.same (w':=aHy w) rfl rfl rfl λy hy=> .inl hy)
theorem bTq{t:den tTo}{w:den tNw}{k:Nat}{f:den tFl}{b:List Int}(h:eH t w)(hf:(aD w)[k]? =some f):eH t (eR w ((aD w).set k (aIb f b))):=by
 unfold aIb;split
 .rename_i hv;refine h.set hf rfl rfl (λs m hm=> ?_) λx hx=> ?_
  .show (f.2.2.2.2.1++[b])[s]? =some m;rw[cE8 (cCq.1 hm).1];exact hm
  .refine⟨hv,hx.src,hx.dst,hx.xAS,hx.xFrom,hx.next,?_,?_,hx.ack,hx.paths⟩
   .show x.2.2.2=(f.2.2.2.2.1++[b]).take _;rw[List.take_append_of_le_length hx.len];exact hx.recv
   .show x.2.2.2.length<=(f.2.2.2.2.1++[b]).length;have :=hx.len;rw[cC3];omega
 .exact h.set hf rfl rfl (λ_ _ h=>h) λ_ h=>h
theorem bLc{t:den tTo}{w:den tNw}{e:den iI}(h:eH t w)(hb:∀x∈aQ w,eU x.2.2)(hp:eU e.2.2.2.2.2)(h7:(e.1==(7:Int))=true)(hh:harm w e=true):bQg w e.2.2.2.2.2:=by
 intro hv;unfold harm vC at hh;rw[h7,hv]at hh;cases h3:(e.2.2.2.2.2.1==(3:Int)) with
 | true=>exact aLz (eq_of_beq h3)
 | false=>
  rw[h3]at hh;simp only[cCd,Bool.or_self,zY]at hh;cases ha:w.2.2.2.2.2.1.all (λx=> !qY x.2.2 e.2.2.2.2.2) with
  | true=>
   rw[ha,zZ,cC6]at hh;intro k f x hf hx;have :=hh f (cCt hf);unfold aBu at this;refine⟨λ_ a b=> ?_,λ_ a b=> ?_⟩
   .rw[a,b]at this;simp at this
   .rw[a,b]at this;simp at this
  | false=>
   rw[List.all_eq_false]at ha;obtain⟨x,hx,he⟩:=ha;have hx:x∈aQ w:=hx;have he:qY x.2.2 e.2.2.2.2.2=true:=by simpa using he
   have :=bP8 (hb x hx) hp he;rw[<- this];exact h.good x hx (by rw[this];exact hv)
theorem bTp{t:den tTo}{w:den tNw}{e:den iI}(h:eH t w)(hb:∀x∈aQ w,eU x.2.2)(hp:eU e.2.2.2.2.2)(hh:harm w e=true):eH t (doW w e).2:=by
 have dC:∀i,eH t (aC7 w i):=λi=>h.same (w':=aC7 w i) rfl rfl rfl λy hy=> .inl (by
  rcases cCo.1 (show y∈(aQ w).take i++(aQ w).drop (i+1) from hy) with hy | hy
  .exact cDx hy
  .exact cD4 hy)
 unfold doW;split
 .exact aUi h
 .split
  .split
   .rename_i x hi hx;exact aMb (dC _) (h.good x (cCt hx))
   .exact h
  .split
   .split
    .exact (dC _).drop
    .exact h
   .split
    .split
     .rename_i x hi hx;have hm:=cCt hx;refine⟨h.top,h.lenB,h.flow,h.uniq,λy hy=> ?_,λy hy=> ?_⟩
      .rcases cCo.1 (show y∈aQ w++[x] from hy) with hy | hy
       .exact h.good y hy
       .rw[cCn.1 hy];exact h.good x hm
      .rcases cCo.1 (show y∈aQ w++[x] from hy) with hy | hy
       .exact h.to y hy
       .rw[cCn.1 hy];exact h.to x hm
     .exact h
    .split
     .show eH t (aBr w e.2.1 (e.1==5));unfold aBr;split
      .exact h
      .exact h.same rfl rfl rfl λy hy=> .inl hy
     .split
      .rename_i h7;split
       .rename_i hc;rw[cCf]at hc;have hgd:=bLc h hb hp h7 hh;refine⟨h.top,h.lenB,h.flow,h.uniq,λy hy=> ?_,λy hy=> ?_⟩
        .rcases cCo.1 (show y∈aQ w++[e.2.2.2] from hy) with hy | hy
         .exact h.good y hy
         .rw[cCn.1 hy];exact hgd
        .rcases cCo.1 (show y∈aQ w++[e.2.2.2] from hy) with hy | hy
         .exact h.to y hy
         .rw[cCn.1 hy,<- h.top];exact hc.1
       .exact h
      .split
       .split
        .rename_i f hi hf;exact bTq h hf
        .exact h
       .exact h
def cF(l:Nat)(n:Nat)(w:den tNw):Prop:=(l:Int)<=cW w/\(n:Int)>=cW w
abbrev bSu(n:Nat)(w:den tNw):Prop:=cF 0 n w
theorem cF.mono{l:Nat}{n m:Nat}{w:den tNw}(h:cF l n w)(hm:n<=m):cF l m w:=⟨h.1,by have :=h.2;omega⟩
theorem cF.eq{l:Nat}{n:Nat}{w w':den tNw}(h:cF l n w)(e:cW w'=cW w):cF l n w':=by
 unfold cF;rw[e];exact h
theorem cF.drop{l:Nat}{n:Nat}{w:den tNw}(h:cF l n w)(hn:n<=1000000000):cF l (n+1) (aAk w):=by
 obtain⟨h0,h1⟩:=h;have e:wr (cW w+1)=cW w+1:=bD (by omega) (by omega);exact⟨by show (l:Int)<=wr (cW w+1);omega,by show ((n+1:Nat):Int)>=wr (cW w+1);omega⟩
theorem cF.send{l:Nat}{n:Nat}{w:den tNw}(h:cF l n w)(hn:n<=1000000000)(r eg:Int)(p:den tPk):cF l (n+1) (sU w r eg p):=by
 unfold sU;split
 .exact h.mono (Nat.le_succ _)
 .exact h.drop hn
theorem cF.proc0{l:Nat}{n:Nat}{w:den tNw}(h:cF l n w)(hn:n<=1000000000)(r inn:Int)(p:den tPk):cF l (n+1) (proc0 w r inn p):=by
 unfold Go.Proofs.YtnkjolpkcmgcaaaGreat.proc0;split
 .exact h.send hn _ _ _
 .split
  .exact cF.mono (n:=n) (h.eq rfl) (Nat.le_succ _)
  .exact h.drop hn
theorem cF.proc{l:Nat}{n:Nat}{w:den tNw}(h:cF l n w)(hn:n<=999999000)(r inn:Int)(p:den tPk):cF l (n+2) (kD w r inn p):=by
 unfold kD;split
 .exact (h.send (by omega) _ _ _).mono (by omega)
 .split
  .split
   .unfold aB7;split
    .exact h.mono (by omega)
    .split
     .refine cF.mono (n:=n+1) (cF.proc0 (n:=n) ?_ (by omega) _ _ _) (by omega);exact cF.eq h rfl
     .exact cF.mono (n:=n) (h.eq rfl) (by omega)
   .exact cF.mono (n:=n) (h.eq rfl) (by omega)
  .split
   .unfold aEm;split
    .exact (h.proc0 (by omega) _ _ _).drop (by omega)
    .refine cF.mono (n:=n+1) (cF.drop (n:=n) ?_ (by omega)) (by omega);exact cF.eq h rfl
   .exact (h.drop (by omega)).mono (by omega)
theorem cF.stepT{l:Nat}{n:Nat}{w:den tNw}(h:cF l n w)(hn:n<=999999000)(k:Nat):cF l (n+2) (stepT k w):=by
 unfold Go.Proofs.YtnkjolpkcmgcaaaGreat.stepT;split
 .split
  .refine cF.proc (n:=n) ?_ hn _ _ _;exact cF.eq h rfl
  .exact cF.mono (n:=n) (h.eq rfl) (by omega)
 .exact h.mono (by omega)
theorem cF.tickL{l:Nat}{m:Nat}:∀(m k:Nat) {n:Nat} {w:den tNw},cF l n w->n+2 * m<=999999000->cF l (n+2 * m) (tickL k m w)
 | 0,_,_,_,h,_=>h
 | m+1,k,n,w,h,hn=>by
  unfold Go.Proofs.YtnkjolpkcmgcaaaGreat.tickL;exact (cF.tickL (m:=0) m (k+1) (h.stepT (by omega) k) (by omega)).mono (by omega)
theorem cF.event{l:Nat}{n:Nat}{w:den tNw}{e:den iI}(h:cF l n w)(hf:(aD w).length<=4)(hn:n<=900000000):cF l (n+8) (doW w e).2:=by
 have same:cF l (n+8) w:=h.mono (by omega);unfold doW;split
 .show cF l (n+8) (tC w);unfold tC;split
  .exact same
  .refine cF.mono (n:=n+2 * (aD w).length) (cF.tickL (m:=0) (aD w).length 0 (n:=n) ?_ (by omega)) (by omega);exact cF.eq h rfl
 .split
  .split
   .refine cF.mono (n:=n+2) (cF.proc (n:=n) ?_ (by omega) _ _ _) (by omega);exact cF.eq h rfl
   .exact same
  .split
   .split
    .refine cF.mono (n:=n+1) (cF.drop (n:=n) ?_ (by omega)) (by omega);exact cF.eq h rfl
    .exact same
   .split
    .split
     .exact same
     .exact same
    .split
     .show cF l (n+8) (aBr w e.2.1 (e.1==5));unfold aBr;split
      .exact same
      .exact same
     .split
      .split
       .exact same
       .exact same
      .split
       .split
        .exact same
        .exact same
       .exact same
def aCa(m:Nat)(l:List Int):Prop:=l.Pairwise (λa b=>a<b)/\ ∀n∈l,0<=n/\n<(m:Int)
theorem bL8(m:Nat)(dead:List Int)(i:Int)(b:Bool):aCa m (aBk m dead i b):=by
 unfold aBk;refine⟨List.Pairwise.filter _ (List.pairwise_map.2 (List.pairwise_lt_range.imp λh=>by omega)),λn hn=> ?_⟩;obtain⟨k,hk,rfl⟩:=List.mem_map.1 (List.mem_filter.1 hn).1;have :=List.mem_range.1 hk;exact⟨by omega,by omega⟩
theorem aCa.all{m:Nat}{l:List Int}(h:aCa m l):(l.zipIdx 0).all (λz=>zE l m z.2 z.1)=true:=by
 refine (xH (zE l m) l).2 λk n hn=> ?_
 unfold zE;have hm:=h.2 n (cCt hn);rw[cCf,cD1,zR];refine⟨cE.2 ⟨hm.1,by omega⟩,?_⟩
 by_cases h0:k=0
 .exact .inl h0
 .right;obtain⟨hk,e⟩:=cCq.1 hn;have :=(cEm.1 h.1) (k - 1) k (by omega) hk (by omega);rw[cCe (show k - 1<l.length by omega),cDc];rw[e]at this;rw[zW (show ¬ (l[k - 1]'(by omega)>=n) by omega)];rfl
theorem aQ3(w:den tNw)(r eg:Int)(p:den tPk):aK (sU w r eg p)=aK w:=by unfold sU;split<;>rfl
theorem aP8(w:den tNw)(r inn:Int)(p:den tPk):aK (proc0 w r inn p)=aK w:=by
 unfold proc0;split
 .exact aQ3 _ _ _ _
 .split<;>rfl
theorem bEw(w:den tNw):aK (aAk w)=aK w:=rfl
theorem aK3(w:den tNw)(r inn:Int)(p:den tPk):aK (kD w r inn p)=aK w:=by
 unfold kD;split
 .exact aQ3 _ _ _ _
 .split
  .split
   .unfold aB7;split
    .rfl
    .split
     .refine Eq.trans (aP8 _ _ _ _) ?_;rfl
     .rfl
   .rfl
  .split
   .unfold aEm;split
    .rw[bEw];exact aP8 _ _ _ _
    .rfl
   .rfl
theorem bGb(k:Nat)(w:den tNw):aK (stepT k w)=aK w:=by
 unfold stepT;split
 .split
  .rename_i f hf hb;exact aK3 (eR w ((aD w).set k (aR f).1)) _ _ _
  .rfl
 .rfl
theorem aQx:∀(n k:Nat) (w:den tNw),aK (tickL k n w)=aK w
 | 0,_,_=>rfl
 | n+1,k,w=>by
  unfold tickL;exact (aQx n (k+1) (stepT k w)).trans (bGb k w)
theorem aP2(w:den tNw):aK (tC w)=aK w:=by
 unfold tC;split
 .rfl
 .exact aQx (aD w).length 0 (aHy w)
theorem bPc{w:den tNw}{e:den iI}(h:aCa (nT w).2.length (aK w)):aCa (nT w).2.length (aK (doW w e).2):=by
 unfold doW;split
 .show aCa _ (aK (tC w));rw[aP2];exact h
 .split
  .split
   .show aCa _ (aK (kD _ _ _ _));rw[aK3];exact h
   .exact h
  .split
   .split<;>exact h
   .split
    .split<;>exact h
    .split
     .show aCa _ (aK (aBr w e.2.1 (e.1==5)));unfold aBr;split
      .exact h
      .exact bL8 _ _ _ _
     .split
      .split<;>exact h
      .split
       .split<;>exact h
       .exact h
theorem aOa:∀l:lMs,xM l l=true
 | []=>rfl
 | x::l=>by
  show (aDi x x&&xM l l)=true;rw[aOa l,Bool.and_true];unfold aDi;exact beq_self_eq_true _
theorem aAm.ok{t:den tTo}{f:den tFl}{x:den tIb}(h:aAm t f x):xOk x=true/\xL f x=true:=by
 have hv:=(qG f).1 h.val;obtain⟨q1,q2,q3,q4,q5,q6,q7,q8,q9,q10,q11,q12⟩:=hv;have hl:=h.len;have hn:=h.next
 constructor
 .unfold xOk;simp only[cCf,cDk,beq_eq_false_iff_ne,beq_iff_eq,zR,cC6];refine⟨by rw[h.xAS];exact q2,by rw[h.xFrom];exact q1,λe=>q3 (by rw[<- h.xAS,<- h.xFrom];exact e.symm),hn,?_,λm hm=> ?_⟩
  .show (20:Int)>=x.2.2.1;rw[hn];omega
  .have hm':m∈f.2.2.2.2.1:=by
    rw[h.recv]at hm;exact cDx hm
   exact q8 m hm'
 .unfold xL;simp only[cCf,beq_iff_eq,zR];refine⟨h.xAS,h.xFrom,hl,?_,h.ack⟩;rw[<- aIc,<- h.recv];exact aOa _
structure pE (t:den tTo) (B k d:Nat) (w:den tNw):Prop where
 run:rA t B k w
 inv:eH t w
 drop:bSu d w
 dead:aCa t.2.length (aK w)
theorem pE.mono{t:den tTo}{B C k j d e:Nat}{w:den tNw}(h:pE t B k d w)(hB:B<=C)(hk:k<=j)(hd:d<=e):pE t C j e w:=⟨h.run.mono hB hk,h.inv,h.drop.mono hd,h.dead⟩
theorem pE.valid{t:den tTo}{B k d:Nat}{w:den tNw}(h:pE t B k d w)(hk:k<=1000)(ht:aBb t=true):aDv w=true:=by
 have htop:w.1=t:=h.run.top;have hlo:=leI h.run.lo;have hhi:=leI h.run.hi;have hd:=h.drop.1;have hfl:w.2.2.2.2.2.2.1.length<=4:=h.run.keep.flows;have hfy:w.2.2.2.2.2.1.length<=150:=h.run.flyN;unfold aDv;simp only[cCf,zR,cDk,decide_eq_false_iff_not,cC6];refine⟨by rw[htop];exact ht,cE.2 ⟨hlo,leI (cEu hhi (by omega))⟩,bU1.2 h.run.gate,?_,hfy,hfl,h.inv.lenB,?_,λx hx=>by rw[htop];exact h.inv.to x hx,?_⟩
 .have :=(aCa.all h.dead)
  rw[cC6]at this;rw[htop];exact this
 .show ¬ ((cW w:Int)<0);omega
 .have :(w.2.2.2.2.2.2.1.zipIdx 0).all (λz=>nV w z.2 z.1&&vQ w z.2 z.1)=true:=by
   refine (xH (λk f=>nV w k f&&vQ w k f) _).2 λj f hf=> ?_
   have hj:=(cCq.1 hf).1;have hb:j<(aW w).length:=by rw[h.inv.lenB];exact hj
   have hx:(aW w)[j]? =some (aW w)[j]:=cCe hb;have hfi:=h.inv.flow j f _ hf hx;obtain⟨o1,o2⟩:=hfi.ok;rw[cCf];constructor
   .unfold nV;rw[show w.2.2.2.2.2.2.2.1[j]? =some (aW w)[j] from hx];simp only[cCf];exact⟨hfi.val,by rw[htop];exact hfi.src,by rw[htop];exact hfi.dst,o1,o2⟩
   .unfold vQ;rw[cC6];intro g hg;obtain⟨i,hi,hg⟩:=aMe hg;obtain⟨hi',ei⟩:=cCq.1 hg;obtain⟨hj',ej⟩:=cCq.1 hf;have :=(cEm.1 h.inv.uniq) i j hi' hj' hi;have e1:(aD w)[i]=g:=ei;have e2:(aD w)[j]=f:=ej;rw[e1,e2]at this;rw[this];rfl
  rw[cC6]at this;intro z hz;have :=this z hz;rw[cCf]at this;exact this
structure aFa (t:den tTo) (k:Nat) (w:den tNw):Prop where
 run:rA t (1000+2000 * k) k w
 inv:eH t w
 drop:bSu (8 * k) w
 dead:aCa t.2.length (aK w)
theorem aFa.round{t:den tTo}{k:Nat}{w:den tNw}(h:aFa t k w):pE t (1000+2000 * k) k (8 * k) w:=⟨h.run,h.inv,h.drop,h.dead⟩
theorem aFa.valid{t:den tTo}{k:Nat}{w:den tNw}(h:aFa t k w)(hk:k<=1000)(ht:aBb t=true):aDv w=true:=h.round.valid hk ht
theorem uI.runV{v:den tNw}(h:uI 3 v):aFa (nT v) 0 v where
 run:=h.run
 inv:=by
  refine⟨rfl,by rw[h.box,cDb],λk f x hf hx=> ?_,h.uniq,λy hy=>(by rw[h.fly]at hy;cases hy),λy hy=>(by rw[h.fly]at hy;cases hy)⟩;have hm:=cCt hf;have hF:=h.flows f hm;rw[h.box,cEj,hf]at hx;have hx:some ((f.2.1,f.1,0,[]):den tIb)=some x:=hx;injection hx with hx;subst hx;exact⟨hF.val,hF.src,hF.dst,rfl,rfl,rfl,rfl,cCz _,by rw[hF.ack];exact cDr _,hF.ends⟩
 drop:=⟨by rw[h.drop];decide,by rw[h.drop];decide⟩
 dead:=by rw[h.dead];exact⟨List.Pairwise.nil,λn hn=>(cC2 hn).elim⟩
theorem aFa.event{t:den tTo}{k:Nat}{w:den tNw}{e:den iI}(h:aFa t k w)(hk:k<=1000)(ht:t.2.length<=100)(he:EvD w e):aFa t (k+1) (doW w e).2 where
 run:=(bCb h.run (by omega) (by omega) he.s).mono (by omega) (cCx _)
 inv:=bTp h.inv h.run.keep.bytes.fly he.pk.2 he.harm
 drop:=(h.drop.event h.run.keep.flows (by omega)).mono (by omega)
 dead:=by
  have :=bPc (w:=w) (e:=e) (by rw[h.run.top];exact h.dead);rw[h.run.top]at this;exact this
theorem Ran.runV{v:den tNw}(hv:uI 3 v){l:uT}{w:den tNw}(h:Ran v l w):l.length<=1000->aFa (nT v) l.length w:=by
 induction h with
 | nil=>intro _;exact hv.runV
 | snoc h he ih=>
  intro hl;simp only[cC3,cDz]at hl ⊢;exact (ih (by omega)).event (by omega) hv.top.links he
theorem aAy{R T:Type}{n:Nat}(hn:n<=10000000){step:Int->Option (Int⊕R)}{r:R}{k:R->Option T}(h:∀i:Nat,i<n->step (i:Int)=some (.inl ((i+1:Nat):Int)))(he:step (n:Int)=some (.inr r)):Option.bind (aC step (0:Int)) k=k r:=by
 refine fL (G:=λo=>o=k r) n (λs:Int=>s) (λ_ _=>True) (λx=>x=r) ?_ ?_ 0 (0:Int) (cCz _) rfl trivial (λx hx=>by rw[hx])
 .rintro i _ hi rfl _
  exact .inr ⟨_,h i hi,rfl,trivial⟩
 .rintro _ rfl _
  exact⟨r,he,rfl⟩
theorem bMg{t:den tTo}(h1:t.1.length<=10000000)(h2:t.2.length<=10000000):oJ t t=some true:=by
 unfold oJ zz4;simp only[bne_self_eq_false,zY,aA];rw[aAy h1 (r:= .inl ()) (λi hi=>by
  simp only[zX (show (i:Int)<(t.1.length:Int) by omega),zZ,aF,cCe hi,aA,beq_self_eq_true,Bool.and_self,cCd,zY,bK (show i<=1000000000 by omega)]) (by simp only[zW (cC0 _),zY])]
 simp only[cCp];rw[aAy h2 (r:= .inl ()) (λi hi=>by
  simp only[zX (show (i:Int)<(t.2.length:Int) by omega),zZ,aF,cCe hi,aA,beq_self_eq_true,Bool.and_self,cCd,zY,bK (show i<=1000000000 by omega)]) (by simp only[zW (cC0 _),zY])]
 rfl
theorem bPs{s:den tSg}(h:s.2.2.length<=10000000):rH s s=some true:=by
 obtain⟨v,e,k⟩:=aW4 (a:=s.2.2) (b:=s.2.2) h;unfold rH;simp only[beq_self_eq_true,zZ,e,k rfl,aA]
theorem aVj{l:lSg}(h:l.length<=10000000)(hs:∀s∈l,s.2.2.length<=10000000):oL l l=some true:=by
 unfold oL pj3;simp only[bne_self_eq_false,zY];rw[aAy h (r:= .inl ()) (λi hi=>by
  simp only[zX (show (i:Int)<(l.length:Int) by omega),zZ,aF,cCe hi,aA,aN,bPs (hs _ (cC9 hi)),cCd,zY,bK (show i<=1000000000 by omega)]) (by simp only[zW (cC0 _),zY])]
 rfl
theorem bL9{l:List Int}(h:l.length<=10000000):oE l l=some true:=by
 unfold oE;simp only[bne_self_eq_false,zY];rw[aAy h (r:= .inl ()) (λi hi=>by
  simp only[zX (show (i:Int)<(l.length:Int) by omega),zZ,aF,cCe hi,aA,bne_self_eq_false,zY,bK (show i<=1000000000 by omega)]) (by simp only[zW (cC0 _),zY])]
 rfl
theorem aJv{w:den tNw}(h:tot tNw w<=10000000):dN w w=some true:=by
 have sw:=bB h;obtain⟨hT,hK,hG,_,hD,hY,hF,hX,_⟩:=sw;have l5:w.2.2.2.2.2.1.length<=10000000:=hY.1;have l6:w.2.2.2.2.2.2.1.length<=10000000:=hF.1;have l7:w.2.2.2.2.2.2.2.1.length<=10000000:=hX.1;have e1:oJ w.1 w.1=some true:=bMg hT.1.1 hT.2.1;have e2:qF w.2.1 w.2.1=some true:=by
  unfold qF;simp only[aVj hK.1.1 (λs hs=>(hK.1.2 s hs).2.2.1),aVj hK.2.1 (λs hs=>(hK.2.2 s hs).2.2.1),aA,zZ]
 have e3:mX w.2.2.1 w.2.2.1=some true:=bJr (cCc hG.2.1.1 (by decide)) (cCc hG.2.2.1 (by decide));have e4:oE w.2.2.2.2.1 w.2.2.2.2.1=some true:=bL9 hD.1;unfold dN bM pj2 pj3 pj4 pj9 zz4 zz5 zz6 zz7 zz8;simp only[aN,e1,e2,e3,e4,aA,cCd,zY,bne_self_eq_false];rw[aAy l5 (r:= .inl ()) (λi hi=>by
  obtain⟨v,e,k⟩:=bU7 (a:=w.2.2.2.2.2.1[i].2.2) (b:=w.2.2.2.2.2.1[i].2.2) (hY.2 _ (cC9 hi)).2.2;simp only[zX (show (i:Int)<(w.2.2.2.2.2.1.length:Int) by omega),zZ,aF,cCe hi,aA,bne_self_eq_false,zY,aN,e,k rfl,cCd,bK (show i<=1000000000 by omega)]) (by simp only[zW (cC0 _),zY])]
 simp only[cCp];rw[aAy l6 (r:= .inl ()) (λi hi=>by
  obtain⟨v,e,k⟩:=bNy (a:=w.2.2.2.2.2.2.1[i]) (b:=w.2.2.2.2.2.2.1[i]) (hF.2 _ (cC9 hi));simp only[zX (show (i:Int)<(w.2.2.2.2.2.2.1.length:Int) by omega),zZ,aF,cCe hi,aA,aN,e,k rfl,cCd,zY,bK (show i<=1000000000 by omega)]) (by simp only[zW (cC0 _),zY])]
 simp only[cCp];rw[aAy l7 (r:= .inl ()) (λi hi=>by
  have hx:=hX.2 _ (cC9 hi);obtain⟨v,e,k⟩:=bV1 (a:=w.2.2.2.2.2.2.2.1[i]) (b:=w.2.2.2.2.2.2.2.1[i]) hx.2.2.2.1 (λm hm=>(hx.2.2.2.2 m hm).1);simp only[zX (show (i:Int)<(w.2.2.2.2.2.2.2.1.length:Int) by omega),zZ,aF,cCe hi,aA,aN,e,k rfl,cCd,zY,bK (show i<=1000000000 by omega)]) (by simp only[zW (cC0 _),zY])]
 rfl
def bYy:den tNw->uT->den tNw
 | w,[]=>w
 | w,e::l=>bYy (doW w e).2 l
def bDr:den tNw->uT->Prop
 | _,[]=>True
 | w,e::l=>EvD w e/\bDr (doW w e).2 l
theorem bDr.runV{t:den tTo}(ht:t.2.length<=100):∀{l:uT} {k:Nat} {w:den tNw},aFa t k w->bDr w l->k+l.length<=1000->aFa t (k+l.length) (bYy w l)
 | [],_,_,h,_,_=>h
 | e::l,k,w,h,hd,hk=>by
  have hk:k+(l.length+1)<=1000:=hk;have :=bDr.runV ht (h.event (by omega) ht hd.1) hd.2 (by omega:k+1+l.length<=1000);have hn:k+(l.length+1)=k+1+l.length:=by omega
  show aFa t (k+(l.length+1)) _;rw[hn];exact this
def aI2(w w':den tNw):Prop:=(aD w').length=(aD w).length/\ ∀(k:Nat) (f f':den tFl),(aD w)[k]? =some f->(aD w')[k]? =some f'->f.2.2.2.1<=f'.2.2.2.1
def bSc(s d:Int)(w w':den tNw):Prop:=(aW w').length=(aW w).length/\ ∀(k:Nat) (x x':den tIb),(aW w)[k]? =some x->(aW w')[k]? =some x'->x'=x\/(x.2.1=s/\x.1=d/\x'.2.2.2.length=x.2.2.2.length+1)
theorem aI2.same{w w':den tNw}(h:aD w'=aD w):aI2 w w':=by
 refine⟨by rw[h],λk f f' h1 h2=> ?_⟩;rw[h,h1]at h2;injection h2 with h2;rw[h2];exact cDr _
theorem aI2.trans{a b c:den tNw}(h:aI2 a b)(g:aI2 b c):aI2 a c:=by
 refine⟨g.1.trans h.1,λk f f' h1 h2=> ?_⟩;have hk:k<(aD b).length:=by rw[h.1];exact (cCq.1 h1).1
 exact cEu (h.2 k f _ h1 (cCe hk)) (g.2 k _ f' (cCe hk) h2)
theorem bSc.same{s d:Int}{w w':den tNw}(h:aW w'=aW w):bSc s d w w':=by
 refine⟨by rw[h],λk x x' h1 h2=> .inl ?_⟩;rw[h,h1]at h2;injection h2 with h2;exact h2.symm
def bSa(P:Nat->Prop)(w w':den tNw):Prop:=(aW w').length=(aW w).length/\ ∀(k:Nat) (x x':den tIb),(aW w)[k]? =some x->(aW w')[k]? =some x'->x'.2.2.2.length=x.2.2.2.length\/(P k/\x'.2.2.2.length=x.2.2.2.length+1)
theorem bSa.same{P:Nat->Prop}{w w':den tNw}(h:aW w'=aW w):bSa P w w':=by
 refine⟨by rw[h],λk x x' h1 h2=> .inl ?_⟩;rw[h,h1]at h2;injection h2 with h2;rw[h2]
structure iZ (w w':den tNw):Prop where
 top:nT w'=nT w
 book:nK w'=nK w
 flows:(aD w').length=(aD w).length
 now:aL w<=aL w'
theorem iZ.refl(w:den tNw):iZ w w:=⟨rfl,rfl,rfl,cDr _⟩
theorem iZ.trans{a b c:den tNw}(h:iZ a b)(k:iZ b c):iZ a c:=⟨k.top.trans h.top,k.book.trans h.book,k.flows.trans h.flows,cEu h.now k.now⟩
theorem aCw(w:den tNw):iZ w (aAk w):=⟨rfl,rfl,rfl,cDr _⟩
theorem aKo(w:den tNw)(l:lFy):iZ w (sN w l):=⟨rfl,rfl,rfl,cDr _⟩
theorem aFw(w:den tNw){l:lFl}(h:l.length=(aD w).length):iZ w (eR w l):=⟨rfl,rfl,h,cDr _⟩
theorem aMu(w:den tNw)(r:Int)(p:den tPk):iZ w (yJ w r p):=aFw w (cDb _)
theorem aVa(w:den tNw)(r eg:Int)(p:den tPk):iZ w (sU w r eg p):=by
 unfold sU;split
 .exact⟨rfl,rfl,rfl,cDr _⟩
 .exact aCw w
theorem aQ0(w:den tNw)(r inn:Int)(p:den tPk):iZ w (proc0 w r inn p):=by
 unfold proc0;split
 .exact aVa _ _ _ _
 .split
  .exact aMu _ _ _
  .exact aCw w
theorem aW5(w:den tNw)(i:Nat)(x:den tIb):iZ w (uN w i x):=⟨rfl,rfl,rfl,cDr _⟩
theorem aVi(w:den tNw)(r inn:Int)(p:den tPk):iZ w (kD w r inn p):=by
 unfold kD;split
 .exact aVa _ _ _ _
 .split
  .split
   .unfold aB7;split
    .exact iZ.refl w
    .split
     .exact (aW5 w _ _).trans (aQ0 _ _ _ _)
     .exact aW5 w _ _
   .exact aMu _ _ _
  .split
   .unfold aEm;split
    .exact (aQ0 _ _ _ _).trans (aCw _)
    .exact (aMu _ _ _).trans (aCw _)
   .exact aCw w
theorem bD0(k:Nat)(w:den tNw):iZ w (stepT k w):=by
 unfold stepT;split
 .split
  .exact (aFw w (cDv)).trans (aVi _ _ _ _)
  .exact aFw w (cDv)
 .exact iZ.refl w
theorem aP1:∀(n k:Nat) (w:den tNw),iZ w (tickL k n w)
 | 0,_,w=>iZ.refl w
 | n+1,k,w=>by
  unfold tickL;exact (bD0 k w).trans (aP1 n (k+1) (stepT k w))
theorem bIj{w:den tNw}(h0:(0:Int)<=aL w):iZ w (tC w):=by
 unfold tC;split
 .exact iZ.refl w
 .rename_i h;have e:wr (aL w+1)=aL w+1:=bD (by omega) (by omega);have a:iZ w (aHy w):=⟨rfl,rfl,rfl,by show aL w<=wr (aL w+1);omega⟩
  exact a.trans (aP1 _ _ _)
theorem bN9{w:den tNw}{e:den iI}(h0:(0:Int)<=aL w):iZ w (doW w e).2:=by
 unfold doW;split
 .exact bIj h0
 .split
  .split
   .exact (aKo w _).trans (aVi _ _ _ _)
   .exact iZ.refl w
  .split
   .split
    .exact (aKo w _).trans (aCw _)
    .exact iZ.refl w
   .split
    .split
     .exact aKo w _
     .exact iZ.refl w
    .split
     .show iZ w (aBr w e.2.1 (e.1==5));unfold aBr;split
      .exact iZ.refl w
      .exact⟨rfl,rfl,rfl,cDr _⟩
     .split
      .split
       .exact aKo w _
       .exact iZ.refl w
      .split
       .split
        .exact aFw w (cDv)
        .exact iZ.refl w
       .exact iZ.refl w
theorem Ran.book{v:den tNw}(hv:uI 3 v){l:uT}{w:den tNw}(h:Ran v l w):l.length<=1000->nK w=nK v:=by
 induction h with
 | nil=>intro _;rfl
 | snoc h he ih=>
  intro hl;simp only[cC3,cDz]at hl;have hr:=h.runV hv (by omega);exact (bN9 hr.run.lo).book.trans (ih (by omega))
theorem aPo{code:List Int}(hl:code.length<=1048576){c:List Int}{p h:Int}(hc:Cur code (c,p,h)):∃v c' p' h',eA (c,p,h)=some (v,c',p',h')/\(-1<=v/\v<=1000001)/\Cur code (c',p',h'):=by
 obtain⟨b1,c1,p1,h1,e1,k1⟩:=jX hl (n:=10) (by decide) (by decide) hc;unfold eA pj3 pj4;simp only[e1,aA];cases b1 with
 | true=>
  obtain⟨v,c2,p2,h2,e2,r2,k2⟩:=pJ hl (l:=[(-1:Int),1000000,1000001]) (by decide) (by decide) k1;refine⟨v,c2,p2,h2,by simp only[zZ,e2,aA],?_,k2⟩;simp only[List.mem_cons,cC2,or_false]at r2;rcases r2 with rfl | rfl | rfl<;>decide
 | false=>
  obtain⟨v,c2,p2,h2,e2,r2,k2⟩:=aH hl (n:=200) (by decide) (by decide) k1;exact⟨v,c2,p2,h2,by simp only[zY,e2,aA],by omega,k2⟩
theorem bP9(as:lAS)(ls:lLk):tot tTo (as,ls)=as.length+ls.length:=by
 show tot (.sl tAS) as+tot (.sl tLk) ls=_;rw[cZ (t:=tAS) rfl,cZ (t:=tLk) rfl]
theorem aYp{code:List Int}(hl:code.length<=1048576){c:List Int}{p h:Int}(hc:Cur code (c,p,h)):∃as ls c' p' h',zL (c,p,h)=some (as,ls,c',p',h')/\as.length<=8/\ls.length<=101/\Cur code (c',p',h'):=by
 obtain⟨as,ls,c1,p1,h1,e1,ht,k1⟩:=aNm hl hc;have hp:=ht.pos;have hn:=ht.len;have hk:=ht.links;obtain⟨k,c2,p2,h2,e2,r2,k2⟩:=aH hl (n:=(as.length:Int)) (by omega) (by omega) k1;obtain⟨v3,c3,p3,h3,e3,r3,k3⟩:=aH hl (n:=14) (by decide) (by decide) k2;obtain⟨i,rfl⟩:=cC5 r2.1;have hi:i<as.length:=by omega
 have d0:decide ((0:Int)<=(0:Int))=true:=by decide
 have d1:decide ((0:Int)<(as.length:Int))=true:=zX (by omega);have d2:decide ((0:Int)<=(i:Int))=true:=zX (by omega);have d3:decide ((i:Int)<(as.length:Int))=true:=zX (by omega);have g0:as[(0:Int).toNat]? =some (as[0]'(by omega)):=cCe (show 0<as.length by omega);have gi:as[i]? =some (as[i]'hi):=cCe hi;unfold zL dd ixb one pj2 pj3 pj5;simp only[e1,e2,e3,aA,aT,bI,aX,aY,aZ];cases v3==(0:Int) with
 | true=>
  obtain⟨v4,c4,p4,h4,e4,_,k4⟩:=pJ hl (l:=[(0:Int),(-1:Int),2147483647,(as[0]'(by omega)).2.2]) (by simp) (by simp) k3;exact⟨_,ls,c4,p4,h4,by simp only[zZ,d0,d1,d2,d3,g0,gi,cCm,e4,aA];rfl,by rw[cDv];exact hn,by omega,k4⟩
 | false=>
 cases v3==(1:Int) with
 | true=>
  obtain⟨v4,c4,p4,h4,e4,_,k4⟩:=pJ hl (l:=[(-1:Int),3,2]) (by simp) (by simp) k3;exact⟨_,ls,c4,p4,h4,by simp only[zZ,zY,d0,d1,d2,d3,g0,gi,cCm,e4,aA];rfl,by rw[cDv];exact hn,by omega,k4⟩
 | false=>
 cases v3==(2:Int) with
 | true=>exact⟨_,ls,c3,p3,h3,by simp only[zZ,zY,d0,d1,d2,d3,g0,gi,cCm,aA];rfl,by rw[cDv];exact hn,by omega,k3⟩
 | false=>
 cases v3==(3:Int) with
 | true=>
  by_cases hz:(ls.length:Int)>0
  .obtain⟨v4,c4,p4,h4,e4,r4,k4⟩:=aH hl (n:=(ls.length:Int)) (by omega) (by omega) k3;obtain⟨j,rfl⟩:=cC5 r4.1;have hj:j<ls.length:=by omega
   refine⟨as,ls++[ls[j]'hj],c4,p4,h4,?_,hn,by simp;omega,k4⟩;simp only[zZ,zY,zX hz,e4,aA,zX (show (0:Int)<=(j:Int) by omega),zX (show (j:Int)<(ls.length:Int) by omega),cCm,cCe hj,aE (b:=40) (n:=ls.length) (m:=1) (by decide) (by omega),aT,bI,aX,aY,aZ]
  .exact⟨as,ls,c3,p3,h3,by simp only[zZ,zY,zW hz,aA],hn,by omega,k3⟩
 | false=>
 cases v3==(4:Int) with
 | true=>
  obtain⟨v4,c4,p4,h4,e4,r4,k4⟩:=aH hl (n:=9) (by decide) (by decide) k3;obtain⟨v5,c5,p5,h5,e5,r5,k5⟩:=aH hl (n:=9) (by decide) (by decide) k4;obtain⟨v6,c6,p6,h6,e6,r6,k6⟩:=aH hl (n:=5) (by decide) (by decide) k5;exact⟨as,ls++[(wr (v4 - 1),6,v5,6,v6)],c6,p6,h6,by simp only[zZ,zY,e4,e5,e6,aA,aE (b:=40) (n:=ls.length) (m:=1) (by decide) (by omega),aT,bI,aX,aY,aZ],hn,by simp;omega,k6⟩
 | false=>
 cases v3==(5:Int) with
 | true=>exact⟨[],ls,c3,p3,h3,by simp only[zZ,zY,aA],by simp,by omega,k3⟩
 | false=>exact⟨as,ls,c3,p3,h3,by simp only[zY,aA],hn,by omega,k3⟩
theorem bJd{code:List Int}(hl:code.length<=1048576){c:List Int}{p h:Int}(hc:Cur code (c,p,h)):∃cap l us c' p' h',aAz (c,p,h)=some (cap,l,us,c',p',h')/\l.length<=1000/\us.length<=1000/\Cur code (c',p',h'):=by
 obtain⟨cap,l,us,c1,p1,h1,e1,hs,hu,k1⟩:=bNx hl hc;have hr:l.length<=40:=hs.res.len;obtain⟨v2,c2,p2,h2,e2,r2,k2⟩:=aH hl (n:=12) (by decide) (by decide) k1;unfold aAz pj3 pj6 zz4 zz5;simp only[e1,e2,aA,aT,bI,aX,aY,aZ];cases v2==(0:Int) with
 | true=>
  obtain⟨v4,c4,p4,h4,e4,_,k4⟩:=pJ hl (l:=[(0:Int),1,20,21]) (by simp) (by simp) k2;exact⟨v4,l,us,c4,p4,h4,by simp only[zZ,e4,aA],by omega,by omega,k4⟩
 | false=>
 cases v2==(1:Int) with
 | true=>
  obtain⟨v4,c4,p4,h4,e4,r4,k4⟩:=aH hl (n:=3) (by decide) (by decide) k2;obtain⟨v5,c5,p5,h5,e5,r5,k5⟩:=aH hl (n:=9) (by decide) (by decide) k4;exact⟨cap,l,us++[(v4,1,1,v5)],c5,p5,h5,by simp only[zZ,zY,e4,e5,aA,aE (b:=32) (n:=us.length) (m:=1) (by decide) (by omega),aT,bI,aX,aY,aZ],by omega,by simp;omega,k5⟩
 | false=>
 cases v2==(2:Int) with
 | true=>
  obtain⟨x1,x2,x3,x4,x5,c4,p4,h4,e4,k4⟩:=bOu hl k2;exact⟨cap,l++[(x1,x2,x3,x4,x5)],us,c4,p4,h4,by simp only[zZ,zY,e4,aA,aE (b:=40) (n:=l.length) (m:=1) (by decide) (by omega),aT,bI,aX,aY,aZ],by simp;omega,by omega,k4⟩
 | false=>exact⟨cap,l,us,c2,p2,h2,by simp only[zY,aA],by omega,by omega,k2⟩
structure bN8 (w:den tNw):Prop where
 tot:Go.V.tot tNw w<=303000
 bytes:sO w
 flows:(aD w).length<=4
 fly:(aQ w).length<=151
 as:(nT w).1.length<=8
 links:(nT w).2.length<=101
 dead:(aK w).length<=101
 db:DbD 11 (nK w).1 (nK w).2
 drop:cW w<=900000
 flyT:∀x∈aQ w,Go.V.tot tPk x.2.2<=1100
 boxB:∀x∈aW w,∀m∈x.2.2.2,iH m
def bXe(w:den tNw)(c:List Int)(p h:Int):q24:=
 ((nT w).1,(nT w).2,(nK w).1,(nK w).2,(nG w).1,(nG w).2.1,(nG w).2.2,aL w,aK w,cW w,aQ w,aD w,aW w,c,p,h)
theorem bUs{l:List Int}{m:Nat}(h:aCa m l):l.length<=m:=by
 have h1:=h.1;have h2:=h.2;have :∀(l:List Int) (a:Int),l.Pairwise (λa b=>a<b)->(∀n∈l,a<=n/\n<(m:Int))->(l.length:Int)<=max 0 ((m:Int) - a):=by
  intro l
  induction l with
  | nil=>intro a _ _;simp;omega
  | cons x l ih=>
   intro a hp hb;obtain⟨p1,p2⟩:=List.pairwise_cons.1 hp;have hx:=hb x (by simp);have :=ih (x+1) p2 (λn hn=>⟨by have :=p1 n hn;omega,(hb n (cCu _ hn)).2⟩);rw[cDe];omega
 have :=this l 0 h1 h2;omega
theorem aA9(as:lAS)(ls:lLk)(dn co:lSg)(cap:Int)(res:lRs)(us:lUs)(now:Int)(dead:List Int)(fly:lFy)(flows:lFl)(box:lIb)(drop:Int):tot tNw ((as,ls),(dn,co),(cap,res,us),now,dead,fly,flows,box,drop)=(as.length+ls.length)+((tot (.sl tSg) dn+tot (.sl tSg) co)+((0+(res.length+us.length))+(0+(dead.length+(tot (.sl tFy) fly+(tot (.sl tFl) flows+(tot (.sl tIb) box+0))))))):=by
 have :=fK ((as,ls),(dn,co),(cap,res,us),now,dead,fly,flows,box,drop);rw[this];show (tot (.sl tAS) as+tot (.sl tLk) ls)+((tot (.sl tSg) dn+tot (.sl tSg) co)+((0+(tot (.sl tRs) res+tot (.sl tUs) us))+(0+(tot (.sl ti) dead+(tot (.sl tFy) fly+(tot (.sl tFl) flows+(tot (.sl tIb) box+0)))))))=_;rw[cZ (t:=tAS) rfl,cZ (t:=tLk) rfl,cZ (t:=tRs) rfl,cZ (t:=tUs) rfl,cZ (t:=ti) rfl]
theorem aTp{t:Ty}{l:List (den t)}{x:den t}(h:tot t x=0):tot (.sl t) (l++[x])=tot (.sl t) l+1:=by rw[pM,aC5,h]
theorem eH.boxB{t:den tTo}{w:den tNw}(h:eH t w)(hb:sO w):∀x∈aW w,∀m∈x.2.2.2,iH m:=by
 intro x hx m hm;obtain⟨k,hk⟩:=cE4.1 hx;have hlt:k<(aD w).length:=by rw[<- h.lenB];exact (cCq.1 hk).1
 have hf:=cCe hlt;have hr:=(h.flow k _ x hf hk).recv;rw[hr]at hm;exact hb.msg _ (cCt hf) m (cDx hm)
theorem bKe{code:List Int}(hl:code.length<=1048576){most:Nat}(h0:0<most)(h1:most<=100){c:List Int}{p h:Int}(hc:Cur code (c,p,h)):∃w c' p' h',aA6 (c,p,h) (most:Int)=some (bXe w c' p' h')/\bN8 w/\Cur code (c',p',h'):=by
 obtain⟨v,l,w,c1,p1,h1',e1,hv,hr,hn,k1⟩:=aL9 hl h0 (by omega) hc;have hR:=hr.run hv (by omega);have hV:=hr.runV hv (by omega);have ht:tot tNw w<=300000:=cCc hR.keep.tot (by omega);have hf:=hR.keep.flows;have hy:=hR.flyN;have hdl:(aK w).length<=100:=cCc (bUs hV.dead) hv.top.links;have has:(nT w).1.length<=8:=by rw[hR.top];exact hv.top.len
 have hls:(nT w).2.length<=100:=by rw[hR.top];exact hv.top.links
 have hb:=hR.keep.bytes;have hdb:DbD 11 (nK w).1 (nK w).2:=by rw[hr.book hv (by omega)];exact hv.db
 have hdr:cW w<=900000:=by have :=hV.drop.2;omega
 have hft:=hR.fly;have hbb:=hV.inv.boxB hb;have base:bN8 w:=⟨by omega,hb,hf,by omega,has,by omega,by omega,hdb,hdr,hft,hbb⟩
 obtain⟨v2,c2,p2,h2,e2,r2,k2⟩:=aH hl (n:=30) (by decide) (by decide) k1;have nb:(aW w).length<=1000000:=by have :=fK w;have :=eF (t:=tIb) (aW w);omega
 clear hr hR hV hv;obtain⟨⟨as0,ls0⟩,⟨dn,co⟩,⟨cap0,res,us0⟩,now,dead,fly,flows,box,drop⟩:=w;simp only[nT,nK,nG,aL,aK,aQ,aD,aW,cW]at ht hf hy hdl has hls nb e1 hdb hdr hft hbb;have hN:=aA9 as0 ls0 dn co cap0 res us0 now dead fly flows box drop;have bf:∀x∈fly,eU x.2.2:=hb.fly;have bm:∀f∈flows,∀m∈f.2.2.2.2.1,iH m:=hb.msg;unfold aA6 ixb bD9 pj2 pj3 pj4 aU bG bC cU zz4 zz5 zz6 zz7 zz8 zz9;simp only[e1,e2,aA,aT,bI,aX,aY,aZ];cases v2==(0:Int) with
 | true=>
  obtain⟨as,ls,c3,p3,h3,e3,l1,l2,k3⟩:=aYp hl k2;refine⟨((as,ls),(dn,co),(cap0,res,us0),now,dead,fly,flows,box,drop),c3,p3,h3,by simp only[zZ,e3,aA];rfl,⟨?_,⟨bf,bm⟩,hf,by show fly.length<=151;omega,l1,l2,by show (dead).length<=101;omega,hdb,hdr,hft,hbb⟩,k3⟩;rw[aA9];have a1:=cZ (t:=tAS) (l:=as) rfl;have a2:=cZ (t:=tLk) (l:=ls) rfl;omega
 | false=>
 cases v2==(1:Int) with
 | true=>
  obtain⟨v3,c3,p3,h3,e3,r3,k3⟩:=aPo hl k2;exact⟨((as0,ls0),(dn,co),(cap0,res,us0),v3,dead,fly,flows,box,drop),c3,p3,h3,by simp only[zZ,zY,e3,aA];rfl,⟨base.tot,⟨bf,bm⟩,hf,base.fly,has,base.links,base.dead,hdb,hdr,hft,hbb⟩,k3⟩
 | false=>
 cases v2==(2:Int) with
 | true=>
  obtain⟨cap,l3,us,c3,p3,h3,e3,l1,l2,k3⟩:=bJd hl k2;refine⟨((as0,ls0),(dn,co),(cap,l3,us),now,dead,fly,flows,box,drop),c3,p3,h3,by simp only[zZ,zY,e3,aA];rfl,⟨?_,⟨bf,bm⟩,hf,base.fly,has,base.links,base.dead,hdb,hdr,hft,hbb⟩,k3⟩;rw[aA9];have a1:=cZ (t:=tRs) (l:=l3) rfl;have a2:=cZ (t:=tUs) (l:=us) rfl;omega
 | false=>
 cases v2==(3:Int) with
 | true=>
  obtain⟨v3,c3,p3,h3,e3,r3,k3⟩:=aH hl (n:=9) (by decide) (by decide) k2;obtain⟨v4,c4,p4,h4,e4,r4,k4⟩:=aH hl (n:=9) (by decide) (by decide) k3;refine⟨((as0,ls0),(dn,co),(cap0,res,us0),now,[v3,v4],fly,flows,box,drop),c4,p4,h4,by simp only[zZ,zY,e3,e4,aA];rfl,⟨?_,⟨bf,bm⟩,hf,base.fly,has,base.links,by show [v3,v4].length<=101;simp,hdb,hdr,hft,hbb⟩,k4⟩;rw[aA9,show [v3,v4].length=2 from rfl];have a1:tot (.sl ti) [v3,v4]=2:=by rw[cZ (t:=ti) rfl];rfl
  omega
 | false=>
 cases v2==(4:Int) with
 | true=>exact⟨((as0,ls0),(dn,co),(cap0,res,us0),now,dead,fly,flows,box,(-1:Int)),c2,p2,h2,by simp only[zZ,zY,aA];rfl,⟨base.tot,⟨bf,bm⟩,hf,base.fly,has,base.links,base.dead,hdb,(by show (-1:Int)<=900000;decide),hft,hbb⟩,k2⟩
 | false=>
 cases v2==(5:Int) with
 | true=>
  refine⟨((as0,ls0),(dn,co),(cap0,res,us0),now,dead,fly,flows,box++[((0:Int),(1:Int),(0:Int),[])],drop),c2,p2,h2,by simp only[zZ,zY,bKg,aA,aE (b:=48) (n:=box.length) (m:=1) (by decide) (by omega)];rfl,⟨?_,⟨bf,bm⟩,hf,base.fly,has,base.links,base.dead,hdb,hdr,hft,λx hx=> ?_⟩,k2⟩
  .rw[aA9,aTp rfl];omega
  .rcases cCo.1 (show x∈box++[_] from hx) with hx | hx
   .exact hbb x hx
   .rw[cCn.1 hx];exact λm hm=>(cC2 hm).elim
 | false=>
 cases v2==(6:Int) with
 | true=>
  by_cases hz:(flows.length:Int)>0
  .obtain⟨v3,c3,p3,h3,e3,r3,k3⟩:=aH hl (n:=6) (by decide) (by decide) k2;have hg:flows[0]? =some (flows[0]'(by omega)):=cCe (by omega);refine⟨((as0,ls0),(dn,co),(cap0,res,us0),now,dead,fly,flows.set 0 (sB (flows[0]'(by omega)) v3 (flows[0]'(by omega)).2.2.2.2.2.2.2.1),box,drop),c3,p3,h3,?_,⟨?_,⟨bf,λf hf'=> ?_⟩,by show (flows.set 0 _).length<=4;rw[cDv];exact hf,base.fly,has,base.links,base.dead,hdb,hdr,hft,hbb⟩,k3⟩
   .simp only[zZ,zY,zX hz,e3,aA,show decide ((0:Int)<=(0:Int))=true from rfl,zX (show (0:Int)<(flows.length:Int) by omega),show (0:Int).toNat=0 from rfl,hg];rfl
   .rw[aA9];have a1:=aNq (t:=tFl) (y:=sB (flows[0]'(by omega)) v3 (flows[0]'(by omega)).2.2.2.2.2.2.2.1) hg;have a2:tot tFl (sB (flows[0]'(by omega)) v3 (flows[0]'(by omega)).2.2.2.2.2.2.2.1)=tot tFl (flows[0]'(by omega)):=rfl;omega
   .rcases cEt (show f∈flows.set 0 _ from hf') with hf' | rfl
    .exact bm f hf'
    .have hm0:=bm _ (cCt hg);exact hm0
  .exact⟨((as0,ls0),(dn,co),(cap0,res,us0),now,dead,fly,flows,box,drop),c2,p2,h2,by simp only[zZ,zY,zW hz,aA];rfl,base,k2⟩
 | false=>
 cases v2==(7:Int) with
 | true=>
  obtain⟨v3,c3,p3,h3,e3,r3,k3⟩:=aH hl (n:=9) (by decide) (by decide) k2;refine⟨((as0,ls0),(dn,co),(cap0,res,us0),now,dead,fly++[(v3,(0:Int),((0:Int),(0:Int),(0:Int),[],(0:Int),(0:Int),(0:Int),(0:Int),(0:Int),[]))],flows,box,drop),c3,p3,h3,by simp only[zZ,zY,e3,aA,aE (b:=128) (n:=fly.length) (m:=1) (by decide) (by omega)];rfl,⟨?_,⟨λx hx=> ?_,bm⟩,hf,by show (fly++[_]).length<=151;simp;omega,has,base.links,base.dead,hdb,hdr,λx hx=> ?_,hbb⟩,k3⟩
  .rw[aA9,aTp rfl];omega
  .rcases cCo.1 (show x∈fly++[_] from hx) with hx | hx
   .exact bf x hx
   .rw[cCn.1 hx];exact λy hy=>(cC2 hy).elim
  .rcases cCo.1 (show x∈fly++[_] from hx) with hx | hx
   .exact hft x hx
   .rw[cCn.1 hx,aTj];exact cCz _
 | false=>exact⟨((as0,ls0),(dn,co),(cap0,res,us0),now,dead,fly,flows,box,drop),c2,p2,h2,by simp only[zY,aA];rfl,base,k2⟩
theorem pE.out{t:den tTo}{B k d:Nat}{w:den tNw}(h:pE t B k d w)(hd:d<=900000000):pE t (B+164) k (d+2) (bPg w):=by
 unfold bPg;split
 .exact h.mono (by omega) (cCx _) (by omega)
 .rename_i x l hf;have hx:x∈aQ w:=by rw[hf];exact cCy ..
  have hs:cM w (sN w l):=⟨rfl,rfl,id,λy hy=> .inl (by rw[hf];exact cCu _ hy),λhn=>by
   rw[hf]at hn;show l.length<=150;simp only[cDe]at hn;omega⟩
  obtain⟨k1,k2,k3⟩:=bP3 h.run.keep hf;have hk:=aP4 (r:=x.1) (inn:=x.2.1) (p:=x.2.2) k1 k3;refine⟨h.run.step (hs.trans (cM.proc _ _ _ _)) hk,?_,?_,?_⟩
  .exact aMb (h.inv.same (w':=sN w l) rfl rfl rfl λy hy=> .inl (by rw[hf];exact cCu _ hy)) (h.inv.good x hx)
  .exact cF.proc (n:=d) (w:=sN w l) (cF.eq h.drop rfl) (by omega) _ _ _
  .rw[aK3];exact h.dead
theorem pE.del{t:den tTo}:∀(n:Nat) {B k d:Nat} {w:den tNw},pE t B k d w->d+2 * n<=900000000->pE t (B+n * 164) k (d+2 * n) (bDp n w)
 | 0,B,k,d,w,h,_=>h.mono (by omega) (cCx _) (by omega)
 | n+1,B,k,d,w,h,hd=>by
  unfold bDp;split
  .exact h.mono (by omega) (cCx _) (by omega)
  .exact (pE.del n (h.out (by omega)) (by omega)).mono (by rw[Nat.succ_mul];omega) (cCx _) (by omega)
theorem pE.tick{t:den tTo}{B k d:Nat}{w:den tNw}(h:pE t B k d w)(hk:k<=1000)(hd:d<=900000000):pE t (B+656) (k+1) (d+8) (tC w):=by
 refine⟨aUv h.run (by omega),aUi h.inv,?_,by rw[aP2];exact h.dead⟩;have hf:=h.run.keep.flows;unfold tC;split
 .exact h.drop.mono (by omega)
 .refine cF.mono (n:=d+2 * (aD w).length) (cF.tickL (m:=0) (aD w).length 0 (n:=d) ?_ (by omega)) (by omega);exact cF.eq h.drop rfl
theorem pE.step{t:den tTo}{B k d:Nat}{w:den tNw}(h:pE t B k d w)(hk:k<=1000)(hd:d<=800000000):pE t (B+328656) (k+1) (d+4008) (bDp 2000 (tC w)):=
 ((h.tick hk (by omega)).del 2000 (by omega)).mono (by omega) (cCx _) (by omega)
def bGp(w:den tNw)(c:List Int)(p h:Int):lAS×lLk×lSg×lSg×Int×lRs×lUs×Int×lI×Int×lI×Int×Int×lFy×lFl×lIb:=
 ((nT w).1,(nT w).2,(nK w).1,(nK w).2,(nG w).1,(nG w).2.1,(nG w).2.2,aL w,aK w,cW w,c,p,h,aQ w,aD w,aW w)
theorem aY5{code:List Int}(hl:code.length<=1048576){most:Nat}(h0:0<most)(h1:most<=100):∃w c' p' h',pY code (most:Int)=some (bGp w c' p' h')/\bN8 w/\Cur code (c',p',h'):=by
 obtain⟨c0,p0,h0',e0,k0⟩:=aNd hl;obtain⟨w,c1,p1,h1',e1,hw,k1⟩:=bKe hl h0 h1 k0;refine⟨w,c1,p1,h1',?_,hw,k1⟩;unfold pY pj3 aU bG bC cU kH mI zz4 zz5 zz6 zz7 zz8 zz9;simp only[e0,e1,aA,bXe];rfl
theorem bR{α:Type}{a b:α}(h:a≠b):oZ a b (some false):=⟨false,rfl,λh=>by (cases h),λe=>absurd e h⟩
theorem bD7{a b:lRv}(h:a.length<=1000000):oZ a b (nZ a b):=by
 unfold nZ;refine vR a b _ (by omega) (λi hi hj=>⟨((a[i].1==b[i].1)&&((a[i].2.1==b[i].2.1)&&((a[i].2.2==b[i].2.2)&&true))),?_,?_⟩) ?_
 .simp only[zX (show (i:Int)<(a.length:Int) by omega),zZ,aF,cCe hi,cCe hj,aA,bK (show i<=1000000000 by omega)];cases ((a[i].1==b[i].1)&&((a[i].2.1==b[i].2.1)&&((a[i].2.2==b[i].2.2)&&true)))<;>rfl
 .simp only[cCf,beq_iff_eq,and_true];exact⟨λ⟨x,y,z⟩=>Prod.ext x (Prod.ext y z),λe=>by rw[e];exact⟨rfl,rfl,rfl⟩⟩
 .simp only[zW (cC0 _),zY]
theorem aUc{a b:bQ}(h:a.length<=1000000):oZ a b (mZ a b):=by
 unfold mZ zz4;refine vR a b _ (by omega) (λi hi hj=>⟨((a[i].1==b[i].1)&&((a[i].2.1==b[i].2.1)&&((a[i].2.2.1==b[i].2.2.1)&&((a[i].2.2.2.1==b[i].2.2.2.1)&&((a[i].2.2.2.2==b[i].2.2.2.2)&&true))))),?_,?_⟩) ?_
 .simp only[zX (show (i:Int)<(a.length:Int) by omega),zZ,aF,cCe hi,cCe hj,aA,bK (show i<=1000000000 by omega)];cases ((a[i].1==b[i].1)&&((a[i].2.1==b[i].2.1)&&((a[i].2.2.1==b[i].2.2.1)&&((a[i].2.2.2.1==b[i].2.2.2.1)&&((a[i].2.2.2.2==b[i].2.2.2.2)&&true)))))<;>rfl
 .simp only[cCf,beq_iff_eq,and_true];exact⟨λ⟨x,y,z,u,v⟩=>Prod.ext x (Prod.ext y (Prod.ext z (Prod.ext u v))),λe=>by rw[e];exact⟨rfl,rfl,rfl,rfl,rfl⟩⟩
 .simp only[zW (cC0 _),zY]
theorem bH9{a b:den tPp}(h:a.2.2.2.length<=1000000):oZ a b (nB a b):=by
 obtain⟨v,e,k⟩:=aUc (a:=a.2.2.2) (b:=b.2.2.2) h;unfold nB;rw[e,aA];cases c1:a.1==b.1
 .exact bR λe=>by subst e;simp at c1
 .cases c2:a.2.1==b.2.1
  .exact bR λe=>by subst e;simp at c2
  .cases c3:a.2.2.1==b.2.2.1
   .exact bR λe=>by subst e;simp at c3
   .exact⟨v,rfl,λh=>Prod.ext (eq_of_beq c1) (Prod.ext (eq_of_beq c2) (Prod.ext (eq_of_beq c3) (k.1 h))),λe=>by subst e;exact k.2 rfl⟩
theorem aVn{a b:lPp}(h:a.length<=1000000)(hp:∀x∈a,x.2.2.2.length<=1000000):oZ a b (mY a b):=by
 unfold mY pj4;refine vR a b _ (by omega) (λi hi hj=> ?_) ?_
 .obtain⟨v,e,k⟩:=bH9 (a:=a[i]) (b:=b[i]) (hp _ (cC9 hi));have e:nB (a[i].1,a[i].2.1,a[i].2.2.1,a[i].2.2.2) (b[i].1,b[i].2.1,b[i].2.2.1,b[i].2.2.2)=some v:=e;refine⟨v,?_,k⟩;simp only[zX (show (i:Int)<(a.length:Int) by omega),zZ,aF,cCe hi,cCe hj,aA,bK (show i<=1000000000 by omega),e];cases v<;>rfl
 .simp only[zW (cC0 _),zY]
theorem bF7{a b:lPt}(h:a.length<=1000000)(hp:∀p:lPp,p∈(show List lPp from a)->p.length<=1000000/\ ∀x∈p,x.2.2.2.length<=1000000):oZ a b (oC a b):=by
 unfold oC;refine vR a b _ (by omega) (λi hi hj=> ?_) ?_
 .obtain⟨h1,h2⟩:=hp a[i] (cC9 hi);obtain⟨v,e,k⟩:=aVn (a:=a[i]) (b:=b[i]) h1 h2;refine⟨v,?_,k⟩;simp only[zX (show (i:Int)<(a.length:Int) by omega),zZ,aF,cCe hi,cCe hj,aA,bK (show i<=1000000000 by omega),e];cases v<;>rfl
 .simp only[zW (cC0 _),zY]
theorem bNq{a b:den tIb}(h:a.2.2.2.length<=1000000)(hm:∀m:List Int,m∈(show List lI from a.2.2.2)->m.length<=1000000):oZ a b (tP a b):=by
 obtain⟨v,e,k⟩:=aN9 (a:=a.2.2.2) (b:=b.2.2.2) h hm;unfold tP;rw[e,aA];cases c1:a.1==b.1
 .exact bR λe=>by subst e;simp at c1
 .cases c2:a.2.1==b.2.1
  .exact bR λe=>by subst e;simp at c2
  .cases c3:a.2.2.1==b.2.2.1
   .exact bR λe=>by subst e;simp at c3
   .exact⟨v,rfl,λh=>Prod.ext (eq_of_beq c1) (Prod.ext (eq_of_beq c2) (Prod.ext (eq_of_beq c3) (k.1 h))),λe=>by subst e;exact k.2 rfl⟩
theorem aU8{p:lPp}(h:SmB 1000000 tPt p):p.length<=1000000/\ ∀x∈p,x.2.2.2.length<=1000000:=⟨h.1,λx hx=>(h.2 x hx).2.2.2.1⟩
theorem bI9{a b:den tFl}(h:SmB 1000000 tFl a):oZ a b (qO a b):=by
 obtain⟨v1,e1,k1⟩:=aN9 (a:=a.2.2.2.2.1) (b:=b.2.2.2.2.1) h.2.2.2.2.1.1 (λm hm=>(h.2.2.2.2.1.2 m hm).1);obtain⟨v2,e2,k2⟩:=bF7 (a:=a.2.2.2.2.2.1) (b:=b.2.2.2.2.2.1) h.2.2.2.2.2.1.1 (λp hp=>aU8 (h.2.2.2.2.2.1.2 p hp));obtain⟨v3,e3,k3⟩:=bD7 (a:=a.2.2.2.2.2.2.2.2) (b:=b.2.2.2.2.2.2.2.2) h.2.2.2.2.2.2.2.2.1;unfold qO zz4 zz5 zz6 zz7 zz8;rw[e1,aA,e2,aA,e3,aA];cases c0:a.1==b.1
 .exact bR λe=>by subst e;simp at c0
 .cases c1:a.2.1==b.2.1
  .exact bR λe=>by subst e;simp at c1
  .cases c2:a.2.2.1==b.2.2.1
   .exact bR λe=>by subst e;simp at c2
   .cases c3:a.2.2.2.1==b.2.2.2.1
    .exact bR λe=>by subst e;simp at c3
    .cases v1
     .exact bR λe=>by subst e;cases k1.2 rfl
     .cases v2
      .exact bR λe=>by subst e;cases k2.2 rfl
      .cases c6:a.2.2.2.2.2.2.1==b.2.2.2.2.2.2.1
       .exact bR λe=>by subst e;simp at c6
       .cases c7:a.2.2.2.2.2.2.2.1==b.2.2.2.2.2.2.2.1
        .exact bR λe=>by subst e;simp at c7
        .exact⟨v3,rfl,λh=>Prod.ext (eq_of_beq c0) (Prod.ext (eq_of_beq c1) (Prod.ext (eq_of_beq c2) (Prod.ext (eq_of_beq c3) (Prod.ext (k1.1 rfl) (Prod.ext (k2.1 rfl) (Prod.ext (eq_of_beq c6) (Prod.ext (eq_of_beq c7) (k3.1 h)))))))),λe=>by subst e;exact k3.2 rfl⟩
theorem bQ0{a b:den tPk}(h:SmB 1000000 tPk a):oZ a b (mO a b):=by
 obtain⟨h1,h2⟩:=aU8 h.2.2.2.1;obtain⟨v1,e1,k1⟩:=aVn (a:=a.2.2.2.1) (b:=b.2.2.2.1) h1 h2;obtain⟨v2,e2,k2⟩:=aUw (a:=a.2.2.2.2.2.2.2.2.2) (b:=b.2.2.2.2.2.2.2.2.2) h.2.2.2.2.2.2.2.2.2.1;unfold mO zz4 zz5 zz6 zz7 zz8 zz9;rw[e1,aA,e2,aA];cases c0:a.1==b.1
 .exact bR λe=>by subst e;simp at c0
 .cases c1:a.2.1==b.2.1
  .exact bR λe=>by subst e;simp at c1
  .cases c2:a.2.2.1==b.2.2.1
   .exact bR λe=>by subst e;simp at c2
   .cases v1
    .exact bR λe=>by subst e;cases k1.2 rfl
    .cases c4:a.2.2.2.2.1==b.2.2.2.2.1
     .exact bR λe=>by subst e;simp at c4
     .cases c5:a.2.2.2.2.2.1==b.2.2.2.2.2.1
      .exact bR λe=>by subst e;simp at c5
      .cases c6:a.2.2.2.2.2.2.1==b.2.2.2.2.2.2.1
       .exact bR λe=>by subst e;simp at c6
       .cases c7:a.2.2.2.2.2.2.2.1==b.2.2.2.2.2.2.2.1
        .exact bR λe=>by subst e;simp at c7
        .cases c8:a.2.2.2.2.2.2.2.2.1==b.2.2.2.2.2.2.2.2.1
         .exact bR λe=>by subst e;simp at c8
         .exact⟨v2,rfl,λh=>Prod.ext (eq_of_beq c0) (Prod.ext (eq_of_beq c1) (Prod.ext (eq_of_beq c2) (Prod.ext (k1.1 rfl) (Prod.ext (eq_of_beq c4) (Prod.ext (eq_of_beq c5) (Prod.ext (eq_of_beq c6) (Prod.ext (eq_of_beq c7) (Prod.ext (eq_of_beq c8) (k2.1 h))))))))),λe=>by subst e;exact k2.2 rfl⟩
theorem bP4{a b:den tSg}(h:a.2.2.length<=1000000):oZ a b (rH a b):=by
 obtain⟨v,e,k⟩:=aUc (a:=a.2.2) (b:=b.2.2) h;unfold rH;rw[e,aA];cases c1:a.1==b.1
 .exact bR λe=>by subst e;simp at c1
 .cases c2:a.2.1==b.2.1
  .exact bR λe=>by subst e;simp at c2
  .exact⟨v,rfl,λh=>Prod.ext (eq_of_beq c1) (Prod.ext (eq_of_beq c2) (k.1 h)),λe=>by subst e;exact k.2 rfl⟩
theorem aU7{a b:lSg}(h:a.length<=1000000)(hs:∀s∈a,s.2.2.length<=1000000):oZ a b (oL a b):=by
 unfold oL pj3;refine vR a b _ (by omega) (λi hi hj=> ?_) ?_
 .obtain⟨v,e,k⟩:=bP4 (a:=a[i]) (b:=b[i]) (hs _ (cC9 hi));have e:rH (a[i].1,a[i].2.1,a[i].2.2) (b[i].1,b[i].2.1,b[i].2.2)=some v:=e;refine⟨v,?_,k⟩;simp only[zX (show (i:Int)<(a.length:Int) by omega),zZ,aF,cCe hi,cCe hj,aA,bK (show i<=1000000000 by omega),e];cases v<;>rfl
 .simp only[zW (cC0 _),zY]
theorem bLv{a b:den tDb}(h1:a.1.length<=1000000)(h2:a.2.length<=1000000)(h3:∀s∈a.1,s.2.2.length<=1000000)(h4:∀s∈a.2,s.2.2.length<=1000000):oZ a b (qF a b):=by
 obtain⟨v1,e1,k1⟩:=aU7 (a:=a.1) (b:=b.1) h1 h3;obtain⟨v2,e2,k2⟩:=aU7 (a:=a.2) (b:=b.2) h2 h4;unfold qF;rw[e1,aA,e2,aA];cases v1
 .exact bR λe=>by subst e;cases k1.2 rfl
 .exact⟨v2,rfl,λh=>Prod.ext (k1.1 rfl) (k2.1 h),λe=>by subst e;exact k2.2 rfl⟩
theorem bK5{a b:List Int}(h:a.length<=1000000):oZ a b (oE a b):=by
 unfold oE;refine vR a b _ (by omega) (λi hi hj=>⟨a[i]==b[i],?_,by simp⟩) ?_
 .simp only[zX (show (i:Int)<(a.length:Int) by omega),zZ,aF,cCe hi,cCe hj,aA,bK (show i<=1000000000 by omega),bne];cases a[i]==b[i]<;>rfl
 .simp only[zW (cC0 _),zY]
theorem aJg{α:Type}{p:α->α->Bool}:∀{a b:List α},(∀x∈a,∀y∈b,(p x y=true↔x=y))->a.length=b.length->(fX p a b=true↔a=b)
 | [],[],_,_=>⟨λ_=>rfl,λ_=>rfl⟩
 | [],_::_,_,h=>by simp at h
 | _::_,[],_,h=>by simp at h
 | x::a,y::b,hp,h=>by
  have h1:=hp x (cCy ..) y (cCy ..);have h2:=aJg (a:=a) (b:=b) (λu hu v hv=>hp u (cCu _ hu) v (cCu _ hv)) (by simpa using h);simp only[fX,cCf,h1,h2,List.cons.injEq]
theorem aCh{α:Type}{p:α->α->Bool}{a b:List α}(hp:∀x∈a,∀y∈b,(p x y=true↔x=y)):cond (!decide (a.length=b.length)) false (cond (fX p a b) true false)=true↔a=b:=by
 by_cases h:a.length=b.length
 .rw[zX h];simp only[cCd,zY];rw[<- aJg hp h];cases fX p a b<;>simp
 .rw[zW h];simp only[cCh,zZ];exact⟨λe=>(by cases e),λe=>absurd (congrArg cCv e) h⟩
theorem aCz{α:Type}{p:α->α->Bool}{a b:List α}(hp:∀x∈a,∀y∈b,(p x y=true↔x=y)):(a.length=b.length/\fX p a b=true)↔a=b:=by
 constructor
 .rintro⟨h1,h2⟩;exact (aJg hp h1).1 h2
 .intro h;exact⟨congrArg cCv h,(aJg hp (congrArg cCv h)).2 h⟩
theorem eq5{A:Type}[BEq A][LawfulBEq A](x y:A×A×A×A×A):((x.1==y.1)&&((x.2.1==y.2.1)&&((x.2.2.1==y.2.2.1)&&((x.2.2.2.1==y.2.2.2.1)&&((x.2.2.2.2==y.2.2.2.2)&&true)))))=true↔x=y:=by
 simp only[cCf,beq_iff_eq,and_true];exact⟨λ⟨a,b,c,d,e⟩=>Prod.ext a (Prod.ext b (Prod.ext c (Prod.ext d e))),λe=>by rw[e];exact⟨rfl,rfl,rfl,rfl,rfl⟩⟩
theorem aV1{a b:bQ}:aFx a b=true↔a=b:=aCh λx _ y _=>eq5 (A:=Int) x y
theorem bHe{a b:lRs}:aIt a b=true↔a=b:=aCh λx _ y _=>eq5 (A:=Int) x y
theorem bIp{a b:List Int}:aH1 a b=true↔a=b:=aCh λx _ y _=>beq_iff_eq
theorem aWz(a b:Bool):cond a b false=true↔a=true/\b=true:=by cases a<;>simp
theorem bEt{a b:den tPp}:uQ a b=true↔a=b:=by
 unfold uQ;simp only[aWz,beq_iff_eq,aV1];exact⟨λ⟨x,y,z,u⟩=>Prod.ext x (Prod.ext y (Prod.ext z u)),λe=>by rw[e];exact⟨rfl,rfl,rfl,rfl⟩⟩
theorem aVv{a b:lPp}:oM a b=true↔a=b:=aCh λx _ y _=>bEt
theorem bG4{a b:lPt}:aIr a b=true↔a=b:=aCh λx _ y _=>aVv
theorem bJt{a b:den tSg}:aHg a b=true↔a=b:=by
 unfold aHg;simp only[aWz,beq_iff_eq,aV1];exact⟨λ⟨x,y,z⟩=>Prod.ext x (Prod.ext y z),λe=>by rw[e];exact⟨rfl,rfl,rfl⟩⟩
theorem bEn{a b:lSg}:xV a b=true↔a=b:=aCh λx _ y _=>bJt
theorem aLi{a b:List Int}(ha:iH a)(hb:iH b):aB9 a b=true↔a=b:=aUl ha hb
theorem bJw{a b:den tPk}(ha:eU a)(hb:eU b):qY a b=true↔a=b:=by
 unfold qY;simp only[aWz,beq_iff_eq,aVv,aLi ha hb];exact⟨λ⟨x1,x2,x3,x4,x5,x6,x7,x8,x9,x10⟩=>Prod.ext x1 (Prod.ext x2 (Prod.ext x3 (Prod.ext x4 (Prod.ext x5 (Prod.ext x6 (Prod.ext x7 (Prod.ext x8 (Prod.ext x9 x10)))))))),λe=>by rw[e];exact⟨rfl,rfl,rfl,rfl,rfl,rfl,rfl,rfl,rfl,rfl⟩⟩
theorem bLk{a b:den tTo}:aFv a b=true↔a=b:=by
 unfold aFv;have h1:=aCz (a:=a.1) (b:=b.1) (p:=λx y=>(x.1==y.1)&&((x.2.1==y.2.1)&&((x.2.2==y.2.2)&&true))) (λx _ y _=>by
  simp only[cCf,beq_iff_eq,and_true];exact⟨λ⟨a,b,c⟩=>Prod.ext a (Prod.ext b c),λe=>by rw[e];exact⟨rfl,rfl,rfl⟩⟩)
 have h2:=aCz (a:=a.2) (b:=b.2) (λx _ y _=>eq5 (A:=Int) x y);simp only[cCf,zR]at h1 h2 ⊢;constructor
 .rintro⟨p1,p2,p3,p4⟩
  exact Prod.ext (h1.1 ⟨p1,p3⟩) (h2.1 ⟨p2,p4⟩)
 .intro e;obtain⟨p1,p3⟩:=h1.2 (by rw[e]);obtain⟨p2,p4⟩:=h2.2 (by rw[e]);exact⟨p1,p2,p3,p4⟩
theorem bJj{a b:den tSc}:aFd a b=true↔a=b:=by
 unfold aFd;have h1:=aCz (a:=a.2.2) (b:=b.2.2) (p:=λx y=>(x.1==y.1)&&((x.2.1==y.2.1)&&((x.2.2.1==y.2.2.1)&&((x.2.2.2==y.2.2.2)&&true)))) (λx _ y _=>by
  simp only[cCf,beq_iff_eq,and_true];exact⟨λ⟨a,b,c,d⟩=>Prod.ext a (Prod.ext b (Prod.ext c d)),λe=>by rw[e];exact⟨rfl,rfl,rfl,rfl⟩⟩)
 simp only[cCf,zR,beq_iff_eq,bHe]at h1 ⊢;constructor
 .rintro⟨p1,p2,p3,p4⟩
  exact Prod.ext p1 (Prod.ext p2 (h1.1 ⟨p3,p4⟩))
 .intro e;obtain⟨p3,p4⟩:=h1.2 (by rw[e]);exact⟨by rw[e],by rw[e],p3,p4⟩
theorem bMn{a b:den tIb}(ha:∀m∈a.2.2.2,iH m)(hb:∀m∈b.2.2.2,iH m):aFu a b=true↔a=b:=by
 unfold aFu;have h1:aRu a.2.2.2 b.2.2.2=true↔a.2.2.2=b.2.2.2:=aCh λx hx y hy=>aLi (ha x hx) (hb y hy)
 simp only[cCf,beq_iff_eq,h1];exact⟨λ⟨x1,x2,x3,x4⟩=>Prod.ext x1 (Prod.ext x2 (Prod.ext x3 x4)),λe=>by rw[e];exact⟨rfl,rfl,rfl,rfl⟩⟩
theorem bH2{a b:den tFl}(ha:∀m∈a.2.2.2.2.1,iH m)(hb:∀m∈b.2.2.2.2.1,iH m):aFs a b=true↔a=b:=by
 unfold aFs;have h1:=aCz (a:=a.2.2.2.2.1) (b:=b.2.2.2.2.1) (p:=λx y=>aB9 x y) (λx hx y hy=>aLi (ha x hx) (hb y hy));have h2:=aCz (a:=a.2.2.2.2.2.2.2.2) (b:=b.2.2.2.2.2.2.2.2) (p:=λx y=>(x.1==y.1)&&((x.2.1==y.2.1)&&((x.2.2==y.2.2)&&true))) (λx _ y _=>by
  simp only[cCf,beq_iff_eq,and_true];exact⟨λ⟨a,b,c⟩=>Prod.ext a (Prod.ext b c),λe=>by rw[e];exact⟨rfl,rfl,rfl⟩⟩)
 simp only[cCf,zR,beq_iff_eq,bG4]at h1 h2 ⊢;constructor
 .rintro⟨p1,p2,p3,p4,p5,p6,p7,p8,p9,p10,p11⟩
  exact Prod.ext p1 (Prod.ext p2 (Prod.ext p3 (Prod.ext p4 (Prod.ext (h1.1 ⟨p7,p8⟩) (Prod.ext p9 (Prod.ext p5 (Prod.ext p6 (h2.1 ⟨p10,p11⟩))))))))
 .intro e;obtain⟨p7,p8⟩:=h1.2 (by rw[e]);obtain⟨p10,p11⟩:=h2.2 (by rw[e]);exact⟨by rw[e],by rw[e],by rw[e],by rw[e],by rw[e],by rw[e],p7,p8,by rw[e],p10,p11⟩
structure aJf (w:den tNw):Prop where
 bw:sO w
 box:∀x∈aW w,∀m∈x.2.2.2,iH m
theorem bAr{a b:den tNw}(ha:aJf a)(hb:aJf b):aM1 a b=true↔a=b:=by
 unfold aM1;have h1:=aCz (a:=a.2.2.2.2.2.1) (b:=b.2.2.2.2.2.1) (p:=λx y=>(cond (x.1==y.1) (cond (x.2.1==y.2.1) (qY x.2.2 y.2.2) false) false)) (λx hx y hy=>by
  simp only[aWz,beq_iff_eq,bJw (ha.bw.fly x hx) (hb.bw.fly y hy)];exact⟨λ⟨a,b,c⟩=>Prod.ext a (Prod.ext b c),λe=>by rw[e];exact⟨rfl,rfl,rfl⟩⟩)
 have h2:=aCz (a:=a.2.2.2.2.2.2.1) (b:=b.2.2.2.2.2.2.1) (p:=λx y=>aFs x y) (λx hx y hy=>bH2 (ha.bw.msg x hx) (hb.bw.msg y hy));have h3:=aCz (a:=a.2.2.2.2.2.2.2.1) (b:=b.2.2.2.2.2.2.2.1) (p:=λx y=>aFu x y) (λx hx y hy=>bMn (ha.box x hx) (hb.box y hy));simp only[cCf,zR,beq_iff_eq,bLk,bEn,bJj,bIp];constructor
 .rintro⟨p1,p2,p3,p4,p5,p6,p7,p8,p9,p10,p11,p12,p13⟩
  exact Prod.ext p1 (Prod.ext (Prod.ext p2 p3) (Prod.ext p4 (Prod.ext p5 (Prod.ext p6 (Prod.ext (h1.1 ⟨p8,p11⟩) (Prod.ext (h2.1 ⟨p9,p12⟩) (Prod.ext (h3.1 ⟨p10,p13⟩) p7)))))))
 .intro e;obtain⟨p8,p11⟩:=h1.2 (by rw[e]);obtain⟨p9,p12⟩:=h2.2 (by rw[e]);obtain⟨p10,p13⟩:=h3.2 (by rw[e]);exact⟨by rw[e],by rw[e],by rw[e],by rw[e],by rw[e],by rw[e],by rw[e],p8,p9,p10,p11,p12,p13⟩
theorem aEb{α T:Type}{G:Option T->Prop}{a b:List α}{st:Int->Option (Int⊕(Unit⊕Bool))}{k:Unit⊕Bool->Option T}(hn:a.length=b.length)(h:a.length<=1000000)
  (hs:∀(i:Nat) (hi:i<a.length) (hj:i<b.length),∃v:Bool,st (i:Int)=some (cond (!v) (.inr (.inr false)) (.inl ((i+1:Nat):Int)))/\(v=true↔a[i]=b[i])) (he:st (a.length:Int)=some (.inr (.inl ())))
  (h1:a=b->G (k (.inl ()))) (h2:a≠b->G (k (.inr false))):G (Option.bind (aC st (0:Int)) k):=by
 refine fL (G:=G) a.length (λs:Int=>s) (λi t=> ∀j (h1:j<a.length) (h2:j<b.length),j<i->a[j]=b[j]) (λr:Unit⊕Bool=>(r= .inl ()/\a=b)\/(r= .inr false/\a≠b)) ?_ ?_ 0 (0:Int) (by omega) rfl (λj h1 h2 h3=>by omega) ?_
 .rintro i _ hi rfl hJ
  obtain⟨v,e,k⟩:=hs i hi (by omega);rw[e];cases v with
  | true=>
   refine .inr ⟨_,rfl,rfl,λj h1 h2 h3=> ?_⟩
   by_cases hj:j=i
   .subst hj;exact k.1 rfl
   .exact hJ j h1 h2 (by omega)
  | false=>
   refine .inl ⟨.inr false,rfl,.inr ⟨rfl,λe=> ?_⟩⟩;subst e;have :=k.2 rfl;cases this
 .rintro _ rfl hJ
  exact⟨.inl (),he,.inl ⟨rfl,List.ext_getElem hn λj h1 h2=>hJ j h1 h2 h1⟩⟩
 .rintro r (⟨rfl,e⟩ | ⟨rfl,e⟩)
  .exact h1 e
  .exact h2 e
theorem wY{α:Type}{a b:List α}(h:a.length=b.length):((a.length:Int) != (b.length:Int))=false:=by rw[h,bne_self_eq_false]
theorem aD7{α:Type}{a b:List α}(h: ¬ a.length=b.length):((a.length:Int) != (b.length:Int))=true:=by rw[bne_iff_ne];omega
theorem eq3(x y:Int×Bool×Int):((x.1==y.1)&&((x.2.1==y.2.1)&&((x.2.2==y.2.2)&&true)))=true↔x=y:=by
 simp only[cCf,beq_iff_eq,and_true];exact⟨λ⟨a,b,c⟩=>Prod.ext a (Prod.ext b c),λe=>by rw[e];exact⟨rfl,rfl,rfl⟩⟩
theorem eq4(x y:Int×Int×q30):((x.1==y.1)&&((x.2.1==y.2.1)&&((x.2.2.1==y.2.2.1)&&((x.2.2.2==y.2.2.2)&&true))))=true↔x=y:=by
 simp only[cCf,beq_iff_eq,and_true];exact⟨λ⟨a,b,c,d⟩=>Prod.ext a (Prod.ext b (Prod.ext c d)),λe=>by rw[e];exact⟨rfl,rfl,rfl,rfl⟩⟩
theorem bLq{a b:den tTo}(h1:a.1.length<=1000000)(h2:a.2.length<=1000000):oZ a b (oJ a b):=by
 unfold oJ zz4
 by_cases n1:a.1.length=b.1.length
 .by_cases n2:a.2.length=b.2.length
  .simp only[wY n1,wY n2,zY,aA];refine aEb (G:=oZ a b) (a:=a.1) (b:=b.1) n1 h1 (λi hi hj=>⟨(a.1[i].1==b.1[i].1)&&((a.1[i].2.1==b.1[i].2.1)&&((a.1[i].2.2==b.1[i].2.2)&&true)),by
   simp only[zX (show (i:Int)<(a.1.length:Int) by omega),zZ,aF,cCe hi,cCe hj,aA,bK (show i<=1000000000 by omega)];cases (a.1[i].1==b.1[i].1)&&((a.1[i].2.1==b.1[i].2.1)&&((a.1[i].2.2==b.1[i].2.2)&&true))<;>rfl,eq3 a.1[i] b.1[i]⟩) (by simp only[zW (cC0 _),zY]) (λe3=> ?_) λe=>bR λe2=>e (by rw[e2])
   rw[cCp];refine aEb (G:=oZ a b) (a:=a.2) (b:=b.2) n2 h2 (λi hi hj=>⟨(a.2[i].1==b.2[i].1)&&((a.2[i].2.1==b.2[i].2.1)&&((a.2[i].2.2.1==b.2[i].2.2.1)&&((a.2[i].2.2.2.1==b.2[i].2.2.2.1)&&((a.2[i].2.2.2.2==b.2[i].2.2.2.2)&&true)))),by
   simp only[zX (show (i:Int)<(a.2.length:Int) by omega),zZ,aF,cCe hi,cCe hj,aA,bK (show i<=1000000000 by omega)];cases (a.2[i].1==b.2[i].1)&&((a.2[i].2.1==b.2[i].2.1)&&((a.2[i].2.2.1==b.2[i].2.2.1)&&((a.2[i].2.2.2.1==b.2[i].2.2.2.1)&&((a.2[i].2.2.2.2==b.2[i].2.2.2.2)&&true))))<;>rfl,eq5 (A:=Int) a.2[i] b.2[i]⟩) (by simp only[zW (cC0 _),zY]) (λe5=> ?_) λe=>bR λe2=>e (by rw[e2])
   exact⟨true,rfl,λ_=>Prod.ext e3 e5,λ_=>rfl⟩
  .simp only[wY n1,aD7 n2,zY,aA,zZ];exact bR λe=>n2 (by rw[e])
 .simp only[aD7 n1,zZ,aA];exact bR λe=>n1 (by rw[e])
theorem bAl{a b:lRs}(h:a.length<=1000000):oZ a b (mM a b):=by
 unfold mM zz4;refine vR a b _ (by omega) (λi hi hj=>⟨(a[i].1==b[i].1)&&((a[i].2.1==b[i].2.1)&&((a[i].2.2.1==b[i].2.2.1)&&((a[i].2.2.2.1==b[i].2.2.2.1)&&((a[i].2.2.2.2==b[i].2.2.2.2)&&true)))),?_,eq5 (A:=Int) a[i] b[i]⟩) ?_
 .simp only[zX (show (i:Int)<(a.length:Int) by omega),zZ,aF,cCe hi,cCe hj,aA,bK (show i<=1000000000 by omega)];cases (a[i].1==b[i].1)&&((a[i].2.1==b[i].2.1)&&((a[i].2.2.1==b[i].2.2.1)&&((a[i].2.2.2.1==b[i].2.2.2.1)&&((a[i].2.2.2.2==b[i].2.2.2.2)&&true))))<;>rfl
 .simp only[zW (cC0 _),zY]
theorem bIg{a b:den tSc}(h1:a.2.1.length<=1000000)(h2:a.2.2.length<=1000000):oZ a b (mX a b):=by
 obtain⟨v1,f1,k1⟩:=bAl (a:=a.2.1) (b:=b.2.1) h1;unfold mX;rw[f1,aA];cases c0:a.1==b.1 with
 | false=>
  simp only[bne,c0,cCh,zZ,aA];exact bR λe=>by subst e;simp at c0
 | true=>
 cases v1 with
 | false=>
  simp only[bne,c0,cCh,cCd,zZ,zY,aA];exact bR λe=>by subst e;cases k1.2 rfl
 | true=>
 by_cases n2:a.2.2.length=b.2.2.length
 .have hn:=wY n2;simp only[bne,c0]at hn ⊢;simp only[hn,cCd,zY,aA];refine aEb (G:=oZ a b) (a:=a.2.2) (b:=b.2.2) n2 h2 (λi hi hj=>⟨(a.2.2[i].1==b.2.2[i].1)&&((a.2.2[i].2.1==b.2.2[i].2.1)&&((a.2.2[i].2.2.1==b.2.2[i].2.2.1)&&((a.2.2[i].2.2.2==b.2.2[i].2.2.2)&&true))),by
   simp only[zX (show (i:Int)<(a.2.2.length:Int) by omega),zZ,aF,cCe hi,cCe hj,aA,bK (show i<=1000000000 by omega)];cases (a.2.2[i].1==b.2.2[i].1)&&((a.2.2[i].2.1==b.2.2[i].2.1)&&((a.2.2[i].2.2.1==b.2.2[i].2.2.1)&&((a.2.2[i].2.2.2==b.2.2[i].2.2.2)&&true)))<;>rfl,eq4 a.2.2[i] b.2.2[i]⟩) (by simp only[zW (cC0 _),zY]) (λe4=> ?_) λe=>bR λe2=>e (by rw[e2])
  exact⟨true,rfl,λ_=>Prod.ext (eq_of_beq c0) (Prod.ext (k1.1 rfl) e4),λ_=>rfl⟩
 .have hn:=aD7 n2;simp only[bne,c0]at hn ⊢;simp only[hn,cCd,zY,zZ,aA];exact bR λe=>n2 (by rw[e])
theorem bGc{a b:den tNw}(h:tot tNw a<=1000000):oZ a b (dN a b):=by
 obtain⟨hT,hK,hG,_,hD,hY,hF,hX,_⟩:=bB h;have l5:a.2.2.2.2.2.1.length<=1000000:=hY.1;have l6:a.2.2.2.2.2.2.1.length<=1000000:=hF.1;have l7:a.2.2.2.2.2.2.2.1.length<=1000000:=hX.1;obtain⟨v1,f1,k1⟩:=bLq (a:=a.1) (b:=b.1) hT.1.1 hT.2.1;obtain⟨v2,f2,k2⟩:=bLv (a:=a.2.1) (b:=b.2.1) hK.1.1 hK.2.1 (λs hs=>(hK.1.2 s hs).2.2.1) (λs hs=>(hK.2.2 s hs).2.2.1);obtain⟨v3,f3,k3⟩:=bIg (a:=a.2.2.1) (b:=b.2.2.1) hG.2.1.1 hG.2.2.1;obtain⟨v4,f4,k4⟩:=bK5 (a:=a.2.2.2.2.1) (b:=b.2.2.2.2.1) hD.1;unfold dN bM pj2 pj3 pj4 pj9 zz4 zz5 zz6 zz7 zz8;simp only[aN,f1,f2,f3,f4,aA];cases v1 with
 | false=>exact bR λe=>by subst e;cases k1.2 rfl
 | true=>
 cases v2 with
 | false=>exact bR λe=>by subst e;cases k2.2 rfl
 | true=>
 cases v3 with
 | false=>exact bR λe=>by subst e;cases k3.2 rfl
 | true=>
 simp only[bne,cCd,zY];cases c4:a.2.2.2.1==b.2.2.2.1 with
 | false=>exact bR λe=>by subst e;simp at c4
 | true=>
 cases v4 with
 | false=>exact bR λe=>by subst e;cases k4.2 rfl
 | true=>
 by_cases n5:a.2.2.2.2.2.1.length=b.2.2.2.2.2.1.length
 case neg=>
  have hn:=aD7 n5;simp only[bne]at hn;simp only[hn,cCd,zY,zZ,aA];exact bR λe=>n5 (by rw[e])
 by_cases n6:a.2.2.2.2.2.2.1.length=b.2.2.2.2.2.2.1.length
 case neg=>
  have h5:=wY n5;have hn:=aD7 n6;simp only[bne]at hn h5;simp only[h5,hn,cCd,zY,zZ,aA];exact bR λe=>n6 (by rw[e])
 by_cases n7:a.2.2.2.2.2.2.2.1.length=b.2.2.2.2.2.2.2.1.length
 case neg=>
  have h5:=wY n5;have h6:=wY n6;have hn:=aD7 n7;simp only[bne]at hn h5 h6;simp only[h5,h6,hn,cCd,zY,zZ,aA];exact bR λe=>n7 (by rw[e])
 have h5:=wY n5;have h6:=wY n6;have h7:=wY n7;simp only[bne]at h5 h6 h7;cases c8:a.2.2.2.2.2.2.2.2==b.2.2.2.2.2.2.2.2 with
 | false=>
  simp only[h5,h6,h7,cCd,cCh,zY,zZ,aA];exact bR λe=>by subst e;simp at c8
 | true=>
 simp only[h5,h6,h7,cCd,zY,aA];refine aEb (G:=oZ a b) (a:=a.2.2.2.2.2.1) (b:=b.2.2.2.2.2.1) n5 l5 (λi hi hj=> ?_) (by simp only[zW (cC0 _),zY]) (λe5=> ?_) λe=>bR λe2=>e (by rw[e2])
 .obtain⟨v,e,k⟩:=bQ0 (a:=a.2.2.2.2.2.1[i].2.2) (b:=b.2.2.2.2.2.1[i].2.2) (hY.2 _ (cC9 hi)).2.2;refine⟨(a.2.2.2.2.2.1[i].1==b.2.2.2.2.2.1[i].1)&&((a.2.2.2.2.2.1[i].2.1==b.2.2.2.2.2.1[i].2.1)&&v),?_,?_⟩
  .simp only[zX (show (i:Int)<(a.2.2.2.2.2.1.length:Int) by omega),zZ,aF,cCe hi,cCe hj,aA,bK (show i<=1000000000 by omega),aN,e];cases (a.2.2.2.2.2.1[i].1==b.2.2.2.2.2.1[i].1)<;>cases (a.2.2.2.2.2.1[i].2.1==b.2.2.2.2.2.1[i].2.1)<;>cases v<;>rfl
  .simp only[cCf,beq_iff_eq,k];exact⟨λ⟨x,y,z⟩=>Prod.ext x (Prod.ext y z),λe=>by rw[e];exact⟨rfl,rfl,rfl⟩⟩
 rw[cCp];refine aEb (G:=oZ a b) (a:=a.2.2.2.2.2.2.1) (b:=b.2.2.2.2.2.2.1) n6 l6 (λi hi hj=> ?_) (by simp only[zW (cC0 _),zY]) (λe6=> ?_) λe=>bR λe2=>e (by rw[e2])
 .obtain⟨v,e,k⟩:=bI9 (a:=a.2.2.2.2.2.2.1[i]) (b:=b.2.2.2.2.2.2.1[i]) (hF.2 _ (cC9 hi));refine⟨v,?_,k⟩;simp only[zX (show (i:Int)<(a.2.2.2.2.2.2.1.length:Int) by omega),zZ,aF,cCe hi,cCe hj,aA,bK (show i<=1000000000 by omega),aN,e];cases v<;>rfl
 rw[cCp];refine aEb (G:=oZ a b) (a:=a.2.2.2.2.2.2.2.1) (b:=b.2.2.2.2.2.2.2.1) n7 l7 (λi hi hj=> ?_) (by simp only[zW (cC0 _),zY]) (λe7=> ?_) λe=>bR λe2=>e (by rw[e2])
 .have hx:=hX.2 _ (cC9 hi);obtain⟨v,e,k⟩:=bNq (a:=a.2.2.2.2.2.2.2.1[i]) (b:=b.2.2.2.2.2.2.2.1[i]) hx.2.2.2.1 (λm hm=>(hx.2.2.2.2 m hm).1);refine⟨v,?_,k⟩;simp only[zX (show (i:Int)<(a.2.2.2.2.2.2.2.1.length:Int) by omega),zZ,aF,cCe hi,cCe hj,aA,bK (show i<=1000000000 by omega),aN,e];cases v<;>rfl
 exact⟨true,rfl,λ_=>Prod.ext (k1.1 rfl) (Prod.ext (k2.1 rfl) (Prod.ext (k3.1 rfl) (Prod.ext (eq_of_beq c4) (Prod.ext (k4.1 rfl) (Prod.ext e5 (Prod.ext e6 (Prod.ext e7 (eq_of_beq c8)))))))),λ_=>rfl⟩
theorem bTu{a b:den tNw}(ha:aJf a)(hb:aJf b)(h:tot tNw a<=1000000)(h':tot tNw b<=1000000):∃v,kG a b=some v/\dN a b=some v:=by
 have e:=bHy (a:=a) (b:=b) ((bB h).mono (by decide)) ((bB h').mono (by decide));exact bJ1 (a:=a) (b:=b) ⟨_,e,bAr ha hb⟩ (bGc h)
theorem bYi(a b:Int):yQ a b=some (a,b,0,[]):=rfl
theorem bXh{w:den tNw}{f:den tFl}{l:lPt}(hw:tot tNw w<=1073741824)(hf:tot tFl f<=1073741824)(hl:tot (.sl tPt) l<=1073741824)(el:oA (nT w) (nK w) f.1 f.2.1 (aL w)=some l):
  vV w f=some (aOy (if aA4 w f then w else aAe w f l) (!aA4 w f)):=by
 have sw:SmB 68719476736 tNw w:=(bB hw).mono (by decide);have sf:SmB 68719476736 tFl f:=(bB hf).mono (by decide);have n1:w.1.1.length<=68719476736:=sw.1.1.1;have n2:w.2.2.2.2.2.2.2.1.length<=1073741824:=(bB hw).2.2.2.2.2.2.2.1.1;have n3:w.2.2.2.2.2.2.1.length<=1073741824:=(bB hw).2.2.2.2.2.2.1.1;have el:oA w.1 w.2.1 f.1 f.2.1 w.2.2.2.1=some l:=el;have a1:aG 120 w.2.2.2.2.2.2.1.length 1=true:=aE (by decide) (by omega);have a2:aG 48 w.2.2.2.2.2.2.2.1.length 1=true:=aE (by decide) (by omega);unfold vV aA4 bM pj2 pj4 pj9 lN aU bG bC zz4 zz5 zz6 zz7 zz8 zz9;simp only[aN,bUq sw,aYf sf,aDb n1,bUu (show w.2.2.2.2.2.2.2.1.length<=68719476736 by omega),el,bWy hf hl,bYi,aA,aT0,a1,a2,zZ];cases iJ f
 .rfl
 cases cD w.1 f.1
 .rfl
 cases cD w.1 f.2.1
 .rfl
 cases f.2.2.2.1 != 0 with
 | true=>rfl
 | false=>cases decide ((w.2.2.2.2.2.2.1.length:Int)>=4) with
  | true=>cases decide (kC w.2.2.2.2.2.2.2.1 f.2.1 f.1>=0)<;>rfl
  | false=>cases decide (kC w.2.2.2.2.2.2.2.1 f.2.1 f.1>=0)<;>rfl
theorem bLd(f:den tFl)(l:lPt)(now:Int):(aCg f l now).length<=24:=by
 unfold aCg;rw[cDf];omega
theorem bMq{f:den tFl}(h:iJ f=true)(l:lPt)(now:Int):iJ (aC9 f l now)=true:=by
 rw[qG]at h ⊢;obtain⟨q1,q2,q3,q4,q5,q6,q7,q8,q9,q10,q11,q12⟩:=h;exact⟨q1,q2,q3,q4,q5,q6,bLd f l now,q8,q9,.inl rfl,rfl,q12⟩
theorem bDt{w:den tNw}{f:den tFl}(hv:aDv w=true)(hb:aA4 w f=false)(l:lPt):aDv (aAe w f l)=true:=by
 unfold aA4 at hb;simp only[Bool.or_eq_false_iff,Bool.not_eq_false']at hb;obtain⟨⟨⟨⟨⟨b1,b2⟩,b3⟩,b4⟩,b5⟩,b6⟩:=hb;have hnone:=aP0 b6;have hfl: ¬ (((aD w).length:Int)>=4):=of_decide_eq_false b5;have hack:f.2.2.2.1=0:=by simpa using b4
 have hsv:=bMq b1 l (aL w);have hvi:=(qG f).1 b1;unfold aDv at hv ⊢;simp only[cCf]at hv ⊢;obtain⟨v1,v2,v3,v4,v5,v6,v7,v8,v9,v10⟩:=hv;have hlen:(aW w).length=(aD w).length:=of_decide_eq_true v7;have hz:=(xH (λk f=>nV w k f&&vQ w k f) _).1 (show (w.2.2.2.2.2.2.1.zipIdx 0).all (λz=>nV w z.2 z.1&&vQ w z.2 z.1)=true from v10);refine⟨v1,v2,v3,v4,v5,?_,?_,v8,v9,?_⟩
 .refine zX ?_;show (aD w++[_]).length<=4;simp;omega
 .refine zX ?_;show (aW w++[_]).length=(aD w++[_]).length;simp[hlen]
 .refine (xH (λk g=>nV (aAe w f l) k g&&vQ (aAe w f l) k g) _).2 λj g hj=> ?_
  have hj:(aD w++[aC9 f l (aL w)])[j]? =some g:=hj
  by_cases hlt:j<(aD w).length
  .rw[cE8 hlt]at hj;have h1:=hz j g hj;rw[cCf]at h1 ⊢;refine⟨?_,?_⟩
   .have h2:=h1.1;unfold nV at h2 ⊢;have e:(aAe w f l).2.2.2.2.2.2.2.1[j]? =w.2.2.2.2.2.2.2.1[j]? :=cE8 (show j<(aW w).length by omega);rw[e];exact h2
   .have h2:=h1.2;unfold vQ at h2 ⊢;have e:(aAe w f l).2.2.2.2.2.2.1.take j=w.2.2.2.2.2.2.1.take j:=List.take_append_of_le_length (show j<=(aD w).length by omega);rw[e];exact h2
  .rw[List.getElem?_append_right (by omega)]at hj;have hj0:j - (aD w).length=0:=by
    have :=(cCq.1 hj).1;simpa using this
   rw[hj0]at hj;have hj:some (aC9 f l (aL w))=some g:=hj;injection hj with hj;subst hj;have hjn:j=(aD w).length:=by omega
   subst hjn;rw[cCf];refine⟨?_,?_⟩
   .unfold nV;have e:(aAe w f l).2.2.2.2.2.2.2.1[(aD w).length]? =some ((f.2.1,f.1,0,[]):den tIb):=by
     show (aW w++[_])[(aD w).length]? =_;rw[<- hlen];simp
    rw[e];simp only[cCf];refine⟨hsv,b2,b3,?_,?_⟩
    .unfold xOk;simp only[cCf];refine⟨hvi.2.1,hvi.1,?_,rfl,rfl,rfl⟩;rw[cDk,beq_eq_false_iff_ne];exact λe=>hvi.2.2.1 e.symm
    .unfold xL;simp only[cCf];refine⟨beq_self_eq_true _,beq_self_eq_true _,zX (cCz _),by cases (aC9 f l (aL w)).2.2.2.2.1<;>rfl,zX ?_⟩;show f.2.2.2.1<=(0:Int)
     rw[hack];exact cDr _
   .unfold vQ;rw[cC6];intro g hg;have e:(aAe w f l).2.2.2.2.2.2.1.take (aD w).length=aD w:=List.take_left;rw[e]at hg;obtain⟨i,hi⟩:=cE4.1 hg;have h1:=hz i g hi;rw[cCf]at h1;obtain⟨x,hx,x1,x2⟩:=aKi h1.1;have h2:=hnone x (cCt hx);unfold nL at h2;rw[x1,x2]at h2;unfold pB;show (!(g.1==f.1&&g.2.1==f.2.1))=true;rw[Bool.and_comm,h2];rfl
def Bk8(code:List Int)(o:Option (lAS×lLk×lSg×lSg×List Int×q30)):Prop:= ∃as ls d c c' p' h',o=some (as,ls,d,c,c',p',h')/\zQ as ls/\DbD 13 d c/\Cur code (c',p',h')
theorem bHc{code:List Int}(hl:code.length<=1048576){c:List Int}{p h:Int}(hc:Cur code (c,p,h)):Bk8 code (yC (c,p,h)):=by
 obtain⟨as,ls,c1,p1,h1,e1,ht,k1⟩:=aNm hl hc;obtain⟨v2,c2,p2,h2,e2,r2,k2⟩:=aH hl (n:=8) (by decide) (by decide) k1;obtain⟨m2,rfl⟩:=cC5 r2.1;unfold yC dd pj3 pj5 pj7 zz4 zz5;simp only[e1,e2,aA,aT,bI,aX,aY,aZ];refine pW (G:=Bk8 code) (λ(n:Nat) (s:Int×lAS×lLk×lSg×lSg×List Int×q30)=>s.1=(n:Int)/\n<=13/\s.2.1=as/\s.2.2.1=ls/\DbD (13 - n) s.2.2.2.1 s.2.2.2.2.1/\Cur code s.2.2.2.2.2) (λ(r:lAS×lLk×lSg×lSg×List Int×q30)=>r.1=as/\r.2.1=ls/\DbD 13 r.2.2.1 r.2.2.2.1/\Cur code r.2.2.2.2) ?_ m2 ((m2:Int),as,ls,[],[],c2,p2,h2) ⟨rfl,by omega,rfl,rfl,⟨by simp,by simp,λx hx=>(cC2 hx).elim,λx hx=>(cC2 hx).elim,λx hx=>(cC2 hx).elim⟩,k2⟩ ?_
 .rintro n ⟨_,xs,ys,d,cc,c3,p3,h3⟩ ⟨rfl,a1,ea,el,a4,a5⟩
  simp only at ea el a4 a5;subst ea;subst el;cases n with
  | zero=>exact .inl ⟨_,rfl,rfl,rfl,a4,a5⟩
  | succ n=>
   right;obtain⟨v4,c4,p4,h4,e4,k4⟩:=jX hl (n:=3) (by decide) (by decide) a5;have wn:wr (((n+1:Nat):Int) - 1)=(n:Int):=by rw[bD (by omega) (by omega)];omega
   have key:∀k:Int,∃d' cc' c5 p5 h5,(Option.bind (fZ (c4,p4,h4) (xs,ys) k) λy20=>Option.bind (gY (xs,ys) (d,cc) (y20.1,y20.2.1,y20.2.2.1)) λy21=>some (y21.1,y21.2,y20.2.2.2.1,y20.2.2.2.2.1,y20.2.2.2.2.2))=some (d',cc',c5,p5,h5)/\DbD (13 - n) d' cc'/\Cur code (c5,p5,h5):=λk=>by
    obtain⟨ts,be,hs,c5,p5,h5,e5,⟨l5,a5⟩,k5⟩:=bBn hl ht k k4;obtain⟨d',cc',e6,k6⟩:=bQk ht (by omega) a4 (s:=(ts,be,hs)) l5 a5;exact⟨d',cc',c5,p5,h5,by simp only[e5,e6,aA],k6.mono (by omega),k5⟩
   cases v4 with
   | true=>
    obtain⟨d',cc',c5,p5,h5,e5,k5,k6⟩:=key 1;refine⟨n,((n:Int),xs,ys,d',cc',c5,p5,h5),by omega,?_,rfl,by omega,rfl,rfl,k5,k6⟩;simp only[zX (show ((n+1:Nat):Int)>0 by omega),zZ,e4,aA];rw[e5,aA,wn]
   | false=>
    obtain⟨d',cc',c5,p5,h5,e5,k5,k6⟩:=key 2;refine⟨n,((n:Int),xs,ys,d',cc',c5,p5,h5),by omega,?_,rfl,by omega,rfl,rfl,k5,k6⟩;simp only[zX (show ((n+1:Nat):Int)>0 by omega),zZ,zY,e4,aA];rw[e5,aA,wn]
 .rintro⟨_,_,d,cc,c3,p3,h3⟩ ⟨rfl,rfl,a4,a5⟩
  exact⟨_,_,d,cc,c3,p3,h3,rfl,ht,a4,a5⟩
theorem bCg{α:Type}(l:List α)(a b:Int):(cut l a b).length<=l.length:=by
 unfold cut;rw[cDf,cD6];omega
def SpP(code:List Int)(o:Option (Int×Int×bQ×List Int×q30)):Prop:= ∃a b hs c' p' h',o=some (a,b,hs,c',p',h')/\hs.length<=5/\Cur code (c',p',h')
theorem bJq{code:List Int}(hl:code.length<=1048576){s:den tSg}(h5:s.2.2.length<=5){c:List Int}{p h:Int}(hc:Cur code (c,p,h)):SpP code (vU (c,p,h) s):=by
 have ec:eG (s.1,s.2.1,s.2.2)=some (s.1,s.2.1,s.2.2):=by
  unfold eG;rw[aE (b:=40) (n:=([]:bQ).length) (m:=s.2.2.length) (by decide) (by simp;omega),zZ];rfl
 unfold vU ixb pj3 zz4 zz5 zz6 zz7;simp only[ec,aA]
 by_cases h0:s.2.2.length=0
 .rw[show ((s.2.2.length:Int)==0)=true by rw[beq_iff_eq];omega,zZ];exact⟨_,_,_,_,_,_,rfl,h5,hc⟩
 rw[show ((s.2.2.length:Int)==0)=false by rw[beq_eq_false_iff_ne];omega,zY];obtain⟨v2,c2,p2,h2,e2,r2,k2⟩:=aH hl (n:=(s.2.2.length:Int)) (by omega) (by omega) hc;obtain⟨m,rfl⟩:=cC5 r2.1;have hm:m<s.2.2.length:=by omega
 obtain⟨v4,c4,p4,h4,e4,r4,k4⟩:=aH hl (n:=9) (by decide) (by decide) k2;obtain⟨v5,c5,p5,h5',e5,r5,k5⟩:=aH hl (n:=7) (by decide) (by decide) k4;obtain⟨v7,c7,p7,h7,e7,r7,k7⟩:=aH hl (n:=8) (by decide) (by decide) k4;have hset:∀x:den bP,(s.2.2.set m x).length<=5:=λx=>by rw[cDv];exact h5
 have wm:wr ((m:Int)+1)=((m+1:Nat):Int):=by rw[bD (by omega) (by omega)];omega
 have s1:bY (0:Int) (m:Int) (s.2.2.length:Int)=true:=aIq (by omega);have s2:bY ((m+1:Nat):Int) (s.2.2.length:Int) (s.2.2.length:Int)=true:=aCy (by omega);have a1:aG 40 (cut s.2.2 (0:Int) (m:Int)).length (cut s.2.2 ((m+1:Nat):Int) (s.2.2.length:Int)).length=true:=aE (by decide) (by
  have :=bCg s.2.2 (0:Int) (m:Int);have :=bCg s.2.2 ((m+1:Nat):Int) (s.2.2.length:Int);omega)
 have l1:(cut s.2.2 (0:Int) (m:Int)++cut s.2.2 ((m+1:Nat):Int) (s.2.2.length:Int)).length<=5:=by
  unfold cut;rw[cC3,cDf,cDf,cD6,cD6];omega
 simp only[e2,e4,e5,e7,aA,r2.1,zX r2.2,decide_true,zZ,cCm,cCe hm,zX hm,wm,s1,s2,a1];cases v4==(0:Int) with
 | true=>exact⟨_,_,_,_,_,_,rfl,hset _,k4⟩
 | false=>cases v4==(1:Int) with
  | true=>exact⟨_,_,_,_,_,_,rfl,hset _,k4⟩
  | false=>cases v4==(2:Int) with
   | true=>exact⟨_,_,_,_,_,_,rfl,hset _,k5⟩
   | false=>cases v4==(3:Int) with
    | true=>exact⟨_,_,_,_,_,_,rfl,hset _,k5⟩
    | false=>cases v4==(4:Int) with
     | true=>exact⟨_,_,_,_,_,_,rfl,hset _,k7⟩
     | false=>cases v4==(5:Int) with
      | true=>exact⟨_,_,_,_,_,_,rfl,hset _,k4⟩
      | false=>cases v4==(6:Int) with
       | true=>exact⟨_,_,_,_,_,_,rfl,hset _,k4⟩
       | false=>cases v4==(7:Int) with
        | true=>exact⟨_,_,_,_,_,_,rfl,l1,k4⟩
        | false=>exact⟨_,_,_,_,_,_,rfl,hset _,k4⟩
def Sg(l:lSg):Prop:=l.length<=13/\ ∀x∈l,x.2.2.length<=5
theorem bJe{code:List Int}(hl:code.length<=1048576){c:List Int}{p h:Int}(hc:Cur code (c,p,h)):∃as ls d cc c' p' h',aAw (c,p,h)=some (as,ls,d,cc,c',p',h')/\zQ as ls/\(Sg d/\Sg cc)/\Cur code (c',p',h'):=by
 obtain⟨as,ls,d,cc,c1,p1,h1,e1,ht,hk,k1⟩:=bHc hl hc;obtain⟨v2,c2,p2,h2,e2,k2⟩:=jX hl (n:=3) (by decide) (by decide) k1;have hd:Sg d:=⟨hk.down,hk.hd⟩
 have hcc:Sg cc:=⟨hk.core,hk.hc⟩
 unfold aAw ixb pj3 pj5 zz4;simp only[e1,e2,aA,aT,bI,aX,aY,aZ];have fin:∀(d':lSg) (c3:List Int) (p3 h3:Int),Sg d'->Cur code (c3,p3,h3)-> ∃as' ls' d1 cc1 c' p' h',(@Option.bind (lSg×lSg×q2) q10 (Option.bind (bS (c3,p3,h3) (6:Int)) λy7=>cond y7.1 (some (cc,d',y7.2.1,y7.2.2.1,y7.2.2.2)) (some (d',cc,y7.2.1,y7.2.2.1,y7.2.2.2))) λs8=>some (as,ls,s8.1,s8.2.1,s8.2.2.1,s8.2.2.2.1,s8.2.2.2.2))=some (as',ls',d1,cc1,c',p',h')/\zQ as' ls'/\(Sg d1/\Sg cc1)/\Cur code (c',p',h'):=by
  intro d' c3 p3 h3 hd' k3;obtain⟨v7,c7,p7,h7,e7,k7⟩:=jX hl (n:=6) (by decide) (by decide) k3;rw[e7,aA];cases v7 with
  | true=>exact⟨_,_,_,_,_,_,_,rfl,ht,⟨hcc,hd'⟩,k7⟩
  | false=>exact⟨_,_,_,_,_,_,_,rfl,ht,⟨hd',hcc⟩,k7⟩
 cases v2 with
 | false=>
  simp only[zY,aA];exact fin d c2 p2 h2 hd k2
 | true=>
  by_cases h0:(0:Int)<(d.length:Int)
  .have hlt:0<d.length:=by omega
   obtain⟨a5,b5,hs5,c5,p5,h5,e5,l5,k5⟩:=bJq hl (s:=d[0]) (hd.2 _ (cC9 hlt)) k2;have e5:vU (c2,p2,h2) (d[0].1,d[0].2.1,d[0].2.2)=_:=e5;simp only[zZ,zX h0,zX (show (d.length:Int)>0 from h0),show decide ((0:Int)<=(0:Int))=true from rfl,show (0:Int).toNat=0 from rfl,cCe hlt,zX hlt,e5,aA];refine fin _ c5 p5 h5 ⟨by rw[cDv];exact hd.1,λx hx=> ?_⟩ k5;rcases cEt hx with hx | rfl
   .exact hd.2 x hx
   .exact l5
  .simp only[zZ,zY,zW (show ¬ (d.length:Int)>0 from h0),aA];exact fin d c2 p2 h2 hd k2
theorem bHu{code:List Int}(hl:code.length<=1048576):∃as ls k now d cc,kM code=some (as,ls,k,now,d,cc)/\as.length<=8/\ls.length<=101/\Sg d/\Sg cc:=by
 obtain⟨c0,p0,h0,e0,k0⟩:=aNd hl;obtain⟨as,ls,d,cc,c1,p1,h1,e1,ht,⟨hd,hcc⟩,k1⟩:=bJe hl k0;obtain⟨v2,c2,p2,h2,e2,k2⟩:=jX hl (n:=4) (by decide) (by decide) k1;have n1:=ht.len;have n2:=ht.links;unfold kM pj3 pj5 zz4;simp only[e0,e1,e2,aA,aT,bI,aX,aY,aZ];cases v2 with
 | true=>
  obtain⟨as',ls',c3,p3,h3,e3,l1,l2,k3⟩:=aYp hl k2;obtain⟨v4,c4,p4,h4,e4,r4,k4⟩:=pJ hl (l:=[(8:Int),0,21]) (by decide) (by decide) k3;obtain⟨v5,c5,p5,h5,e5,r5,k5⟩:=aPo hl k4;exact⟨as',ls',v4,v5,d,cc,by simp only[zZ,e3,e4,e5,aA,aT,bI,aX,aY,aZ],l1,l2,hd,hcc⟩
 | false=>
  obtain⟨v4,c4,p4,h4,e4,r4,k4⟩:=pJ hl (l:=[(8:Int),0,21]) (by decide) (by decide) k2;obtain⟨v5,c5,p5,h5,e5,r5,k5⟩:=aPo hl k4;exact⟨as,ls,v4,v5,d,cc,by simp only[zY,e4,e5,aA,aT,bI,aX,aY,aZ],n1,by omega,hd,hcc⟩
def bRr(w:den tNw)(f:den tFl):q8:=
 ((nK w).1,(nK w).2,(nG w).1,aL w,cW w,f.1,f.2.1,f.2.2.1,f.2.2.2.1,f.2.2.2.2.2.2.1,f.2.2.2.2.2.2.2.1,(nT w).1,(nT w).2,(nG w).2.1,(nG w).2.2,aK w,aQ w,aD w,aW w,f.2.2.2.2.1,f.2.2.2.2.2.1,f.2.2.2.2.2.2.2.2)
theorem bF2{code:List Int}(hl:code.length<=1048576):∃w f,pQ code=some (bRr w f)/\uI 3 w/\tot tFl f<=100/\0<=f.1/\0<=f.2.1:=by
 obtain⟨c0,p0,h0,e0,k0⟩:=aNd hl;obtain⟨w,c1,p1,h1,e1,hw,k1⟩:=bBa hl k0;obtain⟨a,b,c2,p2,h2,e2,⟨ra,rb⟩,k2⟩:=bCa hl (by decide) hw.db k1;obtain⟨v3,c3,p3,h3,e3,k3⟩:=jX hl (n:=3) (by decide) (by decide) k2;obtain⟨v4,c4,p4,h4,e4,k4⟩:=jX hl (n:=8) (by decide) (by decide) k3;have enf:∀a b c:Int,tY a b c=some (a,b,c,0,0,0,[],[],[]):=λ_ _ _=>rfl
 have hf:tot tFl (a,b,0,0,[],[],0,0,[])<=1000:=by rw[yY];decide
 have en:=bFs (f:=(a,b,0,0,[],[],0,0,[])) (b:=[1]) ((bB (B:=1000) hf).mono (by decide)) ⟨by decide,λe he=>trivial⟩;have e2:rQ (c1,p1,h1) ((nK w).1,(nK w).2)=_:=e2;have t0:∀k:Int,tot tFl (a,b,0,k,[],[],0,0,[])<=100:=λk=>by rw[yY];decide
 have t1:∀k:Int,tot tFl (a,b,0,k,[[1]],[],0,0,[])<=100:=λk=>by rw[yY];decide
 unfold pQ pj3 pj6 aU bG bC cU zz4 zz5 zz6 zz7 zz8 zz9;simp only[e0,e1,aAa,e2,e3,enf,en,aA,aT,bI,aX,aY,aZ];cases v3 with
 | false=>
  simp only[zY,aA,e4];cases v4 with
  | false=>exact⟨w,(a,b,0,0,[],[],0,0,[]),rfl,hw,t0 _,ra.1,rb.1⟩
  | true=>exact⟨w,(a,b,0,1,[],[],0,0,[]),rfl,hw,t0 _,ra.1,rb.1⟩
 | true=>
  unfold aZq;split
  .simp only[zZ,aA,e4];cases v4 with
   | false=>exact⟨w,(a,b,0,0,[[1]],[],0,0,[]),rfl,hw,t1 _,ra.1,rb.1⟩
   | true=>exact⟨w,(a,b,0,1,[[1]],[],0,0,[]),rfl,hw,t1 _,ra.1,rb.1⟩
  .simp only[zZ,aA,e4];cases v4 with
   | false=>exact⟨w,(a,b,0,0,[],[],0,0,[]),rfl,hw,t0 _,ra.1,rb.1⟩
   | true=>exact⟨w,(a,b,0,1,[],[],0,0,[]),rfl,hw,t0 _,ra.1,rb.1⟩
theorem bF4{code:List Int}(hl:code.length<=1048576):∃w,iN code=some (bPx w)/\tot tNw w<=303000:=by
 obtain⟨w,c1,p1,h1,e1,hw,k1⟩:=aY5 hl (most:=30) (by decide) (by decide);have e1:pY code (30:Int)=_:=e1;refine⟨w,?_,hw.tot⟩;unfold iN pj3 cU zz4 zz5 zz6 zz7 zz8 zz9;simp only[e1,bGp,aA];rfl
def bRy(w x:den tNw):q16:=
 ((nT w).1,(nT w).2,(nK w).1,(nK w).2,(nG w).1,(nG w).2.1,(nG w).2.2,aL w,aK w,cW w,(nT x).1,(nT x).2,(nK x).1,(nK x).2,(nG x).1,(nG x).2.1,(nG x).2.2,aL x,aK x,cW x,aQ w,aD w,aW w,aQ x,aD x,aW x)
theorem bHj{code:List Int}(hl:code.length<=1048576):∃a b,gM code=some (bRy a b)/\(aJf a/\aJf b)/\tot tNw a<=1000000/\tot tNw b<=1000000:=by
 obtain⟨w,c1,p1,h1,e1,hw,k1⟩:=aY5 hl (most:=15) (by decide) (by decide);have e1:pY code (15:Int)=_:=e1;have ec:=aS8 (w:=w) ((bB hw.tot).mono (by decide));obtain⟨v2,c2,p2,h2,e2,r2,k2⟩:=aH hl (n:=3) (by decide) (by decide) k1;obtain⟨v,l,x,c3,p3,h3,e3,hv,hr,hn,k3⟩:=aL9 hl (most:=8) (by decide) (by decide) k2;have e3:lW (c2,p2,h2) (8:Int)=_:=e3;have hx:=hr.runV hv (by omega);have bw:aJf w:=⟨hw.bytes,hw.boxB⟩
 have tw:=hw.tot;have ec:mF (((nT w).1,(nT w).2),((nK w).1,(nK w).2),((nG w).1,(nG w).2.1,(nG w).2.2),aL w,aK w,aQ w,aD w,aW w,cW w)=some (aT0 w):=ec;unfold gM pj3 aU bG bC cU kH mI sV vA yR aCs zz4 zz5 zz6 zz7 zz8 zz9;simp only[e1,bGp,ec,e2,e3,aA,aT,bI,aX,aY,aZ];cases v2==(0:Int) with
 | true=>exact⟨w,(nT w,nK w,nG w,aL w,aK w,aQ w,aD w,aW w,wr (cW w+1)),rfl,⟨bw,⟨⟨bw.bw.fly,bw.bw.msg⟩,bw.box⟩⟩,by omega,cCc (show tot tNw (nT w,nK w,nG w,aL w,aK w,aQ w,aD w,aW w,wr (cW w+1))<=tot tNw w from cCx _) (by omega)⟩
 | false=>cases v2==(1:Int) with
  | true=>exact⟨w,x,rfl,⟨bw,⟨hx.run.keep.bytes,hx.inv.boxB hx.run.keep.bytes⟩⟩,by omega,cCc hx.run.keep.tot (by omega)⟩
  | false=>exact⟨w,w,rfl,⟨bw,bw⟩,by omega,by omega⟩
def bQh(w:den tNw):q32:=
 ((nG w).1,aL w,cW w,(nT w).1,(nT w).2,(nK w).1,(nK w).2,(nG w).2.1,(nG w).2.2,aK w,aQ w,aD w,aW w)
theorem bE3{as:lAS}{ls:lLk}{d cc:lSg}(l1:as.length<=8)(l2:ls.length<=101)(hd:Sg d)(hc:Sg cc)(k now:Int):∃W,pC (as,ls) (d,cc) k now=some (bQh W)/\kU (as,ls) (d,cc) k now=some (bQh W)/\tot tNw W<=1000000/\((((nT W).1.length:Int)==0)=false->aDv W=true):=by
 have sT:SmB 68719476736 tTo (as,ls):=(bB (B:=200) (by rw[bP9];omega)).mono (by decide);have sK:SmB 68719476736 tDb (d,cc):=⟨aF6 (n:=13) (by decide) hd.1 hd.2,aF6 (n:=13) (by decide) hc.1 hc.2⟩
 have e1:=bZi (c:=k) (now:=now) sT sK;have e2:=bLi (c:=k) (now:=now) sT sK;cases hN:aHt (as,ls) now with
 | false=>
  rw[hN]at e1 e2;exact⟨(([],[]),([],[]),(0,[],[]),0,[],[],[],[],0),e1,e2,by decide,λh=>by cases h⟩
 | true=>
  rw[hN]at e1 e2;unfold aHt at hN;rw[cCf]at hN;have tot1:=wP (t:=tSg) (B:=5) (l:=d) λx hx=>aNx (hd.2 x hx)
  have tot2:=wP (t:=tSg) (B:=5) (l:=cc) λx hx=>aNx (hc.2 x hx)
  have q1:=hd.1;have q2:=hc.1;refine⟨((as,ls),(d,cc),(cond (inR k 1 20) k 1,[],[]),now,[],[],[],[],0),e1,e2,?_,λ_=> ?_⟩
  .rw[aA9,xK,xK,xK];simp only[cDj];omega
  .unfold aDv;simp only[cCf];refine⟨hN.1,hN.2,?_,rfl,rfl,rfl,rfl,rfl,rfl,rfl⟩;unfold xG;rw[cCf];refine⟨?_,rfl⟩;cases hk:inR k 1 20 with
   | true=>exact hk
   | false=>rfl
theorem bK2{w:den tNw}{f:den tFl}(hw:uI 3 w)(hf:tot tFl f<=100)(ha:0<=f.1)(hb:0<=f.2.1):∃X ok,vV w f=some (aOy X ok)/\rN w f=some (aOy X ok)/\tot tNw X<=1000000/\aDv X=true/\(ok=false->X=w)/\(ok=true->(aD X).length=(aD w).length+1):=by
 have hnow:aL w=60:=hw.now;have tw:=hw.tot (by decide);obtain⟨l,el,hl⟩:=bTl hw.top (hw.db.mono (by decide)) ha hb (aL w);have f1:=aT5 (t:=nT w) (k:=nK w) (cCc (show (nT w).1.length<=8 from hw.top.len) (by decide)) (cCc (show (nT w).2.length<=100 from hw.top.links) (by decide)) (hw.db.s (by decide)) f.1 f.2.1 (aL w);have f2:=bWd (t:=nT w) (k:=nK w) (cCc (show (nT w).1.length<=8 from hw.top.len) (by decide)) (cCc (show (nT w).2.length<=100 from hw.top.links) (by decide)) (hw.db.s (by decide)) f.1 f.2.1 (aL w);have el:hP (nT w) (nK w) f.1 f.2.1 (aL w)=some l:=el;have hll:aEi (nT w) (nK w) f.1 f.2.1 (aL w)=l:=Option.some.inj (f1.symm.trans el);rw[hll]at f2;have pt:=aL7 hl.d;have g1:=bXh (cCc tw (by decide)) (cCc hf (by decide)) (cCc pt (by decide)) f2;have g2:=aZ0 (cCc tw (by decide)) (cCc hf (by decide)) (cCc pt (by decide)) el;have hV:=(uI.runV hw).valid (by decide) hw.top.top;cases hbad:aA4 w f with
 | true=>
  rw[hbad]at g1 g2;exact⟨w,false,g1,g2,by omega,hV,λ_=>rfl,λh=>by cases h⟩
 | false=>
  rw[hbad]at g1 g2;refine⟨aAe w f l,true,g1,g2,?_,bDt hV hbad l,(λh=>by cases h),λ_=> ?_⟩
  .rw[fK]at tw ⊢;have h1:tot (.sl tFl) (aD w++[aC9 f l (aL w)])=tot (.sl tFl) (aD w)+(1+tot tFl (aC9 f l (aL w))):=by rw[pM,aC5]
   have h2:tot (.sl tIb) (aW w++[((f.2.1,f.1,0,[]):den tIb)])=tot (.sl tIb) (aW w)+1:=aTp rfl;have h3:tot tFl (aC9 f l (aL w))<=100000:=by
    have h4:=bIn f l (aL w);obtain⟨f1,f2,f3,f4,f5,f6,f7,f8,f9⟩:=f;unfold aC9;rw[yY]at hf ⊢;simp only at h4 ⊢;omega
   have k1:tot (.sl tFl) (aD (aAe w f l))=tot (.sl tFl) (aD w++[aC9 f l (aL w)]):=rfl;have k2:tot (.sl tIb) (aW (aAe w f l))=tot (.sl tIb) (aW w++[((f.2.1,f.1,0,[]):den tIb)]):=rfl;have k3:nT (aAe w f l)=nT w:=rfl;have k4:nK (aAe w f l)=nK w:=rfl;have k5:nG (aAe w f l)=nG w:=rfl;have k6:aK (aAe w f l)=aK w:=rfl;have k7:aQ (aAe w f l)=aQ w:=rfl;rw[k1,k2,k3,k4,k5,k6,k7];omega
  .show (aD w++[_]).length=_;simp
end Go.Proofs.YtnkjolpkcmgcaaaGreat
