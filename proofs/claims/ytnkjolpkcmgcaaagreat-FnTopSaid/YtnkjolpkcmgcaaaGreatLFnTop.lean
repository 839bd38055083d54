/-
  The plain part of: Law FnTop: for every code what is passed on was sealed, in time and on a simple path, every network of a run is valid, and after settling what has a working path has arrived. Conditions: none.
-/
import Derived.Test.YtnkjolpkcmgcaaaGreatQ2FnTop
open Nat renaming le_trans->cFv
open List renaming getElem?_eq_getElem->cFx
open Int renaming toNat_natCast->cF2,lt_irrefl->cG2
open Sum renaming elim_inl->cG6
open Bool renaming not_true->cF0
set_option linter.unusedVariables false
set_option linter.unusedSimpArgs false
set_option maxRecDepth 100000
namespace Go.Proofs.YtnkjolpkcmgcaaaGreat.fnTop
open Go.Ab Go.V
theorem law(code:den (.sl tb))(w0:Wf (.sl tb) code):l_FnTop code=some true:=by
 by_cases hbig:(code.length:Int)>1048576
 .unfold l_FnTop aI1 ixb aL yJ fT pj4 pj5 pj9 aS bD bR eC zz4 zz5 zz6 zz7 zz8 zz9
  rw[zX hbig];rfl
 have hl:code.length<=1048576:=by omega
 obtain⟨c0,p0,h0,e0,k0⟩:=bXt hl
 obtain⟨n,en,hn⟩:=bSw hl (m:=50) (by decide)
 have en:aAj code 50=some (n:Int):=en
 have w1:wr ((25:Int)+(n:Int))=((25+n:Nat):Int):=by rw[bE (by omega) (by omega)];omega
 obtain⟨v,l,w,c1,p1,h1,e1,hv,hr,hn',k1⟩:=bY3 hl (most:=25+n) (by omega) (by omega) k0
 have ed:sZ code=some ((nG v).1,aJ v,dR v,l,(nT v).1,(nT v).2,(nK v).1,(nK v).2,(nG v).2.1,(nG v).2.2,aH v,aI v,aB v,aR v):=by
  unfold sZ pj3 kX tD wC aA1 aCk aCi aGp aJx aJ3 aJy
  simp only[e0,en,w1,aA,e1]
  rfl
 obtain⟨hev,hwe⟩:=hr.evs
 have hV:=wB.runV hv
 have htv:=hv.top.top
 have hlk:=hv.top.links
 have has:=hv.top.len
 have key:=λstep hs he=>aZ3 (R:=q2⊕Bool) (step:=step) (λc i w=>((i:Int),(nG w).1,aJ w,dR w,(nT w).1,(nT w).2,(nK w).1,(nK w).2,(nG w).2.1,(nG w).2.2,aH w,aI w,aB w,aR w)) (λc w=> .inl (aGh w)) l hlk hs he l [] 0 0 v rfl (Nat.le_refl _) hV hev (by omega)
 unfold l_FnTop aI1 ixb aL yJ fT pj4 pj5 pj9 aS bD bR eC zz4 zz5 zz6 zz7 zz8 zz9
 simp only[ed,aA,zW hbig,zY]
 refine (congrArg (λo=>Option.bind o _) (key _ ?_ ?_)).trans ?_
 .intro k c i w e hR hk' hx he hi hc
  have e2:=cDj hR hk' htv hlk he
  have hR':=hR.event (by omega) hlk he
  have e3:=aT2 (w:=(doW w e).2) (cFv (aMk hR' (by omega)).tot (by decide))
  rw[hR'.valid (by omega) htv]at e3
  have htop:nT w=nT v:=hR.run.top
  have ha:(nT w).1.length<=8:=by rw[htop];exact has
  have hls:(nT w).2.length<=100:=by rw[htop];exact hlk
  have hdd:(aH w).length<=100:=by
   have h1:=(bVs (w:=w) (cFv (aMk hR (by omega)).tot (by decide)))
   have h2:=hR.dead
   exact bR2 h2 hlk
  have hstep:∀j:Nat,j<(aI w).length-> ∃x:den tFy,(aI w)[j]? =some x/\cF (nT w) (aH w) x.1=some (dI (nT w) (aH w) x.1)/\oS (nT w) x.1 (aJ w) (dI (nT w) (aH w) x.1) x.2.1 x.2.2=some ((fwd (nT w) x.1 (aJ w) (dI (nT w) (aH w) x.1) x.2.1 x.2.2).1,(fwd (nT w) x.1 (aJ w) (dI (nT w) (aH w) x.1) x.2.1 x.2.2).2.1,(fwd (nT w) x.1 (aJ w) (dI (nT w) (aH w) x.1) x.2.1 x.2.2).2.2.1)/\
    eJ (nT w) x.2.2=some (nL (sealed (nT w) x.2.2) (zD (nT w) x.2.2))/\eG x.2.2 (aJ w)=some (wT x.2.2 (aJ w))/\iS (nT w) x.2.2.2.2.2.1=some (nP (nT w) x.2.2.2.2.2.1)/\dN x.2.2=some (cA x.2.2):=λj hj=>by
   have hm:=List.getElem_mem hj
   have ht:=hR.run.fly _ hm
   have hpp:tot tPt (aI w)[j].2.2.2.2.2.1<=1100:=xS (aT (aT (aT ht)))
   exact⟨_,cFx hj,aPm (by omega) (by omega),aWx (by omega) (by omega) (by omega) (by omega),bMh (by omega) (fV (by omega)),bBn (fV (by omega)),aX9 (by omega) (by omega) (by omega),aFf (fV (by omega))⟩
  have hfl:(aI w).length<=150:=hR.run.flyN
  clear hR hR' htop hdd
  generalize (doW w e).2=x at *
  obtain⟨⟨as,ls⟩,⟨dn,co⟩,⟨cap,res,us⟩,now,dead,fly,flows,box,drop⟩:=w
  obtain⟨⟨as1,ls1⟩,⟨dn1,co1⟩,⟨cap1,res1,us1⟩,now1,dead1,fly1,flows1,box1,drop1⟩:=x
  obtain⟨kd,en,data,to,ing,k1,k2,k3,k4,k5,k6,k7,k8,k9,k10⟩:=e
  simp only[nT,nK,nG,aJ,aH,aI,aB,aR,dR]at hstep e2 e3 hfl
  simp only[aGh,nT,nK,nG,aJ,aH,aI,aB,aR,dR,aN,hx,aA,bC,bT,bH,bI,bL,zX (show (i:Int)<(l.length:Int) by omega),zZ]
  refine (bR7 (n:=if fly.length<=3 then fly.length else 3) (λj=>((j:Int),as,ls,cap,now,drop)) (r:= .inl (as,ls,cap,now,drop)) rfl ?_ ?_).trans ?_
  .intro j hj
   have hj1:j<fly.length:=by split at hj<;>omega
   have hj3:j<3:=by split at hj<;>omega
   obtain⟨x,g1,g2,g3,g4,g5,g6,g7⟩:=hstep j hj1
   have d1:∀q:Decidable ((j:Int)<(fly.length:Int)),@decide _ q=true:=λq=>zX (by omega)
   have d2:∀q:Decidable ((j:Int)<3),@decide _ q=true:=λq=>zX (by omega)
   have d5:decide ((0:Int)<=(j:Int))=true:=zX (by omega)
   obtain⟨xa,xb,x1,x2,x3,x4,x5,x6,x7,x8,x9,xc⟩:=x
   simp only at g2 g3 g4 g5 g6 g7
   simp only[d1,d2,d5,zZ,cF2,g1,g2,g3,aA,bC,bT,bH,bI,bL]
   cases hc:decide ((fwd (as,ls) xa now (dI (as,ls) dead xa) xb (x1,x2,x3,x4,x5,x6,x7,x8,x9,xc)).1<=1) with
   | false=>
    simp only[zY,aA,cG6]
    rw[eE (by omega)]
   | true=>
    obtain⟨o1,o2,o3,o4⟩:=cB5 (of_decide_eq_true hc)
    rw[o1]at g4
    rw[o2]at g5
    have o3:nP (as,ls) x4=true:=o3
    rw[o3]at g6
    rw[o4]at g7
    simp only[zZ,g4,g5,g6,g7,nL,aA,cF0,zY,bne_self_eq_false,cG6]
    rw[eE (by omega)]
  .by_cases h3:fly.length<=3
   .rw[zT h3]
    simp only[zW (cG2 _),zY,aA]
   .rw[zS h3]
    have d1:decide (((3:Nat):Int)<(fly.length:Int))=true:=zX (by omega)
    simp only[d1,zZ,aA,show decide (((3:Nat):Int)<3)=false from rfl,zY]
  .simp only[cG6,e2,bDd,aA,e3,cF0,zY]
   rw[eE (by omega)]
 .intro c w
  simp only[zW (cG2 _),zY]
  rfl
 .rw[<- hwe]
  clear key ed e1 e0 en
  have hR:=(hr.runV hv (by omega)).round
  have hC:=hr.calm hv
  have tw:=hR.run.keep.tot
  obtain⟨N,hS⟩:=bJf hR hC (by omega) (by omega) hv.top.top
  have hN:=hS.few
  have S1:=cCw (w:=w) (by omega) hR.run.keep.bytes
  rw[hS.run]at S1
  have tx:=hS.rnd.run.keep.tot
  have tN:N * 328656<=174 * 328656:=Nat.mul_le_mul_right _ hN
  have V1:=aT2 (w:=cD N w) (by omega)
  rw[hS.rnd.valid (by omega) hv.top.top]at V1
  have hfl:(aB w).length<=1000000:=cFv hC.few (by decide)
  have hstep:∀j:Nat,j<(aB w).length-> ∃f g b,(aB w)[j]? =some f/\(aB (cD N w))[j]? =some g/\(aR (cD N w))[j]? =some b/\mM w f=some (aD0 w f)/\fZ g b=some true/\(decide (aD0 w f>=0)=true->(g.2.2.2.1 != (g.2.2.2.2.1.length:Int))=false):=λj hj=>by
   have j1:j<(aB (cD N w)).length:=by rw[hS.len];exact hj
   have j2:j<(aR (cD N w)).length:=by rw[hS.rnd.inv.lenB];exact j1
   have g1:=cFx hj
   have F:=hS.rnd.inv.flow j _ _ (cFx j1) (cFx j2)
   have m1:=((mU _).1 F.val).2.2.2.2.1
   have m3:=F.len
   refine⟨_,_,_,g1,cFx j1,cFx j2,bZf (by omega) g1,?_,λhw=> ?_⟩
   .rw[aWu (by omega) (by omega),F.ok.2]
   .obtain⟨f,q1,q2,_⟩:=hS.go j _ g1 (of_decide_eq_true hw)
    rw[cFx j1]at q1
    injection q1 with q1
    rw[q1]
    have q2:f.2.2.2.1=(f.2.2.2.2.1.length:Int):=q2
    rw[q2]
    exact bne_self_eq_false _
  have hl1:=hS.len
  have hl2:=hS.rnd.inv.lenB
  clear hS hR hC hr
  generalize cD N w=x at *
  obtain⟨⟨as,ls⟩,⟨dn,co⟩,⟨cap,res,us⟩,now,dead,fly,flows,box,drop⟩:=w
  obtain⟨⟨as1,ls1⟩,⟨dn1,co1⟩,⟨cap1,res1,us1⟩,now1,dead1,fly1,flows1,box1,drop1⟩:=x
  simp only[nT,nK,nG,aJ,aH,aI,aB,aR,dR]at hstep hl1 hl2 hfl
  simp only[Option.bind_some,aA,cG6,aGh,nT,nK,nG,aJ,aH,aI,aB,aR,dR,S1]
  rw[bL0 (n:=flows.length) (r:= .inl ()) (by omega)]
  .simp only[cG6,V1,aA]
  .intro j hj
   obtain⟨f,g,b,g1,g2,g3,g4,g5,g6⟩:=hstep j hj
   have d1:∀q:Decidable ((j:Int)<(flows1.length:Int)),@decide _ q=true:=λq=>zX (by omega)
   have d2:∀q:Decidable ((j:Int)<(flows.length:Int)),@decide _ q=true:=λq=>zX (by omega)
   have d3:∀q:Decidable ((j:Int)<(box1.length:Int)),@decide _ q=true:=λq=>zX (by omega)
   have d5:decide ((0:Int)<=(j:Int))=true:=zX (by omega)
   simp only[d1,d2,d3,d5,zZ,cF2,g1,g2,g3,aA,aP,g4,g5,cF0,zY]
   cases hw:decide (aD0 ((as,ls),(dn,co),(cap,res,us),now,dead,fly,flows,box,drop) f>=0) with
   | false=>
    simp only[zY,aA]
    rw[eE (by omega)]
   | true=>
    simp only[zZ,g6 hw,zY,aA]
    rw[eE (by omega)]
  .simp only[zW (cG2 _),zY]
end Go.Proofs.YtnkjolpkcmgcaaaGreat.fnTop
