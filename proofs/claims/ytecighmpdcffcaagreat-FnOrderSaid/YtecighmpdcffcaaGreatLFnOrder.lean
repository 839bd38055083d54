/-
  The plain part of: Law FnOrder: for every code received messages are the sent ones in order, acknowledgements do not fall and an inbox grows by at most one message per event. Conditions: none.
-/
import Derived.Test.YtecighmpdcffcaaGreatQ2FnOrder
open List renaming getElem?_eq_getElem→bWu
set_option linter.unusedVariables false
set_option linter.unusedSimpArgs false
set_option maxRecDepth 100000
namespace Go.Proofs.YtecighmpdcffcaaGreat.fnOrder
open Go.Ab Go.V
theorem law (code:den (.sl tb)) (w0:Wf (.sl tb) code):l_FnOrder code=some true:=by
 by_cases hbig:(code.length:Int)>1048576
 ·unfold l_FnOrder aGh ixb aI jF pj4 pj9 aW bR bT eX zz4 zz5 zz6 zz7 zz8 zz9
  rw [zX hbig];rfl
 have hl:code.length<=1048576:=by omega
 obtain ⟨c0,p0,h0,e0,k0⟩:=bQt hl
 obtain ⟨n,en,hn⟩:=bLh hl (m:=50) (by decide)
 have en:xH code 50=some (n:Int):=en
 have w1:wr ((25:Int)+(n:Int))=((25+n:Nat):Int):=by rw [bI (by omega) (by omega)];omega
 obtain ⟨v,l,w,c1,p1,h1,e1,hv,hr,hn',k1⟩:=bQd hl (most:=25+n) (by omega) (by omega) k0
 have ed:qT code=some ((nG v).1,aN v,dW v,l,(nT v).1,(nT v).2,(nK v).1,(nK v).2,(nG v).2.1,(nG v).2.2,aJ v,aR v,aB v,aU v):=by
  unfold qT pj3 nD rR wD aAj aCl aB9 aHn aKq aLu aKy
  simp only [e0,en,w1,aA,e1]
  rfl
 have hev:=hr.evs.1
 have hV:=yD.runV hv
 have htv:=hv.top.top
 have hlk:=hv.top.links
 have key:=fun step hs he=>aVb (R:=Unit⊕Bool) (step:=step) (fun c i w=>((i:Int),(nG w).1,aN w,dW w,(nT w).1,(nT w).2,(nK w).1,(nK w).2,(nG w).2.1,(nG w).2.2,aJ w,aR w,aB w,aU w)) (fun c w=> .inl ()) l hlk hs he l [] 0 0 v rfl (Nat.le_refl _) hV hev (by omega)
 unfold l_FnOrder aGh ixb aI jF pj4 pj9 aW bR bT eX zz4 zz5 zz6 zz7 zz8 zz9
 simp only [ed,aA,zW hbig,zY]
 refine (congrArg (fun o=>Option.bind o _) (key _ ?_ ?_)).trans ?_
 ·intro k c i w e hR hk' hx he hi hc
  have e2:=bVi hR hk' htv hlk he
  have hR':=hR.event (by omega) hlk he
  have e3:=bGw (w:=(doW w e).2) (Nat.le_trans (aIo hR' (by omega)).tot (by decide))
  rw [hR'.valid (by omega) htv] at e3
  have hU:=bSn (e:=e) hR.inv
  have hI:=hR.inv
  have hI':=hR'.inv
  have hsm:(aB (doW w e).2).length<=1000000:=Nat.le_trans (aIo hR' (by omega)).flows (by decide)
  clear hR hR'
  generalize (doW w e).2=x at *
  have hstep: ∀ j:Nat,j<(aB x).length→ ∃ f f' b b',(aB x)[j]? =some f'∧(aU x)[j]? =some b'∧(aB w)[j]? =some f∧(aU w)[j]? =some b∧eW f' b'=some true∧decide (f'.2.2.2.1<f.2.2.2.1)=false∧decide ((b'.2.2.2.length:Int)<(b.2.2.2.length:Int))=false∧decide ((b'.2.2.2.length:Int)>wr ((b.2.2.2.length:Int)+1))=false:=fun j hj=>by
   have j1:j<(aU x).length:=by rw [hI'.lenB];exact hj
   have j2:j<(aB w).length:=by rw [← hU.1.1];exact hj
   have j3:j<(aU w).length:=by rw [hI.lenB];exact j2
   have g1:=bWu hj
   have g2:=bWu j1
   have g3:=bWu j2
   have g4:=bWu j3
   have F:=hI'.flow j _ _ g1 g2
   have G:=hI.flow j _ _ g3 g4
   have m1:(aB x)[j].2.2.2.2.1.length<=20:=((nJ _).1 F.val).2.2.2.2.1
   have m2:(aB w)[j].2.2.2.2.1.length<=20:=((nJ _).1 G.val).2.2.2.2.1
   have m3:=F.len
   have m4:=G.len
   have a1:=hU.1.2 j _ _ g3 g1
   have a2:=hU.2.2 j _ _ g4 g2
   refine ⟨_,_,_,_,g1,g2,g3,g4,?_,?_,?_,?_⟩
   ·rw [aR6 (by omega) (by omega),F.ok.2]
   ·exact zW (Int.not_lt.2 a1)
   ·refine zW ?_
    rcases a2 with a2 | ⟨_,a2⟩<;>omega
   ·rw [bI (by omega) (by omega)]
    refine zW ?_
    rcases a2 with a2 | ⟨_,a2⟩<;>omega
  have hlen1:=hI'.lenB
  have hlen2:=hU.1.1
  have hlen3:=hI.lenB
  obtain ⟨⟨as,ls⟩,⟨dn,co⟩,⟨cap,res,us⟩,now,dead,fly,flows,box,drop⟩:=w
  obtain ⟨⟨as1,ls1⟩,⟨dn1,co1⟩,⟨cap1,res1,us1⟩,now1,dead1,fly1,flows1,box1,drop1⟩:=x
  obtain ⟨kd,en,data,to,ing,k1,k2,k3,k4,k5,k6,k7,k8,k9,k10⟩:=e
  simp only [nT,nK,nG,aN,aJ,aR,aB,aU,dW] at hstep hlen1 hlen2 hlen3 hsm e2 e3
  have hne:((flows1.length:Int) != (flows.length:Int))=false:=by rw [hlen2];exact bne_self_eq_false _
  simp only [aN7,nT,nK,nG,aN,aJ,aR,aB,aU,dW,aH,hx,aA,aV,bK,bA,aZ,bD,zX (show (i:Int)<(l.length:Int) by omega),zZ,e2,aXm,e3,Bool.not_true,zY,hne]
  rw [bG5 (n:=flows1.length) (r:= .inl ()) hsm]
  ·show some (Sum.inl (wr ((i:Int)+1),_))=_
   rw [bN (by omega)]
  ·intro j hj
   obtain ⟨f,f',b,b',g1,g2,g3,g4,g5,g6,g7,g8⟩:=hstep j hj
   have d1: ∀ q:Decidable ((j:Int)<(flows1.length:Int)),@decide _ q=true:=fun q=>zX (by omega)
   have d2: ∀ q:Decidable ((j:Int)<(flows.length:Int)),@decide _ q=true:=fun q=>zX (by omega)
   have d3: ∀ q:Decidable ((j:Int)<(box1.length:Int)),@decide _ q=true:=fun q=>zX (by omega)
   have d4: ∀ q:Decidable ((j:Int)<(box.length:Int)),@decide _ q=true:=fun q=>zX (by omega)
   have d5:decide ((0:Int)<=(j:Int))=true:=zX (by omega)
   simp only [d1,d2,d3,d4,d5,zZ,Int.toNat_natCast,g1,g2,g3,g4,aA,aM,g5,g6,g7,g8,Bool.not_true,zY]
   rw [bN (by omega)]
  ·simp only [zW (Int.lt_irrefl _),zY]
 ·intro c w
  simp only [zW (Int.lt_irrefl _),zY]
 ·rfl
end Go.Proofs.YtecighmpdcffcaaGreat.fnOrder
