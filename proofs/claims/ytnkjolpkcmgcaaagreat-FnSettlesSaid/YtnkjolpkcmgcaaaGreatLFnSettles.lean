/-
  The plain part of: Law FnSettles: for every code each flow with a path that works both ways has all its messages received and acknowledged within the stated rounds. Conditions: none.
-/
import Derived.Test.YtnkjolpkcmgcaaaGreatQ2FnSettles
open Nat renaming le_trans->cEv
open List renaming getElem?_eq_getElem->cEx
set_option linter.unusedVariables false
set_option linter.unusedSimpArgs false
set_option maxRecDepth 100000
namespace Go.Proofs.YtnkjolpkcmgcaaaGreat.fnSettles
open Go.Ab Go.V
theorem law(code:den (.sl tb))(w0:Wf (.sl tb) code):l_FnSettles code=some true:=by
 by_cases hbig:(code.length:Int)>1048576
 .unfold l_FnSettles aIp ixb pj9 aO bC bK zz4 zz5 zz6 zz7 zz8 zz9
  rw[zX hbig];rfl
 have hl:code.length<=1048576:=by omega
 obtain⟨v,l,w,e1,hv,hr,hn⟩:=bGm hl
 obtain⟨a,e4,ha⟩:=bDl hl
 have hR:=(hr.runV hv (by omega)).round
 have hC:=hr.calm hv
 have ta:=ha.tot
 have tw:=hR.run.keep.tot
 obtain⟨N,hS⟩:=bGj hR hC (by omega) (by omega) hv.top.top
 have hN:=hS.few
 have S1:=cAl (w:=w) (by omega) hR.run.keep.bytes
 rw[hS.run]at S1
 have S2:=aQi (w:=w) (cEv (cEv (dP (t:=tFl) _) (tT (aQ (aQ (aQ (aQ (aQ (aQ (show tot tNw w<=1048576 by omega))))))))) (by decide))
 rw[hS.cnt]at S2
 have A1:=bYc (w:=a) (by omega)
 have A2:=bXp (w:=a) (by omega)
 have tx:=hS.rnd.run.keep.tot
 have tN:N * 328656<=174 * 328656:=Nat.mul_le_mul_right _ hN
 have V1:=bLb (w:=bZ N w) (by omega)
 rw[hS.rnd.valid (by omega) hv.top.top]at V1
 have hlo:=hR.run.lo
 have hhi:=hR.run.hi
 have hnow:aI (bZ N w)=wr (aI w+(N:Int)):=by rw[hS.now,bJ (by omega) (by omega)]
 have hfl:(aB w).length<=1000000:=cEv hC.few (by decide)
 have hstep:∀j:Nat,j<(aB w).length-> ∃f g b,(aB w)[j]? =some f/\(aB (bZ N w))[j]? =some g/\(aS (bZ N w))[j]? =some b/\iF w f=some (yA w f)/\(decide (yA w f>=0)=true->(g.2.2.2.1 != (g.2.2.2.2.1.length:Int))=false/\((b.2.2.2.length:Int) != (g.2.2.2.2.1.length:Int))=false):=λj hj=>by
  have j1:j<(aB (bZ N w)).length:=by rw[hS.len];exact hj
  have j2:j<(aS (bZ N w)).length:=by rw[hS.rnd.inv.lenB];exact j1
  have g1:=cEx hj
  refine⟨_,_,_,g1,cEx j1,cEx j2,bXw (by omega) g1,λhw=> ?_⟩
  obtain⟨f,q1,q2,_⟩:=hS.go j _ g1 (of_decide_eq_true hw)
  obtain⟨b,b1,b2⟩:=bSd hS.rnd.inv q1 q2
  rw[cEx j1]at q1
  injection q1 with q1
  rw[cEx j2]at b1
  injection b1 with b1
  rw[q1,b1]
  have q2:f.2.2.2.1=(f.2.2.2.2.1.length:Int):=q2
  rw[q2,b2]
  exact⟨bne_self_eq_false _,bne_self_eq_false _⟩
 have hl1:=hS.len
 have hl2:=hS.rnd.inv.lenB
 clear hS hR hC hr ha
 generalize bZ N w=x at *
 obtain⟨⟨as,ls⟩,⟨dn,co⟩,⟨cap,res,us⟩,now,dead,fly,flows,box,drop⟩:=w
 obtain⟨⟨as1,ls1⟩,⟨dn1,co1⟩,⟨cap1,res1,us1⟩,now1,dead1,fly1,flows1,box1,drop1⟩:=x
 obtain⟨⟨as2,ls2⟩,⟨dn2,co2⟩,⟨cap2,res2,us2⟩,now2,dead2,fly2,flows2,box2,drop2⟩:=a
 simp only[nT,nK,nG,aI,aJ,aH,aB,aS,dN]at hstep hl1 hl2 hnow hfl
 unfold l_FnSettles aIp ixb pj9 aO bC bK zz4 zz5 zz6 zz7 zz8 zz9
 simp only[e1,e4,aA,zW hbig,zY,zZ,bRx,nT,nK,nG,aI,aJ,aH,aB,aS,dN,S1,S2,A1,A2,aNq,V1,beq_self_eq_true,Bool.not_true]
 rw[bO9 (n:=flows.length) (r:= .inl ()) (by omega)]
 .simp only[Sum.elim_inl,hnow,beq_self_eq_true]
 .intro j hj
  obtain⟨f,g,b,g1,g2,g3,g4,g5⟩:=hstep j hj
  have d1:∀q:Decidable ((j:Int)<(flows1.length:Int)),@decide _ q=true:=λq=>zX (by omega)
  have d2:∀q:Decidable ((j:Int)<(flows.length:Int)),@decide _ q=true:=λq=>zX (by omega)
  have d3:∀q:Decidable ((j:Int)<(box1.length:Int)),@decide _ q=true:=λq=>zX (by omega)
  have d5:decide ((0:Int)<=(j:Int))=true:=zX (by omega)
  simp only[d1,d2,d3,d5,zZ,Int.toNat_natCast,g1,g2,g3,aA,aP,g4]
  cases hw:decide (yA ((as,ls),(dn,co),(cap,res,us),now,dead,fly,flows,box,drop) f>=0) with
  | false=>
   simp only[zY,aA]
   rw[eZ (by omega)]
  | true=>
   obtain⟨k1,k2⟩:=g5 hw
   simp only[zZ,k1,k2,zY,aA]
   rw[eZ (by omega)]
 .simp only[zW (Int.lt_irrefl _),zY]
end Go.Proofs.YtnkjolpkcmgcaaaGreat.fnSettles
