/-
  The plain part of: Law FnWorlds: for every code new networks and networks with a flow added are the reference's, and valid; networks are compared exactly. Conditions: none.
-/
import Derived.Test.YtnkjolpkcmgcaaaGreatQ2FnWorlds
open Nat renaming le_trans->cCc
set_option linter.unusedVariables false
set_option linter.unusedSimpArgs false
set_option maxRecDepth 100000
namespace Go.Proofs.YtnkjolpkcmgcaaaGreat.fnWorlds
open Go.Ab Go.V
theorem law(code:den (.sl tb))(w0:Wf (.sl tb) code):l_FnWorlds code=some true:=by
 by_cases hbig:(code.length:Int)>1048576
 .unfold l_FnWorlds aHp pj2 aU bG bC cU kH mI sV vA yR aCs aGc aKc aO0 aOs aJr bG6 zz4 zz5 zz6 zz7 zz8 zz9
  rw[zX hbig];rfl
 have hl:code.length<=1048576:=by omega
 obtain⟨as,ls,k,now,d,cc,e1,l1,l2,hd,hcc⟩:=bHu hl
 obtain⟨W,n1,n2,hWt,hWv⟩:=bE3 l1 l2 hd hcc k now
 obtain⟨v,f,e4,hv,hf,ha,hb⟩:=bF2 hl
 obtain⟨X,ok,a1,a2,hXt,hXv,hX0,hX1⟩:=bK2 hv hf ha hb
 obtain⟨u,e7,hu⟩:=bF4 hl
 obtain⟨v8,l8,z,e8,hv8,hr8,hn8⟩:=bHv hl
 obtain⟨a,b,e9,⟨ha9,hb9⟩,ta,tb⟩:=bHj hl
 obtain⟨ve,s1,s2⟩:=bTu ha9 hb9 ta tb
 have sW:=aJv (cCc hWt (by decide))
 have sX:=aJv (cCc hXt (by decide))
 have tv:=hv.tot (by decide)
 have sv:=aJv (cCc tv (by decide))
 have u1:=aQ7 (cCc hu (by decide))
 have u2:=bX8 (cCc hu (by decide))
 have hz:=hr8.runV hv8 (by omega)
 have z1:=aQ7 (cCc (show tot tNw z<=300000 from cCc hz.run.keep.tot (by omega)) (by decide))
 rw[hz.valid (by omega) hv8.top.top]at z1
 have x1:=aQ7 (cCc hXt (by decide))
 rw[hXv]at x1
 have w1:=aQ7 (cCc hWt (by decide))
 have lv:(aD v).length<=3:=hv.len
 unfold l_FnWorlds aHp pj2 aU bG bC cU kH mI sV vA yR aCs aGc aKc aO0 aOs aJr bG6 zz4 zz5 zz6 zz7 zz8 zz9
 rw[zW hbig]
 simp only[zY,aA,e1,n1,n2,e4,bRr,bQh,aOy,bPx,bRy,nT,nK,nG,aL,aK,aQ,aD,aW,cW,aN,a1,a2,e7,e8,e9,sW,sX,u1,u2,s1,s2,z1,x1,beq_self_eq_true,Bool.not_true]
 have key:(cond (!ok) (cond ok (some true) (Option.bind (dN X v) λy20=>some y20)) (cond ((X.2.2.2.2.2.2.1.length:Int)==wr ((v.2.2.2.2.2.2.1.length:Int)+1)) (cond ok (some true) (Option.bind (dN X v) λy20=>some y20)) (some false)))=some true:=by
  cases ok with
  | false=>
   rw[hX0 rfl,sv]
   rfl
  | true=>
   have e:=hX1 rfl
   have e:X.2.2.2.2.2.2.1.length=v.2.2.2.2.2.2.1.length+1:=e
   have hlv:v.2.2.2.2.2.2.1.length<=3:=lv
   have hw:wr ((v.2.2.2.2.2.2.1.length:Int)+1)=((v.2.2.2.2.2.2.1.length+1:Nat):Int):=by rw[bK (by omega)]
   simp only[e,hw,beq_self_eq_true,zZ,Bool.not_true,zY]
 simp only[zZ,key]
 cases hz0:((W.1.1.length:Int)==0) with
 | true=>rfl
 | false=>
  rw[hWv hz0]at w1
  simp only[zY,zZ,w1,aA]
end Go.Proofs.YtnkjolpkcmgcaaaGreat.fnWorlds
