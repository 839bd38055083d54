/-
  The plain part of: Law FnEvents: for every code an event that is rejected changes nothing, and all are as the reference says. Conditions: none.
-/
import Derived.Test.YtcppmcbkokgfcaaGreatQ2FnEvents
set_option linter.unusedVariables false
set_option linter.unusedSimpArgs false
set_option maxRecDepth 100000
namespace Go.Proofs.YtcppmcbkokgfcaaGreat.fnEvents
open Go.Ab Go.V
theorem law (code:den (.sl tb)) (w0:Wf (.sl tb) code):l_FnEvents code=some true:=by
 by_cases hbig:(code.length:Int)>1048576
 .unfold l_FnEvents aJt aL aU aV bV eC fZ nA pX sU tH wR aAa aBo aBr aAb aJ5 aN6 aM9 zz4 zz5 zz6 zz7 zz8 zz9
  rw [zX hbig];rfl
 have hl:code.length<=1048576:=by omega
 obtain ⟨w,e,e1,hw,he⟩:=aX8 hl
 obtain ⟨v,k,e2,hv,hk⟩:=aZe hl
 obtain ⟨c,e3,hc⟩:=bCp hl
 obtain ⟨n,e4,y,e5,e6⟩:=bB6 hl
 have A1:=bY7 hw he
 have A2:=bZq hw he
 obtain ⟨_,hh,hd⟩:=bC2 (e:=e) hw
 have ht:=bGd hw he
 have A3:nU (oH w e).2 (oH w e).2=some true:=aR0 (by omega)
 have A4:= @bM8 w e
 have A5:nU w w=some true:=aR0 (by have :=hw.tot;omega)
 have sv:SmB 68719476736 tNw v:=(bC hv).mono (by decide)
 have se:SmB 68719476736 dC ((7:Int),(0:Int),[],(0,0,k)):=⟨trivial,trivial,⟨by simp,fun x hx=>trivial⟩,trivial,trivial,(bC hk).mono (by decide)⟩
 have H1:=bZv sv se
 have H2:=bJz sv se
 have tc:=hc.tot
 have C1:=bS4 (w:=c) (by omega)
 have C2:=cBm (w:=c) (by omega)
 have C3:oO (aRh c) (aRh c)=some true:=aXr (by
  have hcf:=hc.flows
  have hcf:c.2.2.2.2.2.2.1.length<=4:=hcf
  unfold aRh
  simp only [List.length_append,List.length_map,List.length_cons,List.length_nil]
  omega)
 have T1:oP (nT (oH w e).2) (nT w)=some true:=by rw [hh.top];exact aW4 (by have :=hw.as;omega) (by have :=hw.links;omega)
 have T2:mV (nK (oH w e).2) (nK w)=some true:=by rw [hh.book];exact bLo hw.find.db
 have T3:=hh.flows
 have T4:=hh.now
 clear hh ht hw he hc sv se
 generalize oH w e=r at *
 obtain ⟨b,x⟩:=r
 generalize aRh c=cs at *
 obtain ⟨⟨as,ls⟩,⟨dn,co⟩,⟨cap,res,us⟩,now,dead,fly,flows,box,drop⟩:=w
 obtain ⟨⟨as1,ls1⟩,⟨dn1,co1⟩,⟨cap1,res1,us1⟩,now1,dead1,fly1,flows1,box1,drop1⟩:=x
 obtain ⟨⟨as2,ls2⟩,⟨dn2,co2⟩,⟨cap2,res2,us2⟩,now2,dead2,fly2,flows2,box2,drop2⟩:=v
 obtain ⟨⟨as3,ls3⟩,⟨dn3,co3⟩,⟨cap3,res3,us3⟩,now3,dead3,fly3,flows3,box3,drop3⟩:=c
 obtain ⟨kd,en,data,to,ing,k1,k2,k3,k4,k5,k6,k7,k8,k9,k10⟩:=e
 obtain ⟨f1,f2,f3,f4,f5,f6,f7,f8,f9,f10⟩:=k
 simp only [nT,nK,nG,aN,aK,aR,aD,bH,cO] at T1 T2 T3 T4 hd
 unfold l_FnEvents aJt aL aU aV bV eC fZ nA pX sU tH wR aAa aBo aBr aAb aJ5 aN6 aM9 zz4 zz5 zz6 zz7 zz8 zz9
 simp only [e1,e2,e3,e4,aA,zW hbig,zY,zZ,apE,bUr,cAa,nT,nK,nG,aN,aK,aR,aD,bH,cO,A1,A2,bAh,bTr,A3,Bool.not_true,beq_self_eq_true,H1,H2,C1,C2,C3,e5,e6]
 cases b with
 | false=>
  have :=A4 rfl
  simp only [Prod.mk.injEq] at this
  obtain ⟨⟨rfl,rfl⟩,⟨rfl,rfl⟩,⟨rfl,rfl,rfl⟩,rfl,rfl,rfl,rfl,rfl,rfl⟩:=this
  simp only [Bool.not_false,zZ,A5,aA]
 | true=>
  simp only [Bool.not_true,zY,zX (show drop1>=drop from hd),zX (show now1>=now from T4),zZ,T1,T2,T3,aA,beq_self_eq_true]
end Go.Proofs.YtcppmcbkokgfcaaGreat.fnEvents
