/-
  The plain part of: Law FnArrives: for every code a packet that arrives is forwarded, handed over or counted as dropped, and the program answers as the reference. Conditions: none.
-/
import Derived.Test.YtecighmpdcffcaaGreatQ2FnArrives
open Nat renaming le_trans→bT7
set_option linter.unusedVariables false
set_option linter.unusedSimpArgs false
set_option maxRecDepth 100000
namespace Go.Proofs.YtecighmpdcffcaaGreat.fnArrives
open Go.Ab Go.V
theorem law (code:den (.sl tb)) (w0:Wf (.sl tb) code):l_FnArrives code=some true:=by
 by_cases hbig:(code.length:Int)>1048576
 ·unfold l_FnArrives aEy ixb aI uZ aG aU bC cU iE kZ qL xR yO yN aA4 aD3 aF0 aFq aC2 zz4 zz5 zz6 zz7 zz8 zz9
  rw [zX hbig];rfl
 have hl:code.length<=1048576:=by omega
 obtain ⟨w,r,inn,k,e1,hw,hk,hb⟩:=bCg hl
 obtain ⟨q,e4,hq,_⟩:=bA2 hl
 obtain ⟨m,r5,now5,d5,as5,ls5,e5,hm,_⟩:=bBd hl
 have ht:=hw.tot
 have hf4:=hw.flows
 have hg:=aJ1 w r inn k
 have i1:=bN8 (r:=r) (inn:=inn) (bT7 ht (by decide)) (bT7 hk (by decide)) hb
 have s1:=bN2 (r:=r) (inn:=inn) (bT7 ht (by decide)) (bT7 hk (by decide)) hb
 have hself:oG (bX w r inn k) (bX w r inn k)=some true:=bAu (by omega)
 have sq:SmB 68719476736 tPk q:=(bF hq).mono (by decide)
 have i2:=aL6 sq
 have s2:=aLn sq
 obtain ⟨v3,e3,g3⟩:Cmp (kT q) (kT q) (kC (kT q) (kT q)):=by
  have h1:=xU q
  have h2:tot tPt q.2.2.2.1<=1100:=by have :=aGh q;omega
  have h3:=bF (t:=tPt) (x:=kT q) (B:=1100) (by omega)
  exact aLv (bT7 h3.1 (by decide)) fun x hx=>bT7 (h3.2 x hx).2.2.2.1 (by decide)
 have g3:=g3 rfl
 subst g3
 have i3:=aYs (t:=(as5,ls5)) (r:=r5) (now:=now5) (d:=d5) (p:=m) (bT7 hm (by decide))
 have s3:=aXm (t:=(as5,ls5)) (r:=r5) (now:=now5) (d:=d5) (p:=m) (bT7 hm (by decide))
 obtain ⟨v6,e6,g6⟩:Cmp (bQ r5 now5 d5 m) (bQ r5 now5 d5 m) (gI (bQ r5 now5 d5 m) (bQ r5 now5 d5 m)):=
  aPp ((bF (B:=1118) (by have :=aJm r5 now5 d5 m;omega)).mono (by decide))
 have g6:=g6 rfl
 subst g6
 have has:=hw.as
 have hls:=hw.links
 have hdl:=hw.dead
 have f1:=aQb (t:=nT w) (dead:=aJ w) (r:=r) (by omega) (by omega)
 have hpt:tot tPt k.2.2.2.1<=1073741824:=by have :=aGh k;omega
 have f2:=bCy (t:=nT w) (r:=r) (now:=aM w) (dead:=oE (nT w) (aJ w) r) (inn:=inn) (p:=k) (by omega) (by omega) (by omega) hpt
 have f3:=fun d=>aLr (t:=nT w) (r:=r) (d:=d) (by omega)
 have z0:= @bJ2 w r inn k
 have z1:= @bJz w r inn k
 have hnow:aM (bX w r inn k)=aM w:=(cJ.proc w r inn k).now
 have hdead:=aHt w r inn k
 have hfly:=bDt w r inn k
 have hfl:=hw.fly
 have hgate:jZ (nG w) (nG w)=some true:=by
  have h5:=eT w
  have h6:=eU (t:=tRs) (nG w).2.1
  have h7:=eU (t:=tUs) (nG w).2.2
  exact aRv (by omega) (by omega)
 have hints:lL (aJ w) (aJ w)=some true:=aQ0 (by omega)
 have hpk:gI (bL (nT w) (aM w) (aJ w) r inn k).2.2.1 (bL (nT w) (aM w) (aJ w) r inn k).2.2.1=some true:=by
  obtain ⟨i,j,b,eg⟩:=aHg (nT w) r (aM w) (oE (nT w) (aJ w) r) inn k
  obtain ⟨v,e,g⟩:=aPp (a:=(bL (nT w) (aM w) (aJ w) r inn k).2.2.1) (b:=(bL (nT w) (aM w) (aJ w) r inn k).2.2.1) ((bF (B:=303000) (by unfold bL;rw [eg];exact hk)).mono (by decide))
  rw [e,g rfl]
 rw [show fwd (nT w) r (aM w) (oE (nT w) (aJ w) r) inn k=bL (nT w) (aM w) (aJ w) r inn k from rfl] at f2
 generalize bL (nT w) (aM w) (aJ w) r inn k=v at *
 unfold aOh at hfly
 clear hg hw ht hf4
 generalize bX w r inn k=x at *
 obtain ⟨⟨as,ls⟩,⟨dn,co⟩,⟨cap,res,us⟩,now,dead,fly,flows,box,drop⟩:=w
 obtain ⟨⟨as1,ls1⟩,⟨dn1,co1⟩,⟨cap1,res1,us1⟩,now1,dead1,fly1,flows1,box1,drop1⟩:=x
 obtain ⟨vc,ve,⟨u1,u2,u3,u4,u5,u6,u7,u8,u9,u10⟩,vd⟩:=v
 obtain ⟨k1,k2,k3,k4,k5,k6,k7,k8,k9,k10⟩:=k
 simp only [nT,nK,nG,aM,aJ,aN,aD,bG,dB,kI,bRz] at i1 s1 f1 f2 f3 z0 z1 hnow hdead hfly hfl hgate hints hpk
 subst hnow hdead
 unfold l_FnArrives aEy ixb aI uZ aG aU bC cU iE kZ qL xR yO yN aA4 aD3 aF0 aFq aC2 zz4 zz5 zz6 zz7 zz8 zz9
 simp only [e1,ppR,aA,zW hbig,zY,nT,nK,nG,aM,aJ,aN,aD,bG,dB,i1,s1,hself,e4,i2,s2,e3,e5,i3,s3,pkR,aO,e6,Bool.not_true,aP,bD,aW,aV,aX,f1,f2,f3]
 have hn1:wr ((fly.length:Int)+1)=((fly.length+1:Nat):Int):=by rw [bK (by omega) (by omega)];omega
 cases hc:vc==(0:Int) with
 | true=>
  have hv:vc=0:=beq_iff_eq.1 hc
  rcases z0 hc with ⟨ef,ed⟩ | ef
  ·subst ef ed
   have hl1:((fly++[((remote (as,ls) r ve).1,(remote (as,ls) r ve).2,(u1,u2,u3,u4,u5,u6,u7,u8,u9,u10))]:lFy).length:Int)=((fly.length+1:Nat):Int):=by simp
   have hw1:wr (((fly.length+1:Nat):Int) - 1)=(fly.length:Int):=by rw [bK (by omega) (by omega)];omega
   have hne:(((fly.length+1:Nat):Int) != (fly.length:Int))=true:=by rw [bne_iff_ne];omega
   have hx:(fly++[((remote (as,ls) r ve).1,(remote (as,ls) r ve).2,(u1,u2,u3,u4,u5,u6,u7,u8,u9,u10))]:lFy)[fly.length]? =some ((remote (as,ls) r ve).1,(remote (as,ls) r ve).2,(u1,u2,u3,u4,u5,u6,u7,u8,u9,u10)):=by simp
   simp only [zZ,hl1,hne,aA,hw1,zX (show (0:Int)<=(fly.length:Int) by omega),zX (show (fly.length:Int)<((fly.length+1:Nat):Int) by omega),Int.toNat_natCast,hx,beq_self_eq_true,hpk,hn1]
  ·subst ef
   subst hv
   simp only [zZ,bne_self_eq_false,aA,zY,show decide ((0:Int)>=2)=false from rfl,beq_self_eq_true,hints,hn1,zX (show (fly1.length:Int)<=((fly1.length+1:Nat):Int) by omega)]
 | false=>
  simp only [zY,aA]
  by_cases h2:vc>=2
  ·by_cases h6:vc<=6
   ·have e:=z1 h2 h6
    simp only [vW,nT,nK,nG,aM,aJ,aN,aD,bG,dB,Prod.mk.injEq] at e
    obtain ⟨⟨e1,e2⟩,⟨e3,e4⟩,⟨e5,e6,e7⟩,_,_,e8,e9,e10,e11⟩:=e
    subst e5 e6 e7 e8 e11
    simp only [zX h2,zX h6,zZ,aA,beq_self_eq_true,hgate]
   ·simp only [zX h2,zW h6,zZ,zY,aA,beq_self_eq_true,hints,hn1,zX (show (fly1.length:Int)<=((fly.length+1:Nat):Int) by omega)]
  ·simp only [zW h2,zZ,zY,aA,beq_self_eq_true,hints,hn1,zX (show (fly1.length:Int)<=((fly.length+1:Nat):Int) by omega)]
end Go.Proofs.YtecighmpdcffcaaGreat.fnArrives
