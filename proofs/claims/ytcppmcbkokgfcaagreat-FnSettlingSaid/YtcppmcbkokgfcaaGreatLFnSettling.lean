/-
  The plain part of: Law FnSettling: for every code rounds are as the reference says and one after the other, and end with nothing in flight. Conditions: none.
-/
import Derived.Test.YtcppmcbkokgfcaaGreatQ2FnSettling
open Nat renaming mul_le_mul_right->cCn,le_trans->cBf
set_option linter.unusedVariables false
set_option linter.unusedSimpArgs false
set_option maxRecDepth 100000
namespace Go.Proofs.YtcppmcbkokgfcaaGreat.fnSettling
open Go.Ab Go.V
theorem law (code:den (.sl tb)) (w0:Wf (.sl tb) code):l_FnSettling code=some true:=by
 by_cases hbig:(code.length:Int)>1048576
 .unfold l_FnSettling aH5 aG aI aR bR fJ mP tA xR yZ aBp aD6 aHa zz4 zz5 zz6 zz7 zz8 zz9
  rw [zX hbig];rfl
 have hl:code.length<=1048576:=by omega
 obtain ⟨w,n,e1,hw,hn⟩:=bPh hl
 obtain ⟨a,na,e2,ha⟩:=bBg hl
 obtain ⟨b,e3,hb⟩:=aZk hl
 obtain ⟨c,nc,e4,hc,hnc⟩:=aZj hl
 obtain ⟨d,f,e5,hd,hf⟩:=aXl hl
 obtain ⟨e,e6,he⟩:=bAf hl
 obtain ⟨g,e7,hg⟩:=aTv hl
 have ta:=ha.tot
 have tb':=hb.tot
 have tc:=hc.tot
 have tg:=hg.tot
 have A1:=bXz (w:=a) (n:=na) (by omega) ha.bytes
 have A2:=bXh (w:=a) (n:=na) (by omega) ha.bytes
 have A3:gO (sY a na) (sY a na)=some true:=aF2 (by
  unfold sY
  split
  .rename_i hc
   rw [Bool.and_eq_true,bM] at hc
   have h1:=(aIl na.toNat (F:=4) (B:=303000) (w:=a) ⟨ta,ha.flows,ha.bytes⟩).tot
   have :na.toNat * (160+4)<=2000 * (160+4):=cCn _ (by omega)
   omega
  .omega)
 have B1:=bKw (w:=b) (by omega) hb.bytes
 have B2:=bYn (w:=b) (by omega) hb.bytes
 have B3:gO (iR b 1) (iR b 1)=some true:=aF2 (cBf (hb.run_tot (.inl (by decide))) (by decide))
 have C1:=aRt (w:=c) (n:=nc) (by omega) hc.bytes
 have C2:=bLp (w:=c) (n:=nc) (by omega) hc.bytes
 have C3:gO (iR c nc) (iR c nc)=some true:=aF2 (cBf (hc.run_tot hnc) (by decide))
 have D1:=bU1 (w:=d) (f:=f) (bQd (cBf hd (by decide))) (cBf hf (by decide))
 have D2:=bSt (w:=d) (f:=f) (bQd (cBf hd (by decide))) (cBf hf (by decide))
 have E1:=bWy (w:=e) (by omega)
 have E2:=bVy (w:=e) (by omega)
 have hgl:g.2.2.2.2.2.2.1.length<=1048576:=cBf (dB (t:=tFl) _) (wP (aV (aV (aV (aV (aV (aV (show tot tNw g<=1048576 by omega))))))))
 have G1:=aXx (w:=g) (cBf hgl (by decide))
 have G2:=aXs (w:=g) (cBf hgl (by decide))
 have hR:=(yI.runV hw).round
 have h0:((n.toNat % 5:Nat):Int)=Int.tmod n 5:=by
  rw [Int.tmod_eq_emod_of_nonneg hn.1];omega
 have hi4:n.toNat % 5<=4:=by omega
 generalize n.toNat % 5=i at h0 hi4
 have hw1:wr ((i:Int)+1)=((i+1:Nat):Int):=bL (by omega)
 obtain ⟨q1,q2,q3⟩:=aLu hR hw.dead hw.fly i (by omega) (by omega)
 obtain ⟨r1,r2,r3⟩:=aLu hR hw.dead hw.fly (i+1) (by omega) (by omega)
 have v0:=hR.valid (by omega) hw.top.top
 have v1:=q1.valid (by omega) hw.top.top
 have t0:=hR.run.keep.tot
 have t1:=q1.run.keep.tot
 have t2:=r1.run.keep.tot
 have ti':i * 328656<=4 * 328656:=cCn _ hi4
 have ti2:(i+1) * 328656<=5 * 328656:=cCn _ (by omega)
 have x1:iR w (i:Int)=nD i w:=by
  unfold iR
  rw [v0,show inR (i:Int) 0 1000=true from bM.2 ⟨by omega,by omega⟩]
  rfl
 have x2:iR w ((i+1:Nat):Int)=nD (i+1) w:=by
  unfold iR
  rw [v0,show inR ((i+1:Nat):Int) 0 1000=true from bM.2 ⟨by omega,by omega⟩]
  rfl
 have x3:iR (nD i w) 1=nD (i+1) w:=by
  rw [bC3,v1,aGz];rfl
 have F1:=aRt (w:=w) (n:=((i+1:Nat):Int)) (by omega) hR.run.keep.bytes
 have F2:=aRt (w:=w) (n:=(i:Int)) (by omega) hR.run.keep.bytes
 have F3:=bKw (w:=nD i w) (by omega) q1.run.keep.bytes
 rw [x2] at F1
 rw [x1] at F2
 rw [x3] at F3
 have F4:gO (nD (i+1) w) (nD (i+1) w)=some true:=aF2 (by omega)
 generalize nD (i+1) w=x at *
 generalize nD i w=y at *
 clear q1 r1 v0 v1 hR hw ha hb hc hg x1 x2 x3 t0 t1 t2
 generalize sY a na=a' at *
 generalize iR b 1=b' at *
 generalize iR c nc=c' at *
 obtain ⟨⟨as,ls⟩,⟨dn,co⟩,⟨cap,res,us⟩,now,dead,fly,flows,box,drop⟩:=w
 obtain ⟨⟨as1,ls1⟩,⟨dn1,co1⟩,⟨cap1,res1,us1⟩,now1,dead1,fly1,flows1,box1,drop1⟩:=a
 obtain ⟨⟨as2,ls2⟩,⟨dn2,co2⟩,⟨cap2,res2,us2⟩,now2,dead2,fly2,flows2,box2,drop2⟩:=b
 obtain ⟨⟨as3,ls3⟩,⟨dn3,co3⟩,⟨cap3,res3,us3⟩,now3,dead3,fly3,flows3,box3,drop3⟩:=c
 obtain ⟨⟨as4,ls4⟩,⟨dn4,co4⟩,⟨cap4,res4,us4⟩,now4,dead4,fly4,flows4,box4,drop4⟩:=d
 obtain ⟨⟨as5,ls5⟩,⟨dn5,co5⟩,⟨cap5,res5,us5⟩,now5,dead5,fly5,flows5,box5,drop5⟩:=e
 obtain ⟨⟨as6,ls6⟩,⟨dn6,co6⟩,⟨cap6,res6,us6⟩,now6,dead6,fly6,flows6,box6,drop6⟩:=g
 obtain ⟨⟨as7,ls7⟩,⟨dn7,co7⟩,⟨cap7,res7,us7⟩,now7,dead7,fly7,flows7,box7,drop7⟩:=x
 obtain ⟨⟨as8,ls8⟩,⟨dn8,co8⟩,⟨cap8,res8,us8⟩,now8,dead8,fly8,flows8,box8,drop8⟩:=y
 obtain ⟨⟨as9,ls9⟩,⟨dn9,co9⟩,⟨cap9,res9,us9⟩,now9,dead9,fly9,flows9,box9,drop9⟩:=a'
 obtain ⟨⟨asA,lsA⟩,⟨dnA,coA⟩,⟨capA,resA,usA⟩,nowA,deadA,flyA,flowsA,boxA,dropA⟩:=b'
 obtain ⟨⟨asB,lsB⟩,⟨dnB,coB⟩,⟨capB,resB,usB⟩,nowB,deadB,flyB,flowsB,boxB,dropB⟩:=c'
 obtain ⟨f1,f2,f3,f4,f5,f6,f7,f8,f9⟩:=f
 have r3:fly7=[]:=r3
 subst r3
 unfold l_FnSettling aH5 aG aI aR bR fJ mP tA xR yZ aBp aD6 aHa zz4 zz5 zz6 zz7 zz8 zz9
 simp only [e1,e2,e3,e4,e5,e6,e7,aA,zW hbig,zY,zZ,bBv,netE,bGj,bWg,nT,nK,nG,aT,aO,aQ,aD,bJ,dQ,A1,A2,A3,B1,B2,B3,C1,C2,C3,D1,D2,E1,E2,G1,G2,eV,dI,Bool.not_true,bne_self_eq_false,beq_self_eq_true,<- h0,hw1,F1,F2,F3,F4]
 rfl
end Go.Proofs.YtcppmcbkokgfcaaGreat.fnSettling
