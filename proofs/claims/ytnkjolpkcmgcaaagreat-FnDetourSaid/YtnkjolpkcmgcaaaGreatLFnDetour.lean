/-
  The plain part of: Law FnDetour: for every code, with a failed link a flow with another path uses it, and one without waits and goes on after the repair. Conditions: none.
-/
import Derived.Test.YtnkjolpkcmgcaaaGreatQ2FnDetour
open Nat renaming mul_le_mul_right->cA4
open List renaming getElem?_eq_getElem->bZw
set_option linter.unusedVariables false
set_option linter.unusedSimpArgs false
set_option maxRecDepth 100000
namespace Go.Proofs.YtnkjolpkcmgcaaaGreat.fnDetour
open Go.Ab Go.V
theorem law(code:den (.sl tb))(w0:Wf (.sl tb) code):l_FnDetour code=some true:=by
 by_cases hbig:(code.length:Int)>1048576
 .unfold l_FnDetour aDp ixb bF pj9 bO bV cJ iH zz4 zz5 zz6 zz7 zz8 zz9
  rw[zX hbig];rfl
 have hl:code.length<=1048576:=by omega
 obtain⟨w,n,e1,hw,hn⟩:=bPq hl
 have hR:=(qX.runV hw).round
 have htv:=hw.top.top
 have hlk:=hw.top.links
 have tw:=hR.run.keep.tot
 have V0:=aO0 (w:=w) (by omega)
 rw[hR.valid (by omega) htv]at V0
 by_cases hz:(nT w).2.length=0
 .obtain⟨⟨as,ls⟩,⟨dn,co⟩,⟨cap,res,us⟩,now,dead,fly,flows,box,drop⟩:=w
  have hz:ls.length=0:=hz
  have hz':((ls.length:Int)==(0:Int))=true:=by rw[hz];rfl
  unfold l_FnDetour aDp ixb bF pj9 bO bV cJ iH zz4 zz5 zz6 zz7 zz8 zz9
  simp only[e1,aA,zW hbig,zY,zZ,aSi,nT,nK,nG,aG,aH,aE,aB,aQ,dX,hz',V0]
 have hm:=Int.emod_nonneg n (show (((nT w).2.length:Nat):Int)≠0 by omega)
 have hm2:=Int.emod_lt_of_pos n (show (0:Int)<(((nT w).2.length:Nat):Int) by omega)
 have hi:Int.tmod n (((nT w).2.length:Nat):Int)=n % (((nT w).2.length:Nat):Int):=Int.tmod_eq_emod_of_nonneg hn.1
 generalize n % (((nT w).2.length:Nat):Int)=i at hm hm2 hi
 have hC:=hw.calm
 have D1:=bQ2 w (.inl rfl) i
 have E1:=bI5 hR (by omega) (by omega) (by omega) htv hlk D1
 have RX:=hR.event (by omega) (by omega) hlk D1
 have CX:=hC.event (evL 5 i)
 have dx:doW w (evL 5 i)=(true,aV w i true):=by
  have :doW w (evL 5 i)=(!rT w i true,aV w i true):=rfl
  rw[this]
  have hb:rT w i true=false:=by
   unfold rT
   rw[hw.dead,show inR i 0 (((nT w).2.length:Int) - 1)=true from aS.2 ⟨by omega,by omega⟩]
   rfl
  rw[hb];rfl
 have hx:aV w i true=aDw w (uA (nT w).2.length (aH w) i true):=by
  unfold aV
  rw[show rT w i true=false by
   unfold rT
   rw[hw.dead,show inR i 0 (((nT w).2.length:Int) - 1)=true from aS.2 ⟨by omega,by omega⟩]
   rfl]
  rfl
 have ix:i∈aH (aV w i true):=by
  rw[hx]
  show i∈uA (nT w).2.length (aH w) i true
  unfold uA
  refine List.mem_filter.2 ⟨List.mem_map.2 ⟨i.toNat,List.mem_range.2 (by omega),by omega⟩,?_⟩
  rw[show (i==i)=true from beq_self_eq_true i]
  simp
 have fx:aB (aV w i true)=aB w:=by rw[hx];rfl
 have nx:aG (aV w i true)=aG w:=by rw[hx];rfl
 have lx:aE (aV w i true)=[]:=by rw[hx];exact hw.fly
 have tx0:nT (aV w i true)=nT w:=by rw[hx];rfl
 rw[dx]at E1 RX CX
 simp only at E1 RX CX
 obtain⟨N,SX⟩:=aRt RX CX (by omega) (by omega) htv
 have hN:=SX.few
 have tN:N * 328656<=174 * 328656:=cA4 _ hN
 have tN2:N * 4008<=174 * 4008:=cA4 _ hN
 have tx:=RX.run.keep.tot
 have S1:=bI8 (w:=aV w i true) (by omega) RX.run.keep.bytes
 rw[SX.run]at S1
 have D2:=bQ2 (aK N (aV w i true)) (.inr rfl) i
 have E2:=bI5 SX.rnd (by omega) (by omega) (by omega) htv hlk D2
 have RZ:=SX.rnd.event (by omega) (by omega) hlk D2
 have CZ:=SX.calm.event (evL 6 i)
 have dz:doW (aK N (aV w i true)) (evL 6 i)=(true,aV (aK N (aV w i true)) i false):=by
  have :doW (aK N (aV w i true)) (evL 6 i)=(!rT (aK N (aV w i true)) i false,aV (aK N (aV w i true)) i false):=rfl
  rw[this]
  have hb:rT (aK N (aV w i true)) i false=false:=by
   unfold rT
   rw[SX.dead,aEq.2 ix,SX.rnd.run.top,show inR i 0 (((nT w).2.length:Int) - 1)=true from aS.2 ⟨by omega,by omega⟩]
   rfl
  rw[hb];rfl
 have fz:aB (aV (aK N (aV w i true)) i false)=aB (aK N (aV w i true)):=bAz _ _ _
 rw[dz]at E2 RZ CZ
 simp only at E2 RZ CZ
 obtain⟨M,SZ⟩:=aRt RZ CZ (by omega) (by omega) htv
 have hM:=SZ.few
 have tM:M * 328656<=174 * 328656:=cA4 _ hM
 have tM2:M * 4008<=174 * 4008:=cA4 _ hM
 have tz:=RZ.run.keep.tot
 have S2:=bI8 (w:=aV (aK N (aV w i true)) i false) (by omega) RZ.run.keep.bytes
 rw[SZ.run]at S2
 have tv:=SZ.rnd.run.keep.tot
 have V1:=aO0 (w:=aK M (aV (aK N (aV w i true)) i false)) (by omega)
 rw[SZ.rnd.valid (by omega) htv]at V1
 have hfl:(aB w).length<=1000000:=Nat.le_trans hC.few (by decide)
 have hl1:(aB (aV w i true)).length=(aB w).length:=by rw[fx]
 have hl2:=SX.len
 have hl3:(aB (aV (aK N (aV w i true)) i false)).length=(aB (aK N (aV w i true))).length:=by rw[fz]
 have hl4:=SZ.len
 have hstep:∀j:Nat,j<(aB w).length-> ∃f g h,(aB w)[j]? =some f/\(aB (aV w i true))[j]? =some f/\(aB (aK N (aV w i true)))[j]? =some g/\(aB (aV (aK N (aV w i true)) i false))[j]? =some g/\(aB (aK M (aV (aK N (aV w i true)) i false)))[j]? =some h/\
   fJ (aV w i true) f=some (pH (aV w i true) f)/\fJ (aV (aK N (aV w i true)) i false) g=some (pH (aV (aK N (aV w i true)) i false) g)/\
   (decide (pH (aV w i true) f>=0)=true->(g.2.2.2.1 != (g.2.2.2.2.1.length:Int))=false)/\(decide (pH (aV (aK N (aV w i true)) i false) g>=0)=true->(h.2.2.2.1 != (h.2.2.2.2.1.length:Int))=false)/\(decide (pH (aV w i true) f<0)=true->(g.2.2.2.1 != (0:Int))=false):=λj hj=>by
  have g1:=bZw hj
  have g1':(aB (aV w i true))[j]? =some (aB w)[j]:=by rw[fx];exact g1
  have j2:j<(aB (aK N (aV w i true))).length:=by omega
  have g2:=bZw j2
  have g2':(aB (aV (aK N (aV w i true)) i false))[j]? =some (aB (aK N (aV w i true)))[j]:=by rw[fz];exact g2
  have j3:j<(aB (aK M (aV (aK N (aV w i true)) i false))).length:=by omega
  have g3:=bZw j3
  have hfm:=List.getElem_mem hj
  have hack:=(hw.flows _ hfm).ack
  have hpaths:=hw.paths _ hfm
  refine⟨_,_,_,g1,g1',g2,g2',g3,bCc (by omega) g1',bCc (by omega) g2',λc=> ?_,λc=> ?_,λc=> ?_⟩
  .obtain⟨f,q1,q2,_⟩:=SX.go j _ g1' (of_decide_eq_true c)
   rw[g2]at q1
   injection q1 with q1
   rw[q1]
   have q2:f.2.2.2.1=(f.2.2.2.2.1.length:Int):=q2
   rw[q2]
   exact bne_self_eq_false _
  .obtain⟨f,q1,q2,_⟩:=SZ.go j _ g2' (of_decide_eq_true c)
   rw[g3]at q1
   injection q1 with q1
   rw[q1]
   have q2:f.2.2.2.1=(f.2.2.2.2.1.length:Int):=q2
   rw[q2]
   exact bne_self_eq_false _
  .have c:=of_decide_eq_true c
   have hnow:=hw.now
   have hlater:=SX.later
   rcases aP5 (aV w i true) (aB w)[j] with ⟨c0,_⟩ | ⟨_,hno⟩
   .exact absurd c (Int.not_lt.2 c0)
   .have hnoW:∀τ:Int,aG (aV w i true)<=τ->τ<=aG (aV w i true)+1000-> ∀q∈(aB w)[j].2.2.2.2.2.1,¬ aB0 (nT w) τ (aH (aV w i true)) q:=fun τ t1 t2 q hq=>by
     obtain⟨p1,_,_,_,p5⟩:=hpaths q hq
     have :=bSy (w:=aV w i true) p1 p5 (by constructor<;>omega) (by constructor<;>omega) (hno q hq) (τ:=τ) (by constructor<;>omega)
     rw[tx0]at this
     exact this
    obtain⟨g,q1,q2⟩:=bBl RX CX lx g1' hnoW N (by omega) (by omega)
    rw[g2]at q1
    injection q1 with q1
    have q2:g.2.2.2.1=(aB w)[j].2.2.2.1:=q2
    rw[q1,q2,hack]
    rfl
 clear SX SZ RX RZ CX CZ hR hw hC ix fx fz lx nx tx0 hx dx dz D1 D2
 generalize aV (aK N (aV w i true)) i false=z at *
 generalize aK M z=v at *
 generalize aK N (aV w i true)=y at *
 generalize aV w i true=x at *
 obtain⟨⟨as,ls⟩,⟨dn,co⟩,⟨cap,res,us⟩,now,dead,fly,flows,box,drop⟩:=w
 obtain⟨⟨as1,ls1⟩,⟨dn1,co1⟩,⟨cap1,res1,us1⟩,now1,dead1,fly1,flows1,box1,drop1⟩:=x
 obtain⟨⟨as2,ls2⟩,⟨dn2,co2⟩,⟨cap2,res2,us2⟩,now2,dead2,fly2,flows2,box2,drop2⟩:=y
 obtain⟨⟨as3,ls3⟩,⟨dn3,co3⟩,⟨cap3,res3,us3⟩,now3,dead3,fly3,flows3,box3,drop3⟩:=z
 obtain⟨⟨as4,ls4⟩,⟨dn4,co4⟩,⟨cap4,res4,us4⟩,now4,dead4,fly4,flows4,box4,drop4⟩:=v
 simp only[nT,nK,nG,aG,aH,aE,aB,aQ,dX]at hstep hl1 hl2 hl3 hl4 hfl hz hi
 have hz':((ls.length:Int)==(0:Int))=false:=by rw[beq_eq_false_iff_ne];omega
 unfold evL at E1 E2
 unfold l_FnDetour aDp ixb bF pj9 bO bV cJ iH zz4 zz5 zz6 zz7 zz8 zz9
 simp only[e1,aA,zW hbig,zY,zZ,aSi,nT,nK,nG,aG,aH,aE,aB,aQ,dX,hz',hi,bU,dH,cL,cK,cS,E1,E2,aXp,S1,S2,aIw]
 rw[bL2 (n:=flows.length) (r:= .inl ()) (by omega)]
 .simp only[Sum.elim_inl,V1,aA]
 .intro j hj
  obtain⟨f,g,h,g1,g2,g3,g4,g5,g6,g7,g8,g9,ga⟩:=hstep j hj
  have d1:∀q:Decidable ((j:Int)<(flows1.length:Int)),@decide _ q=true:=λq=>zX (by omega)
  have d2:∀q:Decidable ((j:Int)<(flows.length:Int)),@decide _ q=true:=λq=>zX (by omega)
  have d3:∀q:Decidable ((j:Int)<(flows2.length:Int)),@decide _ q=true:=λq=>zX (by omega)
  have d4:∀q:Decidable ((j:Int)<(flows3.length:Int)),@decide _ q=true:=λq=>zX (by omega)
  have d6:∀q:Decidable ((j:Int)<(flows4.length:Int)),@decide _ q=true:=λq=>zX (by omega)
  have d5:decide ((0:Int)<=(j:Int))=true:=zX (by omega)
  have k1:Option.bind (cond (decide (pH ((as1,ls1),(dn1,co1),(cap1,res1,us1),now1,dead1,fly1,flows1,box1,drop1) f>=0)) (some (g.2.2.2.1 != (g.2.2.2.2.1.length:Int))) (some false)) some=some false:=by
   cases c:decide (pH ((as1,ls1),(dn1,co1),(cap1,res1,us1),now1,dead1,fly1,flows1,box1,drop1) f>=0) with
   | false=>rfl
   | true=>rw[g8 c];rfl
  have k1:cond (decide (pH ((as1,ls1),(dn1,co1),(cap1,res1,us1),now1,dead1,fly1,flows1,box1,drop1) f>=0)) (some (g.2.2.2.1 != (g.2.2.2.2.1.length:Int))) (some false)=some false:=by
   cases c:decide (pH ((as1,ls1),(dn1,co1),(cap1,res1,us1),now1,dead1,fly1,flows1,box1,drop1) f>=0) with
   | false=>rfl
   | true=>rw[g8 c];rfl
  have k2:cond (decide (pH ((as3,ls3),(dn3,co3),(cap3,res3,us3),now3,dead3,fly3,flows3,box3,drop3) g>=0)) (some (h.2.2.2.1 != (h.2.2.2.2.1.length:Int))) (some false)=some false:=by
   cases c:decide (pH ((as3,ls3),(dn3,co3),(cap3,res3,us3),now3,dead3,fly3,flows3,box3,drop3) g>=0) with
   | false=>rfl
   | true=>rw[g9 c];rfl
  have k3:cond (decide (pH ((as1,ls1),(dn1,co1),(cap1,res1,us1),now1,dead1,fly1,flows1,box1,drop1) f<0)) (cond (decide ((f.2.2.2.2.1.length:Int)>0)) (some (g.2.2.2.1 != (0:Int))) (some false)) (some false)=some false:=by
   cases c:decide (pH ((as1,ls1),(dn1,co1),(cap1,res1,us1),now1,dead1,fly1,flows1,box1,drop1) f<0) with
   | false=>rfl
   | true=>rw[ga c];cases decide ((f.2.2.2.2.1.length:Int)>0)<;>rfl
  simp only[d1,d2,d3,d4,d5,d6,zZ,Int.toNat_natCast,g1,g2,g3,g4,g5,g6,g7,aA,aZ,k1,k2,k3,zY]
  rw[gR (by omega)]
 .simp only[zW (Int.lt_irrefl _),zY]
end Go.Proofs.YtnkjolpkcmgcaaaGreat.fnDetour
