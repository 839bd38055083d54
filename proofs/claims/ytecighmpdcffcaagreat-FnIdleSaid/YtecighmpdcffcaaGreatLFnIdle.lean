/-
  The plain part of: Law FnIdle: for every code bytes that are no packet do nothing but be counted. Conditions: none.
-/
import Derived.Test.YtecighmpdcffcaaGreatQ2FnIdle
open Int renaming tmod→bW8,toNat_natCast→bWu
open Nat renaming zero_le→bW4
open List renaming not_mem_nil→bW9
set_option linter.unusedVariables false
set_option linter.unusedSimpArgs false
set_option maxRecDepth 100000
namespace Go.Proofs.YtecighmpdcffcaaGreat.fnIdle
open Go.Ab Go.V
theorem law (code:den (.sl tb)) (w0:Wf (.sl tb) code):l_FnIdle code=some true:=by
 by_cases hbig:(code.length:Int)>1048576
 ·unfold l_FnIdle aGm aT bK bO eH zz4 zz5 zz6 zz7 zz8 zz9
  rw [decide_eq_true hbig];rfl
 have hl:code.length<=1048576:=by omega
 obtain ⟨v,l,w,e1,hv,hr,hn⟩:=bAy hl
 have hrun:=hr.runV hv (by omega)
 have htv:=hv.top.top
 have hlk:=hv.top.links
 have htop:=hrun.run.top
 have ha:1<=(nT w).1.length∧(nT w).1.length<=8:=by rw [htop];exact ⟨hv.top.pos,hv.top.len⟩
 unfold l_FnIdle aGm aT bK bO eH zz4 zz5 zz6 zz7 zz8 zz9
 simp only [e1,aA,decide_eq_false hbig,cond_false,bSo]
 by_cases hfull:((aN w).length:Int)>=150
 ·rw [decide_eq_true hfull];rfl
 obtain ⟨c1,f1⟩:=aPh hl (i:=1) (by decide)
 obtain ⟨c2,f2⟩:=aPh hl (i:=2) (by decide)
 obtain ⟨c3,f3⟩:=aPh hl (i:=3) (by decide)
 obtain ⟨c4,f4,g4⟩:=bQx hl (i:=4) (by decide) (fun x hx=>w0.2 x hx)
 obtain ⟨c5,f5⟩:=aPh hl (i:=5) (by decide)
 have hz:(((nT w).1.length:Int)==0)=false:=by rw [beq_eq_false_iff_ne];omega
 simp only [decide_eq_false hfull,cond_false,f1,f2,f3,f4,f5,hz,aA,aV,bH,bA,aZ,bC]
 have hto:cK (nT w) (bW8 c4 ((nT w).1.length:Int))=true:=by
  unfold cK
  rw [bI,Int.tmod_eq_emod_of_nonneg g4]
  have :=Int.emod_nonneg c4 (show ((nT w).1.length:Int)≠0 by omega)
  have :=Int.emod_lt_of_pos c4 (show (0:Int)<((nT w).1.length:Int) by omega)
  constructor<;>omega
 generalize bW8 c4 ((nT w).1.length:Int)=to at hto
 generalize bW8 c5 7=ing
 generalize bW8 c1 8=src
 generalize bW8 c2 8=dst
 have hbad:fD ((1:Int),src,dst,[],(0:Int),(0:Int),(0:Int),(0:Int),c3,[])=false:=by
  unfold fD cA
  simp
  intro _ _ h
  exact absurd h (by decide)
 have E1:EvD w ((7:Int),(0:Int),[],(to,ing,((1:Int),src,dst,[],(0:Int),(0:Int),(0:Int),(0:Int),c3,[]))):=by
  refine ⟨by show (1:Int)<=7;decide,by show (8:Int)>=7;decide,⟨bW4 _,fun x hx=>(bW9 hx).elim⟩,⟨by rw [aLg];exact bW4 _,fun x hx=>(bW9 hx).elim⟩,?_⟩
  unfold harm sW
  rw [hbad];rfl
 have a1:=bK7 hrun (by omega) htv hlk E1
 have d1:doW w ((7:Int),(0:Int),[],(to,ing,((1:Int),src,dst,[],(0:Int),(0:Int),(0:Int),(0:Int),c3,[])))=(true,rB w (aN w++[(to,ing,((1:Int),src,dst,[],(0:Int),(0:Int),(0:Int),(0:Int),c3,[]))])):=by
  unfold doW
  simp only [show ((7:Int)==1)=false from rfl,show ((7:Int)==2)=false from rfl,show ((7:Int)==3)=false from rfl,show ((7:Int)==4)=false from rfl,show ((7:Int)==5)=false from rfl,show ((7:Int)==6)=false from rfl,show ((7:Int)==7)=true from rfl,Bool.false_eq_true,if_false,if_true,Bool.or_self,hto,decide_eq_false hfull,Bool.not_false,Bool.and_self]
 have R1:=hrun.event (by omega) hlk E1
 rw [d1] at a1 R1
 simp only at R1
 have E2:EvD (rB w (aN w++[(to,ing,((1:Int),src,dst,[],(0:Int),(0:Int),(0:Int),(0:Int),c3,[]))])) ((2:Int),((aN w).length:Int),[],((0:Int),(0:Int),((0:Int),(0:Int),(0:Int),[],(0:Int),(0:Int),(0:Int),(0:Int),(0:Int),[]))):=
  ⟨by show (1:Int)<=2;decide,by show (8:Int)>=2;decide,⟨bW4 _,fun x hx=>(bW9 hx).elim⟩,⟨by rw [aLg];exact bW4 _,fun x hx=>(bW9 hx).elim⟩,aPf rfl⟩
 have a2:=bK7 R1 (by omega) htv hlk E2
 have hg:uG (rB w (aN w++[(to,ing,((1:Int),src,dst,[],(0:Int),(0:Int),(0:Int),(0:Int),c3,[]))])) (aN w).length=w:=by
  show rB w ((aN w++[_]).take (aN w).length++(aN w++[_]).drop ((aN w).length+1))=w
  rw [List.take_left,List.drop_eq_nil_of_le (by simp),List.append_nil]
  rfl
 have d2:doW (rB w (aN w++[(to,ing,((1:Int),src,dst,[],(0:Int),(0:Int),(0:Int),(0:Int),c3,[]))])) ((2:Int),((aN w).length:Int),[],((0:Int),(0:Int),((0:Int),(0:Int),(0:Int),[],(0:Int),(0:Int),(0:Int),(0:Int),(0:Int),[])))=(true,wT w):=by
  have hi:inR ((aN w).length:Int) 0 (((aN w++[((to,ing,((1:Int),src,dst,[],(0:Int),(0:Int),(0:Int),(0:Int),c3,[])):den tFy)]).length:Int) - 1)=true:=bI.2 ⟨by omega,by simp⟩
  have hx:(aN w++[((to,ing,((1:Int),src,dst,[],(0:Int),(0:Int),(0:Int),(0:Int),c3,[])):den tFy)])[((aN w).length:Int).toNat]? =some (to,ing,((1:Int),src,dst,[],(0:Int),(0:Int),(0:Int),(0:Int),c3,[])):=by rw [bWu];simp
  unfold doW
  rw [if_neg (show ¬ (((2:Int)==1)=true) by decide),if_pos (show ((2:Int)==2)=true from rfl)]
  show (match inR ((aN w).length:Int) 0 (((aN w++[_]).length:Int) - 1),(aN w++[_])[((aN w).length:Int).toNat]? with
   | true,some x=>(true,fU (uG _ ((aN w).length:Int).toNat) x.1 x.2.1 x.2.2)
   | _,_=>(false,_))=_
  rw [hi,hx,bWu,hg]
  show (true,fU w to ing _)=_
  rw [aK5 hbad]
 rw [d2] at a2
 have hdrop:=hrun.drop
 have hself:oV w w=some true:=bB0 (Nat.le_trans hrun.run.keep.tot (by omega))
 obtain ⟨⟨as,ls⟩,⟨dn,co⟩,⟨cap,res,us⟩,now,dead,fly,flows,box,drop⟩:=w
 simp only [aQ5,rB,nT,nK,nG,aR,aK,aN,aC,bL,dH] at a1
 simp only [aQ5,rB,wT,nT,nK,nG,aR,aK,aN,aC,bL,dH] at a2
 simp only [nT,nK,nG,aR,aK,aN,aC,bL,dH,a1,a2,aA,Bool.not_true,cond_false,bne_self_eq_false,hself]
end Go.Proofs.YtecighmpdcffcaaGreat.fnIdle
