/-
  The plain part of: Law FnRuns: for every code a run of events in two pieces is the run in one, as the reference says, and counts the same. Conditions: none.
-/
import Derived.Test.YtecighmpdcffcaaGreatQ2FnRuns
set_option linter.unusedVariables false
set_option linter.unusedSimpArgs false
set_option maxRecDepth 100000
namespace Go.Proofs.YtecighmpdcffcaaGreat.fnRuns
open Go.Ab Go.V
theorem law (code:den (.sl tb)) (w0:Wf (.sl tb) code):l_FnRuns code=some true:=by
 by_cases hbig:(code.length:Int)>1048576
 ·unfold l_FnRuns aHz eE aN bD bH cV zz4 zz5 zz6 zz7 zz8 zz9
  rw [zX hbig];rfl
 have hl:code.length<=1048576:=by omega
 obtain ⟨c0,p0,h0,e0,k0⟩:=bR5 hl
 obtain ⟨v,l,w,c1,p1,h1,e1,hv,hr,hn,k1⟩:=bQ2 hl (most:=25) (by decide) (by decide) k0
 have e1:yX (c0,p0,h0) (25:Int)=_:=e1
 have ed:lW code=some ((nG v).1,aQ v,dD v,l,(nT v).1,(nT v).2,(nK v).1,(nK v).2,(nG v).2.1,(nG v).2.2,aK v,aS v,aC v,bO v):=by
  unfold lW aAj aMx pj3 jM sI xO aBo aDe aC6 aIc aMn aMh aK7
  simp only [e0,aA,e1]
  rfl
 have hev:=hr.evs.1
 have hV:=zO.runV hv
 have htv:=hv.top.top
 have hlk:=hv.top.links
 have hp: ∃ n:Nat,n<=l.length∧(cond (decide ((l.length:Int)>(0:Int))) (Option.bind (aKj code (2:Int)) fun y3=>cond ((wr ((l.length:Int)+(1:Int)))==0) none (some (Int.tmod y3 (wr ((l.length:Int)+(1:Int)))))) (some (0:Int)))=some (n:Int):=by
  by_cases hz:(l.length:Int)>0
  ·obtain ⟨c2,f2,g2⟩:=bU1 hl (i:=2) (by decide) (fun x hx=>w0.2 x hx)
   have hw:wr ((l.length:Int)+1)=((l.length+1:Nat):Int):=by rw [aW (by omega)]
   have hne:(((l.length+1:Nat):Int)==0)=false:=by rw [beq_eq_false_iff_ne];omega
   have h3:=Int.emod_nonneg c2 (show ((l.length+1:Nat):Int)≠0 by omega)
   have h4:=Int.emod_lt_of_pos c2 (show (0:Int)<((l.length+1:Nat):Int) by omega)
   obtain ⟨n,hn'⟩:=Int.eq_ofNat_of_zero_le h3
   refine ⟨n,by omega,?_⟩
   simp only [zX hz,zZ,f2,aA,hw,hne,zY]
   rw [Int.tmod_eq_emod_of_nonneg g2,hn']
  ·exact ⟨0,Nat.zero_le _,by simp only [zW hz,zY];rfl⟩
 obtain ⟨n,hnl,en⟩:=hp
 have hsplit:l=l.take n++l.drop n:=(List.take_append_drop n l).symm
 have hev2:=(aOn (l.take n) (l.drop n) v).1 (by rw [← hsplit];exact hev)
 have hlt:(l.take n).length=n:=by rw [List.length_take];omega
 have hld:(l.drop n).length=l.length - n:=List.length_drop
 have hVy:=zQ.runV hlk hV hev2.1 (by rw [hlt];omega)
 have E1:=aWo hlk htv hV hev (by omega)
 have E2:=aWo hlk htv hV hev2.1 (by rw [hlt];omega)
 have E3:=bT1 hlk htv hV hev (by omega)
 have E4:=aWo hlk htv hVy hev2.2 (by rw [hlt,hld];omega)
 have C1:=aV1 hlk htv hV hev (by omega)
 have C2:=bUt hlk htv hV hev (by omega)
 have C3:=aV1 hlk htv hV hev2.1 (by rw [hlt];omega)
 have C4:=aV1 hlk htv hVy hev2.2 (by rw [hlt,hld];omega)
 have hW:tS (tS v (l.take n)) (l.drop n)=tS v l:=by rw [← aOv,← hsplit]
 have hC:xG v l=xG v (l.take n)+xG (tS v (l.take n)) (l.drop n):=by rw [← aWw,← hsplit]
 have hc1:=aS7 (l.take n) v
 have hc2:=aS7 (l.drop n) (tS v (l.take n))
 rw [hW] at E4
 have hself:nW (tS v l) (tS v l)=some true:=by
  have h:=zQ.runV hlk hV hev (by omega)
  exact bDn (Nat.le_trans h.run.keep.tot (by omega))
 have hsum:wr ((xG v (l.take n):Int)+(xG (tS v (l.take n)) (l.drop n):Int))=(xG v l:Int):=by rw [bN (by omega) (by omega),hC];omega
 generalize xG v (l.take n)=a1 at *
 generalize xG (tS v (l.take n)) (l.drop n)=a2 at *
 generalize xG v l=a0 at *
 generalize tS v (l.take n)=y at *
 generalize tS v l=x at *
 have s1:bR (0:Int) (n:Int) (l.length:Int)=true:=aF5 hnl
 have s2:bR (n:Int) (l.length:Int) (l.length:Int)=true:=xR hnl
 obtain ⟨⟨as,ls⟩,⟨dn,co⟩,⟨cap,res,us⟩,now,dead,fly,flows,box,drop⟩:=v
 obtain ⟨⟨as1,ls1⟩,⟨dn1,co1⟩,⟨cap1,res1,us1⟩,now1,dead1,fly1,flows1,box1,drop1⟩:=x
 obtain ⟨⟨as2,ls2⟩,⟨dn2,co2⟩,⟨cap2,res2,us2⟩,now2,dead2,fly2,flows2,box2,drop2⟩:=y
 unfold l_FnRuns aHz eE aN bD bH cV zz4 zz5 zz6 zz7 zz8 zz9
 simp only [ed,aA,zW hbig,zY,nT,nK,nG,aQ,aK,aS,aC,bO,dD,en,E1,s1,zZ,fF,aV,bJ,aZ,aY,bA,E2,aC9,E3,aLk,hself,s2,aCa,E4,C1,C2,C3,C4,beq_self_eq_true,hsum]
end Go.Proofs.YtecighmpdcffcaaGreat.fnRuns
