/-
  The plain part of: Law FnFast: for every code, if all links work, each message that has a path takes one round, and nothing is dropped. Conditions: none.
-/
import Derived.Test.YtnkjolpkcmgcaaaGreatQ2FnFast
open Int renaming toNat_natCast->bWs
open List renaming getElem?_eq_getElem->bWl
open Sum renaming elim_inl->bYm
set_option linter.unusedVariables false
set_option linter.unusedSimpArgs false
set_option maxRecDepth 100000
namespace Go.Proofs.YtnkjolpkcmgcaaaGreat.fnFast
open Go.Ab Go.V
theorem law(code:den (.sl tb))(w0:Wf (.sl tb) code):l_FnFast code=some true:=by
 by_cases hbig:(code.length:Int)>1048576
 .unfold l_FnFast aEk ixb dD eV eX qG zz4 zz5 zz6 zz7 zz8 zz9
  rw[zX hbig];rfl
 have hl:code.length<=1048576:=by omega
 obtain⟨w,n,e1,hw,hn⟩:=bLf hl
 have hR:=(nV.runV hw).round
 have hC:=hw.calm
 have tw:=hR.run.keep.tot
 have hi:Int.tmod n 6=n % 6:=Int.tmod_eq_emod_of_nonneg hn.1
 obtain⟨k,hk⟩:∃k:Nat,n % 6=(k:Int):=⟨(n % 6).toNat,by omega⟩
 have hk6:k<=5:=by omega
 rw[hk]at hi
 have R1:=bR1 (w:=w) (n:=(k:Int)) (by omega) hR.run.keep.bytes
 have rw1:tN w (k:Int)=bC k w:=by
  unfold tN
  rw[hR.valid (by omega) hw.top.top,show inR (k:Int) 0 1000=true from aI.2 ⟨by omega,by omega⟩,bWs]
  rfl
 rw[rw1]at R1
 obtain⟨a1,a2,a3,a4,a5⟩:=aHb hR hC k (by omega) (by omega)
 have hdrop:dO (bC k w)=0:=(aLv hw 0 (f0:=(0,0,0,0,[],[],0,0,[])) (.inr rfl) k (by omega)).1
 have hfl:(aB w).length<=1000000:=Nat.le_trans hC.few (by decide)
 have hl2:=a1.inv.lenB
 have hstep:∀j:Nat,j<(aB w).length-> ∃f g b,(aB w)[j]? =some f/\(aB (bC k w))[j]? =some g/\(aL (bC k w))[j]? =some b/\(((f.2.2.2.2.2.1.length:Int)==0)=true->(g.2.2.2.1 != (0:Int))=false)/\(((f.2.2.2.2.2.1.length:Int)==0)=false->(g.2.2.2.1 != (if (f.2.2.2.2.1.length:Int)<(k:Int) then (f.2.2.2.2.1.length:Int) else (k:Int)))=false/\((b.2.2.2.length:Int) != g.2.2.2.1)=false):=λj hj=>by
  have j1:j<(aB (bC k w)).length:=by rw[a5];exact hj
  have j2:j<(aL (bC k w)).length:=by rw[hl2];exact j1
  have g1:=bWl hj
  have g2:=bWl j1
  have g3:=bWl j2
  refine⟨_,_,_,g1,g2,g3,λc=> ?_,λc=> ?_⟩
  .have hp:(aB w)[j].2.2.2.2.2.1=[]:=List.length_eq_zero_iff.1 (by have :=eq_of_beq c;omega)
   obtain⟨g,q1,q2⟩:=aX8 hR hC hw.fly g1 (fun τ _ _ q hq=>by rw[hp]at hq;exact (List.not_mem_nil hq).elim) k (by omega) (by omega)
   rw[g2]at q1
   injection q1 with q1
   have q2:g.2.2.2.1=(aB w)[j].2.2.2.1:=q2
   rw[q1,q2,(hw.flows _ (List.getElem_mem hj)).ack]
   rfl
  .have hp:(aB w)[j].2.2.2.2.2.1≠[]:=λh=>by rw[h]at c;exact absurd c (by decide)
   obtain⟨_,_,d3⟩:=aLv hw j (.inl g1) k (by omega)
   rcases d3 with d3 | ⟨f,x,q1,q2,q3,q4,q5,q6⟩
   .exact absurd d3 hp
   .rw[g2]at q1
    injection q1 with q1
    rw[g3]at q2
    injection q2 with q2
    have hn:=(a1.inv.flow j _ _ g2 g3).next
    have q4:f.2.2.2.1=_:=q4
    have q6:x.2.2.1=f.2.2.2.1:=q6
    rw[q2]at hn
    rw[q1,q2]
    refine⟨?_,?_⟩
    .rw[q4]
     have :(if k<(aB w)[j].2.2.2.2.1.length then (k:Int) else ((aB w)[j].2.2.2.2.1.length:Int))=(if ((aB w)[j].2.2.2.2.1.length:Int)<(k:Int) then ((aB w)[j].2.2.2.2.1.length:Int) else (k:Int)):=by
      split<;>split<;>first | rfl | omega
     rw[this]
     exact bne_self_eq_false _
    .rw[<- hn,q6]
     exact bne_self_eq_false _
 clear hR hC hw a1 a2 a3 a4 rw1
 generalize bC k w=x at *
 obtain⟨⟨as,ls⟩,⟨dn,co⟩,⟨cap,res,us⟩,now,dead,fly,flows,box,drop⟩:=w
 obtain⟨⟨as1,ls1⟩,⟨dn1,co1⟩,⟨cap1,res1,us1⟩,now1,dead1,fly1,flows1,box1,drop1⟩:=x
 simp only[nT,nK,nG,aH,aJ,aE,aB,aL,dO]at hstep a5 hl2 hfl hdrop
 unfold l_FnFast aEk ixb dD eV eX qG zz4 zz5 zz6 zz7 zz8 zz9
 simp only[e1,aA,zW hbig,zY,zZ,aZi,nT,nK,nG,aH,aJ,aE,aB,aL,dO,hi,R1,aPv]
 rw[bHu (n:=flows.length) (r:= .inl ()) (by omega)]
 .simp only[bYm,hdrop,beq_self_eq_true]
 .intro j hj
  obtain⟨f,g,b,g1,g2,g3,g4,g5⟩:=hstep j hj
  have d1:∀q:Decidable ((j:Int)<(flows1.length:Int)),@decide _ q=true:=λq=>zX (by omega)
  have d2:∀q:Decidable ((j:Int)<(flows.length:Int)),@decide _ q=true:=λq=>zX (by omega)
  have d3:∀q:Decidable ((j:Int)<(box1.length:Int)),@decide _ q=true:=λq=>zX (by omega)
  have d5:decide ((0:Int)<=(j:Int))=true:=zX (by omega)
  simp only[d1,d2,d3,d5,zZ,bWs,g1,g2,g3,aA,bE]
  cases hz:((f.2.2.2.2.2.1.length:Int)==0) with
  | true=>
   simp only[zZ,g4 hz,zY,aA,bYm]
   rw[fJ (by omega)]
  | false=>
   obtain⟨k1,k2⟩:=g5 hz
   simp only[zY,bNw,aA,k1,k2,bYm]
   rw[fJ (by omega)]
 .simp only[zW (Int.lt_irrefl _),zY]
end Go.Proofs.YtnkjolpkcmgcaaaGreat.fnFast
