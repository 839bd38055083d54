/-
  Facts and plain laws: what the functions compute, in plain words. Conditions: as each says.
-/
import Derived.Test.YtcppmcbkokgfcaaGreatQ1FnSettling
open List renaming take_append_drop->cCw,mem_append->cBp,mem_of_mem_take->cCv,mem_of_mem_drop->cC1,mem_of_getElem?->cBr,getElem?_eq_some_iff->cBm,length_set->cC2,mem_or_eq_of_mem_set->cDz,getElem?_eq_getElem->cBe,getElem_mem->cBt,mem_singleton->cBn,not_mem_nil->cB2,mem_cons_of_mem->cBu,length_append->cCd,length_take->cCq,length_drop->cDl,length_singleton->cCy,getLast?_concat->cD2,dropLast_concat->cEr,pairwise_iff_getElem->cDi,getElem?_map->cDv,getElem?_set->cDr,getElem?_set_self->cEh,all_eq_true->cB5,length_cons->cCf
open Nat renaming le_refl->cBs,zero_le->cB1,succ_mul->cCa,le_trans->cBf,le_add_right->cD7
open Bool renaming false_eq_true->cBj,not_true->cBh,not_false->cBq,and_self->cC8,or_true->cDf,or_self->cC7,and_eq_true->cBg,not_eq_true'->cCg,or_eq_true->cCz
open Int renaming toNat_natCast->cBo,eq_ofNat_of_zero_le->cB7,le_refl->cC3,lt_irrefl->cBx
open Option renaming map_eq_some_iff->cCb,getD_some->cCe
open Sum renaming elim_inl->cCj
set_option linter.unusedVariables false
set_option linter.unusedSimpArgs false
set_option maxRecDepth 100000
namespace Go.Proofs.YtcppmcbkokgfcaaGreat
open Go.Ab Go.V
theorem bBd {B F:Nat} {w:den tNw} {r inn:Int} {p:den tPk} (hk:eG B F w) (hp:fR p):eG (B+(160+F)) F (fK w r inn p):=by
 obtain ⟨h1,h2⟩:=aKg hk.bytes hp (r:=r) (inn:=inn)
 have h3:=aQl w r inn p
 have :=hk.flows
 have :=hk.tot
 exact ⟨by omega,by rw [h2];exact hk.flows,h1⟩
theorem bA9 {B F:Nat} {w:den tNw} {l:lFy} (hk:eG B F w) (hl:tot (.sl tFy) l<=tot (.sl tFy) (aQ w)) (hb: ∀ x∈l,fR x.2.2):eG B F (bG w l):=by
 have h1:=aKq w l
 have :=hk.tot
 exact ⟨by omega,hk.flows,⟨hb,hk.bytes.msg⟩⟩
theorem aJ2 {B F:Nat} {w:den tNw} (hk:eG B F w) (i:Nat):eG B F (aDp w i):=by
 refine bA9 hk ?_ fun x hx=>hk.bytes.fly x ?_
 .have h1:=sU (t:=tFy) ((aQ w).take i) ((aQ w).drop i)
  rw [cCw] at h1
  rw [sU,h1]
  have :tot (.sl tFy) ((aQ w).drop (i+1))<=tot (.sl tFy) ((aQ w).drop i):=by
   cases h:(aQ w).drop i with
   | nil=>
    have :(aQ w).drop (i+1)=[]:=by rw [<- List.drop_drop,h];rfl
    rw [this];exact cBs _
   | cons x l=>
    have :(aQ w).drop (i+1)=l:=by rw [<- List.drop_drop,h];rfl
    rw [this,kH];omega
  omega
 .rcases cBp.1 hx with hx | hx
  .exact cCv hx
  .exact cC1 hx
theorem cAz {B F:Nat} {w:den tNw} {e:den kR} (hF:F<=1000) (hk:eG B F w) (hB:B+(F+1) * (160+F)<=536870912) (h9:(e.1==(9:Int))=false) (hd:SmB 4294967296 (.sl tb) e.2.2.1) (hp:tot tPk e.2.2.2.2.2<=34359738368):oD w e=some ((doW w e).1,aN (doW w e).2):=by
 obtain ⟨kd,n,data,to,ing,pk⟩:=e
 simp only at h9 hd hp
 have hB0:B<=536870912:=by have :=cB1 ((F+1) * (160+F));omega
 have hB1:B+F * (160+F)<=536870912:=by rw [cCa] at hB;omega
 have nl:=fN w
 have l1:w.2.2.2.2.2.1.length<=1073741824:=aOe hk (by omega)
 have l2:w.2.2.2.2.2.2.1.length<=1073741824:=cBf hk.flows (by omega)
 obtain ⟨n1,n2,n3⟩:=aGo hk (by omega)
 have w1:wr ((w.2.2.2.2.2.1.length:Int) - 1)=(w.2.2.2.2.2.1.length:Int) - 1:=mH (by omega)
 have w2:wr ((w.2.2.2.2.2.2.1.length:Int) - 1)=(w.2.2.2.2.2.2.1.length:Int) - 1:=mH (by omega)
 have a1:aM 128 w.2.2.2.2.2.1.length 1=true:=aE (by decide) (by omega)
 unfold oD doW ixb aL dM aSr pj2 cG aG aI aR bR fJ mP tA xR yZ aBp aD6 aHa aO8 aPx aLc zz4 zz5 zz6 zz7 zz8 zz9
 simp only [w1,eR,aA]
 cases c1:(kd==(1:Int)) with
 | true=>
  show Option.bind (wD w) _=_
  rw [bCf hF hk hB1]
  rfl
 | false=>
 cases c2:(kd==(2:Int)) with
 | true=>
  simp only [zY,zZ,cBj,zU,zV]
  cases hin:inR n 0 ((w.2.2.2.2.2.1.length:Int) - 1) with
  | false=>rfl
  | true=>
   obtain ⟨i,x,rfl,hx,_,_⟩:=aWz l1 hin
   have hx:(aQ w)[i]? =some x:=hx
   have e1:=bJ5 (w:=w) hx l1
   have kg:=aJ2 hk i
   obtain ⟨m1,m2,m3⟩:=aGo kg (by omega)
   have hxm:=cBr hx
   have htx:tot tPk x.2.2<=536870912:=by
    have h1:=sO (t:=tFy) hxm
    have h2:tot tFy x=tot tPk x.2.2:=by simp [oW,qK]
    have :=hk.tot
    omega
   have e2:=aSn (w:=aDp w i) (r:=x.1) (inn:=x.2.1) m1 m2 m3 htx (hk.bytes.fly x hxm)
   have e3:Option.bind (Option.bind (eD (aDp w i) x.1 x.2.1 x.2.2) fun y4=>some y4) (fun s5=>some (true,s5))=some (true,aN (fK (aDp w i) x.1 x.2.1 x.2.2)):=by rw [e2];rfl
   rw [zZ,e1,aA]
   have hx':w.2.2.2.2.2.1[((i:Nat):Int).toNat]? =some x:=by rw [cBo];exact hx
   rw [hx']
   exact e3
 | false=>
 cases c3:(kd==(3:Int)) with
 | true=>
  simp only [zY,zZ,cBj,zU,zV]
  cases hin:inR n 0 ((w.2.2.2.2.2.1.length:Int) - 1) with
  | false=>rfl
  | true=>
   obtain ⟨i,x,rfl,hx,_,_⟩:=aWz l1 hin
   have hx:(aQ w)[i]? =some x:=hx
   have e1:=bJ5 (w:=w) hx l1
   rw [zZ,e1,aA]
   rfl
 | false=>
 cases c4:(kd==(4:Int)) with
 | true=>
  simp only [zY,zZ,cBj,zU,zV]
  cases hin:inR n 0 ((w.2.2.2.2.2.1.length:Int) - 1) with
  | false=>rfl
  | true=>
   obtain ⟨i,x,rfl,hx,hlt,hz⟩:=aWz l1 hin
   have hx:(aQ w)[i]? =some x:=hx
   have hxm:=cBr hx
   have htx:tot tPk x.2.2<=34359738368:=by
    have h1:=sO (t:=tFy) hxm
    have h2:tot tFy x=tot tPk x.2.2:=by simp [oW,qK]
    have :=hk.tot
    omega
   have hx':w.2.2.2.2.2.1[((i:Nat):Int).toNat]? =some x:=by rw [cBo];exact hx
   have e1:=aDb (fT htx)
   cases decide ((w.2.2.2.2.2.1.length:Int)>=150) with
   | true=>rfl
   | false=>
    simp only [cBh,cBq,zY,zZ,aA,hlt,hz,hx',a1,cC8]
    rw [show ((x.2.2.1,x.2.2.2.1,x.2.2.2.2.1,x.2.2.2.2.2.1,x.2.2.2.2.2.2.1,x.2.2.2.2.2.2.2.1,x.2.2.2.2.2.2.2.2.1,x.2.2.2.2.2.2.2.2.2.1,x.2.2.2.2.2.2.2.2.2.2.1,x.2.2.2.2.2.2.2.2.2.2.2):den tPk)=x.2.2 from rfl,e1,aA]
    rfl
 | false=>
 cases c5:(kd==(5:Int)) with
 | true=>
  simp only [zY,zZ,cBj,zU,zV,aA,Bool.true_or]
  rw [show ((w.1,w.2.1,w.2.2.1,w.2.2.2.1,w.2.2.2.2.1,w.2.2.2.2.2.1,w.2.2.2.2.2.2.1,w.2.2.2.2.2.2.2.1,w.2.2.2.2.2.2.2.2):den tNw)=w from rfl,bJe n1.links n1.dead]
  rfl
 | false=>
 cases c6:(kd==(6:Int)) with
 | true=>
  simp only [zY,zZ,cBj,zU,zV,aA,cDf]
  rw [show ((w.1,w.2.1,w.2.2.1,w.2.2.2.1,w.2.2.2.2.1,w.2.2.2.2.2.1,w.2.2.2.2.2.2.1,w.2.2.2.2.2.2.2.1,w.2.2.2.2.2.2.2.2):den tNw)=w from rfl,bJe n1.links n1.dead]
  rfl
 | false=>
 cases c7:(kd==(7:Int)) with
 | true=>
  simp only [zY,zZ,cBj,zU,zV,aA,cC7,aP,aCa n1.as]
  have e1:=aDb (fT hp)
  cases cU w.1 to with
  | false=>rfl
  | true=>
   cases decide ((w.2.2.2.2.2.1.length:Int)>=150) with
   | true=>rfl
   | false=>
    simp only [cBh,cBq,zY,zZ,aA,a1,e1]
    rfl
 | false=>
 cases c8:(kd==(8:Int)) with
 | true=>
  simp only [zY,zZ,cBj,zU,zV,aA,cC7,aP]
  unfold aBf ixb pj2 pj9 zz4 zz5 zz6 zz7 zz8 zz9
  simp only [w2,eR,aA,c8,zZ]
  cases hin:inR n 0 ((w.2.2.2.2.2.2.1.length:Int) - 1) with
  | false=>rfl
  | true=>
   obtain ⟨i,x,rfl,hx,hlt,hz⟩:=aWz l2 hin
   have hx:(aD w)[i]? =some x:=hx
   have hxm:=cBr hx
   have hx':w.2.2.2.2.2.2.1[((i:Nat):Int).toNat]? =some x:=by rw [cBo];exact hx
   have hfx:tot tFl x<=536870912:=by
    have h1:=sO (t:=tFl) hxm
    have :=hk.tot
    omega
   have e1:=bQf (f:=x) (b:=data) ((bN hfx).mono (by decide)) hd
   have hlt2:decide (((i:Nat):Int).toNat<w.2.2.2.2.2.2.1.length)=true:=zX (by rw [cBo];exact (cBm.1 hx).1)
   simp only [cBh,zY,zZ,hlt,hz,hx',hlt2,aA]
   rw [show ((x.1,x.2.1,x.2.2.1,x.2.2.2.1,x.2.2.2.2.1,x.2.2.2.2.2.1,x.2.2.2.2.2.2.1,x.2.2.2.2.2.2.2.1,x.2.2.2.2.2.2.2.2):den tFl)=x from rfl,e1,aA]
   unfold bG7 aIs
   cases lA (enq x data)<;>rfl
 | false=>
  simp only [h9,zY,zZ,cBj,zU,zV,aA,cC7]
  rfl
def aF6 (p:den tPt):Prop:=List.length (α:=den tPp) p<=4/\ ∀ x:den tPp,x∈(show lPp from p)->x.2.2.2.length<=5
theorem oM.e {p:den tPt} (h:oM p):aF6 p:=⟨cBf h.1 (by decide),h.2⟩
theorem bHu {p:den tPt} (h:aF6 p):tot tPt p<=24:=by
 have h1:=aA7 (t:=tPp) (B:=5) (l:=p) fun x hx=>bAc (h.2 x hx)
 have h2:=h.1
 show tot (.sl tPp) p<=24
 omega
theorem aF6.set {p:lPp} (h:oM p) {i:Nat} {x:den tPp} (hx:x.2.2.2.length<=5):aF6 (p.set i x):=by
 refine ⟨by have :=h.1;show (p.set i x).length<=4;rw [cC2];omega,fun y hy=> ?_⟩
 rcases cDz (show y∈p.set i x from hy) with hy | rfl
 .exact h.2 y hy
 .exact hx
theorem bH1 {code:List Int} (hl:code.length<=1048576) {c:List Int} {p h:Int} (hc:Cur code (c,p,h)): ∃ (q:lPp) (c':List Int) (p' h':Int),aBc (c,p,h)=some (q,c',p',h')/\aF6 q/\Cur code (c',p',h'):=by
 obtain ⟨as,ls,q,c1,p1,h1,e1,hq,_,k1⟩:=aY1 hl hc
 unfold aBc ixb pj3 pj4
 simp only [e1,aA,aS,bI,aZ,bA,bD]
 by_cases h0:q.length=0
 .rw [show ((q.length:Int)==0)=true by rw [beq_iff_eq];omega,zZ]
  exact ⟨q,c1,p1,h1,rfl,hq.e,k1⟩
 have hq3:q.length<=3:=hq.1
 rw [show ((q.length:Int)==0)=false by rw [beq_eq_false_iff_ne];omega,zY]
 obtain ⟨v2,c2,p2,h2,e2,r2,k2⟩:=aK hl (n:=(q.length:Int)) (by omega) (by omega) k1
 obtain ⟨m,rfl⟩:=cB7 r2.1
 have hm:m<q.length:=by omega
 have hx:q[m]? =some q[m]:=cBe hm
 have hx5:q[m].2.2.2.length<=5:=hq.2 _ (cBt hm)
 obtain ⟨v3,c3,p3,h3,e3,r3,k3⟩:=aK hl (n:=12) (by decide) (by decide) k2
 simp only [e2,e3,aA,zX (show (0:Int)<=(m:Int) by omega),zX (show (m:Int)<(q.length:Int) by omega),zZ,cBo,hx]
 cases v3==(0:Int) with
 | true=>
  obtain ⟨v4,c4,p4,h4,e4,_,k4⟩:=aK hl (n:=6) (by decide) (by decide) k3
  exact ⟨_,c4,p4,h4,by simp only [zZ,e4,aA];rfl,aF6.set hq (by exact hx5),k4⟩
 | false=>
 cases v3==(1:Int) with
 | true=>
  obtain ⟨v4,c4,p4,h4,e4,k4⟩:=aKo hl k3
  exact ⟨_,c4,p4,h4,by simp only [zZ,zY,e4,aA];rfl,aF6.set hq (by exact hx5),k4⟩
 | false=>
 cases v3==(2:Int) with
 | true=>
  have sx:SmB 68719476736 tPp q[m]:=⟨trivial,trivial,trivial,by omega,fun _ _=>⟨trivial,trivial,trivial,trivial,trivial⟩⟩
  refine ⟨q++[q[m]],c3,p3,h3,?_,⟨by show (q++[q[m]]).length<=4;simp;omega,fun y hy=> ?_⟩,k3⟩
  .simp only [zZ,zY,aPc (p:=q[m]) (by omega),aP,aA,aE (b:=48) (n:=q.length) (m:=1) (by decide) (by omega)]
  .rcases cBp.1 (show y∈q++[q[m]] from hy) with hy | hy
   .exact hq.2 y hy
   .rw [cBn.1 hy];exact hx5
 | false=>
 cases v3==(3:Int) with
 | true=>
  have s1:cC (1:Int) (q.length:Int) (q.length:Int)=true:=yM (k:=1) (by omega)
  have s2:cut q (1:Int) (q.length:Int)=q.drop 1:=aCy (k:=1)
  refine ⟨q.drop 1,c3,p3,h3,by simp only [zZ,zY,s1,s2,aA],⟨by show (q.drop 1).length<=4;simp;omega,fun y hy=>hq.2 y (cC1 (show y∈q.drop 1 from hy))⟩,k3⟩
 | false=>
 cases v3==(4:Int) with
 | false=>exact ⟨q,c3,p3,h3,by simp only [zY,aA],hq.e,k3⟩
 | true=>
  simp only [zZ,zY]
  by_cases hp:(q[m].2.2.2.length:Int)>0
  .obtain ⟨v4,c4,p4,h4,e4,r4,k4⟩:=aK hl (n:=(q[m].2.2.2.length:Int)) hp (by omega) k3
   obtain ⟨i,rfl⟩:=cB7 r4.1
   have hi:i<q[m].2.2.2.length:=by omega
   obtain ⟨v5,c5,p5,h5,e5,k5⟩:=aKo hl k4
   refine ⟨_,c5,p5,h5,?_,aF6.set hq (i:=m) (x:=(q[m].1,q[m].2.1,q[m].2.2.1,q[m].2.2.2.set i (q[m].2.2.2[i].1,q[m].2.2.2[i].2.1,q[m].2.2.2[i].2.2.1,q[m].2.2.2[i].2.2.2.1,v5))) (by show (q[m].2.2.2.set i _).length<=5;rw [cC2];exact hx5),k5⟩
   simp only [zX hp,zZ,e4,e5,aA,zX (show (0:Int)<=(i:Int) by omega),zX (show (i:Int)<(q[m].2.2.2.length:Int) by omega),cBo,cBe hi,aS,bI,aZ,bA,bD]
  .exact ⟨q,c3,p3,h3,by simp only [zW hp,zY,aA],hq.e,k3⟩
structure bOn (p:den tPk):Prop where
 path:aF6 p.2.2.2.1
 len:p.2.2.2.2.2.2.2.2.2.length<=1000
 bytes:fR p
theorem bDc (p:den tPk):tot tPk p=tot tPt p.2.2.2.1+p.2.2.2.2.2.2.2.2.2.length:=by
 have e:tot tPk p=tot tPt p.2.2.2.1+tot (.sl tb) p.2.2.2.2.2.2.2.2.2:=by simp [oW,qK]
 rw [e,dK (t:=tb) rfl]
theorem bO4 {p:den tPk} (h:bOn p):tot tPk p<=1100:=by
 have h1:=bHu h.path
 have h2:=h.len
 rw [bDc]
 omega
theorem bLd {code:List Int} (hl:code.length<=1048576) {c:List Int} {p h:Int} (hc:Cur code (c,p,h)): ∃ (as:lAS) (ls:lLk) (k:den tPk) (c':List Int) (p' h':Int),aA1 (c,p,h)=some (as,ls,k.1,k.2.1,k.2.2.1,k.2.2.2.1,k.2.2.2.2.1,k.2.2.2.2.2.1,k.2.2.2.2.2.2.1,k.2.2.2.2.2.2.2.1,k.2.2.2.2.2.2.2.2.1,k.2.2.2.2.2.2.2.2.2,c',p',h')/\bOn k/\aAo as ls/\Cur code (c',p',h'):=by
 obtain ⟨as,ls,k,c1,p1,h1,e1,hk,kt,k1⟩:=bUr hl hc
 obtain ⟨v2,c2,p2,h2,e2,r2,k2⟩:=aK hl (n:=14) (by decide) (by decide) k1
 have hkp:bOn k:=⟨hk.path.e,hk.len,hk.bytes⟩
 unfold aA1 pj3 pj4 aG aI aR zz4 zz5 zz6 zz7 zz8 zz9
 simp only [e1,e2,aA,aS,bI,aZ,bA,bD]
 cases v2==(0:Int) with
 | true=>
  obtain ⟨v3,c3,p3,h3,e3,_,k3⟩:=aK hl (n:=4) (by decide) (by decide) k2
  exact ⟨as,ls,(k.1,k.2.1,k.2.2.1,k.2.2.2.1,wr (v3 - 1),k.2.2.2.2.2.1,k.2.2.2.2.2.2.1,k.2.2.2.2.2.2.2.1,k.2.2.2.2.2.2.2.2.1,k.2.2.2.2.2.2.2.2.2),c3,p3,h3,by simp only [zZ,e3,aA],⟨hkp.path,hkp.len,hkp.bytes⟩,kt,k3⟩
 | false=>
 cases v2==(1:Int) with
 | true=>
  obtain ⟨v3,c3,p3,h3,e3,_,k3⟩:=aK hl (n:=4) (by decide) (by decide) k2
  exact ⟨as,ls,(k.1,k.2.1,k.2.2.1,k.2.2.2.1,k.2.2.2.2.1,wr (v3 - 1),k.2.2.2.2.2.2.1,k.2.2.2.2.2.2.2.1,k.2.2.2.2.2.2.2.2.1,k.2.2.2.2.2.2.2.2.2),c3,p3,h3,by simp only [zZ,zY,e3,aA],⟨hkp.path,hkp.len,hkp.bytes⟩,kt,k3⟩
 | false=>
 cases v2==(2:Int) with
 | true=>
  obtain ⟨v3,c3,p3,h3,e3,k3⟩:=aKo hl k2
  exact ⟨as,ls,(k.1,k.2.1,k.2.2.1,k.2.2.2.1,k.2.2.2.2.1,k.2.2.2.2.2.1,v3,k.2.2.2.2.2.2.2.1,k.2.2.2.2.2.2.2.2.1,k.2.2.2.2.2.2.2.2.2),c3,p3,h3,by simp only [zZ,zY,e3,aA],⟨hkp.path,hkp.len,hkp.bytes⟩,kt,k3⟩
 | false=>
 cases v2==(3:Int) with
 | true=>
  obtain ⟨v3,c3,p3,h3,e3,_,k3⟩:=aK hl (n:=9) (by decide) (by decide) k2
  exact ⟨as,ls,(k.1,k.2.1,v3,k.2.2.2.1,k.2.2.2.2.1,k.2.2.2.2.2.1,k.2.2.2.2.2.2.1,k.2.2.2.2.2.2.2.1,k.2.2.2.2.2.2.2.2.1,k.2.2.2.2.2.2.2.2.2),c3,p3,h3,by simp only [zZ,zY,e3,aA],⟨hkp.path,hkp.len,hkp.bytes⟩,kt,k3⟩
 | false=>
 cases v2==(4:Int) with
 | true=>
  obtain ⟨v3,c3,p3,h3,e3,_,k3⟩:=pL hl (l:=[(-1:Int),(100000:Int),(100001:Int)]) (by decide) (by decide) k2
  exact ⟨as,ls,(k.1,k.2.1,k.2.2.1,k.2.2.2.1,k.2.2.2.2.1,k.2.2.2.2.2.1,k.2.2.2.2.2.2.1,k.2.2.2.2.2.2.2.1,v3,k.2.2.2.2.2.2.2.2.2),c3,p3,h3,by simp only [zZ,zY,e3,aA],⟨hkp.path,hkp.len,hkp.bytes⟩,kt,k3⟩
 | false=>
 cases v2==(5:Int) with
 | true=>
  obtain ⟨q3,c3,p3,h3,e3,hq,k3⟩:=bH1 hl k2
  exact ⟨as,ls,(k.1,k.2.1,k.2.2.1,q3,k.2.2.2.2.1,k.2.2.2.2.2.1,k.2.2.2.2.2.2.1,k.2.2.2.2.2.2.2.1,k.2.2.2.2.2.2.2.2.1,k.2.2.2.2.2.2.2.2.2),c3,p3,h3,by simp only [zZ,zY,e3,aA],⟨hq,hkp.len,hkp.bytes⟩,kt,k3⟩
 | false=>
 cases v2==(6:Int) with
 | true=>
  obtain ⟨v3,c3,p3,h3,e3,_,k3⟩:=aK hl (n:=6) (by decide) (by decide) k2
  exact ⟨as,ls,(wr (v3 - 1),k.2.1,k.2.2.1,k.2.2.2.1,k.2.2.2.2.1,k.2.2.2.2.2.1,k.2.2.2.2.2.2.1,k.2.2.2.2.2.2.2.1,k.2.2.2.2.2.2.2.2.1,k.2.2.2.2.2.2.2.2.2),c3,p3,h3,by simp only [zZ,zY,e3,aA],⟨hkp.path,hkp.len,hkp.bytes⟩,kt,k3⟩
 | false=>exact ⟨as,ls,k,c2,p2,h2,by simp only [zY,aA],hkp,kt,k2⟩
structure EvD (w:den tNw) (e:den kR):Prop where
 lo:(1:Int)<=e.1
 hi:(8:Int)>=e.1
 data:e.2.2.1.length<=3/\tF e.2.2.1
 pk:tot tPk e.2.2.2.2.2<=1100/\fR e.2.2.2.2.2
 harm:harm w e=true
structure bOi (w:den tNw):Prop where
 tot:tot tNw w<=536870912
 as:1<=(nT w).1.length/\(nT w).1.length<=8
 links:(nT w).2.length<=100
 flyN:(aQ w).length<=150
 fly: ∀ x∈aQ w,Go.V.tot tPk x.2.2<=1100
 bytes: ∀ x∈aQ w,fR x.2.2
 flows:(aD w).length<=4
theorem bFn {w:den tNw} {e:den kR} (h:(e.1==(7:Int))=false):harm w e=true:=by
 unfold harm
 rw [h];rfl
theorem bJs {w:den tNw} {to ing:Int} {pk:den tPk}:harm w ((7:Int),(0:Int),[],(to,ing,((3:Int),pk.2)))=true:=by
 unfold harm vI
 rw [show (((3:Int),pk.2):den tPk).1=3 from rfl,show ((3:Int)==3)=true from rfl,cDf,cDf]
 rfl
def fgR (w:den tNw) (e:den kR) (c:List Int) (p h:Int):q8:=
 (e.1,e.2.1,e.2.2.2.1,e.2.2.2.2.1,e.2.2.2.2.2.1,e.2.2.2.2.2.2.1,e.2.2.2.2.2.2.2.1,e.2.2.2.2.2.2.2.2.1,e.2.2.2.2.2.2.2.2.2.1,e.2.2.2.2.2.2.2.2.2.2.1,e.2.2.2.2.2.2.2.2.2.2.2.1,e.2.2.2.2.2.2.2.2.2.2.2.2.1,e.2.2.2.2.2.2.2.2.2.2.2.2.2.1,e.2.2.2.2.2.2.2.2.2.2.2.2.2.2,e.2.2.1,c,p,h,aQ w,aD w,bJ w)
def nxR (w:den tNw) (e:den kR) (c:List Int) (p h:Int):q8:=
 (e.1,e.2.1,e.2.2.2.1,e.2.2.2.2.1,e.2.2.2.2.2.1,e.2.2.2.2.2.2.1,e.2.2.2.2.2.2.2.1,e.2.2.2.2.2.2.2.2.1,e.2.2.2.2.2.2.2.2.2.1,e.2.2.2.2.2.2.2.2.2.2.1,e.2.2.2.2.2.2.2.2.2.2.2.1,e.2.2.2.2.2.2.2.2.2.2.2.2.1,e.2.2.2.2.2.2.2.2.2.2.2.2.2.1,e.2.2.1,e.2.2.2.2.2.2.2.2.2.2.2.2.2.2,c,p,h,aQ w,aD w,bJ w)
theorem bJl {code:List Int} (hl:code.length<=1048576) {w:den tNw} (hw:bOi w) {c:List Int} {p h:Int} (hc:Cur code (c,p,h)): ∃ e c' p' h',pE (c,p,h) w=some (fgR w e c' p' h')/\EvD w e/\Cur code (c',p',h'):=by
 obtain ⟨as,ls,k,c1,p1,h1,e1,hk,_,k1⟩:=bLd hl hc
 have ha:1<=w.1.1.length/\w.1.1.length<=8:=hw.as
 have hfn:=hw.flyN
 obtain ⟨v2,c2,p2,h2,e2,r2,k2⟩:=aK hl (n:=(w.1.1.length:Int)) (by omega) (by omega) k1
 obtain ⟨v3,c3,p3,h3,e3,r3,k3⟩:=aK hl (n:=7) (by decide) (by decide) k2
 have sw:SmB 68719476736 tNw w:=(bN hw.tot).mono (by decide)
 have fin: ∀ (k:den tPk) (c:List Int) (p h:Int),tot tPk k<=1100->fR k->Cur code (c,p,h)-> ∃ e c' p' h',(Option.bind (Option.bind (qP w ((7:Int),(0:Int),[],(v2,v3,(k.1,k.2.1,k.2.2.1,k.2.2.2.1,k.2.2.2.2.1,k.2.2.2.2.2.1,k.2.2.2.2.2.2.1,k.2.2.2.2.2.2.2.1,k.2.2.2.2.2.2.2.2.1,k.2.2.2.2.2.2.2.2.2)))) fun y31=>cond (!y31) (some ((7:Int),(0:Int),v2,v3,(3:Int),k.2.1,k.2.2.1,k.2.2.2.1,k.2.2.2.2.1,k.2.2.2.2.2.1,k.2.2.2.2.2.2.1,k.2.2.2.2.2.2.2.1,k.2.2.2.2.2.2.2.2.1)) (some ((7:Int),(0:Int),v2,v3,k.1,k.2.1,k.2.2.1,k.2.2.2.1,k.2.2.2.2.1,k.2.2.2.2.2.1,k.2.2.2.2.2.2.1,k.2.2.2.2.2.2.2.1,k.2.2.2.2.2.2.2.2.1))) fun s32=>some (s32.1,s32.2.1,s32.2.2.1,s32.2.2.2.1,s32.2.2.2.2.1,s32.2.2.2.2.2.1,s32.2.2.2.2.2.2.1,s32.2.2.2.2.2.2.2.1,s32.2.2.2.2.2.2.2.2.1,s32.2.2.2.2.2.2.2.2.2.1,s32.2.2.2.2.2.2.2.2.2.2.1,s32.2.2.2.2.2.2.2.2.2.2.2.1,s32.2.2.2.2.2.2.2.2.2.2.2.2,k.2.2.2.2.2.2.2.2.2,([]:List Int),c,p,h,w.2.2.2.2.2.1,w.2.2.2.2.2.2.1,w.2.2.2.2.2.2.2.1))=some (fgR w e c' p' h')/\EvD w e/\Cur code (c',p',h'):=by
  intro k c p h ht hb hc
  have se:SmB 68719476736 kR ((7:Int),(0:Int),[],(v2,v3,k)):=⟨trivial,trivial,⟨by simp,fun x hx=>trivial⟩,trivial,trivial,(bN ht).mono (by decide)⟩
  have e9:qP w ((7:Int),(0:Int),[],(v2,v3,(k.1,k.2.1,k.2.2.1,k.2.2.2.1,k.2.2.2.2.1,k.2.2.2.2.2.1,k.2.2.2.2.2.2.1,k.2.2.2.2.2.2.2.1,k.2.2.2.2.2.2.2.2.1,k.2.2.2.2.2.2.2.2.2)))=some (harm w ((7:Int),(0:Int),[],(v2,v3,k))):=bWj sw se
  rw [e9,aA]
  cases hb':harm w ((7:Int),(0:Int),[],(v2,v3,k)) with
  | true=>exact ⟨((7:Int),(0:Int),[],(v2,v3,k)),c,p,h,rfl,⟨by show (1:Int)<=7;decide,by show (8:Int)>=7;decide,⟨cB1 _,fun x hx=>(cB2 hx).elim⟩,⟨ht,hb⟩,hb'⟩,hc⟩
  | false=>exact ⟨((7:Int),(0:Int),[],(v2,v3,((3:Int),k.2))),c,p,h,rfl,⟨by show (1:Int)<=7;decide,by show (8:Int)>=7;decide,⟨cB1 _,fun x hx=>(cB2 hx).elim⟩,⟨ht,hb⟩,bJs⟩,hc⟩
 unfold pE ixb aL pj3 pj4 cG aG aI aR bR fJ mP tA zz4 zz5 zz6 zz7 zz8 zz9
 simp only [e1,e2,e3,aA,aS,bI,aZ,bA,bD]
 have done:=fun c p h hc=>fin k c p h (bO4 hk) hk.bytes hc
 by_cases hf:(w.2.2.2.2.2.1.length:Int)>0
 .obtain ⟨v4,c4,p4,h4,e4,k4⟩:=sV hl (n:=2) (by decide) (by decide) k3
  simp only [zX hf,zZ,e4,aA]
  cases v4 with
  | false=>
   simp only [zY,aA]
   exact done c4 p4 h4 k4
  | true=>
   have hfn:w.2.2.2.2.2.1.length<=150:=hfn
   obtain ⟨v5,c5,p5,h5,e5,r5,k5⟩:=aK hl (n:=(w.2.2.2.2.2.1.length:Int)) hf (by omega) k4
   obtain ⟨i,rfl⟩:=cB7 r5.1
   have hi:i<w.2.2.2.2.2.1.length:=by omega
   have hx:w.2.2.2.2.2.1[i]? =some w.2.2.2.2.2.1[i]:=cBe hi
   have hm:w.2.2.2.2.2.1[i]∈aQ w:=cBt hi
   have ht:=hw.fly _ hm
   have hb:=hw.bytes _ hm
   generalize w.2.2.2.2.2.1[i]=x at hx hm ht hb
   have e6:=aDb (p:=x.2.2) (fT (cBf ht (by decide)))
   obtain ⟨v7,c7,p7,h7,e7,k7⟩:=sV hl (n:=2) (by decide) (by decide) k5
   simp only [zZ,e5,aA,zX (show (0:Int)<=(i:Int) by omega),zX (show (i:Int)<(w.2.2.2.2.2.1.length:Int) by omega),cBo,hx,aP,e6,e7]
   cases v7 with
   | false=>
    simp only [zY,aA]
    exact fin x.2.2 c7 p7 h7 ht hb k7
   | true=>
    obtain ⟨v8,c8,p8,h8,e8,k8⟩:=aKo hl k7
    simp only [zZ,e8,aA]
    exact fin (x.2.2.1,x.2.2.2.1,x.2.2.2.2.1,x.2.2.2.2.2.1,x.2.2.2.2.2.2.1,x.2.2.2.2.2.2.2.1,v8,x.2.2.2.2.2.2.2.2.2.1,x.2.2.2.2.2.2.2.2.2.2.1,x.2.2.2.2.2.2.2.2.2.2.2) c8 p8 h8 ht hb k8
 .simp only [zW hf,zY,aA]
  exact done c3 p3 h3 k3
theorem bOe {code:List Int} (hl:code.length<=1048576) {w:den tNw} (hw:bOi w) {c:List Int} {p h:Int} (hc:Cur code (c,p,h)): ∃ e c' p' h',tX (c,p,h) w=some (nxR w e c' p' h')/\EvD w e/\Cur code (c',p',h'):=by
 have hlk:w.1.2.length<=100:=hw.links
 have hfl:w.2.2.2.2.2.2.1.length<=4:=hw.flows
 have hfn:w.2.2.2.2.2.1.length<=150:=hw.flyN
 have wl:wr ((w.1.2.length:Int)+1)=((w.1.2.length+1:Nat):Int):=bL (by omega)
 have wf:wr ((w.2.2.2.2.2.2.1.length:Int)+1)=((w.2.2.2.2.2.2.1.length+1:Nat):Int):=bL (by omega)
 have pk0D:tot tPk ((0:Int),(0:Int),(0:Int),[],(0:Int),(0:Int),(0:Int),(0:Int),(0:Int),[])<=1100/\fR ((0:Int),(0:Int),(0:Int),[],(0:Int),(0:Int),(0:Int),(0:Int),(0:Int),[]):=⟨by rw [bDc];exact cB1 _,fun x hx=>(cB2 hx).elim⟩
 have ev: ∀ (kd n:Int) (data:List Int),(1:Int)<=kd->(8:Int)>=kd->(kd==(7:Int))=false->data.length<=3->tF data->EvD w (kd,n,data,((0:Int),(0:Int),((0:Int),(0:Int),(0:Int),[],(0:Int),(0:Int),(0:Int),(0:Int),(0:Int),[]))):=fun kd n data a b d e f=>⟨a,b,⟨e,f⟩,pk0D,bFn d⟩
 have nob:tF []:=fun x hx=>(cB2 hx).elim
 obtain ⟨v1,c1,p1,h1,e1,r1,k1⟩:=aK hl (n:=24) (by decide) (by decide) hc
 obtain ⟨v2,c2,p2,h2,e2,r2,k2⟩:=aK hl (n:=((w.1.2.length+1:Nat):Int)) (by omega) (by omega) k1
 unfold tX pj3 pj6 cG aG aI aR bR fJ mP zz4 zz5 zz6 zz7 zz8 zz9
 simp only [e1,aA,wl,wf,e2]
 cases v1==(0:Int) with
 | true=>
  exact ⟨((5:Int),v2,[],((0:Int),(0:Int),((0:Int),(0:Int),(0:Int),[],(0:Int),(0:Int),(0:Int),(0:Int),(0:Int),[]))),c2,p2,h2,rfl,ev 5 v2 [] (by decide) (by decide) rfl (cB1 _) nob,k2⟩
 | false=>
 simp only [zY]
 obtain ⟨b3,e3⟩: ∃ b,(cond (v1==(1:Int)) (some (v1==(1:Int))) (some (v1==(2:Int))))=some b:=by cases v1==(1:Int)<;>exact ⟨_,rfl⟩
 rw [e3,aA]
 cases b3 with
 | true=>
  exact ⟨((6:Int),v2,[],((0:Int),(0:Int),((0:Int),(0:Int),(0:Int),[],(0:Int),(0:Int),(0:Int),(0:Int),(0:Int),[]))),c2,p2,h2,rfl,ev 6 v2 [] (by decide) (by decide) rfl (cB1 _) nob,k2⟩
 | false=>
 simp only [zY]
 cases v1==(3:Int) with
 | true=>
  obtain ⟨e,c4,p4,h4,e4,d4,k4⟩:=bJl hl hw k1
  refine ⟨e,c4,p4,h4,?_,d4,k4⟩
  rw [zZ]
  show Option.bind (pE (c1,p1,h1) w) _=_
  rw [e4]
  rfl
 | false=>
 simp only [zY]
 cases v1==(4:Int) with
 | true=>
  obtain ⟨v4,c4,p4,h4,e4,r4,k4⟩:=aK hl (n:=((w.2.2.2.2.2.2.1.length+1:Nat):Int)) (by omega) (by omega) k1
  obtain ⟨v5,c5,p5,h5,e5,r5,k5⟩:=aK hl (n:=3) (by decide) (by decide) k4
  obtain ⟨m5,rfl⟩:=cB7 r5.1
  obtain ⟨l6,c6,p6,h6,e6,⟨r6,b6⟩,k6⟩:=aNc hl (n:=m5) (by omega) k5
  exact ⟨((8:Int),v4,l6,((0:Int),(0:Int),((0:Int),(0:Int),(0:Int),[],(0:Int),(0:Int),(0:Int),(0:Int),(0:Int),[]))),c6,p6,h6,by simp only [zZ,e4,e5,e6,aA];rfl,ev 8 v4 l6 (by decide) (by decide) rfl (by omega) b6,k6⟩
 | false=>
 simp only [zY]
 have tick: ∀ c p h,Cur code (c,p,h)-> ∃ e c' p' h',(some ((1:Int),(0:Int),(0:Int),(0:Int),(0:Int),(0:Int),(0:Int),[],(0:Int),(0:Int),(0:Int),(0:Int),(0:Int),[],[],c,p,h,w.2.2.2.2.2.1,w.2.2.2.2.2.2.1,w.2.2.2.2.2.2.2.1):Option q8)=some (nxR w e c' p' h')/\EvD w e/\Cur code (c',p',h'):=fun c p h hc=>
  ⟨((1:Int),(0:Int),[],((0:Int),(0:Int),((0:Int),(0:Int),(0:Int),[],(0:Int),(0:Int),(0:Int),(0:Int),(0:Int),[]))),c,p,h,rfl,ev 1 0 [] (by decide) (by decide) rfl (cB1 _) nob,hc⟩
 by_cases hf:(w.2.2.2.2.2.1.length:Int)>0
 .obtain ⟨v4,c4,p4,h4,e4,k4⟩:=sV hl (n:=4) (by decide) (by decide) k1
  simp only [zX hf,zZ,e4,aA]
  cases v4 with
  | true=>
   simp only [cBh,zY]
   exact tick c4 p4 h4 k4
  | false=>
   simp only [cBq,zZ]
   obtain ⟨m,em,hm1,hm2⟩: ∃ m:Int,(if (3:Int)<(w.2.2.2.2.2.1.length:Int) then (3:Int) else (w.2.2.2.2.2.1.length:Int))=m/\0<m/\m<=256:=by
    split
    .exact ⟨_,rfl,by decide,by decide⟩
    .exact ⟨_,rfl,by omega,by omega⟩
   obtain ⟨v5,c5,p5,h5,e5,r5,k5⟩:=aK hl hm1 hm2 k4
   obtain ⟨v6,c6,p6,h6,e6,r6,k6⟩:=aK hl (n:=12) (by decide) (by decide) k5
   simp only [aWh,em,e5,e6,aA]
   cases v6==(0:Int) with
   | true=>exact ⟨((3:Int),v5,[],((0:Int),(0:Int),((0:Int),(0:Int),(0:Int),[],(0:Int),(0:Int),(0:Int),(0:Int),(0:Int),[]))),c6,p6,h6,rfl,ev 3 v5 [] (by decide) (by decide) rfl (cB1 _) nob,k6⟩
   | false=>
    cases v6==(1:Int) with
    | true=>exact ⟨((4:Int),v5,[],((0:Int),(0:Int),((0:Int),(0:Int),(0:Int),[],(0:Int),(0:Int),(0:Int),(0:Int),(0:Int),[]))),c6,p6,h6,rfl,ev 4 v5 [] (by decide) (by decide) rfl (cB1 _) nob,k6⟩
    | false=>exact ⟨((2:Int),v5,[],((0:Int),(0:Int),((0:Int),(0:Int),(0:Int),[],(0:Int),(0:Int),(0:Int),(0:Int),(0:Int),[]))),c6,p6,h6,rfl,ev 2 v5 [] (by decide) (by decide) rfl (cB1 _) nob,k6⟩
 .simp only [zW hf,zY,aA]
  exact tick c1 p1 h1 k1
theorem bBx {s d now now':Int} (hn:now<=now'): ∀ {l:lRs},(∀ x∈l,(0:Int)<=x.2.2.2.1/\(20:Int)>=x.2.2.2.1)->rs s d now' l<=rs s d now l
 | [],_=>cC3 _
 | x::l,h=>by
  have ih:=bBx (s:=s) (d:=d) hn (l:=l) fun y hy=>h y (cBu _ hy)
  have hx:=h x (by simp)
  unfold rs
  by_cases c:now'<=x.2.2.2.2
  .rw [zX c,zX (show now<=x.2.2.2.2 from Int.le_trans hn c)]
   split<;>omega
  .rw [zW c,Bool.and_false]
   simp only [cBj,zU]
   split<;>omega
theorem rQ.later {l:lRs} {cap now now':Int} (h:rQ l cap now) (hn:now<=now'):rQ l cap now':=
 ⟨h.len,h.val,fun x hx=>Int.le_trans (bBx hn (xP h.val)) (h.rate x hx),h.pw⟩
theorem OkS.tick {g:den tSc} {now now':Int} (h:OkS g now) (hn:now<=now'):OkS (g.1,aFe g.2.1 now',[]) now':=
 ⟨h.lo,h.hi,(h.res.later hn).filter _,fun j x hx=>by simp at hx⟩
structure cS (w w':den tNw):Prop where
 top:nT w'=nT w
 now:aT w'=aT w
 gate:OkS (nG w) (aT w)->OkS (nG w') (aT w')
 fly: ∀ x∈aQ w',x∈aQ w\/tot tPk x.2.2<=1100
 flyN:(aQ w).length<=150->(aQ w').length<=150
theorem cS.refl (w:den tNw):cS w w:=⟨rfl,rfl,id,fun x hx=> .inl hx,id⟩
theorem cS.trans {a b c:den tNw} (h:cS a b) (k:cS b c):cS a c:=
 ⟨k.top.trans h.top,k.now.trans h.now,fun hg=>k.gate (h.gate hg),fun x hx=>(k.fly x hx).elim (h.fly x) .inr,fun hl=>k.flyN (h.flyN hl)⟩
theorem cS.drop (w:den tNw):cS w (zA w):=⟨rfl,rfl,id,fun x hx=> .inl hx,id⟩
theorem cS.box (w:den tNw) (i:Nat) (x:den tIb):cS w (rG w i x):=⟨rfl,rfl,id,fun x hx=> .inl hx,id⟩
theorem cS.flows (w:den tNw) (l:lFl):cS w (dU w l):=⟨rfl,rfl,id,fun x hx=> .inl hx,id⟩
theorem cS.tell (w:den tNw) (r:Int) (p:den tPk):cS w (wR w r p):=cS.flows w _
theorem cS.send {w:den tNw} {r eg:Int} {p:den tPk} (hp:tot tPk p<=1100):cS w (rD w r eg p):=by
 unfold rD
 split
 .rename_i hc
  rw [cBg,zR] at hc
  refine ⟨rfl,rfl,fun hg=>hg.trans _ _ _,fun x hx=> ?_,fun hl=> ?_⟩
  .rcases cBp.1 (show x∈aQ w++_ from hx) with hx | hx
   .exact .inl hx
   .have :x=_:=cBn.1 hx
    subst this
    exact .inr hp
  .show (aQ w++_).length<=150
   have :=hc.2
   simp
   omega
 .exact cS.drop w
theorem aOn {t:den tTo} {now:Int} {dead:List Int} {r inn:Int} {p:den tPk} (h:((aW t now dead r inn p).1==0)=true):tot tPk (aW t now dead r inn p).2.2.1<=1100:=by
 have hv:gD p=true:=aIa (t:=t) (r:=r) (now:=now) (dead:=jS t dead r) (inn:=inn) (by
  have h:((fwd t r now (jS t dead r) inn p).1==0)=true:=h
  rw [eq_of_beq h];rfl)
 unfold aW
 rw [aI5]
 exact cBf (aF3 hv) (by decide)
theorem cS.proc0 (w:den tNw) (r inn:Int) (p:den tPk):cS w (proc0 w r inn p):=by
 unfold Go.Proofs.YtcppmcbkokgfcaaGreat.proc0
 split
 .rename_i h;exact cS.send (aOn h)
 .split
  .exact cS.tell w _ _
  .exact cS.drop w
theorem cS.proc (w:den tNw) (r inn:Int) (p:den tPk):cS w (fK w r inn p):=by
 unfold fK
 split
 .rename_i h;exact cS.send (aOn h)
 .split
  .split
   .unfold aAw
    split
    .exact cS.refl w
    .split
     .exact (cS.box w _ _).trans (cS.proc0 _ _ _ _)
     .exact cS.box w _ _
   .exact cS.tell w _ _
  .split
   .unfold aEz
    split
    .exact (cS.proc0 _ _ _ _).trans (cS.drop _)
    .exact (cS.tell _ _ _).trans (cS.drop _)
   .exact cS.drop w
theorem cS.stepT (k:Nat) (w:den tNw):cS w (stepT k w):=by
 unfold Go.Proofs.YtcppmcbkokgfcaaGreat.stepT
 split
 .split
  .exact (cS.flows w _).trans (cS.proc _ _ _ _)
  .exact cS.flows w _
 .exact cS.refl w
theorem cS.tickL: ∀ (n k:Nat) (w:den tNw),cS w (tickL k n w)
 | 0,_,w=>cS.refl w
 | n+1,k,w=>(cS.stepT k w).trans (cS.tickL n (k+1) _)
structure rP (t:den tTo) (B k:Nat) (w:den tNw):Prop where
 keep:eG B 4 w
 top:nT w=t
 gate:OkS (nG w) (aT w)
 lo:(0:Int)<=aT w
 hi:aT w<=60+(k:Int)
 fly: ∀ x∈aQ w,tot tPk x.2.2<=1100
 flyN:(aQ w).length<=150
theorem rP.mono {t:den tTo} {B C k j:Nat} {w:den tNw} (h:rP t B k w) (hB:B<=C) (hk:k<=j):rP t C j w:=⟨h.keep.mono hB,h.top,h.gate,h.lo,by have :=h.hi;omega,h.fly,h.flyN⟩
theorem rP.step {t:den tTo} {B C k:Nat} {w w':den tNw} (h:rP t B k w) (s:cS w w') (hk:eG C 4 w'):rP t C k w':=
 ⟨hk,s.top.trans h.top,s.gate h.gate,by rw [s.now];exact h.lo,by rw [s.now];exact h.hi,fun x hx=>(s.fly x hx).elim (h.fly x) id,s.flyN h.flyN⟩
theorem bEi {t:den tTo} {B k:Nat} {w:den tNw} (h:rP t B k w) (hk:k<=1000):rP t B (k+1) (aE2 w):=by
 have hlo:=h.lo
 have hhi:=h.hi
 have e:wr (aT w+1)=aT w+1:=bX (by omega) (by omega)
 refine ⟨aGc h.keep,h.top,?_,?_,?_,h.fly,h.flyN⟩
 .show OkS ((nG w).1,aFe (nG w).2.1 (wr (aT w+1)),[]) (wr (aT w+1))
  rw [e]
  exact h.gate.tick (by omega)
 .show (0:Int)<=wr (aT w+1)
  omega
 .show wr (aT w+1)<=_
  omega
theorem aVc {t:den tTo} {B k:Nat} {w:den tNw} (h:rP t B k w) (hk:k<=1000):rP t (B+656) (k+1) (cV w):=by
 have hkp:=aFy h.keep
 unfold cV at hkp ⊢
 split
 .exact h.mono (by omega) (by omega)
 .rename_i hn
  rw [zS hn] at hkp
  exact (bEi h hk).step (cS.tickL _ _ _) hkp
theorem bCm {w:den tNw} {x:den tFy}:tot tNw (bG w (aQ w++[x]))=tot tNw w+(1+tot tPk x.2.2):=by
 have h1:=aKq w (aQ w++[x])
 rw [sU,aEf] at h1
 have e:tot tFy x=tot tPk x.2.2:=by simp [oW,qK]
 omega
theorem bJv (m:Nat) (dead:List Int) (i:Int) (b:Bool):(aB4 m dead i b).length<=m:=by
 unfold aB4
 exact cBf (List.length_filter_le ..) (by simp)
theorem bA2 (w:den tNw) (l:List Int):tot tNw (aI6 w l)+(aO w).length=tot tNw w+l.length:=by
 have e:tot tNw (aI6 w l)=(tot (.sl tAS) (nT w).1+tot (.sl tLk) (nT w).2)+((tot (.sl tSg) (nK w).1+tot (.sl tSg) (nK w).2)+((0+(tot (.sl tRs) (nG w).2.1+tot (.sl tUs) (nG w).2.2))+(0+(tot (.sl ti) l+(tot (.sl tFy) (aQ w)+(tot (.sl tFl) (aD w)+(tot (.sl tIb) (bJ w)+0))))))):=rfl
 have r: ∀ l:List Int,tot (.sl ti) l=l.length:=fun l=>dK rfl
 rw [e,fN w,r,r]
 omega
theorem bB2 {t:den tTo} {B k:Nat} {w:den tNw} {e:den kR} (h:rP t B k w) (hk:k<=1000) (ht:t.2.length<=100) (he:EvD w e):rP t (B+2000) (k+1) (doW w e).2:=by
 have same:rP t (B+2000) (k+1) w:=h.mono (by omega) (by omega)
 unfold doW
 split
 .exact (aVc h hk).mono (by omega) (by omega)
 .split
  .split
   .rename_i x hi hx
    have hm:=cBr hx
    have hb:=h.keep.bytes.fly x hm
    have hg:rP t B k (aDp w e.2.1.toNat):=h.step ⟨rfl,rfl,id,fun y hy=> ?_,fun hl=> ?_⟩ (aJ2 h.keep _)
    .exact ((hg.step (cS.proc _ _ _ _) (bBd hg.keep hb)).mono (by omega) (by omega))
    .rcases cBp.1 (show y∈(aQ w).take _++(aQ w).drop _ from hy) with hy | hy
     .exact .inl (cCv hy)
     .exact .inl (cC1 hy)
    .show ((aQ w).take _++(aQ w).drop _).length<=150
     simp only [cCd,cCq,cDl]
     omega
   .exact same
  .split
   .split
    .have hg:rP t B k (aDp w e.2.1.toNat):=h.step ⟨rfl,rfl,id,fun y hy=> ?_,fun hl=> ?_⟩ (aJ2 h.keep _)
     .exact (hg.step (cS.drop _) ⟨hg.keep.tot,hg.keep.flows,⟨hg.keep.bytes.fly,hg.keep.bytes.msg⟩⟩).mono (by omega) (by omega)
     .rcases cBp.1 (show y∈(aQ w).take _++(aQ w).drop _ from hy) with hy | hy
      .exact .inl (cCv hy)
      .exact .inl (cC1 hy)
     .show ((aQ w).take _++(aQ w).drop _).length<=150
      simp only [cCd,cCq,cDl]
      omega
    .exact same
   .split
    .split
     .rename_i x hi hx
      have hm:=cBr hx
      rw [cBg] at hi
      have hlt: ¬ (((aQ w).length:Int)>=150):=by have :=hi.2;simpa using this
      have ht':=bCm (w:=w) (x:=x)
      have hx':=h.fly x hm
      have hkp:=h.keep.tot
      refine rP.mono (B:=B+1101) (k:=k) (h.step (w':=bG w (aQ w++[x])) ⟨rfl,rfl,id,fun y hy=> ?_,fun hl=> ?_⟩ ⟨by omega,h.keep.flows,⟨fun y hy=> ?_,h.keep.bytes.msg⟩⟩) (by omega) (by omega)
      .rcases cBp.1 (show y∈aQ w++[x] from hy) with hy | hy
       .exact .inl hy
       .rw [cBn.1 hy];exact .inl hm
      .show (aQ w++[x]).length<=150
       simp only [cCd,cCy]
       omega
      .rcases cBp.1 (show y∈aQ w++[x] from hy) with hy | hy
       .exact h.keep.bytes.fly y hy
       .rw [cBn.1 hy];exact h.keep.bytes.fly x hm
     .exact same
    .split
     .show rP t (B+2000) (k+1) (aDt w e.2.1 (e.1==5))
      unfold aDt
      split
      .exact same
      .have h1:=bA2 w (aB4 (nT w).2.length (aO w) e.2.1 (e.1==5))
       have h2:=bJv (nT w).2.length (aO w) e.2.1 (e.1==5)
       have h3:(nT w).2.length<=100:=by rw [h.top];exact ht
       have hkp:=h.keep.tot
       exact rP.mono (B:=B+100) (k:=k) (h.step (w':=aI6 w (aB4 (nT w).2.length (aO w) e.2.1 (e.1==5))) ⟨rfl,rfl,id,fun y hy=> .inl hy,id⟩ ⟨by omega,h.keep.flows,⟨h.keep.bytes.fly,h.keep.bytes.msg⟩⟩) (by omega) (by omega)
     .split
      .split
       .rename_i hc
        rw [cBg] at hc
        have hlt: ¬ (((aQ w).length:Int)>=150):=by have :=hc.2;simpa using this
        have ht':=bCm (w:=w) (x:=e.2.2.2)
        have hx':=he.pk.1
        have hkp:=h.keep.tot
        refine rP.mono (B:=B+1101) (k:=k) (h.step (w':=bG w (aQ w++[e.2.2.2])) ⟨rfl,rfl,id,fun y hy=> ?_,fun hl=> ?_⟩ ⟨by omega,h.keep.flows,⟨fun y hy=> ?_,h.keep.bytes.msg⟩⟩) (by omega) (by omega)
        .rcases cBp.1 (show y∈aQ w++[e.2.2.2] from hy) with hy | hy
         .exact .inl hy
         .rw [cBn.1 hy];exact .inr hx'
        .show (aQ w++[e.2.2.2]).length<=150
         simp only [cCd,cCy]
         omega
        .rcases cBp.1 (show y∈aQ w++[e.2.2.2] from hy) with hy | hy
         .exact h.keep.bytes.fly y hy
         .rw [cBn.1 hy];exact he.pk.2
       .exact same
      .split
       .split
        .rename_i f hi hf
         have hm:=cBr hf
         have h1:=aOb (t:=tFl) (y:=aIs f e.2.2.1) hf
         have h5:=aGy w ((aD w).set e.2.1.toNat (aIs f e.2.2.1))
         have h6:=fN w
         have hkp:=h.keep.tot
         have h2:tot tFl (aIs f e.2.2.1)<=tot tFl f+4:=by
          unfold aIs
          split
          .obtain ⟨a,b,c,d,ms,ps,cu,wa,rv⟩:=f
           show tot tFl (a,b,c,d,ms++[e.2.2.1],ps,cu,wa,rv)<=tot tFl (a,b,c,d,ms,ps,cu,wa,rv)+4
           rw [aHd,aHd,sU,bC1]
           have :=he.data.1
           omega
          .omega
         refine rP.mono (B:=B+4) (k:=k) (h.step (w':=dU w ((aD w).set e.2.1.toNat (aIs f e.2.2.1))) (cS.flows w _) ⟨by omega,by show ((aD w).set _ _).length<=4;rw [cC2];exact h.keep.flows,⟨h.keep.bytes.fly,fun g hg m hmm=> ?_⟩⟩) (by omega) (by omega)
         rcases cDz (show g∈(aD w).set _ _ from hg) with hg | rfl
         .exact h.keep.bytes.msg g hg m hmm
         .unfold aIs at hmm
          split at hmm
          .rcases cBp.1 (show m∈f.2.2.2.2.1++[e.2.2.1] from hmm) with hmm | hmm
           .exact h.keep.bytes.msg f hm m hmm
           .rw [cBn.1 hmm];exact he.data.2
          .exact h.keep.bytes.msg f hm m hmm
        .exact same
       .exact same
inductive Ran (v:den tNw):vY->den tNw->Prop
 | nil:Ran v [] v
 | snoc {l:vY} {w:den tNw} {e:den kR} (h:Ran v l w) (he:EvD w e):Ran v (l++[e]) (doW w e).2
theorem yI.gateOk {n:Nat} {v:den tNw} (h:yI n v):OkS (nG v) (aT v):=by
 have h1:=h.res
 rw [h.now,h.gate]
 exact ⟨by show (1:Int)<=12;decide,by show (20:Int)>=12;decide,h1,fun j x hx=>by simp at hx⟩
theorem yI.run {v:den tNw} (h:yI 3 v):rP (nT v) 1000 0 v where
 keep:=⟨h.tot (by decide),cBf h.len (by decide),⟨fun x hx=>(by rw [h.fly] at hx;cases hx),fun f hf m hm=>(h.flows f hf).bytes m hm⟩⟩
 top:=rfl
 gate:=h.gateOk
 lo:=by rw [h.now];decide
 hi:=by rw [h.now];decide
 fly:=fun x hx=>by rw [h.fly] at hx;cases hx
 flyN:=by rw [h.fly];exact cB1 _
theorem Ran.run {v:den tNw} (hv:yI 3 v) {l:vY} {w:den tNw} (h:Ran v l w):l.length<=1000->rP (nT v) (1000+2000 * l.length) l.length w:=by
 induction h with
 | nil=>intro _;exact hv.run
 | snoc h he ih=>
  intro hl
  simp only [cCd,cCy] at hl ⊢
  exact (bB2 (ih (by omega)) (by omega) hv.top.links he).mono (by omega) (by omega)
theorem rP.netE {t:den tTo} {B k:Nat} {w:den tNw} (h:rP t B k w) (hB:B<=536870912) (h1:1<=t.1.length) (h8:t.1.length<=8) (hl:t.2.length<=100):bOi w:=
 ⟨cBf h.keep.tot hB,by rw [h.top];exact ⟨h1,h8⟩,by rw [h.top];exact hl,h.flyN,h.fly,h.keep.bytes.fly,h.keep.flows⟩
def cAo (v:den tNw) (l:vY) (w:den tNw) (c:List Int) (p h:Int):q17:=
 ((nG v).1,aT v,dQ v,l,(nT w).1,(nT w).2,(nK w).1,(nK w).2,(nG w).1,(nG w).2.1,(nG w).2.2,aT w,aO w,dQ w,(nT v).1,(nT v).2,(nK v).1,(nK v).2,(nG v).2.1,(nG v).2.2,aO v,aQ v,aD v,bJ v,aQ w,aD w,bJ w,c,p,h)
abbrev RnS:=Int×lAS×lLk×lSg×lSg×Int×lRs×lUs×Int×lI×Int×vY×lFy×lFl×lIb×lI×Int×Int
abbrev RnR:=lAS×lLk×lSg×lSg×Int×lRs×lUs×Int×lI×Int×vY×lFy×lFl×lIb×lI×Int×Int
def rnS (n:Nat) (l:vY) (w:den tNw) (c:List Int) (p h:Int):RnS:=((n:Int),(nT w).1,(nT w).2,(nK w).1,(nK w).2,(nG w).1,(nG w).2.1,(nG w).2.2,aT w,aO w,dQ w,l,aQ w,aD w,bJ w,c,p,h)
def bV5 (code:List Int) (N:Nat) (o:Option q17):Prop:=
 ∃ v l w c' p' h',o=some (cAo v l w c' p' h')/\yI 3 v/\Ran v l w/\l.length<=N/\Cur code (c',p',h')
theorem bT2 {code:List Int} (hl:code.length<=1048576) {most:Nat} (h0:0<most) (h1:most<=200) {c:List Int} {p h:Int} (hc:Cur code (c,p,h)):bV5 code (3+most) (aA8 (c,p,h) (most:Int)):=by
 obtain ⟨v,c1,p1,h1',e1,hv,k1⟩:=bCn hl hc
 obtain ⟨v2,c2,p2,h2,e2,r2,k2⟩:=aK hl (n:=(most:Int)) (by omega) (by omega) k1
 obtain ⟨m2,rfl⟩:=cB7 r2.1
 have w2:wr ((3:Int)+(m2:Int))=((m2+3:Nat):Int):=by rw [bX (by omega) (by omega)];omega
 have sw:SmB 68719476736 tNw v:=(bN (hv.tot (by decide))).mono (by decide)
 have e3:jF (((aAn v c1 p1 h1').2.2.2.1,(aAn v c1 p1 h1').2.2.2.2.1),((aAn v c1 p1 h1').2.2.2.2.2.1,(aAn v c1 p1 h1').2.2.2.2.2.2.1),((aAn v c1 p1 h1').1,(aAn v c1 p1 h1').2.2.2.2.2.2.2.1,(aAn v c1 p1 h1').2.2.2.2.2.2.2.2.1),(aAn v c1 p1 h1').2.1,(aAn v c1 p1 h1').2.2.2.2.2.2.2.2.2.1,(aAn v c1 p1 h1').2.2.2.2.2.2.2.2.2.2.1,(aAn v c1 p1 h1').2.2.2.2.2.2.2.2.2.2.2.1,(aAn v c1 p1 h1').2.2.2.2.2.2.2.2.2.2.2.2.1,(aAn v c1 p1 h1').2.2.1)=some (eV v):=aJe sw
 have e2:aB ((aAn v c1 p1 h1').2.2.2.2.2.2.2.2.2.2.2.2.2.1,(aAn v c1 p1 h1').2.2.2.2.2.2.2.2.2.2.2.2.2.2.1,(aAn v c1 p1 h1').2.2.2.2.2.2.2.2.2.2.2.2.2.2.2) (most:Int)=some ((m2:Int),c2,p2,h2):=e2
 unfold aA8 bYe pj3 pj6 aG aI aR bR fJ mP tA xR yZ aBp aD6 zz4 zz5 zz6 zz7 zz8 zz9
 simp only [aS,bI,aZ,bA,bD,e1,aA,e3,e2,w2]
 refine jC (G:=bV5 code (3+most)) (fun (n:Nat) (s:RnS)=> ∃ l w c p h,s=rnS n l w c p h/\l.length+n<=3+most/\Ran v l w/\Cur code (c,p,h)) (fun r:RnR=> ∃ n l w c p h,r=(rnS n l w c p h).2/\l.length<=3+most/\Ran v l w/\Cur code (c,p,h)) ?_ (m2+3) (rnS (m2+3) [] v c2 p2 h2) ⟨[],v,c2,p2,h2,rfl,by simp only [List.length_nil];omega,.nil,k2⟩ ?_
 .rintro n s ⟨l,w,c3,p3,h3,rfl,hn,hr,k3⟩
  cases n with
  | zero=>exact .inl ⟨_,rfl,0,l,w,c3,p3,h3,rfl,by omega,hr,k3⟩
  | succ n=>
   right
   have hrun:=hr.run hv (by omega)
   have hE:=hrun.netE (by omega) hv.top.pos hv.top.len hv.top.links
   obtain ⟨e,c4,p4,h4,e4,he,k4⟩:=bOe hl hE k3
   have e5:=cAz (w:=w) (e:=e) (by decide) hrun.keep (by omega) (by
     have h8:=he.hi
     have h9: ¬ (e.1=(9:Int)):=fun h=>by rw [h] at h8;exact absurd h8 (by decide)
     exact beq_eq_false_iff_ne.2 h9) ⟨by have :=he.data.1;omega,fun x hx=>trivial⟩ (cBf he.pk.1 (by decide))
   have wn:wr (((n+1:Nat):Int) - 1)=(n:Int):=by rw [bX (by omega) (by omega)];omega
   refine ⟨n,rnS n (l++[e]) (doW w e).2 c4 p4 h4,by omega,?_,l++[e],(doW w e).2,c4,p4,h4,rfl,by simp only [cCd,cCy];omega,hr.snoc he,k4⟩
   obtain ⟨⟨as,ls⟩,⟨dn,co⟩,⟨cap,res,us⟩,now,dead,fly,flows,box,drop⟩:=w
   obtain ⟨kd,en,data,to,ing,k1,k2,k3,k4,k5,k6,k7,k8,k9,k10⟩:=e
   show cond (decide (((n+1:Nat):Int)>(0:Int))) _ _=_
   rw [zX (show ((n+1:Nat):Int)>0 by omega),zZ]
   simp only [rnS,nT,nK,nG,aT,aO,aQ,aD,bJ,dQ,zZ,e4,aA,nxR,aE (b:=168) (n:=l.length) (m:=1) (by decide) (by omega),e5,aN,wn]
 .rintro r ⟨n,l,w,c3,p3,h3,rfl,hn,hr,k3⟩
  exact ⟨v,l,w,c3,p3,h3,rfl,hv,hr,hn,k3⟩
def bGj (w:den tNw):q4:=
 ((nT w).1,(nT w).2,(nK w).1,(nK w).2,(nG w).1,(nG w).2.1,(nG w).2.2,aT w,aO w,dQ w,aQ w,aD w,bJ w)
theorem aV6 {code:List Int} (hl:code.length<=1048576) {most:Nat} (h0:0<most) (h1:most<=200) {c:List Int} {p h:Int} (hc:Cur code (c,p,h)): ∃ v l w c' p' h',pF (c,p,h) (most:Int)=some ((nT w).1,(nT w).2,(nK w).1,(nK w).2,(nG w).1,(nG w).2.1,(nG w).2.2,aT w,aO w,dQ w,aQ w,aD w,bJ w,c',p',h')/\yI 3 v/\Ran v l w/\l.length<=3+most/\Cur code (c',p',h'):=by
 obtain ⟨v,l,w,c1,p1,h1,e1,hv,hr,hn,k1⟩:=bT2 hl h0 h1 hc
 exact ⟨v,l,w,c1,p1,h1,by unfold pF pj3 pj6 aG aI aR bR aLc zz4 zz5 zz6 zz7 zz8 zz9;rw [e1];rfl,hv,hr,hn,k1⟩
def hdS (l:cJ):Option Int:=l.head?.map fun x=>(x.1:Int)
def ltS (l:cJ):Option Int:=l.getLast?.map fun x=>(x.1:Int)
theorem aJp (l:cJ) (x:den aAt):ltS (l++[x])=some x.1:=by unfold ltS;rw [cD2];rfl
theorem aPr (l:cJ) (x:den aAt):hdS (l++[x])=if l=[] then some x.1 else hdS l:=by
 cases l with
 | nil=>rfl
 | cons y l=>rfl
theorem bUu (nf:Bool) (p:den tPp) (i:Nat) (h:den cM) (out:cJ):ltS (aAq nf p i h out)=some h.1/\hdS (aAq nf p i h out)=if out=[] then some h.1 else hdS out:=by
 unfold aAq
 rcases nW out with rfl | ⟨m,z,rfl⟩
 .exact ⟨rfl,rfl⟩
 .rw [cD2]
  simp only
  split
  .rename_i hc
   simp only [cBg,beq_iff_eq] at hc
   rw [cEr]
   refine ⟨aJp _ _,?_⟩
   have hne:m++[z]≠[]:=by simp
   rw [zS hne,aPr,aPr]
   by_cases hm:m=[]
   .rw [zT hm,zT hm];exact congrArg some hc.2.2.symm
   .rw [zS hm,zS hm]
  .exact ⟨aJp _ _,by rw [aPr]⟩
theorem aSi (nf:Bool) (p:den tPp): ∀ (l:dP) (k:Nat) (a:cJ),ltS (cN (fun i h b=>aAq nf p i h b) k l a)=(if l=[] then ltS a else gW l)/\hdS (cN (fun i h b=>aAq nf p i h b) k l a)=(if a=[] then qA l else hdS a)
 | [],k,a=>by
  refine ⟨rfl,?_⟩
  show hdS a=_
  split
  .rename_i h;rw [h];rfl
  .rfl
 | x::l,k,a=>by
  obtain ⟨h1,h2⟩:=aSi nf p l (k+1) (aAq nf p k x a)
  obtain ⟨g1,g2⟩:=bUu nf p k x a
  have hne:aAq nf p k x a≠[]:=fun e=>by rw [e] at g1;cases g1
  rw [zS hne,g2] at h2
  refine ⟨?_,?_⟩
  .show ltS (cN _ (k+1) l (aAq nf p k x a))=_
   cases l with
   | nil=>
    show ltS (aAq nf p k x a)=_
    rw [zS (List.cons_ne_nil _ _),g1];rfl
   | cons y l=>
    rw [h1,zS (List.cons_ne_nil _ _),zS (List.cons_ne_nil _ _)]
    unfold gW
    rw [List.getLast?_cons_cons]
  .show hdS (cN _ (k+1) l (aAq nf p k x a))=_
   rw [h2];rfl
theorem aYx: ∀ (p:lPp) (k:Nat) (a:cJ),a≠[]->hdS (cN (fun k x a=>sS (decide (0<k)) x a) k p a)=hdS a/\(∀ b,aEu p=some b->ltS (cN (fun k x a=>sS (decide (0<k)) x a) k p a)=some b)
 | [],k,a,_=>⟨rfl,fun b h=>by cases h⟩
 | x::p,k,a,ha=>by
  obtain ⟨g1,g2⟩:=aSi (decide (0<k)) x x.2.2.2 0 a
  rw [zS ha] at g2
  have hne:sS (decide (0<k)) x a≠[]:=fun e=>by
   have g2:hdS (sS (decide (0<k)) x a)=hdS a:=g2
   rw [e] at g2
   cases a with
   | nil=>exact ha rfl
   | cons y l=>cases g2
  obtain ⟨h1,h2⟩:=aYx p (k+1) (sS (decide (0<k)) x a) hne
  refine ⟨h1.trans g2,fun b hb=> ?_⟩
  cases p with
  | nil=>
   have hb:gW x.2.2.2=some b:=hb
   show ltS (sS (decide (0<k)) x a)=some b
   have g1:ltS (sS (decide (0<k)) x a)=_:=g1
   rw [g1,zS (fun e=>by rw [e] at hb;cases hb),hb]
  | cons y p=>
   have hb:aEu (y::p)=some b:=by
    unfold aEu at hb ⊢
    rwa [List.getLast?_cons_cons] at hb
   exact h2 b hb
theorem bCr (l:cJ):hdS (aIu l)=hdS l/\ltS (aIu l)=ltS l:=by
 unfold aIu
 cases l with
 | nil=>exact ⟨rfl,rfl⟩
 | cons x xs=>
  simp only
  rcases nW xs with rfl | ⟨m,z,rfl⟩
  .exact ⟨rfl,rfl⟩
  .have e:((x.1,(0:Int),x.2.2)::(m++[z]):cJ)=((x.1,(0:Int),x.2.2)::m)++[z]:=rfl
   rw [e,cD2]
   simp only
   rw [cEr,aJp]
   refine ⟨rfl,?_⟩
   rw [show (x::(m++[z]):cJ)=(x::m)++[z] from rfl,aJp]
theorem bB7 {p:lPp} {a b:Int} (ha:aMz p=some a) (hb:aEu p=some b):ends p=(a,b):=by
 cases p with
 | nil=>cases ha
 | cons x p=>
  have ha:qA x.2.2.2=some a:=ha
  obtain ⟨g1,g2⟩:=aSi false x x.2.2.2 0 []
  have g1:ltS (sS false x [])=_:=g1
  have g2:hdS (sS false x [])=qA x.2.2.2:=g2
  have hne:sS false x []≠[]:=fun e=>by rw [e] at g2;rw [<- g2] at ha;cases ha
  obtain ⟨h1,h2⟩:=aYx p 1 (sS false x []) hne
  have e0:aB9 (x::p)=cN (fun k x a=>sS (decide (0<k)) x a) 1 p (sS false x []):=rfl
  have f1:hdS (iM (x::p))=some a:=by
   unfold iM
   rw [(bCr _).1,e0,h1,g2,ha]
  have f2:ltS (iM (x::p))=some b:=by
   unfold iM
   rw [(bCr _).2,e0]
   cases p with
   | nil=>
    have hb:gW x.2.2.2=some b:=hb
    show ltS (sS false x [])=some b
    rw [g1,zS (fun e=>by rw [e] at hb;cases hb),hb]
   | cons y p=>
    have hb:aEu (y::p)=some b:=by
     unfold aEu at hb ⊢
     rwa [List.getLast?_cons_cons] at hb
    exact h2 b hb
  unfold ends
  unfold hdS at f1
  unfold ltS at f2
  obtain ⟨u,hu,eu⟩:=cCb.1 f1
  obtain ⟨v,hv,ev⟩:=cCb.1 f2
  rw [hu,hv]
  simp only
  rw [eu,ev]
theorem aVm (x:den tPp):qA (wC x).2.2.2=gW x.2.2.2/\gW (wC x).2.2.2=qA x.2.2.2:=by
 unfold wC qA gW
 simp only [List.head?_reverse,List.getLast?_reverse,and_self]
theorem aVe (p:lPp):aMz (yC p)=aEu p/\aEu (yC p)=aMz p:=by
 unfold yC aMz aEu
 rw [List.head?_map,List.getLast?_map,List.head?_reverse,List.getLast?_reverse]
 constructor
 .cases p.getLast? with
  | none=>rfl
  | some x=>exact (aVm x).1
 .cases p.head? with
  | none=>rfl
  | some x=>exact (aVm x).2
theorem aUa {α:Type} (p:α->α->Bool) (hp: ∀ x y,p x y=true->x=y): ∀ {a b:List α},a.length=b.length->aIw p a b=true->a=b
 | [],[],_,_=>rfl
 | [],_::_,h,_=>by simp at h
 | _::_,[],h,_=>by simp at h
 | x::a,y::b,h,e=>by
  simp only [aIw,cBg] at e
  rw [hp x y e.1,aUa p hp (by simpa using h) e.2]
theorem bBz (b:Bool):cond b true false=b:=by cases b<;>rfl
theorem bN8 {a b:dP} (h:aQ8 a b=true):a=b:=by
 unfold aQ8 at h
 by_cases hl:a.length=b.length
 .rw [zX hl,cBh,zY,bBz] at h
  refine aUa _ (fun x y e=> ?_) hl h
  simp only [cBg,beq_iff_eq,and_true] at e
  obtain ⟨e1,e2,e3,e4,e5⟩:=e
  obtain ⟨x1,x2,x3,x4,x5⟩:=x
  obtain ⟨y1,y2,y3,y4,y5⟩:=y
  simp only at e1 e2 e3 e4 e5
  rw [e1,e2,e3,e4,e5]
 .rw [zW hl] at h;cases h
theorem aYn {a b:Bool}:cond a b false=true↔a=true/\b=true:=by cases a<;>cases b<;>simp
theorem bJ9 {a b:den tPp} (h:aE8 a b=true):a=b:=by
 unfold aE8 at h
 simp only [aYn,beq_iff_eq] at h
 obtain ⟨e1,e2,e3,e4⟩:=h
 have e4:=bN8 e4
 obtain ⟨x1,x2,x3,x4⟩:=a
 obtain ⟨y1,y2,y3,y4⟩:=b
 simp only at e1 e2 e3 e4
 rw [e1,e2,e3,e4]
theorem bPd {a b:lPp} (h:aRv a b=true):a=b:=by
 unfold aRv at h
 by_cases hl:a.length=b.length
 .rw [zX hl,cBh,zY,bBz] at h
  exact aUa _ (fun x y e=>bJ9 e) hl h
 .rw [zW hl] at h;cases h
theorem bPa {a b:den tPk} (ha:fR a) (hb:fR b) (h:aCf a b=true):a=b:=by
 unfold aCf at h
 simp only [aYn,beq_iff_eq] at h
 obtain ⟨e1,e2,e3,e4,e5,e6,e7,e8,e9,e10⟩:=h
 have e4:=bPd e4
 have e10:=(bLg ha hb).1 e10
 obtain ⟨x1,x2,x3,x4,x5,x6,x7,x8,x9,x10⟩:=a
 obtain ⟨y1,y2,y3,y4,y5,y6,y7,y8,y9,y10⟩:=b
 simp only at e1 e2 e3 e4 e5 e6 e7 e8 e9 e10
 rw [e1,e2,e3,e4,e5,e6,e7,e8,e9,e10]
theorem eqI {a b:Int} (h:a=b):a=b:=h
theorem ltI {a b:Int} (h:a<b):a<b:=h
theorem leI {a b:Int} (h:a<=b):a<=b:=h
structure aAs (t:den tTo) (f:den tFl) (x:den tIb):Prop where
 val:lA f=true
 src:cU t f.1=true
 dst:cU t f.2.1=true
 xAS:x.1=f.2.1
 xFrom:x.2.1=f.1
 next:x.2.2.1=(x.2.2.2.length:Int)
 recv:x.2.2.2=f.2.2.2.2.1.take x.2.2.2.length
 len:x.2.2.2.length<=f.2.2.2.2.1.length
 ack:f.2.2.2.1<=(x.2.2.2.length:Int)
 paths: ∀ p∈f.2.2.2.2.2.1,aMz p=some f.1/\aEu p=some f.2.1
def tM (w:den tNw) (p:den tPk):Prop:= ∀ (k:Nat) (f:den tFl) (x:den tIb),(aD w)[k]? =some f->(bJ w)[k]? =some x->
 (p.1=(1:Int)->p.2.1=f.1->p.2.2.1=f.2.1->aMz p.2.2.2.1=some f.1/\aEu p.2.2.2.1=some f.2.1/\ ∃ s:Nat,p.2.2.2.2.2.2.2.2.1=(s:Int)/\f.2.2.2.2.1[s]? =some p.2.2.2.2.2.2.2.2.2)/\
 (p.1=(2:Int)->p.2.1=f.2.1->p.2.2.1=f.1->p.2.2.2.2.2.2.2.2.1<x.2.2.1)
def bNb (w:den tNw) (p:den tPk):Prop:=gD p=true->tM w p
structure fI (t:den tTo) (w:den tNw):Prop where
 top:nT w=t
 lenB:(bJ w).length=(aD w).length
 flow: ∀ (k:Nat) (f:den tFl) (x:den tIb),(aD w)[k]? =some f->(bJ w)[k]? =some x->aAs t f x
 uniq:(aD w).Pairwise fun f g=>qJ g f=false
 good: ∀ y∈aQ w,bNb w y.2.2
 to: ∀ y∈aQ w,cU t y.1=true
structure aO2 (w w':den tNw):Prop where
 flow: ∀ (k:Nat) (f':den tFl),(aD w')[k]? =some f'-> ∃ f,(aD w)[k]? =some f/\f'.1=f.1/\f'.2.1=f.2.1/\ ∀ (s:Nat) (m:List Int),f.2.2.2.2.1[s]? =some m->f'.2.2.2.2.1[s]? =some m
 box: ∀ (k:Nat) (x':den tIb),(bJ w')[k]? =some x'-> ∃ x,(bJ w)[k]? =some x/\x.2.2.1<=x'.2.2.1
theorem aO2.refl (w:den tNw):aO2 w w:=⟨fun k f h=>⟨f,h,rfl,rfl,fun _ _ h=>h⟩,fun k x h=>⟨x,h,cC3 _⟩⟩
theorem tM.grow {w w':den tNw} {p:den tPk} (h:tM w p) (g:aO2 w w'):tM w' p:=fun k f' x' hf hx=>by
 obtain ⟨f,hf0,e1,e2,e3⟩:=g.flow k f' hf
 obtain ⟨x,hx0,e4⟩:=g.box k x' hx
 obtain ⟨h1,h2⟩:=h k f x hf0 hx0
 rw [e1,e2]
 refine ⟨fun a b c=> ?_,fun a b c=>Int.lt_of_lt_of_le (h2 a b c) e4⟩
 obtain ⟨q1,q2,s,q3,q4⟩:=h1 a b c
 exact ⟨q1,q2,s,q3,e3 s _ q4⟩
theorem tM.goTo {w:den tNw} {p:den tPk} (h:tM w p) (i j b:Int):tM w (goTo p i j b):=h
theorem aM5 {w:den tNw} {p:den tPk} (h:p.1=(3:Int)):tM w p:=fun k f x _ _=>⟨fun e=>absurd (h.symm.trans e) (by decide),fun e=>absurd (h.symm.trans e) (by decide)⟩
theorem fI.same {t:den tTo} {w w':den tNw} (h:fI t w) (e1:nT w'=nT w) (e2:aD w'=aD w) (e3:bJ w'=bJ w) (e4: ∀ y∈aQ w',y∈aQ w\/(tM w y.2.2/\cU t y.1=true)):fI t w':=by
 have g:aO2 w w':=⟨fun k f h=>⟨f,by rw [<- e2];exact h,rfl,rfl,fun _ _ h=>h⟩,fun k x h=>⟨x,by rw [<- e3];exact h,cC3 _⟩⟩
 refine ⟨e1.trans h.top,by rw [e2,e3];exact h.lenB,fun k f x hf hx=>h.flow k f x (by rw [<- e2];exact hf) (by rw [<- e3];exact hx),by rw [e2];exact h.uniq,fun y hy=> ?_,fun y hy=> ?_⟩
 .rcases e4 y hy with hy | ⟨hy,_⟩
  .exact fun hv=>(h.good y hy hv).grow g
  .exact fun _=>hy.grow g
 .rcases e4 y hy with hy | ⟨_,hy⟩
  .exact h.to y hy
  .exact hy
theorem fI.drop {t:den tTo} {w:den tNw} (h:fI t w):fI t (zA w):=h.same rfl rfl rfl fun y hy=> .inl hy
theorem fI.map {t:den tTo} {w:den tNw} (h:fI t w) {l:lFl} (hl:l.length=(aD w).length)
  (hm: ∀ (k:Nat) (f':den tFl),l[k]? =some f'-> ∃ f,(aD w)[k]? =some f/\f'.1=f.1/\f'.2.1=f.2.1/\(∀ (s:Nat) (m:List Int),f.2.2.2.2.1[s]? =some m->f'.2.2.2.2.1[s]? =some m)/\ ∀ x,(bJ w)[k]? =some x->aAs t f x->aAs t f' x):fI t (dU w l):=by
 have g:aO2 w (dU w l):=⟨fun k f' hf=>by
  obtain ⟨f,a,b,c,d,_⟩:=hm k f' hf
  exact ⟨f,a,b,c,d⟩,fun k x h=>⟨x,h,cC3 _⟩⟩
 refine ⟨h.top,by show (bJ w).length=l.length;rw [hl];exact h.lenB,fun k f' x hf hx=> ?_,?_,fun y hy hv=>(h.good y hy hv).grow g,h.to⟩
 .obtain ⟨f,a,_,_,_,e⟩:=hm k f' hf
  exact e x hx (h.flow k f x a hx)
 .show l.Pairwise _
  rw [cDi]
  intro i j hi hj hij
  obtain ⟨f,a,b,c,_⟩:=hm i l[i] (cBe hi)
  obtain ⟨f',a',b',c',_⟩:=hm j l[j] (cBe hj)
  obtain ⟨hi',ei⟩:=cBm.1 a
  obtain ⟨hj',ej⟩:=cBm.1 a'
  have :=(cDi.1 h.uniq) i j hi' hj' hij
  rw [ei,ej] at this
  unfold qJ at this ⊢
  rw [b,c,b',c']
  exact this
theorem fI.one {t:den tTo} {w:den tNw} (h:fI t w) {i j:Nat} {f g:den tFl} (hf:(aD w)[i]? =some f) (hg:(aD w)[j]? =some g) (e1:f.1=g.1) (e2:f.2.1=g.2.1):i=j:=by
 obtain ⟨hi,ei⟩:=cBm.1 hf
 obtain ⟨hj,ej⟩:=cBm.1 hg
 have hs: ∀ a b:den tFl,a.1=b.1->a.2.1=b.2.1->qJ b a=true:=fun a b x y=>by
  unfold qJ
  rw [x,y];simp
 rcases Nat.lt_trichotomy i j with c | c | c
 .have :=(cDi.1 h.uniq) i j hi hj c
  rw [ei,ej,hs f g e1 e2] at this
  cases this
 .exact c
 .have :=(cDi.1 h.uniq) j i hj hi c
  rw [ei,ej,hs g f e1.symm e2.symm] at this
  cases this
theorem bEp {t:den tTo} {f:den tFl} {x:den tIb} {p:den tPk} (h:aAs t f x) (hp:aTm f p=true->p.2.2.2.2.2.2.2.2.1<x.2.2.1):aAs t (wB f p) x:=by
 unfold wB
 split
 .rename_i ha
  have hs:=hp ha
  unfold aTm at ha
  simp only [cBg,beq_iff_eq] at ha
  obtain ⟨_,_,_,h4,h5⟩:=ha
  obtain ⟨h6,h7⟩:=bM.1 h5
  have hn:=h.next
  have hv:=(vO f).1 h.val
  have hm:f.2.2.2.2.1.length<=20:=hv.2.2.2.2.1
  have e:wr (f.2.2.2.1+1)=f.2.2.2.1+1:=bX (by omega) (by omega)
  rw [e]
  refine ⟨?_,h.src,h.dst,h.xAS,h.xFrom,h.next,h.recv,h.len,?_,h.paths⟩
  .rw [vO]
   obtain ⟨q1,q2,q3,q4,q5,q6,q7,q8,q9,q10,q11,q12⟩:=hv
   exact ⟨q1,q2,q3,q4,q5,bM.2 ⟨by show (0:Int)<=f.2.2.2.1+1;omega,by show (f.2.2.2.2.1.length:Int)>=f.2.2.2.1+1;omega⟩,q7,q8,q9,q10,rfl,q12⟩
  .have e1:f.2.2.2.1<x.2.2.1:=h4▸hs
   rw [hn] at e1
   exact Int.add_one_le_of_lt e1
 .exact h
theorem bDt {t:den tTo} {f:den tFl} {x:den tIb} {p:den tPk} (h:aAs t f x):aAs t (aAr f p) x:=by
 unfold aAr
 cases p.1==3&&(yJ p.2.2.2.2.2.2.2.2.2).2.2.2 with
 | false=>exact h
 | true=>
  rw [zZ]
  have hv:=(vO f).1 h.val
  refine ⟨?_,h.src,h.dst,h.xAS,h.xFrom,h.next,h.recv,h.len,h.ack,h.paths⟩
  rw [vO]
  obtain ⟨q1,q2,q3,q4,q5,q6,q7,q8,q9,q10,q11,q12⟩:=hv
  obtain ⟨r1,r2⟩:=bOf (l:=f.2.2.2.2.2.2.2.2) (x:=aBx p.2.2.2.2.2.2.2.2.2) ⟨q12,q9⟩
  refine ⟨q1,q2,q3,q4,q5,q6,q7,q8,r2,?_,?_,r1⟩
  .show cond _ _ _=(0:Int)\/inR (cond _ _ _) 0 _=true
   cases aTn f (aBx p.2.2.2.2.2.2.2.2.2) with
   | false=>exact q10
   | true=>exact aYr q7 q10
  .show inR (cond _ _ _) 0 4=true
   cases aTn f (aBx p.2.2.2.2.2.2.2.2.2) with
   | false=>exact q11
   | true=>rfl
theorem bKf (f:den tFl) (p:den tPk):(wB f p).1=f.1/\(wB f p).2.1=f.2.1/\(wB f p).2.2.2.2.1=f.2.2.2.2.1:=by
 unfold wB;split<;>exact ⟨rfl,rfl,rfl⟩
theorem bJ0 (f:den tFl) (p:den tPk):(aAr f p).1=f.1/\(aAr f p).2.1=f.2.1/\(aAr f p).2.2.2.2.1=f.2.2.2.2.1:=by
 unfold aAr;cases p.1==3&&(yJ p.2.2.2.2.2.2.2.2.2).2.2.2<;>exact ⟨rfl,rfl,rfl⟩
theorem fI.tell {t:den tTo} {w:den tNw} {p:den tPk} (h:fI t w) (hg:tM w p) (r:Int):fI t (wR w r p):=by
 refine h.map (by simp) fun k f' hf'=> ?_
 rw [cDv] at hf'
 obtain ⟨f,hf,rfl⟩:=cCb.1 hf'
 have ht:(sN r p f).1=f.1/\(sN r p f).2.1=f.2.1/\(sN r p f).2.2.2.2.1=f.2.2.2.2.1:=by
  unfold sN
  split
  .split
   .exact bKf f p
   .exact bJ0 f p
  .exact ⟨rfl,rfl,rfl⟩
 refine ⟨f,hf,ht.1,ht.2.1,fun s m hm=>by rw [ht.2.2];exact hm,fun x hx hfx=> ?_⟩
 unfold sN
 split
 .split
  .refine bEp hfx fun ha=> ?_
   unfold aTm at ha
   simp only [cBg,beq_iff_eq] at ha
   exact (hg k f x hf hx).2 ha.1 ha.2.1 ha.2.2.1
  .exact bDt hfx
 .exact hfx
theorem fI.send {t:den tTo} {w:den tNw} {p:den tPk} (h:fI t w) (hg:tM w p) {r eg:Int} (hr:cU t (remote t r eg).1=true):fI t (rD w r eg p):=by
 unfold rD
 split
 .refine h.same rfl rfl rfl fun y hy=> ?_
  rcases cBp.1 (show y∈aQ w++_ from hy) with hy | hy
  .exact .inl hy
  .have :y=_:=cBn.1 hy
   subst this
   exact .inr ⟨hg,by rw [h.top];exact hr⟩
 .exact h.drop
theorem bFp {t:den tTo} {w:den tNw} {k:Nat} {f:den tFl} {x:den tIb} {p:den tPk} (hf:(aD w)[k]? =some f) (hx:(bJ w)[k]? =some x) (hg:tM w p) (h:aAs t f x):aAs t f (eE x p)/\x.2.2.1<=(eE x p).2.2.1:=by
 unfold eE
 split
 .rename_i ht
  unfold aWr aBq at ht
  simp only [cBg,beq_iff_eq,zR] at ht
  obtain ⟨⟨h1,h2,h3⟩,h4,h5⟩:=ht
  obtain ⟨_,_,s,g1,g2⟩:=(hg k f x hf hx).1 h1 (by rw [h2,h.xFrom]) (by rw [h3,h.xAS])
  have hn:=eqI h.next
  have h5:=ltI h5
  have h4':=eqI h4
  have g1':=eqI g1
  have hs:s=x.2.2.2.length:=by omega
  subst hs
  obtain ⟨hlt,he⟩:=cBm.1 g2
  have e:wr (x.2.2.1+1)=((x.2.2.2.length+1:Nat):Int):=by
   rw [hn];exact bL (by omega)
  rw [e]
  have ha:=leI h.ack
  refine ⟨⟨h.val,h.src,h.dst,h.xAS,h.xFrom,by show ((x.2.2.2.length+1:Nat):Int)=((x.2.2.2++[_]).length:Int);simp,?_,?_,?_,h.paths⟩,?_⟩
  .show x.2.2.2++[p.2.2.2.2.2.2.2.2.2]=f.2.2.2.2.1.take (x.2.2.2++[p.2.2.2.2.2.2.2.2.2]).length
   rw [cCd,cCy,List.take_add_one,g2,<- h.recv]
   rfl
  .show (x.2.2.2++[p.2.2.2.2.2.2.2.2.2]).length<=_
   rw [cCd,cCy];omega
  .refine leI (a:=f.2.2.2.1) (b:=((x.2.2.2++[p.2.2.2.2.2.2.2.2.2]).length:Int)) ?_
   rw [cCd,cCy];omega
  .refine leI (a:=x.2.2.1) (b:=((x.2.2.2.length+1:Nat):Int)) ?_
   omega
 .exact ⟨h,cC3 _⟩
theorem fI.box {t:den tTo} {w:den tNw} {k:Nat} {x x':den tIb} (h:fI t w) (hx:(bJ w)[k]? =some x) (hn:x.2.2.1<=x'.2.2.1) (hf: ∀ f,(aD w)[k]? =some f->aAs t f x'):fI t (rG w k x')/\aO2 w (rG w k x'):=by
 have hk:k<(bJ w).length:=(cBm.1 hx).1
 have g:aO2 w (rG w k x'):=⟨fun k f h=>⟨f,h,rfl,rfl,fun _ _ h=>h⟩,fun j y hy=>by
  replace hy:((bJ w).set k x')[j]? =some y:=hy
  rw [cDr] at hy
  split at hy
  .rename_i e
   subst e
   try rw [zT hk] at hy
   injection hy with hy
   subst hy
   exact ⟨x,hx,hn⟩
  .exact ⟨y,hy,cC3 _⟩⟩
 refine ⟨⟨h.top,by show ((bJ w).set k x').length=_;rw [cC2];exact h.lenB,fun j f y hf' hy=> ?_,h.uniq,fun y hy hv=>(h.good y hy hv).grow g,h.to⟩,g⟩
 replace hy:((bJ w).set k x')[j]? =some y:=hy
 rw [cDr] at hy
 split at hy
 .rename_i e
  subst e
  try rw [zT hk] at hy
  injection hy with hy
  subst hy
  exact hf f hf'
 .exact h.flow j f y hf' hy
theorem bMt {t:den tTo} {w:den tNw} {k:Nat} {x:den tIb} {p:den tPk} (h:fI t w) (hk: ∃ f,(aD w)[k]? =some f) (hx:(bJ w)[k]? =some x) (ha:aDh x p=true) (hg:tM w p):tM w (mW x p):=by
 obtain ⟨f,hf⟩:=hk
 have hfx:=h.flow k f x hf hx
 unfold aDh aBq at ha
 simp only [cBg,beq_iff_eq,cCg,decide_eq_false_iff_not] at ha
 obtain ⟨⟨h1,h2,h3⟩,h4⟩:=ha
 have e1:(p.2.1:Int)=f.1:=h2.trans hfx.xFrom
 have e2:(p.2.2.1:Int)=f.2.1:=h3.trans hfx.xAS
 obtain ⟨p1,p2,_⟩:=(hg k f x hf hx).1 h1 e1 e2
 have he:ends (yC p.2.2.2.1)=(f.2.1,f.1):=bB7 ((aVe _).1.trans p2) ((aVe _).2.trans p1)
 have hm:mW x p=gU 2 (yC p.2.2.2.1) p.2.2.2.2.2.2.2.1 p.2.2.2.2.2.2.2.2.1 []:=by
  unfold mW
  rw [zT (by
   unfold aDh aBq
   simp only [cBg,beq_iff_eq,cCg,decide_eq_false_iff_not]
   exact ⟨⟨h1,h2,h3⟩,h4⟩)]
  rfl
 intro j g y hg' hy
 refine ⟨fun e=> ?_,fun _ a b=> ?_⟩
 .rw [hm] at e;exact absurd e (show ¬ ((2:Int)=1) by decide)
 .rw [hm] at a b ⊢
  have a:(ends (yC p.2.2.2.1)).1=g.2.1:=a
  have b:(ends (yC p.2.2.2.1)).2=g.1:=b
  rw [he] at a b
  have hj:k=j:=h.one hf hg' b a
  subst hj
  have :some x=some y:=hx.symm.trans hy
  injection this with this
  subst this
  exact Int.not_le.1 h4
theorem aSj {t:den tTo} {p:den tPt} (h:wfP t p=true) {k:Nat} {x:den tPp} (hx:p[k]? =some x):sP t x=true/\(k=0\/aNv ((p[k - 1]?).getD pt0) x=true):=by
 unfold wfP at h
 rw [cBg] at h
 have :=(aB2 (zM t p) p).1 h.2 k x hx
 unfold zM at this
 rw [cBg,cCz,zR] at this
 exact this
theorem bL3 {t:den tTo} {x:den tPp} (h:sP t x=true) {k:Nat} {y:den cM} (hy:x.2.2.2[k]? =some y):cU t y.1=true/\(k=0\/aKd t x ((x.2.2.2[k - 1]?).getD h0) y=true):=by
 unfold sP at h
 simp only [cBg] at h
 obtain ⟨_,_,_,_,h5,h6⟩:=h
 have a:=(aB2 (aFr t x.2.2.2) x.2.2.2).1 h5 k y hy
 have b:=(aB2 (zF t x) x.2.2.2).1 h6 k y hy
 unfold aFr at a
 unfold zF at b
 simp only [cBg] at a
 rw [cCz,zR] at b
 exact ⟨a.2.1,b⟩
theorem aY3 {t:den tTo} {x:den tPp} (h:sP t x=true):0<x.2.2.2.length:=by
 unfold sP at h
 rw [cBg] at h
 have :=(bM.1 h.1).1
 omega
theorem bYh {t:den tTo} {p:den tPk} (hw:wfP t p.2.2.2.1=true) (hh:cI p=true) (hz:0<=dA p) (hl:eB p=true) (ha:fS p=false):dA (adv p)=dA p/\(adv p).2.2.2.2.1=p.2.2.2.2.1+1/\(adv p).2.2.2.1=p.2.2.2.1:=by
 obtain ⟨i,e1,e2⟩:=aTt hh hz hl ha
 obtain ⟨i',j,f1,f2,f3,f4,f5⟩:=gV hh
 have f1':=eqI f1
 have :i'=i:=by have :=eqI (f1.symm.trans e1);omega
 subst this
 have e:adv p=goTo p (p.2.2.2.2.1+1) 0 (tD p).2.2.1:=by
  unfold adv
  rw [ha,hl,zW (show ¬ dA p<0 by omega)]
  rfl
 rw [e]
 refine ⟨?_,rfl,rfl⟩
 obtain ⟨v1,v2⟩:=aSj hw e2
 obtain ⟨u1,_⟩:=aSj hw f3
 have hj:aNv (bV p) (tD p)=true:=by
  rcases v2 with v2 | v2
  .omega
  .rw [show i'+1 - 1=i' by omega,f3] at v2
   exact v2
 unfold aNv at hj
 rw [cBg,beq_iff_eq] at hj
 have hp:=aY3 v1
 have hq:=aY3 u1
 have hhd:(tD p).2.2.2[0]? =some (aH7 (tD p)):=by
  unfold aH7
  rw [cBe hp];rfl
 have hjl:j=(bV p).2.2.2.length - 1:=by
  unfold eB at hl
  rw [beq_iff_eq,f2] at hl
  have hl:=eqI hl
  omega
 have hlt:aJl (bV p)=dH p:=by
  unfold aJl
  rw [<- hjl,f4];rfl
 have hn:cI (goTo p (p.2.2.2.2.1+1) 0 (tD p).2.2.1)=true/\bV (goTo p (p.2.2.2.2.1+1) 0 (tD p).2.2.1)=tD p/\dH (goTo p (p.2.2.2.2.1+1) 0 (tD p).2.2.1)=aH7 (tD p):=by
  have en:(p.2.2.2.2.1+1).toNat=i'+1:=by rw [f1];omega
  have a:bV (goTo p (p.2.2.2.2.1+1) 0 (tD p).2.2.1)=tD p:=by
   show (p.2.2.2.1[(p.2.2.2.2.1+1).toNat]?).getD pt0=_
   rw [en,e2];rfl
  refine ⟨?_,a,?_⟩
  .have hlen:=(cBm.1 e2).1
   show (inR (p.2.2.2.2.1+1) 0 ((p.2.2.2.1.length:Int) - 1)&&inR (0:Int) 0 (((((p.2.2.2.1[(p.2.2.2.2.1+1).toNat]?).getD (0,0,0,[])).2.2.2.length:Nat):Int) - 1))=true
   rw [en,e2,f1,cBg]
   refine ⟨bM.2 ⟨by omega,by omega⟩,bM.2 ⟨by omega,?_⟩⟩
   show (0:Int)<=((tD p).2.2.2.length:Int) - 1
   omega
  .unfold dH
   rw [a]
   show ((tD p).2.2.2[(0:Int).toNat]?).getD h0=_
   rw [show (0:Int).toNat=0 from rfl,hhd];rfl
 obtain ⟨_,_,_,_,_,_,g⟩:=gV hn.1
 rw [g,hn.2.2,<- hj.2,hlt,<- f5]
theorem aZz {t:den tTo} {now:Int}: ∀ (n:Nat) (p:den tPk),wfP t p.2.2.2.1=true->p.2.2.2.2.1+(n:Int)=(p.2.2.2.1.length:Int)->(goC t now n p).1=0->(eB (goC t now n p).2=false\/fS (goC t now n p).2=true)/\dA (goC t now n p).2=dA p/\(goC t now n p).2.2.2.2.1=p.2.2.2.1
 | 0,p,hw,hn,h=>by
  exfalso
  obtain ⟨h1,h2⟩:=zE (show dC t now p=0 from h)
  obtain ⟨i,j,f1,_,f3,_⟩:=gV h1
  have :=(cBm.1 f3).1
  have hn:=eqI hn
  have f1:=eqI f1
  omega
 | n+1,p,hw,hn,h=>by
  have hc0:=aIc h
  obtain ⟨h1,h2⟩:=zE hc0
  obtain ⟨s1,s2,_,_,s5,s6⟩:=(uC t p).cur
  have sp:(bF t p).2.2.2.1=p.2.2.2.1:=(uC t p).1
  have si:(bF t p).2.2.2.2.1=p.2.2.2.2.1:=(uC t p).2.1
  unfold goC at h ⊢
  split at h
  .rename_i hc
   rw [zT hc]
   simp only [cBg,cCg] at hc
   obtain ⟨a1,a2,a3⟩:=bYh (t:=t) (p:=bF t p) (by rw [sp];exact hw) (s1.trans h1) (by rw [s2];exact h2) hc.2.1 hc.2.2
   obtain ⟨b1,b2,b3⟩:=aZz n (adv (bF t p)) (by rw [a3,sp];exact hw) (by rw [a2,a3,si,sp];refine eqI ?_;have hn:=eqI hn;omega) h
   exact ⟨b1,b2.trans (a1.trans s2),b3.trans (a3.trans sp)⟩
  .rename_i hc
   rw [zS hc]
   refine ⟨?_,s2,sp⟩
   rw [hc0] at hc
   show eB (bF t p)=false\/fS (bF t p)=true
   cases hl:eB (bF t p) with
   | false=>exact .inl rfl
   | true=>
    right
    rw [hl] at hc
    simpa using hc
theorem aVs {t:den tTo} {now:Int} {dead:List Int} {r inn:Int} {p:den tPk} (h:((aW t now dead r inn p).1==0)=true):cU t (remote t r (aW t now dead r inn p).2.1).1=true:=by
 have h:(fwd t r now (jS t dead r) inn p).1=0:=eq_of_beq (show ((fwd t r now (jS t dead r) inn p).1==0)=true from h)
 unfold aW
 unfold fwd at h ⊢
 split at h
 .exact absurd h (show ¬ ((2:Int)=0) by decide)
 rename_i c1
 rw [zS c1]
 split at h
 .exact absurd h (show ¬ ((3:Int)=0) by decide)
 rename_i c2
 rw [zS c2]
 split at h
 .rename_i c3;simp only [cCg,beq_eq_false_iff_ne] at c3;exact absurd h c3
 rename_i c3
 rw [zS c3]
 split at h
 .split at h<;>first | exact absurd h (show ¬ ((1:Int)=0) by decide) | exact absurd h (show ¬ ((2:Int)=0) by decide)
 rename_i c4
 rw [zS c4]
 split at h
 .exact absurd h (show ¬ ((6:Int)=0) by decide)
 rename_i c5
 rw [zS c5]
 split at h
 .exact absurd h (show ¬ ((7:Int)=0) by decide)
 rename_i c6
 rw [zS c6]
 simp only [cCz,cCg,not_or,Bool.not_eq_false,beq_iff_eq] at c1 c3 c4
 obtain ⟨v1,v2,v3⟩:=c1
 have hw:wfP t p.2.2.2.1=true:=by
  unfold aAf at v2
  rw [cBg] at v2
  exact v2.1
 have hh:cI p=true:=by
  unfold gD at v1
  simp only [cBg] at v1
  exact v1.2.2.1
 obtain ⟨i,j,f1,_,f3,_⟩:=gV hh
 have hlen:=(cBm.1 f3).1
 obtain ⟨b1,b2,b3⟩:=aZz (t:=t) (now:=now) (p.2.2.2.1.length - p.2.2.2.2.1.toNat) p hw (by rw [f1,cBo];refine eqI ?_;omega) c3
 obtain ⟨q1,q2,_⟩:=aEk (t:=t) (now:=now) (p.2.2.2.1.length - p.2.2.2.2.1.toNat) p c3
 show cU t (remote t r (pEg (bV (bT t now p).2) (dH (bT t now p).2))).1=true
 have e:bT t now p=goC t now (p.2.2.2.1.length - p.2.2.2.2.1.toNat) p:=rfl
 have c4:fS (bT t now p).2=false:=by simpa using c4
 rw [<- e] at b1 b2 b3 q1 q2
 generalize (bT t now p).2=q at *
 have hl:eB q=false:=b1.elim id fun h=>by rw [c4] at h;cases h
 obtain ⟨a,b,g1,g2,g3,g4,g5⟩:=gV q1
 have b3:(q.2.2.2.1:lPp)=p.2.2.2.1:=b3
 have g3':(p.2.2.2.1:lPp)[a]? =some (bV q):=by rw [<- b3];exact g3
 obtain ⟨w1,_⟩:=aSj hw g3'
 have hb:=(cBm.1 g4).1
 have hb2:b+1<(bV q).2.2.2.length:=by
  unfold eB at hl
  rw [g2,beq_eq_false_iff_ne] at hl
  have hl: ¬ ((b:Int)=((bV q).2.2.2.length:Int) - 1):=hl
  omega
 obtain ⟨y1,y2⟩:=bL3 w1 (cBe hb2)
 rcases y2 with y2 | y2
 .omega
 .rw [show b+1 - 1=b by omega,g4] at y2
  unfold aKd at y2
  simp only [cBg,beq_iff_eq,cCe] at y2
  have er:r=(dH q).1:=by
   have :=v3
   rw [<- g5,b2]
   exact this.symm
  rw [er,y2.2.1]
  exact y1
theorem aD3 {w:den tNw} {t:den tTo} {now:Int} {dead:List Int} {r inn:Int} {p:den tPk} (h:tM w p):tM w (aW t now dead r inn p).2.2.1:=by
 obtain ⟨i,j,b,e⟩:=aP2 t r now (jS t dead r) inn p
 unfold aW
 rw [e]
 exact h.goTo i j b
theorem aU5 {t:den tTo} {w:den tNw} {r inn:Int} {p:den tPk} (h:fI t w) (hg:tM w p):fI t (proc0 w r inn p):=by
 unfold proc0
 split
 .rename_i hc
  exact h.send (aD3 hg) (by rw [<- h.top];exact aVs hc)
 .split
  .exact h.tell (aD3 hg) r
  .exact h.drop
theorem bH2 {t:den tTo} {w:den tNw} {r:Int} {p:den tPk} (h:fI t w) (hg:tM w p):fI t (aAw w r p):=by
 unfold aAw
 split
 .exact h
 .rename_i hc
  rcases aLd (bJ w) r p.2.1 with hf | ⟨k,x,hf,hx⟩
  .rw [hf] at hc;exact absurd (by decide) hc
  .have hba:vF w k=x:=by unfold vF;rw [hx];rfl
   rw [hf,cBo,hba]
   have hk:=(cBm.1 hx).1
   have hkf:k<(aD w).length:=by rw [<- h.lenB];exact hk
   have hfl:(aD w)[k]? =some (aD w)[k]:=cBe hkf
   obtain ⟨d1,d2⟩:=bFp hfl hx hg (h.flow k _ x hfl hx)
   obtain ⟨b1,b2⟩:=h.box hx d2 (fun f hf'=>by
    have :some f=some (aD w)[k]:=hf'.symm.trans hfl
    injection this with this
    rw [this];exact d1)
   split
   .rename_i ha
    refine aU5 b1 (bMt b1 ⟨_,hfl⟩ ?_ ha (hg.grow b2))
    show ((bJ w).set k (eE x p))[k]? =_
    rw [cEh hk]
   .exact b1
theorem aMv {t:den tTo} {w:den tNw} {r inn:Int} {p:den tPk} (h:fI t w) (hg:bNb w p):fI t (fK w r inn p):=by
 cases hv:gD p with
 | false=>rw [aMa hv];exact h.drop
 | true=>
  have hg:=hg hv
  unfold fK
  split
  .rename_i hc
   exact h.send (aD3 hg) (by rw [<- h.top];exact aVs hc)
  .split
   .split
    .exact bH2 h (aD3 hg)
    .exact h.tell (aD3 hg) r
   .split
    .unfold aEz
     split
     .exact (aU5 h (aM5 rfl)).drop
     .exact (h.tell (aM5 rfl) r).drop
    .exact h.drop
theorem bJ2 (f:den tFl): ∃ c wt:Int,(aF f).1=oQ f c wt/\((aF f).2.2=true->(aF f).2.1=xV (oQ f c wt)/\mT (oQ f c wt)=true):=by
 unfold aF
 split
 .rename_i hs
  split
  .exact ⟨_,_,rfl,fun _=>⟨rfl,hs⟩⟩
  .split
   .exact ⟨_,_,rfl,fun h=>⟨rfl,h⟩⟩
   .exact ⟨_,_,rfl,fun h=>by cases h⟩
 .exact ⟨_,_,rfl,fun h=>by cases h⟩
theorem fI.set {t:den tTo} {w:den tNw} (h:fI t w) {k:Nat} {f g:den tFl} (hf:(aD w)[k]? =some f) (e1:g.1=f.1) (e2:g.2.1=f.2.1) (e3: ∀ (s:Nat) (m:List Int),f.2.2.2.2.1[s]? =some m->g.2.2.2.2.1[s]? =some m) (e4: ∀ x,aAs t f x->aAs t g x):fI t (dU w ((aD w).set k g)):=by
 refine h.map (by simp) fun j f' hf'=> ?_
 rw [cDr] at hf'
 split at hf'
 .rename_i e
  subst e
  rw [zT (cBm.1 hf).1] at hf'
  injection hf' with hf'
  subst hf'
  exact ⟨f,hf,e1,e2,e3,fun x _=>e4 x⟩
 .exact ⟨f',hf',rfl,rfl,fun _ _ h=>h,fun x _ h=>h⟩
theorem bIc {t:den tTo} {w:den tNw} {k:Nat} {g:den tFl} (h:fI t w) (hg:(aD w)[k]? =some g) (hs:mT g=true):tM w (xV g):=by
 have hk:k<(bJ w).length:=by rw [h.lenB];exact (cBm.1 hg).1
 have hfi:=h.flow k g _ hg (cBe hk)
 have hs':=hs
 unfold mT at hs'
 rw [cBg] at hs'
 obtain ⟨a0,a1⟩:=bM.1 hs'.1
 obtain ⟨b0,b1⟩:=bM.1 hs'.2
 have hc:g.2.2.2.2.2.2.1.toNat<g.2.2.2.2.2.1.length:=by omega
 have ha:g.2.2.2.1.toNat<g.2.2.2.2.1.length:=by omega
 have hpth:g.2.2.2.2.2.1[g.2.2.2.2.2.2.1.toNat]? =some (g.2.2.2.2.2.1[g.2.2.2.2.2.2.1.toNat]'hc):=cBe hc
 have hmsg:g.2.2.2.2.1[g.2.2.2.1.toNat]? =some (g.2.2.2.2.1[g.2.2.2.1.toNat]'ha):=cBe ha
 obtain ⟨p1,p2⟩:=hfi.paths _ (cBr hpth)
 have he:=bB7 p1 p2
 have e:xV g=gU 1 (g.2.2.2.2.2.1[g.2.2.2.2.2.2.1.toNat]'hc) g.2.2.1 g.2.2.2.1 (g.2.2.2.2.1[g.2.2.2.1.toNat]'ha):=by
  unfold xV
  rw [zT hs,hpth,hmsg];rfl
 rw [e]
 intro j f x hf hx
 refine ⟨fun _ a b=> ?_,fun a=>absurd a (show ¬ ((1:Int)=2) by decide)⟩
 have a:(ends (g.2.2.2.2.2.1[g.2.2.2.2.2.2.1.toNat]'hc)).1=f.1:=a
 have b:(ends (g.2.2.2.2.2.1[g.2.2.2.2.2.2.1.toNat]'hc)).2=f.2.1:=b
 rw [he] at a b
 have hj:k=j:=h.one hg hf a b
 subst hj
 have :some g=some f:=hg.symm.trans hf
 injection this with this
 subst this
 exact ⟨p1,p2,g.2.2.2.1.toNat,(Int.toNat_of_nonneg b0).symm,hmsg⟩
theorem bIn {t:den tTo} {w:den tNw} (k:Nat) (h:fI t w):fI t (stepT k w):=by
 unfold stepT
 split
 .rename_i f hf
  obtain ⟨c,wt,e1,e2⟩:=bJ2 f
  have hset:fI t (dU w ((aD w).set k (aF f).1)):=by
   refine h.set hf (by rw [e1];rfl) (by rw [e1];rfl) (fun s m hm=>by rw [e1];exact hm) fun x hx=> ?_
   have hv:=bIw hx.val
   rw [e1] at hv ⊢
   exact ⟨hv,hx.src,hx.dst,hx.xAS,hx.xFrom,hx.next,hx.recv,hx.len,hx.ack,hx.paths⟩
  split
  .rename_i hb
   obtain ⟨g1,g2⟩:=e2 hb
   rw [<- e1] at g1 g2
   refine aMv hset fun _=> ?_
   rw [g1]
   refine bIc hset (k:=k) ?_ g2
   show ((aD w).set k _)[k]? =_
   rw [cEh (cBm.1 hf).1]
  .exact hset
 .exact h
theorem aUr {t:den tTo}: ∀ (n k:Nat) {w:den tNw},fI t w->fI t (tickL k n w)
 | 0,_,_,h=>h
 | n+1,k,_,h=>aUr n (k+1) (bIn k h)
theorem aVn {t:den tTo} {w:den tNw} (h:fI t w):fI t (cV w):=by
 unfold cV
 split
 .exact h
 .exact aUr _ _ (h.same (w':=aE2 w) rfl rfl rfl fun y hy=> .inl hy)
theorem bTj {t:den tTo} {w:den tNw} {k:Nat} {f:den tFl} {b:List Int} (h:fI t w) (hf:(aD w)[k]? =some f):fI t (dU w ((aD w).set k (aIs f b))):=by
 unfold aIs
 split
 .rename_i hv
  refine h.set hf rfl rfl (fun s m hm=> ?_) fun x hx=> ?_
  .show (f.2.2.2.2.1++[b])[s]? =some m
   rw [List.getElem?_append_left (cBm.1 hm).1];exact hm
  .refine ⟨hv,hx.src,hx.dst,hx.xAS,hx.xFrom,hx.next,?_,?_,hx.ack,hx.paths⟩
   .show x.2.2.2=(f.2.2.2.2.1++[b]).take _
    rw [List.take_append_of_le_length hx.len];exact hx.recv
   .show x.2.2.2.length<=(f.2.2.2.2.1++[b]).length
    have :=hx.len
    rw [cCd];omega
 .exact h.set hf rfl rfl (fun _ _ h=>h) fun _ h=>h
theorem bKv {t:den tTo} {w:den tNw} {e:den kR} (h:fI t w) (hb: ∀ x∈aQ w,fR x.2.2) (hp:fR e.2.2.2.2.2) (h7:(e.1==(7:Int))=true) (hh:harm w e=true):bNb w e.2.2.2.2.2:=by
 intro hv
 unfold harm vI at hh
 rw [h7,hv] at hh
 cases h3:(e.2.2.2.2.2.1==(3:Int)) with
 | true=>exact aM5 (eq_of_beq h3)
 | false=>
  rw [h3] at hh
  simp only [cBh,cC7,zY] at hh
  cases ha:w.2.2.2.2.2.1.all (fun x=> !aCf x.2.2 e.2.2.2.2.2) with
  | true=>
   rw [ha,zZ,cB5] at hh
   intro k f x hf hx
   have :=hh f (cBr hf)
   unfold aBw at this
   refine ⟨fun _ a b=> ?_,fun _ a b=> ?_⟩
   .rw [a,b] at this;simp at this
   .rw [a,b] at this;simp at this
  | false=>
   rw [List.all_eq_false] at ha
   obtain ⟨x,hx,he⟩:=ha
   have hx:x∈aQ w:=hx
   have he:aCf x.2.2 e.2.2.2.2.2=true:=by simpa using he
   have :=bPa (hb x hx) hp he
   rw [<- this]
   exact h.good x hx (by rw [this];exact hv)
theorem bUm {t:den tTo} {w:den tNw} {e:den kR} (h:fI t w) (hb: ∀ x∈aQ w,fR x.2.2) (hp:fR e.2.2.2.2.2) (hh:harm w e=true):fI t (doW w e).2:=by
 have bT: ∀ i,fI t (aDp w i):=fun i=>h.same (w':=aDp w i) rfl rfl rfl fun y hy=> .inl (by
  rcases cBp.1 (show y∈(aQ w).take i++(aQ w).drop (i+1) from hy) with hy | hy
  .exact cCv hy
  .exact cC1 hy)
 unfold doW
 split
 .exact aVn h
 .split
  .split
   .rename_i x hi hx
    exact aMv (bT _) (h.good x (cBr hx))
   .exact h
  .split
   .split
    .exact (bT _).drop
    .exact h
   .split
    .split
     .rename_i x hi hx
      have hm:=cBr hx
      refine ⟨h.top,h.lenB,h.flow,h.uniq,fun y hy=> ?_,fun y hy=> ?_⟩
      .rcases cBp.1 (show y∈aQ w++[x] from hy) with hy | hy
       .exact h.good y hy
       .rw [cBn.1 hy];exact h.good x hm
      .rcases cBp.1 (show y∈aQ w++[x] from hy) with hy | hy
       .exact h.to y hy
       .rw [cBn.1 hy];exact h.to x hm
     .exact h
    .split
     .show fI t (aDt w e.2.1 (e.1==5))
      unfold aDt
      split
      .exact h
      .exact h.same rfl rfl rfl fun y hy=> .inl hy
     .split
      .rename_i h7
       split
       .rename_i hc
        rw [cBg] at hc
        have hgd:=bKv h hb hp h7 hh
        refine ⟨h.top,h.lenB,h.flow,h.uniq,fun y hy=> ?_,fun y hy=> ?_⟩
        .rcases cBp.1 (show y∈aQ w++[e.2.2.2] from hy) with hy | hy
         .exact h.good y hy
         .rw [cBn.1 hy];exact hgd
        .rcases cBp.1 (show y∈aQ w++[e.2.2.2] from hy) with hy | hy
         .exact h.to y hy
         .rw [cBn.1 hy,<- h.top];exact hc.1
       .exact h
      .split
       .split
        .rename_i f hi hf
         exact bTj h hf
        .exact h
       .exact h
def cH (n:Nat) (w:den tNw):Prop:=(0:Int)<=dQ w/\(n:Int)>=dQ w
theorem cH.mono {n m:Nat} {w:den tNw} (h:cH n w) (hm:n<=m):cH m w:=⟨h.1,by have :=h.2;omega⟩
theorem cH.eq {n:Nat} {w w':den tNw} (h:cH n w) (e:dQ w'=dQ w):cH n w':=by
 unfold cH
 rw [e]
 exact h
theorem cH.drop {n:Nat} {w:den tNw} (h:cH n w) (hn:n<=1000000):cH (n+1) (zA w):=by
 obtain ⟨h0,h1⟩:=h
 have e:wr (dQ w+1)=dQ w+1:=bX (by omega) (by omega)
 exact ⟨by show (0:Int)<=wr (dQ w+1);omega,by show ((n+1:Nat):Int)>=wr (dQ w+1);omega⟩
theorem cH.send {n:Nat} {w:den tNw} (h:cH n w) (hn:n<=1000000) (r eg:Int) (p:den tPk):cH (n+1) (rD w r eg p):=by
 unfold rD
 split
 .exact h.mono (Nat.le_succ _)
 .exact h.drop hn
theorem cH.proc0 {n:Nat} {w:den tNw} (h:cH n w) (hn:n<=1000000) (r inn:Int) (p:den tPk):cH (n+1) (proc0 w r inn p):=by
 unfold Go.Proofs.YtcppmcbkokgfcaaGreat.proc0
 split
 .exact h.send hn _ _ _
 .split
  .exact cH.mono (n:=n) (h.eq rfl) (Nat.le_succ _)
  .exact h.drop hn
theorem cH.proc {n:Nat} {w:den tNw} (h:cH n w) (hn:n<=999999) (r inn:Int) (p:den tPk):cH (n+2) (fK w r inn p):=by
 unfold fK
 split
 .exact (h.send (by omega) _ _ _).mono (by omega)
 .split
  .split
   .unfold aAw
    split
    .exact h.mono (by omega)
    .split
     .refine cH.mono (n:=n+1) (cH.proc0 (n:=n) ?_ (by omega) _ _ _) (by omega)
      exact cH.eq h rfl
     .exact cH.mono (n:=n) (h.eq rfl) (by omega)
   .exact cH.mono (n:=n) (h.eq rfl) (by omega)
  .split
   .unfold aEz
    split
    .exact (h.proc0 (by omega) _ _ _).drop (by omega)
    .refine cH.mono (n:=n+1) (cH.drop (n:=n) ?_ (by omega)) (by omega)
     exact cH.eq h rfl
   .exact (h.drop (by omega)).mono (by omega)
theorem cH.stepT {n:Nat} {w:den tNw} (h:cH n w) (hn:n<=999999) (k:Nat):cH (n+2) (stepT k w):=by
 unfold Go.Proofs.YtcppmcbkokgfcaaGreat.stepT
 split
 .split
  .refine cH.proc (n:=n) ?_ hn _ _ _
   exact cH.eq h rfl
  .exact cH.mono (n:=n) (h.eq rfl) (by omega)
 .exact h.mono (by omega)
theorem cH.tickL {m:Nat}: ∀ (m k:Nat) {n:Nat} {w:den tNw},cH n w->n+2 * m<=999999->cH (n+2 * m) (tickL k m w)
 | 0,_,_,_,h,_=>h
 | m+1,k,n,w,h,hn=>by
  unfold Go.Proofs.YtcppmcbkokgfcaaGreat.tickL
  exact (cH.tickL (m:=0) m (k+1) (h.stepT (by omega) k) (by omega)).mono (by omega)
theorem cH.event {n:Nat} {w:den tNw} {e:den kR} (h:cH n w) (hf:(aD w).length<=4) (hn:n<=900000):cH (n+8) (doW w e).2:=by
 have same:cH (n+8) w:=h.mono (by omega)
 unfold doW
 split
 .show cH (n+8) (cV w)
  unfold cV
  split
  .exact same
  .refine cH.mono (n:=n+2 * (aD w).length) (cH.tickL (m:=0) (aD w).length 0 (n:=n) ?_ (by omega)) (by omega)
   exact cH.eq h rfl
 .split
  .split
   .refine cH.mono (n:=n+2) (cH.proc (n:=n) ?_ (by omega) _ _ _) (by omega)
    exact cH.eq h rfl
   .exact same
  .split
   .split
    .refine cH.mono (n:=n+1) (cH.drop (n:=n) ?_ (by omega)) (by omega)
     exact cH.eq h rfl
    .exact same
   .split
    .split
     .exact same
     .exact same
    .split
     .show cH (n+8) (aDt w e.2.1 (e.1==5))
      unfold aDt
      split
      .exact same
      .exact same
     .split
      .split
       .exact same
       .exact same
      .split
       .split
        .exact same
        .exact same
       .exact same
def aCj (m:Nat) (l:List Int):Prop:=l.Pairwise (fun a b=>a<b)/\ ∀ n∈l,0<=n/\n<(m:Int)
theorem bLo (m:Nat) (dead:List Int) (i:Int) (b:Bool):aCj m (aB4 m dead i b):=by
 unfold aB4
 refine ⟨List.Pairwise.filter _ (List.pairwise_map.2 (List.pairwise_lt_range.imp fun h=>by omega)),fun n hn=> ?_⟩
 obtain ⟨k,hk,rfl⟩:=List.mem_map.1 (List.mem_filter.1 hn).1
 have :=List.mem_range.1 hk
 exact ⟨by omega,by omega⟩
theorem aCj.all {m:Nat} {l:List Int} (h:aCj m l):(l.zipIdx 0).all (fun z=>zD l m z.2 z.1)=true:=by
 refine (aB2 (zD l m) l).2 fun k n hn=> ?_
 unfold zD
 have hm:=h.2 n (cBr hn)
 rw [cBg,cCz,zR]
 refine ⟨bM.2 ⟨hm.1,by omega⟩,?_⟩
 by_cases h0:k=0
 .exact .inl h0
 .right
  obtain ⟨hk,e⟩:=cBm.1 hn
  have :=(cDi.1 h.1) (k - 1) k (by omega) hk (by omega)
  rw [cBe (show k - 1<l.length by omega),cCe]
  rw [e] at this
  rw [zW (show ¬ (l[k - 1]'(by omega)>=n) by omega)]
  rfl
theorem aQa (w:den tNw) (r eg:Int) (p:den tPk):aO (rD w r eg p)=aO w:=by unfold rD;split<;>rfl
theorem aRc (w:den tNw) (r inn:Int) (p:den tPk):aO (proc0 w r inn p)=aO w:=by
 unfold proc0
 split
 .exact aQa _ _ _ _
 .split<;>rfl
theorem bD5 (w:den tNw):aO (zA w)=aO w:=rfl
theorem aFz (w:den tNw) (r inn:Int) (p:den tPk):aO (fK w r inn p)=aO w:=by
 unfold fK
 split
 .exact aQa _ _ _ _
 .split
  .split
   .unfold aAw
    split
    .rfl
    .split
     .refine Eq.trans (aRc _ _ _ _) ?_
      rfl
     .rfl
   .rfl
  .split
   .unfold aEz
    split
    .rw [bD5]
     exact aRc _ _ _ _
    .rfl
   .rfl
theorem aR9 (k:Nat) (w:den tNw):aO (stepT k w)=aO w:=by
 unfold stepT
 split
 .split
  .rename_i f hf hb
   exact aFz (dU w ((aD w).set k (aF f).1)) _ _ _
  .rfl
 .rfl
theorem aQ3: ∀ (n k:Nat) (w:den tNw),aO (tickL k n w)=aO w
 | 0,_,_=>rfl
 | n+1,k,w=>by
  unfold tickL
  exact (aQ3 n (k+1) (stepT k w)).trans (aR9 k w)
theorem aK9 (w:den tNw):aO (cV w)=aO w:=by
 unfold cV
 split
 .rfl
 .exact aQ3 (aD w).length 0 (aE2 w)
theorem bO0 {w:den tNw} {e:den kR} (h:aCj (nT w).2.length (aO w)):aCj (nT w).2.length (aO (doW w e).2):=by
 unfold doW
 split
 .show aCj _ (aO (cV w));rw [aK9];exact h
 .split
  .split
   .show aCj _ (aO (fK _ _ _ _));rw [aFz];exact h
   .exact h
  .split
   .split<;>exact h
   .split
    .split<;>exact h
    .split
     .show aCj _ (aO (aDt w e.2.1 (e.1==5)))
      unfold aDt
      split
      .exact h
      .exact bLo _ _ _ _
     .split
      .split<;>exact h
      .split
       .split<;>exact h
       .exact h
theorem aOy: ∀ l:lMs,yA l l=true
 | []=>rfl
 | x::l=>by
  show (aDn x x&&yA l l)=true
  rw [aOy l,Bool.and_true]
  unfold aDn
  exact beq_self_eq_true _
theorem aAs.ok {t:den tTo} {f:den tFl} {x:den tIb} (h:aAs t f x):xOk x=true/\aAg f x=true:=by
 have hv:=(vO f).1 h.val
 obtain ⟨q1,q2,q3,q4,q5,q6,q7,q8,q9,q10,q11,q12⟩:=hv
 have hl:=h.len
 have hn:=h.next
 constructor
 .unfold xOk
  simp only [cBg,cCg,beq_eq_false_iff_ne,beq_iff_eq,zR,cB5]
  refine ⟨by rw [h.xAS];exact q2,by rw [h.xFrom];exact q1,fun e=>q3 (by rw [<- h.xAS,<- h.xFrom];exact e.symm),hn,?_,fun m hm=> ?_⟩
  .show (20:Int)>=x.2.2.1
   rw [hn];omega
  .have hm':m∈f.2.2.2.2.1:=by
    rw [h.recv] at hm
    exact cCv hm
   exact q8 m hm'
 .unfold aAg
  simp only [cBg,beq_iff_eq,zR]
  refine ⟨h.xAS,h.xFrom,hl,?_,h.ack⟩
  rw [<- aIm,<- h.recv]
  exact aOy _
structure kZ (t:den tTo) (B k d:Nat) (w:den tNw):Prop where
 run:rP t B k w
 inv:fI t w
 drop:cH d w
 dead:aCj t.2.length (aO w)
theorem kZ.mono {t:den tTo} {B C k j d e:Nat} {w:den tNw} (h:kZ t B k d w) (hB:B<=C) (hk:k<=j) (hd:d<=e):kZ t C j e w:=⟨h.run.mono hB hk,h.inv,h.drop.mono hd,h.dead⟩
theorem kZ.valid {t:den tTo} {B k d:Nat} {w:den tNw} (h:kZ t B k d w) (hk:k<=1000) (ht:aB6 t=true):xI w=true:=by
 have htop:w.1=t:=h.run.top
 have hlo:=leI h.run.lo
 have hhi:=leI h.run.hi
 have hd:=h.drop.1
 have hfl:w.2.2.2.2.2.2.1.length<=4:=h.run.keep.flows
 have hfy:w.2.2.2.2.2.1.length<=150:=h.run.flyN
 unfold xI
 simp only [cBg,zR,cCg,decide_eq_false_iff_not,cB5]
 refine ⟨by rw [htop];exact ht,bM.2 ⟨hlo,leI (Int.le_trans hhi (by omega))⟩,bUv.2 h.run.gate,?_,hfy,hfl,h.inv.lenB,?_,fun x hx=>by rw [htop];exact h.inv.to x hx,?_⟩
 .have :=(aCj.all h.dead)
  rw [cB5] at this
  rw [htop]
  exact this
 .show ¬ ((dQ w:Int)<0)
  omega
 .have :(w.2.2.2.2.2.2.1.zipIdx 0).all (fun z=>tN w z.2 z.1&&aCk w z.2 z.1)=true:=by
   refine (aB2 (fun k f=>tN w k f&&aCk w k f) _).2 fun j f hf=> ?_
   have hj:=(cBm.1 hf).1
   have hb:j<(bJ w).length:=by rw [h.inv.lenB];exact hj
   have hx:(bJ w)[j]? =some (bJ w)[j]:=cBe hb
   have hfi:=h.inv.flow j f _ hf hx
   obtain ⟨o1,o2⟩:=hfi.ok
   rw [cBg]
   constructor
   .unfold tN
    rw [show w.2.2.2.2.2.2.2.1[j]? =some (bJ w)[j] from hx]
    simp only [cBg]
    exact ⟨hfi.val,by rw [htop];exact hfi.src,by rw [htop];exact hfi.dst,o1,o2⟩
   .unfold aCk
    rw [cB5]
    intro g hg
    obtain ⟨i,hi,hg⟩:=aL7 hg
    obtain ⟨hi',ei⟩:=cBm.1 hg
    obtain ⟨hj',ej⟩:=cBm.1 hf
    have :=(cDi.1 h.inv.uniq) i j hi' hj' hi
    have e1:(aD w)[i]=g:=ei
    have e2:(aD w)[j]=f:=ej
    rw [e1,e2] at this
    rw [this];rfl
  rw [cB5] at this
  intro z hz
  have :=this z hz
  rw [cBg] at this
  exact this
structure aFt (t:den tTo) (k:Nat) (w:den tNw):Prop where
 run:rP t (1000+2000 * k) k w
 inv:fI t w
 drop:cH (8 * k) w
 dead:aCj t.2.length (aO w)
theorem aFt.round {t:den tTo} {k:Nat} {w:den tNw} (h:aFt t k w):kZ t (1000+2000 * k) k (8 * k) w:=⟨h.run,h.inv,h.drop,h.dead⟩
theorem aFt.valid {t:den tTo} {k:Nat} {w:den tNw} (h:aFt t k w) (hk:k<=1000) (ht:aB6 t=true):xI w=true:=h.round.valid hk ht
theorem yI.runV {v:den tNw} (h:yI 3 v):aFt (nT v) 0 v where
 run:=h.run
 inv:=by
  refine ⟨rfl,by rw [h.box,List.length_map],fun k f x hf hx=> ?_,h.uniq,fun y hy=>(by rw [h.fly] at hy;cases hy),fun y hy=>(by rw [h.fly] at hy;cases hy)⟩
  have hm:=cBr hf
  have hF:=h.flows f hm
  rw [h.box,cDv,hf] at hx
  have hx:some ((f.2.1,f.1,0,[]):den tIb)=some x:=hx
  injection hx with hx
  subst hx
  exact ⟨hF.val,hF.src,hF.dst,rfl,rfl,rfl,rfl,cB1 _,by rw [hF.ack];exact cC3 _,hF.ends⟩
 drop:=⟨by rw [h.drop];decide,by rw [h.drop];decide⟩
 dead:=by rw [h.dead];exact ⟨List.Pairwise.nil,fun n hn=>(cB2 hn).elim⟩
theorem aFt.event {t:den tTo} {k:Nat} {w:den tNw} {e:den kR} (h:aFt t k w) (hk:k<=1000) (ht:t.2.length<=100) (he:EvD w e):aFt t (k+1) (doW w e).2 where
 run:=(bB2 h.run hk ht he).mono (by omega) (cBs _)
 inv:=bUm h.inv h.run.keep.bytes.fly he.pk.2 he.harm
 drop:=(h.drop.event h.run.keep.flows (by omega)).mono (by omega)
 dead:=by
  have :=bO0 (w:=w) (e:=e) (by rw [h.run.top];exact h.dead)
  rw [h.run.top] at this
  exact this
theorem Ran.runV {v:den tNw} (hv:yI 3 v) {l:vY} {w:den tNw} (h:Ran v l w):l.length<=1000->aFt (nT v) l.length w:=by
 induction h with
 | nil=>intro _;exact hv.runV
 | snoc h he ih=>
  intro hl
  simp only [cCd,cCy] at hl ⊢
  exact (ih (by omega)).event (by omega) hv.top.links he
theorem aA3 {R T:Type} {n:Nat} (hn:n<=10000000) {step:Int->Option (Int⊕R)} {r:R} {k:R->Option T} (h: ∀ i:Nat,i<n->step (i:Int)=some (.inl ((i+1:Nat):Int))) (he:step (n:Int)=some (.inr r)):Option.bind (aC step (0:Int)) k=k r:=by
 refine cE (G:=fun o=>o=k r) n (fun s:Int=>s) (fun _ _=>True) (fun x=>x=r) ?_ ?_ 0 (0:Int) (cB1 _) rfl trivial (fun x hx=>by rw [hx])
 .rintro i _ hi rfl _
  exact .inr ⟨_,h i hi,rfl,trivial⟩
 .rintro _ rfl _
  exact ⟨r,he,rfl⟩
theorem bK3 {t:den tTo} (h1:t.1.length<=10000000) (h2:t.2.length<=10000000):tP t t=some true:=by
 unfold tP zz4
 simp only [bne_self_eq_false,zY,aA]
 rw [aA3 h1 (r:= .inl ()) (fun i hi=>by
  simp only [zX (show (i:Int)<(t.1.length:Int) by omega),zZ,aH,cBe hi,aA,beq_self_eq_true,cC8,cBh,zY,bL (show i<=1000000000 by omega)]) (by simp only [zW (cBx _),zY])]
 simp only [cCj]
 rw [aA3 h2 (r:= .inl ()) (fun i hi=>by
  simp only [zX (show (i:Int)<(t.2.length:Int) by omega),zZ,aH,cBe hi,aA,beq_self_eq_true,cC8,cBh,zY,bL (show i<=1000000000 by omega)]) (by simp only [zW (cBx _),zY])]
 rfl
theorem bL8 {s:den tSg} (h:s.2.2.length<=10000000):yX s s=some true:=by
 obtain ⟨v,e,k⟩:=aZb (a:=s.2.2) (b:=s.2.2) h
 unfold yX
 simp only [beq_self_eq_true,zZ,e,k rfl,aA]
theorem aUv {l:lSg} (h:l.length<=10000000) (hs: ∀ s∈l,s.2.2.length<=10000000):tI l l=some true:=by
 unfold tI pj3
 simp only [bne_self_eq_false,zY]
 rw [aA3 h (r:= .inl ()) (fun i hi=>by
  simp only [zX (show (i:Int)<(l.length:Int) by omega),zZ,aH,cBe hi,aA,aP,bL8 (hs _ (cBt hi)),cBh,zY,bL (show i<=1000000000 by omega)]) (by simp only [zW (cBx _),zY])]
 rfl
theorem bIe {l:List Int} (h:l.length<=10000000):tS l l=some true:=by
 unfold tS
 simp only [bne_self_eq_false,zY]
 rw [aA3 h (r:= .inl ()) (fun i hi=>by
  simp only [zX (show (i:Int)<(l.length:Int) by omega),zZ,aH,cBe hi,aA,bne_self_eq_false,zY,bL (show i<=1000000000 by omega)]) (by simp only [zW (cBx _),zY])]
 rfl
theorem aF2 {w:den tNw} (h:tot tNw w<=10000000):gO w w=some true:=by
 have sw:=bN h
 obtain ⟨hT,hK,hG,_,hD,hY,hF,hX,_⟩:=sw
 have l5:w.2.2.2.2.2.1.length<=10000000:=hY.1
 have l6:w.2.2.2.2.2.2.1.length<=10000000:=hF.1
 have l7:w.2.2.2.2.2.2.2.1.length<=10000000:=hX.1
 have e1:tP w.1 w.1=some true:=bK3 hT.1.1 hT.2.1
 have e2:wF w.2.1 w.2.1=some true:=by
  unfold wF
  simp only [aUv hK.1.1 (fun s hs=>(hK.1.2 s hs).2.2.1),aUv hK.2.1 (fun s hs=>(hK.2.2 s hs).2.2.1),aA,zZ]
 have e3:qV w.2.2.1 w.2.2.1=some true:=bJw (cBf hG.2.1.1 (by decide)) (cBf hG.2.2.1 (by decide))
 have e4:tS w.2.2.2.2.1 w.2.2.2.2.1=some true:=bIe hD.1
 unfold gO aL pj2 pj3 pj4 pj9 zz4 zz5 zz6 zz7 zz8
 simp only [aP,e1,e2,e3,e4,aA,cBh,zY,bne_self_eq_false]
 rw [aA3 l5 (r:= .inl ()) (fun i hi=>by
  obtain ⟨v,e,k⟩:=bTg (a:=w.2.2.2.2.2.1[i].2.2) (b:=w.2.2.2.2.2.1[i].2.2) (hY.2 _ (cBt hi)).2.2
  simp only [zX (show (i:Int)<(w.2.2.2.2.2.1.length:Int) by omega),zZ,aH,cBe hi,aA,bne_self_eq_false,zY,aP,e,k rfl,cBh,bL (show i<=1000000000 by omega)]) (by simp only [zW (cBx _),zY])]
 simp only [cCj]
 rw [aA3 l6 (r:= .inl ()) (fun i hi=>by
  obtain ⟨v,e,k⟩:=bMp (a:=w.2.2.2.2.2.2.1[i]) (b:=w.2.2.2.2.2.2.1[i]) (hF.2 _ (cBt hi))
  simp only [zX (show (i:Int)<(w.2.2.2.2.2.2.1.length:Int) by omega),zZ,aH,cBe hi,aA,aP,e,k rfl,cBh,zY,bL (show i<=1000000000 by omega)]) (by simp only [zW (cBx _),zY])]
 simp only [cCj]
 rw [aA3 l7 (r:= .inl ()) (fun i hi=>by
  have hx:=hX.2 _ (cBt hi)
  obtain ⟨v,e,k⟩:=bSq (a:=w.2.2.2.2.2.2.2.1[i]) (b:=w.2.2.2.2.2.2.2.1[i]) hx.2.2.2.1 (fun m hm=>(hx.2.2.2.2 m hm).1)
  simp only [zX (show (i:Int)<(w.2.2.2.2.2.2.2.1.length:Int) by omega),zZ,aH,cBe hi,aA,aP,e,k rfl,cBh,zY,bL (show i<=1000000000 by omega)]) (by simp only [zW (cBx _),zY])]
 rfl
def bV9:den tNw->vY->den tNw
 | w,[]=>w
 | w,e::l=>bV9 (doW w e).2 l
def bDr:den tNw->vY->Prop
 | _,[]=>True
 | w,e::l=>EvD w e/\bDr (doW w e).2 l
theorem bDr.runV {t:den tTo} (ht:t.2.length<=100): ∀ {l:vY} {k:Nat} {w:den tNw},aFt t k w->bDr w l->k+l.length<=1000->aFt t (k+l.length) (bV9 w l)
 | [],_,_,h,_,_=>h
 | e::l,k,w,h,hd,hk=>by
  have hk:k+(l.length+1)<=1000:=hk
  have :=bDr.runV ht (h.event (by omega) ht hd.1) hd.2 (by omega:k+1+l.length<=1000)
  have hn:k+(l.length+1)=k+1+l.length:=by omega
  show aFt t (k+(l.length+1)) _
  rw [hn];exact this
def aJc (w w':den tNw):Prop:=(aD w').length=(aD w).length/\ ∀ (k:Nat) (f f':den tFl),(aD w)[k]? =some f->(aD w')[k]? =some f'->f.2.2.2.1<=f'.2.2.2.1
def bRb (s d:Int) (w w':den tNw):Prop:=(bJ w').length=(bJ w).length/\ ∀ (k:Nat) (x x':den tIb),(bJ w)[k]? =some x->(bJ w')[k]? =some x'->x'=x\/(x.2.1=s/\x.1=d/\x'.2.2.2.length=x.2.2.2.length+1)
theorem aJc.same {w w':den tNw} (h:aD w'=aD w):aJc w w':=by
 refine ⟨by rw [h],fun k f f' h1 h2=> ?_⟩
 rw [h,h1] at h2
 injection h2 with h2
 rw [h2];exact cC3 _
theorem aJc.trans {a b c:den tNw} (h:aJc a b) (g:aJc b c):aJc a c:=by
 refine ⟨g.1.trans h.1,fun k f f' h1 h2=> ?_⟩
 have hk:k<(aD b).length:=by rw [h.1];exact (cBm.1 h1).1
 exact Int.le_trans (h.2 k f _ h1 (cBe hk)) (g.2 k _ f' (cBe hk) h2)
theorem bRb.same {s d:Int} {w w':den tNw} (h:bJ w'=bJ w):bRb s d w w':=by
 refine ⟨by rw [h],fun k x x' h1 h2=> .inl ?_⟩
 rw [h,h1] at h2
 injection h2 with h2
 exact h2.symm
def bQh (P:Nat->Prop) (w w':den tNw):Prop:=(bJ w').length=(bJ w).length/\ ∀ (k:Nat) (x x':den tIb),(bJ w)[k]? =some x->(bJ w')[k]? =some x'->x'.2.2.2.length=x.2.2.2.length\/(P k/\x'.2.2.2.length=x.2.2.2.length+1)
theorem bQh.same {P:Nat->Prop} {w w':den tNw} (h:bJ w'=bJ w):bQh P w w':=by
 refine ⟨by rw [h],fun k x x' h1 h2=> .inl ?_⟩
 rw [h,h1] at h2
 injection h2 with h2
 rw [h2]
theorem bNw {code:List Int} (hl:code.length<=1048576) {c:List Int} {p h:Int} (hc:Cur code (c,p,h)): ∃ v c' p' h',aBn (c,p,h)=some (v,c',p',h')/\(-1<=v/\v<=1000001)/\Cur code (c',p',h'):=by
 obtain ⟨b1,c1,p1,h1,e1,k1⟩:=sV hl (n:=10) (by decide) (by decide) hc
 unfold aBn pj3 pj4
 simp only [e1,aA]
 cases b1 with
 | true=>
  obtain ⟨v,c2,p2,h2,e2,r2,k2⟩:=pL hl (l:=[(-1:Int),1000000,1000001]) (by decide) (by decide) k1
  refine ⟨v,c2,p2,h2,by simp only [zZ,e2,aA],?_,k2⟩
  simp only [List.mem_cons,cB2,or_false] at r2
  rcases r2 with rfl | rfl | rfl<;>decide
 | false=>
  obtain ⟨v,c2,p2,h2,e2,r2,k2⟩:=aK hl (n:=200) (by decide) (by decide) k1
  exact ⟨v,c2,p2,h2,by simp only [zY,e2,aA],by omega,k2⟩
theorem bN9 {code:List Int} (hl:code.length<=1048576) {c:List Int} {p h:Int} (hc:Cur code (c,p,h)): ∃ as ls c' p' h',aC3 (c,p,h)=some (as,ls,c',p',h')/\as.length<=8/\ls.length<=101/\Cur code (c',p',h'):=by
 obtain ⟨as,ls,c1,p1,h1,e1,ht,k1⟩:=aSx hl hc
 have hp:=ht.pos
 have hn:=ht.len
 have hk:=ht.links
 obtain ⟨k,c2,p2,h2,e2,r2,k2⟩:=aK hl (n:=(as.length:Int)) (by omega) (by omega) k1
 obtain ⟨v3,c3,p3,h3,e3,r3,k3⟩:=aK hl (n:=14) (by decide) (by decide) k2
 obtain ⟨i,rfl⟩:=cB7 r2.1
 have hi:i<as.length:=by omega
 have d0:decide ((0:Int)<=(0:Int))=true:=by decide
 have d1:decide ((0:Int)<(as.length:Int))=true:=zX (by omega)
 have d2:decide ((0:Int)<=(i:Int))=true:=zX (by omega)
 have d3:decide ((i:Int)<(as.length:Int))=true:=zX (by omega)
 have g0:as[(0:Int).toNat]? =some (as[0]'(by omega)):=cBe (show 0<as.length by omega)
 have gi:as[i]? =some (as[i]'hi):=cBe hi
 unfold aC3 dd ixb one pj2 pj3 pj5
 simp only [e1,e2,e3,aA,aS,bI,aZ,bA,bD]
 cases v3==(0:Int) with
 | true=>
  obtain ⟨v4,c4,p4,h4,e4,_,k4⟩:=pL hl (l:=[(0:Int),(-1:Int),2147483647,(as[0]'(by omega)).2.2]) (by simp) (by simp) k3
  exact ⟨_,ls,c4,p4,h4,by simp only [zZ,d0,d1,d2,d3,g0,gi,cBo,e4,aA];rfl,by rw [cC2];exact hn,by omega,k4⟩
 | false=>
 cases v3==(1:Int) with
 | true=>
  obtain ⟨v4,c4,p4,h4,e4,_,k4⟩:=pL hl (l:=[(-1:Int),3,2]) (by simp) (by simp) k3
  exact ⟨_,ls,c4,p4,h4,by simp only [zZ,zY,d0,d1,d2,d3,g0,gi,cBo,e4,aA];rfl,by rw [cC2];exact hn,by omega,k4⟩
 | false=>
 cases v3==(2:Int) with
 | true=>exact ⟨_,ls,c3,p3,h3,by simp only [zZ,zY,d0,d1,d2,d3,g0,gi,cBo,aA];rfl,by rw [cC2];exact hn,by omega,k3⟩
 | false=>
 cases v3==(3:Int) with
 | true=>
  by_cases hz:(ls.length:Int)>0
  .obtain ⟨v4,c4,p4,h4,e4,r4,k4⟩:=aK hl (n:=(ls.length:Int)) (by omega) (by omega) k3
   obtain ⟨j,rfl⟩:=cB7 r4.1
   have hj:j<ls.length:=by omega
   refine ⟨as,ls++[ls[j]'hj],c4,p4,h4,?_,hn,by simp;omega,k4⟩
   simp only [zZ,zY,zX hz,e4,aA,zX (show (0:Int)<=(j:Int) by omega),zX (show (j:Int)<(ls.length:Int) by omega),cBo,cBe hj,aE (b:=40) (n:=ls.length) (m:=1) (by decide) (by omega),aS,bI,aZ,bA,bD]
  .exact ⟨as,ls,c3,p3,h3,by simp only [zZ,zY,zW hz,aA],hn,by omega,k3⟩
 | false=>
 cases v3==(4:Int) with
 | true=>
  obtain ⟨v4,c4,p4,h4,e4,r4,k4⟩:=aK hl (n:=9) (by decide) (by decide) k3
  obtain ⟨v5,c5,p5,h5,e5,r5,k5⟩:=aK hl (n:=9) (by decide) (by decide) k4
  obtain ⟨v6,c6,p6,h6,e6,r6,k6⟩:=aK hl (n:=5) (by decide) (by decide) k5
  exact ⟨as,ls++[(wr (v4 - 1),6,v5,6,v6)],c6,p6,h6,by simp only [zZ,zY,e4,e5,e6,aA,aE (b:=40) (n:=ls.length) (m:=1) (by decide) (by omega),aS,bI,aZ,bA,bD],hn,by simp;omega,k6⟩
 | false=>
 cases v3==(5:Int) with
 | true=>exact ⟨[],ls,c3,p3,h3,by simp only [zZ,zY,aA],by simp,by omega,k3⟩
 | false=>exact ⟨as,ls,c3,p3,h3,by simp only [zY,aA],hn,by omega,k3⟩
theorem bLj {code:List Int} (hl:code.length<=1048576) {c:List Int} {p h:Int} (hc:Cur code (c,p,h)): ∃ cap l us c' p' h',aBm (c,p,h)=some (cap,l,us,c',p',h')/\l.length<=1000/\us.length<=1000/\Cur code (c',p',h'):=by
 obtain ⟨cap,l,us,c1,p1,h1,e1,hs,hu,k1⟩:=bN1 hl hc
 have hr:l.length<=40:=hs.res.len
 obtain ⟨v2,c2,p2,h2,e2,r2,k2⟩:=aK hl (n:=12) (by decide) (by decide) k1
 unfold aBm pj3 pj6 zz4 zz5
 simp only [e1,e2,aA,aS,bI,aZ,bA,bD]
 cases v2==(0:Int) with
 | true=>
  obtain ⟨v4,c4,p4,h4,e4,_,k4⟩:=pL hl (l:=[(0:Int),1,20,21]) (by simp) (by simp) k2
  exact ⟨v4,l,us,c4,p4,h4,by simp only [zZ,e4,aA],by omega,by omega,k4⟩
 | false=>
 cases v2==(1:Int) with
 | true=>
  obtain ⟨v4,c4,p4,h4,e4,r4,k4⟩:=aK hl (n:=3) (by decide) (by decide) k2
  obtain ⟨v5,c5,p5,h5,e5,r5,k5⟩:=aK hl (n:=9) (by decide) (by decide) k4
  exact ⟨cap,l,us++[(v4,1,1,v5)],c5,p5,h5,by simp only [zZ,zY,e4,e5,aA,aE (b:=32) (n:=us.length) (m:=1) (by decide) (by omega),aS,bI,aZ,bA,bD],by omega,by simp;omega,k5⟩
 | false=>
 cases v2==(2:Int) with
 | true=>
  obtain ⟨x1,x2,x3,x4,x5,c4,p4,h4,e4,k4⟩:=bOp hl k2
  exact ⟨cap,l++[(x1,x2,x3,x4,x5)],us,c4,p4,h4,by simp only [zZ,zY,e4,aA,aE (b:=40) (n:=l.length) (m:=1) (by decide) (by omega),aS,bI,aZ,bA,bD],by simp;omega,by omega,k4⟩
 | false=>exact ⟨cap,l,us,c2,p2,h2,by simp only [zY,aA],by omega,by omega,k2⟩
structure aJv (w:den tNw):Prop where
 tot:Go.V.tot tNw w<=303000
 bytes:kY w
 flows:(aD w).length<=4
 fly:(aQ w).length<=151
 as:(nT w).1.length<=8
 links:(nT w).2.length<=101
 dead:(aO w).length<=101
def bWp (w:den tNw) (c:List Int) (p h:Int):q27:=
 ((nT w).1,(nT w).2,(nK w).1,(nK w).2,(nG w).1,(nG w).2.1,(nG w).2.2,aT w,aO w,dQ w,aQ w,aD w,bJ w,c,p,h)
theorem bSp {l:List Int} {m:Nat} (h:aCj m l):l.length<=m:=by
 have h1:=h.1
 have h2:=h.2
 have : ∀ (l:List Int) (a:Int),l.Pairwise (fun a b=>a<b)->(∀ n∈l,a<=n/\n<(m:Int))->(l.length:Int)<=max 0 ((m:Int) - a):=by
  intro l
  induction l with
  | nil=>intro a _ _;simp;omega
  | cons x l ih=>
   intro a hp hb
   obtain ⟨p1,p2⟩:=List.pairwise_cons.1 hp
   have hx:=hb x (by simp)
   have :=ih (x+1) p2 (fun n hn=>⟨by have :=p1 n hn;omega,(hb n (cBu _ hn)).2⟩)
   rw [cCf]
   omega
 have :=this l 0 h1 h2
 omega
theorem aCq (as:lAS) (ls:lLk) (dn co:lSg) (cap:Int) (res:lRs) (us:lUs) (now:Int) (dead:List Int) (fly:lFy) (flows:lFl) (box:lIb) (drop:Int):tot tNw ((as,ls),(dn,co),(cap,res,us),now,dead,fly,flows,box,drop)=(as.length+ls.length)+((tot (.sl tSg) dn+tot (.sl tSg) co)+((0+(res.length+us.length))+(0+(dead.length+(tot (.sl tFy) fly+(tot (.sl tFl) flows+(tot (.sl tIb) box+0))))))):=by
 have :=fN ((as,ls),(dn,co),(cap,res,us),now,dead,fly,flows,box,drop)
 rw [this]
 show (tot (.sl tAS) as+tot (.sl tLk) ls)+((tot (.sl tSg) dn+tot (.sl tSg) co)+((0+(tot (.sl tRs) res+tot (.sl tUs) us))+(0+(tot (.sl ti) dead+(tot (.sl tFy) fly+(tot (.sl tFl) flows+(tot (.sl tIb) box+0)))))))=_
 rw [dK (t:=tAS) rfl,dK (t:=tLk) rfl,dK (t:=tRs) rfl,dK (t:=tUs) rfl,dK (t:=ti) rfl]
theorem bCo {t:Ty} {l:List (den t)} {x:den t} (h:tot t x=0):tot (.sl t) (l++[x])=tot (.sl t) l+1:=by rw [sU,aEf,h]
theorem bIs {code:List Int} (hl:code.length<=1048576) {most:Nat} (h0:0<most) (h1:most<=100) {c:List Int} {p h:Int} (hc:Cur code (c,p,h)): ∃ w c' p' h',aBb (c,p,h) (most:Int)=some (bWp w c' p' h')/\aJv w/\Cur code (c',p',h'):=by
 obtain ⟨v,l,w,c1,p1,h1',e1,hv,hr,hn,k1⟩:=aV6 hl h0 (by omega) hc
 have hR:=hr.run hv (by omega)
 have hV:=hr.runV hv (by omega)
 have ht:tot tNw w<=300000:=cBf hR.keep.tot (by omega)
 have hf:=hR.keep.flows
 have hy:=hR.flyN
 have hdl:(aO w).length<=100:=cBf (bSp hV.dead) hv.top.links
 have has:(nT w).1.length<=8:=by rw [hR.top];exact hv.top.len
 have hls:(nT w).2.length<=100:=by rw [hR.top];exact hv.top.links
 have hb:=hR.keep.bytes
 have base:aJv w:=⟨by omega,hb,hf,by omega,has,by omega,by omega⟩
 obtain ⟨v2,c2,p2,h2,e2,r2,k2⟩:=aK hl (n:=30) (by decide) (by decide) k1
 have nb:(bJ w).length<=1000000:=by have :=fN w;have :=dB (t:=tIb) (bJ w);omega
 clear hr hR hV hv
 obtain ⟨⟨as0,ls0⟩,⟨dn,co⟩,⟨cap0,res,us0⟩,now,dead,fly,flows,box,drop⟩:=w
 simp only [nT,nK,nG,aT,aO,aQ,aD,bJ,dQ] at ht hf hy hdl has hls nb e1
 have hN:=aCq as0 ls0 dn co cap0 res us0 now dead fly flows box drop
 have bf: ∀ x∈fly,fR x.2.2:=hb.fly
 have bm: ∀ f∈flows,∀ m∈f.2.2.2.2.1,tF m:=hb.msg
 unfold aBb ixb bF9 pj2 pj3 pj4 aG aI aR bR zz4 zz5 zz6 zz7 zz8 zz9
 simp only [e1,e2,aA,aS,bI,aZ,bA,bD]
 cases v2==(0:Int) with
 | true=>
  obtain ⟨as,ls,c3,p3,h3,e3,l1,l2,k3⟩:=bN9 hl k2
  refine ⟨((as,ls),(dn,co),(cap0,res,us0),now,dead,fly,flows,box,drop),c3,p3,h3,by simp only [zZ,e3,aA];rfl,⟨?_,⟨bf,bm⟩,hf,by show fly.length<=151;omega,l1,l2,by show (dead).length<=101;omega⟩,k3⟩
  rw [aCq]
  have a1:=dK (t:=tAS) (l:=as) rfl
  have a2:=dK (t:=tLk) (l:=ls) rfl
  omega
 | false=>
 cases v2==(1:Int) with
 | true=>
  obtain ⟨v3,c3,p3,h3,e3,r3,k3⟩:=bNw hl k2
  exact ⟨((as0,ls0),(dn,co),(cap0,res,us0),v3,dead,fly,flows,box,drop),c3,p3,h3,by simp only [zZ,zY,e3,aA];rfl,⟨base.tot,⟨bf,bm⟩,hf,base.fly,has,base.links,base.dead⟩,k3⟩
 | false=>
 cases v2==(2:Int) with
 | true=>
  obtain ⟨cap,l3,us,c3,p3,h3,e3,l1,l2,k3⟩:=bLj hl k2
  refine ⟨((as0,ls0),(dn,co),(cap,l3,us),now,dead,fly,flows,box,drop),c3,p3,h3,by simp only [zZ,zY,e3,aA];rfl,⟨?_,⟨bf,bm⟩,hf,base.fly,has,base.links,base.dead⟩,k3⟩
  rw [aCq]
  have a1:=dK (t:=tRs) (l:=l3) rfl
  have a2:=dK (t:=tUs) (l:=us) rfl
  omega
 | false=>
 cases v2==(3:Int) with
 | true=>
  obtain ⟨v3,c3,p3,h3,e3,r3,k3⟩:=aK hl (n:=9) (by decide) (by decide) k2
  obtain ⟨v4,c4,p4,h4,e4,r4,k4⟩:=aK hl (n:=9) (by decide) (by decide) k3
  refine ⟨((as0,ls0),(dn,co),(cap0,res,us0),now,[v3,v4],fly,flows,box,drop),c4,p4,h4,by simp only [zZ,zY,e3,e4,aA];rfl,⟨?_,⟨bf,bm⟩,hf,base.fly,has,base.links,by show [v3,v4].length<=101;simp⟩,k4⟩
  rw [aCq,show [v3,v4].length=2 from rfl]
  have a1:tot (.sl ti) [v3,v4]=2:=by rw [dK (t:=ti) rfl];rfl
  omega
 | false=>
 cases v2==(4:Int) with
 | true=>exact ⟨((as0,ls0),(dn,co),(cap0,res,us0),now,dead,fly,flows,box,(-1:Int)),c2,p2,h2,by simp only [zZ,zY,aA];rfl,⟨base.tot,⟨bf,bm⟩,hf,base.fly,has,base.links,base.dead⟩,k2⟩
 | false=>
 cases v2==(5:Int) with
 | true=>
  refine ⟨((as0,ls0),(dn,co),(cap0,res,us0),now,dead,fly,flows,box++[((0:Int),(1:Int),(0:Int),[])],drop),c2,p2,h2,by simp only [zZ,zY,bJo,aA,aE (b:=48) (n:=box.length) (m:=1) (by decide) (by omega)];rfl,⟨?_,⟨bf,bm⟩,hf,base.fly,has,base.links,base.dead⟩,k2⟩
  rw [aCq,bCo rfl]
  omega
 | false=>
 cases v2==(6:Int) with
 | true=>
  by_cases hz:(flows.length:Int)>0
  .obtain ⟨v3,c3,p3,h3,e3,r3,k3⟩:=aK hl (n:=6) (by decide) (by decide) k2
   have hg:flows[0]? =some (flows[0]'(by omega)):=cBe (by omega)
   refine ⟨((as0,ls0),(dn,co),(cap0,res,us0),now,dead,fly,flows.set 0 (oQ (flows[0]'(by omega)) v3 (flows[0]'(by omega)).2.2.2.2.2.2.2.1),box,drop),c3,p3,h3,?_,⟨?_,⟨bf,fun f hf'=> ?_⟩,by show (flows.set 0 _).length<=4;rw [cC2];exact hf,base.fly,has,base.links,base.dead⟩,k3⟩
   .simp only [zZ,zY,zX hz,e3,aA,show decide ((0:Int)<=(0:Int))=true from rfl,zX (show (0:Int)<(flows.length:Int) by omega),show (0:Int).toNat=0 from rfl,hg]
    rfl
   .rw [aCq]
    have a1:=aOb (t:=tFl) (y:=oQ (flows[0]'(by omega)) v3 (flows[0]'(by omega)).2.2.2.2.2.2.2.1) hg
    have a2:tot tFl (oQ (flows[0]'(by omega)) v3 (flows[0]'(by omega)).2.2.2.2.2.2.2.1)=tot tFl (flows[0]'(by omega)):=rfl
    omega
   .rcases cDz (show f∈flows.set 0 _ from hf') with hf' | rfl
    .exact bm f hf'
    .have hm0:=bm _ (cBr hg)
     exact hm0
  .exact ⟨((as0,ls0),(dn,co),(cap0,res,us0),now,dead,fly,flows,box,drop),c2,p2,h2,by simp only [zZ,zY,zW hz,aA];rfl,base,k2⟩
 | false=>
 cases v2==(7:Int) with
 | true=>
  obtain ⟨v3,c3,p3,h3,e3,r3,k3⟩:=aK hl (n:=9) (by decide) (by decide) k2
  refine ⟨((as0,ls0),(dn,co),(cap0,res,us0),now,dead,fly++[(v3,(0:Int),((0:Int),(0:Int),(0:Int),[],(0:Int),(0:Int),(0:Int),(0:Int),(0:Int),[]))],flows,box,drop),c3,p3,h3,by simp only [zZ,zY,e3,aA,aE (b:=128) (n:=fly.length) (m:=1) (by decide) (by omega)];rfl,⟨?_,⟨fun x hx=> ?_,bm⟩,hf,by show (fly++[_]).length<=151;simp;omega,has,base.links,base.dead⟩,k3⟩
  .rw [aCq,bCo rfl]
   omega
  .rcases cBp.1 (show x∈fly++[_] from hx) with hx | hx
   .exact bf x hx
   .rw [cBn.1 hx]
    exact fun y hy=>(cB2 hy).elim
 | false=>exact ⟨((as0,ls0),(dn,co),(cap0,res,us0),now,dead,fly,flows,box,drop),c2,p2,h2,by simp only [zY,aA];rfl,base,k2⟩
def mS:lPp->Nat
 | []=>0
 | x::l=>x.2.2.2.length+mS l
theorem aL8: ∀ a b:lPp,mS (a++b)=mS a+mS b
 | [],b=>(Nat.zero_add _).symm
 | x::a,b=>by
  show x.2.2.2.length+mS (a++b)=x.2.2.2.length+mS a+mS b
  rw [aL8 a b];omega
theorem aLr: ∀ l:lPp,mS l<=tot (.sl tPp) l
 | []=>cB1 _
 | x::l=>by
  have :=aLr l
  rw [kH]
  have e:tot tPp x=x.2.2.2.length:=by
   show tot ti x.1+(tot ti x.2.1+(tot ti x.2.2.1+tot (.sl cM) x.2.2.2))=_
   rw [dK (t:=cM) rfl]
   simp [qK]
  show x.2.2.2.length+mS l<=_
  omega
theorem aV3: ∀ l:lPp,mS (yC l)=mS l
 | []=>rfl
 | x::l=>by
  have :=aV3 l
  unfold yC at this ⊢
  rw [List.reverse_cons,List.map_append,aL8,this]
  show mS l+((wC x).2.2.2.length+0)=x.2.2.2.length+mS l
  unfold wC
  simp only [List.length_reverse]
  omega
def aAl (p:den tPk):Nat:=mS (p.2.2.2.1.drop p.2.2.2.2.1.toNat) - p.2.2.2.2.2.1.toNat
theorem bYf {p:den tPk} (h:cI p=true): ∃ i j:Nat,p.2.2.2.2.1=(i:Int)/\p.2.2.2.2.2.1=(j:Int)/\j<(bV p).2.2.2.length/\mS (p.2.2.2.1.drop i)=(bV p).2.2.2.length+mS (p.2.2.2.1.drop (i+1)):=by
 obtain ⟨i,j,h1,h2,h3,h4,_⟩:=gV h
 refine ⟨i,j,h1,h2,(cBm.1 h4).1,?_⟩
 obtain ⟨hlt,e⟩:=cBm.1 h3
 rw [List.drop_eq_getElem_cons hlt,e]
 rfl
theorem bB0 {p:den tPk} (h:cI p=true) (h0:0<=dA p) (ha:fS p=false):aAl (adv p)+1=aAl p:=by
 obtain ⟨i,j,h1,h2,h3,h4⟩:=bYf h
 unfold adv
 rw [ha,zW (show ¬ dA p<0 by omega),cC7,zS (by decide)]
 unfold aAl
 rw [h1,h2,cBo,cBo,h4]
 split
 .rename_i hl
  unfold eB at hl
  rw [h2] at hl
  have hl:(j:Int)=((bV p).2.2.2.length:Int) - 1:=eq_of_beq hl
  show mS (p.2.2.2.1.drop ((i:Int)+1).toNat) - (0:Int).toNat+1=_
  rw [show ((i:Int)+1).toNat=i+1 by omega,show (0:Int).toNat=0 from rfl]
  omega
 .rename_i hl
  show mS (p.2.2.2.1.drop (i:Int).toNat) - ((j:Int)+1).toNat+1=_
  rw [show ((j:Int)+1).toNat=j+1 by omega,cBo,h4]
  omega
theorem aJs (t:den tTo) (p:den tPk):aAl (bF t p)=aAl p:=by
 unfold bF;split<;>rfl
theorem bC4 {t:den tTo} {now:Int}: ∀ (n:Nat) (p:den tPk),(goC t now n p).1=0->aAl (goC t now n p).2<=aAl p
 | 0,p,h=>Nat.le_of_eq (aJs t p)
 | n+1,p,h=>by
  obtain ⟨h1,h2⟩:=zE (aIc h)
  obtain ⟨e1,e2,_⟩:=zN t p
  unfold goC at h ⊢
  split at h
  .rename_i hc
   rw [zT hc]
   simp only [cBg,cCg] at hc
   have :=bC4 n _ h
   have h3:=bB0 (p:=bF t p) (e1.trans h1) (by rw [e2];exact h2) hc.2.2
   rw [aJs] at h3
   omega
  .rename_i hc
   rw [zS hc]
   exact Nat.le_of_eq (aJs t p)
theorem bSw {t:den tTo} {r now dead inn:Int} {p:den tPk} (h:(fwd t r now dead inn p).1=0):aAl (fwd t r now dead inn p).2.2.1+1<=aAl p:=by
 unfold fwd at h ⊢
 split at h
 .exact absurd h (show ¬ ((2:Int)=0) by decide)
 rename_i c1
 rw [zS c1]
 split at h
 .exact absurd h (show ¬ ((3:Int)=0) by decide)
 rename_i c2
 rw [zS c2]
 split at h
 .rename_i c3;simp only [cCg,beq_eq_false_iff_ne] at c3;exact absurd h c3
 rename_i c3
 rw [zS c3]
 split at h
 .split at h<;>first | exact absurd h (show ¬ ((1:Int)=0) by decide) | exact absurd h (show ¬ ((2:Int)=0) by decide)
 rename_i c4
 rw [zS c4]
 split at h
 .exact absurd h (show ¬ ((6:Int)=0) by decide)
 rename_i c5
 rw [zS c5]
 split at h
 .exact absurd h (show ¬ ((7:Int)=0) by decide)
 rename_i c6
 rw [zS c6]
 have c3:(bT t now p).1=0:=by simpa using c3
 have c4:fS (bT t now p).2=false:=by simpa using c4
 obtain ⟨q1,q2,_⟩:=aEk (t:=t) (now:=now) (p.2.2.2.1.length - p.2.2.2.2.1.toNat) p c3
 have a:=bC4 (t:=t) (now:=now) (p.2.2.2.1.length - p.2.2.2.2.1.toNat) p c3
 have b:=bB0 (p:=(bT t now p).2) q1 q2 c4
 show aAl (adv (bT t now p).2)+1<=aAl p
 have a:aAl (bT t now p).2<=aAl p:=a
 omega
def rM (p:den tPk):Nat:=1+aAl p+cond (p.1==(1:Int)) 72 0
def aIx:lFy->Nat
 | []=>0
 | x::l=>rM x.2.2+aIx l
theorem aUj: ∀ (l:lFy) (x:den tFy),aIx (l++[x])=aIx l+rM x.2.2
 | [],x=>by show rM x.2.2+0=0+rM x.2.2;omega
 | y::l,x=>by
  show rM y.2.2+aIx (l++[x])=rM y.2.2+aIx l+rM x.2.2
  rw [aUj l x];omega
def lM (w:den tNw):Nat:=aIx (aQ w)
theorem aMx (w:den tNw):lM (zA w)=lM w:=rfl
theorem aV2 (w:den tNw) (r:Int) (p:den tPk):lM (wR w r p)=lM w:=rfl
theorem aVv (w:den tNw) (r eg:Int) (p:den tPk):lM (rD w r eg p)<=lM w+rM p:=by
 unfold rD
 split
 .show aIx (aQ w++[_])<=_
  rw [aUj]
  exact cBs _
 .exact cD7 _ _
theorem aXm {t:den tTo} {now:Int} {dead:List Int} {r inn:Int} {p:den tPk} (h:((aW t now dead r inn p).1==0)=true):rM (aW t now dead r inn p).2.2.1+1<=rM p:=by
 have h:(fwd t r now (jS t dead r) inn p).1=0:=eq_of_beq (show ((fwd t r now (jS t dead r) inn p).1==0)=true from h)
 have a:=bSw h
 have b:=(aC8 t r now (jS t dead r) inn p).1
 unfold aW rM
 rw [b]
 omega
theorem bI2 (w:den tNw) (r inn:Int) (p:den tPk):lM (proc0 w r inn p)+1<=lM w+rM p:=by
 have hp:1<=rM p:=by unfold rM;omega
 unfold proc0
 split
 .rename_i hc
  have :=aXm hc
  have :=aVv w r (aW (nT w) (aT w) (aO w) r inn p).2.1 (aW (nT w) (aT w) (aO w) r inn p).2.2.1
  omega
 .split
  .rw [aV2];omega
  .rw [aMx];omega
theorem bS6 {x:den tIb} {p:den tPk} (h:mS p.2.2.2.1<=70):rM (mW x p)<=71:=by
 unfold mW
 split
 .have e:aAl (aK1 p 2 p.2.2.2.2.2.2.2.2.1 [])=mS p.2.2.2.1:=by
   show mS ((yC p.2.2.2.1).drop 0) - 0=_
   rw [List.drop_zero,aV3];rfl
  unfold rM
  rw [e]
  show 1+mS p.2.2.2.1+0<=71
  omega
 .exact (by decide:rM pk0<=71)
theorem bLi {w:den tNw} {r:Int} {p:den tPk} (h:mS p.2.2.2.1<=70):lM (aAw w r p)<=lM w+70:=by
 unfold aAw
 split
 .omega
 .split
  .have a:=bI2 (rG w (gE (bJ w) r p.2.1).toNat (eE (vF w (gE (bJ w) r p.2.1).toNat) p)) r 0 (mW (eE (vF w (gE (bJ w) r p.2.1).toNat) p) p)
   have b:=bS6 (x:=eE (vF w (gE (bJ w) r p.2.1).toNat) p) h
   have e:lM (rG w (gE (bJ w) r p.2.1).toNat (eE (vF w (gE (bJ w) r p.2.1).toNat) p))=lM w:=rfl
   omega
  .exact cD7 _ _
theorem bHs (t:den tTo) (r:Int):jS t [] r=0:=by
 unfold jS
 have : ∀ (l:List Int) (k:Nat),cN (fun _ x a=>cond (tJ [] (pB t r x)) (aLs a x) a) k l (0:Int)=0:=by
  intro l
  induction l with
  | nil=>intro k;rfl
  | cons x l ih=>intro k;exact ih (k+1)
 exact this _ _
theorem bFt (i:Int):aGb 0 i=false:=by
 unfold aGb
 cases h:inR i 0 15 with
 | false=>simp
 | true=>
  obtain ⟨h0,h1⟩:=bM.1 h
  obtain ⟨n,rfl⟩:=cB7 h0
  have hn:n<=15:=by omega
  clear h h0 h1
  revert n
  decide
theorem bHz {t:den tTo} {now r inn:Int} {p:den tPk}:((aW t now [] r inn p).1==7)=false:=by
 unfold aW
 rw [bHs]
 unfold fwd
 have g:((bT t now p).1==7)=false:=by
  have : ∀ (n:Nat) (p:den tPk),((goC t now n p).1==7)=false:=by
   have c: ∀ p,(dC t now p==7)=false:=fun p=>by
    unfold dC
    split
    .split<;>rfl
    .rfl
   intro n
   induction n with
   | zero=>intro p;exact c p
   | succ n ih=>
    intro p
    unfold goC
    split
    .exact ih _
    .exact c p
  exact this _ _
 rw [bFt]
 repeat' split
 all_goals first
  | rfl
  | exact g
  | (rename_i h;exact absurd h (by decide))
theorem aVw {w:den tNw} {r inn:Int} {p:den tPk} (hd:aO w=[]):lM (fK w r inn p)+1<=lM w+rM p:=by
 have hp:1<=rM p:=by unfold rM;omega
 unfold fK
 rw [hd]
 split
 .rename_i hc
  have :=aXm hc
  have :=aVv w r (aW (nT w) (aT w) [] r inn p).2.1 (aW (nT w) (aT w) [] r inn p).2.2.1
  omega
 .split
  .rename_i hc
   split
   .rename_i h1
    have hv:gD p=true:=aIa (t:=nT w) (r:=r) (now:=aT w) (dead:=jS (nT w) [] r) (inn:=inn) (by
     have h:((fwd (nT w) r (aT w) (jS (nT w) [] r) inn p).1==1)=true:=hc
     rw [eq_of_beq h];rfl)
    have ht:=aF3 hv
    have e:(aW (nT w) (aT w) [] r inn p).2.2.1.2.2.2.1=p.2.2.2.1:=by
     obtain ⟨i,j,b,e⟩:=aP2 (nT w) r (aT w) (jS (nT w) [] r) inn p
     unfold aW
     rw [e];rfl
    have hh:=aLr p.2.2.2.1
    have hk:tot tPk p=tot tPt p.2.2.2.1+tot (.sl tb) p.2.2.2.2.2.2.2.2.2:=by simp [oW,qK]
    have hh:mS p.2.2.2.1<=tot tPt p.2.2.2.1:=hh
    have :=bLi (w:=w) (r:=r) (p:=(aW (nT w) (aT w) [] r inn p).2.2.1) (by rw [e];omega)
    have e2:rM p=1+aAl p+72:=by unfold rM;rw [h1];rfl
    omega
   .rw [aV2];omega
  .rw [bHz]
   show lM (zA w)+1<=_
   rw [aMx];omega
theorem bLn {w:den tNw} {r inn:Int} {p:den tPk} (hd:aO w=[]):lM (fK w r inn p)<=lM w+142:=by
 cases hv:gD p with
 | false=>rw [aMa hv,aMx];omega
 | true=>
  have h:=aVw (r:=r) (inn:=inn) (p:=p) hd
  have ht:=aF3 hv
  have hk:tot tPk p=tot tPt p.2.2.2.1+tot (.sl tb) p.2.2.2.2.2.2.2.2.2:=by simp [oW,qK]
  have hh:=aLr p.2.2.2.1
  have hh:mS p.2.2.2.1<=tot tPt p.2.2.2.1:=hh
  have hr:aAl p<=mS p.2.2.2.1:=by
   unfold aAl
   have e:=aL8 (p.2.2.2.1.take p.2.2.2.2.1.toNat) (p.2.2.2.1.drop p.2.2.2.2.1.toNat)
   rw [cCw] at e
   omega
  have hc:cond (p.1==(1:Int)) 72 0<=72:=by cases (p.1==(1:Int))<;>decide
  unfold rM at h
  omega
theorem bMb {w:den tNw} {x:den tFy} {l:lFy} (hf:aQ w=x::l) (hd:aO w=[]):lM (aAp w)+1<=lM w:=by
 unfold aAp
 rw [hf]
 show lM (fK (bG w l) x.1 x.2.1 x.2.2)+1<=_
 have h:=aVw (w:=bG w l) (r:=x.1) (inn:=x.2.1) (p:=x.2.2) hd
 have e:lM w=rM x.2.2+aIx l:=by unfold lM;rw [hf];rfl
 have e2:lM (bG w l)=aIx l:=rfl
 omega
theorem bJj (w:den tNw):aO (aAp w)=aO w:=by
 unfold aAp
 split
 .rfl
 .exact aFz _ _ _ _
theorem aQ7: ∀ (n:Nat) {w:den tNw},aO w=[]->lM w<=n->aQ (aA2 n w)=[]/\aO (aA2 n w)=[]
 | 0,w,hd,hp=>by
  refine ⟨?_,hd⟩
  show aQ w=[]
  unfold lM at hp
  generalize aQ w=l at hp
  cases l with
  | nil=>rfl
  | cons x l=>
   have :rM x.2.2+aIx l<=0:=hp
   unfold rM at this
   omega
 | n+1,w,hd,hp=>by
  unfold aA2
  split
  .rename_i h;exact ⟨h,hd⟩
  .rename_i x l h
   have :=bMb h hd
   exact aQ7 n (by rw [bJj];exact hd) (by omega)
theorem bIv {w:den tNw} (k:Nat) (hd:aO w=[]):lM (stepT k w)<=lM w+142:=by
 unfold stepT
 split
 .rename_i f hf
  split
  .have :=bLn (w:=dU w ((aD w).set k (aF f).1)) (r:=(aF f).1.1) (inn:=0) (p:=(aF f).2.1) hd
   exact this
  .exact cD7 _ _
 .exact cD7 _ _
theorem aUl: ∀ (n k:Nat) {w:den tNw},aO w=[]->lM (tickL k n w)<=lM w+142 * n
 | 0,_,_,_=>cBs _
 | n+1,k,w,hd=>by
  have h1:=bIv k hd
  have h2:=aUl n (k+1) (w:=stepT k w) (by rw [aR9];exact hd)
  unfold tickL
  omega
theorem bLe {w:den tNw} (hd:aO w=[]) (hf:(aD w).length<=4):lM (cV w)<=lM w+568:=by
 unfold cV
 split
 .omega
 .have h:=aUl (aD w).length 0 (w:=aE2 w) hd
  have e:lM (aE2 w)=lM w:=rfl
  have :142 * (aD w).length<=568:=by omega
  omega
theorem kZ.out {t:den tTo} {B k d:Nat} {w:den tNw} (h:kZ t B k d w) (hd:d<=900000):kZ t (B+164) k (d+2) (aAp w):=by
 unfold aAp
 split
 .exact h.mono (by omega) (cBs _) (by omega)
 .rename_i x l hf
  have hx:x∈aQ w:=by rw [hf];exact List.mem_cons_self ..
  have hs:cS w (bG w l):=⟨rfl,rfl,id,fun y hy=> .inl (by rw [hf];exact cBu _ hy),fun hn=>by
   rw [hf] at hn
   show l.length<=150
   simp only [cCf] at hn
   omega⟩
  obtain ⟨k1,k2,k3⟩:=aKv h.run.keep hf
  have hk:=aKy (r:=x.1) (inn:=x.2.1) (p:=x.2.2) k1 k3
  refine ⟨h.run.step (hs.trans (cS.proc _ _ _ _)) hk,?_,?_,?_⟩
  .exact aMv (h.inv.same (w':=bG w l) rfl rfl rfl fun y hy=> .inl (by rw [hf];exact cBu _ hy)) (h.inv.good x hx)
  .exact cH.proc (n:=d) (w:=bG w l) (cH.eq h.drop rfl) (by omega) _ _ _
  .rw [aFz];exact h.dead
theorem kZ.del {t:den tTo}: ∀ (n:Nat) {B k d:Nat} {w:den tNw},kZ t B k d w->d+2 * n<=900000->kZ t (B+n * 164) k (d+2 * n) (aA2 n w)
 | 0,B,k,d,w,h,_=>h.mono (by omega) (cBs _) (by omega)
 | n+1,B,k,d,w,h,hd=>by
  unfold aA2
  split
  .exact h.mono (by omega) (cBs _) (by omega)
  .exact (kZ.del n (h.out (by omega)) (by omega)).mono (by rw [cCa];omega) (cBs _) (by omega)
theorem kZ.tick {t:den tTo} {B k d:Nat} {w:den tNw} (h:kZ t B k d w) (hk:k<=1000) (hd:d<=900000):kZ t (B+656) (k+1) (d+8) (cV w):=by
 refine ⟨aVc h.run hk,aVn h.inv,?_,by rw [aK9];exact h.dead⟩
 have hf:=h.run.keep.flows
 unfold cV
 split
 .exact h.drop.mono (by omega)
 .refine cH.mono (n:=d+2 * (aD w).length) (cH.tickL (m:=0) (aD w).length 0 (n:=d) ?_ (by omega)) (by omega)
  exact cH.eq h.drop rfl
theorem kZ.step {t:den tTo} {B k d:Nat} {w:den tNw} (h:kZ t B k d w) (hk:k<=1000) (hd:d<=800000):kZ t (B+328656) (k+1) (d+4008) (aA2 2000 (cV w)):=
 ((h.tick hk (by omega)).del 2000 (by omega)).mono (by omega) (cBs _) (by omega)
theorem aGz: ∀ (n:Nat) (w:den tNw),nD (n+1) w=tG (nD n w)
 | 0,_=>rfl
 | n+1,w=>aGz n (tG w)
theorem bBf {t:den tTo} {B k d:Nat} {w:den tNw} (h:kZ t B k d w) (hk:k<=1000) (hd:d<=800000) (h0:aO w=[]) (h1:aQ w=[]):kZ t (B+328656) (k+1) (d+4008) (tG w)/\aO (tG w)=[]/\aQ (tG w)=[]:=by
 have e:lM w=0:=by unfold lM;rw [h1];rfl
 have a:=bLe h0 h.run.keep.flows
 obtain ⟨f1,f2⟩:=aQ7 2000 (w:=cV w) (by rw [aK9];exact h0) (by omega)
 exact ⟨h.step hk hd,f2,f1⟩
theorem aLu {t:den tTo} {B k d:Nat} {w:den tNw} (h:kZ t B k d w) (h0:aO w=[]) (h1:aQ w=[]) (n:Nat):k+n<=1000->d+n * 4008<=800000->kZ t (B+n * 328656) (k+n) (d+n * 4008) (nD n w)/\aO (nD n w)=[]/\aQ (nD n w)=[]:=by
 induction n with
 | zero=>intro _ _;exact ⟨h.mono (by omega) (by omega) (by omega),h0,h1⟩
 | succ n ih=>
  intro hk hd
  have e:(n+1) * 4008=n * 4008+4008:=cCa _ _
  have e2:(n+1) * 328656=n * 328656+328656:=cCa _ _
  obtain ⟨a,b,c⟩:=ih (by omega) (by omega)
  rw [aGz]
  obtain ⟨a',b',c'⟩:=bBf a (by omega) (by omega) b c
  exact ⟨a'.mono (by omega) (by omega) (by omega),b',c'⟩
def aNz (w:den tNw) (c:List Int) (p h:Int):lAS×lLk×lSg×lSg×Int×lRs×lUs×Int×lI×Int×lI×Int×Int×lFy×lFl×lIb:=
 ((nT w).1,(nT w).2,(nK w).1,(nK w).2,(nG w).1,(nG w).2.1,(nG w).2.2,aT w,aO w,dQ w,c,p,h,aQ w,aD w,bJ w)
theorem aHo {code:List Int} (hl:code.length<=1048576) {most:Nat} (h0:0<most) (h1:most<=100): ∃ w c' p' h',eZ code (most:Int)=some (aNz w c' p' h')/\aJv w/\Cur code (c',p',h'):=by
 obtain ⟨c0,p0,h0',e0,k0⟩:=aTo hl
 obtain ⟨w,c1,p1,h1',e1,hw,k1⟩:=bIs hl h0 h1 k0
 refine ⟨w,c1,p1,h1',?_,hw,k1⟩
 unfold eZ pj3 aG aI aR bR fJ mP zz4 zz5 zz6 zz7 zz8 zz9
 simp only [e0,e1,aA,bWp]
 rfl
def netE (w:den tNw) (n:Int):q26:=
 ((nT w).1,(nT w).2,(nK w).1,(nK w).2,(nG w).1,(nG w).2.1,(nG w).2.2,aT w,aO w,dQ w,n,aQ w,aD w,bJ w)
theorem bBg {code:List Int} (hl:code.length<=1048576): ∃ w n,gA code=some (netE w n)/\aJv w:=by
 obtain ⟨w,c1,p1,h1,e1,hw,k1⟩:=aHo hl (most:=20) (by decide) (by decide)
 have e1:eZ code (20:Int)=_:=e1
 obtain ⟨v,c2,p2,h2,e2,r2,k2⟩:=pL hl (l:=[(0:Int),1,3,2000,2001,-1]) (by decide) (by decide) k1
 refine ⟨w,v,?_,hw⟩
 unfold gA dd one pj3 aG aI aR bR zz4 zz5 zz6 zz7 zz8 zz9
 simp only [e1,aNz,e2,aA,aS,bI,aZ,bA,bD]
 rfl
theorem aZk {code:List Int} (hl:code.length<=1048576): ∃ w,oI code=some (bGj w)/\aJv w:=by
 obtain ⟨w,c1,p1,h1,e1,hw,k1⟩:=aHo hl (most:=20) (by decide) (by decide)
 have e1:eZ code (20:Int)=_:=e1
 refine ⟨w,?_,hw⟩
 unfold oI pj3 bR zz4 zz5 zz6 zz7 zz8 zz9
 simp only [e1,aNz,aA]
 rfl
theorem aZj {code:List Int} (hl:code.length<=1048576): ∃ w n,mV code=some (netE w n)/\aJv w/\(n<=12\/1000<n):=by
 obtain ⟨w,c1,p1,h1,e1,hw,k1⟩:=aHo hl (most:=15) (by decide) (by decide)
 have e1:eZ code (15:Int)=_:=e1
 obtain ⟨v,c2,p2,h2,e2,r2,k2⟩:=pL hl (l:=[(0:Int),1,4,12,1001,-1]) (by decide) (by decide) k1
 refine ⟨w,v,?_,hw,?_⟩
 .unfold mV dd one pj3 aG aI aR bR zz4 zz5 zz6 zz7 zz8 zz9
  simp only [e1,aNz,e2,aA,aS,bI,aZ,bA,bD]
  rfl
 .simp only [List.mem_cons,cB2,or_false] at r2
  rcases r2 with rfl | rfl | rfl | rfl | rfl | rfl<;>decide
def bWg (w:den tNw) (f:den tFl):q43:=
 ((nT w).1,(nT w).2,(nK w).1,(nK w).2,(nG w).1,(nG w).2.1,(nG w).2.2,aT w,aO w,dQ w,f.1,f.2.1,f.2.2.1,f.2.2.2.1,f.2.2.2.2.1,f.2.2.2.2.2.1,f.2.2.2.2.2.2.1,f.2.2.2.2.2.2.2.1,f.2.2.2.2.2.2.2.2,aQ w,aD w,bJ w)
theorem aXl {code:List Int} (hl:code.length<=1048576): ∃ w f,kF code=some (bWg w f)/\tot tNw w<=300000/\tot tFl f<=300000:=by
 obtain ⟨c0,p0,h0,e0,k0⟩:=aTo hl
 obtain ⟨v,l,w,c1,p1,h1,e1,hv,hr,hn,k1⟩:=aV6 hl (most:=20) (by decide) (by decide) k0
 have e1:pF (c0,p0,h0) (20:Int)=_:=e1
 have hR:=hr.run hv (by omega)
 have ht:tot tNw w<=300000:=cBf hR.keep.tot (by omega)
 have hf:=hR.keep.flows
 unfold kF ixb pj3 pj9 aG aI aR bR fJ mP tA xR yZ zz4 zz5 zz6 zz7 zz8 zz9
 simp only [e0,e1,aA,aS,bI,aZ,bA,bD]
 by_cases hz:((aD w).length:Int)>0
 .obtain ⟨v3,c3,p3,h3,e3,r3,k3⟩:=aK hl (n:=((aD w).length:Int)) hz (by omega) k1
  obtain ⟨i,rfl⟩:=cB7 r3.1
  have hi:i<(aD w).length:=by omega
  have hx:(aD w)[i]? =some (aD w)[i]:=cBe hi
  refine ⟨w,(aD w)[i],?_,ht,?_⟩
  .simp only [zX hz,zZ,e3,aA,zX (show (0:Int)<=(i:Int) by omega),zX (show (i:Int)<((aD w).length:Int) by omega),cBo,hx]
   rfl
  .have h1:=sO (t:=tFl) (cBt hi)
   have :=fN w
   omega
 .refine ⟨w,(0,1,0,0,[],[],0,0,[]),?_,ht,by decide⟩
  have enf:tY 0 1 0=some (0,1,0,0,0,0,[],[],[]):=rfl
  simp only [zW hz,zY,enf,aA]
  rfl
theorem aJv.run_tot {w:den tNw} (h:aJv w) {n:Int} (hn:n<=12\/1000<n):Go.V.tot tNw (iR w n)<=4300000:=by
 have ht:=h.tot
 unfold iR
 split
 .rename_i hc
  rw [cBg,bM] at hc
  have h1:=(aG9 n.toNat (F:=4) (B:=303000) (w:=w) ⟨ht,h.flows,h.bytes⟩).tot
  rw [bR4] at h1
  have :n.toNat * 328656<=12 * 328656:=Nat.mul_le_mul_right _ (by omega)
  omega
 .omega
theorem bAf {code:List Int} (hl:code.length<=1048576): ∃ w,sE code=some (bGj w)/\tot tNw w<=4300000:=by
 obtain ⟨w,c1,p1,h1,e1,hw,k1⟩:=aHo hl (most:=40) (by decide) (by decide)
 have e1:eZ code (40:Int)=_:=e1
 have ht:=hw.tot
 have e2:=bLp (w:=w) (n:=12) (by omega) hw.bytes
 unfold sE dM pj3 bR fJ mP zz4 zz5 zz6 zz7 zz8 zz9
 simp only [e1,aNz,aA]
 cases (Int.tmod (code.length:Int) (3:Int))==(0:Int) with
 | true=>
  refine ⟨iR w 12,?_,hw.run_tot (.inl (by decide))⟩
  have e2:nP (((nT w).1,(nT w).2),((nK w).1,(nK w).2),((nG w).1,(nG w).2.1,(nG w).2.2),aT w,aO w,aQ w,aD w,bJ w,dQ w) 12=some (dI (iR w 12)):=e2
  simp only [zZ,e2,aA]
  rfl
 | false=>exact ⟨w,rfl,by omega⟩
theorem aTv {code:List Int} (hl:code.length<=1048576): ∃ w,gJ code=some (bGj w)/\aJv w:=by
 obtain ⟨w,c1,p1,h1,e1,hw,k1⟩:=aHo hl (most:=10) (by decide) (by decide)
 have e1:eZ code (10:Int)=_:=e1
 refine ⟨w,?_,hw⟩
 unfold gJ pj3 bR zz4 zz5 zz6 zz7 zz8 zz9
 simp only [e1,aNz,aA]
 rfl
def bBv (w:den tNw) (n:Int):Int×q5:=
 ((nG w).1,aT w,dQ w,n,(nT w).1,(nT w).2,(nK w).1,(nK w).2,(nG w).2.1,(nG w).2.2,aO w,aQ w,aD w,bJ w)
theorem bPh {code:List Int} (hl:code.length<=1048576): ∃ w n,vR code=some (bBv w n)/\yI 3 w/\(0<=n/\n<256):=by
 obtain ⟨c0,p0,h0,e0,k0⟩:=aTo hl
 obtain ⟨w,c1,p1,h1,e1,hw,k1⟩:=bCn hl k0
 obtain ⟨v,c2,p2,h2,e2,r2,k2⟩:=aK hl (n:=256) (by decide) (by decide) k1
 refine ⟨w,v,?_,hw,r2⟩
 unfold vR pj3 aG aI aR bR zz4 zz5 zz6 zz7 zz8 zz9
 simp only [e0,e1,aAn,e2,aA]
 rfl
end Go.Proofs.YtcppmcbkokgfcaaGreat
