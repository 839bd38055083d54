/-
  Facts and plain laws: what the functions compute, in plain words. Conditions: as each says.
-/
import Derived.Test.YtcppmcbkokgfcaaGreatQ1FnEvents
open List renaming getElem?_eq_some_iff->cEj,nil_append->cEx,filter_cons->cGt,append_nil->cFe,getElem?_eq_getElem->cEb,mem_append->cEl,mem_of_mem_take->cF3,mem_of_mem_drop->cF2,mem_of_getElem?->cEn,length_set->cFt,mem_or_eq_of_mem_set->cG0,getElem_mem->cFi,mem_singleton->cEk,not_mem_nil->cE1,mem_cons_of_mem->cEp,length_append->cEy,length_take->cFl,length_drop->cGc,length_singleton->cFx,getLast?_concat->cG3,dropLast_concat->cHr,pairwise_iff_getElem->cGe,getElem?_map->cGf,getElem?_set->cGs,getElem?_set_self->cHg,mem_map->cEi,mem_filter->cEq,length_map->cFb,mem_cons->cEh,mem_iff_getElem?->cG4,length_cons->cE8
open Int renaming toNat_natCast->cEf,lt_irrefl->cE2,eq_ofNat_of_zero_le->cE0,le_refl->cFh,le_trans->cGu
open Nat renaming le_trans->cEa,zero_le->cEt,le_refl->cEr,succ_mul->cE7
open Bool renaming not_true->cEc,false_eq_true->cEg,not_false->cEm,or_true->cGj,true_or->cGi,and_self->cFv,or_self->cF0,and_eq_true->cEe,not_eq_true'->cFg,or_eq_true->cFq
open Option renaming map_eq_some_iff->cE5,getD_some->cE3,map_some->cF7
open Sum renaming elim_inl->cFn
set_option linter.unusedVariables false
set_option linter.unusedSimpArgs false
set_option maxRecDepth 100000
namespace Go.Proofs.YtcppmcbkokgfcaaGreat
open Go.Ab Go.V
theorem bNm {w:den tNw} {i:Nat} {x:den tFy} (hx:(aR w)[i]? =some x) (hl:(aR w).length<=1073741824):xE w (i:Int)=some (bTz x (aA9 w i)):=by
 have hlt:i<(aR w).length:=(cEj.1 hx).1;have hx:w.2.2.2.2.2.1[((i:Nat):Int).toNat]? =some x:=by rw [cEf];exact hx
 have h1:decide ((i:Int)<(w.2.2.2.2.2.1.length:Int))=true:=zX (by have :i<w.2.2.2.2.2.1.length:=hlt;omega);have e1:wr ((i:Int)+1)=((i+1:Nat):Int):=(wri (by omega) (by omega)).trans (by omega);have h2:bX ((i+1:Nat):Int) (w.2.2.2.2.2.1.length:Int) (w.2.2.2.2.2.1.length:Int)=true:=aCq (show i+1<=w.2.2.2.2.2.1.length from hlt);have h3:bX (0:Int) (i:Int) (w.2.2.2.2.2.1.length:Int)=true:=aH4 (k:=i) (Nat.le_of_lt hlt);have hl:w.2.2.2.2.2.1.length<=1073741824:=hl;unfold xE ixb aI aL aU zz4 zz5 zz6 zz7 zz8 zz9;simp only [h1,hx,aA,zZ,e1,h2,h3,fR,aD0,cEx,aE (b:=128) (n:=([]:lFy).length) (m:=(w.2.2.2.2.2.1.take i).length) (by decide) (by simp;omega),aE (b:=128) (n:=(w.2.2.2.2.2.1.take i).length) (m:=(w.2.2.2.2.2.1.drop (i+1)).length) (by decide) (by simp;omega),zX (show (0:Int)<=(i:Int) by omega)];rfl
def tY (m:Nat) (dead:List Int) (i:Int) (b:Bool):List Int:=((List.range m).map fun k:Nat=>((k:Nat):Int)).filter fun k:Int=>(qC dead k&&(k != i))||(b&&(k==i))
def aHw (w:den tNw) (i:Int) (b:Bool):Bool:=(qC (aK w) i==b)|| !inR i 0 (((nT w).2.length:Int) - 1)
def aAw (w:den tNw) (i:Int) (b:Bool):den tNw:=if aHw w i b then w else aHt w (tY (nT w).2.length (aK w) i b)
theorem bKk {w:den tNw} {i:Int} {b:Bool} (h1:(nT w).2.length<=1073741824) (h2:(aK w).length<=68719476736):aAj w i b=some (!aHw w i b,cB (aAw w i b)):=by
 have w1:wr ((w.1.2.length:Int) - 1)=(w.1.2.length:Int) - 1:=fU (cEa h1 (by decide));have e1:=fun n=>aIw (l:=w.2.2.2.2.1) (n:=n) h2
 unfold aAj aAw aHw zz4 zz5 zz6 zz7 zz8;simp only [e1,aA,w1,fQ];cases hb:(qC w.2.2.2.2.1 i==b) with
 | true=>rfl
 | false=>
  simp only [zY,aA,Bool.false_or];cases inR i 0 ((w.1.2.length:Int) - 1) with
  | false=>rfl
  | true=>
   simp only [cEc,zY,cEg,zU,cEm];refine gZ (G:=fun o=>o=some (true,cB (aHt w (tY (nT w).2.length (aK w) i b)))) w.1.2.length (fun s:Int×List Int=>s.1) (fun k s=>s.2.length<=k/\s.2=tY k (aK w) i b) (fun r:List Int=>r=tY w.1.2.length (aK w) i b) ?_ ?_ 0 ((0:Int),[]) (cEt _) rfl ⟨by simp,rfl⟩ ?_
   .rintro k ⟨_,l⟩ hk rfl ⟨g1,g2⟩
    simp only at g1 g2;right;have hk':k<=1073741824:=cEa (Nat.le_of_lt hk) h1;simp only [zX (show (k:Int)<(w.1.2.length:Int) by omega),zZ,aA,aE (b:=8) (n:=l.length) (m:=1) (by decide) (by omega),show wr ((k:Int)+1)=((k+1:Nat):Int) from (wri (by omega) (by omega)).trans (by omega)];have hl:tY (k+1) (aK w) i b=tY k (aK w) i b++(if (qC (aK w) (k:Int)&&((k:Int) != i))||(b&&((k:Int)==i)) then [(k:Int)] else []):=by
     unfold tY;rw [List.range_succ,List.map_append,List.filter_append];congr 1;simp only [List.map_cons,List.map_nil,cGt,List.filter_nil]
    have hd:aK w=w.2.2.2.2.1:=rfl;rw [hl,<- g2,hd];cases qC w.2.2.2.2.1 (k:Int)<;>cases hki:((k:Int)==i)<;>cases b<;>simp only [bne,hki,zZ,zY,aA,cEc,cEm,Bool.and_true,Bool.and_false,Bool.true_and,Bool.false_and,cGj,Bool.or_false,cGi,Bool.false_or,cEg,zV,zU,cFe]<;>first
     | exact ⟨_,rfl,rfl,by simp;omega,rfl⟩
     | exact ⟨_,rfl,rfl,by simp only;omega,rfl⟩
   .rintro ⟨_,l⟩ rfl ⟨g1,g2⟩
    exact ⟨l,by simp only [zW (cE2 _),zY],g2⟩
   .rintro r rfl
    rfl
def aI6 (f:den tFl) (b:List Int):den tFl:=if jQ (enq f b) then enq f b else f
def doW (w:den tNw) (e:den dC):Bool×den tNw:=
 if e.1==1 then (!decide (aN w>=1000000),sJ w)
 else if e.1==2 then (match inR e.2.1 0 (((aR w).length:Int) - 1),(aR w)[e.2.1.toNat]? with
  | true,some x=>(true,gW (aA9 w e.2.1.toNat) x.1 x.2.1 x.2.2)
  | _,_=>(false,w))
 else if e.1==3 then (if inR e.2.1 0 (((aR w).length:Int) - 1) then (true,aBy (aA9 w e.2.1.toNat)) else (false,w))
 else if e.1==4 then (match inR e.2.1 0 (((aR w).length:Int) - 1)&& !decide (((aR w).length:Int)>=150),(aR w)[e.2.1.toNat]? with
  | true,some x=>(true,uL w (aR w++[x]))
  | _,_=>(false,w))
 else if e.1==5||e.1==6 then (!aHw w e.2.1 (e.1==5),aAw w e.2.1 (e.1==5))
 else if e.1==7 then (if cN (nT w) e.2.2.2.1&& !decide (((aR w).length:Int)>=150) then (true,uL w (aR w++[e.2.2.2])) else (false,w))
 else if e.1==8 then (match inR e.2.1 0 (((aD w).length:Int) - 1),(aD w)[e.2.1.toNat]? with
  | true,some f=>(jQ (enq f e.2.2.1),dI w ((aD w).set e.2.1.toNat (aI6 f e.2.2.1)))
  | _,_=>(false,w))
 else (false,w)
theorem aGe {α:Type} {l:List α} {n:Int} (hl:l.length<=1073741824) (h:inR n 0 ((l.length:Int) - 1)=true): ∃ (i:Nat) (x:α),n=(i:Int)/\l[i]? =some x/\decide (n<(l.length:Int))=true/\decide ((0:Int)<=n)=true:=by
 obtain ⟨h0,h1⟩:=bQ.1 h;obtain ⟨i,rfl⟩:=cE0 h0;have hi:i<l.length:=by omega
 exact ⟨i,l[i],rfl,cEb hi,zX (by omega),zX h0⟩
theorem bCu {B F:Nat} {w:den tNw} {r inn:Int} {p:den tPk} (hk:mB B F w) (hp:fP p):mB (B+(160+F)) F (gW w r inn p):=by
 obtain ⟨h1,h2⟩:=aLt hk.bytes hp (r:=r) (inn:=inn);have h3:=aS7 w r inn p;have :=hk.flows;have :=hk.tot;exact ⟨by omega,by rw [h2];exact hk.flows,h1⟩
theorem bDa {B F:Nat} {w:den tNw} {l:lFy} (hk:mB B F w) (hl:tot (.sl tFy) l<=tot (.sl tFy) (aR w)) (hb: ∀ x∈l,fP x.2.2):mB B F (uL w l):=by
 have h1:=aL5 w l;have :=hk.tot;exact ⟨by omega,hk.flows,⟨hb,hk.bytes.msg⟩⟩
theorem aG9 {B F:Nat} {w:den tNw} (hk:mB B F w) (i:Nat):mB B F (aA9 w i):=by
 refine bDa hk ?_ fun x hx=>hk.bytes.fly x ?_
 .have h1:=rT (t:=tFy) ((aR w).take i) ((aR w).drop i);rw [List.take_append_drop] at h1;rw [rT,h1];have :tot (.sl tFy) ((aR w).drop (i+1))<=tot (.sl tFy) ((aR w).drop i):=by
   cases h:(aR w).drop i with
   | nil=>
    have :(aR w).drop (i+1)=[]:=by rw [<- List.drop_drop,h];rfl
    rw [this];exact cEr _
   | cons x l=>
    have :(aR w).drop (i+1)=l:=by rw [<- List.drop_drop,h];rfl
    rw [this,iM];omega
  omega
 .rcases cEl.1 hx with hx | hx
  .exact cF3 hx
  .exact cF2 hx
theorem cAo {B F:Nat} {w:den tNw} {e:den dC} (hF:F<=1000) (hk:mB B F w) (hB:B+(F+1) * (160+F)<=536870912) (h9:(e.1==(9:Int))=false) (hd:SmB 4294967296 (.sl tb) e.2.2.1) (hp:tot tPk e.2.2.2.2.2<=34359738368):wT w e=some ((doW w e).1,cB (doW w e).2):=by
 obtain ⟨kd,n,data,to,ing,pk⟩:=e;simp only at h9 hd hp;have hB0:B<=536870912:=by have :=cEt ((F+1) * (160+F));omega
 have hB1:B+F * (160+F)<=536870912:=by rw [cE7] at hB;omega
 have nl:=dX w;have l1:w.2.2.2.2.2.1.length<=1073741824:=aPg hk (by omega);have l2:w.2.2.2.2.2.2.1.length<=1073741824:=cEa hk.flows (by omega);obtain ⟨n1,n2,n3⟩:=aFo hk (by omega);have w1:wr ((w.2.2.2.2.2.1.length:Int) - 1)=(w.2.2.2.2.2.1.length:Int) - 1:=fU (by omega);have w2:wr ((w.2.2.2.2.2.2.1.length:Int) - 1)=(w.2.2.2.2.2.2.1.length:Int) - 1:=fU (by omega);have a1:aG 128 w.2.2.2.2.2.1.length 1=true:=aE (by decide) (by omega);unfold wT doW ixb aI jX aOx pj2 cZ aL aU aV bV eC fZ nA pX sU tH wR aAa aBo aBr aAb zz4 zz5 zz6 zz7 zz8 zz9;simp only [w1,fQ,aA];cases c1:(kd==(1:Int)) with
 | true=>
  show Option.bind (xZ w) _=_;rw [bVy hF hk hB1];rfl
 | false=>
 cases c2:(kd==(2:Int)) with
 | true=>
  simp only [zY,zZ,cEg,zU,zV];cases hin:inR n 0 ((w.2.2.2.2.2.1.length:Int) - 1) with
  | false=>rfl
  | true=>
   obtain ⟨i,x,rfl,hx,_,_⟩:=aGe l1 hin;have hx:(aR w)[i]? =some x:=hx;have e1:=bNm (w:=w) hx l1;have kg:=aG9 hk i;obtain ⟨m1,m2,m3⟩:=aFo kg (by omega);have hxm:=cEn hx;have htx:tot tPk x.2.2<=536870912:=by
    have h1:=vW (t:=tFy) hxm;have h2:tot tFy x=tot tPk x.2.2:=by simp [rP,vX]
    have :=hk.tot;omega
   have e2:=bEk (w:=aA9 w i) (r:=x.1) (inn:=x.2.1) m1 m2 m3 htx (hk.bytes.fly x hxm);have e3:Option.bind (Option.bind (eN (aA9 w i) x.1 x.2.1 x.2.2) fun y4=>some y4) (fun s5=>some (true,s5))=some (true,cB (gW (aA9 w i) x.1 x.2.1 x.2.2)):=by rw [e2];rfl
   rw [zZ,e1,aA];have hx':w.2.2.2.2.2.1[((i:Nat):Int).toNat]? =some x:=by rw [cEf];exact hx
   rw [hx'];exact e3
 | false=>
 cases c3:(kd==(3:Int)) with
 | true=>
  simp only [zY,zZ,cEg,zU,zV];cases hin:inR n 0 ((w.2.2.2.2.2.1.length:Int) - 1) with
  | false=>rfl
  | true=>
   obtain ⟨i,x,rfl,hx,_,_⟩:=aGe l1 hin;have hx:(aR w)[i]? =some x:=hx;have e1:=bNm (w:=w) hx l1;rw [zZ,e1,aA];rfl
 | false=>
 cases c4:(kd==(4:Int)) with
 | true=>
  simp only [zY,zZ,cEg,zU,zV];cases hin:inR n 0 ((w.2.2.2.2.2.1.length:Int) - 1) with
  | false=>rfl
  | true=>
   obtain ⟨i,x,rfl,hx,hlt,hz⟩:=aGe l1 hin;have hx:(aR w)[i]? =some x:=hx;have hxm:=cEn hx;have htx:tot tPk x.2.2<=34359738368:=by
    have h1:=vW (t:=tFy) hxm;have h2:tot tFy x=tot tPk x.2.2:=by simp [rP,vX]
    have :=hk.tot;omega
   have hx':w.2.2.2.2.2.1[((i:Nat):Int).toNat]? =some x:=by rw [cEf];exact hx
   have e1:=aFl (gY htx);cases decide ((w.2.2.2.2.2.1.length:Int)>=150) with
   | true=>rfl
   | false=>
    simp only [cEc,cEm,zY,zZ,aA,hlt,hz,hx',a1,cFv];rw [show ((x.2.2.1,x.2.2.2.1,x.2.2.2.2.1,x.2.2.2.2.2.1,x.2.2.2.2.2.2.1,x.2.2.2.2.2.2.2.1,x.2.2.2.2.2.2.2.2.1,x.2.2.2.2.2.2.2.2.2.1,x.2.2.2.2.2.2.2.2.2.2.1,x.2.2.2.2.2.2.2.2.2.2.2):den tPk)=x.2.2 from rfl,e1,aA];rfl
 | false=>
 cases c5:(kd==(5:Int)) with
 | true=>
  simp only [zY,zZ,cEg,zU,zV,aA,cGi];rw [show ((w.1,w.2.1,w.2.2.1,w.2.2.2.1,w.2.2.2.2.1,w.2.2.2.2.2.1,w.2.2.2.2.2.2.1,w.2.2.2.2.2.2.2.1,w.2.2.2.2.2.2.2.2):den tNw)=w from rfl,bKk n1.links n1.dead];rfl
 | false=>
 cases c6:(kd==(6:Int)) with
 | true=>
  simp only [zY,zZ,cEg,zU,zV,aA,cGj];rw [show ((w.1,w.2.1,w.2.2.1,w.2.2.2.1,w.2.2.2.2.1,w.2.2.2.2.2.1,w.2.2.2.2.2.2.1,w.2.2.2.2.2.2.2.1,w.2.2.2.2.2.2.2.2):den tNw)=w from rfl,bKk n1.links n1.dead];rfl
 | false=>
 cases c7:(kd==(7:Int)) with
 | true=>
  simp only [zY,zZ,cEg,zU,zV,aA,cF0,aP,aDf n1.as];have e1:=aFl (gY hp);cases cN w.1 to with
  | false=>rfl
  | true=>
   cases decide ((w.2.2.2.2.2.1.length:Int)>=150) with
   | true=>rfl
   | false=>
    simp only [cEc,cEm,zY,zZ,aA,a1,e1];rfl
 | false=>
 cases c8:(kd==(8:Int)) with
 | true=>
  simp only [zY,zZ,cEg,zU,zV,aA,cF0,aP];unfold aAp ixb pj2 pj9 zz4 zz5 zz6 zz7 zz8 zz9;simp only [w2,fQ,aA,c8,zZ];cases hin:inR n 0 ((w.2.2.2.2.2.2.1.length:Int) - 1) with
  | false=>rfl
  | true=>
   obtain ⟨i,x,rfl,hx,hlt,hz⟩:=aGe l2 hin;have hx:(aD w)[i]? =some x:=hx;have hxm:=cEn hx;have hx':w.2.2.2.2.2.2.1[((i:Nat):Int).toNat]? =some x:=by rw [cEf];exact hx
   have hfx:tot tFl x<=536870912:=by
    have h1:=vW (t:=tFl) hxm;have :=hk.tot;omega
   have e1:=bRu (f:=x) (b:=data) ((bC hfx).mono (by decide)) hd;have hlt2:decide (((i:Nat):Int).toNat<w.2.2.2.2.2.2.1.length)=true:=zX (by rw [cEf];exact (cEj.1 hx).1);simp only [cEc,zY,zZ,hlt,hz,hx',hlt2,aA];rw [show ((x.1,x.2.1,x.2.2.1,x.2.2.2.1,x.2.2.2.2.1,x.2.2.2.2.2.1,x.2.2.2.2.2.2.1,x.2.2.2.2.2.2.2.1,x.2.2.2.2.2.2.2.2):den tFl)=x from rfl,e1,aA];unfold aQu aI6;cases jQ (enq x data)<;>rfl
 | false=>
  simp only [h9,zY,zZ,cEg,zU,zV,aA,cF0];rfl
def aHf (p:den tPt):Prop:=List.length (α:=den tPp) p<=4/\ ∀ x:den tPp,x∈(show lPp from p)->x.2.2.2.length<=5
theorem eR.e {p:den tPt} (h:eR p):aHf p:=⟨cEa h.1 (by decide),h.2⟩
theorem bKt {p:den tPt} (h:aHf p):tot tPt p<=24:=by
 have h1:=aB3 (t:=tPp) (B:=5) (l:=p) fun x hx=>aZc (h.2 x hx)
 have h2:=h.1;show tot (.sl tPp) p<=24;omega
theorem aHf.set {p:lPp} (h:eR p) {i:Nat} {x:den tPp} (hx:x.2.2.2.length<=5):aHf (p.set i x):=by
 refine ⟨by have :=h.1;show (p.set i x).length<=4;rw [cFt];omega,fun y hy=> ?_⟩;rcases cG0 (show y∈p.set i x from hy) with hy | rfl
 .exact h.2 y hy
 .exact hx
theorem bLe {code:List Int} (hl:code.length<=1048576) {c:List Int} {p h:Int} (hc:Cur code (c,p,h)): ∃ (q:lPp) (c':List Int) (p' h':Int),aCa (c,p,h)=some (q,c',p',h')/\aHf q/\Cur code (c',p',h'):=by
 obtain ⟨as,ls,q,c1,p1,h1,e1,hq,_,k1⟩:=aZ1 hl hc;unfold aCa ixb pj3 pj4;simp only [e1,aA,aT,bF,aX,aY,bA]
 by_cases h0:q.length=0
 .rw [show ((q.length:Int)==0)=true by rw [beq_iff_eq];omega,zZ];exact ⟨q,c1,p1,h1,rfl,hq.e,k1⟩
 have hq3:q.length<=3:=hq.1;rw [show ((q.length:Int)==0)=false by rw [beq_eq_false_iff_ne];omega,zY];obtain ⟨v2,c2,p2,h2,e2,r2,k2⟩:=aM hl (n:=(q.length:Int)) (by omega) (by omega) k1;obtain ⟨m,rfl⟩:=cE0 r2.1;have hm:m<q.length:=by omega
 have hx:q[m]? =some q[m]:=cEb hm;have hx5:q[m].2.2.2.length<=5:=hq.2 _ (cFi hm);obtain ⟨v3,c3,p3,h3,e3,r3,k3⟩:=aM hl (n:=12) (by decide) (by decide) k2;simp only [e2,e3,aA,zX (show (0:Int)<=(m:Int) by omega),zX (show (m:Int)<(q.length:Int) by omega),zZ,cEf,hx];cases v3==(0:Int) with
 | true=>
  obtain ⟨v4,c4,p4,h4,e4,_,k4⟩:=aM hl (n:=6) (by decide) (by decide) k3;exact ⟨_,c4,p4,h4,by simp only [zZ,e4,aA];rfl,aHf.set hq (by exact hx5),k4⟩
 | false=>
 cases v3==(1:Int) with
 | true=>
  obtain ⟨v4,c4,p4,h4,e4,k4⟩:=aMe hl k3;exact ⟨_,c4,p4,h4,by simp only [zZ,zY,e4,aA];rfl,aHf.set hq (by exact hx5),k4⟩
 | false=>
 cases v3==(2:Int) with
 | true=>
  have sx:SmB 68719476736 tPp q[m]:=⟨trivial,trivial,trivial,by omega,fun _ _=>⟨trivial,trivial,trivial,trivial,trivial⟩⟩
  refine ⟨q++[q[m]],c3,p3,h3,?_,⟨by show (q++[q[m]]).length<=4;simp;omega,fun y hy=> ?_⟩,k3⟩
  .simp only [zZ,zY,aQ1 (p:=q[m]) (by omega),aP,aA,aE (b:=48) (n:=q.length) (m:=1) (by decide) (by omega)]
  .rcases cEl.1 (show y∈q++[q[m]] from hy) with hy | hy
   .exact hq.2 y hy
   .rw [cEk.1 hy];exact hx5
 | false=>
 cases v3==(3:Int) with
 | true=>
  have s1:bX (1:Int) (q.length:Int) (q.length:Int)=true:=aCq (k:=1) (by omega);have s2:cut q (1:Int) (q.length:Int)=q.drop 1:=aD0 (k:=1);refine ⟨q.drop 1,c3,p3,h3,by simp only [zZ,zY,s1,s2,aA],⟨by show (q.drop 1).length<=4;simp;omega,fun y hy=>hq.2 y (cF2 (show y∈q.drop 1 from hy))⟩,k3⟩
 | false=>
 cases v3==(4:Int) with
 | false=>exact ⟨q,c3,p3,h3,by simp only [zY,aA],hq.e,k3⟩
 | true=>
  simp only [zZ,zY]
  by_cases hp:(q[m].2.2.2.length:Int)>0
  .obtain ⟨v4,c4,p4,h4,e4,r4,k4⟩:=aM hl (n:=(q[m].2.2.2.length:Int)) hp (by omega) k3;obtain ⟨i,rfl⟩:=cE0 r4.1;have hi:i<q[m].2.2.2.length:=by omega
   obtain ⟨v5,c5,p5,h5,e5,k5⟩:=aMe hl k4;refine ⟨_,c5,p5,h5,?_,aHf.set hq (i:=m) (x:=(q[m].1,q[m].2.1,q[m].2.2.1,q[m].2.2.2.set i (q[m].2.2.2[i].1,q[m].2.2.2[i].2.1,q[m].2.2.2[i].2.2.1,q[m].2.2.2[i].2.2.2.1,v5))) (by show (q[m].2.2.2.set i _).length<=5;rw [cFt];exact hx5),k5⟩;simp only [zX hp,zZ,e4,e5,aA,zX (show (0:Int)<=(i:Int) by omega),zX (show (i:Int)<(q[m].2.2.2.length:Int) by omega),cEf,cEb hi,aT,bF,aX,aY,bA]
  .exact ⟨q,c3,p3,h3,by simp only [zW hp,zY,aA],hq.e,k3⟩
structure bOn (p:den tPk):Prop where
 path:aHf p.2.2.2.1
 len:p.2.2.2.2.2.2.2.2.2.length<=1000
 bytes:fP p
theorem aPb (p:den tPk):tot tPk p=tot tPt p.2.2.2.1+p.2.2.2.2.2.2.2.2.2.length:=by
 have e:tot tPk p=tot tPt p.2.2.2.1+tot (.sl tb) p.2.2.2.2.2.2.2.2.2:=by simp [rP,vX]
 rw [e,dK (t:=tb) rfl]
theorem bPl {p:den tPk} (h:bOn p):tot tPk p<=1100:=by
 have h1:=bKt h.path;have h2:=h.len;rw [aPb];omega
theorem bLr {code:List Int} (hl:code.length<=1048576) {c:List Int} {p h:Int} (hc:Cur code (c,p,h)): ∃ (as:lAS) (ls:lLk) (k:den tPk) (c':List Int) (p' h':Int),yV (c,p,h)=some (as,ls,k.1,k.2.1,k.2.2.1,k.2.2.2.1,k.2.2.2.2.1,k.2.2.2.2.2.1,k.2.2.2.2.2.2.1,k.2.2.2.2.2.2.2.1,k.2.2.2.2.2.2.2.2.1,k.2.2.2.2.2.2.2.2.2,c',p',h')/\bOn k/\aEs as ls/\Cur code (c',p',h'):=by
 obtain ⟨as,ls,k,c1,p1,h1,e1,hk,kt,k1⟩:=bEd hl hc;obtain ⟨v2,c2,p2,h2,e2,r2,k2⟩:=aM hl (n:=14) (by decide) (by decide) k1;have hkp:bOn k:=⟨hk.path.e,hk.len,hk.bytes⟩
 unfold yV pj3 pj4 aL aU aV zz4 zz5 zz6 zz7 zz8 zz9;simp only [e1,e2,aA,aT,bF,aX,aY,bA];cases v2==(0:Int) with
 | true=>
  obtain ⟨v3,c3,p3,h3,e3,_,k3⟩:=aM hl (n:=4) (by decide) (by decide) k2;exact ⟨as,ls,(k.1,k.2.1,k.2.2.1,k.2.2.2.1,wr (v3 - 1),k.2.2.2.2.2.1,k.2.2.2.2.2.2.1,k.2.2.2.2.2.2.2.1,k.2.2.2.2.2.2.2.2.1,k.2.2.2.2.2.2.2.2.2),c3,p3,h3,by simp only [zZ,e3,aA],⟨hkp.path,hkp.len,hkp.bytes⟩,kt,k3⟩
 | false=>
 cases v2==(1:Int) with
 | true=>
  obtain ⟨v3,c3,p3,h3,e3,_,k3⟩:=aM hl (n:=4) (by decide) (by decide) k2;exact ⟨as,ls,(k.1,k.2.1,k.2.2.1,k.2.2.2.1,k.2.2.2.2.1,wr (v3 - 1),k.2.2.2.2.2.2.1,k.2.2.2.2.2.2.2.1,k.2.2.2.2.2.2.2.2.1,k.2.2.2.2.2.2.2.2.2),c3,p3,h3,by simp only [zZ,zY,e3,aA],⟨hkp.path,hkp.len,hkp.bytes⟩,kt,k3⟩
 | false=>
 cases v2==(2:Int) with
 | true=>
  obtain ⟨v3,c3,p3,h3,e3,k3⟩:=aMe hl k2;exact ⟨as,ls,(k.1,k.2.1,k.2.2.1,k.2.2.2.1,k.2.2.2.2.1,k.2.2.2.2.2.1,v3,k.2.2.2.2.2.2.2.1,k.2.2.2.2.2.2.2.2.1,k.2.2.2.2.2.2.2.2.2),c3,p3,h3,by simp only [zZ,zY,e3,aA],⟨hkp.path,hkp.len,hkp.bytes⟩,kt,k3⟩
 | false=>
 cases v2==(3:Int) with
 | true=>
  obtain ⟨v3,c3,p3,h3,e3,_,k3⟩:=aM hl (n:=9) (by decide) (by decide) k2;exact ⟨as,ls,(k.1,k.2.1,v3,k.2.2.2.1,k.2.2.2.2.1,k.2.2.2.2.2.1,k.2.2.2.2.2.2.1,k.2.2.2.2.2.2.2.1,k.2.2.2.2.2.2.2.2.1,k.2.2.2.2.2.2.2.2.2),c3,p3,h3,by simp only [zZ,zY,e3,aA],⟨hkp.path,hkp.len,hkp.bytes⟩,kt,k3⟩
 | false=>
 cases v2==(4:Int) with
 | true=>
  obtain ⟨v3,c3,p3,h3,e3,_,k3⟩:=uE hl (l:=[(-1:Int),(100000:Int),(100001:Int)]) (by decide) (by decide) k2;exact ⟨as,ls,(k.1,k.2.1,k.2.2.1,k.2.2.2.1,k.2.2.2.2.1,k.2.2.2.2.2.1,k.2.2.2.2.2.2.1,k.2.2.2.2.2.2.2.1,v3,k.2.2.2.2.2.2.2.2.2),c3,p3,h3,by simp only [zZ,zY,e3,aA],⟨hkp.path,hkp.len,hkp.bytes⟩,kt,k3⟩
 | false=>
 cases v2==(5:Int) with
 | true=>
  obtain ⟨q3,c3,p3,h3,e3,hq,k3⟩:=bLe hl k2;exact ⟨as,ls,(k.1,k.2.1,k.2.2.1,q3,k.2.2.2.2.1,k.2.2.2.2.2.1,k.2.2.2.2.2.2.1,k.2.2.2.2.2.2.2.1,k.2.2.2.2.2.2.2.2.1,k.2.2.2.2.2.2.2.2.2),c3,p3,h3,by simp only [zZ,zY,e3,aA],⟨hq,hkp.len,hkp.bytes⟩,kt,k3⟩
 | false=>
 cases v2==(6:Int) with
 | true=>
  obtain ⟨v3,c3,p3,h3,e3,_,k3⟩:=aM hl (n:=6) (by decide) (by decide) k2;exact ⟨as,ls,(wr (v3 - 1),k.2.1,k.2.2.1,k.2.2.2.1,k.2.2.2.2.1,k.2.2.2.2.2.1,k.2.2.2.2.2.2.1,k.2.2.2.2.2.2.2.1,k.2.2.2.2.2.2.2.2.1,k.2.2.2.2.2.2.2.2.2),c3,p3,h3,by simp only [zZ,zY,e3,aA],⟨hkp.path,hkp.len,hkp.bytes⟩,kt,k3⟩
 | false=>exact ⟨as,ls,k,c2,p2,h2,by simp only [zY,aA],hkp,kt,k2⟩
structure EvD (w:den tNw) (e:den dC):Prop where
 lo:(1:Int)<=e.1
 hi:(8:Int)>=e.1
 data:e.2.2.1.length<=3/\tO e.2.2.1
 pk:tot tPk e.2.2.2.2.2<=1100/\fP e.2.2.2.2.2
 harm:harm w e=true
structure EvS (e:den dC):Prop where
 data:e.2.2.1.length<=3/\tO e.2.2.1
 pk:tot tPk e.2.2.2.2.2<=1100/\fP e.2.2.2.2.2
theorem EvD.s {w:den tNw} {e:den dC} (h:EvD w e):EvS e:=⟨h.data,h.pk⟩
structure bGn (w:den tNw):Prop where
 tot:tot tNw w<=536870912
 as:1<=(nT w).1.length/\(nT w).1.length<=8
 links:(nT w).2.length<=200
 flyN:(aR w).length<=200
 fly: ∀ x∈aR w,Go.V.tot tPk x.2.2<=1100
 bytes: ∀ x∈aR w,fP x.2.2
 flows:(aD w).length<=4
theorem bIe {w:den tNw} {e:den dC} (h:(e.1==(7:Int))=false):harm w e=true:=by
 unfold harm;rw [h];rfl
theorem bJ2 {w:den tNw} {to ing:Int} {pk:den tPk}:harm w ((7:Int),(0:Int),[],(to,ing,((3:Int),pk.2)))=true:=by
 unfold harm eZ;rw [show (((3:Int),pk.2):den tPk).1=3 from rfl,show ((3:Int)==3)=true from rfl,cGj,cGj];rfl
def fgR (w:den tNw) (e:den dC) (c:List Int) (p h:Int):q5:=
 (e.1,e.2.1,e.2.2.2.1,e.2.2.2.2.1,e.2.2.2.2.2.1,e.2.2.2.2.2.2.1,e.2.2.2.2.2.2.2.1,e.2.2.2.2.2.2.2.2.1,e.2.2.2.2.2.2.2.2.2.1,e.2.2.2.2.2.2.2.2.2.2.1,e.2.2.2.2.2.2.2.2.2.2.2.1,e.2.2.2.2.2.2.2.2.2.2.2.2.1,e.2.2.2.2.2.2.2.2.2.2.2.2.2.1,e.2.2.2.2.2.2.2.2.2.2.2.2.2.2,e.2.2.1,c,p,h,aR w,aD w,bH w)
def nxR (w:den tNw) (e:den dC) (c:List Int) (p h:Int):q5:=
 (e.1,e.2.1,e.2.2.2.1,e.2.2.2.2.1,e.2.2.2.2.2.1,e.2.2.2.2.2.2.1,e.2.2.2.2.2.2.2.1,e.2.2.2.2.2.2.2.2.1,e.2.2.2.2.2.2.2.2.2.1,e.2.2.2.2.2.2.2.2.2.2.1,e.2.2.2.2.2.2.2.2.2.2.2.1,e.2.2.2.2.2.2.2.2.2.2.2.2.1,e.2.2.2.2.2.2.2.2.2.2.2.2.2.1,e.2.2.1,e.2.2.2.2.2.2.2.2.2.2.2.2.2.2,c,p,h,aR w,aD w,bH w)
theorem bMg {code:List Int} (hl:code.length<=1048576) {w:den tNw} (hw:bGn w) {c:List Int} {p h:Int} (hc:Cur code (c,p,h)): ∃ e c' p' h',mF (c,p,h) w=some (fgR w e c' p' h')/\EvD w e/\Cur code (c',p',h'):=by
 obtain ⟨as,ls,k,c1,p1,h1,e1,hk,_,k1⟩:=bLr hl hc;have ha:1<=w.1.1.length/\w.1.1.length<=8:=hw.as;have hfn:=hw.flyN;obtain ⟨v2,c2,p2,h2,e2,r2,k2⟩:=aM hl (n:=(w.1.1.length:Int)) (by omega) (by omega) k1;obtain ⟨v3,c3,p3,h3,e3,r3,k3⟩:=aM hl (n:=7) (by decide) (by decide) k2;have sw:SmB 68719476736 tNw w:=(bC hw.tot).mono (by decide);have fin: ∀ (k:den tPk) (c:List Int) (p h:Int),tot tPk k<=1100->fP k->Cur code (c,p,h)-> ∃ e c' p' h',(Option.bind (Option.bind (kQ w ((7:Int),(0:Int),[],(v2,v3,(k.1,k.2.1,k.2.2.1,k.2.2.2.1,k.2.2.2.2.1,k.2.2.2.2.2.1,k.2.2.2.2.2.2.1,k.2.2.2.2.2.2.2.1,k.2.2.2.2.2.2.2.2.1,k.2.2.2.2.2.2.2.2.2)))) fun y31=>cond (!y31) (some ((7:Int),(0:Int),v2,v3,(3:Int),k.2.1,k.2.2.1,k.2.2.2.1,k.2.2.2.2.1,k.2.2.2.2.2.1,k.2.2.2.2.2.2.1,k.2.2.2.2.2.2.2.1,k.2.2.2.2.2.2.2.2.1)) (some ((7:Int),(0:Int),v2,v3,k.1,k.2.1,k.2.2.1,k.2.2.2.1,k.2.2.2.2.1,k.2.2.2.2.2.1,k.2.2.2.2.2.2.1,k.2.2.2.2.2.2.2.1,k.2.2.2.2.2.2.2.2.1))) fun s32=>some (s32.1,s32.2.1,s32.2.2.1,s32.2.2.2.1,s32.2.2.2.2.1,s32.2.2.2.2.2.1,s32.2.2.2.2.2.2.1,s32.2.2.2.2.2.2.2.1,s32.2.2.2.2.2.2.2.2.1,s32.2.2.2.2.2.2.2.2.2.1,s32.2.2.2.2.2.2.2.2.2.2.1,s32.2.2.2.2.2.2.2.2.2.2.2.1,s32.2.2.2.2.2.2.2.2.2.2.2.2,k.2.2.2.2.2.2.2.2.2,([]:List Int),c,p,h,w.2.2.2.2.2.1,w.2.2.2.2.2.2.1,w.2.2.2.2.2.2.2.1))=some (fgR w e c' p' h')/\EvD w e/\Cur code (c',p',h'):=by
  intro k c p h ht hb hc;have se:SmB 68719476736 dC ((7:Int),(0:Int),[],(v2,v3,k)):=⟨trivial,trivial,⟨by simp,fun x hx=>trivial⟩,trivial,trivial,(bC ht).mono (by decide)⟩
  have e9:kQ w ((7:Int),(0:Int),[],(v2,v3,(k.1,k.2.1,k.2.2.1,k.2.2.2.1,k.2.2.2.2.1,k.2.2.2.2.2.1,k.2.2.2.2.2.2.1,k.2.2.2.2.2.2.2.1,k.2.2.2.2.2.2.2.2.1,k.2.2.2.2.2.2.2.2.2)))=some (harm w ((7:Int),(0:Int),[],(v2,v3,k))):=bJz sw se;rw [e9,aA];cases hb':harm w ((7:Int),(0:Int),[],(v2,v3,k)) with
  | true=>exact ⟨((7:Int),(0:Int),[],(v2,v3,k)),c,p,h,rfl,⟨by show (1:Int)<=7;decide,by show (8:Int)>=7;decide,⟨cEt _,fun x hx=>(cE1 hx).elim⟩,⟨ht,hb⟩,hb'⟩,hc⟩
  | false=>exact ⟨((7:Int),(0:Int),[],(v2,v3,((3:Int),k.2))),c,p,h,rfl,⟨by show (1:Int)<=7;decide,by show (8:Int)>=7;decide,⟨cEt _,fun x hx=>(cE1 hx).elim⟩,⟨ht,hb⟩,bJ2⟩,hc⟩
 unfold mF ixb aI pj3 pj4 cZ aL aU aV bV eC fZ nA zz4 zz5 zz6 zz7 zz8 zz9;simp only [e1,e2,e3,aA,aT,bF,aX,aY,bA];have done:=fun c p h hc=>fin k c p h (bPl hk) hk.bytes hc
 by_cases hf:(w.2.2.2.2.2.1.length:Int)>0
 .obtain ⟨v4,c4,p4,h4,e4,k4⟩:=pR hl (n:=2) (by decide) (by decide) k3;simp only [zX hf,zZ,e4,aA];cases v4 with
  | false=>
   simp only [zY,aA];exact done c4 p4 h4 k4
  | true=>
   have hfn:w.2.2.2.2.2.1.length<=200:=hfn;obtain ⟨v5,c5,p5,h5,e5,r5,k5⟩:=aM hl (n:=(w.2.2.2.2.2.1.length:Int)) hf (by omega) k4;obtain ⟨i,rfl⟩:=cE0 r5.1;have hi:i<w.2.2.2.2.2.1.length:=by omega
   have hx:w.2.2.2.2.2.1[i]? =some w.2.2.2.2.2.1[i]:=cEb hi;have hm:w.2.2.2.2.2.1[i]∈aR w:=cFi hi;have ht:=hw.fly _ hm;have hb:=hw.bytes _ hm;generalize w.2.2.2.2.2.1[i]=x at hx hm ht hb;have e6:=aFl (p:=x.2.2) (gY (cEa ht (by decide)));obtain ⟨v7,c7,p7,h7,e7,k7⟩:=pR hl (n:=2) (by decide) (by decide) k5;simp only [zZ,e5,aA,zX (show (0:Int)<=(i:Int) by omega),zX (show (i:Int)<(w.2.2.2.2.2.1.length:Int) by omega),cEf,hx,aP,e6,e7];cases v7 with
   | false=>
    simp only [zY,aA];exact fin x.2.2 c7 p7 h7 ht hb k7
   | true=>
    obtain ⟨v8,c8,p8,h8,e8,k8⟩:=aMe hl k7;simp only [zZ,e8,aA];exact fin (x.2.2.1,x.2.2.2.1,x.2.2.2.2.1,x.2.2.2.2.2.1,x.2.2.2.2.2.2.1,x.2.2.2.2.2.2.2.1,v8,x.2.2.2.2.2.2.2.2.2.1,x.2.2.2.2.2.2.2.2.2.2.1,x.2.2.2.2.2.2.2.2.2.2.2) c8 p8 h8 ht hb k8
 .simp only [zW hf,zY,aA];exact done c3 p3 h3 k3
theorem bB0 {code:List Int} (hl:code.length<=1048576) {w:den tNw} (hw:bGn w) {c:List Int} {p h:Int} (hc:Cur code (c,p,h)): ∃ e c' p' h',pJ (c,p,h) w=some (nxR w e c' p' h')/\EvD w e/\Cur code (c',p',h'):=by
 have hlk:w.1.2.length<=200:=hw.links;have hfl:w.2.2.2.2.2.2.1.length<=4:=hw.flows;have hfn:w.2.2.2.2.2.1.length<=200:=hw.flyN;have wl:wr ((w.1.2.length:Int)+1)=((w.1.2.length+1:Nat):Int):=cR (by omega);have wf:wr ((w.2.2.2.2.2.2.1.length:Int)+1)=((w.2.2.2.2.2.2.1.length+1:Nat):Int):=cR (by omega);have pk0D:tot tPk ((0:Int),(0:Int),(0:Int),[],(0:Int),(0:Int),(0:Int),(0:Int),(0:Int),[])<=1100/\fP ((0:Int),(0:Int),(0:Int),[],(0:Int),(0:Int),(0:Int),(0:Int),(0:Int),[]):=⟨by rw [aPb];exact cEt _,fun x hx=>(cE1 hx).elim⟩
 have ev: ∀ (kd n:Int) (data:List Int),(1:Int)<=kd->(8:Int)>=kd->(kd==(7:Int))=false->data.length<=3->tO data->EvD w (kd,n,data,((0:Int),(0:Int),((0:Int),(0:Int),(0:Int),[],(0:Int),(0:Int),(0:Int),(0:Int),(0:Int),[]))):=fun kd n data a b d e f=>⟨a,b,⟨e,f⟩,pk0D,bIe d⟩
 have nob:tO []:=fun x hx=>(cE1 hx).elim
 obtain ⟨v1,c1,p1,h1,e1,r1,k1⟩:=aM hl (n:=24) (by decide) (by decide) hc;obtain ⟨v2,c2,p2,h2,e2,r2,k2⟩:=aM hl (n:=((w.1.2.length+1:Nat):Int)) (by omega) (by omega) k1;unfold pJ pj3 pj6 cZ aL aU aV bV eC fZ zz4 zz5 zz6 zz7 zz8 zz9;simp only [e1,aA,wl,wf,e2];cases v1==(0:Int) with
 | true=>
  exact ⟨((5:Int),v2,[],((0:Int),(0:Int),((0:Int),(0:Int),(0:Int),[],(0:Int),(0:Int),(0:Int),(0:Int),(0:Int),[]))),c2,p2,h2,rfl,ev 5 v2 [] (by decide) (by decide) rfl (cEt _) nob,k2⟩
 | false=>
 simp only [zY];obtain ⟨b3,e3⟩: ∃ b,(cond (v1==(1:Int)) (some (v1==(1:Int))) (some (v1==(2:Int))))=some b:=by cases v1==(1:Int)<;>exact ⟨_,rfl⟩
 rw [e3,aA];cases b3 with
 | true=>
  exact ⟨((6:Int),v2,[],((0:Int),(0:Int),((0:Int),(0:Int),(0:Int),[],(0:Int),(0:Int),(0:Int),(0:Int),(0:Int),[]))),c2,p2,h2,rfl,ev 6 v2 [] (by decide) (by decide) rfl (cEt _) nob,k2⟩
 | false=>
 simp only [zY];cases v1==(3:Int) with
 | true=>
  obtain ⟨e,c4,p4,h4,e4,d4,k4⟩:=bMg hl hw k1;refine ⟨e,c4,p4,h4,?_,d4,k4⟩;rw [zZ];show Option.bind (mF (c1,p1,h1) w) _=_;rw [e4];rfl
 | false=>
 simp only [zY];cases v1==(4:Int) with
 | true=>
  obtain ⟨v4,c4,p4,h4,e4,r4,k4⟩:=aM hl (n:=((w.2.2.2.2.2.2.1.length+1:Nat):Int)) (by omega) (by omega) k1;obtain ⟨v5,c5,p5,h5,e5,r5,k5⟩:=aM hl (n:=3) (by decide) (by decide) k4;obtain ⟨m5,rfl⟩:=cE0 r5.1;obtain ⟨l6,c6,p6,h6,e6,⟨r6,b6⟩,k6⟩:=aNc hl (n:=m5) (by omega) k5;exact ⟨((8:Int),v4,l6,((0:Int),(0:Int),((0:Int),(0:Int),(0:Int),[],(0:Int),(0:Int),(0:Int),(0:Int),(0:Int),[]))),c6,p6,h6,by simp only [zZ,e4,e5,e6,aA];rfl,ev 8 v4 l6 (by decide) (by decide) rfl (by omega) b6,k6⟩
 | false=>
 simp only [zY];have tick: ∀ c p h,Cur code (c,p,h)-> ∃ e c' p' h',(some ((1:Int),(0:Int),(0:Int),(0:Int),(0:Int),(0:Int),(0:Int),[],(0:Int),(0:Int),(0:Int),(0:Int),(0:Int),[],[],c,p,h,w.2.2.2.2.2.1,w.2.2.2.2.2.2.1,w.2.2.2.2.2.2.2.1):Option q5)=some (nxR w e c' p' h')/\EvD w e/\Cur code (c',p',h'):=fun c p h hc=>
  ⟨((1:Int),(0:Int),[],((0:Int),(0:Int),((0:Int),(0:Int),(0:Int),[],(0:Int),(0:Int),(0:Int),(0:Int),(0:Int),[]))),c,p,h,rfl,ev 1 0 [] (by decide) (by decide) rfl (cEt _) nob,hc⟩
 by_cases hf:(w.2.2.2.2.2.1.length:Int)>0
 .obtain ⟨v4,c4,p4,h4,e4,k4⟩:=pR hl (n:=4) (by decide) (by decide) k1;simp only [zX hf,zZ,e4,aA];cases v4 with
  | true=>
   simp only [cEc,zY];exact tick c4 p4 h4 k4
  | false=>
   simp only [cEm,zZ];obtain ⟨m,em,hm1,hm2⟩: ∃ m:Int,(if (3:Int)<(w.2.2.2.2.2.1.length:Int) then (3:Int) else (w.2.2.2.2.2.1.length:Int))=m/\0<m/\m<=256:=by
    split
    .exact ⟨_,rfl,by decide,by decide⟩
    .exact ⟨_,rfl,by omega,by omega⟩
   obtain ⟨v5,c5,p5,h5,e5,r5,k5⟩:=aM hl hm1 hm2 k4;obtain ⟨v6,c6,p6,h6,e6,r6,k6⟩:=aM hl (n:=12) (by decide) (by decide) k5;simp only [aYr,em,e5,e6,aA];cases v6==(0:Int) with
   | true=>exact ⟨((3:Int),v5,[],((0:Int),(0:Int),((0:Int),(0:Int),(0:Int),[],(0:Int),(0:Int),(0:Int),(0:Int),(0:Int),[]))),c6,p6,h6,rfl,ev 3 v5 [] (by decide) (by decide) rfl (cEt _) nob,k6⟩
   | false=>
    cases v6==(1:Int) with
    | true=>exact ⟨((4:Int),v5,[],((0:Int),(0:Int),((0:Int),(0:Int),(0:Int),[],(0:Int),(0:Int),(0:Int),(0:Int),(0:Int),[]))),c6,p6,h6,rfl,ev 4 v5 [] (by decide) (by decide) rfl (cEt _) nob,k6⟩
    | false=>exact ⟨((2:Int),v5,[],((0:Int),(0:Int),((0:Int),(0:Int),(0:Int),[],(0:Int),(0:Int),(0:Int),(0:Int),(0:Int),[]))),c6,p6,h6,rfl,ev 2 v5 [] (by decide) (by decide) rfl (cEt _) nob,k6⟩
 .simp only [zW hf,zY,aA];exact tick c1 p1 h1 k1
theorem bD0 {s d now now':Int} (hn:now<=now'): ∀ {l:lRs},(∀ x∈l,(0:Int)<=x.2.2.2.1/\(20:Int)>=x.2.2.2.1)->rs s d now' l<=rs s d now l
 | [],_=>cFh _
 | x::l,h=>by
  have ih:=bD0 (s:=s) (d:=d) hn (l:=l) fun y hy=>h y (cEp _ hy)
  have hx:=h x (by simp);unfold rs
  by_cases c:now'<=x.2.2.2.2
  .rw [zX c,zX (show now<=x.2.2.2.2 from cGu hn c)];split<;>omega
  .rw [zW c,Bool.and_false];simp only [cEg,zU];split<;>omega
theorem tK.later {l:lRs} {cap now now':Int} (h:tK l cap now) (hn:now<=now'):tK l cap now':=
 ⟨h.len,h.val,fun x hx=>cGu (bD0 hn (yN h.val)) (h.rate x hx),h.pw⟩
theorem OkS.tick {g:den tSc} {now now':Int} (h:OkS g now) (hn:now<=now'):OkS (g.1,aGl g.2.1 now',[]) now':=
 ⟨h.lo,h.hi,(h.res.later hn).filter _,fun j x hx=>by simp at hx⟩
structure cS (w w':den tNw):Prop where
 top:nT w'=nT w
 now:aN w'=aN w
 gate:OkS (nG w) (aN w)->OkS (nG w') (aN w')
 fly: ∀ x∈aR w',x∈aR w\/tot tPk x.2.2<=1100
 flyN:(aR w).length<=150->(aR w').length<=150
theorem cS.refl (w:den tNw):cS w w:=⟨rfl,rfl,id,fun x hx=> .inl hx,id⟩
theorem cS.trans {a b c:den tNw} (h:cS a b) (k:cS b c):cS a c:=
 ⟨k.top.trans h.top,k.now.trans h.now,fun hg=>k.gate (h.gate hg),fun x hx=>(k.fly x hx).elim (h.fly x) .inr,fun hl=>k.flyN (h.flyN hl)⟩
theorem cS.drop (w:den tNw):cS w (aBy w):=⟨rfl,rfl,id,fun x hx=> .inl hx,id⟩
theorem cS.box (w:den tNw) (i:Nat) (x:den tIb):cS w (uM w i x):=⟨rfl,rfl,id,fun x hx=> .inl hx,id⟩
theorem cS.flows (w:den tNw) (l:lFl):cS w (dI w l):=⟨rfl,rfl,id,fun x hx=> .inl hx,id⟩
theorem cS.tell (w:den tNw) (r:Int) (p:den tPk):cS w (xF w r p):=cS.flows w _
theorem cS.send {w:den tNw} {r eg:Int} {p:den tPk} (hp:tot tPk p<=1100):cS w (sC w r eg p):=by
 unfold sC;split
 .rename_i hc;rw [cEe,zR] at hc;refine ⟨rfl,rfl,fun hg=>hg.trans _ _ _,fun x hx=> ?_,fun hl=> ?_⟩
  .rcases cEl.1 (show x∈aR w++_ from hx) with hx | hx
   .exact .inl hx
   .have :x=_:=cEk.1 hx;subst this;exact .inr hp
  .show (aR w++_).length<=150;have :=hc.2;simp;omega
 .exact cS.drop w
theorem aQj {t:den tTo} {now:Int} {dead:List Int} {r inn:Int} {p:den tPk} (h:((cU t now dead r inn p).1==0)=true):tot tPk (cU t now dead r inn p).2.2.1<=1100:=by
 have hv:fY p=true:=aNt (t:=t) (r:=r) (now:=now) (dead:=wN t dead r) (inn:=inn) (by
  have h:((fwd t r now (wN t dead r) inn p).1==0)=true:=h;rw [eq_of_beq h];rfl)
 unfold cU;rw [aO7];exact cEa (aSm hv) (by decide)
theorem cS.proc0 (w:den tNw) (r inn:Int) (p:den tPk):cS w (proc0 w r inn p):=by
 unfold Go.Proofs.YtcppmcbkokgfcaaGreat.proc0;split
 .rename_i h;exact cS.send (aQj h)
 .split
  .exact cS.tell w _ _
  .exact cS.drop w
theorem cS.proc (w:den tNw) (r inn:Int) (p:den tPk):cS w (gW w r inn p):=by
 unfold gW;split
 .rename_i h;exact cS.send (aQj h)
 .split
  .split
   .unfold aDc;split
    .exact cS.refl w
    .split
     .exact (cS.box w _ _).trans (cS.proc0 _ _ _ _)
     .exact cS.box w _ _
   .exact cS.tell w _ _
  .split
   .unfold aE2;split
    .exact (cS.proc0 _ _ _ _).trans (cS.drop _)
    .exact (cS.tell _ _ _).trans (cS.drop _)
   .exact cS.drop w
theorem cS.stepT (k:Nat) (w:den tNw):cS w (stepT k w):=by
 unfold Go.Proofs.YtcppmcbkokgfcaaGreat.stepT;split
 .split
  .exact (cS.flows w _).trans (cS.proc _ _ _ _)
  .exact cS.flows w _
 .exact cS.refl w
theorem cS.tickL: ∀ (n k:Nat) (w:den tNw),cS w (tickL k n w)
 | 0,_,w=>cS.refl w
 | n+1,k,w=>(cS.stepT k w).trans (cS.tickL n (k+1) _)
structure rN (t:den tTo) (B k:Nat) (w:den tNw):Prop where
 keep:mB B 4 w
 top:nT w=t
 gate:OkS (nG w) (aN w)
 lo:(0:Int)<=aN w
 hi:aN w<=60+(k:Int)
 fly: ∀ x∈aR w,tot tPk x.2.2<=1100
 flyN:(aR w).length<=150
theorem rN.mono {t:den tTo} {B C k j:Nat} {w:den tNw} (h:rN t B k w) (hB:B<=C) (hk:k<=j):rN t C j w:=⟨h.keep.mono hB,h.top,h.gate,h.lo,by have :=h.hi;omega,h.fly,h.flyN⟩
theorem rN.step {t:den tTo} {B C k:Nat} {w w':den tNw} (h:rN t B k w) (s:cS w w') (hk:mB C 4 w'):rN t C k w':=
 ⟨hk,s.top.trans h.top,s.gate h.gate,by rw [s.now];exact h.lo,by rw [s.now];exact h.hi,fun x hx=>(s.fly x hx).elim (h.fly x) id,s.flyN h.flyN⟩
theorem bIv {t:den tTo} {B k:Nat} {w:den tNw} (h:rN t B k w) (hk:k<=10000000):rN t B (k+1) (aHn w):=by
 have hlo:=h.lo;have hhi:=h.hi;have e:wr (aN w+1)=aN w+1:=bN (by omega) (by omega);refine ⟨aHi h.keep,h.top,?_,?_,?_,h.fly,h.flyN⟩
 .show OkS ((nG w).1,aGl (nG w).2.1 (wr (aN w+1)),[]) (wr (aN w+1));rw [e];exact h.gate.tick (by omega)
 .show (0:Int)<=wr (aN w+1);omega
 .show wr (aN w+1)<=_;omega
theorem aW2 {t:den tTo} {B k:Nat} {w:den tNw} (h:rN t B k w) (hk:k<=10000000):rN t (B+656) (k+1) (sJ w):=by
 have hkp:=bGf h.keep;unfold sJ at hkp ⊢;split
 .exact h.mono (by omega) (by omega)
 .rename_i hn;rw [zS hn] at hkp;exact (bIv h hk).step (cS.tickL _ _ _) hkp
theorem bDf {w:den tNw} {x:den tFy}:tot tNw (uL w (aR w++[x]))=tot tNw w+(1+tot tPk x.2.2):=by
 have h1:=aL5 w (aR w++[x]);rw [rT,aFs] at h1;have e:tot tFy x=tot tPk x.2.2:=by simp [rP,vX]
 omega
theorem bMv (m:Nat) (dead:List Int) (i:Int) (b:Bool):(tY m dead i b).length<=m:=by
 unfold tY;exact cEa (List.length_filter_le ..) (by simp)
theorem bCr (w:den tNw) (l:List Int):tot tNw (aHt w l)+(aK w).length=tot tNw w+l.length:=by
 have e:tot tNw (aHt w l)=(tot (.sl tAS) (nT w).1+tot (.sl tLk) (nT w).2)+((tot (.sl tSg) (nK w).1+tot (.sl tSg) (nK w).2)+((0+(tot (.sl tRs) (nG w).2.1+tot (.sl tUs) (nG w).2.2))+(0+(tot (.sl ti) l+(tot (.sl tFy) (aR w)+(tot (.sl tFl) (aD w)+(tot (.sl tIb) (bH w)+0))))))):=rfl;have r: ∀ l:List Int,tot (.sl ti) l=l.length:=fun l=>dK rfl
 rw [e,dX w,r,r];omega
theorem aWc {t:den tTo} {B k:Nat} {w:den tNw} {e:den dC} (h:rN t B k w) (hk:k<=10000000) (ht:t.2.length<=200) (he:EvS e):rN t (B+2000) (k+1) (doW w e).2:=by
 have same:rN t (B+2000) (k+1) w:=h.mono (by omega) (by omega);unfold doW;split
 .exact (aW2 h hk).mono (by omega) (by omega)
 .split
  .split
   .rename_i x hi hx;have hm:=cEn hx;have hb:=h.keep.bytes.fly x hm;have hg:rN t B k (aA9 w e.2.1.toNat):=h.step ⟨rfl,rfl,id,fun y hy=> ?_,fun hl=> ?_⟩ (aG9 h.keep _)
    .exact ((hg.step (cS.proc _ _ _ _) (bCu hg.keep hb)).mono (by omega) (by omega))
    .rcases cEl.1 (show y∈(aR w).take _++(aR w).drop _ from hy) with hy | hy
     .exact .inl (cF3 hy)
     .exact .inl (cF2 hy)
    .show ((aR w).take _++(aR w).drop _).length<=150;simp only [cEy,cFl,cGc];omega
   .exact same
  .split
   .split
    .have hg:rN t B k (aA9 w e.2.1.toNat):=h.step ⟨rfl,rfl,id,fun y hy=> ?_,fun hl=> ?_⟩ (aG9 h.keep _)
     .exact (hg.step (cS.drop _) ⟨hg.keep.tot,hg.keep.flows,⟨hg.keep.bytes.fly,hg.keep.bytes.msg⟩⟩).mono (by omega) (by omega)
     .rcases cEl.1 (show y∈(aR w).take _++(aR w).drop _ from hy) with hy | hy
      .exact .inl (cF3 hy)
      .exact .inl (cF2 hy)
     .show ((aR w).take _++(aR w).drop _).length<=150;simp only [cEy,cFl,cGc];omega
    .exact same
   .split
    .split
     .rename_i x hi hx;have hm:=cEn hx;rw [cEe] at hi;have hlt: ¬ (((aR w).length:Int)>=150):=by have :=hi.2;simpa using this
      have ht':=bDf (w:=w) (x:=x);have hx':=h.fly x hm;have hkp:=h.keep.tot;refine rN.mono (B:=B+1101) (k:=k) (h.step (w':=uL w (aR w++[x])) ⟨rfl,rfl,id,fun y hy=> ?_,fun hl=> ?_⟩ ⟨by omega,h.keep.flows,⟨fun y hy=> ?_,h.keep.bytes.msg⟩⟩) (by omega) (by omega)
      .rcases cEl.1 (show y∈aR w++[x] from hy) with hy | hy
       .exact .inl hy
       .rw [cEk.1 hy];exact .inl hm
      .show (aR w++[x]).length<=150;simp only [cEy,cFx];omega
      .rcases cEl.1 (show y∈aR w++[x] from hy) with hy | hy
       .exact h.keep.bytes.fly y hy
       .rw [cEk.1 hy];exact h.keep.bytes.fly x hm
     .exact same
    .split
     .show rN t (B+2000) (k+1) (aAw w e.2.1 (e.1==5));unfold aAw;split
      .exact same
      .have h1:=bCr w (tY (nT w).2.length (aK w) e.2.1 (e.1==5));have h2:=bMv (nT w).2.length (aK w) e.2.1 (e.1==5);have h3:(nT w).2.length<=200:=by rw [h.top];exact ht
       have hkp:=h.keep.tot;exact rN.mono (B:=B+200) (k:=k) (h.step (w':=aHt w (tY (nT w).2.length (aK w) e.2.1 (e.1==5))) ⟨rfl,rfl,id,fun y hy=> .inl hy,id⟩ ⟨by omega,h.keep.flows,⟨h.keep.bytes.fly,h.keep.bytes.msg⟩⟩) (by omega) (by omega)
     .split
      .split
       .rename_i hc;rw [cEe] at hc;have hlt: ¬ (((aR w).length:Int)>=150):=by have :=hc.2;simpa using this
        have ht':=bDf (w:=w) (x:=e.2.2.2);have hx':=he.pk.1;have hkp:=h.keep.tot;refine rN.mono (B:=B+1101) (k:=k) (h.step (w':=uL w (aR w++[e.2.2.2])) ⟨rfl,rfl,id,fun y hy=> ?_,fun hl=> ?_⟩ ⟨by omega,h.keep.flows,⟨fun y hy=> ?_,h.keep.bytes.msg⟩⟩) (by omega) (by omega)
        .rcases cEl.1 (show y∈aR w++[e.2.2.2] from hy) with hy | hy
         .exact .inl hy
         .rw [cEk.1 hy];exact .inr hx'
        .show (aR w++[e.2.2.2]).length<=150;simp only [cEy,cFx];omega
        .rcases cEl.1 (show y∈aR w++[e.2.2.2] from hy) with hy | hy
         .exact h.keep.bytes.fly y hy
         .rw [cEk.1 hy];exact he.pk.2
       .exact same
      .split
       .split
        .rename_i f hi hf;have hm:=cEn hf;have h1:=aKy (t:=tFl) (y:=aI6 f e.2.2.1) hf;have h5:=aEr w ((aD w).set e.2.1.toNat (aI6 f e.2.2.1));have h6:=dX w;have hkp:=h.keep.tot;have h2:tot tFl (aI6 f e.2.2.1)<=tot tFl f+4:=by
          unfold aI6;split
          .obtain ⟨a,b,c,d,ms,ps,cu,wa,rv⟩:=f;show tot tFl (a,b,c,d,ms++[e.2.2.1],ps,cu,wa,rv)<=tot tFl (a,b,c,d,ms,ps,cu,wa,rv)+4;rw [aDz,aDz,rT,bDi];have :=he.data.1;omega
          .omega
         refine rN.mono (B:=B+4) (k:=k) (h.step (w':=dI w ((aD w).set e.2.1.toNat (aI6 f e.2.2.1))) (cS.flows w _) ⟨by omega,by show ((aD w).set _ _).length<=4;rw [cFt];exact h.keep.flows,⟨h.keep.bytes.fly,fun g hg m hmm=> ?_⟩⟩) (by omega) (by omega);rcases cG0 (show g∈(aD w).set _ _ from hg) with hg | rfl
         .exact h.keep.bytes.msg g hg m hmm
         .unfold aI6 at hmm;split at hmm
          .rcases cEl.1 (show m∈f.2.2.2.2.1++[e.2.2.1] from hmm) with hmm | hmm
           .exact h.keep.bytes.msg f hm m hmm
           .rw [cEk.1 hmm];exact he.data.2
          .exact h.keep.bytes.msg f hm m hmm
        .exact same
       .exact same
inductive Ran (v:den tNw):wD->den tNw->Prop
 | nil:Ran v [] v
 | snoc {l:wD} {w:den tNw} {e:den dC} (h:Ran v l w) (he:EvD w e):Ran v (l++[e]) (doW w e).2
theorem aBa.gateOk {n:Nat} {v:den tNw} (h:aBa n v):OkS (nG v) (aN v):=by
 have h1:=h.res;rw [h.now,h.gate];exact ⟨by show (1:Int)<=12;decide,by show (20:Int)>=12;decide,h1,fun j x hx=>by simp at hx⟩
theorem aBa.run {v:den tNw} (h:aBa 3 v):rN (nT v) 1000 0 v where
 keep:=⟨h.tot (by decide),cEa h.len (by decide),⟨fun x hx=>(by rw [h.fly] at hx;cases hx),fun f hf m hm=>(h.flows f hf).bytes m hm⟩⟩
 top:=rfl
 gate:=h.gateOk
 lo:=by rw [h.now];decide
 hi:=by rw [h.now];decide
 fly:=fun x hx=>by rw [h.fly] at hx;cases hx
 flyN:=by rw [h.fly];exact cEt _
theorem Ran.run {v:den tNw} (hv:aBa 3 v) {l:wD} {w:den tNw} (h:Ran v l w):l.length<=1000->rN (nT v) (1000+2000 * l.length) l.length w:=by
 induction h with
 | nil=>intro _;exact hv.run
 | snoc h he ih=>
  intro hl;simp only [cEy,cFx] at hl ⊢;exact (aWc (ih (by omega)) (by omega) (cEa hv.top.links (by decide)) he.s).mono (by omega) (by omega)
theorem rN.netE {t:den tTo} {B k:Nat} {w:den tNw} (h:rN t B k w) (hB:B<=536870912) (h1:1<=t.1.length) (h8:t.1.length<=8) (hl:t.2.length<=100):bGn w:=
 ⟨cEa h.keep.tot hB,by rw [h.top];exact ⟨h1,h8⟩,by rw [h.top];exact cEa hl (by decide),cEa h.flyN (by decide),h.fly,h.keep.bytes.fly,h.keep.flows⟩
def cDf (v:den tNw) (l:wD) (w:den tNw) (c:List Int) (p h:Int):q18:=
 ((nG v).1,aN v,cO v,l,(nT w).1,(nT w).2,(nK w).1,(nK w).2,(nG w).1,(nG w).2.1,(nG w).2.2,aN w,aK w,cO w,(nT v).1,(nT v).2,(nK v).1,(nK v).2,(nG v).2.1,(nG v).2.2,aK v,aR v,aD v,bH v,aR w,aD w,bH w,c,p,h)
abbrev RnS:=Int×lAS×lLk×lSg×lSg×Int×lRs×lUs×Int×lI×Int×wD×lFy×lFl×lIb×lI×Int×Int
abbrev RnR:=lAS×lLk×lSg×lSg×Int×lRs×lUs×Int×lI×Int×wD×lFy×lFl×lIb×lI×Int×Int
def rnS (n:Nat) (l:wD) (w:den tNw) (c:List Int) (p h:Int):RnS:=((n:Int),(nT w).1,(nT w).2,(nK w).1,(nK w).2,(nG w).1,(nG w).2.1,(nG w).2.2,aN w,aK w,cO w,l,aR w,aD w,bH w,c,p,h)
def bY9 (code:List Int) (N:Nat) (o:Option q18):Prop:=
 ∃ v l w c' p' h',o=some (cDf v l w c' p' h')/\aBa 3 v/\Ran v l w/\l.length<=N/\Cur code (c',p',h')
theorem bW7 {code:List Int} (hl:code.length<=1048576) {most:Nat} (h0:0<most) (h1:most<=200) {c:List Int} {p h:Int} (hc:Cur code (c,p,h)):bY9 code (3+most) (aB8 (c,p,h) (most:Int)):=by
 obtain ⟨v,c1,p1,h1',e1,hv,k1⟩:=bXq hl hc;obtain ⟨v2,c2,p2,h2,e2,r2,k2⟩:=aM hl (n:=(most:Int)) (by omega) (by omega) k1;obtain ⟨m2,rfl⟩:=cE0 r2.1;have w2:wr ((3:Int)+(m2:Int))=((m2+3:Nat):Int):=by rw [bN (by omega) (by omega)];omega
 have sw:SmB 68719476736 tNw v:=(bC (hv.tot (by decide))).mono (by decide);have e3:nO (((aCm v c1 p1 h1').2.2.2.1,(aCm v c1 p1 h1').2.2.2.2.1),((aCm v c1 p1 h1').2.2.2.2.2.1,(aCm v c1 p1 h1').2.2.2.2.2.2.1),((aCm v c1 p1 h1').1,(aCm v c1 p1 h1').2.2.2.2.2.2.2.1,(aCm v c1 p1 h1').2.2.2.2.2.2.2.2.1),(aCm v c1 p1 h1').2.1,(aCm v c1 p1 h1').2.2.2.2.2.2.2.2.2.1,(aCm v c1 p1 h1').2.2.2.2.2.2.2.2.2.2.1,(aCm v c1 p1 h1').2.2.2.2.2.2.2.2.2.2.2.1,(aCm v c1 p1 h1').2.2.2.2.2.2.2.2.2.2.2.2.1,(aCm v c1 p1 h1').2.2.1)=some (aNv v):=aUt sw;have e2:aB ((aCm v c1 p1 h1').2.2.2.2.2.2.2.2.2.2.2.2.2.1,(aCm v c1 p1 h1').2.2.2.2.2.2.2.2.2.2.2.2.2.2.1,(aCm v c1 p1 h1').2.2.2.2.2.2.2.2.2.2.2.2.2.2.2) (most:Int)=some ((m2:Int),c2,p2,h2):=e2;unfold aB8 bY4 pj3 pj6 aL aU aV bV eC fZ nA pX sU tH wR zz4 zz5 zz6 zz7 zz8 zz9;simp only [aT,bF,aX,aY,bA,e1,aA,e3,e2,w2];refine tV (G:=bY9 code (3+most)) (fun (n:Nat) (s:RnS)=> ∃ l w c p h,s=rnS n l w c p h/\l.length+n<=3+most/\Ran v l w/\Cur code (c,p,h)) (fun r:RnR=> ∃ n l w c p h,r=(rnS n l w c p h).2/\l.length<=3+most/\Ran v l w/\Cur code (c,p,h)) ?_ (m2+3) (rnS (m2+3) [] v c2 p2 h2) ⟨[],v,c2,p2,h2,rfl,by simp only [List.length_nil];omega,.nil,k2⟩ ?_
 .rintro n s ⟨l,w,c3,p3,h3,rfl,hn,hr,k3⟩
  cases n with
  | zero=>exact .inl ⟨_,rfl,0,l,w,c3,p3,h3,rfl,by omega,hr,k3⟩
  | succ n=>
   right;have hrun:=hr.run hv (by omega);have hE:=hrun.netE (by omega) hv.top.pos hv.top.len hv.top.links;obtain ⟨e,c4,p4,h4,e4,he,k4⟩:=bB0 hl hE k3;have e5:=cAo (w:=w) (e:=e) (by decide) hrun.keep (by omega) (by
     have h8:=he.hi;have h9: ¬ (e.1=(9:Int)):=fun h=>by rw [h] at h8;exact absurd h8 (by decide)
     exact beq_eq_false_iff_ne.2 h9) ⟨by have :=he.data.1;omega,fun x hx=>trivial⟩ (cEa he.pk.1 (by decide))
   have wn:wr (((n+1:Nat):Int) - 1)=(n:Int):=by rw [bN (by omega) (by omega)];omega
   refine ⟨n,rnS n (l++[e]) (doW w e).2 c4 p4 h4,by omega,?_,l++[e],(doW w e).2,c4,p4,h4,rfl,by simp only [cEy,cFx];omega,hr.snoc he,k4⟩;obtain ⟨⟨as,ls⟩,⟨dn,co⟩,⟨cap,res,us⟩,now,dead,fly,flows,box,drop⟩:=w;obtain ⟨kd,en,data,to,ing,k1,k2,k3,k4,k5,k6,k7,k8,k9,k10⟩:=e;show cond (decide (((n+1:Nat):Int)>(0:Int))) _ _=_;rw [zX (show ((n+1:Nat):Int)>0 by omega),zZ];simp only [rnS,nT,nK,nG,aN,aK,aR,aD,bH,cO,zZ,e4,aA,nxR,aE (b:=168) (n:=l.length) (m:=1) (by decide) (by omega),e5,cB,wn]
 .rintro r ⟨n,l,w,c3,p3,h3,rfl,hn,hr,k3⟩
  exact ⟨v,l,w,c3,p3,h3,rfl,hv,hr,hn,k3⟩
def cAa (w:den tNw):lAS×lLk×lSg×lSg×Int×lRs×lUs×Int×lI×Int×lFy×lFl×lIb:=
 ((nT w).1,(nT w).2,(nK w).1,(nK w).2,(nG w).1,(nG w).2.1,(nG w).2.2,aN w,aK w,cO w,aR w,aD w,bH w)
theorem aXk {code:List Int} (hl:code.length<=1048576) {most:Nat} (h0:0<most) (h1:most<=200) {c:List Int} {p h:Int} (hc:Cur code (c,p,h)): ∃ v l w c' p' h',qH (c,p,h) (most:Int)=some ((nT w).1,(nT w).2,(nK w).1,(nK w).2,(nG w).1,(nG w).2.1,(nG w).2.2,aN w,aK w,cO w,aR w,aD w,bH w,c',p',h')/\aBa 3 v/\Ran v l w/\l.length<=3+most/\Cur code (c',p',h'):=by
 obtain ⟨v,l,w,c1,p1,h1,e1,hv,hr,hn,k1⟩:=bW7 hl h0 h1 hc;exact ⟨v,l,w,c1,p1,h1,by unfold qH pj3 pj6 aL aU aV bV aAb zz4 zz5 zz6 zz7 zz8 zz9;rw [e1];rfl,hv,hr,hn,k1⟩
def hdS (l:dZ):Option Int:=l.head?.map fun x=>(x.1:Int)
def ltS (l:dZ):Option Int:=l.getLast?.map fun x=>(x.1:Int)
theorem aLv (l:dZ) (x:den aBz):ltS (l++[x])=some x.1:=by unfold ltS;rw [cG3];rfl
theorem aQy (l:dZ) (x:den aBz):hdS (l++[x])=if l=[] then some x.1 else hdS l:=by
 cases l with
 | nil=>rfl
 | cons y l=>rfl
theorem bVn (nf:Bool) (p:den tPp) (i:Nat) (h:den bU) (out:dZ):ltS (aBp nf p i h out)=some h.1/\hdS (aBp nf p i h out)=if out=[] then some h.1 else hdS out:=by
 unfold aBp;rcases oR out with rfl | ⟨m,z,rfl⟩
 .exact ⟨rfl,rfl⟩
 .rw [cG3];simp only;split
  .rename_i hc;simp only [cEe,beq_iff_eq] at hc;rw [cHr];refine ⟨aLv _ _,?_⟩;have hne:m++[z]≠[]:=by simp
   rw [zS hne,aQy,aQy]
   by_cases hm:m=[]
   .rw [zT hm,zT hm];exact congrArg some hc.2.2.symm
   .rw [zS hm,zS hm]
  .exact ⟨aLv _ _,by rw [aQy]⟩
theorem aVa (nf:Bool) (p:den tPp): ∀ (l:cF) (k:Nat) (a:dZ),ltS (bZ (fun i h b=>aBp nf p i h b) k l a)=(if l=[] then ltS a else aDw l)/\hdS (bZ (fun i h b=>aBp nf p i h b) k l a)=(if a=[] then aIs l else hdS a)
 | [],k,a=>by
  refine ⟨rfl,?_⟩;show hdS a=_;split
  .rename_i h;rw [h];rfl
  .rfl
 | x::l,k,a=>by
  obtain ⟨h1,h2⟩:=aVa nf p l (k+1) (aBp nf p k x a);obtain ⟨g1,g2⟩:=bVn nf p k x a;have hne:aBp nf p k x a≠[]:=fun e=>by rw [e] at g1;cases g1
  rw [zS hne,g2] at h2;refine ⟨?_,?_⟩
  .show ltS (bZ _ (k+1) l (aBp nf p k x a))=_;cases l with
   | nil=>
    show ltS (aBp nf p k x a)=_;rw [zS (List.cons_ne_nil _ _),g1];rfl
   | cons y l=>
    rw [h1,zS (List.cons_ne_nil _ _),zS (List.cons_ne_nil _ _)];unfold aDw;rw [List.getLast?_cons_cons]
  .show hdS (bZ _ (k+1) l (aBp nf p k x a))=_;rw [h2];rfl
theorem aZt: ∀ (p:lPp) (k:Nat) (a:dZ),a≠[]->hdS (bZ (fun k x a=>uD (decide (0<k)) x a) k p a)=hdS a/\(∀ b,aDx p=some b->ltS (bZ (fun k x a=>uD (decide (0<k)) x a) k p a)=some b)
 | [],k,a,_=>⟨rfl,fun b h=>by cases h⟩
 | x::p,k,a,ha=>by
  obtain ⟨g1,g2⟩:=aVa (decide (0<k)) x x.2.2.2 0 a;rw [zS ha] at g2;have hne:uD (decide (0<k)) x a≠[]:=fun e=>by
   have g2:hdS (uD (decide (0<k)) x a)=hdS a:=g2;rw [e] at g2;cases a with
   | nil=>exact ha rfl
   | cons y l=>cases g2
  obtain ⟨h1,h2⟩:=aZt p (k+1) (uD (decide (0<k)) x a) hne;refine ⟨h1.trans g2,fun b hb=> ?_⟩;cases p with
  | nil=>
   have hb:aDw x.2.2.2=some b:=hb;show ltS (uD (decide (0<k)) x a)=some b;have g1:ltS (uD (decide (0<k)) x a)=_:=g1;rw [g1,zS (fun e=>by rw [e] at hb;cases hb),hb]
  | cons y p=>
   have hb:aDx (y::p)=some b:=by
    unfold aDx at hb ⊢
    rwa [List.getLast?_cons_cons] at hb
   exact h2 b hb
theorem bFi (l:dZ):hdS (aKh l)=hdS l/\ltS (aKh l)=ltS l:=by
 unfold aKh;cases l with
 | nil=>exact ⟨rfl,rfl⟩
 | cons x xs=>
  simp only;rcases oR xs with rfl | ⟨m,z,rfl⟩
  .exact ⟨rfl,rfl⟩
  .have e:((x.1,(0:Int),x.2.2)::(m++[z]):dZ)=((x.1,(0:Int),x.2.2)::m)++[z]:=rfl;rw [e,cG3];simp only;rw [cHr,aLv];refine ⟨rfl,?_⟩;rw [show (x::(m++[z]):dZ)=(x::m)++[z] from rfl,aLv]
theorem bDp {p:lPp} {a b:Int} (ha:aJ8 p=some a) (hb:aDx p=some b):ends p=(a,b):=by
 cases p with
 | nil=>cases ha
 | cons x p=>
  have ha:aIs x.2.2.2=some a:=ha;obtain ⟨g1,g2⟩:=aVa false x x.2.2.2 0 [];have g1:ltS (uD false x [])=_:=g1;have g2:hdS (uD false x [])=aIs x.2.2.2:=g2;have hne:uD false x []≠[]:=fun e=>by rw [e] at g2;rw [<- g2] at ha;cases ha
  obtain ⟨h1,h2⟩:=aZt p 1 (uD false x []) hne;have e0:aDi (x::p)=bZ (fun k x a=>uD (decide (0<k)) x a) 1 p (uD false x []):=rfl;have f1:hdS (gX (x::p))=some a:=by
   unfold gX;rw [(bFi _).1,e0,h1,g2,ha]
  have f2:ltS (gX (x::p))=some b:=by
   unfold gX;rw [(bFi _).2,e0];cases p with
   | nil=>
    have hb:aDw x.2.2.2=some b:=hb;show ltS (uD false x [])=some b;rw [g1,zS (fun e=>by rw [e] at hb;cases hb),hb]
   | cons y p=>
    have hb:aDx (y::p)=some b:=by
     unfold aDx at hb ⊢
     rwa [List.getLast?_cons_cons] at hb
    exact h2 b hb
  unfold ends;unfold hdS at f1;unfold ltS at f2;obtain ⟨u,hu,eu⟩:=cE5.1 f1;obtain ⟨v,hv,ev⟩:=cE5.1 f2;rw [hu,hv];simp only;rw [eu,ev]
theorem aW0 (x:den tPp):aIs (aBb x).2.2.2=aDw x.2.2.2/\aDw (aBb x).2.2.2=aIs x.2.2.2:=by
 unfold aBb aIs aDw;simp only [List.head?_reverse,List.getLast?_reverse,and_self]
theorem aWq (p:lPp):aJ8 (aE0 p)=aDx p/\aDx (aE0 p)=aJ8 p:=by
 unfold aE0 aJ8 aDx;rw [List.head?_map,List.getLast?_map,List.head?_reverse,List.getLast?_reverse];constructor
 .cases p.getLast? with
  | none=>rfl
  | some x=>exact (aW0 x).1
 .cases p.head? with
  | none=>rfl
  | some x=>exact (aW0 x).2
theorem aU3 {α:Type} (p:α->α->Bool) (hp: ∀ x y,p x y=true->x=y): ∀ {a b:List α},a.length=b.length->aG3 p a b=true->a=b
 | [],[],_,_=>rfl
 | [],_::_,h,_=>by simp at h
 | _::_,[],h,_=>by simp at h
 | x::a,y::b,h,e=>by
  simp only [aG3,cEe] at e;rw [hp x y e.1,aU3 p hp (by simpa using h) e.2]
theorem bDl (b:Bool):cond b true false=b:=by cases b<;>rfl
theorem bNs {a b:cF} (h:aLw a b=true):a=b:=by
 unfold aLw at h
 by_cases hl:a.length=b.length
 .rw [zX hl,cEc,zY,bDl] at h;refine aU3 _ (fun x y e=> ?_) hl h;simp only [cEe,beq_iff_eq,and_true] at e;obtain ⟨e1,e2,e3,e4,e5⟩:=e;obtain ⟨x1,x2,x3,x4,x5⟩:=x;obtain ⟨y1,y2,y3,y4,y5⟩:=y;simp only at e1 e2 e3 e4 e5;rw [e1,e2,e3,e4,e5]
 .rw [zW hl] at h;cases h
theorem aZz {a b:Bool}:cond a b false=true↔a=true/\b=true:=by cases a<;>cases b<;>simp
theorem bKi {a b:den tPp} (h:aAc a b=true):a=b:=by
 unfold aAc at h;simp only [aZz,beq_iff_eq] at h;obtain ⟨e1,e2,e3,e4⟩:=h;have e4:=bNs e4;obtain ⟨x1,x2,x3,x4⟩:=a;obtain ⟨y1,y2,y3,y4⟩:=b;simp only at e1 e2 e3 e4;rw [e1,e2,e3,e4]
theorem bQy {a b:lPp} (h:wJ a b=true):a=b:=by
 unfold wJ at h
 by_cases hl:a.length=b.length
 .rw [zX hl,cEc,zY,bDl] at h;exact aU3 _ (fun x y e=>bKi e) hl h
 .rw [zW hl] at h;cases h
theorem bQd {a b:den tPk} (ha:fP a) (hb:fP b) (h:uQ a b=true):a=b:=by
 unfold uQ at h;simp only [aZz,beq_iff_eq] at h;obtain ⟨e1,e2,e3,e4,e5,e6,e7,e8,e9,e10⟩:=h;have e4:=bQy e4;have e10:=(bMz ha hb).1 e10;obtain ⟨x1,x2,x3,x4,x5,x6,x7,x8,x9,x10⟩:=a;obtain ⟨y1,y2,y3,y4,y5,y6,y7,y8,y9,y10⟩:=b;simp only at e1 e2 e3 e4 e5 e6 e7 e8 e9 e10;rw [e1,e2,e3,e4,e5,e6,e7,e8,e9,e10]
theorem eqI {a b:Int} (h:a=b):a=b:=h
theorem ltI {a b:Int} (h:a<b):a<b:=h
theorem leI {a b:Int} (h:a<=b):a<=b:=h
structure aDs (t:den tTo) (f:den tFl) (x:den tIb):Prop where
 val:jQ f=true
 src:cN t f.1=true
 dst:cN t f.2.1=true
 xAS:x.1=f.2.1
 xFrom:x.2.1=f.1
 next:x.2.2.1=(x.2.2.2.length:Int)
 recv:x.2.2.2=f.2.2.2.2.1.take x.2.2.2.length
 len:x.2.2.2.length<=f.2.2.2.2.1.length
 ack:f.2.2.2.1<=(x.2.2.2.length:Int)
 paths: ∀ p∈f.2.2.2.2.2.1,aJ8 p=some f.1/\aDx p=some f.2.1
def uX (w:den tNw) (p:den tPk):Prop:= ∀ (k:Nat) (f:den tFl) (x:den tIb),(aD w)[k]? =some f->(bH w)[k]? =some x->
 (p.1=(1:Int)->p.2.1=f.1->p.2.2.1=f.2.1->aJ8 p.2.2.2.1=some f.1/\aDx p.2.2.2.1=some f.2.1/\ ∃ s:Nat,p.2.2.2.2.2.2.2.2.1=(s:Int)/\f.2.2.2.2.1[s]? =some p.2.2.2.2.2.2.2.2.2)/\
 (p.1=(2:Int)->p.2.1=f.2.1->p.2.2.1=f.1->p.2.2.2.2.2.2.2.2.1<x.2.2.1)
def bOy (w:den tNw) (p:den tPk):Prop:=fY p=true->uX w p
structure fT (t:den tTo) (w:den tNw):Prop where
 top:nT w=t
 lenB:(bH w).length=(aD w).length
 flow: ∀ (k:Nat) (f:den tFl) (x:den tIb),(aD w)[k]? =some f->(bH w)[k]? =some x->aDs t f x
 uniq:(aD w).Pairwise fun f g=>rL g f=false
 good: ∀ y∈aR w,bOy w y.2.2
 to: ∀ y∈aR w,cN t y.1=true
structure aRn (w w':den tNw):Prop where
 flow: ∀ (k:Nat) (f':den tFl),(aD w')[k]? =some f'-> ∃ f,(aD w)[k]? =some f/\f'.1=f.1/\f'.2.1=f.2.1/\ ∀ (s:Nat) (m:List Int),f.2.2.2.2.1[s]? =some m->f'.2.2.2.2.1[s]? =some m
 box: ∀ (k:Nat) (x':den tIb),(bH w')[k]? =some x'-> ∃ x,(bH w)[k]? =some x/\x.2.2.1<=x'.2.2.1
theorem aRn.refl (w:den tNw):aRn w w:=⟨fun k f h=>⟨f,h,rfl,rfl,fun _ _ h=>h⟩,fun k x h=>⟨x,h,cFh _⟩⟩
theorem uX.grow {w w':den tNw} {p:den tPk} (h:uX w p) (g:aRn w w'):uX w' p:=fun k f' x' hf hx=>by
 obtain ⟨f,hf0,e1,e2,e3⟩:=g.flow k f' hf;obtain ⟨x,hx0,e4⟩:=g.box k x' hx;obtain ⟨h1,h2⟩:=h k f x hf0 hx0;rw [e1,e2];refine ⟨fun a b c=> ?_,fun a b c=>Int.lt_of_lt_of_le (h2 a b c) e4⟩;obtain ⟨q1,q2,s,q3,q4⟩:=h1 a b c;exact ⟨q1,q2,s,q3,e3 s _ q4⟩
theorem uX.goTo {w:den tNw} {p:den tPk} (h:uX w p) (i j b:Int):uX w (goTo p i j b):=h
theorem aNq {w:den tNw} {p:den tPk} (h:p.1=(3:Int)):uX w p:=fun k f x _ _=>⟨fun e=>absurd (h.symm.trans e) (by decide),fun e=>absurd (h.symm.trans e) (by decide)⟩
theorem fT.same {t:den tTo} {w w':den tNw} (h:fT t w) (e1:nT w'=nT w) (e2:aD w'=aD w) (e3:bH w'=bH w) (e4: ∀ y∈aR w',y∈aR w\/(uX w y.2.2/\cN t y.1=true)):fT t w':=by
 have g:aRn w w':=⟨fun k f h=>⟨f,by rw [<- e2];exact h,rfl,rfl,fun _ _ h=>h⟩,fun k x h=>⟨x,by rw [<- e3];exact h,cFh _⟩⟩
 refine ⟨e1.trans h.top,by rw [e2,e3];exact h.lenB,fun k f x hf hx=>h.flow k f x (by rw [<- e2];exact hf) (by rw [<- e3];exact hx),by rw [e2];exact h.uniq,fun y hy=> ?_,fun y hy=> ?_⟩
 .rcases e4 y hy with hy | ⟨hy,_⟩
  .exact fun hv=>(h.good y hy hv).grow g
  .exact fun _=>hy.grow g
 .rcases e4 y hy with hy | ⟨_,hy⟩
  .exact h.to y hy
  .exact hy
theorem fT.drop {t:den tTo} {w:den tNw} (h:fT t w):fT t (aBy w):=h.same rfl rfl rfl fun y hy=> .inl hy
theorem fT.map {t:den tTo} {w:den tNw} (h:fT t w) {l:lFl} (hl:l.length=(aD w).length)
  (hm: ∀ (k:Nat) (f':den tFl),l[k]? =some f'-> ∃ f,(aD w)[k]? =some f/\f'.1=f.1/\f'.2.1=f.2.1/\(∀ (s:Nat) (m:List Int),f.2.2.2.2.1[s]? =some m->f'.2.2.2.2.1[s]? =some m)/\ ∀ x,(bH w)[k]? =some x->aDs t f x->aDs t f' x):fT t (dI w l):=by
 have g:aRn w (dI w l):=⟨fun k f' hf=>by
  obtain ⟨f,a,b,c,d,_⟩:=hm k f' hf;exact ⟨f,a,b,c,d⟩,fun k x h=>⟨x,h,cFh _⟩⟩
 refine ⟨h.top,by show (bH w).length=l.length;rw [hl];exact h.lenB,fun k f' x hf hx=> ?_,?_,fun y hy hv=>(h.good y hy hv).grow g,h.to⟩
 .obtain ⟨f,a,_,_,_,e⟩:=hm k f' hf;exact e x hx (h.flow k f x a hx)
 .show l.Pairwise _;rw [cGe];intro i j hi hj hij;obtain ⟨f,a,b,c,_⟩:=hm i l[i] (cEb hi);obtain ⟨f',a',b',c',_⟩:=hm j l[j] (cEb hj);obtain ⟨hi',ei⟩:=cEj.1 a;obtain ⟨hj',ej⟩:=cEj.1 a';have :=(cGe.1 h.uniq) i j hi' hj' hij;rw [ei,ej] at this;unfold rL at this ⊢;rw [b,c,b',c'];exact this
theorem fT.one {t:den tTo} {w:den tNw} (h:fT t w) {i j:Nat} {f g:den tFl} (hf:(aD w)[i]? =some f) (hg:(aD w)[j]? =some g) (e1:f.1=g.1) (e2:f.2.1=g.2.1):i=j:=by
 obtain ⟨hi,ei⟩:=cEj.1 hf;obtain ⟨hj,ej⟩:=cEj.1 hg;have hs: ∀ a b:den tFl,a.1=b.1->a.2.1=b.2.1->rL b a=true:=fun a b x y=>by
  unfold rL;rw [x,y];simp
 rcases Nat.lt_trichotomy i j with c | c | c
 .have :=(cGe.1 h.uniq) i j hi hj c;rw [ei,ej,hs f g e1 e2] at this;cases this
 .exact c
 .have :=(cGe.1 h.uniq) j i hj hi c;rw [ei,ej,hs g f e1.symm e2.symm] at this;cases this
theorem bGh {t:den tTo} {f:den tFl} {x:den tIb} {p:den tPk} (h:aDs t f x) (hp:aVf f p=true->p.2.2.2.2.2.2.2.2.1<x.2.2.1):aDs t (yJ f p) x:=by
 unfold yJ;split
 .rename_i ha;have hs:=hp ha;unfold aVf at ha;simp only [cEe,beq_iff_eq] at ha;obtain ⟨_,_,_,h4,h5⟩:=ha;obtain ⟨h6,h7⟩:=bQ.1 h5;have hn:=h.next
  have hv:=(aA7 f).1 h.val;have hm:f.2.2.2.2.1.length<=20:=hv.2.2.2.2.1;have e:wr (f.2.2.2.1+1)=f.2.2.2.1+1:=bN (by omega) (by omega);rw [e];refine ⟨?_,h.src,h.dst,h.xAS,h.xFrom,h.next,h.recv,h.len,?_,h.paths⟩
  .rw [aA7];obtain ⟨q1,q2,q3,q4,q5,q6,q7,q8,q9,q10,q11,q12⟩:=hv;exact ⟨q1,q2,q3,q4,q5,bQ.2 ⟨by show (0:Int)<=f.2.2.2.1+1;omega,by show (f.2.2.2.2.1.length:Int)>=f.2.2.2.1+1;omega⟩,q7,q8,q9,q10,rfl,q12⟩
  .have e1:f.2.2.2.1<x.2.2.1:=h4▸hs;rw [hn] at e1;exact Int.add_one_le_of_lt e1
 .exact h
theorem bIh {t:den tTo} {f:den tFl} {x:den tIb} {p:den tPk} (h:aDs t f x):aDs t (aBv f p) x:=by
 unfold aBv;cases p.1==3&&(aAd p.2.2.2.2.2.2.2.2.2).2.2.2 with
 | false=>exact h
 | true=>
  rw [zZ];have hv:=(aA7 f).1 h.val;refine ⟨?_,h.src,h.dst,h.xAS,h.xFrom,h.next,h.recv,h.len,h.ack,h.paths⟩;rw [aA7];obtain ⟨q1,q2,q3,q4,q5,q6,q7,q8,q9,q10,q11,q12⟩:=hv;obtain ⟨r1,r2⟩:=bO7 (l:=f.2.2.2.2.2.2.2.2) (x:=aCv p.2.2.2.2.2.2.2.2.2) ⟨q12,q9⟩;refine ⟨q1,q2,q3,q4,q5,q6,q7,q8,r2,?_,?_,r1⟩
  .show cond _ _ _=(0:Int)\/inR (cond _ _ _) 0 _=true;cases aVj f (aCv p.2.2.2.2.2.2.2.2.2) with
   | false=>exact q10
   | true=>exact bBd q7 q10
  .show inR (cond _ _ _) 0 4=true;cases aVj f (aCv p.2.2.2.2.2.2.2.2.2) with
   | false=>exact q11
   | true=>rfl
theorem bM1 (f:den tFl) (p:den tPk):(yJ f p).1=f.1/\(yJ f p).2.1=f.2.1/\(yJ f p).2.2.2.2.1=f.2.2.2.2.1:=by
 unfold yJ;split<;>exact ⟨rfl,rfl,rfl⟩
theorem bMa (f:den tFl) (p:den tPk):(aBv f p).1=f.1/\(aBv f p).2.1=f.2.1/\(aBv f p).2.2.2.2.1=f.2.2.2.2.1:=by
 unfold aBv;cases p.1==3&&(aAd p.2.2.2.2.2.2.2.2.2).2.2.2<;>exact ⟨rfl,rfl,rfl⟩
theorem fT.tell {t:den tTo} {w:den tNw} {p:den tPk} (h:fT t w) (hg:uX w p) (r:Int):fT t (xF w r p):=by
 refine h.map (by simp) fun k f' hf'=> ?_
 rw [cGf] at hf';obtain ⟨f,hf,rfl⟩:=cE5.1 hf';have ht:(tX r p f).1=f.1/\(tX r p f).2.1=f.2.1/\(tX r p f).2.2.2.2.1=f.2.2.2.2.1:=by
  unfold tX;split
  .split
   .exact bM1 f p
   .exact bMa f p
  .exact ⟨rfl,rfl,rfl⟩
 refine ⟨f,hf,ht.1,ht.2.1,fun s m hm=>by rw [ht.2.2];exact hm,fun x hx hfx=> ?_⟩;unfold tX;split
 .split
  .refine bGh hfx fun ha=> ?_
   unfold aVf at ha;simp only [cEe,beq_iff_eq] at ha;exact (hg k f x hf hx).2 ha.1 ha.2.1 ha.2.2.1
  .exact bIh hfx
 .exact hfx
theorem fT.send {t:den tTo} {w:den tNw} {p:den tPk} (h:fT t w) (hg:uX w p) {r eg:Int} (hr:cN t (remote t r eg).1=true):fT t (sC w r eg p):=by
 unfold sC;split
 .refine h.same rfl rfl rfl fun y hy=> ?_
  rcases cEl.1 (show y∈aR w++_ from hy) with hy | hy
  .exact .inl hy
  .have :y=_:=cEk.1 hy;subst this;exact .inr ⟨hg,by rw [h.top];exact hr⟩
 .exact h.drop
theorem bFy {t:den tTo} {w:den tNw} {k:Nat} {f:den tFl} {x:den tIb} {p:den tPk} (hf:(aD w)[k]? =some f) (hx:(bH w)[k]? =some x) (hg:uX w p) (h:aDs t f x):aDs t f (eW x p)/\x.2.2.1<=(eW x p).2.2.1:=by
 unfold eW;split
 .rename_i ht;unfold aYn aC5 at ht;simp only [cEe,beq_iff_eq,zR] at ht;obtain ⟨⟨h1,h2,h3⟩,h4,h5⟩:=ht;obtain ⟨_,_,s,g1,g2⟩:=(hg k f x hf hx).1 h1 (by rw [h2,h.xFrom]) (by rw [h3,h.xAS]);have hn:=eqI h.next
  have h5:=ltI h5;have h4':=eqI h4;have g1':=eqI g1;have hs:s=x.2.2.2.length:=by omega
  subst hs;obtain ⟨hlt,he⟩:=cEj.1 g2;have e:wr (x.2.2.1+1)=((x.2.2.2.length+1:Nat):Int):=by
   rw [hn];exact cR (by omega)
  rw [e];have ha:=leI h.ack;refine ⟨⟨h.val,h.src,h.dst,h.xAS,h.xFrom,by show ((x.2.2.2.length+1:Nat):Int)=((x.2.2.2++[_]).length:Int);simp,?_,?_,?_,h.paths⟩,?_⟩
  .show x.2.2.2++[p.2.2.2.2.2.2.2.2.2]=f.2.2.2.2.1.take (x.2.2.2++[p.2.2.2.2.2.2.2.2.2]).length;rw [cEy,cFx,List.take_add_one,g2,<- h.recv];rfl
  .show (x.2.2.2++[p.2.2.2.2.2.2.2.2.2]).length<=_;rw [cEy,cFx];omega
  .refine leI (a:=f.2.2.2.1) (b:=((x.2.2.2++[p.2.2.2.2.2.2.2.2.2]).length:Int)) ?_;rw [cEy,cFx];omega
  .refine leI (a:=x.2.2.1) (b:=((x.2.2.2.length+1:Nat):Int)) ?_;omega
 .exact ⟨h,cFh _⟩
theorem fT.box {t:den tTo} {w:den tNw} {k:Nat} {x x':den tIb} (h:fT t w) (hx:(bH w)[k]? =some x) (hn:x.2.2.1<=x'.2.2.1) (hf: ∀ f,(aD w)[k]? =some f->aDs t f x'):fT t (uM w k x')/\aRn w (uM w k x'):=by
 have hk:k<(bH w).length:=(cEj.1 hx).1;have g:aRn w (uM w k x'):=⟨fun k f h=>⟨f,h,rfl,rfl,fun _ _ h=>h⟩,fun j y hy=>by
  replace hy:((bH w).set k x')[j]? =some y:=hy;rw [cGs] at hy;split at hy
  .rename_i e;subst e
   try rw [zT hk] at hy
   injection hy with hy;subst hy;exact ⟨x,hx,hn⟩
  .exact ⟨y,hy,cFh _⟩⟩
 refine ⟨⟨h.top,by show ((bH w).set k x').length=_;rw [cFt];exact h.lenB,fun j f y hf' hy=> ?_,h.uniq,fun y hy hv=>(h.good y hy hv).grow g,h.to⟩,g⟩;replace hy:((bH w).set k x')[j]? =some y:=hy;rw [cGs] at hy;split at hy
 .rename_i e;subst e
  try rw [zT hk] at hy
  injection hy with hy;subst hy;exact hf f hf'
 .exact h.flow j f y hf' hy
theorem bO1 {t:den tTo} {w:den tNw} {k:Nat} {x:den tIb} {p:den tPk} (h:fT t w) (hk: ∃ f,(aD w)[k]? =some f) (hx:(bH w)[k]? =some x) (ha:aFc x p=true) (hg:uX w p):uX w (pS x p):=by
 obtain ⟨f,hf⟩:=hk;have hfx:=h.flow k f x hf hx;unfold aFc aC5 at ha;simp only [cEe,beq_iff_eq,cFg,decide_eq_false_iff_not] at ha;obtain ⟨⟨h1,h2,h3⟩,h4⟩:=ha;have e1:(p.2.1:Int)=f.1:=h2.trans hfx.xFrom;have e2:(p.2.2.1:Int)=f.2.1:=h3.trans hfx.xAS;obtain ⟨p1,p2,_⟩:=(hg k f x hf hx).1 h1 e1 e2;have he:ends (aE0 p.2.2.2.1)=(f.2.1,f.1):=bDp ((aWq _).1.trans p2) ((aWq _).2.trans p1);have hm:pS x p=aG6 2 (aE0 p.2.2.2.1) p.2.2.2.2.2.2.2.1 p.2.2.2.2.2.2.2.2.1 []:=by
  unfold pS;rw [zT (by
   unfold aFc aC5;simp only [cEe,beq_iff_eq,cFg,decide_eq_false_iff_not];exact ⟨⟨h1,h2,h3⟩,h4⟩)]
  rfl
 intro j g y hg' hy;refine ⟨fun e=> ?_,fun _ a b=> ?_⟩
 .rw [hm] at e;exact absurd e (show ¬ ((2:Int)=1) by decide)
 .rw [hm] at a b ⊢;have a:(ends (aE0 p.2.2.2.1)).1=g.2.1:=a;have b:(ends (aE0 p.2.2.2.1)).2=g.1:=b;rw [he] at a b;have hj:k=j:=h.one hf hg' b a;subst hj;have :some x=some y:=hx.symm.trans hy;injection this with this;subst this;exact Int.not_le.1 h4
theorem bQr {t:den tTo} {x:den tPp} (h:uA t x=true) {k:Nat} {y:den bU} (hy:x.2.2.2[k]? =some y):cN t y.1=true/\(k=0\/aLo t x ((x.2.2.2[k - 1]?).getD h0) y=true):=by
 unfold uA at h;simp only [cEe] at h;obtain ⟨_,_,_,_,h5,h6⟩:=h;have a:=(aC1 (aG2 t x.2.2.2) x.2.2.2).1 h5 k y hy;have b:=(aC1 (aAy t x) x.2.2.2).1 h6 k y hy;unfold aG2 at a;unfold aAy at b;simp only [cEe] at a;rw [cFq,zR] at b;exact ⟨a.2.1,b⟩
theorem bZs {t:den tTo} {p:den tPk} (hw:wfP t p.2.2.2.1=true) (hh:cQ p=true) (hz:0<=dF p) (hl:eB p=true) (ha:hH p=false):dF (adv p)=dF p/\(adv p).2.2.2.2.1=p.2.2.2.2.1+1/\(adv p).2.2.2.1=p.2.2.2.1:=by
 obtain ⟨i,e1,e2⟩:=aUz hh hz hl ha;obtain ⟨i',j,f1,f2,f3,f4,f5⟩:=iT hh;have f1':=eqI f1;have :i'=i:=by have :=eqI (f1.symm.trans e1);omega
 subst this;have e:adv p=goTo p (p.2.2.2.2.1+1) 0 (uO p).2.2.1:=by
  unfold adv;rw [ha,hl,zW (show ¬ dF p<0 by omega)];rfl
 rw [e];refine ⟨?_,rfl,rfl⟩;obtain ⟨v1,v2⟩:=aPc hw e2;obtain ⟨u1,_⟩:=aPc hw f3;have hj:aPh (bT p) (uO p)=true:=by
  rcases v2 with v2 | v2
  .omega
  .rw [show i'+1 - 1=i' by omega,f3] at v2;exact v2
 unfold aPh at hj;rw [cEe,beq_iff_eq] at hj;have hp:=aRu v1;have hq:=aRu u1;have hhd:(uO p).2.2.2[0]? =some (aJw (uO p)):=by
  unfold aJw;rw [cEb hp];rfl
 have hjl:j=(bT p).2.2.2.length - 1:=by
  unfold eB at hl;rw [beq_iff_eq,f2] at hl;have hl:=eqI hl;omega
 have hlt:aMm (bT p)=dG p:=by
  unfold aMm;rw [<- hjl,f4];rfl
 have hn:cQ (goTo p (p.2.2.2.2.1+1) 0 (uO p).2.2.1)=true/\bT (goTo p (p.2.2.2.2.1+1) 0 (uO p).2.2.1)=uO p/\dG (goTo p (p.2.2.2.2.1+1) 0 (uO p).2.2.1)=aJw (uO p):=by
  have en:(p.2.2.2.2.1+1).toNat=i'+1:=by rw [f1];omega
  have a:bT (goTo p (p.2.2.2.2.1+1) 0 (uO p).2.2.1)=uO p:=by
   show (p.2.2.2.1[(p.2.2.2.2.1+1).toNat]?).getD pt0=_;rw [en,e2];rfl
  refine ⟨?_,a,?_⟩
  .have hlen:=(cEj.1 e2).1;show (inR (p.2.2.2.2.1+1) 0 ((p.2.2.2.1.length:Int) - 1)&&inR (0:Int) 0 (((((p.2.2.2.1[(p.2.2.2.2.1+1).toNat]?).getD (0,0,0,[])).2.2.2.length:Nat):Int) - 1))=true;rw [en,e2,f1,cEe];refine ⟨bQ.2 ⟨by omega,by omega⟩,bQ.2 ⟨by omega,?_⟩⟩;show (0:Int)<=((uO p).2.2.2.length:Int) - 1;omega
  .unfold dG;rw [a];show ((uO p).2.2.2[(0:Int).toNat]?).getD h0=_;rw [show (0:Int).toNat=0 from rfl,hhd];rfl
 obtain ⟨_,_,_,_,_,_,g⟩:=iT hn.1;rw [g,hn.2.2,<- hj.2,hlt,<- f5]
theorem aZm {t:den tTo} {now:Int}: ∀ (n:Nat) (p:den tPk),wfP t p.2.2.2.1=true->p.2.2.2.2.1+(n:Int)=(p.2.2.2.1.length:Int)->(goC t now n p).1=0->(eB (goC t now n p).2=false\/hH (goC t now n p).2=true)/\dF (goC t now n p).2=dF p/\(goC t now n p).2.2.2.2.1=p.2.2.2.1
 | 0,p,hw,hn,h=>by
  exfalso;obtain ⟨h1,h2⟩:=aCt (show dR t now p=0 from h);obtain ⟨i,j,f1,_,f3,_⟩:=iT h1;have :=(cEj.1 f3).1;have hn:=eqI hn;have f1:=eqI f1;omega
 | n+1,p,hw,hn,h=>by
  have hc0:=aNa h;obtain ⟨h1,h2⟩:=aCt hc0;obtain ⟨s1,s2,_,_,s5,s6⟩:=(vF t p).cur;have sp:(bD t p).2.2.2.1=p.2.2.2.1:=(vF t p).1;have si:(bD t p).2.2.2.2.1=p.2.2.2.2.1:=(vF t p).2.1;unfold goC at h ⊢;split at h
  .rename_i hc;rw [zT hc];simp only [cEe,cFg] at hc;obtain ⟨a1,a2,a3⟩:=bZs (t:=t) (p:=bD t p) (by rw [sp];exact hw) (s1.trans h1) (by rw [s2];exact h2) hc.2.1 hc.2.2;obtain ⟨b1,b2,b3⟩:=aZm n (adv (bD t p)) (by rw [a3,sp];exact hw) (by rw [a2,a3,si,sp];refine eqI ?_;have hn:=eqI hn;omega) h;exact ⟨b1,b2.trans (a1.trans s2),b3.trans (a3.trans sp)⟩
  .rename_i hc;rw [zS hc];refine ⟨?_,s2,sp⟩;rw [hc0] at hc;show eB (bD t p)=false\/hH (bD t p)=true;cases hl:eB (bD t p) with
   | false=>exact .inl rfl
   | true=>
    right;rw [hl] at hc;simpa using hc
theorem aXv {t:den tTo} {now:Int} {dead:List Int} {r inn:Int} {p:den tPk} (h:((cU t now dead r inn p).1==0)=true):cN t (remote t r (cU t now dead r inn p).2.1).1=true:=by
 have h:(fwd t r now (wN t dead r) inn p).1=0:=eq_of_beq (show ((fwd t r now (wN t dead r) inn p).1==0)=true from h);unfold cU;unfold fwd at h ⊢;split at h
 .exact absurd h (show ¬ ((2:Int)=0) by decide)
 rename_i c1;rw [zS c1];split at h
 .exact absurd h (show ¬ ((3:Int)=0) by decide)
 rename_i c2;rw [zS c2];split at h
 .rename_i c3;simp only [cFg,beq_eq_false_iff_ne] at c3;exact absurd h c3
 rename_i c3;rw [zS c3];split at h
 .split at h<;>first | exact absurd h (show ¬ ((1:Int)=0) by decide) | exact absurd h (show ¬ ((2:Int)=0) by decide)
 rename_i c4;rw [zS c4];split at h
 .exact absurd h (show ¬ ((6:Int)=0) by decide)
 rename_i c5;rw [zS c5];split at h
 .exact absurd h (show ¬ ((7:Int)=0) by decide)
 rename_i c6;rw [zS c6];simp only [cFq,cFg,not_or,Bool.not_eq_false,beq_iff_eq] at c1 c3 c4;obtain ⟨v1,v2,v3⟩:=c1;have hw:wfP t p.2.2.2.1=true:=by
  unfold rQ at v2;rw [cEe] at v2;exact v2.1
 have hh:cQ p=true:=by
  unfold fY at v1;simp only [cEe] at v1;exact v1.2.2.1
 obtain ⟨i,j,f1,_,f3,_⟩:=iT hh;have hlen:=(cEj.1 f3).1;obtain ⟨b1,b2,b3⟩:=aZm (t:=t) (now:=now) (p.2.2.2.1.length - p.2.2.2.2.1.toNat) p hw (by rw [f1,cEf];refine eqI ?_;omega) c3;obtain ⟨q1,q2,_⟩:=aH0 (t:=t) (now:=now) (p.2.2.2.1.length - p.2.2.2.2.1.toNat) p c3;show cN t (remote t r (pEg (bT (bW t now p).2) (dG (bW t now p).2))).1=true;have e:bW t now p=goC t now (p.2.2.2.1.length - p.2.2.2.2.1.toNat) p:=rfl;have c4:hH (bW t now p).2=false:=by simpa using c4
 rw [<- e] at b1 b2 b3 q1 q2;generalize (bW t now p).2=q at *;have hl:eB q=false:=b1.elim id fun h=>by rw [c4] at h;cases h
 obtain ⟨a,b,g1,g2,g3,g4,g5⟩:=iT q1;have b3:(q.2.2.2.1:lPp)=p.2.2.2.1:=b3;have g3':(p.2.2.2.1:lPp)[a]? =some (bT q):=by rw [<- b3];exact g3
 obtain ⟨w1,_⟩:=aPc hw g3';have hb:=(cEj.1 g4).1;have hb2:b+1<(bT q).2.2.2.length:=by
  unfold eB at hl;rw [g2,beq_eq_false_iff_ne] at hl;have hl: ¬ ((b:Int)=((bT q).2.2.2.length:Int) - 1):=hl;omega
 obtain ⟨y1,y2⟩:=bQr w1 (cEb hb2);rcases y2 with y2 | y2
 .omega
 .rw [show b+1 - 1=b by omega,g4] at y2;unfold aLo at y2;simp only [cEe,beq_iff_eq,cE3] at y2;have er:r=(dG q).1:=by
   have :=v3;rw [<- g5,b2];exact this.symm
  rw [er,y2.2.1];exact y1
theorem aEq {w:den tNw} {t:den tTo} {now:Int} {dead:List Int} {r inn:Int} {p:den tPk} (h:uX w p):uX w (cU t now dead r inn p).2.2.1:=by
 obtain ⟨i,j,b,e⟩:=aZr t r now (wN t dead r) inn p;unfold cU;rw [e];exact h.goTo i j b
theorem aXy {t:den tTo} {w:den tNw} {r inn:Int} {p:den tPk} (h:fT t w) (hg:uX w p):fT t (proc0 w r inn p):=by
 unfold proc0;split
 .rename_i hc;exact h.send (aEq hg) (by rw [<- h.top];exact aXv hc)
 .split
  .exact h.tell (aEq hg) r
  .exact h.drop
theorem bJr {t:den tTo} {w:den tNw} {r:Int} {p:den tPk} (h:fT t w) (hg:uX w p):fT t (aDc w r p):=by
 unfold aDc;split
 .exact h
 .rename_i hc;rcases aMc (bH w) r p.2.1 with hf | ⟨k,x,hf,hx⟩
  .rw [hf] at hc;exact absurd (by decide) hc
  .have hba:aBt w k=x:=by unfold aBt;rw [hx];rfl
   rw [hf,cEf,hba];have hk:=(cEj.1 hx).1;have hkf:k<(aD w).length:=by rw [<- h.lenB];exact hk
   have hfl:(aD w)[k]? =some (aD w)[k]:=cEb hkf;obtain ⟨d1,d2⟩:=bFy hfl hx hg (h.flow k _ x hfl hx);obtain ⟨b1,b2⟩:=h.box hx d2 (fun f hf'=>by
    have :some f=some (aD w)[k]:=hf'.symm.trans hfl;injection this with this;rw [this];exact d1)
   split
   .rename_i ha;refine aXy b1 (bO1 b1 ⟨_,hfl⟩ ?_ ha (hg.grow b2));show ((bH w).set k (eW x p))[k]? =_;rw [cHg hk]
   .exact b1
theorem aNf {t:den tTo} {w:den tNw} {r inn:Int} {p:den tPk} (h:fT t w) (hg:bOy w p):fT t (gW w r inn p):=by
 cases hv:fY p with
 | false=>rw [aXb hv];exact h.drop
 | true=>
  have hg:=hg hv;unfold gW;split
  .rename_i hc;exact h.send (aEq hg) (by rw [<- h.top];exact aXv hc)
  .split
   .split
    .exact bJr h (aEq hg)
    .exact h.tell (aEq hg) r
   .split
    .unfold aE2;split
     .exact (aXy h (aNq rfl)).drop
     .exact (h.tell (aNq rfl) r).drop
    .exact h.drop
theorem bKs (f:den tFl): ∃ c wt:Int,(aF f).1=pN f c wt/\((aF f).2.2=true->(aF f).2.1=zH (pN f c wt)/\aAu (pN f c wt)=true):=by
 unfold aF;split
 .rename_i hs;split
  .exact ⟨_,_,rfl,fun _=>⟨rfl,hs⟩⟩
  .split
   .exact ⟨_,_,rfl,fun h=>⟨rfl,h⟩⟩
   .exact ⟨_,_,rfl,fun h=>by cases h⟩
 .exact ⟨_,_,rfl,fun h=>by cases h⟩
theorem fT.set {t:den tTo} {w:den tNw} (h:fT t w) {k:Nat} {f g:den tFl} (hf:(aD w)[k]? =some f) (e1:g.1=f.1) (e2:g.2.1=f.2.1) (e3: ∀ (s:Nat) (m:List Int),f.2.2.2.2.1[s]? =some m->g.2.2.2.2.1[s]? =some m) (e4: ∀ x,aDs t f x->aDs t g x):fT t (dI w ((aD w).set k g)):=by
 refine h.map (by simp) fun j f' hf'=> ?_
 rw [cGs] at hf';split at hf'
 .rename_i e;subst e;rw [zT (cEj.1 hf).1] at hf';injection hf' with hf';subst hf';exact ⟨f,hf,e1,e2,e3,fun x _=>e4 x⟩
 .exact ⟨f',hf',rfl,rfl,fun _ _ h=>h,fun x _ h=>h⟩
theorem bMq {t:den tTo} {w:den tNw} {k:Nat} {g:den tFl} (h:fT t w) (hg:(aD w)[k]? =some g) (hs:aAu g=true):uX w (zH g):=by
 have hk:k<(bH w).length:=by rw [h.lenB];exact (cEj.1 hg).1
 have hfi:=h.flow k g _ hg (cEb hk);have hs':=hs;unfold aAu at hs';rw [cEe] at hs';obtain ⟨a0,a1⟩:=bQ.1 hs'.1;obtain ⟨b0,b1⟩:=bQ.1 hs'.2;have hc:g.2.2.2.2.2.2.1.toNat<g.2.2.2.2.2.1.length:=by omega
 have ha:g.2.2.2.1.toNat<g.2.2.2.2.1.length:=by omega
 have hpth:g.2.2.2.2.2.1[g.2.2.2.2.2.2.1.toNat]? =some (g.2.2.2.2.2.1[g.2.2.2.2.2.2.1.toNat]'hc):=cEb hc;have hmsg:g.2.2.2.2.1[g.2.2.2.1.toNat]? =some (g.2.2.2.2.1[g.2.2.2.1.toNat]'ha):=cEb ha;obtain ⟨p1,p2⟩:=hfi.paths _ (cEn hpth);have he:=bDp p1 p2;have e:zH g=aG6 1 (g.2.2.2.2.2.1[g.2.2.2.2.2.2.1.toNat]'hc) g.2.2.1 g.2.2.2.1 (g.2.2.2.2.1[g.2.2.2.1.toNat]'ha):=by
  unfold zH;rw [zT hs,hpth,hmsg];rfl
 rw [e];intro j f x hf hx;refine ⟨fun _ a b=> ?_,fun a=>absurd a (show ¬ ((1:Int)=2) by decide)⟩;have a:(ends (g.2.2.2.2.2.1[g.2.2.2.2.2.2.1.toNat]'hc)).1=f.1:=a;have b:(ends (g.2.2.2.2.2.1[g.2.2.2.2.2.2.1.toNat]'hc)).2=f.2.1:=b;rw [he] at a b;have hj:k=j:=h.one hg hf a b;subst hj;have :some g=some f:=hg.symm.trans hf;injection this with this;subst this;exact ⟨p1,p2,g.2.2.2.1.toNat,(Int.toNat_of_nonneg b0).symm,hmsg⟩
theorem bMy {t:den tTo} {w:den tNw} (k:Nat) (h:fT t w):fT t (stepT k w):=by
 unfold stepT;split
 .rename_i f hf;obtain ⟨c,wt,e1,e2⟩:=bKs f;have hset:fT t (dI w ((aD w).set k (aF f).1)):=by
   refine h.set hf (by rw [e1];rfl) (by rw [e1];rfl) (fun s m hm=>by rw [e1];exact hm) fun x hx=> ?_
   have hv:=bJn hx.val;rw [e1] at hv ⊢;exact ⟨hv,hx.src,hx.dst,hx.xAS,hx.xFrom,hx.next,hx.recv,hx.len,hx.ack,hx.paths⟩
  split
  .rename_i hb;obtain ⟨g1,g2⟩:=e2 hb;rw [<- e1] at g1 g2;refine aNf hset fun _=> ?_
   rw [g1];refine bMq hset (k:=k) ?_ g2;show ((aD w).set k _)[k]? =_;rw [cHg (cEj.1 hf).1]
  .exact hset
 .exact h
theorem aXh {t:den tTo}: ∀ (n k:Nat) {w:den tNw},fT t w->fT t (tickL k n w)
 | 0,_,_,h=>h
 | n+1,k,_,h=>aXh n (k+1) (bMy k h)
theorem aXl {t:den tTo} {w:den tNw} (h:fT t w):fT t (sJ w):=by
 unfold sJ;split
 .exact h
 .exact aXh _ _ (h.same (w':=aHn w) rfl rfl rfl fun y hy=> .inl hy)
theorem bVq {t:den tTo} {w:den tNw} {k:Nat} {f:den tFl} {b:List Int} (h:fT t w) (hf:(aD w)[k]? =some f):fT t (dI w ((aD w).set k (aI6 f b))):=by
 unfold aI6;split
 .rename_i hv;refine h.set hf rfl rfl (fun s m hm=> ?_) fun x hx=> ?_
  .show (f.2.2.2.2.1++[b])[s]? =some m;rw [List.getElem?_append_left (cEj.1 hm).1];exact hm
  .refine ⟨hv,hx.src,hx.dst,hx.xAS,hx.xFrom,hx.next,?_,?_,hx.ack,hx.paths⟩
   .show x.2.2.2=(f.2.2.2.2.1++[b]).take _;rw [List.take_append_of_le_length hx.len];exact hx.recv
   .show x.2.2.2.length<=(f.2.2.2.2.1++[b]).length;have :=hx.len;rw [cEy];omega
 .exact h.set hf rfl rfl (fun _ _ h=>h) fun _ h=>h
theorem bL6 {t:den tTo} {w:den tNw} {e:den dC} (h:fT t w) (hb: ∀ x∈aR w,fP x.2.2) (hp:fP e.2.2.2.2.2) (h7:(e.1==(7:Int))=true) (hh:harm w e=true):bOy w e.2.2.2.2.2:=by
 intro hv;unfold harm eZ at hh;rw [h7,hv] at hh;cases h3:(e.2.2.2.2.2.1==(3:Int)) with
 | true=>exact aNq (eq_of_beq h3)
 | false=>
  rw [h3] at hh;simp only [cEc,cF0,zY] at hh;cases ha:w.2.2.2.2.2.1.all (fun x=> !uQ x.2.2 e.2.2.2.2.2) with
  | true=>
   rw [ha,zZ,List.all_eq_true] at hh;intro k f x hf hx;have :=hh f (cEn hf);unfold vZ at this;refine ⟨fun _ a b=> ?_,fun _ a b=> ?_⟩
   .rw [a,b] at this;simp at this
   .rw [a,b] at this;simp at this
  | false=>
   rw [List.all_eq_false] at ha;obtain ⟨x,hx,he⟩:=ha;have hx:x∈aR w:=hx;have he:uQ x.2.2 e.2.2.2.2.2=true:=by simpa using he
   have :=bQd (hb x hx) hp he;rw [<- this];exact h.good x hx (by rw [this];exact hv)
theorem bWq {t:den tTo} {w:den tNw} {e:den dC} (h:fT t w) (hb: ∀ x∈aR w,fP x.2.2) (hp:fP e.2.2.2.2.2) (hh:harm w e=true):fT t (doW w e).2:=by
 have bW: ∀ i,fT t (aA9 w i):=fun i=>h.same (w':=aA9 w i) rfl rfl rfl fun y hy=> .inl (by
  rcases cEl.1 (show y∈(aR w).take i++(aR w).drop (i+1) from hy) with hy | hy
  .exact cF3 hy
  .exact cF2 hy)
 unfold doW;split
 .exact aXl h
 .split
  .split
   .rename_i x hi hx;exact aNf (bW _) (h.good x (cEn hx))
   .exact h
  .split
   .split
    .exact (bW _).drop
    .exact h
   .split
    .split
     .rename_i x hi hx;have hm:=cEn hx;refine ⟨h.top,h.lenB,h.flow,h.uniq,fun y hy=> ?_,fun y hy=> ?_⟩
      .rcases cEl.1 (show y∈aR w++[x] from hy) with hy | hy
       .exact h.good y hy
       .rw [cEk.1 hy];exact h.good x hm
      .rcases cEl.1 (show y∈aR w++[x] from hy) with hy | hy
       .exact h.to y hy
       .rw [cEk.1 hy];exact h.to x hm
     .exact h
    .split
     .show fT t (aAw w e.2.1 (e.1==5));unfold aAw;split
      .exact h
      .exact h.same rfl rfl rfl fun y hy=> .inl hy
     .split
      .rename_i h7;split
       .rename_i hc;rw [cEe] at hc;have hgd:=bL6 h hb hp h7 hh;refine ⟨h.top,h.lenB,h.flow,h.uniq,fun y hy=> ?_,fun y hy=> ?_⟩
        .rcases cEl.1 (show y∈aR w++[e.2.2.2] from hy) with hy | hy
         .exact h.good y hy
         .rw [cEk.1 hy];exact hgd
        .rcases cEl.1 (show y∈aR w++[e.2.2.2] from hy) with hy | hy
         .exact h.to y hy
         .rw [cEk.1 hy,<- h.top];exact hc.1
       .exact h
      .split
       .split
        .rename_i f hi hf;exact bVq h hf
        .exact h
       .exact h
def cK (l:Nat) (n:Nat) (w:den tNw):Prop:=(l:Int)<=cO w/\(n:Int)>=cO w
abbrev bTb (n:Nat) (w:den tNw):Prop:=cK 0 n w
theorem cK.mono {l:Nat} {n m:Nat} {w:den tNw} (h:cK l n w) (hm:n<=m):cK l m w:=⟨h.1,by have :=h.2;omega⟩
theorem cK.eq {l:Nat} {n:Nat} {w w':den tNw} (h:cK l n w) (e:cO w'=cO w):cK l n w':=by
 unfold cK;rw [e];exact h
theorem cK.drop {l:Nat} {n:Nat} {w:den tNw} (h:cK l n w) (hn:n<=1000000):cK l (n+1) (aBy w):=by
 obtain ⟨h0,h1⟩:=h;have e:wr (cO w+1)=cO w+1:=bN (by omega) (by omega);exact ⟨by show (l:Int)<=wr (cO w+1);omega,by show ((n+1:Nat):Int)>=wr (cO w+1);omega⟩
theorem cK.send {l:Nat} {n:Nat} {w:den tNw} (h:cK l n w) (hn:n<=1000000) (r eg:Int) (p:den tPk):cK l (n+1) (sC w r eg p):=by
 unfold sC;split
 .exact h.mono (Nat.le_succ _)
 .exact h.drop hn
theorem cK.proc0 {l:Nat} {n:Nat} {w:den tNw} (h:cK l n w) (hn:n<=1000000) (r inn:Int) (p:den tPk):cK l (n+1) (proc0 w r inn p):=by
 unfold Go.Proofs.YtcppmcbkokgfcaaGreat.proc0;split
 .exact h.send hn _ _ _
 .split
  .exact cK.mono (n:=n) (h.eq rfl) (Nat.le_succ _)
  .exact h.drop hn
theorem cK.proc {l:Nat} {n:Nat} {w:den tNw} (h:cK l n w) (hn:n<=999999) (r inn:Int) (p:den tPk):cK l (n+2) (gW w r inn p):=by
 unfold gW;split
 .exact (h.send (by omega) _ _ _).mono (by omega)
 .split
  .split
   .unfold aDc;split
    .exact h.mono (by omega)
    .split
     .refine cK.mono (n:=n+1) (cK.proc0 (n:=n) ?_ (by omega) _ _ _) (by omega);exact cK.eq h rfl
     .exact cK.mono (n:=n) (h.eq rfl) (by omega)
   .exact cK.mono (n:=n) (h.eq rfl) (by omega)
  .split
   .unfold aE2;split
    .exact (h.proc0 (by omega) _ _ _).drop (by omega)
    .refine cK.mono (n:=n+1) (cK.drop (n:=n) ?_ (by omega)) (by omega);exact cK.eq h rfl
   .exact (h.drop (by omega)).mono (by omega)
theorem cK.stepT {l:Nat} {n:Nat} {w:den tNw} (h:cK l n w) (hn:n<=999999) (k:Nat):cK l (n+2) (stepT k w):=by
 unfold Go.Proofs.YtcppmcbkokgfcaaGreat.stepT;split
 .split
  .refine cK.proc (n:=n) ?_ hn _ _ _;exact cK.eq h rfl
  .exact cK.mono (n:=n) (h.eq rfl) (by omega)
 .exact h.mono (by omega)
theorem cK.tickL {l:Nat} {m:Nat}: ∀ (m k:Nat) {n:Nat} {w:den tNw},cK l n w->n+2 * m<=999999->cK l (n+2 * m) (tickL k m w)
 | 0,_,_,_,h,_=>h
 | m+1,k,n,w,h,hn=>by
  unfold Go.Proofs.YtcppmcbkokgfcaaGreat.tickL;exact (cK.tickL (m:=0) m (k+1) (h.stepT (by omega) k) (by omega)).mono (by omega)
theorem cK.event {l:Nat} {n:Nat} {w:den tNw} {e:den dC} (h:cK l n w) (hf:(aD w).length<=4) (hn:n<=900000):cK l (n+8) (doW w e).2:=by
 have same:cK l (n+8) w:=h.mono (by omega);unfold doW;split
 .show cK l (n+8) (sJ w);unfold sJ;split
  .exact same
  .refine cK.mono (n:=n+2 * (aD w).length) (cK.tickL (m:=0) (aD w).length 0 (n:=n) ?_ (by omega)) (by omega);exact cK.eq h rfl
 .split
  .split
   .refine cK.mono (n:=n+2) (cK.proc (n:=n) ?_ (by omega) _ _ _) (by omega);exact cK.eq h rfl
   .exact same
  .split
   .split
    .refine cK.mono (n:=n+1) (cK.drop (n:=n) ?_ (by omega)) (by omega);exact cK.eq h rfl
    .exact same
   .split
    .split
     .exact same
     .exact same
    .split
     .show cK l (n+8) (aAw w e.2.1 (e.1==5));unfold aAw;split
      .exact same
      .exact same
     .split
      .split
       .exact same
       .exact same
      .split
       .split
        .exact same
        .exact same
       .exact same
def xG (m:Nat) (l:List Int):Prop:=l.Pairwise (fun a b=>a<b)/\ ∀ n∈l,0<=n/\n<(m:Int)
theorem aNp (m:Nat) (dead:List Int) (i:Int) (b:Bool):xG m (tY m dead i b):=by
 unfold tY;refine ⟨List.Pairwise.filter _ (List.pairwise_map.2 (List.pairwise_lt_range.imp fun h=>by omega)),fun n hn=> ?_⟩;obtain ⟨k,hk,rfl⟩:=cEi.1 (cEq.1 hn).1;have :=List.mem_range.1 hk;exact ⟨by omega,by omega⟩
theorem xG.all {m:Nat} {l:List Int} (h:xG m l):(l.zipIdx 0).all (fun z=>tZ l m z.2 z.1)=true:=by
 refine (aC1 (tZ l m) l).2 fun k n hn=> ?_
 unfold tZ;have hm:=h.2 n (cEn hn);rw [cEe,cFq,zR];refine ⟨bQ.2 ⟨hm.1,by omega⟩,?_⟩
 by_cases h0:k=0
 .exact .inl h0
 .right;obtain ⟨hk,e⟩:=cEj.1 hn;have :=(cGe.1 h.1) (k - 1) k (by omega) hk (by omega);rw [cEb (show k - 1<l.length by omega),cE3];rw [e] at this;rw [zW (show ¬ (l[k - 1]'(by omega)>=n) by omega)];rfl
theorem aS6 (w:den tNw) (r eg:Int) (p:den tPk):aK (sC w r eg p)=aK w:=by unfold sC;split<;>rfl
theorem aTl (w:den tNw) (r inn:Int) (p:den tPk):aK (proc0 w r inn p)=aK w:=by
 unfold proc0;split
 .exact aS6 _ _ _ _
 .split<;>rfl
theorem bH9 (w:den tNw):aK (aBy w)=aK w:=rfl
theorem aLr (w:den tNw) (r inn:Int) (p:den tPk):aK (gW w r inn p)=aK w:=by
 unfold gW;split
 .exact aS6 _ _ _ _
 .split
  .split
   .unfold aDc;split
    .rfl
    .split
     .refine Eq.trans (aTl _ _ _ _) ?_;rfl
     .rfl
   .rfl
  .split
   .unfold aE2;split
    .rw [bH9];exact aTl _ _ _ _
    .rfl
   .rfl
theorem bI8 (k:Nat) (w:den tNw):aK (stepT k w)=aK w:=by
 unfold stepT;split
 .split
  .rename_i f hf hb;exact aLr (dI w ((aD w).set k (aF f).1)) _ _ _
  .rfl
 .rfl
theorem aTf: ∀ (n k:Nat) (w:den tNw),aK (tickL k n w)=aK w
 | 0,_,_=>rfl
 | n+1,k,w=>by
  unfold tickL;exact (aTf n (k+1) (stepT k w)).trans (bI8 k w)
theorem aS2 (w:den tNw):aK (sJ w)=aK w:=by
 unfold sJ;split
 .rfl
 .exact aTf (aD w).length 0 (aHn w)
theorem bQw {w:den tNw} {e:den dC} (h:xG (nT w).2.length (aK w)):xG (nT w).2.length (aK (doW w e).2):=by
 unfold doW;split
 .show xG _ (aK (sJ w));rw [aS2];exact h
 .split
  .split
   .show xG _ (aK (gW _ _ _ _));rw [aLr];exact h
   .exact h
  .split
   .split<;>exact h
   .split
    .split<;>exact h
    .split
     .show xG _ (aK (aAw w e.2.1 (e.1==5)));unfold aAw;split
      .exact h
      .exact aNp _ _ _ _
     .split
      .split<;>exact h
      .split
       .split<;>exact h
       .exact h
structure uN (t:den tTo) (B k d:Nat) (w:den tNw):Prop where
 run:rN t B k w
 inv:fT t w
 drop:bTb d w
 dead:xG t.2.length (aK w)
theorem uN.mono {t:den tTo} {B C k j d e:Nat} {w:den tNw} (h:uN t B k d w) (hB:B<=C) (hk:k<=j) (hd:d<=e):uN t C j e w:=⟨h.run.mono hB hk,h.inv,h.drop.mono hd,h.dead⟩
structure aOs (t:den tTo) (k:Nat) (w:den tNw):Prop where
 run:rN t (1000+2000 * k) k w
 inv:fT t w
 drop:bTb (8 * k) w
 dead:xG t.2.length (aK w)
theorem aBa.runV {v:den tNw} (h:aBa 3 v):aOs (nT v) 0 v where
 run:=h.run
 inv:=by
  refine ⟨rfl,by rw [h.box,cFb],fun k f x hf hx=> ?_,h.uniq,fun y hy=>(by rw [h.fly] at hy;cases hy),fun y hy=>(by rw [h.fly] at hy;cases hy)⟩;have hm:=cEn hf;have hF:=h.flows f hm;rw [h.box,cGf,hf] at hx;have hx:some ((f.2.1,f.1,0,[]):den tIb)=some x:=hx;injection hx with hx;subst hx;exact ⟨hF.val,hF.src,hF.dst,rfl,rfl,rfl,rfl,cEt _,by rw [hF.ack];exact cFh _,hF.ends⟩
 drop:=⟨by rw [h.drop];decide,by rw [h.drop];decide⟩
 dead:=by rw [h.dead];exact ⟨List.Pairwise.nil,fun n hn=>(cE1 hn).elim⟩
theorem aOs.event {t:den tTo} {k:Nat} {w:den tNw} {e:den dC} (h:aOs t k w) (hk:k<=1000) (ht:t.2.length<=100) (he:EvD w e):aOs t (k+1) (doW w e).2 where
 run:=(aWc h.run (by omega) (by omega) he.s).mono (by omega) (cEr _)
 inv:=bWq h.inv h.run.keep.bytes.fly he.pk.2 he.harm
 drop:=(h.drop.event h.run.keep.flows (by omega)).mono (by omega)
 dead:=by
  have :=bQw (w:=w) (e:=e) (by rw [h.run.top];exact h.dead);rw [h.run.top] at this;exact this
theorem Ran.runV {v:den tNw} (hv:aBa 3 v) {l:wD} {w:den tNw} (h:Ran v l w):l.length<=1000->aOs (nT v) l.length w:=by
 induction h with
 | nil=>intro _;exact hv.runV
 | snoc h he ih=>
  intro hl;simp only [cEy,cFx] at hl ⊢;exact (ih (by omega)).event (by omega) hv.top.links he
theorem aU2: ∀ {a b:List Int},a.Pairwise (fun x y=>x<y)->b.Pairwise (fun x y=>x<y)->(∀ x,x∈a↔x∈b)->a=b
 | [],[],_,_,_=>rfl
 | [],y::b,_,_,h=>absurd ((h y).2 (by simp)) (by simp)
 | x::a,[],_,_,h=>absurd ((h x).1 (by simp)) (by simp)
 | x::a,y::b,ha,hb,h=>by
  rw [List.pairwise_cons] at ha hb;have hxy:x=y:=by
   rcases cEh.1 ((h x).1 (by simp)) with e | e
   .exact e
   .rcases cEh.1 ((h y).2 (by simp)) with e' | e'
    .exact e'.symm
    .have h1:=ha.1 y e';have h2:=hb.1 x e;omega
  subst hxy;rw [aU2 ha.2 hb.2 fun z=> ?_];constructor
  .intro hz;have :=ha.1 z hz;rcases cEh.1 ((h z).1 (cEp _ hz)) with e | e
   .omega
   .exact e
  .intro hz;have :=hb.1 z hz;rcases cEh.1 ((h z).2 (cEp _ hz)) with e | e
   .omega
   .exact e
theorem bV4 {l:List Int} {n:Int} (h:l.Pairwise fun x y=>x<y):(rH l n).Pairwise fun x y=>x<y:=by
 unfold rH;split
 .exact h
 .rename_i hne;have hlt: ∀ x∈l.take (lS l n),x<n:=fun x hx=>by
   obtain ⟨i,hi,he⟩:=aOv hx;obtain ⟨hil,e⟩:=cEj.1 he;have :=List.not_of_lt_findIdx (p:=fun x=> !decide (x<n)) (xs:=l) (show i<l.findIdx _ from hi);rw [e] at this;simpa using this
  have hgt: ∀ x∈l.drop (lS l n),n<x:=fun x hx=>by
   obtain ⟨i,he⟩:=cG4.1 hx;rw [List.getElem?_drop] at he;obtain ⟨hil,e⟩:=cEj.1 he;have hp:lS l n<l.length:=by omega
   have h1:=List.findIdx_getElem (p:=fun x=> !decide (x<n)) (xs:=l) (w:=hp);have h1: ¬ (l[lS l n]'hp<n):=by
    have h1:(!decide (l[lS l n]'hp<n))=true:=h1;simpa using h1
   have h2:l[lS l n]'hp≠n:=fun e'=>hne (by rw [cEb hp,e'])
   by_cases hi0:i=0
   .subst hi0;have e:l[lS l n]'hp=x:=e;omega
   .have :=(cGe.1 h) (lS l n) (lS l n+i) hp hil (by omega);rw [e] at this;omega
  rw [List.append_assoc,List.pairwise_append];refine ⟨h.sublist (List.take_sublist _ _),?_,fun x hx y hy=> ?_⟩
  .rw [List.singleton_append,List.pairwise_cons];exact ⟨hgt,h.sublist (List.drop_sublist _ _)⟩
  .rcases cEl.1 hy with hy | hy
   .rw [cEk.1 hy];exact hlt x hx
   .have :=hlt x hx;have :=hgt y hy;omega
theorem bAx {l:List Int} {n:Int}:qC l n=true↔n∈l:=by
 unfold qC;rw [cFg,List.all_eq_false];constructor
 .rintro ⟨x,hx,e⟩
  have :x=n:=by simpa using e
  rw [<- this];exact hx
 .intro h;exact ⟨n,h,by simp⟩
theorem aWi {m:Nat} {dead:List Int} {i x:Int} {b:Bool}:x∈tY m dead i b↔(0<=x/\x<(m:Int))/\((x∈dead/\x≠i)\/(b=true/\x=i)):=by
 unfold tY;rw [cEq];constructor
 .rintro ⟨h1,h2⟩
  obtain ⟨k,hk,rfl⟩:=cEi.1 h1;have :=List.mem_range.1 hk;simp only [cFq,cEe,bne_iff_ne,beq_iff_eq] at h2;exact ⟨⟨by omega,by omega⟩,h2.imp (fun h=>⟨bAx.1 h.1,h.2⟩) id⟩
 .rintro ⟨⟨h1,h2⟩,h3⟩
  obtain ⟨k,rfl⟩:=cE0 h1;refine ⟨cEi.2 ⟨k,List.mem_range.2 (by omega),rfl⟩,?_⟩;simp only [cFq,cEe,bne_iff_ne,beq_iff_eq];exact h3.imp (fun h=>⟨bAx.2 h.1,h.2⟩) id
theorem bJg {m:Nat} {dead:List Int} {i:Int} (h:xG m dead) (hi:0<=i/\i<(m:Int)):rH dead i=tY m dead i true:=by
 refine aU2 (bV4 h.1) (aNp m dead i true).1 fun x=> ?_
 rw [aWi];constructor
 .intro hx;rcases aFt hx with rfl | hx
  .exact ⟨hi,.inr ⟨rfl,rfl⟩⟩
  .by_cases e:x=i
   .subst e;exact ⟨hi,.inr ⟨rfl,rfl⟩⟩
   .exact ⟨h.2 x hx,.inl ⟨hx,e⟩⟩
 .rintro ⟨_,⟨hx,_⟩ | ⟨_,rfl⟩⟩
  .exact aFx hx
  .exact aJz _ _
theorem bM2 {m:Nat} {dead:List Int} {i:Int} (h:xG m dead):(dead.filter fun x=>x != i)=tY m dead i false:=by
 refine aU2 (h.1.filter _) (aNp m dead i false).1 fun x=> ?_
 rw [aWi,cEq];constructor
 .rintro ⟨hx,e⟩
  exact ⟨h.2 x hx,.inl ⟨hx,by simpa using e⟩⟩
 .rintro ⟨_,⟨hx,e⟩ | ⟨e,_⟩⟩
  .exact ⟨hx,by simpa using e⟩
  .cases e
theorem bLf {w:den tNw} {i:Nat} {x:den tFy} (hx:(aR w)[i]? =some x) (hl:(aR w).length<=1073741824):oY w (i:Int)=some (bTz x (aA9 w i)):=by
 have hlt:i<(aR w).length:=(cEj.1 hx).1;have hx:w.2.2.2.2.2.1[((i:Nat):Int).toNat]? =some x:=by rw [cEf];exact hx
 have h1:decide ((i:Int)<(w.2.2.2.2.2.1.length:Int))=true:=zX (by have :i<w.2.2.2.2.2.1.length:=hlt;omega);have e1:wr ((i:Int)+1)=((i+1:Nat):Int):=(wri (by omega) (by omega)).trans (by omega);have h2:bX ((i+1:Nat):Int) (w.2.2.2.2.2.1.length:Int) (w.2.2.2.2.2.1.length:Int)=true:=aCq (show i+1<=w.2.2.2.2.2.1.length from hlt);have h3:bX (0:Int) (i:Int) (w.2.2.2.2.2.1.length:Int)=true:=aH4 (k:=i) (Nat.le_of_lt hlt);have hl:w.2.2.2.2.2.1.length<=1073741824:=hl;unfold oY ixb aI aL aU zz4 zz5 zz6 zz7 zz8 zz9;simp only [h1,hx,aA,zZ,e1,h2,h3,fR,aD0,cEx,aE (b:=128) (n:=([]:lFy).length) (m:=(w.2.2.2.2.2.1.take i).length) (by decide) (by simp;omega),aE (b:=128) (n:=(w.2.2.2.2.2.1.take i).length) (m:=(w.2.2.2.2.2.1.drop (i+1)).length) (by decide) (by simp;omega),zX (show (0:Int)<=(i:Int) by omega)];rfl
theorem cC5 {B F:Nat} {w:den tNw} {e:den dC} (hF:F<=1000) (hk:mB B F w) (hB:B+(F+1) * (160+F)<=536870912) (h9:(e.1==(9:Int))=false) (hd:SmB 4294967296 (.sl tb) e.2.2.1) (hp:tot tPk e.2.2.2.2.2<=34359738368) (hdead:xG (nT w).2.length (aK w)):iV w e=some ((doW w e).1,cB (doW w e).2):=by
 obtain ⟨kd,n,data,to,ing,pk⟩:=e;simp only at h9 hd hp;have hB0:B<=536870912:=by have :=cEt ((F+1) * (160+F));omega
 have hB1:B+F * (160+F)<=536870912:=by rw [cE7] at hB;omega
 have l1:w.2.2.2.2.2.1.length<=1073741824:=aPg hk (by omega);have l2:w.2.2.2.2.2.2.1.length<=1073741824:=cEa hk.flows (by omega);obtain ⟨n1,n2,n3⟩:=aFo hk (by omega);have l3:w.1.2.length<=1073741824:=n1.links;have l4:w.2.2.2.2.1.length<=1073741824:=by
  have h1:=dX w;have h2:=dE (t:=ti) (aK w);have h3:=hk.tot;have h4:(aK w).length<=1073741824:=by omega
  exact h4
 have w1:wr ((w.2.2.2.2.2.1.length:Int) - 1)=(w.2.2.2.2.2.1.length:Int) - 1:=fU (by omega);have w2:wr ((w.2.2.2.2.2.2.1.length:Int) - 1)=(w.2.2.2.2.2.2.1.length:Int) - 1:=fU (by omega);have w3:wr ((w.1.2.length:Int) - 1)=(w.1.2.length:Int) - 1:=fU (by omega);have a1:aG 128 w.2.2.2.2.2.1.length 1=true:=aE (by decide) (by omega);unfold iV doW ixb aI jX aOx pj2 pj3 pj9 cZ aL aU aV bV eC fZ nA pX sU tH wR aAa aBo aBr aAb zz4 zz5 zz6 zz7 zz8 zz9;simp only [w1,w2,w3,kM,aA];cases c1:(kd==(1:Int)) with
 | true=>
  simp only [zZ];rw [show ((w.1,w.2.1,w.2.2.1,w.2.2.2.1,w.2.2.2.2.1,w.2.2.2.2.2.1,w.2.2.2.2.2.2.1,w.2.2.2.2.2.2.2.1,w.2.2.2.2.2.2.2.2):den tNw)=w from rfl,bXm hF hk hB1];rfl
 | false=>
 cases c2:(kd==(2:Int)) with
 | true=>
  have c3:(kd==(3:Int))=false:=by rw [eq_of_beq c2];rfl
  simp only [zY,zZ,aA,c3,cEg,zU,zV];cases hin:inR n 0 ((w.2.2.2.2.2.1.length:Int) - 1) with
  | false=>rfl
  | true=>
   obtain ⟨i,x,rfl,hx,_,_⟩:=aGe l1 hin;have hx:(aR w)[i]? =some x:=hx;have e1:=bLf (w:=w) hx l1;have kg:=aG9 hk i;obtain ⟨m1,m2,m3⟩:=aFo kg (by omega);have hxm:=cEn hx;have htx:tot tPk x.2.2<=536870912:=by
    have h1:=vW (t:=tFy) hxm;have h2:tot tFy x=tot tPk x.2.2:=by simp [rP,vX]
    have :=dX w;have :=hk.tot;omega
   have e2:=bFh (w:=aA9 w i) (r:=x.1) (inn:=x.2.1) m1 m2 m3 htx (hk.bytes.fly x hxm);have e3:Option.bind (cC (aA9 w i) x.1 x.2.1 x.2.2) (fun y7=>(some (Sum.inl y7):Option ((lFy×lFl×lIb×lAS×lLk×lSg×lSg×Int×lRs×lUs×Int×List Int×Int)⊕(Bool×lFy×lFl×lIb×lAS×lLk×lSg×lSg×Int×lRs×lUs×Int×List Int×Int))))=some (Sum.inl (cB (gW (aA9 w i) x.1 x.2.1 x.2.2))):=by rw [e2];rfl
   have hx':w.2.2.2.2.2.1[((i:Nat):Int).toNat]? =some x:=by rw [cEf];exact hx
   simp only [cEc,zY];rw [show ((w.1,w.2.1,w.2.2.1,w.2.2.2.1,w.2.2.2.2.1,w.2.2.2.2.2.1,w.2.2.2.2.2.2.1,w.2.2.2.2.2.2.2.1,w.2.2.2.2.2.2.2.2):den tNw)=w from rfl,e1,aA,hx'];exact congrArg (fun o=>Option.bind o fun z=>Sum.elim (fun s32=>some (true,s32)) some z) e3
 | false=>
 cases c3:(kd==(3:Int)) with
 | true=>
  simp only [zY,zZ,aA,cEg,zU,zV];cases hin:inR n 0 ((w.2.2.2.2.2.1.length:Int) - 1) with
  | false=>rfl
  | true=>
   obtain ⟨i,x,rfl,hx,_,_⟩:=aGe l1 hin;have hx:(aR w)[i]? =some x:=hx;have e1:=bLf (w:=w) hx l1;simp only [cEc,zY];rw [show ((w.1,w.2.1,w.2.2.1,w.2.2.2.1,w.2.2.2.2.1,w.2.2.2.2.2.1,w.2.2.2.2.2.2.1,w.2.2.2.2.2.2.2.1,w.2.2.2.2.2.2.2.2):den tNw)=w from rfl,e1,aA];rfl
 | false=>
 cases c4:(kd==(4:Int)) with
 | true=>
  simp only [zY,zZ,aA,cEg,zU,zV];cases hin:inR n 0 ((w.2.2.2.2.2.1.length:Int) - 1) with
  | false=>rfl
  | true=>
   obtain ⟨i,x,rfl,hx,hlt,hz⟩:=aGe l1 hin;have hx':w.2.2.2.2.2.1[((i:Nat):Int).toNat]? =some x:=by rw [cEf];exact hx
   cases decide ((w.2.2.2.2.2.1.length:Int)>=150) with
   | true=>rfl
   | false=>
    simp only [cEc,cEm,zY,zZ,aA,hlt,hz,hx',a1,cFv];rfl
 | false=>
 cases c5:(kd==(5:Int)) with
 | true=>
  simp only [zY,zZ,aA,cEg,zU,zV,cGi,aOq (l:=w.2.2.2.2.1) (show w.2.2.2.2.1.length<=68719476736 by omega),aO2 (l:=w.2.2.2.2.1) (show w.2.2.2.2.1.length<=4294967296 by omega)];unfold aAw aHw;cases hin:inR n 0 ((w.1.2.length:Int) - 1) with
  | false=>
   cases qC (aK w) n<;>rfl
  | true=>
   obtain ⟨g0,g1⟩:=bQ.1 hin;cases hh:qC (aK w) n with
   | true=>
    rfl
   | false=>
    have ef:=bJg (m:=(nT w).2.length) (dead:=aK w) (i:=n) hdead ⟨g0,Int.lt_of_le_of_lt g1 (show ((w.1.2.length:Int) - 1<(w.1.2.length:Int)) by omega)⟩;have ef:rH w.2.2.2.2.1 n=tY (nT w).2.length (aK w) n true:=ef;rw [ef];rfl
 | false=>
 cases c6:(kd==(6:Int)) with
 | true=>
  simp only [zY,zZ,aA,cEg,zU,zV,cGj,aOq (l:=w.2.2.2.2.1) (show w.2.2.2.2.1.length<=68719476736 by omega)];unfold aAw aHw;cases hin:inR n 0 ((w.1.2.length:Int) - 1) with
  | false=>
   cases qC (aK w) n<;>rfl
  | true=>
   cases hh:qC (aK w) n with
   | false=>
    rfl
   | true=>
    simp only [cEc,zY,aA];have ef:=bM2 (m:=(nT w).2.length) (dead:=aK w) (i:=n) hdead;have ef:(w.2.2.2.2.1.filter fun x=>x != n)=tY (nT w).2.length (aK w) n false:=ef;refine gZ (G:=fun o=>Option.bind o (fun z=>Sum.elim (fun s32=>some (true,s32)) some z)=some (true,cB (aHt w (tY (nT w).2.length (aK w) n false)))) w.2.2.2.2.1.length (fun s:Int×List Int=>s.1) (fun k s=>s.2.length<=k/\s.2=(w.2.2.2.2.1.take k).filter fun x=>x != n) (fun r:List Int=>r=w.2.2.2.2.1.filter fun x=>x != n) ?_ ?_ 0 ((0:Int),[]) (cEt _) rfl ⟨by simp,by simp⟩ ?_
    .rintro k ⟨_,l⟩ hk' rfl ⟨g1,g2⟩
     simp only at g1 g2;right;have hx:w.2.2.2.2.1[k]? =some w.2.2.2.2.1[k]:=cEb hk';have ht:(w.2.2.2.2.1.take (k+1)).filter (fun x=>x != n)=l++(if w.2.2.2.2.1[k] != n then [w.2.2.2.2.1[k]] else []):=by
      rw [List.take_add_one,hx,List.filter_append,g2];congr 1;show List.filter _ [w.2.2.2.2.1[k]]=_;rw [cGt,List.filter_nil]
     simp only [zX (show (k:Int)<(w.2.2.2.2.1.length:Int) by omega),zZ,aH,hx,aA,aE (b:=8) (n:=l.length) (m:=1) (by decide) (by omega),show wr ((k:Int)+1)=((k+1:Nat):Int) from (wri (by omega) (by omega)).trans (by omega)];cases hb:(w.2.2.2.2.1[k] != n) with
     | true=>rw [hb,zT rfl] at ht;exact ⟨_,rfl,rfl,by simp;omega,ht.symm⟩
     | false=>rw [hb,zS (by simp),cFe] at ht;exact ⟨_,rfl,rfl,by show l.length<=k+1;omega,ht.symm⟩
    .rintro ⟨_,l⟩ rfl ⟨g1,g2⟩
     exact ⟨l,by simp only [zW (cE2 _),zY],by simpa using g2⟩
    .rintro r rfl
     rw [ef];rfl
 | false=>
 cases c7:(kd==(7:Int)) with
 | true=>
  simp only [zY,zZ,aA,cEg,zU,zV,cF0,aP,aEu n1.as];cases cN w.1 to with
  | false=>rfl
  | true=>
   cases decide ((w.2.2.2.2.2.1.length:Int)>=150) with
   | true=>rfl
   | false=>
    simp only [cEc,cEm,zY,zZ,aA,a1];rfl
 | false=>
 cases c8:(kd==(8:Int)) with
 | true=>
  simp only [zY,zZ,aA,cEg,zU,zV,cF0,aT,bF,aX,aY,bA];cases hin:inR n 0 ((w.2.2.2.2.2.2.1.length:Int) - 1) with
  | false=>rfl
  | true=>
   obtain ⟨i,x,rfl,hx,hlt,hz⟩:=aGe l2 hin;have hx:(aD w)[i]? =some x:=hx;have hxm:=cEn hx;have hx':w.2.2.2.2.2.2.1[((i:Nat):Int).toNat]? =some x:=by rw [cEf];exact hx
   have hfx:tot tFl x<=536870912:=by
    have h1:=vW (t:=tFl) hxm;have :=dX w;have :=hk.tot;omega
   have e1:=cB6 (f:=x) (b:=data) ((bC hfx).mono (by decide)) hd;have hlt2:decide (((i:Nat):Int).toNat<w.2.2.2.2.2.2.1.length)=true:=zX (by rw [cEf];exact (cEj.1 hx).1);simp only [cEc,zY,zZ,hlt,hz,hx',hlt2,aA];rw [show ((x.1,x.2.1,x.2.2.1,x.2.2.2.1,x.2.2.2.2.1,x.2.2.2.2.2.1,x.2.2.2.2.2.2.1,x.2.2.2.2.2.2.2.1,x.2.2.2.2.2.2.2.2):den tFl)=x from rfl,e1,aA];unfold aQu aI6;cases jQ (enq x data)<;>rfl
 | false=>
  simp only [h9,zY,zZ,aA,cEg,zU,zV,cF0];rfl
theorem aB1 {R T:Type} {n:Nat} (hn:n<=10000000) {step:Int->Option (Int⊕R)} {r:R} {k:R->Option T} (h: ∀ i:Nat,i<n->step (i:Int)=some (.inl ((i+1:Nat):Int))) (he:step (n:Int)=some (.inr r)):Option.bind (aC step (0:Int)) k=k r:=by
 refine gZ (G:=fun o=>o=k r) n (fun s:Int=>s) (fun _ _=>True) (fun x=>x=r) ?_ ?_ 0 (0:Int) (cEt _) rfl trivial (fun x hx=>by rw [hx])
 .rintro i _ hi rfl _
  exact .inr ⟨_,h i hi,rfl,trivial⟩
 .rintro _ rfl _
  exact ⟨r,he,rfl⟩
theorem aW4 {t:den tTo} (h1:t.1.length<=10000000) (h2:t.2.length<=10000000):oP t t=some true:=by
 unfold oP zz4;simp only [bne_self_eq_false,zY,aA];rw [aB1 h1 (r:= .inl ()) (fun i hi=>by
  simp only [zX (show (i:Int)<(t.1.length:Int) by omega),zZ,aH,cEb hi,aA,beq_self_eq_true,cFv,cEc,zY,cR (show i<=1000000000 by omega)]) (by simp only [zW (cE2 _),zY])]
 simp only [cFn];rw [aB1 h2 (r:= .inl ()) (fun i hi=>by
  simp only [zX (show (i:Int)<(t.2.length:Int) by omega),zZ,aH,cEb hi,aA,beq_self_eq_true,cFv,cEc,zY,cR (show i<=1000000000 by omega)]) (by simp only [zW (cE2 _),zY])]
 rfl
theorem bOj {s:den tSg} (h:s.2.2.length<=10000000):aAo s s=some true:=by
 obtain ⟨v,e,k⟩:=bAp (a:=s.2.2) (b:=s.2.2) h;unfold aAo;simp only [beq_self_eq_true,zZ,e,k rfl,aA]
theorem aJs {l:lSg} (h:l.length<=10000000) (hs: ∀ s∈l,s.2.2.length<=10000000):uR l l=some true:=by
 unfold uR pj3;simp only [bne_self_eq_false,zY];rw [aB1 h (r:= .inl ()) (fun i hi=>by
  simp only [zX (show (i:Int)<(l.length:Int) by omega),zZ,aH,cEb hi,aA,aP,bOj (hs _ (cFi hi)),cEc,zY,cR (show i<=1000000000 by omega)]) (by simp only [zW (cE2 _),zY])]
 rfl
theorem aXr {l:List Int} (h:l.length<=10000000):oO l l=some true:=by
 unfold oO;simp only [bne_self_eq_false,zY];rw [aB1 h (r:= .inl ()) (fun i hi=>by
  simp only [zX (show (i:Int)<(l.length:Int) by omega),zZ,aH,cEb hi,aA,bne_self_eq_false,zY,cR (show i<=1000000000 by omega)]) (by simp only [zW (cE2 _),zY])]
 rfl
theorem aR0 {w:den tNw} (h:tot tNw w<=10000000):nU w w=some true:=by
 have sw:=bC h;obtain ⟨hT,hK,hG,_,hD,hY,hF,hX,_⟩:=sw;have l5:w.2.2.2.2.2.1.length<=10000000:=hY.1;have l6:w.2.2.2.2.2.2.1.length<=10000000:=hF.1;have l7:w.2.2.2.2.2.2.2.1.length<=10000000:=hX.1;have e1:oP w.1 w.1=some true:=aW4 hT.1.1 hT.2.1;have e2:mV w.2.1 w.2.1=some true:=by
  unfold mV;simp only [aJs hK.1.1 (fun s hs=>(hK.1.2 s hs).2.2.1),aJs hK.2.1 (fun s hs=>(hK.2.2 s hs).2.2.1),aA,zZ]
 have e3:sB w.2.2.1 w.2.2.1=some true:=bKw (cEa hG.2.1.1 (by decide)) (cEa hG.2.2.1 (by decide));have e4:oO w.2.2.2.2.1 w.2.2.2.2.1=some true:=aXr hD.1;unfold nU aI pj2 pj3 pj4 pj9 zz4 zz5 zz6 zz7 zz8;simp only [aP,e1,e2,e3,e4,aA,cEc,zY,bne_self_eq_false];rw [aB1 l5 (r:= .inl ()) (fun i hi=>by
  obtain ⟨v,e,k⟩:=bVs (a:=w.2.2.2.2.2.1[i].2.2) (b:=w.2.2.2.2.2.1[i].2.2) (hY.2 _ (cFi hi)).2.2;simp only [zX (show (i:Int)<(w.2.2.2.2.2.1.length:Int) by omega),zZ,aH,cEb hi,aA,bne_self_eq_false,zY,aP,e,k rfl,cEc,cR (show i<=1000000000 by omega)]) (by simp only [zW (cE2 _),zY])]
 simp only [cFn];rw [aB1 l6 (r:= .inl ()) (fun i hi=>by
  obtain ⟨v,e,k⟩:=bOk (a:=w.2.2.2.2.2.2.1[i]) (b:=w.2.2.2.2.2.2.1[i]) (hF.2 _ (cFi hi));simp only [zX (show (i:Int)<(w.2.2.2.2.2.2.1.length:Int) by omega),zZ,aH,cEb hi,aA,aP,e,k rfl,cEc,zY,cR (show i<=1000000000 by omega)]) (by simp only [zW (cE2 _),zY])]
 simp only [cFn];rw [aB1 l7 (r:= .inl ()) (fun i hi=>by
  have hx:=hX.2 _ (cFi hi);obtain ⟨v,e,k⟩:=bV9 (a:=w.2.2.2.2.2.2.2.1[i]) (b:=w.2.2.2.2.2.2.2.1[i]) hx.2.2.2.1 (fun m hm=>(hx.2.2.2.2 m hm).1);simp only [zX (show (i:Int)<(w.2.2.2.2.2.2.2.1.length:Int) by omega),zZ,aH,cEb hi,aA,aP,e,k rfl,cEc,zY,cR (show i<=1000000000 by omega)]) (by simp only [zW (cE2 _),zY])]
 rfl
def bTr (w:den tNw) (b:Bool):lAS×lLk×lSg×lSg×Int×lRs×lUs×Int×lI×Int×Bool×lFy×lFl×lIb:=
 ((nT w).1,(nT w).2,(nK w).1,(nK w).2,(nG w).1,(nG w).2.1,(nG w).2.2,aN w,aK w,cO w,b,aR w,aD w,bH w)
def cA2:den tNw->wD->den tNw
 | w,[]=>w
 | w,e::l=>cA2 (doW w e).2 l
def bI9:den tNw->wD->Prop
 | _,[]=>True
 | w,e::l=>EvD w e/\bI9 (doW w e).2 l
theorem bI9.runV {t:den tTo} (ht:t.2.length<=100): ∀ {l:wD} {k:Nat} {w:den tNw},aOs t k w->bI9 w l->k+l.length<=1000->aOs t (k+l.length) (cA2 w l)
 | [],_,_,h,_,_=>h
 | e::l,k,w,h,hd,hk=>by
  have hk:k+(l.length+1)<=1000:=hk;have :=bI9.runV ht (h.event (by omega) ht hd.1) hd.2 (by omega:k+1+l.length<=1000);have hn:k+(l.length+1)=k+1+l.length:=by omega
  show aOs t (k+(l.length+1)) _;rw [hn];exact this
def aKl (w w':den tNw):Prop:=(aD w').length=(aD w).length/\ ∀ (k:Nat) (f f':den tFl),(aD w)[k]? =some f->(aD w')[k]? =some f'->f.2.2.2.1<=f'.2.2.2.1
def bS1 (s d:Int) (w w':den tNw):Prop:=(bH w').length=(bH w).length/\ ∀ (k:Nat) (x x':den tIb),(bH w)[k]? =some x->(bH w')[k]? =some x'->x'=x\/(x.2.1=s/\x.1=d/\x'.2.2.2.length=x.2.2.2.length+1)
theorem aKl.same {w w':den tNw} (h:aD w'=aD w):aKl w w':=by
 refine ⟨by rw [h],fun k f f' h1 h2=> ?_⟩;rw [h,h1] at h2;injection h2 with h2;rw [h2];exact cFh _
theorem aKl.trans {a b c:den tNw} (h:aKl a b) (g:aKl b c):aKl a c:=by
 refine ⟨g.1.trans h.1,fun k f f' h1 h2=> ?_⟩;have hk:k<(aD b).length:=by rw [h.1];exact (cEj.1 h1).1
 exact cGu (h.2 k f _ h1 (cEb hk)) (g.2 k _ f' (cEb hk) h2)
theorem bS1.same {s d:Int} {w w':den tNw} (h:bH w'=bH w):bS1 s d w w':=by
 refine ⟨by rw [h],fun k x x' h1 h2=> .inl ?_⟩;rw [h,h1] at h2;injection h2 with h2;exact h2.symm
def bS5 (P:Nat->Prop) (w w':den tNw):Prop:=(bH w').length=(bH w).length/\ ∀ (k:Nat) (x x':den tIb),(bH w)[k]? =some x->(bH w')[k]? =some x'->x'.2.2.2.length=x.2.2.2.length\/(P k/\x'.2.2.2.length=x.2.2.2.length+1)
theorem bS5.same {P:Nat->Prop} {w w':den tNw} (h:bH w'=bH w):bS5 P w w':=by
 refine ⟨by rw [h],fun k x x' h1 h2=> .inl ?_⟩;rw [h,h1] at h2;injection h2 with h2;rw [h2]
structure gL (w w':den tNw):Prop where
 top:nT w'=nT w
 book:nK w'=nK w
 flows:(aD w').length=(aD w).length
 now:aN w<=aN w'
theorem gL.refl (w:den tNw):gL w w:=⟨rfl,rfl,rfl,cFh _⟩
theorem gL.trans {a b c:den tNw} (h:gL a b) (k:gL b c):gL a c:=⟨k.top.trans h.top,k.book.trans h.book,k.flows.trans h.flows,cGu h.now k.now⟩
theorem aEh (w:den tNw):gL w (aBy w):=⟨rfl,rfl,rfl,cFh _⟩
theorem aK5 (w:den tNw) (l:lFy):gL w (uL w l):=⟨rfl,rfl,rfl,cFh _⟩
theorem aFa (w:den tNw) {l:lFl} (h:l.length=(aD w).length):gL w (dI w l):=⟨rfl,rfl,h,cFh _⟩
theorem aNr (w:den tNw) (r:Int) (p:den tPk):gL w (xF w r p):=aFa w (cFb _)
theorem aWj (w:den tNw) (r eg:Int) (p:den tPk):gL w (sC w r eg p):=by
 unfold sC;split
 .exact ⟨rfl,rfl,rfl,cFh _⟩
 .exact aEh w
theorem aT6 (w:den tNw) (r inn:Int) (p:den tPk):gL w (proc0 w r inn p):=by
 unfold proc0;split
 .exact aWj _ _ _ _
 .split
  .exact aNr _ _ _
  .exact aEh w
theorem bA0 (w:den tNw) (i:Nat) (x:den tIb):gL w (uM w i x):=⟨rfl,rfl,rfl,cFh _⟩
theorem aXq (w:den tNw) (r inn:Int) (p:den tPk):gL w (gW w r inn p):=by
 unfold gW;split
 .exact aWj _ _ _ _
 .split
  .split
   .unfold aDc;split
    .exact gL.refl w
    .split
     .exact (bA0 w _ _).trans (aT6 _ _ _ _)
     .exact bA0 w _ _
   .exact aNr _ _ _
  .split
   .unfold aE2;split
    .exact (aT6 _ _ _ _).trans (aEh _)
    .exact (aNr _ _ _).trans (aEh _)
   .exact aEh w
theorem bF5 (k:Nat) (w:den tNw):gL w (stepT k w):=by
 unfold stepT;split
 .split
  .exact (aFa w (cFt)).trans (aXq _ _ _ _)
  .exact aFa w (cFt)
 .exact gL.refl w
theorem aTi: ∀ (n k:Nat) (w:den tNw),gL w (tickL k n w)
 | 0,_,w=>gL.refl w
 | n+1,k,w=>by
  unfold tickL;exact (bF5 k w).trans (aTi n (k+1) (stepT k w))
theorem bKl {w:den tNw} (h0:(0:Int)<=aN w):gL w (sJ w):=by
 unfold sJ;split
 .exact gL.refl w
 .rename_i h;have e:wr (aN w+1)=aN w+1:=bN (by omega) (by omega);have a:gL w (aHn w):=⟨rfl,rfl,rfl,by show aN w<=wr (aN w+1);omega⟩
  exact a.trans (aTi _ _ _)
theorem aY8 {w:den tNw} {e:den dC} (h0:(0:Int)<=aN w):gL w (doW w e).2:=by
 unfold doW;split
 .exact bKl h0
 .split
  .split
   .exact (aK5 w _).trans (aXq _ _ _ _)
   .exact gL.refl w
  .split
   .split
    .exact (aK5 w _).trans (aEh _)
    .exact gL.refl w
   .split
    .split
     .exact aK5 w _
     .exact gL.refl w
    .split
     .show gL w (aAw w e.2.1 (e.1==5));unfold aAw;split
      .exact gL.refl w
      .exact ⟨rfl,rfl,rfl,cFh _⟩
     .split
      .split
       .exact aK5 w _
       .exact gL.refl w
      .split
       .split
        .exact aFa w (cFt)
        .exact gL.refl w
       .exact gL.refl w
theorem Ran.book {v:den tNw} (hv:aBa 3 v) {l:wD} {w:den tNw} (h:Ran v l w):l.length<=1000->nK w=nK v:=by
 induction h with
 | nil=>intro _;rfl
 | snoc h he ih=>
  intro hl;simp only [cEy,cFx] at hl;have hr:=h.runV hv (by omega);exact (aY8 hr.run.lo).book.trans (ih (by omega))
theorem bOi {code:List Int} (hl:code.length<=1048576) {c:List Int} {p h:Int} (hc:Cur code (c,p,h)): ∃ v c' p' h',aB9 (c,p,h)=some (v,c',p',h')/\(-1<=v/\v<=1000001)/\Cur code (c',p',h'):=by
 obtain ⟨b1,c1,p1,h1,e1,k1⟩:=pR hl (n:=10) (by decide) (by decide) hc;unfold aB9 pj3 pj4;simp only [e1,aA];cases b1 with
 | true=>
  obtain ⟨v,c2,p2,h2,e2,r2,k2⟩:=uE hl (l:=[(-1:Int),1000000,1000001]) (by decide) (by decide) k1;refine ⟨v,c2,p2,h2,by simp only [zZ,e2,aA],?_,k2⟩;simp only [cEh,cE1,or_false] at r2;rcases r2 with rfl | rfl | rfl<;>decide
 | false=>
  obtain ⟨v,c2,p2,h2,e2,r2,k2⟩:=aM hl (n:=200) (by decide) (by decide) k1;exact ⟨v,c2,p2,h2,by simp only [zY,e2,aA],by omega,k2⟩
theorem bP9 {code:List Int} (hl:code.length<=1048576) {c:List Int} {p h:Int} (hc:Cur code (c,p,h)): ∃ as ls c' p' h',aEb (c,p,h)=some (as,ls,c',p',h')/\as.length<=8/\ls.length<=101/\Cur code (c',p',h'):=by
 obtain ⟨as,ls,c1,p1,h1,e1,ht,k1⟩:=aVr hl hc;have hp:=ht.pos;have hn:=ht.len;have hk:=ht.links;obtain ⟨k,c2,p2,h2,e2,r2,k2⟩:=aM hl (n:=(as.length:Int)) (by omega) (by omega) k1;obtain ⟨v3,c3,p3,h3,e3,r3,k3⟩:=aM hl (n:=14) (by decide) (by decide) k2;obtain ⟨i,rfl⟩:=cE0 r2.1;have hi:i<as.length:=by omega
 have d0:decide ((0:Int)<=(0:Int))=true:=by decide
 have d1:decide ((0:Int)<(as.length:Int))=true:=zX (by omega);have d2:decide ((0:Int)<=(i:Int))=true:=zX (by omega);have d3:decide ((i:Int)<(as.length:Int))=true:=zX (by omega);have g0:as[(0:Int).toNat]? =some (as[0]'(by omega)):=cEb (show 0<as.length by omega);have gi:as[i]? =some (as[i]'hi):=cEb hi;unfold aEb dd ixb one pj2 pj3 pj5;simp only [e1,e2,e3,aA,aT,bF,aX,aY,bA];cases v3==(0:Int) with
 | true=>
  obtain ⟨v4,c4,p4,h4,e4,_,k4⟩:=uE hl (l:=[(0:Int),(-1:Int),2147483647,(as[0]'(by omega)).2.2]) (by simp) (by simp) k3;exact ⟨_,ls,c4,p4,h4,by simp only [zZ,d0,d1,d2,d3,g0,gi,cEf,e4,aA];rfl,by rw [cFt];exact hn,by omega,k4⟩
 | false=>
 cases v3==(1:Int) with
 | true=>
  obtain ⟨v4,c4,p4,h4,e4,_,k4⟩:=uE hl (l:=[(-1:Int),3,2]) (by simp) (by simp) k3;exact ⟨_,ls,c4,p4,h4,by simp only [zZ,zY,d0,d1,d2,d3,g0,gi,cEf,e4,aA];rfl,by rw [cFt];exact hn,by omega,k4⟩
 | false=>
 cases v3==(2:Int) with
 | true=>exact ⟨_,ls,c3,p3,h3,by simp only [zZ,zY,d0,d1,d2,d3,g0,gi,cEf,aA];rfl,by rw [cFt];exact hn,by omega,k3⟩
 | false=>
 cases v3==(3:Int) with
 | true=>
  by_cases hz:(ls.length:Int)>0
  .obtain ⟨v4,c4,p4,h4,e4,r4,k4⟩:=aM hl (n:=(ls.length:Int)) (by omega) (by omega) k3;obtain ⟨j,rfl⟩:=cE0 r4.1;have hj:j<ls.length:=by omega
   refine ⟨as,ls++[ls[j]'hj],c4,p4,h4,?_,hn,by simp;omega,k4⟩;simp only [zZ,zY,zX hz,e4,aA,zX (show (0:Int)<=(j:Int) by omega),zX (show (j:Int)<(ls.length:Int) by omega),cEf,cEb hj,aE (b:=40) (n:=ls.length) (m:=1) (by decide) (by omega),aT,bF,aX,aY,bA]
  .exact ⟨as,ls,c3,p3,h3,by simp only [zZ,zY,zW hz,aA],hn,by omega,k3⟩
 | false=>
 cases v3==(4:Int) with
 | true=>
  obtain ⟨v4,c4,p4,h4,e4,r4,k4⟩:=aM hl (n:=9) (by decide) (by decide) k3;obtain ⟨v5,c5,p5,h5,e5,r5,k5⟩:=aM hl (n:=9) (by decide) (by decide) k4;obtain ⟨v6,c6,p6,h6,e6,r6,k6⟩:=aM hl (n:=5) (by decide) (by decide) k5;exact ⟨as,ls++[(wr (v4 - 1),6,v5,6,v6)],c6,p6,h6,by simp only [zZ,zY,e4,e5,e6,aA,aE (b:=40) (n:=ls.length) (m:=1) (by decide) (by omega),aT,bF,aX,aY,bA],hn,by simp;omega,k6⟩
 | false=>
 cases v3==(5:Int) with
 | true=>exact ⟨[],ls,c3,p3,h3,by simp only [zZ,zY,aA],by simp,by omega,k3⟩
 | false=>exact ⟨as,ls,c3,p3,h3,by simp only [zY,aA],hn,by omega,k3⟩
theorem bLk {code:List Int} (hl:code.length<=1048576) {c:List Int} {p h:Int} (hc:Cur code (c,p,h)): ∃ cap l us c' p' h',aB7 (c,p,h)=some (cap,l,us,c',p',h')/\l.length<=1000/\us.length<=1000/\Cur code (c',p',h'):=by
 obtain ⟨cap,l,us,c1,p1,h1,e1,hs,hu,k1⟩:=bPq hl hc;have hr:l.length<=40:=hs.res.len;obtain ⟨v2,c2,p2,h2,e2,r2,k2⟩:=aM hl (n:=12) (by decide) (by decide) k1;unfold aB7 pj3 pj6 zz4 zz5;simp only [e1,e2,aA,aT,bF,aX,aY,bA];cases v2==(0:Int) with
 | true=>
  obtain ⟨v4,c4,p4,h4,e4,_,k4⟩:=uE hl (l:=[(0:Int),1,20,21]) (by simp) (by simp) k2;exact ⟨v4,l,us,c4,p4,h4,by simp only [zZ,e4,aA],by omega,by omega,k4⟩
 | false=>
 cases v2==(1:Int) with
 | true=>
  obtain ⟨v4,c4,p4,h4,e4,r4,k4⟩:=aM hl (n:=3) (by decide) (by decide) k2;obtain ⟨v5,c5,p5,h5,e5,r5,k5⟩:=aM hl (n:=9) (by decide) (by decide) k4;exact ⟨cap,l,us++[(v4,1,1,v5)],c5,p5,h5,by simp only [zZ,zY,e4,e5,aA,aE (b:=32) (n:=us.length) (m:=1) (by decide) (by omega),aT,bF,aX,aY,bA],by omega,by simp;omega,k5⟩
 | false=>
 cases v2==(2:Int) with
 | true=>
  obtain ⟨x1,x2,x3,x4,x5,c4,p4,h4,e4,k4⟩:=bRn hl k2;exact ⟨cap,l++[(x1,x2,x3,x4,x5)],us,c4,p4,h4,by simp only [zZ,zY,e4,aA,aE (b:=40) (n:=l.length) (m:=1) (by decide) (by omega),aT,bF,aX,aY,bA],by simp;omega,by omega,k4⟩
 | false=>exact ⟨cap,l,us,c2,p2,h2,by simp only [zY,aA],by omega,by omega,k2⟩
structure aE4 (w:den tNw):Prop where
 tot:Go.V.tot tNw w<=303000
 bytes:xD w
 flows:(aD w).length<=4
 fly:(aR w).length<=151
 as:(nT w).1.length<=8
 links:(nT w).2.length<=101
 dead:(aK w).length<=101
 db:DbD 11 (nK w).1 (nK w).2
 drop:cO w<=900000
 flyT: ∀ x∈aR w,Go.V.tot tPk x.2.2<=1100
def bZ9 (w:den tNw) (c:List Int) (p h:Int):q27:=
 ((nT w).1,(nT w).2,(nK w).1,(nK w).2,(nG w).1,(nG w).2.1,(nG w).2.2,aN w,aK w,cO w,aR w,aD w,bH w,c,p,h)
theorem bVf {l:List Int} {m:Nat} (h:xG m l):l.length<=m:=by
 have h1:=h.1;have h2:=h.2;have : ∀ (l:List Int) (a:Int),l.Pairwise (fun a b=>a<b)->(∀ n∈l,a<=n/\n<(m:Int))->(l.length:Int)<=max 0 ((m:Int) - a):=by
  intro l
  induction l with
  | nil=>intro a _ _;simp;omega
  | cons x l ih=>
   intro a hp hb;obtain ⟨p1,p2⟩:=List.pairwise_cons.1 hp;have hx:=hb x (by simp);have :=ih (x+1) p2 (fun n hn=>⟨by have :=p1 n hn;omega,(hb n (cEp _ hn)).2⟩);rw [cE8];omega
 have :=this l 0 h1 h2;omega
theorem aDv (as:lAS) (ls:lLk) (dn co:lSg) (cap:Int) (res:lRs) (us:lUs) (now:Int) (dead:List Int) (fly:lFy) (flows:lFl) (box:lIb) (drop:Int):tot tNw ((as,ls),(dn,co),(cap,res,us),now,dead,fly,flows,box,drop)=(as.length+ls.length)+((tot (.sl tSg) dn+tot (.sl tSg) co)+((0+(res.length+us.length))+(0+(dead.length+(tot (.sl tFy) fly+(tot (.sl tFl) flows+(tot (.sl tIb) box+0))))))):=by
 have :=dX ((as,ls),(dn,co),(cap,res,us),now,dead,fly,flows,box,drop);rw [this];show (tot (.sl tAS) as+tot (.sl tLk) ls)+((tot (.sl tSg) dn+tot (.sl tSg) co)+((0+(tot (.sl tRs) res+tot (.sl tUs) us))+(0+(tot (.sl ti) dead+(tot (.sl tFy) fly+(tot (.sl tFl) flows+(tot (.sl tIb) box+0)))))))=_;rw [dK (t:=tAS) rfl,dK (t:=tLk) rfl,dK (t:=tRs) rfl,dK (t:=tUs) rfl,dK (t:=ti) rfl]
theorem bEc {t:Ty} {l:List (den t)} {x:den t} (h:tot t x=0):tot (.sl t) (l++[x])=tot (.sl t) l+1:=by rw [rT,aFs,h]
theorem bKr {code:List Int} (hl:code.length<=1048576) {most:Nat} (h0:0<most) (h1:most<=100) {c:List Int} {p h:Int} (hc:Cur code (c,p,h)): ∃ w c' p' h',aCc (c,p,h) (most:Int)=some (bZ9 w c' p' h')/\aE4 w/\Cur code (c',p',h'):=by
 obtain ⟨v,l,w,c1,p1,h1',e1,hv,hr,hn,k1⟩:=aXk hl h0 (by omega) hc;have hR:=hr.run hv (by omega);have hV:=hr.runV hv (by omega);have ht:tot tNw w<=300000:=cEa hR.keep.tot (by omega);have hf:=hR.keep.flows;have hy:=hR.flyN;have hdl:(aK w).length<=100:=cEa (bVf hV.dead) hv.top.links;have has:(nT w).1.length<=8:=by rw [hR.top];exact hv.top.len
 have hls:(nT w).2.length<=100:=by rw [hR.top];exact hv.top.links
 have hb:=hR.keep.bytes;have hdb:DbD 11 (nK w).1 (nK w).2:=by rw [hr.book hv (by omega)];exact hv.db
 have hdr:cO w<=900000:=by have :=hV.drop.2;omega
 have hft:=hR.fly;have base:aE4 w:=⟨by omega,hb,hf,by omega,has,by omega,by omega,hdb,hdr,hft⟩
 obtain ⟨v2,c2,p2,h2,e2,r2,k2⟩:=aM hl (n:=30) (by decide) (by decide) k1;have nb:(bH w).length<=1000000:=by have :=dX w;have :=dE (t:=tIb) (bH w);omega
 clear hr hR hV hv;obtain ⟨⟨as0,ls0⟩,⟨dn,co⟩,⟨cap0,res,us0⟩,now,dead,fly,flows,box,drop⟩:=w;simp only [nT,nK,nG,aN,aK,aR,aD,bH,cO] at ht hf hy hdl has hls nb e1 hdb hdr hft;have hN:=aDv as0 ls0 dn co cap0 res us0 now dead fly flows box drop;have bf: ∀ x∈fly,fP x.2.2:=hb.fly;have bm: ∀ f∈flows,∀ m∈f.2.2.2.2.1,tO m:=hb.msg;unfold aCc ixb bHd pj2 pj3 pj4 aL aU aV bV zz4 zz5 zz6 zz7 zz8 zz9;simp only [e1,e2,aA,aT,bF,aX,aY,bA];cases v2==(0:Int) with
 | true=>
  obtain ⟨as,ls,c3,p3,h3,e3,l1,l2,k3⟩:=bP9 hl k2;refine ⟨((as,ls),(dn,co),(cap0,res,us0),now,dead,fly,flows,box,drop),c3,p3,h3,by simp only [zZ,e3,aA];rfl,⟨?_,⟨bf,bm⟩,hf,by show fly.length<=151;omega,l1,l2,by show (dead).length<=101;omega,hdb,hdr,hft⟩,k3⟩;rw [aDv];have a1:=dK (t:=tAS) (l:=as) rfl;have a2:=dK (t:=tLk) (l:=ls) rfl;omega
 | false=>
 cases v2==(1:Int) with
 | true=>
  obtain ⟨v3,c3,p3,h3,e3,r3,k3⟩:=bOi hl k2;exact ⟨((as0,ls0),(dn,co),(cap0,res,us0),v3,dead,fly,flows,box,drop),c3,p3,h3,by simp only [zZ,zY,e3,aA];rfl,⟨base.tot,⟨bf,bm⟩,hf,base.fly,has,base.links,base.dead,hdb,hdr,hft⟩,k3⟩
 | false=>
 cases v2==(2:Int) with
 | true=>
  obtain ⟨cap,l3,us,c3,p3,h3,e3,l1,l2,k3⟩:=bLk hl k2;refine ⟨((as0,ls0),(dn,co),(cap,l3,us),now,dead,fly,flows,box,drop),c3,p3,h3,by simp only [zZ,zY,e3,aA];rfl,⟨?_,⟨bf,bm⟩,hf,base.fly,has,base.links,base.dead,hdb,hdr,hft⟩,k3⟩;rw [aDv];have a1:=dK (t:=tRs) (l:=l3) rfl;have a2:=dK (t:=tUs) (l:=us) rfl;omega
 | false=>
 cases v2==(3:Int) with
 | true=>
  obtain ⟨v3,c3,p3,h3,e3,r3,k3⟩:=aM hl (n:=9) (by decide) (by decide) k2;obtain ⟨v4,c4,p4,h4,e4,r4,k4⟩:=aM hl (n:=9) (by decide) (by decide) k3;refine ⟨((as0,ls0),(dn,co),(cap0,res,us0),now,[v3,v4],fly,flows,box,drop),c4,p4,h4,by simp only [zZ,zY,e3,e4,aA];rfl,⟨?_,⟨bf,bm⟩,hf,base.fly,has,base.links,by show [v3,v4].length<=101;simp,hdb,hdr,hft⟩,k4⟩;rw [aDv,show [v3,v4].length=2 from rfl];have a1:tot (.sl ti) [v3,v4]=2:=by rw [dK (t:=ti) rfl];rfl
  omega
 | false=>
 cases v2==(4:Int) with
 | true=>exact ⟨((as0,ls0),(dn,co),(cap0,res,us0),now,dead,fly,flows,box,(-1:Int)),c2,p2,h2,by simp only [zZ,zY,aA];rfl,⟨base.tot,⟨bf,bm⟩,hf,base.fly,has,base.links,base.dead,hdb,(by show (-1:Int)<=900000;decide),hft⟩,k2⟩
 | false=>
 cases v2==(5:Int) with
 | true=>
  refine ⟨((as0,ls0),(dn,co),(cap0,res,us0),now,dead,fly,flows,box++[((0:Int),(1:Int),(0:Int),[])],drop),c2,p2,h2,by simp only [zZ,zY,bMi,aA,aE (b:=48) (n:=box.length) (m:=1) (by decide) (by omega)];rfl,⟨?_,⟨bf,bm⟩,hf,base.fly,has,base.links,base.dead,hdb,hdr,hft⟩,k2⟩;rw [aDv,bEc rfl];omega
 | false=>
 cases v2==(6:Int) with
 | true=>
  by_cases hz:(flows.length:Int)>0
  .obtain ⟨v3,c3,p3,h3,e3,r3,k3⟩:=aM hl (n:=6) (by decide) (by decide) k2;have hg:flows[0]? =some (flows[0]'(by omega)):=cEb (by omega);refine ⟨((as0,ls0),(dn,co),(cap0,res,us0),now,dead,fly,flows.set 0 (pN (flows[0]'(by omega)) v3 (flows[0]'(by omega)).2.2.2.2.2.2.2.1),box,drop),c3,p3,h3,?_,⟨?_,⟨bf,fun f hf'=> ?_⟩,by show (flows.set 0 _).length<=4;rw [cFt];exact hf,base.fly,has,base.links,base.dead,hdb,hdr,hft⟩,k3⟩
   .simp only [zZ,zY,zX hz,e3,aA,show decide ((0:Int)<=(0:Int))=true from rfl,zX (show (0:Int)<(flows.length:Int) by omega),show (0:Int).toNat=0 from rfl,hg];rfl
   .rw [aDv];have a1:=aKy (t:=tFl) (y:=pN (flows[0]'(by omega)) v3 (flows[0]'(by omega)).2.2.2.2.2.2.2.1) hg;have a2:tot tFl (pN (flows[0]'(by omega)) v3 (flows[0]'(by omega)).2.2.2.2.2.2.2.1)=tot tFl (flows[0]'(by omega)):=rfl;omega
   .rcases cG0 (show f∈flows.set 0 _ from hf') with hf' | rfl
    .exact bm f hf'
    .have hm0:=bm _ (cEn hg);exact hm0
  .exact ⟨((as0,ls0),(dn,co),(cap0,res,us0),now,dead,fly,flows,box,drop),c2,p2,h2,by simp only [zZ,zY,zW hz,aA];rfl,base,k2⟩
 | false=>
 cases v2==(7:Int) with
 | true=>
  obtain ⟨v3,c3,p3,h3,e3,r3,k3⟩:=aM hl (n:=9) (by decide) (by decide) k2;refine ⟨((as0,ls0),(dn,co),(cap0,res,us0),now,dead,fly++[(v3,(0:Int),((0:Int),(0:Int),(0:Int),[],(0:Int),(0:Int),(0:Int),(0:Int),(0:Int),[]))],flows,box,drop),c3,p3,h3,by simp only [zZ,zY,e3,aA,aE (b:=128) (n:=fly.length) (m:=1) (by decide) (by omega)];rfl,⟨?_,⟨fun x hx=> ?_,bm⟩,hf,by show (fly++[_]).length<=151;simp;omega,has,base.links,base.dead,hdb,hdr,fun x hx=> ?_⟩,k3⟩
  .rw [aDv,bEc rfl];omega
  .rcases cEl.1 (show x∈fly++[_] from hx) with hx | hx
   .exact bf x hx
   .rw [cEk.1 hx];exact fun y hy=>(cE1 hy).elim
  .rcases cEl.1 (show x∈fly++[_] from hx) with hx | hx
   .exact hft x hx
   .rw [cEk.1 hx,aPb];exact cEt _
 | false=>exact ⟨((as0,ls0),(dn,co),(cap0,res,us0),now,dead,fly,flows,box,drop),c2,p2,h2,by simp only [zY,aA];rfl,base,k2⟩
theorem uN.out {t:den tTo} {B k d:Nat} {w:den tNw} (h:uN t B k d w) (hd:d<=900000):uN t (B+164) k (d+2) (bRj w):=by
 unfold bRj;split
 .exact h.mono (by omega) (cEr _) (by omega)
 .rename_i x l hf;have hx:x∈aR w:=by rw [hf];exact List.mem_cons_self ..
  have hs:cS w (uL w l):=⟨rfl,rfl,id,fun y hy=> .inl (by rw [hf];exact cEp _ hy),fun hn=>by
   rw [hf] at hn;show l.length<=150;simp only [cE8] at hn;omega⟩
  obtain ⟨k1,k2,k3⟩:=bP7 h.run.keep hf;have hk:=aS4 (r:=x.1) (inn:=x.2.1) (p:=x.2.2) k1 k3;refine ⟨h.run.step (hs.trans (cS.proc _ _ _ _)) hk,?_,?_,?_⟩
  .exact aNf (h.inv.same (w':=uL w l) rfl rfl rfl fun y hy=> .inl (by rw [hf];exact cEp _ hy)) (h.inv.good x hx)
  .exact cK.proc (n:=d) (w:=uL w l) (cK.eq h.drop rfl) (by omega) _ _ _
  .rw [aLr];exact h.dead
theorem uN.del {t:den tTo}: ∀ (n:Nat) {B k d:Nat} {w:den tNw},uN t B k d w->d+2 * n<=900000->uN t (B+n * 164) k (d+2 * n) (bGk n w)
 | 0,B,k,d,w,h,_=>h.mono (by omega) (cEr _) (by omega)
 | n+1,B,k,d,w,h,hd=>by
  unfold bGk;split
  .exact h.mono (by omega) (cEr _) (by omega)
  .exact (uN.del n (h.out (by omega)) (by omega)).mono (by rw [cE7];omega) (cEr _) (by omega)
theorem uN.tick {t:den tTo} {B k d:Nat} {w:den tNw} (h:uN t B k d w) (hk:k<=1000) (hd:d<=900000):uN t (B+656) (k+1) (d+8) (sJ w):=by
 refine ⟨aW2 h.run (by omega),aXl h.inv,?_,by rw [aS2];exact h.dead⟩;have hf:=h.run.keep.flows;unfold sJ;split
 .exact h.drop.mono (by omega)
 .refine cK.mono (n:=d+2 * (aD w).length) (cK.tickL (m:=0) (aD w).length 0 (n:=d) ?_ (by omega)) (by omega);exact cK.eq h.drop rfl
theorem uN.step {t:den tTo} {B k d:Nat} {w:den tNw} (h:uN t B k d w) (hk:k<=1000) (hd:d<=800000):uN t (B+328656) (k+1) (d+4008) (bGk 2000 (sJ w)):=
 ((h.tick hk (by omega)).del 2000 (by omega)).mono (by omega) (cEr _) (by omega)
def bSy (w:den tNw) (c:List Int) (p h:Int):lAS×lLk×lSg×lSg×Int×lRs×lUs×Int×lI×Int×lI×Int×Int×lFy×lFl×lIb:=
 ((nT w).1,(nT w).2,(nK w).1,(nK w).2,(nG w).1,(nG w).2.1,(nG w).2.2,aN w,aK w,cO w,c,p,h,aR w,aD w,bH w)
theorem bBq {code:List Int} (hl:code.length<=1048576) {most:Nat} (h0:0<most) (h1:most<=100): ∃ w c' p' h',qY code (most:Int)=some (bSy w c' p' h')/\aE4 w/\Cur code (c',p',h'):=by
 obtain ⟨c0,p0,h0',e0,k0⟩:=aUc hl;obtain ⟨w,c1,p1,h1',e1,hw,k1⟩:=bKr hl h0 h1 k0;refine ⟨w,c1,p1,h1',?_,hw,k1⟩;unfold qY pj3 aL aU aV bV eC fZ zz4 zz5 zz6 zz7 zz8 zz9;simp only [e0,e1,aA,bZ9];rfl
abbrev NxT:=Int×Int×Int×Int×Int×Int×Int×lPp×Int×Int×Int×Int×Int×lI×lI×lI×Int×Int
def aYg (w:den tNw) (y:NxT):q5:=
 (y.1,y.2.1,y.2.2.1,y.2.2.2.1,y.2.2.2.2.1,y.2.2.2.2.2.1,y.2.2.2.2.2.2.1,y.2.2.2.2.2.2.2.1,y.2.2.2.2.2.2.2.2.1,y.2.2.2.2.2.2.2.2.2.1,y.2.2.2.2.2.2.2.2.2.2.1,y.2.2.2.2.2.2.2.2.2.2.2.1,y.2.2.2.2.2.2.2.2.2.2.2.2.1,y.2.2.2.2.2.2.2.2.2.2.2.2.2.1,y.2.2.2.2.2.2.2.2.2.2.2.2.2.2.1,y.2.2.2.2.2.2.2.2.2.2.2.2.2.2.2.1,y.2.2.2.2.2.2.2.2.2.2.2.2.2.2.2.2.1,y.2.2.2.2.2.2.2.2.2.2.2.2.2.2.2.2.2,aR w,aD w,bH w)
theorem bBe {α β:Type} (f:α->β) (b:Bool) (x y:Option α):Option.map f (cond b x y)=cond b (Option.map f x) (Option.map f y):=by cases b<;>rfl
theorem aX5 {α β γ:Type} (f:β->γ) (o:Option α) (g:α->Option β):Option.map f (Option.bind o g)=Option.bind o fun x=>Option.map f (g x):=by cases o<;>rfl
theorem bK9 {α β γ:Type} (f:α->β) (o:Option α) (g:β->Option γ):Option.bind (Option.map f o) g=Option.bind o fun x=>g (f x):=by cases o<;>rfl
theorem bOz {α β:Type} (l:List α) (i:Int) (k:α->Option β):cond (decide ((0:Int)<=i)) (cond (decide (i<(l.length:Int))) (Option.bind l[i.toNat]? k) none) none=Option.bind (idx l i) k:=by
 by_cases h0:0<=i
 .rw [zX h0,zZ]
  by_cases h1:i<(l.length:Int)
  .rw [zX h1,zZ];unfold idx;simp [h0]
  .rw [zW h1,zY];unfold idx;have :l[i.toNat]? =none:=List.getElem?_eq_none (by omega);simp [h0,this]
 .rw [zW h0,zY];unfold idx;simp [h0]
theorem bVa (c:den gO) (w:den tNw):mF c w=Option.map (aYg w) (yA c w):=by
 unfold mF yA ixb aI pj3 pj4 cZ aL aU aV bV eC fZ nA zz4 zz5 zz6 zz7 zz8 zz9;simp only [bOz,aT,bF,aX,aY,bA,aX5,bBe,cF7,aYg]
theorem bYv (c:den gO) (w:den tNw):pJ c w=Option.map (aYg w) (tI c w):=by
 unfold pJ tI pj3 pj6 cZ aL aU aV bV eC fZ zz4 zz5 zz6 zz7 zz8 zz9;simp only [bVa,aT,bF,aX,aY,bA,aX5,bK9,bBe,cF7];rfl
def nx1 (e:den dC) (c:List Int) (p h:Int):NxT:=
 (e.1,e.2.1,e.2.2.2.1,e.2.2.2.2.1,e.2.2.2.2.2.1,e.2.2.2.2.2.2.1,e.2.2.2.2.2.2.2.1,e.2.2.2.2.2.2.2.2.1,e.2.2.2.2.2.2.2.2.2.1,e.2.2.2.2.2.2.2.2.2.2.1,e.2.2.2.2.2.2.2.2.2.2.2.1,e.2.2.2.2.2.2.2.2.2.2.2.2.1,e.2.2.2.2.2.2.2.2.2.2.2.2.2.1,e.2.2.1,e.2.2.2.2.2.2.2.2.2.2.2.2.2.2,c,p,h)
theorem bM4 {code:List Int} (hl:code.length<=1048576) {w:den tNw} (hw:bGn w) {c:List Int} {p h:Int} (hc:Cur code (c,p,h)): ∃ e c' p' h',tI (c,p,h) w=some (nx1 e c' p' h')/\EvS e/\Cur code (c',p',h'):=by
 obtain ⟨e,c1,p1,h1,e1,he,k1⟩:=bB0 hl hw hc;rw [bYv] at e1;obtain ⟨y,hy,hf⟩:=cE5.1 e1;refine ⟨e,c1,p1,h1,?_,he.s,k1⟩;rw [hy];obtain ⟨y1,y2,y3,y4,y5,y6,y7,y8,y9,y10,y11,y12,y13,y14,y15,y16,y17,y18⟩:=y;simp only [aYg,nxR,Prod.mk.injEq] at hf;obtain ⟨rfl,rfl,rfl,rfl,rfl,rfl,rfl,rfl,rfl,rfl,rfl,rfl,rfl,rfl,rfl,rfl,rfl,rfl,_⟩:=hf;rfl
noncomputable def cCk (w:den tNw) (i:Nat) (f:den tFl):den tNw:=dI w ((aD w).set i (aLx f (wO (nT w) (nK w) f.1 f.2.1 (aN w)) (aN w)))
noncomputable def aI8 (w:den tNw) (n:Int):Bool×den tNw:=match inR n 0 (((aD w).length:Int) - 1),(aD w)[n.toNat]? with
 | true,some f=>(true,cCk w n.toNat f)
 | _,_=>(false,w)
noncomputable def doX (w:den tNw) (e:den dC):Bool×den tNw:=if e.1==9 then aI8 w e.2.1 else doW w e
structure aOh (w:den tNw):Prop where
 as:(nT w).1.length<=1000000
 links:(nT w).2.length<=1000000
 db:DbS (nK w)
theorem aOh.find {w:den tNw} (h:aOh w) (a b now:Int):tot (.sl tPt) (wO (nT w) (nK w) a b now)<=100000/\(wO (nT w) (nK w) a b now).length<=24:=⟨cEa (aOd (aVg h.db a b now)) (by decide),(aVg h.db a b now).1⟩
theorem cBu {B F:Nat} {w:den tNw} {e:den dC} (hF:F<=1000) (hk:mB B F w) (hB:B+(F+1) * (160+F)<=536870912) (hd:SmB 4294967296 (.sl tb) e.2.2.1) (hp:tot tPk e.2.2.2.2.2<=34359738368) (hdead:xG (nT w).2.length (aK w)) (hf:aOh w):iV w e=some ((doX w e).1,cB (doX w e).2):=by
 unfold doX;cases c:e.1==(9:Int) with
 | false=>exact cC5 hF hk hB c hd hp hdead
 | true=>
  rw [zT rfl];obtain ⟨kd,n,data,to,ing,pk⟩:=e;have c:kd=(9:Int):=eq_of_beq c;subst c;have hB0:B<=536870912:=by have :=cEt ((F+1) * (160+F));omega
  have l1:w.2.2.2.2.2.1.length<=1073741824:=aPg hk (by omega);have l2:w.2.2.2.2.2.2.1.length<=1073741824:=cEa hk.flows (by omega);obtain ⟨n1,n2,n3⟩:=aFo hk (by omega);have l3:w.1.2.length<=1073741824:=n1.links;have w1:wr ((w.2.2.2.2.2.1.length:Int) - 1)=(w.2.2.2.2.2.1.length:Int) - 1:=fU (by omega);have w2:wr ((w.2.2.2.2.2.2.1.length:Int) - 1)=(w.2.2.2.2.2.2.1.length:Int) - 1:=fU (by omega);have w3:wr ((w.1.2.length:Int) - 1)=(w.1.2.length:Int) - 1:=fU (by omega);unfold iV aI8 ixb aI jX aOx pj2 pj3 pj9 cZ aL aU aV bV eC fZ nA pX sU tH wR aAa aBo aBr aAb zz4 zz5 zz6 zz7 zz8 zz9;simp only [w1,w2,w3,kM,aA,show ((9:Int)==1)=false from rfl,show ((9:Int)==2)=false from rfl,show ((9:Int)==3)=false from rfl,show ((9:Int)==4)=false from rfl,show ((9:Int)==5)=false from rfl,show ((9:Int)==6)=false from rfl,show ((9:Int)==7)=false from rfl,show ((9:Int)==8)=false from rfl,show ((9:Int)==9)=true from rfl,zY,zZ];cases hin:inR n 0 ((w.2.2.2.2.2.2.1.length:Int) - 1) with
  | false=>rfl
  | true=>
   obtain ⟨i,x,rfl,hx,hlt,hz⟩:=aGe l2 hin;have hx:(aD w)[i]? =some x:=hx;have hx':w.2.2.2.2.2.2.1[((i:Nat):Int).toNat]? =some x:=by rw [cEf];exact hx
   have hfx:tot tFl x<=536870912:=by
    have h1:=vW (t:=tFl) (cEn hx);have :=dX w;have :=hk.tot;omega
   obtain ⟨q1,q2⟩:=hf.find x.1 x.2.1 (aN w);have e1:sE (w.1.1,w.1.2) (w.2.1.1,w.2.1.2) x.1 x.2.1 w.2.2.2.1=some (wO (nT w) (nK w) x.1 x.2.1 (aN w)):=bW8 (t:=nT w) (k:=nK w) hf.as hf.links hf.db _ _ _;have e2:uU (x.1,x.2.1,x.2.2.1,x.2.2.2.1,x.2.2.2.2.1,x.2.2.2.2.2.1,x.2.2.2.2.2.2.1,x.2.2.2.2.2.2.2.1,x.2.2.2.2.2.2.2.2) (wO (nT w) (nK w) x.1 x.2.1 (aN w)) w.2.2.2.1=some _:=bX2 (f:=x) (by omega) (cEa q1 (by decide));have hlt2:decide (((i:Nat):Int).toNat<w.2.2.2.2.2.2.1.length)=true:=zX (by rw [cEf];exact (cEj.1 hx).1);simp only [cEc,zY,zZ,hlt,hz,hx',hlt2,aA,e1,e2,cFn];rfl
theorem cCr {B F:Nat} {w:den tNw} {e:den dC} (hF:F<=1000) (hk:mB B F w) (hB:B+(F+1) * (160+F)<=536870912) (hd:SmB 4294967296 (.sl tb) e.2.2.1) (hp:tot tPk e.2.2.2.2.2<=34359738368) (hf:aOh w):wT w e=some ((doX w e).1,cB (doX w e).2):=by
 unfold doX;cases c:e.1==(9:Int) with
 | false=>exact cAo hF hk hB c hd hp
 | true=>
  rw [zT rfl];obtain ⟨kd,n,data,to,ing,pk⟩:=e;have c:kd=(9:Int):=eq_of_beq c;subst c;have hB0:B<=536870912:=by have :=cEt ((F+1) * (160+F));omega
  have l1:w.2.2.2.2.2.1.length<=1073741824:=aPg hk (by omega);have l2:w.2.2.2.2.2.2.1.length<=1073741824:=cEa hk.flows (by omega);have w1:wr ((w.2.2.2.2.2.1.length:Int) - 1)=(w.2.2.2.2.2.1.length:Int) - 1:=fU (by omega);have w2:wr ((w.2.2.2.2.2.2.1.length:Int) - 1)=(w.2.2.2.2.2.2.1.length:Int) - 1:=fU (by omega);unfold wT aI8 aAp ixb aI jX aOx pj2 pj9 cZ aL aU aV bV eC fZ nA pX sU tH wR aAa aBo aBr aAb zz4 zz5 zz6 zz7 zz8 zz9;simp only [w1,w2,fQ,aA,show ((9:Int)==1)=false from rfl,show ((9:Int)==2)=false from rfl,show ((9:Int)==3)=false from rfl,show ((9:Int)==4)=false from rfl,show ((9:Int)==5)=false from rfl,show ((9:Int)==6)=false from rfl,show ((9:Int)==7)=false from rfl,show ((9:Int)==8)=false from rfl,show ((9:Int)==9)=true from rfl,zY,zZ];cases hin:inR n 0 ((w.2.2.2.2.2.2.1.length:Int) - 1) with
  | false=>rfl
  | true=>
   obtain ⟨i,x,rfl,hx,hlt,hz⟩:=aGe l2 hin;have hx:(aD w)[i]? =some x:=hx;have hx':w.2.2.2.2.2.2.1[((i:Nat):Int).toNat]? =some x:=by rw [cEf];exact hx
   have hfx:tot tFl x<=536870912:=by
    have h1:=vW (t:=tFl) (cEn hx);have :=dX w;have :=hk.tot;omega
   obtain ⟨q1,q2⟩:=hf.find x.1 x.2.1 (aN w);have e1:iW (w.1.1,w.1.2) (w.2.1.1,w.2.1.2) x.1 x.2.1 w.2.2.2.1=some (wO (nT w) (nK w) x.1 x.2.1 (aN w)):=bDq (t:=nT w) (k:=nK w) hf.as hf.links hf.db _ _ _;have e2:qG (x.1,x.2.1,x.2.2.1,x.2.2.2.1,x.2.2.2.2.1,x.2.2.2.2.2.1,x.2.2.2.2.2.2.1,x.2.2.2.2.2.2.2.1,x.2.2.2.2.2.2.2.2) (wO (nT w) (nK w) x.1 x.2.1 (aN w)) w.2.2.2.1=some _:=bM5 (f:=x) (by omega) (cEa q1 (by decide));have hlt2:decide (((i:Nat):Int).toNat<w.2.2.2.2.2.2.1.length)=true:=zX (by rw [cEf];exact (cEj.1 hx).1);simp only [cEc,zY,zZ,hlt,hz,hx',hlt2,aA,e1,e2];rfl
theorem bWz {m:Nat} {l:List Int} (h:(l.zipIdx 0).all (fun z=>tZ l m z.2 z.1)=true):xG m l:=by
 have hz:=(aC1 (tZ l m) l).1 h;have hr: ∀ n∈l,0<=n/\n<(m:Int):=fun n hn=>by
  obtain ⟨k,hk⟩:=cG4.1 hn;have :=hz k n hk;unfold tZ at this;rw [cEe] at this;have :=bQ.1 this.1;omega
 refine ⟨cGe.2 fun i j hi hj hij=> ?_,hr⟩;obtain ⟨d,rfl⟩: ∃ d,j=i+1+d:=⟨j - (i+1),by omega⟩
 induction d with
 | zero=>
  have :=hz (i+1) (l[i+1]'hj) (cEb hj);unfold tZ at this;rw [cEe,cFq,zR] at this;rcases this.2 with h0 | h0
  .omega
  .rw [show i+1 - 1=i by omega,cEb hi,cE3] at h0;have h0: ¬ (l[i]'hi>=l[i+1]'hj):=by simpa using h0
   exact Int.not_le.1 h0
 | succ d ih=>
  have h1:=ih (by omega) (by omega);have :=hz (i+1+(d+1)) (l[i+1+(d+1)]'hj) (cEb hj);unfold tZ at this;rw [cEe,cFq,zR] at this;rcases this.2 with h0 | h0
  .omega
  .rw [show i+1+(d+1) - 1=i+1+d by omega,cEb (by omega),cE3] at h0;have h0: ¬ (l[i+1+d]'(by omega)>=l[i+1+(d+1)]'hj):=by simpa using h0
   exact Int.lt_trans h1 (Int.not_le.1 h0)
theorem aE4.find {w:den tNw} (h:aE4 w):aOh w where
 as:=by have :=h.as;omega
 links:=by have :=h.links;omega
 db:=h.db.s (by decide)
theorem aE4.run {w:den tNw} (h:aE4 w) (hv:aJ3 w=true):rN (nT w) 303000 1000000 w/\xG (nT w).2.length (aK w)/\(0:Int)<=cO w:=by
 unfold aJ3 at hv;simp only [cEe,zR,cFg,decide_eq_false_iff_not] at hv;obtain ⟨h1,h2,h3,h4,h5,h6,h7,h8,h9,h10⟩:=hv;obtain ⟨a0,a1⟩:=bQ.1 h2;refine ⟨⟨⟨h.tot,h.flows,h.bytes⟩,rfl,bWt.1 h3,a0,?_,h.flyT,h5⟩,bWz h4,Int.not_lt.1 h8⟩;exact leI (cGu a1 (by decide))
noncomputable def oH (w:den tNw) (e:den dC):Bool×den tNw:=if aJ3 w then (if (doX w e).1 then doX w e else (false,w)) else (false,w)
theorem bD9 {w:den tNw} {e:den dC} (h:aE4 w) (hv:aJ3 w=true) (he:EvS e):tot tNw (doX w e).2<=1000000:=by
 unfold doX;split
 .unfold aI8;split
  .rename_i f hi hf;have h1:=aKy (t:=tFl) (y:=aLx f (wO (nT w) (nK w) f.1 f.2.1 (aN w)) (aN w)) hf;have h5:=aEr w ((aD w).set e.2.1.toNat (aLx f (wO (nT w) (nK w) f.1 f.2.1 (aN w)) (aN w)));have h6:=dX w;have h7:=h.tot;have h8:=bK5 f (wO (nT w) (nK w) f.1 f.2.1 (aN w)) (aN w);have h9:=(h.find.find f.1 f.2.1 (aN w)).1;have h10:tot tFl (aLx f (wO (nT w) (nK w) f.1 f.2.1 (aN w)) (aN w))<=tot tFl f+100000:=by
    generalize wO (nT w) (nK w) f.1 f.2.1 (aN w)=l at *;have hq:tot tFl (aLx f l (aN w))=tot (.sl tMs) f.2.2.2.2.1+tot (.sl tPt) (aE8 f l (aN w))+f.2.2.2.2.2.2.2.2.length:=aDz _ _ _ _ _ _ _ _ _;have hr:tot tFl f=tot (.sl tMs) f.2.2.2.2.1+tot (.sl tPt) f.2.2.2.2.2.1+f.2.2.2.2.2.2.2.2.length:=aDz _ _ _ _ _ _ _ _ _;omega
   show tot tNw (dI w _)<=_;omega
  .exact cEa h.tot (by decide)
 .have :=(aWc (e:=e) (h.run hv).1 (by decide) (by have :=h.links;omega) he).keep.tot;omega
theorem bY7 {w:den tNw} {e:den dC} (h:aE4 w) (he:EvS e):qD w e=some (bAh (oH w e).2 (oH w e).1):=by
 have ht:=h.tot;have e0:=bYw (w:=w) (by omega);have e1:=bE0 (w:=w) ((bC (show tot tNw w<=1073741824 by omega)).mono (by decide));unfold oH;cases hv:aJ3 w with
 | false=>
  rw [hv] at e0;obtain ⟨⟨as,ls⟩,⟨dn,co⟩,⟨cap,res,us⟩,now,dead,fly,flows,box,drop⟩:=w;unfold qD aI cZ aL aU aV bV zz4 zz5 zz6 zz7 zz8 zz9;simp only [e0,e1,aA,cEm,zZ,aNv,nT,nK,nG,aN,aK,aR,aD,bH,cO,cEg,zU];rfl
 | true=>
  rw [hv] at e0;obtain ⟨hR,hD,_⟩:=h.run hv;have e2:=cBu (w:=w) (e:=e) (F:=4) (B:=303000) (by decide) hR.keep (by decide) ⟨by have :=he.data.1;omega,fun x hx=>trivial⟩ (cEa he.pk.1 (by decide)) hD h.find;have ht':=bD9 h hv he;have e3:=bE0 (w:=(doX w e).2) ((bC (show tot tNw (doX w e).2<=1073741824 by omega)).mono (by decide));generalize doX w e=r at *;obtain ⟨b,w'⟩:=r;obtain ⟨⟨as,ls⟩,⟨dn,co⟩,⟨cap,res,us⟩,now,dead,fly,flows,box,drop⟩:=w;obtain ⟨⟨as',ls'⟩,⟨dn',co'⟩,⟨cap',res',us'⟩,now',dead',fly',flows',box',drop'⟩:=w';obtain ⟨kd,en,data,to,ing,k1,k2,k3,k4,k5,k6,k7,k8,k9,k10⟩:=e;unfold qD aI cZ aL aU aV bV zz4 zz5 zz6 zz7 zz8 zz9;simp only [aNv,cB,nT,nK,nG,aN,aK,aR,aD,bH,cO] at e1 e2 e3;simp only [e0,e1,aA,cEc,zY,e2,zV];cases b with
  | false=>simp only [cEm,zZ,e1,aA,cEg,zU];rfl
  | true=>simp only [cEc,zY,e3,aA,zV];rfl
theorem bZq {w:den tNw} {e:den dC} (h:aE4 w) (he:EvS e):qL w e=some (bTr (oH w e).2 (oH w e).1):=by
 have ht:=h.tot;have e0:=cAv (w:=w) (by omega);have e1:=aUt (w:=w) ((bC (show tot tNw w<=1073741824 by omega)).mono (by decide));unfold oH;cases hv:aJ3 w with
 | false=>
  rw [hv] at e0;obtain ⟨⟨as,ls⟩,⟨dn,co⟩,⟨cap,res,us⟩,now,dead,fly,flows,box,drop⟩:=w;unfold qL aI pj3 cZ aL aU aV bV zz4 zz5 zz6 zz7 zz8 zz9;simp only [e0,e1,aA,cEm,zZ,aNv,nT,nK,nG,aN,aK,aR,aD,bH,cO,cEg,zU];rfl
 | true=>
  rw [hv] at e0;obtain ⟨hR,hD,_⟩:=h.run hv;have e2:=cCr (w:=w) (e:=e) (F:=4) (B:=303000) (by decide) hR.keep (by decide) ⟨by have :=he.data.1;omega,fun x hx=>trivial⟩ (cEa he.pk.1 (by decide)) h.find;generalize doX w e=r at *;obtain ⟨b,w'⟩:=r;obtain ⟨⟨as,ls⟩,⟨dn,co⟩,⟨cap,res,us⟩,now,dead,fly,flows,box,drop⟩:=w;obtain ⟨⟨as',ls'⟩,⟨dn',co'⟩,⟨cap',res',us'⟩,now',dead',fly',flows',box',drop'⟩:=w';obtain ⟨kd,en,data,to,ing,k1,k2,k3,k4,k5,k6,k7,k8,k9,k10⟩:=e;unfold qL aI pj3 cZ aL aU aV bV zz4 zz5 zz6 zz7 zz8 zz9;simp only [aNv,cB,nT,nK,nG,aN,aK,aR,aD,bH,cO] at e1 e2;simp only [e0,e1,aA,cEc,zY,e2,zV];cases b with
  | false=>simp only [cEm,zZ,e1,aA,cEg,zU];rfl
  | true=>simp only [cEc,zY,aA,zV];rfl
theorem bC2 {w:den tNw} {e:den dC} (h:aE4 w):tot tNw (oH w e).2<=tot tNw (oH w e).2/\gL w (oH w e).2/\cO w<=cO (oH w e).2:=by
 refine ⟨cEr _,?_⟩;unfold oH;split
 .rename_i hv;obtain ⟨hR,hD,h0⟩:=h.run hv;split
  .unfold doX;split
   .unfold aI8;split
    .exact ⟨aFa w (cFt),cFh _⟩
    .exact ⟨gL.refl w,cFh _⟩
   .refine ⟨aY8 hR.lo,?_⟩;have hd:=h.drop;have hl:cK (cO w).toNat (cO w).toNat w:=⟨by omega,by omega⟩
    have :=(hl.event (e:=e) h.flows (by omega)).1;omega
  .exact ⟨gL.refl w,cFh _⟩
 .exact ⟨gL.refl w,cFh _⟩
theorem bGd {w:den tNw} {e:den dC} (h:aE4 w) (he:EvS e):tot tNw (oH w e).2<=1000000:=by
 unfold oH;split
 .rename_i hv;split
  .exact bD9 h hv he
  .exact cEa h.tot (by decide)
 .exact cEa h.tot (by decide)
theorem bM8 {w:den tNw} {e:den dC} (h:(oH w e).1=false):(oH w e).2=w:=by
 unfold oH at h ⊢;split
 .rename_i hv;rw [zT hv] at h;split
  .rename_i hb;rw [zT hb] at h;rw [h] at hb;cases hb
  .rfl
 .rfl
def apE (w:den tNw) (e:den dC):q13:=
 ((nT w).1,(nT w).2,(nK w).1,(nK w).2,(nG w).1,(nG w).2.1,(nG w).2.2,aN w,aK w,aR w,aD w,bH w,cO w,e.1,e.2.1,e.2.2.2.1,e.2.2.2.2.1,e.2.2.2.2.2.1,e.2.2.2.2.2.2.1,e.2.2.2.2.2.2.2.1,e.2.2.2.2.2.2.2.2.1,e.2.2.2.2.2.2.2.2.2.1,e.2.2.2.2.2.2.2.2.2.2.1,e.2.2.2.2.2.2.2.2.2.2.2.1,e.2.2.2.2.2.2.2.2.2.2.2.2.1,e.2.2.2.2.2.2.2.2.2.2.2.2.2.1,e.2.2.1,e.2.2.2.2.2.2.2.2.2.2.2.2.2.2)
theorem aX8 {code:List Int} (hl:code.length<=1048576): ∃ w e,lE code=some (apE w e)/\aE4 w/\EvS e:=by
 obtain ⟨w,c1,p1,h1,e1,hw,k1⟩:=bBq hl (most:=30) (by decide) (by decide);have e1:qY code (30:Int)=_:=e1;obtain ⟨e,c2,p2,h2,e2,he,k2⟩: ∃ e c' p' h',(cond (decide (((nT w).1.length:Int)>(0:Int))) (Option.bind (tI (c1,p1,h1) w) fun y=>some y) (some ((1:Int),(0:Int),(0:Int),(0:Int),(0:Int),(0:Int),(0:Int),[],(0:Int),(0:Int),(0:Int),(0:Int),(0:Int),[],[],c1,p1,h1)))=some (nx1 e c' p' h')/\EvS e/\Cur code (c',p',h'):=by
  by_cases hz:((nT w).1.length:Int)>0
  .obtain ⟨e,c2,p2,h2,e2,he,k2⟩:=bM4 hl (w:=w) ⟨by have :=hw.tot;omega,⟨by omega,hw.as⟩,by have :=hw.links;omega,by have :=hw.fly;omega,hw.flyT,hw.bytes.fly,hw.flows⟩ k1;exact ⟨e,c2,p2,h2,by rw [zX hz,e2];rfl,he,k2⟩
  .exact ⟨((1:Int),(0:Int),[],((0:Int),(0:Int),((0:Int),(0:Int),(0:Int),[],(0:Int),(0:Int),(0:Int),(0:Int),(0:Int),[]))),c1,p1,h1,by rw [zW hz];rfl,⟨⟨cEt _,fun x hx=>(cE1 hx).elim⟩,⟨by rw [aPb];exact cEt _,fun x hx=>(cE1 hx).elim⟩⟩,k1⟩
 obtain ⟨b3,c3,p3,h3,e3,k3⟩:=pR hl (n:=8) (by decide) (by decide) k2;obtain ⟨v4,c4,p4,h4,e4,r4,k4⟩:=aM hl (n:=11) (by decide) (by decide) k3;refine ⟨w,(cond b3 v4 e.1,e.2),?_,hw,⟨he.data,he.pk⟩⟩;have e2':(cond (decide (((nT w).1.length:Int)>(0:Int))) (Option.bind (tI (c1,p1,h1) w) fun y2=>some ((nT w).1,(nT w).2,(nK w).1,(nK w).2,(nG w).1,(nG w).2.1,(nG w).2.2,aN w,aK w,aR w,aD w,bH w,cO w,y2.1,y2.2.1,y2.2.2.1,y2.2.2.2.1,y2.2.2.2.2.1,y2.2.2.2.2.2.1,y2.2.2.2.2.2.2.1,y2.2.2.2.2.2.2.2.1,y2.2.2.2.2.2.2.2.2.1,y2.2.2.2.2.2.2.2.2.2.1,y2.2.2.2.2.2.2.2.2.2.2.1,y2.2.2.2.2.2.2.2.2.2.2.2.1,y2.2.2.2.2.2.2.2.2.2.2.2.2.1,y2.2.2.2.2.2.2.2.2.2.2.2.2.2.2.2.1,y2.2.2.2.2.2.2.2.2.2.2.2.2.2.2.2.2.1,y2.2.2.2.2.2.2.2.2.2.2.2.2.2.2.2.2.2,y2.2.2.2.2.2.2.2.2.2.2.2.2.2.1,y2.2.2.2.2.2.2.2.2.2.2.2.2.2.2.1)) (some ((nT w).1,(nT w).2,(nK w).1,(nK w).2,(nG w).1,(nG w).2.1,(nG w).2.2,aN w,aK w,aR w,aD w,bH w,cO w,(1:Int),(0:Int),(0:Int),(0:Int),(0:Int),(0:Int),(0:Int),[],(0:Int),(0:Int),(0:Int),(0:Int),(0:Int),c1,p1,h1,[],[])))=some ((nT w).1,(nT w).2,(nK w).1,(nK w).2,(nG w).1,(nG w).2.1,(nG w).2.2,aN w,aK w,aR w,aD w,bH w,cO w,e.1,e.2.1,e.2.2.2.1,e.2.2.2.2.1,e.2.2.2.2.2.1,e.2.2.2.2.2.2.1,e.2.2.2.2.2.2.2.1,e.2.2.2.2.2.2.2.2.1,e.2.2.2.2.2.2.2.2.2.1,e.2.2.2.2.2.2.2.2.2.2.1,e.2.2.2.2.2.2.2.2.2.2.2.1,e.2.2.2.2.2.2.2.2.2.2.2.2.1,e.2.2.2.2.2.2.2.2.2.2.2.2.2.1,c2,p2,h2,e.2.2.1,e.2.2.2.2.2.2.2.2.2.2.2.2.2.2):=by
  cases hz:decide (((nT w).1.length:Int)>(0:Int)) with
  | true=>
   rw [hz,zZ] at e2;rw [zZ];obtain ⟨y,hy,hyy⟩:=Option.bind_eq_some_iff.1 e2;rw [hy];have hyy:y=nx1 e c2 p2 h2:=Option.some.inj hyy;rw [hyy];rfl
  | false=>
   rw [hz,zY] at e2;rw [zY];have e2:=Option.some.inj e2;unfold nx1 at e2;simp only [Prod.mk.injEq] at e2;obtain ⟨a1,a2,a3,a4,a5,a6,a7,a8,a9,a10,a11,a12,a13,a14,a15,a16,a17,a18⟩:=e2;rw [<- a1,<- a2,<- a3,<- a4,<- a5,<- a6,<- a7,<- a8,<- a9,<- a10,<- a11,<- a12,<- a13,<- a14,<- a15,<- a16,<- a17,<- a18]
 have e5:(cond b3 (Option.bind (aB (c3,p3,h3) (11:Int)) fun y5=>some (y5.1,e.2.1,e.2.2.2.1,e.2.2.2.2.1,e.2.2.2.2.2.1,e.2.2.2.2.2.2.1,e.2.2.2.2.2.2.2.1,e.2.2.2.2.2.2.2.2.1,e.2.2.2.2.2.2.2.2.2.1,e.2.2.2.2.2.2.2.2.2.2.1,e.2.2.2.2.2.2.2.2.2.2.2.1,e.2.2.2.2.2.2.2.2.2.2.2.2.1,e.2.2.2.2.2.2.2.2.2.2.2.2.2.1)) (some (e.1,e.2.1,e.2.2.2.1,e.2.2.2.2.1,e.2.2.2.2.2.1,e.2.2.2.2.2.2.1,e.2.2.2.2.2.2.2.1,e.2.2.2.2.2.2.2.2.1,e.2.2.2.2.2.2.2.2.2.1,e.2.2.2.2.2.2.2.2.2.2.1,e.2.2.2.2.2.2.2.2.2.2.2.1,e.2.2.2.2.2.2.2.2.2.2.2.2.1,e.2.2.2.2.2.2.2.2.2.2.2.2.2.1)))=some (cond b3 v4 e.1,e.2.1,e.2.2.2.1,e.2.2.2.2.1,e.2.2.2.2.2.1,e.2.2.2.2.2.2.1,e.2.2.2.2.2.2.2.1,e.2.2.2.2.2.2.2.2.1,e.2.2.2.2.2.2.2.2.2.1,e.2.2.2.2.2.2.2.2.2.2.1,e.2.2.2.2.2.2.2.2.2.2.2.1,e.2.2.2.2.2.2.2.2.2.2.2.2.1,e.2.2.2.2.2.2.2.2.2.2.2.2.2.1):=by
  cases b3 with
  | true=>simp only [zZ,e4,aA]
  | false=>rfl
 unfold lE jX pj2 pj3 aL aU aV bV eC fZ nA pX sU tH wR aAa aBo aBr aAb aJ5 aN6 aM9 cAu cBg zz4 zz5 zz6 zz7 zz8 zz9;rw [e1,aA];refine Eq.trans (congrArg (fun o=>Option.bind o _) e2') ?_;simp only [e3,aA,aT,bF,aX,aY,bA];refine Eq.trans (congrArg (fun o=>Option.bind o _) e5) ?_;rfl
theorem bCp {code:List Int} (hl:code.length<=1048576): ∃ w,oV code=some (cAa w)/\aE4 w:=by
 obtain ⟨w,c1,p1,h1,e1,hw,k1⟩:=bBq hl (most:=20) (by decide) (by decide);have e1:qY code (20:Int)=_:=e1;refine ⟨w,?_,hw⟩;unfold oV pj3 bV zz4 zz5 zz6 zz7 zz8 zz9;simp only [e1,bSy,aA];rfl
theorem bB6 {code:List Int} (hl:code.length<=1048576): ∃ v,nP code=some v/\ ∃ y,yT v=some y/\yZ v=some y:=by
 obtain ⟨c0,p0,h0,e0,k0⟩:=aUc hl;obtain ⟨v,c1,p1,h1,e1,r1,k1⟩:=aM hl (n:=12) (by decide) (by decide) k0;refine ⟨v - 1,?_,?_⟩
 .unfold nP pj3;simp only [e0,e1,aA,bN (n:=v - 1) (by omega) (by omega)]
 .obtain ⟨n,rfl⟩:=cE0 r1.1;have hn:n<12:=by omega
  clear r1 e1;have :n=0\/n=1\/n=2\/n=3\/n=4\/n=5\/n=6\/n=7\/n=8\/n=9\/n=10\/n=11:=by omega
  rcases this with rfl | rfl | rfl | rfl | rfl | rfl | rfl | rfl | rfl | rfl | rfl | rfl<;>exact ⟨_,rfl,rfl⟩
def bUr (w:den tNw) (k:den tPk):q19:=
 ((nT w).1,(nT w).2,(nK w).1,(nK w).2,(nG w).1,(nG w).2.1,(nG w).2.2,aN w,aK w,cO w,7,0,0,0,k.1,k.2.1,k.2.2.1,k.2.2.2.2.1,k.2.2.2.2.2.1,k.2.2.2.2.2.2.1,k.2.2.2.2.2.2.2.1,k.2.2.2.2.2.2.2.2.1,aR w,aD w,bH w,k.2.2.2.1,k.2.2.2.2.2.2.2.2.2,[])
theorem aZe {code:List Int} (hl:code.length<=1048576): ∃ w k,oZ code=some (bUr w k)/\tot tNw w<=300000/\tot tPk k<=1100:=by
 obtain ⟨c0,p0,h0,e0,k0⟩:=aUc hl;obtain ⟨v,l,w,c1,p1,h1,e1,hv,hr,hn,k1⟩:=aXk hl (most:=20) (by decide) (by decide) k0;have e1:qH (c0,p0,h0) (20:Int)=_:=e1;have hR:=hr.run hv (by omega);have ht:tot tNw w<=300000:=cEa hR.keep.tot (by omega);have hf:=hR.keep.flows;obtain ⟨as,ls,k,c2,p2,h2,e2,hk,_,k2⟩:=bEd hl k1;have hkt:=bPu hk;obtain ⟨b3,c3,p3,h3,e3,k3⟩:=pR hl (n:=2) (by decide) (by decide) k2;unfold oZ ixb pj3 pj8 aL aU aV bV eC fZ nA pX sU tH wR aAa zz4 zz5 zz6 zz7 zz8 zz9;simp only [e0,e1,e2,e3,aA,aT,bF,aX,aY,bA]
 by_cases hz:((aD w).length:Int)>0
 .simp only [zX hz,zZ,aA];cases b3 with
  | true=>
   have hx:(aD w)[(0:Int).toNat]? =some ((aD w)[0]'(by omega)):=cEb (by omega);refine ⟨w,(k.1,((aD w)[0]'(by omega)).1,((aD w)[0]'(by omega)).2.1,k.2.2.2),?_,ht,?_⟩
   .simp only [zZ,show decide ((0:Int)<=(0:Int))=true from rfl,zX (show (0:Int)<((aD w).length:Int) from hz),hx,aA];rfl
   .have e:tot tPk (k.1,((aD w)[0]'(by omega)).1,((aD w)[0]'(by omega)).2.1,k.2.2.2)=tot tPk k:=rfl;omega
  | false=>exact ⟨w,k,rfl,ht,by omega⟩
 .simp only [zW hz,zY,aA];exact ⟨w,k,rfl,ht,by omega⟩
theorem bLo {k:den tDb} (h:DbS k):mV k k=some true:=by
 unfold mV;simp only [aJs (l:=k.1) (by have :=h.down;omega) (fun s hs=>by have :=h.hd1 s hs;omega),aJs (l:=k.2) (by have :=h.core;omega) (fun s hs=>by have :=h.hc1 s hs;omega),aA,zZ]
end Go.Proofs.YtcppmcbkokgfcaaGreat
