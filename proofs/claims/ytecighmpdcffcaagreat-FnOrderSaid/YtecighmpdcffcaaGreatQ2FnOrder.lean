/-
  Facts and plain laws: what the functions compute, in plain words. Conditions: as each says.
-/
import Derived.Test.YtecighmpdcffcaaGreatQ1FnOrder
open List renaming mem_append→bW5,mem_of_mem_take→bYe,mem_of_getElem?→bW6,mem_singleton→bW3,mem_map→bW0,mem_filter→bXc,getElem?_eq_some_iff→bW1,pairwise_iff_getElem→bYp,getElem?_eq_getElem→bWu,all_eq_true→bXk,length_map→bXz,getElem?_map→bY2,length_append→bXp,mem_cons→bWz,mem_cons_of_mem→bW8,append_nil→bX1,length_set→bYl,getElem?_set_self→bY7,getElem?_set_ne→bZn
open Bool renaming and_eq_true→bWw,or_eq_true→bYa,not_eq_true'→bXx,false_eq_true→bW2,not_true→bWx,not_false→bW7,or_self→bYm
open Nat renaming zero_le→bXf,le_trans→bWv
open Int renaming le_refl→bX3,toNat_natCast→bW4
set_option linter.unusedVariables false
set_option linter.unusedSimpArgs false
set_option maxRecDepth 100000
namespace Go.Proofs.YtecighmpdcffcaaGreat
open Go.Ab Go.V

theorem bOs {t:den tTo} {w:den tNw} {e:den fZ} (h:dM t w) (hb: ∀ x∈aR w,fY x.2.2) (hp:fY e.2.2.2.2.2) (hh:harm w e=true):dM t (doW w e).2:=by
 have bQ: ∀ i,dM t (tP w i):=fun i=>h.same (w':=tP w i) rfl rfl rfl fun y hy=> .inl (by
  rcases bW5.1 (show y∈(aR w).take i++(aR w).drop (i+1) from hy) with hy | hy
  ·exact bYe hy
  ·exact List.mem_of_mem_drop hy)
 unfold doW
 split
 ·exact bFf h
 ·split
  ·split
   ·rename_i x hi hx
    exact aSs (bQ _) (h.good x (bW6 hx))
   ·exact h
  ·split
   ·split
    ·exact (bQ _).drop
    ·exact h
   ·split
    ·split
     ·rename_i x hi hx
      have hm:=bW6 hx
      refine ⟨h.top,h.lenB,h.flow,h.uniq,fun y hy=> ?_,fun y hy=> ?_⟩
      ·rcases bW5.1 (show y∈aR w++[x] from hy) with hy | hy
       ·exact h.good y hy
       ·rw [bW3.1 hy];exact h.good x hm
      ·rcases bW5.1 (show y∈aR w++[x] from hy) with hy | hy
       ·exact h.to y hy
       ·rw [bW3.1 hy];exact h.to x hm
     ·exact h
    ·split
     ·show dM t (tM w e.2.1 (e.1==5))
      unfold tM
      split
      ·exact h
      ·exact h.same rfl rfl rfl fun y hy=> .inl hy
     ·split
      ·rename_i h7
       split
       ·rename_i hc
        rw [bWw] at hc
        have hgd:=bGk h hb hp h7 hh
        refine ⟨h.top,h.lenB,h.flow,h.uniq,fun y hy=> ?_,fun y hy=> ?_⟩
        ·rcases bW5.1 (show y∈aR w++[e.2.2.2] from hy) with hy | hy
         ·exact h.good y hy
         ·rw [bW3.1 hy];exact hgd
        ·rcases bW5.1 (show y∈aR w++[e.2.2.2] from hy) with hy | hy
         ·exact h.to y hy
         ·rw [bW3.1 hy,← h.top];exact hc.1
       ·exact h
      ·split
       ·split
        ·rename_i f hi hf
         exact bQg h hf
        ·exact h
       ·exact h

def cK (n:Nat) (w:den tNw):Prop:=(0:Int)<=dW w∧(n:Int)>=dW w

theorem cK.mono {n m:Nat} {w:den tNw} (h:cK n w) (hm:n<=m):cK m w:=⟨h.1,by have :=h.2;omega⟩

theorem cK.eq {n:Nat} {w w':den tNw} (h:cK n w) (e:dW w'=dW w):cK n w':=by
 unfold cK
 rw [e]
 exact h

theorem cK.drop {n:Nat} {w:den tNw} (h:cK n w) (hn:n<=1000000):cK (n+1) (zO w):=by
 obtain ⟨h0,h1⟩:=h
 have e:wr (dW w+1)=dW w+1:=bI (by omega) (by omega)
 exact ⟨by show (0:Int)<=wr (dW w+1);omega,by show ((n+1:Nat):Int)>=wr (dW w+1);omega⟩

theorem cK.send {n:Nat} {w:den tNw} (h:cK n w) (hn:n<=1000000) (r eg:Int) (p:den tPk):cK (n+1) (oX w r eg p):=by
 unfold oX
 split
 ·exact h.mono (Nat.le_succ _)
 ·exact h.drop hn

theorem cK.proc0 {n:Nat} {w:den tNw} (h:cK n w) (hn:n<=1000000) (r inn:Int) (p:den tPk):cK (n+1) (proc0 w r inn p):=by
 unfold Go.Proofs.YtecighmpdcffcaaGreat.proc0
 split
 ·exact h.send hn _ _ _
 ·split
  ·exact cK.mono (n:=n) (h.eq rfl) (Nat.le_succ _)
  ·exact h.drop hn

theorem cK.proc {n:Nat} {w:den tNw} (h:cK n w) (hn:n<=999999) (r inn:Int) (p:den tPk):cK (n+2) (fC w r inn p):=by
 unfold fC
 split
 ·exact (h.send (by omega) _ _ _).mono (by omega)
 ·split
  ·split
   ·unfold xS
    split
    ·exact h.mono (by omega)
    ·split
     ·refine cK.mono (n:=n+1) (cK.proc0 (n:=n) ?_ (by omega) _ _ _) (by omega)
      exact cK.eq h rfl
     ·exact cK.mono (n:=n) (h.eq rfl) (by omega)
   ·exact cK.mono (n:=n) (h.eq rfl) (by omega)
  ·split
   ·unfold aB8
    split
    ·exact (h.proc0 (by omega) _ _ _).drop (by omega)
    ·refine cK.mono (n:=n+1) (cK.drop (n:=n) ?_ (by omega)) (by omega)
     exact cK.eq h rfl
   ·exact (h.drop (by omega)).mono (by omega)

theorem cK.stepT {n:Nat} {w:den tNw} (h:cK n w) (hn:n<=999999) (k:Nat):cK (n+2) (stepT k w):=by
 unfold Go.Proofs.YtecighmpdcffcaaGreat.stepT
 split
 ·split
  ·refine cK.proc (n:=n) ?_ hn _ _ _
   exact cK.eq h rfl
  ·exact cK.mono (n:=n) (h.eq rfl) (by omega)
 ·exact h.mono (by omega)

theorem cK.tickL {m:Nat}: ∀ (m k:Nat) {n:Nat} {w:den tNw},cK n w→n+2 * m<=999999→cK (n+2 * m) (tickL k m w)
 | 0,_,_,_,h,_=>h
 | m+1,k,n,w,h,hn=>by
  unfold Go.Proofs.YtecighmpdcffcaaGreat.tickL
  exact (cK.tickL (m:=0) m (k+1) (h.stepT (by omega) k) (by omega)).mono (by omega)

theorem cK.event {n:Nat} {w:den tNw} {e:den fZ} (h:cK n w) (hf:(aB w).length<=4) (hn:n<=900000):cK (n+8) (doW w e).2:=by
 have same:cK (n+8) w:=h.mono (by omega)
 unfold doW
 split
 ·show cK (n+8) (pP w)
  unfold pP
  split
  ·exact same
  ·refine cK.mono (n:=n+2 * (aB w).length) (cK.tickL (m:=0) (aB w).length 0 (n:=n) ?_ (by omega)) (by omega)
   exact cK.eq h rfl
 ·split
  ·split
   ·refine cK.mono (n:=n+2) (cK.proc (n:=n) ?_ (by omega) _ _ _) (by omega)
    exact cK.eq h rfl
   ·exact same
  ·split
   ·split
    ·refine cK.mono (n:=n+1) (cK.drop (n:=n) ?_ (by omega)) (by omega)
     exact cK.eq h rfl
    ·exact same
   ·split
    ·split
     ·exact same
     ·exact same
    ·split
     ·show cK (n+8) (tM w e.2.1 (e.1==5))
      unfold tM
      split
      ·exact same
      ·exact same
     ·split
      ·split
       ·exact same
       ·exact same
      ·split
       ·split
        ·exact same
        ·exact same
       ·exact same

def aAg (m:Nat) (l:List Int):Prop:=l.Pairwise (fun a b=>a<b)∧ ∀ n∈l,0<=n∧n<(m:Int)

theorem aLs (m:Nat) (dead:List Int) (i:Int) (b:Bool):aAg m (rA m dead i b):=by
 unfold rA
 refine ⟨List.Pairwise.filter _ (List.pairwise_map.2 (List.pairwise_lt_range.imp fun h=>by omega)),fun n hn=> ?_⟩
 obtain ⟨k,hk,rfl⟩:=bW0.1 (bXc.1 hn).1
 have :=List.mem_range.1 hk
 exact ⟨by omega,by omega⟩

theorem aAg.all {m:Nat} {l:List Int} (h:aAg m l):(l.zipIdx 0).all (fun z=>aGe l m z.2 z.1)=true:=by
 refine (aCu (aGe l m) l).2 fun k n hn=> ?_
 unfold aGe
 have hm:=h.2 n (bW6 hn)
 rw [bWw,bYa,zR]
 refine ⟨bJ.2 ⟨hm.1,by omega⟩,?_⟩
 by_cases h0:k=0
 ·exact .inl h0
 ·right
  obtain ⟨hk,e⟩:=bW1.1 hn
  have :=(bYp.1 h.1) (k - 1) k (by omega) hk (by omega)
  rw [bWu (show k - 1<l.length by omega),Option.getD_some]
  rw [e] at this
  rw [zW (show ¬ (l[k - 1]'(by omega)>=n) by omega)]
  rfl

theorem aOs (w:den tNw) (r eg:Int) (p:den tPk):aJ (oX w r eg p)=aJ w:=by unfold oX;split<;>rfl

theorem aOp (w:den tNw) (r inn:Int) (p:den tPk):aJ (proc0 w r inn p)=aJ w:=by
 unfold proc0
 split
 ·exact aOs _ _ _ _
 ·split<;>rfl

theorem bDf (w:den tNw):aJ (zO w)=aJ w:=rfl

theorem aOi (w:den tNw) (r inn:Int) (p:den tPk):aJ (fC w r inn p)=aJ w:=by
 unfold fC
 split
 ·exact aOs _ _ _ _
 ·split
  ·split
   ·unfold xS
    split
    ·rfl
    ·split
     ·refine Eq.trans (aOp _ _ _ _) ?_
      rfl
     ·rfl
   ·rfl
  ·split
   ·unfold aB8
    split
    ·rw [bDf]
     exact aOp _ _ _ _
    ·rfl
   ·rfl

theorem bDn (k:Nat) (w:den tNw):aJ (stepT k w)=aJ w:=by
 unfold stepT
 split
 ·split
  ·rename_i f hf hb
   exact aOi (cT w ((aB w).set k (aF f).1)) _ _ _
  ·rfl
 ·rfl

theorem aO0: ∀ (n k:Nat) (w:den tNw),aJ (tickL k n w)=aJ w
 | 0,_,_=>rfl
 | n+1,k,w=>by
  unfold tickL
  exact (aO0 n (k+1) (stepT k w)).trans (bDn k w)

theorem bB3 (w:den tNw):aJ (pP w)=aJ w:=by
 unfold pP
 split
 ·rfl
 ·exact aO0 (aB w).length 0 (aEl w)

theorem bIa {w:den tNw} {e:den fZ} (h:aAg (nT w).2.length (aJ w)):aAg (nT w).2.length (aJ (doW w e).2):=by
 unfold doW
 split
 ·show aAg _ (aJ (pP w));rw [bB3];exact h
 ·split
  ·split
   ·show aAg _ (aJ (fC _ _ _ _));rw [aOi];exact h
   ·exact h
  ·split
   ·split<;>exact h
   ·split
    ·split<;>exact h
    ·split
     ·show aAg _ (aJ (tM w e.2.1 (e.1==5)))
      unfold tM
      split
      ·exact h
      ·exact aLs _ _ _ _
     ·split
      ·split<;>exact h
      ·split
       ·split<;>exact h
       ·exact h

theorem aMy: ∀ l:lMs,yX l l=true
 | []=>rfl
 | x::l=>by
  show (aIy x x&&yX l l)=true
  rw [aMy l,Bool.and_true]
  unfold aIy
  exact beq_self_eq_true _

theorem vX.ok {t:den tTo} {f:den tFl} {x:den tIb} (h:vX t f x):xOk x=true∧aFe f x=true:=by
 have hv:=(nJ f).1 h.val
 obtain ⟨q1,q2,q3,q4,q5,q6,q7,q8,q9,q10,q11,q12⟩:=hv
 have hl:=h.len
 have hn:=h.next
 constructor
 ·unfold xOk
  simp only [bWw,bXx,beq_eq_false_iff_ne,beq_iff_eq,zR,bXk]
  refine ⟨by rw [h.xAS];exact q2,by rw [h.xFrom];exact q1,fun e=>q3 (by rw [← h.xAS,← h.xFrom];exact e.symm),hn,?_,fun m hm=> ?_⟩
  ·show (20:Int)>=x.2.2.1
   rw [hn];omega
  ·have hm':m∈f.2.2.2.2.1:=by
    rw [h.recv] at hm
    exact bYe hm
   exact q8 m hm'
 ·unfold aFe
  simp only [bWw,beq_iff_eq,zR]
  refine ⟨h.xAS,h.xFrom,hl,?_,h.ack⟩
  rw [← aHo,← h.recv]
  exact aMy _


structure aBz (t:den tTo) (k:Nat) (w:den tNw):Prop where
 run:rJ t (1000+2000 * k) k w
 inv:dM t w
 drop:cK (8 * k) w
 dead:aAg t.2.length (aJ w)

theorem aBz.valid {t:den tTo} {k:Nat} {w:den tNw} (h:aBz t k w) (hk:k<=1000) (ht:aBy t=true):bC3 w=true:=by
 have htop:w.1=t:=h.run.top
 have hlo:=leI h.run.lo
 have hhi:=leI h.run.hi
 have hd:=h.drop.1
 have hfl:w.2.2.2.2.2.2.1.length<=4:=h.run.keep.flows
 have hfy:w.2.2.2.2.2.1.length<=150:=h.run.flyN
 unfold bC3
 simp only [bWw,zR,bXx,decide_eq_false_iff_not,bXk]
 refine ⟨by rw [htop];exact ht,bJ.2 ⟨hlo,leI (Int.le_trans hhi (by omega))⟩,bPr.2 h.run.gate,?_,hfy,hfl,h.inv.lenB,?_,fun x hx=>by rw [htop];exact h.inv.to x hx,?_⟩
 ·have :=(aAg.all h.dead)
  rw [bXk] at this
  rw [htop]
  exact this
 ·show ¬ ((dW w:Int)<0)
  omega
 ·have :(w.2.2.2.2.2.2.1.zipIdx 0).all (fun z=>aGy w z.2 z.1&&aGv w z.2 z.1)=true:=by
   refine (aCu (fun k f=>aGy w k f&&aGv w k f) _).2 fun j f hf=> ?_
   have hj:=(bW1.1 hf).1
   have hb:j<(aU w).length:=by rw [h.inv.lenB];exact hj
   have hx:(aU w)[j]? =some (aU w)[j]:=bWu hb
   have hfi:=h.inv.flow j f _ hf hx
   obtain ⟨o1,o2⟩:=hfi.ok
   rw [bWw]
   constructor
   ·unfold aGy
    rw [show w.2.2.2.2.2.2.2.1[j]? =some (aU w)[j] from hx]
    simp only [bWw]
    exact ⟨hfi.val,by rw [htop];exact hfi.src,by rw [htop];exact hfi.dst,o1,o2⟩
   ·unfold aGv
    rw [bXk]
    intro g hg
    obtain ⟨i,hi,hg⟩:=aGr hg
    obtain ⟨hi',ei⟩:=bW1.1 hg
    obtain ⟨hj',ej⟩:=bW1.1 hf
    have :=(bYp.1 h.inv.uniq) i j hi' hj' hi
    have e1:(aB w)[i]=g:=ei
    have e2:(aB w)[j]=f:=ej
    rw [e1,e2] at this
    rw [this];rfl
  rw [bXk] at this
  intro z hz
  have :=this z hz
  rw [bWw] at this
  exact this

theorem yD.runV {v:den tNw} (h:yD 3 v):aBz (nT v) 0 v where
 run:=h.run
 inv:=by
  refine ⟨rfl,by rw [h.box,bXz],fun k f x hf hx=> ?_,h.uniq,fun y hy=>(by rw [h.fly] at hy;cases hy),fun y hy=>(by rw [h.fly] at hy;cases hy)⟩
  have hm:=bW6 hf
  have hF:=h.flows f hm
  rw [h.box,bY2,hf] at hx
  have hx:some ((f.2.1,f.1,0,[]):den tIb)=some x:=hx
  injection hx with hx
  subst hx
  exact ⟨hF.val,hF.src,hF.dst,rfl,rfl,rfl,rfl,bXf _,by rw [hF.ack];exact bX3 _,hF.ends⟩
 drop:=⟨by rw [h.drop];decide,by rw [h.drop];decide⟩
 dead:=by rw [h.dead];exact ⟨List.Pairwise.nil,fun n hn=>(List.not_mem_nil hn).elim⟩

theorem aBz.event {t:den tTo} {k:Nat} {w:den tNw} {e:den fZ} (h:aBz t k w) (hk:k<=1000) (ht:t.2.length<=100) (he:EvD w e):aBz t (k+1) (doW w e).2 where
 run:=(aYv h.run hk ht he).mono (by omega) (Nat.le_refl _)
 inv:=bOs h.inv h.run.keep.bytes.fly he.pk.2 he.harm
 drop:=(h.drop.event h.run.keep.flows (by omega)).mono (by omega)
 dead:=by
  have :=bIa (w:=w) (e:=e) (by rw [h.run.top];exact h.dead)
  rw [h.run.top] at this
  exact this

theorem Ran.runV {v:den tNw} (hv:yD 3 v) {l:lN} {w:den tNw} (h:Ran v l w):l.length<=1000→aBz (nT v) l.length w:=by
 induction h with
 | nil=>intro _;exact hv.runV
 | snoc h he ih=>
  intro hl
  simp only [bXp,List.length_singleton] at hl ⊢
  exact (ih (by omega)).event (by omega) hv.top.links he

theorem aQm: ∀ {a b:List Int},a.Pairwise (fun x y=>x<y)→b.Pairwise (fun x y=>x<y)→(∀ x,x∈a↔x∈b)→a=b
 | [],[],_,_,_=>rfl
 | [],y::b,_,_,h=>absurd ((h y).2 (by simp)) (by simp)
 | x::a,[],_,_,h=>absurd ((h x).1 (by simp)) (by simp)
 | x::a,y::b,ha,hb,h=>by
  rw [List.pairwise_cons] at ha hb
  have hxy:x=y:=by
   rcases bWz.1 ((h x).1 (by simp)) with e | e
   ·exact e
   ·rcases bWz.1 ((h y).2 (by simp)) with e' | e'
    ·exact e'.symm
    ·have h1:=ha.1 y e'
     have h2:=hb.1 x e
     omega
  subst hxy
  rw [aQm ha.2 hb.2 fun z=> ?_]
  constructor
  ·intro hz
   have :=ha.1 z hz
   rcases bWz.1 ((h z).1 (bW8 _ hz)) with e | e
   ·omega
   ·exact e
  ·intro hz
   have :=hb.1 z hz
   rcases bWz.1 ((h z).2 (bW8 _ hz)) with e | e
   ·omega
   ·exact e

theorem bP1 {l:List Int} {n:Int} (h:l.Pairwise fun x y=>x<y):(oU l n).Pairwise fun x y=>x<y:=by
 unfold oU
 split
 ·exact h
 ·rename_i hne
  have hlt: ∀ x∈l.take (jT l n),x<n:=fun x hx=>by
   obtain ⟨i,hi,he⟩:=aGr hx
   obtain ⟨hil,e⟩:=bW1.1 he
   have :=List.not_of_lt_findIdx (p:=fun x=> !decide (x<n)) (xs:=l) (show i<l.findIdx _ from hi)
   rw [e] at this
   simpa using this
  have hgt: ∀ x∈l.drop (jT l n),n<x:=fun x hx=>by
   obtain ⟨i,he⟩:=List.mem_iff_getElem?.1 hx
   rw [List.getElem?_drop] at he
   obtain ⟨hil,e⟩:=bW1.1 he
   have hp:jT l n<l.length:=by omega
   have h1:=List.findIdx_getElem (p:=fun x=> !decide (x<n)) (xs:=l) (w:=hp)
   have h1: ¬ (l[jT l n]'hp<n):=by
    have h1:(!decide (l[jT l n]'hp<n))=true:=h1
    simpa using h1
   have h2:l[jT l n]'hp≠n:=fun e'=>hne (by rw [bWu hp,e'])
   by_cases hi0:i=0
   ·subst hi0
    have e:l[jT l n]'hp=x:=e
    omega
   ·have :=(bYp.1 h) (jT l n) (jT l n+i) hp hil (by omega)
    rw [e] at this
    omega
  rw [List.append_assoc,List.pairwise_append]
  refine ⟨h.sublist (List.take_sublist _ _),?_,fun x hx y hy=> ?_⟩
  ·rw [List.singleton_append,List.pairwise_cons]
   exact ⟨hgt,h.sublist (List.drop_sublist _ _)⟩
  ·rcases bW5.1 hy with hy | hy
   ·rw [bW3.1 hy];exact hlt x hx
   ·have :=hlt x hx
    have :=hgt y hy
    omega

theorem aUs {l:List Int} {n:Int}:nQ l n=true↔n∈l:=by
 unfold nQ
 rw [bXx,List.all_eq_false]
 constructor
 ·rintro ⟨x,hx,e⟩
  have :x=n:=by simpa using e
  rw [← this];exact hx
 ·intro h
  exact ⟨n,h,by simp⟩

theorem aS2 {m:Nat} {dead:List Int} {i x:Int} {b:Bool}:x∈rA m dead i b↔(0<=x∧x<(m:Int))∧((x∈dead∧x≠i)∨(b=true∧x=i)):=by
 unfold rA
 rw [bXc]
 constructor
 ·rintro ⟨h1,h2⟩
  obtain ⟨k,hk,rfl⟩:=bW0.1 h1
  have :=List.mem_range.1 hk
  simp only [bYa,bWw,bne_iff_ne,beq_iff_eq] at h2
  exact ⟨⟨by omega,by omega⟩,h2.imp (fun h=>⟨aUs.1 h.1,h.2⟩) id⟩
 ·rintro ⟨⟨h1,h2⟩,h3⟩
  obtain ⟨k,rfl⟩:=Int.eq_ofNat_of_zero_le h1
  refine ⟨bW0.2 ⟨k,List.mem_range.2 (by omega),rfl⟩,?_⟩
  simp only [bYa,bWw,bne_iff_ne,beq_iff_eq]
  exact h3.imp (fun h=>⟨aUs.2 h.1,h.2⟩) id

theorem bGl {m:Nat} {dead:List Int} {i:Int} (h:aAg m dead) (hi:0<=i∧i<(m:Int)):oU dead i=rA m dead i true:=by
 refine aQm (bP1 h.1) (aLs m dead i true).1 fun x=> ?_
 rw [aS2]
 constructor
 ·intro hx
  rcases aC5 hx with rfl | hx
  ·exact ⟨hi,.inr ⟨rfl,rfl⟩⟩
  ·by_cases e:x=i
   ·subst e;exact ⟨hi,.inr ⟨rfl,rfl⟩⟩
   ·exact ⟨h.2 x hx,.inl ⟨hx,e⟩⟩
 ·rintro ⟨_,⟨hx,_⟩ | ⟨_,rfl⟩⟩
  ·exact aCy hx
  ·exact aGl _ _

theorem bEm {m:Nat} {dead:List Int} {i:Int} (h:aAg m dead):(dead.filter fun x=>x != i)=rA m dead i false:=by
 refine aQm (h.1.filter _) (aLs m dead i false).1 fun x=> ?_
 rw [aS2,bXc]
 constructor
 ·rintro ⟨hx,e⟩
  exact ⟨h.2 x hx,.inl ⟨hx,by simpa using e⟩⟩
 ·rintro ⟨_,⟨hx,e⟩ | ⟨e,_⟩⟩
  ·exact ⟨hx,by simpa using e⟩
  ·cases e

theorem bFh {w:den tNw} {i:Nat} {x:den tFy} (hx:(aR w)[i]? =some x) (hl:(aR w).length<=1073741824):mR w (i:Int)=some (bOc x (tP w i)):=by
 have hlt:i<(aR w).length:=(bW1.1 hx).1
 have hx:w.2.2.2.2.2.1[((i:Nat):Int).toNat]? =some x:=by rw [bW4];exact hx
 have h1:decide ((i:Int)<(w.2.2.2.2.2.1.length:Int))=true:=zX (by have :i<w.2.2.2.2.2.1.length:=hlt;omega)
 have e1:wr ((i:Int)+1)=((i+1:Nat):Int):=(wri (by omega) (by omega)).trans (by omega)
 have h2:bY ((i+1:Nat):Int) (w.2.2.2.2.2.1.length:Int) (w.2.2.2.2.2.1.length:Int)=true:=yQ (show i+1<=w.2.2.2.2.2.1.length from hlt)
 have h3:bY (0:Int) (i:Int) (w.2.2.2.2.2.1.length:Int)=true:=aHu (k:=i) (Nat.le_of_lt hlt)
 have hl:w.2.2.2.2.2.1.length<=1073741824:=hl
 unfold mR ixb aI aW bR zz4 zz5 zz6 zz7 zz8 zz9
 simp only [h1,hx,aA,zZ,e1,h2,h3,gN,aCw,List.nil_append,aD (b:=128) (n:=([]:lFy).length) (m:=(w.2.2.2.2.2.1.take i).length) (by decide) (by simp;omega),aD (b:=128) (n:=(w.2.2.2.2.2.1.take i).length) (m:=(w.2.2.2.2.2.1.drop (i+1)).length) (by decide) (by simp;omega),zX (show (0:Int)<=(i:Int) by omega)]
 rfl

theorem bWh {B F:Nat} {w:den tNw} {e:den fZ} (hF:F<=1000) (hk:kX B F w) (hB:B+(F+1) * (160+F)<=536870912) (h9:(e.1==(9:Int))=false) (hd:SmB 4294967296 (.sl tb) e.2.2.1) (hp:tot tPk e.2.2.2.2.2<=34359738368) (hdead:aAg (nT w).2.length (aJ w)):lG w e=some ((doW w e).1,cA (doW w e).2):=by
 obtain ⟨kd,n,data,to,ing,pk⟩:=e
 simp only at h9 hd hp
 have hB0:B<=536870912:=by have :=bXf ((F+1) * (160+F));omega
 have hB1:B+F * (160+F)<=536870912:=by rw [Nat.succ_mul] at hB;omega
 have l1:w.2.2.2.2.2.1.length<=1073741824:=aZb hk (by omega)
 have l2:w.2.2.2.2.2.2.1.length<=1073741824:=bWv hk.flows (by omega)
 obtain ⟨n1,n2,n3⟩:=aE3 hk (by omega)
 have l3:w.1.2.length<=1073741824:=n1.links
 have l4:w.2.2.2.2.1.length<=1073741824:=by
  have h1:=fA w
  have h2:=eR (t:=ti) (aJ w)
  have h3:=hk.tot
  have h4:(aJ w).length<=1073741824:=by omega
  exact h4
 have w1:wr ((w.2.2.2.2.2.1.length:Int) - 1)=(w.2.2.2.2.2.1.length:Int) - 1:=jO (by omega)
 have w2:wr ((w.2.2.2.2.2.2.1.length:Int) - 1)=(w.2.2.2.2.2.2.1.length:Int) - 1:=jO (by omega)
 have w3:wr ((w.1.2.length:Int) - 1)=(w.1.2.length:Int) - 1:=jO (by omega)
 have a1:aG 128 w.2.2.2.2.2.1.length 1=true:=aD (by decide) (by omega)
 unfold lG doW ixb aI jF aRd pj2 pj3 pj9 eY aW bR bT eX nD rR wD aAj aCl aB9 aHn aKq aLu aKy aRg zz4 zz5 zz6 zz7 zz8 zz9
 simp only [w1,w2,w3,kN,aA]
 cases c1:(kd==(1:Int)) with
 | true=>
  simp only [zZ]
  rw [show ((w.1,w.2.1,w.2.2.1,w.2.2.2.1,w.2.2.2.2.1,w.2.2.2.2.2.1,w.2.2.2.2.2.2.1,w.2.2.2.2.2.2.2.1,w.2.2.2.2.2.2.2.2):den tNw)=w from rfl,bOt hF hk hB1]
  rfl
 | false=>
 cases c2:(kd==(2:Int)) with
 | true=>
  have c3:(kd==(3:Int))=false:=by rw [eq_of_beq c2];rfl
  simp only [zY,zZ,aA,c3,bW2,zU,zV]
  cases hin:inR n 0 ((w.2.2.2.2.2.1.length:Int) - 1) with
  | false=>rfl
  | true=>
   obtain ⟨i,x,rfl,hx,_,_⟩:=aGo l1 hin
   have hx:(aR w)[i]? =some x:=hx
   have e1:=bFh (w:=w) hx l1
   have kg:=aEr hk i
   obtain ⟨m1,m2,m3⟩:=aE3 kg (by omega)
   have hxm:=bW6 hx
   have htx:tot tPk x.2.2<=536870912:=by
    have h1:=wF (t:=tFy) hxm
    have h2:tot tFy x=tot tPk x.2.2:=by simp [rM,tT]
    have :=fA w
    have :=hk.tot
    omega
   have e2:=aY6 (w:=tP w i) (r:=x.1) (inn:=x.2.1) m1 m2 m3 htx (hk.bytes.fly x hxm)
   have e3:Option.bind (bW (tP w i) x.1 x.2.1 x.2.2) (fun y7=>(some (Sum.inl y7):Option ((lFy×lFl×lIb×lAS×lLk×lSg×lSg×Int×lRs×lUs×Int×List Int×Int)⊕(Bool×lFy×lFl×lIb×lAS×lLk×lSg×lSg×Int×lRs×lUs×Int×List Int×Int))))=some (Sum.inl (cA (fC (tP w i) x.1 x.2.1 x.2.2))):=by rw [e2];rfl
   have hx':w.2.2.2.2.2.1[((i:Nat):Int).toNat]? =some x:=by rw [bW4];exact hx
   simp only [bWx,zY]
   rw [show ((w.1,w.2.1,w.2.2.1,w.2.2.2.1,w.2.2.2.2.1,w.2.2.2.2.2.1,w.2.2.2.2.2.2.1,w.2.2.2.2.2.2.2.1,w.2.2.2.2.2.2.2.2):den tNw)=w from rfl,e1,aA,hx']
   exact congrArg (fun o=>Option.bind o fun z=>Sum.elim (fun s32=>some (true,s32)) some z) e3
 | false=>
 cases c3:(kd==(3:Int)) with
 | true=>
  simp only [zY,zZ,aA,bW2,zU,zV]
  cases hin:inR n 0 ((w.2.2.2.2.2.1.length:Int) - 1) with
  | false=>rfl
  | true=>
   obtain ⟨i,x,rfl,hx,_,_⟩:=aGo l1 hin
   have hx:(aR w)[i]? =some x:=hx
   have e1:=bFh (w:=w) hx l1
   simp only [bWx,zY]
   rw [show ((w.1,w.2.1,w.2.2.1,w.2.2.2.1,w.2.2.2.2.1,w.2.2.2.2.2.1,w.2.2.2.2.2.2.1,w.2.2.2.2.2.2.2.1,w.2.2.2.2.2.2.2.2):den tNw)=w from rfl,e1,aA]
   rfl
 | false=>
 cases c4:(kd==(4:Int)) with
 | true=>
  simp only [zY,zZ,aA,bW2,zU,zV]
  cases hin:inR n 0 ((w.2.2.2.2.2.1.length:Int) - 1) with
  | false=>rfl
  | true=>
   obtain ⟨i,x,rfl,hx,hlt,hz⟩:=aGo l1 hin
   have hx':w.2.2.2.2.2.1[((i:Nat):Int).toNat]? =some x:=by rw [bW4];exact hx
   cases decide ((w.2.2.2.2.2.1.length:Int)>=150) with
   | true=>rfl
   | false=>
    simp only [bWx,bW7,zY,zZ,aA,hlt,hz,hx',a1,Bool.and_self]
    rfl
 | false=>
 cases c5:(kd==(5:Int)) with
 | true=>
  simp only [zY,zZ,aA,bW2,zU,zV,Bool.true_or,aK7 (l:=w.2.2.2.2.1) (show w.2.2.2.2.1.length<=68719476736 by omega),aKe (l:=w.2.2.2.2.1) (show w.2.2.2.2.1.length<=4294967296 by omega)]
  unfold tM aC1
  cases hin:inR n 0 ((w.1.2.length:Int) - 1) with
  | false=>
   cases nQ (aJ w) n<;>rfl
  | true=>
   obtain ⟨g0,g1⟩:=bJ.1 hin
   cases hh:nQ (aJ w) n with
   | true=>
    rfl
   | false=>
    have ef:=bGl (m:=(nT w).2.length) (dead:=aJ w) (i:=n) hdead ⟨g0,Int.lt_of_le_of_lt g1 (show ((w.1.2.length:Int) - 1<(w.1.2.length:Int)) by omega)⟩
    have ef:oU w.2.2.2.2.1 n=rA (nT w).2.length (aJ w) n true:=ef
    rw [ef]
    rfl
 | false=>
 cases c6:(kd==(6:Int)) with
 | true=>
  simp only [zY,zZ,aA,bW2,zU,zV,Bool.or_true,aK7 (l:=w.2.2.2.2.1) (show w.2.2.2.2.1.length<=68719476736 by omega)]
  unfold tM aC1
  cases hin:inR n 0 ((w.1.2.length:Int) - 1) with
  | false=>
   cases nQ (aJ w) n<;>rfl
  | true=>
   cases hh:nQ (aJ w) n with
   | false=>
    rfl
   | true=>
    simp only [bWx,zY,aA]
    have ef:=bEm (m:=(nT w).2.length) (dead:=aJ w) (i:=n) hdead
    have ef:(w.2.2.2.2.1.filter fun x=>x != n)=rA (nT w).2.length (aJ w) n false:=ef
    refine cC (G:=fun o=>Option.bind o (fun z=>Sum.elim (fun s32=>some (true,s32)) some z)=some (true,cA (aFd w (rA (nT w).2.length (aJ w) n false)))) w.2.2.2.2.1.length (fun s:Int×List Int=>s.1) (fun k s=>s.2.length<=k∧s.2=(w.2.2.2.2.1.take k).filter fun x=>x != n) (fun r:List Int=>r=w.2.2.2.2.1.filter fun x=>x != n) ?_ ?_ 0 ((0:Int),[]) (bXf _) rfl ⟨by simp,by simp⟩ ?_
    ·rintro k ⟨_,l⟩ hk' rfl ⟨g1,g2⟩
     simp only at g1 g2
     right
     have hx:w.2.2.2.2.1[k]? =some w.2.2.2.2.1[k]:=bWu hk'
     have ht:(w.2.2.2.2.1.take (k+1)).filter (fun x=>x != n)=l++(if w.2.2.2.2.1[k] != n then [w.2.2.2.2.1[k]] else []):=by
      rw [List.take_add_one,hx,List.filter_append,g2]
      congr 1
      show List.filter _ [w.2.2.2.2.1[k]]=_
      rw [List.filter_cons,List.filter_nil]
     simp only [zX (show (k:Int)<(w.2.2.2.2.1.length:Int) by omega),zZ,aH,hx,aA,aD (b:=8) (n:=l.length) (m:=1) (by decide) (by omega),show wr ((k:Int)+1)=((k+1:Nat):Int) from (wri (by omega) (by omega)).trans (by omega)]
     cases hb:(w.2.2.2.2.1[k] != n) with
     | true=>rw [hb,zT rfl] at ht;exact ⟨_,rfl,rfl,by simp;omega,ht.symm⟩
     | false=>rw [hb,zS (by simp),bX1] at ht;exact ⟨_,rfl,rfl,by show l.length<=k+1;omega,ht.symm⟩
    ·rintro ⟨_,l⟩ rfl ⟨g1,g2⟩
     exact ⟨l,by simp only [zW (Int.lt_irrefl _),zY],by simpa using g2⟩
    ·rintro r rfl
     rw [ef]
     rfl
 | false=>
 cases c7:(kd==(7:Int)) with
 | true=>
  simp only [zY,zZ,aA,bW2,zU,zV,bYm,aM,aH2 n1.as]
  cases cX w.1 to with
  | false=>rfl
  | true=>
   cases decide ((w.2.2.2.2.2.1.length:Int)>=150) with
   | true=>rfl
   | false=>
    simp only [bWx,bW7,zY,zZ,aA,a1]
    rfl
 | false=>
 cases c8:(kd==(8:Int)) with
 | true=>
  simp only [zY,zZ,aA,bW2,zU,zV,bYm,aV,bK,bA,aZ,bD]
  cases hin:inR n 0 ((w.2.2.2.2.2.2.1.length:Int) - 1) with
  | false=>rfl
  | true=>
   obtain ⟨i,x,rfl,hx,hlt,hz⟩:=aGo l2 hin
   have hx:(aB w)[i]? =some x:=hx
   have hxm:=bW6 hx
   have hx':w.2.2.2.2.2.2.1[((i:Nat):Int).toNat]? =some x:=by rw [bW4];exact hx
   have hfx:tot tFl x<=536870912:=by
    have h1:=wF (t:=tFl) hxm
    have :=fA w
    have :=hk.tot
    omega
   have e1:=bVh (f:=x) (b:=data) ((bG hfx).mono (by decide)) hd
   have hlt2:decide (((i:Nat):Int).toNat<w.2.2.2.2.2.2.1.length)=true:=zX (by rw [bW4];exact (bW1.1 hx).1)
   simp only [bWx,zY,zZ,hlt,hz,hx',hlt2,aA]
   rw [show ((x.1,x.2.1,x.2.2.1,x.2.2.2.1,x.2.2.2.2.1,x.2.2.2.2.2.1,x.2.2.2.2.2.2.1,x.2.2.2.2.2.2.2.1,x.2.2.2.2.2.2.2.2):den tFl)=x from rfl,e1,aA]
   unfold aNm aA8
   cases eQ (enq x data)<;>rfl
 | false=>
  simp only [h9,zY,zZ,aA,bW2,zU,zV,bYm]
  rfl

theorem bJs {α:Type} {l:List α} {k:Nat} {x:α} (h:l[k]? =some x):l.set k x=l:=by
 obtain ⟨hk,e⟩:=bW1.1 h
 rw [← e]
 exact List.set_getElem_self hk


theorem bTy {w:den tNw} {e:den fZ} (h:(doW w e).1=false):(doW w e).2=w:=by
 unfold doW at h ⊢
 split
 ·rename_i c
  rw [zT c] at h
  show pP w=w
  unfold pP
  have h:(!decide (aN w>=1000000))=false:=h
  rw [zT (by simpa using h)]
 rename_i c1
 rw [zS c1] at h
 split
 ·rename_i c
  rw [zT c] at h
  split
  ·rename_i x hi hx
   rw [hi,hx] at h
   cases h
  ·rfl
 rename_i c2
 rw [zS c2] at h
 split
 ·rename_i c
  rw [zT c] at h
  split
  ·rename_i hc;rw [zT hc] at h;cases h
  ·rfl
 rename_i c3
 rw [zS c3] at h
 split
 ·rename_i c
  rw [zT c] at h
  split
  ·rename_i x hi hx
   rw [hi,hx] at h
   cases h
  ·rfl
 rename_i c4
 rw [zS c4] at h
 split
 ·rename_i c
  rw [zT c] at h
  show tM w e.2.1 (e.1==5)=w
  unfold tM
  have h:(!aC1 w e.2.1 (e.1==5))=false:=h
  rw [zT (by simpa using h)]
 rename_i c5
 rw [zS c5] at h
 split
 ·rename_i c
  rw [zT c] at h
  split
  ·rename_i hc;rw [zT hc] at h;cases h
  ·rfl
 rename_i c6
 rw [zS c6] at h
 split
 ·rename_i c
  rw [zT c] at h
  split
  ·rename_i f hi hf
   rw [hi,hf] at h
   have h:eQ (enq f e.2.2.1)=false:=h
   show cT w ((aB w).set e.2.1.toNat (aA8 f e.2.2.1))=w
   unfold aA8
   rw [h,zS (by decide),bJs hf]
   rfl
  ·rfl
 ·rfl

theorem aIo {t:den tTo} {k:Nat} {w:den tNw} (h:aBz t k w) (hk:k<=1000):kX 2001000 4 w:=h.run.keep.mono (by omega)

theorem aZ6 {w:den tNw} {B F:Nat} (h:kX B F w) (hB:B<=1073741824):SmB 68719476736 tNw w:=(bG (bWv h.tot hB)).mono (by decide)

theorem bO5 {w:den tNw} {e:den fZ} (he:EvD w e):(e.1==(9:Int))=false:=by
 have h8:=he.hi
 have h9: ¬ (e.1=(9:Int)):=fun h=>by rw [h] at h8;exact absurd h8 (by decide)
 exact beq_eq_false_iff_ne.2 h9

theorem bVi {t:den tTo} {k:Nat} {w:den tNw} {e:den fZ} (h:aBz t k w) (hk:k<=999) (ht:aBy t=true) (hl:t.2.length<=100) (he:EvD w e):qP w e=some (aXm (doW w e).2 (doW w e).1):=by
 have hK:=aIo h (by omega)
 have hv:=h.valid (by omega) ht
 have h':=h.event (by omega) hl he
 have hK':=aIo h' (by omega)
 have e0:=bGw (w:=w) (bWv hK.tot (by decide))
 rw [hv] at e0
 have e1:=aZx (aZ6 hK (by decide))
 have e2:=bWh (w:=w) (e:=e) (by decide) hK (by decide) (bO5 he) ⟨by have :=he.data.1;omega,fun x hx=>trivial⟩ (bWv he.pk.1 (by decide)) (by rw [h.run.top];exact h.dead)
 have e3:=aZx (aZ6 hK' (by decide))
 obtain ⟨⟨as,ls⟩,⟨dn,co⟩,⟨cap,res,us⟩,now,dead,fly,flows,box,drop⟩:=w
 obtain ⟨kd,en,data,to,ing,k1,k2,k3,k4,k5,k6,k7,k8,k9,k10⟩:=e
 unfold qP aI eY aW bR bT eX zz4 zz5 zz6 zz7 zz8 zz9
 simp only [e0,e1,aA,bWx,zY,aN7,nT,nK,nG,aN,aJ,aR,aB,aU,dW,e2]
 cases hb:(doW ((as,ls),(dn,co),(cap,res,us),now,dead,fly,flows,box,drop) (kd,en,data,to,ing,k1,k2,k3,k4,k5,k6,k7,k8,k9,k10)).1 with
 | false=>
  have :=bTy hb
  rw [this]
  simp only [bW7,zZ,aA]
  rfl
 | true=>
  simp only [bWx,zY]
  generalize (doW ((as,ls),(dn,co),(cap,res,us),now,dead,fly,flows,box,drop) (kd,en,data,to,ing,k1,k2,k3,k4,k5,k6,k7,k8,k9,k10)).2=w' at *
  obtain ⟨⟨as',ls'⟩,⟨dn',co'⟩,⟨cap',res',us'⟩,now',dead',fly',flows',box',drop'⟩:=w'
  simp only [cA,nT,nK,nG,aN,aJ,aR,aB,aU,dW,e3,aA,aN7]
  rfl

theorem bG5 {R T:Type} {n:Nat} (hn:n<=1000000) {step:Int→Option (Int⊕R)} {r:R} {k:R→Option T} (h: ∀ i:Nat,i<n→step (i:Int)=some (.inl ((i+1:Nat):Int))) (he:step (n:Int)=some (.inr r)):Option.bind (aC step (0:Int)) k=k r:=by
 refine cC (G:=fun o=>o=k r) n (fun s:Int=>s) (fun _ _=>True) (fun x=>x=r) ?_ ?_ 0 (0:Int) (bXf _) rfl trivial (fun x hx=>by rw [hx])
 ·rintro i _ hi rfl _
  exact .inr ⟨_,h i hi,rfl,trivial⟩
 ·rintro _ rfl _
  exact ⟨r,he,rfl⟩

def aKp:den tNw→lN→den tNw
 | w,[]=>w
 | w,e::l=>aKp (doW w e).2 l

def bT9:den tNw→lN→Nat
 | _,[]=>0
 | w,e::l=>cond (doW w e).1 1 0+bT9 (doW w e).2 l

def aF8:den tNw→lN→Prop
 | _,[]=>True
 | w,e::l=>EvD w e∧aF8 (doW w e).2 l

theorem aVg: ∀ (a b:lN) (w:den tNw),aKp w (a++b)=aKp (aKp w a) b
 | [],_,_=>rfl
 | e::a,b,w=>aVg a b (doW w e).2

theorem aV2: ∀ (a b:lN) (w:den tNw),aF8 w (a++b)↔aF8 w a∧aF8 (aKp w a) b
 | [],_,_=>⟨fun h=>⟨trivial,h⟩,fun h=>h.2⟩
 | e::a,b,w=>by
  show EvD w e∧aF8 (doW w e).2 (a++b)↔(EvD w e∧aF8 (doW w e).2 a)∧_
  rw [aV2 a b,and_assoc];rfl

theorem Ran.evs {v w:den tNw} {l:lN} (h:Ran v l w):aF8 v l∧w=aKp v l:=by
 induction h with
 | nil=>exact ⟨trivial,rfl⟩
 | @snoc l w e h he ih=>
  obtain ⟨h1,rfl⟩:=ih
  exact ⟨(aV2 _ _ _).2 ⟨h1,he,trivial⟩,by rw [aVg];rfl⟩

theorem aF8.runV {t:den tTo} (ht:t.2.length<=100): ∀ {l:lN} {k:Nat} {w:den tNw},aBz t k w→aF8 w l→k+l.length<=1000→aBz t (k+l.length) (aKp w l)
 | [],_,_,h,_,_=>h
 | e::l,k,w,h,hd,hk=>by
  have hk:k+(l.length+1)<=1000:=hk
  have :=aF8.runV ht (h.event (by omega) ht hd.1) hd.2 (by omega:k+1+l.length<=1000)
  have hn:k+(l.length+1)=k+1+l.length:=by omega
  show aBz t (k+(l.length+1)) _
  rw [hn];exact this

theorem aVb {S R:Type} {step:S→Option (S⊕R)} (enc:Nat→Nat→den tNw→S) (out:Nat→den tNw→R) (yG:lN) {t:den tTo} (h1:t.2.length<=100)
  (hs: ∀ k c i w e,aBz t k w→k<=999→yG[i]? =some e→EvD w e→i<yG.length→c<=i→step (enc c i w)=some (.inl (enc (c+cond (doW w e).1 1 0) (i+1) (doW w e).2)))
  (he: ∀ c w,step (enc c yG.length w)=some (.inr (out c w))): ∀ (l done:lN) (c k:Nat) (w:den tNw),yG=done++l→c<=done.length→aBz t k w→aF8 w l→k+l.length<=999→aC step (enc c done.length w)=some (out (c+bT9 w l) (aKp w l))
 | [],done,c,k,w,hf,hc,h,hd,hk=>by
  refine bX ?_
  have :yG.length=done.length:=by rw [hf,bX1]
  have e:=he c w
  rw [this] at e
  exact e
 | e::l,done,c,k,w,hf,hc,h,hd,hk=>by
  have hk:k+(l.length+1)<=999:=hk
  have hx:yG[done.length]? =some e:=by rw [hf];simp
  have hlt:done.length<yG.length:=by rw [hf];simp
  rw [dS (hs k c done.length w e h (by omega) hx hd.1 hlt hc)]
  have :=aVb enc out yG h1 hs he l (done++[e]) (c+cond (doW w e).1 1 0) (k+1) (doW w e).2 (by rw [hf];simp) (by rw [bXp];show _<=_+1;cases (doW w e).1<;>simp<;>omega) (h.event (by omega) h1 hd.1) hd.2 (by omega)
  rw [bXp] at this
  rw [show done.length+[e].length=done.length+1 from rfl] at this
  rw [this,Nat.add_assoc]
  rfl

def qQ (w w':den tNw):Prop:=(aB w').length=(aB w).length∧ ∀ (k:Nat) (f f':den tFl),(aB w)[k]? =some f→(aB w')[k]? =some f'→f.2.2.2.1<=f'.2.2.2.1

def aL5 (s d:Int) (w w':den tNw):Prop:=(aU w').length=(aU w).length∧ ∀ (k:Nat) (x x':den tIb),(aU w)[k]? =some x→(aU w')[k]? =some x'→x'=x∨(x.2.1=s∧x.1=d∧x'.2.2.2.length=x.2.2.2.length+1)

theorem qQ.same {w w':den tNw} (h:aB w'=aB w):qQ w w':=by
 refine ⟨by rw [h],fun k f f' h1 h2=> ?_⟩
 rw [h,h1] at h2
 injection h2 with h2
 rw [h2];exact bX3 _

theorem qQ.trans {a b c:den tNw} (h:qQ a b) (g:qQ b c):qQ a c:=by
 refine ⟨g.1.trans h.1,fun k f f' h1 h2=> ?_⟩
 have hk:k<(aB b).length:=by rw [h.1];exact (bW1.1 h1).1
 exact Int.le_trans (h.2 k f _ h1 (bWu hk)) (g.2 k _ f' (bWu hk) h2)

theorem aL5.same {s d:Int} {w w':den tNw} (h:aU w'=aU w):aL5 s d w w':=by
 refine ⟨by rw [h],fun k x x' h1 h2=> .inl ?_⟩
 rw [h,h1] at h2
 injection h2 with h2
 exact h2.symm

theorem aXf (w:den tNw) (r eg:Int) (p:den tPk):aB (oX w r eg p)=aB w∧aU (oX w r eg p)=aU w:=by
 unfold oX
 split<;>exact ⟨rfl,rfl⟩

theorem bI8 {f:den tFl} (hv:eQ f=true) (r:Int) (p:den tPk):f.2.2.2.1<=(oA r p f).2.2.2.1:=by
 unfold oA
 split
 ·split
  ·unfold tK
   split
   ·rename_i ha
    unfold aM8 at ha
    simp only [bWw,beq_iff_eq] at ha
    obtain ⟨_,_,_,_,h5⟩:=ha
    obtain ⟨h6,h7⟩:=bJ.1 h5
    have hm:f.2.2.2.2.1.length<=20:=((nJ f).1 hv).2.2.2.2.1
    show f.2.2.2.1<=wr (f.2.2.2.1+1)
    rw [bI (by omega) (by omega)]
    exact Int.le_of_lt (Int.lt_add_one_of_le (bX3 _))
   ·exact bX3 _
  ·unfold xO
   cases p.1==3&&(vQ p.2.2.2.2.2.2.2.2.2).2.2.2<;>exact bX3 _
 ·exact bX3 _

theorem aN3 {w:den tNw} (hv: ∀ f∈aB w,eQ f=true) (r:Int) (p:den tPk):qQ w (tQ w r p):=by
 refine ⟨by show ((aB w).map _).length=_;rw [bXz],fun k f f' h1 h2=> ?_⟩
 rw [show aB (tQ w r p)=(aB w).map (oA r p) from rfl,bY2,h1] at h2
 injection h2 with h2
 rw [← h2]
 exact bI8 (hv f (bW6 h1)) r p

theorem aWg {w:den tNw} (hv: ∀ f∈aB w,eQ f=true) (r inn:Int) (p:den tPk):qQ w (proc0 w r inn p)∧aU (proc0 w r inn p)=aU w:=by
 unfold proc0
 split
 ·obtain ⟨a,b⟩:=aXf w r (bS (nT w) (aN w) (aJ w) r inn p).2.1 (bS (nT w) (aN w) (aJ w) r inn p).2.2.1
  exact ⟨.same a,b⟩
 ·split
  ·exact ⟨aN3 hv _ _,rfl⟩
  ·exact ⟨.same rfl,rfl⟩

theorem bJu {w:den tNw} (hv: ∀ f∈aB w,eQ f=true) (r:Int) (p:den tPk):qQ w (xS w r p)∧aL5 p.2.1 p.2.2.1 w (xS w r p):=by
 unfold xS
 split
 ·exact ⟨.same rfl,.same rfl⟩
 ·rename_i hc
  rcases aFv (aU w) r p.2.1 with hf | ⟨k,x,hf,hx⟩
  ·rw [hf] at hc;exact absurd (by decide) hc
  ·have hba:vT w k=x:=by unfold vT;rw [hx];rfl
   rw [hf,bW4,hba]
   have hk:=(bW1.1 hx).1
   have hb:aL5 p.2.1 p.2.2.1 w (pB w k (dE x p)):=by
    refine ⟨by show ((aU w).set k _).length=_;rw [bYl],fun j y y' h1 h2=> ?_⟩
    rw [show aU (pB w k (dE x p))=(aU w).set k (dE x p) from rfl] at h2
    by_cases hj:k=j
    ·subst hj
     rw [bY7 hk] at h2
     rw [hx] at h1
     injection h1 with h1
     injection h2 with h2
     subst h1
     rw [← h2]
     unfold dE
     split
     ·rename_i ht
      unfold aN9 yI at ht
      simp only [bWw,beq_iff_eq,zR] at ht
      exact .inr ⟨ht.1.2.1.symm,ht.1.2.2.symm,by simp⟩
     ·exact .inl rfl
    ·rw [bZn hj,h1] at h2
     injection h2 with h2
     exact .inl h2.symm
   split
   ·obtain ⟨a,b⟩:=aWg (w:=pB w k (dE x p)) hv r 0 (nB (dE x p) p)
    exact ⟨a,by rw [aL5,b];exact hb⟩
   ·exact ⟨.same rfl,hb⟩

theorem aXr {w:den tNw} (hv: ∀ f∈aB w,eQ f=true) (r inn:Int) (p:den tPk):qQ w (fC w r inn p)∧aL5 p.2.1 p.2.2.1 w (fC w r inn p):=by
 have he:(bS (nT w) (aN w) (aJ w) r inn p).2.2.1.2.1=p.2.1∧(bS (nT w) (aN w) (aJ w) r inn p).2.2.1.2.2.1=p.2.2.1:=by
  obtain ⟨i,j,b,e⟩:=aNe (nT w) r (aN w) (rQ (nT w) (aJ w) r) inn p
  unfold bS
  rw [e]
  exact ⟨rfl,rfl⟩
 unfold fC
 split
 ·obtain ⟨a,b⟩:=aXf w r (bS (nT w) (aN w) (aJ w) r inn p).2.1 (bS (nT w) (aN w) (aJ w) r inn p).2.2.1
  exact ⟨.same a,.same b⟩
 ·split
  ·split
   ·have :=bJu hv r (bS (nT w) (aN w) (aJ w) r inn p).2.2.1
    rw [he.1,he.2] at this
    exact this
   ·exact ⟨aN3 hv _ _,.same rfl⟩
  ·split
   ·unfold aB8
    split
    ·obtain ⟨a,b⟩:=aWg hv r 0 (cB r (aN w) (bS (nT w) (aN w) (aJ w) r inn p).2.2.2 p)
     exact ⟨⟨a.1,a.2⟩,.same b⟩
    ·have a:=aN3 hv r (cB r (aN w) (bS (nT w) (aN w) (aJ w) r inn p).2.2.2 p)
     exact ⟨⟨a.1,a.2⟩,.same rfl⟩
   ·exact ⟨.same rfl,.same rfl⟩

def aGw (P:Nat→Prop) (w w':den tNw):Prop:=(aU w').length=(aU w).length∧ ∀ (k:Nat) (x x':den tIb),(aU w)[k]? =some x→(aU w')[k]? =some x'→x'.2.2.2.length=x.2.2.2.length∨(P k∧x'.2.2.2.length=x.2.2.2.length+1)

theorem aGw.same {P:Nat→Prop} {w w':den tNw} (h:aU w'=aU w):aGw P w w':=by
 refine ⟨by rw [h],fun k x x' h1 h2=> .inl ?_⟩
 rw [h,h1] at h2
 injection h2 with h2
 rw [h2]

theorem dM.valF {t:den tTo} {w:den tNw} (h:dM t w): ∀ f∈aB w,eQ f=true:=fun f hf=>by
 obtain ⟨k,hk⟩:=List.getElem?_of_mem hf
 have hkb:k<(aU w).length:=by rw [h.lenB];exact (bW1.1 hk).1
 exact (h.flow k f _ hk (bWu hkb)).val

theorem bFv {t:den tTo} {g:den tFl} {x:den tIb} (h:vX t g x) (hs:uI g=true):(rH g).2.1=g.1∧(rH g).2.2.1=g.2.1:=by
 have hs':=hs
 unfold uI at hs'
 rw [bWw] at hs'
 obtain ⟨a0,a1⟩:=bJ.1 hs'.1
 obtain ⟨b0,b1⟩:=bJ.1 hs'.2
 have hc:g.2.2.2.2.2.2.1.toNat<g.2.2.2.2.2.1.length:=by omega
 have ha:g.2.2.2.1.toNat<g.2.2.2.2.1.length:=by omega
 have hpth:g.2.2.2.2.2.1[g.2.2.2.2.2.2.1.toNat]? =some (g.2.2.2.2.2.1[g.2.2.2.2.2.2.1.toNat]'hc):=bWu hc
 have hmsg:g.2.2.2.2.1[g.2.2.2.1.toNat]? =some (g.2.2.2.2.1[g.2.2.2.1.toNat]'ha):=bWu ha
 obtain ⟨p1,p2⟩:=h.paths _ (bW6 hpth)
 have he:=aQn p1 p2
 have e:rH g=aDp 1 (g.2.2.2.2.2.1[g.2.2.2.2.2.2.1.toNat]'hc) g.2.2.1 g.2.2.2.1 (g.2.2.2.2.1[g.2.2.2.1.toNat]'ha):=by
  unfold rH
  rw [zT hs,hpth,hmsg];rfl
 rw [e]
 exact ⟨congrArg Prod.fst he,congrArg Prod.snd he⟩

theorem bI5 {t:den tTo} {w:den tNw} (k:Nat) (h:dM t w):qQ w (stepT k w)∧aGw (fun i=>i=k) w (stepT k w):=by
 unfold stepT
 split
 ·rename_i f hf
  obtain ⟨c,wt,e1,e2⟩:=aS6 f
  have hk:=(bW1.1 hf).1
  have hset:dM t (cT w ((aB w).set k (aF f).1)):=by
   refine h.set hf (by rw [e1];rfl) (by rw [e1];rfl) (fun s m hm=>by rw [e1];exact hm) fun x hx=> ?_
   have hv:=aLf hx.val
   rw [e1] at hv ⊢
   exact ⟨hv,hx.src,hx.dst,hx.xAS,hx.xFrom,hx.next,hx.recv,hx.len,hx.ack,hx.paths⟩
  have hup:qQ w (cT w ((aB w).set k (aF f).1)):=by
   refine ⟨by show ((aB w).set k _).length=_;rw [bYl],fun j g g' h1 h2=> ?_⟩
   rw [show aB (cT w ((aB w).set k (aF f).1))=(aB w).set k (aF f).1 from rfl] at h2
   by_cases hj:k=j
   ·subst hj
    rw [bY7 hk] at h2
    rw [hf] at h1
    injection h1 with h1
    injection h2 with h2
    rw [← h1,← h2,e1]
    exact bX3 _
   ·rw [bZn hj,h1] at h2
    injection h2 with h2
    rw [h2];exact bX3 _
  split
  ·rename_i hb
   obtain ⟨g1,g2⟩:=e2 hb
   obtain ⟨p1,p2⟩:=aXr hset.valF (aF f).1.1 0 (aF f).2.1
   refine ⟨hup.trans p1,p2.1,fun j x x' h1 h2=> ?_⟩
   rcases p2.2 j x x' h1 h2 with e | ⟨a1,a2,a3⟩
   ·rw [e];exact .inl rfl
   ·refine .inr ⟨?_,a3⟩
    have hjf:j<(aB w).length:=by rw [← h.lenB];exact (bW1.1 h1).1
    have hfj:=bWu hjf
    have hF:=h.flow j _ x hfj h1
    have hkb:k<(aU w).length:=by rw [h.lenB];exact hk
    have hG:=h.flow k f _ hf (bWu hkb)
    have hG':vX t (pN f c wt) ((aU w)[k]'hkb):=by
     have hv:=aLf hG.val
     rw [e1] at hv
     exact ⟨hv,hG.src,hG.dst,hG.xAS,hG.xFrom,hG.next,hG.recv,hG.len,hG.ack,hG.paths⟩
    obtain ⟨n1,n2⟩:=bFv hG' g2
    refine h.one hfj hf ?_ ?_
    ·rw [← hF.xFrom,a1,g1,n1];rfl
    ·rw [← hF.xAS,a2,g1,n2];rfl
  ·exact ⟨hup,.same rfl⟩
 ·exact ⟨.same rfl,.same rfl⟩

theorem aWo {t:den tTo}: ∀ (n k:Nat) {w:den tNw},dM t w→qQ w (tickL k n w)∧aGw (fun i=>k<=i) w (tickL k n w)
 | 0,_,_,_=>⟨.same rfl,.same rfl⟩
 | n+1,k,w,h=>by
  obtain ⟨a1,a2⟩:=bI5 k h
  obtain ⟨b1,b2⟩:=aWo n (k+1) (aSh k h)
  refine ⟨a1.trans b1,b2.1.trans a2.1,fun j x x' h1 h2=> ?_⟩
  have hj:j<(aU (stepT k w)).length:=by rw [a2.1];exact (bW1.1 h1).1
  have hy:=bWu hj
  rcases a2.2 j x _ h1 hy with e | ⟨e0,e⟩
  ·rcases b2.2 j _ x' hy h2 with e' | ⟨e0',e'⟩
   ·exact .inl (e'.trans e)
   ·exact .inr ⟨by have :k+1<=j:=e0';show k<=j;omega,by rw [e',e]⟩
  ·rcases b2.2 j _ x' hy h2 with e' | ⟨e0',e'⟩
   ·exact .inr ⟨by have :j=k:=e0;show k<=j;omega,by rw [e',e]⟩
   ·have :j=k:=e0
    have :k+1<=j:=e0'
    omega

theorem bJx {t:den tTo} {w:den tNw} (h:dM t w):qQ w (pP w)∧aGw (fun _=>True) w (pP w):=by
 unfold pP
 split
 ·exact ⟨.same rfl,.same rfl⟩
 ·obtain ⟨a,b⟩:=aWo (aB w).length 0 (h.same (w':=aEl w) rfl rfl rfl fun y hy=> .inl hy)
  exact ⟨a,b.1,fun k x x' h1 h2=>(b.2 k x x' h1 h2).imp id fun e=>⟨trivial,e.2⟩⟩

theorem bSn {t:den tTo} {w:den tNw} {e:den fZ} (h:dM t w):qQ w (doW w e).2∧aGw (fun _=>True) w (doW w e).2:=by
 have hp: ∀ (i:Nat) (r inn:Int) (p:den tPk),qQ w (fC (tP w i) r inn p)∧aGw (fun _=>True) w (fC (tP w i) r inn p):=fun i r inn p=>by
  obtain ⟨a,b⟩:=aXr (w:=tP w i) h.valF r inn p
  exact ⟨a,b.1,fun k x x' h1 h2=>(b.2 k x x' h1 h2).imp (fun e=>by rw [e]) fun e=>⟨trivial,e.2.2⟩⟩
 unfold doW
 split
 ·exact bJx h
 ·split
  ·split
   ·exact hp _ _ _ _
   ·exact ⟨.same rfl,.same rfl⟩
  ·split
   ·split<;>exact ⟨.same rfl,.same rfl⟩
   ·split
    ·split<;>exact ⟨.same rfl,.same rfl⟩
    ·split
     ·show qQ w (tM w _ _)∧aGw _ w (tM w _ _)
      unfold tM
      split<;>exact ⟨.same rfl,.same rfl⟩
     ·split
      ·split<;>exact ⟨.same rfl,.same rfl⟩
      ·split
       ·split
        ·rename_i f hi hf
         refine ⟨⟨by show ((aB w).set _ _).length=_;rw [bYl],fun j g g' h1 h2=> ?_⟩,.same rfl⟩
         have h2:((aB w).set e.2.1.toNat (aA8 f e.2.2.1))[j]? =some g':=h2
         by_cases hj:e.2.1.toNat=j
         ·rw [hj] at h2
          rw [bY7 (bW1.1 h1).1] at h2
          rw [hj,h1] at hf
          injection hf with hf
          injection h2 with h2
          rw [← h2,hf]
          unfold aA8
          split
          ·exact bX3 _
          ·exact bX3 _
         ·rw [bZn hj,h1] at h2
          injection h2 with h2
          rw [h2];exact bX3 _
        ·exact ⟨.same rfl,.same rfl⟩
       ·exact ⟨.same rfl,.same rfl⟩

end Go.Proofs.YtecighmpdcffcaaGreat
