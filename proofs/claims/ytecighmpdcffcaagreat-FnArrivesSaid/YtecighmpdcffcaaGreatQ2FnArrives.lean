/-
  Facts and plain laws: what the functions compute, in plain words. Conditions: as each says.
-/
import Derived.Test.YtecighmpdcffcaaGreatQ1FnArrives
open List renaming getElem?_eq_getElem→bT6,getElem_mem→bUj,not_mem_nil→bUr,length_set→bVu
open Bool renaming not_true→bUc
open Int renaming lt_irrefl→bUm,eq_ofNat_of_zero_le→bUu,toNat_natCast→bUf
open Sum renaming elim_inl→bVe
open Nat renaming le_trans→bT7,le_succ→bU8
set_option linter.unusedVariables false
set_option linter.unusedSimpArgs false
set_option maxRecDepth 100000
namespace Go.Proofs.YtecighmpdcffcaaGreat
open Go.Ab Go.V
theorem Ran.runV {v:den tNw} (hv:wN 3 v) {l:tG} {w:den tNw} (h:Ran v l w):l.length<=1000→aJh (nT v) l.length w:=by
 induction h with
 | nil=>intro _;exact hv.runV
 | snoc h he ih=>
  intro hl
  simp only [List.length_append,List.length_singleton] at hl ⊢
  exact (ih (by omega)).event (by omega) hv.top.links he

theorem xS {R T:Type} {n:Nat} (hn:n<=1000000) {step:Int→Option (Int⊕R)} {r:R} {k:R→Option T} (h: ∀ i:Nat,i<n→step (i:Int)=some (.inl ((i+1:Nat):Int))) (he:step (n:Int)=some (.inr r)):Option.bind (aC step (0:Int)) k=k r:=by
 refine bV (G:=fun o=>o=k r) n (fun s:Int=>s) (fun _ _=>True) (fun x=>x=r) ?_ ?_ 0 (0:Int) (Nat.zero_le _) rfl trivial (fun x hx=>by rw [hx])
 ·rintro i _ hi rfl _
  exact .inr ⟨_,h i hi,rfl,trivial⟩
 ·rintro _ rfl _
  exact ⟨r,he,rfl⟩

theorem bF9 {t:den tTo} (h1:t.1.length<=1000000) (h2:t.2.length<=1000000):qV t t=some true:=by
 unfold qV zz4
 simp only [bne_self_eq_false,zY,aA]
 rw [xS h1 (r:= .inl ()) (fun i hi=>by
  simp only [zX (show (i:Int)<(t.1.length:Int) by omega),zZ,aF,bT6 hi,aA,beq_self_eq_true,Bool.and_self,bUc,zY,bE (show i<=1000000000 by omega)]) (by simp only [zW (bUm _),zY])]
 simp only [bVe]
 rw [xS h2 (r:= .inl ()) (fun i hi=>by
  simp only [zX (show (i:Int)<(t.2.length:Int) by omega),zZ,aF,bT6 hi,aA,beq_self_eq_true,Bool.and_self,bUc,zY,bE (show i<=1000000000 by omega)]) (by simp only [zW (bUm _),zY])]
 rfl

theorem bJm {s:den tSg} (h:s.2.2.length<=1000000):vE s s=some true:=by
 obtain ⟨v,e,k⟩:=aUl (a:=s.2.2) (b:=s.2.2) h
 unfold vE
 simp only [beq_self_eq_true,zZ,e,k rfl,aA]

theorem aRj {l:lSg} (h:l.length<=1000000) (hs: ∀ s∈l,s.2.2.length<=1000000):qR l l=some true:=by
 unfold qR pj3
 simp only [bne_self_eq_false,zY]
 rw [xS h (r:= .inl ()) (fun i hi=>by
  simp only [zX (show (i:Int)<(l.length:Int) by omega),zZ,aF,bT6 hi,aA,aO,bJm (hs _ (bUj hi)),bUc,zY,bE (show i<=1000000000 by omega)]) (by simp only [zW (bUm _),zY])]
 rfl

theorem aQ0 {l:List Int} (h:l.length<=1000000):lL l l=some true:=by
 unfold lL
 simp only [bne_self_eq_false,zY]
 rw [xS h (r:= .inl ()) (fun i hi=>by
  simp only [zX (show (i:Int)<(l.length:Int) by omega),zZ,aF,bT6 hi,aA,bne_self_eq_false,zY,bE (show i<=1000000000 by omega)]) (by simp only [zW (bUm _),zY])]
 rfl

theorem bAu {w:den tNw} (h:tot tNw w<=1000000):oG w w=some true:=by
 have sw:=bF h
 obtain ⟨hT,hK,hG,_,hD,hY,hF,hX,_⟩:=sw
 have l5:w.2.2.2.2.2.1.length<=1000000:=hY.1
 have l6:w.2.2.2.2.2.2.1.length<=1000000:=hF.1
 have l7:w.2.2.2.2.2.2.2.1.length<=1000000:=hX.1
 have e1:qV w.1 w.1=some true:=bF9 hT.1.1 hT.2.1
 have e2:tD w.2.1 w.2.1=some true:=by
  unfold tD
  simp only [aRj hK.1.1 (fun s hs=>(hK.1.2 s hs).2.2.1),aRj hK.2.1 (fun s hs=>(hK.2.2 s hs).2.2.1),aA,zZ]
 have e3:jZ w.2.2.1 w.2.2.1=some true:=aRv (bT7 hG.2.1.1 (by decide)) (bT7 hG.2.2.1 (by decide))
 have e4:lL w.2.2.2.2.1 w.2.2.2.2.1=some true:=aQ0 hD.1
 unfold oG aI pj2 pj3 pj4 pj9 zz4 zz5 zz6 zz7 zz8
 simp only [aO,e1,e2,e3,e4,aA,bUc,zY,bne_self_eq_false]
 rw [xS l5 (r:= .inl ()) (fun i hi=>by
  obtain ⟨v,e,k⟩:=aPp (a:=w.2.2.2.2.2.1[i].2.2) (b:=w.2.2.2.2.2.1[i].2.2) (hY.2 _ (bUj hi)).2.2
  simp only [zX (show (i:Int)<(w.2.2.2.2.2.1.length:Int) by omega),zZ,aF,bT6 hi,aA,bne_self_eq_false,zY,aO,e,k rfl,bUc,bE (show i<=1000000000 by omega)]) (by simp only [zW (bUm _),zY])]
 simp only [bVe]
 rw [xS l6 (r:= .inl ()) (fun i hi=>by
  obtain ⟨v,e,k⟩:=bJl (a:=w.2.2.2.2.2.2.1[i]) (b:=w.2.2.2.2.2.2.1[i]) (hF.2 _ (bUj hi))
  simp only [zX (show (i:Int)<(w.2.2.2.2.2.2.1.length:Int) by omega),zZ,aF,bT6 hi,aA,aO,e,k rfl,bUc,zY,bE (show i<=1000000000 by omega)]) (by simp only [zW (bUm _),zY])]
 simp only [bVe]
 rw [xS l7 (r:= .inl ()) (fun i hi=>by
  have hx:=hX.2 _ (bUj hi)
  obtain ⟨v,e,k⟩:=bMy (a:=w.2.2.2.2.2.2.2.1[i]) (b:=w.2.2.2.2.2.2.2.1[i]) hx.2.2.2.1 (fun m hm=>(hx.2.2.2.2 m hm).1)
  simp only [zX (show (i:Int)<(w.2.2.2.2.2.2.2.1.length:Int) by omega),zZ,aF,bT6 hi,aA,aO,e,k rfl,bUc,zY,bE (show i<=1000000000 by omega)]) (by simp only [zW (bUm _),zY])]
 rfl

def bRo:den tNw→tG→den tNw
 | w,[]=>w
 | w,e::l=>bRo (doW w e).2 l

def aZz:den tNw→tG→Prop
 | _,[]=>True
 | w,e::l=>EvD w e∧aZz (doW w e).2 l

theorem aZz.runV {t:den tTo} (ht:t.2.length<=100): ∀ {l:tG} {k:Nat} {w:den tNw},aJh t k w→aZz w l→k+l.length<=1000→aJh t (k+l.length) (bRo w l)
 | [],_,_,h,_,_=>h
 | e::l,k,w,h,hd,hk=>by
  have hk:k+(l.length+1)<=1000:=hk
  have :=aZz.runV ht (h.event (by omega) ht hd.1) hd.2 (by omega:k+1+l.length<=1000)
  have hn:k+(l.length+1)=k+1+l.length:=by omega
  show aJh t (k+(l.length+1)) _
  rw [hn];exact this

def aGb (w w':den tNw):Prop:=(aD w').length=(aD w).length∧ ∀ (k:Nat) (f f':den tFl),(aD w)[k]? =some f→(aD w')[k]? =some f'→f.2.2.2.1<=f'.2.2.2.1

def bKp (s d:Int) (w w':den tNw):Prop:=(bG w').length=(bG w).length∧ ∀ (k:Nat) (x x':den tIb),(bG w)[k]? =some x→(bG w')[k]? =some x'→x'=x∨(x.2.1=s∧x.1=d∧x'.2.2.2.length=x.2.2.2.length+1)

theorem aGb.same {w w':den tNw} (h:aD w'=aD w):aGb w w':=by
 refine ⟨by rw [h],fun k f f' h1 h2=> ?_⟩
 rw [h,h1] at h2
 injection h2 with h2
 rw [h2];exact Int.le_refl _

theorem aGb.trans {a b c:den tNw} (h:aGb a b) (g:aGb b c):aGb a c:=by
 refine ⟨g.1.trans h.1,fun k f f' h1 h2=> ?_⟩
 have hk:k<(aD b).length:=by rw [h.1];exact (List.getElem?_eq_some_iff.1 h1).1
 exact Int.le_trans (h.2 k f _ h1 (bT6 hk)) (g.2 k _ f' (bT6 hk) h2)

theorem bKp.same {s d:Int} {w w':den tNw} (h:bG w'=bG w):bKp s d w w':=by
 refine ⟨by rw [h],fun k x x' h1 h2=> .inl ?_⟩
 rw [h,h1] at h2
 injection h2 with h2
 exact h2.symm

def bLe (P:Nat→Prop) (w w':den tNw):Prop:=(bG w').length=(bG w).length∧ ∀ (k:Nat) (x x':den tIb),(bG w)[k]? =some x→(bG w')[k]? =some x'→x'.2.2.2.length=x.2.2.2.length∨(P k∧x'.2.2.2.length=x.2.2.2.length+1)

theorem bLe.same {P:Nat→Prop} {w w':den tNw} (h:bG w'=bG w):bLe P w w':=by
 refine ⟨by rw [h],fun k x x' h1 h2=> .inl ?_⟩
 rw [h,h1] at h2
 injection h2 with h2
 rw [h2]

theorem aUt {code:List Int} (hl:code.length<=1048576) {c:List Int} {p h:Int} (hc:Cur code (c,p,h)): ∃ v c' p' h',mE (c,p,h)=some (v,c',p',h')∧(-1<=v∧v<=1000001)∧Cur code (c',p',h'):=by
 obtain ⟨b1,c1,p1,h1,e1,k1⟩:=mO hl (n:=10) (by decide) (by decide) hc
 unfold mE pj3 pj4
 simp only [e1,aA]
 cases b1 with
 | true=>
  obtain ⟨v,c2,p2,h2,e2,r2,k2⟩:=qD hl (l:=[(-1:Int),1000000,1000001]) (by decide) (by decide) k1
  refine ⟨v,c2,p2,h2,by simp only [zZ,e2,aA],?_,k2⟩
  simp only [List.mem_cons,bUr,or_false] at r2
  rcases r2 with rfl | rfl | rfl<;>decide
 | false=>
  obtain ⟨v,c2,p2,h2,e2,r2,k2⟩:=aH hl (n:=200) (by decide) (by decide) k1
  exact ⟨v,c2,p2,h2,by simp only [zY,e2,aA],by omega,k2⟩

theorem bHs {code:List Int} (hl:code.length<=1048576) {c:List Int} {p h:Int} (hc:Cur code (c,p,h)): ∃ as ls c' p' h',aAj (c,p,h)=some (as,ls,c',p',h')∧as.length<=8∧ls.length<=101∧Cur code (c',p',h'):=by
 obtain ⟨as,ls,c1,p1,h1,e1,ht,k1⟩:=aP4 hl hc
 have hp:=ht.pos
 have hn:=ht.len
 have hk:=ht.links
 obtain ⟨k,c2,p2,h2,e2,r2,k2⟩:=aH hl (n:=(as.length:Int)) (by omega) (by omega) k1
 obtain ⟨v3,c3,p3,h3,e3,r3,k3⟩:=aH hl (n:=14) (by decide) (by decide) k2
 obtain ⟨i,rfl⟩:=bUu r2.1
 have hi:i<as.length:=by omega
 have d0:decide ((0:Int)<=(0:Int))=true:=by decide
 have d1:decide ((0:Int)<(as.length:Int))=true:=zX (by omega)
 have d2:decide ((0:Int)<=(i:Int))=true:=zX (by omega)
 have d3:decide ((i:Int)<(as.length:Int))=true:=zX (by omega)
 have g0:as[(0:Int).toNat]? =some (as[0]'(by omega)):=bT6 (show 0<as.length by omega)
 have gi:as[i]? =some (as[i]'hi):=bT6 hi
 unfold aAj dd ixb one pj2 pj3 pj5
 simp only [e1,e2,e3,aA,aP,bD,aW,aV,aX]
 cases v3==(0:Int) with
 | true=>
  obtain ⟨v4,c4,p4,h4,e4,_,k4⟩:=qD hl (l:=[(0:Int),(-1:Int),2147483647,(as[0]'(by omega)).2.2]) (by simp) (by simp) k3
  exact ⟨_,ls,c4,p4,h4,by simp only [zZ,d0,d1,d2,d3,g0,gi,bUf,e4,aA];rfl,by rw [bVu];exact hn,by omega,k4⟩
 | false=>
 cases v3==(1:Int) with
 | true=>
  obtain ⟨v4,c4,p4,h4,e4,_,k4⟩:=qD hl (l:=[(-1:Int),3,2]) (by simp) (by simp) k3
  exact ⟨_,ls,c4,p4,h4,by simp only [zZ,zY,d0,d1,d2,d3,g0,gi,bUf,e4,aA];rfl,by rw [bVu];exact hn,by omega,k4⟩
 | false=>
 cases v3==(2:Int) with
 | true=>exact ⟨_,ls,c3,p3,h3,by simp only [zZ,zY,d0,d1,d2,d3,g0,gi,bUf,aA];rfl,by rw [bVu];exact hn,by omega,k3⟩
 | false=>
 cases v3==(3:Int) with
 | true=>
  by_cases hz:(ls.length:Int)>0
  ·obtain ⟨v4,c4,p4,h4,e4,r4,k4⟩:=aH hl (n:=(ls.length:Int)) (by omega) (by omega) k3
   obtain ⟨j,rfl⟩:=bUu r4.1
   have hj:j<ls.length:=by omega
   refine ⟨as,ls++[ls[j]'hj],c4,p4,h4,?_,hn,by simp;omega,k4⟩
   simp only [zZ,zY,zX hz,e4,aA,zX (show (0:Int)<=(j:Int) by omega),zX (show (j:Int)<(ls.length:Int) by omega),bUf,bT6 hj,aE (b:=40) (n:=ls.length) (m:=1) (by decide) (by omega),aP,bD,aW,aV,aX]
  ·exact ⟨as,ls,c3,p3,h3,by simp only [zZ,zY,zW hz,aA],hn,by omega,k3⟩
 | false=>
 cases v3==(4:Int) with
 | true=>
  obtain ⟨v4,c4,p4,h4,e4,r4,k4⟩:=aH hl (n:=9) (by decide) (by decide) k3
  obtain ⟨v5,c5,p5,h5,e5,r5,k5⟩:=aH hl (n:=9) (by decide) (by decide) k4
  obtain ⟨v6,c6,p6,h6,e6,r6,k6⟩:=aH hl (n:=5) (by decide) (by decide) k5
  exact ⟨as,ls++[(wr (v4 - 1),6,v5,6,v6)],c6,p6,h6,by simp only [zZ,zY,e4,e5,e6,aA,aE (b:=40) (n:=ls.length) (m:=1) (by decide) (by omega),aP,bD,aW,aV,aX],hn,by simp;omega,k6⟩
 | false=>
 cases v3==(5:Int) with
 | true=>exact ⟨[],ls,c3,p3,h3,by simp only [zZ,zY,aA],by simp,by omega,k3⟩
 | false=>exact ⟨as,ls,c3,p3,h3,by simp only [zY,aA],hn,by omega,k3⟩

theorem bEa {code:List Int} (hl:code.length<=1048576) {c:List Int} {p h:Int} (hc:Cur code (c,p,h)): ∃ cap l us c' p' h',xO (c,p,h)=some (cap,l,us,c',p',h')∧l.length<=1000∧us.length<=1000∧Cur code (c',p',h'):=by
 obtain ⟨cap,l,us,c1,p1,h1,e1,hs,hu,k1⟩:=bHb hl hc
 have hr:l.length<=40:=hs.res.len
 obtain ⟨v2,c2,p2,h2,e2,r2,k2⟩:=aH hl (n:=12) (by decide) (by decide) k1
 unfold xO pj3 pj6 zz4 zz5
 simp only [e1,e2,aA,aP,bD,aW,aV,aX]
 cases v2==(0:Int) with
 | true=>
  obtain ⟨v4,c4,p4,h4,e4,_,k4⟩:=qD hl (l:=[(0:Int),1,20,21]) (by simp) (by simp) k2
  exact ⟨v4,l,us,c4,p4,h4,by simp only [zZ,e4,aA],by omega,by omega,k4⟩
 | false=>
 cases v2==(1:Int) with
 | true=>
  obtain ⟨v4,c4,p4,h4,e4,r4,k4⟩:=aH hl (n:=3) (by decide) (by decide) k2
  obtain ⟨v5,c5,p5,h5,e5,r5,k5⟩:=aH hl (n:=9) (by decide) (by decide) k4
  exact ⟨cap,l,us++[(v4,1,1,v5)],c5,p5,h5,by simp only [zZ,zY,e4,e5,aA,aE (b:=32) (n:=us.length) (m:=1) (by decide) (by omega),aP,bD,aW,aV,aX],by omega,by simp;omega,k5⟩
 | false=>
 cases v2==(2:Int) with
 | true=>
  obtain ⟨x1,x2,x3,x4,x5,c4,p4,h4,e4,k4⟩:=bHz hl k2
  exact ⟨cap,l++[(x1,x2,x3,x4,x5)],us,c4,p4,h4,by simp only [zZ,zY,e4,aA,aE (b:=40) (n:=l.length) (m:=1) (by decide) (by omega),aP,bD,aW,aV,aX],by simp;omega,by omega,k4⟩
 | false=>exact ⟨cap,l,us,c2,p2,h2,by simp only [zY,aA],by omega,by omega,k2⟩


structure bJs (w:den tNw):Prop where
 tot:Go.V.tot tNw w<=303000
 bytes:tB w
 flows:(aD w).length<=4
 fly:(aN w).length<=151
 as:(nT w).1.length<=8
 links:(nT w).2.length<=101
 dead:(aJ w).length<=101

def bJx (w:den tNw) (c:List Int) (p h:Int):q24:=
 ((nT w).1,(nT w).2,(nK w).1,(nK w).2,(nG w).1,(nG w).2.1,(nG w).2.2,aM w,aJ w,dB w,aN w,aD w,bG w,c,p,h)

theorem bM7 {l:List Int} {m:Nat} (h:aB7 m l):l.length<=m:=by
 have h1:=h.1
 have h2:=h.2
 have : ∀ (l:List Int) (a:Int),l.Pairwise (fun a b=>a<b)→(∀ n∈l,a<=n∧n<(m:Int))→(l.length:Int)<=max 0 ((m:Int) - a):=by
  intro l
  induction l with
  | nil=>intro a _ _;simp;omega
  | cons x l ih=>
   intro a hp hb
   obtain ⟨p1,p2⟩:=List.pairwise_cons.1 hp
   have hx:=hb x (by simp)
   have :=ih (x+1) p2 (fun n hn=>⟨by have :=p1 n hn;omega,(hb n (List.mem_cons_of_mem _ hn)).2⟩)
   rw [List.length_cons]
   omega
 have :=this l 0 h1 h2
 omega

theorem zH (as:lAS) (ls:lLk) (dn co:lSg) (cap:Int) (res:lRs) (us:lUs) (now:Int) (dead:List Int) (fly:lFy) (flows:lFl) (box:lIb) (drop:Int):tot tNw ((as,ls),(dn,co),(cap,res,us),now,dead,fly,flows,box,drop)=(as.length+ls.length)+((tot (.sl tSg) dn+tot (.sl tSg) co)+((0+(res.length+us.length))+(0+(dead.length+(tot (.sl tFy) fly+(tot (.sl tFl) flows+(tot (.sl tIb) box+0))))))):=by
 have :=eT ((as,ls),(dn,co),(cap,res,us),now,dead,fly,flows,box,drop)
 rw [this]
 show (tot (.sl tAS) as+tot (.sl tLk) ls)+((tot (.sl tSg) dn+tot (.sl tSg) co)+((0+(tot (.sl tRs) res+tot (.sl tUs) us))+(0+(tot (.sl ti) dead+(tot (.sl tFy) fly+(tot (.sl tFl) flows+(tot (.sl tIb) box+0)))))))=_
 rw [dD (t:=tAS) rfl,dD (t:=tLk) rfl,dD (t:=tRs) rfl,dD (t:=tUs) rfl,dD (t:=ti) rfl]

theorem aYf {t:Ty} {l:List (den t)} {x:den t} (h:tot t x=0):tot (.sl t) (l++[x])=tot (.sl t) l+1:=by rw [pU,aBq,h]

theorem bFy {code:List Int} (hl:code.length<=1048576) {most:Nat} (h0:0<most) (h1:most<=100) {c:List Int} {p h:Int} (hc:Cur code (c,p,h)): ∃ w c' p' h',vV (c,p,h) (most:Int)=some (bJx w c' p' h')∧bJs w∧Cur code (c',p',h'):=by
 obtain ⟨v,l,w,c1,p1,h1',e1,hv,hr,hn,k1⟩:=bGj hl h0 (by omega) hc
 have hR:=hr.run hv (by omega)
 have hV:=hr.runV hv (by omega)
 have ht:tot tNw w<=300000:=bT7 hR.keep.tot (by omega)
 have hf:=hR.keep.flows
 have hy:=hR.flyN
 have hdl:(aJ w).length<=100:=bT7 (bM7 hV.dead) hv.top.links
 have has:(nT w).1.length<=8:=by rw [hR.top];exact hv.top.len
 have hls:(nT w).2.length<=100:=by rw [hR.top];exact hv.top.links
 have hb:=hR.keep.bytes
 have base:bJs w:=⟨by omega,hb,hf,by omega,has,by omega,by omega⟩
 obtain ⟨v2,c2,p2,h2,e2,r2,k2⟩:=aH hl (n:=30) (by decide) (by decide) k1
 have nb:(bG w).length<=1000000:=by have :=eT w;have :=eU (t:=tIb) (bG w);omega
 clear hr hR hV hv
 obtain ⟨⟨as0,ls0⟩,⟨dn,co⟩,⟨cap0,res,us0⟩,now,dead,fly,flows,box,drop⟩:=w
 simp only [nT,nK,nG,aM,aJ,aN,aD,bG,dB] at ht hf hy hdl has hls nb e1
 have hN:=zH as0 ls0 dn co cap0 res us0 now dead fly flows box drop
 have bf: ∀ x∈fly,dE x.2.2:=hb.fly
 have bm: ∀ f∈flows,∀ m∈f.2.2.2.2.1,qN m:=hb.msg
 unfold vV ixb aZ5 pj2 pj3 pj4 aG aU bC cU zz4 zz5 zz6 zz7 zz8 zz9
 simp only [e1,e2,aA,aP,bD,aW,aV,aX]
 cases v2==(0:Int) with
 | true=>
  obtain ⟨as,ls,c3,p3,h3,e3,l1,l2,k3⟩:=bHs hl k2
  refine ⟨((as,ls),(dn,co),(cap0,res,us0),now,dead,fly,flows,box,drop),c3,p3,h3,by simp only [zZ,e3,aA];rfl,⟨?_,⟨bf,bm⟩,hf,by show fly.length<=151;omega,l1,l2,by show (dead).length<=101;omega⟩,k3⟩
  rw [zH]
  have a1:=dD (t:=tAS) (l:=as) rfl
  have a2:=dD (t:=tLk) (l:=ls) rfl
  omega
 | false=>
 cases v2==(1:Int) with
 | true=>
  obtain ⟨v3,c3,p3,h3,e3,r3,k3⟩:=aUt hl k2
  exact ⟨((as0,ls0),(dn,co),(cap0,res,us0),v3,dead,fly,flows,box,drop),c3,p3,h3,by simp only [zZ,zY,e3,aA];rfl,⟨base.tot,⟨bf,bm⟩,hf,base.fly,has,base.links,base.dead⟩,k3⟩
 | false=>
 cases v2==(2:Int) with
 | true=>
  obtain ⟨cap,l3,us,c3,p3,h3,e3,l1,l2,k3⟩:=bEa hl k2
  refine ⟨((as0,ls0),(dn,co),(cap,l3,us),now,dead,fly,flows,box,drop),c3,p3,h3,by simp only [zZ,zY,e3,aA];rfl,⟨?_,⟨bf,bm⟩,hf,base.fly,has,base.links,base.dead⟩,k3⟩
  rw [zH]
  have a1:=dD (t:=tRs) (l:=l3) rfl
  have a2:=dD (t:=tUs) (l:=us) rfl
  omega
 | false=>
 cases v2==(3:Int) with
 | true=>
  obtain ⟨v3,c3,p3,h3,e3,r3,k3⟩:=aH hl (n:=9) (by decide) (by decide) k2
  obtain ⟨v4,c4,p4,h4,e4,r4,k4⟩:=aH hl (n:=9) (by decide) (by decide) k3
  refine ⟨((as0,ls0),(dn,co),(cap0,res,us0),now,[v3,v4],fly,flows,box,drop),c4,p4,h4,by simp only [zZ,zY,e3,e4,aA];rfl,⟨?_,⟨bf,bm⟩,hf,base.fly,has,base.links,by show [v3,v4].length<=101;simp⟩,k4⟩
  rw [zH,show [v3,v4].length=2 from rfl]
  have a1:tot (.sl ti) [v3,v4]=2:=by rw [dD (t:=ti) rfl];rfl
  omega
 | false=>
 cases v2==(4:Int) with
 | true=>exact ⟨((as0,ls0),(dn,co),(cap0,res,us0),now,dead,fly,flows,box,(-1:Int)),c2,p2,h2,by simp only [zZ,zY,aA];rfl,⟨base.tot,⟨bf,bm⟩,hf,base.fly,has,base.links,base.dead⟩,k2⟩
 | false=>
 cases v2==(5:Int) with
 | true=>
  refine ⟨((as0,ls0),(dn,co),(cap0,res,us0),now,dead,fly,flows,box++[((0:Int),(1:Int),(0:Int),[])],drop),c2,p2,h2,by simp only [zZ,zY,bDm,aA,aE (b:=48) (n:=box.length) (m:=1) (by decide) (by omega)];rfl,⟨?_,⟨bf,bm⟩,hf,base.fly,has,base.links,base.dead⟩,k2⟩
  rw [zH,aYf rfl]
  omega
 | false=>
 cases v2==(6:Int) with
 | true=>
  by_cases hz:(flows.length:Int)>0
  ·obtain ⟨v3,c3,p3,h3,e3,r3,k3⟩:=aH hl (n:=6) (by decide) (by decide) k2
   have hg:flows[0]? =some (flows[0]'(by omega)):=bT6 (by omega)
   refine ⟨((as0,ls0),(dn,co),(cap0,res,us0),now,dead,fly,flows.set 0 (pV (flows[0]'(by omega)) v3 (flows[0]'(by omega)).2.2.2.2.2.2.2.1),box,drop),c3,p3,h3,?_,⟨?_,⟨bf,fun f hf'=> ?_⟩,by show (flows.set 0 _).length<=4;rw [bVu];exact hf,base.fly,has,base.links,base.dead⟩,k3⟩
   ·simp only [zZ,zY,zX hz,e3,aA,show decide ((0:Int)<=(0:Int))=true from rfl,zX (show (0:Int)<(flows.length:Int) by omega),show (0:Int).toNat=0 from rfl,hg]
    rfl
   ·rw [zH]
    have a1:=aKn (t:=tFl) (y:=pV (flows[0]'(by omega)) v3 (flows[0]'(by omega)).2.2.2.2.2.2.2.1) hg
    have a2:tot tFl (pV (flows[0]'(by omega)) v3 (flows[0]'(by omega)).2.2.2.2.2.2.2.1)=tot tFl (flows[0]'(by omega)):=rfl
    omega
   ·rcases List.mem_or_eq_of_mem_set (show f∈flows.set 0 _ from hf') with hf' | rfl
    ·exact bm f hf'
    ·have hm0:=bm _ (List.mem_of_getElem? hg)
     exact hm0
  ·exact ⟨((as0,ls0),(dn,co),(cap0,res,us0),now,dead,fly,flows,box,drop),c2,p2,h2,by simp only [zZ,zY,zW hz,aA];rfl,base,k2⟩
 | false=>
 cases v2==(7:Int) with
 | true=>
  obtain ⟨v3,c3,p3,h3,e3,r3,k3⟩:=aH hl (n:=9) (by decide) (by decide) k2
  refine ⟨((as0,ls0),(dn,co),(cap0,res,us0),now,dead,fly++[(v3,(0:Int),((0:Int),(0:Int),(0:Int),[],(0:Int),(0:Int),(0:Int),(0:Int),(0:Int),[]))],flows,box,drop),c3,p3,h3,by simp only [zZ,zY,e3,aA,aE (b:=128) (n:=fly.length) (m:=1) (by decide) (by omega)];rfl,⟨?_,⟨fun x hx=> ?_,bm⟩,hf,by show (fly++[_]).length<=151;simp;omega,has,base.links,base.dead⟩,k3⟩
  ·rw [zH,aYf rfl]
   omega
  ·rcases List.mem_append.1 (show x∈fly++[_] from hx) with hx | hx
   ·exact bf x hx
   ·rw [List.mem_singleton.1 hx]
    exact fun y hy=>(bUr hy).elim
 | false=>exact ⟨((as0,ls0),(dn,co),(cap0,res,us0),now,dead,fly,flows,box,drop),c2,p2,h2,by simp only [zY,aA];rfl,base,k2⟩

def ufR (k:den tPk) (r inn:Int) (as:lAS) (ls:lLk) (c:List Int) (p h:Int):q32:=
 (as,ls,k.1,k.2.1,k.2.2.1,k.2.2.2.2.1,k.2.2.2.2.2.1,k.2.2.2.2.2.2.1,k.2.2.2.2.2.2.2.1,k.2.2.2.2.2.2.2.2.1,r,inn,k.2.2.2.1,k.2.2.2.2.2.2.2.2.2,c,p,h)

def ufP (code:List Int) (o:Option q32):Prop:=
 ∃ k r inn as ls c' p' h',o=some (ufR k r inn as ls c' p' h')∧tot tPk k<=1100∧dE k∧Cur code (c',p',h')

abbrev UfS:=Int×Int×Int×Int×Int×Int×Int×Int×Int×Int×Int×lPp×lI

@[reducible] def ufS (n:Nat) (k:den tPk) (r inn:Int):UfS:=(r,inn,(n:Int),k.1,k.2.1,k.2.2.1,k.2.2.2.2.1,k.2.2.2.2.2.1,k.2.2.2.2.2.2.1,k.2.2.2.2.2.2.2.1,k.2.2.2.2.2.2.2.2.1,k.2.2.2.1,k.2.2.2.2.2.2.2.2.2)

theorem bBp {code:List Int} (hl:code.length<=1048576) {c:List Int} {p h:Int} (hc:Cur code (c,p,h)):ufP code (vF (c,p,h)):=by
 obtain ⟨as,ls,k,c1,p1,h1,e1,hk,ht,k1⟩:=aW1 hl hc
 have hkt:tot tPk k<=1100:=aG7 ⟨hk.path.e,hk.len,hk.bytes⟩
 obtain ⟨v2,c2,p2,h2,e2,r2,k2⟩:=aH hl (n:=4) (by decide) (by decide) k1
 obtain ⟨m2,rfl⟩:=bUu r2.1
 have sk: ∀ k:den tPk,tot tPk k<=1100→SmB 68719476736 tPk k:=fun k hk=>(bF hk).mono (by decide)
 have ec:cF (k.1,k.2.1,k.2.2.1,k.2.2.2.1,k.2.2.2.2.1,k.2.2.2.2.2.1,k.2.2.2.2.2.2.1,k.2.2.2.2.2.2.2.1,k.2.2.2.2.2.2.2.2.1,k.2.2.2.2.2.2.2.2.2)=some (cK k):=aAq (sk k hkt)
 have hn:=ht.len
 have hk2:=ht.links
 unfold vF aI pj3 pj5 aG aU bC zz4 zz5 zz6 zz7 zz8 zz9
 simp only [e1,e2,ec,aA,aP,bD,aW,aV,aX]
 refine fY (G:=ufP code) (fun (n:Nat) (s:UfS)=> ∃ k r inn,s=ufS n k r inn∧n<=4∧tot tPk k<=1100∧dE k) (fun r:((Int×Int×q5)⊕q32)=> ∃ k r' inn,tot tPk k<=1100∧dE k∧(r= .inl (r',inn,(ufR k r' inn as ls c2 p2 h2).2.2.1,k.2.1,k.2.2.1,k.2.2.2.2.1,k.2.2.2.2.2.1,k.2.2.2.2.2.2.1,k.2.2.2.2.2.2.2.1,k.2.2.2.2.2.2.2.2.1,k.2.2.2.1,k.2.2.2.2.2.2.2.2.2,c2,p2,h2)∨r= .inr (ufR k r' inn as ls c2 p2 h2))) ?_ m2 (ufS m2 k (cK k) 0) ⟨k,_,_,rfl,by omega,hkt,hk.bytes⟩ ?_
 ·rintro n s ⟨k,r,inn,rfl,h4,hkt,hkb⟩
  cases n with
  | zero=>exact .inl ⟨.inl _,rfl,k,r,inn,hkt,hkb,.inl rfl⟩
  | succ n=>
   simp only [ufS,zX (show ((n+1:Nat):Int)>(0:Int) by omega),zZ,aA]
   cases decide (r>=(0:Int)) with
   | false=>exact .inl ⟨.inl _,rfl,k,r,inn,hkt,hkb,.inl rfl⟩
   | true=>
    have hpt:tot tPt k.2.2.2.1<=1100:=by have :=aGh k;omega
    have ef:lR (as,ls) r 50 0 inn (k.1,k.2.1,k.2.2.1,k.2.2.2.1,k.2.2.2.2.1,k.2.2.2.2.2.1,k.2.2.2.2.2.2.1,k.2.2.2.2.2.2.2.1,k.2.2.2.2.2.2.2.2.1,k.2.2.2.2.2.2.2.2.2)=some (fwS (fwd (as,ls) r 50 0 inn k)):=bAe (p:=k) (by show as.length<=_;omega) (by show ls.length<=_;omega) (bT7 hkt (by decide)) (bT7 hpt (by decide))
    have er:=aB1 (t:=(as,ls)) (r:=r) (d:=(fwS (fwd (as,ls) r 50 0 inn k)).2.1) (by show ls.length<=_;omega)
    simp only [zZ,ef,er,aA]
    cases (fwS (fwd (as,ls) r 50 0 inn k)).1 != 0 with
    | true=>exact .inl ⟨.inr _,rfl,k,r,inn,hkt,hkb,.inr rfl⟩
    | false=>
     obtain ⟨i,j,b,eg⟩:=aHg (as,ls) r 50 0 inn k
     refine .inr ⟨n,ufS n (fwd (as,ls) r 50 0 inn k).2.2.1 (remote (as,ls) r (fwS (fwd (as,ls) r 50 0 inn k)).2.1).1 (remote (as,ls) r (fwS (fwd (as,ls) r 50 0 inn k)).2.1).2,by omega,?_,_,_,_,rfl,by omega,?_,?_⟩
     ·simp only [zY]
      rw [show wr (((n+1:Nat):Int) - 1)=(n:Int) by rw [bK (by omega) (by omega)];omega]
      rfl
     ·rw [eg];exact hkt
     ·rw [eg];exact hkb
 ·rintro r ⟨k,r',inn,hkt,hkb,rfl | rfl⟩
  ·exact ⟨k,r',inn,as,ls,c2,p2,h2,rfl,hkt,hkb,k2⟩
  ·exact ⟨k,r',inn,as,ls,c2,p2,h2,rfl,hkt,hkb,k2⟩

theorem aQs {code:List Int} (hl:code.length<=1048576): ∃ (k:den tPk) (r inn:Int) (as:lAS) (ls:lLk) (c':List Int) (p' h':Int),uB code=some (as,ls,k.1,k.2.1,k.2.2.1,k.2.2.2.1,k.2.2.2.2.1,k.2.2.2.2.2.1,k.2.2.2.2.2.2.1,k.2.2.2.2.2.2.2.1,k.2.2.2.2.2.2.2.2.1,r,inn,c',p',h',k.2.2.2.2.2.2.2.2.2)∧tot tPk k<=1100∧dE k∧Cur code (c',p',h'):=by
 obtain ⟨c0,p0,h0,e0,k0⟩:=aXj hl
 obtain ⟨k,r,inn,as,ls,c1,p1,h1,e1,hkt,hkb,k1⟩:=bBp hl k0
 obtain ⟨b2,c2,p2,h2,e2,k2⟩:=mO hl (n:=5) (by decide) (by decide) k1
 unfold uB pj3 pj4 aG aU bC cU iE zz4 zz5 zz6 zz7 zz8 zz9
 simp only [e0,e1,ufR,e2,aA,aP,bD,aW,aV,aX]
 cases b2 with
 | false=>exact ⟨k,r,inn,as,ls,c2,p2,h2,by simp only [zY,aA],hkt,hkb,k2⟩
 | true=>
  obtain ⟨as3,ls3,k3,c3,p3,h3,e3,hk3,_,k3'⟩:=aJr hl k2
  have h3t:=aG7 hk3
  have ec:cF (k3.1,k3.2.1,k3.2.2.1,k3.2.2.2.1,k3.2.2.2.2.1,k3.2.2.2.2.2.1,k3.2.2.2.2.2.2.1,k3.2.2.2.2.2.2.2.1,k3.2.2.2.2.2.2.2.2.1,k3.2.2.2.2.2.2.2.2.2)=some (cK k3):=aAq ((bF h3t).mono (by decide))
  exact ⟨k3,cK k3,inn,as3,ls3,c3,p3,h3,by simp only [zZ,e3,ec,aA],h3t,hk3.bytes,k3'⟩

def aOh (w w':den tNw):Prop:=(aN w').length<=(aN w).length+1

theorem aRp (w:den tNw) (r eg:Int) (p:den tPk):aOh w (lM w r eg p):=by
 unfold lM aOh
 split
 ·show (aN w++_).length<=_
  simp
 ·exact bU8 _

theorem aRb (w:den tNw) (r inn:Int) (p:den tPk):aOh w (proc0 w r inn p):=by
 unfold proc0
 split
 ·exact aRp _ _ _ _
 ·split
  ·exact bU8 _
  ·exact bU8 _

theorem bDt (w:den tNw) (r inn:Int) (p:den tPk):aOh w (bX w r inn p):=by
 unfold bX
 split
 ·exact aRp _ _ _ _
 ·split
  ·split
   ·unfold xV
    split
    ·exact bU8 _
    ·split
     ·exact aRb (qM w _ _) _ _ _
     ·exact bU8 _
   ·exact bU8 _
  ·split
   ·unfold aAs
    split
    ·exact aRb w r 0 (bQ r (aM w) (bL (nT w) (aM w) (aJ w) r inn p).2.2.2 p)
    ·exact bU8 (aN w).length
   ·exact bU8 _

def ppR (w:den tNw) (r inn:Int) (k:den tPk):q9:=
 ((nT w).1,(nT w).2,(nK w).1,(nK w).2,(nG w).1,(nG w).2.1,(nG w).2.2,aM w,aJ w,dB w,r,inn,k.1,k.2.1,k.2.2.1,k.2.2.2.1,k.2.2.2.2.1,k.2.2.2.2.2.1,k.2.2.2.2.2.2.1,k.2.2.2.2.2.2.2.1,k.2.2.2.2.2.2.2.2.1,k.2.2.2.2.2.2.2.2.2,aN w,aD w,bG w)

theorem bIg (x:den tFy):tot tFy x=tot tPk x.2.2:=by
 show 0+(0+tot tPk x.2.2)=_
 omega

theorem bCg {code:List Int} (hl:code.length<=1048576): ∃ w r inn k,fX code=some (ppR w r inn k)∧bJs w∧tot tPk k<=303000∧dE k:=by
 obtain ⟨c0,p0,h0,e0,k0⟩:=aXj hl
 obtain ⟨w,c1,p1,h1,e1,hw,k1⟩:=bFy hl (most:=25) (by decide) (by decide) k0
 have e1:vV (c0,p0,h0) (25:Int)=some (bJx w c1 p1 h1):=e1
 have hy:=hw.fly
 unfold fX xB dd ixb one aI uZ pj3 aG aU bC cU iE kZ qL xR yO yN aA4 aD3 zz4 zz5 zz6 zz7 zz8 zz9
 simp only [e0,e1,bJx,aA,aP,bD,aW,aV,aX]
 obtain ⟨b,c2,p2,h2,e2,k2,hb⟩: ∃ b c2 p2 h2,(cond (decide (((aN w).length:Int)>(0:Int))) (Option.bind (cD (c1,p1,h1) (4:Int)) fun y2=>some (!y2.1,y2.2.1,y2.2.2.1,y2.2.2.2)) (some (false,c1,p1,h1)))=some (b,c2,p2,h2)∧Cur code (c2,p2,h2)∧(b=true→((aN w).length:Int)>0):=by
  by_cases hz:((aN w).length:Int)>0
  ·obtain ⟨b,c2,p2,h2,e2,k2⟩:=mO hl (n:=4) (by decide) (by decide) k1
   exact ⟨!b,c2,p2,h2,by simp only [zX hz,zZ,e2,aA],k2,fun _=>hz⟩
  ·exact ⟨false,c1,p1,h1,by simp only [zW hz,zY],k1,fun h=>by cases h⟩
 rw [e2,aA]
 cases b with
 | true=>
  have hz:=hb rfl
  obtain ⟨v3,c3,p3,h3,e3,r3,k3⟩:=aH hl (n:=((aN w).length:Int)) (by omega) (by omega) k2
  obtain ⟨i,rfl⟩:=bUu r3.1
  have hi:i<(aN w).length:=by omega
  have hx:=bUj hi
  refine ⟨w,(aN w)[i].1,(aN w)[i].2.1,(aN w)[i].2.2,?_,hw,?_,hw.bytes.fly _ hx⟩
  ·simp only [zZ,e3,aA,zX (show (0:Int)<=(i:Int) by omega),zX (show (i:Int)<((aN w).length:Int) by omega),bUf,bT6 hi]
   rfl
  ·have h4:=yB (t:=tFy) (bT6 hi)
   have h5:=eT w
   have h6:=hw.tot
   rw [bIg] at h4
   omega
 | false=>
  obtain ⟨as,ls,k,c3,p3,h3,e3,hk,_,k3⟩:=aJr hl k2
  obtain ⟨v4,c4,p4,h4,e4,_,k4⟩:=aH hl (n:=6) (by decide) (by decide) k3
  obtain ⟨v5,c5,p5,h5,e5,_,k5⟩:=aH hl (n:=4) (by decide) (by decide) k4
  refine ⟨w,v4,v5,k,?_,hw,bT7 (aG7 hk) (by decide),hk.bytes⟩
  simp only [zY,e3,e4,e5,aA]
  rfl

theorem bA2 {code:List Int} (hl:code.length<=1048576): ∃ k:den tPk,hZ code=some (k.1,k.2.1,k.2.2.1,k.2.2.2.1,k.2.2.2.2.1,k.2.2.2.2.2.1,k.2.2.2.2.2.2.1,k.2.2.2.2.2.2.2.1,k.2.2.2.2.2.2.2.2.1,k.2.2.2.2.2.2.2.2.2)∧tot tPk k<=1100∧dE k:=by
 obtain ⟨k,r,inn,as,ls,c1,p1,h1,e1,hk,hb,k1⟩:=aQs hl
 exact ⟨k,by unfold hZ aG qL zz4 zz5 zz6 zz7 zz8 zz9;rw [e1];rfl,hk,hb⟩

theorem bBd {code:List Int} (hl:code.length<=1048576): ∃ (k:den tPk) (r now d:Int) (as:lAS) (ls:lLk),fK code=some (as,ls,r,now,d,k.1,k.2.1,k.2.2.1,k.2.2.2.1,k.2.2.2.2.1,k.2.2.2.2.2.1,k.2.2.2.2.2.2.1,k.2.2.2.2.2.2.2.1,k.2.2.2.2.2.2.2.2.1,k.2.2.2.2.2.2.2.2.2)∧tot tPk k<=1100∧dE k:=by
 obtain ⟨k,r,inn,as,ls,c1,p1,h1,e1,hk,hb,k1⟩:=aQs hl
 obtain ⟨v2,c2,p2,h2,e2,_,k2⟩:=aUt hl k1
 obtain ⟨v3,c3,p3,h3,e3,_,k3⟩:=aH hl (n:=6) (by decide) (by decide) k2
 refine ⟨k,r,v2,wr (1+v3),as,ls,?_,hk,hb⟩
 unfold fK pj3 aG aU bC cU iE kZ qL zz4 zz5 zz6 zz7 zz8 zz9
 simp only [e1,e2,e3,aA,aP,bD,aW,aV,aX]

theorem bIv (w:den tNw) (r eg:Int) (p:den tPk):(aN (lM w r eg p)=aN w++[((remote (nT w) r eg).1,(remote (nT w) r eg).2,p)]∧dB (lM w r eg p)=dB w)∨aN (lM w r eg p)=aN w:=by
 unfold lM
 split
 ·exact .inl ⟨rfl,rfl⟩
 ·exact .inr rfl

theorem bJ2 {w:den tNw} {r inn:Int} {p:den tPk} (h:((bL (nT w) (aM w) (aJ w) r inn p).1==0)=true):(aN (bX w r inn p)=aN w++[((remote (nT w) r (bL (nT w) (aM w) (aJ w) r inn p).2.1).1,(remote (nT w) r (bL (nT w) (aM w) (aJ w) r inn p).2.1).2,(bL (nT w) (aM w) (aJ w) r inn p).2.2.1)]∧dB (bX w r inn p)=dB w)∨aN (bX w r inn p)=aN w:=by
 unfold bX
 rw [zT h]
 exact bIv _ _ _ _

theorem bJz {w:den tNw} {r inn:Int} {p:den tPk} (h1:(bL (nT w) (aM w) (aJ w) r inn p).1>=2) (h2:(bL (nT w) (aM w) (aJ w) r inn p).1<=6):bX w r inn p=vW w:=by
 generalize hv:bL (nT w) (aM w) (aJ w) r inn p=v at h1 h2
 have a0:(v.1==0)=false:=by rw [beq_eq_false_iff_ne];omega
 have a1:(v.1==1)=false:=by rw [beq_eq_false_iff_ne];omega
 have a7:(v.1==7)=false:=by rw [beq_eq_false_iff_ne];omega
 unfold bX
 rw [hv]
 simp only [a0,a1,a7,Bool.false_and,Bool.false_eq_true,zU]

end Go.Proofs.YtecighmpdcffcaaGreat
