/-
  Facts and plain laws: what the functions compute, in plain words. Conditions: as each says.
-/
import Derived.Test.YtejfajiolkojlaaGreatQ0XProcessPacket
set_option linter.unusedVariables false
set_option linter.unusedSimpArgs false
set_option maxRecDepth 100000
namespace Go.Proofs.YtejfajiolkojlaaGreat
open Go.Ab Go.V
theorem s_tellW {w:den tNw} {r:Int} {p:den tPk} (hk3:(p.1==2)=false) (hF: ∀ f∈nFlows w,tot tFl f≤1073741824) (hl:(nFlows w).length≤1073741824) (hp:tot tPk p≤1073741824) (hb:bytesP p):s_l37Tell w r p=some (netR (tellW w r p)):=by
 unfold s_l37Tell
 refine loopSet (fun k (a:List (den tFl))=>((k:Int),a)) (nFlows w) (toldF r p) (fun l=>netR (setFlows w l)) (Nat.le_trans hl (by decide)) (fun k f a ha hx hm hk hd hw=> ?_) (fun a ha=> ?_)
 ·obtain ⟨d1,d2⟩:=dec_len ha hk
  simp only [d1,d2,pos_nat,Int.toNat_natCast,hx,cond_true,obind_some,peta,s_handR (hF f hm) hp hb,both_self,dup_self,dup3_self,dup4_self,dup5_self,hw]
  unfold toldF
  rw [hk3]
  cases f.1==r
  ·simp only [cond_false,Bool.false_eq_true,if_false,obind_some,set_same hx]
  ·simp only [cond_true,if_true,obind_some,Bool.false_eq_true,if_false]
   rfl
 ·show cond (decide ((((nFlows w).length:Nat):Int)<(a.length:Int))) _ _=_
  rw [ha,decide_eq_false (by omega)]
  rfl

theorem s_ackW {w:den tNw} {r:Int} {p:den tPk} (hk2:(p.1==2)=true) (hF: ∀ f∈nFlows w,tot tFl f≤1073741824) (hl:(nFlows w).length≤1073741824) {step:Int×List (den tFl)→Option ((Int×List (den tFl))⊕_)}
  (hs: ∀ (k:Nat) (f:den tFl) (a:List (den tFl)),a.length=(nFlows w).length→a[k]? =some f→f∈nFlows w→k<(nFlows w).length→step ((k:Int),a)=some (.inl (((k+1:Nat):Int),a.set k (toldF r p f)))) (he: ∀ a,a.length=(nFlows w).length→step (((nFlows w).length:Int),a)=some (.inr (netR (setFlows w a)))):loopM step ((0:Int),nFlows w)=some (netR (tellW w r p)):=
 loopSet (fun k (a:List (den tFl))=>((k:Int),a)) (nFlows w) (toldF r p) (fun l=>netR (setFlows w l)) (Nat.le_trans hl (by decide)) (fun k f a ha hx hm hk hd hw=>hs k f a ha hx hm hk) (fun a ha=>he a ha)

theorem goTo_self (p:den tPk):goTo p p.2.2.2.2.1 p.2.2.2.2.2.1 p.2.2.2.2.2.2.1=p:=rfl

theorem sealed_goTo (t:den tTo) (p:den tPk): ∃ b,sealed t p=goTo p p.2.2.2.2.1 p.2.2.2.2.2.1 b:=by
 unfold sealed
 split
 ·exact ⟨_,rfl⟩
 ·exact ⟨_,(goTo_self p).symm⟩

theorem adv_goTo (p:den tPk): ∃ i j b,adv p=goTo p i j b:=by
 unfold adv
 split
 ·exact ⟨_,_,_,(goTo_self p).symm⟩
 ·split<;>exact ⟨_,_,_,rfl⟩

theorem goC_goTo {t:den tTo} {now:Int}: ∀ (n:Nat) (p:den tPk),∃ i j b,(goC t now n p).2=goTo p i j b
 | 0,p=>by obtain ⟨b,hb⟩:=sealed_goTo t p;exact ⟨_,_,_,hb⟩
 | n+1,p=>by
  obtain ⟨b,hb⟩:=sealed_goTo t p
  unfold goC
  split
  ·obtain ⟨i,j,c,h1⟩:=goC_goTo (t:=t) (now:=now) n (adv (sealed t p))
   obtain ⟨i',j',c',h2⟩:=adv_goTo (sealed t p)
   rw [h1,h2,hb]
   exact ⟨_,_,_,rfl⟩
  ·exact ⟨_,_,_,hb⟩

theorem fwd_goTo (t:den tTo) (r now dead inn:Int) (p:den tPk): ∃ i j b,(fwd t r now dead inn p).2.2.1=goTo p i j b:=by
 obtain ⟨i,j,b,h⟩: ∃ i j b,(gone t now p).2=goTo p i j b:=goC_goTo _ p
 unfold fwd
 repeat' split
 all_goals first
  | exact ⟨_,_,_,(goTo_self p).symm⟩
  | exact ⟨_,_,_,h⟩
  | (obtain ⟨i',j',b',h'⟩:=adv_goTo (gone t now p).2;exact ⟨_,_,_,by rw [show (0,pEg (curPt (gone t now p).2) (curHp (gone t now p).2),adv (gone t now p).2,pEg (curPt (gone t now p).2) (curHp (gone t now p).2)).2.2.1=adv (gone t now p).2 from rfl,h',h];rfl⟩)


theorem fwd_keeps (t:den tTo) (r now dead inn:Int) (p:den tPk):(fwd t r now dead inn p).2.2.1.1=p.1∧(fwd t r now dead inn p).2.2.1.2.1=p.2.1∧(fwd t r now dead inn p).2.2.1.2.2.2.2.2.2.2.1=p.2.2.2.2.2.2.2.1∧(fwd t r now dead inn p).2.2.1.2.2.2.2.2.2.2.2.2=p.2.2.2.2.2.2.2.2.2:=by
 obtain ⟨i,j,b,h⟩:=fwd_goTo t r now dead inn p
 rw [h]
 exact ⟨rfl,rfl,rfl,rfl⟩

theorem fwd_valid {t:den tTo} {r now dead inn:Int} {p:den tPk} (h:((fwd t r now dead inn p).1==2)=false):validK p=true:=by
 cases hv:validK p with
 | true=>rfl
 | false=>
  unfold fwd at h
  rw [hv] at h
  cases h

def dropW (w:den tNw):den tNw:=(nT w,nK w,nG w,nNow w,nDead w,nFly w,nFlows w,nBox w,wr (nDrop w+1))

def sendW (w:den tNw) (r eg:Int) (p:den tPk):den tNw:=
 if (transU (nG w) p.2.2.2.2.2.2.2.1 r eg (nNow w)).2.1&&decide ((nFly w).length<150) then
  (nT w,nK w,((transU (nG w) p.2.2.2.2.2.2.2.1 r eg (nNow w)).1,(transU (nG w) p.2.2.2.2.2.2.2.1 r eg (nNow w)).2.2.1,(transU (nG w) p.2.2.2.2.2.2.2.1 r eg (nNow w)).2.2.2),nNow w,nDead w,nFly w++[((remote (nT w) r eg).1,(remote (nT w) r eg).2,p)],nFlows w,nBox w,nDrop w)
 else dropW w


structure NetOk (w:den tNw):Prop where
 as:(nT w).1.length≤68719476736
 links:(nT w).2.length≤1073741824
 dead:(nDead w).length≤68719476736
 res:(nG w).2.1.length≤1073741824
 use:(nG w).2.2.length≤1073741824
 flowsN:(nFlows w).length≤1073741824
 flows: ∀ f∈nFlows w,tot tFl f≤1073741824

theorem i_sendW {w:den tNw} {r:Int} {v:den tVerdict} (h:NetOk w):i_Network_send w r v=some (netR (sendW w r v.2.1 v.2.2)):=by
 unfold i_Network_send sendW
 simp only [peta,i_trans h.res h.use,obind_some,both_self,dup_self,dup3_self,dup4_self,dup5_self]
 have key: ∀ n:Nat,decide ((n:Int)≥150)= !decide (n<150):=fun n=>by rw [Bool.eq_iff_iff];simp only [decide_eq_true_eq,Bool.not_eq_true',decide_eq_false_iff_not];omega
 have h150:decide ((w.2.2.2.2.2.1.length:Int)≥150)= !decide ((nFly w).length<150):=key _
 rw [h150]
 cases ct:(transU (nG w) v.2.2.2.2.2.2.2.2.2.1 r v.2.1 (nNow w)).2.1
 ·simp only [Bool.not_false,cond_true,obind_some,Bool.false_and,Bool.false_eq_true,if_false]
  rfl
 ·by_cases hl:(nFly w).length<150
  ·rw [decide_eq_true hl]
   simp only [Bool.not_true,cond_false,obind_some,Bool.and_self,if_true,i_remote (t:=w.1) (Nat.le_trans h.links (by decide)),apOk_le (b:=128) (n:=w.2.2.2.2.2.1.length) (m:=1) (by decide) (show (nFly w).length+1≤_ by omega),cond_true]
   rfl
  ·rw [decide_eq_false hl]
   simp only [Bool.not_true,Bool.not_false,cond_true,cond_false,obind_some,Bool.and_false,Bool.false_eq_true,if_false]
   rfl

def proc0 (w:den tNw) (r inn:Int) (p:den tPk):den tNw:=
 if (stepV (nT w) (nNow w) (nDead w) r inn p).1==0 then sendW w r (stepV (nT w) (nNow w) (nDead w) r inn p).2.1 (stepV (nT w) (nNow w) (nDead w) r inn p).2.2.1
 else if (stepV (nT w) (nNow w) (nDead w) r inn p).1==1 then tellW w r (stepV (nT w) (nNow w) (nDead w) r inn p).2.2.1
 else dropW w


structure PkOk (p:den tPk):Prop where
 sz:tot tPk p≤1073741824
 by_:bytesP p

theorem PkOk.step {p:den tPk} (h:PkOk p) (t:den tTo) (now:Int) (dead:List Int) (r inn:Int):PkOk (stepV t now dead r inn p).2.2.1 where
 sz:=by unfold stepV;rw [fwd_tot];exact h.sz
 by_:=fun x hx=>h.by_ x (by unfold stepV at hx;rwa [(fwd_keeps t r now _ inn p).2.2.2] at hx)

theorem i_proc0 {w:den tNw} {r inn:Int} {p:den tPk} (h:NetOk w) (hp:PkOk p) (hk:(p.1==1)=false):i_Network_process'1 w r inn p=some (netR (proc0 w r inn p)):=by
 have hp2:tot tPt p.2.2.2.1≤1073741824:=pk_tot hp.sz
 have hs:=hp.step (nT w) (nNow w) (nDead w) r inn
 unfold i_Network_process'1 i_Network_process.b
 simp only [peta,i_deadE h.links h.dead,i_fwd h.as (Nat.le_trans h.links (by decide)) (Nat.le_trans hp.sz (by decide)) hp2,obind_some,both_self,dup_self,dup3_self,dup4_self,dup5_self,hk]
 rw [show fwd w.1 r w.2.2.2.1 (deadE w.1 w.2.2.2.2.1 r) inn p=stepV (nT w) (nNow w) (nDead w) r inn p from rfl]
 unfold proc0
 generalize stepV (nT w) (nNow w) (nDead w) r inn p=v at hs
 simp only [fwI,peta]
 cases c0:v.1==0
 ·cases c1:v.1==1
  ·cases v.1==7
   ·simp only [cond_false,obind_some,Bool.false_eq_true,if_false];rfl
   ·simp only [cond_true,cond_false,obind_some,Bool.false_eq_true,if_false];rfl
  ·simp only [cond_true,cond_false,obind_some,Bool.false_eq_true,if_false,if_true,i_tellW h.flows h.flowsN hs.sz hs.by_]
 ·simp only [cond_true,if_true,i_sendW h,obind_some]

theorem vi_bytes: ∀ (k n:Nat),n<128 ^ (k+1)→ ∀ x∈vi k n,0≤x∧x≤255
 | 0,n,h,x,hx=>by
  have :x=(n:Int):=by simpa [vi] using hx
  subst this
  have :128 ^ (0+1)=128:=rfl
  omega
 | k+1,n,h,x,hx=>by
  unfold vi at hx
  split at hx
  ·have :x=(n:Int):=by simpa using hx
   subst this
   omega
  ·rcases List.mem_cons.1 hx with rfl | hx
   ·omega
   ·refine vi_bytes k (n / 128) ?_ x hx
    rw [Nat.div_lt_iff_lt_mul (by decide)]
    rwa [← Nat.pow_succ]

def bytesL (l:List Int):Prop:= ∀ x∈l,0≤x∧x≤255

theorem encI_bytes {b:List Int} {n:Int} (h:bytesL b):bytesL (encI b n):=by
 unfold encI
 split
 ·rename_i hr
  have :=inR_iff.1 hr
  intro x hx
  rcases List.mem_append.1 hx with hx | hx
  ·exact h x hx
  ·exact vi_bytes 5 n.toNat (by have :128 ^ (5+1)=4398046511104:=rfl;omega) x hx
 ·exact h

theorem encL_bytes: ∀ (l b:List Int),bytesL b→bytesL (encL b l)
 | [],b,h=>h
 | x::xs,b,h=>encL_bytes xs (encI b x) (encI_bytes h)

theorem encV_bytes (x:den tRv):bytesL (encV x):=by
 unfold encV
 split
 ·exact encL_bytes _ _ (fun x hx=>by cases hx)
 ·exact fun x hx=>by cases hx

theorem note_ok {r now d:Int} {p:den tPk} (h:tot tPk p≤536870912):PkOk (noteP r now d p) where
 sz:=by have :=noteP_tot r now d p;omega
 by_:=encV_bytes _

theorem ack_ok {x:den tIb} {p:den tPk} (h:PkOk p):PkOk (mkAck x p) where
 sz:=Nat.le_trans (mkAck_tot x p) h.sz
 by_:=by
  unfold mkAck
  split
  ·exact fun x hx=>by cases hx
  ·exact fun x hx=>by cases hx

theorem i_findX {l:List (den tIb)} {a b:Int} (h:l.length≤68719476736):i_FindInbox l a b=some (findX l a b):=by
 unfold i_FindInbox findX
 rw [loop_scan (l:=l) (fun k x=>if atFrom a b x then some (k:Int) else none) (by omega) (fun k x hi hd hw hm hk=>by
  simp only [hd,hi,hw,cond_true,obind_some]
  unfold atFrom
  cases x.1==a<;>cases x.2.1==b<;>rfl) (by simp),scan_find (atFrom a b)]
 cases l.findIdx? (atFrom a b)<;>rfl

theorem findX_at (l:List (den tIb)) (a b:Int):findX l a b= -1∨ ∃ (k:Nat) (x:den tIb),findX l a b=(k:Int)∧l[k]? =some x:=by
 unfold findX
 cases h:l.findIdx? (atFrom a b) with
 | none=>exact .inl rfl
 | some i=>
  have hlt:i<l.length:=by
   have :=List.findIdx?_eq_some_iff_findIdx_eq.1 h
   exact this.1
  exact .inr ⟨i,l[i],by simp,List.getElem?_eq_getElem hlt⟩

def setBox (w:den tNw) (i:Nat) (x:den tIb):den tNw:=(nT w,nK w,nG w,nNow w,nDead w,nFly w,nFlows w,(nBox w).set i x,nDrop w)

def boxAt (w:den tNw) (i:Nat):den tIb:=((nBox w)[i]?).getD (0,0,0,[])


def dataW (w:den tNw) (r:Int) (p:den tPk):den tNw:=
 if findX (nBox w) r p.2.1<0 then w
 else if ackB (handD (boxAt w (findX (nBox w) r p.2.1).toNat) p) p then
  proc0 (setBox w (findX (nBox w) r p.2.1).toNat (handD (boxAt w (findX (nBox w) r p.2.1).toNat) p)) r 0 (mkAck (handD (boxAt w (findX (nBox w) r p.2.1).toNat) p) p)
 else setBox w (findX (nBox w) r p.2.1).toNat (handD (boxAt w (findX (nBox w) r p.2.1).toNat) p)

def noteW (w:den tNw) (r d:Int) (p:den tPk):den tNw:=
 dropW (if (steps (truncP p)).length>1 then proc0 w r 0 (noteP r (nNow w) d p) else tellW w r (noteP r (nNow w) d p))

def procW (w:den tNw) (r inn:Int) (p:den tPk):den tNw:=
 if (stepV (nT w) (nNow w) (nDead w) r inn p).1==0 then sendW w r (stepV (nT w) (nNow w) (nDead w) r inn p).2.1 (stepV (nT w) (nNow w) (nDead w) r inn p).2.2.1
 else if (stepV (nT w) (nNow w) (nDead w) r inn p).1==1 then
  (if p.1==1 then dataW w r (stepV (nT w) (nNow w) (nDead w) r inn p).2.2.1 else tellW w r (stepV (nT w) (nNow w) (nDead w) r inn p).2.2.1)
 else if (stepV (nT w) (nNow w) (nDead w) r inn p).1==7&&p.1==1 then noteW w r (stepV (nT w) (nNow w) (nDead w) r inn p).2.2.2 p
 else dropW w

theorem netOk_box {w:den tNw} (h:NetOk w) {i:Nat} {x:den tIb}:NetOk (setBox w i x):=⟨h.as,h.links,h.dead,h.res,h.use,h.flowsN,h.flows⟩

theorem mkAck_kind {x:den tIb} {p:den tPk} (h:ackB x p=true):((mkAck x p).1==1)=false:=by
 unfold mkAck
 rw [h]
 rfl

theorem i_procW {w:den tNw} {r inn:Int} {p:den tPk} (h:NetOk w) (hbn:(nBox w).length≤68719476736) (hbx: ∀ x∈nBox w,tot tIb x≤1073741824) (hz:tot tPk p≤536870912) (hb:bytesP p):i_Network_process w r inn p=some (netR (procW w r inn p)):=by
 have hp:PkOk p:=⟨by omega,hb⟩
 have hp2:tot tPt p.2.2.2.1≤1073741824:=pk_tot hp.sz
 have hs:=hp.step (nT w) (nNow w) (nDead w) r inn
 have hkeep:=fwd_keeps w.1 r w.2.2.2.1 (deadE w.1 w.2.2.2.2.1 r) inn p
 unfold i_Network_process i_Network_process.b
 simp only [peta,i_deadE h.links h.dead,i_fwd h.as (Nat.le_trans h.links (by decide)) (Nat.le_trans hp.sz (by decide)) hp2,obind_some,both_self,dup_self,dup3_self,dup4_self,dup5_self]
 rw [show fwd w.1 r w.2.2.2.1 (deadE w.1 w.2.2.2.2.1 r) inn p=stepV (nT w) (nNow w) (nDead w) r inn p from rfl] at hkeep ⊢
 unfold procW
 generalize stepV (nT w) (nNow w) (nDead w) r inn p=v at hs hkeep
 simp only [fwI,peta]
 cases c0:v.1==0
 ·cases c1:v.1==1
  ·cases c7:v.1==7
   ·simp only [cond_false,obind_some,Bool.false_eq_true,if_false,Bool.false_and];rfl
   ·cases ck:p.1==1
    ·simp only [cond_true,cond_false,obind_some,Bool.false_eq_true,if_false,Bool.and_false];rfl
    ·have hn:PkOk (noteP r (nNow w) v.2.2.2 p):=note_ok hz
     have ht1:tot tPt (truncP p)≤34359738368:=Nat.le_trans (truncP_tot p) (Nat.le_trans hp2 (by decide))
     have hlen:decide (((steps (truncP p)).length:Int)>1)=decide ((steps (truncP p)).length>1):=by rw [Bool.eq_iff_iff];simp only [decide_eq_true_eq,gt_iff_lt];omega
     have e1:i_Network_process'1 w r 0 ((pkR (noteP r w.2.2.2.1 v.2.2.2 p)).1,(pkR (noteP r w.2.2.2.1 v.2.2.2 p)).2.1,(pkR (noteP r w.2.2.2.1 v.2.2.2 p)).2.2.1,(pkR (noteP r w.2.2.2.1 v.2.2.2 p)).2.2.2.2.2.2.2.2.1,(pkR (noteP r w.2.2.2.1 v.2.2.2 p)).2.2.2.1,(pkR (noteP r w.2.2.2.1 v.2.2.2 p)).2.2.2.2.1,(pkR (noteP r w.2.2.2.1 v.2.2.2 p)).2.2.2.2.2.1,(pkR (noteP r w.2.2.2.1 v.2.2.2 p)).2.2.2.2.2.2.1,(pkR (noteP r w.2.2.2.1 v.2.2.2 p)).2.2.2.2.2.2.2.1,(pkR (noteP r w.2.2.2.1 v.2.2.2 p)).2.2.2.2.2.2.2.2.2)=some (netR (proc0 w r 0 (noteP r (nNow w) v.2.2.2 p))):=i_proc0 h hn rfl
     have e2:i_Network_tell w r ((pkR (noteP r w.2.2.2.1 v.2.2.2 p)).1,(pkR (noteP r w.2.2.2.1 v.2.2.2 p)).2.1,(pkR (noteP r w.2.2.2.1 v.2.2.2 p)).2.2.1,(pkR (noteP r w.2.2.2.1 v.2.2.2 p)).2.2.2.2.2.2.2.2.1,(pkR (noteP r w.2.2.2.1 v.2.2.2 p)).2.2.2.1,(pkR (noteP r w.2.2.2.1 v.2.2.2 p)).2.2.2.2.1,(pkR (noteP r w.2.2.2.1 v.2.2.2 p)).2.2.2.2.2.1,(pkR (noteP r w.2.2.2.1 v.2.2.2 p)).2.2.2.2.2.2.1,(pkR (noteP r w.2.2.2.1 v.2.2.2 p)).2.2.2.2.2.2.2.1,(pkR (noteP r w.2.2.2.1 v.2.2.2 p)).2.2.2.2.2.2.2.2.2)=some (netR (tellW w r (noteP r (nNow w) v.2.2.2 p))):=i_tellW h.flows h.flowsN hn.sz hn.by_
     simp only [cond_true,cond_false,obind_some,Bool.false_eq_true,if_false,Bool.and_self,if_true,i_noteP (t:=w.1) (r:=r) (now:=w.2.2.2.1) (d:=v.2.2.2) (Nat.le_trans hp.sz (by decide)),i_truncP (pk_sm (p:=p) (by omega)),both_self,dup_self,dup3_self,dup4_self,dup5_self]
     unfold i_PathLength
     simp only [i_steps ht1,obind_some,hlen,e1,e2]
     unfold noteW
     cases hd:decide ((steps (truncP p)).length>1)
     ·rw [if_neg (of_decide_eq_false hd)];rfl
     ·rw [if_pos (of_decide_eq_true hd)];rfl
  ·cases ck:p.1==1
   ·simp only [cond_true,cond_false,obind_some,Bool.false_eq_true,if_false,if_true,i_tellW h.flows h.flowsN hs.sz hs.by_]
   ·simp only [cond_true,cond_false,obind_some,Bool.false_eq_true,if_false,if_true,i_findX hbn]
    unfold dataW
    rw [hkeep.2.1]
    rcases findX_at (nBox w) r p.2.1 with hf | ⟨k,x,hf,hx⟩
    ·rw [show findX w.2.2.2.2.2.2.2.1 r p.2.1= -1 from hf]
     rfl
    ·have hlt:=(List.getElem?_eq_some_iff.1 hx).1
     have hx0:w.2.2.2.2.2.2.2.1[k]? =some x:=hx
     have hxm:=hbx x (List.mem_of_getElem? hx)
     have hxs:SmB 4294967296 tIb x:=(sm_of_tot hxm).mono (by decide)
     have hvs:SmB 4294967296 tPk v.2.2.1:=(sm_of_tot hs.sz).mono (by decide)
     have hd1:decide ((k:Int)<(w.2.2.2.2.2.2.2.1.length:Int))=true:=decide_eq_true (by have :k<w.2.2.2.2.2.2.2.1.length:=hlt;omega)
     have hd2:decide (k<w.2.2.2.2.2.2.2.1.length)=true:=decide_eq_true hlt
     have hset:(w.2.2.2.2.2.2.2.1.set k (handD x v.2.2.1))[k]? =some (handD x v.2.2.1):=List.getElem?_set_self hlt
     have hba:boxAt w k=x:=by unfold boxAt;rw [hx];rfl
     rw [show findX w.2.2.2.2.2.2.2.1 r p.2.1=(k:Int) from hf,decide_eq_false (show ¬ (k:Int)<0 by omega),if_neg (show ¬ (k:Int)<0 by omega),Int.toNat_natCast,hba]
     have e1:i_Network_process'1 (w.1,w.2.1,w.2.2.1,w.2.2.2.1,w.2.2.2.2.1,w.2.2.2.2.2.1,w.2.2.2.2.2.2.1,w.2.2.2.2.2.2.2.1.set k (handD x v.2.2.1),w.2.2.2.2.2.2.2.2) r 0 (mkAck (handD x v.2.2.1) v.2.2.1)=some (netR (proc0 (setBox w k (handD x v.2.2.1)) r 0 (mkAck (handD x v.2.2.1) v.2.2.1))):=by
      cases ca:ackB (handD x v.2.2.1) v.2.2.1 with
      | true=>exact i_proc0 (netOk_box h) (ack_ok hs) (mkAck_kind ca)
      | false=>exact i_proc0 (netOk_box h) (ack_ok hs) (by unfold mkAck;rw [ca];rfl)
     simp only [cond_false,pos_nat,hd1,hd2,cond_true,hx0,obind_some,i_handD hxs hvs,List.length_set,hset,i_mkAck (x:=handD x v.2.2.1) (p:=v.2.2.1) (Nat.le_trans (pk_tot hs.sz) (by decide)),both_self,dup_self,dup3_self,dup4_self,dup5_self,pkB,peta,e1]
     cases ackB (handD x v.2.2.1) v.2.2.1<;>rfl
 ·simp only [cond_true,if_true,i_sendW h,obind_some]

def SameP (p q:den tPk):Prop:=p.2.2.2.1=q.2.2.2.1∧p.2.2.2.2.1=q.2.2.2.2.1∧p.2.2.2.2.2.1=q.2.2.2.2.2.1

theorem SameP.cur {p q:den tPk} (h:SameP p q):hasHop p=hasHop q∧curAS p=curAS q∧curPt p=curPt q∧curHp p=curHp q∧lastPt p=lastPt q∧atLast p=atLast q:=by
 obtain ⟨h1,h2,h3⟩:=h
 have a1:hasHop p=hasHop q:=by unfold hasHop;rw [h1,h2,h3]
 have a2:curAS p=curAS q:=by unfold curAS;rw [a1,h1,h2,h3]
 have a3:curPt p=curPt q:=by unfold curPt;rw [h1,h2]
 have a4:curHp p=curHp q:=by unfold curHp;rw [a3,h3]
 have a5:lastPt p=lastPt q:=by unfold lastPt;rw [a3,h3]
 exact ⟨a1,a2,a3,a4,a5,by unfold atLast lastIn;rw [a2,a5,h1,h2]⟩

theorem SameP.adv {p q:den tPk} (h:SameP p q):SameP (adv p) (adv q):=by
 obtain ⟨a1,a2,a3,a4,a5,a6⟩:=h.cur
 obtain ⟨h1,h2,h3⟩:=id h
 unfold Go.Proofs.YtejfajiolkojlaaGreat.adv
 rw [a2,a5,a6]
 split
 ·exact h
 ·split
  ·exact ⟨h1,by show p.2.2.2.2.1+1=q.2.2.2.2.1+1;rw [h2],rfl⟩
  ·exact ⟨h1,h2,by show p.2.2.2.2.2.1+1=q.2.2.2.2.2.1+1;rw [h3]⟩

theorem sealed_same (t:den tTo) (p:den tPk):SameP (sealed t p) p:=by
 obtain ⟨b,hb⟩:=sealed_goTo t p
 rw [hb]
 exact ⟨rfl,rfl,rfl⟩

theorem SameP.trans {p q r:den tPk} (h:SameP p q) (k:SameP q r):SameP p r:=⟨h.1.trans k.1,h.2.1.trans k.2.1,h.2.2.trans k.2.2⟩

theorem goC_first {t:den tTo} {now:Int} {n:Nat} {p:den tPk} (h:(goC t now n p).1=0):chkC t now p=0:=by
 cases n with
 | zero=>exact h
 | succ n=>
  unfold goC at h
  split at h
  ·rename_i hc
   rw [Bool.and_eq_true] at hc
   simpa using hc.1
  ·exact h

theorem door_loop {t:den tTo} {now:Int} {step:den tPk→Option (den tPk⊕den tPk)}
  (H: ∀ q,tot tPk q≤34359738368→hasHop q=true→step q=some (if lastPt q&&decide (q.2.2.2.2.1<(q.2.2.2.1.length:Int) - 1) then .inl (adv q) else .inr q)):
  ∀ (n:Nat) (p q:den tPk),SameP p q→tot tPk q≤34359738368→(goC t now n p).1=0→p.2.2.2.1.length - p.2.2.2.2.1.toNat≤n→ ∃ r,loopM step q=some r∧SameP (goC t now n p).2 r∧tot tPk r≤34359738368:=by
 intro n
 induction n with
 | zero=>
  intro p q hs hq hc hm
  obtain ⟨hh,h0⟩:=chk_zero (goC_first hc)
  obtain ⟨i,j,h1,h2,h3,h4,h5⟩:=hop_at hh
  have hlt:=(List.getElem?_eq_some_iff.1 h3).1
  rw [h1,Int.toNat_natCast] at hm
  exact absurd hlt (by omega)
 | succ n ih=>
  intro p q hs hq hc hm
  have hz:=goC_first hc
  obtain ⟨hh,h0⟩:=chk_zero hz
  obtain ⟨a1,a2,a3,a4,a5,a6⟩:=hs.cur
  obtain ⟨b1,b2,b3,b4,b5,b6⟩:=(sealed_same t p).cur
  have hstep:=H q hq (a1▸hh)
  rw [more_key (a1▸hh) (a2▸h0)] at hstep
  cases hb:lastPt q&& !atLast q with
  | false=>
   rw [hb] at hstep
   have hg:goC t now (n+1) p=(chkC t now p,sealed t p):=by
    show (if _ then _ else _)=_
    rw [b5,b6,a5,a6,hb,Bool.and_false];rfl
   rw [hg]
   exact ⟨q,loopM_done hstep,(sealed_same t p).trans hs,hq⟩
  | true=>
   rw [hb,if_pos rfl] at hstep
   have hg:goC t now (n+1) p=goC t now n (adv (sealed t p)):=by
    show (if _ then _ else _)=_
    rw [b5,b6,a5,a6,hb,hz];rfl
   rw [hg] at hc ⊢
   rw [loopM_next hstep]
   obtain ⟨e1,e2⟩:=adv_part (p:=sealed t p) (by rw [b2];exact h0) (by rw [b5,b6,a5,a6];exact hb)
   obtain ⟨i,j,h1,h2,h3,h4,h5⟩:=hop_at hh
   refine ih _ _ ((sealed_same t p).trans hs).adv (by rw [adv_tot];exact hq) hc ?_
   rw [e1,e2,(sealed_same t p).1,(sealed_same t p).2.1,h1]
   rw [h1,Int.toNat_natCast] at hm
   have :((i:Int)+1).toNat=i+1:=by omega
   rw [this]
   omega

def doorP (t:den tTo) (now:Int) (p:den tPk):Int:=pEg (curPt (gone t now p).2) (curHp (gone t now p).2)

theorem s_door {t:den tTo} {now:Int} {p:den tPk} (h:tot tPk p≤34359738368) (hz:(gone t now p).1=0):s_l37Door p=some (doorP t now p):=by
 unfold s_l37Door
 obtain ⟨r,hr,hs,ht⟩:=door_loop (t:=t) (now:=now) (step:=fun s5=> @Option.bind Bool _ (Option.bind (idx s5.2.2.2.1 s5.2.2.2.2.1) fun x6=>cond (s5.2.2.2.2.2.1==(wr ((x6.2.2.2.length:Int) - (1:Int)))) (some (decide (s5.2.2.2.2.1<(wr ((s5.2.2.2.1.length:Int) - (1:Int)))))) (some false)) fun (s7:Bool)=>cond s7 (Option.bind (s_AdvanceHop (s5.1,s5.2.1,s5.2.2.1,s5.2.2.2.1,s5.2.2.2.2.1,s5.2.2.2.2.2.1,s5.2.2.2.2.2.2.1,s5.2.2.2.2.2.2.2.1,s5.2.2.2.2.2.2.2.2.1,s5.2.2.2.2.2.2.2.2.2)) fun y8=>some (Sum.inl (y8.1,y8.2.1,y8.2.2.1,y8.2.2.2.2.2.2.2.2.1,y8.2.2.2.1,y8.2.2.2.2.1,y8.2.2.2.2.2.1,y8.2.2.2.2.2.2.1,y8.2.2.2.2.2.2.2.1,y8.2.2.2.2.2.2.2.2.2))) (some (Sum.inr (s5.1,s5.2.1,s5.2.2.1,s5.2.2.2.1,s5.2.2.2.2.1,s5.2.2.2.2.2.1,s5.2.2.2.2.2.2.1,s5.2.2.2.2.2.2.2.1,s5.2.2.2.2.2.2.2.2.1,s5.2.2.2.2.2.2.2.2.2)))) (fun q hq hh=>by
   obtain ⟨i,j,k1,k2,k3,k4,k5⟩:=hop_at hh
   have l1:List.length q.2.2.2.1≤68719476736:=(pk_sm hq).2.2.2.1.1
   have hp1:idx q.2.2.2.1 q.2.2.2.2.1=some (curPt q):=by rw [k1,idx_nat];exact k3
   simp only [hp1,obind_some,wr_less (pt_len (pk_sm hq) k3),wr_less l1,peta,s_adv (pk_sm hq)]
   unfold lastPt
   cases q.2.2.2.2.2.1==((curPt q).2.2.2.length:Int) - 1<;>cases decide (q.2.2.2.2.1<(q.2.2.2.1.length:Int) - 1)<;>rfl) _ p p ⟨rfl,rfl,rfl⟩ h hz (Nat.le_refl _)
 have hs:SameP (gone t now p).2 r:=hs
 have hr':loopM _ (p.1,p.2.1,p.2.2.1,p.2.2.2.1,p.2.2.2.2.1,p.2.2.2.2.2.1,p.2.2.2.2.2.2.1,p.2.2.2.2.2.2.2.1,p.2.2.2.2.2.2.2.2.1,p.2.2.2.2.2.2.2.2.2)=some r:=hr
 rw [hr',obind_some]
 obtain ⟨a1,a2,a3,a4,a5,a6⟩:=hs.cur
 obtain ⟨g1,g2,g3⟩:=goC_hop _ p hz
 have g1:hasHop r=true:=a1▸g1
 obtain ⟨i,j,k1,k2,k3,k4,k5⟩:=hop_at g1
 have hp1:idx r.2.2.2.1 r.2.2.2.2.1=some (curPt r):=by rw [k1,idx_nat];exact k3
 have hp2:s_PartEgress (curPt r) r.2.2.2.2.2.1=some (pEg (curPt r) (curHp r)):=by rw [k2];exact s_pEg k4 (pt_len (pk_sm ht) k3)
 rw [hp1,obind_some]
 simp only [peta,hp2,obind_some]
 unfold doorP
 rw [a3,a4]

theorem goC_le {t:den tTo} {now:Int}: ∀ (n:Nat) (p:den tPk),(goC t now n p).1≤5
 | 0,p=>by
  show chkC t now p≤5
  unfold chkC
  repeat' split
  all_goals decide
 | n+1,p=>by
  unfold goC
  split
  ·exact goC_le n _
  ·show chkC t now p≤5
   unfold chkC
   repeat' split
   all_goals decide

theorem fwd_seven {t:den tTo} {r now dead inn:Int} {p:den tPk} (h:(fwd t r now dead inn p).1=7):(gone t now p).1=0∧(fwd t r now dead inn p).2.2.2=doorP t now p:=by
 have hg:(gone t now p).1≤5:=goC_le _ p
 unfold fwd at h ⊢
 split at h
 ·cases h
 ·rename_i c1
  rw [if_neg c1]
  split at h
  ·cases h
  ·rename_i c2
   rw [if_neg c2]
   split at h
   ·simp only at h;omega
   ·rename_i c3
    rw [if_neg c3]
    refine ⟨by simpa using c3,?_⟩
    split at h
    ·split at h<;>cases h
    ·rename_i c4
     rw [if_neg c4]
     split at h
     ·cases h
     ·rename_i c5
      rw [if_neg c5]
      split at h
      ·rename_i c6
       rw [if_pos c6]
       rfl
      ·cases h

theorem kinds {p:den tPk} (h:validK p=true) (h1:(p.1==1)=false) (h2:(p.1==2)=false):(p.1==3)=true:=by
 unfold validK at h
 rw [Bool.and_eq_true] at h
 have hr:=inR_iff.1 h.1
 have h1: ¬ p.1=(1:Int):=by simpa using h1
 have h2: ¬ p.1=(2:Int):=by simpa using h2
 have key: ∀ c:Int,1≤c→c≤3→ ¬ c=1→ ¬ c=2→c=3:=by intro c;omega
 have :p.1=(3:Int):=key p.1 hr.1 hr.2 h1 h2
 rw [this];rfl

theorem s_home1 {w:den tNw} {r:Int} {p:den tPk} (h:NetOk w) (hp:PkOk p) (hk:(p.1==1)=false) (hv:(p.1==2)=false→(p.1==3)=true):s_l37Home'1 w r p=some (netR (tellW w r p)):=by
 unfold s_l37Home'1 s_l37Home.b
 rw [hk,cond_false]
 cases h2:p.1==2 with
 | true=>
  rw [cond_true]
  refine s_ackW (w:=w) (r:=r) (p:=p) h2 h.flows h.flowsN (fun k f a ha hx hm hk'=> ?_) (fun a ha=> ?_)
  ·obtain ⟨d1,d2⟩:=dec_len ha hk'
   have hw:wr ((k:Int)+1)=((k+1:Nat):Int):=(wri (by have :=h.flowsN;omega) (by have :=h.flowsN;omega)).trans (by omega)
   simp only [d1,d2,pos_nat,Int.toNat_natCast,hx,cond_true,obind_some,peta,s_handA (flow_sm (h.flows f hm)),both_self,dup_self,dup3_self,dup4_self,dup5_self,hw]
   unfold toldF
   rw [h2]
   cases f.1==r
   ·simp only [cond_false,Bool.false_eq_true,if_false,obind_some,set_same hx]
   ·simp only [cond_true,if_true,obind_some]
    rfl
  ·show cond (decide ((((nFlows w).length:Nat):Int)<(a.length:Int))) _ _=_
   rw [ha,decide_eq_false (by omega)]
   rfl
 | false=>
  rw [cond_false,hv h2,cond_true]
  simp only [peta,s_tellW h2 h.flows h.flowsN hp.sz hp.by_,obind_some]

theorem s_home {w:den tNw} {r:Int} {p:den tPk} (h:NetOk w) (hp:PkOk p) (hk:(p.1==1)=false) (hv:(p.1==2)=false→(p.1==3)=true):s_l37Home w r p=some (netR (tellW w r p)):=by
 unfold s_l37Home s_l37Home.b
 rw [hk,cond_false]
 cases h2:p.1==2 with
 | true=>
  rw [cond_true]
  refine s_ackW (w:=w) (r:=r) (p:=p) h2 h.flows h.flowsN (fun k f a ha hx hm hk'=> ?_) (fun a ha=> ?_)
  ·obtain ⟨d1,d2⟩:=dec_len ha hk'
   have hw:wr ((k:Int)+1)=((k+1:Nat):Int):=(wri (by have :=h.flowsN;omega) (by have :=h.flowsN;omega)).trans (by omega)
   simp only [d1,d2,pos_nat,Int.toNat_natCast,hx,cond_true,obind_some,peta,s_handA (flow_sm (h.flows f hm)),both_self,dup_self,dup3_self,dup4_self,dup5_self,hw]
   unfold toldF
   rw [h2]
   cases f.1==r
   ·simp only [cond_false,Bool.false_eq_true,if_false,obind_some,set_same hx]
   ·simp only [cond_true,if_true,obind_some]
    rfl
  ·show cond (decide ((((nFlows w).length:Nat):Int)<(a.length:Int))) _ _=_
   rw [ha,decide_eq_false (by omega)]
   rfl
 | false=>
  rw [cond_false,hv h2,cond_true]
  simp only [peta,s_tellW h2 h.flows h.flowsN hp.sz hp.by_,obind_some]

theorem s_proc0 {w:den tNw} {r inn:Int} {p:den tPk} (h:NetOk w) (hp:PkOk p) (hk:(p.1==1)=false):s_l37Arrive'1 w r inn p=some (netR (proc0 w r inn p)):=by
 have hp2:tot tPt p.2.2.2.1≤1073741824:=pk_tot hp.sz
 have hs:=hp.step (nT w) (nNow w) (nDead w) r inn
 have hkeep:=fwd_keeps w.1 r w.2.2.2.1 (deadE w.1 w.2.2.2.2.1 r) inn p
 have hval:=fwd_valid (t:=w.1) (r:=r) (now:=w.2.2.2.1) (dead:=deadE w.1 w.2.2.2.2.1 r) (inn:=inn) (p:=p)
 unfold s_l37Arrive'1 s_l37Arrive.b
 simp only [peta,s_deadE h.links h.dead,s_fwd h.as (Nat.le_trans h.links (by decide)) (Nat.le_trans hp.sz (by decide)) hp2,obind_some,both_self,dup_self,dup3_self,dup4_self,dup5_self,hk]
 rw [show fwd w.1 r w.2.2.2.1 (deadE w.1 w.2.2.2.2.1 r) inn p=stepV (nT w) (nNow w) (nDead w) r inn p from rfl] at hkeep hval ⊢
 unfold proc0
 generalize stepV (nT w) (nNow w) (nDead w) r inn p=v at hs hkeep hval
 have hback:(((fwS v).2.2.1,(fwS v).2.2.2.1,(fwS v).2.2.2.2.1,(fwS v).2.2.2.2.2.2.2.2.2.2.1,(fwS v).2.2.2.2.2.1,(fwS v).2.2.2.2.2.2.1,(fwS v).2.2.2.2.2.2.2.1,(fwS v).2.2.2.2.2.2.2.2.1,(fwS v).2.2.2.2.2.2.2.2.2.1,(fwS v).2.2.2.2.2.2.2.2.2.2.2):den tPk)=v.2.2.1:=rfl
 rw [show (fwS v).1=v.1 from rfl,show (fwS v).2.1=v.2.1 from rfl]
 cases c1:v.1==1
 ·cases c0:v.1==0
  ·cases c7:v.1==7
   ·simp only [cond_false,obind_some,Bool.false_eq_true,if_false,Sum.elim_inl];rfl
   ·simp only [cond_true,cond_false,obind_some,Bool.false_eq_true,if_false,Sum.elim_inl];rfl
  ·unfold sendW
   rw [hkeep.2.2.1]
   simp only [cond_true,cond_false,if_true,s_remote (t:=w.1) (Nat.le_trans h.links (by decide)),s_trans h.res h.use,obind_some]
   cases ct:(transU w.2.2.1 p.2.2.2.2.2.2.2.1 r v.2.1 w.2.2.2.1).2.1
   ·simp only [cond_false,obind_some,Bool.false_and,Bool.false_eq_true,if_false,Sum.elim_inl];rfl
   ·by_cases hl:(nFly w).length<150
    ·have h150:decide ((w.2.2.2.2.2.1.length:Int)<150)=true:=decide_eq_true (by have :w.2.2.2.2.2.1.length<150:=hl;omega)
     rw [decide_eq_true hl]
     simp only [cond_true,obind_some,h150,Bool.and_self,if_true,apOk_le (b:=128) (n:=w.2.2.2.2.2.1.length) (m:=1) (by decide) (show (nFly w).length+1≤_ by omega),Sum.elim_inr]
     rfl
    ·have h150:decide ((w.2.2.2.2.2.1.length:Int)<150)=false:=decide_eq_false (by have : ¬ w.2.2.2.2.2.1.length<150:=hl;omega)
     rw [decide_eq_false hl]
     simp only [cond_true,cond_false,obind_some,h150,Bool.and_false,Bool.false_eq_true,if_false,Sum.elim_inl]
     rfl
 ·have c0:(v.1==0)=false:=by
   have :v.1=1:=by simpa using c1
   rw [this];rfl
  have hv:validK p=true:=hval (by rw [show v.1=1 from by simpa using c1];rfl)
  have hq1:(v.2.2.1.1==1)=false:=by rw [hkeep.1];exact hk
  have hq2:(v.2.2.1.1==2)=false→(v.2.2.1.1==3)=true:=by rw [hkeep.1];exact kinds hv hk
  rw [hback,s_home1 h hs hq1 hq2]
  simp only [c0,cond_true,obind_some,Bool.false_eq_true,if_false,if_true,Sum.elim_inr]

theorem s_data {w:den tNw} {r:Int} {p:den tPk} (h:NetOk w) (hbn:(nBox w).length≤68719476736) (hbx: ∀ x∈nBox w,tot tIb x≤1073741824) (hp:PkOk p) (hk:(p.1==1)=true):s_l37Home w r p=some (netR (dataW w r p)):=by
 unfold s_l37Home s_l37Home.b dataW
 simp only [hk,cond_true,s_findX hbn,obind_some]
 rcases findX_at (nBox w) r p.2.1 with hf | ⟨k,x,hf,hx⟩
 ·rw [show findX w.2.2.2.2.2.2.2.1 r p.2.1= -1 from hf]
  rfl
 ·have hlt:=(List.getElem?_eq_some_iff.1 hx).1
  have hx0:w.2.2.2.2.2.2.2.1[k]? =some x:=hx
  have hxm:=hbx x (List.mem_of_getElem? hx)
  have hxs:SmB 4294967296 tIb x:=(sm_of_tot hxm).mono (by decide)
  have hvs:SmB 4294967296 tPk p:=(sm_of_tot hp.sz).mono (by decide)
  have hd1:decide ((k:Int)<(w.2.2.2.2.2.2.2.1.length:Int))=true:=decide_eq_true (by have :k<w.2.2.2.2.2.2.2.1.length:=hlt;omega)
  have hd2:decide (k<w.2.2.2.2.2.2.2.1.length)=true:=decide_eq_true hlt
  have hba:boxAt w k=x:=by unfold boxAt;rw [hx];rfl
  rw [show findX w.2.2.2.2.2.2.2.1 r p.2.1=(k:Int) from hf,decide_eq_false (show ¬ (k:Int)<0 by omega),if_neg (show ¬ (k:Int)<0 by omega),Int.toNat_natCast,hba]
  have e1:s_l37Arrive'1 (w.1,w.2.1,w.2.2.1,w.2.2.2.1,w.2.2.2.2.1,w.2.2.2.2.2.1,w.2.2.2.2.2.2.1,w.2.2.2.2.2.2.2.1.set k (handD x p),w.2.2.2.2.2.2.2.2) r 0 (mkAck (handD x p) p)=some (netR (proc0 (setBox w k (handD x p)) r 0 (mkAck (handD x p) p))):=by
   cases ca:ackB (handD x p) p with
   | true=>exact s_proc0 (netOk_box h) (ack_ok hp) (mkAck_kind ca)
   | false=>exact s_proc0 (netOk_box h) (ack_ok hp) (by unfold mkAck;rw [ca];rfl)
  simp only [cond_false,pos_nat,hd1,hd2,cond_true,hx0,obind_some,peta,s_handD hxs hvs,s_mkAck (x:=handD x p) (p:=p) (Nat.le_trans (pk_tot hp.sz) (by decide)),both_self,dup_self,dup3_self,dup4_self,dup5_self,pkB,e1]
  cases ackB (handD x p) p<;>rfl

theorem s_procW {w:den tNw} {r inn:Int} {p:den tPk} (h:NetOk w) (hbn:(nBox w).length≤68719476736) (hbx: ∀ x∈nBox w,tot tIb x≤1073741824) (hz:tot tPk p≤536870912) (hb:bytesP p):s_l37Arrive w r inn p=some (netR (procW w r inn p)):=by
 have hp:PkOk p:=⟨by omega,hb⟩
 have hp2:tot tPt p.2.2.2.1≤1073741824:=pk_tot hp.sz
 have hs:=hp.step (nT w) (nNow w) (nDead w) r inn
 have hkeep:=fwd_keeps w.1 r w.2.2.2.1 (deadE w.1 w.2.2.2.2.1 r) inn p
 have hval:=fwd_valid (t:=w.1) (r:=r) (now:=w.2.2.2.1) (dead:=deadE w.1 w.2.2.2.2.1 r) (inn:=inn) (p:=p)
 have hsev:=fwd_seven (t:=w.1) (r:=r) (now:=w.2.2.2.1) (dead:=deadE w.1 w.2.2.2.2.1 r) (inn:=inn) (p:=p)
 unfold s_l37Arrive s_l37Arrive.b
 simp only [peta,s_deadE h.links h.dead,s_fwd h.as (Nat.le_trans h.links (by decide)) (Nat.le_trans hp.sz (by decide)) hp2,obind_some,both_self,dup_self,dup3_self,dup4_self,dup5_self]
 rw [show fwd w.1 r w.2.2.2.1 (deadE w.1 w.2.2.2.2.1 r) inn p=stepV (nT w) (nNow w) (nDead w) r inn p from rfl] at hkeep hval hsev ⊢
 unfold procW
 generalize stepV (nT w) (nNow w) (nDead w) r inn p=v at hs hkeep hval hsev
 have hback:(((fwS v).2.2.1,(fwS v).2.2.2.1,(fwS v).2.2.2.2.1,(fwS v).2.2.2.2.2.2.2.2.2.2.1,(fwS v).2.2.2.2.2.1,(fwS v).2.2.2.2.2.2.1,(fwS v).2.2.2.2.2.2.2.1,(fwS v).2.2.2.2.2.2.2.2.1,(fwS v).2.2.2.2.2.2.2.2.2.1,(fwS v).2.2.2.2.2.2.2.2.2.2.2):den tPk)=v.2.2.1:=rfl
 rw [show (fwS v).1=v.1 from rfl,show (fwS v).2.1=v.2.1 from rfl]
 cases c1:v.1==1
 ·cases c0:v.1==0
  ·cases c7:v.1==7
   ·simp only [cond_false,obind_some,Bool.false_eq_true,if_false,Sum.elim_inl,Bool.false_and];rfl
   ·cases ck:p.1==1
    ·simp only [cond_true,cond_false,obind_some,Bool.false_eq_true,if_false,Sum.elim_inl,Bool.and_false];rfl
    ·obtain ⟨hz0,hd0⟩:=hsev (by simpa using c7)
     have hn:PkOk (noteP r (nNow w) v.2.2.2 p):=note_ok hz
     have ht1:tot tPt (truncP p)≤34359738368:=Nat.le_trans (truncP_tot p) (Nat.le_trans hp2 (by decide))
     have hlen:decide (((steps (truncP p)).length:Int)>1)=decide ((steps (truncP p)).length>1):=by rw [Bool.eq_iff_iff];simp only [decide_eq_true_eq,gt_iff_lt];omega
     have e1:s_l37Arrive'1 w r 0 ((pkR (noteP r w.2.2.2.1 v.2.2.2 p)).1,(pkR (noteP r w.2.2.2.1 v.2.2.2 p)).2.1,(pkR (noteP r w.2.2.2.1 v.2.2.2 p)).2.2.1,(pkR (noteP r w.2.2.2.1 v.2.2.2 p)).2.2.2.2.2.2.2.2.1,(pkR (noteP r w.2.2.2.1 v.2.2.2 p)).2.2.2.1,(pkR (noteP r w.2.2.2.1 v.2.2.2 p)).2.2.2.2.1,(pkR (noteP r w.2.2.2.1 v.2.2.2 p)).2.2.2.2.2.1,(pkR (noteP r w.2.2.2.1 v.2.2.2 p)).2.2.2.2.2.2.1,(pkR (noteP r w.2.2.2.1 v.2.2.2 p)).2.2.2.2.2.2.2.1,(pkR (noteP r w.2.2.2.1 v.2.2.2 p)).2.2.2.2.2.2.2.2.2)=some (netR (proc0 w r 0 (noteP r (nNow w) v.2.2.2 p))):=s_proc0 h hn rfl
     have e2:s_l37Tell w r ((pkR (noteP r w.2.2.2.1 v.2.2.2 p)).1,(pkR (noteP r w.2.2.2.1 v.2.2.2 p)).2.1,(pkR (noteP r w.2.2.2.1 v.2.2.2 p)).2.2.1,(pkR (noteP r w.2.2.2.1 v.2.2.2 p)).2.2.2.2.2.2.2.2.1,(pkR (noteP r w.2.2.2.1 v.2.2.2 p)).2.2.2.1,(pkR (noteP r w.2.2.2.1 v.2.2.2 p)).2.2.2.2.1,(pkR (noteP r w.2.2.2.1 v.2.2.2 p)).2.2.2.2.2.1,(pkR (noteP r w.2.2.2.1 v.2.2.2 p)).2.2.2.2.2.2.1,(pkR (noteP r w.2.2.2.1 v.2.2.2 p)).2.2.2.2.2.2.2.1,(pkR (noteP r w.2.2.2.1 v.2.2.2 p)).2.2.2.2.2.2.2.2.2)=some (netR (tellW w r (noteP r (nNow w) v.2.2.2 p))):=s_tellW rfl h.flows h.flowsN hn.sz hn.by_
     simp only [cond_true,cond_false,obind_some,Bool.false_eq_true,if_false,Bool.and_self,if_true,s_door (t:=w.1) (now:=w.2.2.2.1) (p:=p) (Nat.le_trans hp.sz (by decide)) hz0,← hd0,s_noteP (t:=w.1) (r:=r) (now:=w.2.2.2.1) (d:=v.2.2.2) (Nat.le_trans hp.sz (by decide)),s_truncP (pk_sm (p:=p) (by omega)),both_self,dup_self,dup3_self,dup4_self,dup5_self,s_steps ht1,hlen,e1,e2]
     unfold noteW
     cases hd:decide ((steps (truncP p)).length>1)
     ·rw [if_neg (of_decide_eq_false hd)];rfl
     ·rw [if_pos (of_decide_eq_true hd)];rfl
  ·unfold sendW
   rw [hkeep.2.2.1]
   simp only [cond_true,cond_false,if_true,s_remote (t:=w.1) (Nat.le_trans h.links (by decide)),s_trans h.res h.use,obind_some]
   cases ct:(transU w.2.2.1 p.2.2.2.2.2.2.2.1 r v.2.1 w.2.2.2.1).2.1
   ·simp only [cond_false,obind_some,Bool.false_and,Bool.false_eq_true,if_false,Sum.elim_inl];rfl
   ·by_cases hl:(nFly w).length<150
    ·have h150:decide ((w.2.2.2.2.2.1.length:Int)<150)=true:=decide_eq_true (by have :w.2.2.2.2.2.1.length<150:=hl;omega)
     rw [decide_eq_true hl]
     simp only [cond_true,obind_some,h150,Bool.and_self,if_true,apOk_le (b:=128) (n:=w.2.2.2.2.2.1.length) (m:=1) (by decide) (show (nFly w).length+1≤_ by omega),Sum.elim_inr]
     rfl
    ·have h150:decide ((w.2.2.2.2.2.1.length:Int)<150)=false:=decide_eq_false (by have : ¬ w.2.2.2.2.2.1.length<150:=hl;omega)
     rw [decide_eq_false hl]
     simp only [cond_true,cond_false,obind_some,h150,Bool.and_false,Bool.false_eq_true,if_false,Sum.elim_inl]
     rfl
 ·have c0:(v.1==0)=false:=by
   have :v.1=1:=by simpa using c1
   rw [this];rfl
  have hv:validK p=true:=hval (by rw [show v.1=1 from by simpa using c1];rfl)
  rw [hback]
  cases ck:p.1==1 with
  | true=>
   rw [s_data h hbn hbx hs (by rw [hkeep.1];exact ck)]
   simp only [c0,cond_true,obind_some,Bool.false_eq_true,if_false,if_true,Sum.elim_inr]
  | false=>
   have hq1:(v.2.2.1.1==1)=false:=by rw [hkeep.1];exact ck
   have hq2:(v.2.2.1.1==2)=false→(v.2.2.1.1==3)=true:=by rw [hkeep.1];exact kinds hv ck
   rw [s_home h hs hq1 hq2]
   simp only [c0,cond_true,obind_some,Bool.false_eq_true,if_false,if_true,Sum.elim_inr]

theorem net_tot (w:den tNw):tot tNw w=(tot (.sl tAS) (nT w).1+tot (.sl tLk) (nT w).2)+((tot (.sl tSg) (nK w).1+tot (.sl tSg) (nK w).2)+((0+(tot (.sl tRs) (nG w).2.1+tot (.sl tUs) (nG w).2.2))+(0+(tot (.sl ti) (nDead w)+(tot (.sl tFy) (nFly w)+(tot (.sl tFl) (nFlows w)+(tot (.sl tIb) (nBox w)+0))))))):=rfl

theorem netOk_of {w:den tNw} (h:tot tNw w≤1073741824):NetOk w where
 as:=by have :=net_tot w;have :=tot_len (t:=tAS) (nT w).1;omega
 links:=by have :=net_tot w;have :=tot_len (t:=tLk) (nT w).2;omega
 dead:=by have :=net_tot w;have :=tot_len (t:=ti) (nDead w);omega
 res:=by have :=net_tot w;have :=tot_len (t:=tRs) (nG w).2.1;omega
 use:=by have :=net_tot w;have :=tot_len (t:=tUs) (nG w).2.2;omega
 flowsN:=by have :=net_tot w;have :=tot_len (t:=tFl) (nFlows w);omega
 flows:=fun f hf=>by have :=net_tot w;have :=tot_mem (t:=tFl) hf;omega

theorem box_of {w:den tNw} (h:tot tNw w≤1073741824):(nBox w).length≤68719476736∧ ∀ x∈nBox w,tot tIb x≤1073741824:=
 ⟨by have :=net_tot w;have :=tot_len (t:=tIb) (nBox w);omega,fun x hx=>by have :=net_tot w;have :=tot_mem (t:=tIb) hx;omega⟩

theorem dropW_tot (w:den tNw):tot tNw (dropW w)=tot tNw w:=rfl

theorem use_len (l:List (den tUs)):tot (.sl tUs) l=l.length:=tot_flatL rfl

theorem trans_len (g:den tSc) (id s d now:Int):tot (.sl tRs) (transU g id s d now).2.2.1=tot (.sl tRs) g.2.1∧tot (.sl tUs) (transU g id s d now).2.2.2≤tot (.sl tUs) g.2.2+1:=by
 have m1:=moreU_len g.2.2 id s d
 have m2:=moreU_len g.2.2 0 s d
 rw [use_len,use_len]
 unfold transU
 split
 ·exact ⟨rfl,by simpa using m1⟩
 ·split
  ·exact ⟨rfl,by simpa using m2⟩
  ·exact ⟨rfl,by simp⟩

theorem sendW_tot (w:den tNw) (r eg:Int) (p:den tPk):tot tNw (sendW w r eg p)≤tot tNw w+(2+tot tPk p):=by
 unfold sendW
 split
 ·obtain ⟨e1,e2⟩:=trans_len (nG w) p.2.2.2.2.2.2.2.1 r eg (nNow w)
  rw [net_tot,net_tot w]
  simp only [nT,nK,nG,nDead,nFly,nFlows,nBox] at e1 e2 ⊢
  rw [tot_app,tot_one]
  have e3:tot tFy ((remote w.1 r eg).1,(remote w.1 r eg).2,p)=tot tPk p:=by simp [tot_pair,tot_int]
  rw [e3]
  omega
 ·rw [dropW_tot];omega

theorem handA_tot (f:den tFl) (p:den tPk):tot tFl (handA f p)=tot tFl f:=by
 unfold handA
 split<;>rfl

theorem toldF_tot (r:Int) (p:den tPk) (f:den tFl):tot tFl (toldF r p f)≤tot tFl f+1:=by
 unfold toldF
 split
 ·split
  ·rw [handA_tot];omega
  ·exact handR_tot f p
 ·omega

theorem map_tot (r:Int) (p:den tPk): ∀ l:List (den tFl),tot (.sl tFl) (l.map (toldF r p))≤tot (.sl tFl) l+l.length
 | []=>by simp
 | f::l=>by
  have h1:=toldF_tot r p f
  have h2:=map_tot r p l
  rw [List.map_cons,tot_cons,tot_cons,List.length_cons]
  omega

theorem setFlows_tot (w:den tNw) (l:List (den tFl)):tot tNw (setFlows w l)=(tot (.sl tAS) (nT w).1+tot (.sl tLk) (nT w).2)+((tot (.sl tSg) (nK w).1+tot (.sl tSg) (nK w).2)+((0+(tot (.sl tRs) (nG w).2.1+tot (.sl tUs) (nG w).2.2))+(0+(tot (.sl ti) (nDead w)+(tot (.sl tFy) (nFly w)+(tot (.sl tFl) l+(tot (.sl tIb) (nBox w)+0))))))):=rfl

theorem setBox_tot (w:den tNw) (k:Nat) (x:den tIb):tot tNw (setBox w k x)=(tot (.sl tAS) (nT w).1+tot (.sl tLk) (nT w).2)+((tot (.sl tSg) (nK w).1+tot (.sl tSg) (nK w).2)+((0+(tot (.sl tRs) (nG w).2.1+tot (.sl tUs) (nG w).2.2))+(0+(tot (.sl ti) (nDead w)+(tot (.sl tFy) (nFly w)+(tot (.sl tFl) (nFlows w)+(tot (.sl tIb) ((nBox w).set k x)+0))))))):=rfl

theorem tellW_tot (w:den tNw) (r:Int) (p:den tPk):tot tNw (tellW w r p)≤tot tNw w+(nFlows w).length:=by
 have h:=map_tot r p (nFlows w)
 unfold tellW
 rw [setFlows_tot,net_tot w]
 omega

theorem proc0_tot (w:den tNw) (r inn:Int) (p:den tPk):tot tNw (proc0 w r inn p)≤tot tNw w+(2+tot tPk p+(nFlows w).length):=by
 unfold proc0
 split
 ·have :=sendW_tot w r (stepV (nT w) (nNow w) (nDead w) r inn p).2.1 (stepV (nT w) (nNow w) (nDead w) r inn p).2.2.1
  have e:tot tPk (stepV (nT w) (nNow w) (nDead w) r inn p).2.2.1=tot tPk p:=fwd_tot _ _ _ _ _ _
  omega
 ·split
  ·have :=tellW_tot w r (stepV (nT w) (nNow w) (nDead w) r inn p).2.2.1
   omega
  ·rw [dropW_tot];omega

theorem set_tot {t:Ty} {l:List (den t)} {k:Nat} {x y:den t} (h:l[k]? =some x):tot (.sl t) (l.set k y)+tot t x=tot (.sl t) l+tot t y:=by
 induction l generalizing k with
 | nil=>cases h
 | cons z l ih=>
  cases k with
  | zero=>
   have :z=x:=by simpa using h
   subst this
   rw [List.set_cons_zero,tot_cons,tot_cons];omega
  | succ k=>
   have :=ih (k:=k) (by simpa using h)
   rw [List.set_cons_succ,tot_cons,tot_cons];omega

theorem handD_all (x:den tIb) (p:den tPk):tot tIb (handD x p)≤tot tIb x+(1+tot tPk p):=by
 have h1:=handD_tot x p
 have h2:=(pk_path (p:=p) (Nat.le_refl _)).2
 have e: ∀ y:den tIb,tot tIb y=tot (.sl tMs) y.2.2.2:=fun y=>by simp [tot_pair,tot_int]
 rw [e,e]
 omega

theorem dataW_tot (w:den tNw) (r:Int) (p:den tPk):tot tNw (dataW w r p)≤tot tNw w+(3+2 * tot tPk p+(nFlows w).length):=by
 unfold dataW
 split
 ·omega
 ·rcases findX_at (nBox w) r p.2.1 with hf | ⟨k,x,hf,hx⟩
  ·rename_i hc;rw [hf] at hc;exact absurd (by decide) hc
  ·have hba:boxAt w k=x:=by unfold boxAt;rw [hx];rfl
   rw [hf,Int.toNat_natCast,hba]
   have h1:=set_tot (t:=tIb) (y:=handD x p) hx
   have h2:=handD_all x p
   have h3:tot tNw (setBox w k (handD x p))≤tot tNw w+(1+tot tPk p):=by
    rw [setBox_tot,net_tot w]
    omega
   split
   ·have h4:=proc0_tot (setBox w k (handD x p)) r 0 (mkAck (handD x p) p)
    have h5:=mkAck_tot (handD x p) p
    have h6:(nFlows (setBox w k (handD x p))).length=(nFlows w).length:=rfl
    omega
   ·omega

theorem noteW_tot (w:den tNw) (r d:Int) (p:den tPk):tot tNw (noteW w r d p)≤tot tNw w+(20+tot tPk p+(nFlows w).length):=by
 unfold noteW
 rw [dropW_tot]
 split
 ·have h1:=proc0_tot w r 0 (noteP r (nNow w) d p)
  have h2:=noteP_tot r (nNow w) d p
  omega
 ·have :=tellW_tot w r (noteP r (nNow w) d p)
  omega

theorem procW_tot (w:den tNw) (r inn:Int) (p:den tPk):tot tNw (procW w r inn p)≤tot tNw w+(20+2 * tot tPk p+(nFlows w).length):=by
 have e:tot tPk (stepV (nT w) (nNow w) (nDead w) r inn p).2.2.1=tot tPk p:=fwd_tot _ _ _ _ _ _
 unfold procW
 split
 ·have :=sendW_tot w r (stepV (nT w) (nNow w) (nDead w) r inn p).2.1 (stepV (nT w) (nNow w) (nDead w) r inn p).2.2.1
  omega
 ·split
  ·split
   ·have :=dataW_tot w r (stepV (nT w) (nNow w) (nDead w) r inn p).2.2.1
    omega
   ·have :=tellW_tot w r (stepV (nT w) (nNow w) (nDead w) r inn p).2.2.1
    omega
  ·split
   ·have :=noteW_tot w r (stepV (nT w) (nNow w) (nDead w) r inn p).2.2.2 p
    omega
   ·rw [dropW_tot];omega

theorem net_sm {w:den tNw} (h:tot tNw w≤68719476736):SmB 68719476736 tNw w:=sm_of_tot h


def netS (w:den tNw):(List (den tAS))×(List (den tLk))×(List (den tSg))×(List (den tSg))×Int×(List (den tRs))×(List (den tUs))×Int×(List Int)×Int×(List (den tFy))×(List (den tFl))×(List (den tIb)):=
 ((nT w).1,(nT w).2,(nK w).1,(nK w).2,(nG w).1,(nG w).2.1,(nG w).2.2,nNow w,nDead w,nDrop w,nFly w,nFlows w,nBox w)

theorem i_procP {w:den tNw} {r inn:Int} {p:den tPk} (h:tot tNw w≤1073741824) (hz:tot tPk p≤536870912) (hb:bytesP p):i_ProcessPacket w r inn p=some (netC (procW w r inn p)):=by
 have hg:=procW_tot w r inn p
 have hF:(nFlows w).length≤1073741824:=(netOk_of h).flowsN
 unfold i_ProcessPacket
 simp only [peta,i_copyW (net_sm (w:=w) (by omega)),obind_some]
 have e1:i_Network_process (((netC w).2.2.2.1,(netC w).2.2.2.2.1),((netC w).2.2.2.2.2.1,(netC w).2.2.2.2.2.2.1),((netC w).1,(netC w).2.2.2.2.2.2.2.1,(netC w).2.2.2.2.2.2.2.2.1),(netC w).2.1,(netC w).2.2.2.2.2.2.2.2.2.1,(netC w).2.2.2.2.2.2.2.2.2.2.1,(netC w).2.2.2.2.2.2.2.2.2.2.2.1,(netC w).2.2.2.2.2.2.2.2.2.2.2.2,(netC w).2.2.1) r inn p=some (netR (procW w r inn p)):=i_procW (netOk_of h) (box_of h).1 (box_of h).2 hz hb
 rw [e1,obind_some]
 have e2:i_copyNetwork (((netR (procW w r inn p)).2.2.2.1,(netR (procW w r inn p)).2.2.2.2.1),((netR (procW w r inn p)).2.2.2.2.2.1,(netR (procW w r inn p)).2.2.2.2.2.2.1),((netR (procW w r inn p)).2.2.2.2.2.2.2.1,(netR (procW w r inn p)).2.2.2.2.2.2.2.2.1,(netR (procW w r inn p)).2.2.2.2.2.2.2.2.2.1),(netR (procW w r inn p)).2.2.2.2.2.2.2.2.2.2.1,(netR (procW w r inn p)).2.2.2.2.2.2.2.2.2.2.2.1,(netR (procW w r inn p)).1,(netR (procW w r inn p)).2.1,(netR (procW w r inn p)).2.2.1,(netR (procW w r inn p)).2.2.2.2.2.2.2.2.2.2.2.2)=some (netC (procW w r inn p)):=i_copyW (w:=procW w r inn p) (net_sm (by omega))
 rw [e2]
 rfl

theorem s_procP {w:den tNw} {r inn:Int} {p:den tPk} (h:tot tNw w≤1073741824) (hz:tot tPk p≤536870912) (hb:bytesP p):s_ProcessPacket w r inn p=some (netS (procW w r inn p)):=by
 unfold s_ProcessPacket
 simp only [peta,s_copyW (net_sm (w:=w) (by omega)),obind_some]
 have e1:s_l37Arrive (((netC w).2.2.2.1,(netC w).2.2.2.2.1),((netC w).2.2.2.2.2.1,(netC w).2.2.2.2.2.2.1),((netC w).1,(netC w).2.2.2.2.2.2.2.1,(netC w).2.2.2.2.2.2.2.2.1),(netC w).2.1,(netC w).2.2.2.2.2.2.2.2.2.1,(netC w).2.2.2.2.2.2.2.2.2.2.1,(netC w).2.2.2.2.2.2.2.2.2.2.2.1,(netC w).2.2.2.2.2.2.2.2.2.2.2.2,(netC w).2.2.1) r inn p=some (netR (procW w r inn p)):=s_procW (netOk_of h) (box_of h).1 (box_of h).2 hz hb
 rw [e1,obind_some]
 rfl

theorem net_rows {w:den tNw} (h:tot tNw w≤68719476736):tot (.sl tAS) (nT w).1≤68719476736∧tot (.sl tLk) (nT w).2≤68719476736∧tot (.sl tSg) (nK w).1≤68719476736∧tot (.sl tSg) (nK w).2≤68719476736∧tot (.sl tRs) (nG w).2.1≤68719476736∧tot (.sl tUs) (nG w).2.2≤68719476736∧tot (.sl ti) (nDead w)≤68719476736∧tot (.sl tFy) (nFly w)≤68719476736∧tot (.sl tFl) (nFlows w)≤68719476736∧tot (.sl tIb) (nBox w)≤68719476736:=by
 have :=net_tot w
 refine ⟨?_,?_,?_,?_,?_,?_,?_,?_,?_,?_⟩<;>omega


structure BytesW (w:den tNw):Prop where
 fly: ∀ x∈nFly w,bytesP x.2.2
 msg: ∀ f∈nFlows w,∀ m∈f.2.2.2.2.1,bytesL m


structure Keep (B F:Nat) (w:den tNw):Prop where
 tot:Go.V.tot tNw w≤B
 flows:(nFlows w).length≤F
 bytes:BytesW w

theorem Keep.mono {B C F:Nat} {w:den tNw} (h:Keep B F w) (hb:B≤C):Keep C F w:=⟨Nat.le_trans h.tot hb,h.flows,h.bytes⟩

end Go.Proofs.YtejfajiolkojlaaGreat
