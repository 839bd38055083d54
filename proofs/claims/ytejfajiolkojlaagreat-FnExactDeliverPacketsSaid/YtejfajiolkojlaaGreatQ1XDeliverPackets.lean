/-
  Facts and plain laws: what the functions compute, in plain words. Conditions: as each says.
-/
import Derived.Test.YtejfajiolkojlaaGreatQ0XDeliverPackets
set_option linter.unusedVariables false
set_option linter.unusedSimpArgs false
set_option maxRecDepth 100000
namespace Go.Proofs.YtejfajiolkojlaaGreat
open Go.Ab Go.V
theorem i_adv {p:den tPk} (h:SmB 68719476736 tPk p):i_AdvanceHop p=some (pkR (adv p)):=by
 unfold i_AdvanceHop adv
 simp only [peta,i_copyK h,i_curAS h,i_atLast h,obind_some]
 cases c:decide (curAS p<0)
 ·cases ca:atLast p
  ·have h0:0≤curAS p:=by have :=of_decide_eq_false c;omega
   have hh:=cur_hop h0
   obtain ⟨i,j,h1,h2,h3,h4,_⟩:=hop_at hh
   have hlt:=(List.getElem?_eq_some_iff.1 h3).1
   have hlt2:=(List.getElem?_eq_some_iff.1 h4).1
   have l1:List.length p.2.2.2.1≤68719476736:=h.2.2.2.1.1
   have l2:=pt_len h h3
   simp only [cond_false,obind_some,i_lastPt h hh,Bool.or_self,Bool.false_eq_true,if_false]
   cases cl:lastPt p
   ·simp only [cond_false,obind_some,Bool.false_eq_true,if_false]
    unfold pkR goTo
    rw [h2,show wr ((j:Int)+1)=(j:Int)+1 from wri (by omega) (by omega)]
   ·obtain ⟨i',e1,e2⟩:=next_at hh h0 cl ca
    have :i'=i:=Int.ofNat.inj (e1.symm.trans h1)
    subst this
    have hw:wr (((i':Nat):Int)+1)=((i'+1:Nat):Int):=(wri (by omega) (by omega)).trans (by omega)
    simp only [cond_true,if_true]
    unfold pkR goTo
    simp only [h1,hw,idx_nat,e2,obind_some]
    rw [show ((i'+1:Nat):Int)=(i':Int)+1 by omega]
  ·rfl
 ·rfl

theorem s_adv {p:den tPk} (h:SmB 68719476736 tPk p):s_AdvanceHop p=some (pkR (adv p)):=by
 unfold s_AdvanceHop adv
 simp only [peta,s_copyK h,s_curAS h,s_atLast h,obind_some]
 cases c:decide (curAS p<0)
 ·cases ca:atLast p
  ·have h0:0≤curAS p:=by have :=of_decide_eq_false c;omega
   have hh:=cur_hop h0
   obtain ⟨i,j,h1,h2,h3,h4,_⟩:=hop_at hh
   have hlt:=(List.getElem?_eq_some_iff.1 h3).1
   have hlt2:=(List.getElem?_eq_some_iff.1 h4).1
   have l1:List.length p.2.2.2.1≤68719476736:=h.2.2.2.1.1
   have l2:=pt_len h h3
   have hd:decide ((j:Int)<((curPt p).2.2.2.length:Int) - 1)= !lastPt p:=by
    have key:decide ((j:Int)<((curPt p).2.2.2.length:Int) - 1)= !((j:Int)==((curPt p).2.2.2.length:Int) - 1):=by
     rw [Bool.eq_iff_iff]
     simp only [decide_eq_true_eq,Bool.not_eq_true',beq_eq_false_iff_ne,ne_eq]
     omega
    unfold lastPt
    rw [h2]
    exact key
   simp only [cond_false,obind_some,Bool.or_self,Bool.false_eq_true,if_false,h1,h2,idx_nat,h3,wr_less l2,hd]
   cases cl:lastPt p
   ·simp only [Bool.not_false,cond_true,Bool.false_eq_true,if_false]
    unfold pkR goTo
    rw [show wr ((j:Int)+1)=(j:Int)+1 from wri (by omega) (by omega)]
    simp only [h1]
   ·obtain ⟨i',e1,e2⟩:=next_at hh h0 cl ca
    have :i'=i:=Int.ofNat.inj (e1.symm.trans h1)
    subst this
    have hw:wr (((i':Nat):Int)+1)=((i'+1:Nat):Int):=(wri (by omega) (by omega)).trans (by omega)
    simp only [Bool.not_true,cond_false,if_true]
    unfold pkR goTo
    simp only [hw,idx_nat,e2,obind_some]
    rw [show ((i'+1:Nat):Int)=(i':Int)+1 by omega]
  ·rfl
 ·rfl

def bef (p:den tPk):Int:=if isRev (curPt p).1 then subM p.2.2.2.2.2.2.1 (curHp p).2.2.2.2 else p.2.2.2.2.2.2.1

def aft (p:den tPk):Int:=if isRev (curPt p).1 then subM p.2.2.2.2.2.2.1 (curHp p).2.2.2.2 else addM p.2.2.2.2.2.2.1 (curHp p).2.2.2.2

def sealOk (t:den tTo) (p:den tPk):Bool:=hasHop p&&verH t (curPt p).2.1 (bef p) (curHp p)

def sealed (t:den tTo) (p:den tPk):den tPk:=if sealOk t p then goTo p p.2.2.2.2.1 p.2.2.2.2.2.1 (aft p) else p

def sealR (p:den tPk) (b:Bool):Int×Int×Int×Int×Int×Int×Int×Int×Bool×(List (den tPp))×(List Int):=(p.1,p.2.1,p.2.2.1,p.2.2.2.2.1,p.2.2.2.2.2.1,p.2.2.2.2.2.2.1,p.2.2.2.2.2.2.2.1,p.2.2.2.2.2.2.2.2.1,b,p.2.2.2.1,p.2.2.2.2.2.2.2.2.2)

theorem i_seal {t:den tTo} {p:den tPk} (ht:t.1.length≤68719476736) (h:SmB 68719476736 tPk p):i_VerifyCurrentHop t p=some (sealR (sealed t p) (sealOk t p)):=by
 unfold i_VerifyCurrentHop sealed sealOk
 simp only [peta,i_copyK h,i_hop h,obind_some]
 cases c:hasHop p
 ·rfl
 ·obtain ⟨i,j,h1,h2,h3,h4,_⟩:=hop_at c
  simp only [h1,h2,idx_nat,h3,h4,obind_some,i_isRev,i_addM,i_subM,Bool.not_true,cond_false,Bool.true_and]
  unfold bef aft
  cases isRev (curPt p).1
  ·simp only [cond_false,obind_some,i_verH ht,Bool.false_eq_true,if_false]
   cases verH t (curPt p).2.1 p.2.2.2.2.2.2.1 (curHp p)
   ·simp only [Bool.not_false,cond_true,Bool.false_eq_true,if_false];unfold sealR pkR;simp only [h1,h2]
   ·simp only [Bool.not_true,cond_false,if_true];unfold sealR pkR goTo;simp only [h1,h2]
  ·simp only [cond_true,obind_some,i_verH ht,if_true]
   cases verH t (curPt p).2.1 (subM p.2.2.2.2.2.2.1 (curHp p).2.2.2.2) (curHp p)
   ·simp only [Bool.not_false,cond_true,Bool.false_eq_true,if_false];unfold sealR pkR;simp only [h1,h2]
   ·simp only [Bool.not_true,cond_false,if_true];unfold sealR pkR goTo;simp only [h1,h2]

theorem verH_as {t:den tTo} {ts b:Int} {h:den tHop} (hv:h.1<0):verH t ts b h=false:=by
 unfold verH validH
 rw [inR_not.2 (fun hh=>absurd hv (Int.not_lt.2 hh.1))]
 rfl

theorem s_seal {t:den tTo} {p:den tPk} (ht:t.1.length≤68719476736) (h:SmB 68719476736 tPk p):s_VerifyCurrentHop t p=some (sealR (sealed t p) (sealOk t p)):=by
 unfold s_VerifyCurrentHop sealed sealOk
 simp only [peta,s_copyK h,s_curAS h,obind_some]
 cases c:hasHop p
 ·rw [curAS_no c];rfl
 ·obtain ⟨i,j,h1,h2,h3,h4,h5⟩:=hop_at c
  rw [h5]
  by_cases hn:(curHp p).1<0
  ·rw [decide_eq_true hn,verH_as hn];rfl
  ·simp only [decide_eq_false hn,cond_false,h1,h2,idx_nat,h3,h4,obind_some,s_isRev,s_addM,s_subM,Bool.true_and,s_verH ht]
   unfold bef aft
   cases isRev (curPt p).1
   ·simp only [cond_false,Bool.false_eq_true,if_false]
    cases verH t (curPt p).2.1 p.2.2.2.2.2.2.1 (curHp p)
    ·simp only [Bool.not_false,cond_true,Bool.false_eq_true,if_false];unfold sealR pkR;simp only [h1,h2]
    ·simp only [Bool.not_true,cond_false,if_true];unfold sealR pkR goTo;simp only [h1,h2]
   ·simp only [cond_true,if_true]
    cases verH t (curPt p).2.1 (subM p.2.2.2.2.2.2.1 (curHp p).2.2.2.2) (curHp p)
    ·simp only [Bool.not_false,cond_true,Bool.false_eq_true,if_false];unfold sealR pkR;simp only [h1,h2]
    ·simp only [Bool.not_true,cond_false,if_true];unfold sealR pkR goTo;simp only [h1,h2]

def inTime (p:den tPk) (now:Int):Bool:= !decide (curAS p<0)&&(decide ((curPt p).2.1≤now)&&decide (now≤(curHp p).2.2.2.1))

theorem i_inTime {p:den tPk} {now:Int} (h:SmB 68719476736 tPk p):i_CurrentHopValid p now=some (inTime p now):=by
 unfold i_CurrentHopValid inTime
 simp only [peta,i_curAS h,obind_some]
 cases c:decide (curAS p<0)
 ·have hh:=cur_hop (p:=p) (by have :=of_decide_eq_false c;omega)
  obtain ⟨i,j,h1,h2,h3,h4,h5⟩:=hop_at hh
  simp only [cond_false,h1,h2,idx_nat,h3,h4,obind_some,i_HopValidAt]
  cases decide ((curPt p).2.1≤now)<;>rfl
 ·rfl

theorem s_inTime {p:den tPk} {now:Int} (h:SmB 68719476736 tPk p):s_CurrentHopValid p now=some (inTime p now):=by
 unfold s_CurrentHopValid inTime
 simp only [peta,s_curAS h,obind_some]
 cases c:decide (curAS p<0)
 ·have hh:=cur_hop (p:=p) (by have :=of_decide_eq_false c;omega)
  obtain ⟨i,j,h1,h2,h3,h4,h5⟩:=hop_at hh
  simp only [cond_false,h1,h2,idx_nat,h3,h4,obind_some,s_HopValidAt]
  cases decide ((curPt p).2.1≤now)<;>rfl
 ·rfl

def chkC (t:den tTo) (now:Int) (p:den tPk):Int:=if sealOk t p then (if inTime p now then 0 else 5) else 4

def goC (t:den tTo) (now:Int):Nat→den tPk→Int×den tPk
 | 0,p=>(chkC t now p,sealed t p)
 | n+1,p=>if chkC t now p==0&&(lastPt (sealed t p)&& !atLast (sealed t p)) then goC t now n (adv (sealed t p)) else (chkC t now p,sealed t p)

theorem sealed_tot (t:den tTo) (p:den tPk):tot tPk (sealed t p)=tot tPk p:=by
 unfold sealed;split<;>rfl

theorem adv_tot (p:den tPk):tot tPk (adv p)=tot tPk p:=by
 unfold adv;split
 ·rfl
 ·split<;>rfl

theorem sealed_time (t:den tTo) (p:den tPk) (now:Int):inTime (sealed t p) now=inTime p now:=by
 unfold sealed;split<;>rfl

theorem sealed_cur (t:den tTo) (p:den tPk):hasHop (sealed t p)=hasHop p∧curAS (sealed t p)=curAS p∧curHp (sealed t p)=curHp p∧(sealed t p).2.2.2.1=p.2.2.2.1∧(sealed t p).2.2.2.2.1=p.2.2.2.2.1:=by
 unfold sealed;split<;>exact ⟨rfl,rfl,rfl,rfl,rfl⟩

theorem chk_zero {t:den tTo} {now:Int} {p:den tPk} (h:chkC t now p=0):hasHop p=true∧0≤curAS p:=by
 unfold chkC at h
 split at h
 ·rename_i hs
  unfold sealOk at hs
  rw [Bool.and_eq_true] at hs
  refine ⟨hs.1,?_⟩
  obtain ⟨i,j,h1,h2,h3,h4,h5⟩:=hop_at hs.1
  rw [h5]
  by_cases hn:(curHp p).1<0
  ·rw [verH_as hn] at hs;cases hs.2
  ·exact Int.not_lt.1 hn
 ·cases h

theorem adv_part {p:den tPk} (h0:0≤curAS p) (hc:(lastPt p&& !atLast p)=true):(adv p).2.2.2.1=p.2.2.2.1∧(adv p).2.2.2.2.1=p.2.2.2.2.1+1:=by
 rw [Bool.and_eq_true] at hc
 have ha:atLast p=false:=by simpa using hc.2
 unfold adv
 rw [decide_eq_false (by omega),ha,hc.1]
 exact ⟨rfl,rfl⟩

theorem go_loop {t:den tTo} {now:Int} {S R:Type} (enc:Int→den tPk→S) (out:S→R) {step:S→Option (S⊕R)} (st:den tPk→den tPk) (hst: ∀ p,chkC t now p=0→st p=sealed t p)
  (hstop: ∀ c p,c≠0→step (enc c p)=some (.inr (out (enc c p))))
  (hgo: ∀ q,tot tPk q≤34359738368→hasHop q=true→0≤curAS q→step (enc 0 q)=some (if lastPt q&& !atLast q then .inl (enc (chkC t now (adv q)) (st (adv q))) else .inr (out (enc 0 q)))):
  ∀ (n:Nat) (p:den tPk),tot tPk p≤34359738368→p.2.2.2.1.length - p.2.2.2.2.1.toNat≤n→ ∃ r,loopM step (enc (chkC t now p) (st p))=some (out (enc (goC t now n p).1 r))∧((goC t now n p).1=0→r=(goC t now n p).2):=by
 intro n
 induction n with
 | zero=>
  intro p hp hm
  by_cases hc:chkC t now p=0
  ·obtain ⟨hh,h0⟩:=chk_zero hc
   obtain ⟨i,j,h1,h2,h3,h4,h5⟩:=hop_at hh
   have hlt:=(List.getElem?_eq_some_iff.1 h3).1
   rw [h1,Int.toNat_natCast] at hm
   exact absurd hlt (by omega)
  ·exact ⟨_,loopM_done (hstop _ _ hc),fun h=>absurd h hc⟩
 | succ n ih=>
  intro p hp hm
  by_cases hc:chkC t now p=0
  ·obtain ⟨hh,h0⟩:=chk_zero hc
   obtain ⟨e1,e2,e3,e4,e5⟩:=sealed_cur t p
   have hq:=hgo (sealed t p) (by rw [sealed_tot];exact hp) (by rw [e1];exact hh) (by rw [e2];exact h0)
   rw [hst p hc]
   cases hb:lastPt (sealed t p)&& !atLast (sealed t p) with
   | false=>
    rw [hb] at hq
    have hg:goC t now (n+1) p=(chkC t now p,sealed t p):=by
     show (if _ then _ else _)=_
     rw [hb,Bool.and_false];rfl
    rw [hg,hc]
    exact ⟨sealed t p,loopM_done hq,fun _=>rfl⟩
   | true=>
    rw [hb,if_pos rfl] at hq
    have hg:goC t now (n+1) p=goC t now n (adv (sealed t p)):=by
     show (if _ then _ else _)=_
     rw [hb,hc];rfl
    rw [hg,hc,loopM_next hq]
    obtain ⟨a1,a2⟩:=adv_part (p:=sealed t p) (by rw [e2];exact h0) hb
    obtain ⟨i,j,h1,h2,h3,h4,h5⟩:=hop_at hh
    refine ih (adv (sealed t p)) (by rw [adv_tot,sealed_tot];exact hp) ?_
    rw [a1,a2,e4,e5,h1]
    rw [h1,Int.toNat_natCast] at hm
    have :((i:Int)+1).toNat=i+1:=by omega
    rw [this]
    omega
  ·have hg:goC t now (n+1) p=(chkC t now p,sealed t p):=by
    show (if _ then _ else _)=_
    rw [show (chkC t now p==0)=false from by simpa using hc];rfl
   rw [hg]
   exact ⟨_,loopM_done (hstop _ _ hc),fun h=>absurd h hc⟩

def wantI (p:den tPk):Int:=if p.2.2.2.2.1==0&&p.2.2.2.2.2.1==0 then 0 else pIn (curPt p) (curHp p)


def gone (t:den tTo) (now:Int) (p:den tPk):Int×den tPk:=goC t now (p.2.2.2.1.length - p.2.2.2.2.1.toNat) p


def fwd (t:den tTo) (r now dead inn:Int) (p:den tPk):Int×Int×den tPk×Int:=
 if !validK p||(!simpleP t p.2.2.2.1|| !(curAS p==r)) then (2,0,p,0)
 else if !(inn==wantI p) then (3,0,p,0)
 else if !((gone t now p).1==0) then ((gone t now p).1,0,p,0)
 else if atLast (gone t now p).2 then (if (gone t now p).2.2.2.1==r then (1,0,(gone t now p).2,0) else (2,0,p,0))
 else if !stepA t (r,inn,pEg (curPt (gone t now p).2) (curHp (gone t now p).2)) then (6,0,p,0)
 else if inSet dead (pEg (curPt (gone t now p).2) (curHp (gone t now p).2)) then (7,0,p,pEg (curPt (gone t now p).2) (curHp (gone t now p).2))
 else (0,pEg (curPt (gone t now p).2) (curHp (gone t now p).2),adv (gone t now p).2,pEg (curPt (gone t now p).2) (curHp (gone t now p).2))

def fwI (v:Int×Int×den tPk×Int):Int×Int×Int×Int×Int×(List (den tPp))×Int×Int×Int×Int×Int×(List Int)×Int:=
 (v.1,v.2.1,v.2.2.1.1,v.2.2.1.2.1,v.2.2.1.2.2.1,v.2.2.1.2.2.2.1,v.2.2.1.2.2.2.2.1,v.2.2.1.2.2.2.2.2.1,v.2.2.1.2.2.2.2.2.2.1,v.2.2.1.2.2.2.2.2.2.2.1,v.2.2.1.2.2.2.2.2.2.2.2.1,v.2.2.1.2.2.2.2.2.2.2.2.2,v.2.2.2)

def fwS (v:Int×Int×den tPk×Int):Int×Int×Int×Int×Int×Int×Int×Int×Int×Int×(List (den tPp))×(List Int):=(v.1,v.2.1,pkR v.2.2.1)

theorem goC_hop {t:den tTo} {now:Int}: ∀ (n:Nat) (p:den tPk),(goC t now n p).1=0→hasHop (goC t now n p).2=true∧0≤curAS (goC t now n p).2∧tot tPk (goC t now n p).2=tot tPk p
 | 0,p,h=>by
  obtain ⟨h1,h2⟩:=chk_zero (show chkC t now p=0 from h)
  obtain ⟨e1,e2,_⟩:=sealed_cur t p
  exact ⟨e1.trans h1,by rw [show (goC t now 0 p).2=sealed t p from rfl,e2];exact h2,sealed_tot t p⟩
 | n+1,p,h=>by
  unfold goC at h ⊢
  split at h
  ·rename_i hc
   rw [if_pos hc]
   obtain ⟨h1,h2,h3⟩:=goC_hop n _ h
   exact ⟨h1,h2,by rw [h3,adv_tot,sealed_tot]⟩
  ·rename_i hc
   rw [if_neg hc]
   obtain ⟨h1,h2⟩:=chk_zero (show chkC t now p=0 from h)
   obtain ⟨e1,e2,_⟩:=sealed_cur t p
   exact ⟨e1.trans h1,by rw [show (chkC t now p,sealed t p).2=sealed t p from rfl,e2];exact h2,sealed_tot t p⟩

def chkR (t:den tTo) (now:Int) (p:den tPk):den tPk:=if chkC t now p=0 then sealed t p else p

def chkI (p:den tPk) (c:Int):Int×Int×Int×(List (den tPp))×Int×Int×Int×Int×Int×(List Int)×Int:=(p.1,p.2.1,p.2.2.1,p.2.2.2.1,p.2.2.2.2.1,p.2.2.2.2.2.1,p.2.2.2.2.2.2.1,p.2.2.2.2.2.2.2.1,p.2.2.2.2.2.2.2.2.1,p.2.2.2.2.2.2.2.2.2,c)

def chkS (p:den tPk) (c:Int):Int×Int×Int×Int×Int×Int×Int×Int×Int×(List (den tPp))×(List Int):=(p.1,p.2.1,p.2.2.1,p.2.2.2.2.1,p.2.2.2.2.2.1,p.2.2.2.2.2.2.1,p.2.2.2.2.2.2.2.1,p.2.2.2.2.2.2.2.2.1,c,p.2.2.2.1,p.2.2.2.2.2.2.2.2.2)

theorem i_chk {t:den tTo} {now:Int} {p:den tPk} (ht:t.1.length≤68719476736) (h:tot tPk p≤34359738368):i_checkHop t now p=some (chkI (chkR t now p) (chkC t now p)):=by
 unfold i_checkHop
 simp only [peta,i_seal ht (pk_sm h),obind_some]
 unfold chkR chkC
 cases c:sealOk t p
 ·simp only [sealR,Bool.not_false,cond_true,Bool.false_eq_true,if_false];rfl
 ·have hs:tot tPk (sealed t p)≤34359738368:=by rw [sealed_tot];exact h
  have key:i_CurrentHopValid ((sealR (sealed t p) true).1,(sealR (sealed t p) true).2.1,(sealR (sealed t p) true).2.2.1,(sealR (sealed t p) true).2.2.2.2.2.2.2.2.2.1,(sealR (sealed t p) true).2.2.2.1,(sealR (sealed t p) true).2.2.2.2.1,(sealR (sealed t p) true).2.2.2.2.2.1,(sealR (sealed t p) true).2.2.2.2.2.2.1,(sealR (sealed t p) true).2.2.2.2.2.2.2.1,(sealR (sealed t p) true).2.2.2.2.2.2.2.2.2.2) now=some (inTime p now):=by
   rw [← sealed_time t p now]
   exact i_inTime (pk_sm hs)
  rw [key]
  simp only [sealR,Bool.not_true,cond_false,obind_some,if_true]
  cases inTime p now
  ·simp only [Bool.not_false,cond_true,Bool.false_eq_true,if_false];rfl
  ·simp only [Bool.not_true,cond_false,if_true];rfl

theorem s_chk {t:den tTo} {now:Int} {p:den tPk} (ht:t.1.length≤68719476736) (h:tot tPk p≤34359738368):s_l28Check t now p=some (chkS (sealed t p) (chkC t now p)):=by
 unfold s_l28Check
 simp only [peta,s_seal ht (pk_sm h),s_inTime (pk_sm h),obind_some]
 unfold chkC
 cases c:sealOk t p
 ·simp only [sealR,Bool.not_false,cond_true,Bool.false_eq_true,if_false];rfl
 ·simp only [sealR,Bool.not_true,cond_false,if_true]
  cases inTime p now
  ·simp only [Bool.not_false,cond_true,Bool.false_eq_true,if_false];rfl
  ·simp only [Bool.not_true,cond_false,if_true];rfl

theorem validK_hop {p:den tPk} (h:validK p=true):hasHop p=true:=by
 unfold validK at h
 simp only [Bool.and_eq_true] at h
 exact h.2.2.1

theorem i_rej {c:Int} {p:den tPk} (h:tot tPk p≤34359738368):i_decide_1 c p=some (c,0,p.1,p.2.1,p.2.2.1,p.2.2.2.2.1,p.2.2.2.2.2.1,p.2.2.2.2.2.2.1,p.2.2.2.2.2.2.2.1,p.2.2.2.2.2.2.2.2.1,p.2.2.2.1,p.2.2.2.2.2.2.2.2.2,p.1,p.2.1,p.2.2.1,p.2.2.2.1,p.2.2.2.2.1,p.2.2.2.2.2.1,p.2.2.2.2.2.2.1,p.2.2.2.2.2.2.2.1,p.2.2.2.2.2.2.2.2.1,p.2.2.2.2.2.2.2.2.2):=by
 unfold i_decide_1
 simp only [peta,i_copyK (pk_sm h),obind_some]
 rfl

theorem s_rej {c:Int} {p:den tPk} (h:tot tPk p≤34359738368):s_l28No c p=some (c,0,pkR p):=by
 unfold s_l28No
 simp only [peta,s_copyK (pk_sm h),obind_some]

theorem pk_tot {p:den tPk} {N:Nat} (h:tot tPk p≤N):tot tPt p.2.2.2.1≤N:=(pk_path h).1

theorem i_fwd {t:den tTo} {r now dead inn:Int} {p:den tPk} (ht:t.1.length≤68719476736) (ht2:t.2.length≤68719476736) (h:tot tPk p≤34359738368) (hpp:tot tPt p.2.2.2.1≤1073741824):i_decide t r now dead inn p=some (fwI (fwd t r now dead inn p)):=by
 unfold i_decide fwd
 simp only [peta,i_validK (pk_sm h),i_simpleP ht ht2 hpp,i_curAS (pk_sm h),obind_some,ne_beq,i_rej h]
 cases cv:validK p
 ·simp only [Bool.not_false,Bool.true_or,cond_true,obind_some,if_true];rfl
 ·cases cs:simpleP t p.2.2.2.1
  ·simp only [Bool.not_true,Bool.not_false,Bool.true_or,Bool.or_true,cond_true,cond_false,obind_some,if_true];rfl
  ·cases cr:curAS p==r
   ·simp only [Bool.not_true,Bool.not_false,Bool.true_or,Bool.or_true,cond_true,cond_false,obind_some,if_true];rfl
   ·simp only [Bool.not_true,Bool.or_self,cond_false,obind_some,Bool.false_eq_true,if_false]
    obtain ⟨i,j,h1,h2,h3,h4,h5⟩:=hop_at (validK_hop cv)
    have hl:=pt_len (pk_sm h) h3
    have hw:(@Option.bind Bool Int (cond (p.2.2.2.2.1==(0:Int)) (some (p.2.2.2.2.2.1==(0:Int))) (some false)) fun (s8:Bool)=>cond s8 (some (0:Int)) (some (pIn (curPt p) (curHp p))))=some (wantI p):=by
     unfold wantI
     cases p.2.2.2.2.1==0<;>cases p.2.2.2.2.2.1==0<;>rfl
    have hp1:idx p.2.2.2.1 p.2.2.2.2.1=some (curPt p):=by rw [h1,idx_nat];exact h3
    have hp2:i_PartIngress (curPt p) p.2.2.2.2.2.1=some (pIn (curPt p) (curHp p)):=by rw [h2];exact i_pIn h4 hl
    rw [hp1,obind_some,hp2,obind_some,hw,obind_some]
    cases ci:inn==wantI p
    ·simp only [Bool.not_false,cond_true,if_true,obind_some];rfl
    ·simp only [Bool.not_true,cond_false,Bool.false_eq_true,if_false,i_copyK (pk_sm h),obind_some]
     have hc:i_checkHop t now ((pkR p).1,(pkR p).2.1,(pkR p).2.2.1,(pkR p).2.2.2.2.2.2.2.2.1,(pkR p).2.2.2.1,(pkR p).2.2.2.2.1,(pkR p).2.2.2.2.2.1,(pkR p).2.2.2.2.2.2.1,(pkR p).2.2.2.2.2.2.2.1,(pkR p).2.2.2.2.2.2.2.2.2)=some (chkI (chkR t now p) (chkC t now p)):=i_chk ht h
     rw [hc]
     simp only [obind_some,both_self,dup_self,dup3_self,dup4_self,dup5_self]
     obtain ⟨q,hq1,hq2⟩:=go_loop (t:=t) (now:=now) (S:=Int×den tPk) (R:=Int×den tPk) (fun c p=>(c,p)) id (step:=fun s23=> @Option.bind Bool _ (cond (s23.1==(0:Int)) (Option.bind (i_lastOfPart s23.2) fun y24=>cond y24 (Option.bind (i_AtLastHop s23.2) fun y25=>some (!y25)) (some false)) (some false)) fun (s26:Bool)=>cond s26 (Option.bind (i_AdvanceHop s23.2) fun y27=>Option.bind (i_checkHop t now (y27.1,y27.2.1,y27.2.2.1,y27.2.2.2.2.2.2.2.2.1,y27.2.2.2.1,y27.2.2.2.2.1,y27.2.2.2.2.2.1,y27.2.2.2.2.2.2.1,y27.2.2.2.2.2.2.2.1,y27.2.2.2.2.2.2.2.2.2)) fun y28=>some (Sum.inl (y28.2.2.2.2.2.2.2.2.2.2,y28.1,y28.2.1,y28.2.2.1,y28.2.2.2.1,y28.2.2.2.2.1,y28.2.2.2.2.2.1,y28.2.2.2.2.2.2.1,y28.2.2.2.2.2.2.2.1,y28.2.2.2.2.2.2.2.2.1,y28.2.2.2.2.2.2.2.2.2.1))) (some (Sum.inr s23))) (chkR t now) (fun p hp=>if_pos hp) (fun c p hc=>by
       have :(c==0)=false:=by simpa using hc
       simp only [this,cond_false,obind_some,id]) (fun q hq hh h0=>by
       have e:i_checkHop t now ((pkR (adv q)).1,(pkR (adv q)).2.1,(pkR (adv q)).2.2.1,(pkR (adv q)).2.2.2.2.2.2.2.2.1,(pkR (adv q)).2.2.2.1,(pkR (adv q)).2.2.2.2.1,(pkR (adv q)).2.2.2.2.2.1,(pkR (adv q)).2.2.2.2.2.2.1,(pkR (adv q)).2.2.2.2.2.2.2.1,(pkR (adv q)).2.2.2.2.2.2.2.2.2)=some (chkI (chkR t now (adv q)) (chkC t now (adv q))):=i_chk (p:=adv q) ht (by rw [adv_tot];exact hq)
       simp only [beq_self_eq_true,cond_true,i_lastPt (pk_sm hq) hh,i_atLast (pk_sm hq),i_adv (pk_sm hq),obind_some,e]
       cases lastPt q<;>cases atLast q<;>rfl) _ p h (Nat.le_refl _)
     have hq1:loopM _ (chkC t now p,chkR t now p)=some ((gone t now p).1,q):=hq1
     have hq2:(gone t now p).1=0→q=(gone t now p).2:=hq2
     have e0:(((chkI (chkR t now p) (chkC t now p)).2.2.2.2.2.2.2.2.2.2,(chkI (chkR t now p) (chkC t now p)).1,(chkI (chkR t now p) (chkC t now p)).2.1,(chkI (chkR t now p) (chkC t now p)).2.2.1,(chkI (chkR t now p) (chkC t now p)).2.2.2.1,(chkI (chkR t now p) (chkC t now p)).2.2.2.2.1,(chkI (chkR t now p) (chkC t now p)).2.2.2.2.2.1,(chkI (chkR t now p) (chkC t now p)).2.2.2.2.2.2.1,(chkI (chkR t now p) (chkC t now p)).2.2.2.2.2.2.2.1,(chkI (chkR t now p) (chkC t now p)).2.2.2.2.2.2.2.2.1,(chkI (chkR t now p) (chkC t now p)).2.2.2.2.2.2.2.2.2.1):Int×den tPk)=(chkC t now p,chkR t now p):=rfl
     rw [e0,hq1,obind_some]
     by_cases hz:(gone t now p).1=0
     ·have hqq:=hq2 hz
      subst hqq
      obtain ⟨g1,g2,g3⟩:=goC_hop _ p hz
      have g1:hasHop (gone t now p).2=true:=g1
      have g2:0≤curAS (gone t now p).2:=g2
      have g3:tot tPk (gone t now p).2=tot tPk p:=g3
      have hg:tot tPk (gone t now p).2≤34359738368:=by rw [g3];exact h
      obtain ⟨i',j',k1,k2,k3,k4,k5⟩:=hop_at g1
      have hl':=pt_len (pk_sm hg) k3
      have q1:idx (gone t now p).2.2.2.2.1 (gone t now p).2.2.2.2.2.1=some (curPt (gone t now p).2):=by rw [k1,idx_nat];exact k3
      have q2:i_PartEgress (curPt (gone t now p).2) (gone t now p).2.2.2.2.2.2.1=some (pEg (curPt (gone t now p).2) (curHp (gone t now p).2)):=by rw [k2];exact i_pEg k4 hl'
      simp only [hz,beq_self_eq_true,Bool.not_true,cond_false,Bool.false_eq_true,if_false,i_atLast (pk_sm hg),obind_some]
      cases ca:atLast (gone t now p).2
      ·simp only [cond_false,Bool.false_eq_true,if_false,q1,q2,obind_some,i_stepA ht2,i_inSet]
       cases stepA t (r,inn,pEg (curPt (gone t now p).2) (curHp (gone t now p).2))
       ·simp only [Bool.not_false,cond_true,if_true];rfl
       ·simp only [Bool.not_true,cond_false,Bool.false_eq_true,if_false]
        cases inSet dead (pEg (curPt (gone t now p).2) (curHp (gone t now p).2))
        ·simp only [cond_false,Bool.false_eq_true,if_false,i_adv (pk_sm hg),obind_some];rfl
        ·simp only [cond_true,if_true];rfl
      ·simp only [cond_true,if_true]
       cases (gone t now p).2.2.2.1==r
       ·simp only [Bool.not_false,cond_true,Bool.false_eq_true,if_false];rfl
       ·simp only [Bool.not_true,cond_false,if_true];rfl
     ·have hz':((gone t now p).1==0)=false:=by simpa using hz
      simp only [hz',Bool.not_false,cond_true,if_true,i_rej h,obind_some];rfl


def encS (c:Int) (p:den tPk):Int×Int×Int×Int×Int×Int×Int×Int×Int×(List (den tPp))×(List Int):=(c,p.1,p.2.1,p.2.2.1,p.2.2.2.2.1,p.2.2.2.2.2.1,p.2.2.2.2.2.2.1,p.2.2.2.2.2.2.2.1,p.2.2.2.2.2.2.2.2.1,p.2.2.2.1,p.2.2.2.2.2.2.2.2.2)

theorem more_key {q:den tPk} (hh:hasHop q=true) (h0:0≤curAS q):(lastPt q&&decide (q.2.2.2.2.1<(q.2.2.2.1.length:Int) - 1))=(lastPt q&& !atLast q):=by
 obtain ⟨i,j,h1,h2,h3,h4,h5⟩:=hop_at hh
 have hlt:=(List.getElem?_eq_some_iff.1 h3).1
 unfold atLast lastIn
 rw [decide_eq_true (p:=curAS q≥0) h0,h1]
 have key:decide ((i:Int)<(q.2.2.2.1.length:Int) - 1)= !((i:Int)==(q.2.2.2.1.length:Int) - 1):=by
  rw [Bool.eq_iff_iff]
  simp only [decide_eq_true_eq,Bool.not_eq_true',beq_eq_false_iff_ne,ne_eq]
  omega
 rw [key]
 cases lastPt q<;>simp

theorem s_fwd {t:den tTo} {r now dead inn:Int} {p:den tPk} (ht:t.1.length≤68719476736) (ht2:t.2.length≤68719476736) (h:tot tPk p≤34359738368) (hpp:tot tPt p.2.2.2.1≤1073741824):s_Forward t r now dead inn p=some (fwS (fwd t r now dead inn p)):=by
 unfold s_Forward fwd
 simp only [peta,s_validK (pk_sm h),s_simpleP ht ht2 hpp,s_curAS (pk_sm h),obind_some,ne_beq,s_rej h]
 cases cv:validK p
 ·simp only [Bool.not_false,Bool.true_or,cond_true,obind_some,if_true];rfl
 ·cases cs:simpleP t p.2.2.2.1
  ·simp only [Bool.not_true,Bool.not_false,Bool.true_or,Bool.or_true,cond_true,cond_false,obind_some,if_true];rfl
  ·cases cr:curAS p==r
   ·simp only [Bool.not_true,Bool.not_false,Bool.true_or,Bool.or_true,cond_true,cond_false,obind_some,if_true];rfl
   ·simp only [Bool.not_true,Bool.or_self,cond_false,obind_some,Bool.false_eq_true,if_false]
    obtain ⟨i,j,h1,h2,h3,h4,h5⟩:=hop_at (validK_hop cv)
    have hl:=pt_len (pk_sm h) h3
    have hw:(@Option.bind Bool Int (cond (p.2.2.2.2.1==(0:Int)) (some (p.2.2.2.2.2.1==(0:Int))) (some false)) fun (s8:Bool)=>cond s8 (some (0:Int)) (some (pIn (curPt p) (curHp p))))=some (wantI p):=by
     unfold wantI
     cases p.2.2.2.2.1==0<;>cases p.2.2.2.2.2.1==0<;>rfl
    have hp1:idx p.2.2.2.1 p.2.2.2.2.1=some (curPt p):=by rw [h1,idx_nat];exact h3
    have hp2:s_PartIngress (curPt p) p.2.2.2.2.2.1=some (pIn (curPt p) (curHp p)):=by rw [h2];exact s_pIn h4 hl
    rw [hp1,obind_some,hp2,obind_some,hw,obind_some]
    cases ci:inn==wantI p
    ·simp only [Bool.not_false,cond_true,if_true,obind_some];rfl
    ·simp only [Bool.not_true,cond_false,Bool.false_eq_true,if_false,s_chk ht h,obind_some]
     obtain ⟨q,hq1,hq2⟩:=go_loop (t:=t) (now:=now) encS id (step:=fun s17=> @Option.bind Bool _ (cond (s17.1==(0:Int)) (cond (decide ((0:Int)≤s17.2.2.2.2.1)) (cond (decide (s17.2.2.2.2.1<(s17.2.2.2.2.2.2.2.2.2.1.length:Int))) (Option.bind s17.2.2.2.2.2.2.2.2.2.1[s17.2.2.2.2.1.toNat]? fun x18=>cond (s17.2.2.2.2.2.1==(wr ((x18.2.2.2.length:Int) - (1:Int)))) (some (decide (s17.2.2.2.2.1<(wr ((s17.2.2.2.2.2.2.2.2.2.1.length:Int) - (1:Int)))))) (some false)) none) none) (some false)) fun (s19:Bool)=>cond s19 (Option.bind (s_AdvanceHop (s17.2.1,s17.2.2.1,s17.2.2.2.1,s17.2.2.2.2.2.2.2.2.2.1,s17.2.2.2.2.1,s17.2.2.2.2.2.1,s17.2.2.2.2.2.2.1,s17.2.2.2.2.2.2.2.1,s17.2.2.2.2.2.2.2.2.1,s17.2.2.2.2.2.2.2.2.2.2)) fun y20=>Option.bind (s_l28Check t now (y20.1,y20.2.1,y20.2.2.1,y20.2.2.2.2.2.2.2.2.1,y20.2.2.2.1,y20.2.2.2.2.1,y20.2.2.2.2.2.1,y20.2.2.2.2.2.2.1,y20.2.2.2.2.2.2.2.1,y20.2.2.2.2.2.2.2.2.2)) fun y21=>some (Sum.inl (y21.2.2.2.2.2.2.2.2.1,y21.1,y21.2.1,y21.2.2.1,y21.2.2.2.1,y21.2.2.2.2.1,y21.2.2.2.2.2.1,y21.2.2.2.2.2.2.1,y21.2.2.2.2.2.2.2.1,y21.2.2.2.2.2.2.2.2.2.1,y21.2.2.2.2.2.2.2.2.2.2))) (some (Sum.inr s17))) (sealed t) (fun p hp=>rfl) (fun c p hc=>by
       have :(c==0)=false:=by simpa using hc
       simp only [encS,this,cond_false,obind_some,id]) (fun q hq hh h0=>by
       have e:s_l28Check t now ((pkR (adv q)).1,(pkR (adv q)).2.1,(pkR (adv q)).2.2.1,(pkR (adv q)).2.2.2.2.2.2.2.2.1,(pkR (adv q)).2.2.2.1,(pkR (adv q)).2.2.2.2.1,(pkR (adv q)).2.2.2.2.2.1,(pkR (adv q)).2.2.2.2.2.2.1,(pkR (adv q)).2.2.2.2.2.2.2.1,(pkR (adv q)).2.2.2.2.2.2.2.2.2)=some (chkS (sealed t (adv q)) (chkC t now (adv q))):=s_chk (p:=adv q) ht (by rw [adv_tot];exact hq)
       obtain ⟨i',j',k1,k2,k3,k4,k5⟩:=hop_at hh
       have hlt:=(List.getElem?_eq_some_iff.1 k3).1
       have l1:List.length q.2.2.2.1≤68719476736:=(pk_sm hq).2.2.2.1.1
       have hm:=more_key hh h0
       simp only [encS,beq_self_eq_true,cond_true,peta,s_adv (pk_sm hq),obind_some,e]
       rw [← hm]
       have hd:decide ((i':Int)<(q.2.2.2.1.length:Int))=true:=decide_eq_true (by omega)
       simp only [k1,pos_nat,hd,cond_true,Int.toNat_natCast,k3,obind_some,wr_less (pt_len (pk_sm hq) k3),wr_less l1]
       unfold lastPt
       cases q.2.2.2.2.2.1==((curPt q).2.2.2.length:Int) - 1<;>cases decide ((i':Int)<(q.2.2.2.1.length:Int) - 1)<;>rfl) _ p h (Nat.le_refl _)
     have hq1:loopM _ (encS (chkC t now p) (sealed t p))=some (encS (gone t now p).1 q):=hq1
     have hq2:(gone t now p).1=0→q=(gone t now p).2:=hq2
     have e0:(((chkS (sealed t p) (chkC t now p)).2.2.2.2.2.2.2.2.1,(chkS (sealed t p) (chkC t now p)).1,(chkS (sealed t p) (chkC t now p)).2.1,(chkS (sealed t p) (chkC t now p)).2.2.1,(chkS (sealed t p) (chkC t now p)).2.2.2.1,(chkS (sealed t p) (chkC t now p)).2.2.2.2.1,(chkS (sealed t p) (chkC t now p)).2.2.2.2.2.1,(chkS (sealed t p) (chkC t now p)).2.2.2.2.2.2.1,(chkS (sealed t p) (chkC t now p)).2.2.2.2.2.2.2.1,(chkS (sealed t p) (chkC t now p)).2.2.2.2.2.2.2.2.2.1,(chkS (sealed t p) (chkC t now p)).2.2.2.2.2.2.2.2.2.2))=encS (chkC t now p) (sealed t p):=rfl
     rw [e0,hq1,obind_some]
     by_cases hz:(gone t now p).1=0
     ·have hqq:=hq2 hz
      subst hqq
      obtain ⟨g1,g2,g3⟩:=goC_hop _ p hz
      have g1:hasHop (gone t now p).2=true:=g1
      have g2:0≤curAS (gone t now p).2:=g2
      have g3:tot tPk (gone t now p).2=tot tPk p:=g3
      have hg:tot tPk (gone t now p).2≤34359738368:=by rw [g3];exact h
      obtain ⟨i',j',k1,k2,k3,k4,k5⟩:=hop_at g1
      have hlt:=(List.getElem?_eq_some_iff.1 k3).1
      have hl':=pt_len (pk_sm hg) k3
      have q2:s_PartEgress (curPt (gone t now p).2) (gone t now p).2.2.2.2.2.2.1=some (pEg (curPt (gone t now p).2) (curHp (gone t now p).2)):=by rw [k2];exact s_pEg k4 hl'
      simp only [encS,peta,hz,beq_self_eq_true,Bool.not_true,cond_false,Bool.false_eq_true,if_false,s_atLast (pk_sm hg),obind_some]
      cases ca:atLast (gone t now p).2
      ·simp only [cond_false,obind_some,Bool.false_eq_true,if_false]
       have hd:decide ((i':Int)<((gone t now p).2.2.2.2.1.length:Int))=true:=decide_eq_true (by omega)
       simp only [k1,pos_nat,hd,cond_true,Int.toNat_natCast,k3,obind_some,q2,s_stepA ht2,s_inSet]
       cases stepA t (r,inn,pEg (curPt (gone t now p).2) (curHp (gone t now p).2))
       ·simp only [Bool.not_false,cond_true,if_true];rfl
       ·simp only [Bool.not_true,cond_false,Bool.false_eq_true,if_false]
        cases inSet dead (pEg (curPt (gone t now p).2) (curHp (gone t now p).2))
        ·simp only [cond_false,Bool.false_eq_true,if_false,s_adv (pk_sm hg),obind_some];rfl
        ·simp only [cond_true,if_true];rfl
      ·simp only [cond_true,obind_some]
       cases (gone t now p).2.2.2.1==r
       ·simp only [cond_false,cond_true,Bool.false_eq_true,if_false,if_true];rfl
       ·simp only [cond_true,if_true];rfl
     ·have hz':((gone t now p).1==0)=false:=by simpa using hz
      simp only [encS,hz',Bool.not_false,cond_true,if_true,s_rej h,obind_some];rfl

theorem fwd_tot (t:den tTo) (r now dead inn:Int) (p:den tPk):tot tPk (fwd t r now dead inn p).2.2.1=tot tPk p:=by
 unfold fwd
 split
 ·rfl
 ·split
  ·rfl
  ·split
   ·rfl
   ·rename_i hz
    have hz:(gone t now p).1=0:=by simpa using hz
    obtain ⟨_,_,g3⟩:=goC_hop _ p hz
    have g3:tot tPk (gone t now p).2=tot tPk p:=g3
    split
    ·split
     ·exact g3
     ·rfl
    ·split
     ·rfl
     ·split
      ·rfl
      ·show tot tPk (adv (gone t now p).2)=_
       rw [adv_tot];exact g3

def stepV (t:den tTo) (now:Int) (dead:List Int) (r inn:Int) (p:den tPk):Int×Int×den tPk×Int:=fwd t r now (deadE t dead r) inn p

abbrev nT (w:den tNw):den tTo:=w.1

abbrev nK (w:den tNw):den tDb:=w.2.1

abbrev nG (w:den tNw):den tSc:=w.2.2.1

abbrev nNow (w:den tNw):Int:=w.2.2.2.1

abbrev nDead (w:den tNw):List Int:=w.2.2.2.2.1

abbrev nFly (w:den tNw):List (den tFy):=w.2.2.2.2.2.1

abbrev nFlows (w:den tNw):List (den tFl):=w.2.2.2.2.2.2.1

abbrev nBox (w:den tNw):List (den tIb):=w.2.2.2.2.2.2.2.1

abbrev nDrop (w:den tNw):Int:=w.2.2.2.2.2.2.2.2


def netC (w:den tNw):Int×Int×Int×(List (den tAS))×(List (den tLk))×(List (den tSg))×(List (den tSg))×(List (den tRs))×(List (den tUs))×(List Int)×(List (den tFy))×(List (den tFl))×(List (den tIb)):=
 ((nG w).1,nNow w,nDrop w,(nT w).1,(nT w).2,(nK w).1,(nK w).2,(nG w).2.1,(nG w).2.2,nDead w,nFly w,nFlows w,nBox w)

theorem i_copyR' {l:List (den tRs)} (h:l.length≤68719476736):i_copyReservations l=some l:=by
 unfold i_copyReservations
 rw [apOk_le (n:=([]:List (den tRs)).length) (by decide) (by simpa using h)]
 rfl

theorem i_copyS' {g:den tSc} (h:SmB 68719476736 tSc g):i_copyScheduler g=some g:=by
 unfold i_copyScheduler
 rw [i_copyR' h.2.1.1,obind_some,apOk_le (n:=([]:List (den tUs)).length) (by decide) (by simpa using h.2.2.1)]
 rfl

theorem s_copyS' {g:den tSc} (h:SmB 68719476736 tSc g):s_l34Copy g=some g:=by
 unfold s_l34Copy
 rw [apOk_le (b:=40) (n:=([]:List (den tRs)).length) (by decide) (by simpa using h.2.1.1),apOk_le (b:=32) (n:=([]:List (den tUs)).length) (by decide) (by simpa using h.2.2.1)]
 simp only [both_self,dup_self,dup3_self,dup4_self,dup5_self,cond_true,obind_some,List.nil_append]

theorem flow_back (f:den tFl):(((flowR f).1,(flowR f).2.1,(flowR f).2.2.1,(flowR f).2.2.2.1,(flowR f).2.2.2.2.2.2.1,(flowR f).2.2.2.2.2.2.2.1,(flowR f).2.2.2.2.1,(flowR f).2.2.2.2.2.1,(flowR f).2.2.2.2.2.2.2.2):den tFl)=f:=rfl

theorem pk_back (p:den tPk):(((pkR p).1,(pkR p).2.1,(pkR p).2.2.1,(pkR p).2.2.2.2.2.2.2.2.1,(pkR p).2.2.2.1,(pkR p).2.2.2.2.1,(pkR p).2.2.2.2.2.1,(pkR p).2.2.2.2.2.2.1,(pkR p).2.2.2.2.2.2.2.1,(pkR p).2.2.2.2.2.2.2.2.2):den tPk)=p:=rfl

theorem fly_pk {x:den tFy} (h:SmB 68719476736 tFy x):SmB 68719476736 tPk x.2.2:=h.2.2

theorem i_copyW {w:den tNw} (h:SmB 68719476736 tNw w):i_copyNetwork w=some (netC w):=by
 obtain ⟨hT,hK,hG,_,hD,hY,hF,hX,_⟩:=h
 unfold i_copyNetwork i_copyDatabase
 simp only [peta,i_copyT hT,i_copyGs hK.1,i_copyGs hK.2,i_copyS' hG,i_copyI hD.1,obind_some]
 rw [(loopF (fun k (a:List (den tFy))=>((k:Int),(nG w).1,nNow w,nDrop w,a)) ((0:Int),(nG w).1,nNow w,nDrop w,[]) [] (nFly w) (fun _ x a=>a++[x]) List.length (fun _=>1) 68719476736 (fun a=>((nG w).1,nNow w,nDrop w,a)) rfl (Nat.le_trans hY.1 (by decide)) (by rw [sum_one];simpa using hY.1) (fun k x a hi hx hd hw hk hb=>by
  have e:=fly_pk (hY.2 x (List.mem_of_getElem? hx))
  simp only [hd,hi,hw,cond_true,obind_some,peta,i_copyK e,pk_back,apOk_le (b:=128) (n:=a.length) (m:=1) (by decide) hb]
  exact ⟨rfl,by simp⟩) (fun a=>by simp)).1,foldI_map (fun x=>x)]
 simp only [obind_some]
 rw [(loopF (fun k (a:List (den tFl))=>((k:Int),(nG w).1,nNow w,nDrop w,a)) ((0:Int),(nG w).1,nNow w,nDrop w,[]) [] (nFlows w) (fun _ x a=>a++[x]) List.length (fun _=>1) 68719476736 (fun a=>((nG w).1,nNow w,nDrop w,a)) rfl (Nat.le_trans hF.1 (by decide)) (by rw [sum_one];simpa using hF.1) (fun k x a hi hx hd hw hk hb=>by
  have e:=hF.2 x (List.mem_of_getElem? hx)
  simp only [hd,hi,hw,cond_true,obind_some,peta,i_copyF e,flow_back,apOk_le (b:=120) (n:=a.length) (m:=1) (by decide) hb]
  exact ⟨rfl,by simp⟩) (fun a=>by simp)).1,foldI_map (fun x=>x)]
 simp only [obind_some]
 rw [(loopF (fun k (a:List (den tIb))=>((k:Int),(nG w).1,nNow w,nDrop w,a)) ((0:Int),(nG w).1,nNow w,nDrop w,[]) [] (nBox w) (fun _ x a=>a++[x]) List.length (fun _=>1) 68719476736 (fun a=>((nG w).1,nNow w,nDrop w,a)) rfl (Nat.le_trans hX.1 (by decide)) (by rw [sum_one];simpa using hX.1) (fun k x a hi hx hd hw hk hb=>by
  have e:=hX.2 x (List.mem_of_getElem? hx)
  simp only [hd,hi,hw,cond_true,obind_some,peta,i_copyX e,apOk_le (b:=48) (n:=a.length) (m:=1) (by decide) hb]
  simp) (fun a=>by simp)).1,foldI_map (fun x=>x)]
 simp only [obind_some,List.nil_append,List.map_id']
 rfl

theorem s_fly {l:List (den tFy)} (h:SmB 68719476736 (.sl tFy) l):s_l37Fly l=some l:=by
 unfold s_l37Fly
 rw [(loopF (fun k (a:List (den tFy))=>((k:Int),a)) ((0:Int),[]) [] l (fun _ x a=>a++[x]) List.length (fun _=>1) 68719476736 id rfl (Nat.le_trans h.1 (by decide)) (by rw [sum_one];simpa using h.1) (fun k x a hi hx hd hw hk hb=>by
  have e:=fly_pk (h.2 x (List.mem_of_getElem? hx))
  simp only [hd,hi,hw,cond_true,obind_some,peta,s_copyK e,pk_back,apOk_le (b:=128) (n:=a.length) (m:=1) (by decide) hb]
  exact ⟨rfl,by simp⟩) (fun a=>by simp)).1,foldI_map (fun x=>x)]
 simp

theorem s_flows {l:List (den tFl)} (h:SmB 68719476736 (.sl tFl) l):s_l37Flows l=some l:=by
 unfold s_l37Flows
 rw [(loopF (fun k (a:List (den tFl))=>((k:Int),a)) ((0:Int),[]) [] l (fun _ x a=>a++[x]) List.length (fun _=>1) 68719476736 id rfl (Nat.le_trans h.1 (by decide)) (by rw [sum_one];simpa using h.1) (fun k x a hi hx hd hw hk hb=>by
  have e:=h.2 x (List.mem_of_getElem? hx)
  simp only [hd,hi,hw,cond_true,obind_some,peta,s_copyF e,flow_back,apOk_le (b:=120) (n:=a.length) (m:=1) (by decide) hb]
  exact ⟨rfl,by simp⟩) (fun a=>by simp)).1,foldI_map (fun x=>x)]
 simp

theorem s_boxes {l:List (den tIb)} (h:SmB 68719476736 (.sl tIb) l):s_l37Boxes l=some l:=by
 unfold s_l37Boxes
 rw [(loopF (fun k (a:List (den tIb))=>((k:Int),a)) ((0:Int),[]) [] l (fun _ x a=>a++[x]) List.length (fun _=>1) 68719476736 id rfl (Nat.le_trans h.1 (by decide)) (by rw [sum_one];simpa using h.1) (fun k x a hi hx hd hw hk hb=>by
  have e:=h.2 x (List.mem_of_getElem? hx)
  simp only [hd,hi,hw,cond_true,obind_some,peta,s_copyX e,apOk_le (b:=48) (n:=a.length) (m:=1) (by decide) hb]
  simp) (fun a=>by simp)).1,foldI_map (fun x=>x)]
 simp

theorem s_copyW {w:den tNw} (h:SmB 68719476736 tNw w):s_l37Copy w=some (netC w):=by
 obtain ⟨hT,hK,hG,_,hD,hY,hF,hX,_⟩:=h
 unfold s_l37Copy
 simp only [peta,s_copyT hT,s_copyGs hK.1,s_copyGs hK.2,s_copyS' hG,s_fly hY,s_flows hF,s_boxes hX,obind_some,apOk_le (b:=8) (n:=([]:List Int).length) (m:=w.2.2.2.2.1.length) (by decide) (by simpa using hD.1),cond_true,both_self,dup_self,dup3_self,dup4_self,dup5_self,List.nil_append]
 rfl


def netR (w:den tNw):(List (den tFy))×(List (den tFl))×(List (den tIb))×(List (den tAS))×(List (den tLk))×(List (den tSg))×(List (den tSg))×Int×(List (den tRs))×(List (den tUs))×Int×(List Int)×Int:=
 (nFly w,nFlows w,nBox w,(nT w).1,(nT w).2,(nK w).1,(nK w).2,(nG w).1,(nG w).2.1,(nG w).2.2,nNow w,nDead w,nDrop w)

def setFlows (w:den tNw) (l:List (den tFl)):den tNw:=(nT w,nK w,nG w,nNow w,nDead w,nFly w,l,nBox w,nDrop w)

def toldF (r:Int) (p:den tPk) (f:den tFl):den tFl:=if f.1==r then (if p.1==2 then handA f p else handR f p) else f

def tellW (w:den tNw) (r:Int) (p:den tPk):den tNw:=setFlows w ((nFlows w).map (toldF r p))

def bytesP (p:den tPk):Prop:= ∀ x∈p.2.2.2.2.2.2.2.2.2,0≤x∧x≤255


theorem loopSet {α S R:Type} (enc:Nat→List α→S) (l:List α) (g:α→α) (out:List α→R) {step:S→Option (S⊕R)} (hl:l.length≤4611686018427387904)
  (h: ∀ (k:Nat) (x:α) (a:List α),a.length=l.length→a[k]? =some x→x∈l→k<l.length→decide ((k:Int)<(l.length:Int))=true→IntKind.i64.wrap ((k:Int)+1)=((k+1:Nat):Int)→step (enc k a)=some (.inl (enc (k+1) (a.set k (g x)))))
  (he: ∀ a,a.length=l.length→step (enc l.length a)=some (.inr (out a))):loopM step (enc 0 l)=some (out (l.map g)):=by
 have key: ∀ (rest pre:List α),pre++rest=l→loopM step (enc pre.length (pre.map g++rest))=some (out (l.map g)):=by
  intro rest
  induction rest with
  | nil=>
   intro pre hp
   rw [List.append_nil] at hp
   subst hp
   rw [List.append_nil]
   exact loopM_done (he _ (by simp))
  | cons x rest ih=>
   intro pre hp
   have hlt:pre.length<l.length:=by rw [← hp];simp
   have hx:(pre.map g++x::rest)[pre.length]? =some x:=by simp
   have hlen:(pre.map g++x::rest).length=l.length:=by rw [← hp];simp
   rw [loopM_next (h pre.length x _ hlen hx (by rw [← hp];simp) hlt (by simpa using hlt) (by rw [wri (by omega) (by omega)];omega))]
   have hs:(pre.map g++x::rest).set pre.length (g x)=(pre++[x]).map g++rest:=by
    rw [List.set_append_right _ _ (by simp)]
    simp
   rw [hs]
   have :=ih (pre++[x]) (by simpa using hp)
   simpa using this
 exact key l [] rfl

theorem set_same {α:Type} {a:List α} {k:Nat} {x:α} (h:a[k]? =some x):a.set k x=a:=by
 obtain ⟨hlt,hx⟩:=List.getElem?_eq_some_iff.1 h
 rw [← hx]
 exact List.set_getElem_self hlt

theorem flow_sm {f:den tFl} (h:tot tFl f≤1073741824):SmB 68719476736 tFl f:=(sm_of_tot h).mono (by decide)

theorem dec_len {α:Type} {a:List α} {k n:Nat} (h:a.length=n) (hk:k<n):decide ((k:Int)<(a.length:Int))=true∧decide (k<a.length)=true:=by
 constructor<;>simp<;>omega

theorem i_tellW {w:den tNw} {r:Int} {p:den tPk} (hF: ∀ f∈nFlows w,tot tFl f≤1073741824) (hl:(nFlows w).length≤1073741824) (hp:tot tPk p≤1073741824) (hb:bytesP p):i_Network_tell w r p=some (netR (tellW w r p)):=by
 unfold i_Network_tell
 refine loopSet (fun k (a:List (den tFl))=>((k:Int),a)) (nFlows w) (toldF r p) (fun l=>netR (setFlows w l)) (Nat.le_trans hl (by decide)) (fun k f a ha hx hm hk hd hw=> ?_) (fun a ha=> ?_)
 ·obtain ⟨d1,d2⟩:=dec_len ha hk
  have hd:decide ((k:Int)<(w.2.2.2.2.2.2.1.length:Int))=true:=hd
  simp only [hd,d1,d2,pos_nat,Int.toNat_natCast,hx,cond_true,obind_some,peta,ne_beq,i_handA (flow_sm (hF f hm)),i_handR (hF f hm) hp hb,flow_back,hw]
  unfold toldF
  cases f.1==r
  ·simp only [Bool.not_false,cond_true,Bool.false_eq_true,if_false,obind_some,set_same hx]
  ·simp only [Bool.not_true,cond_false,if_true]
   cases p.1==2<;>rfl
 ·simp;rfl

theorem s_tellW {w:den tNw} {r:Int} {p:den tPk} (hk3:(p.1==2)=false) (hF: ∀ f∈nFlows w,tot tFl f≤1073741824) (hl:(nFlows w).length≤1073741824) (hp:tot tPk p≤1073741824) (hb:bytesP p):s_l37Tell w r p=some (netR (tellW w r p)):=by
 unfold s_l37Tell
 refine loopSet (fun k (a:List (den tFl))=>((k:Int),a)) (nFlows w) (toldF r p) (fun l=>netR (setFlows w l)) (Nat.le_trans hl (by decide)) (fun k f a ha hx hm hk hd hw=> ?_) (fun a ha=> ?_)
 ·obtain ⟨d1,d2⟩:=dec_len ha hk
  simp only [d1,d2,pos_nat,Int.toNat_natCast,hx,cond_true,obind_some,peta,s_handR (hF f hm) hp hb,both_self,dup_self,dup3_self,dup4_self,dup5_self,hw]
  unfold toldF
  rw [hk3]
  cases f.1==r
  ·simp only [cond_false,Bool.false_eq_true,if_false,obind_some,set_same hx]
  ·simp only [cond_true,if_true,obind_some,Bool.false_eq_true,if_false]
   rfl
 ·show cond (decide ((((nFlows w).length:Nat):Int)<(a.length:Int))) _ _=_
  rw [ha,decide_eq_false (by omega)]
  rfl

theorem s_ackW {w:den tNw} {r:Int} {p:den tPk} (hk2:(p.1==2)=true) (hF: ∀ f∈nFlows w,tot tFl f≤1073741824) (hl:(nFlows w).length≤1073741824) {step:Int×List (den tFl)→Option ((Int×List (den tFl))⊕_)}
  (hs: ∀ (k:Nat) (f:den tFl) (a:List (den tFl)),a.length=(nFlows w).length→a[k]? =some f→f∈nFlows w→k<(nFlows w).length→step ((k:Int),a)=some (.inl (((k+1:Nat):Int),a.set k (toldF r p f)))) (he: ∀ a,a.length=(nFlows w).length→step (((nFlows w).length:Int),a)=some (.inr (netR (setFlows w a)))):loopM step ((0:Int),nFlows w)=some (netR (tellW w r p)):=
 loopSet (fun k (a:List (den tFl))=>((k:Int),a)) (nFlows w) (toldF r p) (fun l=>netR (setFlows w l)) (Nat.le_trans hl (by decide)) (fun k f a ha hx hm hk hd hw=>hs k f a ha hx hm hk) (fun a ha=>he a ha)

theorem goTo_self (p:den tPk):goTo p p.2.2.2.2.1 p.2.2.2.2.2.1 p.2.2.2.2.2.2.1=p:=rfl

theorem sealed_goTo (t:den tTo) (p:den tPk): ∃ b,sealed t p=goTo p p.2.2.2.2.1 p.2.2.2.2.2.1 b:=by
 unfold sealed
 split
 ·exact ⟨_,rfl⟩
 ·exact ⟨_,(goTo_self p).symm⟩

theorem adv_goTo (p:den tPk): ∃ i j b,adv p=goTo p i j b:=by
 unfold adv
 split
 ·exact ⟨_,_,_,(goTo_self p).symm⟩
 ·split<;>exact ⟨_,_,_,rfl⟩

theorem goC_goTo {t:den tTo} {now:Int}: ∀ (n:Nat) (p:den tPk),∃ i j b,(goC t now n p).2=goTo p i j b
 | 0,p=>by obtain ⟨b,hb⟩:=sealed_goTo t p;exact ⟨_,_,_,hb⟩
 | n+1,p=>by
  obtain ⟨b,hb⟩:=sealed_goTo t p
  unfold goC
  split
  ·obtain ⟨i,j,c,h1⟩:=goC_goTo (t:=t) (now:=now) n (adv (sealed t p))
   obtain ⟨i',j',c',h2⟩:=adv_goTo (sealed t p)
   rw [h1,h2,hb]
   exact ⟨_,_,_,rfl⟩
  ·exact ⟨_,_,_,hb⟩

theorem fwd_goTo (t:den tTo) (r now dead inn:Int) (p:den tPk): ∃ i j b,(fwd t r now dead inn p).2.2.1=goTo p i j b:=by
 obtain ⟨i,j,b,h⟩: ∃ i j b,(gone t now p).2=goTo p i j b:=goC_goTo _ p
 unfold fwd
 repeat' split
 all_goals first
  | exact ⟨_,_,_,(goTo_self p).symm⟩
  | exact ⟨_,_,_,h⟩
  | (obtain ⟨i',j',b',h'⟩:=adv_goTo (gone t now p).2;exact ⟨_,_,_,by rw [show (0,pEg (curPt (gone t now p).2) (curHp (gone t now p).2),adv (gone t now p).2,pEg (curPt (gone t now p).2) (curHp (gone t now p).2)).2.2.1=adv (gone t now p).2 from rfl,h',h];rfl⟩)


theorem fwd_keeps (t:den tTo) (r now dead inn:Int) (p:den tPk):(fwd t r now dead inn p).2.2.1.1=p.1∧(fwd t r now dead inn p).2.2.1.2.1=p.2.1∧(fwd t r now dead inn p).2.2.1.2.2.2.2.2.2.2.1=p.2.2.2.2.2.2.2.1∧(fwd t r now dead inn p).2.2.1.2.2.2.2.2.2.2.2.2=p.2.2.2.2.2.2.2.2.2:=by
 obtain ⟨i,j,b,h⟩:=fwd_goTo t r now dead inn p
 rw [h]
 exact ⟨rfl,rfl,rfl,rfl⟩

theorem fwd_valid {t:den tTo} {r now dead inn:Int} {p:den tPk} (h:((fwd t r now dead inn p).1==2)=false):validK p=true:=by
 cases hv:validK p with
 | true=>rfl
 | false=>
  unfold fwd at h
  rw [hv] at h
  cases h

def dropW (w:den tNw):den tNw:=(nT w,nK w,nG w,nNow w,nDead w,nFly w,nFlows w,nBox w,wr (nDrop w+1))

def sendW (w:den tNw) (r eg:Int) (p:den tPk):den tNw:=
 if (transU (nG w) p.2.2.2.2.2.2.2.1 r eg (nNow w)).2.1&&decide ((nFly w).length<150) then
  (nT w,nK w,((transU (nG w) p.2.2.2.2.2.2.2.1 r eg (nNow w)).1,(transU (nG w) p.2.2.2.2.2.2.2.1 r eg (nNow w)).2.2.1,(transU (nG w) p.2.2.2.2.2.2.2.1 r eg (nNow w)).2.2.2),nNow w,nDead w,nFly w++[((remote (nT w) r eg).1,(remote (nT w) r eg).2,p)],nFlows w,nBox w,nDrop w)
 else dropW w


structure NetOk (w:den tNw):Prop where
 as:(nT w).1.length≤68719476736
 links:(nT w).2.length≤1073741824
 dead:(nDead w).length≤68719476736
 res:(nG w).2.1.length≤1073741824
 use:(nG w).2.2.length≤1073741824
 flowsN:(nFlows w).length≤1073741824
 flows: ∀ f∈nFlows w,tot tFl f≤1073741824

theorem i_sendW {w:den tNw} {r:Int} {v:den tVerdict} (h:NetOk w):i_Network_send w r v=some (netR (sendW w r v.2.1 v.2.2)):=by
 unfold i_Network_send sendW
 simp only [peta,i_trans h.res h.use,obind_some,both_self,dup_self,dup3_self,dup4_self,dup5_self]
 have key: ∀ n:Nat,decide ((n:Int)≥150)= !decide (n<150):=fun n=>by rw [Bool.eq_iff_iff];simp only [decide_eq_true_eq,Bool.not_eq_true',decide_eq_false_iff_not];omega
 have h150:decide ((w.2.2.2.2.2.1.length:Int)≥150)= !decide ((nFly w).length<150):=key _
 rw [h150]
 cases ct:(transU (nG w) v.2.2.2.2.2.2.2.2.2.1 r v.2.1 (nNow w)).2.1
 ·simp only [Bool.not_false,cond_true,obind_some,Bool.false_and,Bool.false_eq_true,if_false]
  rfl
 ·by_cases hl:(nFly w).length<150
  ·rw [decide_eq_true hl]
   simp only [Bool.not_true,cond_false,obind_some,Bool.and_self,if_true,i_remote (t:=w.1) (Nat.le_trans h.links (by decide)),apOk_le (b:=128) (n:=w.2.2.2.2.2.1.length) (m:=1) (by decide) (show (nFly w).length+1≤_ by omega),cond_true]
   rfl
  ·rw [decide_eq_false hl]
   simp only [Bool.not_true,Bool.not_false,cond_true,cond_false,obind_some,Bool.and_false,Bool.false_eq_true,if_false]
   rfl

def proc0 (w:den tNw) (r inn:Int) (p:den tPk):den tNw:=
 if (stepV (nT w) (nNow w) (nDead w) r inn p).1==0 then sendW w r (stepV (nT w) (nNow w) (nDead w) r inn p).2.1 (stepV (nT w) (nNow w) (nDead w) r inn p).2.2.1
 else if (stepV (nT w) (nNow w) (nDead w) r inn p).1==1 then tellW w r (stepV (nT w) (nNow w) (nDead w) r inn p).2.2.1
 else dropW w


structure PkOk (p:den tPk):Prop where
 sz:tot tPk p≤1073741824
 by_:bytesP p

theorem PkOk.step {p:den tPk} (h:PkOk p) (t:den tTo) (now:Int) (dead:List Int) (r inn:Int):PkOk (stepV t now dead r inn p).2.2.1 where
 sz:=by unfold stepV;rw [fwd_tot];exact h.sz
 by_:=fun x hx=>h.by_ x (by unfold stepV at hx;rwa [(fwd_keeps t r now _ inn p).2.2.2] at hx)

theorem i_proc0 {w:den tNw} {r inn:Int} {p:den tPk} (h:NetOk w) (hp:PkOk p) (hk:(p.1==1)=false):i_Network_process'1 w r inn p=some (netR (proc0 w r inn p)):=by
 have hp2:tot tPt p.2.2.2.1≤1073741824:=pk_tot hp.sz
 have hs:=hp.step (nT w) (nNow w) (nDead w) r inn
 unfold i_Network_process'1 i_Network_process.b
 simp only [peta,i_deadE h.links h.dead,i_fwd h.as (Nat.le_trans h.links (by decide)) (Nat.le_trans hp.sz (by decide)) hp2,obind_some,both_self,dup_self,dup3_self,dup4_self,dup5_self,hk]
 rw [show fwd w.1 r w.2.2.2.1 (deadE w.1 w.2.2.2.2.1 r) inn p=stepV (nT w) (nNow w) (nDead w) r inn p from rfl]
 unfold proc0
 generalize stepV (nT w) (nNow w) (nDead w) r inn p=v at hs
 simp only [fwI,peta]
 cases c0:v.1==0
 ·cases c1:v.1==1
  ·cases v.1==7
   ·simp only [cond_false,obind_some,Bool.false_eq_true,if_false];rfl
   ·simp only [cond_true,cond_false,obind_some,Bool.false_eq_true,if_false];rfl
  ·simp only [cond_true,cond_false,obind_some,Bool.false_eq_true,if_false,if_true,i_tellW h.flows h.flowsN hs.sz hs.by_]
 ·simp only [cond_true,if_true,i_sendW h,obind_some]

theorem vi_bytes: ∀ (k n:Nat),n<128 ^ (k+1)→ ∀ x∈vi k n,0≤x∧x≤255
 | 0,n,h,x,hx=>by
  have :x=(n:Int):=by simpa [vi] using hx
  subst this
  have :128 ^ (0+1)=128:=rfl
  omega
 | k+1,n,h,x,hx=>by
  unfold vi at hx
  split at hx
  ·have :x=(n:Int):=by simpa using hx
   subst this
   omega
  ·rcases List.mem_cons.1 hx with rfl | hx
   ·omega
   ·refine vi_bytes k (n / 128) ?_ x hx
    rw [Nat.div_lt_iff_lt_mul (by decide)]
    rwa [← Nat.pow_succ]

def bytesL (l:List Int):Prop:= ∀ x∈l,0≤x∧x≤255

theorem encI_bytes {b:List Int} {n:Int} (h:bytesL b):bytesL (encI b n):=by
 unfold encI
 split
 ·rename_i hr
  have :=inR_iff.1 hr
  intro x hx
  rcases List.mem_append.1 hx with hx | hx
  ·exact h x hx
  ·exact vi_bytes 5 n.toNat (by have :128 ^ (5+1)=4398046511104:=rfl;omega) x hx
 ·exact h

theorem encL_bytes: ∀ (l b:List Int),bytesL b→bytesL (encL b l)
 | [],b,h=>h
 | x::xs,b,h=>encL_bytes xs (encI b x) (encI_bytes h)

theorem encV_bytes (x:den tRv):bytesL (encV x):=by
 unfold encV
 split
 ·exact encL_bytes _ _ (fun x hx=>by cases hx)
 ·exact fun x hx=>by cases hx

theorem note_ok {r now d:Int} {p:den tPk} (h:tot tPk p≤536870912):PkOk (noteP r now d p) where
 sz:=by have :=noteP_tot r now d p;omega
 by_:=encV_bytes _

theorem ack_ok {x:den tIb} {p:den tPk} (h:PkOk p):PkOk (mkAck x p) where
 sz:=Nat.le_trans (mkAck_tot x p) h.sz
 by_:=by
  unfold mkAck
  split
  ·exact fun x hx=>by cases hx
  ·exact fun x hx=>by cases hx

theorem i_findX {l:List (den tIb)} {a b:Int} (h:l.length≤68719476736):i_FindInbox l a b=some (findX l a b):=by
 unfold i_FindInbox findX
 rw [loop_scan (l:=l) (fun k x=>if atFrom a b x then some (k:Int) else none) (by omega) (fun k x hi hd hw hm hk=>by
  simp only [hd,hi,hw,cond_true,obind_some]
  unfold atFrom
  cases x.1==a<;>cases x.2.1==b<;>rfl) (by simp),scan_find (atFrom a b)]
 cases l.findIdx? (atFrom a b)<;>rfl

theorem findX_at (l:List (den tIb)) (a b:Int):findX l a b= -1∨ ∃ (k:Nat) (x:den tIb),findX l a b=(k:Int)∧l[k]? =some x:=by
 unfold findX
 cases h:l.findIdx? (atFrom a b) with
 | none=>exact .inl rfl
 | some i=>
  have hlt:i<l.length:=by
   have :=List.findIdx?_eq_some_iff_findIdx_eq.1 h
   exact this.1
  exact .inr ⟨i,l[i],by simp,List.getElem?_eq_getElem hlt⟩

def setBox (w:den tNw) (i:Nat) (x:den tIb):den tNw:=(nT w,nK w,nG w,nNow w,nDead w,nFly w,nFlows w,(nBox w).set i x,nDrop w)

def boxAt (w:den tNw) (i:Nat):den tIb:=((nBox w)[i]?).getD (0,0,0,[])


def dataW (w:den tNw) (r:Int) (p:den tPk):den tNw:=
 if findX (nBox w) r p.2.1<0 then w
 else if ackB (handD (boxAt w (findX (nBox w) r p.2.1).toNat) p) p then
  proc0 (setBox w (findX (nBox w) r p.2.1).toNat (handD (boxAt w (findX (nBox w) r p.2.1).toNat) p)) r 0 (mkAck (handD (boxAt w (findX (nBox w) r p.2.1).toNat) p) p)
 else setBox w (findX (nBox w) r p.2.1).toNat (handD (boxAt w (findX (nBox w) r p.2.1).toNat) p)

def noteW (w:den tNw) (r d:Int) (p:den tPk):den tNw:=
 dropW (if (steps (truncP p)).length>1 then proc0 w r 0 (noteP r (nNow w) d p) else tellW w r (noteP r (nNow w) d p))

def procW (w:den tNw) (r inn:Int) (p:den tPk):den tNw:=
 if (stepV (nT w) (nNow w) (nDead w) r inn p).1==0 then sendW w r (stepV (nT w) (nNow w) (nDead w) r inn p).2.1 (stepV (nT w) (nNow w) (nDead w) r inn p).2.2.1
 else if (stepV (nT w) (nNow w) (nDead w) r inn p).1==1 then
  (if p.1==1 then dataW w r (stepV (nT w) (nNow w) (nDead w) r inn p).2.2.1 else tellW w r (stepV (nT w) (nNow w) (nDead w) r inn p).2.2.1)
 else if (stepV (nT w) (nNow w) (nDead w) r inn p).1==7&&p.1==1 then noteW w r (stepV (nT w) (nNow w) (nDead w) r inn p).2.2.2 p
 else dropW w

theorem netOk_box {w:den tNw} (h:NetOk w) {i:Nat} {x:den tIb}:NetOk (setBox w i x):=⟨h.as,h.links,h.dead,h.res,h.use,h.flowsN,h.flows⟩

theorem mkAck_kind {x:den tIb} {p:den tPk} (h:ackB x p=true):((mkAck x p).1==1)=false:=by
 unfold mkAck
 rw [h]
 rfl

theorem i_procW {w:den tNw} {r inn:Int} {p:den tPk} (h:NetOk w) (hbn:(nBox w).length≤68719476736) (hbx: ∀ x∈nBox w,tot tIb x≤1073741824) (hz:tot tPk p≤536870912) (hb:bytesP p):i_Network_process w r inn p=some (netR (procW w r inn p)):=by
 have hp:PkOk p:=⟨by omega,hb⟩
 have hp2:tot tPt p.2.2.2.1≤1073741824:=pk_tot hp.sz
 have hs:=hp.step (nT w) (nNow w) (nDead w) r inn
 have hkeep:=fwd_keeps w.1 r w.2.2.2.1 (deadE w.1 w.2.2.2.2.1 r) inn p
 unfold i_Network_process i_Network_process.b
 simp only [peta,i_deadE h.links h.dead,i_fwd h.as (Nat.le_trans h.links (by decide)) (Nat.le_trans hp.sz (by decide)) hp2,obind_some,both_self,dup_self,dup3_self,dup4_self,dup5_self]
 rw [show fwd w.1 r w.2.2.2.1 (deadE w.1 w.2.2.2.2.1 r) inn p=stepV (nT w) (nNow w) (nDead w) r inn p from rfl] at hkeep ⊢
 unfold procW
 generalize stepV (nT w) (nNow w) (nDead w) r inn p=v at hs hkeep
 simp only [fwI,peta]
 cases c0:v.1==0
 ·cases c1:v.1==1
  ·cases c7:v.1==7
   ·simp only [cond_false,obind_some,Bool.false_eq_true,if_false,Bool.false_and];rfl
   ·cases ck:p.1==1
    ·simp only [cond_true,cond_false,obind_some,Bool.false_eq_true,if_false,Bool.and_false];rfl
    ·have hn:PkOk (noteP r (nNow w) v.2.2.2 p):=note_ok hz
     have ht1:tot tPt (truncP p)≤34359738368:=Nat.le_trans (truncP_tot p) (Nat.le_trans hp2 (by decide))
     have hlen:decide (((steps (truncP p)).length:Int)>1)=decide ((steps (truncP p)).length>1):=by rw [Bool.eq_iff_iff];simp only [decide_eq_true_eq,gt_iff_lt];omega
     have e1:i_Network_process'1 w r 0 ((pkR (noteP r w.2.2.2.1 v.2.2.2 p)).1,(pkR (noteP r w.2.2.2.1 v.2.2.2 p)).2.1,(pkR (noteP r w.2.2.2.1 v.2.2.2 p)).2.2.1,(pkR (noteP r w.2.2.2.1 v.2.2.2 p)).2.2.2.2.2.2.2.2.1,(pkR (noteP r w.2.2.2.1 v.2.2.2 p)).2.2.2.1,(pkR (noteP r w.2.2.2.1 v.2.2.2 p)).2.2.2.2.1,(pkR (noteP r w.2.2.2.1 v.2.2.2 p)).2.2.2.2.2.1,(pkR (noteP r w.2.2.2.1 v.2.2.2 p)).2.2.2.2.2.2.1,(pkR (noteP r w.2.2.2.1 v.2.2.2 p)).2.2.2.2.2.2.2.1,(pkR (noteP r w.2.2.2.1 v.2.2.2 p)).2.2.2.2.2.2.2.2.2)=some (netR (proc0 w r 0 (noteP r (nNow w) v.2.2.2 p))):=i_proc0 h hn rfl
     have e2:i_Network_tell w r ((pkR (noteP r w.2.2.2.1 v.2.2.2 p)).1,(pkR (noteP r w.2.2.2.1 v.2.2.2 p)).2.1,(pkR (noteP r w.2.2.2.1 v.2.2.2 p)).2.2.1,(pkR (noteP r w.2.2.2.1 v.2.2.2 p)).2.2.2.2.2.2.2.2.1,(pkR (noteP r w.2.2.2.1 v.2.2.2 p)).2.2.2.1,(pkR (noteP r w.2.2.2.1 v.2.2.2 p)).2.2.2.2.1,(pkR (noteP r w.2.2.2.1 v.2.2.2 p)).2.2.2.2.2.1,(pkR (noteP r w.2.2.2.1 v.2.2.2 p)).2.2.2.2.2.2.1,(pkR (noteP r w.2.2.2.1 v.2.2.2 p)).2.2.2.2.2.2.2.1,(pkR (noteP r w.2.2.2.1 v.2.2.2 p)).2.2.2.2.2.2.2.2.2)=some (netR (tellW w r (noteP r (nNow w) v.2.2.2 p))):=i_tellW h.flows h.flowsN hn.sz hn.by_
     simp only [cond_true,cond_false,obind_some,Bool.false_eq_true,if_false,Bool.and_self,if_true,i_noteP (t:=w.1) (r:=r) (now:=w.2.2.2.1) (d:=v.2.2.2) (Nat.le_trans hp.sz (by decide)),i_truncP (pk_sm (p:=p) (by omega)),both_self,dup_self,dup3_self,dup4_self,dup5_self]
     unfold i_PathLength
     simp only [i_steps ht1,obind_some,hlen,e1,e2]
     unfold noteW
     cases hd:decide ((steps (truncP p)).length>1)
     ·rw [if_neg (of_decide_eq_false hd)];rfl
     ·rw [if_pos (of_decide_eq_true hd)];rfl
  ·cases ck:p.1==1
   ·simp only [cond_true,cond_false,obind_some,Bool.false_eq_true,if_false,if_true,i_tellW h.flows h.flowsN hs.sz hs.by_]
   ·simp only [cond_true,cond_false,obind_some,Bool.false_eq_true,if_false,if_true,i_findX hbn]
    unfold dataW
    rw [hkeep.2.1]
    rcases findX_at (nBox w) r p.2.1 with hf | ⟨k,x,hf,hx⟩
    ·rw [show findX w.2.2.2.2.2.2.2.1 r p.2.1= -1 from hf]
     rfl
    ·have hlt:=(List.getElem?_eq_some_iff.1 hx).1
     have hx0:w.2.2.2.2.2.2.2.1[k]? =some x:=hx
     have hxm:=hbx x (List.mem_of_getElem? hx)
     have hxs:SmB 4294967296 tIb x:=(sm_of_tot hxm).mono (by decide)
     have hvs:SmB 4294967296 tPk v.2.2.1:=(sm_of_tot hs.sz).mono (by decide)
     have hd1:decide ((k:Int)<(w.2.2.2.2.2.2.2.1.length:Int))=true:=decide_eq_true (by have :k<w.2.2.2.2.2.2.2.1.length:=hlt;omega)
     have hd2:decide (k<w.2.2.2.2.2.2.2.1.length)=true:=decide_eq_true hlt
     have hset:(w.2.2.2.2.2.2.2.1.set k (handD x v.2.2.1))[k]? =some (handD x v.2.2.1):=List.getElem?_set_self hlt
     have hba:boxAt w k=x:=by unfold boxAt;rw [hx];rfl
     rw [show findX w.2.2.2.2.2.2.2.1 r p.2.1=(k:Int) from hf,decide_eq_false (show ¬ (k:Int)<0 by omega),if_neg (show ¬ (k:Int)<0 by omega),Int.toNat_natCast,hba]
     have e1:i_Network_process'1 (w.1,w.2.1,w.2.2.1,w.2.2.2.1,w.2.2.2.2.1,w.2.2.2.2.2.1,w.2.2.2.2.2.2.1,w.2.2.2.2.2.2.2.1.set k (handD x v.2.2.1),w.2.2.2.2.2.2.2.2) r 0 (mkAck (handD x v.2.2.1) v.2.2.1)=some (netR (proc0 (setBox w k (handD x v.2.2.1)) r 0 (mkAck (handD x v.2.2.1) v.2.2.1))):=by
      cases ca:ackB (handD x v.2.2.1) v.2.2.1 with
      | true=>exact i_proc0 (netOk_box h) (ack_ok hs) (mkAck_kind ca)
      | false=>exact i_proc0 (netOk_box h) (ack_ok hs) (by unfold mkAck;rw [ca];rfl)
     simp only [cond_false,pos_nat,hd1,hd2,cond_true,hx0,obind_some,i_handD hxs hvs,List.length_set,hset,i_mkAck (x:=handD x v.2.2.1) (p:=v.2.2.1) (Nat.le_trans (pk_tot hs.sz) (by decide)),both_self,dup_self,dup3_self,dup4_self,dup5_self,pkB,peta,e1]
     cases ackB (handD x v.2.2.1) v.2.2.1<;>rfl
 ·simp only [cond_true,if_true,i_sendW h,obind_some]

def SameP (p q:den tPk):Prop:=p.2.2.2.1=q.2.2.2.1∧p.2.2.2.2.1=q.2.2.2.2.1∧p.2.2.2.2.2.1=q.2.2.2.2.2.1

theorem SameP.cur {p q:den tPk} (h:SameP p q):hasHop p=hasHop q∧curAS p=curAS q∧curPt p=curPt q∧curHp p=curHp q∧lastPt p=lastPt q∧atLast p=atLast q:=by
 obtain ⟨h1,h2,h3⟩:=h
 have a1:hasHop p=hasHop q:=by unfold hasHop;rw [h1,h2,h3]
 have a2:curAS p=curAS q:=by unfold curAS;rw [a1,h1,h2,h3]
 have a3:curPt p=curPt q:=by unfold curPt;rw [h1,h2]
 have a4:curHp p=curHp q:=by unfold curHp;rw [a3,h3]
 have a5:lastPt p=lastPt q:=by unfold lastPt;rw [a3,h3]
 exact ⟨a1,a2,a3,a4,a5,by unfold atLast lastIn;rw [a2,a5,h1,h2]⟩

theorem SameP.adv {p q:den tPk} (h:SameP p q):SameP (adv p) (adv q):=by
 obtain ⟨a1,a2,a3,a4,a5,a6⟩:=h.cur
 obtain ⟨h1,h2,h3⟩:=id h
 unfold Go.Proofs.YtejfajiolkojlaaGreat.adv
 rw [a2,a5,a6]
 split
 ·exact h
 ·split
  ·exact ⟨h1,by show p.2.2.2.2.1+1=q.2.2.2.2.1+1;rw [h2],rfl⟩
  ·exact ⟨h1,h2,by show p.2.2.2.2.2.1+1=q.2.2.2.2.2.1+1;rw [h3]⟩

theorem sealed_same (t:den tTo) (p:den tPk):SameP (sealed t p) p:=by
 obtain ⟨b,hb⟩:=sealed_goTo t p
 rw [hb]
 exact ⟨rfl,rfl,rfl⟩

theorem SameP.trans {p q r:den tPk} (h:SameP p q) (k:SameP q r):SameP p r:=⟨h.1.trans k.1,h.2.1.trans k.2.1,h.2.2.trans k.2.2⟩

theorem goC_first {t:den tTo} {now:Int} {n:Nat} {p:den tPk} (h:(goC t now n p).1=0):chkC t now p=0:=by
 cases n with
 | zero=>exact h
 | succ n=>
  unfold goC at h
  split at h
  ·rename_i hc
   rw [Bool.and_eq_true] at hc
   simpa using hc.1
  ·exact h

theorem door_loop {t:den tTo} {now:Int} {step:den tPk→Option (den tPk⊕den tPk)}
  (H: ∀ q,tot tPk q≤34359738368→hasHop q=true→step q=some (if lastPt q&&decide (q.2.2.2.2.1<(q.2.2.2.1.length:Int) - 1) then .inl (adv q) else .inr q)):
  ∀ (n:Nat) (p q:den tPk),SameP p q→tot tPk q≤34359738368→(goC t now n p).1=0→p.2.2.2.1.length - p.2.2.2.2.1.toNat≤n→ ∃ r,loopM step q=some r∧SameP (goC t now n p).2 r∧tot tPk r≤34359738368:=by
 intro n
 induction n with
 | zero=>
  intro p q hs hq hc hm
  obtain ⟨hh,h0⟩:=chk_zero (goC_first hc)
  obtain ⟨i,j,h1,h2,h3,h4,h5⟩:=hop_at hh
  have hlt:=(List.getElem?_eq_some_iff.1 h3).1
  rw [h1,Int.toNat_natCast] at hm
  exact absurd hlt (by omega)
 | succ n ih=>
  intro p q hs hq hc hm
  have hz:=goC_first hc
  obtain ⟨hh,h0⟩:=chk_zero hz
  obtain ⟨a1,a2,a3,a4,a5,a6⟩:=hs.cur
  obtain ⟨b1,b2,b3,b4,b5,b6⟩:=(sealed_same t p).cur
  have hstep:=H q hq (a1▸hh)
  rw [more_key (a1▸hh) (a2▸h0)] at hstep
  cases hb:lastPt q&& !atLast q with
  | false=>
   rw [hb] at hstep
   have hg:goC t now (n+1) p=(chkC t now p,sealed t p):=by
    show (if _ then _ else _)=_
    rw [b5,b6,a5,a6,hb,Bool.and_false];rfl
   rw [hg]
   exact ⟨q,loopM_done hstep,(sealed_same t p).trans hs,hq⟩
  | true=>
   rw [hb,if_pos rfl] at hstep
   have hg:goC t now (n+1) p=goC t now n (adv (sealed t p)):=by
    show (if _ then _ else _)=_
    rw [b5,b6,a5,a6,hb,hz];rfl
   rw [hg] at hc ⊢
   rw [loopM_next hstep]
   obtain ⟨e1,e2⟩:=adv_part (p:=sealed t p) (by rw [b2];exact h0) (by rw [b5,b6,a5,a6];exact hb)
   obtain ⟨i,j,h1,h2,h3,h4,h5⟩:=hop_at hh
   refine ih _ _ ((sealed_same t p).trans hs).adv (by rw [adv_tot];exact hq) hc ?_
   rw [e1,e2,(sealed_same t p).1,(sealed_same t p).2.1,h1]
   rw [h1,Int.toNat_natCast] at hm
   have :((i:Int)+1).toNat=i+1:=by omega
   rw [this]
   omega

def doorP (t:den tTo) (now:Int) (p:den tPk):Int:=pEg (curPt (gone t now p).2) (curHp (gone t now p).2)

theorem s_door {t:den tTo} {now:Int} {p:den tPk} (h:tot tPk p≤34359738368) (hz:(gone t now p).1=0):s_l37Door p=some (doorP t now p):=by
 unfold s_l37Door
 obtain ⟨r,hr,hs,ht⟩:=door_loop (t:=t) (now:=now) (step:=fun s5=> @Option.bind Bool _ (Option.bind (idx s5.2.2.2.1 s5.2.2.2.2.1) fun x6=>cond (s5.2.2.2.2.2.1==(wr ((x6.2.2.2.length:Int) - (1:Int)))) (some (decide (s5.2.2.2.2.1<(wr ((s5.2.2.2.1.length:Int) - (1:Int)))))) (some false)) fun (s7:Bool)=>cond s7 (Option.bind (s_AdvanceHop (s5.1,s5.2.1,s5.2.2.1,s5.2.2.2.1,s5.2.2.2.2.1,s5.2.2.2.2.2.1,s5.2.2.2.2.2.2.1,s5.2.2.2.2.2.2.2.1,s5.2.2.2.2.2.2.2.2.1,s5.2.2.2.2.2.2.2.2.2)) fun y8=>some (Sum.inl (y8.1,y8.2.1,y8.2.2.1,y8.2.2.2.2.2.2.2.2.1,y8.2.2.2.1,y8.2.2.2.2.1,y8.2.2.2.2.2.1,y8.2.2.2.2.2.2.1,y8.2.2.2.2.2.2.2.1,y8.2.2.2.2.2.2.2.2.2))) (some (Sum.inr (s5.1,s5.2.1,s5.2.2.1,s5.2.2.2.1,s5.2.2.2.2.1,s5.2.2.2.2.2.1,s5.2.2.2.2.2.2.1,s5.2.2.2.2.2.2.2.1,s5.2.2.2.2.2.2.2.2.1,s5.2.2.2.2.2.2.2.2.2)))) (fun q hq hh=>by
   obtain ⟨i,j,k1,k2,k3,k4,k5⟩:=hop_at hh
   have l1:List.length q.2.2.2.1≤68719476736:=(pk_sm hq).2.2.2.1.1
   have hp1:idx q.2.2.2.1 q.2.2.2.2.1=some (curPt q):=by rw [k1,idx_nat];exact k3
   simp only [hp1,obind_some,wr_less (pt_len (pk_sm hq) k3),wr_less l1,peta,s_adv (pk_sm hq)]
   unfold lastPt
   cases q.2.2.2.2.2.1==((curPt q).2.2.2.length:Int) - 1<;>cases decide (q.2.2.2.2.1<(q.2.2.2.1.length:Int) - 1)<;>rfl) _ p p ⟨rfl,rfl,rfl⟩ h hz (Nat.le_refl _)
 have hs:SameP (gone t now p).2 r:=hs
 have hr':loopM _ (p.1,p.2.1,p.2.2.1,p.2.2.2.1,p.2.2.2.2.1,p.2.2.2.2.2.1,p.2.2.2.2.2.2.1,p.2.2.2.2.2.2.2.1,p.2.2.2.2.2.2.2.2.1,p.2.2.2.2.2.2.2.2.2)=some r:=hr
 rw [hr',obind_some]
 obtain ⟨a1,a2,a3,a4,a5,a6⟩:=hs.cur
 obtain ⟨g1,g2,g3⟩:=goC_hop _ p hz
 have g1:hasHop r=true:=a1▸g1
 obtain ⟨i,j,k1,k2,k3,k4,k5⟩:=hop_at g1
 have hp1:idx r.2.2.2.1 r.2.2.2.2.1=some (curPt r):=by rw [k1,idx_nat];exact k3
 have hp2:s_PartEgress (curPt r) r.2.2.2.2.2.1=some (pEg (curPt r) (curHp r)):=by rw [k2];exact s_pEg k4 (pt_len (pk_sm ht) k3)
 rw [hp1,obind_some]
 simp only [peta,hp2,obind_some]
 unfold doorP
 rw [a3,a4]

theorem goC_le {t:den tTo} {now:Int}: ∀ (n:Nat) (p:den tPk),(goC t now n p).1≤5
 | 0,p=>by
  show chkC t now p≤5
  unfold chkC
  repeat' split
  all_goals decide
 | n+1,p=>by
  unfold goC
  split
  ·exact goC_le n _
  ·show chkC t now p≤5
   unfold chkC
   repeat' split
   all_goals decide

theorem fwd_seven {t:den tTo} {r now dead inn:Int} {p:den tPk} (h:(fwd t r now dead inn p).1=7):(gone t now p).1=0∧(fwd t r now dead inn p).2.2.2=doorP t now p:=by
 have hg:(gone t now p).1≤5:=goC_le _ p
 unfold fwd at h ⊢
 split at h
 ·cases h
 ·rename_i c1
  rw [if_neg c1]
  split at h
  ·cases h
  ·rename_i c2
   rw [if_neg c2]
   split at h
   ·simp only at h;omega
   ·rename_i c3
    rw [if_neg c3]
    refine ⟨by simpa using c3,?_⟩
    split at h
    ·split at h<;>cases h
    ·rename_i c4
     rw [if_neg c4]
     split at h
     ·cases h
     ·rename_i c5
      rw [if_neg c5]
      split at h
      ·rename_i c6
       rw [if_pos c6]
       rfl
      ·cases h

theorem kinds {p:den tPk} (h:validK p=true) (h1:(p.1==1)=false) (h2:(p.1==2)=false):(p.1==3)=true:=by
 unfold validK at h
 rw [Bool.and_eq_true] at h
 have hr:=inR_iff.1 h.1
 have h1: ¬ p.1=(1:Int):=by simpa using h1
 have h2: ¬ p.1=(2:Int):=by simpa using h2
 have key: ∀ c:Int,1≤c→c≤3→ ¬ c=1→ ¬ c=2→c=3:=by intro c;omega
 have :p.1=(3:Int):=key p.1 hr.1 hr.2 h1 h2
 rw [this];rfl

theorem s_home1 {w:den tNw} {r:Int} {p:den tPk} (h:NetOk w) (hp:PkOk p) (hk:(p.1==1)=false) (hv:(p.1==2)=false→(p.1==3)=true):s_l37Home'1 w r p=some (netR (tellW w r p)):=by
 unfold s_l37Home'1 s_l37Home.b
 rw [hk,cond_false]
 cases h2:p.1==2 with
 | true=>
  rw [cond_true]
  refine s_ackW (w:=w) (r:=r) (p:=p) h2 h.flows h.flowsN (fun k f a ha hx hm hk'=> ?_) (fun a ha=> ?_)
  ·obtain ⟨d1,d2⟩:=dec_len ha hk'
   have hw:wr ((k:Int)+1)=((k+1:Nat):Int):=(wri (by have :=h.flowsN;omega) (by have :=h.flowsN;omega)).trans (by omega)
   simp only [d1,d2,pos_nat,Int.toNat_natCast,hx,cond_true,obind_some,peta,s_handA (flow_sm (h.flows f hm)),both_self,dup_self,dup3_self,dup4_self,dup5_self,hw]
   unfold toldF
   rw [h2]
   cases f.1==r
   ·simp only [cond_false,Bool.false_eq_true,if_false,obind_some,set_same hx]
   ·simp only [cond_true,if_true,obind_some]
    rfl
  ·show cond (decide ((((nFlows w).length:Nat):Int)<(a.length:Int))) _ _=_
   rw [ha,decide_eq_false (by omega)]
   rfl
 | false=>
  rw [cond_false,hv h2,cond_true]
  simp only [peta,s_tellW h2 h.flows h.flowsN hp.sz hp.by_,obind_some]

theorem s_home {w:den tNw} {r:Int} {p:den tPk} (h:NetOk w) (hp:PkOk p) (hk:(p.1==1)=false) (hv:(p.1==2)=false→(p.1==3)=true):s_l37Home w r p=some (netR (tellW w r p)):=by
 unfold s_l37Home s_l37Home.b
 rw [hk,cond_false]
 cases h2:p.1==2 with
 | true=>
  rw [cond_true]
  refine s_ackW (w:=w) (r:=r) (p:=p) h2 h.flows h.flowsN (fun k f a ha hx hm hk'=> ?_) (fun a ha=> ?_)
  ·obtain ⟨d1,d2⟩:=dec_len ha hk'
   have hw:wr ((k:Int)+1)=((k+1:Nat):Int):=(wri (by have :=h.flowsN;omega) (by have :=h.flowsN;omega)).trans (by omega)
   simp only [d1,d2,pos_nat,Int.toNat_natCast,hx,cond_true,obind_some,peta,s_handA (flow_sm (h.flows f hm)),both_self,dup_self,dup3_self,dup4_self,dup5_self,hw]
   unfold toldF
   rw [h2]
   cases f.1==r
   ·simp only [cond_false,Bool.false_eq_true,if_false,obind_some,set_same hx]
   ·simp only [cond_true,if_true,obind_some]
    rfl
  ·show cond (decide ((((nFlows w).length:Nat):Int)<(a.length:Int))) _ _=_
   rw [ha,decide_eq_false (by omega)]
   rfl
 | false=>
  rw [cond_false,hv h2,cond_true]
  simp only [peta,s_tellW h2 h.flows h.flowsN hp.sz hp.by_,obind_some]

theorem s_proc0 {w:den tNw} {r inn:Int} {p:den tPk} (h:NetOk w) (hp:PkOk p) (hk:(p.1==1)=false):s_l37Arrive'1 w r inn p=some (netR (proc0 w r inn p)):=by
 have hp2:tot tPt p.2.2.2.1≤1073741824:=pk_tot hp.sz
 have hs:=hp.step (nT w) (nNow w) (nDead w) r inn
 have hkeep:=fwd_keeps w.1 r w.2.2.2.1 (deadE w.1 w.2.2.2.2.1 r) inn p
 have hval:=fwd_valid (t:=w.1) (r:=r) (now:=w.2.2.2.1) (dead:=deadE w.1 w.2.2.2.2.1 r) (inn:=inn) (p:=p)
 unfold s_l37Arrive'1 s_l37Arrive.b
 simp only [peta,s_deadE h.links h.dead,s_fwd h.as (Nat.le_trans h.links (by decide)) (Nat.le_trans hp.sz (by decide)) hp2,obind_some,both_self,dup_self,dup3_self,dup4_self,dup5_self,hk]
 rw [show fwd w.1 r w.2.2.2.1 (deadE w.1 w.2.2.2.2.1 r) inn p=stepV (nT w) (nNow w) (nDead w) r inn p from rfl] at hkeep hval ⊢
 unfold proc0
 generalize stepV (nT w) (nNow w) (nDead w) r inn p=v at hs hkeep hval
 have hback:(((fwS v).2.2.1,(fwS v).2.2.2.1,(fwS v).2.2.2.2.1,(fwS v).2.2.2.2.2.2.2.2.2.2.1,(fwS v).2.2.2.2.2.1,(fwS v).2.2.2.2.2.2.1,(fwS v).2.2.2.2.2.2.2.1,(fwS v).2.2.2.2.2.2.2.2.1,(fwS v).2.2.2.2.2.2.2.2.2.1,(fwS v).2.2.2.2.2.2.2.2.2.2.2):den tPk)=v.2.2.1:=rfl
 rw [show (fwS v).1=v.1 from rfl,show (fwS v).2.1=v.2.1 from rfl]
 cases c1:v.1==1
 ·cases c0:v.1==0
  ·cases c7:v.1==7
   ·simp only [cond_false,obind_some,Bool.false_eq_true,if_false,Sum.elim_inl];rfl
   ·simp only [cond_true,cond_false,obind_some,Bool.false_eq_true,if_false,Sum.elim_inl];rfl
  ·unfold sendW
   rw [hkeep.2.2.1]
   simp only [cond_true,cond_false,if_true,s_remote (t:=w.1) (Nat.le_trans h.links (by decide)),s_trans h.res h.use,obind_some]
   cases ct:(transU w.2.2.1 p.2.2.2.2.2.2.2.1 r v.2.1 w.2.2.2.1).2.1
   ·simp only [cond_false,obind_some,Bool.false_and,Bool.false_eq_true,if_false,Sum.elim_inl];rfl
   ·by_cases hl:(nFly w).length<150
    ·have h150:decide ((w.2.2.2.2.2.1.length:Int)<150)=true:=decide_eq_true (by have :w.2.2.2.2.2.1.length<150:=hl;omega)
     rw [decide_eq_true hl]
     simp only [cond_true,obind_some,h150,Bool.and_self,if_true,apOk_le (b:=128) (n:=w.2.2.2.2.2.1.length) (m:=1) (by decide) (show (nFly w).length+1≤_ by omega),Sum.elim_inr]
     rfl
    ·have h150:decide ((w.2.2.2.2.2.1.length:Int)<150)=false:=decide_eq_false (by have : ¬ w.2.2.2.2.2.1.length<150:=hl;omega)
     rw [decide_eq_false hl]
     simp only [cond_true,cond_false,obind_some,h150,Bool.and_false,Bool.false_eq_true,if_false,Sum.elim_inl]
     rfl
 ·have c0:(v.1==0)=false:=by
   have :v.1=1:=by simpa using c1
   rw [this];rfl
  have hv:validK p=true:=hval (by rw [show v.1=1 from by simpa using c1];rfl)
  have hq1:(v.2.2.1.1==1)=false:=by rw [hkeep.1];exact hk
  have hq2:(v.2.2.1.1==2)=false→(v.2.2.1.1==3)=true:=by rw [hkeep.1];exact kinds hv hk
  rw [hback,s_home1 h hs hq1 hq2]
  simp only [c0,cond_true,obind_some,Bool.false_eq_true,if_false,if_true,Sum.elim_inr]

theorem s_data {w:den tNw} {r:Int} {p:den tPk} (h:NetOk w) (hbn:(nBox w).length≤68719476736) (hbx: ∀ x∈nBox w,tot tIb x≤1073741824) (hp:PkOk p) (hk:(p.1==1)=true):s_l37Home w r p=some (netR (dataW w r p)):=by
 unfold s_l37Home s_l37Home.b dataW
 simp only [hk,cond_true,s_findX hbn,obind_some]
 rcases findX_at (nBox w) r p.2.1 with hf | ⟨k,x,hf,hx⟩
 ·rw [show findX w.2.2.2.2.2.2.2.1 r p.2.1= -1 from hf]
  rfl
 ·have hlt:=(List.getElem?_eq_some_iff.1 hx).1
  have hx0:w.2.2.2.2.2.2.2.1[k]? =some x:=hx
  have hxm:=hbx x (List.mem_of_getElem? hx)
  have hxs:SmB 4294967296 tIb x:=(sm_of_tot hxm).mono (by decide)
  have hvs:SmB 4294967296 tPk p:=(sm_of_tot hp.sz).mono (by decide)
  have hd1:decide ((k:Int)<(w.2.2.2.2.2.2.2.1.length:Int))=true:=decide_eq_true (by have :k<w.2.2.2.2.2.2.2.1.length:=hlt;omega)
  have hd2:decide (k<w.2.2.2.2.2.2.2.1.length)=true:=decide_eq_true hlt
  have hba:boxAt w k=x:=by unfold boxAt;rw [hx];rfl
  rw [show findX w.2.2.2.2.2.2.2.1 r p.2.1=(k:Int) from hf,decide_eq_false (show ¬ (k:Int)<0 by omega),if_neg (show ¬ (k:Int)<0 by omega),Int.toNat_natCast,hba]
  have e1:s_l37Arrive'1 (w.1,w.2.1,w.2.2.1,w.2.2.2.1,w.2.2.2.2.1,w.2.2.2.2.2.1,w.2.2.2.2.2.2.1,w.2.2.2.2.2.2.2.1.set k (handD x p),w.2.2.2.2.2.2.2.2) r 0 (mkAck (handD x p) p)=some (netR (proc0 (setBox w k (handD x p)) r 0 (mkAck (handD x p) p))):=by
   cases ca:ackB (handD x p) p with
   | true=>exact s_proc0 (netOk_box h) (ack_ok hp) (mkAck_kind ca)
   | false=>exact s_proc0 (netOk_box h) (ack_ok hp) (by unfold mkAck;rw [ca];rfl)
  simp only [cond_false,pos_nat,hd1,hd2,cond_true,hx0,obind_some,peta,s_handD hxs hvs,s_mkAck (x:=handD x p) (p:=p) (Nat.le_trans (pk_tot hp.sz) (by decide)),both_self,dup_self,dup3_self,dup4_self,dup5_self,pkB,e1]
  cases ackB (handD x p) p<;>rfl

theorem s_procW {w:den tNw} {r inn:Int} {p:den tPk} (h:NetOk w) (hbn:(nBox w).length≤68719476736) (hbx: ∀ x∈nBox w,tot tIb x≤1073741824) (hz:tot tPk p≤536870912) (hb:bytesP p):s_l37Arrive w r inn p=some (netR (procW w r inn p)):=by
 have hp:PkOk p:=⟨by omega,hb⟩
 have hp2:tot tPt p.2.2.2.1≤1073741824:=pk_tot hp.sz
 have hs:=hp.step (nT w) (nNow w) (nDead w) r inn
 have hkeep:=fwd_keeps w.1 r w.2.2.2.1 (deadE w.1 w.2.2.2.2.1 r) inn p
 have hval:=fwd_valid (t:=w.1) (r:=r) (now:=w.2.2.2.1) (dead:=deadE w.1 w.2.2.2.2.1 r) (inn:=inn) (p:=p)
 have hsev:=fwd_seven (t:=w.1) (r:=r) (now:=w.2.2.2.1) (dead:=deadE w.1 w.2.2.2.2.1 r) (inn:=inn) (p:=p)
 unfold s_l37Arrive s_l37Arrive.b
 simp only [peta,s_deadE h.links h.dead,s_fwd h.as (Nat.le_trans h.links (by decide)) (Nat.le_trans hp.sz (by decide)) hp2,obind_some,both_self,dup_self,dup3_self,dup4_self,dup5_self]
 rw [show fwd w.1 r w.2.2.2.1 (deadE w.1 w.2.2.2.2.1 r) inn p=stepV (nT w) (nNow w) (nDead w) r inn p from rfl] at hkeep hval hsev ⊢
 unfold procW
 generalize stepV (nT w) (nNow w) (nDead w) r inn p=v at hs hkeep hval hsev
 have hback:(((fwS v).2.2.1,(fwS v).2.2.2.1,(fwS v).2.2.2.2.1,(fwS v).2.2.2.2.2.2.2.2.2.2.1,(fwS v).2.2.2.2.2.1,(fwS v).2.2.2.2.2.2.1,(fwS v).2.2.2.2.2.2.2.1,(fwS v).2.2.2.2.2.2.2.2.1,(fwS v).2.2.2.2.2.2.2.2.2.1,(fwS v).2.2.2.2.2.2.2.2.2.2.2):den tPk)=v.2.2.1:=rfl
 rw [show (fwS v).1=v.1 from rfl,show (fwS v).2.1=v.2.1 from rfl]
 cases c1:v.1==1
 ·cases c0:v.1==0
  ·cases c7:v.1==7
   ·simp only [cond_false,obind_some,Bool.false_eq_true,if_false,Sum.elim_inl,Bool.false_and];rfl
   ·cases ck:p.1==1
    ·simp only [cond_true,cond_false,obind_some,Bool.false_eq_true,if_false,Sum.elim_inl,Bool.and_false];rfl
    ·obtain ⟨hz0,hd0⟩:=hsev (by simpa using c7)
     have hn:PkOk (noteP r (nNow w) v.2.2.2 p):=note_ok hz
     have ht1:tot tPt (truncP p)≤34359738368:=Nat.le_trans (truncP_tot p) (Nat.le_trans hp2 (by decide))
     have hlen:decide (((steps (truncP p)).length:Int)>1)=decide ((steps (truncP p)).length>1):=by rw [Bool.eq_iff_iff];simp only [decide_eq_true_eq,gt_iff_lt];omega
     have e1:s_l37Arrive'1 w r 0 ((pkR (noteP r w.2.2.2.1 v.2.2.2 p)).1,(pkR (noteP r w.2.2.2.1 v.2.2.2 p)).2.1,(pkR (noteP r w.2.2.2.1 v.2.2.2 p)).2.2.1,(pkR (noteP r w.2.2.2.1 v.2.2.2 p)).2.2.2.2.2.2.2.2.1,(pkR (noteP r w.2.2.2.1 v.2.2.2 p)).2.2.2.1,(pkR (noteP r w.2.2.2.1 v.2.2.2 p)).2.2.2.2.1,(pkR (noteP r w.2.2.2.1 v.2.2.2 p)).2.2.2.2.2.1,(pkR (noteP r w.2.2.2.1 v.2.2.2 p)).2.2.2.2.2.2.1,(pkR (noteP r w.2.2.2.1 v.2.2.2 p)).2.2.2.2.2.2.2.1,(pkR (noteP r w.2.2.2.1 v.2.2.2 p)).2.2.2.2.2.2.2.2.2)=some (netR (proc0 w r 0 (noteP r (nNow w) v.2.2.2 p))):=s_proc0 h hn rfl
     have e2:s_l37Tell w r ((pkR (noteP r w.2.2.2.1 v.2.2.2 p)).1,(pkR (noteP r w.2.2.2.1 v.2.2.2 p)).2.1,(pkR (noteP r w.2.2.2.1 v.2.2.2 p)).2.2.1,(pkR (noteP r w.2.2.2.1 v.2.2.2 p)).2.2.2.2.2.2.2.2.1,(pkR (noteP r w.2.2.2.1 v.2.2.2 p)).2.2.2.1,(pkR (noteP r w.2.2.2.1 v.2.2.2 p)).2.2.2.2.1,(pkR (noteP r w.2.2.2.1 v.2.2.2 p)).2.2.2.2.2.1,(pkR (noteP r w.2.2.2.1 v.2.2.2 p)).2.2.2.2.2.2.1,(pkR (noteP r w.2.2.2.1 v.2.2.2 p)).2.2.2.2.2.2.2.1,(pkR (noteP r w.2.2.2.1 v.2.2.2 p)).2.2.2.2.2.2.2.2.2)=some (netR (tellW w r (noteP r (nNow w) v.2.2.2 p))):=s_tellW rfl h.flows h.flowsN hn.sz hn.by_
     simp only [cond_true,cond_false,obind_some,Bool.false_eq_true,if_false,Bool.and_self,if_true,s_door (t:=w.1) (now:=w.2.2.2.1) (p:=p) (Nat.le_trans hp.sz (by decide)) hz0,← hd0,s_noteP (t:=w.1) (r:=r) (now:=w.2.2.2.1) (d:=v.2.2.2) (Nat.le_trans hp.sz (by decide)),s_truncP (pk_sm (p:=p) (by omega)),both_self,dup_self,dup3_self,dup4_self,dup5_self,s_steps ht1,hlen,e1,e2]
     unfold noteW
     cases hd:decide ((steps (truncP p)).length>1)
     ·rw [if_neg (of_decide_eq_false hd)];rfl
     ·rw [if_pos (of_decide_eq_true hd)];rfl
  ·unfold sendW
   rw [hkeep.2.2.1]
   simp only [cond_true,cond_false,if_true,s_remote (t:=w.1) (Nat.le_trans h.links (by decide)),s_trans h.res h.use,obind_some]
   cases ct:(transU w.2.2.1 p.2.2.2.2.2.2.2.1 r v.2.1 w.2.2.2.1).2.1
   ·simp only [cond_false,obind_some,Bool.false_and,Bool.false_eq_true,if_false,Sum.elim_inl];rfl
   ·by_cases hl:(nFly w).length<150
    ·have h150:decide ((w.2.2.2.2.2.1.length:Int)<150)=true:=decide_eq_true (by have :w.2.2.2.2.2.1.length<150:=hl;omega)
     rw [decide_eq_true hl]
     simp only [cond_true,obind_some,h150,Bool.and_self,if_true,apOk_le (b:=128) (n:=w.2.2.2.2.2.1.length) (m:=1) (by decide) (show (nFly w).length+1≤_ by omega),Sum.elim_inr]
     rfl
    ·have h150:decide ((w.2.2.2.2.2.1.length:Int)<150)=false:=decide_eq_false (by have : ¬ w.2.2.2.2.2.1.length<150:=hl;omega)
     rw [decide_eq_false hl]
     simp only [cond_true,cond_false,obind_some,h150,Bool.and_false,Bool.false_eq_true,if_false,Sum.elim_inl]
     rfl
 ·have c0:(v.1==0)=false:=by
   have :v.1=1:=by simpa using c1
   rw [this];rfl
  have hv:validK p=true:=hval (by rw [show v.1=1 from by simpa using c1];rfl)
  rw [hback]
  cases ck:p.1==1 with
  | true=>
   rw [s_data h hbn hbx hs (by rw [hkeep.1];exact ck)]
   simp only [c0,cond_true,obind_some,Bool.false_eq_true,if_false,if_true,Sum.elim_inr]
  | false=>
   have hq1:(v.2.2.1.1==1)=false:=by rw [hkeep.1];exact ck
   have hq2:(v.2.2.1.1==2)=false→(v.2.2.1.1==3)=true:=by rw [hkeep.1];exact kinds hv ck
   rw [s_home h hs hq1 hq2]
   simp only [c0,cond_true,obind_some,Bool.false_eq_true,if_false,if_true,Sum.elim_inr]

theorem net_tot (w:den tNw):tot tNw w=(tot (.sl tAS) (nT w).1+tot (.sl tLk) (nT w).2)+((tot (.sl tSg) (nK w).1+tot (.sl tSg) (nK w).2)+((0+(tot (.sl tRs) (nG w).2.1+tot (.sl tUs) (nG w).2.2))+(0+(tot (.sl ti) (nDead w)+(tot (.sl tFy) (nFly w)+(tot (.sl tFl) (nFlows w)+(tot (.sl tIb) (nBox w)+0))))))):=rfl

theorem netOk_of {w:den tNw} (h:tot tNw w≤1073741824):NetOk w where
 as:=by have :=net_tot w;have :=tot_len (t:=tAS) (nT w).1;omega
 links:=by have :=net_tot w;have :=tot_len (t:=tLk) (nT w).2;omega
 dead:=by have :=net_tot w;have :=tot_len (t:=ti) (nDead w);omega
 res:=by have :=net_tot w;have :=tot_len (t:=tRs) (nG w).2.1;omega
 use:=by have :=net_tot w;have :=tot_len (t:=tUs) (nG w).2.2;omega
 flowsN:=by have :=net_tot w;have :=tot_len (t:=tFl) (nFlows w);omega
 flows:=fun f hf=>by have :=net_tot w;have :=tot_mem (t:=tFl) hf;omega

theorem box_of {w:den tNw} (h:tot tNw w≤1073741824):(nBox w).length≤68719476736∧ ∀ x∈nBox w,tot tIb x≤1073741824:=
 ⟨by have :=net_tot w;have :=tot_len (t:=tIb) (nBox w);omega,fun x hx=>by have :=net_tot w;have :=tot_mem (t:=tIb) hx;omega⟩

theorem dropW_tot (w:den tNw):tot tNw (dropW w)=tot tNw w:=rfl

theorem use_len (l:List (den tUs)):tot (.sl tUs) l=l.length:=tot_flatL rfl

theorem trans_len (g:den tSc) (id s d now:Int):tot (.sl tRs) (transU g id s d now).2.2.1=tot (.sl tRs) g.2.1∧tot (.sl tUs) (transU g id s d now).2.2.2≤tot (.sl tUs) g.2.2+1:=by
 have m1:=moreU_len g.2.2 id s d
 have m2:=moreU_len g.2.2 0 s d
 rw [use_len,use_len]
 unfold transU
 split
 ·exact ⟨rfl,by simpa using m1⟩
 ·split
  ·exact ⟨rfl,by simpa using m2⟩
  ·exact ⟨rfl,by simp⟩

theorem sendW_tot (w:den tNw) (r eg:Int) (p:den tPk):tot tNw (sendW w r eg p)≤tot tNw w+(2+tot tPk p):=by
 unfold sendW
 split
 ·obtain ⟨e1,e2⟩:=trans_len (nG w) p.2.2.2.2.2.2.2.1 r eg (nNow w)
  rw [net_tot,net_tot w]
  simp only [nT,nK,nG,nDead,nFly,nFlows,nBox] at e1 e2 ⊢
  rw [tot_app,tot_one]
  have e3:tot tFy ((remote w.1 r eg).1,(remote w.1 r eg).2,p)=tot tPk p:=by simp [tot_pair,tot_int]
  rw [e3]
  omega
 ·rw [dropW_tot];omega

theorem handA_tot (f:den tFl) (p:den tPk):tot tFl (handA f p)=tot tFl f:=by
 unfold handA
 split<;>rfl

theorem toldF_tot (r:Int) (p:den tPk) (f:den tFl):tot tFl (toldF r p f)≤tot tFl f+1:=by
 unfold toldF
 split
 ·split
  ·rw [handA_tot];omega
  ·exact handR_tot f p
 ·omega

theorem map_tot (r:Int) (p:den tPk): ∀ l:List (den tFl),tot (.sl tFl) (l.map (toldF r p))≤tot (.sl tFl) l+l.length
 | []=>by simp
 | f::l=>by
  have h1:=toldF_tot r p f
  have h2:=map_tot r p l
  rw [List.map_cons,tot_cons,tot_cons,List.length_cons]
  omega

theorem setFlows_tot (w:den tNw) (l:List (den tFl)):tot tNw (setFlows w l)=(tot (.sl tAS) (nT w).1+tot (.sl tLk) (nT w).2)+((tot (.sl tSg) (nK w).1+tot (.sl tSg) (nK w).2)+((0+(tot (.sl tRs) (nG w).2.1+tot (.sl tUs) (nG w).2.2))+(0+(tot (.sl ti) (nDead w)+(tot (.sl tFy) (nFly w)+(tot (.sl tFl) l+(tot (.sl tIb) (nBox w)+0))))))):=rfl

theorem setBox_tot (w:den tNw) (k:Nat) (x:den tIb):tot tNw (setBox w k x)=(tot (.sl tAS) (nT w).1+tot (.sl tLk) (nT w).2)+((tot (.sl tSg) (nK w).1+tot (.sl tSg) (nK w).2)+((0+(tot (.sl tRs) (nG w).2.1+tot (.sl tUs) (nG w).2.2))+(0+(tot (.sl ti) (nDead w)+(tot (.sl tFy) (nFly w)+(tot (.sl tFl) (nFlows w)+(tot (.sl tIb) ((nBox w).set k x)+0))))))):=rfl

theorem tellW_tot (w:den tNw) (r:Int) (p:den tPk):tot tNw (tellW w r p)≤tot tNw w+(nFlows w).length:=by
 have h:=map_tot r p (nFlows w)
 unfold tellW
 rw [setFlows_tot,net_tot w]
 omega

theorem proc0_tot (w:den tNw) (r inn:Int) (p:den tPk):tot tNw (proc0 w r inn p)≤tot tNw w+(2+tot tPk p+(nFlows w).length):=by
 unfold proc0
 split
 ·have :=sendW_tot w r (stepV (nT w) (nNow w) (nDead w) r inn p).2.1 (stepV (nT w) (nNow w) (nDead w) r inn p).2.2.1
  have e:tot tPk (stepV (nT w) (nNow w) (nDead w) r inn p).2.2.1=tot tPk p:=fwd_tot _ _ _ _ _ _
  omega
 ·split
  ·have :=tellW_tot w r (stepV (nT w) (nNow w) (nDead w) r inn p).2.2.1
   omega
  ·rw [dropW_tot];omega

theorem set_tot {t:Ty} {l:List (den t)} {k:Nat} {x y:den t} (h:l[k]? =some x):tot (.sl t) (l.set k y)+tot t x=tot (.sl t) l+tot t y:=by
 induction l generalizing k with
 | nil=>cases h
 | cons z l ih=>
  cases k with
  | zero=>
   have :z=x:=by simpa using h
   subst this
   rw [List.set_cons_zero,tot_cons,tot_cons];omega
  | succ k=>
   have :=ih (k:=k) (by simpa using h)
   rw [List.set_cons_succ,tot_cons,tot_cons];omega

theorem handD_all (x:den tIb) (p:den tPk):tot tIb (handD x p)≤tot tIb x+(1+tot tPk p):=by
 have h1:=handD_tot x p
 have h2:=(pk_path (p:=p) (Nat.le_refl _)).2
 have e: ∀ y:den tIb,tot tIb y=tot (.sl tMs) y.2.2.2:=fun y=>by simp [tot_pair,tot_int]
 rw [e,e]
 omega

theorem dataW_tot (w:den tNw) (r:Int) (p:den tPk):tot tNw (dataW w r p)≤tot tNw w+(3+2 * tot tPk p+(nFlows w).length):=by
 unfold dataW
 split
 ·omega
 ·rcases findX_at (nBox w) r p.2.1 with hf | ⟨k,x,hf,hx⟩
  ·rename_i hc;rw [hf] at hc;exact absurd (by decide) hc
  ·have hba:boxAt w k=x:=by unfold boxAt;rw [hx];rfl
   rw [hf,Int.toNat_natCast,hba]
   have h1:=set_tot (t:=tIb) (y:=handD x p) hx
   have h2:=handD_all x p
   have h3:tot tNw (setBox w k (handD x p))≤tot tNw w+(1+tot tPk p):=by
    rw [setBox_tot,net_tot w]
    omega
   split
   ·have h4:=proc0_tot (setBox w k (handD x p)) r 0 (mkAck (handD x p) p)
    have h5:=mkAck_tot (handD x p) p
    have h6:(nFlows (setBox w k (handD x p))).length=(nFlows w).length:=rfl
    omega
   ·omega

theorem noteW_tot (w:den tNw) (r d:Int) (p:den tPk):tot tNw (noteW w r d p)≤tot tNw w+(20+tot tPk p+(nFlows w).length):=by
 unfold noteW
 rw [dropW_tot]
 split
 ·have h1:=proc0_tot w r 0 (noteP r (nNow w) d p)
  have h2:=noteP_tot r (nNow w) d p
  omega
 ·have :=tellW_tot w r (noteP r (nNow w) d p)
  omega

theorem procW_tot (w:den tNw) (r inn:Int) (p:den tPk):tot tNw (procW w r inn p)≤tot tNw w+(20+2 * tot tPk p+(nFlows w).length):=by
 have e:tot tPk (stepV (nT w) (nNow w) (nDead w) r inn p).2.2.1=tot tPk p:=fwd_tot _ _ _ _ _ _
 unfold procW
 split
 ·have :=sendW_tot w r (stepV (nT w) (nNow w) (nDead w) r inn p).2.1 (stepV (nT w) (nNow w) (nDead w) r inn p).2.2.1
  omega
 ·split
  ·split
   ·have :=dataW_tot w r (stepV (nT w) (nNow w) (nDead w) r inn p).2.2.1
    omega
   ·have :=tellW_tot w r (stepV (nT w) (nNow w) (nDead w) r inn p).2.2.1
    omega
  ·split
   ·have :=noteW_tot w r (stepV (nT w) (nNow w) (nDead w) r inn p).2.2.2 p
    omega
   ·rw [dropW_tot];omega

theorem net_sm {w:den tNw} (h:tot tNw w≤68719476736):SmB 68719476736 tNw w:=sm_of_tot h


def netS (w:den tNw):(List (den tAS))×(List (den tLk))×(List (den tSg))×(List (den tSg))×Int×(List (den tRs))×(List (den tUs))×Int×(List Int)×Int×(List (den tFy))×(List (den tFl))×(List (den tIb)):=
 ((nT w).1,(nT w).2,(nK w).1,(nK w).2,(nG w).1,(nG w).2.1,(nG w).2.2,nNow w,nDead w,nDrop w,nFly w,nFlows w,nBox w)

theorem net_rows {w:den tNw} (h:tot tNw w≤68719476736):tot (.sl tAS) (nT w).1≤68719476736∧tot (.sl tLk) (nT w).2≤68719476736∧tot (.sl tSg) (nK w).1≤68719476736∧tot (.sl tSg) (nK w).2≤68719476736∧tot (.sl tRs) (nG w).2.1≤68719476736∧tot (.sl tUs) (nG w).2.2≤68719476736∧tot (.sl ti) (nDead w)≤68719476736∧tot (.sl tFy) (nFly w)≤68719476736∧tot (.sl tFl) (nFlows w)≤68719476736∧tot (.sl tIb) (nBox w)≤68719476736:=by
 have :=net_tot w
 refine ⟨?_,?_,?_,?_,?_,?_,?_,?_,?_,?_⟩<;>omega

theorem encPt_tot {p:den tPp} (h:encPt p=true):tot tPp p≤8:=by
 unfold encPt hopsE at h
 simp only [Bool.and_eq_true,decide_eq_true_eq] at h
 have e:tot tPp p=tot (.sl tHop) p.2.2.2:=by simp [tot_pair,tot_int]
 rw [e,tot_flatL rfl]
 exact h.2.2.2.1

theorem encP_tot {p:den tPt} (h:encP p=true):tot tPt p≤27:=by
 unfold encP at h
 rw [Bool.and_eq_true,decide_eq_true_eq] at h
 have key: ∀ l:List (den tPp),l.all encPt=true→tot (.sl tPp) l≤9 * l.length:=by
  intro l
  induction l with
  | nil=>intro _;exact Nat.le_refl _
  | cons x l ih=>
   intro hl
   rw [List.all_cons,Bool.and_eq_true] at hl
   have h1:=encPt_tot hl.1
   have h2:=ih hl.2
   rw [tot_cons,List.length_cons]
   omega
 have :=key p h.2
 have h1:List.length p≤3:=h.1
 show tot (.sl tPp) p≤27
 omega

theorem validK_tot {p:den tPk} (h:validK p=true):tot tPk p≤67:=by
 have h':=h
 unfold validK at h'
 simp only [Bool.and_eq_true,decide_eq_true_eq] at h'
 have h1:=encP_tot h'.2.1
 have h2:p.2.2.2.2.2.2.2.2.2.length≤40:=by have :=h'.2.2.2.2.2.2.2.2.2;omega
 have e:tot tPk p=tot tPt p.2.2.2.1+tot (.sl tb) p.2.2.2.2.2.2.2.2.2:=by simp [tot_pair,tot_int]
 rw [e,tot_flatL (t:=tb) rfl]
 omega

theorem procW_bad {w:den tNw} {r inn:Int} {p:den tPk} (h:validK p=false):procW w r inn p=dropW w:=by
 have hv:stepV (nT w) (nNow w) (nDead w) r inn p=(2,0,p,0):=by
  unfold stepV fwd
  rw [h];rfl
 unfold procW
 rw [hv]
 rfl

theorem procW_grow (w:den tNw) (r inn:Int) (p:den tPk):tot tNw (procW w r inn p)≤tot tNw w+(160+(nFlows w).length):=by
 cases h:validK p with
 | true=>
  have h1:=procW_tot w r inn p
  have h2:=validK_tot h
  omega
 | false=>rw [procW_bad h,dropW_tot];omega


structure BytesW (w:den tNw):Prop where
 fly: ∀ x∈nFly w,bytesP x.2.2
 msg: ∀ f∈nFlows w,∀ m∈f.2.2.2.2.1,bytesL m

theorem sendW_keep {w:den tNw} (h:BytesW w) {r eg:Int} {p:den tPk} (hp:bytesP p):BytesW (sendW w r eg p)∧(nFlows (sendW w r eg p)).length=(nFlows w).length:=by
 unfold sendW
 split
 ·refine ⟨⟨fun x hx=> ?_,h.msg⟩,rfl⟩
  rcases List.mem_append.1 (show x∈nFly w++_ from hx) with hx | hx
  ·exact h.fly x hx
  ·have :x=_:=List.mem_singleton.1 hx
   subst this
   exact hp
 ·exact ⟨⟨h.fly,h.msg⟩,rfl⟩

theorem toldF_msg (r:Int) (p:den tPk) (f:den tFl):(toldF r p f).2.2.2.2.1=f.2.2.2.2.1:=by
 unfold toldF
 split
 ·split
  ·exact (handA_keeps f p).1
  ·unfold handR
   cases p.1==3&&(decV p.2.2.2.2.2.2.2.2.2).2.2.2<;>rfl
 ·rfl

theorem tellW_keep {w:den tNw} (h:BytesW w) (r:Int) (p:den tPk):BytesW (tellW w r p)∧(nFlows (tellW w r p)).length=(nFlows w).length:=by
 refine ⟨⟨h.fly,fun f hf m hm=> ?_⟩,by show ((nFlows w).map _).length=_;simp⟩
 obtain ⟨g,hg,rfl⟩:=List.mem_map.1 (show f∈(nFlows w).map (toldF r p) from hf)
 rw [toldF_msg] at hm
 exact h.msg g hg m hm

theorem dropW_keep {w:den tNw} (h:BytesW w):BytesW (dropW w)∧(nFlows (dropW w)).length=(nFlows w).length:=⟨⟨h.fly,h.msg⟩,rfl⟩

theorem setBox_keep {w:den tNw} (h:BytesW w) (k:Nat) (x:den tIb):BytesW (setBox w k x)∧(nFlows (setBox w k x)).length=(nFlows w).length:=⟨⟨h.fly,h.msg⟩,rfl⟩

theorem stepV_bytes {t:den tTo} {now:Int} {dead:List Int} {r inn:Int} {p:den tPk} (hp:bytesP p):bytesP (stepV t now dead r inn p).2.2.1:=fun x hx=>hp x (by unfold stepV at hx;rwa [(fwd_keeps t r now _ inn p).2.2.2] at hx)

theorem proc0_keep {w:den tNw} (h:BytesW w) {r inn:Int} {p:den tPk} (hp:bytesP p):BytesW (proc0 w r inn p)∧(nFlows (proc0 w r inn p)).length=(nFlows w).length:=by
 unfold proc0
 split
 ·exact sendW_keep h (stepV_bytes hp)
 ·split
  ·exact tellW_keep h _ _
  ·exact dropW_keep h

theorem procW_keep {w:den tNw} (h:BytesW w) {r inn:Int} {p:den tPk} (hp:bytesP p):BytesW (procW w r inn p)∧(nFlows (procW w r inn p)).length=(nFlows w).length:=by
 unfold procW
 split
 ·exact sendW_keep h (stepV_bytes hp)
 ·split
  ·split
   ·unfold dataW
    split
    ·exact ⟨h,rfl⟩
    ·split
     ·obtain ⟨h1,h2⟩:=setBox_keep h (findX (nBox w) r (stepV (nT w) (nNow w) (nDead w) r inn p).2.2.1.2.1).toNat (handD (boxAt w (findX (nBox w) r (stepV (nT w) (nNow w) (nDead w) r inn p).2.2.1.2.1).toNat) (stepV (nT w) (nNow w) (nDead w) r inn p).2.2.1)
      obtain ⟨h3,h4⟩:=proc0_keep h1 (r:=r) (inn:=0) (p:=mkAck (handD (boxAt w (findX (nBox w) r (stepV (nT w) (nNow w) (nDead w) r inn p).2.2.1.2.1).toNat) (stepV (nT w) (nNow w) (nDead w) r inn p).2.2.1) (stepV (nT w) (nNow w) (nDead w) r inn p).2.2.1) (by
       unfold mkAck
       split
       ·exact fun x hx=>by cases hx
       ·exact fun x hx=>by cases hx)
      exact ⟨h3,h4.trans h2⟩
     ·exact setBox_keep h _ _
   ·exact tellW_keep h _ _
  ·split
   ·unfold noteW
    split
    ·obtain ⟨h1,h2⟩:=proc0_keep h (r:=r) (inn:=0) (p:=noteP r (nNow w) (stepV (nT w) (nNow w) (nDead w) r inn p).2.2.2 p) (encV_bytes _)
     obtain ⟨h3,h4⟩:=dropW_keep h1
     exact ⟨h3,h4.trans h2⟩
    ·obtain ⟨h1,h2⟩:=tellW_keep h r (noteP r (nNow w) (stepV (nT w) (nNow w) (nDead w) r inn p).2.2.2 p)
     obtain ⟨h3,h4⟩:=dropW_keep h1
     exact ⟨h3,h4.trans h2⟩
   ·exact dropW_keep h

def setFly (w:den tNw) (l:List (den tFy)):den tNw:=(nT w,nK w,nG w,nNow w,nDead w,l,nFlows w,nBox w,nDrop w)

def takeR (x:den tFy) (w:den tNw):Int×Int×Int×Int×Int×(List (den tPp))×Int×Int×Int×Int×Int×(List Int)×(List (den tFy))×(List (den tFl))×(List (den tIb))×(List (den tAS))×(List (den tLk))×(List (den tSg))×(List (den tSg))×Int×(List (den tRs))×(List (den tUs))×Int×(List Int)×Int:=
 (x.1,x.2.1,x.2.2.1,x.2.2.2.1,x.2.2.2.2.1,x.2.2.2.2.2.1,x.2.2.2.2.2.2.1,x.2.2.2.2.2.2.2.1,x.2.2.2.2.2.2.2.2.1,x.2.2.2.2.2.2.2.2.2.1,x.2.2.2.2.2.2.2.2.2.2.1,x.2.2.2.2.2.2.2.2.2.2.2,netR w)

theorem i_take {w:den tNw} {x:den tFy} (hx:(nFly w)[0]? =some x) (hl:(nFly w).length≤1073741824):i_Network_take w 0=some (takeR x (setFly w ((nFly w).drop 1))):=by
 have hlt:0<(nFly w).length:=(List.getElem?_eq_some_iff.1 hx).1
 have hx:w.2.2.2.2.2.1[(0:Int).toNat]? =some x:=hx
 have h1:decide ((0:Int)<(w.2.2.2.2.2.1.length:Int))=true:=decide_eq_true (by have :0<w.2.2.2.2.2.1.length:=hlt;omega)
 have e1:wr ((0:Int)+1)=((1:Nat):Int):=rfl
 have h2:slOk ((1:Nat):Int) (w.2.2.2.2.2.1.length:Int) (w.2.2.2.2.2.1.length:Int)=true:=slOk_from (show 1≤w.2.2.2.2.2.1.length from hlt)
 have h3:slOk (0:Int) (0:Int) (w.2.2.2.2.2.1.length:Int)=true:=slOk_to (k:=0) (Nat.zero_le _)
 have h4:cut w.2.2.2.2.2.1 (0:Int) (0:Int)=[]:=by simp [cut]
 have hl:w.2.2.2.2.2.1.length≤1073741824:=hl
 unfold i_Network_take
 simp only [h1,hx,obind_some,cond_true,e1,h2,h3,h4,cut_from,List.append_nil,List.length_nil,apOk_le (b:=128) (n:=0) (m:=0) (by decide) (by decide),apOk_le (b:=128) (n:=0) (m:=(w.2.2.2.2.2.1.drop 1).length) (by decide) (by simp;omega),decide_eq_true (show (0:Int)≤0 from Int.le_refl _)]
 rfl

theorem s_take {w:den tNw} {x:den tFy} (hx:(nFly w)[0]? =some x) (hl:(nFly w).length≤1073741824):s_l38Gone w 0=some (takeR x (setFly w ((nFly w).drop 1))):=
 (show s_l38Gone w 0=i_Network_take w 0 from rfl).trans (i_take hx hl)

theorem setFly_tot (w:den tNw) (l:List (den tFy)):tot tNw (setFly w l)+tot (.sl tFy) (nFly w)=tot tNw w+tot (.sl tFy) l:=by
 have e:tot tNw (setFly w l)=(tot (.sl tAS) (nT w).1+tot (.sl tLk) (nT w).2)+((tot (.sl tSg) (nK w).1+tot (.sl tSg) (nK w).2)+((0+(tot (.sl tRs) (nG w).2.1+tot (.sl tUs) (nG w).2.2))+(0+(tot (.sl ti) (nDead w)+(tot (.sl tFy) l+(tot (.sl tFl) (nFlows w)+(tot (.sl tIb) (nBox w)+0))))))):=rfl
 rw [e,net_tot w]
 omega


def outW (w:den tNw):den tNw:=match nFly w with
 | []=>w
 | x::l=>procW (setFly w l) x.1 x.2.1 x.2.2

def delW:Nat→den tNw→den tNw
 | 0,w=>w
 | n+1,w=>match nFly w with
  | []=>w
  | _::_=>delW n (outW w)


structure Keep (B F:Nat) (w:den tNw):Prop where
 tot:Go.V.tot tNw w≤B
 flows:(nFlows w).length≤F
 bytes:BytesW w

theorem Keep.mono {B C F:Nat} {w:den tNw} (h:Keep B F w) (hb:B≤C):Keep C F w:=⟨Nat.le_trans h.tot hb,h.flows,h.bytes⟩

theorem fly_tot {w:den tNw} {x:den tFy} {l:List (den tFy)} (h:nFly w=x::l):tot tNw (setFly w l)+(1+tot tPk x.2.2)=tot tNw w:=by
 have h1:=setFly_tot w l
 rw [h,tot_cons] at h1
 have e:tot tFy x=tot tPk x.2.2:=by simp [tot_pair,tot_int]
 rw [e] at h1
 omega

theorem fly_keep {B F:Nat} {w:den tNw} {x:den tFy} {l:List (den tFy)} (hk:Keep B F w) (h:nFly w=x::l):Keep B F (setFly w l)∧tot tPk x.2.2≤B∧bytesP x.2.2:=by
 have h1:=fly_tot h
 have h2:=hk.tot
 refine ⟨⟨by omega,hk.flows,⟨fun y hy=>hk.bytes.fly y (by rw [h];exact List.mem_cons_of_mem _ hy),hk.bytes.msg⟩⟩,by omega,hk.bytes.fly x (by rw [h];exact List.mem_cons_self ..)⟩

theorem procW_step {B F:Nat} {w:den tNw} (hk:Keep B F w) {r inn:Int} {p:den tPk} (hp:bytesP p):Keep (B+(160+F)) F (procW w r inn p):=by
 obtain ⟨h1,h2⟩:=procW_keep hk.bytes (r:=r) (inn:=inn) hp
 have h3:=procW_grow w r inn p
 have h4:=hk.tot
 have h5:=hk.flows
 exact ⟨by omega,by omega,h1⟩

theorem outW_step {B F:Nat} {w:den tNw} (hk:Keep B F w):Keep (B+(160+F)) F (outW w):=by
 unfold outW
 split
 ·exact hk.mono (by omega)
 ·rename_i x l h
  obtain ⟨h1,h2,h3⟩:=fly_keep hk h
  exact procW_step h1 h3

theorem delW_step {F:Nat}: ∀ (n:Nat) {B:Nat} {w:den tNw},Keep B F w→Keep (B+n * (160+F)) F (delW n w)
 | 0,B,w,hk=>hk.mono (by omega)
 | n+1,B,w,hk=>by
  unfold delW
  split
  ·exact hk.mono (by omega)
  ·have :=delW_step n (outW_step hk)
   refine this.mono ?_
   rw [Nat.succ_mul];omega

theorem del_loop {F:Nat} {S R:Type} (enc:Nat→den tNw→S) (out:den tNw→R) (N:Nat) {step:S→Option (S⊕R)}
  (H1: ∀ (k:Nat) (w:den tNw) (x:den tFy) (l:List (den tFy)),k<N→nFly w=x::l→Keep 536870912 F w→step (enc k w)=some (.inl (enc (k+1) (outW w))))
  (H2: ∀ (k:Nat) (w:den tNw),(k=N∨nFly w=[])→step (enc k w)=some (.inr (out w))):
  ∀ (m k B:Nat) (w:den tNw),k+m=N→Keep B F w→B+m * (160+F)≤536870912→loopM step (enc k w)=some (out (delW m w)):=by
 intro m
 induction m with
 | zero=>intro k B w hk hw hB;exact loopM_done (H2 k w (.inl (by omega)))
 | succ m ih=>
  intro k B w hk hw hB
  unfold delW
  split
  ·rename_i h;exact loopM_done (H2 k w (.inr h))
  ·rename_i x l h
   rw [Nat.succ_mul] at hB
   rw [loopM_next (H1 k w x l (by omega) h (hw.mono (by omega)))]
   exact ih (k+1) _ _ (by omega) (outW_step hw) (by omega)

theorem keep_ok {B F:Nat} {w:den tNw} (h:Keep B F w) (hB:B≤1073741824):NetOk w∧(nBox w).length≤68719476736∧ ∀ x∈nBox w,tot tIb x≤1073741824:=
 ⟨netOk_of (Nat.le_trans h.tot hB),box_of (Nat.le_trans h.tot hB)⟩

theorem fly_len {B F:Nat} {w:den tNw} (h:Keep B F w) (hB:B≤1073741824):(nFly w).length≤1073741824:=by
 have :=net_tot w
 have :=tot_len (t:=tFy) (nFly w)
 have :=h.tot
 omega

theorem i_out {F:Nat} {w:den tNw} {x:den tFy} {l:List (den tFy)} (h:nFly w=x::l) (hk:Keep 536870912 F w):i_Network_take (((netR w).2.2.2.1,(netR w).2.2.2.2.1),((netR w).2.2.2.2.2.1,(netR w).2.2.2.2.2.2.1),((netR w).2.2.2.2.2.2.2.1,(netR w).2.2.2.2.2.2.2.2.1,(netR w).2.2.2.2.2.2.2.2.2.1),(netR w).2.2.2.2.2.2.2.2.2.2.1,(netR w).2.2.2.2.2.2.2.2.2.2.2.1,(netR w).1,(netR w).2.1,(netR w).2.2.1,(netR w).2.2.2.2.2.2.2.2.2.2.2.2) 0=some (takeR x (setFly w l))∧i_Network_process (((takeR x (setFly w l)).2.2.2.2.2.2.2.2.2.2.2.2.2.2.2.1,(takeR x (setFly w l)).2.2.2.2.2.2.2.2.2.2.2.2.2.2.2.2.1),((takeR x (setFly w l)).2.2.2.2.2.2.2.2.2.2.2.2.2.2.2.2.2.1,(takeR x (setFly w l)).2.2.2.2.2.2.2.2.2.2.2.2.2.2.2.2.2.2.1),((takeR x (setFly w l)).2.2.2.2.2.2.2.2.2.2.2.2.2.2.2.2.2.2.2.1,(takeR x (setFly w l)).2.2.2.2.2.2.2.2.2.2.2.2.2.2.2.2.2.2.2.2.1,(takeR x (setFly w l)).2.2.2.2.2.2.2.2.2.2.2.2.2.2.2.2.2.2.2.2.2.1),(takeR x (setFly w l)).2.2.2.2.2.2.2.2.2.2.2.2.2.2.2.2.2.2.2.2.2.2.1,(takeR x (setFly w l)).2.2.2.2.2.2.2.2.2.2.2.2.2.2.2.2.2.2.2.2.2.2.2.1,(takeR x (setFly w l)).2.2.2.2.2.2.2.2.2.2.2.2.1,(takeR x (setFly w l)).2.2.2.2.2.2.2.2.2.2.2.2.2.1,(takeR x (setFly w l)).2.2.2.2.2.2.2.2.2.2.2.2.2.2.1,(takeR x (setFly w l)).2.2.2.2.2.2.2.2.2.2.2.2.2.2.2.2.2.2.2.2.2.2.2.2) (takeR x (setFly w l)).1 (takeR x (setFly w l)).2.1 ((takeR x (setFly w l)).2.2.1,(takeR x (setFly w l)).2.2.2.1,(takeR x (setFly w l)).2.2.2.2.1,(takeR x (setFly w l)).2.2.2.2.2.1,(takeR x (setFly w l)).2.2.2.2.2.2.1,(takeR x (setFly w l)).2.2.2.2.2.2.2.1,(takeR x (setFly w l)).2.2.2.2.2.2.2.2.1,(takeR x (setFly w l)).2.2.2.2.2.2.2.2.2.1,(takeR x (setFly w l)).2.2.2.2.2.2.2.2.2.2.1,(takeR x (setFly w l)).2.2.2.2.2.2.2.2.2.2.2.1)=some (netR (outW w)):=by
 have hx:(nFly w)[0]? =some x:=by rw [h];rfl
 have hd:(nFly w).drop 1=l:=by rw [h];rfl
 obtain ⟨k1,k2,k3⟩:=fly_keep hk h
 obtain ⟨n1,n2,n3⟩:=keep_ok k1 (by decide)
 refine ⟨?_,?_⟩
 ·have :=i_take (w:=w) hx (fly_len hk (by decide))
  rw [hd] at this
  exact this
 ·have e:outW w=procW (setFly w l) x.1 x.2.1 x.2.2:=by unfold outW;rw [h]
  rw [e]
  exact i_procW (w:=setFly w l) n1 n2 n3 k2 k3

theorem s_out {F:Nat} {w:den tNw} {x:den tFy} {l:List (den tFy)} (h:nFly w=x::l) (hk:Keep 536870912 F w):s_l38Gone (((netR w).2.2.2.1,(netR w).2.2.2.2.1),((netR w).2.2.2.2.2.1,(netR w).2.2.2.2.2.2.1),((netR w).2.2.2.2.2.2.2.1,(netR w).2.2.2.2.2.2.2.2.1,(netR w).2.2.2.2.2.2.2.2.2.1),(netR w).2.2.2.2.2.2.2.2.2.2.1,(netR w).2.2.2.2.2.2.2.2.2.2.2.1,(netR w).1,(netR w).2.1,(netR w).2.2.1,(netR w).2.2.2.2.2.2.2.2.2.2.2.2) 0=some (takeR x (setFly w l))∧s_l37Arrive (((takeR x (setFly w l)).2.2.2.2.2.2.2.2.2.2.2.2.2.2.2.1,(takeR x (setFly w l)).2.2.2.2.2.2.2.2.2.2.2.2.2.2.2.2.1),((takeR x (setFly w l)).2.2.2.2.2.2.2.2.2.2.2.2.2.2.2.2.2.1,(takeR x (setFly w l)).2.2.2.2.2.2.2.2.2.2.2.2.2.2.2.2.2.2.1),((takeR x (setFly w l)).2.2.2.2.2.2.2.2.2.2.2.2.2.2.2.2.2.2.2.1,(takeR x (setFly w l)).2.2.2.2.2.2.2.2.2.2.2.2.2.2.2.2.2.2.2.2.1,(takeR x (setFly w l)).2.2.2.2.2.2.2.2.2.2.2.2.2.2.2.2.2.2.2.2.2.1),(takeR x (setFly w l)).2.2.2.2.2.2.2.2.2.2.2.2.2.2.2.2.2.2.2.2.2.2.1,(takeR x (setFly w l)).2.2.2.2.2.2.2.2.2.2.2.2.2.2.2.2.2.2.2.2.2.2.2.1,(takeR x (setFly w l)).2.2.2.2.2.2.2.2.2.2.2.2.1,(takeR x (setFly w l)).2.2.2.2.2.2.2.2.2.2.2.2.2.1,(takeR x (setFly w l)).2.2.2.2.2.2.2.2.2.2.2.2.2.2.1,(takeR x (setFly w l)).2.2.2.2.2.2.2.2.2.2.2.2.2.2.2.2.2.2.2.2.2.2.2.2) (takeR x (setFly w l)).1 (takeR x (setFly w l)).2.1 ((takeR x (setFly w l)).2.2.1,(takeR x (setFly w l)).2.2.2.1,(takeR x (setFly w l)).2.2.2.2.1,(takeR x (setFly w l)).2.2.2.2.2.1,(takeR x (setFly w l)).2.2.2.2.2.2.1,(takeR x (setFly w l)).2.2.2.2.2.2.2.1,(takeR x (setFly w l)).2.2.2.2.2.2.2.2.1,(takeR x (setFly w l)).2.2.2.2.2.2.2.2.2.1,(takeR x (setFly w l)).2.2.2.2.2.2.2.2.2.2.1,(takeR x (setFly w l)).2.2.2.2.2.2.2.2.2.2.2.1)=some (netR (outW w)):=by
 have hx:(nFly w)[0]? =some x:=by rw [h];rfl
 have hd:(nFly w).drop 1=l:=by rw [h];rfl
 obtain ⟨k1,k2,k3⟩:=fly_keep hk h
 obtain ⟨n1,n2,n3⟩:=keep_ok k1 (by decide)
 refine ⟨?_,?_⟩
 ·have :=s_take (w:=w) hx (fly_len hk (by decide))
  rw [hd] at this
  exact this
 ·have e:outW w=procW (setFly w l) x.1 x.2.1 x.2.2:=by unfold outW;rw [h]
  rw [e]
  exact s_procW (w:=setFly w l) n1 n2 n3 k2 k3

theorem i_del {F:Nat} {w:den tNw} {n:Int} {B:Nat} (h0:0≤n) (hn:n≤1000000) (hk:Keep B F w) (hB:B+n.toNat * (160+F)≤536870912):i_Network_deliver w n=some (netR (delW n.toNat w)):=by
 unfold i_Network_deliver
 refine del_loop (F:=F) (fun k w=>((k:Int),netR w)) netR n.toNat (fun k w x l hk' hx hw=> ?_) (fun k w hk'=> ?_) n.toNat 0 B w (Nat.zero_add _) hk hB
 ·obtain ⟨e1,e2⟩:=i_out hx hw
  have hd:decide ((k:Int)<n)=true:=decide_eq_true (by omega)
  have hp:decide (((netR w).1.length:Int)>0)=true:=by rw [show (netR w).1=nFly w from rfl,hx];simp
  have hwr:wr ((k:Int)+1)=((k+1:Nat):Int):=(wri (by omega) (by omega)).trans (by omega)
  simp only [hd,hp,cond_true,obind_some,e1,e2,hwr]
 ·rcases hk' with rfl | h
  ·have hd:decide (((n.toNat:Nat):Int)<n)=false:=decide_eq_false (by omega)
   simp only [hd,cond_false,obind_some]
  ·have hp:decide (((netR w).1.length:Int)>0)=false:=by rw [show (netR w).1=nFly w from rfl,h];rfl
   simp only [hp,obind_some]
   cases decide ((k:Int)<n)<;>rfl


def evDel:den tEvent:=(2,0,[],(0,0,(0,0,0,[],0,0,0,0,0,[])))

theorem s_doDel {F:Nat} {w:den tNw} {x:den tFy} {l:List (den tFy)} (h:nFly w=x::l) (hk:Keep 536870912 F w):s_l38Do w evDel=some (true,netR (outW w)):=by
 obtain ⟨e1,e2⟩:=s_out h hk
 have hl:w.2.2.2.2.2.1.length≤68719476736:=Nat.le_trans (fly_len hk (by decide)) (by decide)
 have hin:inR (0:Int) 0 ((w.2.2.2.2.2.1.length:Int) - 1)=true:=by
  rw [inR_iff,show w.2.2.2.2.2.1=x::l from h,List.length_cons]
  omega
 unfold s_l38Do evDel
 simp only [s_in,wr_less hl,hin,obind_some]
 have e1:s_l38Gone w 0=some (takeR x (setFly w l)):=e1
 simp only [show ((2:Int)==1)=false from rfl,show ((2:Int)==2)=true from rfl,cond_false,cond_true,peta,e1,obind_some,e2]

theorem s_del {F:Nat} {w:den tNw} {n:Int} {B:Nat} (h0:0≤n) (hn:n≤1000000) (hk:Keep B F w) (hB:B+n.toNat * (160+F)≤536870912):s_l39Out w n=some (netR (delW n.toNat w)):=by
 unfold s_l39Out
 refine del_loop (F:=F) (fun k w=>((k:Int),netR w)) netR n.toNat (fun k w x l hk' hx hw=> ?_) (fun k w hk'=> ?_) n.toNat 0 B w (Nat.zero_add _) hk hB
 ·have e1:s_l38Do (((netR w).2.2.2.1,(netR w).2.2.2.2.1),((netR w).2.2.2.2.2.1,(netR w).2.2.2.2.2.2.1),((netR w).2.2.2.2.2.2.2.1,(netR w).2.2.2.2.2.2.2.2.1,(netR w).2.2.2.2.2.2.2.2.2.1),(netR w).2.2.2.2.2.2.2.2.2.2.1,(netR w).2.2.2.2.2.2.2.2.2.2.2.1,(netR w).1,(netR w).2.1,(netR w).2.2.1,(netR w).2.2.2.2.2.2.2.2.2.2.2.2) ((2:Int),(0:Int),[],((0:Int),(0:Int),((0:Int),(0:Int),(0:Int),[],(0:Int),(0:Int),(0:Int),(0:Int),(0:Int),[])))=some (true,netR (outW w)):=s_doDel hx hw
  have hd:decide ((k:Int)<n)=true:=decide_eq_true (by omega)
  have hp:decide (((netR w).1.length:Int)>0)=true:=by rw [show (netR w).1=nFly w from rfl,hx];simp
  have hwr:wr ((k:Int)+1)=((k+1:Nat):Int):=(wri (by omega) (by omega)).trans (by omega)
  simp only [hd,hp,cond_true,obind_some,e1,hwr]
 ·rcases hk' with rfl | h
  ·have hd:decide (((n.toNat:Nat):Int)<n)=false:=decide_eq_false (by omega)
   simp only [hd,cond_false,obind_some]
  ·have hp:decide (((netR w).1.length:Int)>0)=false:=by rw [show (netR w).1=nFly w from rfl,h];rfl
   simp only [hp,obind_some]
   cases decide ((k:Int)<n)<;>rfl

theorem netV_flows {w:den tNw} (h:netV w=true):(nFlows w).length≤4:=by
 unfold netV at h
 simp only [Bool.and_eq_true,decide_eq_true_eq] at h
 simp only [h]

theorem keep0 {w:den tNw} (hv:netV w=true) (h:tot tNw w≤1048576) (hb:BytesW w):Keep 1048576 4 w:=⟨h,netV_flows hv,hb⟩

def delP (w:den tNw) (n:Int):den tNw:=if netV w&&inR n 0 2000 then delW n.toNat w else w

theorem delP_tot {w:den tNw} {n:Int} (h:tot tNw w≤1048576) (hb:BytesW w):tot tNw (delP w n)≤536870912:=by
 unfold delP
 split
 ·rename_i hc
  rw [Bool.and_eq_true,inR_iff] at hc
  have h1:=(delW_step n.toNat (keep0 hc.1 h hb)).tot
  have h2:n.toNat * (160+4)≤2000 * 164:=Nat.mul_le_mul (by omega) (Nat.le_refl _)
  omega
 ·omega

theorem i_delP {w:den tNw} {n:Int} (h:tot tNw w≤1048576) (hb:BytesW w):i_DeliverPackets w n=some (netC (delP w n)):=by
 have ht:=delP_tot (n:=n) h hb
 unfold i_DeliverPackets
 simp only [peta,i_copyW (net_sm (w:=w) (by omega)),i_netV (w:=w) (by omega),i_in,obind_some]
 have e3:i_copyNetwork (((netS (delP w n)).1,(netS (delP w n)).2.1),((netS (delP w n)).2.2.1,(netS (delP w n)).2.2.2.1),((netS (delP w n)).2.2.2.2.1,(netS (delP w n)).2.2.2.2.2.1,(netS (delP w n)).2.2.2.2.2.2.1),(netS (delP w n)).2.2.2.2.2.2.2.1,(netS (delP w n)).2.2.2.2.2.2.2.2.1,(netS (delP w n)).2.2.2.2.2.2.2.2.2.2.1,(netS (delP w n)).2.2.2.2.2.2.2.2.2.2.2.1,(netS (delP w n)).2.2.2.2.2.2.2.2.2.2.2.2,(netS (delP w n)).2.2.2.2.2.2.2.2.2.1)=some (netC (delP w n)):=i_copyW (w:=delP w n) (net_sm (by omega))
 have key: ∀ b,b=(netV w&&inR n 0 2000)→(@Option.bind Bool _ (cond (netV w) (some (inR n 0 2000)) (some false)) fun (s4:Bool)=>some s4)=some b:=by
  intro b hb
  subst hb
  cases netV w<;>rfl
 unfold delP at e3 ⊢
 cases cv:netV w
 ·rw [cv] at e3
  simp only [cond_false,obind_some]
  simp only [Bool.false_and,Bool.false_eq_true,if_false] at e3 ⊢
  exact congrArg (fun o=>Option.bind o some) e3
 ·cases cn:inR n 0 2000
  ·rw [cv,cn] at e3
   simp only [cond_true,cond_false,obind_some]
   simp only [Bool.and_false,Bool.false_eq_true,if_false] at e3 ⊢
   exact congrArg (fun o=>Option.bind o some) e3
  ·rw [cv,cn] at e3
   have hr:=inR_iff.1 cn
   have h2:n.toNat * (160+4)≤2000 * 164:=Nat.mul_le_mul (by omega) (Nat.le_refl _)
   have e1:i_Network_deliver (((netC w).2.2.2.1,(netC w).2.2.2.2.1),((netC w).2.2.2.2.2.1,(netC w).2.2.2.2.2.2.1),((netC w).1,(netC w).2.2.2.2.2.2.2.1,(netC w).2.2.2.2.2.2.2.2.1),(netC w).2.1,(netC w).2.2.2.2.2.2.2.2.2.1,(netC w).2.2.2.2.2.2.2.2.2.2.1,(netC w).2.2.2.2.2.2.2.2.2.2.2.1,(netC w).2.2.2.2.2.2.2.2.2.2.2.2,(netC w).2.2.1) n=some (netR (delW n.toNat w)):=i_del (w:=w) hr.1 (by omega) (keep0 cv h hb) (by omega)
   simp only [cond_true,obind_some,e1]
   simp only [Bool.and_self,if_true] at e3 ⊢
   exact congrArg (fun o=>Option.bind o some) e3

theorem s_delP {w:den tNw} {n:Int} (h:tot tNw w≤1048576) (hb:BytesW w):s_DeliverPackets w n=some (netS (delP w n)):=by
 unfold s_DeliverPackets
 simp only [peta,s_copyW (net_sm (w:=w) (by omega)),s_netV (w:=w) (by omega),s_in,obind_some]
 unfold delP
 cases cv:netV w
 ·simp only [cond_false,obind_some,Bool.false_and,Bool.false_eq_true,if_false]
  rfl
 ·cases cn:inR n 0 2000
  ·simp only [cond_true,cond_false,obind_some,Bool.and_false,Bool.false_eq_true,if_false]
   rfl
  ·have hr:=inR_iff.1 cn
   have h2:n.toNat * (160+4)≤2000 * 164:=Nat.mul_le_mul (by omega) (Nat.le_refl _)
   have e1:s_l39Out (((netC w).2.2.2.1,(netC w).2.2.2.2.1),((netC w).2.2.2.2.2.1,(netC w).2.2.2.2.2.2.1),((netC w).1,(netC w).2.2.2.2.2.2.2.1,(netC w).2.2.2.2.2.2.2.2.1),(netC w).2.1,(netC w).2.2.2.2.2.2.2.2.2.1,(netC w).2.2.2.2.2.2.2.2.2.2.1,(netC w).2.2.2.2.2.2.2.2.2.2.2.1,(netC w).2.2.2.2.2.2.2.2.2.2.2.2,(netC w).2.2.1) n=some (netR (delW n.toNat w)):=s_del (w:=w) hr.1 (by omega) (keep0 cv h hb) (by omega)
   simp only [cond_true,obind_some,e1,Bool.and_self,if_true]
   rfl

theorem wf_bytes {w:den tNw} (h:Wf tNw w):BytesW w where
 fly:=fun x hx y hy=>((h.2.2.2.2.2.1.2 x hx).2.2.2.2.2.2.2.2.2.2.2.2 y hy)
 msg:=fun f hf m hm y hy=>((((h.2.2.2.2.2.2.1.2 f hf).2.2.2.2.1.2 m hm).2 y hy))

end Go.Proofs.YtejfajiolkojlaaGreat
