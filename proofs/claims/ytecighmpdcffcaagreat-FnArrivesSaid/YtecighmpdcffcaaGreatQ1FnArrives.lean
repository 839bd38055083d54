/-
  Facts and plain laws: what the functions compute, in plain words. Conditions: as each says.
-/
import Derived.Test.YtecighmpdcffcaaGreatQ0FnArrives
open Nat renaming le_trans→bT7,le_refl→bUo,le_of_ble_eq_true→bW1,zero_le→bUt
open Int renaming eq_ofNat_of_zero_le→bUu,le_refl→bVy,toNat_natCast→bUf,lt_irrefl→bUm
open List renaming getElem?_eq_getElem→bT6,getElem_mem→bUj,mem_cons→bT9,length_cons→bU7,map_cons→bUs,mem_cons_of_mem→bUl,length_filter_le→bWv,mem_filter→bUp,length_append→bU0,length_singleton→bVo,mem_append→bUe,mem_singleton→bUd,getElem?_eq_some_iff→bUg,getElem?_set_self→bW2,getElem?_map→bWm,getElem?_append_left→bW5,getElem?_cons_zero→bXe,pairwise_iff_getElem→bWq,not_mem_nil→bUr,length→bUk,mem_of_mem_take→bVs,mem_of_mem_drop→bVr,mem_of_getElem?→bUi,take_append_drop→bVt,getElem?_set→bWd,all_eq_true→bUx,getElem?_take→bVj,length_take→bVk,length_drop→bV6,mem_or_eq_of_mem_set→bWo,append_nil→bVg,drop_eq_getElem_cons→bXa,length_map→bVa,length_nil→bWe,mem_map→bUa,map_append→bWu,length_set→bVu,getLast?_concat→bWp,dropLast_concat→bXd
open Bool renaming and_eq_true→bT8,or_eq_true→bVp,not_eq_true'→bVf,false_eq_true→bUh,not_true→bUc,or_self→bV0,not_false→bUn,or_true→bWg
open Option renaming getD_some→bU3,map_eq_some_iff→bUw
open Sum renaming inl→bT5,inr→bT4,elim_inl→bVe
open Array renaming length_toList→bWt
set_option linter.unusedVariables false
set_option linter.unusedSimpArgs false
set_option maxRecDepth 100000
namespace Go.Proofs.YtecighmpdcffcaaGreat
open Go.Ab Go.V
theorem aTh (a:Int):0<=vN .i64 a 255∧vN .i64 a 255<=255:=by
 have h:((BitVec.ofInt 64 a &&& BitVec.ofInt 64 255).toNat)<=255:=by
  rw [BitVec.toNat_and]
  exact bT7 Nat.and_le_right (by decide)
 have e:vN .i64 a 255=wr (((BitVec.ofInt 64 a &&& BitVec.ofInt 64 255).toNat:Nat):Int):=rfl
 rw [e,show wr (((BitVec.ofInt 64 a &&& BitVec.ofInt 64 255).toNat:Nat):Int)=_ from wri (by omega) (by omega)]
 omega


def Cur (code:List Int) (c:List Int×q28):Prop:=c.1=code∧0<=c.2.1∧c.2.1<=(code.length:Int)

theorem aEo {code:List Int} (hl:code.length<=1048576) {c:List Int} {p h:Int} (hc:Cur code (c,p,h)): ∃ v c' p' h',nZ (c,p,h)=some (v,c',p',h')∧(0<=v∧v<=255)∧Cur code (c',p',h'):=by
 obtain ⟨h1,h2,h3⟩:=hc
 simp only at h1 h2 h3
 subst h1
 unfold nZ pj4
 simp only [aA]
 by_cases hp:p<(c.length:Int)
 ·obtain ⟨m,rfl⟩:=bUu h2
  have hm:m<c.length:=by omega
  rw [zX hp,zZ,aF,bT6 hm]
  refine ⟨_,_,_,_,rfl,aTh _,rfl,?_,?_⟩
  ·show 0<=wr ((m:Int)+1);rw [show wr ((m:Int)+1)=(m:Int)+1 from wri (by omega) (by omega)];omega
  ·show wr ((m:Int)+1)<=_;rw [show wr ((m:Int)+1)=(m:Int)+1 from wri (by omega) (by omega)];omega
 ·rw [zW hp,zY]
  exact ⟨_,_,_,_,rfl,aTh _,rfl,h2,h3⟩

theorem aH {code:List Int} (hl:code.length<=1048576) {n:Int} (h0:0<n) (h1:n<=256) {c:List Int} {p h:Int} (hc:Cur code (c,p,h)): ∃ v c' p' h',aB (c,p,h) n=some (v,c',p',h')∧(0<=v∧v<n)∧Cur code (c',p',h'):=by
 obtain ⟨v,c',p',h',hb,hv,hc'⟩:=aEo hl hc
 refine ⟨Int.tmod v n,c',p',h',?_,⟨Int.tmod_nonneg _ hv.1,Int.tmod_lt_of_pos _ h0⟩,hc'⟩
 unfold aB pj3
 rw [zW (by omega),zY,zX h1,zZ]
 simp only [hb,aA]
 rw [show (n==0)=false by rw [beq_eq_false_iff_ne];omega,zY]

theorem aFg {code:List Int} (hl:code.length<=1048576) {n:Int} (h1:256<n) {c:List Int} {p h:Int} (hc:Cur code (c,p,h)): ∃ v c' p' h',aB (c,p,h) n=some (v,c',p',h')∧(0<=v∧v<n)∧Cur code (c',p',h'):=by
 obtain ⟨v1,c1,p1,h1',e1,r1,k1⟩:=aEo hl hc
 obtain ⟨v2,c2,p2,h2',e2,r2,k2⟩:=aEo hl k1
 obtain ⟨v3,c3,p3,h3',e3,r3,k3⟩:=aEo hl k2
 have w1:wr (v1 * 65536)=v1 * 65536:=bK (by omega) (by omega)
 have w2:wr (v2 * 256)=v2 * 256:=bK (by omega) (by omega)
 have w3:wr (v1 * 65536+v2 * 256)=v1 * 65536+v2 * 256:=bK (by omega) (by omega)
 have w4:wr (v1 * 65536+v2 * 256+v3)=v1 * 65536+v2 * 256+v3:=bK (by omega) (by omega)
 refine ⟨Int.tmod (v1 * 65536+v2 * 256+v3) n,c3,p3,h3',?_,⟨Int.tmod_nonneg _ (by omega),Int.tmod_lt_of_pos _ (by omega)⟩,k3⟩
 unfold aB pj3
 rw [zW (by omega),zY,zW (by omega),zY]
 simp only [e1,e2,e3,aA,w1,w2,w3,w4]
 rw [show (n==0)=false by rw [beq_eq_false_iff_ne];omega,zY]

theorem qD {code:List Int} (hl:code.length<=1048576) {l:List Int} (h0:0<l.length) (h1:l.length<=256) {c:List Int} {p h:Int} (hc:Cur code (c,p,h)): ∃ v c' p' h',dS (c,p,h) l=some (v,c',p',h')∧v∈l∧Cur code (c',p',h'):=by
 obtain ⟨v,c',p',h',hb,hv,hc'⟩:=aH hl (n:=(l.length:Int)) (by omega) (by omega) hc
 obtain ⟨m,rfl⟩:=bUu hv.1
 have hm:m<l.length:=by omega
 refine ⟨l[m],c',p',h',?_,bUj hm,hc'⟩
 unfold dS pj3
 simp only [hb,aA,aF,bT6 hm]

theorem mO {code:List Int} (hl:code.length<=1048576) {n:Int} (h0:0<n) (h1:n<=256) {c:List Int} {p h:Int} (hc:Cur code (c,p,h)): ∃ b c' p' h',cD (c,p,h) n=some (b,c',p',h')∧Cur code (c',p',h'):=by
 obtain ⟨v,c',p',h',hb,hv,hc'⟩:=aH hl h0 h1 hc
 refine ⟨v==0,c',p',h',?_,hc'⟩
 unfold cD pj3
 simp only [hb,aA]

theorem aXj {code:List Int} (hl:code.length<=1048576): ∃ c p h,wE code=some (c,p,h)∧Cur code (c,p,h):=by
 unfold wE
 refine fY (G:=fun o=> ∃ c p h,o=some (c,p,h)∧Cur code (c,p,h)) (fun n s=> ∃ k:Nat,s.2=(k:Int)∧k+n=code.length) (fun _=>True) ?_ code.length _ ⟨0,rfl,by omega⟩ ?_
 ·rintro n ⟨a,b⟩ ⟨k,hk,hn⟩
  simp only at hk
  subst hk
  by_cases h1:(k:Int)<(code.length:Int)
  ·by_cases h2:(k:Int)<4000
   ·right
    have hk:k<code.length:=by omega
    refine ⟨n - 1,(vN .i64 (wr ((wr ((wr (a * (137:Int)))+(wr code[k])))+(11:Int))) (1073741823:Int),((k+1:Nat):Int)),by omega,?_,k+1,rfl,by omega⟩
    simp only [zX h1,zX h2,zZ,aA,aF,bT6 hk]
    rw [show wr ((k:Int)+1)=((k+1:Nat):Int) from by rw [show wr ((k:Int)+1)=(k:Int)+1 from wri (by omega) (by omega)];omega]
   ·left
    refine ⟨a,?_,trivial⟩
    simp only [zX h1,zW h2,zZ,zY,aA]
  ·left
   refine ⟨a,?_,trivial⟩
   simp only [zW h1,zY,aA]
 ·intro r _
  exact ⟨_,_,_,rfl,rfl,bVy 0,by show (0:Int)<=_;omega⟩

def plc (id s d:Int):Nat→lUs→Int
 | _,[]=> -1
 | k,x::l=>if iV id s d x then (k:Int) else plc id s d (k+1) l

theorem aCe (l:lUs) (id s d:Int):place l id s d=plc id s d 0 l:=by
 unfold place
 have : ∀ (l:lUs) (k:Nat),(match eC (fun k x=>if iV id s d x then some (k:Int) else none) k l with
  | some i=>i
  | none=> -1)=plc id s d k l:=by
  intro l
  induction l with
  | nil=>intro k;rfl
  | cons x l ih=>
   intro k
   cases hp:iV id s d x with
   | true=>simp only [eC,plc,hp,zV]
   | false=>simp only [eC,plc,hp];exact ih (k+1)
 exact this l 0

theorem aVs {id s d:Int}: ∀ (l:lUs) (k:Nat),(plc id s d k l= -1∧ ∀ x∈l,iV id s d x=false)∨ ∃ j x,plc id s d k l=((k+j:Nat):Int)∧l[j]? =some x∧iV id s d x=true
 | [],_=> .inl ⟨rfl,fun x hx=>by cases hx⟩
 | x::l,k=>by
  unfold plc
  cases hp:iV id s d x with
  | true=>exact .inr ⟨0,x,by simp,by simp,hp⟩
  | false=>
   rcases aVs l (k+1) with ⟨h1,h2⟩ | ⟨j,y,h1,h2,h3⟩
   ·refine .inl ⟨by simpa using h1,fun y hy=> ?_⟩
    rcases bT9.1 hy with rfl | hy
    ·exact hp
    ·exact h2 y hy
   ·exact .inr ⟨j+1,y,by rw [zS (by simp),h1];congr 1;omega,by simpa using h2,h3⟩

theorem aY9 (l:lUs) (id s d:Int):(place l id s d= -1∧ ∀ x∈l,iV id s d x=false)∨ ∃ (j:Nat) (x:den tUs),place l id s d=(j:Int)∧l[j]? =some x∧iV id s d x=true:=by
 rw [aCe]
 rcases aVs (id:=id) (s:=s) (d:=d) l 0 with h | ⟨j,x,h1,h2,h3⟩
 ·exact .inl h
 ·exact .inr ⟨j,x,by rw [h1,Nat.zero_add],h2,h3⟩

theorem aX0 {id s d:Int} (z:lUs): ∀ (l:lUs) (k:Nat),plc id s d k (l++z)=if plc id s d k l<0 then plc id s d (k+l.length) z else plc id s d k l
 | [],k=>by simp [plc]
 | x::l,k=>by
  have e1:plc id s d k (x::l)=if iV id s d x then (k:Int) else plc id s d (k+1) l:=rfl
  have e2:plc id s d k (x::l++z)=if iV id s d x then (k:Int) else plc id s d (k+1) (l++z):=rfl
  by_cases hp:iV id s d x=true
  ·rw [zT hp] at e1 e2
   rw [e1,e2,zS (by omega)]
  ·rw [zS hp] at e1 e2
   rw [e1,e2,aX0 z l (k+1),show k+(x::l).length=k+1+l.length by simp only [bU7];omega]


theorem aVg {id s d:Int}: ∀ (l m:lUs) (k:Nat),l.map (fun x=>(x.1,x.2.1,x.2.2.1))=m.map (fun x=>(x.1,x.2.1,x.2.2.1))→plc id s d k l=plc id s d k m
 | [],[],_,_=>rfl
 | [],_::_,_,h=>by simp at h
 | _::_,[],_,h=>by simp at h
 | x::l,y::m,k,h=>by
  simp only [bUs,List.cons.injEq,Prod.mk.injEq] at h
  obtain ⟨⟨h1,h2,h3⟩,h4⟩:=h
  have e:iV id s d x=iV id s d y:=by unfold iV;rw [h1,h2,h3]
  simp only [plc,e,aVg l m (k+1) h4]

theorem aIx {id s d:Int} {x:den tUs}:iV id s d x=true↔x.1=id∧x.2.1=s∧x.2.2.1=d:=by unfold iV;simp


def aZi (g:den tSc) (now:Int):Prop:= ∀ (j:Nat) (x:den tUs),g.2.2[j]? =some x→place g.2.2 x.1 x.2.1 x.2.2.1=(j:Int)∧(1:Int)<=x.2.2.2∧pX g x.1 x.2.1 x.2.2.1 now>=x.2.2.2

theorem bAv (x y:den tRs):sY x y=sY y x:=by
 unfold sY atR
 rw [Bool.eq_iff_iff]
 simp only [bT8,beq_iff_eq]
 constructor<;>(rintro ⟨a,b,c⟩;exact ⟨a.symm,b.symm,c.symm⟩)


def rs (s d now:Int):lRs→Int
 | []=>0
 | x::l=>(if atR x s d&&decide (now<=x.2.2.2.2) then x.2.2.2.1 else 0)+rs s d now l

theorem aM7 {s d now:Int}: ∀ {l:lRs},(∀ x∈l,(0:Int)<=x.2.2.2.1∧(20:Int)>=x.2.2.2.1)→0<=rs s d now l∧rs s d now l<=20 * l.length
 | [],_=>by simp [rs]
 | x::l,h=>by
  have ih:=aM7 (s:=s) (d:=d) (now:=now) (l:=l) fun y hy=>h y (bUl _ hy)
  have hx:=h x (by simp)
  have e:((x::l).length:Int)=l.length+1:=by simp
  unfold rs
  rw [e]
  split<;>omega

theorem aJa {s d now:Int}: ∀ (l:lRs) (a:Int),(∀ x∈l,(0:Int)<=x.2.2.2.1∧(20:Int)>=x.2.2.2.1)→0<=a→a+20 * l.length<=1000000000000→
  l.foldl (fun a x=>if atR x s d&&decide (now<=x.2.2.2.2) then wr (a+x.2.2.2.1) else a) a=a+rs s d now l
 | [],a,_,_,_=>by simp [rs]
 | x::l,a,h,h0,hb=>by
  have hx:=h x (by simp)
  simp only [bU7,Int.natCast_add,Int.natCast_one] at hb
  simp only [List.foldl_cons,rs]
  split
  ·rw [show wr (a+x.2.2.2.1)=a+x.2.2.2.1 from wri (by omega) (by omega),aJa l _ (fun y hy=>h y (bUl _ hy)) (by omega) (by omega)];omega
  ·rw [aJa l a (fun y hy=>h y (bUl _ hy)) h0 (by omega)];omega

theorem aYr {s d now:Int} {l:lRs} (h: ∀ x∈l,(0:Int)<=x.2.2.2.1∧(20:Int)>=x.2.2.2.1) (hl:l.length<=1000000):rate l s d now=rs s d now l:=by
 unfold rate
 rw [aJa l 0 h (by omega) (by omega)];omega

theorem bGh {s d now:Int} (m:lRs): ∀ l:lRs,rs s d now (l++m)=rs s d now l+rs s d now m
 | []=>by simp [rs]
 | x::l=>by simp only [List.cons_append,rs,bGh m l];omega

theorem aQ8 {s d now:Int} (p:den tRs→Bool): ∀ {l:lRs},(∀ x∈l,(0:Int)<=x.2.2.2.1∧(20:Int)>=x.2.2.2.1)→rs s d now (l.filter p)<=rs s d now l
 | [],_=>by simp [rs]
 | x::l,h=>by
  have ih:=aQ8 (s:=s) (d:=d) (now:=now) p (l:=l) fun y hy=>h y (bUl _ hy)
  have hx:=h x (by simp)
  rw [List.filter_cons]
  split
  ·simp only [rs];omega
  ·simp only [rs];split<;>omega


structure qH (l:lRs) (cap now:Int):Prop where
 len:l.length<=40
 val: ∀ x∈l,aCj x=true
 rate: ∀ x∈l,rs x.2.1 x.2.2.1 now l<=cap
 pw:l.Pairwise fun x y=>sY x y=false

theorem aK6 {x:den tRs} (h:aCj x=true):(1:Int)<=x.1∧(1:Int)<=x.2.2.2.1∧(20:Int)>=x.2.2.2.1:=by
 unfold aCj inR at h
 simp only [bT8,zR] at h
 exact ⟨h.1.1,h.2.1.1,h.2.1.2⟩

theorem wW {l:lRs} (h: ∀ x∈l,aCj x=true): ∀ x∈l,(0:Int)<=x.2.2.2.1∧(20:Int)>=x.2.2.2.1:=fun x hx=>by
 have :=aK6 (h x hx);omega

theorem qH.filter {l:lRs} {cap now:Int} (h:qH l cap now) (p:den tRs→Bool):qH (l.filter p) cap now:=
 ⟨bT7 (bWv ..) h.len,fun x hx=>h.val x (bUp.1 hx).1,fun x hx=>Int.le_trans (aQ8 p (wW h.val)) (h.rate x (bUp.1 hx).1),h.pw.filter _⟩


def admR (l:lRs) (x:den tRs) (cap now:Int):lRs:=
 if !aCj x||decide (x.2.2.2.2<now)||decide (wr (rate (l.filter fun y=> !sY x y) x.2.1 x.2.2.1 now+x.2.2.2.1)>cap)||decide (((l.filter fun y=> !sY x y).length:Int)>=40) then l else (l.filter fun y=> !sY x y)++[x]

theorem qH.admR {l:lRs} {cap now:Int} (h:qH l cap now) (x:den tRs):qH (admR l x cap now) cap now:=by
 unfold Go.Proofs.YtecighmpdcffcaaGreat.admR
 split
 ·exact h
 ·rename_i hc
  simp only [bVp,bVf,zR,not_or,Bool.not_eq_false] at hc
  obtain ⟨⟨⟨c1,c2⟩,c3⟩,c4⟩:=hc
  have hf:=h.filter fun y=> !sY x y
  have hx:=aK6 c1
  have hr:qH (l.filter fun y=> !sY x y) cap now:=hf
  rw [aYr (wW hf.val) (by have :=hf.len;omega)] at c3
  have hb:=aM7 (s:=x.2.1) (d:=x.2.2.1) (now:=now) (wW hf.val)
  have hl:=hf.len
  rw [show wr (rs x.2.1 x.2.2.1 now (l.filter fun y=> !sY x y)+x.2.2.2.1)=rs x.2.1 x.2.2.1 now (l.filter fun y=> !sY x y)+x.2.2.2.1 from wri (by omega) (by omega)] at c3
  refine ⟨by simp only [bU0,bVo];omega,?_,?_,?_⟩
  ·intro y hy
   rcases bUe.1 hy with hy | hy
   ·exact hf.val y hy
   ·rw [bUd.1 hy];exact c1
  ·intro y hy
   rw [bGh]
   simp only [rs]
   rcases bUe.1 hy with hy | hy
   ·have h1:=hf.rate y hy
    cases ha:atR x y.2.1 y.2.2.1 with
    | false=>simp only [Bool.false_and,bUh,zU];omega
    | true=>
     have ha':=ha
     unfold atR at ha'
     simp only [bT8,beq_iff_eq] at ha'
     rw [← ha'.1,← ha'.2]
     split<;>omega
   ·rw [bUd.1 hy];split<;>omega
  ·rw [List.pairwise_append]
   refine ⟨hf.pw,List.pairwise_singleton _ _,fun y hy z hz=> ?_⟩
   rw [bUd.1 hz,bAv]
   have :=(bUp.1 hy).2
   simpa using this

theorem bEd {l:lUs} {id s d:Int} (z:lUs):place (l++z) id s d=if place l id s d<0 then plc id s d l.length z else place l id s d:=by
 rw [aCe,aCe,aX0,Nat.zero_add]

theorem bBi {l m:lUs} {id s d:Int} (h:l.map (fun x=>(x.1,x.2.1,x.2.2.1))=m.map (fun x=>(x.1,x.2.1,x.2.2.1))):place l id s d=place m id s d:=by
 rw [aCe,aCe,aVg l m 0 h]

theorem aZo (l:lUs) (id s d:Int):(place l id s d= -1∧(∀ x∈l,iV id s d x=false)∧sJ l id s d=0∧uS l id s d=l++[(id,s,d,1)])∨
  ∃ (j:Nat) (x:den tUs),place l id s d=(j:Int)∧l[j]? =some x∧iV id s d x=true∧sJ l id s d=x.2.2.2∧uS l id s d=l.set j (x.1,x.2.1,x.2.2.1,wr (x.2.2.2+1)):=by
 rcases aY9 l id s d with ⟨h1,h2⟩ | ⟨j,x,h1,h2,h3⟩
 ·refine .inl ⟨h1,h2,?_,?_⟩
  ·unfold sJ;rw [h1,zT (by decide)]
  ·unfold uS;rw [h1,zT (by decide)]
 ·refine .inr ⟨j,x,h1,h2,h3,?_,?_⟩
  ·unfold sJ;rw [h1,zS (by omega),bUf,h2];rfl
  ·unfold uS;rw [h1,zS (by omega),bUf];simp only [h2]

theorem bHu {l:lUs} {j:Nat} {x:den tUs} (h:l[j]? =some x) (c:Int):(l.set j (x.1,x.2.1,x.2.2.1,c)).map (fun x=>(x.1,x.2.1,x.2.2.1))=l.map (fun x=>(x.1,x.2.1,x.2.2.1)):=by
 rw [List.map_set]
 apply List.ext_getElem?
 intro i
 by_cases hij:j=i
 ·subst hij
  obtain ⟨hlt,rfl⟩:=bUg.1 h
  rw [bW2 (by simpa using hlt),bWm,bT6 hlt];rfl
 ·rw [List.getElem?_set_ne hij]

theorem aZi.more {g:den tSc} {now id s d:Int} (h:aZi g now) (hu:sJ g.2.2 id s d<pX g id s d now) (hb:pX g id s d now<=1000000):aZi (g.1,g.2.1,uS g.2.2 id s d) now:=by
 have hr: ∀ i s d,pX (g.1,g.2.1,uS g.2.2 id s d) i s d now=pX g i s d now:=fun _ _ _=>rfl
 intro j x hx
 have hx:(uS g.2.2 id s d)[j]? =some x:=hx
 show place (uS g.2.2 id s d) x.1 x.2.1 x.2.2.1=(j:Int)∧(1:Int)<=x.2.2.2∧pX g x.1 x.2.1 x.2.2.1 now>=x.2.2.2
 rcases aZo g.2.2 id s d with ⟨h1,h2,h3,h4⟩ | ⟨i,y,h1,h2,h3,h4,h5⟩
 ·rw [h4] at hx ⊢
  rw [bEd]
  by_cases hj:j<g.2.2.length
  ·rw [bW5 hj] at hx
   obtain ⟨a,b,c⟩:=h j x hx
   rw [a,zS (by omega)]
   exact ⟨rfl,b,c⟩
  ·rw [List.getElem?_append_right (by omega)] at hx
   have hj0:j - g.2.2.length=0:=by
    cases hk:j - g.2.2.length with
    | zero=>rfl
    | succ k=>rw [hk] at hx;simp at hx
   rw [hj0] at hx
   simp only [bXe,Option.some.injEq] at hx
   subst hx
   have hj':j=g.2.2.length:=by omega
   simp only
   rw [h1,zT (by decide),hj']
   refine ⟨?_,bVy 1,?_⟩
   ·unfold plc
    rw [zT (show iV id s d (id,s,d,1)=true from aIx.2 ⟨rfl,rfl,rfl⟩)]
   ·rw [h3] at hu;omega
 ·rw [h5] at hx ⊢
  rw [bBi (bHu h2 _)]
  by_cases hij:i=j
  ·subst hij
   rw [bW2 (bUg.1 h2).1] at hx
   simp only [Option.some.injEq] at hx
   subst hx
   obtain ⟨a,b,c⟩:=h i y h2
   obtain ⟨k1,k2,k3⟩:=aIx.1 h3
   simp only
   rw [k1,k2,k3] at a c ⊢
   rw [h4] at hu
   have hw:wr (y.2.2.2+1)=y.2.2.2+1:=wri (by omega) (by omega)
   rw [hw]
   exact ⟨a,by omega,by omega⟩
  ·rw [List.getElem?_set_ne hij] at hx
   exact h j x hx

def rr (id s d now:Int):lRs→Int
 | []=>0
 | x::l=>if x.1==id&&(atR x s d&&decide (now<=x.2.2.2.2)) then x.2.2.2.1 else rr id s d now l

theorem bBa (l:lRs) (id s d now:Int):xZ l id s d now=rr id s d now l:=by
 unfold xZ
 have : ∀ (l:lRs) (k:Nat),(match eC (fun _ (x:den tRs)=>if x.1==id&&(atR x s d&&decide (now<=x.2.2.2.2)) then some x.2.2.2.1 else none) k l with
  | some r=>r
  | none=>0)=rr id s d now l:=by
  intro l
  induction l with
  | nil=>intro k;rfl
  | cons x l ih=>
   intro k
   cases hp:(x.1==id&&(atR x s d&&decide (now<=x.2.2.2.2))) with
   | true=>simp only [eC,rr,hp,zV]
   | false=>simp only [eC,rr,hp];exact ih (k+1)
 exact this l 0

theorem bEq {id s d now:Int}: ∀ {l:lRs},(∀ x∈l,(0:Int)<=x.2.2.2.1∧(20:Int)>=x.2.2.2.1)→0<=rr id s d now l∧rr id s d now l<=20
 | [],_=>by simp [rr]
 | x::l,h=>by
  have ih:=bEq (id:=id) (s:=s) (d:=d) (now:=now) (l:=l) fun y hy=>h y (bUl _ hy)
  have hx:=h x (by simp)
  unfold rr
  split<;>omega

theorem bL7 {s d now:Int}: ∀ {l:lRs},rs s d now l=0∨ ∃ x∈l,x.2.1=s∧x.2.2.1=d
 | []=> .inl rfl
 | x::l=>by
  by_cases ha:atR x s d=true
  ·unfold atR at ha
   simp only [bT8,beq_iff_eq] at ha
   exact .inr ⟨x,by simp,ha⟩
  ·rcases bL7 (s:=s) (d:=d) (now:=now) (l:=l) with h | ⟨y,hy,h⟩
   ·left
    unfold rs
    rw [h];simp [ha]
   ·exact .inr ⟨y,bUl _ hy,h⟩

theorem qH.rs_le {l:lRs} {cap now:Int} (h:qH l cap now) (hc:0<=cap) (s d:Int):rs s d now l<=cap:=by
 rcases bL7 (s:=s) (d:=d) (now:=now) (l:=l) with h0 | ⟨x,hx,h1,h2⟩
 ·omega
 ·have :=h.rate x hx;rw [h1,h2] at this;exact this

theorem bN3 {l:lRs} {cap now:Int} (h:qH l cap now) (hc:1<=cap∧cap<=20) (s d:Int):free l cap s d now=cap - rs s d now l:=by
 have h1:=h.rs_le (by omega) s d
 have h2:=aM7 (s:=s) (d:=d) (now:=now) (wW h.val)
 unfold free
 rw [aYr (wW h.val) (by have :=h.len;omega),show wr (cap - rs s d now l)=cap - rs s d now l from wri (by omega) (by omega)]
 split<;>omega


structure OkS (g:den tSc) (now:Int):Prop where
 lo:(1:Int)<=g.1
 hi:(20:Int)>=g.1
 res:qH g.2.1 g.1 now
 use:aZi g now

theorem OkS.rate_le {g:den tSc} {now:Int} (h:OkS g now) (id s d:Int):0<=pX g id s d now∧pX g id s d now<=20:=by
 unfold pX
 split
 ·rw [bN3 h.res ⟨h.lo,h.hi⟩]
  have h1:=h.res.rs_le (by have :=h.lo;omega) s d
  have h2:=aM7 (s:=s) (d:=d) (now:=now) (wW h.res.val)
  have :=h.hi
  omega
 ·rw [bBa];exact bEq (wW h.res.val)


abbrev bSx (p:Int×Bool×lRs×lUs):den tSc:=(p.1,p.2.2.1,p.2.2.2)

theorem OkS.trans {g:den tSc} {now:Int} (h:OkS g now) (id s d:Int):OkS (bSx (jJ g id s d now)) now:=by
 unfold jJ
 split
 ·rename_i hu
  exact ⟨h.lo,h.hi,h.res,h.use.more hu (by have :=h.rate_le id s d;omega)⟩
 ·split
  ·rename_i hu
   exact ⟨h.lo,h.hi,h.res,h.use.more hu (by have :=h.rate_le 0 s d;omega)⟩
  ·exact h

theorem bCp (g:den tSc) (id s d now:Int):(jJ g id s d now).2.2.1=g.2.1∧(jJ g id s d now).1=g.1∧(jJ g id s d now).2.2.2.length<=g.2.2.length+1:=by
 unfold jJ
 split
 ·exact ⟨rfl,rfl,aE3 ..⟩
 ·split
  ·exact ⟨rfl,rfl,aE3 ..⟩
  ·exact ⟨rfl,rfl,by simp⟩

theorem OkS.pw {g:den tSc} {now:Int} (h:OkS g now):g.2.2.Pairwise fun x y=>iV x.1 x.2.1 x.2.2.1 y=false:=by
 rw [bWq]
 intro i j hi hj hij
 cases hs:iV g.2.2[i].1 g.2.2[i].2.1 g.2.2[i].2.2.1 g.2.2[j] with
 | false=>rfl
 | true=>
  obtain ⟨k1,k2,k3⟩:=aIx.1 hs
  have a:=(h.use i _ (bT6 hi)).1
  have b:=(h.use j _ (bT6 hj)).1
  rw [k1,k2,k3,a] at b
  omega

theorem aYq {l:lRs} {x:den tRs} {cap now:Int} (h:l.length<=1000000): ∃ b,wD l x cap now=some (b,admR l x cap now):=by
 have hf:(l.filter fun y=> !sY x y).length<=1000000:=bT7 (bWv ..) h
 unfold wD admR pj5 zz4
 rw [show ((x.1,x.2.1,x.2.2.1,x.2.2.2.1,x.2.2.2.2):den tRs)=x from rfl,bGp (by omega),aA,bHo,aA,bEm (by omega),aA]
 rw [aE (b:=40) (by decide) (by simp;omega),aE (b:=40) (by decide) (by omega)]
 cases c1:aCj x
 ·exact ⟨false,by simp⟩
 ·cases c2:decide (x.2.2.2.2<now)
  ·cases c3:decide (wr (rate (l.filter fun y=> !sY x y) x.2.1 x.2.2.1 now+x.2.2.2.1)>cap)
   ·cases c4:decide (((l.filter fun y=> !sY x y).length:Int)>=40)
    ·exact ⟨true,by simp only [bUc,zY,zZ,aA,bV0,bUh,zU]⟩
    ·exact ⟨false,by simp [aA]⟩
   ·exact ⟨false,by simp [aA]⟩
  ·exact ⟨false,by simp [aA]⟩

theorem aRa {code:List Int} (hl:code.length<=1048576) {c:List Int} {p h:Int} (hc:Cur code (c,p,h)): ∃ a b d r u c' p' h',oB (c,p,h)=some (a,b,d,r,u,c',p',h')∧Cur code (c',p',h'):=by
 obtain ⟨v1,c1,p1,h1,e1,_,k1⟩:=aH hl (n:=5) (by decide) (by decide) hc
 obtain ⟨v2,c2,p2,h2,e2,_,k2⟩:=aH hl (n:=4) (by decide) (by decide) k1
 obtain ⟨v3,c3,p3,h3,e3,_,k3⟩:=aH hl (n:=3) (by decide) (by decide) k2
 obtain ⟨v4,c4,p4,h4,e4,_,k4⟩:=aH hl (n:=4) (by decide) (by decide) k3
 obtain ⟨v5,c5,p5,h5,e5,_,k5⟩:=aH hl (n:=30) (by decide) (by decide) k4
 refine ⟨wr (1+v1),v2,wr (1+v3),wr (1+v4),wr (40+v5),c5,p5,h5,?_,k5⟩
 unfold oB pj3
 simp only [e1,e2,e3,e4,e5,aA]

theorem bJv {v:Int} (h:v∈[(8:Int),8,4,12]):fC v=some (v,[],[]):=by
 unfold fC
 rw [gQ,aA]
 simp only [bT9,bUr,or_false] at h
 rcases h with rfl | rfl | rfl | rfl<;>rfl

theorem aWv {v:Int} (h:v∈[(8:Int),8,4,12]):1<=v∧v<=20:=by
 simp only [bT9,bUr,or_false] at h
 rcases h with rfl | rfl | rfl | rfl<;>decide

theorem bIh (cap now:Int):qH [] cap now:=⟨by simp,fun x hx=>(bUr hx).elim,fun x hx=>(bUr hx).elim,List.Pairwise.nil⟩

def bCd (code:List Int) (o:Option (Int×lRs×lUs×List Int×q28)):Prop:= ∃ cap l us c' p' h',o=some (cap,l,us,c',p',h')∧OkS (cap,l,us) 45∧us.length<=12∧Cur code (c',p',h')

theorem bHb {code:List Int} (hl:code.length<=1048576) {c:List Int} {p h:Int} (hc:Cur code (c,p,h)):bCd code (vK (c,p,h)):=by
 obtain ⟨cap,c1,p1,h1,e1,hcap,k1⟩:=qD hl (l:=[(8:Int),8,4,12]) (by decide) (by decide) hc
 obtain ⟨v2,c2,p2,h2,e2,hv2,k2⟩:=aH hl (n:=6) (by decide) (by decide) k1
 unfold vK dd one pj3 pj4 pj5 pj6 zz4 zz5
 simp only [e1,aA,bJv hcap,e2,aP,bD,aW,aV,aX]
 obtain ⟨n2,rfl⟩:=bUu hv2.1
 refine fY (G:=bCd code) (fun (n:Nat) (s:Int×Int×lRs×List Int×q28)=>s.1=(n:Int)∧n<=12∧s.2.1=cap∧qH s.2.2.1 cap 45∧Cur code s.2.2.2) (fun (r:Int×lRs×List Int×q28)=>r.1=cap∧qH r.2.1 cap 45∧Cur code r.2.2) ?_ n2 _ ⟨rfl,by omega,rfl,bIh ..,k2⟩ ?_
 ·rintro n ⟨i,cap',l,c3,p3,h3⟩ ⟨i1,i2,i3,i4,i5⟩
  simp only at i1 i2 i3 i4 i5
  subst i1 i3
  cases n with
  | zero=>exact .inl ⟨_,rfl,rfl,i4,i5⟩
  | succ n=>
   right
   obtain ⟨a,b,d,r,u,c4,p4,h4,e4,k4⟩:=aRa hl i5
   obtain ⟨bb,ea⟩:=aYq (l:=l) (x:=(a,b,d,r,u)) (cap:=cap') (now:=45) (by have :=i4.len;omega)
   refine ⟨n,((n:Int),cap',admR l (a,b,d,r,u) cap' 45,c4,p4,h4),by omega,?_,rfl,by omega,rfl,i4.admR _,k4⟩
   simp only [zX (show ((n+1:Nat):Int)>0 by omega),zZ,e4,aA,ea]
   rw [show wr (((n+1:Nat):Int) - 1)=(n:Int) from by rw [show wr (((n+1:Nat):Int) - 1)=((n+1:Nat):Int) - 1 from wri (by omega) (by omega)];omega]
 ·rintro ⟨cap',l,c3,p3,h3⟩ ⟨i1,i2,i3⟩
  simp only at i1 i2 i3
  subst i1
  obtain ⟨v5,c5,p5,h5,e5,hv5,k5⟩:=aH hl (n:=12) (by decide) (by decide) i3
  simp only [e5,aA]
  obtain ⟨n5,rfl⟩:=bUu hv5.1
  refine fY (G:=bCd code) (fun (n:Nat) (s:Int×Int×lRs×lUs×List Int×q28)=>s.1=(n:Int)∧OkS (s.2.1,s.2.2.1,s.2.2.2.1) 45∧s.2.2.2.1.length+n<=12∧Cur code s.2.2.2.2) (fun (r:Int×lRs×lUs×List Int×q28)=>OkS (r.1,r.2.1,r.2.2.1) 45∧r.2.2.1.length<=12∧Cur code r.2.2.2) ?_ n5 _ ⟨rfl,⟨(aWv hcap).1,(aWv hcap).2,i2,fun j x hj=>by simp at hj⟩,by simp;omega,k5⟩ ?_
  ·rintro n ⟨i,cap',l,us,c6,p6,h6⟩ ⟨i1,i2,i3,i4⟩
   simp only at i1 i2 i3 i4
   subst i1
   cases n with
   | zero=>exact .inl ⟨_,rfl,i2,by simpa using i3,i4⟩
   | succ n=>
    right
    obtain ⟨v7,c7,p7,h7,e7,hv7,k7⟩:=aH hl (n:=5) (by decide) (by decide) i4
    obtain ⟨v8,c8,p8,h8,e8,hv8,k8⟩:=aH hl (n:=3) (by decide) (by decide) k7
    obtain ⟨v9,c9,p9,h9,e9,hv9,k9⟩:=aH hl (n:=2) (by decide) (by decide) k8
    have et:=aP1 (g:=(cap',l,us)) (id:=v7) (s:=v8) (d:=wr (1+v9)) (now:=45) (by have :=i2.res.len;simp only at this;show l.length<=_;omega) (by show us.length<=_;omega)
    have hk:=i2.trans v7 v8 (wr (1+v9))
    obtain ⟨g1,g2,g3⟩:=bCp (cap',l,us) v7 v8 (wr (1+v9)) 45
    refine ⟨n,((n:Int),(jJ (cap',l,us) v7 v8 (wr (1+v9)) 45).1,(jJ (cap',l,us) v7 v8 (wr (1+v9)) 45).2.2.1,(jJ (cap',l,us) v7 v8 (wr (1+v9)) 45).2.2.2,c9,p9,h9),by omega,?_,rfl,hk,by simp only at g3 ⊢;omega,k9⟩
    simp only [zX (show ((n+1:Nat):Int)>0 by omega),zZ,e7,e8,e9,aA,et]
    rw [show wr (((n+1:Nat):Int) - 1)=(n:Int) from by rw [show wr (((n+1:Nat):Int) - 1)=((n+1:Nat):Int) - 1 from wri (by omega) (by omega)];omega]
  ·rintro ⟨cap',l,us,c6,p6,h6⟩ ⟨i1,i2,i3⟩
   exact ⟨_,_,_,_,_,_,rfl,i1,i2,i3⟩

theorem bHz {code:List Int} (hl:code.length<=1048576) {c:List Int} {p h:Int} (hc:Cur code (c,p,h)): ∃ a b d r u c' p' h',wZ (c,p,h)=some (a,b,d,r,u,c',p',h')∧Cur code (c',p',h'):=by
 obtain ⟨a,b,d,r,u,c1,p1,h1,e1,k1⟩:=aRa hl hc
 obtain ⟨v,c2,p2,h2,e2,_,k2⟩:=aH hl (n:=12) (by decide) (by decide) k1
 unfold wZ pj3 pj8 zz4 zz5
 simp only [e1,e2,aA]
 cases d0:(v==(0:Int)) with
 | true=>
  obtain ⟨w,c3,p3,h3,e3,_,k3⟩:=qD hl (l:=[(0:Int),(100000:Int),(100001:Int)]) (by decide) (by decide) k2
  exact ⟨w,b,d,r,u,c3,p3,h3,by simp only [zZ,e3,aA],k3⟩
 | false=>
  cases d1:(v==(1:Int)) with
  | true=>
   obtain ⟨w,c3,p3,h3,e3,_,k3⟩:=qD hl (l:=[(0:Int),(20:Int),(21:Int),(-1:Int)]) (by decide) (by decide) k2
   exact ⟨a,b,d,w,u,c3,p3,h3,by simp only [zZ,zY,e3,aA],k3⟩
  | false=>
   cases d2:(v==(2:Int)) with
   | true=>
    obtain ⟨w,c3,p3,h3,e3,_,k3⟩:=qD hl (l:=[(0:Int),(7:Int)]) (by decide) (by decide) k2
    exact ⟨a,b,w,r,u,c3,p3,h3,by simp only [zZ,zY,e3,aA],k3⟩
   | false=>exact ⟨a,b,d,r,u,c2,p2,h2,by simp only [zY,aA],k2⟩

theorem bBt {a b:lRs} (h:a.length<=1073741824): ∃ v,pB a b=some v∧(a=b→v=true):=by
 unfold pB zz4
 by_cases hn:a.length=b.length
 ·rw [hn,bne_self_eq_false,zY,← hn]
  refine fY (G:=fun o=> ∃ v,o=some v∧(a=b→v=true)) (fun (n:Nat) (s:Int)=> ∃ k:Nat,s=(k:Int)∧k+n=a.length) (fun (r:Unit⊕Bool)=>a=b→r= .inl ()) ?_ a.length _ ⟨0,rfl,by omega⟩ ?_
  ·rintro n _ ⟨k,rfl,hk⟩
   cases n with
   | zero=>exact .inl ⟨.inl (),by simp only [zW (show ¬ (k:Int)<(a.length:Int) by omega),zY],fun _=>rfl⟩
   | succ n=>
    have h1:k<a.length:=by omega
    have h2:k<b.length:=by omega
    simp only [zX (show (k:Int)<(a.length:Int) by omega),zZ,aF,bT6 h1,bT6 h2,aA]
    cases hc:((a[k].1==b[k].1)&&((a[k].2.1==b[k].2.1)&&((a[k].2.2.1==b[k].2.2.1)&&((a[k].2.2.2.1==b[k].2.2.2.1)&&((a[k].2.2.2.2==b[k].2.2.2.2)&&true))))) with
    | true=>
     refine .inr ⟨n,((k+1:Nat):Int),by omega,?_,k+1,rfl,by omega⟩
     simp only [bUc,zY]
     rw [show wr ((k:Int)+1)=((k+1:Nat):Int) from by rw [show wr ((k:Int)+1)=(k:Int)+1 from wri (by omega) (by omega)];omega]
    | false=>
     refine .inl ⟨.inr false,by simp only [bUn,zZ],fun e=> ?_⟩
     subst e
     simp at hc
  ·intro r hr
   cases r with
   | inl u=>exact ⟨true,rfl,fun _=>rfl⟩
   | inr v=>exact ⟨v,rfl,fun e=>by cases hr e⟩
 ·rw [show ((a.length:Int) != (b.length:Int))=true by rw [bne_iff_ne];omega,zZ]
  exact ⟨false,rfl,fun e=>absurd (congrArg bUk e) hn⟩

theorem bJy {a b:den tSc} (h1:a.2.1.length<=1073741824) (h2:a.2.2.length<=1073741824): ∃ v,jZ a b=some v∧(a=b→v=true):=by
 obtain ⟨v1,e1,k1⟩:=bBt (b:=b.2.1) h1
 unfold jZ
 rw [e1,aA]
 cases hc:(a.1 != b.1) with
 | true=>exact ⟨false,rfl,fun e=>by subst e;simp at hc⟩
 | false=>
  cases v1 with
  | false=>exact ⟨false,rfl,fun e=>by subst e;cases k1 rfl⟩
  | true=>
   by_cases hn:a.2.2.length=b.2.2.length
   ·simp only [zY,bUc,hn,bne_self_eq_false,aA]
    rw [← hn]
    refine fY (G:=fun o=> ∃ v,o=some v∧(a=b→v=true)) (fun (n:Nat) (s:Int)=> ∃ k:Nat,s=(k:Int)∧k+n=a.2.2.length) (fun (r:Unit⊕Bool)=>a=b→r= .inl ()) ?_ a.2.2.length _ ⟨0,rfl,by omega⟩ ?_
    ·rintro n _ ⟨k,rfl,hk⟩
     cases n with
     | zero=>exact .inl ⟨.inl (),by simp only [zW (show ¬ (k:Int)<(a.2.2.length:Int) by omega),zY],fun _=>rfl⟩
     | succ n=>
      have h3:k<a.2.2.length:=by omega
      have h4:k<b.2.2.length:=by omega
      simp only [zX (show (k:Int)<(a.2.2.length:Int) by omega),zZ,aF,bT6 h3,bT6 h4,aA]
      cases hc:((a.2.2[k].1==b.2.2[k].1)&&((a.2.2[k].2.1==b.2.2[k].2.1)&&((a.2.2[k].2.2.1==b.2.2[k].2.2.1)&&((a.2.2[k].2.2.2==b.2.2[k].2.2.2)&&true)))) with
      | true=>
       refine .inr ⟨n,((k+1:Nat):Int),by omega,?_,k+1,rfl,by omega⟩
       simp only [bUc,zY]
       rw [show wr ((k:Int)+1)=((k+1:Nat):Int) from by rw [show wr ((k:Int)+1)=(k:Int)+1 from wri (by omega) (by omega)];omega]
      | false=>
       refine .inl ⟨.inr false,by simp only [bUn,zZ],fun e=> ?_⟩
       subst e
       simp at hc
    ·intro r hr
     cases r with
     | inl u=>exact ⟨true,rfl,fun _=>rfl⟩
     | inr v=>exact ⟨v,rfl,fun e=>by cases hr e⟩
   ·simp only [zY,bUc,aA]
    rw [show ((a.2.2.length:Int) != (b.2.2.length:Int))=true by rw [bne_iff_ne];omega,zZ]
    exact ⟨false,rfl,fun e=>absurd (by rw [e]) hn⟩

theorem aRv {a:den tSc} (h1:a.2.1.length<=1073741824) (h2:a.2.2.length<=1073741824):jZ a a=some true:=by
 obtain ⟨v,e,k⟩:=bJy (b:=a) h1 h2
 rw [e,k rfl]

theorem aEj {l:List Int} {n x:Int} (h:x∈qQ l n):x=n∨x∈l:=by
 unfold qQ at h
 split at h
 ·exact .inr h
 ·simp only [bUe,bUd] at h
  rcases h with (h | h) | h
  ·exact .inr (bVs h)
  ·exact .inl h
  ·exact .inr (bVr h)

theorem bD8 {r d:Int} {x:den tLk} {a:List Int} (h:d∈mQ r x a):dV x r d=true∨d∈a:=by
 unfold mQ at h
 unfold dV
 cases c1:x.1==r<;>cases c2:x.2.2.1==r<;>rw [c1,c2] at h<;>simp only [zZ,zY] at h
 ·exact .inr h
 ·rcases aEj h with e | h
  ·left;simp [e]
  ·exact .inr h
 ·rcases aEj h with e | h
  ·left;simp [e]
  ·exact .inr h
 ·rcases aEj h with e | h
  ·left;simp [e]
  ·rcases aEj h with e | h
   ·left;simp [e]
   ·exact .inr h

theorem bDb {t:den tTo} {r d:Int} (h:d∈fR t r): ∃ x∈t.2,dV x r d=true:=by
 have : ∀ (l:lLk) (k:Nat) (a:List Int),d∈cM (fun _ x a=>mQ r x a) k l a→(∃ x∈l,dV x r d=true)∨d∈a:=by
  intro l
  induction l with
  | nil=>intro k a h;exact .inr h
  | cons x l ih=>
   intro k a h
   rcases ih (k+1) (mQ r x a) h with ⟨y,hy,e⟩ | h
   ·exact .inl ⟨y,bUl _ hy,e⟩
   ·rcases bD8 h with e | h
    ·exact .inl ⟨x,by simp,e⟩
    ·exact .inr h
 rcases this t.2 0 [] h with h | h
 ·exact h
 ·cases h

theorem aUn {t:den tTo} {r d:Int} (h: ∃ x∈t.2,dV x r d=true): ∃ (j:Nat) (x:den tLk),nU t r d=(j:Int)∧t.2[j]? =some x∧dV x r d=true:=by
 rcases aCq t r d with e | h
 ·exfalso
  have : ∀ (l:lLk) (k:Nat),(∃ x∈l,dV x r d=true)→ ∃ i,eC (fun k x=>if dV x r d then some ((k:Nat):Int) else none) k l=some i∧0<=i:=by
   intro l
   induction l with
   | nil=>rintro k ⟨x,hx,_⟩;cases hx
   | cons y l ih=>
    rintro k ⟨x,hx,hxe⟩
    cases c:dV y r d with
    | true=>exact ⟨(k:Int),by simp [eC,c],by omega⟩
    | false=>
     rcases bT9.1 hx with rfl | hx
     ·rw [c] at hxe;cases hxe
     ·obtain ⟨i,h1,h2⟩:=ih (k+1) ⟨x,hx,hxe⟩
      exact ⟨i,by simp only [eC,c];exact h1,h2⟩
  obtain ⟨i,h1,h2⟩:=this t.2 0 h
  unfold nU at e
  rw [h1] at e
  have e:i= -1:=e
  omega
 ·exact h


theorem bEi {t:den tTo} (hv: ∀ x∈t.2,aAx t x=true) {r d:Int} (h:d∈fR t r):eB t (remote t r d).1=true:=by
 obtain ⟨j,x,e,hx,he⟩:=aUn (bDb h)
 have hl:=hv x (bUi hx)
 unfold remote
 rw [e,zS (by omega),bUf,hx]
 unfold aAx at hl
 simp only [bT8] at hl
 unfold aZ8
 simp only [bU3]
 cases x.1==r&&x.2.1==d with
 | true=>exact hl.2.1
 | false=>exact hl.1

theorem bFm {t:den tTo} {r k:Int} (h:t.2.length<=1000000): ∃ l,iA t r k=some l∧l.length<=2 * t.2.length∧ ∀ d∈l,d∈fR t r:=by
 have hd:=aCh t r
 unfold iA ixb pj2
 rw [show ((t.1,t.2):den tTo)=t from rfl,aKt (t:=t) (by omega),aA]
 refine bV (G:=fun o=> ∃ l,o=some l∧l.length<=2 * t.2.length∧ ∀ d∈l,d∈fR t r) (fR t r).length (fun s:Int×List Int=>s.1) (fun i s=>s.2.length<=i∧ ∀ d∈s.2,d∈fR t r) (fun l:List Int=>l.length<=2 * t.2.length∧ ∀ d∈l,d∈fR t r) ?_ ?_ 0 ((0:Int),[]) (by omega) rfl ⟨by simp,fun d hd=>(bUr hd).elim⟩ (fun l hl=>⟨l,rfl,hl⟩)
 ·rintro i ⟨_,l⟩ hi rfl ⟨h1,h2⟩
  right
  simp only at h1 h2
  simp only [zX (show (i:Int)<((fR t r).length:Int) by omega),zX (show (0:Int)<=(i:Int) by omega),zZ,bUf,bT6 hi,aA,aPk (t:=t) (show t.2.length<=68719476736 by omega),bE (show i<=1000000000 by omega)]
  rw [aE (b:=8) (n:=l.length) (m:=1) (by decide) (by omega),zZ]
  cases zG t r (fR t r)[i]==k with
  | true=>exact ⟨_,rfl,rfl,by simp;omega,fun d hd=>by
    rcases bUe.1 hd with hd | hd
    ·exact h2 d hd
    ·rw [bUd.1 hd];exact bUj hi⟩
  | false=>exact ⟨_,rfl,rfl,by show l.length<=i+1;omega,h2⟩
 ·rintro ⟨_,l⟩ rfl ⟨h1,h2⟩
  exact ⟨l,by simp only [zW (bUm _),zY],by simp only at h1;omega,h2⟩

theorem aJ0 (l:List Int) (n:Int):n∈qQ l n:=by
 unfold qQ
 split
 ·next h=>exact bUi h
 ·simp

theorem aD7 {l:List Int} {n x:Int} (h:x∈l):x∈qQ l n:=by
 unfold qQ
 split
 ·exact h
 ·rw [← bVt (oY l n) l] at h
  simp only [bUe,bUd] at h ⊢
  rcases h with h | h
  ·exact .inl (.inl h)
  ·exact .inr h

theorem bI4 {l:List Int} {n:Int} (h:n∉l):(qQ l n).length=l.length+1:=by
 unfold qQ
 rw [zS (fun e=>h (bUi e))]
 have :=aOz l n
 simp
 omega

theorem bEx {r d:Int} {x:den tLk} {a:List Int} (h:d∈a):d∈mQ r x a:=by
 unfold mQ
 cases x.2.2.1==r<;>cases x.1==r<;>simp only [zZ,zY]
 ·exact h
 ·exact aD7 h
 ·exact aD7 h
 ·exact aD7 (aD7 h)

theorem bE6 {r d:Int} {x:den tLk} {a:List Int} (h:dV x r d=true):d∈mQ r x a:=by
 unfold dV at h
 unfold mQ
 simp only [bVp,bT8] at h
 rcases h with ⟨h1,h2⟩ | ⟨h1,h2⟩
 ·rw [h1,eq_of_beq h2]
  cases x.2.2.1==r<;>simp only [zZ,zY]
  ·exact aJ0 _ _
  ·exact aD7 (aJ0 _ _)
 ·rw [h1,eq_of_beq h2]
  cases x.1==r<;>simp only [zZ,zY]<;>exact aJ0 _ _

theorem aHp (as:lAS) (ls:lLk) (r:Int):fR (as,ls) r=ls.foldl (fun a x=>mQ r x a) []:=uI (fun a x=>mQ r x a) ls 0 []

theorem bC4 {as:lAS} {ls:lLk} {r d:Int} {x:den tLk} (hx:x∈ls) (h:dV x r d=true):d∈fR (as,ls) r:=by
 rw [aHp]
 have keep: ∀ (l:lLk) (a:List Int),d∈a→d∈l.foldl (fun a x=>mQ r x a) a:=by
  intro l
  induction l with
  | nil=>exact fun a h=>h
  | cons y l ih=>exact fun a h=>ih _ (bEx h)
 have : ∀ (l:lLk) (a:List Int),x∈l→d∈l.foldl (fun a x=>mQ r x a) a:=by
  intro l
  induction l with
  | nil=>exact fun a h=>(bUr h).elim
  | cons y l ih=>
   intro a hm
   rcases bT9.1 hm with rfl | hm
   ·exact keep l _ (bE6 h)
   ·exact ih _ hm
 exact this ls [] hx


structure pP (ls:lLk):Prop where
 num: ∀ r d:Int,d∈fR ([],ls) r→1<=d∧d<=((fR ([],ls) r).length:Int)
 pw:ls.Pairwise fun y x=>dV y x.1 x.2.1=false∧dV y x.2.2.1 x.2.2.2.1=false

theorem bBj:pP []:=⟨fun r d h=>(bUr h).elim,List.Pairwise.nil⟩

theorem pP.no {ls:lLk} (h:pP ls) {y:den tLk} (hy:y∈ls) (r:Int):dV y r (((fR ([],ls) r).length:Int)+1)=false:=by
 cases e:dV y r (((fR ([],ls) r).length:Int)+1) with
 | false=>rfl
 | true=>have :=(h.num r _ (bC4 hy e)).2;omega

theorem pP.grow {L:List Int} (h: ∀ d∈L,(1:Int)<=d∧d<=(L.length:Int)): ∀ d∈qQ L ((L.length:Int)+1),(1:Int)<=d∧d<=((qQ L ((L.length:Int)+1)).length:Int):=by
 have hn:((L.length:Int)+1)∉L:=fun e=>by have :=(h _ e).2;omega
 rw [bI4 hn]
 intro d hd
 rcases aEj hd with rfl | hd
 ·omega
 ·have :=h d hd;omega

theorem pP.snoc {ls:lLk} (h:pP ls) {a b:Int} (hab:a≠b) (k:Int):pP (ls++[(a,((fR ([],ls) a).length:Int)+1,b,((fR ([],ls) b).length:Int)+1,k)]):=by
 constructor
 ·intro r
  rw [aHp,List.foldl_append,← aHp]
  show ∀ d,d∈mQ r _ _→_∧_<=((mQ r _ _).length:Int)
  unfold mQ
  by_cases ha:a=r
  ·subst ha
   have hb:(b==a)=false:=by simp;exact fun e=>hab e.symm
   simp only [hb,beq_self_eq_true,zZ,zY]
   exact pP.grow (h.num a)
  ·have ha':(a==r)=false:=by simpa using ha
   by_cases hb:b=r
   ·subst hb
    simp only [ha',beq_self_eq_true,zZ,zY]
    exact pP.grow (h.num b)
   ·have hb':(b==r)=false:=by simpa using hb
    simp only [ha',hb',zY]
    exact h.num r
 ·rw [List.pairwise_append]
  refine ⟨h.pw,List.pairwise_singleton _ _,fun y hy x hx=> ?_⟩
  rw [bUd.1 hx]
  exact ⟨h.no hy a,h.no hy b⟩

theorem aFk {t:den tTo} {a b k:Int} (h:t.2.length<=1000000) (hab:a≠b) (hf:pP t.2): ∃ ls,sN t a b k=some (t.1,ls)∧ls.length<=t.2.length+1∧pP ls:=by
 have la:=aCh t a
 have lb:=aCh t b
 unfold sN pj2
 rw [show ((t.1,t.2):den tTo)=t from rfl,aKt (t:=t) (by omega),aKt (t:=t) (by omega),aA,aA,aE (b:=40) (n:=t.2.length) (m:=1) (by decide) (by omega)]
 have w1:wr (((fR t a).length:Int)+1)=((fR t a).length:Int)+1:=bK (by omega) (by omega)
 have w2:wr (((fR t b).length:Int)+1)=((fR t b).length:Int)+1:=bK (by omega) (by omega)
 cases decide (wr (((fR t a).length:Int)+1)<=6) with
 | false=>exact ⟨t.2,rfl,by omega,hf⟩
 | true=>
  cases decide (wr (((fR t b).length:Int)+1)<=6) with
  | false=>exact ⟨t.2,rfl,by omega,hf⟩
  | true=>
   refine ⟨t.2++[(a,wr (((fR t a).length:Int)+1),b,wr (((fR t b).length:Int)+1),k)],rfl,by simp,?_⟩
   rw [w1,w2]
   exact hf.snoc hab k


def AsI (as:lAS):Prop:= ∀ (j:Nat) (x:den tAS),as[j]? =some x→((0:Int)<=x.1∧(1:Int)>=x.1)∧ ∃ v:Int,0<=v∧v<1000000∧1+8 * v+(j:Int)=x.2.2

theorem bMp:AsI []:=fun j x h=>by simp at h

theorem AsI.snoc {as:lAS} (h:AsI as) {d v:Int} {b:Bool} (hd:0<=d∧1>=d) (hv:0<=v∧v<1000000):AsI (as++[(d,b,1+8 * v+(as.length:Int))]):=by
 intro j x hx
 rw [List.getElem?_append] at hx
 split at hx
 ·exact h j x hx
 ·next hj=>
  have hj0:j - as.length=0:=by
   have :=(bUg.1 hx).1
   simp at this
   omega
  rw [hj0] at hx
  simp only [bXe,Option.some.injEq] at hx
  subst hx
  exact ⟨hd,v,hv.1,hv.2,by show 1+8 * v+(j:Int)=1+8 * v+(as.length:Int);omega⟩

theorem AsI.set {as:lAS} (h:AsI as) {i q:Nat} (hi:i<as.length) (hq:q<as.length):AsI (as.set i (as[q].1,as[i].2.1,as[i].2.2)):=by
 intro j x hx
 rw [bWd] at hx
 split at hx
 ·next e=>
  subst e
  simp only [hi,zV,Option.some.injEq] at hx
  subst hx
  exact ⟨(h q as[q] (bT6 hq)).1,(h i as[i] (bT6 hi)).2⟩
 ·exact h j x hx

theorem aXc {α:Type} (p:Nat→α→Bool) {l:List α} (h: ∀ (j:Nat) (x:α),l[j]? =some x→p j x=true):(l.zipIdx 0).all (fun z=>p z.2 z.1)=true:=by
 rw [bUx]
 rintro ⟨x,j⟩ hm
 exact h j x (by simpa using List.mem_zipIdx_iff_getElem?.1 hm)

theorem aRi {α:Type} {l:List α} {j:Nat} {y:α} (h:y∈l.take j): ∃ i,i<j∧l[i]? =some y:=by
 obtain ⟨i,hi⟩:=List.mem_iff_getElem?.1 h
 rw [bVj] at hi
 split at hi
 ·next c=>exact ⟨i,c,hi⟩
 ·cases hi

theorem bMr {as:lAS} {ls:lLk} (h1:1<=as.length) (h8:as.length<=8) (ha:AsI as) (hv: ∀ x∈ls,aAx (as,ls) x=true) (hp:ls.Pairwise fun y x=>dV y x.1 x.2.1=false∧dV y x.2.2.1 x.2.2.2.1=false):aL8 (as,ls)=true:=by
 unfold aL8
 rw [bT8,bT8]
 refine ⟨?_,?_,?_⟩
 ·simp only [inR,bT8,zR];omega
 ·refine aXc (asP (as,ls)) (l:=as) fun j x hx=> ?_
  obtain ⟨⟨a0,a1⟩,v,v0,v1,v2⟩:=ha j x hx
  have hj:j<as.length:=(bUg.1 hx).1
  have v2:1+8 * v+(j:Int)=x.2.2:=v2
  unfold asP
  simp only [bT8,inR,zR]
  refine ⟨⟨a0,show (2:Int)>=x.1 by omega⟩,⟨show (1:Int)<=x.2.2 by omega,show (2147483646:Int)>=x.2.2 by omega⟩,bUx.2 fun y hy=> ?_⟩
  obtain ⟨i,hi,hy⟩:=aRi hy
  obtain ⟨_,w,w0,w1,w2⟩:=ha i y hy
  have w2:1+8 * w+(i:Int)=y.2.2:=w2
  have :x.2.2≠y.2.2:=fun e=>by
   have e:1+8 * v+(j:Int)=1+8 * w+(i:Int):=v2.trans (e.trans w2.symm)
   omega
  simpa using this
 ·refine aXc (lkP (as,ls)) (l:=ls) fun j x hx=> ?_
  unfold lkP
  rw [bT8]
  refine ⟨hv x (bUi hx),bUx.2 fun y hy=> ?_⟩
  obtain ⟨i,hi,hy⟩:=aRi hy
  obtain ⟨hi',ei⟩:=bUg.1 hy
  obtain ⟨hj',ej⟩:=bUg.1 hx
  have :=(bWq.1 hp) i j hi' hj' hi
  rw [ei,ej] at this
  simp [this.1,this.2]


structure wL (as:lAS) (ls:lLk):Prop where
 pos:1<=as.length
 len:as.length<=8
 links:ls.length<=100
 val: ∀ x∈ls,aAx (as,ls) x=true
 top:aL8 (as,ls)=true

def aV5 (code:List Int) (o:Option (lAS×lLk×List Int×q28)):Prop:= ∃ as ls c' p' h',o=some (as,ls,c',p',h')∧wL as ls∧Cur code (c',p',h')

def T3I (code:List Int) (n:Nat) (i:Nat) (s:Int×lAS×lLk×List Int×q28):Prop:=(s.2.1.length=n∧AsI s.2.1∧pP s.2.2.1)∧s.2.2.1.length<=10 * i∧Cur code s.2.2.2

theorem aP4 {code:List Int} (hl:code.length<=1048576) {c:List Int} {p h:Int} (hc:Cur code (c,p,h)):aV5 code (qG (c,p,h)):=by
 obtain ⟨v1,c1,p1,h1,e1,r1,k1⟩:=aH hl (n:=3) (by decide) (by decide) hc
 obtain ⟨v2,c2,p2,h2,e2,r2,k2⟩:=aH hl (n:=6) (by decide) (by decide) k1
 obtain ⟨m1,rfl⟩:=bUu r1.1
 obtain ⟨m2,rfl⟩:=bUu r2.1
 have w1:wr ((1:Int)+(m1:Int))=((m1+1:Nat):Int):=by rw [bK (by omega) (by omega)];omega
 have w2:wr (((m1+1:Nat):Int)+(m2:Int))=((m1+1+m2:Nat):Int):=by rw [bK (by omega) (by omega)];omega
 unfold qG ixb pj2 pj3 pj4 pj5
 simp only [e1,e2,aA,aP,bD,aW,aV,aX,w1,w2]
 generalize hco:m1+1=co at *
 generalize hn:co+m2=n at *
 have hco1:1<=co:=by omega
 have hcn:co<=n:=by omega
 have hn8:n<=8:=by omega
 refine bV (G:=aV5 code) n (fun s:Int×lAS×List Int×Int×Int=>s.1) (fun i s=>(s.2.1.length=i∧AsI s.2.1)∧Cur code s.2.2) (fun r:lAS×List Int×Int×Int=>(r.1.length=n∧AsI r.1)∧Cur code r.2) ?_ ?_ 0 ((0:Int),[],c2,p2,h2) (by omega) rfl ⟨⟨rfl,bMp⟩,k2⟩ ?_
 ·rintro i ⟨_,as,c3,p3,h3⟩ hi rfl ⟨⟨a1,a3⟩,a2⟩
  simp only at a1 a2 a3
  right
  obtain ⟨v4,c4,p4,h4,e4,r4,k4⟩:=aH hl (n:=2) (by decide) (by decide) a2
  obtain ⟨v5,c5,p5,h5,e5,r5,k5⟩:=aFg hl (n:=1000000) (by decide) k4
  refine ⟨(((i+1:Nat):Int),as++[(v4,decide ((i:Int)<((co:Nat):Int)),wr ((wr ((1:Int)+(wr (v5 * (8:Int)))))+(i:Int)))],c5,p5,h5),?_,rfl,⟨by simp [a1],?_⟩,k5⟩
  simp only [zX (show (i:Int)<(n:Int) by omega),zZ,e4,e5,aA,aE (b:=24) (n:=as.length) (m:=1) (by decide) (by omega),bE (show i<=1000000000 by omega)]
  have e:wr ((wr ((1:Int)+(wr (v5 * (8:Int)))))+(i:Int))=1+8 * v5+(as.length:Int):=by
   rw [bK (n:=v5 * 8) (by omega) (by omega),bK (n:=1+v5 * 8) (by omega) (by omega),bK (by omega) (by omega)]
   omega
  show AsI (as++[_])
  rw [e]
  exact a3.snoc ⟨by omega,by omega⟩ ⟨by omega,by omega⟩
 ·rintro ⟨_,as,c3,p3,h3⟩ rfl ⟨a1,a2⟩
  exact ⟨(as,c3,p3,h3),by simp only [zW (bUm _),zY],a1,a2⟩
 rintro ⟨as,c3,p3,h3⟩ ⟨⟨a1,a3⟩,a2⟩
 simp only at a1 a2 a3
 refine bV (G:=aV5 code) co (fun s:Int×lAS×lLk×List Int×Int×Int=>s.1) (fun i s=>1<=i∧T3I code n i s) (fun r:lAS×lLk×List Int×Int×Int=>(r.1.length=n∧AsI r.1∧pP r.2.1)∧r.2.1.length<=10 * co∧Cur code r.2.2) ?_ ?_ 1 ((1:Int),as,[],c3,p3,h3) hco1 rfl ⟨bUo 1,⟨a1,a3,bBj⟩,by simp,a2⟩ ?_
 ·rintro i ⟨_,as,ls,c4,p4,h4⟩ hi rfl ⟨b0,b1,b2,b3⟩
  simp only at b1 b2 b3
  right
  obtain ⟨v5,c5,p5,h5,e5,r5,k5⟩:=aH hl (n:=(i:Int)) (by omega) (by omega) b3
  obtain ⟨l6,e6,r6,f6⟩:=aFk (t:=(as,ls)) (a:=v5) (b:=(i:Int)) (k:=1) (by show ls.length<=_;omega) (by omega) b1.2.2
  obtain ⟨v7,c7,p7,h7,e7,k7⟩:=mO hl (n:=2) (by decide) (by decide) k5
  simp only at e6 r6
  cases v7 with
  | false=>
   refine ⟨(((i+1:Nat):Int),as,l6,c7,p7,h7),?_,rfl,by omega,⟨b1.1,b1.2.1,f6⟩,by simp only;omega,k7⟩
   simp only [zX (show (i:Int)<(co:Int) by omega),zZ,zY,e5,e6,e7,aA,bE (show i<=1000000000 by omega)]
  | true=>
   obtain ⟨v8,c8,p8,h8,e8,r8,k8⟩:=aH hl (n:=(i:Int)) (by omega) (by omega) k7
   obtain ⟨l9,e9,r9,f9⟩:=aFk (t:=(as,l6)) (a:=v8) (b:=(i:Int)) (k:=1) (by show l6.length<=_;omega) (by omega) f6
   simp only at e9 r9
   refine ⟨(((i+1:Nat):Int),as,l9,c8,p8,h8),?_,rfl,by omega,⟨b1.1,b1.2.1,f9⟩,by simp only;omega,k8⟩
   simp only [zX (show (i:Int)<(co:Int) by omega),zZ,e5,e6,e7,e8,e9,aA,bE (show i<=1000000000 by omega)]
 ·rintro ⟨_,as,ls,c4,p4,h4⟩ rfl ⟨b0,b1,b2,b3⟩
  exact ⟨(as,ls,c4,p4,h4),by simp only [zW (bUm _),zY],b1,b2,b3⟩
 rintro ⟨as,ls,c4,p4,h4⟩ ⟨b1,b2,b3⟩
 simp only at b1 b2 b3
 refine bV (G:=aV5 code) n (fun s:Int×lAS×lLk×List Int×Int×Int=>s.1) (fun i s=>1<=i∧co<=i∧T3I code n i s) (fun r:lAS×lLk×List Int×Int×Int=>(r.1.length=n∧AsI r.1∧pP r.2.1)∧r.2.1.length<=10 * n∧Cur code r.2.2) ?_ ?_ co (((co:Nat):Int),as,ls,c4,p4,h4) hcn rfl ⟨hco1,bUo co,b1,b2,b3⟩ ?_
 ·rintro i ⟨_,as,ls,c5,p5,h5⟩ hi rfl ⟨d0,d1,⟨d2,d5,d6⟩,d3,d4⟩
  simp only at d2 d3 d4 d5 d6
  right
  have hlen:(as.length:Int)=(n:Int):=by omega
  obtain ⟨v6,c6,p6,h6,e6,r6,k6⟩:=aH hl (n:=2) (by decide) (by decide) d4
  obtain ⟨m6,rfl⟩:=bUu r6.1
  have w6:wr ((1:Int)+(m6:Int))=((m6+1:Nat):Int):=by rw [bK (by omega) (by omega)];omega
  simp only [hlen,zX (show (i:Int)<(n:Int) by omega),zZ,e6,w6,aA,Option.bind_assoc]
  refine fY (G:=fun o=> ∃ s',o=some (bT5 s')∧s'.1=((i+1:Nat):Int)∧1<=i+1∧co<=i+1∧T3I code n (i+1) s') (fun (m:Nat) (s:Int×lAS×lLk×List Int×q28)=>s.1=(m:Int)∧m<=2∧(s.2.1.length=n∧AsI s.2.1∧pP s.2.2.1)∧s.2.2.1.length+m<=10 * i+2∧Cur code s.2.2.2) (fun r:lAS×lLk×List Int×Int×Int=>(r.1.length=n∧AsI r.1∧pP r.2.1)∧r.2.1.length<=10 * i+2∧Cur code r.2.2) ?_ (m6+1) (((m6+1:Nat):Int),as,ls,c6,p6,h6) ⟨rfl,by omega,⟨d2,d5,d6⟩,by simp only;omega,k6⟩ ?_
  ·rintro m ⟨_,as,ls,c7,p7,h7⟩ ⟨rfl,f1,⟨f2,f5,f6⟩,f3,f4⟩
   simp only at f2 f3 f4 f5 f6
   cases m with
   | zero=>exact .inl ⟨(as,ls,c7,p7,h7),rfl,⟨f2,f5,f6⟩,by simpa using f3,f4⟩
   | succ m=>
    right
    obtain ⟨v8,c8,p8,h8,e8,r8,k8⟩:=aH hl (n:=(i:Int)) (by omega) (by omega) f4
    obtain ⟨q8,rfl⟩:=bUu r8.1
    obtain ⟨v9,c9,p9,h9,e9,k9⟩:=mO hl (n:=5) (by decide) (by decide) k8
    have hq:q8<n:=by omega
    have hlen:(as.length:Int)=(n:Int):=by omega
    have hq1:as[q8]? =some (as[q8]'(by omega)):=bT6 (by omega)
    have hi1:as[i]? =some (as[i]'(by omega)):=bT6 (by omega)
    have wm:wr (((m+1:Nat):Int) - 1)=(m:Int):=by rw [bK (by omega) (by omega)];omega
    have fin: ∀ (as':lAS) (c p h:_),as'.length=n→AsI as'→Cur code (c,p,h)→ ∃ s',(Option.bind (cond (decide ((0:Int)<=(q8:Int))) (cond (decide ((q8:Int)<(as'.length:Int))) (Option.bind as'[((q8:Nat):Int).toNat]? fun x79=>cond (decide ((0:Int)<=(i:Int))) (cond (decide ((i:Int)<(as'.length:Int))) (Option.bind as'[((i:Nat):Int).toNat]? fun x80=>cond (x79.1==x80.1) (Option.bind (sN (as',ls) (q8:Int) (i:Int) (2:Int)) fun y81=>some (y81.1,y81.2,c,p,h)) (some (as',ls,c,p,h))) none) none) none) none) fun (s82:lAS×lLk×List Int×q28)=>some (bT5 (wr (((m+1:Nat):Int) - (1:Int)),s82.1,s82.2.1,s82.2.2.1,s82.2.2.2.1,s82.2.2.2.2)):Option ((Int×lAS×lLk×List Int×q28)⊕(lAS×lLk×List Int×q28)))=some (bT5 s')∧s'.1=(m:Int)∧m<=2∧(s'.2.1.length=n∧AsI s'.2.1∧pP s'.2.2.1)∧s'.2.2.1.length+m<=10 * i+2∧Cur code s'.2.2.2:=by
     intro as' c p h g1 g3 g2
     have hl':(as'.length:Int)=(n:Int):=by omega
     have hq1:as'[q8]? =some (as'[q8]'(by omega)):=bT6 (by omega)
     have hi1:as'[i]? =some (as'[i]'(by omega)):=bT6 (by omega)
     simp only [hl',zX (show (0:Int)<=(q8:Int) by omega),zX (show (q8:Int)<(n:Int) by omega),zX (show (0:Int)<=(i:Int) by omega),zX (show (i:Int)<(n:Int) by omega),zZ,bUf,hq1,hi1,aA,wm]
     obtain ⟨l6,e6,r6,z6⟩:=aFk (t:=(as',ls)) (a:=(q8:Int)) (b:=(i:Int)) (k:=2) (by show ls.length<=_;omega) (by omega) f6
     simp only at e6 r6
     cases (as'[q8]'(by omega)).1==(as'[i]'(by omega)).1 with
     | true=>exact ⟨_,by simp only [zZ,e6,aA];rfl,rfl,by omega,⟨g1,g3,z6⟩,by simp only;omega,g2⟩
     | false=>exact ⟨_,by simp only [zY,aA];rfl,rfl,by omega,⟨g1,g3,f6⟩,by simp only;omega,g2⟩
    cases v9 with
    | true=>
     obtain ⟨s',g1,g2⟩:=fin as c9 p9 h9 f2 f5 k9
     refine ⟨m,s',by omega,?_,g2⟩
     rw [← g1]
     simp only [zX (show ((m+1:Nat):Int)>0 by omega),zZ,zY,e8,e9,aA,bUc]
    | false=>
     obtain ⟨s',g1,g2⟩:=fin (as.set i ((as[q8]'(by omega)).1,(as[i]'(by omega)).2.1,(as[i]'(by omega)).2.2)) c9 p9 h9 (by simp [f2]) (f5.set (by omega) (by omega)) k9
     refine ⟨m,s',by omega,?_,g2⟩
     rw [← g1]
     simp only [zX (show ((m+1:Nat):Int)>0 by omega),zZ,e8,e9,aA,bUn,hlen,zX (show (0:Int)<=(q8:Int) by omega),zX (show (q8:Int)<(n:Int) by omega),zX (show (0:Int)<=(i:Int) by omega),zX (show (i:Int)<(n:Int) by omega),bUf,hq1,hi1]
  ·rintro ⟨as,ls,c7,p7,h7⟩ ⟨⟨f1,f5,f6⟩,f2,f3⟩
   simp only at f1 f2 f3 f5 f6
   have w7:wr (wr ((i:Int) - (co:Int))+1)=((i - co+1:Nat):Int):=by rw [bK (n:=(i:Int) - (co:Int)) (by omega) (by omega),bK (by omega) (by omega)];omega
   obtain ⟨v8,c8,p8,h8,e8,r8,k8⟩:=aH hl (n:=((i - co+1:Nat):Int)) (by omega) (by omega) f3
   obtain ⟨v9,c9,p9,h9,e9,k9⟩:=mO hl (n:=3) (by decide) (by decide) k8
   simp only [w7,e8,aA,bE (show i<=1000000000 by omega)]
   cases hlt:decide (wr ((co:Int)+v8)<(i:Int)) with
   | false=>exact ⟨_,by simp only [zY,aA];rfl,rfl,by omega,by omega,⟨f1,f5,f6⟩,by simp only;omega,k8⟩
   | true=>
    have hlt':=of_decide_eq_true hlt
    obtain ⟨l6,e6,r6,z6⟩:=aFk (t:=(as,ls)) (a:=wr ((co:Int)+v8)) (b:=(i:Int)) (k:=3) (by show ls.length<=_;omega) (by omega) f6
    simp only at e6 r6
    cases v9 with
    | false=>exact ⟨_,by simp only [zZ,zY,e9,aA];rfl,rfl,by omega,by omega,⟨f1,f5,f6⟩,by simp only;omega,k9⟩
    | true=>exact ⟨_,by simp only [zZ,e9,e6,aA];rfl,rfl,by omega,by omega,⟨f1,f5,z6⟩,by simp only;omega,k9⟩
 ·rintro ⟨_,as,ls,c5,p5,h5⟩ rfl ⟨d0,d1,⟨d2,d5⟩,d3,d4⟩
  simp only at d2 d3 d4 d5
  exact ⟨(as,ls,c5,p5,h5),by simp only [d2,zW (bUm _),zY],⟨d2,d5⟩,d3,d4⟩
 rintro ⟨as,ls,c5,p5,h5⟩ ⟨⟨d2,d5,d6⟩,d3,d4⟩
 simp only at d2 d3 d4 d5 d6
 refine bV (G:=aV5 code) ls.length (fun s:Int×lLk=>s.1) (fun i s=>(s.2.length<=i∧List.Sublist s.2 (ls.take i))∧ ∀ x∈s.2,aAx (as,ls) x=true) (fun r:lLk=>(r.length<=ls.length∧List.Sublist r ls)∧ ∀ x∈r,aAx (as,ls) x=true) ?_ ?_ 0 ((0:Int),[]) (by omega) rfl ⟨⟨by simp,List.nil_sublist _⟩,fun d hd=>(bUr hd).elim⟩ ?_
 ·rintro i ⟨_,l⟩ hi rfl ⟨⟨g1,g3⟩,g2⟩
  simp only at g1 g2 g3
  right
  have htk:ls.take (i+1)=ls.take i++[ls[i]]:=(List.take_append_getElem hi).symm
  simp only [zX (show (i:Int)<(ls.length:Int) by omega),zX (show (0:Int)<=(i:Int) by omega),zZ,bUf,bT6 hi,aA,aXi (t:=(as,ls)) (show as.length<=68719476736 by omega),bE (show i<=1000000000 by omega)]
  rw [aE (b:=40) (n:=l.length) (m:=1) (by decide) (by omega),zZ]
  cases hv:aAx (as,ls) ls[i] with
  | true=>exact ⟨_,rfl,rfl,⟨by simp;omega,by rw [htk];exact g3.append (List.Sublist.refl _)⟩,fun x hx=>by
    rcases bUe.1 hx with hx | hx
    ·exact g2 x hx
    ·rw [bUd.1 hx];exact hv⟩
  | false=>exact ⟨_,rfl,rfl,⟨by show l.length<=i+1;omega,by rw [htk];exact g3.trans (List.sublist_append_left _ _)⟩,g2⟩
 ·rintro ⟨_,l⟩ rfl ⟨⟨g1,g3⟩,g2⟩
  exact ⟨l,by simp only [zW (bUm _),zY],⟨g1,g3.trans (List.take_sublist _ _)⟩,g2⟩
 rintro l ⟨⟨g1,g3⟩,g2⟩
 exact ⟨as,l,c5,p5,h5,rfl,⟨by omega,by omega,by omega,g2,bMr (by omega) (by omega) d5 g2 (d6.pw.sublist g3)⟩,d4⟩

theorem aBj {s:den tSg} (h:s.2.2.length<=1000000): ∃ l,cX s=some l∧l.length=s.2.2.length:=by
 unfold cX
 refine bV (G:=fun o=> ∃ l,o=some l∧l.length=s.2.2.length) s.2.2.length (fun s:Int×List Int=>s.1) (fun i t=>t.2.length=i) (fun l:List Int=>l.length=s.2.2.length) ?_ ?_ 0 ((0:Int),[]) (by omega) rfl rfl (fun l hl=>⟨l,rfl,hl⟩)
 ·rintro i ⟨_,l⟩ hi rfl h1
  simp only at h1
  right
  refine ⟨(((i+1:Nat):Int),l++[s.2.2[i].1]),?_,rfl,by simp [h1]⟩
  simp only [zX (show (i:Int)<(s.2.2.length:Int) by omega),zZ,aF,bT6 hi,aA,aE (b:=8) (n:=l.length) (m:=1) (by decide) (by omega),bE (show i<=1000000000 by omega)]
 ·rintro ⟨_,l⟩ rfl h1
  exact ⟨l,by simp only [zW (bUm _),zY],h1⟩

theorem bGi {s:den tSg} {n:Nat} (hn:n<=s.2.2.length) (h:s.2.2.length<=1000000): ∃ l,tX s (n:Int)=some l∧l.length=n:=by
 unfold tX zz4
 refine bV (G:=fun o=> ∃ l,o=some l∧l.length=n) n (fun s:Int×List Int=>s.1) (fun i t=>t.2.length=i) (fun l:List Int=>l.length=n) ?_ ?_ 0 ((0:Int),[]) (by omega) rfl rfl (fun l hl=>⟨l,rfl,hl⟩)
 ·rintro i ⟨_,l⟩ hi rfl h1
  simp only at h1
  right
  have hi':i<s.2.2.length:=by omega
  refine ⟨(((i+1:Nat):Int),l++[s.2.2[i].2.2.2.2]),?_,rfl,by simp [h1]⟩
  simp only [zX (show (i:Int)<(n:Int) by omega),zZ,aF,bT6 hi',aA,aE (b:=8) (n:=l.length) (m:=1) (by decide) (by omega),bE (show i<=1000000000 by omega)]
 ·rintro ⟨_,l⟩ rfl h1
  exact ⟨l,by simp only [zW (bUm _),zY],h1⟩

theorem bC3 {b:Int} {l:List Int} (h:l.length<=1000000): ∃ v,sS b l=some v:=by
 unfold sS
 refine bV (G:=fun o=> ∃ v,o=some v) l.length (fun s:Int×Int=>s.2) (fun i t=>True) (fun v:Int=>True) ?_ ?_ 0 (b,(0:Int)) (by omega) rfl trivial (fun v hv=>⟨v,rfl⟩)
 ·rintro i ⟨v,_⟩ hi rfl _
  right
  refine ⟨(aLt v l[i],((i+1:Nat):Int)),?_,rfl,trivial⟩
  simp only [zX (show (i:Int)<(l.length:Int) by omega),zZ,aF,bT6 hi,aA,aV4,bE (show i<=1000000000 by omega)]
 ·rintro ⟨v,_⟩ rfl _
  exact ⟨v,by simp only [zW (bUm _),zY],trivial⟩

theorem zP {s:den tSg} (i:Int) (h:s.2.2.length<=1000000): ∃ v,gF s i=some v:=by
 unfold gF pj3
 rw [gQ,aA]
 cases hc:inR i 0 (s.2.2.length:Int) with
 | false=>exact ⟨0,rfl⟩
 | true=>
  obtain ⟨h0,h1⟩:=bS.1 hc
  obtain ⟨n,rfl⟩:=bUu h0
  obtain ⟨l,e,k⟩:=bGi (s:=s) (n:=n) (by omega) h
  obtain ⟨v,e2⟩:=bC3 (b:=s.2.1) (l:=l) (by omega)
  refine ⟨v,?_⟩
  show Option.bind (tX s (n:Int)) _=_
  rw [e,aA,e2,aA]

theorem aT2 (key ts b:Int) (h:den bZ):eX key ts b h=some (h.1,h.2.1,h.2.2.1,h.2.2.2.1,aFy key ts b h):=by
 unfold eX pj5
 rw [show ((h.1,h.2.1,h.2.2.1,h.2.2.2.1,h.2.2.2.2):den bZ)=h from rfl,bE1,aA]

def bTt (code:List Int) (o:Option (Int×Int×dA×List Int×q28)):Prop:= ∃ a b hs c' p' h',o=some (a,b,hs,c',p',h')∧hs.length<=5∧Cur code (c',p',h')


def aD5 (hs:dA):Prop:= ∀ x∈hs,(0:Int)<=x.1∧(8:Int)>x.1

def bTg (code:List Int) (o:Option (Int×Int×dA×List Int×q28)):Prop:= ∃ a b hs c' p' h',o=some (a,b,hs,c',p',h')∧(hs.length<=5∧aD5 hs)∧Cur code (c',p',h')

theorem aD5.snoc {hs:dA} {x:den bZ} (h:aD5 hs) (hx:(0:Int)<=x.1∧(8:Int)>x.1):aD5 (hs++[x]):=fun y hy=>(bUe.1 hy).elim (h y) fun hy=>by rw [bUd.1 hy];exact hx


def InN (n:Int) (hs:dA):Prop:= ∀ x∈hs,(0:Int)<=x.1∧n>x.1

def bH6 (n:Int) (code:List Int) (o:Option (Int×Int×dA×List Int×q28)):Prop:= ∃ a b hs c' p' h',o=some (a,b,hs,c',p',h')∧(hs.length<=5∧InN n hs)∧Cur code (c',p',h')

theorem InN.snoc {n:Int} {hs:dA} {x:den bZ} (h:InN n hs) (hx:(0:Int)<=x.1∧n>x.1):InN n (hs++[x]):=fun y hy=>(bUe.1 hy).elim (h y) fun hy=>by rw [bUd.1 hy];exact hx

theorem InN.as {n:Int} {hs:dA} (h:InN n hs) (hn:n<=8):aD5 hs:=fun x hx=>⟨(h x hx).1,by have :=(h x hx).2;omega⟩

abbrev GrS:=Int×Int×Int×Int×Int×dA×List Int×Int×Int

theorem aXy {code:List Int} (hl:code.length<=1048576) {as:lAS} {ls:lLk} (ht:wL as ls) (k:Int) {c:List Int} {p h:Int} (hc:Cur code (c,p,h)):bH6 (as.length:Int) code (iT (c,p,h) (as,ls) k):=by
 have hlen:=ht.len
 have hlk:=ht.links
 unfold iT dd ixb one pj2 pj3 pj5 pj6 zz4 zz5 zz6
 simp only [aP,bD,aW,aV,aX]
 refine bV (G:=bH6 (as.length:Int) code) as.length (fun s:Int×List Int=>s.1) (fun i t=>t.2.length<=i∧ ∀ x∈t.2,0<=x∧x<(as.length:Int)) (fun r:List Int=>r.length<=8∧ ∀ x∈r,0<=x∧x<(as.length:Int)) ?_ ?_ 0 ((0:Int),[]) (by omega) rfl ⟨by simp,fun d hd=>(bUr hd).elim⟩ ?_
 ·rintro i ⟨_,l⟩ hi rfl ⟨g1,g2⟩
  simp only at g1 g2
  right
  simp only [zX (show (i:Int)<(as.length:Int) by omega),zZ,aF,bT6 hi,aA,aE (b:=8) (n:=l.length) (m:=1) (by decide) (by omega),bE (show i<=1000000000 by omega)]
  cases as[i].2.1 with
  | true=>exact ⟨_,rfl,rfl,by simp;omega,fun x hx=>by
    rcases bUe.1 hx with hx | hx
    ·exact g2 x hx
    ·rw [bUd.1 hx];omega⟩
  | false=>exact ⟨_,rfl,rfl,by show l.length<=i+1;omega,g2⟩
 ·rintro ⟨_,l⟩ rfl ⟨g1,g2⟩
  exact ⟨l,by simp only [zW (bUm _),zY],by simp only at g1;omega,g2⟩
 rintro cores ⟨g1,g2⟩
 obtain ⟨v1,c1,p1,h1,e1,r1,k1⟩:=aH hl (n:=50) (by decide) (by decide) hc
 obtain ⟨v2,c2,p2,h2,e2,r2,k2⟩:=aFg hl (n:=1000000) (by decide) k1
 simp only [e1,e2,aA]
 by_cases h0:cores.length=0
 ·rw [show ((cores.length:Int)==0)=true by rw [beq_iff_eq];omega,zZ]
  exact ⟨_,_,_,_,_,_,rfl,⟨by simp,fun x hx=>(bUr hx).elim⟩,k2⟩
 rw [show ((cores.length:Int)==0)=false by rw [beq_eq_false_iff_ne];omega,zY]
 obtain ⟨v3,c3,p3,h3,e3,r3,k3⟩:=aH hl (n:=(cores.length:Int)) (by omega) (by omega) k2
 obtain ⟨m3,rfl⟩:=bUu r3.1
 have hm3:m3<cores.length:=by omega
 have hr:=g2 cores[m3] (bUj hm3)
 simp only [e3,aA,zX (show (0:Int)<=(m3:Int) by omega),zX (show (m3:Int)<(cores.length:Int) by omega),zZ,bUf,bT6 hm3]
 generalize cores[m3]=r at hr
 refine bV (G:=bH6 (as.length:Int) code) 5 (fun s:GrS=>s.2.2.1) (fun i s=>(0<=s.1∧s.1<(as.length:Int))∧(s.2.2.2.2.2.1.length=i∧InN (as.length:Int) s.2.2.2.2.2.1)∧Cur code s.2.2.2.2.2.2) (fun z:((Int×Int×dA×List Int×q28)⊕(Int×Int×dA×List Int×q28))=> ∃ a b hs c p h,(z= .inl (a,b,hs,c,p,h)∨z= .inr (a,b,hs,c,p,h))∧(hs.length<=5∧InN (as.length:Int) hs)∧Cur code (c,p,h)) ?_ ?_ 0 (r,(0:Int),(0:Int),v1,v2,[],c3,p3,h3) (by omega) rfl ⟨hr,⟨rfl,fun x hx=>(bUr hx).elim⟩,k3⟩ ?_
 ·rintro i ⟨r,inn,_,ts,be,hs,c4,p4,h4⟩ hi rfl ⟨b1,⟨b2,b2'⟩,b3⟩
  simp only at b1 b2 b2' b3
  obtain ⟨rn,rfl⟩:=bUu b1.1
  have hrn:rn<as.length:=by omega
  obtain ⟨ds,ek,dl,dm⟩:=bFm (t:=(as,ls)) (r:=(rn:Int)) (k:=k) (by show ls.length<=_;omega)
  have dl:ds.length<=2 * ls.length:=dl
  have hout: ∃ out c5 p5 h5,(Option.bind (cond (decide ((ds.length:Int)>(0:Int))) (Option.bind (cD (c4,p4,h4) (5:Int)) fun y35=>some (!y35.1,y35.2.1,y35.2.2.1,y35.2.2.2)) (some (false,c4,p4,h4))) fun (s36:Bool×List Int×q28)=>cond s36.1 (Option.bind (aB (s36.2.1,s36.2.2.1,s36.2.2.2) (ds.length:Int)) fun y37=>cond (decide ((0:Int)<=y37.1)) (cond (decide (y37.1<(ds.length:Int))) (Option.bind ds[y37.1.toNat]? fun x38=>some (x38,y37.2.1,y37.2.2.1,y37.2.2.2)) none) none) (some ((0:Int),s36.2.1,s36.2.2.1,s36.2.2.2)):Option (Int×List Int×q28))=some (out,c5,p5,h5)∧(out=0∨out∈fR (as,ls) (rn:Int))∧Cur code (c5,p5,h5):=by
   by_cases hd:(ds.length:Int)>0
   ·obtain ⟨v5,c5,p5,h5,e5,k5⟩:=mO hl (n:=5) (by decide) (by decide) b3
    simp only [zX hd,zZ,e5,aA]
    cases v5 with
    | true=>exact ⟨0,c5,p5,h5,rfl,.inl rfl,k5⟩
    | false=>
     obtain ⟨v6,c6,p6,h6,e6,r6,k6⟩:=aH hl (n:=(ds.length:Int)) hd (by omega) k5
     obtain ⟨m6,rfl⟩:=bUu r6.1
     have hm6:m6<ds.length:=by omega
     exact ⟨ds[m6],c6,p6,h6,by simp only [bUn,zZ,e6,aA,zX (show (0:Int)<=(m6:Int) by omega),zX (show (m6:Int)<(ds.length:Int) by omega),bUf,bT6 hm6],.inr (dm _ (bUj hm6)),k6⟩
   ·exact ⟨0,c4,p4,h4,by simp only [zW hd,zY,aA],.inl rfl,b3⟩
  obtain ⟨out,c5,p5,h5,eo,ho,k5⟩:=hout
  obtain ⟨al,ea,hal⟩:=aBj (s:=(ts,be,hs)) (by show hs.length<=_;omega)
  have hal:al.length=hs.length:=hal
  have er:=aB1 (t:=(as,ls)) (r:=(rn:Int)) (d:=out) (show ls.length<=68719476736 by omega)
  have hfar:out∈fR (as,ls) (rn:Int)→0<=(remote (as,ls) (rn:Int) out).1∧(remote (as,ls) (rn:Int) out).1<(as.length:Int):=fun hd=>by
   have :=bEi (t:=(as,ls)) ht.val hd
   unfold eB at this
   obtain ⟨h0,h1⟩:=bS.1 this
   exact ⟨h0,by simp only at h1;omega⟩
  generalize remote (as,ls) (rn:Int) out=fd at er hfar
  obtain ⟨far,door⟩:=fd
  simp only at hfar
  obtain ⟨bb,eb⟩: ∃ b:Bool,(cond (out != (0:Int)) (Option.bind (cX (ts,be,hs)) fun y41=>Option.bind (fB y41 far) fun y42=>cond y42 (some true) (cond (far==(rn:Int)) (some true) (some (inn==out)))) (some (inn==out)))=some b:=by
   rw [ea,aA,aEg (by omega),aA]
   cases out != 0<;>cases sD al far<;>cases far==(rn:Int)<;>exact ⟨_,rfl⟩
  obtain ⟨v6,c6,p6,h6,e6,r6,k6⟩:=aH hl (n:=50) (by decide) (by decide) k5
  obtain ⟨bt,et⟩:=zP (s:=(ts,be,hs)) (hs.length:Int) (by show hs.length<=_;omega)
  have ix:as[rn]? =some as[rn]:=bT6 hrn
  have hap:aK 40 hs.length 1=true:=aE (by decide) (by omega)
  simp only [zX (show (i:Int)<5 by omega),zZ,ek,aA]
  rw [eo,aA]
  simp only [er,aA]
  rw [eb,aA]
  have body: ∀ o:Int,o=0∨o=out→(∃ r,(cond (o==(0:Int)) (some (bT4 (bT4 (ts,be,hs++[(((rn:Int),inn,o,wr ((wr (ts+(50:Int)))+v6),aFy as[rn].2.2 ts bt ((rn:Int),inn,o,wr ((wr (ts+(50:Int)))+v6),0)):den bZ)],c6,p6,h6)))) (some (bT5 (far,door,wr ((i:Int)+(1:Int)),ts,be,hs++[(((rn:Int),inn,o,wr ((wr (ts+(50:Int)))+v6),aFy as[rn].2.2 ts bt ((rn:Int),inn,o,wr ((wr (ts+(50:Int)))+v6),0)):den bZ)],c6,p6,h6))):Option (GrS⊕((Int×Int×dA×List Int×q28)⊕(Int×Int×dA×List Int×q28))))=some (.inr r)∧(∃ a b hs c p h,(r= .inl (a,b,hs,c,p,h)∨r= .inr (a,b,hs,c,p,h))∧(hs.length<=5∧InN (as.length:Int) hs)∧Cur code (c,p,h)))∨
    ∃ s':GrS,(cond (o==(0:Int)) (some (bT4 (bT4 (ts,be,hs++[(((rn:Int),inn,o,wr ((wr (ts+(50:Int)))+v6),aFy as[rn].2.2 ts bt ((rn:Int),inn,o,wr ((wr (ts+(50:Int)))+v6),0)):den bZ)],c6,p6,h6)))) (some (bT5 (far,door,wr ((i:Int)+(1:Int)),ts,be,hs++[(((rn:Int),inn,o,wr ((wr (ts+(50:Int)))+v6),aFy as[rn].2.2 ts bt ((rn:Int),inn,o,wr ((wr (ts+(50:Int)))+v6),0)):den bZ)],c6,p6,h6))):Option (GrS⊕((Int×Int×dA×List Int×q28)⊕(Int×Int×dA×List Int×q28))))=some (.inl s')∧s'.2.2.1=((i+1:Nat):Int)∧(0<=s'.1∧s'.1<(as.length:Int))∧(s'.2.2.2.2.2.1.length=i+1∧InN (as.length:Int) s'.2.2.2.2.2.1)∧Cur code s'.2.2.2.2.2.2:=by
   intro o hoo
   cases hz:(o==(0:Int)) with
   | true=>exact .inl ⟨_,rfl,ts,be,_,c6,p6,h6,.inr rfl,⟨by simp;omega,b2'.snoc ⟨by simp only;omega,by simp only;omega⟩⟩,k6⟩
   | false=>
    refine .inr ⟨_,rfl,bE (show i<=1000000000 by omega),?_,⟨by simp [b2],b2'.snoc ⟨by simp only;omega,by simp only;omega⟩⟩,k6⟩
    have hne:o≠0:=by simpa using hz
    rcases hoo with h | rfl
    ·exact absurd h hne
    ·rcases ho with h | h
     ·exact absurd h hne
     ·exact hfar h
  cases bb with
  | true=>
   cases inn==(0:Int) with
   | true=>exact .inl ⟨_,rfl,ts,be,hs,c5,p5,h5,.inr rfl,⟨by omega,b2'⟩,k5⟩
   | false=>
    have :=body 0 (.inl rfl)
    simpa only [zZ,zY,aA,bVe,e6,aF,ix,et,aT2,hap] using this
  | false=>
   have :=body out (.inr rfl)
   simpa only [zZ,zY,aA,bVe,e6,aF,ix,et,aT2,hap] using this
 ·rintro ⟨r,inn,_,ts,be,hs,c4,p4,h4⟩ rfl ⟨b1,⟨b2,b2'⟩,b3⟩
  simp only at b1 b2 b2' b3
  exact ⟨.inl (ts,be,hs,c4,p4,h4),by simp only [show decide ((((5:Nat):Int))<(5:Int))=false from rfl,zY],ts,be,hs,c4,p4,h4,.inl rfl,⟨by omega,b2'⟩,b3⟩
 ·rintro z ⟨a,b,hs,c,p,h,hz,h5,k5⟩
  rcases hz with rfl | rfl
  ·exact ⟨a,b,hs,c,p,h,rfl,h5,k5⟩
  ·exact ⟨a,b,hs,c,p,h,rfl,h5,k5⟩

theorem bOo {code:List Int} (hl:code.length<=1048576) {as:lAS} {ls:lLk} (ht:wL as ls) (k:Int) {c:List Int} {p h:Int} (hc:Cur code (c,p,h)):bTg code (iT (c,p,h) (as,ls) k):=by
 obtain ⟨a,b,hs,c1,p1,h1,e,⟨l,m⟩,k1⟩:=aXy hl ht k hc
 exact ⟨a,b,hs,c1,p1,h1,e,⟨l,m.as (by have :=ht.len;omega)⟩,k1⟩

theorem aEs {code:List Int} (hl:code.length<=1048576) {as:lAS} {ls:lLk} (ht:wL as ls) (k:Int) {c:List Int} {p h:Int} (hc:Cur code (c,p,h)):bTt code (iT (c,p,h) (as,ls) k):=by
 obtain ⟨a,b,hs,c1,p1,h1,e,⟨l,_⟩,k1⟩:=bOo hl ht k hc
 exact ⟨a,b,hs,c1,p1,h1,e,l,k1⟩

theorem aYj {as:lAS} {ls:lLk} (ht:wL as ls) {s:den tSg} (h:s.2.2.length<=1000): ∃ b,iH (as,ls) s=some b∧(b=true→ ∃ x,s.2.2[0]? =some x∧eB (as,ls) x.1=true):=by
 obtain ⟨al,ea,hal⟩:=aBj (s:=s) (by omega)
 have hlen:=ht.len
 have hlk:=ht.links
 unfold iH pj2 pj3 pj5
 rw [gQ,aA]
 cases hc:inR (s.2.2.length:Int) 1 8 with
 | false=>exact ⟨false,rfl,fun e=>by cases e⟩
 | true=>
  obtain ⟨h0,h1⟩:=bS.1 hc
  have h00:0<s.2.2.length:=by omega
  have i0:idx s.2.2 (0:Int)=some s.2.2[0]:=by rw [show (0:Int)=((0:Nat):Int) from rfl,aF,bT6 h00]
  simp only [bUc,zY,i0,aA]
  cases s.2.2[0].2.1 != (0:Int) with
  | true=>exact ⟨false,rfl,fun e=>by cases e⟩
  | false=>
   simp only [zY]
   rw [show ((s.1,s.2.1,s.2.2):den tSg)=s from rfl,ea,aA]
   refine bV (G:=fun o=> ∃ b,o=some b∧(b=true→ ∃ x,s.2.2[0]? =some x∧eB (as,ls) x.1=true)) s.2.2.length (fun s:List Int×Int=>s.2) (fun i t=>t.1=al∧(0<i→eB (as,ls) s.2.2[0].1=true)) (fun r:Unit⊕Bool=>r= .inl ()∧eB (as,ls) s.2.2[0].1=true∨r= .inr false) ?_ ?_ 0 (al,(0:Int)) (by omega) rfl ⟨rfl,fun h=>by omega⟩ ?_
   ·rintro i ⟨_,_⟩ hi rfl ⟨rfl,g2⟩
    rename_i al
    have ix:idx s.2.2 (i:Int)=some s.2.2[i]:=by rw [aF,bT6 hi]
    simp only [zX (show (i:Int)<(s.2.2.length:Int) by omega),zZ,ix,aA]
    rw [show ((s.2.2[i].1,s.2.2[i].2.1,s.2.2[i].2.2.1,s.2.2[i].2.2.2.1,s.2.2[i].2.2.2.2):den bZ)=s.2.2[i] from rfl,aGu,aA,aCl (t:=(as,ls)) (show as.length<=_ by omega),aA]
    have e1:cZ (0:Int) (i:Int) (al.length:Int)=true:=aCp (by rw [hal];exact hi)
    have e2:fB (cut al (0:Int) (i:Int)) s.2.2[i].1=some (sD (cut al (0:Int) (i:Int)) s.2.2[i].1):=aEg (by rw [mL];exact bT7 (List.length_take_le _ _) (by omega))
    obtain ⟨b,eb,hb⟩: ∃ b:Bool,(cond (!(iY s.2.2[i])) (some true) (cond (!(eB (as,ls) s.2.2[i].1)) (some true) (cond (cZ (0:Int) (i:Int) (al.length:Int)) (Option.bind (fB (cut al (0:Int) (i:Int)) s.2.2[i].1) fun y20=>cond y20 (some true) (cond (s.2.2[i].2.2.1==(0:Int)) (some (decide ((i:Int)<(wr ((s.2.2.length:Int) - (1:Int)))))) (some false))) none)))=some b∧(b=false→eB (as,ls) s.2.2[i].1=true):=by
     rw [e1,e2,aA]
     cases iY s.2.2[i]
     ·exact ⟨true,rfl,fun e=>by cases e⟩
     ·cases eB (as,ls) s.2.2[i].1
      ·exact ⟨true,rfl,fun e=>by cases e⟩
      ·cases sD (cut al (0:Int) (i:Int)) s.2.2[i].1
       ·cases s.2.2[i].2.2.1==(0:Int)
        ·exact ⟨false,rfl,fun _=>rfl⟩
        ·exact ⟨_,rfl,fun _=>rfl⟩
       ·exact ⟨true,rfl,fun _=>rfl⟩
    rw [eb,aA]
    cases b with
    | true=>exact .inl ⟨.inr false,rfl,.inr rfl⟩
    | false=>
     have hok:=hb rfl
     by_cases hp:i=0
     ·subst hp
      refine .inr ⟨(al,((1:Nat):Int)),?_,rfl,rfl,fun _=>hok⟩
      rfl
     ·have hi1:i - 1<s.2.2.length:=by omega
      have w1:wr ((i:Int) - 1)=((i - 1:Nat):Int):=by rw [bK (by omega) (by omega)];omega
      have er:=aB1 (t:=(as,ls)) (r:=s.2.2[i - 1].1) (d:=s.2.2[i - 1].2.2.1) (show ls.length<=68719476736 by omega)
      simp only [zY,zX (show (i:Int)>0 by omega),zZ,w1,aF,bT6 hi1,aA,er]
      obtain ⟨b2,eb2⟩: ∃ b:Bool,(cond ((remote (as,ls) s.2.2[i - 1].1 s.2.2[i - 1].2.2.1).1 != s.2.2[i].1) (some true) (some ((remote (as,ls) s.2.2[i - 1].1 s.2.2[i - 1].2.2.1).2 != s.2.2[i].2.1)))=some b:=by
       cases (remote (as,ls) s.2.2[i - 1].1 s.2.2[i - 1].2.2.1).1 != s.2.2[i].1<;>exact ⟨_,rfl⟩
      rw [eb2,aA]
      cases b2 with
      | true=>exact .inl ⟨.inr false,rfl,.inr rfl⟩
      | false=>
       refine .inr ⟨(al,((i+1:Nat):Int)),?_,rfl,rfl,fun _=>g2 (by omega)⟩
       simp only [zY,aA,bVe,bE (show i<=1000000000 by omega)]
   ·rintro ⟨_,_⟩ rfl ⟨rfl,g2⟩
    exact ⟨.inl (),by simp only [zW (bUm _),zY],.inl ⟨rfl,g2 h00⟩⟩
   ·rintro r (⟨rfl,hr⟩ | rfl)
    ·exact ⟨true,rfl,fun _=>⟨s.2.2[0],bT6 h00,hr⟩⟩
    ·exact ⟨false,rfl,fun e=>by cases e⟩

theorem bN6 {as:lAS} {ls:lLk} (ht:wL as ls) {s:den tSg} (h:s.2.2.length<=1000): ∃ v,gB (as,ls) s=some v:=by
 have hlen:=ht.len
 unfold gB pj2 pj3 pj5
 refine bV (G:=fun o=> ∃ b,o=some b) s.2.2.length (fun s:Int=>s) (fun i t=>True) (fun r:Unit⊕Int=>True) ?_ ?_ 0 (0:Int) (by omega) rfl trivial ?_
 ·rintro i _ hi rfl _
  obtain ⟨bt,et⟩:=zP (s:=s) (i:Int) (by omega)
  have et:gF (s.1,s.2.1,s.2.2) (i:Int)=some bt:=et
  have ev:=aT9 (t:=(as,ls)) (ts:=s.1) (beta:=bt) (h:=s.2.2[i]) (show as.length<=68719476736 by omega)
  have ev:fO (as,ls) s.1 bt (s.2.2[i].1,s.2.2[i].2.1,s.2.2[i].2.2.1,s.2.2[i].2.2.2.1,s.2.2[i].2.2.2.2)=some _:=ev
  simp only [zX (show (i:Int)<(s.2.2.length:Int) by omega),zZ,aF,bT6 hi,aA,et,ev,bE (show i<=1000000000 by omega)]
  cases aBw (as,ls) s.1 bt s.2.2[i] with
  | true=>exact .inr ⟨_,rfl,rfl,trivial⟩
  | false=>exact .inl ⟨_,rfl,trivial⟩
 ·rintro _ rfl _
  exact ⟨.inl (),by simp only [zW (bUm _),zY],trivial⟩
 ·rintro r _
  cases r with
  | inl u=>exact ⟨_,rfl⟩
  | inr v=>exact ⟨_,rfl⟩

theorem aRy {as:lAS} {ls:lLk} (ht:wL as ls) {s:den tSg} (h:s.2.2.length<=1000): ∃ v,gC (as,ls) s=some v:=by
 have hlen:=ht.len
 have hlk:=ht.links
 obtain ⟨b,eb,hb⟩:=aYj ht h
 unfold gC pj2 pj3
 have eb:iH (as,ls) (s.1,s.2.1,s.2.2)=some b:=eb
 rw [eb,aA]
 cases b with
 | false=>exact ⟨0,rfl⟩
 | true=>
  obtain ⟨x,hx,hok⟩:=hb rfl
  obtain ⟨h0,rfl⟩:=bUg.1 hx
  obtain ⟨y,hy,iy⟩:=aG5 hok
  have ef:cE (s.1,s.2.1,s.2.2)=some s.2.2[0].1:=by
   unfold cE
   rw [show ((s.2.2.length:Int)==0)=false by rw [beq_eq_false_iff_ne];omega,zY,show (0:Int)=((0:Nat):Int) from rfl,aF,bT6 h0,aA]
  have iy:idx as s.2.2[0].1=some y:=iy
  simp only [bUc,zY,ef,iy,aA]
  cases y.2.1 with
  | false=>exact ⟨0,rfl⟩
  | true=>
   simp only [bUc,zY]
   refine bV (G:=fun o=> ∃ b,o=some b) s.2.2.length (fun s:Int×Int=>s.2) (fun i t=>True) (fun r:Int⊕Int=>True) ?_ ?_ 0 ((0:Int),(0:Int)) (by omega) rfl trivial ?_
   ·rintro i ⟨k,_⟩ hi rfl _
    have ek:=aPk (t:=(as,ls)) (r:=s.2.2[i].1) (d:=s.2.2[i].2.2.1) (show ls.length<=68719476736 by omega)
    simp only [zX (show (i:Int)<(s.2.2.length:Int) by omega),zZ,aF,bT6 hi,aA,ek,bE (show i<=1000000000 by omega)]
    cases s.2.2[i].2.2.1==(0:Int) with
    | true=>exact .inr ⟨_,rfl,rfl,trivial⟩
    | false=>
     cases k != (0:Int) with
     | false=>exact .inr ⟨_,rfl,rfl,trivial⟩
     | true=>
      simp only [zZ,zY,aA]
      cases zG (as,ls) s.2.2[i].1 s.2.2[i].2.2.1 != k with
      | true=>exact .inl ⟨_,rfl,trivial⟩
      | false=>exact .inr ⟨_,rfl,rfl,trivial⟩
   ·rintro ⟨k,_⟩ rfl _
    exact ⟨.inl k,by simp only [zW (bUm _),zY],trivial⟩
   ·rintro r _
    cases r with
    | inr v=>exact ⟨_,rfl⟩
    | inl v=>
     simp only [bVe]
     cases v==(1:Int)
     ·cases v==(2:Int)<;>exact ⟨_,rfl⟩
     ·exact ⟨_,rfl⟩

theorem aZg {as:lAS} {ls:lLk} (ht:wL as ls) {s:den tSg} (h:s.2.2.length<=1000): ∃ b,jW (as,ls) s=some b∧(b=true→s.2.2≠[]):=by
 obtain ⟨b,eb,hb⟩:=aYj ht h
 have hb:b=true→s.2.2≠[]:=fun e he=>by
  obtain ⟨x,hx,_⟩:=hb e
  rw [he] at hx
  cases hx
 obtain ⟨v,ev⟩:=bN6 ht h
 obtain ⟨k,ek⟩:=aRy ht h
 have eb:iH (as,ls) (s.1,s.2.1,s.2.2)=some b:=eb
 have ev:gB (as,ls) (s.1,s.2.1,s.2.2)=some v:=ev
 have ek:gC (as,ls) (s.1,s.2.1,s.2.2)=some k:=ek
 unfold jW pj2 pj3
 simp only [eb,ev,ek,gQ,aB0,aA]
 cases b
 ·exact ⟨_,rfl,fun e=>Bool.noConfusion e⟩
 ·have hb:=hb rfl
  cases decide (v<0)
  ·exact ⟨_,rfl,fun _=>hb⟩
  ·cases k != (0:Int)
   ·exact ⟨_,rfl,fun _=>hb⟩
   ·cases inR s.1 0 1000000<;>exact ⟨_,rfl,fun _=>hb⟩

theorem bHy {s:den tSg} (h:s.2.2.length<=1000): ∃ b,kD s=some b:=by
 unfold kD
 by_cases h0:(s.2.2.length:Int)>0
 ·have w1:wr ((s.2.2.length:Int) - 1)=((s.2.2.length - 1:Nat):Int):=by rw [bK (by omega) (by omega)];omega
  rw [zX h0,zZ,w1,aF,bT6 (by omega),aA,aA]
  exact ⟨_,rfl⟩
 ·rw [zW h0,zY]
  exact ⟨_,rfl⟩

theorem aN3 {a b:dA} (h:a.length<=1000000): ∃ v,iI a b=some v:=by
 unfold iI zz4
 by_cases hn:a.length=b.length
 ·rw [hn,bne_self_eq_false,zY,← hn]
  refine bV (G:=fun o=> ∃ b,o=some b) a.length (fun s:Int=>s) (fun i t=>True) (fun r:Unit⊕Bool=>True) ?_ ?_ 0 (0:Int) (by omega) rfl trivial ?_
  ·rintro i _ hi rfl _
   have h2:i<b.length:=by omega
   simp only [zX (show (i:Int)<(a.length:Int) by omega),zZ,aF,bT6 hi,bT6 h2,aA,bE (show i<=1000000000 by omega)]
   cases ((a[i].1==b[i].1)&&((a[i].2.1==b[i].2.1)&&((a[i].2.2.1==b[i].2.2.1)&&((a[i].2.2.2.1==b[i].2.2.2.1)&&((a[i].2.2.2.2==b[i].2.2.2.2)&&true))))) with
   | true=>exact .inr ⟨_,rfl,rfl,trivial⟩
   | false=>exact .inl ⟨_,rfl,trivial⟩
  ·rintro _ rfl _
   exact ⟨.inl (),by simp only [zW (bUm _),zY],trivial⟩
  ·rintro r _
   cases r with
   | inl u=>exact ⟨_,rfl⟩
   | inr v=>exact ⟨_,rfl⟩
 ·rw [show ((a.length:Int) != (b.length:Int))=true by rw [bne_iff_ne];omega,zZ]
  exact ⟨_,rfl⟩

theorem bDc {a b:den tSg} (h:a.2.2.length<=1000000): ∃ v,iX a b=some v:=by
 obtain ⟨v,e⟩:=aN3 (b:=b.2.2) h
 unfold iX
 rw [e,aA]
 cases a.1==b.1
 ·exact ⟨_,rfl⟩
 ·cases a.2.1==b.2.1<;>exact ⟨_,rfl⟩

theorem aU2 {l:lSg} {s:den tSg} (hl:l.length<=1000000) (h: ∀ x∈l,x.2.2.length<=1000): ∃ v,sG l s=some v:=by
 unfold sG pj3
 refine bV (G:=fun o=> ∃ b,o=some b) l.length (fun s:Int=>s) (fun i t=>True) (fun r:Unit⊕Bool=>True) ?_ ?_ 0 (0:Int) (by omega) rfl trivial ?_
 ·rintro i _ hi rfl _
  obtain ⟨v,e⟩:=bDc (a:=l[i]) (b:=s) (by have :=h l[i] (bUj hi);omega)
  have e:iX (l[i].1,l[i].2.1,l[i].2.2) (s.1,s.2.1,s.2.2)=some v:=e
  simp only [zX (show (i:Int)<(l.length:Int) by omega),zZ,aF,bT6 hi,aA,e,bE (show i<=1000000000 by omega)]
  cases v with
  | false=>exact .inr ⟨_,rfl,rfl,trivial⟩
  | true=>exact .inl ⟨_,rfl,trivial⟩
 ·rintro _ rfl _
  exact ⟨.inl (),by simp only [zW (bUm _),zY],trivial⟩
 ·rintro r _
  cases r with
  | inl u=>exact ⟨_,rfl⟩
  | inr v=>exact ⟨_,rfl⟩


structure DbD (n:Nat) (d c:lSg):Prop where
 down:d.length<=n
 core:c.length<=n
 hd: ∀ x∈d,x.2.2.length<=5
 hc: ∀ x∈c,x.2.2.length<=5
 ha: ∀ x∈d,x.2.2≠[]∧aD5 x.2.2

theorem aKw {l:lSg} {n:Nat} (hn:n<=1000) (h:l.length<=n) (hh: ∀ x∈l,x.2.2.length<=5):SmB 68719476736 (.sl tSg) l:=by
 refine ⟨by omega,fun x hx=>⟨trivial,trivial,?_,fun e he=>⟨trivial,trivial,trivial,trivial,trivial⟩⟩⟩
 have :=hh x hx
 show x.2.2.length<=_
 omega

theorem bJ3 {as:lAS} {ls:lLk} (ht:wL as ls) {n:Nat} (hn:n<=100) {d c:lSg} (hk:DbD n d c) {s:den tSg} (h:s.2.2.length<=5) (ha:aD5 s.2.2): ∃ d' c',mH (as,ls) (d,c) s=some (d',c')∧DbD (n+1) d' c':=by
 obtain ⟨b1,e1,hb1⟩:=aZg ht (s:=s) (by omega)
 obtain ⟨b2,e2⟩:=bHy (s:=s) (by omega)
 obtain ⟨b3,e3⟩:=aU2 (l:=d) (s:=s) (by have :=hk.down;omega) (fun x hx=>by have :=hk.hd x hx;omega)
 obtain ⟨b4,e4⟩:=aU2 (l:=c) (s:=s) (by have :=hk.core;omega) (fun x hx=>by have :=hk.hc x hx;omega)
 obtain ⟨k,ek⟩:=aRy ht (s:=s) (by omega)
 have c1:=aBg (aKw (by omega) hk.down hk.hd)
 have c2:=aBg (aKw (by omega) hk.core hk.hc)
 have c3:=aDq (x:=s) (by omega)
 have e5: ∃ b,mI (d,c) s=some b:=by
  unfold mI pj3
  have e3:sG d (s.1,s.2.1,s.2.2)=some b3:=e3
  have e4:sG c (s.1,s.2.1,s.2.2)=some b4:=e4
  simp only [e3,e4,aA]
  cases b3<;>exact ⟨_,rfl⟩
 obtain ⟨b5,e5⟩:=e5
 have hdn:=hk.down
 have hcn:=hk.core
 have e1:jW (as,ls) (s.1,s.2.1,s.2.2)=some b1:=e1
 have e2:kD (s.1,s.2.1,s.2.2)=some b2:=e2
 have e5:mI (d,c) (s.1,s.2.1,s.2.2)=some b5:=e5
 have ek:gC (as,ls) (s.1,s.2.1,s.2.2)=some k:=ek
 have c3:fN (s.1,s.2.1,s.2.2)=some s:=c3
 have same:DbD (n+1) d c:=⟨by omega,by omega,hk.hd,hk.hc,hk.ha⟩
 unfold mH pj2 pj3
 simp only [c1,c2,aA,aP,bD,aW,aV,aX,e1,e2,e5,ek,c3,aE (b:=40) (n:=d.length) (m:=1) (by decide) (by omega),aE (b:=40) (n:=c.length) (m:=1) (by decide) (by omega),zZ]
 obtain ⟨b6,e6,hb6⟩: ∃ b:Bool,(cond (!b1) (some true) (cond (!b2) (some true) (some b5)))=some b∧(b=false→b1=true):=by
  cases b1
  ·exact ⟨_,rfl,fun e=>Bool.noConfusion e⟩
  ·cases b2<;>exact ⟨_,rfl,fun _=>rfl⟩
 rw [e6,aA]
 cases b6 with
 | true=>exact ⟨d,c,rfl,same⟩
 | false=>
  have hne:=hb1 (hb6 rfl)
  cases k==(2:Int) with
  | true=>exact ⟨_,_,rfl,by simp;omega,by simp only;omega,fun x hx=>(bUe.1 hx).elim (hk.hd x) fun hx=>by rw [bUd.1 hx];exact h,hk.hc,fun x hx=>(bUe.1 hx).elim (hk.ha x) fun hx=>by rw [bUd.1 hx];exact ⟨hne,ha⟩⟩
  | false=>exact ⟨_,_,rfl,by simp only;omega,by simp;omega,hk.hd,fun x hx=>(bUe.1 hx).elim (hk.hc x) fun hx=>by rw [bUd.1 hx];exact h,hk.ha⟩

theorem DbD.mono {n m:Nat} {d c:lSg} (h:DbD n d c) (hm:n<=m):DbD m d c:=⟨bT7 h.down hm,bT7 h.core hm,h.hd,h.hc,h.ha⟩

theorem aRk {s:den tSg} (h:s.2.2.length<=1000): ∃ v,eD s=some v:=by
 unfold eD
 by_cases h0:s.2.2.length=0
 ·rw [show ((s.2.2.length:Int)==0)=true by rw [beq_iff_eq];omega,zZ]
  exact ⟨_,rfl⟩
 ·have w1:wr ((s.2.2.length:Int) - 1)=((s.2.2.length - 1:Nat):Int):=by rw [bK (by omega) (by omega)];omega
  rw [show ((s.2.2.length:Int)==0)=false by rw [beq_eq_false_iff_ne];omega,zY,w1,aF,bT6 (by omega),aA]
  exact ⟨_,rfl⟩

theorem bHr {s:den tSg} (h:s.2.2.length<=1000) (h0:s.2.2≠[]) (ha:aD5 s.2.2): ∃ v,eD s=some v∧0<=v∧v<8:=by
 have hl:=List.length_pos_iff.2 h0
 unfold eD
 have w1:wr ((s.2.2.length:Int) - 1)=((s.2.2.length - 1:Nat):Int):=by rw [bK (by omega) (by omega)];omega
 rw [show ((s.2.2.length:Int)==0)=false by rw [beq_eq_false_iff_ne];omega,zY,w1,aF,bT6 (by omega),aA]
 have :=ha _ (bUj (show s.2.2.length - 1<s.2.2.length by omega))
 exact ⟨_,rfl,this.1,this.2⟩

theorem aHo {s:den tSg}: ∃ v,cE s=some v:=by
 unfold cE
 by_cases h0:s.2.2.length=0
 ·rw [show ((s.2.2.length:Int)==0)=true by rw [beq_iff_eq];omega,zZ]
  exact ⟨_,rfl⟩
 ·rw [show ((s.2.2.length:Int)==0)=false by rw [beq_eq_false_iff_ne];omega,zY,show (0:Int)=((0:Nat):Int) from rfl,aF,bT6 (by omega),aA]
  exact ⟨_,rfl⟩

theorem aVx {code:List Int} (hl:code.length<=1048576) {d:lSg} (hd:d.length<=200) (h5: ∀ x∈d,x.2.2.length<=5) (ha: ∀ x∈d,x.2.2≠[]∧aD5 x.2.2) (k:Int) (hk:0<k∧k<=256) (z:Int) (hz:0<=z∧z<8) {c:List Int} {p h:Int} (hc:Cur code (c,p,h)):
  ∃ v c' p' h',(Option.bind (cond (decide ((d.length:Int)>(0:Int))) (Option.bind (cD (c,p,h) k) fun y3=>some (!y3.1,y3.2.1,y3.2.2.1,y3.2.2.2)) (some (false,c,p,h))) fun (s4:Bool×List Int×q28)=>cond s4.1 (Option.bind (aB (s4.2.1,s4.2.2.1,s4.2.2.2) (d.length:Int)) fun y5=>Option.bind (idx d y5.1) fun x6=>Option.bind (eD (x6.1,x6.2.1,x6.2.2)) fun y7=>some (y7,y5.2.1,y5.2.2.1,y5.2.2.2)) (some (z,s4.2.1,s4.2.2.1,s4.2.2.2)):Option (Int×List Int×q28))=some (v,c',p',h')∧(0<=v∧v<8)∧Cur code (c',p',h'):=by
 by_cases h0:(d.length:Int)>0
 ·obtain ⟨v1,c1,p1,h1,e1,k1⟩:=mO hl (n:=k) hk.1 hk.2 hc
  simp only [zX h0,zZ,e1,aA]
  cases v1 with
  | true=>exact ⟨z,c1,p1,h1,rfl,hz,k1⟩
  | false=>
   obtain ⟨v2,c2,p2,h2,e2,r2,k2⟩:=aH hl (n:=(d.length:Int)) h0 (by omega) k1
   obtain ⟨m2,rfl⟩:=bUu r2.1
   have hm:m2<d.length:=by omega
   obtain ⟨v3,e3,r3⟩:=bHr (s:=d[m2]) (by have :=h5 d[m2] (bUj hm);omega) (ha d[m2] (bUj hm)).1 (ha d[m2] (bUj hm)).2
   have e3:eD (d[m2].1,d[m2].2.1,d[m2].2.2)=some v3:=e3
   exact ⟨v3,c2,p2,h2,by simp only [bUn,zZ,e2,aA,aF,bT6 hm,e3],r3,k2⟩
 ·exact ⟨z,c,p,h,by simp only [zW h0,zY,aA],hz,hc⟩

theorem bM1 {code:List Int} (hl:code.length<=1048576) {n:Nat} (hn:n<=100) {d cc:lSg} (hk:DbD n d cc) {c:List Int} {p h:Int} (hc:Cur code (c,p,h)): ∃ a b c' p' h',vB (c,p,h) (d,cc)=some (a,b,c',p',h')∧((0<=a∧a<8)∧(0<=b∧b<8))∧Cur code (c',p',h'):=by
 have hd:=hk.down
 obtain ⟨v1,c1,p1,h1,e1,r1,k1⟩:=aH hl (n:=8) (by decide) (by decide) hc
 obtain ⟨v2,c2,p2,h2,e2,r2,k2⟩:=aH hl (n:=8) (by decide) (by decide) k1
 obtain ⟨v3,c3,p3,h3,e3,r3,k3⟩:=aVx hl (d:=d) (by omega) hk.hd hk.ha 4 (by decide) v1 r1 k2
 obtain ⟨v4,c4,p4,h4,e4,r4,k4⟩:=aVx hl (d:=d) (by omega) hk.hd hk.ha 3 (by decide) v2 r2 k3
 refine ⟨v3,v4,c4,p4,h4,?_,⟨r3,r4⟩,k4⟩
 unfold vB pj3 pj4
 simp only [e1,e2,aA,aP,bD,aW,aV,aX]
 rw [e3,aA,e4,aA]


def aGr (n:Nat) (l:lSg):Prop:=l.length<=n∧ ∀ x∈l,x.2.2.length<=5

theorem vZ {s:den tSg} (h:s.2.2.length<=5) (k i:Int): ∃ q:den tPp,bM s k i=some q∧q.2.2.2.length<=5:=by
 unfold bM pj3 pj4 pj5 zz4
 obtain ⟨b1,eb1⟩:=zP (s:=s) i (by omega)
 obtain ⟨b2,eb2⟩:=zP (s:=s) (s.2.2.length:Int) (by omega)
 have eb1:gF (s.1,s.2.1,s.2.2) i=some b1:=eb1
 have eb2:gF (s.1,s.2.1,s.2.2) (s.2.2.length:Int)=some b2:=eb2
 simp only [gQ,aA,aP,bD,aW,aV,aX,eb1,eb2,aBk]
 have w1:wr ((s.2.2.length:Int) - 1)=(s.2.2.length:Int) - 1:=bK (by omega) (by omega)
 rw [w1]
 cases c1:inR i 0 ((s.2.2.length:Int) - 1) with
 | false=>exact ⟨(0,0,0,[]),rfl,by simp⟩
 | true=>
  cases inR k 1 4 with
  | false=>exact ⟨(0,0,0,[]),rfl,by simp⟩
  | true=>
   obtain ⟨h0,h1⟩:=bS.1 c1
   obtain ⟨m,rfl⟩:=bUu h0
   simp only [bUc,zY,aA]
   cases jC k with
   | false=>
    have e1:cZ (m:Int) (s.2.2.length:Int) (s.2.2.length:Int)=true:=aAh (by omega)
    have l1:(cut s.2.2 (m:Int) (s.2.2.length:Int)).length<=5:=by unfold cut;rw [bVk,bV6];omega
    rw [e1,aE (b:=40) (by decide) (by simp;omega)]
    exact ⟨_,rfl,by simpa using l1⟩
   | true=>
    refine fY (G:=fun o=> ∃ q:den tPp,o=some q∧q.2.2.2.length<=5) (fun (n:Nat) (t:Int×q21)=>t.1=(n:Int) - 1∧n+t.2.2.2.2.length<=s.2.2.length) (fun q:den tPp=>q.2.2.2.length<=5) ?_ s.2.2.length ((s.2.2.length:Int) - 1,k,s.1,b2,[]) ⟨rfl,by simp⟩ (fun q hq=>⟨q,rfl,hq⟩)
    rintro n ⟨_,x,y,z,l⟩ ⟨rfl,g⟩
    simp only at g
    by_cases hn:(n:Int) - 1>=(m:Int)
    ·right
     have hn1:(n:Int) - 1=((n - 1:Nat):Int):=by omega
     have hi:n - 1<s.2.2.length:=by omega
     refine ⟨n - 1,(((n - 1:Nat):Int) - 1,x,y,z,l++[s.2.2[n - 1]]),by omega,?_,rfl,by simp;omega⟩
     simp only [zX hn,zZ,aE (b:=40) (n:=l.length) (m:=1) (by decide) (by omega)]
     rw [hn1,aF,bT6 hi,aA,bK (n:=((n - 1:Nat):Int) - 1) (by omega) (by omega)]
    ·left
     exact ⟨(x,y,z,l),by simp only [zW hn,zY],by show l.length<=5;omega⟩


def mA (p:den tPt):Prop:=bUk (α:=den tPp) p<=3∧ ∀ x:den tPp,x∈(show lPp from p)→x.2.2.2.length<=5

def uU (n:Nat) (l:lPt):Prop:=l.length<=n∧ ∀ p∈l,mA p

theorem aMa:mA []:=⟨by simp,fun x hx=>(bUr hx).elim⟩

theorem uU.add {n m:Nat} {a b:lPt} (ha:uU n a) (hb:uU m b):uU (n+m) (a++b):=⟨by rw [bU0];have :=ha.1;have :=hb.1;omega,fun p hp=>(bUe.1 hp).elim (ha.2 p) (hb.2 p)⟩

theorem aAo {n:Nat} (h:n<=1000000000):wr ((n:Int) - 1)=(n:Int) - 1:=bK (by omega) (by omega)

theorem bJh {up down:den tSg} (h1:up.2.2.length<=5) (h2:down.2.2.length<=5): ∃ p,iG up down=some p∧mA p:=by
 obtain ⟨y1,e1,l1⟩:=aBj (s:=up) (by omega)
 obtain ⟨y2,e2,l2⟩:=aBj (s:=down) (by omega)
 have e1:cX (up.1,up.2.1,up.2.2)=some y1:=e1
 have e2:cX (down.1,down.2.1,down.2.2)=some y2:=e2
 have hm: ∃ p,iP up down=some p∧mA p:=by
  unfold iP ixb pj3 pj4
  rw [e1,aA,e2,aA,aAo (n:=y1.length) (by omega)]
  refine fY (G:=fun o=> ∃ p,o=some p∧mA p) (fun (n:Nat) (s:Int)=>s=(n:Int) - 1∧n<=y1.length) (fun z:Unit⊕den tPt=> ∀ p,z= .inr p→mA p) ?_ y1.length ((y1.length:Int) - 1) ⟨rfl,bUo _⟩ ?_
  ·rintro n _ ⟨rfl,hn⟩
   by_cases h0:(n:Int) - 1>=0
   ·simp only [zX h0,zZ]
    have hn1:(n:Int) - 1=((n - 1:Nat):Int):=by omega
    have hi:n - 1<y1.length:=by omega
    rw [aAo (n:=y2.length) (by omega)]
    refine fY (G:=fun (o:Option (Int⊕(Unit⊕den tPt)))=>(∃ r:Unit⊕den tPt,o=some (bT4 r)∧ ∀ p,r=bT4 p→mA p)∨ ∃ (m:Nat) (s':Int),m<n∧o=some (bT5 s')∧s'=(m:Int) - 1∧m<=y1.length) (fun (k:Nat) (s:Int)=>s=(k:Int) - 1∧k<=y2.length) (fun z:Unit⊕(Int⊕(Unit⊕den tPt))=>z= .inl ()∨ ∃ p,z= .inr (.inr (.inr p))∧mA p) ?_ y2.length ((y2.length:Int) - 1) ⟨rfl,bUo _⟩ ?_
    ·rintro k _ ⟨rfl,hk⟩
     by_cases g0:(k:Int) - 1>=0
     ·have hk1:(k:Int) - 1=((k - 1:Nat):Int):=by omega
      have hj:k - 1<y2.length:=by omega
      simp only [hn1,hk1,zX (show ((k - 1:Nat):Int)>=0 by omega),zX (show (0:Int)<=((n - 1:Nat):Int) by omega),zX (show (0:Int)<=((k - 1:Nat):Int) by omega),zX (show ((n - 1:Nat):Int)<(y1.length:Int) by omega),zX (show ((k - 1:Nat):Int)<(y2.length:Int) by omega),zZ,bUf,bT6 hi,bT6 hj,aA]
      cases y1[n - 1]==y2[k - 1] with
      | true=>
       obtain ⟨q1,f1,g1⟩:=vZ h1 1 ((n - 1:Nat):Int)
       obtain ⟨q2,f2,g2⟩:=vZ h2 4 ((k - 1:Nat):Int)
       have f1:bM (up.1,up.2.1,up.2.2) 1 ((n - 1:Nat):Int)=some q1:=f1
       have f2:bM (down.1,down.2.1,down.2.2) 4 ((k - 1:Nat):Int)=some q2:=f2
       exact .inl ⟨.inr (.inr (.inr [q1,q2])),by simp only [zZ,f1,f2,aA],.inr ⟨[q1,q2],rfl,by simp,fun x hx=>by
        have hx:x∈[q1,q2]:=hx
        simp only [bT9,bUr,or_false] at hx
        rcases hx with rfl | rfl
        ·exact g1
        ·exact g2⟩⟩
      | false=>exact .inr ⟨k - 1,((k - 1:Nat):Int) - 1,by omega,by simp only [zY,aAo (n:=k - 1) (by omega)],rfl,by omega⟩
     ·exact .inl ⟨.inl (),by simp only [zW g0,zY],.inl rfl⟩
    ·rintro z (rfl | ⟨p,rfl,hp⟩)
     ·exact .inr ⟨n - 1,((n - 1:Nat):Int) - 1,by omega,by simp only [bVe,hn1,aAo (n:=n - 1) (by omega)],rfl,by omega⟩
     ·exact .inl ⟨.inr p,rfl,fun q hq=>by cases hq;exact hp⟩
   ·exact .inl ⟨.inl (),by simp only [zW h0,zY],fun p hp=>by cases hp⟩
  ·rintro z hz
   cases z with
   | inl u=>exact ⟨[],rfl,aMa⟩
   | inr p=>exact ⟨p,rfl,hz p rfl⟩
 obtain ⟨p,ep,kp⟩:=hm
 have ep:iP (up.1,up.2.1,up.2.2) (down.1,down.2.1,down.2.2)=some p:=ep
 exact ⟨p,by unfold iG pj3;rw [ep,aA],kp⟩

theorem uU.one {p:den tPt} (h:mA p):uU 1 [p]:=⟨by simp,fun q hq=>by rw [bUd.1 hq];exact h⟩

theorem uU.mono {n m:Nat} {l:lPt} (h:uU n l) (hm:n<=m):uU m l:=⟨bT7 h.1 hm,h.2⟩

theorem wU {t:Ty} {B:Nat}: ∀ {l:List (den t)},(∀ x∈l,tot t x<=B)→tot (.sl t) l<=(B+1) * l.length
 | [],_=>by simp [tot]
 | x::l,h=>by
  have ih:=wU (l:=l) fun y hy=>h y (bUl _ hy)
  have hx:=h x (by simp)
  rw [kH,bU7,Nat.mul_add,Nat.mul_one]
  omega

theorem aTk {q:den tPp} (h:q.2.2.2.length<=5):tot tPp q<=5:=by
 show tot ti q.1+(tot ti q.2.1+(tot ti q.2.2.1+tot (.sl bZ) q.2.2.2))<=5
 rw [dD (t:=bZ) rfl]
 show 0+(0+(0+q.2.2.2.length))<=5
 omega

theorem aGk {p:den tPt} (h:mA p):tot tPt p<=18:=by
 have h1:=wU (t:=tPp) (B:=5) (l:=p) fun x hx=>aTk (h.2 x hx)
 have h2:=h.1
 show tot (.sl tPp) p<=18
 have :(5+1) * bUk (α:=den tPp) p<=18:=by omega
 exact bT7 h1 this

theorem aRq {n:Nat} {l:lPt} (h:uU n l):tot (.sl tPt) l<=19 * n:=by
 have h1:=wU (t:=tPt) (B:=18) (l:=l) fun x hx=>aGk (h.2 x hx)
 have h2:=h.1
 have :(18+1) * l.length<=19 * n:=by omega
 exact bT7 h1 this

theorem bEs {as:lAS} {ls:lLk} (ht:wL as ls) {q:den tPp} (h:q.2.2.2.length<=5): ∃ b,mS (as,ls) q=some b:=by
 have hlen:=ht.len
 unfold mS pj2 pj4 pj5
 refine bV (G:=fun o=> ∃ b,o=some b) q.2.2.2.length (fun s:Int=>s) (fun i t=>True) (fun r:Unit⊕Bool=>True) ?_ ?_ 0 (0:Int) (by omega) rfl trivial ?_
 ·rintro i _ hi rfl _
  obtain ⟨bt,et⟩: ∃ v,vL (q.1,q.2.1,q.2.2.1,q.2.2.2) (i:Int)=some v:=by
   unfold vL pj4
   have e1:=aP8 (p:=q) (n:=i) (by omega) (by omega)
   have e2:=aP8 (p:=q) (n:=i+1) (by omega) (by omega)
   have e1:gN (q.1,q.2.1,q.2.2.1,q.2.2.2) (i:Int)=some _:=e1
   have e2:gN (q.1,q.2.1,q.2.2.1,q.2.2.2) ((i+1:Nat):Int)=some _:=e2
   simp only [aBk,aA,bE (show i<=1000000000 by omega),e1,e2]
   cases jC q.1<;>exact ⟨_,rfl⟩
  have ev:=aT9 (t:=(as,ls)) (ts:=q.2.1) (beta:=bt) (h:=q.2.2.2[i]) (show as.length<=68719476736 by omega)
  have ev:fO (as,ls) q.2.1 bt (q.2.2.2[i].1,q.2.2.2[i].2.1,q.2.2.2[i].2.2.1,q.2.2.2[i].2.2.2.1,q.2.2.2[i].2.2.2.2)=some _:=ev
  simp only [zX (show (i:Int)<(q.2.2.2.length:Int) by omega),zZ,aF,bT6 hi,aA,et,ev,bE (show i<=1000000000 by omega)]
  cases aBw (as,ls) q.2.1 bt q.2.2.2[i] with
  | true=>exact .inr ⟨_,rfl,rfl,trivial⟩
  | false=>exact .inl ⟨_,rfl,trivial⟩
 ·rintro _ rfl _
  exact ⟨.inl (),by simp only [zW (bUm _),zY],trivial⟩
 ·rintro r _
  cases r with
  | inl u=>exact ⟨_,rfl⟩
  | inr v=>exact ⟨_,rfl⟩

theorem bIt {as:lAS} {ls:lLk} (ht:wL as ls) {p:lPp} (h:mA p): ∃ b,oW (as,ls) p=some b:=by
 have h3:=h.1
 unfold oW pj2 pj4
 refine bV (G:=fun o=> ∃ b,o=some b) p.length (fun s:Int=>s) (fun i t=>True) (fun r:Unit⊕Bool=>True) ?_ ?_ 0 (0:Int) (by omega) rfl trivial ?_
 ·rintro i _ hi rfl _
  obtain ⟨b,eb⟩:=bEs ht (q:=p[i]) (h.2 p[i] (bUj hi))
  have eb:mS (as,ls) (p[i].1,p[i].2.1,p[i].2.2.1,p[i].2.2.2)=some b:=eb
  simp only [zX (show (i:Int)<(p.length:Int) by omega),zZ,aF,bT6 hi,aA,eb,bE (show i<=1000000000 by omega)]
  cases b with
  | true=>exact .inr ⟨_,rfl,rfl,trivial⟩
  | false=>exact .inl ⟨_,rfl,trivial⟩
 ·rintro _ rfl _
  exact ⟨.inl (),by simp only [zW (bUm _),zY],trivial⟩
 ·rintro r _
  cases r with
  | inl u=>exact ⟨_,rfl⟩
  | inr v=>exact ⟨_,rfl⟩

theorem aZf {as:lAS} {ls:lLk} (ht:wL as ls) {p:lPp} (h:mA p) (now:Int): ∃ b,pA (as,ls) p now=some b:=by
 have hlen:=ht.len
 have hlk:=ht.links
 have h3:=h.1
 have e1:=aQ7 (t:=(as,ls)) (p:=p) (show as.length<=_ by omega) (show ls.length<=_ by omega) (bT7 (aGk h) (by decide))
 obtain ⟨b2,e2⟩:=bIt ht h
 unfold pA pj2 pj5
 rw [e1,aA,e2,aA]
 obtain ⟨b3,e3⟩: ∃ b:Bool,(cond (!(wF (as,ls) p)) (some true) (some (!b2)))=some b:=by cases wF (as,ls) p<;>exact ⟨_,rfl⟩
 rw [e3,aA]
 cases b3 with
 | true=>exact ⟨_,rfl⟩
 | false=>
  refine bV (G:=fun o=> ∃ b,o=some b) p.length (fun s:Int=>s) (fun i t=>True) (fun r:Unit⊕Bool=>True) ?_ ?_ 0 (0:Int) (by omega) rfl trivial ?_
  ·rintro i _ hi rfl _
   have hh:=h.2 p[i] (bUj hi)
   simp only [zX (show (i:Int)<(p.length:Int) by omega),zZ,aF,bT6 hi,aA]
   cases decide (p[i].2.1>now) with
   | true=>exact .inl ⟨_,rfl,trivial⟩
   | false=>
    simp only [zY]
    refine bV (G:=fun (o:Option (Int⊕(Unit⊕Bool)))=>(∃ r,o=some (bT4 r)∧True)∨ ∃ s':Int,o=some (bT5 s')∧s'=((i+1:Nat):Int)∧True) p[i].2.2.2.length (fun s:Int=>s) (fun j t=>True) (fun z:Unit⊕(Int⊕(Unit⊕Bool))=>z= .inl ()∨ ∃ b,z= .inr (.inr (.inr b))) ?_ ?_ 0 (0:Int) (by omega) rfl trivial ?_
    ·rintro j _ hj rfl _
     have ehv: ∀ (hp:den bZ) (n:Int),lA hp n=some (decide (n<=hp.2.2.2.1)):=fun _ _=>rfl
     simp only [zX (show (j:Int)<(p[i].2.2.2.length:Int) by omega),zZ,aF,bT6 hj,aA,ehv,bE (show j<=1000000000 by omega)]
     cases decide (now<=p[i].2.2.2[j].2.2.2.1) with
     | true=>exact .inr ⟨_,rfl,rfl,trivial⟩
     | false=>exact .inl ⟨_,rfl,.inr ⟨false,rfl⟩⟩
    ·rintro _ rfl _
     exact ⟨.inl (),by simp only [zW (bUm _),zY],.inl rfl⟩
    ·rintro z (rfl | ⟨b,rfl⟩)
     ·exact .inr ⟨((i+1:Nat):Int),by simp only [bVe,bE (show i<=1000000000 by omega)],rfl,trivial⟩
     ·exact .inl ⟨.inr b,rfl,trivial⟩
  ·rintro _ rfl _
   exact ⟨.inl (),by simp only [zW (bUm _),zY],trivial⟩
  ·rintro r _
   cases r with
   | inl u=>exact ⟨_,rfl⟩
   | inr v=>exact ⟨_,rfl⟩

theorem bG4 {a b:den tPp} (h:a.2.2.2.length<=5): ∃ v,jF a b=some v:=by
 obtain ⟨v,e⟩:=aN3 (a:=a.2.2.2) (b:=b.2.2.2) (by omega)
 unfold jF
 rw [e,aA]
 cases a.1==b.1
 ·exact ⟨_,rfl⟩
 ·cases a.2.1==b.2.1
  ·exact ⟨_,rfl⟩
  ·cases a.2.2.1==b.2.2.1<;>exact ⟨_,rfl⟩

theorem bNq {a b:lPp} (h:mA a): ∃ v,iF a b=some v:=by
 have h3:=h.1
 have h3:a.length<=3:=h3
 unfold iF pj4
 by_cases hn:a.length=b.length
 ·rw [hn,bne_self_eq_false,zY,← hn]
  refine bV (G:=fun o=> ∃ b,o=some b) a.length (fun s:Int=>s) (fun i t=>True) (fun r:Unit⊕Bool=>True) ?_ ?_ 0 (0:Int) (by omega) rfl trivial ?_
  ·rintro i _ hi rfl _
   have h2:i<b.length:=by omega
   obtain ⟨v,e⟩:=bG4 (a:=a[i]) (b:=b[i]) (h.2 a[i] (bUj hi))
   have e:jF (a[i].1,a[i].2.1,a[i].2.2.1,a[i].2.2.2) (b[i].1,b[i].2.1,b[i].2.2.1,b[i].2.2.2)=some v:=e
   simp only [zX (show (i:Int)<(a.length:Int) by omega),zZ,aF,bT6 hi,bT6 h2,aA,e,bE (show i<=1000000000 by omega)]
   cases v with
   | true=>exact .inr ⟨_,rfl,rfl,trivial⟩
   | false=>exact .inl ⟨_,rfl,trivial⟩
  ·rintro _ rfl _
   exact ⟨.inl (),by simp only [zW (bUm _),zY],trivial⟩
  ·rintro r _
   cases r with
   | inl u=>exact ⟨_,rfl⟩
   | inr v=>exact ⟨_,rfl⟩
 ·rw [show ((a.length:Int) != (b.length:Int))=true by rw [bne_iff_ne];omega,zZ]
  exact ⟨_,rfl⟩

theorem bHq {n:Nat} (hn:n<=100000) {l:lPt} (h:uU n l) (p:den tPt): ∃ v,vI l p=some v:=by
 have h1:=h.1
 unfold vI
 refine bV (G:=fun o=> ∃ b,o=some b) l.length (fun s:Int=>s) (fun i t=>True) (fun r:Unit⊕Bool=>True) ?_ ?_ 0 (0:Int) (by omega) rfl trivial ?_
 ·rintro i _ hi rfl _
  obtain ⟨v,e⟩:=bNq (a:=l[i]) (b:=p) (h.2 l[i] (bUj hi))
  simp only [zX (show (i:Int)<(l.length:Int) by omega),zZ,aF,bT6 hi,aA,e,bE (show i<=1000000000 by omega)]
  cases v with
  | false=>exact .inr ⟨_,rfl,rfl,trivial⟩
  | true=>exact .inl ⟨_,rfl,trivial⟩
 ·rintro _ rfl _
  exact ⟨.inl (),by simp only [zW (bUm _),zY],trivial⟩
 ·rintro r _
  cases r with
  | inl u=>exact ⟨_,rfl⟩
  | inr v=>exact ⟨_,rfl⟩

theorem aI7 {code:List Int} (hl:code.length<=1048576) {n:Nat} (hn:n<=1000) {c:List Int} {p h:Int} (hc:Cur code (c,p,h)): ∃ l c' p' h',dP (c,p,h) (n:Int)=some (l,c',p',h')∧(l.length=n∧ ∀ x∈l,0<=x∧x<=255)∧Cur code (c',p',h'):=by
 unfold dP pj3 pj4
 refine bV (G:=fun o=> ∃ l c' p' h',o=some (l,c',p',h')∧(l.length=n∧ ∀ x∈l,0<=x∧x<=255)∧Cur code (c',p',h')) n (fun s:Int×List Int×List Int×Int×Int=>s.1) (fun i s=>(s.2.1.length=i∧ ∀ x∈s.2.1,0<=x∧x<=255)∧Cur code s.2.2) (fun r:List Int×List Int×Int×Int=>(r.1.length=n∧ ∀ x∈r.1,0<=x∧x<=255)∧Cur code r.2) ?_ ?_ 0 ((0:Int),[],c,p,h) (by omega) rfl ⟨⟨rfl,fun x hx=>(bUr hx).elim⟩,hc⟩ (fun r hr=>⟨r.1,r.2.1,r.2.2.1,r.2.2.2,rfl,hr.1,hr.2⟩)
 ·rintro i ⟨_,l,c1,p1,h1⟩ hi rfl ⟨⟨g1,g2⟩,k1⟩
  simp only at g1 g2 k1
  obtain ⟨v,c2,p2,h2,e2,r2,k2⟩:=aEo hl k1
  obtain ⟨m,rfl⟩:=bUu r2.1
  right
  refine ⟨(((i+1:Nat):Int),l++[(m:Int)],c2,p2,h2),?_,rfl,⟨by simp [g1],fun x hx=>(bUe.1 hx).elim (g2 x) fun hx=>by rw [bUd.1 hx];omega⟩,k2⟩
  simp only [zX (show (i:Int)<(n:Int) by omega),zZ,e2,aA,aE (b:=1) (n:=l.length) (m:=1) (by decide) (by omega),bE (show i<=1000000000 by omega),aBr (n:=m) (by omega)]
 ·rintro ⟨_,l,c1,p1,h1⟩ rfl ⟨g,k1⟩
  exact ⟨(l,c1,p1,h1),by simp only [zW (bUm _),zY],g,k1⟩

theorem bDw {up down:den tSg} (h1:up.2.2.length<=5) (h2:down.2.2.length<=5): ∃ p,iP up down=some p∧mA p:=by
 obtain ⟨p,e,k⟩:=bJh h1 h2
 unfold iG pj3 at e
 refine ⟨p,?_,k⟩
 cases hm:iP (up.1,up.2.1,up.2.2) (down.1,down.2.1,down.2.2) with
 | none=>rw [hm] at e;cases e
 | some q=>rw [hm,aA] at e;cases e;rfl

def bO7 (code:List Int) (o:Option (lAS×lLk×lPp×List Int×q28)):Prop:= ∃ (as:lAS) (ls:lLk) (q:lPp) (c':List Int) (p' h':Int),o=some (as,ls,q,c',p',h')∧mA q∧wL as ls∧Cur code (c',p',h')

theorem aHz {q:den tPp} (h:q.2.2.2.length<=5):mA [q]:=⟨by simp,fun x hx=>by
 have hx:x∈[q]:=hx
 rw [bUd.1 hx];exact h⟩

abbrev PdS:=Int×Int×Int×Int×Int×dA×dA×List Int×Int×Int

theorem aVp {code:List Int} (hl:code.length<=1048576) {c:List Int} {p h:Int} (hc:Cur code (c,p,h)):bO7 code (rQ (c,p,h)):=by
 obtain ⟨as,ls,c1,p1,h1,e1,ht,k1⟩:=aP4 hl hc
 obtain ⟨t2,b2,s2,c2,p2,h2,e2,l2,k2⟩:=aEs hl ht 2 k1
 obtain ⟨t3,b3,s3,c3,p3,h3,e3,l3,k3⟩:=aEs hl ht 2 k2
 obtain ⟨t4,b4,s4,c4,p4,h4,e4,l4,k4⟩:=aEs hl ht 1 k3
 obtain ⟨v5,c5,p5,h5,e5,r5,k5⟩:=aH hl (n:=5) (by decide) (by decide) k4
 unfold rQ dd one pj3 pj4 pj6 pj9 zz4 zz5 zz6 zz7
 simp only [e1,e2,e3,e4,e5,aA,aP,bD,aW,aV,aX,show aK 48 0 1=true from by decide,zZ]
 cases v5==(0:Int) with
 | true=>
  obtain ⟨q,eq,kq⟩:=bDw (up:=(t2,b2,s2)) (down:=(t3,b3,s3)) l2 l3
  exact ⟨as,ls,q,c5,p5,h5,by simp only [zZ,eq,aA],kq,ht,k5⟩
 | false=>
  cases v5==(1:Int) with
  | true=>
   simp only [zZ,zY]
   by_cases hs:(s2.length:Int)>0
   ·obtain ⟨v6,c6,p6,h6,e6,r6,k6⟩:=qD hl (l:=[(1:Int),(4:Int)]) (by decide) (by decide) k5
    obtain ⟨q,eq,kq⟩:=vZ (s:=(t2,b2,s2)) l2 v6 0
    exact ⟨as,ls,[q],c6,p6,h6,by simp only [zX hs,zZ,e6,eq,aA],aHz kq,ht,k6⟩
   ·exact ⟨as,ls,[],c5,p5,h5,by simp only [zW hs,zY,aA],aMa,ht,k5⟩
  | false=>
   cases v5==(2:Int) with
   | true=>
    simp only [zZ,zY]
    by_cases hs:(s4.length:Int)>0
    ·obtain ⟨v6,c6,p6,h6,e6,r6,k6⟩:=qD hl (l:=[(2:Int),(3:Int)]) (by decide) (by decide) k5
     obtain ⟨q,eq,kq⟩:=vZ (s:=(t4,b4,s4)) l4 v6 0
     exact ⟨as,ls,[q],c6,p6,h6,by simp only [zX hs,zZ,e6,eq,aA],aHz kq,ht,k6⟩
    ·exact ⟨as,ls,[],c5,p5,h5,by simp only [zW hs,zY,aA],aMa,ht,k5⟩
   | false=>
    simp only [zY]
    obtain ⟨fc,efc⟩:=aHo (s:=(t4,b4,s4))
    obtain ⟨lc,elc⟩:=aRk (s:=(t4,b4,s4)) (by show s4.length<=_;omega)
    refine bV (G:=bO7 code) 6 (fun s:PdS=>s.1) (fun i s=>s.2.2.2.2.2.1.length<=5∧s.2.2.2.2.2.2.1.length<=5∧Cur code s.2.2.2.2.2.2.2) (fun r:Int×Int×Int×Int×dA×dA×List Int×Int×Int=>r.2.2.2.2.1.length<=5∧r.2.2.2.2.2.1.length<=5∧Cur code r.2.2.2.2.2.2) ?_ ?_ 0 ((0:Int),t2,b2,t3,b3,s2,s3,c5,p5,h5) (by omega) rfl ⟨l2,l3,k5⟩ ?_
    ·rintro i ⟨_,ut,ub,dt,db,us,ds,c6,p6,h6⟩ hi rfl ⟨g1,g2,g3⟩
     simp only at g1 g2 g3
     simp only [zX (show (i:Int)<6 by omega),zZ,aA,efc,elc]
     cases decide ((s4.length:Int)>0) with
     | false=>exact .inl ⟨(ut,ub,dt,db,us,ds,c6,p6,h6),rfl,g1,g2,g3⟩
     | true=>
      right
      obtain ⟨fu,efu⟩:=aHo (s:=(ut,ub,us))
      obtain ⟨fd,efd⟩:=aHo (s:=(dt,db,ds))
      simp only [zZ,efu,efd,aA]
      obtain ⟨x1,ex1⟩: ∃ b:Bool,(cond (decide ((us.length:Int)>(0:Int))) (some (fu != fc)) (some false))=some b:=by cases decide ((us.length:Int)>(0:Int))<;>exact ⟨_,rfl⟩
      obtain ⟨x2,ex2⟩: ∃ b:Bool,(cond (decide ((ds.length:Int)>(0:Int))) (some (fd != lc)) (some false))=some b:=by cases decide ((ds.length:Int)>(0:Int))<;>exact ⟨_,rfl⟩
      simp only [ex1,ex2,aA]
      obtain ⟨y1,y2,y3,c7,p7,h7,ey,ly,ky⟩: ∃ a b hs c p h,(cond x1 (Option.bind (iT (c6,p6,h6) (as,ls) (2:Int)) fun y72=>some (y72.1,y72.2.1,y72.2.2.1,y72.2.2.2.1,y72.2.2.2.2.1,y72.2.2.2.2.2)) (some (ut,ub,us,c6,p6,h6)))=some (a,b,hs,c,p,h)∧hs.length<=5∧Cur code (c,p,h):=by
       cases x1 with
       | false=>exact ⟨ut,ub,us,c6,p6,h6,rfl,g1,g3⟩
       | true=>
        obtain ⟨a,b,hs,c,p,h,eg,lg,kg⟩:=aEs hl ht 2 g3
        exact ⟨a,b,hs,c,p,h,by simp only [zZ,eg,aA],lg,kg⟩
      rw [ey,aA]
      simp only
      cases x2 with
      | false=>exact ⟨_,rfl,bE (show i<=1000000000 by omega),ly,g2,ky⟩
      | true=>
       obtain ⟨a,b,hs,c,p,h,eg,lg,kg⟩:=aEs hl ht 2 ky
       refine ⟨_,by simp only [zZ,eg,aA];rfl,bE (show i<=1000000000 by omega),ly,lg,kg⟩
    ·rintro ⟨_,ut,ub,dt,db,us,ds,c6,p6,h6⟩ rfl ⟨g1,g2,g3⟩
     exact ⟨(ut,ub,dt,db,us,ds,c6,p6,h6),by simp only [show decide (((6:Nat):Int)<(6:Int))=false from rfl,zY,aA],g1,g2,g3⟩
    rintro ⟨ut,ub,dt,db,us,ds,c6,p6,h6⟩ ⟨g1,g2,g3⟩
    simp only at g1 g2 g3
    obtain ⟨q1,f1,m1⟩:=vZ (s:=(ut,ub,us)) g1 1 0
    obtain ⟨q2,f2,m2⟩:=vZ (s:=(t4,b4,s4)) l4 2 0
    obtain ⟨q3,f3,m3⟩:=vZ (s:=(dt,db,ds)) g2 4 0
    have one: ∀ (l:lPp) (q:den tPp) (n:Nat),l.length<=n→q.2.2.2.length<=5→(∀ x∈l,x.2.2.2.length<=5)→(l++[q]).length<=n+1∧ ∀ x∈l++[q],x.2.2.2.length<=5:=fun l q n hl hq h=>⟨by simp;omega,fun x hx=>(bUe.1 hx).elim (h x) fun hx=>by rw [bUd.1 hx];exact hq⟩
    simp only [f1,f2,f3,aA]
    obtain ⟨a1,j1,i1,i2⟩: ∃ l:lPp,(cond (decide ((us.length:Int)>(0:Int))) (some [q1]) (some []))=some l∧l.length<=1∧ ∀ x∈l,x.2.2.2.length<=5:=by
     cases decide ((us.length:Int)>(0:Int))
     ·exact ⟨[],rfl,by simp,fun x hx=>(bUr hx).elim⟩
     ·exact ⟨[q1],rfl,by simp,fun x hx=>by rw [bUd.1 hx];exact m1⟩
    rw [show ((q1.1,q1.2.1,q1.2.2.1,q1.2.2.2):den tPp)=q1 from rfl,j1,aA,aE (b:=48) (n:=a1.length) (m:=1) (by decide) (by omega)]
    obtain ⟨a2,j2,i3,i4⟩: ∃ l:lPp,(cond (decide ((s4.length:Int)>(0:Int))) (cond true (some (a1++[q2])) none) (some a1))=some l∧l.length<=2∧ ∀ x∈l,x.2.2.2.length<=5:=by
     cases decide ((s4.length:Int)>(0:Int))
     ·exact ⟨a1,rfl,by omega,i2⟩
     ·exact ⟨a1++[q2],rfl,one a1 q2 1 i1 m2 i2⟩
    rw [show ((q2.1,q2.2.1,q2.2.2.1,q2.2.2.2):den tPp)=q2 from rfl,j2,aA,aE (b:=48) (n:=a2.length) (m:=1) (by decide) (by omega)]
    cases decide ((ds.length:Int)>(0:Int))
    ·exact ⟨as,ls,a2,c6,p6,h6,rfl,⟨bT7 i3 (by decide),i4⟩,ht,g3⟩
    ·exact ⟨as,ls,a2++[q3],c6,p6,h6,rfl,one a2 q3 2 i3 m3 i4,ht,g3⟩


structure bS9 (p:den tPk):Prop where
 path:mA p.2.2.2.1
 len:p.2.2.2.2.2.2.2.2.2.length<=1000
 bytes: ∀ x∈p.2.2.2.2.2.2.2.2.2,(0:Int)<=x∧x<=(255:Int)

theorem aW1 {code:List Int} (hl:code.length<=1048576) {c:List Int} {p h:Int} (hc:Cur code (c,p,h)): ∃ (as:lAS) (ls:lLk) (k:den tPk) (c':List Int) (p' h':Int),rD (c,p,h)=some (as,ls,k.1,k.2.1,k.2.2.1,k.2.2.2.2.1,k.2.2.2.2.2.1,k.2.2.2.2.2.2.1,k.2.2.2.2.2.2.2.1,k.2.2.2.2.2.2.2.2.1,k.2.2.2.1,k.2.2.2.2.2.2.2.2.2,c',p',h')∧bS9 k∧wL as ls∧Cur code (c',p',h'):=by
 obtain ⟨as,ls,q,c1,p1,h1,e1,kq,kt,k1⟩:=aVp hl hc
 obtain ⟨v2,c2,p2,h2,e2,r2,k2⟩:=aH hl (n:=3) (by decide) (by decide) k1
 obtain ⟨v3,c3,p3,h3,e3,r3,k3⟩:=aH hl (n:=9) (by decide) (by decide) k2
 obtain ⟨v4,c4,p4,h4,e4,r4,k4⟩:=aH hl (n:=3) (by decide) (by decide) k3
 obtain ⟨v5,c5,p5,h5,e5,r5,k5⟩:=aH hl (n:=4) (by decide) (by decide) k4
 obtain ⟨m5,rfl⟩:=bUu r5.1
 obtain ⟨l6,c6,p6,h6,e6,⟨r6,b6⟩,k6⟩:=aI7 hl (n:=m5) (by omega) k5
 have e7:=aKa (kind:=wr (1+v2)) (res:=v4) (seq:=v3) (p:=q) (pay:=l6) (bT7 (aGk kq) (by decide)) (by omega)
 refine ⟨as,ls,aC6 (wr (1+v2)) q v4 v3 l6,c6,p6,h6,?_,⟨kq,by show l6.length<=_;omega,b6⟩,kt,k6⟩
 unfold rD dd bOx pj3 zz4 zz5 zz6 zz7 zz8 zz9
 simp only [e1,e2,e3,e4,e5,e6,e7,aA,aP,bD,aW,aV,aX]
 rfl

theorem bDm (a b:Int):qS a b=some (a,b,0,[]):=rfl


def RvD (l:lRv):Prop:=l.length<=16∧ ∀ y∈l,fH y=true

theorem bGw {l:lRv} {x:den tRv} (h:RvD l):RvD (aGw l x):=by
 obtain ⟨h1,h2⟩:=h
 unfold aGw
 cases hv:fH x with
 | false=>exact ⟨h1,h2⟩
 | true=>
  simp only [zZ]
  cases hs:eC (yL x l) 0 l with
  | some r=>
   have :=aI1 (fun r:lRv=> @ite Nat (RvD r) (Classical.propDecidable _) 0 1) 0 (g:=yL x l) (l:=l) (k:=0) (fun j y r' hy hr=>by
    have hp:RvD r':=by
     unfold yL at hr
     cases c1:y.1==x.1 with
     | false=>rw [c1] at hr;cases hr
     | true=>
      cases c2:y.2.1==x.2.1 with
      | false=>rw [c1,c2] at hr;cases hr
      | true=>
       rw [c1,c2] at hr
       injection hr with hr
       rw [← hr]
       have hy':=h2 y (bUi hy)
       refine ⟨by simpa using h1,fun z hz=> ?_⟩
       rcases bWo hz with hz | rfl
       ·exact h2 z hz
       ·unfold fH at hv hy' ⊢
        simp only [bT8] at hv hy' ⊢
        refine ⟨hy'.1,hy'.2.1,?_⟩
        split
        ·exact hv.2.2
        ·exact hy'.2.2
    simp only [zT hp]
    exact bUo _) r hs
   by_cases hp:RvD r
   ·exact hp
   ·simp only [zS hp] at this
    omega
  | none=>
   have hx: ∀ y∈l++[x],fH y=true:=fun y hy=>(bUe.1 hy).elim (h2 y) fun hy=>by rw [bUd.1 hy];exact hv
   by_cases c:16<l.length+1
   ·simp only [c,zV]
    exact ⟨by simp;omega,fun y hy=>hx y (bVr hy)⟩
   ·simp only [c,zU]
    exact ⟨by simp;omega,hx⟩

theorem aEn (a b c d cu wa:Int) (ms:lMs) (ps:lPt) (rv:lRv):tot tFl (a,b,c,d,ms,ps,cu,wa,rv)=tot (.sl tMs) ms+tot (.sl tPt) ps+rv.length:=by
 show tot ti a+(tot ti b+(tot ti c+(tot ti d+(tot (.sl tMs) ms+(tot (.sl tPt) ps+(tot ti cu+(tot ti wa+tot (.sl tRv) rv)))))))=_
 rw [dD (t:=tRv) rfl]
 show 0+(0+(0+(0+(_+(_+(0+(0+_)))))))=_
 omega

theorem aXg (b:List Int):tot (.sl tMs) [b]=1+b.length:=by
 rw [kH]
 show 1+tot (.sl tb) b+tot (.sl tMs) []=_
 rw [dD (t:=tb) rfl]
 rfl

theorem vR (f:den tFl):nV f=true↔inR f.1 0 7=true∧inR f.2.1 0 7=true∧f.1≠f.2.1∧inR f.2.2.1 0 100000=true∧f.2.2.2.2.1.length<=20∧inR f.2.2.2.1 0 (f.2.2.2.2.1.length:Int)=true∧f.2.2.2.2.2.1.length<=24∧
  (∀ m∈f.2.2.2.2.1,m.length<=40)∧(∀ x∈f.2.2.2.2.2.2.2.2,fH x=true)∧(f.2.2.2.2.2.2.1=0∨inR f.2.2.2.2.2.2.1 0 ((f.2.2.2.2.2.1.length:Int) - 1)=true)∧inR f.2.2.2.2.2.2.2.1 0 4=true∧f.2.2.2.2.2.2.2.2.length<=16:=by
 unfold nV
 simp only [bT8,bVp,bVf,beq_iff_eq,beq_eq_false_iff_ne,zR,bUx,ne_eq]

theorem aTn {c:Int} {n:Nat} (hn:n<=24) (h:c=0∨inR c 0 ((n:Int) - 1)=true):(if wr (c+1)>=(n:Int) then (0:Int) else wr (c+1))=0∨inR (if wr (c+1)>=(n:Int) then (0:Int) else wr (c+1)) 0 ((n:Int) - 1)=true:=by
 have hc:0<=c∧c<=24:=by
  rcases h with e | e
  ·omega
  ·have :=bS.1 e;omega
 rw [bK (by omega) (by omega)]
 split
 ·exact .inl rfl
 ·right
  rw [bS]
  omega

theorem bMn {w:Int} (h:inR w 0 4=true) (h4: ¬ (w==4)=true):inR (wr (w+1)) 0 4=true:=by
 rw [bS] at h
 rw [beq_iff_eq] at h4
 rw [bK (by omega) (by omega),bS]
 omega

theorem bFz {f:den tFl} (h:nV f=true):nV (aT f).1=true:=by
 rw [vR] at h
 obtain ⟨h1,h2,h3,h4,h5,h6,h7,h8,h9,h10,h11,h12⟩:=h
 have key: ∀ c w:Int,(c=0∨inR c 0 ((f.2.2.2.2.2.1.length:Int) - 1)=true)→inR w 0 4=true→nV (pV f c w)=true:=fun c w hc hw=>by
  rw [vR]
  exact ⟨h1,h2,h3,h4,h5,h6,h7,h8,h9,hc,hw,h12⟩
 unfold aT
 split
 ·split
  ·exact key _ _ h10 rfl
  ·split
   ·exact key _ _ (aTn h7 h10) rfl
   ·next e4=>exact key _ _ h10 (bMn h11 e4)
 ·exact key _ _ h10 rfl


def Cmp {α:Type} (a b:α) (o:Option Bool):Prop:= ∃ v,o=some v∧(a=b→v=true)


theorem aBp {α:Type} (a b:List α) (st:Int→Option (Int⊕(Unit⊕Bool))) (h:a.length<=1073741824)
  (hs: ∀ (i:Nat) (hi:i<a.length) (hj:i<b.length),∃ v:Bool,st (i:Int)=some (cond (!v) (.inr (.inr false)) (.inl ((i+1:Nat):Int)))∧(a[i]=b[i]→v=true)) (he:st (a.length:Int)=some (.inr (.inl ()))):
  Cmp a b (cond ((a.length:Int) != (b.length:Int)) (some false) (Option.bind (aC st (0:Int)) fun z=>Sum.elim (fun _=>some true) some z)):=by
 by_cases hn:a.length=b.length
 ·rw [hn,bne_self_eq_false,zY]
  refine bV (G:=Cmp a b) a.length (fun s:Int=>s) (fun i t=>True) (fun r:Unit⊕Bool=>a=b→r= .inl ()) ?_ ?_ 0 (0:Int) (by omega) rfl trivial ?_
  ·rintro i _ hi rfl _
   obtain ⟨v,e,k⟩:=hs i hi (by omega)
   rw [e]
   cases v with
   | true=>exact .inr ⟨_,rfl,rfl,trivial⟩
   | false=>exact .inl ⟨.inr false,rfl,fun e=>by subst e;cases k rfl⟩
  ·rintro _ rfl _
   exact ⟨.inl (),he,fun _=>rfl⟩
  ·rintro r hr
   cases r with
   | inl u=>exact ⟨true,rfl,fun _=>rfl⟩
   | inr v=>exact ⟨v,rfl,fun e=>by cases hr e⟩
 ·rw [show ((a.length:Int) != (b.length:Int))=true by rw [bne_iff_ne];omega,zZ]
  exact ⟨false,rfl,fun e=>absurd (congrArg bUk e) hn⟩

theorem aU1 {a b:List Int} (h:a.length<=1000000):Cmp a b (yP a b):=by
 unfold yP
 refine aBp a b _ (by omega) (fun i hi hj=>⟨a[i]==b[i],?_,fun e=>by simpa using e⟩) ?_
 ·simp only [zX (show (i:Int)<(a.length:Int) by omega),zZ,aF,bT6 hi,bT6 hj,aA,bE (show i<=1000000000 by omega),bne]
  cases a[i]==b[i]<;>rfl
 ·simp only [zW (bUm _),zY]

theorem aOe {a b:List lI} (h:a.length<=1000000) (hm: ∀ m∈a,m.length<=1000000):Cmp a b (lB a b):=by
 unfold lB
 refine aBp a b _ (by omega) (fun i hi hj=> ?_) ?_
 ·obtain ⟨v,e,k⟩:=aU1 (a:=a[i]) (b:=b[i]) (hm _ (bUj hi))
  refine ⟨v,?_,k⟩
  simp only [zX (show (i:Int)<(a.length:Int) by omega),zZ,aF,bT6 hi,bT6 hj,aA,bE (show i<=1000000000 by omega),e]
  cases v<;>rfl
 ·simp only [zW (bUm _),zY]

theorem bDd {a b:lRv} (h:a.length<=1000000):Cmp a b (rS a b):=by
 unfold rS
 refine aBp a b _ (by omega) (fun i hi hj=>⟨((a[i].1==b[i].1)&&((a[i].2.1==b[i].2.1)&&((a[i].2.2==b[i].2.2)&&true))),?_,fun e=>by rw [e];simp⟩) ?_
 ·simp only [zX (show (i:Int)<(a.length:Int) by omega),zZ,aF,bT6 hi,bT6 hj,aA,bE (show i<=1000000000 by omega)]
  cases ((a[i].1==b[i].1)&&((a[i].2.1==b[i].2.1)&&((a[i].2.2==b[i].2.2)&&true)))<;>rfl
 ·simp only [zW (bUm _),zY]

theorem bMy {a b:den tIb} (h:a.2.2.2.length<=1000000) (hm: ∀ m:List Int,m∈(show List lI from a.2.2.2)→m.length<=1000000):Cmp a b (vG a b):=by
 obtain ⟨v,e,k⟩:=aOe (a:=a.2.2.2) (b:=b.2.2.2) h hm
 unfold vG
 rw [e,aA]
 cases c1:a.1==b.1
 ·exact ⟨false,rfl,fun e=>by subst e;simp at c1⟩
 ·cases c2:a.2.1==b.2.1
  ·exact ⟨false,rfl,fun e=>by subst e;simp at c2⟩
  ·cases c3:a.2.2.1==b.2.2.1
   ·exact ⟨false,rfl,fun e=>by subst e;simp at c3⟩
   ·exact ⟨v,rfl,fun e=>by subst e;exact k rfl⟩

theorem aUl {a b:dA} (h:a.length<=1000000):Cmp a b (oC a b):=by
 unfold oC zz4
 refine aBp a b _ (by omega) (fun i hi hj=>⟨((a[i].1==b[i].1)&&((a[i].2.1==b[i].2.1)&&((a[i].2.2.1==b[i].2.2.1)&&((a[i].2.2.2.1==b[i].2.2.2.1)&&((a[i].2.2.2.2==b[i].2.2.2.2)&&true))))),?_,fun e=>by rw [e];simp⟩) ?_
 ·simp only [zX (show (i:Int)<(a.length:Int) by omega),zZ,aF,bT6 hi,bT6 hj,aA,bE (show i<=1000000000 by omega)]
  cases ((a[i].1==b[i].1)&&((a[i].2.1==b[i].2.1)&&((a[i].2.2.1==b[i].2.2.1)&&((a[i].2.2.2.1==b[i].2.2.2.1)&&((a[i].2.2.2.2==b[i].2.2.2.2)&&true)))))<;>rfl
 ·simp only [zW (bUm _),zY]

theorem bIe {a b:den tPp} (h:a.2.2.2.length<=1000000):Cmp a b (qW a b):=by
 obtain ⟨v,e,k⟩:=aUl (a:=a.2.2.2) (b:=b.2.2.2) h
 unfold qW
 rw [e,aA]
 cases c1:a.1==b.1
 ·exact ⟨false,rfl,fun e=>by subst e;simp at c1⟩
 ·cases c2:a.2.1==b.2.1
  ·exact ⟨false,rfl,fun e=>by subst e;simp at c2⟩
  ·cases c3:a.2.2.1==b.2.2.1
   ·exact ⟨false,rfl,fun e=>by subst e;simp at c3⟩
   ·exact ⟨v,rfl,fun e=>by subst e;exact k rfl⟩

theorem aLv {a b:lPp} (h:a.length<=1000000) (hp: ∀ x∈a,x.2.2.2.length<=1000000):Cmp a b (kC a b):=by
 unfold kC pj4
 refine aBp a b _ (by omega) (fun i hi hj=> ?_) ?_
 ·obtain ⟨v,e,k⟩:=bIe (a:=a[i]) (b:=b[i]) (hp _ (bUj hi))
  have e:qW (a[i].1,a[i].2.1,a[i].2.2.1,a[i].2.2.2) (b[i].1,b[i].2.1,b[i].2.2.1,b[i].2.2.2)=some v:=e
  refine ⟨v,?_,k⟩
  simp only [zX (show (i:Int)<(a.length:Int) by omega),zZ,aF,bT6 hi,bT6 hj,aA,bE (show i<=1000000000 by omega),e]
  cases v<;>rfl
 ·simp only [zW (bUm _),zY]

theorem bDu {a b:lPt} (h:a.length<=1000000) (hp: ∀ p:lPp,p∈(show List lPp from a)→p.length<=1000000∧ ∀ x∈p,x.2.2.2.length<=1000000):Cmp a b (rE a b):=by
 unfold rE
 refine aBp a b _ (by omega) (fun i hi hj=> ?_) ?_
 ·obtain ⟨h1,h2⟩:=hp a[i] (bUj hi)
  obtain ⟨v,e,k⟩:=aLv (a:=a[i]) (b:=b[i]) h1 h2
  refine ⟨v,?_,k⟩
  simp only [zX (show (i:Int)<(a.length:Int) by omega),zZ,aF,bT6 hi,bT6 hj,aA,bE (show i<=1000000000 by omega),e]
  cases v<;>rfl
 ·simp only [zW (bUm _),zY]

theorem aVw {p:lPp} (h:SmB 1000000 tPt p):p.length<=1000000∧ ∀ x∈p,x.2.2.2.length<=1000000:=⟨h.1,fun x hx=>(h.2 x hx).2.2.2.1⟩

theorem bJl {a b:den tFl} (h:SmB 1000000 tFl a):Cmp a b (sO a b):=by
 obtain ⟨v1,e1,k1⟩:=aOe (a:=a.2.2.2.2.1) (b:=b.2.2.2.2.1) h.2.2.2.2.1.1 (fun m hm=>(h.2.2.2.2.1.2 m hm).1)
 obtain ⟨v2,e2,k2⟩:=bDu (a:=a.2.2.2.2.2.1) (b:=b.2.2.2.2.2.1) h.2.2.2.2.2.1.1 (fun p hp=>aVw (h.2.2.2.2.2.1.2 p hp))
 obtain ⟨v3,e3,k3⟩:=bDd (a:=a.2.2.2.2.2.2.2.2) (b:=b.2.2.2.2.2.2.2.2) h.2.2.2.2.2.2.2.2.1
 unfold sO zz4 zz5 zz6 zz7 zz8
 rw [e1,aA,e2,aA,e3,aA]
 cases c0:a.1==b.1
 ·exact ⟨false,rfl,fun e=>by subst e;simp at c0⟩
 ·cases c1:a.2.1==b.2.1
  ·exact ⟨false,rfl,fun e=>by subst e;simp at c1⟩
  ·cases c2:a.2.2.1==b.2.2.1
   ·exact ⟨false,rfl,fun e=>by subst e;simp at c2⟩
   ·cases c3:a.2.2.2.1==b.2.2.2.1
    ·exact ⟨false,rfl,fun e=>by subst e;simp at c3⟩
    ·cases v1
     ·exact ⟨false,rfl,fun e=>by subst e;cases k1 rfl⟩
     ·cases v2
      ·exact ⟨false,rfl,fun e=>by subst e;cases k2 rfl⟩
      ·cases c6:a.2.2.2.2.2.2.1==b.2.2.2.2.2.2.1
       ·exact ⟨false,rfl,fun e=>by subst e;simp at c6⟩
       ·cases c7:a.2.2.2.2.2.2.2.1==b.2.2.2.2.2.2.2.1
        ·exact ⟨false,rfl,fun e=>by subst e;simp at c7⟩
        ·exact ⟨v3,rfl,fun e=>by subst e;exact k3 rfl⟩

theorem aPp {a b:den tPk} (h:SmB 1000000 tPk a):Cmp a b (gI a b):=by
 obtain ⟨h1,h2⟩:=aVw h.2.2.2.1
 obtain ⟨v1,e1,k1⟩:=aLv (a:=a.2.2.2.1) (b:=b.2.2.2.1) h1 h2
 obtain ⟨v2,e2,k2⟩:=aU1 (a:=a.2.2.2.2.2.2.2.2.2) (b:=b.2.2.2.2.2.2.2.2.2) h.2.2.2.2.2.2.2.2.2.1
 unfold gI zz4 zz5 zz6 zz7 zz8 zz9
 rw [e1,aA,e2,aA]
 cases c0:a.1==b.1
 ·exact ⟨false,rfl,fun e=>by subst e;simp at c0⟩
 ·cases c1:a.2.1==b.2.1
  ·exact ⟨false,rfl,fun e=>by subst e;simp at c1⟩
  ·cases c2:a.2.2.1==b.2.2.1
   ·exact ⟨false,rfl,fun e=>by subst e;simp at c2⟩
   ·cases v1
    ·exact ⟨false,rfl,fun e=>by subst e;cases k1 rfl⟩
    ·cases c4:a.2.2.2.2.1==b.2.2.2.2.1
     ·exact ⟨false,rfl,fun e=>by subst e;simp at c4⟩
     ·cases c5:a.2.2.2.2.2.1==b.2.2.2.2.2.1
      ·exact ⟨false,rfl,fun e=>by subst e;simp at c5⟩
      ·cases c6:a.2.2.2.2.2.2.1==b.2.2.2.2.2.2.1
       ·exact ⟨false,rfl,fun e=>by subst e;simp at c6⟩
       ·cases c7:a.2.2.2.2.2.2.2.1==b.2.2.2.2.2.2.2.1
        ·exact ⟨false,rfl,fun e=>by subst e;simp at c7⟩
        ·cases c8:a.2.2.2.2.2.2.2.2.1==b.2.2.2.2.2.2.2.2.1
         ·exact ⟨false,rfl,fun e=>by subst e;simp at c8⟩
         ·exact ⟨v2,rfl,fun e=>by subst e;exact k2 rfl⟩


def Byt (l:List Int):Prop:= ∀ x∈l,0<=x∧x<=255

theorem bR5 (bs:ByteArray): ∀ (n i:Nat) (r:List UInt8),n+i=bs.size→ByteArray.toList.loop bs i r=r.reverse++bs.data.toList.drop i:=by
 intro n
 induction n with
 | zero=>
  intro i r h
  unfold ByteArray.toList.loop
  rw [zS (by omega),List.drop_of_length_le (by rw [bWt];show bs.size<=i;omega),bVg]
 | succ n ih=>
  intro i r h
  unfold ByteArray.toList.loop
  rw [zT (by omega),ih (i+1) _ (by omega)]
  have hi:i<bs.data.toList.length:=by rw [bWt];show i<bs.size;omega
  rw [bXa hi,List.reverse_cons,List.append_assoc]
  congr 2
  simp [ByteArray.get!]
  rw [getElem!_pos bs.data i (by rw [← bWt];exact hi)]

theorem bl (bs:ByteArray):bs.toList=bs.data.toList:=by
 unfold ByteArray.toList
 rw [bR5 bs bs.size 0 [] (by omega)]
 simp

theorem aNm (l:List Int):(aBe l).toList=l.map fun n=>UInt8.ofNat n.toNat:=by
 rw [bl];rfl

theorem bFj {a b:List Int} (ha:Byt a) (hb:Byt b):((aBe a).toList==(aBe b).toList)=true↔a=b:=by
 rw [beq_iff_eq,aNm,aNm]
 constructor
 ·intro h
  have hl:=congrArg bUk h
  simp only [bVa] at hl
  refine List.ext_getElem hl fun i h1 h2=> ?_
  have h3:(a.map fun n=>UInt8.ofNat n.toNat)[i]'(by simpa using h1)=(b.map fun n=>UInt8.ofNat n.toNat)[i]'(by simpa using h2):=by simp only [h]
  simp only [List.getElem_map] at h3
  have a1:=ha _ (bUj h1)
  have b1:=hb _ (bUj h2)
  have h4:=congrArg UInt8.toNat h3
  simp only [UInt8.toNat_ofNat'] at h4
  omega
 ·intro h;rw [h]

def nQ (l:dA):Option Int:=l.head?.map fun x=>(x.1:Int)

def fU (l:dA):Option Int:=l.getLast?.map fun x=>(x.1:Int)

def aJe (p:lPp):Option Int:=p.head?.bind fun x=>nQ x.2.2.2

def aBl (p:lPp):Option Int:=p.getLast?.bind fun x=>fU x.2.2.2

theorem aUs {s:den tSg} (h:s.2.2.length<=1000): ∃ v,eD s=some v∧(0<=v→fU s.2.2=some v):=by
 unfold eD
 by_cases h0:s.2.2.length=0
 ·rw [show ((s.2.2.length:Int)==0)=true by rw [beq_iff_eq];omega,zZ]
  exact ⟨_,rfl,fun h=>absurd h (by decide)⟩
 ·have w1:wr ((s.2.2.length:Int) - 1)=((s.2.2.length - 1:Nat):Int):=by rw [bK (by omega) (by omega)];omega
  rw [show ((s.2.2.length:Int)==0)=false by rw [beq_eq_false_iff_ne];omega,zY,w1,aF,bT6 (by omega),aA]
  refine ⟨_,rfl,fun _=> ?_⟩
  unfold fU
  rw [List.getLast?_eq_getElem?,bT6 (by omega)]
  rfl

theorem bDy {s:den tSg}: ∃ v,cE s=some v∧(0<=v→nQ s.2.2=some v):=by
 unfold cE
 by_cases h0:s.2.2.length=0
 ·rw [show ((s.2.2.length:Int)==0)=true by rw [beq_iff_eq];omega,zZ]
  exact ⟨_,rfl,fun h=>absurd h (by decide)⟩
 ·rw [show ((s.2.2.length:Int)==0)=false by rw [beq_eq_false_iff_ne];omega,zY,show (0:Int)=((0:Nat):Int) from rfl,aF,bT6 (by omega),aA]
  refine ⟨_,rfl,fun _=> ?_⟩
  unfold nQ
  rw [List.head?_eq_getElem?,bT6 (by omega)]
  rfl

theorem bNt {s:den tSg} (h:s.2.2.length<=5) {k:Int} (hk:inR k 1 4=true) {m:Nat} (hm:m<s.2.2.length): ∃ t b:Int,bM s k (m:Int)=some (k,t,b,if jC k then (s.2.2.drop m).reverse else s.2.2.drop m):=by
 unfold bM pj3 pj4 pj5 zz4
 obtain ⟨b1,eb1⟩:=zP (s:=s) (m:Int) (by omega)
 obtain ⟨b2,eb2⟩:=zP (s:=s) (s.2.2.length:Int) (by omega)
 have eb1:gF (s.1,s.2.1,s.2.2) (m:Int)=some b1:=eb1
 have eb2:gF (s.1,s.2.1,s.2.2) (s.2.2.length:Int)=some b2:=eb2
 simp only [gQ,aA,aP,bD,aW,aV,aX,eb1,eb2,aBk]
 have w1:wr ((s.2.2.length:Int) - 1)=(s.2.2.length:Int) - 1:=bK (by omega) (by omega)
 have c1:inR (m:Int) 0 ((s.2.2.length:Int) - 1)=true:=bS.2 ⟨by omega,by omega⟩
 rw [w1,c1,hk]
 simp only [bUc,zY,aA]
 cases jC k with
 | false=>
  have e1:cZ (m:Int) (s.2.2.length:Int) (s.2.2.length:Int)=true:=aAh (by omega)
  rw [e1,aD8,aE (b:=40) (by decide) (by simp;omega)]
  exact ⟨_,_,rfl⟩
 | true=>
  refine fY (G:=fun o=> ∃ t b:Int,o=some (k,t,b,(s.2.2.drop m).reverse)) (fun (n:Nat) (t:Int×q21)=>t=((n:Int) - 1,k,s.1,b2,(s.2.2.drop n).reverse)∧m<=n∧n<=s.2.2.length) (fun q:den tPp=>q=(k,s.1,b2,(s.2.2.drop m).reverse)) ?_ s.2.2.length ((s.2.2.length:Int) - 1,k,s.1,b2,[]) ⟨by rw [List.drop_length];rfl,by omega,bUo _⟩ (fun q hq=>⟨s.1,b2,by rw [hq]⟩)
  rintro n _ ⟨rfl,g1,g2⟩
  by_cases hn:(n:Int) - 1>=(m:Int)
  ·right
   have hn1:(n:Int) - 1=((n - 1:Nat):Int):=by omega
   have hi:n - 1<s.2.2.length:=by omega
   have hd:(s.2.2.drop (n - 1)).reverse=(s.2.2.drop n).reverse++[s.2.2[n - 1]]:=by
    rw [bXa hi,List.reverse_cons,show n - 1+1=n by omega]
   refine ⟨n - 1,(((n - 1:Nat):Int) - 1,k,s.1,b2,(s.2.2.drop (n - 1)).reverse),by omega,?_,rfl,by omega,by omega⟩
   simp only [zX hn,zZ,aE (b:=40) (n:=(s.2.2.drop n).reverse.length) (m:=1) (by decide) (by simp;omega)]
   rw [hn1,aF,bT6 hi,aA,bK (n:=((n - 1:Nat):Int) - 1) (by omega) (by omega),hd]
  ·left
   have hnm:n=m:=by omega
   subst hnm
   exact ⟨_,by simp only [zW hn,zY],rfl⟩


theorem aAi {s:den tSg} (h:s.2.2.length<=5) {k:Int} (hk:inR k 1 4=true) {m:Nat} (hm:m<s.2.2.length): ∃ q:den tPp,bM s k (m:Int)=some q∧q.2.2.2.length<=5∧nQ q.2.2.2=(if jC k then fU s.2.2 else some s.2.2[m].1)∧fU q.2.2.2=(if jC k then some s.2.2[m].1 else fU s.2.2):=by
 obtain ⟨t,b,e⟩:=bNt h hk hm
 have hl:fU (s.2.2.drop m)=fU s.2.2:=by
  unfold fU
  rw [List.getLast?_drop,zS (by omega)]
 have hf:nQ (s.2.2.drop m)=some s.2.2[m].1:=by
  unfold nQ
  rw [List.head?_drop,bT6 hm];rfl
 refine ⟨_,e,?_,?_,?_⟩
 ·show (if jC k then _ else _:dA).length<=5
  split<;>simp only [List.length_reverse,bV6]<;>omega
 ·show nQ (if jC k then _ else _)=_
  split
  ·rw [← hl];unfold nQ fU;rw [List.head?_reverse]
  ·exact hf
 ·show fU (if jC k then _ else _)=_
  split
  ·rw [← hf];unfold nQ fU;rw [List.getLast?_reverse]
  ·exact hl


def aS1 (r:Int) (n:Nat) (l:lSg):Prop:=aGr n l∧ ∀ x∈l,fU x.2.2=some r

theorem aNy {n:Nat} (hn:n<=100) {d cc:lSg} (hk:DbD n d cc) {r:Int} (hr:0<=r): ∃ l,dJ (d,cc) r=some l∧aS1 r n l:=by
 have hd:=hk.down
 unfold dJ pj3
 refine bV (G:=fun o=> ∃ l,o=some l∧aS1 r n l) d.length (fun s:Int×lSg=>s.1) (fun i s=>aS1 r i s.2) (fun l:lSg=>aS1 r n l) ?_ ?_ 0 ((0:Int),[]) (by omega) rfl ⟨⟨by simp,fun x hx=>(bUr hx).elim⟩,fun x hx=>(bUr hx).elim⟩ (fun l hl=>⟨l,rfl,hl⟩)
 ·rintro i ⟨_,l⟩ hi rfl ⟨⟨g1,g2⟩,g3⟩
  simp only at g1 g2 g3
  right
  have h5:=hk.hd d[i] (bUj hi)
  obtain ⟨v,ev,hv⟩:=aUs (s:=d[i]) (by omega)
  have ev:eD (d[i].1,d[i].2.1,d[i].2.2)=some v:=ev
  have ec:=aDq (x:=d[i]) (by omega)
  have ec:fN (d[i].1,d[i].2.1,d[i].2.2)=some d[i]:=ec
  simp only [zX (show (i:Int)<(d.length:Int) by omega),zZ,aF,bT6 hi,aA,ev,ec,aE (b:=40) (n:=l.length) (m:=1) (by decide) (by omega),bE (show i<=1000000000 by omega)]
  cases hvr:(v==r) with
  | true=>
   have hvr:v=r:=eq_of_beq hvr
   exact ⟨_,rfl,rfl,⟨by simp;omega,fun x hx=>(bUe.1 hx).elim (g2 x) fun hx=>by rw [bUd.1 hx];exact h5⟩,fun x hx=>(bUe.1 hx).elim (g3 x) fun hx=>by rw [bUd.1 hx,← hvr];exact hv (by omega)⟩
  | false=>exact ⟨_,rfl,rfl,⟨by show l.length<=i+1;omega,g2⟩,g3⟩
 ·rintro ⟨_,l⟩ rfl ⟨⟨g1,g2⟩,g3⟩
  exact ⟨l,by simp only [zW (bUm _),zY],⟨by simp only at g1;omega,g2⟩,g3⟩


def aR6 (a b:Int) (n:Nat) (l:lSg):Prop:=aGr n l∧ ∀ x∈l,nQ x.2.2=some a∧fU x.2.2=some b

theorem bLd {n:Nat} (hn:n<=100) {d cc:lSg} (hk:DbD n d cc) {a b:Int} (ha:0<=a) (hb:0<=b): ∃ l,mW (d,cc) a b=some l∧aR6 a b n l:=by
 have hd:=hk.core
 unfold mW pj3
 refine bV (G:=fun o=> ∃ l,o=some l∧aR6 a b n l) cc.length (fun s:Int×lSg=>s.1) (fun i s=>aR6 a b i s.2) (fun l:lSg=>aR6 a b n l) ?_ ?_ 0 ((0:Int),[]) (by omega) rfl ⟨⟨by simp,fun x hx=>(bUr hx).elim⟩,fun x hx=>(bUr hx).elim⟩ (fun l hl=>⟨l,rfl,hl⟩)
 ·rintro i ⟨_,l⟩ hi rfl ⟨⟨g1,g2⟩,g3⟩
  simp only at g1 g2 g3
  right
  have h5:=hk.hc cc[i] (bUj hi)
  obtain ⟨v,ev,hv⟩:=aUs (s:=cc[i]) (by omega)
  have ev:eD (cc[i].1,cc[i].2.1,cc[i].2.2)=some v:=ev
  obtain ⟨u,eu,hu⟩:=bDy (s:=cc[i])
  have eu:cE (cc[i].1,cc[i].2.1,cc[i].2.2)=some u:=eu
  have ec:=aDq (x:=cc[i]) (by omega)
  have ec:fN (cc[i].1,cc[i].2.1,cc[i].2.2)=some cc[i]:=ec
  simp only [zX (show (i:Int)<(cc.length:Int) by omega),zZ,aF,bT6 hi,aA,ev,eu,ec,aE (b:=40) (n:=l.length) (m:=1) (by decide) (by omega),bE (show i<=1000000000 by omega)]
  cases hua:(u==a) with
  | true=>
   simp only [zZ,aA]
   cases hvb:(v==b) with
   | true=>
    have hua:u=a:=eq_of_beq hua
    have hvb:v=b:=eq_of_beq hvb
    exact ⟨_,rfl,rfl,⟨by simp;omega,fun x hx=>(bUe.1 hx).elim (g2 x) fun hx=>by rw [bUd.1 hx];exact h5⟩,fun x hx=>(bUe.1 hx).elim (g3 x) fun hx=>by rw [bUd.1 hx,← hua,← hvb];exact ⟨hu (by omega),hv (by omega)⟩⟩
   | false=>exact ⟨_,rfl,rfl,⟨by show l.length<=i+1;omega,g2⟩,g3⟩
  | false=>exact ⟨_,rfl,rfl,⟨by show l.length<=i+1;omega,g2⟩,g3⟩
 ·rintro ⟨_,l⟩ rfl ⟨⟨g1,g2⟩,g3⟩
  exact ⟨l,by simp only [zW (bUm _),zY],⟨by simp only at g1;omega,g2⟩,g3⟩

theorem bQh {s:den tSg} (h:s.2.2.length<=1000) (r:Int): ∃ v,mG s r=some v∧(0<=v→ ∃ (m:Nat) (x:den bZ),v=(m:Int)∧s.2.2[m]? =some x∧x.1=r):=by
 unfold mG
 refine bV (G:=fun o=> ∃ v,o=some v∧(0<=v→ ∃ (m:Nat) (x:den bZ),v=(m:Int)∧s.2.2[m]? =some x∧x.1=r)) s.2.2.length (fun s:Int=>s) (fun i t=>True) (fun z:Unit⊕Int=> ∀ v,z= .inr v→ ∃ (m:Nat) (x:den bZ),v=(m:Int)∧s.2.2[m]? =some x∧x.1=r) ?_ ?_ 0 (0:Int) (by omega) rfl trivial ?_
 ·rintro i _ hi rfl _
  simp only [zX (show (i:Int)<(s.2.2.length:Int) by omega),zZ,aF,bT6 hi,aA,bE (show i<=1000000000 by omega)]
  cases hx:(s.2.2[i].1==r) with
  | true=>exact .inl ⟨_,rfl,fun v hv=>by cases hv;exact ⟨i,s.2.2[i],rfl,bT6 hi,eq_of_beq hx⟩⟩
  | false=>exact .inr ⟨_,rfl,rfl,trivial⟩
 ·rintro _ rfl _
  exact ⟨.inl (),by simp only [zW (bUm _),zY],fun v hv=>by cases hv⟩
 ·rintro z hz
  cases z with
  | inl u=>exact ⟨-1,rfl,fun h=>absurd h (by decide)⟩
  | inr v=>exact ⟨v,rfl,fun _=>hz v rfl⟩


def aOb (a b:Int) (p:den tPt):Prop:=mA p∧aJe p=some a∧aBl p=some b

def bT (a b:Int) (n:Nat) (l:lPt):Prop:=l.length<=n∧ ∀ p∈l,aOb a b p

theorem bT.add {a b:Int} {n m:Nat} {k l:lPt} (ha:bT a b n k) (hb:bT a b m l):bT a b (n+m) (k++l):=⟨by rw [bU0];have :=ha.1;have :=hb.1;omega,fun p hp=>(bUe.1 hp).elim (ha.2 p) (hb.2 p)⟩

theorem bT.one {a b:Int} {p:den tPt} (h:aOb a b p):bT a b 1 [p]:=⟨by simp,fun q hq=>by rw [bUd.1 hq];exact h⟩

theorem bT.mono {a b:Int} {n m:Nat} {l:lPt} (h:bT a b n l) (hm:n<=m):bT a b m l:=⟨bT7 h.1 hm,h.2⟩

theorem bT.d {a b:Int} {n:Nat} {l:lPt} (h:bT a b n l):uU n l:=⟨h.1,fun p hp=>(h.2 p hp).1⟩

theorem bEt {up core down:den tSg} (h1:up.2.2.length<=5) (h2:core.2.2.length<=5) (h3:down.2.2.length<=5) (b:Bool) (hc:0<core.2.2.length) {x y:Int}
  (hx:(up.2.2.length=0∧(if b then fU core.2.2 else nQ core.2.2)=some x)∨(0<up.2.2.length∧fU up.2.2=some x))
  (hy:(down.2.2.length=0∧(if b then nQ core.2.2 else fU core.2.2)=some y)∨(0<down.2.2.length∧fU down.2.2=some y)): ∃ p,kU up core b down=some p∧aOb x y p:=by
 have h0:nQ core.2.2=some core.2.2[0].1:=by
  unfold nQ
  rw [List.head?_eq_getElem?,bT6 hc];rfl
 obtain ⟨q2,e2,k2,f2,l2⟩:=aAi (s:=core) h2 (k:=cond b 3 2) (m:=0) (by cases b<;>rfl) hc
 have e2:bM (core.1,core.2.1,core.2.2) (cond b 3 2) 0=some q2:=e2
 have eb:(cond b (some (3:Int)) (some (2:Int)))=some (cond b 3 2):=by cases b<;>rfl
 have F2:nQ q2.2.2.2=(if b then fU core.2.2 else nQ core.2.2):=by rw [f2,h0];cases b<;>rfl
 have L2:fU q2.2.2.2=(if b then nQ core.2.2 else fU core.2.2):=by rw [l2,h0];cases b<;>rfl
 have dc:decide ((core.2.2.length:Int)>(0:Int))=true:=zX (by omega)
 obtain ⟨q1,e1,k1⟩:=vZ (s:=up) h1 1 0
 obtain ⟨q3,e3,k3⟩:=vZ (s:=down) h3 4 0
 have e1':bM (up.1,up.2.1,up.2.2) 1 0=some q1:=e1
 have e3':bM (down.1,down.2.1,down.2.2) 4 0=some q3:=e3
 have F1:0<up.2.2.length→nQ q1.2.2.2=fU up.2.2:=fun hu=>by
  obtain ⟨q,e,_,f,_⟩:=aAi (s:=up) h1 (k:=1) (m:=0) rfl hu
  have :some q1=some q:=e1.symm.trans e
  injection this with this
  rw [this,f];rfl
 have L3:0<down.2.2.length→fU q3.2.2.2=fU down.2.2:=fun hu=>by
  obtain ⟨q,e,_,_,l⟩:=aAi (s:=down) h3 (k:=4) (m:=0) rfl hu
  have :some q3=some q:=e3.symm.trans e
  injection this with this
  rw [this,l];rfl
 unfold kU pj3 pj4
 rw [eb]
 simp only [e1',e2,e3',aA,dc,zZ]
 rw [show aK 48 0 1=true from by decide]
 rcases hx with ⟨hu,hx⟩ | ⟨hu,hx⟩
 ·rw [zW (show ¬ ((up.2.2.length:Int)>0) by omega)]
  rcases hy with ⟨hd,hy⟩ | ⟨hd,hy⟩
  ·rw [zW (show ¬ ((down.2.2.length:Int)>0) by omega)]
   exact ⟨[q2],rfl,aHz k2,by show nQ q2.2.2.2=_;rw [F2,hx],by show fU q2.2.2.2=_;rw [L2,hy]⟩
  ·rw [zX (show (down.2.2.length:Int)>0 by omega)]
   refine ⟨[q2,q3],rfl,⟨bW1 rfl,fun z hz=> ?_⟩,by show nQ q2.2.2.2=_;rw [F2,hx],by show fU q3.2.2.2=_;rw [L3 hd,hy]⟩
   have hz:z∈[q2,q3]:=hz
   simp only [bT9,bUr,or_false] at hz
   rcases hz with rfl | rfl
   ·exact k2
   ·exact k3
 ·rw [zX (show (up.2.2.length:Int)>0 by omega)]
  rcases hy with ⟨hd,hy⟩ | ⟨hd,hy⟩
  ·rw [zW (show ¬ ((down.2.2.length:Int)>0) by omega)]
   refine ⟨[q1,q2],rfl,⟨bW1 rfl,fun z hz=> ?_⟩,by show nQ q1.2.2.2=_;rw [F1 hu,hx],by show fU q2.2.2.2=_;rw [L2,hy]⟩
   have hz:z∈[q1,q2]:=hz
   simp only [bT9,bUr,or_false] at hz
   rcases hz with rfl | rfl
   ·exact k1
   ·exact k2
  ·rw [zX (show (down.2.2.length:Int)>0 by omega)]
   refine ⟨[q1,q2,q3],rfl,⟨bW1 rfl,fun z hz=> ?_⟩,by show nQ q1.2.2.2=_;rw [F1 hu,hx],by show fU q3.2.2.2=_;rw [L3 hd,hy]⟩
   have hz:z∈[q1,q2,q3]:=hz
   simp only [bT9,bUr,or_false] at hz
   rcases hz with rfl | rfl | rfl
   ·exact k1
   ·exact k2
   ·exact k3


def bI8 (up:den tSg) (a x:Int):Prop:=(up.2.2.length=0∧a=x)∨(0<up.2.2.length∧fU up.2.2=some x)

theorem aNt {n:Nat} (hn:n<=100) {d cc:lSg} (hk:DbD n d cc) {up down:den tSg} (h1:up.2.2.length<=5) (h3:down.2.2.length<=5) {a b x y:Int} (ha:0<=a) (hb:0<=b) (hx:bI8 up a x) (hy:bI8 down b y): ∃ l,iD (d,cc) up a b down=some l∧bT x y (2 * n) l:=by
 obtain ⟨y1,e1,⟨f1,g1⟩,b1⟩:=bLd hn hk ha hb
 obtain ⟨y2,e2,⟨f2,g2⟩,b2⟩:=bLd hn hk hb ha
 unfold iD ixb pj2 pj3
 rw [e1,aA]
 refine bV (G:=fun o=> ∃ l,o=some l∧bT x y (2 * n) l) y1.length (fun s:Int×lPt=>s.1) (fun i s=>bT x y i s.2) (fun l:lPt=>bT x y n l) ?_ ?_ 0 ((0:Int),[]) (by omega) rfl ⟨by simp,fun x hx=>(bUr hx).elim⟩ ?_
 ·rintro i ⟨_,l⟩ hi rfl hp
  simp only at hp
  have hl:=hp.1
  right
  have hpos:0<y1[i].2.2.length:=by
   have :=(b1 y1[i] (bUj hi)).1
   cases h0:y1[i].2.2 with
   | nil=>rw [h0] at this;cases this
   | cons z l=>exact Nat.succ_pos _
  obtain ⟨p,ep,kp⟩:=bEt h1 (g1 y1[i] (bUj hi)) h3 false hpos (x:=x) (y:=y) (hx.imp (fun h=>⟨h.1,by rw [← h.2];exact (b1 y1[i] (bUj hi)).1⟩) id) (hy.imp (fun h=>⟨h.1,by rw [← h.2];exact (b1 y1[i] (bUj hi)).2⟩) id)
  have ep:kU (up.1,up.2.1,up.2.2) (y1[i].1,y1[i].2.1,y1[i].2.2) false (down.1,down.2.1,down.2.2)=some p:=ep
  refine ⟨(((i+1:Nat):Int),l++[p]),?_,rfl,hp.add (m:=1) ⟨by simp,fun q hq=>by rw [bUd.1 hq];exact kp⟩⟩
  simp only [zX (show (i:Int)<(y1.length:Int) by omega),zX (show (0:Int)<=(i:Int) by omega),zZ,bUf,bT6 hi,aA,ep,aE (b:=24) (n:=l.length) (m:=1) (by decide) (by omega),bE (show i<=1000000000 by omega)]
 ·rintro ⟨_,l⟩ rfl hp
  simp only at hp
  exact ⟨l,by simp only [zW (bUm _),zY],bT7 hp.1 f1,hp.2⟩
 rintro l1 hl1
 rw [e2,aA]
 refine bV (G:=fun o=> ∃ l,o=some l∧bT x y (2 * n) l) y2.length (fun s:Int×lPt=>s.1) (fun i s=>bT x y (n+i) s.2) (fun l:lPt=>bT x y (2 * n) l) ?_ ?_ 0 ((0:Int),l1) (by omega) rfl hl1 (fun l hl=>⟨l,rfl,hl⟩)
 ·rintro i ⟨_,l⟩ hi rfl hp
  simp only at hp
  have hl:=hp.1
  right
  have hpos:0<y2[i].2.2.length:=by
   have :=(b2 y2[i] (bUj hi)).1
   cases h0:y2[i].2.2 with
   | nil=>rw [h0] at this;cases this
   | cons z l=>exact Nat.succ_pos _
  obtain ⟨p,ep,kp⟩:=bEt h1 (g2 y2[i] (bUj hi)) h3 true hpos (x:=x) (y:=y) (hx.imp (fun h=>⟨h.1,by rw [← h.2];exact (b2 y2[i] (bUj hi)).2⟩) id) (hy.imp (fun h=>⟨h.1,by rw [← h.2];exact (b2 y2[i] (bUj hi)).1⟩) id)
  have ep:kU (up.1,up.2.1,up.2.2) (y2[i].1,y2[i].2.1,y2[i].2.2) true (down.1,down.2.1,down.2.2)=some p:=ep
  refine ⟨(((i+1:Nat):Int),l++[p]),?_,rfl,hp.add (m:=1) ⟨by simp,fun q hq=>by rw [bUd.1 hq];exact kp⟩⟩
  simp only [zX (show (i:Int)<(y2.length:Int) by omega),zX (show (0:Int)<=(i:Int) by omega),zZ,bUf,bT6 hi,aA,ep,aE (b:=24) (n:=l.length) (m:=1) (by decide) (by omega),bE (show i<=1000000000 by omega)]
 ·rintro ⟨_,l⟩ rfl hp
  simp only at hp
  exact ⟨l,by simp only [zW (bUm _),zY],bT7 hp.1 (by omega),hp.2⟩


def aKm (a b:Int) (p:den tPt):Prop:=p=[]∨aOb a b p

theorem bSc {up down:den tSg} (h1:up.2.2.length<=5) (h2:down.2.2.length<=5) {x y:Int} (hx:fU up.2.2=some x) (hy:fU down.2.2=some y): ∃ p,iG up down=some p∧aKm x y p:=by
 obtain ⟨y1,e1,l1⟩:=aBj (s:=up) (by omega)
 obtain ⟨y2,e2,l2⟩:=aBj (s:=down) (by omega)
 have e1:cX (up.1,up.2.1,up.2.2)=some y1:=e1
 have e2:cX (down.1,down.2.1,down.2.2)=some y2:=e2
 have hm: ∃ p,iP up down=some p∧aKm x y p:=by
  unfold iP ixb pj3 pj4
  rw [e1,aA,e2,aA,aAo (n:=y1.length) (by omega)]
  refine fY (G:=fun o=> ∃ p,o=some p∧aKm x y p) (fun (n:Nat) (s:Int)=>s=(n:Int) - 1∧n<=y1.length) (fun z:Unit⊕den tPt=> ∀ p,z= .inr p→aKm x y p) ?_ y1.length ((y1.length:Int) - 1) ⟨rfl,bUo _⟩ ?_
  ·rintro n _ ⟨rfl,hn⟩
   by_cases h0:(n:Int) - 1>=0
   ·simp only [zX h0,zZ]
    have hn1:(n:Int) - 1=((n - 1:Nat):Int):=by omega
    have hi:n - 1<y1.length:=by omega
    rw [aAo (n:=y2.length) (by omega)]
    refine fY (G:=fun (o:Option (Int⊕(Unit⊕den tPt)))=>(∃ r:Unit⊕den tPt,o=some (bT4 r)∧ ∀ p,r=bT4 p→aKm x y p)∨ ∃ (m:Nat) (s':Int),m<n∧o=some (bT5 s')∧s'=(m:Int) - 1∧m<=y1.length) (fun (k:Nat) (s:Int)=>s=(k:Int) - 1∧k<=y2.length) (fun z:Unit⊕(Int⊕(Unit⊕den tPt))=>z= .inl ()∨ ∃ p,z= .inr (.inr (.inr p))∧aKm x y p) ?_ y2.length ((y2.length:Int) - 1) ⟨rfl,bUo _⟩ ?_
    ·rintro k _ ⟨rfl,hk⟩
     by_cases g0:(k:Int) - 1>=0
     ·have hk1:(k:Int) - 1=((k - 1:Nat):Int):=by omega
      have hj:k - 1<y2.length:=by omega
      simp only [hn1,hk1,zX (show ((k - 1:Nat):Int)>=0 by omega),zX (show (0:Int)<=((n - 1:Nat):Int) by omega),zX (show (0:Int)<=((k - 1:Nat):Int) by omega),zX (show ((n - 1:Nat):Int)<(y1.length:Int) by omega),zX (show ((k - 1:Nat):Int)<(y2.length:Int) by omega),zZ,bUf,bT6 hi,bT6 hj,aA]
      cases y1[n - 1]==y2[k - 1] with
      | true=>
       obtain ⟨q1,f1,g1,u1,u2⟩:=aAi (s:=up) h1 (k:=1) (m:=n - 1) rfl (by omega)
       obtain ⟨q2,f2,g2,v1,v2⟩:=aAi (s:=down) h2 (k:=4) (m:=k - 1) rfl (by omega)
       have f1:bM (up.1,up.2.1,up.2.2) 1 ((n - 1:Nat):Int)=some q1:=f1
       have f2:bM (down.1,down.2.1,down.2.2) 4 ((k - 1:Nat):Int)=some q2:=f2
       exact .inl ⟨.inr (.inr (.inr [q1,q2])),by simp only [zZ,f1,f2,aA],.inr ⟨[q1,q2],rfl,.inr ⟨⟨bW1 rfl,fun x hx=>by
        have hx:x∈[q1,q2]:=hx
        simp only [bT9,bUr,or_false] at hx
        rcases hx with rfl | rfl
        ·exact g1
        ·exact g2⟩,u1.trans hx,v2.trans hy⟩⟩⟩
      | false=>exact .inr ⟨k - 1,((k - 1:Nat):Int) - 1,by omega,by simp only [zY,aAo (n:=k - 1) (by omega)],rfl,by omega⟩
     ·exact .inl ⟨.inl (),by simp only [zW g0,zY],.inl rfl⟩
    ·rintro z (rfl | ⟨p,rfl,hp⟩)
     ·exact .inr ⟨n - 1,((n - 1:Nat):Int) - 1,by omega,by simp only [bVe,hn1,aAo (n:=n - 1) (by omega)],rfl,by omega⟩
     ·exact .inl ⟨.inr p,rfl,fun q hq=>by cases hq;exact hp⟩
   ·exact .inl ⟨.inl (),by simp only [zW h0,zY],fun p hp=>by cases hp⟩
  ·rintro z hz
   cases z with
   | inl u=>exact ⟨[],rfl,.inl rfl⟩
   | inr p=>exact ⟨p,rfl,hz p rfl⟩
 obtain ⟨p,ep,kp⟩:=hm
 have ep:iP (up.1,up.2.1,up.2.2) (down.1,down.2.1,down.2.2)=some p:=ep
 exact ⟨p,by unfold iG pj3;rw [ep,aA],kp⟩

theorem bKe {y:lSg} {n:Nat} (hn:n<=100) (hy:aGr n y) (kind r:Int) {a b:Int} (hk4:inR kind 1 4=true) (hends: ∀ s∈y,∀ (m:Nat) (x:den bZ),s.2.2[m]? =some x→x.1=r→(if jC kind then fU s.2.2 else some x.1)=some a∧(if jC kind then some x.1 else fU s.2.2)=some b) {m:Nat} (hm:m<=10000) {l0:lPt} (h0:bT a b m l0) {T:Type} {k:lPt→Option T} {G:Option T→Prop} (hk: ∀ l,bT a b (m+n) l→G (k l)):
  G (Option.bind (aC (fun (s8:Int×lPt)=>cond (decide (s8.1<(y.length:Int))) (Option.bind (cond (decide ((0:Int)<=s8.1)) (cond (decide (s8.1<(y.length:Int))) (Option.bind y[s8.1.toNat]? fun x9=>Option.bind (mG (x9.1,x9.2.1,x9.2.2) r) fun y10=>cond (decide (y10>=(0:Int))) (cond (decide ((0:Int)<=s8.1)) (cond (decide (s8.1<(y.length:Int))) (Option.bind y[s8.1.toNat]? fun x11=>Option.bind (bM (x11.1,x11.2.1,x11.2.2) kind y10) fun y12=>cond (aK 24 s8.2.length 1) (some (s8.2++[[(y12.1,y12.2.1,y12.2.2.1,y12.2.2.2)]])) none) none) none) (some s8.2)) none) none) fun (s13:lPt)=>some (bT5 (wr (s8.1+(1:Int)),s13))) (some (bT4 s8.2))) ((0:Int),l0)) k):=by
 obtain ⟨hy1,hy2⟩:=hy
 refine bV (G:=G) y.length (fun s:Int×lPt=>s.1) (fun i s=>bT a b (m+i) s.2) (fun l:lPt=>bT a b (m+n) l) ?_ ?_ 0 ((0:Int),l0) (by omega) rfl h0 hk
 ·rintro i ⟨_,l⟩ hi rfl hp
  simp only at hp
  have hl:=hp.1
  have h5:=hy2 y[i] (bUj hi)
  obtain ⟨v,ev,iv⟩:=bQh (s:=y[i]) (by omega) r
  have ev:mG (y[i].1,y[i].2.1,y[i].2.2) r=some v:=ev
  right
  by_cases hv:v>=0
  ·obtain ⟨m',x',rfl,hx',hr'⟩:=iv hv
   obtain ⟨hm',ex'⟩:=bUg.1 hx'
   obtain ⟨q,eq,kq,u1,u2⟩:=aAi (s:=y[i]) h5 hk4 hm'
   obtain ⟨z1,z2⟩:=hends y[i] (bUj hi) m' x' hx' hr'
   rw [ex'] at u1 u2
   have eq:bM (y[i].1,y[i].2.1,y[i].2.2) kind (m':Int)=some q:=eq
   simp only [zX (show (i:Int)<(y.length:Int) by omega),zX (show (0:Int)<=(i:Int) by omega),zZ,bUf,bT6 hi,aA,ev,eq,zX hv,aE (b:=24) (n:=l.length) (m:=1) (by decide) (by omega),bE (show i<=1000000000 by omega)]
   exact ⟨_,rfl,rfl,hp.add (bT.one (p:=[q]) ⟨aHz kq,u1.trans z1,u2.trans z2⟩)⟩
  ·simp only [zX (show (i:Int)<(y.length:Int) by omega),zX (show (0:Int)<=(i:Int) by omega),zZ,bUf,bT6 hi,aA,ev,zW hv,zY,bE (show i<=1000000000 by omega)]
   exact ⟨_,rfl,rfl,hp.mono (by omega)⟩
 ·rintro ⟨_,l⟩ rfl hp
  simp only at hp
  exact ⟨l,by simp only [zW (bUm _),zY],hp.mono (by omega)⟩

theorem bR2 {n:Nat} (hn:n<=100) {d cc:lSg} (hk:DbD n d cc) {a b:Int} (ha:0<=a) (hb:0<=b): ∃ l,sW (d,cc) a b=some l∧bT a b (4 * n) l:=by
 obtain ⟨y1,e1,g1,w1⟩:=aNy hn hk ha
 obtain ⟨y2,e2,g2,w2⟩:=aNy hn hk hb
 obtain ⟨y3,e3,g3⟩:=aNt hn hk (up:=(0,0,[])) (down:=(0,0,[])) (by simp) (by simp) ha hb (.inl ⟨rfl,rfl⟩) (.inl ⟨rfl,rfl⟩)
 unfold sW ixb pj2 pj3 pj4
 rw [e1,aA]
 refine bKe hn g1 1 b (a:=a) (b:=b) rfl (fun s hs m x hx hr=>⟨w1 s hs,by show some x.1=some b;rw [hr]⟩) (m:=0) (by omega) (l0:=[]) ⟨by simp,fun x hx=>(bUr hx).elim⟩ (G:=fun o=> ∃ l,o=some l∧bT a b (4 * n) l) (fun l hl=> ?_)
 rw [e2,aA]
 refine bKe hn g2 4 a (a:=a) (b:=b) rfl (fun s hs m x hx hr=>⟨by show some x.1=some a;rw [hr],w2 s hs⟩) (m:=0+n) (by omega) hl (G:=fun o=> ∃ l,o=some l∧bT a b (4 * n) l) (fun l hl=> ?_)
 have h1:=hl.1
 have h2:=g3.1
 rw [e3,aA,aE (b:=24) (by decide) (by omega)]
 exact ⟨_,rfl,(hl.add g3).mono (by omega)⟩

theorem aH5 {s:den tSg} {a x:Int} (h:fU s.2.2=some x):bI8 s a x:=by
 cases h0:s.2.2 with
 | nil=>rw [h0] at h;cases h
 | cons z l=>exact .inr ⟨by rw [h0];exact Nat.succ_pos _,h⟩

theorem aNz {s:den tSg} {x:Int} (h:fU s.2.2=some x) (hi:aD5 s.2.2): ∃ v,cE s=some v∧0<=v:=by
 have hp:0<s.2.2.length:=by
  cases h0:s.2.2 with
  | nil=>rw [h0] at h;cases h
  | cons z l=>exact Nat.succ_pos _
 unfold cE
 rw [show ((s.2.2.length:Int)==0)=false by rw [beq_eq_false_iff_ne];omega,zY,show (0:Int)=((0:Nat):Int) from rfl,aF,bT6 hp,aA]
 exact ⟨_,rfl,(hi _ (bUj hp)).1⟩

theorem bEh {n:Nat} (hn:n<=100) {d cc:lSg} (hk:DbD n d cc) (r:Int): ∃ l,dJ (d,cc) r=some l∧(aGr n l∧ ∀ x∈l,x∈d):=by
 have hd:=hk.down
 unfold dJ pj3
 refine bV (G:=fun o=> ∃ l,o=some l∧(aGr n l∧ ∀ x∈l,x∈d)) d.length (fun s:Int×lSg=>s.1) (fun i s=>(aGr i s.2∧ ∀ x∈s.2,x∈d)) (fun l:lSg=>(aGr n l∧ ∀ x∈l,x∈d)) ?_ ?_ 0 ((0:Int),[]) (by omega) rfl ⟨⟨by simp,fun x hx=>(bUr hx).elim⟩,fun x hx=>(bUr hx).elim⟩ (fun l hl=>⟨l,rfl,hl⟩)
 ·rintro i ⟨_,l⟩ hi rfl ⟨⟨g1,g2⟩,g3⟩
  simp only at g1 g2 g3
  right
  have h5:=hk.hd d[i] (bUj hi)
  obtain ⟨v,ev⟩:=aRk (s:=d[i]) (by omega)
  have ev:eD (d[i].1,d[i].2.1,d[i].2.2)=some v:=ev
  have ec:=aDq (x:=d[i]) (by omega)
  have ec:fN (d[i].1,d[i].2.1,d[i].2.2)=some d[i]:=ec
  simp only [zX (show (i:Int)<(d.length:Int) by omega),zZ,aF,bT6 hi,aA,ev,ec,aE (b:=40) (n:=l.length) (m:=1) (by decide) (by omega),bE (show i<=1000000000 by omega)]
  cases v==r with
  | true=>exact ⟨_,rfl,rfl,⟨by simp;omega,fun x hx=>(bUe.1 hx).elim (g2 x) fun hx=>by rw [bUd.1 hx];exact h5⟩,fun x hx=>(bUe.1 hx).elim (g3 x) fun hx=>by rw [bUd.1 hx];exact bUj hi⟩
  | false=>exact ⟨_,rfl,rfl,⟨by show l.length<=i+1;omega,g2⟩,g3⟩
 ·rintro ⟨_,l⟩ rfl ⟨⟨g1,g2⟩,g3⟩
  exact ⟨l,by simp only [zW (bUm _),zY],⟨by simp only at g1;omega,g2⟩,g3⟩

theorem aTu {d cc:lSg} (hk:DbD 13 d cc) {r:Int} {l:lSg} (h:dJ (d,cc) r=some l): ∀ x∈l,aD5 x.2.2:=by
 obtain ⟨l',e,_,hm⟩:=bEh (n:=13) (by decide) hk r
 have :some l=some l':=h.symm.trans e
 injection this with this
 rw [this]
 exact fun x hx=>(hk.ha x (hm x hx)).2

theorem bS6 {as:lAS} {ls:lLk} (ht:wL as ls) {d cc:lSg} (hk:DbD 13 d cc) {a b:Int} (ha:0<=a) (hb:0<=b): ∃ l,lY (as,ls) (d,cc) a b=some l∧bT a b 10000 l:=by
 have hlen:=ht.len
 unfold lY ixb pj2 pj3
 rw [aCl (t:=(as,ls)) (show as.length<=_ by omega),aCl (t:=(as,ls)) (show as.length<=_ by omega),aA,aA]
 obtain ⟨b1,e1,k1⟩: ∃ v:Bool,(cond (a==b) (some true) (cond (!(eB (as,ls) a)) (some true) (some (!(eB (as,ls) b)))))=some v∧(v=false→eB (as,ls) a=true∧eB (as,ls) b=true):=by
  cases a==b
  ·cases eB (as,ls) a
   ·exact ⟨true,rfl,fun h=>by cases h⟩
   ·cases eB (as,ls) b
    ·exact ⟨true,rfl,fun h=>by cases h⟩
    ·exact ⟨false,rfl,fun _=>⟨rfl,rfl⟩⟩
  ·exact ⟨true,rfl,fun h=>by cases h⟩
 rw [e1,aA]
 cases b1 with
 | true=>exact ⟨[],rfl,by simp,fun x hx=>(bUr hx).elim⟩
 | false=>
  obtain ⟨ka,kb⟩:=k1 rfl
  obtain ⟨xa,_,ia⟩:=aG5 ka
  obtain ⟨xb,_,ib⟩:=aG5 kb
  have ia:idx as a=some xa:=ia
  have ib:idx as b=some xb:=ib
  obtain ⟨y4,e4,g4⟩:=bR2 (n:=13) (by decide) hk ha hb
  obtain ⟨y5,e5,⟨g5,f5⟩,w5⟩:=aNy (n:=13) (by decide) hk ha
  obtain ⟨y6,e6,⟨g6,f6⟩,w6⟩:=aNy (n:=13) (by decide) hk hb
  have i5:=aTu hk e5
  have i6:=aTu hk e6
  simp only [zY,e4,e5,e6,aA,aP,bD,aW,aV,aX,ia,ib]
  refine bV (G:=fun o=> ∃ l,o=some l∧bT a b 10000 l) y5.length (fun s:Int×lPt=>s.1) (fun i s=>bT a b (52+13 * i) s.2) (fun l:lPt=>bT a b 221 l) ?_ ?_ 0 ((0:Int),y4) (by omega) rfl g4 ?_
  ·rintro i ⟨_,l⟩ hi rfl hp
   simp only at hp
   right
   simp only [zX (show (i:Int)<(y5.length:Int) by omega),zZ]
   refine bV (G:=fun (o:Option (q36⊕lPt))=> ∃ s':Int×lPt,o=some (bT5 s')∧s'.1=((i+1:Nat):Int)∧bT a b (52+13 * (i+1)) s'.2) y6.length (fun s:Int×lPt=>s.1) (fun j s=>bT a b (52+13 * i+j) s.2) (fun l:lPt=>bT a b (52+13 * (i+1)) l) ?_ ?_ 0 ((0:Int),l) (by omega) rfl hp ?_
   ·rintro j ⟨_,l⟩ hj rfl hq
    simp only at hq
    have hl:=hq.1
    obtain ⟨p,ep,kp⟩:=bSc (f5 y5[i] (bUj hi)) (f6 y6[j] (bUj hj)) (w5 y5[i] (bUj hi)) (w6 y6[j] (bUj hj))
    have ep:iG (y5[i].1,y5[i].2.1,y5[i].2.2) (y6[j].1,y6[j].2.1,y6[j].2.2)=some p:=ep
    right
    simp only [zX (show (j:Int)<(y6.length:Int) by omega),zX (show (0:Int)<=(i:Int) by omega),zX (show (0:Int)<=(j:Int) by omega),zZ,bUf,bT6 hi,bT6 hj,aA,ep,aE (b:=24) (n:=l.length) (m:=1) (by decide) (by omega),bE (show j<=1000000000 by omega)]
    cases hdp:decide ((bUk (α:=den tPp) p:Int)>0) with
    | true=>
     have kp:aOb a b p:=kp.elim (fun h=>by rw [h] at hdp;cases hdp) id
     exact ⟨_,rfl,rfl,hq.add (bT.one kp)⟩
    | false=>exact ⟨_,rfl,rfl,hq.mono (by omega)⟩
   ·rintro ⟨_,l⟩ rfl hq
    simp only at hq
    exact ⟨l,by simp only [zW (bUm _),zY],hq.mono (by omega)⟩
   ·rintro l hl
    exact ⟨_,rfl,bE (by omega),hl⟩
  ·rintro ⟨_,l⟩ rfl hp
   simp only at hp
   exact ⟨l,by simp only [zW (bUm _),zY],hp.mono (by omega)⟩
  rintro l39 h39
  refine bV (G:=fun o=> ∃ l,o=some l∧bT a b 10000 l) y6.length (fun s:Int×lPt=>s.1) (fun i s=>bT a b (221+26 * i) s.2) (fun l:lPt=>bT a b 559 l) ?_ ?_ 0 ((0:Int),l39) (by omega) rfl h39 ?_
  ·rintro i ⟨_,l⟩ hi rfl hp
   simp only at hp
   have hl:=hp.1
   simp only [zX (show (i:Int)<(y6.length:Int) by omega),zX (show (0:Int)<=(i:Int) by omega),zZ,bUf,bT6 hi,aA]
   cases xa.2.1 with
   | false=>exact .inl ⟨l,by simp only [zY],hp.mono (by omega)⟩
   | true=>
    obtain ⟨v,ev,v0⟩:=aNz (s:=y6[i]) (w6 y6[i] (bUj hi)) (i6 y6[i] (bUj hi))
    have ev:cE (y6[i].1,y6[i].2.1,y6[i].2.2)=some v:=ev
    obtain ⟨q,eq,kq⟩:=aNt (n:=13) (by decide) hk (up:=(0,0,[])) (down:=y6[i]) (by simp) (f6 y6[i] (bUj hi)) ha v0 (.inl ⟨rfl,rfl⟩) (aH5 (w6 y6[i] (bUj hi)))
    have hq:=kq.1
    have eq:iD (d,cc) (0,0,[]) a v (y6[i].1,y6[i].2.1,y6[i].2.2)=some q:=eq
    exact .inr ⟨(((i+1:Nat):Int),l++q),by simp only [zZ,ev,eq,aA,aE (b:=24) (n:=l.length) (m:=q.length) (by decide) (by omega),bE (show i<=1000000000 by omega)],rfl,(hp.add kq).mono (by omega)⟩
  ·rintro ⟨_,l⟩ rfl hp
   simp only at hp
   exact ⟨l,by simp only [zW (bUm _),zY,aA],hp.mono (by omega)⟩
  rintro l54 h54
  refine bV (G:=fun o=> ∃ l,o=some l∧bT a b 10000 l) y5.length (fun s:Int×lPt=>s.1) (fun i s=>bT a b (559+26 * i) s.2) (fun l:lPt=>bT a b 897 l) ?_ ?_ 0 ((0:Int),l54) (by omega) rfl h54 ?_
  ·rintro i ⟨_,l⟩ hi rfl hp
   simp only at hp
   have hl:=hp.1
   simp only [zX (show (i:Int)<(y5.length:Int) by omega),zX (show (0:Int)<=(i:Int) by omega),zZ,bUf,bT6 hi,aA]
   cases xb.2.1 with
   | false=>exact .inl ⟨l,by simp only [zY],hp.mono (by omega)⟩
   | true=>
    obtain ⟨v,ev,v0⟩:=aNz (s:=y5[i]) (w5 y5[i] (bUj hi)) (i5 y5[i] (bUj hi))
    have ev:cE (y5[i].1,y5[i].2.1,y5[i].2.2)=some v:=ev
    obtain ⟨q,eq,kq⟩:=aNt (n:=13) (by decide) hk (up:=y5[i]) (down:=(0,0,[])) (f5 y5[i] (bUj hi)) (by simp) v0 hb (aH5 (w5 y5[i] (bUj hi))) (.inl ⟨rfl,rfl⟩)
    have hq:=kq.1
    have eq:iD (d,cc) (y5[i].1,y5[i].2.1,y5[i].2.2) v b (0,0,[])=some q:=eq
    exact .inr ⟨(((i+1:Nat):Int),l++q),by simp only [zZ,ev,eq,aA,aE (b:=24) (n:=l.length) (m:=q.length) (by decide) (by omega),bE (show i<=1000000000 by omega)],rfl,(hp.add kq).mono (by omega)⟩
  ·rintro ⟨_,l⟩ rfl hp
   simp only at hp
   exact ⟨l,by simp only [zW (bUm _),zY,aA],hp.mono (by omega)⟩
  rintro l69 h69
  refine bV (G:=fun o=> ∃ l,o=some l∧bT a b 10000 l) y5.length (fun s:Int×lPt=>s.1) (fun i s=>bT a b (897+338 * i) s.2) (fun l:lPt=>bT a b 10000 l) ?_ ?_ 0 ((0:Int),l69) (by omega) rfl h69 (fun l hl=>⟨l,rfl,hl⟩)
  ·rintro i ⟨_,l⟩ hi rfl hp
   simp only at hp
   right
   simp only [zX (show (i:Int)<(y5.length:Int) by omega),zZ]
   refine bV (G:=fun (o:Option (q36⊕lPt))=> ∃ s':Int×lPt,o=some (bT5 s')∧s'.1=((i+1:Nat):Int)∧bT a b (897+338 * (i+1)) s'.2) y6.length (fun s:Int×lPt=>s.1) (fun j s=>bT a b (897+338 * i+26 * j) s.2) (fun l:lPt=>bT a b (897+338 * (i+1)) l) ?_ ?_ 0 ((0:Int),l) (by omega) rfl hp ?_
   ·rintro j ⟨_,l⟩ hj rfl hq
    simp only at hq
    have hl:=hq.1
    obtain ⟨v,ev,v0⟩:=aNz (s:=y5[i]) (w5 y5[i] (bUj hi)) (i5 y5[i] (bUj hi))
    have ev:cE (y5[i].1,y5[i].2.1,y5[i].2.2)=some v:=ev
    obtain ⟨u,eu,u0⟩:=aNz (s:=y6[j]) (w6 y6[j] (bUj hj)) (i6 y6[j] (bUj hj))
    have eu:cE (y6[j].1,y6[j].2.1,y6[j].2.2)=some u:=eu
    obtain ⟨q,eq,kq⟩:=aNt (n:=13) (by decide) hk (up:=y5[i]) (down:=y6[j]) (f5 y5[i] (bUj hi)) (f6 y6[j] (bUj hj)) v0 u0 (aH5 (w5 y5[i] (bUj hi))) (aH5 (w6 y6[j] (bUj hj)))
    have hq':=kq.1
    have eq:iD (d,cc) (y5[i].1,y5[i].2.1,y5[i].2.2) v u (y6[j].1,y6[j].2.1,y6[j].2.2)=some q:=eq
    exact .inr ⟨(((j+1:Nat):Int),l++q),by simp only [zX (show (j:Int)<(y6.length:Int) by omega),zX (show (i:Int)<(y5.length:Int) by omega),zX (show (0:Int)<=(i:Int) by omega),zX (show (0:Int)<=(j:Int) by omega),zZ,bUf,bT6 hi,bT6 hj,aA,ev,eu,eq,aE (b:=24) (n:=l.length) (m:=q.length) (by decide) (by omega),bE (show j<=1000000000 by omega)],rfl,(hq.add kq).mono (by omega)⟩
   ·rintro ⟨_,l⟩ rfl hq
    simp only at hq
    exact ⟨l,by simp only [zW (bUm _),zY],hq.mono (by omega)⟩
   ·rintro l hl
    exact ⟨_,rfl,bE (by omega),hl⟩
  ·rintro ⟨_,l⟩ rfl hp
   simp only at hp
   exact ⟨l,by simp only [zW (bUm _),zY],hp.mono (by omega)⟩

theorem bSi {as:lAS} {ls:lLk} (ht:wL as ls) {d cc:lSg} (hk:DbD 13 d cc) {a b:Int} (ha:0<=a) (hb:0<=b) (now:Int): ∃ l,jN (as,ls) (d,cc) a b now=some l∧bT a b 24 l:=by
 obtain ⟨y,ey,hy⟩:=bS6 ht hk ha hb
 have hy1:=hy.1
 unfold jN ixb pj2
 rw [ey,aA]
 refine bV (G:=fun o=> ∃ l,o=some l∧bT a b 24 l) y.length (fun s:Int×lPt=>s.1) (fun i s=>bT a b 24 s.2) (fun l:lPt=>bT a b 24 l) ?_ ?_ 0 ((0:Int),[]) (by omega) rfl ⟨by simp,fun x hx=>(bUr hx).elim⟩ (fun l hl=>⟨l,rfl,hl⟩)
 ·rintro i ⟨_,l⟩ hi rfl hp
  simp only at hp
  have hl:=hp.1
  have hyi:=hy.2 y[i] (bUj hi)
  simp only [zX (show (i:Int)<(y.length:Int) by omega),zZ,aA]
  by_cases hc:(l.length:Int)<24
  ·right
   obtain ⟨b1,f1⟩:=aZf ht hyi.1 now
   obtain ⟨b2,f2⟩:=bHq (n:=24) (by decide) hp.d y[i]
   simp only [zX hc,zZ,zX (show (0:Int)<=(i:Int) by omega),zX (show (i:Int)<(y.length:Int) by omega),bUf,bT6 hi,aA,f1,f2,aE (b:=24) (n:=l.length) (m:=1) (by decide) (by omega),bE (show i<=1000000000 by omega)]
   cases b1 with
   | false=>exact ⟨_,rfl,rfl,hp⟩
   | true=>
    cases b2 with
    | true=>exact ⟨_,rfl,rfl,hp⟩
    | false=>exact ⟨_,rfl,rfl,by simp;omega,fun q hq=>(bUe.1 hq).elim (hp.2 q) fun hq=>by rw [bUd.1 hq];exact hyi⟩
  ·left
   exact ⟨l,by simp only [zW hc,zY],hp⟩
 ·rintro ⟨_,l⟩ rfl hp
  exact ⟨l,by simp only [zW (bUm _),zY,aA],hp⟩

theorem aIe {code:List Int} (hl:code.length<=1048576) {c:List Int} {p h:Int} (hc:Cur code (c,p,h)): ∃ v c' p' h',lP (c,p,h)=some (v,c',p',h')∧Cur code (c',p',h'):=by
 obtain ⟨v1,c1,p1,h1,e1,k1⟩:=mO hl (n:=10) (by decide) (by decide) hc
 unfold lP pj3 pj4
 simp only [e1,aA]
 cases v1 with
 | true=>
  obtain ⟨v2,c2,p2,h2,e2,_,k2⟩:=qD hl (l:=[(-1:Int),(2147483647:Int),(2147483648:Int)]) (by decide) (by decide) k1
  exact ⟨v2,c2,p2,h2,by simp only [zZ,e2,aA],k2⟩
 | false=>
  obtain ⟨v2,c2,p2,h2,e2,k2⟩:=mO hl (n:=4) (by decide) (by decide) k1
  simp only [zY,e2,aA]
  cases v2 with
  | true=>
   obtain ⟨v3,c3,p3,h3,e3,_,k3⟩:=qD hl (l:=[(0:Int),(1:Int),(2147483646:Int)]) (by decide) (by decide) k2
   exact ⟨v3,c3,p3,h3,by simp only [zZ,e3,aA],k3⟩
  | false=>
   obtain ⟨v3,c3,p3,h3,e3,_,k3⟩:=aFg hl (n:=1000000) (by decide) k2
   obtain ⟨v4,c4,p4,h4,e4,_,k4⟩:=aFg hl (n:=2000) (by decide) k3
   exact ⟨wr (v3 * v4),c4,p4,h4,by simp only [zY,e3,e4,aA],k4⟩

theorem bJe {as:lAS} {ls:lLk} {s:den tSg} (h5:s.2.2.length<=5) (hi:InN (as.length:Int) s.2.2): ∃ hs,tA (as,ls) s=some (s.1,s.2.1,hs)∧hs.length<=5∧InN (as.length:Int) hs:=by
 unfold tA ixb pj3 pj5 zz4
 rw [show ((s.1,s.2.1,s.2.2):den tSg)=s from rfl,aDq (by omega),aA]
 refine bV (G:=fun o=> ∃ hs,o=some (s.1,s.2.1,hs)∧hs.length<=5∧InN (as.length:Int) hs) s.2.2.length (fun z:Int×dA=>z.1) (fun i z=>z.2.length=s.2.2.length∧InN (as.length:Int) z.2) (fun r:dA=>r.length=s.2.2.length∧InN (as.length:Int) r) ?_ ?_ 0 ((0:Int),s.2.2) (by omega) rfl ⟨rfl,hi⟩ ?_
 ·rintro i ⟨_,l⟩ hlt rfl ⟨g1,g2⟩
  simp only at g1 g2
  right
  have hil:i<l.length:=by omega
  have hx:l[i]? =some l[i]:=bT6 hil
  obtain ⟨q0,q1⟩:=g2 l[i] (bUj hil)
  obtain ⟨m,hm⟩:=bUu q0
  have hml:m<as.length:=by omega
  obtain ⟨bt,et⟩:=zP (s:=(s.1,s.2.1,l)) (i:Int) (by show l.length<=_;omega)
  have ex:idx as l[i].1=some as[m]:=by rw [hm,aF];exact bT6 hml
  simp only [zX (show (i:Int)<(l.length:Int) by omega),zX (show (0:Int)<=(i:Int) by omega),zZ,bUf,hx,aA,ex,et,aT2,zX hil]
  refine ⟨_,rfl,bE (show i<=1000000000 by omega),by simp [g1],fun y hy=> ?_⟩
  rcases bWo hy with hy | rfl
  ·exact g2 y hy
  ·exact ⟨q0,q1⟩
 ·rintro ⟨_,l⟩ rfl ⟨g1,g2⟩
  simp only at g1 g2
  exact ⟨l,by simp only [g1,zW (bUm _),zY],g1,g2⟩
 ·rintro l ⟨g1,g2⟩
  exact ⟨l,rfl,by omega,g2⟩

theorem aYw {p:den tPt} (h:mA p): ∃ l,nN p=some l∧l.length<=18:=by
 have ht:=aGk h
 have hs:=aAg p
 unfold nN ixb pj3
 rw [aDn (by omega),aA]
 refine bV (G:=fun o=> ∃ l,o=some l∧l.length<=18) (gO p).length (fun z:Int×dM=>z.1) (fun i z=>z.2.length<=i) (fun r:dM=>r.length<=18) ?_ ?_ 0 ((0:Int),[]) (by omega) rfl (by simp) (fun l hl=>⟨l,rfl,hl⟩)
 ·rintro i ⟨_,l⟩ hlt rfl g1
  simp only at g1
  right
  simp only [zX (show (i:Int)<((gO p).length:Int) by omega),zX (show (0:Int)<=(i:Int) by omega),zZ,bUf,bT6 hlt,aA,aE (b:=24) (n:=l.length) (m:=1) (by decide) (by omega),bE (show i<=1000000000 by omega)]
  cases ((gO p)[i].2.2 != (0:Int)) with
  | true=>exact ⟨_,rfl,rfl,by simp;omega⟩
  | false=>exact ⟨_,rfl,rfl,by show l.length<=i+1;omega⟩
 ·rintro ⟨_,l⟩ rfl g1
  exact ⟨l,by simp only [zW (bUm _),zY],by simp only at g1;omega⟩

theorem aWt {l:lRs} {cap now:Int} (hl:qH l cap now) {p:den tPt} (hp:mA p) (id r till:Int): ∃ b m,dC l id p r till cap now=some (b,m)∧qH m cap now:=by
 obtain ⟨d,ed,hd⟩:=aYw hp
 have hn:=hl.len
 unfold dC ixb
 rw [aE (b:=40) (n:=([]:lRs).length) (m:=l.length) (by decide) (by simp;omega),zZ,ed,aA]
 refine bV (G:=fun o=> ∃ b m,o=some (b,m)∧qH m cap now) d.length (fun z:Int×lRs=>z.1) (fun i z=>qH z.2 cap now) (fun r:lRs⊕(Bool×lRs)=>match r with | .inl m=>qH m cap now | .inr m=>qH m.2 cap now) ?_ ?_ 0 ((0:Int),[]++l) (by omega) rfl hl ?_
 ·rintro i ⟨_,m⟩ hlt rfl g1
  simp only at g1
  have hm:=g1.len
  obtain ⟨b,eb⟩:=aYq (l:=m) (x:=(id,d[i].1,d[i].2.2,r,till)) (cap:=cap) (now:=now) (by omega)
  simp only [zX (show (i:Int)<(d.length:Int) by omega),zX (show (0:Int)<=(i:Int) by omega),zZ,bUf,bT6 hlt,aA,eb,bE (show i<=1000000000 by omega)]
  cases b with
  | true=>exact .inr ⟨_,rfl,rfl,g1.admR _⟩
  | false=>exact .inl ⟨_,rfl,hl⟩
 ·rintro ⟨_,m⟩ rfl g1
  exact ⟨.inl m,by simp only [zW (bUm _),zY],g1⟩
 ·rintro (m | ⟨b,m⟩) hm
  ·exact ⟨_,m,rfl,hm⟩
  ·exact ⟨b,m,rfl,hm⟩

def aIz (w:den tNw) (f:den tFl):Bool:= !nV f|| !eB (nT w) f.1|| !eB (nT w) f.2.1||(f.2.2.2.1 != 0)||decide (((aD w).length:Int)>=4)||decide (lK (bG w) f.2.1 f.1>=0)

def bKw (f:den tFl) (l:lPt) (now:Int):den tFl:=(f.1,f.2.1,f.2.2.1,f.2.2.2.1,f.2.2.2.2.1,aKc f l now,0,0,f.2.2.2.2.2.2.2.2)

def bPc (w:den tNw) (f:den tFl) (l:lPt):den tNw:=(nT w,nK w,nG w,aM w,aJ w,aN w,aD w++[bKw f l (aM w)],bG w++[(f.2.1,f.1,0,[])],dB w)

def bH7 (w:den tNw) (b:Bool):Int×Int×Int×Bool×q8:=
 ((nG w).1,aM w,dB w,b,(nT w).1,(nT w).2,(nK w).1,(nK w).2,(nG w).2.1,(nG w).2.2,aJ w,aN w,aD w,bG w)

theorem bIn {w:den tNw} {f:den tFl} {l:lPt} (hw:tot tNw w<=1073741824) (hf:tot tFl f<=1073741824) (hl:tot (.sl tPt) l<=1073741824) (el:jN (nT w) (nK w) f.1 f.2.1 (aM w)=some l):
  vD w f=some (bH7 (if aIz w f then w else bPc w f l) (!aIz w f)):=by
 have sw:SmB 68719476736 tNw w:=(bF hw).mono (by decide)
 have sf:SmB 68719476736 tFl f:=(bF hf).mono (by decide)
 have n1:w.1.1.length<=68719476736:=sw.1.1.1
 have n2:w.2.2.2.2.2.2.2.1.length<=1073741824:=(bF hw).2.2.2.2.2.2.2.1.1
 have n3:w.2.2.2.2.2.2.1.length<=1073741824:=(bF hw).2.2.2.2.2.2.1.1
 have el:jN w.1 w.2.1 f.1 f.2.1 w.2.2.2.1=some l:=el
 have a1:aK 120 w.2.2.2.2.2.2.1.length 1=true:=aE (by decide) (by omega)
 have a2:aK 48 w.2.2.2.2.2.2.2.1.length 1=true:=aE (by decide) (by omega)
 unfold vD aIz aI pj2 pj4 pj9 fZ aG aU bC zz4 zz5 zz6 zz7 zz8 zz9
 simp only [aO,aOs sw,aUu sf,aCl n1,aXu (show w.2.2.2.2.2.2.2.1.length<=68719476736 by omega),el,bQs hf hl,bDm,aA,kI,a1,a2,zZ]
 cases nV f
 ·rfl
 cases eB w.1 f.1
 ·rfl
 cases eB w.1 f.2.1
 ·rfl
 cases f.2.2.2.1 != 0 with
 | true=>rfl
 | false=>cases decide ((w.2.2.2.2.2.2.1.length:Int)>=4) with
  | true=>rfl
  | false=>cases decide (lK w.2.2.2.2.2.2.2.1 f.2.1 f.1>=0)<;>rfl

theorem bHc {x y:den tPt} {l:lPt} (h:y∈aHw x l):y=x∨y∈l:=by
 unfold aHw at h
 simp only [bUe,bUd] at h
 rcases h with (h | h) | h
 ·exact .inr (bVs h)
 ·exact .inl h
 ·exact .inr (bVr h)

theorem bFw {y:den tPt} {l:lPt} (h:y∈aEz l):y∈l:=by
 have : ∀ (l:lPt) (k:Nat) (a:lPt),y∈cM (fun _ x a=>aHw x a) k l a→y∈l∨y∈a:=by
  intro l
  induction l with
  | nil=>exact fun k a h=> .inr h
  | cons x l ih=>
   intro k a h
   rcases ih (k+1) (aHw x a) h with h | h
   ·exact .inl (bUl _ h)
   ·rcases bHc h with rfl | h
    ·exact .inl (by simp)
    ·exact .inr h
 rcases this l 0 [] h with h | h
 ·exact h
 ·exact (bUr h).elim

theorem aI3 {f:den tFl} {y:den tPt} {l:lPt} {now:Int} (h:y∈aKc f l now):y∈l:=by
 unfold aKc aF5 at h
 have h:=bVs h
 simp only [bUe,bUp] at h
 rcases h with h | h<;>exact bFw h.1


structure FlD (t:den tTo) (f:den tFl):Prop where
 val:nV f=true
 src:eB t f.1=true
 dst:eB t f.2.1=true
 ack:f.2.2.2.1=(0:Int)
 cur:f.2.2.2.2.2.2.1=(0:Int)
 wait:f.2.2.2.2.2.2.2.1=(0:Int)
 rev:f.2.2.2.2.2.2.2.2=[]
 paths:uU 4 f.2.2.2.2.2.1
 msgs:tot (.sl tMs) f.2.2.2.2.1<=12
 bytes: ∀ m∈f.2.2.2.2.1,qN m
 ends: ∀ p∈f.2.2.2.2.2.1,aJe p=some f.1∧aBl p=some f.2.1


structure wN (n:Nat) (w:den tNw):Prop where
 top:wL (nT w).1 (nT w).2
 db:DbD 11 (nK w).1 (nK w).2
 gate:nG w=(12,(nG w).2.1,[])
 res:qH (nG w).2.1 12 60
 now:aM w=60
 dead:aJ w=[]
 fly:aN w=[]
 drop:dB w=0
 len:(aD w).length<=n
 flows: ∀ f∈aD w,FlD (nT w) f
 box:bG w=(aD w).map fun f=>((f.2.1,f.1,0,[]):den tIb)
 uniq:(aD w).Pairwise fun f g=>aBy g f=false

theorem FlD.tot {t:den tTo} {f:den tFl} (h:FlD t f):tot tFl f<=100:=by
 obtain ⟨a,b,c,d,ms,ps,cu,wa,rv⟩:=f
 rw [aEn]
 have h1:=h.msgs
 have h2:=aRq h.paths
 have h3:rv=[]:=h.rev
 rw [h3]
 simp only at h1 h2
 simp only [bWe]
 omega

theorem aXo {s:den tSg} (h:s.2.2.length<=5):tot tSg s<=5:=by
 have e:tot tSg s=s.2.2.length:=by
  show 0+(0+tot (.sl bZ) s.2.2)=_
  rw [dD rfl];omega
 omega

theorem wN.tot {n:Nat} {w:den tNw} (hn:n<=4) (h:wN n w):Go.V.tot tNw w<=1000:=by
 rw [eT]
 have h1:=h.top.len
 have h2:=h.top.links
 have h3:=wU (t:=tSg) (B:=5) (l:=(nK w).1) fun x hx=>aXo (h.db.hd x hx)
 have h4:=wU (t:=tSg) (B:=5) (l:=(nK w).2) fun x hx=>aXo (h.db.hc x hx)
 have h5:=wU (t:=tFl) (B:=100) (l:=aD w) fun f hf=>(h.flows f hf).tot
 have h6:=h.db.down
 have h7:=h.db.core
 have h8:=h.len
 have h9:=h.res.len
 have h10:(nG w).2.2=[]:=by rw [h.gate]
 have h11:Go.V.tot (.sl tIb) (bG w)<=(0+1) * (bG w).length:=wU (t:=tIb) fun x hx=>by
  rw [h.box] at hx
  obtain ⟨f,_,rfl⟩:=bUa.1 hx
  exact bUo _
 have h12:(bG w).length=(aD w).length:=by rw [h.box,bVa]
 rw [h.dead,h.fly,h10,aB4,aB4,aB4,dD (t:=tAS) rfl,dD (t:=tLk) rfl,dD (t:=tRs) rfl]
 omega

theorem wN.mono {n m:Nat} {w:den tNw} (h:wN n w) (hm:n<=m):wN m w:=⟨h.top,h.db,h.gate,h.res,h.now,h.dead,h.fly,h.drop,bT7 h.len hm,h.flows,h.box,h.uniq⟩

def xK (w:den tNw) (c:List Int) (p h:Int):q33:=
 ((nG w).1,aM w,dB w,(nT w).1,(nT w).2,(nK w).1,(nK w).2,(nG w).2.1,(nG w).2.2,aJ w,aN w,aD w,bG w,c,p,h)

abbrev NwS:=Int×lSg×lSg×Int×Int×Int×lRs×lAS×lLk×lSg×lSg×lUs×lI×lFy×lFl×lIb×lI×Int×Int

abbrev NwR:=Int×Int×Int×lRs×lAS×lLk×lSg×lSg×lUs×lI×lFy×lFl×lIb×lI×Int×Int

def NwI (code:List Int) (n:Nat) (s:NwS):Prop:= ∃ as ls d cc res flows box c p h,s=((n:Int),d,cc,12,60,0,res,as,ls,d,cc,[],[],[],flows,box,c,p,h)∧n<=3∧wN (3 - n) ((as,ls),(d,cc),(12,res,[]),60,[],[],flows,box,0)∧Cur code (c,p,h)

def NwQ (code:List Int) (r:NwR):Prop:= ∃ as ls d cc res flows box c p h,r=(12,60,0,res,as,ls,d,cc,[],[],[],flows,box,c,p,h)∧wN 3 ((as,ls),(d,cc),(12,res,[]),60,[],[],flows,box,0)∧Cur code (c,p,h)

theorem bId {t:den tTo} {f:den tFl} {l:lPt} {now:Int} {n:Nat} (hn:n<=4) (hv:nV f=true) (hs:eB t f.1=true) (hd:eB t f.2.1=true) (hk:f.2.2.2.1=(0:Int)) (hr:f.2.2.2.2.2.2.2.2=[]) (hm:tot (.sl tMs) f.2.2.2.2.1<=12) (hb: ∀ m∈f.2.2.2.2.1,qN m) (hl:bT f.1 f.2.1 24 l):
  FlD t (f.1,f.2.1,f.2.2.1,f.2.2.2.1,f.2.2.2.2.1,(aKc f l now).take n,0,0,f.2.2.2.2.2.2.2.2) where
 val:=by
  rw [vR] at hv ⊢
  obtain ⟨q1,q2,q3,q4,q5,q6,q7,q8,q9,q10,q11,q12⟩:=hv
  exact ⟨q1,q2,q3,q4,q5,q6,by simp only [bVk];omega,q8,q9,.inl rfl,rfl,q12⟩
 src:=hs
 dst:=hd
 ack:=hk
 cur:=rfl
 wait:=rfl
 rev:=hr
 paths:=⟨by simp only [bVk];omega,fun p hp=>(hl.2 p (aI3 (bVs hp))).1⟩
 msgs:=hm
 bytes:=hb
 ends:=fun p hp=>(hl.2 p (aI3 (bVs hp))).2

theorem aZ2 {l:lIb} {a b:Int} (h:decide (lK l a b>=0)=false): ∀ x∈l,uX a b x=false:=by
 have h:=of_decide_eq_false h
 unfold lK at h
 cases e:l.findIdx? (uX a b) with
 | none=>exact fun x hx=>by simpa using List.findIdx?_eq_none_iff.1 e x hx
 | some i=>rw [e] at h;exact absurd (show (0:Int)<=((0+i:Nat):Int) by omega) h

def bG6 (code:List Int) (o:Option q33):Prop:= ∃ w c' p' h',o=some (xK w c' p' h')∧wN 3 w∧Cur code (c',p',h')

theorem bMj {code:List Int} (hl:code.length<=1048576) {c:List Int} {p h:Int} (hc:Cur code (c,p,h)):bG6 code (xJ (c,p,h)):=by
 obtain ⟨as,ls,c1,p1,h1,e1,ht,k1⟩:=aP4 hl hc
 obtain ⟨v2,c2,p2,h2,e2,r2,k2⟩:=aH hl (n:=7) (by decide) (by decide) k1
 obtain ⟨m2,rfl⟩:=bUu r2.1
 have w2:wr ((5:Int)+(m2:Int))=((m2+5:Nat):Int):=by rw [bK (by omega) (by omega)];omega
 unfold xJ dd ixb one uZ aZ5 pj3 pj4 pj5 pj7 pj8 aG aU bC cU iE kZ qL zz4 zz5 zz6 zz7 zz8 zz9
 simp only [aP,bD,aW,aV,aX,e1,e2,aA,w2]
 refine fY (G:=bG6 code) (fun (n:Nat) (s:Int×q47)=> ∃ d cc c p h,s=((n:Int),as,ls,d,cc,c,p,h)∧n<=11∧DbD (11 - n) d cc∧Cur code (c,p,h)) (fun r:lAS×lLk×lSg×lSg×lI×Int×Int=> ∃ d cc c p h,r=(as,ls,d,cc,c,p,h)∧DbD 11 d cc∧Cur code (c,p,h)) ?_ (m2+5) (((m2+5:Nat):Int),as,ls,[],[],c2,p2,h2) ⟨[],[],c2,p2,h2,rfl,by omega,⟨by simp,by simp,fun x hx=>(bUr hx).elim,fun x hx=>(bUr hx).elim,fun x hx=>(bUr hx).elim⟩,k2⟩ ?_
 ·rintro n s ⟨d,cc,c3,p3,h3,rfl,hn,hk,k3⟩
  cases n with
  | zero=>exact .inl ⟨_,rfl,d,cc,c3,p3,h3,rfl,hk,k3⟩
  | succ n=>
   right
   obtain ⟨v4,c4,p4,h4,e4,k4⟩:=mO hl (n:=3) (by decide) (by decide) k3
   have wn:wr (((n+1:Nat):Int) - 1)=(n:Int):=by rw [bK (by omega) (by omega)];omega
   have step: ∀ kind:Int,∃ d' cc' c' p' h',(Option.bind (iT (c4,p4,h4) (as,ls) kind) fun y58=>Option.bind (tA (as,ls) (y58.1,y58.2.1,y58.2.2.1)) fun y59=>Option.bind (mH (as,ls) (d,cc) y59) fun y60=>some (y60.1,y60.2,y58.2.2.2.1,y58.2.2.2.2.1,y58.2.2.2.2.2))=some (d',cc',c',p',h')∧DbD (11 - n) d' cc'∧Cur code (c',p',h'):=by
    intro kind
    obtain ⟨a5,b5,hs5,c5,p5,h5,e5,⟨l5,i5⟩,k5⟩:=aXy hl ht kind k4
    obtain ⟨hs6,e6,l6,i6⟩:=bJe (as:=as) (ls:=ls) (s:=(a5,b5,hs5)) l5 i5
    obtain ⟨d7,cc7,e7,q7⟩:=bJ3 ht (n:=11 - (n+1)) (by omega) hk (s:=(a5,b5,hs6)) l6 (i6.as (by have :=ht.len;omega))
    refine ⟨d7,cc7,c5,p5,h5,?_,q7.mono (by omega),k5⟩
    simp only [e5,e6,e7,aA]
   simp only [zX (show ((n+1:Nat):Int)>0 by omega),zZ,e4,aA]
   cases v4 with
   | true=>
    obtain ⟨d',cc',c',p',h',e,q,k⟩:=step 1
    refine ⟨n,_,by omega,?_,d',cc',c',p',h',rfl,by omega,q,k⟩
    simp only [zZ,aA,e,wn]
   | false=>
    obtain ⟨d',cc',c',p',h',e,q,k⟩:=step 2
    refine ⟨n,_,by omega,?_,d',cc',c',p',h',rfl,by omega,q,k⟩
    simp only [zY,aA,e,wn]
 rintro r ⟨d,cc,c3,p3,h3,rfl,hk,k3⟩
 obtain ⟨v4,c4,p4,h4,e4,r4,k4⟩:=aH hl (n:=3) (by decide) (by decide) k3
 obtain ⟨m4,rfl⟩:=bUu r4.1
 have w4:wr ((1:Int)+(m4:Int))=((m4+1:Nat):Int):=by rw [bK (by omega) (by omega)];omega
 have hA:=ht.len
 have hL:=ht.links
 have smT:SmB 68719476736 tTo (as,ls):=⟨⟨by show as.length<=_;omega,fun _ _=>⟨trivial,trivial,trivial⟩⟩,by show ls.length<=_;omega,fun _ _=>⟨trivial,trivial,trivial,trivial,trivial⟩⟩
 have smK:SmB 68719476736 tDb (d,cc):=⟨aKw (by omega) hk.down hk.hd,aKw (by omega) hk.core hk.hc⟩
 have hok:aSk (as,ls) 60=true:=by unfold aSk;rw [ht.top];rfl
 have e5:=bQ5 (t:=(as,ls)) (k:=(d,cc)) (c:=12) (now:=60) smT smK
 rw [hok,zZ] at e5
 simp only [e5,e4,w4,aA]
 have cap12:cond (inR 12 1 20) (12:Int) 1=12:=rfl
 simp only [cap12]
 refine fY (G:=bG6 code) (NwI code) (NwQ code) ?_ (m4+1) (((m4+1:Nat):Int),d,cc,12,60,0,[],as,ls,d,cc,[],[],[],[],[],c4,p4,h4) ⟨as,ls,d,cc,[],[],[],c4,p4,h4,rfl,by omega,⟨ht,hk,rfl,⟨by simp,fun x hx=>(bUr hx).elim,fun x hx=>(bUr hx).elim,List.Pairwise.nil⟩,rfl,rfl,rfl,rfl,bUt _,fun x hx=>(bUr hx).elim,rfl,List.Pairwise.nil⟩,k4⟩ ?_
 rotate_left
 ·rintro r ⟨as,ls,d,cc,res,flows,box,c5,p5,h5,rfl,hd,k5⟩
  exact ⟨_,c5,p5,h5,rfl,hd,k5⟩
 ·rintro n s ⟨as,ls,d,cc,res,flows,box,c5,p5,h5,rfl,hn,hd,k5⟩
  cases n with
  | zero=>exact .inl ⟨_,rfl,as,ls,d,cc,res,flows,box,c5,p5,h5,rfl,hd,k5⟩
  | succ n=>
   right
   obtain ⟨a6,b6,c6,p6,h6,e6,⟨ra6,rb6⟩,k6⟩:=bM1 hl (by decide) hd.db k5
   obtain ⟨v7,c7,p7,h7,e7,m7,k7⟩:=qD hl (l:=[(0:Int),(0:Int),((n+1:Nat):Int)]) (by simp) (by simp) k6
   obtain ⟨v8,c8,p8,h8,e8,r8,k8⟩:=aH hl (n:=3) (by decide) (by decide) k7
   obtain ⟨m8,rfl⟩:=bUu r8.1
   have w8:wr ((1:Int)+(m8:Int))=((m8+1:Nat):Int):=by rw [bK (by omega) (by omega)];omega
   have wn:wr (((n+1:Nat):Int) - 1)=(n:Int):=by rw [bK (by omega) (by omega)];omega
   have enf: ∀ a b c:Int,xQ a b c=some (a,b,c,0,0,0,[],[],[]):=fun _ _ _=>rfl
   simp only [zX (show ((n+1:Nat):Int)>0 by omega),zZ,e6,e7,enf,e8,w8,wn,aA,Option.bind_assoc]
   refine fY (G:=fun o=> ∃ m s',m<n+1∧o=some (bT5 s')∧NwI code m s') (fun (n:Nat) (s:Int×Int×Int×Int×Int×Int×Int×lMs×lPt×lRv×List Int×q28)=> ∃ ms c p h,s=((n:Int),a6,b6,v7,0,0,0,ms,[],[],c,p,h)∧n<=3∧tot (.sl tMs) ms+4 * n<=12∧(∀ m∈ms,qN m)∧Cur code (c,p,h)) (fun s:Int×Int×Int×Int×Int×Int×lMs×lPt×lRv×List Int×Int×Int=> ∃ ms c p h,s=(a6,b6,v7,0,0,0,ms,[],[],c,p,h)∧tot (.sl tMs) ms<=12∧(∀ m∈ms,qN m)∧Cur code (c,p,h)) ?_ (m8+1) (((m8+1:Nat):Int),a6,b6,v7,(0:Int),(0:Int),(0:Int),[],[],[],c8,p8,h8) ⟨[],c8,p8,h8,rfl,by omega,by rw [aB4];omega,fun m hm=>(bUr hm).elim,k8⟩ ?_
   ·rintro i s ⟨ms,c9,p9,h9,rfl,hi,hm,hb,k9⟩
    cases i with
    | zero=>exact .inl ⟨_,rfl,ms,c9,p9,h9,rfl,by omega,hb,k9⟩
    | succ i=>
     right
     obtain ⟨v10,c10,p10,h10,e10,r10,k10⟩:=aH hl (n:=3) (by decide) (by decide) k9
     obtain ⟨m10,rfl⟩:=bUu r10.1
     obtain ⟨l11,c11,p11,h11,e11,⟨r11,b11⟩,k11⟩:=aI7 hl (n:=m10) (by omega) k10
     have hf:tot tFl (a6,b6,v7,0,ms,[],0,0,[])<=1000:=by rw [aEn];show _+0+0<=_;omega
     have en:=bKq (f:=(a6,b6,v7,0,ms,[],0,0,[])) (b:=l11) ((bF (B:=1000) hf).mono (by decide)) ⟨by omega,fun e he=>trivial⟩
     have wi:wr (((i+1:Nat):Int) - 1)=(i:Int):=by rw [bK (by omega) (by omega)];omega
     simp only [zX (show ((i+1:Nat):Int)>0 by omega),zZ,e10,e11,en,aA,wi]
     unfold aZb
     split
     ·refine ⟨i,_,by omega,rfl,ms++[l11],c11,p11,h11,rfl,by omega,?_,?_,k11⟩
      ·rw [pU,aXg];omega
      ·intro m hm
       rcases bUe.1 hm with hm | hm
       ·exact hb m hm
       ·rw [bUd.1 hm];exact b11
     ·exact ⟨i,_,by omega,rfl,ms,c11,p11,h11,rfl,by omega,by omega,hb,k11⟩
   rintro r ⟨ms,c9,p9,h9,rfl,hm,hb,k9⟩
   obtain ⟨l10,e10,hl10⟩:=bSi hd.top (hd.db.mono (by decide)) ra6.1 rb6.1 60
   have tf:tot tFl (a6,b6,v7,0,ms,[],0,0,[])<=1073741824:=by rw [aEn];show _+0+0<=_;omega
   have ea:=bIn (w:=((as,ls),(d,cc),(12,res,[]),60,[],[],flows,box,0)) (f:=(a6,b6,v7,0,ms,[],0,0,[])) (l:=l10) (bT7 (hd.tot (by omega)) (by decide)) tf (bT7 (aRq hl10.d) (by decide)) e10
   cases hbad:aIz ((as,ls),(d,cc),(12,res,[]),60,[],[],flows,box,0) (a6,b6,v7,0,ms,[],0,0,[]) with
   | true=>
    rw [hbad] at ea
    simp only [zV,bUc] at ea
    simp only [ea,aA,bH7,zY]
    exact ⟨n,_,by omega,rfl,as,ls,d,cc,res,flows,box,c9,p9,h9,rfl,by omega,hd.mono (by omega),k9⟩
   | false=>
    rw [hbad] at ea
    simp only [bUh,zU,bUn] at ea
    simp only [ea,aA,bH7,bPc,zZ]
    unfold aIz at hbad
    simp only [Bool.or_eq_false_iff,Bool.not_eq_false'] at hbad
    obtain ⟨⟨⟨⟨⟨b1,b2⟩,b3⟩,b4⟩,b5⟩,b6'⟩:=hbad
    have hnone:=aZ2 b6'
    have hfl:(flows.length:Int)<4:=by have h5: ¬ ((flows.length:Int)>=4):=of_decide_eq_false b5;omega
    have hfl':flows.length<=3 - (n+1):=hd.len
    generalize hg:bKw (a6,b6,v7,0,ms,[],0,0,[]) l10 60=g
    have hL:((flows++[g]).length:Int)=((flows.length+1:Nat):Int):=by simp
    have wl:wr (((flows.length+1:Nat):Int) - 1)=(flows.length:Int):=by rw [bK (by omega) (by omega)];omega
    have hx:(flows++[g])[flows.length]? =some g:=by simp
    have hset: ∀ y,(flows++[g]).set flows.length y=flows++[y]:=fun y=>by simp
    have hlt:flows.length<(flows++[g]).length:=by simp
    obtain ⟨m,em,hm1,hm4⟩: ∃ m:Nat,(if (4:Int)<(g.2.2.2.2.2.1.length:Int) then (4:Int) else (g.2.2.2.2.2.1.length:Int))=(m:Int)∧m<=g.2.2.2.2.2.1.length∧m<=4:=by
     by_cases h4:(4:Int)<(g.2.2.2.2.2.1.length:Int)
     ·exact ⟨4,by rw [zT h4];rfl,by omega,by omega⟩
     ·exact ⟨g.2.2.2.2.2.1.length,by rw [zS h4],bUo _,by omega⟩
    have hmem: ∀ y∈g.2.2.2.2.2.1,mA y:=fun y hy=>by
     rw [← hg] at hy
     exact (hl10.2 y (aI3 hy)).1
    simp only [hL,wl,zX (show (0:Int)<=(flows.length:Int) by omega),zX (show (flows.length:Int)<((flows.length+1:Nat):Int) by omega),zZ,bUf,hx,aA,aS7,em,aKf hm1,mL,zX hlt,hset]
    have fin: ∀ res' c p h,qH res' 12 60→Cur code (c,p,h)→NwI code n ((n:Int),d,cc,12,60,0,res',as,ls,d,cc,[],[],[],flows++[(g.1,g.2.1,g.2.2.1,g.2.2.2.1,g.2.2.2.2.1,List.take m g.2.2.2.2.2.1,g.2.2.2.2.2.2.1,g.2.2.2.2.2.2.2.1,g.2.2.2.2.2.2.2.2)],box++[(b6,a6,0,[])],c,p,h):=by
     intro res' c p h hr hc
     have hF:FlD (as,ls) (g.1,g.2.1,g.2.2.1,g.2.2.2.1,g.2.2.2.2.1,List.take m g.2.2.2.2.2.1,g.2.2.2.2.2.2.1,g.2.2.2.2.2.2.2.1,g.2.2.2.2.2.2.2.2):=by
      rw [← hg]
      exact bId (f:=(a6,b6,v7,0,ms,[],0,0,[])) hm4 b1 b2 b3 rfl rfl hm hb hl10
     have ge1:g.1=a6:=by rw [← hg];rfl
     have ge2:g.2.1=b6:=by rw [← hg];rfl
     refine ⟨as,ls,d,cc,res',_,_,c,p,h,rfl,by omega,⟨hd.top,hd.db,rfl,hr,rfl,rfl,rfl,rfl,?_,?_,?_,?_⟩,hc⟩
     ·show (flows++[_]).length<=_
      simp;omega
     ·intro f hf
      rcases bUe.1 hf with hf | hf
      ·exact hd.flows f hf
      ·rw [bUd.1 hf];exact hF
     ·show box++[_]=(flows++[_]).map _
      rw [bWu,← show box=flows.map (fun f=>((f.2.1,f.1,0,[]):den tIb)) from hd.box]
      simp only [bUs,List.map_nil,ge1,ge2]
     ·show (flows++[_]).Pairwise _
      rw [List.pairwise_append]
      refine ⟨hd.uniq,List.pairwise_singleton _ _,fun x hx y hy=> ?_⟩
      rw [bUd.1 hy]
      have hbx:((x.2.1,x.1,0,[]):den tIb)∈box:=by
       rw [show box=flows.map (fun f=>((f.2.1,f.1,0,[]):den tIb)) from hd.box]
       exact bUa.2 ⟨x,hx,rfl⟩
      have :=hnone _ hbx
      unfold uX at this
      unfold aBy
      rw [Bool.and_comm]
      simp only [ge1,ge2]
      exact this
    by_cases hm0:m=0
    ·subst hm0
     simp only [show decide (((0:Nat):Int)>0)=false from rfl,zY,aA]
     exact ⟨n,_,by omega,rfl,fin res c9 p9 h9 hd.res k9⟩
    ·simp only [zX (show (m:Int)>0 by omega),zZ,aA]
     cases decide (g.2.2.1>(0:Int)) with
     | false=>
      simp only [zY,aA]
      exact ⟨n,_,by omega,rfl,fin res c9 p9 h9 hd.res k9⟩
     | true=>
      have hp:idx (List.take m g.2.2.2.2.2.1) (0:Int)=some (g.2.2.2.2.2.1[0]'(by omega)):=by
       rw [show (0:Int)=((0:Nat):Int) from rfl,aF,bVj,zT (by omega)]
       exact bT6 _
      obtain ⟨v11,c11,p11,h11,e11,r11,k11⟩:=aH hl (n:=2) (by decide) (by decide) k9
      obtain ⟨b12,m12,e12,q12⟩:=aWt hd.res (hmem _ (bUj (show 0<g.2.2.2.2.2.1.length by omega))) g.2.2.1 (wr ((1:Int)+v11)) 4000
      simp only [zZ,hp,e11,e12,aA,aP,bD,aW,aV,aX]
      exact ⟨n,_,by omega,rfl,fin m12 c11 p11 h11 q12 k11⟩

def aGi (w:den tNw) (l:List Int):den tNw:=(nT w,nK w,nG w,aM w,l,aN w,aD w,bG w,dB w)

def aA1 (w:den tNw) (i:Nat):den tNw:=aAu w ((aN w).take i++(aN w).drop (i+1))

theorem bEj {w:den tNw} {i:Nat} {x:den tFy} (hx:(aN w)[i]? =some x) (hl:(aN w).length<=1073741824):tN w (i:Int)=some (bR9 x (aA1 w i)):=by
 have hlt:i<(aN w).length:=(bUg.1 hx).1
 have hx:w.2.2.2.2.2.1[((i:Nat):Int).toNat]? =some x:=by rw [bUf];exact hx
 have h1:decide ((i:Int)<(w.2.2.2.2.2.1.length:Int))=true:=zX (by have :i<w.2.2.2.2.2.1.length:=hlt;omega)
 have e1:wr ((i:Int)+1)=((i+1:Nat):Int):=(wri (by omega) (by omega)).trans (by omega)
 have h2:cZ ((i+1:Nat):Int) (w.2.2.2.2.2.1.length:Int) (w.2.2.2.2.2.1.length:Int)=true:=aAh (show i+1<=w.2.2.2.2.2.1.length from hlt)
 have h3:cZ (0:Int) (i:Int) (w.2.2.2.2.2.1.length:Int)=true:=aKf (k:=i) (Nat.le_of_lt hlt)
 have hl:w.2.2.2.2.2.1.length<=1073741824:=hl
 unfold tN ixb aI aG aU zz4 zz5 zz6 zz7 zz8 zz9
 simp only [h1,hx,aA,zZ,e1,h2,h3,mL,aD8,List.nil_append,aE (b:=128) (n:=([]:lFy).length) (m:=(w.2.2.2.2.2.1.take i).length) (by decide) (by simp;omega),aE (b:=128) (n:=(w.2.2.2.2.2.1.take i).length) (m:=(w.2.2.2.2.2.1.drop (i+1)).length) (by decide) (by simp;omega),zX (show (0:Int)<=(i:Int) by omega)]
 rfl


def yJ (m:Nat) (dead:List Int) (i:Int) (b:Bool):List Int:=((List.range m).map fun k:Nat=>((k:Nat):Int)).filter fun k:Int=>(sD dead k&&(k != i))||(b&&(k==i))

def aKs (w:den tNw) (i:Int) (b:Bool):Bool:=(sD (aJ w) i==b)|| !inR i 0 (((nT w).2.length:Int) - 1)

def aBa (w:den tNw) (i:Int) (b:Bool):den tNw:=if aKs w i b then w else aGi w (yJ (nT w).2.length (aJ w) i b)

theorem bFl {w:den tNw} {i:Int} {b:Bool} (h1:(nT w).2.length<=1073741824) (h2:(aJ w).length<=68719476736):vC w i b=some (!aKs w i b,cI (aBa w i b)):=by
 have w1:wr ((w.1.2.length:Int) - 1)=(w.1.2.length:Int) - 1:=nB (bT7 h1 (by decide))
 have e1:=fun n=>aEg (l:=w.2.2.2.2.1) (n:=n) h2
 unfold vC aBa aKs zz4 zz5 zz6 zz7 zz8
 simp only [e1,aA,w1,gQ]
 cases hb:(sD w.2.2.2.2.1 i==b) with
 | true=>rfl
 | false=>
  simp only [zY,aA,Bool.false_or]
  cases inR i 0 ((w.1.2.length:Int) - 1) with
  | false=>rfl
  | true=>
   simp only [bUc,zY,bUh,zU,bUn]
   refine bV (G:=fun o=>o=some (true,cI (aGi w (yJ (nT w).2.length (aJ w) i b)))) w.1.2.length (fun s:Int×List Int=>s.1) (fun k s=>s.2.length<=k∧s.2=yJ k (aJ w) i b) (fun r:List Int=>r=yJ w.1.2.length (aJ w) i b) ?_ ?_ 0 ((0:Int),[]) (bUt _) rfl ⟨by simp,rfl⟩ ?_
   ·rintro k ⟨_,l⟩ hk rfl ⟨g1,g2⟩
    simp only at g1 g2
    right
    have hk':k<=1073741824:=bT7 (Nat.le_of_lt hk) h1
    simp only [zX (show (k:Int)<(w.1.2.length:Int) by omega),zZ,aA,aE (b:=8) (n:=l.length) (m:=1) (by decide) (by omega),show wr ((k:Int)+1)=((k+1:Nat):Int) from (wri (by omega) (by omega)).trans (by omega)]
    have hl:yJ (k+1) (aJ w) i b=yJ k (aJ w) i b++(if (sD (aJ w) (k:Int)&&((k:Int) != i))||(b&&((k:Int)==i)) then [(k:Int)] else []):=by
     unfold yJ
     rw [List.range_succ,bWu,List.filter_append]
     congr 1
     simp only [bUs,List.map_nil,List.filter_cons,List.filter_nil]
    have hd:aJ w=w.2.2.2.2.1:=rfl
    rw [hl,← g2,hd]
    cases sD w.2.2.2.2.1 (k:Int)<;>cases hki:((k:Int)==i)<;>cases b<;>simp only [bne,hki,zZ,zY,aA,bUc,bUn,Bool.and_true,Bool.and_false,Bool.true_and,Bool.false_and,bWg,Bool.or_false,Bool.true_or,Bool.false_or,bUh,zV,zU,bVg]<;>first
     | exact ⟨_,rfl,rfl,by simp;omega,rfl⟩
     | exact ⟨_,rfl,rfl,by simp only;omega,rfl⟩
   ·rintro ⟨_,l⟩ rfl ⟨g1,g2⟩
    exact ⟨l,by simp only [zW (bUm _),zY],g2⟩
   ·rintro r rfl
    rfl

def aF1 (f:den tFl) (b:List Int):den tFl:=if nV (enq f b) then enq f b else f


def doW (w:den tNw) (e:den jL):Bool×den tNw:=
 if e.1==1 then (!decide (aM w>=1000000),wT w)
 else if e.1==2 then (match inR e.2.1 0 (((aN w).length:Int) - 1),(aN w)[e.2.1.toNat]? with
  | true,some x=>(true,bX (aA1 w e.2.1.toNat) x.1 x.2.1 x.2.2)
  | _,_=>(false,w))
 else if e.1==3 then (if inR e.2.1 0 (((aN w).length:Int) - 1) then (true,vW (aA1 w e.2.1.toNat)) else (false,w))
 else if e.1==4 then (match inR e.2.1 0 (((aN w).length:Int) - 1)&& !decide (((aN w).length:Int)>=150),(aN w)[e.2.1.toNat]? with
  | true,some x=>(true,aAu w (aN w++[x]))
  | _,_=>(false,w))
 else if e.1==5||e.1==6 then (!aKs w e.2.1 (e.1==5),aBa w e.2.1 (e.1==5))
 else if e.1==7 then (if eB (nT w) e.2.2.2.1&& !decide (((aN w).length:Int)>=150) then (true,aAu w (aN w++[e.2.2.2])) else (false,w))
 else if e.1==8 then (match inR e.2.1 0 (((aD w).length:Int) - 1),(aD w)[e.2.1.toNat]? with
  | true,some f=>(nV (enq f e.2.2.1),eQ w ((aD w).set e.2.1.toNat (aF1 f e.2.2.1)))
  | _,_=>(false,w))
 else (false,w)

theorem aSi {α:Type} {l:List α} {n:Int} (hl:l.length<=1073741824) (h:inR n 0 ((l.length:Int) - 1)=true): ∃ (i:Nat) (x:α),n=(i:Int)∧l[i]? =some x∧decide (n<(l.length:Int))=true∧decide ((0:Int)<=n)=true:=by
 obtain ⟨h0,h1⟩:=bS.1 h
 obtain ⟨i,rfl⟩:=bUu h0
 have hi:i<l.length:=by omega
 exact ⟨i,l[i],rfl,bT6 hi,zX (by omega),zX h0⟩

theorem aWs {B F:Nat} {w:den tNw} {r inn:Int} {p:den tPk} (hk:mP B F w) (hp:dE p):mP (B+(160+F)) F (bX w r inn p):=by
 obtain ⟨h1,h2⟩:=aGy hk.bytes hp (r:=r) (inn:=inn)
 have h3:=aOl w r inn p
 have :=hk.flows
 have :=hk.tot
 exact ⟨by omega,by rw [h2];exact hk.flows,h1⟩

theorem aWd {B F:Nat} {w:den tNw} {l:lFy} (hk:mP B F w) (hl:tot (.sl tFy) l<=tot (.sl tFy) (aN w)) (hb: ∀ x∈l,dE x.2.2):mP B F (aAu w l):=by
 have h1:=aMp w l
 have :=hk.tot
 exact ⟨by omega,hk.flows,⟨hb,hk.bytes.msg⟩⟩

theorem aHn {B F:Nat} {w:den tNw} (hk:mP B F w) (i:Nat):mP B F (aA1 w i):=by
 refine aWd hk ?_ fun x hx=>hk.bytes.fly x ?_
 ·have h1:=pU (t:=tFy) ((aN w).take i) ((aN w).drop i)
  rw [bVt] at h1
  rw [pU,h1]
  have :tot (.sl tFy) ((aN w).drop (i+1))<=tot (.sl tFy) ((aN w).drop i):=by
   cases h:(aN w).drop i with
   | nil=>
    have :(aN w).drop (i+1)=[]:=by rw [← List.drop_drop,h];rfl
    rw [this];exact bUo _
   | cons x l=>
    have :(aN w).drop (i+1)=l:=by rw [← List.drop_drop,h];rfl
    rw [this,kH];omega
  omega
 ·rcases bUe.1 hx with hx | hx
  ·exact bVs hx
  ·exact bVr hx

theorem bTr {B F:Nat} {w:den tNw} {e:den jL} (hF:F<=1000) (hk:mP B F w) (hB:B+(F+1) * (160+F)<=536870912) (h9:(e.1==(9:Int))=false) (hd:SmB 4294967296 (.sl tb) e.2.2.1) (hp:tot tPk e.2.2.2.2.2<=34359738368):aAd w e=some ((doW w e).1,cI (doW w e).2):=by
 obtain ⟨kd,n,data,to,ing,pk⟩:=e
 simp only at h9 hd hp
 have hB0:B<=536870912:=by have :=bUt ((F+1) * (160+F));omega
 have hB1:B+F * (160+F)<=536870912:=by rw [Nat.succ_mul] at hB;omega
 have nl:=eT w
 have l1:w.2.2.2.2.2.1.length<=1073741824:=bM6 hk (by omega)
 have l2:w.2.2.2.2.2.2.1.length<=1073741824:=bT7 hk.flows (by omega)
 obtain ⟨n1,n2,n3⟩:=aPb hk (by omega)
 have w1:wr ((w.2.2.2.2.2.1.length:Int) - 1)=(w.2.2.2.2.2.1.length:Int) - 1:=nB (by omega)
 have w2:wr ((w.2.2.2.2.2.2.1.length:Int) - 1)=(w.2.2.2.2.2.2.1.length:Int) - 1:=nB (by omega)
 have a1:aK 128 w.2.2.2.2.2.1.length 1=true:=aE (by decide) (by omega)
 unfold aAd doW ixb aI nP bAi pj2 fZ aG aU bC cU iE kZ qL xR yO yN aA4 aD3 aF0 aFq aC2 zz4 zz5 zz6 zz7 zz8 zz9
 simp only [w1,gQ,aA]
 cases c1:(kd==(1:Int)) with
 | true=>
  show Option.bind (sU w) _=_
  rw [bM3 hF hk hB1]
  rfl
 | false=>
 cases c2:(kd==(2:Int)) with
 | true=>
  simp only [zY,zZ,bUh,zU,zV]
  cases hin:inR n 0 ((w.2.2.2.2.2.1.length:Int) - 1) with
  | false=>rfl
  | true=>
   obtain ⟨i,x,rfl,hx,_,_⟩:=aSi l1 hin
   have hx:(aN w)[i]? =some x:=hx
   have e1:=bEj (w:=w) hx l1
   have kg:=aHn hk i
   obtain ⟨m1,m2,m3⟩:=aPb kg (by omega)
   have hxm:=bUi hx
   have htx:tot tPk x.2.2<=536870912:=by
    have h1:=aAk (t:=tFy) hxm
    have h2:tot tFy x=tot tPk x.2.2:=by simp [sE,uV]
    have :=hk.tot
    omega
   have e2:=aPu (w:=aA1 w i) (r:=x.1) (inn:=x.2.1) m1 m2 m3 htx (hk.bytes.fly x hxm)
   have e3:Option.bind (Option.bind (cY (aA1 w i) x.1 x.2.1 x.2.2) fun y4=>some y4) (fun s5=>some (true,s5))=some (true,cI (bX (aA1 w i) x.1 x.2.1 x.2.2)):=by rw [e2];rfl
   rw [zZ,e1,aA]
   have hx':w.2.2.2.2.2.1[((i:Nat):Int).toNat]? =some x:=by rw [bUf];exact hx
   rw [hx']
   exact e3
 | false=>
 cases c3:(kd==(3:Int)) with
 | true=>
  simp only [zY,zZ,bUh,zU,zV]
  cases hin:inR n 0 ((w.2.2.2.2.2.1.length:Int) - 1) with
  | false=>rfl
  | true=>
   obtain ⟨i,x,rfl,hx,_,_⟩:=aSi l1 hin
   have hx:(aN w)[i]? =some x:=hx
   have e1:=bEj (w:=w) hx l1
   rw [zZ,e1,aA]
   rfl
 | false=>
 cases c4:(kd==(4:Int)) with
 | true=>
  simp only [zY,zZ,bUh,zU,zV]
  cases hin:inR n 0 ((w.2.2.2.2.2.1.length:Int) - 1) with
  | false=>rfl
  | true=>
   obtain ⟨i,x,rfl,hx,hlt,hz⟩:=aSi l1 hin
   have hx:(aN w)[i]? =some x:=hx
   have hxm:=bUi hx
   have htx:tot tPk x.2.2<=34359738368:=by
    have h1:=aAk (t:=tFy) hxm
    have h2:tot tFy x=tot tPk x.2.2:=by simp [sE,uV]
    have :=hk.tot
    omega
   have hx':w.2.2.2.2.2.1[((i:Nat):Int).toNat]? =some x:=by rw [bUf];exact hx
   have e1:=aB3 (fQ htx)
   cases decide ((w.2.2.2.2.2.1.length:Int)>=150) with
   | true=>rfl
   | false=>
    simp only [bUc,bUn,zY,zZ,aA,hlt,hz,hx',a1,Bool.and_self]
    rw [show ((x.2.2.1,x.2.2.2.1,x.2.2.2.2.1,x.2.2.2.2.2.1,x.2.2.2.2.2.2.1,x.2.2.2.2.2.2.2.1,x.2.2.2.2.2.2.2.2.1,x.2.2.2.2.2.2.2.2.2.1,x.2.2.2.2.2.2.2.2.2.2.1,x.2.2.2.2.2.2.2.2.2.2.2):den tPk)=x.2.2 from rfl,e1,aA]
    rfl
 | false=>
 cases c5:(kd==(5:Int)) with
 | true=>
  simp only [zY,zZ,bUh,zU,zV,aA,Bool.true_or]
  rw [show ((w.1,w.2.1,w.2.2.1,w.2.2.2.1,w.2.2.2.2.1,w.2.2.2.2.2.1,w.2.2.2.2.2.2.1,w.2.2.2.2.2.2.2.1,w.2.2.2.2.2.2.2.2):den tNw)=w from rfl,bFl n1.links n1.dead]
  rfl
 | false=>
 cases c6:(kd==(6:Int)) with
 | true=>
  simp only [zY,zZ,bUh,zU,zV,aA,bWg]
  rw [show ((w.1,w.2.1,w.2.2.1,w.2.2.2.1,w.2.2.2.2.1,w.2.2.2.2.2.1,w.2.2.2.2.2.2.1,w.2.2.2.2.2.2.2.1,w.2.2.2.2.2.2.2.2):den tNw)=w from rfl,bFl n1.links n1.dead]
  rfl
 | false=>
 cases c7:(kd==(7:Int)) with
 | true=>
  simp only [zY,zZ,bUh,zU,zV,aA,bV0,aO,aCl n1.as]
  have e1:=aB3 (fQ hp)
  cases eB w.1 to with
  | false=>rfl
  | true=>
   cases decide ((w.2.2.2.2.2.1.length:Int)>=150) with
   | true=>rfl
   | false=>
    simp only [bUc,bUn,zY,zZ,aA,a1,e1]
    rfl
 | false=>
 cases c8:(kd==(8:Int)) with
 | true=>
  simp only [zY,zZ,bUh,zU,zV,aA,bV0,aO]
  unfold wX ixb pj2 pj9 zz4 zz5 zz6 zz7 zz8 zz9
  simp only [w2,gQ,aA,c8,zZ]
  cases hin:inR n 0 ((w.2.2.2.2.2.2.1.length:Int) - 1) with
  | false=>rfl
  | true=>
   obtain ⟨i,x,rfl,hx,hlt,hz⟩:=aSi l2 hin
   have hx:(aD w)[i]? =some x:=hx
   have hxm:=bUi hx
   have hx':w.2.2.2.2.2.2.1[((i:Nat):Int).toNat]? =some x:=by rw [bUf];exact hx
   have hfx:tot tFl x<=536870912:=by
    have h1:=aAk (t:=tFl) hxm
    have :=hk.tot
    omega
   have e1:=bKq (f:=x) (b:=data) ((bF hfx).mono (by decide)) hd
   have hlt2:decide (((i:Nat):Int).toNat<w.2.2.2.2.2.2.1.length)=true:=zX (by rw [bUf];exact (bUg.1 hx).1)
   simp only [bUc,zY,zZ,hlt,hz,hx',hlt2,aA]
   rw [show ((x.1,x.2.1,x.2.2.1,x.2.2.2.1,x.2.2.2.2.1,x.2.2.2.2.2.1,x.2.2.2.2.2.2.1,x.2.2.2.2.2.2.2.1,x.2.2.2.2.2.2.2.2):den tFl)=x from rfl,e1,aA]
   unfold aZb aF1
   cases nV (enq x data)<;>rfl
 | false=>
  simp only [h9,zY,zZ,bUh,zU,zV,aA,bV0]
  rfl


def aDf (p:den tPt):Prop:=bUk (α:=den tPp) p<=4∧ ∀ x:den tPp,x∈(show lPp from p)→x.2.2.2.length<=5

theorem mA.e {p:den tPt} (h:mA p):aDf p:=⟨bT7 h.1 (by decide),h.2⟩

theorem bGn {p:den tPt} (h:aDf p):tot tPt p<=24:=by
 have h1:=wU (t:=tPp) (B:=5) (l:=p) fun x hx=>aTk (h.2 x hx)
 have h2:=h.1
 show tot (.sl tPp) p<=24
 omega

theorem aDf.set {p:lPp} (h:mA p) {i:Nat} {x:den tPp} (hx:x.2.2.2.length<=5):aDf (p.set i x):=by
 refine ⟨by have :=h.1;show (p.set i x).length<=4;rw [bVu];omega,fun y hy=> ?_⟩
 rcases bWo (show y∈p.set i x from hy) with hy | rfl
 ·exact h.2 y hy
 ·exact hx

theorem bGg {code:List Int} (hl:code.length<=1048576) {c:List Int} {p h:Int} (hc:Cur code (c,p,h)): ∃ (q:lPp) (c':List Int) (p' h':Int),xE (c,p,h)=some (q,c',p',h')∧aDf q∧Cur code (c',p',h'):=by
 obtain ⟨as,ls,q,c1,p1,h1,e1,hq,_,k1⟩:=aVp hl hc
 unfold xE ixb pj3 pj4
 simp only [e1,aA,aP,bD,aW,aV,aX]
 by_cases h0:q.length=0
 ·rw [show ((q.length:Int)==0)=true by rw [beq_iff_eq];omega,zZ]
  exact ⟨q,c1,p1,h1,rfl,hq.e,k1⟩
 have hq3:q.length<=3:=hq.1
 rw [show ((q.length:Int)==0)=false by rw [beq_eq_false_iff_ne];omega,zY]
 obtain ⟨v2,c2,p2,h2,e2,r2,k2⟩:=aH hl (n:=(q.length:Int)) (by omega) (by omega) k1
 obtain ⟨m,rfl⟩:=bUu r2.1
 have hm:m<q.length:=by omega
 have hx:q[m]? =some q[m]:=bT6 hm
 have hx5:q[m].2.2.2.length<=5:=hq.2 _ (bUj hm)
 obtain ⟨v3,c3,p3,h3,e3,r3,k3⟩:=aH hl (n:=12) (by decide) (by decide) k2
 simp only [e2,e3,aA,zX (show (0:Int)<=(m:Int) by omega),zX (show (m:Int)<(q.length:Int) by omega),zZ,bUf,hx]
 cases v3==(0:Int) with
 | true=>
  obtain ⟨v4,c4,p4,h4,e4,_,k4⟩:=aH hl (n:=6) (by decide) (by decide) k3
  exact ⟨_,c4,p4,h4,by simp only [zZ,e4,aA];rfl,aDf.set hq (by exact hx5),k4⟩
 | false=>
 cases v3==(1:Int) with
 | true=>
  obtain ⟨v4,c4,p4,h4,e4,k4⟩:=aIe hl k3
  exact ⟨_,c4,p4,h4,by simp only [zZ,zY,e4,aA];rfl,aDf.set hq (by exact hx5),k4⟩
 | false=>
 cases v3==(2:Int) with
 | true=>
  have sx:SmB 68719476736 tPp q[m]:=⟨trivial,trivial,trivial,by omega,fun _ _=>⟨trivial,trivial,trivial,trivial,trivial⟩⟩
  refine ⟨q++[q[m]],c3,p3,h3,?_,⟨by show (q++[q[m]]).length<=4;simp;omega,fun y hy=> ?_⟩,k3⟩
  ·simp only [zZ,zY,aLp (p:=q[m]) (by omega),aO,aA,aE (b:=48) (n:=q.length) (m:=1) (by decide) (by omega)]
  ·rcases bUe.1 (show y∈q++[q[m]] from hy) with hy | hy
   ·exact hq.2 y hy
   ·rw [bUd.1 hy];exact hx5
 | false=>
 cases v3==(3:Int) with
 | true=>
  have s1:cZ (1:Int) (q.length:Int) (q.length:Int)=true:=aAh (k:=1) (by omega)
  have s2:cut q (1:Int) (q.length:Int)=q.drop 1:=aD8 (k:=1)
  refine ⟨q.drop 1,c3,p3,h3,by simp only [zZ,zY,s1,s2,aA],⟨by show (q.drop 1).length<=4;simp;omega,fun y hy=>hq.2 y (bVr (show y∈q.drop 1 from hy))⟩,k3⟩
 | false=>
 cases v3==(4:Int) with
 | false=>exact ⟨q,c3,p3,h3,by simp only [zY,aA],hq.e,k3⟩
 | true=>
  simp only [zZ,zY]
  by_cases hp:(q[m].2.2.2.length:Int)>0
  ·obtain ⟨v4,c4,p4,h4,e4,r4,k4⟩:=aH hl (n:=(q[m].2.2.2.length:Int)) hp (by omega) k3
   obtain ⟨i,rfl⟩:=bUu r4.1
   have hi:i<q[m].2.2.2.length:=by omega
   obtain ⟨v5,c5,p5,h5,e5,k5⟩:=aIe hl k4
   refine ⟨_,c5,p5,h5,?_,aDf.set hq (i:=m) (x:=(q[m].1,q[m].2.1,q[m].2.2.1,q[m].2.2.2.set i (q[m].2.2.2[i].1,q[m].2.2.2[i].2.1,q[m].2.2.2[i].2.2.1,q[m].2.2.2[i].2.2.2.1,v5))) (by show (q[m].2.2.2.set i _).length<=5;rw [bVu];exact hx5),k5⟩
   simp only [zX hp,zZ,e4,e5,aA,zX (show (0:Int)<=(i:Int) by omega),zX (show (i:Int)<(q[m].2.2.2.length:Int) by omega),bUf,bT6 hi,aP,bD,aW,aV,aX]
  ·exact ⟨q,c3,p3,h3,by simp only [zW hp,zY,aA],hq.e,k3⟩


structure bJd (p:den tPk):Prop where
 path:aDf p.2.2.2.1
 len:p.2.2.2.2.2.2.2.2.2.length<=1000
 bytes:dE p

theorem aGh (p:den tPk):tot tPk p=tot tPt p.2.2.2.1+p.2.2.2.2.2.2.2.2.2.length:=by
 have e:tot tPk p=tot tPt p.2.2.2.1+tot (.sl tb) p.2.2.2.2.2.2.2.2.2:=by simp [sE,uV]
 rw [e,dD (t:=tb) rfl]

theorem aG7 {p:den tPk} (h:bJd p):tot tPk p<=1100:=by
 have h1:=bGn h.path
 have h2:=h.len
 rw [aGh]
 omega

theorem aJr {code:List Int} (hl:code.length<=1048576) {c:List Int} {p h:Int} (hc:Cur code (c,p,h)): ∃ (as:lAS) (ls:lLk) (k:den tPk) (c':List Int) (p' h':Int),qE (c,p,h)=some (as,ls,k.1,k.2.1,k.2.2.1,k.2.2.2.1,k.2.2.2.2.1,k.2.2.2.2.2.1,k.2.2.2.2.2.2.1,k.2.2.2.2.2.2.2.1,k.2.2.2.2.2.2.2.2.1,k.2.2.2.2.2.2.2.2.2,c',p',h')∧bJd k∧wL as ls∧Cur code (c',p',h'):=by
 obtain ⟨as,ls,k,c1,p1,h1,e1,hk,kt,k1⟩:=aW1 hl hc
 obtain ⟨v2,c2,p2,h2,e2,r2,k2⟩:=aH hl (n:=14) (by decide) (by decide) k1
 have hkp:bJd k:=⟨hk.path.e,hk.len,hk.bytes⟩
 unfold qE pj3 pj4 aG aU bC zz4 zz5 zz6 zz7 zz8 zz9
 simp only [e1,e2,aA,aP,bD,aW,aV,aX]
 cases v2==(0:Int) with
 | true=>
  obtain ⟨v3,c3,p3,h3,e3,_,k3⟩:=aH hl (n:=4) (by decide) (by decide) k2
  exact ⟨as,ls,(k.1,k.2.1,k.2.2.1,k.2.2.2.1,wr (v3 - 1),k.2.2.2.2.2.1,k.2.2.2.2.2.2.1,k.2.2.2.2.2.2.2.1,k.2.2.2.2.2.2.2.2.1,k.2.2.2.2.2.2.2.2.2),c3,p3,h3,by simp only [zZ,e3,aA],⟨hkp.path,hkp.len,hkp.bytes⟩,kt,k3⟩
 | false=>
 cases v2==(1:Int) with
 | true=>
  obtain ⟨v3,c3,p3,h3,e3,_,k3⟩:=aH hl (n:=4) (by decide) (by decide) k2
  exact ⟨as,ls,(k.1,k.2.1,k.2.2.1,k.2.2.2.1,k.2.2.2.2.1,wr (v3 - 1),k.2.2.2.2.2.2.1,k.2.2.2.2.2.2.2.1,k.2.2.2.2.2.2.2.2.1,k.2.2.2.2.2.2.2.2.2),c3,p3,h3,by simp only [zZ,zY,e3,aA],⟨hkp.path,hkp.len,hkp.bytes⟩,kt,k3⟩
 | false=>
 cases v2==(2:Int) with
 | true=>
  obtain ⟨v3,c3,p3,h3,e3,k3⟩:=aIe hl k2
  exact ⟨as,ls,(k.1,k.2.1,k.2.2.1,k.2.2.2.1,k.2.2.2.2.1,k.2.2.2.2.2.1,v3,k.2.2.2.2.2.2.2.1,k.2.2.2.2.2.2.2.2.1,k.2.2.2.2.2.2.2.2.2),c3,p3,h3,by simp only [zZ,zY,e3,aA],⟨hkp.path,hkp.len,hkp.bytes⟩,kt,k3⟩
 | false=>
 cases v2==(3:Int) with
 | true=>
  obtain ⟨v3,c3,p3,h3,e3,_,k3⟩:=aH hl (n:=9) (by decide) (by decide) k2
  exact ⟨as,ls,(k.1,k.2.1,v3,k.2.2.2.1,k.2.2.2.2.1,k.2.2.2.2.2.1,k.2.2.2.2.2.2.1,k.2.2.2.2.2.2.2.1,k.2.2.2.2.2.2.2.2.1,k.2.2.2.2.2.2.2.2.2),c3,p3,h3,by simp only [zZ,zY,e3,aA],⟨hkp.path,hkp.len,hkp.bytes⟩,kt,k3⟩
 | false=>
 cases v2==(4:Int) with
 | true=>
  obtain ⟨v3,c3,p3,h3,e3,_,k3⟩:=qD hl (l:=[(-1:Int),(100000:Int),(100001:Int)]) (by decide) (by decide) k2
  exact ⟨as,ls,(k.1,k.2.1,k.2.2.1,k.2.2.2.1,k.2.2.2.2.1,k.2.2.2.2.2.1,k.2.2.2.2.2.2.1,k.2.2.2.2.2.2.2.1,v3,k.2.2.2.2.2.2.2.2.2),c3,p3,h3,by simp only [zZ,zY,e3,aA],⟨hkp.path,hkp.len,hkp.bytes⟩,kt,k3⟩
 | false=>
 cases v2==(5:Int) with
 | true=>
  obtain ⟨q3,c3,p3,h3,e3,hq,k3⟩:=bGg hl k2
  exact ⟨as,ls,(k.1,k.2.1,k.2.2.1,q3,k.2.2.2.2.1,k.2.2.2.2.2.1,k.2.2.2.2.2.2.1,k.2.2.2.2.2.2.2.1,k.2.2.2.2.2.2.2.2.1,k.2.2.2.2.2.2.2.2.2),c3,p3,h3,by simp only [zZ,zY,e3,aA],⟨hq,hkp.len,hkp.bytes⟩,kt,k3⟩
 | false=>
 cases v2==(6:Int) with
 | true=>
  obtain ⟨v3,c3,p3,h3,e3,_,k3⟩:=aH hl (n:=6) (by decide) (by decide) k2
  exact ⟨as,ls,(wr (v3 - 1),k.2.1,k.2.2.1,k.2.2.2.1,k.2.2.2.2.1,k.2.2.2.2.2.1,k.2.2.2.2.2.2.1,k.2.2.2.2.2.2.2.1,k.2.2.2.2.2.2.2.2.1,k.2.2.2.2.2.2.2.2.2),c3,p3,h3,by simp only [zZ,zY,e3,aA],⟨hkp.path,hkp.len,hkp.bytes⟩,kt,k3⟩
 | false=>exact ⟨as,ls,k,c2,p2,h2,by simp only [zY,aA],hkp,kt,k2⟩


structure EvD (w:den tNw) (e:den jL):Prop where
 lo:(1:Int)<=e.1
 hi:(8:Int)>=e.1
 data:e.2.2.1.length<=3∧qN e.2.2.1
 pk:tot tPk e.2.2.2.2.2<=1100∧dE e.2.2.2.2.2
 harm:harm w e=true


structure bIs (w:den tNw):Prop where
 tot:tot tNw w<=536870912
 as:1<=(nT w).1.length∧(nT w).1.length<=8
 links:(nT w).2.length<=100
 flyN:(aN w).length<=150
 fly: ∀ x∈aN w,Go.V.tot tPk x.2.2<=1100
 bytes: ∀ x∈aN w,dE x.2.2
 flows:(aD w).length<=4

theorem bCe {w:den tNw} {e:den jL} (h:(e.1==(7:Int))=false):harm w e=true:=by
 unfold harm
 rw [h];rfl

theorem bD0 {w:den tNw} {to ing:Int} {pk:den tPk}:harm w ((7:Int),(0:Int),[],(to,ing,((3:Int),pk.2)))=true:=by
 unfold harm sM
 rw [show (((3:Int),pk.2):den tPk).1=3 from rfl,show ((3:Int)==3)=true from rfl,bWg,bWg]
 rfl

def fgR (w:den tNw) (e:den jL) (c:List Int) (p h:Int):q6:=
 (e.1,e.2.1,e.2.2.2.1,e.2.2.2.2.1,e.2.2.2.2.2.1,e.2.2.2.2.2.2.1,e.2.2.2.2.2.2.2.1,e.2.2.2.2.2.2.2.2.1,e.2.2.2.2.2.2.2.2.2.1,e.2.2.2.2.2.2.2.2.2.2.1,e.2.2.2.2.2.2.2.2.2.2.2.1,e.2.2.2.2.2.2.2.2.2.2.2.2.1,e.2.2.2.2.2.2.2.2.2.2.2.2.2.1,e.2.2.2.2.2.2.2.2.2.2.2.2.2.2,e.2.2.1,c,p,h,aN w,aD w,bG w)

def nxR (w:den tNw) (e:den jL) (c:List Int) (p h:Int):q6:=
 (e.1,e.2.1,e.2.2.2.1,e.2.2.2.2.1,e.2.2.2.2.2.1,e.2.2.2.2.2.2.1,e.2.2.2.2.2.2.2.1,e.2.2.2.2.2.2.2.2.1,e.2.2.2.2.2.2.2.2.2.1,e.2.2.2.2.2.2.2.2.2.2.1,e.2.2.2.2.2.2.2.2.2.2.2.1,e.2.2.2.2.2.2.2.2.2.2.2.2.1,e.2.2.2.2.2.2.2.2.2.2.2.2.2.1,e.2.2.1,e.2.2.2.2.2.2.2.2.2.2.2.2.2.2,c,p,h,aN w,aD w,bG w)

theorem bEb {code:List Int} (hl:code.length<=1048576) {w:den tNw} (hw:bIs w) {c:List Int} {p h:Int} (hc:Cur code (c,p,h)): ∃ e c' p' h',mR (c,p,h) w=some (fgR w e c' p' h')∧EvD w e∧Cur code (c',p',h'):=by
 obtain ⟨as,ls,k,c1,p1,h1,e1,hk,_,k1⟩:=aJr hl hc
 have ha:1<=w.1.1.length∧w.1.1.length<=8:=hw.as
 have hfn:=hw.flyN
 obtain ⟨v2,c2,p2,h2,e2,r2,k2⟩:=aH hl (n:=(w.1.1.length:Int)) (by omega) (by omega) k1
 obtain ⟨v3,c3,p3,h3,e3,r3,k3⟩:=aH hl (n:=7) (by decide) (by decide) k2
 have sw:SmB 68719476736 tNw w:=(bF hw.tot).mono (by decide)
 have fin: ∀ (k:den tPk) (c:List Int) (p h:Int),tot tPk k<=1100→dE k→Cur code (c,p,h)→ ∃ e c' p' h',(Option.bind (Option.bind (oD w ((7:Int),(0:Int),[],(v2,v3,(k.1,k.2.1,k.2.2.1,k.2.2.2.1,k.2.2.2.2.1,k.2.2.2.2.2.1,k.2.2.2.2.2.2.1,k.2.2.2.2.2.2.2.1,k.2.2.2.2.2.2.2.2.1,k.2.2.2.2.2.2.2.2.2)))) fun y31=>cond (!y31) (some ((7:Int),(0:Int),v2,v3,(3:Int),k.2.1,k.2.2.1,k.2.2.2.1,k.2.2.2.2.1,k.2.2.2.2.2.1,k.2.2.2.2.2.2.1,k.2.2.2.2.2.2.2.1,k.2.2.2.2.2.2.2.2.1)) (some ((7:Int),(0:Int),v2,v3,k.1,k.2.1,k.2.2.1,k.2.2.2.1,k.2.2.2.2.1,k.2.2.2.2.2.1,k.2.2.2.2.2.2.1,k.2.2.2.2.2.2.2.1,k.2.2.2.2.2.2.2.2.1))) fun s32=>some (s32.1,s32.2.1,s32.2.2.1,s32.2.2.2.1,s32.2.2.2.2.1,s32.2.2.2.2.2.1,s32.2.2.2.2.2.2.1,s32.2.2.2.2.2.2.2.1,s32.2.2.2.2.2.2.2.2.1,s32.2.2.2.2.2.2.2.2.2.1,s32.2.2.2.2.2.2.2.2.2.2.1,s32.2.2.2.2.2.2.2.2.2.2.2.1,s32.2.2.2.2.2.2.2.2.2.2.2.2,k.2.2.2.2.2.2.2.2.2,([]:List Int),c,p,h,w.2.2.2.2.2.1,w.2.2.2.2.2.2.1,w.2.2.2.2.2.2.2.1))=some (fgR w e c' p' h')∧EvD w e∧Cur code (c',p',h'):=by
  intro k c p h ht hb hc
  have se:SmB 68719476736 jL ((7:Int),(0:Int),[],(v2,v3,k)):=⟨trivial,trivial,⟨by simp,fun x hx=>trivial⟩,trivial,trivial,(bF ht).mono (by decide)⟩
  have e9:oD w ((7:Int),(0:Int),[],(v2,v3,(k.1,k.2.1,k.2.2.1,k.2.2.2.1,k.2.2.2.2.1,k.2.2.2.2.2.1,k.2.2.2.2.2.2.1,k.2.2.2.2.2.2.2.1,k.2.2.2.2.2.2.2.2.1,k.2.2.2.2.2.2.2.2.2)))=some (harm w ((7:Int),(0:Int),[],(v2,v3,k))):=bRa sw se
  rw [e9,aA]
  cases hb':harm w ((7:Int),(0:Int),[],(v2,v3,k)) with
  | true=>exact ⟨((7:Int),(0:Int),[],(v2,v3,k)),c,p,h,rfl,⟨by show (1:Int)<=7;decide,by show (8:Int)>=7;decide,⟨bUt _,fun x hx=>(bUr hx).elim⟩,⟨ht,hb⟩,hb'⟩,hc⟩
  | false=>exact ⟨((7:Int),(0:Int),[],(v2,v3,((3:Int),k.2))),c,p,h,rfl,⟨by show (1:Int)<=7;decide,by show (8:Int)>=7;decide,⟨bUt _,fun x hx=>(bUr hx).elim⟩,⟨ht,hb⟩,bD0⟩,hc⟩
 unfold mR ixb aI pj3 pj4 fZ aG aU bC cU iE kZ qL zz4 zz5 zz6 zz7 zz8 zz9
 simp only [e1,e2,e3,aA,aP,bD,aW,aV,aX]
 have done:=fun c p h hc=>fin k c p h (aG7 hk) hk.bytes hc
 by_cases hf:(w.2.2.2.2.2.1.length:Int)>0
 ·obtain ⟨v4,c4,p4,h4,e4,k4⟩:=mO hl (n:=2) (by decide) (by decide) k3
  simp only [zX hf,zZ,e4,aA]
  cases v4 with
  | false=>
   simp only [zY,aA]
   exact done c4 p4 h4 k4
  | true=>
   have hfn:w.2.2.2.2.2.1.length<=150:=hfn
   obtain ⟨v5,c5,p5,h5,e5,r5,k5⟩:=aH hl (n:=(w.2.2.2.2.2.1.length:Int)) hf (by omega) k4
   obtain ⟨i,rfl⟩:=bUu r5.1
   have hi:i<w.2.2.2.2.2.1.length:=by omega
   have hx:w.2.2.2.2.2.1[i]? =some w.2.2.2.2.2.1[i]:=bT6 hi
   have hm:w.2.2.2.2.2.1[i]∈aN w:=bUj hi
   have ht:=hw.fly _ hm
   have hb:=hw.bytes _ hm
   generalize w.2.2.2.2.2.1[i]=x at hx hm ht hb
   have e6:=aB3 (p:=x.2.2) (fQ (bT7 ht (by decide)))
   obtain ⟨v7,c7,p7,h7,e7,k7⟩:=mO hl (n:=2) (by decide) (by decide) k5
   simp only [zZ,e5,aA,zX (show (0:Int)<=(i:Int) by omega),zX (show (i:Int)<(w.2.2.2.2.2.1.length:Int) by omega),bUf,hx,aO,e6,e7]
   cases v7 with
   | false=>
    simp only [zY,aA]
    exact fin x.2.2 c7 p7 h7 ht hb k7
   | true=>
    obtain ⟨v8,c8,p8,h8,e8,k8⟩:=aIe hl k7
    simp only [zZ,e8,aA]
    exact fin (x.2.2.1,x.2.2.2.1,x.2.2.2.2.1,x.2.2.2.2.2.1,x.2.2.2.2.2.2.1,x.2.2.2.2.2.2.2.1,v8,x.2.2.2.2.2.2.2.2.2.1,x.2.2.2.2.2.2.2.2.2.2.1,x.2.2.2.2.2.2.2.2.2.2.2) c8 p8 h8 ht hb k8
 ·simp only [zW hf,zY,aA]
  exact done c3 p3 h3 k3

theorem bIi {code:List Int} (hl:code.length<=1048576) {w:den tNw} (hw:bIs w) {c:List Int} {p h:Int} (hc:Cur code (c,p,h)): ∃ e c' p' h',rR (c,p,h) w=some (nxR w e c' p' h')∧EvD w e∧Cur code (c',p',h'):=by
 have hlk:w.1.2.length<=100:=hw.links
 have hfl:w.2.2.2.2.2.2.1.length<=4:=hw.flows
 have hfn:w.2.2.2.2.2.1.length<=150:=hw.flyN
 have wl:wr ((w.1.2.length:Int)+1)=((w.1.2.length+1:Nat):Int):=bE (by omega)
 have wf:wr ((w.2.2.2.2.2.2.1.length:Int)+1)=((w.2.2.2.2.2.2.1.length+1:Nat):Int):=bE (by omega)
 have pk0D:tot tPk ((0:Int),(0:Int),(0:Int),[],(0:Int),(0:Int),(0:Int),(0:Int),(0:Int),[])<=1100∧dE ((0:Int),(0:Int),(0:Int),[],(0:Int),(0:Int),(0:Int),(0:Int),(0:Int),[]):=⟨by rw [aGh];exact bUt _,fun x hx=>(bUr hx).elim⟩
 have ev: ∀ (kd n:Int) (data:List Int),(1:Int)<=kd→(8:Int)>=kd→(kd==(7:Int))=false→data.length<=3→qN data→EvD w (kd,n,data,((0:Int),(0:Int),((0:Int),(0:Int),(0:Int),[],(0:Int),(0:Int),(0:Int),(0:Int),(0:Int),[]))):=fun kd n data a b d e f=>⟨a,b,⟨e,f⟩,pk0D,bCe d⟩
 have nob:qN []:=fun x hx=>(bUr hx).elim
 obtain ⟨v1,c1,p1,h1,e1,r1,k1⟩:=aH hl (n:=24) (by decide) (by decide) hc
 obtain ⟨v2,c2,p2,h2,e2,r2,k2⟩:=aH hl (n:=((w.1.2.length+1:Nat):Int)) (by omega) (by omega) k1
 unfold rR pj3 pj6 fZ aG aU bC cU iE kZ zz4 zz5 zz6 zz7 zz8 zz9
 simp only [e1,aA,wl,wf,e2]
 cases v1==(0:Int) with
 | true=>
  exact ⟨((5:Int),v2,[],((0:Int),(0:Int),((0:Int),(0:Int),(0:Int),[],(0:Int),(0:Int),(0:Int),(0:Int),(0:Int),[]))),c2,p2,h2,rfl,ev 5 v2 [] (by decide) (by decide) rfl (bUt _) nob,k2⟩
 | false=>
 simp only [zY]
 obtain ⟨b3,e3⟩: ∃ b,(cond (v1==(1:Int)) (some (v1==(1:Int))) (some (v1==(2:Int))))=some b:=by cases v1==(1:Int)<;>exact ⟨_,rfl⟩
 rw [e3,aA]
 cases b3 with
 | true=>
  exact ⟨((6:Int),v2,[],((0:Int),(0:Int),((0:Int),(0:Int),(0:Int),[],(0:Int),(0:Int),(0:Int),(0:Int),(0:Int),[]))),c2,p2,h2,rfl,ev 6 v2 [] (by decide) (by decide) rfl (bUt _) nob,k2⟩
 | false=>
 simp only [zY]
 cases v1==(3:Int) with
 | true=>
  obtain ⟨e,c4,p4,h4,e4,d4,k4⟩:=bEb hl hw k1
  refine ⟨e,c4,p4,h4,?_,d4,k4⟩
  rw [zZ]
  show Option.bind (mR (c1,p1,h1) w) _=_
  rw [e4]
  rfl
 | false=>
 simp only [zY]
 cases v1==(4:Int) with
 | true=>
  obtain ⟨v4,c4,p4,h4,e4,r4,k4⟩:=aH hl (n:=((w.2.2.2.2.2.2.1.length+1:Nat):Int)) (by omega) (by omega) k1
  obtain ⟨v5,c5,p5,h5,e5,r5,k5⟩:=aH hl (n:=3) (by decide) (by decide) k4
  obtain ⟨m5,rfl⟩:=bUu r5.1
  obtain ⟨l6,c6,p6,h6,e6,⟨r6,b6⟩,k6⟩:=aI7 hl (n:=m5) (by omega) k5
  exact ⟨((8:Int),v4,l6,((0:Int),(0:Int),((0:Int),(0:Int),(0:Int),[],(0:Int),(0:Int),(0:Int),(0:Int),(0:Int),[]))),c6,p6,h6,by simp only [zZ,e4,e5,e6,aA];rfl,ev 8 v4 l6 (by decide) (by decide) rfl (by omega) b6,k6⟩
 | false=>
 simp only [zY]
 have tick: ∀ c p h,Cur code (c,p,h)→ ∃ e c' p' h',(some ((1:Int),(0:Int),(0:Int),(0:Int),(0:Int),(0:Int),(0:Int),[],(0:Int),(0:Int),(0:Int),(0:Int),(0:Int),[],[],c,p,h,w.2.2.2.2.2.1,w.2.2.2.2.2.2.1,w.2.2.2.2.2.2.2.1):Option q6)=some (nxR w e c' p' h')∧EvD w e∧Cur code (c',p',h'):=fun c p h hc=>
  ⟨((1:Int),(0:Int),[],((0:Int),(0:Int),((0:Int),(0:Int),(0:Int),[],(0:Int),(0:Int),(0:Int),(0:Int),(0:Int),[]))),c,p,h,rfl,ev 1 0 [] (by decide) (by decide) rfl (bUt _) nob,hc⟩
 by_cases hf:(w.2.2.2.2.2.1.length:Int)>0
 ·obtain ⟨v4,c4,p4,h4,e4,k4⟩:=mO hl (n:=4) (by decide) (by decide) k1
  simp only [zX hf,zZ,e4,aA]
  cases v4 with
  | true=>
   simp only [bUc,zY]
   exact tick c4 p4 h4 k4
  | false=>
   simp only [bUn,zZ]
   obtain ⟨m,em,hm1,hm2⟩: ∃ m:Int,(if (3:Int)<(w.2.2.2.2.2.1.length:Int) then (3:Int) else (w.2.2.2.2.2.1.length:Int))=m∧0<m∧m<=256:=by
    split
    ·exact ⟨_,rfl,by decide,by decide⟩
    ·exact ⟨_,rfl,by omega,by omega⟩
   obtain ⟨v5,c5,p5,h5,e5,r5,k5⟩:=aH hl hm1 hm2 k4
   obtain ⟨v6,c6,p6,h6,e6,r6,k6⟩:=aH hl (n:=12) (by decide) (by decide) k5
   simp only [aS7,em,e5,e6,aA]
   cases v6==(0:Int) with
   | true=>exact ⟨((3:Int),v5,[],((0:Int),(0:Int),((0:Int),(0:Int),(0:Int),[],(0:Int),(0:Int),(0:Int),(0:Int),(0:Int),[]))),c6,p6,h6,rfl,ev 3 v5 [] (by decide) (by decide) rfl (bUt _) nob,k6⟩
   | false=>
    cases v6==(1:Int) with
    | true=>exact ⟨((4:Int),v5,[],((0:Int),(0:Int),((0:Int),(0:Int),(0:Int),[],(0:Int),(0:Int),(0:Int),(0:Int),(0:Int),[]))),c6,p6,h6,rfl,ev 4 v5 [] (by decide) (by decide) rfl (bUt _) nob,k6⟩
    | false=>exact ⟨((2:Int),v5,[],((0:Int),(0:Int),((0:Int),(0:Int),(0:Int),[],(0:Int),(0:Int),(0:Int),(0:Int),(0:Int),[]))),c6,p6,h6,rfl,ev 2 v5 [] (by decide) (by decide) rfl (bUt _) nob,k6⟩
 ·simp only [zW hf,zY,aA]
  exact tick c1 p1 h1 k1

theorem aXf {s d now now':Int} (hn:now<=now'): ∀ {l:lRs},(∀ x∈l,(0:Int)<=x.2.2.2.1∧(20:Int)>=x.2.2.2.1)→rs s d now' l<=rs s d now l
 | [],_=>bVy _
 | x::l,h=>by
  have ih:=aXf (s:=s) (d:=d) hn (l:=l) fun y hy=>h y (bUl _ hy)
  have hx:=h x (by simp)
  unfold rs
  by_cases c:now'<=x.2.2.2.2
  ·rw [zX c,zX (show now<=x.2.2.2.2 from Int.le_trans hn c)]
   split<;>omega
  ·rw [zW c,Bool.and_false]
   simp only [bUh,zU]
   split<;>omega

theorem qH.later {l:lRs} {cap now now':Int} (h:qH l cap now) (hn:now<=now'):qH l cap now':=
 ⟨h.len,h.val,fun x hx=>Int.le_trans (aXf hn (wW h.val)) (h.rate x hx),h.pw⟩

theorem OkS.tick {g:den tSc} {now now':Int} (h:OkS g now) (hn:now<=now'):OkS (g.1,aD9 g.2.1 now',[]) now':=
 ⟨h.lo,h.hi,(h.res.later hn).filter _,fun j x hx=>by simp at hx⟩


structure cJ (w w':den tNw):Prop where
 top:nT w'=nT w
 now:aM w'=aM w
 gate:OkS (nG w) (aM w)→OkS (nG w') (aM w')
 fly: ∀ x∈aN w',x∈aN w∨tot tPk x.2.2<=1100
 flyN:(aN w).length<=150→(aN w').length<=150

theorem cJ.refl (w:den tNw):cJ w w:=⟨rfl,rfl,id,fun x hx=> .inl hx,id⟩

theorem cJ.trans {a b c:den tNw} (h:cJ a b) (k:cJ b c):cJ a c:=
 ⟨k.top.trans h.top,k.now.trans h.now,fun hg=>k.gate (h.gate hg),fun x hx=>(k.fly x hx).elim (h.fly x) .inr,fun hl=>k.flyN (h.flyN hl)⟩

theorem cJ.drop (w:den tNw):cJ w (vW w):=⟨rfl,rfl,id,fun x hx=> .inl hx,id⟩

theorem cJ.box (w:den tNw) (i:Nat) (x:den tIb):cJ w (qM w i x):=⟨rfl,rfl,id,fun x hx=> .inl hx,id⟩

theorem cJ.flows (w:den tNw) (l:lFl):cJ w (eQ w l):=⟨rfl,rfl,id,fun x hx=> .inl hx,id⟩

theorem cJ.tell (w:den tNw) (r:Int) (p:den tPk):cJ w (uQ w r p):=cJ.flows w _

theorem cJ.send {w:den tNw} {r eg:Int} {p:den tPk} (hp:tot tPk p<=1100):cJ w (lM w r eg p):=by
 unfold lM
 split
 ·rename_i hc
  rw [bT8,zR] at hc
  refine ⟨rfl,rfl,fun hg=>hg.trans _ _ _,fun x hx=> ?_,fun hl=> ?_⟩
  ·rcases bUe.1 (show x∈aN w++_ from hx) with hx | hx
   ·exact .inl hx
   ·have :x=_:=bUd.1 hx
    subst this
    exact .inr hp
  ·show (aN w++_).length<=150
   have :=hc.2
   simp
   omega
 ·exact cJ.drop w

theorem aLg {t:den tTo} {now:Int} {dead:List Int} {r inn:Int} {p:den tPk} (h:((bL t now dead r inn p).1==0)=true):tot tPk (bL t now dead r inn p).2.2.1<=1100:=by
 have hv:gM p=true:=aIm (t:=t) (r:=r) (now:=now) (dead:=oE t dead r) (inn:=inn) (by
  have h:((fwd t r now (oE t dead r) inn p).1==0)=true:=h
  rw [eq_of_beq h];rfl)
 unfold bL
 rw [aKg]
 exact bT7 (aN4 hv) (by decide)

theorem cJ.proc0 (w:den tNw) (r inn:Int) (p:den tPk):cJ w (proc0 w r inn p):=by
 unfold Go.Proofs.YtecighmpdcffcaaGreat.proc0
 split
 ·rename_i h;exact cJ.send (aLg h)
 ·split
  ·exact cJ.tell w _ _
  ·exact cJ.drop w

theorem cJ.proc (w:den tNw) (r inn:Int) (p:den tPk):cJ w (bX w r inn p):=by
 unfold bX
 split
 ·rename_i h;exact cJ.send (aLg h)
 ·split
  ·split
   ·unfold xV
    split
    ·exact cJ.refl w
    ·split
     ·exact (cJ.box w _ _).trans (cJ.proc0 _ _ _ _)
     ·exact cJ.box w _ _
   ·exact cJ.tell w _ _
  ·split
   ·unfold aAs
    split
    ·exact (cJ.proc0 _ _ _ _).trans (cJ.drop _)
    ·exact (cJ.tell _ _ _).trans (cJ.drop _)
   ·exact cJ.drop w

theorem cJ.stepT (k:Nat) (w:den tNw):cJ w (stepT k w):=by
 unfold Go.Proofs.YtecighmpdcffcaaGreat.stepT
 split
 ·split
  ·exact (cJ.flows w _).trans (cJ.proc _ _ _ _)
  ·exact cJ.flows w _
 ·exact cJ.refl w

theorem cJ.tickL: ∀ (n k:Nat) (w:den tNw),cJ w (tickL k n w)
 | 0,_,w=>cJ.refl w
 | n+1,k,w=>(cJ.stepT k w).trans (cJ.tickL n (k+1) _)


structure qJ (t:den tTo) (B k:Nat) (w:den tNw):Prop where
 keep:mP B 4 w
 top:nT w=t
 gate:OkS (nG w) (aM w)
 lo:(0:Int)<=aM w
 hi:aM w<=60+(k:Int)
 fly: ∀ x∈aN w,tot tPk x.2.2<=1100
 flyN:(aN w).length<=150

theorem qJ.mono {t:den tTo} {B C k j:Nat} {w:den tNw} (h:qJ t B k w) (hB:B<=C) (hk:k<=j):qJ t C j w:=⟨h.keep.mono hB,h.top,h.gate,h.lo,by have :=h.hi;omega,h.fly,h.flyN⟩

theorem qJ.step {t:den tTo} {B C k:Nat} {w w':den tNw} (h:qJ t B k w) (s:cJ w w') (hk:mP C 4 w'):qJ t C k w':=
 ⟨hk,s.top.trans h.top,s.gate h.gate,by rw [s.now];exact h.lo,by rw [s.now];exact h.hi,fun x hx=>(s.fly x hx).elim (h.fly x) id,s.flyN h.flyN⟩

theorem bB7 {t:den tTo} {B k:Nat} {w:den tNw} (h:qJ t B k w) (hk:k<=1000):qJ t B (k+1) (aHa w):=by
 have hlo:=h.lo
 have hhi:=h.hi
 have e:wr (aM w+1)=aM w+1:=bK (by omega) (by omega)
 refine ⟨aGz h.keep,h.top,?_,?_,?_,h.fly,h.flyN⟩
 ·show OkS ((nG w).1,aD9 (nG w).2.1 (wr (aM w+1)),[]) (wr (aM w+1))
  rw [e]
  exact h.gate.tick (by omega)
 ·show (0:Int)<=wr (aM w+1)
  omega
 ·show wr (aM w+1)<=_
  omega

theorem bF6 {t:den tTo} {B k:Nat} {w:den tNw} (h:qJ t B k w) (hk:k<=1000):qJ t (B+656) (k+1) (wT w):=by
 have hkp:=aYy h.keep
 unfold wT at hkp ⊢
 split
 ·exact h.mono (by omega) (by omega)
 ·rename_i hn
  rw [zS hn] at hkp
  exact (bB7 h hk).step (cJ.tickL _ _ _) hkp

theorem aX5 {w:den tNw} {x:den tFy}:tot tNw (aAu w (aN w++[x]))=tot tNw w+(1+tot tPk x.2.2):=by
 have h1:=aMp w (aN w++[x])
 rw [pU,aBq] at h1
 have e:tot tFy x=tot tPk x.2.2:=by simp [sE,uV]
 omega

theorem bD3 (m:Nat) (dead:List Int) (i:Int) (b:Bool):(yJ m dead i b).length<=m:=by
 unfold yJ
 exact bT7 (bWv ..) (by simp)

theorem aWn (w:den tNw) (l:List Int):tot tNw (aGi w l)+(aJ w).length=tot tNw w+l.length:=by
 have e:tot tNw (aGi w l)=(tot (.sl tAS) (nT w).1+tot (.sl tLk) (nT w).2)+((tot (.sl tSg) (nK w).1+tot (.sl tSg) (nK w).2)+((0+(tot (.sl tRs) (nG w).2.1+tot (.sl tUs) (nG w).2.2))+(0+(tot (.sl ti) l+(tot (.sl tFy) (aN w)+(tot (.sl tFl) (aD w)+(tot (.sl tIb) (bG w)+0))))))):=rfl
 have r: ∀ l:List Int,tot (.sl ti) l=l.length:=fun l=>dD rfl
 rw [e,eT w,r,r]
 omega


theorem aX8 {t:den tTo} {B k:Nat} {w:den tNw} {e:den jL} (h:qJ t B k w) (hk:k<=1000) (ht:t.2.length<=100) (he:EvD w e):qJ t (B+2000) (k+1) (doW w e).2:=by
 have same:qJ t (B+2000) (k+1) w:=h.mono (by omega) (by omega)
 unfold doW
 split
 ·exact (bF6 h hk).mono (by omega) (by omega)
 ·split
  ·split
   ·rename_i x hi hx
    have hm:=bUi hx
    have hb:=h.keep.bytes.fly x hm
    have hg:qJ t B k (aA1 w e.2.1.toNat):=h.step ⟨rfl,rfl,id,fun y hy=> ?_,fun hl=> ?_⟩ (aHn h.keep _)
    ·exact ((hg.step (cJ.proc _ _ _ _) (aWs hg.keep hb)).mono (by omega) (by omega))
    ·rcases bUe.1 (show y∈(aN w).take _++(aN w).drop _ from hy) with hy | hy
     ·exact .inl (bVs hy)
     ·exact .inl (bVr hy)
    ·show ((aN w).take _++(aN w).drop _).length<=150
     simp only [bU0,bVk,bV6]
     omega
   ·exact same
  ·split
   ·split
    ·have hg:qJ t B k (aA1 w e.2.1.toNat):=h.step ⟨rfl,rfl,id,fun y hy=> ?_,fun hl=> ?_⟩ (aHn h.keep _)
     ·exact (hg.step (cJ.drop _) ⟨hg.keep.tot,hg.keep.flows,⟨hg.keep.bytes.fly,hg.keep.bytes.msg⟩⟩).mono (by omega) (by omega)
     ·rcases bUe.1 (show y∈(aN w).take _++(aN w).drop _ from hy) with hy | hy
      ·exact .inl (bVs hy)
      ·exact .inl (bVr hy)
     ·show ((aN w).take _++(aN w).drop _).length<=150
      simp only [bU0,bVk,bV6]
      omega
    ·exact same
   ·split
    ·split
     ·rename_i x hi hx
      have hm:=bUi hx
      rw [bT8] at hi
      have hlt: ¬ (((aN w).length:Int)>=150):=by have :=hi.2;simpa using this
      have ht':=aX5 (w:=w) (x:=x)
      have hx':=h.fly x hm
      have hkp:=h.keep.tot
      refine qJ.mono (B:=B+1101) (k:=k) (h.step (w':=aAu w (aN w++[x])) ⟨rfl,rfl,id,fun y hy=> ?_,fun hl=> ?_⟩ ⟨by omega,h.keep.flows,⟨fun y hy=> ?_,h.keep.bytes.msg⟩⟩) (by omega) (by omega)
      ·rcases bUe.1 (show y∈aN w++[x] from hy) with hy | hy
       ·exact .inl hy
       ·rw [bUd.1 hy];exact .inl hm
      ·show (aN w++[x]).length<=150
       simp only [bU0,bVo]
       omega
      ·rcases bUe.1 (show y∈aN w++[x] from hy) with hy | hy
       ·exact h.keep.bytes.fly y hy
       ·rw [bUd.1 hy];exact h.keep.bytes.fly x hm
     ·exact same
    ·split
     ·show qJ t (B+2000) (k+1) (aBa w e.2.1 (e.1==5))
      unfold aBa
      split
      ·exact same
      ·have h1:=aWn w (yJ (nT w).2.length (aJ w) e.2.1 (e.1==5))
       have h2:=bD3 (nT w).2.length (aJ w) e.2.1 (e.1==5)
       have h3:(nT w).2.length<=100:=by rw [h.top];exact ht
       have hkp:=h.keep.tot
       exact qJ.mono (B:=B+100) (k:=k) (h.step (w':=aGi w (yJ (nT w).2.length (aJ w) e.2.1 (e.1==5))) ⟨rfl,rfl,id,fun y hy=> .inl hy,id⟩ ⟨by omega,h.keep.flows,⟨h.keep.bytes.fly,h.keep.bytes.msg⟩⟩) (by omega) (by omega)
     ·split
      ·split
       ·rename_i hc
        rw [bT8] at hc
        have hlt: ¬ (((aN w).length:Int)>=150):=by have :=hc.2;simpa using this
        have ht':=aX5 (w:=w) (x:=e.2.2.2)
        have hx':=he.pk.1
        have hkp:=h.keep.tot
        refine qJ.mono (B:=B+1101) (k:=k) (h.step (w':=aAu w (aN w++[e.2.2.2])) ⟨rfl,rfl,id,fun y hy=> ?_,fun hl=> ?_⟩ ⟨by omega,h.keep.flows,⟨fun y hy=> ?_,h.keep.bytes.msg⟩⟩) (by omega) (by omega)
        ·rcases bUe.1 (show y∈aN w++[e.2.2.2] from hy) with hy | hy
         ·exact .inl hy
         ·rw [bUd.1 hy];exact .inr hx'
        ·show (aN w++[e.2.2.2]).length<=150
         simp only [bU0,bVo]
         omega
        ·rcases bUe.1 (show y∈aN w++[e.2.2.2] from hy) with hy | hy
         ·exact h.keep.bytes.fly y hy
         ·rw [bUd.1 hy];exact he.pk.2
       ·exact same
      ·split
       ·split
        ·rename_i f hi hf
         have hm:=bUi hf
         have h1:=aKn (t:=tFl) (y:=aF1 f e.2.2.1) hf
         have h5:=aEf w ((aD w).set e.2.1.toNat (aF1 f e.2.2.1))
         have h6:=eT w
         have hkp:=h.keep.tot
         have h2:tot tFl (aF1 f e.2.2.1)<=tot tFl f+4:=by
          unfold aF1
          split
          ·obtain ⟨a,b,c,d,ms,ps,cu,wa,rv⟩:=f
           show tot tFl (a,b,c,d,ms++[e.2.2.1],ps,cu,wa,rv)<=tot tFl (a,b,c,d,ms,ps,cu,wa,rv)+4
           rw [aEn,aEn,pU,aXg]
           have :=he.data.1
           omega
          ·omega
         refine qJ.mono (B:=B+4) (k:=k) (h.step (w':=eQ w ((aD w).set e.2.1.toNat (aF1 f e.2.2.1))) (cJ.flows w _) ⟨by omega,by show ((aD w).set _ _).length<=4;rw [bVu];exact h.keep.flows,⟨h.keep.bytes.fly,fun g hg m hmm=> ?_⟩⟩) (by omega) (by omega)
         rcases bWo (show g∈(aD w).set _ _ from hg) with hg | rfl
         ·exact h.keep.bytes.msg g hg m hmm
         ·unfold aF1 at hmm
          split at hmm
          ·rcases bUe.1 (show m∈f.2.2.2.2.1++[e.2.2.1] from hmm) with hmm | hmm
           ·exact h.keep.bytes.msg f hm m hmm
           ·rw [bUd.1 hmm];exact he.data.2
          ·exact h.keep.bytes.msg f hm m hmm
        ·exact same
       ·exact same


inductive Ran (v:den tNw):tG→den tNw→Prop
 | nil:Ran v [] v
 | snoc {l:tG} {w:den tNw} {e:den jL} (h:Ran v l w) (he:EvD w e):Ran v (l++[e]) (doW w e).2
theorem wN.gateOk {n:Nat} {v:den tNw} (h:wN n v):OkS (nG v) (aM v):=by
 have h1:=h.res
 rw [h.now,h.gate]
 exact ⟨by show (1:Int)<=12;decide,by show (20:Int)>=12;decide,h1,fun j x hx=>by simp at hx⟩

theorem wN.run {v:den tNw} (h:wN 3 v):qJ (nT v) 1000 0 v where
 keep:=⟨h.tot (by decide),bT7 h.len (by decide),⟨fun x hx=>(by rw [h.fly] at hx;cases hx),fun f hf m hm=>(h.flows f hf).bytes m hm⟩⟩
 top:=rfl
 gate:=h.gateOk
 lo:=by rw [h.now];decide
 hi:=by rw [h.now];decide
 fly:=fun x hx=>by rw [h.fly] at hx;cases hx
 flyN:=by rw [h.fly];exact bUt _

theorem Ran.run {v:den tNw} (hv:wN 3 v) {l:tG} {w:den tNw} (h:Ran v l w):l.length<=1000→qJ (nT v) (1000+2000 * l.length) l.length w:=by
 induction h with
 | nil=>intro _;exact hv.run
 | snoc h he ih=>
  intro hl
  simp only [bU0,bVo] at hl ⊢
  exact (aX8 (ih (by omega)) (by omega) hv.top.links he).mono (by omega) (by omega)

theorem qJ.netE {t:den tTo} {B k:Nat} {w:den tNw} (h:qJ t B k w) (hB:B<=536870912) (h1:1<=t.1.length) (h8:t.1.length<=8) (hl:t.2.length<=100):bIs w:=
 ⟨bT7 h.keep.tot hB,by rw [h.top];exact ⟨h1,h8⟩,by rw [h.top];exact hl,h.flyN,h.fly,h.keep.bytes.fly,h.keep.flows⟩

def bTq (v:den tNw) (l:tG) (w:den tNw) (c:List Int) (p h:Int):q15:=
 ((nG v).1,aM v,dB v,l,(nT w).1,(nT w).2,(nK w).1,(nK w).2,(nG w).1,(nG w).2.1,(nG w).2.2,aM w,aJ w,dB w,(nT v).1,(nT v).2,(nK v).1,(nK v).2,(nG v).2.1,(nG v).2.2,aJ v,aN v,aD v,bG v,aN w,aD w,bG w,c,p,h)

abbrev RnS:=Int×lAS×lLk×lSg×lSg×Int×lRs×lUs×Int×lI×Int×tG×lFy×lFl×lIb×lI×Int×Int

abbrev RnR:=lAS×lLk×lSg×lSg×Int×lRs×lUs×Int×lI×Int×tG×lFy×lFl×lIb×lI×Int×Int

def rnS (n:Nat) (l:tG) (w:den tNw) (c:List Int) (p h:Int):RnS:=((n:Int),(nT w).1,(nT w).2,(nK w).1,(nK w).2,(nG w).1,(nG w).2.1,(nG w).2.2,aM w,aJ w,dB w,l,aN w,aD w,bG w,c,p,h)

def bRd (code:List Int) (N:Nat) (o:Option q15):Prop:=
 ∃ v l w c' p' h',o=some (bTq v l w c' p' h')∧wN 3 v∧Ran v l w∧l.length<=N∧Cur code (c',p',h')

theorem bNl {code:List Int} (hl:code.length<=1048576) {most:Nat} (h0:0<most) (h1:most<=200) {c:List Int} {p h:Int} (hc:Cur code (c,p,h)):bRd code (3+most) (wY (c,p,h) (most:Int)):=by
 obtain ⟨v,c1,p1,h1',e1,hv,k1⟩:=bMj hl hc
 obtain ⟨v2,c2,p2,h2,e2,r2,k2⟩:=aH hl (n:=(most:Int)) (by omega) (by omega) k1
 obtain ⟨m2,rfl⟩:=bUu r2.1
 have w2:wr ((3:Int)+(m2:Int))=((m2+3:Nat):Int):=by rw [bK (by omega) (by omega)];omega
 have sw:SmB 68719476736 tNw v:=(bF (hv.tot (by decide))).mono (by decide)
 have e3:lZ (((xK v c1 p1 h1').2.2.2.1,(xK v c1 p1 h1').2.2.2.2.1),((xK v c1 p1 h1').2.2.2.2.2.1,(xK v c1 p1 h1').2.2.2.2.2.2.1),((xK v c1 p1 h1').1,(xK v c1 p1 h1').2.2.2.2.2.2.2.1,(xK v c1 p1 h1').2.2.2.2.2.2.2.2.1),(xK v c1 p1 h1').2.1,(xK v c1 p1 h1').2.2.2.2.2.2.2.2.2.1,(xK v c1 p1 h1').2.2.2.2.2.2.2.2.2.2.1,(xK v c1 p1 h1').2.2.2.2.2.2.2.2.2.2.2.1,(xK v c1 p1 h1').2.2.2.2.2.2.2.2.2.2.2.2.1,(xK v c1 p1 h1').2.2.1)=some (kI v):=aOs sw
 have e2:aB ((xK v c1 p1 h1').2.2.2.2.2.2.2.2.2.2.2.2.2.1,(xK v c1 p1 h1').2.2.2.2.2.2.2.2.2.2.2.2.2.2.1,(xK v c1 p1 h1').2.2.2.2.2.2.2.2.2.2.2.2.2.2.2) (most:Int)=some ((m2:Int),c2,p2,h2):=e2
 unfold wY bPv pj3 pj6 aG aU bC cU iE kZ qL xR yO yN aA4 zz4 zz5 zz6 zz7 zz8 zz9
 simp only [aP,bD,aW,aV,aX,e1,aA,e3,e2,w2]
 refine fY (G:=bRd code (3+most)) (fun (n:Nat) (s:RnS)=> ∃ l w c p h,s=rnS n l w c p h∧l.length+n<=3+most∧Ran v l w∧Cur code (c,p,h)) (fun r:RnR=> ∃ n l w c p h,r=(rnS n l w c p h).2∧l.length<=3+most∧Ran v l w∧Cur code (c,p,h)) ?_ (m2+3) (rnS (m2+3) [] v c2 p2 h2) ⟨[],v,c2,p2,h2,rfl,by simp only [bWe];omega,.nil,k2⟩ ?_
 ·rintro n s ⟨l,w,c3,p3,h3,rfl,hn,hr,k3⟩
  cases n with
  | zero=>exact .inl ⟨_,rfl,0,l,w,c3,p3,h3,rfl,by omega,hr,k3⟩
  | succ n=>
   right
   have hrun:=hr.run hv (by omega)
   have hE:=hrun.netE (by omega) hv.top.pos hv.top.len hv.top.links
   obtain ⟨e,c4,p4,h4,e4,he,k4⟩:=bIi hl hE k3
   have e5:=bTr (w:=w) (e:=e) (by decide) hrun.keep (by omega) (by
     have h8:=he.hi
     have h9: ¬ (e.1=(9:Int)):=fun h=>by rw [h] at h8;exact absurd h8 (by decide)
     exact beq_eq_false_iff_ne.2 h9) ⟨by have :=he.data.1;omega,fun x hx=>trivial⟩ (bT7 he.pk.1 (by decide))
   have wn:wr (((n+1:Nat):Int) - 1)=(n:Int):=by rw [bK (by omega) (by omega)];omega
   refine ⟨n,rnS n (l++[e]) (doW w e).2 c4 p4 h4,by omega,?_,l++[e],(doW w e).2,c4,p4,h4,rfl,by simp only [bU0,bVo];omega,hr.snoc he,k4⟩
   obtain ⟨⟨as,ls⟩,⟨dn,co⟩,⟨cap,res,us⟩,now,dead,fly,flows,box,drop⟩:=w
   obtain ⟨kd,en,data,to,ing,k1,k2,k3,k4,k5,k6,k7,k8,k9,k10⟩:=e
   show cond (decide (((n+1:Nat):Int)>(0:Int))) _ _=_
   rw [zX (show ((n+1:Nat):Int)>0 by omega),zZ]
   simp only [rnS,nT,nK,nG,aM,aJ,aN,aD,bG,dB,zZ,e4,aA,nxR,aE (b:=168) (n:=l.length) (m:=1) (by decide) (by omega),e5,cI,wn]
 ·rintro r ⟨n,l,w,c3,p3,h3,rfl,hn,hr,k3⟩
  exact ⟨v,l,w,c3,p3,h3,rfl,hv,hr,hn,k3⟩

theorem bGj {code:List Int} (hl:code.length<=1048576) {most:Nat} (h0:0<most) (h1:most<=200) {c:List Int} {p h:Int} (hc:Cur code (c,p,h)): ∃ v l w c' p' h',tT (c,p,h) (most:Int)=some ((nT w).1,(nT w).2,(nK w).1,(nK w).2,(nG w).1,(nG w).2.1,(nG w).2.2,aM w,aJ w,dB w,aN w,aD w,bG w,c',p',h')∧wN 3 v∧Ran v l w∧l.length<=3+most∧Cur code (c',p',h'):=by
 obtain ⟨v,l,w,c1,p1,h1,e1,hv,hr,hn,k1⟩:=bNl hl h0 h1 hc
 exact ⟨v,l,w,c1,p1,h1,by unfold tT pj3 pj6 aG aU bC cU aC2 zz4 zz5 zz6 zz7 zz8 zz9;rw [e1];rfl,hv,hr,hn,k1⟩

def hdS (l:dM):Option Int:=l.head?.map fun x=>(x.1:Int)

def ltS (l:dM):Option Int:=l.getLast?.map fun x=>(x.1:Int)

theorem aHi (l:dM) (x:den wS):ltS (l++[x])=some x.1:=by unfold ltS;rw [bWp];rfl

theorem aLz (l:dM) (x:den wS):hdS (l++[x])=if l=[] then some x.1 else hdS l:=by
 cases l with
 | nil=>rfl
 | cons y l=>rfl

theorem bOi (nf:Bool) (p:den tPp) (i:Nat) (h:den bZ) (out:dM):ltS (wK nf p i h out)=some h.1∧hdS (wK nf p i h out)=if out=[] then some h.1 else hdS out:=by
 unfold wK
 rcases lN out with rfl | ⟨m,z,rfl⟩
 ·exact ⟨rfl,rfl⟩
 ·rw [bWp]
  simp only
  split
  ·rename_i hc
   simp only [bT8,beq_iff_eq] at hc
   rw [bXd]
   refine ⟨aHi _ _,?_⟩
   have hne:m++[z]≠[]:=by simp
   rw [zS hne,aLz,aLz]
   by_cases hm:m=[]
   ·rw [zT hm,zT hm];exact congrArg some hc.2.2.symm
   ·rw [zS hm,zS hm]
  ·exact ⟨aHi _ _,by rw [aLz]⟩

theorem aPj (nf:Bool) (p:den tPp): ∀ (l:dA) (k:Nat) (a:dM),ltS (cM (fun i h b=>wK nf p i h b) k l a)=(if l=[] then ltS a else fU l)∧hdS (cM (fun i h b=>wK nf p i h b) k l a)=(if a=[] then nQ l else hdS a)
 | [],k,a=>by
  refine ⟨rfl,?_⟩
  show hdS a=_
  split
  ·rename_i h;rw [h];rfl
  ·rfl
 | x::l,k,a=>by
  obtain ⟨h1,h2⟩:=aPj nf p l (k+1) (wK nf p k x a)
  obtain ⟨g1,g2⟩:=bOi nf p k x a
  have hne:wK nf p k x a≠[]:=fun e=>by rw [e] at g1;cases g1
  rw [zS hne,g2] at h2
  refine ⟨?_,?_⟩
  ·show ltS (cM _ (k+1) l (wK nf p k x a))=_
   cases l with
   | nil=>
    show ltS (wK nf p k x a)=_
    rw [zS (List.cons_ne_nil _ _),g1];rfl
   | cons y l=>
    rw [h1,zS (List.cons_ne_nil _ _),zS (List.cons_ne_nil _ _)]
    unfold fU
    rw [List.getLast?_cons_cons]
  ·show hdS (cM _ (k+1) l (wK nf p k x a))=_
   rw [h2];rfl

theorem aVv: ∀ (p:lPp) (k:Nat) (a:dM),a≠[]→hdS (cM (fun k x a=>pY (decide (0<k)) x a) k p a)=hdS a∧(∀ b,aBl p=some b→ltS (cM (fun k x a=>pY (decide (0<k)) x a) k p a)=some b)
 | [],k,a,_=>⟨rfl,fun b h=>by cases h⟩
 | x::p,k,a,ha=>by
  obtain ⟨g1,g2⟩:=aPj (decide (0<k)) x x.2.2.2 0 a
  rw [zS ha] at g2
  have hne:pY (decide (0<k)) x a≠[]:=fun e=>by
   have g2:hdS (pY (decide (0<k)) x a)=hdS a:=g2
   rw [e] at g2
   cases a with
   | nil=>exact ha rfl
   | cons y l=>cases g2
  obtain ⟨h1,h2⟩:=aVv p (k+1) (pY (decide (0<k)) x a) hne
  refine ⟨h1.trans g2,fun b hb=> ?_⟩
  cases p with
  | nil=>
   have hb:fU x.2.2.2=some b:=hb
   show ltS (pY (decide (0<k)) x a)=some b
   have g1:ltS (pY (decide (0<k)) x a)=_:=g1
   rw [g1,zS (fun e=>by rw [e] at hb;cases hb),hb]
  | cons y p=>
   have hb:aBl (y::p)=some b:=by
    unfold aBl at hb ⊢
    rwa [List.getLast?_cons_cons] at hb
   exact h2 b hb

theorem aXq (l:dM):hdS (aFo l)=hdS l∧ltS (aFo l)=ltS l:=by
 unfold aFo
 cases l with
 | nil=>exact ⟨rfl,rfl⟩
 | cons x xs=>
  simp only
  rcases lN xs with rfl | ⟨m,z,rfl⟩
  ·exact ⟨rfl,rfl⟩
  ·have e:((x.1,(0:Int),x.2.2)::(m++[z]):dM)=((x.1,(0:Int),x.2.2)::m)++[z]:=rfl
   rw [e,bWp]
   simp only
   rw [bXd,aHi]
   refine ⟨rfl,?_⟩
   rw [show (x::(m++[z]):dM)=(x::m)++[z] from rfl,aHi]


theorem aYc {p:lPp} {a b:Int} (ha:aJe p=some a) (hb:aBl p=some b):ends p=(a,b):=by
 cases p with
 | nil=>cases ha
 | cons x p=>
  have ha:nQ x.2.2.2=some a:=ha
  obtain ⟨g1,g2⟩:=aPj false x x.2.2.2 0 []
  have g1:ltS (pY false x [])=_:=g1
  have g2:hdS (pY false x [])=nQ x.2.2.2:=g2
  have hne:pY false x []≠[]:=fun e=>by rw [e] at g2;rw [← g2] at ha;cases ha
  obtain ⟨h1,h2⟩:=aVv p 1 (pY false x []) hne
  have e0:yW (x::p)=cM (fun k x a=>pY (decide (0<k)) x a) 1 p (pY false x []):=rfl
  have f1:hdS (gO (x::p))=some a:=by
   unfold gO
   rw [(aXq _).1,e0,h1,g2,ha]
  have f2:ltS (gO (x::p))=some b:=by
   unfold gO
   rw [(aXq _).2,e0]
   cases p with
   | nil=>
    have hb:fU x.2.2.2=some b:=hb
    show ltS (pY false x [])=some b
    rw [g1,zS (fun e=>by rw [e] at hb;cases hb),hb]
   | cons y p=>
    have hb:aBl (y::p)=some b:=by
     unfold aBl at hb ⊢
     rwa [List.getLast?_cons_cons] at hb
    exact h2 b hb
  unfold ends
  unfold hdS at f1
  unfold ltS at f2
  obtain ⟨u,hu,eu⟩:=bUw.1 f1
  obtain ⟨v,hv,ev⟩:=bUw.1 f2
  rw [hu,hv]
  simp only
  rw [eu,ev]

theorem aRl (x:den tPp):nQ (vQ x).2.2.2=fU x.2.2.2∧fU (vQ x).2.2.2=nQ x.2.2.2:=by
 unfold vQ nQ fU
 simp only [List.head?_reverse,List.getLast?_reverse,and_self]

theorem aRr (p:lPp):aJe (aA9 p)=aBl p∧aBl (aA9 p)=aJe p:=by
 unfold aA9 aJe aBl
 rw [List.head?_map,List.getLast?_map,List.head?_reverse,List.getLast?_reverse]
 constructor
 ·cases p.getLast? with
  | none=>rfl
  | some x=>exact (aRl x).1
 ·cases p.head? with
  | none=>rfl
  | some x=>exact (aRl x).2

theorem aOv {α:Type} (p:α→α→Bool) (hp: ∀ x y,p x y=true→x=y): ∀ {a b:List α},a.length=b.length→aFm p a b=true→a=b
 | [],[],_,_=>rfl
 | [],_::_,h,_=>by simp at h
 | _::_,[],h,_=>by simp at h
 | x::a,y::b,h,e=>by
  simp only [aFm,bT8] at e
  rw [hp x y e.1,aOv p hp (by simpa using h) e.2]

theorem aX7 (b:Bool):cond b true false=b:=by cases b<;>rfl

theorem bJ9 {a b:dA} (h:aMr a b=true):a=b:=by
 unfold aMr at h
 by_cases hl:a.length=b.length
 ·rw [zX hl,bUc,zY,aX7] at h
  refine aOv _ (fun x y e=> ?_) hl h
  simp only [bT8,beq_iff_eq,and_true] at e
  obtain ⟨e1,e2,e3,e4,e5⟩:=e
  obtain ⟨x1,x2,x3,x4,x5⟩:=x
  obtain ⟨y1,y2,y3,y4,y5⟩:=y
  simp only at e1 e2 e3 e4 e5
  rw [e1,e2,e3,e4,e5]
 ·rw [zW hl] at h;cases h

theorem aUb {a b:Bool}:cond a b false=true↔a=true∧b=true:=by cases a<;>cases b<;>simp

theorem bC1 {a b:den tPp} (h:aCi a b=true):a=b:=by
 unfold aCi at h
 simp only [aUb,beq_iff_eq] at h
 obtain ⟨e1,e2,e3,e4⟩:=h
 have e4:=bJ9 e4
 obtain ⟨x1,x2,x3,x4⟩:=a
 obtain ⟨y1,y2,y3,y4⟩:=b
 simp only at e1 e2 e3 e4
 rw [e1,e2,e3,e4]

theorem bHn {a b:lPp} (h:aOg a b=true):a=b:=by
 unfold aOg at h
 by_cases hl:a.length=b.length
 ·rw [zX hl,bUc,zY,aX7] at h
  exact aOv _ (fun x y e=>bC1 e) hl h
 ·rw [zW hl] at h;cases h

theorem bJb {a b:den tPk} (ha:dE a) (hb:dE b) (h:zE a b=true):a=b:=by
 unfold zE at h
 simp only [aUb,beq_iff_eq] at h
 obtain ⟨e1,e2,e3,e4,e5,e6,e7,e8,e9,e10⟩:=h
 have e4:=bHn e4
 have e10:=(bFj ha hb).1 e10
 obtain ⟨x1,x2,x3,x4,x5,x6,x7,x8,x9,x10⟩:=a
 obtain ⟨y1,y2,y3,y4,y5,y6,y7,y8,y9,y10⟩:=b
 simp only at e1 e2 e3 e4 e5 e6 e7 e8 e9 e10
 rw [e1,e2,e3,e4,e5,e6,e7,e8,e9,e10]

theorem eqI {a b:Int} (h:a=b):a=b:=h

theorem ltI {a b:Int} (h:a<b):a<b:=h

theorem leI {a b:Int} (h:a<=b):a<=b:=h


structure yZ (t:den tTo) (f:den tFl) (x:den tIb):Prop where
 val:nV f=true
 src:eB t f.1=true
 dst:eB t f.2.1=true
 xAS:x.1=f.2.1
 xFrom:x.2.1=f.1
 next:x.2.2.1=(x.2.2.2.length:Int)
 recv:x.2.2.2=f.2.2.2.2.1.take x.2.2.2.length
 len:x.2.2.2.length<=f.2.2.2.2.1.length
 ack:f.2.2.2.1<=(x.2.2.2.length:Int)
 paths: ∀ p∈f.2.2.2.2.2.1,aJe p=some f.1∧aBl p=some f.2.1


def qT (w:den tNw) (p:den tPk):Prop:= ∀ (k:Nat) (f:den tFl) (x:den tIb),(aD w)[k]? =some f→(bG w)[k]? =some x→
 (p.1=(1:Int)→p.2.1=f.1→p.2.2.1=f.2.1→aJe p.2.2.2.1=some f.1∧aBl p.2.2.2.1=some f.2.1∧ ∃ s:Nat,p.2.2.2.2.2.2.2.2.1=(s:Int)∧f.2.2.2.2.1[s]? =some p.2.2.2.2.2.2.2.2.2)∧
 (p.1=(2:Int)→p.2.1=f.2.1→p.2.2.1=f.1→p.2.2.2.2.2.2.2.2.1<x.2.2.1)

def bHl (w:den tNw) (p:den tPk):Prop:=gM p=true→qT w p

structure eV (t:den tTo) (w:den tNw):Prop where
 top:nT w=t
 lenB:(bG w).length=(aD w).length
 flow: ∀ (k:Nat) (f:den tFl) (x:den tIb),(aD w)[k]? =some f→(bG w)[k]? =some x→yZ t f x
 uniq:(aD w).Pairwise fun f g=>aBy g f=false
 good: ∀ y∈aN w,bHl w y.2.2
 to: ∀ y∈aN w,eB t y.1=true


structure aMg (w w':den tNw):Prop where
 flow: ∀ (k:Nat) (f':den tFl),(aD w')[k]? =some f'→ ∃ f,(aD w)[k]? =some f∧f'.1=f.1∧f'.2.1=f.2.1∧ ∀ (s:Nat) (m:List Int),f.2.2.2.2.1[s]? =some m→f'.2.2.2.2.1[s]? =some m
 box: ∀ (k:Nat) (x':den tIb),(bG w')[k]? =some x'→ ∃ x,(bG w)[k]? =some x∧x.2.2.1<=x'.2.2.1

theorem aMg.refl (w:den tNw):aMg w w:=⟨fun k f h=>⟨f,h,rfl,rfl,fun _ _ h=>h⟩,fun k x h=>⟨x,h,bVy _⟩⟩

theorem qT.grow {w w':den tNw} {p:den tPk} (h:qT w p) (g:aMg w w'):qT w' p:=fun k f' x' hf hx=>by
 obtain ⟨f,hf0,e1,e2,e3⟩:=g.flow k f' hf
 obtain ⟨x,hx0,e4⟩:=g.box k x' hx
 obtain ⟨h1,h2⟩:=h k f x hf0 hx0
 rw [e1,e2]
 refine ⟨fun a b c=> ?_,fun a b c=>Int.lt_of_lt_of_le (h2 a b c) e4⟩
 obtain ⟨q1,q2,s,q3,q4⟩:=h1 a b c
 exact ⟨q1,q2,s,q3,e3 s _ q4⟩

theorem qT.goTo {w:den tNw} {p:den tPk} (h:qT w p) (i j b:Int):qT w (goTo p i j b):=h

theorem aJz {w:den tNw} {p:den tPk} (h:p.1=(3:Int)):qT w p:=fun k f x _ _=>⟨fun e=>absurd (h.symm.trans e) (by decide),fun e=>absurd (h.symm.trans e) (by decide)⟩


theorem eV.same {t:den tTo} {w w':den tNw} (h:eV t w) (e1:nT w'=nT w) (e2:aD w'=aD w) (e3:bG w'=bG w) (e4: ∀ y∈aN w',y∈aN w∨(qT w y.2.2∧eB t y.1=true)):eV t w':=by
 have g:aMg w w':=⟨fun k f h=>⟨f,by rw [← e2];exact h,rfl,rfl,fun _ _ h=>h⟩,fun k x h=>⟨x,by rw [← e3];exact h,bVy _⟩⟩
 refine ⟨e1.trans h.top,by rw [e2,e3];exact h.lenB,fun k f x hf hx=>h.flow k f x (by rw [← e2];exact hf) (by rw [← e3];exact hx),by rw [e2];exact h.uniq,fun y hy=> ?_,fun y hy=> ?_⟩
 ·rcases e4 y hy with hy | ⟨hy,_⟩
  ·exact fun hv=>(h.good y hy hv).grow g
  ·exact fun _=>hy.grow g
 ·rcases e4 y hy with hy | ⟨_,hy⟩
  ·exact h.to y hy
  ·exact hy

theorem eV.drop {t:den tTo} {w:den tNw} (h:eV t w):eV t (vW w):=h.same rfl rfl rfl fun y hy=> .inl hy


theorem eV.map {t:den tTo} {w:den tNw} (h:eV t w) {l:lFl} (hl:l.length=(aD w).length)
  (hm: ∀ (k:Nat) (f':den tFl),l[k]? =some f'→ ∃ f,(aD w)[k]? =some f∧f'.1=f.1∧f'.2.1=f.2.1∧(∀ (s:Nat) (m:List Int),f.2.2.2.2.1[s]? =some m→f'.2.2.2.2.1[s]? =some m)∧ ∀ x,(bG w)[k]? =some x→yZ t f x→yZ t f' x):eV t (eQ w l):=by
 have g:aMg w (eQ w l):=⟨fun k f' hf=>by
  obtain ⟨f,a,b,c,d,_⟩:=hm k f' hf
  exact ⟨f,a,b,c,d⟩,fun k x h=>⟨x,h,bVy _⟩⟩
 refine ⟨h.top,by show (bG w).length=l.length;rw [hl];exact h.lenB,fun k f' x hf hx=> ?_,?_,fun y hy hv=>(h.good y hy hv).grow g,h.to⟩
 ·obtain ⟨f,a,_,_,_,e⟩:=hm k f' hf
  exact e x hx (h.flow k f x a hx)
 ·show l.Pairwise _
  rw [bWq]
  intro i j hi hj hij
  obtain ⟨f,a,b,c,_⟩:=hm i l[i] (bT6 hi)
  obtain ⟨f',a',b',c',_⟩:=hm j l[j] (bT6 hj)
  obtain ⟨hi',ei⟩:=bUg.1 a
  obtain ⟨hj',ej⟩:=bUg.1 a'
  have :=(bWq.1 h.uniq) i j hi' hj' hij
  rw [ei,ej] at this
  unfold aBy at this ⊢
  rw [b,c,b',c']
  exact this


theorem eV.one {t:den tTo} {w:den tNw} (h:eV t w) {i j:Nat} {f g:den tFl} (hf:(aD w)[i]? =some f) (hg:(aD w)[j]? =some g) (e1:f.1=g.1) (e2:f.2.1=g.2.1):i=j:=by
 obtain ⟨hi,ei⟩:=bUg.1 hf
 obtain ⟨hj,ej⟩:=bUg.1 hg
 have hs: ∀ a b:den tFl,a.1=b.1→a.2.1=b.2.1→aBy b a=true:=fun a b x y=>by
  unfold aBy
  rw [x,y];simp
 rcases Nat.lt_trichotomy i j with c | c | c
 ·have :=(bWq.1 h.uniq) i j hi hj c
  rw [ei,ej,hs f g e1 e2] at this
  cases this
 ·exact c
 ·have :=(bWq.1 h.uniq) j i hj hi c
  rw [ei,ej,hs g f e1.symm e2.symm] at this
  cases this

theorem bAl {t:den tTo} {f:den tFl} {x:den tIb} {p:den tPk} (h:yZ t f x) (hp:aO3 f p=true→p.2.2.2.2.2.2.2.2.1<x.2.2.1):yZ t (tO f p) x:=by
 unfold tO
 split
 ·rename_i ha
  have hs:=hp ha
  unfold aO3 at ha
  simp only [bT8,beq_iff_eq] at ha
  obtain ⟨_,_,_,h4,h5⟩:=ha
  obtain ⟨h6,h7⟩:=bS.1 h5
  have hn:=h.next
  have hv:=(vR f).1 h.val
  have hm:f.2.2.2.2.1.length<=20:=hv.2.2.2.2.1
  have e:wr (f.2.2.2.1+1)=f.2.2.2.1+1:=bK (by omega) (by omega)
  rw [e]
  refine ⟨?_,h.src,h.dst,h.xAS,h.xFrom,h.next,h.recv,h.len,?_,h.paths⟩
  ·rw [vR]
   obtain ⟨q1,q2,q3,q4,q5,q6,q7,q8,q9,q10,q11,q12⟩:=hv
   exact ⟨q1,q2,q3,q4,q5,bS.2 ⟨by show (0:Int)<=f.2.2.2.1+1;omega,by show (f.2.2.2.2.1.length:Int)>=f.2.2.2.1+1;omega⟩,q7,q8,q9,q10,rfl,q12⟩
  ·have e1:f.2.2.2.1<x.2.2.1:=h4▸hs
   rw [hn] at e1
   exact Int.add_one_le_of_lt e1
 ·exact h

theorem bA4 {t:den tTo} {f:den tFl} {x:den tIb} {p:den tPk} (h:yZ t f x):yZ t (wQ f p) x:=by
 unfold wQ
 cases p.1==3&&(uY p.2.2.2.2.2.2.2.2.2).2.2.2 with
 | false=>exact h
 | true=>
  rw [zZ]
  have hv:=(vR f).1 h.val
  refine ⟨?_,h.src,h.dst,h.xAS,h.xFrom,h.next,h.recv,h.len,h.ack,h.paths⟩
  rw [vR]
  obtain ⟨q1,q2,q3,q4,q5,q6,q7,q8,q9,q10,q11,q12⟩:=hv
  obtain ⟨r1,r2⟩:=bGw (l:=f.2.2.2.2.2.2.2.2) (x:=yC p.2.2.2.2.2.2.2.2.2) ⟨q12,q9⟩
  refine ⟨q1,q2,q3,q4,q5,q6,q7,q8,r2,?_,?_,r1⟩
  ·show cond _ _ _=(0:Int)∨inR (cond _ _ _) 0 _=true
   cases aOy f (yC p.2.2.2.2.2.2.2.2.2) with
   | false=>exact q10
   | true=>exact aTn q7 q10
  ·show inR (cond _ _ _) 0 4=true
   cases aOy f (yC p.2.2.2.2.2.2.2.2.2) with
   | false=>exact q11
   | true=>rfl

theorem bCz (f:den tFl) (p:den tPk):(tO f p).1=f.1∧(tO f p).2.1=f.2.1∧(tO f p).2.2.2.2.1=f.2.2.2.2.1:=by
 unfold tO;split<;>exact ⟨rfl,rfl,rfl⟩

theorem bFk (f:den tFl) (p:den tPk):(wQ f p).1=f.1∧(wQ f p).2.1=f.2.1∧(wQ f p).2.2.2.2.1=f.2.2.2.2.1:=by
 unfold wQ;cases p.1==3&&(uY p.2.2.2.2.2.2.2.2.2).2.2.2<;>exact ⟨rfl,rfl,rfl⟩

theorem eV.tell {t:den tTo} {w:den tNw} {p:den tPk} (h:eV t w) (hg:qT w p) (r:Int):eV t (uQ w r p):=by
 refine h.map (by simp) fun k f' hf'=> ?_
 rw [bWm] at hf'
 obtain ⟨f,hf,rfl⟩:=bUw.1 hf'
 have ht:(qB r p f).1=f.1∧(qB r p f).2.1=f.2.1∧(qB r p f).2.2.2.2.1=f.2.2.2.2.1:=by
  unfold qB
  split
  ·split
   ·exact bCz f p
   ·exact bFk f p
  ·exact ⟨rfl,rfl,rfl⟩
 refine ⟨f,hf,ht.1,ht.2.1,fun s m hm=>by rw [ht.2.2];exact hm,fun x hx hfx=> ?_⟩
 unfold qB
 split
 ·split
  ·refine bAl hfx fun ha=> ?_
   unfold aO3 at ha
   simp only [bT8,beq_iff_eq] at ha
   exact (hg k f x hf hx).2 ha.1 ha.2.1 ha.2.2.1
  ·exact bA4 hfx
 ·exact hfx

theorem eV.send {t:den tTo} {w:den tNw} {p:den tPk} (h:eV t w) (hg:qT w p) {r eg:Int} (hr:eB t (remote t r eg).1=true):eV t (lM w r eg p):=by
 unfold lM
 split
 ·refine h.same rfl rfl rfl fun y hy=> ?_
  rcases bUe.1 (show y∈aN w++_ from hy) with hy | hy
  ·exact .inl hy
  ·have :y=_:=bUd.1 hy
   subst this
   exact .inr ⟨hg,by rw [h.top];exact hr⟩
 ·exact h.drop


theorem bAc {t:den tTo} {w:den tNw} {k:Nat} {f:den tFl} {x:den tIb} {p:den tPk} (hf:(aD w)[k]? =some f) (hx:(bG w)[k]? =some x) (hg:qT w p) (h:yZ t f x):yZ t f (eA x p)∧x.2.2.1<=(eA x p).2.2.1:=by
 unfold eA
 split
 ·rename_i ht
  unfold aR8 xX at ht
  simp only [bT8,beq_iff_eq,zR] at ht
  obtain ⟨⟨h1,h2,h3⟩,h4,h5⟩:=ht
  obtain ⟨_,_,s,g1,g2⟩:=(hg k f x hf hx).1 h1 (by rw [h2,h.xFrom]) (by rw [h3,h.xAS])
  have hn:=eqI h.next
  have h5:=ltI h5
  have h4':=eqI h4
  have g1':=eqI g1
  have hs:s=x.2.2.2.length:=by omega
  subst hs
  obtain ⟨hlt,he⟩:=bUg.1 g2
  have e:wr (x.2.2.1+1)=((x.2.2.2.length+1:Nat):Int):=by
   rw [hn];exact bE (by omega)
  rw [e]
  have ha:=leI h.ack
  refine ⟨⟨h.val,h.src,h.dst,h.xAS,h.xFrom,by show ((x.2.2.2.length+1:Nat):Int)=((x.2.2.2++[_]).length:Int);simp,?_,?_,?_,h.paths⟩,?_⟩
  ·show x.2.2.2++[p.2.2.2.2.2.2.2.2.2]=f.2.2.2.2.1.take (x.2.2.2++[p.2.2.2.2.2.2.2.2.2]).length
   rw [bU0,bVo,List.take_add_one,g2,← h.recv]
   rfl
  ·show (x.2.2.2++[p.2.2.2.2.2.2.2.2.2]).length<=_
   rw [bU0,bVo];omega
  ·refine leI (a:=f.2.2.2.1) (b:=((x.2.2.2++[p.2.2.2.2.2.2.2.2.2]).length:Int)) ?_
   rw [bU0,bVo];omega
  ·refine leI (a:=x.2.2.1) (b:=((x.2.2.2.length+1:Nat):Int)) ?_
   omega
 ·exact ⟨h,bVy _⟩

theorem eV.box {t:den tTo} {w:den tNw} {k:Nat} {x x':den tIb} (h:eV t w) (hx:(bG w)[k]? =some x) (hn:x.2.2.1<=x'.2.2.1) (hf: ∀ f,(aD w)[k]? =some f→yZ t f x'):eV t (qM w k x')∧aMg w (qM w k x'):=by
 have hk:k<(bG w).length:=(bUg.1 hx).1
 have g:aMg w (qM w k x'):=⟨fun k f h=>⟨f,h,rfl,rfl,fun _ _ h=>h⟩,fun j y hy=>by
  replace hy:((bG w).set k x')[j]? =some y:=hy
  rw [bWd] at hy
  split at hy
  ·rename_i e
   subst e
   try rw [zT hk] at hy
   injection hy with hy
   subst hy
   exact ⟨x,hx,hn⟩
  ·exact ⟨y,hy,bVy _⟩⟩
 refine ⟨⟨h.top,by show ((bG w).set k x').length=_;rw [bVu];exact h.lenB,fun j f y hf' hy=> ?_,h.uniq,fun y hy hv=>(h.good y hy hv).grow g,h.to⟩,g⟩
 replace hy:((bG w).set k x')[j]? =some y:=hy
 rw [bWd] at hy
 split at hy
 ·rename_i e
  subst e
  try rw [zT hk] at hy
  injection hy with hy
  subst hy
  exact hf f hf'
 ·exact h.flow j f y hf' hy


theorem bJf {t:den tTo} {w:den tNw} {k:Nat} {x:den tIb} {p:den tPk} (h:eV t w) (hk: ∃ f,(aD w)[k]? =some f) (hx:(bG w)[k]? =some x) (ha:aA6 x p=true) (hg:qT w p):qT w (mZ x p):=by
 obtain ⟨f,hf⟩:=hk
 have hfx:=h.flow k f x hf hx
 unfold aA6 xX at ha
 simp only [bT8,beq_iff_eq,bVf,decide_eq_false_iff_not] at ha
 obtain ⟨⟨h1,h2,h3⟩,h4⟩:=ha
 have e1:(p.2.1:Int)=f.1:=h2.trans hfx.xFrom
 have e2:(p.2.2.1:Int)=f.2.1:=h3.trans hfx.xAS
 obtain ⟨p1,p2,_⟩:=(hg k f x hf hx).1 h1 e1 e2
 have he:ends (aA9 p.2.2.2.1)=(f.2.1,f.1):=aYc ((aRr _).1.trans p2) ((aRr _).2.trans p1)
 have hm:mZ x p=aC6 2 (aA9 p.2.2.2.1) p.2.2.2.2.2.2.2.1 p.2.2.2.2.2.2.2.2.1 []:=by
  unfold mZ
  rw [zT (by
   unfold aA6 xX
   simp only [bT8,beq_iff_eq,bVf,decide_eq_false_iff_not]
   exact ⟨⟨h1,h2,h3⟩,h4⟩)]
  rfl
 intro j g y hg' hy
 refine ⟨fun e=> ?_,fun _ a b=> ?_⟩
 ·rw [hm] at e;exact absurd e (show ¬ ((2:Int)=1) by decide)
 ·rw [hm] at a b ⊢
  have a:(ends (aA9 p.2.2.2.1)).1=g.2.1:=a
  have b:(ends (aA9 p.2.2.2.1)).2=g.1:=b
  rw [he] at a b
  have hj:k=j:=h.one hf hg' b a
  subst hj
  have :some x=some y:=hx.symm.trans hy
  injection this with this
  subst this
  exact Int.not_le.1 h4

theorem aQj {t:den tTo} {p:den tPt} (h:wfP t p=true) {k:Nat} {x:den tPp} (hx:p[k]? =some x):pZ t x=true∧(k=0∨aKj ((p[k - 1]?).getD pt0) x=true):=by
 unfold wfP at h
 rw [bT8] at h
 have :=(aDl (vY t p) p).1 h.2 k x hx
 unfold vY at this
 rw [bT8,bVp,zR] at this
 exact this

theorem bI1 {t:den tTo} {x:den tPp} (h:pZ t x=true) {k:Nat} {y:den bZ} (hy:x.2.2.2[k]? =some y):eB t y.1=true∧(k=0∨aIa t x ((x.2.2.2[k - 1]?).getD h0) y=true):=by
 unfold pZ at h
 simp only [bT8] at h
 obtain ⟨_,_,_,_,h5,h6⟩:=h
 have a:=(aDl (aCy t x.2.2.2) x.2.2.2).1 h5 k y hy
 have b:=(aDl (vU t x) x.2.2.2).1 h6 k y hy
 unfold aCy at a
 unfold vU at b
 simp only [bT8] at a
 rw [bVp,zR] at b
 exact ⟨a.2.1,b⟩

theorem aVu {t:den tTo} {x:den tPp} (h:pZ t x=true):0<x.2.2.2.length:=by
 unfold pZ at h
 rw [bT8] at h
 have :=(bS.1 h.1).1
 omega

theorem bPa {t:den tTo} {p:den tPk} (hw:wfP t p.2.2.2.1=true) (hh:cB p=true) (hz:0<=cK p) (hl:dN p=true) (ha:fT p=false):cK (adv p)=cK p∧(adv p).2.2.2.2.1=p.2.2.2.2.1+1∧(adv p).2.2.2.1=p.2.2.2.1:=by
 obtain ⟨i,e1,e2⟩:=aO9 hh hz hl ha
 obtain ⟨i',j,f1,f2,f3,f4,f5⟩:=gL hh
 have f1':=eqI f1
 have :i'=i:=by have :=eqI (f1.symm.trans e1);omega
 subst this
 have e:adv p=goTo p (p.2.2.2.2.1+1) 0 (qO p).2.2.1:=by
  unfold adv
  rw [ha,hl,zW (show ¬ cK p<0 by omega)]
  rfl
 rw [e]
 refine ⟨?_,rfl,rfl⟩
 obtain ⟨v1,v2⟩:=aQj hw e2
 obtain ⟨u1,_⟩:=aQj hw f3
 have hj:aKj (bN p) (qO p)=true:=by
  rcases v2 with v2 | v2
  ·omega
  ·rw [show i'+1 - 1=i' by omega,f3] at v2
   exact v2
 unfold aKj at hj
 rw [bT8,beq_iff_eq] at hj
 have hp:=aVu v1
 have hq:=aVu u1
 have hhd:(qO p).2.2.2[0]? =some (aFc (qO p)):=by
  unfold aFc
  rw [bT6 hp];rfl
 have hjl:j=(bN p).2.2.2.length - 1:=by
  unfold dN at hl
  rw [beq_iff_eq,f2] at hl
  have hl:=eqI hl
  omega
 have hlt:aGx (bN p)=cV p:=by
  unfold aGx
  rw [← hjl,f4];rfl
 have hn:cB (goTo p (p.2.2.2.2.1+1) 0 (qO p).2.2.1)=true∧bN (goTo p (p.2.2.2.2.1+1) 0 (qO p).2.2.1)=qO p∧cV (goTo p (p.2.2.2.2.1+1) 0 (qO p).2.2.1)=aFc (qO p):=by
  have en:(p.2.2.2.2.1+1).toNat=i'+1:=by rw [f1];omega
  have a:bN (goTo p (p.2.2.2.2.1+1) 0 (qO p).2.2.1)=qO p:=by
   show (p.2.2.2.1[(p.2.2.2.2.1+1).toNat]?).getD pt0=_
   rw [en,e2];rfl
  refine ⟨?_,a,?_⟩
  ·have hlen:=(bUg.1 e2).1
   show (inR (p.2.2.2.2.1+1) 0 ((p.2.2.2.1.length:Int) - 1)&&inR (0:Int) 0 (((((p.2.2.2.1[(p.2.2.2.2.1+1).toNat]?).getD (0,0,0,[])).2.2.2.length:Nat):Int) - 1))=true
   rw [en,e2,f1,bT8]
   refine ⟨bS.2 ⟨by omega,by omega⟩,bS.2 ⟨by omega,?_⟩⟩
   show (0:Int)<=((qO p).2.2.2.length:Int) - 1
   omega
  ·unfold cV
   rw [a]
   show ((qO p).2.2.2[(0:Int).toNat]?).getD h0=_
   rw [show (0:Int).toNat=0 from rfl,hhd];rfl
 obtain ⟨_,_,_,_,_,_,g⟩:=gL hn.1
 rw [g,hn.2.2,← hj.2,hlt,← f5]

theorem aT8 {t:den tTo} {now:Int}: ∀ (n:Nat) (p:den tPk),wfP t p.2.2.2.1=true→p.2.2.2.2.1+(n:Int)=(p.2.2.2.1.length:Int)→(goC t now n p).1=0→(dN (goC t now n p).2=false∨fT (goC t now n p).2=true)∧cK (goC t now n p).2=cK p∧(goC t now n p).2.2.2.2.1=p.2.2.2.1
 | 0,p,hw,hn,h=>by
  exfalso
  obtain ⟨h1,h2⟩:=xT (show dF t now p=0 from h)
  obtain ⟨i,j,f1,_,f3,_⟩:=gL h1
  have :=(bUg.1 f3).1
  have hn:=eqI hn
  have f1:=eqI f1
  omega
 | n+1,p,hw,hn,h=>by
  have hc0:=aJ2 h
  obtain ⟨h1,h2⟩:=xT hc0
  obtain ⟨s1,s2,_,_,s5,s6⟩:=(rJ t p).cur
  have sp:(bA t p).2.2.2.1=p.2.2.2.1:=(rJ t p).1
  have si:(bA t p).2.2.2.2.1=p.2.2.2.2.1:=(rJ t p).2.1
  unfold goC at h ⊢
  split at h
  ·rename_i hc
   rw [zT hc]
   simp only [bT8,bVf] at hc
   obtain ⟨a1,a2,a3⟩:=bPa (t:=t) (p:=bA t p) (by rw [sp];exact hw) (s1.trans h1) (by rw [s2];exact h2) hc.2.1 hc.2.2
   obtain ⟨b1,b2,b3⟩:=aT8 n (adv (bA t p)) (by rw [a3,sp];exact hw) (by rw [a2,a3,si,sp];refine eqI ?_;have hn:=eqI hn;omega) h
   exact ⟨b1,b2.trans (a1.trans s2),b3.trans (a3.trans sp)⟩
  ·rename_i hc
   rw [zS hc]
   refine ⟨?_,s2,sp⟩
   rw [hc0] at hc
   show dN (bA t p)=false∨fT (bA t p)=true
   cases hl:dN (bA t p) with
   | false=>exact .inl rfl
   | true=>
    right
    rw [hl] at hc
    simpa using hc


theorem aQo {t:den tTo} {now:Int} {dead:List Int} {r inn:Int} {p:den tPk} (h:((bL t now dead r inn p).1==0)=true):eB t (remote t r (bL t now dead r inn p).2.1).1=true:=by
 have h:(fwd t r now (oE t dead r) inn p).1=0:=eq_of_beq (show ((fwd t r now (oE t dead r) inn p).1==0)=true from h)
 unfold bL
 unfold fwd at h ⊢
 split at h
 ·exact absurd h (show ¬ ((2:Int)=0) by decide)
 rename_i c1
 rw [zS c1]
 split at h
 ·exact absurd h (show ¬ ((3:Int)=0) by decide)
 rename_i c2
 rw [zS c2]
 split at h
 ·rename_i c3;simp only [bVf,beq_eq_false_iff_ne] at c3;exact absurd h c3
 rename_i c3
 rw [zS c3]
 split at h
 ·split at h<;>first | exact absurd h (show ¬ ((1:Int)=0) by decide) | exact absurd h (show ¬ ((2:Int)=0) by decide)
 rename_i c4
 rw [zS c4]
 split at h
 ·exact absurd h (show ¬ ((6:Int)=0) by decide)
 rename_i c5
 rw [zS c5]
 split at h
 ·exact absurd h (show ¬ ((7:Int)=0) by decide)
 rename_i c6
 rw [zS c6]
 simp only [bVp,bVf,not_or,Bool.not_eq_false,beq_iff_eq] at c1 c3 c4
 obtain ⟨v1,v2,v3⟩:=c1
 have hw:wfP t p.2.2.2.1=true:=by
  unfold wF at v2
  rw [bT8] at v2
  exact v2.1
 have hh:cB p=true:=by
  unfold gM at v1
  simp only [bT8] at v1
  exact v1.2.2.1
 obtain ⟨i,j,f1,_,f3,_⟩:=gL hh
 have hlen:=(bUg.1 f3).1
 obtain ⟨b1,b2,b3⟩:=aT8 (t:=t) (now:=now) (p.2.2.2.1.length - p.2.2.2.2.1.toNat) p hw (by rw [f1,bUf];refine eqI ?_;omega) c3
 obtain ⟨q1,q2,_⟩:=aDk (t:=t) (now:=now) (p.2.2.2.1.length - p.2.2.2.2.1.toNat) p c3
 show eB t (remote t r (pEg (bN (bP t now p).2) (cV (bP t now p).2))).1=true
 have e:bP t now p=goC t now (p.2.2.2.1.length - p.2.2.2.2.1.toNat) p:=rfl
 have c4:fT (bP t now p).2=false:=by simpa using c4
 rw [← e] at b1 b2 b3 q1 q2
 generalize (bP t now p).2=q at *
 have hl:dN q=false:=b1.elim id fun h=>by rw [c4] at h;cases h
 obtain ⟨a,b,g1,g2,g3,g4,g5⟩:=gL q1
 have b3:(q.2.2.2.1:lPp)=p.2.2.2.1:=b3
 have g3':(p.2.2.2.1:lPp)[a]? =some (bN q):=by rw [← b3];exact g3
 obtain ⟨w1,_⟩:=aQj hw g3'
 have hb:=(bUg.1 g4).1
 have hb2:b+1<(bN q).2.2.2.length:=by
  unfold dN at hl
  rw [g2,beq_eq_false_iff_ne] at hl
  have hl: ¬ ((b:Int)=((bN q).2.2.2.length:Int) - 1):=hl
  omega
 obtain ⟨y1,y2⟩:=bI1 w1 (bT6 hb2)
 rcases y2 with y2 | y2
 ·omega
 ·rw [show b+1 - 1=b by omega,g4] at y2
  unfold aIa at y2
  simp only [bT8,beq_iff_eq,bU3] at y2
  have er:r=(cV q).1:=by
   have :=v3
   rw [← g5,b2]
   exact this.symm
  rw [er,y2.2.1]
  exact y1

theorem aA7 {w:den tNw} {t:den tTo} {now:Int} {dead:List Int} {r inn:Int} {p:den tPk} (h:qT w p):qT w (bL t now dead r inn p).2.2.1:=by
 obtain ⟨i,j,b,e⟩:=aHg t r now (oE t dead r) inn p
 unfold bL
 rw [e]
 exact h.goTo i j b

theorem aQ1 {t:den tTo} {w:den tNw} {r inn:Int} {p:den tPk} (h:eV t w) (hg:qT w p):eV t (proc0 w r inn p):=by
 unfold proc0
 split
 ·rename_i hc
  exact h.send (aA7 hg) (by rw [← h.top];exact aQo hc)
 ·split
  ·exact h.tell (aA7 hg) r
  ·exact h.drop

theorem bFr {t:den tTo} {w:den tNw} {r:Int} {p:den tPk} (h:eV t w) (hg:qT w p):eV t (xV w r p):=by
 unfold xV
 split
 ·exact h
 ·rename_i hc
  rcases aGn (bG w) r p.2.1 with hf | ⟨k,x,hf,hx⟩
  ·rw [hf] at hc;exact absurd (by decide) hc
  ·have hba:wP w k=x:=by unfold wP;rw [hx];rfl
   rw [hf,bUf,hba]
   have hk:=(bUg.1 hx).1
   have hkf:k<(aD w).length:=by rw [← h.lenB];exact hk
   have hfl:(aD w)[k]? =some (aD w)[k]:=bT6 hkf
   obtain ⟨d1,d2⟩:=bAc hfl hx hg (h.flow k _ x hfl hx)
   obtain ⟨b1,b2⟩:=h.box hx d2 (fun f hf'=>by
    have :some f=some (aD w)[k]:=hf'.symm.trans hfl
    injection this with this
    rw [this];exact d1)
   split
   ·rename_i ha
    refine aQ1 b1 (bJf b1 ⟨_,hfl⟩ ?_ ha (hg.grow b2))
    show ((bG w).set k (eA x p))[k]? =_
    rw [bW2 hk]
   ·exact b1

theorem aQ2 {t:den tTo} {w:den tNw} {r inn:Int} {p:den tPk} (h:eV t w) (hg:bHl w p):eV t (bX w r inn p):=by
 cases hv:gM p with
 | false=>rw [aRf hv];exact h.drop
 | true=>
  have hg:=hg hv
  unfold bX
  split
  ·rename_i hc
   exact h.send (aA7 hg) (by rw [← h.top];exact aQo hc)
  ·split
   ·split
    ·exact bFr h (aA7 hg)
    ·exact h.tell (aA7 hg) r
   ·split
    ·unfold aAs
     split
     ·exact (aQ1 h (aJz rfl)).drop
     ·exact (h.tell (aJz rfl) r).drop
    ·exact h.drop

theorem bEp (f:den tFl): ∃ c wt:Int,(aT f).1=pV f c wt∧((aT f).2.2=true→(aT f).2.1=yK (pV f c wt)∧aA0 (pV f c wt)=true):=by
 unfold aT
 split
 ·rename_i hs
  split
  ·exact ⟨_,_,rfl,fun _=>⟨rfl,hs⟩⟩
  ·split
   ·exact ⟨_,_,rfl,fun h=>⟨rfl,h⟩⟩
   ·exact ⟨_,_,rfl,fun h=>by cases h⟩
 ·exact ⟨_,_,rfl,fun h=>by cases h⟩


theorem eV.set {t:den tTo} {w:den tNw} (h:eV t w) {k:Nat} {f g:den tFl} (hf:(aD w)[k]? =some f) (e1:g.1=f.1) (e2:g.2.1=f.2.1) (e3: ∀ (s:Nat) (m:List Int),f.2.2.2.2.1[s]? =some m→g.2.2.2.2.1[s]? =some m) (e4: ∀ x,yZ t f x→yZ t g x):eV t (eQ w ((aD w).set k g)):=by
 refine h.map (by simp) fun j f' hf'=> ?_
 rw [bWd] at hf'
 split at hf'
 ·rename_i e
  subst e
  rw [zT (bUg.1 hf).1] at hf'
  injection hf' with hf'
  subst hf'
  exact ⟨f,hf,e1,e2,e3,fun x _=>e4 x⟩
 ·exact ⟨f',hf',rfl,rfl,fun _ _ h=>h,fun x _ h=>h⟩

theorem bFq {t:den tTo} {w:den tNw} {k:Nat} {g:den tFl} (h:eV t w) (hg:(aD w)[k]? =some g) (hs:aA0 g=true):qT w (yK g):=by
 have hk:k<(bG w).length:=by rw [h.lenB];exact (bUg.1 hg).1
 have hfi:=h.flow k g _ hg (bT6 hk)
 have hs':=hs
 unfold aA0 at hs'
 rw [bT8] at hs'
 obtain ⟨a0,a1⟩:=bS.1 hs'.1
 obtain ⟨b0,b1⟩:=bS.1 hs'.2
 have hc:g.2.2.2.2.2.2.1.toNat<g.2.2.2.2.2.1.length:=by omega
 have ha:g.2.2.2.1.toNat<g.2.2.2.2.1.length:=by omega
 have hpth:g.2.2.2.2.2.1[g.2.2.2.2.2.2.1.toNat]? =some (g.2.2.2.2.2.1[g.2.2.2.2.2.2.1.toNat]'hc):=bT6 hc
 have hmsg:g.2.2.2.2.1[g.2.2.2.1.toNat]? =some (g.2.2.2.2.1[g.2.2.2.1.toNat]'ha):=bT6 ha
 obtain ⟨p1,p2⟩:=hfi.paths _ (bUi hpth)
 have he:=aYc p1 p2
 have e:yK g=aC6 1 (g.2.2.2.2.2.1[g.2.2.2.2.2.2.1.toNat]'hc) g.2.2.1 g.2.2.2.1 (g.2.2.2.2.1[g.2.2.2.1.toNat]'ha):=by
  unfold yK
  rw [zT hs,hpth,hmsg];rfl
 rw [e]
 intro j f x hf hx
 refine ⟨fun _ a b=> ?_,fun a=>absurd a (show ¬ ((1:Int)=2) by decide)⟩
 have a:(ends (g.2.2.2.2.2.1[g.2.2.2.2.2.2.1.toNat]'hc)).1=f.1:=a
 have b:(ends (g.2.2.2.2.2.1[g.2.2.2.2.2.2.1.toNat]'hc)).2=f.2.1:=b
 rw [he] at a b
 have hj:k=j:=h.one hg hf a b
 subst hj
 have :some g=some f:=hg.symm.trans hf
 injection this with this
 subst this
 exact ⟨p1,p2,g.2.2.2.1.toNat,(Int.toNat_of_nonneg b0).symm,hmsg⟩

theorem bFd {t:den tTo} {w:den tNw} (k:Nat) (h:eV t w):eV t (stepT k w):=by
 unfold stepT
 split
 ·rename_i f hf
  obtain ⟨c,wt,e1,e2⟩:=bEp f
  have hset:eV t (eQ w ((aD w).set k (aT f).1)):=by
   refine h.set hf (by rw [e1];rfl) (by rw [e1];rfl) (fun s m hm=>by rw [e1];exact hm) fun x hx=> ?_
   have hv:=bFz hx.val
   rw [e1] at hv ⊢
   exact ⟨hv,hx.src,hx.dst,hx.xAS,hx.xFrom,hx.next,hx.recv,hx.len,hx.ack,hx.paths⟩
  split
  ·rename_i hb
   obtain ⟨g1,g2⟩:=e2 hb
   rw [← e1] at g1 g2
   refine aQ2 hset fun _=> ?_
   rw [g1]
   refine bFq hset (k:=k) ?_ g2
   show ((aD w).set k _)[k]? =_
   rw [bW2 (bUg.1 hf).1]
  ·exact hset
 ·exact h

theorem aQ4 {t:den tTo}: ∀ (n k:Nat) {w:den tNw},eV t w→eV t (tickL k n w)
 | 0,_,_,h=>h
 | n+1,k,_,h=>aQ4 n (k+1) (bFd k h)

theorem bC9 {t:den tTo} {w:den tNw} (h:eV t w):eV t (wT w):=by
 unfold wT
 split
 ·exact h
 ·exact aQ4 _ _ (h.same (w':=aHa w) rfl rfl rfl fun y hy=> .inl hy)

theorem bMx {t:den tTo} {w:den tNw} {k:Nat} {f:den tFl} {b:List Int} (h:eV t w) (hf:(aD w)[k]? =some f):eV t (eQ w ((aD w).set k (aF1 f b))):=by
 unfold aF1
 split
 ·rename_i hv
  refine h.set hf rfl rfl (fun s m hm=> ?_) fun x hx=> ?_
  ·show (f.2.2.2.2.1++[b])[s]? =some m
   rw [bW5 (bUg.1 hm).1];exact hm
  ·refine ⟨hv,hx.src,hx.dst,hx.xAS,hx.xFrom,hx.next,?_,?_,hx.ack,hx.paths⟩
   ·show x.2.2.2=(f.2.2.2.2.1++[b]).take _
    rw [List.take_append_of_le_length hx.len];exact hx.recv
   ·show x.2.2.2.length<=(f.2.2.2.2.1++[b]).length
    have :=hx.len
    rw [bU0];omega
 ·exact h.set hf rfl rfl (fun _ _ h=>h) fun _ h=>h

theorem bFo {t:den tTo} {w:den tNw} {e:den jL} (h:eV t w) (hb: ∀ x∈aN w,dE x.2.2) (hp:dE e.2.2.2.2.2) (h7:(e.1==(7:Int))=true) (hh:harm w e=true):bHl w e.2.2.2.2.2:=by
 intro hv
 unfold harm sM at hh
 rw [h7,hv] at hh
 cases h3:(e.2.2.2.2.2.1==(3:Int)) with
 | true=>exact aJz (eq_of_beq h3)
 | false=>
  rw [h3] at hh
  simp only [bUc,bV0,zY] at hh
  cases ha:w.2.2.2.2.2.1.all (fun x=> !zE x.2.2 e.2.2.2.2.2) with
  | true=>
   rw [ha,zZ,bUx] at hh
   intro k f x hf hx
   have :=hh f (bUi hf)
   unfold yI at this
   refine ⟨fun _ a b=> ?_,fun _ a b=> ?_⟩
   ·rw [a,b] at this;simp at this
   ·rw [a,b] at this;simp at this
  | false=>
   rw [List.all_eq_false] at ha
   obtain ⟨x,hx,he⟩:=ha
   have hx:x∈aN w:=hx
   have he:zE x.2.2 e.2.2.2.2.2=true:=by simpa using he
   have :=bJb (hb x hx) hp he
   rw [← this]
   exact h.good x hx (by rw [this];exact hv)


theorem bNf {t:den tTo} {w:den tNw} {e:den jL} (h:eV t w) (hb: ∀ x∈aN w,dE x.2.2) (hp:dE e.2.2.2.2.2) (hh:harm w e=true):eV t (doW w e).2:=by
 have bP: ∀ i,eV t (aA1 w i):=fun i=>h.same (w':=aA1 w i) rfl rfl rfl fun y hy=> .inl (by
  rcases bUe.1 (show y∈(aN w).take i++(aN w).drop (i+1) from hy) with hy | hy
  ·exact bVs hy
  ·exact bVr hy)
 unfold doW
 split
 ·exact bC9 h
 ·split
  ·split
   ·rename_i x hi hx
    exact aQ2 (bP _) (h.good x (bUi hx))
   ·exact h
  ·split
   ·split
    ·exact (bP _).drop
    ·exact h
   ·split
    ·split
     ·rename_i x hi hx
      have hm:=bUi hx
      refine ⟨h.top,h.lenB,h.flow,h.uniq,fun y hy=> ?_,fun y hy=> ?_⟩
      ·rcases bUe.1 (show y∈aN w++[x] from hy) with hy | hy
       ·exact h.good y hy
       ·rw [bUd.1 hy];exact h.good x hm
      ·rcases bUe.1 (show y∈aN w++[x] from hy) with hy | hy
       ·exact h.to y hy
       ·rw [bUd.1 hy];exact h.to x hm
     ·exact h
    ·split
     ·show eV t (aBa w e.2.1 (e.1==5))
      unfold aBa
      split
      ·exact h
      ·exact h.same rfl rfl rfl fun y hy=> .inl hy
     ·split
      ·rename_i h7
       split
       ·rename_i hc
        rw [bT8] at hc
        have hgd:=bFo h hb hp h7 hh
        refine ⟨h.top,h.lenB,h.flow,h.uniq,fun y hy=> ?_,fun y hy=> ?_⟩
        ·rcases bUe.1 (show y∈aN w++[e.2.2.2] from hy) with hy | hy
         ·exact h.good y hy
         ·rw [bUd.1 hy];exact hgd
        ·rcases bUe.1 (show y∈aN w++[e.2.2.2] from hy) with hy | hy
         ·exact h.to y hy
         ·rw [bUd.1 hy,← h.top];exact hc.1
       ·exact h
      ·split
       ·split
        ·rename_i f hi hf
         exact bMx h hf
        ·exact h
       ·exact h

def cG (n:Nat) (w:den tNw):Prop:=(0:Int)<=dB w∧(n:Int)>=dB w

theorem cG.mono {n m:Nat} {w:den tNw} (h:cG n w) (hm:n<=m):cG m w:=⟨h.1,by have :=h.2;omega⟩

theorem cG.eq {n:Nat} {w w':den tNw} (h:cG n w) (e:dB w'=dB w):cG n w':=by
 unfold cG
 rw [e]
 exact h

theorem cG.drop {n:Nat} {w:den tNw} (h:cG n w) (hn:n<=1000000):cG (n+1) (vW w):=by
 obtain ⟨h0,h1⟩:=h
 have e:wr (dB w+1)=dB w+1:=bK (by omega) (by omega)
 exact ⟨by show (0:Int)<=wr (dB w+1);omega,by show ((n+1:Nat):Int)>=wr (dB w+1);omega⟩

theorem cG.send {n:Nat} {w:den tNw} (h:cG n w) (hn:n<=1000000) (r eg:Int) (p:den tPk):cG (n+1) (lM w r eg p):=by
 unfold lM
 split
 ·exact h.mono (Nat.le_succ _)
 ·exact h.drop hn

theorem cG.proc0 {n:Nat} {w:den tNw} (h:cG n w) (hn:n<=1000000) (r inn:Int) (p:den tPk):cG (n+1) (proc0 w r inn p):=by
 unfold Go.Proofs.YtecighmpdcffcaaGreat.proc0
 split
 ·exact h.send hn _ _ _
 ·split
  ·exact cG.mono (n:=n) (h.eq rfl) (Nat.le_succ _)
  ·exact h.drop hn

theorem cG.proc {n:Nat} {w:den tNw} (h:cG n w) (hn:n<=999999) (r inn:Int) (p:den tPk):cG (n+2) (bX w r inn p):=by
 unfold bX
 split
 ·exact (h.send (by omega) _ _ _).mono (by omega)
 ·split
  ·split
   ·unfold xV
    split
    ·exact h.mono (by omega)
    ·split
     ·refine cG.mono (n:=n+1) (cG.proc0 (n:=n) ?_ (by omega) _ _ _) (by omega)
      exact cG.eq h rfl
     ·exact cG.mono (n:=n) (h.eq rfl) (by omega)
   ·exact cG.mono (n:=n) (h.eq rfl) (by omega)
  ·split
   ·unfold aAs
    split
    ·exact (h.proc0 (by omega) _ _ _).drop (by omega)
    ·refine cG.mono (n:=n+1) (cG.drop (n:=n) ?_ (by omega)) (by omega)
     exact cG.eq h rfl
   ·exact (h.drop (by omega)).mono (by omega)

theorem cG.stepT {n:Nat} {w:den tNw} (h:cG n w) (hn:n<=999999) (k:Nat):cG (n+2) (stepT k w):=by
 unfold Go.Proofs.YtecighmpdcffcaaGreat.stepT
 split
 ·split
  ·refine cG.proc (n:=n) ?_ hn _ _ _
   exact cG.eq h rfl
  ·exact cG.mono (n:=n) (h.eq rfl) (by omega)
 ·exact h.mono (by omega)

theorem cG.tickL {m:Nat}: ∀ (m k:Nat) {n:Nat} {w:den tNw},cG n w→n+2 * m<=999999→cG (n+2 * m) (tickL k m w)
 | 0,_,_,_,h,_=>h
 | m+1,k,n,w,h,hn=>by
  unfold Go.Proofs.YtecighmpdcffcaaGreat.tickL
  exact (cG.tickL (m:=0) m (k+1) (h.stepT (by omega) k) (by omega)).mono (by omega)

theorem cG.event {n:Nat} {w:den tNw} {e:den jL} (h:cG n w) (hf:(aD w).length<=4) (hn:n<=900000):cG (n+8) (doW w e).2:=by
 have same:cG (n+8) w:=h.mono (by omega)
 unfold doW
 split
 ·show cG (n+8) (wT w)
  unfold wT
  split
  ·exact same
  ·refine cG.mono (n:=n+2 * (aD w).length) (cG.tickL (m:=0) (aD w).length 0 (n:=n) ?_ (by omega)) (by omega)
   exact cG.eq h rfl
 ·split
  ·split
   ·refine cG.mono (n:=n+2) (cG.proc (n:=n) ?_ (by omega) _ _ _) (by omega)
    exact cG.eq h rfl
   ·exact same
  ·split
   ·split
    ·refine cG.mono (n:=n+1) (cG.drop (n:=n) ?_ (by omega)) (by omega)
     exact cG.eq h rfl
    ·exact same
   ·split
    ·split
     ·exact same
     ·exact same
    ·split
     ·show cG (n+8) (aBa w e.2.1 (e.1==5))
      unfold aBa
      split
      ·exact same
      ·exact same
     ·split
      ·split
       ·exact same
       ·exact same
      ·split
       ·split
        ·exact same
        ·exact same
       ·exact same

def aB7 (m:Nat) (l:List Int):Prop:=l.Pairwise (fun a b=>a<b)∧ ∀ n∈l,0<=n∧n<(m:Int)

theorem bEw (m:Nat) (dead:List Int) (i:Int) (b:Bool):aB7 m (yJ m dead i b):=by
 unfold yJ
 refine ⟨List.Pairwise.filter _ (List.pairwise_map.2 (List.pairwise_lt_range.imp fun h=>by omega)),fun n hn=> ?_⟩
 obtain ⟨k,hk,rfl⟩:=bUa.1 (bUp.1 hn).1
 have :=List.mem_range.1 hk
 exact ⟨by omega,by omega⟩

theorem aB7.all {m:Nat} {l:List Int} (h:aB7 m l):(l.zipIdx 0).all (fun z=>bCo l m z.2 z.1)=true:=by
 refine (aDl (bCo l m) l).2 fun k n hn=> ?_
 unfold bCo
 have hm:=h.2 n (bUi hn)
 rw [bT8,bVp,zR]
 refine ⟨bS.2 ⟨hm.1,by omega⟩,?_⟩
 by_cases h0:k=0
 ·exact .inl h0
 ·right
  obtain ⟨hk,e⟩:=bUg.1 hn
  have :=(bWq.1 h.1) (k - 1) k (by omega) hk (by omega)
  rw [bT6 (show k - 1<l.length by omega),bU3]
  rw [e] at this
  rw [zW (show ¬ (l[k - 1]'(by omega)>=n) by omega)]
  rfl

theorem aN2 (w:den tNw) (r eg:Int) (p:den tPk):aJ (lM w r eg p)=aJ w:=by unfold lM;split<;>rfl

theorem aNi (w:den tNw) (r inn:Int) (p:den tPk):aJ (proc0 w r inn p)=aJ w:=by
 unfold proc0
 split
 ·exact aN2 _ _ _ _
 ·split<;>rfl

theorem aY1 (w:den tNw):aJ (vW w)=aJ w:=rfl

theorem aHt (w:den tNw) (r inn:Int) (p:den tPk):aJ (bX w r inn p)=aJ w:=by
 unfold bX
 split
 ·exact aN2 _ _ _ _
 ·split
  ·split
   ·unfold xV
    split
    ·rfl
    ·split
     ·refine Eq.trans (aNi _ _ _ _) ?_
      rfl
     ·rfl
   ·rfl
  ·split
   ·unfold aAs
    split
    ·rw [aY1]
     exact aNi _ _ _ _
    ·rfl
   ·rfl

theorem aYx (k:Nat) (w:den tNw):aJ (stepT k w)=aJ w:=by
 unfold stepT
 split
 ·split
  ·rename_i f hf hb
   exact aHt (eQ w ((aD w).set k (aT f).1)) _ _ _
  ·rfl
 ·rfl

theorem aMx: ∀ (n k:Nat) (w:den tNw),aJ (tickL k n w)=aJ w
 | 0,_,_=>rfl
 | n+1,k,w=>by
  unfold tickL
  exact (aMx n (k+1) (stepT k w)).trans (aYx k w)

theorem aY3 (w:den tNw):aJ (wT w)=aJ w:=by
 unfold wT
 split
 ·rfl
 ·exact aMx (aD w).length 0 (aHa w)

theorem bHi {w:den tNw} {e:den jL} (h:aB7 (nT w).2.length (aJ w)):aB7 (nT w).2.length (aJ (doW w e).2):=by
 unfold doW
 split
 ·show aB7 _ (aJ (wT w));rw [aY3];exact h
 ·split
  ·split
   ·show aB7 _ (aJ (bX _ _ _ _));rw [aHt];exact h
   ·exact h
  ·split
   ·split<;>exact h
   ·split
    ·split<;>exact h
    ·split
     ·show aB7 _ (aJ (aBa w e.2.1 (e.1==5)))
      unfold aBa
      split
      ·exact h
      ·exact bEw _ _ _ _
     ·split
      ·split<;>exact h
      ·split
       ·split<;>exact h
       ·exact h


structure aJh (t:den tTo) (k:Nat) (w:den tNw):Prop where
 run:qJ t (1000+2000 * k) k w
 inv:eV t w
 drop:cG (8 * k) w
 dead:aB7 t.2.length (aJ w)

theorem wN.runV {v:den tNw} (h:wN 3 v):aJh (nT v) 0 v where
 run:=h.run
 inv:=by
  refine ⟨rfl,by rw [h.box,bVa],fun k f x hf hx=> ?_,h.uniq,fun y hy=>(by rw [h.fly] at hy;cases hy),fun y hy=>(by rw [h.fly] at hy;cases hy)⟩
  have hm:=bUi hf
  have hF:=h.flows f hm
  rw [h.box,bWm,hf] at hx
  have hx:some ((f.2.1,f.1,0,[]):den tIb)=some x:=hx
  injection hx with hx
  subst hx
  exact ⟨hF.val,hF.src,hF.dst,rfl,rfl,rfl,rfl,bUt _,by rw [hF.ack];exact bVy _,hF.ends⟩
 drop:=⟨by rw [h.drop];decide,by rw [h.drop];decide⟩
 dead:=by rw [h.dead];exact ⟨List.Pairwise.nil,fun n hn=>(bUr hn).elim⟩

theorem aJh.event {t:den tTo} {k:Nat} {w:den tNw} {e:den jL} (h:aJh t k w) (hk:k<=1000) (ht:t.2.length<=100) (he:EvD w e):aJh t (k+1) (doW w e).2 where
 run:=(aX8 h.run hk ht he).mono (by omega) (bUo _)
 inv:=bNf h.inv h.run.keep.bytes.fly he.pk.2 he.harm
 drop:=(h.drop.event h.run.keep.flows (by omega)).mono (by omega)
 dead:=by
  have :=bHi (w:=w) (e:=e) (by rw [h.run.top];exact h.dead)
  rw [h.run.top] at this
  exact this

end Go.Proofs.YtecighmpdcffcaaGreat
