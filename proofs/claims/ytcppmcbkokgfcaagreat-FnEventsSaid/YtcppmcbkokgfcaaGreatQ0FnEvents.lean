/-
  Facts and plain laws: what the functions compute, in plain words. Conditions: as each says.
-/
import Derived.Test.YtcppmcbkokgfcaaGreatT1FnEvents
open List renaming length->cEo,mem_of_getElem?->cEn,nil_append->cEx,getElem?_cons_zero->cHa,getElem?_eq_getElem->cEb,length_take->cFl,length_append->cEy,length_singleton->cFx,mem_append->cEl,getElem?_eq_some_iff->cEj,map_cons->cEv,sum_cons->cFu,getLast?_concat->cG3,dropLast_concat->cHr,length_nil->cFf,length_cons->cE8,append_assoc->cFc,singleton_append->cHf,foldl_cons->cF8,append_nil->cFe,all_eq_true->cE6,length_filter_le->cGa,mem_zipIdx_iff_getElem?->cHu,filter_cons->cGt,getElem?_eq_none->cHm,getElem?_drop->cFy,length_drop->cGc,getElem?_map->cGf
open Nat renaming le_trans->cEa,zero_add->cE9,le_refl->cEr,zero_le->cEt,le_of_eq->cGg
open Bool renaming eq_false_or_eq_true->cG1,true_and->cEs,eq_iff_iff->cEz,not_true->cEc,not_false->cEm,false_and->cEw,false_eq_true->cEg,and_eq_true->cEe,or_self->cF0,not_eq_true'->cFg,true_or->cGi,or_true->cGj
open Sum renaming elim_inl->cFn,inl->cD9,inr->cD8
open Int renaming toNat_natCast->cEf,tmod->cFa,toNat_of_nonneg->cGn,eq_ofNat_of_zero_le->cE0
open Option renaming getD_some->cE3
set_option linter.unusedVariables false
set_option linter.unusedSimpArgs false
set_option maxRecDepth 100000
namespace Go.Proofs.YtcppmcbkokgfcaaGreat
open Go.Ab Go.V
def inR (n a b:Int):Bool:=decide (a<=n)&&decide (n<=b)
theorem kM (n a b:Int):bJ n a b=some (inR n a b):=by
 unfold bJ inR
 by_cases h:a<=n<;>simp [h]
theorem fQ (n a b:Int):aJ n a b=some (inR n a b):=by
 unfold aJ inR
 by_cases h:a<=n<;>simp [h]
theorem bQ {n a b:Int}:inR n a b=true↔a<=n/\n<=b:=by simp [inR]
theorem bEy {n a b:Int}:inR n a b=false↔ ¬ (a<=n/\n<=b):=by rw [<- bQ];simp
theorem bSs (a b:Int):aHc a b=some (if b>a then b else a):=rfl
theorem bHw (a b:Int):aDr a b=some (if b>a then b else a):=by
 unfold aDr
 by_cases h:b>a<;>simp [h]
theorem bTw (a b:Int):aHb a b=some (if b<a then b else a):=rfl
theorem aYr (a b:Int):zK a b=some (if b<a then b else a):=by
 unfold zK
 by_cases h:b<a<;>simp [h]
theorem aHx {b:List Int} (h:b.length<=68719476736):eO b=some b:=by
 unfold eO;rw [aE (by decide) (by simpa using h)];simp
theorem aU4 {l:cF} (h:l.length<=68719476736):mT l=some l:=by
 unfold mT;rw [aE (by decide) (by simpa using h)];simp
theorem aUo {l:lRv} (h:l.length<=68719476736):eU l=some l:=by
 unfold eU;rw [aE (by decide) (by simpa using h)];simp
theorem aQ1 {p:den tPp} (h:SmB 68719476736 tPp p):rA p=some p:=by
 unfold rA;rw [aE (by decide) (by simpa using h.2.2.2.1)];simp
theorem aH1 {p:den tPt} (h:SmB 68719476736 tPt p):eV p=some p:=by
 unfold eV;rw [(wL (fun k (a:lPp)=>((k:Int),a)) ((0:Int),[]) [] p (fun _ x a=>a++[x]) cEo (fun _=>1) 68719476736 id rfl (cEa h.1 (by decide)) (by rw [dS];simpa using h.1) (fun k x a hi hx hd hw hk hb=>by
  have e:=h.2 x (cEn hx);simp only [hd,hi,hw,zZ,aA,aU4 e.2.2.2.1,aP,aE (b:=48) (by decide) hb];simp) (fun a=>by simp)).1,fV (fun x=>x)]
 simp
theorem aIc {p:den tPt} (h:SmB 68719476736 tPt p):jM p=some p:=by
 unfold jM pj4;rw [(wL (fun k (a:lPp)=>((k:Int),a)) ((0:Int),[]) [] p (fun _ x a=>a++[x]) cEo (fun _=>1) 68719476736 id rfl (cEa h.1 (by decide)) (by rw [dS];simpa using h.1) (fun k x a hi hx hd hw hk hb=>by
  have e:=h.2 x (cEn hx);simp only [hd,hi,hw,zZ,aA,aP,aQ1 e,aE (b:=48) (by decide) hb];simp) (fun a=>by simp)).1,fV (fun x=>x)]
 simp
theorem bQ5 {l:lPt} (h:SmB 68719476736 (.sl tPt) l):vV l=some l:=by
 unfold vV;rw [(wL (fun k (a:lPt)=>((k:Int),a)) ((0:Int),[]) [] l (fun _ x a=>a++[x]) cEo (fun _=>1) 68719476736 id rfl (cEa h.1 (by decide)) (by rw [dS];simpa using h.1) (fun k x a hi hx hd hw hk hb=>by
  have e:=h.2 x (cEn hx);simp only [hd,hi,hw,zZ,aA,aH1 e,aE (b:=24) (by decide) hb];simp) (fun a=>by simp)).1,fV (fun x=>x)]
 simp
theorem bOl {l:lPt} (h:SmB 68719476736 (.sl tPt) l):aAh l=some l:=by
 unfold aAh;rw [(wL (fun k (a:lPt)=>((k:Int),a)) ((0:Int),[]) [] l (fun _ x a=>a++[x]) cEo (fun _=>1) 68719476736 id rfl (cEa h.1 (by decide)) (by rw [dS];simpa using h.1) (fun k x a hi hx hd hw hk hb=>by
  have e:=h.2 x (cEn hx);simp only [hd,hi,hw,zZ,aA,aIc e,aE (b:=24) (by decide) hb];simp) (fun a=>by simp)).1,fV (fun x=>x)]
 simp
theorem bD1 {l:lMs} (h:SmB 68719476736 (.sl tMs) l):kF l=some l:=by
 unfold kF;rw [(wL (fun k (a:lMs)=>((k:Int),a)) ((0:Int),[]) [] l (fun _ x a=>a++[x]) cEo (fun _=>1) 68719476736 id rfl (cEa h.1 (by decide)) (by rw [dS];simpa using h.1) (fun k x a hi hx hd hw hk hb=>by
  have e:=h.2 x (cEn hx);simp only [hd,hi,hw,zZ,aA,aHx e.1,aE (b:=24) (by decide) hb];simp) (fun a=>by simp)).1,fV (fun x=>x)]
 simp
theorem bDg {l:lMs} (h:SmB 68719476736 (.sl tMs) l):sO l=some l:=by
 unfold sO;rw [(wL (fun k (a:lMs)=>((k:Int),a)) ((0:Int),[]) [] l (fun _ x a=>a++[x]) cEo (fun _=>1) 68719476736 id rfl (cEa h.1 (by decide)) (by rw [dS];simpa using h.1) (fun k x a hi hx hd hw hk hb=>by
  have e:=h.2 x (cEn hx);simp only [hd,hi,hw,zZ,aA,aE (b:=1) (n:=([]:List Int).length) (by decide) (by simpa using e.1),aE (b:=24) (by decide) hb];simp) (fun a=>by simp)).1,fV (fun x=>x)]
 simp
def qA (f:den tFl):q4:=(f.1,f.2.1,f.2.2.1,f.2.2.2.1,f.2.2.2.2.2.2.1,f.2.2.2.2.2.2.2.1,f.2.2.2.2.1,f.2.2.2.2.2.1,f.2.2.2.2.2.2.2.2)
theorem aHu {f:den tFl} (h:SmB 68719476736 tFl f):eY f=some (qA f):=by
 unfold eY qA zz4 zz5 zz6 zz7 zz8;simp only [bD1 h.2.2.2.2.1,bQ5 h.2.2.2.2.2.1,aUo h.2.2.2.2.2.2.2.2.1,aA]
theorem aFw {f:den tFl} (h:SmB 68719476736 tFl f):fC f=some (qA f):=by
 unfold fC qA zz4 zz5 zz6 zz7 zz8;simp only [bDg h.2.2.2.2.1,bOl h.2.2.2.2.2.1,aA,aE (b:=24) (n:=([]:lRv).length) (by decide) (by simpa using h.2.2.2.2.2.2.2.2.1),zZ,cEx]
theorem bEm {x:den tIb} (h:SmB 68719476736 tIb x):pI x=some x:=by
 unfold pI;simp only [bD1 h.2.2.2,aA,aP]
theorem bE4 {x:den tIb} (h:SmB 68719476736 tIb x):uZ x=some x:=by
 unfold uZ;simp only [bDg h.2.2.2,aA,aP]
def eK (x:den tRv):Bool:=inR x.1 0 7&&(inR x.2.1 1 6&&inR x.2.2 0 1000000)
theorem aFk (x:den tRv):cE x=some (eK x):=by
 unfold cE eK;simp only [kM,aA];cases inR x.1 0 7<;>cases inR x.2.1 1 6<;>cases inR x.2.2 0 1000000<;>rfl
theorem aFr (x:den tRv):cD x=some (eK x):=by
 unfold cD eK;simp only [fQ,aA];cases inR x.1 0 7<;>cases inR x.2.1 1 6<;>cases inR x.2.2 0 1000000<;>rfl
theorem aBx {α S:Type} (p:Nat->α->Bool): ∀ (l:List α) (k:Nat) (ρ:S),bY (fun k x=>if p k x then none else some ρ) k l=if (l.zipIdx k).all (fun x=>p x.2 x.1) then none else some ρ
 | [],_,_=>rfl
 | x::xs,k,ρ=>by
  simp only [bY,List.zipIdx_cons,List.all_cons];rcases cG1 (p k x) with h | h
  .simp only [h,zV,cEs];exact aBx p xs (k+1) ρ
  .simp [h]
theorem bEp {α:Type} (p:α->Bool): ∀ (l:List α) (k:Nat),(l.zipIdx k).all (fun x=>p x.1)=l.all p
 | [],_=>rfl
 | x::xs,k=>by simp [List.zipIdx_cons,bEp p xs]
theorem iC {α S:Type} (p:α->Bool) (l:List α) (ρ:S):bY (fun _ x=>if p x then none else some ρ) 0 l=if l.all p then none else some ρ:=by
 rw [aBx (fun _ x=>p x),bEp p]
def jQ (f:den tFl):Bool:=
 inR f.1 0 7&&(inR f.2.1 0 7&&(!(f.1==f.2.1)&&(inR f.2.2.1 0 100000&&(decide (f.2.2.2.2.1.length<=20)&&(inR f.2.2.2.1 0 (f.2.2.2.2.1.length:Int)&&(decide (f.2.2.2.2.2.1.length<=24)&&
  (f.2.2.2.2.1.all (fun m=>decide (m.length<=40))&&(f.2.2.2.2.2.2.2.2.all eK&&((f.2.2.2.2.2.2.1==0||inR f.2.2.2.2.2.2.1 0 ((f.2.2.2.2.2.1.length:Int) - 1))&&(inR f.2.2.2.2.2.2.2.1 0 4&&decide (f.2.2.2.2.2.2.2.2.length<=16)))))))))))
theorem bA9 {f:den tFl} (h:SmB 68719476736 tFl f):oL f=some (jQ f):=by
 have h1:=h.2.2.2.2.1.1;have h2:=h.2.2.2.2.2.1.1;have h3:=h.2.2.2.2.2.2.2.2.1;unfold oL jQ pj3 zz4 zz5 zz6 zz7 zz8;rw [aO (l:=f.2.2.2.2.1) (fun _ m=>if decide (m.length<=40) then none else some false) (by omega) (fun k m hi hd hw hx hk=>by
  simp only [hd,hi,hw,zZ,aA]
  by_cases hm:m.length<=40
  .simp [hm,show ¬ ((m.length:Int)>40) by omega]
  .simp [hm,show (m.length:Int)>40 by omega]) (by simp)]
 rw [aO (l:=f.2.2.2.2.2.2.2.2) (fun _ x=>if eK x then none else some false) (by omega) (fun k x hi hd hw hx hk=>by
  simp only [hd,hi,hw,zZ,aA,aP,aFk];cases eK x<;>rfl) (by simp)]
 rw [iC (fun m:List Int=>decide (m.length<=40)),iC eK];have e1:decide ((f.2.2.2.2.1.length:Int)>20)= !decide (f.2.2.2.2.1.length<=20):=by rw [cEz];simp;omega
 have e2:decide ((f.2.2.2.2.2.1.length:Int)>24)= !decide (f.2.2.2.2.2.1.length<=24):=by rw [cEz];simp;omega
 have e3:decide ((f.2.2.2.2.2.2.2.2.length:Int)<=16)=decide (f.2.2.2.2.2.2.2.2.length<=16):=by rw [cEz];simp;omega
 have e5:wr ((f.2.2.2.2.2.1.length:Int) - 1)=(f.2.2.2.2.2.1.length:Int) - 1:=wri (by omega) (by omega);rw [e5];simp only [kM,aA,e1,e2,e3];cases inR f.1 0 7<;>simp only [cEc,cEm,zZ,zY,aA,cEw,cEs];cases inR f.2.1 0 7<;>simp only [cEc,cEm,zZ,zY,aA,cEw,cEs];cases f.1==f.2.1<;>simp only [cEc,cEm,zZ,zY,aA,cEw,cEs];cases inR f.2.2.1 0 100000<;>simp only [cEc,cEm,zZ,zY,aA,cEw,cEs];cases decide (f.2.2.2.2.1.length<=20)<;>simp only [cEc,cEm,zZ,zY,aA,cEw,cEs];cases inR f.2.2.2.1 0 (f.2.2.2.2.1.length:Int)<;>simp only [cEc,cEm,zZ,zY,aA,cEw,cEs];cases decide (f.2.2.2.2.2.1.length<=24)<;>simp only [cEc,cEm,zZ,zY,aA,cEw,cEs];cases f.2.2.2.2.1.all (fun m=>decide (m.length<=40))<;>simp only [cEg,zV,zU,aA,cFn,Sum.elim_inr,cEw,cEs];cases f.2.2.2.2.2.2.2.2.all eK<;>simp only [cEg,zV,zU,aA,cFn,Sum.elim_inr,cEw,cEs];cases f.2.2.2.2.2.2.1==0<;>cases inR f.2.2.2.2.2.2.1 0 ((f.2.2.2.2.2.1.length:Int) - 1)<;>cases inR f.2.2.2.2.2.2.2.1 0 4<;>rfl
theorem aQ9 {f:den tFl} (h:SmB 68719476736 tFl f):kG f=some (jQ f):=by
 have h1:=h.2.2.2.2.1.1;have h2:=h.2.2.2.2.2.1.1;have h3:=h.2.2.2.2.2.2.2.2.1;unfold kG jQ pj3 zz4 zz5 zz6 zz7 zz8;rw [aO (l:=f.2.2.2.2.1) (fun _ m=>if decide (m.length<=40) then none else some false) (by omega) (fun k m hi hd hw hx hk=>by
  simp only [hd,hi,hw,zZ,aA]
  by_cases hm:m.length<=40
  .simp [hm,show ¬ ((m.length:Int)>40) by omega]
  .simp [hm,show (m.length:Int)>40 by omega]) (by simp)]
 rw [aO (l:=f.2.2.2.2.2.2.2.2) (fun _ x=>if eK x then none else some false) (by omega) (fun k x hi hd hw hx hk=>by
  simp only [hd,hi,hw,zZ,aA,aP,aFr];cases eK x<;>rfl) (by simp)]
 rw [iC (fun m:List Int=>decide (m.length<=40)),iC eK];have e1:decide ((f.2.2.2.2.1.length:Int)>20)= !decide (f.2.2.2.2.1.length<=20):=by rw [cEz];simp;omega
 have e2:decide ((f.2.2.2.2.2.1.length:Int)>24)= !decide (f.2.2.2.2.2.1.length<=24):=by rw [cEz];simp;omega
 have e3:decide ((f.2.2.2.2.2.2.2.2.length:Int)>16)= !decide (f.2.2.2.2.2.2.2.2.length<=16):=by rw [cEz];simp;omega
 have e4:inR f.2.2.2.2.2.2.1 0 (if ((f.2.2.2.2.2.1.length:Int) - 1)>0 then ((f.2.2.2.2.2.1.length:Int) - 1) else 0)=(f.2.2.2.2.2.2.1==0||inR f.2.2.2.2.2.2.1 0 ((f.2.2.2.2.2.1.length:Int) - 1)):=by
  have key: ∀ (c n:Int),0<=n->inR c 0 (if n - 1>0 then n - 1 else 0)=(c==0||inR c 0 (n - 1)):=fun c n hn=>by
   unfold inR
   by_cases h1:n - 1>0
   .rw [zT h1]
    by_cases h2:c=0
    .subst h2;simp;omega
    .simp [h2]
   .rw [zS h1]
    by_cases h2:c=0
    .subst h2;simp
    .rw [cEz];simp [h2];omega
  exact key _ _ (by omega)
 have e5:wr ((f.2.2.2.2.2.1.length:Int) - 1)=(f.2.2.2.2.2.1.length:Int) - 1:=wri (by omega) (by omega);rw [e5];simp only [fQ,bHw,aA,e1,e2,e3,e4];cases inR f.1 0 7<;>simp only [cEc,cEm,zZ,zY,aA,cEw,cEs];cases inR f.2.1 0 7<;>simp only [cEc,cEm,zZ,zY,aA,cEw,cEs];cases f.1==f.2.1<;>simp only [cEc,cEm,zZ,zY,aA,cEw,cEs];cases inR f.2.2.1 0 100000<;>simp only [cEc,cEm,zZ,zY,aA,cEw,cEs];cases decide (f.2.2.2.2.1.length<=20)<;>simp only [cEc,cEm,zZ,zY,aA,cEw,cEs];cases inR f.2.2.2.1 0 (f.2.2.2.2.1.length:Int)<;>simp only [cEc,cEm,zZ,zY,aA,cEw,cEs];cases decide (f.2.2.2.2.2.1.length<=24)<;>simp only [cEc,cEm,zZ,zY,aA,cEw,cEs];cases f.2.2.2.2.2.2.1==0||inR f.2.2.2.2.2.2.1 0 ((f.2.2.2.2.2.1.length:Int) - 1)<;>cases inR f.2.2.2.2.2.2.2.1 0 4<;>cases decide (f.2.2.2.2.2.2.2.2.length<=16)<;>cases f.2.2.2.2.1.all (fun m=>decide (m.length<=40))<;>cases f.2.2.2.2.2.2.2.2.all eK<;>rfl
def aHr (a b:List Int):Bool:=(aAz a).toList==(aAz b).toList
theorem bV6 (a b:List Int):oD a b=some (aHr a b):=rfl
theorem bXu (a b:List Int):nY a b=some (aHr a b):=rfl
def aCf:lMs->lMs->Bool
 | [],_=>true
 | _::_,[]=>true
 | a::as,b::bs=>aHr a b&&aCf as bs
def aPs {α S:Type} (p:α->α->Bool) (l:List α) (ρ:S) (k:Nat) (x:α):Option S:=Option.elim l[k]? none fun y=>if p x y then none else some ρ
theorem bHq {α S:Type} (p:α->α->Bool) (q:List α->List α->Bool) (h0: ∀ b,q [] b=true) (h1: ∀ x a y b,q (x::a) (y::b)=(p x y&&q a b)) (ρ:S): ∀ (a b:List α),a.length<=b.length-> ∀ (k:Nat) (l:List α),(∀ j,b[j]? =l[k+j]?)->bY (aPs p l ρ) k a=if q a b then none else some ρ
 | [],b,_,k,l,_=>by rw [h0];rfl
 | x::a,[],h,_,_,_=>by simp at h
 | x::a,y::b,h,k,l,hl=>by
  have e0:=hl 0;simp only [Nat.add_zero,cHa] at e0;simp only [bY,aPs,<- e0,h1,Option.elim_some];rcases cG1 (p x y) with hp | hp
  .simp only [hp,zV,cEs];exact bHq p q h0 h1 ρ a b (by simpa using h) (k+1) l fun j=>by
    have :=hl (j+1);rw [List.getElem?_cons_succ] at this;rw [this];congr 1;omega
  .simp [hp]
theorem bOa {a b:lMs} (ha:a.length<=68719476736) (hb:b.length<=68719476736):nM a b=some (decide (a.length=b.length)&&aCf a b):=by
 unfold nM
 by_cases hl:a.length=b.length
 .have h0:((a.length:Int) != (b.length:Int))=false:=by simp [hl]
  rw [h0,zY,aO (l:=a) (aPs aHr b false) (by omega) (fun k x hi hd hw hx hk=>by
    have hy:b[k]? =some b[k]:=cEb (by omega);simp only [hd,hi,hw,zZ,aA,aH,hy,bV6,aPs,Option.elim_some];cases aHr x b[k]<;>rfl) (by simp)]
  rw [bHq aHr aCf (fun b=>by cases b<;>rfl) (fun _ _ _ _=>rfl) false a b (by omega) 0 b (fun j=>by rw [cE9])];cases aCf a b<;>simp [hl]
 .have h0:((a.length:Int) != (b.length:Int))=true:=by simp;omega
  rw [h0,zZ];simp [hl]
def aEd (f:den tFl) (x:den tIb):Bool:=
 x.1==f.2.1&&(x.2.1==f.1&&(decide (x.2.2.2.length<=f.2.2.2.2.1.length)&&(aCf x.2.2.2 f.2.2.2.2.1&&decide ((x.2.2.2.length:Int)>=f.2.2.2.1))))
theorem aP7: ∀ (a b:lMs),aCf a (b.take a.length)=aCf a b
 | [],b=>by cases b<;>rfl
 | x::a,[]=>rfl
 | x::a,y::b=>by simp [aCf,aP7 a b]
theorem bMc {f:den tFl} {x:den tIb} (hf:f.2.2.2.2.1.length<=68719476736) (hx:x.2.2.2.length<=68719476736):mC f x=some (aEd f x):=by
 unfold mC aEd zz4;cases x.1==f.2.1
 .rfl
 cases x.2.1==f.1
 .rfl
 by_cases hl:x.2.2.2.length<=f.2.2.2.2.1.length
 .have h1:decide ((x.2.2.2.length:Int)<=(f.2.2.2.2.1.length:Int))=true:=by simpa using hl
  have h2:bX (0:Int) (x.2.2.2.length:Int) (f.2.2.2.2.1.length:Int)=true:=by simp [bX];omega
  rw [h1,h2,fR,bOa hx (by rw [cFl];omega),aP7];have h3:decide (x.2.2.2.length=(List.take x.2.2.2.length f.2.2.2.2.1).length)=true:=by simp [cFl];omega
  rw [h3];simp only [zZ,aA,cEs,zX hl];cases aCf x.2.2.2 f.2.2.2.2.1<;>rfl
 .have h1:decide ((x.2.2.2.length:Int)<=(f.2.2.2.2.1.length:Int))=false:=by simp;omega
  rw [h1];simp [hl]
theorem bK7 {f:den tFl} {x:den tIb} (hf:f.2.2.2.2.1.length<=68719476736) (hx:x.2.2.2.length<=68719476736):lH f x=some (aEd f x):=by
 unfold lH aEd zz4;simp only [bne];cases x.1==f.2.1
 .rfl
 cases x.2.1==f.1
 .rfl
 by_cases hl:x.2.2.2.length<=f.2.2.2.2.1.length
 .have h1:decide ((x.2.2.2.length:Int)>(f.2.2.2.2.1.length:Int))=false:=by simp;omega
  have h4:decide ((x.2.2.2.length:Int)<f.2.2.2.1)= !decide ((x.2.2.2.length:Int)>=f.2.2.2.1):=by rw [cEz];simp
  rw [h1,h4,aO (l:=x.2.2.2) (aPs aHr f.2.2.2.2.1 false) (by omega) (fun k m hi hd hw hm hk=>by
    have hy:f.2.2.2.2.1[k]? =some f.2.2.2.2.1[k]:=cEb (by omega);simp only [hd,hi,hw,zZ,aA,aH,hy,bXu,aPs,Option.elim_some];cases aHr m f.2.2.2.2.1[k]<;>rfl) (by simp)]
  rw [bHq aHr aCf (fun b=>by cases b<;>rfl) (fun _ _ _ _=>rfl) false x.2.2.2 f.2.2.2.2.1 hl 0 f.2.2.2.2.1 (fun j=>by rw [cE9])];rw [zX hl];cases decide ((x.2.2.2.length:Int)>=f.2.2.2.1)<;>cases aCf x.2.2.2 f.2.2.2.2.1<;>rfl
 .have h1:decide ((x.2.2.2.length:Int)>(f.2.2.2.2.1.length:Int))=true:=by simp;omega
  rw [h1];simp [hl]
def aC5 (x:den tIb) (p:den tPk):Bool:=p.1==1&&(p.2.1==x.2.1&&p.2.2.1==x.1)
theorem bDw (x:den tIb) (p:den tPk):vG x p=some (aC5 x p):=by
 unfold vG aC5;cases p.1==1<;>cases p.2.1==x.2.1<;>rfl
theorem bD8 (x:den tIb) (p:den tPk):yW x p=some (aC5 x p):=by
 unfold yW aC5;cases p.1==1<;>cases p.2.1==x.2.1<;>rfl
def aYn (x:den tIb) (p:den tPk):Bool:=aC5 x p&&(p.2.2.2.2.2.2.2.2.1==x.2.2.1&&decide (x.2.2.1<20))
def eW (x:den tIb) (p:den tPk):den tIb:=if aYn x p then (x.1,x.2.1,wr (x.2.2.1+1),x.2.2.2++[p.2.2.2.2.2.2.2.2.2]) else x
theorem bXe {x:den tIb} {p:den tPk} (hx:SmB 4294967296 tIb x) (hp:SmB 4294967296 tPk p):pP x p=some (eW x p):=by
 have hx':SmB 68719476736 tIb x:=hx.mono (by decide);have hp':=(hp.mono (C:=68719476736) (by decide)).2.2.2.2.2.2.2.2.2.1;unfold pP eW aYn aI pj4 zz8 zz9;have ha:=hx.2.2.2.1;simp only [aP,bEm hx',bDw,aHx hp',aA,aE (b:=24) (n:=x.2.2.2.length) (m:=1) (by decide) (by omega),zZ];cases aC5 x p<;>cases p.2.2.2.2.2.2.2.2.1==x.2.2.1<;>cases decide (x.2.2.1<20)<;>rfl
theorem bXz {x:den tIb} {p:den tPk} (hx:SmB 4294967296 tIb x) (hp:SmB 4294967296 tPk p):pT x p=some (eW x p):=by
 have hx':SmB 68719476736 tIb x:=hx.mono (by decide);have hp':=(hp.mono (C:=68719476736) (by decide)).2.2.2.2.2.2.2.2.2.1;unfold pT eW aYn aI pj4 zz8 zz9;have ha:=hx.2.2.2.1;simp only [aP,bE4 hx',bD8,aA,aE (b:=1) (n:=([]:List Int).length) (by decide) (by simpa using hp'),aE (b:=24) (n:=x.2.2.2.length) (m:=1) (by decide) (by omega),zZ,cEx];cases aC5 x p<;>cases p.2.2.2.2.2.2.2.2.1==x.2.2.1<;>cases decide (x.2.2.1<20)<;>rfl
theorem bKu (x:den tIb) (p:den tPk):tot (.sl tMs) (eW x p).2.2.2<=tot (.sl tMs) x.2.2.2+1+tot (.sl tb) p.2.2.2.2.2.2.2.2.2:=by
 unfold eW;split
 .rw [rT,aFs];show _+(1+tot (.sl tb) _)<=_;omega
 .omega
def aVf (f:den tFl) (p:den tPk):Bool:=p.1==2&&(p.2.1==f.2.1&&(p.2.2.1==f.1&&(p.2.2.2.2.2.2.2.2.1==f.2.2.2.1&&inR f.2.2.2.1 0 ((f.2.2.2.2.1.length:Int) - 1))))
def yJ (f:den tFl) (p:den tPk):den tFl:=if aVf f p then (f.1,f.2.1,f.2.2.1,wr (f.2.2.2.1+1),f.2.2.2.2.1,f.2.2.2.2.2.1,f.2.2.2.2.2.2.1,0,f.2.2.2.2.2.2.2.2) else f
theorem bXi {f:den tFl} {p:den tPk} (hf:SmB 68719476736 tFl f):vK f p=some (qA (yJ f p)):=by
 unfold vK yJ aVf pj3 pj9 zz4 zz5 zz6 zz8;have e5:wr ((f.2.2.2.2.1.length:Int) - 1)=(f.2.2.2.2.1.length:Int) - 1:=wri (by have :=hf.2.2.2.2.1.1;omega) (by have :=hf.2.2.2.2.1.1;omega);simp only [aP,aHu hf,aA,kM,e5];cases p.1==2<;>cases p.2.1==f.2.1<;>cases p.2.2.1==f.1<;>cases p.2.2.2.2.2.2.2.2.1==f.2.2.2.1<;>cases inR f.2.2.2.1 0 ((f.2.2.2.2.1.length:Int) - 1)<;>rfl
theorem bEo {f:den tFl} {p:den tPk} (hf:SmB 68719476736 tFl f):rZ f p=some (qA (yJ f p)):=by
 unfold rZ yJ aVf pj3 pj9 zz4 zz5 zz6 zz8;have e5:wr ((f.2.2.2.2.1.length:Int) - 1)=(f.2.2.2.2.1.length:Int) - 1:=wri (by have :=hf.2.2.2.2.1.1;omega) (by have :=hf.2.2.2.2.1.1;omega);simp only [aP,aFw hf,aA,fQ,e5];cases p.1==2<;>cases p.2.1==f.2.1<;>cases p.2.2.1==f.1<;>cases p.2.2.2.2.2.2.2.2.1==f.2.2.2.1<;>cases inR f.2.2.2.1 0 ((f.2.2.2.2.1.length:Int) - 1)<;>rfl
theorem bCx (f:den tFl) (p:den tPk):(yJ f p).2.2.2.2.1=f.2.2.2.2.1/\(yJ f p).2.2.2.2.2.1=f.2.2.2.2.2.1/\(yJ f p).2.2.2.2.2.2.2.2=f.2.2.2.2.2.2.2.2:=by
 unfold yJ;split<;>exact ⟨rfl,rfl,rfl⟩
def enq (f:den tFl) (b:List Int):den tFl:=(f.1,f.2.1,f.2.2.1,f.2.2.2.1,f.2.2.2.2.1++[b],f.2.2.2.2.2.1,f.2.2.2.2.2.2.1,f.2.2.2.2.2.2.2.1,f.2.2.2.2.2.2.2.2)
def aQu (f:den tFl) (b:List Int):Int×Int×Int×Int×Int×Int×Bool×lMs×lPt×lRv:=
 if jQ (enq f b) then (f.1,f.2.1,f.2.2.1,f.2.2.2.1,f.2.2.2.2.2.2.1,f.2.2.2.2.2.2.2.1,true,f.2.2.2.2.1++[b],f.2.2.2.2.2.1,f.2.2.2.2.2.2.2.2)
 else (f.1,f.2.1,f.2.2.1,f.2.2.2.1,f.2.2.2.2.2.2.1,f.2.2.2.2.2.2.2.1,false,f.2.2.2.2.1,f.2.2.2.2.2.1,f.2.2.2.2.2.2.2.2)
theorem bNq {f:den tFl} {b:List Int} (hf:SmB 4294967296 tFl f) (hb:SmB 4294967296 (.sl tb) b):SmB 68719476736 tFl (enq f b):=by
 have hf':=hf.mono (C:=68719476736) (by decide);refine ⟨hf'.1,hf'.2.1,hf'.2.2.1,hf'.2.2.2.1,⟨?_,fun e he=> ?_⟩,hf'.2.2.2.2.2.1,hf'.2.2.2.2.2.2.1,hf'.2.2.2.2.2.2.2.1,hf'.2.2.2.2.2.2.2.2⟩
 .show (f.2.2.2.2.1++[b]).length<=_;have :=hf.2.2.2.2.1.1;rw [cEy,cFx];omega
 .rcases cEl.1 he with he | he
  .exact hf'.2.2.2.2.1.2 e he
  .rw [List.mem_singleton.1 he];exact hb.mono (by decide)
theorem cB6 {f:den tFl} {b:List Int} (hf:SmB 4294967296 tFl f) (hb:SmB 4294967296 (.sl tb) b):aAq f b=some (aQu f b):=by
 unfold aAq aQu pj2 pj3 pj9 zz4 zz5 zz6 zz7 zz8;have hf':=hf.mono (C:=68719476736) (by decide);have h1:=hf.2.2.2.2.1.1;have h2:oL (f.1,f.2.1,f.2.2.1,f.2.2.2.1,f.2.2.2.2.1++[b],f.2.2.2.2.2.1,f.2.2.2.2.2.2.1,f.2.2.2.2.2.2.2.1,f.2.2.2.2.2.2.2.2)=some (jQ (enq f b)):=bA9 (f:=enq f b) (bNq hf hb);simp only [aP,aHu hf',aHx (b:=b) (cEa hb.1 (by decide)),aA,qA,aE (b:=24) (n:=f.2.2.2.2.1.length) (m:=1) (by decide) (by omega),zZ,h2];cases jQ (enq f b)<;>rfl
theorem bRu {f:den tFl} {b:List Int} (hf:SmB 4294967296 tFl f) (hb:SmB 4294967296 (.sl tb) b):tS f b=some (aQu f b):=by
 unfold tS aQu pj2 pj3 pj9 zz4 zz5 zz6 zz7 zz8;have hf':=hf.mono (C:=68719476736) (by decide);have h1:=hf.2.2.2.2.1.1;have h2:kG (f.1,f.2.1,f.2.2.1,f.2.2.2.1,f.2.2.2.2.1++[b],f.2.2.2.2.2.1,f.2.2.2.2.2.2.1,f.2.2.2.2.2.2.2.1,f.2.2.2.2.2.2.2.2)=some (jQ (enq f b)):=aQ9 (f:=enq f b) (bNq hf hb);simp only [aP,aFw hf',aA,qA,aE (b:=1) (n:=([]:List Int).length) (m:=b.length) (by decide) (by have :=hb.1;simp;omega),aE (b:=24) (n:=f.2.2.2.2.1.length) (m:=1) (by decide) (by omega),zZ,cEx,h2];cases jQ (enq f b)<;>rfl
def kW (k:Int):Bool:=k==1||k==3
theorem aHz (k:Int):dU k=some (kW k):=by
 unfold dU kW;cases k==1<;>rfl
theorem aH2 (k:Int):dW k=some (kW k):=by
 unfold dW kW;cases k==1<;>rfl
def pIn (p:den tPp) (h:den bU):Int:=if kW p.1 then h.2.2.1 else h.2.1
def pEg (p:den tPp) (h:den bU):Int:=if kW p.1 then h.2.1 else h.2.2.1
theorem oF {n:Nat} (h:n<=68719476736):wr ((n:Int) - 1)=(n:Int) - 1:=wri (by omega) (by omega)
theorem aPj {k n:Nat} (h:k<n):inR (k:Int) 0 ((n:Int) - 1)=true:=by rw [bQ];omega
theorem bFu {p:den tPp} {k:Nat} {h:den bU} (hk:p.2.2.2[k]? =some h) (hl:p.2.2.2.length<=68719476736):gE p (k:Int)=some (pIn p h):=by
 have hlt:k<p.2.2.2.length:=(cEj.1 hk).1;unfold gE pIn;simp only [kM,oF hl,aPj hlt,aA,cEc,zY,aHz,aH,hk];cases kW p.1<;>rfl
theorem bG6 {p:den tPp} {k:Nat} {h:den bU} (hk:p.2.2.2[k]? =some h) (hl:p.2.2.2.length<=68719476736):fL p (k:Int)=some (pIn p h):=by
 have hlt:k<p.2.2.2.length:=(cEj.1 hk).1;unfold fL pIn;simp only [fQ,oF hl,aPj hlt,aA,cEc,zY,aH2,aH,hk];cases kW p.1<;>rfl
theorem bH8 {p:den tPp} {k:Nat} {h:den bU} (hk:p.2.2.2[k]? =some h) (hl:p.2.2.2.length<=68719476736):gP p (k:Int)=some (pEg p h):=by
 have hlt:k<p.2.2.2.length:=(cEj.1 hk).1;unfold gP pEg;simp only [kM,oF hl,aPj hlt,aA,cEc,zY,aHz,aH,hk];cases kW p.1<;>rfl
theorem aYb {p:den tPp} {k:Nat} {h:den bU} (hk:p.2.2.2[k]? =some h) (hl:p.2.2.2.length<=68719476736):dV p (k:Int)=some (pEg p h):=by
 have hlt:k<p.2.2.2.length:=(cEj.1 hk).1;unfold dV pEg;simp only [fQ,oF hl,aPj hlt,aA,cEc,zY,aH2,aH,hk];cases kW p.1<;>rfl
def aBp (nf:Bool) (p:den tPp) (i:Nat) (h:den bU) (out:dZ):dZ:=
 match out.getLast? with
 | some z=>if nf&&(decide (i=0)&&z.1==h.1) then out.dropLast++[(h.1,z.2.1,pEg p h)] else out++[(h.1,pIn p h,pEg p h)]
 | none=>out++[(h.1,pIn p h,pEg p h)]
theorem aRo (nf:Bool) (p:den tPp) (i:Nat) (h:den bU) (out:dZ):(aBp nf p i h out).length<=out.length+1:=by
 unfold aBp;split
 .split
  .simp only [cEy,List.length_dropLast,cFx];omega
  .simp
 .simp
def uD (nf:Bool) (p:den tPp) (a:dZ):dZ:=bZ (fun i h b=>aBp nf p i h b) 0 p.2.2.2 a
def aDi (p:den tPt):dZ:=bZ (fun k x a=>uD (decide (0<k)) x a) 0 p []
def aKh (l:dZ):dZ:=
 match l with
 | []=>[]
 | x::xs=>let m:=(x.1,0,x.2.2)::xs
  match m.getLast? with
  | some y=>m.dropLast++[(y.1,y.2.1,0)]
  | none=>[]
def gX (p:den tPt):dZ:=aKh (aDi p)
theorem bPe (l:dZ):(aKh l).length=l.length:=by
 unfold aKh;split
 .rfl
 .rename_i x xs;simp only;rw [List.getLast?_eq_some_getLast (by simp)];simp
theorem aF5 (p:den tPt):(p.map fun x=>x.2.2.2.length).sum<=tot tPt p:=by
 show _<=tot (.sl tPp) p;rw [<- aPw]
 induction p with
 | nil=>exact cEr _
 | cons x p ih=>
  simp only [cEv,cFu];have h1:x.2.2.2.length<=tot tPp x:=by
   show _<=tot ti x.1+(tot ti x.2.1+(tot ti x.2.2.1+tot (.sl bU) x.2.2.2));rw [dK rfl];omega
  omega
theorem aTc {n:Nat} (h:n<=68719476736) (h0:0<n):wr ((n:Int) - 1)=((n - 1:Nat):Int):=by
 rw [oF h];omega
theorem aId {α:Type} {m:List α} {z:α} (h:(m++[z]).length<=68719476736):wr (((m++[z]).length:Int) - 1)=(m.length:Int):=by
 rw [aTc h (by simp)];simp
theorem aNy (nf:Bool) (p:den tPp) (a:dZ):(uD nf p a).length<=a.length+p.2.2.2.length:=by
 have :=aCx (m:=cEo) (cost:=fun _=>1) (fun i h b=>aRo nf p i h b) p.2.2.2 0 a;rw [dS] at this;exact this
theorem aMf (p:den tPt):(aDi p).length<=tot tPt p:=by
 have :=aCx (m:=cEo) (cost:=fun x:den tPp=>x.2.2.2.length) (fun k x a=>aNy (decide (0<k)) x a) p 0 [];have h2:=aF5 p;have h3:(aDi p).length<=0+(p.map fun x=>x.2.2.2.length).sum:=this;omega
theorem aEe (p:den tPt):(gX p).length<=tot tPt p:=by
 unfold gX;rw [bPe];exact aMf p
theorem bD5 (k:Nat):decide ((k:Int)>0)=decide (0<k):=by rw [cEz];simp
theorem bAz (i:Nat):((i:Int)==0)=decide (i=0):=by rw [cEz];simp
theorem bAf (nf:Bool) (p:den tPp) (i:Nat) (h:den bU):aBp nf p i h []=[(h.1,pIn p h,pEg p h)]:=rfl
theorem aXu (nf:Bool) (p:den tPp) (i:Nat) (h:den bU) (m:dZ) (z:den aBz):aBp nf p i h (m++[z])=if nf&&(decide (i=0)&&z.1==h.1) then m++[(h.1,z.2.1,pEg p h)] else (m++[z])++[(h.1,pIn p h,pEg p h)]:=by
 unfold aBp;rw [cG3,cHr]
theorem aXa {m:dZ} {x z:den aBz} {xs:dZ} (h:(x.1,(0:Int),x.2.2)::xs=m++[z]):aKh (x::xs)=m++[(z.1,z.2.1,0)]:=by
 unfold aKh;simp only;rw [h,cG3,cHr]
theorem aKx {p:den tPt} (h:tot tPt p<=34359738368):mJ p=some (gX p):=by
 have hs:=aF5 p;have sm:SmB 34359738368 tPt p:=bC h;have hl:=aMf p;unfold mJ ixb pj4;rw [fO (fun k (a:dZ)=>((k:Int),a)) ((0:Int),[]) [] p (fun k x a=>uD (decide (0<k)) x a) cEo (fun x=>x.2.2.2.length) 34359738368 id rfl (cEa sm.1 (by decide)) (by simp only [cFf];omega) (fun k x a=>aNy _ x a) (fun k x a hi hx hd hw hk hb=>by
  have hxl:x.2.2.2.length<=34359738368:=(sm.2 x (cEn hx)).2.2.2.1;simp only [hd,hi,hw,zZ,aA];rw [fO (fun i (b:dZ)=>((i:Int),b)) ((0:Int),a) a x.2.2.2 (fun i h b=>aBp (decide (0<k)) x i h b) cEo (fun _=>1) 34359738368 id rfl (cEa hxl (by decide)) (by rw [dS];exact hb) (fun i h b=>aRo _ x i h b) (fun i g b hi2 hg hd2 hw2 hk2 hb2=>by
   have hl2:x.2.2.2.length<=68719476736:=by omega
   simp only [hd2,hi2,hw2,zZ,aA,aP,bFu hg hl2,bH8 hg hl2,bD5,bAz,aE (b:=24) (n:=b.length) (m:=1) (by decide) (by omega)];rcases oR b with rfl | ⟨m,z,rfl⟩
   .rw [bAf];cases decide (0<k)<;>cases decide (i=0)<;>rfl
   .rw [aXu,aId (by omega)];simp only [bS,aFu,aH6,aL1,zZ,cEf,aA,aRf];cases decide (0<k)<;>cases decide (i=0)<;>cases hz:z.1==g.1<;>simp [hz];simpa using hz) (fun b=>by simp)]
  rfl) (fun a=>by simp)]
 simp only [aA,id];rw [show bZ (fun k x a=>uD (decide (0<k)) x a) 0 p []=aDi p from rfl];show _=some (aKh (aDi p));generalize aDi p=l at hl;cases l with
 | nil=>rfl
 | cons x xs=>
  have e1:decide ((((x::xs).length:Nat):Int)>0)=true:=by simp
  have e2:decide ((0:Int)<(((x::xs).length:Nat):Int))=true:=by simp
  have e3:(0:Int).toNat=0:=rfl;have e4:decide ((0:Int)<=0)=true:=rfl;simp only [e1,e2,e3,e4,zZ,cHa,aA,List.set_cons_zero];rcases oR ((x.1,(0:Int),x.2.2)::xs) with h0 | ⟨m,z,hm⟩
  .cases h0
  .have hlen:((x.1,(0:Int),x.2.2)::xs).length=(x::xs).length:=rfl;rw [aXa hm];rw [hm] at hlen ⊢;rw [aId (by omega)];simp only [bS,aH6,aL1,zZ,cEf,aA,aRf]
theorem aH7 {p:den tPt} (h:tot tPt p<=34359738368):fK p=some (gX p):=by
 have hs:=aF5 p;have sm:SmB 34359738368 tPt p:=bC h;have hl:=aMf p;unfold fK ixb pj4;rw [fO (fun k (a:dZ)=>((k:Int),a)) ((0:Int),[]) [] p (fun k x a=>uD (decide (0<k)) x a) cEo (fun x=>x.2.2.2.length) 34359738368 id rfl (cEa sm.1 (by decide)) (by simp only [cFf];omega) (fun k x a=>aNy _ x a) (fun k x a hi hx hd hw hk hb=>by
  have hxl:x.2.2.2.length<=34359738368:=(sm.2 x (cEn hx)).2.2.2.1;simp only [hd,hi,hw,zZ,aA];rw [fO (fun i (b:dZ)=>((i:Int),b)) ((0:Int),a) a x.2.2.2 (fun i h b=>aBp (decide (0<k)) x i h b) cEo (fun _=>1) 34359738368 id rfl (cEa hxl (by decide)) (by rw [dS];exact hb) (fun i h b=>aRo _ x i h b) (fun i g b hi2 hg hd2 hw2 hk2 hb2=>by
   have hl2:x.2.2.2.length<=68719476736:=by omega
   simp only [hd2,hi2,hw2,zZ,aA,aP,bG6 hg hl2,aYb hg hl2,aT,bF,aX,aY,bA,bD5,bAz];rcases oR b with rfl | ⟨m,z,rfl⟩
   .rw [bAf];cases decide (0<k)<;>cases decide (i=0)<;>rfl
   .rw [aXu,aId (by omega)];have e1:decide (((m++[z]).length:Int)>0)=true:=by simp
    have e2:bX (0:Int) (m.length:Int) ((m++[z]).length:Int)=true:=by simp [bX];omega
    have e3:(m++[z]).take m.length=m:=by simp
    have e4:=aE (b:=24) (n:=m.length) (m:=1) (by decide) (by simp at hb2;omega);have e5:=aE (b:=24) (n:=m.length+1) (m:=1) (by decide) (by simp at hb2;omega);simp only [bS,e1,e2,e3,aH6,aL1,zZ,cEf,aA];cases decide (0<k)<;>cases decide (i=0)<;>cases hz:z.1==g.1<;>simp [hz,e4,e5]) (fun b=>by simp [hi])]
  rfl) (fun a=>by simp)]
 simp only [aA,id];rw [show bZ (fun k x a=>uD (decide (0<k)) x a) 0 p []=aDi p from rfl];show _=some (aKh (aDi p));generalize aDi p=l at hl;cases l with
 | nil=>rfl
 | cons x xs=>
  have e1:decide ((((x::xs).length:Nat):Int)>0)=true:=by simp
  have e2:decide ((0:Int)<(((x::xs).length:Nat):Int))=true:=by simp
  have e3:(0:Int).toNat=0:=rfl;have e4:decide ((0:Int)<=0)=true:=rfl;have e5:decide (0<(x::xs).length)=true:=by simp
  simp only [e1,e2,e3,e4,e5,zZ,cHa,aA,List.set_cons_zero];rcases oR ((x.1,(0:Int),x.2.2)::xs) with h0 | ⟨m,z,hm⟩
  .cases h0
  .have hlen:((x.1,(0:Int),x.2.2)::xs).length=(x::xs).length:=rfl;rw [aXa hm];rw [hm] at hlen ⊢;rw [aId (by omega)];have e6:decide (m.length<(m++[z]).length)=true:=by simp
   simp only [bS,aH6,aL1,e6,zZ,cEf,aA,aRf]
def ends (p:den tPt):q31:=
 match (gX p).head?,(gX p).getLast? with
 | some x,some y=>(x.1,y.1)
 | _,_=>(-1,-1)
theorem bY1 {p:den tPt} (h:tot tPt p<=34359738368):vP p=some (ends p):=by
 unfold vP ends ixb;have hl:=aEe p;rw [aKx h,aA];generalize gX p=l at hl;rcases oR l with rfl | ⟨m,z,rfl⟩
 .rfl
 .rw [aId (by omega)];have e1:(((m++[z]).length:Int)==0)=false:=by simp<;>omega
  have e2:decide ((0:Int)<((m++[z]).length:Int))=true:=by simp<;>omega
  have e3:decide ((0:Int)<=0)=true:=rfl;rw [e1,e2,e3,bS,aH6,cG3];cases m with
  | nil=>rfl
  | cons x m=>simp
theorem cBa {p:den tPt} (h:tot tPt p<=34359738368):vN p=some (ends p):=by
 unfold vN ends ixb;have hl:=aEe p;rw [aH7 h,aA];generalize gX p=l at hl;rcases oR l with rfl | ⟨m,z,rfl⟩
 .rfl
 .rw [aId (by omega)];have e1:(((m++[z]).length:Int)==0)=false:=by simp<;>omega
  have e2:decide ((0:Int)<((m++[z]).length:Int))=true:=by simp<;>omega
  have e3:decide ((0:Int)<=0)=true:=rfl;rw [e1,e2,e3,bS,aH6,cG3];cases m with
  | nil=>rfl
  | cons x m=>simp
def pkR (p:den tPk):q3:=(p.1,p.2.1,p.2.2.1,p.2.2.2.2.1,p.2.2.2.2.2.1,p.2.2.2.2.2.2.1,p.2.2.2.2.2.2.2.1,p.2.2.2.2.2.2.2.2.1,p.2.2.2.1,p.2.2.2.2.2.2.2.2.2)
def cBq (p:den tPt):Int:=match p with
 | []=>0
 | x::_=>x.2.2.1
def aG6 (kind:Int) (p:den tPt) (res seq:Int) (pay:List Int):den tPk:=(kind,(ends p).1,(ends p).2,p,0,0,cBq p,res,seq,pay)
theorem aV8 {kind res seq:Int} {p:den tPt} {pay:List Int} (h:tot tPt p<=34359738368) (hp:pay.length<=68719476736):mG kind p res seq pay=some (pkR (aG6 kind p res seq pay)):=by
 unfold mG zz4 zz5 zz6 zz7;rw [aH1 ((bC h).mono (by decide)),aHx hp,bY1 h];simp only [aA];cases p with
 | nil=>rfl
 | cons x p=>
  have e1:decide (((x::p).length:Int)>0)=true:=by simp
  rw [e1];rfl
theorem aPp {kind res seq:Int} {p:den tPt} {pay:List Int} (h:tot tPt p<=34359738368) (hp:pay.length<=68719476736):cT kind p res seq pay=some (pkR (aG6 kind p res seq pay)):=by
 unfold cT zz4 zz5 zz6 zz7;rw [aIc ((bC h).mono (by decide)),cBa h,aE (b:=1) (n:=([]:List Int).length) (by decide) (by simpa using hp)];simp only [aA,zZ,cEx];cases p with
 | nil=>rfl
 | cons x p=>
  have e1:decide (((x::p).length:Int)>0)=true:=by simp
  rw [e1];rfl
def aM8 (k:Int):Int:=if k=1 then 4 else if k=4 then 1 else if k=2 then 3 else if k=3 then 2 else k
theorem cAl (k:Int):qZ k=some (aM8 k):=by
 unfold qZ aM8
 by_cases h1:k=1
 .subst h1;rfl
 by_cases h2:k=4
 .subst h2;rfl
 by_cases h3:k=2
 .subst h3;rfl
 by_cases h4:k=3
 .subst h4;rfl
 have b1:(k==1)=false:=by simpa using h1
 have b2:(k==4)=false:=by simpa using h2
 have b3:(k==2)=false:=by simpa using h3
 have b4:(k==3)=false:=by simpa using h4
 rw [b1,b2,b3,b4,zS h1,zS h2,zS h3,zS h4];rfl
theorem bZz (k:Int):oN k=some (aM8 k):=by
 unfold oN aM8
 by_cases h1:k=1
 .subst h1;rfl
 by_cases h2:k=4
 .subst h2;rfl
 by_cases h3:k=2
 .subst h3;rfl
 by_cases h4:k=3
 .subst h4;rfl
 have b1:(k==1)=false:=by simpa using h1
 have b2:(k==4)=false:=by simpa using h2
 have b3:(k==2)=false:=by simpa using h3
 have b4:(k==3)=false:=by simpa using h4
 rw [b1,b2,b3,b4,zS h1,zS h2,zS h3,zS h4];rfl
def lA (n:Int):Bool:=inR n 0 2147483646
theorem aHv (n:Int):dT n=some (lA n):=by unfold dT lA;rw [kM];rfl
theorem aFp (n:Int):nE n=some (lA n):=by unfold nE lA;rw [fQ];rfl
def aKf (b s:Int):Int:=if lA b&&lA s then cFa (wr (b+s)) 2147483647 else 0
def aL6 (b s:Int):Int:=if lA b&&lA s then cFa (wr ((wr (b - s))+2147483647)) 2147483647 else 0
theorem bBi (b s:Int):uF b s=some (aKf b s):=by
 unfold uF aKf;simp only [aHv,aA];cases lA b<;>cases lA s<;>rfl
theorem aSu (b s:Int):uJ b s=some (aKf b s):=by
 unfold uJ aKf;simp only [aFp,aA];cases lA b<;>cases lA s<;>rfl
theorem bJu (b s:Int):yU b s=some (aL6 b s):=by
 unfold yU aL6;simp only [aHv,aA];cases lA b<;>cases lA s<;>rfl
theorem bMl (b s:Int):yS b s=some (aL6 b s):=by
 unfold yS aL6;simp only [aFp,aA];cases lA b<;>cases lA s<;>rfl
def aD5 (k:Int) (b:Int) (h:den bU):Int:=if kW k then aL6 b h.2.2.2.2 else aKf b h.2.2.2.2
def aBc (p:den tPp) (n:Nat):Int:=(p.2.2.2.take n).foldl (aD5 p.1) p.2.2.1
theorem aV7 {p:den tPp} {n:Nat} (hn:n<=p.2.2.2.length) (hl:p.2.2.2.length<=68719476736):kE p (n:Int)=some (aBc p n):=by
 unfold kE aBc zz4;have e1:inR (n:Int) 0 (p.2.2.2.length:Int)=true:=by rw [bQ];omega
 have e2:bX (0:Int) (n:Int) (p.2.2.2.length:Int)=true:=by simp [bX];omega
 rw [kM,e1,aA,e2,fR];have hlen:(p.2.2.2.take n).length<=4611686018427387904:=by rw [cFl];omega
 rw [fO (fun k (b:Int)=>(b,(k:Int))) (p.2.2.1,(0:Int)) p.2.2.1 (p.2.2.2.take n) (fun _ h b=>aD5 p.1 b h) (fun _=>0) (fun _=>0) 0 id rfl hlen (by rw [sum_nil];exact cEr _) (fun _ _ _=>cEr _) (fun k x b hi hx hd hw hk hb=>by
  simp only [hd,hi,hw,zZ,aA,aHz,bJu,bBi,aD5];cases kW p.1<;>rfl) (fun b=>by simp),sM (fun b h=>aD5 p.1 b h)]
 rfl
theorem aVh {p:den tPp} {n:Nat} (hn:n<=p.2.2.2.length) (hl:p.2.2.2.length<=68719476736):iX p (n:Int)=some (aBc p n):=by
 unfold iX aBc zz4;have e1:inR (n:Int) 0 (p.2.2.2.length:Int)=true:=by rw [bQ];omega
 have e3:(p.2.2.2.take n).length=n:=by rw [cFl];omega
 rw [fQ,e1,aA];rw [fO (fun k (b:Int)=>(b,(k:Int))) (p.2.2.1,(0:Int)) p.2.2.1 (p.2.2.2.take n) (fun _ h b=>aD5 p.1 b h) (fun _=>0) (fun _=>0) 0 id rfl (by rw [e3];omega) (by rw [sum_nil];exact cEr _) (fun _ _ _=>cEr _) (fun k x b hi hx hd hw hk hb=>by
  have hx':p.2.2.2[k]? =some x:=by rw [List.getElem?_take] at hx;split at hx;exact hx;cases hx
  rw [e3] at hd;simp only [hd,hw,zZ,aA,aH,hx',aH2,bMl,aSu,aD5];cases kW p.1<;>rfl) (fun b=>by rw [e3];simp),sM (fun b h=>aD5 p.1 b h)]
 rfl
def aBb (p:den tPp):den tPp:=(aM8 p.1,p.2.1,aBc p p.2.2.2.length,p.2.2.2.reverse)
theorem bJ0 {l:cF} (hl:l.length<=68719476736):kB l=some l.reverse:=by
 unfold kB pj5;have e:wr ((l.length:Int) - 1)=(l.length:Int) - 1:=oF hl;rw [e,aY1 (fun k (a:cF)=>(k,a)) ((l.length:Int) - 1,[]) [] l (fun x a=>a++[x]) cEo (fun _=>1) 68719476736 id rfl (by omega) (by rw [dS];simpa using hl) (fun x a=>by simp) (fun k x a hi hx hd hw hk hb=>by
  simp only [hd,hi,hw,zZ,aA,aP,aE (b:=40) (n:=a.length) (m:=1) (by decide) hb]) (fun a=>by simp),aGu (fun x=>x)]
 simp
theorem bWk {p:den tPp} (hl:p.2.2.2.length<=68719476736):rD p=some (aBb p):=by
 unfold rD aBb pj4;simp only [cAl,aP,aV7 (cEr _) hl,bJ0 hl,aA]
theorem bVv {p:den tPp} (hl:p.2.2.2.length<=68719476736):qX p=some (aBb p):=by
 unfold qX aBb pj4 pj5 zz4;simp only [bZz,aP,aVh (cEr _) hl,aT,bF,aX,aY,bA,aA];have e:wr ((p.2.2.2.length:Int) - 1)=(p.2.2.2.length:Int) - 1:=oF hl;rw [e,aY1 (fun k (a:cF)=>(k,aM8 p.1,p.2.1,aBc p p.2.2.2.length,a)) ((p.2.2.2.length:Int) - 1,aM8 p.1,p.2.1,aBc p p.2.2.2.length,[]) [] p.2.2.2 (fun x a=>a++[x]) cEo (fun _=>1) 68719476736 (fun a=>(aM8 p.1,p.2.1,aBc p p.2.2.2.length,a)) rfl (by omega) (by rw [dS];simpa using hl) (fun x a=>by simp) (fun k x a hi hx hd hw hk hb=>by
  simp only [hd,hi,hw,zZ,aA,aP,aE (b:=40) (n:=a.length) (m:=1) (by decide) hb]) (fun a=>by simp),aGu (fun x=>x)]
 simp
def aE0 (p:den tPt):den tPt:=p.reverse.map aBb
theorem bJ7 {p:den tPt} (h:SmB 68719476736 tPt p):mI p=some (aE0 p):=by
 unfold mI aE0 pj4;have e:wr ((p.length:Int) - 1)=(p.length:Int) - 1:=oF h.1;rw [e,aY1 (fun k (a:lPp)=>(k,a)) ((p.length:Int) - 1,[]) [] p (fun x a=>a++[aBb x]) cEo (fun _=>1) 68719476736 id rfl (by have :=h.1;omega) (by rw [dS];simpa using h.1) (fun x a=>by simp) (fun k x a hi hx hd hw hk hb=>by
  have hxl:=(h.2 x (cEn hx)).2.2.2.1;simp only [hd,hi,hw,zZ,aA,aP,bWk hxl,aE (b:=48) (n:=a.length) (m:=1) (by decide) hb]) (fun a=>by simp),aGu aBb]
 simp
theorem bMh {p:den tPt} (h:SmB 68719476736 tPt p):mM p=some (aE0 p):=by
 unfold mM aE0 pj4;have e:wr ((p.length:Int) - 1)=(p.length:Int) - 1:=oF h.1;rw [e,aY1 (fun k (a:lPp)=>(k,a)) ((p.length:Int) - 1,[]) [] p (fun x a=>a++[aBb x]) cEo (fun _=>1) 68719476736 id rfl (by have :=h.1;omega) (by rw [dS];simpa using h.1) (fun x a=>by simp) (fun k x a hi hx hd hw hk hb=>by
  have hxl:=(h.2 x (cEn hx)).2.2.2.1;simp only [hd,hi,hw,zZ,aA,aP,bVv hxl,aE (b:=48) (n:=a.length) (m:=1) (by decide) hb]) (fun a=>by simp),aGu aBb]
 simp
theorem bJx (p:den tPp):tot tPp (aBb p)=tot tPp p:=by
 show tot ti _+(tot ti _+(tot ti _+tot (.sl bU) p.2.2.2.reverse))=tot ti _+(tot ti _+(tot ti _+tot (.sl bU) p.2.2.2));rw [aUb];rfl
theorem aS5 {t:Ty} (g:den t->den t) (hg: ∀ x,tot t (g x)=tot t x): ∀ l:List (den t),tot (.sl t) (l.map g)=tot (.sl t) l
 | []=>rfl
 | x::l=>by rw [cEv,iM,iM,hg,aS5 g hg l]
theorem aFv (p:den tPt):tot tPt (aE0 p)=tot tPt p:=by
 show tot (.sl tPp) (p.reverse.map aBb)=tot (.sl tPp) p;rw [aS5 aBb bJx,aUb]
def aPa (pk:den tPk) (kind seq:Int) (pay:List Int):den tPk:=aG6 kind (aE0 pk.2.2.2.1) pk.2.2.2.2.2.2.2.1 seq pay
theorem bWf {pk:den tPk} {kind seq:Int} {pay:List Int} (h:tot tPt pk.2.2.2.1<=34359738368) (hp:pay.length<=68719476736):aEa pk kind seq pay=some (pkR (aPa pk kind seq pay)):=by
 unfold aEa aPa aI zz7;rw [bJ7 ((bC h).mono (by decide)),aA,aV8 (by rw [aFv];exact h) hp];rfl
theorem bV8 {pk:den tPk} {kind seq:Int} {pay:List Int} (h:tot tPt pk.2.2.2.1<=34359738368) (hp:pay.length<=68719476736):aEc pk kind seq pay=some (pkR (aPa pk kind seq pay)):=by
 unfold aEc aPa aI zz7;rw [bMh ((bC h).mono (by decide)),aA,aPp (by rw [aFv];exact h) hp];rfl
def pk0:den tPk:=(0,0,0,[],0,0,0,0,0,[])
def pkB (p:den tPk) (b:Bool):q7:=(p.1,p.2.1,p.2.2.1,p.2.2.2.2.1,p.2.2.2.2.2.1,p.2.2.2.2.2.2.1,p.2.2.2.2.2.2.2.1,p.2.2.2.2.2.2.2.2.1,b,p.2.2.2.1,p.2.2.2.2.2.2.2.2.2)
def aFc (x:den tIb) (p:den tPk):Bool:=aC5 x p&& !decide (p.2.2.2.2.2.2.2.2.1>=x.2.2.1)
def pS (x:den tIb) (p:den tPk):den tPk:=if aFc x p then aPa p 2 p.2.2.2.2.2.2.2.2.1 [] else pk0
theorem bW1 {x:den tIb} {p:den tPk} (h:tot tPt p.2.2.2.1<=34359738368):yC x p=some (pkB (pS x p) (aFc x p)):=by
 unfold yC pS aFc aI pj2 pj4 zz4 zz5 zz6 zz7 zz8;simp only [aP,bDw,aA,bWf (pay:=[]) h (by simp)];cases aC5 x p<;>cases decide (p.2.2.2.2.2.2.2.2.1>=x.2.2.1)<;>rfl
theorem bVo {x:den tIb} {p:den tPk} (h:tot tPt p.2.2.2.1<=34359738368):xM x p=some (pkB (pS x p) (aFc x p)):=by
 unfold xM pS aFc aI pj2 pj4 zz4 zz5 zz6 zz7 zz8;simp only [aP,bD8,aA,bV8 (pay:=[]) h (by simp)];cases aC5 x p<;>cases decide (p.2.2.2.2.2.2.2.2.1>=x.2.2.1)<;>rfl
def aAu (f:den tFl):Bool:=inR f.2.2.2.2.2.2.1 0 ((f.2.2.2.2.2.1.length:Int) - 1)&&inR f.2.2.2.1 0 ((f.2.2.2.2.1.length:Int) - 1)
def zH (f:den tFl):den tPk:=
 if aAu f then aG6 1 ((f.2.2.2.2.2.1[f.2.2.2.2.2.2.1.toNat]?).getD []) f.2.2.1 f.2.2.2.1 ((f.2.2.2.2.1[f.2.2.2.1.toNat]?).getD []) else pk0
theorem bBm {t:Ty} {l:List (den t)} {d:den t} {i:Nat} (hd:tot t d=0):tot t ((l[i]?).getD d)<=tot (.sl t) l:=by
 cases h:l[i]? with
 | none=>simp [hd]
 | some x=>have :=wX h;simp;omega
theorem bDh {f:den tFl} (h:tot tFl f<=34359738368):fE f=some (pkB (zH f) (aAu f)):=by
 have h0:=bE (bE (bE (bE h)));have hm:=aHa h0;have hp:=aHa (bE h0);have l1:=dE f.2.2.2.2.1;have l2:=dE f.2.2.2.2.2.1;unfold fE zH aAu pj2 zz4 zz5 zz6 zz7 zz8;simp only [kM,oF (n:=f.2.2.2.2.2.1.length) (by omega),oF (n:=f.2.2.2.2.1.length) (by omega),aA];cases c1:inR f.2.2.2.2.2.2.1 0 ((f.2.2.2.2.2.1.length:Int) - 1) with
 | false=>rfl
 | true=>
  cases c2:inR f.2.2.2.1 0 ((f.2.2.2.2.1.length:Int) - 1) with
  | false=>rfl
  | true=>
   rw [bQ] at c1 c2;rw [aTy c1.1 (by omega),aTy c2.1 (by omega)];have e1:f.2.2.2.2.2.1[f.2.2.2.2.2.2.1.toNat]? =some (f.2.2.2.2.2.1[f.2.2.2.2.2.2.1.toNat]'(by omega)):=cEb (by omega);have e2:f.2.2.2.2.1[f.2.2.2.1.toNat]? =some (f.2.2.2.2.1[f.2.2.2.1.toNat]'(by omega)):=cEb (by omega);have t1:=wX e1;have t2:=wX e2;have t3:=dE (t:=tb) (f.2.2.2.2.1[f.2.2.2.1.toNat]'(by omega));simp only [aA,cEc,zY];rw [aV8 (by omega) (by have t2:1+tot (.sl tb) _<=_:=t2;omega),e1,e2];rfl
theorem bD3 {f:den tFl} (h:tot tFl f<=34359738368):fF f=some (pkB (zH f) (aAu f)):=by
 have h0:=bE (bE (bE (bE h)));have hm:=aHa h0;have hp:=aHa (bE h0);have l1:=dE f.2.2.2.2.1;have l2:=dE f.2.2.2.2.2.1;unfold fF zH aAu pj2 zz4 zz5 zz6 zz7 zz8;simp only [fQ,oF (n:=f.2.2.2.2.2.1.length) (by omega),oF (n:=f.2.2.2.2.1.length) (by omega),aA];cases c1:inR f.2.2.2.2.2.2.1 0 ((f.2.2.2.2.2.1.length:Int) - 1) with
 | false=>cases inR f.2.2.2.1 0 ((f.2.2.2.2.1.length:Int) - 1)<;>rfl
 | true=>
  cases c2:inR f.2.2.2.1 0 ((f.2.2.2.2.1.length:Int) - 1) with
  | false=>rfl
  | true=>
   rw [bQ] at c1 c2;rw [aTy c1.1 (by omega),aTy c2.1 (by omega)];have e1:f.2.2.2.2.2.1[f.2.2.2.2.2.2.1.toNat]? =some (f.2.2.2.2.2.1[f.2.2.2.2.2.2.1.toNat]'(by omega)):=cEb (by omega);have e2:f.2.2.2.2.1[f.2.2.2.1.toNat]? =some (f.2.2.2.2.1[f.2.2.2.1.toNat]'(by omega)):=cEb (by omega);have t1:=wX e1;have t2:=wX e2;have t3:=dE (t:=tb) (f.2.2.2.2.1[f.2.2.2.1.toNat]'(by omega));simp only [aA,cEc,zY];rw [aPp (by omega) (by have t2:1+tot (.sl tb) _<=_:=t2;omega),e1,e2];rfl
def xH (f:den tFl):Int:=if wr (f.2.2.2.2.2.2.1+1)>=(f.2.2.2.2.2.1.length:Int) then 0 else wr (f.2.2.2.2.2.2.1+1)
def pN (f:den tFl) (c w:Int):den tFl:=(f.1,f.2.1,f.2.2.1,f.2.2.2.1,f.2.2.2.2.1,f.2.2.2.2.2.1,c,w,f.2.2.2.2.2.2.2.2)
theorem aJo (f:den tFl) (c w:Int):tot tFl (pN f c w)=tot tFl f:=rfl
def aF (f:den tFl):den tFl×den tPk×Bool:=
 if aAu f then
  if f.2.2.2.2.2.2.2.1==0 then (pN f f.2.2.2.2.2.2.1 1,zH f,true)
  else if f.2.2.2.2.2.2.2.1==4 then (pN f (xH f) 1,zH (pN f (xH f) 1),aAu (pN f (xH f) 1))
  else (pN f f.2.2.2.2.2.2.1 (wr (f.2.2.2.2.2.2.2.1+1)),pk0,false)
 else (pN f f.2.2.2.2.2.2.1 0,pk0,false)
def eE (f:den tFl) (p:den tPk) (b:Bool):q9:=
 (f.1,f.2.1,f.2.2.1,f.2.2.2.1,f.2.2.2.2.2.2.1,f.2.2.2.2.2.2.2.1,p.1,p.2.1,p.2.2.1,p.2.2.2.2.1,p.2.2.2.2.2.1,p.2.2.2.2.2.2.1,p.2.2.2.2.2.2.2.1,p.2.2.2.2.2.2.2.2.1,b,f.2.2.2.2.1,f.2.2.2.2.2.1,f.2.2.2.2.2.2.2.2,p.2.2.2.1,p.2.2.2.2.2.2.2.2.2)
theorem bDo (f:den tFl):rX f=some (xH f):=by
 unfold rX xH zz5 zz6
 by_cases h:wr (f.2.2.2.2.2.2.1+1)>=(f.2.2.2.2.2.1.length:Int)
 .rw [zX h,zT h];rfl
 .rw [zW h,zS h];rfl
theorem bXk {f:den tFl} (h:tot tFl f<=34359738368):xP f=some (eE (aF f).1 (aF f).2.1 (aF f).2.2):=by
 unfold xP aF pj2 pj9 aL aU aV bV eC zz4 zz5 zz6 zz7 zz8 zz9;have e:fE (f.1,f.2.1,f.2.2.1,f.2.2.2.1,f.2.2.2.2.1,f.2.2.2.2.2.1,xH f,1,f.2.2.2.2.2.2.2.2)=some (pkB (zH (pN f (xH f) 1)) (aAu (pN f (xH f) 1))):=bDh (f:=pN f (xH f) 1) h;simp only [aP,aHu ((bC h).mono (by decide)),bDh h,bDo,aA,aT,bF,aX,aY,bA,qA,e];cases c1:aAu f with
 | false=>simp only [pkB,cEm,zZ];rfl
 | true=>
  simp only [pkB,cEc,zY,zV];cases c2:f.2.2.2.2.2.2.2.1==0 with
  | true=>rfl
  | false=>
   cases c3:f.2.2.2.2.2.2.2.1==4 with
   | true=>rfl
   | false=>rfl
theorem bRh {c:Int} {n:Nat} (h0:0<=c) (h1:c<=(n:Int) - 1) (hn:n<=68719476736):inR c 0 (wr ((n:Int) - 2))= !decide (wr (c+1)>=(n:Int)):=by
 have e1:wr ((n:Int) - 2)=(n:Int) - 2:=wri (by omega) (by omega);have e2:wr (c+1)=c+1:=wri (by omega) (by omega);rw [e1,e2,cEz,bQ];simp;omega
theorem bMo {f:den tFl} (h:SmB 68719476736 tFl f) (hs:inR f.2.2.2.2.2.2.1 0 ((f.2.2.2.2.2.1.length:Int) - 1)=true):vU f=some (qA (pN f (xH f) f.2.2.2.2.2.2.2.1)):=by
 unfold vU xH pj3 pj9 zz4 zz5 zz6;have hl:=h.2.2.2.2.2.1.1;rw [bQ] at hs;simp only [aP,aFw h,fQ,bRh hs.1 hs.2 hl,aA,qA]
 by_cases hc:wr (f.2.2.2.2.2.2.1+1)>=(f.2.2.2.2.2.1.length:Int)
 .rw [zX hc,zT hc];rfl
 .rw [zW hc,zS hc];rfl
theorem bWy {f:den tFl} (h:tot tFl f<=34359738368):yM f=some (eE (aF f).1 (aF f).2.1 (aF f).2.2):=by
 unfold yM aF pj2 pj9 aL aU aV bV eC zz4 zz5 zz6 zz7 zz8 zz9;have sm:SmB 68719476736 tFl f:=(bC h).mono (by decide);have e:fF (f.1,f.2.1,f.2.2.1,f.2.2.2.1,f.2.2.2.2.1,f.2.2.2.2.2.1,xH f,1,f.2.2.2.2.2.2.2.2)=some (pkB (zH (pN f (xH f) 1)) (aAu (pN f (xH f) 1))):=bD3 (f:=pN f (xH f) 1) h;simp only [aP,aFw sm,bD3 h,aA,aT,bF,aX,aY,bA];cases c1:aAu f with
 | false=>simp only [pkB,qA,cEm,zZ];rfl
 | true=>
  have hs:inR f.2.2.2.2.2.2.1 0 ((f.2.2.2.2.2.1.length:Int) - 1)=true:=by
   unfold aAu at c1;simp only [cEe] at c1;exact c1.1
  rw [bMo sm hs];simp only [pkB,qA,pN,aA,cEc,zY,zV,e];cases c2:f.2.2.2.2.2.2.2.1==0 with
  | true=>rfl
  | false=>
   cases c3:f.2.2.2.2.2.2.2.1==4 with
   | true=>rfl
   | false=>rfl
def cQ (p:den tPk):Bool:=inR p.2.2.2.2.1 0 ((p.2.2.2.1.length:Int) - 1)&&inR p.2.2.2.2.2.1 0 (((((p.2.2.2.1[p.2.2.2.2.1.toNat]?).getD (0,0,0,[])).2.2.2.length:Nat):Int) - 1)
def dF (p:den tPk):Int:=if cQ p then ((((p.2.2.2.1[p.2.2.2.2.1.toNat]?).getD (0,0,0,[])).2.2.2[p.2.2.2.2.2.1.toNat]?).getD (0,0,0,0,0)).1 else -1
theorem aEz {p:den tPk} (h:cQ p=true): ∃ (i j:Nat) (x:den tPp) (y:den bU),p.2.2.2.2.1=(i:Int)/\p.2.2.2.2.2.1=(j:Int)/\p.2.2.2.1[i]? =some x/\x.2.2.2[j]? =some y/\dF p=y.1:=by
 have h':=h;unfold cQ at h';simp only [cEe,bQ] at h';obtain ⟨⟨h1,h2⟩,h3,h4⟩:=h';obtain ⟨x,hx⟩:=aCo h1 h2;rw [hx,cE3] at h4;obtain ⟨y,hy⟩:=aCo h3 h4;refine ⟨p.2.2.2.2.1.toNat,p.2.2.2.2.2.1.toNat,x,y,(cGn h1).symm,(cGn h3).symm,hx,hy,?_⟩;unfold dF;rw [h,zT rfl,hx,cE3,hy,cE3]
theorem aCe {p:den tPk} (c:cQ p=false):dF p= -1:=by unfold dF;rw [c];rfl
theorem bSm {p:den tPk} (h:SmB 68719476736 tPk p):zB p=some (cQ p):=by
 unfold zB cQ zz4 zz5;have l1:=h.2.2.2.1.1;rw [kM,oF l1,aA];cases c1:inR p.2.2.2.2.1 0 ((p.2.2.2.1.length:Int) - 1) with
 | false=>rfl
 | true=>
  rw [bQ] at c1;obtain ⟨x,hx⟩:=aCo c1.1 c1.2;rw [aKm c1.1 hx,hx];have l2:=(h.2.2.2.1.2 _ (cEn hx)).2.2.2.1;simp only [zZ,aA,kM,oF l2,cE3,cEs]
theorem aIa {p:den tPk} (h:SmB 68719476736 tPk p):eL p=some (dF p):=by
 unfold eL aI zz4 zz5;simp only [aP,bSm h,aA];cases c:cQ p with
 | false=>rw [aCe c];rfl
 | true=>
  obtain ⟨i,j,x,y,h1,h2,h3,h4,h5⟩:=aEz c;rw [h1,h2,h5];simp only [cEc,zY,aH,h3,h4,aA]
theorem aH9 {p:den tPk} (h:SmB 68719476736 tPk p):eM p=some (dF p):=by
 unfold eM zz4 zz5;have l1:=h.2.2.2.1.1;rw [fQ,oF l1,aA];cases c1:inR p.2.2.2.2.1 0 ((p.2.2.2.1.length:Int) - 1) with
 | false=>rw [aCe (by unfold cQ;rw [c1];rfl)];rfl
 | true=>
  have c1':=c1;rw [bQ] at c1';obtain ⟨x,hx⟩:=aCo c1'.1 c1'.2;rw [aKm c1'.1 hx];have l2:=(h.2.2.2.1.2 _ (cEn hx)).2.2.2.1;simp only [cEc,zY,aA,fQ,oF l2];cases c2:inR p.2.2.2.2.2.1 0 ((x.2.2.2.length:Int) - 1) with
  | false=>rw [aCe (by unfold cQ;rw [c1,hx,cE3,c2];rfl)];rfl
  | true=>
   have c:cQ p=true:=by unfold cQ;rw [c1,hx,cE3,c2];rfl
   rw [bQ] at c2;obtain ⟨y,hy⟩:=aCo c2.1 c2.2;rw [aKm c2.1 hy];unfold dF;rw [c,zT rfl,hx,cE3,hy,cE3];rfl
def aKn (p:den tPt) (i j:Nat):den tPt:=
 match p[i]? with
 | some x=>p.take i++[(x.1,x.2.1,x.2.2.1,x.2.2.2.take (j+1))]
 | none=>[]
def uK (p:den tPk):den tPt:=if dF p<0 then [] else aKn p.2.2.2.1 p.2.2.2.2.1.toNat p.2.2.2.2.2.1.toNat
theorem bBn {p:den tPk} (h:SmB 68719476736 tPk p):iL p=some (uK p):=by
 unfold iL uK aI zz4 zz5;simp only [aP,aIa h,aA]
 by_cases hc:dF p<0
 .rw [zX hc,zZ,zT hc]
 .rw [zW hc,zY,zS hc];cases c:cQ p with
  | false=>rw [aCe c] at hc;exact absurd (by decide) hc
  | true=>
   obtain ⟨i,j,x,y,h1,h2,h3,h4,h5⟩:=aEz c;have l1:=h.2.2.2.1.1;have l2:=(h.2.2.2.1.2 _ (cEn h3)).2.2.2.1;have hi:=(cEj.1 h3).1;have hj:=(cEj.1 h4).1;have e1:wr ((i:Int)+1)=((i+1:Nat):Int):=by have :wr ((i:Int)+1)=(i:Int)+1:=wri (by omega) (by omega);rw [this];rfl
   have e2:wr ((j:Int)+1)=((j+1:Nat):Int):=by have :wr ((j:Int)+1)=(j:Int)+1:=wri (by omega) (by omega);rw [this];rfl
   have e3:bX (0:Int) ((i+1:Nat):Int) (p.2.2.2.1.length:Int)=true:=by simp [bX];omega
   have e4:bX (0:Int) ((j+1:Nat):Int) (x.2.2.2.length:Int)=true:=by simp [bX];omega
   have e5:p.2.2.2.1.take (i+1)=p.2.2.2.1.take i++[x]:=aOk h3;have e6:(p.2.2.2.1.take i).length=i:=by rw [cFl];omega
   rw [h1,h2,e1,e2,aH1 h.2.2.2.1,aA,e3,zZ];simp only [cEf,e5];have e7:decide ((i:Int)<((p.2.2.2.1.take i++[x]).length:Int))=true:=by simp;omega
   have e8:(p.2.2.2.1.take i++[x])[i]? =some x:=by rw [List.getElem?_append_right (by omega),e6];simp
   have e9: ∀ z,(p.2.2.2.1.take i++[x]).set i z=p.2.2.2.1.take i++[z]:=fun z=>by rw [List.set_append_right _ _ (by omega),e6];simp
   simp only [bS,e7,e8,e4,e9,zZ,aA,fR];unfold aKn;rw [h3]
theorem bAy {p:den tPk} (h:SmB 68719476736 tPk p):iR p=some (uK p):=by
 unfold iR uK aI pj4 zz4 zz5;simp only [aP,aH9 h,aA]
 by_cases hc:dF p<0
 .rw [zX hc,zZ,zT hc]
 .rw [zW hc,zY,zS hc];cases c:cQ p with
  | false=>rw [aCe c] at hc;exact absurd (by decide) hc
  | true=>
   obtain ⟨i,j,x,y,h1,h2,h3,h4,h5⟩:=aEz c;have l1:=h.2.2.2.1.1;have hi:=(cEj.1 h3).1;have hj:=(cEj.1 h4).1;have l2:=(h.2.2.2.1.2 _ (cEn h3)).2.2.2.1;have e2:wr ((j:Int)+1)=((j+1:Nat):Int):=by have :wr ((j:Int)+1)=(j:Int)+1:=wri (by omega) (by omega);rw [this];rfl
   have e4:bX (0:Int) ((j+1:Nat):Int) (x.2.2.2.length:Int)=true:=by simp [bX];omega
   have e5:p.2.2.2.1.take (i+1)=p.2.2.2.1.take i++[x]:=aOk h3;have e6:(p.2.2.2.1.take (i+1)).length=i+1:=by rw [cFl];omega
   rw [h1,h2,e2]
   let cutX:Nat->den tPp->den tPp:=fun k z=>if k=i then (z.1,z.2.1,z.2.2.1,z.2.2.2.take (j+1)) else z
   rw [fO (fun k (a:lPp)=>((k:Int),a)) ((0:Int),[]) [] (p.2.2.2.1.take (i+1)) (fun k z a=>a++[cutX k z]) cEo (fun _=>1) 68719476736 id rfl (by omega) (by rw [dS];simp;omega) (fun k z a=>by simp) (fun k z a hz hx hd hw hk hb=>by
    rw [e6] at hd hk;have hz':=(aK8 hx).1;have hd':decide ((k:Int)<=(i:Int))=true:=by simp;omega
    have sz:=h.2.2.2.1.2 _ (cEn hz');simp only [hd',hw,zZ,aA,aH,hz',aP,aQ1 sz]
    by_cases hki:k=i
    .subst hki;rw [h3] at hz';injection hz' with hz';subst hz';have e7:((k:Int)==(k:Int))=true:=by simp
     simp only [e7,zZ,e4,aA,fR,aE (b:=48) (n:=a.length) (m:=1) (by decide) hb,cutX,zV]
    .have e7:((k:Int)==(i:Int))=false:=by simp;omega
     simp only [e7,zY,aA,aE (b:=48) (n:=a.length) (m:=1) (by decide) hb,zZ,cutX,zS hki]) (fun a=>by
    have e10:decide (((i+1:Nat):Int)<=(i:Int))=false:=by simp<;>omega
    rw [e6];simp only [e10,zY];rfl)]
   have key: ∀ (l:lPp) (k:Nat) (a:lPp),k+l.length<=i->bZ (fun k z a=>a++[cutX k z]) k l a=a++l:=by
    intro l
    induction l with
    | nil=>intro k a _;simp [bZ]
    | cons z l ih=>
     intro k a hk;simp only [cE8] at hk;simp only [bZ];rw [ih (k+1) _ (by omega)];have :cutX k z=z:=zS (by omega);rw [this];simp
   have fa: ∀ (l:lPp) (z:den tPp) (k:Nat) (a:lPp),bZ (fun k z a=>a++[cutX k z]) k (l++[z]) a=bZ (fun k z a=>a++[cutX k z]) k l a++[cutX (k+l.length) z]:=by
    intro l
    induction l with
    | nil=>intro z k a;rfl
    | cons y l ih=>
     intro z k a;simp only [List.cons_append,bZ,cE8];rw [ih];congr 3;omega
   have e8:(p.2.2.2.1.take i).length=i:=by rw [cFl];omega
   rw [e5,fa,key _ 0 [] (by omega),e8];have :cutX (0+i) x=(x.1,x.2.1,x.2.2.1,x.2.2.2.take (j+1)):=zT (by omega);rw [this];unfold aKn;rw [cEf,cEf,h3];rfl
theorem bC6 (p:den tPt) (i j:Nat):tot tPt (aKn p i j)<=tot tPt p:=by
 unfold aKn;cases h:p[i]? with
 | none=>exact cEt _
 | some x=>
  have h1:tot tPt (p.take (i+1))<=tot tPt p:=aRk (t:=tPp) p (i+1);rw [aOk h] at h1;have h2:tot (.sl tPp) (p.take i++[x])<=tot (.sl tPp) p:=h1;show tot (.sl tPp) (p.take i++[(x.1,x.2.1,x.2.2.1,x.2.2.2.take (j+1))])<=tot (.sl tPp) p;rw [rT,aFs] at h2 ⊢;have h3:tot tPp (x.1,x.2.1,x.2.2.1,x.2.2.2.take (j+1))<=tot tPp x:=by
   have :=aRk (t:=bU) x.2.2.2 (j+1);show 0+(0+(0+tot (.sl bU) (x.2.2.2.take (j+1))))<=0+(0+(0+tot (.sl bU) x.2.2.2));omega
  omega
theorem aEo (p:den tPk):tot tPt (uK p)<=tot tPt p.2.2.2.1:=by
 unfold uK;split
 .exact cEt _
 .exact bC6 _ _ _
def vi:Nat->Nat->List Int
 | 0,n=>[(n:Int)]
 | k+1,n=>if n<128 then [(n:Int)] else (((n % 128+128:Nat):Int))::vi k (n / 128)
theorem bMm: ∀ (k n:Nat),(vi k n).length<=k+1
 | 0,n=>by simp [vi]
 | k+1,n=>by
  unfold vi;split
  .simp
  .have :=bMm k (n / 128);simp only [cE8];omega
theorem aFq {n:Nat} (h:n<256):IntKind.wrap .u8 (n:Int)=(n:Int):=by
 simp only [IntKind.wrap,IntKind.signed,IntKind.bits];simp;omega
theorem bZx: ∀ (k n:Nat) (out:List Int),n<128 ^ (k+1)->out.length+k+1<=68719476736->n<9223372036854775808->(@Option.bind q36 (lI) (@aC q36 q36 (fun (s4:Int×lI)=>cond (decide (s4.1>=(128:Int))) (cond (aG 1 s4.2.length 1) (some (cD9 (wr (Int.tdiv s4.1 (128:Int)),s4.2++[IntKind.wrap .u8 (wr ((cFa s4.1 (128:Int))+(128:Int)))]))) none) (some (cD8 (s4.1,s4.2)))) ((n:Int),out)) fun (s5:Int×lI)=>cond (aG 1 s5.2.length 1) (some (s5.2++[IntKind.wrap .u8 s5.1])) none)=some (out++vi k n)
 | 0,n,out,hn,ho,hb=>by
  have hn:n<128:=by simpa using hn
  have e1:decide ((n:Int)>=128)=false:=by simp;omega
  rw [bI (r:=((n:Int),out)) (by simp only [e1,zY]),aA];simp only [aE (b:=1) (n:=out.length) (m:=1) (by decide) (by omega),zZ,aFq (n:=n) (by omega),vi]
 | k+1,n,out,hn,ho,hb=>by
  by_cases h:n<128
  .have e1:decide ((n:Int)>=128)=false:=by simp;omega
   rw [bI (r:=((n:Int),out)) (by simp only [e1,zY]),aA];simp only [aE (b:=1) (n:=out.length) (m:=1) (by decide) (by omega),zZ,aFq (n:=n) (by omega),vi,zT h]
  .have e1:decide ((n:Int)>=128)=true:=by simp;omega
   have hd:n / 128<128 ^ (k+1):=by rw [Nat.div_lt_iff_lt_mul (by decide)];rw [Nat.pow_succ] at hn;exact hn
   have e2:Int.tdiv (n:Int) 128=((n / 128:Nat):Int):=rfl;have e3:cFa (n:Int) 128=((n % 128:Nat):Int):=rfl;have e4:wr (((n % 128:Nat):Int)+128)=((n % 128+128:Nat):Int):=by
    have :wr (((n % 128:Nat):Int)+128)=((n % 128:Nat):Int)+128:=wri (by omega) (by omega);rw [this];rfl
   have e5:wr ((n / 128:Nat):Int)=((n / 128:Nat):Int):=wri (by omega) (by omega);rw [cX (s':=(((n / 128:Nat):Int),out++[((n % 128+128:Nat):Int)])) (by
    simp only [e1,zZ,aE (b:=1) (n:=out.length) (m:=1) (by decide) (by omega),e2,e3,e4,e5,aFq (n:=n % 128+128) (by omega)])]
   rw [bZx k (n / 128) _ hd (by simp;omega) (by omega)];simp only [vi,zS h,cFc,cHf]
theorem aY5 {n:Nat} (h:n<9223372036854775808):aA3 .i64 (n:Int) 127=((n % 128:Nat):Int):=by
 have e:(BitVec.ofInt 64 (n:Int) &&& BitVec.ofInt 64 127).toNat=n % 128:=by
  rw [BitVec.toNat_and];have e1:(BitVec.ofInt 64 (n:Int)).toNat=n:=by simp;omega
  have e2:(BitVec.ofInt 64 127).toNat=2 ^ 7 - 1:=by decide
  rw [e1,e2,Nat.and_two_pow_sub_one_eq_mod]
 unfold aA3;show IntKind.i64.wrap (((BitVec.ofInt 64 (n:Int) &&& BitVec.ofInt 64 127).toNat:Nat):Int)=_;rw [e];exact wri (by omega) (by omega)
theorem bVx {n:Nat} (h:n<128):bOr .i64 (n:Int) 128=((n+128:Nat):Int):=by
 have e:(BitVec.ofInt 64 (n:Int) ||| BitVec.ofInt 64 128).toNat=n+128:=by
  rw [BitVec.toNat_or];have e1:(BitVec.ofInt 64 (n:Int)).toNat=n:=by simp;omega
  have e2:(BitVec.ofInt 64 128).toNat=128:=by decide
  rw [e1,e2,Nat.or_comm];have :=Nat.two_pow_add_eq_or_of_lt (i:=7) (b:=n) h 1;simp only [Nat.mul_one] at this;rw [<- this];omega
 unfold bOr;show IntKind.i64.wrap (((BitVec.ofInt 64 (n:Int) ||| BitVec.ofInt 64 128).toNat:Nat):Int)=_;rw [e];exact wri (by omega) (by omega)
theorem cCo (n:Nat):shr .i64 (n:Int) 7=((n / 128:Nat):Int):=by
 unfold shr;show Int.fdiv (n:Int) (2 ^ 7)=_;rw [Int.fdiv_eq_ediv_of_nonneg _ (by decide)];rfl
theorem cAw: ∀ (k n:Nat) (out:List Int),n<128 ^ (k+1)->out.length+k+1<=68719476736->n<9223372036854775808->(@Option.bind q36 (lI) (@aC q36 q36 (fun (s3:Int×lI)=>cond (decide (s3.1>(127:Int))) (cond (aG 1 s3.2.length 1) (some (cD9 (shr .i64 s3.1 (7:Int),s3.2++[IntKind.wrap .u8 (bOr .i64 (aA3 .i64 s3.1 (127:Int)) (128:Int))]))) none) (some (cD8 (s3.1,s3.2)))) ((n:Int),out)) fun (s4:Int×lI)=>cond (aG 1 s4.2.length 1) (some (s4.2++[IntKind.wrap .u8 s4.1])) none)=some (out++vi k n)
 | 0,n,out,hn,ho,hb=>by
  have hn:n<128:=by simpa using hn
  have e1:decide ((n:Int)>127)=false:=by simp;omega
  rw [bI (r:=((n:Int),out)) (by simp only [e1,zY]),aA];simp only [aE (b:=1) (n:=out.length) (m:=1) (by decide) (by omega),zZ,aFq (n:=n) (by omega),vi]
 | k+1,n,out,hn,ho,hb=>by
  by_cases h:n<128
  .have e1:decide ((n:Int)>127)=false:=by simp;omega
   rw [bI (r:=((n:Int),out)) (by simp only [e1,zY]),aA];simp only [aE (b:=1) (n:=out.length) (m:=1) (by decide) (by omega),zZ,aFq (n:=n) (by omega),vi,zT h]
  .have e1:decide ((n:Int)>127)=true:=by simp;omega
   have hd:n / 128<128 ^ (k+1):=by rw [Nat.div_lt_iff_lt_mul (by decide)];rw [Nat.pow_succ] at hn;exact hn
   rw [cX (s':=(((n / 128:Nat):Int),out++[((n % 128+128:Nat):Int)])) (by
    simp only [e1,zZ,aE (b:=1) (n:=out.length) (m:=1) (by decide) (by omega),cCo,aY5 hb,bVx (n:=n % 128) (by omega),aFq (n:=n % 128+128) (by omega)])]
   rw [cAw k (n / 128) _ hd (by simp;omega) (by omega)];simp only [vi,zS h,cFc,cHf]
def aD6 (b:List Int) (n:Int):List Int:=if inR n 0 1000000000000 then b++vi 5 n.toNat else b
theorem aRr (b:List Int) (n:Int):(aD6 b n).length<=b.length+6:=by
 unfold aD6;split
 .have :=bMm 5 n.toNat;rw [cEy];omega
 .omega
theorem cA4 {b:List Int} {n:Int} (h:b.length+6<=68719476736):oU b n=some (aD6 b n):=by
 unfold oU aD6 pj2;rw [aHx (by omega),kM];cases c:inR n 0 1000000000000 with
 | false=>rfl
 | true=>
  rw [bQ] at c;obtain ⟨m,rfl⟩:=cE0 c.1;have :=bZx 5 m b (by simp only [show (128:Nat) ^ (5+1)=4398046511104 from by decide];omega) (by omega) (by omega);exact this
theorem bZ5 {b:List Int} {n:Int} (h:b.length+6<=68719476736):pE b n=some (aD6 b n):=by
 unfold pE aD6 pj2;rw [aE (b:=1) (n:=([]:List Int).length) (by decide) (by simp;omega),fQ];cases c:inR n 0 1000000000000 with
 | false=>rfl
 | true=>
  rw [bQ] at c;obtain ⟨m,rfl⟩:=cE0 c.1;have :=cAw 5 m b (by simp only [show (128:Nat) ^ (5+1)=4398046511104 from by decide];omega) (by omega) (by omega);exact this
def aMr (b l:List Int):List Int:=l.foldl aD6 b
theorem bOx (b l:List Int):(aMr b l).length<=b.length+6 * l.length:=by
 unfold aMr
 induction l generalizing b with
 | nil=>simp
 | cons x l ih=>
  have h1:=ih (aD6 b x);have h2:=aRr b x;simp only [cF8,cE8];omega
theorem bEb {α:Type} (l:List α):(l.map fun _=>6).sum=6 * l.length:=by
 induction l with
 | nil=>rfl
 | cons x l ih=>rw [cEv,cFu,ih,cE8];omega
theorem bZo {b l:List Int} (h:b.length+6 * l.length<=68719476736):tT b l=some (aMr b l):=by
 unfold tT aMr;rw [fO (fun k (a:List Int)=>(a,(k:Int))) (b,(0:Int)) b l (fun _ x a=>aD6 a x) cEo (fun _=>6) 68719476736 id rfl (by omega) (by rw [bEb];exact h) (fun _ x a=>aRr a x) (fun k x a hi hx hd hw hk hb=>by
  simp only [hd,hi,hw,zZ,aA,cA4 (b:=a) (n:=x) hb]) (fun a=>by simp),sM aD6]
 rfl
theorem bK3 {l:List Int} (h:6 * l.length<=68719476736):tQ l=some (aMr [] l):=by
 unfold tQ;rw [bZo (by simpa using h)];rfl
theorem bNe {l:List Int} (h:6 * l.length<=68719476736):tM l=some (aMr [] l):=by
 unfold tM aMr;rw [fO (fun k (a:List Int)=>((k:Int),a)) ((0:Int),[]) [] l (fun _ x a=>aD6 a x) cEo (fun _=>6) 68719476736 id rfl (by omega) (by rw [bEb];simpa using h) (fun _ x a=>aRr a x) (fun k x a hi hx hd hw hk hb=>by
  simp only [hd,hi,hw,zZ,aA,bZ5 (b:=a) (n:=x) hb]) (fun a=>by simp),sM aD6]
 rfl
def aIi (x:den tRv):List Int:=if eK x then aMr [] [x.1,x.2.1,x.2.2] else []
theorem aQ6 (x:den tRv):(aIi x).length<=18:=by
 unfold aIi;split
 .exact bOx [] [x.1,x.2.1,x.2.2]
 .simp
theorem bZ0 (x:den tRv):jH x=some (aIi x):=by
 unfold jH aIi pj3;rw [bK3 (l:=[x.1,x.2.1,x.2.2]) (by simp)];simp only [aP,aFk,aA];cases eK x<;>rfl
theorem cBd (x:den tRv):jE x=some (aIi x):=by
 unfold jE aIi pj3;rw [bNe (l:=[x.1,x.2.1,x.2.2]) (by simp)];simp only [aP,aFr,aA];cases eK x<;>rfl
def cM (r now d:Int) (p:den tPk):den tPk:=aG6 3 (aE0 (uK p)) p.2.2.2.2.2.2.2.1 p.2.2.2.2.2.2.2.2.1 (aIi (r,d,if 1000000<wr (now+10) then 1000000 else wr (now+10)))
theorem bW9 {t:den tTo} {r now d:Int} {p:den tPk} (h:tot tPk p<=34359738368):jT t r now d p=some (pkR (cM r now d p)):=by
 have h1:tot tPt p.2.2.2.1<=34359738368:=aHa (bE (bE (bE h)));have h2:=aEo p;have sm:SmB 68719476736 tPk p:=(bC h).mono (by decide);have h3:=aQ6 (r,d,if 1000000<wr (now+10) then 1000000 else wr (now+10));unfold jT cM aI zz7 zz8;simp only [aP,bTw,aA,bBn sm];rw [bJ7 ((bC (cEa h2 h1)).mono (by decide)),aA,bZ0,aA,aV8 (by rw [aFv];omega) (by omega)];rfl
theorem bWd {t:den tTo} {r now d:Int} {p:den tPk} (h:tot tPk p<=34359738368):gQ t r now d p=some (pkR (cM r now d p)):=by
 have h1:tot tPt p.2.2.2.1<=34359738368:=aHa (bE (bE (bE h)));have h2:=aEo p;have sm:SmB 68719476736 tPk p:=(bC h).mono (by decide);have h3:=aQ6 (r,d,if 1000000<wr (now+10) then 1000000 else wr (now+10));unfold gQ cM aI zz7 zz8;simp only [aP,aYr,aA,bAy sm];rw [bMh ((bC (cEa h2 h1)).mono (by decide)),aA,cBd,aA,aPp (by rw [aFv];omega) (by omega)];rfl
theorem aOw {kind res seq:Int} {p:den tPt} {pay:List Int}:tot tPk (aG6 kind p res seq pay)=tot tPt p+tot (.sl tb) pay:=by
 show 0+(0+(0+(tot tPt p+(0+(0+(0+(0+(0+tot (.sl tb) pay))))))))=_;omega
theorem aWt (f:den tFl):tot tPk (zH f)<=tot tFl f:=by
 unfold zH;split
 .rw [aOw];have h1:=bBm (t:=tPt) (l:=f.2.2.2.2.2.1) (d:=[]) (i:=f.2.2.2.2.2.2.1.toNat) rfl;have h2:=bBm (t:= .sl tb) (l:=f.2.2.2.2.1) (d:=[]) (i:=f.2.2.2.1.toNat) rfl;show _<=0+(0+(0+(0+(tot (.sl (.sl tb)) f.2.2.2.2.1+(tot (.sl tPt) f.2.2.2.2.2.1+(0+(0+tot (.sl tRv) f.2.2.2.2.2.2.2.2)))))));omega
 .exact cEt _
theorem aPt {p:den tPk} {N:Nat} (h:tot tPk p<=N):tot (.sl tPp) p.2.2.2.1<=N/\tot (.sl tb) p.2.2.2.2.2.2.2.2.2<=N:=
 ⟨aHa (bE (bE (bE h))),bE (bE (bE (bE (bE (bE (bE (bE (bE h))))))))⟩
theorem aWv (x:den tIb) (p:den tPk):tot tPk (pS x p)<=tot tPk p:=by
 unfold pS;split
 .unfold aPa;rw [aOw,aFv];have h:=(aPt (cEr (tot tPk p))).1;show tot (.sl tPp) p.2.2.2.1+0<=_;omega
 .exact cEt _
theorem aXf (f:den tFl):tot tFl (aF f).1=tot tFl f/\tot tPk (aF f).2.1<=tot tFl f:=by
 unfold aF;split
 .split
  .exact ⟨aJo f _ _,aWt f⟩
  .split
   .exact ⟨aJo f _ _,aWt (pN f (xH f) 1)⟩
   .exact ⟨aJo f _ _,cEt _⟩
 .exact ⟨aJo f _ _,cEt _⟩
theorem aWp (r now d:Int) (p:den tPk):tot tPk (cM r now d p)<=tot tPk p+18:=by
 unfold cM;rw [aOw,aFv];have h1:=aEo p;have h2:=(aPt (cEr (tot tPk p))).1;have h2:tot tPt p.2.2.2.1<=tot tPk p:=h2;have h3:=aQ6 (r,d,if 1000000<wr (now+10) then 1000000 else wr (now+10));have e:tot (.sl tb) (aIi (r,d,if 1000000<wr (now+10) then 1000000 else wr (now+10)))=(aIi (r,d,if 1000000<wr (now+10) then 1000000 else wr (now+10))).length:=dK rfl;rw [e];omega
def aG3 {α β:Type} (p:α->β->Bool):List α->List β->Bool
 | x::xs,y::ys=>p x y&&aG3 p xs ys
 | _,_=>true
theorem aLg {α β R:Type} {a:List α} {b:List β} (p:α->β->Bool) {step:Int->Option (Int⊕(Unit⊕R))} (ρ:R) (hlen:a.length=b.length) (hl:a.length<=4611686018427387904)
  (h: ∀ (k:Nat) (x:α) (y:β),x∈a->y∈b->idx a (k:Int)=some x->idx b (k:Int)=some y->decide ((k:Int)<(a.length:Int))=true->IntKind.i64.wrap ((k:Int)+1)=((k+1:Nat):Int)->step (k:Int)=some (cond (p x y) (.inl ((k+1:Nat):Int)) (.inr (.inr ρ))))
  (he:step (a.length:Int)=some (.inr (.inl ()))):aC step (0:Int)=some (cond (aG3 p a b) (.inl ()) (.inr ρ)):=by
 have key: ∀ (ra pa:List α) (rb pb:List β),pa++ra=a->pb++rb=b->pa.length=pb.length->aC step (pa.length:Int)=some (cond (aG3 p ra rb) (.inl ()) (.inr ρ)):=by
  intro ra
  induction ra with
  | nil=>intro pa rb pb h1 _ _;rw [cFe] at h1;subst h1;exact bI he
  | cons x ra ih=>
   intro pa rb pb h1 h2 h3;cases rb with
   | nil=>exfalso;have e1:=congrArg cEo h1;have e2:=congrArg cEo h2;simp at e1 e2;omega
   | cons y rb=>
    have hx:a[pa.length]? =some x:=by rw [<- h1];simp
    have hy:b[pa.length]? =some y:=by rw [<- h2,h3];simp
    have hlt:pa.length<a.length:=by rw [<- h1];simp
    have hs:=h pa.length x y (cEn hx) (cEn hy) (by rw [aH];exact hx) (by rw [aH];exact hy) (by simpa using hlt) (by rw [wri (by omega) (by omega)];omega);simp only [aG3];cases hp:p x y with
    | true=>rw [hp] at hs;rw [cX hs];have :=ih (pa++[x]) rb (pb++[y]) (by simpa using h1) (by simpa using h2) (by simp [h3]);simpa using this
    | false=>rw [hp] at hs;exact bI hs
 exact key a [] b [] rfl rfl rfl
theorem wZ {α:Type} (b:Bool) (x y:α):cond b (some x) (some y)=some (cond b x y):=by cases b<;>rfl
theorem aTn {β:Type} (c:Bool) (f:Unit->Option β) (r:β):Sum.elim f some (cond c (cD9 ()) (cD8 r))=cond c (f ()) (some r):=by cases c<;>rfl
theorem aSg {α β:Type} (a:List α) (b:List β):((a.length:Int) != (b.length:Int))= !decide (a.length=b.length):=by
 rw [cEz];simp;omega
theorem aPz {α:Type} {p:Prop} [Decidable p] {x y z:α} (h:p->y=z):cond (!decide p) x y=cond (!decide p) x z:=by
 by_cases hp:p
 .rw [h hp]
 .simp [hp]
noncomputable def aLw (a b:cF):Bool:=cond (!decide (a.length=b.length)) false (cond (aG3 (fun x y=>(x.1==y.1)&&((x.2.1==y.2.1)&&((x.2.2.1==y.2.2.1)&&((x.2.2.2.1==y.2.2.2.1)&&((x.2.2.2.2==y.2.2.2.2)&&true))))) a b) true false)
theorem bWg {a b:cF} (ha:a.length<=68719476736):nN a b=some (aLw a b):=by
 unfold nN aLw zz4;rw [aSg];rw [aPz (z:=some (cond (aG3 (fun x y=>(x.1==y.1)&&((x.2.1==y.2.1)&&((x.2.2.1==y.2.2.1)&&((x.2.2.2.1==y.2.2.2.1)&&((x.2.2.2.2==y.2.2.2.2)&&true))))) a b) true false)) (fun hlen=>by
  rw [aLg (a:=a) (b:=b) (fun x y=>(x.1==y.1)&&((x.2.1==y.2.1)&&((x.2.2.1==y.2.2.1)&&((x.2.2.2.1==y.2.2.2.1)&&((x.2.2.2.2==y.2.2.2.2)&&true))))) false hlen (cEa ha (by decide)) (fun k x y mx my ix iy hd hw=>by
   simp only [hd,ix,iy,hw,zZ,aA,aP,bne];generalize ((x.1==y.1)&&((x.2.1==y.2.1)&&((x.2.2.1==y.2.2.1)&&((x.2.2.2.1==y.2.2.2.1)&&((x.2.2.2.2==y.2.2.2.2)&&true)))))=c;cases c<;>rfl) (by simp)]
  simp only [aA,aTn,wZ]),wZ]
theorem bXn {a b:cF} (ha:a.length<=68719476736):jV a b=some (aLw a b):=by
 unfold jV aLw zz4;rw [aSg];rw [aPz (z:=some (cond (aG3 (fun x y=>(x.1==y.1)&&((x.2.1==y.2.1)&&((x.2.2.1==y.2.2.1)&&((x.2.2.2.1==y.2.2.2.1)&&((x.2.2.2.2==y.2.2.2.2)&&true))))) a b) true false)) (fun hlen=>by
  rw [aLg (a:=a) (b:=b) (fun x y=>(x.1==y.1)&&((x.2.1==y.2.1)&&((x.2.2.1==y.2.2.1)&&((x.2.2.2.1==y.2.2.2.1)&&((x.2.2.2.2==y.2.2.2.2)&&true))))) false hlen (cEa ha (by decide)) (fun k x y mx my ix iy hd hw=>by
   simp only [hd,ix,iy,hw,zZ,aA,aP,bne];generalize ((x.1==y.1)&&((x.2.1==y.2.1)&&((x.2.2.1==y.2.2.1)&&((x.2.2.2.1==y.2.2.2.1)&&((x.2.2.2.2==y.2.2.2.2)&&true)))))=c;cases c<;>rfl) (by simp)]
  simp only [aA,aTn,wZ]),wZ]
noncomputable def aAc (a b:den tPp):Bool:=cond (a.1==b.1) (cond (a.2.1==b.2.1) (cond (a.2.2.1==b.2.2.1) (aLw a.2.2.2 b.2.2.2) false) false) false
theorem bOm {a b:den tPp} (ha:SmB 68719476736 tPp a) (hb:SmB 68719476736 tPp b):tE a b=some (aAc a b):=by
 unfold tE aAc;simp only [aA,wZ,aP,bWg ha.2.2.2.1]
theorem bRc {a b:den tPp} (ha:SmB 68719476736 tPp a) (hb:SmB 68719476736 tPp b):sR a b=some (aAc a b):=by
 unfold sR aAc;simp only [aA,wZ,aP,bXn ha.2.2.2.1]
noncomputable def wJ (a b:lPp):Bool:=cond (!decide (a.length=b.length)) false (cond (aG3 (fun x y=>aAc x y) a b) true false)
theorem bEi {a b:lPp} (ha:SmB 68719476736 (.sl tPp) a) (hb:SmB 68719476736 (.sl tPp) b):lB a b=some (wJ a b):=by
 unfold lB wJ pj4;rw [aSg];rw [aPz (z:=some (cond (aG3 (fun x y=>aAc x y) a b) true false)) (fun hlen=>by
  rw [aLg (a:=a) (b:=b) (fun x y=>aAc x y) false hlen (cEa ha.1 (by decide)) (fun k x y mx my ix iy hd hw=>by
   simp only [hd,ix,iy,hw,zZ,aA,aP,bOm (ha.2 x mx) (hb.2 y my)];generalize (aAc x y)=c;cases c<;>rfl) (by simp)]
  simp only [aA,aTn,wZ]),wZ]
theorem bEs {a b:lPp} (ha:SmB 68719476736 (.sl tPp) a) (hb:SmB 68719476736 (.sl tPp) b):lM a b=some (wJ a b):=by
 unfold lM wJ pj4;rw [aSg];rw [aPz (z:=some (cond (aG3 (fun x y=>aAc x y) a b) true false)) (fun hlen=>by
  rw [aLg (a:=a) (b:=b) (fun x y=>aAc x y) false hlen (cEa ha.1 (by decide)) (fun k x y mx my ix iy hd hw=>by
   simp only [hd,ix,iy,hw,zZ,aA,aP,bRc (ha.2 x mx) (hb.2 y my)];generalize (aAc x y)=c;cases c<;>rfl) (by simp)]
  simp only [aA,aTn,wZ]),wZ]
noncomputable def bHh (a b:List Int):Bool:=(aAz a).toList==(aAz b).toList
theorem bXp (a b:List Int):oD a b=some (bHh a b):=rfl
theorem bXh (a b:List Int):nY a b=some (bHh a b):=rfl
noncomputable def uQ (a b:den tPk):Bool:=cond (a.1==b.1) (cond (a.2.1==b.2.1) (cond (a.2.2.1==b.2.2.1) (cond (wJ a.2.2.2.1 b.2.2.2.1) (cond (a.2.2.2.2.1==b.2.2.2.2.1) (cond (a.2.2.2.2.2.1==b.2.2.2.2.2.1) (cond (a.2.2.2.2.2.2.1==b.2.2.2.2.2.2.1) (cond (a.2.2.2.2.2.2.2.1==b.2.2.2.2.2.2.2.1) (cond (a.2.2.2.2.2.2.2.2.1==b.2.2.2.2.2.2.2.2.1) (bHh a.2.2.2.2.2.2.2.2.2 b.2.2.2.2.2.2.2.2.2) false) false) false) false) false) false) false) false) false
theorem bVp {a b:den tPk} (ha:SmB 68719476736 tPk a) (hb:SmB 68719476736 tPk b):mO a b=some (uQ a b):=by
 unfold mO uQ zz4 zz5 zz6 zz7 zz8 zz9;simp only [aA,wZ,aP,bXp,bEi ha.2.2.2.1 hb.2.2.2.1]
theorem bXr {a b:den tPk} (ha:SmB 68719476736 tPk a) (hb:SmB 68719476736 tPk b):mZ a b=some (uQ a b):=by
 unfold mZ uQ zz4 zz5 zz6 zz7 zz8 zz9;simp only [aA,wZ,aP,bXh,bEs ha.2.2.2.1 hb.2.2.2.1]
theorem bLn {w:den tNw} (h:tot tNw w<=16777216):tot (.sl tFl) w.2.2.2.2.2.2.1<=16777216:=aHa (bE (bE (bE (bE (bE (bE h))))))
def aRh (w:den tNw):List Int:=[w.2.2.2.1,(w.2.2.2.2.2.1.length:Int),w.2.2.2.2.2.2.2.2,(w.2.2.2.2.1.length:Int)]++w.2.2.2.2.2.2.1.map fun f=>f.2.2.2.1
theorem bS4 {w:den tNw} (h:tot tNw w<=16777216):xO w=some (aRh w):=by
 have hf:=bLn h;have hl:=dE (t:=tFl) w.2.2.2.2.2.2.1;unfold xO aRh zz4 zz5 zz6 zz8;rw [fO (fun k (a:List Int)=>((k:Int),a)) ((0:Int),[w.2.2.2.1,(w.2.2.2.2.2.1.length:Int),w.2.2.2.2.2.2.2.2,(w.2.2.2.2.1.length:Int)]) [w.2.2.2.1,(w.2.2.2.2.2.1.length:Int),w.2.2.2.2.2.2.2.2,(w.2.2.2.2.1.length:Int)] w.2.2.2.2.2.2.1 (fun _ x a=>a++[x.2.2.2.1]) cEo (fun _=>1) 68719476736 id rfl (by omega) (by rw [dS];simp;omega) (fun k x a=>by simp) (fun k x a hi hx hd hw hk hb=>by
  simp only [hd,hi,hw,zZ,aA,aP,aE (b:=8) (by decide) hb]) (fun a=>by simp),fV (fun f:den tFl=>f.2.2.2.1)]
 rfl
theorem cBm {w:den tNw} (h:tot tNw w<=16777216):aAt w=some (aRh w):=bS4 h
def aQl (b:List Int) (p:Nat):Nat->Nat->Nat->Int×Int×Bool
 | 0,_,_=>(0,0,false)
 | f+1,k,n=>match b[p+k]? with
  | none=>(0,0,false)
  | some x=>
   if x.toNat<128 then (if (decide (x.toNat=0)&&decide (0<k))||decide (1000000000000<n+x.toNat % 128 * 2 ^ (7 * k)) then (0,0,false) else (((n+x.toNat % 128 * 2 ^ (7 * k):Nat):Int),((p+k+1:Nat):Int),true))
   else aQl b p f (k+1) (n+x.toNat % 128 * 2 ^ (7 * k))
theorem aUf {k:Nat} (h:k<6):2 ^ (7 * k)<=34359738368:=cEa (Nat.pow_le_pow_right (by decide) (show 7 * k<=35 by omega)) (by decide)
theorem bMr {n c k:Nat} (h:n<2 ^ (7 * k)) (hc:c<128):n+c * 2 ^ (7 * k)<2 ^ (7 * (k+1)):=by
 have e:2 ^ (7 * (k+1))=128 * 2 ^ (7 * k):=by rw [show 7 * (k+1)=7 * k+7 by omega,Nat.pow_add];omega
 have :c * 2 ^ (7 * k)<=127 * 2 ^ (7 * k):=Nat.mul_le_mul_right _ (by omega);omega
theorem aVn {c k:Nat} (hk:k<6) (hc:c<128):c * 2 ^ (7 * k)<=4398046511104:=cEa (Nat.mul_le_mul (show c<=128 by omega) (aUf hk)) (by decide)
theorem bEw {S:Type} (b:List Int) (p:Nat) (hb: ∀ x∈b,0<=x/\x<=255) (enc:Nat->Nat->S) {step:S->Option (S⊕(Unit⊕q30))}
  (h0: ∀ n,step (enc 6 n)=some (.inr (.inl ())))
  (h1: ∀ k n,k<6->b[p+k]? =none->step (enc k n)=some (.inr (.inl ()))\/step (enc k n)=some (.inr (.inr (0,0,false))))
  (h2: ∀ k n (m:Nat),k<6->n<2 ^ (7 * k)->m<=255->b[p+k]? =some (m:Int)->step (enc k n)=some (if m<128 then .inr (.inr (if (decide (m=0)&&decide (0<k))||decide (1000000000000<n+m % 128 * 2 ^ (7 * k)) then (0,0,false) else (((n+m % 128 * 2 ^ (7 * k):Nat):Int),((p+k+1:Nat):Int),true))) else .inl (enc (k+1) (n+m % 128 * 2 ^ (7 * k))))):
  ∀ f k n,f+k=6->n<2 ^ (7 * k)-> @Option.bind (Unit⊕q30) q30 (aC step (enc k n)) (fun z=>Sum.elim (fun _=>some ((0:Int),(0:Int),false)) some z)=some (aQl b p f k n):=by
 intro f
 induction f with
 | zero=>
  intro k n hk hn;have :k=6:=by omega
  subst this;rw [bI (h0 n)];rfl
 | succ f ih=>
  intro k n hk hn;have hk6:k<6:=by omega
  unfold aQl;cases hx:b[p+k]? with
  | none=>rcases h1 k n hk6 hx with h | h<;>rw [bI h]<;>rfl
  | some x=>
   obtain ⟨x0,x1⟩:=hb x (cEn hx);obtain ⟨m,rfl⟩: ∃ m:Nat,x=(m:Int):=⟨x.toNat,by omega⟩
   have hs:=h2 k n m hk6 hn (by omega) hx;simp only [cEf]
   by_cases hm:m<128
   .rw [zT hm] at hs ⊢;rw [bI hs];rfl
   .rw [zS hm] at hs ⊢;rw [cX hs];exact ih (k+1) _ (by omega) (bMr hn (Nat.mod_lt _ (by decide)))
theorem bDz {a c:Nat} (hc:c<=35) (h:a * 2 ^ c<=4398046511104):shl .i64 (a:Int) (c:Int)=((a * 2 ^ c:Nat):Int):=by
 unfold shl;have e:min ((c:Int)).toNat IntKind.i64.bits=c:=by simp [IntKind.bits];omega
 rw [e];have e2:(a:Int) * 2 ^ c=((a * 2 ^ c:Nat):Int):=by simp
 rw [e2];exact wri (by omega) (by omega)
theorem bV5 {n c k:Nat} (hk:k<6) (hn:n<2 ^ (7 * k)) (hc:c<128):bOr .i64 (n:Int) ((c * 2 ^ (7 * k):Nat):Int)=((n+c * 2 ^ (7 * k):Nat):Int):=by
 have hm:=aVn hk hc;have hp:=aUf hk;have e:(BitVec.ofInt 64 (n:Int) ||| BitVec.ofInt 64 ((c * 2 ^ (7 * k):Nat):Int)).toNat=n+c * 2 ^ (7 * k):=by
  rw [BitVec.toNat_or];have e1:(BitVec.ofInt 64 (n:Int)).toNat=n:=by simp;omega
  have e2:(BitVec.ofInt 64 ((c * 2 ^ (7 * k):Nat):Int)).toNat=c * 2 ^ (7 * k):=by
   generalize c * 2 ^ (7 * k)=q at hm;simp;omega
  rw [e1,e2,Nat.or_comm];have :=Nat.two_pow_add_eq_or_of_lt (i:=7 * k) (b:=n) hn c;rw [Nat.mul_comm c,<- this];omega
 unfold bOr;show IntKind.i64.wrap (((BitVec.ofInt 64 (n:Int) ||| BitVec.ofInt 64 ((c * 2 ^ (7 * k):Nat):Int)).toNat:Nat):Int)=_;rw [e];exact wri (by omega) (by omega)
theorem bAw {n:Nat} (h:n<256):IntKind.wrap .u64 (n:Int)=(n:Int):=by
 simp only [IntKind.wrap,IntKind.signed,IntKind.bits];simp;omega
def rv (b:List Int) (p:Nat):q30:=aQl b p 6 0 0
theorem aXe (k:Nat):(7:Int) * (k:Int)=((7 * k:Nat):Int):=by omega
theorem cDa {b:List Int} {p:Nat} (hb: ∀ x∈b,0<=x/\x<=255) (hl:b.length<=68719476736) (hp:p<=b.length):tR b (p:Int)=some (rv b p):=by
 unfold tR;have e0:decide ((p:Int)<0)=false:=by simp
 rw [e0,zY];refine bEw b p hb (fun k n=>(((p+k:Nat):Int),(n:Int),(k:Int))) (fun n=>by simp) (fun k n hk hx=> ?_) (fun k n m hk hn hm hx=> ?_) 6 0 0 rfl (by simp)
 .left;have h1:decide (((p+k:Nat):Int)<(b.length:Int))=false:=by
   have :=List.getElem?_eq_none_iff.1 hx;simp;omega
  simp only [h1];cases decide ((k:Int)<6)<;>rfl
 .have h0:=(cEj.1 hx).1;have h1:decide (((p+k:Nat):Int)<(b.length:Int))=true:=by simp;omega
  have h2:decide ((k:Int)<6)=true:=by simp;omega
  have h3:idx b ((p+k:Nat):Int)=some (m:Int):=by rw [aH];exact hx
  have h4:wr ((7 * k:Nat):Int)=((7 * k:Nat):Int):=wri (by omega) (by omega);have h5:wr (m:Int)=(m:Int):=wri (by omega) (by omega);have h6:decide (((7 * k:Nat):Int)<0)=false:=by simp;omega
  have h7:cFa (m:Int) 128=((m % 128:Nat):Int):=rfl;have hq:=aVn (c:=m % 128) hk (Nat.mod_lt _ (by decide));have hr:=aUf hk;have h8:wr ((n:Int)+((m % 128 * 2 ^ (7 * k):Nat):Int))=((n+m % 128 * 2 ^ (7 * k):Nat):Int):=by
   generalize m % 128 * 2 ^ (7 * k)=q at hq;have :wr ((n:Int)+(q:Int))=(n:Int)+(q:Int):=wri (by omega) (by omega);rw [this];omega
  have h9:wr (((p+k:Nat):Int)+1)=((p+k+1:Nat):Int):=by
   have :wr (((p+k:Nat):Int)+1)=((p+k:Nat):Int)+1:=wri (by omega) (by omega);rw [this];omega
  have ha:wr ((k:Int)+1)=((k+1:Nat):Int):=by
   have :wr ((k:Int)+1)=(k:Int)+1:=wri (by omega) (by omega);rw [this];omega
  simp only [h1,h2,h3,zZ,aA,aXe,h4,bAw (n:=7 * k) (by omega),h6,zY,h5,h7,bDz (a:=m % 128) (c:=7 * k) (by omega) hq,h8,h9,ha];generalize n+m % 128 * 2 ^ (7 * k)=q
  by_cases c1:m<128
  .have e1:decide ((m:Int)<128)=true:=by simp;omega
   have e2:((m:Int)==0)=decide (m=0):=by rw [cEz];simp
   have e3:decide ((k:Int)>0)=decide (0<k):=by rw [cEz];simp
   have e4:decide ((q:Int)>1000000000000)=decide (1000000000000<q):=by rw [cEz];simp;omega
   simp only [e1,e2,e3,e4,zZ,zT c1];cases decide (m=0)<;>cases decide (0<k)<;>cases decide (1000000000000<q)<;>rfl
  .have e1:decide ((m:Int)<128)=false:=by simp;omega
   simp only [e1,zY,zS c1];rfl
theorem cD4 {b:List Int} {p:Nat} (hb: ∀ x∈b,0<=x/\x<=255) (hl:b.length<=68719476736) (hp:p<=b.length):sZ b (p:Int)=some (rv b p):=by
 unfold sZ;have e0:decide ((p:Int)<0)=false:=by simp
 refine bEw b p hb (fun k n=>((n:Int),(k:Int))) (fun n=>by simp) (fun k n hk hx=> ?_) (fun k n m hk hn hm hx=> ?_) 6 0 0 rfl (by simp)
 .right;have hw:wr ((b.length:Int) - (k:Int))=(b.length:Int) - (k:Int):=wri (by omega) (by omega);have h1:decide ((p:Int)>=(b.length:Int) - (k:Int))=true:=by
   have :=List.getElem?_eq_none_iff.1 hx;simp;omega
  have h2:decide ((k:Int)<6)=true:=by simp;omega
  simp only [h2,e0,hw,h1,zZ,zY,aA]
 .have h0:=(cEj.1 hx).1;have hw:wr ((b.length:Int) - (k:Int))=(b.length:Int) - (k:Int):=wri (by omega) (by omega);have h1:decide ((p:Int)>=(b.length:Int) - (k:Int))=false:=by simp;omega
  have h2:decide ((k:Int)<6)=true:=by simp;omega
  have hpk:wr ((p:Int)+(k:Int))=((p+k:Nat):Int):=by
   have :wr ((p:Int)+(k:Int))=(p:Int)+(k:Int):=wri (by omega) (by omega);rw [this];omega
  have h3:idx b ((p+k:Nat):Int)=some (m:Int):=by rw [aH];exact hx
  have h4:wr ((7 * k:Nat):Int)=((7 * k:Nat):Int):=wri (by omega) (by omega);have h5:wr (m:Int)=(m:Int):=wri (by omega) (by omega);have h6:decide (((7 * k:Nat):Int)<0)=false:=by simp;omega
  have hq:=aVn (c:=m % 128) hk (Nat.mod_lt _ (by decide));have h9:wr (((p+k:Nat):Int)+1)=((p+k+1:Nat):Int):=by
   have :wr (((p+k:Nat):Int)+1)=((p+k:Nat):Int)+1:=wri (by omega) (by omega);rw [this];omega
  have ha:wr ((k:Int)+1)=((k+1:Nat):Int):=by
   have :wr ((k:Int)+1)=(k:Int)+1:=wri (by omega) (by omega);rw [this];omega
  simp only [h1,h2,hw,e0,hpk,h3,zZ,zY,aA,aXe,h4,h6,h5,aY5 (n:=m) (by omega),bDz (a:=m % 128) (c:=7 * k) (by omega) hq,bV5 (c:=m % 128) hk hn (Nat.mod_lt _ (by decide)),h9,ha];generalize n+m % 128 * 2 ^ (7 * k)=q
  by_cases c1:m<128
  .have e1:decide ((m:Int)<128)=true:=by simp;omega
   have e2:((m:Int)==0)=decide (m=0):=by rw [cEz];simp
   have e3:decide ((k:Int)>0)=decide (0<k):=by rw [cEz];simp
   have e4:decide ((q:Int)>1000000000000)=decide (1000000000000<q):=by rw [cEz];simp;omega
   simp only [e1,e2,e3,e4,zZ,zT c1];cases decide (m=0)<;>cases decide (0<k)<;>cases decide (1000000000000<q)<;>rfl
  .have e1:decide ((m:Int)<128)=false:=by simp;omega
   simp only [e1,zY,zS c1]
theorem bDe {b:List Int} {p:Nat}: ∀ (f k n:Nat),(aQl b p f k n).2.2=true-> ∃ q:Nat,(aQl b p f k n).2.1=(q:Int)/\q<=b.length
 | 0,k,n,h=>by cases h
 | f+1,k,n,h=>by
  unfold aQl at h ⊢;cases hx:b[p+k]? with
  | none=>rw [hx] at h;cases h
  | some x=>
   rw [hx] at h;have hlt:=(cEj.1 hx).1;simp only at h ⊢
   by_cases c:x.toNat<128
   .rw [zT c] at h ⊢;split at h
    .cases h
    .rename_i c2;rw [zS c2];exact ⟨p+k+1,rfl,hlt⟩
   .rw [zS c] at h ⊢;exact bDe f (k+1) _ h
theorem bTk {b:List Int} {p:Nat} (h:(rv b p).2.2=true): ∃ q:Nat,(rv b p).2.1=(q:Int)/\q<=b.length:=bDe 6 0 0 h
def aOm (b:List Int):Int×Bool×List Int:=
 cond (rv b 0).2.2 (cond (rv b (rv b 0).2.1.toNat).2.2 (cond (rv b (rv b (rv b 0).2.1.toNat).2.1.toNat).2.2
  ((rv b (rv b (rv b 0).2.1.toNat).2.1.toNat).2.1,true,[(rv b 0).1,(rv b (rv b 0).2.1.toNat).1,(rv b (rv b (rv b 0).2.1.toNat).2.1.toNat).1]) (0,false,[])) (0,false,[])) (0,false,[])
theorem bE7 (b:List Int):aOm b=(0,false,[])\/ ∃ q x y z,aOm b=(q,true,[x,y,z]):=by
 unfold aOm;cases (rv b 0).2.2
 .exact .inl rfl
 .cases (rv b (rv b 0).2.1.toNat).2.2
  .exact .inl rfl
  .cases (rv b (rv b (rv b 0).2.1.toNat).2.1.toNat).2.2
   .exact .inl rfl
   .exact .inr ⟨_,_,_,_,rfl⟩
theorem bBk {b:List Int} {step:Int×Int×List Int->Option ((Int×Int×List Int)⊕((Int×List Int)⊕(Int×Bool×List Int)))}
  (hs: ∀ (p:Nat) (i:Nat) (out:List Int),p<=b.length->i<3->out.length<=3->step ((p:Int),(i:Int),out)=some (cond (rv b p).2.2 (.inl ((rv b p).2.1,((i+1:Nat):Int),out++[(rv b p).1])) (.inr (.inr (0,false,[])))))
  (he: ∀ p out,step (p,3,out)=some (.inr (.inl (p,out)))):
  @Option.bind ((Int×List Int)⊕(Int×Bool×List Int)) (Int×Bool×List Int) (aC step ((0:Int),(0:Int),([]:List Int))) (fun z=>Sum.elim (fun s8=>some (s8.1,true,s8.2)) some z)=some (aOm b):=by
 have h1:=hs 0 0 [] (cEt _) (by decide) (by decide);unfold aOm;cases c1:(rv b 0).2.2 with
 | false=>rw [c1] at h1;rw [bI (s:=((0:Int),(0:Int),([]:List Int))) h1];rfl
 | true=>
  rw [c1] at h1;obtain ⟨q1,e1,l1⟩:=bTk c1;rw [cX (s:=((0:Int),(0:Int),([]:List Int))) h1];rw [e1];simp only [zZ,cEf];have h2:=hs q1 (0+1) ([]++[(rv b 0).1]) l1 (by decide) (by simp);cases c2:(rv b q1).2.2 with
  | false=>rw [c2] at h2;rw [bI h2];rfl
  | true=>
   rw [c2] at h2;obtain ⟨q2,e2,l2⟩:=bTk c2;rw [cX h2];rw [e2];simp only [zZ,cEf];have h3:=hs q2 (0+1+1) ([]++[(rv b 0).1]++[(rv b q1).1]) l2 (by decide) (by simp);cases c3:(rv b q2).2.2 with
   | false=>rw [c3] at h3;rw [bI h3];rfl
   | true=>
    rw [c3] at h3;rw [cX h3];rw [bI (s:=((rv b q2).2.1,((0+1+1+1:Nat):Int),[]++[(rv b 0).1]++[(rv b q1).1]++[(rv b q2).1])) (he _ _)];rfl
theorem bY3 {b:List Int} (hb: ∀ x∈b,0<=x/\x<=255) (hl:b.length<=68719476736):tA b 0 3=some (aOm b):=by
 unfold tA;have r1:inR 3 0 100=true:=by decide
 have r2:inR 0 0 (b.length:Int)=true:=by rw [bQ];omega
 simp only [kM,aA,r1,r2,cEc,zY];refine bBk (fun p i out hp hi ho=> ?_) (fun p out=>by simp);have e1:decide ((i:Int)<3)=true:=by simp;omega
 have e2:wr ((i:Int)+1)=((i+1:Nat):Int):=by
  have :wr ((i:Int)+1)=(i:Int)+1:=wri (by omega) (by omega);rw [this];omega
 simp only [e1,zZ,cDa hb hl hp,aA,e2,aE (b:=8) (n:=out.length) (m:=1) (by decide) (by omega)];cases (rv b p).2.2<;>rfl
theorem cAf {b:List Int} (hb: ∀ x∈b,0<=x/\x<=255) (hl:b.length<=68719476736):sQ b 0 3=some (aOm b):=by
 unfold sQ;have r1:inR 3 0 100=true:=by decide
 have r2:inR 0 0 (b.length:Int)=true:=by rw [bQ];omega
 simp only [fQ,aA,r1,r2,cEc,zY];refine bBk (fun p i out hp hi ho=> ?_) (fun p out=>by simp);have e1:decide ((i:Int)<3)=true:=by simp;omega
 have e2:wr ((i:Int)+1)=((i+1:Nat):Int):=by
  have :wr ((i:Int)+1)=(i:Int)+1:=wri (by omega) (by omega);rw [this];omega
 simp only [e1,zZ,cD4 hb hl hp,aA,e2,aE (b:=8) (n:=out.length) (m:=1) (by decide) (by omega)];cases (rv b p).2.2<;>rfl
def aAd (b:List Int):Int×q30:=
 match aOm b with
 | (q,true,[x,y,z])=>cond (q==(b.length:Int)) (cond (eK (x,y,z)) (x,y,z,true) (0,0,0,false)) (0,0,0,false)
 | _=>(0,0,0,false)
theorem cAc {b:List Int} (hb: ∀ x∈b,0<=x/\x<=255) (hl:b.length<=68719476736):jI b=some (aAd b):=by
 unfold jI aAd ixb;rw [bY3 hb hl];rcases bE7 b with h | ⟨q,x,y,z,h⟩
 .rw [h];rfl
 .rw [h];simp only [aA,cEc,zY,bne,aFk];cases q==(b.length:Int)
  .rfl
  .cases hv:eK (x,y,z)<;>simp [hv]
theorem cBf {b:List Int} (hb: ∀ x∈b,0<=x/\x<=255) (hl:b.length<=68719476736):jO b=some (aAd b):=by
 unfold jO aAd ixb;rw [cAf hb hl];rcases bE7 b with h | ⟨q,x,y,z,h⟩
 .rw [h];rfl
 .rw [h];simp only [aA,cEc,zY,bne,aFr];cases q==(b.length:Int)
  .rfl
  .cases hv:eK (x,y,z)<;>simp [hv]
def aC7 (x:den tRv) (l:lRv) (k:Nat) (y:den tRv):Option lRv:=
 cond (y.1==x.1) (cond (y.2.1==x.2.1) (some (l.set k (y.1,y.2.1,if x.2.2>y.2.2 then x.2.2 else y.2.2))) none) none
def aK0 (l:lRv) (x:den tRv):lRv:=
 cond (eK x) (match bY (aC7 x l) 0 l with
  | some r=>r
  | none=>if 16<l.length+1 then (l++[x]).drop 1 else l++[x]) l
theorem bD7 {α:Type} {l:List α} (h:0<l.length):cut l (1:Int) (l.length:Int)=l.drop 1:=aRb (k:=1) h
theorem bB7 (l:lRv) (x:den tRv):decide (((l++[x]).length:Int)>16)=decide (16<l.length+1):=by
 rw [cEz];simp;omega
theorem bYx {l:lRv} {x:den tRv} (h:l.length<=1073741824):nJ l x=some (aK0 l x):=by
 unfold nJ aK0 ixb pj3;rw [aUo (show l.length<=68719476736 by omega)];simp only [aA,aP,aFk];cases hv:eK x with
 | false=>rfl
 | true=>
  simp only [cEc,zY,zZ];rw [aO (l:=l) (aC7 x l) (by omega) (fun k y hi hd hw hm hk=>by
   have hy:l[k]? =some y:=by rw [<- aH];exact hi
   simp only [hd,zZ,bS,cEf,hy,aA,bSs,hw];unfold aC7;cases y.1==x.1
   .rfl
   .cases y.2.1==x.2.1<;>rfl) (by simp)]
  cases bY (aC7 x l) 0 l with
  | some r=>rfl
  | none=>
   have e1:bX (1:Int) ((l++[x]).length:Int) ((l++[x]).length:Int)=true:=by
    have :=aCh (a:=1) (b:=(l++[x]).length) (n:=(l++[x]).length);rw [show ((1:Nat):Int)=1 from rfl] at this;rw [this];simp
   have e2:=bD7 (l:=l++[x]) (by simp);simp only [aA,cFn,aE (b:=24) (n:=l.length) (m:=1) (by decide) (by omega),zZ,bB7,e1,e2,aUo (l:=(l++[x]).drop 1) (by simp;omega)]
   by_cases c:16<l.length+1
   .have c2:(16:Int)<(l.length:Int)+1:=by omega
    simp [c,c2]
   .have c2: ¬ (16:Int)<(l.length:Int)+1:=by omega
    simp [c,c2]
theorem bY5 {l:lRv} {x:den tRv} (h:l.length<=1073741824):nI l x=some (aK0 l x):=by
 unfold nI aK0 ixb pj3;rw [aE (b:=24) (n:=([]:lRv).length) (by decide) (by simp;omega)];simp only [zZ,aA,aP,aFr,cEx];cases hv:eK x with
 | false=>rfl
 | true=>
  simp only [cEc,zY,zZ];rw [aO (l:=l) (aC7 x l) (by omega) (fun k y hi hd hw hm hk=>by
   have hy:l[k]? =some y:=by rw [<- aH];exact hi
   have hk2:decide (k<l.length)=true:=by simpa using hk
   simp only [hd,zZ,bS,cEf,hy,aA,bHw,hw,hk2];unfold aC7;cases y.1==x.1
   .rfl
   .cases y.2.1==x.2.1<;>rfl) (by simp)]
  cases bY (aC7 x l) 0 l with
  | some r=>rfl
  | none=>
   have e1:bX (1:Int) ((l++[x]).length:Int) ((l++[x]).length:Int)=true:=by
    have :=aCh (a:=1) (b:=(l++[x]).length) (n:=(l++[x]).length);rw [show ((1:Nat):Int)=1 from rfl] at this;rw [this];simp
   have e2:=bD7 (l:=l++[x]) (by simp);simp only [aA,cFn,aE (b:=24) (n:=l.length) (m:=1) (by decide) (by omega),zZ,bB7,e1,e2]
   by_cases c:16<l.length+1
   .have c2:(16:Int)<(l.length:Int)+1:=by omega
    simp [c,c2]
   .have c2: ¬ (16:Int)<(l.length:Int)+1:=by omega
    simp [c,c2]
def aN7 (s:den aBz) (a:List Int):List Int:=
 (fun b=>cond (s.2.2 != 0) (b++[wr (wr (8 * s.1)+s.2.2)]) b) (cond (s.2.1 != 0) (a++[wr (wr (8 * s.1)+s.2.1)]) a)
theorem aQm (s:den aBz) (a:List Int):(aN7 s a).length<=a.length+2:=by
 unfold aN7;cases s.2.1 != 0<;>cases s.2.2 != 0<;>simp
def jS (p:den tPt):List Int:=bZ (fun _ s a=>aN7 s a) 0 (gX p) []
theorem aH8 {α:Type} (l:List α):(l.map fun _=>2).sum=2 * l.length:=by
 induction l with
 | nil=>rfl
 | cons x l ih=>simp only [cEv,cFu,ih,cE8];omega
theorem bE1 {p:den tPt} (h:tot tPt p<=1073741824):gU p=some (jS p):=by
 have hl:=aEe p;unfold gU aA8 jS;rw [aKx (cEa h (by decide))];simp only [aA];rw [fO (fun k (a:List Int)=>((k:Int),a)) ((0:Int),[]) [] (gX p) (fun _ s a=>aN7 s a) cEo (fun _=>2) 68719476736 id rfl (by omega) (by rw [aH8];simp;omega) (fun k x a=>aQm x a) (fun k x a hi hx hd hw hk hb=>by
  simp only [hd,hi,hw,zZ,aA,aE (b:=8) (n:=a.length) (m:=1) (by decide) (by omega)];unfold aN7;cases x.2.1 != 0<;>cases x.2.2 != 0<;>simp [aE (b:=8) (n:=a.length) (m:=1) (by decide) (by omega),aE (b:=8) (n:=a.length+1) (m:=1) (by decide) (by omega)]) (fun a=>by simp)]
 rfl
theorem bFg {p:den tPt} (h:tot tPt p<=1073741824):gS p=some (jS p):=by
 have hl:=aEe p;unfold gS jS ixb;rw [aH7 (cEa h (by decide))];simp only [aA];rw [fO (fun k (a:List Int)=>((k:Int),a)) ((0:Int),[]) [] (gX p) (fun _ s a=>aN7 s a) cEo (fun _=>2) 68719476736 id rfl (by omega) (by rw [aH8];simp;omega) (fun k x a=>aQm x a) (fun k x a hi hx hd hw hk hb=>by
  simp only [hd,hx,hw,zZ,aA,bS,cEf,aE (b:=8) (n:=a.length) (m:=1) (by decide) (by omega)];unfold aN7;cases x.2.1 != 0<;>cases x.2.2 != 0<;>simp [aE (b:=8) (n:=a.length) (m:=1) (by decide) (by omega),aE (b:=8) (n:=a.length+1) (m:=1) (by decide) (by omega)]) (fun a=>by simp)]
 rfl
def qC (l:List Int) (n:Int):Bool:= !(l.all fun x=> !(x==n))
theorem aOq {l:List Int} {n:Int} (h:l.length<=68719476736):oT l n=some (qC l n):=by
 unfold oT qC;rw [aO (l:=l) (fun _ x=>if !(x==n) then none else some true) (by omega) (fun k x hi hd hw hm hk=>by
  simp only [hd,hi,hw,zZ,aA];cases x==n<;>rfl) (by simp),iC (fun x:Int=> !(x==n))]
 cases l.all (fun x=> !(x==n))<;>rfl
theorem aIw {l:List Int} {n:Int} (h:l.length<=68719476736):gD l n=some (qC l n):=by
 unfold gD qC;rw [aO (l:=l) (fun _ x=>if !(x==n) then none else some true) (by omega) (fun k x hi hd hw hm hk=>by
  simp only [hd,hi,hw,zZ,aA];cases x==n<;>rfl) (by simp),iC (fun x:Int=> !(x==n))]
 cases l.all (fun x=> !(x==n))<;>rfl
theorem aJc (p:den tPt):(jS p).length<=2 * tot tPt p:=by
 have h:=aCx (f:=fun _ s (a:List Int)=>aN7 s a) (m:=cEo) (cost:=fun _=>2) (fun k x a=>aQm x a) (gX p) 0 [];have hl:=aEe p;rw [aH8] at h;unfold jS;simp at h;omega
def nR (p:den tPt) (x:den tRv):Bool:=eK x&&qC (jS p) (wr (wr (8 * x.1)+x.2.1))
theorem aXm {p:den tPt} {x:den tRv} (h:tot tPt p<=1073741824):tC p x=some (nR p x):=by
 have :=aJc p;unfold tC nR pj3;simp only [aP,aFk,aA,bE1 h,aOq (l:=jS p) (by omega)];cases eK x<;>rfl
theorem aXw {p:den tPt} {x:den tRv} (h:tot tPt p<=1073741824):tL p x=some (nR p x):=by
 have :=aJc p;unfold tL nR pj3;simp only [aP,aFr,aA,bFg h,aIw (l:=jS p) (by omega)];cases eK x<;>rfl
theorem aOy {α R:Type} (m:R->Nat) (B:Nat) {g:Nat->α->Option R}: ∀ {l:List α} {k:Nat},(∀ j x r,l[j]? =some x->g (k+j) x=some r->m r<=B)-> ∀ r,bY g k l=some r->m r<=B
 | [],_,_,r,h=>by cases h
 | x::xs,k,hg,r,h=>by
  simp only [bY] at h;cases hx:g k x with
  | some r'=>rw [hx] at h;injection h with h;subst h;exact hg 0 x r' rfl hx
  | none=>
   rw [hx] at h;exact aOy m B (fun j y r hy hr=>hg (j+1) y r (by simpa using hy) (by rw [show k+(j+1)=k+1+j by omega];exact hr)) r h
theorem bLi (l:lRv):tot (.sl tRv) l=l.length:=by
 induction l with
 | nil=>rfl
 | cons x l ih=>rw [iM,ih];simp [tot];omega
theorem bN5 (l:lRv) (x:den tRv):tot (.sl tRv) (aK0 l x)<=l.length+1:=by
 rw [bLi];unfold aK0;cases eK x with
 | false=>simp
 | true=>
  simp only [zZ];cases hs:bY (aC7 x l) 0 l with
  | some r=>
   refine aOy cEo (l.length+1) (g:=aC7 x l) (l:=l) (k:=0) (fun j y r' hy hr=> ?_) r hs;unfold aC7 at hr;cases c1:y.1==x.1 with
   | false=>rw [c1] at hr;cases hr
   | true=>
    cases c2:y.2.1==x.2.1 with
    | false=>rw [c1,c2] at hr;cases hr
    | true=>rw [c1,c2] at hr;injection hr with hr;rw [<- hr];simp
  | none=>
   by_cases c:16<l.length+1
   .simp [c]
   .simp [c]
def aVj (f:den tFl) (x:den tRv):Bool:=inR f.2.2.2.2.2.2.1 0 ((f.2.2.2.2.2.1.length:Int) - 1)&&nR ((f.2.2.2.2.2.1[f.2.2.2.2.2.2.1.toNat]?).getD []) x
def aCv (b:List Int):den tRv:=((aAd b).1,(aAd b).2.1,(aAd b).2.2.1)
def aBv (f:den tFl) (p:den tPk):den tFl:=
 cond (p.1==3&&(aAd p.2.2.2.2.2.2.2.2.2).2.2.2)
  (f.1,f.2.1,f.2.2.1,f.2.2.2.1,f.2.2.2.2.1,f.2.2.2.2.2.1,cond (aVj f (aCv p.2.2.2.2.2.2.2.2.2)) (xH f) f.2.2.2.2.2.2.1,cond (aVj f (aCv p.2.2.2.2.2.2.2.2.2)) 0 f.2.2.2.2.2.2.2.1,aK0 f.2.2.2.2.2.2.2.2 (aCv p.2.2.2.2.2.2.2.2.2)) f
def cCa (f:den tFl):q41:=(f.1,f.2.1,f.2.2.1,f.2.2.2.1,f.2.2.2.2.2.2.1,f.2.2.2.2.2.2.2.1,f.2.2.2.2.2.2.2.2,f.2.2.2.2.1,f.2.2.2.2.2.1)
theorem bFa {f:den tFl} (h:tot tFl f<=1073741824) (hr:inR f.2.2.2.2.2.2.1 0 ((f.2.2.2.2.2.1.length:Int) - 1)=true): ∃ q,f.2.2.2.2.2.1[f.2.2.2.2.2.2.1.toNat]? =some q/\idx f.2.2.2.2.2.1 f.2.2.2.2.2.2.1=some q/\tot tPt q<=1073741824:=by
 obtain ⟨h0,h1⟩:=bQ.1 hr;obtain ⟨q,hq⟩:=aCo h0 h1;have ht:=wX (t:=tPt) hq;have hp:tot (.sl tPt) f.2.2.2.2.2.1<=1073741824:=aHa (bE (bE (bE (bE (bE h)))));exact ⟨q,hq,aKm h0 hq,by omega⟩
theorem bXb {f:den tFl} {p:den tPk} {now:Int} (h:tot tFl f<=1073741824) (hp:tot tPk p<=1073741824) (hb: ∀ x∈p.2.2.2.2.2.2.2.2.2,0<=x/\x<=255):jG f p now=some (qA (aBv f p)):=by
 have hf:SmB 68719476736 tFl f:=(bC h).mono (by decide);have hl:p.2.2.2.2.2.2.2.2.2.length<=68719476736:=cEa (dE (t:=tb) _) (cEa (bE (bE (bE (bE (bE (bE (bE (bE (bE hp))))))))) (by decide));have hv:f.2.2.2.2.2.2.2.2.length<=1073741824:=cEa (dE (t:=tRv) _) (bE (bE (bE (bE (bE (bE (bE (bE h))))))));have hn:f.2.2.2.2.2.1.length<=68719476736:=hf.2.2.2.2.2.1.1;unfold jG aBv pj9 zz4 zz5 zz6 zz7 zz8 zz9;simp only [aP,aHu hf,aA,cAc hb hl,kM,oF hn,bDo,bYx hv,bne];cases c1:p.1==3
 .simp only [cEm,zZ,aA,cEw,zY]
 .cases c2:(aAd p.2.2.2.2.2.2.2.2.2).2.2.2
  .simp only [cEc,cEm,zZ,zY,aA,cEs]
  .simp only [cEc,zZ,zY,aA,cEs];unfold aVj;cases c3:inR f.2.2.2.2.2.2.1 0 ((f.2.2.2.2.2.1.length:Int) - 1)
   .simp only [zY,aA,cEw];rfl
   .obtain ⟨q,hq,hi,ht⟩:=bFa h c3;have ha:=aXm (p:=q) (x:=aCv p.2.2.2.2.2.2.2.2.2) ht;have ha:tC q ((aAd p.2.2.2.2.2.2.2.2.2).1,(aAd p.2.2.2.2.2.2.2.2.2).2.1,(aAd p.2.2.2.2.2.2.2.2.2).2.2.1)=some (nR q (aCv p.2.2.2.2.2.2.2.2.2)):=ha;simp only [zZ,hi,hq,cE3,aA,ha,cEs];cases nR q (aCv p.2.2.2.2.2.2.2.2.2)<;>rfl
theorem bWr {f:den tFl} {p:den tPk} {now:Int} (h:tot tFl f<=1073741824) (hp:tot tPk p<=1073741824) (hb: ∀ x∈p.2.2.2.2.2.2.2.2.2,0<=x/\x<=255):jP f p now=some (cCa (aBv f p)):=by
 have hf:SmB 68719476736 tFl f:=(bC h).mono (by decide);have hl:p.2.2.2.2.2.2.2.2.2.length<=68719476736:=cEa (dE (t:=tb) _) (cEa (bE (bE (bE (bE (bE (bE (bE (bE (bE hp))))))))) (by decide));have hv:f.2.2.2.2.2.2.2.2.length<=1073741824:=cEa (dE (t:=tRv) _) (bE (bE (bE (bE (bE (bE (bE (bE h))))))));have hn:f.2.2.2.2.2.1.length<=68719476736:=hf.2.2.2.2.2.1.1;unfold jP aBv pj3 pj9 zz4 zz5 zz6 zz7 zz8 zz9;simp only [aP,aFw hf,aA,cBf hb hl,fQ,oF hn,bY5 hv,bne];cases c1:p.1==3
 .simp only [cEm,zZ,aA,cEw,zY];rfl
 .cases c2:(aAd p.2.2.2.2.2.2.2.2.2).2.2.2
  .simp only [cEc,cEm,zZ,zY,aA,cEs];rfl
  .simp only [cEc,zZ,zY,aA,cEs];unfold aVj;cases c3:inR f.2.2.2.2.2.2.1 0 ((f.2.2.2.2.2.1.length:Int) - 1)
   .simp only [zY,aA,cEw];rfl
   .obtain ⟨q,hq,hi,ht⟩:=bFa h c3;have ha:=aXw (p:=q) (x:=aCv p.2.2.2.2.2.2.2.2.2) ht;have ha:tL q ((aAd p.2.2.2.2.2.2.2.2.2).1,(aAd p.2.2.2.2.2.2.2.2.2).2.1,(aAd p.2.2.2.2.2.2.2.2.2).2.2.1)=some (nR q (aCv p.2.2.2.2.2.2.2.2.2)):=ha;simp only [zZ,hi,hq,cE3,aA,ha,cEs,bMo hf c3];cases nR q (aCv p.2.2.2.2.2.2.2.2.2)<;>rfl
theorem bKb (f:den tFl) (p:den tPk):tot tFl (aBv f p)<=tot tFl f+1:=by
 unfold aBv;cases (p.1==3&&(aAd p.2.2.2.2.2.2.2.2.2).2.2.2)
 .simp
 .have h1:=bN5 f.2.2.2.2.2.2.2.2 (aCv p.2.2.2.2.2.2.2.2.2);have h2:=bLi f.2.2.2.2.2.2.2.2;simp only [zZ,rP,vX];omega
def kS (h:den bU):Bool:=inR h.1 0 7&&(inR h.2.1 0 6&&(inR h.2.2.1 0 6&&(!(h.2.1==h.2.2.1)&&(inR h.2.2.2.1 0 1000000&&lA h.2.2.2.2))))
theorem aRw (h:den bU):oQ h=some (kS h):=by
 unfold oQ kS zz4;simp only [kM,aHv,aA,bne];cases inR h.1 0 7<;>cases inR h.2.1 0 6<;>cases inR h.2.2.1 0 6<;>cases h.2.1==h.2.2.1<;>cases inR h.2.2.2.1 0 1000000<;>rfl
theorem aMk (h:den bU):kV h=some (kS h):=by
 unfold kV kS zz4;simp only [fQ,aFp,aA,bne];cases inR h.1 0 7<;>cases inR h.2.1 0 6<;>cases inR h.2.2.1 0 6<;>cases h.2.1==h.2.2.1<;>cases inR h.2.2.2.1 0 1000000<;>rfl
theorem aT5 (n k:Nat):decide ((n:Int)>(k:Int))= !decide (n<=k):=by rw [cEz];simp
def aG7 (l:cF):Bool:=decide (l.length<=8)&&l.all kS
theorem bWh {l:cF} (h:l.length<=68719476736):nH l=some (aG7 l):=by
 unfold nH aG7 pj5;rw [aO (l:=l) (fun _ x=>if kS x then none else some false) (by omega) (fun k x hi hd hw hm hk=>by
  simp only [hd,hi,hw,zZ,aA,aP,aRw];cases kS x<;>rfl) (by simp),iC kS]
 have e:=aT5 l.length 8;rw [show ((8:Nat):Int)=8 from rfl] at e;rw [e];cases decide (l.length<=8)<;>cases l.all kS<;>rfl
def aCy (p:den tPp):Bool:=inR p.1 1 4&&(inR p.2.1 0 1000000&&(lA p.2.2.1&&aG7 p.2.2.2))
theorem bYo {p:den tSg} (h:p.2.2.length<=68719476736):vS p=some (inR p.1 0 1000000&&(lA p.2.1&&aG7 p.2.2)):=by
 unfold vS aG7 pj5;rw [aO (l:=p.2.2) (fun _ x=>if kS x then none else some false) (by omega) (fun k x hi hd hw hm hk=>by
  simp only [hd,hi,hw,zZ,aA,aP,aMk];cases kS x<;>rfl) (by simp),iC kS]
 have e:=aT5 p.2.2.length 8;rw [show ((8:Nat):Int)=8 from rfl] at e;rw [e,fQ,aFp];cases inR p.1 0 1000000<;>cases lA p.2.1<;>cases decide (p.2.2.length<=8)<;>cases p.2.2.all kS<;>rfl
def aI2 (p:den tPt):Bool:=decide (p.length<=3)&&p.all aCy
theorem bZ2 {p:den tPt} (h:SmB 68719476736 tPt p):nL p=some (aI2 p):=by
 unfold nL aI2;rw [aO (l:=p) (fun _ x=>if aCy x then none else some false) (cEa h.1 (by decide)) (fun k x hi hd hw hm hk=>by
  have hx:=(h.2 x hm).2.2.2.1;simp only [hd,hi,hw,zZ,aA,aP,kM,aHv,bWh hx];unfold aCy;cases inR x.1 1 4<;>cases inR x.2.1 0 1000000<;>cases lA x.2.2.1<;>cases aG7 x.2.2.2<;>rfl) (by simp),iC aCy]
 have e:=aT5 p.length 3;rw [show ((3:Nat):Int)=3 from rfl] at e;rw [e];cases decide (p.length<=3)<;>cases p.all aCy<;>rfl
theorem bYy {p:den tPt} (h:SmB 68719476736 tPt p):nQ p=some (aI2 p):=by
 unfold nQ aI2 pj3;rw [aO (l:=p) (fun _ x=>if aCy x then none else some false) (cEa h.1 (by decide)) (fun k x hi hd hw hm hk=>by
  have hx:=(h.2 x hm).2.2.2.1;have hs:=bYo (p:=(x.2.1,x.2.2.1,x.2.2.2)) hx;simp only [hd,hi,hw,zZ,aA,aP,fQ];simp only [aP] at hs;simp only [hs,aA];unfold aCy;cases inR x.1 1 4<;>cases inR x.2.1 0 1000000<;>cases lA x.2.2.1<;>cases aG7 x.2.2.2<;>rfl) (by simp),iC aCy]
 have e:=aT5 p.length 3;rw [show ((3:Nat):Int)=3 from rfl] at e;rw [e];cases decide (p.length<=3)<;>cases p.all aCy<;>rfl
def aLy (x:den tPp):Bool:= !((x.2.2.2.length:Int)==0)
def fY (p:den tPk):Bool:=inR p.1 1 3&&(aI2 p.2.2.2.1&&(cQ p&&(lA p.2.2.2.2.2.2.1&&(p.2.2.2.1.all aLy&&(inR p.2.1 0 7&&(inR p.2.2.1 0 7&&(inR p.2.2.2.2.2.2.2.1 0 100000&&(inR p.2.2.2.2.2.2.2.2.1 0 100000&&decide ((p.2.2.2.2.2.2.2.2.2.length:Int)<=40)))))))))
theorem bZd {p:den tPk} (h:aI2 p.2.2.2.1=true):decide (dF p<0)= !cQ p:=by
 cases c:cQ p with
 | false=>rw [aCe c];rfl
 | true=>
  obtain ⟨i,j,x,y,h1,h2,h3,h4,h5⟩:=aEz c;rw [h5];unfold aI2 at h;have ha:=(cEe _ _▸h:_/\_).2;have hx:=cE6.1 ha x (cEn h3);unfold aCy aG7 at hx;simp only [cEe] at hx;have hy:=cE6.1 hx.2.2.2.2 y (cEn h4);unfold kS at hy;simp only [cEe,bQ] at hy;have :=hy.1.1;simp;omega
theorem bBf {p:den tPk} (h:SmB 68719476736 tPk p):kA p=some (fY p):=by
 unfold kA fY aI zz6 zz7 zz8 zz9;rw [aO (l:=p.2.2.2.1) (fun _ x=>if aLy x then none else some false) (cEa h.2.2.2.1.1 (by decide)) (fun k x hi hd hw hm hk=>by
  simp only [hd,hi,hw,zZ,aA];unfold aLy;cases (x.2.2.2.length:Int)==0<;>rfl) (by simp),iC aLy]
 simp only [kM,aP,aIa h,bZ2 h.2.2.2.1,aHv,aA];cases inR p.1 1 3
 .rfl
 .cases he:aI2 p.2.2.2.1
  .rfl
  .rw [bZd he];cases hz:(p.2.2.2.1.length:Int)==0
   .cases cQ p<;>simp only [cEc,cEm,zZ,zY,aA,cEw,cEs];cases lA p.2.2.2.2.2.2.1<;>simp only [cEc,cEm,zZ,zY,aA,cEw,cEs];cases p.2.2.2.1.all aLy<;>cases inR p.2.1 0 7<;>cases inR p.2.2.1 0 7<;>cases inR p.2.2.2.2.2.2.2.1 0 100000<;>cases inR p.2.2.2.2.2.2.2.2.1 0 100000<;>rfl
   .have hh:cQ p=false:=by
     have hl:(p.2.2.2.1.length:Int)=0:=by simpa using hz
     unfold cQ;have :inR p.2.2.2.2.1 0 ((p.2.2.2.1.length:Int) - 1)=false:=by rw [bEy];omega
     rw [this];rfl
    rw [hh];rfl
theorem bAi {p:den tPk} (h:SmB 68719476736 tPk p):jU p=some (fY p):=by
 have l1:=h.2.2.2.1.1;unfold jU fY zz4 zz5 zz6 zz7 zz8 zz9;rw [aO (l:=p.2.2.2.1) (fun _ x=>if aLy x then none else some false) (cEa h.2.2.2.1.1 (by decide)) (fun k x hi hd hw hm hk=>by
  simp only [hd,hi,hw,zZ,aA];unfold aLy;cases (x.2.2.2.length:Int)==0<;>rfl) (by simp),iC aLy]
 simp only [fQ,oF l1,bYy h.2.2.2.1,aFp,aA];unfold cQ;cases inR p.1 1 3
 .rfl
 .cases he:aI2 p.2.2.2.1
  .rfl
  .cases c1:inR p.2.2.2.2.1 0 ((p.2.2.2.1.length:Int) - 1)
   .rfl
   .rw [bQ] at c1;obtain ⟨x,hx⟩:=aCo c1.1 c1.2;have l2:=(h.2.2.2.1.2 _ (cEn hx)).2.2.2.1;rw [aKm c1.1 hx,hx];simp only [cEc,zY,aA,cE3,oF l2,cEs];cases lA p.2.2.2.2.2.2.1<;>cases inR p.2.2.2.2.2.1 0 ((x.2.2.2.length:Int) - 1)<;>cases p.2.2.2.1.all aLy<;>cases inR p.2.1 0 7<;>cases inR p.2.2.1 0 7<;>cases inR p.2.2.2.2.2.2.2.1 0 100000<;>cases inR p.2.2.2.2.2.2.2.2.1 0 100000<;>rfl
def vZ (a b:Int) (f:den tFl):Bool:=(f.1==a&&f.2.1==b)||(f.1==b&&f.2.1==a)
def eZ (e:den dC):den tPk:=e.2.2.2.2.2
noncomputable def harm (w:den tNw) (e:den dC):Bool:=
 cond (!(e.1==7)||(!fY (eZ e)||(eZ e).1==3)) true (cond (w.2.2.2.2.2.1.all fun x=> !uQ x.2.2 (eZ e)) (w.2.2.2.2.2.2.1.all fun f=> !vZ (eZ e).2.1 (eZ e).2.2.1 f) true)
theorem bZv {w:den tNw} {e:den dC} (hw:SmB 68719476736 tNw w) (he:SmB 68719476736 dC e):xS w e=some (harm w e):=by
 have hp:SmB 68719476736 tPk (eZ e):=he.2.2.2.2.2;unfold xS harm aI zz5 zz6 zz7;rw [aO (l:=w.2.2.2.2.2.1) (fun _ x=>if !uQ x.2.2 (eZ e) then none else some true) (cEa hw.2.2.2.2.2.1.1 (by decide)) (fun k x hi hd hw2 hm hk=>by
  have hs:mO x.2.2 e.2.2.2.2.2=some (uQ x.2.2 (eZ e)):=bVp (hw.2.2.2.2.2.1.2 x hm).2.2 hp;simp only [hd,hi,hw2,zZ,aA,aP,hs];cases uQ x.2.2 (eZ e)<;>rfl) (by simp),iC (fun x:den tFy=> !uQ x.2.2 (eZ e))]
 rw [aO (l:=w.2.2.2.2.2.2.1) (fun _ f=>if !vZ (eZ e).2.1 (eZ e).2.2.1 f then none else some false) (cEa hw.2.2.2.2.2.2.1.1 (by decide)) (fun k x hi hd hw hm hk=>by
  simp only [hd,hi,hw,zZ,aA];show @Option.bind Bool _ (cond (x.1==(eZ e).2.1) (cond (x.2.1==(eZ e).2.2.1) (some true) (cond (x.1==(eZ e).2.2.1) (some (x.2.1==(eZ e).2.1)) (some false))) (cond (x.1==(eZ e).2.2.1) (some (x.2.1==(eZ e).2.1)) (some false))) _=_;unfold vZ;cases x.1==(eZ e).2.1<;>cases x.2.1==(eZ e).2.2.1<;>cases x.1==(eZ e).2.2.1<;>cases x.2.1==(eZ e).2.1<;>rfl) (by simp),iC (fun f:den tFl=> !vZ (eZ e).2.1 (eZ e).2.2.1 f)]
 have hv:kA e.2.2.2.2.2=some (fY (eZ e)):=bBf hp;simp only [aP,hv,aA,bne];show @Option.bind Bool Bool (cond (!(e.1==7)) (some true) (cond (!fY (eZ e)) (some true) (some ((eZ e).1==3)))) _=_;cases e.1==7
 .rfl
 .cases fY (eZ e)
  .rfl
  .cases (eZ e).1==3
   .cases w.2.2.2.2.2.1.all (fun x=> !uQ x.2.2 (eZ e))<;>cases w.2.2.2.2.2.2.1.all (fun f=> !vZ (eZ e).2.1 (eZ e).2.2.1 f)<;>rfl
   .rfl
theorem bKo {w:den tNw} {a b:Int} (hw:SmB 68719476736 tNw w):pM w a b=some (!(w.2.2.2.2.2.2.1.all fun f=> !vZ a b f)):=by
 unfold pM zz6;rw [aO (l:=w.2.2.2.2.2.2.1) (fun _ f=>if !vZ a b f then none else some true) (cEa hw.2.2.2.2.2.2.1.1 (by decide)) (fun k x hi hd hw hm hk=>by
  simp only [hd,hi,hw,zZ,aA];unfold vZ;cases x.1==a<;>cases x.2.1==b<;>cases x.1==b<;>cases x.2.1==a<;>rfl) (by simp),iC (fun f:den tFl=> !vZ a b f)]
 cases w.2.2.2.2.2.2.1.all (fun f=> !vZ a b f)<;>rfl
theorem bJz {w:den tNw} {e:den dC} (hw:SmB 68719476736 tNw w) (he:SmB 68719476736 dC e):kQ w e=some (harm w e):=by
 have hp:SmB 68719476736 tPk (eZ e):=he.2.2.2.2.2;unfold kQ harm aI cZ zz5 zz6 zz7;rw [aO (l:=w.2.2.2.2.2.1) (fun _ x=>if !uQ x.2.2 (eZ e) then none else some true) (cEa hw.2.2.2.2.2.1.1 (by decide)) (fun k x hi hd hw2 hm hk=>by
  have hs:mZ x.2.2 e.2.2.2.2.2=some (uQ x.2.2 (eZ e)):=bXr (hw.2.2.2.2.2.1.2 x hm).2.2 hp;simp only [hd,hi,hw2,zZ,aA,aP,hs];cases uQ x.2.2 (eZ e)<;>rfl) (by simp),iC (fun x:den tFy=> !uQ x.2.2 (eZ e))]
 have hv:jU e.2.2.2.2.2=some (fY (eZ e)):=bAi hp;have hf:pM w e.2.2.2.2.2.2.1 e.2.2.2.2.2.2.2.1=some (!(w.2.2.2.2.2.2.1.all fun f=> !vZ (eZ e).2.1 (eZ e).2.2.1 f)):=bKo hw;simp only [aP,hv,hf,aA,bne];show @Option.bind Bool Bool (cond (!(e.1==7)) (some true) (cond (!fY (eZ e)) (some true) (cond ((eZ e).1==3) (some true) _))) _=_;cases e.1==7
 .rfl
 .cases fY (eZ e)
  .rfl
  .cases (eZ e).1==3
   .cases w.2.2.2.2.2.1.all (fun x=> !uQ x.2.2 (eZ e))<;>cases w.2.2.2.2.2.2.1.all (fun f=> !vZ (eZ e).2.1 (eZ e).2.2.1 f)<;>rfl
   .rfl
abbrev aGl (l:lRs) (now:Int):lRs:=l.filter fun x=>decide (now<=x.2.2.2.2)
theorem bQg {l:lRs} {now:Int} (h:l.length<=1073741824):gM l now=some (aGl l now):=by
 unfold gM pj5 zz4;rw [(aJm (l:=l) (out:=fun a=>a) (fun (a:lRs) x=>if decide (now<=x.2.2.2.2) then a++[x] else a) (fun k a=>a.length<=k) (by omega) (by simp) (fun k x a hi hd hw hx hk hI=>by
  simp only [hd,hi,hw,zZ,aA]
  by_cases hp:now<=x.2.2.2.2
  .simp [hp,aE (b:=40) (n:=a.length) (m:=1) (by decide) (by omega)];omega
  .simp [hp];omega) (fun a=>by simp)).1]
 simp only [aEy,cEx,aA]
theorem bPo {l:lRs} {now:Int} (h:l.length<=1073741824):gJ l now=some (aGl l now):=by
 unfold gJ pj5 zz4;rw [(aJm (l:=l) (out:=fun a=>a) (fun (a:lRs) x=>if decide (now<=x.2.2.2.2) then a++[x] else a) (fun k a=>a.length<=k) (by omega) (by simp) (fun k x a hi hd hw hx hk hI=>by
  simp only [hd,hi,hw,zZ,aA]
  by_cases hp:now<=x.2.2.2.2
  .simp [hp,aE (b:=40) (n:=a.length) (m:=1) (by decide) (by omega)];omega
  .simp [hp];omega) (fun a=>by simp)).1]
 simp only [aEy,cEx,aA]
def atR (x:den tRs) (s d:Int):Bool:=x.2.1==s&&x.2.2.1==d
theorem bQj (x:den tRs) (s d:Int):eQ x s d=some (atR x s d):=by
 unfold eQ atR;cases x.2.1==s<;>simp
theorem bZa (x:den tRs) (s d now:Int):aBm x s d now=some (atR x s d&&decide (now<=x.2.2.2.2)):=by
 unfold aBm atR zz4;cases x.2.1==s<;>cases x.2.2.1==d<;>simp
def rate (l:lRs) (s d now:Int):Int:=l.foldl (fun a x=>if atR x s d&&decide (now<=x.2.2.2.2) then wr (a+x.2.2.2.1) else a) 0
theorem bLp {l:lRs} {s d now:Int} (h:l.length<=1073741824):kC l s d now=some (rate l s d now):=by
 unfold kC pj5 zz4;rw [(aR6 (l:=l) (out:=fun a=>a) (fun (a:Int) x=>if atR x s d&&decide (now<=x.2.2.2.2) then wr (a+x.2.2.2.1) else a) (fun _ _=>True) (by omega) trivial (fun k x a hi hd hw hx hk hI=>by
  refine ⟨?_,trivial⟩;simp only [hd,hi,hw,zZ,aA];rw [show ((x.1,x.2.1,x.2.2.1,x.2.2.2.1,x.2.2.2.2):den tRs)=x from rfl,bQj];cases atR x s d<;>cases decide (now<=x.2.2.2.2)<;>rfl) (fun a=>by simp)).1]
 rfl
theorem bA2 {l:lRs} {s d now:Int} (h:l.length<=1073741824):gB l s d now=some (rate l s d now):=by
 unfold gB pj5;rw [(aR6 (l:=l) (out:=fun a=>a) (fun (a:Int) x=>if atR x s d&&decide (now<=x.2.2.2.2) then wr (a+x.2.2.2.1) else a) (fun _ _=>True) (by omega) trivial (fun k x a hi hd hw hx hk hI=>by
  refine ⟨?_,trivial⟩;simp only [hd,hi,hw,zZ,aA];rw [show ((x.1,x.2.1,x.2.2.1,x.2.2.2.1,x.2.2.2.2):den tRs)=x from rfl,bZa];cases atR x s d<;>cases decide (now<=x.2.2.2.2)<;>rfl) (fun a=>by simp)).1]
 rfl
def free (l:lRs) (cap s d now:Int):Int:=if wr (cap - rate l s d now)>0 then wr (cap - rate l s d now) else 0
theorem bX5 {l:lRs} {cap s d now:Int} (h:l.length<=1073741824):yB l cap s d now=some (free l cap s d now):=by
 unfold yB;simp only [bLp h,aA,bSs];rfl
theorem bK6 {l:lRs} {cap s d now:Int} (h:l.length<=1073741824):sN l cap s d now=some (free l cap s d now):=by
 unfold sN;simp only [bA2 h,aA,bHw];rfl
def aC0 (l:lRs) (id s d now:Int):Int:=
 match bY (fun _ (x:den tRs)=>if x.1==id&&(atR x s d&&decide (now<=x.2.2.2.2)) then some x.2.2.2.1 else none) 0 l with
 | some r=>r
 | none=>0
theorem bKv {l:lRs} {id s d now:Int} (h:l.length<=1073741824):kK l id s d now=some (aC0 l id s d now):=by
 unfold kK pj5 zz4;rw [aO (l:=l) (fun _ (x:den tRs)=>if x.1==id&&(atR x s d&&decide (now<=x.2.2.2.2)) then some x.2.2.2.1 else none) (by omega) (fun k x hi hd hw hx hk=>by
  simp only [hd,hi,hw,zZ,aA];rw [show ((x.1,x.2.1,x.2.2.1,x.2.2.2.1,x.2.2.2.2):den tRs)=x from rfl,bQj];cases x.1==id<;>cases atR x s d<;>cases decide (now<=x.2.2.2.2)<;>rfl) (by simp)]
 unfold aC0;cases bY (fun _ (x:den tRs)=>if x.1==id&&(atR x s d&&decide (now<=x.2.2.2.2)) then some x.2.2.2.1 else none) 0 l<;>rfl
theorem aX4 {l:lRs} {id s d now:Int} (h:l.length<=1073741824):fW l id s d now=some (aC0 l id s d now):=by
 unfold fW pj5;rw [aO (l:=l) (fun _ (x:den tRs)=>if x.1==id&&(atR x s d&&decide (now<=x.2.2.2.2)) then some x.2.2.2.1 else none) (by omega) (fun k x hi hd hw hx hk=>by
  simp only [hd,hi,hw,zZ,aA];rw [show ((x.1,x.2.1,x.2.2.1,x.2.2.2.1,x.2.2.2.2):den tRs)=x from rfl,bZa];cases x.1==id<;>cases atR x s d<;>cases decide (now<=x.2.2.2.2)<;>rfl) (by simp)]
 unfold aC0;cases bY (fun _ (x:den tRs)=>if x.1==id&&(atR x s d&&decide (now<=x.2.2.2.2)) then some x.2.2.2.1 else none) 0 l<;>rfl
def wH (x:den tRs):Bool:=inR x.1 1 100000&&(inR x.2.2.2.1 1 20&&eK (x.2.1,x.2.2.1,x.2.2.2.2))
theorem bOh (x:den tRs):jD x=some (wH x):=by
 unfold jD wH zz4;simp only [kM,aFk,aA];cases inR x.1 1 100000<;>cases inR x.2.2.2.1 1 20<;>cases eK (x.2.1,x.2.2.1,x.2.2.2.2)<;>rfl
theorem aZx (x:den tRs):fA x=some (wH x):=by
 unfold fA wH zz4;simp only [fQ,aFr,aA];cases inR x.1 1 100000<;>cases inR x.2.2.2.1 1 20<;>cases eK (x.2.1,x.2.2.1,x.2.2.2.2)<;>rfl
def iE (x y:den tRs):Bool:=y.1==x.1&&atR y x.2.1 x.2.2.1
theorem aW1 {l:lRs} {x:den tRs} (h:l.length<=1073741824):oE l x=some (l.filter fun y=> !iE x y):=by
 unfold oE pj5;rw [(aJm (l:=l) (out:=fun a=>a) (fun (a:lRs) y=>if !iE x y then a++[y] else a) (fun k a=>a.length<=k) (by omega) (by simp) (fun k y a hi hd hw hx hk hI=>by
  simp only [hd,hi,hw,zZ,aA];have hap:=aE (b:=40) (n:=a.length) (m:=1) (by decide) (by omega);unfold iE atR;simp only [bne];cases h1:y.1==x.1<;>cases h2:y.2.1==x.2.1<;>cases h3:y.2.2.1==x.2.2.1<;>simp [hap]<;>omega) (fun a=>by simp)).1]
 simp only [aEy,cEx,aA]
def okR (l:lRs) (cap now:Int) (k:Nat) (x:den tRs):Bool:=wH x&&(!decide (rate l x.2.1 x.2.2.1 now>cap)&& !(l.take k).any (iE x))
def zQ (l:lRs) (cap now:Int):Bool:=
 decide (l.length<=40)&&(bY (fun k x=>if okR l cap now k x then none else some ()) 0 l).isNone
theorem aA0 {α R S:Type} (p:Nat->α->Bool) (r:R) (s:S): ∀ (l:List α) (k:Nat),(bY (fun k x=>if p k x then none else some r) k l).isNone=(bY (fun k x=>if p k x then none else some s) k l).isNone/\ ∀ q,bY (fun k x=>if p k x then none else some r) k l=some q->q=r
 | [],_=>⟨rfl,fun q h=>by cases h⟩
 | x::xs,k=>by
  simp only [bY];cases p k x with
  | true=>simpa using aA0 p r s xs (k+1)
  | false=>simp
theorem bH0 {α:Type} (p:Nat->α->Bool) (l:List α):(match bY (fun k x=>if p k x then none else some false) 0 l with
  | some r=>some r
  | none=>some true)=some (bY (fun k x=>if p k x then none else some ()) 0 l).isNone:=by
 obtain ⟨h1,h2⟩:=aA0 p false () l 0;rw [<- h1];cases h:bY (fun k x=>if p k x then none else some false) 0 l with
 | none=>rfl
 | some q=>rw [h2 q h];rfl
theorem bMd {l:lRs} {cap now:Int} (h:l.length<=1073741824):iA l cap now=some (zQ l cap now):=by
 unfold iA zQ pj5
 by_cases hl:l.length<=40
 .rw [zW (by omega),zY,zX hl,cEs];rw [aO (l:=l) (fun k x=>if okR l cap now k x then none else some false) (by omega) (fun k x hi hd hw hx hk=>by
   have hslo:bX (0:Int) (k:Int) (l.length:Int)=true:=by simp [bX];omega
   have hlen:(l.take k).length<=1073741824:=by simp;omega
   simp only [hd,hi,hw,zZ,aA,hslo,fR];rw [show ((x.1,x.2.1,x.2.2.1,x.2.2.2.1,x.2.2.2.2):den tRs)=x from rfl,bOh,bLp h];unfold okR;cases hv:wH x with
   | false=>rfl
   | true=>
    cases hr:decide (rate l x.2.1 x.2.2.1 now>cap) with
    | true=>simp [hr]
    | false=>
     simp only [aA,cEc,zY,hr,cEm,cEs];rw [aO (l:=l.take k) (R:=Int⊕(Unit⊕Bool)) (fun _ y=>if iE x y then some (cD8 (cD8 false)) else none) (by omega) (fun j y hi2 hd2 hw2 hx2 hk2=>by
      simp only [hd2,hi2,hw2,zZ,aA];rw [show ((y.1,y.2.1,y.2.2.1,y.2.2.2.1,y.2.2.2.2):den tRs)=y from rfl,bQj];unfold iE;cases y.1==x.1<;>cases atR y x.2.1 x.2.2.1<;>rfl) (by simp)]
     have key: ∀ (m:lRs) (j:Nat),bY (fun _ y=>if iE x y then some (cD8 (cD8 false):Int⊕(Unit⊕Bool)) else none) j m=if m.any (iE x) then some (cD8 (cD8 false)) else none:=by
      intro m
      induction m with
      | nil=>intro j;rfl
      | cons y m ih=>
       intro j;simp only [bY,List.any_cons];rcases cG1 (iE x y) with hs | hs
       .simp [hs]
       .simp only [hs,ih,cEg,zU];rfl
     rw [key];cases (l.take k).any (iE x)<;>simp) (by simp)]
  rw [<- bH0];cases bY (fun k x=>if okR l cap now k x then none else some false) 0 l<;>rfl
 .rw [zX (by omega),zZ,zW hl];rfl
theorem bM6 {l:lRs} {cap now:Int} (h:l.length<=1073741824):hZ l cap now=some (zQ l cap now):=by
 unfold hZ zQ pj5;rw [aO (l:=l) (fun k x=>if okR l cap now k x then none else some false) (by omega) (fun k x hi hd hw hx hk=>by
  have hslo:bX (0:Int) (k:Int) (l.length:Int)=true:=by simp [bX];omega
  have hlen:(l.take k).length<=1073741824:=by simp;omega
  simp only [hd,hi,hw,zZ,aA,hslo,fR];rw [show ((x.1,x.2.1,x.2.2.1,x.2.2.2.1,x.2.2.2.2):den tRs)=x from rfl,aZx,aW1 hlen,bA2 h];unfold okR;cases hv:wH x with
  | false=>rfl
  | true=>
   simp only [aA,cEc,zY,cEs];have hany:((((l.take k).filter fun y=> !iE x y).length:Int) != (k:Int))=(l.take k).any (iE x):=by
    have hk':(l.take k).length=k:=by simp;omega
    cases ha:(l.take k).any (iE x) with
    | false=>
     have :(l.take k).filter (fun y=> !iE x y)=l.take k:=by
      rw [List.filter_eq_self];intro y hy;have :=List.any_eq_false.1 ha y hy;simpa using this
     rw [this,hk'];simp
    | true=>
     obtain ⟨y,hy,hs⟩:=List.any_eq_true.1 ha;have hlt:((l.take k).filter fun y=> !iE x y).length<(l.take k).length:=by
      refine Nat.lt_of_le_of_ne (cGa ..) fun he=> ?_
      have :=(List.length_filter_eq_length_iff.1 he) y hy;rw [hs] at this;cases this
     rw [bne_iff_ne];omega
   rw [hany];cases (l.take k).any (iE x)<;>cases decide (rate l x.2.1 x.2.2.1 now>cap)<;>rfl) (by simp)]
 obtain ⟨h1,h2⟩:=aA0 (okR l cap now) false () l 0;rw [<- h1];cases hsc:bY (fun k x=>if okR l cap now k x then none else some false) 0 l with
 | none=>simp;omega
 | some q=>rw [h2 q hsc];simp
def kP (id s d:Int) (x:den tUs):Bool:=x.1==id&&(x.2.1==s&&x.2.2.1==d)
def place (l:lUs) (id s d:Int):Int:=
 match bY (fun k x=>if kP id s d x then some (k:Int) else none) 0 l with
 | some i=>i
 | none=> -1
theorem aK4 (l:lUs) (id s d:Int):place l id s d= -1\/ ∃ (j:Nat) (x:den tUs),place l id s d=(j:Int)/\l[j]? =some x/\j<l.length:=by
 unfold place;cases h:bY (fun k x=>if kP id s d x then some (k:Int) else none) 0 l with
 | none=>exact .inl rfl
 | some i=>
  obtain ⟨j,x,h1,h2,h3⟩:=aL2 h;exact .inr ⟨j,x,by simpa using h2,h1,(cEj.1 h1).1⟩
theorem aVw {g:den tSc} {id s d:Int} (h:g.2.2.length<=1073741824):rC g id s d=some (place g.2.2 id s d):=by
 unfold rC;rw [aO (l:=g.2.2) (fun k x=>if kP id s d x then some (k:Int) else none) (by omega) (fun k x hi hd hw hx hk=>by
  simp only [hd,hi,hw,zZ,aA];unfold kP;cases x.1==id<;>cases x.2.1==s<;>cases x.2.2.1==d<;>rfl) (by simp)]
 unfold place;cases bY (fun k x=>if kP id s d x then some (k:Int) else none) 0 g.2.2<;>rfl
theorem aV6 {l:lUs} {id s d:Int} (h:l.length<=1073741824):oS l id s d=some (place l id s d):=by
 unfold oS;rw [aO (l:=l) (fun k x=>if kP id s d x then some (k:Int) else none) (by omega) (fun k x hi hd hw hx hk=>by
  simp only [hd,hi,hw,zZ,aA];unfold kP;cases x.1==id<;>cases x.2.1==s<;>cases x.2.2.1==d<;>rfl) (by simp)]
 unfold place;cases bY (fun k x=>if kP id s d x then some (k:Int) else none) 0 l<;>rfl
def pO (g:den tSc) (id s d now:Int):Int:=if id==0 then free g.2.1 g.1 s d now else aC0 g.2.1 id s d now
theorem bEh {g:den tSc} {id s d now:Int} (h:g.2.1.length<=1073741824):zD g id s d now=some (pO g id s d now):=by
 unfold zD pO;rw [bX5 h,bKv h];cases id==0<;>rfl
def okU (g:den tSc) (now:Int) (k:Nat) (x:den tUs):Bool:=place g.2.2 x.1 x.2.1 x.2.2.1==(k:Int)&&inR x.2.2.2 1 (pO g x.1 x.2.1 x.2.2.1 now)
def aBh (g:den tSc) (now:Int):Bool:=inR g.1 1 20&&(zQ g.2.1 g.1 now&&(bY (fun k x=>if okU g now k x then none else some ()) 0 g.2.2).isNone)
theorem bPy {g:den tSc} {now:Int} (h1:g.2.1.length<=1073741824) (h2:g.2.2.length<=1073741824):mA g now=some (aBh g now):=by
 unfold mA aBh pj3;rw [aO (l:=g.2.2) (fun k x=>if okU g now k x then none else some false) (by omega) (fun k x hi hd hw hx hk=>by
  simp only [hd,hi,hw,zZ,aA];rw [show ((g.1,g.2.1,g.2.2):den tSc)=g from rfl,aVw h2,bEh h1];unfold okU;simp only [aA,kM,bne];cases place g.2.2 x.1 x.2.1 x.2.2.1==(k:Int)<;>cases inR x.2.2.2 1 (pO g x.1 x.2.1 x.2.2.1 now)<;>rfl) (by simp)]
 rw [<- aA0 (okU g now) false () g.2.2 0 |>.1];have h3:=(aA0 (okU g now) false () g.2.2 0).2;simp only [kM,bMd h1,aA];cases inR g.1 1 20<;>cases zQ g.2.1 g.1 now<;>(cases hsc:bY (fun k x=>if okU g now k x then none else some false) 0 g.2.2 with
  | none=>rfl
  | some q=>rw [h3 q hsc];rfl)
theorem bNv {g:den tSc} {now:Int} (h1:g.2.1.length<=1073741824) (h2:g.2.2.length<=1073741824):lW g now=some (aBh g now):=by
 unfold lW aBh;rw [aO (l:=g.2.2) (fun k x=>if okU g now k x then none else some false) (by omega) (fun k x hi hd hw hx hk=>by
  simp only [hd,hi,hw,zZ,aA,aV6 h2,bK6 h1,aX4 h1,fQ];unfold okU pO;simp only [bne];cases x.1==0<;>simp only [zZ,zY,aA,fQ,zV,cEg,zU]<;>cases place g.2.2 x.1 x.2.1 x.2.2.1==(k:Int)<;>simp only [cEc,cEm,zZ,zY,aA,cEs,cEw]<;>(first | rfl | (split<;>simp_all))) (by simp)]
 rw [<- aA0 (okU g now) false () g.2.2 0 |>.1];have h3:=(aA0 (okU g now) false () g.2.2 0).2;simp only [fQ,bM6 h1,aA];cases inR g.1 1 20<;>cases zQ g.2.1 g.1 now<;>(cases hsc:bY (fun k x=>if okU g now k x then none else some false) 0 g.2.2 with
  | none=>rfl
  | some q=>rw [h3 q hsc];rfl)
theorem fU {n:Nat} (h:n<=68719476736):wr ((n:Int) - 1)=(n:Int) - 1:=wri (by omega) (by omega)
def cN (t:den tTo) (r:Int):Bool:=inR r 0 ((t.1.length:Int) - 1)
theorem aEu {t:den tTo} {r:Int} (h:t.1.length<=68719476736):kX t r=some (cN t r):=by
 unfold kX cN;rw [fU h,kM];rfl
theorem aDf {t:den tTo} {r:Int} (h:t.1.length<=68719476736):dD t r=some (cN t r):=by
 unfold dD cN;rw [fU h,fQ];rfl
theorem cCb (n:Int):yF n=some (inR n 1 2147483646):=by unfold yF;rw [kM];rfl
theorem cCx (n:Int):xT n=some (inR n 1 2147483646):=by unfold xT;rw [fQ];rfl
def dH (l:den tLk) (r d:Int):Bool:=(l.1==r&&l.2.1==d)||(l.2.2.1==r&&l.2.2.2.1==d)
theorem bDr (l:den tLk) (r d:Int):gI l r d=some (dH l r d):=by
 unfold gI dH;cases l.1==r<;>cases l.2.1==d<;>cases l.2.2.1==r<;>cases l.2.2.2.1==d<;>rfl
theorem bEr (l:den tLk) (r d:Int):wC l r d=some (dH l r d):=by
 unfold wC dH;cases l.1==r<;>cases l.2.1==d<;>cases l.2.2.1==r<;>cases l.2.2.2.1==d<;>rfl
def aVk (k:Int) (x y:den tAS):Bool:=cond (k==1) (x.2.1&&y.2.1) (cond (k==2) (x.1==y.1&& !y.2.1) (cond (k==3) (!x.2.1&& !y.2.1) false))
def aBw (t:den tTo) (l:den tLk):Bool:=
 cN t l.1&&(cN t l.2.2.1&&(!decide (l.1>=l.2.2.1)&&(inR l.2.1 1 6&&(inR l.2.2.2.1 1 6&&aVk l.2.2.2.2 ((t.1[l.1.toNat]?).getD (0,false,0)) ((t.1[l.2.2.1.toNat]?).getD (0,false,0))))))
theorem aGg {t:den tTo} {r:Int} (h:cN t r=true): ∃ x,t.1[r.toNat]? =some x/\idx t.1 r=some x:=by
 obtain ⟨h0,h1⟩:=bQ.1 h;obtain ⟨x,hx⟩:=aCo h0 h1;exact ⟨x,hx,aKm h0 hx⟩
theorem bXt {t:den tTo} {l:den tLk} (h:t.1.length<=68719476736):aCb t l=some (aBw t l):=by
 unfold aCb aBw pj2 pj3 zz4;simp only [aP,aEu h,kM,aA];cases c1:cN t l.1
 .rfl
 .cases c2:cN t l.2.2.1
  .rfl
  .obtain ⟨x,hx,ix⟩:=aGg c1;obtain ⟨y,hy,iy⟩:=aGg c2;rw [ix,iy,hx,hy];simp only [aT,bF,aX,aY,bA,aA,cE3,cEc,zY,cEs];unfold aVk;cases decide (l.1>=l.2.2.1)
   .cases inR l.2.1 1 6
    .rfl
    .cases inR l.2.2.2.1 1 6
     .rfl
     .cases l.2.2.2.2==1
      .cases l.2.2.2.2==2
       .cases l.2.2.2.2==3
        .rfl
        .cases x.2.1<;>rfl
       .cases x.1==y.1<;>rfl
      .cases x.2.1<;>rfl
   .rfl
theorem bEz {t:den tTo} {l:den tLk} (h:t.1.length<=68719476736):sL t l=some (aBw t l):=by
 unfold sL aBw pj2 zz4;simp only [aP,aDf h,fQ,aA];cases c1:cN t l.1
 .rfl
 .cases c2:cN t l.2.2.1
  .rfl
  .obtain ⟨x,hx,ix⟩:=aGg c1;obtain ⟨y,hy,iy⟩:=aGg c2;rw [ix,iy,hx,hy];simp only [aA,cE3,cEc,zY,cEs];unfold aVk;cases decide (l.1>=l.2.2.1)
   .cases inR l.2.1 1 6
    .rfl
    .cases inR l.2.2.2.1 1 6
     .rfl
     .cases l.2.2.2.2==1
      .cases l.2.2.2.2==2
       .cases l.2.2.2.2==3
        .rfl
        .cases x.2.1<;>rfl
       .cases x.1==y.1<;>rfl
      .cases x.2.1<;>rfl
   .rfl
def asP (t:den tTo) (k:Nat) (x:den tAS):Bool:=inR x.1 0 2&&(inR x.2.2 1 2147483646&&(t.1.take k).all fun y=> !(x.2.2==y.2.2))
def lkP (t:den tTo) (k:Nat) (x:den tLk):Bool:=aBw t x&&(t.2.take k).all fun y=> !(dH y x.1 x.2.1||dH y x.2.2.1 x.2.2.2.1)
def aE7 (t:den tTo):Bool:=inR (t.1.length:Int) 1 8&&((t.1.zipIdx 0).all (fun z=>asP t z.2 z.1)&&(t.2.zipIdx 0).all fun z=>lkP t z.2 z.1)
theorem aAk {k n:Nat} (h:k<n):bX (0:Int) (k:Int) (n:Int)=true:=by
 have :=aCh (a:=0) (b:=k) (n:=n);rw [show ((0:Nat):Int)=0 from rfl] at this;rw [this];simp;omega
theorem bAn {α:Type} {l:List α} {k j:Nat} {x:α} (h:idx (l.take k) (j:Int)=some x):idx l (j:Int)=some x:=by
 rw [aH] at h ⊢;exact (aK8 h).1
theorem yO {α:Type} {l:List α} {k:Nat} (h:k<l.length):(l.take k).length=k:=by simp;omega
theorem bZp {t:den tTo} (h:SmB 68719476736 tTo t):nF t=some (aE7 t):=by
 have l1:=h.1.1;have l2:=h.2.1;unfold nF aE7 pj2 pj5;rw [aO (l:=t.1) (fun k x=>if asP t k x then none else some false) (cEa l1 (by decide)) (fun k x hi hd hw hm hk=>by
  simp only [hd,hi,zZ,aA,kM,cCb,aAk hk,fR,hw];rw [aO (l:=t.1.take k) (fun _ y=>if !(x.2.2==y.2.2) then none else some (cD8 (cD8 false))) (by rw [yO hk];omega) (fun j y hi hd hw hm hk=>by
   simp only [hd,hi,hw,zZ,aA];cases x.2.2==y.2.2<;>rfl) (by simp),iC (fun y:den tAS=> !(x.2.2==y.2.2))]
  unfold asP;cases inR x.1 0 2<;>cases inR x.2.2 1 2147483646<;>cases (t.1.take k).all (fun y=> !(x.2.2==y.2.2))<;>rfl) (by simp),aBx (asP t)]
 rw [aO (l:=t.2) (fun k x=>if lkP t k x then none else some false) (cEa l2 (by decide)) (fun k x hi hd hw hm hk=>by
  simp only [hd,hi,zZ,aA,aP,bXt l1,aAk hk,fR,hw];rw [aO (l:=t.2.take k) (fun _ y=>if !(dH y x.1 x.2.1||dH y x.2.2.1 x.2.2.2.1) then none else some (cD8 (cD8 false))) (by rw [yO hk];omega) (fun j y hi hd hw hm hk=>by
   simp only [hd,hi,hw,zZ,aA,aP,bDr];cases dH y x.1 x.2.1<;>cases dH y x.2.2.1 x.2.2.2.1<;>rfl) (by simp),iC (fun y:den tLk=> !(dH y x.1 x.2.1||dH y x.2.2.1 x.2.2.2.1))]
  unfold lkP;cases aBw t x<;>cases (t.2.take k).all (fun y=> !(dH y x.1 x.2.1||dH y x.2.2.1 x.2.2.2.1))<;>rfl) (by simp),aBx (lkP t)]
 rw [kM,aA];cases inR (t.1.length:Int) 1 8<;>cases (t.1.zipIdx 0).all (fun z=>asP t z.2 z.1)<;>cases (t.2.zipIdx 0).all (fun z=>lkP t z.2 z.1)<;>rfl
theorem bQh (a b:Int):(a==b)=(b==a):=by rw [cEz];simp;exact eq_comm
theorem bMb {t:den tTo} (h:SmB 68719476736 tTo t):iZ t=some (aE7 t):=by
 have l1:=h.1.1;have l2:=h.2.1;unfold iZ aE7 pj2 pj5;rw [aO (l:=t.1) (fun k x=>if asP t k x then none else some false) (cEa l1 (by decide)) (fun k x hi hd hw hm hk=>by
  simp only [hd,hi,zZ,aA,fQ,cCx,hw];rw [aO (l:=t.1.take k) (fun _ y=>if !(x.2.2==y.2.2) then none else some (cD8 (cD8 false))) (by rw [yO hk];omega) (fun j y hi2 hd hw hm hk2=>by
   rw [yO hk] at hd;simp only [hd,bAn hi2,hi,hw,zZ,aA,bQh y.2.2 x.2.2];cases x.2.2==y.2.2<;>rfl) (by rw [yO hk];simp),iC (fun y:den tAS=> !(x.2.2==y.2.2))]
  unfold asP;cases inR x.1 0 2<;>cases inR x.2.2 1 2147483646<;>cases (t.1.take k).all (fun y=> !(x.2.2==y.2.2))<;>rfl) (by simp),aBx (asP t)]
 rw [aO (l:=t.2) (fun k x=>if lkP t k x then none else some false) (cEa l2 (by decide)) (fun k x hi hd hw hm hk=>by
  simp only [hd,hi,zZ,aA,aP,bEz l1,hw];rw [aO (l:=t.2.take k) (fun _ y=>if !(dH y x.1 x.2.1||dH y x.2.2.1 x.2.2.2.1) then none else some (cD8 (cD8 false))) (by rw [yO hk];omega) (fun j y hi2 hd hw hm hk2=>by
   rw [yO hk] at hd;simp only [hd,bAn hi2,hi,hw,zZ,aA,aP,bEr];cases dH y x.1 x.2.1<;>cases dH y x.2.2.1 x.2.2.2.1<;>rfl) (by rw [yO hk];simp),iC (fun y:den tLk=> !(dH y x.1 x.2.1||dH y x.2.2.1 x.2.2.2.1))]
  unfold lkP;cases aBw t x<;>cases (t.2.take k).all (fun y=> !(dH y x.1 x.2.1||dH y x.2.2.1 x.2.2.2.1))<;>rfl) (by simp),aBx (lkP t)]
 rw [fQ,aA];cases inR (t.1.length:Int) 1 8<;>cases (t.1.zipIdx 0).all (fun z=>asP t z.2 z.1)<;>cases (t.2.zipIdx 0).all (fun z=>lkP t z.2 z.1)<;>rfl
def xOk (x:den tIb):Bool:=inR x.1 0 7&&(inR x.2.1 0 7&&(!(x.1==x.2.1)&&((x.2.2.1==(x.2.2.2.length:Int))&&(decide (x.2.2.1<=20)&&x.2.2.2.all fun m=>decide (m.length<=40)))))
theorem cBl (a b:Int):decide (a>b)= !decide (a<=b):=by rw [cEz];simp
theorem cCq {x:den tIb} (h:x.2.2.2.length<=68719476736):sV x=some (xOk x):=by
 unfold sV xOk;rw [aO (l:=x.2.2.2) (fun _ m=>if decide (m.length<=40) then none else some false) (by omega) (fun k m hi hd hw hx hk=>by
  simp only [hd,hi,hw,zZ,aA]
  by_cases hm:m.length<=40
  .simp [hm,show ¬ ((m.length:Int)>40) by omega]
  .simp [hm,show (m.length:Int)>40 by omega]) (by simp),iC (fun m:List Int=>decide (m.length<=40))]
 simp only [kM,aA,bne,cBl];cases inR x.1 0 7<;>cases inR x.2.1 0 7<;>cases x.1==x.2.1<;>cases x.2.2.1==(x.2.2.2.length:Int)<;>cases decide (x.2.2.1<=20)<;>cases x.2.2.2.all (fun m=>decide (m.length<=40))<;>rfl
theorem cB9 {x:den tIb} (h:x.2.2.2.length<=68719476736):sX x=some (xOk x):=by
 unfold sX xOk;rw [aO (l:=x.2.2.2) (fun _ m=>if decide (m.length<=40) then none else some false) (by omega) (fun k m hi hd hw hx hk=>by
  simp only [hd,hi,hw,zZ,aA]
  by_cases hm:m.length<=40
  .simp [hm,show ¬ ((m.length:Int)>40) by omega]
  .simp [hm,show (m.length:Int)>40 by omega]) (by simp),iC (fun m:List Int=>decide (m.length<=40))]
 simp only [fQ,aA,bne];cases inR x.1 0 7<;>cases inR x.2.1 0 7<;>cases x.1==x.2.1<;>cases x.2.2.1==(x.2.2.2.length:Int)<;>cases decide (x.2.2.1<=20)<;>cases x.2.2.2.all (fun m=>decide (m.length<=40))<;>rfl
theorem bVb {t:den tTo} (h:SmB 68719476736 tTo t):pB t=some t:=by
 unfold pB pj2;simp only [aE (b:=24) (n:=([]:lAS).length) (m:=t.1.length) (by decide) (by simpa using h.1.1),aE (b:=40) (n:=([]:lLk).length) (m:=t.2.length) (by decide) (by simpa using h.2.1),zZ,aT,bF,aX,aY,bA,aA,cEx,aP]
theorem bE8 {t:den tTo} (h:SmB 68719476736 tTo t):tJ t=some t:=by
 unfold tJ pj2;simp only [aE (b:=24) (n:=([]:lAS).length) (m:=t.1.length) (by decide) (by simpa using h.1.1),aE (b:=40) (n:=([]:lLk).length) (m:=t.2.length) (by decide) (by simpa using h.2.1),zZ,aT,bF,aX,aY,bA,aA,cEx,aP]
theorem aVz {x:den tSg} (h:x.2.2.length<=68719476736):fN x=some x:=by
 unfold fN;rw [aU4 h];rfl
theorem aKq {x:den tSg} (h:x.2.2.length<=68719476736):iS x=some x:=by
 unfold iS;rw [aE (b:=40) (n:=([]:cF).length) (by decide) (by simpa using h)];rfl
theorem aZa {l:lSg} (h:SmB 68719476736 (.sl tSg) l):mW l=some l:=by
 unfold mW pj3;rw [(wL (fun k (a:lSg)=>((k:Int),a)) ((0:Int),[]) [] l (fun _ x a=>a++[x]) cEo (fun _=>1) 68719476736 id rfl (cEa h.1 (by decide)) (by rw [dS];simpa using h.1) (fun k x a hi hx hd hw hk hb=>by
  have e:=h.2 x (cEn hx);simp only [hd,hi,hw,zZ,aA,aP,aVz e.2.2.1,aE (b:=40) (by decide) hb];simp) (fun a=>by simp)).1,fV (fun x=>x)]
 simp
theorem aFy {l:lSg} (h:SmB 68719476736 (.sl tSg) l):gA l=some l:=by
 unfold gA pj3;rw [(wL (fun k (a:lSg)=>((k:Int),a)) ((0:Int),[]) [] l (fun _ x a=>a++[x]) cEo (fun _=>1) 68719476736 id rfl (cEa h.1 (by decide)) (by rw [dS];simpa using h.1) (fun k x a hi hx hd hw hk hb=>by
  have e:=h.2 x (cEn hx);simp only [hd,hi,hw,zZ,aA,aP,aKq e.2.2.1,aE (b:=40) (by decide) hb];simp) (fun a=>by simp)).1,fV (fun x=>x)]
 simp
theorem bYn (c:Int):gF c=some (cond (inR c 1 20) c 1,[],[]):=by
 unfold gF;rw [fQ];cases inR c 1 20<;>rfl
def aYd (t:den tTo) (now:Int):Bool:=aE7 t&&inR now 0 1000000
theorem bYf {t:den tTo} {k:den tDb} {c now:Int} (ht:SmB 68719476736 tTo t) (hk:SmB 68719476736 tDb k):sW t k c now=some (cond (aYd t now) (cond (inR c 1 20) c 1,now,0,t.1,t.2,k.1,k.2,[],[],[],[],[],[]) (0,0,0,[],[],[],[],[],[],[],[],[],[])):=by
 unfold sW aYd pj2;simp only [aP,bMb ht,fQ,bE8 ht,aFy hk.1,aFy hk.2,bYn,aA];cases aE7 t<;>cases inR now 0 1000000<;>rfl
def pZ (a b:Int) (x:den tIb):Bool:=x.1==a&&x.2.1==b
theorem aN2 {α:Type} (p:α->Bool): ∀ (l:List α) (k:Nat),bY (fun k x=>if p x then some (k:Int) else none) k l=(l.findIdx? p).map (fun i=>((k+i:Nat):Int))
 | [],_=>rfl
 | x::xs,k=>by
  simp only [bY,List.findIdx?_cons];cases h:p x with
  | true=>simp
  | false=>
   simp only [cEg,zU];rw [aN2 p xs (k+1)];cases xs.findIdx? p with
   | none=>rfl
   | some i=>simp<;>omega
def kT (l:lIb) (a b:Int):Int:=((l.findIdx? (pZ a b)).map (fun i=>((0+i:Nat):Int))).getD (-1)
theorem aWe {l:lIb} {a b:Int} (h:l.length<=68719476736):kD l a b=some (kT l a b):=by
 unfold kD kT;rw [aO (l:=l) (fun k x=>if pZ a b x then some (k:Int) else none) (by omega) (fun k x hi hd hw hm hk=>by
  simp only [hd,hi,hw,zZ,aA];unfold pZ;cases x.1==a<;>cases x.2.1==b<;>rfl) (by simp),aN2 (pZ a b)]
 cases l.findIdx? (pZ a b)<;>rfl
theorem bJ1 {l:lIb} {a b:Int} {k:Nat}:kT l a b=(k:Int)↔(∃ x,l[k]? =some x/\pZ a b x=true)/\ ∀ j,j<k-> ∀ y,l[j]? =some y->pZ a b y=false:=by
 unfold kT;cases h:l.findIdx? (pZ a b) with
 | none=>
  have hn:=List.findIdx?_eq_none_iff.1 h;constructor
  .intro e;exfalso;revert e;simp only [Option.map_none,Option.getD_none];omega
  .rintro ⟨⟨x,hx,hp⟩,_⟩
   have :=hn x (cEn hx);rw [hp] at this;cases this
 | some i=>
  obtain ⟨hi,hp,hj⟩:=List.findIdx?_eq_some_iff_getElem.1 h;simp only [Option.map_some,cE3,cE9];constructor
  .intro e;have e:i=k:=by omega
   subst e;refine ⟨⟨l[i],cEb hi,hp⟩,fun j hlt y hy=> ?_⟩;have h2:=hj j hlt;have h3:l[j]? =some l[j]:=cEb (by omega);rw [h3] at hy;injection hy with hy;subst hy
   simpa using h2
  .rintro ⟨⟨x,hx,hp2⟩,hl⟩
   have hik:i=k:=by
    rcases Nat.lt_trichotomy i k with c | c | c
    .have :=hl i c l[i] (cEb hi);rw [hp] at this;cases this
    .exact c
    .have h2:=hj k c;obtain ⟨hk,e⟩:=cEj.1 hx;rw [e,hp2] at h2;simp at h2
   rw [hik]
def zL (w:den tNw) (k:Nat) (f:den tFl):Bool:=match w.2.2.2.2.2.2.2.1[k]? with
 | some x=>jQ f&&(cN w.1 f.1&&(cN w.1 f.2.1&&(xOk x&&aEd f x)))
 | none=>false
def rL (f g:den tFl):Bool:=g.1==f.1&&g.2.1==f.2.1
def aHp (w:den tNw) (k:Nat) (f:den tFl):Bool:=(w.2.2.2.2.2.2.1.take k).all fun g=> !rL f g
def aJl (w:den tNw) (k:Nat) (f:den tFl):Bool:=kT w.2.2.2.2.2.2.2.1 f.2.1 f.1==(k:Int)
theorem aQ5 {w:den tNw} {k:Nat} {f:den tFl} (h:zL w k f=true): ∃ x,w.2.2.2.2.2.2.2.1[k]? =some x/\x.1=f.2.1/\x.2.1=f.1:=by
 unfold zL at h;cases hx:w.2.2.2.2.2.2.2.1[k]? with
 | none=>rw [hx] at h;cases h
 | some x=>
  rw [hx] at h;unfold aEd at h;simp only [cEe,beq_iff_eq] at h;exact ⟨x,rfl,h.2.2.2.2.1,h.2.2.2.2.2.1⟩
theorem aP4 {w:den tNw} (hA: ∀ k f,w.2.2.2.2.2.2.1[k]? =some f->zL w k f=true) {k:Nat} {f:den tFl} (hf:w.2.2.2.2.2.2.1[k]? =some f):aHp w k f=aJl w k f:=by
 have hk:=(cEj.1 hf).1;rw [cEz];unfold aHp aJl;rw [cE6,beq_iff_eq,bJ1];constructor
 .intro h;obtain ⟨x,hx,e1,e2⟩:=aQ5 (hA k f hf);refine ⟨⟨x,hx,by unfold pZ;rw [e1,e2];simp⟩,fun j hj y hy=> ?_⟩;have hg:w.2.2.2.2.2.2.1[j]? =some w.2.2.2.2.2.2.1[j]:=cEb (by omega);obtain ⟨x2,hx2,d1,d2⟩:=aQ5 (hA j _ hg);rw [hx2] at hy;injection hy with hy;subst hy
  have hm:w.2.2.2.2.2.2.1[j]∈w.2.2.2.2.2.2.1.take k:=cEn (i:=j) (by rw [List.getElem?_take_of_lt hj];exact hg);have :=h _ hm;unfold rL at this;unfold pZ;rw [d1,d2]
  revert this
  generalize (w.2.2.2.2.2.2.1[j].1==f.1)=p;generalize (w.2.2.2.2.2.2.1[j].2.1==f.2.1)=q;cases p<;>cases q<;>simp
 .rintro ⟨_,h⟩ g hg
  obtain ⟨j,hj⟩:=List.mem_iff_getElem?.1 hg;obtain ⟨hj1,hj2⟩:=aK8 hj;obtain ⟨x2,hx2,d1,d2⟩:=aQ5 (hA j g hj1);have :=h j hj2 x2 hx2;unfold pZ at this;rw [d1,d2] at this;unfold rL
  revert this
  generalize (g.1==f.1)=p;generalize (g.2.1==f.2.1)=q;cases p<;>cases q<;>simp
theorem aC1 {α:Type} (p:Nat->α->Bool) (l:List α):(l.zipIdx 0).all (fun z=>p z.2 z.1)=true↔ ∀ k x,l[k]? =some x->p k x=true:=by
 rw [cE6];constructor
 .intro h k x hx;exact h (x,k) (cHu.2 (by simpa using hx))
 .rintro h ⟨x,k⟩ hz
  exact h k x (by simpa using cHu.1 hz)
theorem bH1 (w:den tNw):(w.2.2.2.2.2.2.1.zipIdx 0).all (fun z=>zL w z.2 z.1&&aHp w z.2 z.1)=(w.2.2.2.2.2.2.1.zipIdx 0).all (fun z=>zL w z.2 z.1&&aJl w z.2 z.1):=by
 rw [cEz,aC1 (fun k f=>zL w k f&&aHp w k f),aC1 (fun k f=>zL w k f&&aJl w k f)];simp only [cEe];constructor
 .intro h k f hf;exact ⟨(h k f hf).1,by rw [<- aP4 (fun k f hf=>(h k f hf).1) hf];exact (h k f hf).2⟩
 .intro h k f hf;exact ⟨(h k f hf).1,by rw [aP4 (fun k f hf=>(h k f hf).1) hf];exact (h k f hf).2⟩
def tZ (l:List Int) (m:Nat) (k:Nat) (n:Int):Bool:=inR n 0 ((m:Int) - 1)&&(decide (k=0)|| !decide ((l[k - 1]?).getD 0>=n))
def aJ3 (w:den tNw):Bool:=
 aE7 w.1&&(inR w.2.2.2.1 0 1000000&&(aBh w.2.2.1 w.2.2.2.1&&((w.2.2.2.2.1.zipIdx 0).all (fun z=>tZ w.2.2.2.2.1 w.1.2.length z.2 z.1)&&(decide (w.2.2.2.2.2.1.length<=150)&&(decide (w.2.2.2.2.2.2.1.length<=4)&&(decide (w.2.2.2.2.2.2.2.1.length=w.2.2.2.2.2.2.1.length)&&(!decide (w.2.2.2.2.2.2.2.2<0)&&
  (w.2.2.2.2.2.1.all (fun x=>cN w.1 x.1)&&(w.2.2.2.2.2.2.1.zipIdx 0).all (fun z=>zL w z.2 z.1&&aHp w z.2 z.1)))))))))
theorem aTg (n k:Nat):decide ((n:Int)>(k:Int))= !decide (n<=k):=by rw [cEz];simp
theorem bKx (a b:Nat):((a:Int) != (b:Int))= !decide (a=b):=by rw [cEz];simp;omega
theorem aW6 {l:List Int} {k:Nat} (hk:k<l.length) (h0:0<k) (hl:l.length<=68719476736):idx l (wr ((k:Int) - 1))=some ((l[k - 1]?).getD 0):=by
 have e:wr ((k:Int) - 1)=((k - 1:Nat):Int):=by
  have :wr ((k:Int) - 1)=(k:Int) - 1:=wri (by omega) (by omega);rw [this];omega
 rw [e,aH,cEb (show k - 1<l.length by omega)];rfl
theorem bYw {w:den tNw} (h:tot tNw w<=1073741824):pF w=some (aJ3 w):=by
 have sm:SmB 68719476736 tNw w:=(bC h).mono (by decide);have sms:SmB 1073741824 tNw w:=bC h;have lT:=sm.1.1.1;have lL:=sm.1.2.1;have lD:=sms.2.2.2.2.1.1;have lQ:=sms.2.2.2.2.2.1.1;have lF:=sms.2.2.2.2.2.2.1.1;have lX:=sms.2.2.2.2.2.2.2.1.1;have eT:=bZp sm.1;have eS:=bPy (now:=w.2.2.2.1) sms.2.2.1.2.1.1 sms.2.2.1.2.2.1;have q1:decide ((w.2.2.2.2.2.1.length:Int)>150)= !decide (w.2.2.2.2.2.1.length<=150):=aTg _ 150;have q2:decide ((w.2.2.2.2.2.2.1.length:Int)>4)= !decide (w.2.2.2.2.2.2.1.length<=4):=aTg _ 4;unfold pF aJ3 pj2 pj3 pj4 pj9 zz4 zz5 zz6 zz7 zz8;rw [q1,q2,bKx];simp only [aP,eT,kM,eS,aA]
 by_cases hX:w.2.2.2.2.2.2.2.1.length=w.2.2.2.2.2.2.1.length
 .rw [aO (l:=w.2.2.2.2.1) (fun k n=>if tZ w.2.2.2.2.1 w.1.2.length k n then none else some false) (by omega) (fun k n hi hd hw hm hk=>by
   simp only [hd,hi,hw,zZ,aA,kM,fU lL];unfold tZ;cases inR n 0 ((w.1.2.length:Int) - 1)
   .rfl
   .by_cases h0:k=0
    .subst h0;rfl
    .have e1:decide ((k:Int)>0)=true:=by simp;omega
     rw [e1,aW6 hk (by omega) (by omega),zW h0];simp only [cEc,zY,zZ,aA,Bool.false_or,cEs];cases decide ((w.2.2.2.2.1[k - 1]?).getD 0>=n)<;>rfl) (by simp),aBx (tZ w.2.2.2.2.1 w.1.2.length)]
  rw [aO (l:=w.2.2.2.2.2.1) (fun _ x=>if cN w.1 x.1 then none else some false) (by omega) (fun k x hi hd hw hm hk=>by
   simp only [hd,hi,hw,zZ,aA,aEu lT];cases cN w.1 x.1<;>rfl) (by simp),iC (fun x:den tFy=>cN w.1 x.1)]
  rw [aO (l:=w.2.2.2.2.2.2.1) (fun k f=>if zL w k f&&aHp w k f then none else some false) (by omega) (fun k f hi hd hw hm hk=>by
   have hx:w.2.2.2.2.2.2.2.1[k]? =some w.2.2.2.2.2.2.2.1[k]:=cEb (by omega);have hix:idx w.2.2.2.2.2.2.2.1 (k:Int)=some w.2.2.2.2.2.2.2.1[k]:=by rw [aH];exact hx
   have fs:=sm.2.2.2.2.2.2.1.2 f hm;have xs:=(sm.2.2.2.2.2.2.2.1.2 _ (cEn hx)).2.2.2.1;simp only [hd,hi,zZ,aA,aEu lT,bA9 fs,hix,cCq xs,bMc fs.2.2.2.2.1.1 xs,aAk hk,fR,hw];rw [aO (l:=w.2.2.2.2.2.2.1.take k) (fun _ g=>if !rL f g then none else some (cD8 (cD8 false))) (by rw [yO hk];omega) (fun j g hi hd hw hm hk=>by
    simp only [hd,hi,hw,zZ,aA];unfold rL;cases g.1==f.1<;>cases g.2.1==f.2.1<;>rfl) (by simp),iC (fun g:den tFl=> !rL f g)]
   unfold zL aHp;rw [hx];simp only;cases jQ f<;>simp only [cEc,cEm,zZ,zY,aA,cEw,cEs,cEg,zU]
   .rfl
   cases cN w.1 f.1<;>simp only [cEc,cEm,zZ,zY,aA,cEw,cEs,cEg,zU]
   .rfl
   cases cN w.1 f.2.1<;>simp only [cEc,cEm,zZ,zY,aA,cEw,cEs,cEg,zU]
   .rfl
   cases xOk w.2.2.2.2.2.2.2.1[k]<;>simp only [cEc,cEm,zZ,zY,aA,cEw,cEs,cEg,zU]
   .rfl
   cases aEd f w.2.2.2.2.2.2.2.1[k]<;>cases (w.2.2.2.2.2.2.1.take k).all (fun g=> !rL f g)<;>rfl) (by simp),aBx (fun k f=>zL w k f&&aHp w k f)]
  cases aE7 w.1<;>simp only [cEc,cEm,zZ,zY,aA,cEw,cEs];cases inR w.2.2.2.1 0 1000000<;>simp only [cEc,cEm,zZ,zY,aA,cEw,cEs];cases aBh w.2.2.1 w.2.2.2.1<;>simp only [cEc,cEm,zZ,zY,aA,cEw,cEs];cases (w.2.2.2.2.1.zipIdx 0).all (fun z=>tZ w.2.2.2.2.1 w.1.2.length z.2 z.1)<;>cases decide (w.2.2.2.2.2.1.length<=150)<;>cases decide (w.2.2.2.2.2.2.1.length<=4)<;>cases decide (w.2.2.2.2.2.2.2.1.length=w.2.2.2.2.2.2.1.length)<;>cases decide (w.2.2.2.2.2.2.2.2<0)<;>cases w.2.2.2.2.2.1.all (fun x=>cN w.1 x.1)<;>cases (w.2.2.2.2.2.2.1.zipIdx 0).all (fun z=>zL w z.2 z.1&&aHp w z.2 z.1)<;>rfl
 .have e:decide (w.2.2.2.2.2.2.2.1.length=w.2.2.2.2.2.2.1.length)=false:=by simpa using hX
  rw [e];cases aE7 w.1
  .rfl
  .cases inR w.2.2.2.1 0 1000000
   .rfl
   .cases aBh w.2.2.1 w.2.2.2.1
    .rfl
    .cases decide (w.2.2.2.2.2.1.length<=150)<;>cases decide (w.2.2.2.2.2.2.1.length<=4)<;>simp
theorem bWo {w:den tNw} (lD:w.2.2.2.2.1.length<=1073741824) (lL:w.1.2.length<=68719476736):aAi w=some ((w.2.2.2.2.1.zipIdx 0).all (fun z=>tZ w.2.2.2.2.1 w.1.2.length z.2 z.1)):=by
 unfold aAi zz4;rw [aO (l:=w.2.2.2.2.1) (fun k n=>if tZ w.2.2.2.2.1 w.1.2.length k n then none else some false) (by omega) (fun k n hi hd hw hm hk=>by
   simp only [hd,hi,hw,zZ,aA,fQ,fU lL];unfold tZ;cases inR n 0 ((w.1.2.length:Int) - 1)
   .rfl
   .by_cases h0:k=0
    .subst h0;rfl
    .have e1:decide ((k:Int)>0)=true:=by simp;omega
     rw [e1,aW6 hk (by omega) (by omega),zW h0];simp only [cEc,zY,zZ,aA,Bool.false_or,cEs];cases decide ((w.2.2.2.2.1[k - 1]?).getD 0>=n)<;>rfl) (by simp),aBx (tZ w.2.2.2.2.1 w.1.2.length)]
 cases (w.2.2.2.2.1.zipIdx 0).all (fun z=>tZ w.2.2.2.2.1 w.1.2.length z.2 z.1)<;>rfl
theorem cAv {w:den tNw} (h:tot tNw w<=1073741824):oW w=some (aJ3 w):=by
 have sm:SmB 68719476736 tNw w:=(bC h).mono (by decide);have sms:SmB 1073741824 tNw w:=bC h;have lT:=sm.1.1.1;have lL:=sm.1.2.1;have lD:=sms.2.2.2.2.1.1;have lQ:=sms.2.2.2.2.2.1.1;have lF:=sms.2.2.2.2.2.2.1.1;have lX:=sms.2.2.2.2.2.2.2.1.1;have eT:=bMb sm.1;have eS:=bNv (now:=w.2.2.2.1) sms.2.2.1.2.1.1 sms.2.2.1.2.2.1;have q1:decide ((w.2.2.2.2.2.1.length:Int)>150)= !decide (w.2.2.2.2.2.1.length<=150):=aTg _ 150;have q2:decide ((w.2.2.2.2.2.2.1.length:Int)>4)= !decide (w.2.2.2.2.2.2.1.length<=4):=aTg _ 4;unfold oW aJ3 pj2 pj3 pj4 pj9 cZ zz5 zz6 zz7 zz8;rw [q1,q2,bKx,bH1];simp only [aP,eT,fQ,eS,bWo lD lL,aA]
 by_cases hX:w.2.2.2.2.2.2.2.1.length=w.2.2.2.2.2.2.1.length
 .rw [aO (l:=w.2.2.2.2.2.1) (fun _ x=>if cN w.1 x.1 then none else some false) (by omega) (fun k x hi hd hw hm hk=>by
   simp only [hd,hi,hw,zZ,aA,aDf lT];cases cN w.1 x.1<;>rfl) (by simp),iC (fun x:den tFy=>cN w.1 x.1)]
  rw [aO (l:=w.2.2.2.2.2.2.1) (fun k f=>if zL w k f&&aJl w k f then none else some false) (by omega) (fun k f hi hd hw hm hk=>by
   have hx:w.2.2.2.2.2.2.2.1[k]? =some w.2.2.2.2.2.2.2.1[k]:=cEb (by omega);have hix:idx w.2.2.2.2.2.2.2.1 (k:Int)=some w.2.2.2.2.2.2.2.1[k]:=by rw [aH];exact hx
   have fs:=sm.2.2.2.2.2.2.1.2 f hm;have xs:=(sm.2.2.2.2.2.2.2.1.2 _ (cEn hx)).2.2.2.1;simp only [hd,hi,zZ,aA,aDf lT,aQ9 fs,hix,cB9 xs,bK7 fs.2.2.2.2.1.1 xs,aWe (l:=w.2.2.2.2.2.2.2.1) (by omega),bne,hw];unfold zL aJl;rw [hx];simp only;cases jQ f<;>simp only [cEc,cEm,zZ,zY,aA,cEw,cEs,cEg,zU];cases cN w.1 f.1<;>simp only [cEc,cEm,zZ,zY,aA,cEw,cEs,cEg,zU];cases cN w.1 f.2.1<;>simp only [cEc,cEm,zZ,zY,aA,cEw,cEs,cEg,zU];cases xOk w.2.2.2.2.2.2.2.1[k]<;>simp only [cEc,cEm,zZ,zY,aA,cEw,cEs,cEg,zU];cases aEd f w.2.2.2.2.2.2.2.1[k]<;>cases (kT w.2.2.2.2.2.2.2.1 f.2.1 f.1==(k:Int))<;>rfl) (by simp),aBx (fun k f=>zL w k f&&aJl w k f)]
  cases aE7 w.1<;>simp only [cEc,cEm,zZ,zY,aA,cEw,cEs];cases inR w.2.2.2.1 0 1000000<;>simp only [cEc,cEm,zZ,zY,aA,cEw,cEs];cases aBh w.2.2.1 w.2.2.2.1<;>simp only [cEc,cEm,zZ,zY,aA,cEw,cEs];cases (w.2.2.2.2.1.zipIdx 0).all (fun z=>tZ w.2.2.2.2.1 w.1.2.length z.2 z.1)<;>cases decide (w.2.2.2.2.2.1.length<=150)<;>cases decide (w.2.2.2.2.2.2.1.length<=4)<;>cases decide (w.2.2.2.2.2.2.2.1.length=w.2.2.2.2.2.2.1.length)<;>cases decide (w.2.2.2.2.2.2.2.2<0)<;>cases w.2.2.2.2.2.1.all (fun x=>cN w.1 x.1)<;>cases (w.2.2.2.2.2.2.1.zipIdx 0).all (fun z=>zL w z.2 z.1&&aJl w z.2 z.1)<;>rfl
 .have e:decide (w.2.2.2.2.2.2.2.1.length=w.2.2.2.2.2.2.1.length)=false:=by simpa using hX
  rw [e];cases aE7 w.1
  .rfl
  .cases inR w.2.2.2.1 0 1000000
   .rfl
   .cases aBh w.2.2.1 w.2.2.2.1
    .rfl
    .cases (w.2.2.2.2.1.zipIdx 0).all (fun z=>tZ w.2.2.2.2.1 w.1.2.length z.2 z.1)<;>cases decide (w.2.2.2.2.2.1.length<=150)<;>cases decide (w.2.2.2.2.2.2.1.length<=4)<;>simp
def bQb (n:Int):Int:=cFa (wr ((cFa n 2147483647)+2147483647)) 2147483647
theorem cAp (n:Int):aJu n 2147483647=some (bQb n):=by unfold aJu;rw [kM];rfl
theorem cAe (n:Int):aJj n 2147483647=some (bQb n):=by unfold aJj;rw [fQ];rfl
def bNx (a x:Int):Int:=cFa (wr ((wr ((wr (a * (1000003:Int)))+bQb x))+(11:Int))) (2147483647:Int)
def aFf (l:List Int):Int:=bZ (fun _ x a=>bNx a x) 0 l 7
theorem bCg {l:List Int} (h:l.length<=68719476736):yR l=some (aFf l):=by
 unfold yR aFf;rw [fO (fun k (a:Int)=>(a,(k:Int))) ((7:Int),(0:Int)) 7 l (fun _ x a=>bNx a x) (fun _=>0) (fun _=>0) 1 id rfl (by omega) (by rw [sum_nil];omega) (fun k x a=>by omega) (fun k x a hi hx hd hw hk hb=>by
  simp only [hd,hi,hw,zZ,aA,cAp];rfl) (fun a=>by simp)]
 rfl
theorem aZk {l:List Int} (h:l.length<=68719476736):yQ l=some (aFf l):=by
 unfold yQ aFf;rw [fO (fun k (a:Int)=>(a,(k:Int))) ((7:Int),(0:Int)) 7 l (fun _ x a=>bNx a x) (fun _=>0) (fun _=>0) 1 id rfl (by omega) (by rw [sum_nil];omega) (fun k x a=>by omega) (fun k x a hi hx hd hw hk hb=>by
  simp only [hd,hi,hw,zZ,aA,cAe];rfl) (fun a=>by simp)]
 rfl
def aRt (h:den bU) (a:List Int):List Int:=a++[h.1,h.2.1,h.2.2.1]
def aJn (x:den tPp) (a:List Int):List Int:=bZ (fun _ h a=>aRt h a) 0 x.2.2.2 (a++[x.1,x.2.1,x.2.2.1])
def aGd (p:den tPt):List Int:=bZ (fun _ x a=>aJn x a) 0 p []
theorem bHa {α:Type} (c:Nat) (l:List α):(l.map fun _=>c).sum=c * l.length:=by
 induction l with
 | nil=>rfl
 | cons x l ih=>simp only [cEv,cFu,ih,cE8,Nat.mul_succ];omega
theorem aOr (x:den tPp) (a:List Int):(aJn x a).length<=a.length+(3+3 * x.2.2.2.length):=by
 have h:=aCx (f:=fun _ h (a:List Int)=>aRt h a) (m:=cEo) (cost:=fun _=>3) (fun k x a=>by simp [aRt]) x.2.2.2 0 (a++[x.1,x.2.1,x.2.2.1]);rw [bHa] at h;unfold aJn;simp at h;omega
theorem aJd: ∀ p:den tPt,(p.map fun x:den tPp=>3+3 * x.2.2.2.length).sum<=3 * tot tPt p
 | []=>by simp
 | x::p=>by
  have h1:=iM (t:=tPp) x p;have h2:x.2.2.2.length<=tot tPp x:=cEa (dE (t:=bU) x.2.2.2) (by simp only [rP,vX];omega);have h3:=aJd p;simp only [cEv,cFu];show _<=3 * tot (.sl tPp) (x::p);rw [h1];have h3:(p.map fun x:den tPp=>3+3 * x.2.2.2.length).sum<=3 * tot (.sl tPp) p:=h3;omega
theorem aWy (p:den tPt):(aGd p).length<=3 * tot tPt p:=by
 have h:=aCx (f:=fun _ x (a:List Int)=>aJn x a) (m:=cEo) (cost:=fun x:den tPp=>3+3 * x.2.2.2.length) (fun k x a=>aOr x a) p 0 [];have h2:=aJd p;unfold aGd;simp only [cFf,cE9] at h;omega
theorem aXo {p:den tPt} (h:tot tPt p<=1073741824):qK p=some (aFf (aGd p)):=by
 have hl:=dE (t:=tPp) p;have hl:p.length<=1073741824:=cEa hl h;have hs:=aJd p;have hd':=aWy p;unfold qK;rw [fO (fun k (a:List Int)=>((k:Int),a)) ((0:Int),[]) [] p (fun _ x a=>aJn x a) cEo (fun x:den tPp=>3+3 * x.2.2.2.length) 68719476736 id rfl (by omega) (by simp only [cFf];omega) (fun k x a=>aOr x a) (fun k x a hi hx hd hw hk hb=>by
  simp only [hd,hi,hw,zZ,aA,aE (b:=8) (n:=a.length) (m:=3) (by decide) (by omega)];rw [fO (fun k (a:List Int)=>((k:Int),a)) ((0:Int),a++[x.1,x.2.1,x.2.2.1]) (a++[x.1,x.2.1,x.2.2.1]) x.2.2.2 (fun _ h a=>aRt h a) cEo (fun _=>3) 68719476736 id rfl (by omega) (by rw [bHa];simp;omega) (fun k h a=>by simp [aRt]) (fun k h a hi hx hd hw hk hb=>by
   simp only [hd,hi,hw,zZ,aA,aE (b:=8) (n:=a.length) (m:=3) (by decide) (by omega)];rfl) (fun a=>by simp)]
  rfl) (fun a=>by simp)]
 simp only [aA];rw [show bZ (fun _ x a=>aJn x a) 0 p []=aGd p from rfl];simp only [id,bCg (l:=aGd p) (by omega),aA]
theorem aWh {p:den tPt} (h:tot tPt p<=1073741824):qF p=some (aFf (aGd p)):=by
 have hl:=dE (t:=tPp) p;have hl:p.length<=1073741824:=cEa hl h;have hs:=aJd p;have hd':=aWy p;unfold qF;rw [fO (fun k (a:List Int)=>((k:Int),a)) ((0:Int),[]) [] p (fun _ x a=>aJn x a) cEo (fun x:den tPp=>3+3 * x.2.2.2.length) 68719476736 id rfl (by omega) (by simp only [cFf];omega) (fun k x a=>aOr x a) (fun k x a hi hx hd hw hk hb=>by
  simp only [hd,hi,hw,zZ,aA,aE (b:=8) (n:=a.length) (m:=3) (by decide) (by omega)];rw [fO (fun k (a:List Int)=>((k:Int),a)) ((0:Int),a++[x.1,x.2.1,x.2.2.1]) (a++[x.1,x.2.1,x.2.2.1]) x.2.2.2 (fun _ h a=>aRt h a) cEo (fun _=>3) 68719476736 id rfl (by omega) (by rw [bHa];simp;omega) (fun k h a=>by simp [aRt]) (fun k h a hi hx hd hw hk hb=>by
   simp only [hd,hi,hw,zZ,aA,aE (b:=8) (n:=a.length) (m:=3) (by decide) (by omega)];rfl) (fun a=>by simp)]
  rfl) (fun a=>by simp)]
 simp only [aA];rw [show bZ (fun _ x a=>aJn x a) 0 p []=aGd p from rfl];simp only [id,aZk (l:=aGd p) (by omega),aA]
def oX (a:Int×Bool) (h:den bU):Int×Bool:=cond (!a.2||decide (h.2.2.2.1<a.1)) (h.2.2.2.1,true) a
def yI (l:cF):Int:=(l.foldl oX (0,false)).1
def aD4 (p:den tPt):cF:=bZ (fun _ x a=>a++x.2.2.2) 0 p []
theorem aZ0: ∀ (p:den tPt) (k:Nat) (a:cF),bZ (fun _ (x:den tPp) a=>a++x.2.2.2) k p a=a++p.flatMap (fun x:den tPp=>x.2.2.2)
 | [],_,a=>by simp [bZ]
 | x::p,k,a=>by
  simp only [bZ];rw [aZ0 p (k+1)];simp
theorem bN9 (p:den tPt):(aD4 p).length<=tot tPt p:=by
 have h:=aCx (f:=fun _ (x:den tPp) (a:cF)=>a++x.2.2.2) (m:=cEo) (cost:=fun x:den tPp=>x.2.2.2.length) (fun k x a=>by simp) p 0 [];have h2:=aF5 p;unfold aD4;simp only [cFf,cE9] at h;omega
def aBg (k:Nat) (h:den bU) (a:Int):Int:=if k=0\/h.2.2.2.1<a then h.2.2.2.1 else a
theorem aQ2: ∀ (l:cF) (k:Nat) (a:Int),0<k->bZ aBg k l a=(l.foldl oX (a,true)).1
 | [],_,_,_=>rfl
 | h::l,k,a,hk=>by
  simp only [bZ,cF8]
  by_cases c:h.2.2.2.1<a
  .have e1:aBg k h a=h.2.2.2.1:=by unfold aBg;rw [zT (.inr c)]
   have e2:oX (a,true) h=(h.2.2.2.1,true):=by unfold oX;simp [c]
   rw [e1,e2];exact aQ2 l (k+1) _ (by omega)
  .have e1:aBg k h a=a:=by unfold aBg;rw [zS (fun hc=>hc.elim (fun e=>by omega) c)]
   have e2:oX (a,true) h=(a,true):=by unfold oX;simp [c]
   rw [e1,e2];exact aQ2 l (k+1) _ (by omega)
theorem bB1 (l:cF):bZ aBg 0 l 0=yI l:=by
 cases l with
 | nil=>rfl
 | cons h l=>
  unfold yI;simp only [bZ,cF8];have e1:aBg 0 h 0=h.2.2.2.1:=by unfold aBg;rw [zT (.inl rfl)]
  have e2:oX (0,false) h=(h.2.2.2.1,true):=by unfold oX;simp
  rw [e1,e2];exact aQ2 l 1 _ (by omega)
theorem bCj {p:den tPt} (h:tot tPt p<=1073741824):qM p=some (yI (aD4 p)):=by
 have hl:p.length<=1073741824:=cEa (dE (t:=tPp) p) h;have hs:=aF5 p;have hh:=bN9 p;unfold qM aB2 iH;rw [fO (fun k (a:cF)=>((k:Int),a)) ((0:Int),[]) [] p (fun _ x a=>a++x.2.2.2) cEo (fun x:den tPp=>x.2.2.2.length) 68719476736 id rfl (by omega) (by simp only [cFf];omega) (fun k x a=>by simp) (fun k x a hi hx hd hw hk hb=>by
  simp only [hd,hi,hw,zZ,aA,aE (b:=40) (n:=a.length) (m:=x.2.2.2.length) (by decide) (by omega)]) (fun a=>by simp)]
 simp only [aA];rw [show bZ (fun _ (x:den tPp) a=>a++x.2.2.2) 0 p []=aD4 p from rfl];simp only [id];rw [fO (fun k (a:Int)=>(a,(k:Int))) ((0:Int),(0:Int)) 0 (aD4 p) aBg (fun _=>0) (fun _=>0) 1 id rfl (by omega) (by rw [sum_nil];omega) (fun k x a=>by omega) (fun k x a hi hx hd hw hk hb=>by
  simp only [hd,hi,hw,zZ,aA];unfold aBg;have e1:((k:Int)==0)=decide (k=0):=by rw [cEz];simp
  rw [e1]
  by_cases c:k=0
  .simp [c]
  .by_cases c2:x.2.2.2.1<a
   .simp [c,c2]
   .simp [c,c2]) (fun a=>by simp)]
 rw [bB1];rfl
theorem aT8: ∀ (p:den tPt) (k:Nat) (a:Int×Bool),bZ (fun _ (x:den tPp) a=>bZ (fun _ h a=>oX a h) 0 x.2.2.2 a) k p a=(p.flatMap fun x:den tPp=>x.2.2.2).foldl oX a
 | [],_,_=>rfl
 | x::p,k,a=>by
  simp only [bZ,List.flatMap_cons,List.foldl_append];rw [aT8 p (k+1),sM]
theorem bBb {p:den tPt} (h:tot tPt p<=1073741824):lV p=some (yI (aD4 p)):=by
 have hl:p.length<=1073741824:=cEa (dE (t:=tPp) p) h;have hs:=aF5 p;unfold lV;rw [fO (fun k (a:Int×Bool)=>(a.1,a.2,(k:Int))) ((0:Int),false,(0:Int)) ((0:Int),false) p (fun _ (x:den tPp) a=>bZ (fun _ h a=>oX a h) 0 x.2.2.2 a) (fun _=>0) (fun _=>0) 1 (fun a=>a.1) rfl (by omega) (by rw [sum_nil];omega) (fun k x a=>by omega) (fun k x a hi hx hd hw hk hb=>by
  have hxl:x.2.2.2.length<=1073741824:=by
   have h1:=wX (t:=tPp) hx;have h2:x.2.2.2.length<=tot tPp x:=cEa (dE (t:=bU) x.2.2.2) (by simp only [rP,vX];omega);have h3:tot (.sl tPp) p<=1073741824:=h;omega
  simp only [hd,hi,hw,zZ,aA];rw [fO (fun k (a:Int×Bool)=>(a.1,a.2,(k:Int))) (a.1,a.2,(0:Int)) a x.2.2.2 (fun _ h a=>oX a h) (fun _=>0) (fun _=>0) 1 id rfl (by omega) (by rw [sum_nil];omega) (fun k x a=>by omega) (fun k h a hi hx hd hw hk hb=>by
   simp only [hd,hi,hw,zZ,aA];unfold oX;cases ca:a.2
   .rfl
   .cases c:decide (h.2.2.2.1<a.1)<;>simp [c,ca]) (fun a=>by simp)]
  rfl) (fun a=>by simp)]
 rw [aT8];unfold yI aD4;rw [aZ0];rfl
def aDg (a b:den tPt):Bool:=
 cond (((gX a).length:Int) != ((gX b).length:Int)) (decide (((gX a).length:Int)<((gX b).length:Int)))
  (cond (yI (aD4 a) != yI (aD4 b)) (decide (yI (aD4 a)>yI (aD4 b))) (decide (aFf (aGd a)<aFf (aGd b))))
theorem bOq {a b:den tPt} (ha:tot tPt a<=1073741824) (hb:tot tPt b<=1073741824):sS a b=some (aDg a b):=by
 unfold sS jW aDg;simp only [aKx (p:=a) (cEa ha (by decide)),aKx (p:=b) (cEa hb (by decide)),bCj ha,bCj hb,aXo ha,aXo hb,aA];cases ((gX a).length:Int) != ((gX b).length:Int)
 .cases yI (aD4 a) != yI (aD4 b)<;>rfl
 .rfl
theorem bN2 {a b:den tPt} (ha:tot tPt a<=1073741824) (hb:tot tPt b<=1073741824):tU a b=some (aDg a b):=by
 unfold tU nX aDg;simp only [aH7 (p:=a) (cEa ha (by decide)),aH7 (p:=b) (cEa hb (by decide)),bBb ha,bBb hb,aWh ha,aWh hb,aA];cases ((gX a).length:Int) != ((gX b).length:Int)
 .cases yI (aD4 a) != yI (aD4 b)<;>rfl
 .rfl
def aD1 (x:den tPt) (out:lPt):Nat->Nat
 | 0=>0
 | k+1=>cond (aDg x ((out[k]?).getD [])) (aD1 x out k) (k+1)
theorem aUn (x:den tPt) (out:lPt): ∀ k,aD1 x out k<=k
 | 0=>cEr _
 | k+1=>by
  unfold aD1;cases aDg x ((out[k]?).getD [])
  .exact cEr _
  .exact Nat.le_succ_of_le (aUn x out k)
theorem aM6 {x:den tPt} {out:lPt} {step:Int->Option (Int⊕Int)} (hl:out.length<=68719476736)
  (h0:step 0=some (.inr 0)) (h1: ∀ k (y:den tPt),out[k]? =some y->step ((k+1:Nat):Int)=some (cond (aDg x y) (.inl (k:Int)) (.inr ((k+1:Nat):Int)))):
  ∀ k,k<=out.length->aC step (k:Int)=some ((aD1 x out k:Nat):Int)
 | 0,_=>bI h0
 | k+1,hk=>by
  have hy:out[k]? =some out[k]:=cEb (by omega);have hs:=h1 k _ hy;unfold aD1;rw [hy,cE3];cases hb:aDg x out[k] with
  | true=>rw [hb] at hs;rw [cX hs];exact aM6 hl h0 h1 k (by omega)
  | false=>rw [hb] at hs;exact bI hs
def aKb (x:den tPt) (out:lPt):lPt:=out.take (aD1 x out out.length)++[x]++out.drop (aD1 x out out.length)
theorem aRv (x:den tPt) (out:lPt):tot (.sl tPt) (aKb x out)=tot (.sl tPt) out+(1+tot tPt x):=by
 have h:=rT (t:=tPt) (out.take (aD1 x out out.length)) (out.drop (aD1 x out out.length));rw [List.take_append_drop] at h;unfold aKb;rw [rT,rT,aFs];omega
def aBu (l:lPt):lPt:=bZ (fun _ x a=>aKb x a) 0 l []
theorem aOe (l:lPt):tot (.sl tPt) (aBu l)<=tot (.sl tPt) l:=by
 have h:=aCx (f:=fun _ x (a:lPt)=>aKb x a) (m:=tot (.sl tPt)) (cost:=fun x=>1+tot tPt x) (fun k x a=>cGg (aRv x a)) l 0 [];rw [aPw,aEk] at h;unfold aBu;omega
theorem bWp {l:lPt} (h:tot (.sl tPt) l<=1073741824):vE l=some (aBu l):=by
 have hl:=dE (t:=tPt) l;unfold vE aBu ixb;rw [fO (fun k (a:lPt)=>((k:Int),a)) ((0:Int),[]) [] l (fun _ x a=>aKb x a) (tot (.sl tPt)) (fun x=>1+tot tPt x) 1073741824 id rfl (by omega) (by rw [aPw,aEk];omega) (fun k x a=>cGg (aRv x a)) (fun k x a hi hx hd hw hk hb=>by
  have ha:=dE (t:=tPt) a;have hsm:SmB 68719476736 tPt x:=(bC (B:=1073741824) (t:=tPt) (by omega)).mono (by decide);simp only [hd,hi,hw,zZ,aA];rw [aM6 (x:=x) (out:=a) (by omega) (by rfl) (fun j y hy=>by
   have hlt:=(cEj.1 hy).1;have hty:=wX (t:=tPt) hy;have e1:decide (((j+1:Nat):Int)>0)=true:=by simp<;>omega
   have e2:wr (((j+1:Nat):Int) - 1)=(j:Int):=by
    have :wr (((j+1:Nat):Int) - 1)=((j+1:Nat):Int) - 1:=wri (by omega) (by omega);rw [this];omega
   have e3:decide ((j:Int)<(a.length:Int))=true:=by simp;omega
   simp only [e1,e2,e3,bS,zZ,cEf,hy,aA,bOq (a:=x) (b:=y) (by omega) (by omega)];cases aDg x y<;>rfl) a.length (cEr _)]
  have hp:=aUn x a a.length;have s1:bX (0:Int) ((aD1 x a a.length:Nat):Int) (a.length:Int)=true:=by
   have :=aCh (a:=0) (b:=aD1 x a a.length) (n:=a.length);rw [show ((0:Nat):Int)=0 from rfl] at this;rw [this];simp;omega
  have s2:bX ((aD1 x a a.length:Nat):Int) (a.length:Int) (a.length:Int)=true:=by rw [aCh];simp;omega
  simp only [aA,s1,s2,zZ,fR,aRb hp,aH1 hsm];rw [aE (b:=24) (by decide) (by simp<;>omega),aE (b:=24) (by decide) (by simp<;>omega),aE (b:=24) (by decide) (by simp<;>omega)];simp only [zZ,cEx];rfl) (fun a=>by simp)]
 rfl
theorem bXf {l:lPt} (h:tot (.sl tPt) l<=1073741824):vQ l=some (aBu l):=by
 have hl:=dE (t:=tPt) l;unfold vQ aBu ixb;rw [fO (fun k (a:lPt)=>((k:Int),a)) ((0:Int),[]) [] l (fun _ x a=>aKb x a) (tot (.sl tPt)) (fun x=>1+tot tPt x) 1073741824 id rfl (by omega) (by rw [aPw,aEk];omega) (fun k x a=>cGg (aRv x a)) (fun k x a hi hx hd hw hk hb=>by
  have ha:=dE (t:=tPt) a;have hsm:SmB 68719476736 tPt x:=(bC (B:=1073741824) (t:=tPt) (by omega)).mono (by decide);simp only [hd,hi,hw,zZ,aA,aT,bF,aX,aY,bA];rw [aM6 (x:=x) (out:=a) (by omega) (by rfl) (fun j y hy=>by
   have hlt:=(cEj.1 hy).1;have hty:=wX (t:=tPt) hy;have e1:decide (((j+1:Nat):Int)>0)=true:=by simp<;>omega
   have e2:wr (((j+1:Nat):Int) - 1)=(j:Int):=by
    have :wr (((j+1:Nat):Int) - 1)=((j+1:Nat):Int) - 1:=wri (by omega) (by omega);rw [this];omega
   have e3:decide ((j:Int)<(a.length:Int))=true:=by simp;omega
   simp only [e1,e2,e3,bS,zZ,cEf,hy,aA,bN2 (a:=x) (b:=y) (by omega) (by omega)];cases aDg x y<;>rfl) a.length (cEr _)]
  have hp:=aUn x a a.length;have s1:bX (0:Int) ((aD1 x a a.length:Nat):Int) (a.length:Int)=true:=by
   have :=aCh (a:=0) (b:=aD1 x a a.length) (n:=a.length);rw [show ((0:Nat):Int)=0 from rfl] at this;rw [this];simp;omega
  have s2:bX ((aD1 x a a.length:Nat):Int) (a.length:Int) (a.length:Int)=true:=by rw [aCh];simp;omega
  simp only [aA,s1,s2,zZ,fR,aRb hp,aIc hsm];rw [aE (b:=24) (by decide) (by simp<;>omega),aE (b:=24) (by decide) (by simp<;>omega),aE (b:=24) (by decide) (by simp<;>omega)];simp only [zZ,cEx,aA];rfl) (fun a=>by simp)]
 rfl
def wV (l:lRv) (now:Int):lRv:=l.filter fun x=>decide (now<=x.2.2)
theorem bNp {l:lRv} {now:Int} (h:l.length<=1073741824):hO l now=some (wV l now):=by
 unfold hO wV pj3;rw [fO (fun k (a:lRv)=>((k:Int),a)) ((0:Int),[]) [] l (fun _ x a=>if decide (now<=x.2.2)=true then a++[x] else a) cEo (fun _=>1) 68719476736 id rfl (by omega) (by rw [dS];simp;omega) (fun k x a=>by split<;>simp) (fun k x a hi hx hd hw hk hb=>by
  simp only [hd,hi,hw,zZ,aA,aP,aE (b:=24) (n:=a.length) (m:=1) (by decide) (by omega)];cases decide (now<=x.2.2)<;>simp) (fun a=>by simp),aB4 (fun x:den tRv=>decide (now<=x.2.2))]
 simp
theorem bJ9 {l:lRv} {now:Int} (h:l.length<=1073741824):hP l now=some (wV l now):=by
 unfold hP wV pj3;rw [fO (fun k (a:lRv)=>((k:Int),a)) ((0:Int),[]) [] l (fun _ x a=>if decide (now<=x.2.2)=true then a++[x] else a) cEo (fun _=>1) 68719476736 id rfl (by omega) (by rw [dS];simp;omega) (fun k x a=>by split<;>simp) (fun k x a hi hx hd hw hk hb=>by
  simp only [hd,hi,hw,zZ,aA,aP,aE (b:=24) (n:=a.length) (m:=1) (by decide) (by omega)];cases decide (now<=x.2.2)<;>simp) (fun a=>by simp),aB4 (fun x:den tRv=>decide (now<=x.2.2))]
 simp
def wQ (l:lRv) (p:den tPt) (now:Int):Bool:= !((wV l now).all fun x=> !nR p x)
theorem aR1 (l:lRv) (now:Int):(wV l now).length<=l.length:=cGa _ _
theorem bX7 {l:lRv} {p:den tPt} {now:Int} (h:l.length<=1073741824) (hp:tot tPt p<=1073741824):aAr l p now=some (wQ l p now):=by
 have ha:=aR1 l now;unfold aAr wQ ixb pj3;rw [bNp h,aA];rw [aO (l:=wV l now) (fun _ x=>if !nR p x then none else some true) (by omega) (fun k x hi hd hw hm hk=>by
  have hy:(wV l now)[k]? =some x:=by rw [<- aH];exact hi
  simp only [hd,hy,hw,zZ,aA,bS,cEf,aP,aXm hp];cases nR p x<;>rfl) (by simp),iC (fun x:den tRv=> !nR p x)]
 cases (wV l now).all (fun x=> !nR p x)<;>rfl
theorem bKm {l:lRv} {p:den tPt} {now:Int} (h:l.length<=1073741824) (hp:tot tPt p<=1073741824):xW l p now=some (wQ l p now):=by
 have ha:=aR1 l now;unfold xW wQ ixb pj3;rw [bJ9 h,aA];rw [aO (l:=wV l now) (fun _ x=>if !nR p x then none else some true) (by omega) (fun k x hi hd hw hm hk=>by
  have hy:(wV l now)[k]? =some x:=by rw [<- aH];exact hi
  simp only [hd,hy,hw,zZ,aA,bS,cEf,aP,aXw hp];cases nR p x<;>rfl) (by simp),iC (fun x:den tRv=> !nR p x)]
 cases (wV l now).all (fun x=> !nR p x)<;>rfl
def aAe (l:lRv) (p:lPt) (now:Int):lPt:=(p.filter fun x=> !wQ l x now)++p.filter fun x=>wQ l x now
def two (r:den tPt->Bool) (x:den tPt) (a:lPt×lPt):lPt×lPt:=cond (r x) (a.1,a.2++[x]) (a.1++[x],a.2)
theorem bWs (r:den tPt->Bool) (x:den tPt) (a:lPt×lPt):(two r x a).1.length+(two r x a).2.length<=a.1.length+a.2.length+1:=by
 unfold two;cases r x<;>simp<;>omega
theorem aT7 (r:den tPt->Bool): ∀ (l:lPt) (k:Nat) (a:lPt×lPt),bZ (fun _ x a=>two r x a) k l a=(a.1++l.filter (fun x=> !r x),a.2++l.filter r)
 | [],_,a=>by simp [bZ]
 | x::l,k,a=>by
  simp only [bZ];rw [aT7 r l (k+1)];unfold two;cases h:r x<;>simp [h]
theorem bMj {l:lRv} {p:lPt} {now:Int} (h:l.length<=1073741824) (hp:tot (.sl tPt) p<=1073741824):kH l p now=some (aAe l p now):=by
 have hl:=dE (t:=tPt) p;unfold kH aAe pj2;rw [fO (fun k (a:lPt×lPt)=>((k:Int),a.1,a.2)) ((0:Int),[],[]) ([],[]) p (fun _ x a=>two (fun x=>wQ l x now) x a) (fun a=>a.1.length+a.2.length) (fun _=>1) 68719476736 (fun a=>(a.1,a.2)) rfl (by omega) (by rw [dS];simp;omega) (fun k x a=>bWs _ x a) (fun k x a hi hx hd hw hk hb=>by
  have ht:=wX (t:=tPt) hx;have hsm:SmB 68719476736 tPt x:=(bC (B:=1073741824) (t:=tPt) (by omega)).mono (by decide);simp only [hd,hi,hw,zZ,aA,bX7 (l:=l) (p:=x) (now:=now) h (by omega),aH1 hsm,aE (b:=24) (n:=a.1.length) (m:=1) (by decide) (by omega),aE (b:=24) (n:=a.2.length) (m:=1) (by decide) (by omega)];have e:two (fun x=>wQ l x now) x a=cond (wQ l x now) (a.1,a.2++[x]) (a.1++[x],a.2):=rfl;rw [e];cases wQ l x now<;>rfl) (fun a=>by simp),aT7]
 have e:(p.filter fun x=> !wQ l x now).length<=p.length:=cGa _ _;have e2:(p.filter fun x=>wQ l x now).length<=p.length:=cGa _ _;simp only [aA,cEx];rw [aE (b:=24) (by decide) (by omega),zZ]
theorem bK0 {l:lRv} {p:lPt} {now:Int} (h:l.length<=1073741824) (hp:tot (.sl tPt) p<=1073741824):kJ l p now=some (aAe l p now):=by
 have hl:=dE (t:=tPt) p;unfold kJ aAe;rw [fO (fun k (a:lPt)=>((k:Int),a)) ((0:Int),[]) [] p (fun _ x a=>if (!wQ l x now)=true then a++[x] else a) cEo (fun _=>1) 68719476736 id rfl (by omega) (by rw [dS];simp;omega) (fun k x a=>by split<;>simp) (fun k x a hi hx hd hw hk hb=>by
  have ht:=wX (t:=tPt) hx;have hsm:SmB 68719476736 tPt x:=(bC (B:=1073741824) (t:=tPt) (by omega)).mono (by decide);simp only [hd,hi,hw,zZ,aA,bKm (l:=l) (p:=x) (now:=now) h (by omega),aIc hsm,aE (b:=24) (n:=a.length) (m:=1) (by decide) (by omega)];cases wQ l x now<;>simp) (fun a=>by simp),aB4 (fun x:den tPt=> !wQ l x now)]
 have e:(p.filter fun x=> !wQ l x now).length<=p.length:=cGa _ _;simp only [id,aA,cEx];rw [fO (fun k (a:lPt)=>((k:Int),a)) ((0:Int),p.filter fun x=> !wQ l x now) (p.filter fun x=> !wQ l x now) p (fun _ x a=>if wQ l x now=true then a++[x] else a) cEo (fun _=>1) 68719476736 id rfl (by omega) (by rw [dS];omega) (fun k x a=>by split<;>simp) (fun k x a hi hx hd hw hk hb=>by
  have ht:=wX (t:=tPt) hx;have hsm:SmB 68719476736 tPt x:=(bC (B:=1073741824) (t:=tPt) (by omega)).mono (by decide);simp only [hd,hi,hw,zZ,aA,bKm (l:=l) (p:=x) (now:=now) h (by omega),aIc hsm,aE (b:=24) (n:=a.length) (m:=1) (by decide) (by omega)];cases wQ l x now<;>simp) (fun a=>by simp),aB4 (fun x:den tPt=>wQ l x now)]
 rfl
theorem aTq (r:den tPt->Bool): ∀ p:lPt,tot (.sl tPt) (p.filter (fun x=> !r x))+tot (.sl tPt) (p.filter r)=tot (.sl tPt) p
 | []=>rfl
 | x::p=>by
  have ih:=aTq r p;rw [iM];cases h:r x
  .have e:=iM (t:=tPt) x (p.filter fun x=> !r x);simp only [cGt,h,cEm,zV,cEg,zU];omega
  .have e:=iM (t:=tPt) x (p.filter r);simp only [cGt,h,cEc,zV,cEg,zU];omega
theorem bC9 (l:lRv) (p:lPt) (now:Int):tot (.sl tPt) (aAe l p now)=tot (.sl tPt) p:=by
 unfold aAe;rw [rT];exact aTq (fun x=>wQ l x now) p
def aE8 (f:den tFl) (p:lPt) (now:Int):lPt:=(aAe f.2.2.2.2.2.2.2.2 (aBu p) now).take (min (aAe f.2.2.2.2.2.2.2.2 (aBu p) now).length 24)
theorem bEq (n:Nat):(if (24:Int)<(n:Int) then (24:Int) else (n:Int))=((min n 24:Nat):Int):=by
 by_cases c:24<n
 .rw [zT (by omega),Nat.min_eq_right (by omega)];rfl
 .rw [zS (by omega),Nat.min_eq_left (by omega)]
theorem bCi (n:Nat):bX (0:Int) ((min n 24:Nat):Int) (n:Int)=true:=by
 have :=aCh (a:=0) (b:=min n 24) (n:=n);rw [show ((0:Nat):Int)=0 from rfl] at this;rw [this];simp;omega
theorem bX2 {f:den tFl} {p:lPt} {now:Int} (h:tot tFl f<=1073741824) (hp:tot (.sl tPt) p<=1073741824):uU f p now=some (f.1,f.2.1,f.2.2.1,f.2.2.2.1,0,0,f.2.2.2.2.1,aE8 f p now,f.2.2.2.2.2.2.2.2):=by
 have hf:SmB 68719476736 tFl f:=(bC h).mono (by decide);have hv:f.2.2.2.2.2.2.2.2.length<=1073741824:=cEa (dE (t:=tRv) _) (bE (bE (bE (bE (bE (bE (bE (bE h))))))));have hs:=aOe p;unfold uU aE8 pj9 zz6 zz8;simp only [aP,aHu hf,bWp hp,bMj (l:=f.2.2.2.2.2.2.2.2) (p:=aBu p) (now:=now) hv (by omega),bTw,aA,bEq,bCi,zZ,cEf];rfl
theorem bM5 {f:den tFl} {p:lPt} {now:Int} (h:tot tFl f<=1073741824) (hp:tot (.sl tPt) p<=1073741824):qG f p now=some (f.1,f.2.1,f.2.2.1,f.2.2.2.1,aE8 f p now,0,0,f.2.2.2.2.1,f.2.2.2.2.2.2.2.2):=by
 have hf:SmB 68719476736 tFl f:=(bC h).mono (by decide);have hv:f.2.2.2.2.2.2.2.2.length<=1073741824:=cEa (dE (t:=tRv) _) (bE (bE (bE (bE (bE (bE (bE (bE h))))))));have hs:=aOe p;unfold qG aE8 pj9 zz6 zz8;simp only [aP,aFw hf,bXf hp,bK0 (l:=f.2.2.2.2.2.2.2.2) (p:=aBu p) (now:=now) hv (by omega),aYr,aA,bEq,bCi,zZ,fR];rfl
theorem bK5 (f:den tFl) (p:lPt) (now:Int):tot (.sl tPt) (aE8 f p now)<=tot (.sl tPt) p:=by
 have h1:=aOe p;have h2:=bC9 f.2.2.2.2.2.2.2.2 (aBu p) now;have h3:=aRk (t:=tPt) (aAe f.2.2.2.2.2.2.2.2 (aBu p) now) (min (aAe f.2.2.2.2.2.2.2.2 (aBu p) now).length 24);unfold aE8;omega
theorem bWn {l:lRs} (h:l.length<=1073741824):fG l=some l:=by
 unfold fG;rw [aE (by decide) (by simp;omega)];simp
theorem bXa {g:den tSc} (h1:g.2.1.length<=1073741824) (h2:g.2.2.length<=1073741824):fM g=some g:=by
 unfold fM;rw [bWn h1,aA,aE (by decide) (by simp;omega)];simp
theorem bFb {g:den tSc} (h1:g.2.1.length<=1073741824) (h2:g.2.2.length<=1073741824):jL g=some g:=by
 unfold jL pj3;rw [aE (b:=40) (by decide) (by simp;omega),aE (b:=32) (by decide) (by simp;omega)];simp [aT,bF,aX,aY,bA]
def wK (l:lUs) (id s d:Int):Int:=if place l id s d<0 then 0 else ((l[(place l id s d).toNat]?).map (·.2.2.2)).getD 0
theorem bX9 {g:den tSc} {id s d:Int} (h:g.2.2.length<=1073741824):vL g id s d=some (wK g.2.2 id s d):=by
 unfold vL wK pj3;rw [show ((g.1,g.2.1,g.2.2):den tSc)=g from rfl,aVw h,aA];rcases aK4 g.2.2 id s d with hp | ⟨j,x,hp,hx,hj⟩
 .rw [hp];rfl
 .rw [hp,zX (by omega),zZ,aH,hx,zS (by omega)];simp [hx]
theorem bYr {g:den tSc} {id s d:Int} (h:g.2.2.length<=1073741824):rW g id s d=some (wK g.2.2 id s d):=by
 unfold rW wK;rw [aV6 h,aA];rcases aK4 g.2.2 id s d with hp | ⟨j,x,hp,hx,hj⟩
 .rw [hp];rfl
 .rw [hp,zW (by omega),zY,aH,hx,zS (by omega)];simp [hx]
def zM (l:lUs) (id s d:Int):lUs:=
 if place l id s d<0 then l++[(id,s,d,1)] else match l[(place l id s d).toNat]? with
  | some x=>l.set (place l id s d).toNat (x.1,x.2.1,x.2.2.1,wr (x.2.2.2+1))
  | none=>l
theorem aJx (l:lUs) (id s d:Int):(zM l id s d).length<=l.length+1:=by
 unfold zM;split
 .simp
 .split<;>simp
theorem bYd {g:den tSc} {id s d:Int} (h1:g.2.1.length<=1073741824) (h2:g.2.2.length<=1073741824):xK g id s d=some (g.1,g.2.1,zM g.2.2 id s d):=by
 unfold xK zM ixb pj3;rw [show ((g.1,g.2.1,g.2.2):den tSc)=g from rfl,bFb h1 h2,aA,aV6 h2,aA];rcases aK4 g.2.2 id s d with hp | ⟨j,x,hp,hx,hj⟩
 .rw [hp,aE (b:=32) (by decide) (by omega)];rfl
 .have hd:decide ((j:Int)<(g.2.2.length:Int))=true:=by simpa using hj
  have hd2:decide (j<g.2.2.length)=true:=by simpa using hj
  have hd0:decide ((0:Int)<=(j:Int))=true:=by simp
  rw [hp,zW (show ¬ (j:Int)<0 by omega),zY,zS (by omega)];simp only [hd,hd0,hd2,zZ,cEf,hx,aA]
def lC (g:den tSc) (id s d now:Int):q42:=
 if wK g.2.2 id s d<pO g id s d now then (g.1,true,g.2.1,zM g.2.2 id s d)
 else if wK g.2.2 0 s d<pO g 0 s d now then (g.1,true,g.2.1,zM g.2.2 0 s d)
 else (g.1,false,g.2.1,g.2.2)
theorem bVe {g:den tSc} {id s d now:Int} (h1:g.2.1.length<=1073741824) (h2:g.2.2.length<=1073741824):yG g id s d now=some (lC g id s d now):=by
 unfold yG ixb pj2 pj3;rw [show ((g.1,g.2.1,g.2.2):den tSc)=g from rfl,bXa h1 h2,aA];rw [aO (l:=[id,0]) (fun _ n=>if wK g.2.2 n s d<pO g n s d now then some (g.1,true,g.2.1,zM g.2.2 n s d) else none) (by simp) (fun k n hi hd hw hx hk=>by
  rw [aH] at hi;have hd0:decide ((0:Int)<=(k:Int))=true:=by simp
  simp only [hd,hd0,hi,hw,zZ,aA,cEf,bX9 h2,bEh h1,aVw h2]
  by_cases hu:wK g.2.2 n s d<pO g n s d now
  .rw [zW (by omega),zY,zT hu];unfold zM;rcases aK4 g.2.2 n s d with hp | ⟨j,x,hp,hx,hj⟩
   .rw [hp,aE (b:=32) (by decide) (by omega)];rfl
   .have hd1:decide ((j:Int)<(g.2.2.length:Int))=true:=by simpa using hj
    have hd2:decide ((j:Int)>=0)=true:=by simp
    have hd3:decide ((0:Int)<=(j:Int))=true:=by simp
    rw [hp,zS (by omega)];simp only [hd1,hd2,hd3,zZ,cEf,hx,aA]
  .rw [zX (by omega),zZ,zS hu]) (by simp)]
 unfold lC;simp only [bY]
 by_cases hu:wK g.2.2 id s d<pO g id s d now
 .simp [hu]
 .by_cases hv:wK g.2.2 0 s d<pO g 0 s d now<;>simp [hu,hv]
theorem aV2 {g:den tSc} {id s d now:Int} (h1:g.2.1.length<=1073741824) (h2:g.2.2.length<=1073741824):mY g id s d now=some (lC g id s d now):=by
 unfold mY lC pj2 pj3;rw [show ((g.1,g.2.1,g.2.2):den tSc)=g from rfl];simp only [bYr h2,aX4 h1,bK6 h1,bYd h1 h2,bFb h1 h2,aA];have h0:pO g 0 s d now=free g.2.1 g.1 s d now:=rfl;rw [h0]
 by_cases hid:id=0
 .subst hid;rw [h0]
  by_cases hv:wK g.2.2 0 s d<free g.2.1 g.1 s d now<;>simp [hv]
 .have hr:pO g id s d now=aC0 g.2.1 id s d now:=by unfold pO;simp [hid]
  have hne:(id != 0)=true:=by simpa using hid
  rw [hr,hne,zZ,aA]
  by_cases hu:wK g.2.2 id s d<aC0 g.2.1 id s d now
  .simp [hu]
  .by_cases hv:wK g.2.2 0 s d<free g.2.1 g.1 s d now<;>simp [hu,hv]
def rK (t:den tTo) (r d:Int):Int:=
 match bY (fun k x=>if dH x r d then some (k:Int) else none) 0 t.2 with
 | some i=>i
 | none=> -1
theorem aGp (t:den tTo) (r d:Int):rK t r d= -1\/ ∃ (j:Nat) (x:den tLk),rK t r d=(j:Int)/\t.2[j]? =some x/\dH x r d=true:=by
 unfold rK;cases h:bY (fun k x=>if dH x r d then some (k:Int) else none) 0 t.2 with
 | none=>exact .inl rfl
 | some i=>
  obtain ⟨j,x,h1,h2,h3⟩:=aL2 h;exact .inr ⟨j,x,by simpa using h2,h1,h3⟩
theorem aQq {t:den tTo} {r d:Int} (h:t.2.length<=68719476736):mH t r d=some (rK t r d):=by
 unfold mH pj5;rw [aO (l:=t.2) (fun k x=>if dH x r d then some (k:Int) else none) (by omega) (fun k x hi hd hw hx hk=>by
  simp only [hd,hi,hw,zZ,aA,bDr];cases dH x r d<;>rfl) (by simp)]
 unfold rK;cases bY (fun k x=>if dH x r d then some (k:Int) else none) 0 t.2<;>rfl
theorem aRa {t:den tTo} {r d:Int} (h:t.2.length<=68719476736):mK t r d=some (rK t r d):=by
 unfold mK pj5;rw [aO (l:=t.2) (fun k x=>if dH x r d then some (k:Int) else none) (by omega) (fun k x hi hd hw hx hk=>by
  simp only [hd,hi,hw,zZ,aA,bEr];cases dH x r d<;>rfl) (by simp)]
 unfold rK;cases bY (fun k x=>if dH x r d then some (k:Int) else none) 0 t.2<;>rfl
def bGc (x:den tLk) (r d:Int):q31:=cond (x.1==r&&x.2.1==d) (x.2.2.1,x.2.2.2.1) (x.1,x.2.1)
def remote (t:den tTo) (r d:Int):q31:=if rK t r d<0 then (-1,0) else bGc ((t.2[(rK t r d).toNat]?).getD (0,0,0,0,0)) r d
theorem bB5 {t:den tTo} {r d:Int} (h:t.2.length<=68719476736):pK t r d=some (remote t r d):=by
 unfold pK remote pj2;simp only [aP,aQq h,aA];rcases aGp t r d with e | ⟨j,x,e,hx,he⟩
 .rw [e];rfl
 .rw [e,zW (by omega),zY,zS (by omega),aH,hx,cEf,hx,aA,cE3];unfold bGc;cases x.1==r<;>cases x.2.1==d<;>rfl
theorem aI0 {t:den tTo} {r d:Int} (h:t.2.length<=68719476736):gT t r d=some (remote t r d):=by
 unfold gT remote pj2;simp only [aP,aRa h,aA];rcases aGp t r d with e | ⟨j,x,e,hx,he⟩
 .rw [e];rfl
 .rw [e,zW (by omega),zY,zS (by omega),aH,hx,cEf,hx,aA,cE3];unfold bGc;cases x.1==r<;>cases x.2.1==d<;>rfl
def bGm (x:den tLk) (r d:Int):Int:=cond (x.2.2.2.2==1) 1 (cond (x.2.2.2.2==3) 4 (cond (x.2.2.2.2==2) (cond (x.1==r&&x.2.1==d) 2 3) 0))
def aDt (t:den tTo) (r d:Int):Int:=cond (d==0) 5 (if rK t r d<0 then 0 else bGm ((t.2[(rK t r d).toNat]?).getD (0,0,0,0,0)) r d)
theorem bW6 {t:den tTo} {r d:Int} (h:t.2.length<=68719476736):kU t r d=some (aDt t r d):=by
 unfold kU aDt pj2 zz4;simp only [aP,aQq h,aA];cases d==0
 .rcases aGp t r d with e | ⟨j,x,e,hx,he⟩
  .rw [e];rfl
  .rw [e,zW (by omega),zY,zY,zY,zS (by omega),aH,hx,cEf,hx,aA,cE3];unfold bGm;rw [show (x.2.2.2.2 != 2)= !(x.2.2.2.2==2) from rfl];cases x.2.2.2.2==1<;>cases x.2.2.2.2==3<;>cases x.2.2.2.2==2<;>cases x.1==r<;>cases x.2.1==d<;>rfl
 .rfl
theorem aVy {t:den tTo} {r d:Int} (h:t.2.length<=68719476736):eF t r d=some (aDt t r d):=by
 unfold eF aDt pj2 zz4;simp only [aP,aRa h,aA];cases d==0
 .rcases aGp t r d with e | ⟨j,x,e,hx,he⟩
  .rw [e];rfl
  .rw [e,zW (by omega),zY,zY,zY,zS (by omega),aH,hx,cEf,hx,aA,cE3];unfold bGm;cases x.2.2.2.2==1<;>cases x.2.2.2.2==3<;>cases x.2.2.2.2==2<;>cases x.1==r<;>cases x.2.1==d<;>rfl
 .rfl
def aFi (a b:Int):Bool:=cond (a==5||a==2) (b==2||b==5||(b==1||b==3)) (cond (a==3) (b==2||b==5) (cond (a==1) (b==2||b==5||b==1) false))
theorem bJm (a b:Int):mD a b=some (aFi a b):=by
 unfold mD aFi;cases c5:a==5<;>cases c2:a==2<;>cases a==3<;>cases a==1<;>cases b==2<;>cases b==5<;>cases b==1<;>cases b==3<;>first | rfl | (simp at c5 c2;omega)
theorem bMu (a b:Int):mE a b=some (aFi a b):=by
 unfold mE aFi;cases c5:a==5<;>cases c2:a==2<;>cases a==3<;>cases a==1<;>cases b==2<;>cases b==5<;>cases b==1<;>cases b==3<;>first | rfl | (simp at c5 c2;omega)
def aK1 (t:den tTo) (s:den aBz):Bool:=aFi (aDt t s.1 s.2.1) (aDt t s.1 s.2.2)&&(!(s.2.1==s.2.2)||s.2.1==0)
theorem bWe {t:den tTo} {s:den aBz} (h:t.2.length<=68719476736):rG t s=some (aK1 t s):=by
 unfold rG aK1 pj2;simp only [aP,bW6 h,bJm,aA];rw [show (s.2.1 != s.2.2)= !(s.2.1==s.2.2) from rfl];cases aFi (aDt t s.1 s.2.1) (aDt t s.1 s.2.2)<;>cases s.2.1==s.2.2<;>cases s.2.1==0<;>rfl
theorem bVt {t:den tTo} {s:den aBz} (h:t.2.length<=68719476736):qV t s=some (aK1 t s):=by
 unfold qV aK1 pj2;simp only [aP,aVy h,bMu,aA];rw [show (s.2.1 != 0)= !(s.2.1==0) from rfl];cases aFi (aDt t s.1 s.2.1) (aDt t s.1 s.2.2)<;>cases s.2.1==s.2.2<;>cases s.2.1==0<;>rfl
def aLd (s i:Int):Bool:=inR s 0 65535&&(inR i 0 15&&(aA3 .i64 (shr .i64 s i) 1==1))
theorem aXz {i:Int} (h:inR i 0 15=true):IntKind.wrap .u64 i=i:=by
 obtain ⟨h0,h1⟩:=bQ.1 h;have :=bAw (n:=i.toNat) (by omega)
 rwa [cGn h0] at this
theorem bXj (s i:Int):xB s i=some (aLd s i):=by
 unfold xB aLd sF;simp only [kM,aA];cases inR s 0 65535
 .rfl
 .cases c:inR i 0 15
  .rfl
  .rw [aXz c,zW (by have :=bQ.1 c;omega)];rfl
theorem bW3 (s i:Int):xA s i=some (aLd s i):=by
 unfold xA aLd rY aBk;simp only [fQ,aA];cases inR s 0 65535
 .rfl
 .cases c:inR i 0 15
  .rfl
  .simp only [zZ,aA,zW (show ¬ i<0 by have :=bQ.1 c;omega),zY,cEs]
def aRi (s i:Int):Int:=cond (inR s 0 65535&&inR i 0 15) (bOr .i64 s (shl .i64 1 i)) s
theorem cBc (s i:Int):tN s i=some (aRi s i):=by
 unfold tN aRi sF;simp only [kM,aA];cases inR s 0 65535
 .rfl
 .cases c:inR i 0 15
  .rfl
  .rw [aXz c,zW (by have :=bQ.1 c;omega)];rfl
theorem bX1 (s i:Int):tF s i=some (aRi s i):=by
 unfold tF aRi rY aBk;simp only [fQ,aA];cases inR s 0 65535
 .rfl
 .cases c:inR i 0 15
  .rfl
  .rw [zW (by have :=bQ.1 c;omega)];rfl
theorem aZ5 {α:Type} (p:α->Bool) (N:Int): ∀ (l:List α) (k:Nat),N=((k+l.length:Nat):Int)->aMl (fun k x (_:Unit)=>if p x then .inl () else .inr (k:Int)) (fun _=>N) k l ()=((k+l.findIdx (fun x=> !p x):Nat):Int)
 | [],k,h=>by simpa [aMl] using h
 | x::xs,k,h=>by
  simp only [aMl,List.findIdx_cons];cases hp:p x with
  | true=>
   have :=aZ5 p N xs (k+1) (by rw [h];simp;omega);simp only [zV,this,cEc,zY];omega
  | false=>simp
def lS (l:List Int) (n:Int):Nat:=l.findIdx fun x=> !decide (x<n)
theorem aWg (l:List Int) (n:Int):lS l n<=l.length:=List.findIdx_le_length
theorem aWu {l:List Int} {n:Int} {step:Int->Option (Int⊕Int)} (hl:l.length<=68719476736)
  (h: ∀ (k:Nat) (x:Int),idx l (k:Int)=some x->l[k]? =some x->decide ((k:Int)<(l.length:Int))=true->IntKind.i64.wrap ((k:Int)+1)=((k+1:Nat):Int)->step (k:Int)=some (if decide (x<n) then .inl ((k+1:Nat):Int) else .inr (k:Int)))
  (he:step (l.length:Int)=some (.inr (l.length:Int))):aC step (0:Int)=some (lS l n:Int):=by
 rw [aPq (fun k (_:Unit)=>(k:Int)) (0:Int) () l (fun k x _=>if decide (x<n) then .inl () else .inr (k:Int)) (fun _ _=>True) (fun _=>(l.length:Int)) rfl (by omega) trivial (fun k x a hi hx hd hw hk _=>by
  refine ⟨?_,fun _ _=>trivial⟩;rw [h k x hi hx hd hw];cases decide (x<n)<;>rfl) (fun _ _=>he)]
 rw [aZ5 (fun x=>decide (x<n)) (l.length:Int) l 0 (by simp)];simp [lS]
def rH (l:List Int) (n:Int):List Int:=if l[lS l n]? =some n then l else l.take (lS l n)++[n]++l.drop (lS l n)
theorem aIo (l:List Int) (n:Int):(rH l n).length<=l.length+1:=by
 unfold rH;split
 .omega
 .simp;omega
theorem aH4 {k n:Nat} (h:k<=n):bX (0:Int) (k:Int) (n:Int)=true:=by
 simp only [bX,cEe,zR];omega
theorem aCq {k n:Nat} (h:k<=n):bX (k:Int) (n:Int) (n:Int)=true:=by
 simp only [bX,cEe,zR];omega
theorem aD0 {α:Type} {l:List α} {k:Nat}:cut l (k:Int) (l.length:Int)=l.drop k:=by
 unfold cut;rw [cEf];apply List.take_of_length_le;simp
theorem bE2 {l:List Int} (h:l.length<=68719476736):sA l=some l:=by
 unfold sA;rw [aE (n:=([]:List Int).length) (by decide) (by simpa using h)];rfl
theorem aTr {l:List Int} {n:Int} {b:Bool} (hb:(l[lS l n]? =some n)=(b=true)):rH l n=cond b l (l.take (lS l n)++[n]++l.drop (lS l n)):=by
 unfold rH;cases b with
 | true=>rw [zT (by rw [hb])];rfl
 | false=>rw [zS (by rw [hb];simp)];rfl
theorem aO2 {l:List Int} {n:Int} (h:l.length<=4294967296):oC l n=some (rH l n):=by
 have hp:=aWg l n;unfold oC;rw [aWu (l:=l) (n:=n) (by omega) (fun k x hi hx hd hw=>by
  simp only [hd,zZ,hi,aA,hw];cases decide (x<n)<;>rfl) (by simp)]
 simp only [aA,aH4 hp,aCq hp,fR,aD0,zZ,aT,bF,aX,aY,bA,bE2 (l:=l.take (lS l n)) (by simp;omega)];rw [aE (b:=8) (n:=(l.take (lS l n)).length) (m:=1) (by decide) (by simp;omega),aE (b:=8) (m:=(l.drop (lS l n)).length) (by decide) (by simp;omega)]
 by_cases hlt:lS l n<l.length
 .have hx:l[lS l n]? =some l[lS l n]:=cEb hlt;rw [zX (by omega),zZ,aH,hx,aA,aA];rw [aTr (b:=l[lS l n]==n) (by rw [hx];simp)];cases l[lS l n]==n<;>rfl
 .rw [zW (by omega),zY,aA];rw [aTr (b:=false) (by rw [cHm (by omega)];simp)];rfl
theorem aR9 {l:List Int} {n:Int} (h:l.length<=4294967296):yD l n=some (rH l n):=by
 have hp:=aWg l n;unfold yD ixb;rw [aWu (l:=l) (n:=n) (by omega) (fun k x hi hx hd hw=>by
  simp only [hd,zZ,bS,cEf,hx,aA,hw];cases decide (x<n)<;>rfl) (by simp)]
 simp only [aA,aH4 hp,aCq hp,fR,aD0,zZ,aT,bF,aX,aY,bA,cEx,cFf];rw [aE (b:=8) (n:=0) (m:=(l.take (lS l n)).length) (by decide) (by simp;omega),aE (b:=8) (n:=(l.take (lS l n)).length) (m:=1) (by decide) (by simp;omega),aE (b:=8) (m:=(l.drop (lS l n)).length) (by decide) (by simp;omega)]
 by_cases hlt:lS l n<l.length
 .have hx:l[lS l n]? =some l[lS l n]:=cEb hlt;rw [zX (by omega),zZ,bS,zZ,zZ,cEf,hx,aA,aA];rw [aTr (b:=l[lS l n]==n) (by rw [hx];simp)];cases l[lS l n]==n<;>rfl
 .rw [zW (by omega),zY,aA];rw [aTr (b:=false) (by rw [cHm (by omega)];simp)];rfl
def qB (r:Int) (x:den tLk) (a:List Int):List Int:=cond (x.2.2.1==r) (rH (cond (x.1==r) (rH a x.2.1) a) x.2.2.2.1) (cond (x.1==r) (rH a x.2.1) a)
theorem aN1 (r:Int) (x:den tLk) (a:List Int):(qB r x a).length<=a.length+2:=by
 unfold qB;have h1:=aIo a x.2.1;have h2:=aIo (rH a x.2.1) x.2.2.2.1;have h3:=aIo a x.2.2.2.1;cases x.1==r<;>cases x.2.2.1==r<;>simp only [zZ,zY]<;>omega
def gV (t:den tTo) (r:Int):List Int:=bZ (fun _ x a=>qB r x a) 0 t.2 []
theorem aGk (t:den tTo) (r:Int):(gV t r).length<=2 * t.2.length:=by
 have h:=aCx (f:=fun _ x (a:List Int)=>qB r x a) (m:=cEo) (cost:=fun _=>2) (fun k x a=>aN1 r x a) t.2 0 [];rw [aH8] at h;simpa [gV] using h
theorem bW5 {t:den tTo} {r:Int} (h:t.2.length<=1073741824):tD t r=some (gV t r):=by
 unfold tD;rw [(wL (fun k (a:List Int)=>(a,(k:Int))) ([],(0:Int)) [] t.2 (fun _ x a=>qB r x a) cEo (fun _=>2) 4294967296 id rfl (by omega) (by rw [aH8];simp;omega) (fun k x a hi hx hd hw hk hb=>by
  refine ⟨?_,aN1 r x a⟩;have h1:=aIo a x.2.1;simp only [hd,hi,hw,zZ,aA,aO2 (l:=a) (by omega),aO2 (l:=rH a x.2.1) (by omega)];unfold qB;cases x.1==r<;>cases x.2.2.1==r<;>simp only [zZ,zY,aA,aO2 (l:=a) (by omega),aO2 (l:=rH a x.2.1) (by omega)]) (fun a=>by simp)).1]
 rfl
theorem aPx {t:den tTo} {r:Int} (h:t.2.length<=1073741824):iQ t r=some (gV t r):=by
 unfold iQ;rw [(wL (fun k (a:List Int)=>((k:Int),a)) ((0:Int),[]) [] t.2 (fun _ x a=>qB r x a) cEo (fun _=>2) 4294967296 id rfl (by omega) (by rw [aH8];simp;omega) (fun k x a hi hx hd hw hk hb=>by
  refine ⟨?_,aN1 r x a⟩;have h1:=aIo a x.2.1;simp only [hd,hi,hw,zZ,aA,aR9 (l:=a) (by omega),aR9 (l:=rH a x.2.1) (by omega)];unfold qB;cases x.1==r<;>cases x.2.2.1==r<;>simp only [zZ,zY,aA,aR9 (l:=a) (by omega),aR9 (l:=rH a x.2.1) (by omega)]) (fun a=>by simp)).1]
 rfl
theorem aMw {α:Type} (l:List α):(l.map fun _=>0).sum=0:=by
 induction l with
 | nil=>rfl
 | cons x l ih=>rw [cEv,cFu,ih]
def wN (t:den tTo) (dead:List Int) (r:Int):Int:=bZ (fun _ x a=>cond (qC dead (rK t r x)) (aRi a x) a) 0 (gV t r) 0
theorem bD6 {t:den tTo} {dead:List Int} {r:Int} (h:t.2.length<=1073741824) (hd:dead.length<=68719476736):fB t dead r=some (wN t dead r):=by
 have hl:=aGk t r;unfold fB pj2;simp only [aP,bW5 h,aA];rw [fO (fun k (a:Int)=>(a,(k:Int))) ((0:Int),(0:Int)) 0 (gV t r) (fun _ x a=>cond (qC dead (rK t r x)) (aRi a x) a) (fun _=>0) (fun _=>0) 0 id rfl (by omega) (by rw [aMw];exact cEr _) (fun _ _ _=>cEr _) (fun k x a hi hx hd' hw hk hb=>by
  simp only [hd',hi,hw,zZ,aA,aQq (t:=t) (r:=r) (d:=x) (by omega),aOq hd,cBc];cases qC dead (rK t r x)<;>rfl) (fun a=>by simp)]
 rfl
theorem bD4 {t:den tTo} {dead:List Int} {r:Int} (h:t.2.length<=1073741824) (hd:dead.length<=68719476736):fJ t dead r=some (wN t dead r):=by
 have hl:=aGk t r;unfold fJ ixb pj2;simp only [aP,aPx h,aA];rw [fO (fun k (a:Int)=>(a,(k:Int))) ((0:Int),(0:Int)) 0 (gV t r) (fun _ x a=>cond (qC dead (rK t r x)) (aRi a x) a) (fun _=>0) (fun _=>0) 0 id rfl (by omega) (by rw [aMw];exact cEr _) (fun _ _ _=>cEr _) (fun k x a hi hx hd' hw hk hb=>by
  simp only [hd',bS,cEf,hx,hw,zZ,aA,aRa (t:=t) (r:=r) (d:=x) (by omega),aIw hd,bX1];cases qC dead (rK t r x)<;>rfl) (fun a=>by simp)]
 rfl
def aJ9 (key ts beta:Int) (h:den bU):Int:=aFf (([key]++[ts,beta,h.1,h.2.1,h.2.2.1,h.2.2.2.1])++[key])
theorem bZf (key ts beta:Int) (h:den bU):aB6 key ts beta h=some (aJ9 key ts beta h):=by
 unfold aB6 wG aJ9;rw [aE (b:=8) (n:=[key].length) (by decide) (by simp),aE (b:=8) (by decide) (by simp),bCg (by simp)];rfl
theorem bNb (key ts beta:Int) (h:den bU):zE key ts beta h=some (aJ9 key ts beta h):=by
 unfold zE wI aJ9;rw [aE (b:=8) (n:=[key].length) (by decide) (by simp),aE (b:=8) (by decide) (by simp),aZk (by simp)];rfl
def h0:den bU:=(0,0,0,0,0)
def bIx (t:den tTo) (r:Int):Int:=((t.1[r.toNat]?).getD (0,false,0)).2.2
def wP (t:den tTo) (ts beta:Int) (h:den bU):Bool:=kS h&&(cN t h.1&&(h.2.2.2.2==aJ9 (bIx t h.1) ts beta h))
theorem bA3 {t:den tTo} {ts beta:Int} {h:den bU} (ht:t.1.length<=68719476736):nW t ts beta h=some (wP t ts beta h):=by
 unfold nW wP pj2 pj5 zz4;simp only [aP,aRw,aEu ht,aA,bZf];cases kS h
 .rfl
 .cases c:cN t h.1
  .rfl
  .obtain ⟨x,hx,ix⟩:=aGg c;rw [ix,bIx,hx];rfl
theorem bAb {t:den tTo} {ts beta:Int} {h:den bU} (ht:t.1.length<=68719476736):gR t ts beta h=some (wP t ts beta h):=by
 unfold gR wP pj2 pj5 zz4;simp only [aP,aMk,aDf ht,aA,bNb];cases kS h
 .rfl
 .cases c:cN t h.1
  .rfl
  .obtain ⟨x,hx,ix⟩:=aGg c;rw [ix,bIx,hx];rfl
def aG2 (t:den tTo) (l:cF) (k:Nat) (x:den bU):Bool:=kS x&&(cN t x.1&&(l.take k).all fun y=> !(y.1==x.1))
def aLf (t:den tTo) (l:cF):Bool:=(l.zipIdx 0).all fun z=>aG2 t l z.2 z.1
theorem bVl {t:den tTo} {l:cF} (ht:t.1.length<=68719476736) (hl:l.length<=68719476736):aB5 t l=some (inR (l.length:Int) 1 8&&aLf t l):=by
 unfold aB5 aLf pj2 pj5;rw [aO (l:=l) (fun k x=>if aG2 t l k x then none else some false) (by omega) (fun k x hi hd hw hm hk=>by
  simp only [hd,hi,zZ,aA,aP,aRw,aEu ht,aAk hk,fR,hw];rw [aO (l:=l.take k) (fun _ y=>if !(y.1==x.1) then none else some (cD8 (cD8 false))) (by rw [yO hk];omega) (fun j y hi hd hw hm hk=>by
   simp only [hd,hi,hw,zZ,aA];cases y.1==x.1<;>rfl) (by simp),iC (fun y:den bU=> !(y.1==x.1))]
  unfold aG2;cases kS x<;>cases cN t x.1<;>cases (l.take k).all (fun y=> !(y.1==x.1))<;>rfl) (by simp),aBx (aG2 t l)]
 rw [kM,aA];cases inR (l.length:Int) 1 8<;>cases (l.zipIdx 0).all (fun z=>aG2 t l z.2 z.1)<;>rfl
def aLo (t:den tTo) (p:den tPp) (x y:den bU):Bool:= !(pEg p x==0)&&((remote t x.1 (pEg p x)).1==y.1&&(remote t x.1 (pEg p x)).2==pIn p y)
def aAy (t:den tTo) (p:den tPp) (k:Nat) (y:den bU):Bool:=decide (k=0)||aLo t p ((p.2.2.2[k - 1]?).getD h0) y
def uA (t:den tTo) (p:den tPp):Bool:=
 inR (p.2.2.2.length:Int) 1 8&&(inR p.1 1 4&&(inR p.2.1 0 1000000&&(lA p.2.2.1&&(aLf t p.2.2.2&&(p.2.2.2.zipIdx 0).all fun z=>aAy t p z.2 z.1))))
theorem bP6 (t:den tTo) (p:den tPp):((p.2.2.2.drop 1).zipIdx 0).all (fun z=>aLo t p ((p.2.2.2[z.2]?).getD h0) z.1)=(p.2.2.2.zipIdx 0).all (fun z=>aAy t p z.2 z.1):=by
 rw [cEz,aC1 (fun k x=>aLo t p ((p.2.2.2[k]?).getD h0) x),aC1 (aAy t p)];constructor
 .intro h k x hx;cases k with
  | zero=>rfl
  | succ k=>
   have :=h k x (by rw [cFy,Nat.add_comm];exact hx);simpa [aAy] using this
 .intro h k x hx;rw [cFy,Nat.add_comm] at hx;have :=h (k+1) x hx;simpa [aAy] using this
theorem aI3 (a b:Int):(a != b)= !(a==b):=rfl
theorem bMf {t:den tTo} {p:den tPp} (ht:t.1.length<=68719476736) (ht2:t.2.length<=68719476736) (hl:p.2.2.2.length<=68719476736):vB t p=some (uA t p):=by
 unfold vB uA pj2 pj4;rw [aO (l:=p.2.2.2.drop 1) (fun k y=>if aLo t p ((p.2.2.2[k]?).getD h0) y then none else some false) (by rw [cGc];omega) (fun k y hi hd hw hm hk=>by
  have hy:p.2.2.2[k+1]? =some y:=by rw [aH,cFy,Nat.add_comm] at hi;exact hi
  have hlt:k+1<p.2.2.2.length:=(cEj.1 hy).1;obtain ⟨x,hx⟩: ∃ x,p.2.2.2[k]? =some x:=⟨_,cEb (by omega)⟩
  have hd':decide ((k:Int)<wr ((p.2.2.2.length:Int) - 1))=true:=by rw [fU hl];simp;omega
  have hy':idx p.2.2.2 ((k+1:Nat):Int)=some y:=by rw [aH];exact hy
  simp only [hd',zZ,aP,bH8 hx hl,aA,aH,hx,hw,hy,bFu hy hl,bB5 ht2,cE3,aI3];unfold aLo;cases pEg p x==0<;>cases (remote t x.1 (pEg p x)).1==y.1<;>cases (remote t x.1 (pEg p x)).2==pIn p y<;>rfl) (by
   rw [cGc,fU hl,zW (by omega)];rfl),aBx (fun k y=>aLo t p ((p.2.2.2[k]?).getD h0) y),bP6]
 simp only [aP,kM,bVl ht hl,aHv,aA];cases inR (p.2.2.2.length:Int) 1 8<;>cases inR p.1 1 4<;>cases inR p.2.1 0 1000000<;>cases lA p.2.2.1<;>cases aLf t p.2.2.2<;>cases (p.2.2.2.zipIdx 0).all (fun z=>aAy t p z.2 z.1)<;>rfl
theorem aFz {α S:Type} (p:Nat->α->Bool) (o r:S): ∀ (l:List α) (k:Nat),aMl (fun k x (_:Unit)=>if p k x then .inl () else .inr r) (fun _=>o) k l ()=if (l.zipIdx k).all (fun z=>p z.2 z.1) then o else r
 | [],_=>rfl
 | x::xs,k=>by
  simp only [aMl,List.zipIdx_cons,List.all_cons];rcases cG1 (p k x) with h | h
  .simp only [h,zV,cEs];exact aFz p o r xs (k+1)
  .simp [h]
theorem bOc {p:den tPp} (hl:p.2.2.2.length<=68719476736):vH p=some (p.2.2.2.map (·.1)):=by
 unfold vH;rw [(wL (fun k (a:List Int)=>((k:Int),a)) ((0:Int),[]) [] p.2.2.2 (fun _ x a=>a++[x.1]) cEo (fun _=>1) 68719476736 id rfl (by omega) (by rw [dS];simpa using hl) (fun k x a hi hx hd hw hk hb=>by
  simp only [hd,hi,hw,zZ,aA,aE (b:=8) (by decide) hb];simp) (fun a=>by simp)).1,fV (fun x:den bU=>x.1)]
 simp
theorem bRf (l:cF) (k:Nat) (n:Int):qC ((l.map (·.1)).take k) n= !((l.take k).all fun y=> !(y.1==n)):=by
 unfold qC;rw [<- List.map_take,List.all_map];rfl
theorem bJo {t:den tTo} {p:den tPp} (ht:t.1.length<=68719476736) (ht2:t.2.length<=68719476736) (hl:p.2.2.2.length<=68719476736):vI t p=some (uA t p):=by
 unfold vI uA pj2 pj4 pj5;simp only [aP,bOc hl,aA];have hR:(p.2.2.2.map (·.1)).length=p.2.2.2.length:=by simp
 rw [aPq (fun k (_:Unit)=>(p.2.2.2.map (·.1),(k:Int))) (p.2.2.2.map (·.1),(0:Int)) () p.2.2.2 (fun k x _=>if (aG2 t p.2.2.2 k x&&aAy t p k x) then .inl () else .inr (.inr false)) (fun _ _=>True) (fun _=> .inl ()) rfl (by omega) trivial (fun k x a hi hx hd hw hk _=>by
  refine ⟨?_,fun _ _=>trivial⟩;have hr:(p.2.2.2.map (·.1))[k]? =some x.1:=by rw [cGf,hx];rfl
  have hs:bX (0:Int) (k:Int) ((p.2.2.2.map (·.1)).length:Int)=true:=by rw [hR];exact aAk hk
  have hh:gD ((p.2.2.2.map (·.1)).take k) x.1=some (!((p.2.2.2.take k).all fun y=> !(y.1==x.1))):=by
   rw [aIw (by simp;omega),bRf]
  simp only [hd,zZ,hi,aH,hr,aA,aMk,aDf ht,hs,fR,hh,hw];cases k with
  | zero=>
   rw [show decide (((0:Nat):Int)>0)=false from by decide];unfold aG2 aAy;cases kS x<;>cases cN t x.1<;>cases (p.2.2.2.take 0).all (fun y=> !(y.1==x.1))<;>rfl
  | succ j=>
   have hw1:wr (((j+1:Nat):Int) - 1)=(j:Int):=(wri (by omega) (by omega)).trans (by omega);obtain ⟨y,hy⟩: ∃ y,p.2.2.2[j]? =some y:=⟨_,cEb (by omega)⟩
   have hr1:(p.2.2.2.map (·.1))[j]? =some y.1:=by rw [cGf,hy];rfl
   rw [show decide (((j+1:Nat):Int)>0)=true from by simp];simp only [hw1,aH,hr1,aA,aYb hy hl,bG6 hx hl,aI0 ht2,zZ,aI3];unfold aG2 aAy aLo;rw [Nat.add_sub_cancel,hy,cE3];cases kS x<;>cases cN t x.1<;>cases (p.2.2.2.take (j+1)).all (fun y=> !(y.1==x.1))<;>cases pEg p y==0<;>cases (remote t y.1 (pEg p y)).1==x.1<;>cases (remote t y.1 (pEg p y)).2==pIn p x<;>rfl) (fun a _=>by simp)]
 rw [aFz (fun k x=>aG2 t p.2.2.2 k x&&aAy t p k x)];have hsplit:(p.2.2.2.zipIdx 0).all (fun z=>aG2 t p.2.2.2 z.2 z.1&&aAy t p z.2 z.1)=(aLf t p.2.2.2&&(p.2.2.2.zipIdx 0).all fun z=>aAy t p z.2 z.1):=by
  unfold aLf;rw [cEz];simp only [cE6,cEe];exact ⟨fun h=>⟨fun z hz=>(h z hz).1,fun z hz=>(h z hz).2⟩,fun h z hz=>⟨h.1 z hz,h.2 z hz⟩⟩
 rw [hsplit];simp only [fQ,aFp,aA];cases inR (p.2.2.2.length:Int) 1 8<;>cases inR p.1 1 4<;>cases inR p.2.1 0 1000000<;>cases lA p.2.2.1<;>cases aLf t p.2.2.2<;>cases (p.2.2.2.zipIdx 0).all (fun z=>aAy t p z.2 z.1)<;>rfl
def aDe (k:Int):Int:=cond (k==1) 1 (cond (k==2||k==3) 2 3)
theorem bO6 (k:Int):yK k=some (aDe k):=by
 unfold yK aDe;cases k==1<;>cases k==2<;>cases k==3<;>rfl
theorem bPb (k:Int):xY k=some (aDe k):=by
 unfold xY aDe;cases k==1<;>cases k==2<;>cases k==3<;>rfl
def pt0:den tPp:=(0,0,0,[])
def aMm (y:den tPp):den bU:=(y.2.2.2[y.2.2.2.length - 1]?).getD h0
def aJw (y:den tPp):den bU:=(y.2.2.2[0]?).getD h0
def aPh (y x:den tPp):Bool:= !decide (aDe y.1>=aDe x.1)&&(aMm y).1==(aJw x).1
def aA6 (t:den tTo) (p:den tPt) (k:Nat) (x:den tPp):Bool:=uA t x&&(decide (k=0)||aPh ((p[k - 1]?).getD pt0) x)
def wfP (t:den tTo) (p:den tPt):Bool:=inR (p.length:Int) 1 3&&(p.zipIdx 0).all fun z=>aA6 t p z.2 z.1
theorem aF9 {t:den tTo} {p:den tPp} (h:uA t p=true):0<p.2.2.2.length:=by
 unfold uA at h;rw [cEe] at h;have :=bQ.1 h.1;omega
theorem aZd {y:den tPp} (h:0<y.2.2.2.length) (hl:y.2.2.2.length<=68719476736):idx y.2.2.2 (wr ((y.2.2.2.length:Int) - 1))=some (aMm y):=by
 rw [aTc hl h,aH];unfold aMm;rw [cEb (show y.2.2.2.length - 1<y.2.2.2.length by omega)];rfl
theorem bBa {y:den tPp} (h:0<y.2.2.2.length):idx y.2.2.2 (0:Int)=some (aJw y):=by
 have :idx y.2.2.2 ((0:Nat):Int)=y.2.2.2[0]? :=aH;rw [show (0:Int)=((0:Nat):Int) from rfl,this];unfold aJw;rw [cEb h];rfl
theorem cBn {t:den tTo} {p:den tPt} (ht:t.1.length<=68719476736) (ht2:t.2.length<=68719476736) (h:SmB 68719476736 tPt p):lG t p=some (wfP t p):=by
 have lp:=h.1;have lh: ∀ (k:Nat) (x:den tPp),p[k]? =some x->x.2.2.2.length<=68719476736:=fun k x hx=>(h.2 x (cEn hx)).2.2.2.1
 unfold lG wfP pj2 pj4;rw [aPq (fun k (_:Unit)=>(k:Int)) (0:Int) () p (fun k x _=>if aA6 t p k x then .inl () else .inr (.inr false)) (fun k _=> ∀ j y,j<k->p[j]? =some y->0<y.2.2.2.length) (fun _=> .inl ()) rfl (by omega) (fun j y hj=>absurd hj (Nat.not_lt_zero _)) (fun k x a hi hx hd hw hk hI=>by
  have hlx:=lh k x hx;refine ⟨?_,fun a' ha j y hj hy=> ?_⟩
  .simp only [hd,zZ,hi,aA,aP,bMf ht ht2 hlx,hw];cases hv:uA t x with
   | false=>unfold aA6;rw [hv];rfl
   | true=>
    cases k with
    | zero=>
     rw [show decide (((0:Nat):Int)>0)=false from by decide];unfold aA6;rw [hv];rfl
    | succ j=>
     have hw1:wr (((j+1:Nat):Int) - 1)=(j:Int):=(wri (by omega) (by omega)).trans (by omega);obtain ⟨y,hy⟩: ∃ y,p[j]? =some y:=⟨_,cEb (by omega)⟩
     rw [show decide (((j+1:Nat):Int)>0)=true from by simp];simp only [hw1,aH,hy,aA,bO6,aZd (hI j y (Nat.lt_succ_self j) hy) (lh j y hy),bBa (aF9 hv),zZ,aI3,cEc,zY];unfold aA6 aPh;rw [Nat.add_sub_cancel,hy,cE3,hv];cases decide (aDe y.1>=aDe x.1)<;>cases (aMm y).1==(aJw x).1<;>rfl
  .rcases Nat.lt_succ_iff_lt_or_eq.1 hj with hj | rfl
   .exact hI j y hj hy
   .rw [hx] at hy;injection hy with hy;subst hy;rcases cG1 (aA6 t p j x) with hb | hb
    .unfold aA6 at hb;rw [cEe] at hb;exact aF9 hb.1
    .simp [hb] at ha) (fun a _=>by simp)]
 rw [aFz (aA6 t p),kM,aA];cases inR (p.length:Int) 1 3<;>cases (p.zipIdx 0).all (fun z=>aA6 t p z.2 z.1)<;>rfl
theorem cBx {t:den tTo} {p:den tPt} (ht:t.1.length<=68719476736) (ht2:t.2.length<=68719476736) (h:SmB 68719476736 tPt p):lN t p=some (wfP t p):=by
 have lp:=h.1;have lh: ∀ (k:Nat) (x:den tPp),p[k]? =some x->x.2.2.2.length<=68719476736:=fun k x hx=>(h.2 x (cEn hx)).2.2.2.1
 unfold lN wfP pj2 pj4;rw [aPq (fun k (_:Unit)=>(k:Int)) (0:Int) () p (fun k x _=>if aA6 t p k x then .inl () else .inr (.inr false)) (fun k _=> ∀ j y,j<k->p[j]? =some y->0<y.2.2.2.length) (fun _=> .inl ()) rfl (by omega) (fun j y hj=>absurd hj (Nat.not_lt_zero _)) (fun k x a hi hx hd hw hk hI=>by
  have hlx:=lh k x hx;refine ⟨?_,fun a' ha j y hj hy=> ?_⟩
  .simp only [hd,zZ,hi,aA,aP,bJo ht ht2 hlx,hw];cases hv:uA t x with
   | false=>unfold aA6;rw [hv];rfl
   | true=>
    cases k with
    | zero=>
     rw [show decide (((0:Nat):Int)>0)=false from by decide];unfold aA6;rw [hv];rfl
    | succ j=>
     have hw1:wr (((j+1:Nat):Int) - 1)=(j:Int):=(wri (by omega) (by omega)).trans (by omega);obtain ⟨y,hy⟩: ∃ y,p[j]? =some y:=⟨_,cEb (by omega)⟩
     rw [show decide (((j+1:Nat):Int)>0)=true from by simp];simp only [hw1,aH,hy,aA,bPb,aZd (hI j y (Nat.lt_succ_self j) hy) (lh j y hy),bBa (aF9 hv),zZ,aI3,cEc,zY];unfold aA6 aPh;rw [Nat.add_sub_cancel,hy,cE3,hv];cases decide (aDe y.1>=aDe x.1)<;>cases (aMm y).1==(aJw x).1<;>rfl
  .rcases Nat.lt_succ_iff_lt_or_eq.1 hj with hj | rfl
   .exact hI j y hj hy
   .rw [hx] at hy;injection hy with hy;subst hy;rcases cG1 (aA6 t p j x) with hb | hb
    .unfold aA6 at hb;rw [cEe] at hb;exact aF9 hb.1
    .simp [hb] at ha) (fun a _=>by simp)]
 rw [aFz (aA6 t p),fQ,aA];cases inR (p.length:Int) 1 3<;>cases (p.zipIdx 0).all (fun z=>aA6 t p z.2 z.1)<;>rfl
def aG8 (l:List Int) (k:Nat) (n:Int):Bool:= !qC (l.take k) n
def rQ (t:den tTo) (p:den tPt):Bool:=wfP t p&&((jS p).zipIdx 0).all fun z=>aG8 (jS p) z.2 z.1
theorem bEv {p:den tPt} (h:tot tPt p<=1073741824):SmB 68719476736 tPt p:=(bC h).mono (by decide)
theorem aWs {t:den tTo} {p:den tPt} (ht:t.1.length<=68719476736) (ht2:t.2.length<=68719476736) (h:tot tPt p<=1073741824):lJ t p=some (rQ t p):=by
 have hu:=aJc p;unfold lJ rQ pj2;simp only [aP,cBn ht ht2 (bEv h),bE1 h,aA];rw [aPq (fun k (_:Unit)=>(jS p,jS p,(k:Int))) (jS p,jS p,(0:Int)) () (jS p) (fun k x _=>if aG8 (jS p) k x then .inl () else .inr (.inr false)) (fun _ _=>True) (fun _=> .inl ()) rfl (by omega) trivial (fun k x a hi hx hd hw hk _=>by
  refine ⟨?_,fun _ _=>trivial⟩;simp only [hd,zZ,hi,aA,aAk hk,fR,hw,aOq (l:=(jS p).take k) (n:=x) (by simp;omega)];unfold aG8;cases qC ((jS p).take k) x<;>rfl) (fun a _=>by simp)]
 rw [aFz (aG8 (jS p))];cases wfP t p<;>cases ((jS p).zipIdx 0).all (fun z=>aG8 (jS p) z.2 z.1)<;>rfl
theorem aX0 {t:den tTo} {p:den tPt} (ht:t.1.length<=68719476736) (ht2:t.2.length<=68719476736) (h:tot tPt p<=1073741824):lU t p=some (rQ t p):=by
 have hu:=aJc p;unfold lU rQ pj2;simp only [aP,cBx ht ht2 (bEv h),bFg h,aA];rw [aPq (fun k (_:Unit)=>(jS p,(k:Int))) (jS p,(0:Int)) () (jS p) (fun k x _=>if aG8 (jS p) k x then .inl () else .inr (.inr false)) (fun _ _=>True) (fun _=> .inl ()) rfl (by omega) trivial (fun k x a hi hx hd hw hk _=>by
  refine ⟨?_,fun _ _=>trivial⟩;simp only [hd,zZ,hi,aA,aAk hk,fR,hw,aIw (l:=(jS p).take k) (n:=x) (by simp;omega)];unfold aG8;cases qC ((jS p).take k) x<;>rfl) (fun a _=>by simp)]
 rw [aFz (aG8 (jS p))];cases wfP t p<;>cases ((jS p).zipIdx 0).all (fun z=>aG8 (jS p) z.2 z.1)<;>rfl
def bT (p:den tPk):den tPp:=(p.2.2.2.1[p.2.2.2.2.1.toNat]?).getD pt0
def dG (p:den tPk):den bU:=((bT p).2.2.2[p.2.2.2.2.2.1.toNat]?).getD h0
theorem iT {p:den tPk} (h:cQ p=true): ∃ (i j:Nat),p.2.2.2.2.1=(i:Int)/\p.2.2.2.2.2.1=(j:Int)/\p.2.2.2.1[i]? =some (bT p)/\(bT p).2.2.2[j]? =some (dG p)/\dF p=(dG p).1:=by
 obtain ⟨i,j,x,y,h1,h2,h3,h4,h5⟩:=aEz h;have e1:bT p=x:=by unfold bT;rw [h1,cEf,h3];rfl
 have e2:dG p=y:=by unfold dG;rw [e1,h2,cEf,h4];rfl
 exact ⟨i,j,h1,h2,by rw [e1];exact h3,by rw [e1,e2];exact h4,by rw [e2];exact h5⟩
theorem aHy {p:den tPk} (h:0<=dF p):cQ p=true:=by
 cases c:cQ p with
 | true=>rfl
 | false=>rw [aCe c] at h;omega
theorem gY {p:den tPk} (h:tot tPk p<=34359738368):SmB 68719476736 tPk p:=(bC h).mono (by decide)
theorem aB0 {p:den tPk} (h:SmB 68719476736 tPk p) {i:Nat} {x:den tPp} (hx:p.2.2.2.1[i]? =some x):x.2.2.2.length<=68719476736:=(h.2.2.2.1.2 x (cEn hx)).2.2.2.1
def eB (p:den tPk):Bool:=p.2.2.2.2.2.1==((bT p).2.2.2.length:Int) - 1
def aIr (p:den tPk):Bool:=p.2.2.2.2.1==(p.2.2.2.1.length:Int) - 1
def hH (p:den tPk):Bool:=decide (dF p>=0)&&(eB p&&aIr p)
theorem aRc {p:den tPk} (h:SmB 68719476736 tPk p) (hh:cQ p=true):iU p=some (eB p):=by
 obtain ⟨i,j,h1,h2,h3,h4,_⟩:=iT hh;unfold iU eB zz4 zz5;rw [h1,aH,h3,aA,fU (aB0 h h3)]
theorem aQ8 {p:den tPk} (h:SmB 68719476736 tPk p):mL p=some (hH p):=by
 unfold mL hH aI zz4;simp only [aP,aIa h,aA];cases c:decide (dF p>=0)
 .rfl
 .have hh:=aHy (of_decide_eq_true c);have l1:=h.2.2.2.1.1;simp only [zZ,aRc h hh,aA,fU l1];unfold aIr;cases eB p<;>rfl
theorem aZp {p:den tPk} (h:SmB 68719476736 tPk p):oG p=some (hH p):=by
 unfold oG hH aI zz4 zz5;simp only [aP,aH9 h,aA];cases c:decide (dF p>=0)
 .rfl
 .have hh:=aHy (of_decide_eq_true c);have l1:=h.2.2.2.1.1;obtain ⟨i,j,h1,h2,h3,h4,_⟩:=iT hh;simp only [zZ,fU l1];unfold aIr eB;rw [h1,aH,h3,aA,fU (aB0 h h3)];cases p.2.2.2.2.2.1==((bT p).2.2.2.length:Int) - 1<;>cases (i:Int)==(p.2.2.2.1.length:Int) - 1<;>rfl
theorem aKt {p:den tPk} (h:SmB 68719476736 tPk p):eD p=some (pkR p):=by
 unfold eD pkR zz4 zz5 zz6 zz7 zz8 zz9;rw [aH1 h.2.2.2.1,aHx h.2.2.2.2.2.2.2.2.2.1];rfl
theorem aFl {p:den tPk} (h:SmB 68719476736 tPk p):fD p=some (pkR p):=by
 unfold fD pkR zz4 zz5 zz6 zz7 zz8 zz9;rw [aIc h.2.2.2.1,aE (b:=1) (n:=([]:List Int).length) (by decide) (by simpa using h.2.2.2.2.2.2.2.2.2.1)];simp
def goTo (p:den tPk) (i j b:Int):den tPk:=(p.1,p.2.1,p.2.2.1,p.2.2.2.1,i,j,b,p.2.2.2.2.2.2.2.1,p.2.2.2.2.2.2.2.2.1,p.2.2.2.2.2.2.2.2.2)
def uO (p:den tPk):den tPp:=(p.2.2.2.1[p.2.2.2.2.1.toNat+1]?).getD pt0
def adv (p:den tPk):den tPk:=
 if decide (dF p<0)||hH p then p
 else if eB p then goTo p (p.2.2.2.2.1+1) 0 (uO p).2.2.1 else goTo p p.2.2.2.2.1 (p.2.2.2.2.2.1+1) p.2.2.2.2.2.2.1
theorem aUz {p:den tPk} (hh:cQ p=true) (h0:0<=dF p) (hl:eB p=true) (ha:hH p=false): ∃ i:Nat,p.2.2.2.2.1=(i:Int)/\p.2.2.2.1[i+1]? =some (uO p):=by
 obtain ⟨i,j,h1,h2,h3,h4,_⟩:=iT hh;refine ⟨i,h1,?_⟩;have hlt:=(cEj.1 h3).1;have hne:aIr p=false:=by
  unfold hH at ha;rw [hl,zX h0] at ha;simpa using ha
 unfold aIr at hne;rw [h1] at hne;have hne: ¬ ((i:Int)=(p.2.2.2.1.length:Int) - 1):=by simpa using hne
 unfold uO;rw [h1,cEf,cEb (show i+1<p.2.2.2.1.length by omega)];rfl
theorem bUk {p:den tPk} (h:SmB 68719476736 tPk p):oK p=some (pkR (adv p)):=by
 unfold oK adv aI pj2 zz4 zz5 zz6 zz7 zz8;simp only [aP,aKt h,aIa h,aQ8 h,aA];cases c:decide (dF p<0)
 .cases ca:hH p
  .have h0:0<=dF p:=by have :=of_decide_eq_false c;omega
   have hh:=aHy h0;obtain ⟨i,j,h1,h2,h3,h4,_⟩:=iT hh;have hlt:=(cEj.1 h3).1;have hlt2:=(cEj.1 h4).1;have l1:cEo p.2.2.2.1<=68719476736:=h.2.2.2.1.1;have l2:=aB0 h h3;simp only [zY,aA,aRc h hh,cF0,cEg,zU];cases cl:eB p
   .simp only [zY,aA,cEg,zU];unfold pkR goTo;rw [h2,show wr ((j:Int)+1)=(j:Int)+1 from wri (by omega) (by omega)]
   .obtain ⟨i',e1,e2⟩:=aUz hh h0 cl ca;have :i'=i:=Int.ofNat.inj (e1.symm.trans h1);subst this;have hw:wr (((i':Nat):Int)+1)=((i'+1:Nat):Int):=(wri (by omega) (by omega)).trans (by omega);simp only [zZ,zV];unfold pkR goTo;simp only [h1,hw,aH,e2,aA];rw [show ((i'+1:Nat):Int)=(i':Int)+1 by omega]
  .rfl
 .rfl
theorem bIl {p:den tPk} (h:SmB 68719476736 tPk p):iK p=some (pkR (adv p)):=by
 unfold iK adv aI pj4 pj5 zz4 zz5 zz6;simp only [aP,aFl h,aH9 h,aZp h,aA];cases c:decide (dF p<0)
 .cases ca:hH p
  .have h0:0<=dF p:=by have :=of_decide_eq_false c;omega
   have hh:=aHy h0;obtain ⟨i,j,h1,h2,h3,h4,_⟩:=iT hh;have hlt:=(cEj.1 h3).1;have hlt2:=(cEj.1 h4).1;have l1:cEo p.2.2.2.1<=68719476736:=h.2.2.2.1.1;have l2:=aB0 h h3;have hd:decide ((j:Int)<((bT p).2.2.2.length:Int) - 1)= !eB p:=by
    have key:decide ((j:Int)<((bT p).2.2.2.length:Int) - 1)= !((j:Int)==((bT p).2.2.2.length:Int) - 1):=by
     rw [cEz];simp only [zR,cFg,beq_eq_false_iff_ne,ne_eq];omega
    unfold eB;rw [h2];exact key
   simp only [zY,aA,cF0,cEg,zU,h1,h2,aH,h3,fU l2,hd];cases cl:eB p
   .simp only [cEm,zZ,cEg,zU];unfold pkR goTo;rw [show wr ((j:Int)+1)=(j:Int)+1 from wri (by omega) (by omega)];simp only [h1]
   .obtain ⟨i',e1,e2⟩:=aUz hh h0 cl ca;have :i'=i:=Int.ofNat.inj (e1.symm.trans h1);subst this;have hw:wr (((i':Nat):Int)+1)=((i'+1:Nat):Int):=(wri (by omega) (by omega)).trans (by omega);simp only [cEc,zY,zV];unfold pkR goTo;simp only [hw,aH,e2,aA];rw [show ((i'+1:Nat):Int)=(i':Int)+1 by omega]
  .rfl
 .rfl
def bef (p:den tPk):Int:=if kW (bT p).1 then aL6 p.2.2.2.2.2.2.1 (dG p).2.2.2.2 else p.2.2.2.2.2.2.1
def aft (p:den tPk):Int:=if kW (bT p).1 then aL6 p.2.2.2.2.2.2.1 (dG p).2.2.2.2 else aKf p.2.2.2.2.2.2.1 (dG p).2.2.2.2
def aFe (t:den tTo) (p:den tPk):Bool:=cQ p&&wP t (bT p).2.1 (bef p) (dG p)
def bD (t:den tTo) (p:den tPk):den tPk:=if aFe t p then goTo p p.2.2.2.2.1 p.2.2.2.2.2.1 (aft p) else p
def pG (p:den tPk) (b:Bool):q7:=(p.1,p.2.1,p.2.2.1,p.2.2.2.2.1,p.2.2.2.2.2.1,p.2.2.2.2.2.2.1,p.2.2.2.2.2.2.2.1,p.2.2.2.2.2.2.2.2.1,b,p.2.2.2.1,p.2.2.2.2.2.2.2.2.2)
theorem bYh {t:den tTo} {p:den tPk} (ht:t.1.length<=68719476736) (h:SmB 68719476736 tPk p):jK t p=some (pG (bD t p) (aFe t p)):=by
 unfold jK bD aFe aI pj2 pj5 zz4 zz5 zz6 zz7 zz8;simp only [aP,aKt h,bSm h,aA];cases c:cQ p
 .rfl
 .obtain ⟨i,j,h1,h2,h3,h4,_⟩:=iT c;simp only [h1,h2,aH,h3,h4,aA,aHz,bBi,bJu,cEc,zY,cEs];unfold bef aft;cases kW (bT p).1
  .simp only [zY,aA,bA3 ht,cEg,zU];cases wP t (bT p).2.1 p.2.2.2.2.2.2.1 (dG p)
   .simp only [cEm,zZ,cEg,zU];unfold pG pkR;simp only [h1,h2]
   .simp only [cEc,zY,zV];unfold pG pkR goTo;simp only [h1,h2]
  .simp only [zZ,aA,bA3 ht,zV];cases wP t (bT p).2.1 (aL6 p.2.2.2.2.2.2.1 (dG p).2.2.2.2) (dG p)
   .simp only [cEm,zZ,cEg,zU];unfold pG pkR;simp only [h1,h2]
   .simp only [cEc,zY,zV];unfold pG pkR goTo;simp only [h1,h2]
theorem bEa {t:den tTo} {ts b:Int} {h:den bU} (hv:h.1<0):wP t ts b h=false:=by
 unfold wP kS;rw [bEy.2 (fun hh=>absurd hv (Int.not_lt.2 hh.1))];rfl
theorem bZb {t:den tTo} {p:den tPk} (ht:t.1.length<=68719476736) (h:SmB 68719476736 tPk p):jN t p=some (pG (bD t p) (aFe t p)):=by
 unfold jN bD aFe aI pj2 pj5 zz4 zz5 zz6 zz7 zz8;simp only [aP,aFl h,aH9 h,aA];cases c:cQ p
 .rw [aCe c];rfl
 .obtain ⟨i,j,h1,h2,h3,h4,h5⟩:=iT c;rw [h5]
  by_cases hn:(dG p).1<0
  .rw [zX hn,bEa hn];rfl
  .simp only [zW hn,zY,h1,h2,aH,h3,h4,aA,aH2,aSu,bMl,cEs,bAb ht];unfold bef aft;cases kW (bT p).1
   .simp only [zY,cEg,zU];cases wP t (bT p).2.1 p.2.2.2.2.2.2.1 (dG p)
    .simp only [cEm,zZ,cEg,zU];unfold pG pkR;simp only [h1,h2]
    .simp only [cEc,zY,zV];unfold pG pkR goTo;simp only [h1,h2]
   .simp only [zZ,zV];cases wP t (bT p).2.1 (aL6 p.2.2.2.2.2.2.1 (dG p).2.2.2.2) (dG p)
    .simp only [cEm,zZ,cEg,zU];unfold pG pkR;simp only [h1,h2]
    .simp only [cEc,zY,zV];unfold pG pkR goTo;simp only [h1,h2]
def aDk (p:den tPk) (now:Int):Bool:= !decide (dF p<0)&&(decide ((bT p).2.1<=now)&&decide (now<=(dG p).2.2.2.1))
theorem bNz {p:den tPk} {now:Int} (h:SmB 68719476736 tPk p):iB p now=some (aDk p now):=by
 unfold iB aDk aI pj5 zz4 zz5;simp only [aP,aIa h,aA];cases c:decide (dF p<0)
 .have hh:=aHy (p:=p) (by have :=of_decide_eq_false c;omega);obtain ⟨i,j,h1,h2,h3,h4,h5⟩:=iT hh;simp only [zY,h1,h2,aH,h3,h4,aA,wA];cases decide ((bT p).2.1<=now)<;>rfl
 .rfl
theorem bPm {p:den tPk} {now:Int} (h:SmB 68719476736 tPk p):kL p now=some (aDk p now):=by
 unfold kL aDk aI pj5 zz4 zz5;simp only [aP,aH9 h,aA];cases c:decide (dF p<0)
 .have hh:=aHy (p:=p) (by have :=of_decide_eq_false c;omega);obtain ⟨i,j,h1,h2,h3,h4,h5⟩:=iT hh;simp only [zY,h1,h2,aH,h3,h4,aA,nZ];cases decide ((bT p).2.1<=now)<;>rfl
 .rfl
def dR (t:den tTo) (now:Int) (p:den tPk):Int:=if aFe t p then (if aDk p now then 0 else 5) else 4
def goC (t:den tTo) (now:Int):Nat->den tPk->Int×den tPk
 | 0,p=>(dR t now p,bD t p)
 | n+1,p=>if dR t now p==0&&(eB (bD t p)&& !hH (bD t p)) then goC t now n (adv (bD t p)) else (dR t now p,bD t p)
theorem aDb (t:den tTo) (p:den tPk):tot tPk (bD t p)=tot tPk p:=by
 unfold bD;split<;>rfl
theorem aH5 (p:den tPk):tot tPk (adv p)=tot tPk p:=by
 unfold adv;split
 .rfl
 .split<;>rfl
theorem bCq (t:den tTo) (p:den tPk) (now:Int):aDk (bD t p) now=aDk p now:=by
 unfold bD;split<;>rfl
theorem aMn (t:den tTo) (p:den tPk):cQ (bD t p)=cQ p/\dF (bD t p)=dF p/\dG (bD t p)=dG p/\(bD t p).2.2.2.1=p.2.2.2.1/\(bD t p).2.2.2.2.1=p.2.2.2.2.1:=by
 unfold bD;split<;>exact ⟨rfl,rfl,rfl,rfl,rfl⟩
theorem aCt {t:den tTo} {now:Int} {p:den tPk} (h:dR t now p=0):cQ p=true/\0<=dF p:=by
 unfold dR at h;split at h
 .rename_i hs;unfold aFe at hs;rw [cEe] at hs;refine ⟨hs.1,?_⟩;obtain ⟨i,j,h1,h2,h3,h4,h5⟩:=iT hs.1;rw [h5]
  by_cases hn:(dG p).1<0
  .rw [bEa hn] at hs;cases hs.2
  .exact Int.not_lt.1 hn
 .cases h
theorem bBr {p:den tPk} (h0:0<=dF p) (hc:(eB p&& !hH p)=true):(adv p).2.2.2.1=p.2.2.2.1/\(adv p).2.2.2.2.1=p.2.2.2.2.1+1:=by
 rw [cEe] at hc;have ha:hH p=false:=by simpa using hc.2
 unfold adv;rw [zW (by omega),ha,hc.1];exact ⟨rfl,rfl⟩
theorem bDj {t:den tTo} {now:Int} {S R:Type} (enc:Int->den tPk->S) (out:S->R) {step:S->Option (S⊕R)} (st:den tPk->den tPk) (hst: ∀ p,dR t now p=0->st p=bD t p)
  (hstop: ∀ c p,c≠0->step (enc c p)=some (.inr (out (enc c p))))
  (hgo: ∀ q,tot tPk q<=34359738368->cQ q=true->0<=dF q->step (enc 0 q)=some (if eB q&& !hH q then .inl (enc (dR t now (adv q)) (st (adv q))) else .inr (out (enc 0 q)))):
  ∀ (n:Nat) (p:den tPk),tot tPk p<=34359738368->p.2.2.2.1.length - p.2.2.2.2.1.toNat<=n-> ∃ r,aC step (enc (dR t now p) (st p))=some (out (enc (goC t now n p).1 r))/\((goC t now n p).1=0->r=(goC t now n p).2):=by
 intro n
 induction n with
 | zero=>
  intro p hp hm
  by_cases hc:dR t now p=0
  .obtain ⟨hh,h0⟩:=aCt hc;obtain ⟨i,j,h1,h2,h3,h4,h5⟩:=iT hh;have hlt:=(cEj.1 h3).1;rw [h1,cEf] at hm;exact absurd hlt (by omega)
  .exact ⟨_,bI (hstop _ _ hc),fun h=>absurd h hc⟩
 | succ n ih=>
  intro p hp hm
  by_cases hc:dR t now p=0
  .obtain ⟨hh,h0⟩:=aCt hc;obtain ⟨e1,e2,e3,e4,e5⟩:=aMn t p;have hq:=hgo (bD t p) (by rw [aDb];exact hp) (by rw [e1];exact hh) (by rw [e2];exact h0);rw [hst p hc];cases hb:eB (bD t p)&& !hH (bD t p) with
   | false=>
    rw [hb] at hq;have hg:goC t now (n+1) p=(dR t now p,bD t p):=by
     show (if _ then _ else _)=_;rw [hb,Bool.and_false];rfl
    rw [hg,hc];exact ⟨bD t p,bI hq,fun _=>rfl⟩
   | true=>
    rw [hb,zT rfl] at hq;have hg:goC t now (n+1) p=goC t now n (adv (bD t p)):=by
     show (if _ then _ else _)=_;rw [hb,hc];rfl
    rw [hg,hc,cX hq];obtain ⟨a1,a2⟩:=bBr (p:=bD t p) (by rw [e2];exact h0) hb;obtain ⟨i,j,h1,h2,h3,h4,h5⟩:=iT hh;refine ih (adv (bD t p)) (by rw [aH5,aDb];exact hp) ?_;rw [a1,a2,e4,e5,h1];rw [h1,cEf] at hm;have :((i:Int)+1).toNat=i+1:=by omega
    rw [this];omega
  .have hg:goC t now (n+1) p=(dR t now p,bD t p):=by
    show (if _ then _ else _)=_;rw [show (dR t now p==0)=false from by simpa using hc];rfl
   rw [hg];exact ⟨_,bI (hstop _ _ hc),fun h=>absurd h hc⟩
def aMh (p:den tPk):Int:=if p.2.2.2.2.1==0&&p.2.2.2.2.2.1==0 then 0 else pIn (bT p) (dG p)
def bW (t:den tTo) (now:Int) (p:den tPk):Int×den tPk:=goC t now (p.2.2.2.1.length - p.2.2.2.2.1.toNat) p
def fwd (t:den tTo) (r now dead inn:Int) (p:den tPk):Int×Int×den tPk×Int:=
 if !fY p||(!rQ t p.2.2.2.1|| !(dF p==r)) then (2,0,p,0)
 else if !(inn==aMh p) then (3,0,p,0)
 else if !((bW t now p).1==0) then ((bW t now p).1,0,p,0)
 else if hH (bW t now p).2 then (if (bW t now p).2.2.2.1==r then (1,0,(bW t now p).2,0) else (2,0,p,0))
 else if !aK1 t (r,inn,pEg (bT (bW t now p).2) (dG (bW t now p).2)) then (6,0,p,0)
 else if aLd dead (pEg (bT (bW t now p).2) (dG (bW t now p).2)) then (7,0,p,pEg (bT (bW t now p).2) (dG (bW t now p).2))
 else (0,pEg (bT (bW t now p).2) (dG (bW t now p).2),adv (bW t now p).2,pEg (bT (bW t now p).2) (dG (bW t now p).2))
def fwI (v:Int×Int×den tPk×Int):Int×Int×q22:=
 (v.1,v.2.1,v.2.2.1.1,v.2.2.1.2.1,v.2.2.1.2.2.1,v.2.2.1.2.2.2.1,v.2.2.1.2.2.2.2.1,v.2.2.1.2.2.2.2.2.1,v.2.2.1.2.2.2.2.2.2.1,v.2.2.1.2.2.2.2.2.2.2.1,v.2.2.1.2.2.2.2.2.2.2.2.1,v.2.2.1.2.2.2.2.2.2.2.2.2,v.2.2.2)
def fwS (v:Int×Int×den tPk×Int):Int×Int×q3:=(v.1,v.2.1,pkR v.2.2.1)
theorem aH0 {t:den tTo} {now:Int}: ∀ (n:Nat) (p:den tPk),(goC t now n p).1=0->cQ (goC t now n p).2=true/\0<=dF (goC t now n p).2/\tot tPk (goC t now n p).2=tot tPk p
 | 0,p,h=>by
  obtain ⟨h1,h2⟩:=aCt (show dR t now p=0 from h);obtain ⟨e1,e2,_⟩:=aMn t p;exact ⟨e1.trans h1,by rw [show (goC t now 0 p).2=bD t p from rfl,e2];exact h2,aDb t p⟩
 | n+1,p,h=>by
  unfold goC at h ⊢;split at h
  .rename_i hc;rw [zT hc];obtain ⟨h1,h2,h3⟩:=aH0 n _ h;exact ⟨h1,h2,by rw [h3,aH5,aDb]⟩
  .rename_i hc;rw [zS hc];obtain ⟨h1,h2⟩:=aCt (show dR t now p=0 from h);obtain ⟨e1,e2,_⟩:=aMn t p;exact ⟨e1.trans h1,by rw [show (dR t now p,bD t p).2=bD t p from rfl,e2];exact h2,aDb t p⟩
def aBq (t:den tTo) (now:Int) (p:den tPk):den tPk:=if dR t now p=0 then bD t p else p
def aEp (p:den tPk) (c:Int):q22:=(p.1,p.2.1,p.2.2.1,p.2.2.2.1,p.2.2.2.2.1,p.2.2.2.2.2.1,p.2.2.2.2.2.2.1,p.2.2.2.2.2.2.2.1,p.2.2.2.2.2.2.2.2.1,p.2.2.2.2.2.2.2.2.2,c)
def aF3 (p:den tPk) (c:Int):Int×q3:=(p.1,p.2.1,p.2.2.1,p.2.2.2.2.1,p.2.2.2.2.2.1,p.2.2.2.2.2.2.1,p.2.2.2.2.2.2.2.1,p.2.2.2.2.2.2.2.2.1,c,p.2.2.2.1,p.2.2.2.2.2.2.2.2.2)
theorem bUh {t:den tTo} {now:Int} {p:den tPk} (ht:t.1.length<=68719476736) (h:tot tPk p<=34359738368):mX t now p=some (aEp (aBq t now p) (dR t now p)):=by
 unfold mX aI pj2 aL zz4 zz5 zz6 zz7 zz8 zz9;simp only [aP,bYh ht (gY h),aA];unfold aBq dR;cases c:aFe t p
 .simp only [pG,cEm,zZ,cEg,zU];rfl
 .have hs:tot tPk (bD t p)<=34359738368:=by rw [aDb];exact h
  have key:iB ((pG (bD t p) true).1,(pG (bD t p) true).2.1,(pG (bD t p) true).2.2.1,(pG (bD t p) true).2.2.2.2.2.2.2.2.2.1,(pG (bD t p) true).2.2.2.1,(pG (bD t p) true).2.2.2.2.1,(pG (bD t p) true).2.2.2.2.2.1,(pG (bD t p) true).2.2.2.2.2.2.1,(pG (bD t p) true).2.2.2.2.2.2.2.1,(pG (bD t p) true).2.2.2.2.2.2.2.2.2.2) now=some (aDk p now):=by
   rw [<- bCq t p now];exact bNz (gY hs)
  rw [key];simp only [pG,cEc,zY,aA,zV];cases aDk p now
  .simp only [cEm,zZ,cEg,zU];rfl
  .simp only [cEc,zY,zV];rfl
theorem bSj {t:den tTo} {now:Int} {p:den tPk} (ht:t.1.length<=68719476736) (h:tot tPk p<=34359738368):qE t now p=some (aF3 (bD t p) (dR t now p)):=by
 unfold qE aI pj2 zz4 zz5 zz6 zz7 zz8 zz9;simp only [aP,bZb ht (gY h),bPm (gY h),aA];unfold dR;cases c:aFe t p
 .simp only [pG,cEm,zZ,cEg,zU];rfl
 .simp only [pG,cEc,zY,zV];cases aDk p now
  .simp only [cEm,zZ,cEg,zU];rfl
  .simp only [cEc,zY,zV];rfl
theorem aT4 {p:den tPk} (h:fY p=true):cQ p=true:=by
 unfold fY at h;simp only [cEe] at h;exact h.2.2.1
theorem bUd {c:Int} {p:den tPk} (h:tot tPk p<=34359738368):mP c p=some (c,0,p.1,p.2.1,p.2.2.1,p.2.2.2.2.1,p.2.2.2.2.2.1,p.2.2.2.2.2.2.1,p.2.2.2.2.2.2.2.1,p.2.2.2.2.2.2.2.2.1,p.2.2.2.1,p.2.2.2.2.2.2.2.2.2,p.1,p.2.1,p.2.2.1,p.2.2.2.1,p.2.2.2.2.1,p.2.2.2.2.2.1,p.2.2.2.2.2.2.1,p.2.2.2.2.2.2.2.1,p.2.2.2.2.2.2.2.2.1,p.2.2.2.2.2.2.2.2.2):=by
 unfold mP aI zz4 zz5 zz6 zz7 zz8 zz9;simp only [aP,aKt (gY h),aA];rfl
theorem bUb {c:Int} {p:den tPk} (h:tot tPk p<=34359738368):vY c p=some (c,0,pkR p):=by
 unfold vY aI;simp only [aP,aFl (gY h),aA]
theorem aKs {p:den tPk} {N:Nat} (h:tot tPk p<=N):tot tPt p.2.2.2.1<=N:=(aPt h).1
theorem bT0 {t:den tTo} {r now dead inn:Int} {p:den tPk} (ht:t.1.length<=68719476736) (ht2:t.2.length<=68719476736) (h:tot tPk p<=34359738368) (hpp:tot tPt p.2.2.2.1<=1073741824):yP t r now dead inn p=some (fwI (fwd t r now dead inn p)):=by
 unfold yP fwd aI aMg pj2 pj4 aL aU zz4 zz5 zz6 zz7 zz8 zz9;simp only [aP,bBf (gY h),aWs ht ht2 hpp,aIa (gY h),aA,aI3,bUd h];cases cv:fY p
 .simp only [cEm,cGi,zZ,aA,zV];rfl
 .cases cs:rQ t p.2.2.2.1
  .simp only [cEc,cEm,cGi,cGj,zZ,zY,aA,zV];rfl
  .cases cr:dF p==r
   .simp only [cEc,cEm,cGi,cGj,zZ,zY,aA,zV];rfl
   .simp only [cEc,cF0,zY,aA,cEg,zU];obtain ⟨i,j,h1,h2,h3,h4,h5⟩:=iT (aT4 cv);have hl:=aB0 (gY h) h3;have hw:(@Option.bind Bool Int (cond (p.2.2.2.2.1==(0:Int)) (some (p.2.2.2.2.2.1==(0:Int))) (some false)) fun (s8:Bool)=>cond s8 (some (0:Int)) (some (pIn (bT p) (dG p))))=some (aMh p):=by
     unfold aMh;cases p.2.2.2.2.1==0<;>cases p.2.2.2.2.2.1==0<;>rfl
    have hp1:idx p.2.2.2.1 p.2.2.2.2.1=some (bT p):=by rw [h1,aH];exact h3
    have hp2:gE (bT p) p.2.2.2.2.2.1=some (pIn (bT p) (dG p)):=by rw [h2];exact bFu h4 hl
    rw [hp1,aA,hp2,aA,hw,aA];cases ci:inn==aMh p
    .simp only [cEm,zZ,zV,aA];rfl
    .simp only [cEc,zY,cEg,zU,aKt (gY h),aA];have hc:mX t now ((pkR p).1,(pkR p).2.1,(pkR p).2.2.1,(pkR p).2.2.2.2.2.2.2.2.1,(pkR p).2.2.2.1,(pkR p).2.2.2.2.1,(pkR p).2.2.2.2.2.1,(pkR p).2.2.2.2.2.2.1,(pkR p).2.2.2.2.2.2.2.1,(pkR p).2.2.2.2.2.2.2.2.2)=some (aEp (aBq t now p) (dR t now p)):=bUh ht h;rw [hc];simp only [aA,aT,bF,aX,aY,bA];obtain ⟨q,hq1,hq2⟩:=bDj (t:=t) (now:=now) (S:=Int×den tPk) (R:=Int×den tPk) (fun c p=>(c,p)) id (step:=fun s23=> @Option.bind Bool _ (cond (s23.1==(0:Int)) (Option.bind (iU s23.2) fun y24=>cond y24 (Option.bind (mL s23.2) fun y25=>some (!y25)) (some false)) (some false)) fun (s26:Bool)=>cond s26 (Option.bind (oK s23.2) fun y27=>Option.bind (mX t now (y27.1,y27.2.1,y27.2.2.1,y27.2.2.2.2.2.2.2.2.1,y27.2.2.2.1,y27.2.2.2.2.1,y27.2.2.2.2.2.1,y27.2.2.2.2.2.2.1,y27.2.2.2.2.2.2.2.1,y27.2.2.2.2.2.2.2.2.2)) fun y28=>some (cD9 (y28.2.2.2.2.2.2.2.2.2.2,y28.1,y28.2.1,y28.2.2.1,y28.2.2.2.1,y28.2.2.2.2.1,y28.2.2.2.2.2.1,y28.2.2.2.2.2.2.1,y28.2.2.2.2.2.2.2.1,y28.2.2.2.2.2.2.2.2.1,y28.2.2.2.2.2.2.2.2.2.1))) (some (cD8 s23))) (aBq t now) (fun p hp=>zT hp) (fun c p hc=>by
       have :(c==0)=false:=by simpa using hc
       simp only [this,zY,aA,id]) (fun q hq hh h0=>by
       have e:mX t now ((pkR (adv q)).1,(pkR (adv q)).2.1,(pkR (adv q)).2.2.1,(pkR (adv q)).2.2.2.2.2.2.2.2.1,(pkR (adv q)).2.2.2.1,(pkR (adv q)).2.2.2.2.1,(pkR (adv q)).2.2.2.2.2.1,(pkR (adv q)).2.2.2.2.2.2.1,(pkR (adv q)).2.2.2.2.2.2.2.1,(pkR (adv q)).2.2.2.2.2.2.2.2.2)=some (aEp (aBq t now (adv q)) (dR t now (adv q))):=bUh (p:=adv q) ht (by rw [aH5];exact hq);simp only [beq_self_eq_true,zZ,aRc (gY hq) hh,aQ8 (gY hq),bUk (gY hq),aA,e];cases eB q<;>cases hH q<;>rfl) _ p h (cEr _)
     have hq1:aC _ (dR t now p,aBq t now p)=some ((bW t now p).1,q):=hq1;have hq2:(bW t now p).1=0->q=(bW t now p).2:=hq2;have e0:(((aEp (aBq t now p) (dR t now p)).2.2.2.2.2.2.2.2.2.2,(aEp (aBq t now p) (dR t now p)).1,(aEp (aBq t now p) (dR t now p)).2.1,(aEp (aBq t now p) (dR t now p)).2.2.1,(aEp (aBq t now p) (dR t now p)).2.2.2.1,(aEp (aBq t now p) (dR t now p)).2.2.2.2.1,(aEp (aBq t now p) (dR t now p)).2.2.2.2.2.1,(aEp (aBq t now p) (dR t now p)).2.2.2.2.2.2.1,(aEp (aBq t now p) (dR t now p)).2.2.2.2.2.2.2.1,(aEp (aBq t now p) (dR t now p)).2.2.2.2.2.2.2.2.1,(aEp (aBq t now p) (dR t now p)).2.2.2.2.2.2.2.2.2.1):Int×den tPk)=(dR t now p,aBq t now p):=rfl;rw [e0,hq1,aA]
     by_cases hz:(bW t now p).1=0
     .have hqq:=hq2 hz;subst hqq;obtain ⟨g1,g2,g3⟩:=aH0 _ p hz;have g1:cQ (bW t now p).2=true:=g1;have g2:0<=dF (bW t now p).2:=g2;have g3:tot tPk (bW t now p).2=tot tPk p:=g3;have hg:tot tPk (bW t now p).2<=34359738368:=by rw [g3];exact h
      obtain ⟨i',j',k1,k2,k3,k4,k5⟩:=iT g1;have hl':=aB0 (gY hg) k3;have q1:idx (bW t now p).2.2.2.2.1 (bW t now p).2.2.2.2.2.1=some (bT (bW t now p).2):=by rw [k1,aH];exact k3
      have q2:gP (bT (bW t now p).2) (bW t now p).2.2.2.2.2.2.1=some (pEg (bT (bW t now p).2) (dG (bW t now p).2)):=by rw [k2];exact bH8 k4 hl'
      simp only [hz,beq_self_eq_true,cEc,zY,cEg,zU,aQ8 (gY hg),aA];cases ca:hH (bW t now p).2
      .simp only [zY,cEg,zU,q1,q2,aA,bWe ht2,bXj];cases aK1 t (r,inn,pEg (bT (bW t now p).2) (dG (bW t now p).2))
       .simp only [cEm,zZ,zV];rfl
       .simp only [cEc,zY,cEg,zU];cases aLd dead (pEg (bT (bW t now p).2) (dG (bW t now p).2))
        .simp only [zY,cEg,zU,bUk (gY hg),aA];rfl
        .simp only [zZ,zV];rfl
      .simp only [zZ,zV];cases (bW t now p).2.2.2.1==r
       .simp only [cEm,zZ,cEg,zU];rfl
       .simp only [cEc,zY,zV];rfl
     .have hz':((bW t now p).1==0)=false:=by simpa using hz
      simp only [hz',cEm,zZ,zV,bUd h,aA];rfl
def aOu (c:Int) (p:den tPk):Int×q3:=(c,p.1,p.2.1,p.2.2.1,p.2.2.2.2.1,p.2.2.2.2.2.1,p.2.2.2.2.2.2.1,p.2.2.2.2.2.2.2.1,p.2.2.2.2.2.2.2.2.1,p.2.2.2.1,p.2.2.2.2.2.2.2.2.2)
theorem aZf {q:den tPk} (hh:cQ q=true) (h0:0<=dF q):(eB q&&decide (q.2.2.2.2.1<(q.2.2.2.1.length:Int) - 1))=(eB q&& !hH q):=by
 obtain ⟨i,j,h1,h2,h3,h4,h5⟩:=iT hh;have hlt:=(cEj.1 h3).1;unfold hH aIr;rw [zX (p:=dF q>=0) h0,h1];have key:decide ((i:Int)<(q.2.2.2.1.length:Int) - 1)= !((i:Int)==(q.2.2.2.1.length:Int) - 1):=by
  rw [cEz];simp only [zR,cFg,beq_eq_false_iff_ne,ne_eq];omega
 rw [key];cases eB q<;>simp
theorem bTl {t:den tTo} {r now dead inn:Int} {p:den tPk} (ht:t.1.length<=68719476736) (ht2:t.2.length<=68719476736) (h:tot tPk p<=34359738368) (hpp:tot tPt p.2.2.2.1<=1073741824):vJ t r now dead inn p=some (fwS (fwd t r now dead inn p)):=by
 unfold vJ fwd ixb aI aMg aE6 pj2 pj4 aL zz4 zz5 zz6 zz7 zz8 zz9;simp only [aP,bAi (gY h),aX0 ht ht2 hpp,aH9 (gY h),aA,aI3,bUb h];cases cv:fY p
 .simp only [cEm,cGi,zZ,aA,zV];rfl
 .cases cs:rQ t p.2.2.2.1
  .simp only [cEc,cEm,cGi,cGj,zZ,zY,aA,zV];rfl
  .cases cr:dF p==r
   .simp only [cEc,cEm,cGi,cGj,zZ,zY,aA,zV];rfl
   .simp only [cEc,cF0,zY,aA,cEg,zU];obtain ⟨i,j,h1,h2,h3,h4,h5⟩:=iT (aT4 cv);have hl:=aB0 (gY h) h3;have hw:(@Option.bind Bool Int (cond (p.2.2.2.2.1==(0:Int)) (some (p.2.2.2.2.2.1==(0:Int))) (some false)) fun (s8:Bool)=>cond s8 (some (0:Int)) (some (pIn (bT p) (dG p))))=some (aMh p):=by
     unfold aMh;cases p.2.2.2.2.1==0<;>cases p.2.2.2.2.2.1==0<;>rfl
    have hp1:idx p.2.2.2.1 p.2.2.2.2.1=some (bT p):=by rw [h1,aH];exact h3
    have hp2:fL (bT p) p.2.2.2.2.2.1=some (pIn (bT p) (dG p)):=by rw [h2];exact bG6 h4 hl
    rw [hp1,aA,hp2,aA,hw,aA];cases ci:inn==aMh p
    .simp only [cEm,zZ,zV,aA];rfl
    .simp only [cEc,zY,cEg,zU,bSj ht h,aA];obtain ⟨q,hq1,hq2⟩:=bDj (t:=t) (now:=now) aOu id (step:=fun s17=> @Option.bind Bool _ (cond (s17.1==(0:Int)) (cond (decide ((0:Int)<=s17.2.2.2.2.1)) (cond (decide (s17.2.2.2.2.1<(s17.2.2.2.2.2.2.2.2.2.1.length:Int))) (Option.bind s17.2.2.2.2.2.2.2.2.2.1[s17.2.2.2.2.1.toNat]? fun x18=>cond (s17.2.2.2.2.2.1==(wr ((x18.2.2.2.length:Int) - (1:Int)))) (some (decide (s17.2.2.2.2.1<(wr ((s17.2.2.2.2.2.2.2.2.2.1.length:Int) - (1:Int)))))) (some false)) none) none) (some false)) fun (s19:Bool)=>cond s19 (Option.bind (iK (s17.2.1,s17.2.2.1,s17.2.2.2.1,s17.2.2.2.2.2.2.2.2.2.1,s17.2.2.2.2.1,s17.2.2.2.2.2.1,s17.2.2.2.2.2.2.1,s17.2.2.2.2.2.2.2.1,s17.2.2.2.2.2.2.2.2.1,s17.2.2.2.2.2.2.2.2.2.2)) fun y20=>Option.bind (qE t now (y20.1,y20.2.1,y20.2.2.1,y20.2.2.2.2.2.2.2.2.1,y20.2.2.2.1,y20.2.2.2.2.1,y20.2.2.2.2.2.1,y20.2.2.2.2.2.2.1,y20.2.2.2.2.2.2.2.1,y20.2.2.2.2.2.2.2.2.2)) fun y21=>some (cD9 (y21.2.2.2.2.2.2.2.2.1,y21.1,y21.2.1,y21.2.2.1,y21.2.2.2.1,y21.2.2.2.2.1,y21.2.2.2.2.2.1,y21.2.2.2.2.2.2.1,y21.2.2.2.2.2.2.2.1,y21.2.2.2.2.2.2.2.2.2.1,y21.2.2.2.2.2.2.2.2.2.2))) (some (cD8 s17))) (bD t) (fun p hp=>rfl) (fun c p hc=>by
       have :(c==0)=false:=by simpa using hc
       simp only [aOu,this,zY,aA,id]) (fun q hq hh h0=>by
       have e:qE t now ((pkR (adv q)).1,(pkR (adv q)).2.1,(pkR (adv q)).2.2.1,(pkR (adv q)).2.2.2.2.2.2.2.2.1,(pkR (adv q)).2.2.2.1,(pkR (adv q)).2.2.2.2.1,(pkR (adv q)).2.2.2.2.2.1,(pkR (adv q)).2.2.2.2.2.2.1,(pkR (adv q)).2.2.2.2.2.2.2.1,(pkR (adv q)).2.2.2.2.2.2.2.2.2)=some (aF3 (bD t (adv q)) (dR t now (adv q))):=bSj (p:=adv q) ht (by rw [aH5];exact hq);obtain ⟨i',j',k1,k2,k3,k4,k5⟩:=iT hh;have hlt:=(cEj.1 k3).1;have l1:cEo q.2.2.2.1<=68719476736:=(gY hq).2.2.2.1.1;have hm:=aZf hh h0;simp only [aOu,beq_self_eq_true,zZ,aP,bIl (gY hq),aA,e];rw [<- hm];have hd:decide ((i':Int)<(q.2.2.2.1.length:Int))=true:=zX (by omega);simp only [k1,bS,hd,zZ,cEf,k3,aA,fU (aB0 (gY hq) k3),fU l1];unfold eB;cases q.2.2.2.2.2.1==((bT q).2.2.2.length:Int) - 1<;>cases decide ((i':Int)<(q.2.2.2.1.length:Int) - 1)<;>rfl) _ p h (cEr _)
     have hq1:aC _ (aOu (dR t now p) (bD t p))=some (aOu (bW t now p).1 q):=hq1;have hq2:(bW t now p).1=0->q=(bW t now p).2:=hq2;have e0:(((aF3 (bD t p) (dR t now p)).2.2.2.2.2.2.2.2.1,(aF3 (bD t p) (dR t now p)).1,(aF3 (bD t p) (dR t now p)).2.1,(aF3 (bD t p) (dR t now p)).2.2.1,(aF3 (bD t p) (dR t now p)).2.2.2.1,(aF3 (bD t p) (dR t now p)).2.2.2.2.1,(aF3 (bD t p) (dR t now p)).2.2.2.2.2.1,(aF3 (bD t p) (dR t now p)).2.2.2.2.2.2.1,(aF3 (bD t p) (dR t now p)).2.2.2.2.2.2.2.1,(aF3 (bD t p) (dR t now p)).2.2.2.2.2.2.2.2.2.1,(aF3 (bD t p) (dR t now p)).2.2.2.2.2.2.2.2.2.2))=aOu (dR t now p) (bD t p):=rfl;rw [e0,hq1,aA]
     by_cases hz:(bW t now p).1=0
     .have hqq:=hq2 hz;subst hqq;obtain ⟨g1,g2,g3⟩:=aH0 _ p hz;have g1:cQ (bW t now p).2=true:=g1;have g2:0<=dF (bW t now p).2:=g2;have g3:tot tPk (bW t now p).2=tot tPk p:=g3;have hg:tot tPk (bW t now p).2<=34359738368:=by rw [g3];exact h
      obtain ⟨i',j',k1,k2,k3,k4,k5⟩:=iT g1;have hlt:=(cEj.1 k3).1;have hl':=aB0 (gY hg) k3;have q2:dV (bT (bW t now p).2) (bW t now p).2.2.2.2.2.2.1=some (pEg (bT (bW t now p).2) (dG (bW t now p).2)):=by rw [k2];exact aYb k4 hl'
      simp only [aOu,aP,hz,beq_self_eq_true,cEc,zY,cEg,zU,aZp (gY hg),aA];cases ca:hH (bW t now p).2
      .simp only [zY,aA,cEg,zU];have hd:decide ((i':Int)<((bW t now p).2.2.2.2.1.length:Int))=true:=zX (by omega);simp only [k1,bS,hd,zZ,cEf,k3,aA,q2,bVt ht2,bW3];cases aK1 t (r,inn,pEg (bT (bW t now p).2) (dG (bW t now p).2))
       .simp only [cEm,zZ,zV];rfl
       .simp only [cEc,zY,cEg,zU];cases aLd dead (pEg (bT (bW t now p).2) (dG (bW t now p).2))
        .simp only [zY,cEg,zU,bIl (gY hg),aA];rfl
        .simp only [zZ,zV];rfl
      .simp only [zZ,aA];cases (bW t now p).2.2.2.1==r
       .simp only [zY,zZ,cEg,zU,zV];rfl
       .simp only [zZ,zV];rfl
     .have hz':((bW t now p).1==0)=false:=by simpa using hz
      simp only [aOu,hz',cEm,zZ,zV,bUb h,aA];rfl
theorem aO7 (t:den tTo) (r now dead inn:Int) (p:den tPk):tot tPk (fwd t r now dead inn p).2.2.1=tot tPk p:=by
 unfold fwd;split
 .rfl
 .split
  .rfl
  .split
   .rfl
   .rename_i hz;have hz:(bW t now p).1=0:=by simpa using hz
    obtain ⟨_,_,g3⟩:=aH0 _ p hz;have g3:tot tPk (bW t now p).2=tot tPk p:=g3;split
    .split
     .exact g3
     .rfl
    .split
     .rfl
     .split
      .rfl
      .show tot tPk (adv (bW t now p).2)=_;rw [aH5];exact g3
def cU (t:den tTo) (now:Int) (dead:List Int) (r inn:Int) (p:den tPk):Int×Int×den tPk×Int:=fwd t r now (wN t dead r) inn p
abbrev nT (w:den tNw):den tTo:=w.1
abbrev nK (w:den tNw):den tDb:=w.2.1
abbrev nG (w:den tNw):den tSc:=w.2.2.1
abbrev aN (w:den tNw):Int:=w.2.2.2.1
abbrev aK (w:den tNw):List Int:=w.2.2.2.2.1
abbrev aR (w:den tNw):lFy:=w.2.2.2.2.2.1
abbrev aD (w:den tNw):lFl:=w.2.2.2.2.2.2.1
abbrev bH (w:den tNw):lIb:=w.2.2.2.2.2.2.2.1
abbrev cO (w:den tNw):Int:=w.2.2.2.2.2.2.2.2
def aNv (w:den tNw):q45:=
 ((nG w).1,aN w,cO w,(nT w).1,(nT w).2,(nK w).1,(nK w).2,(nG w).2.1,(nG w).2.2,aK w,aR w,aD w,bH w)
theorem bLu {l:lRs} (h:l.length<=68719476736):fG l=some l:=by
 unfold fG;rw [aE (n:=([]:lRs).length) (by decide) (by simpa using h)];rfl
theorem bF3 {g:den tSc} (h:SmB 68719476736 tSc g):fM g=some g:=by
 unfold fM;rw [bLu h.2.1.1,aA,aE (n:=([]:lUs).length) (by decide) (by simpa using h.2.2.1)];rfl
theorem bJc {g:den tSc} (h:SmB 68719476736 tSc g):jL g=some g:=by
 unfold jL pj3;rw [aE (b:=40) (n:=([]:lRs).length) (by decide) (by simpa using h.2.1.1),aE (b:=32) (n:=([]:lUs).length) (by decide) (by simpa using h.2.2.1)];simp only [aT,bF,aX,aY,bA,zZ,aA,cEx]
theorem aM7 (f:den tFl):(((qA f).1,(qA f).2.1,(qA f).2.2.1,(qA f).2.2.2.1,(qA f).2.2.2.2.2.2.1,(qA f).2.2.2.2.2.2.2.1,(qA f).2.2.2.2.1,(qA f).2.2.2.2.2.1,(qA f).2.2.2.2.2.2.2.2):den tFl)=f:=rfl
theorem bFj (p:den tPk):(((pkR p).1,(pkR p).2.1,(pkR p).2.2.1,(pkR p).2.2.2.2.2.2.2.2.1,(pkR p).2.2.2.1,(pkR p).2.2.2.2.1,(pkR p).2.2.2.2.2.1,(pkR p).2.2.2.2.2.2.1,(pkR p).2.2.2.2.2.2.2.1,(pkR p).2.2.2.2.2.2.2.2.2):den tPk)=p:=rfl
theorem bM0 {x:den tFy} (h:SmB 68719476736 tFy x):SmB 68719476736 tPk x.2.2:=h.2.2
theorem bE0 {w:den tNw} (h:SmB 68719476736 tNw w):jY w=some (aNv w):=by
 obtain ⟨hT,hK,hG,_,hD,hY,hF,hX,_⟩:=h;unfold jY rU aI pj2 pj3 pj4 pj9 zz4 zz5 zz6 zz7 zz8 zz9;simp only [aP,bVb hT,aZa hK.1,aZa hK.2,bF3 hG,bE2 hD.1,aA];rw [(wL (fun k (a:lFy)=>((k:Int),(nG w).1,aN w,cO w,a)) ((0:Int),(nG w).1,aN w,cO w,[]) [] (aR w) (fun _ x a=>a++[x]) cEo (fun _=>1) 68719476736 (fun a=>((nG w).1,aN w,cO w,a)) rfl (cEa hY.1 (by decide)) (by rw [dS];simpa using hY.1) (fun k x a hi hx hd hw hk hb=>by
  have e:=bM0 (hY.2 x (cEn hx));simp only [hd,hi,hw,zZ,aA,aP,aKt e,bFj,aE (b:=128) (n:=a.length) (m:=1) (by decide) hb];exact ⟨rfl,by simp⟩) (fun a=>by simp)).1,fV (fun x=>x)]
 simp only [aA];rw [(wL (fun k (a:lFl)=>((k:Int),(nG w).1,aN w,cO w,a)) ((0:Int),(nG w).1,aN w,cO w,[]) [] (aD w) (fun _ x a=>a++[x]) cEo (fun _=>1) 68719476736 (fun a=>((nG w).1,aN w,cO w,a)) rfl (cEa hF.1 (by decide)) (by rw [dS];simpa using hF.1) (fun k x a hi hx hd hw hk hb=>by
  have e:=hF.2 x (cEn hx);simp only [hd,hi,hw,zZ,aA,aP,aHu e,aM7,aE (b:=120) (n:=a.length) (m:=1) (by decide) hb];exact ⟨rfl,by simp⟩) (fun a=>by simp)).1,fV (fun x=>x)]
 simp only [aA];rw [(wL (fun k (a:lIb)=>((k:Int),(nG w).1,aN w,cO w,a)) ((0:Int),(nG w).1,aN w,cO w,[]) [] (bH w) (fun _ x a=>a++[x]) cEo (fun _=>1) 68719476736 (fun a=>((nG w).1,aN w,cO w,a)) rfl (cEa hX.1 (by decide)) (by rw [dS];simpa using hX.1) (fun k x a hi hx hd hw hk hb=>by
  have e:=hX.2 x (cEn hx);simp only [hd,hi,hw,zZ,aA,aP,bEm e,aE (b:=48) (n:=a.length) (m:=1) (by decide) hb];simp) (fun a=>by simp)).1,fV (fun x=>x)]
 simp only [aA,cEx,List.map_id'];rfl
theorem cBo {l:lFy} (h:SmB 68719476736 (.sl tFy) l):wB l=some l:=by
 unfold wB aI zz4 zz5 zz6 zz7 zz8 zz9;rw [(wL (fun k (a:lFy)=>((k:Int),a)) ((0:Int),[]) [] l (fun _ x a=>a++[x]) cEo (fun _=>1) 68719476736 id rfl (cEa h.1 (by decide)) (by rw [dS];simpa using h.1) (fun k x a hi hx hd hw hk hb=>by
  have e:=bM0 (h.2 x (cEn hx));simp only [hd,hi,hw,zZ,aA,aP,aFl e,bFj,aE (b:=128) (n:=a.length) (m:=1) (by decide) hb];exact ⟨rfl,by simp⟩) (fun a=>by simp)).1,fV (fun x=>x)]
 simp
theorem bWl {l:lFl} (h:SmB 68719476736 (.sl tFl) l):qQ l=some l:=by
 unfold qQ pj9 zz4 zz5 zz6 zz7 zz8;rw [(wL (fun k (a:lFl)=>((k:Int),a)) ((0:Int),[]) [] l (fun _ x a=>a++[x]) cEo (fun _=>1) 68719476736 id rfl (cEa h.1 (by decide)) (by rw [dS];simpa using h.1) (fun k x a hi hx hd hw hk hb=>by
  have e:=h.2 x (cEn hx);simp only [hd,hi,hw,zZ,aA,aP,aFw e,aM7,aE (b:=120) (n:=a.length) (m:=1) (by decide) hb];exact ⟨rfl,by simp⟩) (fun a=>by simp)).1,fV (fun x=>x)]
 simp
theorem bV2 {l:lIb} (h:SmB 68719476736 (.sl tIb) l):qJ l=some l:=by
 unfold qJ pj4;rw [(wL (fun k (a:lIb)=>((k:Int),a)) ((0:Int),[]) [] l (fun _ x a=>a++[x]) cEo (fun _=>1) 68719476736 id rfl (cEa h.1 (by decide)) (by rw [dS];simpa using h.1) (fun k x a hi hx hd hw hk hb=>by
  have e:=h.2 x (cEn hx);simp only [hd,hi,hw,zZ,aA,aP,bE4 e,aE (b:=48) (n:=a.length) (m:=1) (by decide) hb];simp) (fun a=>by simp)).1,fV (fun x=>x)]
 simp
theorem aUt {w:den tNw} (h:SmB 68719476736 tNw w):nO w=some (aNv w):=by
 obtain ⟨hT,hK,hG,_,hD,hY,hF,hX,_⟩:=h;unfold nO pj2 pj3 aL zz4 zz5 zz6 zz7 zz8 zz9;simp only [aP,bE8 hT,aFy hK.1,aFy hK.2,bJc hG,cBo hY,bWl hF,bV2 hX,aA,aE (b:=8) (n:=([]:List Int).length) (m:=w.2.2.2.2.1.length) (by decide) (by simpa using hD.1),zZ,aT,bF,aX,aY,bA,cEx];rfl
def cB (w:den tNw):q1:=
 (aR w,aD w,bH w,(nT w).1,(nT w).2,(nK w).1,(nK w).2,(nG w).1,(nG w).2.1,(nG w).2.2,aN w,aK w,cO w)
def dI (w:den tNw) (l:lFl):den tNw:=(nT w,nK w,nG w,aN w,aK w,aR w,l,bH w,cO w)
def tX (r:Int) (p:den tPk) (f:den tFl):den tFl:=if f.1==r then (if p.1==2 then yJ f p else aBv f p) else f
def xF (w:den tNw) (r:Int) (p:den tPk):den tNw:=dI w ((aD w).map (tX r p))
def fP (p:den tPk):Prop:= ∀ x∈p.2.2.2.2.2.2.2.2.2,0<=x/\x<=255
theorem aVv {α S R:Type} (enc:Nat->List α->S) (l:List α) (g:α->α) (out:List α->R) {step:S->Option (S⊕R)} (hl:l.length<=4611686018427387904)
  (h: ∀ (k:Nat) (x:α) (a:List α),a.length=l.length->a[k]? =some x->x∈l->k<l.length->decide ((k:Int)<(l.length:Int))=true->IntKind.i64.wrap ((k:Int)+1)=((k+1:Nat):Int)->step (enc k a)=some (.inl (enc (k+1) (a.set k (g x)))))
  (he: ∀ a,a.length=l.length->step (enc l.length a)=some (.inr (out a))):aC step (enc 0 l)=some (out (l.map g)):=by
 have key: ∀ (rest pre:List α),pre++rest=l->aC step (enc pre.length (pre.map g++rest))=some (out (l.map g)):=by
  intro rest
  induction rest with
  | nil=>
   intro pre hp;rw [cFe] at hp;subst hp;rw [cFe];exact bI (he _ (by simp))
  | cons x rest ih=>
   intro pre hp;have hlt:pre.length<l.length:=by rw [<- hp];simp
   have hx:(pre.map g++x::rest)[pre.length]? =some x:=by simp
   have hlen:(pre.map g++x::rest).length=l.length:=by rw [<- hp];simp
   rw [cX (h pre.length x _ hlen hx (by rw [<- hp];simp) hlt (by simpa using hlt) (by rw [wri (by omega) (by omega)];omega))];have hs:(pre.map g++x::rest).set pre.length (g x)=(pre++[x]).map g++rest:=by
    rw [List.set_append_right _ _ (by simp)];simp
   rw [hs];have :=ih (pre++[x]) (by simpa using hp);simpa using this
 exact key l [] rfl
theorem aLb {α:Type} {a:List α} {k:Nat} {x:α} (h:a[k]? =some x):a.set k x=a:=by
 obtain ⟨hlt,hx⟩:=cEj.1 h;rw [<- hx];exact List.set_getElem_self hlt
theorem aWb {f:den tFl} (h:tot tFl f<=1073741824):SmB 68719476736 tFl f:=(bC h).mono (by decide)
theorem aP0 {α:Type} {a:List α} {k n:Nat} (h:a.length=n) (hk:k<n):decide ((k:Int)<(a.length:Int))=true/\decide (k<a.length)=true:=by
 constructor<;>simp<;>omega
theorem aVp {w:den tNw} {r:Int} {p:den tPk} (hF: ∀ f∈aD w,tot tFl f<=1073741824) (hl:(aD w).length<=1073741824) (hp:tot tPk p<=1073741824) (hb:fP p):iO w r p=some (cB (xF w r p)):=by
 unfold iO ixb aI pj9 zz4 zz5 zz6 zz7 zz8;refine aVv (fun k (a:lFl)=>((k:Int),a)) (aD w) (tX r p) (fun l=>cB (dI w l)) (cEa hl (by decide)) (fun k f a ha hx hm hk hd hw=> ?_) (fun a ha=> ?_)
 .obtain ⟨d1,d2⟩:=aP0 ha hk;have hd:decide ((k:Int)<(w.2.2.2.2.2.2.1.length:Int))=true:=hd;simp only [hd,d1,d2,bS,cEf,hx,zZ,aA,aP,aI3,bXi (aWb (hF f hm)),bXb (hF f hm) hp hb,aM7,hw];unfold tX;cases f.1==r
  .simp only [cEm,zZ,cEg,zU,aA,aLb hx]
  .simp only [cEc,zY,zV];cases p.1==2<;>rfl
 .simp;rfl
theorem aVb {w:den tNw} {r:Int} {p:den tPk} (hk3:(p.1==2)=false) (hF: ∀ f∈aD w,tot tFl f<=1073741824) (hl:(aD w).length<=1073741824) (hp:tot tPk p<=1073741824) (hb:fP p):pC w r p=some (cB (xF w r p)):=by
 unfold pC ixb aI pj9 zz4 zz5 zz6 zz7 zz8;refine aVv (fun k (a:lFl)=>((k:Int),a)) (aD w) (tX r p) (fun l=>cB (dI w l)) (cEa hl (by decide)) (fun k f a ha hx hm hk hd hw=> ?_) (fun a ha=> ?_)
 .obtain ⟨d1,d2⟩:=aP0 ha hk;simp only [d1,d2,bS,cEf,hx,zZ,aA,aP,bWr (hF f hm) hp hb,aT,bF,aX,aY,bA,hw];unfold tX;rw [hk3];cases f.1==r
  .simp only [zY,cEg,zU,aA,aLb hx]
  .simp only [zZ,zV,aA,cEg,zU];rfl
 .show cond (decide ((((aD w).length:Nat):Int)<(a.length:Int))) _ _=_;rw [ha,zW (by omega)];rfl
theorem bNd {w:den tNw} {r:Int} {p:den tPk} (hk2:(p.1==2)=true) (hF: ∀ f∈aD w,tot tFl f<=1073741824) (hl:(aD w).length<=1073741824) {step:Int×lFl->Option ((Int×lFl)⊕_)}
  (hs: ∀ (k:Nat) (f:den tFl) (a:lFl),a.length=(aD w).length->a[k]? =some f->f∈aD w->k<(aD w).length->step ((k:Int),a)=some (.inl (((k+1:Nat):Int),a.set k (tX r p f)))) (he: ∀ a,a.length=(aD w).length->step (((aD w).length:Int),a)=some (.inr (cB (dI w a)))):aC step ((0:Int),aD w)=some (cB (xF w r p)):=
 aVv (fun k (a:lFl)=>((k:Int),a)) (aD w) (tX r p) (fun l=>cB (dI w l)) (cEa hl (by decide)) (fun k f a ha hx hm hk hd hw=>hs k f a ha hx hm hk) (fun a ha=>he a ha)
theorem aNs (p:den tPk):goTo p p.2.2.2.2.1 p.2.2.2.2.2.1 p.2.2.2.2.2.2.1=p:=rfl
theorem aJ4 (t:den tTo) (p:den tPk): ∃ b,bD t p=goTo p p.2.2.2.2.1 p.2.2.2.2.2.1 b:=by
 unfold bD;split
 .exact ⟨_,rfl⟩
 .exact ⟨_,(aNs p).symm⟩
theorem aZu (p:den tPk): ∃ i j b,adv p=goTo p i j b:=by
 unfold adv;split
 .exact ⟨_,_,_,(aNs p).symm⟩
 .split<;>exact ⟨_,_,_,rfl⟩
theorem bBv {t:den tTo} {now:Int}: ∀ (n:Nat) (p:den tPk),∃ i j b,(goC t now n p).2=goTo p i j b
 | 0,p=>by obtain ⟨b,hb⟩:=aJ4 t p;exact ⟨_,_,_,hb⟩
 | n+1,p=>by
  obtain ⟨b,hb⟩:=aJ4 t p;unfold goC;split
  .obtain ⟨i,j,c,h1⟩:=bBv (t:=t) (now:=now) n (adv (bD t p));obtain ⟨i',j',c',h2⟩:=aZu (bD t p);rw [h1,h2,hb];exact ⟨_,_,_,rfl⟩
  .exact ⟨_,_,_,hb⟩
theorem aZr (t:den tTo) (r now dead inn:Int) (p:den tPk): ∃ i j b,(fwd t r now dead inn p).2.2.1=goTo p i j b:=by
 obtain ⟨i,j,b,h⟩: ∃ i j b,(bW t now p).2=goTo p i j b:=bBv _ p;unfold fwd
 repeat' split
 all_goals first
  | exact ⟨_,_,_,(aNs p).symm⟩
  | exact ⟨_,_,_,h⟩
  | (obtain ⟨i',j',b',h'⟩:=aZu (bW t now p).2;exact ⟨_,_,_,by rw [show (0,pEg (bT (bW t now p).2) (dG (bW t now p).2),adv (bW t now p).2,pEg (bT (bW t now p).2) (dG (bW t now p).2)).2.2.1=adv (bW t now p).2 from rfl,h',h];rfl⟩)
theorem aGt (t:den tTo) (r now dead inn:Int) (p:den tPk):(fwd t r now dead inn p).2.2.1.1=p.1/\(fwd t r now dead inn p).2.2.1.2.1=p.2.1/\(fwd t r now dead inn p).2.2.1.2.2.2.2.2.2.2.1=p.2.2.2.2.2.2.2.1/\(fwd t r now dead inn p).2.2.1.2.2.2.2.2.2.2.2.2=p.2.2.2.2.2.2.2.2.2:=by
 obtain ⟨i,j,b,h⟩:=aZr t r now dead inn p;rw [h];exact ⟨rfl,rfl,rfl,rfl⟩
theorem aNt {t:den tTo} {r now dead inn:Int} {p:den tPk} (h:((fwd t r now dead inn p).1==2)=false):fY p=true:=by
 cases hv:fY p with
 | true=>rfl
 | false=>
  unfold fwd at h;rw [hv] at h;cases h
def aBy (w:den tNw):den tNw:=(nT w,nK w,nG w,aN w,aK w,aR w,aD w,bH w,wr (cO w+1))
def sC (w:den tNw) (r eg:Int) (p:den tPk):den tNw:=
 if (lC (nG w) p.2.2.2.2.2.2.2.1 r eg (aN w)).2.1&&decide ((aR w).length<150) then
  (nT w,nK w,((lC (nG w) p.2.2.2.2.2.2.2.1 r eg (aN w)).1,(lC (nG w) p.2.2.2.2.2.2.2.1 r eg (aN w)).2.2.1,(lC (nG w) p.2.2.2.2.2.2.2.1 r eg (aN w)).2.2.2),aN w,aK w,aR w++[((remote (nT w) r eg).1,(remote (nT w) r eg).2,p)],aD w,bH w,cO w)
 else aBy w
structure aDq (w:den tNw):Prop where
 as:(nT w).1.length<=68719476736
 links:(nT w).2.length<=1073741824
 dead:(aK w).length<=68719476736
 res:(nG w).2.1.length<=1073741824
 use:(nG w).2.2.length<=1073741824
 flowsN:(aD w).length<=1073741824
 flows: ∀ f∈aD w,tot tFl f<=1073741824
theorem bEu {w:den tNw} {r:Int} {v:den bBc} (h:aDq w):mQ w r v=some (cB (sC w r v.2.1 v.2.2)):=by
 unfold mQ sC aI pj2 pj3 zz4 zz5 zz6 zz7 zz8 zz9;simp only [aP,bVe h.res h.use,aA,aT,bF,aX,aY,bA];have key: ∀ n:Nat,decide ((n:Int)>=150)= !decide (n<150):=fun n=>by rw [cEz];simp only [zR,cFg,decide_eq_false_iff_not];omega
 have h150:decide ((w.2.2.2.2.2.1.length:Int)>=150)= !decide ((aR w).length<150):=key _;rw [h150];cases ct:(lC (nG w) v.2.2.2.2.2.2.2.2.2.1 r v.2.1 (aN w)).2.1
 .simp only [cEm,zZ,aA,cEw,cEg,zU];rfl
 .by_cases hl:(aR w).length<150
  .rw [zX hl];simp only [cEc,zY,aA,Bool.and_self,zV,bB5 (t:=w.1) (cEa h.links (by decide)),aE (b:=128) (n:=w.2.2.2.2.2.1.length) (m:=1) (by decide) (show (aR w).length+1<=_ by omega),zZ];rfl
  .rw [zW hl];simp only [cEc,cEm,zZ,zY,aA,Bool.and_false,cEg,zU];rfl
def proc0 (w:den tNw) (r inn:Int) (p:den tPk):den tNw:=
 if (cU (nT w) (aN w) (aK w) r inn p).1==0 then sC w r (cU (nT w) (aN w) (aK w) r inn p).2.1 (cU (nT w) (aN w) (aK w) r inn p).2.2.1
 else if (cU (nT w) (aN w) (aK w) r inn p).1==1 then xF w r (cU (nT w) (aN w) (aK w) r inn p).2.2.1
 else aBy w
structure aD2 (p:den tPk):Prop where
 sz:tot tPk p<=1073741824
 by_:fP p
theorem aD2.step {p:den tPk} (h:aD2 p) (t:den tTo) (now:Int) (dead:List Int) (r inn:Int):aD2 (cU t now dead r inn p).2.2.1 where
 sz:=by unfold cU;rw [aO7];exact h.sz
 by_:=fun x hx=>h.by_ x (by unfold cU at hx;rwa [(aGt t r now _ inn p).2.2.2] at hx)
theorem aVc {w:den tNw} {r inn:Int} {p:den tPk} (h:aDq w) (hp:aD2 p) (hk:(p.1==1)=false):eP w r inn p=some (cB (proc0 w r inn p)):=by
 have hp2:tot tPt p.2.2.2.1<=1073741824:=aKs hp.sz;have hs:=hp.step (nT w) (aN w) (aK w) r inn;unfold eP cC.b ixb aI jX pj2 pj3 pj4 cZ aL aU aV zz4 zz5 zz6 zz7 zz8 zz9;simp only [aP,bD6 h.links h.dead,bT0 h.as (cEa h.links (by decide)) (cEa hp.sz (by decide)) hp2,aA,aT,bF,aX,aY,bA,hk];rw [show fwd w.1 r w.2.2.2.1 (wN w.1 w.2.2.2.2.1 r) inn p=cU (nT w) (aN w) (aK w) r inn p from rfl];unfold proc0;generalize cU (nT w) (aN w) (aK w) r inn p=v at hs;simp only [fwI,aP];cases c0:v.1==0
 .cases c1:v.1==1
  .cases v.1==7
   .simp only [zY,aA,cEg,zU];rfl
   .simp only [zZ,zY,aA,cEg,zU];rfl
  .simp only [zZ,zY,aA,cEg,zU,zV,aVp h.flows h.flowsN hs.sz hs.by_]
 .simp only [zZ,zV,bEu h,aA]
theorem bAc: ∀ (k n:Nat),n<128 ^ (k+1)-> ∀ x∈vi k n,0<=x/\x<=255
 | 0,n,h,x,hx=>by
  have :x=(n:Int):=by simpa [vi] using hx
  subst this;have :128 ^ (0+1)=128:=rfl;omega
 | k+1,n,h,x,hx=>by
  unfold vi at hx;split at hx
  .have :x=(n:Int):=by simpa using hx
   subst this;omega
  .rcases List.mem_cons.1 hx with rfl | hx
   .omega
   .refine bAc k (n / 128) ?_ x hx;rw [Nat.div_lt_iff_lt_mul (by decide)]
    rwa [<- Nat.pow_succ]
def tO (l:List Int):Prop:= ∀ x∈l,0<=x/\x<=255
theorem bH6 {b:List Int} {n:Int} (h:tO b):tO (aD6 b n):=by
 unfold aD6;split
 .rename_i hr;have :=bQ.1 hr;intro x hx;rcases cEl.1 hx with hx | hx
  .exact h x hx
  .exact bAc 5 n.toNat (by have :128 ^ (5+1)=4398046511104:=rfl;omega) x hx
 .exact h
theorem aTk: ∀ (l b:List Int),tO b->tO (aMr b l)
 | [],b,h=>h
 | x::xs,b,h=>aTk xs (aD6 b x) (bH6 h)
theorem aTm (x:den tRv):tO (aIi x):=by
 unfold aIi;split
 .exact aTk _ _ (fun x hx=>by cases hx)
 .exact fun x hx=>by cases hx
theorem bEf {r now d:Int} {p:den tPk} (h:tot tPk p<=536870912):aD2 (cM r now d p) where
 sz:=by have :=aWp r now d p;omega
 by_:=aTm _
theorem aSi {x:den tIb} {p:den tPk} (h:aD2 p):aD2 (pS x p) where
 sz:=cEa (aWv x p) h.sz
 by_:=by
  unfold pS;split
  .exact fun x hx=>by cases hx
  .exact fun x hx=>by cases hx
theorem bW0 {l:lIb} {a b:Int} (h:l.length<=68719476736):rV l a b=some (kT l a b):=by
 unfold rV kT;rw [aO (l:=l) (fun k x=>if pZ a b x then some (k:Int) else none) (by omega) (fun k x hi hd hw hm hk=>by
  simp only [hd,hi,hw,zZ,aA];unfold pZ;cases x.1==a<;>cases x.2.1==b<;>rfl) (by simp),aN2 (pZ a b)]
 cases l.findIdx? (pZ a b)<;>rfl
theorem aMc (l:lIb) (a b:Int):kT l a b= -1\/ ∃ (k:Nat) (x:den tIb),kT l a b=(k:Int)/\l[k]? =some x:=by
 unfold kT;cases h:l.findIdx? (pZ a b) with
 | none=>exact .inl rfl
 | some i=>
  have hlt:i<l.length:=by
   have :=List.findIdx?_eq_some_iff_findIdx_eq.1 h;exact this.1
  exact .inr ⟨i,l[i],by simp,cEb hlt⟩
def uM (w:den tNw) (i:Nat) (x:den tIb):den tNw:=(nT w,nK w,nG w,aN w,aK w,aR w,aD w,(bH w).set i x,cO w)
def aBt (w:den tNw) (i:Nat):den tIb:=((bH w)[i]?).getD (0,0,0,[])
def aDc (w:den tNw) (r:Int) (p:den tPk):den tNw:=
 if kT (bH w) r p.2.1<0 then w
 else if aFc (eW (aBt w (kT (bH w) r p.2.1).toNat) p) p then
  proc0 (uM w (kT (bH w) r p.2.1).toNat (eW (aBt w (kT (bH w) r p.2.1).toNat) p)) r 0 (pS (eW (aBt w (kT (bH w) r p.2.1).toNat) p) p)
 else uM w (kT (bH w) r p.2.1).toNat (eW (aBt w (kT (bH w) r p.2.1).toNat) p)
def aE2 (w:den tNw) (r d:Int) (p:den tPk):den tNw:=
 aBy (if (gX (uK p)).length>1 then proc0 w r 0 (cM r (aN w) d p) else xF w r (cM r (aN w) d p))
def gW (w:den tNw) (r inn:Int) (p:den tPk):den tNw:=
 if (cU (nT w) (aN w) (aK w) r inn p).1==0 then sC w r (cU (nT w) (aN w) (aK w) r inn p).2.1 (cU (nT w) (aN w) (aK w) r inn p).2.2.1
 else if (cU (nT w) (aN w) (aK w) r inn p).1==1 then
  (if p.1==1 then aDc w r (cU (nT w) (aN w) (aK w) r inn p).2.2.1 else xF w r (cU (nT w) (aN w) (aK w) r inn p).2.2.1)
 else if (cU (nT w) (aN w) (aK w) r inn p).1==7&&p.1==1 then aE2 w r (cU (nT w) (aN w) (aK w) r inn p).2.2.2 p
 else aBy w
theorem aJ2 {w:den tNw} (h:aDq w) {i:Nat} {x:den tIb}:aDq (uM w i x):=⟨h.as,h.links,h.dead,h.res,h.use,h.flowsN,h.flows⟩
theorem aSp {x:den tIb} {p:den tPk} (h:aFc x p=true):((pS x p).1==1)=false:=by
 unfold pS;rw [h];rfl
end Go.Proofs.YtcppmcbkokgfcaaGreat
