/-
  Facts and plain laws: what the functions compute, in plain words. Conditions: as each says.
-/
import Derived.Test.YtjpmmodjpaabpaaGreatT1FnBench
open List renaming length->Cr,mem_of_getElem?->Cm,nil_append->CH,getElem?_eq_getElem->Cs,length_take->Dy,length_append->C7,length_singleton->IF,getElem?_eq_some_iff->Cu,map_cons->CA,sum_cons->D6,getLast?_concat->UT,length_nil->CE,length_cons->C6,append_assoc->CY,singleton_append->R2,foldl_cons->EX,all_eq_true->Dg,length_filter_le->H5,filter_cons->PA,getElem?_drop->Ex,length_drop->IJ,getElem?_map->FV
open Nat renaming le_trans->B5,zero_add->Dc,le_refl->Cz,zero_le->C3,le_of_eq->ID,add_sub_cancel->PF
open Bool renaming eq_false_or_eq_true->PE,true_and->Cw,eq_iff_iff->CG,not_true->BZ,not_false->Cn,false_and->CD,false_eq_true->Cg,and_eq_true->Ck,or_self->E7,not_eq_true'->Eu,true_or->GI,or_true->II
open Sum renaming elim_inl->Ea,inl->A7,inr->A2
open Int renaming toNat_natCast->Cj,tmod->CM,toNat_of_nonneg->Mo,eq_ofNat_of_zero_le->Ew
open Option renaming getD_some->CJ
set_option linter.unusedVariables false
set_option linter.unusedSimpArgs false
set_option maxRecDepth 100000
open Option renaming some→U
open Option renaming none→W
open Decidable renaming decide→D
open Bool renaming true→X
open Bool renaming false→Y
namespace Go.Proofs.YtjpmmodjpaabpaaGreat
open Go.Ab Go.V
def B3(n a b:Int):Bool:=D (a<=n)&&D (n<=b)
theorem gX(n a b:Int):aY n a b=U (B3 n a b):=by
 unfold aY B3
 by_cases h:a<=n<;>simp[h]
theorem fC(n a b:Int):aJ n a b=U (B3 n a b):=by
 unfold aJ B3
 by_cases h:a<=n<;>simp[h]
theorem bQ{n a b:Int}:B3 n a b=X↔a<=n/\n<=b:=by simp[B3]
theorem SN{n a b:Int}:B3 n a b=Y↔ ¬ (a<=n/\n<=b):=by rw[<- bQ];simp
theorem YP(a b:Int):Hb a b=U (if b>a then b else a):=rfl
theorem TF(a b:Int):Fe a b=U (if b>a then b else a):=by
 unfold Fe
 by_cases h:b>a<;>simp[h]
theorem Yv(a b:Int):Hk a b=U (if b<a then b else a):=rfl
theorem Y8(a b:Int):Gv a b=U (if b<a then b else a):=by
 unfold Gv
 by_cases h:b<a<;>simp[h]
theorem On{b:List Int}(h:b.length<=549755813888):fZ b=U b:=by
 unfold fZ;rw[aC (by decide) (by simpa using h)];simp
theorem Xf{l:eV}(h:l.length<=549755813888):pP l=U l:=by
 unfold pP;rw[aC (by decide) (by simpa using h)];simp
theorem Xu{l:CB}(h:l.length<=549755813888):gE l=U l:=by
 unfold gE;rw[aC (by decide) (by simpa using h)];simp
theorem bHv{p:den Cb}(h:Cc 549755813888 Cb p):HC p=U p:=by
 unfold HC;rw[aC (by decide) (by simpa using h.2.2.2.1)];simp
theorem O5{p:den B4}(h:Cc 549755813888 B4 p):gJ p=U p:=by
 unfold gJ;rw[(jJ (λk (a:Ci)=>((k:Int),a)) ((0:Int),[]) [] p (λ_ x a=>a++[x]) Cr (λ_=>1) 549755813888 id rfl (B5 h.1 (by decide)) (by rw[cT];simpa using h.1) (λk x a hi hx hd hw hk hb=>by
  have e:=h.2 x (Cm hx);simp only[hd,hi,hw,zZ,aA,Xf e.2.2.2.1,aD,aC (b:=48) (by decide) hb];simp) (λa=>by simp)).1,dR (λx=>x)]
 simp
theorem Oo{p:den B4}(h:Cc 549755813888 B4 p):lJ p=U p:=by
 unfold lJ B6;rw[(jJ (λk (a:Ci)=>((k:Int),a)) ((0:Int),[]) [] p (λ_ x a=>a++[x]) Cr (λ_=>1) 549755813888 id rfl (B5 h.1 (by decide)) (by rw[cT];simpa using h.1) (λk x a hi hx hd hw hk hb=>by
  have e:=h.2 x (Cm hx);simp only[hd,hi,hw,zZ,aA,aD,bHv e,aC (b:=48) (by decide) hb];simp) (λa=>by simp)).1,dR (λx=>x)]
 simp
theorem bXm{l:Cf}(h:Cc 549755813888 (.sl B4) l):zM l=U l:=by
 unfold zM;rw[(jJ (λk (a:Cf)=>((k:Int),a)) ((0:Int),[]) [] l (λ_ x a=>a++[x]) Cr (λ_=>1) 549755813888 id rfl (B5 h.1 (by decide)) (by rw[cT];simpa using h.1) (λk x a hi hx hd hw hk hb=>by
  have e:=h.2 x (Cm hx);simp only[hd,hi,hw,zZ,aA,O5 e,aC (b:=24) (by decide) hb];simp) (λa=>by simp)).1,dR (λx=>x)]
 simp
theorem bYa{l:Cf}(h:Cc 549755813888 (.sl B4) l):KU l=U l:=by
 unfold KU;rw[(jJ (λk (a:Cf)=>((k:Int),a)) ((0:Int),[]) [] l (λ_ x a=>a++[x]) Cr (λ_=>1) 549755813888 id rfl (B5 h.1 (by decide)) (by rw[cT];simpa using h.1) (λk x a hi hx hd hw hk hb=>by
  have e:=h.2 x (Cm hx);simp only[hd,hi,hw,zZ,aA,Oo e,aC (b:=24) (by decide) hb];simp) (λa=>by simp)).1,dR (λx=>x)]
 simp
theorem bM2{l:Dq}(h:Cc 549755813888 (.sl Dd) l):mX l=U l:=by
 unfold mX;rw[(jJ (λk (a:Dq)=>((k:Int),a)) ((0:Int),[]) [] l (λ_ x a=>a++[x]) Cr (λ_=>1) 549755813888 id rfl (B5 h.1 (by decide)) (by rw[cT];simpa using h.1) (λk x a hi hx hd hw hk hb=>by
  have e:=h.2 x (Cm hx);simp only[hd,hi,hw,zZ,aA,On e.1,aC (b:=24) (by decide) hb];simp) (λa=>by simp)).1,dR (λx=>x)]
 simp
theorem bLp{l:Dq}(h:Cc 549755813888 (.sl Dd) l):wL l=U l:=by
 unfold wL;rw[(jJ (λk (a:Dq)=>((k:Int),a)) ((0:Int),[]) [] l (λ_ x a=>a++[x]) Cr (λ_=>1) 549755813888 id rfl (B5 h.1 (by decide)) (by rw[cT];simpa using h.1) (λk x a hi hx hd hw hk hb=>by
  have e:=h.2 x (Cm hx);simp only[hd,hi,hw,zZ,aA,aC (b:=1) (n:=([]:List Int).length) (by decide) (by simpa using e.1),aC (b:=24) (by decide) hb];simp) (λa=>by simp)).1,dR (λx=>x)]
 simp
def tS(f:den B7):q7:=(f.1,f.2.1,f.2.2.1,f.2.2.2.1,f.2.2.2.2.2.2.1,f.2.2.2.2.2.2.2.1,f.2.2.2.2.1,f.2.2.2.2.2.1,f.2.2.2.2.2.2.2.2)
theorem OA{f:den B7}(h:Cc 549755813888 B7 f):gI f=U (tS f):=by
 unfold gI tS A0 A4 A3 A8 B0;simp only[bM2 h.2.2.2.2.1,bXm h.2.2.2.2.2.1,Xu h.2.2.2.2.2.2.2.2.1,aA]
theorem MH{f:den B7}(h:Cc 549755813888 B7 f):gO f=U (tS f):=by
 unfold gO tS A0 A4 A3 A8 B0;simp only[bLp h.2.2.2.2.1,bYa h.2.2.2.2.2.1,aA,aC (b:=24) (n:=([]:CB).length) (by decide) (by simpa using h.2.2.2.2.2.2.2.2.1),zZ,CH]
theorem bL4{x:den Cq}(h:Cc 549755813888 Cq x):tK x=U x:=by
 unfold tK;simp only[bM2 h.2.2.2,aA,aD]
theorem bNh{x:den Cq}(h:Cc 549755813888 Cq x):HE x=U x:=by
 unfold HE;simp only[bLp h.2.2.2,aA,aD]
def iL(x:den CI):Bool:=B3 x.1 0 7&&(B3 x.2.1 1 6&&B3 x.2.2 0 1000000)
theorem Og(x:den CI):cL x=U (iL x):=by
 unfold cL iL;simp only[gX,aA];cases B3 x.1 0 7<;>cases B3 x.2.1 1 6<;>cases B3 x.2.2 0 1000000<;>rfl
theorem NV(x:den CI):cN x=U (iL x):=by
 unfold cN iL;simp only[fC,aA];cases B3 x.1 0 7<;>cases B3 x.2.1 1 6<;>cases B3 x.2.2 0 1000000<;>rfl
theorem EI{α S:Type}(p:Nat->α->Bool):∀(l:List α) (k:Nat) (ρ:S),dH (λk x=>if p k x then W else U ρ) k l=if (l.zipIdx k).all (λx=>p x.2 x.1) then W else U ρ
 | [],_,_=>rfl
 | x::xs,k,ρ=>by
  simp only[dH,List.zipIdx_cons,List.all_cons];rcases PE (p k x) with h | h
  .simp only[h,zV,Cw];exact EI p xs (k+1) ρ
  .simp[h]
theorem bNm{α:Type}(p:α->Bool):∀(l:List α) (k:Nat),(l.zipIdx k).all (λx=>p x.1)=l.all p
 | [],_=>rfl
 | x::xs,k=>by simp[List.zipIdx_cons,bNm p xs]
theorem iO{α S:Type}(p:α->Bool)(l:List α)(ρ:S):dH (λ_ x=>if p x then W else U ρ) 0 l=if l.all p then W else U ρ:=by
 rw[EI (λ_ x=>p x),bNm p]
def tZ(f:den B7):Bool:=
 B3 f.1 0 7&&(B3 f.2.1 0 7&&(!(f.1==f.2.1)&&(B3 f.2.2.1 0 100000&&(D (f.2.2.2.2.1.length<=20)&&(B3 f.2.2.2.1 0 (f.2.2.2.2.1.length:Int)&&(D (f.2.2.2.2.2.1.length<=24)&&
  (f.2.2.2.2.1.all (λm=>D (m.length<=40))&&(f.2.2.2.2.2.2.2.2.all iL&&((f.2.2.2.2.2.2.1==0||B3 f.2.2.2.2.2.2.1 0 ((f.2.2.2.2.2.1.length:Int) - 1))&&(B3 f.2.2.2.2.2.2.2.1 0 4&&D (f.2.2.2.2.2.2.2.2.length<=16)))))))))))
theorem Ws{f:den B7}(h:Cc 549755813888 B7 f):mS f=U (tZ f):=by
 have h1:=h.2.2.2.2.1.1;have h2:=h.2.2.2.2.2.1.1;have h3:=h.2.2.2.2.2.2.2.2.1;unfold mS tZ A6 A0 A4 A3 A8 B0;rw[aM (l:=f.2.2.2.2.1) (λ_ m=>if D (m.length<=40) then W else U Y) (by omega) (λk m hi hd hw hx hk=>by
  simp only[hd,hi,hw,zZ,aA]
  by_cases hm:m.length<=40
  .simp[hm,show ¬ ((m.length:Int)>40) by omega]
  .simp[hm,show (m.length:Int)>40 by omega]) (by simp)]
 rw[aM (l:=f.2.2.2.2.2.2.2.2) (λ_ x=>if iL x then W else U Y) (by omega) (λk x hi hd hw hx hk=>by
  simp only[hd,hi,hw,zZ,aA,aD,Og];cases iL x<;>rfl) (by simp)]
 rw[iO (λm:List Int=>D (m.length<=40)),iO iL];have e1:D ((f.2.2.2.2.1.length:Int)>20)= !D (f.2.2.2.2.1.length<=20):=by rw[CG];simp;omega
 have e2:D ((f.2.2.2.2.2.1.length:Int)>24)= !D (f.2.2.2.2.2.1.length<=24):=by rw[CG];simp;omega
 have e3:D ((f.2.2.2.2.2.2.2.2.length:Int)<=16)=D (f.2.2.2.2.2.2.2.2.length<=16):=by rw[CG];simp;omega
 have e5:wr ((f.2.2.2.2.2.1.length:Int) - 1)=(f.2.2.2.2.2.1.length:Int) - 1:=wri (by omega) (by omega);rw[e5];simp only[gX,aA,e1,e2,e3];cases B3 f.1 0 7<;>simp only[BZ,Cn,zZ,zY,aA,CD,Cw];cases B3 f.2.1 0 7<;>simp only[BZ,Cn,zZ,zY,aA,CD,Cw];cases f.1==f.2.1<;>simp only[BZ,Cn,zZ,zY,aA,CD,Cw];cases B3 f.2.2.1 0 100000<;>simp only[BZ,Cn,zZ,zY,aA,CD,Cw];cases D (f.2.2.2.2.1.length<=20)<;>simp only[BZ,Cn,zZ,zY,aA,CD,Cw];cases B3 f.2.2.2.1 0 (f.2.2.2.2.1.length:Int)<;>simp only[BZ,Cn,zZ,zY,aA,CD,Cw];cases D (f.2.2.2.2.2.1.length<=24)<;>simp only[BZ,Cn,zZ,zY,aA,CD,Cw];cases f.2.2.2.2.1.all (λm=>D (m.length<=40))<;>simp only[Cg,zV,zU,aA,Ea,Sum.elim_inr,CD,Cw];cases f.2.2.2.2.2.2.2.2.all iL<;>simp only[Cg,zV,zU,aA,Ea,Sum.elim_inr,CD,Cw];cases f.2.2.2.2.2.2.1==0<;>cases B3 f.2.2.2.2.2.2.1 0 ((f.2.2.2.2.2.1.length:Int) - 1)<;>cases B3 f.2.2.2.2.2.2.2.1 0 4<;>rfl
theorem W1{f:den B7}(h:Cc 549755813888 B7 f):nC f=U (tZ f):=by
 have h1:=h.2.2.2.2.1.1;have h2:=h.2.2.2.2.2.1.1;have h3:=h.2.2.2.2.2.2.2.2.1;unfold nC tZ A6 A0 A4 A3 A8 B0;rw[aM (l:=f.2.2.2.2.1) (λ_ m=>if D (m.length<=40) then W else U Y) (by omega) (λk m hi hd hw hx hk=>by
  simp only[hd,hi,hw,zZ,aA]
  by_cases hm:m.length<=40
  .simp[hm,show ¬ ((m.length:Int)>40) by omega]
  .simp[hm,show (m.length:Int)>40 by omega]) (by simp)]
 rw[aM (l:=f.2.2.2.2.2.2.2.2) (λ_ x=>if iL x then W else U Y) (by omega) (λk x hi hd hw hx hk=>by
  simp only[hd,hi,hw,zZ,aA,aD,NV];cases iL x<;>rfl) (by simp)]
 rw[iO (λm:List Int=>D (m.length<=40)),iO iL];have e1:D ((f.2.2.2.2.1.length:Int)>20)= !D (f.2.2.2.2.1.length<=20):=by rw[CG];simp;omega
 have e2:D ((f.2.2.2.2.2.1.length:Int)>24)= !D (f.2.2.2.2.2.1.length<=24):=by rw[CG];simp;omega
 have e3:D ((f.2.2.2.2.2.2.2.2.length:Int)>16)= !D (f.2.2.2.2.2.2.2.2.length<=16):=by rw[CG];simp;omega
 have e4:B3 f.2.2.2.2.2.2.1 0 (if ((f.2.2.2.2.2.1.length:Int) - 1)>0 then ((f.2.2.2.2.2.1.length:Int) - 1) else 0)=(f.2.2.2.2.2.2.1==0||B3 f.2.2.2.2.2.2.1 0 ((f.2.2.2.2.2.1.length:Int) - 1)):=by
  have key:∀(c n:Int),0<=n->B3 c 0 (if n - 1>0 then n - 1 else 0)=(c==0||B3 c 0 (n - 1)):=λc n hn=>by
   unfold B3
   by_cases h1:n - 1>0
   .rw[zT h1]
    by_cases h2:c=0
    .subst h2;simp;omega
    .simp[h2]
   .rw[zS h1]
    by_cases h2:c=0
    .subst h2;simp
    .rw[CG];simp[h2];omega
  exact key _ _ (by omega)
 have e5:wr ((f.2.2.2.2.2.1.length:Int) - 1)=(f.2.2.2.2.2.1.length:Int) - 1:=wri (by omega) (by omega);rw[e5];simp only[fC,TF,aA,e1,e2,e3,e4];cases B3 f.1 0 7<;>simp only[BZ,Cn,zZ,zY,aA,CD,Cw];cases B3 f.2.1 0 7<;>simp only[BZ,Cn,zZ,zY,aA,CD,Cw];cases f.1==f.2.1<;>simp only[BZ,Cn,zZ,zY,aA,CD,Cw];cases B3 f.2.2.1 0 100000<;>simp only[BZ,Cn,zZ,zY,aA,CD,Cw];cases D (f.2.2.2.2.1.length<=20)<;>simp only[BZ,Cn,zZ,zY,aA,CD,Cw];cases B3 f.2.2.2.1 0 (f.2.2.2.2.1.length:Int)<;>simp only[BZ,Cn,zZ,zY,aA,CD,Cw];cases D (f.2.2.2.2.2.1.length<=24)<;>simp only[BZ,Cn,zZ,zY,aA,CD,Cw];cases f.2.2.2.2.2.2.1==0||B3 f.2.2.2.2.2.2.1 0 ((f.2.2.2.2.2.1.length:Int) - 1)<;>cases B3 f.2.2.2.2.2.2.2.1 0 4<;>cases D (f.2.2.2.2.2.2.2.2.length<=16)<;>cases f.2.2.2.2.1.all (λm=>D (m.length<=40))<;>cases f.2.2.2.2.2.2.2.2.all iL<;>rfl
def JD(a b:List Int):Bool:=(eW a).toList==(eW b).toList
theorem cFu(a b:List Int):Mr a b=U (JD a b):=rfl
theorem cGx(a b:List Int):Ms a b=U (JD a b):=rfl
def GW:Dq->Dq->Bool
 | [],_=>X
 | _::_,[]=>X
 | a::as,b::bs=>JD a b&&GW as bs
def Pb{α S:Type}(p:α->α->Bool)(l:List α)(ρ:S)(k:Nat)(x:α):Option S:=Option.elim l[k]? W λy=>if p x y then W else U ρ
theorem Y5{α S:Type}(p:α->α->Bool)(q:List α->List α->Bool)(h0:∀b,q [] b=X)(h1:∀x a y b,q (x::a) (y::b)=(p x y&&q a b))(ρ:S):∀(a b:List α),a.length<=b.length-> ∀(k:Nat) (l:List α),(∀j,b[j]? =l[k+j]?)->dH (Pb p l ρ) k a=if q a b then W else U ρ
 | [],b,_,k,l,_=>by rw[h0];rfl
 | x::a,[],h,_,_,_=>by simp at h
 | x::a,y::b,h,k,l,hl=>by
  have e0:=hl 0;simp only[Nat.add_zero,List.getElem?_cons_zero]at e0;simp only[dH,Pb,<- e0,h1,Option.elim_some];rcases PE (p x y) with hp | hp
  .simp only[hp,zV,Cw];exact Y5 p q h0 h1 ρ a b (by simpa using h) (k+1) l λj=>by
    have :=hl (j+1);rw[List.getElem?_cons_succ]at this;rw[this];congr 1;omega
  .simp[hp]
theorem bXq{a b:Dq}(ha:a.length<=549755813888)(hb:b.length<=549755813888):qS a b=U (D (a.length=b.length)&&GW a b):=by
 unfold qS
 by_cases hl:a.length=b.length
 .have h0:((a.length:Int) != (b.length:Int))=Y:=by simp[hl]
  rw[h0,zY,aM (l:=a) (Pb JD b Y) (by omega) (λk x hi hd hw hx hk=>by
    have hy:b[k]? =U b[k]:=Cs (by omega);simp only[hd,hi,hw,zZ,aA,aQ,hy,cFu,Pb,Option.elim_some];cases JD x b[k]<;>rfl) (by simp)]
  rw[Y5 JD GW (λb=>by cases b<;>rfl) (λ_ _ _ _=>rfl) Y a b (by omega) 0 b (λj=>by rw[Dc])];cases GW a b<;>simp[hl]
 .have h0:((a.length:Int) != (b.length:Int))=X:=by simp;omega
  rw[h0,zZ];simp[hl]
def Ll(f:den B7)(x:den Cq):Bool:=
 x.1==f.2.1&&(x.2.1==f.1&&(D (x.2.2.2.length<=f.2.2.2.2.1.length)&&(GW x.2.2.2 f.2.2.2.2.1&&D ((x.2.2.2.length:Int)>=f.2.2.2.1))))
theorem aWk:∀(a b:Dq),GW a (b.take a.length)=GW a b
 | [],b=>by cases b<;>rfl
 | x::a,[]=>rfl
 | x::a,y::b=>by simp[GW,aWk a b]
theorem bTo{f:den B7}{x:den Cq}(hf:f.2.2.2.2.1.length<=549755813888)(hx:x.2.2.2.length<=549755813888):oX f x=U (Ll f x):=by
 unfold oX Ll A0;cases x.1==f.2.1
 .rfl
 cases x.2.1==f.1
 .rfl
 by_cases hl:x.2.2.2.length<=f.2.2.2.2.1.length
 .have h1:D ((x.2.2.2.length:Int)<=(f.2.2.2.2.1.length:Int))=X:=by simpa using hl
  have h2:bG (0:Int) (x.2.2.2.length:Int) (f.2.2.2.2.1.length:Int)=X:=by simp[bG];omega
  rw[h1,h2,fL,bXq hx (by rw[Dy];omega),aWk];have h3:D (x.2.2.2.length=(List.take x.2.2.2.length f.2.2.2.2.1).length)=X:=by simp[Dy];omega
  rw[h3];simp only[zZ,aA,Cw,zX hl];cases GW x.2.2.2 f.2.2.2.2.1<;>rfl
 .have h1:D ((x.2.2.2.length:Int)<=(f.2.2.2.2.1.length:Int))=Y:=by simp;omega
  rw[h1];simp[hl]
theorem bTd{f:den B7}{x:den Cq}(hf:f.2.2.2.2.1.length<=549755813888)(hx:x.2.2.2.length<=549755813888):oW f x=U (Ll f x):=by
 unfold oW Ll A0;simp only[bne];cases x.1==f.2.1
 .rfl
 cases x.2.1==f.1
 .rfl
 by_cases hl:x.2.2.2.length<=f.2.2.2.2.1.length
 .have h1:D ((x.2.2.2.length:Int)>(f.2.2.2.2.1.length:Int))=Y:=by simp;omega
  have h4:D ((x.2.2.2.length:Int)<f.2.2.2.1)= !D ((x.2.2.2.length:Int)>=f.2.2.2.1):=by rw[CG];simp
  rw[h1,h4,aM (l:=x.2.2.2) (Pb JD f.2.2.2.2.1 Y) (by omega) (λk m hi hd hw hm hk=>by
    have hy:f.2.2.2.2.1[k]? =U f.2.2.2.2.1[k]:=Cs (by omega);simp only[hd,hi,hw,zZ,aA,aQ,hy,cGx,Pb,Option.elim_some];cases JD m f.2.2.2.2.1[k]<;>rfl) (by simp)]
  rw[Y5 JD GW (λb=>by cases b<;>rfl) (λ_ _ _ _=>rfl) Y x.2.2.2 f.2.2.2.2.1 hl 0 f.2.2.2.2.1 (λj=>by rw[Dc])];rw[zX hl];cases D ((x.2.2.2.length:Int)>=f.2.2.2.1)<;>cases GW x.2.2.2 f.2.2.2.2.1<;>rfl
 .have h1:D ((x.2.2.2.length:Int)>(f.2.2.2.2.1.length:Int))=X:=by simp;omega
  rw[h1];simp[hl]
def Iv(x:den Cq)(p:den A9):Bool:=p.1==1&&(p.2.1==x.2.1&&p.2.2.1==x.1)
theorem bM6(x:den Cq)(p:den A9):H9 x p=U (Iv x p):=by
 unfold H9 Iv;cases p.1==1<;>cases p.2.1==x.2.1<;>rfl
theorem bNl(x:den Cq)(p:den A9):HN x p=U (Iv x p):=by
 unfold HN Iv;cases p.1==1<;>cases p.2.1==x.2.1<;>rfl
def YG(x:den Cq)(p:den A9):Bool:=Iv x p&&(p.2.2.2.2.2.2.2.2.1==x.2.2.1&&D (x.2.2.1<20))
def iW(x:den Cq)(p:den A9):den Cq:=if YG x p then (x.1,x.2.1,wr (x.2.2.1+1),x.2.2.2++[p.2.2.2.2.2.2.2.2.2]) else x
theorem cFn{x:den Cq}{p:den A9}(hx:Cc 137438953472 Cq x)(hp:Cc 137438953472 A9 p):uS x p=U (iW x p):=by
 have hx':Cc 549755813888 Cq x:=hx.mono (by decide);have hp':=(hp.mono (C:=549755813888) (by decide)).2.2.2.2.2.2.2.2.2.1;unfold uS iW YG aK B6 B0 B8;have ha:=hx.2.2.2.1;simp only[aD,bL4 hx',bM6,On hp',aA,aC (b:=24) (n:=x.2.2.2.length) (m:=1) (by decide) (by omega),zZ];cases Iv x p<;>cases p.2.2.2.2.2.2.2.2.1==x.2.2.1<;>cases D (x.2.2.1<20)<;>rfl
theorem cFp{x:den Cq}{p:den A9}(hx:Cc 137438953472 Cq x)(hp:Cc 137438953472 A9 p):uM x p=U (iW x p):=by
 have hx':Cc 549755813888 Cq x:=hx.mono (by decide);have hp':=(hp.mono (C:=549755813888) (by decide)).2.2.2.2.2.2.2.2.2.1;unfold uM iW YG aK B6 B0 B8;have ha:=hx.2.2.2.1;simp only[aD,bNh hx',bNl,aA,aC (b:=1) (n:=([]:List Int).length) (by decide) (by simpa using hp'),aC (b:=24) (n:=x.2.2.2.length) (m:=1) (by decide) (by omega),zZ,CH];cases Iv x p<;>cases p.2.2.2.2.2.2.2.2.1==x.2.2.1<;>cases D (x.2.2.1<20)<;>rfl
theorem bVk(x:den Cq)(p:den A9):tot (.sl Dd) (iW x p).2.2.2<=tot (.sl Dd) x.2.2.2+1+tot (.sl tb) p.2.2.2.2.2.2.2.2.2:=by
 unfold iW;split
 .rw[wA,Lk];show _+(1+tot (.sl tb) _)<=_;omega
 .omega
def Zc(f:den B7)(p:den A9):Bool:=p.1==2&&(p.2.1==f.2.1&&(p.2.2.1==f.1&&(p.2.2.2.2.2.2.2.2.1==f.2.2.2.1&&B3 f.2.2.2.1 0 ((f.2.2.2.2.1.length:Int) - 1))))
def Ha(f:den B7)(p:den A9):den B7:=if Zc f p then (f.1,f.2.1,f.2.2.1,wr (f.2.2.2.1+1),f.2.2.2.2.1,f.2.2.2.2.2.1,f.2.2.2.2.2.2.1,0,f.2.2.2.2.2.2.2.2) else f
theorem cFy{f:den B7}{p:den A9}(hf:Cc 549755813888 B7 f):Ky f p=U (tS (Ha f p)):=by
 unfold Ky Ha Zc A6 Ct A0 A4 A3 B0;have e5:wr ((f.2.2.2.2.1.length:Int) - 1)=(f.2.2.2.2.1.length:Int) - 1:=wri (by have :=hf.2.2.2.2.1.1;omega) (by have :=hf.2.2.2.2.1.1;omega);simp only[aD,OA hf,aA,gX,e5];cases p.1==2<;>cases p.2.1==f.2.1<;>cases p.2.2.1==f.1<;>cases p.2.2.2.2.2.2.2.2.1==f.2.2.2.1<;>cases B3 f.2.2.2.1 0 ((f.2.2.2.2.1.length:Int) - 1)<;>rfl
theorem bMa{f:den B7}{p:den A9}(hf:Cc 549755813888 B7 f):wI f p=U (tS (Ha f p)):=by
 unfold wI Ha Zc A6 Ct A0 A4 A3 B0;have e5:wr ((f.2.2.2.2.1.length:Int) - 1)=(f.2.2.2.2.1.length:Int) - 1:=wri (by have :=hf.2.2.2.2.1.1;omega) (by have :=hf.2.2.2.2.1.1;omega);simp only[aD,MH hf,aA,fC,e5];cases p.1==2<;>cases p.2.1==f.2.1<;>cases p.2.2.1==f.1<;>cases p.2.2.2.2.2.2.2.2.1==f.2.2.2.1<;>cases B3 f.2.2.2.1 0 ((f.2.2.2.2.1.length:Int) - 1)<;>rfl
theorem bKz(f:den B7)(p:den A9):(Ha f p).2.2.2.2.1=f.2.2.2.2.1/\(Ha f p).2.2.2.2.2.1=f.2.2.2.2.2.1/\(Ha f p).2.2.2.2.2.2.2.2=f.2.2.2.2.2.2.2.2:=by
 unfold Ha;split<;>exact⟨rfl,rfl,rfl⟩
def enq(f:den B7)(b:List Int):den B7:=(f.1,f.2.1,f.2.2.1,f.2.2.2.1,f.2.2.2.2.1++[b],f.2.2.2.2.2.1,f.2.2.2.2.2.2.1,f.2.2.2.2.2.2.2.1,f.2.2.2.2.2.2.2.2)
def Pr(f:den B7)(b:List Int):Int×Int×Int×Int×Int×Int×Bool×Dq×Cf×CB:=
 if tZ (enq f b) then (f.1,f.2.1,f.2.2.1,f.2.2.2.1,f.2.2.2.2.2.2.1,f.2.2.2.2.2.2.2.1,X,f.2.2.2.2.1++[b],f.2.2.2.2.2.1,f.2.2.2.2.2.2.2.2)
 else (f.1,f.2.1,f.2.2.1,f.2.2.2.1,f.2.2.2.2.2.2.1,f.2.2.2.2.2.2.2.1,Y,f.2.2.2.2.1,f.2.2.2.2.2.1,f.2.2.2.2.2.2.2.2)
theorem bWh{f:den B7}{b:List Int}(hf:Cc 137438953472 B7 f)(hb:Cc 137438953472 (.sl tb) b):Cc 549755813888 B7 (enq f b):=by
 have hf':=hf.mono (C:=549755813888) (by decide);refine⟨hf'.1,hf'.2.1,hf'.2.2.1,hf'.2.2.2.1,⟨?_,λe he=> ?_⟩,hf'.2.2.2.2.2.1,hf'.2.2.2.2.2.2.1,hf'.2.2.2.2.2.2.2.1,hf'.2.2.2.2.2.2.2.2⟩
 .show (f.2.2.2.2.1++[b]).length<=_;have :=hf.2.2.2.2.1.1;rw[C7,IF];omega
 .rcases List.mem_append.1 he with he | he
  .exact hf'.2.2.2.2.1.2 e he
  .rw[List.mem_singleton.1 he];exact hb.mono (by decide)
theorem cLc{f:den B7}{b:List Int}(hf:Cc 137438953472 B7 f)(hb:Cc 137438953472 (.sl tb) b):KM f b=U (Pr f b):=by
 unfold KM Pr A1 A6 Ct A0 A4 A3 A8 B0;have hf':=hf.mono (C:=549755813888) (by decide);have h1:=hf.2.2.2.2.1.1;have h2:mS (f.1,f.2.1,f.2.2.1,f.2.2.2.1,f.2.2.2.2.1++[b],f.2.2.2.2.2.1,f.2.2.2.2.2.2.1,f.2.2.2.2.2.2.2.1,f.2.2.2.2.2.2.2.2)=U (tZ (enq f b)):=Ws (f:=enq f b) (bWh hf hb);simp only[aD,OA hf',On (b:=b) (B5 hb.1 (by decide)),aA,tS,aC (b:=24) (n:=f.2.2.2.2.1.length) (m:=1) (by decide) (by omega),zZ,h2];cases tZ (enq f b)<;>rfl
theorem cLg{f:den B7}{b:List Int}(hf:Cc 137438953472 B7 f)(hb:Cc 137438953472 (.sl tb) b):KO f b=U (Pr f b):=by
 unfold KO Pr A1 A6 Ct A0 A4 A3 A8 B0;have hf':=hf.mono (C:=549755813888) (by decide);have h1:=hf.2.2.2.2.1.1;have h2:nC (f.1,f.2.1,f.2.2.1,f.2.2.2.1,f.2.2.2.2.1++[b],f.2.2.2.2.2.1,f.2.2.2.2.2.2.1,f.2.2.2.2.2.2.2.1,f.2.2.2.2.2.2.2.2)=U (tZ (enq f b)):=W1 (f:=enq f b) (bWh hf hb);simp only[aD,MH hf',aA,tS,aC (b:=1) (n:=([]:List Int).length) (m:=b.length) (by decide) (by have :=hb.1;simp;omega),aC (b:=24) (n:=f.2.2.2.2.1.length) (m:=1) (by decide) (by omega),zZ,CH,h2];cases tZ (enq f b)<;>rfl
def uD(k:Int):Bool:=k==1||k==3
theorem O3(k:Int):fH k=U (uD k):=by
 unfold fH uD;cases k==1<;>rfl
theorem OB(k:Int):fG k=U (uD k):=by
 unfold fG uD;cases k==1<;>rfl
def E9(p:den Cb)(h:den cH):Int:=if uD p.1 then h.2.2.1 else h.2.1
def CV(p:den Cb)(h:den cH):Int:=if uD p.1 then h.2.1 else h.2.2.1
theorem rJ{n:Nat}(h:n<=549755813888):wr ((n:Int) - 1)=(n:Int) - 1:=wri (by omega) (by omega)
theorem SH{k n:Nat}(h:k<n):B3 (k:Int) 0 ((n:Int) - 1)=X:=by rw[bQ];omega
theorem Y0{p:den Cb}{k:Nat}{h:den cH}(hk:p.2.2.2[k]? =U h)(hl:p.2.2.2.length<=549755813888):iG p (k:Int)=U (E9 p h):=by
 have hlt:k<p.2.2.2.length:=(Cu.1 hk).1;unfold iG E9;simp only[gX,rJ hl,SH hlt,aA,BZ,zY,O3,aQ,hk];cases uD p.1<;>rfl
theorem Yz{p:den Cb}{k:Nat}{h:den cH}(hk:p.2.2.2[k]? =U h)(hl:p.2.2.2.length<=549755813888):gV p (k:Int)=U (E9 p h):=by
 have hlt:k<p.2.2.2.length:=(Cu.1 hk).1;unfold gV E9;simp only[fC,rJ hl,SH hlt,aA,BZ,zY,OB,aQ,hk];cases uD p.1<;>rfl
theorem Y3{p:den Cb}{k:Nat}{h:den cH}(hk:p.2.2.2[k]? =U h)(hl:p.2.2.2.length<=549755813888):iX p (k:Int)=U (CV p h):=by
 have hlt:k<p.2.2.2.length:=(Cu.1 hk).1;unfold iX CV;simp only[gX,rJ hl,SH hlt,aA,BZ,zY,O3,aQ,hk];cases uD p.1<;>rfl
theorem T9{p:den Cb}{k:Nat}{h:den cH}(hk:p.2.2.2[k]? =U h)(hl:p.2.2.2.length<=549755813888):fF p (k:Int)=U (CV p h):=by
 have hlt:k<p.2.2.2.length:=(Cu.1 hk).1;unfold fF CV;simp only[fC,rJ hl,SH hlt,aA,BZ,zY,OB,aQ,hk];cases uD p.1<;>rfl
def LP(nf:Bool)(p:den Cb)(i:Nat)(h:den cH)(out:eE):eE:=
 match out.getLast? with
 | some z=>if nf&&(D (i=0)&&z.1==h.1) then out.dropLast++[(h.1,z.2.1,CV p h)] else out++[(h.1,E9 p h,CV p h)]
 | none=>out++[(h.1,E9 p h,CV p h)]
theorem We(nf:Bool)(p:den Cb)(i:Nat)(h:den cH)(out:eE):(LP nf p i h out).length<=out.length+1:=by
 unfold LP;split
 .split
  .simp only[C7,List.length_dropLast,IF];omega
  .simp
 .simp
def OV(nf:Bool)(p:den Cb)(a:eE):eE:=cW (λi h b=>LP nf p i h b) 0 p.2.2.2 a
def J2(p:den B4):eE:=cW (λk x a=>OV (D (0<k)) x a) 0 p []
def N5(l:eE):eE:=
 match l with
 | []=>[]
 | x::xs=>let m:=(x.1,0,x.2.2)::xs
  match m.getLast? with
  | some y=>m.dropLast++[(y.1,y.2.1,0)]
  | none=>[]
def iD(p:den B4):eE:=N5 (J2 p)
theorem bY8(l:eE):(N5 l).length=l.length:=by
 unfold N5;split
 .rfl
 .rename_i x xs;simp only;rw[List.getLast?_eq_some_getLast (by simp)];simp
theorem Oh(p:den B4):(p.map λx=>x.2.2.2.length).sum<=tot B4 p:=by
 show _<=tot (.sl Cb) p;rw[<- Ql]
 induction p with
 | nil=>exact Cz _
 | cons x p ih=>
  simp only[CA,D6];have h1:x.2.2.2.length<=tot Cb x:=by
   show _<=tot ti x.1+(tot ti x.2.1+(tot ti x.2.2.1+tot (.sl cH) x.2.2.2));rw[qW rfl];omega
  omega
theorem Te{n:Nat}(h:n<=549755813888)(h0:0<n):wr ((n:Int) - 1)=((n - 1:Nat):Int):=by
 rw[rJ h];omega
theorem O8{α:Type}{m:List α}{z:α}(h:(m++[z]).length<=549755813888):wr (((m++[z]).length:Int) - 1)=(m.length:Int):=by
 rw[Te h (by simp)];simp
theorem VH(nf:Bool)(p:den Cb)(a:eE):(OV nf p a).length<=a.length+p.2.2.2.length:=by
 have :=Ib (m:=Cr) (cost:=λ_=>1) (λi h b=>We nf p i h b) p.2.2.2 0 a;rw[cT]at this;exact this
theorem Vw(p:den B4):(J2 p).length<=tot B4 p:=by
 have :=Ib (m:=Cr) (cost:=λx:den Cb=>x.2.2.2.length) (λk x a=>VH (D (0<k)) x a) p 0 [];have h2:=Oh p;have h3:(J2 p).length<=0+(p.map λx=>x.2.2.2.length).sum:=this;omega
theorem Jb(p:den B4):(iD p).length<=tot B4 p:=by
 unfold iD;rw[bY8];exact Vw p
theorem bMv(k:Nat):D ((k:Int)>0)=D (0<k):=by rw[CG];simp
theorem bIt(i:Nat):((i:Int)==0)=D (i=0):=by rw[CG];simp
theorem bIk(nf:Bool)(p:den Cb)(i:Nat)(h:den cH):LP nf p i h []=[(h.1,E9 p h,CV p h)]:=rfl
theorem bFj(nf:Bool)(p:den Cb)(i:Nat)(h:den cH)(m:eE)(z:den EE):LP nf p i h (m++[z])=if nf&&(D (i=0)&&z.1==h.1) then m++[(h.1,z.2.1,CV p h)] else (m++[z])++[(h.1,E9 p h,CV p h)]:=by
 unfold LP;rw[UT,List.dropLast_concat]
theorem bEu{m:eE}{x z:den EE}{xs:eE}(h:(x.1,(0:Int),x.2.2)::xs=m++[z]):N5 (x::xs)=m++[(z.1,z.2.1,0)]:=by
 unfold N5;simp only;rw[h,UT,List.dropLast_concat]
theorem Oy{p:den B4}(h:tot B4 p<=274877906944):kU p=U (iD p):=by
 have hs:=Oh p;have sm:Cc 274877906944 B4 p:=bH h;have hl:=Vw p;unfold kU BX B6;rw[fV (λk (a:eE)=>((k:Int),a)) ((0:Int),[]) [] p (λk x a=>OV (D (0<k)) x a) Cr (λx=>x.2.2.2.length) 274877906944 id rfl (B5 sm.1 (by decide)) (by simp only[CE];omega) (λk x a=>VH _ x a) (λk x a hi hx hd hw hk hb=>by
  have hxl:x.2.2.2.length<=274877906944:=(sm.2 x (Cm hx)).2.2.2.1;simp only[hd,hi,hw,zZ,aA];rw[fV (λi (b:eE)=>((i:Int),b)) ((0:Int),a) a x.2.2.2 (λi h b=>LP (D (0<k)) x i h b) Cr (λ_=>1) 274877906944 id rfl (B5 hxl (by decide)) (by rw[cT];exact hb) (λi h b=>We _ x i h b) (λi g b hi2 hg hd2 hw2 hk2 hb2=>by
   have hl2:x.2.2.2.length<=549755813888:=by omega
   simp only[hd2,hi2,hw2,zZ,aA,aD,Y0 hg hl2,Y3 hg hl2,bMv,bIt,aC (b:=24) (n:=b.length) (m:=1) (by decide) (by omega)];rcases yB b with rfl | ⟨m,z,rfl⟩
   .rw[bIk];cases D (0<k)<;>cases D (i=0)<;>rfl
   .rw[bFj,O8 (by omega)];simp only[bF,Oe,Ol,Se,zZ,Cj,aA,VY];cases D (0<k)<;>cases D (i=0)<;>cases hz:z.1==g.1<;>simp[hz];simpa using hz) (λb=>by simp)]
  rfl) (λa=>by simp)]
 simp only[aA,id];rw[show cW (λk x a=>OV (D (0<k)) x a) 0 p []=J2 p from rfl];show _=U (N5 (J2 p));generalize J2 p=l at hl;cases l with
 | nil=>rfl
 | cons x xs=>
  have e1:D ((((x::xs).length:Nat):Int)>0)=X:=by simp
  have e2:D ((0:Int)<(((x::xs).length:Nat):Int))=X:=by simp
  have e3:(0:Int).toNat=0:=rfl;have e4:D ((0:Int)<=0)=X:=rfl;simp only[e1,e2,e3,e4,zZ,List.getElem?_cons_zero,aA,List.set_cons_zero];rcases yB ((x.1,(0:Int),x.2.2)::xs) with h0 | ⟨m,z,hm⟩
  .cases h0
  .have hlen:((x.1,(0:Int),x.2.2)::xs).length=(x::xs).length:=rfl;rw[bEu hm];rw[hm]at hlen ⊢;rw[O8 (by omega)];simp only[bF,Ol,Se,zZ,Cj,aA,VY]
theorem O6{p:den B4}(h:tot B4 p<=274877906944):gM p=U (iD p):=by
 have hs:=Oh p;have sm:Cc 274877906944 B4 p:=bH h;have hl:=Vw p;unfold gM BX B6;rw[fV (λk (a:eE)=>((k:Int),a)) ((0:Int),[]) [] p (λk x a=>OV (D (0<k)) x a) Cr (λx=>x.2.2.2.length) 274877906944 id rfl (B5 sm.1 (by decide)) (by simp only[CE];omega) (λk x a=>VH _ x a) (λk x a hi hx hd hw hk hb=>by
  have hxl:x.2.2.2.length<=274877906944:=(sm.2 x (Cm hx)).2.2.2.1;simp only[hd,hi,hw,zZ,aA];rw[fV (λi (b:eE)=>((i:Int),b)) ((0:Int),a) a x.2.2.2 (λi h b=>LP (D (0<k)) x i h b) Cr (λ_=>1) 274877906944 id rfl (B5 hxl (by decide)) (by rw[cT];exact hb) (λi h b=>We _ x i h b) (λi g b hi2 hg hd2 hw2 hk2 hb2=>by
   have hl2:x.2.2.2.length<=549755813888:=by omega
   simp only[hd2,hi2,hw2,zZ,aA,aD,Yz hg hl2,T9 hg hl2,bB,cB,bL,bJ,bO,bMv,bIt];rcases yB b with rfl | ⟨m,z,rfl⟩
   .rw[bIk];cases D (0<k)<;>cases D (i=0)<;>rfl
   .rw[bFj,O8 (by omega)];have e1:D (((m++[z]).length:Int)>0)=X:=by simp
    have e2:bG (0:Int) (m.length:Int) ((m++[z]).length:Int)=X:=by simp[bG];omega
    have e3:(m++[z]).take m.length=m:=by simp
    have e4:=aC (b:=24) (n:=m.length) (m:=1) (by decide) (by simp at hb2;omega);have e5:=aC (b:=24) (n:=m.length+1) (m:=1) (by decide) (by simp at hb2;omega);simp only[bF,e1,e2,e3,Ol,Se,zZ,Cj,aA];cases D (0<k)<;>cases D (i=0)<;>cases hz:z.1==g.1<;>simp[hz,e4,e5]) (λb=>by simp[hi])]
  rfl) (λa=>by simp)]
 simp only[aA,id];rw[show cW (λk x a=>OV (D (0<k)) x a) 0 p []=J2 p from rfl];show _=U (N5 (J2 p));generalize J2 p=l at hl;cases l with
 | nil=>rfl
 | cons x xs=>
  have e1:D ((((x::xs).length:Nat):Int)>0)=X:=by simp
  have e2:D ((0:Int)<(((x::xs).length:Nat):Int))=X:=by simp
  have e3:(0:Int).toNat=0:=rfl;have e4:D ((0:Int)<=0)=X:=rfl;have e5:D (0<(x::xs).length)=X:=by simp
  simp only[e1,e2,e3,e4,e5,zZ,List.getElem?_cons_zero,aA,List.set_cons_zero];rcases yB ((x.1,(0:Int),x.2.2)::xs) with h0 | ⟨m,z,hm⟩
  .cases h0
  .have hlen:((x.1,(0:Int),x.2.2)::xs).length=(x::xs).length:=rfl;rw[bEu hm];rw[hm]at hlen ⊢;rw[O8 (by omega)];have e6:D (m.length<(m++[z]).length)=X:=by simp
   simp only[bF,Ol,Se,e6,zZ,Cj,aA,VY]
def Pw(p:den B4):q14:=
 match (iD p).head?,(iD p).getLast? with
 | some x,U y=>(x.1,y.1)
 | _,_=>(-1,-1)
theorem cI6{p:den B4}(h:tot B4 p<=274877906944):Kr p=U (Pw p):=by
 unfold Kr Pw BX;have hl:=Jb p;rw[Oy h,aA];generalize iD p=l at hl;rcases yB l with rfl | ⟨m,z,rfl⟩
 .rfl
 .rw[O8 (by omega)];have e1:(((m++[z]).length:Int)==0)=Y:=by simp<;>omega
  have e2:D ((0:Int)<((m++[z]).length:Int))=X:=by simp<;>omega
  have e3:D ((0:Int)<=0)=X:=rfl;rw[e1,e2,e3,bF,Ol,UT];cases m with
  | nil=>rfl
  | cons x m=>simp
theorem cKm{p:den B4}(h:tot B4 p<=274877906944):Kq p=U (Pw p):=by
 unfold Kq Pw BX;have hl:=Jb p;rw[O6 h,aA];generalize iD p=l at hl;rcases yB l with rfl | ⟨m,z,rfl⟩
 .rfl
 .rw[O8 (by omega)];have e1:(((m++[z]).length:Int)==0)=Y:=by simp<;>omega
  have e2:D ((0:Int)<((m++[z]).length:Int))=X:=by simp<;>omega
  have e3:D ((0:Int)<=0)=X:=rfl;rw[e1,e2,e3,bF,Ol,UT];cases m with
  | nil=>rfl
  | cons x m=>simp
def Ca(p:den A9):q3:=(p.1,p.2.1,p.2.2.1,p.2.2.2.2.1,p.2.2.2.2.2.1,p.2.2.2.2.2.2.1,p.2.2.2.2.2.2.2.1,p.2.2.2.2.2.2.2.2.1,p.2.2.2.1,p.2.2.2.2.2.2.2.2.2)
def cLi(p:den B4):Int:=match p with
 | []=>0
 | x::_=>x.2.2.1
def mK(kind:Int)(p:den B4)(res seq:Int)(pay:List Int):den A9:=(kind,(Pw p).1,(Pw p).2,p,0,0,cLi p,res,seq,pay)
theorem SJ{kind res seq:Int}{p:den B4}{pay:List Int}(h:tot B4 p<=274877906944)(hp:pay.length<=549755813888):kZ kind p res seq pay=U (Ca (mK kind p res seq pay)):=by
 unfold kZ A0 A4 A3 A8;rw[O5 ((bH h).mono (by decide)),On hp,cI6 h];simp only[aA];cases p with
 | nil=>rfl
 | cons x p=>
  have e1:D (((x::p).length:Int)>0)=X:=by simp
  rw[e1];rfl
theorem SV{kind res seq:Int}{p:den B4}{pay:List Int}(h:tot B4 p<=274877906944)(hp:pay.length<=549755813888):kS kind p res seq pay=U (Ca (mK kind p res seq pay)):=by
 unfold kS A0 A4 A3 A8;rw[Oo ((bH h).mono (by decide)),cKm h,aC (b:=1) (n:=([]:List Int).length) (by decide) (by simpa using hp)];simp only[aA,zZ,CH];cases p with
 | nil=>rfl
 | cons x p=>
  have e1:D (((x::p).length:Int)>0)=X:=by simp
  rw[e1];rfl
def LQ(k:Int):Int:=if k=1 then 4 else if k=4 then 1 else if k=2 then 3 else if k=3 then 2 else k
theorem cIs(k:Int):vO k=U (LQ k):=by
 unfold vO LQ
 by_cases h1:k=1
 .subst h1;rfl
 by_cases h2:k=4
 .subst h2;rfl
 by_cases h3:k=2
 .subst h3;rfl
 by_cases h4:k=3
 .subst h4;rfl
 have b1:(k==1)=Y:=by simpa using h1
 have b2:(k==4)=Y:=by simpa using h2
 have b3:(k==2)=Y:=by simpa using h3
 have b4:(k==3)=Y:=by simpa using h4
 rw[b1,b2,b3,b4,zS h1,zS h2,zS h3,zS h4];rfl
theorem cH6(k:Int):sF k=U (LQ k):=by
 unfold sF LQ
 by_cases h1:k=1
 .subst h1;rfl
 by_cases h2:k=4
 .subst h2;rfl
 by_cases h3:k=2
 .subst h3;rfl
 by_cases h4:k=3
 .subst h4;rfl
 have b1:(k==1)=Y:=by simpa using h1
 have b2:(k==4)=Y:=by simpa using h2
 have b3:(k==2)=Y:=by simpa using h3
 have b4:(k==3)=Y:=by simpa using h4
 rw[b1,b2,b3,b4,zS h1,zS h2,zS h3,zS h4];rfl
def kR(n:Int):Bool:=B3 n 0 2147483646
theorem Lh(n:Int):dL n=U (kR n):=by unfold dL kR;rw[gX];rfl
theorem Ln(n:Int):nY n=U (kR n):=by unfold nY kR;rw[fC];rfl
def JT(b s:Int):Int:=if kR b&&kR s then CM (wr (b+s)) 2147483647 else 0
def JX(b s:Int):Int:=if kR b&&kR s then CM (wr ((wr (b - s))+2147483647)) 2147483647 else 0
theorem XC(b s:Int):yD b s=U (JT b s):=by
 unfold yD JT;simp only[Lh,aA];cases kR b<;>cases kR s<;>rfl
theorem XT(b s:Int):yF b s=U (JT b s):=by
 unfold yF JT;simp only[Ln,aA];cases kR b<;>cases kR s<;>rfl
theorem bUw(b s:Int):HO b s=U (JX b s):=by
 unfold HO JX;simp only[Lh,aA];cases kR b<;>cases kR s<;>rfl
theorem bVl(b s:Int):HM b s=U (JX b s):=by
 unfold HM JX;simp only[Ln,aA];cases kR b<;>cases kR s<;>rfl
def M5(k:Int)(b:Int)(h:den cH):Int:=if uD k then JX b h.2.2.2.2 else JT b h.2.2.2.2
def EJ(p:den Cb)(n:Nat):Int:=(p.2.2.2.take n).foldl (M5 p.1) p.2.2.1
theorem WL{p:den Cb}{n:Nat}(hn:n<=p.2.2.2.length)(hl:p.2.2.2.length<=549755813888):mY p (n:Int)=U (EJ p n):=by
 unfold mY EJ A0;have e1:B3 (n:Int) 0 (p.2.2.2.length:Int)=X:=by rw[bQ];omega
 have e2:bG (0:Int) (n:Int) (p.2.2.2.length:Int)=X:=by simp[bG];omega
 rw[gX,e1,aA,e2,fL];have hlen:(p.2.2.2.take n).length<=4611686018427387904:=by rw[Dy];omega
 rw[fV (λk (b:Int)=>(b,(k:Int))) (p.2.2.1,(0:Int)) p.2.2.1 (p.2.2.2.take n) (λ_ h b=>M5 p.1 b h) (λ_=>0) (λ_=>0) 0 id rfl hlen (by rw[sum_nil];exact Cz _) (λ_ _ _=>Cz _) (λk x b hi hx hd hw hk hb=>by
  simp only[hd,hi,hw,zZ,aA,O3,bUw,XC,M5];cases uD p.1<;>rfl) (λb=>by simp),rS (λb h=>M5 p.1 b h)]
 rfl
theorem WN{p:den Cb}{n:Nat}(hn:n<=p.2.2.2.length)(hl:p.2.2.2.length<=549755813888):kT p (n:Int)=U (EJ p n):=by
 unfold kT EJ A0;have e1:B3 (n:Int) 0 (p.2.2.2.length:Int)=X:=by rw[bQ];omega
 have e3:(p.2.2.2.take n).length=n:=by rw[Dy];omega
 rw[fC,e1,aA];rw[fV (λk (b:Int)=>(b,(k:Int))) (p.2.2.1,(0:Int)) p.2.2.1 (p.2.2.2.take n) (λ_ h b=>M5 p.1 b h) (λ_=>0) (λ_=>0) 0 id rfl (by rw[e3];omega) (by rw[sum_nil];exact Cz _) (λ_ _ _=>Cz _) (λk x b hi hx hd hw hk hb=>by
  have hx':p.2.2.2[k]? =U x:=by rw[List.getElem?_take]at hx;split at hx;exact hx;cases hx
  rw[e3]at hd;simp only[hd,hw,zZ,aA,aQ,hx',OB,bVl,XT,M5];cases uD p.1<;>rfl) (λb=>by rw[e3];simp),rS (λb h=>M5 p.1 b h)]
 rfl
def Gi(p:den Cb):den Cb:=(LQ p.1,p.2.1,EJ p p.2.2.2.length,p.2.2.2.reverse)
theorem bUn{l:eV}(hl:l.length<=549755813888):nA l=U l.reverse:=by
 unfold nA Cp;have e:wr ((l.length:Int) - 1)=(l.length:Int) - 1:=rJ hl;rw[e,TP (λk (a:eV)=>(k,a)) ((l.length:Int) - 1,[]) [] l (λx a=>a++[x]) Cr (λ_=>1) 549755813888 id rfl (by omega) (by rw[cT];simpa using hl) (λx a=>by simp) (λk x a hi hx hd hw hk hb=>by
  simp only[hd,hi,hw,zZ,aA,aD,aC (b:=40) (n:=a.length) (m:=1) (by decide) hb]) (λa=>by simp),PR (λx=>x)]
 simp
theorem cE0{p:den Cb}(hl:p.2.2.2.length<=549755813888):vK p=U (Gi p):=by
 unfold vK Gi B6;simp only[cIs,aD,WL (Cz _) hl,bUn hl,aA]
theorem cFx{p:den Cb}(hl:p.2.2.2.length<=549755813888):vN p=U (Gi p):=by
 unfold vN Gi B6 Cp A0;simp only[cH6,aD,WN (Cz _) hl,bB,cB,bL,bJ,bO,aA];have e:wr ((p.2.2.2.length:Int) - 1)=(p.2.2.2.length:Int) - 1:=rJ hl;rw[e,TP (λk (a:eV)=>(k,LQ p.1,p.2.1,EJ p p.2.2.2.length,a)) ((p.2.2.2.length:Int) - 1,LQ p.1,p.2.1,EJ p p.2.2.2.length,[]) [] p.2.2.2 (λx a=>a++[x]) Cr (λ_=>1) 549755813888 (λa=>(LQ p.1,p.2.1,EJ p p.2.2.2.length,a)) rfl (by omega) (by rw[cT];simpa using hl) (λx a=>by simp) (λk x a hi hx hd hw hk hb=>by
  simp only[hd,hi,hw,zZ,aA,aD,aC (b:=40) (n:=a.length) (m:=1) (by decide) hb]) (λa=>by simp),PR (λx=>x)]
 simp
def I8(p:den B4):den B4:=p.reverse.map Gi
theorem XV{p:den B4}(h:Cc 549755813888 B4 p):kA p=U (I8 p):=by
 unfold kA I8 B6;have e:wr ((p.length:Int) - 1)=(p.length:Int) - 1:=rJ h.1;rw[e,TP (λk (a:Ci)=>(k,a)) ((p.length:Int) - 1,[]) [] p (λx a=>a++[Gi x]) Cr (λ_=>1) 549755813888 id rfl (by have :=h.1;omega) (by rw[cT];simpa using h.1) (λx a=>by simp) (λk x a hi hx hd hw hk hb=>by
  have hxl:=(h.2 x (Cm hx)).2.2.2.1;simp only[hd,hi,hw,zZ,aA,aD,cE0 hxl,aC (b:=48) (n:=a.length) (m:=1) (by decide) hb]) (λa=>by simp),PR Gi]
 simp
theorem XB{p:den B4}(h:Cc 549755813888 B4 p):jX p=U (I8 p):=by
 unfold jX I8 B6;have e:wr ((p.length:Int) - 1)=(p.length:Int) - 1:=rJ h.1;rw[e,TP (λk (a:Ci)=>(k,a)) ((p.length:Int) - 1,[]) [] p (λx a=>a++[Gi x]) Cr (λ_=>1) 549755813888 id rfl (by have :=h.1;omega) (by rw[cT];simpa using h.1) (λx a=>by simp) (λk x a hi hx hd hw hk hb=>by
  have hxl:=(h.2 x (Cm hx)).2.2.2.1;simp only[hd,hi,hw,zZ,aA,aD,cFx hxl,aC (b:=48) (n:=a.length) (m:=1) (by decide) hb]) (λa=>by simp),PR Gi]
 simp
theorem bSu(p:den Cb):tot Cb (Gi p)=tot Cb p:=by
 show tot ti _+(tot ti _+(tot ti _+tot (.sl cH) p.2.2.2.reverse))=tot ti _+(tot ti _+(tot ti _+tot (.sl cH) p.2.2.2));rw[X3];rfl
theorem aY7{t:Ty}(g:den t->den t)(hg:∀x,tot t (g x)=tot t x):∀l:List (den t),tot (.sl t) (l.map g)=tot (.sl t) l
 | []=>rfl
 | x::l=>by rw[CA,kD,kD,hg,aY7 g hg l]
theorem KY(p:den B4):tot B4 (I8 p)=tot B4 p:=by
 show tot (.sl Cb) (p.reverse.map Gi)=tot (.sl Cb) p;rw[aY7 Gi bSu,X3]
def OO(pk:den A9)(kind seq:Int)(pay:List Int):den A9:=mK kind (I8 pk.2.2.2.1) pk.2.2.2.2.2.2.2.1 seq pay
theorem cE1{pk:den A9}{kind seq:Int}{pay:List Int}(h:tot B4 pk.2.2.2.1<=274877906944)(hp:pay.length<=549755813888):Lm pk kind seq pay=U (Ca (OO pk kind seq pay)):=by
 unfold Lm OO aK A8;rw[XV ((bH h).mono (by decide)),aA,SJ (by rw[KY];exact h) hp];rfl
theorem cE2{pk:den A9}{kind seq:Int}{pay:List Int}(h:tot B4 pk.2.2.2.1<=274877906944)(hp:pay.length<=549755813888):Lp pk kind seq pay=U (Ca (OO pk kind seq pay)):=by
 unfold Lp OO aK A8;rw[XB ((bH h).mono (by decide)),aA,SV (by rw[KY];exact h) hp];rfl
def pk0:den A9:=(0,0,0,[],0,0,0,0,0,[])
def GL(p:den A9)(b:Bool):q10:=(p.1,p.2.1,p.2.2.1,p.2.2.2.2.1,p.2.2.2.2.2.1,p.2.2.2.2.2.2.1,p.2.2.2.2.2.2.2.1,p.2.2.2.2.2.2.2.2.1,b,p.2.2.2.1,p.2.2.2.2.2.2.2.2.2)
def Hn(x:den Cq)(p:den A9):Bool:=Iv x p&& !D (p.2.2.2.2.2.2.2.2.1>=x.2.2.1)
def xT(x:den Cq)(p:den A9):den A9:=if Hn x p then OO p 2 p.2.2.2.2.2.2.2.2.1 [] else pk0
theorem cF9{x:den Cq}{p:den A9}(h:tot B4 p.2.2.2.1<=274877906944):IZ x p=U (GL (xT x p) (Hn x p)):=by
 unfold IZ xT Hn aK A1 B6 A0 A4 A3 A8 B0;simp only[aD,bM6,aA,cE1 (pay:=[]) h (by simp)];cases Iv x p<;>cases D (p.2.2.2.2.2.2.2.2.1>=x.2.2.1)<;>rfl
theorem cE5{x:den Cq}{p:den A9}(h:tot B4 p.2.2.2.1<=274877906944):Jc x p=U (GL (xT x p) (Hn x p)):=by
 unfold Jc xT Hn aK A1 B6 A0 A4 A3 A8 B0;simp only[aD,bNl,aA,cE2 (pay:=[]) h (by simp)];cases Iv x p<;>cases D (p.2.2.2.2.2.2.2.2.1>=x.2.2.1)<;>rfl
def tQ(f:den B7):Bool:=B3 f.2.2.2.2.2.2.1 0 ((f.2.2.2.2.2.1.length:Int) - 1)&&B3 f.2.2.2.1 0 ((f.2.2.2.2.1.length:Int) - 1)
def Gt(f:den B7):den A9:=
 if tQ f then mK 1 ((f.2.2.2.2.2.1[f.2.2.2.2.2.2.1.toNat]?).getD []) f.2.2.1 f.2.2.2.1 ((f.2.2.2.2.1[f.2.2.2.1.toNat]?).getD []) else pk0
theorem bHz{t:Ty}{l:List (den t)}{d:den t}{i:Nat}(hd:tot t d=0):tot t ((l[i]?).getD d)<=tot (.sl t) l:=by
 cases h:l[i]? with
 | none=>simp[hd]
 | some x=>have :=FY h;simp;omega
theorem WS{f:den B7}(h:tot B7 f<=274877906944):fB f=U (GL (Gt f) (tQ f)):=by
 have h0:=aP (aP (aP (aP h)));have hm:=DQ h0;have hp:=DQ (aP h0);have l1:=cO f.2.2.2.2.1;have l2:=cO f.2.2.2.2.2.1;unfold fB Gt tQ A1 A0 A4 A3 A8 B0;simp only[gX,rJ (n:=f.2.2.2.2.2.1.length) (by omega),rJ (n:=f.2.2.2.2.1.length) (by omega),aA];cases c1:B3 f.2.2.2.2.2.2.1 0 ((f.2.2.2.2.2.1.length:Int) - 1) with
 | false=>rfl
 | true=>
  cases c2:B3 f.2.2.2.1 0 ((f.2.2.2.2.1.length:Int) - 1) with
  | false=>rfl
  | true=>
   rw[bQ]at c1 c2;rw[OF c1.1 (by omega),OF c2.1 (by omega)];have e1:f.2.2.2.2.2.1[f.2.2.2.2.2.2.1.toNat]? =U (f.2.2.2.2.2.1[f.2.2.2.2.2.2.1.toNat]'(by omega)):=Cs (by omega);have e2:f.2.2.2.2.1[f.2.2.2.1.toNat]? =U (f.2.2.2.2.1[f.2.2.2.1.toNat]'(by omega)):=Cs (by omega);have t1:=FY e1;have t2:=FY e2;have t3:=cO (t:=tb) (f.2.2.2.2.1[f.2.2.2.1.toNat]'(by omega));simp only[aA,BZ,zY];rw[SJ (by omega) (by have t2:1+tot (.sl tb) _<=_:=t2;omega),e1,e2];rfl
theorem WT{f:den B7}(h:tot B7 f<=274877906944):eZ f=U (GL (Gt f) (tQ f)):=by
 have h0:=aP (aP (aP (aP h)));have hm:=DQ h0;have hp:=DQ (aP h0);have l1:=cO f.2.2.2.2.1;have l2:=cO f.2.2.2.2.2.1;unfold eZ Gt tQ A1 A0 A4 A3 A8 B0;simp only[fC,rJ (n:=f.2.2.2.2.2.1.length) (by omega),rJ (n:=f.2.2.2.2.1.length) (by omega),aA];cases c1:B3 f.2.2.2.2.2.2.1 0 ((f.2.2.2.2.2.1.length:Int) - 1) with
 | false=>cases B3 f.2.2.2.1 0 ((f.2.2.2.2.1.length:Int) - 1)<;>rfl
 | true=>
  cases c2:B3 f.2.2.2.1 0 ((f.2.2.2.2.1.length:Int) - 1) with
  | false=>rfl
  | true=>
   rw[bQ]at c1 c2;rw[OF c1.1 (by omega),OF c2.1 (by omega)];have e1:f.2.2.2.2.2.1[f.2.2.2.2.2.2.1.toNat]? =U (f.2.2.2.2.2.1[f.2.2.2.2.2.2.1.toNat]'(by omega)):=Cs (by omega);have e2:f.2.2.2.2.1[f.2.2.2.1.toNat]? =U (f.2.2.2.2.1[f.2.2.2.1.toNat]'(by omega)):=Cs (by omega);have t1:=FY e1;have t2:=FY e2;have t3:=cO (t:=tb) (f.2.2.2.2.1[f.2.2.2.1.toNat]'(by omega));simp only[aA,BZ,zY];rw[SV (by omega) (by have t2:1+tot (.sl tb) _<=_:=t2;omega),e1,e2];rfl
def Ef(f:den B7):Int:=if wr (f.2.2.2.2.2.2.1+1)>=(f.2.2.2.2.2.1.length:Int) then 0 else wr (f.2.2.2.2.2.2.1+1)
def E0(f:den B7)(c w:Int):den B7:=(f.1,f.2.1,f.2.2.1,f.2.2.2.1,f.2.2.2.2.1,f.2.2.2.2.2.1,c,w,f.2.2.2.2.2.2.2.2)
theorem RV(f:den B7)(c w:Int):tot B7 (E0 f c w)=tot B7 f:=rfl
def aI(f:den B7):den B7×den A9×Bool:=
 if tQ f then
  if f.2.2.2.2.2.2.2.1==0 then (E0 f f.2.2.2.2.2.2.1 1,Gt f,X)
  else if f.2.2.2.2.2.2.2.1==4 then (E0 f (Ef f) 1,Gt (E0 f (Ef f) 1),tQ (E0 f (Ef f) 1))
  else (E0 f f.2.2.2.2.2.2.1 (wr (f.2.2.2.2.2.2.2.1+1)),pk0,Y)
 else (E0 f f.2.2.2.2.2.2.1 0,pk0,Y)
def fU(f:den B7)(p:den A9)(b:Bool):q11:=
 (f.1,f.2.1,f.2.2.1,f.2.2.2.1,f.2.2.2.2.2.2.1,f.2.2.2.2.2.2.2.1,p.1,p.2.1,p.2.2.1,p.2.2.2.2.1,p.2.2.2.2.2.1,p.2.2.2.2.2.2.1,p.2.2.2.2.2.2.2.1,p.2.2.2.2.2.2.2.2.1,b,f.2.2.2.2.1,f.2.2.2.2.2.1,f.2.2.2.2.2.2.2.2,p.2.2.2.1,p.2.2.2.2.2.2.2.2.2)
theorem bLs(f:den B7):wD f=U (Ef f):=by
 unfold wD Ef A4 A3
 by_cases h:wr (f.2.2.2.2.2.2.1+1)>=(f.2.2.2.2.2.1.length:Int)
 .rw[zX h,zT h];rfl
 .rw[zW h,zS h];rfl
theorem cEv{f:den B7}(h:tot B7 f<=274877906944):K2 f=U (fU (aI f).1 (aI f).2.1 (aI f).2.2):=by
 unfold K2 aI A1 Ct aS bA bZ dS oF A0 A4 A3 A8 B0 B8;have e:fB (f.1,f.2.1,f.2.2.1,f.2.2.2.1,f.2.2.2.2.1,f.2.2.2.2.2.1,Ef f,1,f.2.2.2.2.2.2.2.2)=U (GL (Gt (E0 f (Ef f) 1)) (tQ (E0 f (Ef f) 1))):=WS (f:=E0 f (Ef f) 1) h;simp only[aD,OA ((bH h).mono (by decide)),WS h,bLs,aA,bB,cB,bL,bJ,bO,tS,e];cases c1:tQ f with
 | false=>simp only[GL,Cn,zZ];rfl
 | true=>
  simp only[GL,BZ,zY,zV];cases c2:f.2.2.2.2.2.2.2.1==0 with
  | true=>rfl
  | false=>
   cases c3:f.2.2.2.2.2.2.2.1==4 with
   | true=>rfl
   | false=>rfl
theorem bW4{c:Int}{n:Nat}(h0:0<=c)(h1:c<=(n:Int) - 1)(hn:n<=549755813888):B3 c 0 (wr ((n:Int) - 2))= !D (wr (c+1)>=(n:Int)):=by
 have e1:wr ((n:Int) - 2)=(n:Int) - 2:=wri (by omega) (by omega);have e2:wr (c+1)=c+1:=wri (by omega) (by omega);rw[e1,e2,CG,bQ];simp;omega
theorem bUt{f:den B7}(h:Cc 549755813888 B7 f)(hs:B3 f.2.2.2.2.2.2.1 0 ((f.2.2.2.2.2.1.length:Int) - 1)=X):HF f=U (tS (E0 f (Ef f) f.2.2.2.2.2.2.2.1)):=by
 unfold HF Ef A6 Ct A0 A4 A3;have hl:=h.2.2.2.2.2.1.1;rw[bQ]at hs;simp only[aD,MH h,fC,bW4 hs.1 hs.2 hl,aA,tS]
 by_cases hc:wr (f.2.2.2.2.2.2.1+1)>=(f.2.2.2.2.2.1.length:Int)
 .rw[zX hc,zT hc];rfl
 .rw[zW hc,zS hc];rfl
theorem cGl{f:den B7}(h:tot B7 f<=274877906944):KC f=U (fU (aI f).1 (aI f).2.1 (aI f).2.2):=by
 unfold KC aI A1 Ct aS bA bZ dS oF A0 A4 A3 A8 B0 B8;have sm:Cc 549755813888 B7 f:=(bH h).mono (by decide);have e:eZ (f.1,f.2.1,f.2.2.1,f.2.2.2.1,f.2.2.2.2.1,f.2.2.2.2.2.1,Ef f,1,f.2.2.2.2.2.2.2.2)=U (GL (Gt (E0 f (Ef f) 1)) (tQ (E0 f (Ef f) 1))):=WT (f:=E0 f (Ef f) 1) h;simp only[aD,MH sm,WT h,aA,bB,cB,bL,bJ,bO];cases c1:tQ f with
 | false=>simp only[GL,tS,Cn,zZ];rfl
 | true=>
  have hs:B3 f.2.2.2.2.2.2.1 0 ((f.2.2.2.2.2.1.length:Int) - 1)=X:=by
   unfold tQ at c1;simp only[Ck]at c1;exact c1.1
  rw[bUt sm hs];simp only[GL,tS,E0,aA,BZ,zY,zV,e];cases c2:f.2.2.2.2.2.2.2.1==0 with
  | true=>rfl
  | false=>
   cases c3:f.2.2.2.2.2.2.2.1==4 with
   | true=>rfl
   | false=>rfl
def dQ(p:den A9):Bool:=B3 p.2.2.2.2.1 0 ((p.2.2.2.1.length:Int) - 1)&&B3 p.2.2.2.2.2.1 0 (((((p.2.2.2.1[p.2.2.2.2.1.toNat]?).getD (0,0,0,[])).2.2.2.length:Nat):Int) - 1)
def fP(p:den A9):Int:=if dQ p then ((((p.2.2.2.1[p.2.2.2.2.1.toNat]?).getD (0,0,0,[])).2.2.2[p.2.2.2.2.2.1.toNat]?).getD (0,0,0,0,0)).1 else -1
theorem PO{p:den A9}(h:dQ p=X):∃(i j:Nat) (x:den Cb) (y:den cH),p.2.2.2.2.1=(i:Int)/\p.2.2.2.2.2.1=(j:Int)/\p.2.2.2.1[i]? =U x/\x.2.2.2[j]? =U y/\fP p=y.1:=by
 have h':=h;unfold dQ at h';simp only[Ck,bQ]at h';obtain⟨⟨h1,h2⟩,h3,h4⟩:=h';obtain⟨x,hx⟩:=Ld h1 h2;rw[hx,CJ]at h4;obtain⟨y,hy⟩:=Ld h3 h4;refine⟨p.2.2.2.2.1.toNat,p.2.2.2.2.2.1.toNat,x,y,(Mo h1).symm,(Mo h3).symm,hx,hy,?_⟩;unfold fP;rw[h,zT rfl,hx,CJ,hy,CJ]
theorem KZ{p:den A9}(c:dQ p=Y):fP p= -1:=by unfold fP;rw[c];rfl
theorem cCb{p:den A9}(h:Cc 549755813888 A9 p):HL p=U (dQ p):=by
 unfold HL dQ A0 A4;have l1:=h.2.2.2.1.1;rw[gX,rJ l1,aA];cases c1:B3 p.2.2.2.2.1 0 ((p.2.2.2.1.length:Int) - 1) with
 | false=>rfl
 | true=>
  rw[bQ]at c1;obtain⟨x,hx⟩:=Ld c1.1 c1.2;rw[J5 c1.1 hx,hx];have l2:=(h.2.2.2.1.2 _ (Cm hx)).2.2.2.1;simp only[zZ,aA,gX,rJ l2,CJ,Cw]
theorem Ot{p:den A9}(h:Cc 549755813888 A9 p):fY p=U (fP p):=by
 unfold fY aK A0 A4;simp only[aD,cCb h,aA];cases c:dQ p with
 | false=>rw[KZ c];rfl
 | true=>
  obtain⟨i,j,x,y,h1,h2,h3,h4,h5⟩:=PO c;rw[h1,h2,h5];simp only[BZ,zY,aQ,h3,h4,aA]
theorem O9{p:den A9}(h:Cc 549755813888 A9 p):gA p=U (fP p):=by
 unfold gA A0 A4;have l1:=h.2.2.2.1.1;rw[fC,rJ l1,aA];cases c1:B3 p.2.2.2.2.1 0 ((p.2.2.2.1.length:Int) - 1) with
 | false=>rw[KZ (by unfold dQ;rw[c1];rfl)];rfl
 | true=>
  have c1':=c1;rw[bQ]at c1';obtain⟨x,hx⟩:=Ld c1'.1 c1'.2;rw[J5 c1'.1 hx];have l2:=(h.2.2.2.1.2 _ (Cm hx)).2.2.2.1;simp only[BZ,zY,aA,fC,rJ l2];cases c2:B3 p.2.2.2.2.2.1 0 ((x.2.2.2.length:Int) - 1) with
  | false=>rw[KZ (by unfold dQ;rw[c1,hx,CJ,c2];rfl)];rfl
  | true=>
   have c:dQ p=X:=by unfold dQ;rw[c1,hx,CJ,c2];rfl
   rw[bQ]at c2;obtain⟨y,hy⟩:=Ld c2.1 c2.2;rw[J5 c2.1 hy];unfold fP;rw[c,zT rfl,hx,CJ,hy,CJ];rfl
def Qq(p:den B4)(i j:Nat):den B4:=
 match p[i]? with
 | some x=>p.take i++[(x.1,x.2.1,x.2.2.1,x.2.2.2.take (j+1))]
 | none=>[]
def yO(p:den A9):den B4:=if fP p<0 then [] else Qq p.2.2.2.1 p.2.2.2.2.1.toNat p.2.2.2.2.2.1.toNat
theorem bHb{p:den A9}(h:Cc 549755813888 A9 p):kJ p=U (yO p):=by
 unfold kJ yO aK A0 A4;simp only[aD,Ot h,aA]
 by_cases hc:fP p<0
 .rw[zX hc,zZ,zT hc]
 .rw[zW hc,zY,zS hc];cases c:dQ p with
  | false=>rw[KZ c]at hc;exact absurd (by decide) hc
  | true=>
   obtain⟨i,j,x,y,h1,h2,h3,h4,h5⟩:=PO c;have l1:=h.2.2.2.1.1;have l2:=(h.2.2.2.1.2 _ (Cm h3)).2.2.2.1;have hi:=(Cu.1 h3).1;have hj:=(Cu.1 h4).1;have e1:wr ((i:Int)+1)=((i+1:Nat):Int):=by have :wr ((i:Int)+1)=(i:Int)+1:=wri (by omega) (by omega);rw[this];rfl
   have e2:wr ((j:Int)+1)=((j+1:Nat):Int):=by have :wr ((j:Int)+1)=(j:Int)+1:=wri (by omega) (by omega);rw[this];rfl
   have e3:bG (0:Int) ((i+1:Nat):Int) (p.2.2.2.1.length:Int)=X:=by simp[bG];omega
   have e4:bG (0:Int) ((j+1:Nat):Int) (x.2.2.2.length:Int)=X:=by simp[bG];omega
   have e5:p.2.2.2.1.take (i+1)=p.2.2.2.1.take i++[x]:=VE h3;have e6:(p.2.2.2.1.take i).length=i:=by rw[Dy];omega
   rw[h1,h2,e1,e2,O5 h.2.2.2.1,aA,e3,zZ];simp only[Cj,e5];have e7:D ((i:Int)<((p.2.2.2.1.take i++[x]).length:Int))=X:=by simp;omega
   have e8:(p.2.2.2.1.take i++[x])[i]? =U x:=by rw[List.getElem?_append_right (by omega),e6];simp
   have e9:∀z,(p.2.2.2.1.take i++[x]).set i z=p.2.2.2.1.take i++[z]:=λz=>by rw[List.set_append_right _ _ (by omega),e6];simp
   simp only[bF,e7,e8,e4,e9,zZ,aA,fL,decide_true];unfold Qq;rw[h3]
theorem bHr{p:den A9}(h:Cc 549755813888 A9 p):kI p=U (yO p):=by
 unfold kI yO aK B6 A0 A4;simp only[aD,O9 h,aA]
 by_cases hc:fP p<0
 .rw[zX hc,zZ,zT hc]
 .rw[zW hc,zY,zS hc];cases c:dQ p with
  | false=>rw[KZ c]at hc;exact absurd (by decide) hc
  | true=>
   obtain⟨i,j,x,y,h1,h2,h3,h4,h5⟩:=PO c;have l1:=h.2.2.2.1.1;have hi:=(Cu.1 h3).1;have hj:=(Cu.1 h4).1;have l2:=(h.2.2.2.1.2 _ (Cm h3)).2.2.2.1;have e2:wr ((j:Int)+1)=((j+1:Nat):Int):=by have :wr ((j:Int)+1)=(j:Int)+1:=wri (by omega) (by omega);rw[this];rfl
   have e4:bG (0:Int) ((j+1:Nat):Int) (x.2.2.2.length:Int)=X:=by simp[bG];omega
   have e5:p.2.2.2.1.take (i+1)=p.2.2.2.1.take i++[x]:=VE h3;have e6:(p.2.2.2.1.take (i+1)).length=i+1:=by rw[Dy];omega
   rw[h1,h2,e2]
   let cutX:Nat->den Cb->den Cb:=λk z=>if k=i then (z.1,z.2.1,z.2.2.1,z.2.2.2.take (j+1)) else z
   rw[fV (λk (a:Ci)=>((k:Int),a)) ((0:Int),[]) [] (p.2.2.2.1.take (i+1)) (λk z a=>a++[cutX k z]) Cr (λ_=>1) 549755813888 id rfl (by omega) (by rw[cT];simp;omega) (λk z a=>by simp) (λk z a hz hx hd hw hk hb=>by
    rw[e6]at hd hk;have hz':=(So hx).1;have hd':D ((k:Int)<=(i:Int))=X:=by simp;omega
    have sz:=h.2.2.2.1.2 _ (Cm hz');simp only[hd',hw,zZ,aA,aQ,hz',aD,bHv sz]
    by_cases hki:k=i
    .subst hki;rw[h3]at hz';injection hz' with hz';subst hz';have e7:((k:Int)==(k:Int))=X:=by simp
     simp only[e7,zZ,e4,aA,fL,aC (b:=48) (n:=a.length) (m:=1) (by decide) hb,cutX,zV]
    .have e7:((k:Int)==(i:Int))=Y:=by simp;omega
     simp only[e7,zY,aA,aC (b:=48) (n:=a.length) (m:=1) (by decide) hb,zZ,cutX,zS hki]) (λa=>by
    have e10:D (((i+1:Nat):Int)<=(i:Int))=Y:=by simp<;>omega
    rw[e6];simp only[e10,zY];rfl)]
   have key:∀(l:Ci) (k:Nat) (a:Ci),k+l.length<=i->cW (λk z a=>a++[cutX k z]) k l a=a++l:=by
    intro l
    induction l with
    | nil=>intro k a _;simp[cW]
    | cons z l ih=>
     intro k a hk;simp only[C6]at hk;simp only[cW];rw[ih (k+1) _ (by omega)];have :cutX k z=z:=zS (by omega);rw[this];simp
   have fa:∀(l:Ci) (z:den Cb) (k:Nat) (a:Ci),cW (λk z a=>a++[cutX k z]) k (l++[z]) a=cW (λk z a=>a++[cutX k z]) k l a++[cutX (k+l.length) z]:=by
    intro l
    induction l with
    | nil=>intro z k a;rfl
    | cons y l ih=>
     intro z k a;simp only[List.cons_append,cW,C6];rw[ih];congr 3;omega
   have e8:(p.2.2.2.1.take i).length=i:=by rw[Dy];omega
   rw[e5,fa,key _ 0 [] (by omega),e8];have :cutX (0+i) x=(x.1,x.2.1,x.2.2.1,x.2.2.2.take (j+1)):=zT (by omega);rw[this];unfold Qq;rw[Cj,Cj,h3];rfl
theorem bKq(p:den B4)(i j:Nat):tot B4 (Qq p i j)<=tot B4 p:=by
 unfold Qq;cases h:p[i]? with
 | none=>exact C3 _
 | some x=>
  have h1:tot B4 (p.take (i+1))<=tot B4 p:=VZ (t:=Cb) p (i+1);rw[VE h]at h1;have h2:tot (.sl Cb) (p.take i++[x])<=tot (.sl Cb) p:=h1;show tot (.sl Cb) (p.take i++[(x.1,x.2.1,x.2.2.1,x.2.2.2.take (j+1))])<=tot (.sl Cb) p;rw[wA,Lk]at h2 ⊢;have h3:tot Cb (x.1,x.2.1,x.2.2.1,x.2.2.2.take (j+1))<=tot Cb x:=by
   have :=VZ (t:=cH) x.2.2.2 (j+1);show 0+(0+(0+tot (.sl cH) (x.2.2.2.take (j+1))))<=0+(0+(0+tot (.sl cH) x.2.2.2));omega
  omega
theorem PN(p:den A9):tot B4 (yO p)<=tot B4 p.2.2.2.1:=by
 unfold yO;split
 .exact C3 _
 .exact bKq _ _ _
def vi:Nat->Nat->List Int
 | 0,n=>[(n:Int)]
 | k+1,n=>if n<128 then [(n:Int)] else (((n % 128+128:Nat):Int))::vi k (n / 128)
theorem bS7:∀(k n:Nat),(vi k n).length<=k+1
 | 0,n=>by simp[vi]
 | k+1,n=>by
  unfold vi;split
  .simp
  .have :=bS7 k (n / 128);simp only[C6];omega
theorem Oq{n:Nat}(h:n<256):IntKind.wrap .u8 (n:Int)=(n:Int):=by
 simp only[IntKind.wrap,IntKind.signed,IntKind.bits];simp;omega
theorem cG9:∀(k n:Nat) (out:List Int),n<128 ^ (k+1)->out.length+k+1<=549755813888->n<9223372036854775808->(@Option.bind q27 (lI) (@aB q27 q27 (λ(s4:Int×lI)=>cond (D (s4.1>=(128:Int))) (cond (aF 1 s4.2.length 1) (U (A7 (wr (Int.tdiv s4.1 (128:Int)),s4.2++[IntKind.wrap .u8 (wr ((CM s4.1 (128:Int))+(128:Int)))]))) W) (U (A2 (s4.1,s4.2)))) ((n:Int),out)) λ(s5:Int×lI)=>cond (aF 1 s5.2.length 1) (U (s5.2++[IntKind.wrap .u8 s5.1])) W)=U (out++vi k n)
 | 0,n,out,hn,ho,hb=>by
  have hn:n<128:=by simpa using hn
  have e1:D ((n:Int)>=128)=Y:=by simp;omega
  rw[aH (r:=((n:Int),out)) (by simp only[e1,zY]),aA];simp only[aC (b:=1) (n:=out.length) (m:=1) (by decide) (by omega),zZ,Oq (n:=n) (by omega),vi]
 | k+1,n,out,hn,ho,hb=>by
  by_cases h:n<128
  .have e1:D ((n:Int)>=128)=Y:=by simp;omega
   rw[aH (r:=((n:Int),out)) (by simp only[e1,zY]),aA];simp only[aC (b:=1) (n:=out.length) (m:=1) (by decide) (by omega),zZ,Oq (n:=n) (by omega),vi,zT h]
  .have e1:D ((n:Int)>=128)=X:=by simp;omega
   have hd:n / 128<128 ^ (k+1):=by rw[Nat.div_lt_iff_lt_mul (by decide)];rw[Nat.pow_succ]at hn;exact hn
   have e2:Int.tdiv (n:Int) 128=((n / 128:Nat):Int):=rfl;have e3:CM (n:Int) 128=((n % 128:Nat):Int):=rfl;have e4:wr (((n % 128:Nat):Int)+128)=((n % 128+128:Nat):Int):=by
    have :wr (((n % 128:Nat):Int)+128)=((n % 128:Nat):Int)+128:=wri (by omega) (by omega);rw[this];rfl
   have e5:wr ((n / 128:Nat):Int)=((n / 128:Nat):Int):=wri (by omega) (by omega);rw[aO (s':=(((n / 128:Nat):Int),out++[((n % 128+128:Nat):Int)])) (by
    simp only[e1,zZ,aC (b:=1) (n:=out.length) (m:=1) (by decide) (by omega),e2,e3,e4,e5,Oq (n:=n % 128+128) (by omega)])]
   rw[cG9 k (n / 128) _ hd (by simp;omega) (by omega)];simp only[vi,zS h,CY,R2]
theorem bKe{n:Nat}(h:n<9223372036854775808):DK .i64 (n:Int) 127=((n % 128:Nat):Int):=by
 have e:(BitVec.ofInt 64 (n:Int) &&& BitVec.ofInt 64 127).toNat=n % 128:=by
  rw[BitVec.toNat_and];have e1:(BitVec.ofInt 64 (n:Int)).toNat=n:=by simp;omega
  have e2:(BitVec.ofInt 64 127).toNat=2 ^ 7 - 1:=by decide
  rw[e1,e2,Nat.and_two_pow_sub_one_eq_mod]
 unfold DK;show IntKind.i64.wrap (((BitVec.ofInt 64 (n:Int) &&& BitVec.ofInt 64 127).toNat:Nat):Int)=_;rw[e];exact wri (by omega) (by omega)
theorem cG1{n:Nat}(h:n<128):Fr .i64 (n:Int) 128=((n+128:Nat):Int):=by
 have e:(BitVec.ofInt 64 (n:Int) ||| BitVec.ofInt 64 128).toNat=n+128:=by
  rw[BitVec.toNat_or];have e1:(BitVec.ofInt 64 (n:Int)).toNat=n:=by simp;omega
  have e2:(BitVec.ofInt 64 128).toNat=128:=by decide
  rw[e1,e2,Nat.or_comm];have :=Nat.two_pow_add_eq_or_of_lt (i:=7) (b:=n) h 1;simp only[Nat.mul_one]at this;rw[<- this];omega
 unfold Fr;show IntKind.i64.wrap (((BitVec.ofInt 64 (n:Int) ||| BitVec.ofInt 64 128).toNat:Nat):Int)=_;rw[e];exact wri (by omega) (by omega)
theorem cMc(n:Nat):shr .i64 (n:Int) 7=((n / 128:Nat):Int):=by
 unfold shr;show Int.fdiv (n:Int) (2 ^ 7)=_;rw[Int.fdiv_eq_ediv_of_nonneg _ (by decide)];rfl
theorem cKj:∀(k n:Nat) (out:List Int),n<128 ^ (k+1)->out.length+k+1<=549755813888->n<9223372036854775808->(@Option.bind q27 (lI) (@aB q27 q27 (λ(s3:Int×lI)=>cond (D (s3.1>(127:Int))) (cond (aF 1 s3.2.length 1) (U (A7 (shr .i64 s3.1 (7:Int),s3.2++[IntKind.wrap .u8 (Fr .i64 (DK .i64 s3.1 (127:Int)) (128:Int))]))) W) (U (A2 (s3.1,s3.2)))) ((n:Int),out)) λ(s4:Int×lI)=>cond (aF 1 s4.2.length 1) (U (s4.2++[IntKind.wrap .u8 s4.1])) W)=U (out++vi k n)
 | 0,n,out,hn,ho,hb=>by
  have hn:n<128:=by simpa using hn
  have e1:D ((n:Int)>127)=Y:=by simp;omega
  rw[aH (r:=((n:Int),out)) (by simp only[e1,zY]),aA];simp only[aC (b:=1) (n:=out.length) (m:=1) (by decide) (by omega),zZ,Oq (n:=n) (by omega),vi]
 | k+1,n,out,hn,ho,hb=>by
  by_cases h:n<128
  .have e1:D ((n:Int)>127)=Y:=by simp;omega
   rw[aH (r:=((n:Int),out)) (by simp only[e1,zY]),aA];simp only[aC (b:=1) (n:=out.length) (m:=1) (by decide) (by omega),zZ,Oq (n:=n) (by omega),vi,zT h]
  .have e1:D ((n:Int)>127)=X:=by simp;omega
   have hd:n / 128<128 ^ (k+1):=by rw[Nat.div_lt_iff_lt_mul (by decide)];rw[Nat.pow_succ]at hn;exact hn
   rw[aO (s':=(((n / 128:Nat):Int),out++[((n % 128+128:Nat):Int)])) (by
    simp only[e1,zZ,aC (b:=1) (n:=out.length) (m:=1) (by decide) (by omega),cMc,bKe hb,cG1 (n:=n % 128) (by omega),Oq (n:=n % 128+128) (by omega)])]
   rw[cKj k (n / 128) _ hd (by simp;omega) (by omega)];simp only[vi,zS h,CY,R2]
def EU(b:List Int)(n:Int):List Int:=if B3 n 0 1000000000000 then b++vi 5 n.toNat else b
theorem Wp(b:List Int)(n:Int):(EU b n).length<=b.length+6:=by
 unfold EU;split
 .have :=bS7 5 n.toNat;rw[C7];omega
 .omega
theorem cI2{b:List Int}{n:Int}(h:b.length+6<=549755813888):sW b n=U (EU b n):=by
 unfold sW EU A1;rw[On (by omega),gX];cases c:B3 n 0 1000000000000 with
 | false=>rfl
 | true=>
  rw[bQ]at c;obtain⟨m,rfl⟩:=Ew c.1;have :=cG9 5 m b (by simp only[show (128:Nat) ^ (5+1)=4398046511104 from by decide];omega) (by omega) (by omega);exact this
theorem cH0{b:List Int}{n:Int}(h:b.length+6<=549755813888):sS b n=U (EU b n):=by
 unfold sS EU A1;rw[aC (b:=1) (n:=([]:List Int).length) (by decide) (by simp;omega),fC];cases c:B3 n 0 1000000000000 with
 | false=>rfl
 | true=>
  rw[bQ]at c;obtain⟨m,rfl⟩:=Ew c.1;have :=cKj 5 m b (by simp only[show (128:Nat) ^ (5+1)=4398046511104 from by decide];omega) (by omega) (by omega);exact this
def JY(b l:List Int):List Int:=l.foldl EU b
theorem bZo(b l:List Int):(JY b l).length<=b.length+6 * l.length:=by
 unfold JY
 induction l generalizing b with
 | nil=>simp
 | cons x l ih=>
  have h1:=ih (EU b x);have h2:=Wp b x;simp only[EX,C6];omega
theorem bNb{α:Type}(l:List α):(l.map λ_=>6).sum=6 * l.length:=by
 induction l with
 | nil=>rfl
 | cons x l ih=>rw[CA,D6,ih,C6];omega
theorem cJq{b l:List Int}(h:b.length+6 * l.length<=549755813888):xM b l=U (JY b l):=by
 unfold xM JY;rw[fV (λk (a:List Int)=>(a,(k:Int))) (b,(0:Int)) b l (λ_ x a=>EU a x) Cr (λ_=>6) 549755813888 id rfl (by omega) (by rw[bNb];exact h) (λ_ x a=>Wp a x) (λk x a hi hx hd hw hk hb=>by
  simp only[hd,hi,hw,zZ,aA,cI2 (b:=a) (n:=x) hb]) (λa=>by simp),rS EU]
 rfl
theorem bTq{l:List Int}(h:6 * l.length<=549755813888):xB l=U (JY [] l):=by
 unfold xB;rw[cJq (by simpa using h)];rfl
theorem bTg{l:List Int}(h:6 * l.length<=549755813888):wU l=U (JY [] l):=by
 unfold wU JY;rw[fV (λk (a:List Int)=>((k:Int),a)) ((0:Int),[]) [] l (λ_ x a=>EU a x) Cr (λ_=>6) 549755813888 id rfl (by omega) (by rw[bNb];simpa using h) (λ_ x a=>Wp a x) (λk x a hi hx hd hw hk hb=>by
  simp only[hd,hi,hw,zZ,aA,cH0 (b:=a) (n:=x) hb]) (λa=>by simp),rS EU]
 rfl
def Hz(x:den CI):List Int:=if iL x then JY [] [x.1,x.2.1,x.2.2] else []
theorem Wg(x:den CI):(Hz x).length<=18:=by
 unfold Hz;split
 .exact bZo [] [x.1,x.2.1,x.2.2]
 .simp
theorem cJ2(x:den CI):lN x=U (Hz x):=by
 unfold lN Hz A6;rw[bTq (l:=[x.1,x.2.1,x.2.2]) (by simp)];simp only[aD,Og,aA];cases iL x<;>rfl
theorem cJm(x:den CI):mA x=U (Hz x):=by
 unfold mA Hz A6;rw[bTg (l:=[x.1,x.2.1,x.2.2]) (by simp)];simp only[aD,NV,aA];cases iL x<;>rfl
def dD(r now d:Int)(p:den A9):den A9:=mK 3 (I8 (yO p)) p.2.2.2.2.2.2.2.1 p.2.2.2.2.2.2.2.2.1 (Hz (r,d,if 1000000<wr (now+10) then 1000000 else wr (now+10)))
theorem cFq{t:den B2}{r now d:Int}{p:den A9}(h:tot A9 p<=274877906944):mE t r now d p=U (Ca (dD r now d p)):=by
 have h1:tot B4 p.2.2.2.1<=274877906944:=DQ (aP (aP (aP h)));have h2:=PN p;have sm:Cc 549755813888 A9 p:=(bH h).mono (by decide);have h3:=Wg (r,d,if 1000000<wr (now+10) then 1000000 else wr (now+10));unfold mE dD aK A8 B0;simp only[aD,Yv,aA,bHb sm];rw[XV ((bH (B5 h2 h1)).mono (by decide)),aA,cJ2,aA,SJ (by rw[KY];omega) (by omega)];rfl
theorem cFd{t:den B2}{r now d:Int}{p:den A9}(h:tot A9 p<=274877906944):jB t r now d p=U (Ca (dD r now d p)):=by
 have h1:tot B4 p.2.2.2.1<=274877906944:=DQ (aP (aP (aP h)));have h2:=PN p;have sm:Cc 549755813888 A9 p:=(bH h).mono (by decide);have h3:=Wg (r,d,if 1000000<wr (now+10) then 1000000 else wr (now+10));unfold jB dD aK A8 B0;simp only[aD,Y8,aA,bHr sm];rw[XB ((bH (B5 h2 h1)).mono (by decide)),aA,cJm,aA,SV (by rw[KY];omega) (by omega)];rfl
theorem PU{kind res seq:Int}{p:den B4}{pay:List Int}:tot A9 (mK kind p res seq pay)=tot B4 p+tot (.sl tb) pay:=by
 show 0+(0+(0+(tot B4 p+(0+(0+(0+(0+(0+tot (.sl tb) pay))))))))=_;omega
theorem bEx(f:den B7):tot A9 (Gt f)<=tot B7 f:=by
 unfold Gt;split
 .rw[PU];have h1:=bHz (t:=B4) (l:=f.2.2.2.2.2.1) (d:=[]) (i:=f.2.2.2.2.2.2.1.toNat) rfl;have h2:=bHz (t:= .sl tb) (l:=f.2.2.2.2.1) (d:=[]) (i:=f.2.2.2.1.toNat) rfl;show _<=0+(0+(0+(0+(tot (.sl (.sl tb)) f.2.2.2.2.1+(tot (.sl B4) f.2.2.2.2.2.1+(0+(0+tot (.sl CI) f.2.2.2.2.2.2.2.2)))))));omega
 .exact C3 _
theorem SQ{p:den A9}{N:Nat}(h:tot A9 p<=N):tot (.sl Cb) p.2.2.2.1<=N/\tot (.sl tb) p.2.2.2.2.2.2.2.2.2<=N:=
 ⟨DQ (aP (aP (aP h))),aP (aP (aP (aP (aP (aP (aP (aP (aP h))))))))⟩
theorem bFo(x:den Cq)(p:den A9):tot A9 (xT x p)<=tot A9 p:=by
 unfold xT;split
 .unfold OO;rw[PU,KY];have h:=(SQ (Cz (tot A9 p))).1;show tot (.sl Cb) p.2.2.2.1+0<=_;omega
 .exact C3 _
theorem bFc(f:den B7):tot B7 (aI f).1=tot B7 f/\tot A9 (aI f).2.1<=tot B7 f:=by
 unfold aI;split
 .split
  .exact⟨RV f _ _,bEx f⟩
  .split
   .exact⟨RV f _ _,bEx (E0 f (Ef f) 1)⟩
   .exact⟨RV f _ _,C3 _⟩
 .exact⟨RV f _ _,C3 _⟩
theorem RH{f:den B7}{N:Nat}(h:tot B7 f<=N):tot (.sl Dd) f.2.2.2.2.1<=N/\tot (.sl B4) f.2.2.2.2.2.1<=N/\tot (.sl CI) f.2.2.2.2.2.2.2.2<=N:=by
 have h0:=aP (aP (aP (aP h)));exact⟨DQ h0,DQ (aP h0),aP (aP (aP (aP h0)))⟩
theorem bD0(r now d:Int)(p:den A9):tot A9 (dD r now d p)<=tot A9 p+18:=by
 unfold dD;rw[PU,KY];have h1:=PN p;have h2:=(SQ (Cz (tot A9 p))).1;have h2:tot B4 p.2.2.2.1<=tot A9 p:=h2;have h3:=Wg (r,d,if 1000000<wr (now+10) then 1000000 else wr (now+10));have e:tot (.sl tb) (Hz (r,d,if 1000000<wr (now+10) then 1000000 else wr (now+10)))=(Hz (r,d,if 1000000<wr (now+10) then 1000000 else wr (now+10))).length:=qW rfl;rw[e];omega
def I6{α β:Type}(p:α->β->Bool):List α->List β->Bool
 | x::xs,y::ys=>p x y&&I6 p xs ys
 | _,_=>X
theorem Sw{α β R:Type}{a:List α}{b:List β}(p:α->β->Bool){step:Int->Option (Int⊕(Unit⊕R))}(ρ:R)(hlen:a.length=b.length)(hl:a.length<=4611686018427387904)
  (h:∀(k:Nat) (x:α) (y:β),x∈a->y∈b->idx a (k:Int)=U x->idx b (k:Int)=U y->D ((k:Int)<(a.length:Int))=X->IntKind.i64.wrap ((k:Int)+1)=((k+1:Nat):Int)->step (k:Int)=U (cond (p x y) (.inl ((k+1:Nat):Int)) (.inr (.inr ρ))))
  (he:step (a.length:Int)=U (.inr (.inl ()))):aB step (0:Int)=U (cond (I6 p a b) (.inl ()) (.inr ρ)):=by
 have key:∀(ra pa:List α) (rb pb:List β),pa++ra=a->pb++rb=b->pa.length=pb.length->aB step (pa.length:Int)=U (cond (I6 p ra rb) (.inl ()) (.inr ρ)):=by
  intro ra
  induction ra with
  | nil=>intro pa rb pb h1 _ _;rw[List.append_nil]at h1;subst h1;exact aH he
  | cons x ra ih=>
   intro pa rb pb h1 h2 h3;cases rb with
   | nil=>exfalso;have e1:=congrArg Cr h1;have e2:=congrArg Cr h2;simp at e1 e2;omega
   | cons y rb=>
    have hx:a[pa.length]? =U x:=by rw[<- h1];simp
    have hy:b[pa.length]? =U y:=by rw[<- h2,h3];simp
    have hlt:pa.length<a.length:=by rw[<- h1];simp
    have hs:=h pa.length x y (Cm hx) (Cm hy) (by rw[aQ];exact hx) (by rw[aQ];exact hy) (by simpa using hlt) (by rw[wri (by omega) (by omega)];omega);simp only[I6];cases hp:p x y with
    | true=>rw[hp]at hs;rw[aO hs];have :=ih (pa++[x]) rb (pb++[y]) (by simpa using h1) (by simpa using h2) (by simp[h3]);simpa using this
    | false=>rw[hp]at hs;exact aH hs
 exact key a [] b [] rfl rfl rfl
theorem Ga{α:Type}(b:Bool)(x y:α):cond b (U x) (U y)=U (cond b x y):=by cases b<;>rfl
theorem Td{β:Type}(c:Bool)(f:Unit->Option β)(r:β):Sum.elim f U (cond c (A7 ()) (A2 r))=cond c (f ()) (U r):=by cases c<;>rfl
theorem Tk{α β:Type}(a:List α)(b:List β):((a.length:Int) != (b.length:Int))= !D (a.length=b.length):=by
 rw[CG];simp;omega
theorem SA{α:Type}{p:Prop}[Decidable p]{x y z:α}(h:p->y=z):cond (!decide p) x y=cond (!decide p) x z:=by
 by_cases hp:p
 .rw[h hp]
 .simp[hp]
noncomputable def OX(a b:eV):Bool:=cond (!D (a.length=b.length)) Y (cond (I6 (λx y=>(x.1==y.1)&&((x.2.1==y.2.1)&&((x.2.2.1==y.2.2.1)&&((x.2.2.2.1==y.2.2.2.1)&&((x.2.2.2.2==y.2.2.2.2)&&X))))) a b) X Y)
theorem bLv{a b:eV}(ha:a.length<=549755813888):kW a b=U (OX a b):=by
 unfold kW OX A0;rw[Tk];rw[SA (z:=U (cond (I6 (λx y=>(x.1==y.1)&&((x.2.1==y.2.1)&&((x.2.2.1==y.2.2.1)&&((x.2.2.2.1==y.2.2.2.1)&&((x.2.2.2.2==y.2.2.2.2)&&X))))) a b) X Y)) (λhlen=>by
  rw[Sw (a:=a) (b:=b) (λx y=>(x.1==y.1)&&((x.2.1==y.2.1)&&((x.2.2.1==y.2.2.1)&&((x.2.2.2.1==y.2.2.2.1)&&((x.2.2.2.2==y.2.2.2.2)&&X))))) Y hlen (B5 ha (by decide)) (λk x y mx my ix iy hd hw=>by
   simp only[hd,ix,iy,hw,zZ,aA,aD,bne];generalize ((x.1==y.1)&&((x.2.1==y.2.1)&&((x.2.2.1==y.2.2.1)&&((x.2.2.2.1==y.2.2.2.1)&&((x.2.2.2.2==y.2.2.2.2)&&X)))))=c;cases c<;>rfl) (by simp)]
  simp only[aA,Td,Ga]),Ga]
theorem bNp{a b:eV}(ha:a.length<=549755813888):rT a b=U (OX a b):=by
 unfold rT OX A0;rw[Tk];rw[SA (z:=U (cond (I6 (λx y=>(x.1==y.1)&&((x.2.1==y.2.1)&&((x.2.2.1==y.2.2.1)&&((x.2.2.2.1==y.2.2.2.1)&&((x.2.2.2.2==y.2.2.2.2)&&X))))) a b) X Y)) (λhlen=>by
  rw[Sw (a:=a) (b:=b) (λx y=>(x.1==y.1)&&((x.2.1==y.2.1)&&((x.2.2.1==y.2.2.1)&&((x.2.2.2.1==y.2.2.2.1)&&((x.2.2.2.2==y.2.2.2.2)&&X))))) Y hlen (B5 ha (by decide)) (λk x y mx my ix iy hd hw=>by
   simp only[hd,ix,iy,hw,zZ,aA,aD,bne];generalize ((x.1==y.1)&&((x.2.1==y.2.1)&&((x.2.2.1==y.2.2.1)&&((x.2.2.2.1==y.2.2.2.1)&&((x.2.2.2.2==y.2.2.2.2)&&X)))))=c;cases c<;>rfl) (by simp)]
  simp only[aA,Td,Ga]),Ga]
noncomputable def GV(a b:den Cb):Bool:=cond (a.1==b.1) (cond (a.2.1==b.2.1) (cond (a.2.2.1==b.2.2.1) (OX a.2.2.2 b.2.2.2) Y) Y) Y
theorem bWp{a b:den Cb}(ha:Cc 549755813888 Cb a)(hb:Cc 549755813888 Cb b):xP a b=U (GV a b):=by
 unfold xP GV;simp only[aA,Ga,aD,bLv ha.2.2.2.1]
theorem bZe{a b:den Cb}(ha:Cc 549755813888 Cb a)(hb:Cc 549755813888 Cb b):xC a b=U (GV a b):=by
 unfold xC GV;simp only[aA,Ga,aD,bNp ha.2.2.2.1]
noncomputable def EH(a b:Ci):Bool:=cond (!D (a.length=b.length)) Y (cond (I6 (λx y=>GV x y) a b) X Y)
theorem cGd{a b:Ci}(ha:Cc 549755813888 (.sl Cb) a)(hb:Cc 549755813888 (.sl Cb) b):tM a b=U (EH a b):=by
 unfold tM EH B6;rw[Tk];rw[SA (z:=U (cond (I6 (λx y=>GV x y) a b) X Y)) (λhlen=>by
  rw[Sw (a:=a) (b:=b) (λx y=>GV x y) Y hlen (B5 ha.1 (by decide)) (λk x y mx my ix iy hd hw=>by
   simp only[hd,ix,iy,hw,zZ,aA,aD,bWp (ha.2 x mx) (hb.2 y my)];generalize (GV x y)=c;cases c<;>rfl) (by simp)]
  simp only[aA,Td,Ga]),Ga]
theorem cFl{a b:Ci}(ha:Cc 549755813888 (.sl Cb) a)(hb:Cc 549755813888 (.sl Cb) b):uK a b=U (EH a b):=by
 unfold uK EH B6;rw[Tk];rw[SA (z:=U (cond (I6 (λx y=>GV x y) a b) X Y)) (λhlen=>by
  rw[Sw (a:=a) (b:=b) (λx y=>GV x y) Y hlen (B5 ha.1 (by decide)) (λk x y mx my ix iy hd hw=>by
   simp only[hd,ix,iy,hw,zZ,aA,aD,bZe (ha.2 x mx) (hb.2 y my)];generalize (GV x y)=c;cases c<;>rfl) (by simp)]
  simp only[aA,Td,Ga]),Ga]
noncomputable def nW(a b:den B9):Bool:=cond (a.1==b.1) (cond (a.2.1==b.2.1) (OX a.2.2 b.2.2) Y) Y
theorem bL6{a b:den B9}(ha:Cc 549755813888 B9 a)(hb:Cc 549755813888 B9 b):iM a b=U (nW a b):=by
 unfold iM nW;simp only[aA,Ga,aD,bLv ha.2.2.1]
theorem bMs{a b:den B9}(ha:Cc 549755813888 B9 a)(hb:Cc 549755813888 B9 b):iT a b=U (nW a b):=by
 unfold iT nW;simp only[aA,Ga,aD,bNp ha.2.2.1]
theorem VF{w:den B1}(h:tot B1 w<=68719476736):tot (.sl B7) w.2.2.2.2.2.2.1<=68719476736:=DQ (aP (aP (aP (aP (aP (aP h))))))
def MX(w:den B1):Bool:=cond (w.2.2.2.2.2.2.1.all λf=> !tQ f) (((w.2.2.2.2.2.1.length:Int)==(0:Int))) Y
theorem cKh{w:den B1}(h:tot B1 w<=68719476736):Jp w=U (MX w):=by
 have hf:=VF h;have hl:=cO (t:=B7) w.2.2.2.2.2.2.1;unfold Jp MX Ct A4 A3 B0;rw[aM (l:=w.2.2.2.2.2.2.1) (λ_ f=>if !tQ f then W else U Y) (by omega) (λk x hi hd hw hx hk=>by
  have :=kE (t:=B7) hx;simp only[hd,hi,hw,zZ,aA,aD,WS (f:=x) (by omega)];show cond (tQ x) _ _=_;cases tQ x<;>rfl) (by simp)]
 rw[iO (λf:den B7=> !tQ f)];cases w.2.2.2.2.2.2.1.all (λf=> !tQ f)<;>rfl
theorem cJv{w:den B1}(h:tot B1 w<=68719476736):Jt w=U (MX w):=by
 have hf:=VF h;have hl:=cO (t:=B7) w.2.2.2.2.2.2.1;unfold Jt MX Ct A4 A3 B0;rw[aM (l:=w.2.2.2.2.2.2.1) (λ_ f=>if !tQ f then W else U Y) (by omega) (λk x hi hd hw hx hk=>by
  have :=kE (t:=B7) hx;simp only[hd,hi,hw,zZ,aA,aD,WT (f:=x) (by omega)];show cond (tQ x) _ _=_;cases tQ x<;>rfl) (by simp)]
 rw[iO (λf:den B7=> !tQ f)];cases w.2.2.2.2.2.2.1.all (λf=> !tQ f)<;>rfl
def EQ(w:den B1):List Int:=[w.2.2.2.1,(w.2.2.2.2.2.1.length:Int),w.2.2.2.2.2.2.2.2,(w.2.2.2.2.1.length:Int)]++w.2.2.2.2.2.2.1.map λf=>f.2.2.2.1
theorem cD5{w:den B1}(h:tot B1 w<=68719476736):wK w=U (EQ w):=by
 have hf:=VF h;have hl:=cO (t:=B7) w.2.2.2.2.2.2.1;unfold wK EQ A0 A4 A3 B0;rw[fV (λk (a:List Int)=>((k:Int),a)) ((0:Int),[w.2.2.2.1,(w.2.2.2.2.2.1.length:Int),w.2.2.2.2.2.2.2.2,(w.2.2.2.2.1.length:Int)]) [w.2.2.2.1,(w.2.2.2.2.2.1.length:Int),w.2.2.2.2.2.2.2.2,(w.2.2.2.2.1.length:Int)] w.2.2.2.2.2.2.1 (λ_ x a=>a++[x.2.2.2.1]) Cr (λ_=>1) 549755813888 id rfl (by omega) (by rw[cT];simp;omega) (λk x a=>by simp) (λk x a hi hx hd hw hk hb=>by
  simp only[hd,hi,hw,zZ,aA,aD,aC (b:=8) (by decide) hb]) (λa=>by simp),dR (λf:den B7=>f.2.2.2.1)]
 rfl
theorem cLd{w:den B1}(h:tot B1 w<=68719476736):K3 w=U (EQ w):=cD5 h
def Oz(f:den B7):Int:=wr ((wr ((wr ((f.2.2.2.2.2.1.length:Int)+(2:Int))) * (21:Int)))+(wr ((2:Int) * (f.2.2.2.2.1.length:Int))))
def F4(w:den B1):Int:=cW (λ_ f a=>if Oz f>a then Oz f else a) 0 w.2.2.2.2.2.2.1 0
theorem bHu{w:den B1}(h:w.2.2.2.2.2.2.1.length<=68719476736):jA w=U (wr (8+F4 w)):=by
 unfold jA F4 A0 A4 A3;rw[fV (λk (a:Int)=>(a,(k:Int))) ((0:Int),(0:Int)) 0 w.2.2.2.2.2.2.1 (λ_ f a=>if Oz f>a then Oz f else a) (λ_=>0) (λ_=>0) 1 id rfl (by omega) (by rw[sum_nil];omega) (λk x a=>by omega) (λk x a hi hx hd hw hk hb=>by
  simp only[hd,hi,hw,zZ,aA,YP];rfl) (λa=>by simp)]
 rfl
theorem bHd{w:den B1}(h:w.2.2.2.2.2.2.1.length<=68719476736):iZ w=U (wr (8+F4 w)):=by
 unfold iZ F4 A0 A4 A3;rw[fV (λk (a:Int)=>(a,(k:Int))) ((0:Int),(0:Int)) 0 w.2.2.2.2.2.2.1 (λ_ f a=>if Oz f>a then Oz f else a) (λ_=>0) (λ_=>0) 1 id rfl (by omega) (by rw[sum_nil];omega) (λk x a=>by omega) (λk x a hi hx hd hw hk hb=>by
  simp only[hd,hi,hw,zZ,aA,TF];rfl) (λa=>by simp)]
 rw[aA,Int.add_comm];rfl
def Nt(b:List Int)(p:Nat):Nat->Nat->Nat->Int×Int×Bool
 | 0,_,_=>(0,0,Y)
 | f+1,k,n=>match b[p+k]? with
  | none=>(0,0,Y)
  | some x=>
   if x.toNat<128 then (if (D (x.toNat=0)&&D (0<k))||D (1000000000000<n+x.toNat % 128 * 2 ^ (7 * k)) then (0,0,Y) else (((n+x.toNat % 128 * 2 ^ (7 * k):Nat):Int),((p+k+1:Nat):Int),X))
   else Nt b p f (k+1) (n+x.toNat % 128 * 2 ^ (7 * k))
theorem Xw{k:Nat}(h:k<6):2 ^ (7 * k)<=34359738368:=B5 (Nat.pow_le_pow_right (by decide) (show 7 * k<=35 by omega)) (by decide)
theorem bU0{n c k:Nat}(h:n<2 ^ (7 * k))(hc:c<128):n+c * 2 ^ (7 * k)<2 ^ (7 * (k+1)):=by
 have e:2 ^ (7 * (k+1))=128 * 2 ^ (7 * k):=by rw[show 7 * (k+1)=7 * k+7 by omega,Nat.pow_add];omega
 have :c * 2 ^ (7 * k)<=127 * 2 ^ (7 * k):=Nat.mul_le_mul_right _ (by omega);omega
theorem Xm{c k:Nat}(hk:k<6)(hc:c<128):c * 2 ^ (7 * k)<=4398046511104:=B5 (Nat.mul_le_mul (show c<=128 by omega) (Xw hk)) (by decide)
theorem bMw{S:Type}(b:List Int)(p:Nat)(hb:∀x∈b,0<=x/\x<=255)(enc:Nat->Nat->S){step:S->Option (S⊕(Unit⊕q43))}
  (h0:∀n,step (enc 6 n)=U (.inr (.inl ())))
  (h1:∀k n,k<6->b[p+k]? =W->step (enc k n)=U (.inr (.inl ()))\/step (enc k n)=U (.inr (.inr (0,0,Y))))
  (h2:∀k n (m:Nat),k<6->n<2 ^ (7 * k)->m<=255->b[p+k]? =U (m:Int)->step (enc k n)=U (if m<128 then .inr (.inr (if (D (m=0)&&D (0<k))||D (1000000000000<n+m % 128 * 2 ^ (7 * k)) then (0,0,Y) else (((n+m % 128 * 2 ^ (7 * k):Nat):Int),((p+k+1:Nat):Int),X))) else .inl (enc (k+1) (n+m % 128 * 2 ^ (7 * k))))):
  ∀f k n,f+k=6->n<2 ^ (7 * k)-> @Option.bind (Unit⊕q43) q43 (aB step (enc k n)) (λz=>Sum.elim (λ_=>U ((0:Int),(0:Int),Y)) U z)=U (Nt b p f k n):=by
 intro f
 induction f with
 | zero=>
  intro k n hk hn;have :k=6:=by omega
  subst this;rw[aH (h0 n)];rfl
 | succ f ih=>
  intro k n hk hn;have hk6:k<6:=by omega
  unfold Nt;cases hx:b[p+k]? with
  | none=>rcases h1 k n hk6 hx with h | h<;>rw[aH h]<;>rfl
  | some x=>
   obtain⟨x0,x1⟩:=hb x (Cm hx);obtain⟨m,rfl⟩:∃m:Nat,x=(m:Int):=⟨x.toNat,by omega⟩
   have hs:=h2 k n m hk6 hn (by omega) hx;simp only[Cj]
   by_cases hm:m<128
   .rw[zT hm]at hs ⊢;rw[aH hs];rfl
   .rw[zS hm]at hs ⊢;rw[aO hs];exact ih (k+1) _ (by omega) (bU0 hn (Nat.mod_lt _ (by decide)))
theorem bMm{a c:Nat}(hc:c<=35)(h:a * 2 ^ c<=4398046511104):shl .i64 (a:Int) (c:Int)=((a * 2 ^ c:Nat):Int):=by
 unfold shl;have e:min ((c:Int)).toNat IntKind.i64.bits=c:=by simp[IntKind.bits];omega
 rw[e];have e2:(a:Int) * 2 ^ c=((a * 2 ^ c:Nat):Int):=by simp
 rw[e2];exact wri (by omega) (by omega)
theorem cFw{n c k:Nat}(hk:k<6)(hn:n<2 ^ (7 * k))(hc:c<128):Fr .i64 (n:Int) ((c * 2 ^ (7 * k):Nat):Int)=((n+c * 2 ^ (7 * k):Nat):Int):=by
 have hm:=Xm hk hc;have hp:=Xw hk;have e:(BitVec.ofInt 64 (n:Int) ||| BitVec.ofInt 64 ((c * 2 ^ (7 * k):Nat):Int)).toNat=n+c * 2 ^ (7 * k):=by
  rw[BitVec.toNat_or];have e1:(BitVec.ofInt 64 (n:Int)).toNat=n:=by simp;omega
  have e2:(BitVec.ofInt 64 ((c * 2 ^ (7 * k):Nat):Int)).toNat=c * 2 ^ (7 * k):=by
   generalize c * 2 ^ (7 * k)=q at hm;simp;omega
  rw[e1,e2,Nat.or_comm];have :=Nat.two_pow_add_eq_or_of_lt (i:=7 * k) (b:=n) hn c;rw[Nat.mul_comm c,<- this];omega
 unfold Fr;show IntKind.i64.wrap (((BitVec.ofInt 64 (n:Int) ||| BitVec.ofInt 64 ((c * 2 ^ (7 * k):Nat):Int)).toNat:Nat):Int)=_;rw[e];exact wri (by omega) (by omega)
theorem bIb{n:Nat}(h:n<256):IntKind.wrap .u64 (n:Int)=(n:Int):=by
 simp only[IntKind.wrap,IntKind.signed,IntKind.bits];simp;omega
def rv(b:List Int)(p:Nat):q43:=Nt b p 6 0 0
theorem bEo(k:Nat):(7:Int) * (k:Int)=((7 * k:Nat):Int):=by omega
theorem cNh{b:List Int}{p:Nat}(hb:∀x∈b,0<=x/\x<=255)(hl:b.length<=549755813888)(hp:p<=b.length):xA b (p:Int)=U (rv b p):=by
 unfold xA;have e0:D ((p:Int)<0)=Y:=by simp
 rw[e0,zY];refine bMw b p hb (λk n=>(((p+k:Nat):Int),(n:Int),(k:Int))) (λn=>by simp) (λk n hk hx=> ?_) (λk n m hk hn hm hx=> ?_) 6 0 0 rfl (by simp)
 .left;have h1:D (((p+k:Nat):Int)<(b.length:Int))=Y:=by
   have :=List.getElem?_eq_none_iff.1 hx;simp;omega
  simp only[h1];cases D ((k:Int)<6)<;>rfl
 .have h0:=(Cu.1 hx).1;have h1:D (((p+k:Nat):Int)<(b.length:Int))=X:=by simp;omega
  have h2:D ((k:Int)<6)=X:=by simp;omega
  have h3:idx b ((p+k:Nat):Int)=U (m:Int):=by rw[aQ];exact hx
  have h4:wr ((7 * k:Nat):Int)=((7 * k:Nat):Int):=wri (by omega) (by omega);have h5:wr (m:Int)=(m:Int):=wri (by omega) (by omega);have h6:D (((7 * k:Nat):Int)<0)=Y:=by simp;omega
  have h7:CM (m:Int) 128=((m % 128:Nat):Int):=rfl;have hq:=Xm (c:=m % 128) hk (Nat.mod_lt _ (by decide));have hr:=Xw hk;have h8:wr ((n:Int)+((m % 128 * 2 ^ (7 * k):Nat):Int))=((n+m % 128 * 2 ^ (7 * k):Nat):Int):=by
   generalize m % 128 * 2 ^ (7 * k)=q at hq;have :wr ((n:Int)+(q:Int))=(n:Int)+(q:Int):=wri (by omega) (by omega);rw[this];omega
  have h9:wr (((p+k:Nat):Int)+1)=((p+k+1:Nat):Int):=by
   have :wr (((p+k:Nat):Int)+1)=((p+k:Nat):Int)+1:=wri (by omega) (by omega);rw[this];omega
  have ha:wr ((k:Int)+1)=((k+1:Nat):Int):=by
   have :wr ((k:Int)+1)=(k:Int)+1:=wri (by omega) (by omega);rw[this];omega
  simp only[h1,h2,h3,zZ,aA,bEo,h4,bIb (n:=7 * k) (by omega),h6,zY,h5,h7,bMm (a:=m % 128) (c:=7 * k) (by omega) hq,h8,h9,ha];generalize n+m % 128 * 2 ^ (7 * k)=q
  by_cases c1:m<128
  .have e1:D ((m:Int)<128)=X:=by simp;omega
   have e2:((m:Int)==0)=D (m=0):=by rw[CG];simp
   have e3:D ((k:Int)>0)=D (0<k):=by rw[CG];simp
   have e4:D ((q:Int)>1000000000000)=D (1000000000000<q):=by rw[CG];simp;omega
   simp only[e1,e2,e3,e4,zZ,zT c1];cases D (m=0)<;>cases D (0<k)<;>cases D (1000000000000<q)<;>rfl
  .have e1:D ((m:Int)<128)=Y:=by simp;omega
   simp only[e1,zY,zS c1];rfl
theorem cMu{b:List Int}{p:Nat}(hb:∀x∈b,0<=x/\x<=255)(hl:b.length<=549755813888)(hp:p<=b.length):xD b (p:Int)=U (rv b p):=by
 unfold xD;have e0:D ((p:Int)<0)=Y:=by simp
 refine bMw b p hb (λk n=>((n:Int),(k:Int))) (λn=>by simp) (λk n hk hx=> ?_) (λk n m hk hn hm hx=> ?_) 6 0 0 rfl (by simp)
 .right;have hw:wr ((b.length:Int) - (k:Int))=(b.length:Int) - (k:Int):=wri (by omega) (by omega);have h1:D ((p:Int)>=(b.length:Int) - (k:Int))=X:=by
   have :=List.getElem?_eq_none_iff.1 hx;simp;omega
  have h2:D ((k:Int)<6)=X:=by simp;omega
  simp only[h2,e0,hw,h1,zZ,zY,aA]
 .have h0:=(Cu.1 hx).1;have hw:wr ((b.length:Int) - (k:Int))=(b.length:Int) - (k:Int):=wri (by omega) (by omega);have h1:D ((p:Int)>=(b.length:Int) - (k:Int))=Y:=by simp;omega
  have h2:D ((k:Int)<6)=X:=by simp;omega
  have hpk:wr ((p:Int)+(k:Int))=((p+k:Nat):Int):=by
   have :wr ((p:Int)+(k:Int))=(p:Int)+(k:Int):=wri (by omega) (by omega);rw[this];omega
  have h3:idx b ((p+k:Nat):Int)=U (m:Int):=by rw[aQ];exact hx
  have h4:wr ((7 * k:Nat):Int)=((7 * k:Nat):Int):=wri (by omega) (by omega);have h5:wr (m:Int)=(m:Int):=wri (by omega) (by omega);have h6:D (((7 * k:Nat):Int)<0)=Y:=by simp;omega
  have hq:=Xm (c:=m % 128) hk (Nat.mod_lt _ (by decide));have h9:wr (((p+k:Nat):Int)+1)=((p+k+1:Nat):Int):=by
   have :wr (((p+k:Nat):Int)+1)=((p+k:Nat):Int)+1:=wri (by omega) (by omega);rw[this];omega
  have ha:wr ((k:Int)+1)=((k+1:Nat):Int):=by
   have :wr ((k:Int)+1)=(k:Int)+1:=wri (by omega) (by omega);rw[this];omega
  simp only[h1,h2,hw,e0,hpk,h3,zZ,zY,aA,bEo,h4,h6,h5,bKe (n:=m) (by omega),bMm (a:=m % 128) (c:=7 * k) (by omega) hq,cFw (c:=m % 128) hk hn (Nat.mod_lt _ (by decide)),h9,ha];generalize n+m % 128 * 2 ^ (7 * k)=q
  by_cases c1:m<128
  .have e1:D ((m:Int)<128)=X:=by simp;omega
   have e2:((m:Int)==0)=D (m=0):=by rw[CG];simp
   have e3:D ((k:Int)>0)=D (0<k):=by rw[CG];simp
   have e4:D ((q:Int)>1000000000000)=D (1000000000000<q):=by rw[CG];simp;omega
   simp only[e1,e2,e3,e4,zZ,zT c1];cases D (m=0)<;>cases D (0<k)<;>cases D (1000000000000<q)<;>rfl
  .have e1:D ((m:Int)<128)=Y:=by simp;omega
   simp only[e1,zY,zS c1]
theorem bM0{b:List Int}{p:Nat}:∀(f k n:Nat),(Nt b p f k n).2.2=X-> ∃q:Nat,(Nt b p f k n).2.1=(q:Int)/\q<=b.length
 | 0,k,n,h=>by cases h
 | f+1,k,n,h=>by
  unfold Nt at h|-;cases hx:b[p+k]? with
  | none=>rw[hx]at h;cases h
  | some x=>
   rw[hx]at h;have hlt:=(Cu.1 hx).1;simp only at h|-
   by_cases c:x.toNat<128
   .rw[zT c]at h ⊢;split at h
    .cases h
    .rename_i c2;rw[zS c2];exact⟨p+k+1,rfl,hlt⟩
   .rw[zS c]at h ⊢;exact bM0 f (k+1) _ h
theorem cBy{b:List Int}{p:Nat}(h:(rv b p).2.2=X):∃q:Nat,(rv b p).2.1=(q:Int)/\q<=b.length:=bM0 6 0 0 h
def LX(b:List Int):Int×Bool×List Int:=
 cond (rv b 0).2.2 (cond (rv b (rv b 0).2.1.toNat).2.2 (cond (rv b (rv b (rv b 0).2.1.toNat).2.1.toNat).2.2
  ((rv b (rv b (rv b 0).2.1.toNat).2.1.toNat).2.1,X,[(rv b 0).1,(rv b (rv b 0).2.1.toNat).1,(rv b (rv b (rv b 0).2.1.toNat).2.1.toNat).1]) (0,Y,[])) (0,Y,[])) (0,Y,[])
theorem bNd(b:List Int):LX b=(0,Y,[])\/ ∃q x y z,LX b=(q,X,[x,y,z]):=by
 unfold LX;cases (rv b 0).2.2
 .exact .inl rfl
 .cases (rv b (rv b 0).2.1.toNat).2.2
  .exact .inl rfl
  .cases (rv b (rv b (rv b 0).2.1.toNat).2.1.toNat).2.2
   .exact .inl rfl
   .exact .inr ⟨_,_,_,_,rfl⟩
theorem bGs{b:List Int}{step:Int×Int×List Int->Option ((Int×Int×List Int)⊕((Int×List Int)⊕(Int×Bool×List Int)))}
  (hs:∀(p:Nat) (i:Nat) (out:List Int),p<=b.length->i<3->out.length<=3->step ((p:Int),(i:Int),out)=U (cond (rv b p).2.2 (.inl ((rv b p).2.1,((i+1:Nat):Int),out++[(rv b p).1])) (.inr (.inr (0,Y,[])))))
  (he:∀p out,step (p,3,out)=U (.inr (.inl (p,out)))):
  @Option.bind ((Int×List Int)⊕(Int×Bool×List Int)) (Int×Bool×List Int) (aB step ((0:Int),(0:Int),([]:List Int))) (λz=>Sum.elim (λs8=>U (s8.1,X,s8.2)) U z)=U (LX b):=by
 have h1:=hs 0 0 [] (C3 _) (by decide) (by decide);unfold LX;cases c1:(rv b 0).2.2 with
 | false=>rw[c1]at h1;rw[aH (s:=((0:Int),(0:Int),([]:List Int))) h1];rfl
 | true=>
  rw[c1]at h1;obtain⟨q1,e1,l1⟩:=cBy c1;rw[aO (s:=((0:Int),(0:Int),([]:List Int))) h1];rw[e1];simp only[zZ,Cj];have h2:=hs q1 (0+1) ([]++[(rv b 0).1]) l1 (by decide) (by simp);cases c2:(rv b q1).2.2 with
  | false=>rw[c2]at h2;rw[aH h2];rfl
  | true=>
   rw[c2]at h2;obtain⟨q2,e2,l2⟩:=cBy c2;rw[aO h2];rw[e2];simp only[zZ,Cj];have h3:=hs q2 (0+1+1) ([]++[(rv b 0).1]++[(rv b q1).1]) l2 (by decide) (by simp);cases c3:(rv b q2).2.2 with
   | false=>rw[c3]at h3;rw[aH h3];rfl
   | true=>
    rw[c3]at h3;rw[aO h3];rw[aH (s:=((rv b q2).2.1,((0+1+1+1:Nat):Int),[]++[(rv b 0).1]++[(rv b q1).1]++[(rv b q2).1])) (he _ _)];rfl
theorem cJe{b:List Int}(hb:∀x∈b,0<=x/\x<=255)(hl:b.length<=549755813888):wX b 0 3=U (LX b):=by
 unfold wX;have r1:B3 3 0 100=X:=by decide
 have r2:B3 0 0 (b.length:Int)=X:=by rw[bQ];omega
 simp only[gX,aA,r1,r2,BZ,zY];refine bGs (λp i out hp hi ho=> ?_) (λp out=>by simp);have e1:D ((i:Int)<3)=X:=by simp;omega
 have e2:wr ((i:Int)+1)=((i+1:Nat):Int):=by
  have :wr ((i:Int)+1)=(i:Int)+1:=wri (by omega) (by omega);rw[this];omega
 simp only[e1,zZ,cNh hb hl hp,aA,e2,aC (b:=8) (n:=out.length) (m:=1) (by decide) (by omega)];cases (rv b p).2.2<;>rfl
theorem cH7{b:List Int}(hb:∀x∈b,0<=x/\x<=255)(hl:b.length<=549755813888):xF b 0 3=U (LX b):=by
 unfold xF;have r1:B3 3 0 100=X:=by decide
 have r2:B3 0 0 (b.length:Int)=X:=by rw[bQ];omega
 simp only[fC,aA,r1,r2,BZ,zY];refine bGs (λp i out hp hi ho=> ?_) (λp out=>by simp);have e1:D ((i:Int)<3)=X:=by simp;omega
 have e2:wr ((i:Int)+1)=((i+1:Nat):Int):=by
  have :wr ((i:Int)+1)=(i:Int)+1:=wri (by omega) (by omega);rw[this];omega
 simp only[e1,zZ,cMu hb hl hp,aA,e2,aC (b:=8) (n:=out.length) (m:=1) (by decide) (by omega)];cases (rv b p).2.2<;>rfl
def DY(b:List Int):Int×q43:=
 match LX b with
 | (q,X,[x,y,z])=>cond (q==(b.length:Int)) (cond (iL (x,y,z)) (x,y,z,X) (0,0,0,Y)) (0,0,0,Y)
 | _=>(0,0,0,Y)
theorem cJi{b:List Int}(hb:∀x∈b,0<=x/\x<=255)(hl:b.length<=549755813888):mB b=U (DY b):=by
 unfold mB DY BX;rw[cJe hb hl];rcases bNd b with h | ⟨q,x,y,z,h⟩
 .rw[h];rfl
 .rw[h];simp only[aA,BZ,zY,bne,Og];cases q==(b.length:Int)
  .rfl
  .cases hv:iL (x,y,z)<;>simp[hv]
theorem cK2{b:List Int}(hb:∀x∈b,0<=x/\x<=255)(hl:b.length<=549755813888):lR b=U (DY b):=by
 unfold lR DY BX;rw[cH7 hb hl];rcases bNd b with h | ⟨q,x,y,z,h⟩
 .rw[h];rfl
 .rw[h];simp only[aA,BZ,zY,bne,NV];cases q==(b.length:Int)
  .rfl
  .cases hv:iL (x,y,z)<;>simp[hv]
def It(x:den CI)(l:CB)(k:Nat)(y:den CI):Option CB:=
 cond (y.1==x.1) (cond (y.2.1==x.2.1) (U (l.set k (y.1,y.2.1,if x.2.2>y.2.2 then x.2.2 else y.2.2))) W) W
def Nq(l:CB)(x:den CI):CB:=
 cond (iL x) (match dH (It x l) 0 l with
  | some r=>r
  | none=>if 16<l.length+1 then (l++[x]).drop 1 else l++[x]) l
theorem bLe{α:Type}{l:List α}(h:0<l.length):cut l (1:Int) (l.length:Int)=l.drop 1:=S7 (k:=1) h
theorem bKb(l:CB)(x:den CI):D (((l++[x]).length:Int)>16)=D (16<l.length+1):=by
 rw[CG];simp;omega
theorem cH3{l:CB}{x:den CI}(h:l.length<=68719476736):qQ l x=U (Nq l x):=by
 unfold qQ Nq BX A6;rw[Xu (show l.length<=549755813888 by omega)];simp only[aA,aD,Og];cases hv:iL x with
 | false=>rfl
 | true=>
  simp only[BZ,zY,zZ];rw[aM (l:=l) (It x l) (by omega) (λk y hi hd hw hm hk=>by
   have hy:l[k]? =U y:=by rw[<- aQ];exact hi
   simp only[hd,zZ,bF,Cj,hy,aA,YP,hw];unfold It;cases y.1==x.1
   .rfl
   .cases y.2.1==x.2.1<;>rfl) (by simp)]
  cases dH (It x l) 0 l with
  | some r=>rfl
  | none=>
   have e1:bG (1:Int) ((l++[x]).length:Int) ((l++[x]).length:Int)=X:=by
    have :=yK (a:=1) (b:=(l++[x]).length) (n:=(l++[x]).length);rw[show ((1:Nat):Int)=1 from rfl]at this;rw[this];simp
   have e2:=bLe (l:=l++[x]) (by simp);simp only[aA,Ea,aC (b:=24) (n:=l.length) (m:=1) (by decide) (by omega),zZ,bKb,e1,e2,Xu (l:=(l++[x]).drop 1) (by simp;omega)]
   by_cases c:16<l.length+1
   .have c2:(16:Int)<(l.length:Int)+1:=by omega
    simp[c,c2]
   .have c2: ¬ (16:Int)<(l.length:Int)+1:=by omega
    simp[c,c2]
theorem cI9{l:CB}{x:den CI}(h:l.length<=68719476736):qR l x=U (Nq l x):=by
 unfold qR Nq BX A6;rw[aC (b:=24) (n:=([]:CB).length) (by decide) (by simp;omega)];simp only[zZ,aA,aD,NV,CH];cases hv:iL x with
 | false=>rfl
 | true=>
  simp only[BZ,zY,zZ];rw[aM (l:=l) (It x l) (by omega) (λk y hi hd hw hm hk=>by
   have hy:l[k]? =U y:=by rw[<- aQ];exact hi
   have hk2:D (k<l.length)=X:=by simpa using hk
   simp only[hd,zZ,bF,Cj,hy,aA,TF,hw,hk2];unfold It;cases y.1==x.1
   .rfl
   .cases y.2.1==x.2.1<;>rfl) (by simp)]
  cases dH (It x l) 0 l with
  | some r=>rfl
  | none=>
   have e1:bG (1:Int) ((l++[x]).length:Int) ((l++[x]).length:Int)=X:=by
    have :=yK (a:=1) (b:=(l++[x]).length) (n:=(l++[x]).length);rw[show ((1:Nat):Int)=1 from rfl]at this;rw[this];simp
   have e2:=bLe (l:=l++[x]) (by simp);simp only[aA,Ea,aC (b:=24) (n:=l.length) (m:=1) (by decide) (by omega),zZ,bKb,e1,e2]
   by_cases c:16<l.length+1
   .have c2:(16:Int)<(l.length:Int)+1:=by omega
    simp[c,c2]
   .have c2: ¬ (16:Int)<(l.length:Int)+1:=by omega
    simp[c,c2]
def Mh(s:den EE)(a:List Int):List Int:=
 (λb=>cond (s.2.2 != 0) (b++[wr (wr (8 * s.1)+s.2.2)]) b) (cond (s.2.1 != 0) (a++[wr (wr (8 * s.1)+s.2.1)]) a)
theorem W0(s:den EE)(a:List Int):(Mh s a).length<=a.length+2:=by
 unfold Mh;cases s.2.1 != 0<;>cases s.2.2 != 0<;>simp
def mF(p:den B4):List Int:=cW (λ_ s a=>Mh s a) 0 (iD p) []
theorem OE{α:Type}(l:List α):(l.map λ_=>2).sum=2 * l.length:=by
 induction l with
 | nil=>rfl
 | cons x l ih=>simp only[CA,D6,ih,C6];omega
theorem bL0{p:den B4}(h:tot B4 p<=68719476736):jD p=U (mF p):=by
 have hl:=Jb p;unfold jD Mz mF;rw[Oy (B5 h (by decide))];simp only[aA];rw[fV (λk (a:List Int)=>((k:Int),a)) ((0:Int),[]) [] (iD p) (λ_ s a=>Mh s a) Cr (λ_=>2) 549755813888 id rfl (by omega) (by rw[OE];simp;omega) (λk x a=>W0 x a) (λk x a hi hx hd hw hk hb=>by
  simp only[hd,hi,hw,zZ,aA,aC (b:=8) (n:=a.length) (m:=1) (by decide) (by omega)];unfold Mh;cases x.2.1 != 0<;>cases x.2.2 != 0<;>simp[aC (b:=8) (n:=a.length) (m:=1) (by decide) (by omega),aC (b:=8) (n:=a.length+1) (m:=1) (by decide) (by omega)]) (λa=>by simp)]
 rfl
theorem bMy{p:den B4}(h:tot B4 p<=68719476736):jC p=U (mF p):=by
 have hl:=Jb p;unfold jC mF BX;rw[O6 (B5 h (by decide))];simp only[aA];rw[fV (λk (a:List Int)=>((k:Int),a)) ((0:Int),[]) [] (iD p) (λ_ s a=>Mh s a) Cr (λ_=>2) 549755813888 id rfl (by omega) (by rw[OE];simp;omega) (λk x a=>W0 x a) (λk x a hi hx hd hw hk hb=>by
  simp only[hd,hx,hw,zZ,aA,bF,Cj,aC (b:=8) (n:=a.length) (m:=1) (by decide) (by omega)];unfold Mh;cases x.2.1 != 0<;>cases x.2.2 != 0<;>simp[aC (b:=8) (n:=a.length) (m:=1) (by decide) (by omega),aC (b:=8) (n:=a.length+1) (m:=1) (by decide) (by omega)]) (λa=>by simp)]
 rfl
def oG(l:List Int)(n:Int):Bool:= !(l.all λx=> !(x==n))
theorem MN{l:List Int}{n:Int}(h:l.length<=549755813888):jE l n=U (oG l n):=by
 unfold jE oG;rw[aM (l:=l) (λ_ x=>if !(x==n) then W else U X) (by omega) (λk x hi hd hw hm hk=>by
  simp only[hd,hi,hw,zZ,aA];cases x==n<;>rfl) (by simp),iO (λx:Int=> !(x==n))]
 cases l.all (λx=> !(x==n))<;>rfl
theorem Lq{l:List Int}{n:Int}(h:l.length<=549755813888):gU l n=U (oG l n):=by
 unfold gU oG;rw[aM (l:=l) (λ_ x=>if !(x==n) then W else U X) (by omega) (λk x hi hd hw hm hk=>by
  simp only[hd,hi,hw,zZ,aA];cases x==n<;>rfl) (by simp),iO (λx:Int=> !(x==n))]
 cases l.all (λx=> !(x==n))<;>rfl
theorem RO(p:den B4):(mF p).length<=2 * tot B4 p:=by
 have h:=Ib (f:=λ_ s (a:List Int)=>Mh s a) (m:=Cr) (cost:=λ_=>2) (λk x a=>W0 x a) (iD p) 0 [];have hl:=Jb p;rw[OE]at h;unfold mF;simp at h;omega
def rA(p:den B4)(x:den CI):Bool:=iL x&&oG (mF p) (wr (wr (8 * x.1)+x.2.1))
theorem bE4{p:den B4}{x:den CI}(h:tot B4 p<=68719476736):xE p x=U (rA p x):=by
 have :=RO p;unfold xE rA A6;simp only[aD,Og,aA,bL0 h,MN (l:=mF p) (by omega)];cases iL x<;>rfl
theorem bEa{p:den B4}{x:den CI}(h:tot B4 p<=68719476736):xQ p x=U (rA p x):=by
 have :=RO p;unfold xQ rA A6;simp only[aD,NV,aA,bMy h,Lq (l:=mF p) (by omega)];cases iL x<;>rfl
theorem bEr{α R:Type}(m:R->Nat)(B:Nat){g:Nat->α->Option R}:∀{l:List α} {k:Nat},(∀j x r,l[j]? =U x->g (k+j) x=U r->m r<=B)-> ∀r,dH g k l=U r->m r<=B
 | [],_,_,r,h=>by cases h
 | x::xs,k,hg,r,h=>by
  simp only[dH]at h;cases hx:g k x with
  | some r'=>rw[hx]at h;injection h with h;subst h;exact hg 0 x r' rfl hx
  | none=>
   rw[hx]at h;exact bEr m B (λj y r hy hr=>hg (j+1) y r (by simpa using hy) (by rw[show k+(j+1)=k+1+j by omega];exact hr)) r h
theorem bTj(l:CB):tot (.sl CI) l=l.length:=by
 induction l with
 | nil=>rfl
 | cons x l ih=>rw[kD,ih];simp[tot];omega
theorem bX9(l:CB)(x:den CI):tot (.sl CI) (Nq l x)<=l.length+1:=by
 rw[bTj];unfold Nq;cases iL x with
 | false=>simp
 | true=>
  simp only[zZ];cases hs:dH (It x l) 0 l with
  | some r=>
   refine bEr Cr (l.length+1) (g:=It x l) (l:=l) (k:=0) (λj y r' hy hr=> ?_) r hs;unfold It at hr;cases c1:y.1==x.1 with
   | false=>rw[c1]at hr;cases hr
   | true=>
    cases c2:y.2.1==x.2.1 with
    | false=>rw[c1,c2]at hr;cases hr
    | true=>rw[c1,c2]at hr;injection hr with hr;rw[<- hr];simp
  | none=>
   by_cases c:16<l.length+1
   .simp[c]
   .simp[c]
def Ug(f:den B7)(x:den CI):Bool:=B3 f.2.2.2.2.2.2.1 0 ((f.2.2.2.2.2.1.length:Int) - 1)&&rA ((f.2.2.2.2.2.1[f.2.2.2.2.2.2.1.toNat]?).getD []) x
def Il(b:List Int):den CI:=((DY b).1,(DY b).2.1,(DY b).2.2.1)
def L3(f:den B7)(p:den A9):den B7:=
 cond (p.1==3&&(DY p.2.2.2.2.2.2.2.2.2).2.2.2)
  (f.1,f.2.1,f.2.2.1,f.2.2.2.1,f.2.2.2.2.1,f.2.2.2.2.2.1,cond (Ug f (Il p.2.2.2.2.2.2.2.2.2)) (Ef f) f.2.2.2.2.2.2.1,cond (Ug f (Il p.2.2.2.2.2.2.2.2.2)) 0 f.2.2.2.2.2.2.2.1,Nq f.2.2.2.2.2.2.2.2 (Il p.2.2.2.2.2.2.2.2.2)) f
def cMd(f:den B7):q33:=(f.1,f.2.1,f.2.2.1,f.2.2.2.1,f.2.2.2.2.2.2.1,f.2.2.2.2.2.2.2.1,f.2.2.2.2.2.2.2.2,f.2.2.2.2.1,f.2.2.2.2.2.1)
theorem bNo{f:den B7}(h:tot B7 f<=68719476736)(hr:B3 f.2.2.2.2.2.2.1 0 ((f.2.2.2.2.2.1.length:Int) - 1)=X):∃q,f.2.2.2.2.2.1[f.2.2.2.2.2.2.1.toNat]? =U q/\idx f.2.2.2.2.2.1 f.2.2.2.2.2.2.1=U q/\tot B4 q<=68719476736:=by
 obtain⟨h0,h1⟩:=bQ.1 hr;obtain⟨q,hq⟩:=Ld h0 h1;have ht:=FY (t:=B4) hq;have hp:tot (.sl B4) f.2.2.2.2.2.1<=68719476736:=DQ (aP (aP (aP (aP (aP h)))));exact⟨q,hq,J5 h0 hq,by omega⟩
theorem cEw{f:den B7}{p:den A9}{now:Int}(h:tot B7 f<=68719476736)(hp:tot A9 p<=68719476736)(hb:∀x∈p.2.2.2.2.2.2.2.2.2,0<=x/\x<=255):lW f p now=U (tS (L3 f p)):=by
 have hf:Cc 549755813888 B7 f:=(bH h).mono (by decide);have hl:p.2.2.2.2.2.2.2.2.2.length<=549755813888:=B5 (cO (t:=tb) _) (B5 (aP (aP (aP (aP (aP (aP (aP (aP (aP hp))))))))) (by decide));have hv:f.2.2.2.2.2.2.2.2.length<=68719476736:=B5 (cO (t:=CI) _) (aP (aP (aP (aP (aP (aP (aP (aP h))))))));have hn:f.2.2.2.2.2.1.length<=549755813888:=hf.2.2.2.2.2.1.1;unfold lW L3 Ct A0 A4 A3 A8 B0 B8;simp only[aD,OA hf,aA,cJi hb hl,gX,rJ hn,bLs,cH3 hv,bne];cases c1:p.1==3
 .simp only[Cn,zZ,aA,CD,zY]
 .cases c2:(DY p.2.2.2.2.2.2.2.2.2).2.2.2
  .simp only[BZ,Cn,zZ,zY,aA,Cw]
  .simp only[BZ,zZ,zY,aA,Cw];unfold Ug;cases c3:B3 f.2.2.2.2.2.2.1 0 ((f.2.2.2.2.2.1.length:Int) - 1)
   .simp only[zY,aA,CD];rfl
   .obtain⟨q,hq,hi,ht⟩:=bNo h c3;have ha:=bE4 (p:=q) (x:=Il p.2.2.2.2.2.2.2.2.2) ht;have ha:xE q ((DY p.2.2.2.2.2.2.2.2.2).1,(DY p.2.2.2.2.2.2.2.2.2).2.1,(DY p.2.2.2.2.2.2.2.2.2).2.2.1)=U (rA q (Il p.2.2.2.2.2.2.2.2.2)):=ha;simp only[zZ,hi,hq,CJ,aA,ha,Cw];cases rA q (Il p.2.2.2.2.2.2.2.2.2)<;>rfl
theorem cEx{f:den B7}{p:den A9}{now:Int}(h:tot B7 f<=68719476736)(hp:tot A9 p<=68719476736)(hb:∀x∈p.2.2.2.2.2.2.2.2.2,0<=x/\x<=255):lZ f p now=U (cMd (L3 f p)):=by
 have hf:Cc 549755813888 B7 f:=(bH h).mono (by decide);have hl:p.2.2.2.2.2.2.2.2.2.length<=549755813888:=B5 (cO (t:=tb) _) (B5 (aP (aP (aP (aP (aP (aP (aP (aP (aP hp))))))))) (by decide));have hv:f.2.2.2.2.2.2.2.2.length<=68719476736:=B5 (cO (t:=CI) _) (aP (aP (aP (aP (aP (aP (aP (aP h))))))));have hn:f.2.2.2.2.2.1.length<=549755813888:=hf.2.2.2.2.2.1.1;unfold lZ L3 A6 Ct A0 A4 A3 A8 B0 B8;simp only[aD,MH hf,aA,cK2 hb hl,fC,rJ hn,cI9 hv,bne];cases c1:p.1==3
 .simp only[Cn,zZ,aA,CD,zY];rfl
 .cases c2:(DY p.2.2.2.2.2.2.2.2.2).2.2.2
  .simp only[BZ,Cn,zZ,zY,aA,Cw];rfl
  .simp only[BZ,zZ,zY,aA,Cw];unfold Ug;cases c3:B3 f.2.2.2.2.2.2.1 0 ((f.2.2.2.2.2.1.length:Int) - 1)
   .simp only[zY,aA,CD];rfl
   .obtain⟨q,hq,hi,ht⟩:=bNo h c3;have ha:=bEa (p:=q) (x:=Il p.2.2.2.2.2.2.2.2.2) ht;have ha:xQ q ((DY p.2.2.2.2.2.2.2.2.2).1,(DY p.2.2.2.2.2.2.2.2.2).2.1,(DY p.2.2.2.2.2.2.2.2.2).2.2.1)=U (rA q (Il p.2.2.2.2.2.2.2.2.2)):=ha;simp only[zZ,hi,hq,CJ,aA,ha,Cw,bUt hf c3];cases rA q (Il p.2.2.2.2.2.2.2.2.2)<;>rfl
theorem bTl(f:den B7)(p:den A9):tot B7 (L3 f p)<=tot B7 f+1:=by
 unfold L3;cases (p.1==3&&(DY p.2.2.2.2.2.2.2.2.2).2.2.2)
 .simp
 .have h1:=bX9 f.2.2.2.2.2.2.2.2 (Il p.2.2.2.2.2.2.2.2.2);have h2:=bTj f.2.2.2.2.2.2.2.2;simp only[zZ,sI,vZ];omega
def oA(h:den cH):Bool:=B3 h.1 0 7&&(B3 h.2.1 0 6&&(B3 h.2.2.1 0 6&&(!(h.2.1==h.2.2.1)&&(B3 h.2.2.2.1 0 1000000&&kR h.2.2.2.2))))
theorem W6(h:den cH):sA h=U (oA h):=by
 unfold sA oA A0;simp only[gX,Lh,aA,bne];cases B3 h.1 0 7<;>cases B3 h.2.1 0 6<;>cases B3 h.2.2.1 0 6<;>cases h.2.1==h.2.2.1<;>cases B3 h.2.2.2.1 0 1000000<;>rfl
theorem Sl(h:den cH):oB h=U (oA h):=by
 unfold oB oA A0;simp only[fC,Ln,aA,bne];cases B3 h.1 0 7<;>cases B3 h.2.1 0 6<;>cases B3 h.2.2.1 0 6<;>cases h.2.1==h.2.2.1<;>cases B3 h.2.2.2.1 0 1000000<;>rfl
theorem Ti(n k:Nat):D ((n:Int)>(k:Int))= !D (n<=k):=by rw[CG];simp
def J9(l:eV):Bool:=D (l.length<=8)&&l.all oA
theorem cFh{l:eV}(h:l.length<=549755813888):qX l=U (J9 l):=by
 unfold qX J9 Cp;rw[aM (l:=l) (λ_ x=>if oA x then W else U Y) (by omega) (λk x hi hd hw hm hk=>by
  simp only[hd,hi,hw,zZ,aA,aD,W6];cases oA x<;>rfl) (by simp),iO oA]
 have e:=Ti l.length 8;rw[show ((8:Nat):Int)=8 from rfl]at e;rw[e];cases D (l.length<=8)<;>cases l.all oA<;>rfl
def FF(p:den Cb):Bool:=B3 p.1 1 4&&(B3 p.2.1 0 1000000&&(kR p.2.2.1&&J9 p.2.2.2))
theorem cKq{p:den B9}(h:p.2.2.length<=549755813888):Kz p=U (B3 p.1 0 1000000&&(kR p.2.1&&J9 p.2.2)):=by
 unfold Kz J9 Cp;rw[aM (l:=p.2.2) (λ_ x=>if oA x then W else U Y) (by omega) (λk x hi hd hw hm hk=>by
  simp only[hd,hi,hw,zZ,aA,aD,Sl];cases oA x<;>rfl) (by simp),iO oA]
 have e:=Ti p.2.2.length 8;rw[show ((8:Nat):Int)=8 from rfl]at e;rw[e,fC,Ln];cases B3 p.1 0 1000000<;>cases kR p.2.1<;>cases D (p.2.2.length<=8)<;>cases p.2.2.all oA<;>rfl
def Ho(p:den B4):Bool:=D (p.length<=3)&&p.all FF
theorem cIl{p:den B4}(h:Cc 549755813888 B4 p):qO p=U (Ho p):=by
 unfold qO Ho;rw[aM (l:=p) (λ_ x=>if FF x then W else U Y) (B5 h.1 (by decide)) (λk x hi hd hw hm hk=>by
  have hx:=(h.2 x hm).2.2.2.1;simp only[hd,hi,hw,zZ,aA,aD,gX,Lh,cFh hx];unfold FF;cases B3 x.1 1 4<;>cases B3 x.2.1 0 1000000<;>cases kR x.2.2.1<;>cases J9 x.2.2.2<;>rfl) (by simp),iO FF]
 have e:=Ti p.length 3;rw[show ((3:Nat):Int)=3 from rfl]at e;rw[e];cases D (p.length<=3)<;>cases p.all FF<;>rfl
theorem cHe{p:den B4}(h:Cc 549755813888 B4 p):qU p=U (Ho p):=by
 unfold qU Ho A6;rw[aM (l:=p) (λ_ x=>if FF x then W else U Y) (B5 h.1 (by decide)) (λk x hi hd hw hm hk=>by
  have hx:=(h.2 x hm).2.2.2.1;have hs:=cKq (p:=(x.2.1,x.2.2.1,x.2.2.2)) hx;simp only[hd,hi,hw,zZ,aA,aD,fC];simp only[aD]at hs;simp only[hs,aA];unfold FF;cases B3 x.1 1 4<;>cases B3 x.2.1 0 1000000<;>cases kR x.2.2.1<;>cases J9 x.2.2.2<;>rfl) (by simp),iO FF]
 have e:=Ti p.length 3;rw[show ((3:Nat):Int)=3 from rfl]at e;rw[e];cases D (p.length<=3)<;>cases p.all FF<;>rfl
def aHe(x:den Cb):Bool:= !((x.2.2.2.length:Int)==0)
def sL(p:den A9):Bool:=B3 p.1 1 3&&(Ho p.2.2.2.1&&(dQ p&&(kR p.2.2.2.2.2.2.1&&(p.2.2.2.1.all aHe&&(B3 p.2.1 0 7&&(B3 p.2.2.1 0 7&&(B3 p.2.2.2.2.2.2.2.1 0 100000&&(B3 p.2.2.2.2.2.2.2.2.1 0 100000&&D ((p.2.2.2.2.2.2.2.2.2.length:Int)<=40)))))))))
theorem cJj{p:den A9}(h:Ho p.2.2.2.1=X):D (fP p<0)= !dQ p:=by
 cases c:dQ p with
 | false=>rw[KZ c];rfl
 | true=>
  obtain⟨i,j,x,y,h1,h2,h3,h4,h5⟩:=PO c;rw[h5];unfold Ho at h;have ha:=(Ck _ _▸h:_/\_).2;have hx:=Dg.1 ha x (Cm h3);unfold FF J9 at hx;simp only[Ck]at hx;have hy:=Dg.1 hx.2.2.2.2 y (Cm h4);unfold oA at hy;simp only[Ck,bQ]at hy;have :=hy.1.1;simp;omega
theorem bXn{p:den A9}(h:Cc 549755813888 A9 p):vL p=U (sL p):=by
 unfold vL sL aK A3 A8 B0 B8;rw[aM (l:=p.2.2.2.1) (λ_ x=>if aHe x then W else U Y) (B5 h.2.2.2.1.1 (by decide)) (λk x hi hd hw hm hk=>by
  simp only[hd,hi,hw,zZ,aA];unfold aHe;cases (x.2.2.2.length:Int)==0<;>rfl) (by simp),iO aHe]
 simp only[gX,aD,Ot h,cIl h.2.2.2.1,Lh,aA];cases B3 p.1 1 3
 .rfl
 .cases he:Ho p.2.2.2.1
  .rfl
  .rw[cJj he];cases hz:(p.2.2.2.1.length:Int)==0
   .cases dQ p<;>simp only[BZ,Cn,zZ,zY,aA,CD,Cw];cases kR p.2.2.2.2.2.2.1<;>simp only[BZ,Cn,zZ,zY,aA,CD,Cw];cases p.2.2.2.1.all aHe<;>cases B3 p.2.1 0 7<;>cases B3 p.2.2.1 0 7<;>cases B3 p.2.2.2.2.2.2.2.1 0 100000<;>cases B3 p.2.2.2.2.2.2.2.2.1 0 100000<;>rfl
   .have hh:dQ p=Y:=by
     have hl:(p.2.2.2.1.length:Int)=0:=by simpa using hz
     unfold dQ;have :B3 p.2.2.2.2.1 0 ((p.2.2.2.1.length:Int) - 1)=Y:=by rw[SN];omega
     rw[this];rfl
    rw[hh];rfl
theorem bY1{p:den A9}(h:Cc 549755813888 A9 p):vJ p=U (sL p):=by
 have l1:=h.2.2.2.1.1;unfold vJ sL A0 A4 A3 A8 B0 B8;rw[aM (l:=p.2.2.2.1) (λ_ x=>if aHe x then W else U Y) (B5 h.2.2.2.1.1 (by decide)) (λk x hi hd hw hm hk=>by
  simp only[hd,hi,hw,zZ,aA];unfold aHe;cases (x.2.2.2.length:Int)==0<;>rfl) (by simp),iO aHe]
 simp only[fC,rJ l1,cHe h.2.2.2.1,Ln,aA];unfold dQ;cases B3 p.1 1 3
 .rfl
 .cases he:Ho p.2.2.2.1
  .rfl
  .cases c1:B3 p.2.2.2.2.1 0 ((p.2.2.2.1.length:Int) - 1)
   .rfl
   .rw[bQ]at c1;obtain⟨x,hx⟩:=Ld c1.1 c1.2;have l2:=(h.2.2.2.1.2 _ (Cm hx)).2.2.2.1;rw[J5 c1.1 hx,hx];simp only[BZ,zY,aA,CJ,rJ l2,Cw];cases kR p.2.2.2.2.2.2.1<;>cases B3 p.2.2.2.2.2.1 0 ((x.2.2.2.length:Int) - 1)<;>cases p.2.2.2.1.all aHe<;>cases B3 p.2.1 0 7<;>cases B3 p.2.2.1 0 7<;>cases B3 p.2.2.2.2.2.2.2.1 0 100000<;>cases B3 p.2.2.2.2.2.2.2.2.1 0 100000<;>rfl
abbrev OG(l:C4)(now:Int):C4:=l.filter λx=>D (now<=x.2.2.2.2)
theorem bY5{l:C4}{now:Int}(h:l.length<=68719476736):iJ l now=U (OG l now):=by
 unfold iJ Cp A0;rw[(KP (l:=l) (out:=λa=>a) (λ(a:C4) x=>if D (now<=x.2.2.2.2) then a++[x] else a) (λk a=>a.length<=k) (by omega) (by simp) (λk x a hi hd hw hx hk hI=>by
  simp only[hd,hi,hw,zZ,aA]
  by_cases hp:now<=x.2.2.2.2
  .simp[hp,aC (b:=40) (n:=a.length) (m:=1) (by decide) (by omega)];omega
  .simp[hp];omega) (λa=>by simp)).1]
 simp only[R8,CH,aA]
theorem bXy{l:C4}{now:Int}(h:l.length<=68719476736):iP l now=U (OG l now):=by
 unfold iP Cp A0;rw[(KP (l:=l) (out:=λa=>a) (λ(a:C4) x=>if D (now<=x.2.2.2.2) then a++[x] else a) (λk a=>a.length<=k) (by omega) (by simp) (λk x a hi hd hw hx hk hI=>by
  simp only[hd,hi,hw,zZ,aA]
  by_cases hp:now<=x.2.2.2.2
  .simp[hp,aC (b:=40) (n:=a.length) (m:=1) (by decide) (by omega)];omega
  .simp[hp];omega) (λa=>by simp)).1]
 simp only[R8,CH,aA]
def DL(x:den C9)(s d:Int):Bool:=x.2.1==s&&x.2.2.1==d
theorem Zt(x:den C9)(s d:Int):gC x s d=U (DL x s d):=by
 unfold gC DL;cases x.2.1==s<;>simp
theorem cIz(x:den C9)(s d now:Int):HY x s d now=U (DL x s d&&D (now<=x.2.2.2.2)):=by
 unfold HY DL A0;cases x.2.1==s<;>cases x.2.2.1==d<;>simp
def N3(l:C4)(s d now:Int):Int:=l.foldl (λa x=>if DL x s d&&D (now<=x.2.2.2.2) then wr (a+x.2.2.2.1) else a) 0
theorem bUa{l:C4}{s d now:Int}(h:l.length<=68719476736):nF l s d now=U (N3 l s d now):=by
 unfold nF Cp A0;rw[(aYx (l:=l) (out:=λa=>a) (λ(a:Int) x=>if DL x s d&&D (now<=x.2.2.2.2) then wr (a+x.2.2.2.1) else a) (λ_ _=>True) (by omega) trivial (λk x a hi hd hw hx hk hI=>by
  refine⟨?_,trivial⟩;simp only[hd,hi,hw,zZ,aA];rw[show ((x.1,x.2.1,x.2.2.1,x.2.2.2.1,x.2.2.2.2):den C9)=x from rfl,Zt];cases DL x s d<;>cases D (now<=x.2.2.2.2)<;>rfl) (λa=>by simp)).1]
 rfl
theorem bUe{l:C4}{s d now:Int}(h:l.length<=68719476736):nH l s d now=U (N3 l s d now):=by
 unfold nH Cp;rw[(aYx (l:=l) (out:=λa=>a) (λ(a:Int) x=>if DL x s d&&D (now<=x.2.2.2.2) then wr (a+x.2.2.2.1) else a) (λ_ _=>True) (by omega) trivial (λk x a hi hd hw hx hk hI=>by
  refine⟨?_,trivial⟩;simp only[hd,hi,hw,zZ,aA];rw[show ((x.1,x.2.1,x.2.2.1,x.2.2.2.1,x.2.2.2.2):den C9)=x from rfl,cIz];cases DL x s d<;>cases D (now<=x.2.2.2.2)<;>rfl) (λa=>by simp)).1]
 rfl
def free(l:C4)(cap s d now:Int):Int:=if wr (cap - N3 l s d now)>0 then wr (cap - N3 l s d now) else 0
theorem cKr{l:C4}{cap s d now:Int}(h:l.length<=68719476736):K7 l cap s d now=U (free l cap s d now):=by
 unfold K7;simp only[bUa h,aA,YP];rfl
theorem bUy{l:C4}{cap s d now:Int}(h:l.length<=68719476736):wE l cap s d now=U (free l cap s d now):=by
 unfold wE;simp only[bUe h,aA,TF];rfl
def MD(l:C4)(id s d now:Int):Int:=
 match dH (λ_ (x:den C9)=>if x.1==id&&(DL x s d&&D (now<=x.2.2.2.2)) then U x.2.2.2.1 else W) 0 l with
 | some r=>r
 | none=>0
theorem bSv{l:C4}{id s d now:Int}(h:l.length<=68719476736):nL l id s d now=U (MD l id s d now):=by
 unfold nL Cp A0;rw[aM (l:=l) (λ_ (x:den C9)=>if x.1==id&&(DL x s d&&D (now<=x.2.2.2.2)) then U x.2.2.2.1 else W) (by omega) (λk x hi hd hw hx hk=>by
  simp only[hd,hi,hw,zZ,aA];rw[show ((x.1,x.2.1,x.2.2.1,x.2.2.2.1,x.2.2.2.2):den C9)=x from rfl,Zt];cases x.1==id<;>cases DL x s d<;>cases D (now<=x.2.2.2.2)<;>rfl) (by simp)]
 unfold MD;cases dH (λ_ (x:den C9)=>if x.1==id&&(DL x s d&&D (now<=x.2.2.2.2)) then U x.2.2.2.1 else W) 0 l<;>rfl
theorem bEp{l:C4}{id s d now:Int}(h:l.length<=68719476736):iB l id s d now=U (MD l id s d now):=by
 unfold iB Cp;rw[aM (l:=l) (λ_ (x:den C9)=>if x.1==id&&(DL x s d&&D (now<=x.2.2.2.2)) then U x.2.2.2.1 else W) (by omega) (λk x hi hd hw hx hk=>by
  simp only[hd,hi,hw,zZ,aA];rw[show ((x.1,x.2.1,x.2.2.1,x.2.2.2.1,x.2.2.2.2):den C9)=x from rfl,cIz];cases x.1==id<;>cases DL x s d<;>cases D (now<=x.2.2.2.2)<;>rfl) (by simp)]
 unfold MD;cases dH (λ_ (x:den C9)=>if x.1==id&&(DL x s d&&D (now<=x.2.2.2.2)) then U x.2.2.2.1 else W) 0 l<;>rfl
def MM(x:den C9):Bool:=B3 x.1 1 100000&&(B3 x.2.2.2.1 1 20&&iL (x.2.1,x.2.2.1,x.2.2.2.2))
theorem bZ5(x:den C9):lS x=U (MM x):=by
 unfold lS MM A0;simp only[gX,Og,aA];cases B3 x.1 1 100000<;>cases B3 x.2.2.2.1 1 20<;>cases iL (x.2.1,x.2.2.1,x.2.2.2.2)<;>rfl
theorem bXl(x:den C9):lU x=U (MM x):=by
 unfold lU MM A0;simp only[fC,NV,aA];cases B3 x.1 1 100000<;>cases B3 x.2.2.2.1 1 20<;>cases iL (x.2.1,x.2.2.1,x.2.2.2.2)<;>rfl
def Ez(x y:den C9):Bool:=y.1==x.1&&DL y x.2.1 x.2.2.1
theorem bVq{l:C4}{x:den C9}(h:l.length<=68719476736):wV l x=U (l.filter λy=> !Ez x y):=by
 unfold wV Cp;rw[(KP (l:=l) (out:=λa=>a) (λ(a:C4) y=>if !Ez x y then a++[y] else a) (λk a=>a.length<=k) (by omega) (by simp) (λk y a hi hd hw hx hk hI=>by
  simp only[hd,hi,hw,zZ,aA];have hap:=aC (b:=40) (n:=a.length) (m:=1) (by decide) (by omega);unfold Ez DL;simp only[bne];cases h1:y.1==x.1<;>cases h2:y.2.1==x.2.1<;>cases h3:y.2.2.1==x.2.2.1<;>simp[hap]<;>omega) (λa=>by simp)).1]
 simp only[R8,CH,aA]
def Mq(l:C4)(cap now:Int)(k:Nat)(x:den C9):Bool:=MM x&&(!D (N3 l x.2.1 x.2.2.1 now>cap)&& !(l.take k).any (Ez x))
def MG(l:C4)(cap now:Int):Bool:=
 D (l.length<=40)&&(dH (λk x=>if Mq l cap now k x then W else U ()) 0 l).isNone
theorem Mw{α R S:Type}(p:Nat->α->Bool)(r:R)(s:S):∀(l:List α) (k:Nat),(dH (λk x=>if p k x then W else U r) k l).isNone=(dH (λk x=>if p k x then W else U s) k l).isNone/\ ∀q,dH (λk x=>if p k x then W else U r) k l=U q->q=r
 | [],_=>⟨rfl,λq h=>by cases h⟩
 | x::xs,k=>by
  simp only[dH];cases p k x with
  | true=>simpa using Mw p r s xs (k+1)
  | false=>simp
theorem bRo{α:Type}(p:Nat->α->Bool)(l:List α):(match dH (λk x=>if p k x then W else U Y) 0 l with
  | some r=>U r
  | none=>U X)=U (dH (λk x=>if p k x then W else U ()) 0 l).isNone:=by
 obtain⟨h1,h2⟩:=Mw p Y () l 0;rw[<- h1];cases h:dH (λk x=>if p k x then W else U Y) 0 l with
 | none=>rfl
 | some q=>rw[h2 q h];rfl
theorem bU9{l:C4}{cap now:Int}(h:l.length<=68719476736):jO l cap now=U (MG l cap now):=by
 unfold jO MG Cp
 by_cases hl:l.length<=40
 .rw[zW (by omega),zY,zX hl,Cw];rw[aM (l:=l) (λk x=>if Mq l cap now k x then W else U Y) (by omega) (λk x hi hd hw hx hk=>by
   have hslo:bG (0:Int) (k:Int) (l.length:Int)=X:=by simp[bG];omega
   have hlen:(l.take k).length<=68719476736:=by simp;omega
   simp only[hd,hi,hw,zZ,aA,hslo,fL];rw[show ((x.1,x.2.1,x.2.2.1,x.2.2.2.1,x.2.2.2.2):den C9)=x from rfl,bZ5,bUa h];unfold Mq;cases hv:MM x with
   | false=>rfl
   | true=>
    cases hr:D (N3 l x.2.1 x.2.2.1 now>cap) with
    | true=>simp[hr]
    | false=>
     simp only[aA,BZ,zY,hr,Cn,Cw];rw[aM (l:=l.take k) (R:=Int⊕(Unit⊕Bool)) (λ_ y=>if Ez x y then U (A2 (A2 Y)) else W) (by omega) (λj y hi2 hd2 hw2 hx2 hk2=>by
      simp only[hd2,hi2,hw2,zZ,aA];rw[show ((y.1,y.2.1,y.2.2.1,y.2.2.2.1,y.2.2.2.2):den C9)=y from rfl,Zt];unfold Ez;cases y.1==x.1<;>cases DL y x.2.1 x.2.2.1<;>rfl) (by simp)]
     have key:∀(m:C4) (j:Nat),dH (λ_ y=>if Ez x y then U (A2 (A2 Y):Int⊕(Unit⊕Bool)) else W) j m=if m.any (Ez x) then U (A2 (A2 Y)) else W:=by
      intro m
      induction m with
      | nil=>intro j;rfl
      | cons y m ih=>
       intro j;simp only[dH,List.any_cons];rcases PE (Ez x y) with hs | hs
       .simp[hs]
       .simp only[hs,ih,Cg,zU];rfl
     rw[key];cases (l.take k).any (Ez x)<;>simp) (by simp)]
  rw[<- bRo];cases dH (λk x=>if Mq l cap now k x then W else U Y) 0 l<;>rfl
 .rw[zX (by omega),zZ,zW hl];rfl
theorem bU8{l:C4}{cap now:Int}(h:l.length<=68719476736):jN l cap now=U (MG l cap now):=by
 unfold jN MG Cp;rw[aM (l:=l) (λk x=>if Mq l cap now k x then W else U Y) (by omega) (λk x hi hd hw hx hk=>by
  have hslo:bG (0:Int) (k:Int) (l.length:Int)=X:=by simp[bG];omega
  have hlen:(l.take k).length<=68719476736:=by simp;omega
  simp only[hd,hi,hw,zZ,aA,hslo,fL];rw[show ((x.1,x.2.1,x.2.2.1,x.2.2.2.1,x.2.2.2.2):den C9)=x from rfl,bXl,bVq hlen,bUe h];unfold Mq;cases hv:MM x with
  | false=>rfl
  | true=>
   simp only[aA,BZ,zY,Cw];have hany:((((l.take k).filter λy=> !Ez x y).length:Int) != (k:Int))=(l.take k).any (Ez x):=by
    have hk':(l.take k).length=k:=by simp;omega
    cases ha:(l.take k).any (Ez x) with
    | false=>
     have :(l.take k).filter (λy=> !Ez x y)=l.take k:=by
      rw[List.filter_eq_self];intro y hy;have :=List.any_eq_false.1 ha y hy;simpa using this
     rw[this,hk'];simp
    | true=>
     obtain⟨y,hy,hs⟩:=List.any_eq_true.1 ha;have hlt:((l.take k).filter λy=> !Ez x y).length<(l.take k).length:=by
      refine Nat.lt_of_le_of_ne (H5 ..) λhe=> ?_
      have :=(List.length_filter_eq_length_iff.1 he) y hy;rw[hs]at this;cases this
     rw[bne_iff_ne];omega
   rw[hany];cases (l.take k).any (Ez x)<;>cases D (N3 l x.2.1 x.2.2.1 now>cap)<;>rfl) (by simp)]
 obtain⟨h1,h2⟩:=Mw (Mq l cap now) Y () l 0;rw[<- h1];cases hsc:dH (λk x=>if Mq l cap now k x then W else U Y) 0 l with
 | none=>simp;omega
 | some q=>rw[h2 q hsc];simp
def Ly(id s d:Int)(x:den CW):Bool:=x.1==id&&(x.2.1==s&&x.2.2.1==d)
def place(l:Dk)(id s d:Int):Int:=
 match dH (λk x=>if Ly id s d x then U (k:Int) else W) 0 l with
 | some i=>i
 | none=> -1
theorem Sa(l:Dk)(id s d:Int):place l id s d= -1\/ ∃(j:Nat) (x:den CW),place l id s d=(j:Int)/\l[j]? =U x/\j<l.length:=by
 unfold place;cases h:dH (λk x=>if Ly id s d x then U (k:Int) else W) 0 l with
 | none=>exact .inl rfl
 | some i=>
  obtain⟨j,x,h1,h2,h3⟩:=Wm h;exact .inr ⟨j,x,by simpa using h2,h1,(Cu.1 h1).1⟩
theorem WU{g:den Dh}{id s d:Int}(h:g.2.2.length<=68719476736):vS g id s d=U (place g.2.2 id s d):=by
 unfold vS;rw[aM (l:=g.2.2) (λk x=>if Ly id s d x then U (k:Int) else W) (by omega) (λk x hi hd hw hx hk=>by
  simp only[hd,hi,hw,zZ,aA];unfold Ly;cases x.1==id<;>cases x.2.1==s<;>cases x.2.2.1==d<;>rfl) (by simp)]
 unfold place;cases dH (λk x=>if Ly id s d x then U (k:Int) else W) 0 g.2.2<;>rfl
theorem WZ{l:Dk}{id s d:Int}(h:l.length<=68719476736):sH l id s d=U (place l id s d):=by
 unfold sH;rw[aM (l:=l) (λk x=>if Ly id s d x then U (k:Int) else W) (by omega) (λk x hi hd hw hx hk=>by
  simp only[hd,hi,hw,zZ,aA];unfold Ly;cases x.1==id<;>cases x.2.1==s<;>cases x.2.2.1==d<;>rfl) (by simp)]
 unfold place;cases dH (λk x=>if Ly id s d x then U (k:Int) else W) 0 l<;>rfl
def Fg(g:den Dh)(id s d now:Int):Int:=if id==0 then free g.2.1 g.1 s d now else MD g.2.1 id s d now
theorem bMz{g:den Dh}{id s d now:Int}(h:g.2.1.length<=68719476736):HK g id s d now=U (Fg g id s d now):=by
 unfold HK Fg;rw[cKr h,bSv h];cases id==0<;>rfl
def H7(g:den Dh)(now:Int)(k:Nat)(x:den CW):Bool:=place g.2.2 x.1 x.2.1 x.2.2.1==(k:Int)&&B3 x.2.2.2 1 (Fg g x.1 x.2.1 x.2.2.1 now)
def J7(g:den Dh)(now:Int):Bool:=B3 g.1 1 20&&(MG g.2.1 g.1 now&&(dH (λk x=>if H7 g now k x then W else U ()) 0 g.2.2).isNone)
theorem bYr{g:den Dh}{now:Int}(h1:g.2.1.length<=68719476736)(h2:g.2.2.length<=68719476736):oY g now=U (J7 g now):=by
 unfold oY J7 A6;rw[aM (l:=g.2.2) (λk x=>if H7 g now k x then W else U Y) (by omega) (λk x hi hd hw hx hk=>by
  simp only[hd,hi,hw,zZ,aA];rw[show ((g.1,g.2.1,g.2.2):den Dh)=g from rfl,WU h2,bMz h1];unfold H7;simp only[aA,gX,bne];cases place g.2.2 x.1 x.2.1 x.2.2.1==(k:Int)<;>cases B3 x.2.2.2 1 (Fg g x.1 x.2.1 x.2.2.1 now)<;>rfl) (by simp)]
 rw[<- Mw (H7 g now) Y () g.2.2 0 |>.1];have h3:=(Mw (H7 g now) Y () g.2.2 0).2;simp only[gX,bU9 h1,aA];cases B3 g.1 1 20<;>cases MG g.2.1 g.1 now<;>(cases hsc:dH (λk x=>if H7 g now k x then W else U Y) 0 g.2.2 with
  | none=>rfl
  | some q=>rw[h3 q hsc];rfl)
theorem cAe{g:den Dh}{now:Int}(h1:g.2.1.length<=68719476736)(h2:g.2.2.length<=68719476736):pE g now=U (J7 g now):=by
 unfold pE J7;rw[aM (l:=g.2.2) (λk x=>if H7 g now k x then W else U Y) (by omega) (λk x hi hd hw hx hk=>by
  simp only[hd,hi,hw,zZ,aA,WZ h2,bUy h1,bEp h1,fC];unfold H7 Fg;simp only[bne];cases x.1==0<;>simp only[zZ,zY,aA,fC,zV,Cg,zU]<;>cases place g.2.2 x.1 x.2.1 x.2.2.1==(k:Int)<;>simp only[BZ,Cn,zZ,zY,aA,Cw,CD]<;>(first | rfl | (split<;>simp_all))) (by simp)]
 rw[<- Mw (H7 g now) Y () g.2.2 0 |>.1];have h3:=(Mw (H7 g now) Y () g.2.2 0).2;simp only[fC,bU8 h1,aA];cases B3 g.1 1 20<;>cases MG g.2.1 g.1 now<;>(cases hsc:dH (λk x=>if H7 g now k x then W else U Y) 0 g.2.2 with
  | none=>rfl
  | some q=>rw[h3 q hsc];rfl)
theorem dO{n:Nat}(h:n<=549755813888):wr ((n:Int) - 1)=(n:Int) - 1:=wri (by omega) (by omega)
def cK(t:den B2)(r:Int):Bool:=B3 r 0 ((t.1.length:Int) - 1)
theorem Fa{t:den B2}{r:Int}(h:t.1.length<=549755813888):fT t r=U (cK t r):=by
 unfold fT cK;rw[dO h,gX];rfl
theorem F7{t:den B2}{r:Int}(h:t.1.length<=549755813888):cX t r=U (cK t r):=by
 unfold cX cK;rw[dO h,fC];rfl
theorem cMk(n:Int):KE n=U (B3 n 1 2147483646):=by unfold KE;rw[gX];rfl
theorem cLn(n:Int):K4 n=U (B3 n 1 2147483646):=by unfold K4;rw[fC];rfl
def mJ(l:den C8)(r d:Int):Bool:=(l.1==r&&l.2.1==d)||(l.2.2.1==r&&l.2.2.2.1==d)
theorem bMj(l:den C8)(r d:Int):iY l r d=U (mJ l r d):=by
 unfold iY mJ;cases l.1==r<;>cases l.2.1==d<;>cases l.2.2.1==r<;>cases l.2.2.2.1==d<;>rfl
theorem bMl(l:den C8)(r d:Int):GR l r d=U (mJ l r d):=by
 unfold GR mJ;cases l.1==r<;>cases l.2.1==d<;>cases l.2.2.1==r<;>cases l.2.2.2.1==d<;>rfl
def Xk(k:Int)(x y:den CN):Bool:=cond (k==1) (x.2.1&&y.2.1) (cond (k==2) (x.1==y.1&& !y.2.1) (cond (k==3) (!x.2.1&& !y.2.1) Y))
def Nd(t:den B2)(l:den C8):Bool:=
 cK t l.1&&(cK t l.2.2.1&&(!D (l.1>=l.2.2.1)&&(B3 l.2.1 1 6&&(B3 l.2.2.2.1 1 6&&Xk l.2.2.2.2 ((t.1[l.1.toNat]?).getD (0,Y,0)) ((t.1[l.2.2.1.toNat]?).getD (0,Y,0))))))
theorem Gq{t:den B2}{r:Int}(h:cK t r=X):∃x,t.1[r.toNat]? =U x/\idx t.1 r=U x:=by
 obtain⟨h0,h1⟩:=bQ.1 h;obtain⟨x,hx⟩:=Ld h0 h1;exact⟨x,hx,J5 h0 hx⟩
theorem cGu{t:den B2}{l:den C8}(h:t.1.length<=549755813888):Lb t l=U (Nd t l):=by
 unfold Lb Nd A1 A6 A0;simp only[aD,Fa h,gX,aA];cases c1:cK t l.1
 .rfl
 .cases c2:cK t l.2.2.1
  .rfl
  .obtain⟨x,hx,ix⟩:=Gq c1;obtain⟨y,hy,iy⟩:=Gq c2;rw[ix,iy,hx,hy];simp only[bB,cB,bL,bJ,bO,aA,CJ,BZ,zY,Cw];unfold Xk;cases D (l.1>=l.2.2.1)
   .cases B3 l.2.1 1 6
    .rfl
    .cases B3 l.2.2.2.1 1 6
     .rfl
     .cases l.2.2.2.2==1
      .cases l.2.2.2.2==2
       .cases l.2.2.2.2==3
        .rfl
        .cases x.2.1<;>rfl
       .cases x.1==y.1<;>rfl
      .cases x.2.1<;>rfl
   .rfl
theorem cGs{t:den B2}{l:den C8}(h:t.1.length<=549755813888):KD t l=U (Nd t l):=by
 unfold KD Nd A1 A0;simp only[aD,F7 h,fC,aA];cases c1:cK t l.1
 .rfl
 .cases c2:cK t l.2.2.1
  .rfl
  .obtain⟨x,hx,ix⟩:=Gq c1;obtain⟨y,hy,iy⟩:=Gq c2;rw[ix,iy,hx,hy];simp only[aA,CJ,BZ,zY,Cw];unfold Xk;cases D (l.1>=l.2.2.1)
   .cases B3 l.2.1 1 6
    .rfl
    .cases B3 l.2.2.2.1 1 6
     .rfl
     .cases l.2.2.2.2==1
      .cases l.2.2.2.2==2
       .cases l.2.2.2.2==3
        .rfl
        .cases x.2.1<;>rfl
       .cases x.1==y.1<;>rfl
      .cases x.2.1<;>rfl
   .rfl
def Ke(t:den B2)(k:Nat)(x:den CN):Bool:=B3 x.1 0 2&&(B3 x.2.2 1 2147483646&&(t.1.take k).all λy=> !(x.2.2==y.2.2))
def Kk(t:den B2)(k:Nat)(x:den C8):Bool:=Nd t x&&(t.2.take k).all λy=> !(mJ y x.1 x.2.1||mJ y x.2.2.1 x.2.2.2.1)
def mO(t:den B2):Bool:=B3 (t.1.length:Int) 1 8&&((t.1.zipIdx 0).all (λz=>Ke t z.2 z.1)&&(t.2.zipIdx 0).all λz=>Kk t z.2 z.1)
theorem KS{k n:Nat}(h:k<n):bG (0:Int) (k:Int) (n:Int)=X:=by
 have :=yK (a:=0) (b:=k) (n:=n);rw[show ((0:Nat):Int)=0 from rfl]at this;rw[this];simp;omega
theorem bJr{α:Type}{l:List α}{k j:Nat}{x:α}(h:idx (l.take k) (j:Int)=U x):idx l (j:Int)=U x:=by
 rw[aQ]at h ⊢;exact (So h).1
theorem HP{α:Type}{l:List α}{k:Nat}(h:k<l.length):(l.take k).length=k:=by simp;omega
theorem MR{t:den B2}(h:Cc 549755813888 B2 t):cS t=U (mO t):=by
 have l1:=h.1.1;have l2:=h.2.1;unfold cS mO A1 Cp;rw[aM (l:=t.1) (λk x=>if Ke t k x then W else U Y) (B5 l1 (by decide)) (λk x hi hd hw hm hk=>by
  simp only[hd,hi,zZ,aA,gX,cMk,KS hk,fL,hw];rw[aM (l:=t.1.take k) (λ_ y=>if !(x.2.2==y.2.2) then W else U (A2 (A2 Y))) (by rw[HP hk];omega) (λj y hi hd hw hm hk=>by
   simp only[hd,hi,hw,zZ,aA];cases x.2.2==y.2.2<;>rfl) (by simp),iO (λy:den CN=> !(x.2.2==y.2.2))]
  unfold Ke;cases B3 x.1 0 2<;>cases B3 x.2.2 1 2147483646<;>cases (t.1.take k).all (λy=> !(x.2.2==y.2.2))<;>rfl) (by simp),EI (Ke t)]
 rw[aM (l:=t.2) (λk x=>if Kk t k x then W else U Y) (B5 l2 (by decide)) (λk x hi hd hw hm hk=>by
  simp only[hd,hi,zZ,aA,aD,cGu l1,KS hk,fL,hw];rw[aM (l:=t.2.take k) (λ_ y=>if !(mJ y x.1 x.2.1||mJ y x.2.2.1 x.2.2.2.1) then W else U (A2 (A2 Y))) (by rw[HP hk];omega) (λj y hi hd hw hm hk=>by
   simp only[hd,hi,hw,zZ,aA,aD,bMj];cases mJ y x.1 x.2.1<;>cases mJ y x.2.2.1 x.2.2.2.1<;>rfl) (by simp),iO (λy:den C8=> !(mJ y x.1 x.2.1||mJ y x.2.2.1 x.2.2.2.1))]
  unfold Kk;cases Nd t x<;>cases (t.2.take k).all (λy=> !(mJ y x.1 x.2.1||mJ y x.2.2.1 x.2.2.2.1))<;>rfl) (by simp),EI (Kk t)]
 rw[gX,aA];cases B3 (t.1.length:Int) 1 8<;>cases (t.1.zipIdx 0).all (λz=>Ke t z.2 z.1)<;>cases (t.2.zipIdx 0).all (λz=>Kk t z.2 z.1)<;>rfl
theorem bXd(a b:Int):(a==b)=(b==a):=by rw[CG];simp;exact eq_comm
theorem GU{t:den B2}(h:Cc 549755813888 B2 t):bY t=U (mO t):=by
 have l1:=h.1.1;have l2:=h.2.1;unfold bY mO A1 Cp;rw[aM (l:=t.1) (λk x=>if Ke t k x then W else U Y) (B5 l1 (by decide)) (λk x hi hd hw hm hk=>by
  simp only[hd,hi,zZ,aA,fC,cLn,hw];rw[aM (l:=t.1.take k) (λ_ y=>if !(x.2.2==y.2.2) then W else U (A2 (A2 Y))) (by rw[HP hk];omega) (λj y hi2 hd hw hm hk2=>by
   rw[HP hk]at hd;simp only[hd,bJr hi2,hi,hw,zZ,aA,bXd y.2.2 x.2.2];cases x.2.2==y.2.2<;>rfl) (by rw[HP hk];simp),iO (λy:den CN=> !(x.2.2==y.2.2))]
  unfold Ke;cases B3 x.1 0 2<;>cases B3 x.2.2 1 2147483646<;>cases (t.1.take k).all (λy=> !(x.2.2==y.2.2))<;>rfl) (by simp),EI (Ke t)]
 rw[aM (l:=t.2) (λk x=>if Kk t k x then W else U Y) (B5 l2 (by decide)) (λk x hi hd hw hm hk=>by
  simp only[hd,hi,zZ,aA,aD,cGs l1,hw];rw[aM (l:=t.2.take k) (λ_ y=>if !(mJ y x.1 x.2.1||mJ y x.2.2.1 x.2.2.2.1) then W else U (A2 (A2 Y))) (by rw[HP hk];omega) (λj y hi2 hd hw hm hk2=>by
   rw[HP hk]at hd;simp only[hd,bJr hi2,hi,hw,zZ,aA,aD,bMl];cases mJ y x.1 x.2.1<;>cases mJ y x.2.2.1 x.2.2.2.1<;>rfl) (by rw[HP hk];simp),iO (λy:den C8=> !(mJ y x.1 x.2.1||mJ y x.2.2.1 x.2.2.2.1))]
  unfold Kk;cases Nd t x<;>cases (t.2.take k).all (λy=> !(mJ y x.1 x.2.1||mJ y x.2.2.1 x.2.2.2.1))<;>rfl) (by simp),EI (Kk t)]
 rw[fC,aA];cases B3 (t.1.length:Int) 1 8<;>cases (t.1.zipIdx 0).all (λz=>Ke t z.2 z.1)<;>cases (t.2.zipIdx 0).all (λz=>Kk t z.2 z.1)<;>rfl
def NC(x:den Cq):Bool:=B3 x.1 0 7&&(B3 x.2.1 0 7&&(!(x.1==x.2.1)&&((x.2.2.1==(x.2.2.2.length:Int))&&(D (x.2.2.1<=20)&&x.2.2.2.all λm=>D (m.length<=40)))))
theorem cLx(a b:Int):D (a>b)= !D (a<=b):=by rw[CG];simp
theorem cL9{x:den Cq}(h:x.2.2.2.length<=549755813888):xH x=U (NC x):=by
 unfold xH NC;rw[aM (l:=x.2.2.2) (λ_ m=>if D (m.length<=40) then W else U Y) (by omega) (λk m hi hd hw hx hk=>by
  simp only[hd,hi,hw,zZ,aA]
  by_cases hm:m.length<=40
  .simp[hm,show ¬ ((m.length:Int)>40) by omega]
  .simp[hm,show (m.length:Int)>40 by omega]) (by simp),iO (λm:List Int=>D (m.length<=40))]
 simp only[gX,aA,bne,cLx];cases B3 x.1 0 7<;>cases B3 x.2.1 0 7<;>cases x.1==x.2.1<;>cases x.2.2.1==(x.2.2.2.length:Int)<;>cases D (x.2.2.1<=20)<;>cases x.2.2.2.all (λm=>D (m.length<=40))<;>rfl
theorem cL5{x:den Cq}(h:x.2.2.2.length<=549755813888):xG x=U (NC x):=by
 unfold xG NC;rw[aM (l:=x.2.2.2) (λ_ m=>if D (m.length<=40) then W else U Y) (by omega) (λk m hi hd hw hx hk=>by
  simp only[hd,hi,hw,zZ,aA]
  by_cases hm:m.length<=40
  .simp[hm,show ¬ ((m.length:Int)>40) by omega]
  .simp[hm,show (m.length:Int)>40 by omega]) (by simp),iO (λm:List Int=>D (m.length<=40))]
 simp only[fC,aA,bne];cases B3 x.1 0 7<;>cases B3 x.2.1 0 7<;>cases x.1==x.2.1<;>cases x.2.2.1==(x.2.2.2.length:Int)<;>cases D (x.2.2.1<=20)<;>cases x.2.2.2.all (λm=>D (m.length<=40))<;>rfl
theorem SK{t:den B2}(h:Cc 549755813888 B2 t):eQ t=U t:=by
 unfold eQ A1;simp only[aC (b:=24) (n:=([]:D7).length) (m:=t.1.length) (by decide) (by simpa using h.1.1),aC (b:=40) (n:=([]:D8).length) (m:=t.2.length) (by decide) (by simpa using h.2.1),zZ,bB,cB,bL,bJ,bO,aA,CH,aD]
theorem SP{t:den B2}(h:Cc 549755813888 B2 t):mC t=U t:=by
 unfold mC A1;simp only[aC (b:=24) (n:=([]:D7).length) (m:=t.1.length) (by decide) (by simpa using h.1.1),aC (b:=40) (n:=([]:D8).length) (m:=t.2.length) (by decide) (by simpa using h.2.1),zZ,bB,cB,bL,bJ,bO,aA,CH,aD]
theorem Lf{x:den B9}(h:x.2.2.length<=549755813888):cG x=U x:=by
 unfold cG;rw[Xf h];rfl
theorem Jx{x:den B9}(h:x.2.2.length<=549755813888):eB x=U x:=by
 unfold eB;rw[aC (b:=40) (n:=([]:eV).length) (by decide) (by simpa using h)];rfl
theorem MB{l:Co}(h:Cc 549755813888 (.sl B9) l):dY l=U l:=by
 unfold dY A6;rw[(jJ (λk (a:Co)=>((k:Int),a)) ((0:Int),[]) [] l (λ_ x a=>a++[x]) Cr (λ_=>1) 549755813888 id rfl (B5 h.1 (by decide)) (by rw[cT];simpa using h.1) (λk x a hi hx hd hw hk hb=>by
  have e:=h.2 x (Cm hx);simp only[hd,hi,hw,zZ,aA,aD,Lf e.2.2.1,aC (b:=40) (by decide) hb];simp) (λa=>by simp)).1,dR (λx=>x)]
 simp
theorem Ob{l:Co}(h:Cc 549755813888 (.sl B9) l):iF l=U l:=by
 unfold iF A6;rw[(jJ (λk (a:Co)=>((k:Int),a)) ((0:Int),[]) [] l (λ_ x a=>a++[x]) Cr (λ_=>1) 549755813888 id rfl (B5 h.1 (by decide)) (by rw[cT];simpa using h.1) (λk x a hi hx hd hw hk hb=>by
  have e:=h.2 x (Cm hx);simp only[hd,hi,hw,zZ,aA,aD,Jx e.2.2.1,aC (b:=40) (by decide) hb];simp) (λa=>by simp)).1,dR (λx=>x)]
 simp
theorem cK4(c:Int):sR c=U (cond (B3 c 1 20) c 1,[],[]):=by
 unfold sR;rw[gX];cases B3 c 1 20<;>rfl
theorem cG5(c:Int):sU c=U (cond (B3 c 1 20) c 1,[],[]):=by
 unfold sU;rw[fC];cases B3 c 1 20<;>rfl
def LD(t:den B2)(now:Int):Bool:=mO t&&B3 now 0 1000000
theorem cIb{t:den B2}{k:den CS}{c now:Int}(ht:Cc 549755813888 B2 t)(hk:Cc 549755813888 CS k):tY t k c now=U (cond (LD t now) (cond (B3 c 1 20) c 1,now,0,t.1,t.2,k.1,k.2,[],[],[],[],[],[]) (0,0,0,[],[],[],[],[],[],[],[],[],[])):=by
 unfold tY mU LD A1;simp only[aD,MR ht,gX,SK ht,MB hk.1,MB hk.2,cK4,aA];cases mO t<;>cases B3 now 0 1000000<;>rfl
theorem cJp{t:den B2}{k:den CS}{c now:Int}(ht:Cc 549755813888 B2 t)(hk:Cc 549755813888 CS k):rW t k c now=U (cond (LD t now) (cond (B3 c 1 20) c 1,now,0,t.1,t.2,k.1,k.2,[],[],[],[],[],[]) (0,0,0,[],[],[],[],[],[],[],[],[],[])):=by
 unfold rW LD A1;simp only[aD,GU ht,fC,SP ht,Ob hk.1,Ob hk.2,cG5,aA];cases mO t<;>cases B3 now 0 1000000<;>rfl
def yR(a b:Int)(x:den Cq):Bool:=x.1==a&&x.2.1==b
theorem V9{α:Type}(p:α->Bool):∀(l:List α) (k:Nat),dH (λk x=>if p x then U (k:Int) else W) k l=(l.findIdx? p).map (λi=>((k+i:Nat):Int))
 | [],_=>rfl
 | x::xs,k=>by
  simp only[dH,List.findIdx?_cons];cases h:p x with
  | true=>simp
  | false=>
   simp only[Cg,zU];rw[V9 p xs (k+1)];cases xs.findIdx? p with
   | none=>rfl
   | some i=>simp<;>omega
def oD(l:Dj)(a b:Int):Int:=((l.findIdx? (yR a b)).map (λi=>((0+i:Nat):Int))).getD (-1)
theorem WJ{l:Dj}{a b:Int}(h:l.length<=549755813888):mW l a b=U (oD l a b):=by
 unfold mW oD;rw[aM (l:=l) (λk x=>if yR a b x then U (k:Int) else W) (by omega) (λk x hi hd hw hm hk=>by
  simp only[hd,hi,hw,zZ,aA];unfold yR;cases x.1==a<;>cases x.2.1==b<;>rfl) (by simp),V9 (yR a b)]
 cases l.findIdx? (yR a b)<;>rfl
theorem bVg{l:Dj}{a b:Int}{k:Nat}:oD l a b=(k:Int)↔(∃x,l[k]? =U x/\yR a b x=X)/\ ∀j,j<k-> ∀y,l[j]? =U y->yR a b y=Y:=by
 unfold oD;cases h:l.findIdx? (yR a b) with
 | none=>
  have hn:=List.findIdx?_eq_none_iff.1 h;constructor
  .intro e;exfalso;revert e;simp only[Option.map_none,Option.getD_none];omega
  .rintro⟨⟨x,hx,hp⟩,_⟩
   have :=hn x (Cm hx);rw[hp]at this;cases this
 | some i=>
  obtain⟨hi,hp,hj⟩:=List.findIdx?_eq_some_iff_getElem.1 h;simp only[Option.map_some,CJ,Dc];constructor
  .intro e;have e:i=k:=by omega
   subst e;refine⟨⟨l[i],Cs hi,hp⟩,λj hlt y hy=> ?_⟩;have h2:=hj j hlt;have h3:l[j]? =U l[j]:=Cs (by omega);rw[h3]at hy;injection hy with hy;subst hy
   simpa using h2
  .rintro⟨⟨x,hx,hp2⟩,hl⟩
   have hik:i=k:=by
    rcases Nat.lt_trichotomy i k with c | c | c
    .have :=hl i c l[i] (Cs hi);rw[hp]at this;cases this
    .exact c
    .have h2:=hj k c;obtain⟨hk,e⟩:=Cu.1 hx;rw[e,hp2]at h2;simp at h2
   rw[hik]
def E2(w:den B1)(k:Nat)(f:den B7):Bool:=match w.2.2.2.2.2.2.2.1[k]? with
 | some x=>tZ f&&(cK w.1 f.1&&(cK w.1 f.2.1&&(NC x&&Ll f x)))
 | none=>Y
def M8(f g:den B7):Bool:=g.1==f.1&&g.2.1==f.2.1
def JH(w:den B1)(k:Nat)(f:den B7):Bool:=(w.2.2.2.2.2.2.1.take k).all λg=> !M8 f g
def Lx(w:den B1)(k:Nat)(f:den B7):Bool:=oD w.2.2.2.2.2.2.2.1 f.2.1 f.1==(k:Int)
theorem Wv{w:den B1}{k:Nat}{f:den B7}(h:E2 w k f=X):∃x,w.2.2.2.2.2.2.2.1[k]? =U x/\x.1=f.2.1/\x.2.1=f.1:=by
 unfold E2 at h;cases hx:w.2.2.2.2.2.2.2.1[k]? with
 | none=>rw[hx]at h;cases h
 | some x=>
  rw[hx]at h;unfold Ll at h;simp only[Ck,beq_iff_eq]at h;exact⟨x,rfl,h.2.2.2.2.1,h.2.2.2.2.2.1⟩
theorem aWe{w:den B1}(hA:∀k f,w.2.2.2.2.2.2.1[k]? =U f->E2 w k f=X){k:Nat}{f:den B7}(hf:w.2.2.2.2.2.2.1[k]? =U f):JH w k f=Lx w k f:=by
 have hk:=(Cu.1 hf).1;rw[CG];unfold JH Lx;rw[Dg,beq_iff_eq,bVg];constructor
 .intro h;obtain⟨x,hx,e1,e2⟩:=Wv (hA k f hf);refine⟨⟨x,hx,by unfold yR;rw[e1,e2];simp⟩,λj hj y hy=> ?_⟩;have hg:w.2.2.2.2.2.2.1[j]? =U w.2.2.2.2.2.2.1[j]:=Cs (by omega);obtain⟨x2,hx2,d1,d2⟩:=Wv (hA j _ hg);rw[hx2]at hy;injection hy with hy;subst hy
  have hm:w.2.2.2.2.2.2.1[j]∈w.2.2.2.2.2.2.1.take k:=Cm (i:=j) (by rw[List.getElem?_take_of_lt hj];exact hg);have :=h _ hm;unfold M8 at this;unfold yR;rw[d1,d2]
  revert this
  generalize (w.2.2.2.2.2.2.1[j].1==f.1)=p;generalize (w.2.2.2.2.2.2.1[j].2.1==f.2.1)=q;cases p<;>cases q<;>simp
 .rintro⟨_,h⟩ g hg
  obtain⟨j,hj⟩:=List.mem_iff_getElem?.1 hg;obtain⟨hj1,hj2⟩:=So hj;obtain⟨x2,hx2,d1,d2⟩:=Wv (hA j g hj1);have :=h j hj2 x2 hx2;unfold yR at this;rw[d1,d2]at this;unfold M8
  revert this
  generalize (g.1==f.1)=p;generalize (g.2.1==f.2.1)=q;cases p<;>cases q<;>simp
theorem MI{α:Type}(p:Nat->α->Bool)(l:List α):(l.zipIdx 0).all (λz=>p z.2 z.1)=X↔ ∀k x,l[k]? =U x->p k x=X:=by
 rw[Dg];constructor
 .intro h k x hx;exact h (x,k) (List.mem_zipIdx_iff_getElem?.2 (by simpa using hx))
 .rintro h ⟨x,k⟩ hz
  exact h k x (by simpa using List.mem_zipIdx_iff_getElem?.1 hz)
theorem bQg(w:den B1):(w.2.2.2.2.2.2.1.zipIdx 0).all (λz=>E2 w z.2 z.1&&JH w z.2 z.1)=(w.2.2.2.2.2.2.1.zipIdx 0).all (λz=>E2 w z.2 z.1&&Lx w z.2 z.1):=by
 rw[CG,MI (λk f=>E2 w k f&&JH w k f),MI (λk f=>E2 w k f&&Lx w k f)];simp only[Ck];constructor
 .intro h k f hf;exact⟨(h k f hf).1,by rw[<- aWe (λk f hf=>(h k f hf).1) hf];exact (h k f hf).2⟩
 .intro h k f hf;exact⟨(h k f hf).1,by rw[aWe (λk f hf=>(h k f hf).1) hf];exact (h k f hf).2⟩
def Ek(l:List Int)(m:Nat)(k:Nat)(n:Int):Bool:=B3 n 0 ((m:Int) - 1)&&(D (k=0)|| !D ((l[k - 1]?).getD 0>=n))
def DZ(w:den B1):Bool:=
 mO w.1&&(B3 w.2.2.2.1 0 1000000&&(J7 w.2.2.1 w.2.2.2.1&&((w.2.2.2.2.1.zipIdx 0).all (λz=>Ek w.2.2.2.2.1 w.1.2.length z.2 z.1)&&(D (w.2.2.2.2.2.1.length<=150)&&(D (w.2.2.2.2.2.2.1.length<=4)&&(D (w.2.2.2.2.2.2.2.1.length=w.2.2.2.2.2.2.1.length)&&(!D (w.2.2.2.2.2.2.2.2<0)&&
  (w.2.2.2.2.2.1.all (λx=>cK w.1 x.1)&&(w.2.2.2.2.2.2.1.zipIdx 0).all (λz=>E2 w z.2 z.1&&JH w z.2 z.1)))))))))
theorem Tw(n k:Nat):D ((n:Int)>(k:Int))= !D (n<=k):=by rw[CG];simp
theorem bUo(a b:Nat):((a:Int) != (b:Int))= !D (a=b):=by rw[CG];simp;omega
theorem bEf{l:List Int}{k:Nat}(hk:k<l.length)(h0:0<k)(hl:l.length<=549755813888):idx l (wr ((k:Int) - 1))=U ((l[k - 1]?).getD 0):=by
 have e:wr ((k:Int) - 1)=((k - 1:Nat):Int):=by
  have :wr ((k:Int) - 1)=(k:Int) - 1:=wri (by omega) (by omega);rw[this];omega
 rw[e,aQ,Cs (show k - 1<l.length by omega)];rfl
theorem XE{w:den B1}(h:tot B1 w<=68719476736):gS w=U (DZ w):=by
 have sm:Cc 549755813888 B1 w:=(bH h).mono (by decide);have sms:Cc 68719476736 B1 w:=bH h;have lT:=sm.1.1.1;have lL:=sm.1.2.1;have lD:=sms.2.2.2.2.1.1;have lQ:=sms.2.2.2.2.2.1.1;have lF:=sms.2.2.2.2.2.2.1.1;have lX:=sms.2.2.2.2.2.2.2.1.1;have eT:=MR sm.1;have eS:=bYr (now:=w.2.2.2.1) sms.2.2.1.2.1.1 sms.2.2.1.2.2.1;have q1:D ((w.2.2.2.2.2.1.length:Int)>150)= !D (w.2.2.2.2.2.1.length<=150):=Tw _ 150;have q2:D ((w.2.2.2.2.2.2.1.length:Int)>4)= !D (w.2.2.2.2.2.2.1.length<=4):=Tw _ 4;unfold gS DZ A1 A6 B6 Ct A0 A4 A3 A8 B0;rw[q1,q2,bUo];simp only[aD,eT,gX,eS,aA]
 by_cases hX:w.2.2.2.2.2.2.2.1.length=w.2.2.2.2.2.2.1.length
 .rw[aM (l:=w.2.2.2.2.1) (λk n=>if Ek w.2.2.2.2.1 w.1.2.length k n then W else U Y) (by omega) (λk n hi hd hw hm hk=>by
   simp only[hd,hi,hw,zZ,aA,gX,dO lL];unfold Ek;cases B3 n 0 ((w.1.2.length:Int) - 1)
   .rfl
   .by_cases h0:k=0
    .subst h0;rfl
    .have e1:D ((k:Int)>0)=X:=by simp;omega
     rw[e1,bEf hk (by omega) (by omega),zW h0];simp only[BZ,zY,zZ,aA,Bool.false_or,Cw];cases D ((w.2.2.2.2.1[k - 1]?).getD 0>=n)<;>rfl) (by simp),EI (Ek w.2.2.2.2.1 w.1.2.length)]
  rw[aM (l:=w.2.2.2.2.2.1) (λ_ x=>if cK w.1 x.1 then W else U Y) (by omega) (λk x hi hd hw hm hk=>by
   simp only[hd,hi,hw,zZ,aA,Fa lT];cases cK w.1 x.1<;>rfl) (by simp),iO (λx:den C5=>cK w.1 x.1)]
  rw[aM (l:=w.2.2.2.2.2.2.1) (λk f=>if E2 w k f&&JH w k f then W else U Y) (by omega) (λk f hi hd hw hm hk=>by
   have hx:w.2.2.2.2.2.2.2.1[k]? =U w.2.2.2.2.2.2.2.1[k]:=Cs (by omega);have hix:idx w.2.2.2.2.2.2.2.1 (k:Int)=U w.2.2.2.2.2.2.2.1[k]:=by rw[aQ];exact hx
   have fs:=sm.2.2.2.2.2.2.1.2 f hm;have xs:=(sm.2.2.2.2.2.2.2.1.2 _ (Cm hx)).2.2.2.1;simp only[hd,hi,zZ,aA,Fa lT,Ws fs,hix,cL9 xs,bTo fs.2.2.2.2.1.1 xs,KS hk,fL,hw];rw[aM (l:=w.2.2.2.2.2.2.1.take k) (λ_ g=>if !M8 f g then W else U (A2 (A2 Y))) (by rw[HP hk];omega) (λj g hi hd hw hm hk=>by
    simp only[hd,hi,hw,zZ,aA];unfold M8;cases g.1==f.1<;>cases g.2.1==f.2.1<;>rfl) (by simp),iO (λg:den B7=> !M8 f g)]
   unfold E2 JH;rw[hx];simp only;cases tZ f<;>simp only[BZ,Cn,zZ,zY,aA,CD,Cw,Cg,zU]
   .rfl
   cases cK w.1 f.1<;>simp only[BZ,Cn,zZ,zY,aA,CD,Cw,Cg,zU]
   .rfl
   cases cK w.1 f.2.1<;>simp only[BZ,Cn,zZ,zY,aA,CD,Cw,Cg,zU]
   .rfl
   cases NC w.2.2.2.2.2.2.2.1[k]<;>simp only[BZ,Cn,zZ,zY,aA,CD,Cw,Cg,zU]
   .rfl
   cases Ll f w.2.2.2.2.2.2.2.1[k]<;>cases (w.2.2.2.2.2.2.1.take k).all (λg=> !M8 f g)<;>rfl) (by simp),EI (λk f=>E2 w k f&&JH w k f)]
  cases mO w.1<;>simp only[BZ,Cn,zZ,zY,aA,CD,Cw];cases B3 w.2.2.2.1 0 1000000<;>simp only[BZ,Cn,zZ,zY,aA,CD,Cw];cases J7 w.2.2.1 w.2.2.2.1<;>simp only[BZ,Cn,zZ,zY,aA,CD,Cw];cases (w.2.2.2.2.1.zipIdx 0).all (λz=>Ek w.2.2.2.2.1 w.1.2.length z.2 z.1)<;>cases D (w.2.2.2.2.2.1.length<=150)<;>cases D (w.2.2.2.2.2.2.1.length<=4)<;>cases D (w.2.2.2.2.2.2.2.1.length=w.2.2.2.2.2.2.1.length)<;>cases D (w.2.2.2.2.2.2.2.2<0)<;>cases w.2.2.2.2.2.1.all (λx=>cK w.1 x.1)<;>cases (w.2.2.2.2.2.2.1.zipIdx 0).all (λz=>E2 w z.2 z.1&&JH w z.2 z.1)<;>rfl
 .have e:D (w.2.2.2.2.2.2.2.1.length=w.2.2.2.2.2.2.1.length)=Y:=by simpa using hX
  rw[e];cases mO w.1
  .rfl
  .cases B3 w.2.2.2.1 0 1000000
   .rfl
   .cases J7 w.2.2.1 w.2.2.2.1
    .rfl
    .cases D (w.2.2.2.2.2.1.length<=150)<;>cases D (w.2.2.2.2.2.2.1.length<=4)<;>simp
theorem cF0{w:den B1}(lD:w.2.2.2.2.1.length<=68719476736)(lL:w.1.2.length<=549755813888):KL w=U ((w.2.2.2.2.1.zipIdx 0).all (λz=>Ek w.2.2.2.2.1 w.1.2.length z.2 z.1)):=by
 unfold KL A0;rw[aM (l:=w.2.2.2.2.1) (λk n=>if Ek w.2.2.2.2.1 w.1.2.length k n then W else U Y) (by omega) (λk n hi hd hw hm hk=>by
   simp only[hd,hi,hw,zZ,aA,fC,dO lL];unfold Ek;cases B3 n 0 ((w.1.2.length:Int) - 1)
   .rfl
   .by_cases h0:k=0
    .subst h0;rfl
    .have e1:D ((k:Int)>0)=X:=by simp;omega
     rw[e1,bEf hk (by omega) (by omega),zW h0];simp only[BZ,zY,zZ,aA,Bool.false_or,Cw];cases D ((w.2.2.2.2.1[k - 1]?).getD 0>=n)<;>rfl) (by simp),EI (Ek w.2.2.2.2.1 w.1.2.length)]
 cases (w.2.2.2.2.1.zipIdx 0).all (λz=>Ek w.2.2.2.2.1 w.1.2.length z.2 z.1)<;>rfl
theorem XA{w:den B1}(h:tot B1 w<=68719476736):gT w=U (DZ w):=by
 have sm:Cc 549755813888 B1 w:=(bH h).mono (by decide);have sms:Cc 68719476736 B1 w:=bH h;have lT:=sm.1.1.1;have lL:=sm.1.2.1;have lD:=sms.2.2.2.2.1.1;have lQ:=sms.2.2.2.2.2.1.1;have lF:=sms.2.2.2.2.2.2.1.1;have lX:=sms.2.2.2.2.2.2.2.1.1;have eT:=GU sm.1;have eS:=cAe (now:=w.2.2.2.1) sms.2.2.1.2.1.1 sms.2.2.1.2.2.1;have q1:D ((w.2.2.2.2.2.1.length:Int)>150)= !D (w.2.2.2.2.2.1.length<=150):=Tw _ 150;have q2:D ((w.2.2.2.2.2.2.1.length:Int)>4)= !D (w.2.2.2.2.2.2.1.length<=4):=Tw _ 4;unfold gT DZ A1 A6 B6 Ct aL A4 A3 A8 B0;rw[q1,q2,bUo,bQg];simp only[aD,eT,fC,eS,cF0 lD lL,aA]
 by_cases hX:w.2.2.2.2.2.2.2.1.length=w.2.2.2.2.2.2.1.length
 .rw[aM (l:=w.2.2.2.2.2.1) (λ_ x=>if cK w.1 x.1 then W else U Y) (by omega) (λk x hi hd hw hm hk=>by
   simp only[hd,hi,hw,zZ,aA,F7 lT];cases cK w.1 x.1<;>rfl) (by simp),iO (λx:den C5=>cK w.1 x.1)]
  rw[aM (l:=w.2.2.2.2.2.2.1) (λk f=>if E2 w k f&&Lx w k f then W else U Y) (by omega) (λk f hi hd hw hm hk=>by
   have hx:w.2.2.2.2.2.2.2.1[k]? =U w.2.2.2.2.2.2.2.1[k]:=Cs (by omega);have hix:idx w.2.2.2.2.2.2.2.1 (k:Int)=U w.2.2.2.2.2.2.2.1[k]:=by rw[aQ];exact hx
   have fs:=sm.2.2.2.2.2.2.1.2 f hm;have xs:=(sm.2.2.2.2.2.2.2.1.2 _ (Cm hx)).2.2.2.1;simp only[hd,hi,zZ,aA,F7 lT,W1 fs,hix,cL5 xs,bTd fs.2.2.2.2.1.1 xs,WJ (l:=w.2.2.2.2.2.2.2.1) (by omega),bne,hw];unfold E2 Lx;rw[hx];simp only;cases tZ f<;>simp only[BZ,Cn,zZ,zY,aA,CD,Cw,Cg,zU];cases cK w.1 f.1<;>simp only[BZ,Cn,zZ,zY,aA,CD,Cw,Cg,zU];cases cK w.1 f.2.1<;>simp only[BZ,Cn,zZ,zY,aA,CD,Cw,Cg,zU];cases NC w.2.2.2.2.2.2.2.1[k]<;>simp only[BZ,Cn,zZ,zY,aA,CD,Cw,Cg,zU];cases Ll f w.2.2.2.2.2.2.2.1[k]<;>cases (oD w.2.2.2.2.2.2.2.1 f.2.1 f.1==(k:Int))<;>rfl) (by simp),EI (λk f=>E2 w k f&&Lx w k f)]
  cases mO w.1<;>simp only[BZ,Cn,zZ,zY,aA,CD,Cw];cases B3 w.2.2.2.1 0 1000000<;>simp only[BZ,Cn,zZ,zY,aA,CD,Cw];cases J7 w.2.2.1 w.2.2.2.1<;>simp only[BZ,Cn,zZ,zY,aA,CD,Cw];cases (w.2.2.2.2.1.zipIdx 0).all (λz=>Ek w.2.2.2.2.1 w.1.2.length z.2 z.1)<;>cases D (w.2.2.2.2.2.1.length<=150)<;>cases D (w.2.2.2.2.2.2.1.length<=4)<;>cases D (w.2.2.2.2.2.2.2.1.length=w.2.2.2.2.2.2.1.length)<;>cases D (w.2.2.2.2.2.2.2.2<0)<;>cases w.2.2.2.2.2.1.all (λx=>cK w.1 x.1)<;>cases (w.2.2.2.2.2.2.1.zipIdx 0).all (λz=>E2 w z.2 z.1&&Lx w z.2 z.1)<;>rfl
 .have e:D (w.2.2.2.2.2.2.2.1.length=w.2.2.2.2.2.2.1.length)=Y:=by simpa using hX
  rw[e];cases mO w.1
  .rfl
  .cases B3 w.2.2.2.1 0 1000000
   .rfl
   .cases J7 w.2.2.1 w.2.2.2.1
    .rfl
    .cases (w.2.2.2.2.1.zipIdx 0).all (λz=>Ek w.2.2.2.2.1 w.1.2.length z.2 z.1)<;>cases D (w.2.2.2.2.2.1.length<=150)<;>cases D (w.2.2.2.2.2.2.1.length<=4)<;>simp
def Zm(n:Int):Int:=CM (wr ((CM n 2147483647)+2147483647)) 2147483647
theorem cHg(n:Int):L8 n 2147483647=U (Zm n):=by unfold L8;rw[gX];rfl
theorem cJ1(n:Int):LA n 2147483647=U (Zm n):=by unfold LA;rw[fC];rfl
def Z5(a x:Int):Int:=CM (wr ((wr ((wr (a * (1000003:Int)))+Zm x))+(11:Int))) (2147483647:Int)
def EB(l:List Int):Int:=cW (λ_ x a=>Z5 a x) 0 l 7
theorem Sb{l:List Int}(h:l.length<=549755813888):yL l=U (EB l):=by
 unfold yL EB;rw[fV (λk (a:Int)=>(a,(k:Int))) ((7:Int),(0:Int)) 7 l (λ_ x a=>Z5 a x) (λ_=>0) (λ_=>0) 1 id rfl (by omega) (by rw[sum_nil];omega) (λk x a=>by omega) (λk x a hi hx hd hw hk hb=>by
  simp only[hd,hi,hw,zZ,aA,cHg];rfl) (λa=>by simp)]
 rfl
theorem Sf{l:List Int}(h:l.length<=549755813888):yI l=U (EB l):=by
 unfold yI EB;rw[fV (λk (a:Int)=>(a,(k:Int))) ((7:Int),(0:Int)) 7 l (λ_ x a=>Z5 a x) (λ_=>0) (λ_=>0) 1 id rfl (by omega) (by rw[sum_nil];omega) (λk x a=>by omega) (λk x a hi hx hd hw hk hb=>by
  simp only[hd,hi,hw,zZ,aA,cJ1];rfl) (λa=>by simp)]
 rfl
def Nz(h:den cH)(a:List Int):List Int:=a++[h.1,h.2.1,h.2.2.1]
def L7(x:den Cb)(a:List Int):List Int:=cW (λ_ h a=>Nz h a) 0 x.2.2.2 (a++[x.1,x.2.1,x.2.2.1])
def Ip(p:den B4):List Int:=cW (λ_ x a=>L7 x a) 0 p []
theorem Yw{α:Type}(c:Nat)(l:List α):(l.map λ_=>c).sum=c * l.length:=by
 induction l with
 | nil=>rfl
 | cons x l ih=>simp only[CA,D6,ih,C6,Nat.mul_succ];omega
theorem V0(x:den Cb)(a:List Int):(L7 x a).length<=a.length+(3+3 * x.2.2.2.length):=by
 have h:=Ib (f:=λ_ h (a:List Int)=>Nz h a) (m:=Cr) (cost:=λ_=>3) (λk x a=>by simp[Nz]) x.2.2.2 0 (a++[x.1,x.2.1,x.2.2.1]);rw[Yw]at h;unfold L7;simp at h;omega
theorem RY:∀p:den B4,(p.map λx:den Cb=>3+3 * x.2.2.2.length).sum<=3 * tot B4 p
 | []=>by simp
 | x::p=>by
  have h1:=kD (t:=Cb) x p;have h2:x.2.2.2.length<=tot Cb x:=B5 (cO (t:=cH) x.2.2.2) (by simp only[sI,vZ];omega);have h3:=RY p;simp only[CA,D6];show _<=3 * tot (.sl Cb) (x::p);rw[h1];have h3:(p.map λx:den Cb=>3+3 * x.2.2.2.length).sum<=3 * tot (.sl Cb) p:=h3;omega
theorem bEt(p:den B4):(Ip p).length<=3 * tot B4 p:=by
 have h:=Ib (f:=λ_ x (a:List Int)=>L7 x a) (m:=Cr) (cost:=λx:den Cb=>3+3 * x.2.2.2.length) (λk x a=>V0 x a) p 0 [];have h2:=RY p;unfold Ip;simp only[CE,Dc]at h;omega
theorem bFh{p:den B4}(h:tot B4 p<=68719476736):vC p=U (EB (Ip p)):=by
 have hl:=cO (t:=Cb) p;have hl:p.length<=68719476736:=B5 hl h;have hs:=RY p;have hd':=bEt p;unfold vC;rw[fV (λk (a:List Int)=>((k:Int),a)) ((0:Int),[]) [] p (λ_ x a=>L7 x a) Cr (λx:den Cb=>3+3 * x.2.2.2.length) 549755813888 id rfl (by omega) (by simp only[CE];omega) (λk x a=>V0 x a) (λk x a hi hx hd hw hk hb=>by
  simp only[hd,hi,hw,zZ,aA,aC (b:=8) (n:=a.length) (m:=3) (by decide) (by omega)];rw[fV (λk (a:List Int)=>((k:Int),a)) ((0:Int),a++[x.1,x.2.1,x.2.2.1]) (a++[x.1,x.2.1,x.2.2.1]) x.2.2.2 (λ_ h a=>Nz h a) Cr (λ_=>3) 549755813888 id rfl (by omega) (by rw[Yw];simp;omega) (λk h a=>by simp[Nz]) (λk h a hi hx hd hw hk hb=>by
   simp only[hd,hi,hw,zZ,aA,aC (b:=8) (n:=a.length) (m:=3) (by decide) (by omega)];rfl) (λa=>by simp)]
  rfl) (λa=>by simp)]
 simp only[aA];rw[show cW (λ_ x a=>L7 x a) 0 p []=Ip p from rfl];simp only[id,Sb (l:=Ip p) (by omega),aA]
theorem bE0{p:den B4}(h:tot B4 p<=68719476736):tV p=U (EB (Ip p)):=by
 have hl:=cO (t:=Cb) p;have hl:p.length<=68719476736:=B5 hl h;have hs:=RY p;have hd':=bEt p;unfold tV;rw[fV (λk (a:List Int)=>((k:Int),a)) ((0:Int),[]) [] p (λ_ x a=>L7 x a) Cr (λx:den Cb=>3+3 * x.2.2.2.length) 549755813888 id rfl (by omega) (by simp only[CE];omega) (λk x a=>V0 x a) (λk x a hi hx hd hw hk hb=>by
  simp only[hd,hi,hw,zZ,aA,aC (b:=8) (n:=a.length) (m:=3) (by decide) (by omega)];rw[fV (λk (a:List Int)=>((k:Int),a)) ((0:Int),a++[x.1,x.2.1,x.2.2.1]) (a++[x.1,x.2.1,x.2.2.1]) x.2.2.2 (λ_ h a=>Nz h a) Cr (λ_=>3) 549755813888 id rfl (by omega) (by rw[Yw];simp;omega) (λk h a=>by simp[Nz]) (λk h a hi hx hd hw hk hb=>by
   simp only[hd,hi,hw,zZ,aA,aC (b:=8) (n:=a.length) (m:=3) (by decide) (by omega)];rfl) (λa=>by simp)]
  rfl) (λa=>by simp)]
 simp only[aA];rw[show cW (λ_ x a=>L7 x a) 0 p []=Ip p from rfl];simp only[id,Sf (l:=Ip p) (by omega),aA]
def tA(a:Int×Bool)(h:den cH):q23:=cond (!a.2||D (h.2.2.2.1<a.1)) (h.2.2.2.1,X) a
def Ee(l:eV):Int:=(l.foldl tA (0,Y)).1
def hops(p:den B4):eV:=cW (λ_ x a=>a++x.2.2.2) 0 p []
theorem bJc:∀(p:den B4) (k:Nat) (a:eV),cW (λ_ (x:den Cb) a=>a++x.2.2.2) k p a=a++p.flatMap (λx:den Cb=>x.2.2.2)
 | [],_,a=>by simp[cW]
 | x::p,k,a=>by
  simp only[cW];rw[bJc p (k+1)];simp
theorem bZf(p:den B4):(hops p).length<=tot B4 p:=by
 have h:=Ib (f:=λ_ (x:den Cb) (a:eV)=>a++x.2.2.2) (m:=Cr) (cost:=λx:den Cb=>x.2.2.2.length) (λk x a=>by simp) p 0 [];have h2:=Oh p;unfold hops;simp only[CE,Dc]at h;omega
def Gf(k:Nat)(h:den cH)(a:Int):Int:=if k=0\/h.2.2.2.1<a then h.2.2.2.1 else a
theorem VP:∀(l:eV) (k:Nat) (a:Int),0<k->cW Gf k l a=(l.foldl tA (a,X)).1
 | [],_,_,_=>rfl
 | h::l,k,a,hk=>by
  simp only[cW,EX]
  by_cases c:h.2.2.2.1<a
  .have e1:Gf k h a=h.2.2.2.1:=by unfold Gf;rw[zT (.inr c)]
   have e2:tA (a,X) h=(h.2.2.2.1,X):=by unfold tA;simp[c]
   rw[e1,e2];exact VP l (k+1) _ (by omega)
  .have e1:Gf k h a=a:=by unfold Gf;rw[zS (λhc=>hc.elim (λe=>by omega) c)]
   have e2:tA (a,X) h=(a,X):=by unfold tA;simp[c]
   rw[e1,e2];exact VP l (k+1) _ (by omega)
theorem bGr(l:eV):cW Gf 0 l 0=Ee l:=by
 cases l with
 | nil=>rfl
 | cons h l=>
  unfold Ee;simp only[cW,EX];have e1:Gf 0 h 0=h.2.2.2.1:=by unfold Gf;rw[zT (.inl rfl)]
  have e2:tA (0,Y) h=(h.2.2.2.1,X):=by unfold tA;simp
  rw[e1,e2];exact VP l 1 _ (by omega)
theorem bI2{p:den B4}(h:tot B4 p<=68719476736):uW p=U (Ee (hops p)):=by
 have hl:p.length<=68719476736:=B5 (cO (t:=Cb) p) h;have hs:=Oh p;have hh:=bZf p;unfold uW M2 jY;rw[fV (λk (a:eV)=>((k:Int),a)) ((0:Int),[]) [] p (λ_ x a=>a++x.2.2.2) Cr (λx:den Cb=>x.2.2.2.length) 549755813888 id rfl (by omega) (by simp only[CE];omega) (λk x a=>by simp) (λk x a hi hx hd hw hk hb=>by
  simp only[hd,hi,hw,zZ,aA,aC (b:=40) (n:=a.length) (m:=x.2.2.2.length) (by decide) (by omega)]) (λa=>by simp)]
 simp only[aA];rw[show cW (λ_ (x:den Cb) a=>a++x.2.2.2) 0 p []=hops p from rfl];simp only[id];rw[fV (λk (a:Int)=>(a,(k:Int))) ((0:Int),(0:Int)) 0 (hops p) Gf (λ_=>0) (λ_=>0) 1 id rfl (by omega) (by rw[sum_nil];omega) (λk x a=>by omega) (λk x a hi hx hd hw hk hb=>by
  simp only[hd,hi,hw,zZ,aA];unfold Gf;have e1:((k:Int)==0)=D (k=0):=by rw[CG];simp
  rw[e1]
  by_cases c:k=0
  .simp[c]
  .by_cases c2:x.2.2.2.1<a
   .simp[c,c2]
   .simp[c,c2]) (λa=>by simp)]
 rw[bGr];rfl
theorem aY9:∀(p:den B4) (k:Nat) (a:Int×Bool),cW (λ_ (x:den Cb) a=>cW (λ_ h a=>tA a h) 0 x.2.2.2 a) k p a=(p.flatMap λx:den Cb=>x.2.2.2).foldl tA a
 | [],_,_=>rfl
 | x::p,k,a=>by
  simp only[cW,List.flatMap_cons,List.foldl_append];rw[aY9 p (k+1),rS]
theorem bH6{p:den B4}(h:tot B4 p<=68719476736):pD p=U (Ee (hops p)):=by
 have hl:p.length<=68719476736:=B5 (cO (t:=Cb) p) h;have hs:=Oh p;unfold pD;rw[fV (λk (a:Int×Bool)=>(a.1,a.2,(k:Int))) ((0:Int),Y,(0:Int)) ((0:Int),Y) p (λ_ (x:den Cb) a=>cW (λ_ h a=>tA a h) 0 x.2.2.2 a) (λ_=>0) (λ_=>0) 1 (λa=>a.1) rfl (by omega) (by rw[sum_nil];omega) (λk x a=>by omega) (λk x a hi hx hd hw hk hb=>by
  have hxl:x.2.2.2.length<=68719476736:=by
   have h1:=FY (t:=Cb) hx;have h2:x.2.2.2.length<=tot Cb x:=B5 (cO (t:=cH) x.2.2.2) (by simp only[sI,vZ];omega);have h3:tot (.sl Cb) p<=68719476736:=h;omega
  simp only[hd,hi,hw,zZ,aA];rw[fV (λk (a:Int×Bool)=>(a.1,a.2,(k:Int))) (a.1,a.2,(0:Int)) a x.2.2.2 (λ_ h a=>tA a h) (λ_=>0) (λ_=>0) 1 id rfl (by omega) (by rw[sum_nil];omega) (λk x a=>by omega) (λk h a hi hx hd hw hk hb=>by
   simp only[hd,hi,hw,zZ,aA];unfold tA;cases ca:a.2
   .rfl
   .cases c:D (h.2.2.2.1<a.1)<;>simp[c,ca]) (λa=>by simp)]
  rfl) (λa=>by simp)]
 rw[aY9];unfold Ee hops;rw[bJc];rfl
def Ii(a b:den B4):Bool:=
 cond (((iD a).length:Int) != ((iD b).length:Int)) (D (((iD a).length:Int)<((iD b).length:Int)))
  (cond (Ee (hops a) != Ee (hops b)) (D (Ee (hops a)>Ee (hops b))) (D (EB (Ip a)<EB (Ip b))))
theorem bXu{a b:den B4}(ha:tot B4 a<=68719476736)(hb:tot B4 b<=68719476736):xL a b=U (Ii a b):=by
 unfold xL mP Ii;simp only[Oy (p:=a) (B5 ha (by decide)),Oy (p:=b) (B5 hb (by decide)),bI2 ha,bI2 hb,bFh ha,bFh hb,aA];cases ((iD a).length:Int) != ((iD b).length:Int)
 .cases Ee (hops a) != Ee (hops b)<;>rfl
 .rfl
theorem bZj{a b:den B4}(ha:tot B4 a<=68719476736)(hb:tot B4 b<=68719476736):xN a b=U (Ii a b):=by
 unfold xN rH Ii;simp only[O6 (p:=a) (B5 ha (by decide)),O6 (p:=b) (B5 hb (by decide)),bH6 ha,bH6 hb,bE0 ha,bE0 hb,aA];cases ((iD a).length:Int) != ((iD b).length:Int)
 .cases Ee (hops a) != Ee (hops b)<;>rfl
 .rfl
def EO(x:den B4)(out:Cf):Nat->Nat
 | 0=>0
 | k+1=>cond (Ii x ((out[k]?).getD [])) (EO x out k) (k+1)
theorem Xv(x:den B4)(out:Cf):∀k,EO x out k<=k
 | 0=>Cz _
 | k+1=>by
  unfold EO;cases Ii x ((out[k]?).getD [])
  .exact Cz _
  .exact Nat.le_succ_of_le (Xv x out k)
theorem VB{x:den B4}{out:Cf}{step:Int->Option (Int⊕Int)}(hl:out.length<=549755813888)
  (h0:step 0=U (.inr 0)) (h1:∀k (y:den B4),out[k]? =U y->step ((k+1:Nat):Int)=U (cond (Ii x y) (.inl (k:Int)) (.inr ((k+1:Nat):Int)))):
  ∀k,k<=out.length->aB step (k:Int)=U ((EO x out k:Nat):Int)
 | 0,_=>aH h0
 | k+1,hk=>by
  have hy:out[k]? =U out[k]:=Cs (by omega);have hs:=h1 k _ hy;unfold EO;rw[hy,CJ];cases hb:Ii x out[k] with
  | true=>rw[hb]at hs;rw[aO hs];exact VB hl h0 h1 k (by omega)
  | false=>rw[hb]at hs;exact aH hs
def Pm(x:den B4)(out:Cf):Cf:=out.take (EO x out out.length)++[x]++out.drop (EO x out out.length)
theorem VR(x:den B4)(out:Cf):tot (.sl B4) (Pm x out)=tot (.sl B4) out+(1+tot B4 x):=by
 have h:=wA (t:=B4) (out.take (EO x out out.length)) (out.drop (EO x out out.length));rw[List.take_append_drop]at h;unfold Pm;rw[wA,wA,Lk];omega
def uL(l:Cf):Cf:=cW (λ_ x a=>Pm x a) 0 l []
theorem RT(l:Cf):tot (.sl B4) (uL l)<=tot (.sl B4) l:=by
 have h:=Ib (f:=λ_ x (a:Cf)=>Pm x a) (m:=tot (.sl B4)) (cost:=λx=>1+tot B4 x) (λk x a=>ID (VR x a)) l 0 [];rw[Ql,OD]at h;unfold uL;omega
theorem bMk{l:Cf}(h:tot (.sl B4) l<=68719476736):tI l=U (uL l):=by
 have hl:=cO (t:=B4) l;unfold tI uL BX;rw[fV (λk (a:Cf)=>((k:Int),a)) ((0:Int),[]) [] l (λ_ x a=>Pm x a) (tot (.sl B4)) (λx=>1+tot B4 x) 68719476736 id rfl (by omega) (by rw[Ql,OD];omega) (λk x a=>ID (VR x a)) (λk x a hi hx hd hw hk hb=>by
  have ha:=cO (t:=B4) a;have hsm:Cc 549755813888 B4 x:=(bH (B:=68719476736) (t:=B4) (by omega)).mono (by decide);simp only[hd,hi,hw,zZ,aA];rw[VB (x:=x) (out:=a) (by omega) (by rfl) (λj y hy=>by
   have hlt:=(Cu.1 hy).1;have hty:=FY (t:=B4) hy;have e1:D (((j+1:Nat):Int)>0)=X:=by simp<;>omega
   have e2:wr (((j+1:Nat):Int) - 1)=(j:Int):=by
    have :wr (((j+1:Nat):Int) - 1)=((j+1:Nat):Int) - 1:=wri (by omega) (by omega);rw[this];omega
   have e3:D ((j:Int)<(a.length:Int))=X:=by simp;omega
   simp only[e1,e2,e3,bF,zZ,Cj,hy,aA,bXu (a:=x) (b:=y) (by omega) (by omega)];cases Ii x y<;>rfl) a.length (Cz _)]
  have hp:=Xv x a a.length;have s1:bG (0:Int) ((EO x a a.length:Nat):Int) (a.length:Int)=X:=by
   have :=yK (a:=0) (b:=EO x a a.length) (n:=a.length);rw[show ((0:Nat):Int)=0 from rfl]at this;rw[this];simp;omega
  have s2:bG ((EO x a a.length:Nat):Int) (a.length:Int) (a.length:Int)=X:=by rw[yK];simp;omega
  simp only[aA,s1,s2,zZ,fL,S7 hp,O5 hsm];rw[aC (b:=24) (by decide) (by simp<;>omega),aC (b:=24) (by decide) (by simp<;>omega),aC (b:=24) (by decide) (by simp<;>omega)];simp only[zZ,CH];rfl) (λa=>by simp)]
 rfl
theorem bLt{l:Cf}(h:tot (.sl B4) l<=68719476736):tJ l=U (uL l):=by
 have hl:=cO (t:=B4) l;unfold tJ uL BX;rw[fV (λk (a:Cf)=>((k:Int),a)) ((0:Int),[]) [] l (λ_ x a=>Pm x a) (tot (.sl B4)) (λx=>1+tot B4 x) 68719476736 id rfl (by omega) (by rw[Ql,OD];omega) (λk x a=>ID (VR x a)) (λk x a hi hx hd hw hk hb=>by
  have ha:=cO (t:=B4) a;have hsm:Cc 549755813888 B4 x:=(bH (B:=68719476736) (t:=B4) (by omega)).mono (by decide);simp only[hd,hi,hw,zZ,aA,bB,cB,bL,bJ,bO];rw[VB (x:=x) (out:=a) (by omega) (by rfl) (λj y hy=>by
   have hlt:=(Cu.1 hy).1;have hty:=FY (t:=B4) hy;have e1:D (((j+1:Nat):Int)>0)=X:=by simp<;>omega
   have e2:wr (((j+1:Nat):Int) - 1)=(j:Int):=by
    have :wr (((j+1:Nat):Int) - 1)=((j+1:Nat):Int) - 1:=wri (by omega) (by omega);rw[this];omega
   have e3:D ((j:Int)<(a.length:Int))=X:=by simp;omega
   simp only[e1,e2,e3,bF,zZ,Cj,hy,aA,bZj (a:=x) (b:=y) (by omega) (by omega)];cases Ii x y<;>rfl) a.length (Cz _)]
  have hp:=Xv x a a.length;have s1:bG (0:Int) ((EO x a a.length:Nat):Int) (a.length:Int)=X:=by
   have :=yK (a:=0) (b:=EO x a a.length) (n:=a.length);rw[show ((0:Nat):Int)=0 from rfl]at this;rw[this];simp;omega
  have s2:bG ((EO x a a.length:Nat):Int) (a.length:Int) (a.length:Int)=X:=by rw[yK];simp;omega
  simp only[aA,s1,s2,zZ,fL,S7 hp,Oo hsm];rw[aC (b:=24) (by decide) (by simp<;>omega),aC (b:=24) (by decide) (by simp<;>omega),aC (b:=24) (by decide) (by simp<;>omega)];simp only[zZ,CH,aA];rfl) (λa=>by simp)]
 rfl
def FZ(l:CB)(now:Int):CB:=l.filter λx=>D (now<=x.2.2)
theorem bS8{l:CB}{now:Int}(h:l.length<=68719476736):jQ l now=U (FZ l now):=by
 unfold jQ FZ A6;rw[fV (λk (a:CB)=>((k:Int),a)) ((0:Int),[]) [] l (λ_ x a=>if D (now<=x.2.2)=X then a++[x] else a) Cr (λ_=>1) 549755813888 id rfl (by omega) (by rw[cT];simp;omega) (λk x a=>by split<;>simp) (λk x a hi hx hd hw hk hb=>by
  simp only[hd,hi,hw,zZ,aA,aD,aC (b:=24) (n:=a.length) (m:=1) (by decide) (by omega)];cases D (now<=x.2.2)<;>simp) (λa=>by simp),NH (λx:den CI=>D (now<=x.2.2))]
 simp
theorem bU2{l:CB}{now:Int}(h:l.length<=68719476736):jP l now=U (FZ l now):=by
 unfold jP FZ A6;rw[fV (λk (a:CB)=>((k:Int),a)) ((0:Int),[]) [] l (λ_ x a=>if D (now<=x.2.2)=X then a++[x] else a) Cr (λ_=>1) 549755813888 id rfl (by omega) (by rw[cT];simp;omega) (λk x a=>by split<;>simp) (λk x a hi hx hd hw hk hb=>by
  simp only[hd,hi,hw,zZ,aA,aD,aC (b:=24) (n:=a.length) (m:=1) (by decide) (by omega)];cases D (now<=x.2.2)<;>simp) (λa=>by simp),NH (λx:den CI=>D (now<=x.2.2))]
 simp
def D0(l:CB)(p:den B4)(now:Int):Bool:= !((FZ l now).all λx=> !rA p x)
theorem aZ5(l:CB)(now:Int):(FZ l now).length<=l.length:=H5 _ _
theorem cHf{l:CB}{p:den B4}{now:Int}(h:l.length<=68719476736)(hp:tot B4 p<=68719476736):KT l p now=U (D0 l p now):=by
 have ha:=aZ5 l now;unfold KT D0 BX A6;rw[bS8 h,aA];rw[aM (l:=FZ l now) (λ_ x=>if !rA p x then W else U X) (by omega) (λk x hi hd hw hm hk=>by
  have hy:(FZ l now)[k]? =U x:=by rw[<- aQ];exact hi
  simp only[hd,hy,hw,zZ,aA,bF,Cj,aD,bE4 hp];cases rA p x<;>rfl) (by simp),iO (λx:den CI=> !rA p x)]
 cases (FZ l now).all (λx=> !rA p x)<;>rfl
theorem bTz{l:CB}{p:den B4}{now:Int}(h:l.length<=68719476736)(hp:tot B4 p<=68719476736):IX l p now=U (D0 l p now):=by
 have ha:=aZ5 l now;unfold IX D0 BX A6;rw[bU2 h,aA];rw[aM (l:=FZ l now) (λ_ x=>if !rA p x then W else U X) (by omega) (λk x hi hd hw hm hk=>by
  have hy:(FZ l now)[k]? =U x:=by rw[<- aQ];exact hi
  simp only[hd,hy,hw,zZ,aA,bF,Cj,aD,bEa hp];cases rA p x<;>rfl) (by simp),iO (λx:den CI=> !rA p x)]
 cases (FZ l now).all (λx=> !rA p x)<;>rfl
def HZ(l:CB)(p:Cf)(now:Int):Cf:=(p.filter λx=> !D0 l x now)++p.filter λx=>D0 l x now
def two(r:den B4->Bool)(x:den B4)(a:Cf×Cf):Cf×Cf:=cond (r x) (a.1,a.2++[x]) (a.1++[x],a.2)
theorem cGi(r:den B4->Bool)(x:den B4)(a:Cf×Cf):(two r x a).1.length+(two r x a).2.length<=a.1.length+a.2.length+1:=by
 unfold two;cases r x<;>simp<;>omega
theorem bAp(r:den B4->Bool):∀(l:Cf) (k:Nat) (a:Cf×Cf),cW (λ_ x a=>two r x a) k l a=(a.1++l.filter (λx=> !r x),a.2++l.filter r)
 | [],_,a=>by simp[cW]
 | x::l,k,a=>by
  simp only[cW];rw[bAp r l (k+1)];unfold two;cases h:r x<;>simp[h]
theorem bWl{l:CB}{p:Cf}{now:Int}(h:l.length<=68719476736)(hp:tot (.sl B4) p<=68719476736):nP l p now=U (HZ l p now):=by
 have hl:=cO (t:=B4) p;unfold nP HZ A1;rw[fV (λk (a:Cf×Cf)=>((k:Int),a.1,a.2)) ((0:Int),[],[]) ([],[]) p (λ_ x a=>two (λx=>D0 l x now) x a) (λa=>a.1.length+a.2.length) (λ_=>1) 549755813888 (λa=>(a.1,a.2)) rfl (by omega) (by rw[cT];simp;omega) (λk x a=>cGi _ x a) (λk x a hi hx hd hw hk hb=>by
  have ht:=FY (t:=B4) hx;have hsm:Cc 549755813888 B4 x:=(bH (B:=68719476736) (t:=B4) (by omega)).mono (by decide);simp only[hd,hi,hw,zZ,aA,cHf (l:=l) (p:=x) (now:=now) h (by omega),O5 hsm,aC (b:=24) (n:=a.1.length) (m:=1) (by decide) (by omega),aC (b:=24) (n:=a.2.length) (m:=1) (by decide) (by omega)];have e:two (λx=>D0 l x now) x a=cond (D0 l x now) (a.1,a.2++[x]) (a.1++[x],a.2):=rfl;rw[e];cases D0 l x now<;>rfl) (λa=>by simp),bAp]
 have e:(p.filter λx=> !D0 l x now).length<=p.length:=H5 _ _;have e2:(p.filter λx=>D0 l x now).length<=p.length:=H5 _ _;simp only[aA,CH];rw[aC (b:=24) (by decide) (by omega),zZ]
theorem bSs{l:CB}{p:Cf}{now:Int}(h:l.length<=68719476736)(hp:tot (.sl B4) p<=68719476736):nU l p now=U (HZ l p now):=by
 have hl:=cO (t:=B4) p;unfold nU HZ;rw[fV (λk (a:Cf)=>((k:Int),a)) ((0:Int),[]) [] p (λ_ x a=>if (!D0 l x now)=X then a++[x] else a) Cr (λ_=>1) 549755813888 id rfl (by omega) (by rw[cT];simp;omega) (λk x a=>by split<;>simp) (λk x a hi hx hd hw hk hb=>by
  have ht:=FY (t:=B4) hx;have hsm:Cc 549755813888 B4 x:=(bH (B:=68719476736) (t:=B4) (by omega)).mono (by decide);simp only[hd,hi,hw,zZ,aA,bTz (l:=l) (p:=x) (now:=now) h (by omega),Oo hsm,aC (b:=24) (n:=a.length) (m:=1) (by decide) (by omega)];cases D0 l x now<;>simp) (λa=>by simp),NH (λx:den B4=> !D0 l x now)]
 have e:(p.filter λx=> !D0 l x now).length<=p.length:=H5 _ _;simp only[id,aA,CH];rw[fV (λk (a:Cf)=>((k:Int),a)) ((0:Int),p.filter λx=> !D0 l x now) (p.filter λx=> !D0 l x now) p (λ_ x a=>if D0 l x now=X then a++[x] else a) Cr (λ_=>1) 549755813888 id rfl (by omega) (by rw[cT];omega) (λk x a=>by split<;>simp) (λk x a hi hx hd hw hk hb=>by
  have ht:=FY (t:=B4) hx;have hsm:Cc 549755813888 B4 x:=(bH (B:=68719476736) (t:=B4) (by omega)).mono (by decide);simp only[hd,hi,hw,zZ,aA,bTz (l:=l) (p:=x) (now:=now) h (by omega),Oo hsm,aC (b:=24) (n:=a.length) (m:=1) (by decide) (by omega)];cases D0 l x now<;>simp) (λa=>by simp),NH (λx:den B4=>D0 l x now)]
 rfl
theorem aY8(r:den B4->Bool):∀p:Cf,tot (.sl B4) (p.filter (λx=> !r x))+tot (.sl B4) (p.filter r)=tot (.sl B4) p
 | []=>rfl
 | x::p=>by
  have ih:=aY8 r p;rw[kD];cases h:r x
  .have e:=kD (t:=B4) x (p.filter λx=> !r x);simp only[PA,h,Cn,zV,Cg,zU];omega
  .have e:=kD (t:=B4) x (p.filter r);simp only[PA,h,BZ,zV,Cg,zU];omega
theorem bK4(l:CB)(p:Cf)(now:Int):tot (.sl B4) (HZ l p now)=tot (.sl B4) p:=by
 unfold HZ;rw[wA];exact aY8 (λx=>D0 l x now) p
def JE(f:den B7)(p:Cf)(now:Int):Cf:=(HZ f.2.2.2.2.2.2.2.2 (uL p) now).take (min (HZ f.2.2.2.2.2.2.2.2 (uL p) now).length 24)
theorem bNj(n:Nat):(if (24:Int)<(n:Int) then (24:Int) else (n:Int))=((min n 24:Nat):Int):=by
 by_cases c:24<n
 .rw[zT (by omega),Nat.min_eq_right (by omega)];rfl
 .rw[zS (by omega),Nat.min_eq_left (by omega)]
theorem bJ4(n:Nat):bG (0:Int) ((min n 24:Nat):Int) (n:Int)=X:=by
 have :=yK (a:=0) (b:=min n 24) (n:=n);rw[show ((0:Nat):Int)=0 from rfl]at this;rw[this];simp;omega
theorem bTu{f:den B7}{p:Cf}{now:Int}(h:tot B7 f<=68719476736)(hp:tot (.sl B4) p<=68719476736):tU f p now=U (f.1,f.2.1,f.2.2.1,f.2.2.2.1,0,0,f.2.2.2.2.1,JE f p now,f.2.2.2.2.2.2.2.2):=by
 have hf:Cc 549755813888 B7 f:=(bH h).mono (by decide);have hv:f.2.2.2.2.2.2.2.2.length<=68719476736:=B5 (cO (t:=CI) _) (aP (aP (aP (aP (aP (aP (aP (aP h))))))));have hs:=RT p;unfold tU JE Ct A3 B0;simp only[aD,OA hf,bMk hp,bWl (l:=f.2.2.2.2.2.2.2.2) (p:=uL p) (now:=now) hv (by omega),Yv,aA,bNj,bJ4,zZ,Cj];rfl
theorem bSx{f:den B7}{p:Cf}{now:Int}(h:tot B7 f<=68719476736)(hp:tot (.sl B4) p<=68719476736):uE f p now=U (f.1,f.2.1,f.2.2.1,f.2.2.2.1,JE f p now,0,0,f.2.2.2.2.1,f.2.2.2.2.2.2.2.2):=by
 have hf:Cc 549755813888 B7 f:=(bH h).mono (by decide);have hv:f.2.2.2.2.2.2.2.2.length<=68719476736:=B5 (cO (t:=CI) _) (aP (aP (aP (aP (aP (aP (aP (aP h))))))));have hs:=RT p;unfold uE JE Ct A3 B0;simp only[aD,MH hf,bLt hp,bSs (l:=f.2.2.2.2.2.2.2.2) (p:=uL p) (now:=now) hv (by omega),Y8,aA,bNj,bJ4,zZ,fL];rfl
theorem bFu(f:den B7)(p:Cf)(now:Int):tot (.sl B4) (JE f p now)<=tot (.sl B4) p:=by
 have h1:=RT p;have h2:=bK4 f.2.2.2.2.2.2.2.2 (uL p) now;have h3:=VZ (t:=B4) (HZ f.2.2.2.2.2.2.2.2 (uL p) now) (min (HZ f.2.2.2.2.2.2.2.2 (uL p) now).length 24);unfold JE;omega
theorem cGa{l:C4}(h:l.length<=68719476736):gL l=U l:=by
 unfold gL;rw[aC (by decide) (by simp;omega)];simp
theorem cEt{g:den Dh}(h1:g.2.1.length<=68719476736)(h2:g.2.2.length<=68719476736):gW g=U g:=by
 unfold gW;rw[cGa h1,aA,aC (by decide) (by simp;omega)];simp
theorem bM9{g:den Dh}(h1:g.2.1.length<=68719476736)(h2:g.2.2.length<=68719476736):lP g=U g:=by
 unfold lP A6;rw[aC (b:=40) (by decide) (by simp;omega),aC (b:=32) (by decide) (by simp;omega)];simp[bB,cB,bL,bJ,bO]
def FK(l:Dk)(id s d:Int):Int:=if place l id s d<0 then 0 else ((l[(place l id s d).toNat]?).map (·.2.2.2)).getD 0
theorem cJ9{g:den Dh}{id s d:Int}(h:g.2.2.length<=68719476736):Kv g id s d=U (FK g.2.2 id s d):=by
 unfold Kv FK A6;rw[show ((g.1,g.2.1,g.2.2):den Dh)=g from rfl,WU h,aA];rcases Sa g.2.2 id s d with hp | ⟨j,x,hp,hx,hj⟩
 .rw[hp];rfl
 .rw[hp,zX (by omega),zZ,aQ,hx,zS (by omega)];simp[hx]
theorem cJb{g:den Dh}{id s d:Int}(h:g.2.2.length<=68719476736):wG g id s d=U (FK g.2.2 id s d):=by
 unfold wG FK;rw[WZ h,aA];rcases Sa g.2.2 id s d with hp | ⟨j,x,hp,hx,hj⟩
 .rw[hp];rfl
 .rw[hp,zW (by omega),zY,aQ,hx,zS (by omega)];simp[hx]
def LB(l:Dk)(id s d:Int):Dk:=
 if place l id s d<0 then l++[(id,s,d,1)] else match l[(place l id s d).toNat]? with
  | some x=>l.set (place l id s d).toNat (x.1,x.2.1,x.2.2.1,wr (x.2.2.2+1))
  | none=>l
theorem bFl(l:Dk)(id s d:Int):(LB l id s d).length<=l.length+1:=by
 unfold LB;split
 .simp
 .split<;>simp
theorem cJa{g:den Dh}{id s d:Int}(h1:g.2.1.length<=68719476736)(h2:g.2.2.length<=68719476736):IY g id s d=U (g.1,g.2.1,LB g.2.2 id s d):=by
 unfold IY LB BX A6;rw[show ((g.1,g.2.1,g.2.2):den Dh)=g from rfl,bM9 h1 h2,aA,WZ h2,aA];rcases Sa g.2.2 id s d with hp | ⟨j,x,hp,hx,hj⟩
 .rw[hp,aC (b:=32) (by decide) (by omega)];rfl
 .have hd:D ((j:Int)<(g.2.2.length:Int))=X:=by simpa using hj
  have hd2:D (j<g.2.2.length)=X:=by simpa using hj
  have hd0:D ((0:Int)<=(j:Int))=X:=by simp
  rw[hp,zW (show ¬ (j:Int)<0 by omega),zY,zS (by omega)];simp only[hd,hd0,hd2,zZ,Cj,hx,aA]
def EZ(g:den Dh)(id s d now:Int):q37:=
 if FK g.2.2 id s d<Fg g id s d now then (g.1,X,g.2.1,LB g.2.2 id s d)
 else if FK g.2.2 0 s d<Fg g 0 s d now then (g.1,X,g.2.1,LB g.2.2 0 s d)
 else (g.1,Y,g.2.1,g.2.2)
theorem cF6{g:den Dh}{id s d now:Int}(h1:g.2.1.length<=68719476736)(h2:g.2.2.length<=68719476736):KB g id s d now=U (EZ g id s d now):=by
 unfold KB BX A1 A6;rw[show ((g.1,g.2.1,g.2.2):den Dh)=g from rfl,cEt h1 h2,aA];rw[aM (l:=[id,0]) (λ_ n=>if FK g.2.2 n s d<Fg g n s d now then U (g.1,X,g.2.1,LB g.2.2 n s d) else W) (by simp) (λk n hi hd hw hx hk=>by
  rw[aQ]at hi;have hd0:D ((0:Int)<=(k:Int))=X:=by simp
  simp only[hd,hd0,hi,hw,zZ,aA,Cj,cJ9 h2,bMz h1,WU h2]
  by_cases hu:FK g.2.2 n s d<Fg g n s d now
  .rw[zW (by omega),zY,zT hu];unfold LB;rcases Sa g.2.2 n s d with hp | ⟨j,x,hp,hx,hj⟩
   .rw[hp,aC (b:=32) (by decide) (by omega)];rfl
   .have hd1:D ((j:Int)<(g.2.2.length:Int))=X:=by simpa using hj
    have hd2:D ((j:Int)>=0)=X:=by simp
    have hd3:D ((0:Int)<=(j:Int))=X:=by simp
    rw[hp,zS (by omega)];simp only[hd1,hd2,hd3,zZ,Cj,hx,aA]
  .rw[zX (by omega),zZ,zS hu]) (by simp)]
 unfold EZ;simp only[dH]
 by_cases hu:FK g.2.2 id s d<Fg g id s d now
 .simp[hu]
 .by_cases hv:FK g.2.2 0 s d<Fg g 0 s d now<;>simp[hu,hv]
theorem bLo{g:den Dh}{id s d now:Int}(h1:g.2.1.length<=68719476736)(h2:g.2.2.length<=68719476736):zK g id s d now=U (EZ g id s d now):=by
 unfold zK EZ A1 A6;rw[show ((g.1,g.2.1,g.2.2):den Dh)=g from rfl];simp only[cJb h2,bEp h1,bUy h1,cJa h1 h2,bM9 h1 h2,aA];have h0:Fg g 0 s d now=free g.2.1 g.1 s d now:=rfl;rw[h0]
 by_cases hid:id=0
 .subst hid;rw[h0]
  by_cases hv:FK g.2.2 0 s d<free g.2.1 g.1 s d now<;>simp[hv]
 .have hr:Fg g id s d now=MD g.2.1 id s d now:=by unfold Fg;simp[hid]
  have hne:(id != 0)=X:=by simpa using hid
  rw[hr,hne,zZ,aA]
  by_cases hu:FK g.2.2 id s d<MD g.2.1 id s d now
  .simp[hu]
  .by_cases hv:FK g.2.2 0 s d<free g.2.1 g.1 s d now<;>simp[hu,hv]
def yQ(t:den B2)(r d:Int):Int:=
 match dH (λk x=>if mJ x r d then U (k:Int) else W) 0 t.2 with
 | some i=>i
 | none=> -1
theorem RM(t:den B2)(r d:Int):yQ t r d= -1\/ ∃(j:Nat) (x:den C8),yQ t r d=(j:Int)/\t.2[j]? =U x/\mJ x r d=X:=by
 unfold yQ;cases h:dH (λk x=>if mJ x r d then U (k:Int) else W) 0 t.2 with
 | none=>exact .inl rfl
 | some i=>
  obtain⟨j,x,h1,h2,h3⟩:=Wm h;exact .inr ⟨j,x,by simpa using h2,h1,h3⟩
theorem Wd{t:den B2}{r d:Int}(h:t.2.length<=549755813888):pK t r d=U (yQ t r d):=by
 unfold pK Cp;rw[aM (l:=t.2) (λk x=>if mJ x r d then U (k:Int) else W) (by omega) (λk x hi hd hw hx hk=>by
  simp only[hd,hi,hw,zZ,aA,bMj];cases mJ x r d<;>rfl) (by simp)]
 unfold yQ;cases dH (λk x=>if mJ x r d then U (k:Int) else W) 0 t.2<;>rfl
theorem W5{t:den B2}{r d:Int}(h:t.2.length<=549755813888):pH t r d=U (yQ t r d):=by
 unfold pH Cp;rw[aM (l:=t.2) (λk x=>if mJ x r d then U (k:Int) else W) (by omega) (λk x hi hd hw hx hk=>by
  simp only[hd,hi,hw,zZ,aA,bMl];cases mJ x r d<;>rfl) (by simp)]
 unfold yQ;cases dH (λk x=>if mJ x r d then U (k:Int) else W) 0 t.2<;>rfl
def Zf(x:den C8)(r d:Int):q14:=cond (x.1==r&&x.2.1==d) (x.2.2.1,x.2.2.2.1) (x.1,x.2.1)
def remote(t:den B2)(r d:Int):q14:=if yQ t r d<0 then (-1,0) else Zf ((t.2[(yQ t r d).toNat]?).getD (0,0,0,0,0)) r d
theorem KW{t:den B2}{r d:Int}(h:t.2.length<=549755813888):fD t r d=U (remote t r d):=by
 unfold fD remote A1;simp only[aD,Wd h,aA];rcases RM t r d with e | ⟨j,x,e,hx,he⟩
 .rw[e];rfl
 .rw[e,zW (by omega),zY,zS (by omega),aQ,hx,Cj,hx,aA,CJ];unfold Zf;cases x.1==r<;>cases x.2.1==d<;>rfl
theorem Ji{t:den B2}{r d:Int}(h:t.2.length<=549755813888):dN t r d=U (remote t r d):=by
 unfold dN remote A1;simp only[aD,W5 h,aA];rcases RM t r d with e | ⟨j,x,e,hx,he⟩
 .rw[e];rfl
 .rw[e,zW (by omega),zY,zS (by omega),aQ,hx,Cj,hx,aA,CJ];unfold Zf;cases x.1==r<;>cases x.2.1==d<;>rfl
def Yn(x:den C8)(r d:Int):Int:=cond (x.2.2.2.2==1) 1 (cond (x.2.2.2.2==3) 4 (cond (x.2.2.2.2==2) (cond (x.1==r&&x.2.1==d) 2 3) 0))
def tF(t:den B2)(r d:Int):Int:=cond (d==0) 5 (if yQ t r d<0 then 0 else Yn ((t.2[(yQ t r d).toNat]?).getD (0,0,0,0,0)) r d)
theorem SO{t:den B2}{r d:Int}(h:t.2.length<=549755813888):eL t r d=U (tF t r d):=by
 unfold eL tF A1 A0;simp only[aD,Wd h,aA];cases d==0
 .rcases RM t r d with e | ⟨j,x,e,hx,he⟩
  .rw[e];rfl
  .rw[e,zW (by omega),zY,zY,zY,zS (by omega),aQ,hx,Cj,hx,aA,CJ];unfold Yn;rw[show (x.2.2.2.2 != 2)= !(x.2.2.2.2==2) from rfl];cases x.2.2.2.2==1<;>cases x.2.2.2.2==3<;>cases x.2.2.2.2==2<;>cases x.1==r<;>cases x.2.1==d<;>rfl
 .rfl
theorem SC{t:den B2}{r d:Int}(h:t.2.length<=549755813888):eP t r d=U (tF t r d):=by
 unfold eP tF A1 A0;simp only[aD,W5 h,aA];cases d==0
 .rcases RM t r d with e | ⟨j,x,e,hx,he⟩
  .rw[e];rfl
  .rw[e,zW (by omega),zY,zY,zY,zS (by omega),aQ,hx,Cj,hx,aA,CJ];unfold Yn;cases x.2.2.2.2==1<;>cases x.2.2.2.2==3<;>cases x.2.2.2.2==2<;>cases x.1==r<;>cases x.2.1==d<;>rfl
 .rfl
def ME(a b:Int):Bool:=cond (a==5||a==2) (b==2||b==5||(b==1||b==3)) (cond (a==3) (b==2||b==5) (cond (a==1) (b==2||b==5||b==1) Y))
theorem bUs(a b:Int):oZ a b=U (ME a b):=by
 unfold oZ ME;cases c5:a==5<;>cases c2:a==2<;>cases a==3<;>cases a==1<;>cases b==2<;>cases b==5<;>cases b==1<;>cases b==3<;>first | rfl | (simp at c5 c2;omega)
theorem bVp(a b:Int):oR a b=U (ME a b):=by
 unfold oR ME;cases c5:a==5<;>cases c2:a==2<;>cases a==3<;>cases a==1<;>cases b==2<;>cases b==5<;>cases b==1<;>cases b==3<;>first | rfl | (simp at c5 c2;omega)
def Ng(t:den B2)(s:den EE):Bool:=ME (tF t s.1 s.2.1) (tF t s.1 s.2.2)&&(!(s.2.1==s.2.2)||s.2.1==0)
theorem cFo{t:den B2}{s:den EE}(h:t.2.length<=549755813888):vU t s=U (Ng t s):=by
 unfold vU Ng A1;simp only[aD,SO h,bUs,aA];rw[show (s.2.1 != s.2.2)= !(s.2.1==s.2.2) from rfl];cases ME (tF t s.1 s.2.1) (tF t s.1 s.2.2)<;>cases s.2.1==s.2.2<;>cases s.2.1==0<;>rfl
theorem cE8{t:den B2}{s:den EE}(h:t.2.length<=549755813888):vR t s=U (Ng t s):=by
 unfold vR Ng A1;simp only[aD,SC h,bVp,aA];rw[show (s.2.1 != 0)= !(s.2.1==0) from rfl];cases ME (tF t s.1 s.2.1) (tF t s.1 s.2.2)<;>cases s.2.1==s.2.2<;>cases s.2.1==0<;>rfl
def zB(s i:Int):Bool:=B3 s 0 65535&&(B3 i 0 15&&(DK .i64 (shr .i64 s i) 1==1))
theorem bEn{i:Int}(h:B3 i 0 15=X):IntKind.wrap .u64 i=i:=by
 obtain⟨h0,h1⟩:=bQ.1 h;have :=bIb (n:=i.toNat) (by omega)
 rwa [Mo h0]at this
theorem bL7(s i:Int):uU s i=U (zB s i):=by
 unfold uU zB nX;simp only[gX,aA];cases B3 s 0 65535
 .rfl
 .cases c:B3 i 0 15
  .rfl
  .rw[bEn c,zW (by have :=bQ.1 c;omega)];rfl
theorem bLf(s i:Int):tO s i=U (zB s i):=by
 unfold tO zB nZ Ia;simp only[fC,aA];cases B3 s 0 65535
 .rfl
 .cases c:B3 i 0 15
  .rfl
  .simp only[zZ,aA,zW (show ¬ i<0 by have :=bQ.1 c;omega),zY,Cw]
def Nv(s i:Int):Int:=cond (B3 s 0 65535&&B3 i 0 15) (Fr .i64 s (shl .i64 1 i)) s
theorem cIq(s i:Int):xR s i=U (Nv s i):=by
 unfold xR Nv nX;simp only[gX,aA];cases B3 s 0 65535
 .rfl
 .cases c:B3 i 0 15
  .rfl
  .rw[bEn c,zW (by have :=bQ.1 c;omega)];rfl
theorem cKy(s i:Int):wT s i=U (Nv s i):=by
 unfold wT Nv nZ Ia;simp only[fC,aA];cases B3 s 0 65535
 .rfl
 .cases c:B3 i 0 15
  .rfl
  .rw[zW (by have :=bQ.1 c;omega)];rfl
theorem bGz{α:Type}(p:α->Bool)(N:Int):∀(l:List α) (k:Nat),N=((k+l.length:Nat):Int)->DV (λk x (_:Unit)=>if p x then .inl () else .inr (k:Int)) (λ_=>N) k l ()=((k+l.findIdx (λx=> !p x):Nat):Int)
 | [],k,h=>by simpa [DV] using h
 | x::xs,k,h=>by
  simp only[DV,List.findIdx_cons];cases hp:p x with
  | true=>
   have :=bGz p N xs (k+1) (by rw[h];simp;omega);simp only[zV,this,BZ,zY];omega
  | false=>simp
def oP(l:List Int)(n:Int):Nat:=l.findIdx λx=> !D (x<n)
theorem bM5(l:List Int)(n:Int):oP l n<=l.length:=List.findIdx_le_length
theorem bE9{l:List Int}{n:Int}{step:Int->Option (Int⊕Int)}(hl:l.length<=549755813888)
  (h:∀(k:Nat) (x:Int),idx l (k:Int)=U x->l[k]? =U x->D ((k:Int)<(l.length:Int))=X->IntKind.i64.wrap ((k:Int)+1)=((k+1:Nat):Int)->step (k:Int)=U (if D (x<n) then .inl ((k+1:Nat):Int) else .inr (k:Int)))
  (he:step (l.length:Int)=U (.inr (l.length:Int))):aB step (0:Int)=U (oP l n:Int):=by
 rw[Hi (λk (_:Unit)=>(k:Int)) (0:Int) () l (λk x _=>if D (x<n) then .inl () else .inr (k:Int)) (λ_ _=>True) (λ_=>(l.length:Int)) rfl (by omega) trivial (λk x a hi hx hd hw hk _=>by
  refine⟨?_,λ_ _=>trivial⟩;rw[h k x hi hx hd hw];cases D (x<n)<;>rfl) (λ_ _=>he)]
 rw[bGz (λx=>D (x<n)) (l.length:Int) l 0 (by simp)];simp[oP]
def yU(l:List Int)(n:Int):List Int:=if l[oP l n]? =U n then l else l.take (oP l n)++[n]++l.drop (oP l n)
theorem Qe(l:List Int)(n:Int):(yU l n).length<=l.length+1:=by
 unfold yU;split
 .omega
 .simp;omega
theorem GS{k n:Nat}(h:k<=n):bG (0:Int) (k:Int) (n:Int)=X:=by
 simp only[bG,Ck,zR];omega
theorem wS{k n:Nat}(h:k<=n):bG (k:Int) (n:Int) (n:Int)=X:=by
 simp only[bG,Ck,zR];omega
theorem HS{α:Type}{l:List α}{k:Nat}:cut l (k:Int) (l.length:Int)=l.drop k:=by
 unfold cut;rw[Cj];apply List.take_of_length_le;simp
theorem bLj{l:List Int}(h:l.length<=549755813888):wC l=U l:=by
 unfold wC;rw[aC (n:=([]:List Int).length) (by decide) (by simpa using h)];rfl
theorem Tl{l:List Int}{n:Int}{b:Bool}(hb:(l[oP l n]? =U n)=(b=X)):yU l n=cond b l (l.take (oP l n)++[n]++l.drop (oP l n)):=by
 unfold yU;cases b with
 | true=>rw[zT (by rw[hb])];rfl
 | false=>rw[zS (by rw[hb];simp)];rfl
theorem Q2{l:List Int}{n:Int}(h:l.length<=137438953472):rR l n=U (yU l n):=by
 have hp:=bM5 l n;unfold rR;rw[bE9 (l:=l) (n:=n) (by omega) (λk x hi hx hd hw=>by
  simp only[hd,zZ,hi,aA,hw];cases D (x<n)<;>rfl) (by simp)]
 simp only[aA,GS hp,wS hp,fL,HS,zZ,bB,cB,bL,bJ,bO,bLj (l:=l.take (oP l n)) (by simp;omega)];rw[aC (b:=8) (n:=(l.take (oP l n)).length) (m:=1) (by decide) (by simp;omega),aC (b:=8) (m:=(l.drop (oP l n)).length) (by decide) (by simp;omega)]
 by_cases hlt:oP l n<l.length
 .have hx:l[oP l n]? =U l[oP l n]:=Cs hlt;rw[zX (by omega),zZ,aQ,hx,aA,aA];rw[Tl (b:=l[oP l n]==n) (by rw[hx];simp)];cases l[oP l n]==n<;>rfl
 .rw[zW (by omega),zY,aA];rw[Tl (b:=Y) (by rw[List.getElem?_eq_none (by omega)];simp)];rfl
theorem Tf{l:List Int}{n:Int}(h:l.length<=137438953472):Jg l n=U (yU l n):=by
 have hp:=bM5 l n;unfold Jg BX;rw[bE9 (l:=l) (n:=n) (by omega) (λk x hi hx hd hw=>by
  simp only[hd,zZ,bF,Cj,hx,aA,hw];cases D (x<n)<;>rfl) (by simp)]
 simp only[aA,GS hp,wS hp,fL,HS,zZ,bB,cB,bL,bJ,bO,CH,CE];rw[aC (b:=8) (n:=0) (m:=(l.take (oP l n)).length) (by decide) (by simp;omega),aC (b:=8) (n:=(l.take (oP l n)).length) (m:=1) (by decide) (by simp;omega),aC (b:=8) (m:=(l.drop (oP l n)).length) (by decide) (by simp;omega)]
 by_cases hlt:oP l n<l.length
 .have hx:l[oP l n]? =U l[oP l n]:=Cs hlt;rw[zX (by omega),zZ,bF,zZ,zZ,Cj,hx,aA,aA];rw[Tl (b:=l[oP l n]==n) (by rw[hx];simp)];cases l[oP l n]==n<;>rfl
 .rw[zW (by omega),zY,aA];rw[Tl (b:=Y) (by rw[List.getElem?_eq_none (by omega)];simp)];rfl
def LI(r:Int)(x:den C8)(a:List Int):List Int:=cond (x.2.2.1==r) (yU (cond (x.1==r) (yU a x.2.1) a) x.2.2.2.1) (cond (x.1==r) (yU a x.2.1) a)
theorem Vx(r:Int)(x:den C8)(a:List Int):(LI r x a).length<=a.length+2:=by
 unfold LI;have h1:=Qe a x.2.1;have h2:=Qe (yU a x.2.1) x.2.2.2.1;have h3:=Qe a x.2.2.2.1;cases x.1==r<;>cases x.2.2.1==r<;>simp only[zZ,zY]<;>omega
def MW(t:den B2)(r:Int):List Int:=cW (λ_ x a=>LI r x a) 0 t.2 []
theorem bE8(t:den B2)(r:Int):(MW t r).length<=2 * t.2.length:=by
 have h:=Ib (f:=λ_ x (a:List Int)=>LI r x a) (m:=Cr) (cost:=λ_=>2) (λk x a=>Vx r x a) t.2 0 [];rw[OE]at h;simpa [MW] using h
theorem cF5{t:den B2}{r:Int}(h:t.2.length<=68719476736):xK t r=U (MW t r):=by
 unfold xK;rw[(jJ (λk (a:List Int)=>(a,(k:Int))) ([],(0:Int)) [] t.2 (λ_ x a=>LI r x a) Cr (λ_=>2) 137438953472 id rfl (by omega) (by rw[OE];simp;omega) (λk x a hi hx hd hw hk hb=>by
  refine⟨?_,Vx r x a⟩;have h1:=Qe a x.2.1;simp only[hd,hi,hw,zZ,aA,Q2 (l:=a) (by omega),Q2 (l:=yU a x.2.1) (by omega)];unfold LI;cases x.1==r<;>cases x.2.2.1==r<;>simp only[zZ,zY,aA,Q2 (l:=a) (by omega),Q2 (l:=yU a x.2.1) (by omega)]) (λa=>by simp)).1]
 rfl
theorem cGf{t:den B2}{r:Int}(h:t.2.length<=68719476736):wW t r=U (MW t r):=by
 unfold wW;rw[(jJ (λk (a:List Int)=>((k:Int),a)) ((0:Int),[]) [] t.2 (λ_ x a=>LI r x a) Cr (λ_=>2) 137438953472 id rfl (by omega) (by rw[OE];simp;omega) (λk x a hi hx hd hw hk hb=>by
  refine⟨?_,Vx r x a⟩;have h1:=Qe a x.2.1;simp only[hd,hi,hw,zZ,aA,Tf (l:=a) (by omega),Tf (l:=yU a x.2.1) (by omega)];unfold LI;cases x.1==r<;>cases x.2.2.1==r<;>simp only[zZ,zY,aA,Tf (l:=a) (by omega),Tf (l:=yU a x.2.1) (by omega)]) (λa=>by simp)).1]
 rfl
theorem S3{α:Type}(l:List α):(l.map λ_=>0).sum=0:=by
 induction l with
 | nil=>rfl
 | cons x l ih=>rw[CA,D6,ih]
def yZ(t:den B2)(dead:List Int)(r:Int):Int:=cW (λ_ x a=>cond (oG dead (yQ t r x)) (Nv a x) a) 0 (MW t r) 0
theorem Xp{t:den B2}{dead:List Int}{r:Int}(h:t.2.length<=68719476736)(hd:dead.length<=549755813888):dZ t dead r=U (yZ t dead r):=by
 have hl:=bE8 t r;unfold dZ A1;simp only[aD,cF5 h,aA];rw[fV (λk (a:Int)=>(a,(k:Int))) ((0:Int),(0:Int)) 0 (MW t r) (λ_ x a=>cond (oG dead (yQ t r x)) (Nv a x) a) (λ_=>0) (λ_=>0) 0 id rfl (by omega) (by rw[S3];exact Cz _) (λ_ _ _=>Cz _) (λk x a hi hx hd' hw hk hb=>by
  simp only[hd',hi,hw,zZ,aA,Wd (t:=t) (r:=r) (d:=x) (by omega),MN hd,cIq];cases oG dead (yQ t r x)<;>rfl) (λa=>by simp)]
 rfl
theorem Xl{t:den B2}{dead:List Int}{r:Int}(h:t.2.length<=68719476736)(hd:dead.length<=549755813888):dJ t dead r=U (yZ t dead r):=by
 have hl:=bE8 t r;unfold dJ BX A1;simp only[aD,cGf h,aA];rw[fV (λk (a:Int)=>(a,(k:Int))) ((0:Int),(0:Int)) 0 (MW t r) (λ_ x a=>cond (oG dead (yQ t r x)) (Nv a x) a) (λ_=>0) (λ_=>0) 0 id rfl (by omega) (by rw[S3];exact Cz _) (λ_ _ _=>Cz _) (λk x a hi hx hd' hw hk hb=>by
  simp only[hd',bF,Cj,hx,hw,zZ,aA,W5 (t:=t) (r:=r) (d:=x) (by omega),Lq hd,cKy];cases oG dead (yQ t r x)<;>rfl) (λa=>by simp)]
 rfl
def LZ(key ts beta:Int)(h:den cH):Int:=EB (([key]++[ts,beta,h.1,h.2.1,h.2.2.1,h.2.2.2.1])++[key])
theorem bU3(key ts beta:Int)(h:den cH):HR key ts beta h=U (LZ key ts beta h):=by
 unfold HR kK LZ;rw[aC (b:=8) (n:=[key].length) (by decide) (by simp),aC (b:=8) (by decide) (by simp),Sb (by simp)];rfl
theorem bSy(key ts beta:Int)(h:den cH):HQ key ts beta h=U (LZ key ts beta h):=by
 unfold HQ kG LZ;rw[aC (b:=8) (n:=[key].length) (by decide) (by simp),aC (b:=8) (by decide) (by simp),Sf (by simp)];rfl
def h0:den cH:=(0,0,0,0,0)
def Gh(t:den B2)(r:Int):Int:=((t.1[r.toNat]?).getD (0,Y,0)).2.2
def vW(t:den B2)(ts beta:Int)(h:den cH):Bool:=oA h&&(cK t h.1&&(h.2.2.2.2==LZ (Gh t h.1) ts beta h))
theorem Tt{t:den B2}{ts beta:Int}{h:den cH}(ht:t.1.length<=549755813888):nD t ts beta h=U (vW t ts beta h):=by
 unfold nD vW A1 Cp A0;simp only[aD,W6,Fa ht,aA,bU3];cases oA h
 .rfl
 .cases c:cK t h.1
  .rfl
  .obtain⟨x,hx,ix⟩:=Gq c;rw[ix,Gh,hx];rfl
theorem XW{t:den B2}{ts beta:Int}{h:den cH}(ht:t.1.length<=549755813888):kY t ts beta h=U (vW t ts beta h):=by
 unfold kY vW A1 Cp A0;simp only[aD,Sl,F7 ht,aA,bSy];cases oA h
 .rfl
 .cases c:cK t h.1
  .rfl
  .obtain⟨x,hx,ix⟩:=Gq c;rw[ix,Gh,hx];rfl
def Em(t:den B2)(l:eV)(k:Nat)(x:den cH):Bool:=oA x&&(cK t x.1&&(l.take k).all λy=> !(y.1==x.1))
def FH(t:den B2)(l:eV):Bool:=(l.zipIdx 0).all λz=>Em t l z.2 z.1
theorem bLm{t:den B2}{l:eV}(ht:t.1.length<=549755813888)(hl:l.length<=549755813888):HT t l=U (B3 (l.length:Int) 1 8&&FH t l):=by
 unfold HT FH A1 Cp;rw[aM (l:=l) (λk x=>if Em t l k x then W else U Y) (by omega) (λk x hi hd hw hm hk=>by
  simp only[hd,hi,zZ,aA,aD,W6,Fa ht,KS hk,fL,hw];rw[aM (l:=l.take k) (λ_ y=>if !(y.1==x.1) then W else U (A2 (A2 Y))) (by rw[HP hk];omega) (λj y hi hd hw hm hk=>by
   simp only[hd,hi,hw,zZ,aA];cases y.1==x.1<;>rfl) (by simp),iO (λy:den cH=> !(y.1==x.1))]
  unfold Em;cases oA x<;>cases cK t x.1<;>cases (l.take k).all (λy=> !(y.1==x.1))<;>rfl) (by simp),EI (Em t l)]
 rw[gX,aA];cases B3 (l.length:Int) 1 8<;>cases (l.zipIdx 0).all (λz=>Em t l z.2 z.1)<;>rfl
def No(t:den B2)(p:den Cb)(x y:den cH):Bool:= !(CV p x==0)&&((remote t x.1 (CV p x)).1==y.1&&(remote t x.1 (CV p x)).2==E9 p y)
def FB(t:den B2)(p:den Cb)(k:Nat)(y:den cH):Bool:=D (k=0)||No t p ((p.2.2.2[k - 1]?).getD h0) y
def FX(t:den B2)(p:den Cb):Bool:=
 B3 (p.2.2.2.length:Int) 1 8&&(B3 p.1 1 4&&(B3 p.2.1 0 1000000&&(kR p.2.2.1&&(FH t p.2.2.2&&(p.2.2.2.zipIdx 0).all λz=>FB t p z.2 z.1))))
theorem bW6(t:den B2)(p:den Cb):((p.2.2.2.drop 1).zipIdx 0).all (λz=>No t p ((p.2.2.2[z.2]?).getD h0) z.1)=(p.2.2.2.zipIdx 0).all (λz=>FB t p z.2 z.1):=by
 rw[CG,MI (λk x=>No t p ((p.2.2.2[k]?).getD h0) x),MI (FB t p)];constructor
 .intro h k x hx;cases k with
  | zero=>rfl
  | succ k=>
   have :=h k x (by rw[Ex,Nat.add_comm];exact hx);simpa [FB] using this
 .intro h k x hx;rw[Ex,Nat.add_comm]at hx;have :=h (k+1) x hx;simpa [FB] using this
theorem kM(a b:Int):(a != b)= !(a==b):=rfl
theorem bV8{t:den B2}{p:den Cb}(ht:t.1.length<=549755813888)(ht2:t.2.length<=549755813888)(hl:p.2.2.2.length<=549755813888):zN t p=U (FX t p):=by
 unfold zN FX A1 B6;rw[aM (l:=p.2.2.2.drop 1) (λk y=>if No t p ((p.2.2.2[k]?).getD h0) y then W else U Y) (by rw[IJ];omega) (λk y hi hd hw hm hk=>by
  have hy:p.2.2.2[k+1]? =U y:=by rw[aQ,Ex,Nat.add_comm]at hi;exact hi
  have hlt:k+1<p.2.2.2.length:=(Cu.1 hy).1;obtain⟨x,hx⟩:∃x,p.2.2.2[k]? =U x:=⟨_,Cs (by omega)⟩
  have hd':D ((k:Int)<wr ((p.2.2.2.length:Int) - 1))=X:=by rw[dO hl];simp;omega
  have hy':idx p.2.2.2 ((k+1:Nat):Int)=U y:=by rw[aQ];exact hy
  simp only[hd',zZ,aD,Y3 hx hl,aA,aQ,hx,hw,hy,Y0 hy hl,KW ht2,CJ,kM];unfold No;cases CV p x==0<;>cases (remote t x.1 (CV p x)).1==y.1<;>cases (remote t x.1 (CV p x)).2==E9 p y<;>rfl) (by
   rw[IJ,dO hl,zW (by omega)];rfl),EI (λk y=>No t p ((p.2.2.2[k]?).getD h0) y),bW6]
 simp only[aD,gX,bLm ht hl,Lh,aA];cases B3 (p.2.2.2.length:Int) 1 8<;>cases B3 p.1 1 4<;>cases B3 p.2.1 0 1000000<;>cases kR p.2.2.1<;>cases FH t p.2.2.2<;>cases (p.2.2.2.zipIdx 0).all (λz=>FB t p z.2 z.1)<;>rfl
theorem MC{α S:Type}(p:Nat->α->Bool)(o r:S):∀(l:List α) (k:Nat),DV (λk x (_:Unit)=>if p k x then .inl () else .inr r) (λ_=>o) k l ()=if (l.zipIdx k).all (λz=>p z.2 z.1) then o else r
 | [],_=>rfl
 | x::xs,k=>by
  simp only[DV,List.zipIdx_cons,List.all_cons];rcases PE (p k x) with h | h
  .simp only[h,zV,Cw];exact MC p o r xs (k+1)
  .simp[h]
theorem cAc{p:den Cb}(hl:p.2.2.2.length<=549755813888):Kx p=U (p.2.2.2.map (·.1)):=by
 unfold Kx;rw[(jJ (λk (a:List Int)=>((k:Int),a)) ((0:Int),[]) [] p.2.2.2 (λ_ x a=>a++[x.1]) Cr (λ_=>1) 549755813888 id rfl (by omega) (by rw[cT];simpa using hl) (λk x a hi hx hd hw hk hb=>by
  simp only[hd,hi,hw,zZ,aA,aC (b:=8) (by decide) hb];simp) (λa=>by simp)).1,dR (λx:den cH=>x.1)]
 simp
theorem bIq(l:eV)(k:Nat)(n:Int):oG ((l.map (·.1)).take k) n= !((l.take k).all λy=> !(y.1==n)):=by
 unfold oG;rw[<- List.map_take,List.all_map];rfl
theorem bSr{t:den B2}{p:den Cb}(ht:t.1.length<=549755813888)(ht2:t.2.length<=549755813888)(hl:p.2.2.2.length<=549755813888):zQ t p=U (FX t p):=by
 unfold zQ FX A1 B6 Cp;simp only[aD,cAc hl,aA];have hR:(p.2.2.2.map (·.1)).length=p.2.2.2.length:=by simp
 rw[Hi (λk (_:Unit)=>(p.2.2.2.map (·.1),(k:Int))) (p.2.2.2.map (·.1),(0:Int)) () p.2.2.2 (λk x _=>if (Em t p.2.2.2 k x&&FB t p k x) then .inl () else .inr (.inr Y)) (λ_ _=>True) (λ_=> .inl ()) rfl (by omega) trivial (λk x a hi hx hd hw hk _=>by
  refine⟨?_,λ_ _=>trivial⟩;have hr:(p.2.2.2.map (·.1))[k]? =U x.1:=by rw[FV,hx];rfl
  have hs:bG (0:Int) (k:Int) ((p.2.2.2.map (·.1)).length:Int)=X:=by rw[hR];exact KS hk
  have hh:gU ((p.2.2.2.map (·.1)).take k) x.1=U (!((p.2.2.2.take k).all λy=> !(y.1==x.1))):=by
   rw[Lq (by simp;omega),bIq]
  simp only[hd,zZ,hi,aQ,hr,aA,Sl,F7 ht,hs,fL,hh,hw];cases k with
  | zero=>
   rw[show D (((0:Nat):Int)>0)=Y from by decide];unfold Em FB;cases oA x<;>cases cK t x.1<;>cases (p.2.2.2.take 0).all (λy=> !(y.1==x.1))<;>rfl
  | succ j=>
   have hw1:wr (((j+1:Nat):Int) - 1)=(j:Int):=(wri (by omega) (by omega)).trans (by omega);obtain⟨y,hy⟩:∃y,p.2.2.2[j]? =U y:=⟨_,Cs (by omega)⟩
   have hr1:(p.2.2.2.map (·.1))[j]? =U y.1:=by rw[FV,hy];rfl
   rw[show D (((j+1:Nat):Int)>0)=X from by simp];simp only[hw1,aQ,hr1,aA,T9 hy hl,Yz hx hl,Ji ht2,zZ,kM];unfold Em FB No;rw[PF,hy,CJ];cases oA x<;>cases cK t x.1<;>cases (p.2.2.2.take (j+1)).all (λy=> !(y.1==x.1))<;>cases CV p y==0<;>cases (remote t y.1 (CV p y)).1==x.1<;>cases (remote t y.1 (CV p y)).2==E9 p x<;>rfl) (λa _=>by simp)]
 rw[MC (λk x=>Em t p.2.2.2 k x&&FB t p k x)];have hsplit:(p.2.2.2.zipIdx 0).all (λz=>Em t p.2.2.2 z.2 z.1&&FB t p z.2 z.1)=(FH t p.2.2.2&&(p.2.2.2.zipIdx 0).all λz=>FB t p z.2 z.1):=by
  unfold FH;rw[CG];simp only[Dg,Ck];exact⟨λh=>⟨λz hz=>(h z hz).1,λz hz=>(h z hz).2⟩,λh z hz=>⟨h.1 z hz,h.2 z hz⟩⟩
 rw[hsplit];simp only[fC,Ln,aA];cases B3 (p.2.2.2.length:Int) 1 8<;>cases B3 p.1 1 4<;>cases B3 p.2.1 0 1000000<;>cases kR p.2.2.1<;>cases FH t p.2.2.2<;>cases (p.2.2.2.zipIdx 0).all (λz=>FB t p z.2 z.1)<;>rfl
def Ij(k:Int):Int:=cond (k==1) 1 (cond (k==2||k==3) 2 3)
theorem bY3(k:Int):IT k=U (Ij k):=by
 unfold IT Ij;cases k==1<;>cases k==2<;>cases k==3<;>rfl
theorem bWu(k:Int):IN k=U (Ij k):=by
 unfold IN Ij;cases k==1<;>cases k==2<;>cases k==3<;>rfl
def pt0:den Cb:=(0,0,0,[])
def QD(y:den Cb):den cH:=(y.2.2.2[y.2.2.2.length - 1]?).getD h0
def QM(y:den Cb):den cH:=(y.2.2.2[0]?).getD h0
def T6(y x:den Cb):Bool:= !D (Ij y.1>=Ij x.1)&&(QD y).1==(QM x).1
def DH(t:den B2)(p:den B4)(k:Nat)(x:den Cb):Bool:=FX t x&&(D (k=0)||T6 ((p[k - 1]?).getD pt0) x)
def Km(t:den B2)(p:den B4):Bool:=B3 (p.length:Int) 1 3&&(p.zipIdx 0).all λz=>DH t p z.2 z.1
theorem RA{t:den B2}{p:den Cb}(h:FX t p=X):0<p.2.2.2.length:=by
 unfold FX at h;rw[Ck]at h;have :=bQ.1 h.1;omega
theorem bJq{y:den Cb}(h:0<y.2.2.2.length)(hl:y.2.2.2.length<=549755813888):idx y.2.2.2 (wr ((y.2.2.2.length:Int) - 1))=U (QD y):=by
 rw[Te hl h,aQ];unfold QD;rw[Cs (show y.2.2.2.length - 1<y.2.2.2.length by omega)];rfl
theorem bJ5{y:den Cb}(h:0<y.2.2.2.length):idx y.2.2.2 (0:Int)=U (QM y):=by
 have :idx y.2.2.2 ((0:Nat):Int)=y.2.2.2[0]? :=aQ;rw[show (0:Int)=((0:Nat):Int) from rfl,this];unfold QM;rw[Cs h];rfl
theorem cMl{t:den B2}{p:den B4}(ht:t.1.length<=549755813888)(ht2:t.2.length<=549755813888)(h:Cc 549755813888 B4 p):pB t p=U (Km t p):=by
 have lp:=h.1;have lh:∀(k:Nat) (x:den Cb),p[k]? =U x->x.2.2.2.length<=549755813888:=λk x hx=>(h.2 x (Cm hx)).2.2.2.1
 unfold pB Km A1 B6;rw[Hi (λk (_:Unit)=>(k:Int)) (0:Int) () p (λk x _=>if DH t p k x then .inl () else .inr (.inr Y)) (λk _=> ∀j y,j<k->p[j]? =U y->0<y.2.2.2.length) (λ_=> .inl ()) rfl (by omega) (λj y hj=>absurd hj (Nat.not_lt_zero _)) (λk x a hi hx hd hw hk hI=>by
  have hlx:=lh k x hx;refine⟨?_,λa' ha j y hj hy=> ?_⟩
  .simp only[hd,zZ,hi,aA,aD,bV8 ht ht2 hlx,hw];cases hv:FX t x with
   | false=>unfold DH;rw[hv];rfl
   | true=>
    cases k with
    | zero=>
     rw[show D (((0:Nat):Int)>0)=Y from by decide];unfold DH;rw[hv];rfl
    | succ j=>
     have hw1:wr (((j+1:Nat):Int) - 1)=(j:Int):=(wri (by omega) (by omega)).trans (by omega);obtain⟨y,hy⟩:∃y,p[j]? =U y:=⟨_,Cs (by omega)⟩
     rw[show D (((j+1:Nat):Int)>0)=X from by simp];simp only[hw1,aQ,hy,aA,bY3,bJq (hI j y (Nat.lt_succ_self j) hy) (lh j y hy),bJ5 (RA hv),zZ,kM,BZ,zY];unfold DH T6;rw[PF,hy,CJ,hv];cases D (Ij y.1>=Ij x.1)<;>cases (QD y).1==(QM x).1<;>rfl
  .rcases Nat.lt_succ_iff_lt_or_eq.1 hj with hj | rfl
   .exact hI j y hj hy
   .rw[hx]at hy;injection hy with hy;subst hy;rcases PE (DH t p j x) with hb | hb
    .unfold DH at hb;rw[Ck]at hb;exact RA hb.1
    .simp[hb]at ha) (λa _=>by simp)]
 rw[MC (DH t p),gX,aA];cases B3 (p.length:Int) 1 3<;>cases (p.zipIdx 0).all (λz=>DH t p z.2 z.1)<;>rfl
theorem cLs{t:den B2}{p:den B4}(ht:t.1.length<=549755813888)(ht2:t.2.length<=549755813888)(h:Cc 549755813888 B4 p):oT t p=U (Km t p):=by
 have lp:=h.1;have lh:∀(k:Nat) (x:den Cb),p[k]? =U x->x.2.2.2.length<=549755813888:=λk x hx=>(h.2 x (Cm hx)).2.2.2.1
 unfold oT Km A1 B6;rw[Hi (λk (_:Unit)=>(k:Int)) (0:Int) () p (λk x _=>if DH t p k x then .inl () else .inr (.inr Y)) (λk _=> ∀j y,j<k->p[j]? =U y->0<y.2.2.2.length) (λ_=> .inl ()) rfl (by omega) (λj y hj=>absurd hj (Nat.not_lt_zero _)) (λk x a hi hx hd hw hk hI=>by
  have hlx:=lh k x hx;refine⟨?_,λa' ha j y hj hy=> ?_⟩
  .simp only[hd,zZ,hi,aA,aD,bSr ht ht2 hlx,hw];cases hv:FX t x with
   | false=>unfold DH;rw[hv];rfl
   | true=>
    cases k with
    | zero=>
     rw[show D (((0:Nat):Int)>0)=Y from by decide];unfold DH;rw[hv];rfl
    | succ j=>
     have hw1:wr (((j+1:Nat):Int) - 1)=(j:Int):=(wri (by omega) (by omega)).trans (by omega);obtain⟨y,hy⟩:∃y,p[j]? =U y:=⟨_,Cs (by omega)⟩
     rw[show D (((j+1:Nat):Int)>0)=X from by simp];simp only[hw1,aQ,hy,aA,bWu,bJq (hI j y (Nat.lt_succ_self j) hy) (lh j y hy),bJ5 (RA hv),zZ,kM,BZ,zY];unfold DH T6;rw[PF,hy,CJ,hv];cases D (Ij y.1>=Ij x.1)<;>cases (QD y).1==(QM x).1<;>rfl
  .rcases Nat.lt_succ_iff_lt_or_eq.1 hj with hj | rfl
   .exact hI j y hj hy
   .rw[hx]at hy;injection hy with hy;subst hy;rcases PE (DH t p j x) with hb | hb
    .unfold DH at hb;rw[Ck]at hb;exact RA hb.1
    .simp[hb]at ha) (λa _=>by simp)]
 rw[MC (DH t p),fC,aA];cases B3 (p.length:Int) 1 3<;>cases (p.zipIdx 0).all (λz=>DH t p z.2 z.1)<;>rfl
def JB(l:List Int)(k:Nat)(n:Int):Bool:= !oG (l.take k) n
def xW(t:den B2)(p:den B4):Bool:=Km t p&&((mF p).zipIdx 0).all λz=>JB (mF p) z.2 z.1
theorem Ta{p:den B4}(h:tot B4 p<=68719476736):Cc 549755813888 B4 p:=(bH h).mono (by decide)
theorem bD3{t:den B2}{p:den B4}(ht:t.1.length<=549755813888)(ht2:t.2.length<=549755813888)(h:tot B4 p<=68719476736):oO t p=U (xW t p):=by
 have hu:=RO p;unfold oO xW A1;simp only[aD,cMl ht ht2 (Ta h),bL0 h,aA];rw[Hi (λk (_:Unit)=>(mF p,mF p,(k:Int))) (mF p,mF p,(0:Int)) () (mF p) (λk x _=>if JB (mF p) k x then .inl () else .inr (.inr Y)) (λ_ _=>True) (λ_=> .inl ()) rfl (by omega) trivial (λk x a hi hx hd hw hk _=>by
  refine⟨?_,λ_ _=>trivial⟩;simp only[hd,zZ,hi,aA,KS hk,fL,hw,MN (l:=(mF p).take k) (n:=x) (by simp;omega)];unfold JB;cases oG ((mF p).take k) x<;>rfl) (λa _=>by simp)]
 rw[MC (JB (mF p))];cases Km t p<;>cases ((mF p).zipIdx 0).all (λz=>JB (mF p) z.2 z.1)<;>rfl
theorem bEz{t:den B2}{p:den B4}(ht:t.1.length<=549755813888)(ht2:t.2.length<=549755813888)(h:tot B4 p<=68719476736):oU t p=U (xW t p):=by
 have hu:=RO p;unfold oU xW A1;simp only[aD,cLs ht ht2 (Ta h),bMy h,aA];rw[Hi (λk (_:Unit)=>(mF p,(k:Int))) (mF p,(0:Int)) () (mF p) (λk x _=>if JB (mF p) k x then .inl () else .inr (.inr Y)) (λ_ _=>True) (λ_=> .inl ()) rfl (by omega) trivial (λk x a hi hx hd hw hk _=>by
  refine⟨?_,λ_ _=>trivial⟩;simp only[hd,zZ,hi,aA,KS hk,fL,hw,Lq (l:=(mF p).take k) (n:=x) (by simp;omega)];unfold JB;cases oG ((mF p).take k) x<;>rfl) (λa _=>by simp)]
 rw[MC (JB (mF p))];cases Km t p<;>cases ((mF p).zipIdx 0).all (λz=>JB (mF p) z.2 z.1)<;>rfl
def dC(p:den A9):den Cb:=(p.2.2.2.1[p.2.2.2.2.1.toNat]?).getD pt0
def fK(p:den A9):den cH:=((dC p).2.2.2[p.2.2.2.2.2.1.toNat]?).getD h0
theorem qJ{p:den A9}(h:dQ p=X):∃(i j:Nat),p.2.2.2.2.1=(i:Int)/\p.2.2.2.2.2.1=(j:Int)/\p.2.2.2.1[i]? =U (dC p)/\(dC p).2.2.2[j]? =U (fK p)/\fP p=(fK p).1:=by
 obtain⟨i,j,x,y,h1,h2,h3,h4,h5⟩:=PO h;have e1:dC p=x:=by unfold dC;rw[h1,Cj,h3];rfl
 have e2:fK p=y:=by unfold fK;rw[e1,h2,Cj,h4];rfl
 exact⟨i,j,h1,h2,by rw[e1];exact h3,by rw[e1,e2];exact h4,by rw[e2];exact h5⟩
theorem O0{p:den A9}(h:0<=fP p):dQ p=X:=by
 cases c:dQ p with
 | true=>rfl
 | false=>rw[KZ c]at h;omega
theorem iU{p:den A9}(h:tot A9 p<=274877906944):Cc 549755813888 A9 p:=(bH h).mono (by decide)
theorem GY{p:den A9}(h:Cc 549755813888 A9 p){i:Nat}{x:den Cb}(hx:p.2.2.2.1[i]? =U x):x.2.2.2.length<=549755813888:=(h.2.2.2.1.2 x (Cm hx)).2.2.2.1
def jK(p:den A9):Bool:=p.2.2.2.2.2.1==((dC p).2.2.2.length:Int) - 1
def MK(p:den A9):Bool:=p.2.2.2.2.1==(p.2.2.2.1.length:Int) - 1
def oC(p:den A9):Bool:=D (fP p>=0)&&(jK p&&MK p)
theorem W4{p:den A9}(h:Cc 549755813888 A9 p)(hh:dQ p=X):kH p=U (jK p):=by
 obtain⟨i,j,h1,h2,h3,h4,_⟩:=qJ hh;unfold kH jK A0 A4;rw[h1,aQ,h3,aA,dO (GY h h3)]
theorem WB{p:den A9}(h:Cc 549755813888 A9 p):pI p=U (oC p):=by
 unfold pI oC aK A0;simp only[aD,Ot h,aA];cases c:D (fP p>=0)
 .rfl
 .have hh:=O0 (of_decide_eq_true c);have l1:=h.2.2.2.1.1;simp only[zZ,W4 h hh,aA,dO l1];unfold MK;cases jK p<;>rfl
theorem bG1{p:den A9}(h:Cc 549755813888 A9 p):rI p=U (oC p):=by
 unfold rI oC aK A0 A4;simp only[aD,O9 h,aA];cases c:D (fP p>=0)
 .rfl
 .have hh:=O0 (of_decide_eq_true c);have l1:=h.2.2.2.1.1;obtain⟨i,j,h1,h2,h3,h4,_⟩:=qJ hh;simp only[zZ,dO l1];unfold MK jK;rw[h1,aQ,h3,aA,dO (GY h h3)];cases p.2.2.2.2.2.1==((dC p).2.2.2.length:Int) - 1<;>cases (i:Int)==(p.2.2.2.1.length:Int) - 1<;>rfl
theorem O2{p:den A9}(h:Cc 549755813888 A9 p):eM p=U (Ca p):=by
 unfold eM Ca A0 A4 A3 A8 B0 B8;rw[O5 h.2.2.2.1,On h.2.2.2.2.2.2.2.2.2.1];rfl
theorem MF{p:den A9}(h:Cc 549755813888 A9 p):iQ p=U (Ca p):=by
 unfold iQ Ca A0 A4 A3 A8 B0 B8;rw[Oo h.2.2.2.1,aC (b:=1) (n:=([]:List Int).length) (by decide) (by simpa using h.2.2.2.2.2.2.2.2.2.1)];simp
def Er(p:den A9)(i j b:Int):den A9:=(p.1,p.2.1,p.2.2.1,p.2.2.2.1,i,j,b,p.2.2.2.2.2.2.2.1,p.2.2.2.2.2.2.2.2.1,p.2.2.2.2.2.2.2.2.2)
def XL(p:den A9):den Cb:=(p.2.2.2.1[p.2.2.2.2.1.toNat+1]?).getD pt0
def adv(p:den A9):den A9:=
 if D (fP p<0)||oC p then p
 else if jK p then Er p (p.2.2.2.2.1+1) 0 (XL p).2.2.1 else Er p p.2.2.2.2.1 (p.2.2.2.2.2.1+1) p.2.2.2.2.2.2.1
theorem bLw{p:den A9}(hh:dQ p=X)(h0:0<=fP p)(hl:jK p=X)(ha:oC p=Y):∃i:Nat,p.2.2.2.2.1=(i:Int)/\p.2.2.2.1[i+1]? =U (XL p):=by
 obtain⟨i,j,h1,h2,h3,h4,_⟩:=qJ hh;refine⟨i,h1,?_⟩;have hlt:=(Cu.1 h3).1;have hne:MK p=Y:=by
  unfold oC at ha;rw[hl,zX h0]at ha;simpa using ha
 unfold MK at hne;rw[h1]at hne;have hne: ¬ ((i:Int)=(p.2.2.2.1.length:Int) - 1):=by simpa using hne
 unfold XL;rw[h1,Cj,Cs (show i+1<p.2.2.2.1.length by omega)];rfl
theorem cBb{p:den A9}(h:Cc 549755813888 A9 p):rY p=U (Ca (adv p)):=by
 unfold rY adv aK A1 A0 A4 A3 A8 B0;simp only[aD,O2 h,Ot h,WB h,aA];cases c:D (fP p<0)
 .cases ca:oC p
  .have h0:0<=fP p:=by have :=of_decide_eq_false c;omega
   have hh:=O0 h0;obtain⟨i,j,h1,h2,h3,h4,_⟩:=qJ hh;have hlt:=(Cu.1 h3).1;have hlt2:=(Cu.1 h4).1;have l1:Cr p.2.2.2.1<=549755813888:=h.2.2.2.1.1;have l2:=GY h h3;simp only[zY,aA,W4 h hh,E7,Cg,zU];cases cl:jK p
   .simp only[zY,aA,Cg,zU];unfold Ca Er;rw[h2,show wr ((j:Int)+1)=(j:Int)+1 from wri (by omega) (by omega)]
   .obtain⟨i',e1,e2⟩:=bLw hh h0 cl ca;have :i'=i:=Int.ofNat.inj (e1.symm.trans h1);subst this;have hw:wr (((i':Nat):Int)+1)=((i'+1:Nat):Int):=(wri (by omega) (by omega)).trans (by omega);simp only[zZ,zV];unfold Ca Er;simp only[h1,hw,aQ,e2,aA];rw[show ((i'+1:Nat):Int)=(i':Int)+1 by omega]
  .rfl
 .rfl
theorem YE{p:den A9}(h:Cc 549755813888 A9 p):kL p=U (Ca (adv p)):=by
 unfold kL adv aK B6 Cp A0 A4 A3;simp only[aD,MF h,O9 h,bG1 h,aA];cases c:D (fP p<0)
 .cases ca:oC p
  .have h0:0<=fP p:=by have :=of_decide_eq_false c;omega
   have hh:=O0 h0;obtain⟨i,j,h1,h2,h3,h4,_⟩:=qJ hh;have hlt:=(Cu.1 h3).1;have hlt2:=(Cu.1 h4).1;have l1:Cr p.2.2.2.1<=549755813888:=h.2.2.2.1.1;have l2:=GY h h3;have hd:D ((j:Int)<((dC p).2.2.2.length:Int) - 1)= !jK p:=by
    have key:D ((j:Int)<((dC p).2.2.2.length:Int) - 1)= !((j:Int)==((dC p).2.2.2.length:Int) - 1):=by
     rw[CG];simp only[zR,Eu,beq_eq_false_iff_ne,ne_eq];omega
    unfold jK;rw[h2];exact key
   simp only[zY,aA,E7,Cg,zU,h1,h2,aQ,h3,dO l2,hd];cases cl:jK p
   .simp only[Cn,zZ,Cg,zU];unfold Ca Er;rw[show wr ((j:Int)+1)=(j:Int)+1 from wri (by omega) (by omega)];simp only[h1]
   .obtain⟨i',e1,e2⟩:=bLw hh h0 cl ca;have :i'=i:=Int.ofNat.inj (e1.symm.trans h1);subst this;have hw:wr (((i':Nat):Int)+1)=((i'+1:Nat):Int):=(wri (by omega) (by omega)).trans (by omega);simp only[BZ,zY,zV];unfold Ca Er;simp only[hw,aQ,e2,aA];rw[show ((i'+1:Nat):Int)=(i':Int)+1 by omega]
  .rfl
 .rfl
def bef(p:den A9):Int:=if uD (dC p).1 then JX p.2.2.2.2.2.2.1 (fK p).2.2.2.2 else p.2.2.2.2.2.2.1
def aft(p:den A9):Int:=if uD (dC p).1 then JX p.2.2.2.2.2.2.1 (fK p).2.2.2.2 else JT p.2.2.2.2.2.2.1 (fK p).2.2.2.2
def J6(t:den B2)(p:den A9):Bool:=dQ p&&vW t (dC p).2.1 (bef p) (fK p)
def bV(t:den B2)(p:den A9):den A9:=if J6 t p then Er p p.2.2.2.2.1 p.2.2.2.2.2.1 (aft p) else p
def tE(p:den A9)(b:Bool):q10:=(p.1,p.2.1,p.2.2.1,p.2.2.2.2.1,p.2.2.2.2.2.1,p.2.2.2.2.2.2.1,p.2.2.2.2.2.2.2.1,p.2.2.2.2.2.2.2.2.1,b,p.2.2.2.1,p.2.2.2.2.2.2.2.2.2)
theorem cIp{t:den B2}{p:den A9}(ht:t.1.length<=549755813888)(h:Cc 549755813888 A9 p):lO t p=U (tE (bV t p) (J6 t p)):=by
 unfold lO bV J6 aK A1 Cp A0 A4 A3 A8 B0;simp only[aD,O2 h,cCb h,aA];cases c:dQ p
 .rfl
 .obtain⟨i,j,h1,h2,h3,h4,_⟩:=qJ c;simp only[h1,h2,aQ,h3,h4,aA,O3,XC,bUw,BZ,zY,Cw];unfold bef aft;cases uD (dC p).1
  .simp only[zY,aA,Tt ht,Cg,zU];cases vW t (dC p).2.1 p.2.2.2.2.2.2.1 (fK p)
   .simp only[Cn,zZ,Cg,zU];unfold tE Ca;simp only[h1,h2]
   .simp only[BZ,zY,zV];unfold tE Ca Er;simp only[h1,h2]
  .simp only[zZ,aA,Tt ht,zV];cases vW t (dC p).2.1 (JX p.2.2.2.2.2.2.1 (fK p).2.2.2.2) (fK p)
   .simp only[Cn,zZ,Cg,zU];unfold tE Ca;simp only[h1,h2]
   .simp only[BZ,zY,zV];unfold tE Ca Er;simp only[h1,h2]
theorem bLk{t:den B2}{ts b:Int}{h:den cH}(hv:h.1<0):vW t ts b h=Y:=by
 unfold vW oA;rw[SN.2 (λhh=>absurd hv (Int.not_lt.2 hh.1))];rfl
theorem cHz{t:den B2}{p:den A9}(ht:t.1.length<=549755813888)(h:Cc 549755813888 A9 p):lE t p=U (tE (bV t p) (J6 t p)):=by
 unfold lE bV J6 aK A1 Cp A0 A4 A3 A8 B0;simp only[aD,MF h,O9 h,aA];cases c:dQ p
 .rw[KZ c];rfl
 .obtain⟨i,j,h1,h2,h3,h4,h5⟩:=qJ c;rw[h5]
  by_cases hn:(fK p).1<0
  .rw[zX hn,bLk hn];rfl
  .simp only[zW hn,zY,h1,h2,aQ,h3,h4,aA,OB,XT,bVl,Cw,XW ht];unfold bef aft;cases uD (dC p).1
   .simp only[zY,Cg,zU];cases vW t (dC p).2.1 p.2.2.2.2.2.2.1 (fK p)
    .simp only[Cn,zZ,Cg,zU];unfold tE Ca;simp only[h1,h2]
    .simp only[BZ,zY,zV];unfold tE Ca Er;simp only[h1,h2]
   .simp only[zZ,zV];cases vW t (dC p).2.1 (JX p.2.2.2.2.2.2.1 (fK p).2.2.2.2) (fK p)
    .simp only[Cn,zZ,Cg,zU];unfold tE Ca;simp only[h1,h2]
    .simp only[BZ,zY,zV];unfold tE Ca Er;simp only[h1,h2]
def Ih(p:den A9)(now:Int):Bool:= !D (fP p<0)&&(D ((dC p).2.1<=now)&&D (now<=(fK p).2.2.2.1))
theorem bZ9{p:den A9}{now:Int}(h:Cc 549755813888 A9 p):jT p now=U (Ih p now):=by
 unfold jT Ih aK Cp A0 A4;simp only[aD,Ot h,aA];cases c:D (fP p<0)
 .have hh:=O0 (p:=p) (by have :=of_decide_eq_false c;omega);obtain⟨i,j,h1,h2,h3,h4,h5⟩:=qJ hh;simp only[zY,h1,h2,aQ,h3,h4,aA,Mt];cases D ((dC p).2.1<=now)<;>rfl
 .rfl
theorem bXj{p:den A9}{now:Int}(h:Cc 549755813888 A9 p):nR p now=U (Ih p now):=by
 unfold nR Ih aK Cp A0 A4;simp only[aD,O9 h,aA];cases c:D (fP p<0)
 .have hh:=O0 (p:=p) (by have :=of_decide_eq_false c;omega);obtain⟨i,j,h1,h2,h3,h4,h5⟩:=qJ hh;simp only[zY,h1,h2,aQ,h3,h4,aA,rN];cases D ((dC p).2.1<=now)<;>rfl
 .rfl
def eF(t:den B2)(now:Int)(p:den A9):Int:=if J6 t p then (if Ih p now then 0 else 5) else 4
def De(t:den B2)(now:Int):Nat->den A9->Int×den A9
 | 0,p=>(eF t now p,bV t p)
 | n+1,p=>if eF t now p==0&&(jK (bV t p)&& !oC (bV t p)) then De t now n (adv (bV t p)) else (eF t now p,bV t p)
theorem NM(t:den B2)(p:den A9):tot A9 (bV t p)=tot A9 p:=by
 unfold bV;split<;>rfl
theorem O1(p:den A9):tot A9 (adv p)=tot A9 p:=by
 unfold adv;split
 .rfl
 .split<;>rfl
theorem bKg(t:den B2)(p:den A9)(now:Int):Ih (bV t p) now=Ih p now:=by
 unfold bV;split<;>rfl
theorem NO(t:den B2)(p:den A9):dQ (bV t p)=dQ p/\fP (bV t p)=fP p/\fK (bV t p)=fK p/\(bV t p).2.2.2.1=p.2.2.2.1/\(bV t p).2.2.2.2.1=p.2.2.2.2.1:=by
 unfold bV;split<;>exact⟨rfl,rfl,rfl,rfl,rfl⟩
theorem Oa{t:den B2}{now:Int}{p:den A9}(h:eF t now p=0):dQ p=X/\0<=fP p:=by
 unfold eF at h;split at h
 .rename_i hs;unfold J6 at hs;rw[Ck]at hs;refine⟨hs.1,?_⟩;obtain⟨i,j,h1,h2,h3,h4,h5⟩:=qJ hs.1;rw[h5]
  by_cases hn:(fK p).1<0
  .rw[bLk hn]at hs;cases hs.2
  .exact Int.not_lt.1 hn
 .cases h
theorem bHh{p:den A9}(h0:0<=fP p)(hc:(jK p&& !oC p)=X):(adv p).2.2.2.1=p.2.2.2.1/\(adv p).2.2.2.2.1=p.2.2.2.2.1+1:=by
 rw[Ck]at hc;have ha:oC p=Y:=by simpa using hc.2
 unfold adv;rw[zW (by omega),ha,hc.1];exact⟨rfl,rfl⟩
theorem bLg{t:den B2}{now:Int}{S R:Type}(enc:Int->den A9->S)(out:S->R){step:S->Option (S⊕R)}(st:den A9->den A9)(hst:∀p,eF t now p=0->st p=bV t p)
  (hstop:∀c p,c≠0->step (enc c p)=U (.inr (out (enc c p))))
  (hgo:∀q,tot A9 q<=274877906944->dQ q=X->0<=fP q->step (enc 0 q)=U (if jK q&& !oC q then .inl (enc (eF t now (adv q)) (st (adv q))) else .inr (out (enc 0 q)))):
  ∀(n:Nat) (p:den A9),tot A9 p<=274877906944->p.2.2.2.1.length - p.2.2.2.2.1.toNat<=n-> ∃r,aB step (enc (eF t now p) (st p))=U (out (enc (De t now n p).1 r))/\((De t now n p).1=0->r=(De t now n p).2):=by
 intro n
 induction n with
 | zero=>
  intro p hp hm
  by_cases hc:eF t now p=0
  .obtain⟨hh,h0⟩:=Oa hc;obtain⟨i,j,h1,h2,h3,h4,h5⟩:=qJ hh;have hlt:=(Cu.1 h3).1;rw[h1,Cj]at hm;exact absurd hlt (by omega)
  .exact⟨_,aH (hstop _ _ hc),λh=>absurd h hc⟩
 | succ n ih=>
  intro p hp hm
  by_cases hc:eF t now p=0
  .obtain⟨hh,h0⟩:=Oa hc;obtain⟨e1,e2,e3,e4,e5⟩:=NO t p;have hq:=hgo (bV t p) (by rw[NM];exact hp) (by rw[e1];exact hh) (by rw[e2];exact h0);rw[hst p hc];cases hb:jK (bV t p)&& !oC (bV t p) with
   | false=>
    rw[hb]at hq;have hg:De t now (n+1) p=(eF t now p,bV t p):=by
     show (if _ then _ else _)=_;rw[hb,Bool.and_false];rfl
    rw[hg,hc];exact⟨bV t p,aH hq,λ_=>rfl⟩
   | true=>
    rw[hb,zT rfl]at hq;have hg:De t now (n+1) p=De t now n (adv (bV t p)):=by
     show (if _ then _ else _)=_;rw[hb,hc];rfl
    rw[hg,hc,aO hq];obtain⟨a1,a2⟩:=bHh (p:=bV t p) (by rw[e2];exact h0) hb;obtain⟨i,j,h1,h2,h3,h4,h5⟩:=qJ hh;refine ih (adv (bV t p)) (by rw[O1,NM];exact hp) ?_;rw[a1,a2,e4,e5,h1];rw[h1,Cj]at hm;have :((i:Int)+1).toNat=i+1:=by omega
    rw[this];omega
  .have hg:De t now (n+1) p=(eF t now p,bV t p):=by
    show (if _ then _ else _)=_;rw[show (eF t now p==0)=Y from by simpa using hc];rfl
   rw[hg];exact⟨_,aH (hstop _ _ hc),λh=>absurd h hc⟩
def MY(p:den A9):Int:=if p.2.2.2.2.1==0&&p.2.2.2.2.2.1==0 then 0 else E9 (dC p) (fK p)
def cV(t:den B2)(now:Int)(p:den A9):Int×den A9:=De t now (p.2.2.2.1.length - p.2.2.2.2.1.toNat) p
def fwd(t:den B2)(r now dead inn:Int)(p:den A9):Int×Int×den A9×Int:=
 if !sL p||(!xW t p.2.2.2.1|| !(fP p==r)) then (2,0,p,0)
 else if !(inn==MY p) then (3,0,p,0)
 else if !((cV t now p).1==0) then ((cV t now p).1,0,p,0)
 else if oC (cV t now p).2 then (if (cV t now p).2.2.2.1==r then (1,0,(cV t now p).2,0) else (2,0,p,0))
 else if !Ng t (r,inn,CV (dC (cV t now p).2) (fK (cV t now p).2)) then (6,0,p,0)
 else if zB dead (CV (dC (cV t now p).2) (fK (cV t now p).2)) then (7,0,p,CV (dC (cV t now p).2) (fK (cV t now p).2))
 else (0,CV (dC (cV t now p).2) (fK (cV t now p).2),adv (cV t now p).2,CV (dC (cV t now p).2) (fK (cV t now p).2))
def ZI(v:Int×Int×den A9×Int):Int×Int×q19:=
 (v.1,v.2.1,v.2.2.1.1,v.2.2.1.2.1,v.2.2.1.2.2.1,v.2.2.1.2.2.2.1,v.2.2.1.2.2.2.2.1,v.2.2.1.2.2.2.2.2.1,v.2.2.1.2.2.2.2.2.2.1,v.2.2.1.2.2.2.2.2.2.2.1,v.2.2.1.2.2.2.2.2.2.2.2.1,v.2.2.1.2.2.2.2.2.2.2.2.2,v.2.2.2)
def Dm(v:Int×Int×den A9×Int):Int×Int×q3:=(v.1,v.2.1,Ca v.2.2.1)
theorem Qn{t:den B2}{now:Int}:∀(n:Nat) (p:den A9),(De t now n p).1=0->dQ (De t now n p).2=X/\0<=fP (De t now n p).2/\tot A9 (De t now n p).2=tot A9 p
 | 0,p,h=>by
  obtain⟨h1,h2⟩:=Oa (show eF t now p=0 from h);obtain⟨e1,e2,_⟩:=NO t p;exact⟨e1.trans h1,by rw[show (De t now 0 p).2=bV t p from rfl,e2];exact h2,NM t p⟩
 | n+1,p,h=>by
  unfold De at h|-;split at h
  .rename_i hc;rw[zT hc];obtain⟨h1,h2,h3⟩:=Qn n _ h;exact⟨h1,h2,by rw[h3,O1,NM]⟩
  .rename_i hc;rw[zS hc];obtain⟨h1,h2⟩:=Oa (show eF t now p=0 from h);obtain⟨e1,e2,_⟩:=NO t p;exact⟨e1.trans h1,by rw[show (eF t now p,bV t p).2=bV t p from rfl,e2];exact h2,NM t p⟩
def DW(t:den B2)(now:Int)(p:den A9):den A9:=if eF t now p=0 then bV t p else p
def Fp(p:den A9)(c:Int):q19:=(p.1,p.2.1,p.2.2.1,p.2.2.2.1,p.2.2.2.2.1,p.2.2.2.2.2.1,p.2.2.2.2.2.2.1,p.2.2.2.2.2.2.2.1,p.2.2.2.2.2.2.2.2.1,p.2.2.2.2.2.2.2.2.2,c)
def FQ(p:den A9)(c:Int):Int×q3:=(p.1,p.2.1,p.2.2.1,p.2.2.2.2.1,p.2.2.2.2.2.1,p.2.2.2.2.2.2.1,p.2.2.2.2.2.2.2.1,p.2.2.2.2.2.2.2.2.1,c,p.2.2.2.1,p.2.2.2.2.2.2.2.2.2)
theorem cA5{t:den B2}{now:Int}{p:den A9}(ht:t.1.length<=549755813888)(h:tot A9 p<=274877906944):pM t now p=U (Fp (DW t now p) (eF t now p)):=by
 unfold pM aK A1 aS A0 A4 A3 A8 B0 B8;simp only[aD,cIp ht (iU h),aA];unfold DW eF;cases c:J6 t p
 .simp only[tE,Cn,zZ,Cg,zU];rfl
 .have hs:tot A9 (bV t p)<=274877906944:=by rw[NM];exact h
  have key:jT ((tE (bV t p) X).1,(tE (bV t p) X).2.1,(tE (bV t p) X).2.2.1,(tE (bV t p) X).2.2.2.2.2.2.2.2.2.1,(tE (bV t p) X).2.2.2.1,(tE (bV t p) X).2.2.2.2.1,(tE (bV t p) X).2.2.2.2.2.1,(tE (bV t p) X).2.2.2.2.2.2.1,(tE (bV t p) X).2.2.2.2.2.2.2.1,(tE (bV t p) X).2.2.2.2.2.2.2.2.2.2) now=U (Ih p now):=by
   rw[<- bKg t p now];exact bZ9 (iU hs)
  rw[key];simp only[tE,BZ,zY,aA,zV];cases Ih p now
  .simp only[Cn,zZ,Cg,zU];rfl
  .simp only[BZ,zY,zV];rfl
theorem cC5{t:den B2}{now:Int}{p:den A9}(ht:t.1.length<=549755813888)(h:tot A9 p<=274877906944):uZ t now p=U (FQ (bV t p) (eF t now p)):=by
 unfold uZ aK A1 A0 A4 A3 A8 B0 B8;simp only[aD,cHz ht (iU h),bXj (iU h),aA];unfold eF;cases c:J6 t p
 .simp only[tE,Cn,zZ,Cg,zU];rfl
 .simp only[tE,BZ,zY,zV];cases Ih p now
  .simp only[Cn,zZ,Cg,zU];rfl
  .simp only[BZ,zY,zV];rfl
theorem bAr{p:den A9}(h:sL p=X):dQ p=X:=by
 unfold sL at h;simp only[Ck]at h;exact h.2.2.1
theorem cCv{c:Int}{p:den A9}(h:tot A9 p<=274877906944):pQ c p=U (c,0,p.1,p.2.1,p.2.2.1,p.2.2.2.2.1,p.2.2.2.2.2.1,p.2.2.2.2.2.2.1,p.2.2.2.2.2.2.2.1,p.2.2.2.2.2.2.2.2.1,p.2.2.2.1,p.2.2.2.2.2.2.2.2.2,p.1,p.2.1,p.2.2.1,p.2.2.2.1,p.2.2.2.2.1,p.2.2.2.2.2.1,p.2.2.2.2.2.2.1,p.2.2.2.2.2.2.2.1,p.2.2.2.2.2.2.2.2.1,p.2.2.2.2.2.2.2.2.2):=by
 unfold pQ aK A0 A4 A3 A8 B0 B8;simp only[aD,O2 (iU h),aA];rfl
theorem cAz{c:Int}{p:den A9}(h:tot A9 p<=274877906944):Fz c p=U (c,0,Ca p):=by
 unfold Fz aK;simp only[aD,MF (iU h),aA]
theorem OI{p:den A9}{N:Nat}(h:tot A9 p<=N):tot B4 p.2.2.2.1<=N:=(SQ h).1
theorem YB{t:den B2}{r now dead inn:Int}{p:den A9}(ht:t.1.length<=549755813888)(ht2:t.2.length<=549755813888)(h:tot A9 p<=274877906944)(hpp:tot B4 p.2.2.2.1<=68719476736):yA t r now dead inn p=U (ZI (fwd t r now dead inn p)):=by
 unfold yA fwd aK JO A1 B6 aS bA A0 A4 A3 A8 B0 B8;simp only[aD,bXn (iU h),bD3 ht ht2 hpp,Ot (iU h),aA,kM,cCv h];cases cv:sL p
 .simp only[Cn,GI,zZ,aA,zV];rfl
 .cases cs:xW t p.2.2.2.1
  .simp only[BZ,Cn,GI,II,zZ,zY,aA,zV];rfl
  .cases cr:fP p==r
   .simp only[BZ,Cn,GI,II,zZ,zY,aA,zV];rfl
   .simp only[BZ,E7,zY,aA,Cg,zU];obtain⟨i,j,h1,h2,h3,h4,h5⟩:=qJ (bAr cv);have hl:=GY (iU h) h3;have hw:(@Option.bind Bool Int (cond (p.2.2.2.2.1==(0:Int)) (U (p.2.2.2.2.2.1==(0:Int))) (U Y)) λ(s8:Bool)=>cond s8 (U (0:Int)) (U (E9 (dC p) (fK p))))=U (MY p):=by
     unfold MY;cases p.2.2.2.2.1==0<;>cases p.2.2.2.2.2.1==0<;>rfl
    have hp1:idx p.2.2.2.1 p.2.2.2.2.1=U (dC p):=by rw[h1,aQ];exact h3
    have hp2:iG (dC p) p.2.2.2.2.2.1=U (E9 (dC p) (fK p)):=by rw[h2];exact Y0 h4 hl
    rw[hp1,aA,hp2,aA,hw,aA];cases ci:inn==MY p
    .simp only[Cn,zZ,zV,aA];rfl
    .simp only[BZ,zY,Cg,zU,O2 (iU h),aA];have hc:pM t now ((Ca p).1,(Ca p).2.1,(Ca p).2.2.1,(Ca p).2.2.2.2.2.2.2.2.1,(Ca p).2.2.2.1,(Ca p).2.2.2.2.1,(Ca p).2.2.2.2.2.1,(Ca p).2.2.2.2.2.2.1,(Ca p).2.2.2.2.2.2.2.1,(Ca p).2.2.2.2.2.2.2.2.2)=U (Fp (DW t now p) (eF t now p)):=cA5 ht h;rw[hc];simp only[aA,bB,cB,bL,bJ,bO];obtain⟨q,hq1,hq2⟩:=bLg (t:=t) (now:=now) (S:=Int×den A9) (R:=Int×den A9) (λc p=>(c,p)) id (step:=λs23=> @Option.bind Bool _ (cond (s23.1==(0:Int)) (Option.bind (kH s23.2) λy24=>cond y24 (Option.bind (pI s23.2) λy25=>U (!y25)) (U Y)) (U Y)) λ(s26:Bool)=>cond s26 (Option.bind (rY s23.2) λy27=>Option.bind (pM t now (y27.1,y27.2.1,y27.2.2.1,y27.2.2.2.2.2.2.2.2.1,y27.2.2.2.1,y27.2.2.2.2.1,y27.2.2.2.2.2.1,y27.2.2.2.2.2.2.1,y27.2.2.2.2.2.2.2.1,y27.2.2.2.2.2.2.2.2.2)) λy28=>U (A7 (y28.2.2.2.2.2.2.2.2.2.2,y28.1,y28.2.1,y28.2.2.1,y28.2.2.2.1,y28.2.2.2.2.1,y28.2.2.2.2.2.1,y28.2.2.2.2.2.2.1,y28.2.2.2.2.2.2.2.1,y28.2.2.2.2.2.2.2.2.1,y28.2.2.2.2.2.2.2.2.2.1))) (U (A2 s23))) (DW t now) (λp hp=>zT hp) (λc p hc=>by
       have :(c==0)=Y:=by simpa using hc
       simp only[this,zY,aA,id]) (λq hq hh h0=>by
       have e:pM t now ((Ca (adv q)).1,(Ca (adv q)).2.1,(Ca (adv q)).2.2.1,(Ca (adv q)).2.2.2.2.2.2.2.2.1,(Ca (adv q)).2.2.2.1,(Ca (adv q)).2.2.2.2.1,(Ca (adv q)).2.2.2.2.2.1,(Ca (adv q)).2.2.2.2.2.2.1,(Ca (adv q)).2.2.2.2.2.2.2.1,(Ca (adv q)).2.2.2.2.2.2.2.2.2)=U (Fp (DW t now (adv q)) (eF t now (adv q))):=cA5 (p:=adv q) ht (by rw[O1];exact hq);simp only[beq_self_eq_true,zZ,W4 (iU hq) hh,WB (iU hq),cBb (iU hq),aA,e];cases jK q<;>cases oC q<;>rfl) _ p h (Cz _)
     have hq1:aB _ (eF t now p,DW t now p)=U ((cV t now p).1,q):=hq1;have hq2:(cV t now p).1=0->q=(cV t now p).2:=hq2;have e0:(((Fp (DW t now p) (eF t now p)).2.2.2.2.2.2.2.2.2.2,(Fp (DW t now p) (eF t now p)).1,(Fp (DW t now p) (eF t now p)).2.1,(Fp (DW t now p) (eF t now p)).2.2.1,(Fp (DW t now p) (eF t now p)).2.2.2.1,(Fp (DW t now p) (eF t now p)).2.2.2.2.1,(Fp (DW t now p) (eF t now p)).2.2.2.2.2.1,(Fp (DW t now p) (eF t now p)).2.2.2.2.2.2.1,(Fp (DW t now p) (eF t now p)).2.2.2.2.2.2.2.1,(Fp (DW t now p) (eF t now p)).2.2.2.2.2.2.2.2.1,(Fp (DW t now p) (eF t now p)).2.2.2.2.2.2.2.2.2.1):Int×den A9)=(eF t now p,DW t now p):=rfl;rw[e0,hq1,aA]
     by_cases hz:(cV t now p).1=0
     .have hqq:=hq2 hz;subst hqq;obtain⟨g1,g2,g3⟩:=Qn _ p hz;have g1:dQ (cV t now p).2=X:=g1;have g2:0<=fP (cV t now p).2:=g2;have g3:tot A9 (cV t now p).2=tot A9 p:=g3;have hg:tot A9 (cV t now p).2<=274877906944:=by rw[g3];exact h
      obtain⟨i',j',k1,k2,k3,k4,k5⟩:=qJ g1;have hl':=GY (iU hg) k3;have q1:idx (cV t now p).2.2.2.2.1 (cV t now p).2.2.2.2.2.1=U (dC (cV t now p).2):=by rw[k1,aQ];exact k3
      have q2:iX (dC (cV t now p).2) (cV t now p).2.2.2.2.2.2.1=U (CV (dC (cV t now p).2) (fK (cV t now p).2)):=by rw[k2];exact Y3 k4 hl'
      simp only[hz,beq_self_eq_true,BZ,zY,Cg,zU,WB (iU hg),aA];cases ca:oC (cV t now p).2
      .simp only[zY,Cg,zU,q1,q2,aA,cFo ht2,bL7];cases Ng t (r,inn,CV (dC (cV t now p).2) (fK (cV t now p).2))
       .simp only[Cn,zZ,zV];rfl
       .simp only[BZ,zY,Cg,zU];cases zB dead (CV (dC (cV t now p).2) (fK (cV t now p).2))
        .simp only[zY,Cg,zU,cBb (iU hg),aA];rfl
        .simp only[zZ,zV];rfl
      .simp only[zZ,zV];cases (cV t now p).2.2.2.1==r
       .simp only[Cn,zZ,Cg,zU];rfl
       .simp only[BZ,zY,zV];rfl
     .have hz':((cV t now p).1==0)=Y:=by simpa using hz
      simp only[hz',Cn,zZ,zV,cCv h,aA];rfl
theorem bWi{t:den B2}{r now dead inn:Int}{p:den A9}(ht:t.1.length<=549755813888)(ht2:t.2.length<=549755813888)(h:tot A9 p<=274877906944)(hpp:tot B4 p.2.2.2.1<=68719476736):IV t r now dead inn p=U ((fwd t r now dead inn p).1,(fwd t r now dead inn p).2.1,(fwd t r now dead inn p).2.2.1):=by
 unfold IV aK A1 aS bA A0 A4 A3 A8 B0 B8;simp only[aD,YB ht ht2 h hpp,aA];rfl
def LS(c:Int)(p:den A9):Int×q3:=(c,p.1,p.2.1,p.2.2.1,p.2.2.2.2.1,p.2.2.2.2.2.1,p.2.2.2.2.2.2.1,p.2.2.2.2.2.2.2.1,p.2.2.2.2.2.2.2.2.1,p.2.2.2.1,p.2.2.2.2.2.2.2.2.2)
theorem bH0{q:den A9}(hh:dQ q=X)(h0:0<=fP q):(jK q&&D (q.2.2.2.2.1<(q.2.2.2.1.length:Int) - 1))=(jK q&& !oC q):=by
 obtain⟨i,j,h1,h2,h3,h4,h5⟩:=qJ hh;have hlt:=(Cu.1 h3).1;unfold oC MK;rw[zX (p:=fP q>=0) h0,h1];have key:D ((i:Int)<(q.2.2.2.1.length:Int) - 1)= !((i:Int)==(q.2.2.2.1.length:Int) - 1):=by
  rw[CG];simp only[zR,Eu,beq_eq_false_iff_ne,ne_eq];omega
 rw[key];cases jK q<;>simp
theorem YK{t:den B2}{r now dead inn:Int}{p:den A9}(ht:t.1.length<=549755813888)(ht2:t.2.length<=549755813888)(h:tot A9 p<=274877906944)(hpp:tot B4 p.2.2.2.1<=68719476736):nO t r now dead inn p=U (Dm (fwd t r now dead inn p)):=by
 unfold nO fwd BX aK JO DI A1 B6 aS A0 A4 A3 A8 B0 B8;simp only[aD,bY1 (iU h),bEz ht ht2 hpp,O9 (iU h),aA,kM,cAz h];cases cv:sL p
 .simp only[Cn,GI,zZ,aA,zV];rfl
 .cases cs:xW t p.2.2.2.1
  .simp only[BZ,Cn,GI,II,zZ,zY,aA,zV];rfl
  .cases cr:fP p==r
   .simp only[BZ,Cn,GI,II,zZ,zY,aA,zV];rfl
   .simp only[BZ,E7,zY,aA,Cg,zU];obtain⟨i,j,h1,h2,h3,h4,h5⟩:=qJ (bAr cv);have hl:=GY (iU h) h3;have hw:(@Option.bind Bool Int (cond (p.2.2.2.2.1==(0:Int)) (U (p.2.2.2.2.2.1==(0:Int))) (U Y)) λ(s8:Bool)=>cond s8 (U (0:Int)) (U (E9 (dC p) (fK p))))=U (MY p):=by
     unfold MY;cases p.2.2.2.2.1==0<;>cases p.2.2.2.2.2.1==0<;>rfl
    have hp1:idx p.2.2.2.1 p.2.2.2.2.1=U (dC p):=by rw[h1,aQ];exact h3
    have hp2:gV (dC p) p.2.2.2.2.2.1=U (E9 (dC p) (fK p)):=by rw[h2];exact Yz h4 hl
    rw[hp1,aA,hp2,aA,hw,aA];cases ci:inn==MY p
    .simp only[Cn,zZ,zV,aA];rfl
    .simp only[BZ,zY,Cg,zU,cC5 ht h,aA];obtain⟨q,hq1,hq2⟩:=bLg (t:=t) (now:=now) LS id (step:=λs17=> @Option.bind Bool _ (cond (s17.1==(0:Int)) (cond (D ((0:Int)<=s17.2.2.2.2.1)) (cond (D (s17.2.2.2.2.1<(s17.2.2.2.2.2.2.2.2.2.1.length:Int))) (Option.bind s17.2.2.2.2.2.2.2.2.2.1[s17.2.2.2.2.1.toNat]? λx18=>cond (s17.2.2.2.2.2.1==(wr ((x18.2.2.2.length:Int) - (1:Int)))) (U (D (s17.2.2.2.2.1<(wr ((s17.2.2.2.2.2.2.2.2.2.1.length:Int) - (1:Int)))))) (U Y)) W) W) (U Y)) λ(s19:Bool)=>cond s19 (Option.bind (kL (s17.2.1,s17.2.2.1,s17.2.2.2.1,s17.2.2.2.2.2.2.2.2.2.1,s17.2.2.2.2.1,s17.2.2.2.2.2.1,s17.2.2.2.2.2.2.1,s17.2.2.2.2.2.2.2.1,s17.2.2.2.2.2.2.2.2.1,s17.2.2.2.2.2.2.2.2.2.2)) λy20=>Option.bind (uZ t now (y20.1,y20.2.1,y20.2.2.1,y20.2.2.2.2.2.2.2.2.1,y20.2.2.2.1,y20.2.2.2.2.1,y20.2.2.2.2.2.1,y20.2.2.2.2.2.2.1,y20.2.2.2.2.2.2.2.1,y20.2.2.2.2.2.2.2.2.2)) λy21=>U (A7 (y21.2.2.2.2.2.2.2.2.1,y21.1,y21.2.1,y21.2.2.1,y21.2.2.2.1,y21.2.2.2.2.1,y21.2.2.2.2.2.1,y21.2.2.2.2.2.2.1,y21.2.2.2.2.2.2.2.1,y21.2.2.2.2.2.2.2.2.2.1,y21.2.2.2.2.2.2.2.2.2.2))) (U (A2 s17))) (bV t) (λp hp=>rfl) (λc p hc=>by
       have :(c==0)=Y:=by simpa using hc
       simp only[LS,this,zY,aA,id]) (λq hq hh h0=>by
       have e:uZ t now ((Ca (adv q)).1,(Ca (adv q)).2.1,(Ca (adv q)).2.2.1,(Ca (adv q)).2.2.2.2.2.2.2.2.1,(Ca (adv q)).2.2.2.1,(Ca (adv q)).2.2.2.2.1,(Ca (adv q)).2.2.2.2.2.1,(Ca (adv q)).2.2.2.2.2.2.1,(Ca (adv q)).2.2.2.2.2.2.2.1,(Ca (adv q)).2.2.2.2.2.2.2.2.2)=U (FQ (bV t (adv q)) (eF t now (adv q))):=cC5 (p:=adv q) ht (by rw[O1];exact hq);obtain⟨i',j',k1,k2,k3,k4,k5⟩:=qJ hh;have hlt:=(Cu.1 k3).1;have l1:Cr q.2.2.2.1<=549755813888:=(iU hq).2.2.2.1.1;have hm:=bH0 hh h0;simp only[LS,beq_self_eq_true,zZ,aD,YE (iU hq),aA,e];rw[<- hm];have hd:D ((i':Int)<(q.2.2.2.1.length:Int))=X:=zX (by omega);simp only[k1,bF,hd,zZ,Cj,k3,aA,dO (GY (iU hq) k3),dO l1];unfold jK;cases q.2.2.2.2.2.1==((dC q).2.2.2.length:Int) - 1<;>cases D ((i':Int)<(q.2.2.2.1.length:Int) - 1)<;>rfl) _ p h (Cz _)
     have hq1:aB _ (LS (eF t now p) (bV t p))=U (LS (cV t now p).1 q):=hq1;have hq2:(cV t now p).1=0->q=(cV t now p).2:=hq2;have e0:(((FQ (bV t p) (eF t now p)).2.2.2.2.2.2.2.2.1,(FQ (bV t p) (eF t now p)).1,(FQ (bV t p) (eF t now p)).2.1,(FQ (bV t p) (eF t now p)).2.2.1,(FQ (bV t p) (eF t now p)).2.2.2.1,(FQ (bV t p) (eF t now p)).2.2.2.2.1,(FQ (bV t p) (eF t now p)).2.2.2.2.2.1,(FQ (bV t p) (eF t now p)).2.2.2.2.2.2.1,(FQ (bV t p) (eF t now p)).2.2.2.2.2.2.2.1,(FQ (bV t p) (eF t now p)).2.2.2.2.2.2.2.2.2.1,(FQ (bV t p) (eF t now p)).2.2.2.2.2.2.2.2.2.2))=LS (eF t now p) (bV t p):=rfl;rw[e0,hq1,aA]
     by_cases hz:(cV t now p).1=0
     .have hqq:=hq2 hz;subst hqq;obtain⟨g1,g2,g3⟩:=Qn _ p hz;have g1:dQ (cV t now p).2=X:=g1;have g2:0<=fP (cV t now p).2:=g2;have g3:tot A9 (cV t now p).2=tot A9 p:=g3;have hg:tot A9 (cV t now p).2<=274877906944:=by rw[g3];exact h
      obtain⟨i',j',k1,k2,k3,k4,k5⟩:=qJ g1;have hlt:=(Cu.1 k3).1;have hl':=GY (iU hg) k3;have q2:fF (dC (cV t now p).2) (cV t now p).2.2.2.2.2.2.1=U (CV (dC (cV t now p).2) (fK (cV t now p).2)):=by rw[k2];exact T9 k4 hl'
      simp only[LS,aD,hz,beq_self_eq_true,BZ,zY,Cg,zU,bG1 (iU hg),aA];cases ca:oC (cV t now p).2
      .simp only[zY,aA,Cg,zU];have hd:D ((i':Int)<((cV t now p).2.2.2.2.1.length:Int))=X:=zX (by omega);simp only[k1,bF,hd,zZ,Cj,k3,aA,q2,cE8 ht2,bLf];cases Ng t (r,inn,CV (dC (cV t now p).2) (fK (cV t now p).2))
       .simp only[Cn,zZ,zV];rfl
       .simp only[BZ,zY,Cg,zU];cases zB dead (CV (dC (cV t now p).2) (fK (cV t now p).2))
        .simp only[zY,Cg,zU,YE (iU hg),aA];rfl
        .simp only[zZ,zV];rfl
      .simp only[zZ,aA];cases (cV t now p).2.2.2.1==r
       .simp only[zY,zZ,Cg,zU,zV];rfl
       .simp only[zZ,zV];rfl
     .have hz':((cV t now p).1==0)=Y:=by simpa using hz
      simp only[LS,hz',Cn,zZ,zV,cAz h,aA];rfl
theorem Qs(t:den B2)(r now dead inn:Int)(p:den A9):tot A9 (fwd t r now dead inn p).2.2.1=tot A9 p:=by
 unfold fwd;split
 .rfl
 .split
  .rfl
  .split
   .rfl
   .rename_i hz;have hz:(cV t now p).1=0:=by simpa using hz
    obtain⟨_,_,g3⟩:=Qn _ p hz;have g3:tot A9 (cV t now p).2=tot A9 p:=g3;split
    .split
     .exact g3
     .rfl
    .split
     .rfl
     .split
      .rfl
      .show tot A9 (adv (cV t now p).2)=_;rw[O1];exact g3
theorem bJh{t:den B2}{now:Int}:∀(n:Nat) (p:den A9),(De t now n p).2.2.2.2.1=p.2.2.2.1
 | 0,p=>(NO t p).2.2.2.1
 | n+1,p=>by
  unfold De;split
  .rw[bJh n];rw[<- (NO t p).2.2.2.1];unfold adv;split
   .rfl
   .split<;>rfl
  .exact (NO t p).2.2.2.1
theorem bZa(p:den A9):(adv p).2.2.2.1=p.2.2.2.1:=by
 unfold adv;split
 .rfl
 .split<;>rfl
theorem bZv(t:den B2)(r now dead inn:Int)(p:den A9):(fwd t r now dead inn p).2.2.1.2.2.2.1=p.2.2.2.1:=by
 have hg:(cV t now p).2.2.2.2.1=p.2.2.2.1:=bJh _ p;unfold fwd
 repeat' split
 all_goals first
  | rfl
  | exact hg
  | exact (bZa _).trans hg
theorem bIr{t:den B2}{now:Int}:∀(n:Nat) (p:den A9),0<=(De t now n p).1
 | 0,p=>by
  show 0<=eF t now p;unfold eF
  repeat' split
  all_goals decide
 | n+1,p=>by
  unfold De;split
  .exact bIr n _
  .show 0<=eF t now p;unfold eF
   repeat' split
   all_goals decide
theorem bYs(t:den B2)(r now dead inn:Int)(p:den A9):0<=(fwd t r now dead inn p).1:=by
 have hg:0<=(cV t now p).1:=bIr _ p;unfold fwd
 repeat' split
 all_goals first
  | exact hg
  | simp
theorem cHa(t:den B2)(r now dead inn:Int)(p:den A9):D ((fwd t r now dead inn p).1>1)= !((fwd t r now dead inn p).1==0||(fwd t r now dead inn p).1==1):=by
 have h:=bYs t r now dead inn p;generalize (fwd t r now dead inn p).1=c at h;rw[CG];simp only[zR,Eu,Bool.or_eq_false_iff,beq_eq_false_iff_ne,ne_eq];omega
def bM(t:den B2)(now:Int)(dead:List Int)(r inn:Int)(p:den A9):Int×Int×den A9×Int:=fwd t r now (yZ t dead r) inn p
def Ri(t:den B2)(now:Int)(dead:List Int):Nat->Int->Int->den A9->eE->Int×den A9×eE
 | 0,_,_,p,st=>(0,p,st)
 | n+1,r,inn,p,st=>
  if (bM t now dead r inn p).1==0||(bM t now dead r inn p).1==1 then
   (if (bM t now dead r inn p).1==1 then (1,(bM t now dead r inn p).2.2.1,st++[(r,inn,(bM t now dead r inn p).2.1)])
    else Ri t now dead n (remote t r (bM t now dead r inn p).2.1).1 (remote t r (bM t now dead r inn p).2.1).2 (bM t now dead r inn p).2.2.1 (st++[(r,inn,(bM t now dead r inn p).2.1)]))
  else ((bM t now dead r inn p).1,(bM t now dead r inn p).2.2.1,st)
theorem bFs{t:den B2}{now:Int}{dead:List Int}{S R:Type}(enc:Nat->Int->Int->den A9->eE->S)(out out2:Int×den A9×eE->R)(N:Nat)(b:Bool){step:S->Option (S⊕R)}
  (H:∀(k:Nat) (r inn:Int) (p:den A9) (st:eE),k<N->st.length<=k->tot A9 p<=274877906944->tot B4 p.2.2.2.1<=68719476736->step (enc k r inn p st)=U (
   if (bM t now dead r inn p).1==0||(bM t now dead r inn p).1==1 then
    (if (bM t now dead r inn p).1==1 then .inr (out (1,(bM t now dead r inn p).2.2.1,st++[(r,inn,(bM t now dead r inn p).2.1)]))
     else if b&&D (k+1=N) then .inr (out (0,(bM t now dead r inn p).2.2.1,st++[(r,inn,(bM t now dead r inn p).2.1)]))
     else .inl (enc (k+1) (remote t r (bM t now dead r inn p).2.1).1 (remote t r (bM t now dead r inn p).2.1).2 (bM t now dead r inn p).2.2.1 (st++[(r,inn,(bM t now dead r inn p).2.1)])))
   else .inr (out ((bM t now dead r inn p).1,(bM t now dead r inn p).2.2.1,st))))
  (he:b=Y-> ∀r inn p st,step (enc N r inn p st)=U (.inr (out2 (0,p,st)))):
  ∀(n k:Nat) (r inn:Int) (p:den A9) (st:eE),k+n=N->(n=0->b=Y)->st.length<=k->tot A9 p<=274877906944->tot B4 p.2.2.2.1<=68719476736->aB step (enc k r inn p st)=U (out (Ri t now dead n r inn p st))\/aB step (enc k r inn p st)=U (out2 (Ri t now dead n r inn p st)):=by
 intro n
 induction n with
 | zero=>
  intro k r inn p st hk hb hs hp hq;have :k=N:=by omega
  subst this;exact .inr (aH (he (hb rfl) r inn p st))
 | succ n ih=>
  intro k r inn p st hk hb hs hp hq;have h:=H k r inn p st (by omega) hs hp hq;unfold Ri;cases c01:(bM t now dead r inn p).1==0||(bM t now dead r inn p).1==1 with
  | false=>
   rw[c01]at h;exact .inl (aH h)
  | true=>
   rw[c01,zT rfl]at h;rw[zT rfl];cases c1:(bM t now dead r inn p).1==1 with
   | true=>
    rw[c1]at h;exact .inl (aH h)
   | false=>
    rw[c1]at h;simp only[Cg,zU]at h ⊢;cases hl:b&&D (k+1=N) with
    | true=>
     rw[hl,zT rfl]at h;rw[Ck,zR]at hl;have :n=0:=by omega
     subst this;exact .inl (aH h)
    | false=>
     rw[hl]at h;simp only[Cg,zU]at h;rw[aO h];refine ih (k+1) _ _ _ _ (by omega) (λhn=> ?_) (by simp;omega) ?_ ?_
     .subst hn;cases b with
      | false=>rfl
      | true=>simp at hl;omega
     .unfold bM;rw[Qs];exact hp
     .unfold bM;rw[bZv];exact hq
def TJ(x:Int×den A9×eE):q13:=
 (x.1,x.2.1.1,x.2.1.2.1,x.2.1.2.2.1,x.2.1.2.2.2.1,x.2.1.2.2.2.2.1,x.2.1.2.2.2.2.2.1,x.2.1.2.2.2.2.2.2.1,x.2.1.2.2.2.2.2.2.2.1,x.2.1.2.2.2.2.2.2.2.2.1,x.2.1.2.2.2.2.2.2.2.2.2,x.2.2)
def Yd(k:Nat)(r inn:Int)(p:den A9)(st:eE):Int×Int×Int×q13:=
 (r,inn,((k+1:Nat):Int),0,p.1,p.2.1,p.2.2.1,p.2.2.2.1,p.2.2.2.2.1,p.2.2.2.2.2.1,p.2.2.2.2.2.2.1,p.2.2.2.2.2.2.2.1,p.2.2.2.2.2.2.2.2.1,p.2.2.2.2.2.2.2.2.2,st)
def Nx(t:den B2)(now:Int)(dead:List Int)(p:den A9):Int×den A9×eE:=Ri t now dead 30 p.2.1 0 p []
theorem cHi{t:den B2}{now:Int}{dead:List Int}{p:den A9}(ht:t.1.length<=549755813888)(ht2:t.2.length<=68719476736)(hd:dead.length<=549755813888)(h:tot A9 p<=274877906944)(hpp:tot B4 p.2.2.2.1<=68719476736):zD t now dead p=U (TJ (Nx t now dead p)):=by
 unfold zD aK DI A1 aS bA bZ dS oF A0 A4 A3 A8 B0 B8;simp only[aD,O2 (iU h),aA];have e0:(p.2.1,(0:Int),(1:Int),(0:Int),(Ca p).1,(Ca p).2.1,(Ca p).2.2.1,(Ca p).2.2.2.2.2.2.2.2.1,(Ca p).2.2.2.1,(Ca p).2.2.2.2.1,(Ca p).2.2.2.2.2.1,(Ca p).2.2.2.2.2.2.1,(Ca p).2.2.2.2.2.2.2.1,(Ca p).2.2.2.2.2.2.2.2.2,([]:eE))=Yd 0 p.2.1 0 p []:=rfl;rw[e0];refine (bFs (t:=t) (now:=now) (dead:=dead) Yd TJ TJ 30 X ?_ (λhb=>by cases hb) 30 0 p.2.1 0 p [] rfl (λh=>by cases h) (Cz _) h hpp).elim id id;intro k r inn p st hk hs hp hq;have hw:wr (((k+1:Nat):Int)+1)=((k+1+1:Nat):Int):=(wri (by omega) (by omega)).trans (by omega);have h30:(((k+1:Nat):Int)==30)=D (k+1=30):=by rw[CG];simp only[beq_iff_eq,zR];omega
 simp only[Yd,aD,Xp ht2 hd,bWi ht (B5 ht2 (by decide)) hp hq,KW (t:=t) (B5 ht2 (by decide)),aA,bB,cB,bL,bJ,bO,kM,aC (b:=24) (n:=st.length) (m:=1) (by decide) (by omega),zZ,hw,h30];rw[show fwd t r now (yZ t dead r) inn p=bM t now dead r inn p from rfl];have hx:∀c:Int,(c==0)=X->(c==1)=Y:=λc hc=>by
  have :c=0:=by simpa using hc
  subst this;rfl
 cases c0:(bM t now dead r inn p).1==0 with
 | true=>
  rw[hx _ c0];have e0:(bM t now dead r inn p).1=0:=by simpa using c0
  simp only[BZ,Cn,zY,zZ,aA,GI,zV,Cg,zU,Cw,e0];cases D (k+1=30)<;>rfl
 | false=>
  cases c1:(bM t now dead r inn p).1==1 with
  | true=>
   have e1:(bM t now dead r inn p).1=1:=by simpa using c1
   simp only[BZ,Cn,zY,zZ,aA,II,zV,e1];rfl
  | false=>
   simp only[Cn,zZ,aA,E7,Cg,zU];rfl
def Pa(x:Int×den A9×eE):q9:=
 (x.1,x.2.1.1,x.2.1.2.1,x.2.1.2.2.1,x.2.1.2.2.2.2.1,x.2.1.2.2.2.2.2.1,x.2.1.2.2.2.2.2.2.1,x.2.1.2.2.2.2.2.2.2.1,x.2.1.2.2.2.2.2.2.2.2.1,x.2.2,x.2.1.2.2.2.1,x.2.1.2.2.2.2.2.2.2.2.2)
def T7(k:Nat)(r inn:Int)(p:den A9)(st:eE):Int×Int×Int×q9:=
 (r,inn,(k:Int),0,p.1,p.2.1,p.2.2.1,p.2.2.2.2.1,p.2.2.2.2.2.1,p.2.2.2.2.2.2.1,p.2.2.2.2.2.2.2.1,p.2.2.2.2.2.2.2.2.1,st,p.2.2.2.1,p.2.2.2.2.2.2.2.2.2)
theorem cJk{t:den B2}{now:Int}{dead:List Int}{p:den A9}(ht:t.1.length<=549755813888)(ht2:t.2.length<=68719476736)(hd:dead.length<=549755813888)(h:tot A9 p<=274877906944)(hpp:tot B4 p.2.2.2.1<=68719476736):yY t now dead p=U (Pa (Nx t now dead p)):=by
 unfold yY aK DI A1 aS bA bZ dS oF A0 A4 A3 A8 B0 B8;simp only[aD,MF (iU h),aA];have e0:(p.2.1,(0:Int),(0:Int),(0:Int),(Ca p).1,(Ca p).2.1,(Ca p).2.2.1,(Ca p).2.2.2.1,(Ca p).2.2.2.2.1,(Ca p).2.2.2.2.2.1,(Ca p).2.2.2.2.2.2.1,(Ca p).2.2.2.2.2.2.2.1,([]:eE),(Ca p).2.2.2.2.2.2.2.2.1,(Ca p).2.2.2.2.2.2.2.2.2)=T7 0 p.2.1 0 p []:=rfl;have hl:=bFs (t:=t) (now:=now) (dead:=dead) T7 (λx=>(A2 (Pa x):_⊕_)) (λx=>A7 (Pa x)) 30 Y (step:=λs10=>cond (D (s10.2.2.1<(30:Int))) (Option.bind (fE (Option.bind (dJ t dead s10.1) λy11=>fE (Option.bind (nO t s10.1 now y11 s10.2.1 (s10.2.2.2.2.1,s10.2.2.2.2.2.1,s10.2.2.2.2.2.2.1,s10.2.2.2.2.2.2.2.2.2.2.2.2.2.1,s10.2.2.2.2.2.2.2.1,s10.2.2.2.2.2.2.2.2.1,s10.2.2.2.2.2.2.2.2.2.1,s10.2.2.2.2.2.2.2.2.2.2.1,s10.2.2.2.2.2.2.2.2.2.2.2.1,s10.2.2.2.2.2.2.2.2.2.2.2.2.2.2)) λy12=>U y12) (Option.bind (nO t s10.1 now y11 s10.2.1 (s10.2.2.2.2.1,s10.2.2.2.2.2.1,s10.2.2.2.2.2.2.1,s10.2.2.2.2.2.2.2.2.2.2.2.2.2.1,s10.2.2.2.2.2.2.2.1,s10.2.2.2.2.2.2.2.2.1,s10.2.2.2.2.2.2.2.2.2.1,s10.2.2.2.2.2.2.2.2.2.2.1,s10.2.2.2.2.2.2.2.2.2.2.2.1,s10.2.2.2.2.2.2.2.2.2.2.2.2.2.2)) λy13=>U y13)) (Option.bind (dJ t dead s10.1) λy14=>Option.bind (nO t s10.1 now y14 s10.2.1 (s10.2.2.2.2.1,s10.2.2.2.2.2.1,s10.2.2.2.2.2.2.1,s10.2.2.2.2.2.2.2.2.2.2.2.2.2.1,s10.2.2.2.2.2.2.2.1,s10.2.2.2.2.2.2.2.2.1,s10.2.2.2.2.2.2.2.2.2.1,s10.2.2.2.2.2.2.2.2.2.2.1,s10.2.2.2.2.2.2.2.2.2.2.2.1,s10.2.2.2.2.2.2.2.2.2.2.2.2.2.2)) λy15=>U y15)) λs16=>cond (D (s16.1>(1:Int))) (U (A2 (A2 (s16.1,s16.2.2.1,s16.2.2.2.1,s16.2.2.2.2.1,s16.2.2.2.2.2.1,s16.2.2.2.2.2.2.1,s16.2.2.2.2.2.2.2.1,s16.2.2.2.2.2.2.2.2.1,s16.2.2.2.2.2.2.2.2.2.1,s10.2.2.2.2.2.2.2.2.2.2.2.2.1,s16.2.2.2.2.2.2.2.2.2.2.1,s16.2.2.2.2.2.2.2.2.2.2.2)))) (cond (aF 24 s10.2.2.2.2.2.2.2.2.2.2.2.2.1.length 1) (cond (s16.1==(1:Int)) (U (A2 (A2 (s16.1,s16.2.2.1,s16.2.2.2.1,s16.2.2.2.2.1,s16.2.2.2.2.2.1,s16.2.2.2.2.2.2.1,s16.2.2.2.2.2.2.2.1,s16.2.2.2.2.2.2.2.2.1,s16.2.2.2.2.2.2.2.2.2.1,s10.2.2.2.2.2.2.2.2.2.2.2.2.1++[(s10.1,s10.2.1,s16.2.1)],s16.2.2.2.2.2.2.2.2.2.2.1,s16.2.2.2.2.2.2.2.2.2.2.2)))) (Option.bind (dN t s10.1 s16.2.1) λy17=>U (A7 (y17.1,y17.2,wr (s10.2.2.1+(1:Int)),s16.1,s16.2.2.1,s16.2.2.2.1,s16.2.2.2.2.1,s16.2.2.2.2.2.1,s16.2.2.2.2.2.2.1,s16.2.2.2.2.2.2.2.1,s16.2.2.2.2.2.2.2.2.1,s16.2.2.2.2.2.2.2.2.2.1,s10.2.2.2.2.2.2.2.2.2.2.2.2.1++[(s10.1,s10.2.1,s16.2.1)],s16.2.2.2.2.2.2.2.2.2.2.1,s16.2.2.2.2.2.2.2.2.2.2.2)))) W)) (U (A2 (A7 s10.2.2.2)))) (by
   intro k r inn p st hk hs hp hq;have hw:wr ((k:Int)+1)=((k+1:Nat):Int):=(wri (by omega) (by omega)).trans (by omega);have h30:D ((k:Int)<30)=X:=zX (by omega);show cond (D ((k:Int)<(30:Int))) _ _=U _;rw[h30,zZ];simp only[T7,aD,Xl ht2 hd,YK ht (B5 ht2 (by decide)) hp hq,Ji (t:=t) (B5 ht2 (by decide)),aA,bB,cB,bL,bJ,bO,aC (b:=24) (n:=st.length) (m:=1) (by decide) (by omega),zZ,hw,h30,CD];rw[show (Dm (fwd t r now (yZ t dead r) inn p)).1=(fwd t r now (yZ t dead r) inn p).1 from rfl,cHa];rw[show fwd t r now (yZ t dead r) inn p=bM t now dead r inn p from rfl];have hx:∀c:Int,(c==0)=X->(c==1)=Y:=λc hc=>by
    have :c=0:=by simpa using hc
    subst this;rfl
   cases c0:(bM t now dead r inn p).1==0 with
   | true=>
    rw[hx _ c0];have e0:(bM t now dead r inn p).1=0:=by simpa using c0
    simp only[BZ,zY,aA,GI,zV,Cg,zU,e0];rfl
   | false=>
    cases c1:(bM t now dead r inn p).1==1 with
    | true=>
     have e1:(bM t now dead r inn p).1=1:=by simpa using c1
     simp only[BZ,zY,zZ,II,zV,e1];rfl
    | false=>
     simp only[Cn,zZ,E7,Cg,zU];rfl) (λ_ r inn p st=>rfl) 30 0 p.2.1 0 p [] rfl (λ_=>rfl) (Cz _) h hpp
 have hl':∀{s:_},s=T7 0 p.2.1 0 p []->aB _ s=U (A2 (Pa (Nx t now dead p)))\/aB _ s=U (A7 (Pa (Nx t now dead p))):=λhs=>by rw[hs];exact hl
 rcases hl' e0 with hl | hl
 .rw[hl];rfl
 .rw[hl];rfl
def Lw(t:den B2)(now:Int)(dead:List Int)(p:den B4):Bool:=(Nx t now dead (mK 1 p 0 0 [])).1==1
theorem bHg{t:den B2}{now:Int}{dead:List Int}{p:den B4}(ht:t.1.length<=549755813888)(ht2:t.2.length<=68719476736)(hd:dead.length<=549755813888)(hp:tot B4 p<=68719476736):IP t now dead p=U (Lw t now dead p):=by
 unfold IP Lw A1 A0 A4 A3 A8 B0 B8;have h1:tot A9 (mK 1 p 0 0 [])<=274877906944:=by rw[PU,OD];omega
 have e:zD t now dead ((Ca (mK 1 p 0 0 [])).1,(Ca (mK 1 p 0 0 [])).2.1,(Ca (mK 1 p 0 0 [])).2.2.1,(Ca (mK 1 p 0 0 [])).2.2.2.2.2.2.2.2.1,(Ca (mK 1 p 0 0 [])).2.2.2.1,(Ca (mK 1 p 0 0 [])).2.2.2.2.1,(Ca (mK 1 p 0 0 [])).2.2.2.2.2.1,(Ca (mK 1 p 0 0 [])).2.2.2.2.2.2.1,(Ca (mK 1 p 0 0 [])).2.2.2.2.2.2.2.1,(Ca (mK 1 p 0 0 [])).2.2.2.2.2.2.2.2.2)=U (TJ (Nx t now dead (mK 1 p 0 0 []))):=cHi ht ht2 hd h1 hp;simp only[aD,SJ (kind:=1) (res:=0) (seq:=0) (p:=p) (pay:=[]) (by omega) (by simp),aA,e];rfl
theorem bHk{t:den B2}{now:Int}{dead:List Int}{p:den B4}(ht:t.1.length<=549755813888)(ht2:t.2.length<=68719476736)(hd:dead.length<=549755813888)(hp:tot B4 p<=68719476736):IS t now dead p=U (Lw t now dead p):=by
 unfold IS Lw A1 A0 A4 A3 A8 B0 B8;have h1:tot A9 (mK 1 p 0 0 [])<=274877906944:=by rw[PU,OD];omega
 have e:yY t now dead ((Ca (mK 1 p 0 0 [])).1,(Ca (mK 1 p 0 0 [])).2.1,(Ca (mK 1 p 0 0 [])).2.2.1,(Ca (mK 1 p 0 0 [])).2.2.2.2.2.2.2.2.1,(Ca (mK 1 p 0 0 [])).2.2.2.1,(Ca (mK 1 p 0 0 [])).2.2.2.2.1,(Ca (mK 1 p 0 0 [])).2.2.2.2.2.1,(Ca (mK 1 p 0 0 [])).2.2.2.2.2.2.1,(Ca (mK 1 p 0 0 [])).2.2.2.2.2.2.2.1,(Ca (mK 1 p 0 0 [])).2.2.2.2.2.2.2.2.2)=U (Pa (Nx t now dead (mK 1 p 0 0 []))):=cJk ht ht2 hd h1 hp;simp only[aD,SV (kind:=1) (res:=0) (seq:=0) (p:=p) (pay:=[]) (by omega) (by simp),aA,e];rfl
def Hf(w:den B1)(p:den B4)(now:Int):Bool:=Lw w.1 now w.2.2.2.2.1 p&&Lw w.1 now w.2.2.2.2.1 (I8 p)
def Q6(w:den B1):Int:=wr (w.2.2.2.1+wr (8+F4 w))
def MP(w:den B1)(p:den B4):Bool:=Hf w p w.2.2.2.1&&Hf w p (Q6 w)
def Nf(w:den B1)(f:den B7):Int:=
 match dH (λk p=>if MP w p then U (k:Int) else W) 0 f.2.2.2.2.2.1 with
 | some i=>i
 | none=> -1
structure TB (w:den B1):Prop where
 as:w.1.1.length<=549755813888
 links:w.1.2.length<=68719476736
 dead:w.2.2.2.2.1.length<=549755813888
 flows:w.2.2.2.2.2.2.1.length<=68719476736
theorem cAs{w:den B1}(h:tot B1 w<=68719476736):TB w where
 as:=B5 (cO (t:=CN) _) (B5 (DQ (DQ h)) (by decide))
 links:=B5 (cO (t:=C8) _) (B5 (aP (DQ h)) (by decide))
 dead:=B5 (cO (t:=ti) _) (B5 (DQ (aP (aP (aP (aP h))))) (by decide))
 flows:=B5 (cO (t:=B7) _) (DQ (aP (aP (aP (aP (aP (aP h)))))))
theorem cEq{w:den B1}{p:den B4}{now:Int}(h:TB w)(hp:tot B4 p<=68719476736):Jf w p now=U (Hf w p now):=by
 unfold Jf Hf A1 A0;simp only[aD,bHk h.as h.links h.dead hp,XB (Ta hp),aA,bHk h.as h.links h.dead (p:=I8 p) (by rw[KY];exact hp)];cases Lw w.1 now w.2.2.2.2.1 p<;>rfl
theorem cF2{w:den B1}{f:den B7}(h:TB w)(hf:tot B7 f<=68719476736):vP w f=U (Nf w f):=by
 have hl:f.2.2.2.2.2.1.length<=68719476736:=B5 (cO (t:=B4) _) (RH hf).2.1;unfold vP aL A4;simp only[aD,bHd h.flows,aA];rw[aM (l:=f.2.2.2.2.2.1) (λk p=>if MP w p then U (k:Int) else W) (by omega) (λk p hi hd hw hm hk=>by
  have hp:tot B4 p<=68719476736:=by have :=kE (t:=B4) hm;have :=(RH hf).2.1;omega
  simp only[hd,hi,hw,zZ,aA,aD,cEq h hp];unfold MP Q6;cases Hf w p w.2.2.2.1<;>cases Hf w p (wr (w.2.2.2.1+wr (8+F4 w)))<;>rfl) (by simp)]
 unfold Nf;cases dH (λk p=>if MP w p then U (k:Int) else W) 0 f.2.2.2.2.2.1<;>rfl
theorem cFv{w:den B1}{f:den B7}(h:TB w)(hf:tot B7 f<=68719476736):vH w f=U (Nf w f):=by
 have hl:f.2.2.2.2.2.1.length<=68719476736:=B5 (cO (t:=B4) _) (RH hf).2.1;unfold vH BX A1 aL A0 A4;simp only[aD,bHu h.flows,aA];rw[aM (l:=f.2.2.2.2.2.1) (λk p=>if MP w p then U (k:Int) else W) (by omega) (λk p hi hd hw hm hk=>by
  have hp:tot B4 p<=68719476736:=by have :=kE (t:=B4) hm;have :=(RH hf).2.1;omega
  have hr:=λnow=>bHg h.as h.links h.dead (now:=now) hp
  have hr2:=λnow=>bHg h.as h.links h.dead (now:=now) (p:=I8 p) (by rw[KY];exact hp)
  simp only[hd,hi,hw,zZ,aA,aD,XV (Ta hp),hr,hr2];rw[fV (λk (b:Bool)=>(b,(k:Int))) (X,(0:Int)) X [w.2.2.2.1,Q6 w] (λ_ n b=>b&&Hf w p n) (λ_=>0) (λ_=>0) 0 id rfl (by simp) (by simp) (λ_ _ _=>Cz _) (λk n b hi hx hd hw hk hb=>by
   have hd:D ((k:Int)<(([w.2.2.2.1,wr (w.2.2.2.1+wr (8+F4 w))]:List Int).length:Int))=X:=hd;have hx:([w.2.2.2.1,wr (w.2.2.2.1+wr (8+F4 w))]:List Int)[k]? =U n:=hx;simp only[hd,bF,Cj,hx,hw,zZ,aA];unfold Hf;cases b<;>cases Lw w.1 n w.2.2.2.2.1 p<;>rfl) (λa=>by simp)]
  show Option.bind (U (id (cW (λ_ n b=>b&&Hf w p n) 0 [w.2.2.2.1,Q6 w] X))) _=_;simp only[cW,aA,id,Cw];unfold MP;cases Hf w p w.2.2.2.1&&Hf w p (Q6 w)<;>rfl) (by simp)]
 unfold Nf;cases dH (λk p=>if MP w p then U (k:Int) else W) 0 f.2.2.2.2.2.1<;>rfl
def FE(w:den B1)(f:den B7):Bool:=f.2.2.2.1==(f.2.2.2.2.1.length:Int)|| !D (Nf w f>=0)
theorem cGb{w:den B1}(h:tot B1 w<=68719476736):pO w=U (w.2.2.2.2.2.2.1.all (FE w)):=by
 have hs:=cAs h;have hF:tot (.sl B7) w.2.2.2.2.2.2.1<=68719476736:=DQ (aP (aP (aP (aP (aP (aP h))))));unfold pO Ct aL A0 A3;rw[aM (l:=w.2.2.2.2.2.2.1) (λ_ f=>if FE w f then W else U Y) (B5 hs.flows (by decide)) (λk f hi hd hw hm hk=>by
  have hf:tot B7 f<=68719476736:=by have :=kE (t:=B7) hm;omega
  simp only[hd,hi,hw,zZ,aA,aD,cFv hs hf,kM];unfold FE;cases f.2.2.2.1==(f.2.2.2.2.1.length:Int)<;>cases D (Nf w f>=0)<;>rfl) (by simp),iO (FE w)]
 cases w.2.2.2.2.2.2.1.all (FE w)<;>rfl
theorem cF8{w:den B1}(h:tot B1 w<=68719476736):pU w=U (w.2.2.2.2.2.2.1.all (FE w)):=by
 have hs:=cAs h;have hF:tot (.sl B7) w.2.2.2.2.2.2.1<=68719476736:=DQ (aP (aP (aP (aP (aP (aP h))))));unfold pU Ct aL A0 A3;rw[aM (l:=w.2.2.2.2.2.2.1) (λ_ f=>if FE w f then W else U Y) (B5 hs.flows (by decide)) (λk f hi hd hw hm hk=>by
  have hf:tot B7 f<=68719476736:=by have :=kE (t:=B7) hm;omega
  simp only[hd,hi,hw,zZ,aA,aD,cF2 hs hf,kM];unfold FE;cases f.2.2.2.1==(f.2.2.2.2.1.length:Int)<;>cases D (Nf w f>=0)<;>rfl) (by simp),iO (FE w)]
 cases w.2.2.2.2.2.2.1.all (FE w)<;>rfl
abbrev nT(w:den B1):den B2:=w.1
abbrev nK(w:den B1):den CS:=w.2.1
abbrev nG(w:den B1):den Dh:=w.2.2.1
abbrev aV(w:den B1):Int:=w.2.2.2.1
abbrev bC(w:den B1):List Int:=w.2.2.2.2.1
abbrev bS(w:den B1):CR:=w.2.2.2.2.2.1
abbrev aG(w:den B1):CK:=w.2.2.2.2.2.2.1
abbrev cR(w:den B1):Dj:=w.2.2.2.2.2.2.2.1
abbrev qP(w:den B1):Int:=w.2.2.2.2.2.2.2.2
def E6(w:den B1):q21:=
 ((nG w).1,aV w,qP w,(nT w).1,(nT w).2,(nK w).1,(nK w).2,(nG w).2.1,(nG w).2.2,bC w,bS w,aG w,cR w)
theorem bTe{l:C4}(h:l.length<=549755813888):gL l=U l:=by
 unfold gL;rw[aC (n:=([]:C4).length) (by decide) (by simpa using h)];rfl
theorem bOy{g:den Dh}(h:Cc 549755813888 Dh g):gW g=U g:=by
 unfold gW;rw[bTe h.2.1.1,aA,aC (n:=([]:Dk).length) (by decide) (by simpa using h.2.2.1)];rfl
theorem bPq{g:den Dh}(h:Cc 549755813888 Dh g):lP g=U g:=by
 unfold lP A6;rw[aC (b:=40) (n:=([]:C4).length) (by decide) (by simpa using h.2.1.1),aC (b:=32) (n:=([]:Dk).length) (by decide) (by simpa using h.2.2.1)];simp only[bB,cB,bL,bJ,bO,zZ,aA,CH]
theorem V7(f:den B7):(((tS f).1,(tS f).2.1,(tS f).2.2.1,(tS f).2.2.2.1,(tS f).2.2.2.2.2.2.1,(tS f).2.2.2.2.2.2.2.1,(tS f).2.2.2.2.1,(tS f).2.2.2.2.2.1,(tS f).2.2.2.2.2.2.2.2):den B7)=f:=rfl
theorem bLx(p:den A9):(((Ca p).1,(Ca p).2.1,(Ca p).2.2.1,(Ca p).2.2.2.2.2.2.2.2.1,(Ca p).2.2.2.1,(Ca p).2.2.2.2.1,(Ca p).2.2.2.2.2.1,(Ca p).2.2.2.2.2.2.1,(Ca p).2.2.2.2.2.2.2.1,(Ca p).2.2.2.2.2.2.2.2.2):den A9)=p:=rfl
theorem bUl{x:den C5}(h:Cc 549755813888 C5 x):Cc 549755813888 A9 x.2.2:=h.2.2
end Go.Proofs.YtjpmmodjpaabpaaGreat
