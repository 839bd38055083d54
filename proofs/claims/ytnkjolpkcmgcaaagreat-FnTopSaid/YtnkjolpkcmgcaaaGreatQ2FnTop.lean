/-
  Facts and plain laws: what the functions compute, in plain words. Conditions: as each says.
-/
import Derived.Test.YtnkjolpkcmgcaaaGreatQ1FnTop
open Int renaming eq_ofNat_of_zero_le->cGr,le_refl->cGx,toNat_natCast->cF2,le_trans->cHb
open Nat renaming le_trans->cFv,le_refl->cF8,le_succ->cGz,zero_le->cGe,zero_add->cGt,le_of_eq->cHv,le_add_right->cIy,add_sub_cancel->cI9,add_le_add_right->cH5,le_add_left->cHr
open List renaming length_append->cGh,length_singleton->cHf,getLast?_concat->cHs,dropLast_concat->cIa,pairwise_iff_getElem->cH1,getElem?_eq_getElem->cFx,getElem?_eq_some_iff->cFz,getElem?_map->cHz,mem_append->cF6,mem_singleton->cF5,getElem?_set->cH3,length_set->cHm,getElem?_set_self->cIo,mem_of_getElem?->cF9,getElem?_append_left->cJc,all_eq_true->cGm,mem_of_mem_take->cHk,mem_map->cF4,mem_filter->cGc,length_map->cGu,not_mem_nil->cGn,pairwise_cons->cJa,mem_cons->cFy,mem_cons_of_mem->cF7,mem_iff_getElem?->cJg,append_assoc->cGj,singleton_append->cI3,nil_append->cGk,filter_cons->cH9,append_nil->cGq,reverse_cons->cJe,map_append->cHh,drop_eq_getElem_cons->cIm,mem_cons_self->cGb,length_cons->cGv,take_append_drop->cHe,length_dropLast->cJf,cons_append->cIs,getElem?_append_right->cIj,map_map->cIi,flatMap_cons->cI8,Sublist->cIp,nodup_append->cG4,getElem?_set_ne->cI5,getElem_mem->cHa
open Bool renaming and_eq_true->cFw,not_true->cF0,not_eq_true'->cGw,or_eq_true->cHi,or_self->cHj,false_eq_true->cF1,not_false->cGa
open Option renaming map_eq_some_iff->cGs,getD_some->cGy
set_option linter.unusedVariables false
set_option linter.unusedSimpArgs false
set_option maxRecDepth 100000
namespace Go.Proofs.YtnkjolpkcmgcaaaGreat
open Go.Ab Go.V
theorem bY3{code:List Int}(hl:code.length<=1048576){most:Nat}(h0:0<most)(h1:most<=200){c:List Int}{p h:Int}(hc:Cur code (c,p,h)):cCg code (3+most) (aA8 (c,p,h) (most:Int)):=by
 obtain⟨v,c1,p1,h1',e1,hv,k1⟩:=bXw hl hc;obtain⟨v2,c2,p2,h2,e2,r2,k2⟩:=bJ hl (n:=(most:Int)) (by omega) (by omega) k1;obtain⟨m2,rfl⟩:=cGr r2.1;have w2:wr ((3:Int)+(m2:Int))=((m2+3:Nat):Int):=by rw[bE (by omega) (by omega)];omega
 have sw:SmB 68719476736 tNw v:=(bM (hv.tot (by decide))).mono (by decide);have e3:sJ (((aBn v c1 p1 h1').2.2.2.1,(aBn v c1 p1 h1').2.2.2.2.1),((aBn v c1 p1 h1').2.2.2.2.2.1,(aBn v c1 p1 h1').2.2.2.2.2.2.1),((aBn v c1 p1 h1').1,(aBn v c1 p1 h1').2.2.2.2.2.2.2.1,(aBn v c1 p1 h1').2.2.2.2.2.2.2.2.1),(aBn v c1 p1 h1').2.1,(aBn v c1 p1 h1').2.2.2.2.2.2.2.2.2.1,(aBn v c1 p1 h1').2.2.2.2.2.2.2.2.2.2.1,(aBn v c1 p1 h1').2.2.2.2.2.2.2.2.2.2.2.1,(aBn v c1 p1 h1').2.2.2.2.2.2.2.2.2.2.2.2.1,(aBn v c1 p1 h1').2.2.1)=some (aGh v):=bFq sw;have e2:aF ((aBn v c1 p1 h1').2.2.2.2.2.2.2.2.2.2.2.2.2.1,(aBn v c1 p1 h1').2.2.2.2.2.2.2.2.2.2.2.2.2.2.1,(aBn v c1 p1 h1').2.2.2.2.2.2.2.2.2.2.2.2.2.2.2) (most:Int)=some ((m2:Int),c2,p2,h2):=e2;unfold aA8 cAa pj3 pj6 aS bD bR eC kX tD wC aA1 aCk aCi aGp zz4 zz5 zz6 zz7 zz8 zz9;simp only[bC,bT,bH,bI,bL,e1,aA,e3,e2,w2];refine aBl (G:=cCg code (3+most)) (λ(n:Nat) (s:RnS)=> ∃l w c p h,s=rnS n l w c p h/\l.length+n<=3+most/\Ran v l w/\Cur code (c,p,h)) (λr:RnR=> ∃n l w c p h,r=(rnS n l w c p h).2/\l.length<=3+most/\Ran v l w/\Cur code (c,p,h)) ?_ (m2+3) (rnS (m2+3) [] v c2 p2 h2) ⟨[],v,c2,p2,h2,rfl,by simp only[List.length_nil];omega,.nil,k2⟩ ?_
 .rintro n s ⟨l,w,c3,p3,h3,rfl,hn,hr,k3⟩
  cases n with
  | zero=>exact .inl ⟨_,rfl,0,l,w,c3,p3,h3,rfl,by omega,hr,k3⟩
  | succ n=>
   right;have hrun:=hr.run hv (by omega);have hE:=hrun.netE (by omega) hv.top.pos hv.top.len hv.top.links;obtain⟨e,c4,p4,h4,e4,he,k4⟩:=bR6 hl hE k3;have e5:=cFk (w:=w) (e:=e) (by decide) hrun.keep (by omega) (by
     have h8:=he.hi;have h9: ¬ (e.1=(9:Int)):=λh=>by rw[h]at h8;exact absurd h8 (by decide)
     exact beq_eq_false_iff_ne.2 h9) ⟨by have :=he.data.1;omega,λx hx=>trivial⟩ (cFv he.pk.1 (by decide))
   have wn:wr (((n+1:Nat):Int) - 1)=(n:Int):=by rw[bE (by omega) (by omega)];omega
   refine⟨n,rnS n (l++[e]) (doW w e).2 c4 p4 h4,by omega,?_,l++[e],(doW w e).2,c4,p4,h4,rfl,by simp only[cGh,cHf];omega,hr.snoc he,k4⟩;obtain⟨⟨as,ls⟩,⟨dn,co⟩,⟨cap,res,us⟩,now,dead,fly,flows,box,drop⟩:=w;obtain⟨kd,en,data,to,ing,k1,k2,k3,k4,k5,k6,k7,k8,k9,k10⟩:=e;show cond (decide (((n+1:Nat):Int)>(0:Int))) _ _=_;rw[zX (show ((n+1:Nat):Int)>0 by omega),zZ];simp only[rnS,nT,nK,nG,aJ,aH,aI,aB,aR,dR,zZ,e4,aA,nxR,aE (b:=168) (n:=l.length) (m:=1) (by decide) (by omega),e5,bB,wn]
 .rintro r ⟨n,l,w,c3,p3,h3,rfl,hn,hr,k3⟩
  exact⟨v,l,w,c3,p3,h3,rfl,hv,hr,hn,k3⟩
theorem bSw{code:List Int}(hl:code.length<=1048576){m:Nat}(hm:3<=m/\m<=1000):∃n:Nat,aAj code (m:Int)=some (n:Int)/\n<=m:=by
 unfold aAj;have e:Int.tdiv (code.length:Int) 12=((code.length / 12:Nat):Int):=rfl;have w:wr ((code.length:Int).tdiv 12)=((code.length / 12:Nat):Int):=by rw[e,bE (by omega) (by omega)]
 have w2:wr ((3:Int)+((code.length / 12:Nat):Int))=((3+code.length / 12:Nat):Int):=by rw[bE (by omega) (by omega)];omega
 simp only[w,w2]
 by_cases h:((3+code.length / 12:Nat):Int)>(m:Int)
 .rw[zX h];exact⟨m,rfl,cF8 _⟩
 .rw[zW h];exact⟨3+code.length / 12,rfl,by omega⟩
def hdS(l:cE):Option Int:=l.head?.map λx=>(x.1:Int)
def ltS(l:cE):Option Int:=l.getLast?.map λx=>(x.1:Int)
theorem aK3(l:cE)(x:den mY):ltS (l++[x])=some x.1:=by unfold ltS;rw[cHs];rfl
theorem aRm(l:cE)(x:den mY):hdS (l++[x])=if l=[] then some x.1 else hdS l:=by
 cases l with
 | nil=>rfl
 | cons y l=>rfl
theorem bYw(nf:Bool)(p:den tPp)(i:Nat)(h:den bV)(out:cE):ltS (tS nf p i h out)=some h.1/\hdS (tS nf p i h out)=if out=[] then some h.1 else hdS out:=by
 unfold tS;rcases gH out with rfl | ⟨m,z,rfl⟩
 .exact⟨rfl,rfl⟩
 .rw[cHs];simp only;split
  .rename_i hc;simp only[cFw,beq_iff_eq]at hc;rw[cIa];refine⟨aK3 _ _,?_⟩;have hne:m++[z]≠[]:=by simp
   rw[zS hne,aRm,aRm]
   by_cases hm:m=[]
   .rw[zT hm,zT hm];exact congrArg some hc.2.2.symm
   .rw[zS hm,zS hm]
  .exact⟨aK3 _ _,by rw[aRm]⟩
theorem aV7(nf:Bool)(p:den tPp):∀(l:cR) (k:Nat) (a:cE),ltS (bO (λi h b=>tS nf p i h b) k l a)=(if l=[] then ltS a else aC9 l)/\hdS (bO (λi h b=>tS nf p i h b) k l a)=(if a=[] then aIq l else hdS a)
 | [],k,a=>by
  refine⟨rfl,?_⟩;show hdS a=_;split
  .rename_i h;rw[h];rfl
  .rfl
 | x::l,k,a=>by
  obtain⟨h1,h2⟩:=aV7 nf p l (k+1) (tS nf p k x a);obtain⟨g1,g2⟩:=bYw nf p k x a;have hne:tS nf p k x a≠[]:=λe=>by rw[e]at g1;cases g1
  rw[zS hne,g2]at h2;refine⟨?_,?_⟩
  .show ltS (bO _ (k+1) l (tS nf p k x a))=_;cases l with
   | nil=>
    show ltS (tS nf p k x a)=_;rw[zS (List.cons_ne_nil _ _),g1];rfl
   | cons y l=>
    rw[h1,zS (List.cons_ne_nil _ _),zS (List.cons_ne_nil _ _)];unfold aC9;rw[List.getLast?_cons_cons]
  .show hdS (bO _ (k+1) l (tS nf p k x a))=_;rw[h2];rfl
theorem bCm:∀(p:lPp) (k:Nat) (a:cE),a≠[]->hdS (bO (λk x a=>jW (decide (0<k)) x a) k p a)=hdS a/\(∀b,aCh p=some b->ltS (bO (λk x a=>jW (decide (0<k)) x a) k p a)=some b)
 | [],k,a,_=>⟨rfl,λb h=>by cases h⟩
 | x::p,k,a,ha=>by
  obtain⟨g1,g2⟩:=aV7 (decide (0<k)) x x.2.2.2 0 a;rw[zS ha]at g2;have hne:jW (decide (0<k)) x a≠[]:=λe=>by
   have g2:hdS (jW (decide (0<k)) x a)=hdS a:=g2;rw[e]at g2;cases a with
   | nil=>exact ha rfl
   | cons y l=>cases g2
  obtain⟨h1,h2⟩:=bCm p (k+1) (jW (decide (0<k)) x a) hne;refine⟨h1.trans g2,λb hb=> ?_⟩;cases p with
  | nil=>
   have hb:aC9 x.2.2.2=some b:=hb;show ltS (jW (decide (0<k)) x a)=some b;have g1:ltS (jW (decide (0<k)) x a)=_:=g1;rw[g1,zS (λe=>by rw[e]at hb;cases hb),hb]
  | cons y p=>
   have hb:aCh (y::p)=some b:=by
    unfold aCh at hb ⊢
    rwa [List.getLast?_cons_cons]at hb
   exact h2 b hb
theorem bFe(l:cE):hdS (aGk l)=hdS l/\ltS (aGk l)=ltS l:=by
 unfold aGk;cases l with
 | nil=>exact⟨rfl,rfl⟩
 | cons x xs=>
  simp only;rcases gH xs with rfl | ⟨m,z,rfl⟩
  .exact⟨rfl,rfl⟩
  .have e:((x.1,(0:Int),x.2.2)::(m++[z]):cE)=((x.1,(0:Int),x.2.2)::m)++[z]:=rfl;rw[e,cHs];simp only;rw[cIa,aK3];refine⟨rfl,?_⟩;rw[show (x::(m++[z]):cE)=(x::m)++[z] from rfl,aK3]
theorem aKj{p:lPp}{a b:Int}(ha:aHy p=some a)(hb:aCh p=some b):ends p=(a,b):=by
 cases p with
 | nil=>cases ha
 | cons x p=>
  have ha:aIq x.2.2.2=some a:=ha;obtain⟨g1,g2⟩:=aV7 false x x.2.2.2 0 [];have g1:ltS (jW false x [])=_:=g1;have g2:hdS (jW false x [])=aIq x.2.2.2:=g2;have hne:jW false x []≠[]:=λe=>by rw[e]at g2;rw[<- g2]at ha;cases ha
  obtain⟨h1,h2⟩:=bCm p 1 (jW false x []) hne;have e0:aBd (x::p)=bO (λk x a=>jW (decide (0<k)) x a) 1 p (jW false x []):=rfl;have f1:hdS (fD (x::p))=some a:=by
   unfold fD;rw[(bFe _).1,e0,h1,g2,ha]
  have f2:ltS (fD (x::p))=some b:=by
   unfold fD;rw[(bFe _).2,e0];cases p with
   | nil=>
    have hb:aC9 x.2.2.2=some b:=hb;show ltS (jW false x [])=some b;rw[g1,zS (λe=>by rw[e]at hb;cases hb),hb]
   | cons y p=>
    have hb:aCh (y::p)=some b:=by
     unfold aCh at hb ⊢
     rwa [List.getLast?_cons_cons]at hb
    exact h2 b hb
  unfold ends;unfold hdS at f1;unfold ltS at f2;obtain⟨u,hu,eu⟩:=cGs.1 f1;obtain⟨v,hv,ev⟩:=cGs.1 f2;rw[hu,hv];simp only;rw[eu,ev]
theorem aW2(x:den tPp):aIq (pJ x).2.2.2=aC9 x.2.2.2/\aC9 (pJ x).2.2.2=aIq x.2.2.2:=by
 unfold pJ aIq aC9;simp only[List.head?_reverse,List.getLast?_reverse,and_self]
theorem aI2(p:lPp):aHy (kA p)=aCh p/\aCh (kA p)=aHy p:=by
 unfold kA aHy aCh;rw[List.head?_map,List.getLast?_map,List.head?_reverse,List.getLast?_reverse];constructor
 .cases p.getLast? with
  | none=>rfl
  | some x=>exact (aW2 x).1
 .cases p.head? with
  | none=>rfl
  | some x=>exact (aW2 x).2
theorem aU7{α:Type}(p:α->α->Bool)(hp:∀x y,p x y=true->x=y):∀{a b:List α},a.length=b.length->aJ8 p a b=true->a=b
 | [],[],_,_=>rfl
 | [],_::_,h,_=>by simp at h
 | _::_,[],h,_=>by simp at h
 | x::a,y::b,h,e=>by
  simp only[aJ8,cFw]at e;rw[hp x y e.1,aU7 p hp (by simpa using h) e.2]
theorem bE8(b:Bool):cond b true false=b:=by cases b<;>rfl
theorem bSg{a b:cR}(h:aTg a b=true):a=b:=by
 unfold aTg at h
 by_cases hl:a.length=b.length
 .rw[zX hl,cF0,zY,bE8]at h;refine aU7 _ (λx y e=> ?_) hl h;simp only[cFw,beq_iff_eq,and_true]at e;obtain⟨e1,e2,e3,e4,e5⟩:=e;obtain⟨x1,x2,x3,x4,x5⟩:=x;obtain⟨y1,y2,y3,y4,y5⟩:=y;simp only at e1 e2 e3 e4 e5;rw[e1,e2,e3,e4,e5]
 .rw[zW hl]at h;cases h
theorem aZp{a b:Bool}:cond a b false=true↔a=true/\b=true:=by cases a<;>cases b<;>simp
theorem bMc{a b:den tPp}(h:aGd a b=true):a=b:=by
 unfold aGd at h;simp only[aZp,beq_iff_eq]at h;obtain⟨e1,e2,e3,e4⟩:=h;have e4:=bSg e4;obtain⟨x1,x2,x3,x4⟩:=a;obtain⟨y1,y2,y3,y4⟩:=b;simp only at e1 e2 e3 e4;rw[e1,e2,e3,e4]
theorem bQt{a b:lPp}(h:aD6 a b=true):a=b:=by
 unfold aD6 at h
 by_cases hl:a.length=b.length
 .rw[zX hl,cF0,zY,bE8]at h;exact aU7 _ (λx y e=>bMc e) hl h
 .rw[zW hl]at h;cases h
theorem bS7{a b:den tPk}(ha:gE a)(hb:gE b)(h:aCz a b=true):a=b:=by
 unfold aCz at h;simp only[aZp,beq_iff_eq]at h;obtain⟨e1,e2,e3,e4,e5,e6,e7,e8,e9,e10⟩:=h;have e4:=bQt e4;have e10:=(bMq ha hb).1 e10;obtain⟨x1,x2,x3,x4,x5,x6,x7,x8,x9,x10⟩:=a;obtain⟨y1,y2,y3,y4,y5,y6,y7,y8,y9,y10⟩:=b;simp only at e1 e2 e3 e4 e5 e6 e7 e8 e9 e10;rw[e1,e2,e3,e4,e5,e6,e7,e8,e9,e10]
theorem eqI{a b:Int}(h:a=b):a=b:=h
theorem ltI{a b:Int}(h:a<b):a<b:=h
theorem leI{a b:Int}(h:a<=b):a<=b:=h
structure aAe (t:den tTo) (f:den tFl) (x:den tIb):Prop where
 val:iR f=true
 src:dE t f.1=true
 dst:dE t f.2.1=true
 xAS:x.1=f.2.1
 xFrom:x.2.1=f.1
 next:x.2.2.1=(x.2.2.2.length:Int)
 recv:x.2.2.2=f.2.2.2.2.1.take x.2.2.2.length
 len:x.2.2.2.length<=f.2.2.2.2.1.length
 ack:f.2.2.2.1<=(x.2.2.2.length:Int)
 paths:∀p∈f.2.2.2.2.2.1,aHy p=some f.1/\aCh p=some f.2.1
def pX(w:den tNw)(p:den tPk):Prop:= ∀(k:Nat) (f:den tFl) (x:den tIb),(aB w)[k]? =some f->(aR w)[k]? =some x->
 (p.1=(1:Int)->p.2.1=f.1->p.2.2.1=f.2.1->aHy p.2.2.2.1=some f.1/\aCh p.2.2.2.1=some f.2.1/\ ∃s:Nat,p.2.2.2.2.2.2.2.2.1=(s:Int)/\f.2.2.2.2.1[s]? =some p.2.2.2.2.2.2.2.2.2)/\
 (p.1=(2:Int)->p.2.1=f.2.1->p.2.2.1=f.1->p.2.2.2.2.2.2.2.2.1<x.2.2.1)
def bDc(w:den tNw)(p:den tPk):Prop:=dD p=true->pX w p
structure cT (t:den tTo) (w:den tNw):Prop where
 top:nT w=t
 lenB:(aR w).length=(aB w).length
 flow:∀(k:Nat) (f:den tFl) (x:den tIb),(aB w)[k]? =some f->(aR w)[k]? =some x->aAe t f x
 uniq:(aB w).Pairwise λf g=>vV g f=false
 good:∀y∈aI w,bDc w y.2.2
 to:∀y∈aI w,dE t y.1=true
structure aRj (w w':den tNw):Prop where
 flow:∀(k:Nat) (f':den tFl),(aB w')[k]? =some f'-> ∃f,(aB w)[k]? =some f/\f'.1=f.1/\f'.2.1=f.2.1/\ ∀(s:Nat) (m:List Int),f.2.2.2.2.1[s]? =some m->f'.2.2.2.2.1[s]? =some m
 box:∀(k:Nat) (x':den tIb),(aR w')[k]? =some x'-> ∃x,(aR w)[k]? =some x/\x.2.2.1<=x'.2.2.1
theorem aRj.refl(w:den tNw):aRj w w:=⟨λk f h=>⟨f,h,rfl,rfl,λ_ _ h=>h⟩,λk x h=>⟨x,h,cGx _⟩⟩
theorem pX.grow{w w':den tNw}{p:den tPk}(h:pX w p)(g:aRj w w'):pX w' p:=λk f' x' hf hx=>by
 obtain⟨f,hf0,e1,e2,e3⟩:=g.flow k f' hf;obtain⟨x,hx0,e4⟩:=g.box k x' hx;obtain⟨h1,h2⟩:=h k f x hf0 hx0;rw[e1,e2];refine⟨λa b c=> ?_,λa b c=>Int.lt_of_lt_of_le (h2 a b c) e4⟩;obtain⟨q1,q2,s,q3,q4⟩:=h1 a b c;exact⟨q1,q2,s,q3,e3 s _ q4⟩
theorem pX.goTo{w:den tNw}{p:den tPk}(h:pX w p)(i j b:Int):pX w (goTo p i j b):=h
theorem aNu{w:den tNw}{p:den tPk}(h:p.1=(3:Int)):pX w p:=λk f x _ _=>⟨λe=>absurd (h.symm.trans e) (by decide),λe=>absurd (h.symm.trans e) (by decide)⟩
theorem cT.same{t:den tTo}{w w':den tNw}(h:cT t w)(e1:nT w'=nT w)(e2:aB w'=aB w)(e3:aR w'=aR w)(e4:∀y∈aI w',y∈aI w\/(pX w y.2.2/\dE t y.1=true)):cT t w':=by
 have g:aRj w w':=⟨λk f h=>⟨f,by rw[<- e2];exact h,rfl,rfl,λ_ _ h=>h⟩,λk x h=>⟨x,by rw[<- e3];exact h,cGx _⟩⟩
 refine⟨e1.trans h.top,by rw[e2,e3];exact h.lenB,λk f x hf hx=>h.flow k f x (by rw[<- e2];exact hf) (by rw[<- e3];exact hx),by rw[e2];exact h.uniq,λy hy=> ?_,λy hy=> ?_⟩
 .rcases e4 y hy with hy | ⟨hy,_⟩
  .exact λhv=>(h.good y hy hv).grow g
  .exact λ_=>hy.grow g
 .rcases e4 y hy with hy | ⟨_,hy⟩
  .exact h.to y hy
  .exact hy
theorem cT.drop{t:den tTo}{w:den tNw}(h:cT t w):cT t (wP w):=h.same rfl rfl rfl λy hy=> .inl hy
theorem cT.map{t:den tTo}{w:den tNw}(h:cT t w){l:lFl}(hl:l.length=(aB w).length)
  (hm:∀(k:Nat) (f':den tFl),l[k]? =some f'-> ∃f,(aB w)[k]? =some f/\f'.1=f.1/\f'.2.1=f.2.1/\(∀(s:Nat) (m:List Int),f.2.2.2.2.1[s]? =some m->f'.2.2.2.2.1[s]? =some m)/\ ∀x,(aR w)[k]? =some x->aAe t f x->aAe t f' x):cT t (bS w l):=by
 have g:aRj w (bS w l):=⟨λk f' hf=>by
  obtain⟨f,a,b,c,d,_⟩:=hm k f' hf;exact⟨f,a,b,c,d⟩,λk x h=>⟨x,h,cGx _⟩⟩
 refine⟨h.top,by show (aR w).length=l.length;rw[hl];exact h.lenB,λk f' x hf hx=> ?_,?_,λy hy hv=>(h.good y hy hv).grow g,h.to⟩
 .obtain⟨f,a,_,_,_,e⟩:=hm k f' hf;exact e x hx (h.flow k f x a hx)
 .show l.Pairwise _;rw[cH1];intro i j hi hj hij;obtain⟨f,a,b,c,_⟩:=hm i l[i] (cFx hi);obtain⟨f',a',b',c',_⟩:=hm j l[j] (cFx hj);obtain⟨hi',ei⟩:=cFz.1 a;obtain⟨hj',ej⟩:=cFz.1 a';have :=(cH1.1 h.uniq) i j hi' hj' hij;rw[ei,ej]at this;unfold vV at this ⊢;rw[b,c,b',c'];exact this
theorem cT.one{t:den tTo}{w:den tNw}(h:cT t w){i j:Nat}{f g:den tFl}(hf:(aB w)[i]? =some f)(hg:(aB w)[j]? =some g)(e1:f.1=g.1)(e2:f.2.1=g.2.1):i=j:=by
 obtain⟨hi,ei⟩:=cFz.1 hf;obtain⟨hj,ej⟩:=cFz.1 hg;have hs:∀a b:den tFl,a.1=b.1->a.2.1=b.2.1->vV b a=true:=λa b x y=>by
  unfold vV;rw[x,y];simp
 rcases Nat.lt_trichotomy i j with c | c | c
 .have :=(cH1.1 h.uniq) i j hi hj c;rw[ei,ej,hs f g e1 e2]at this;cases this
 .exact c
 .have :=(cH1.1 h.uniq) j i hj hi c;rw[ei,ej,hs g f e1.symm e2.symm]at this;cases this
theorem bK4{t:den tTo}{f:den tFl}{x:den tIb}{p:den tPk}(h:aAe t f x)(hp:aEf f p=true->p.2.2.2.2.2.2.2.2.1<x.2.2.1):aAe t (kG f p) x:=by
 unfold kG;split
 .rename_i ha;have hs:=hp ha;unfold aEf at ha;simp only[cFw,beq_iff_eq]at ha;obtain⟨_,_,_,h4,h5⟩:=ha;obtain⟨h6,h7⟩:=aV.1 h5;have hn:=h.next
  have hv:=(mU f).1 h.val;have hm:f.2.2.2.2.1.length<=20:=hv.2.2.2.2.1;have e:wr (f.2.2.2.1+1)=f.2.2.2.1+1:=bE (by omega) (by omega);rw[e];refine⟨?_,h.src,h.dst,h.xAS,h.xFrom,h.next,h.recv,h.len,?_,h.paths⟩
  .rw[mU];obtain⟨q1,q2,q3,q4,q5,q6,q7,q8,q9,q10,q11,q12⟩:=hv;exact⟨q1,q2,q3,q4,q5,aV.2 ⟨by show (0:Int)<=f.2.2.2.1+1;omega,by show (f.2.2.2.2.1.length:Int)>=f.2.2.2.1+1;omega⟩,q7,q8,q9,q10,rfl,q12⟩
  .have e1:f.2.2.2.1<x.2.2.1:=h4▸hs;rw[hn]at e1;exact Int.add_one_le_of_lt e1
 .exact h
theorem bGz{t:den tTo}{f:den tFl}{x:den tIb}{p:den tPk}(h:aAe t f x):aAe t (iY f p) x:=by
 unfold iY;cases p.1==3&&(qW p.2.2.2.2.2.2.2.2.2).2.2.2 with
 | false=>exact h
 | true=>
  rw[zZ];have hv:=(mU f).1 h.val;refine⟨?_,h.src,h.dst,h.xAS,h.xFrom,h.next,h.recv,h.len,h.ack,h.paths⟩;rw[mU];obtain⟨q1,q2,q3,q4,q5,q6,q7,q8,q9,q10,q11,q12⟩:=hv;obtain⟨r1,r2⟩:=bRi (l:=f.2.2.2.2.2.2.2.2) (x:=tP p.2.2.2.2.2.2.2.2.2) ⟨q12,q9⟩;refine⟨q1,q2,q3,q4,q5,q6,q7,q8,r2,?_,?_,r1⟩
  .show cond _ _ _=(0:Int)\/inR (cond _ _ _) 0 _=true;cases aMx f (tP p.2.2.2.2.2.2.2.2.2) with
   | false=>exact q10
   | true=>exact bDf q7 q10
  .show inR (cond _ _ _) 0 4=true;cases aMx f (tP p.2.2.2.2.2.2.2.2.2) with
   | false=>exact q11
   | true=>rfl
theorem bL8(f:den tFl)(p:den tPk):(kG f p).1=f.1/\(kG f p).2.1=f.2.1/\(kG f p).2.2.2.2.1=f.2.2.2.2.1:=by
 unfold kG;split<;>exact⟨rfl,rfl,rfl⟩
theorem aXa(f:den tFl)(p:den tPk):(iY f p).1=f.1/\(iY f p).2.1=f.2.1/\(iY f p).2.2.2.2.1=f.2.2.2.2.1:=by
 unfold iY;cases p.1==3&&(qW p.2.2.2.2.2.2.2.2.2).2.2.2<;>exact⟨rfl,rfl,rfl⟩
theorem cT.tell{t:den tTo}{w:den tNw}{p:den tPk}(h:cT t w)(hg:pX w p)(r:Int):cT t (tI w r p):=by
 refine h.map (by simp) λk f' hf'=> ?_
 rw[cHz]at hf';obtain⟨f,hf,rfl⟩:=cGs.1 hf';have ht:(cX r p f).1=f.1/\(cX r p f).2.1=f.2.1/\(cX r p f).2.2.2.2.1=f.2.2.2.2.1:=by
  unfold cX;split
  .split
   .exact bL8 f p
   .exact aXa f p
  .exact⟨rfl,rfl,rfl⟩
 refine⟨f,hf,ht.1,ht.2.1,λs m hm=>by rw[ht.2.2];exact hm,λx hx hfx=> ?_⟩;unfold cX;split
 .split
  .refine bK4 hfx λha=> ?_
   unfold aEf at ha;simp only[cFw,beq_iff_eq]at ha;exact (hg k f x hf hx).2 ha.1 ha.2.1 ha.2.2.1
  .exact bGz hfx
 .exact hfx
theorem cT.send{t:den tTo}{w:den tNw}{p:den tPk}(h:cT t w)(hg:pX w p){r eg:Int}(hr:dE t (remote t r eg).1=true):cT t (gU w r eg p):=by
 unfold gU;split
 .refine h.same rfl rfl rfl λy hy=> ?_
  rcases cF6.1 (show y∈aI w++_ from hy) with hy | hy
  .exact .inl hy
  .have :y=_:=cF5.1 hy;subst this;exact .inr ⟨hg,by rw[h.top];exact hr⟩
 .exact h.drop
theorem bI1{t:den tTo}{w:den tNw}{k:Nat}{f:den tFl}{x:den tIb}{p:den tPk}(hf:(aB w)[k]? =some f)(hx:(aR w)[k]? =some x)(hg:pX w p)(h:aAe t f x):aAe t f (cO x p)/\x.2.2.1<=(cO x p).2.2.1:=by
 unfold cO;split
 .rename_i ht;unfold aSh vY at ht;simp only[cFw,beq_iff_eq,zR]at ht;obtain⟨⟨h1,h2,h3⟩,h4,h5⟩:=ht;obtain⟨_,_,s,g1,g2⟩:=(hg k f x hf hx).1 h1 (by rw[h2,h.xFrom]) (by rw[h3,h.xAS]);have hn:=eqI h.next
  have h5:=ltI h5;have h4':=eqI h4;have g1':=eqI g1;have hs:s=x.2.2.2.length:=by omega
  subst hs;obtain⟨hlt,he⟩:=cFz.1 g2;have e:wr (x.2.2.1+1)=((x.2.2.2.length+1:Nat):Int):=by
   rw[hn];exact eE (by omega)
  rw[e];have ha:=leI h.ack;refine⟨⟨h.val,h.src,h.dst,h.xAS,h.xFrom,by show ((x.2.2.2.length+1:Nat):Int)=((x.2.2.2++[_]).length:Int);simp,?_,?_,?_,h.paths⟩,?_⟩
  .show x.2.2.2++[p.2.2.2.2.2.2.2.2.2]=f.2.2.2.2.1.take (x.2.2.2++[p.2.2.2.2.2.2.2.2.2]).length;rw[cGh,cHf,List.take_add_one,g2,<- h.recv];rfl
  .show (x.2.2.2++[p.2.2.2.2.2.2.2.2.2]).length<=_;rw[cGh,cHf];omega
  .refine leI (a:=f.2.2.2.1) (b:=((x.2.2.2++[p.2.2.2.2.2.2.2.2.2]).length:Int)) ?_;rw[cGh,cHf];omega
  .refine leI (a:=x.2.2.1) (b:=((x.2.2.2.length+1:Nat):Int)) ?_;omega
 .exact⟨h,cGx _⟩
theorem cT.box{t:den tTo}{w:den tNw}{k:Nat}{x x':den tIb}(h:cT t w)(hx:(aR w)[k]? =some x)(hn:x.2.2.1<=x'.2.2.1)(hf:∀f,(aB w)[k]? =some f->aAe t f x'):cT t (oQ w k x')/\aRj w (oQ w k x'):=by
 have hk:k<(aR w).length:=(cFz.1 hx).1;have g:aRj w (oQ w k x'):=⟨λk f h=>⟨f,h,rfl,rfl,λ_ _ h=>h⟩,λj y hy=>by
  replace hy:((aR w).set k x')[j]? =some y:=hy;rw[cH3]at hy;split at hy
  .rename_i e;subst e
   try rw[zT hk]at hy
   injection hy with hy;subst hy;exact⟨x,hx,hn⟩
  .exact⟨y,hy,cGx _⟩⟩
 refine⟨⟨h.top,by show ((aR w).set k x').length=_;rw[cHm];exact h.lenB,λj f y hf' hy=> ?_,h.uniq,λy hy hv=>(h.good y hy hv).grow g,h.to⟩,g⟩;replace hy:((aR w).set k x')[j]? =some y:=hy;rw[cH3]at hy;split at hy
 .rename_i e;subst e
  try rw[zT hk]at hy
  injection hy with hy;subst hy;exact hf f hf'
 .exact h.flow j f y hf' hy
theorem bS6{t:den tTo}{w:den tNw}{k:Nat}{x:den tIb}{p:den tPk}(h:cT t w)(hk:∃f,(aB w)[k]? =some f)(hx:(aR w)[k]? =some x)(ha:aAl x p=true)(hg:pX w p):pX w (jV x p):=by
 obtain⟨f,hf⟩:=hk;have hfx:=h.flow k f x hf hx;unfold aAl vY at ha;simp only[cFw,beq_iff_eq,cGw,decide_eq_false_iff_not]at ha;obtain⟨⟨h1,h2,h3⟩,h4⟩:=ha;have e1:(p.2.1:Int)=f.1:=h2.trans hfx.xFrom;have e2:(p.2.2.1:Int)=f.2.1:=h3.trans hfx.xAS;obtain⟨p1,p2,_⟩:=(hg k f x hf hx).1 h1 e1 e2;have he:ends (kA p.2.2.2.1)=(f.2.1,f.1):=aKj ((aI2 _).1.trans p2) ((aI2 _).2.trans p1);have hm:jV x p=gF 2 (kA p.2.2.2.1) p.2.2.2.2.2.2.2.1 p.2.2.2.2.2.2.2.2.1 []:=by
  unfold jV;rw[zT (by
   unfold aAl vY;simp only[cFw,beq_iff_eq,cGw,decide_eq_false_iff_not];exact⟨⟨h1,h2,h3⟩,h4⟩)]
  rfl
 intro j g y hg' hy;refine⟨λe=> ?_,λ_ a b=> ?_⟩
 .rw[hm]at e;exact absurd e (show ¬ ((2:Int)=1) by decide)
 .rw[hm]at a b ⊢;have a:(ends (kA p.2.2.2.1)).1=g.2.1:=a;have b:(ends (kA p.2.2.2.1)).2=g.1:=b;rw[he]at a b;have hj:k=j:=h.one hf hg' b a;subst hj;have :some x=some y:=hx.symm.trans hy;injection this with this;subst this;exact Int.not_le.1 h4
theorem aZq{t:den tTo}{x:den tPp}(h:fU t x=true){k:Nat}{y:den bV}(hy:x.2.2.2[k]? =some y):dE t y.1=true/\(k=0\/aJ9 t x ((x.2.2.2[k - 1]?).getD h0) y=true):=by
 unfold fU at h;simp only[cFw]at h;obtain⟨_,_,_,_,h5,h6⟩:=h;have a:=(aAt (aD2 t x.2.2.2) x.2.2.2).1 h5 k y hy;have b:=(aAt (aAo t x) x.2.2.2).1 h6 k y hy;unfold aD2 at a;unfold aAo at b;simp only[cFw]at a;rw[cHi,zR]at b;exact⟨a.2.1,b⟩
theorem cBx{t:den tTo}{p:den tPk}(hw:wfP t p.2.2.2.1=true)(hh:cI p=true)(hz:0<=cA p)(hl:cS p=true)(ha:dJ p=false):cA (adv p)=cA p/\(adv p).2.2.2.2.1=p.2.2.2.2.1+1/\(adv p).2.2.2.1=p.2.2.2.1:=by
 obtain⟨i,e1,e2⟩:=aVk hh hz hl ha;obtain⟨i',j,f1,f2,f3,f4,f5⟩:=gD hh;have f1':=eqI f1;have :i'=i:=by have :=eqI (f1.symm.trans e1);omega
 subst this;have e:adv p=goTo p (p.2.2.2.2.1+1) 0 (sD p).2.2.1:=by
  unfold adv;rw[ha,hl,zW (show ¬ cA p<0 by omega)];rfl
 rw[e];refine⟨?_,rfl,rfl⟩;obtain⟨v1,v2⟩:=aVv hw e2;obtain⟨u1,_⟩:=aVv hw f3;have hj:aLa (bG p) (sD p)=true:=by
  rcases v2 with v2 | v2
  .omega
  .rw[show i'+1 - 1=i' by omega,f3]at v2;exact v2
 unfold aLa at hj;rw[cFw,beq_iff_eq]at hj;have hp:=aZh v1;have hq:=aZh u1;have hhd:(sD p).2.2.2[0]? =some (aEk (sD p)):=by
  unfold aEk;rw[cFx hp];rfl
 have hjl:j=(bG p).2.2.2.length - 1:=by
  unfold cS at hl;rw[beq_iff_eq,f2]at hl;have hl:=eqI hl;omega
 have hlt:aB8 (bG p)=cW p:=by
  unfold aB8;rw[<- hjl,f4];rfl
 have hn:cI (goTo p (p.2.2.2.2.1+1) 0 (sD p).2.2.1)=true/\bG (goTo p (p.2.2.2.2.1+1) 0 (sD p).2.2.1)=sD p/\cW (goTo p (p.2.2.2.2.1+1) 0 (sD p).2.2.1)=aEk (sD p):=by
  have en:(p.2.2.2.2.1+1).toNat=i'+1:=by rw[f1];omega
  have a:bG (goTo p (p.2.2.2.2.1+1) 0 (sD p).2.2.1)=sD p:=by
   show (p.2.2.2.1[(p.2.2.2.2.1+1).toNat]?).getD pt0=_;rw[en,e2];rfl
  refine⟨?_,a,?_⟩
  .have hlen:=(cFz.1 e2).1;show (inR (p.2.2.2.2.1+1) 0 ((p.2.2.2.1.length:Int) - 1)&&inR (0:Int) 0 (((((p.2.2.2.1[(p.2.2.2.2.1+1).toNat]?).getD (0,0,0,[])).2.2.2.length:Nat):Int) - 1))=true;rw[en,e2,f1,cFw];refine⟨aV.2 ⟨by omega,by omega⟩,aV.2 ⟨by omega,?_⟩⟩;show (0:Int)<=((sD p).2.2.2.length:Int) - 1;omega
  .unfold cW;rw[a];show ((sD p).2.2.2[(0:Int).toNat]?).getD h0=_;rw[show (0:Int).toNat=0 from rfl,hhd];rfl
 obtain⟨_,_,_,_,_,_,g⟩:=gD hn.1;rw[g,hn.2.2,<- hj.2,hlt,<- f5]
theorem aQ3{t:den tTo}{now:Int}:∀(n:Nat) (p:den tPk),wfP t p.2.2.2.1=true->p.2.2.2.2.1+(n:Int)=(p.2.2.2.1.length:Int)->(goC t now n p).1=0->(cS (goC t now n p).2=false\/dJ (goC t now n p).2=true)/\cA (goC t now n p).2=cA p/\(goC t now n p).2.2.2.2.1=p.2.2.2.1
 | 0,p,hw,hn,h=>by
  exfalso;obtain⟨h1,h2⟩:=vN (show cN t now p=0 from h);obtain⟨i,j,f1,_,f3,_⟩:=gD h1;have :=(cFz.1 f3).1;have hn:=eqI hn;have f1:=eqI f1;omega
 | n+1,p,hw,hn,h=>by
  have hc0:=xH h;obtain⟨h1,h2⟩:=vN hc0;obtain⟨s1,s2,_,_,s5,s6⟩:=(uQ t p).cur;have sp:(sealed t p).2.2.2.1=p.2.2.2.1:=(uQ t p).1;have si:(sealed t p).2.2.2.2.1=p.2.2.2.2.1:=(uQ t p).2.1;unfold goC at h|-;split at h
  .rename_i hc;rw[zT hc];simp only[cFw,cGw]at hc;obtain⟨a1,a2,a3⟩:=cBx (t:=t) (p:=sealed t p) (by rw[sp];exact hw) (s1.trans h1) (by rw[s2];exact h2) hc.2.1 hc.2.2;obtain⟨b1,b2,b3⟩:=aQ3 n (adv (sealed t p)) (by rw[a3,sp];exact hw) (by rw[a2,a3,si,sp];refine eqI ?_;have hn:=eqI hn;omega) h;exact⟨b1,b2.trans (a1.trans s2),b3.trans (a3.trans sp)⟩
  .rename_i hc;rw[zS hc];refine⟨?_,s2,sp⟩;rw[hc0]at hc;show cS (sealed t p)=false\/dJ (sealed t p)=true;cases hl:cS (sealed t p) with
   | false=>exact .inl rfl
   | true=>
    right;rw[hl]at hc;simpa using hc
theorem aXs{t:den tTo}{now:Int}{dead:List Int}{r inn:Int}{p:den tPk}(h:((aG t now dead r inn p).1==0)=true):dE t (remote t r (aG t now dead r inn p).2.1).1=true:=by
 have h:(fwd t r now (dI t dead r) inn p).1=0:=eq_of_beq (show ((fwd t r now (dI t dead r) inn p).1==0)=true from h);unfold aG;unfold fwd at h|-;split at h
 .exact absurd h (show ¬ ((2:Int)=0) by decide)
 rename_i c1;rw[zS c1];split at h
 .exact absurd h (show ¬ ((3:Int)=0) by decide)
 rename_i c2;rw[zS c2];split at h
 .rename_i c3;simp only[cGw,beq_eq_false_iff_ne]at c3;exact absurd h c3
 rename_i c3;rw[zS c3];split at h
 .split at h<;>first | exact absurd h (show ¬ ((1:Int)=0) by decide) | exact absurd h (show ¬ ((2:Int)=0) by decide)
 rename_i c4;rw[zS c4];split at h
 .exact absurd h (show ¬ ((6:Int)=0) by decide)
 rename_i c5;rw[zS c5];split at h
 .exact absurd h (show ¬ ((7:Int)=0) by decide)
 rename_i c6;rw[zS c6];simp only[cHi,cGw,not_or,Bool.not_eq_false,beq_iff_eq]at c1 c3 c4;obtain⟨v1,v2,v3⟩:=c1;have hw:wfP t p.2.2.2.1=true:=by
  unfold nP at v2;rw[cFw]at v2;exact v2.1
 have hh:cI p=true:=by
  unfold dD at v1;simp only[cFw]at v1;exact v1.2.2.1
 obtain⟨i,j,f1,_,f3,_⟩:=gD hh;have hlen:=(cFz.1 f3).1;obtain⟨b1,b2,b3⟩:=aQ3 (t:=t) (now:=now) (p.2.2.2.1.length - p.2.2.2.2.1.toNat) p hw (by rw[f1,cF2];refine eqI ?_;omega) c3;obtain⟨q1,q2,_⟩:=aCa (t:=t) (now:=now) (p.2.2.2.1.length - p.2.2.2.2.1.toNat) p c3;show dE t (remote t r (pEg (bG (aX t now p).2) (cW (aX t now p).2))).1=true;have e:aX t now p=goC t now (p.2.2.2.1.length - p.2.2.2.2.1.toNat) p:=rfl;have c4:dJ (aX t now p).2=false:=by simpa using c4
 rw[<- e]at b1 b2 b3 q1 q2;generalize (aX t now p).2=q at *;have hl:cS q=false:=b1.elim id λh=>by rw[c4]at h;cases h
 obtain⟨a,b,g1,g2,g3,g4,g5⟩:=gD q1;have b3:(q.2.2.2.1:lPp)=p.2.2.2.1:=b3;have g3':(p.2.2.2.1:lPp)[a]? =some (bG q):=by rw[<- b3];exact g3
 obtain⟨w1,_⟩:=aVv hw g3';have hb:=(cFz.1 g4).1;have hb2:b+1<(bG q).2.2.2.length:=by
  unfold cS at hl;rw[g2,beq_eq_false_iff_ne]at hl;have hl: ¬ ((b:Int)=((bG q).2.2.2.length:Int) - 1):=hl;omega
 obtain⟨y1,y2⟩:=aZq w1 (cFx hb2);rcases y2 with y2 | y2
 .omega
 .rw[show b+1 - 1=b by omega,g4]at y2;unfold aJ9 at y2;simp only[cFw,beq_iff_eq,cGy]at y2;have er:r=(cW q).1:=by
   have :=v3;rw[<- g5,b2];exact this.symm
  rw[er,y2.2.1];exact y1
theorem aD7{w:den tNw}{t:den tTo}{now:Int}{dead:List Int}{r inn:Int}{p:den tPk}(h:pX w p):pX w (aG t now dead r inn p).2.2.1:=by
 obtain⟨i,j,b,e⟩:=aIc t r now (dI t dead r) inn p;unfold aG;rw[e];exact h.goTo i j b
theorem aX8{t:den tTo}{w:den tNw}{r inn:Int}{p:den tPk}(h:cT t w)(hg:pX w p):cT t (proc0 w r inn p):=by
 unfold proc0;split
 .rename_i hc;exact h.send (aD7 hg) (by rw[<- h.top];exact aXs hc)
 .split
  .exact h.tell (aD7 hg) r
  .exact h.drop
theorem bPx{t:den tTo}{w:den tNw}{r:Int}{p:den tPk}(h:cT t w)(hg:pX w p):cT t (qX w r p):=by
 unfold qX;split
 .exact h
 .rename_i hc;rcases aLe (aR w) r p.2.1 with hf | ⟨k,x,hf,hx⟩
  .rw[hf]at hc;exact absurd (by decide) hc
  .have hba:jD w k=x:=by unfold jD;rw[hx];rfl
   rw[hf,cF2,hba];have hk:=(cFz.1 hx).1;have hkf:k<(aB w).length:=by rw[<- h.lenB];exact hk
   have hfl:(aB w)[k]? =some (aB w)[k]:=cFx hkf;obtain⟨d1,d2⟩:=bI1 hfl hx hg (h.flow k _ x hfl hx);obtain⟨b1,b2⟩:=h.box hx d2 (λf hf'=>by
    have :some f=some (aB w)[k]:=hf'.symm.trans hfl;injection this with this;rw[this];exact d1)
   split
   .rename_i ha;refine aX8 b1 (bS6 b1 ⟨_,hfl⟩ ?_ ha (hg.grow b2));show ((aR w).set k (cO x p))[k]? =_;rw[cIo hk]
   .exact b1
theorem aI7{t:den tTo}{w:den tNw}{r inn:Int}{p:den tPk}(h:cT t w)(hg:bDc w p):cT t (dM w r inn p):=by
 cases hv:dD p with
 | false=>rw[aWk hv];exact h.drop
 | true=>
  have hg:=hg hv;unfold dM;split
  .rename_i hc;exact h.send (aD7 hg) (by rw[<- h.top];exact aXs hc)
  .split
   .split
    .exact bPx h (aD7 hg)
    .exact h.tell (aD7 hg) r
   .split
    .unfold tQ;split
     .exact (aX8 h (aNu rfl)).drop
     .exact (h.tell (aNu rfl) r).drop
    .exact h.drop
theorem aDk(f:den tFl):∃c wt:Int,(aD f).1=setCW f c wt/\((aD f).2.2=true->(aD f).2.1=mV (setCW f c wt)/\sends (setCW f c wt)=true):=by
 unfold aD;split
 .rename_i hs;split
  .exact⟨_,_,rfl,λ_=>⟨rfl,hs⟩⟩
  .split
   .exact⟨_,_,rfl,λh=>⟨rfl,h⟩⟩
   .exact⟨_,_,rfl,λh=>by cases h⟩
 .exact⟨_,_,rfl,λh=>by cases h⟩
theorem cT.set{t:den tTo}{w:den tNw}(h:cT t w){k:Nat}{f g:den tFl}(hf:(aB w)[k]? =some f)(e1:g.1=f.1)(e2:g.2.1=f.2.1)(e3:∀(s:Nat) (m:List Int),f.2.2.2.2.1[s]? =some m->g.2.2.2.2.1[s]? =some m)(e4:∀x,aAe t f x->aAe t g x):cT t (bS w ((aB w).set k g)):=by
 refine h.map (by simp) λj f' hf'=> ?_
 rw[cH3]at hf';split at hf'
 .rename_i e;subst e;rw[zT (cFz.1 hf).1]at hf';injection hf' with hf';subst hf';exact⟨f,hf,e1,e2,e3,λx _=>e4 x⟩
 .exact⟨f',hf',rfl,rfl,λ_ _ h=>h,λx _ h=>h⟩
theorem aXw{t:den tTo}{w:den tNw}{k:Nat}{g:den tFl}(h:cT t w)(hg:(aB w)[k]? =some g)(hs:sends g=true):pX w (mV g):=by
 have hk:k<(aR w).length:=by rw[h.lenB];exact (cFz.1 hg).1
 have hfi:=h.flow k g _ hg (cFx hk);have hs':=hs;unfold sends at hs';rw[cFw]at hs';obtain⟨a0,a1⟩:=aV.1 hs'.1;obtain⟨b0,b1⟩:=aV.1 hs'.2;have hc:g.2.2.2.2.2.2.1.toNat<g.2.2.2.2.2.1.length:=by omega
 have ha:g.2.2.2.1.toNat<g.2.2.2.2.1.length:=by omega
 have hpth:g.2.2.2.2.2.1[g.2.2.2.2.2.2.1.toNat]? =some (g.2.2.2.2.2.1[g.2.2.2.2.2.2.1.toNat]'hc):=cFx hc;have hmsg:g.2.2.2.2.1[g.2.2.2.1.toNat]? =some (g.2.2.2.2.1[g.2.2.2.1.toNat]'ha):=cFx ha;obtain⟨p1,p2⟩:=hfi.paths _ (cF9 hpth);have he:=aKj p1 p2;have e:mV g=gF 1 (g.2.2.2.2.2.1[g.2.2.2.2.2.2.1.toNat]'hc) g.2.2.1 g.2.2.2.1 (g.2.2.2.2.1[g.2.2.2.1.toNat]'ha):=by
  unfold mV;rw[zT hs,hpth,hmsg];rfl
 rw[e];intro j f x hf hx;refine⟨λ_ a b=> ?_,λa=>absurd a (show ¬ ((1:Int)=2) by decide)⟩;have a:(ends (g.2.2.2.2.2.1[g.2.2.2.2.2.2.1.toNat]'hc)).1=f.1:=a;have b:(ends (g.2.2.2.2.2.1[g.2.2.2.2.2.2.1.toNat]'hc)).2=f.2.1:=b;rw[he]at a b;have hj:k=j:=h.one hg hf a b;subst hj;have :some g=some f:=hg.symm.trans hf;injection this with this;subst this;exact⟨p1,p2,g.2.2.2.1.toNat,(Int.toNat_of_nonneg b0).symm,hmsg⟩
theorem aO9{t:den tTo}{w:den tNw}(k:Nat)(h:cT t w):cT t (stepT k w):=by
 unfold stepT;split
 .rename_i f hf;obtain⟨c,wt,e1,e2⟩:=aDk f;have hset:cT t (bS w ((aB w).set k (aD f).1)):=by
   refine h.set hf (by rw[e1];rfl) (by rw[e1];rfl) (λs m hm=>by rw[e1];exact hm) λx hx=> ?_
   have hv:=aXj hx.val;rw[e1]at hv ⊢;exact⟨hv,hx.src,hx.dst,hx.xAS,hx.xFrom,hx.next,hx.recv,hx.len,hx.ack,hx.paths⟩
  split
  .rename_i hb;obtain⟨g1,g2⟩:=e2 hb;rw[<- e1]at g1 g2;refine aI7 hset λ_=> ?_
   rw[g1];refine aXw hset (k:=k) ?_ g2;show ((aB w).set k _)[k]? =_;rw[cIo (cFz.1 hf).1]
  .exact hset
 .exact h
theorem aX5{t:den tTo}:∀(n k:Nat) {w:den tNw},cT t w->cT t (tickL k n w)
 | 0,_,_,h=>h
 | n+1,k,_,h=>aX5 n (k+1) (aO9 k h)
theorem aYd{t:den tTo}{w:den tNw}(h:cT t w):cT t (cZ w):=by
 unfold cZ;split
 .exact h
 .exact aX5 _ _ (h.same (w':=tick0 w) rfl rfl rfl λy hy=> .inl hy)
theorem bX5{t:den tTo}{w:den tNw}{k:Nat}{f:den tFl}{b:List Int}(h:cT t w)(hf:(aB w)[k]? =some f):cT t (bS w ((aB w).set k (aD9 f b))):=by
 unfold aD9;split
 .rename_i hv;refine h.set hf rfl rfl (λs m hm=> ?_) λx hx=> ?_
  .show (f.2.2.2.2.1++[b])[s]? =some m;rw[cJc (cFz.1 hm).1];exact hm
  .refine⟨hv,hx.src,hx.dst,hx.xAS,hx.xFrom,hx.next,?_,?_,hx.ack,hx.paths⟩
   .show x.2.2.2=(f.2.2.2.2.1++[b]).take _;rw[List.take_append_of_le_length hx.len];exact hx.recv
   .show x.2.2.2.length<=(f.2.2.2.2.1++[b]).length;have :=hx.len;rw[cGh];omega
 .exact h.set hf rfl rfl (λ_ _ h=>h) λ_ h=>h
theorem bN0{t:den tTo}{w:den tNw}{e:den gA}(h:cT t w)(hb:∀x∈aI w,gE x.2.2)(hp:gE e.2.2.2.2.2)(h7:(e.1==(7:Int))=true)(hh:harm w e=true):bDc w e.2.2.2.2.2:=by
 intro hv;unfold harm wF at hh;rw[h7,hv]at hh;cases h3:(e.2.2.2.2.2.1==(3:Int)) with
 | true=>exact aNu (eq_of_beq h3)
 | false=>
  rw[h3]at hh;simp only[cF0,cHj,zY]at hh;cases ha:w.2.2.2.2.2.1.all (λx=> !aCz x.2.2 e.2.2.2.2.2) with
  | true=>
   rw[ha,zZ,cGm]at hh;intro k f x hf hx;have :=hh f (cF9 hf);unfold aCb at this;refine⟨λ_ a b=> ?_,λ_ a b=> ?_⟩
   .rw[a,b]at this;simp at this
   .rw[a,b]at this;simp at this
  | false=>
   rw[List.all_eq_false]at ha;obtain⟨x,hx,he⟩:=ha;have hx:x∈aI w:=hx;have he:aCz x.2.2 e.2.2.2.2.2=true:=by simpa using he
   have :=bS7 (hb x hx) hp he;rw[<- this];exact h.good x hx (by rw[this];exact hv)
theorem bYs{t:den tTo}{w:den tNw}{e:den gA}(h:cT t w)(hb:∀x∈aI w,gE x.2.2)(hp:gE e.2.2.2.2.2)(hh:harm w e=true):cT t (doW w e).2:=by
 have aX:∀i,cT t (yQ w i):=λi=>h.same (w':=yQ w i) rfl rfl rfl λy hy=> .inl (by
  rcases cF6.1 (show y∈(aI w).take i++(aI w).drop (i+1) from hy) with hy | hy
  .exact cHk hy
  .exact List.mem_of_mem_drop hy)
 unfold doW;split
 .exact aYd h
 .split
  .split
   .rename_i x hi hx;exact aI7 (aX _) (h.good x (cF9 hx))
   .exact h
  .split
   .split
    .exact (aX _).drop
    .exact h
   .split
    .split
     .rename_i x hi hx;have hm:=cF9 hx;refine⟨h.top,h.lenB,h.flow,h.uniq,λy hy=> ?_,λy hy=> ?_⟩
      .rcases cF6.1 (show y∈aI w++[x] from hy) with hy | hy
       .exact h.good y hy
       .rw[cF5.1 hy];exact h.good x hm
      .rcases cF6.1 (show y∈aI w++[x] from hy) with hy | hy
       .exact h.to y hy
       .rw[cF5.1 hy];exact h.to x hm
     .exact h
    .split
     .show cT t (tJ w e.2.1 (e.1==5));unfold tJ;split
      .exact h
      .exact h.same rfl rfl rfl λy hy=> .inl hy
     .split
      .rename_i h7;split
       .rename_i hc;rw[cFw]at hc;have hgd:=bN0 h hb hp h7 hh;refine⟨h.top,h.lenB,h.flow,h.uniq,λy hy=> ?_,λy hy=> ?_⟩
        .rcases cF6.1 (show y∈aI w++[e.2.2.2] from hy) with hy | hy
         .exact h.good y hy
         .rw[cF5.1 hy];exact hgd
        .rcases cF6.1 (show y∈aI w++[e.2.2.2] from hy) with hy | hy
         .exact h.to y hy
         .rw[cF5.1 hy,<- h.top];exact hc.1
       .exact h
      .split
       .split
        .rename_i f hi hf;exact bX5 h hf
        .exact h
       .exact h
def cM(l:Nat)(n:Nat)(w:den tNw):Prop:=(l:Int)<=dR w/\(n:Int)>=dR w
abbrev bVr(n:Nat)(w:den tNw):Prop:=cM 0 n w
theorem cM.mono{l:Nat}{n m:Nat}{w:den tNw}(h:cM l n w)(hm:n<=m):cM l m w:=⟨h.1,by have :=h.2;omega⟩
theorem cM.eq{l:Nat}{n:Nat}{w w':den tNw}(h:cM l n w)(e:dR w'=dR w):cM l n w':=by
 unfold cM;rw[e];exact h
theorem cM.drop{l:Nat}{n:Nat}{w:den tNw}(h:cM l n w)(hn:n<=1000000000):cM l (n+1) (wP w):=by
 obtain⟨h0,h1⟩:=h;have e:wr (dR w+1)=dR w+1:=bE (by omega) (by omega);exact⟨by show (l:Int)<=wr (dR w+1);omega,by show ((n+1:Nat):Int)>=wr (dR w+1);omega⟩
theorem cM.send{l:Nat}{n:Nat}{w:den tNw}(h:cM l n w)(hn:n<=1000000000)(r eg:Int)(p:den tPk):cM l (n+1) (gU w r eg p):=by
 unfold gU;split
 .exact h.mono (cGz _)
 .exact h.drop hn
theorem cM.proc0{l:Nat}{n:Nat}{w:den tNw}(h:cM l n w)(hn:n<=1000000000)(r inn:Int)(p:den tPk):cM l (n+1) (proc0 w r inn p):=by
 unfold Go.Proofs.YtnkjolpkcmgcaaaGreat.proc0;split
 .exact h.send hn _ _ _
 .split
  .exact cM.mono (n:=n) (h.eq rfl) (cGz _)
  .exact h.drop hn
theorem cM.proc{l:Nat}{n:Nat}{w:den tNw}(h:cM l n w)(hn:n<=999999000)(r inn:Int)(p:den tPk):cM l (n+2) (dM w r inn p):=by
 unfold dM;split
 .exact (h.send (by omega) _ _ _).mono (by omega)
 .split
  .split
   .unfold qX;split
    .exact h.mono (by omega)
    .split
     .refine cM.mono (n:=n+1) (cM.proc0 (n:=n) ?_ (by omega) _ _ _) (by omega);exact cM.eq h rfl
     .exact cM.mono (n:=n) (h.eq rfl) (by omega)
   .exact cM.mono (n:=n) (h.eq rfl) (by omega)
  .split
   .unfold tQ;split
    .exact (h.proc0 (by omega) _ _ _).drop (by omega)
    .refine cM.mono (n:=n+1) (cM.drop (n:=n) ?_ (by omega)) (by omega);exact cM.eq h rfl
   .exact (h.drop (by omega)).mono (by omega)
theorem cM.stepT{l:Nat}{n:Nat}{w:den tNw}(h:cM l n w)(hn:n<=999999000)(k:Nat):cM l (n+2) (stepT k w):=by
 unfold Go.Proofs.YtnkjolpkcmgcaaaGreat.stepT;split
 .split
  .refine cM.proc (n:=n) ?_ hn _ _ _;exact cM.eq h rfl
  .exact cM.mono (n:=n) (h.eq rfl) (by omega)
 .exact h.mono (by omega)
theorem cM.tickL{l:Nat}{m:Nat}:∀(m k:Nat) {n:Nat} {w:den tNw},cM l n w->n+2 * m<=999999000->cM l (n+2 * m) (tickL k m w)
 | 0,_,_,_,h,_=>h
 | m+1,k,n,w,h,hn=>by
  unfold Go.Proofs.YtnkjolpkcmgcaaaGreat.tickL;exact (cM.tickL (m:=0) m (k+1) (h.stepT (by omega) k) (by omega)).mono (by omega)
theorem cM.event{l:Nat}{n:Nat}{w:den tNw}{e:den gA}(h:cM l n w)(hf:(aB w).length<=4)(hn:n<=900000000):cM l (n+8) (doW w e).2:=by
 have same:cM l (n+8) w:=h.mono (by omega);unfold doW;split
 .show cM l (n+8) (cZ w);unfold cZ;split
  .exact same
  .refine cM.mono (n:=n+2 * (aB w).length) (cM.tickL (m:=0) (aB w).length 0 (n:=n) ?_ (by omega)) (by omega);exact cM.eq h rfl
 .split
  .split
   .refine cM.mono (n:=n+2) (cM.proc (n:=n) ?_ (by omega) _ _ _) (by omega);exact cM.eq h rfl
   .exact same
  .split
   .split
    .refine cM.mono (n:=n+1) (cM.drop (n:=n) ?_ (by omega)) (by omega);exact cM.eq h rfl
    .exact same
   .split
    .split
     .exact same
     .exact same
    .split
     .show cM l (n+8) (tJ w e.2.1 (e.1==5));unfold tJ;split
      .exact same
      .exact same
     .split
      .split
       .exact same
       .exact same
      .split
       .split
        .exact same
        .exact same
       .exact same
def aAi(m:Nat)(l:List Int):Prop:=l.Pairwise (λa b=>a<b)/\ ∀n∈l,0<=n/\n<(m:Int)
theorem aNr(m:Nat)(dead:List Int)(i:Int)(b:Bool):aAi m (tL m dead i b):=by
 unfold tL;refine⟨List.Pairwise.filter _ (List.pairwise_map.2 (List.pairwise_lt_range.imp λh=>by omega)),λn hn=> ?_⟩;obtain⟨k,hk,rfl⟩:=cF4.1 (cGc.1 hn).1;have :=List.mem_range.1 hk;exact⟨by omega,by omega⟩
theorem aAi.all{m:Nat}{l:List Int}(h:aAi m l):(l.zipIdx 0).all (λz=>aI0 l m z.2 z.1)=true:=by
 refine (aAt (aI0 l m) l).2 λk n hn=> ?_
 unfold aI0;have hm:=h.2 n (cF9 hn);rw[cFw,cHi,zR];refine⟨aV.2 ⟨hm.1,by omega⟩,?_⟩
 by_cases h0:k=0
 .exact .inl h0
 .right;obtain⟨hk,e⟩:=cFz.1 hn;have :=(cH1.1 h.1) (k - 1) k (by omega) hk (by omega);rw[cFx (show k - 1<l.length by omega),cGy];rw[e]at this;rw[zW (show ¬ (l[k - 1]'(by omega)>=n) by omega)];rfl
theorem aSx(w:den tNw)(r eg:Int)(p:den tPk):aH (gU w r eg p)=aH w:=by unfold gU;split<;>rfl
theorem aSw(w:den tNw)(r inn:Int)(p:den tPk):aH (proc0 w r inn p)=aH w:=by
 unfold proc0;split
 .exact aSx _ _ _ _
 .split<;>rfl
theorem bHi(w:den tNw):aH (wP w)=aH w:=rfl
theorem aGs(w:den tNw)(r inn:Int)(p:den tPk):aH (dM w r inn p)=aH w:=by
 unfold dM;split
 .exact aSx _ _ _ _
 .split
  .split
   .unfold qX;split
    .rfl
    .split
     .refine Eq.trans (aSw _ _ _ _) ?_;rfl
     .rfl
   .rfl
  .split
   .unfold tQ;split
    .rw[bHi];exact aSw _ _ _ _
    .rfl
   .rfl
theorem bH7(k:Nat)(w:den tNw):aH (stepT k w)=aH w:=by
 unfold stepT;split
 .split
  .rename_i f hf hb;exact aGs (bS w ((aB w).set k (aD f).1)) _ _ _
  .rfl
 .rfl
theorem aSj:∀(n k:Nat) (w:den tNw),aH (tickL k n w)=aH w
 | 0,_,_=>rfl
 | n+1,k,w=>by
  unfold tickL;exact (aSj n (k+1) (stepT k w)).trans (bH7 k w)
theorem aMd(w:den tNw):aH (cZ w)=aH w:=by
 unfold cZ;split
 .rfl
 .exact aSj (aB w).length 0 (tick0 w)
theorem bSy{w:den tNw}{e:den gA}(h:aAi (nT w).2.length (aH w)):aAi (nT w).2.length (aH (doW w e).2):=by
 unfold doW;split
 .show aAi _ (aH (cZ w));rw[aMd];exact h
 .split
  .split
   .show aAi _ (aH (dM _ _ _ _));rw[aGs];exact h
   .exact h
  .split
   .split<;>exact h
   .split
    .split<;>exact h
    .split
     .show aAi _ (aH (tJ w e.2.1 (e.1==5)));unfold tJ;split
      .exact h
      .exact aNr _ _ _ _
     .split
      .split<;>exact h
      .split
       .split<;>exact h
       .exact h
theorem aQk:∀l:lMs,aBf l l=true
 | []=>rfl
 | x::l=>by
  show (aLz x x&&aBf l l)=true;rw[aQk l,Bool.and_true];unfold aLz;exact beq_self_eq_true _
theorem aAe.ok{t:den tTo}{f:den tFl}{x:den tIb}(h:aAe t f x):xOk x=true/\aHw f x=true:=by
 have hv:=(mU f).1 h.val;obtain⟨q1,q2,q3,q4,q5,q6,q7,q8,q9,q10,q11,q12⟩:=hv;have hl:=h.len;have hn:=h.next
 constructor
 .unfold xOk;simp only[cFw,cGw,beq_eq_false_iff_ne,beq_iff_eq,zR,cGm];refine⟨by rw[h.xAS];exact q2,by rw[h.xFrom];exact q1,λe=>q3 (by rw[<- h.xAS,<- h.xFrom];exact e.symm),hn,?_,λm hm=> ?_⟩
  .show (20:Int)>=x.2.2.1;rw[hn];omega
  .have hm':m∈f.2.2.2.2.1:=by
    rw[h.recv]at hm;exact cHk hm
   exact q8 m hm'
 .unfold aHw;simp only[cFw,beq_iff_eq,zR];refine⟨h.xAS,h.xFrom,hl,?_,h.ack⟩;rw[<- aJ5,<- h.recv];exact aQk _
structure iA (t:den tTo) (B k d:Nat) (w:den tNw):Prop where
 run:sI t B k w
 inv:cT t w
 drop:bVr d w
 dead:aAi t.2.length (aH w)
theorem iA.mono{t:den tTo}{B C k j d e:Nat}{w:den tNw}(h:iA t B k d w)(hB:B<=C)(hk:k<=j)(hd:d<=e):iA t C j e w:=⟨h.run.mono hB hk,h.inv,h.drop.mono hd,h.dead⟩
theorem iA.valid{t:den tTo}{B k d:Nat}{w:den tNw}(h:iA t B k d w)(hk:k<=1000)(ht:aCl t=true):aKh w=true:=by
 have htop:w.1=t:=h.run.top;have hlo:=leI h.run.lo;have hhi:=leI h.run.hi;have hd:=h.drop.1;have hfl:w.2.2.2.2.2.2.1.length<=4:=h.run.keep.flows;have hfy:w.2.2.2.2.2.1.length<=150:=h.run.flyN;unfold aKh;simp only[cFw,zR,cGw,decide_eq_false_iff_not,cGm];refine⟨by rw[htop];exact ht,aV.2 ⟨hlo,leI (cHb hhi (by omega))⟩,bW3.2 h.run.gate,?_,hfy,hfl,h.inv.lenB,?_,λx hx=>by rw[htop];exact h.inv.to x hx,?_⟩
 .have :=(aAi.all h.dead)
  rw[cGm]at this;rw[htop];exact this
 .show ¬ ((dR w:Int)<0);omega
 .have :(w.2.2.2.2.2.2.1.zipIdx 0).all (λz=>aIx w z.2 z.1&&aJr w z.2 z.1)=true:=by
   refine (aAt (λk f=>aIx w k f&&aJr w k f) _).2 λj f hf=> ?_
   have hj:=(cFz.1 hf).1;have hb:j<(aR w).length:=by rw[h.inv.lenB];exact hj
   have hx:(aR w)[j]? =some (aR w)[j]:=cFx hb;have hfi:=h.inv.flow j f _ hf hx;obtain⟨o1,o2⟩:=hfi.ok;rw[cFw];constructor
   .unfold aIx;rw[show w.2.2.2.2.2.2.2.1[j]? =some (aR w)[j] from hx];simp only[cFw];exact⟨hfi.val,by rw[htop];exact hfi.src,by rw[htop];exact hfi.dst,o1,o2⟩
   .unfold aJr;rw[cGm];intro g hg;obtain⟨i,hi,hg⟩:=aIz hg;obtain⟨hi',ei⟩:=cFz.1 hg;obtain⟨hj',ej⟩:=cFz.1 hf;have :=(cH1.1 h.inv.uniq) i j hi' hj' hi;have e1:(aB w)[i]=g:=ei;have e2:(aB w)[j]=f:=ej;rw[e1,e2]at this;rw[this];rfl
  rw[cGm]at this;intro z hz;have :=this z hz;rw[cFw]at this;exact this
structure aCj (t:den tTo) (k:Nat) (w:den tNw):Prop where
 run:sI t (1000+2000 * k) k w
 inv:cT t w
 drop:bVr (8 * k) w
 dead:aAi t.2.length (aH w)
theorem aCj.round{t:den tTo}{k:Nat}{w:den tNw}(h:aCj t k w):iA t (1000+2000 * k) k (8 * k) w:=⟨h.run,h.inv,h.drop,h.dead⟩
theorem aCj.valid{t:den tTo}{k:Nat}{w:den tNw}(h:aCj t k w)(hk:k<=1000)(ht:aCl t=true):aKh w=true:=h.round.valid hk ht
theorem wB.runV{v:den tNw}(h:wB 3 v):aCj (nT v) 0 v where
 run:=h.run
 inv:=by
  refine⟨rfl,by rw[h.box,cGu],λk f x hf hx=> ?_,h.uniq,λy hy=>(by rw[h.fly]at hy;cases hy),λy hy=>(by rw[h.fly]at hy;cases hy)⟩;have hm:=cF9 hf;have hF:=h.flows f hm;rw[h.box,cHz,hf]at hx;have hx:some ((f.2.1,f.1,0,[]):den tIb)=some x:=hx;injection hx with hx;subst hx;exact⟨hF.val,hF.src,hF.dst,rfl,rfl,rfl,rfl,cGe _,by rw[hF.ack];exact cGx _,hF.ends⟩
 drop:=⟨by rw[h.drop];decide,by rw[h.drop];decide⟩
 dead:=by rw[h.dead];exact⟨List.Pairwise.nil,λn hn=>(cGn hn).elim⟩
theorem aCj.event{t:den tTo}{k:Nat}{w:den tNw}{e:den gA}(h:aCj t k w)(hk:k<=1000)(ht:t.2.length<=100)(he:EvD w e):aCj t (k+1) (doW w e).2 where
 run:=(bFt h.run (by omega) (by omega) he.s).mono (by omega) (cF8 _)
 inv:=bYs h.inv h.run.keep.bytes.fly he.pk.2 he.harm
 drop:=(h.drop.event h.run.keep.flows (by omega)).mono (by omega)
 dead:=by
  have :=bSy (w:=w) (e:=e) (by rw[h.run.top];exact h.dead);rw[h.run.top]at this;exact this
theorem Ran.runV{v:den tNw}(hv:wB 3 v){l:mG}{w:den tNw}(h:Ran v l w):l.length<=1000->aCj (nT v) l.length w:=by
 induction h with
 | nil=>intro _;exact hv.runV
 | snoc h he ih=>
  intro hl;simp only[cGh,cHf]at hl ⊢;exact (ih (by omega)).event (by omega) hv.top.links he
theorem aU6:∀{a b:List Int},a.Pairwise (λx y=>x<y)->b.Pairwise (λx y=>x<y)->(∀x,x∈a↔x∈b)->a=b
 | [],[],_,_,_=>rfl
 | [],y::b,_,_,h=>absurd ((h y).2 (by simp)) (by simp)
 | x::a,[],_,_,h=>absurd ((h x).1 (by simp)) (by simp)
 | x::a,y::b,ha,hb,h=>by
  rw[cJa]at ha hb;have hxy:x=y:=by
   rcases cFy.1 ((h x).1 (by simp)) with e | e
   .exact e
   .rcases cFy.1 ((h y).2 (by simp)) with e' | e'
    .exact e'.symm
    .have h1:=ha.1 y e';have h2:=hb.1 x e;omega
  subst hxy;rw[aU6 ha.2 hb.2 λz=> ?_];constructor
  .intro hz;have :=ha.1 z hz;rcases cFy.1 ((h z).1 (cF7 _ hz)) with e | e
   .omega
   .exact e
  .intro hz;have :=hb.1 z hz;rcases cFy.1 ((h z).2 (cF7 _ hz)) with e | e
   .omega
   .exact e
theorem bY5{l:List Int}{n:Int}(h:l.Pairwise λx y=>x<y):(qV l n).Pairwise λx y=>x<y:=by
 unfold qV;split
 .exact h
 .rename_i hne;have hlt:∀x∈l.take (mE l n),x<n:=λx hx=>by
   obtain⟨i,hi,he⟩:=aIz hx;obtain⟨hil,e⟩:=cFz.1 he;have :=List.not_of_lt_findIdx (p:=λx=> !decide (x<n)) (xs:=l) (show i<l.findIdx _ from hi);rw[e]at this;simpa using this
  have hgt:∀x∈l.drop (mE l n),n<x:=λx hx=>by
   obtain⟨i,he⟩:=cJg.1 hx;rw[List.getElem?_drop]at he;obtain⟨hil,e⟩:=cFz.1 he;have hp:mE l n<l.length:=by omega
   have h1:=List.findIdx_getElem (p:=λx=> !decide (x<n)) (xs:=l) (w:=hp);have h1: ¬ (l[mE l n]'hp<n):=by
    have h1:(!decide (l[mE l n]'hp<n))=true:=h1;simpa using h1
   have h2:l[mE l n]'hp≠n:=λe'=>hne (by rw[cFx hp,e'])
   by_cases hi0:i=0
   .subst hi0;have e:l[mE l n]'hp=x:=e;omega
   .have :=(cH1.1 h) (mE l n) (mE l n+i) hp hil (by omega);rw[e]at this;omega
  rw[cGj,List.pairwise_append];refine⟨h.sublist (List.take_sublist _ _),?_,λx hx y hy=> ?_⟩
  .rw[cI3,cJa];exact⟨hgt,h.sublist (List.drop_sublist _ _)⟩
  .rcases cF6.1 hy with hy | hy
   .rw[cF5.1 hy];exact hlt x hx
   .have :=hlt x hx;have :=hgt y hy;omega
theorem aLn{l:List Int}{n:Int}:pF l n=true↔n∈l:=by
 unfold pF;rw[cGw,List.all_eq_false];constructor
 .rintro⟨x,hx,e⟩
  have :x=n:=by simpa using e
  rw[<- this];exact hx
 .intro h;exact⟨n,h,by simp⟩
theorem aWs{m:Nat}{dead:List Int}{i x:Int}{b:Bool}:x∈tL m dead i b↔(0<=x/\x<(m:Int))/\((x∈dead/\x≠i)\/(b=true/\x=i)):=by
 unfold tL;rw[cGc];constructor
 .rintro⟨h1,h2⟩
  obtain⟨k,hk,rfl⟩:=cF4.1 h1;have :=List.mem_range.1 hk;simp only[cHi,cFw,bne_iff_ne,beq_iff_eq]at h2;exact⟨⟨by omega,by omega⟩,h2.imp (λh=>⟨aLn.1 h.1,h.2⟩) id⟩
 .rintro⟨⟨h1,h2⟩,h3⟩
  obtain⟨k,rfl⟩:=cGr h1;refine⟨cF4.2 ⟨k,List.mem_range.2 (by omega),rfl⟩,?_⟩;simp only[cHi,cFw,bne_iff_ne,beq_iff_eq];exact h3.imp (λh=>⟨aLn.2 h.1,h.2⟩) id
theorem bP4{m:Nat}{dead:List Int}{i:Int}(h:aAi m dead)(hi:0<=i/\i<(m:Int)):qV dead i=tL m dead i true:=by
 refine aU6 (bY5 h.1) (aNr m dead i true).1 λx=> ?_
 rw[aWs];constructor
 .intro hx;rcases aE2 hx with rfl | hx
  .exact⟨hi,.inr ⟨rfl,rfl⟩⟩
  .by_cases e:x=i
   .subst e;exact⟨hi,.inr ⟨rfl,rfl⟩⟩
   .exact⟨h.2 x hx,.inl ⟨hx,e⟩⟩
 .rintro⟨_,⟨hx,_⟩ | ⟨_,rfl⟩⟩
  .exact aE0 hx
  .exact aIs _ _
theorem bO8{m:Nat}{dead:List Int}{i:Int}(h:aAi m dead):(dead.filter λx=>x != i)=tL m dead i false:=by
 refine aU6 (h.1.filter _) (aNr m dead i false).1 λx=> ?_
 rw[aWs,cGc];constructor
 .rintro⟨hx,e⟩
  exact⟨h.2 x hx,.inl ⟨hx,by simpa using e⟩⟩
 .rintro⟨_,⟨hx,e⟩ | ⟨e,_⟩⟩
  .exact⟨hx,by simpa using e⟩
  .cases e
theorem bMx{w:den tNw}{i:Nat}{x:den tFy}(hx:(aI w)[i]? =some x)(hl:(aI w).length<=1073741824):fS w (i:Int)=some (lA x (yQ w i)):=by
 have hlt:i<(aI w).length:=(cFz.1 hx).1;have hx:w.2.2.2.2.2.1[((i:Nat):Int).toNat]? =some x:=by rw[cF2];exact hx
 have h1:decide ((i:Int)<(w.2.2.2.2.2.1.length:Int))=true:=zX (by have :i<w.2.2.2.2.2.1.length:=hlt;omega);have e1:wr ((i:Int)+1)=((i+1:Nat):Int):=(wri (by omega) (by omega)).trans (by omega);have h2:cJ ((i+1:Nat):Int) (w.2.2.2.2.2.1.length:Int) (w.2.2.2.2.2.1.length:Int)=true:=aBw (show i+1<=w.2.2.2.2.2.1.length from hlt);have h3:cJ (0:Int) (i:Int) (w.2.2.2.2.2.1.length:Int)=true:=aHh (k:=i) (Nat.le_of_lt hlt);have hl:w.2.2.2.2.2.1.length<=1073741824:=hl;unfold fS ixb aL aS bD zz4 zz5 zz6 zz7 zz8 zz9;simp only[h1,hx,aA,zZ,e1,h2,h3,iQ,aC7,cGk,aE (b:=128) (n:=([]:lFy).length) (m:=(w.2.2.2.2.2.1.take i).length) (by decide) (by simp;omega),aE (b:=128) (n:=(w.2.2.2.2.2.1.take i).length) (m:=(w.2.2.2.2.2.1.drop (i+1)).length) (by decide) (by simp;omega),zX (show (0:Int)<=(i:Int) by omega)];rfl
theorem cFd{B F:Nat}{w:den tNw}{e:den gA}(hF:F<=1000)(hk:eV B F w)(hB:B+(F+1) * (160+F)<=536870912)(h9:(e.1==(9:Int))=false)(hd:SmB 4294967296 (.sl tb) e.2.2.1)(hp:tot tPk e.2.2.2.2.2<=34359738368)(hdead:aAi (nT w).2.length (aH w)):nF w e=some ((doW w e).1,bB (doW w e).2):=by
 obtain⟨kd,n,data,to,ing,pk⟩:=e;simp only at h9 hd hp;have hB0:B<=536870912:=by have :=cGe ((F+1) * (160+F));omega
 have hB1:B+F * (160+F)<=536870912:=by rw[Nat.succ_mul]at hB;omega
 have l1:w.2.2.2.2.2.1.length<=1073741824:=aV2 hk (by omega);have l2:w.2.2.2.2.2.2.1.length<=1073741824:=cFv hk.flows (by omega);obtain⟨n1,n2,n3⟩:=aFd hk (by omega);have l3:w.1.2.length<=1073741824:=n1.links;have l4:w.2.2.2.2.1.length<=1073741824:=by
  have h1:=gB w;have h2:=dX (t:=ti) (aH w);have h3:=hk.tot;have h4:(aH w).length<=1073741824:=by omega
  exact h4
 have w1:wr ((w.2.2.2.2.2.1.length:Int) - 1)=(w.2.2.2.2.2.1.length:Int) - 1:=lM (by omega);have w2:wr ((w.2.2.2.2.2.2.1.length:Int) - 1)=(w.2.2.2.2.2.2.1.length:Int) - 1:=lM (by omega);have w3:wr ((w.1.2.length:Int) - 1)=(w.1.2.length:Int) - 1:=lM (by omega);have a1:aK 128 w.2.2.2.2.2.1.length 1=true:=aE (by decide) (by omega);unfold nF doW ixb aL fT aVc pj2 pj3 pj9 dT aS bD bR eC kX tD wC aA1 aCk aCi aGp aJx aJ3 aJy aN5 zz4 zz5 zz6 zz7 zz8 zz9;simp only[w1,w2,w3,lR,aA];cases c1:(kd==(1:Int)) with
 | true=>
  simp only[zZ];rw[show ((w.1,w.2.1,w.2.2.1,w.2.2.2.1,w.2.2.2.2.1,w.2.2.2.2.2.1,w.2.2.2.2.2.2.1,w.2.2.2.2.2.2.2.1,w.2.2.2.2.2.2.2.2):den tNw)=w from rfl,bFr hF hk hB1];rfl
 | false=>
 cases c2:(kd==(2:Int)) with
 | true=>
  have c3:(kd==(3:Int))=false:=by rw[eq_of_beq c2];rfl
  simp only[zY,zZ,aA,c3,cF1,zU,zV];cases hin:inR n 0 ((w.2.2.2.2.2.1.length:Int) - 1) with
  | false=>rfl
  | true=>
   obtain⟨i,x,rfl,hx,_,_⟩:=aI6 l1 hin;have hx:(aI w)[i]? =some x:=hx;have e1:=bMx (w:=w) hx l1;have kg:=aGy hk i;obtain⟨m1,m2,m3⟩:=aFd kg (by omega);have hxm:=cF9 hx;have htx:tot tPk x.2.2<=536870912:=by
    have h1:=vC (t:=tFy) hxm;have h2:tot tFy x=tot tPk x.2.2:=by simp[oO,qC]
    have :=gB w;have :=hk.tot;omega
   have e2:=aVe (w:=yQ w i) (r:=x.1) (inn:=x.2.1) m1 m2 m3 htx (hk.bytes.fly x hxm);have e3:Option.bind (bP (yQ w i) x.1 x.2.1 x.2.2) (λy7=>(some (Sum.inl y7):Option ((lFy×lFl×lIb×lAS×lLk×lSg×lSg×Int×lRs×lUs×Int×List Int×Int)⊕(Bool×lFy×lFl×lIb×lAS×lLk×lSg×lSg×Int×lRs×lUs×Int×List Int×Int))))=some (Sum.inl (bB (dM (yQ w i) x.1 x.2.1 x.2.2))):=by rw[e2];rfl
   have hx':w.2.2.2.2.2.1[((i:Nat):Int).toNat]? =some x:=by rw[cF2];exact hx
   simp only[cF0,zY];rw[show ((w.1,w.2.1,w.2.2.1,w.2.2.2.1,w.2.2.2.2.1,w.2.2.2.2.2.1,w.2.2.2.2.2.2.1,w.2.2.2.2.2.2.2.1,w.2.2.2.2.2.2.2.2):den tNw)=w from rfl,e1,aA,hx'];exact congrArg (λo=>Option.bind o λz=>Sum.elim (λs32=>some (true,s32)) some z) e3
 | false=>
 cases c3:(kd==(3:Int)) with
 | true=>
  simp only[zY,zZ,aA,cF1,zU,zV];cases hin:inR n 0 ((w.2.2.2.2.2.1.length:Int) - 1) with
  | false=>rfl
  | true=>
   obtain⟨i,x,rfl,hx,_,_⟩:=aI6 l1 hin;have hx:(aI w)[i]? =some x:=hx;have e1:=bMx (w:=w) hx l1;simp only[cF0,zY];rw[show ((w.1,w.2.1,w.2.2.1,w.2.2.2.1,w.2.2.2.2.1,w.2.2.2.2.2.1,w.2.2.2.2.2.2.1,w.2.2.2.2.2.2.2.1,w.2.2.2.2.2.2.2.2):den tNw)=w from rfl,e1,aA];rfl
 | false=>
 cases c4:(kd==(4:Int)) with
 | true=>
  simp only[zY,zZ,aA,cF1,zU,zV];cases hin:inR n 0 ((w.2.2.2.2.2.1.length:Int) - 1) with
  | false=>rfl
  | true=>
   obtain⟨i,x,rfl,hx,hlt,hz⟩:=aI6 l1 hin;have hx':w.2.2.2.2.2.1[((i:Nat):Int).toNat]? =some x:=by rw[cF2];exact hx
   cases decide ((w.2.2.2.2.2.1.length:Int)>=150) with
   | true=>rfl
   | false=>
    simp only[cF0,cGa,zY,zZ,aA,hlt,hz,hx',a1,Bool.and_self];rfl
 | false=>
 cases c5:(kd==(5:Int)) with
 | true=>
  simp only[zY,zZ,aA,cF1,zU,zV,Bool.true_or,aOn (l:=w.2.2.2.2.1) (show w.2.2.2.2.1.length<=68719476736 by omega),aPb (l:=w.2.2.2.2.1) (show w.2.2.2.2.1.length<=4294967296 by omega)];unfold tJ aFi;cases hin:inR n 0 ((w.1.2.length:Int) - 1) with
  | false=>
   cases pF (aH w) n<;>rfl
  | true=>
   obtain⟨g0,g1⟩:=aV.1 hin;cases hh:pF (aH w) n with
   | true=>
    rfl
   | false=>
    have ef:=bP4 (m:=(nT w).2.length) (dead:=aH w) (i:=n) hdead ⟨g0,Int.lt_of_le_of_lt g1 (show ((w.1.2.length:Int) - 1<(w.1.2.length:Int)) by omega)⟩;have ef:qV w.2.2.2.2.1 n=tL (nT w).2.length (aH w) n true:=ef;rw[ef];rfl
 | false=>
 cases c6:(kd==(6:Int)) with
 | true=>
  simp only[zY,zZ,aA,cF1,zU,zV,Bool.or_true,aOn (l:=w.2.2.2.2.1) (show w.2.2.2.2.1.length<=68719476736 by omega)];unfold tJ aFi;cases hin:inR n 0 ((w.1.2.length:Int) - 1) with
  | false=>
   cases pF (aH w) n<;>rfl
  | true=>
   cases hh:pF (aH w) n with
   | false=>
    rfl
   | true=>
    simp only[cF0,zY,aA];have ef:=bO8 (m:=(nT w).2.length) (dead:=aH w) (i:=n) hdead;have ef:(w.2.2.2.2.1.filter λx=>x != n)=tL (nT w).2.length (aH w) n false:=ef;refine iW (G:=λo=>Option.bind o (λz=>Sum.elim (λs32=>some (true,s32)) some z)=some (true,bB (aHg w (tL (nT w).2.length (aH w) n false)))) w.2.2.2.2.1.length (λs:Int×List Int=>s.1) (λk s=>s.2.length<=k/\s.2=(w.2.2.2.2.1.take k).filter λx=>x != n) (λr:List Int=>r=w.2.2.2.2.1.filter λx=>x != n) ?_ ?_ 0 ((0:Int),[]) (cGe _) rfl ⟨by simp,by simp⟩ ?_
    .rintro k ⟨_,l⟩ hk' rfl ⟨g1,g2⟩
     simp only at g1 g2;right;have hx:w.2.2.2.2.1[k]? =some w.2.2.2.2.1[k]:=cFx hk';have ht:(w.2.2.2.2.1.take (k+1)).filter (λx=>x != n)=l++(if w.2.2.2.2.1[k] != n then [w.2.2.2.2.1[k]] else []):=by
      rw[List.take_add_one,hx,List.filter_append,g2];congr 1;show List.filter _ [w.2.2.2.2.1[k]]=_;rw[cH9,List.filter_nil]
     simp only[zX (show (k:Int)<(w.2.2.2.2.1.length:Int) by omega),zZ,aN,hx,aA,aE (b:=8) (n:=l.length) (m:=1) (by decide) (by omega),show wr ((k:Int)+1)=((k+1:Nat):Int) from (wri (by omega) (by omega)).trans (by omega)];cases hb:(w.2.2.2.2.1[k] != n) with
     | true=>rw[hb,zT rfl]at ht;exact⟨_,rfl,rfl,by simp;omega,ht.symm⟩
     | false=>rw[hb,zS (by simp),cGq]at ht;exact⟨_,rfl,rfl,by show l.length<=k+1;omega,ht.symm⟩
    .rintro⟨_,l⟩ rfl ⟨g1,g2⟩
     exact⟨l,by simp only[zW (Int.lt_irrefl _),zY],by simpa using g2⟩
    .rintro r rfl
     rw[ef];rfl
 | false=>
 cases c7:(kd==(7:Int)) with
 | true=>
  simp only[zY,zZ,aA,cF1,zU,zV,cHj,aP,aKm n1.as];cases dE w.1 to with
  | false=>rfl
  | true=>
   cases decide ((w.2.2.2.2.2.1.length:Int)>=150) with
   | true=>rfl
   | false=>
    simp only[cF0,cGa,zY,zZ,aA,a1];rfl
 | false=>
 cases c8:(kd==(8:Int)) with
 | true=>
  simp only[zY,zZ,aA,cF1,zU,zV,cHj,bC,bT,bH,bI,bL];cases hin:inR n 0 ((w.2.2.2.2.2.2.1.length:Int) - 1) with
  | false=>rfl
  | true=>
   obtain⟨i,x,rfl,hx,hlt,hz⟩:=aI6 l2 hin;have hx:(aB w)[i]? =some x:=hx;have hxm:=cF9 hx;have hx':w.2.2.2.2.2.2.1[((i:Nat):Int).toNat]? =some x:=by rw[cF2];exact hx
   have hfx:tot tFl x<=536870912:=by
    have h1:=vC (t:=tFl) hxm;have :=gB w;have :=hk.tot;omega
   have e1:=cDn (f:=x) (b:=data) ((bM hfx).mono (by decide)) hd;have hlt2:decide (((i:Nat):Int).toNat<w.2.2.2.2.2.2.1.length)=true:=zX (by rw[cF2];exact (cFz.1 hx).1);simp only[cF0,zY,zZ,hlt,hz,hx',hlt2,aA];rw[show ((x.1,x.2.1,x.2.2.1,x.2.2.2.1,x.2.2.2.2.1,x.2.2.2.2.2.1,x.2.2.2.2.2.2.1,x.2.2.2.2.2.2.2.1,x.2.2.2.2.2.2.2.2):den tFl)=x from rfl,e1,aA];unfold aRt aD9;cases iR (enq x data)<;>rfl
 | false=>
  simp only[h9,zY,zZ,aA,cF1,zU,zV,cHj];rfl
theorem bQd{α:Type}{l:List α}{k:Nat}{x:α}(h:l[k]? =some x):l.set k x=l:=by
 obtain⟨hk,e⟩:=cFz.1 h;rw[<- e];exact List.set_getElem_self hk
theorem cAx{w:den tNw}{e:den gA}(h:(doW w e).1=false):(doW w e).2=w:=by
 unfold doW at h|-;split
 .rename_i c;rw[zT c]at h;show cZ w=w;unfold cZ;have h:(!decide (aJ w>=1000000))=false:=h;rw[zT (by simpa using h)]
 rename_i c1;rw[zS c1]at h;split
 .rename_i c;rw[zT c]at h;split
  .rename_i x hi hx;rw[hi,hx]at h;cases h
  .rfl
 rename_i c2;rw[zS c2]at h;split
 .rename_i c;rw[zT c]at h;split
  .rename_i hc;rw[zT hc]at h;cases h
  .rfl
 rename_i c3;rw[zS c3]at h;split
 .rename_i c;rw[zT c]at h;split
  .rename_i x hi hx;rw[hi,hx]at h;cases h
  .rfl
 rename_i c4;rw[zS c4]at h;split
 .rename_i c;rw[zT c]at h;show tJ w e.2.1 (e.1==5)=w;unfold tJ;have h:(!aFi w e.2.1 (e.1==5))=false:=h;rw[zT (by simpa using h)]
 rename_i c5;rw[zS c5]at h;split
 .rename_i c;rw[zT c]at h;split
  .rename_i hc;rw[zT hc]at h;cases h
  .rfl
 rename_i c6;rw[zS c6]at h;split
 .rename_i c;rw[zT c]at h;split
  .rename_i f hi hf;rw[hi,hf]at h;have h:iR (enq f e.2.2.1)=false:=h;show bS w ((aB w).set e.2.1.toNat (aD9 f e.2.2.1))=w;unfold aD9;rw[h,zS (by decide),bQd hf];rfl
  .rfl
 .rfl
theorem aMk{t:den tTo}{k:Nat}{w:den tNw}(h:aCj t k w)(hk:k<=1000):eV 2001000 4 w:=h.run.keep.mono (by omega)
theorem bF7{w:den tNw}{B F:Nat}(h:eV B F w)(hB:B<=1073741824):SmB 68719476736 tNw w:=(bM (cFv h.tot hB)).mono (by decide)
theorem bYk{w:den tNw}{e:den gA}(he:EvD w e):(e.1==(9:Int))=false:=by
 have h8:=he.hi;have h9: ¬ (e.1=(9:Int)):=λh=>by rw[h]at h8;exact absurd h8 (by decide)
 exact beq_eq_false_iff_ne.2 h9
theorem cDj{t:den tTo}{k:Nat}{w:den tNw}{e:den gA}(h:aCj t k w)(hk:k<=999)(ht:aCl t=true)(hl:t.2.length<=100)(he:EvD w e):sS w e=some (bDd (doW w e).2 (doW w e).1):=by
 have hK:=aMk h (by omega);have hv:=h.valid (by omega) ht;have h':=h.event (by omega) hl he;have hK':=aMk h' (by omega);have e0:=aT2 (w:=w) (cFv hK.tot (by decide));rw[hv]at e0;have e1:=aP7 (bF7 hK (by decide));have e2:=cFd (w:=w) (e:=e) (by decide) hK (by decide) (bYk he) ⟨by have :=he.data.1;omega,λx hx=>trivial⟩ (cFv he.pk.1 (by decide)) (by rw[h.run.top];exact h.dead);have e3:=aP7 (bF7 hK' (by decide));obtain⟨⟨as,ls⟩,⟨dn,co⟩,⟨cap,res,us⟩,now,dead,fly,flows,box,drop⟩:=w;obtain⟨kd,en,data,to,ing,k1,k2,k3,k4,k5,k6,k7,k8,k9,k10⟩:=e;unfold sS aL dT aS bD bR eC zz4 zz5 zz6 zz7 zz8 zz9;simp only[e0,e1,aA,cF0,zY,aGh,nT,nK,nG,aJ,aH,aI,aB,aR,dR,e2];cases hb:(doW ((as,ls),(dn,co),(cap,res,us),now,dead,fly,flows,box,drop) (kd,en,data,to,ing,k1,k2,k3,k4,k5,k6,k7,k8,k9,k10)).1 with
 | false=>
  have :=cAx hb;rw[this];simp only[cGa,zZ,aA];rfl
 | true=>
  simp only[cF0,zY];generalize (doW ((as,ls),(dn,co),(cap,res,us),now,dead,fly,flows,box,drop) (kd,en,data,to,ing,k1,k2,k3,k4,k5,k6,k7,k8,k9,k10)).2=w' at *;obtain⟨⟨as',ls'⟩,⟨dn',co'⟩,⟨cap',res',us'⟩,now',dead',fly',flows',box',drop'⟩:=w';simp only[bB,nT,nK,nG,aJ,aH,aI,aB,aR,dR,e3,aA,aGh];rfl
theorem bL0{R T:Type}{n:Nat}(hn:n<=10000000){step:Int->Option (Int⊕R)}{r:R}{k:R->Option T}(h:∀i:Nat,i<n->step (i:Int)=some (.inl ((i+1:Nat):Int)))(he:step (n:Int)=some (.inr r)):Option.bind (aC step (0:Int)) k=k r:=by
 refine iW (G:=λo=>o=k r) n (λs:Int=>s) (λ_ _=>True) (λx=>x=r) ?_ ?_ 0 (0:Int) (cGe _) rfl trivial (λx hx=>by rw[hx])
 .rintro i _ hi rfl _
  exact .inr ⟨_,h i hi,rfl,trivial⟩
 .rintro _ rfl _
  exact⟨r,he,rfl⟩
def aPa:den tNw->mG->den tNw
 | w,[]=>w
 | w,e::l=>aPa (doW w e).2 l
def cAy:den tNw->mG->Nat
 | _,[]=>0
 | w,e::l=>cond (doW w e).1 1 0+cAy (doW w e).2 l
def aIr:den tNw->mG->Prop
 | _,[]=>True
 | w,e::l=>EvD w e/\aIr (doW w e).2 l
theorem aZf:∀(a b:mG) (w:den tNw),aPa w (a++b)=aPa (aPa w a) b
 | [],_,_=>rfl
 | e::a,b,w=>aZf a b (doW w e).2
theorem bCc:∀(a b:mG) (w:den tNw),aIr w (a++b)↔aIr w a/\aIr (aPa w a) b
 | [],_,_=>⟨λh=>⟨trivial,h⟩,λh=>h.2⟩
 | e::a,b,w=>by
  show EvD w e/\aIr (doW w e).2 (a++b)↔(EvD w e/\aIr (doW w e).2 a)/\_;rw[bCc a b,and_assoc];rfl
theorem Ran.evs{v w:den tNw}{l:mG}(h:Ran v l w):aIr v l/\w=aPa v l:=by
 induction h with
 | nil=>exact⟨trivial,rfl⟩
 | @snoc l w e h he ih=>
  obtain⟨h1,rfl⟩:=ih;exact⟨(bCc _ _ _).2 ⟨h1,he,trivial⟩,by rw[aZf];rfl⟩
theorem aIr.runV{t:den tTo}(ht:t.2.length<=100):∀{l:mG} {k:Nat} {w:den tNw},aCj t k w->aIr w l->k+l.length<=1000->aCj t (k+l.length) (aPa w l)
 | [],_,_,h,_,_=>h
 | e::l,k,w,h,hd,hk=>by
  have hk:k+(l.length+1)<=1000:=hk;have :=aIr.runV ht (h.event (by omega) ht hd.1) hd.2 (by omega:k+1+l.length<=1000);have hn:k+(l.length+1)=k+1+l.length:=by omega
  show aCj t (k+(l.length+1)) _;rw[hn];exact this
theorem aZ3{S R:Type}{step:S->Option (S⊕R)}(enc:Nat->Nat->den tNw->S)(out:Nat->den tNw->R)(aA0:mG){t:den tTo}(h1:t.2.length<=100)
  (hs:∀k c i w e,aCj t k w->k<=999->aA0[i]? =some e->EvD w e->i<aA0.length->c<=i->step (enc c i w)=some (.inl (enc (c+cond (doW w e).1 1 0) (i+1) (doW w e).2)))
  (he:∀c w,step (enc c aA0.length w)=some (.inr (out c w))):∀(l done:mG) (c k:Nat) (w:den tNw),aA0=done++l->c<=done.length->aCj t k w->aIr w l->k+l.length<=999->aC step (enc c done.length w)=some (out (c+cAy w l) (aPa w l))
 | [],done,c,k,w,hf,hc,h,hd,hk=>by
  refine bA ?_;have :aA0.length=done.length:=by rw[hf,cGq]
  have e:=he c w;rw[this]at e;exact e
 | e::l,done,c,k,w,hf,hc,h,hd,hk=>by
  have hk:k+(l.length+1)<=999:=hk;have hx:aA0[done.length]? =some e:=by rw[hf];simp
  have hlt:done.length<aA0.length:=by rw[hf];simp
  rw[cQ (hs k c done.length w e h (by omega) hx hd.1 hlt hc)];have :=aZ3 enc out aA0 h1 hs he l (done++[e]) (c+cond (doW w e).1 1 0) (k+1) (doW w e).2 (by rw[hf];simp) (by rw[cGh];show _<=_+1;cases (doW w e).1<;>simp<;>omega) (h.event (by omega) h1 hd.1) hd.2 (by omega);rw[cGh]at this;rw[show done.length+[e].length=done.length+1 from rfl]at this;rw[this,Nat.add_assoc];rfl
def aKo(w w':den tNw):Prop:=(aB w').length=(aB w).length/\ ∀(k:Nat) (f f':den tFl),(aB w)[k]? =some f->(aB w')[k]? =some f'->f.2.2.2.1<=f'.2.2.2.1
def bUp(s d:Int)(w w':den tNw):Prop:=(aR w').length=(aR w).length/\ ∀(k:Nat) (x x':den tIb),(aR w)[k]? =some x->(aR w')[k]? =some x'->x'=x\/(x.2.1=s/\x.1=d/\x'.2.2.2.length=x.2.2.2.length+1)
theorem aKo.same{w w':den tNw}(h:aB w'=aB w):aKo w w':=by
 refine⟨by rw[h],λk f f' h1 h2=> ?_⟩;rw[h,h1]at h2;injection h2 with h2;rw[h2];exact cGx _
theorem aKo.trans{a b c:den tNw}(h:aKo a b)(g:aKo b c):aKo a c:=by
 refine⟨g.1.trans h.1,λk f f' h1 h2=> ?_⟩;have hk:k<(aB b).length:=by rw[h.1];exact (cFz.1 h1).1
 exact cHb (h.2 k f _ h1 (cFx hk)) (g.2 k _ f' (cFx hk) h2)
theorem bUp.same{s d:Int}{w w':den tNw}(h:aR w'=aR w):bUp s d w w':=by
 refine⟨by rw[h],λk x x' h1 h2=> .inl ?_⟩;rw[h,h1]at h2;injection h2 with h2;exact h2.symm
def bUe(P:Nat->Prop)(w w':den tNw):Prop:=(aR w').length=(aR w).length/\ ∀(k:Nat) (x x':den tIb),(aR w)[k]? =some x->(aR w')[k]? =some x'->x'.2.2.2.length=x.2.2.2.length\/(P k/\x'.2.2.2.length=x.2.2.2.length+1)
theorem bUe.same{P:Nat->Prop}{w w':den tNw}(h:aR w'=aR w):bUe P w w':=by
 refine⟨by rw[h],λk x x' h1 h2=> .inl ?_⟩;rw[h,h1]at h2;injection h2 with h2;rw[h2]
structure jX (w w':den tNw):Prop where
 top:nT w'=nT w
 book:nK w'=nK w
 flows:(aB w').length=(aB w).length
 now:aJ w<=aJ w'
theorem jX.refl(w:den tNw):jX w w:=⟨rfl,rfl,rfl,cGx _⟩
theorem jX.trans{a b c:den tNw}(h:jX a b)(k:jX b c):jX a c:=⟨k.top.trans h.top,k.book.trans h.book,k.flows.trans h.flows,cHb h.now k.now⟩
theorem aDh(w:den tNw):jX w (wP w):=⟨rfl,rfl,rfl,cGx _⟩
theorem aLj(w:den tNw)(l:lFy):jX w (cC w l):=⟨rfl,rfl,rfl,cGx _⟩
theorem aG7(w:den tNw){l:lFl}(h:l.length=(aB w).length):jX w (bS w l):=⟨rfl,rfl,h,cGx _⟩
theorem aO0(w:den tNw)(r:Int)(p:den tPk):jX w (tI w r p):=aG7 w (cGu _)
theorem aX0(w:den tNw)(r eg:Int)(p:den tPk):jX w (gU w r eg p):=by
 unfold gU;split
 .exact⟨rfl,rfl,rfl,cGx _⟩
 .exact aDh w
theorem aUf(w:den tNw)(r inn:Int)(p:den tPk):jX w (proc0 w r inn p):=by
 unfold proc0;split
 .exact aX0 _ _ _ _
 .split
  .exact aO0 _ _ _
  .exact aDh w
theorem bCs(w:den tNw)(i:Nat)(x:den tIb):jX w (oQ w i x):=⟨rfl,rfl,rfl,cGx _⟩
theorem aXc(w:den tNw)(r inn:Int)(p:den tPk):jX w (dM w r inn p):=by
 unfold dM;split
 .exact aX0 _ _ _ _
 .split
  .split
   .unfold qX;split
    .exact jX.refl w
    .split
     .exact (bCs w _ _).trans (aUf _ _ _ _)
     .exact bCs w _ _
   .exact aO0 _ _ _
  .split
   .unfold tQ;split
    .exact (aUf _ _ _ _).trans (aDh _)
    .exact (aO0 _ _ _).trans (aDh _)
   .exact aDh w
theorem bIs(k:Nat)(w:den tNw):jX w (stepT k w):=by
 unfold stepT;split
 .split
  .exact (aG7 w (cHm)).trans (aXc _ _ _ _)
  .exact aG7 w (cHm)
 .exact jX.refl w
theorem aSd:∀(n k:Nat) (w:den tNw),jX w (tickL k n w)
 | 0,_,w=>jX.refl w
 | n+1,k,w=>by
  unfold tickL;exact (bIs k w).trans (aSd n (k+1) (stepT k w))
theorem bOz{w:den tNw}(h0:(0:Int)<=aJ w):jX w (cZ w):=by
 unfold cZ;split
 .exact jX.refl w
 .rename_i h;have e:wr (aJ w+1)=aJ w+1:=bE (by omega) (by omega);have a:jX w (tick0 w):=⟨rfl,rfl,rfl,by show aJ w<=wr (aJ w+1);omega⟩
  exact a.trans (aSd _ _ _)
theorem bTo{w:den tNw}{e:den gA}(h0:(0:Int)<=aJ w):jX w (doW w e).2:=by
 unfold doW;split
 .exact bOz h0
 .split
  .split
   .exact (aLj w _).trans (aXc _ _ _ _)
   .exact jX.refl w
  .split
   .split
    .exact (aLj w _).trans (aDh _)
    .exact jX.refl w
   .split
    .split
     .exact aLj w _
     .exact jX.refl w
    .split
     .show jX w (tJ w e.2.1 (e.1==5));unfold tJ;split
      .exact jX.refl w
      .exact⟨rfl,rfl,rfl,cGx _⟩
     .split
      .split
       .exact aLj w _
       .exact jX.refl w
      .split
       .split
        .exact aG7 w (cHm)
        .exact jX.refl w
       .exact jX.refl w
theorem Ran.book{v:den tNw}(hv:wB 3 v){l:mG}{w:den tNw}(h:Ran v l w):l.length<=1000->nK w=nK v:=by
 induction h with
 | nil=>intro _;rfl
 | snoc h he ih=>
  intro hl;simp only[cGh,cHf]at hl;have hr:=h.runV hv (by omega);exact (bTo hr.run.lo).book.trans (ih (by omega))
def fF:lPp->Nat
 | []=>0
 | x::l=>x.2.2.2.length+fF l
theorem aFy:∀a b:lPp,fF (a++b)=fF a+fF b
 | [],b=>(cGt _).symm
 | x::a,b=>by
  show x.2.2.2.length+fF (a++b)=x.2.2.2.length+fF a+fF b;rw[aFy a b];omega
theorem aNt:∀l:lPp,fF l<=tot (.sl tPp) l
 | []=>cGe _
 | x::l=>by
  have :=aNt l;rw[kW];have e:tot tPp x=x.2.2.2.length:=by
   show tot ti x.1+(tot ti x.2.1+(tot ti x.2.2.1+tot (.sl bV) x.2.2.2))=_;rw[kS (t:=bV) rfl];simp[qC]
  show x.2.2.2.length+fF l<=_;omega
theorem aO3:∀l:lPp,fF (kA l)=fF l
 | []=>rfl
 | x::l=>by
  have :=aO3 l;unfold kA at this ⊢;rw[cJe,cHh,aFy,this];show fF l+((pJ x).2.2.2.length+0)=x.2.2.2.length+fF l;unfold pJ;simp only[List.length_reverse];omega
def yK(p:den tPk):Nat:=fF (p.2.2.2.1.drop p.2.2.2.2.1.toNat) - p.2.2.2.2.2.1.toNat
theorem cB6{p:den tPk}(h:cI p=true):∃i j:Nat,p.2.2.2.2.1=(i:Int)/\p.2.2.2.2.2.1=(j:Int)/\j<(bG p).2.2.2.length/\fF (p.2.2.2.1.drop i)=(bG p).2.2.2.length+fF (p.2.2.2.1.drop (i+1)):=by
 obtain⟨i,j,h1,h2,h3,h4,_⟩:=gD h;refine⟨i,j,h1,h2,(cFz.1 h4).1,?_⟩;obtain⟨hlt,e⟩:=cFz.1 h3;rw[cIm hlt,e];rfl
theorem bE1{p:den tPk}(h:cI p=true)(h0:0<=cA p)(ha:dJ p=false):yK (adv p)+1=yK p:=by
 obtain⟨i,j,h1,h2,h3,h4⟩:=cB6 h;unfold adv;rw[ha,zW (show ¬ cA p<0 by omega),cHj,zS (by decide)];unfold yK;rw[h1,h2,cF2,cF2,h4];split
 .rename_i hl;unfold cS at hl;rw[h2]at hl;have hl:(j:Int)=((bG p).2.2.2.length:Int) - 1:=eq_of_beq hl;show fF (p.2.2.2.1.drop ((i:Int)+1).toNat) - (0:Int).toNat+1=_;rw[show ((i:Int)+1).toNat=i+1 by omega,show (0:Int).toNat=0 from rfl];omega
 .rename_i hl;show fF (p.2.2.2.1.drop (i:Int).toNat) - ((j:Int)+1).toNat+1=_;rw[show ((j:Int)+1).toNat=j+1 by omega,cF2,h4];omega
theorem aL4(t:den tTo)(p:den tPk):yK (sealed t p)=yK p:=by
 unfold sealed;split<;>rfl
theorem bF8{t:den tTo}{now:Int}:∀(n:Nat) (p:den tPk),(goC t now n p).1=0->yK (goC t now n p).2<=yK p
 | 0,p,h=>cHv (aL4 t p)
 | n+1,p,h=>by
  obtain⟨h1,h2⟩:=vN (xH h);obtain⟨e1,e2,_⟩:=xD t p;unfold goC at h|-;split at h
  .rename_i hc;rw[zT hc];simp only[cFw,cGw]at hc;have :=bF8 n _ h;have h3:=bE1 (p:=sealed t p) (e1.trans h1) (by rw[e2];exact h2) hc.2.2;rw[aL4]at h3;omega
  .rename_i hc;rw[zS hc];exact cHv (aL4 t p)
theorem bXf{t:den tTo}{r now dead inn:Int}{p:den tPk}(h:(fwd t r now dead inn p).1=0):yK (fwd t r now dead inn p).2.2.1+1<=yK p:=by
 unfold fwd at h|-;split at h
 .exact absurd h (show ¬ ((2:Int)=0) by decide)
 rename_i c1;rw[zS c1];split at h
 .exact absurd h (show ¬ ((3:Int)=0) by decide)
 rename_i c2;rw[zS c2];split at h
 .rename_i c3;simp only[cGw,beq_eq_false_iff_ne]at c3;exact absurd h c3
 rename_i c3;rw[zS c3];split at h
 .split at h<;>first | exact absurd h (show ¬ ((1:Int)=0) by decide) | exact absurd h (show ¬ ((2:Int)=0) by decide)
 rename_i c4;rw[zS c4];split at h
 .exact absurd h (show ¬ ((6:Int)=0) by decide)
 rename_i c5;rw[zS c5];split at h
 .exact absurd h (show ¬ ((7:Int)=0) by decide)
 rename_i c6;rw[zS c6];have c3:(aX t now p).1=0:=by simpa using c3
 have c4:dJ (aX t now p).2=false:=by simpa using c4
 obtain⟨q1,q2,_⟩:=aCa (t:=t) (now:=now) (p.2.2.2.1.length - p.2.2.2.2.1.toNat) p c3;have a:=bF8 (t:=t) (now:=now) (p.2.2.2.1.length - p.2.2.2.2.1.toNat) p c3;have b:=bE1 (p:=(aX t now p).2) q1 q2 c4;show yK (adv (aX t now p).2)+1<=yK p;have a:yK (aX t now p).2<=yK p:=a;omega
def aGo(p:den tPk):Nat:=1+yK p+cond (p.1==(1:Int)) 72 0
theorem bT0{t:den tTo}{now:Int}{dead:List Int}{r inn:Int}{p:den tPk}(h:((aG t now dead r inn p).1==0)=true):aGo (aG t now dead r inn p).2.2.1+1<=aGo p:=by
 have h:(fwd t r now (dI t dead r) inn p).1=0:=eq_of_beq (show ((fwd t r now (dI t dead r) inn p).1==0)=true from h);have a:=bXf h;have b:=(aBe t r now (dI t dead r) inn p).1;unfold aG aGo;rw[b];omega
theorem bPn(w:den tNw):aH (outW w)=aH w:=by
 unfold outW;split
 .rfl
 .exact aGs _ _ _ _
theorem iA.out{t:den tTo}{B k d:Nat}{w:den tNw}(h:iA t B k d w)(hd:d<=900000000):iA t (B+164) k (d+2) (outW w):=by
 unfold outW;split
 .exact h.mono (by omega) (cF8 _) (by omega)
 .rename_i x l hf;have hx:x∈aI w:=by rw[hf];exact cGb ..
  have hs:bX w (cC w l):=⟨rfl,rfl,id,λy hy=> .inl (by rw[hf];exact cF7 _ hy),λhn=>by
   rw[hf]at hn;show l.length<=150;simp only[cGv]at hn;omega⟩
  obtain⟨k1,k2,k3⟩:=aRy h.run.keep hf;have hk:=aMh (r:=x.1) (inn:=x.2.1) (p:=x.2.2) k1 k3;refine⟨h.run.step (hs.trans (bX.proc _ _ _ _)) hk,?_,?_,?_⟩
  .exact aI7 (h.inv.same (w':=cC w l) rfl rfl rfl λy hy=> .inl (by rw[hf];exact cF7 _ hy)) (h.inv.good x hx)
  .exact cM.proc (n:=d) (w:=cC w l) (cM.eq h.drop rfl) (by omega) _ _ _
  .rw[aGs];exact h.dead
theorem iA.del{t:den tTo}:∀(n:Nat) {B k d:Nat} {w:den tNw},iA t B k d w->d+2 * n<=900000000->iA t (B+n * 164) k (d+2 * n) (delW n w)
 | 0,B,k,d,w,h,_=>h.mono (by omega) (cF8 _) (by omega)
 | n+1,B,k,d,w,h,hd=>by
  unfold delW;split
  .exact h.mono (by omega) (cF8 _) (by omega)
  .exact (iA.del n (h.out (by omega)) (by omega)).mono (by rw[Nat.succ_mul];omega) (cF8 _) (by omega)
theorem iA.tick{t:den tTo}{B k d:Nat}{w:den tNw}(h:iA t B k d w)(hk:k<=1000)(hd:d<=900000000):iA t (B+656) (k+1) (d+8) (cZ w):=by
 refine⟨aXf h.run (by omega),aYd h.inv,?_,by rw[aMd];exact h.dead⟩;have hf:=h.run.keep.flows;unfold cZ;split
 .exact h.drop.mono (by omega)
 .refine cM.mono (n:=d+2 * (aB w).length) (cM.tickL (m:=0) (aB w).length 0 (n:=d) ?_ (by omega)) (by omega);exact cM.eq h.drop rfl
theorem iA.step{t:den tTo}{B k d:Nat}{w:den tNw}(h:iA t B k d w)(hk:k<=1000)(hd:d<=800000000):iA t (B+328656) (k+1) (d+4008) (delW 2000 (cZ w)):=
 ((h.tick hk (by omega)).del 2000 (by omega)).mono (by omega) (cF8 _) (by omega)
theorem aEh:∀(n:Nat) (w:den tNw),cD (n+1) w=nB (cD n w)
 | 0,_=>rfl
 | n+1,w=>aEh n (nB w)
def pC(p:den tPk):Nat:=if dD p then aGo p else 1
theorem aZ8(p:den tPk):1<=pC p:=by
 unfold pC aGo;split<;>omega
theorem bGk(p:den tPk):pC p<=140:=by
 unfold pC;split
 .rename_i hv;have ht:=aGz hv;have hk:tot tPk p=tot tPt p.2.2.2.1+tot (.sl tb) p.2.2.2.2.2.2.2.2.2:=by simp[oO,qC]
  have hh:=aNt p.2.2.2.1;have hh:fF p.2.2.2.1<=tot tPt p.2.2.2.1:=hh;have hr:yK p<=fF p.2.2.2.1:=by
   unfold yK;have e:=aFy (p.2.2.2.1.take p.2.2.2.2.1.toNat) (p.2.2.2.1.drop p.2.2.2.2.1.toNat);rw[cHe]at e;omega
  have hc:cond (p.1==(1:Int)) 72 0<=72:=by cases (p.1==(1:Int))<;>decide
  unfold aGo;omega
 .decide
theorem aWe{p:den tPk}(h:(p.1==(1:Int))=false)(hh:fF p.2.2.2.1<=70)(h0:yK p<=fF p.2.2.2.1):pC p<=71:=by
 unfold pC;split
 .unfold aGo;rw[h];show 1+yK p+0<=71;omega
 .decide
def aGm:lFy->Nat
 | []=>0
 | x::l=>pC x.2.2+aGm l
theorem aWz:∀(l:lFy) (x:den tFy),aGm (l++[x])=aGm l+pC x.2.2
 | [],x=>by show pC x.2.2+0=0+pC x.2.2;omega
 | y::l,x=>by
  show pC y.2.2+aGm (l++[x])=pC y.2.2+aGm l+pC x.2.2;rw[aWz l x];omega
theorem bFn:∀l:lFy,aGm l<=140 * l.length
 | []=>cF8 _
 | x::l=>by
  have :=bFn l;have :=bGk x.2.2;show pC x.2.2+aGm l<=140 * (l.length+1);omega
def gM(w:den tNw):Nat:=aGm (aI w)
theorem aWj(w:den tNw)(r eg:Int)(p:den tPk):gM (gU w r eg p)<=gM w+pC p:=by
 unfold gU;split
 .show aGm (aI w++[_])<=_;rw[aWz];exact cF8 _
 .exact cIy _ _
theorem aW3{t:den tTo}{now:Int}{dead:List Int}{r inn:Int}{p:den tPk}(h:((aG t now dead r inn p).1==0)=true):dD p=true/\pC (aG t now dead r inn p).2.2.1+1<=pC p:=by
 have hv:dD p=true:=aDi (t:=t) (r:=r) (now:=now) (dead:=dI t dead r) (inn:=inn) (by
  have h:((fwd t r now (dI t dead r) inn p).1==0)=true:=h;rw[eq_of_beq h];rfl)
 refine⟨hv,?_⟩;have a:=bT0 h;have b:pC (aG t now dead r inn p).2.2.1<=aGo (aG t now dead r inn p).2.2.1:=by
  unfold pC;split
  .exact cF8 _
  .unfold aGo;omega
 have c:pC p=aGo p:=by unfold pC;rw[zT hv]
 omega
theorem aTd(w:den tNw)(r inn:Int)(p:den tPk):gM (proc0 w r inn p)+1<=gM w+pC p:=by
 have hp:=aZ8 p;unfold proc0;split
 .rename_i hc;have :=(aW3 hc).2;have :=aWj w r (aG (nT w) (aJ w) (aH w) r inn p).2.1 (aG (nT w) (aJ w) (aH w) r inn p).2.2.1;omega
 .split
  .show gM w+1<=_;omega
  .show gM w+1<=_;omega
theorem bGo{kind res seq:Int}{p:den tPt}{pay:List Int}:yK (gF kind p res seq pay)=fF p:=by
 show fF (List.drop 0 p) - 0=fF p;rw[List.drop_zero];rfl
theorem bG0:∀(l:lPp) (i j:Nat),fF (aE3 l i j)<=fF l:=by
 intro l i j;unfold aE3;split
 .rename_i x hx;rw[aFy];have e:=aFy (l.take i) (l.drop i);rw[cHe]at e;obtain⟨hlt,e2⟩:=cFz.1 hx;rw[cIm hlt,e2]at e;have e:fF l=fF (l.take i)+(x.2.2.2.length+fF (l.drop (i+1))):=e;show fF (l.take i)+((x.2.2.2.take (j+1)).length+0)<=_;rw[List.length_take];omega
 .exact cGe _
theorem bDu(p:den tPk):fF (qA p)<=fF p.2.2.2.1:=by
 unfold qA;split
 .exact cGe _
 .exact bG0 _ _ _
theorem aTb{p:den tPk}(hv:dD p=true):fF p.2.2.2.1<=67:=by
 have ht:=aGz hv;have hk:tot tPk p=tot tPt p.2.2.2.1+tot (.sl tb) p.2.2.2.2.2.2.2.2.2:=by simp[oO,qC]
 have hh:=aNt p.2.2.2.1;have hh:fF p.2.2.2.1<=tot tPt p.2.2.2.1:=hh;omega
theorem bI3{w:den tNw}{r:Int}{p:den tPk}(h:fF p.2.2.2.1<=70):gM (qX w r p)<=gM w+70:=by
 unfold qX;split
 .omega
 .split
  .rename_i hb;have a:=aTd (oQ w (dS (aR w) r p.2.1).toNat (cO (jD w (dS (aR w) r p.2.1).toNat) p)) r 0 (jV (cO (jD w (dS (aR w) r p.2.1).toNat) p) p);have b:pC (jV (cO (jD w (dS (aR w) r p.2.1).toNat) p) p)<=71:=by
    refine aWe (aHa hb) ?_ ?_
    .unfold jV;rw[hb];show fF (kA p.2.2.2.1)<=70;rw[aO3];exact h
    .unfold jV;rw[hb];exact cHv bGo
   have e:gM (oQ w (dS (aR w) r p.2.1).toNat (cO (jD w (dS (aR w) r p.2.1).toNat) p))=gM w:=rfl;omega
  .exact cIy _ _
theorem bKr{w:den tNw}{r d:Int}{p:den tPk}(h:fF p.2.2.2.1<=70):gM (tQ w r d p)<=gM w+70:=by
 have e0:∀x,gM (wP x)=gM x:=λ_=>rfl
 unfold tQ;rw[e0];split
 .have a:=aTd w r 0 (cB r (aJ w) d p);have b:pC (cB r (aJ w) d p)<=71:=by
   refine aWe rfl ?_ ?_
   .show fF (kA (qA p))<=70;rw[aO3];exact cFv (bDu p) h
   .exact cHv bGo
  omega
 .exact cIy _ _
theorem aSk(w:den tNw)(r inn:Int)(p:den tPk):gM (dM w r inn p)+1<=gM w+pC p:=by
 have hp:=aZ8 p;unfold dM;split
 .rename_i hc;have :=(aW3 hc).2;have :=aWj w r (aG (nT w) (aJ w) (aH w) r inn p).2.1 (aG (nT w) (aJ w) (aH w) r inn p).2.2.1;omega
 .split
  .rename_i hc;split
   .rename_i h1;have hv:dD p=true:=aDi (t:=nT w) (r:=r) (now:=aJ w) (dead:=dI (nT w) (aH w) r) (inn:=inn) (by
     have h:((fwd (nT w) r (aJ w) (dI (nT w) (aH w) r) inn p).1==1)=true:=hc;rw[eq_of_beq h];rfl)
    have hh:=aTb hv;have e:(aG (nT w) (aJ w) (aH w) r inn p).2.2.1.2.2.2.1=p.2.2.2.1:=by
     obtain⟨i,j,b,e⟩:=aIc (nT w) r (aJ w) (dI (nT w) (aH w) r) inn p;unfold aG;rw[e];rfl
    have :=bI3 (w:=w) (r:=r) (p:=(aG (nT w) (aJ w) (aH w) r inn p).2.2.1) (by rw[e];omega);have e2:pC p=1+yK p+72:=by unfold pC aGo;rw[hv,h1];rfl
    omega
   .show gM w+1<=_;omega
  .split
   .rename_i hc;rw[cFw]at hc;have hv:dD p=true:=aDi (t:=nT w) (r:=r) (now:=aJ w) (dead:=dI (nT w) (aH w) r) (inn:=inn) (by
     have h:((fwd (nT w) r (aJ w) (dI (nT w) (aH w) r) inn p).1==7)=true:=hc.1;rw[eq_of_beq h];rfl)
    have hh:=aTb hv;have :=bKr (w:=w) (r:=r) (d:=(aG (nT w) (aJ w) (aH w) r inn p).2.2.2) (p:=p) (by omega);have e2:pC p=1+yK p+72:=by unfold pC aGo;rw[hv,hc.2];rfl
    omega
   .show gM w+1<=_;omega
theorem bOa{w:den tNw}{x:den tFy}{l:lFy}(hf:aI w=x::l):gM (outW w)+1<=gM w:=by
 unfold outW;rw[hf];show gM (dM (cC w l) x.1 x.2.1 x.2.2)+1<=_;have h:=aSk (cC w l) x.1 x.2.1 x.2.2;have e:gM w=pC x.2.2+aGm l:=by unfold gM;rw[hf];rfl
 have e2:gM (cC w l)=aGm l:=rfl;omega
theorem aX3:∀(n:Nat) (w:den tNw),aI (delW n w)=[]\/gM (delW n w)+n<=gM w
 | 0,w=> .inr (cF8 _)
 | n+1,w=>by
  unfold delW;split
  .rename_i h;exact .inl h
  .rename_i x l h;have :=bOa h;rcases aX3 n (outW w) with h1 | h1
   .exact .inl h1
   .exact .inr (by omega)
theorem bKw(k:Nat)(w:den tNw):gM (stepT k w)<=gM w+140:=by
 unfold stepT;split
 .rename_i f hf;split
  .have h:=aSk (bS w ((aB w).set k (aD f).1)) (aD f).1.1 0 (aD f).2.1;have h2:=bGk (aD f).2.1;have e:gM (bS w ((aB w).set k (aD f).1))=gM w:=rfl;omega
  .exact cIy _ _
 .exact cIy _ _
theorem aTc:∀(n k:Nat) (w:den tNw),gM (tickL k n w)<=gM w+140 * n
 | 0,_,_=>cF8 _
 | n+1,k,w=>by
  have h1:=bKw k w;have h2:=aTc n (k+1) (stepT k w);unfold tickL;omega
theorem bKe{w:den tNw}(hf:(aB w).length<=4):gM (cZ w)<=gM w+560:=by
 unfold cZ;split
 .omega
 .have h:=aTc (aB w).length 0 (tick0 w);have e:gM (tick0 w)=gM w:=rfl;have :140 * (aB w).length<=560:=by omega
  omega
theorem aSn{w:den tNw}(hf:(aB w).length<=4):aI (nB w)=[]\/gM (nB w)+1440<=gM w:=by
 have a:=bKe hf;rcases aX3 2000 (cZ w) with h | h
 .exact .inl h
 .exact .inr (by show gM (delW 2000 (cZ w))+1440<=_;omega)
theorem aQe{w:den tNw}(hf:(aB w).length<=4)(h0:aI w=[]):aI (nB w)=[]:=by
 have e:gM w=0:=by unfold gM;rw[h0];rfl
 rcases aSn hf with h | h
 .exact h
 .omega
def egs(x:den tPp):List q31:=x.2.2.2.map λh=>(h.1,pEg x h)
def ins(x:den tPp):List q31:=x.2.2.2.map λh=>(h.1,pIn x h)
def pD:lPp->List q31
 | []=>[]
 | x::l=>(egs x).dropLast++pD l
def aGg:lPp->List q31
 | []=>[]
 | x::l=>(ins x).tail++aGg l
def fut(p:den tPk):List q31:=match p.2.2.2.1.drop p.2.2.2.2.1.toNat with
 | []=>[]
 | x::l=>(egs x).dropLast.drop p.2.2.2.2.2.1.toNat++pD l
theorem aRx:∀a b:lPp,pD (a++b)=pD a++pD b
 | [],_=>rfl
 | x::a,b=>by
  show (egs x).dropLast++pD (a++b)=(egs x).dropLast++pD a++pD b;rw[aRx a b,cGj]
theorem bGa{kind res seq:Int}{p:den tPt}{pay:List Int}:fut (gF kind p res seq pay)=pD p:=by
 unfold fut;show (match List.drop 0 p with | []=>[] | x::l=>(egs x).dropLast.drop 0++pD l)=pD p;rw[List.drop_zero];cases p with
 | nil=>rfl
 | cons x l=>rfl
theorem bJc(p:den tPk):∃a,pD p.2.2.2.1=a++fut p:=by
 have e:=aRx (p.2.2.2.1.take p.2.2.2.2.1.toNat) (p.2.2.2.1.drop p.2.2.2.2.1.toNat);rw[cHe]at e;unfold fut;split
 .rename_i h;exact⟨_,by rw[cGq]⟩
 .rename_i x l h;rw[h]at e;refine⟨pD (p.2.2.2.1.take p.2.2.2.2.1.toNat)++(egs x).dropLast.take p.2.2.2.2.2.1.toNat,?_⟩;rw[e];show _++((egs x).dropLast++pD l)=_;rw[cGj,<- cGj (List.take _ _),cHe]
theorem bCe{p:den tPk}(h:cI p=true):∃i j:Nat,p.2.2.2.2.1=(i:Int)/\p.2.2.2.2.2.1=(j:Int)/\(bG p).2.2.2[j]? =some (cW p)/\p.2.2.2.1[i]? =some (bG p)/\fut p=(egs (bG p)).dropLast.drop j++pD (p.2.2.2.1.drop (i+1))/\cA p=(cW p).1:=by
 obtain⟨i,j,h1,h2,h3,h4,h5⟩:=gD h;refine⟨i,j,h1,h2,h4,h3,?_,h5⟩;obtain⟨hlt,e⟩:=cFz.1 h3;unfold fut;rw[h1,h2,cF2,cF2,cIm hlt,e]
theorem bX8{p:den tPk}(h:cI p=true)(h0:0<=cA p)(ha:dJ p=false)(hl:cS p=false):fut p=(cA p,pEg (bG p) (cW p))::fut (adv p):=by
 obtain⟨i,j,h1,h2,h3,h4,h5,h6⟩:=bCe h;have hlt:=(cFz.1 h3).1;have hne: ¬ (j:Int)=((bG p).2.2.2.length:Int) - 1:=by
  unfold cS at hl;rw[h2]at hl;simpa using hl
 have e:adv p=goTo p p.2.2.2.2.1 (p.2.2.2.2.2.1+1) p.2.2.2.2.2.2.1:=by
  unfold adv;rw[ha,zW (show ¬ cA p<0 by omega),hl];rfl
 have e2:fut (adv p)=(egs (bG p)).dropLast.drop (j+1)++pD (p.2.2.2.1.drop (i+1)):=by
  rw[e];unfold fut;show (match p.2.2.2.1.drop p.2.2.2.2.1.toNat with | []=>[] | x::l=>(egs x).dropLast.drop (p.2.2.2.2.2.1+1).toNat++pD l)=_;obtain⟨hlt,e⟩:=cFz.1 h4;rw[h1,h2,cF2,show ((j:Int)+1).toNat=j+1 by omega,cIm hlt,e]
 have hd:j<(egs (bG p)).dropLast.length:=by unfold egs;rw[cJf,cGu];omega
 rw[h5,e2,cIm hd,cIs];congr 1;rw[List.getElem_dropLast];unfold egs;rw[List.getElem_map,h6];obtain⟨_,e3⟩:=cFz.1 h3;rw[e3]
theorem bTy{p:den tPk}(h:cI p=true)(h0:0<=cA p)(ha:dJ p=false)(hl:cS p=true):fut (adv p)=fut p:=by
 obtain⟨i,j,h1,h2,h3,h4,h5,h6⟩:=bCe h;have hlt:=(cFz.1 h3).1;have he:(j:Int)=((bG p).2.2.2.length:Int) - 1:=by
  unfold cS at hl;rw[h2]at hl;simpa using hl
 have e:adv p=goTo p (p.2.2.2.2.1+1) 0 (sD p).2.2.1:=by
  unfold adv;rw[ha,zW (show ¬ cA p<0 by omega),hl];rfl
 have e2:fut (adv p)=pD (p.2.2.2.1.drop (i+1)):=by
  rw[e];unfold fut;show (match p.2.2.2.1.drop (p.2.2.2.2.1+1).toNat with | []=>[] | x::l=>(egs x).dropLast.drop (0:Int).toNat++pD l)=_;rw[h1,show ((i:Int)+1).toNat=i+1 by omega];cases p.2.2.2.1.drop (i+1) with
  | nil=>rfl
  | cons x l=>rfl
 have hd:(egs (bG p)).dropLast.drop j=[]:=by
  rw[List.drop_eq_nil_iff];unfold egs;rw[cJf,cGu];omega
 rw[h5,e2,hd,cGk]
theorem aK5(t:den tTo)(p:den tPk):fut (sealed t p)=fut p:=by
 unfold sealed;split<;>rfl
theorem aV8{t:den tTo}{now:Int}:∀(n:Nat) (p:den tPk),(goC t now n p).1=0->fut (goC t now n p).2=fut p
 | 0,p,h=>aK5 t p
 | n+1,p,h=>by
  obtain⟨h1,h2⟩:=vN (xH h);obtain⟨e1,e2,_⟩:=xD t p;unfold goC at h|-;split at h
  .rename_i hc;rw[zT hc];simp only[cFw,cGw]at hc;rw[aV8 n _ h,bTy (p:=sealed t p) (e1.trans h1) (by rw[e2];exact h2) hc.2.2 hc.2.1,aK5]
  .rename_i hc;rw[zS hc];exact aK5 t p
structure bZ6 (t:den tTo) (r now dead inn:Int) (p:den tPk):Prop where
 val:dD p=true
 sim:nP t p.2.2.2.1=true
 at_:cA p=r
 go:(aX t now p).1=0
theorem vK{t:den tTo}{r now dead inn:Int}{p:den tPk}(h:(fwd t r now dead inn p).1=0\/(fwd t r now dead inn p).1=1\/(fwd t r now dead inn p).1=7):bZ6 t r now dead inn p:=by
 unfold fwd at h;split at h
 .exact absurd h (show ¬ ((2:Int)=0\/(2:Int)=1\/(2:Int)=7) by decide)
 rename_i c1;split at h
 .exact absurd h (show ¬ ((3:Int)=0\/(3:Int)=1\/(3:Int)=7) by decide)
 split at h
 .rename_i c3;have hz: ¬ (aX t now p).1=0:=by simpa using c3
  have hle:(aX t now p).1<=5:=bC3 _ _;have h:(aX t now p).1=0\/(aX t now p).1=1\/(aX t now p).1=7:=h;have h45:∀(n:Nat) (p:den tPk),(goC t now n p).1=0\/(goC t now n p).1=4\/(goC t now n p).1=5:=by
   have hc:∀p,cN t now p=0\/cN t now p=4\/cN t now p=5:=λp=>by
    unfold cN;split
    .split
     .exact .inl rfl
     .exact .inr (.inr rfl)
    .exact .inr (.inl rfl)
   intro n
   induction n with
   | zero=>intro p;exact hc p
   | succ n ih=>
    intro p;unfold goC;split
    .exact ih _
    .exact hc p
  have h45:(aX t now p).1=0\/(aX t now p).1=4\/(aX t now p).1=5:=h45 _ _;omega
 rename_i c3;have c1:=eq_false_of_ne_true c1;simp only[Bool.or_eq_false_iff,Bool.not_eq_false']at c1;exact⟨c1.1,c1.2.1,eq_of_beq c1.2.2,by simpa using c3⟩
theorem aJo{t:den tTo}{p:den tPt}(h:nP t p=true):wfP t p=true:=(cFw _ _▸h:_/\_).1
theorem aW9{t:den tTo}{now:Int}{p:den tPk}(hw:wfP t p.2.2.2.1=true)(h:(aX t now p).1=0):(cS (aX t now p).2=false\/dJ (aX t now p).2=true)/\cA (aX t now p).2=cA p/\(aX t now p).2.2.2.2.1=p.2.2.2.1:=by
 obtain⟨h1,h2⟩:=vN (xH h);obtain⟨i,j,e1,e2,e3,_⟩:=gD h1;have hlt:=(cFz.1 e3).1;refine aQ3 _ p hw ?_ h;have key:∀(a:Int) (i n:Nat),a=(i:Int)->i<n->a+((n - a.toNat:Nat):Int)=(n:Int):=by
  intro a i n h1 h2;subst h1;omega
 exact key _ i _ e1 hlt
theorem bEk{t:den tTo}{r now dead inn:Int}{p:den tPk}(h:(fwd t r now dead inn p).1=0):fut p=(r,(fwd t r now dead inn p).2.1)::fut (fwd t r now dead inn p).2.2.1/\aB2 dead (fwd t r now dead inn p).2.1=false:=by
 have th:=vK (.inl h);obtain⟨g1,g2,g3⟩:=aW9 (aJo th.sim) th.go;unfold fwd at h|-;split at h
 .exact absurd h (show ¬ ((2:Int)=0) by decide)
 rename_i c1;rw[zS c1];split at h
 .exact absurd h (show ¬ ((3:Int)=0) by decide)
 rename_i c2;rw[zS c2];split at h
 .rename_i c3;simp only[cGw,beq_eq_false_iff_ne]at c3;exact absurd h c3
 rename_i c3;rw[zS c3];split at h
 .split at h<;>first | exact absurd h (show ¬ ((1:Int)=0) by decide) | exact absurd h (show ¬ ((2:Int)=0) by decide)
 rename_i c4;rw[zS c4];split at h
 .exact absurd h (show ¬ ((6:Int)=0) by decide)
 rename_i c5;rw[zS c5];split at h
 .exact absurd h (show ¬ ((7:Int)=0) by decide)
 rename_i c6;rw[zS c6];have c4:dJ (aX t now p).2=false:=by simpa using c4
 obtain⟨q1,q2,_⟩:=aCa (t:=t) (now:=now) (p.2.2.2.1.length - p.2.2.2.2.1.toNat) p th.go;have hl:cS (aX t now p).2=false:=g1.elim id λe=>by rw[c4]at e;cases e
 have a:=bX8 (p:=(aX t now p).2) q1 q2 c4 hl;have b:fut (aX t now p).2=fut p:=aV8 _ p th.go;rw[b,g2,th.at_]at a;exact⟨a,by simpa using c6⟩
def eOf(l:cE):List q31:=l.map λs=>(s.1,s.2.2)
def iOf(l:cE):List q31:=l.map λs=>(s.1,s.2.1)
def stp(x:den tPp)(h:den bV):den mY:=(h.1,pIn x h,pEg x h)
theorem bPw{nf:Bool}{x:den tPp}{k:Nat}{h:den bV}{b:cE}(hk:0<k):tS nf x k h b=b++[stp x h]:=by
 unfold tS;split
 .rw[zW (show ¬ k=0 by omega),Bool.false_and,Bool.and_false,zS (by decide)];rfl
 .rfl
theorem aRv(nf:Bool)(x:den tPp):∀(l:cR) (k:Nat) (a:cE),0<k->bO (λi h b=>tS nf x i h b) k l a=a++l.map (stp x)
 | [],_,a,_=>(cGq a).symm
 | h::l,k,a,hk=>by
  show bO _ (k+1) l (tS nf x k h a)=_;rw[bPw hk,aRv nf x l (k+1) _ (Nat.succ_pos k),cGj];rfl
theorem bDp(x:den tPp):jW false x []=x.2.2.2.map (stp x):=by
 unfold jW;cases h:x.2.2.2 with
 | nil=>rfl
 | cons y l=>
  show bO _ 1 l (tS false x 0 y [])=_;rw[aRv _ _ _ _ _ (by decide)];rfl
theorem bH4{x:den tPp}{a:cE}{z:den mY}{y:den bV}{l:cR}(hx:x.2.2.2=y::l)(ha:z.1=y.1):jW true x (a++[z])=a++((y.1,z.2.1,pEg x y):den mY)::l.map (stp x):=by
 unfold jW;rw[hx];show bO _ 1 l (tS true x 0 y (a++[z]))=_;rw[aRv _ _ _ _ _ (by decide)];unfold tS;rw[cHs];simp only[Bool.true_and,decide_true,ha,beq_self_eq_true,zV,cIa,cGj,cI3]
def aPo(t:den tTo):lPp->Prop
 | []=>True
 | [x]=>fU t x=true
 | x::y::l=>fU t x=true/\(aB8 x).1=(aEk y).1/\aPo t (y::l)
theorem aRi{t:den tTo}{p:lPp}(h:wfP t p=true):aPo t p:=by
 unfold wfP at h;have h:=(cFw _ _▸h:_/\_).2;have h:=(aAt (wG t p) p).1 h;have key:∀(l a:lPp),p=a++l->aPo t l:=by
  intro l
  induction l with
  | nil=>intro a _;trivial
  | cons x l ih=>
   intro a e;have hx:p[a.length]? =some x:=by rw[e,cIj (cF8 _),Nat.sub_self];rfl
   have v:=h _ _ hx;unfold wG at v;rw[cFw]at v;have rest:=ih (a++[x]) (by rw[e,cGj];rfl);cases l with
   | nil=>exact v.1
   | cons y l=>
    refine⟨v.1,?_,rest⟩;have hy:p[a.length+1]? =some y:=by rw[e,cIj (by omega),show a.length+1 - a.length=1 by omega];rfl
    have vy:=h _ _ hy;unfold wG at vy;rw[cFw,zW (show ¬ a.length+1=0 by omega),Bool.false_or,cI9,hx]at vy;have :=vy.2;unfold aLa at this;rw[cFw]at this;exact eq_of_beq this.2
 exact key p [] rfl
theorem bC0{t:den tTo}:∀(l:lPp) (y:den tPp) (k:Nat) (a:cE) (z:den mY),0<k->aPo t (y::l)->z.1=(aB8 y).1->
  ∃(b:cE) (w:den mY),bO (λk x a=>jW (decide (0<k)) x a) k l (a++[z])=b++[w]/\eOf b=eOf a++pD l/\iOf (b++[w])=iOf (a++[z])++aGg l
 | [],y,k,a,z,_,_,_=>⟨a,z,rfl,(cGq _).symm,(cGq _).symm⟩
 | x::l,y,k,a,z,hk,hj,hz=>by
  obtain⟨_,j2,j3⟩:=hj;have vx:fU t x=true:=by cases l with
   | nil=>exact j3
   | cons _ _=>exact j3.1
  have hp:=aAr vx;cases hx:x.2.2.2 with
  | nil=>rw[hx]at hp;exact absurd hp (by decide)
  | cons h hs=>
   have hh:aEk x=h:=by unfold aEk;rw[hx];rfl
   have e1:jW true x (a++[z])=a++((h.1,z.2.1,pEg x h):den mY)::hs.map (stp x):=bH4 hx (by rw[hz,j2,hh]);have e2:bO (λk x a=>jW (decide (0<k)) x a) k (x::l) (a++[z])=bO (λk x a=>jW (decide (0<k)) x a) (k+1) l (jW true x (a++[z])):=by
    show bO _ (k+1) l (jW (decide (0<k)) x (a++[z]))=_;rw[zX hk]
   rcases gH (((h.1,z.2.1,pEg x h):den mY)::hs.map (stp x)) with h0 | ⟨m,w,hm⟩
   .cases h0
   .have hw:w.1=(aB8 x).1:=by
     have hl:(((h.1,z.2.1,pEg x h):den mY)::hs.map (stp x)).getLast? =some w:=by rw[hm];exact cHs
     unfold aB8;rw[hx];rcases gH hs with rfl | ⟨hs',h',rfl⟩
     .simp only[List.map_nil,List.getLast?_singleton,Option.some.injEq]at hl;rw[<- hl];rfl
     .rw[cHh]at hl;have :((h.1,z.2.1,pEg x h):den mY)::(hs'.map (stp x)++[h'].map (stp x))=(((h.1,z.2.1,pEg x h):den mY)::hs'.map (stp x))++[stp x h']:=rfl;rw[this,cHs,Option.some.injEq]at hl;rw[<- hl];have :(h::(hs'++[h'])).length - 1=hs'.length+1:=by simp
      rw[this,List.getElem?_cons_succ,cIj (cF8 _),Nat.sub_self];rfl
    obtain⟨b,w',r1,r2,r3⟩:=bC0 l x (k+1) (a++m) w (Nat.succ_pos k) j3 hw;refine⟨b,w',?_,?_,?_⟩
    .rw[e2,e1,hm,<- cGj];exact r1
    .rw[r2];have e3:eOf m=(egs x).dropLast:=by
      have :eOf (m++[w])=egs x:=by
       rw[<- hm];unfold egs eOf;rw[hx];simp only[List.map_cons,cIi];rfl
      rw[<- this];unfold eOf;rw[cHh,List.map_singleton,cIa]
     show eOf (a++m)++pD l=eOf a++((egs x).dropLast++pD l);unfold eOf at e3 ⊢;rw[cHh,e3,cGj]
    .rw[r3];have e4:iOf (m++[w])=(z.1,z.2.1)::(ins x).tail:=by
      rw[<- hm];unfold ins iOf;rw[hx];simp only[List.map_cons,cIi,List.tail_cons];rw[show (z.1:Int)=h.1 by rw[hz,j2,hh]];rfl
     show iOf (a++m++[w])++aGg l=iOf (a++[z])++((ins x).tail++aGg l);have e5:iOf (a++m++[w])=iOf a++iOf (m++[w]):=by unfold iOf;rw[cGj,cHh]
     have e6:iOf (a++[z])=iOf a++[(z.1,z.2.1)]:=by unfold iOf;rw[cHh];rfl
     rw[e5,e4,e6,cGj,cGj];rfl
theorem bAg{t:den tTo}{p:lPp}(h:aPo t p)(hp:p≠[]):∃r r':Int,eOf (fD p)=pD p++[(r,0)]/\iOf (fD p)=(r',0)::aGg p:=by
 cases p with
 | nil=>exact absurd rfl hp
 | cons x l=>
  have vx:fU t x=true:=by cases l with
   | nil=>exact h
   | cons _ _=>exact h.1
  have hpos:=aAr vx;rcases gH (x.2.2.2.map (stp x)) with h0 | ⟨a,z,hz⟩
  .rw[List.map_eq_nil_iff]at h0;rw[h0]at hpos;exact absurd hpos (by decide)
  .have hzl:z.1=(aB8 x).1:=by
    rcases gH x.2.2.2 with e | ⟨hs,h',e⟩
    .rw[e]at hpos;exact absurd hpos (by decide)
    .have hl:(x.2.2.2.map (stp x)).getLast? =some z:=by rw[hz];exact cHs
     rw[e,cHh,List.map_singleton,cHs,Option.some.injEq]at hl;rw[<- hl];unfold aB8;rw[e,cGh,cHf,cI9,cIj (cF8 _),Nat.sub_self];rfl
   obtain⟨b,w,r1,r2,r3⟩:=bC0 l x 1 a z (by decide) h hzl;have e0:aBd (x::l)=b++[w]:=by
    show bO _ 1 l (jW false x [])=_;rw[bDp,hz];exact r1
   have e3:eOf a=(egs x).dropLast:=by
    have :eOf (a++[z])=egs x:=by
     rw[<- hz];unfold egs eOf;simp only[cIi];rfl
    rw[<- this];unfold eOf;rw[cHh,List.map_singleton,cIa]
   have e4:iOf (a++[z])=ins x:=by
    rw[<- hz];unfold ins iOf;simp only[cIi];rfl
   have hb:eOf b=pD (x::l):=by rw[r2,e3];rfl
   have hi:(iOf (b++[w])).tail=aGg (x::l):=by
    rw[r3,e4];cases hx:x.2.2.2 with
    | nil=>rw[hx]at hpos;exact absurd hpos (by decide)
    | cons h' hs'=>
     show ((ins x)++aGg l).tail=(ins x).tail++aGg l;unfold ins;rw[hx];rfl
   unfold fD;rw[e0];cases b with
   | nil=>
    refine⟨w.1,w.1,?_,?_⟩
    .rw[<- hb];rfl
    .rw[<- hi];rfl
   | cons c b=>
    have e5:aGk (c::b++[w])=(c.1,0,c.2.2)::b++[(w.1,w.2.1,0)]:=by
     unfold aGk;simp only[cIs];rw[show (((c.1,0,c.2.2):den mY)::(b++[w]))=(((c.1,0,c.2.2):den mY)::b)++[w] from rfl,cHs];simp only[cIa];rfl
    rw[e5];refine⟨w.1,c.1,?_,?_⟩
    .rw[<- hb];unfold eOf;simp
    .rw[<- hi];unfold iOf;simp
def num(x:Int×Int):Int:=wr (wr (8 * x.1)+x.2)
def aU3(s:den mY):List Int:=(cond (s.2.1 != 0) [num (s.1,s.2.1)] [])++(cond (s.2.2 != 0) [num (s.1,s.2.2)] [])
theorem aZ7(p:den tPt):fG p=(fD p).flatMap aU3:=by
 unfold fG;have :∀(l:cE) (k:Nat) (a:List Int),bO (λ_ s a=>aIe s a) k l a=a++l.flatMap aU3:=by
  intro l
  induction l with
  | nil=>intro k a;exact (cGq a).symm
  | cons s l ih=>
   intro k a;show bO _ (k+1) l (aIe s a)=_;rw[ih,cI8];unfold aIe aU3 num;cases s.2.1 != 0<;>cases s.2.2 != 0<;>simp
 exact (this _ _ _).trans (cGk _)
theorem bC7:∀l:cE,cIp (((eOf l).filter λx=>x.2 != 0).map num) (l.flatMap aU3)
 | []=>cIp.slnil
 | s::l=>by
  have ih:=bC7 l;rw[cI8];unfold aU3;rw[cGj];refine cIp.trans ?_ (List.sublist_append_right _ _);show cIp ((((s.1,s.2.2)::eOf l).filter λx=>x.2 != 0).map num) _;rw[cH9];cases h:(s.2.2 != 0) with
  | true=>
   simp only[zV];exact cIp.cons_cons _ ih
  | false=>
   simp only[cF1,zU];exact ih
theorem aLh{t:den tTo}:∀{p:lPp},aPo t p-> ∀x∈p,fU t x=true
 | [],_,x,hx=>by cases hx
 | [y],h,x,hx=>by rw[cF5]at hx;rw[hx];exact h
 | y::z::l,h,x,hx=>by
  rcases cFy.1 hx with rfl | hx
  .exact h.1
  .exact aLh h.2.2 x hx
theorem bW1{t:den tTo}{x:den tPp}(h:fU t x=true){y:Int×Int}(hy:y∈(egs x).dropLast):(y.2 != 0)=true:=by
 obtain⟨k,hk,e⟩:=List.getElem_of_mem hy;rw[List.getElem_dropLast]at e;unfold egs at e hk;rw[cJf,cGu]at hk;rw[List.getElem_map]at e;obtain⟨_,hl⟩:=aZq h (cFx (show k+1<x.2.2.2.length by omega));rcases hl with hl | hl
 .omega
 .unfold aJ9 at hl;rw[cFw,cI9,cFx (show k<x.2.2.2.length by omega)]at hl;rw[<- e];exact hl.1
theorem bBc{t:den tTo}:∀{p:lPp},(∀x∈p,fU t x=true)-> ∀y∈pD p,(y.2 != 0)=true
 | [],_,y,hy=>by cases hy
 | x::l,h,y,hy=>by
  rcases cF6.1 hy with hy | hy
  .exact bW1 (h x (cGb ..)) hy
  .exact bBc (λz hz=>h z (cF7 _ hz)) y hy
theorem bA7{t:den tTo}{p:lPp}(h:nP t p=true):(pD p).Nodup:=by
 have hw:=aJo h;have hj:=aRi hw
 by_cases hp:p=[]
 .subst hp;exact List.nodup_nil
 .obtain⟨r,r',e1,e2⟩:=bAg hj hp;unfold nP at h;have h:=(cFw _ _▸h:_/\_).2;have h:=(aAt (aEc (fG p)) (fG p)).1 h;have hn:(fG p).Nodup:=by
   refine cH1.2 λi j hi hj hij e=> ?_
   have a:=h j _ (cFx hj);unfold aEc at a;have :pF ((fG p).take j) (fG p)[j]=true:=by
    rw[aLn];refine cF9 (i:=i) ?_;rw[List.getElem?_take_of_lt hij,cFx hi,e]
   rw[this]at a;cases a
  rw[aZ7]at hn;have s:=bC7 (fD p);rw[e1,List.filter_append,List.filter_eq_self.2 (bBc (aLh hj))]at s;have s:=s.nodup hn;rw[cHh]at s;have s:=(cG4.1 s).1;exact List.Pairwise.of_map _ (λa b hab e=>hab (by rw[e])) s
theorem bXd{t:den tTo}{p:lPp}(h:wfP t p=true){n:Int}(hn:n∈fG p):∃x,(x∈pD p\/x∈aGg p)/\n=num x:=by
 have hj:=aRi h
 by_cases hp:p=[]
 .subst hp;cases hn
 .obtain⟨r,r',e1,e2⟩:=bAg hj hp;rw[aZ7,List.mem_flatMap]at hn;obtain⟨s,hs,hn⟩:=hn;unfold aU3 at hn;have me:(s.1,s.2.2)∈eOf (fD p):=cF4.2 ⟨s,hs,rfl⟩;have mi:(s.1,s.2.1)∈iOf (fD p):=cF4.2 ⟨s,hs,rfl⟩;rw[e1,cF6,cF5]at me;rw[e2,cFy]at mi;rcases cF6.1 hn with hn | hn
  .cases c:(s.2.1 != 0) with
   | false=>rw[c]at hn;cases hn
   | true=>
    rw[c]at hn;refine⟨_,.inr (mi.elim (λe=> ?_) id),cF5.1 hn⟩;have :s.2.1=0:=(Prod.ext_iff.1 e).2;rw[this]at c;cases c
  .cases c:(s.2.2 != 0) with
   | false=>rw[c]at hn;cases hn
   | true=>
    rw[c]at hn;refine⟨_,.inl (me.elim id λe=> ?_),cF5.1 hn⟩;have :s.2.2=0:=(Prod.ext_iff.1 e).2;rw[this]at c;cases c
theorem bQu{t:den tTo}{x:den tPp}(h:fU t x=true):egs (pJ x)=(ins x).reverse:=by
 have hk:∀y,pEg (pJ x) y=pIn x y:=λy=>by
  unfold fU at h;simp only[cFw]at h;obtain⟨a,b⟩:=aV.1 h.2.1;have e:iH (pJ x).1= !iH x.1:=by
   have key:∀k:Int,1<=k->k<=4->iH (aLs k)= !iH k:=by
    intro k h1 h2;have :k=1\/k=2\/k=3\/k=4:=by omega
    rcases this with e | e | e | e<;>rw[e]<;>decide
   exact key _ a b
  unfold pEg pIn;rw[e];cases iH x.1<;>rfl
 unfold egs ins;rw[show (pJ x).2.2.2=x.2.2.2.reverse from rfl,List.map_reverse];congr 1;exact List.map_congr_left λy _=>by rw[hk]
theorem bBp{t:den tTo}:∀{p:lPp},(∀x∈p,fU t x=true)-> ∀y∈aGg p,y∈pD (kA p)
 | [],_,y,hy=>by cases hy
 | x::l,h,y,hy=>by
  have e:kA (x::l)=kA l++[pJ x]:=by unfold kA;rw[cJe,cHh];rfl
  rw[e,aRx,cF6];rcases cF6.1 hy with hy | hy
  .refine .inr ?_;show y∈(egs (pJ x)).dropLast++[];rw[cGq,bQu (h x (cGb ..))];cases hc:ins x with
   | nil=>rw[hc]at hy;cases hy
   | cons a b=>
    rw[hc]at hy;rw[cJe,cIa];exact List.mem_reverse.2 hy
  .exact .inl (bBp (λz hz=>h z (cF7 _ hz)) y hy)
def aJf(x:Int×Int):Prop:=0<=x.1/\x.1<=7/\0<=x.2/\x.2<=6
theorem bLo{x:Int×Int}(h:aJf x):num x=8 * x.1+x.2:=by
 obtain⟨a,b,c,d⟩:=h;unfold num;rw[show wr (8 * x.1)=8 * x.1 from wri (by omega) (by omega)];exact wri (by omega) (by omega)
theorem bX0{x y:Int×Int}(hx:aJf x)(hy:aJf y)(h:num x=num y):x=y:=by
 rw[bLo hx,bLo hy]at h;obtain⟨a,b,c,d⟩:=hx;obtain⟨a',b',c',d'⟩:=hy;exact Prod.ext (by omega) (by omega)
theorem aXe{t:den tTo}{x:den tPp}(h:fU t x=true){y:den bV}(hy:y∈x.2.2.2):aJf (y.1,pEg x y)/\aJf (y.1,pIn x y):=by
 unfold fU at h;simp only[cFw]at h;obtain⟨_,_,_,_,h5,_⟩:=h;obtain⟨k,hk,e⟩:=List.getElem_of_mem hy;have a:=(aAt (aD2 t x.2.2.2) x.2.2.2).1 h5 k y (by rw[<- e];exact cFx hk);unfold aD2 jZ at a;simp only[cFw]at a;obtain⟨⟨a1,a2,a3,_⟩,_⟩:=a;obtain⟨b1,b2⟩:=aV.1 a1;obtain⟨b3,b4⟩:=aV.1 a2;obtain⟨b5,b6⟩:=aV.1 a3;unfold pEg pIn aJf;cases iH x.1
 .exact⟨⟨b1,b2,b5,b6⟩,⟨b1,b2,b3,b4⟩⟩
 .exact⟨⟨b1,b2,b3,b4⟩,⟨b1,b2,b5,b6⟩⟩
theorem aZv{t:den tTo}:∀{p:lPp},(∀x∈p,fU t x=true)-> ∀y,(y∈pD p\/y∈aGg p)->aJf y
 | [],_,y,hy=>by rcases hy with hy | hy<;>cases hy
 | x::l,h,y,hy=>by
  have hx:=h x (cGb ..);have ih:=aZv (p:=l) (λz hz=>h z (cF7 _ hz)) y;rcases hy with hy | hy
  .rcases cF6.1 hy with hy | hy
   .have :=List.dropLast_subset _ hy;unfold egs at this;obtain⟨z,hz,rfl⟩:=cF4.1 this;exact (aXe hx hz).1
   .exact ih (.inl hy)
  .rcases cF6.1 hy with hy | hy
   .have :=List.mem_of_mem_tail hy;unfold ins at this;obtain⟨z,hz,rfl⟩:=cF4.1 this;exact (aXe hx hz).2
   .exact ih (.inr hy)
def cCl(t:den tTo)(now:Int)(dead:List Int):Nat->Int->Int->den tPk->Prop
 | 0,_,_,_=>False
 | n+1,r,inn,p=>(aG t now dead r inn p).1=1\/((aG t now dead r inn p).1=0/\cCl t now dead n (remote t r (aG t now dead r inn p).2.1).1 (remote t r (aG t now dead r inn p).2.1).2 (aG t now dead r inn p).2.2.1)
def Arr(t:den tTo)(now:Int)(dead:List Int)(r inn:Int)(p:den tPk):Prop:= ∃n,cCl t now dead n r inn p
theorem Arr.here{t:den tTo}{now:Int}{dead:List Int}{r inn:Int}{p:den tPk}(h:(aG t now dead r inn p).1=1):Arr t now dead r inn p:=⟨1,.inl h⟩
theorem Arr.step{t:den tTo}{now:Int}{dead:List Int}{r inn:Int}{p:den tPk}(h:(aG t now dead r inn p).1=0)(k:Arr t now dead (remote t r (aG t now dead r inn p).2.1).1 (remote t r (aG t now dead r inn p).2.1).2 (aG t now dead r inn p).2.2.1):Arr t now dead r inn p:=by
 obtain⟨n,k⟩:=k;exact⟨n+1,.inr ⟨h,k⟩⟩
theorem Arr.or{t:den tTo}{now:Int}{dead:List Int}{r inn:Int}{p:den tPk}(h:Arr t now dead r inn p):(aG t now dead r inn p).1=1\/((aG t now dead r inn p).1=0/\Arr t now dead (remote t r (aG t now dead r inn p).2.1).1 (remote t r (aG t now dead r inn p).2.1).2 (aG t now dead r inn p).2.2.1):=by
 obtain⟨n,h⟩:=h;cases n with
 | zero=>exact h.elim
 | succ n=>exact h.elim .inl λe=> .inr ⟨e.1,n,e.2⟩
theorem Arr.ind{t:den tTo}{now:Int}{dead:List Int}{M:Int->Int->den tPk->Prop}(h1:∀r inn p,(aG t now dead r inn p).1=1->M r inn p)
  (h2:∀r inn p,(aG t now dead r inn p).1=0->Arr t now dead (remote t r (aG t now dead r inn p).2.1).1 (remote t r (aG t now dead r inn p).2.1).2 (aG t now dead r inn p).2.2.1->M (remote t r (aG t now dead r inn p).2.1).1 (remote t r (aG t now dead r inn p).2.1).2 (aG t now dead r inn p).2.2.1->M r inn p)
  {r inn:Int} {p:den tPk} (h:Arr t now dead r inn p):M r inn p:=by
 obtain⟨n,h⟩:=h
 induction n generalizing r inn p with
 | zero=>exact h.elim
 | succ n ih=>
  rcases h with h | ⟨h,k⟩
  .exact h1 _ _ _ h
  .exact h2 _ _ _ h ⟨n,k⟩ (ih k)
theorem bBq{t:den tTo}{now:Int}{dead:List Int}:∀(n:Nat) (r inn:Int) (p:den tPk) (st:cE),(aRq t now dead n r inn p st).1=1->Arr t now dead r inn p
 | 0,r,inn,p,st,h=>absurd (show (0:Int)=1 from h) (by decide)
 | n+1,r,inn,p,st,h=>by
  unfold aRq at h;cases c1:(aG t now dead r inn p).1==1 with
  | true=>exact .here (eq_of_beq c1)
  | false=>
   cases c0:(aG t now dead r inn p).1==0 with
   | true=>
    rw[c0,c1]at h;simp only[Bool.true_or,zV,cF1,zU]at h;exact .step (eq_of_beq c0) (bBq n _ _ _ _ h)
   | false=>
    rw[c0,c1]at h;simp only[cHj,cF1,zU]at h;rw[h]at c1;exact absurd c1 (by decide)
theorem bEy{t:den tTo}{a n b:Int}(h1:a<=n)(h2:n<=b){p:den tPk}(ha:cN t a p=0)(hb:cN t b p=0):cN t n p=0:=by
 unfold cN at ha hb ⊢;split at ha
 .rename_i hs;rw[zT hs]at hb ⊢;split at ha
  .rename_i ta;split at hb
   .rename_i tb;have :wT p n=true:=by
     unfold wT at ta tb ⊢;simp only[cFw,cGw,decide_eq_false_iff_not,zR]at ta tb ⊢;exact⟨ta.1,leI (cHb ta.2.1 h1),leI (cHb h2 tb.2.2)⟩
    rw[zT this]
   .exact absurd hb (show ¬ (5:Int)=0 by decide)
  .exact absurd ha (show ¬ (5:Int)=0 by decide)
 .exact absurd ha (show ¬ (4:Int)=0 by decide)
theorem bGf{t:den tTo}{a n b:Int}(h1:a<=n)(h2:n<=b):∀(k:Nat) (p:den tPk),(goC t a k p).1=0->(goC t b k p).1=0->goC t n k p=goC t a k p
 | 0,p,ha,hb=>by
  unfold goC at ha hb ⊢;rw[bEy h1 h2 ha hb,show cN t a p=0 from ha]
 | k+1,p,ha,hb=>by
  have ca:=xH ha;have cb:=xH hb;have cn:=bEy h1 h2 ca cb;unfold goC at ha hb ⊢;rw[ca]at ha ⊢;rw[cb]at hb;rw[cn];split at ha
  .rename_i hc;rw[zT hc]at hb ⊢;rw[zT hc];exact bGf h1 h2 k _ ha hb
  .rename_i hc;rw[zS hc];exact (zS hc).symm
theorem aR3{t:den tTo}{a n b:Int}(h1:a<=n)(h2:n<=b){dead:List Int}{r inn:Int}{p:den tPk}(ha:(aG t a dead r inn p).1=0\/(aG t a dead r inn p).1=1)(hb:(aG t b dead r inn p).1=0\/(aG t b dead r inn p).1=1):aG t n dead r inn p=aG t a dead r inn p:=by
 have ga:=(vK (t:=t) (r:=r) (now:=a) (dead:=dI t dead r) (inn:=inn) (p:=p) (ha.elim .inl λe=> .inr (.inl e))).go;have gb:=(vK (t:=t) (r:=r) (now:=b) (dead:=dI t dead r) (inn:=inn) (p:=p) (hb.elim .inl λe=> .inr (.inl e))).go;have e:aX t n p=aX t a p:=bGf h1 h2 _ p ga gb;unfold aG fwd;rw[e]
theorem Arr.code{t:den tTo}{now:Int}{dead:List Int}{r inn:Int}{p:den tPk}(h:Arr t now dead r inn p):(aG t now dead r inn p).1=0\/(aG t now dead r inn p).1=1:=by
 exact h.or.elim .inr λe=> .inl e.1
theorem Arr.mid{t:den tTo}{a n b:Int}(h1:a<=n)(h2:n<=b){dead:List Int}{r inn:Int}{p:den tPk}(ha:Arr t a dead r inn p)(hb:Arr t b dead r inn p):Arr t n dead r inn p:=by
 refine Arr.ind (M:=λr inn p=>Arr t b dead r inn p->Arr t n dead r inn p) (λr inn p h hb=> ?_) (λr inn p h k ih hb=> ?_) ha hb
 .have e:=aR3 h1 h2 (.inr h) hb.code;exact .here (by rw[e];exact h)
 .have e:=aR3 h1 h2 (.inl h) hb.code;have e2:=aR3 (cHb h1 h2) (cGx b) (.inl h) hb.code;refine .step (by rw[e];exact h) ?_;rw[e];rcases hb.or with g | ⟨g,kb⟩
  .rw[e2,h]at g;exact absurd g (by decide)
  .rw[e2]at kb;exact ih kb
def pE(p:den tPk)(m:Int×Int×Int×List Int):den tPk:=(m.1,p.2.1,p.2.2.1,p.2.2.2.1,p.2.2.2.2.1,p.2.2.2.2.2.1,p.2.2.2.2.2.2.1,m.2.1,m.2.2.1,m.2.2.2)
def okM(m:Int×Int×Int×List Int):Bool:=inR m.1 1 3&&(inR m.2.1 0 100000&&(inR m.2.2.1 0 100000&&decide ((m.2.2.2.length:Int)<=40)))
theorem bPg{p:den tPk}{m:Int×Int×Int×List Int}(h:dD p=true)(hm:okM m=true):dD (pE p m)=true:=by
 unfold dD at h|-;unfold okM at hm;simp only[cFw]at h hm ⊢;exact⟨hm.1,h.2.1,h.2.2.1,h.2.2.2.1,h.2.2.2.2.1,h.2.2.2.2.2.1,h.2.2.2.2.2.2.1,hm.2.1,hm.2.2.1,hm.2.2.2⟩
theorem aSg(t:den tTo)(p:den tPk)(m:Int×Int×Int×List Int):sealed t (pE p m)=pE (sealed t p) m:=by
 have e:zD t (pE p m)=zD t p:=rfl;unfold sealed;rw[e];split<;>rfl
theorem bFk(p:den tPk)(m:Int×Int×Int×List Int):adv (pE p m)=pE (adv p) m:=by
 have e1:cA (pE p m)=cA p:=rfl;have e2:dJ (pE p m)=dJ p:=rfl;have e3:cS (pE p m)=cS p:=rfl;unfold adv;rw[e1,e2,e3];split
 .rfl
 .split<;>rfl
theorem bFu{t:den tTo}{now:Int}(m:Int×Int×Int×List Int):∀(n:Nat) (p:den tPk),goC t now n (pE p m)=((goC t now n p).1,pE (goC t now n p).2 m)
 | 0,p=>by
  unfold goC;rw[aSg];rfl
 | n+1,p=>by
  have e:cN t now (pE p m)=cN t now p:=rfl;have e2:cS (pE (sealed t p) m)=cS (sealed t p):=rfl;have e3:dJ (pE (sealed t p) m)=dJ (sealed t p):=rfl;unfold goC;rw[aSg,e,e2,e3,bFk,bFu m n];split<;>rfl
theorem bXm{t:den tTo}{r now dead inn:Int}{p:den tPk}{m:Int×Int×Int×List Int}(h:dD p=true)(hm:dD (pE p m)=true):fwd t r now dead inn (pE p m)=((fwd t r now dead inn p).1,(fwd t r now dead inn p).2.1,pE (fwd t r now dead inn p).2.2.1 m,(fwd t r now dead inn p).2.2.2):=by
 have g:aX t now (pE p m)=((aX t now p).1,pE (aX t now p).2 m):=bFu m _ p;have e1:cA (pE p m)=cA p:=rfl;have e2:aGr (pE p m)=aGr p:=rfl;have e3:∀q,dJ (pE q m)=dJ q:=λ_=>rfl
 have e4:∀q,pEg (bG (pE q m)) (cW (pE q m))=pEg (bG q) (cW q):=λ_=>rfl
 have e5:∀q:den tPk,(pE q m).2.2.1=q.2.2.1:=λ_=>rfl
 have e6:(pE p m).2.2.2.1=p.2.2.2.1:=rfl;unfold fwd;rw[h,hm,g,e1,e2,e6];simp only[e3,e4,e5,bFk]
 repeat' split
 all_goals rfl
theorem bDb{t:den tTo}{now:Int}{dead:List Int}{r inn:Int}{p:den tPk}{m:Int×Int×Int×List Int}(h:dD p=true)(hm:okM m=true):aG t now dead r inn (pE p m)=((aG t now dead r inn p).1,(aG t now dead r inn p).2.1,pE (aG t now dead r inn p).2.2.1 m,(aG t now dead r inn p).2.2.2):=bXm h (bPg h hm)
theorem Arr.thru{t:den tTo}{now:Int}{dead:List Int}{r inn:Int}{p:den tPk}(h:Arr t now dead r inn p):bZ6 t r now (dI t dead r) inn p:=vK (h.code.elim .inl λe=> .inr (.inl e))
theorem Arr.set{t:den tTo}{now:Int}{dead:List Int}{r inn:Int}{p:den tPk}{m:Int×Int×Int×List Int}(hm:okM m=true)(h:Arr t now dead r inn p):Arr t now dead r inn (pE p m):=by
 refine Arr.ind (M:=λr inn p=>Arr t now dead r inn (pE p m)) (λr inn p h=> ?_) (λr inn p h k ih=> ?_) h
 .have e:=bDb (now:=now) (dead:=dead) (r:=r) (inn:=inn) (Arr.here h).thru.val hm (t:=t);exact .here (by rw[e];exact h)
 .have e:=bDb (now:=now) (dead:=dead) (r:=r) (inn:=inn) (Arr.step h k).thru.val hm (t:=t);refine .step (by rw[e];exact h) ?_;rw[e];exact ih
theorem aIw{t:den tTo}{now:Int}{dead:List Int}{p:den tPt}(h:aKw t now dead p=true):Arr t now dead (ends p).1 0 (gF 1 p 0 0 []):=bBq 30 _ _ _ _ (eq_of_beq h)
theorem Arr.alive{t:den tTo}{now:Int}{dead:List Int}{r inn:Int}{p:den tPk}(h:Arr t now dead r inn p):∀x∈fut p,aB2 (dI t dead x.1) x.2=false:=by
 refine Arr.ind (M:=λr inn p=> ∀x∈fut p,aB2 (dI t dead x.1) x.2=false) (λr inn p h=> ?_) (λr inn p h k ih=> ?_) h
 .intro x hx;have th:=vK (t:=t) (r:=r) (now:=now) (dead:=dI t dead r) (inn:=inn) (p:=p) (.inr (.inl h));have h:(fwd t r now (dI t dead r) inn p).1=1:=h;have :fut p=[]:=by
   obtain⟨g1,g2,g3⟩:=aW9 (aJo th.sim) th.go;have b:fut (aX t now p).2=fut p:=aV8 _ p th.go;have hl:dJ (aX t now p).2=true:=by
    unfold fwd at h;split at h
    .exact absurd h (show ¬ ((2:Int)=1) by decide)
    split at h
    .exact absurd h (show ¬ ((3:Int)=1) by decide)
    split at h
    .rw[th.go]at h;exact absurd h (show ¬ ((0:Int)=1) by decide)
    split at h
    .rename_i c;exact c
    split at h
    .exact absurd h (show ¬ ((6:Int)=1) by decide)
    split at h
    .exact absurd h (show ¬ ((7:Int)=1) by decide)
    .exact absurd h (show ¬ ((0:Int)=1) by decide)
   obtain⟨q1,q2,_⟩:=aCa (t:=t) (now:=now) (p.2.2.2.1.length - p.2.2.2.2.1.toNat) p th.go;obtain⟨i,j,f1,f2,f3,f4,f5,f6⟩:=bCe (p:=(aX t now p).2) q1;unfold dJ cS aFt at hl;simp only[cFw]at hl;obtain⟨_,h1,h2⟩:=hl;rw[f2]at h1;rw[f1]at h2;have h1:(j:Int)=((bG (aX t now p).2).2.2.2.length:Int) - 1:=eq_of_beq h1;have h2:(i:Int)=((aX t now p).2.2.2.2.1.length:Int) - 1:=eq_of_beq h2;rw[<- b,f5];have a1:(egs (bG (aX t now p).2)).dropLast.drop j=[]:=by
    rw[List.drop_eq_nil_iff];unfold egs;rw[cJf,cGu];omega
   have a2:List.drop (i+1) (aX t now p).2.2.2.2.1=[]:=by
    rw[List.drop_eq_nil_iff];omega
   rw[a1,a2];rfl
  rw[this]at hx;cases hx
 .obtain⟨e1,e2⟩:=bEk (t:=t) (r:=r) (now:=now) (dead:=dI t dead r) (inn:=inn) (p:=p) h;intro x hx;rw[e1]at hx;rcases cFy.1 hx with rfl | hx
  .exact e2
  .exact ih x hx
theorem aT9{l:lUs}{id s d i' s' d':Int}(h: ¬ (id=i'/\s=s'/\d=d')):dK (rW l id s d) i' s' d'=dK l i' s' d':=by
 have hx:jC i' s' d' (id,s,d,1)=false:=by
  cases c:jC i' s' d' (id,s,d,1) with
  | false=>rfl
  | true=>exact absurd (aBj.1 c) (λ⟨a,b,c⟩=>h ⟨a,b,c⟩)
 rcases aMc l id s d with ⟨_,_,_,h4⟩ | ⟨j,x,_,h2,h3,_,h5⟩
 .rw[h4];unfold dK;rw[aNk];rcases aMv l i' s' d' with ⟨p1,_⟩ | ⟨k,y,p1,p2,_⟩
  .rw[p1,zT (show (-1:Int)<0 by decide),zT (show (-1:Int)<0 by decide)];have :plc i' s' d' l.length [((id,s,d,1):den tUs)]= -1:=by
    unfold plc;rw[hx];rfl
   rw[this];rfl
  .simp only[p1,zS (show ¬ (k:Int)<0 by omega),cF2,cJc (cFz.1 p2).1]
 .rw[h5];unfold dK;rw[aMq (aQ4 h2 _)];rcases aMv l i' s' d' with ⟨p1,_⟩ | ⟨k,y,p1,p2,p3⟩
  .rw[p1];rfl
  .simp only[p1,zS (show ¬ (k:Int)<0 by omega),cF2]
   by_cases hk:j=k
   .subst hk;rw[h2]at p2;injection p2 with p2;subst p2;obtain⟨a1,a2,a3⟩:=aBj.1 h3;obtain⟨b1,b2,b3⟩:=aBj.1 p3;exact absurd ⟨a1.symm.trans b1,a2.symm.trans b2,a3.symm.trans b3⟩ h
   .rw[cI5 hk]
noncomputable def mT(d:Int×Int)(p:den tPk):Nat:=(if d∈fut p then 1 else 0)+(if p.1==1 then 1 else 0)
noncomputable def aJ6(d:Int×Int):lFy->Nat
 | []=>0
 | x::l=>mT d x.2.2+aJ6 d l
theorem aXt(d:Int×Int):∀(l:lFy) (x:den tFy),aJ6 d (l++[x])=aJ6 d l+mT d x.2.2
 | [],x=>by show mT d x.2.2+0=0+mT d x.2.2;omega
 | y::l,x=>by
  show mT d y.2.2+aJ6 d (l++[x])=mT d y.2.2+aJ6 d l+mT d x.2.2;rw[aXt d l x];omega
theorem aVf(d:Int×Int)(p:den tPk):mT d p<=2:=by
 unfold mT;split<;>split<;>decide
theorem aLl{d:Int×Int}{p:den tPk}(h:(p.1==(1:Int))=false):mT d p<=1:=by
 unfold mT;rw[h];split<;>decide
theorem aJg{d:Int×Int}{p:den tPk}(h:(p.1==(1:Int))=true):1<=mT d p:=by
 unfold mT;rw[h];split<;>decide
structure Mid (t:den tTo) (τ:Int) (dead:List Int) (e:Int×Int->Nat) (m:Nat) (w:den tNw):Prop where
 top:nT w=t
 now:aJ w=τ
 dead:aH w=dead
 cap:∀s d:Int,6<=free (nG w).2.1 (nG w).1 s d τ
 bud:∀d:Int×Int,dK (nG w).2.2 0 d.1 d.2+((aJ6 d (aI w)+e d:Nat):Int)<=6
 low:∀d:Int×Int,0<=dK (nG w).2.2 0 d.1 d.2
 len:(aI w).length+m<=4
theorem Mid.mono{t:den tTo}{τ:Int}{dead:List Int}{e e':Int×Int->Nat}{m m':Nat}{w:den tNw}(h:Mid t τ dead e m w)(he:∀d,e' d<=e d)(hm:m'<=m):Mid t τ dead e' m' w:=
 ⟨h.top,h.now,h.dead,h.cap,λd=>by have :=h.bud d;have :=he d;omega,h.low,by have :=h.len;omega⟩
theorem Mid.flows{t:den tTo}{τ:Int}{dead:List Int}{e:Int×Int->Nat}{m:Nat}{w:den tNw}(h:Mid t τ dead e m w)(l:lFl):Mid t τ dead e m (bS w l):=⟨h.top,h.now,h.dead,h.cap,h.bud,h.low,h.len⟩
theorem Mid.box{t:den tTo}{τ:Int}{dead:List Int}{e:Int×Int->Nat}{m:Nat}{w:den tNw}(h:Mid t τ dead e m w)(k:Nat)(x:den tIb):Mid t τ dead e m (oQ w k x):=⟨h.top,h.now,h.dead,h.cap,h.bud,h.low,h.len⟩
theorem Mid.drop{t:den tTo}{τ:Int}{dead:List Int}{e:Int×Int->Nat}{m:Nat}{w:den tNw}(h:Mid t τ dead e m w):Mid t τ dead e m (wP w):=⟨h.top,h.now,h.dead,h.cap,h.bud,h.low,h.len⟩
theorem Mid.send{t:den tTo}{τ:Int}{dead:List Int}{e:Int×Int->Nat}{m:Nat}{w:den tNw}{r inn:Int}{p:den tPk}(h:Mid t τ dead (λd=>mT d p+e d) (m+1) w)(hc:(aG t τ dead r inn p).1=0):
  aI (gU w r (aG t τ dead r inn p).2.1 (aG t τ dead r inn p).2.2.1)=aI w++[((remote t r (aG t τ dead r inn p).2.1).1,(remote t r (aG t τ dead r inn p).2.1).2,(aG t τ dead r inn p).2.2.1)]/\
  aB (gU w r (aG t τ dead r inn p).2.1 (aG t τ dead r inn p).2.2.1)=aB w/\aR (gU w r (aG t τ dead r inn p).2.1 (aG t τ dead r inn p).2.2.1)=aR w/\dR (gU w r (aG t τ dead r inn p).2.1 (aG t τ dead r inn p).2.2.1)=dR w/\
  Mid t τ dead e m (gU w r (aG t τ dead r inn p).2.1 (aG t τ dead r inn p).2.2.1):=by
 have th:=vK (t:=t) (r:=r) (now:=τ) (dead:=dI t dead r) (inn:=inn) (p:=p) (.inl hc);obtain⟨f1,_⟩:=bEk (t:=t) (r:=r) (now:=τ) (dead:=dI t dead r) (inn:=inn) (p:=p) hc;have f1:fut p=(r,(aG t τ dead r inn p).2.1)::fut (aG t τ dead r inn p).2.2.1:=f1;obtain⟨fk,_⟩:=aBe t r τ (dI t dead r) inn p;have fk:(aG t τ dead r inn p).2.2.1.1=p.1:=fk;have nd:(fut p).Nodup:=by
  obtain⟨a,ea⟩:=bJc p;have :=bA7 th.sim;rw[ea]at this;exact (cG4.1 this).2.1
 rw[f1,List.nodup_cons]at nd;generalize hp':(aG t τ dead r inn p).2.2.1=p' at *;generalize hg:(aG t τ dead r inn p).2.1=eg at *;have one:mT (r,eg) p=1+mT (r,eg) p':=by
  unfold mT;rw[f1,fk,zT (cGb ..),zS nd.1];omega
 have oth:∀d,mT d p'<=mT d p:=λd=>by
  unfold mT;rw[f1,fk]
  by_cases hd:d∈fut p'
  .rw[zT hd,zT (cF7 _ hd)];exact cF8 _
  .rw[zS hd];exact cH5 (cGe _) _
 have hb:=h.bud (r,eg);have hl:=h.low (r,eg);simp only at hb hl;rw[one]at hb;have hfree:=h.cap r eg;have hlt:dK (nG w).2.2 0 r eg<pB (nG w) 0 r eg (aJ w):=by
  rw[h.now];show _<free (nG w).2.1 (nG w).1 r eg τ;omega
 have hn:decide ((aI w).length<150)=true:=by have :=h.len;rw[zR];omega
 have tr:∃u,oC (nG w) p'.2.2.2.2.2.2.2.1 r eg (aJ w)=((nG w).1,true,(nG w).2.1,u)/\dK u 0 r eg<=dK (nG w).2.2 0 r eg+1/\0<=dK u 0 r eg/\ ∀d:Int×Int,d≠(r,eg)->dK u 0 d.1 d.2=dK (nG w).2.2 0 d.1 d.2:=by
  have more:dK (rW (nG w).2.2 0 r eg) 0 r eg=dK (nG w).2.2 0 r eg+1:=bM1 ⟨hl,by omega⟩;have far:∀d:Int×Int,d≠(r,eg)->dK (rW (nG w).2.2 0 r eg) 0 d.1 d.2=dK (nG w).2.2 0 d.1 d.2:=λd hd=>aT9 λ⟨_,a,b⟩=>hd (Prod.ext a.symm b.symm)
  unfold oC
  by_cases hu:dK (nG w).2.2 p'.2.2.2.2.2.2.2.1 r eg<pB (nG w) p'.2.2.2.2.2.2.2.1 r eg (aJ w)
  .rw[zT hu];refine⟨_,rfl,?_⟩
   by_cases h0:p'.2.2.2.2.2.2.2.1=(0:Int)
   .rw[h0];exact⟨by omega,by omega,far⟩
   .have :∀s d,dK (rW (nG w).2.2 p'.2.2.2.2.2.2.2.1 r eg) 0 s d=dK (nG w).2.2 0 s d:=λs d=>aT9 λ⟨a,_,_⟩=>h0 a
    rw[this];exact⟨by omega,hl,λd _=>this _ _⟩
  .rw[zS hu,zT hlt];exact⟨_,rfl,by omega,by omega,far⟩
 obtain⟨u,t1,t2,t3,t4⟩:=tr;have e0:gU w r eg p'=(nT w,nK w,((nG w).1,(nG w).2.1,u),aJ w,aH w,aI w++[((remote (nT w) r eg).1,(remote (nT w) r eg).2,p')],aB w,aR w,dR w):=by
  unfold gU;rw[t1,hn];rfl
 rw[e0];refine⟨by rw[h.top],rfl,rfl,rfl,h.top,h.now,h.dead,h.cap,λd=> ?_,λd=> ?_,?_⟩
 .show dK u 0 d.1 d.2+((aJ6 d (aI w++[((remote (nT w) r eg).1,(remote (nT w) r eg).2,p')])+e d:Nat):Int)<=6;rw[aXt];show dK u 0 d.1 d.2+((aJ6 d (aI w)+mT d p'+e d:Nat):Int)<=6
  by_cases hd:d=(r,eg)
  .subst hd;show dK u 0 r eg+_<=_;omega
  .have a:=h.bud d;have b:=oth d;rw[t4 d hd];omega
 .show 0<=dK u 0 d.1 d.2
  by_cases hd:d=(r,eg)
  .subst hd;exact t3
  .rw[t4 d hd];exact h.low d
 .show (aI w++[_]).length+m<=4;have :=h.len;simp only[cGh,cHf];omega
theorem Mid.step{t:den tTo}{τ:Int}{dead:List Int}{e:Int×Int->Nat}{m:Nat}{w:den tNw}(h:Mid t τ dead e m w)(r inn:Int)(p:den tPk):aG (nT w) (aJ w) (aH w) r inn p=aG t τ dead r inn p:=by rw[h.top,h.now,h.dead]
theorem Mid.proc0{t:den tTo}{τ:Int}{dead:List Int}{e:Int×Int->Nat}{m:Nat}{w:den tNw}{r inn:Int}{p:den tPk}(h:Mid t τ dead (λd=>mT d p+e d) (m+1) w):Mid t τ dead e m (proc0 w r inn p):=by
 have h':Mid t τ dead e m w:=h.mono (λd=>cHr _ _) (cGz _);unfold Go.Proofs.YtnkjolpkcmgcaaaGreat.proc0;rw[h.step r inn p];split
 .rename_i c;exact (h.send (eq_of_beq c)).2.2.2.2
 .split
  .exact h'.flows _
  .exact h'.drop
theorem Mid.data{t:den tTo}{τ:Int}{dead:List Int}{e:Int×Int->Nat}{m:Nat}{w:den tNw}{r:Int}{p:den tPk}(h:Mid t τ dead (λd=>1+e d) (m+1) w):Mid t τ dead e m (qX w r p):=by
 have h':Mid t τ dead e m w:=h.mono (λd=>cHr _ _) (cGz _);unfold qX;split
 .exact h'
 .split
  .rename_i hb;refine Mid.proc0 ((h.box _ _).mono (λd=> ?_) (cF8 _));exact cH5 (aLl (aHa hb)) _
  .exact h'.box _ _
theorem Mid.note{t:den tTo}{τ:Int}{dead:List Int}{e:Int×Int->Nat}{m:Nat}{w:den tNw}{r d:Int}{p:den tPk}(h:Mid t τ dead (λd=>1+e d) (m+1) w):Mid t τ dead e m (tQ w r d p):=by
 have h':Mid t τ dead e m w:=h.mono (λd=>cHr _ _) (cGz _);unfold tQ;split
 .exact (Mid.proc0 (h.mono (λd=>cH5 (aLl rfl) _) (cF8 _))).drop
 .exact (h'.flows _).drop
theorem Mid.proc{t:den tTo}{τ:Int}{dead:List Int}{e:Int×Int->Nat}{m:Nat}{w:den tNw}{r inn:Int}{p:den tPk}(h:Mid t τ dead (λd=>mT d p+e d) (m+1) w):Mid t τ dead e m (dM w r inn p):=by
 have h':Mid t τ dead e m w:=h.mono (λd=>cHr _ _) (cGz _);unfold dM;rw[h.step r inn p];split
 .rename_i c;exact (h.send (eq_of_beq c)).2.2.2.2
 .split
  .split
   .rename_i h1;exact Mid.data (h.mono (λd=>cH5 (aJg h1) _) (cF8 _))
   .exact h'.flows _
  .split
   .rename_i h1;rw[cFw]at h1;exact Mid.note (h.mono (λd=>cH5 (aJg h1.2) _) (cF8 _))
   .exact h'.drop
theorem Mid.take{t:den tTo}{τ:Int}{dead:List Int}{e:Int×Int->Nat}{m:Nat}{w:den tNw}{x:den tFy}{l:lFy}(h:Mid t τ dead e m w)(hf:aI w=x::l):Mid t τ dead (λd=>mT d x.2.2+e d) (m+1) (cC w l):=by
 refine⟨h.top,h.now,h.dead,h.cap,λd=> ?_,h.low,?_⟩
 .have a:=h.bud d;rw[hf]at a;have a:dK (nG w).2.2 0 d.1 d.2+((mT d x.2.2+aJ6 d l+e d:Nat):Int)<=6:=a;show dK (nG w).2.2 0 d.1 d.2+((aJ6 d l+(mT d x.2.2+e d):Nat):Int)<=6;omega
 .have a:=h.len;rw[hf]at a;simp only[cGv]at a;show l.length+(m+1)<=4;omega
theorem Mid.out{t:den tTo}{τ:Int}{dead:List Int}{e:Int×Int->Nat}{m:Nat}{w:den tNw}(h:Mid t τ dead e m w):Mid t τ dead e m (outW w):=by
 unfold outW;split
 .exact h
 .rename_i x l hf;exact (h.take hf).proc
theorem Mid.tickT{t:den tTo}{τ:Int}{dead:List Int}{e:Int×Int->Nat}{m:Nat}{w:den tNw}(k:Nat)(h:Mid t τ dead (λd=>2+e d) (m+1) w):Mid t τ dead e m (stepT k w):=by
 have h':Mid t τ dead e m w:=h.mono (λd=>cHr _ _) (cGz _);unfold stepT;split
 .split
  .exact Mid.proc ((h.flows _).mono (λd=>cH5 (aVf _ _) _) (cF8 _))
  .exact h'.flows _
 .exact h'
theorem bM7{w:den tNw}{t:den tTo}{τ:Int}{dead:List Int}(h1:nT w=t)(h2:aJ w=τ)(h3:aH w=dead)(hc:∀s d:Int,6<=free (nG w).2.1 (nG w).1 s d τ)(hu:(nG w).2.2=[])(hf:aI w=[]):Mid t τ dead (λ_=>2 * 3) 3 w:=by
 have u0:∀s d,dK ([]:lUs) 0 s d=0:=λ_ _=>rfl
 refine⟨h1,h2,h3,hc,λd=> ?_,λd=> ?_,?_⟩
 .rw[hu,hf,u0];show (0:Int)+((0+2 * 3:Nat):Int)<=6;decide
 .rw[hu,u0];exact cGx _
 .rw[hf];decide
def aP3(t:den tTo)(τ:Int)(dead:List Int)(p:den tPt):Prop:=Arr t τ dead (ends p).1 0 (gF 1 p 0 0 [])/\Arr t τ dead (ends (kA p)).1 0 (gF 1 (kA p) 0 0 [])
def aI4(t:den tTo)(dead:List Int)(b:List Int):Prop:= ∃r d u:Int,b=tW (r,d,u)/\aB2 (dI t dead r) d=true
theorem bNi{b:List Int}{p n:Nat}(h:b[p]? =some (n:Int))(hn:n<128):rv b p=((n:Int),((p+1:Nat):Int),true):=by
 show aMo b p 6 0 0=_;unfold aMo;rw[Nat.add_zero,h];simp only[cF2];rw[zT hn];have e:decide (1000000000000<0+n % 128 * 2 ^ (7 * 0))=false:=by
  rw[decide_eq_false_iff_not];have :n % 128<128:=Nat.mod_lt _ (by decide);simp only[Nat.mul_zero,Nat.pow_zero,Nat.mul_one];omega
 rw[e];have e2:0+n % 128 * 2 ^ (7 * 0)=n:=by
  rw[Nat.mod_eq_of_lt hn];simp
 rw[e2];simp
theorem bOq{k n:Nat}(h:n<128):vi k n=[(n:Int)]:=by
 cases k with
 | zero=>rfl
 | succ k=>unfold vi;rw[zT h]
theorem bLp{x:den tRv}(h:(qW (tW x)).2.2.2=true):(tP (tW x)).1=x.1/\(tP (tW x)).2.1=x.2.1/\dO x=true:=by
 cases hv:dO x with
 | false=>
  have e:tW x=[]:=by unfold tW;rw[hv];rfl
  rw[e]at h;exact absurd h (by decide)
 | true=>
  have hv':=hv;unfold dO at hv';simp only[cFw]at hv';obtain⟨a1,a2⟩:=aV.1 hv'.1;obtain⟨b1,b2⟩:=aV.1 hv'.2.1;obtain⟨c1,c2⟩:=aV.1 hv'.2.2;have big:∀(a:Int),0<=a->a<=1000000->inR a 0 1000000000000=true:=λa h1 h2=>aV.2 ⟨h1,by omega⟩
  obtain⟨m,hm⟩:=cGr a1;obtain⟨n,hn⟩:=cGr (show (0:Int)<=x.2.1 from cHb (by decide) b1);have hm7:m<=7:=by rw[hm]at a2;omega
  have hn6:n<=6:=by rw[hn]at b2;omega
  have e:tW x=(m:Int)::(n:Int)::vi 5 x.2.2.toNat:=by
   unfold tW;rw[hv,zT rfl];unfold aJ0;simp only[List.foldl_cons,List.foldl_nil];unfold aCm;rw[big _ a1 (leI (cHb a2 (by decide))),big _ (cHb (by decide) b1) (leI (cHb b2 (by decide))),big _ c1 c2,hm,hn];simp only[zV,cF2];rw[bOq (show m<128 by omega),bOq (show n<128 by omega)];rfl
  have r0:rv (tW x) 0=((m:Int),((0+1:Nat):Int),true):=bNi (by rw[e];rfl) (by omega);have r1:rv (tW x) 1=((n:Int),((1+1:Nat):Int),true):=bNi (by rw[e];rfl) (by omega);have d:∃q b l,aKe (tW x)=(q,b,l)/\(b=false/\l=[]\/ ∃z,l=[(m:Int),(n:Int),z]):=by
   unfold aKe;rw[r0];simp only[zZ,cF2,cGt];rw[r1];simp only[zZ,cF2];cases (rv (tW x) (1+1)).2.2 with
   | false=>exact⟨_,_,_,rfl,.inl ⟨rfl,rfl⟩⟩
   | true=>exact⟨_,_,_,rfl,.inr ⟨_,rfl⟩⟩
  obtain⟨q,b,l,d1,d2⟩:=d;unfold tP;unfold qW at h|-;rw[d1]at h ⊢;rcases d2 with ⟨rfl,rfl⟩ | ⟨z,rfl⟩
  .exact absurd h Bool.false_ne_true
  .cases b with
   | false=>exact absurd h Bool.false_ne_true
   | true=>
    simp only at h|-;cases c1:q==((tW x).length:Int) with
    | false=>rw[c1]at h;exact absurd h Bool.false_ne_true
    | true=>
     rw[c1]at h;cases c2:dO ((m:Int),(n:Int),z) with
     | false=>rw[c2]at h;exact absurd h Bool.false_ne_true
     | true=>exact⟨hm.symm,hn.symm,trivial⟩
theorem bJg{t:den tTo}{τ:Int}{dead:List Int}{p:lPp}(h:aP3 t τ dead p):wfP t p=true/\ ∀x,(x∈pD p\/x∈aGg p)->aJf x/\aB2 (dI t dead x.1) x.2=false:=by
 have hw:wfP t p=true:=aJo h.1.thru.sim;have hv:=aLh (aRi hw);refine⟨hw,λx hx=>⟨aZv hv x hx,?_⟩⟩;rcases hx with hx | hx
 .exact h.1.alive x (by rw[bGa];exact hx)
 .exact h.2.alive x (by rw[bGa];exact bBp hv x hx)
theorem cAt{t:den tTo}{τ:Int}{dead:List Int}{p:lPp}(h:aP3 t τ dead p){b:List Int}(hb:aI4 t dead b)(hd:(qW b).2.2.2=true):oZ p (tP b)=false:=by
 obtain⟨r,d,u,rfl,h7⟩:=hb;obtain⟨e1,e2,e3⟩:=bLp hd;obtain⟨hw,ha⟩:=bJg h;cases hc:oZ p (tP (tW (r,d,u))) with
 | false=>rfl
 | true=>
  exfalso;unfold oZ at hc;rw[cFw,e1,e2,aLn]at hc;obtain⟨x,hx,e⟩:=bXd hw hc.2;obtain⟨d1,d2⟩:=ha x hx;unfold dO at e3;simp only[cFw]at e3;obtain⟨a1,a2⟩:=aV.1 e3.1;obtain⟨b1,b2⟩:=aV.1 e3.2.1;have :(r,d)=x:=bX0 ⟨a1,a2,cHb (by decide) b1,b2⟩ d1 e;rw[<- this]at d2;rw[h7]at d2;cases d2
theorem bH2{t:den tTo}{τ:Int}{dead:List Int}{f:den tFl}{q:den tPk}(h:aP3 t τ dead ((f.2.2.2.2.2.1[f.2.2.2.2.2.2.1.toNat]?).getD []))(hq:q.1=(3:Int)->aI4 t dead q.2.2.2.2.2.2.2.2.2):
  (iY f q).2.2.2.1=f.2.2.2.1/\(iY f q).2.2.2.2.2.2.1=f.2.2.2.2.2.2.1/\(iY f q).2.2.2.2.2.2.2.1=f.2.2.2.2.2.2.2.1/\(iY f q).2.2.2.2.2.1=f.2.2.2.2.2.1:=by
 unfold iY;cases c:(q.1==3&&(qW q.2.2.2.2.2.2.2.2.2).2.2.2) with
 | false=>exact⟨rfl,rfl,rfl,rfl⟩
 | true=>
  rw[cFw]at c;have hh:aMx f (tP q.2.2.2.2.2.2.2.2.2)=false:=by
   unfold aMx;rw[cAt h (hq (eq_of_beq c.1)) c.2,Bool.and_false]
  rw[hh];exact⟨rfl,rfl,rfl,rfl⟩
theorem bSv{t:den tTo}{r now dead inn:Int}{p:den tPk}(h:(fwd t r now dead inn p).1=7):aB2 dead (fwd t r now dead inn p).2.2.2=true:=by
 have th:=vK (.inr (.inr h));unfold fwd at h|-;split at h
 .exact absurd h (show ¬ ((2:Int)=7) by decide)
 rename_i c1;rw[zS c1];split at h
 .exact absurd h (show ¬ ((3:Int)=7) by decide)
 rename_i c2;rw[zS c2];split at h
 .rw[th.go]at h;exact absurd h (show ¬ ((0:Int)=7) by decide)
 rename_i c3;rw[zS c3];split at h
 .split at h<;>first | exact absurd h (show ¬ ((1:Int)=7) by decide) | exact absurd h (show ¬ ((2:Int)=7) by decide)
 rename_i c4;rw[zS c4];split at h
 .exact absurd h (show ¬ ((6:Int)=7) by decide)
 rename_i c5;rw[zS c5];split at h
 .rename_i c6;rw[zT c6];exact c6
 .exact absurd h (show ¬ ((0:Int)=7) by decide)
def fQ(f:den tFl):Int:=f.2.2.2.1
def fR(f:den tFl):Int:=f.2.2.2.2.2.2.1
def eZ(f:den tFl):Int:=f.2.2.2.2.2.2.2.1
structure Aim where
 t:den tTo
 now:Int
 dead:List Int
 src:Int
 dst:Int
 ms:lMs
 ps:lPt
 c:Nat
 q:den tPt
 i:Nat
 m:Int
structure rV (A:Aim):Prop where
 at_:A.ps[A.c]? =some A.q
 work:aP3 A.t A.now A.dead A.q
 fst_:aHy A.q=some A.src
 lst_:aCh A.q=some A.dst
 few:A.ms.length<=20
 some_:A.ps.length<=24
structure FC (A:Aim) (f:den tFl):Prop where
 src:f.1=A.src
 dst:f.2.1=A.dst
 ms:f.2.2.2.2.1=A.ms
 ps:f.2.2.2.2.2.1=A.ps
 a0:0<=fQ f
 a1:fQ f<=(A.ms.length:Int)
 c0:0<=fR f
 c1:fR f<(A.ps.length:Int)
 w0:0<=eZ f
 w1:eZ f<=4
def tX(n c cur w:Int):Int:=if cur=c then (if w=0 then 0 else n) else if cur<c then c - cur else n+c - cur
def muF(A:Aim)(f:den tFl):Int:=2 * ((A.ms.length:Int) - fQ f)+(5 - eZ f)+6 * tX A.ps.length A.c (fR f) (eZ f)
theorem bB5{n c cur w:Int}(h0:0<=c)(h1:c<n)(h2:0<=cur)(h3:cur<n):0<=tX n c cur w/\tX n c cur w<=n:=by
 unfold tX;split
 .split<;>omega
 .split<;>omega
theorem bPq{n c cur w:Int}(h0:0<=c)(h1:c<n)(h2:0<=cur)(h3:cur<n):tX n c cur 0<=tX n c cur w:=by
 unfold tX;split
 .rw[zT rfl];split<;>omega
 .exact cGx _
theorem bB7{n c cur w:Int}(h:cur≠c):tX n c cur w=tX n c cur 0:=by
 unfold tX;rw[zS h,zS h]
def nxI(n cur:Int):Int:=if cur+1>=n then 0 else cur+1
theorem aNl{n c cur w:Int}(h0:0<=c)(h1:c<n)(h2:0<=cur)(h3:cur<n)(h4:cur≠c\/w≠0):0<=nxI n cur/\nxI n cur<n/\1<=tX n c cur w/\tX n c (nxI n cur) 0+1<=tX n c cur w:=by
 unfold tX nxI
 by_cases e:cur=c
 .have hw:w≠0:=h4.elim (λh=>absurd e h) id;subst e;rw[zT rfl,zS hw]
  by_cases g:cur+1>=n
  .rw[zT g]
   by_cases z:(0:Int)=cur
   .rw[zT z,zT rfl];omega
   .rw[zS z,zT (by omega)];omega
  .rw[zS g,zS (by omega),zS (by omega)];omega
 .rw[zS e]
  by_cases g:cur+1>=n
  .rw[zT g,zS (by omega)]
   by_cases z:(0:Int)=c
   .rw[zT z,zT rfl];omega
   .rw[zS z,zT (by omega)];omega
  .rw[zS g]
   by_cases z:cur+1=c
   .rw[zT z,zT rfl,zT (by omega)];omega
   .rw[zS z]
    by_cases y:cur<c
    .rw[zT y,zT (by omega)];omega
    .rw[zS y,zS (by omega)];omega
theorem aE6{A:Aim}{f:den tFl}(hA:rV A)(h:FC A f):lN f=nxI A.ps.length (fR f):=by
 have a:=h.c0;have b:=h.c1;have c:=hA.some_;have e:wr (fR f+1)=fR f+1:=wri (by omega) (by omega);have e2:wr (f.2.2.2.2.2.2.1+1)=fR f+1:=e;unfold lN nxI;rw[e2,h.ps]
theorem rV.cn{A:Aim}(h:rV A):(A.c:Int)<(A.ps.length:Int):=by
 have :=(cFz.1 h.at_).1;omega
theorem FC.work{A:Aim}{f:den tFl}(hA:rV A)(h:FC A f)(hc:fR f=A.c):aP3 A.t A.now A.dead ((f.2.2.2.2.2.1[f.2.2.2.2.2.2.1.toNat]?).getD []):=by
 have e:f.2.2.2.2.2.2.1=(A.c:Int):=hc;rw[h.ps,e,cF2,hA.at_];exact hA.work
def Rel(A:Aim)(p:den tPk):Prop:=(p.1=(1:Int)/\p.2.1=A.src/\p.2.2.1=A.dst)\/(p.1=(2:Int)/\p.2.1=A.dst/\p.2.2.1=A.src)
theorem bCy{A:Aim}{f:den tFl}{p:den tPk}(h:FC A f)(ha:aEf f p=true):Rel A p/\p.2.2.2.2.2.2.2.2.1=fQ f/\fQ f<(A.ms.length:Int):=by
 unfold aEf at ha;simp only[cFw,beq_iff_eq]at ha;obtain⟨h1,h2,h3,h4,h5⟩:=ha;obtain⟨_,h6⟩:=aV.1 h5;rw[h.ms]at h6;have h6:fQ f<=(A.ms.length:Int) - 1:=h6;exact⟨.inr ⟨h1,h2.trans h.dst,h3.trans h.src⟩,h4,by omega⟩
theorem bWa{A:Aim}{f:den tFl}{p:den tPk}(hA:rV A)(h:FC A f)(ha:aEf f p=true):FC A (kG f p)/\fQ (kG f p)=fQ f+1/\fR (kG f p)=fR f/\eZ (kG f p)=0:=by
 obtain⟨_,_,h1⟩:=bCy h ha;have a0:=h.a0;have hl:=hA.few;have e:wr (fQ f+1)=fQ f+1:=wri (by omega) (by omega);have e1:kG f p=(f.1,f.2.1,f.2.2.1,wr (f.2.2.2.1+1),f.2.2.2.2.1,f.2.2.2.2.2.1,f.2.2.2.2.2.2.1,0,f.2.2.2.2.2.2.2.2):=by unfold kG;rw[ha];rfl
 have e2:fQ (kG f p)=fQ f+1:=by rw[e1];exact e
 rw[e1]at e2 ⊢;exact⟨⟨h.src,h.dst,h.ms,h.ps,by rw[e2];omega,by rw[e2];omega,h.c0,h.c1,cGx _,by show (0:Int)<=4;decide⟩,e2,rfl,rfl⟩
theorem bL2{A:Aim}{f:den tFl}{p:den tPk}(hA:rV A)(h:FC A f)(hr:p.1=(3:Int)->aI4 A.t A.dead p.2.2.2.2.2.2.2.2.2):FC A (iY f p)/\fQ (iY f p)=fQ f/\
  ((fR (iY f p)=fR f/\eZ (iY f p)=eZ f)\/(fR f≠A.c/\fR (iY f p)=nxI A.ps.length (fR f)/\eZ (iY f p)=0)):=by
 have cn:=hA.cn
 by_cases hc:fR f=A.c
 .obtain⟨k1,k2,k3,k4⟩:=bH2 (h.work hA hc) hr;have k1:fQ (iY f p)=fQ f:=k1;have k2:fR (iY f p)=fR f:=k2;have k3:eZ (iY f p)=eZ f:=k3;obtain⟨m1,m2,m3⟩:=aXa f p;exact⟨⟨m1.trans h.src,m2.trans h.dst,m3.trans h.ms,k4.trans h.ps,by rw[k1];exact h.a0,by rw[k1];exact h.a1,by rw[k2];exact h.c0,by rw[k2];exact h.c1,by rw[k3];exact h.w0,by rw[k3];exact h.w1⟩,k1,.inl ⟨k2,k3⟩⟩
 .have hn:=aNl (n:=A.ps.length) (c:=A.c) (cur:=fR f) (w:=0) (by omega) cn h.c0 h.c1 (.inl hc);unfold iY;cases c:(p.1==3&&(qW p.2.2.2.2.2.2.2.2.2).2.2.2) with
  | false=>exact⟨h,rfl,.inl ⟨rfl,rfl⟩⟩
  | true=>
   rw[zZ];cases c2:aMx f (tP p.2.2.2.2.2.2.2.2.2) with
   | false=>exact⟨⟨h.src,h.dst,h.ms,h.ps,h.a0,h.a1,h.c0,h.c1,h.w0,h.w1⟩,rfl,.inl ⟨rfl,rfl⟩⟩
   | true=>
    have e:lN f=nxI A.ps.length (fR f):=aE6 hA h;refine⟨⟨h.src,h.dst,h.ms,h.ps,h.a0,h.a1,?_,?_,cGx _,(by show (0:Int)<=4;decide)⟩,rfl,.inr ⟨hc,e,rfl⟩⟩
    .show 0<=lN f;rw[e];exact hn.1
    .show lN f<_;rw[e];exact hn.2.1
theorem bGp{A:Aim}{f:den tFl}{p:den tPk}{r:Int}(hA:rV A)(h:FC A f)(hr:p.1=(3:Int)->aI4 A.t A.dead p.2.2.2.2.2.2.2.2.2):FC A (cX r p f)/\
  ((fQ (cX r p f)=fQ f/\fR (cX r p f)=fR f/\eZ (cX r p f)=eZ f)\/
   (Rel A p/\fQ f<(A.ms.length:Int)/\fQ (cX r p f)=fQ f+1/\fR (cX r p f)=fR f/\eZ (cX r p f)=0)\/
   (fR f≠A.c/\fQ (cX r p f)=fQ f/\fR (cX r p f)=nxI A.ps.length (fR f)/\eZ (cX r p f)=0)):=by
 unfold cX;split
 .split
  .cases ha:aEf f p with
   | false=>
    have :kG f p=f:=by unfold kG;rw[ha];rfl
    rw[this];exact⟨h,.inl ⟨rfl,rfl,rfl⟩⟩
   | true=>
    obtain⟨k1,k2,k3,k4⟩:=bWa hA h ha;obtain⟨r1,_,r3⟩:=bCy h ha;exact⟨k1,.inr (.inl ⟨r1,r3,k2,k3,k4⟩)⟩
  .obtain⟨k1,k2,k3⟩:=bL2 hA h hr;refine⟨k1,?_⟩;rcases k3 with ⟨a,b⟩ | ⟨a,b,c⟩
   .exact .inl ⟨k2,a,b⟩
   .exact .inr (.inr ⟨a,k2,b,c⟩)
 .exact⟨h,.inl ⟨rfl,rfl,rfl⟩⟩
theorem bFp{A:Aim}{f:den tFl}{p:den tPk}{r:Int}(hA:rV A)(h:FC A f)(hr:p.1=(3:Int)->aI4 A.t A.dead p.2.2.2.2.2.2.2.2.2)(hw:Rel A p->eZ f<=1):muF A (cX r p f)<=muF A f/\(eZ (cX r p f)=eZ f\/eZ (cX r p f)=0):=by
 have cn:=hA.cn;obtain⟨k,h'⟩:=bGp (r:=r) hA h hr;have w1:=h.w1;have w0:=h.w0;rcases h' with ⟨a,b,c⟩ | ⟨a,b,c,d,e⟩ | ⟨a,b,c,d⟩
 .unfold muF;rw[a,b,c];exact⟨cGx _,.inl rfl⟩
 .have :=hw a;have f1:=bPq (n:=A.ps.length) (c:=A.c) (cur:=fR f) (w:=eZ f) (by omega) cn h.c0 h.c1;refine⟨?_,.inr e⟩;unfold muF;rw[c,d,e];omega
 .have f1:=aNl (n:=A.ps.length) (c:=A.c) (cur:=fR f) (w:=eZ f) (by omega) cn h.c0 h.c1 (.inl a);refine⟨?_,.inr d⟩;unfold muF;rw[b,c,d];omega
def bNd(A:Aim)(a:Int)(z:den tFy):Prop:=Arr A.t A.now A.dead z.1 z.2.1 z.2.2/\z.2.2.1=(1:Int)/\z.2.2.2.1=A.src/\z.2.2.2.2.1=A.dst/\z.2.2.2.2.2.1=A.q/\z.2.2.2.2.2.2.2.2.2.2.1=a
def cEi(A:Aim)(a:Int)(z:den tFy):Prop:=Arr A.t A.now A.dead z.1 z.2.1 z.2.2/\z.2.2.1=(2:Int)/\z.2.2.2.1=A.dst/\z.2.2.2.2.1=A.src/\z.2.2.2.2.2.2.2.2.2.2.1=a
def Trk(A:Aim)(a:Int)(z:den tFy):Prop:=bNd A a z\/cEi A a z
def bKg(A:Aim)(f:den tFl)(L:lFy):Prop:=fQ f<(A.ms.length:Int)/\muF A f<=A.m/\ ∀y∈L,¬ Rel A y.2.2
def bUu(A:Aim)(f:den tFl)(L:lFy):Prop:=muF A f+1<=A.m/\(eZ f<=1\/ ∀y∈L,¬ Rel A y.2.2)
def cD7(A:Aim)(f:den tFl)(L:lFy):Prop:=fR f=A.c/\eZ f=1/\fQ f<(A.ms.length:Int)/\2 * ((A.ms.length:Int) - fQ f)+4<=A.m/\ ∃y∈L,Trk A (fQ f) y
def Flw(A:Aim)(b:Bool)(w:den tNw)(L:lFy):Prop:= ∃f,(aB w)[A.i]? =some f/\FC A f/\((b=false/\bKg A f L)\/(b=true/\(bUu A f L\/cD7 A f L)))
def bIz(A:Aim)(L L':lFy):Prop:= ∀y∈L',Rel A y.2.2-> ∃z∈L,Rel A z.2.2
theorem Flw.same{A:Aim}{b:Bool}{w w':den tNw}{L L':lFy}(h:Flw A b w L)(e:(aB w')[A.i]? =(aB w)[A.i]?)(hr:bIz A L L')(ht:∀a,∀y∈L,Trk A a y-> ∃z∈L',Trk A a z):Flw A b w' L':=by
 obtain⟨f,h1,h2,h3⟩:=h;have none:(∀y∈L,¬ Rel A y.2.2)-> ∀y∈L',¬ Rel A y.2.2:=λhn y hy c=>by
  obtain⟨z,hz,r⟩:=hr y hy c;exact hn z hz r
 refine⟨f,by rw[e];exact h1,h2,?_⟩;rcases h3 with ⟨hb,g1,g2,g3⟩ | ⟨hb,⟨g1,g2⟩ | ⟨g1,g2,g3,g4,y,hy,g5⟩⟩
 .exact .inl ⟨hb,g1,g2,none g3⟩
 .exact .inr ⟨hb,.inl ⟨g1,g2.elim .inl λg=> .inr (none g)⟩⟩
 .obtain⟨z,hz,g6⟩:=ht _ y hy g5;exact .inr ⟨hb,.inr ⟨g1,g2,g3,g4,z,hz,g6⟩⟩
theorem Flw.told{A:Aim}(hA:rV A){b:Bool}{w:den tNw}{L L':lFy}{r:Int}{q:den tPk}(h:Flw A b w L)(hq:q.1=(3:Int)->aI4 A.t A.dead q.2.2.2.2.2.2.2.2.2)(hl:Rel A q-> ∃z∈L,Rel A z.2.2)(hr:bIz A L L')
  (ht:∀a,∀y∈L,Trk A a y->(∃z∈L',Trk A a z)\/ ∀f,FC A f->fQ f=a->a<(A.ms.length:Int)->fQ (cX r q f)=fQ f+1):Flw A b (tI w r q) L':=by
 obtain⟨f,h1,h2,h3⟩:=h;have none:(∀y∈L,¬ Rel A y.2.2)-> ∀y∈L',¬ Rel A y.2.2:=λhn y hy c=>by
  obtain⟨z,hz,r⟩:=hr y hy c;exact hn z hz r
 obtain⟨k,h'⟩:=bGp (r:=r) hA h2 hq;refine⟨cX r q f,?_,k,?_⟩
 .show ((aB w).map (cX r q))[A.i]? =_;rw[cHz,h1];rfl
 rcases h3 with ⟨hb,g1,g2,g3⟩ | ⟨hb,⟨g1,g2⟩ | ⟨g1,g2,g3,g4,y,hy,g5⟩⟩
 .have nr: ¬ Rel A q:=λc=>by
   obtain⟨z,hz,r⟩:=hl c;exact g3 z hz r
  obtain⟨m1,_⟩:=bFp (r:=r) hA h2 hq λc=>absurd c nr
  refine .inl ⟨hb,?_,cHb m1 g2,none g3⟩;rcases h' with ⟨a,_⟩ | ⟨a,_⟩ | ⟨_,a,_⟩
  .rw[a];exact g1
  .exact absurd a nr
  .rw[a];exact g1
 .have hw:Rel A q->eZ f<=1:=λc=>g2.elim id λg=>by
   obtain⟨z,hz,r⟩:=hl c;exact absurd r (g z hz)
  obtain⟨m1,m2⟩:=bFp (r:=r) hA h2 hq hw;refine .inr ⟨hb,.inl ⟨by omega,?_⟩⟩;rcases m2 with m2 | m2
  .rw[m2];exact g2.elim .inl λg=> .inr (none g)
  .exact .inl (by rw[m2];decide)
 .rcases h' with ⟨a,b',c⟩ | ⟨a,b',c,d,e⟩ | ⟨a,_⟩
  .rcases ht _ y hy g5 with ⟨z,hz,g6⟩ | g6
   .exact .inr ⟨hb,.inr ⟨by rw[b'];exact g1,by rw[c];exact g2,by rw[a];exact g3,by rw[a];exact g4,z,hz,by rw[a];exact g6⟩⟩
   .have :=g6 f h2 rfl g3;omega
  .refine .inr ⟨hb,.inl ⟨?_,.inl (by rw[e];decide)⟩⟩;have z0:tX A.ps.length A.c (fR f) 0=0:=by unfold tX;rw[zT g1,zT rfl]
   unfold muF;rw[c,d,e,z0];omega
  .exact absurd g1 a
theorem bBk{t:den tTo}{r now dead inn:Int}{p:den tPk}(h:(fwd t r now dead inn p).1=1):p.2.2.1=r:=by
 have th:=vK (.inr (.inl h));obtain⟨i,j,b,e⟩:=aIc t r now dead inn p;unfold fwd at h e;split at h
 .exact absurd h (show ¬ ((2:Int)=1) by decide)
 rename_i c1;rw[zS c1]at e;split at h
 .exact absurd h (show ¬ ((3:Int)=1) by decide)
 rename_i c2;rw[zS c2]at e;split at h
 .rw[th.go]at h;exact absurd h (show ¬ ((0:Int)=1) by decide)
 rename_i c3;rw[zS c3]at e;split at h
 .rename_i c4;rw[zT c4]at e;split at h
  .rename_i c5;rw[zT c5]at e;have :(aX t now p).2.2.2.1=p.2.2.1:=by
    have e:(aX t now p).2=goTo p i j b:=e;rw[e];rfl
   rw[<- this];exact eq_of_beq c5
  .exact absurd h (show ¬ ((2:Int)=1) by decide)
 split at h
 .exact absurd h (show ¬ ((6:Int)=1) by decide)
 split at h
 .exact absurd h (show ¬ ((7:Int)=1) by decide)
 .exact absurd h (show ¬ ((0:Int)=1) by decide)
theorem aM3(t:den tTo)(now:Int)(dead:List Int)(r inn:Int)(p:den tPk):∃i j b,(aG t now dead r inn p).2.2.1=goTo p i j b:=aIc t r now (dI t dead r) inn p
theorem bSu{A:Aim}{a r inn:Int}{p:den tPk}(h:Trk A a (r,inn,p))(hc:(aG A.t A.now A.dead r inn p).1=0):Trk A a ((remote A.t r (aG A.t A.now A.dead r inn p).2.1).1,(remote A.t r (aG A.t A.now A.dead r inn p).2.1).2,(aG A.t A.now A.dead r inn p).2.2.1):=by
 obtain⟨i,j,b,e⟩:=aM3 A.t A.now A.dead r inn p;have key:∀(h:Arr A.t A.now A.dead r inn p),Arr A.t A.now A.dead (remote A.t r (aG A.t A.now A.dead r inn p).2.1).1 (remote A.t r (aG A.t A.now A.dead r inn p).2.1).2 (aG A.t A.now A.dead r inn p).2.2.1:=λh=>by
  rcases h.or with h1 | ⟨_,h2⟩
  .rw[hc]at h1;exact absurd h1 (by decide)
  .exact h2
 rcases h with ⟨h0,h1⟩ | ⟨h0,h1⟩
 .refine .inl ⟨key h0,?_⟩;simp only[e];exact h1
 .refine .inr ⟨key h0,?_⟩;simp only[e];exact h1
theorem aZ1{A:Aim}{a:Int}{z:den tFy}(h:Trk A a z):Arr A.t A.now A.dead z.1 z.2.1 z.2.2:=h.elim (·.1) (·.1)
structure Rnd (A:Aim) (b:Bool) (e:Int×Int->Nat) (m:Nat) (w:den tNw) (L:lFy):Prop where
 mid:Mid A.t A.now A.dead e m w
 flw:Flw A b w L
 rev:∀y∈L,y.2.2.1=(3:Int)->aI4 A.t A.dead y.2.2.2.2.2.2.2.2.2.2.2
theorem Rnd.fwd{A:Aim}{b:Bool}{e:Int×Int->Nat}{m:Nat}{w:den tNw}{r inn:Int}{p:den tPk}(h:Rnd A b (λd=>mT d p+e d) (m+1) w ((r,inn,p)::aI w))(hc:(aG A.t A.now A.dead r inn p).1=0):
  Rnd A b e m (gU w r (aG A.t A.now A.dead r inn p).2.1 (aG A.t A.now A.dead r inn p).2.2.1) (aI (gU w r (aG A.t A.now A.dead r inn p).2.1 (aG A.t A.now A.dead r inn p).2.2.1)):=by
 obtain⟨s1,s2,s3,_,s4⟩:=h.mid.send hc;obtain⟨i,j,b',eg⟩:=aM3 A.t A.now A.dead r inn p;rw[s1];refine⟨s4,h.flw.same (by rw[s2]) (λy hy c=> ?_) (λa y hy c=> ?_),λy hy c=> ?_⟩
 .rcases cF6.1 hy with hy | hy
  .exact⟨y,cF7 _ hy,c⟩
  .refine⟨_,cGb ..,?_⟩;have :y=_:=cF5.1 hy;rw[this]at c;simp only[eg]at c;exact c
 .rcases cFy.1 hy with hy | hy
  .subst hy;exact⟨_,List.mem_append_right _ (cF5.2 rfl),bSu c hc⟩
  .exact⟨y,List.mem_append_left _ hy,c⟩
 .rcases cF6.1 hy with hy | hy
  .exact h.rev y (cF7 _ hy) c
  .have :y=_:=cF5.1 hy;rw[this]at c ⊢;simp only[eg]at c ⊢;exact h.rev _ (cGb ..) c
theorem Rnd.lost{A:Aim}{b:Bool}{e:Int×Int->Nat}{m:Nat}{w:den tNw}{r inn:Int}{p:den tPk}(h:Rnd A b (λd=>mT d p+e d) (m+1) w ((r,inn,p)::aI w))(hc: ¬ Arr A.t A.now A.dead r inn p):Rnd A b e m (wP w) (aI w):=by
 refine⟨(h.mid.mono (λd=>cHr _ _) (cGz _)).drop,h.flw.same rfl (λy hy c=>⟨y,cF7 _ hy,c⟩) (λa y hy c=> ?_),λy hy=>h.rev y (cF7 _ hy)⟩;rcases cFy.1 hy with hy | hy
 .subst hy;exact absurd (aZ1 c) hc
 .exact⟨y,hy,c⟩
theorem Rnd.home{A:Aim}(hA:rV A){b:Bool}{e:Int×Int->Nat}{m:Nat}{w:den tNw}{r inn:Int}{p:den tPk}(h:Rnd A b (λd=>mT d p+e d) (m+1) w ((r,inn,p)::aI w))(hk:(p.1==(1:Int))=false)(hc:(aG A.t A.now A.dead r inn p).1=1):
  Rnd A b e m (tI w r (aG A.t A.now A.dead r inn p).2.2.1) (aI w):=by
 obtain⟨i,j,b',eg⟩:=aM3 A.t A.now A.dead r inn p;have hd:p.2.2.1=r:=bBk hc;rw[eg];refine⟨(h.mid.mono (λd=>cHr _ _) (cGz _)).flows _,h.flw.told hA (λc=>h.rev _ (cGb ..) c) (λc=>⟨_,cGb ..,c⟩) (λy hy c=>⟨y,cF7 _ hy,c⟩) (λa y hy c=> ?_),λy hy=>h.rev y (cF7 _ hy)⟩;rcases cFy.1 hy with hy | hy
 .subst hy;refine .inr λf hf e1 e2=> ?_
  rcases c with ⟨_,c,_⟩ | ⟨_,c1,c2,c3,c4⟩
  .have c:p.1=(1:Int):=c;rw[c]at hk;exact absurd hk (by decide)
  .have ha:aEf f (goTo p i j b')=true:=by
    unfold aEf;show ((p.1==2)&&((p.2.1==f.2.1)&&((p.2.2.1==f.1)&&((p.2.2.2.2.2.2.2.2.1==f.2.2.2.1)&&inR f.2.2.2.1 0 ((f.2.2.2.2.1.length:Int) - 1)))))=true;have c1:p.1=(2:Int):=c1;have c2:p.2.1=A.dst:=c2;have c3:p.2.2.1=A.src:=c3;have c4:p.2.2.2.2.2.2.2.2.1=a:=c4;have ef:f.2.2.2.1=a:=e1;rw[c1,c2,c3,c4,hf.src,hf.dst,ef,hf.ms];simp only[beq_self_eq_true,Bool.true_and];have :=hf.a0;exact aV.2 ⟨by omega,by omega⟩
   have :cX r (goTo p i j b') f=kG f (goTo p i j b'):=by
    unfold cX;have c1:(goTo p i j b').1=(2:Int):=c1;have c3:p.2.2.1=A.src:=c3;rw[c1];have :(f.1==r)=true:=by rw[beq_iff_eq,hf.src,<- hd];exact c3.symm
    rw[this];rfl
   rw[this];exact (bWa hA hf ha).2.1
 .exact .inl ⟨y,hy,c⟩
theorem Rnd.proc0{A:Aim}(hA:rV A){b:Bool}{e:Int×Int->Nat}{m:Nat}{w:den tNw}{r inn:Int}{p:den tPk}(h:Rnd A b (λd=>mT d p+e d) (m+1) w ((r,inn,p)::aI w))(hk:(p.1==(1:Int))=false):Rnd A b e m (proc0 w r inn p) (aI (proc0 w r inn p)):=by
 unfold Go.Proofs.YtnkjolpkcmgcaaaGreat.proc0;rw[h.mid.step r inn p];split
 .rename_i c;exact h.fwd (eq_of_beq c)
 .rename_i c0;split
  .rename_i c;exact h.home hA hk (eq_of_beq c)
  .rename_i c1;refine h.lost λg=> ?_
   rcases g.code with g | g
   .rw[g]at c0;exact c0 rfl
   .rw[g]at c1;exact c1 rfl
theorem aSb(l:lIb)(a b:Int):(dS l a b<0/\ ∀x∈l,rB a b x=false)\/ ∃(k:Nat) (x:den tIb),dS l a b=(k:Int)/\l[k]? =some x/\rB a b x=true:=by
 unfold dS;cases h:l.findIdx? (rB a b) with
 | none=>
  refine .inl ⟨by decide,λx hx=> ?_⟩;have :=List.findIdx?_eq_none_iff.1 h x hx;simpa using this
 | some i=>
  obtain⟨h1,h2,_⟩:=List.findIdx?_eq_some_iff_getElem.1 h;exact .inr ⟨i,l[i],by simp,cFx h1,h2⟩
theorem bAp{t:den tTo}{w:den tNw}(hi:cT t w){r s:Int}(h: ¬ dS (aR w) r s<0):∃(k:Nat) (f:den tFl),dS (aR w) r s=(k:Int)/\(aB w)[k]? =some f/\(aR w)[k]? =some (jD w k)/\aAe t f (jD w k)/\f.1=s/\f.2.1=r/\(jD w k).1=r/\(jD w k).2.1=s:=by
 rcases aSb (aR w) r s with ⟨h1,_⟩ | ⟨k,x,h1,h2,h3⟩
 .exact absurd h1 h
 .have hlt:=(cFz.1 h2).1;have hl:k<(aB w).length:=by rw[<- hi.lenB];exact hlt
  have hb:jD w k=x:=by unfold jD;rw[h2];rfl
  have hF:=hi.flow k _ x (cFx hl) h2;unfold rB at h3;simp only[cFw,beq_iff_eq]at h3;refine⟨k,_,h1,cFx hl,by rw[hb];exact h2,by rw[hb];exact hF,?_,?_,by rw[hb];exact h3.1,by rw[hb];exact h3.2⟩
  .rw[<- hF.xFrom];exact h3.2
  .rw[<- hF.xAS];exact h3.1
theorem aK2(x:den tIb)(p:den tPk):(cO x p).1=x.1/\(cO x p).2.1=x.2.1:=by
 unfold cO;split<;>exact⟨rfl,rfl⟩
theorem bSc{t:den tTo}{w:den tNw}(hi:cT t w){r:Int}{p:den tPk}(hg:pX w p)(h: ¬ dS (aR w) r p.2.1<0)(ha:aAl (cO (jD w (dS (aR w) r p.2.1).toNat) p) p=true):
  p.2.2.1=r/\p.1=(1:Int)/\jV (cO (jD w (dS (aR w) r p.2.1).toNat) p) p=gF 2 (kA p.2.2.2.1) p.2.2.2.2.2.2.2.1 p.2.2.2.2.2.2.2.2.1 []/\ends (kA p.2.2.2.1)=(p.2.2.1,p.2.1):=by
 obtain⟨k,f,e1,e2,e3,e4,e5,e6,e7,e8⟩:=bAp hi h;have hm:jV (cO (jD w (dS (aR w) r p.2.1).toNat) p) p=gF 2 (kA p.2.2.2.1) p.2.2.2.2.2.2.2.1 p.2.2.2.2.2.2.2.2.1 []:=by
  unfold jV;rw[ha];rfl
 rw[e1,cF2]at ha;unfold aAl vY at ha;simp only[cFw,beq_iff_eq]at ha;obtain⟨⟨h1,h2,h3⟩,_⟩:=ha;have h3:p.2.2.1=r:=h3.trans ((aK2 _ _).1.trans e7);obtain⟨p1,p2,_⟩:=(hg k f _ e2 e3).1 h1 e5.symm (h3.trans e6.symm);refine⟨h3,h1,hm,?_⟩;rw[aKj ((aI2 _).1.trans p2) ((aI2 _).2.trans p1),e5,e6,h3]
theorem Rnd.data{A:Aim}(hA:rV A){b:Bool}{e:Int×Int->Nat}{m:Nat}{w:den tNw}{r inn:Int}{p:den tPk}(h:Rnd A b (λd=>mT d p+e d) (m+1) w ((r,inn,p)::aI w))(hi:cT A.t w)(hg:pX w p)(hk:(p.1==(1:Int))=true)(hc:(aG A.t A.now A.dead r inn p).1=1):
  Rnd A b e m (qX w r (aG A.t A.now A.dead r inn p).2.2.1) (aI (qX w r (aG A.t A.now A.dead r inn p).2.2.1)):=by
 obtain⟨i,j,b',eg⟩:=aM3 A.t A.now A.dead r inn p;have hd:p.2.2.1=r:=bBk hc;have hv:dD p=true:=(vK (t:=A.t) (r:=r) (now:=A.now) (dead:=dI A.t A.dead r) (inn:=inn) (p:=p) (.inr (.inl hc))).val;rw[eg];have hg':pX w (goTo p i j b'):=hg.goTo i j b';have tracked:∀a,Trk A a (r,inn,p)->(∃f,(aB w)[A.i]? =some f/\FC A f/\fQ f=a/\a<(A.ms.length:Int))-> ¬ dS (aR w) r (goTo p i j b').2.1<0/\aAl (cO (jD w (dS (aR w) r (goTo p i j b').2.1).toNat) (goTo p i j b')) (goTo p i j b')=true/\p.2.1=A.src/\p.2.2.2.1=A.q/\p.2.2.2.2.2.2.2.2.1=a:=by
  rintro a (⟨ta,t1,t2,t3,t4,t5⟩ | ⟨_,t1,_⟩) ⟨f,f1,f2,f3,f4⟩
  .have t2:p.2.1=A.src:=t2;have t3:p.2.2.1=A.dst:=t3;have t5:p.2.2.2.2.2.2.2.2.1=a:=t5;have hlt:A.i<(aR w).length:=by rw[hi.lenB];exact (cFz.1 f1).1
   have hFi:=hi.flow A.i f _ f1 (cFx hlt);have hn: ¬ dS (aR w) r p.2.1<0:=by
    rcases aSb (aR w) r p.2.1 with ⟨_,h2⟩ | ⟨k,x,h1,_⟩
    .have :=h2 _ (cHa hlt);unfold rB at this;rw[hFi.xAS,hFi.xFrom,f2.src,f2.dst,t2,<- hd,t3]at this;simp at this
    .rw[h1];omega
   refine⟨hn,?_,t2,t4,t5⟩;obtain⟨k,g,e1,e2,e3,e4,e5,e6,e7,e8⟩:=bAp hi hn;have hki:k=A.i:=hi.one e2 f1 (by rw[e5,t2,f2.src]) (by rw[e6,<- hd,t3,f2.dst]);subst hki;rw[f1]at e2;injection e2 with e2;subst e2;show aAl (cO (jD w (dS (aR w) r p.2.1).toNat) (goTo p i j b')) (goTo p i j b')=true;rw[e1,cF2];generalize jD w A.i=x at e3 e4 e7 e8;have hack:fQ f<=(x.2.2.2.length:Int):=e4.ack;have hnx:x.2.2.1=(x.2.2.2.length:Int):=e4.next
   have few:=hA.few;have ha0:0<=a:=by rw[<- f3];exact f2.a0
   have hcm:vY x (goTo p i j b')=true:=by
    unfold vY;show ((p.1==1)&&((p.2.1==x.2.1)&&(p.2.2.1==x.1)))=true;rw[hk,e8,e7,hd];simp
   have hcm2:vY (cO x (goTo p i j b')) (goTo p i j b')=true:=by
    unfold vY at hcm ⊢;rw[(aK2 _ _).1,(aK2 _ _).2];exact hcm
   have key:a<(cO x (goTo p i j b')).2.2.1:=by
    unfold cO aSh;rw[hcm];show a<(if (true&&((p.2.2.2.2.2.2.2.2.1==x.2.2.1)&&decide (x.2.2.1<20)))=true then _ else x).2.2.1;rw[t5]
    by_cases ea:a=x.2.2.1
    .have h20':a<(20:Int):=by omega
     have h20:x.2.2.1<20:=by rw[<- ea];exact h20'
     have :(a==x.2.2.1)=true:=by rw[beq_iff_eq];exact ea
     rw[this,zX h20];have wr1:∀z:Int,0<=z->z<=100->wr (z+1)=z+1:=λz h1 h2=>wri (by omega) (by omega)
     have e1:=wr1 a ha0 (by omega);show a<wr (x.2.2.1+1);rw[<- ea,e1];exact Int.lt_succ a
    .have :(a==x.2.2.1)=false:=by rw[beq_eq_false_iff_ne];exact ea
     rw[this];show a<x.2.2.1;have hx:x.2.2.1=(x.2.2.2.length:Int):=hnx;have ea: ¬ a=x.2.2.1:=ea;rw[hx]at ea ⊢;omega
   unfold aAl;rw[hcm2];show (true&& !decide (p.2.2.2.2.2.2.2.2.1>=(cO x (goTo p i j b')).2.2.1))=true;rw[t5,zW (show ¬ a>=(cO x (goTo p i j b')).2.2.1 from λc=>absurd key (Int.not_lt.2 c))];rfl
  .have t1:p.1=(2:Int):=t1;rw[t1]at hk;exact absurd hk (by decide)
 have weak:Mid A.t A.now A.dead e m w:=h.mid.mono (λd=>cHr _ _) (cGz _);obtain⟨f,f1,f2,f3⟩:=h.flw;have hT:∀a,∀y∈(r,inn,p)::aI w,Trk A a y->((b=false/\bKg A f ((r,inn,p)::aI w))\/(b=true/\bUu A f ((r,inn,p)::aI w)))\/True:=λ_ _ _ _=> .inr trivial
 unfold qX;split
 .rename_i hx;refine⟨weak,⟨f,f1,f2,?_⟩,λy hy=>h.rev y (cF7 _ hy)⟩;rcases f3 with ⟨hb,g1,g2,g3⟩ | ⟨hb,⟨g1,g2⟩ | ⟨g1,g2,g3,g4,y,hy,g5⟩⟩
  .exact .inl ⟨hb,g1,g2,λy hy=>g3 y (cF7 _ hy)⟩
  .exact .inr ⟨hb,.inl ⟨g1,g2.elim .inl λg=> .inr λy hy=>g y (cF7 _ hy)⟩⟩
  .rcases cFy.1 hy with hy | hy
   .subst hy;exact absurd hx (tracked _ g5 ⟨f,f1,f2,rfl,g3⟩).1
   .exact .inr ⟨hb,.inr ⟨g1,g2,g3,g4,y,hy,g5⟩⟩
 .rename_i hx;split
  .rename_i ha;obtain⟨q1,q2,q3,q4⟩:=bSc hi hg' hx ha;rw[q3];have q4:ends (kA p.2.2.2.1)=(p.2.2.1,p.2.1):=q4;refine Rnd.proc0 hA (inn:=0) ⟨(h.mid.box _ _).mono (λd=> ?_) (cF8 _),⟨f,f1,f2,?_⟩,λy hy c=> ?_⟩ rfl
   .exact cH5 (cFv (aLl rfl) (aJg hk)) _
   .have hrel:bIz A ((r,inn,p)::aI w) ((r,0,gF 2 (kA p.2.2.2.1) p.2.2.2.2.2.2.2.1 p.2.2.2.2.2.2.2.2.1 [])::aI w):=λy hy c=>by
     rcases cFy.1 hy with hy | hy
     .refine⟨_,cGb ..,?_⟩;rw[hy]at c;rcases c with ⟨c,_⟩ | ⟨_,c1,c2⟩
      .exact absurd c (show ¬ ((2:Int)=1) by decide)
      .have c1:(ends (kA p.2.2.2.1)).1=A.dst:=c1;have c2:(ends (kA p.2.2.2.1)).2=A.src:=c2;rw[q4]at c1 c2;exact .inl ⟨eq_of_beq hk,c2,c1⟩
     .exact⟨y,cF7 _ hy,c⟩
    have none:(∀y∈(r,inn,p)::aI w,¬ Rel A y.2.2)-> ∀y∈(r,(0:Int),gF 2 (kA p.2.2.2.1) p.2.2.2.2.2.2.2.1 p.2.2.2.2.2.2.2.2.1 [])::aI w,¬ Rel A y.2.2:=λhn y hy c=>by
     obtain⟨z,hz,r⟩:=hrel y hy c;exact hn z hz r
    rcases f3 with ⟨hb,g1,g2,g3⟩ | ⟨hb,⟨g1,g2⟩ | ⟨g1,g2,g3,g4,y,hy,g5⟩⟩
    .exact .inl ⟨hb,g1,g2,none g3⟩
    .exact .inr ⟨hb,.inl ⟨g1,g2.elim .inl λg=> .inr (none g)⟩⟩
    .rcases cFy.1 hy with hy | hy
     .subst hy;obtain⟨_,_,u1,u2,u3⟩:=tracked _ g5 ⟨f,f1,f2,rfl,g3⟩;refine .inr ⟨hb,.inr ⟨g1,g2,g3,g4,_,cGb ..,.inr ⟨?_,rfl,?_,?_,u3⟩⟩⟩
      .have hw:=hA.work.2;have hends:(ends (kA A.q)).1=r:=by rw[<- u2,q4,hd]
       rw[hends]at hw;have hv':=hv;unfold dD at hv';simp only[cFw]at hv';have :=hw.set (m:=(2,p.2.2.2.2.2.2.2.1,p.2.2.2.2.2.2.2.2.1,[])) (by
        unfold okM;simp only[cFw];exact⟨by decide,hv'.2.2.2.2.2.2.2.1,hv'.2.2.2.2.2.2.2.2.1,rfl⟩)
       show Arr A.t A.now A.dead r 0 (gF 2 (kA p.2.2.2.1) p.2.2.2.2.2.2.2.1 p.2.2.2.2.2.2.2.2.1 []);rw[u2];exact this
      .show (ends (kA p.2.2.2.1)).1=A.dst;rw[q4];rcases g5 with ⟨_,_,_,g,_⟩ | ⟨_,g,_⟩
       .exact g
       .have g:p.1=(2:Int):=g;rw[g]at hk;exact absurd hk (by decide)
      .show (ends (kA p.2.2.2.1)).2=A.src;rw[q4];exact u1
     .exact .inr ⟨hb,.inr ⟨g1,g2,g3,g4,y,cF7 _ hy,g5⟩⟩
   .rcases cFy.1 hy with hy | hy
    .rw[hy]at c;exact absurd c (show ¬ ((2:Int)=3) by decide)
    .exact h.rev y (cF7 _ hy) c
  .rename_i ha;refine⟨weak.box _ _,⟨f,f1,f2,?_⟩,λy hy=>h.rev y (cF7 _ hy)⟩;rcases f3 with ⟨hb,g1,g2,g3⟩ | ⟨hb,⟨g1,g2⟩ | ⟨g1,g2,g3,g4,y,hy,g5⟩⟩
   .exact .inl ⟨hb,g1,g2,λy hy=>g3 y (cF7 _ hy)⟩
   .exact .inr ⟨hb,.inl ⟨g1,g2.elim .inl λg=> .inr λy hy=>g y (cF7 _ hy)⟩⟩
   .rcases cFy.1 hy with hy | hy
    .subst hy;exact absurd (tracked _ g5 ⟨f,f1,f2,rfl,g3⟩).2.1 ha
    .exact .inr ⟨hb,.inr ⟨g1,g2,g3,g4,y,hy,g5⟩⟩
theorem Rnd.note{A:Aim}(hA:rV A){b:Bool}{e:Int×Int->Nat}{m:Nat}{w:den tNw}{r inn:Int}{p:den tPk}(h:Rnd A b (λd=>mT d p+e d) (m+1) w ((r,inn,p)::aI w))(hk:(p.1==(1:Int))=true)(hc:(aG A.t A.now A.dead r inn p).1=7):
  Rnd A b e m (tQ w r (aG A.t A.now A.dead r inn p).2.2.2 p) (aI (tQ w r (aG A.t A.now A.dead r inn p).2.2.2 p)):=by
 have hrev:aI4 A.t A.dead (cB r (aJ w) (aG A.t A.now A.dead r inn p).2.2.2 p).2.2.2.2.2.2.2.2.2:=⟨r,_,_,rfl,bSv hc⟩
 generalize (aG A.t A.now A.dead r inn p).2.2.2=d at hrev;have key:Rnd A b (λd'=>mT d' (cB r (aJ w) d p)+e d') (m+1) w ((r,0,cB r (aJ w) d p)::aI w):=by
  refine⟨h.mid.mono (λd=>cH5 (cFv (aLl rfl) (aJg hk)) _) (cF8 _),h.flw.same rfl (λy hy c=> ?_) (λa y hy c=> ?_),λy hy c=> ?_⟩
  .rcases cFy.1 hy with hy | hy
   .rw[hy]at c;rcases c with ⟨c,_⟩ | ⟨c,_⟩
    .exact absurd c (show ¬ ((3:Int)=1) by decide)
    .exact absurd c (show ¬ ((3:Int)=2) by decide)
   .exact⟨y,cF7 _ hy,c⟩
  .rcases cFy.1 hy with hy | hy
   .subst hy;rcases (aZ1 c).code with g | g
    .rw[show (aG A.t A.now A.dead r inn p).1=7 from hc]at g;exact absurd g (by decide)
    .rw[show (aG A.t A.now A.dead r inn p).1=7 from hc]at g;exact absurd g (by decide)
   .exact⟨y,cF7 _ hy,c⟩
  .rcases cFy.1 hy with hy | hy
   .rw[hy];exact hrev
   .exact h.rev y (cF7 _ hy) c
 unfold tQ;split
 .have r1:=key.proc0 hA rfl;exact⟨r1.mid.drop,r1.flw.same rfl (λy hy c=>⟨y,hy,c⟩) (λa y hy c=>⟨y,hy,c⟩),r1.rev⟩
 .refine⟨((key.mid.mono (λd=>cHr _ _) (cGz _)).flows _).drop,Flw.same (w:=tI w r (cB r (aJ w) d p)) (L:=aI w) (key.flw.told hA (λ_=>hrev) (λc=>⟨_,cGb ..,c⟩) (λy hy c=>⟨y,cF7 _ hy,c⟩) (λa y hy c=> ?_)) rfl (λy hy c=>⟨y,hy,c⟩) (λa y hy c=>⟨y,hy,c⟩),λy hy=>key.rev y (cF7 _ hy)⟩;rcases cFy.1 hy with hy | hy
  .subst hy;rcases c with ⟨_,c,_⟩ | ⟨_,c,_⟩
   .exact absurd c (show ¬ ((3:Int)=1) by decide)
   .exact absurd c (show ¬ ((3:Int)=2) by decide)
  .exact .inl ⟨y,hy,c⟩
theorem Rnd.proc{A:Aim}(hA:rV A){b:Bool}{e:Int×Int->Nat}{m:Nat}{w:den tNw}{r inn:Int}{p:den tPk}(h:Rnd A b (λd=>mT d p+e d) (m+1) w ((r,inn,p)::aI w))(hi:cT A.t w)(hg:bDc w p):Rnd A b e m (dM w r inn p) (aI (dM w r inn p)):=by
 unfold dM;rw[h.mid.step r inn p];split
 .rename_i c;exact h.fwd (eq_of_beq c)
 .rename_i c0;split
  .rename_i c1;have hv:dD p=true:=(vK (t:=A.t) (r:=r) (now:=A.now) (dead:=dI A.t A.dead r) (inn:=inn) (p:=p) (.inr (.inl (eq_of_beq c1)))).val;split
   .rename_i hk;exact h.data hA hi (hg hv) hk (eq_of_beq c1)
   .rename_i hk;exact h.home hA (eq_false_of_ne_true hk) (eq_of_beq c1)
  .rename_i c1;split
   .rename_i c7;rw[cFw]at c7;exact h.note hA c7.2 (eq_of_beq c7.1)
   .refine h.lost λg=> ?_
    rcases g.code with g | g
    .rw[g]at c0;exact c0 rfl
    .rw[g]at c1;exact c1 rfl
theorem Rnd.out{A:Aim}(hA:rV A){b:Bool}{e:Int×Int->Nat}{m:Nat}{w:den tNw}(h:Rnd A b e m w (aI w))(hi:cT A.t w):Rnd A b e m (outW w) (aI (outW w))/\cT A.t (outW w):=by
 unfold outW;split
 .exact⟨h,hi⟩
 .rename_i x l hf;have hi':cT A.t (cC w l):=hi.same rfl rfl rfl λy hy=> .inl (by rw[hf];exact cF7 _ hy)
  have hg:bDc (cC w l) x.2.2:=hi.good x (by rw[hf];exact cGb ..);refine⟨Rnd.proc hA ⟨h.mid.take hf,?_,?_⟩ hi' hg,aI7 hi' hg⟩
  .have :=h.flw;rw[hf]at this;exact this.same rfl (λy hy c=>⟨y,hy,c⟩) (λa y hy c=>⟨y,hy,c⟩)
  .have :=h.rev;rw[hf]at this;exact this
theorem Rnd.del{A:Aim}(hA:rV A){b:Bool}{e:Int×Int->Nat}{m:Nat}:∀(n:Nat) {w:den tNw},Rnd A b e m w (aI w)->cT A.t w->Rnd A b e m (delW n w) (aI (delW n w))/\cT A.t (delW n w)
 | 0,w,h,hi=>⟨h,hi⟩
 | n+1,w,h,hi=>by
  unfold delW;split
  .exact⟨h,hi⟩
  .obtain⟨h1,h2⟩:=h.out hA hi;exact Rnd.del hA n h1 h2
theorem bE7{t:den tTo}{w:den tNw}{k:Nat}{f:den tFl}(h:cT t w)(hf:(aB w)[k]? =some f):cT t (bS w ((aB w).set k (aD f).1))/\((aD f).2.2=true->pX (bS w ((aB w).set k (aD f).1)) (aD f).2.1):=by
 obtain⟨c,wt,e1,e2⟩:=aDk f;have hset:cT t (bS w ((aB w).set k (aD f).1)):=by
  refine h.set hf (by rw[e1];rfl) (by rw[e1];rfl) (λs m hm=>by rw[e1];exact hm) λx hx=> ?_
  have hv:=aXj hx.val;rw[e1]at hv ⊢;exact⟨hv,hx.src,hx.dst,hx.xAS,hx.xFrom,hx.next,hx.recv,hx.len,hx.ack,hx.paths⟩
 refine⟨hset,λhb=> ?_⟩;obtain⟨g1,g2⟩:=e2 hb;rw[<- e1]at g1 g2;rw[g1];refine aXw hset (k:=k) ?_ g2;show ((aB w).set k _)[k]? =_;rw[cIo (cFz.1 hf).1]
theorem aX1{t:den tTo}{w:den tNw}{k:Nat}{f:den tFl}(h:cT t w)(hf:(aB w)[k]? =some f)(hs:(aD f).2.2=true):(aD f).2.1.1=(1:Int)/\(aD f).2.1.2.1=f.1/\(aD f).2.1.2.2.1=f.2.1/\(aD f).1.1=f.1:=by
 obtain⟨c,wt,e1,e2⟩:=aDk f;obtain⟨g1,g2⟩:=e2 hs;have hk:k<(aR w).length:=by rw[h.lenB];exact (cFz.1 hf).1
 have hfi:=h.flow k f _ hf (cFx hk);have g3:=g2;unfold sends at g3;rw[cFw]at g3;obtain⟨a0,a1⟩:=aV.1 g3.1;have hc:c.toNat<f.2.2.2.2.2.1.length:=by
  have a0:0<=c:=a0;have a1:c<=(f.2.2.2.2.2.1.length:Int) - 1:=a1;omega
 obtain⟨p1,p2⟩:=hfi.paths _ (cF9 (cFx hc));have he:=aKj p1 p2;have e:mV (setCW f c wt)=gF 1 (f.2.2.2.2.2.1[c.toNat]'hc) f.2.2.1 f.2.2.2.1 ((f.2.2.2.2.1[f.2.2.2.1.toNat]?).getD []):=by
  unfold mV;rw[zT g2];show gF 1 ((f.2.2.2.2.2.1[c.toNat]?).getD []) _ _ _=_;rw[cFx hc];rfl
 rw[g1,e,e1];refine⟨rfl,?_,?_,rfl⟩
 .show (ends _).1=_;rw[he]
 .show (ends _).2=_;rw[he]
theorem Rnd.other{A:Aim}(hA:rV A){b:Bool}{e:Int×Int->Nat}{m:Nat}{w:den tNw}{k:Nat}(h:Rnd A b (λd=>2+e d) (m+1) w (aI w))(hi:cT A.t w)(hk:k≠A.i):Rnd A b e m (stepT k w) (aI (stepT k w))/\cT A.t (stepT k w):=by
 refine⟨?_,aO9 k hi⟩;unfold stepT;split
 .rename_i f hf;obtain⟨i1,i2⟩:=bE7 hi hf;have same:(aB (bS w ((aB w).set k (aD f).1)))[A.i]? =(aB w)[A.i]? :=cI5 hk;split
  .rename_i hb;obtain⟨s1,s2,s3,s4⟩:=aX1 hi hf hb;refine Rnd.proc hA (inn:=0) ⟨(h.mid.flows _).mono (λd=>cH5 (aVf _ _) _) (cF8 _),h.flw.same same (λy hy c=> ?_) (λa y hy c=>⟨y,cF7 _ hy,c⟩),λy hy c=> ?_⟩ i1 λ_=>i2 hb
   .rcases cFy.1 hy with hy | hy
    .exfalso;rw[hy]at c;obtain⟨g,g1,g2,_⟩:=h.flw;rcases c with ⟨_,c1,c2⟩ | ⟨c0,_⟩
     .exact hk (hi.one hf g1 (by rw[g2.src,<- c1];exact s2.symm) (by rw[g2.dst,<- c2];exact s3.symm))
     .rw[s1]at c0;exact absurd c0 (by decide)
    .exact⟨y,hy,c⟩
   .rcases cFy.1 hy with hy | hy
    .rw[hy]at c;rw[s1]at c;exact absurd c (by decide)
    .exact h.rev y hy c
  .exact⟨(h.mid.flows _).mono (λd=>cHr _ _) (cGz _),h.flw.same same (λy hy c=>⟨y,hy,c⟩) (λa y hy c=>⟨y,hy,c⟩),h.rev⟩
 .exact⟨h.mid.mono (λd=>cHr _ _) (cGz _),h.flw,h.rev⟩
theorem FC.setCW{A:Aim}{f:den tFl}(h:FC A f){c wt:Int}(c0:0<=c)(c1:c<(A.ps.length:Int))(w0:0<=wt)(w1:wt<=4):FC A (setCW f c wt):=⟨h.src,h.dst,h.ms,h.ps,h.a0,h.a1,c0,c1,w0,w1⟩
theorem FC.sends{A:Aim}{f:den tFl}(h:FC A f)(ha:fQ f<(A.ms.length:Int)):sends f=true:=by
 have c0:=h.c0;have c1:=h.c1;have a0:=h.a0;unfold Go.Proofs.YtnkjolpkcmgcaaaGreat.sends;rw[cFw];refine⟨aV.2 ⟨h.c0,?_⟩,aV.2 ⟨h.a0,?_⟩⟩
 .rw[h.ps];show fR f<=_;omega
 .rw[h.ms];show fQ f<=_;omega
theorem Rnd.own{A:Aim}(hA:rV A){e:Int×Int->Nat}{m:Nat}{w:den tNw}(h:Rnd A false (λd=>2+e d) (m+1) w (aI w))(hi:cT A.t w):Rnd A true e m (stepT A.i w) (aI (stepT A.i w))/\cT A.t (stepT A.i w):=by
 refine⟨?_,aO9 A.i hi⟩;obtain⟨f,f1,f2,f3⟩:=h.flw;have f3:bKg A f (aI w):=f3.elim (·.2) λc=>absurd c.1 (by decide)
 obtain⟨g1,g2,g3⟩:=f3;obtain⟨i1,i2⟩:=bE7 hi f1;have hlt:=(cFz.1 f1).1;have self:∀g,(aB (bS w ((aB w).set A.i g)))[A.i]? =some g:=λg=>cIo hlt
 have hs:=f2.sends g1;have cn:=hA.cn;have w0:=f2.w0;have w1:=f2.w1;have a0:=f2.a0;have few:=hA.few;have data:∀c wt:Int,c=A.c->sends (setCW f c wt)=true->bNd A (fQ f) (A.src,0,mV (setCW f c wt)):=by
  intro c wt hc hsd;have hk:A.i<(aR w).length:=by rw[hi.lenB];exact hlt
  have hv:=(mU f).1 (hi.flow _ f _ f1 (cFx hk)).val;have hms:(f.2.2.2.2.1[f.2.2.2.1.toNat]?).getD []∈f.2.2.2.2.1:=by
   have :f.2.2.2.1.toNat<f.2.2.2.2.1.length:=by
    rw[f2.ms];have key:∀(z:Int) (n:Nat),0<=z->z<(n:Int)->z.toNat<n:=λz n h1 h2=>by omega
    exact key _ _ a0 g1
   rw[cFx this];exact cHa this
  have eq:mV (setCW f c wt)=gF 1 A.q f.2.2.1 (fQ f) ((f.2.2.2.2.1[f.2.2.2.1.toNat]?).getD []):=by
   unfold mV;rw[zT hsd];show gF 1 ((f.2.2.2.2.2.1[c.toNat]?).getD []) _ _ _=_;rw[f2.ps,hc,cF2,hA.at_];rfl
  have hends:ends A.q=(A.src,A.dst):=aKj hA.fst_ hA.lst_;rw[eq];have hw:=hA.work.1;rw[hends]at hw;refine⟨hw.set (m:=(1,f.2.2.1,fQ f,(f.2.2.2.2.1[f.2.2.2.1.toNat]?).getD [])) ?_,rfl,?_,?_,rfl,rfl⟩
  .unfold okM;simp only[cFw];refine⟨by decide,hv.2.2.2.1,aV.2 ⟨a0,by omega⟩,?_⟩;rw[zR];have :=hv.2.2.2.2.2.2.2.1 _ hms;omega
  .show (ends A.q).1=A.src;rw[hends]
  .show (ends A.q).2=A.dst;rw[hends]
 have rest:∀(c wt:Int),aD f=(setCW f c wt,mV (setCW f c wt),true)->sends (setCW f c wt)=true->0<=c->c<(A.ps.length:Int)->wt=1->(c=A.c->2 * ((A.ms.length:Int) - fQ f)+4<=A.m)->(c≠A.c->muF A (setCW f c wt)+1<=A.m)->Rnd A true e m (stepT A.i w) (aI (stepT A.i w)):=by
  intro c wt ht hsd c0 c1 hw hT hS;subst hw;have hfc:=f2.setCW c0 c1 (show (0:Int)<=1 by decide) (show (1:Int)<=4 by decide);obtain⟨s1,s2,s3,s4⟩:=aX1 hi f1 (by rw[ht]);rw[ht]at i1 i2 s1 s2 s3;have est:stepT A.i w=dM (bS w ((aB w).set A.i (setCW f c 1))) A.src 0 (mV (setCW f c 1)):=by
   unfold stepT;rw[f1];show (if (aD f).2.2=true then dM (bS w ((aB w).set A.i (aD f).1)) (aD f).1.1 0 (aD f).2.1 else _)=_;rw[ht];show dM _ (setCW f c 1).1 0 _=_;rw[show (setCW f c 1).1=A.src from f2.src]
  rw[est];refine Rnd.proc hA ⟨(h.mid.flows _).mono (λd=>cH5 (aVf _ _) _) (cF8 _),⟨_,self _,hfc,.inr ⟨rfl,?_⟩⟩,λy hy c=> ?_⟩ i1 λ_=>i2 rfl
  .by_cases hc:c=A.c
   .exact .inr ⟨hc,rfl,g1,hT hc,_,cGb ..,.inl (data c 1 hc hsd)⟩
   .exact .inl ⟨hS hc,.inl (show (1:Int)<=1 by decide)⟩
  .rcases cFy.1 hy with hy | hy
   .rw[hy]at c;rw[s1]at c;exact absurd c (by decide)
   .exact h.rev y hy c
 by_cases h0:eZ f=0
 .have ht:aD f=(setCW f (fR f) 1,mV f,true):=by
   unfold aD;rw[hs];have :(f.2.2.2.2.2.2.2.1==0)=true:=by rw[beq_iff_eq];exact h0
   rw[this];rfl
  have e1:mV f=mV (setCW f (fR f) 1):=rfl;rw[e1]at ht;have hm:muF A f=2 * ((A.ms.length:Int) - fQ f)+(5 - 0)+6 * tX A.ps.length A.c (fR f) 0:=by unfold muF;rw[h0]
  have fp:=(bB5 (n:=A.ps.length) (c:=A.c) (cur:=fR f) (w:=0) (by omega) cn f2.c0 f2.c1).1;refine rest _ 1 ht hs f2.c0 f2.c1 rfl (λhc=>by omega) λhc=> ?_
  have e2:muF A (setCW f (fR f) 1)=2 * ((A.ms.length:Int) - fQ f)+(5 - 1)+6 * tX A.ps.length A.c (fR f) 1:=rfl;rw[e2,bB7 hc];omega
 .by_cases h4:eZ f=4
  .have hn:=aNl (n:=A.ps.length) (c:=A.c) (cur:=fR f) (w:=eZ f) (by omega) cn f2.c0 f2.c1 (.inr h0);have hs2:sends (setCW f (lN f) 1)=true:=by
    have :FC A (setCW f (lN f) 1):=f2.setCW (by rw[aE6 hA f2];exact hn.1) (by rw[aE6 hA f2];exact hn.2.1) (by decide) (by decide);exact this.sends g1
   have ht:aD f=(setCW f (lN f) 1,mV (setCW f (lN f) 1),true):=by
    unfold aD;rw[hs];have a:(f.2.2.2.2.2.2.2.1==0)=false:=by rw[beq_eq_false_iff_ne];exact h0
    have b:(f.2.2.2.2.2.2.2.1==4)=true:=by rw[beq_iff_eq];exact h4
    rw[a,b,hs2];rfl
   have hm:muF A f=2 * ((A.ms.length:Int) - fQ f)+(5 - 4)+6 * tX A.ps.length A.c (fR f) (eZ f):=by unfold muF;rw[<- h4]
   refine rest _ 1 ht hs2 (by rw[aE6 hA f2];exact hn.1) (by rw[aE6 hA f2];exact hn.2.1) rfl (λhc=>by omega) λhc=> ?_
   have e2:muF A (setCW f (lN f) 1)=2 * ((A.ms.length:Int) - fQ f)+(5 - 1)+6 * tX A.ps.length A.c (lN f) 1:=rfl;rw[e2,bB7 hc,aE6 hA f2];omega
  .have e:wr (eZ f+1)=eZ f+1:=wri (by omega) (by omega);have ht:aD f=(setCW f (fR f) (eZ f+1),pk0,false):=by
    unfold aD;rw[hs];have a:(f.2.2.2.2.2.2.2.1==0)=false:=by rw[beq_eq_false_iff_ne];exact h0
    have b:(f.2.2.2.2.2.2.2.1==4)=false:=by rw[beq_eq_false_iff_ne];exact h4
    rw[a,b,<- e];rfl
   have est:stepT A.i w=bS w ((aB w).set A.i (setCW f (fR f) (eZ f+1))):=by
    unfold stepT;rw[f1];show (if (aD f).2.2=true then _ else bS w ((aB w).set A.i (aD f).1))=_;rw[ht];rfl
   rw[est];refine⟨(h.mid.flows _).mono (λd=>cHr _ _) (cGz _),⟨_,self _,f2.setCW f2.c0 f2.c1 (by omega) (by omega),.inr ⟨rfl,.inl ⟨?_,.inr g3⟩⟩⟩,h.rev⟩;have e2:muF A (setCW f (fR f) (eZ f+1))=2 * ((A.ms.length:Int) - fQ f)+(5 - (eZ f+1))+6 * tX A.ps.length A.c (fR f) (eZ f+1):=rfl;have e3:tX A.ps.length A.c (fR f) (eZ f+1)=tX A.ps.length A.c (fR f) (eZ f):=by
    unfold tX;rw[zS (show ¬ eZ f+1=0 by omega),zS h0]
   have e4:muF A f=2 * ((A.ms.length:Int) - fQ f)+(5 - eZ f)+6 * tX A.ps.length A.c (fR f) (eZ f):=rfl;rw[e2,e3];omega
theorem Rnd.ticks{A:Aim}(hA:rV A):∀(n k:Nat) {w:den tNw},Rnd A (decide (A.i<k)) (λ_=>2 * n) n w (aI w)->cT A.t w->Rnd A (decide (A.i<k+n)) (λ_=>2 * 0) 0 (tickL k n w) (aI (tickL k n w))/\cT A.t (tickL k n w)
 | 0,k,w,h,hi=>⟨h,hi⟩
 | n+1,k,w,h,hi=>by
  have h':Rnd A (decide (A.i<k)) (λd=>2+(λ_=>2 * n) d) (n+1) w (aI w):=⟨h.mid.mono (λd=>by show 2+2 * n<=2 * (n+1);omega) (cF8 _),h.flw,h.rev⟩
  show Rnd A _ _ 0 (tickL (k+1) n (stepT k w)) (aI (tickL (k+1) n (stepT k w)))/\cT A.t (tickL (k+1) n (stepT k w));have goal:Rnd A (decide (A.i<k+1)) (λ_=>2 * n) n (stepT k w) (aI (stepT k w))/\cT A.t (stepT k w):=by
   by_cases hk:k=A.i
   .subst hk;rw[zW (Nat.lt_irrefl _)]at h';rw[zX (Nat.lt_succ_self _)];exact h'.own hA hi
   .have e:decide (A.i<k+1)=decide (A.i<k):=by
     rw[Bool.eq_iff_iff,zR,zR];omega
    rw[e];exact h'.other hA hi hk
  have r:=Rnd.ticks hA n (k+1) goal.1 goal.2;rw[show k+1+n=k+(n+1) by omega]at r;exact r
theorem bRn{A:Aim}(hA:rV A){w:den tNw}(hi:cT A.t w)(h0:aI w=[])(hl:(aB w).length<=3)(hn:wr (aJ w+1)=A.now)(hlt: ¬ aJ w>=1000000)(hd:aH w=A.dead)
  (hc:∀s d:Int,6<=free (vJ (nG w).2.1 A.now) (nG w).1 s d A.now) {f:den tFl} (hf:(aB w)[A.i]? =some f) (hF:FC A f) (ha:fQ f<(A.ms.length:Int)) (hm:muF A f<=A.m):
  ∃f',(aB (nB w))[A.i]? =some f'/\FC A f'/\muF A f'+1<=A.m:=by
 have m0:Mid A.t A.now A.dead (λ_=>2 * 3) 3 (tick0 w):=bM7 hi.top hn hd (by rw[<- hn]at hc ⊢;exact hc) rfl h0;have i0:cT A.t (tick0 w):=hi.same rfl rfl rfl λy hy=> .inl hy
 have f0:aI (tick0 w)=[]:=h0;have r0:Rnd A (decide (A.i<0)) (λ_=>2 * (aB w).length) (aB w).length (tick0 w) (aI (tick0 w)):=by
  refine⟨m0.mono (λd=>by show 2 * _<=2 * 3;omega) hl,⟨f,hf,hF,.inl ⟨rfl,ha,hm,λy hy=> ?_⟩⟩,λy hy=> ?_⟩
  .rw[f0]at hy;cases hy
  .rw[f0]at hy;cases hy
 obtain⟨r1,i1⟩:=Rnd.ticks hA _ _ r0 i0;rw[cGt,zX (cFz.1 hf).1]at r1;obtain⟨r2,i2⟩:=r1.del hA 2000 i1;have er:nB w=delW 2000 (tickL 0 (aB w).length (tick0 w)):=by
  unfold nB cZ;rw[zS hlt]
 rw[<- er]at r2;have e0:aI (nB w)=[]:=aQe (by omega) h0;obtain⟨f',g1,g2,g3⟩:=r2.flw;refine⟨f',g1,g2,?_⟩;rcases g3 with ⟨hb,_⟩ | ⟨_,⟨g3,_⟩ | ⟨_,_,_,_,y,hy,_⟩⟩
 .cases hb
 .exact g3
 .rw[e0]at hy;cases hy
structure aNx (w w':den tNw):Prop where
 cap:(nG w').1=(nG w).1
 res:(nG w').2.1=(nG w).2.1
 flow:aB w'=aB w\/ ∃r p,aB w'=(aB w).map (cX r p)
theorem aWv(w:den tNw)(r eg:Int)(p:den tPk):aNx w (gU w r eg p)/\aB (gU w r eg p)=aB w:=by
 have tr:∀(g:den tSc) (id s d now:Int),(oC g id s d now).1=g.1/\(oC g id s d now).2.2.1=g.2.1:=λg id s d now=>by
  unfold oC;split
  .exact⟨rfl,rfl⟩
  .split<;>exact⟨rfl,rfl⟩
 unfold gU;split
 .exact⟨⟨(tr _ _ _ _ _).1,(tr _ _ _ _ _).2,.inl rfl⟩,rfl⟩
 .exact⟨⟨rfl,rfl,.inl rfl⟩,rfl⟩
theorem aR5(w:den tNw)(r inn:Int)(p:den tPk):aNx w (proc0 w r inn p):=by
 unfold proc0;split
 .exact (aWv _ _ _ _).1
 .split
  .exact⟨rfl,rfl,.inr ⟨_,_,rfl⟩⟩
  .exact⟨rfl,rfl,.inl rfl⟩
theorem bOm(w:den tNw)(r:Int)(p:den tPk):aNx w (qX w r p):=by
 unfold qX;split
 .exact⟨rfl,rfl,.inl rfl⟩
 .split
  .have h:=aR5 (oQ w (dS (aR w) r p.2.1).toNat (cO (jD w (dS (aR w) r p.2.1).toNat) p)) r 0 (jV (cO (jD w (dS (aR w) r p.2.1).toNat) p) p);exact⟨h.cap,h.res,h.flow⟩
  .exact⟨rfl,rfl,.inl rfl⟩
theorem bM9(w:den tNw)(r d:Int)(p:den tPk):aNx w (tQ w r d p):=by
 unfold tQ;split
 .have h:=aR5 w r 0 (cB r (aJ w) d p);exact⟨h.cap,h.res,h.flow⟩
 .exact⟨rfl,rfl,.inr ⟨_,_,rfl⟩⟩
theorem aBx(w:den tNw)(r inn:Int)(p:den tPk):aNx w (dM w r inn p):=by
 unfold dM;split
 .exact (aWv _ _ _ _).1
 .split
  .split
   .exact bOm _ _ _
   .exact⟨rfl,rfl,.inr ⟨_,_,rfl⟩⟩
  .split
   .exact bM9 _ _ _ _
   .exact⟨rfl,rfl,.inl rfl⟩
def iB(P:Nat->den tFl->Prop)(w:den tNw):Prop:= ∀(k:Nat) (f:den tFl),(aB w)[k]? =some f->P k f
theorem iB.eq{P:Nat->den tFl->Prop}{w w':den tNw}(h:iB P w)(e:aB w'=aB w):iB P w':=λk f hf=>h k f (by rw[<- e];exact hf)
theorem iB.tame{P:Nat->den tFl->Prop}(hT:∀k r q f,P k f->P k (cX r q f)){w w':den tNw}(h:iB P w)(t:aNx w w'):iB P w':=by
 rcases t.flow with e | ⟨r,p,e⟩
 .exact h.eq e
 .intro k f hf;rw[e,cHz]at hf;obtain⟨g,hg,rfl⟩:=cGs.1 hf;exact hT k r p g (h k g hg)
theorem iB.out{P:Nat->den tFl->Prop}(hT:∀k r q f,P k f->P k (cX r q f)){w:den tNw}(h:iB P w):iB P (outW w):=by
 unfold outW;split
 .exact h
 .rename_i x l hf;exact iB.tame hT (w:=cC w l) (h.eq rfl) (aBx _ _ _ _)
theorem iB.del{P:Nat->den tFl->Prop}(hT:∀k r q f,P k f->P k (cX r q f)):∀(n:Nat) {w:den tNw},iB P w->iB P (delW n w)
 | 0,_,h=>h
 | n+1,w,h=>by
  unfold delW;split
  .exact h
  .exact iB.del hT n (h.out hT)
theorem iB.set{P:Nat->den tFl->Prop}{w:den tNw}(h:iB P w){k:Nat}{g:den tFl}(hg:P k g):iB P (bS w ((aB w).set k g)):=by
 intro j f hf;have hf:((aB w).set k g)[j]? =some f:=hf
 by_cases e:k=j
 .subst e;rw[cH3]at hf;simp only[zV]at hf;split at hf
  .injection hf with hf;subst hf;exact hg
  .cases hf
 .rw[cI5 e]at hf;exact h j f hf
theorem iB.tickT{P:Nat->den tFl->Prop}(hT:∀k r q f,P k f->P k (cX r q f))(hK:∀k f,P k f->P k (aD f).1)(k:Nat){w:den tNw}(h:iB P w):iB P (stepT k w):=by
 unfold stepT;split
 .rename_i f hf;have h1:iB P (bS w ((aB w).set k (aD f).1)):=h.set (hK k f (h k f hf));split
  .exact h1.tame hT (aBx _ _ _ _)
  .exact h1
 .exact h
theorem iB.tickL{P:Nat->den tFl->Prop}(hT:∀k r q f,P k f->P k (cX r q f))(hK:∀k f,P k f->P k (aD f).1):∀(n k:Nat) {w:den tNw},iB P w->iB P (tickL k n w)
 | 0,_,_,h=>h
 | n+1,k,w,h=>iB.tickL hT hK n (k+1) (iB.tickT hT hK k h)
theorem iB.tick{P:Nat->den tFl->Prop}(hT:∀k r q f,P k f->P k (cX r q f))(hK:∀k f,P k f->P k (aD f).1){w:den tNw}(h:iB P w):iB P (cZ w):=by
 unfold cZ;split
 .exact h
 .exact iB.tickL hT hK _ _ (w:=tick0 w) (h.eq rfl)
theorem iB.round{P:Nat->den tFl->Prop}(hT:∀k r q f,P k f->P k (cX r q f))(hK:∀k f,P k f->P k (aD f).1){w:den tNw}(h:iB P w):iB P (nB w):=(h.tick hT hK).del hT _
theorem iB.rounds{P:Nat->den tFl->Prop}(hT:∀k r q f,P k f->P k (cX r q f))(hK:∀k f,P k f->P k (aD f).1):∀(n:Nat) {w:den tNw},iB P w->iB P (cD n w)
 | 0,_,h=>h
 | n+1,w,h=>iB.rounds hT hK n (h.round hT hK)
theorem aRf{w w':den tNw}(t:aNx w w'):(aB w').length=(aB w).length:=by
 rcases t.flow with e | ⟨r,p,e⟩
 .rw[e]
 .rw[e,cGu]
structure fH (w:den tNw):Prop where
 cap:(nG w).1=(12:Int)
 low:∀s d now:Int,rs s d now (nG w).2.1<=6
 pos:∀x∈(nG w).2.1,(0:Int)<=x.2.2.2.1/\(20:Int)>=x.2.2.2.1
 few:(aB w).length<=3
 pth:iB (λ_ f=>f.2.2.2.2.2.1.length<=4) w
theorem bP6:∀(k:Nat) (r:Int) (q:den tPk) (f:den tFl),f.2.2.2.2.2.1.length<=4->(cX r q f).2.2.2.2.2.1.length<=4:=λk r q f h=>by
 unfold cX;split
 .split
  .unfold kG;split<;>exact h
  .unfold iY;cases q.1==3&&(qW q.2.2.2.2.2.2.2.2.2).2.2.2<;>exact h
 .exact h
theorem bS9:∀(k:Nat) (f:den tFl),f.2.2.2.2.2.1.length<=4->(aD f).1.2.2.2.2.2.1.length<=4:=λk f h=>by
 obtain⟨c,wt,e,_⟩:=aDk f;rw[e];exact h
theorem fH.tame{w w':den tNw}(h:fH w)(t:aNx w w'):fH w':=⟨t.cap.trans h.cap,by rw[t.res];exact h.low,by rw[t.res];exact h.pos,by rw[aRf t];exact h.few,h.pth.tame bP6 t⟩
theorem fH.fly{w:den tNw}(h:fH w)(l:lFy):fH (cC w l):=⟨h.cap,h.low,h.pos,h.few,h.pth.eq rfl⟩
theorem fH.out{w:den tNw}(h:fH w):fH (outW w):=by
 unfold outW;split
 .exact h
 .rename_i x l _;exact (h.fly l).tame (aBx _ _ _ _)
theorem fH.del:∀(n:Nat) {w:den tNw},fH w->fH (delW n w)
 | 0,_,h=>h
 | n+1,w,h=>by
  unfold delW;split
  .exact h
  .exact fH.del n h.out
theorem fH.set{w:den tNw}(h:fH w){k:Nat}{g:den tFl}(hg:g.2.2.2.2.2.1.length<=4):fH (bS w ((aB w).set k g)):=⟨h.cap,h.low,h.pos,by show ((aB w).set k g).length<=3;rw[cHm];exact h.few,h.pth.set hg⟩
theorem fH.tickT(k:Nat){w:den tNw}(h:fH w):fH (stepT k w):=by
 unfold stepT;split
 .rename_i f hf;have h1:fH (bS w ((aB w).set k (aD f).1)):=h.set (bS9 k f (h.pth k f hf));split
  .exact h1.tame (aBx _ _ _ _)
  .exact h1
 .exact h
theorem fH.tickL:∀(n k:Nat) {w:den tNw},fH w->fH (tickL k n w)
 | 0,_,_,h=>h
 | n+1,k,w,h=>fH.tickL n (k+1) (h.tickT k)
theorem fH.tick0{w:den tNw}(h:fH w):fH (tick0 w):=by
 refine⟨h.cap,λs d now=> ?_,λx hx=> ?_,h.few,h.pth.eq rfl⟩
 .show rs s d now (vJ (nG w).2.1 (wr (aJ w+1)))<=6;exact cHb (aOi _ h.pos) (h.low s d now)
 .have hx:x∈vJ (nG w).2.1 (wr (aJ w+1)):=hx;exact h.pos x ((cGc.1 hx).1)
theorem fH.tick{w:den tNw}(h:fH w):fH (cZ w):=by
 unfold cZ;split
 .exact h
 .exact fH.tickL _ _ h.tick0
theorem fH.round{w:den tNw}(h:fH w):fH (nB w):=h.tick.del _
theorem fH.event{w:den tNw}(h:fH w)(e:den gA):fH (doW w e).2:=by
 unfold doW;split
 .exact h.tick
 split
 .split
  .exact (fH.fly h _).tame (aBx _ _ _ _)
  .exact h
 split
 .split
  .have :=h.fly ((yQ w e.2.1.toNat).2.2.2.2.2.1);exact⟨h.cap,h.low,h.pos,h.few,h.pth.eq rfl⟩
  .exact h
 split
 .split
  .exact h.fly _
  .exact h
 split
 .have hl:aB (tJ w e.2.1 (e.1==5))=aB w/\nG (tJ w e.2.1 (e.1==5))=nG w:=by unfold tJ;first | exact⟨rfl,rfl⟩ | (split<;>exact⟨rfl,rfl⟩)
  exact⟨by rw[hl.2];exact h.cap,by rw[hl.2];exact h.low,by rw[hl.2];exact h.pos,by rw[hl.1];exact h.few,h.pth.eq hl.1⟩
 split
 .split
  .exact h.fly _
  .exact h
 split
 .split
  .rename_i f _ hf;refine h.set ?_;have hp:=h.pth _ _ hf;unfold aD9
   first | exact hp | (split<;>exact hp)
  .exact h
 .exact h
theorem bOw{w:den tNw}(h:fH w)(ho:OkS (nG w) (aJ w))(hn:wr (aJ w+1)=aJ w+1):∀s d:Int,6<=free (vJ (nG w).2.1 (aJ w+1)) (nG w).1 s d (aJ w+1):=by
 intro s d;have ht:=ho.tick (now':=aJ w+1) (by omega);have hc:(nG w).1=(12:Int):=h.cap;have e:=bEe (l:=vJ (nG w).2.1 (aJ w+1)) (cap:=(nG w).1) (now:=aJ w+1) ht.res (by rw[hc];decide) s d;rw[e,aWo,hc];have :=h.low s d (aJ w+1);omega
theorem bX.outW(w:den tNw):bX w (outW w):=by
 unfold Go.Proofs.YtnkjolpkcmgcaaaGreat.outW;split
 .exact bX.refl w
 .rename_i x l hf;have hs:bX w (cC w l):=⟨rfl,rfl,id,λy hy=> .inl (by rw[hf];exact cF7 _ hy),λhn=>by
   rw[hf]at hn;show l.length<=150;simp only[cGv]at hn;omega⟩
  exact hs.trans (bX.proc _ _ _ _)
theorem bX.delW:∀(n:Nat) (w:den tNw),bX w (delW n w)
 | 0,w=>bX.refl w
 | n+1,w=>by
  unfold Go.Proofs.YtnkjolpkcmgcaaaGreat.delW;split
  .exact bX.refl w
  .exact (bX.outW w).trans (bX.delW n _)
theorem bPh{w:den tNw}(h0:0<=aJ w)(h:aJ w+1<=1000000):aJ (nB w)=aJ w+1:=by
 have e1:aJ (nB w)=aJ (cZ w):=(bX.delW 2000 (cZ w)).now;have e2:cZ w=tickL 0 (aB w).length (tick0 w):=by
  unfold cZ;rw[zS (show ¬ aJ w>=1000000 by omega)]
 have e3:aJ (tickL 0 (aB w).length (tick0 w))=aJ (tick0 w):=(bX.tickL _ _ _).now;have e4:aJ (tick0 w)=wr (aJ w+1):=rfl;rw[e1,e2,e3,e4,bE (by omega) (by omega)]
theorem aSm:∀(n:Nat) (w:den tNw),aH (delW n w)=aH w
 | 0,_=>rfl
 | n+1,w=>by
  unfold delW;split
  .rfl
  .exact (aSm n (outW w)).trans (bPn w)
theorem bI6(w:den tNw):aH (nB w)=aH w:=(aSm 2000 (cZ w)).trans (aMd w)
theorem bYu(w:den tNw):(aB (outW w)).length=(aB w).length:=by
 unfold outW;split
 .rfl
 .exact (aRf (aBx _ _ _ _)).trans rfl
theorem bFz:∀(n:Nat) (w:den tNw),(aB (delW n w)).length=(aB w).length
 | 0,_=>rfl
 | n+1,w=>by
  unfold delW;split
  .rfl
  .exact (bFz n (outW w)).trans (bYu w)
theorem bM3(k:Nat)(w:den tNw):(aB (stepT k w)).length=(aB w).length:=by
 unfold stepT;split
 .split
  .exact (aRf (aBx _ _ _ _)).trans (by show ((aB w).set k _).length=_;rw[cHm])
  .show ((aB w).set k _).length=_;rw[cHm]
 .rfl
theorem aXy:∀(n k:Nat) (w:den tNw),(aB (tickL k n w)).length=(aB w).length
 | 0,_,_=>rfl
 | n+1,k,w=>by
  unfold tickL;exact (aXy n (k+1) (stepT k w)).trans (bM3 k w)
theorem aXv(w:den tNw):(aB (nB w)).length=(aB w).length:=by
 refine (bFz 2000 (cZ w)).trans ?_;unfold cZ;split
 .rfl
 .exact aXy _ 0 (tick0 w)
theorem aIl{t:den tTo}{B k d:Nat}{w:den tNw}(h:iA t B k d w)(hc:fH w)(n:Nat):k+n<=1000->d+n * 4008<=800000000->iA t (B+n * 328656) (k+n) (d+n * 4008) (cD n w)/\fH (cD n w)/\aJ (cD n w)=aJ w+n/\aH (cD n w)=aH w/\(aB (cD n w)).length=(aB w).length:=by
 induction n with
 | zero=>
  intro _ _;exact⟨h.mono (by omega) (by omega) (by omega),hc,by show aJ w=aJ w+((0:Nat):Int);omega,rfl,rfl⟩
 | succ n ih=>
  intro hk hd;obtain⟨a,b,c,e,g⟩:=ih (by omega) (by omega);have hlo:=h.run.lo;have hhi:=h.run.hi;rw[aEh];refine⟨(iA.step a (by omega) (by omega)).mono (by omega) (by omega) (by omega),b.round,?_,(bI6 _).trans e,(aXv _).trans g⟩;rw[bPh (by omega) (by omega),c];omega
theorem bHp{t:den tTo}{B k d:Nat}{w:den tNw}(h:iA t B k d w)(hc:fH w)(n:Nat):k+n<=1000->d+n * 4008<=800000000->aI (cD n w)=[]\/gM (cD n w)+1440 * n<=gM w:=by
 induction n with
 | zero=>intro _ _;exact .inr (cF8 _)
 | succ n ih=>
  intro hk hd;have hf:=(aIl h hc n (by omega) (by omega)).2.1.few;rw[aEh];rcases ih (by omega) (by omega) with g | g
  .exact .inl (aQe (by omega) g)
  .rcases aSn (w:=cD n w) (by omega) with g2 | g2
   .exact .inl g2
   .exact .inr (by omega)
theorem bCh{t:den tTo}{B k d:Nat}{w:den tNw}(h:iA t B k d w)(hc:fH w){n:Nat}(hn:15<=n)(hk:k+n<=1000)(hd:d+n * 4008<=800000000):aI (cD n w)=[]:=by
 rcases bHp h hc n hk hd with g | g
 .exact g
 .have h1:=bFn (aI w);have h2:=h.run.flyN;have h3:gM w=aGm (aI w):=rfl;have h4:140 * (aI w).length<=140 * 150:=Nat.mul_le_mul_left _ h2;omega
def aCv(f0 f:den tFl):Prop:=f.1=f0.1/\f.2.1=f0.2.1/\f.2.2.2.2.1=f0.2.2.2.2.1/\f.2.2.2.2.2.1=f0.2.2.2.2.2.1
theorem aCv.trans{a b c:den tFl}(h:aCv a b)(k:aCv b c):aCv a c:=⟨k.1.trans h.1,k.2.1.trans h.2.1,k.2.2.1.trans h.2.2.1,k.2.2.2.trans h.2.2.2⟩
theorem bO1(r:Int)(q:den tPk)(f:den tFl):aCv f (cX r q f):=by
 unfold cX;split
 .split
  .unfold kG;split<;>exact⟨rfl,rfl,rfl,rfl⟩
  .unfold iY;cases q.1==3&&(qW q.2.2.2.2.2.2.2.2.2).2.2.2<;>exact⟨rfl,rfl,rfl,rfl⟩
 .exact⟨rfl,rfl,rfl,rfl⟩
theorem bLr(f:den tFl):aCv f (aD f).1:=by
 obtain⟨c,wt,e,_⟩:=aDk f;rw[e];exact⟨rfl,rfl,rfl,rfl⟩
def bVc(i:Nat)(f0:den tFl)(k:Nat)(f:den tFl):Prop:=k=i->aCv f0 f
theorem aJu{w:den tNw}{i:Nat}{f0:den tFl}(hf:(aB w)[i]? =some f0)(n:Nat){f:den tFl}(h:(aB (cD n w))[i]? =some f):aCv f0 f:=by
 have a:iB (bVc i f0) w:=λk g hg e=>by
  rw[e,hf]at hg;injection hg with hg;rw[hg];exact⟨rfl,rfl,rfl,rfl⟩
 exact iB.rounds (P:=bVc i f0) (λk r q g hg e=>(hg e).trans (bO1 r q g)) (λk g hg e=>(hg e).trans (bLr g)) n a i f h rfl
def aEe(f:den tFl):Prop:=f.2.2.2.1=(f.2.2.2.2.1.length:Int)
theorem bOo{r:Int}{q:den tPk}{f:den tFl}(h:aEe f):aEe (cX r q f):=by
 have ha:aEf f q=false:=by
  have e:inR f.2.2.2.1 0 ((f.2.2.2.2.1.length:Int) - 1)=false:=by
   have h:f.2.2.2.1=(f.2.2.2.2.1.length:Int):=h;rw[h];cases c:inR (f.2.2.2.2.1.length:Int) 0 ((f.2.2.2.2.1.length:Int) - 1) with
   | false=>rfl
   | true=>have :=(aV.1 c).2;omega
  unfold aEf;rw[e];simp
 unfold cX;split
 .split
  .unfold kG;rw[ha];exact h
  .unfold iY;cases q.1==3&&(qW q.2.2.2.2.2.2.2.2.2).2.2.2<;>exact h
 .exact h
theorem bN3{f:den tFl}(h:aEe f):aEe (aD f).1:=by
 obtain⟨c,wt,e,_⟩:=aDk f;rw[e];exact h
def mkA(t:den tTo)(dead:List Int)(f0:den tFl)(c:Nat)(q:den tPt)(i:Nat)(now m:Int):Aim:=⟨t,now,dead,f0.1,f0.2.1,f0.2.2.2.2.1,f0.2.2.2.2.2.1,c,q,i,m⟩
theorem bG8{t:den tTo}{dead:List Int}{f0:den tFl}{c:Nat}{q:den tPt}{i:Nat}{now m:Int}{f:den tFl}(hv:iR f=true)(hs:aCv f0 f)(hp:0<f0.2.2.2.2.2.1.length):FC (mkA t dead f0 c q i now m) f:=by
 rw[mU]at hv;obtain⟨q1,q2,q3,q4,q5,q6,q7,q8,q9,q10,q11,q12⟩:=hv;obtain⟨s1,s2,s3,s4⟩:=hs;obtain⟨a0,a1⟩:=aV.1 q6;obtain⟨w0,w1⟩:=aV.1 q11;rw[s3]at a1;rw[s4]at q10;refine⟨s1,s2,s3,s4,a0,a1,?_,?_,w0,w1⟩
 .rcases q10 with e | e
  .show 0<=f.2.2.2.2.2.2.1;rw[e];exact cGx _
  .exact (aV.1 e).1
 .show f.2.2.2.2.2.2.1<(f0.2.2.2.2.2.1.length:Int);rcases q10 with e | e
  .rw[e];exact Int.ofNat_lt.2 hp
  .have key:∀a b:Int,a<=b - 1->a<b:=λa b h=>by omega
   exact key _ _ (aV.1 e).2
theorem aWw{A:Aim}(hA:A.c<A.ps.length){f:den tFl}(h:FC A f):0<=muF A f/\muF A f<=2 * (A.ms.length:Int)+5+6 * (A.ps.length:Int):=by
 have a0:=h.a0;have a1:=h.a1;have w0:=h.w0;have w1:=h.w1;obtain⟨f0,f1⟩:=bB5 (n:=A.ps.length) (c:=A.c) (cur:=fR f) (w:=eZ f) (by omega) (by omega) h.c0 h.c1;unfold muF;constructor<;>omega
theorem bDj{t:den tTo}{B k d:Nat}{w:den tNw}(h:iA t B k d w)(hc:fH w){i:Nat}{f0:den tFl}(hf:(aB w)[i]? =some f0){c:Nat}{q:den tPt}(hq:f0.2.2.2.2.2.1[c]? =some q)(N:Nat)(hN:k+N<=1000)(hd:d+N * 4008<=800000000)
  (hw:∀τ:Int,aJ w<=τ->τ<=aJ w+N->aP3 t τ (aH w) q) (hn:15+(2 * f0.2.2.2.2.1.length+5+6 * f0.2.2.2.2.2.1.length)+1<=N):
  ∃f,(aB (cD N w))[i]? =some f/\aEe f/\aCv f0 f:=by
 have hcl:c<f0.2.2.2.2.2.1.length:=(cFz.1 hq).1;have hil:i<(aB w).length:=(cFz.1 hf).1;have hlo:=h.run.lo;have hhi:=h.run.hi;have hb:i<(aR w).length:=by rw[h.inv.lenB];exact hil
 have hI:=h.inv.flow i f0 _ hf (cFx hb);have hv0:=(mU f0).1 hI.val;obtain⟨_,_,_,_,v5,_,v7,_⟩:=hv0;have hends:=hI.paths q (cF9 hq);have key:∀m:Nat,15+m<=N-> ∃f,(aB (cD (15+m) w))[i]? =some f/\(aEe f\/muF (mkA t (aH w) f0 c q i 0 0) f+m<=2 * (f0.2.2.2.2.1.length:Int)+5+6 * (f0.2.2.2.2.2.1.length:Int)):=by
  intro m
  induction m with
  | zero=>
   intro hm;obtain⟨a1,a2,a3,a4,a5⟩:=aIl h hc 15 (by omega) (by omega);have hl:i<(aB (cD 15 w)).length:=by rw[a5];exact hil
   refine⟨_,cFx hl,.inr ?_⟩;have hb:i<(aR (cD 15 w)).length:=by rw[a1.inv.lenB];exact hl
   have hv:=(a1.inv.flow i _ _ (cFx hl) (cFx hb)).val;have hF:FC (mkA t (aH w) f0 c q i 0 0) _:=bG8 hv (aJu hf 15 (cFx hl)) (by omega);have :=(aWw (A:=mkA t (aH w) f0 c q i 0 0) hcl hF).2;have this:muF (mkA t (aH w) f0 c q i 0 0) _<=2 * (f0.2.2.2.2.1.length:Int)+5+6 * (f0.2.2.2.2.2.1.length:Int):=this;omega
  | succ m ih=>
   intro hm;obtain⟨f,hf',hor⟩:=ih (by omega);obtain⟨a1,a2,a3,a4,a5⟩:=aIl h hc (15+m) (by omega) (by omega);have e0:=bCh h hc (n:=15+m) (by omega) (by omega) (by omega);have hS:=aJu hf (15+m) hf';rw[show 15+(m+1)=15+m+1 by omega,aEh];have hl:i<(aB (cD (15+m) w)).length:=(cFz.1 hf').1;have hb:i<(aR (cD (15+m) w)).length:=by rw[a1.inv.lenB];exact hl
   have hv:=(a1.inv.flow i _ _ hf' (cFx hb)).val;have hl2:i<(aB (nB (cD (15+m) w))).length:=by rw[aXv];exact hl
   by_cases hD:aEe f
   .refine⟨_,cFx hl2,.inl ?_⟩;have a:iB (λk g=>k=i->aEe g) (cD (15+m) w):=λk g hg e=>by
     rw[e,hf']at hg;injection hg with hg;rw[<- hg];exact hD
    exact iB.round (P:=λk g=>k=i->aEe g) (λk r q g hg e=>bOo (hg e)) (λk g hg e=>bN3 (hg e)) a i _ (cFx hl2) rfl
   .have hmu:muF (mkA t (aH w) f0 c q i 0 0) f+m<=2 * (f0.2.2.2.2.1.length:Int)+5+6 * (f0.2.2.2.2.2.1.length:Int):=hor.elim (λg=>absurd g hD) id;have hF:∀now m',FC (mkA t (aH w) f0 c q i now m') f:=λnow m'=>bG8 hv hS (by omega)
    have hlt:fQ f<(f0.2.2.2.2.1.length:Int):=by
     have h1:fQ f<=(f0.2.2.2.2.1.length:Int):=(hF 0 0).a1;have h2: ¬ fQ f=(f.2.2.2.2.1.length:Int):=hD;rw[hS.2.2.1]at h2;omega
    have wn:wr (aJ (cD (15+m) w)+1)=aJ (cD (15+m) w)+1:=bE (by omega) (by omega);have hwk:=hw (aJ (cD (15+m) w)+1) (by omega) (by omega);have hA:rV (mkA t (aH w) f0 c q i (aJ (cD (15+m) w)+1) (muF (mkA t (aH w) f0 c q i 0 0) f)):=⟨hq,hwk,hends.1,hends.2,v5,v7⟩
    obtain⟨f',g1,g2,g3⟩:=bRn hA (w:=cD (15+m) w) a1.inv e0 a2.few wn (by omega) a4 (bOw a2 a1.run.gate wn) hf' (hF _ _) hlt (cGx _);refine⟨f',g1,.inr ?_⟩;have g3:muF (mkA t (aH w) f0 c q i 0 0) f'+1<=muF (mkA t (aH w) f0 c q i 0 0) f:=g3;omega
 obtain⟨f,g1,g2⟩:=key (N - 15) (by omega);rw[show 15+(N - 15)=N by omega]at g1;have hS:=aJu hf N g1;refine⟨f,g1,g2.elim id λg=> ?_,hS⟩;obtain⟨a1,a2,a3,a4,a5⟩:=aIl h hc N (by omega) (by omega);have hl:i<(aB (cD N w)).length:=(cFz.1 g1).1;have hb:i<(aR (cD N w)).length:=by rw[a1.inv.lenB];exact hl
 have hv:=(a1.inv.flow i _ _ g1 (cFx hb)).val;have hF:FC (mkA t (aH w) f0 c q i 0 0) f:=bG8 hv hS (by omega);have :=(aWw (A:=mkA t (aH w) f0 c q i 0 0) hcl hF).1;omega
theorem bH9{f:den tFl}(h1:f.2.2.2.2.2.1.length<=24)(h2:f.2.2.2.2.1.length<=20):aDx f=21 * (f.2.2.2.2.2.1.length:Int)+42+2 * (f.2.2.2.2.1.length:Int):=by
 unfold aDx;have e1:wr ((f.2.2.2.2.2.1.length:Int)+(2:Int))=(f.2.2.2.2.2.1.length:Int)+2:=bE (by omega) (by omega);have e2:wr ((2:Int) * (f.2.2.2.2.1.length:Int))=2 * (f.2.2.2.2.1.length:Int):=bE (by omega) (by omega);rw[e1,e2];have e3:wr (((f.2.2.2.2.2.1.length:Int)+2) * (21:Int))=21 * (f.2.2.2.2.2.1.length:Int)+42:=by rw[bE (by omega) (by omega)];omega
 rw[e3];exact bE (by omega) (by omega)
theorem aWr(g:den tFl->Int)(b:Int):∀(l:lFl) (k:Nat) (a:Int),(∀f∈l,g f<=b)->a<=b->bO (λ_ f a=>if g f>a then g f else a) k l a<=b/\a<=bO (λ_ f a=>if g f>a then g f else a) k l a/\ ∀f∈l,g f<=bO (λ_ f a=>if g f>a then g f else a) k l a
 | [],k,a,_,h=>⟨h,cGx _,λf hf=>(cGn hf).elim⟩
 | x::l,k,a,hl,h=>by
  have hx:=hl x (cGb ..);have ha':(if g x>a then g x else a)<=b:=by split<;>omega
  obtain⟨i1,i2,i3⟩:=aWr g b l (k+1) (if g x>a then g x else a) (λf hf=>hl f (cF7 _ hf)) ha';have a1:a<=(if g x>a then g x else a)/\g x<=(if g x>a then g x else a):=by split<;>constructor<;>omega
  show bO _ (k+1) l (if g x>a then g x else a)<=b/\a<=bO _ (k+1) l (if g x>a then g x else a)/\ ∀f∈x::l,g f<=bO _ (k+1) l (if g x>a then g x else a);refine⟨i1,cHb a1.1 i2,λf hf=> ?_⟩;rcases cFy.1 hf with rfl | hf
  .exact cHb a1.2 i2
  .exact i3 f hf
theorem aYj{w:den tNw}(hp:∀f∈aB w,f.2.2.2.2.2.1.length<=4/\f.2.2.2.2.1.length<=20):0<=oV w/\oV w<=166/\ ∀f∈aB w,21 * (f.2.2.2.2.2.1.length:Int)+42+2 * (f.2.2.2.2.1.length:Int)<=oV w:=by
 have e:∀f∈aB w,aDx f=21 * (f.2.2.2.2.2.1.length:Int)+42+2 * (f.2.2.2.2.1.length:Int):=λf hf=>by
  have :=hp f hf;exact bH9 (by omega) (by omega)
 obtain⟨i1,i2,i3⟩:=aWr aDx 166 (aB w) 0 0 (λf hf=>by have :=hp f hf;rw[e f hf];omega) (by decide);exact⟨i2,i1,λf hf=>by rw[<- e f hf];exact i3 f hf⟩
theorem bKn(g:den tPt->Bool)(l:lPt):∀k:Nat,(∃i:Int,bW (λk p=>if g p then some (k:Int) else none) k l=some i/\0<=i/\ ∃(c:Nat) (q:den tPt),l[c]? =some q/\g q=true)\/(bW (λk p=>if g p then some (k:Int) else none) k l=none/\ ∀q∈l,g q=false):=by
 induction l with
 | nil=>exact λk=> .inr ⟨rfl,λq hq=>(cGn hq).elim⟩
 | cons x l ih=>
  intro k;unfold bW;cases hx:g x with
  | true=>
   simp only[zV];exact .inl ⟨k,rfl,by omega,0,x,rfl,hx⟩
  | false=>
   simp only[cF1,zU];rcases ih (k+1) with ⟨i,h1,h2,c,q,h3,h4⟩ | ⟨h1,h2⟩
   .exact .inl ⟨i,h1,h2,c+1,q,h3,h4⟩
   .refine .inr ⟨h1,λq hq=> ?_⟩;rcases cFy.1 hq with rfl | hq
    .exact hx
    .exact h2 q hq
theorem bKi(w:den tNw)(f:den tFl):(0<=aD0 w f/\ ∃(c:Nat) (q:den tPt),f.2.2.2.2.2.1[c]? =some q/\aF8 w q=true)\/(aD0 w f= -1/\ ∀q∈f.2.2.2.2.2.1,aF8 w q=false):=by
 unfold aD0;rcases bKn (aF8 w) f.2.2.2.2.2.1 0 with ⟨i,h1,h2,h3⟩ | ⟨h1,h2⟩
 .rw[h1];exact .inl ⟨h2,h3⟩
 .rw[h1];exact .inr ⟨rfl,h2⟩
theorem bJs{t:den tTo}{B k d:Nat}{w:den tNw}(h:iA t B k d w)(hc:fH w)(hk:k+174<=1000)(hd:d+174 * 4008<=800000000):∃N:Nat,wr (8+oV w)=(N:Int)/\N<=174/\aH5 w=aJ w+N/\
  ∀(i:Nat) (f0:den tFl),(aB w)[i]? =some f0->0<=aD0 w f0-> ∃f,(aB (cD N w))[i]? =some f/\aEe f/\aCv f0 f:=by
 have hp:∀f∈aB w,f.2.2.2.2.2.1.length<=4/\f.2.2.2.2.1.length<=20:=λf hf=>by
  obtain⟨i,hi⟩:=cJg.1 hf;have hl:i<(aB w).length:=(cFz.1 hi).1;have hb:i<(aR w).length:=by rw[h.inv.lenB];exact hl
  have hv:=(mU f).1 (h.inv.flow i _ _ hi (cFx hb)).val;exact⟨hc.pth i f hi,hv.2.2.2.2.1⟩
 obtain⟨s1,s2,s3⟩:=aYj hp;have hlo:=h.run.lo;have hhi:=h.run.hi;have e1:wr (8+oV w)=8+oV w:=bE (by omega) (by omega);have hN:∃N:Nat,8+oV w=(N:Int):=⟨(8+oV w).toNat,by omega⟩
 obtain⟨N,hN⟩:=hN;have e2:aH5 w=aJ w+N:=by
  show wr (aJ w+wr (8+oV w))=_;rw[e1,hN,bE (by omega) (by omega)]
 refine⟨N,by rw[e1];exact hN,by omega,e2,λi f0 hf hwk=> ?_⟩
 .rcases bKi w f0 with ⟨_,c,q,hq,hok⟩ | ⟨e,_⟩
  .unfold aF8 aJh at hok;simp only[cFw]at hok;obtain⟨⟨p1,p2⟩,p3,p4⟩:=hok;rw[e2]at p3 p4;have htop:w.1=t:=h.run.top;rw[htop]at p1 p2 p3 p4;have hm:=s3 f0 (cF9 hf);refine bDj h hc hf hq N (by omega) (by omega) (fun τ t1 t2=>⟨?_,?_⟩) (by omega)
   .exact (aIw p1).mid t1 t2 (aIw p3)
   .exact (aIw p2).mid t1 t2 (aIw p4)
  .omega
theorem bMt{s d now i:Int}:∀{l:lRs},l.Pairwise (λx y=>kF x y=false)->(∀x∈l,x.1=i/\(0:Int)<=x.2.2.2.1/\(2:Int)>=x.2.2.2.1)->rs s d now l<=2
 | [],_,_=>by simp[rs]
 | x::l,hp,h=>by
  have ih:=bMt (s:=s) (d:=d) (now:=now) (i:=i) (cJa.1 hp).2 λy hy=>h y (cF7 _ hy)
  have hx:=h x (cGb ..);unfold rs;cases ha:atR x s d with
  | false=>simp only[Bool.false_and,cF1,zU];omega
  | true=>
   have h0:rs s d now l=0:=by
    rcases bIj (s:=s) (d:=d) (now:=now) (l:=l) with h0 | ⟨y,hy,e1,e2⟩
    .exact h0
    .have hn:=(cJa.1 hp).1 y hy;have hy':=(h y (cF7 _ hy)).1;unfold atR at ha;simp only[cFw,beq_iff_eq]at ha;have :kF x y=true:=by
      unfold kF atR;simp only[cFw,beq_iff_eq];exact⟨hy'.trans hx.1.symm,e1.trans ha.1.symm,e2.trans ha.2.symm⟩
     rw[this]at hn;cases hn
   rw[h0];split<;>omega
theorem bB8{s d now:Int}:∀{l:lRs},(∀x∈l,(1:Int)<=x.1/\(3:Int)>=x.1)->rs s d now l=rs s d now (l.filter λx=>x.1==(1:Int))+rs s d now (l.filter λx=>x.1==(2:Int))+rs s d now (l.filter λx=>x.1==(3:Int))
 | [],_=>by simp[rs]
 | x::l,h=>by
  have ih:=bB8 (s:=s) (d:=d) (now:=now) (l:=l) λy hy=>h y (cF7 _ hy)
  have hx:=h x (cGb ..);have key:∀z:Int,1<=z->3>=z->z=1\/z=2\/z=3:=λz h1 h2=>by omega
  have h3:x.1=(1:Int)\/x.1=(2:Int)\/x.1=(3:Int):=key _ hx.1 hx.2;simp only[cH9];rcases h3 with e | e | e
  .rw[e];simp only[show ((1:Int)==1)=true from rfl,show ((1:Int)==2)=false from rfl,show ((1:Int)==3)=false from rfl,zV,cF1,zU,rs];omega
  .rw[e];simp only[show ((2:Int)==1)=false from rfl,show ((2:Int)==2)=true from rfl,show ((2:Int)==3)=false from rfl,zV,cF1,zU,rs];omega
  .rw[e];simp only[show ((3:Int)==1)=false from rfl,show ((3:Int)==2)=false from rfl,show ((3:Int)==3)=true from rfl,zV,cF1,zU,rs];omega
theorem wB.calm{w:den tNw}(h:wB 3 w):fH w:=by
 have hr:=vI h.res.val;have hv:∀x∈(nG w).2.1,(1:Int)<=x.1/\(3:Int)>=x.1/\(0:Int)<=x.2.2.2.1/\(2:Int)>=x.2.2.2.1:=λx hx=>⟨(aKg (h.res.val x hx)).1,(h.low x hx).1,(hr x hx).1,(h.low x hx).2⟩
 refine⟨by rw[h.gate],λs d now=> ?_,hr,h.len,λk f hf=>(h.flows f (cF9 hf)).paths.1⟩;rw[bB8 λx hx=>⟨(hv x hx).1,(hv x hx).2.1⟩];have one:∀i:Int,rs s d now ((nG w).2.1.filter λx=>x.1==i)<=2:=λi=>bMt (i:=i) (h.res.pw.filter _) λx hx=>by
  obtain⟨h1,h2⟩:=cGc.1 hx;exact⟨eq_of_beq h2,(hv x h1).2.2.1,(hv x h1).2.2.2⟩
 have a:=one 1;have b:=one 2;have c:=one 3;omega
theorem Ran.calm{v:den tNw}(hv:wB 3 v){l:mG}{w:den tNw}(h:Ran v l w):fH w:=by
 induction h with
 | nil=>exact hv.calm
 | snoc h he ih=>exact ih.event _
structure bY1 (t:den tTo) (B k d:Nat) (w:den tNw) (N:Nat):Prop where
 cnt:wr (8+oV w)=(N:Int)
 few:N<=174
 run:wD w (wr (8+oV w))=cD N w
 rnd:iA t (B+N * 328656) (k+N) (d+N * 4008) (cD N w)
 calm:fH (cD N w)
 now:aJ (cD N w)=aJ w+N
 dead:aH (cD N w)=aH w
 len:(aB (cD N w)).length=(aB w).length
 later:aH5 w=aJ w+N
 go:∀(i:Nat) (f0:den tFl),(aB w)[i]? =some f0->0<=aD0 w f0-> ∃f,(aB (cD N w))[i]? =some f/\aEe f/\aCv f0 f
theorem bJf{t:den tTo}{B k d:Nat}{w:den tNw}(h:iA t B k d w)(hc:fH w)(hk:k<=400)(hd:d<=10000000)(ht:aCl t=true):∃N:Nat,bY1 t B k d w N:=by
 obtain⟨N,h1,h2,h3,h4⟩:=bJs h hc (by omega) (by omega);obtain⟨a1,a2,a3,a4,a5⟩:=aIl h hc N (by omega) (by omega);refine⟨N,h1,h2,?_,a1,a2,a3,a4,a5,h3,h4⟩;unfold wD;rw[h.valid (by omega) ht,h1,show inR (N:Int) 0 1000=true from aV.2 ⟨by omega,by omega⟩,cF2];rfl
theorem bZf{w:den tNw}(h:tot tNw w<=1073741824){i:Nat}{f:den tFl}(hf:(aB w)[i]? =some f):mM w f=some (aD0 w f):=by
 have hF:tot (.sl tFl) w.2.2.2.2.2.2.1<=1073741824:=xS (aT (aT (aT (aT (aT (aT h))))));have hm:=vC (t:=tFl) (cF9 hf);have hF:tot (.sl tFl) (aB w)<=1073741824:=hF;exact bZo (bVs h) (by omega)
theorem bNr{t:den tTo}{now:Int}(n:Nat):∀p:den tPk,(goC t now n p).1=0\/(goC t now n p).1=4\/(goC t now n p).1=5:=by
 have c:∀p,cN t now p=0\/cN t now p=4\/cN t now p=5:=λp=>by
  unfold cN;split
  .split
   .exact .inl rfl
   .exact .inr (.inr rfl)
  .exact .inr (.inl rfl)
 induction n with
 | zero=>exact c
 | succ n ih=>
  intro p;unfold goC;split
  .exact ih _
  .exact c p
theorem bZc{t:den tTo}{r now dead inn:Int}{p:den tPk}(h:(fwd t r now dead inn p).1<=1):(fwd t r now dead inn p).1=0\/(fwd t r now dead inn p).1=1:=by
 have g:=bNr (t:=t) (now:=now) (p.2.2.2.1.length - p.2.2.2.2.1.toNat) p;have g:(aX t now p).1=0\/(aX t now p).1=4\/(aX t now p).1=5:=g;have no:∀a:Int,1<a-> ¬ a<=1:=λa h=>by omega
 unfold fwd at h|-;split at h
 .exact absurd h (no _ (show (1:Int)<2 by decide))
 rename_i c1;rw[zS c1];split at h
 .exact absurd h (no _ (show (1:Int)<3 by decide))
 rename_i c2;rw[zS c2];split at h
 .rename_i c3;rcases g with g | g | g
  .rw[g]at c3;exact absurd c3 (by decide)
  .have h:(aX t now p).1<=1:=h;rw[g]at h;exact absurd h (by decide)
  .have h:(aX t now p).1<=1:=h;rw[g]at h;exact absurd h (by decide)
 rename_i c3;rw[zS c3];split at h
 .rename_i c4;rw[zT c4];split at h
  .rename_i c5;rw[zT c5];exact .inr rfl
  .exact absurd h (no _ (show (1:Int)<2 by decide))
 rename_i c4;rw[zS c4];split at h
 .exact absurd h (no _ (show (1:Int)<6 by decide))
 rename_i c5;rw[zS c5];split at h
 .exact absurd h (no _ (show (1:Int)<7 by decide))
 rename_i c6;rw[zS c6];exact .inl rfl
theorem cB5{t:den tTo}{r now dead inn:Int}{p:den tPk}(h:(fwd t r now dead inn p).1<=1):zD t p=true/\wT p now=true/\nP t p.2.2.2.1=true/\cA p=r:=by
 have th:=vK (t:=t) (r:=r) (now:=now) (dead:=dead) (inn:=inn) (p:=p) ((bZc h).elim .inl λe=> .inr (.inl e));have hc:cN t now p=0:=xH th.go;unfold cN at hc;split at hc
 .rename_i hs;split at hc
  .rename_i hi;exact⟨hs,hi,th.sim,th.at_⟩
  .exact absurd hc (show ¬ (5:Int)=0 by decide)
 .exact absurd hc (show ¬ (4:Int)=0 by decide)
theorem bR2{m:Nat}{l:List Int}(h:aAi m l){n:Nat}(hm:m<=n):l.length<=n:=by
 have key:∀(l:List Int) (a:Int),l.Pairwise (λa b=>a<b)->(∀x∈l,a<=x/\x<(m:Int))->a<=(m:Int)->(l.length:Int)<=(m:Int) - a:=by
  intro l
  induction l with
  | nil=>intro a _ _ ha;simp;exact ha
  | cons x l ih=>
   intro a hp hx ha;have h1:=hx x (cGb ..);have :=ih (x+1) (cJa.1 hp).2 (λy hy=>⟨by have :=(cJa.1 hp).1 y hy;omega,(hx y (cF7 _ hy)).2⟩) (by omega);simp only[cGv];omega
 have :=key l 0 h.1 (λx hx=>⟨(h.2 x hx).1,(h.2 x hx).2⟩) (by omega);omega
theorem bR7{S R T:Type}{n:Nat}{step:S->Option (S⊕R)}(enc:Nat->S){r:R}{k:R->Option T}{s0:S}(h0:s0=enc 0)(h:∀i:Nat,i<n->step (enc i)=some (.inl (enc (i+1))))(he:step (enc n)=some (.inr r)):Option.bind (aC step s0) k=k r:=by
 subst h0;have key:∀m i:Nat,i+m=n->aC step (enc i)=some r:=by
  intro m
  induction m with
  | zero=>intro i hi;rw[show i=n by omega];exact bA he
  | succ m ih=>intro i hi;rw[cQ (h i (by omega))];exact ih (i+1) (by omega)
 rw[key n 0 (by omega)];rfl
end Go.Proofs.YtnkjolpkcmgcaaaGreat
