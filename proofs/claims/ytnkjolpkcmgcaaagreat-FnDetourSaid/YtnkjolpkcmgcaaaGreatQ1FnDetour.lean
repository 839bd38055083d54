/-
  Facts and plain laws: what the functions compute, in plain words. Conditions: as each says.
-/
import Derived.Test.YtnkjolpkcmgcaaaGreatQ0FnDetour
open List renaming pairwise_iff_getElem->cBv,getElem?_eq_getElem->bZw,getElem?_set_self->cB4,getElem?_eq_some_iff->bZy,length_filter_le->cCk,mem_append->bZ2,mem_singleton->bZz,mem_of_mem_take->cBg,mem_of_mem_drop->cBk,mem_cons_of_mem->bZ0,mem_cons->bZx,mem_of_getElem?->bZ9,not_mem_nil->cAj,getElem_mem->cBd,take_append_drop->cBb,pairwise_append->cDj,getElem?_set->cBx,all_eq_true->cAi,mem_iff_getElem?->cC6,getElem?_take->cBa,Sublist->cCn,append_nil->cAs,flatMap_cons->cC4,append_assoc->cAg,length->cAc,length_append->cAh,map_cons->cAd,length_cons->cAy,length_take->cA8,length_map->cAr,length_drop->cB1,nil_append->cAl,getElem?_drop->cBj,filter_cons->cCi,getElem?_map->cBq,length_nil->cBm,mem_filter->cAa,mem_flatMap->cAm,foldl_cons->cB6,mem_or_eq_of_mem_set->cC1,drop_eq_getElem_cons->cCg,reverse_cons->cDb,mem_cons_self->bZ6,mem_map->bZ1,map_append->cBi,length_set->cBl,length_singleton->cBe,getLast?_concat->cBs,dropLast_concat->cB3,mem_range->cC2,singleton_append->cDa,length_dropLast->cDc,cons_append->cCy,getElem?_append_right->cCd,map_map->cCc
open Int renaming toNat_natCast->bZ4,lt_irrefl->cA5,eq_ofNat_of_zero_le->cA0,le_refl->cAu,le_trans->cA6
open Option renaming getD_some->cA3,map_eq_some_iff->cAp
open Nat renaming le_trans->bZv,le_refl->bZ7,zero_le->cAe,succ_mul->cAo,mul_le_mul_right->cA4,le_succ->cAw,not_lt_zero->cCh,le_of_eq->cBr,le_add_right->cCw,add_sub_cancel->cC5
open Bool renaming not_true->bZ5,or_self->cBu,false_eq_true->bZ8,and_eq_true->bZu,or_eq_true->cBf,not_false->cAb,and_self->cCm,not_eq_true'->cAx,or_eq_false_iff->cB2
open Sum renaming inl->bZt,inr->bZs,elim_inl->cCj
open Array renaming length_toList->cC0
set_option linter.unusedVariables false
set_option linter.unusedSimpArgs false
set_option maxRecDepth 100000
namespace Go.Proofs.YtnkjolpkcmgcaaaGreat
open Go.Ab Go.V
theorem OkS.rate_le{g:den tSc}{now:Int}(h:OkS g now)(id s d:Int):0<=pI g id s d now/\pI g id s d now<=20:=by
 unfold pI;split
 .rw[bBz h.res ⟨h.lo,h.hi⟩];have h1:=h.res.rs_le (by have :=h.lo;omega) s d;have h2:=aQ0 (s:=s) (d:=d) (now:=now) (rZ h.res.val);have :=h.hi;omega
 .rw[bE5];exact bIh (rZ h.res.val)
abbrev bXw(p:Int×Bool×lRs×lUs):den tSc:=(p.1,p.2.2.1,p.2.2.2)
theorem OkS.trans{g:den tSc}{now:Int}(h:OkS g now)(id s d:Int):OkS (bXw (pQ g id s d now)) now:=by
 unfold pQ;split
 .rename_i hu;exact⟨h.lo,h.hi,h.res,h.use.more hu (by have :=h.rate_le id s d;omega)⟩
 .split
  .rename_i hu;exact⟨h.lo,h.hi,h.res,h.use.more hu (by have :=h.rate_le 0 s d;omega)⟩
  .exact h
theorem OkS.pw{g:den tSc}{now:Int}(h:OkS g now):g.2.2.Pairwise λx y=>jL x.1 x.2.1 x.2.2.1 y=false:=by
 rw[cBv];intro i j hi hj hij;cases hs:jL g.2.2[i].1 g.2.2[i].2.1 g.2.2[i].2.2.1 g.2.2[j] with
 | false=>rfl
 | true=>
  obtain⟨k1,k2,k3⟩:=xX.1 hs;have a:=(h.use i _ (bZw hi)).1;have b:=(h.use j _ (bZw hj)).1;rw[k1,k2,k3,a]at b;omega
theorem bKf{l:lUs}{id s d:Int}(h:0<=dC l id s d/\dC l id s d<=1000000):dC (rF l id s d) id s d=dC l id s d+1:=by
 rcases aHz l id s d with ⟨h1,h2,h3,h4⟩ | ⟨j,y,h1,h2,h3,h4,h5⟩
 .rw[h3,h4];unfold dC;have e:place (l++[(id,s,d,1)]) id s d=(l.length:Int):=by
   rw[aKx,h1,zT (by decide)];unfold plc;rw[zT (show jL id s d (id,s,d,1)=true from xX.2 ⟨rfl,rfl,rfl⟩)]
  rw[e,zS (by omega),bZ4];simp
 .rw[h4]at h ⊢;rw[h5];unfold dC;rw[aIq (aN0 h2 _),h1,zS (by omega),bZ4,cB4 (bZy.1 h2).1];simp only[Option.map_some,cA3];exact wri (by omega) (by omega)
theorem bUp{l:lRs}{x:den tRs}{cap now:Int}(h:l.length<=1000000):∃b,aAd l x cap now=some (b,admR l x cap now):=by
 have hf:(l.filter λy=> !iS x y).length<=1000000:=bZv (cCk ..) h;unfold aAd admR pj5 zz4;rw[show ((x.1,x.2.1,x.2.2.1,x.2.2.2.1,x.2.2.2.2):den tRs)=x from rfl,bJc (by omega),aA,bMo,aA,bV2 (by omega),aA];rw[aF (b:=40) (by decide) (by simp;omega),aF (b:=40) (by decide) (by omega)];cases c1:tR x
 .exact⟨false,by simp⟩
 .cases c2:decide (x.2.2.2.2<now)
  .cases c3:decide (wr (rate (l.filter λy=> !iS x y) x.2.1 x.2.2.1 now+x.2.2.2.1)>cap)
   .cases c4:decide (((l.filter λy=> !iS x y).length:Int)>=40)
    .exact⟨true,by simp only[bZ5,zY,zZ,aA,cBu,bZ8,zU]⟩
    .exact⟨false,by simp[aA]⟩
   .exact⟨false,by simp[aA]⟩
  .exact⟨false,by simp[aA]⟩
theorem aBf{l:List Int}{n x:Int}(h:x∈oI l n):x=n\/x∈l:=by
 unfold oI at h;split at h
 .exact .inr h
 .simp only[bZ2,bZz]at h;rcases h with (h | h) | h
  .exact .inr (cBg h)
  .exact .inl h
  .exact .inr (cBk h)
theorem bKx{r d:Int}{x:den tLk}{a:List Int}(h:d∈nC r x a):cU x r d=true\/d∈a:=by
 unfold nC at h;unfold cU;cases c1:x.1==r<;>cases c2:x.2.2.1==r<;>rw[c1,c2]at h<;>simp only[zZ,zY]at h
 .exact .inr h
 .rcases aBf h with e | h
  .left;simp[e]
  .exact .inr h
 .rcases aBf h with e | h
  .left;simp[e]
  .exact .inr h
 .rcases aBf h with e | h
  .left;simp[e]
  .rcases aBf h with e | h
   .left;simp[e]
   .exact .inr h
theorem bJl{t:den tTo}{r d:Int}(h:d∈gF t r):∃x∈t.2,cU x r d=true:=by
 have :∀(l:lLk) (k:Nat) (a:List Int),d∈bI (λ_ x a=>nC r x a) k l a->(∃x∈l,cU x r d=true)\/d∈a:=by
  intro l
  induction l with
  | nil=>intro k a h;exact .inr h
  | cons x l ih=>
   intro k a h;rcases ih (k+1) (nC r x a) h with ⟨y,hy,e⟩ | h
   .exact .inl ⟨y,bZ0 _ hy,e⟩
   .rcases bKx h with e | h
    .exact .inl ⟨x,by simp,e⟩
    .exact .inr h
 rcases this t.2 0 [] h with h | h
 .exact h
 .cases h
theorem aXt{t:den tTo}{r d:Int}(h:∃x∈t.2,cU x r d=true):∃(j:Nat) (x:den tLk),qV t r d=(j:Int)/\t.2[j]? =some x/\cU x r d=true:=by
 rcases aCb t r d with e | h
 .exfalso;have :∀(l:lLk) (k:Nat),(∃x∈l,cU x r d=true)-> ∃i,bN (λk x=>if cU x r d then some ((k:Nat):Int) else none) k l=some i/\0<=i:=by
   intro l
   induction l with
   | nil=>rintro k ⟨x,hx,_⟩;cases hx
   | cons y l ih=>
    rintro k ⟨x,hx,hxe⟩
    cases c:cU y r d with
    | true=>exact⟨(k:Int),by simp[bN,c],by omega⟩
    | false=>
     rcases bZx.1 hx with rfl | hx
     .rw[c]at hxe;cases hxe
     .obtain⟨i,h1,h2⟩:=ih (k+1) ⟨x,hx,hxe⟩;exact⟨i,by simp only[bN,c];exact h1,h2⟩
  obtain⟨i,h1,h2⟩:=this t.2 0 h;unfold qV at e;rw[h1]at e;have e:i= -1:=e;omega
 .exact h
theorem bJ4{t:den tTo}(hv:∀x∈t.2,xA t x=true){r d:Int}(h:d∈gF t r):cH t (remote t r d).1=true:=by
 obtain⟨j,x,e,hx,he⟩:=aXt (bJl h);have hl:=hv x (bZ9 hx);unfold remote;rw[e,zS (by omega),bZ4,hx];unfold xA at hl;simp only[bZu]at hl;unfold bEh;simp only[cA3];cases x.1==r&&x.2.1==d with
 | true=>exact hl.2.1
 | false=>exact hl.1
theorem bJd{t:den tTo}{r k:Int}(h:t.2.length<=1000000):∃l,iB t r k=some l/\l.length<=2 * t.2.length/\ ∀d∈l,d∈gF t r:=by
 have hd:=aFe t r;unfold iB ixb pj2;rw[show ((t.1,t.2):den tTo)=t from rfl,aR6 (t:=t) (by omega),aA];refine iW (G:=λo=> ∃l,o=some l/\l.length<=2 * t.2.length/\ ∀d∈l,d∈gF t r) (gF t r).length (λs:Int×List Int=>s.1) (λi s=>s.2.length<=i/\ ∀d∈s.2,d∈gF t r) (λl:List Int=>l.length<=2 * t.2.length/\ ∀d∈l,d∈gF t r) ?_ ?_ 0 ((0:Int),[]) (by omega) rfl ⟨by simp,λd hd=>(cAj hd).elim⟩ (λl hl=>⟨l,rfl,hl⟩)
 .rintro i ⟨_,l⟩ hi rfl ⟨h1,h2⟩
  right;simp only at h1 h2;simp only[zX (show (i:Int)<((gF t r).length:Int) by omega),zX (show (0:Int)<=(i:Int) by omega),zZ,bZ4,bZw hi,aA,bBy (t:=t) (show t.2.length<=68719476736 by omega),gR (show i<=1000000000 by omega)];rw[aF (b:=8) (n:=l.length) (m:=1) (by decide) (by omega),zZ];cases aB8 t r (gF t r)[i]==k with
  | true=>exact⟨_,rfl,rfl,by simp;omega,λd hd=>by
    rcases bZ2.1 hd with hd | hd
    .exact h2 d hd
    .rw[bZz.1 hd];exact cBd hi⟩
  | false=>exact⟨_,rfl,rfl,by show l.length<=i+1;omega,h2⟩
 .rintro⟨_,l⟩ rfl ⟨h1,h2⟩
  exact⟨l,by simp only[zW (cA5 _),zY],by simp only at h1;omega,h2⟩
theorem aFj(l:List Int)(n:Int):n∈oI l n:=by
 unfold oI;split
 .next h=>exact bZ9 h
 .simp
theorem aBe{l:List Int}{n x:Int}(h:x∈l):x∈oI l n:=by
 unfold oI;split
 .exact h
 .rw[<- cBb (jU l n) l]at h;simp only[bZ2,bZz]at h ⊢;rcases h with h | h
  .exact .inl (.inl h)
  .exact .inr h
theorem bO5{l:List Int}{n:Int}(h:n∉l):(oI l n).length=l.length+1:=by
 unfold oI;rw[zS (λe=>h (bZ9 e))];have :=aTb l n;simp;omega
theorem bK2{r d:Int}{x:den tLk}{a:List Int}(h:d∈a):d∈nC r x a:=by
 unfold nC;cases x.2.2.1==r<;>cases x.1==r<;>simp only[zZ,zY]
 .exact h
 .exact aBe h
 .exact aBe h
 .exact aBe (aBe h)
theorem bKt{r d:Int}{x:den tLk}{a:List Int}(h:cU x r d=true):d∈nC r x a:=by
 unfold cU at h;unfold nC;simp only[cBf,bZu]at h;rcases h with ⟨h1,h2⟩ | ⟨h1,h2⟩
 .rw[h1,eq_of_beq h2];cases x.2.2.1==r<;>simp only[zZ,zY]
  .exact aFj _ _
  .exact aBe (aFj _ _)
 .rw[h1,eq_of_beq h2];cases x.1==r<;>simp only[zZ,zY]<;>exact aFj _ _
theorem aHu(as:lAS)(ls:lLk)(r:Int):gF (as,ls) r=ls.foldl (λa x=>nC r x a) []:=uO (λa x=>nC r x a) ls 0 []
theorem bJr{as:lAS}{ls:lLk}{r d:Int}{x:den tLk}(hx:x∈ls)(h:cU x r d=true):d∈gF (as,ls) r:=by
 rw[aHu];have keep:∀(l:lLk) (a:List Int),d∈a->d∈l.foldl (λa x=>nC r x a) a:=by
  intro l
  induction l with
  | nil=>exact λa h=>h
  | cons y l ih=>exact λa h=>ih _ (bK2 h)
 have :∀(l:lLk) (a:List Int),x∈l->d∈l.foldl (λa x=>nC r x a) a:=by
  intro l
  induction l with
  | nil=>exact λa h=>(cAj h).elim
  | cons y l ih=>
   intro a hm;rcases bZx.1 hm with rfl | hm
   .exact keep l _ (bKt h)
   .exact ih _ hm
 exact this ls [] hx
structure qD (ls:lLk):Prop where
 num:∀r d:Int,d∈gF ([],ls) r->1<=d/\d<=((gF ([],ls) r).length:Int)
 pw:ls.Pairwise λy x=>cU y x.1 x.2.1=false/\cU y x.2.2.1 x.2.2.2.1=false
theorem bGa:qD []:=⟨λr d h=>(cAj h).elim,List.Pairwise.nil⟩
theorem qD.no{ls:lLk}(h:qD ls){y:den tLk}(hy:y∈ls)(r:Int):cU y r (((gF ([],ls) r).length:Int)+1)=false:=by
 cases e:cU y r (((gF ([],ls) r).length:Int)+1) with
 | false=>rfl
 | true=>have :=(h.num r _ (bJr hy e)).2;omega
theorem qD.grow{L:List Int}(h:∀d∈L,(1:Int)<=d/\d<=(L.length:Int)):∀d∈oI L ((L.length:Int)+1),(1:Int)<=d/\d<=((oI L ((L.length:Int)+1)).length:Int):=by
 have hn:((L.length:Int)+1)∉L:=λe=>by have :=(h _ e).2;omega
 rw[bO5 hn];intro d hd;rcases aBf hd with rfl | hd
 .omega
 .have :=h d hd;omega
theorem qD.snoc{ls:lLk}(h:qD ls){a b:Int}(hab:a≠b)(k:Int):qD (ls++[(a,((gF ([],ls) a).length:Int)+1,b,((gF ([],ls) b).length:Int)+1,k)]):=by
 constructor
 .intro r;rw[aHu,List.foldl_append,<- aHu];show ∀d,d∈nC r _ _->_/\_<=((nC r _ _).length:Int)
  unfold nC
  by_cases ha:a=r
  .subst ha;have hb:(b==a)=false:=by simp;exact λe=>hab e.symm
   simp only[hb,beq_self_eq_true,zZ,zY];exact qD.grow (h.num a)
  .have ha':(a==r)=false:=by simpa using ha
   by_cases hb:b=r
   .subst hb;simp only[ha',beq_self_eq_true,zZ,zY];exact qD.grow (h.num b)
   .have hb':(b==r)=false:=by simpa using hb
    simp only[ha',hb',zY];exact h.num r
 .rw[cDj];refine⟨h.pw,List.pairwise_singleton _ _,λy hy x hx=> ?_⟩;rw[bZz.1 hx];exact⟨h.no hy a,h.no hy b⟩
theorem aFp{t:den tTo}{a b k:Int}(h:t.2.length<=1000000)(hab:a≠b)(hf:qD t.2):∃ls,sX t a b k=some (t.1,ls)/\ls.length<=t.2.length+1/\qD ls:=by
 have la:=aFe t a;have lb:=aFe t b;unfold sX pj2;rw[show ((t.1,t.2):den tTo)=t from rfl,aR6 (t:=t) (by omega),aR6 (t:=t) (by omega),aA,aA,aF (b:=40) (n:=t.2.length) (m:=1) (by decide) (by omega)];have w1:wr (((gF t a).length:Int)+1)=((gF t a).length:Int)+1:=aY (by omega) (by omega);have w2:wr (((gF t b).length:Int)+1)=((gF t b).length:Int)+1:=aY (by omega) (by omega);cases decide (wr (((gF t a).length:Int)+1)<=6) with
 | false=>exact⟨t.2,rfl,by omega,hf⟩
 | true=>
  cases decide (wr (((gF t b).length:Int)+1)<=6) with
  | false=>exact⟨t.2,rfl,by omega,hf⟩
  | true=>
   refine⟨t.2++[(a,wr (((gF t a).length:Int)+1),b,wr (((gF t b).length:Int)+1),k)],rfl,by simp,?_⟩;rw[w1,w2];exact hf.snoc hab k
def AsI(as:lAS):Prop:= ∀(j:Nat) (x:den tAS),as[j]? =some x->((0:Int)<=x.1/\(1:Int)>=x.1)/\ ∃v:Int,0<=v/\v<1000000/\1+8 * v+(j:Int)=x.2.2
theorem bT2:AsI []:=λj x h=>by simp at h
theorem AsI.snoc{as:lAS}(h:AsI as){d v:Int}{b:Bool}(hd:0<=d/\1>=d)(hv:0<=v/\v<1000000):AsI (as++[(d,b,1+8 * v+(as.length:Int))]):=by
 intro j x hx;rw[List.getElem?_append]at hx;split at hx
 .exact h j x hx
 .next hj=>
  have hj0:j - as.length=0:=by
   have :=(bZy.1 hx).1;simp at this;omega
  rw[hj0]at hx;simp only[List.getElem?_cons_zero,Option.some.injEq]at hx;subst hx;exact⟨hd,v,hv.1,hv.2,by show 1+8 * v+(j:Int)=1+8 * v+(as.length:Int);omega⟩
theorem AsI.set{as:lAS}(h:AsI as){i q:Nat}(hi:i<as.length)(hq:q<as.length):AsI (as.set i (as[q].1,as[i].2.1,as[i].2.2)):=by
 intro j x hx;rw[cBx]at hx;split at hx
 .next e=>
  subst e;simp only[hi,zV,Option.some.injEq]at hx;subst hx;exact⟨(h q as[q] (bZw hq)).1,(h i as[i] (bZw hi)).2⟩
 .exact h j x hx
theorem bDg{α:Type}(p:Nat->α->Bool){l:List α}(h:∀(j:Nat) (x:α),l[j]? =some x->p j x=true):(l.zipIdx 0).all (λz=>p z.2 z.1)=true:=by
 rw[cAi]
 rintro⟨x,j⟩ hm
 exact h j x (by simpa using List.mem_zipIdx_iff_getElem?.1 hm)
theorem aFt{α:Type}{l:List α}{j:Nat}{y:α}(h:y∈l.take j):∃i,i<j/\l[i]? =some y:=by
 obtain⟨i,hi⟩:=cC6.1 h;rw[cBa]at hi;split at hi
 .next c=>exact⟨i,c,hi⟩
 .cases hi
theorem bTm{as:lAS}{ls:lLk}(h1:1<=as.length)(h8:as.length<=8)(ha:AsI as)(hv:∀x∈ls,xA (as,ls) x=true)(hp:ls.Pairwise λy x=>cU y x.1 x.2.1=false/\cU y x.2.2.1 x.2.2.2.1=false):yP (as,ls)=true:=by
 unfold yP;rw[bZu,bZu];refine⟨?_,?_,?_⟩
 .simp only[inR,bZu,zR];omega
 .refine bDg (asP (as,ls)) (l:=as) λj x hx=> ?_
  obtain⟨⟨a0,a1⟩,v,v0,v1,v2⟩:=ha j x hx;have hj:j<as.length:=(bZy.1 hx).1;have v2:1+8 * v+(j:Int)=x.2.2:=v2;unfold asP;simp only[bZu,inR,zR];refine⟨⟨a0,show (2:Int)>=x.1 by omega⟩,⟨show (1:Int)<=x.2.2 by omega,show (2147483646:Int)>=x.2.2 by omega⟩,cAi.2 λy hy=> ?_⟩;obtain⟨i,hi,hy⟩:=aFt hy;obtain⟨_,w,w0,w1,w2⟩:=ha i y hy;have w2:1+8 * w+(i:Int)=y.2.2:=w2;have :x.2.2≠y.2.2:=λe=>by
   have e:1+8 * v+(j:Int)=1+8 * w+(i:Int):=v2.trans (e.trans w2.symm);omega
  simpa using this
 .refine bDg (lkP (as,ls)) (l:=ls) λj x hx=> ?_
  unfold lkP;rw[bZu];refine⟨hv x (bZ9 hx),cAi.2 λy hy=> ?_⟩;obtain⟨i,hi,hy⟩:=aFt hy;obtain⟨hi',ei⟩:=bZy.1 hy;obtain⟨hj',ej⟩:=bZy.1 hx;have :=(cBv.1 hp) i j hi' hj' hi;rw[ei,ej]at this;simp[this.1,this.2]
structure aHn (as:lAS) (ls:lLk):Prop where
 pos:1<=as.length
 len:as.length<=8
 links:ls.length<=100
 val:∀x∈ls,xA (as,ls) x=true
 top:yP (as,ls)=true
def aZt(code:List Int)(o:Option (lAS×lLk×List Int×q21)):Prop:= ∃as ls c' p' h',o=some (as,ls,c',p',h')/\aHn as ls/\Cur code (c',p',h')
def T3I(code:List Int)(n:Nat)(i:Nat)(s:Int×lAS×lLk×List Int×q21):Prop:=(s.2.1.length=n/\AsI s.2.1/\qD s.2.2.1)/\s.2.2.1.length<=10 * i/\Cur code s.2.2.2
theorem bTk{code:List Int}(hl:code.length<=1048576){c:List Int}{p h:Int}(hc:Cur code (c,p,h)):aZt code (xE (c,p,h)):=by
 obtain⟨v1,c1,p1,h1,e1,r1,k1⟩:=dS hl (n:=3) (by decide) (by decide) hc;obtain⟨v2,c2,p2,h2,e2,r2,k2⟩:=dS hl (n:=6) (by decide) (by decide) k1;obtain⟨m1,rfl⟩:=cA0 r1.1;obtain⟨m2,rfl⟩:=cA0 r2.1;have w1:wr ((1:Int)+(m1:Int))=((m1+1:Nat):Int):=by rw[aY (by omega) (by omega)];omega
 have w2:wr (((m1+1:Nat):Int)+(m2:Int))=((m1+1+m2:Nat):Int):=by rw[aY (by omega) (by omega)];omega
 unfold xE ixb pj2 pj3 pj4 pj5;simp only[e1,e2,aA,bU,dH,cL,cK,cS,w1,w2];generalize hco:m1+1=co at *;generalize hn:co+m2=n at *;have hco1:1<=co:=by omega
 have hcn:co<=n:=by omega
 have hn8:n<=8:=by omega
 refine iW (G:=aZt code) n (λs:Int×lAS×List Int×Int×Int=>s.1) (λi s=>(s.2.1.length=i/\AsI s.2.1)/\Cur code s.2.2) (λr:lAS×List Int×Int×Int=>(r.1.length=n/\AsI r.1)/\Cur code r.2) ?_ ?_ 0 ((0:Int),[],c2,p2,h2) (by omega) rfl ⟨⟨rfl,bT2⟩,k2⟩ ?_
 .rintro i ⟨_,as,c3,p3,h3⟩ hi rfl ⟨⟨a1,a3⟩,a2⟩
  simp only at a1 a2 a3;right;obtain⟨v4,c4,p4,h4,e4,r4,k4⟩:=dS hl (n:=2) (by decide) (by decide) a2;obtain⟨v5,c5,p5,h5,e5,r5,k5⟩:=aUs hl (n:=1000000) (by decide) k4;refine⟨(((i+1:Nat):Int),as++[(v4,decide ((i:Int)<((co:Nat):Int)),wr ((wr ((1:Int)+(wr (v5 * (8:Int)))))+(i:Int)))],c5,p5,h5),?_,rfl,⟨by simp[a1],?_⟩,k5⟩;simp only[zX (show (i:Int)<(n:Int) by omega),zZ,e4,e5,aA,aF (b:=24) (n:=as.length) (m:=1) (by decide) (by omega),gR (show i<=1000000000 by omega)];have e:wr ((wr ((1:Int)+(wr (v5 * (8:Int)))))+(i:Int))=1+8 * v5+(as.length:Int):=by
   rw[aY (n:=v5 * 8) (by omega) (by omega),aY (n:=1+v5 * 8) (by omega) (by omega),aY (by omega) (by omega)];omega
  show AsI (as++[_]);rw[e];exact a3.snoc ⟨by omega,by omega⟩ ⟨by omega,by omega⟩
 .rintro⟨_,as,c3,p3,h3⟩ rfl ⟨a1,a2⟩
  exact⟨(as,c3,p3,h3),by simp only[zW (cA5 _),zY],a1,a2⟩
 rintro⟨as,c3,p3,h3⟩ ⟨⟨a1,a3⟩,a2⟩
 simp only at a1 a2 a3;refine iW (G:=aZt code) co (λs:Int×lAS×lLk×List Int×Int×Int=>s.1) (λi s=>1<=i/\T3I code n i s) (λr:lAS×lLk×List Int×Int×Int=>(r.1.length=n/\AsI r.1/\qD r.2.1)/\r.2.1.length<=10 * co/\Cur code r.2.2) ?_ ?_ 1 ((1:Int),as,[],c3,p3,h3) hco1 rfl ⟨bZ7 1,⟨a1,a3,bGa⟩,by simp,a2⟩ ?_
 .rintro i ⟨_,as,ls,c4,p4,h4⟩ hi rfl ⟨b0,b1,b2,b3⟩
  simp only at b1 b2 b3;right;obtain⟨v5,c5,p5,h5,e5,r5,k5⟩:=dS hl (n:=(i:Int)) (by omega) (by omega) b3;obtain⟨l6,e6,r6,f6⟩:=aFp (t:=(as,ls)) (a:=v5) (b:=(i:Int)) (k:=1) (by show ls.length<=_;omega) (by omega) b1.2.2;obtain⟨v7,c7,p7,h7,e7,k7⟩:=aBh hl (n:=2) (by decide) (by decide) k5;simp only at e6 r6;cases v7 with
  | false=>
   refine⟨(((i+1:Nat):Int),as,l6,c7,p7,h7),?_,rfl,by omega,⟨b1.1,b1.2.1,f6⟩,by simp only;omega,k7⟩;simp only[zX (show (i:Int)<(co:Int) by omega),zZ,zY,e5,e6,e7,aA,gR (show i<=1000000000 by omega)]
  | true=>
   obtain⟨v8,c8,p8,h8,e8,r8,k8⟩:=dS hl (n:=(i:Int)) (by omega) (by omega) k7;obtain⟨l9,e9,r9,f9⟩:=aFp (t:=(as,l6)) (a:=v8) (b:=(i:Int)) (k:=1) (by show l6.length<=_;omega) (by omega) f6;simp only at e9 r9;refine⟨(((i+1:Nat):Int),as,l9,c8,p8,h8),?_,rfl,by omega,⟨b1.1,b1.2.1,f9⟩,by simp only;omega,k8⟩;simp only[zX (show (i:Int)<(co:Int) by omega),zZ,e5,e6,e7,e8,e9,aA,gR (show i<=1000000000 by omega)]
 .rintro⟨_,as,ls,c4,p4,h4⟩ rfl ⟨b0,b1,b2,b3⟩
  exact⟨(as,ls,c4,p4,h4),by simp only[zW (cA5 _),zY],b1,b2,b3⟩
 rintro⟨as,ls,c4,p4,h4⟩ ⟨b1,b2,b3⟩
 simp only at b1 b2 b3;refine iW (G:=aZt code) n (λs:Int×lAS×lLk×List Int×Int×Int=>s.1) (λi s=>1<=i/\co<=i/\T3I code n i s) (λr:lAS×lLk×List Int×Int×Int=>(r.1.length=n/\AsI r.1/\qD r.2.1)/\r.2.1.length<=10 * n/\Cur code r.2.2) ?_ ?_ co (((co:Nat):Int),as,ls,c4,p4,h4) hcn rfl ⟨hco1,bZ7 co,b1,b2,b3⟩ ?_
 .rintro i ⟨_,as,ls,c5,p5,h5⟩ hi rfl ⟨d0,d1,⟨d2,d5,d6⟩,d3,d4⟩
  simp only at d2 d3 d4 d5 d6;right;have hlen:(as.length:Int)=(n:Int):=by omega
  obtain⟨v6,c6,p6,h6,e6,r6,k6⟩:=dS hl (n:=2) (by decide) (by decide) d4;obtain⟨m6,rfl⟩:=cA0 r6.1;have w6:wr ((1:Int)+(m6:Int))=((m6+1:Nat):Int):=by rw[aY (by omega) (by omega)];omega
  simp only[hlen,zX (show (i:Int)<(n:Int) by omega),zZ,e6,w6,aA,Option.bind_assoc];refine aAg (G:=λo=> ∃s',o=some (bZt s')/\s'.1=((i+1:Nat):Int)/\1<=i+1/\co<=i+1/\T3I code n (i+1) s') (λ(m:Nat) (s:Int×lAS×lLk×List Int×q21)=>s.1=(m:Int)/\m<=2/\(s.2.1.length=n/\AsI s.2.1/\qD s.2.2.1)/\s.2.2.1.length+m<=10 * i+2/\Cur code s.2.2.2) (λr:lAS×lLk×List Int×Int×Int=>(r.1.length=n/\AsI r.1/\qD r.2.1)/\r.2.1.length<=10 * i+2/\Cur code r.2.2) ?_ (m6+1) (((m6+1:Nat):Int),as,ls,c6,p6,h6) ⟨rfl,by omega,⟨d2,d5,d6⟩,by simp only;omega,k6⟩ ?_
  .rintro m ⟨_,as,ls,c7,p7,h7⟩ ⟨rfl,f1,⟨f2,f5,f6⟩,f3,f4⟩
   simp only at f2 f3 f4 f5 f6;cases m with
   | zero=>exact .inl ⟨(as,ls,c7,p7,h7),rfl,⟨f2,f5,f6⟩,by simpa using f3,f4⟩
   | succ m=>
    right;obtain⟨v8,c8,p8,h8,e8,r8,k8⟩:=dS hl (n:=(i:Int)) (by omega) (by omega) f4;obtain⟨q8,rfl⟩:=cA0 r8.1;obtain⟨v9,c9,p9,h9,e9,k9⟩:=aBh hl (n:=5) (by decide) (by decide) k8;have hq:q8<n:=by omega
    have hlen:(as.length:Int)=(n:Int):=by omega
    have hq1:as[q8]? =some (as[q8]'(by omega)):=bZw (by omega);have hi1:as[i]? =some (as[i]'(by omega)):=bZw (by omega);have wm:wr (((m+1:Nat):Int) - 1)=(m:Int):=by rw[aY (by omega) (by omega)];omega
    have fin:∀(as':lAS) (c p h:_),as'.length=n->AsI as'->Cur code (c,p,h)-> ∃s',(Option.bind (cond (decide ((0:Int)<=(q8:Int))) (cond (decide ((q8:Int)<(as'.length:Int))) (Option.bind as'[((q8:Nat):Int).toNat]? λx79=>cond (decide ((0:Int)<=(i:Int))) (cond (decide ((i:Int)<(as'.length:Int))) (Option.bind as'[((i:Nat):Int).toNat]? λx80=>cond (x79.1==x80.1) (Option.bind (sX (as',ls) (q8:Int) (i:Int) (2:Int)) λy81=>some (y81.1,y81.2,c,p,h)) (some (as',ls,c,p,h))) none) none) none) none) λ(s82:lAS×lLk×List Int×q21)=>some (bZt (wr (((m+1:Nat):Int) - (1:Int)),s82.1,s82.2.1,s82.2.2.1,s82.2.2.2.1,s82.2.2.2.2)):Option ((Int×lAS×lLk×List Int×q21)⊕(lAS×lLk×List Int×q21)))=some (bZt s')/\s'.1=(m:Int)/\m<=2/\(s'.2.1.length=n/\AsI s'.2.1/\qD s'.2.2.1)/\s'.2.2.1.length+m<=10 * i+2/\Cur code s'.2.2.2:=by
     intro as' c p h g1 g3 g2;have hl':(as'.length:Int)=(n:Int):=by omega
     have hq1:as'[q8]? =some (as'[q8]'(by omega)):=bZw (by omega);have hi1:as'[i]? =some (as'[i]'(by omega)):=bZw (by omega);simp only[hl',zX (show (0:Int)<=(q8:Int) by omega),zX (show (q8:Int)<(n:Int) by omega),zX (show (0:Int)<=(i:Int) by omega),zX (show (i:Int)<(n:Int) by omega),zZ,bZ4,hq1,hi1,aA,wm];obtain⟨l6,e6,r6,z6⟩:=aFp (t:=(as',ls)) (a:=(q8:Int)) (b:=(i:Int)) (k:=2) (by show ls.length<=_;omega) (by omega) f6;simp only at e6 r6;cases (as'[q8]'(by omega)).1==(as'[i]'(by omega)).1 with
     | true=>exact⟨_,by simp only[zZ,e6,aA];rfl,rfl,by omega,⟨g1,g3,z6⟩,by simp only;omega,g2⟩
     | false=>exact⟨_,by simp only[zY,aA];rfl,rfl,by omega,⟨g1,g3,f6⟩,by simp only;omega,g2⟩
    cases v9 with
    | true=>
     obtain⟨s',g1,g2⟩:=fin as c9 p9 h9 f2 f5 k9;refine⟨m,s',by omega,?_,g2⟩;rw[<- g1];simp only[zX (show ((m+1:Nat):Int)>0 by omega),zZ,zY,e8,e9,aA,bZ5]
    | false=>
     obtain⟨s',g1,g2⟩:=fin (as.set i ((as[q8]'(by omega)).1,(as[i]'(by omega)).2.1,(as[i]'(by omega)).2.2)) c9 p9 h9 (by simp[f2]) (f5.set (by omega) (by omega)) k9;refine⟨m,s',by omega,?_,g2⟩;rw[<- g1];simp only[zX (show ((m+1:Nat):Int)>0 by omega),zZ,e8,e9,aA,cAb,hlen,zX (show (0:Int)<=(q8:Int) by omega),zX (show (q8:Int)<(n:Int) by omega),zX (show (0:Int)<=(i:Int) by omega),zX (show (i:Int)<(n:Int) by omega),bZ4,hq1,hi1]
  .rintro⟨as,ls,c7,p7,h7⟩ ⟨⟨f1,f5,f6⟩,f2,f3⟩
   simp only at f1 f2 f3 f5 f6;have w7:wr (wr ((i:Int) - (co:Int))+1)=((i - co+1:Nat):Int):=by rw[aY (n:=(i:Int) - (co:Int)) (by omega) (by omega),aY (by omega) (by omega)];omega
   obtain⟨v8,c8,p8,h8,e8,r8,k8⟩:=dS hl (n:=((i - co+1:Nat):Int)) (by omega) (by omega) f3;obtain⟨v9,c9,p9,h9,e9,k9⟩:=aBh hl (n:=3) (by decide) (by decide) k8;simp only[w7,e8,aA,gR (show i<=1000000000 by omega)];cases hlt:decide (wr ((co:Int)+v8)<(i:Int)) with
   | false=>exact⟨_,by simp only[zY,aA];rfl,rfl,by omega,by omega,⟨f1,f5,f6⟩,by simp only;omega,k8⟩
   | true=>
    have hlt':=of_decide_eq_true hlt;obtain⟨l6,e6,r6,z6⟩:=aFp (t:=(as,ls)) (a:=wr ((co:Int)+v8)) (b:=(i:Int)) (k:=3) (by show ls.length<=_;omega) (by omega) f6;simp only at e6 r6;cases v9 with
    | false=>exact⟨_,by simp only[zZ,zY,e9,aA];rfl,rfl,by omega,by omega,⟨f1,f5,f6⟩,by simp only;omega,k9⟩
    | true=>exact⟨_,by simp only[zZ,e9,e6,aA];rfl,rfl,by omega,by omega,⟨f1,f5,z6⟩,by simp only;omega,k9⟩
 .rintro⟨_,as,ls,c5,p5,h5⟩ rfl ⟨d0,d1,⟨d2,d5⟩,d3,d4⟩
  simp only at d2 d3 d4 d5;exact⟨(as,ls,c5,p5,h5),by simp only[d2,zW (cA5 _),zY],⟨d2,d5⟩,d3,d4⟩
 rintro⟨as,ls,c5,p5,h5⟩ ⟨⟨d2,d5,d6⟩,d3,d4⟩
 simp only at d2 d3 d4 d5 d6;refine iW (G:=aZt code) ls.length (λs:Int×lLk=>s.1) (λi s=>(s.2.length<=i/\cCn s.2 (ls.take i))/\ ∀x∈s.2,xA (as,ls) x=true) (λr:lLk=>(r.length<=ls.length/\cCn r ls)/\ ∀x∈r,xA (as,ls) x=true) ?_ ?_ 0 ((0:Int),[]) (by omega) rfl ⟨⟨by simp,List.nil_sublist _⟩,λd hd=>(cAj hd).elim⟩ ?_
 .rintro i ⟨_,l⟩ hi rfl ⟨⟨g1,g3⟩,g2⟩
  simp only at g1 g2 g3;right;have htk:ls.take (i+1)=ls.take i++[ls[i]]:=(List.take_append_getElem hi).symm;simp only[zX (show (i:Int)<(ls.length:Int) by omega),zX (show (0:Int)<=(i:Int) by omega),zZ,bZ4,bZw hi,aA,bCn (t:=(as,ls)) (show as.length<=68719476736 by omega),gR (show i<=1000000000 by omega)];rw[aF (b:=40) (n:=l.length) (m:=1) (by decide) (by omega),zZ];cases hv:xA (as,ls) ls[i] with
  | true=>exact⟨_,rfl,rfl,⟨by simp;omega,by rw[htk];exact g3.append (cCn.refl _)⟩,λx hx=>by
    rcases bZ2.1 hx with hx | hx
    .exact g2 x hx
    .rw[bZz.1 hx];exact hv⟩
  | false=>exact⟨_,rfl,rfl,⟨by show l.length<=i+1;omega,by rw[htk];exact g3.trans (List.sublist_append_left _ _)⟩,g2⟩
 .rintro⟨_,l⟩ rfl ⟨⟨g1,g3⟩,g2⟩
  exact⟨l,by simp only[zW (cA5 _),zY],⟨g1,g3.trans (List.take_sublist _ _)⟩,g2⟩
 rintro l ⟨⟨g1,g3⟩,g2⟩
 exact⟨as,l,c5,p5,h5,rfl,⟨by omega,by omega,by omega,g2,bTm (by omega) (by omega) d5 g2 (d6.pw.sublist g3)⟩,d4⟩
theorem aXx{s:den tSg}(h:s.2.2.length<=1000000):∃l,dK s=some l/\l.length=s.2.2.length:=by
 unfold dK;refine iW (G:=λo=> ∃l,o=some l/\l.length=s.2.2.length) s.2.2.length (λs:Int×List Int=>s.1) (λi t=>t.2.length=i) (λl:List Int=>l.length=s.2.2.length) ?_ ?_ 0 ((0:Int),[]) (by omega) rfl rfl (λl hl=>⟨l,rfl,hl⟩)
 .rintro i ⟨_,l⟩ hi rfl h1
  simp only at h1;right;refine⟨(((i+1:Nat):Int),l++[s.2.2[i].1]),?_,rfl,by simp[h1]⟩;simp only[zX (show (i:Int)<(s.2.2.length:Int) by omega),zZ,aP,bZw hi,aA,aF (b:=8) (n:=l.length) (m:=1) (by decide) (by omega),gR (show i<=1000000000 by omega)]
 .rintro⟨_,l⟩ rfl h1
  exact⟨l,by simp only[zW (cA5 _),zY],h1⟩
theorem bLv{s:den tSg}{n:Nat}(hn:n<=s.2.2.length)(h:s.2.2.length<=1000000):∃l,nZ s (n:Int)=some l/\l.length=n:=by
 unfold nZ zz4;refine iW (G:=λo=> ∃l,o=some l/\l.length=n) n (λs:Int×List Int=>s.1) (λi t=>t.2.length=i) (λl:List Int=>l.length=n) ?_ ?_ 0 ((0:Int),[]) (by omega) rfl rfl (λl hl=>⟨l,rfl,hl⟩)
 .rintro i ⟨_,l⟩ hi rfl h1
  simp only at h1;right;have hi':i<s.2.2.length:=by omega
  refine⟨(((i+1:Nat):Int),l++[s.2.2[i].2.2.2.2]),?_,rfl,by simp[h1]⟩;simp only[zX (show (i:Int)<(n:Int) by omega),zZ,aP,bZw hi',aA,aF (b:=8) (n:=l.length) (m:=1) (by decide) (by omega),gR (show i<=1000000000 by omega)]
 .rintro⟨_,l⟩ rfl h1
  exact⟨l,by simp only[zW (cA5 _),zY],h1⟩
theorem bLf{b:Int}{l:List Int}(h:l.length<=1000000):∃v,pM b l=some v:=by
 unfold pM;refine iW (G:=λo=> ∃v,o=some v) l.length (λs:Int×Int=>s.2) (λi t=>True) (λv:Int=>True) ?_ ?_ 0 (b,(0:Int)) (by omega) rfl trivial (λv hv=>⟨v,rfl⟩)
 .rintro i ⟨v,_⟩ hi rfl _
  right;refine⟨(aJh v l[i],((i+1:Nat):Int)),?_,rfl,trivial⟩;simp only[zX (show (i:Int)<(l.length:Int) by omega),zZ,aP,bZw hi,aA,aXq,gR (show i<=1000000000 by omega)]
 .rintro⟨v,_⟩ rfl _
  exact⟨v,by simp only[zW (cA5 _),zY],trivial⟩
theorem aNi{s:den tSg}(i:Int)(h:s.2.2.length<=1000000):∃v,gL s i=some v:=by
 unfold gL pj3;rw[sG,aA];cases hc:inR i 0 (s.2.2.length:Int) with
 | false=>exact⟨0,rfl⟩
 | true=>
  obtain⟨h0,h1⟩:=aS.1 hc;obtain⟨n,rfl⟩:=cA0 h0;obtain⟨l,e,k⟩:=bLv (s:=s) (n:=n) (by omega) h;obtain⟨v,e2⟩:=bLf (b:=s.2.1) (l:=l) (by omega);refine⟨v,?_⟩;show Option.bind (nZ s (n:Int)) _=_;rw[e,aA,e2,aA]
theorem bAp(key ts b:Int)(h:den bG):fE key ts b h=some (h.1,h.2.1,h.2.2.1,h.2.2.2.1,aGn key ts b h):=by
 unfold fE pj5;rw[show ((h.1,h.2.1,h.2.2.1,h.2.2.2.1,h.2.2.2.2):den bG)=h from rfl,bLh,aA]
def aJ0(hs:cR):Prop:= ∀x∈hs,(0:Int)<=x.1/\(8:Int)>x.1
theorem aJ0.snoc{hs:cR}{x:den bG}(h:aJ0 hs)(hx:(0:Int)<=x.1/\(8:Int)>x.1):aJ0 (hs++[x]):=λy hy=>(bZ2.1 hy).elim (h y) λhy=>by rw[bZz.1 hy];exact hx
def InN(n:Int)(hs:cR):Prop:= ∀x∈hs,(0:Int)<=x.1/\n>x.1
def bN0(n:Int)(code:List Int)(o:Option (Int×Int×cR×List Int×q21)):Prop:= ∃a b hs c' p' h',o=some (a,b,hs,c',p',h')/\(hs.length<=5/\InN n hs)/\Cur code (c',p',h')
theorem InN.snoc{n:Int}{hs:cR}{x:den bG}(h:InN n hs)(hx:(0:Int)<=x.1/\n>x.1):InN n (hs++[x]):=λy hy=>(bZ2.1 hy).elim (h y) λhy=>by rw[bZz.1 hy];exact hx
theorem InN.as{n:Int}{hs:cR}(h:InN n hs)(hn:n<=8):aJ0 hs:=λx hx=>⟨(h x hx).1,by have :=(h x hx).2;omega⟩
abbrev GrS:=Int×Int×Int×Int×Int×cR×List Int×Int×Int
theorem bTj{code:List Int}(hl:code.length<=1048576){as:lAS}{ls:lLk}(ht:aHn as ls)(k:Int){c:List Int}{p h:Int}(hc:Cur code (c,p,h)):bN0 (as.length:Int) code (wF (c,p,h) (as,ls) k):=by
 have hlen:=ht.len;have hlk:=ht.links;unfold wF dd ixb one pj2 pj3 pj5 pj6 zz4 zz5 zz6;simp only[bU,dH,cL,cK,cS];refine iW (G:=bN0 (as.length:Int) code) as.length (λs:Int×List Int=>s.1) (λi t=>t.2.length<=i/\ ∀x∈t.2,0<=x/\x<(as.length:Int)) (λr:List Int=>r.length<=8/\ ∀x∈r,0<=x/\x<(as.length:Int)) ?_ ?_ 0 ((0:Int),[]) (by omega) rfl ⟨by simp,λd hd=>(cAj hd).elim⟩ ?_
 .rintro i ⟨_,l⟩ hi rfl ⟨g1,g2⟩
  simp only at g1 g2;right;simp only[zX (show (i:Int)<(as.length:Int) by omega),zZ,aP,bZw hi,aA,aF (b:=8) (n:=l.length) (m:=1) (by decide) (by omega),gR (show i<=1000000000 by omega)];cases as[i].2.1 with
  | true=>exact⟨_,rfl,rfl,by simp;omega,λx hx=>by
    rcases bZ2.1 hx with hx | hx
    .exact g2 x hx
    .rw[bZz.1 hx];omega⟩
  | false=>exact⟨_,rfl,rfl,by show l.length<=i+1;omega,g2⟩
 .rintro⟨_,l⟩ rfl ⟨g1,g2⟩
  exact⟨l,by simp only[zW (cA5 _),zY],by simp only at g1;omega,g2⟩
 rintro cores ⟨g1,g2⟩
 obtain⟨v1,c1,p1,h1,e1,r1,k1⟩:=dS hl (n:=50) (by decide) (by decide) hc;obtain⟨v2,c2,p2,h2,e2,r2,k2⟩:=aUs hl (n:=1000000) (by decide) k1;simp only[e1,e2,aA]
 by_cases h0:cores.length=0
 .rw[show ((cores.length:Int)==0)=true by rw[beq_iff_eq];omega,zZ];exact⟨_,_,_,_,_,_,rfl,⟨by simp,λx hx=>(cAj hx).elim⟩,k2⟩
 rw[show ((cores.length:Int)==0)=false by rw[beq_eq_false_iff_ne];omega,zY];obtain⟨v3,c3,p3,h3,e3,r3,k3⟩:=dS hl (n:=(cores.length:Int)) (by omega) (by omega) k2;obtain⟨m3,rfl⟩:=cA0 r3.1;have hm3:m3<cores.length:=by omega
 have hr:=g2 cores[m3] (cBd hm3);simp only[e3,aA,zX (show (0:Int)<=(m3:Int) by omega),zX (show (m3:Int)<(cores.length:Int) by omega),zZ,bZ4,bZw hm3];generalize cores[m3]=r at hr;refine iW (G:=bN0 (as.length:Int) code) 5 (λs:GrS=>s.2.2.1) (λi s=>(0<=s.1/\s.1<(as.length:Int))/\(s.2.2.2.2.2.1.length=i/\InN (as.length:Int) s.2.2.2.2.2.1)/\Cur code s.2.2.2.2.2.2) (λz:((Int×Int×cR×List Int×q21)⊕(Int×Int×cR×List Int×q21))=> ∃a b hs c p h,(z= .inl (a,b,hs,c,p,h)\/z= .inr (a,b,hs,c,p,h))/\(hs.length<=5/\InN (as.length:Int) hs)/\Cur code (c,p,h)) ?_ ?_ 0 (r,(0:Int),(0:Int),v1,v2,[],c3,p3,h3) (by omega) rfl ⟨hr,⟨rfl,λx hx=>(cAj hx).elim⟩,k3⟩ ?_
 .rintro i ⟨r,inn,_,ts,be,hs,c4,p4,h4⟩ hi rfl ⟨b1,⟨b2,b2'⟩,b3⟩
  simp only at b1 b2 b2' b3;obtain⟨rn,rfl⟩:=cA0 b1.1;have hrn:rn<as.length:=by omega
  obtain⟨ds,ek,dl,dm⟩:=bJd (t:=(as,ls)) (r:=(rn:Int)) (k:=k) (by show ls.length<=_;omega);have dl:ds.length<=2 * ls.length:=dl;have hout:∃out c5 p5 h5,(Option.bind (cond (decide ((ds.length:Int)>(0:Int))) (Option.bind (iD (c4,p4,h4) (5:Int)) λy35=>some (!y35.1,y35.2.1,y35.2.2.1,y35.2.2.2)) (some (false,c4,p4,h4))) λ(s36:Bool×List Int×q21)=>cond s36.1 (Option.bind (aO (s36.2.1,s36.2.2.1,s36.2.2.2) (ds.length:Int)) λy37=>cond (decide ((0:Int)<=y37.1)) (cond (decide (y37.1<(ds.length:Int))) (Option.bind ds[y37.1.toNat]? λx38=>some (x38,y37.2.1,y37.2.2.1,y37.2.2.2)) none) none) (some ((0:Int),s36.2.1,s36.2.2.1,s36.2.2.2)):Option (Int×List Int×q21))=some (out,c5,p5,h5)/\(out=0\/out∈gF (as,ls) (rn:Int))/\Cur code (c5,p5,h5):=by
   by_cases hd:(ds.length:Int)>0
   .obtain⟨v5,c5,p5,h5,e5,k5⟩:=aBh hl (n:=5) (by decide) (by decide) b3;simp only[zX hd,zZ,e5,aA];cases v5 with
    | true=>exact⟨0,c5,p5,h5,rfl,.inl rfl,k5⟩
    | false=>
     obtain⟨v6,c6,p6,h6,e6,r6,k6⟩:=dS hl (n:=(ds.length:Int)) hd (by omega) k5;obtain⟨m6,rfl⟩:=cA0 r6.1;have hm6:m6<ds.length:=by omega
     exact⟨ds[m6],c6,p6,h6,by simp only[cAb,zZ,e6,aA,zX (show (0:Int)<=(m6:Int) by omega),zX (show (m6:Int)<(ds.length:Int) by omega),bZ4,bZw hm6],.inr (dm _ (cBd hm6)),k6⟩
   .exact⟨0,c4,p4,h4,by simp only[zW hd,zY,aA],.inl rfl,b3⟩
  obtain⟨out,c5,p5,h5,eo,ho,k5⟩:=hout;obtain⟨al,ea,hal⟩:=aXx (s:=(ts,be,hs)) (by show hs.length<=_;omega);have hal:al.length=hs.length:=hal;have er:=aOj (t:=(as,ls)) (r:=(rn:Int)) (d:=out) (show ls.length<=68719476736 by omega);have hfar:out∈gF (as,ls) (rn:Int)->0<=(remote (as,ls) (rn:Int) out).1/\(remote (as,ls) (rn:Int) out).1<(as.length:Int):=λhd=>by
   have :=bJ4 (t:=(as,ls)) ht.val hd;unfold cH at this;obtain⟨h0,h1⟩:=aS.1 this;exact⟨h0,by simp only at h1;omega⟩
  generalize remote (as,ls) (rn:Int) out=fd at er hfar;obtain⟨far,door⟩:=fd;simp only at hfar;obtain⟨bb,eb⟩:∃b:Bool,(cond (out != (0:Int)) (Option.bind (dK (ts,be,hs)) λy41=>Option.bind (jQ y41 far) λy42=>cond y42 (some true) (cond (far==(rn:Int)) (some true) (some (inn==out)))) (some (inn==out)))=some b:=by
   rw[ea,aA,aKm (by omega),aA];cases out != 0<;>cases qQ al far<;>cases far==(rn:Int)<;>exact⟨_,rfl⟩
  obtain⟨v6,c6,p6,h6,e6,r6,k6⟩:=dS hl (n:=50) (by decide) (by decide) k5;obtain⟨bt,et⟩:=aNi (s:=(ts,be,hs)) (hs.length:Int) (by show hs.length<=_;omega);have ix:as[rn]? =some as[rn]:=bZw hrn;have hap:aJ 40 hs.length 1=true:=aF (by decide) (by omega);simp only[zX (show (i:Int)<5 by omega),zZ,ek,aA];rw[eo,aA];simp only[er,aA];rw[eb,aA];have body:∀o:Int,o=0\/o=out->(∃r,(cond (o==(0:Int)) (some (bZs (bZs (ts,be,hs++[(((rn:Int),inn,o,wr ((wr (ts+(50:Int)))+v6),aGn as[rn].2.2 ts bt ((rn:Int),inn,o,wr ((wr (ts+(50:Int)))+v6),0)):den bG)],c6,p6,h6)))) (some (bZt (far,door,wr ((i:Int)+(1:Int)),ts,be,hs++[(((rn:Int),inn,o,wr ((wr (ts+(50:Int)))+v6),aGn as[rn].2.2 ts bt ((rn:Int),inn,o,wr ((wr (ts+(50:Int)))+v6),0)):den bG)],c6,p6,h6))):Option (GrS⊕((Int×Int×cR×List Int×q21)⊕(Int×Int×cR×List Int×q21))))=some (.inr r)/\(∃a b hs c p h,(r= .inl (a,b,hs,c,p,h)\/r= .inr (a,b,hs,c,p,h))/\(hs.length<=5/\InN (as.length:Int) hs)/\Cur code (c,p,h)))\/
    ∃s':GrS,(cond (o==(0:Int)) (some (bZs (bZs (ts,be,hs++[(((rn:Int),inn,o,wr ((wr (ts+(50:Int)))+v6),aGn as[rn].2.2 ts bt ((rn:Int),inn,o,wr ((wr (ts+(50:Int)))+v6),0)):den bG)],c6,p6,h6)))) (some (bZt (far,door,wr ((i:Int)+(1:Int)),ts,be,hs++[(((rn:Int),inn,o,wr ((wr (ts+(50:Int)))+v6),aGn as[rn].2.2 ts bt ((rn:Int),inn,o,wr ((wr (ts+(50:Int)))+v6),0)):den bG)],c6,p6,h6))):Option (GrS⊕((Int×Int×cR×List Int×q21)⊕(Int×Int×cR×List Int×q21))))=some (.inl s')/\s'.2.2.1=((i+1:Nat):Int)/\(0<=s'.1/\s'.1<(as.length:Int))/\(s'.2.2.2.2.2.1.length=i+1/\InN (as.length:Int) s'.2.2.2.2.2.1)/\Cur code s'.2.2.2.2.2.2:=by
   intro o hoo;cases hz:(o==(0:Int)) with
   | true=>exact .inl ⟨_,rfl,ts,be,_,c6,p6,h6,.inr rfl,⟨by simp;omega,b2'.snoc ⟨by simp only;omega,by simp only;omega⟩⟩,k6⟩
   | false=>
    refine .inr ⟨_,rfl,gR (show i<=1000000000 by omega),?_,⟨by simp[b2],b2'.snoc ⟨by simp only;omega,by simp only;omega⟩⟩,k6⟩;have hne:o≠0:=by simpa using hz
    rcases hoo with h | rfl
    .exact absurd h hne
    .rcases ho with h | h
     .exact absurd h hne
     .exact hfar h
  cases bb with
  | true=>
   cases inn==(0:Int) with
   | true=>exact .inl ⟨_,rfl,ts,be,hs,c5,p5,h5,.inr rfl,⟨by omega,b2'⟩,k5⟩
   | false=>
    have :=body 0 (.inl rfl);simpa only [zZ,zY,aA,cCj,e6,aP,ix,et,bAp,hap] using this
  | false=>
   have :=body out (.inr rfl);simpa only [zZ,zY,aA,cCj,e6,aP,ix,et,bAp,hap] using this
 .rintro⟨r,inn,_,ts,be,hs,c4,p4,h4⟩ rfl ⟨b1,⟨b2,b2'⟩,b3⟩
  simp only at b1 b2 b2' b3;exact⟨.inl (ts,be,hs,c4,p4,h4),by simp only[show decide ((((5:Nat):Int))<(5:Int))=false from rfl,zY],ts,be,hs,c4,p4,h4,.inl rfl,⟨by omega,b2'⟩,b3⟩
 .rintro z ⟨a,b,hs,c,p,h,hz,h5,k5⟩
  rcases hz with rfl | rfl
  .exact⟨a,b,hs,c,p,h,rfl,h5,k5⟩
  .exact⟨a,b,hs,c,p,h,rfl,h5,k5⟩
theorem bDm{as:lAS}{ls:lLk}(ht:aHn as ls){s:den tSg}(h:s.2.2.length<=1000):∃b,iM (as,ls) s=some b/\(b=true-> ∃x,s.2.2[0]? =some x/\cH (as,ls) x.1=true):=by
 obtain⟨al,ea,hal⟩:=aXx (s:=s) (by omega);have hlen:=ht.len;have hlk:=ht.links;unfold iM pj2 pj3 pj5;rw[sG,aA];cases hc:inR (s.2.2.length:Int) 1 8 with
 | false=>exact⟨false,rfl,λe=>by cases e⟩
 | true=>
  obtain⟨h0,h1⟩:=aS.1 hc;have h00:0<s.2.2.length:=by omega
  have i0:idx s.2.2 (0:Int)=some s.2.2[0]:=by rw[show (0:Int)=((0:Nat):Int) from rfl,aP,bZw h00]
  simp only[bZ5,zY,i0,aA];cases s.2.2[0].2.1 != (0:Int) with
  | true=>exact⟨false,rfl,λe=>by cases e⟩
  | false=>
   simp only[zY];rw[show ((s.1,s.2.1,s.2.2):den tSg)=s from rfl,ea,aA];refine iW (G:=λo=> ∃b,o=some b/\(b=true-> ∃x,s.2.2[0]? =some x/\cH (as,ls) x.1=true)) s.2.2.length (λs:List Int×Int=>s.2) (λi t=>t.1=al/\(0<i->cH (as,ls) s.2.2[0].1=true)) (λr:Unit⊕Bool=>r= .inl ()/\cH (as,ls) s.2.2[0].1=true\/r= .inr false) ?_ ?_ 0 (al,(0:Int)) (by omega) rfl ⟨rfl,λh=>by omega⟩ ?_
   .rintro i ⟨_,_⟩ hi rfl ⟨rfl,g2⟩
    rename_i al;have ix:idx s.2.2 (i:Int)=some s.2.2[i]:=by rw[aP,bZw hi]
    simp only[zX (show (i:Int)<(s.2.2.length:Int) by omega),zZ,ix,aA];rw[show ((s.2.2[i].1,s.2.2[i].2.1,s.2.2[i].2.2.1,s.2.2[i].2.2.2.1,s.2.2[i].2.2.2.2):den bG)=s.2.2[i] from rfl,aOg,aA,aEs (t:=(as,ls)) (show as.length<=_ by omega),aA];have e1:cC (0:Int) (i:Int) (al.length:Int)=true:=vV (by rw[hal];exact hi);have e2:jQ (cut al (0:Int) (i:Int)) s.2.2[i].1=some (qQ (cut al (0:Int) (i:Int)) s.2.2[i].1):=aKm (by rw[jE];exact bZv (List.length_take_le _ _) (by omega));obtain⟨b,eb,hb⟩:∃b:Bool,(cond (!(lZ s.2.2[i])) (some true) (cond (!(cH (as,ls) s.2.2[i].1)) (some true) (cond (cC (0:Int) (i:Int) (al.length:Int)) (Option.bind (jQ (cut al (0:Int) (i:Int)) s.2.2[i].1) λy20=>cond y20 (some true) (cond (s.2.2[i].2.2.1==(0:Int)) (some (decide ((i:Int)<(wr ((s.2.2.length:Int) - (1:Int)))))) (some false))) none)))=some b/\(b=false->cH (as,ls) s.2.2[i].1=true):=by
     rw[e1,e2,aA];cases lZ s.2.2[i]
     .exact⟨true,rfl,λe=>by cases e⟩
     .cases cH (as,ls) s.2.2[i].1
      .exact⟨true,rfl,λe=>by cases e⟩
      .cases qQ (cut al (0:Int) (i:Int)) s.2.2[i].1
       .cases s.2.2[i].2.2.1==(0:Int)
        .exact⟨false,rfl,λ_=>rfl⟩
        .exact⟨_,rfl,λ_=>rfl⟩
       .exact⟨true,rfl,λ_=>rfl⟩
    rw[eb,aA];cases b with
    | true=>exact .inl ⟨.inr false,rfl,.inr rfl⟩
    | false=>
     have hok:=hb rfl
     by_cases hp:i=0
     .subst hp;refine .inr ⟨(al,((1:Nat):Int)),?_,rfl,rfl,λ_=>hok⟩;rfl
     .have hi1:i - 1<s.2.2.length:=by omega
      have w1:wr ((i:Int) - 1)=((i - 1:Nat):Int):=by rw[aY (by omega) (by omega)];omega
      have er:=aOj (t:=(as,ls)) (r:=s.2.2[i - 1].1) (d:=s.2.2[i - 1].2.2.1) (show ls.length<=68719476736 by omega);simp only[zY,zX (show (i:Int)>0 by omega),zZ,w1,aP,bZw hi1,aA,er];obtain⟨b2,eb2⟩:∃b:Bool,(cond ((remote (as,ls) s.2.2[i - 1].1 s.2.2[i - 1].2.2.1).1 != s.2.2[i].1) (some true) (some ((remote (as,ls) s.2.2[i - 1].1 s.2.2[i - 1].2.2.1).2 != s.2.2[i].2.1)))=some b:=by
       cases (remote (as,ls) s.2.2[i - 1].1 s.2.2[i - 1].2.2.1).1 != s.2.2[i].1<;>exact⟨_,rfl⟩
      rw[eb2,aA];cases b2 with
      | true=>exact .inl ⟨.inr false,rfl,.inr rfl⟩
      | false=>
       refine .inr ⟨(al,((i+1:Nat):Int)),?_,rfl,rfl,λ_=>g2 (by omega)⟩;simp only[zY,aA,cCj,gR (show i<=1000000000 by omega)]
   .rintro⟨_,_⟩ rfl ⟨rfl,g2⟩
    exact⟨.inl (),by simp only[zW (cA5 _),zY],.inl ⟨rfl,g2 h00⟩⟩
   .rintro r (⟨rfl,hr⟩ | rfl)
    .exact⟨true,rfl,λ_=>⟨s.2.2[0],bZw h00,hr⟩⟩
    .exact⟨false,rfl,λe=>by cases e⟩
theorem bTl{as:lAS}{ls:lLk}(ht:aHn as ls){s:den tSg}(h:s.2.2.length<=1000):∃v,gG (as,ls) s=some v:=by
 have hlen:=ht.len;unfold gG pj2 pj3 pj5;refine iW (G:=λo=> ∃b,o=some b) s.2.2.length (λs:Int=>s) (λi t=>True) (λr:Unit⊕Int=>True) ?_ ?_ 0 (0:Int) (by omega) rfl trivial ?_
 .rintro i _ hi rfl _
  obtain⟨bt,et⟩:=aNi (s:=s) (i:Int) (by omega);have et:gL (s.1,s.2.1,s.2.2) (i:Int)=some bt:=et;have ev:=bJj (t:=(as,ls)) (ts:=s.1) (beta:=bt) (h:=s.2.2[i]) (show as.length<=68719476736 by omega);have ev:kJ (as,ls) s.1 bt (s.2.2[i].1,s.2.2[i].2.1,s.2.2[i].2.2.1,s.2.2[i].2.2.2.1,s.2.2[i].2.2.2.2)=some _:=ev;simp only[zX (show (i:Int)<(s.2.2.length:Int) by omega),zZ,aP,bZw hi,aA,et,ev,gR (show i<=1000000000 by omega)];cases zK (as,ls) s.1 bt s.2.2[i] with
  | true=>exact .inr ⟨_,rfl,rfl,trivial⟩
  | false=>exact .inl ⟨_,rfl,trivial⟩
 .rintro _ rfl _
  exact⟨.inl (),by simp only[zW (cA5 _),zY],trivial⟩
 .rintro r _
  cases r with
  | inl u=>exact⟨_,rfl⟩
  | inr v=>exact⟨_,rfl⟩
theorem aUo{as:lAS}{ls:lLk}(ht:aHn as ls){s:den tSg}(h:s.2.2.length<=1000):∃v,fL (as,ls) s=some v:=by
 have hlen:=ht.len;have hlk:=ht.links;obtain⟨b,eb,hb⟩:=bDm ht h;unfold fL pj2 pj3;have eb:iM (as,ls) (s.1,s.2.1,s.2.2)=some b:=eb;rw[eb,aA];cases b with
 | false=>exact⟨0,rfl⟩
 | true=>
  obtain⟨x,hx,hok⟩:=hb rfl;obtain⟨h0,rfl⟩:=bZy.1 hx;obtain⟨y,hy,iy⟩:=aDd hok;have ef:fR (s.1,s.2.1,s.2.2)=some s.2.2[0].1:=by
   unfold fR;rw[show ((s.2.2.length:Int)==0)=false by rw[beq_eq_false_iff_ne];omega,zY,show (0:Int)=((0:Nat):Int) from rfl,aP,bZw h0,aA]
  have iy:idx as s.2.2[0].1=some y:=iy;simp only[bZ5,zY,ef,iy,aA];cases y.2.1 with
  | false=>exact⟨0,rfl⟩
  | true=>
   simp only[bZ5,zY];refine iW (G:=λo=> ∃b,o=some b) s.2.2.length (λs:Int×Int=>s.2) (λi t=>True) (λr:Int⊕Int=>True) ?_ ?_ 0 ((0:Int),(0:Int)) (by omega) rfl trivial ?_
   .rintro i ⟨k,_⟩ hi rfl _
    have ek:=bBy (t:=(as,ls)) (r:=s.2.2[i].1) (d:=s.2.2[i].2.2.1) (show ls.length<=68719476736 by omega);simp only[zX (show (i:Int)<(s.2.2.length:Int) by omega),zZ,aP,bZw hi,aA,ek,gR (show i<=1000000000 by omega)];cases s.2.2[i].2.2.1==(0:Int) with
    | true=>exact .inr ⟨_,rfl,rfl,trivial⟩
    | false=>
     cases k != (0:Int) with
     | false=>exact .inr ⟨_,rfl,rfl,trivial⟩
     | true=>
      simp only[zZ,zY,aA];cases aB8 (as,ls) s.2.2[i].1 s.2.2[i].2.2.1 != k with
      | true=>exact .inl ⟨_,rfl,trivial⟩
      | false=>exact .inr ⟨_,rfl,rfl,trivial⟩
   .rintro⟨k,_⟩ rfl _
    exact⟨.inl k,by simp only[zW (cA5 _),zY],trivial⟩
   .rintro r _
    cases r with
    | inr v=>exact⟨_,rfl⟩
    | inl v=>
     simp only[cCj];cases v==(1:Int)
     .cases v==(2:Int)<;>exact⟨_,rfl⟩
     .exact⟨_,rfl⟩
theorem bGn{as:lAS}{ls:lLk}(ht:aHn as ls){s:den tSg}(h:s.2.2.length<=1000):∃b,iY (as,ls) s=some b/\(b=true->s.2.2≠[]):=by
 obtain⟨b,eb,hb⟩:=bDm ht h;have hb:b=true->s.2.2≠[]:=λe he=>by
  obtain⟨x,hx,_⟩:=hb e;rw[he]at hx;cases hx
 obtain⟨v,ev⟩:=bTl ht h;obtain⟨k,ek⟩:=aUo ht h;have eb:iM (as,ls) (s.1,s.2.1,s.2.2)=some b:=eb;have ev:gG (as,ls) (s.1,s.2.1,s.2.2)=some v:=ev;have ek:fL (as,ls) (s.1,s.2.1,s.2.2)=some k:=ek;unfold iY pj2 pj3;simp only[eb,ev,ek,sG,aG6,aA];cases b
 .exact⟨_,rfl,λe=>Bool.noConfusion e⟩
 .have hb:=hb rfl;cases decide (v<0)
  .exact⟨_,rfl,λ_=>hb⟩
  .cases k != (0:Int)
   .exact⟨_,rfl,λ_=>hb⟩
   .cases inR s.1 0 1000000<;>exact⟨_,rfl,λ_=>hb⟩
theorem bPw{s:den tSg}(h:s.2.2.length<=1000):∃b,iV s=some b:=by
 unfold iV
 by_cases h0:(s.2.2.length:Int)>0
 .have w1:wr ((s.2.2.length:Int) - 1)=((s.2.2.length - 1:Nat):Int):=by rw[aY (by omega) (by omega)];omega
  rw[zX h0,zZ,w1,aP,bZw (by omega),aA,aA];exact⟨_,rfl⟩
 .rw[zW h0,zY];exact⟨_,rfl⟩
theorem bD0{a b:cR}(h:a.length<=1000000):∃v,iQ a b=some v:=by
 unfold iQ zz4
 by_cases hn:a.length=b.length
 .rw[hn,bne_self_eq_false,zY,<- hn];refine iW (G:=λo=> ∃b,o=some b) a.length (λs:Int=>s) (λi t=>True) (λr:Unit⊕Bool=>True) ?_ ?_ 0 (0:Int) (by omega) rfl trivial ?_
  .rintro i _ hi rfl _
   have h2:i<b.length:=by omega
   simp only[zX (show (i:Int)<(a.length:Int) by omega),zZ,aP,bZw hi,bZw h2,aA,gR (show i<=1000000000 by omega)];cases ((a[i].1==b[i].1)&&((a[i].2.1==b[i].2.1)&&((a[i].2.2.1==b[i].2.2.1)&&((a[i].2.2.2.1==b[i].2.2.2.1)&&((a[i].2.2.2.2==b[i].2.2.2.2)&&true))))) with
   | true=>exact .inr ⟨_,rfl,rfl,trivial⟩
   | false=>exact .inl ⟨_,rfl,trivial⟩
  .rintro _ rfl _
   exact⟨.inl (),by simp only[zW (cA5 _),zY],trivial⟩
  .rintro r _
   cases r with
   | inl u=>exact⟨_,rfl⟩
   | inr v=>exact⟨_,rfl⟩
 .rw[show ((a.length:Int) != (b.length:Int))=true by rw[bne_iff_ne];omega,zZ];exact⟨_,rfl⟩
theorem bJq{a b:den tSg}(h:a.2.2.length<=1000000):∃v,jN a b=some v:=by
 obtain⟨v,e⟩:=bD0 (b:=b.2.2) h;unfold jN;rw[e,aA];cases a.1==b.1
 .exact⟨_,rfl⟩
 .cases a.2.1==b.2.1<;>exact⟨_,rfl⟩
theorem aX2{l:lSg}{s:den tSg}(hl:l.length<=1000000)(h:∀x∈l,x.2.2.length<=1000):∃v,sK l s=some v:=by
 unfold sK pj3;refine iW (G:=λo=> ∃b,o=some b) l.length (λs:Int=>s) (λi t=>True) (λr:Unit⊕Bool=>True) ?_ ?_ 0 (0:Int) (by omega) rfl trivial ?_
 .rintro i _ hi rfl _
  obtain⟨v,e⟩:=bJq (a:=l[i]) (b:=s) (by have :=h l[i] (cBd hi);omega);have e:jN (l[i].1,l[i].2.1,l[i].2.2) (s.1,s.2.1,s.2.2)=some v:=e;simp only[zX (show (i:Int)<(l.length:Int) by omega),zZ,aP,bZw hi,aA,e,gR (show i<=1000000000 by omega)];cases v with
  | false=>exact .inr ⟨_,rfl,rfl,trivial⟩
  | true=>exact .inl ⟨_,rfl,trivial⟩
 .rintro _ rfl _
  exact⟨.inl (),by simp only[zW (cA5 _),zY],trivial⟩
 .rintro r _
  cases r with
  | inl u=>exact⟨_,rfl⟩
  | inr v=>exact⟨_,rfl⟩
structure DbD (n:Nat) (d c:lSg):Prop where
 down:d.length<=n
 core:c.length<=n
 hd:∀x∈d,x.2.2.length<=5
 hc:∀x∈c,x.2.2.length<=5
 ha:∀x∈d,x.2.2≠[]/\aJ0 x.2.2
theorem aLh{l:lSg}{n:Nat}(hn:n<=1000)(h:l.length<=n)(hh:∀x∈l,x.2.2.length<=5):SmB 68719476736 (.sl tSg) l:=by
 refine⟨by omega,λx hx=>⟨trivial,trivial,?_,λe he=>⟨trivial,trivial,trivial,trivial,trivial⟩⟩⟩;have :=hh x hx;show x.2.2.length<=_;omega
def bHa(t:den tTo)(s:den tSg)(k:Int):Prop:=iY t s=some true/\iV s=some true/\fL t s=some k
theorem bKd{as:lAS}{ls:lLk}(ht:aHn as ls){n:Nat}(hn:n<=100){d c:lSg}(hk:DbD n d c){s:den tSg}(h:s.2.2.length<=5)(ha:aJ0 s.2.2):∃d' c',nI (as,ls) (d,c) s=some (d',c')/\DbD (n+1) d' c'/\(∀x∈d',x∈d\/(x=s/\bHa (as,ls) s 2))/\(∀x∈c',x∈c\/(x=s/\ ∃k,bHa (as,ls) s k/\k≠2)):=by
 obtain⟨b1,e1,hb1⟩:=bGn ht (s:=s) (by omega);obtain⟨b2,e2⟩:=bPw (s:=s) (by omega);obtain⟨b3,e3⟩:=aX2 (l:=d) (s:=s) (by have :=hk.down;omega) (λx hx=>by have :=hk.hd x hx;omega);obtain⟨b4,e4⟩:=aX2 (l:=c) (s:=s) (by have :=hk.core;omega) (λx hx=>by have :=hk.hc x hx;omega);obtain⟨k,ek⟩:=aUo ht (s:=s) (by omega);have c1:=aBs (aLh (by omega) hk.down hk.hd);have c2:=aBs (aLh (by omega) hk.core hk.hc);have c3:=aG5 (x:=s) (by omega);have e5:∃b,nS (d,c) s=some b:=by
  unfold nS pj3;have e3:sK d (s.1,s.2.1,s.2.2)=some b3:=e3;have e4:sK c (s.1,s.2.1,s.2.2)=some b4:=e4;simp only[e3,e4,aA];cases b3<;>exact⟨_,rfl⟩
 obtain⟨b5,e5⟩:=e5;have hdn:=hk.down;have hcn:=hk.core;have e1:iY (as,ls) (s.1,s.2.1,s.2.2)=some b1:=e1;have e2:iV (s.1,s.2.1,s.2.2)=some b2:=e2;have e5:nS (d,c) (s.1,s.2.1,s.2.2)=some b5:=e5;have ek:fL (as,ls) (s.1,s.2.1,s.2.2)=some k:=ek;have c3:gO (s.1,s.2.1,s.2.2)=some s:=c3;have same:DbD (n+1) d c:=⟨by omega,by omega,hk.hd,hk.hc,hk.ha⟩
 unfold nI pj2 pj3;simp only[c1,c2,aA,bU,dH,cL,cK,cS,e1,e2,e5,ek,c3,aF (b:=40) (n:=d.length) (m:=1) (by decide) (by omega),aF (b:=40) (n:=c.length) (m:=1) (by decide) (by omega),zZ];obtain⟨b6,e6,hb6⟩:∃b:Bool,(cond (!b1) (some true) (cond (!b2) (some true) (some b5)))=some b/\(b=false->b1=true/\b2=true):=by
  cases b1
  .exact⟨_,rfl,λe=>Bool.noConfusion e⟩
  .cases b2
   .exact⟨_,rfl,λe=>Bool.noConfusion e⟩
   .exact⟨_,rfl,λ_=>⟨rfl,rfl⟩⟩
 rw[e6,aA];cases b6 with
 | true=>exact⟨d,c,rfl,same,λx hx=> .inl hx,λx hx=> .inl hx⟩
 | false=>
  obtain⟨hb1t,hb2t⟩:=hb6 rfl;have hne:=hb1 hb1t;rw[hb1t]at e1;rw[hb2t]at e2;cases hk2:(k==(2:Int)) with
  | true=>
   have hk2:k=2:=eq_of_beq hk2;rw[hk2]at ek;exact⟨_,_,rfl,⟨by simp;omega,by simp only;omega,λx hx=>(bZ2.1 hx).elim (hk.hd x) λhx=>by rw[bZz.1 hx];exact h,hk.hc,λx hx=>(bZ2.1 hx).elim (hk.ha x) λhx=>by rw[bZz.1 hx];exact⟨hne,ha⟩⟩,λx hx=>(bZ2.1 hx).elim .inl λhx=> .inr ⟨bZz.1 hx,e1,e2,ek⟩,λx hx=> .inl hx⟩
  | false=>
   have hk2:k≠2:=by rw[beq_eq_false_iff_ne]at hk2;exact hk2
   exact⟨_,_,rfl,⟨by simp only;omega,by simp;omega,hk.hd,λx hx=>(bZ2.1 hx).elim (hk.hc x) λhx=>by rw[bZz.1 hx];exact h,hk.ha⟩,λx hx=> .inl hx,λx hx=>(bZ2.1 hx).elim .inl λhx=> .inr ⟨bZz.1 hx,k,⟨e1,e2,ek⟩,hk2⟩⟩
theorem DbD.mono{n m:Nat}{d c:lSg}(h:DbD n d c)(hm:n<=m):DbD m d c:=⟨bZv h.down hm,bZv h.core hm,h.hd,h.hc,h.ha⟩
theorem bM0{s:den tSg}(h:s.2.2.length<=1000)(h0:s.2.2≠[])(ha:aJ0 s.2.2):∃v,iI s=some v/\0<=v/\v<8:=by
 have hl:=List.length_pos_iff.2 h0;unfold iI;have w1:wr ((s.2.2.length:Int) - 1)=((s.2.2.length - 1:Nat):Int):=by rw[aY (by omega) (by omega)];omega
 rw[show ((s.2.2.length:Int)==0)=false by rw[beq_eq_false_iff_ne];omega,zY,w1,aP,bZw (by omega),aA];have :=ha _ (cBd (show s.2.2.length - 1<s.2.2.length by omega));exact⟨_,rfl,this.1,this.2⟩
theorem aZd{code:List Int}(hl:code.length<=1048576){d:lSg}(hd:d.length<=200)(h5:∀x∈d,x.2.2.length<=5)(ha:∀x∈d,x.2.2≠[]/\aJ0 x.2.2)(k:Int)(hk:0<k/\k<=256)(z:Int)(hz:0<=z/\z<8){c:List Int}{p h:Int}(hc:Cur code (c,p,h)):
  ∃v c' p' h',(Option.bind (cond (decide ((d.length:Int)>(0:Int))) (Option.bind (iD (c,p,h) k) λy3=>some (!y3.1,y3.2.1,y3.2.2.1,y3.2.2.2)) (some (false,c,p,h))) λ(s4:Bool×List Int×q21)=>cond s4.1 (Option.bind (aO (s4.2.1,s4.2.2.1,s4.2.2.2) (d.length:Int)) λy5=>Option.bind (idx d y5.1) λx6=>Option.bind (iI (x6.1,x6.2.1,x6.2.2)) λy7=>some (y7,y5.2.1,y5.2.2.1,y5.2.2.2)) (some (z,s4.2.1,s4.2.2.1,s4.2.2.2)):Option (Int×List Int×q21))=some (v,c',p',h')/\(0<=v/\v<8)/\Cur code (c',p',h'):=by
 by_cases h0:(d.length:Int)>0
 .obtain⟨v1,c1,p1,h1,e1,k1⟩:=aBh hl (n:=k) hk.1 hk.2 hc;simp only[zX h0,zZ,e1,aA];cases v1 with
  | true=>exact⟨z,c1,p1,h1,rfl,hz,k1⟩
  | false=>
   obtain⟨v2,c2,p2,h2,e2,r2,k2⟩:=dS hl (n:=(d.length:Int)) h0 (by omega) k1;obtain⟨m2,rfl⟩:=cA0 r2.1;have hm:m2<d.length:=by omega
   obtain⟨v3,e3,r3⟩:=bM0 (s:=d[m2]) (by have :=h5 d[m2] (cBd hm);omega) (ha d[m2] (cBd hm)).1 (ha d[m2] (cBd hm)).2;have e3:iI (d[m2].1,d[m2].2.1,d[m2].2.2)=some v3:=e3;exact⟨v3,c2,p2,h2,by simp only[cAb,zZ,e2,aA,aP,bZw hm,e3],r3,k2⟩
 .exact⟨z,c,p,h,by simp only[zW h0,zY,aA],hz,hc⟩
theorem bUg{code:List Int}(hl:code.length<=1048576){n:Nat}(hn:n<=100){d cc:lSg}(hk:DbD n d cc){c:List Int}{p h:Int}(hc:Cur code (c,p,h)):∃a b c' p' h',vK (c,p,h) (d,cc)=some (a,b,c',p',h')/\((0<=a/\a<8)/\(0<=b/\b<8))/\Cur code (c',p',h'):=by
 have hd:=hk.down;obtain⟨v1,c1,p1,h1,e1,r1,k1⟩:=dS hl (n:=8) (by decide) (by decide) hc;obtain⟨v2,c2,p2,h2,e2,r2,k2⟩:=dS hl (n:=8) (by decide) (by decide) k1;obtain⟨v3,c3,p3,h3,e3,r3,k3⟩:=aZd hl (d:=d) (by omega) hk.hd hk.ha 4 (by decide) v1 r1 k2;obtain⟨v4,c4,p4,h4,e4,r4,k4⟩:=aZd hl (d:=d) (by omega) hk.hd hk.ha 3 (by decide) v2 r2 k3;refine⟨v3,v4,c4,p4,h4,?_,⟨r3,r4⟩,k4⟩;unfold vK pj3 pj4;simp only[e1,e2,aA,bU,dH,cL,cK,cS];rw[e3,aA,e4,aA]
theorem aQe{α β:Type}(g:α->List β):∀(l:List α) (k:Nat) (a:List β),bI (λ_ x a=>a++g x) k l a=a++l.flatMap g
 | [],_,a=>(cAs a).symm
 | x::l,k,a=>by
  show bI _ (k+1) l (a++g x)=_;rw[aQe g l (k+1) (a++g x),cC4,cAg]
theorem qB{α β R:Type}(l:List α)(g:α->List β)(out:List β->R)(a0:List β){step:Int×List β->Option ((Int×List β)⊕R)}(hl:l.length<=1000000)(hN:a0.length+(l.map λx=>(g x).length).sum<=1000000)
  (hs:∀(k:Nat) (x:α) (a:List β),idx l (k:Int)=some x->l[k]? =some x->x∈l->decide ((k:Int)<(l.length:Int))=true->wr ((k:Int)+1)=((k+1:Nat):Int)->a.length+(g x).length<=1000000->step ((k:Int),a)=some (.inl (((k+1:Nat):Int),a++g x)))
  (he:∀a,step ((l.length:Int),a)=some (.inr (out a))):aC step ((0:Int),a0)=some (out (a0++l.flatMap g)):=by
 rw[lC (λk (a:List β)=>((k:Int),a)) ((0:Int),a0) a0 l (λ_ x a=>a++g x) cAc (λx=>(g x).length) 1000000 out rfl (by omega) hN (λk x a=>by rw[cAh];exact bZ7 _) (λk x a h1 h2 h3 h4 h5 h6=>hs k x a h1 h2 (bZ9 h2) h3 h4 h6) he,aQe]
theorem aKn{α:Type}{f:α->Nat}{c:Nat}:∀{l:List α},(∀x∈l,f x<=c)->(l.map f).sum<=l.length * c
 | [],_=>cAe _
 | x::l,h=>by
  have h1:=h x (by simp);have h2:=aKn (l:=l) λy hy=>h y (bZ0 _ hy)
  rw[cAd,List.sum_cons,cAy,cAo];omega
theorem aNf{α β:Type}{g:α->List β}{c:Nat}:∀{l:List α},(∀x∈l,(g x).length<=c)->(l.flatMap g).length<=l.length * c
 | [],_=>cAe _
 | x::l,h=>by
  have h1:=h x (by simp);have h2:=aNf (l:=l) λy hy=>h y (bZ0 _ hy)
  rw[cC4,cAh,cAy,cAo];omega
def eE(s:den tSg):Int:=match s.2.2 with
 | []=> -1
 | h::_=>h.1
def oT(s:den tSg):Int:=if s.2.2.length=0 then -1 else ((s.2.2[s.2.2.length - 1]?).getD h0).1
theorem bKy(s:den tSg):fR s=some (eE s):=by
 unfold fR eE;cases h:s.2.2 with
 | nil=>rfl
 | cons x l=>rfl
theorem bH8{s:den tSg}(hl:s.2.2.length<=1000000):iI s=some (oT s):=by
 unfold iI oT
 by_cases h:s.2.2.length=0
 .rw[zT h,h];rfl
 .rw[zS h,show ((s.2.2.length:Int)==0)=false by rw[beq_eq_false_iff_ne];omega,zY,aZw (by omega) (by omega),aP,bZw (show s.2.2.length - 1<s.2.2.length by omega)];rfl
def bLn(b:Int)(l:List Int):Int:=l.foldl aJh b
def aXo(l:cR):List Int:=l.map λh=>h.2.2.2.2
theorem bR4{b:Int}{l:List Int}(hl:l.length<=1000000):pM b l=some (bLn b l):=by
 unfold pM;rw[lC (λk (a:Int)=>(a,(k:Int))) (b,(0:Int)) b l (λ_ x a=>aJh a x) (λ_=>0) (λ_=>0) 1 id rfl (by omega) (by rw[sum_nil];omega) (λk x a=>by omega) (λk x a hi hx hd hw hk hb=>by
  simp only[hd,hi,hw,zZ,aA,aXq]) (λa=>by simp),uO]
 rfl
theorem bUr{s:den tSg}{n:Nat}(hn:n<=s.2.2.length)(hl:s.2.2.length<=1000000):nZ s (n:Int)=some (aXo (s.2.2.take n)):=by
 have e:(s.2.2.take n).length=n:=by rw[cA8];omega
 unfold nZ zz4;rw[lC (λk (a:List Int)=>((k:Int),a)) ((0:Int),[]) [] (s.2.2.take n) (λ_ x a=>a++[x.2.2.2.2]) cAc (λ_=>1) 1000000 id rfl (by omega) (by rw[fI];simp;omega) (λk x a=>by simp) (λk x a hi hx hd hw hk hb=>by
  have hx:=(aXi hx).1;rw[e]at hd;simp only[hd,aP,hx,hw,zZ,aA,aF (b:=8) (n:=a.length) (m:=1) (by decide) (by omega)]) (λa=>by rw[e];simp),gD (λh:den bG=>h.2.2.2.2)]
 rfl
def aDl(s:den tSg)(i:Int):Int:=if inR i 0 (s.2.2.length:Int) then bLn s.2.1 (aXo (s.2.2.take i.toNat)) else 0
theorem bDa{s:den tSg}{i:Int}(hl:s.2.2.length<=1000000):gL s i=some (aDl s i):=by
 unfold gL aDl pj3;simp only[sG,aA];cases h:inR i 0 (s.2.2.length:Int) with
 | false=>rfl
 | true=>
  obtain⟨g0,g1⟩:=aS.1 h;obtain⟨n,rfl⟩:=cA0 g0;have e2:(aXo (s.2.2.take n)).length<=1000000:=by unfold aXo;rw[cAr,cA8];omega
  have e3:nZ (s.1,s.2.1,s.2.2) (n:Int)=some (aXo (s.2.2.take n)):=bUr (s:=s) (by omega) hl;simp only[bZ5,zY,e3,aA,bR4 e2,zV,bZ4]
def iO(s:den tSg)(k i:Int):den tPp:=
 if inR i 0 ((s.2.2.length:Int) - 1)&&inR k 1 4 then
  (if gV k then (k,s.1,aDl s (s.2.2.length:Int),(s.2.2.drop i.toNat).reverse) else (k,s.1,aDl s i,s.2.2.drop i.toNat))
 else (0,0,0,[])
theorem aI4(s:den tSg)(k i:Int):(iO s k i).2.2.2.length<=s.2.2.length:=by
 unfold iO;split
 .split
  .show (s.2.2.drop i.toNat).reverse.length<=_;rw[List.length_reverse,cB1];omega
  .show (s.2.2.drop i.toNat).length<=_;rw[cB1];omega
 .exact cAe _
theorem aEj{s:den tSg}{k i:Int}(hl:s.2.2.length<=1000000):cW s k i=some (iO s k i):=by
 unfold cW iO pj3 pj4 pj5 zz4;simp only[sG,aA,bU,dH,cL,cK,cS,aY (n:=(s.2.2.length:Int) - 1) (by omega) (by omega)];cases c1:inR i 0 ((s.2.2.length:Int) - 1) with
 | false=>rfl
 | true=>
  cases c2:inR k 1 4 with
  | false=>rfl
  | true=>
   obtain⟨g0,g1⟩:=aS.1 c1;obtain⟨n,rfl⟩:=cA0 g0;have e1:cC (n:Int) (s.2.2.length:Int) (s.2.2.length:Int)=true:=aCl (by omega);have e2:gL (s.1,s.2.1,s.2.2) (n:Int)=some (aDl s (n:Int)):=bDa (s:=s) hl;have e3:gL (s.1,s.2.1,s.2.2) (s.2.2.length:Int)=some (aDl s (s.2.2.length:Int)):=bDa (s:=s) hl;simp only[bZ5,zY,aA,e1,zZ,e2,aEt,aHf,cCm,zV,bZ4];cases gV k with
   | false=>
    simp only[cAb,zZ,cAl,aF (b:=40) (n:=([]:cR).length) (m:=(s.2.2.drop n).length) (by decide) (by simp;omega),bZ8,zU]
   | true=>
    simp only[bZ5,zY,e3,aA,zV];have key:∀(m:Nat) (a:cR),n+m<=s.2.2.length->a.length+m<=s.2.2.length->aC (λs11:Int×Int×Int×Int×cR=>cond (decide (s11.1>=(n:Int))) (Option.bind (idx s.2.2 s11.1) λx12=>cond (aJ 40 s11.2.2.2.2.length 1) (some (bZt (wr (s11.1 - (1:Int)),s11.2.1,s11.2.2.1,s11.2.2.2.1,s11.2.2.2.2++[x12]))) none) (some (bZs (s11.2.1,s11.2.2.1,s11.2.2.2.1,s11.2.2.2.2)))) (((n+m:Nat):Int) - 1,k,s.1,aDl s (s.2.2.length:Int),a)=some (k,s.1,aDl s (s.2.2.length:Int),a++((s.2.2.drop n).take m).reverse):=by
     intro m
     induction m with
     | zero=>
      intro a h1 h2;refine aT ?_;simp only[zW (show ¬ (((n+0:Nat):Int) - 1>=(n:Int)) by omega),zY,List.take_zero,List.reverse_nil,cAs]
     | succ m ih=>
      intro a h1 h2;have hx:s.2.2[n+m]? =some (s.2.2[n+m]'(by omega)):=bZw (by omega);have hw:((n+(m+1):Nat):Int) - 1=((n+m:Nat):Int):=by omega
      refine (cT (s':=(((n+m:Nat):Int) - 1,k,s.1,aDl s (s.2.2.length:Int),a++[s.2.2[n+m]'(by omega)])) ?_).trans ?_
      .simp only[hw,zX (show ((n+m:Nat):Int)>=(n:Int) by omega),zZ,aP,hx,aA,aF (b:=40) (n:=a.length) (m:=1) (by decide) (by omega),aY (n:=((n+m:Nat):Int) - 1) (by omega) (by omega)]
      .rw[ih (a++[s.2.2[n+m]'(by omega)]) (by omega) (by simp;omega)];have hd:(s.2.2.drop n)[m]? =some (s.2.2[n+m]'(by omega)):=by rw[cBj];exact hx
       rw[List.take_add_one,hd,List.reverse_append];simp
    have :=key (s.2.2.length - n) [] (by omega) (by simp);rw[show n+(s.2.2.length - n)=s.2.2.length by omega,cAl,List.take_of_length_le (by rw[cB1];omega)]at this;rw[this];rfl
def bZ(d:lSg)(r:Int):lSg:=d.filter λs=>oT s==r
def tW(c:lSg)(a b:Int):lSg:=c.filter λs=>eE s==a&&oT s==b
theorem aGc{α:Type}(p:α->Bool):∀l:List α,(l.flatMap λx=>cond (p x) [x] [])=l.filter p
 | []=>rfl
 | x::l=>by
  rw[cC4,aGc p l,cCi];cases p x<;>rfl
theorem aYs{α:Type}(p:α->Bool)(l:List α):(l.map λx=>(cond (p x) [x] []:List α).length).sum<=l.length:=by
 have :=aKn (f:=λx=>(cond (p x) [x] []:List α).length) (c:=1) (l:=l) λx _=>by cases p x<;>simp
 omega
theorem aJa{k:den tDb}{r:Int}(hl:k.1.length<=1000000)(hh:∀s∈k.1,s.2.2.length<=1000000):cY k r=some (bZ k.1 r):=by
 unfold cY bZ pj3;have hf:=aYs (λs=>oT s==r) k.1;rw[qB k.1 (λs=>cond (oT s==r) [s] []) id [] hl (by simpa using bZv hf hl) (λi x a hi hx hm hd hw hb=>by
  have h1:=hh x hm;have e1:iI (x.1,x.2.1,x.2.2)=some (oT x):=bH8 (s:=x) h1;have e2:gO (x.1,x.2.1,x.2.2)=some x:=aG5 (x:=x) (by omega);simp only[hd,zZ,hi,aA,e1,e2,hw];cases c:oT x==r
  .simp
  .rw[c]at hb;simp only[zZ,aF (b:=40) (n:=a.length) (m:=1) (by decide) (by simp at hb;omega),aA]) (λa=>by simp)]
 rw[aGc,cAl];rfl
theorem bCd{k:den tDb}{p q:Int}(hl:k.2.length<=1000000)(hh:∀s∈k.2,s.2.2.length<=1000000):kE k p q=some (tW k.2 p q):=by
 unfold kE tW pj3;have hf:=aYs (λs=>eE s==p&&oT s==q) k.2;rw[qB k.2 (λs=>cond (eE s==p&&oT s==q) [s] []) id [] hl (by simpa using bZv hf hl) (λi x a hi hx hm hd hw hb=>by
  have h1:=hh x hm;have e0:fR (x.1,x.2.1,x.2.2)=some (eE x):=bKy x;have e1:iI (x.1,x.2.1,x.2.2)=some (oT x):=bH8 (s:=x) h1;have e2:gO (x.1,x.2.1,x.2.2)=some x:=aG5 (x:=x) (by omega);simp only[hd,zZ,hi,aA,e0,e1,e2,hw];cases c:eE x==p
  .simp
  .cases c2:oT x==q
   .simp
   .rw[c,c2]at hb;simp only[zZ,cCm,aF (b:=40) (n:=a.length) (m:=1) (by decide) (by simp at hb;omega),aA]) (λa=>by simp)]
 rw[aGc,cAl];rfl
def fIx(l:cR)(r:Int):Int:=match bN (λk (x:den bG)=>if x.1==r then some (k:Int) else none) 0 l with
 | some v=>v
 | none=> -1
theorem bQ7{s:den tSg}{r:Int}(hl:s.2.2.length<=1000000):nM s r=some (fIx s.2.2 r):=by
 unfold nM fIx;rw[aW (l:=s.2.2) (λk (x:den bG)=>if x.1==r then some (k:Int) else none) (by omega) (λk x hi hd hw hx hk=>by
  simp only[hd,hi,hw,zZ,aA];cases x.1==r<;>rfl) (by simp)]
 cases bN (λk (x:den bG)=>if x.1==r then some (k:Int) else none) 0 s.2.2<;>rfl
def lIx(l:cR)(r:Int):Nat->Int
 | 0=> -1
 | n+1=>if ((l[n]?).getD h0).1==r then (n:Int) else lIx l r n
def aAv(up down:den tSg):Nat->lPp
 | 0=>[]
 | n+1=>if lIx down.2.2 ((up.2.2[n]?).getD h0).1 down.2.2.length>=0 then [iO up 1 (n:Int),iO down 4 (lIx down.2.2 ((up.2.2[n]?).getD h0).1 down.2.2.length)] else aAv up down n
def yX(up down:den tSg):lPp:=aAv up down up.2.2.length
theorem bJb{s:den tSg}(hl:s.2.2.length<=1000000):dK s=some (s.2.2.map λh=>(h.1:Int)):=by
 unfold dK;rw[lC (λk (a:List Int)=>((k:Int),a)) ((0:Int),[]) [] s.2.2 (λ_ x a=>a++[x.1]) cAc (λ_=>1) 1000000 id rfl (by omega) (by rw[fI];simpa using hl) (λk x a=>by simp) (λk x a hi hx hd hw hk hb=>by
  simp only[hd,hi,hw,zZ,aA,aF (b:=8) (n:=a.length) (m:=1) (by decide) (by omega)]) (λa=>by simp),gD (λh:den bG=>(h.1:Int))]
 rfl
theorem bUu{up down:den tSg}(h1:up.2.2.length<=1000000)(h2:down.2.2.length<=1000000):nO up down=some (yX up down):=by
 have e0:vT up down=some (yX up down):=by
  unfold vT yX ixb pj3 pj4;simp only[bJb h1,bJb h2,aA,cAr];rw[aY (n:=(up.2.2.length:Int) - 1) (by omega) (by omega)];have key:∀(G:Int->Option (Int⊕(Unit⊕lPp))) (n:Nat),n<=up.2.2.length->
    (∀m:Nat,m<up.2.2.length->G (m:Int)=if lIx down.2.2 ((up.2.2[m]?).getD h0).1 down.2.2.length>=0 then some (.inr (.inr [iO up 1 (m:Int),iO down 4 (lIx down.2.2 ((up.2.2[m]?).getD h0).1 down.2.2.length)])) else some (.inl ((m:Int) - 1)))->G (-1)=some (.inr (.inl ()))->
    Option.bind (aC G ((n:Int) - 1)) (λz:Unit⊕lPp=>Sum.elim (λ_=>some []) some z)=some (aAv up down n):=by
   intro G n
   induction n with
   | zero=>intro _ _ hG;rw[aT (r:=bZt ()) (show G (((0:Nat):Int) - 1)=_ from hG)];rfl
   | succ n ih=>
    intro hn hs he;have hw:((n+1:Nat):Int) - 1=(n:Int):=by omega
    rw[hw];have hg:=hs n (by omega);unfold aAv
    by_cases c:lIx down.2.2 ((up.2.2[n]?).getD h0).1 down.2.2.length>=0
    .rw[zT c]at hg ⊢;rw[aT hg];rfl
    .rw[zS c]at hg ⊢;rw[cT hg];exact ih (by omega) hs he
  refine key _ up.2.2.length (bZ7 _) (λm hm=> ?_) (by simp);have hx:up.2.2[m]? =some (up.2.2[m]'hm):=bZw hm;have e2:∀i,cW (up.1,up.2.1,up.2.2) 1 i=some (iO up 1 i):=λi=>aEj (s:=up) h1
  have e3:∀i,cW (down.1,down.2.1,down.2.2) 4 i=some (iO down 4 i):=λi=>aEj (s:=down) h2
  have hxm:(up.2.2.map λh=>(h.1:Int))[m]? =some (up.2.2[m]'hm).1:=by rw[cBq,hx];rfl
  simp only[aOe,dW,zZ,zX (show (m:Int)<(up.2.2.length:Int) by omega),bZ4,hxm,hx,cA3,aY (n:=(m:Int) - 1) (by omega) (by omega),aY (n:=(down.2.2.length:Int) - 1) (by omega) (by omega),aA,e2,e3];have inner:∀(R:Type) (G:Int->Option (Int⊕(Unit⊕R))) (f:Int->R) (n:Nat),n<=down.2.2.length->
    (∀j:Nat,j<down.2.2.length->G (j:Int)=if ((down.2.2[j]?).getD h0).1==(up.2.2[m]'hm).1 then some (.inr (.inr (f (j:Int)))) else some (.inl ((j:Int) - 1)))->G (-1)=some (.inr (.inl ()))->
    aC G ((n:Int) - 1)=some (if lIx down.2.2 (up.2.2[m]'hm).1 n>=0 then .inr (f (lIx down.2.2 (up.2.2[m]'hm).1 n)) else .inl ()):=by
   intro R G f n
   induction n with
   | zero=>intro _ _ hG;rw[aT (r:=bZt ()) (show G (((0:Nat):Int) - 1)=_ from hG)];rfl
   | succ n ih=>
    intro hn hs he;have hw:((n+1:Nat):Int) - 1=(n:Int):=by omega
    rw[hw];have hg:=hs n (by omega);unfold lIx;cases c:((down.2.2[n]?).getD h0).1==(up.2.2[m]'hm).1 with
    | true=>
     rw[c,zT rfl]at hg;rw[aT hg,zT rfl,zT (by omega)]
    | false=>
     rw[c,zS (by decide)]at hg;rw[cT hg];simp only[bZ8,zU];exact ih (by omega) hs he
  rw[inner _ _ (λj=>(bZs (bZs [iO up 1 (m:Int),iO down 4 j]):Int⊕(Unit⊕lPp))) down.2.2.length (bZ7 _) (λj hj=> ?_) (by simp)]
  .by_cases c:lIx down.2.2 (up.2.2[m]'hm).1 down.2.2.length>=0
   .rw[zT c,zT c];rfl
   .rw[zS c,zS c];rfl
  .have hy:down.2.2[j]? =some (down.2.2[j]'hj):=bZw hj;have hym:(down.2.2.map λh=>(h.1:Int))[j]? =some (down.2.2[j]'hj).1:=by rw[cBq,hy];rfl
   simp only[aOe,dW,zZ,zX (show (j:Int)<(down.2.2.length:Int) by omega),bZ4,hym,hy,cA3,aA,aY (n:=(j:Int) - 1) (by omega) (by omega)];rw[show ((up.2.2[m]'hm).1==(down.2.2[j]'hj).1)=((down.2.2[j]'hj).1==(up.2.2[m]'hm).1) from Bool.eq_iff_iff.2 ⟨λh=>by rw[beq_iff_eq]at h ⊢;exact h.symm,λh=>by rw[beq_iff_eq]at h ⊢;exact h.symm⟩];cases (down.2.2[j]'hj).1==(up.2.2[m]'hm).1<;>rfl
 unfold nO pj3;rw[show ((up.1,up.2.1,up.2.2):den tSg)=up from rfl,show ((down.1,down.2.1,down.2.2):den tSg)=down from rfl,e0];rfl
def iF(s:den tSg)(k:Int)(p:lPp):lPp:=cond (decide ((s.2.2.length:Int)>0)) (p++[iO s k 0]) p
theorem aZo(s:den tSg)(k:Int)(p:lPp):(iF s k p).length<=p.length+1:=by
 unfold iF;cases decide ((s.2.2.length:Int)>0)
 .simp
 .simp
def qW(up core:den tSg)(b:Bool)(down:den tSg):lPp:=iF down 4 (iF core (cond b 3 2) (iF up 1 []))
theorem bCx{up core down:den tSg}{b:Bool}(h1:up.2.2.length<=1000000)(h2:core.2.2.length<=1000000)(h3:down.2.2.length<=1000000):lS up core b down=some (qW up core b down):=by
 have l1:=aZo up 1 [];have l2:=aZo core (cond b 3 2) (iF up 1 []);simp only[cBm]at l1;have e1:cW (up.1,up.2.1,up.2.2) 1 0=some (iO up 1 0):=aEj (s:=up) h1;have e2:cW (core.1,core.2.1,core.2.2) (cond b 3 2) 0=some (iO core (cond b 3 2) 0):=aEj (s:=core) h2;have e3:cW (down.1,down.2.1,down.2.2) 4 0=some (iO down 4 0):=aEj (s:=down) h3;have eb:(cond b (some (3:Int)) (some (2:Int)))=some (cond b 3 2):=by cases b<;>rfl
 have f1:(cond (decide ((up.2.2.length:Int)>(0:Int))) (some [iO up 1 0]) (some []))=some (iF up 1 []):=by unfold iF;cases decide ((up.2.2.length:Int)>0)<;>rfl
 have f2:(cond (decide ((core.2.2.length:Int)>(0:Int))) (some (iF up 1 []++[iO core (cond b 3 2) 0])) (some (iF up 1 [])))=some (iF core (cond b 3 2) (iF up 1 [])):=by
  rw[show iF core (cond b 3 2) (iF up 1 [])=cond (decide ((core.2.2.length:Int)>0)) (iF up 1 []++[iO core (cond b 3 2) 0]) (iF up 1 []) from rfl];cases decide ((core.2.2.length:Int)>0)<;>rfl
 have f3:(cond (decide ((down.2.2.length:Int)>(0:Int))) (some (iF core (cond b 3 2) (iF up 1 [])++[iO down 4 0])) (some (iF core (cond b 3 2) (iF up 1 []))))=some (iF down 4 (iF core (cond b 3 2) (iF up 1 []))):=by
  rw[show iF down 4 (iF core (cond b 3 2) (iF up 1 []))=cond (decide ((down.2.2.length:Int)>0)) (iF core (cond b 3 2) (iF up 1 [])++[iO down 4 0]) (iF core (cond b 3 2) (iF up 1 [])) from rfl];cases decide ((down.2.2.length:Int)>0)<;>rfl
 unfold lS qW pj3 pj4;rw[eb];simp only[e1,e2,e3,aA,aF (b:=48) (n:=0) (m:=1) (by decide) (by omega),zZ,f1,aF (b:=48) (n:=(iF up 1 []).length) (m:=1) (by decide) (by omega),f2,aF (b:=48) (n:=(iF core (cond b 3 2) (iF up 1 [])).length) (m:=1) (by decide) (by omega),f3]
def cA(c:lSg)(up:den tSg)(a b:Int)(down:den tSg):List lPp:=
 (tW c a b).flatMap (λs=>[qW up s false down])++(tW c b a).flatMap (λs=>[qW up s true down])
theorem aNo(c:lSg)(a b:Int):(tW c a b).length<=c.length:=cCk _ _
theorem bI2(c:lSg)(a:Int):(bZ c a).length<=c.length:=cCk _ _
theorem aOn{α β:Type}(f:α->β)(l:List α):(l.flatMap λs=>[f s]).length<=l.length:=by
 have :=aNf (g:=λs=>[f s]) (c:=1) (l:=l) λx _=>by simp
 omega
theorem yG{c:lSg}(hc:c.length<=30)(up:den tSg)(a b:Int)(down:den tSg):(cA c up a b down).length<=60:=by
 unfold cA;rw[cAh];have h1:=aOn (λs=>qW up s false down) (tW c a b);have h2:=aOn (λs=>qW up s true down) (tW c b a);have h3:=aNo c a b;have h4:=aNo c b a;omega
structure DbS (k:den tDb):Prop where
 down:k.1.length<=30
 core:k.2.length<=30
 hd1:∀s∈k.1,s.2.2.length<=5
 hc1:∀s∈k.2,s.2.2.length<=5
theorem DbS.hd{k:den tDb}(h:DbS k):∀s∈k.1,s.2.2.length<=1000000:=λs hs=>bZv (h.hd1 s hs) (by decide)
theorem DbS.hc{k:den tDb}(h:DbS k):∀s∈k.2,s.2.2.length<=1000000:=λs hs=>bZv (h.hc1 s hs) (by decide)
theorem DbD.s{n:Nat}{d c:lSg}(h:DbD n d c)(hn:n<=30):DbS (d,c):=⟨bZv h.down hn,bZv h.core hn,h.hd,h.hc⟩
theorem DbS.downs{k:den tDb}(h:DbS k)(r:Int):(bZ k.1 r).length<=30/\ ∀s∈bZ k.1 r,s.2.2.length<=1000000:=⟨bZv (bI2 _ _) h.down,λs hs=>h.hd s (cAa.1 hs).1⟩
theorem DbS.betw{k:den tDb}(h:DbS k)(a b:Int):(tW k.2 a b).length<=30/\ ∀s∈tW k.2 a b,s.2.2.length<=1000000:=⟨bZv (aNo _ _ _) h.core,λs hs=>h.hc s (cAa.1 hs).1⟩
theorem bB0{k:den tDb}(h:DbS k){up down:den tSg}(h1:up.2.2.length<=1000000)(h3:down.2.2.length<=1000000)(a b:Int):fM k up a b down=some (cA k.2 up a b down):=by
 have e1:kE (k.1,k.2) a b=some (tW k.2 a b):=bCd (k:=k) (bZv h.core (by decide)) h.hc;have e2:kE (k.1,k.2) b a=some (tW k.2 b a):=bCd (k:=k) (bZv h.core (by decide)) h.hc;obtain⟨l1,m1⟩:=h.betw a b;obtain⟨l2,m2⟩:=h.betw b a;have n1:=aOn (λs=>qW up s false down) (tW k.2 a b);unfold fM cA ixb pj2 pj3;rw[e1,aA];rw[qB (tW k.2 a b) (λs=>[qW up s false down]) (λx=>x) [] (by omega) (by have :=aKn (f:=λs=>([qW up s false down]:List lPp).length) (c:=1) (l:=tW k.2 a b) (λ_ _=>by simp);simp only[cBm];omega) (λi x y hi hx hm hd hw hb=>by
  have e:lS (up.1,up.2.1,up.2.2) (x.1,x.2.1,x.2.2) false (down.1,down.2.1,down.2.2)=some (qW up x false down):=bCx (up:=up) (core:=x) (down:=down) h1 (m1 x hm) h3;simp only[hd,dW,zZ,bZ4,hx,aA,e,hw,aF (b:=24) (n:=y.length) (m:=1) (by decide) (by simp at hb;omega)]) (λy=>by simp)]
 rw[aA,e2,aA,cAl];rw[qB (tW k.2 b a) (λs=>[qW up s true down]) (λx=>x) ((tW k.2 a b).flatMap λs=>[qW up s false down]) (by omega) (by have :=aKn (f:=λs=>([qW up s true down]:List lPp).length) (c:=1) (l:=tW k.2 b a) (λ_ _=>by simp);omega) (λi x y hi hx hm hd hw hb=>by
  have e:lS (up.1,up.2.1,up.2.2) (x.1,x.2.1,x.2.2) true (down.1,down.2.1,down.2.2)=some (qW up x true down):=bCx (up:=up) (core:=x) (down:=down) h1 (m2 x hm) h3;simp only[hd,dW,zZ,bZ4,hx,aA,e,hw,aF (b:=24) (n:=y.length) (m:=1) (by decide) (by simp at hb;omega)]) (λy=>by simp)]
 rfl
def fG:den tSg:=(0,0,[])
def oX(kind r:Int)(s:den tSg):List lPp:=cond (decide (fIx s.2.2 r>=0)) [[iO s kind (fIx s.2.2 r)]] []
def uB(u d:den tSg):List lPp:=cond (decide (((yX u d).length:Int)>0)) [yX u d] []
def kV(t:den tTo)(r:Int):Bool:=((t.1[r.toNat]?).getD (0,false,0)).2.1
theorem aIf(kind r:Int)(s:den tSg):(oX kind r s).length<=1:=by unfold oX;cases decide (fIx s.2.2 r>=0)<;>simp
theorem bIi(u d:den tSg):(uB u d).length<=1:=by unfold uB;cases decide (((yX u d).length:Int)>0)<;>simp
def mU(t:den tTo)(k:den tDb)(a b:Int):List lPp:=
 cond (a==b||(!cH t a|| !cH t b)) [] (((((((bZ k.1 a).flatMap (oX 1 b)++(bZ k.1 b).flatMap (oX 4 a))++cA k.2 fG a b fG)
  ++(bZ k.1 a).flatMap λu=>(bZ k.1 b).flatMap λd=>uB u d)
  ++cond (kV t a) ((bZ k.1 b).flatMap λd=>cA k.2 fG a (eE d) d) [])
  ++cond (kV t b) ((bZ k.1 a).flatMap λu=>cA k.2 u (eE u) b fG) [])
  ++(bZ k.1 a).flatMap λu=>(bZ k.1 b).flatMap λd=>cA k.2 u (eE u) (eE d) d)
theorem aBn{α β:Type}{g:α->List β}{c n:Nat}{l:List α}(hl:l.length<=n)(h:∀x∈l,(g x).length<=c):(l.map λx=>(g x).length).sum<=n * c:=
 bZv (aKn h) (cA4 _ hl)
theorem xT{α β:Type}{g:α->List β}{c n:Nat}{l:List α}(hl:l.length<=n)(h:∀x∈l,(g x).length<=c):(l.flatMap g).length<=n * c:=
 bZv (aNf h) (cA4 _ hl)
theorem aVb{downs:lSg}(h:downs.length<=30)(u:den tSg):(downs.flatMap λd=>uB u d).length<=30:=
 bZv (xT (c:=1) h λd _=>bIi u d) (by decide)
theorem aZa{c downs:lSg}(hc:c.length<=30)(h:downs.length<=30)(u:den tSg):(downs.flatMap λd=>cA c u (eE u) (eE d) d).length<=1800:=
 bZv (xT (c:=60) h λd _=>yG hc _ _ _ _) (by decide)
theorem aIh{k:den tDb}(h:DbS k)(a b:Int):(((bZ k.1 a).flatMap (oX 1 b)).length<=30)/\(((bZ k.1 b).flatMap (oX 4 a)).length<=30)/\((cA k.2 fG a b fG).length<=60)/\(((bZ k.1 a).flatMap λu=>(bZ k.1 b).flatMap λd=>uB u d).length<=900)/\(((bZ k.1 b).flatMap λd=>cA k.2 fG a (eE d) d).length<=1800)/\(((bZ k.1 a).flatMap λu=>cA k.2 u (eE u) b fG).length<=1800)/\(((bZ k.1 a).map λs=>(oX 1 b s).length).sum<=30)/\(((bZ k.1 b).map λs=>(oX 4 a s).length).sum<=30)/\(((bZ k.1 a).map λu=>((bZ k.1 b).flatMap λd=>uB u d).length).sum<=900)/\(((bZ k.1 b).map λd=>(cA k.2 fG a (eE d) d).length).sum<=1800)/\(((bZ k.1 a).map λu=>(cA k.2 u (eE u) b fG).length).sum<=1800)/\(((bZ k.1 a).map λu=>((bZ k.1 b).flatMap λd=>cA k.2 u (eE u) (eE d) d).length).sum<=54000):=by
 obtain⟨lu,mu⟩:=h.downs a;obtain⟨ld,md⟩:=h.downs b;exact⟨bZv (xT (c:=1) lu λs _=>aIf 1 b s) (by decide),bZv (xT (c:=1) ld λs _=>aIf 4 a s) (by decide),yG h.core fG a b fG,bZv (xT (c:=30) lu λu _=>aVb ld u) (by decide),bZv (xT (c:=60) ld λd _=>yG h.core _ _ _ _) (by decide),bZv (xT (c:=60) lu λd _=>yG h.core _ _ _ _) (by decide),bZv (aBn (c:=1) lu λs _=>aIf 1 b s) (by decide),bZv (aBn (c:=1) ld λs _=>aIf 4 a s) (by decide),bZv (aBn (c:=30) lu λu _=>aVb ld u) (by decide),bZv (aBn (c:=60) ld λd _=>yG h.core _ _ _ _) (by decide),bZv (aBn (c:=60) lu λd _=>yG h.core _ _ _ _) (by decide),bZv (aBn (c:=1800) lu λu _=>aZa h.core ld u) (by decide)⟩
theorem bS9{k:den tDb}(h:DbS k)(a b:Int):rB k a b=some ((((bZ k.1 a).flatMap (oX 1 b)++(bZ k.1 b).flatMap (oX 4 a))++cA k.2 fG a b fG)):=by
 have e1:cY (k.1,k.2) a=some (bZ k.1 a):=aJa (k:=k) (bZv h.down (by decide)) h.hd;have e2:cY (k.1,k.2) b=some (bZ k.1 b):=aJa (k:=k) (bZv h.down (by decide)) h.hd;obtain⟨lu,mu⟩:=h.downs a;obtain⟨ld,md⟩:=h.downs b;have hz1:fM (k.1,k.2) (0,0,[]) a b (0,0,[])=some (cA k.2 fG a b fG):=bB0 (k:=k) h (up:=fG) (down:=fG) (by decide) (by decide) a b;obtain⟨n1,n2,n3,n4,n5,n6,s1,s2,s4,s5,s6,s7⟩:=aIh h a b;unfold rB ixb pj2 pj3 pj4;rw[e1,aA];rw[qB (bZ k.1 a) (oX 1 b) (λx=>x) [] (by omega) (by simp only[cBm];omega) (λi x y hi hx hm hd hw hb=>by
  have e:nM (x.1,x.2.1,x.2.2) b=some (fIx x.2.2 b):=bQ7 (s:=x) (mu x hm);have e':cW (x.1,x.2.1,x.2.2) 1 (fIx x.2.2 b)=some (iO x 1 (fIx x.2.2 b)):=aEj (s:=x) (mu x hm);have hb:y.length<=1000000:=by omega
  unfold oX;simp only[hd,dW,zZ,bZ4,hx,aA,e,e',hw,aF (b:=24) (n:=y.length) (m:=1) (by decide) (by omega)];cases decide (fIx x.2.2 b>=0)
  .simp
  .rfl) (λy=>by simp)]
 rw[aA,cAl,e2,aA];rw[qB (bZ k.1 b) (oX 4 a) (λx=>x) ((bZ k.1 a).flatMap (oX 1 b)) (by omega) (by omega) (λi x y hi hx hm hd hw hb=>by
  have e:nM (x.1,x.2.1,x.2.2) a=some (fIx x.2.2 a):=bQ7 (s:=x) (md x hm);have e':cW (x.1,x.2.1,x.2.2) 4 (fIx x.2.2 a)=some (iO x 4 (fIx x.2.2 a)):=aEj (s:=x) (md x hm);have hb:y.length<=1000000:=by omega
  unfold oX;simp only[hd,dW,zZ,bZ4,hx,aA,e,e',hw,aF (b:=24) (n:=y.length) (m:=1) (by decide) (by omega)];cases decide (fIx x.2.2 a>=0)
  .simp
  .rfl) (λy=>by simp)]
 rw[aA,hz1,aA,aF (b:=24) (n:=((bZ k.1 a).flatMap (oX 1 b)++(bZ k.1 b).flatMap (oX 4 a)).length) (m:=(cA k.2 fG a b fG).length) (by decide) (by rw[cAh];omega)];rfl
theorem aTx{α β:Type}(l:List α)(g:α->List β)(c:Bool)(a0:List β){step:Int×List β->Option ((Int×List β)⊕List β)}(hl:l.length<=1000000)(hN:a0.length+(l.map λx=>(g x).length).sum<=1000000)
  (hs:c=true-> ∀(k:Nat) (x:α) (a:List β),idx l (k:Int)=some x->l[k]? =some x->x∈l->decide ((k:Int)<(l.length:Int))=true->wr ((k:Int)+1)=((k+1:Nat):Int)->a.length+(g x).length<=1000000->step ((k:Int),a)=some (.inl (((k+1:Nat):Int),a++g x)))
  (he:∀a,step ((l.length:Int),a)=some (.inr a)) (hc:c=false->step ((0:Int),a0)=some (.inr a0)):aC step ((0:Int),a0)=some (a0++cond c (l.flatMap g) []):=by
 cases c with
 | true=>exact qB l g (λx=>x) a0 hl hN (hs rfl) he
 | false=>rw[zY,cAs];exact aT (hc rfl)
theorem bXt{t:den tTo}{k:den tDb}(ht:t.1.length<=1000000)(h:DbS k)(a b:Int):kS t k a b=some (mU t k a b):=by
 have hA:=aEs (t:=t) (r:=a) (by omega);have hB:=aEs (t:=t) (r:=b) (by omega);unfold kS mU ixb pj2 pj3;rw[show ((t.1,t.2):den tTo)=t from rfl,hA,hB];cases c0:a==b with
 | true=>rfl
 | false=>
 cases c1:cH t a with
 | false=>rfl
 | true=>
 cases c2:cH t b with
 | false=>rfl
 | true=>
 have e1:cY (k.1,k.2) a=some (bZ k.1 a):=aJa (k:=k) (bZv h.down (by decide)) h.hd;have e2:cY (k.1,k.2) b=some (bZ k.1 b):=aJa (k:=k) (bZv h.down (by decide)) h.hd;obtain⟨lu,mu⟩:=h.downs a;obtain⟨ld,md⟩:=h.downs b;obtain⟨xa,hxa,ea⟩:=aDd c1;obtain⟨xb,hxb,eb⟩:=aDd c2;have ca:kV t a=xa.2.1:=by unfold kV;rw[hxa];rfl
 have cb:kV t b=xb.2.1:=by unfold kV;rw[hxb];rfl
 have hal:rB (k.1,k.2) a b=some _:=bS9 (k:=k) h a b;have hcz:∀(u:den tSg) (x y:Int) (d:den tSg),u.2.2.length<=1000000->d.2.2.length<=1000000->fM (k.1,k.2) (u.1,u.2.1,u.2.2) x y (d.1,d.2.1,d.2.2)=some (cA k.2 u x y d):=λu x y d h1 h2=>bB0 (k:=k) h (up:=u) (down:=d) h1 h2 x y
 have hz1:∀(x y:Int),fM (k.1,k.2) (0,0,[]) x y (0,0,[])=some (cA k.2 fG x y fG):=λx y=>hcz fG x y fG (by decide) (by decide)
 have hz2:∀(x y:Int) (d:den tSg),d.2.2.length<=1000000->fM (k.1,k.2) (0,0,[]) x y (d.1,d.2.1,d.2.2)=some (cA k.2 fG x y d):=λx y d hd=>hcz fG x y d (by decide) hd
 have hz3:∀(u:den tSg) (x y:Int),u.2.2.length<=1000000->fM (k.1,k.2) (u.1,u.2.1,u.2.2) x y (0,0,[])=some (cA k.2 u x y fG):=λu x y hu=>hcz u x y fG hu (by decide)
 have hf:∀s:den tSg,fR (s.1,s.2.1,s.2.2)=some (eE s):=λs=>bKy s
 obtain⟨n1,n2,n3,n4,n5,n6,s1,s2,s4,s5,s6,s7⟩:=aIh h a b;simp only[zY,zZ,aA,bZ5,cBu,hal,e1,e2,bU,dH,cL,cK,cS];generalize hU:bZ k.1 a=ups at *;generalize hD:bZ k.1 b=downs at *;have q3:(ups.flatMap (oX 1 b)++downs.flatMap (oX 4 a)).length<=60:=by rw[cAh];omega
 generalize ups.flatMap (oX 1 b)++downs.flatMap (oX 4 a)=l3 at *;have q4:(l3++cA k.2 fG a b fG).length<=120:=by rw[cAh];omega
 generalize l3++cA k.2 fG a b fG=l4 at *;rw[qB ups (λu=>downs.flatMap λd=>uB u d) (λx=>x) l4 (by omega) (by omega) (λi u y hi hx hm hd hw hb=>by
  have hy:y.length<=1000000:=by omega
  have hb0:y.length+(downs.flatMap λd=>uB u d).length<=1000000:=hb;have hsum:(downs.map λd=>(uB u d).length).sum=(downs.flatMap λd=>uB u d).length:=by rw[List.length_flatMap]
  simp only[hd,dW,zZ,bZ4,hx,aA,hw];rw[qB downs (λd=>uB u d) (λx=>x) y (by omega) (by rw[hsum];exact hb0) (λj d z hj hx' hm' hd' hw' hb'=>by
   have e:nO (u.1,u.2.1,u.2.2) (d.1,d.2.1,d.2.2)=some (yX u d):=bUu (up:=u) (down:=d) (mu u hm) (md d hm');have hb:z.length<=1000000:=by omega
   unfold uB;simp only[hd',dW,zZ,bZ4,hx',aA,e,hw',aF (b:=24) (n:=z.length) (m:=1) (by decide) (by omega)];cases decide (((yX u d).length:Int)>0)
   .simp
   .rfl) (λy=>by simp)]
  rfl) (λy=>by simp)]
 rw[aA];have q5:(l4++ups.flatMap λu=>downs.flatMap λd=>uB u d).length<=1020:=by rw[cAh];omega
 generalize (l4++ups.flatMap λu=>downs.flatMap λd=>uB u d)=l5 at *;rw[aTx downs (λd=>cA k.2 fG a (eE d) d) (kV t a) l5 (by omega) (by omega) (λhc i d y hi hx hm hd hw hb=>by
  rw[ca]at hc;simp only[hd,dW,zZ,ea,hc,bZ4,hx,aA,hf,hz2 _ _ d (md d hm),hw];rw[aF (b:=24) (n:=y.length) (m:=(cA k.2 fG a (eE d) d).length) (by decide) (by omega)];rfl) (λy=>by simp) (λhc=>by
  rw[ca]at hc;simp only[ea,aA,hc];cases decide ((0:Int)<(downs.length:Int))<;>rfl),aA]
 have q6:(l5++cond (kV t a) (downs.flatMap λd=>cA k.2 fG a (eE d) d) []).length<=2820:=by
  rw[cAh];cases kV t a
  .simp only[zY,cBm];omega
  .simp only[zZ];omega
 generalize (l5++cond (kV t a) (downs.flatMap λd=>cA k.2 fG a (eE d) d) [])=l6 at *;rw[aTx ups (λu=>cA k.2 u (eE u) b fG) (kV t b) l6 (by omega) (by omega) (λhc i d y hi hx hm hd hw hb=>by
  rw[cb]at hc;simp only[hd,dW,zZ,eb,hc,bZ4,hx,aA,hf,hz3 d _ _ (mu d hm),hw];rw[aF (b:=24) (n:=y.length) (m:=(cA k.2 d (eE d) b fG).length) (by decide) (by omega)];rfl) (λy=>by simp) (λhc=>by
  rw[cb]at hc;simp only[eb,aA,hc];cases decide ((0:Int)<(ups.length:Int))<;>rfl),aA]
 have q7:(l6++cond (kV t b) (ups.flatMap λu=>cA k.2 u (eE u) b fG) []).length<=4620:=by
  rw[cAh];cases kV t b
  .simp only[zY,cBm];omega
  .simp only[zZ];omega
 generalize (l6++cond (kV t b) (ups.flatMap λu=>cA k.2 u (eE u) b fG) [])=l7 at *;rw[qB ups (λu=>downs.flatMap λd=>cA k.2 u (eE u) (eE d) d) (λx=>x) l7 (by omega) (by omega) (λi u y hi hx hm hd hw hb=>by
  have hb0:y.length+(downs.flatMap λd=>cA k.2 u (eE u) (eE d) d).length<=1000000:=hb;have hsum:(downs.map λd=>(cA k.2 u (eE u) (eE d) d).length).sum=(downs.flatMap λd=>cA k.2 u (eE u) (eE d) d).length:=by rw[List.length_flatMap]
  simp only[hd,dW,zZ,bZ4,hx,aA,hw];rw[qB downs (λd=>cA k.2 u (eE u) (eE d) d) (λx=>x) y (by omega) (by rw[hsum];exact hb0) (λj d z hj hx' hm' hd' hw' hb'=>by
   simp only[hd',dW,zZ,bZ4,hx',aA,hf,hcz u _ _ d (mu u hm) (md d hm'),hw'];rw[aF (b:=24) (n:=z.length) (m:=(cA k.2 u (eE u) (eE d) d).length) (by decide) (by omega)];rfl) (λy=>by simp)]
  rfl) (λy=>by simp)]
 rfl
def jR(p:den tPt):Prop:=cAc (α:=den tPp) p<=3/\ ∀x:den tPp,x∈(show lPp from p)->x.2.2.2.length<=5
def aPa(n:Nat)(l:lPt):Prop:=l.length<=n/\ ∀p∈l,jR p
theorem bMr:jR []:=⟨by simp,λx hx=>(cAj hx).elim⟩
theorem zF{t:Ty}{B:Nat}:∀{l:List (den t)},(∀x∈l,tot t x<=B)->tot (.sl t) l<=(B+1) * l.length
 | [],_=>by simp[tot]
 | x::l,h=>by
  have ih:=zF (l:=l) λy hy=>h y (bZ0 _ hy)
  have hx:=h x (by simp);rw[jF,cAy,Nat.mul_add,Nat.mul_one];omega
theorem bP6{q:den tPp}(h:q.2.2.2.length<=5):tot tPp q<=5:=by
 show tot ti q.1+(tot ti q.2.1+(tot ti q.2.2.1+tot (.sl bG) q.2.2.2))<=5;rw[jB (t:=bG) rfl];show 0+(0+(0+q.2.2.2.length))<=5;omega
theorem aHt{p:den tPt}(h:jR p):tot tPt p<=18:=by
 have h1:=zF (t:=tPp) (B:=5) (l:=p) λx hx=>bP6 (h.2 x hx)
 have h2:=h.1;show tot (.sl tPp) p<=18;have :(5+1) * cAc (α:=den tPp) p<=18:=by omega
 exact bZv h1 this
theorem aVc{n:Nat}{l:lPt}(h:aPa n l):tot (.sl tPt) l<=19 * n:=by
 have h1:=zF (t:=tPt) (B:=18) (l:=l) λx hx=>aHt (h.2 x hx)
 have h2:=h.1;have :(18+1) * l.length<=19 * n:=by omega
 exact bZv h1 this
theorem bCk{up down:den tSg}(h1:up.2.2.length<=5)(h2:down.2.2.length<=5):∀n:Nat,jR (aAv up down n)
 | 0=>bMr
 | n+1=>by
  unfold aAv;split
  .refine⟨by simp,λx hx=> ?_⟩;simp only[bZx,cAj,or_false]at hx;rcases hx with rfl | rfl
   .exact bZv (aI4 _ _ _) h1
   .exact bZv (aI4 _ _ _) h2
  .exact bCk h1 h2 n
theorem aYr{p:lPp}(h:jR p):tot tPt p<=1073741824:=bZv (aHt h) (by decide)
theorem bIz{x:den tPp}(h:x.2.2.2.length<=5):jR [x]:=⟨by simp,λy hy=>by rw[bZz.1 hy];exact h⟩
theorem aX7{s:den tSg}(hs:s.2.2.length<=5)(k:Int){p:lPp}{n:Nat}(hp:p.length<=n/\ ∀x∈p,x.2.2.2.length<=5):(iF s k p).length<=n+1/\ ∀x∈iF s k p,x.2.2.2.length<=5:=by
 unfold iF;cases decide ((s.2.2.length:Int)>0) with
 | false=>exact⟨bZv hp.1 (cAw _),hp.2⟩
 | true=>
  refine⟨by simp;exact hp.1,λx hx=> ?_⟩;rcases bZ2.1 (show x∈p++[iO s k 0] from hx) with hx | hx
  .exact hp.2 x hx
  .rw[bZz.1 hx];exact bZv (aI4 s k 0) hs
theorem bC3{up core down:den tSg}(h1:up.2.2.length<=5)(h2:core.2.2.length<=5)(h3:down.2.2.length<=5)(b:Bool):jR (qW up core b down):=
 aX7 h3 4 (n:=2) (aX7 h2 (cond b 3 2) (n:=1) (aX7 h1 1 (n:=0) ⟨by simp,λx hx=>(cAj hx).elim⟩))
theorem aHk{k:den tDb}(h:DbS k){up down:den tSg}(h1:up.2.2.length<=5)(h3:down.2.2.length<=5)(a b:Int):∀p∈cA k.2 up a b down,jR p:=by
 intro p hp;unfold cA at hp;rcases bZ2.1 hp with hp | hp
 .obtain⟨s,hs,hp⟩:=cAm.1 hp;rw[bZz.1 hp];exact bC3 h1 (h.hc1 s (cAa.1 hs).1) h3 false
 .obtain⟨s,hs,hp⟩:=cAm.1 hp;rw[bZz.1 hp];exact bC3 h1 (h.hc1 s (cAa.1 hs).1) h3 true
theorem bC5{t:den tTo}{k:den tDb}(h:DbS k)(a b:Int):∀p∈mU t k a b,jR p:=by
 intro p hp;have mu:∀s∈bZ k.1 a,s.2.2.length<=5:=λs hs=>h.hd1 s (cAa.1 hs).1
 have md:∀s∈bZ k.1 b,s.2.2.length<=5:=λs hs=>h.hd1 s (cAa.1 hs).1
 have one:∀(kind r:Int) (s:den tSg),s.2.2.length<=5-> ∀p∈oX kind r s,jR p:=λkind r s hs p hp=>by
  unfold oX at hp;cases hc:decide (fIx s.2.2 r>=0) with
  | false=>rw[hc]at hp;cases hp
  | true=>
   rw[hc]at hp;rw[bZz.1 hp];exact bIz (bZv (aI4 _ _ _) hs)
 unfold mU at hp;cases hc:(a==b||(!cH t a|| !cH t b)) with
 | true=>rw[hc]at hp;cases hp
 | false=>
 rw[hc]at hp;simp only[zY,bZ2]at hp;rcases hp with (((((hp | hp) | hp) | hp) | hp) | hp) | hp
 .obtain⟨s,hs,hp⟩:=cAm.1 hp;exact one _ _ s (mu s hs) p hp
 .obtain⟨s,hs,hp⟩:=cAm.1 hp;exact one _ _ s (md s hs) p hp
 .exact aHk h (by decide) (by decide) _ _ p hp
 .obtain⟨u,hu,hp⟩:=cAm.1 hp;obtain⟨d,hd,hp⟩:=cAm.1 hp;unfold uB at hp;cases hq:decide (((yX u d).length:Int)>0) with
  | false=>rw[hq]at hp;cases hp
  | true=>
   rw[hq]at hp;rw[bZz.1 hp];exact bCk (mu u hu) (md d hd) _
 .cases hq:kV t a with
  | false=>rw[hq]at hp;cases hp
  | true=>
   rw[hq]at hp;obtain⟨d,hd,hp⟩:=cAm.1 hp;exact aHk h (by decide) (md d hd) _ _ p hp
 .cases hq:kV t b with
  | false=>rw[hq]at hp;cases hp
  | true=>
   rw[hq]at hp;obtain⟨u,hu,hp⟩:=cAm.1 hp;exact aHk h (mu u hu) (by decide) _ _ p hp
 .obtain⟨u,hu,hp⟩:=cAm.1 hp;obtain⟨d,hd,hp⟩:=cAm.1 hp;exact aHk h (mu u hu) (md d hd) _ _ p hp
theorem bK0{t:den tTo}{k:den tDb}(h:DbS k)(a b:Int):(mU t k a b).length<=100000:=by
 obtain⟨n1,n2,n3,n4,n5,n6,s1,s2,s4,s5,s6,s7⟩:=aIh h a b;have n7:((bZ k.1 a).flatMap λu=>(bZ k.1 b).flatMap λd=>cA k.2 u (eE u) (eE d) d).length<=54000:=by rw[List.length_flatMap];exact s7
 unfold mU;cases (a==b||(!cH t a|| !cH t b)) with
 | true=>exact cAe _
 | false=>
 cases kV t a<;>cases kV t b<;>simp only[zY,zZ,cAh,cBm]<;>omega
def aLw(q:den tPp)(i:Nat):Int:=aFn q (if gV q.1 then i+1 else i)
def aDh(t:den tTo)(q:den tPp):Bool:=(q.2.2.2.zipIdx 0).all λz=>zK t q.2.1 (aLw q z.2) z.1
def aRz(t:den tTo)(p:lPp):Bool:=p.all (aDh t)
theorem bUh{t:den tTo}{q:den tPp}(ht:t.1.length<=1000000)(h:q.2.2.2.length<=1000000):nL t q=some (aDh t q):=by
 unfold nL aDh pj2 pj4 pj5;rw[aW (l:=q.2.2.2) (λk (x:den bG)=>if zK t q.2.1 (aLw q k) x then none else some false) (by omega) (λk x hi hd hw hx hk=>by
  have e1:lW (q.1,q.2.1,q.2.2.1,q.2.2.2) (k:Int)=some (aFn q k):=bCe (p:=q) (by omega) (by omega);have e2:lW (q.1,q.2.1,q.2.2.1,q.2.2.2) ((k+1:Nat):Int)=some (aFn q (k+1)):=bCe (p:=q) (by omega) (by omega);have e3:∀b,kJ (t.1,t.2) q.2.1 b (x.1,x.2.1,x.2.2.1,x.2.2.2.1,x.2.2.2.2)=some (zK t q.2.1 b x):=λb=>bJj (t:=t) (h:=x) (by omega)
  have eb:vS (q.1,q.2.1,q.2.2.1,q.2.2.2) (k:Int)=some (aLw q k):=by
   unfold vS aLw pj4;simp only[aHf,aA,hw,e1,e2];cases gV q.1<;>rfl
  simp only[hd,hi,hw,zZ,aA,eb,e3];cases zK t q.2.1 (aLw q k) x<;>rfl) (by simp),aAu]
 cases (q.2.2.2.zipIdx 0).all λz=>zK t q.2.1 (aLw q z.2) z.1<;>rfl
theorem bW7{t:den tTo}{p:lPp}(ht:t.1.length<=1000000)(h:jR p):nR t p=some (aRz t p):=by
 have h3:=h.1;unfold nR aRz pj2 pj4;rw[aW (l:=p) (λ_ (x:den tPp)=>if aDh t x then none else some false) (by omega) (λk x hi hd hw hx hk=>by
  have e:nL (t.1,t.2) (x.1,x.2.1,x.2.2.1,x.2.2.2)=some (aDh t x):=bUh (t:=t) (q:=x) ht (bZv (h.2 x hx) (by decide));simp only[hd,hi,hw,zZ,aA,e];cases aDh t x<;>rfl) (by simp),pA]
 cases p.all (aDh t)<;>rfl
def aV5(now:Int)(l:cR):Bool:=l.all λh=>decide (now<=h.2.2.2.1)
def aCx(t:den tTo)(p:lPp)(now:Int):Bool:=cond (mN t p&&aRz t p) (p.all λx=> !decide (x.2.1>now)&&aV5 now x.2.2.2) false
theorem aSs{t:den tTo}{p:den tPt}(h:wfP t p=true){k:Nat}{x:den tPp}(hx:p[k]? =some x):fA t x=true/\(k=0\/aHs ((p[k - 1]?).getD pt0) x=true):=by
 unfold wfP at h;rw[bZu]at h;have :=(wX (sW t p) p).1 h.2 k x hx;unfold sW at this;rw[bZu,cBf,zR]at this;exact this
theorem aZ7{t:den tTo}{x:den tPp}(h:fA t x=true):0<x.2.2.2.length:=by
 unfold fA at h;rw[bZu]at h;have :=(aS.1 h.1).1;omega
theorem bWy{t:den tTo}{p:lPp}(ht:t.1.length<=1000000)(h2:t.2.length<=1000000)(h:jR p)(now:Int):nH t p now=some (aCx t p now):=by
 have h3:=h.1;have e1:nN (t.1,t.2) p=some (mN t p):=bI1 (t:=t) (p:=p) (by omega) (by omega) (aYr h);have e2:nR (t.1,t.2) p=some (aRz t p):=bW7 (t:=t) ht h;unfold nH aCx pj2 pj5;simp only[e1,e2,aA];cases c1:mN t p with
 | false=>rfl
 | true=>
  cases c2:aRz t p with
  | false=>rfl
  | true=>
   simp only[bZ5,zY,aA,cCm,zZ];rw[aW (l:=p) (λ_ (x:den tPp)=>if !decide (x.2.1>now)&&aV5 now x.2.2.2 then none else some false) (by omega) (λk x hi hd hw hx hk=>by
    have hx3:=h.2 x hx;simp only[hd,hi,hw,zZ,aA];cases c:decide (x.2.1>now) with
    | true=>rfl
    | false=>
     simp only[zY];rw[aW (l:=x.2.2.2) (λ_ (y:den bG)=>if decide (now<=y.2.2.2.1) then none else some (bZs (bZs false))) (by omega) (λj y hj hd' hw' hy hk'=>by
      have ehv:∀(hp:den bG) (n:Int),sL hp n=some (decide (n<=hp.2.2.2.1)):=λ_ _=>rfl
      simp only[hd',hj,hw',zZ,aA,ehv];cases decide (now<=y.2.2.2.1)<;>rfl) (by simp),pA]
     unfold aV5;cases x.2.2.2.all λy=>decide (now<=y.2.2.2.1)<;>rfl) (by simp),pA]
   cases p.all λx=> !decide (x.2.1>now)&&aV5 now x.2.2.2<;>rfl
noncomputable def aFc(l:List lPp)(p:lPp):Bool:=l.any λx=>aA6 x p
theorem aZu{α:Type}(p:α->Bool):∀(l:List α) (k:Nat),bN (λ_ x=>if p x then some true else none) k l=if l.any p then some true else none
 | [],_=>rfl
 | x::l,k=>by
  rw[List.any_cons];unfold bN
  by_cases h:p x=true
  .rw[zT h,h];rfl
  .rw[zS h];have h':p x=false:=by simpa using h
   rw[h',Bool.false_or];exact aZu p l (k+1)
theorem aXz{p:lPp}(h:jR p):SmB 68719476736 (.sl tPp) p:=(bW (t:=tPt) (aYr h)).mono (by decide)
theorem bUc{l:List lPp}{p:lPp}(hl:l.length<=1000000)(h:∀x∈l,jR x)(hp:jR p):uI l p=some (aFc l p):=by
 unfold uI aFc;rw[aW (l:=l) (λ_ (x:lPp)=>if aA6 x p then some true else none) (by omega) (λk x hi hd hw hx hk=>by
  have e:nQ x p=some (aA6 x p):=bUl (aXz (h x hx)) (aXz hp);simp only[hd,hi,hw,zZ,aA,e];cases aA6 x p<;>rfl) (by simp),aZu (λx=>aA6 x p)]
 cases l.any λx=>aA6 x p<;>rfl
noncomputable def rG(t:den tTo)(now:Int)(l:List lPp)(p:lPp):List lPp:=
 cond (decide ((l.length:Int)<24)) (cond (aCx t p now) (cond (aFc l p) l (l++[p])) l) l
noncomputable def aFy(t:den tTo)(k:den tDb)(a b now:Int):List lPp:=(mU t k a b).foldl (rG t now) []
theorem bKb{t:den tTo}{now:Int}{l:List lPp}{p:lPp}(h:l.length<=24/\ ∀x∈l,jR x)(hp:jR p):(rG t now l p).length<=24/\ ∀x∈rG t now l p,jR x:=by
 unfold rG
 by_cases hc:(l.length:Int)<24
 .rw[zX hc,zZ];cases aCx t p now with
  | false=>exact h
  | true=>
   cases aFc l p with
   | true=>exact h
   | false=>
    refine⟨by simp;omega,λx hx=> ?_⟩;rcases bZ2.1 (show x∈l++[p] from hx) with hx | hx
    .exact h.2 x hx
    .rw[bZz.1 hx];exact hp
 .rw[zW hc];exact h
theorem bJ7{t:den tTo}{now:Int}:∀(m l:List lPp),(∀p∈m,jR p)->l.length<=24->(∀x∈l,jR x)->(m.foldl (rG t now) l).length<=24/\ ∀x∈m.foldl (rG t now) l,jR x
 | [],l,_,h1,h2=>⟨h1,h2⟩
 | p::m,l,h,h1,h2=>by
  obtain⟨a,b⟩:=bKb (t:=t) (now:=now) ⟨h1,h2⟩ (h p (by simp));exact bJ7 m _ (λq hq=>h q (bZ0 _ hq)) a b
theorem aUd{t:den tTo}{now:Int}:∀(m l:List lPp),¬ ((l.length:Int)<24)->m.foldl (rG t now) l=l
 | [],_,_=>rfl
 | p::m,l,h=>by
  have e:rG t now l p=l:=by unfold rG;rw[zW h];rfl
  rw[cB6,e];exact aUd m l h
theorem bBs{t:den tTo}{k:den tDb}(ht:t.1.length<=1000000)(h2:t.2.length<=1000000)(h:DbS k)(a b now:Int):lV t k a b now=some (aFy t k a b now):=by
 have e0:kS (t.1,t.2) (k.1,k.2) a b=some (mU t k a b):=bXt (t:=t) (k:=k) ht h a b;have hB:=bC5 (t:=t) h a b;have hL:=bK0 (t:=t) h a b;unfold lV aFy ixb pj2;rw[e0,aA];have key:∀(G:Int×List lPp->Option ((Int×List lPp)⊕List lPp)),
   (∀(i:Nat) (p:lPp) (l:List lPp),(mU t k a b)[i]? =some p->i<(mU t k a b).length->p∈mU t k a b->l.length<=24->(∀x∈l,jR x)->(l.length:Int)<24->G ((i:Int),l)=some (.inl (((i+1:Nat):Int),rG t now l p)))->
   (∀(i:Nat) (l:List lPp),i<=(mU t k a b).length->(i=(mU t k a b).length\/ ¬ ((l.length:Int)<24))->G ((i:Int),l)=some (.inr l))->
   ∀(rest pre l:List lPp),pre++rest=mU t k a b->l.length<=24->(∀x∈l,jR x)->aC G ((pre.length:Int),l)=some (rest.foldl (rG t now) l):=by
  intro G hs he rest
  induction rest with
  | nil=>intro pre l hp h1 h3;exact aT (he pre.length l (by rw[<- hp];simp) (.inl (by rw[<- hp];simp)))
  | cons p rest ih=>
   intro pre l hp h1 h3;have hlt:pre.length<(mU t k a b).length:=by rw[<- hp];simp
   have hx:(mU t k a b)[pre.length]? =some p:=by rw[<- hp];simp
   by_cases hc:(l.length:Int)<24
   .have hpB:=hB p (bZ9 hx);obtain⟨q1,q2⟩:=bKb (t:=t) (now:=now) ⟨h1,h3⟩ hpB;rw[cT (hs pre.length p l hx hlt (bZ9 hx) h1 h3 hc),cB6];have :=ih (pre++[p]) (rG t now l p) (by simpa using hp) q1 q2;simpa using this
   .rw[aUd _ _ hc];exact aT (he pre.length l (by omega) (.inr hc))
 refine (congrArg (λo=>Option.bind o _) (key _ (λi p l hx hi hp h1 h3 hc=> ?_) (λi l hi hc=> ?_) (mU t k a b) [] [] rfl (by simp) (λx hx=>(cAj hx).elim))).trans ?_
 .have e1:nH (t.1,t.2) p now=some (aCx t p now):=bWy (t:=t) ht h2 (hB p hp) now;have e2:uI l p=some (aFc l p):=bUc (by omega) h3 (hB p hp);have hd:decide ((i:Int)<((mU t k a b).length:Int))=true:=zX (by omega);have hw:wr ((i:Int)+1)=((i+1:Nat):Int):=gR (by omega);unfold rG;simp only[hd,dW,hw,zZ,bZ4,hx,aA,e1,e2,zX hc,aF (b:=24) (n:=l.length) (m:=1) (by decide) (by omega)];cases aCx t p now<;>cases aFc l p<;>rfl
 .rcases hc with rfl | hc
  .simp only[zW (cA5 _),zY,aA]
  .cases decide ((i:Int)<((mU t k a b).length:Int)) with
   | false=>simp only[zY,aA]
   | true=>simp only[zZ,aA,zW hc,zY]
 .rfl
theorem bTs{t:den tTo}{k:den tDb}(h:DbS k)(a b now:Int):aPa 24 (aFy t k a b now):=bJ7 _ _ (bC5 h a b) (by simp) (λx hx=>(cAj hx).elim)
theorem bLe{code:List Int}(hl:code.length<=1048576){n:Nat}(hn:n<=1000){c:List Int}{p h:Int}(hc:Cur code (c,p,h)):∃l c' p' h',tD (c,p,h) (n:Int)=some (l,c',p',h')/\(l.length=n/\ ∀x∈l,0<=x/\x<=255)/\Cur code (c',p',h'):=by
 unfold tD pj3 pj4;refine iW (G:=λo=> ∃l c' p' h',o=some (l,c',p',h')/\(l.length=n/\ ∀x∈l,0<=x/\x<=255)/\Cur code (c',p',h')) n (λs:Int×List Int×List Int×Int×Int=>s.1) (λi s=>(s.2.1.length=i/\ ∀x∈s.2.1,0<=x/\x<=255)/\Cur code s.2.2) (λr:List Int×List Int×Int×Int=>(r.1.length=n/\ ∀x∈r.1,0<=x/\x<=255)/\Cur code r.2) ?_ ?_ 0 ((0:Int),[],c,p,h) (by omega) rfl ⟨⟨rfl,λx hx=>(cAj hx).elim⟩,hc⟩ (λr hr=>⟨r.1,r.2.1,r.2.2.1,r.2.2.2,rfl,hr.1,hr.2⟩)
 .rintro i ⟨_,l,c1,p1,h1⟩ hi rfl ⟨⟨g1,g2⟩,k1⟩
  simp only at g1 g2 k1;obtain⟨v,c2,p2,h2,e2,r2,k2⟩:=aD9 hl k1;obtain⟨m,rfl⟩:=cA0 r2.1;right;refine⟨(((i+1:Nat):Int),l++[(m:Int)],c2,p2,h2),?_,rfl,⟨by simp[g1],λx hx=>(bZ2.1 hx).elim (g2 x) λhx=>by rw[bZz.1 hx];omega⟩,k2⟩;simp only[zX (show (i:Int)<(n:Int) by omega),zZ,e2,aA,aF (b:=1) (n:=l.length) (m:=1) (by decide) (by omega),gR (show i<=1000000000 by omega),aLz (n:=m) (by omega)]
 .rintro⟨_,l,c1,p1,h1⟩ rfl ⟨g,k1⟩
  exact⟨(l,c1,p1,h1),by simp only[zW (cA5 _),zY],g,k1⟩
theorem bVq(a b:Int):wL a b=some (a,b,0,[]):=rfl
def RvD(l:lRv):Prop:=l.length<=16/\ ∀y∈l,dJ y=true
theorem bPa{l:lRv}{x:den tRv}(h:RvD l):RvD (aNy l x):=by
 obtain⟨h1,h2⟩:=h;unfold aNy;cases hv:dJ x with
 | false=>exact⟨h1,h2⟩
 | true=>
  simp only[zZ];cases hs:bN (aBx x l) 0 l with
  | some r=>
   have :=aKt (λr:lRv=> @ite Nat (RvD r) (Classical.propDecidable _) 0 1) 0 (g:=aBx x l) (l:=l) (k:=0) (λj y r' hy hr=>by
    have hp:RvD r':=by
     unfold aBx at hr;cases c1:y.1==x.1 with
     | false=>rw[c1]at hr;cases hr
     | true=>
      cases c2:y.2.1==x.2.1 with
      | false=>rw[c1,c2]at hr;cases hr
      | true=>
       rw[c1,c2]at hr;injection hr with hr;rw[<- hr];have hy':=h2 y (bZ9 hy);refine⟨by simpa using h1,λz hz=> ?_⟩;rcases cC1 hz with hz | rfl
       .exact h2 z hz
       .unfold dJ at hv hy' ⊢;simp only[bZu]at hv hy' ⊢;refine⟨hy'.1,hy'.2.1,?_⟩;split
        .exact hv.2.2
        .exact hy'.2.2
    simp only[zT hp];exact bZ7 _) r hs
   by_cases hp:RvD r
   .exact hp
   .simp only[zS hp]at this;omega
  | none=>
   have hx:∀y∈l++[x],dJ y=true:=λy hy=>(bZ2.1 hy).elim (h2 y) λhy=>by rw[bZz.1 hy];exact hv
   by_cases c:16<l.length+1
   .simp only[c,zV];exact⟨by simp;omega,λy hy=>hx y (cBk hy)⟩
   .simp only[c,zU];exact⟨by simp;omega,hx⟩
theorem aEl(a b c d cu wa:Int)(ms:lMs)(ps:lPt)(rv:lRv):tot tFl (a,b,c,d,ms,ps,cu,wa,rv)=tot (.sl tMs) ms+tot (.sl tPt) ps+rv.length:=by
 show tot ti a+(tot ti b+(tot ti c+(tot ti d+(tot (.sl tMs) ms+(tot (.sl tPt) ps+(tot ti cu+(tot ti wa+tot (.sl tRv) rv)))))))=_;rw[jB (t:=tRv) rfl];show 0+(0+(0+(0+(_+(_+(0+(0+_)))))))=_;omega
theorem bCt(b:List Int):tot (.sl tMs) [b]=1+b.length:=by
 rw[jF];show 1+tot (.sl tb) b+tot (.sl tMs) []=_;rw[jB (t:=tb) rfl];rfl
theorem mE(f:den tFl):hO f=true↔inR f.1 0 7=true/\inR f.2.1 0 7=true/\f.1≠f.2.1/\inR f.2.2.1 0 100000=true/\f.2.2.2.2.1.length<=20/\inR f.2.2.2.1 0 (f.2.2.2.2.1.length:Int)=true/\f.2.2.2.2.2.1.length<=24/\
  (∀m∈f.2.2.2.2.1,m.length<=40)/\(∀x∈f.2.2.2.2.2.2.2.2,dJ x=true)/\(f.2.2.2.2.2.2.1=0\/inR f.2.2.2.2.2.2.1 0 ((f.2.2.2.2.2.1.length:Int) - 1)=true)/\inR f.2.2.2.2.2.2.2.1 0 4=true/\f.2.2.2.2.2.2.2.2.length<=16:=by
 unfold hO;simp only[bZu,cBf,cAx,beq_iff_eq,beq_eq_false_iff_ne,zR,cAi,ne_eq]
theorem aW5{c:Int}{n:Nat}(hn:n<=24)(h:c=0\/inR c 0 ((n:Int) - 1)=true):(if wr (c+1)>=(n:Int) then (0:Int) else wr (c+1))=0\/inR (if wr (c+1)>=(n:Int) then (0:Int) else wr (c+1)) 0 ((n:Int) - 1)=true:=by
 have hc:0<=c/\c<=24:=by
  rcases h with e | e
  .omega
  .have :=aS.1 e;omega
 rw[aY (by omega) (by omega)];split
 .exact .inl rfl
 .right;rw[aS];omega
theorem bTv{w:Int}(h:inR w 0 4=true)(h4: ¬ (w==4)=true):inR (wr (w+1)) 0 4=true:=by
 rw[aS]at h;rw[beq_iff_eq]at h4;rw[aY (by omega) (by omega),aS];omega
theorem aTy{f:den tFl}(h:hO f=true):hO (aI f).1=true:=by
 rw[mE]at h;obtain⟨h1,h2,h3,h4,h5,h6,h7,h8,h9,h10,h11,h12⟩:=h;have key:∀c w:Int,(c=0\/inR c 0 ((f.2.2.2.2.2.1.length:Int) - 1)=true)->inR w 0 4=true->hO (setCW f c w)=true:=λc w hc hw=>by
  rw[mE];exact⟨h1,h2,h3,h4,h5,h6,h7,h8,h9,hc,hw,h12⟩
 unfold aI;split
 .split
  .exact key _ _ h10 rfl
  .split
   .exact key _ _ (aW5 h7 h10) rfl
   .next e4=>exact key _ _ h10 (bTv h11 e4)
 .exact key _ _ h10 rfl
def Byt(l:List Int):Prop:= ∀x∈l,0<=x/\x<=255
theorem bX6(bs:ByteArray):∀(n i:Nat) (r:List UInt8),n+i=bs.size->ByteArray.toList.loop bs i r=r.reverse++bs.data.toList.drop i:=by
 intro n
 induction n with
 | zero=>
  intro i r h;unfold ByteArray.toList.loop;rw[zS (by omega),List.drop_of_length_le (by rw[cC0];show bs.size<=i;omega),cAs]
 | succ n ih=>
  intro i r h;unfold ByteArray.toList.loop;rw[zT (by omega),ih (i+1) _ (by omega)];have hi:i<bs.data.toList.length:=by rw[cC0];show i<bs.size;omega
  rw[cCg hi,cDb,cAg];congr 2;simp[ByteArray.get!];rw[getElem!_pos bs.data i (by rw[<- cC0];exact hi)]
theorem bl(bs:ByteArray):bs.toList=bs.data.toList:=by
 unfold ByteArray.toList;rw[bX6 bs bs.size 0 [] (by omega)];simp
theorem aQr(l:List Int):(yH l).toList=l.map λn=>UInt8.ofNat n.toNat:=by
 rw[bl];rfl
theorem bLx{a b:List Int}(ha:Byt a)(hb:Byt b):((yH a).toList==(yH b).toList)=true↔a=b:=by
 rw[beq_iff_eq,aQr,aQr];constructor
 .intro h;have hl:=congrArg cAc h;simp only[cAr]at hl;refine List.ext_getElem hl λi h1 h2=> ?_
  have h3:(a.map λn=>UInt8.ofNat n.toNat)[i]'(by simpa using h1)=(b.map λn=>UInt8.ofNat n.toNat)[i]'(by simpa using h2):=by simp only[h]
  simp only[List.getElem_map]at h3;have a1:=ha _ (cBd h1);have b1:=hb _ (cBd h2);have h4:=congrArg UInt8.toNat h3;simp only[UInt8.toNat_ofNat']at h4;omega
 .intro h;rw[h]
def aEu(l:cR):Option Int:=l.head?.map λx=>(x.1:Int)
def zH(l:cR):Option Int:=l.getLast?.map λx=>(x.1:Int)
def aE0(p:lPp):Option Int:=p.head?.bind λx=>aEu x.2.2.2
def yN(p:lPp):Option Int:=p.getLast?.bind λx=>zH x.2.2.2
def bYz(a b:Int)(p:den tPt):Prop:=jR p/\aE0 p=some a/\yN p=some b
def aJ3(a b:Int)(n:Nat)(l:lPt):Prop:=l.length<=n/\ ∀p∈l,bYz a b p
theorem aJ3.d{a b:Int}{n:Nat}{l:lPt}(h:aJ3 a b n l):aPa n l:=⟨h.1,λp hp=>(h.2 p hp).1⟩
def aCw(a b:Int)(p:lPp):Prop:=aE0 p=some a/\yN p=some b
theorem bUb{s:den tSg}(h:s.2.2≠[]):zH s.2.2=some (oT s):=by
 have hl:s.2.2.length≠0:=λe=>h (List.length_eq_zero_iff.1 e)
 unfold zH oT;rw[zS hl,List.getLast?_eq_getElem?,bZw (show s.2.2.length - 1<s.2.2.length by omega)];rfl
theorem aWr{s:den tSg}(h:0<=eE s):s.2.2≠[]:=λe=>by
 unfold eE at h;rw[e]at h;exact absurd h (by decide)
theorem aCm{s:den tSg}{k:Int}{i:Nat}{x:den bG}(hk:inR k 1 4=true)(hx:s.2.2[i]? =some x):aEu (iO s k i).2.2.2=some (if gV k then oT s else x.1)/\zH (iO s k i).2.2.2=some (if gV k then (x.1:Int) else oT s):=by
 obtain⟨hi,e⟩:=bZy.1 hx;have hne:s.2.2≠[]:=λe=>by rw[e]at hi;exact absurd hi (cCh _)
 have hl:=bUb hne;have hd:(s.2.2.drop i).head? =some x:=by rw[List.head?_drop];exact hx
 have hg:(s.2.2.drop i).getLast? =s.2.2.getLast? :=by rw[List.getLast?_drop,zS (by omega)]
 unfold iO;rw[show inR (i:Int) 0 ((s.2.2.length:Int) - 1)=true from aS.2 ⟨by omega,by omega⟩,hk];simp only[cCm,zV,bZ4];unfold zH at hl;unfold aEu zH;cases gV k with
 | true=>
  simp only[zV];rw[List.head?_reverse,List.getLast?_reverse,hg,hl,hd];exact⟨rfl,rfl⟩
 | false=>
  simp only[bZ8,zU];rw[hg,hl,hd];exact⟨rfl,rfl⟩
theorem aJ7{s:den tSg}{k:Int}(hk:inR k 1 4=true)(h:s.2.2≠[]):aEu (iO s k 0).2.2.2=some (if gV k then oT s else eE s)/\zH (iO s k 0).2.2.2=some (if gV k then eE s else oT s):=by
 unfold eE;cases hs:s.2.2 with
 | nil=>exact absurd hs h
 | cons x l=>exact aCm (i:=0) hk (by rw[hs];rfl)
theorem bVi{l:cR}{r:Int}(h:0<=fIx l r):∃(i:Nat) (x:den bG),fIx l r=(i:Int)/\l[i]? =some x/\x.1=r:=by
 unfold fIx at h|-;cases hs:bN (λk (x:den bG)=>if x.1==r then some (k:Int) else none) 0 l with
 | none=>rw[hs]at h;exact absurd h (by decide)
 | some v=>
  obtain⟨j,x,hx,hv,hp⟩:=aHw hs;exact⟨j,x,by rw[hv];simp,hx,eq_of_beq hp⟩
theorem bIl{l:cR}{r:Int}:∀{n:Nat},n<=l.length->0<=lIx l r n-> ∃(j:Nat) (y:den bG),lIx l r n=(j:Int)/\l[j]? =some y
 | 0,_,h=>absurd h (by show ¬ (0:Int)<= -1;decide)
 | n+1,hn,h=>by
  unfold lIx at h|-;split
  .exact⟨n,l[n]'(by omega),rfl,bZw (by omega)⟩
  .rename_i c;rw[zS c]at h;exact bIl (by omega) h
theorem aYg{x:den tPp}{a b:Int}(h1:aEu x.2.2.2=some a)(h2:zH x.2.2.2=some b):aCw a b [x]:=⟨h1,h2⟩
theorem aP1{up down:den tSg}(hd:down.2.2≠[]):∀n:Nat,n<=up.2.2.length->0<(aAv up down n).length->aCw (oT up) (oT down) (aAv up down n)
 | 0,_,h=>absurd h (Nat.lt_irrefl 0)
 | n+1,hn,h=>by
  unfold aAv at h|-;split
  .rename_i c;have hx:up.2.2[n]? =some (up.2.2[n]'(by omega)):=bZw (by omega);obtain⟨j,y,hj,hy⟩:=bIl (bZ7 _) c;rw[hj];exact⟨(aCm (k:=1) rfl hx).1,(aCm (k:=4) rfl hy).2⟩
  .rename_i c;rw[zS c]at h;exact aP1 hd n (by omega) h
theorem aRq{up core down:den tSg}{b:Bool}(hc:core.2.2≠[]){x y:Int}(hx:(up.2.2=[]/\x=cond b (oT core) (eE core))\/(up.2.2≠[]/\x=oT up))(hy:(down.2.2=[]/\y=cond b (eE core) (oT core))\/(down.2.2≠[]/\y=oT down)):aCw x y (qW up core b down):=by
 have pos:∀{s:den tSg},s.2.2≠[]->decide ((s.2.2.length:Int)>0)=true:=λ{s} h=>zX (by have :=List.length_pos_iff.2 h;omega)
 have zero:∀{s:den tSg},s.2.2=[]->decide ((s.2.2.length:Int)>0)=false:=λ{s} h=>by rw[h];rfl
 have hr:gV (cond b 3 2)=b:=by cases b<;>rfl
 obtain⟨c1,c2⟩:=aJ7 (s:=core) (k:=cond b 3 2) (by cases b<;>rfl) hc;rw[hr]at c1 c2;unfold qW iF;rw[pos hc];simp only[zZ,cAl];unfold aCw aE0 yN;rcases hx with ⟨h1,rfl⟩ | ⟨h1,rfl⟩<;>rcases hy with ⟨h2,rfl⟩ | ⟨h2,rfl⟩
 .rw[zero h1,zero h2];cases b<;>exact⟨c1,c2⟩
 .rw[zero h1,pos h2];cases b<;>exact⟨c1,(aJ7 (k:=4) rfl h2).2⟩
 .rw[pos h1,zero h2];cases b<;>exact⟨(aJ7 (k:=1) rfl h1).1,c2⟩
 .rw[pos h1,pos h2];exact⟨(aJ7 (k:=1) rfl h1).1,(aJ7 (k:=4) rfl h2).2⟩
theorem aB1{c:lSg}{up down:den tSg}{a b x y:Int}(ha:0<=a)(hb:0<=b)(hx:(up.2.2=[]/\x=a)\/(up.2.2≠[]/\x=oT up))(hy:(down.2.2=[]/\y=b)\/(down.2.2≠[]/\y=oT down)):∀p∈cA c up a b down,aCw x y p:=by
 intro p hp;unfold cA at hp;rcases bZ2.1 hp with hp | hp<;>obtain⟨s,hs,hp⟩:=cAm.1 hp<;>rw[bZz.1 hp]<;>have h:=(cAa.1 hs).2<;>rw[bZu,beq_iff_eq,beq_iff_eq]at h
 .exact aRq (aWr (by rw[h.1];exact ha)) (hx.imp (λz=>⟨z.1,z.2.trans h.1.symm⟩) id) (hy.imp (λz=>⟨z.1,z.2.trans h.2.symm⟩) id)
 .exact aRq (aWr (by rw[h.1];exact hb)) (hx.imp (λz=>⟨z.1,z.2.trans h.2.symm⟩) id) (hy.imp (λz=>⟨z.1,z.2.trans h.1.symm⟩) id)
theorem bEy{t:den tTo}{n:Nat}{k:den tDb}(h:DbD n k.1 k.2){a b:Int}(ha:0<=a)(hb:0<=b):∀p∈mU t k a b,aCw a b p:=by
 have dn:∀{r:Int} {s:den tSg},s∈bZ k.1 r->oT s=r/\s.2.2≠[]/\0<=eE s:=λ{r s} hs=>by
  obtain⟨h1,h2⟩:=cAa.1 hs;obtain⟨h3,h4⟩:=h.ha s h1;refine⟨eq_of_beq h2,h3,?_⟩;unfold eE;cases hh:s.2.2 with
  | nil=>exact absurd hh h3
  | cons x l=>exact (h4 x (by rw[hh];exact bZ6 ..)).1
 intro p hp;unfold mU at hp;cases hc:(a==b||(!cH t a|| !cH t b)) with
 | true=>rw[hc]at hp;cases hp
 | false=>
 rw[hc]at hp;simp only[zY,bZ2]at hp;have one:∀{kind r:Int} {s:den tSg},p∈oX kind r s-> ∃(i:Nat) (x:den bG),p=[iO s kind (i:Int)]/\s.2.2[i]? =some x/\x.1=r:=λ{kind r s} hp=>by
  unfold oX at hp;cases hq:decide (fIx s.2.2 r>=0) with
  | false=>rw[hq]at hp;cases hp
  | true=>
   rw[hq]at hp;obtain⟨i,x,e,hx,hr⟩:=bVi (of_decide_eq_true hq);exact⟨i,x,by rw[bZz.1 hp,e],hx,hr⟩
 rcases hp with (((((hp | hp) | hp) | hp) | hp) | hp) | hp
 .obtain⟨s,hs,hp⟩:=cAm.1 hp;obtain⟨i,x,rfl,hx,rfl⟩:=one hp;obtain⟨e1,e2⟩:=aCm (k:=1) rfl hx;exact aYg (e1.trans (congrArg some (dn hs).1)) e2
 .obtain⟨s,hs,hp⟩:=cAm.1 hp;obtain⟨i,x,rfl,hx,rfl⟩:=one hp;obtain⟨e1,e2⟩:=aCm (k:=4) rfl hx;exact aYg e1 (e2.trans (congrArg some (dn hs).1))
 .exact aB1 ha hb (.inl ⟨rfl,rfl⟩) (.inl ⟨rfl,rfl⟩) p hp
 .obtain⟨u,hu,hp⟩:=cAm.1 hp;obtain⟨d,hd,hp⟩:=cAm.1 hp;unfold uB at hp;cases hq:decide (((yX u d).length:Int)>0) with
  | false=>rw[hq]at hp;cases hp
  | true=>
   rw[hq]at hp;rw[bZz.1 hp];have :=aP1 (up:=u) (dn hd).2.1 u.2.2.length (bZ7 _) (by have :=of_decide_eq_true hq;unfold yX at this;omega);rw[(dn hu).1,(dn hd).1]at this;exact this
 .cases hq:kV t a with
  | false=>rw[hq]at hp;cases hp
  | true=>
   rw[hq]at hp;obtain⟨d,hd,hp⟩:=cAm.1 hp;exact aB1 ha (dn hd).2.2 (.inl ⟨rfl,rfl⟩) (.inr ⟨(dn hd).2.1,(dn hd).1.symm⟩) p hp
 .cases hq:kV t b with
  | false=>rw[hq]at hp;cases hp
  | true=>
   rw[hq]at hp;obtain⟨u,hu,hp⟩:=cAm.1 hp;exact aB1 (dn hu).2.2 hb (.inr ⟨(dn hu).2.1,(dn hu).1.symm⟩) (.inl ⟨rfl,rfl⟩) p hp
 .obtain⟨u,hu,hp⟩:=cAm.1 hp;obtain⟨d,hd,hp⟩:=cAm.1 hp;exact aB1 (dn hu).2.2 (dn hd).2.2 (.inr ⟨(dn hu).2.1,(dn hu).1.symm⟩) (.inr ⟨(dn hd).2.1,(dn hd).1.symm⟩) p hp
theorem bN9{t:den tTo}{now:Int}{l:List lPp}{q p:lPp}(h:p∈rG t now l q):p∈l\/p=q:=by
 unfold rG at h;cases c1:decide ((l.length:Int)<24) with
 | false=>rw[c1]at h;exact .inl h
 | true=>
  cases c2:aCx t q now with
  | false=>rw[c1,c2]at h;exact .inl h
  | true=>
   cases c3:aFc l q with
   | true=>rw[c1,c2,c3]at h;exact .inl h
   | false=>
    rw[c1,c2,c3]at h;exact (bZ2.1 (show p∈l++[q] from h)).imp id bZz.1
theorem aZx{t:den tTo}{now:Int}:∀(m l:List lPp),∀p∈m.foldl (rG t now) l,p∈l\/p∈m
 | [],l,p,h=> .inl h
 | q::m,l,p,h=>by
  rcases aZx m (rG t now l q) p h with h | h
  .exact (bN9 h).imp id λe=>by rw[e];exact bZ6 ..
  .exact .inr (bZ0 _ h)
theorem bTg{t:den tTo}{n:Nat}{k:den tDb}(h:DbD n k.1 k.2)(hn:n<=30){a b:Int}(ha:0<=a)(hb:0<=b)(now:Int):aJ3 a b 24 (aFy t k a b now):=by
 obtain⟨h1,h2⟩:=bTs (t:=t) (h.s hn) a b now;refine⟨h1,λp hp=>⟨h2 p hp,?_⟩⟩;rcases aZx _ _ p hp with hp | hp
 .cases hp
 .exact bEy h ha hb p hp
theorem bYk{as:lAS}{ls:lLk}(ht:aHn as ls){d cc:lSg}(hk:DbD 13 d cc){a b:Int}(ha:0<=a)(hb:0<=b)(now:Int):∃l,lV (as,ls) (d,cc) a b now=some l/\aJ3 a b 24 l:=
 ⟨_,bBs (t:=(as,ls)) (k:=(d,cc)) (by have :=ht.len;show as.length<=_;omega) (by have :=ht.links;show ls.length<=_;omega) (hk.s (by decide)) a b now,bTg (k:=(d,cc)) hk (by decide) ha hb now⟩
def aLn(l:cR):Prop:= ∀(j:Nat) (y:den bG),l[j]? =some y->y.2.2.2.1=(5000:Int)
theorem bJt{as:lAS}{ls:lLk}{s:den tSg}(h5:s.2.2.length<=5)(hi:InN (as.length:Int) s.2.2):∃hs,tH (as,ls) s=some (s.1,s.2.1,hs)/\hs.length<=5/\InN (as.length:Int) hs/\aLn hs:=by
 unfold tH ixb pj3 pj5 zz4;rw[show ((s.1,s.2.1,s.2.2):den tSg)=s from rfl,aG5 (by omega),aA];refine iW (G:=λo=> ∃hs,o=some (s.1,s.2.1,hs)/\hs.length<=5/\InN (as.length:Int) hs/\aLn hs) s.2.2.length (λz:Int×cR=>z.1) (λi z=>z.2.length=s.2.2.length/\InN (as.length:Int) z.2/\ ∀(j:Nat) (y:den bG),j<i->z.2[j]? =some y->y.2.2.2.1=(5000:Int)) (λr:cR=>r.length=s.2.2.length/\InN (as.length:Int) r/\aLn r) ?_ ?_ 0 ((0:Int),s.2.2) (by omega) rfl ⟨rfl,hi,λj y hj=>absurd hj (cCh j)⟩ ?_
 .rintro i ⟨_,l⟩ hlt rfl ⟨g1,g2,g3⟩
  simp only at g1 g2 g3;right;have hil:i<l.length:=by omega
  have hx:l[i]? =some l[i]:=bZw hil;obtain⟨q0,q1⟩:=g2 l[i] (cBd hil);obtain⟨m,hm⟩:=cA0 q0;have hml:m<as.length:=by omega
  obtain⟨bt,et⟩:=aNi (s:=(s.1,s.2.1,l)) (i:Int) (by show l.length<=_;omega);have ex:idx as l[i].1=some as[m]:=by rw[hm,aP];exact bZw hml
  simp only[zX (show (i:Int)<(l.length:Int) by omega),zX (show (0:Int)<=(i:Int) by omega),zZ,bZ4,hx,aA,ex,et,bAp,zX hil];refine⟨_,rfl,gR (show i<=1000000000 by omega),by simp[g1],λy hy=> ?_,λj y hj hy=> ?_⟩
  .rcases cC1 hy with hy | rfl
   .exact g2 y hy
   .exact⟨q0,q1⟩
  .simp only[cBx]at hy;split at hy
   .injection hy with hy;rw[<- hy]
   .exact g3 j y (by omega) hy
 .rintro⟨_,l⟩ rfl ⟨g1,g2,g3⟩
  simp only at g1 g2 g3;refine⟨l,by simp only[g1,zW (cA5 _),zY],g1,g2,λj y hy=>g3 j y ?_ hy⟩;have :=(bZy.1 hy).1;omega
 .rintro l ⟨g1,g2,g3⟩
  exact⟨l,rfl,by omega,g2,g3⟩
theorem bFt{p:den tPt}(h:jR p):∃l,oB p=some l/\l.length<=18:=by
 have ht:=aHt h;have hs:=aCs p;unfold oB ixb pj3;rw[aMg (by omega),aA];refine iW (G:=λo=> ∃l,o=some l/\l.length<=18) (fT p).length (λz:Int×bM=>z.1) (λi z=>z.2.length<=i) (λr:bM=>r.length<=18) ?_ ?_ 0 ((0:Int),[]) (by omega) rfl (by simp) (λl hl=>⟨l,rfl,hl⟩)
 .rintro i ⟨_,l⟩ hlt rfl g1
  simp only at g1;right;simp only[zX (show (i:Int)<((fT p).length:Int) by omega),zX (show (0:Int)<=(i:Int) by omega),zZ,bZ4,bZw hlt,aA,aF (b:=24) (n:=l.length) (m:=1) (by decide) (by omega),gR (show i<=1000000000 by omega)];cases ((fT p)[i].2.2 != (0:Int)) with
  | true=>exact⟨_,rfl,rfl,by simp;omega⟩
  | false=>exact⟨_,rfl,rfl,by show l.length<=i+1;omega⟩
 .rintro⟨_,l⟩ rfl g1
  exact⟨l,by simp only[zW (cA5 _),zY],by simp only at g1;omega⟩
theorem bOz{l:lRs}{x y:den tRs}{cap now:Int}(h:y∈admR l x cap now):y∈l\/y=x:=by
 unfold admR at h;split at h
 .exact .inl h
 .rcases bZ2.1 h with h | h
  .exact .inl (cAa.1 h).1
  .exact .inr (bZz.1 h)
def aZv(l:lRs)(id r:Int)(m:lRs):Prop:= ∀y∈m,y∈l\/(y.1=id/\y.2.2.2.1=r)
theorem aYx{l:lRs}{cap now:Int}(hl:sJ l cap now){p:den tPt}(hp:jR p)(id r till:Int):∃b m,dA l id p r till cap now=some (b,m)/\sJ m cap now/\aZv l id r m:=by
 obtain⟨d,ed,hd⟩:=bFt hp;have hn:=hl.len;unfold dA ixb;rw[aF (b:=40) (n:=([]:lRs).length) (m:=l.length) (by decide) (by simp;omega),zZ,ed,aA];refine iW (G:=λo=> ∃b m,o=some (b,m)/\sJ m cap now/\aZv l id r m) d.length (λz:Int×lRs=>z.1) (λi z=>sJ z.2 cap now/\aZv l id r z.2) (λx:lRs⊕(Bool×lRs)=>match x with | .inl m=>sJ m cap now/\aZv l id r m | .inr m=>sJ m.2 cap now/\aZv l id r m.2) ?_ ?_ 0 ((0:Int),[]++l) (by omega) rfl ⟨hl,λy hy=> .inl hy⟩ ?_
 .rintro i ⟨_,m⟩ hlt rfl ⟨g1,g2⟩
  simp only at g1 g2;have hm:=g1.len;obtain⟨b,eb⟩:=bUp (l:=m) (x:=(id,d[i].1,d[i].2.2,r,till)) (cap:=cap) (now:=now) (by omega);simp only[zX (show (i:Int)<(d.length:Int) by omega),zX (show (0:Int)<=(i:Int) by omega),zZ,bZ4,bZw hlt,aA,eb,gR (show i<=1000000000 by omega)];cases b with
  | true=>exact .inr ⟨_,rfl,rfl,g1.admR _,λy hy=>(bOz hy).elim (g2 y) λe=> .inr (by rw[e];exact⟨rfl,rfl⟩)⟩
  | false=>exact .inl ⟨_,rfl,hl,λy hy=> .inl hy⟩
 .rintro⟨_,m⟩ rfl ⟨g1,g2⟩
  exact⟨.inl m,by simp only[zW (cA5 _),zY],g1,g2⟩
 .rintro (m | ⟨b,m⟩) ⟨hm,h2⟩
  .exact⟨_,m,rfl,hm,h2⟩
  .exact⟨b,m,rfl,hm,h2⟩
def aKk(w:den tNw)(f:den tFl):Bool:= !hO f|| !cH (nT w) f.1|| !cH (nT w) f.2.1||(f.2.2.2.1 != 0)||decide (((aB w).length:Int)>=4)||decide (dD (aQ w) f.2.1 f.1>=0)
def bRr(f:den tFl)(l:lPt)(now:Int):den tFl:=(f.1,f.2.1,f.2.2.1,f.2.2.2.1,f.2.2.2.2.1,aLx f l now,0,0,f.2.2.2.2.2.2.2.2)
def bVs(w:den tNw)(f:den tFl)(l:lPt):den tNw:=(nT w,nK w,nG w,aG w,aH w,aE w,aB w++[bRr f l (aG w)],aQ w++[(f.2.1,f.1,0,[])],dX w)
def aXp(w:den tNw)(b:Bool):q17:=
 ((nG w).1,aG w,dX w,b,(nT w).1,(nT w).2,(nK w).1,(nK w).2,(nG w).2.1,(nG w).2.2,aH w,aE w,aB w,aQ w)
theorem bOk{w:den tNw}{f:den tFl}{l:lPt}(hw:tot tNw w<=1073741824)(hf:tot tFl f<=1073741824)(hl:tot (.sl tPt) l<=1073741824)(el:lV (nT w) (nK w) f.1 f.2.1 (aG w)=some l):
  vJ w f=some (aXp (if aKk w f then w else bVs w f l) (!aKk w f)):=by
 have sw:SmB 68719476736 tNw w:=(bW hw).mono (by decide);have sf:SmB 68719476736 tFl f:=(bW hf).mono (by decide);have n1:w.1.1.length<=68719476736:=sw.1.1.1;have n2:w.2.2.2.2.2.2.2.1.length<=1073741824:=(bW hw).2.2.2.2.2.2.2.1.1;have n3:w.2.2.2.2.2.2.1.length<=1073741824:=(bW hw).2.2.2.2.2.2.1.1;have el:lV w.1 w.2.1 f.1 f.2.1 w.2.2.2.1=some l:=el;have a1:aJ 120 w.2.2.2.2.2.2.1.length 1=true:=aF (by decide) (by omega);have a2:aJ 48 w.2.2.2.2.2.2.2.1.length 1=true:=aF (by decide) (by omega);unfold vJ aKk bF pj2 pj4 pj9 kW bO bV cJ zz4 zz5 zz6 zz7 zz8 zz9;simp only[aZ,bSk sw,aZj sf,aEs n1,bSe (show w.2.2.2.2.2.2.2.1.length<=68719476736 by omega),el,bWj hf hl,bVq,aA,aIw,a1,a2,zZ];cases hO f
 .rfl
 cases cH w.1 f.1
 .rfl
 cases cH w.1 f.2.1
 .rfl
 cases f.2.2.2.1 != 0 with
 | true=>rfl
 | false=>cases decide ((w.2.2.2.2.2.2.1.length:Int)>=4) with
  | true=>rfl
  | false=>cases decide (dD w.2.2.2.2.2.2.2.1 f.2.1 f.1>=0)<;>rfl
theorem bN4{x y:den tPt}{l:lPt}(h:y∈aJd x l):y=x\/y∈l:=by
 unfold aJd at h;simp only[bZ2,bZz]at h;rcases h with (h | h) | h
 .exact .inr (cBg h)
 .exact .inl h
 .exact .inr (cBk h)
theorem bIb{y:den tPt}{l:lPt}(h:y∈aE9 l):y∈l:=by
 have :∀(l:lPt) (k:Nat) (a:lPt),y∈bI (λ_ x a=>aJd x a) k l a->y∈l\/y∈a:=by
  intro l
  induction l with
  | nil=>exact λk a h=> .inr h
  | cons x l ih=>
   intro k a h;rcases ih (k+1) (aJd x a) h with h | h
   .exact .inl (bZ0 _ h)
   .rcases bN4 h with rfl | h
    .exact .inl (by simp)
    .exact .inr h
 rcases this l 0 [] h with h | h
 .exact h
 .exact (cAj h).elim
theorem aF1{f:den tFl}{y:den tPt}{l:lPt}{now:Int}(h:y∈aLx f l now):y∈l:=by
 unfold aLx aHc at h;have h:=cBg h;simp only[bZ2,cAa]at h;rcases h with h | h<;>exact bIb h.1
structure FlD (t:den tTo) (f:den tFl):Prop where
 val:hO f=true
 src:cH t f.1=true
 dst:cH t f.2.1=true
 ack:f.2.2.2.1=(0:Int)
 cur:f.2.2.2.2.2.2.1=(0:Int)
 wait:f.2.2.2.2.2.2.2.1=(0:Int)
 rev:f.2.2.2.2.2.2.2.2=[]
 paths:aPa 4 f.2.2.2.2.2.1
 msgs:tot (.sl tMs) f.2.2.2.2.1<=12
 bytes:∀m∈f.2.2.2.2.1,uH m
 ends:∀p∈f.2.2.2.2.2.1,aE0 p=some f.1/\yN p=some f.2.1
def bY2(t:den tTo)(x:den tSg):Prop:=aLn x.2.2/\bHa t x 2
def bZk(t:den tTo)(x:den tSg):Prop:=aLn x.2.2/\ ∃k,bHa t x k/\k≠2
def aVz(t:den tTo)(d c:lSg):Prop:=(∀x∈d,bY2 t x)/\ ∀x∈c,bZk t x
structure qX (n:Nat) (w:den tNw):Prop where
 top:aHn (nT w).1 (nT w).2
 db:DbD 11 (nK w).1 (nK w).2
 gate:nG w=(12,(nG w).2.1,[])
 res:sJ (nG w).2.1 12 60
 now:aG w=60
 dead:aH w=[]
 fly:aE w=[]
 drop:dX w=0
 len:(aB w).length<=n
 flows:∀f∈aB w,FlD (nT w) f
 box:aQ w=(aB w).map λf=>((f.2.1,f.1,0,[]):den tIb)
 uniq:(aB w).Pairwise λf g=>sF g f=false
 low:∀x∈(nG w).2.1,(3:Int)>=x.1/\(2:Int)>=x.2.2.2.1
 segs:aVz (nT w) (nK w).1 (nK w).2
 find:∀f∈aB w,∀p∈f.2.2.2.2.2.1,p∈aFy (nT w) (nK w) f.1 f.2.1 60
theorem FlD.tot{t:den tTo}{f:den tFl}(h:FlD t f):tot tFl f<=100:=by
 obtain⟨a,b,c,d,ms,ps,cu,wa,rv⟩:=f;rw[aEl];have h1:=h.msgs;have h2:=aVc h.paths;have h3:rv=[]:=h.rev;rw[h3];simp only at h1 h2;simp only[cBm];omega
theorem bC2{s:den tSg}(h:s.2.2.length<=5):tot tSg s<=5:=by
 have e:tot tSg s=s.2.2.length:=by
  show 0+(0+tot (.sl bG) s.2.2)=_;rw[jB rfl];omega
 omega
theorem qX.tot{n:Nat}{w:den tNw}(hn:n<=4)(h:qX n w):Go.V.tot tNw w<=1000:=by
 rw[fY];have h1:=h.top.len;have h2:=h.top.links;have h3:=zF (t:=tSg) (B:=5) (l:=(nK w).1) λx hx=>bC2 (h.db.hd x hx)
 have h4:=zF (t:=tSg) (B:=5) (l:=(nK w).2) λx hx=>bC2 (h.db.hc x hx)
 have h5:=zF (t:=tFl) (B:=100) (l:=aB w) λf hf=>(h.flows f hf).tot
 have h6:=h.db.down;have h7:=h.db.core;have h8:=h.len;have h9:=h.res.len;have h10:(nG w).2.2=[]:=by rw[h.gate]
 have h11:Go.V.tot (.sl tIb) (aQ w)<=(0+1) * (aQ w).length:=zF (t:=tIb) λx hx=>by
  rw[h.box]at hx;obtain⟨f,_,rfl⟩:=bZ1.1 hx;exact bZ7 _
 have h12:(aQ w).length=(aB w).length:=by rw[h.box,cAr]
 rw[h.dead,h.fly,h10,aAn,aAn,aAn,jB (t:=tAS) rfl,jB (t:=tLk) rfl,jB (t:=tRs) rfl];omega
theorem qX.mono{n m:Nat}{w:den tNw}(h:qX n w)(hm:n<=m):qX m w:=⟨h.top,h.db,h.gate,h.res,h.now,h.dead,h.fly,h.drop,bZv h.len hm,h.flows,h.box,h.uniq,h.low,h.segs,h.find⟩
def bWm(w:den tNw)(c:List Int)(p h:Int):q22:=
 ((nG w).1,aG w,dX w,(nT w).1,(nT w).2,(nK w).1,(nK w).2,(nG w).2.1,(nG w).2.2,aH w,aE w,aB w,aQ w,c,p,h)
abbrev NwS:=Int×lSg×lSg×Int×Int×Int×lRs×lAS×lLk×lSg×lSg×lUs×lI×lFy×lFl×lIb×lI×Int×Int
abbrev NwR:=Int×Int×Int×lRs×lAS×lLk×lSg×lSg×lUs×lI×lFy×lFl×lIb×lI×Int×Int
def NwI(code:List Int)(n:Nat)(s:NwS):Prop:= ∃as ls d cc res flows box c p h,s=((n:Int),d,cc,12,60,0,res,as,ls,d,cc,[],[],[],flows,box,c,p,h)/\n<=3/\qX (3 - n) ((as,ls),(d,cc),(12,res,[]),60,[],[],flows,box,0)/\Cur code (c,p,h)
def NwQ(code:List Int)(r:NwR):Prop:= ∃as ls d cc res flows box c p h,r=(12,60,0,res,as,ls,d,cc,[],[],[],flows,box,c,p,h)/\qX 3 ((as,ls),(d,cc),(12,res,[]),60,[],[],flows,box,0)/\Cur code (c,p,h)
theorem bP3{t:den tTo}{f:den tFl}{l:lPt}{now:Int}{n:Nat}(hn:n<=4)(hv:hO f=true)(hs:cH t f.1=true)(hd:cH t f.2.1=true)(hk:f.2.2.2.1=(0:Int))(hr:f.2.2.2.2.2.2.2.2=[])(hm:tot (.sl tMs) f.2.2.2.2.1<=12)(hb:∀m∈f.2.2.2.2.1,uH m)(hl:aJ3 f.1 f.2.1 24 l):
  FlD t (f.1,f.2.1,f.2.2.1,f.2.2.2.1,f.2.2.2.2.1,(aLx f l now).take n,0,0,f.2.2.2.2.2.2.2.2) where
 val:=by
  rw[mE]at hv ⊢;obtain⟨q1,q2,q3,q4,q5,q6,q7,q8,q9,q10,q11,q12⟩:=hv;exact⟨q1,q2,q3,q4,q5,q6,by simp only[cA8];omega,q8,q9,.inl rfl,rfl,q12⟩
 src:=hs
 dst:=hd
 ack:=hk
 cur:=rfl
 wait:=rfl
 rev:=hr
 paths:=⟨by simp only[cA8];omega,λp hp=>(hl.2 p (aF1 (cBg hp))).1⟩
 msgs:=hm
 bytes:=hb
 ends:=λp hp=>(hl.2 p (aF1 (cBg hp))).2
theorem bEm{l:lIb}{a b:Int}(h:decide (dD l a b>=0)=false):∀x∈l,oO a b x=false:=by
 have h:=of_decide_eq_false h;unfold dD at h;cases e:l.findIdx? (oO a b) with
 | none=>exact λx hx=>by simpa using List.findIdx?_eq_none_iff.1 e x hx
 | some i=>rw[e]at h;exact absurd (show (0:Int)<=((0+i:Nat):Int) by omega) h
def bOu(code:List Int)(o:Option q22):Prop:= ∃w c' p' h',o=some (bWm w c' p' h')/\qX 3 w/\Cur code (c',p',h')
theorem bSh{code:List Int}(hl:code.length<=1048576){c:List Int}{p h:Int}(hc:Cur code (c,p,h)):bOu code (xN (c,p,h)):=by
 obtain⟨as,ls,c1,p1,h1,e1,ht,k1⟩:=bTk hl hc;obtain⟨v2,c2,p2,h2,e2,r2,k2⟩:=dS hl (n:=7) (by decide) (by decide) k1;obtain⟨m2,rfl⟩:=cA0 r2.1;have w2:wr ((5:Int)+(m2:Int))=((m2+5:Nat):Int):=by rw[aY (by omega) (by omega)];omega
 unfold xN dd ixb one aSv bV4 pj3 pj4 pj5 pj7 pj8 bO bV cJ iH xO aGo aGe zz4 zz5 zz6 zz7 zz8 zz9;simp only[bU,dH,cL,cK,cS,e1,e2,aA,w2];refine aAg (G:=bOu code) (λ(n:Nat) (s:Int×q29)=> ∃d cc c p h,s=((n:Int),as,ls,d,cc,c,p,h)/\n<=11/\DbD (11 - n) d cc/\aVz (as,ls) d cc/\Cur code (c,p,h)) (λr:lAS×lLk×lSg×lSg×lI×Int×Int=> ∃d cc c p h,r=(as,ls,d,cc,c,p,h)/\DbD 11 d cc/\aVz (as,ls) d cc/\Cur code (c,p,h)) ?_ (m2+5) (((m2+5:Nat):Int),as,ls,[],[],c2,p2,h2) ⟨[],[],c2,p2,h2,rfl,by omega,⟨by simp,by simp,λx hx=>(cAj hx).elim,λx hx=>(cAj hx).elim,λx hx=>(cAj hx).elim⟩,⟨λx hx=>(cAj hx).elim,λx hx=>(cAj hx).elim⟩,k2⟩ ?_
 .rintro n s ⟨d,cc,c3,p3,h3,rfl,hn,hk,hseg,k3⟩
  cases n with
  | zero=>exact .inl ⟨_,rfl,d,cc,c3,p3,h3,rfl,hk,hseg,k3⟩
  | succ n=>
   right;obtain⟨v4,c4,p4,h4,e4,k4⟩:=aBh hl (n:=3) (by decide) (by decide) k3;have wn:wr (((n+1:Nat):Int) - 1)=(n:Int):=by rw[aY (by omega) (by omega)];omega
   have step:∀kind:Int,∃d' cc' c' p' h',(Option.bind (wF (c4,p4,h4) (as,ls) kind) λy58=>Option.bind (tH (as,ls) (y58.1,y58.2.1,y58.2.2.1)) λy59=>Option.bind (nI (as,ls) (d,cc) y59) λy60=>some (y60.1,y60.2,y58.2.2.2.1,y58.2.2.2.2.1,y58.2.2.2.2.2))=some (d',cc',c',p',h')/\DbD (11 - n) d' cc'/\aVz (as,ls) d' cc'/\Cur code (c',p',h'):=by
    intro kind;obtain⟨a5,b5,hs5,c5,p5,h5,e5,⟨l5,i5⟩,k5⟩:=bTj hl ht kind k4;obtain⟨hs6,e6,l6,i6,j6⟩:=bJt (as:=as) (ls:=ls) (s:=(a5,b5,hs5)) l5 i5;obtain⟨d7,cc7,e7,q7,m7,n7⟩:=bKd ht (n:=11 - (n+1)) (by omega) hk (s:=(a5,b5,hs6)) l6 (i6.as (by have :=ht.len;omega));refine⟨d7,cc7,c5,p5,h5,?_,q7.mono (by omega),⟨λx hx=>(m7 x hx).elim (hseg.1 x) λe=>by rw[e.1];exact⟨j6,e.2⟩,λx hx=>(n7 x hx).elim (hseg.2 x) λe=>by rw[e.1];exact⟨j6,e.2⟩⟩,k5⟩;simp only[e5,e6,e7,aA]
   simp only[zX (show ((n+1:Nat):Int)>0 by omega),zZ,e4,aA];cases v4 with
   | true=>
    obtain⟨d',cc',c',p',h',e,q,sg,k⟩:=step 1;refine⟨n,_,by omega,?_,d',cc',c',p',h',rfl,by omega,q,sg,k⟩;simp only[zZ,aA,e,wn]
   | false=>
    obtain⟨d',cc',c',p',h',e,q,sg,k⟩:=step 2;refine⟨n,_,by omega,?_,d',cc',c',p',h',rfl,by omega,q,sg,k⟩;simp only[zY,aA,e,wn]
 rintro r ⟨d,cc,c3,p3,h3,rfl,hk,hseg,k3⟩
 obtain⟨v4,c4,p4,h4,e4,r4,k4⟩:=dS hl (n:=3) (by decide) (by decide) k3;obtain⟨m4,rfl⟩:=cA0 r4.1;have w4:wr ((1:Int)+(m4:Int))=((m4+1:Nat):Int):=by rw[aY (by omega) (by omega)];omega
 have hA:=ht.len;have hL:=ht.links;have smT:SmB 68719476736 tTo (as,ls):=⟨⟨by show as.length<=_;omega,λ_ _=>⟨trivial,trivial,trivial⟩⟩,by show ls.length<=_;omega,λ_ _=>⟨trivial,trivial,trivial,trivial,trivial⟩⟩
 have smK:SmB 68719476736 tDb (d,cc):=⟨aLh (by omega) hk.down hk.hd,aLh (by omega) hk.core hk.hc⟩
 have hok:aWn (as,ls) 60=true:=by unfold aWn;rw[ht.top];rfl
 have e5:=bXm (t:=(as,ls)) (k:=(d,cc)) (c:=12) (now:=60) smT smK;rw[hok,zZ]at e5;simp only[e5,e4,w4,aA];have cap12:cond (inR 12 1 20) (12:Int) 1=12:=rfl;simp only[cap12];refine aAg (G:=bOu code) (NwI code) (NwQ code) ?_ (m4+1) (((m4+1:Nat):Int),d,cc,12,60,0,[],as,ls,d,cc,[],[],[],[],[],c4,p4,h4) ⟨as,ls,d,cc,[],[],[],c4,p4,h4,rfl,by omega,⟨ht,hk,rfl,⟨by simp,λx hx=>(cAj hx).elim,λx hx=>(cAj hx).elim,List.Pairwise.nil⟩,rfl,rfl,rfl,rfl,cAe _,λx hx=>(cAj hx).elim,rfl,List.Pairwise.nil,λx hx=>(cAj hx).elim,hseg,λx hx=>(cAj hx).elim⟩,k4⟩ ?_
 rotate_left
 .rintro r ⟨as,ls,d,cc,res,flows,box,c5,p5,h5,rfl,hd,k5⟩
  exact⟨_,c5,p5,h5,rfl,hd,k5⟩
 .rintro n s ⟨as,ls,d,cc,res,flows,box,c5,p5,h5,rfl,hn,hd,k5⟩
  cases n with
  | zero=>exact .inl ⟨_,rfl,as,ls,d,cc,res,flows,box,c5,p5,h5,rfl,hd,k5⟩
  | succ n=>
   right;obtain⟨a6,b6,c6,p6,h6,e6,⟨ra6,rb6⟩,k6⟩:=bUg hl (by decide) hd.db k5;obtain⟨v7,c7,p7,h7,e7,m7,k7⟩:=bUa hl (l:=[(0:Int),(0:Int),((n+1:Nat):Int)]) (by simp) (by simp) k6;obtain⟨v8,c8,p8,h8,e8,r8,k8⟩:=dS hl (n:=3) (by decide) (by decide) k7;obtain⟨m8,rfl⟩:=cA0 r8.1;have w8:wr ((1:Int)+(m8:Int))=((m8+1:Nat):Int):=by rw[aY (by omega) (by omega)];omega
   have wn:wr (((n+1:Nat):Int) - 1)=(n:Int):=by rw[aY (by omega) (by omega)];omega
   have enf:∀a b c:Int,xF a b c=some (a,b,c,0,0,0,[],[],[]):=λ_ _ _=>rfl
   simp only[zX (show ((n+1:Nat):Int)>0 by omega),zZ,e6,e7,enf,e8,w8,wn,aA,Option.bind_assoc];refine aAg (G:=λo=> ∃m s',m<n+1/\o=some (bZt s')/\NwI code m s') (λ(n:Nat) (s:Int×Int×Int×Int×Int×Int×Int×lMs×lPt×lRv×List Int×q21)=> ∃ms c p h,s=((n:Int),a6,b6,v7,0,0,0,ms,[],[],c,p,h)/\n<=3/\tot (.sl tMs) ms+4 * n<=12/\(∀m∈ms,uH m)/\Cur code (c,p,h)) (λs:Int×Int×Int×Int×Int×Int×lMs×lPt×lRv×List Int×Int×Int=> ∃ms c p h,s=(a6,b6,v7,0,0,0,ms,[],[],c,p,h)/\tot (.sl tMs) ms<=12/\(∀m∈ms,uH m)/\Cur code (c,p,h)) ?_ (m8+1) (((m8+1:Nat):Int),a6,b6,v7,(0:Int),(0:Int),(0:Int),[],[],[],c8,p8,h8) ⟨[],c8,p8,h8,rfl,by omega,by rw[aAn];omega,λm hm=>(cAj hm).elim,k8⟩ ?_
   .rintro i s ⟨ms,c9,p9,h9,rfl,hi,hm,hb,k9⟩
    cases i with
    | zero=>exact .inl ⟨_,rfl,ms,c9,p9,h9,rfl,by omega,hb,k9⟩
    | succ i=>
     right;obtain⟨v10,c10,p10,h10,e10,r10,k10⟩:=dS hl (n:=3) (by decide) (by decide) k9;obtain⟨m10,rfl⟩:=cA0 r10.1;obtain⟨l11,c11,p11,h11,e11,⟨r11,b11⟩,k11⟩:=bLe hl (n:=m10) (by omega) k10;have hf:tot tFl (a6,b6,v7,0,ms,[],0,0,[])<=1000:=by rw[aEl];show _+0+0<=_;omega
     have en:=bYo (f:=(a6,b6,v7,0,ms,[],0,0,[])) (b:=l11) ((bW (B:=1000) hf).mono (by decide)) ⟨by omega,λe he=>trivial⟩;have wi:wr (((i+1:Nat):Int) - 1)=(i:Int):=by rw[aY (by omega) (by omega)];omega
     simp only[zX (show ((i+1:Nat):Int)>0 by omega),zZ,e10,e11,en,aA,wi];unfold aR7;split
     .refine⟨i,_,by omega,rfl,ms++[l11],c11,p11,h11,rfl,by omega,?_,?_,k11⟩
      .rw[rU,bCt];omega
      .intro m hm;rcases bZ2.1 hm with hm | hm
       .exact hb m hm
       .rw[bZz.1 hm];exact b11
     .exact⟨i,_,by omega,rfl,ms,c11,p11,h11,rfl,by omega,by omega,hb,k11⟩
   rintro r ⟨ms,c9,p9,h9,rfl,hm,hb,k9⟩
   obtain⟨l10,e10,hl10⟩:=bYk hd.top (hd.db.mono (by decide)) ra6.1 rb6.1 60;have el10:l10=aFy (as,ls) (d,cc) a6 b6 60:=by
    have e11:=bBs (t:=(as,ls)) (k:=(d,cc)) (bZv (show as.length<=8 from hd.top.len) (by decide)) (bZv (show ls.length<=100 from hd.top.links) (by decide)) (hd.db.s (by decide)) a6 b6 60;exact Option.some.inj (e10.symm.trans e11)
   have tf:tot tFl (a6,b6,v7,0,ms,[],0,0,[])<=1073741824:=by rw[aEl];show _+0+0<=_;omega
   have ea:=bOk (w:=((as,ls),(d,cc),(12,res,[]),60,[],[],flows,box,0)) (f:=(a6,b6,v7,0,ms,[],0,0,[])) (l:=l10) (bZv (hd.tot (by omega)) (by decide)) tf (bZv (aVc hl10.d) (by decide)) e10;cases hbad:aKk ((as,ls),(d,cc),(12,res,[]),60,[],[],flows,box,0) (a6,b6,v7,0,ms,[],0,0,[]) with
   | true=>
    rw[hbad]at ea;simp only[zV,bZ5]at ea;simp only[ea,aA,aXp,zY];exact⟨n,_,by omega,rfl,as,ls,d,cc,res,flows,box,c9,p9,h9,rfl,by omega,hd.mono (by omega),k9⟩
   | false=>
    rw[hbad]at ea;simp only[bZ8,zU,cAb]at ea;simp only[ea,aA,aXp,bVs,zZ];unfold aKk at hbad;simp only[cB2,Bool.not_eq_false']at hbad;obtain⟨⟨⟨⟨⟨b1,b2⟩,b3⟩,b4⟩,b5⟩,b6'⟩:=hbad;have hnone:=bEm b6';have hfl:(flows.length:Int)<4:=by have h5: ¬ ((flows.length:Int)>=4):=of_decide_eq_false b5;omega
    have hfl':flows.length<=3 - (n+1):=hd.len;generalize hg:bRr (a6,b6,v7,0,ms,[],0,0,[]) l10 60=g;have hL:((flows++[g]).length:Int)=((flows.length+1:Nat):Int):=by simp
    have wl:wr (((flows.length+1:Nat):Int) - 1)=(flows.length:Int):=by rw[aY (by omega) (by omega)];omega
    have hx:(flows++[g])[flows.length]? =some g:=by simp
    have hset:∀y,(flows++[g]).set flows.length y=flows++[y]:=λy=>by simp
    have hlt:flows.length<(flows++[g]).length:=by simp
    obtain⟨m,em,hm1,hm4⟩:∃m:Nat,(if (4:Int)<(g.2.2.2.2.2.1.length:Int) then (4:Int) else (g.2.2.2.2.2.1.length:Int))=(m:Int)/\m<=g.2.2.2.2.2.1.length/\m<=4:=by
     by_cases h4:(4:Int)<(g.2.2.2.2.2.1.length:Int)
     .exact⟨4,by rw[zT h4];rfl,by omega,by omega⟩
     .exact⟨g.2.2.2.2.2.1.length,by rw[zS h4],bZ7 _,by omega⟩
    have hmem:∀y∈g.2.2.2.2.2.1,jR y:=λy hy=>by
     rw[<- hg]at hy;exact (hl10.2 y (aF1 hy)).1
    simp only[hL,wl,zX (show (0:Int)<=(flows.length:Int) by omega),zX (show (flows.length:Int)<((flows.length+1:Nat):Int) by omega),zZ,bZ4,hx,aA,bQv,em,aG2 hm1,jE,zX hlt,hset];have fin:∀res' c p h,sJ res' 12 60->(∀x∈res',(3:Int)>=x.1/\(2:Int)>=x.2.2.2.1)->Cur code (c,p,h)->NwI code n ((n:Int),d,cc,12,60,0,res',as,ls,d,cc,[],[],[],flows++[(g.1,g.2.1,g.2.2.1,g.2.2.2.1,g.2.2.2.2.1,List.take m g.2.2.2.2.2.1,g.2.2.2.2.2.2.1,g.2.2.2.2.2.2.2.1,g.2.2.2.2.2.2.2.2)],box++[(b6,a6,0,[])],c,p,h):=by
     intro res' c p h hr hlow hc;have hF:FlD (as,ls) (g.1,g.2.1,g.2.2.1,g.2.2.2.1,g.2.2.2.2.1,List.take m g.2.2.2.2.2.1,g.2.2.2.2.2.2.1,g.2.2.2.2.2.2.2.1,g.2.2.2.2.2.2.2.2):=by
      rw[<- hg];exact bP3 (f:=(a6,b6,v7,0,ms,[],0,0,[])) hm4 b1 b2 b3 rfl rfl hm hb hl10
     have ge1:g.1=a6:=by rw[<- hg];rfl
     have ge2:g.2.1=b6:=by rw[<- hg];rfl
     refine⟨as,ls,d,cc,res',_,_,c,p,h,rfl,by omega,⟨hd.top,hd.db,rfl,hr,rfl,rfl,rfl,rfl,?_,?_,?_,?_,hlow,hd.segs,?_⟩,hc⟩
     .show (flows++[_]).length<=_;simp;omega
     .intro f hf;rcases bZ2.1 hf with hf | hf
      .exact hd.flows f hf
      .rw[bZz.1 hf];exact hF
     .show box++[_]=(flows++[_]).map _;rw[cBi,<- show box=flows.map (λf=>((f.2.1,f.1,0,[]):den tIb)) from hd.box];simp only[cAd,List.map_nil,ge1,ge2]
     .show (flows++[_]).Pairwise _;rw[cDj];refine⟨hd.uniq,List.pairwise_singleton _ _,λx hx y hy=> ?_⟩;rw[bZz.1 hy];have hbx:((x.2.1,x.1,0,[]):den tIb)∈box:=by
       rw[show box=flows.map (λf=>((f.2.1,f.1,0,[]):den tIb)) from hd.box];exact bZ1.2 ⟨x,hx,rfl⟩
      have :=hnone _ hbx;unfold oO at this;unfold sF;rw[Bool.and_comm];simp only[ge1,ge2];exact this
     .intro f hf;rcases bZ2.1 hf with hf | hf
      .exact hd.find f hf
      .rw[bZz.1 hf];intro y hy;have hy:y∈g.2.2.2.2.2.1:=cBg hy;show y∈aFy (as,ls) (d,cc) g.1 g.2.1 60;rw[ge1,ge2,<- el10];rw[<- hg]at hy;exact aF1 hy
    by_cases hm0:m=0
    .subst hm0;simp only[show decide (((0:Nat):Int)>0)=false from rfl,zY,aA];exact⟨n,_,by omega,rfl,fin res c9 p9 h9 hd.res hd.low k9⟩
    .simp only[zX (show (m:Int)>0 by omega),zZ,aA];cases hgt:decide (g.2.2.1>(0:Int)) with
     | false=>
      simp only[zY,aA];exact⟨n,_,by omega,rfl,fin res c9 p9 h9 hd.res hd.low k9⟩
     | true=>
      have hp:idx (List.take m g.2.2.2.2.2.1) (0:Int)=some (g.2.2.2.2.2.1[0]'(by omega)):=by
       rw[show (0:Int)=((0:Nat):Int) from rfl,aP,cBa,zT (by omega)];exact bZw _
      obtain⟨v11,c11,p11,h11,e11,r11,k11⟩:=dS hl (n:=2) (by decide) (by decide) k9;obtain⟨b12,m12,e12,q12,n12⟩:=aYx hd.res (hmem _ (cBd (show 0<g.2.2.2.2.2.1.length by omega))) g.2.2.1 (wr ((1:Int)+v11)) 4000;simp only[zZ,hp,e11,e12,aA,bU,dH,cL,cK,cS];exact⟨n,_,by omega,rfl,fin m12 c11 p11 h11 q12 (λx hx=>(n12 x hx).elim (hd.low x) λe=>by
       rw[e.1,e.2];have g7:g.2.2.1=v7:=by rw[<- hg];rfl
       rw[g7];simp only[bZx,cAj,or_false]at m7;have w11:wr ((1:Int)+v11)=1+v11:=aY (by omega) (by omega);rw[w11];have h3:v7<=(3:Int):=by
        rcases m7 with e | e | e<;>rw[e]<;>omega
       exact⟨h3,(show (1+v11:Int)<=2 by omega)⟩) k11⟩
def aDw(w:den tNw)(l:List Int):den tNw:=(nT w,nK w,nG w,aG w,l,aE w,aB w,aQ w,dX w)
def zB(w:den tNw)(i:Nat):den tNw:=bJ w ((aE w).take i++(aE w).drop (i+1))
def uA(m:Nat)(dead:List Int)(i:Int)(b:Bool):List Int:=((List.range m).map λk:Nat=>((k:Nat):Int)).filter λk:Int=>(qQ dead k&&(k != i))||(b&&(k==i))
def rT(w:den tNw)(i:Int)(b:Bool):Bool:=(qQ (aH w) i==b)|| !inR i 0 (((nT w).2.length:Int) - 1)
def aV(w:den tNw)(i:Int)(b:Bool):den tNw:=if rT w i b then w else aDw w (uA (nT w).2.length (aH w) i b)
def aBl(f:den tFl)(b:List Int):den tFl:=if hO (enq f b) then enq f b else f
def doW(w:den tNw)(e:den jJ):Bool×den tNw:=
 if e.1==1 then (!decide (aG w>=1000000),cG w)
 else if e.1==2 then (match inR e.2.1 0 (((aE w).length:Int) - 1),(aE w)[e.2.1.toNat]? with
  | true,some x=>(true,cZ (zB w e.2.1.toNat) x.1 x.2.1 x.2.2)
  | _,_=>(false,w))
 else if e.1==3 then (if inR e.2.1 0 (((aE w).length:Int) - 1) then (true,sT (zB w e.2.1.toNat)) else (false,w))
 else if e.1==4 then (match inR e.2.1 0 (((aE w).length:Int) - 1)&& !decide (((aE w).length:Int)>=150),(aE w)[e.2.1.toNat]? with
  | true,some x=>(true,bJ w (aE w++[x]))
  | _,_=>(false,w))
 else if e.1==5||e.1==6 then (!rT w e.2.1 (e.1==5),aV w e.2.1 (e.1==5))
 else if e.1==7 then (if cH (nT w) e.2.2.2.1&& !decide (((aE w).length:Int)>=150) then (true,bJ w (aE w++[e.2.2.2])) else (false,w))
 else if e.1==8 then (match inR e.2.1 0 (((aB w).length:Int) - 1),(aB w)[e.2.1.toNat]? with
  | true,some f=>(hO (enq f e.2.2.1),bR w ((aB w).set e.2.1.toNat (aBl f e.2.2.1)))
  | _,_=>(false,w))
 else (false,w)
theorem aVx{α:Type}{l:List α}{n:Int}(hl:l.length<=1073741824)(h:inR n 0 ((l.length:Int) - 1)=true):∃(i:Nat) (x:α),n=(i:Int)/\l[i]? =some x/\decide (n<(l.length:Int))=true/\decide ((0:Int)<=n)=true:=by
 obtain⟨h0,h1⟩:=aS.1 h;obtain⟨i,rfl⟩:=cA0 h0;have hi:i<l.length:=by omega
 exact⟨i,l[i],rfl,bZw hi,zX (by omega),zX h0⟩
theorem bA6{B F:Nat}{w:den tNw}{r inn:Int}{p:den tPk}(hk:eY B F w)(hp:jO p):eY (B+(160+F)) F (cZ w r inn p):=by
 obtain⟨h1,h2⟩:=aHv hk.bytes hp (r:=r) (inn:=inn);have h3:=aQm w r inn p;have :=hk.flows;have :=hk.tot;exact⟨by omega,by rw[h2];exact hk.flows,h1⟩
theorem bBb{B F:Nat}{w:den tNw}{l:lFy}(hk:eY B F w)(hl:tot (.sl tFy) l<=tot (.sl tFy) (aE w))(hb:∀x∈l,jO x.2.2):eY B F (bJ w l):=by
 have h1:=aJi w l;have :=hk.tot;exact⟨by omega,hk.flows,⟨hb,hk.bytes.msg⟩⟩
theorem aIt{B F:Nat}{w:den tNw}(hk:eY B F w)(i:Nat):eY B F (zB w i):=by
 refine bBb hk ?_ λx hx=>hk.bytes.fly x ?_
 .have h1:=rU (t:=tFy) ((aE w).take i) ((aE w).drop i);rw[cBb]at h1;rw[rU,h1];have :tot (.sl tFy) ((aE w).drop (i+1))<=tot (.sl tFy) ((aE w).drop i):=by
   cases h:(aE w).drop i with
   | nil=>
    have :(aE w).drop (i+1)=[]:=by rw[<- List.drop_drop,h];rfl
    rw[this];exact bZ7 _
   | cons x l=>
    have :(aE w).drop (i+1)=l:=by rw[<- List.drop_drop,h];rfl
    rw[this,jF];omega
  omega
 .rcases bZ2.1 hx with hx | hx
  .exact cBg hx
  .exact cBk hx
def bQc(p:den tPt):Prop:=cAc (α:=den tPp) p<=4/\ ∀x:den tPp,x∈(show lPp from p)->x.2.2.2.length<=5
theorem bQc.set{p:lPp}(h:jR p){i:Nat}{x:den tPp}(hx:x.2.2.2.length<=5):bQc (p.set i x):=by
 refine⟨by have :=h.1;show (p.set i x).length<=4;rw[cBl];omega,λy hy=> ?_⟩;rcases cC1 (show y∈p.set i x from hy) with hy | rfl
 .exact h.2 y hy
 .exact hx
theorem bR3(p:den tPk):tot tPk p=tot tPt p.2.2.2.1+p.2.2.2.2.2.2.2.2.2.length:=by
 have e:tot tPk p=tot tPt p.2.2.2.1+tot (.sl tb) p.2.2.2.2.2.2.2.2.2:=by simp[oV,qM]
 rw[e,jB (t:=tb) rfl]
structure EvD (w:den tNw) (e:den jJ):Prop where
 lo:(1:Int)<=e.1
 hi:(8:Int)>=e.1
 data:e.2.2.1.length<=3/\uH e.2.2.1
 pk:tot tPk e.2.2.2.2.2<=1100/\jO e.2.2.2.2.2
 harm:harm w e=true
structure EvS (e:den jJ):Prop where
 data:e.2.2.1.length<=3/\uH e.2.2.1
 pk:tot tPk e.2.2.2.2.2<=1100/\jO e.2.2.2.2.2
theorem EvD.s{w:den tNw}{e:den jJ}(h:EvD w e):EvS e:=⟨h.data,h.pk⟩
theorem bF0{w:den tNw}{e:den jJ}(h:(e.1==(7:Int))=false):harm w e=true:=by
 unfold harm;rw[h];rfl
theorem bB9{s d now now':Int}(hn:now<=now'):∀{l:lRs},(∀x∈l,(0:Int)<=x.2.2.2.1/\(20:Int)>=x.2.2.2.1)->rs s d now' l<=rs s d now l
 | [],_=>cAu _
 | x::l,h=>by
  have ih:=bB9 (s:=s) (d:=d) hn (l:=l) λy hy=>h y (bZ0 _ hy)
  have hx:=h x (by simp);unfold rs
  by_cases c:now'<=x.2.2.2.2
  .rw[zX c,zX (show now<=x.2.2.2.2 from cA6 hn c)];split<;>omega
  .rw[zW c,Bool.and_false];simp only[bZ8,zU];split<;>omega
theorem sJ.later{l:lRs}{cap now now':Int}(h:sJ l cap now)(hn:now<=now'):sJ l cap now':=
 ⟨h.len,h.val,λx hx=>cA6 (bB9 hn (rZ h.val)) (h.rate x hx),h.pw⟩
theorem OkS.tick{g:den tSc}{now now':Int}(h:OkS g now)(hn:now<=now'):OkS (g.1,tU g.2.1 now',[]) now':=
 ⟨h.lo,h.hi,(h.res.later hn).filter _,λj x hx=>by simp at hx⟩
structure bK (w w':den tNw):Prop where
 top:nT w'=nT w
 now:aG w'=aG w
 gate:OkS (nG w) (aG w)->OkS (nG w') (aG w')
 fly:∀x∈aE w',x∈aE w\/tot tPk x.2.2<=1100
 flyN:(aE w).length<=150->(aE w').length<=150
theorem bK.refl(w:den tNw):bK w w:=⟨rfl,rfl,id,λx hx=> .inl hx,id⟩
theorem bK.trans{a b c:den tNw}(h:bK a b)(k:bK b c):bK a c:=
 ⟨k.top.trans h.top,k.now.trans h.now,λhg=>k.gate (h.gate hg),λx hx=>(k.fly x hx).elim (h.fly x) .inr,λhl=>k.flyN (h.flyN hl)⟩
theorem bK.drop(w:den tNw):bK w (sT w):=⟨rfl,rfl,id,λx hx=> .inl hx,id⟩
theorem bK.box(w:den tNw)(i:Nat)(x:den tIb):bK w (nV w i x):=⟨rfl,rfl,id,λx hx=> .inl hx,id⟩
theorem bK.flows(w:den tNw)(l:lFl):bK w (bR w l):=⟨rfl,rfl,id,λx hx=> .inl hx,id⟩
theorem bK.tell(w:den tNw)(r:Int)(p:den tPk):bK w (sS w r p):=bK.flows w _
theorem bK.send{w:den tNw}{r eg:Int}{p:den tPk}(hp:tot tPk p<=1100):bK w (eH w r eg p):=by
 unfold eH;split
 .rename_i hc;rw[bZu,zR]at hc;refine⟨rfl,rfl,λhg=>hg.trans _ _ _,λx hx=> ?_,λhl=> ?_⟩
  .rcases bZ2.1 (show x∈aE w++_ from hx) with hx | hx
   .exact .inl hx
   .have :x=_:=bZz.1 hx;subst this;exact .inr hp
  .show (aE w++_).length<=150;have :=hc.2;simp;omega
 .exact bK.drop w
theorem aM8{t:den tTo}{now:Int}{dead:List Int}{r inn:Int}{p:den tPk}(h:((aD t now dead r inn p).1==0)=true):tot tPk (aD t now dead r inn p).2.2.1<=1100:=by
 have hv:dR p=true:=aFk (t:=t) (r:=r) (now:=now) (dead:=eG t dead r) (inn:=inn) (by
  have h:((fwd t r now (eG t dead r) inn p).1==0)=true:=h;rw[eq_of_beq h];rfl)
 unfold aD;rw[aG1];exact bZv (aDj hv) (by decide)
theorem bK.proc0(w:den tNw)(r inn:Int)(p:den tPk):bK w (proc0 w r inn p):=by
 unfold Go.Proofs.YtnkjolpkcmgcaaaGreat.proc0;split
 .rename_i h;exact bK.send (aM8 h)
 .split
  .exact bK.tell w _ _
  .exact bK.drop w
theorem bK.proc(w:den tNw)(r inn:Int)(p:den tPk):bK w (cZ w r inn p):=by
 unfold cZ;split
 .rename_i h;exact bK.send (aM8 h)
 .split
  .split
   .unfold nB;split
    .exact bK.refl w
    .split
     .exact (bK.box w _ _).trans (bK.proc0 _ _ _ _)
     .exact bK.box w _ _
   .exact bK.tell w _ _
  .split
   .unfold oM;split
    .exact (bK.proc0 _ _ _ _).trans (bK.drop _)
    .exact (bK.tell _ _ _).trans (bK.drop _)
   .exact bK.drop w
theorem bK.stepT(k:Nat)(w:den tNw):bK w (stepT k w):=by
 unfold Go.Proofs.YtnkjolpkcmgcaaaGreat.stepT;split
 .split
  .exact (bK.flows w _).trans (bK.proc _ _ _ _)
  .exact bK.flows w _
 .exact bK.refl w
theorem bK.tickL:∀(n k:Nat) (w:den tNw),bK w (tickL k n w)
 | 0,_,w=>bK.refl w
 | n+1,k,w=>(bK.stepT k w).trans (bK.tickL n (k+1) _)
structure rD (t:den tTo) (B k:Nat) (w:den tNw):Prop where
 keep:eY B 4 w
 top:nT w=t
 gate:OkS (nG w) (aG w)
 lo:(0:Int)<=aG w
 hi:aG w<=60+(k:Int)
 fly:∀x∈aE w,tot tPk x.2.2<=1100
 flyN:(aE w).length<=150
theorem rD.mono{t:den tTo}{B C k j:Nat}{w:den tNw}(h:rD t B k w)(hB:B<=C)(hk:k<=j):rD t C j w:=⟨h.keep.mono hB,h.top,h.gate,h.lo,by have :=h.hi;omega,h.fly,h.flyN⟩
theorem rD.step{t:den tTo}{B C k:Nat}{w w':den tNw}(h:rD t B k w)(s:bK w w')(hk:eY C 4 w'):rD t C k w':=
 ⟨hk,s.top.trans h.top,s.gate h.gate,by rw[s.now];exact h.lo,by rw[s.now];exact h.hi,λx hx=>(s.fly x hx).elim (h.fly x) id,s.flyN h.flyN⟩
theorem bEv{t:den tTo}{B k:Nat}{w:den tNw}(h:rD t B k w)(hk:k<=10000000):rD t B (k+1) (tick0 w):=by
 have hlo:=h.lo;have hhi:=h.hi;have e:wr (aG w+1)=aG w+1:=aY (by omega) (by omega);refine⟨aI1 h.keep,h.top,?_,?_,?_,h.fly,h.flyN⟩
 .show OkS ((nG w).1,tU (nG w).2.1 (wr (aG w+1)),[]) (wr (aG w+1));rw[e];exact h.gate.tick (by omega)
 .show (0:Int)<=wr (aG w+1);omega
 .show wr (aG w+1)<=_;omega
theorem aUy{t:den tTo}{B k:Nat}{w:den tNw}(h:rD t B k w)(hk:k<=10000000):rD t (B+656) (k+1) (cG w):=by
 have hkp:=aI3 h.keep;unfold cG at hkp ⊢;split
 .exact h.mono (by omega) (by omega)
 .rename_i hn;rw[zS hn]at hkp;exact (bEv h hk).step (bK.tickL _ _ _) hkp
theorem bDe{w:den tNw}{x:den tFy}:tot tNw (bJ w (aE w++[x]))=tot tNw w+(1+tot tPk x.2.2):=by
 have h1:=aJi w (aE w++[x]);rw[rU,aD6]at h1;have e:tot tFy x=tot tPk x.2.2:=by simp[oV,qM]
 omega
theorem bK3(m:Nat)(dead:List Int)(i:Int)(b:Bool):(uA m dead i b).length<=m:=by
 unfold uA;exact bZv (cCk ..) (by simp)
theorem bA3(w:den tNw)(l:List Int):tot tNw (aDw w l)+(aH w).length=tot tNw w+l.length:=by
 have e:tot tNw (aDw w l)=(tot (.sl tAS) (nT w).1+tot (.sl tLk) (nT w).2)+((tot (.sl tSg) (nK w).1+tot (.sl tSg) (nK w).2)+((0+(tot (.sl tRs) (nG w).2.1+tot (.sl tUs) (nG w).2.2))+(0+(tot (.sl ti) l+(tot (.sl tFy) (aE w)+(tot (.sl tFl) (aB w)+(tot (.sl tIb) (aQ w)+0))))))):=rfl;have r:∀l:List Int,tot (.sl ti) l=l.length:=λl=>jB rfl
 rw[e,fY w,r,r];omega
theorem aS8{t:den tTo}{B k:Nat}{w:den tNw}{e:den jJ}(h:rD t B k w)(hk:k<=10000000)(ht:t.2.length<=200)(he:EvS e):rD t (B+2000) (k+1) (doW w e).2:=by
 have same:rD t (B+2000) (k+1) w:=h.mono (by omega) (by omega);unfold doW;split
 .exact (aUy h hk).mono (by omega) (by omega)
 .split
  .split
   .rename_i x hi hx;have hm:=bZ9 hx;have hb:=h.keep.bytes.fly x hm;have hg:rD t B k (zB w e.2.1.toNat):=h.step ⟨rfl,rfl,id,λy hy=> ?_,λhl=> ?_⟩ (aIt h.keep _)
    .exact ((hg.step (bK.proc _ _ _ _) (bA6 hg.keep hb)).mono (by omega) (by omega))
    .rcases bZ2.1 (show y∈(aE w).take _++(aE w).drop _ from hy) with hy | hy
     .exact .inl (cBg hy)
     .exact .inl (cBk hy)
    .show ((aE w).take _++(aE w).drop _).length<=150;simp only[cAh,cA8,cB1];omega
   .exact same
  .split
   .split
    .have hg:rD t B k (zB w e.2.1.toNat):=h.step ⟨rfl,rfl,id,λy hy=> ?_,λhl=> ?_⟩ (aIt h.keep _)
     .exact (hg.step (bK.drop _) ⟨hg.keep.tot,hg.keep.flows,⟨hg.keep.bytes.fly,hg.keep.bytes.msg⟩⟩).mono (by omega) (by omega)
     .rcases bZ2.1 (show y∈(aE w).take _++(aE w).drop _ from hy) with hy | hy
      .exact .inl (cBg hy)
      .exact .inl (cBk hy)
     .show ((aE w).take _++(aE w).drop _).length<=150;simp only[cAh,cA8,cB1];omega
    .exact same
   .split
    .split
     .rename_i x hi hx;have hm:=bZ9 hx;rw[bZu]at hi;have hlt: ¬ (((aE w).length:Int)>=150):=by have :=hi.2;simpa using this
      have ht':=bDe (w:=w) (x:=x);have hx':=h.fly x hm;have hkp:=h.keep.tot;refine rD.mono (B:=B+1101) (k:=k) (h.step (w':=bJ w (aE w++[x])) ⟨rfl,rfl,id,λy hy=> ?_,λhl=> ?_⟩ ⟨by omega,h.keep.flows,⟨λy hy=> ?_,h.keep.bytes.msg⟩⟩) (by omega) (by omega)
      .rcases bZ2.1 (show y∈aE w++[x] from hy) with hy | hy
       .exact .inl hy
       .rw[bZz.1 hy];exact .inl hm
      .show (aE w++[x]).length<=150;simp only[cAh,cBe];omega
      .rcases bZ2.1 (show y∈aE w++[x] from hy) with hy | hy
       .exact h.keep.bytes.fly y hy
       .rw[bZz.1 hy];exact h.keep.bytes.fly x hm
     .exact same
    .split
     .show rD t (B+2000) (k+1) (aV w e.2.1 (e.1==5));unfold aV;split
      .exact same
      .have h1:=bA3 w (uA (nT w).2.length (aH w) e.2.1 (e.1==5));have h2:=bK3 (nT w).2.length (aH w) e.2.1 (e.1==5);have h3:(nT w).2.length<=200:=by rw[h.top];exact ht
       have hkp:=h.keep.tot;exact rD.mono (B:=B+200) (k:=k) (h.step (w':=aDw w (uA (nT w).2.length (aH w) e.2.1 (e.1==5))) ⟨rfl,rfl,id,λy hy=> .inl hy,id⟩ ⟨by omega,h.keep.flows,⟨h.keep.bytes.fly,h.keep.bytes.msg⟩⟩) (by omega) (by omega)
     .split
      .split
       .rename_i hc;rw[bZu]at hc;have hlt: ¬ (((aE w).length:Int)>=150):=by have :=hc.2;simpa using this
        have ht':=bDe (w:=w) (x:=e.2.2.2);have hx':=he.pk.1;have hkp:=h.keep.tot;refine rD.mono (B:=B+1101) (k:=k) (h.step (w':=bJ w (aE w++[e.2.2.2])) ⟨rfl,rfl,id,λy hy=> ?_,λhl=> ?_⟩ ⟨by omega,h.keep.flows,⟨λy hy=> ?_,h.keep.bytes.msg⟩⟩) (by omega) (by omega)
        .rcases bZ2.1 (show y∈aE w++[e.2.2.2] from hy) with hy | hy
         .exact .inl hy
         .rw[bZz.1 hy];exact .inr hx'
        .show (aE w++[e.2.2.2]).length<=150;simp only[cAh,cBe];omega
        .rcases bZ2.1 (show y∈aE w++[e.2.2.2] from hy) with hy | hy
         .exact h.keep.bytes.fly y hy
         .rw[bZz.1 hy];exact he.pk.2
       .exact same
      .split
       .split
        .rename_i f hi hf;have hm:=bZ9 hf;have h1:=aS6 (t:=tFl) (y:=aBl f e.2.2.1) hf;have h5:=aEz w ((aB w).set e.2.1.toNat (aBl f e.2.2.1));have h6:=fY w;have hkp:=h.keep.tot;have h2:tot tFl (aBl f e.2.2.1)<=tot tFl f+4:=by
          unfold aBl;split
          .obtain⟨a,b,c,d,ms,ps,cu,wa,rv⟩:=f;show tot tFl (a,b,c,d,ms++[e.2.2.1],ps,cu,wa,rv)<=tot tFl (a,b,c,d,ms,ps,cu,wa,rv)+4;rw[aEl,aEl,rU,bCt];have :=he.data.1;omega
          .omega
         refine rD.mono (B:=B+4) (k:=k) (h.step (w':=bR w ((aB w).set e.2.1.toNat (aBl f e.2.2.1))) (bK.flows w _) ⟨by omega,by show ((aB w).set _ _).length<=4;rw[cBl];exact h.keep.flows,⟨h.keep.bytes.fly,λg hg m hmm=> ?_⟩⟩) (by omega) (by omega);rcases cC1 (show g∈(aB w).set _ _ from hg) with hg | rfl
         .exact h.keep.bytes.msg g hg m hmm
         .unfold aBl at hmm;split at hmm
          .rcases bZ2.1 (show m∈f.2.2.2.2.1++[e.2.2.1] from hmm) with hmm | hmm
           .exact h.keep.bytes.msg f hm m hmm
           .rw[bZz.1 hmm];exact he.data.2
          .exact h.keep.bytes.msg f hm m hmm
        .exact same
       .exact same
inductive Ran (v:den tNw):yL->den tNw->Prop
 | nil:Ran v [] v
 | snoc {l:yL} {w:den tNw} {e:den jJ} (h:Ran v l w) (he:EvD w e):Ran v (l++[e]) (doW w e).2
theorem qX.gateOk{n:Nat}{v:den tNw}(h:qX n v):OkS (nG v) (aG v):=by
 have h1:=h.res;rw[h.now,h.gate];exact⟨by show (1:Int)<=12;decide,by show (20:Int)>=12;decide,h1,λj x hx=>by simp at hx⟩
theorem qX.run{v:den tNw}(h:qX 3 v):rD (nT v) 1000 0 v where
 keep:=⟨h.tot (by decide),bZv h.len (by decide),⟨λx hx=>(by rw[h.fly]at hx;cases hx),λf hf m hm=>(h.flows f hf).bytes m hm⟩⟩
 top:=rfl
 gate:=h.gateOk
 lo:=by rw[h.now];decide
 hi:=by rw[h.now];decide
 fly:=λx hx=>by rw[h.fly]at hx;cases hx
 flyN:=by rw[h.fly];exact cAe _
theorem Ran.run{v:den tNw}(hv:qX 3 v){l:yL}{w:den tNw}(h:Ran v l w):l.length<=1000->rD (nT v) (1000+2000 * l.length) l.length w:=by
 induction h with
 | nil=>intro _;exact hv.run
 | snoc h he ih=>
  intro hl;simp only[cAh,cBe]at hl ⊢;exact (aS8 (ih (by omega)) (by omega) (bZv hv.top.links (by decide)) he.s).mono (by omega) (by omega)
def hdS(l:bM):Option Int:=l.head?.map λx=>(x.1:Int)
def ltS(l:bM):Option Int:=l.getLast?.map λx=>(x.1:Int)
theorem aIi(l:bM)(x:den lJ):ltS (l++[x])=some x.1:=by unfold ltS;rw[cBs];rfl
theorem aOk(l:bM)(x:den lJ):hdS (l++[x])=if l=[] then some x.1 else hdS l:=by
 cases l with
 | nil=>rfl
 | cons y l=>rfl
theorem bTx(nf:Bool)(p:den tPp)(i:Nat)(h:den bG)(out:bM):ltS (qU nf p i h out)=some h.1/\hdS (qU nf p i h out)=if out=[] then some h.1 else hdS out:=by
 unfold qU;rcases gK out with rfl | ⟨m,z,rfl⟩
 .exact⟨rfl,rfl⟩
 .rw[cBs];simp only;split
  .rename_i hc;simp only[bZu,beq_iff_eq]at hc;rw[cB3];refine⟨aIi _ _,?_⟩;have hne:m++[z]≠[]:=by simp
   rw[zS hne,aOk,aOk]
   by_cases hm:m=[]
   .rw[zT hm,zT hm];exact congrArg some hc.2.2.symm
   .rw[zS hm,zS hm]
  .exact⟨aIi _ _,by rw[aOk]⟩
theorem aTa(nf:Bool)(p:den tPp):∀(l:cR) (k:Nat) (a:bM),ltS (bI (λi h b=>qU nf p i h b) k l a)=(if l=[] then ltS a else zH l)/\hdS (bI (λi h b=>qU nf p i h b) k l a)=(if a=[] then aEu l else hdS a)
 | [],k,a=>by
  refine⟨rfl,?_⟩;show hdS a=_;split
  .rename_i h;rw[h];rfl
  .rfl
 | x::l,k,a=>by
  obtain⟨h1,h2⟩:=aTa nf p l (k+1) (qU nf p k x a);obtain⟨g1,g2⟩:=bTx nf p k x a;have hne:qU nf p k x a≠[]:=λe=>by rw[e]at g1;cases g1
  rw[zS hne,g2]at h2;refine⟨?_,?_⟩
  .show ltS (bI _ (k+1) l (qU nf p k x a))=_;cases l with
   | nil=>
    show ltS (qU nf p k x a)=_;rw[zS (List.cons_ne_nil _ _),g1];rfl
   | cons y l=>
    rw[h1,zS (List.cons_ne_nil _ _),zS (List.cons_ne_nil _ _)];unfold zH;rw[List.getLast?_cons_cons]
  .show hdS (bI _ (k+1) l (qU nf p k x a))=_;rw[h2];rfl
theorem aXf:∀(p:lPp) (k:Nat) (a:bM),a≠[]->hdS (bI (λk x a=>iG (decide (0<k)) x a) k p a)=hdS a/\(∀b,yN p=some b->ltS (bI (λk x a=>iG (decide (0<k)) x a) k p a)=some b)
 | [],k,a,_=>⟨rfl,λb h=>by cases h⟩
 | x::p,k,a,ha=>by
  obtain⟨g1,g2⟩:=aTa (decide (0<k)) x x.2.2.2 0 a;rw[zS ha]at g2;have hne:iG (decide (0<k)) x a≠[]:=λe=>by
   have g2:hdS (iG (decide (0<k)) x a)=hdS a:=g2;rw[e]at g2;cases a with
   | nil=>exact ha rfl
   | cons y l=>cases g2
  obtain⟨h1,h2⟩:=aXf p (k+1) (iG (decide (0<k)) x a) hne;refine⟨h1.trans g2,λb hb=> ?_⟩;cases p with
  | nil=>
   have hb:zH x.2.2.2=some b:=hb;show ltS (iG (decide (0<k)) x a)=some b;have g1:ltS (iG (decide (0<k)) x a)=_:=g1;rw[g1,zS (λe=>by rw[e]at hb;cases hb),hb]
  | cons y p=>
   have hb:yN (y::p)=some b:=by
    unfold yN at hb ⊢
    rwa [List.getLast?_cons_cons]at hb
   exact h2 b hb
theorem bCz(l:bM):hdS (aC5 l)=hdS l/\ltS (aC5 l)=ltS l:=by
 unfold aC5;cases l with
 | nil=>exact⟨rfl,rfl⟩
 | cons x xs=>
  simp only;rcases gK xs with rfl | ⟨m,z,rfl⟩
  .exact⟨rfl,rfl⟩
  .have e:((x.1,(0:Int),x.2.2)::(m++[z]):bM)=((x.1,(0:Int),x.2.2)::m)++[z]:=rfl;rw[e,cBs];simp only;rw[cB3,aIi];refine⟨rfl,?_⟩;rw[show (x::(m++[z]):bM)=(x::m)++[z] from rfl,aIi]
theorem aHg{p:lPp}{a b:Int}(ha:aE0 p=some a)(hb:yN p=some b):ends p=(a,b):=by
 cases p with
 | nil=>cases ha
 | cons x p=>
  have ha:aEu x.2.2.2=some a:=ha;obtain⟨g1,g2⟩:=aTa false x x.2.2.2 0 [];have g1:ltS (iG false x [])=_:=g1;have g2:hdS (iG false x [])=aEu x.2.2.2:=g2;have hne:iG false x []≠[]:=λe=>by rw[e]at g2;rw[<- g2]at ha;cases ha
  obtain⟨h1,h2⟩:=aXf p 1 (iG false x []) hne;have e0:xK (x::p)=bI (λk x a=>iG (decide (0<k)) x a) 1 p (iG false x []):=rfl;have f1:hdS (fT (x::p))=some a:=by
   unfold fT;rw[(bCz _).1,e0,h1,g2,ha]
  have f2:ltS (fT (x::p))=some b:=by
   unfold fT;rw[(bCz _).2,e0];cases p with
   | nil=>
    have hb:zH x.2.2.2=some b:=hb;show ltS (iG false x [])=some b;rw[g1,zS (λe=>by rw[e]at hb;cases hb),hb]
   | cons y p=>
    have hb:yN (y::p)=some b:=by
     unfold yN at hb ⊢
     rwa [List.getLast?_cons_cons]at hb
    exact h2 b hb
  unfold ends;unfold hdS at f1;unfold ltS at f2;obtain⟨u,hu,eu⟩:=cAp.1 f1;obtain⟨v,hv,ev⟩:=cAp.1 f2;rw[hu,hv];simp only;rw[eu,ev]
theorem aTv(x:den tPp):aEu (rC x).2.2.2=zH x.2.2.2/\zH (rC x).2.2.2=aEu x.2.2.2:=by
 unfold rC aEu zH;simp only[List.head?_reverse,List.getLast?_reverse,and_self]
theorem aF2(p:lPp):aE0 (fF p)=yN p/\yN (fF p)=aE0 p:=by
 unfold fF aE0 yN;rw[List.head?_map,List.getLast?_map,List.head?_reverse,List.getLast?_reverse];constructor
 .cases p.getLast? with
  | none=>rfl
  | some x=>exact (aTv x).1
 .cases p.head? with
  | none=>rfl
  | some x=>exact (aTv x).2
theorem aSr{α:Type}(p:α->α->Bool)(hp:∀x y,p x y=true->x=y):∀{a b:List α},a.length=b.length->aGa p a b=true->a=b
 | [],[],_,_=>rfl
 | [],_::_,h,_=>by simp at h
 | _::_,[],h,_=>by simp at h
 | x::a,y::b,h,e=>by
  simp only[aGa,bZu]at e;rw[hp x y e.1,aSr p hp (by simpa using h) e.2]
theorem bCa(b:Bool):cond b true false=b:=by cases b<;>rfl
theorem bO9{a b:cR}(h:aP7 a b=true):a=b:=by
 unfold aP7 at h
 by_cases hl:a.length=b.length
 .rw[zX hl,bZ5,zY,bCa]at h;refine aSr _ (λx y e=> ?_) hl h;simp only[bZu,beq_iff_eq,and_true]at e;obtain⟨e1,e2,e3,e4,e5⟩:=e;obtain⟨x1,x2,x3,x4,x5⟩:=x;obtain⟨y1,y2,y3,y4,y5⟩:=y;simp only at e1 e2 e3 e4 e5;rw[e1,e2,e3,e4,e5]
 .rw[zW hl]at h;cases h
theorem aWs{a b:Bool}:cond a b false=true↔a=true/\b=true:=by cases a<;>cases b<;>simp
theorem bJw{a b:den tPp}(h:aCr a b=true):a=b:=by
 unfold aCr at h;simp only[aWs,beq_iff_eq]at h;obtain⟨e1,e2,e3,e4⟩:=h;have e4:=bO9 e4;obtain⟨x1,x2,x3,x4⟩:=a;obtain⟨y1,y2,y3,y4⟩:=b;simp only at e1 e2 e3 e4;rw[e1,e2,e3,e4]
theorem bPn{a b:lPp}(h:aA6 a b=true):a=b:=by
 unfold aA6 at h
 by_cases hl:a.length=b.length
 .rw[zX hl,bZ5,zY,bCa]at h;exact aSr _ (λx y e=>bJw e) hl h
 .rw[zW hl]at h;cases h
theorem bPd{a b:den tPk}(ha:jO a)(hb:jO b)(h:aO9 a b=true):a=b:=by
 unfold aO9 at h;simp only[aWs,beq_iff_eq]at h;obtain⟨e1,e2,e3,e4,e5,e6,e7,e8,e9,e10⟩:=h;have e4:=bPn e4;have e10:=(bLx ha hb).1 e10;obtain⟨x1,x2,x3,x4,x5,x6,x7,x8,x9,x10⟩:=a;obtain⟨y1,y2,y3,y4,y5,y6,y7,y8,y9,y10⟩:=b;simp only at e1 e2 e3 e4 e5 e6 e7 e8 e9 e10;rw[e1,e2,e3,e4,e5,e6,e7,e8,e9,e10]
theorem eqI{a b:Int}(h:a=b):a=b:=h
theorem ltI{a b:Int}(h:a<b):a<b:=h
theorem leI{a b:Int}(h:a<=b):a<=b:=h
structure wH (t:den tTo) (f:den tFl) (x:den tIb):Prop where
 val:hO f=true
 src:cH t f.1=true
 dst:cH t f.2.1=true
 xAS:x.1=f.2.1
 xFrom:x.2.1=f.1
 next:x.2.2.1=(x.2.2.2.length:Int)
 recv:x.2.2.2=f.2.2.2.2.1.take x.2.2.2.length
 len:x.2.2.2.length<=f.2.2.2.2.1.length
 ack:f.2.2.2.1<=(x.2.2.2.length:Int)
 paths:∀p∈f.2.2.2.2.2.1,aE0 p=some f.1/\yN p=some f.2.1
def mF(w:den tNw)(p:den tPk):Prop:= ∀(k:Nat) (f:den tFl) (x:den tIb),(aB w)[k]? =some f->(aQ w)[k]? =some x->
 (p.1=(1:Int)->p.2.1=f.1->p.2.2.1=f.2.1->aE0 p.2.2.2.1=some f.1/\yN p.2.2.2.1=some f.2.1/\ ∃s:Nat,p.2.2.2.2.2.2.2.2.1=(s:Int)/\f.2.2.2.2.1[s]? =some p.2.2.2.2.2.2.2.2.2)/\
 (p.1=(2:Int)->p.2.1=f.2.1->p.2.2.1=f.1->p.2.2.2.2.2.2.2.2.1<x.2.2.1)
def aNs(w:den tNw)(p:den tPk):Prop:=dR p=true->mF w p
structure bL (t:den tTo) (w:den tNw):Prop where
 top:nT w=t
 lenB:(aQ w).length=(aB w).length
 flow:∀(k:Nat) (f:den tFl) (x:den tIb),(aB w)[k]? =some f->(aQ w)[k]? =some x->wH t f x
 uniq:(aB w).Pairwise λf g=>sF g f=false
 good:∀y∈aE w,aNs w y.2.2
 to:∀y∈aE w,cH t y.1=true
structure aNp (w w':den tNw):Prop where
 flow:∀(k:Nat) (f':den tFl),(aB w')[k]? =some f'-> ∃f,(aB w)[k]? =some f/\f'.1=f.1/\f'.2.1=f.2.1/\ ∀(s:Nat) (m:List Int),f.2.2.2.2.1[s]? =some m->f'.2.2.2.2.1[s]? =some m
 box:∀(k:Nat) (x':den tIb),(aQ w')[k]? =some x'-> ∃x,(aQ w)[k]? =some x/\x.2.2.1<=x'.2.2.1
theorem aNp.refl(w:den tNw):aNp w w:=⟨λk f h=>⟨f,h,rfl,rfl,λ_ _ h=>h⟩,λk x h=>⟨x,h,cAu _⟩⟩
theorem mF.grow{w w':den tNw}{p:den tPk}(h:mF w p)(g:aNp w w'):mF w' p:=λk f' x' hf hx=>by
 obtain⟨f,hf0,e1,e2,e3⟩:=g.flow k f' hf;obtain⟨x,hx0,e4⟩:=g.box k x' hx;obtain⟨h1,h2⟩:=h k f x hf0 hx0;rw[e1,e2];refine⟨λa b c=> ?_,λa b c=>Int.lt_of_lt_of_le (h2 a b c) e4⟩;obtain⟨q1,q2,s,q3,q4⟩:=h1 a b c;exact⟨q1,q2,s,q3,e3 s _ q4⟩
theorem mF.goTo{w:den tNw}{p:den tPk}(h:mF w p)(i j b:Int):mF w (goTo p i j b):=h
theorem aK9{w:den tNw}{p:den tPk}(h:p.1=(3:Int)):mF w p:=λk f x _ _=>⟨λe=>absurd (h.symm.trans e) (by decide),λe=>absurd (h.symm.trans e) (by decide)⟩
theorem bL.same{t:den tTo}{w w':den tNw}(h:bL t w)(e1:nT w'=nT w)(e2:aB w'=aB w)(e3:aQ w'=aQ w)(e4:∀y∈aE w',y∈aE w\/(mF w y.2.2/\cH t y.1=true)):bL t w':=by
 have g:aNp w w':=⟨λk f h=>⟨f,by rw[<- e2];exact h,rfl,rfl,λ_ _ h=>h⟩,λk x h=>⟨x,by rw[<- e3];exact h,cAu _⟩⟩
 refine⟨e1.trans h.top,by rw[e2,e3];exact h.lenB,λk f x hf hx=>h.flow k f x (by rw[<- e2];exact hf) (by rw[<- e3];exact hx),by rw[e2];exact h.uniq,λy hy=> ?_,λy hy=> ?_⟩
 .rcases e4 y hy with hy | ⟨hy,_⟩
  .exact λhv=>(h.good y hy hv).grow g
  .exact λ_=>hy.grow g
 .rcases e4 y hy with hy | ⟨_,hy⟩
  .exact h.to y hy
  .exact hy
theorem bL.drop{t:den tTo}{w:den tNw}(h:bL t w):bL t (sT w):=h.same rfl rfl rfl λy hy=> .inl hy
theorem bL.map{t:den tTo}{w:den tNw}(h:bL t w){l:lFl}(hl:l.length=(aB w).length)
  (hm:∀(k:Nat) (f':den tFl),l[k]? =some f'-> ∃f,(aB w)[k]? =some f/\f'.1=f.1/\f'.2.1=f.2.1/\(∀(s:Nat) (m:List Int),f.2.2.2.2.1[s]? =some m->f'.2.2.2.2.1[s]? =some m)/\ ∀x,(aQ w)[k]? =some x->wH t f x->wH t f' x):bL t (bR w l):=by
 have g:aNp w (bR w l):=⟨λk f' hf=>by
  obtain⟨f,a,b,c,d,_⟩:=hm k f' hf;exact⟨f,a,b,c,d⟩,λk x h=>⟨x,h,cAu _⟩⟩
 refine⟨h.top,by show (aQ w).length=l.length;rw[hl];exact h.lenB,λk f' x hf hx=> ?_,?_,λy hy hv=>(h.good y hy hv).grow g,h.to⟩
 .obtain⟨f,a,_,_,_,e⟩:=hm k f' hf;exact e x hx (h.flow k f x a hx)
 .show l.Pairwise _;rw[cBv];intro i j hi hj hij;obtain⟨f,a,b,c,_⟩:=hm i l[i] (bZw hi);obtain⟨f',a',b',c',_⟩:=hm j l[j] (bZw hj);obtain⟨hi',ei⟩:=bZy.1 a;obtain⟨hj',ej⟩:=bZy.1 a';have :=(cBv.1 h.uniq) i j hi' hj' hij;rw[ei,ej]at this;unfold sF at this ⊢;rw[b,c,b',c'];exact this
theorem bL.one{t:den tTo}{w:den tNw}(h:bL t w){i j:Nat}{f g:den tFl}(hf:(aB w)[i]? =some f)(hg:(aB w)[j]? =some g)(e1:f.1=g.1)(e2:f.2.1=g.2.1):i=j:=by
 obtain⟨hi,ei⟩:=bZy.1 hf;obtain⟨hj,ej⟩:=bZy.1 hg;have hs:∀a b:den tFl,a.1=b.1->a.2.1=b.2.1->sF b a=true:=λa b x y=>by
  unfold sF;rw[x,y];simp
 rcases Nat.lt_trichotomy i j with c | c | c
 .have :=(cBv.1 h.uniq) i j hi hj c;rw[ei,ej,hs f g e1 e2]at this;cases this
 .exact c
 .have :=(cBv.1 h.uniq) j i hj hi c;rw[ei,ej,hs g f e1.symm e2.symm]at this;cases this
theorem bHy{t:den tTo}{f:den tFl}{x:den tIb}{p:den tPk}(h:wH t f x)(hp:vZ f p=true->p.2.2.2.2.2.2.2.2.1<x.2.2.1):wH t (jH f p) x:=by
 unfold jH;split
 .rename_i ha;have hs:=hp ha;unfold vZ at ha;simp only[bZu,beq_iff_eq]at ha;obtain⟨_,_,_,h4,h5⟩:=ha;obtain⟨h6,h7⟩:=aS.1 h5;have hn:=h.next
  have hv:=(mE f).1 h.val;have hm:f.2.2.2.2.1.length<=20:=hv.2.2.2.2.1;have e:wr (f.2.2.2.1+1)=f.2.2.2.1+1:=aY (by omega) (by omega);rw[e];refine⟨?_,h.src,h.dst,h.xAS,h.xFrom,h.next,h.recv,h.len,?_,h.paths⟩
  .rw[mE];obtain⟨q1,q2,q3,q4,q5,q6,q7,q8,q9,q10,q11,q12⟩:=hv;exact⟨q1,q2,q3,q4,q5,aS.2 ⟨by show (0:Int)<=f.2.2.2.1+1;omega,by show (f.2.2.2.2.1.length:Int)>=f.2.2.2.1+1;omega⟩,q7,q8,q9,q10,rfl,q12⟩
  .have e1:f.2.2.2.1<x.2.2.1:=h4▸hs;rw[hn]at e1;exact Int.add_one_le_of_lt e1
 .exact h
theorem bFu{t:den tTo}{f:den tFl}{x:den tIb}{p:den tPk}(h:wH t f x):wH t (iK f p) x:=by
 unfold iK;cases p.1==3&&(sD p.2.2.2.2.2.2.2.2.2).2.2.2 with
 | false=>exact h
 | true=>
  rw[zZ];have hv:=(mE f).1 h.val;refine⟨?_,h.src,h.dst,h.xAS,h.xFrom,h.next,h.recv,h.len,h.ack,h.paths⟩;rw[mE];obtain⟨q1,q2,q3,q4,q5,q6,q7,q8,q9,q10,q11,q12⟩:=hv;obtain⟨r1,r2⟩:=bPa (l:=f.2.2.2.2.2.2.2.2) (x:=tE p.2.2.2.2.2.2.2.2.2) ⟨q12,q9⟩;refine⟨q1,q2,q3,q4,q5,q6,q7,q8,r2,?_,?_,r1⟩
  .show cond _ _ _=(0:Int)\/inR (cond _ _ _) 0 _=true;cases aJ6 f (tE p.2.2.2.2.2.2.2.2.2) with
   | false=>exact q10
   | true=>exact aW5 q7 q10
  .show inR (cond _ _ _) 0 4=true;cases aJ6 f (tE p.2.2.2.2.2.2.2.2.2) with
   | false=>exact q11
   | true=>rfl
theorem bJs(f:den tFl)(p:den tPk):(jH f p).1=f.1/\(jH f p).2.1=f.2.1/\(jH f p).2.2.2.2.1=f.2.2.2.2.1:=by
 unfold jH;split<;>exact⟨rfl,rfl,rfl⟩
theorem aUz(f:den tFl)(p:den tPk):(iK f p).1=f.1/\(iK f p).2.1=f.2.1/\(iK f p).2.2.2.2.1=f.2.2.2.2.1:=by
 unfold iK;cases p.1==3&&(sD p.2.2.2.2.2.2.2.2.2).2.2.2<;>exact⟨rfl,rfl,rfl⟩
theorem bL.tell{t:den tTo}{w:den tNw}{p:den tPk}(h:bL t w)(hg:mF w p)(r:Int):bL t (sS w r p):=by
 refine h.map (by simp) λk f' hf'=> ?_
 rw[cBq]at hf';obtain⟨f,hf,rfl⟩:=cAp.1 hf';have ht:(cI r p f).1=f.1/\(cI r p f).2.1=f.2.1/\(cI r p f).2.2.2.2.1=f.2.2.2.2.1:=by
  unfold cI;split
  .split
   .exact bJs f p
   .exact aUz f p
  .exact⟨rfl,rfl,rfl⟩
 refine⟨f,hf,ht.1,ht.2.1,λs m hm=>by rw[ht.2.2];exact hm,λx hx hfx=> ?_⟩;unfold cI;split
 .split
  .refine bHy hfx λha=> ?_
   unfold vZ at ha;simp only[bZu,beq_iff_eq]at ha;exact (hg k f x hf hx).2 ha.1 ha.2.1 ha.2.2.1
  .exact bFu hfx
 .exact hfx
theorem bL.send{t:den tTo}{w:den tNw}{p:den tPk}(h:bL t w)(hg:mF w p){r eg:Int}(hr:cH t (remote t r eg).1=true):bL t (eH w r eg p):=by
 unfold eH;split
 .refine h.same rfl rfl rfl λy hy=> ?_
  rcases bZ2.1 (show y∈aE w++_ from hy) with hy | hy
  .exact .inl hy
  .have :y=_:=bZz.1 hy;subst this;exact .inr ⟨hg,by rw[h.top];exact hr⟩
 .exact h.drop
theorem bE2{t:den tTo}{w:den tNw}{k:Nat}{f:den tFl}{x:den tIb}{p:den tPk}(hf:(aB w)[k]? =some f)(hx:(aQ w)[k]? =some x)(hg:mF w p)(h:wH t f x):wH t f (cV x p)/\x.2.2.1<=(cV x p).2.2.1:=by
 unfold cV;split
 .rename_i ht;unfold aWp xC at ht;simp only[bZu,beq_iff_eq,zR]at ht;obtain⟨⟨h1,h2,h3⟩,h4,h5⟩:=ht;obtain⟨_,_,s,g1,g2⟩:=(hg k f x hf hx).1 h1 (by rw[h2,h.xFrom]) (by rw[h3,h.xAS]);have hn:=eqI h.next
  have h5:=ltI h5;have h4':=eqI h4;have g1':=eqI g1;have hs:s=x.2.2.2.length:=by omega
  subst hs;obtain⟨hlt,he⟩:=bZy.1 g2;have e:wr (x.2.2.1+1)=((x.2.2.2.length+1:Nat):Int):=by
   rw[hn];exact gR (by omega)
  rw[e];have ha:=leI h.ack;refine⟨⟨h.val,h.src,h.dst,h.xAS,h.xFrom,by show ((x.2.2.2.length+1:Nat):Int)=((x.2.2.2++[_]).length:Int);simp,?_,?_,?_,h.paths⟩,?_⟩
  .show x.2.2.2++[p.2.2.2.2.2.2.2.2.2]=f.2.2.2.2.1.take (x.2.2.2++[p.2.2.2.2.2.2.2.2.2]).length;rw[cAh,cBe,List.take_add_one,g2,<- h.recv];rfl
  .show (x.2.2.2++[p.2.2.2.2.2.2.2.2.2]).length<=_;rw[cAh,cBe];omega
  .refine leI (a:=f.2.2.2.1) (b:=((x.2.2.2++[p.2.2.2.2.2.2.2.2.2]).length:Int)) ?_;rw[cAh,cBe];omega
  .refine leI (a:=x.2.2.1) (b:=((x.2.2.2.length+1:Nat):Int)) ?_;omega
 .exact⟨h,cAu _⟩
theorem bL.box{t:den tTo}{w:den tNw}{k:Nat}{x x':den tIb}(h:bL t w)(hx:(aQ w)[k]? =some x)(hn:x.2.2.1<=x'.2.2.1)(hf:∀f,(aB w)[k]? =some f->wH t f x'):bL t (nV w k x')/\aNp w (nV w k x'):=by
 have hk:k<(aQ w).length:=(bZy.1 hx).1;have g:aNp w (nV w k x'):=⟨λk f h=>⟨f,h,rfl,rfl,λ_ _ h=>h⟩,λj y hy=>by
  replace hy:((aQ w).set k x')[j]? =some y:=hy;rw[cBx]at hy;split at hy
  .rename_i e;subst e
   try rw[zT hk]at hy
   injection hy with hy;subst hy;exact⟨x,hx,hn⟩
  .exact⟨y,hy,cAu _⟩⟩
 refine⟨⟨h.top,by show ((aQ w).set k x').length=_;rw[cBl];exact h.lenB,λj f y hf' hy=> ?_,h.uniq,λy hy hv=>(h.good y hy hv).grow g,h.to⟩,g⟩;replace hy:((aQ w).set k x')[j]? =some y:=hy;rw[cBx]at hy;split at hy
 .rename_i e;subst e
  try rw[zT hk]at hy
  injection hy with hy;subst hy;exact hf f hf'
 .exact h.flow j f y hf' hy
theorem bMk{t:den tTo}{w:den tNw}{k:Nat}{x:den tIb}{p:den tPk}(h:bL t w)(hk:∃f,(aB w)[k]? =some f)(hx:(aQ w)[k]? =some x)(ha:zJ x p=true)(hg:mF w p):mF w (lB x p):=by
 obtain⟨f,hf⟩:=hk;have hfx:=h.flow k f x hf hx;unfold zJ xC at ha;simp only[bZu,beq_iff_eq,cAx,decide_eq_false_iff_not]at ha;obtain⟨⟨h1,h2,h3⟩,h4⟩:=ha;have e1:(p.2.1:Int)=f.1:=h2.trans hfx.xFrom;have e2:(p.2.2.1:Int)=f.2.1:=h3.trans hfx.xAS;obtain⟨p1,p2,_⟩:=(hg k f x hf hx).1 h1 e1 e2;have he:ends (fF p.2.2.2.1)=(f.2.1,f.1):=aHg ((aF2 _).1.trans p2) ((aF2 _).2.trans p1);have hm:lB x p=dT 2 (fF p.2.2.2.1) p.2.2.2.2.2.2.2.1 p.2.2.2.2.2.2.2.2.1 []:=by
  unfold lB;rw[zT (by
   unfold zJ xC;simp only[bZu,beq_iff_eq,cAx,decide_eq_false_iff_not];exact⟨⟨h1,h2,h3⟩,h4⟩)]
  rfl
 intro j g y hg' hy;refine⟨λe=> ?_,λ_ a b=> ?_⟩
 .rw[hm]at e;exact absurd e (show ¬ ((2:Int)=1) by decide)
 .rw[hm]at a b ⊢;have a:(ends (fF p.2.2.2.1)).1=g.2.1:=a;have b:(ends (fF p.2.2.2.1)).2=g.1:=b;rw[he]at a b;have hj:k=j:=h.one hf hg' b a;subst hj;have :some x=some y:=hx.symm.trans hy;injection this with this;subst this;exact Int.not_le.1 h4
theorem aZ8{t:den tTo}{x:den tPp}(h:fA t x=true){k:Nat}{y:den bG}(hy:x.2.2.2[k]? =some y):cH t y.1=true/\(k=0\/aGt t x ((x.2.2.2[k - 1]?).getD h0) y=true):=by
 unfold fA at h;simp only[bZu]at h;obtain⟨_,_,_,_,h5,h6⟩:=h;have a:=(wX (aA7 t x.2.2.2) x.2.2.2).1 h5 k y hy;have b:=(wX (wA t x) x.2.2.2).1 h6 k y hy;unfold aA7 at a;unfold wA at b;simp only[bZu]at a;rw[cBf,zR]at b;exact⟨a.2.1,b⟩
theorem bWl{t:den tTo}{p:den tPk}(hw:wfP t p.2.2.2.1=true)(hh:cO p=true)(hz:0<=cF p)(hl:dI p=true)(ha:dQ p=false):cF (adv p)=cF p/\(adv p).2.2.2.2.1=p.2.2.2.2.1+1/\(adv p).2.2.2.1=p.2.2.2.1:=by
 obtain⟨i,e1,e2⟩:=bDq hh hz hl ha;obtain⟨i',j,f1,f2,f3,f4,f5⟩:=nE hh;have f1':=eqI f1;have :i'=i:=by have :=eqI (f1.symm.trans e1);omega
 subst this;have e:adv p=goTo p (p.2.2.2.2.1+1) 0 (qH p).2.2.1:=by
  unfold adv;rw[ha,hl,zW (show ¬ cF p<0 by omega)];rfl
 rw[e];refine⟨?_,rfl,rfl⟩;obtain⟨v1,v2⟩:=aSs hw e2;obtain⟨u1,_⟩:=aSs hw f3;have hj:aHs (bQ p) (qH p)=true:=by
  rcases v2 with v2 | v2
  .omega
  .rw[show i'+1 - 1=i' by omega,f3]at v2;exact v2
 unfold aHs at hj;rw[bZu,beq_iff_eq]at hj;have hp:=aZ7 v1;have hq:=aZ7 u1;have hhd:(qH p).2.2.2[0]? =some (aA0 (qH p)):=by
  unfold aA0;rw[bZw hp];rfl
 have hjl:j=(bQ p).2.2.2.length - 1:=by
  unfold dI at hl;rw[beq_iff_eq,f2]at hl;have hl:=eqI hl;omega
 have hlt:xZ (bQ p)=dN p:=by
  unfold xZ;rw[<- hjl,f4];rfl
 have hn:cO (goTo p (p.2.2.2.2.1+1) 0 (qH p).2.2.1)=true/\bQ (goTo p (p.2.2.2.2.1+1) 0 (qH p).2.2.1)=qH p/\dN (goTo p (p.2.2.2.2.1+1) 0 (qH p).2.2.1)=aA0 (qH p):=by
  have en:(p.2.2.2.2.1+1).toNat=i'+1:=by rw[f1];omega
  have a:bQ (goTo p (p.2.2.2.2.1+1) 0 (qH p).2.2.1)=qH p:=by
   show (p.2.2.2.1[(p.2.2.2.2.1+1).toNat]?).getD pt0=_;rw[en,e2];rfl
  refine⟨?_,a,?_⟩
  .have hlen:=(bZy.1 e2).1;show (inR (p.2.2.2.2.1+1) 0 ((p.2.2.2.1.length:Int) - 1)&&inR (0:Int) 0 (((((p.2.2.2.1[(p.2.2.2.2.1+1).toNat]?).getD (0,0,0,[])).2.2.2.length:Nat):Int) - 1))=true;rw[en,e2,f1,bZu];refine⟨aS.2 ⟨by omega,by omega⟩,aS.2 ⟨by omega,?_⟩⟩;show (0:Int)<=((qH p).2.2.2.length:Int) - 1;omega
  .unfold dN;rw[a];show ((qH p).2.2.2[(0:Int).toNat]?).getD h0=_;rw[show (0:Int).toNat=0 from rfl,hhd];rfl
 obtain⟨_,_,_,_,_,_,g⟩:=nE hn.1;rw[g,hn.2.2,<- hj.2,hlt,<- f5]
theorem aN5{t:den tTo}{now:Int}:∀(n:Nat) (p:den tPk),wfP t p.2.2.2.1=true->p.2.2.2.2.1+(n:Int)=(p.2.2.2.1.length:Int)->(goC t now n p).1=0->(dI (goC t now n p).2=false\/dQ (goC t now n p).2=true)/\cF (goC t now n p).2=cF p/\(goC t now n p).2.2.2.2.1=p.2.2.2.1
 | 0,p,hw,hn,h=>by
  exfalso;obtain⟨h1,h2⟩:=wC (show dO t now p=0 from h);obtain⟨i,j,f1,_,f3,_⟩:=nE h1;have :=(bZy.1 f3).1;have hn:=eqI hn;have f1:=eqI f1;omega
 | n+1,p,hw,hn,h=>by
  have hc0:=zO h;obtain⟨h1,h2⟩:=wC hc0;obtain⟨s1,s2,_,_,s5,s6⟩:=(aGi t p).cur;have sp:(aX t p).2.2.2.1=p.2.2.2.1:=(aGi t p).1;have si:(aX t p).2.2.2.2.1=p.2.2.2.2.1:=(aGi t p).2.1;unfold goC at h|-;split at h
  .rename_i hc;rw[zT hc];simp only[bZu,cAx]at hc;obtain⟨a1,a2,a3⟩:=bWl (t:=t) (p:=aX t p) (by rw[sp];exact hw) (s1.trans h1) (by rw[s2];exact h2) hc.2.1 hc.2.2;obtain⟨b1,b2,b3⟩:=aN5 n (adv (aX t p)) (by rw[a3,sp];exact hw) (by rw[a2,a3,si,sp];refine eqI ?_;have hn:=eqI hn;omega) h;exact⟨b1,b2.trans (a1.trans s2),b3.trans (a3.trans sp)⟩
  .rename_i hc;rw[zS hc];refine⟨?_,s2,sp⟩;rw[hc0]at hc;show dI (aX t p)=false\/dQ (aX t p)=true;cases hl:dI (aX t p) with
   | false=>exact .inl rfl
   | true=>
    right;rw[hl]at hc;simpa using hc
theorem aT4{t:den tTo}{now:Int}{dead:List Int}{r inn:Int}{p:den tPk}(h:((aD t now dead r inn p).1==0)=true):cH t (remote t r (aD t now dead r inn p).2.1).1=true:=by
 have h:(fwd t r now (eG t dead r) inn p).1=0:=eq_of_beq (show ((fwd t r now (eG t dead r) inn p).1==0)=true from h);unfold aD;unfold fwd at h|-;split at h
 .exact absurd h (show ¬ ((2:Int)=0) by decide)
 rename_i c1;rw[zS c1];split at h
 .exact absurd h (show ¬ ((3:Int)=0) by decide)
 rename_i c2;rw[zS c2];split at h
 .rename_i c3;simp only[cAx,beq_eq_false_iff_ne]at c3;exact absurd h c3
 rename_i c3;rw[zS c3];split at h
 .split at h<;>first | exact absurd h (show ¬ ((1:Int)=0) by decide) | exact absurd h (show ¬ ((2:Int)=0) by decide)
 rename_i c4;rw[zS c4];split at h
 .exact absurd h (show ¬ ((6:Int)=0) by decide)
 rename_i c5;rw[zS c5];split at h
 .exact absurd h (show ¬ ((7:Int)=0) by decide)
 rename_i c6;rw[zS c6];simp only[cBf,cAx,not_or,Bool.not_eq_false,beq_iff_eq]at c1 c3 c4;obtain⟨v1,v2,v3⟩:=c1;have hw:wfP t p.2.2.2.1=true:=by
  unfold mN at v2;rw[bZu]at v2;exact v2.1
 have hh:cO p=true:=by
  unfold dR at v1;simp only[bZu]at v1;exact v1.2.2.1
 obtain⟨i,j,f1,_,f3,_⟩:=nE hh;have hlen:=(bZy.1 f3).1;obtain⟨b1,b2,b3⟩:=aN5 (t:=t) (now:=now) (p.2.2.2.1.length - p.2.2.2.2.1.toNat) p hw (by rw[f1,bZ4];refine eqI ?_;omega) c3;obtain⟨q1,q2,_⟩:=aBd (t:=t) (now:=now) (p.2.2.2.1.length - p.2.2.2.2.1.toNat) p c3;show cH t (remote t r (pEg (bQ (bA t now p).2) (dN (bA t now p).2))).1=true;have e:bA t now p=goC t now (p.2.2.2.1.length - p.2.2.2.2.1.toNat) p:=rfl;have c4:dQ (bA t now p).2=false:=by simpa using c4
 rw[<- e]at b1 b2 b3 q1 q2;generalize (bA t now p).2=q at *;have hl:dI q=false:=b1.elim id λh=>by rw[c4]at h;cases h
 obtain⟨a,b,g1,g2,g3,g4,g5⟩:=nE q1;have b3:(q.2.2.2.1:lPp)=p.2.2.2.1:=b3;have g3':(p.2.2.2.1:lPp)[a]? =some (bQ q):=by rw[<- b3];exact g3
 obtain⟨w1,_⟩:=aSs hw g3';have hb:=(bZy.1 g4).1;have hb2:b+1<(bQ q).2.2.2.length:=by
  unfold dI at hl;rw[g2,beq_eq_false_iff_ne]at hl;have hl: ¬ ((b:Int)=((bQ q).2.2.2.length:Int) - 1):=hl;omega
 obtain⟨y1,y2⟩:=aZ8 w1 (bZw hb2);rcases y2 with y2 | y2
 .omega
 .rw[show b+1 - 1=b by omega,g4]at y2;unfold aGt at y2;simp only[bZu,beq_iff_eq,cA3]at y2;have er:r=(dN q).1:=by
   have :=v3;rw[<- g5,b2];exact this.symm
  rw[er,y2.2.1];exact y1
theorem aBa{w:den tNw}{t:den tTo}{now:Int}{dead:List Int}{r inn:Int}{p:den tPk}(h:mF w p):mF w (aD t now dead r inn p).2.2.1:=by
 obtain⟨i,j,b,e⟩:=aEa t r now (eG t dead r) inn p;unfold aD;rw[e];exact h.goTo i j b
theorem aVg{t:den tTo}{w:den tNw}{r inn:Int}{p:den tPk}(h:bL t w)(hg:mF w p):bL t (proc0 w r inn p):=by
 unfold proc0;split
 .rename_i hc;exact h.send (aBa hg) (by rw[<- h.top];exact aT4 hc)
 .split
  .exact h.tell (aBa hg) r
  .exact h.drop
theorem bJ5{t:den tTo}{w:den tNw}{r:Int}{p:den tPk}(h:bL t w)(hg:mF w p):bL t (nB w r p):=by
 unfold nB;split
 .exact h
 .rename_i hc;rcases aNd (aQ w) r p.2.1 with hf | ⟨k,x,hf,hx⟩
  .rw[hf]at hc;exact absurd (by decide) hc
  .have hba:iT w k=x:=by unfold iT;rw[hx];rfl
   rw[hf,bZ4,hba];have hk:=(bZy.1 hx).1;have hkf:k<(aB w).length:=by rw[<- h.lenB];exact hk
   have hfl:(aB w)[k]? =some (aB w)[k]:=bZw hkf;obtain⟨d1,d2⟩:=bE2 hfl hx hg (h.flow k _ x hfl hx);obtain⟨b1,b2⟩:=h.box hx d2 (λf hf'=>by
    have :some f=some (aB w)[k]:=hf'.symm.trans hfl;injection this with this;rw[this];exact d1)
   split
   .rename_i ha;refine aVg b1 (bMk b1 ⟨_,hfl⟩ ?_ ha (hg.grow b2));show ((aQ w).set k (cV x p))[k]? =_;rw[cB4 hk]
   .exact b1
theorem aCg{t:den tTo}{w:den tNw}{r inn:Int}{p:den tPk}(h:bL t w)(hg:aNs w p):bL t (cZ w r inn p):=by
 cases hv:dR p with
 | false=>rw[aT8 hv];exact h.drop
 | true=>
  have hg:=hg hv;unfold cZ;split
  .rename_i hc;exact h.send (aBa hg) (by rw[<- h.top];exact aT4 hc)
  .split
   .split
    .exact bJ5 h (aBa hg)
    .exact h.tell (aBa hg) r
   .split
    .unfold oM;split
     .exact (aVg h (aK9 rfl)).drop
     .exact (h.tell (aK9 rfl) r).drop
    .exact h.drop
theorem vQ(f:den tFl):∃c wt:Int,(aI f).1=setCW f c wt/\((aI f).2.2=true->(aI f).2.1=lE (setCW f c wt)/\sends (setCW f c wt)=true):=by
 unfold aI;split
 .rename_i hs;split
  .exact⟨_,_,rfl,λ_=>⟨rfl,hs⟩⟩
  .split
   .exact⟨_,_,rfl,λh=>⟨rfl,h⟩⟩
   .exact⟨_,_,rfl,λh=>by cases h⟩
 .exact⟨_,_,rfl,λh=>by cases h⟩
theorem bL.set{t:den tTo}{w:den tNw}(h:bL t w){k:Nat}{f g:den tFl}(hf:(aB w)[k]? =some f)(e1:g.1=f.1)(e2:g.2.1=f.2.1)(e3:∀(s:Nat) (m:List Int),f.2.2.2.2.1[s]? =some m->g.2.2.2.2.1[s]? =some m)(e4:∀x,wH t f x->wH t g x):bL t (bR w ((aB w).set k g)):=by
 refine h.map (by simp) λj f' hf'=> ?_
 rw[cBx]at hf';split at hf'
 .rename_i e;subst e;rw[zT (bZy.1 hf).1]at hf';injection hf' with hf';subst hf';exact⟨f,hf,e1,e2,e3,λx _=>e4 x⟩
 .exact⟨f',hf',rfl,rfl,λ_ _ h=>h,λx _ h=>h⟩
theorem aUm{t:den tTo}{w:den tNw}{k:Nat}{g:den tFl}(h:bL t w)(hg:(aB w)[k]? =some g)(hs:sends g=true):mF w (lE g):=by
 have hk:k<(aQ w).length:=by rw[h.lenB];exact (bZy.1 hg).1
 have hfi:=h.flow k g _ hg (bZw hk);have hs':=hs;unfold sends at hs';rw[bZu]at hs';obtain⟨a0,a1⟩:=aS.1 hs'.1;obtain⟨b0,b1⟩:=aS.1 hs'.2;have hc:g.2.2.2.2.2.2.1.toNat<g.2.2.2.2.2.1.length:=by omega
 have ha:g.2.2.2.1.toNat<g.2.2.2.2.1.length:=by omega
 have hpth:g.2.2.2.2.2.1[g.2.2.2.2.2.2.1.toNat]? =some (g.2.2.2.2.2.1[g.2.2.2.2.2.2.1.toNat]'hc):=bZw hc;have hmsg:g.2.2.2.2.1[g.2.2.2.1.toNat]? =some (g.2.2.2.2.1[g.2.2.2.1.toNat]'ha):=bZw ha;obtain⟨p1,p2⟩:=hfi.paths _ (bZ9 hpth);have he:=aHg p1 p2;have e:lE g=dT 1 (g.2.2.2.2.2.1[g.2.2.2.2.2.2.1.toNat]'hc) g.2.2.1 g.2.2.2.1 (g.2.2.2.2.1[g.2.2.2.1.toNat]'ha):=by
  unfold lE;rw[zT hs,hpth,hmsg];rfl
 rw[e];intro j f x hf hx;refine⟨λ_ a b=> ?_,λa=>absurd a (show ¬ ((1:Int)=2) by decide)⟩;have a:(ends (g.2.2.2.2.2.1[g.2.2.2.2.2.2.1.toNat]'hc)).1=f.1:=a;have b:(ends (g.2.2.2.2.2.1[g.2.2.2.2.2.2.1.toNat]'hc)).2=f.2.1:=b;rw[he]at a b;have hj:k=j:=h.one hg hf a b;subst hj;have :some g=some f:=hg.symm.trans hf;injection this with this;subst this;exact⟨p1,p2,g.2.2.2.1.toNat,(Int.toNat_of_nonneg b0).symm,hmsg⟩
theorem aFq{t:den tTo}{w:den tNw}(k:Nat)(h:bL t w):bL t (stepT k w):=by
 unfold stepT;split
 .rename_i f hf;obtain⟨c,wt,e1,e2⟩:=vQ f;have hset:bL t (bR w ((aB w).set k (aI f).1)):=by
   refine h.set hf (by rw[e1];rfl) (by rw[e1];rfl) (λs m hm=>by rw[e1];exact hm) λx hx=> ?_
   have hv:=aTy hx.val;rw[e1]at hv ⊢;exact⟨hv,hx.src,hx.dst,hx.xAS,hx.xFrom,hx.next,hx.recv,hx.len,hx.ack,hx.paths⟩
  split
  .rename_i hb;obtain⟨g1,g2⟩:=e2 hb;rw[<- e1]at g1 g2;refine aCg hset λ_=> ?_
   rw[g1];refine aUm hset (k:=k) ?_ g2;show ((aB w).set k _)[k]? =_;rw[cB4 (bZy.1 hf).1]
  .exact hset
 .exact h
theorem aT0{t:den tTo}:∀(n k:Nat) {w:den tNw},bL t w->bL t (tickL k n w)
 | 0,_,_,h=>h
 | n+1,k,_,h=>aT0 n (k+1) (aFq k h)
theorem aVk{t:den tTo}{w:den tNw}(h:bL t w):bL t (cG w):=by
 unfold cG;split
 .exact h
 .exact aT0 _ _ (h.same (w':=tick0 w) rfl rfl rfl λy hy=> .inl hy)
theorem bTw{t:den tTo}{w:den tNw}{k:Nat}{f:den tFl}{b:List Int}(h:bL t w)(hf:(aB w)[k]? =some f):bL t (bR w ((aB w).set k (aBl f b))):=by
 unfold aBl;split
 .rename_i hv;refine h.set hf rfl rfl (λs m hm=> ?_) λx hx=> ?_
  .show (f.2.2.2.2.1++[b])[s]? =some m;rw[List.getElem?_append_left (bZy.1 hm).1];exact hm
  .refine⟨hv,hx.src,hx.dst,hx.xAS,hx.xFrom,hx.next,?_,?_,hx.ack,hx.paths⟩
   .show x.2.2.2=(f.2.2.2.2.1++[b]).take _;rw[List.take_append_of_le_length hx.len];exact hx.recv
   .show x.2.2.2.length<=(f.2.2.2.2.1++[b]).length;have :=hx.len;rw[cAh];omega
 .exact h.set hf rfl rfl (λ_ _ h=>h) λ_ h=>h
theorem bKn{t:den tTo}{w:den tNw}{e:den jJ}(h:bL t w)(hb:∀x∈aE w,jO x.2.2)(hp:jO e.2.2.2.2.2)(h7:(e.1==(7:Int))=true)(hh:harm w e=true):aNs w e.2.2.2.2.2:=by
 intro hv;unfold harm aTf at hh;rw[h7,hv]at hh;cases h3:(e.2.2.2.2.2.1==(3:Int)) with
 | true=>exact aK9 (eq_of_beq h3)
 | false=>
  rw[h3]at hh;simp only[bZ5,cBu,zY]at hh;cases ha:w.2.2.2.2.2.1.all (λx=> !aO9 x.2.2 e.2.2.2.2.2) with
  | true=>
   rw[ha,zZ,cAi]at hh;intro k f x hf hx;have :=hh f (bZ9 hf);unfold bBv at this;refine⟨λ_ a b=> ?_,λ_ a b=> ?_⟩
   .rw[a,b]at this;simp at this
   .rw[a,b]at this;simp at this
  | false=>
   rw[List.all_eq_false]at ha;obtain⟨x,hx,he⟩:=ha;have hx:x∈aE w:=hx;have he:aO9 x.2.2 e.2.2.2.2.2=true:=by simpa using he
   have :=bPd (hb x hx) hp he;rw[<- this];exact h.good x hx (by rw[this];exact hv)
theorem bCl{t:den tTo}{w:den tNw}{e:den jJ}(h:bL t w)(hb:∀x∈aE w,jO x.2.2)(hp:jO e.2.2.2.2.2)(hh:harm w e=true):bL t (doW w e).2:=by
 have bA:∀i,bL t (zB w i):=λi=>h.same (w':=zB w i) rfl rfl rfl λy hy=> .inl (by
  rcases bZ2.1 (show y∈(aE w).take i++(aE w).drop (i+1) from hy) with hy | hy
  .exact cBg hy
  .exact cBk hy)
 unfold doW;split
 .exact aVk h
 .split
  .split
   .rename_i x hi hx;exact aCg (bA _) (h.good x (bZ9 hx))
   .exact h
  .split
   .split
    .exact (bA _).drop
    .exact h
   .split
    .split
     .rename_i x hi hx;have hm:=bZ9 hx;refine⟨h.top,h.lenB,h.flow,h.uniq,λy hy=> ?_,λy hy=> ?_⟩
      .rcases bZ2.1 (show y∈aE w++[x] from hy) with hy | hy
       .exact h.good y hy
       .rw[bZz.1 hy];exact h.good x hm
      .rcases bZ2.1 (show y∈aE w++[x] from hy) with hy | hy
       .exact h.to y hy
       .rw[bZz.1 hy];exact h.to x hm
     .exact h
    .split
     .show bL t (aV w e.2.1 (e.1==5));unfold aV;split
      .exact h
      .exact h.same rfl rfl rfl λy hy=> .inl hy
     .split
      .rename_i h7;split
       .rename_i hc;rw[bZu]at hc;have hgd:=bKn h hb hp h7 hh;refine⟨h.top,h.lenB,h.flow,h.uniq,λy hy=> ?_,λy hy=> ?_⟩
        .rcases bZ2.1 (show y∈aE w++[e.2.2.2] from hy) with hy | hy
         .exact h.good y hy
         .rw[bZz.1 hy];exact hgd
        .rcases bZ2.1 (show y∈aE w++[e.2.2.2] from hy) with hy | hy
         .exact h.to y hy
         .rw[bZz.1 hy,<- h.top];exact hc.1
       .exact h
      .split
       .split
        .rename_i f hi hf;exact bTw h hf
        .exact h
       .exact h
def bT(l:Nat)(n:Nat)(w:den tNw):Prop:=(l:Int)<=dX w/\(n:Int)>=dX w
abbrev bQk(n:Nat)(w:den tNw):Prop:=bT 0 n w
theorem bT.mono{l:Nat}{n m:Nat}{w:den tNw}(h:bT l n w)(hm:n<=m):bT l m w:=⟨h.1,by have :=h.2;omega⟩
theorem bT.eq{l:Nat}{n:Nat}{w w':den tNw}(h:bT l n w)(e:dX w'=dX w):bT l n w':=by
 unfold bT;rw[e];exact h
theorem bT.drop{l:Nat}{n:Nat}{w:den tNw}(h:bT l n w)(hn:n<=1000000000):bT l (n+1) (sT w):=by
 obtain⟨h0,h1⟩:=h;have e:wr (dX w+1)=dX w+1:=aY (by omega) (by omega);exact⟨by show (l:Int)<=wr (dX w+1);omega,by show ((n+1:Nat):Int)>=wr (dX w+1);omega⟩
theorem bT.send{l:Nat}{n:Nat}{w:den tNw}(h:bT l n w)(hn:n<=1000000000)(r eg:Int)(p:den tPk):bT l (n+1) (eH w r eg p):=by
 unfold eH;split
 .exact h.mono (cAw _)
 .exact h.drop hn
theorem bT.proc0{l:Nat}{n:Nat}{w:den tNw}(h:bT l n w)(hn:n<=1000000000)(r inn:Int)(p:den tPk):bT l (n+1) (proc0 w r inn p):=by
 unfold Go.Proofs.YtnkjolpkcmgcaaaGreat.proc0;split
 .exact h.send hn _ _ _
 .split
  .exact bT.mono (n:=n) (h.eq rfl) (cAw _)
  .exact h.drop hn
theorem bT.proc{l:Nat}{n:Nat}{w:den tNw}(h:bT l n w)(hn:n<=999999000)(r inn:Int)(p:den tPk):bT l (n+2) (cZ w r inn p):=by
 unfold cZ;split
 .exact (h.send (by omega) _ _ _).mono (by omega)
 .split
  .split
   .unfold nB;split
    .exact h.mono (by omega)
    .split
     .refine bT.mono (n:=n+1) (bT.proc0 (n:=n) ?_ (by omega) _ _ _) (by omega);exact bT.eq h rfl
     .exact bT.mono (n:=n) (h.eq rfl) (by omega)
   .exact bT.mono (n:=n) (h.eq rfl) (by omega)
  .split
   .unfold oM;split
    .exact (h.proc0 (by omega) _ _ _).drop (by omega)
    .refine bT.mono (n:=n+1) (bT.drop (n:=n) ?_ (by omega)) (by omega);exact bT.eq h rfl
   .exact (h.drop (by omega)).mono (by omega)
theorem bT.stepT{l:Nat}{n:Nat}{w:den tNw}(h:bT l n w)(hn:n<=999999000)(k:Nat):bT l (n+2) (stepT k w):=by
 unfold Go.Proofs.YtnkjolpkcmgcaaaGreat.stepT;split
 .split
  .refine bT.proc (n:=n) ?_ hn _ _ _;exact bT.eq h rfl
  .exact bT.mono (n:=n) (h.eq rfl) (by omega)
 .exact h.mono (by omega)
theorem bT.tickL{l:Nat}{m:Nat}:∀(m k:Nat) {n:Nat} {w:den tNw},bT l n w->n+2 * m<=999999000->bT l (n+2 * m) (tickL k m w)
 | 0,_,_,_,h,_=>h
 | m+1,k,n,w,h,hn=>by
  unfold Go.Proofs.YtnkjolpkcmgcaaaGreat.tickL;exact (bT.tickL (m:=0) m (k+1) (h.stepT (by omega) k) (by omega)).mono (by omega)
theorem bT.event{l:Nat}{n:Nat}{w:den tNw}{e:den jJ}(h:bT l n w)(hf:(aB w).length<=4)(hn:n<=900000000):bT l (n+8) (doW w e).2:=by
 have same:bT l (n+8) w:=h.mono (by omega);unfold doW;split
 .show bT l (n+8) (cG w);unfold cG;split
  .exact same
  .refine bT.mono (n:=n+2 * (aB w).length) (bT.tickL (m:=0) (aB w).length 0 (n:=n) ?_ (by omega)) (by omega);exact bT.eq h rfl
 .split
  .split
   .refine bT.mono (n:=n+2) (bT.proc (n:=n) ?_ (by omega) _ _ _) (by omega);exact bT.eq h rfl
   .exact same
  .split
   .split
    .refine bT.mono (n:=n+1) (bT.drop (n:=n) ?_ (by omega)) (by omega);exact bT.eq h rfl
    .exact same
   .split
    .split
     .exact same
     .exact same
    .split
     .show bT l (n+8) (aV w e.2.1 (e.1==5));unfold aV;split
      .exact same
      .exact same
     .split
      .split
       .exact same
       .exact same
      .split
       .split
        .exact same
        .exact same
       .exact same
def xD(m:Nat)(l:List Int):Prop:=l.Pairwise (λa b=>a<b)/\ ∀n∈l,0<=n/\n<(m:Int)
theorem aK1(m:Nat)(dead:List Int)(i:Int)(b:Bool):xD m (uA m dead i b):=by
 unfold uA;refine⟨List.Pairwise.filter _ (List.pairwise_map.2 (List.pairwise_lt_range.imp λh=>by omega)),λn hn=> ?_⟩;obtain⟨k,hk,rfl⟩:=bZ1.1 (cAa.1 hn).1;have :=cC2.1 hk;exact⟨by omega,by omega⟩
theorem xD.all{m:Nat}{l:List Int}(h:xD m l):(l.zipIdx 0).all (λz=>aE4 l m z.2 z.1)=true:=by
 refine (wX (aE4 l m) l).2 λk n hn=> ?_
 unfold aE4;have hm:=h.2 n (bZ9 hn);rw[bZu,cBf,zR];refine⟨aS.2 ⟨hm.1,by omega⟩,?_⟩
 by_cases h0:k=0
 .exact .inl h0
 .right;obtain⟨hk,e⟩:=bZy.1 hn;have :=(cBv.1 h.1) (k - 1) k (by omega) hk (by omega);rw[bZw (show k - 1<l.length by omega),cA3];rw[e]at this;rw[zW (show ¬ (l[k - 1]'(by omega)>=n) by omega)];rfl
theorem aIj(w:den tNw)(r eg:Int)(p:den tPk):aH (eH w r eg p)=aH w:=by unfold eH;split<;>rfl
theorem aRf(w:den tNw)(r inn:Int)(p:den tPk):aH (proc0 w r inn p)=aH w:=by
 unfold proc0;split
 .exact aIj _ _ _ _
 .split<;>rfl
theorem bF3(w:den tNw):aH (sT w)=aH w:=rfl
theorem aDo(w:den tNw)(r inn:Int)(p:den tPk):aH (cZ w r inn p)=aH w:=by
 unfold cZ;split
 .exact aIj _ _ _ _
 .split
  .split
   .unfold nB;split
    .rfl
    .split
     .refine Eq.trans (aRf _ _ _ _) ?_;rfl
     .rfl
   .rfl
  .split
   .unfold oM;split
    .rw[bF3];exact aRf _ _ _ _
    .rfl
   .rfl
theorem bEx(k:Nat)(w:den tNw):aH (stepT k w)=aH w:=by
 unfold stepT;split
 .split
  .rename_i f hf hb;exact aDo (bR w ((aB w).set k (aI f).1)) _ _ _
  .rfl
 .rfl
theorem aOv:∀(n k:Nat) (w:den tNw),aH (tickL k n w)=aH w
 | 0,_,_=>rfl
 | n+1,k,w=>by
  unfold tickL;exact (aOv n (k+1) (stepT k w)).trans (bEx k w)
theorem aIn(w:den tNw):aH (cG w)=aH w:=by
 unfold cG;split
 .rfl
 .exact aOv (aB w).length 0 (tick0 w)
theorem aZl{w:den tNw}{e:den jJ}(h:xD (nT w).2.length (aH w)):xD (nT w).2.length (aH (doW w e).2):=by
 unfold doW;split
 .show xD _ (aH (cG w));rw[aIn];exact h
 .split
  .split
   .show xD _ (aH (cZ _ _ _ _));rw[aDo];exact h
   .exact h
  .split
   .split<;>exact h
   .split
    .split<;>exact h
    .split
     .show xD _ (aH (aV w e.2.1 (e.1==5)));unfold aV;split
      .exact h
      .exact aK1 _ _ _ _
     .split
      .split<;>exact h
      .split
       .split<;>exact h
       .exact h
theorem aM6:∀l:lMs,xS l l=true
 | []=>rfl
 | x::l=>by
  show (aH2 x x&&xS l l)=true;rw[aM6 l,Bool.and_true];unfold aH2;exact beq_self_eq_true _
theorem wH.ok{t:den tTo}{f:den tFl}{x:den tIb}(h:wH t f x):xOk x=true/\aDx f x=true:=by
 have hv:=(mE f).1 h.val;obtain⟨q1,q2,q3,q4,q5,q6,q7,q8,q9,q10,q11,q12⟩:=hv;have hl:=h.len;have hn:=h.next
 constructor
 .unfold xOk;simp only[bZu,cAx,beq_eq_false_iff_ne,beq_iff_eq,zR,cAi];refine⟨by rw[h.xAS];exact q2,by rw[h.xFrom];exact q1,λe=>q3 (by rw[<- h.xAS,<- h.xFrom];exact e.symm),hn,?_,λm hm=> ?_⟩
  .show (20:Int)>=x.2.2.1;rw[hn];omega
  .have hm':m∈f.2.2.2.2.1:=by
    rw[h.recv]at hm;exact cBg hm
   exact q8 m hm'
 .unfold aDx;simp only[bZu,beq_iff_eq,zR];refine⟨h.xAS,h.xFrom,hl,?_,h.ack⟩;rw[<- aGr,<- h.recv];exact aM6 _
structure eI (t:den tTo) (B k d:Nat) (w:den tNw):Prop where
 run:rD t B k w
 inv:bL t w
 drop:bQk d w
 dead:xD t.2.length (aH w)
theorem eI.mono{t:den tTo}{B C k j d e:Nat}{w:den tNw}(h:eI t B k d w)(hB:B<=C)(hk:k<=j)(hd:d<=e):eI t C j e w:=⟨h.run.mono hB hk,h.inv,h.drop.mono hd,h.dead⟩
theorem eI.valid{t:den tTo}{B k d:Nat}{w:den tNw}(h:eI t B k d w)(hk:k<=1000)(ht:yP t=true):aGj w=true:=by
 have htop:w.1=t:=h.run.top;have hlo:=leI h.run.lo;have hhi:=leI h.run.hi;have hd:=h.drop.1;have hfl:w.2.2.2.2.2.2.1.length<=4:=h.run.keep.flows;have hfy:w.2.2.2.2.2.1.length<=150:=h.run.flyN;unfold aGj;simp only[bZu,zR,cAx,decide_eq_false_iff_not,cAi];refine⟨by rw[htop];exact ht,aS.2 ⟨hlo,leI (cA6 hhi (by omega))⟩,bSv.2 h.run.gate,?_,hfy,hfl,h.inv.lenB,?_,λx hx=>by rw[htop];exact h.inv.to x hx,?_⟩
 .have :=(xD.all h.dead)
  rw[cAi]at this;rw[htop];exact this
 .show ¬ ((dX w:Int)<0);omega
 .have :(w.2.2.2.2.2.2.1.zipIdx 0).all (λz=>aFm w z.2 z.1&&aE8 w z.2 z.1)=true:=by
   refine (wX (λk f=>aFm w k f&&aE8 w k f) _).2 λj f hf=> ?_
   have hj:=(bZy.1 hf).1;have hb:j<(aQ w).length:=by rw[h.inv.lenB];exact hj
   have hx:(aQ w)[j]? =some (aQ w)[j]:=bZw hb;have hfi:=h.inv.flow j f _ hf hx;obtain⟨o1,o2⟩:=hfi.ok;rw[bZu];constructor
   .unfold aFm;rw[show w.2.2.2.2.2.2.2.1[j]? =some (aQ w)[j] from hx];simp only[bZu];exact⟨hfi.val,by rw[htop];exact hfi.src,by rw[htop];exact hfi.dst,o1,o2⟩
   .unfold aE8;rw[cAi];intro g hg;obtain⟨i,hi,hg⟩:=aFt hg;obtain⟨hi',ei⟩:=bZy.1 hg;obtain⟨hj',ej⟩:=bZy.1 hf;have :=(cBv.1 h.inv.uniq) i j hi' hj' hi;have e1:(aB w)[i]=g:=ei;have e2:(aB w)[j]=f:=ej;rw[e1,e2]at this;rw[this];rfl
  rw[cAi]at this;intro z hz;have :=this z hz;rw[bZu]at this;exact this
structure aC8 (t:den tTo) (k:Nat) (w:den tNw):Prop where
 run:rD t (1000+2000 * k) k w
 inv:bL t w
 drop:bQk (8 * k) w
 dead:xD t.2.length (aH w)
theorem aC8.round{t:den tTo}{k:Nat}{w:den tNw}(h:aC8 t k w):eI t (1000+2000 * k) k (8 * k) w:=⟨h.run,h.inv,h.drop,h.dead⟩
theorem aC8.valid{t:den tTo}{k:Nat}{w:den tNw}(h:aC8 t k w)(hk:k<=1000)(ht:yP t=true):aGj w=true:=h.round.valid hk ht
theorem qX.runV{v:den tNw}(h:qX 3 v):aC8 (nT v) 0 v where
 run:=h.run
 inv:=by
  refine⟨rfl,by rw[h.box,cAr],λk f x hf hx=> ?_,h.uniq,λy hy=>(by rw[h.fly]at hy;cases hy),λy hy=>(by rw[h.fly]at hy;cases hy)⟩;have hm:=bZ9 hf;have hF:=h.flows f hm;rw[h.box,cBq,hf]at hx;have hx:some ((f.2.1,f.1,0,[]):den tIb)=some x:=hx;injection hx with hx;subst hx;exact⟨hF.val,hF.src,hF.dst,rfl,rfl,rfl,rfl,cAe _,by rw[hF.ack];exact cAu _,hF.ends⟩
 drop:=⟨by rw[h.drop];decide,by rw[h.drop];decide⟩
 dead:=by rw[h.dead];exact⟨List.Pairwise.nil,λn hn=>(cAj hn).elim⟩
theorem aC8.event{t:den tTo}{k:Nat}{w:den tNw}{e:den jJ}(h:aC8 t k w)(hk:k<=1000)(ht:t.2.length<=100)(he:EvD w e):aC8 t (k+1) (doW w e).2 where
 run:=(aS8 h.run (by omega) (by omega) he.s).mono (by omega) (bZ7 _)
 inv:=bCl h.inv h.run.keep.bytes.fly he.pk.2 he.harm
 drop:=(h.drop.event h.run.keep.flows (by omega)).mono (by omega)
 dead:=by
  have :=aZl (w:=w) (e:=e) (by rw[h.run.top];exact h.dead);rw[h.run.top]at this;exact this
theorem Ran.runV{v:den tNw}(hv:qX 3 v){l:yL}{w:den tNw}(h:Ran v l w):l.length<=1000->aC8 (nT v) l.length w:=by
 induction h with
 | nil=>intro _;exact hv.runV
 | snoc h he ih=>
  intro hl;simp only[cAh,cBe]at hl ⊢;exact (ih (by omega)).event (by omega) hv.top.links he
theorem aS0:∀{a b:List Int},a.Pairwise (λx y=>x<y)->b.Pairwise (λx y=>x<y)->(∀x,x∈a↔x∈b)->a=b
 | [],[],_,_,_=>rfl
 | [],y::b,_,_,h=>absurd ((h y).2 (by simp)) (by simp)
 | x::a,[],_,_,h=>absurd ((h x).1 (by simp)) (by simp)
 | x::a,y::b,ha,hb,h=>by
  rw[List.pairwise_cons]at ha hb;have hxy:x=y:=by
   rcases bZx.1 ((h x).1 (by simp)) with e | e
   .exact e
   .rcases bZx.1 ((h y).2 (by simp)) with e' | e'
    .exact e'.symm
    .have h1:=ha.1 y e';have h2:=hb.1 x e;omega
  subst hxy;rw[aS0 ha.2 hb.2 λz=> ?_];constructor
  .intro hz;have :=ha.1 z hz;rcases bZx.1 ((h z).1 (bZ0 _ hz)) with e | e
   .omega
   .exact e
  .intro hz;have :=hb.1 z hz;rcases bZx.1 ((h z).2 (bZ0 _ hz)) with e | e
   .omega
   .exact e
theorem bTp{l:List Int}{n:Int}(h:l.Pairwise λx y=>x<y):(oI l n).Pairwise λx y=>x<y:=by
 unfold oI;split
 .exact h
 .rename_i hne;have hlt:∀x∈l.take (jU l n),x<n:=λx hx=>by
   obtain⟨i,hi,he⟩:=aFt hx;obtain⟨hil,e⟩:=bZy.1 he;have :=List.not_of_lt_findIdx (p:=λx=> !decide (x<n)) (xs:=l) (show i<l.findIdx _ from hi);rw[e]at this;simpa using this
  have hgt:∀x∈l.drop (jU l n),n<x:=λx hx=>by
   obtain⟨i,he⟩:=cC6.1 hx;rw[cBj]at he;obtain⟨hil,e⟩:=bZy.1 he;have hp:jU l n<l.length:=by omega
   have h1:=List.findIdx_getElem (p:=λx=> !decide (x<n)) (xs:=l) (w:=hp);have h1: ¬ (l[jU l n]'hp<n):=by
    have h1:(!decide (l[jU l n]'hp<n))=true:=h1;simpa using h1
   have h2:l[jU l n]'hp≠n:=λe'=>hne (by rw[bZw hp,e'])
   by_cases hi0:i=0
   .subst hi0;have e:l[jU l n]'hp=x:=e;omega
   .have :=(cBv.1 h) (jU l n) (jU l n+i) hp hil (by omega);rw[e]at this;omega
  rw[cAg,cDj];refine⟨h.sublist (List.take_sublist _ _),?_,λx hx y hy=> ?_⟩
  .rw[cDa,List.pairwise_cons];exact⟨hgt,h.sublist (List.drop_sublist _ _)⟩
  .rcases bZ2.1 hy with hy | hy
   .rw[bZz.1 hy];exact hlt x hx
   .have :=hlt x hx;have :=hgt y hy;omega
theorem aEq{l:List Int}{n:Int}:qQ l n=true↔n∈l:=by
 unfold qQ;rw[cAx,List.all_eq_false];constructor
 .rintro⟨x,hx,e⟩
  have :x=n:=by simpa using e
  rw[<- this];exact hx
 .intro h;exact⟨n,h,by simp⟩
theorem aT9{m:Nat}{dead:List Int}{i x:Int}{b:Bool}:x∈uA m dead i b↔(0<=x/\x<(m:Int))/\((x∈dead/\x≠i)\/(b=true/\x=i)):=by
 unfold uA;rw[cAa];constructor
 .rintro⟨h1,h2⟩
  obtain⟨k,hk,rfl⟩:=bZ1.1 h1;have :=cC2.1 hk;simp only[cBf,bZu,bne_iff_ne,beq_iff_eq]at h2;exact⟨⟨by omega,by omega⟩,h2.imp (λh=>⟨aEq.1 h.1,h.2⟩) id⟩
 .rintro⟨⟨h1,h2⟩,h3⟩
  obtain⟨k,rfl⟩:=cA0 h1;refine⟨bZ1.2 ⟨k,cC2.2 (by omega),rfl⟩,?_⟩;simp only[cBf,bZu,bne_iff_ne,beq_iff_eq];exact h3.imp (λh=>⟨aEq.2 h.1,h.2⟩) id
theorem bKv{m:Nat}{dead:List Int}{i:Int}(h:xD m dead)(hi:0<=i/\i<(m:Int)):oI dead i=uA m dead i true:=by
 refine aS0 (bTp h.1) (aK1 m dead i true).1 λx=> ?_
 rw[aT9];constructor
 .intro hx;rcases aBf hx with rfl | hx
  .exact⟨hi,.inr ⟨rfl,rfl⟩⟩
  .by_cases e:x=i
   .subst e;exact⟨hi,.inr ⟨rfl,rfl⟩⟩
   .exact⟨h.2 x hx,.inl ⟨hx,e⟩⟩
 .rintro⟨_,⟨hx,_⟩ | ⟨_,rfl⟩⟩
  .exact aBe hx
  .exact aFj _ _
theorem bIn{m:Nat}{dead:List Int}{i:Int}(h:xD m dead):(dead.filter λx=>x != i)=uA m dead i false:=by
 refine aS0 (h.1.filter _) (aK1 m dead i false).1 λx=> ?_
 rw[aT9,cAa];constructor
 .rintro⟨hx,e⟩
  exact⟨h.2 x hx,.inl ⟨hx,by simpa using e⟩⟩
 .rintro⟨_,⟨hx,e⟩ | ⟨e,_⟩⟩
  .exact⟨hx,by simpa using e⟩
  .cases e
theorem bIr{w:den tNw}{i:Nat}{x:den tFy}(hx:(aE w)[i]? =some x)(hl:(aE w).length<=1073741824):eW w (i:Int)=some (jS x (zB w i)):=by
 have hlt:i<(aE w).length:=(bZy.1 hx).1;have hx:w.2.2.2.2.2.1[((i:Nat):Int).toNat]? =some x:=by rw[bZ4];exact hx
 have h1:decide ((i:Int)<(w.2.2.2.2.2.1.length:Int))=true:=zX (by have :i<w.2.2.2.2.2.1.length:=hlt;omega);have e1:wr ((i:Int)+1)=((i+1:Nat):Int):=(wri (by omega) (by omega)).trans (by omega);have h2:cC ((i+1:Nat):Int) (w.2.2.2.2.2.1.length:Int) (w.2.2.2.2.2.1.length:Int)=true:=aCl (show i+1<=w.2.2.2.2.2.1.length from hlt);have h3:cC (0:Int) (i:Int) (w.2.2.2.2.2.1.length:Int)=true:=aG2 (k:=i) (Nat.le_of_lt hlt);have hl:w.2.2.2.2.2.1.length<=1073741824:=hl;unfold eW ixb bF bO bV zz4 zz5 zz6 zz7 zz8 zz9;simp only[h1,hx,aA,zZ,e1,h2,h3,jE,aEt,cAl,aF (b:=128) (n:=([]:lFy).length) (m:=(w.2.2.2.2.2.1.take i).length) (by decide) (by simp;omega),aF (b:=128) (n:=(w.2.2.2.2.2.1.take i).length) (m:=(w.2.2.2.2.2.1.drop (i+1)).length) (by decide) (by simp;omega),zX (show (0:Int)<=(i:Int) by omega)];rfl
theorem bY3{B F:Nat}{w:den tNw}{e:den jJ}(hF:F<=1000)(hk:eY B F w)(hB:B+(F+1) * (160+F)<=536870912)(h9:(e.1==(9:Int))=false)(hd:SmB 4294967296 (.sl tb) e.2.2.1)(hp:tot tPk e.2.2.2.2.2<=34359738368)(hdead:xD (nT w).2.length (aH w)):kX w e=some ((doW w e).1,bX (doW w e).2):=by
 obtain⟨kd,n,data,to,ing,pk⟩:=e;simp only at h9 hd hp;have hB0:B<=536870912:=by have :=cAe ((F+1) * (160+F));omega
 have hB1:B+F * (160+F)<=536870912:=by rw[cAo]at hB;omega
 have l1:w.2.2.2.2.2.1.length<=1073741824:=bC1 hk (by omega);have l2:w.2.2.2.2.2.2.1.length<=1073741824:=bZv hk.flows (by omega);obtain⟨n1,n2,n3⟩:=aMk hk (by omega);have l3:w.1.2.length<=1073741824:=n1.links;have l4:w.2.2.2.2.1.length<=1073741824:=by
  have h1:=fY w;have h2:=fB (t:=ti) (aH w);have h3:=hk.tot;have h4:(aH w).length<=1073741824:=by omega
  exact h4
 have w1:wr ((w.2.2.2.2.2.1.length:Int) - 1)=(w.2.2.2.2.2.1.length:Int) - 1:=wR (by omega);have w2:wr ((w.2.2.2.2.2.2.1.length:Int) - 1)=(w.2.2.2.2.2.2.1.length:Int) - 1:=wR (by omega);have w3:wr ((w.1.2.length:Int) - 1)=(w.1.2.length:Int) - 1:=wR (by omega);have a1:aJ 128 w.2.2.2.2.2.1.length 1=true:=aF (by decide) (by omega);unfold kX doW ixb bF qN bVt pj2 pj3 pj9 kW bO bV cJ iH xO aGo aGe aK3 aOm aNg bAe bAk bAf aWv aY2 zz4 zz5 zz6 zz7 zz8 zz9;simp only[w1,w2,w3,jX,aA];cases c1:(kd==(1:Int)) with
 | true=>
  simp only[zZ];rw[show ((w.1,w.2.1,w.2.2.1,w.2.2.2.1,w.2.2.2.2.1,w.2.2.2.2.2.1,w.2.2.2.2.2.2.1,w.2.2.2.2.2.2.2.1,w.2.2.2.2.2.2.2.2):den tNw)=w from rfl,bC0 hF hk hB1];rfl
 | false=>
 cases c2:(kd==(2:Int)) with
 | true=>
  have c3:(kd==(3:Int))=false:=by rw[eq_of_beq c2];rfl
  simp only[zY,zZ,aA,c3,bZ8,zU,zV];cases hin:inR n 0 ((w.2.2.2.2.2.1.length:Int) - 1) with
  | false=>rfl
  | true=>
   obtain⟨i,x,rfl,hx,_,_⟩:=aVx l1 hin;have hx:(aE w)[i]? =some x:=hx;have e1:=bIr (w:=w) hx l1;have kg:=aIt hk i;obtain⟨m1,m2,m3⟩:=aMk kg (by omega);have hxm:=bZ9 hx;have htx:tot tPk x.2.2<=536870912:=by
    have h1:=yK (t:=tFy) hxm;have h2:tot tFy x=tot tPk x.2.2:=by simp[oV,qM]
    have :=fY w;have :=hk.tot;omega
   have e2:=aSw (w:=zB w i) (r:=x.1) (inn:=x.2.1) m1 m2 m3 htx (hk.bytes.fly x hxm);have e3:Option.bind (bE (zB w i) x.1 x.2.1 x.2.2) (λy7=>(some (bZt y7):Option ((lFy×lFl×lIb×lAS×lLk×lSg×lSg×Int×lRs×lUs×Int×List Int×Int)⊕(Bool×lFy×lFl×lIb×lAS×lLk×lSg×lSg×Int×lRs×lUs×Int×List Int×Int))))=some (bZt (bX (cZ (zB w i) x.1 x.2.1 x.2.2))):=by rw[e2];rfl
   have hx':w.2.2.2.2.2.1[((i:Nat):Int).toNat]? =some x:=by rw[bZ4];exact hx
   simp only[bZ5,zY];rw[show ((w.1,w.2.1,w.2.2.1,w.2.2.2.1,w.2.2.2.2.1,w.2.2.2.2.2.1,w.2.2.2.2.2.2.1,w.2.2.2.2.2.2.2.1,w.2.2.2.2.2.2.2.2):den tNw)=w from rfl,e1,aA,hx'];exact congrArg (λo=>Option.bind o λz=>Sum.elim (λs32=>some (true,s32)) some z) e3
 | false=>
 cases c3:(kd==(3:Int)) with
 | true=>
  simp only[zY,zZ,aA,bZ8,zU,zV];cases hin:inR n 0 ((w.2.2.2.2.2.1.length:Int) - 1) with
  | false=>rfl
  | true=>
   obtain⟨i,x,rfl,hx,_,_⟩:=aVx l1 hin;have hx:(aE w)[i]? =some x:=hx;have e1:=bIr (w:=w) hx l1;simp only[bZ5,zY];rw[show ((w.1,w.2.1,w.2.2.1,w.2.2.2.1,w.2.2.2.2.1,w.2.2.2.2.2.1,w.2.2.2.2.2.2.1,w.2.2.2.2.2.2.2.1,w.2.2.2.2.2.2.2.2):den tNw)=w from rfl,e1,aA];rfl
 | false=>
 cases c4:(kd==(4:Int)) with
 | true=>
  simp only[zY,zZ,aA,bZ8,zU,zV];cases hin:inR n 0 ((w.2.2.2.2.2.1.length:Int) - 1) with
  | false=>rfl
  | true=>
   obtain⟨i,x,rfl,hx,hlt,hz⟩:=aVx l1 hin;have hx':w.2.2.2.2.2.1[((i:Nat):Int).toNat]? =some x:=by rw[bZ4];exact hx
   cases decide ((w.2.2.2.2.2.1.length:Int)>=150) with
   | true=>rfl
   | false=>
    simp only[bZ5,cAb,zY,zZ,aA,hlt,hz,hx',a1,cCm];rfl
 | false=>
 cases c5:(kd==(5:Int)) with
 | true=>
  simp only[zY,zZ,aA,bZ8,zU,zV,Bool.true_or,aLc (l:=w.2.2.2.2.1) (show w.2.2.2.2.1.length<=68719476736 by omega),aKo (l:=w.2.2.2.2.1) (show w.2.2.2.2.1.length<=4294967296 by omega)];unfold aV rT;cases hin:inR n 0 ((w.1.2.length:Int) - 1) with
  | false=>
   cases qQ (aH w) n<;>rfl
  | true=>
   obtain⟨g0,g1⟩:=aS.1 hin;cases hh:qQ (aH w) n with
   | true=>
    rfl
   | false=>
    have ef:=bKv (m:=(nT w).2.length) (dead:=aH w) (i:=n) hdead ⟨g0,Int.lt_of_le_of_lt g1 (show ((w.1.2.length:Int) - 1<(w.1.2.length:Int)) by omega)⟩;have ef:oI w.2.2.2.2.1 n=uA (nT w).2.length (aH w) n true:=ef;rw[ef];rfl
 | false=>
 cases c6:(kd==(6:Int)) with
 | true=>
  simp only[zY,zZ,aA,bZ8,zU,zV,Bool.or_true,aLc (l:=w.2.2.2.2.1) (show w.2.2.2.2.1.length<=68719476736 by omega)];unfold aV rT;cases hin:inR n 0 ((w.1.2.length:Int) - 1) with
  | false=>
   cases qQ (aH w) n<;>rfl
  | true=>
   cases hh:qQ (aH w) n with
   | false=>
    rfl
   | true=>
    simp only[bZ5,zY,aA];have ef:=bIn (m:=(nT w).2.length) (dead:=aH w) (i:=n) hdead;have ef:(w.2.2.2.2.1.filter λx=>x != n)=uA (nT w).2.length (aH w) n false:=ef;refine iW (G:=λo=>Option.bind o (λz=>Sum.elim (λs32=>some (true,s32)) some z)=some (true,bX (aDw w (uA (nT w).2.length (aH w) n false)))) w.2.2.2.2.1.length (λs:Int×List Int=>s.1) (λk s=>s.2.length<=k/\s.2=(w.2.2.2.2.1.take k).filter λx=>x != n) (λr:List Int=>r=w.2.2.2.2.1.filter λx=>x != n) ?_ ?_ 0 ((0:Int),[]) (cAe _) rfl ⟨by simp,by simp⟩ ?_
    .rintro k ⟨_,l⟩ hk' rfl ⟨g1,g2⟩
     simp only at g1 g2;right;have hx:w.2.2.2.2.1[k]? =some w.2.2.2.2.1[k]:=bZw hk';have ht:(w.2.2.2.2.1.take (k+1)).filter (λx=>x != n)=l++(if w.2.2.2.2.1[k] != n then [w.2.2.2.2.1[k]] else []):=by
      rw[List.take_add_one,hx,List.filter_append,g2];congr 1;show List.filter _ [w.2.2.2.2.1[k]]=_;rw[cCi,List.filter_nil]
     simp only[zX (show (k:Int)<(w.2.2.2.2.1.length:Int) by omega),zZ,aP,hx,aA,aF (b:=8) (n:=l.length) (m:=1) (by decide) (by omega),show wr ((k:Int)+1)=((k+1:Nat):Int) from (wri (by omega) (by omega)).trans (by omega)];cases hb:(w.2.2.2.2.1[k] != n) with
     | true=>rw[hb,zT rfl]at ht;exact⟨_,rfl,rfl,by simp;omega,ht.symm⟩
     | false=>rw[hb,zS (by simp),cAs]at ht;exact⟨_,rfl,rfl,by show l.length<=k+1;omega,ht.symm⟩
    .rintro⟨_,l⟩ rfl ⟨g1,g2⟩
     exact⟨l,by simp only[zW (cA5 _),zY],by simpa using g2⟩
    .rintro r rfl
     rw[ef];rfl
 | false=>
 cases c7:(kd==(7:Int)) with
 | true=>
  simp only[zY,zZ,aA,bZ8,zU,zV,cBu,aZ,aGw n1.as];cases cH w.1 to with
  | false=>rfl
  | true=>
   cases decide ((w.2.2.2.2.2.1.length:Int)>=150) with
   | true=>rfl
   | false=>
    simp only[bZ5,cAb,zY,zZ,aA,a1];rfl
 | false=>
 cases c8:(kd==(8:Int)) with
 | true=>
  simp only[zY,zZ,aA,bZ8,zU,zV,cBu,bU,dH,cL,cK,cS];cases hin:inR n 0 ((w.2.2.2.2.2.2.1.length:Int) - 1) with
  | false=>rfl
  | true=>
   obtain⟨i,x,rfl,hx,hlt,hz⟩:=aVx l2 hin;have hx:(aB w)[i]? =some x:=hx;have hxm:=bZ9 hx;have hx':w.2.2.2.2.2.2.1[((i:Nat):Int).toNat]? =some x:=by rw[bZ4];exact hx
   have hfx:tot tFl x<=536870912:=by
    have h1:=yK (t:=tFl) hxm;have :=fY w;have :=hk.tot;omega
   have e1:=bYy (f:=x) (b:=data) ((bW hfx).mono (by decide)) hd;have hlt2:decide (((i:Nat):Int).toNat<w.2.2.2.2.2.2.1.length)=true:=zX (by rw[bZ4];exact (bZy.1 hx).1);simp only[bZ5,zY,zZ,hlt,hz,hx',hlt2,aA];rw[show ((x.1,x.2.1,x.2.2.1,x.2.2.2.1,x.2.2.2.2.1,x.2.2.2.2.2.1,x.2.2.2.2.2.2.1,x.2.2.2.2.2.2.2.1,x.2.2.2.2.2.2.2.2):den tFl)=x from rfl,e1,aA];unfold aR7 aBl;cases hO (enq x data)<;>rfl
 | false=>
  simp only[h9,zY,zZ,aA,bZ8,zU,zV,cBu];rfl
theorem bOh{α:Type}{l:List α}{k:Nat}{x:α}(h:l[k]? =some x):l.set k x=l:=by
 obtain⟨hk,e⟩:=bZy.1 h;rw[<- e];exact List.set_getElem_self hk
theorem bVg{w:den tNw}{e:den jJ}(h:(doW w e).1=false):(doW w e).2=w:=by
 unfold doW at h|-;split
 .rename_i c;rw[zT c]at h;show cG w=w;unfold cG;have h:(!decide (aG w>=1000000))=false:=h;rw[zT (by simpa using h)]
 rename_i c1;rw[zS c1]at h;split
 .rename_i c;rw[zT c]at h;split
  .rename_i x hi hx;rw[hi,hx]at h;cases h
  .rfl
 rename_i c2;rw[zS c2]at h;split
 .rename_i c;rw[zT c]at h;split
  .rename_i hc;rw[zT hc]at h;cases h
  .rfl
 rename_i c3;rw[zS c3]at h;split
 .rename_i c;rw[zT c]at h;split
  .rename_i x hi hx;rw[hi,hx]at h;cases h
  .rfl
 rename_i c4;rw[zS c4]at h;split
 .rename_i c;rw[zT c]at h;show aV w e.2.1 (e.1==5)=w;unfold aV;have h:(!rT w e.2.1 (e.1==5))=false:=h;rw[zT (by simpa using h)]
 rename_i c5;rw[zS c5]at h;split
 .rename_i c;rw[zT c]at h;split
  .rename_i hc;rw[zT hc]at h;cases h
  .rfl
 rename_i c6;rw[zS c6]at h;split
 .rename_i c;rw[zT c]at h;split
  .rename_i f hi hf;rw[hi,hf]at h;have h:hO (enq f e.2.2.1)=false:=h;show bR w ((aB w).set e.2.1.toNat (aBl f e.2.2.1))=w;unfold aBl;rw[h,zS (by decide),bOh hf];rfl
  .rfl
 .rfl
theorem bCo{w:den tNw}{B F:Nat}(h:eY B F w)(hB:B<=1073741824):SmB 68719476736 tNw w:=(bW (bZv h.tot hB)).mono (by decide)
theorem bTz{w:den tNw}{e:den jJ}(he:EvD w e):(e.1==(9:Int))=false:=by
 have h8:=he.hi;have h9: ¬ (e.1=(9:Int)):=λh=>by rw[h]at h8;exact absurd h8 (by decide)
 exact beq_eq_false_iff_ne.2 h9
theorem bL2{R T:Type}{n:Nat}(hn:n<=10000000){step:Int->Option (Int⊕R)}{r:R}{k:R->Option T}(h:∀i:Nat,i<n->step (i:Int)=some (.inl ((i+1:Nat):Int)))(he:step (n:Int)=some (.inr r)):Option.bind (aC step (0:Int)) k=k r:=by
 refine iW (G:=λo=>o=k r) n (λs:Int=>s) (λ_ _=>True) (λx=>x=r) ?_ ?_ 0 (0:Int) (cAe _) rfl trivial (λx hx=>by rw[hx])
 .rintro i _ hi rfl _
  exact .inr ⟨_,h i hi,rfl,trivial⟩
 .rintro _ rfl _
  exact⟨r,he,rfl⟩
def bU7:den tNw->yL->den tNw
 | w,[]=>w
 | w,e::l=>bU7 (doW w e).2 l
def bG0:den tNw->yL->Prop
 | _,[]=>True
 | w,e::l=>EvD w e/\bG0 (doW w e).2 l
theorem bG0.runV{t:den tTo}(ht:t.2.length<=100):∀{l:yL} {k:Nat} {w:den tNw},aC8 t k w->bG0 w l->k+l.length<=1000->aC8 t (k+l.length) (bU7 w l)
 | [],_,_,h,_,_=>h
 | e::l,k,w,h,hd,hk=>by
  have hk:k+(l.length+1)<=1000:=hk;have :=bG0.runV ht (h.event (by omega) ht hd.1) hd.2 (by omega:k+1+l.length<=1000);have hn:k+(l.length+1)=k+1+l.length:=by omega
  show aC8 t (k+(l.length+1)) _;rw[hn];exact this
def aHb(w w':den tNw):Prop:=(aB w').length=(aB w).length/\ ∀(k:Nat) (f f':den tFl),(aB w)[k]? =some f->(aB w')[k]? =some f'->f.2.2.2.1<=f'.2.2.2.1
def bQz(s d:Int)(w w':den tNw):Prop:=(aQ w').length=(aQ w).length/\ ∀(k:Nat) (x x':den tIb),(aQ w)[k]? =some x->(aQ w')[k]? =some x'->x'=x\/(x.2.1=s/\x.1=d/\x'.2.2.2.length=x.2.2.2.length+1)
theorem aHb.same{w w':den tNw}(h:aB w'=aB w):aHb w w':=by
 refine⟨by rw[h],λk f f' h1 h2=> ?_⟩;rw[h,h1]at h2;injection h2 with h2;rw[h2];exact cAu _
theorem aHb.trans{a b c:den tNw}(h:aHb a b)(g:aHb b c):aHb a c:=by
 refine⟨g.1.trans h.1,λk f f' h1 h2=> ?_⟩;have hk:k<(aB b).length:=by rw[h.1];exact (bZy.1 h1).1
 exact cA6 (h.2 k f _ h1 (bZw hk)) (g.2 k _ f' (bZw hk) h2)
theorem bQz.same{s d:Int}{w w':den tNw}(h:aQ w'=aQ w):bQz s d w w':=by
 refine⟨by rw[h],λk x x' h1 h2=> .inl ?_⟩;rw[h,h1]at h2;injection h2 with h2;exact h2.symm
def bQ9(P:Nat->Prop)(w w':den tNw):Prop:=(aQ w').length=(aQ w).length/\ ∀(k:Nat) (x x':den tIb),(aQ w)[k]? =some x->(aQ w')[k]? =some x'->x'.2.2.2.length=x.2.2.2.length\/(P k/\x'.2.2.2.length=x.2.2.2.length+1)
theorem bQ9.same{P:Nat->Prop}{w w':den tNw}(h:aQ w'=aQ w):bQ9 P w w':=by
 refine⟨by rw[h],λk x x' h1 h2=> .inl ?_⟩;rw[h,h1]at h2;injection h2 with h2;rw[h2]
structure iE (w w':den tNw):Prop where
 top:nT w'=nT w
 book:nK w'=nK w
 flows:(aB w').length=(aB w).length
 now:aG w<=aG w'
theorem iE.refl(w:den tNw):iE w w:=⟨rfl,rfl,rfl,cAu _⟩
theorem iE.trans{a b c:den tNw}(h:iE a b)(k:iE b c):iE a c:=⟨k.top.trans h.top,k.book.trans h.book,k.flows.trans h.flows,cA6 h.now k.now⟩
theorem aAk(w:den tNw):iE w (sT w):=⟨rfl,rfl,rfl,cAu _⟩
theorem aIx(w:den tNw)(l:lFy):iE w (bJ w l):=⟨rfl,rfl,rfl,cAu _⟩
theorem aDg(w:den tNw){l:lFl}(h:l.length=(aB w).length):iE w (bR w l):=⟨rfl,rfl,h,cAu _⟩
theorem aK4(w:den tNw)(r:Int)(p:den tPk):iE w (sS w r p):=aDg w (cAr _)
theorem aUi(w:den tNw)(r eg:Int)(p:den tPk):iE w (eH w r eg p):=by
 unfold eH;split
 .exact⟨rfl,rfl,rfl,cAu _⟩
 .exact aAk w
theorem aRr(w:den tNw)(r inn:Int)(p:den tPk):iE w (proc0 w r inn p):=by
 unfold proc0;split
 .exact aUi _ _ _ _
 .split
  .exact aK4 _ _ _
  .exact aAk w
theorem aWw(w:den tNw)(i:Nat)(x:den tIb):iE w (nV w i x):=⟨rfl,rfl,rfl,cAu _⟩
theorem aTu(w:den tNw)(r inn:Int)(p:den tPk):iE w (cZ w r inn p):=by
 unfold cZ;split
 .exact aUi _ _ _ _
 .split
  .split
   .unfold nB;split
    .exact iE.refl w
    .split
     .exact (aWw w _ _).trans (aRr _ _ _ _)
     .exact aWw w _ _
   .exact aK4 _ _ _
  .split
   .unfold oM;split
    .exact (aRr _ _ _ _).trans (aAk _)
    .exact (aK4 _ _ _).trans (aAk _)
   .exact aAk w
theorem bFh(k:Nat)(w:den tNw):iE w (stepT k w):=by
 unfold stepT;split
 .split
  .exact (aDg w (cBl)).trans (aTu _ _ _ _)
  .exact aDg w (cBl)
 .exact iE.refl w
theorem aQa:∀(n k:Nat) (w:den tNw),iE w (tickL k n w)
 | 0,_,w=>iE.refl w
 | n+1,k,w=>by
  unfold tickL;exact (bFh k w).trans (aQa n (k+1) (stepT k w))
theorem bI9{w:den tNw}(h0:(0:Int)<=aG w):iE w (cG w):=by
 unfold cG;split
 .exact iE.refl w
 .rename_i h;have e:wr (aG w+1)=aG w+1:=aY (by omega) (by omega);have a:iE w (tick0 w):=⟨rfl,rfl,rfl,by show aG w<=wr (aG w+1);omega⟩
  exact a.trans (aQa _ _ _)
theorem bNo{w:den tNw}{e:den jJ}(h0:(0:Int)<=aG w):iE w (doW w e).2:=by
 unfold doW;split
 .exact bI9 h0
 .split
  .split
   .exact (aIx w _).trans (aTu _ _ _ _)
   .exact iE.refl w
  .split
   .split
    .exact (aIx w _).trans (aAk _)
    .exact iE.refl w
   .split
    .split
     .exact aIx w _
     .exact iE.refl w
    .split
     .show iE w (aV w e.2.1 (e.1==5));unfold aV;split
      .exact iE.refl w
      .exact⟨rfl,rfl,rfl,cAu _⟩
     .split
      .split
       .exact aIx w _
       .exact iE.refl w
      .split
       .split
        .exact aDg w (cBl)
        .exact iE.refl w
       .exact iE.refl w
theorem Ran.book{v:den tNw}(hv:qX 3 v){l:yL}{w:den tNw}(h:Ran v l w):l.length<=1000->nK w=nK v:=by
 induction h with
 | nil=>intro _;rfl
 | snoc h he ih=>
  intro hl;simp only[cAh,cBe]at hl;have hr:=h.runV hv (by omega);exact (bNo hr.run.lo).book.trans (ih (by omega))
def dP:lPp->Nat
 | []=>0
 | x::l=>x.2.2.2.length+dP l
theorem aCt:∀a b:lPp,dP (a++b)=dP a+dP b
 | [],b=>(Nat.zero_add _).symm
 | x::a,b=>by
  show x.2.2.2.length+dP (a++b)=x.2.2.2.length+dP a+dP b;rw[aCt a b];omega
theorem aFf:∀l:lPp,dP l<=tot (.sl tPp) l
 | []=>cAe _
 | x::l=>by
  have :=aFf l;rw[jF];have e:tot tPp x=x.2.2.2.length:=by
   show tot ti x.1+(tot ti x.2.1+(tot ti x.2.2.1+tot (.sl bG) x.2.2.2))=_;rw[jB (t:=bG) rfl];simp[qM]
  show x.2.2.2.length+dP l<=_;omega
theorem aFs:∀l:lPp,dP (fF l)=dP l
 | []=>rfl
 | x::l=>by
  have :=aFs l;unfold fF at this ⊢;rw[cDb,cBi,aCt,this];show dP l+((rC x).2.2.2.length+0)=x.2.2.2.length+dP l;unfold rC;simp only[List.length_reverse];omega
def qO(p:den tPk):Nat:=dP (p.2.2.2.1.drop p.2.2.2.2.1.toNat) - p.2.2.2.2.2.1.toNat
theorem bV0{p:den tPk}(h:cO p=true):∃i j:Nat,p.2.2.2.2.1=(i:Int)/\p.2.2.2.2.2.1=(j:Int)/\j<(bQ p).2.2.2.length/\dP (p.2.2.2.1.drop i)=(bQ p).2.2.2.length+dP (p.2.2.2.1.drop (i+1)):=by
 obtain⟨i,j,h1,h2,h3,h4,_⟩:=nE h;refine⟨i,j,h1,h2,(bZy.1 h4).1,?_⟩;obtain⟨hlt,e⟩:=bZy.1 h3;rw[cCg hlt,e];rfl
theorem bDh{p:den tPk}(h:cO p=true)(h0:0<=cF p)(ha:dQ p=false):qO (adv p)+1=qO p:=by
 obtain⟨i,j,h1,h2,h3,h4⟩:=bV0 h;unfold adv;rw[ha,zW (show ¬ cF p<0 by omega),cBu,zS (by decide)];unfold qO;rw[h1,h2,bZ4,bZ4,h4];split
 .rename_i hl;unfold dI at hl;rw[h2]at hl;have hl:(j:Int)=((bQ p).2.2.2.length:Int) - 1:=eq_of_beq hl;show dP (p.2.2.2.1.drop ((i:Int)+1).toNat) - (0:Int).toNat+1=_;rw[show ((i:Int)+1).toNat=i+1 by omega,show (0:Int).toNat=0 from rfl];omega
 .rename_i hl;show dP (p.2.2.2.1.drop (i:Int).toNat) - ((j:Int)+1).toNat+1=_;rw[show ((j:Int)+1).toNat=j+1 by omega,bZ4,h4];omega
theorem aH1(t:den tTo)(p:den tPk):qO (aX t p)=qO p:=by
 unfold aX;split<;>rfl
theorem bC8{t:den tTo}{now:Int}:∀(n:Nat) (p:den tPk),(goC t now n p).1=0->qO (goC t now n p).2<=qO p
 | 0,p,h=>cBr (aH1 t p)
 | n+1,p,h=>by
  obtain⟨h1,h2⟩:=wC (zO h);obtain⟨e1,e2,_⟩:=qY t p;unfold goC at h|-;split at h
  .rename_i hc;rw[zT hc];simp only[bZu,cAx]at hc;have :=bC8 n _ h;have h3:=bDh (p:=aX t p) (e1.trans h1) (by rw[e2];exact h2) hc.2.2;rw[aH1]at h3;omega
  .rename_i hc;rw[zS hc];exact cBr (aH1 t p)
theorem bBx{t:den tTo}{r now dead inn:Int}{p:den tPk}(h:(fwd t r now dead inn p).1=0):qO (fwd t r now dead inn p).2.2.1+1<=qO p:=by
 unfold fwd at h|-;split at h
 .exact absurd h (show ¬ ((2:Int)=0) by decide)
 rename_i c1;rw[zS c1];split at h
 .exact absurd h (show ¬ ((3:Int)=0) by decide)
 rename_i c2;rw[zS c2];split at h
 .rename_i c3;simp only[cAx,beq_eq_false_iff_ne]at c3;exact absurd h c3
 rename_i c3;rw[zS c3];split at h
 .split at h<;>first | exact absurd h (show ¬ ((1:Int)=0) by decide) | exact absurd h (show ¬ ((2:Int)=0) by decide)
 rename_i c4;rw[zS c4];split at h
 .exact absurd h (show ¬ ((6:Int)=0) by decide)
 rename_i c5;rw[zS c5];split at h
 .exact absurd h (show ¬ ((7:Int)=0) by decide)
 rename_i c6;rw[zS c6];have c3:(bA t now p).1=0:=by simpa using c3
 have c4:dQ (bA t now p).2=false:=by simpa using c4
 obtain⟨q1,q2,_⟩:=aBd (t:=t) (now:=now) (p.2.2.2.1.length - p.2.2.2.2.1.toNat) p c3;have a:=bC8 (t:=t) (now:=now) (p.2.2.2.1.length - p.2.2.2.2.1.toNat) p c3;have b:=bDh (p:=(bA t now p).2) q1 q2 c4;show qO (adv (bA t now p).2)+1<=qO p;have a:qO (bA t now p).2<=qO p:=a;omega
def aCy(p:den tPk):Nat:=1+qO p+cond (p.1==(1:Int)) 72 0
theorem bNk{t:den tTo}{now:Int}{dead:List Int}{r inn:Int}{p:den tPk}(h:((aD t now dead r inn p).1==0)=true):aCy (aD t now dead r inn p).2.2.1+1<=aCy p:=by
 have h:(fwd t r now (eG t dead r) inn p).1=0:=eq_of_beq (show ((fwd t r now (eG t dead r) inn p).1==0)=true from h);have a:=bBx h;have b:=(aCk t r now (eG t dead r) inn p).1;unfold aD aCy;rw[b];omega
theorem bKk(w:den tNw):aH (outW w)=aH w:=by
 unfold outW;split
 .rfl
 .exact aDo _ _ _ _
theorem eI.out{t:den tTo}{B k d:Nat}{w:den tNw}(h:eI t B k d w)(hd:d<=900000000):eI t (B+164) k (d+2) (outW w):=by
 unfold outW;split
 .exact h.mono (by omega) (bZ7 _) (by omega)
 .rename_i x l hf;have hx:x∈aE w:=by rw[hf];exact bZ6 ..
  have hs:bK w (bJ w l):=⟨rfl,rfl,id,λy hy=> .inl (by rw[hf];exact bZ0 _ hy),λhn=>by
   rw[hf]at hn;show l.length<=150;simp only[cAy]at hn;omega⟩
  obtain⟨k1,k2,k3⟩:=aOd h.run.keep hf;have hk:=aIr (r:=x.1) (inn:=x.2.1) (p:=x.2.2) k1 k3;refine⟨h.run.step (hs.trans (bK.proc _ _ _ _)) hk,?_,?_,?_⟩
  .exact aCg (h.inv.same (w':=bJ w l) rfl rfl rfl λy hy=> .inl (by rw[hf];exact bZ0 _ hy)) (h.inv.good x hx)
  .exact bT.proc (n:=d) (w:=bJ w l) (bT.eq h.drop rfl) (by omega) _ _ _
  .rw[aDo];exact h.dead
theorem eI.del{t:den tTo}:∀(n:Nat) {B k d:Nat} {w:den tNw},eI t B k d w->d+2 * n<=900000000->eI t (B+n * 164) k (d+2 * n) (delW n w)
 | 0,B,k,d,w,h,_=>h.mono (by omega) (bZ7 _) (by omega)
 | n+1,B,k,d,w,h,hd=>by
  unfold delW;split
  .exact h.mono (by omega) (bZ7 _) (by omega)
  .exact (eI.del n (h.out (by omega)) (by omega)).mono (by rw[cAo];omega) (bZ7 _) (by omega)
theorem eI.tick{t:den tTo}{B k d:Nat}{w:den tNw}(h:eI t B k d w)(hk:k<=1000)(hd:d<=900000000):eI t (B+656) (k+1) (d+8) (cG w):=by
 refine⟨aUy h.run (by omega),aVk h.inv,?_,by rw[aIn];exact h.dead⟩;have hf:=h.run.keep.flows;unfold cG;split
 .exact h.drop.mono (by omega)
 .refine bT.mono (n:=d+2 * (aB w).length) (bT.tickL (m:=0) (aB w).length 0 (n:=d) ?_ (by omega)) (by omega);exact bT.eq h.drop rfl
theorem eI.step{t:den tTo}{B k d:Nat}{w:den tNw}(h:eI t B k d w)(hk:k<=1000)(hd:d<=800000000):eI t (B+328656) (k+1) (d+4008) (delW 2000 (cG w)):=
 ((h.tick hk (by omega)).del 2000 (by omega)).mono (by omega) (bZ7 _) (by omega)
theorem xV:∀(n:Nat) (w:den tNw),aK (n+1) w=iP (aK n w)
 | 0,_=>rfl
 | n+1,w=>xV n (iP w)
def aSi(w:den tNw)(n:Int):Int×q3:=
 ((nG w).1,aG w,dX w,n,(nT w).1,(nT w).2,(nK w).1,(nK w).2,(nG w).2.1,(nG w).2.2,aH w,aE w,aB w,aQ w)
theorem bPq{code:List Int}(hl:code.length<=1048576):∃w n,uE code=some (aSi w n)/\qX 3 w/\(0<=n/\n<256):=by
 obtain⟨c0,p0,h0,e0,k0⟩:=bSo hl;obtain⟨w,c1,p1,h1,e1,hw,k1⟩:=bSh hl k0;obtain⟨v,c2,p2,h2,e2,r2,k2⟩:=dS hl (n:=256) (by decide) (by decide) k1;refine⟨w,v,?_,hw,r2⟩;unfold uE pj3 bO bV cJ iH zz4 zz5 zz6 zz7 zz8 zz9;simp only[e0,e1,bWm,e2,aA];rfl
def mX(p:den tPk):Nat:=if dR p then aCy p else 1
theorem aXa(p:den tPk):1<=mX p:=by
 unfold mX aCy;split<;>omega
theorem bC6(p:den tPk):mX p<=140:=by
 unfold mX;split
 .rename_i hv;have ht:=aDj hv;have hk:tot tPk p=tot tPt p.2.2.2.1+tot (.sl tb) p.2.2.2.2.2.2.2.2.2:=by simp[oV,qM]
  have hh:=aFf p.2.2.2.1;have hh:dP p.2.2.2.1<=tot tPt p.2.2.2.1:=hh;have hr:qO p<=dP p.2.2.2.1:=by
   unfold qO;have e:=aCt (p.2.2.2.1.take p.2.2.2.2.1.toNat) (p.2.2.2.1.drop p.2.2.2.2.1.toNat);rw[cBb]at e;omega
  have hc:cond (p.1==(1:Int)) 72 0<=72:=by cases (p.1==(1:Int))<;>decide
  unfold aCy;omega
 .decide
theorem aVq{p:den tPk}(h:(p.1==(1:Int))=false)(hh:dP p.2.2.2.1<=70)(h0:qO p<=dP p.2.2.2.1):mX p<=71:=by
 unfold mX;split
 .unfold aCy;rw[h];show 1+qO p+0<=71;omega
 .decide
def aC6:lFy->Nat
 | []=>0
 | x::l=>mX x.2.2+aC6 l
theorem aUe:∀(l:lFy) (x:den tFy),aC6 (l++[x])=aC6 l+mX x.2.2
 | [],x=>by show mX x.2.2+0=0+mX x.2.2;omega
 | y::l,x=>by
  show mX y.2.2+aC6 (l++[x])=mX y.2.2+aC6 l+mX x.2.2;rw[aUe l x];omega
theorem bCm:∀l:lFy,aC6 l<=140 * l.length
 | []=>bZ7 _
 | x::l=>by
  have :=bCm l;have :=bC6 x.2.2;show mX x.2.2+aC6 l<=140 * (l.length+1);omega
def fD(w:den tNw):Nat:=aC6 (aE w)
theorem aUr(w:den tNw)(r eg:Int)(p:den tPk):fD (eH w r eg p)<=fD w+mX p:=by
 unfold eH;split
 .show aC6 (aE w++[_])<=_;rw[aUe];exact bZ7 _
 .exact cCw _ _
theorem aUl{t:den tTo}{now:Int}{dead:List Int}{r inn:Int}{p:den tPk}(h:((aD t now dead r inn p).1==0)=true):dR p=true/\mX (aD t now dead r inn p).2.2.1+1<=mX p:=by
 have hv:dR p=true:=aFk (t:=t) (r:=r) (now:=now) (dead:=eG t dead r) (inn:=inn) (by
  have h:((fwd t r now (eG t dead r) inn p).1==0)=true:=h;rw[eq_of_beq h];rfl)
 refine⟨hv,?_⟩;have a:=bNk h;have b:mX (aD t now dead r inn p).2.2.1<=aCy (aD t now dead r inn p).2.2.1:=by
  unfold mX;split
  .exact bZ7 _
  .unfold aCy;omega
 have c:mX p=aCy p:=by unfold mX;rw[zT hv]
 omega
theorem aQx(w:den tNw)(r inn:Int)(p:den tPk):fD (proc0 w r inn p)+1<=fD w+mX p:=by
 have hp:=aXa p;unfold proc0;split
 .rename_i hc;have :=(aUl hc).2;have :=aUr w r (aD (nT w) (aG w) (aH w) r inn p).2.1 (aD (nT w) (aG w) (aH w) r inn p).2.2.1;omega
 .split
  .show fD w+1<=_;omega
  .show fD w+1<=_;omega
theorem aSh{kind res seq:Int}{p:den tPt}{pay:List Int}:qO (dT kind p res seq pay)=dP p:=by
 show dP (List.drop 0 p) - 0=dP p;rw[List.drop_zero];rfl
theorem bFv:∀(l:lPp) (i j:Nat),dP (aD0 l i j)<=dP l:=by
 intro l i j;unfold aD0;split
 .rename_i x hx;rw[aCt];have e:=aCt (l.take i) (l.drop i);rw[cBb]at e;obtain⟨hlt,e2⟩:=bZy.1 hx;rw[cCg hlt,e2]at e;have e:dP l=dP (l.take i)+(x.2.2.2.length+dP (l.drop (i+1))):=e;show dP (l.take i)+((x.2.2.2.take (j+1)).length+0)<=_;rw[cA8];omega
 .exact cAe _
theorem bA5(p:den tPk):dP (vE p)<=dP p.2.2.2.1:=by
 unfold vE;split
 .exact cAe _
 .exact bFv _ _ _
theorem aQc{p:den tPk}(hv:dR p=true):dP p.2.2.2.1<=67:=by
 have ht:=aDj hv;have hk:tot tPk p=tot tPt p.2.2.2.1+tot (.sl tb) p.2.2.2.2.2.2.2.2.2:=by simp[oV,qM]
 have hh:=aFf p.2.2.2.1;have hh:dP p.2.2.2.1<=tot tPt p.2.2.2.1:=hh;omega
theorem bHs{w:den tNw}{r:Int}{p:den tPk}(h:dP p.2.2.2.1<=70):fD (nB w r p)<=fD w+70:=by
 unfold nB;split
 .omega
 .split
  .rename_i hb;have a:=aQx (nV w (dD (aQ w) r p.2.1).toNat (cV (iT w (dD (aQ w) r p.2.1).toNat) p)) r 0 (lB (cV (iT w (dD (aQ w) r p.2.1).toNat) p) p);have b:mX (lB (cV (iT w (dD (aQ w) r p.2.1).toNat) p) p)<=71:=by
    refine aVq (aIs hb) ?_ ?_
    .unfold lB;rw[hb];show dP (fF p.2.2.2.1)<=70;rw[aFs];exact h
    .unfold lB;rw[hb];exact cBr aSh
   have e:fD (nV w (dD (aQ w) r p.2.1).toNat (cV (iT w (dD (aQ w) r p.2.1).toNat) p))=fD w:=rfl;omega
  .exact cCw _ _
theorem bEt{w:den tNw}{r d:Int}{p:den tPk}(h:dP p.2.2.2.1<=70):fD (oM w r d p)<=fD w+70:=by
 have e0:∀x,fD (sT x)=fD x:=λ_=>rfl
 unfold oM;rw[e0];split
 .have a:=aQx w r 0 (dG r (aG w) d p);have b:mX (dG r (aG w) d p)<=71:=by
   refine aVq rfl ?_ ?_
   .show dP (fF (vE p))<=70;rw[aFs];exact bZv (bA5 p) h
   .exact cBr aSh
  omega
 .exact cCw _ _
theorem aQ9(w:den tNw)(r inn:Int)(p:den tPk):fD (cZ w r inn p)+1<=fD w+mX p:=by
 have hp:=aXa p;unfold cZ;split
 .rename_i hc;have :=(aUl hc).2;have :=aUr w r (aD (nT w) (aG w) (aH w) r inn p).2.1 (aD (nT w) (aG w) (aH w) r inn p).2.2.1;omega
 .split
  .rename_i hc;split
   .rename_i h1;have hv:dR p=true:=aFk (t:=nT w) (r:=r) (now:=aG w) (dead:=eG (nT w) (aH w) r) (inn:=inn) (by
     have h:((fwd (nT w) r (aG w) (eG (nT w) (aH w) r) inn p).1==1)=true:=hc;rw[eq_of_beq h];rfl)
    have hh:=aQc hv;have e:(aD (nT w) (aG w) (aH w) r inn p).2.2.1.2.2.2.1=p.2.2.2.1:=by
     obtain⟨i,j,b,e⟩:=aEa (nT w) r (aG w) (eG (nT w) (aH w) r) inn p;unfold aD;rw[e];rfl
    have :=bHs (w:=w) (r:=r) (p:=(aD (nT w) (aG w) (aH w) r inn p).2.2.1) (by rw[e];omega);have e2:mX p=1+qO p+72:=by unfold mX aCy;rw[hv,h1];rfl
    omega
   .show fD w+1<=_;omega
  .split
   .rename_i hc;rw[bZu]at hc;have hv:dR p=true:=aFk (t:=nT w) (r:=r) (now:=aG w) (dead:=eG (nT w) (aH w) r) (inn:=inn) (by
     have h:((fwd (nT w) r (aG w) (eG (nT w) (aH w) r) inn p).1==7)=true:=hc.1;rw[eq_of_beq h];rfl)
    have hh:=aQc hv;have :=bEt (w:=w) (r:=r) (d:=(aD (nT w) (aG w) (aH w) r inn p).2.2.2) (p:=p) (by omega);have e2:mX p=1+qO p+72:=by unfold mX aCy;rw[hv,hc.2];rfl
    omega
   .show fD w+1<=_;omega
theorem bH0{w:den tNw}{x:den tFy}{l:lFy}(hf:aE w=x::l):fD (outW w)+1<=fD w:=by
 unfold outW;rw[hf];show fD (cZ (bJ w l) x.1 x.2.1 x.2.2)+1<=_;have h:=aQ9 (bJ w l) x.1 x.2.1 x.2.2;have e:fD w=mX x.2.2+aC6 l:=by unfold fD;rw[hf];rfl
 have e2:fD (bJ w l)=aC6 l:=rfl;omega
theorem aU8:∀(n:Nat) (w:den tNw),aE (delW n w)=[]\/fD (delW n w)+n<=fD w
 | 0,w=> .inr (bZ7 _)
 | n+1,w=>by
  unfold delW;split
  .rename_i h;exact .inl h
  .rename_i x l h;have :=bH0 h;rcases aU8 n (outW w) with h1 | h1
   .exact .inl h1
   .exact .inr (by omega)
theorem bF8(k:Nat)(w:den tNw):fD (stepT k w)<=fD w+140:=by
 unfold stepT;split
 .rename_i f hf;split
  .have h:=aQ9 (bR w ((aB w).set k (aI f).1)) (aI f).1.1 0 (aI f).2.1;have h2:=bC6 (aI f).2.1;have e:fD (bR w ((aB w).set k (aI f).1))=fD w:=rfl;omega
  .exact cCw _ _
 .exact cCw _ _
theorem aPf:∀(n k:Nat) (w:den tNw),fD (tickL k n w)<=fD w+140 * n
 | 0,_,_=>bZ7 _
 | n+1,k,w=>by
  have h1:=bF8 k w;have h2:=aPf n (k+1) (stepT k w);unfold tickL;omega
theorem bGh{w:den tNw}(hf:(aB w).length<=4):fD (cG w)<=fD w+560:=by
 unfold cG;split
 .omega
 .have h:=aPf (aB w).length 0 (tick0 w);have e:fD (tick0 w)=fD w:=rfl;have :140 * (aB w).length<=560:=by omega
  omega
theorem aP6{w:den tNw}(hf:(aB w).length<=4):aE (iP w)=[]\/fD (iP w)+1440<=fD w:=by
 have a:=bGh hf;rcases aU8 2000 (cG w) with h | h
 .exact .inl h
 .exact .inr (by show fD (delW 2000 (cG w))+1440<=_;omega)
theorem aM2{w:den tNw}(hf:(aB w).length<=4)(h0:aE w=[]):aE (iP w)=[]:=by
 have e:fD w=0:=by unfold fD;rw[h0];rfl
 rcases aP6 hf with h | h
 .exact h
 .omega
def egs(x:den tPp):List q21:=x.2.2.2.map λh=>(h.1,pEg x h)
def ins(x:den tPp):List q21:=x.2.2.2.map λh=>(h.1,pIn x h)
def mW:lPp->List q21
 | []=>[]
 | x::l=>(egs x).dropLast++mW l
def aC7:lPp->List q21
 | []=>[]
 | x::l=>(ins x).tail++aC7 l
def fut(p:den tPk):List q21:=match p.2.2.2.1.drop p.2.2.2.2.1.toNat with
 | []=>[]
 | x::l=>(egs x).dropLast.drop p.2.2.2.2.2.1.toNat++mW l
theorem aNk:∀a b:lPp,mW (a++b)=mW a++mW b
 | [],_=>rfl
 | x::a,b=>by
  show (egs x).dropLast++mW (a++b)=(egs x).dropLast++mW a++mW b;rw[aNk a b,cAg]
theorem bDo{kind res seq:Int}{p:den tPt}{pay:List Int}:fut (dT kind p res seq pay)=mW p:=by
 unfold fut;show (match List.drop 0 p with | []=>[] | x::l=>(egs x).dropLast.drop 0++mW l)=mW p;rw[List.drop_zero];cases p with
 | nil=>rfl
 | cons x l=>rfl
theorem bD8(p:den tPk):∃a,mW p.2.2.2.1=a++fut p:=by
 have e:=aNk (p.2.2.2.1.take p.2.2.2.2.1.toNat) (p.2.2.2.1.drop p.2.2.2.2.1.toNat);rw[cBb]at e;unfold fut;split
 .rename_i h;exact⟨_,by rw[cAs]⟩
 .rename_i x l h;rw[h]at e;refine⟨mW (p.2.2.2.1.take p.2.2.2.2.1.toNat)++(egs x).dropLast.take p.2.2.2.2.2.1.toNat,?_⟩;rw[e];show _++((egs x).dropLast++mW l)=_;rw[cAg,<- cAg (List.take _ _),cBb]
theorem bAd{p:den tPk}(h:cO p=true):∃i j:Nat,p.2.2.2.2.1=(i:Int)/\p.2.2.2.2.2.1=(j:Int)/\(bQ p).2.2.2[j]? =some (dN p)/\p.2.2.2.1[i]? =some (bQ p)/\fut p=(egs (bQ p)).dropLast.drop j++mW (p.2.2.2.1.drop (i+1))/\cF p=(dN p).1:=by
 obtain⟨i,j,h1,h2,h3,h4,h5⟩:=nE h;refine⟨i,j,h1,h2,h4,h3,?_,h5⟩;obtain⟨hlt,e⟩:=bZy.1 h3;unfold fut;rw[h1,h2,bZ4,bZ4,cCg hlt,e]
theorem bT0{p:den tPk}(h:cO p=true)(h0:0<=cF p)(ha:dQ p=false)(hl:dI p=false):fut p=(cF p,pEg (bQ p) (dN p))::fut (adv p):=by
 obtain⟨i,j,h1,h2,h3,h4,h5,h6⟩:=bAd h;have hlt:=(bZy.1 h3).1;have hne: ¬ (j:Int)=((bQ p).2.2.2.length:Int) - 1:=by
  unfold dI at hl;rw[h2]at hl;simpa using hl
 have e:adv p=goTo p p.2.2.2.2.1 (p.2.2.2.2.2.1+1) p.2.2.2.2.2.2.1:=by
  unfold adv;rw[ha,zW (show ¬ cF p<0 by omega),hl];rfl
 have e2:fut (adv p)=(egs (bQ p)).dropLast.drop (j+1)++mW (p.2.2.2.1.drop (i+1)):=by
  rw[e];unfold fut;show (match p.2.2.2.1.drop p.2.2.2.2.1.toNat with | []=>[] | x::l=>(egs x).dropLast.drop (p.2.2.2.2.2.1+1).toNat++mW l)=_;obtain⟨hlt,e⟩:=bZy.1 h4;rw[h1,h2,bZ4,show ((j:Int)+1).toNat=j+1 by omega,cCg hlt,e]
 have hd:j<(egs (bQ p)).dropLast.length:=by unfold egs;rw[cDc,cAr];omega
 rw[h5,e2,cCg hd,cCy];congr 1;rw[List.getElem_dropLast];unfold egs;rw[List.getElem_map,h6];obtain⟨_,e3⟩:=bZy.1 h3;rw[e3]
theorem bPx{p:den tPk}(h:cO p=true)(h0:0<=cF p)(ha:dQ p=false)(hl:dI p=true):fut (adv p)=fut p:=by
 obtain⟨i,j,h1,h2,h3,h4,h5,h6⟩:=bAd h;have hlt:=(bZy.1 h3).1;have he:(j:Int)=((bQ p).2.2.2.length:Int) - 1:=by
  unfold dI at hl;rw[h2]at hl;simpa using hl
 have e:adv p=goTo p (p.2.2.2.2.1+1) 0 (qH p).2.2.1:=by
  unfold adv;rw[ha,zW (show ¬ cF p<0 by omega),hl];rfl
 have e2:fut (adv p)=mW (p.2.2.2.1.drop (i+1)):=by
  rw[e];unfold fut;show (match p.2.2.2.1.drop (p.2.2.2.2.1+1).toNat with | []=>[] | x::l=>(egs x).dropLast.drop (0:Int).toNat++mW l)=_;rw[h1,show ((i:Int)+1).toNat=i+1 by omega];cases p.2.2.2.1.drop (i+1) with
  | nil=>rfl
  | cons x l=>rfl
 have hd:(egs (bQ p)).dropLast.drop j=[]:=by
  rw[List.drop_eq_nil_iff];unfold egs;rw[cDc,cAr];omega
 rw[h5,e2,hd,cAl]
theorem aHo(t:den tTo)(p:den tPk):fut (aX t p)=fut p:=by
 unfold aX;split<;>rfl
theorem aSx{t:den tTo}{now:Int}:∀(n:Nat) (p:den tPk),(goC t now n p).1=0->fut (goC t now n p).2=fut p
 | 0,p,h=>aHo t p
 | n+1,p,h=>by
  obtain⟨h1,h2⟩:=wC (zO h);obtain⟨e1,e2,_⟩:=qY t p;unfold goC at h|-;split at h
  .rename_i hc;rw[zT hc];simp only[bZu,cAx]at hc;rw[aSx n _ h,bPx (p:=aX t p) (e1.trans h1) (by rw[e2];exact h2) hc.2.2 hc.2.1,aHo]
  .rename_i hc;rw[zS hc];exact aHo t p
structure bW6 (t:den tTo) (r now dead inn:Int) (p:den tPk):Prop where
 val:dR p=true
 sim:mN t p.2.2.2.1=true
 at_:cF p=r
 go:(bA t now p).1=0
theorem qS{t:den tTo}{r now dead inn:Int}{p:den tPk}(h:(fwd t r now dead inn p).1=0\/(fwd t r now dead inn p).1=1\/(fwd t r now dead inn p).1=7):bW6 t r now dead inn p:=by
 unfold fwd at h;split at h
 .exact absurd h (show ¬ ((2:Int)=0\/(2:Int)=1\/(2:Int)=7) by decide)
 rename_i c1;split at h
 .exact absurd h (show ¬ ((3:Int)=0\/(3:Int)=1\/(3:Int)=7) by decide)
 split at h
 .rename_i c3;have hz: ¬ (bA t now p).1=0:=by simpa using c3
  have hle:(bA t now p).1<=5:=bI4 _ _;have h:(bA t now p).1=0\/(bA t now p).1=1\/(bA t now p).1=7:=h;have h45:∀(n:Nat) (p:den tPk),(goC t now n p).1=0\/(goC t now n p).1=4\/(goC t now n p).1=5:=by
   have hc:∀p,dO t now p=0\/dO t now p=4\/dO t now p=5:=λp=>by
    unfold dO;split
    .split
     .exact .inl rfl
     .exact .inr (.inr rfl)
    .exact .inr (.inl rfl)
   intro n
   induction n with
   | zero=>intro p;exact hc p
   | succ n ih=>
    intro p;unfold goC;split
    .exact ih _
    .exact hc p
  have h45:(bA t now p).1=0\/(bA t now p).1=4\/(bA t now p).1=5:=h45 _ _;omega
 rename_i c3;have c1:=eq_false_of_ne_true c1;simp only[cB2,Bool.not_eq_false']at c1;exact⟨c1.1,c1.2.1,eq_of_beq c1.2.2,by simpa using c3⟩
theorem aFd{t:den tTo}{p:den tPt}(h:mN t p=true):wfP t p=true:=(bZu _ _▸h:_/\_).1
theorem aUv{t:den tTo}{now:Int}{p:den tPk}(hw:wfP t p.2.2.2.1=true)(h:(bA t now p).1=0):(dI (bA t now p).2=false\/dQ (bA t now p).2=true)/\cF (bA t now p).2=cF p/\(bA t now p).2.2.2.2.1=p.2.2.2.1:=by
 obtain⟨h1,h2⟩:=wC (zO h);obtain⟨i,j,e1,e2,e3,_⟩:=nE h1;have hlt:=(bZy.1 e3).1;refine aN5 _ p hw ?_ h;have key:∀(a:Int) (i n:Nat),a=(i:Int)->i<n->a+((n - a.toNat:Nat):Int)=(n:Int):=by
  intro a i n h1 h2;subst h1;omega
 exact key _ i _ e1 hlt
theorem bCf{t:den tTo}{r now dead inn:Int}{p:den tPk}(h:(fwd t r now dead inn p).1=0):fut p=(r,(fwd t r now dead inn p).2.1)::fut (fwd t r now dead inn p).2.2.1/\aBy dead (fwd t r now dead inn p).2.1=false:=by
 have th:=qS (.inl h);obtain⟨g1,g2,g3⟩:=aUv (aFd th.sim) th.go;unfold fwd at h|-;split at h
 .exact absurd h (show ¬ ((2:Int)=0) by decide)
 rename_i c1;rw[zS c1];split at h
 .exact absurd h (show ¬ ((3:Int)=0) by decide)
 rename_i c2;rw[zS c2];split at h
 .rename_i c3;simp only[cAx,beq_eq_false_iff_ne]at c3;exact absurd h c3
 rename_i c3;rw[zS c3];split at h
 .split at h<;>first | exact absurd h (show ¬ ((1:Int)=0) by decide) | exact absurd h (show ¬ ((2:Int)=0) by decide)
 rename_i c4;rw[zS c4];split at h
 .exact absurd h (show ¬ ((6:Int)=0) by decide)
 rename_i c5;rw[zS c5];split at h
 .exact absurd h (show ¬ ((7:Int)=0) by decide)
 rename_i c6;rw[zS c6];have c4:dQ (bA t now p).2=false:=by simpa using c4
 obtain⟨q1,q2,_⟩:=aBd (t:=t) (now:=now) (p.2.2.2.1.length - p.2.2.2.2.1.toNat) p th.go;have hl:dI (bA t now p).2=false:=g1.elim id λe=>by rw[c4]at e;cases e
 have a:=bT0 (p:=(bA t now p).2) q1 q2 c4 hl;have b:fut (bA t now p).2=fut p:=aSx _ p th.go;rw[b,g2,th.at_]at a;exact⟨a,by simpa using c6⟩
def eOf(l:bM):List q21:=l.map λs=>(s.1,s.2.2)
def iOf(l:bM):List q21:=l.map λs=>(s.1,s.2.1)
def stp(x:den tPp)(h:den bG):den lJ:=(h.1,pIn x h,pEg x h)
theorem bKh{nf:Bool}{x:den tPp}{k:Nat}{h:den bG}{b:bM}(hk:0<k):qU nf x k h b=b++[stp x h]:=by
 unfold qU;split
 .rw[zW (show ¬ k=0 by omega),Bool.false_and,Bool.and_false,zS (by decide)];rfl
 .rfl
theorem aNr(nf:Bool)(x:den tPp):∀(l:cR) (k:Nat) (a:bM),0<k->bI (λi h b=>qU nf x i h b) k l a=a++l.map (stp x)
 | [],_,a,_=>(cAs a).symm
 | h::l,k,a,hk=>by
  show bI _ (k+1) l (qU nf x k h a)=_;rw[bKh hk,aNr nf x l (k+1) _ (Nat.succ_pos k),cAg];rfl
theorem bAx(x:den tPp):iG false x []=x.2.2.2.map (stp x):=by
 unfold iG;cases h:x.2.2.2 with
 | nil=>rfl
 | cons y l=>
  show bI _ 1 l (qU false x 0 y [])=_;rw[aNr _ _ _ _ _ (by decide)];rfl
theorem bEc{x:den tPp}{a:bM}{z:den lJ}{y:den bG}{l:cR}(hx:x.2.2.2=y::l)(ha:z.1=y.1):iG true x (a++[z])=a++((y.1,z.2.1,pEg x y):den lJ)::l.map (stp x):=by
 unfold iG;rw[hx];show bI _ 1 l (qU true x 0 y (a++[z]))=_;rw[aNr _ _ _ _ _ (by decide)];unfold qU;rw[cBs];simp only[Bool.true_and,decide_true,ha,beq_self_eq_true,zV,cB3,cAg,cDa]
def aLy(t:den tTo):lPp->Prop
 | []=>True
 | [x]=>fA t x=true
 | x::y::l=>fA t x=true/\(xZ x).1=(aA0 y).1/\aLy t (y::l)
theorem aNe{t:den tTo}{p:lPp}(h:wfP t p=true):aLy t p:=by
 unfold wfP at h;have h:=(bZu _ _▸h:_/\_).2;have h:=(wX (sW t p) p).1 h;have key:∀(l a:lPp),p=a++l->aLy t l:=by
  intro l
  induction l with
  | nil=>intro a _;trivial
  | cons x l ih=>
   intro a e;have hx:p[a.length]? =some x:=by rw[e,cCd (bZ7 _),Nat.sub_self];rfl
   have v:=h _ _ hx;unfold sW at v;rw[bZu]at v;have rest:=ih (a++[x]) (by rw[e,cAg];rfl);cases l with
   | nil=>exact v.1
   | cons y l=>
    refine⟨v.1,?_,rest⟩;have hy:p[a.length+1]? =some y:=by rw[e,cCd (by omega),show a.length+1 - a.length=1 by omega];rfl
    have vy:=h _ _ hy;unfold sW at vy;rw[bZu,zW (show ¬ a.length+1=0 by omega),Bool.false_or,cC5,hx]at vy;have :=vy.2;unfold aHs at this;rw[bZu]at this;exact eq_of_beq this.2
 exact key p [] rfl
theorem aYw{t:den tTo}:∀(l:lPp) (y:den tPp) (k:Nat) (a:bM) (z:den lJ),0<k->aLy t (y::l)->z.1=(xZ y).1->
  ∃(b:bM) (w:den lJ),bI (λk x a=>iG (decide (0<k)) x a) k l (a++[z])=b++[w]/\eOf b=eOf a++mW l/\iOf (b++[w])=iOf (a++[z])++aC7 l
 | [],y,k,a,z,_,_,_=>⟨a,z,rfl,(cAs _).symm,(cAs _).symm⟩
 | x::l,y,k,a,z,hk,hj,hz=>by
  obtain⟨_,j2,j3⟩:=hj;have vx:fA t x=true:=by cases l with
   | nil=>exact j3
   | cons _ _=>exact j3.1
  have hp:=wT vx;cases hx:x.2.2.2 with
  | nil=>rw[hx]at hp;exact absurd hp (by decide)
  | cons h hs=>
   have hh:aA0 x=h:=by unfold aA0;rw[hx];rfl
   have e1:iG true x (a++[z])=a++((h.1,z.2.1,pEg x h):den lJ)::hs.map (stp x):=bEc hx (by rw[hz,j2,hh]);have e2:bI (λk x a=>iG (decide (0<k)) x a) k (x::l) (a++[z])=bI (λk x a=>iG (decide (0<k)) x a) (k+1) l (iG true x (a++[z])):=by
    show bI _ (k+1) l (iG (decide (0<k)) x (a++[z]))=_;rw[zX hk]
   rcases gK (((h.1,z.2.1,pEg x h):den lJ)::hs.map (stp x)) with h0 | ⟨m,w,hm⟩
   .cases h0
   .have hw:w.1=(xZ x).1:=by
     have hl:(((h.1,z.2.1,pEg x h):den lJ)::hs.map (stp x)).getLast? =some w:=by rw[hm];exact cBs
     unfold xZ;rw[hx];rcases gK hs with rfl | ⟨hs',h',rfl⟩
     .simp only[List.map_nil,List.getLast?_singleton,Option.some.injEq]at hl;rw[<- hl];rfl
     .rw[cBi]at hl;have :((h.1,z.2.1,pEg x h):den lJ)::(hs'.map (stp x)++[h'].map (stp x))=(((h.1,z.2.1,pEg x h):den lJ)::hs'.map (stp x))++[stp x h']:=rfl;rw[this,cBs,Option.some.injEq]at hl;rw[<- hl];have :(h::(hs'++[h'])).length - 1=hs'.length+1:=by simp
      rw[this,List.getElem?_cons_succ,cCd (bZ7 _),Nat.sub_self];rfl
    obtain⟨b,w',r1,r2,r3⟩:=aYw l x (k+1) (a++m) w (Nat.succ_pos k) j3 hw;refine⟨b,w',?_,?_,?_⟩
    .rw[e2,e1,hm,<- cAg];exact r1
    .rw[r2];have e3:eOf m=(egs x).dropLast:=by
      have :eOf (m++[w])=egs x:=by
       rw[<- hm];unfold egs eOf;rw[hx];simp only[cAd,cCc];rfl
      rw[<- this];unfold eOf;rw[cBi,List.map_singleton,cB3]
     show eOf (a++m)++mW l=eOf a++((egs x).dropLast++mW l);unfold eOf at e3 ⊢;rw[cBi,e3,cAg]
    .rw[r3];have e4:iOf (m++[w])=(z.1,z.2.1)::(ins x).tail:=by
      rw[<- hm];unfold ins iOf;rw[hx];simp only[cAd,cCc,List.tail_cons];rw[show (z.1:Int)=h.1 by rw[hz,j2,hh]];rfl
     show iOf (a++m++[w])++aC7 l=iOf (a++[z])++((ins x).tail++aC7 l);have e5:iOf (a++m++[w])=iOf a++iOf (m++[w]):=by unfold iOf;rw[cAg,cBi]
     have e6:iOf (a++[z])=iOf a++[(z.1,z.2.1)]:=by unfold iOf;rw[cBi];rfl
     rw[e5,e4,e6,cAg,cAg];rfl
theorem aWy{t:den tTo}{p:lPp}(h:aLy t p)(hp:p≠[]):∃r r':Int,eOf (fT p)=mW p++[(r,0)]/\iOf (fT p)=(r',0)::aC7 p:=by
 cases p with
 | nil=>exact absurd rfl hp
 | cons x l=>
  have vx:fA t x=true:=by cases l with
   | nil=>exact h
   | cons _ _=>exact h.1
  have hpos:=wT vx;rcases gK (x.2.2.2.map (stp x)) with h0 | ⟨a,z,hz⟩
  .rw[List.map_eq_nil_iff]at h0;rw[h0]at hpos;exact absurd hpos (by decide)
  .have hzl:z.1=(xZ x).1:=by
    rcases gK x.2.2.2 with e | ⟨hs,h',e⟩
    .rw[e]at hpos;exact absurd hpos (by decide)
    .have hl:(x.2.2.2.map (stp x)).getLast? =some z:=by rw[hz];exact cBs
     rw[e,cBi,List.map_singleton,cBs,Option.some.injEq]at hl;rw[<- hl];unfold xZ;rw[e,cAh,cBe,cC5,cCd (bZ7 _),Nat.sub_self];rfl
   obtain⟨b,w,r1,r2,r3⟩:=aYw l x 1 a z (by decide) h hzl;have e0:xK (x::l)=b++[w]:=by
    show bI _ 1 l (iG false x [])=_;rw[bAx,hz];exact r1
   have e3:eOf a=(egs x).dropLast:=by
    have :eOf (a++[z])=egs x:=by
     rw[<- hz];unfold egs eOf;simp only[cCc];rfl
    rw[<- this];unfold eOf;rw[cBi,List.map_singleton,cB3]
   have e4:iOf (a++[z])=ins x:=by
    rw[<- hz];unfold ins iOf;simp only[cCc];rfl
   have hb:eOf b=mW (x::l):=by rw[r2,e3];rfl
   have hi:(iOf (b++[w])).tail=aC7 (x::l):=by
    rw[r3,e4];cases hx:x.2.2.2 with
    | nil=>rw[hx]at hpos;exact absurd hpos (by decide)
    | cons h' hs'=>
     show ((ins x)++aC7 l).tail=(ins x).tail++aC7 l;unfold ins;rw[hx];rfl
   unfold fT;rw[e0];cases b with
   | nil=>
    refine⟨w.1,w.1,?_,?_⟩
    .rw[<- hb];rfl
    .rw[<- hi];rfl
   | cons c b=>
    have e5:aC5 (c::b++[w])=(c.1,0,c.2.2)::b++[(w.1,w.2.1,0)]:=by
     unfold aC5;simp only[cCy];rw[show (((c.1,0,c.2.2):den lJ)::(b++[w]))=(((c.1,0,c.2.2):den lJ)::b)++[w] from rfl,cBs];simp only[cB3];rfl
    rw[e5];refine⟨w.1,c.1,?_,?_⟩
    .rw[<- hb];unfold eOf;simp
    .rw[<- hi];unfold iOf;simp
def num(x:Int×Int):Int:=wr (wr (8 * x.1)+x.2)
def aSz(s:den lJ):List Int:=(cond (s.2.1 != 0) [num (s.1,s.2.1)] [])++(cond (s.2.2 != 0) [num (s.1,s.2.2)] [])
theorem aYu(p:den tPt):eP p=(fT p).flatMap aSz:=by
 unfold eP;have :∀(l:bM) (k:Nat) (a:List Int),bI (λ_ s a=>aD7 s a) k l a=a++l.flatMap aSz:=by
  intro l
  induction l with
  | nil=>intro k a;exact (cAs a).symm
  | cons s l ih=>
   intro k a;show bI _ (k+1) l (aD7 s a)=_;rw[ih,cC4];unfold aD7 aSz num;cases s.2.1 != 0<;>cases s.2.2 != 0<;>simp
 exact (this _ _ _).trans (cAl _)
theorem aXv:∀l:bM,cCn (((eOf l).filter λx=>x.2 != 0).map num) (l.flatMap aSz)
 | []=>cCn.slnil
 | s::l=>by
  have ih:=aXv l;rw[cC4];unfold aSz;rw[cAg];refine cCn.trans ?_ (List.sublist_append_right _ _);show cCn ((((s.1,s.2.2)::eOf l).filter λx=>x.2 != 0).map num) _;rw[cCi];cases h:(s.2.2 != 0) with
  | true=>
   simp only[zV];exact cCn.cons_cons _ ih
  | false=>
   simp only[bZ8,zU];exact ih
theorem aIa{t:den tTo}:∀{p:lPp},aLy t p-> ∀x∈p,fA t x=true
 | [],_,x,hx=>by cases hx
 | [y],h,x,hx=>by rw[bZz]at hx;rw[hx];exact h
 | y::z::l,h,x,hx=>by
  rcases bZx.1 hx with rfl | hx
  .exact h.1
  .exact aIa h.2.2 x hx
theorem bT1{t:den tTo}{x:den tPp}(h:fA t x=true){y:Int×Int}(hy:y∈(egs x).dropLast):(y.2 != 0)=true:=by
 obtain⟨k,hk,e⟩:=List.getElem_of_mem hy;rw[List.getElem_dropLast]at e;unfold egs at e hk;rw[cDc,cAr]at hk;rw[List.getElem_map]at e;obtain⟨_,hl⟩:=aZ8 h (bZw (show k+1<x.2.2.2.length by omega));rcases hl with hl | hl
 .omega
 .unfold aGt at hl;rw[bZu,cC5,bZw (show k<x.2.2.2.length by omega)]at hl;rw[<- e];exact hl.1
theorem aYo{t:den tTo}:∀{p:lPp},(∀x∈p,fA t x=true)-> ∀y∈mW p,(y.2 != 0)=true
 | [],_,y,hy=>by cases hy
 | x::l,h,y,hy=>by
  rcases bZ2.1 hy with hy | hy
  .exact bT1 (h x (bZ6 ..)) hy
  .exact aYo (λz hz=>h z (bZ0 _ hz)) y hy
theorem aY1{t:den tTo}{p:lPp}(h:mN t p=true):(mW p).Nodup:=by
 have hw:=aFd h;have hj:=aNe hw
 by_cases hp:p=[]
 .subst hp;exact List.nodup_nil
 .obtain⟨r,r',e1,e2⟩:=aWy hj hp;unfold mN at h;have h:=(bZu _ _▸h:_/\_).2;have h:=(wX (aA3 (eP p)) (eP p)).1 h;have hn:(eP p).Nodup:=by
   refine cBv.2 λi j hi hj hij e=> ?_
   have a:=h j _ (bZw hj);unfold aA3 at a;have :qQ ((eP p).take j) (eP p)[j]=true:=by
    rw[aEq];refine bZ9 (i:=i) ?_;rw[List.getElem?_take_of_lt hij,bZw hi,e]
   rw[this]at a;cases a
  rw[aYu]at hn;have s:=aXv (fT p);rw[e1,List.filter_append,List.filter_eq_self.2 (aYo (aIa hj))]at s;have s:=s.nodup hn;rw[cBi]at s;have s:=(List.nodup_append.1 s).1;exact List.Pairwise.of_map _ (λa b hab e=>hab (by rw[e])) s
theorem bS7{t:den tTo}{p:lPp}(h:wfP t p=true){n:Int}(hn:n∈eP p):∃x,(x∈mW p\/x∈aC7 p)/\n=num x:=by
 have hj:=aNe h
 by_cases hp:p=[]
 .subst hp;cases hn
 .obtain⟨r,r',e1,e2⟩:=aWy hj hp;rw[aYu,cAm]at hn;obtain⟨s,hs,hn⟩:=hn;unfold aSz at hn;have me:(s.1,s.2.2)∈eOf (fT p):=bZ1.2 ⟨s,hs,rfl⟩;have mi:(s.1,s.2.1)∈iOf (fT p):=bZ1.2 ⟨s,hs,rfl⟩;rw[e1,bZ2,bZz]at me;rw[e2,bZx]at mi;rcases bZ2.1 hn with hn | hn
  .cases c:(s.2.1 != 0) with
   | false=>rw[c]at hn;cases hn
   | true=>
    rw[c]at hn;refine⟨_,.inr (mi.elim (λe=> ?_) id),bZz.1 hn⟩;have :s.2.1=0:=(Prod.ext_iff.1 e).2;rw[this]at c;cases c
  .cases c:(s.2.2 != 0) with
   | false=>rw[c]at hn;cases hn
   | true=>
    rw[c]at hn;refine⟨_,.inl (me.elim id λe=> ?_),bZz.1 hn⟩;have :s.2.2=0:=(Prod.ext_iff.1 e).2;rw[this]at c;cases c
theorem bPg{t:den tTo}{x:den tPp}(h:fA t x=true):egs (rC x)=(ins x).reverse:=by
 have hk:∀y,pEg (rC x) y=pIn x y:=λy=>by
  unfold fA at h;simp only[bZu]at h;obtain⟨a,b⟩:=aS.1 h.2.1;have e:gV (rC x).1= !gV x.1:=by
   have key:∀k:Int,1<=k->k<=4->gV (bG3 k)= !gV k:=by
    intro k h1 h2;have :k=1\/k=2\/k=3\/k=4:=by omega
    rcases this with e | e | e | e<;>rw[e]<;>decide
   exact key _ a b
  unfold pEg pIn;rw[e];cases gV x.1<;>rfl
 unfold egs ins;rw[show (rC x).2.2.2=x.2.2.2.reverse from rfl,List.map_reverse];congr 1;exact List.map_congr_left λy _=>by rw[hk]
theorem aY6{t:den tTo}:∀{p:lPp},(∀x∈p,fA t x=true)-> ∀y∈aC7 p,y∈mW (fF p)
 | [],_,y,hy=>by cases hy
 | x::l,h,y,hy=>by
  have e:fF (x::l)=fF l++[rC x]:=by unfold fF;rw[cDb,cBi];rfl
  rw[e,aNk,bZ2];rcases bZ2.1 hy with hy | hy
  .refine .inr ?_;show y∈(egs (rC x)).dropLast++[];rw[cAs,bPg (h x (bZ6 ..))];cases hc:ins x with
   | nil=>rw[hc]at hy;cases hy
   | cons a b=>
    rw[hc]at hy;rw[cDb,cB3];exact List.mem_reverse.2 hy
  .exact .inl (aY6 (λz hz=>h z (bZ0 _ hz)) y hy)
def aFb(x:Int×Int):Prop:=0<=x.1/\x.1<=7/\0<=x.2/\x.2<=6
theorem bL0{x:Int×Int}(h:aFb x):num x=8 * x.1+x.2:=by
 obtain⟨a,b,c,d⟩:=h;unfold num;rw[show wr (8 * x.1)=8 * x.1 from wri (by omega) (by omega)];exact wri (by omega) (by omega)
theorem bT8{x y:Int×Int}(hx:aFb x)(hy:aFb y)(h:num x=num y):x=y:=by
 rw[bL0 hx,bL0 hy]at h;obtain⟨a,b,c,d⟩:=hx;obtain⟨a',b',c',d'⟩:=hy;exact Prod.ext (by omega) (by omega)
theorem aVf{t:den tTo}{x:den tPp}(h:fA t x=true){y:den bG}(hy:y∈x.2.2.2):aFb (y.1,pEg x y)/\aFb (y.1,pIn x y):=by
 unfold fA at h;simp only[bZu]at h;obtain⟨_,_,_,_,h5,_⟩:=h;obtain⟨k,hk,e⟩:=List.getElem_of_mem hy;have a:=(wX (aA7 t x.2.2.2) x.2.2.2).1 h5 k y (by rw[<- e];exact bZw hk);unfold aA7 lZ at a;simp only[bZu]at a;obtain⟨⟨a1,a2,a3,_⟩,_⟩:=a;obtain⟨b1,b2⟩:=aS.1 a1;obtain⟨b3,b4⟩:=aS.1 a2;obtain⟨b5,b6⟩:=aS.1 a3;unfold pEg pIn aFb;cases gV x.1
 .exact⟨⟨b1,b2,b5,b6⟩,⟨b1,b2,b3,b4⟩⟩
 .exact⟨⟨b1,b2,b3,b4⟩,⟨b1,b2,b5,b6⟩⟩
theorem aYp{t:den tTo}:∀{p:lPp},(∀x∈p,fA t x=true)-> ∀y,(y∈mW p\/y∈aC7 p)->aFb y
 | [],_,y,hy=>by rcases hy with hy | hy<;>cases hy
 | x::l,h,y,hy=>by
  have hx:=h x (bZ6 ..);have ih:=aYp (p:=l) (λz hz=>h z (bZ0 _ hz)) y;rcases hy with hy | hy
  .rcases bZ2.1 hy with hy | hy
   .have :=List.dropLast_subset _ hy;unfold egs at this;obtain⟨z,hz,rfl⟩:=bZ1.1 this;exact (aVf hx hz).1
   .exact ih (.inl hy)
  .rcases bZ2.1 hy with hy | hy
   .have :=List.mem_of_mem_tail hy;unfold ins at this;obtain⟨z,hz,rfl⟩:=bZ1.1 this;exact (aVf hx hz).2
   .exact ih (.inr hy)
def bVu(t:den tTo)(now:Int)(dead:List Int):Nat->Int->Int->den tPk->Prop
 | 0,_,_,_=>False
 | n+1,r,inn,p=>(aD t now dead r inn p).1=1\/((aD t now dead r inn p).1=0/\bVu t now dead n (remote t r (aD t now dead r inn p).2.1).1 (remote t r (aD t now dead r inn p).2.1).2 (aD t now dead r inn p).2.2.1)
def Arr(t:den tTo)(now:Int)(dead:List Int)(r inn:Int)(p:den tPk):Prop:= ∃n,bVu t now dead n r inn p
theorem Arr.here{t:den tTo}{now:Int}{dead:List Int}{r inn:Int}{p:den tPk}(h:(aD t now dead r inn p).1=1):Arr t now dead r inn p:=⟨1,.inl h⟩
theorem Arr.step{t:den tTo}{now:Int}{dead:List Int}{r inn:Int}{p:den tPk}(h:(aD t now dead r inn p).1=0)(k:Arr t now dead (remote t r (aD t now dead r inn p).2.1).1 (remote t r (aD t now dead r inn p).2.1).2 (aD t now dead r inn p).2.2.1):Arr t now dead r inn p:=by
 obtain⟨n,k⟩:=k;exact⟨n+1,.inr ⟨h,k⟩⟩
theorem Arr.or{t:den tTo}{now:Int}{dead:List Int}{r inn:Int}{p:den tPk}(h:Arr t now dead r inn p):(aD t now dead r inn p).1=1\/((aD t now dead r inn p).1=0/\Arr t now dead (remote t r (aD t now dead r inn p).2.1).1 (remote t r (aD t now dead r inn p).2.1).2 (aD t now dead r inn p).2.2.1):=by
 obtain⟨n,h⟩:=h;cases n with
 | zero=>exact h.elim
 | succ n=>exact h.elim .inl λe=> .inr ⟨e.1,n,e.2⟩
theorem Arr.ind{t:den tTo}{now:Int}{dead:List Int}{M:Int->Int->den tPk->Prop}(h1:∀r inn p,(aD t now dead r inn p).1=1->M r inn p)
  (h2:∀r inn p,(aD t now dead r inn p).1=0->Arr t now dead (remote t r (aD t now dead r inn p).2.1).1 (remote t r (aD t now dead r inn p).2.1).2 (aD t now dead r inn p).2.2.1->M (remote t r (aD t now dead r inn p).2.1).1 (remote t r (aD t now dead r inn p).2.1).2 (aD t now dead r inn p).2.2.1->M r inn p)
  {r inn:Int} {p:den tPk} (h:Arr t now dead r inn p):M r inn p:=by
 obtain⟨n,h⟩:=h
 induction n generalizing r inn p with
 | zero=>exact h.elim
 | succ n ih=>
  rcases h with h | ⟨h,k⟩
  .exact h1 _ _ _ h
  .exact h2 _ _ _ h ⟨n,k⟩ (ih k)
end Go.Proofs.YtnkjolpkcmgcaaaGreat
