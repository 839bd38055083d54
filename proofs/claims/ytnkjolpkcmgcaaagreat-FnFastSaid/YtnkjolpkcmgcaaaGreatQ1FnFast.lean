/-
  Facts and plain laws: what the functions compute, in plain words. Conditions: as each says.
-/
import Derived.Test.YtnkjolpkcmgcaaaGreatQ0FnFast
open List renaming getElem?_eq_some_iff->bWn,getElem?_set->bYp,getElem?_eq_getElem->bWl,all_eq_true->bW5,getElem?_take->bXv,mem_of_getElem?->bWu,pairwise_iff_getElem->bYk,Sublist->bZd,not_mem_nil->bW7,mem_append->bWq,mem_singleton->bWp,getElem_mem->bXt,append_nil->bXh,flatMap_cons->bZp,append_assoc->bW6,length->bW0,length_append->bW9,mem_cons_of_mem->bWo,map_cons->bW2,length_cons->bXp,length_take->bXw,length_map->bXe,length_reverse->bYz,length_drop->bYy,nil_append->bXc,filter_cons->bYr,getElem?_map->bXx,length_nil->bYc,length_filter_le->bZb,mem_filter->bWy,mem_cons->bWm,mem_flatMap->bXf,foldl_cons->bY1,mem_or_eq_of_mem_set->bZw,mem_of_mem_drop->bYa,drop_eq_getElem_cons->bZa,reverse_cons->bZo,mem_cons_self->bWt,mem_of_mem_take->bX8,mem_map->bWr,map_append->bX6,take_append_drop->bX0,length_set->bYb,length_singleton->bX5,getLast?_concat->bYi,dropLast_concat->bYs,getElem?_set_self->bYj,getElem?_append_left->bZ1,length_dropLast->bZ3,cons_append->bZg,getElem?_append_right->bY7,map_map->bY6,getElem_of_mem->bZ4,nodup_append->bXr
open Bool renaming and_eq_true->bWj,not_true->bWw,not_false->bW1,and_self->bZc,false_eq_true->bWz,or_self->bZq,or_eq_true->bX2,not_eq_true'->bW8,or_eq_false_iff->bYo,and_false->bYu
open Int renaming eq_ofNat_of_zero_le->bXs,lt_irrefl->bXu,toNat_natCast->bWs,le_refl->bXl,le_trans->bX4
open Nat renaming le_refl->bWx,le_trans->bWk,zero_le->bW3,succ_mul->bXk,mul_le_mul_right->bX1,le_succ->bXi,not_lt_zero->bZm,le_of_eq->bYh,le_add_right->bZn,add_sub_cancel->bYt,add_le_add_right->bYf,le_add_left->bX7
open Sum renaming inl->bWi,inr->bWh,elim_inl->bYm
open Option renaming getD_some->bXo,map_eq_some_iff->bXd
open Array renaming length_toList->bZv
set_option linter.unusedVariables false
set_option linter.unusedSimpArgs false
set_option maxRecDepth 100000
namespace Go.Proofs.YtnkjolpkcmgcaaaGreat
open Go.Ab Go.V
theorem AsI.snoc{as:lAS}(h:AsI as){d v:Int}{b:Bool}(hd:0<=d/\1>=d)(hv:0<=v/\v<1000000):AsI (as++[(d,b,1+8 * v+(as.length:Int))]):=by
 intro j x hx;rw[List.getElem?_append]at hx;split at hx
 .exact h j x hx
 .next hj=>
  have hj0:j - as.length=0:=by
   have :=(bWn.1 hx).1;simp at this;omega
  rw[hj0]at hx;simp only[List.getElem?_cons_zero,Option.some.injEq]at hx;subst hx;exact⟨hd,v,hv.1,hv.2,by show 1+8 * v+(j:Int)=1+8 * v+(as.length:Int);omega⟩
theorem AsI.set{as:lAS}(h:AsI as){i q:Nat}(hi:i<as.length)(hq:q<as.length):AsI (as.set i (as[q].1,as[i].2.1,as[i].2.2)):=by
 intro j x hx;rw[bYp]at hx;split at hx
 .next e=>
  subst e;simp only[hi,zV,Option.some.injEq]at hx;subst hx;exact⟨(h q as[q] (bWl hq)).1,(h i as[i] (bWl hi)).2⟩
 .exact h j x hx
theorem aZe{α:Type}(p:Nat->α->Bool){l:List α}(h:∀(j:Nat) (x:α),l[j]? =some x->p j x=true):(l.zipIdx 0).all (λz=>p z.2 z.1)=true:=by
 rw[bW5]
 rintro⟨x,j⟩ hm
 exact h j x (by simpa using List.mem_zipIdx_iff_getElem?.1 hm)
theorem aJa{α:Type}{l:List α}{j:Nat}{y:α}(h:y∈l.take j):∃i,i<j/\l[i]? =some y:=by
 obtain⟨i,hi⟩:=List.mem_iff_getElem?.1 h;rw[bXv]at hi;split at hi
 .next c=>exact⟨i,c,hi⟩
 .cases hi
theorem bPa{as:lAS}{ls:lLk}(h1:1<=as.length)(h8:as.length<=8)(ha:AsI as)(hv:∀x∈ls,rZ (as,ls) x=true)(hp:ls.Pairwise λy x=>bM y x.1 x.2.1=false/\bM y x.2.2.1 x.2.2.2.1=false):kQ (as,ls)=true:=by
 unfold kQ;rw[bWj,bWj];refine⟨?_,?_,?_⟩
 .simp only[inR,bWj,zR];omega
 .refine aZe (asP (as,ls)) (l:=as) λj x hx=> ?_
  obtain⟨⟨a0,a1⟩,v,v0,v1,v2⟩:=ha j x hx;have hj:j<as.length:=(bWn.1 hx).1;have v2:1+8 * v+(j:Int)=x.2.2:=v2;unfold asP;simp only[bWj,inR,zR];refine⟨⟨a0,show (2:Int)>=x.1 by omega⟩,⟨show (1:Int)<=x.2.2 by omega,show (2147483646:Int)>=x.2.2 by omega⟩,bW5.2 λy hy=> ?_⟩;obtain⟨i,hi,hy⟩:=aJa hy;obtain⟨_,w,w0,w1,w2⟩:=ha i y hy;have w2:1+8 * w+(i:Int)=y.2.2:=w2;have :x.2.2≠y.2.2:=λe=>by
   have e:1+8 * v+(j:Int)=1+8 * w+(i:Int):=v2.trans (e.trans w2.symm);omega
  simpa using this
 .refine aZe (lkP (as,ls)) (l:=ls) λj x hx=> ?_
  unfold lkP;rw[bWj];refine⟨hv x (bWu hx),bW5.2 λy hy=> ?_⟩;obtain⟨i,hi,hy⟩:=aJa hy;obtain⟨hi',ei⟩:=bWn.1 hy;obtain⟨hj',ej⟩:=bWn.1 hx;have :=(bYk.1 hp) i j hi' hj' hi;rw[ei,ej]at this;simp[this.1,this.2]
structure aDd (as:lAS) (ls:lLk):Prop where
 pos:1<=as.length
 len:as.length<=8
 links:ls.length<=100
 val:∀x∈ls,rZ (as,ls) x=true
 top:kQ (as,ls)=true
def aWd(code:List Int)(o:Option (lAS×lLk×List Int×q17)):Prop:= ∃as ls c' p' h',o=some (as,ls,c',p',h')/\aDd as ls/\Cur code (c',p',h')
def T3I(code:List Int)(n:Nat)(i:Nat)(s:Int×lAS×lLk×List Int×q17):Prop:=(s.2.1.length=n/\AsI s.2.1/\pA s.2.2.1)/\s.2.2.1.length<=10 * i/\Cur code s.2.2.2
theorem bQ9{code:List Int}(hl:code.length<=1048576){c:List Int}{p h:Int}(hc:Cur code (c,p,h)):aWd code (wD (c,p,h)):=by
 obtain⟨v1,c1,p1,h1,e1,r1,k1⟩:=dQ hl (n:=3) (by decide) (by decide) hc;obtain⟨v2,c2,p2,h2,e2,r2,k2⟩:=dQ hl (n:=6) (by decide) (by decide) k1;obtain⟨m1,rfl⟩:=bXs r1.1;obtain⟨m2,rfl⟩:=bXs r2.1;have w1:wr ((1:Int)+(m1:Int))=((m1+1:Nat):Int):=by rw[bD (by omega) (by omega)];omega
 have w2:wr (((m1+1:Nat):Int)+(m2:Int))=((m1+1+m2:Nat):Int):=by rw[bD (by omega) (by omega)];omega
 unfold wD ixb pj2 pj3 pj4 pj5;simp only[e1,e2,aA,cC,eG,dC,dA,dH,w1,w2];generalize hco:m1+1=co at *;generalize hn:co+m2=n at *;have hco1:1<=co:=by omega
 have hcn:co<=n:=by omega
 have hn8:n<=8:=by omega
 refine iM (G:=aWd code) n (λs:Int×lAS×List Int×Int×Int=>s.1) (λi s=>(s.2.1.length=i/\AsI s.2.1)/\Cur code s.2.2) (λr:lAS×List Int×Int×Int=>(r.1.length=n/\AsI r.1)/\Cur code r.2) ?_ ?_ 0 ((0:Int),[],c2,p2,h2) (by omega) rfl ⟨⟨rfl,bQx⟩,k2⟩ ?_
 .rintro i ⟨_,as,c3,p3,h3⟩ hi rfl ⟨⟨a1,a3⟩,a2⟩
  simp only at a1 a2 a3;right;obtain⟨v4,c4,p4,h4,e4,r4,k4⟩:=dQ hl (n:=2) (by decide) (by decide) a2;obtain⟨v5,c5,p5,h5,e5,r5,k5⟩:=aRq hl (n:=1000000) (by decide) k4;refine⟨(((i+1:Nat):Int),as++[(v4,decide ((i:Int)<((co:Nat):Int)),wr ((wr ((1:Int)+(wr (v5 * (8:Int)))))+(i:Int)))],c5,p5,h5),?_,rfl,⟨by simp[a1],?_⟩,k5⟩;simp only[zX (show (i:Int)<(n:Int) by omega),zZ,e4,e5,aA,aG (b:=24) (n:=as.length) (m:=1) (by decide) (by omega),fJ (show i<=1000000000 by omega)];have e:wr ((wr ((1:Int)+(wr (v5 * (8:Int)))))+(i:Int))=1+8 * v5+(as.length:Int):=by
   rw[bD (n:=v5 * 8) (by omega) (by omega),bD (n:=1+v5 * 8) (by omega) (by omega),bD (by omega) (by omega)];omega
  show AsI (as++[_]);rw[e];exact a3.snoc ⟨by omega,by omega⟩ ⟨by omega,by omega⟩
 .rintro⟨_,as,c3,p3,h3⟩ rfl ⟨a1,a2⟩
  exact⟨(as,c3,p3,h3),by simp only[zW (bXu _),zY],a1,a2⟩
 rintro⟨as,c3,p3,h3⟩ ⟨⟨a1,a3⟩,a2⟩
 simp only at a1 a2 a3;refine iM (G:=aWd code) co (λs:Int×lAS×lLk×List Int×Int×Int=>s.1) (λi s=>1<=i/\T3I code n i s) (λr:lAS×lLk×List Int×Int×Int=>(r.1.length=n/\AsI r.1/\pA r.2.1)/\r.2.1.length<=10 * co/\Cur code r.2.2) ?_ ?_ 1 ((1:Int),as,[],c3,p3,h3) hco1 rfl ⟨bWx 1,⟨a1,a3,bDm⟩,by simp,a2⟩ ?_
 .rintro i ⟨_,as,ls,c4,p4,h4⟩ hi rfl ⟨b0,b1,b2,b3⟩
  simp only at b1 b2 b3;right;obtain⟨v5,c5,p5,h5,e5,r5,k5⟩:=dQ hl (n:=(i:Int)) (by omega) (by omega) b3;obtain⟨l6,e6,r6,f6⟩:=aEn (t:=(as,ls)) (a:=v5) (b:=(i:Int)) (k:=1) (by show ls.length<=_;omega) (by omega) b1.2.2;obtain⟨v7,c7,p7,h7,e7,k7⟩:=aAn hl (n:=2) (by decide) (by decide) k5;simp only at e6 r6;cases v7 with
  | false=>
   refine⟨(((i+1:Nat):Int),as,l6,c7,p7,h7),?_,rfl,by omega,⟨b1.1,b1.2.1,f6⟩,by simp only;omega,k7⟩;simp only[zX (show (i:Int)<(co:Int) by omega),zZ,zY,e5,e6,e7,aA,fJ (show i<=1000000000 by omega)]
  | true=>
   obtain⟨v8,c8,p8,h8,e8,r8,k8⟩:=dQ hl (n:=(i:Int)) (by omega) (by omega) k7;obtain⟨l9,e9,r9,f9⟩:=aEn (t:=(as,l6)) (a:=v8) (b:=(i:Int)) (k:=1) (by show l6.length<=_;omega) (by omega) f6;simp only at e9 r9;refine⟨(((i+1:Nat):Int),as,l9,c8,p8,h8),?_,rfl,by omega,⟨b1.1,b1.2.1,f9⟩,by simp only;omega,k8⟩;simp only[zX (show (i:Int)<(co:Int) by omega),zZ,e5,e6,e7,e8,e9,aA,fJ (show i<=1000000000 by omega)]
 .rintro⟨_,as,ls,c4,p4,h4⟩ rfl ⟨b0,b1,b2,b3⟩
  exact⟨(as,ls,c4,p4,h4),by simp only[zW (bXu _),zY],b1,b2,b3⟩
 rintro⟨as,ls,c4,p4,h4⟩ ⟨b1,b2,b3⟩
 simp only at b1 b2 b3;refine iM (G:=aWd code) n (λs:Int×lAS×lLk×List Int×Int×Int=>s.1) (λi s=>1<=i/\co<=i/\T3I code n i s) (λr:lAS×lLk×List Int×Int×Int=>(r.1.length=n/\AsI r.1/\pA r.2.1)/\r.2.1.length<=10 * n/\Cur code r.2.2) ?_ ?_ co (((co:Nat):Int),as,ls,c4,p4,h4) hcn rfl ⟨hco1,bWx co,b1,b2,b3⟩ ?_
 .rintro i ⟨_,as,ls,c5,p5,h5⟩ hi rfl ⟨d0,d1,⟨d2,d5,d6⟩,d3,d4⟩
  simp only at d2 d3 d4 d5 d6;right;have hlen:(as.length:Int)=(n:Int):=by omega
  obtain⟨v6,c6,p6,h6,e6,r6,k6⟩:=dQ hl (n:=2) (by decide) (by decide) d4;obtain⟨m6,rfl⟩:=bXs r6.1;have w6:wr ((1:Int)+(m6:Int))=((m6+1:Nat):Int):=by rw[bD (by omega) (by omega)];omega
  simp only[hlen,zX (show (i:Int)<(n:Int) by omega),zZ,e6,w6,aA,Option.bind_assoc];refine xZ (G:=λo=> ∃s',o=some (bWi s')/\s'.1=((i+1:Nat):Int)/\1<=i+1/\co<=i+1/\T3I code n (i+1) s') (λ(m:Nat) (s:Int×lAS×lLk×List Int×q17)=>s.1=(m:Int)/\m<=2/\(s.2.1.length=n/\AsI s.2.1/\pA s.2.2.1)/\s.2.2.1.length+m<=10 * i+2/\Cur code s.2.2.2) (λr:lAS×lLk×List Int×Int×Int=>(r.1.length=n/\AsI r.1/\pA r.2.1)/\r.2.1.length<=10 * i+2/\Cur code r.2.2) ?_ (m6+1) (((m6+1:Nat):Int),as,ls,c6,p6,h6) ⟨rfl,by omega,⟨d2,d5,d6⟩,by simp only;omega,k6⟩ ?_
  .rintro m ⟨_,as,ls,c7,p7,h7⟩ ⟨rfl,f1,⟨f2,f5,f6⟩,f3,f4⟩
   simp only at f2 f3 f4 f5 f6;cases m with
   | zero=>exact .inl ⟨(as,ls,c7,p7,h7),rfl,⟨f2,f5,f6⟩,by simpa using f3,f4⟩
   | succ m=>
    right;obtain⟨v8,c8,p8,h8,e8,r8,k8⟩:=dQ hl (n:=(i:Int)) (by omega) (by omega) f4;obtain⟨q8,rfl⟩:=bXs r8.1;obtain⟨v9,c9,p9,h9,e9,k9⟩:=aAn hl (n:=5) (by decide) (by decide) k8;have hq:q8<n:=by omega
    have hlen:(as.length:Int)=(n:Int):=by omega
    have hq1:as[q8]? =some (as[q8]'(by omega)):=bWl (by omega);have hi1:as[i]? =some (as[i]'(by omega)):=bWl (by omega);have wm:wr (((m+1:Nat):Int) - 1)=(m:Int):=by rw[bD (by omega) (by omega)];omega
    have fin:∀(as':lAS) (c p h:_),as'.length=n->AsI as'->Cur code (c,p,h)-> ∃s',(Option.bind (cond (decide ((0:Int)<=(q8:Int))) (cond (decide ((q8:Int)<(as'.length:Int))) (Option.bind as'[((q8:Nat):Int).toNat]? λx79=>cond (decide ((0:Int)<=(i:Int))) (cond (decide ((i:Int)<(as'.length:Int))) (Option.bind as'[((i:Nat):Int).toNat]? λx80=>cond (x79.1==x80.1) (Option.bind (sE (as',ls) (q8:Int) (i:Int) (2:Int)) λy81=>some (y81.1,y81.2,c,p,h)) (some (as',ls,c,p,h))) none) none) none) none) λ(s82:lAS×lLk×List Int×q17)=>some (bWi (wr (((m+1:Nat):Int) - (1:Int)),s82.1,s82.2.1,s82.2.2.1,s82.2.2.2.1,s82.2.2.2.2)):Option ((Int×lAS×lLk×List Int×q17)⊕(lAS×lLk×List Int×q17)))=some (bWi s')/\s'.1=(m:Int)/\m<=2/\(s'.2.1.length=n/\AsI s'.2.1/\pA s'.2.2.1)/\s'.2.2.1.length+m<=10 * i+2/\Cur code s'.2.2.2:=by
     intro as' c p h g1 g3 g2;have hl':(as'.length:Int)=(n:Int):=by omega
     have hq1:as'[q8]? =some (as'[q8]'(by omega)):=bWl (by omega);have hi1:as'[i]? =some (as'[i]'(by omega)):=bWl (by omega);simp only[hl',zX (show (0:Int)<=(q8:Int) by omega),zX (show (q8:Int)<(n:Int) by omega),zX (show (0:Int)<=(i:Int) by omega),zX (show (i:Int)<(n:Int) by omega),zZ,bWs,hq1,hi1,aA,wm];obtain⟨l6,e6,r6,z6⟩:=aEn (t:=(as',ls)) (a:=(q8:Int)) (b:=(i:Int)) (k:=2) (by show ls.length<=_;omega) (by omega) f6;simp only at e6 r6;cases (as'[q8]'(by omega)).1==(as'[i]'(by omega)).1 with
     | true=>exact⟨_,by simp only[zZ,e6,aA];rfl,rfl,by omega,⟨g1,g3,z6⟩,by simp only;omega,g2⟩
     | false=>exact⟨_,by simp only[zY,aA];rfl,rfl,by omega,⟨g1,g3,f6⟩,by simp only;omega,g2⟩
    cases v9 with
    | true=>
     obtain⟨s',g1,g2⟩:=fin as c9 p9 h9 f2 f5 k9;refine⟨m,s',by omega,?_,g2⟩;rw[<- g1];simp only[zX (show ((m+1:Nat):Int)>0 by omega),zZ,zY,e8,e9,aA,bWw]
    | false=>
     obtain⟨s',g1,g2⟩:=fin (as.set i ((as[q8]'(by omega)).1,(as[i]'(by omega)).2.1,(as[i]'(by omega)).2.2)) c9 p9 h9 (by simp[f2]) (f5.set (by omega) (by omega)) k9;refine⟨m,s',by omega,?_,g2⟩;rw[<- g1];simp only[zX (show ((m+1:Nat):Int)>0 by omega),zZ,e8,e9,aA,bW1,hlen,zX (show (0:Int)<=(q8:Int) by omega),zX (show (q8:Int)<(n:Int) by omega),zX (show (0:Int)<=(i:Int) by omega),zX (show (i:Int)<(n:Int) by omega),bWs,hq1,hi1]
  .rintro⟨as,ls,c7,p7,h7⟩ ⟨⟨f1,f5,f6⟩,f2,f3⟩
   simp only at f1 f2 f3 f5 f6;have w7:wr (wr ((i:Int) - (co:Int))+1)=((i - co+1:Nat):Int):=by rw[bD (n:=(i:Int) - (co:Int)) (by omega) (by omega),bD (by omega) (by omega)];omega
   obtain⟨v8,c8,p8,h8,e8,r8,k8⟩:=dQ hl (n:=((i - co+1:Nat):Int)) (by omega) (by omega) f3;obtain⟨v9,c9,p9,h9,e9,k9⟩:=aAn hl (n:=3) (by decide) (by decide) k8;simp only[w7,e8,aA,fJ (show i<=1000000000 by omega)];cases hlt:decide (wr ((co:Int)+v8)<(i:Int)) with
   | false=>exact⟨_,by simp only[zY,aA];rfl,rfl,by omega,by omega,⟨f1,f5,f6⟩,by simp only;omega,k8⟩
   | true=>
    have hlt':=of_decide_eq_true hlt;obtain⟨l6,e6,r6,z6⟩:=aEn (t:=(as,ls)) (a:=wr ((co:Int)+v8)) (b:=(i:Int)) (k:=3) (by show ls.length<=_;omega) (by omega) f6;simp only at e6 r6;cases v9 with
    | false=>exact⟨_,by simp only[zZ,zY,e9,aA];rfl,rfl,by omega,by omega,⟨f1,f5,f6⟩,by simp only;omega,k9⟩
    | true=>exact⟨_,by simp only[zZ,e9,e6,aA];rfl,rfl,by omega,by omega,⟨f1,f5,z6⟩,by simp only;omega,k9⟩
 .rintro⟨_,as,ls,c5,p5,h5⟩ rfl ⟨d0,d1,⟨d2,d5⟩,d3,d4⟩
  simp only at d2 d3 d4 d5;exact⟨(as,ls,c5,p5,h5),by simp only[d2,zW (bXu _),zY],⟨d2,d5⟩,d3,d4⟩
 rintro⟨as,ls,c5,p5,h5⟩ ⟨⟨d2,d5,d6⟩,d3,d4⟩
 simp only at d2 d3 d4 d5 d6;refine iM (G:=aWd code) ls.length (λs:Int×lLk=>s.1) (λi s=>(s.2.length<=i/\bZd s.2 (ls.take i))/\ ∀x∈s.2,rZ (as,ls) x=true) (λr:lLk=>(r.length<=ls.length/\bZd r ls)/\ ∀x∈r,rZ (as,ls) x=true) ?_ ?_ 0 ((0:Int),[]) (by omega) rfl ⟨⟨by simp,List.nil_sublist _⟩,λd hd=>(bW7 hd).elim⟩ ?_
 .rintro i ⟨_,l⟩ hi rfl ⟨⟨g1,g3⟩,g2⟩
  simp only at g1 g2 g3;right;have htk:ls.take (i+1)=ls.take i++[ls[i]]:=(List.take_append_getElem hi).symm;simp only[zX (show (i:Int)<(ls.length:Int) by omega),zX (show (0:Int)<=(i:Int) by omega),zZ,bWs,bWl hi,aA,aZ1 (t:=(as,ls)) (show as.length<=68719476736 by omega),fJ (show i<=1000000000 by omega)];rw[aG (b:=40) (n:=l.length) (m:=1) (by decide) (by omega),zZ];cases hv:rZ (as,ls) ls[i] with
  | true=>exact⟨_,rfl,rfl,⟨by simp;omega,by rw[htk];exact g3.append (bZd.refl _)⟩,λx hx=>by
    rcases bWq.1 hx with hx | hx
    .exact g2 x hx
    .rw[bWp.1 hx];exact hv⟩
  | false=>exact⟨_,rfl,rfl,⟨by show l.length<=i+1;omega,by rw[htk];exact g3.trans (List.sublist_append_left _ _)⟩,g2⟩
 .rintro⟨_,l⟩ rfl ⟨⟨g1,g3⟩,g2⟩
  exact⟨l,by simp only[zW (bXu _),zY],⟨g1,g3.trans (List.take_sublist _ _)⟩,g2⟩
 rintro l ⟨⟨g1,g3⟩,g2⟩
 exact⟨as,l,c5,p5,h5,rfl,⟨by omega,by omega,by omega,g2,bPa (by omega) (by omega) d5 g2 (d6.pw.sublist g3)⟩,d4⟩
theorem aVg{s:den tSg}(h:s.2.2.length<=1000000):∃l,dK s=some l/\l.length=s.2.2.length:=by
 unfold dK;refine iM (G:=λo=> ∃l,o=some l/\l.length=s.2.2.length) s.2.2.length (λs:Int×List Int=>s.1) (λi t=>t.2.length=i) (λl:List Int=>l.length=s.2.2.length) ?_ ?_ 0 ((0:Int),[]) (by omega) rfl rfl (λl hl=>⟨l,rfl,hl⟩)
 .rintro i ⟨_,l⟩ hi rfl h1
  simp only at h1;right;refine⟨(((i+1:Nat):Int),l++[s.2.2[i].1]),?_,rfl,by simp[h1]⟩;simp only[zX (show (i:Int)<(s.2.2.length:Int) by omega),zZ,aO,bWl hi,aA,aG (b:=8) (n:=l.length) (m:=1) (by decide) (by omega),fJ (show i<=1000000000 by omega)]
 .rintro⟨_,l⟩ rfl h1
  exact⟨l,by simp only[zW (bXu _),zY],h1⟩
theorem bHd{s:den tSg}{n:Nat}(hn:n<=s.2.2.length)(h:s.2.2.length<=1000000):∃l,nN s (n:Int)=some l/\l.length=n:=by
 unfold nN zz4;refine iM (G:=λo=> ∃l,o=some l/\l.length=n) n (λs:Int×List Int=>s.1) (λi t=>t.2.length=i) (λl:List Int=>l.length=n) ?_ ?_ 0 ((0:Int),[]) (by omega) rfl rfl (λl hl=>⟨l,rfl,hl⟩)
 .rintro i ⟨_,l⟩ hi rfl h1
  simp only at h1;right;have hi':i<s.2.2.length:=by omega
  refine⟨(((i+1:Nat):Int),l++[s.2.2[i].2.2.2.2]),?_,rfl,by simp[h1]⟩;simp only[zX (show (i:Int)<(n:Int) by omega),zZ,aO,bWl hi',aA,aG (b:=8) (n:=l.length) (m:=1) (by decide) (by omega),fJ (show i<=1000000000 by omega)]
 .rintro⟨_,l⟩ rfl h1
  exact⟨l,by simp only[zW (bXu _),zY],h1⟩
theorem bFj{b:Int}{l:List Int}(h:l.length<=1000000):∃v,oV b l=some v:=by
 unfold oV;refine iM (G:=λo=> ∃v,o=some v) l.length (λs:Int×Int=>s.2) (λi t=>True) (λv:Int=>True) ?_ ?_ 0 (b,(0:Int)) (by omega) rfl trivial (λv hv=>⟨v,rfl⟩)
 .rintro i ⟨v,_⟩ hi rfl _
  right;refine⟨(wW v l[i],((i+1:Nat):Int)),?_,rfl,trivial⟩;simp only[zX (show (i:Int)<(l.length:Int) by omega),zZ,aO,bWl hi,aA,aU8,fJ (show i<=1000000000 by omega)]
 .rintro⟨v,_⟩ rfl _
  exact⟨v,by simp only[zW (bXu _),zY],trivial⟩
theorem aMl{s:den tSg}(i:Int)(h:s.2.2.length<=1000000):∃v,gE s i=some v:=by
 unfold gE pj3;rw[qH,aA];cases hc:inR i 0 (s.2.2.length:Int) with
 | false=>exact⟨0,rfl⟩
 | true=>
  obtain⟨h0,h1⟩:=aI.1 hc;obtain⟨n,rfl⟩:=bXs h0;obtain⟨l,e,k⟩:=bHd (s:=s) (n:=n) (by omega) h;obtain⟨v,e2⟩:=bFj (b:=s.2.1) (l:=l) (by omega);refine⟨v,?_⟩;show Option.bind (nN s (n:Int)) _=_;rw[e,aA,e2,aA]
theorem aW5(key ts b:Int)(h:den aR):fB key ts b h=some (h.1,h.2.1,h.2.2.1,h.2.2.2.1,aFf key ts b h):=by
 unfold fB pj5;rw[show ((h.1,h.2.1,h.2.2.1,h.2.2.2.1,h.2.2.2.2):den aR)=h from rfl,bGg,aA]
def aJx(hs:dE):Prop:= ∀x∈hs,(0:Int)<=x.1/\(8:Int)>x.1
theorem aJx.snoc{hs:dE}{x:den aR}(h:aJx hs)(hx:(0:Int)<=x.1/\(8:Int)>x.1):aJx (hs++[x]):=λy hy=>(bWq.1 hy).elim (h y) λhy=>by rw[bWp.1 hy];exact hx
def InN(n:Int)(hs:dE):Prop:= ∀x∈hs,(0:Int)<=x.1/\n>x.1
def bLd(n:Int)(code:List Int)(o:Option (Int×Int×dE×List Int×q17)):Prop:= ∃a b hs c' p' h',o=some (a,b,hs,c',p',h')/\(hs.length<=5/\InN n hs)/\Cur code (c',p',h')
theorem InN.snoc{n:Int}{hs:dE}{x:den aR}(h:InN n hs)(hx:(0:Int)<=x.1/\n>x.1):InN n (hs++[x]):=λy hy=>(bWq.1 hy).elim (h y) λhy=>by rw[bWp.1 hy];exact hx
theorem InN.as{n:Int}{hs:dE}(h:InN n hs)(hn:n<=8):aJx hs:=λx hx=>⟨(h x hx).1,by have :=(h x hx).2;omega⟩
abbrev GrS:=Int×Int×Int×Int×Int×dE×List Int×Int×Int
theorem bQ7{code:List Int}(hl:code.length<=1048576){as:lAS}{ls:lLk}(ht:aDd as ls)(k:Int){c:List Int}{p h:Int}(hc:Cur code (c,p,h)):bLd (as.length:Int) code (vI (c,p,h) (as,ls) k):=by
 have hlen:=ht.len;have hlk:=ht.links;unfold vI dd ixb one pj2 pj3 pj5 pj6 zz4 zz5 zz6;simp only[cC,eG,dC,dA,dH];refine iM (G:=bLd (as.length:Int) code) as.length (λs:Int×List Int=>s.1) (λi t=>t.2.length<=i/\ ∀x∈t.2,0<=x/\x<(as.length:Int)) (λr:List Int=>r.length<=8/\ ∀x∈r,0<=x/\x<(as.length:Int)) ?_ ?_ 0 ((0:Int),[]) (by omega) rfl ⟨by simp,λd hd=>(bW7 hd).elim⟩ ?_
 .rintro i ⟨_,l⟩ hi rfl ⟨g1,g2⟩
  simp only at g1 g2;right;simp only[zX (show (i:Int)<(as.length:Int) by omega),zZ,aO,bWl hi,aA,aG (b:=8) (n:=l.length) (m:=1) (by decide) (by omega),fJ (show i<=1000000000 by omega)];cases as[i].2.1 with
  | true=>exact⟨_,rfl,rfl,by simp;omega,λx hx=>by
    rcases bWq.1 hx with hx | hx
    .exact g2 x hx
    .rw[bWp.1 hx];omega⟩
  | false=>exact⟨_,rfl,rfl,by show l.length<=i+1;omega,g2⟩
 .rintro⟨_,l⟩ rfl ⟨g1,g2⟩
  exact⟨l,by simp only[zW (bXu _),zY],by simp only at g1;omega,g2⟩
 rintro cores ⟨g1,g2⟩
 obtain⟨v1,c1,p1,h1,e1,r1,k1⟩:=dQ hl (n:=50) (by decide) (by decide) hc;obtain⟨v2,c2,p2,h2,e2,r2,k2⟩:=aRq hl (n:=1000000) (by decide) k1;simp only[e1,e2,aA]
 by_cases h0:cores.length=0
 .rw[show ((cores.length:Int)==0)=true by rw[beq_iff_eq];omega,zZ];exact⟨_,_,_,_,_,_,rfl,⟨by simp,λx hx=>(bW7 hx).elim⟩,k2⟩
 rw[show ((cores.length:Int)==0)=false by rw[beq_eq_false_iff_ne];omega,zY];obtain⟨v3,c3,p3,h3,e3,r3,k3⟩:=dQ hl (n:=(cores.length:Int)) (by omega) (by omega) k2;obtain⟨m3,rfl⟩:=bXs r3.1;have hm3:m3<cores.length:=by omega
 have hr:=g2 cores[m3] (bXt hm3);simp only[e3,aA,zX (show (0:Int)<=(m3:Int) by omega),zX (show (m3:Int)<(cores.length:Int) by omega),zZ,bWs,bWl hm3];generalize cores[m3]=r at hr;refine iM (G:=bLd (as.length:Int) code) 5 (λs:GrS=>s.2.2.1) (λi s=>(0<=s.1/\s.1<(as.length:Int))/\(s.2.2.2.2.2.1.length=i/\InN (as.length:Int) s.2.2.2.2.2.1)/\Cur code s.2.2.2.2.2.2) (λz:((Int×Int×dE×List Int×q17)⊕(Int×Int×dE×List Int×q17))=> ∃a b hs c p h,(z= .inl (a,b,hs,c,p,h)\/z= .inr (a,b,hs,c,p,h))/\(hs.length<=5/\InN (as.length:Int) hs)/\Cur code (c,p,h)) ?_ ?_ 0 (r,(0:Int),(0:Int),v1,v2,[],c3,p3,h3) (by omega) rfl ⟨hr,⟨rfl,λx hx=>(bW7 hx).elim⟩,k3⟩ ?_
 .rintro i ⟨r,inn,_,ts,be,hs,c4,p4,h4⟩ hi rfl ⟨b1,⟨b2,b2'⟩,b3⟩
  simp only at b1 b2 b2' b3;obtain⟨rn,rfl⟩:=bXs b1.1;have hrn:rn<as.length:=by omega
  obtain⟨ds,ek,dl,dm⟩:=bFk (t:=(as,ls)) (r:=(rn:Int)) (k:=k) (by show ls.length<=_;omega);have dl:ds.length<=2 * ls.length:=dl;have hout:∃out c5 p5 h5,(Option.bind (cond (decide ((ds.length:Int)>(0:Int))) (Option.bind (iB (c4,p4,h4) (5:Int)) λy35=>some (!y35.1,y35.2.1,y35.2.2.1,y35.2.2.2)) (some (false,c4,p4,h4))) λ(s36:Bool×List Int×q17)=>cond s36.1 (Option.bind (aN (s36.2.1,s36.2.2.1,s36.2.2.2) (ds.length:Int)) λy37=>cond (decide ((0:Int)<=y37.1)) (cond (decide (y37.1<(ds.length:Int))) (Option.bind ds[y37.1.toNat]? λx38=>some (x38,y37.2.1,y37.2.2.1,y37.2.2.2)) none) none) (some ((0:Int),s36.2.1,s36.2.2.1,s36.2.2.2)):Option (Int×List Int×q17))=some (out,c5,p5,h5)/\(out=0\/out∈gB (as,ls) (rn:Int))/\Cur code (c5,p5,h5):=by
   by_cases hd:(ds.length:Int)>0
   .obtain⟨v5,c5,p5,h5,e5,k5⟩:=aAn hl (n:=5) (by decide) (by decide) b3;simp only[zX hd,zZ,e5,aA];cases v5 with
    | true=>exact⟨0,c5,p5,h5,rfl,.inl rfl,k5⟩
    | false=>
     obtain⟨v6,c6,p6,h6,e6,r6,k6⟩:=dQ hl (n:=(ds.length:Int)) hd (by omega) k5;obtain⟨m6,rfl⟩:=bXs r6.1;have hm6:m6<ds.length:=by omega
     exact⟨ds[m6],c6,p6,h6,by simp only[bW1,zZ,e6,aA,zX (show (0:Int)<=(m6:Int) by omega),zX (show (m6:Int)<(ds.length:Int) by omega),bWs,bWl hm6],.inr (dm _ (bXt hm6)),k6⟩
   .exact⟨0,c4,p4,h4,by simp only[zW hd,zY,aA],.inl rfl,b3⟩
  obtain⟨out,c5,p5,h5,eo,ho,k5⟩:=hout;obtain⟨al,ea,hal⟩:=aVg (s:=(ts,be,hs)) (by show hs.length<=_;omega);have hal:al.length=hs.length:=hal;have er:=aNd (t:=(as,ls)) (r:=(rn:Int)) (d:=out) (show ls.length<=68719476736 by omega);have hfar:out∈gB (as,ls) (rn:Int)->0<=(remote (as,ls) (rn:Int) out).1/\(remote (as,ls) (rn:Int) out).1<(as.length:Int):=λhd=>by
   have :=bJk (t:=(as,ls)) ht.val hd;unfold cG at this;obtain⟨h0,h1⟩:=aI.1 this;exact⟨h0,by simp only at h1;omega⟩
  generalize remote (as,ls) (rn:Int) out=fd at er hfar;obtain⟨far,door⟩:=fd;simp only at hfar;obtain⟨bb,eb⟩:∃b:Bool,(cond (out != (0:Int)) (Option.bind (dK (ts,be,hs)) λy41=>Option.bind (jE y41 far) λy42=>cond y42 (some true) (cond (far==(rn:Int)) (some true) (some (inn==out)))) (some (inn==out)))=some b:=by
   rw[ea,aA,aJ9 (by omega),aA];cases out != 0<;>cases qO al far<;>cases far==(rn:Int)<;>exact⟨_,rfl⟩
  obtain⟨v6,c6,p6,h6,e6,r6,k6⟩:=dQ hl (n:=50) (by decide) (by decide) k5;obtain⟨bt,et⟩:=aMl (s:=(ts,be,hs)) (hs.length:Int) (by show hs.length<=_;omega);have ix:as[rn]? =some as[rn]:=bWl hrn;have hap:aP 40 hs.length 1=true:=aG (by decide) (by omega);simp only[zX (show (i:Int)<5 by omega),zZ,ek,aA];rw[eo,aA];simp only[er,aA];rw[eb,aA];have body:∀o:Int,o=0\/o=out->(∃r,(cond (o==(0:Int)) (some (bWh (bWh (ts,be,hs++[(((rn:Int),inn,o,wr ((wr (ts+(50:Int)))+v6),aFf as[rn].2.2 ts bt ((rn:Int),inn,o,wr ((wr (ts+(50:Int)))+v6),0)):den aR)],c6,p6,h6)))) (some (bWi (far,door,wr ((i:Int)+(1:Int)),ts,be,hs++[(((rn:Int),inn,o,wr ((wr (ts+(50:Int)))+v6),aFf as[rn].2.2 ts bt ((rn:Int),inn,o,wr ((wr (ts+(50:Int)))+v6),0)):den aR)],c6,p6,h6))):Option (GrS⊕((Int×Int×dE×List Int×q17)⊕(Int×Int×dE×List Int×q17))))=some (.inr r)/\(∃a b hs c p h,(r= .inl (a,b,hs,c,p,h)\/r= .inr (a,b,hs,c,p,h))/\(hs.length<=5/\InN (as.length:Int) hs)/\Cur code (c,p,h)))\/
    ∃s':GrS,(cond (o==(0:Int)) (some (bWh (bWh (ts,be,hs++[(((rn:Int),inn,o,wr ((wr (ts+(50:Int)))+v6),aFf as[rn].2.2 ts bt ((rn:Int),inn,o,wr ((wr (ts+(50:Int)))+v6),0)):den aR)],c6,p6,h6)))) (some (bWi (far,door,wr ((i:Int)+(1:Int)),ts,be,hs++[(((rn:Int),inn,o,wr ((wr (ts+(50:Int)))+v6),aFf as[rn].2.2 ts bt ((rn:Int),inn,o,wr ((wr (ts+(50:Int)))+v6),0)):den aR)],c6,p6,h6))):Option (GrS⊕((Int×Int×dE×List Int×q17)⊕(Int×Int×dE×List Int×q17))))=some (.inl s')/\s'.2.2.1=((i+1:Nat):Int)/\(0<=s'.1/\s'.1<(as.length:Int))/\(s'.2.2.2.2.2.1.length=i+1/\InN (as.length:Int) s'.2.2.2.2.2.1)/\Cur code s'.2.2.2.2.2.2:=by
   intro o hoo;cases hz:(o==(0:Int)) with
   | true=>exact .inl ⟨_,rfl,ts,be,_,c6,p6,h6,.inr rfl,⟨by simp;omega,b2'.snoc ⟨by simp only;omega,by simp only;omega⟩⟩,k6⟩
   | false=>
    refine .inr ⟨_,rfl,fJ (show i<=1000000000 by omega),?_,⟨by simp[b2],b2'.snoc ⟨by simp only;omega,by simp only;omega⟩⟩,k6⟩;have hne:o≠0:=by simpa using hz
    rcases hoo with h | rfl
    .exact absurd h hne
    .rcases ho with h | h
     .exact absurd h hne
     .exact hfar h
  cases bb with
  | true=>
   cases inn==(0:Int) with
   | true=>exact .inl ⟨_,rfl,ts,be,hs,c5,p5,h5,.inr rfl,⟨by omega,b2'⟩,k5⟩
   | false=>
    have :=body 0 (.inl rfl);simpa only [zZ,zY,aA,bYm,e6,aO,ix,et,aW5,hap] using this
  | false=>
   have :=body out (.inr rfl);simpa only [zZ,zY,aA,bYm,e6,aO,ix,et,aW5,hap] using this
 .rintro⟨r,inn,_,ts,be,hs,c4,p4,h4⟩ rfl ⟨b1,⟨b2,b2'⟩,b3⟩
  simp only at b1 b2 b2' b3;exact⟨.inl (ts,be,hs,c4,p4,h4),by simp only[show decide ((((5:Nat):Int))<(5:Int))=false from rfl,zY],ts,be,hs,c4,p4,h4,.inl rfl,⟨by omega,b2'⟩,b3⟩
 .rintro z ⟨a,b,hs,c,p,h,hz,h5,k5⟩
  rcases hz with rfl | rfl
  .exact⟨a,b,hs,c,p,h,rfl,h5,k5⟩
  .exact⟨a,b,hs,c,p,h,rfl,h5,k5⟩
theorem aK5{as:lAS}{ls:lLk}(ht:aDd as ls){s:den tSg}(h:s.2.2.length<=1000):∃b,fR (as,ls) s=some b/\(b=true-> ∃x,s.2.2[0]? =some x/\cG (as,ls) x.1=true):=by
 obtain⟨al,ea,hal⟩:=aVg (s:=s) (by omega);have hlen:=ht.len;have hlk:=ht.links;unfold fR pj2 pj3 pj5;rw[qH,aA];cases hc:inR (s.2.2.length:Int) 1 8 with
 | false=>exact⟨false,rfl,λe=>by cases e⟩
 | true=>
  obtain⟨h0,h1⟩:=aI.1 hc;have h00:0<s.2.2.length:=by omega
  have i0:idx s.2.2 (0:Int)=some s.2.2[0]:=by rw[show (0:Int)=((0:Nat):Int) from rfl,aO,bWl h00]
  simp only[bWw,zY,i0,aA];cases s.2.2[0].2.1 != (0:Int) with
  | true=>exact⟨false,rfl,λe=>by cases e⟩
  | false=>
   simp only[zY];rw[show ((s.1,s.2.1,s.2.2):den tSg)=s from rfl,ea,aA];refine iM (G:=λo=> ∃b,o=some b/\(b=true-> ∃x,s.2.2[0]? =some x/\cG (as,ls) x.1=true)) s.2.2.length (λs:List Int×Int=>s.2) (λi t=>t.1=al/\(0<i->cG (as,ls) s.2.2[0].1=true)) (λr:Unit⊕Bool=>r= .inl ()/\cG (as,ls) s.2.2[0].1=true\/r= .inr false) ?_ ?_ 0 (al,(0:Int)) (by omega) rfl ⟨rfl,λh=>by omega⟩ ?_
   .rintro i ⟨_,_⟩ hi rfl ⟨rfl,g2⟩
    rename_i al;have ix:idx s.2.2 (i:Int)=some s.2.2[i]:=by rw[aO,bWl hi]
    simp only[zX (show (i:Int)<(s.2.2.length:Int) by omega),zZ,ix,aA];rw[show ((s.2.2[i].1,s.2.2[i].2.1,s.2.2[i].2.2.1,s.2.2[i].2.2.2.1,s.2.2[i].2.2.2.2):den aR)=s.2.2[i] from rfl,aMd,aA,aDn (t:=(as,ls)) (show as.length<=_ by omega),aA];have e1:cQ (0:Int) (i:Int) (al.length:Int)=true:=uP (by rw[hal];exact hi);have e2:jE (cut al (0:Int) (i:Int)) s.2.2[i].1=some (qO (cut al (0:Int) (i:Int)) s.2.2[i].1):=aJ9 (by rw[jP];exact bWk (List.length_take_le _ _) (by omega));obtain⟨b,eb,hb⟩:∃b:Bool,(cond (!(gS s.2.2[i])) (some true) (cond (!(cG (as,ls) s.2.2[i].1)) (some true) (cond (cQ (0:Int) (i:Int) (al.length:Int)) (Option.bind (jE (cut al (0:Int) (i:Int)) s.2.2[i].1) λy20=>cond y20 (some true) (cond (s.2.2[i].2.2.1==(0:Int)) (some (decide ((i:Int)<(wr ((s.2.2.length:Int) - (1:Int)))))) (some false))) none)))=some b/\(b=false->cG (as,ls) s.2.2[i].1=true):=by
     rw[e1,e2,aA];cases gS s.2.2[i]
     .exact⟨true,rfl,λe=>by cases e⟩
     .cases cG (as,ls) s.2.2[i].1
      .exact⟨true,rfl,λe=>by cases e⟩
      .cases qO (cut al (0:Int) (i:Int)) s.2.2[i].1
       .cases s.2.2[i].2.2.1==(0:Int)
        .exact⟨false,rfl,λ_=>rfl⟩
        .exact⟨_,rfl,λ_=>rfl⟩
       .exact⟨true,rfl,λ_=>rfl⟩
    rw[eb,aA];cases b with
    | true=>exact .inl ⟨.inr false,rfl,.inr rfl⟩
    | false=>
     have hok:=hb rfl
     by_cases hp:i=0
     .subst hp;refine .inr ⟨(al,((1:Nat):Int)),?_,rfl,rfl,λ_=>hok⟩;rfl
     .have hi1:i - 1<s.2.2.length:=by omega
      have w1:wr ((i:Int) - 1)=((i - 1:Nat):Int):=by rw[bD (by omega) (by omega)];omega
      have er:=aNd (t:=(as,ls)) (r:=s.2.2[i - 1].1) (d:=s.2.2[i - 1].2.2.1) (show ls.length<=68719476736 by omega);simp only[zY,zX (show (i:Int)>0 by omega),zZ,w1,aO,bWl hi1,aA,er];obtain⟨b2,eb2⟩:∃b:Bool,(cond ((remote (as,ls) s.2.2[i - 1].1 s.2.2[i - 1].2.2.1).1 != s.2.2[i].1) (some true) (some ((remote (as,ls) s.2.2[i - 1].1 s.2.2[i - 1].2.2.1).2 != s.2.2[i].2.1)))=some b:=by
       cases (remote (as,ls) s.2.2[i - 1].1 s.2.2[i - 1].2.2.1).1 != s.2.2[i].1<;>exact⟨_,rfl⟩
      rw[eb2,aA];cases b2 with
      | true=>exact .inl ⟨.inr false,rfl,.inr rfl⟩
      | false=>
       refine .inr ⟨(al,((i+1:Nat):Int)),?_,rfl,rfl,λ_=>g2 (by omega)⟩;simp only[zY,aA,bYm,fJ (show i<=1000000000 by omega)]
   .rintro⟨_,_⟩ rfl ⟨rfl,g2⟩
    exact⟨.inl (),by simp only[zW (bXu _),zY],.inl ⟨rfl,g2 h00⟩⟩
   .rintro r (⟨rfl,hr⟩ | rfl)
    .exact⟨true,rfl,λ_=>⟨s.2.2[0],bWl h00,hr⟩⟩
    .exact⟨false,rfl,λe=>by cases e⟩
theorem bAn{as:lAS}{ls:lLk}(ht:aDd as ls){s:den tSg}(h:s.2.2.length<=1000):∃v,eZ (as,ls) s=some v:=by
 have hlen:=ht.len;unfold eZ pj2 pj3 pj5;refine iM (G:=λo=> ∃b,o=some b) s.2.2.length (λs:Int=>s) (λi t=>True) (λr:Unit⊕Int=>True) ?_ ?_ 0 (0:Int) (by omega) rfl trivial ?_
 .rintro i _ hi rfl _
  obtain⟨bt,et⟩:=aMl (s:=s) (i:Int) (by omega);have et:gE (s.1,s.2.1,s.2.2) (i:Int)=some bt:=et;have ev:=bH6 (t:=(as,ls)) (ts:=s.1) (beta:=bt) (h:=s.2.2[i]) (show as.length<=68719476736 by omega);have ev:jT (as,ls) s.1 bt (s.2.2[i].1,s.2.2[i].2.1,s.2.2[i].2.2.1,s.2.2[i].2.2.2.1,s.2.2[i].2.2.2.2)=some _:=ev;simp only[zX (show (i:Int)<(s.2.2.length:Int) by omega),zZ,aO,bWl hi,aA,et,ev,fJ (show i<=1000000000 by omega)];cases tP (as,ls) s.1 bt s.2.2[i] with
  | true=>exact .inr ⟨_,rfl,rfl,trivial⟩
  | false=>exact .inl ⟨_,rfl,trivial⟩
 .rintro _ rfl _
  exact⟨.inl (),by simp only[zW (bXu _),zY],trivial⟩
 .rintro r _
  cases r with
  | inl u=>exact⟨_,rfl⟩
  | inr v=>exact⟨_,rfl⟩
theorem aTk{as:lAS}{ls:lLk}(ht:aDd as ls){s:den tSg}(h:s.2.2.length<=1000):∃v,cX (as,ls) s=some v:=by
 have hlen:=ht.len;have hlk:=ht.links;obtain⟨b,eb,hb⟩:=aK5 ht h;unfold cX pj2 pj3;have eb:fR (as,ls) (s.1,s.2.1,s.2.2)=some b:=eb;rw[eb,aA];cases b with
 | false=>exact⟨0,rfl⟩
 | true=>
  obtain⟨x,hx,hok⟩:=hb rfl;obtain⟨h0,rfl⟩:=bWn.1 hx;obtain⟨y,hy,iy⟩:=aAv hok;have ef:eM (s.1,s.2.1,s.2.2)=some s.2.2[0].1:=by
   unfold eM;rw[show ((s.2.2.length:Int)==0)=false by rw[beq_eq_false_iff_ne];omega,zY,show (0:Int)=((0:Nat):Int) from rfl,aO,bWl h0,aA]
  have iy:idx as s.2.2[0].1=some y:=iy;simp only[bWw,zY,ef,iy,aA];cases y.2.1 with
  | false=>exact⟨0,rfl⟩
  | true=>
   simp only[bWw,zY];refine iM (G:=λo=> ∃b,o=some b) s.2.2.length (λs:Int×Int=>s.2) (λi t=>True) (λr:Int⊕Int=>True) ?_ ?_ 0 ((0:Int),(0:Int)) (by omega) rfl trivial ?_
   .rintro i ⟨k,_⟩ hi rfl _
    have ek:=aQ6 (t:=(as,ls)) (r:=s.2.2[i].1) (d:=s.2.2[i].2.2.1) (show ls.length<=68719476736 by omega);simp only[zX (show (i:Int)<(s.2.2.length:Int) by omega),zZ,aO,bWl hi,aA,ek,fJ (show i<=1000000000 by omega)];cases s.2.2[i].2.2.1==(0:Int) with
    | true=>exact .inr ⟨_,rfl,rfl,trivial⟩
    | false=>
     cases k != (0:Int) with
     | false=>exact .inr ⟨_,rfl,rfl,trivial⟩
     | true=>
      simp only[zZ,zY,aA];cases eF (as,ls) s.2.2[i].1 s.2.2[i].2.2.1 != k with
      | true=>exact .inl ⟨_,rfl,trivial⟩
      | false=>exact .inr ⟨_,rfl,rfl,trivial⟩
   .rintro⟨k,_⟩ rfl _
    exact⟨.inl k,by simp only[zW (bXu _),zY],trivial⟩
   .rintro r _
    cases r with
    | inr v=>exact⟨_,rfl⟩
    | inl v=>
     simp only[bYm];cases v==(1:Int)
     .cases v==(2:Int)<;>exact⟨_,rfl⟩
     .exact⟨_,rfl⟩
theorem bCg{as:lAS}{ls:lLk}(ht:aDd as ls){s:den tSg}(h:s.2.2.length<=1000):∃b,gC (as,ls) s=some b/\(b=true->s.2.2≠[]):=by
 obtain⟨b,eb,hb⟩:=aK5 ht h;have hb:b=true->s.2.2≠[]:=λe he=>by
  obtain⟨x,hx,_⟩:=hb e;rw[he]at hx;cases hx
 obtain⟨v,ev⟩:=bAn ht h;obtain⟨k,ek⟩:=aTk ht h;have eb:fR (as,ls) (s.1,s.2.1,s.2.2)=some b:=eb;have ev:eZ (as,ls) (s.1,s.2.1,s.2.2)=some v:=ev;have ek:cX (as,ls) (s.1,s.2.1,s.2.2)=some k:=ek;unfold gC pj2 pj3;simp only[eb,ev,ek,qH,aC0,aA];cases b
 .exact⟨_,rfl,λe=>Bool.noConfusion e⟩
 .have hb:=hb rfl;cases decide (v<0)
  .exact⟨_,rfl,λ_=>hb⟩
  .cases k != (0:Int)
   .exact⟨_,rfl,λ_=>hb⟩
   .cases inR s.1 0 1000000<;>exact⟨_,rfl,λ_=>hb⟩
theorem bNa{s:den tSg}(h:s.2.2.length<=1000):∃b,iP s=some b:=by
 unfold iP
 by_cases h0:(s.2.2.length:Int)>0
 .have w1:wr ((s.2.2.length:Int) - 1)=((s.2.2.length - 1:Nat):Int):=by rw[bD (by omega) (by omega)];omega
  rw[zX h0,zZ,w1,aO,bWl (by omega),aA,aA];exact⟨_,rfl⟩
 .rw[zW h0,zY];exact⟨_,rfl⟩
theorem bC5{a b:dE}(h:a.length<=1000000):∃v,iD a b=some v:=by
 unfold iD zz4
 by_cases hn:a.length=b.length
 .rw[hn,bne_self_eq_false,zY,<- hn];refine iM (G:=λo=> ∃b,o=some b) a.length (λs:Int=>s) (λi t=>True) (λr:Unit⊕Bool=>True) ?_ ?_ 0 (0:Int) (by omega) rfl trivial ?_
  .rintro i _ hi rfl _
   have h2:i<b.length:=by omega
   simp only[zX (show (i:Int)<(a.length:Int) by omega),zZ,aO,bWl hi,bWl h2,aA,fJ (show i<=1000000000 by omega)];cases ((a[i].1==b[i].1)&&((a[i].2.1==b[i].2.1)&&((a[i].2.2.1==b[i].2.2.1)&&((a[i].2.2.2.1==b[i].2.2.2.1)&&((a[i].2.2.2.2==b[i].2.2.2.2)&&true))))) with
   | true=>exact .inr ⟨_,rfl,rfl,trivial⟩
   | false=>exact .inl ⟨_,rfl,trivial⟩
  .rintro _ rfl _
   exact⟨.inl (),by simp only[zW (bXu _),zY],trivial⟩
  .rintro r _
   cases r with
   | inl u=>exact⟨_,rfl⟩
   | inr v=>exact⟨_,rfl⟩
 .rw[show ((a.length:Int) != (b.length:Int))=true by rw[bne_iff_ne];omega,zZ];exact⟨_,rfl⟩
theorem bI2{a b:den tSg}(h:a.2.2.length<=1000000):∃v,iX a b=some v:=by
 obtain⟨v,e⟩:=bC5 (b:=b.2.2) h;unfold iX;rw[e,aA];cases a.1==b.1
 .exact⟨_,rfl⟩
 .cases a.2.1==b.2.1<;>exact⟨_,rfl⟩
theorem aVi{l:lSg}{s:den tSg}(hl:l.length<=1000000)(h:∀x∈l,x.2.2.length<=1000):∃v,rS l s=some v:=by
 unfold rS pj3;refine iM (G:=λo=> ∃b,o=some b) l.length (λs:Int=>s) (λi t=>True) (λr:Unit⊕Bool=>True) ?_ ?_ 0 (0:Int) (by omega) rfl trivial ?_
 .rintro i _ hi rfl _
  obtain⟨v,e⟩:=bI2 (a:=l[i]) (b:=s) (by have :=h l[i] (bXt hi);omega);have e:iX (l[i].1,l[i].2.1,l[i].2.2) (s.1,s.2.1,s.2.2)=some v:=e;simp only[zX (show (i:Int)<(l.length:Int) by omega),zZ,aO,bWl hi,aA,e,fJ (show i<=1000000000 by omega)];cases v with
  | false=>exact .inr ⟨_,rfl,rfl,trivial⟩
  | true=>exact .inl ⟨_,rfl,trivial⟩
 .rintro _ rfl _
  exact⟨.inl (),by simp only[zW (bXu _),zY],trivial⟩
 .rintro r _
  cases r with
  | inl u=>exact⟨_,rfl⟩
  | inr v=>exact⟨_,rfl⟩
structure DbD (n:Nat) (d c:lSg):Prop where
 down:d.length<=n
 core:c.length<=n
 hd:∀x∈d,x.2.2.length<=5
 hc:∀x∈c,x.2.2.length<=5
 ha:∀x∈d,x.2.2≠[]/\aJx x.2.2
theorem aK0{l:lSg}{n:Nat}(hn:n<=1000)(h:l.length<=n)(hh:∀x∈l,x.2.2.length<=5):SmB 68719476736 (.sl tSg) l:=by
 refine⟨by omega,λx hx=>⟨trivial,trivial,?_,λe he=>⟨trivial,trivial,trivial,trivial,trivial⟩⟩⟩;have :=hh x hx;show x.2.2.length<=_;omega
def aQf(t:den tTo)(s:den tSg)(k:Int):Prop:=gC t s=some true/\iP s=some true/\cX t s=some k
theorem bJf{as:lAS}{ls:lLk}(ht:aDd as ls){n:Nat}(hn:n<=100){d c:lSg}(hk:DbD n d c){s:den tSg}(h:s.2.2.length<=5)(ha:aJx s.2.2):∃d' c',mS (as,ls) (d,c) s=some (d',c')/\DbD (n+1) d' c'/\(∀x∈d',x∈d\/(x=s/\aQf (as,ls) s 2))/\(∀x∈c',x∈c\/(x=s/\ ∃k,aQf (as,ls) s k/\k≠2)):=by
 obtain⟨b1,e1,hb1⟩:=bCg ht (s:=s) (by omega);obtain⟨b2,e2⟩:=bNa (s:=s) (by omega);obtain⟨b3,e3⟩:=aVi (l:=d) (s:=s) (by have :=hk.down;omega) (λx hx=>by have :=hk.hd x hx;omega);obtain⟨b4,e4⟩:=aVi (l:=c) (s:=s) (by have :=hk.core;omega) (λx hx=>by have :=hk.hc x hx;omega);obtain⟨k,ek⟩:=aTk ht (s:=s) (by omega);have c1:=aAd (aK0 (by omega) hk.down hk.hd);have c2:=aAd (aK0 (by omega) hk.core hk.hc);have c3:=aFu (x:=s) (by omega);have e5:∃b,mT (d,c) s=some b:=by
  unfold mT pj3;have e3:rS d (s.1,s.2.1,s.2.2)=some b3:=e3;have e4:rS c (s.1,s.2.1,s.2.2)=some b4:=e4;simp only[e3,e4,aA];cases b3<;>exact⟨_,rfl⟩
 obtain⟨b5,e5⟩:=e5;have hdn:=hk.down;have hcn:=hk.core;have e1:gC (as,ls) (s.1,s.2.1,s.2.2)=some b1:=e1;have e2:iP (s.1,s.2.1,s.2.2)=some b2:=e2;have e5:mT (d,c) (s.1,s.2.1,s.2.2)=some b5:=e5;have ek:cX (as,ls) (s.1,s.2.1,s.2.2)=some k:=ek;have c3:gI (s.1,s.2.1,s.2.2)=some s:=c3;have same:DbD (n+1) d c:=⟨by omega,by omega,hk.hd,hk.hc,hk.ha⟩
 unfold mS pj2 pj3;simp only[c1,c2,aA,cC,eG,dC,dA,dH,e1,e2,e5,ek,c3,aG (b:=40) (n:=d.length) (m:=1) (by decide) (by omega),aG (b:=40) (n:=c.length) (m:=1) (by decide) (by omega),zZ];obtain⟨b6,e6,hb6⟩:∃b:Bool,(cond (!b1) (some true) (cond (!b2) (some true) (some b5)))=some b/\(b=false->b1=true/\b2=true):=by
  cases b1
  .exact⟨_,rfl,λe=>Bool.noConfusion e⟩
  .cases b2
   .exact⟨_,rfl,λe=>Bool.noConfusion e⟩
   .exact⟨_,rfl,λ_=>⟨rfl,rfl⟩⟩
 rw[e6,aA];cases b6 with
 | true=>exact⟨d,c,rfl,same,λx hx=> .inl hx,λx hx=> .inl hx⟩
 | false=>
  obtain⟨hb1t,hb2t⟩:=hb6 rfl;have hne:=hb1 hb1t;rw[hb1t]at e1;rw[hb2t]at e2;cases hk2:(k==(2:Int)) with
  | true=>
   have hk2:k=2:=eq_of_beq hk2;rw[hk2]at ek;exact⟨_,_,rfl,⟨by simp;omega,by simp only;omega,λx hx=>(bWq.1 hx).elim (hk.hd x) λhx=>by rw[bWp.1 hx];exact h,hk.hc,λx hx=>(bWq.1 hx).elim (hk.ha x) λhx=>by rw[bWp.1 hx];exact⟨hne,ha⟩⟩,λx hx=>(bWq.1 hx).elim .inl λhx=> .inr ⟨bWp.1 hx,e1,e2,ek⟩,λx hx=> .inl hx⟩
  | false=>
   have hk2:k≠2:=by rw[beq_eq_false_iff_ne]at hk2;exact hk2
   exact⟨_,_,rfl,⟨by simp only;omega,by simp;omega,hk.hd,λx hx=>(bWq.1 hx).elim (hk.hc x) λhx=>by rw[bWp.1 hx];exact h,hk.ha⟩,λx hx=> .inl hx,λx hx=>(bWq.1 hx).elim .inl λhx=> .inr ⟨bWp.1 hx,k,⟨e1,e2,ek⟩,hk2⟩⟩
theorem DbD.mono{n m:Nat}{d c:lSg}(h:DbD n d c)(hm:n<=m):DbD m d c:=⟨bWk h.down hm,bWk h.core hm,h.hd,h.hc,h.ha⟩
theorem bK2{s:den tSg}(h:s.2.2.length<=1000)(h0:s.2.2≠[])(ha:aJx s.2.2):∃v,hO s=some v/\0<=v/\v<8:=by
 have hl:=List.length_pos_iff.2 h0;unfold hO;have w1:wr ((s.2.2.length:Int) - 1)=((s.2.2.length - 1:Nat):Int):=by rw[bD (by omega) (by omega)];omega
 rw[show ((s.2.2.length:Int)==0)=false by rw[beq_eq_false_iff_ne];omega,zY,w1,aO,bWl (by omega),aA];have :=ha _ (bXt (show s.2.2.length - 1<s.2.2.length by omega));exact⟨_,rfl,this.1,this.2⟩
theorem aUm{code:List Int}(hl:code.length<=1048576){d:lSg}(hd:d.length<=200)(h5:∀x∈d,x.2.2.length<=5)(ha:∀x∈d,x.2.2≠[]/\aJx x.2.2)(k:Int)(hk:0<k/\k<=256)(z:Int)(hz:0<=z/\z<8){c:List Int}{p h:Int}(hc:Cur code (c,p,h)):
  ∃v c' p' h',(Option.bind (cond (decide ((d.length:Int)>(0:Int))) (Option.bind (iB (c,p,h) k) λy3=>some (!y3.1,y3.2.1,y3.2.2.1,y3.2.2.2)) (some (false,c,p,h))) λ(s4:Bool×List Int×q17)=>cond s4.1 (Option.bind (aN (s4.2.1,s4.2.2.1,s4.2.2.2) (d.length:Int)) λy5=>Option.bind (idx d y5.1) λx6=>Option.bind (hO (x6.1,x6.2.1,x6.2.2)) λy7=>some (y7,y5.2.1,y5.2.2.1,y5.2.2.2)) (some (z,s4.2.1,s4.2.2.1,s4.2.2.2)):Option (Int×List Int×q17))=some (v,c',p',h')/\(0<=v/\v<8)/\Cur code (c',p',h'):=by
 by_cases h0:(d.length:Int)>0
 .obtain⟨v1,c1,p1,h1,e1,k1⟩:=aAn hl (n:=k) hk.1 hk.2 hc;simp only[zX h0,zZ,e1,aA];cases v1 with
  | true=>exact⟨z,c1,p1,h1,rfl,hz,k1⟩
  | false=>
   obtain⟨v2,c2,p2,h2,e2,r2,k2⟩:=dQ hl (n:=(d.length:Int)) h0 (by omega) k1;obtain⟨m2,rfl⟩:=bXs r2.1;have hm:m2<d.length:=by omega
   obtain⟨v3,e3,r3⟩:=bK2 (s:=d[m2]) (by have :=h5 d[m2] (bXt hm);omega) (ha d[m2] (bXt hm)).1 (ha d[m2] (bXt hm)).2;have e3:hO (d[m2].1,d[m2].2.1,d[m2].2.2)=some v3:=e3;exact⟨v3,c2,p2,h2,by simp only[bW1,zZ,e2,aA,aO,bWl hm,e3],r3,k2⟩
 .exact⟨z,c,p,h,by simp only[zW h0,zY,aA],hz,hc⟩
theorem bQs{code:List Int}(hl:code.length<=1048576){n:Nat}(hn:n<=100){d cc:lSg}(hk:DbD n d cc){c:List Int}{p h:Int}(hc:Cur code (c,p,h)):∃a b c' p' h',uX (c,p,h) (d,cc)=some (a,b,c',p',h')/\((0<=a/\a<8)/\(0<=b/\b<8))/\Cur code (c',p',h'):=by
 have hd:=hk.down;obtain⟨v1,c1,p1,h1,e1,r1,k1⟩:=dQ hl (n:=8) (by decide) (by decide) hc;obtain⟨v2,c2,p2,h2,e2,r2,k2⟩:=dQ hl (n:=8) (by decide) (by decide) k1;obtain⟨v3,c3,p3,h3,e3,r3,k3⟩:=aUm hl (d:=d) (by omega) hk.hd hk.ha 4 (by decide) v1 r1 k2;obtain⟨v4,c4,p4,h4,e4,r4,k4⟩:=aUm hl (d:=d) (by omega) hk.hd hk.ha 3 (by decide) v2 r2 k3;refine⟨v3,v4,c4,p4,h4,?_,⟨r3,r4⟩,k4⟩;unfold uX pj3 pj4;simp only[e1,e2,aA,cC,eG,dC,dA,dH];rw[e3,aA,e4,aA]
theorem aN1{α β:Type}(g:α->List β):∀(l:List α) (k:Nat) (a:List β),bN (λ_ x a=>a++g x) k l a=a++l.flatMap g
 | [],_,a=>(bXh a).symm
 | x::l,k,a=>by
  show bN _ (k+1) l (a++g x)=_;rw[aN1 g l (k+1) (a++g x),bZp,bW6]
theorem pV{α β R:Type}(l:List α)(g:α->List β)(out:List β->R)(a0:List β){step:Int×List β->Option ((Int×List β)⊕R)}(hl:l.length<=1000000)(hN:a0.length+(l.map λx=>(g x).length).sum<=1000000)
  (hs:∀(k:Nat) (x:α) (a:List β),idx l (k:Int)=some x->l[k]? =some x->x∈l->decide ((k:Int)<(l.length:Int))=true->wr ((k:Int)+1)=((k+1:Nat):Int)->a.length+(g x).length<=1000000->step ((k:Int),a)=some (.inl (((k+1:Nat):Int),a++g x)))
  (he:∀a,step ((l.length:Int),a)=some (.inr (out a))):aC step ((0:Int),a0)=some (out (a0++l.flatMap g)):=by
 rw[mJ (λk (a:List β)=>((k:Int),a)) ((0:Int),a0) a0 l (λ_ x a=>a++g x) bW0 (λx=>(g x).length) 1000000 out rfl (by omega) hN (λk x a=>by rw[bW9];exact bWx _) (λk x a h1 h2 h3 h4 h5 h6=>hs k x a h1 h2 (bWu h2) h3 h4 h6) he,aN1]
theorem aJk{α:Type}{f:α->Nat}{c:Nat}:∀{l:List α},(∀x∈l,f x<=c)->(l.map f).sum<=l.length * c
 | [],_=>bW3 _
 | x::l,h=>by
  have h1:=h x (by simp);have h2:=aJk (l:=l) λy hy=>h y (bWo _ hy)
  rw[bW2,List.sum_cons,bXp,bXk];omega
theorem aMe{α β:Type}{g:α->List β}{c:Nat}:∀{l:List α},(∀x∈l,(g x).length<=c)->(l.flatMap g).length<=l.length * c
 | [],_=>bW3 _
 | x::l,h=>by
  have h1:=h x (by simp);have h2:=aMe (l:=l) λy hy=>h y (bWo _ hy)
  rw[bZp,bW9,bXp,bXk];omega
def eA(s:den tSg):Int:=match s.2.2 with
 | []=> -1
 | h::_=>h.1
def oH(s:den tSg):Int:=if s.2.2.length=0 then -1 else ((s.2.2[s.2.2.length - 1]?).getD h0).1
theorem bGp(s:den tSg):eM s=some (eA s):=by
 unfold eM eA;cases h:s.2.2 with
 | nil=>rfl
 | cons x l=>rfl
theorem bH9{s:den tSg}(hl:s.2.2.length<=1000000):hO s=some (oH s):=by
 unfold hO oH
 by_cases h:s.2.2.length=0
 .rw[zT h,h];rfl
 .rw[zS h,show ((s.2.2.length:Int)==0)=false by rw[beq_eq_false_iff_ne];omega,zY,aU5 (by omega) (by omega),aO,bWl (show s.2.2.length - 1<s.2.2.length by omega)];rfl
def bFd(b:Int)(l:List Int):Int:=l.foldl wW b
def aUq(l:dE):List Int:=l.map λh=>h.2.2.2.2
theorem bPh{b:Int}{l:List Int}(hl:l.length<=1000000):oV b l=some (bFd b l):=by
 unfold oV;rw[mJ (λk (a:Int)=>(a,(k:Int))) (b,(0:Int)) b l (λ_ x a=>wW a x) (λ_=>0) (λ_=>0) 1 id rfl (by omega) (by rw[sum_nil];omega) (λk x a=>by omega) (λk x a hi hx hd hw hk hb=>by
  simp only[hd,hi,hw,zZ,aA,aU8]) (λa=>by simp),tZ]
 rfl
theorem bUj{s:den tSg}{n:Nat}(hn:n<=s.2.2.length)(hl:s.2.2.length<=1000000):nN s (n:Int)=some (aUq (s.2.2.take n)):=by
 have e:(s.2.2.take n).length=n:=by rw[bXw];omega
 unfold nN zz4;rw[mJ (λk (a:List Int)=>((k:Int),a)) ((0:Int),[]) [] (s.2.2.take n) (λ_ x a=>a++[x.2.2.2.2]) bW0 (λ_=>1) 1000000 id rfl (by omega) (by rw[fK];simp;omega) (λk x a=>by simp) (λk x a hi hx hd hw hk hb=>by
  have hx:=(aWg hx).1;rw[e]at hd;simp only[hd,aO,hx,hw,zZ,aA,aG (b:=8) (n:=a.length) (m:=1) (by decide) (by omega)]) (λa=>by rw[e];simp),fX (λh:den aR=>h.2.2.2.2)]
 rfl
def aCb(s:den tSg)(i:Int):Int:=if inR i 0 (s.2.2.length:Int) then bFd s.2.1 (aUq (s.2.2.take i.toNat)) else 0
theorem bAk{s:den tSg}{i:Int}(hl:s.2.2.length<=1000000):gE s i=some (aCb s i):=by
 unfold gE aCb pj3;simp only[qH,aA];cases h:inR i 0 (s.2.2.length:Int) with
 | false=>rfl
 | true=>
  obtain⟨g0,g1⟩:=aI.1 h;obtain⟨n,rfl⟩:=bXs g0;have e2:(aUq (s.2.2.take n)).length<=1000000:=by unfold aUq;rw[bXe,bXw];omega
  have e3:nN (s.1,s.2.1,s.2.2) (n:Int)=some (aUq (s.2.2.take n)):=bUj (s:=s) (by omega) hl;simp only[bWw,zY,e3,aA,bPh e2,zV,bWs]
def gP(s:den tSg)(k i:Int):den tPp:=
 if inR i 0 ((s.2.2.length:Int) - 1)&&inR k 1 4 then
  (if dM k then (k,s.1,aCb s (s.2.2.length:Int),(s.2.2.drop i.toNat).reverse) else (k,s.1,aCb s i,s.2.2.drop i.toNat))
 else (0,0,0,[])
theorem aHg(s:den tSg)(k i:Int):(gP s k i).2.2.2.length<=s.2.2.length:=by
 unfold gP;split
 .split
  .show (s.2.2.drop i.toNat).reverse.length<=_;rw[bYz,bYy];omega
  .show (s.2.2.drop i.toNat).length<=_;rw[bYy];omega
 .exact bW3 _
theorem aDp{s:den tSg}{k i:Int}(hl:s.2.2.length<=1000000):cT s k i=some (gP s k i):=by
 unfold cT gP pj3 pj4 pj5 zz4;simp only[qH,aA,cC,eG,dC,dA,dH,bD (n:=(s.2.2.length:Int) - 1) (by omega) (by omega)];cases c1:inR i 0 ((s.2.2.length:Int) - 1) with
 | false=>rfl
 | true=>
  cases c2:inR k 1 4 with
  | false=>rfl
  | true=>
   obtain⟨g0,g1⟩:=aI.1 c1;obtain⟨n,rfl⟩:=bXs g0;have e1:cQ (n:Int) (s.2.2.length:Int) (s.2.2.length:Int)=true:=aEe (by omega);have e2:gE (s.1,s.2.1,s.2.2) (n:Int)=some (aCb s (n:Int)):=bAk (s:=s) hl;have e3:gE (s.1,s.2.1,s.2.2) (s.2.2.length:Int)=some (aCb s (s.2.2.length:Int)):=bAk (s:=s) hl;simp only[bWw,zY,aA,e1,zZ,e2,aIe,aFv,bZc,zV,bWs];cases dM k with
   | false=>
    simp only[bW1,zZ,bXc,aG (b:=40) (n:=([]:dE).length) (m:=(s.2.2.drop n).length) (by decide) (by simp;omega),bWz,zU]
   | true=>
    simp only[bWw,zY,e3,aA,zV];have key:∀(m:Nat) (a:dE),n+m<=s.2.2.length->a.length+m<=s.2.2.length->aC (λs11:Int×Int×Int×Int×dE=>cond (decide (s11.1>=(n:Int))) (Option.bind (idx s.2.2 s11.1) λx12=>cond (aP 40 s11.2.2.2.2.length 1) (some (bWi (wr (s11.1 - (1:Int)),s11.2.1,s11.2.2.1,s11.2.2.2.1,s11.2.2.2.2++[x12]))) none) (some (bWh (s11.2.1,s11.2.2.1,s11.2.2.2.1,s11.2.2.2.2)))) (((n+m:Nat):Int) - 1,k,s.1,aCb s (s.2.2.length:Int),a)=some (k,s.1,aCb s (s.2.2.length:Int),a++((s.2.2.drop n).take m).reverse):=by
     intro m
     induction m with
     | zero=>
      intro a h1 h2;refine aW ?_;simp only[zW (show ¬ (((n+0:Nat):Int) - 1>=(n:Int)) by omega),zY,List.take_zero,List.reverse_nil,bXh]
     | succ m ih=>
      intro a h1 h2;have hx:s.2.2[n+m]? =some (s.2.2[n+m]'(by omega)):=bWl (by omega);have hw:((n+(m+1):Nat):Int) - 1=((n+m:Nat):Int):=by omega
      refine (cU (s':=(((n+m:Nat):Int) - 1,k,s.1,aCb s (s.2.2.length:Int),a++[s.2.2[n+m]'(by omega)])) ?_).trans ?_
      .simp only[hw,zX (show ((n+m:Nat):Int)>=(n:Int) by omega),zZ,aO,hx,aA,aG (b:=40) (n:=a.length) (m:=1) (by decide) (by omega),bD (n:=((n+m:Nat):Int) - 1) (by omega) (by omega)]
      .rw[ih (a++[s.2.2[n+m]'(by omega)]) (by omega) (by simp;omega)];have hd:(s.2.2.drop n)[m]? =some (s.2.2[n+m]'(by omega)):=by rw[List.getElem?_drop];exact hx
       rw[List.take_add_one,hd,List.reverse_append];simp
    have :=key (s.2.2.length - n) [] (by omega) (by simp);rw[show n+(s.2.2.length - n)=s.2.2.length by omega,bXc,List.take_of_length_le (by rw[bYy];omega)]at this;rw[this];rfl
def bV(d:lSg)(r:Int):lSg:=d.filter λs=>oH s==r
def sX(c:lSg)(a b:Int):lSg:=c.filter λs=>eA s==a&&oH s==b
theorem aE8{α:Type}(p:α->Bool):∀l:List α,(l.flatMap λx=>cond (p x) [x] [])=l.filter p
 | []=>rfl
 | x::l=>by
  rw[bZp,aE8 p l,bYr];cases p x<;>rfl
theorem aV4{α:Type}(p:α->Bool)(l:List α):(l.map λx=>(cond (p x) [x] []:List α).length).sum<=l.length:=by
 have :=aJk (f:=λx=>(cond (p x) [x] []:List α).length) (c:=1) (l:=l) λx _=>by cases p x<;>simp
 omega
theorem aH7{k:den tDb}{r:Int}(hl:k.1.length<=1000000)(hh:∀s∈k.1,s.2.2.length<=1000000):cV k r=some (bV k.1 r):=by
 unfold cV bV pj3;have hf:=aV4 (λs=>oH s==r) k.1;rw[pV k.1 (λs=>cond (oH s==r) [s] []) id [] hl (by simpa using bWk hf hl) (λi x a hi hx hm hd hw hb=>by
  have h1:=hh x hm;have e1:hO (x.1,x.2.1,x.2.2)=some (oH x):=bH9 (s:=x) h1;have e2:gI (x.1,x.2.1,x.2.2)=some x:=aFu (x:=x) (by omega);simp only[hd,zZ,hi,aA,e1,e2,hw];cases c:oH x==r
  .simp
  .rw[c]at hb;simp only[zZ,aG (b:=40) (n:=a.length) (m:=1) (by decide) (by simp at hb;omega),aA]) (λa=>by simp)]
 rw[aE8,bXc];rfl
theorem aZg{k:den tDb}{p q:Int}(hl:k.2.length<=1000000)(hh:∀s∈k.2,s.2.2.length<=1000000):jQ k p q=some (sX k.2 p q):=by
 unfold jQ sX pj3;have hf:=aV4 (λs=>eA s==p&&oH s==q) k.2;rw[pV k.2 (λs=>cond (eA s==p&&oH s==q) [s] []) id [] hl (by simpa using bWk hf hl) (λi x a hi hx hm hd hw hb=>by
  have h1:=hh x hm;have e0:eM (x.1,x.2.1,x.2.2)=some (eA x):=bGp x;have e1:hO (x.1,x.2.1,x.2.2)=some (oH x):=bH9 (s:=x) h1;have e2:gI (x.1,x.2.1,x.2.2)=some x:=aFu (x:=x) (by omega);simp only[hd,zZ,hi,aA,e0,e1,e2,hw];cases c:eA x==p
  .simp
  .cases c2:oH x==q
   .simp
   .rw[c,c2]at hb;simp only[zZ,bZc,aG (b:=40) (n:=a.length) (m:=1) (by decide) (by simp at hb;omega),aA]) (λa=>by simp)]
 rw[aE8,bXc];rfl
def fIx(l:dE)(r:Int):Int:=match bL (λk (x:den aR)=>if x.1==r then some (k:Int) else none) 0 l with
 | some v=>v
 | none=> -1
theorem bNm{s:den tSg}{r:Int}(hl:s.2.2.length<=1000000):mV s r=some (fIx s.2.2 r):=by
 unfold mV fIx;rw[aU (l:=s.2.2) (λk (x:den aR)=>if x.1==r then some (k:Int) else none) (by omega) (λk x hi hd hw hx hk=>by
  simp only[hd,hi,hw,zZ,aA];cases x.1==r<;>rfl) (by simp)]
 cases bL (λk (x:den aR)=>if x.1==r then some (k:Int) else none) 0 s.2.2<;>rfl
def lIx(l:dE)(r:Int):Nat->Int
 | 0=> -1
 | n+1=>if ((l[n]?).getD h0).1==r then (n:Int) else lIx l r n
def yW(up down:den tSg):Nat->lPp
 | 0=>[]
 | n+1=>if lIx down.2.2 ((up.2.2[n]?).getD h0).1 down.2.2.length>=0 then [gP up 1 (n:Int),gP down 4 (lIx down.2.2 ((up.2.2[n]?).getD h0).1 down.2.2.length)] else yW up down n
def xS(up down:den tSg):lPp:=yW up down up.2.2.length
theorem bGs{s:den tSg}(hl:s.2.2.length<=1000000):dK s=some (s.2.2.map λh=>(h.1:Int)):=by
 unfold dK;rw[mJ (λk (a:List Int)=>((k:Int),a)) ((0:Int),[]) [] s.2.2 (λ_ x a=>a++[x.1]) bW0 (λ_=>1) 1000000 id rfl (by omega) (by rw[fK];simpa using hl) (λk x a=>by simp) (λk x a hi hx hd hw hk hb=>by
  simp only[hd,hi,hw,zZ,aA,aG (b:=8) (n:=a.length) (m:=1) (by decide) (by omega)]) (λa=>by simp),fX (λh:den aR=>(h.1:Int))]
 rfl
theorem bTc{up down:den tSg}(h1:up.2.2.length<=1000000)(h2:down.2.2.length<=1000000):mZ up down=some (xS up down):=by
 have e0:uS up down=some (xS up down):=by
  unfold uS xS ixb pj3 pj4;simp only[bGs h1,bGs h2,aA,bXe];rw[bD (n:=(up.2.2.length:Int) - 1) (by omega) (by omega)];have key:∀(G:Int->Option (Int⊕(Unit⊕lPp))) (n:Nat),n<=up.2.2.length->
    (∀m:Nat,m<up.2.2.length->G (m:Int)=if lIx down.2.2 ((up.2.2[m]?).getD h0).1 down.2.2.length>=0 then some (.inr (.inr [gP up 1 (m:Int),gP down 4 (lIx down.2.2 ((up.2.2[m]?).getD h0).1 down.2.2.length)])) else some (.inl ((m:Int) - 1)))->G (-1)=some (.inr (.inl ()))->
    Option.bind (aC G ((n:Int) - 1)) (λz:Unit⊕lPp=>Sum.elim (λ_=>some []) some z)=some (yW up down n):=by
   intro G n
   induction n with
   | zero=>intro _ _ hG;rw[aW (r:=bWi ()) (show G (((0:Nat):Int) - 1)=_ from hG)];rfl
   | succ n ih=>
    intro hn hs he;have hw:((n+1:Nat):Int) - 1=(n:Int):=by omega
    rw[hw];have hg:=hs n (by omega);unfold yW
    by_cases c:lIx down.2.2 ((up.2.2[n]?).getD h0).1 down.2.2.length>=0
    .rw[zT c]at hg ⊢;rw[aW hg];rfl
    .rw[zS c]at hg ⊢;rw[cU hg];exact ih (by omega) hs he
  refine key _ up.2.2.length (bWx _) (λm hm=> ?_) (by simp);have hx:up.2.2[m]? =some (up.2.2[m]'hm):=bWl hm;have e2:∀i,cT (up.1,up.2.1,up.2.2) 1 i=some (gP up 1 i):=λi=>aDp (s:=up) h1
  have e3:∀i,cT (down.1,down.2.1,down.2.2) 4 i=some (gP down 4 i):=λi=>aDp (s:=down) h2
  have hxm:(up.2.2.map λh=>(h.1:Int))[m]? =some (up.2.2[m]'hm).1:=by rw[bXx,hx];rfl
  simp only[aM7,eE,zZ,zX (show (m:Int)<(up.2.2.length:Int) by omega),bWs,hxm,hx,bXo,bD (n:=(m:Int) - 1) (by omega) (by omega),bD (n:=(down.2.2.length:Int) - 1) (by omega) (by omega),aA,e2,e3];have inner:∀(R:Type) (G:Int->Option (Int⊕(Unit⊕R))) (f:Int->R) (n:Nat),n<=down.2.2.length->
    (∀j:Nat,j<down.2.2.length->G (j:Int)=if ((down.2.2[j]?).getD h0).1==(up.2.2[m]'hm).1 then some (.inr (.inr (f (j:Int)))) else some (.inl ((j:Int) - 1)))->G (-1)=some (.inr (.inl ()))->
    aC G ((n:Int) - 1)=some (if lIx down.2.2 (up.2.2[m]'hm).1 n>=0 then .inr (f (lIx down.2.2 (up.2.2[m]'hm).1 n)) else .inl ()):=by
   intro R G f n
   induction n with
   | zero=>intro _ _ hG;rw[aW (r:=bWi ()) (show G (((0:Nat):Int) - 1)=_ from hG)];rfl
   | succ n ih=>
    intro hn hs he;have hw:((n+1:Nat):Int) - 1=(n:Int):=by omega
    rw[hw];have hg:=hs n (by omega);unfold lIx;cases c:((down.2.2[n]?).getD h0).1==(up.2.2[m]'hm).1 with
    | true=>
     rw[c,zT rfl]at hg;rw[aW hg,zT rfl,zT (by omega)]
    | false=>
     rw[c,zS (by decide)]at hg;rw[cU hg];simp only[bWz,zU];exact ih (by omega) hs he
  rw[inner _ _ (λj=>(bWh (bWh [gP up 1 (m:Int),gP down 4 j]):Int⊕(Unit⊕lPp))) down.2.2.length (bWx _) (λj hj=> ?_) (by simp)]
  .by_cases c:lIx down.2.2 (up.2.2[m]'hm).1 down.2.2.length>=0
   .rw[zT c,zT c];rfl
   .rw[zS c,zS c];rfl
  .have hy:down.2.2[j]? =some (down.2.2[j]'hj):=bWl hj;have hym:(down.2.2.map λh=>(h.1:Int))[j]? =some (down.2.2[j]'hj).1:=by rw[bXx,hy];rfl
   simp only[aM7,eE,zZ,zX (show (j:Int)<(down.2.2.length:Int) by omega),bWs,hym,hy,bXo,aA,bD (n:=(j:Int) - 1) (by omega) (by omega)];rw[show ((up.2.2[m]'hm).1==(down.2.2[j]'hj).1)=((down.2.2[j]'hj).1==(up.2.2[m]'hm).1) from Bool.eq_iff_iff.2 ⟨λh=>by rw[beq_iff_eq]at h ⊢;exact h.symm,λh=>by rw[beq_iff_eq]at h ⊢;exact h.symm⟩];cases (down.2.2[j]'hj).1==(up.2.2[m]'hm).1<;>rfl
 unfold mZ pj3;rw[show ((up.1,up.2.1,up.2.2):den tSg)=up from rfl,show ((down.1,down.2.1,down.2.2):den tSg)=down from rfl,e0];rfl
def iC(s:den tSg)(k:Int)(p:lPp):lPp:=cond (decide ((s.2.2.length:Int)>0)) (p++[gP s k 0]) p
theorem aU7(s:den tSg)(k:Int)(p:lPp):(iC s k p).length<=p.length+1:=by
 unfold iC;cases decide ((s.2.2.length:Int)>0)
 .simp
 .simp
def qE(up core:den tSg)(b:Bool)(down:den tSg):lPp:=iC down 4 (iC core (cond b 3 2) (iC up 1 []))
theorem bAm{up core down:den tSg}{b:Bool}(h1:up.2.2.length<=1000000)(h2:core.2.2.length<=1000000)(h3:down.2.2.length<=1000000):lN up core b down=some (qE up core b down):=by
 have l1:=aU7 up 1 [];have l2:=aU7 core (cond b 3 2) (iC up 1 []);simp only[bYc]at l1;have e1:cT (up.1,up.2.1,up.2.2) 1 0=some (gP up 1 0):=aDp (s:=up) h1;have e2:cT (core.1,core.2.1,core.2.2) (cond b 3 2) 0=some (gP core (cond b 3 2) 0):=aDp (s:=core) h2;have e3:cT (down.1,down.2.1,down.2.2) 4 0=some (gP down 4 0):=aDp (s:=down) h3;have eb:(cond b (some (3:Int)) (some (2:Int)))=some (cond b 3 2):=by cases b<;>rfl
 have f1:(cond (decide ((up.2.2.length:Int)>(0:Int))) (some [gP up 1 0]) (some []))=some (iC up 1 []):=by unfold iC;cases decide ((up.2.2.length:Int)>0)<;>rfl
 have f2:(cond (decide ((core.2.2.length:Int)>(0:Int))) (some (iC up 1 []++[gP core (cond b 3 2) 0])) (some (iC up 1 [])))=some (iC core (cond b 3 2) (iC up 1 [])):=by
  rw[show iC core (cond b 3 2) (iC up 1 [])=cond (decide ((core.2.2.length:Int)>0)) (iC up 1 []++[gP core (cond b 3 2) 0]) (iC up 1 []) from rfl];cases decide ((core.2.2.length:Int)>0)<;>rfl
 have f3:(cond (decide ((down.2.2.length:Int)>(0:Int))) (some (iC core (cond b 3 2) (iC up 1 [])++[gP down 4 0])) (some (iC core (cond b 3 2) (iC up 1 []))))=some (iC down 4 (iC core (cond b 3 2) (iC up 1 []))):=by
  rw[show iC down 4 (iC core (cond b 3 2) (iC up 1 []))=cond (decide ((down.2.2.length:Int)>0)) (iC core (cond b 3 2) (iC up 1 [])++[gP down 4 0]) (iC core (cond b 3 2) (iC up 1 [])) from rfl];cases decide ((down.2.2.length:Int)>0)<;>rfl
 unfold lN qE pj3 pj4;rw[eb];simp only[e1,e2,e3,aA,aG (b:=48) (n:=0) (m:=1) (by decide) (by omega),zZ,f1,aG (b:=48) (n:=(iC up 1 []).length) (m:=1) (by decide) (by omega),f2,aG (b:=48) (n:=(iC core (cond b 3 2) (iC up 1 [])).length) (m:=1) (by decide) (by omega),f3]
def bX(c:lSg)(up:den tSg)(a b:Int)(down:den tSg):List lPp:=
 (sX c a b).flatMap (λs=>[qE up s false down])++(sX c b a).flatMap (λs=>[qE up s true down])
theorem aMz(c:lSg)(a b:Int):(sX c a b).length<=c.length:=bZb _ _
theorem bIe(c:lSg)(a:Int):(bV c a).length<=c.length:=bZb _ _
theorem aMn{α β:Type}(f:α->β)(l:List α):(l.flatMap λs=>[f s]).length<=l.length:=by
 have :=aMe (g:=λs=>[f s]) (c:=1) (l:=l) λx _=>by simp
 omega
theorem wY{c:lSg}(hc:c.length<=30)(up:den tSg)(a b:Int)(down:den tSg):(bX c up a b down).length<=60:=by
 unfold bX;rw[bW9];have h1:=aMn (λs=>qE up s false down) (sX c a b);have h2:=aMn (λs=>qE up s true down) (sX c b a);have h3:=aMz c a b;have h4:=aMz c b a;omega
structure DbS (k:den tDb):Prop where
 down:k.1.length<=30
 core:k.2.length<=30
 hd1:∀s∈k.1,s.2.2.length<=5
 hc1:∀s∈k.2,s.2.2.length<=5
theorem DbS.hd{k:den tDb}(h:DbS k):∀s∈k.1,s.2.2.length<=1000000:=λs hs=>bWk (h.hd1 s hs) (by decide)
theorem DbS.hc{k:den tDb}(h:DbS k):∀s∈k.2,s.2.2.length<=1000000:=λs hs=>bWk (h.hc1 s hs) (by decide)
theorem DbD.s{n:Nat}{d c:lSg}(h:DbD n d c)(hn:n<=30):DbS (d,c):=⟨bWk h.down hn,bWk h.core hn,h.hd,h.hc⟩
theorem DbS.downs{k:den tDb}(h:DbS k)(r:Int):(bV k.1 r).length<=30/\ ∀s∈bV k.1 r,s.2.2.length<=1000000:=⟨bWk (bIe _ _) h.down,λs hs=>h.hd s (bWy.1 hs).1⟩
theorem DbS.betw{k:den tDb}(h:DbS k)(a b:Int):(sX k.2 a b).length<=30/\ ∀s∈sX k.2 a b,s.2.2.length<=1000000:=⟨bWk (aMz _ _ _) h.core,λs hs=>h.hc s (bWy.1 hs).1⟩
theorem aZh{k:den tDb}(h:DbS k){up down:den tSg}(h1:up.2.2.length<=1000000)(h3:down.2.2.length<=1000000)(a b:Int):fN k up a b down=some (bX k.2 up a b down):=by
 have e1:jQ (k.1,k.2) a b=some (sX k.2 a b):=aZg (k:=k) (bWk h.core (by decide)) h.hc;have e2:jQ (k.1,k.2) b a=some (sX k.2 b a):=aZg (k:=k) (bWk h.core (by decide)) h.hc;obtain⟨l1,m1⟩:=h.betw a b;obtain⟨l2,m2⟩:=h.betw b a;have n1:=aMn (λs=>qE up s false down) (sX k.2 a b);unfold fN bX ixb pj2 pj3;rw[e1,aA];rw[pV (sX k.2 a b) (λs=>[qE up s false down]) (λx=>x) [] (by omega) (by have :=aJk (f:=λs=>([qE up s false down]:List lPp).length) (c:=1) (l:=sX k.2 a b) (λ_ _=>by simp);simp only[bYc];omega) (λi x y hi hx hm hd hw hb=>by
  have e:lN (up.1,up.2.1,up.2.2) (x.1,x.2.1,x.2.2) false (down.1,down.2.1,down.2.2)=some (qE up x false down):=bAm (up:=up) (core:=x) (down:=down) h1 (m1 x hm) h3;simp only[hd,eE,zZ,bWs,hx,aA,e,hw,aG (b:=24) (n:=y.length) (m:=1) (by decide) (by simp at hb;omega)]) (λy=>by simp)]
 rw[aA,e2,aA,bXc];rw[pV (sX k.2 b a) (λs=>[qE up s true down]) (λx=>x) ((sX k.2 a b).flatMap λs=>[qE up s false down]) (by omega) (by have :=aJk (f:=λs=>([qE up s true down]:List lPp).length) (c:=1) (l:=sX k.2 b a) (λ_ _=>by simp);omega) (λi x y hi hx hm hd hw hb=>by
  have e:lN (up.1,up.2.1,up.2.2) (x.1,x.2.1,x.2.2) true (down.1,down.2.1,down.2.2)=some (qE up x true down):=bAm (up:=up) (core:=x) (down:=down) h1 (m2 x hm) h3;simp only[hd,eE,zZ,bWs,hx,aA,e,hw,aG (b:=24) (n:=y.length) (m:=1) (by decide) (by simp at hb;omega)]) (λy=>by simp)]
 rfl
def fE:den tSg:=(0,0,[])
def oF(kind r:Int)(s:den tSg):List lPp:=cond (decide (fIx s.2.2 r>=0)) [[gP s kind (fIx s.2.2 r)]] []
def sW(u d:den tSg):List lPp:=cond (decide (((xS u d).length:Int)>0)) [xS u d] []
def kO(t:den tTo)(r:Int):Bool:=((t.1[r.toNat]?).getD (0,false,0)).2.1
theorem aGb(kind r:Int)(s:den tSg):(oF kind r s).length<=1:=by unfold oF;cases decide (fIx s.2.2 r>=0)<;>simp
theorem bFb(u d:den tSg):(sW u d).length<=1:=by unfold sW;cases decide (((xS u d).length:Int)>0)<;>simp
def mI(t:den tTo)(k:den tDb)(a b:Int):List lPp:=
 cond (a==b||(!cG t a|| !cG t b)) [] (((((((bV k.1 a).flatMap (oF 1 b)++(bV k.1 b).flatMap (oF 4 a))++bX k.2 fE a b fE)
  ++(bV k.1 a).flatMap λu=>(bV k.1 b).flatMap λd=>sW u d)
  ++cond (kO t a) ((bV k.1 b).flatMap λd=>bX k.2 fE a (eA d) d) [])
  ++cond (kO t b) ((bV k.1 a).flatMap λu=>bX k.2 u (eA u) b fE) [])
  ++(bV k.1 a).flatMap λu=>(bV k.1 b).flatMap λd=>bX k.2 u (eA u) (eA d) d)
theorem aAr{α β:Type}{g:α->List β}{c n:Nat}{l:List α}(hl:l.length<=n)(h:∀x∈l,(g x).length<=c):(l.map λx=>(g x).length).sum<=n * c:=
 bWk (aJk h) (bX1 _ hl)
theorem wM{α β:Type}{g:α->List β}{c n:Nat}{l:List α}(hl:l.length<=n)(h:∀x∈l,(g x).length<=c):(l.flatMap g).length<=n * c:=
 bWk (aMe h) (bX1 _ hl)
theorem aRo{downs:lSg}(h:downs.length<=30)(u:den tSg):(downs.flatMap λd=>sW u d).length<=30:=
 bWk (wM (c:=1) h λd _=>bFb u d) (by decide)
theorem aWs{c downs:lSg}(hc:c.length<=30)(h:downs.length<=30)(u:den tSg):(downs.flatMap λd=>bX c u (eA u) (eA d) d).length<=1800:=
 bWk (wM (c:=60) h λd _=>wY hc _ _ _ _) (by decide)
theorem aGi{k:den tDb}(h:DbS k)(a b:Int):(((bV k.1 a).flatMap (oF 1 b)).length<=30)/\(((bV k.1 b).flatMap (oF 4 a)).length<=30)/\((bX k.2 fE a b fE).length<=60)/\(((bV k.1 a).flatMap λu=>(bV k.1 b).flatMap λd=>sW u d).length<=900)/\(((bV k.1 b).flatMap λd=>bX k.2 fE a (eA d) d).length<=1800)/\(((bV k.1 a).flatMap λu=>bX k.2 u (eA u) b fE).length<=1800)/\(((bV k.1 a).map λs=>(oF 1 b s).length).sum<=30)/\(((bV k.1 b).map λs=>(oF 4 a s).length).sum<=30)/\(((bV k.1 a).map λu=>((bV k.1 b).flatMap λd=>sW u d).length).sum<=900)/\(((bV k.1 b).map λd=>(bX k.2 fE a (eA d) d).length).sum<=1800)/\(((bV k.1 a).map λu=>(bX k.2 u (eA u) b fE).length).sum<=1800)/\(((bV k.1 a).map λu=>((bV k.1 b).flatMap λd=>bX k.2 u (eA u) (eA d) d).length).sum<=54000):=by
 obtain⟨lu,mu⟩:=h.downs a;obtain⟨ld,md⟩:=h.downs b;exact⟨bWk (wM (c:=1) lu λs _=>aGb 1 b s) (by decide),bWk (wM (c:=1) ld λs _=>aGb 4 a s) (by decide),wY h.core fE a b fE,bWk (wM (c:=30) lu λu _=>aRo ld u) (by decide),bWk (wM (c:=60) ld λd _=>wY h.core _ _ _ _) (by decide),bWk (wM (c:=60) lu λd _=>wY h.core _ _ _ _) (by decide),bWk (aAr (c:=1) lu λs _=>aGb 1 b s) (by decide),bWk (aAr (c:=1) ld λs _=>aGb 4 a s) (by decide),bWk (aAr (c:=30) lu λu _=>aRo ld u) (by decide),bWk (aAr (c:=60) ld λd _=>wY h.core _ _ _ _) (by decide),bWk (aAr (c:=60) lu λd _=>wY h.core _ _ _ _) (by decide),bWk (aAr (c:=1800) lu λu _=>aWs h.core ld u) (by decide)⟩
theorem bQ1{k:den tDb}(h:DbS k)(a b:Int):qC k a b=some ((((bV k.1 a).flatMap (oF 1 b)++(bV k.1 b).flatMap (oF 4 a))++bX k.2 fE a b fE)):=by
 have e1:cV (k.1,k.2) a=some (bV k.1 a):=aH7 (k:=k) (bWk h.down (by decide)) h.hd;have e2:cV (k.1,k.2) b=some (bV k.1 b):=aH7 (k:=k) (bWk h.down (by decide)) h.hd;obtain⟨lu,mu⟩:=h.downs a;obtain⟨ld,md⟩:=h.downs b;have hz1:fN (k.1,k.2) (0,0,[]) a b (0,0,[])=some (bX k.2 fE a b fE):=aZh (k:=k) h (up:=fE) (down:=fE) (by decide) (by decide) a b;obtain⟨n1,n2,n3,n4,n5,n6,s1,s2,s4,s5,s6,s7⟩:=aGi h a b;unfold qC ixb pj2 pj3 pj4;rw[e1,aA];rw[pV (bV k.1 a) (oF 1 b) (λx=>x) [] (by omega) (by simp only[bYc];omega) (λi x y hi hx hm hd hw hb=>by
  have e:mV (x.1,x.2.1,x.2.2) b=some (fIx x.2.2 b):=bNm (s:=x) (mu x hm);have e':cT (x.1,x.2.1,x.2.2) 1 (fIx x.2.2 b)=some (gP x 1 (fIx x.2.2 b)):=aDp (s:=x) (mu x hm);have hb:y.length<=1000000:=by omega
  unfold oF;simp only[hd,eE,zZ,bWs,hx,aA,e,e',hw,aG (b:=24) (n:=y.length) (m:=1) (by decide) (by omega)];cases decide (fIx x.2.2 b>=0)
  .simp
  .rfl) (λy=>by simp)]
 rw[aA,bXc,e2,aA];rw[pV (bV k.1 b) (oF 4 a) (λx=>x) ((bV k.1 a).flatMap (oF 1 b)) (by omega) (by omega) (λi x y hi hx hm hd hw hb=>by
  have e:mV (x.1,x.2.1,x.2.2) a=some (fIx x.2.2 a):=bNm (s:=x) (md x hm);have e':cT (x.1,x.2.1,x.2.2) 4 (fIx x.2.2 a)=some (gP x 4 (fIx x.2.2 a)):=aDp (s:=x) (md x hm);have hb:y.length<=1000000:=by omega
  unfold oF;simp only[hd,eE,zZ,bWs,hx,aA,e,e',hw,aG (b:=24) (n:=y.length) (m:=1) (by decide) (by omega)];cases decide (fIx x.2.2 a>=0)
  .simp
  .rfl) (λy=>by simp)]
 rw[aA,hz1,aA,aG (b:=24) (n:=((bV k.1 a).flatMap (oF 1 b)++(bV k.1 b).flatMap (oF 4 a)).length) (m:=(bX k.2 fE a b fE).length) (by decide) (by rw[bW9];omega)];rfl
theorem aSu{α β:Type}(l:List α)(g:α->List β)(c:Bool)(a0:List β){step:Int×List β->Option ((Int×List β)⊕List β)}(hl:l.length<=1000000)(hN:a0.length+(l.map λx=>(g x).length).sum<=1000000)
  (hs:c=true-> ∀(k:Nat) (x:α) (a:List β),idx l (k:Int)=some x->l[k]? =some x->x∈l->decide ((k:Int)<(l.length:Int))=true->wr ((k:Int)+1)=((k+1:Nat):Int)->a.length+(g x).length<=1000000->step ((k:Int),a)=some (.inl (((k+1:Nat):Int),a++g x)))
  (he:∀a,step ((l.length:Int),a)=some (.inr a)) (hc:c=false->step ((0:Int),a0)=some (.inr a0)):aC step ((0:Int),a0)=some (a0++cond c (l.flatMap g) []):=by
 cases c with
 | true=>exact pV l g (λx=>x) a0 hl hN (hs rfl) he
 | false=>rw[zY,bXh];exact aW (hc rfl)
theorem bSw{t:den tTo}{k:den tDb}(ht:t.1.length<=1000000)(h:DbS k)(a b:Int):kC t k a b=some (mI t k a b):=by
 have hA:=aDn (t:=t) (r:=a) (by omega);have hB:=aDn (t:=t) (r:=b) (by omega);unfold kC mI ixb pj2 pj3;rw[show ((t.1,t.2):den tTo)=t from rfl,hA,hB];cases c0:a==b with
 | true=>rfl
 | false=>
 cases c1:cG t a with
 | false=>rfl
 | true=>
 cases c2:cG t b with
 | false=>rfl
 | true=>
 have e1:cV (k.1,k.2) a=some (bV k.1 a):=aH7 (k:=k) (bWk h.down (by decide)) h.hd;have e2:cV (k.1,k.2) b=some (bV k.1 b):=aH7 (k:=k) (bWk h.down (by decide)) h.hd;obtain⟨lu,mu⟩:=h.downs a;obtain⟨ld,md⟩:=h.downs b;obtain⟨xa,hxa,ea⟩:=aAv c1;obtain⟨xb,hxb,eb⟩:=aAv c2;have ca:kO t a=xa.2.1:=by unfold kO;rw[hxa];rfl
 have cb:kO t b=xb.2.1:=by unfold kO;rw[hxb];rfl
 have hal:qC (k.1,k.2) a b=some _:=bQ1 (k:=k) h a b;have hcz:∀(u:den tSg) (x y:Int) (d:den tSg),u.2.2.length<=1000000->d.2.2.length<=1000000->fN (k.1,k.2) (u.1,u.2.1,u.2.2) x y (d.1,d.2.1,d.2.2)=some (bX k.2 u x y d):=λu x y d h1 h2=>aZh (k:=k) h (up:=u) (down:=d) h1 h2 x y
 have hz1:∀(x y:Int),fN (k.1,k.2) (0,0,[]) x y (0,0,[])=some (bX k.2 fE x y fE):=λx y=>hcz fE x y fE (by decide) (by decide)
 have hz2:∀(x y:Int) (d:den tSg),d.2.2.length<=1000000->fN (k.1,k.2) (0,0,[]) x y (d.1,d.2.1,d.2.2)=some (bX k.2 fE x y d):=λx y d hd=>hcz fE x y d (by decide) hd
 have hz3:∀(u:den tSg) (x y:Int),u.2.2.length<=1000000->fN (k.1,k.2) (u.1,u.2.1,u.2.2) x y (0,0,[])=some (bX k.2 u x y fE):=λu x y hu=>hcz u x y fE hu (by decide)
 have hf:∀s:den tSg,eM (s.1,s.2.1,s.2.2)=some (eA s):=λs=>bGp s
 obtain⟨n1,n2,n3,n4,n5,n6,s1,s2,s4,s5,s6,s7⟩:=aGi h a b;simp only[zY,zZ,aA,bWw,bZq,hal,e1,e2,cC,eG,dC,dA,dH];generalize hU:bV k.1 a=ups at *;generalize hD:bV k.1 b=downs at *;have q3:(ups.flatMap (oF 1 b)++downs.flatMap (oF 4 a)).length<=60:=by rw[bW9];omega
 generalize ups.flatMap (oF 1 b)++downs.flatMap (oF 4 a)=l3 at *;have q4:(l3++bX k.2 fE a b fE).length<=120:=by rw[bW9];omega
 generalize l3++bX k.2 fE a b fE=l4 at *;rw[pV ups (λu=>downs.flatMap λd=>sW u d) (λx=>x) l4 (by omega) (by omega) (λi u y hi hx hm hd hw hb=>by
  have hy:y.length<=1000000:=by omega
  have hb0:y.length+(downs.flatMap λd=>sW u d).length<=1000000:=hb;have hsum:(downs.map λd=>(sW u d).length).sum=(downs.flatMap λd=>sW u d).length:=by rw[List.length_flatMap]
  simp only[hd,eE,zZ,bWs,hx,aA,hw];rw[pV downs (λd=>sW u d) (λx=>x) y (by omega) (by rw[hsum];exact hb0) (λj d z hj hx' hm' hd' hw' hb'=>by
   have e:mZ (u.1,u.2.1,u.2.2) (d.1,d.2.1,d.2.2)=some (xS u d):=bTc (up:=u) (down:=d) (mu u hm) (md d hm');have hb:z.length<=1000000:=by omega
   unfold sW;simp only[hd',eE,zZ,bWs,hx',aA,e,hw',aG (b:=24) (n:=z.length) (m:=1) (by decide) (by omega)];cases decide (((xS u d).length:Int)>0)
   .simp
   .rfl) (λy=>by simp)]
  rfl) (λy=>by simp)]
 rw[aA];have q5:(l4++ups.flatMap λu=>downs.flatMap λd=>sW u d).length<=1020:=by rw[bW9];omega
 generalize (l4++ups.flatMap λu=>downs.flatMap λd=>sW u d)=l5 at *;rw[aSu downs (λd=>bX k.2 fE a (eA d) d) (kO t a) l5 (by omega) (by omega) (λhc i d y hi hx hm hd hw hb=>by
  rw[ca]at hc;simp only[hd,eE,zZ,ea,hc,bWs,hx,aA,hf,hz2 _ _ d (md d hm),hw];rw[aG (b:=24) (n:=y.length) (m:=(bX k.2 fE a (eA d) d).length) (by decide) (by omega)];rfl) (λy=>by simp) (λhc=>by
  rw[ca]at hc;simp only[ea,aA,hc];cases decide ((0:Int)<(downs.length:Int))<;>rfl),aA]
 have q6:(l5++cond (kO t a) (downs.flatMap λd=>bX k.2 fE a (eA d) d) []).length<=2820:=by
  rw[bW9];cases kO t a
  .simp only[zY,bYc];omega
  .simp only[zZ];omega
 generalize (l5++cond (kO t a) (downs.flatMap λd=>bX k.2 fE a (eA d) d) [])=l6 at *;rw[aSu ups (λu=>bX k.2 u (eA u) b fE) (kO t b) l6 (by omega) (by omega) (λhc i d y hi hx hm hd hw hb=>by
  rw[cb]at hc;simp only[hd,eE,zZ,eb,hc,bWs,hx,aA,hf,hz3 d _ _ (mu d hm),hw];rw[aG (b:=24) (n:=y.length) (m:=(bX k.2 d (eA d) b fE).length) (by decide) (by omega)];rfl) (λy=>by simp) (λhc=>by
  rw[cb]at hc;simp only[eb,aA,hc];cases decide ((0:Int)<(ups.length:Int))<;>rfl),aA]
 have q7:(l6++cond (kO t b) (ups.flatMap λu=>bX k.2 u (eA u) b fE) []).length<=4620:=by
  rw[bW9];cases kO t b
  .simp only[zY,bYc];omega
  .simp only[zZ];omega
 generalize (l6++cond (kO t b) (ups.flatMap λu=>bX k.2 u (eA u) b fE) [])=l7 at *;rw[pV ups (λu=>downs.flatMap λd=>bX k.2 u (eA u) (eA d) d) (λx=>x) l7 (by omega) (by omega) (λi u y hi hx hm hd hw hb=>by
  have hb0:y.length+(downs.flatMap λd=>bX k.2 u (eA u) (eA d) d).length<=1000000:=hb;have hsum:(downs.map λd=>(bX k.2 u (eA u) (eA d) d).length).sum=(downs.flatMap λd=>bX k.2 u (eA u) (eA d) d).length:=by rw[List.length_flatMap]
  simp only[hd,eE,zZ,bWs,hx,aA,hw];rw[pV downs (λd=>bX k.2 u (eA u) (eA d) d) (λx=>x) y (by omega) (by rw[hsum];exact hb0) (λj d z hj hx' hm' hd' hw' hb'=>by
   simp only[hd',eE,zZ,bWs,hx',aA,hf,hcz u _ _ d (mu u hm) (md d hm'),hw'];rw[aG (b:=24) (n:=z.length) (m:=(bX k.2 u (eA u) (eA d) d).length) (by decide) (by omega)];rfl) (λy=>by simp)]
  rfl) (λy=>by simp)]
 rfl
def jF(p:den tPt):Prop:=bW0 (α:=den tPp) p<=3/\ ∀x:den tPp,x∈(show lPp from p)->x.2.2.2.length<=5
def aOo(n:Nat)(l:lPt):Prop:=l.length<=n/\ ∀p∈l,jF p
theorem bKz:jF []:=⟨by simp,λx hx=>(bW7 hx).elim⟩
theorem xV{t:Ty}{B:Nat}:∀{l:List (den t)},(∀x∈l,tot t x<=B)->tot (.sl t) l<=(B+1) * l.length
 | [],_=>by simp[tot]
 | x::l,h=>by
  have ih:=xV (l:=l) λy hy=>h y (bWo _ hy)
  have hx:=h x (by simp);rw[iU,bXp,Nat.mul_add,Nat.mul_one];omega
theorem bNf{q:den tPp}(h:q.2.2.2.length<=5):tot tPp q<=5:=by
 show tot ti q.1+(tot ti q.2.1+(tot ti q.2.2.1+tot (.sl aR) q.2.2.2))<=5;rw[jH (t:=aR) rfl];show 0+(0+(0+q.2.2.2.length))<=5;omega
theorem aHy{p:den tPt}(h:jF p):tot tPt p<=18:=by
 have h1:=xV (t:=tPp) (B:=5) (l:=p) λx hx=>bNf (h.2 x hx)
 have h2:=h.1;show tot (.sl tPp) p<=18;have :(5+1) * bW0 (α:=den tPp) p<=18:=by omega
 exact bWk h1 this
theorem aR4{n:Nat}{l:lPt}(h:aOo n l):tot (.sl tPt) l<=19 * n:=by
 have h1:=xV (t:=tPt) (B:=18) (l:=l) λx hx=>aHy (h.2 x hx)
 have h2:=h.1;have :(18+1) * l.length<=19 * n:=by omega
 exact bWk h1 this
theorem aZz{up down:den tSg}(h1:up.2.2.length<=5)(h2:down.2.2.length<=5):∀n:Nat,jF (yW up down n)
 | 0=>bKz
 | n+1=>by
  unfold yW;split
  .refine⟨by simp,λx hx=> ?_⟩;simp only[bWm,bW7,or_false]at hx;rcases hx with rfl | rfl
   .exact bWk (aHg _ _ _) h1
   .exact bWk (aHg _ _ _) h2
  .exact aZz h1 h2 n
theorem aWv{p:lPp}(h:jF p):tot tPt p<=1073741824:=bWk (aHy h) (by decide)
theorem bHv{x:den tPp}(h:x.2.2.2.length<=5):jF [x]:=⟨by simp,λy hy=>by rw[bWp.1 hy];exact h⟩
theorem aWe{s:den tSg}(hs:s.2.2.length<=5)(k:Int){p:lPp}{n:Nat}(hp:p.length<=n/\ ∀x∈p,x.2.2.2.length<=5):(iC s k p).length<=n+1/\ ∀x∈iC s k p,x.2.2.2.length<=5:=by
 unfold iC;cases decide ((s.2.2.length:Int)>0) with
 | false=>exact⟨bWk hp.1 (bXi _),hp.2⟩
 | true=>
  refine⟨by simp;exact hp.1,λx hx=> ?_⟩;rcases bWq.1 (show x∈p++[gP s k 0] from hx) with hx | hx
  .exact hp.2 x hx
  .rw[bWp.1 hx];exact bWk (aHg s k 0) hs
theorem bAz{up core down:den tSg}(h1:up.2.2.length<=5)(h2:core.2.2.length<=5)(h3:down.2.2.length<=5)(b:Bool):jF (qE up core b down):=
 aWe h3 4 (n:=2) (aWe h2 (cond b 3 2) (n:=1) (aWe h1 1 (n:=0) ⟨by simp,λx hx=>(bW7 hx).elim⟩))
theorem aG2{k:den tDb}(h:DbS k){up down:den tSg}(h1:up.2.2.length<=5)(h3:down.2.2.length<=5)(a b:Int):∀p∈bX k.2 up a b down,jF p:=by
 intro p hp;unfold bX at hp;rcases bWq.1 hp with hp | hp
 .obtain⟨s,hs,hp⟩:=bXf.1 hp;rw[bWp.1 hp];exact bAz h1 (h.hc1 s (bWy.1 hs).1) h3 false
 .obtain⟨s,hs,hp⟩:=bXf.1 hp;rw[bWp.1 hp];exact bAz h1 (h.hc1 s (bWy.1 hs).1) h3 true
theorem aZt{t:den tTo}{k:den tDb}(h:DbS k)(a b:Int):∀p∈mI t k a b,jF p:=by
 intro p hp;have mu:∀s∈bV k.1 a,s.2.2.length<=5:=λs hs=>h.hd1 s (bWy.1 hs).1
 have md:∀s∈bV k.1 b,s.2.2.length<=5:=λs hs=>h.hd1 s (bWy.1 hs).1
 have one:∀(kind r:Int) (s:den tSg),s.2.2.length<=5-> ∀p∈oF kind r s,jF p:=λkind r s hs p hp=>by
  unfold oF at hp;cases hc:decide (fIx s.2.2 r>=0) with
  | false=>rw[hc]at hp;cases hp
  | true=>
   rw[hc]at hp;rw[bWp.1 hp];exact bHv (bWk (aHg _ _ _) hs)
 unfold mI at hp;cases hc:(a==b||(!cG t a|| !cG t b)) with
 | true=>rw[hc]at hp;cases hp
 | false=>
 rw[hc]at hp;simp only[zY,bWq]at hp;rcases hp with (((((hp | hp) | hp) | hp) | hp) | hp) | hp
 .obtain⟨s,hs,hp⟩:=bXf.1 hp;exact one _ _ s (mu s hs) p hp
 .obtain⟨s,hs,hp⟩:=bXf.1 hp;exact one _ _ s (md s hs) p hp
 .exact aG2 h (by decide) (by decide) _ _ p hp
 .obtain⟨u,hu,hp⟩:=bXf.1 hp;obtain⟨d,hd,hp⟩:=bXf.1 hp;unfold sW at hp;cases hq:decide (((xS u d).length:Int)>0) with
  | false=>rw[hq]at hp;cases hp
  | true=>
   rw[hq]at hp;rw[bWp.1 hp];exact aZz (mu u hu) (md d hd) _
 .cases hq:kO t a with
  | false=>rw[hq]at hp;cases hp
  | true=>
   rw[hq]at hp;obtain⟨d,hd,hp⟩:=bXf.1 hp;exact aG2 h (by decide) (md d hd) _ _ p hp
 .cases hq:kO t b with
  | false=>rw[hq]at hp;cases hp
  | true=>
   rw[hq]at hp;obtain⟨u,hu,hp⟩:=bXf.1 hp;exact aG2 h (mu u hu) (by decide) _ _ p hp
 .obtain⟨u,hu,hp⟩:=bXf.1 hp;obtain⟨d,hd,hp⟩:=bXf.1 hp;exact aG2 h (mu u hu) (md d hd) _ _ p hp
theorem bFv{t:den tTo}{k:den tDb}(h:DbS k)(a b:Int):(mI t k a b).length<=100000:=by
 obtain⟨n1,n2,n3,n4,n5,n6,s1,s2,s4,s5,s6,s7⟩:=aGi h a b;have n7:((bV k.1 a).flatMap λu=>(bV k.1 b).flatMap λd=>bX k.2 u (eA u) (eA d) d).length<=54000:=by rw[List.length_flatMap];exact s7
 unfold mI;cases (a==b||(!cG t a|| !cG t b)) with
 | true=>exact bW3 _
 | false=>
 cases kO t a<;>cases kO t b<;>simp only[zY,zZ,bW9,bYc]<;>omega
def vF(q:den tPp)(i:Nat):Int:=bW q (if dM q.1 then i+1 else i)
def uC(t:den tTo)(q:den tPp):Bool:=(q.2.2.2.zipIdx 0).all λz=>tP t q.2.1 (vF q z.2) z.1
def aP8(t:den tTo)(p:lPp):Bool:=p.all (uC t)
theorem bQ5{t:den tTo}{q:den tPp}(ht:t.1.length<=1000000)(h:q.2.2.2.length<=1000000):mP t q=some (uC t q):=by
 unfold mP uC pj2 pj4 pj5;rw[aU (l:=q.2.2.2) (λk (x:den aR)=>if tP t q.2.1 (vF q k) x then none else some false) (by omega) (λk x hi hd hw hx hk=>by
  have e1:lB (q.1,q.2.1,q.2.2.1,q.2.2.2) (k:Int)=some (bW q k):=aZp (p:=q) (by omega) (by omega);have e2:lB (q.1,q.2.1,q.2.2.1,q.2.2.2) ((k+1:Nat):Int)=some (bW q (k+1)):=aZp (p:=q) (by omega) (by omega);have e3:∀b,jT (t.1,t.2) q.2.1 b (x.1,x.2.1,x.2.2.1,x.2.2.2.1,x.2.2.2.2)=some (tP t q.2.1 b x):=λb=>bH6 (t:=t) (h:=x) (by omega)
  have eb:uL (q.1,q.2.1,q.2.2.1,q.2.2.2) (k:Int)=some (vF q k):=by
   unfold uL vF pj4;simp only[aFv,aA,hw,e1,e2];cases dM q.1<;>rfl
  simp only[hd,hi,hw,zZ,aA,eb,e3];cases tP t q.2.1 (vF q k) x<;>rfl) (by simp),zG]
 cases (q.2.2.2.zipIdx 0).all λz=>tP t q.2.1 (vF q z.2) z.1<;>rfl
theorem bRq{t:den tTo}{p:lPp}(ht:t.1.length<=1000000)(h:jF p):mU t p=some (aP8 t p):=by
 have h3:=h.1;unfold mU aP8 pj2 pj4;rw[aU (l:=p) (λ_ (x:den tPp)=>if uC t x then none else some false) (by omega) (λk x hi hd hw hx hk=>by
  have e:mP (t.1,t.2) (x.1,x.2.1,x.2.2.1,x.2.2.2)=some (uC t x):=bQ5 (t:=t) (q:=x) ht (bWk (h.2 x hx) (by decide));simp only[hd,hi,hw,zZ,aA,e];cases uC t x<;>rfl) (by simp),oN]
 cases p.all (uC t)<;>rfl
def aTr(now:Int)(l:dE):Bool:=l.all λh=>decide (now<=h.2.2.2.1)
def aBx(t:den tTo)(p:lPp)(now:Int):Bool:=cond (fV t p&&aP8 t p) (p.all λx=> !decide (x.2.1>now)&&aTr now x.2.2.2) false
theorem aCs{t:den tTo}{p:den tPt}(h:wfP t p=true){k:Nat}{x:den tPp}(hx:p[k]? =some x):bB t x=true/\(k=0\/yV ((p[k - 1]?).getD pt0) x=true):=by
 unfold wfP at h;rw[bWj]at h;have :=(kJ (qM t p) p).1 h.2 k x hx;unfold qM at this;rw[bWj,bX2,zR]at this;exact this
theorem aWn{t:den tTo}{x:den tPp}(h:bB t x=true):0<x.2.2.2.length:=by
 unfold bB at h;rw[bWj]at h;have :=(aI.1 h.1).1;omega
theorem bTy{t:den tTo}{p:lPp}(ht:t.1.length<=1000000)(h2:t.2.length<=1000000)(h:jF p)(now:Int):nF t p now=some (aBx t p now):=by
 have h3:=h.1;have e1:mN (t.1,t.2) p=some (fV t p):=bHj (t:=t) (p:=p) (by omega) (by omega) (aWv h);have e2:mU (t.1,t.2) p=some (aP8 t p):=bRq (t:=t) ht h;unfold nF aBx pj2 pj5;simp only[e1,e2,aA];cases c1:fV t p with
 | false=>rfl
 | true=>
  cases c2:aP8 t p with
  | false=>rfl
  | true=>
   simp only[bWw,zY,aA,bZc,zZ];rw[aU (l:=p) (λ_ (x:den tPp)=>if !decide (x.2.1>now)&&aTr now x.2.2.2 then none else some false) (by omega) (λk x hi hd hw hx hk=>by
    have hx3:=h.2 x hx;simp only[hd,hi,hw,zZ,aA];cases c:decide (x.2.1>now) with
    | true=>rfl
    | false=>
     simp only[zY];rw[aU (l:=x.2.2.2) (λ_ (y:den aR)=>if decide (now<=y.2.2.2.1) then none else some (bWh (bWh false))) (by omega) (λj y hj hd' hw' hy hk'=>by
      have ehv:∀(hp:den aR) (n:Int),rP hp n=some (decide (n<=hp.2.2.2.1)):=λ_ _=>rfl
      simp only[hd',hj,hw',zZ,aA,ehv];cases decide (now<=y.2.2.2.1)<;>rfl) (by simp),oN]
     unfold aTr;cases x.2.2.2.all λy=>decide (now<=y.2.2.2.1)<;>rfl) (by simp),oN]
   cases p.all λx=> !decide (x.2.1>now)&&aTr now x.2.2.2<;>rfl
noncomputable def aEo(l:List lPp)(p:lPp):Bool:=l.any λx=>zI x p
theorem aUh{α:Type}(p:α->Bool):∀(l:List α) (k:Nat),bL (λ_ x=>if p x then some true else none) k l=if l.any p then some true else none
 | [],_=>rfl
 | x::l,k=>by
  rw[List.any_cons];unfold bL
  by_cases h:p x=true
  .rw[zT h,h];rfl
  .rw[zS h];have h':p x=false:=by simpa using h
   rw[h',Bool.false_or];exact aUh p l (k+1)
theorem aXx{p:lPp}(h:jF p):SmB 68719476736 (.sl tPp) p:=(cF (t:=tPt) (aWv h)).mono (by decide)
theorem bPg{l:List lPp}{p:lPp}(hl:l.length<=1000000)(h:∀x∈l,jF x)(hp:jF p):sO l p=some (aEo l p):=by
 unfold sO aEo;rw[aU (l:=l) (λ_ (x:lPp)=>if zI x p then some true else none) (by omega) (λk x hi hd hw hx hk=>by
  have e:nB x p=some (zI x p):=bQc (aXx (h x hx)) (aXx hp);simp only[hd,hi,hw,zZ,aA,e];cases zI x p<;>rfl) (by simp),aUh (λx=>zI x p)]
 cases l.any λx=>zI x p<;>rfl
noncomputable def qJ(t:den tTo)(now:Int)(l:List lPp)(p:lPp):List lPp:=
 cond (decide ((l.length:Int)<24)) (cond (aBx t p now) (cond (aEo l p) l (l++[p])) l) l
noncomputable def aEx(t:den tTo)(k:den tDb)(a b now:Int):List lPp:=(mI t k a b).foldl (qJ t now) []
theorem bI4{t:den tTo}{now:Int}{l:List lPp}{p:lPp}(h:l.length<=24/\ ∀x∈l,jF x)(hp:jF p):(qJ t now l p).length<=24/\ ∀x∈qJ t now l p,jF x:=by
 unfold qJ
 by_cases hc:(l.length:Int)<24
 .rw[zX hc,zZ];cases aBx t p now with
  | false=>exact h
  | true=>
   cases aEo l p with
   | true=>exact h
   | false=>
    refine⟨by simp;omega,λx hx=> ?_⟩;rcases bWq.1 (show x∈l++[p] from hx) with hx | hx
    .exact h.2 x hx
    .rw[bWp.1 hx];exact hp
 .rw[zW hc];exact h
theorem bI3{t:den tTo}{now:Int}:∀(m l:List lPp),(∀p∈m,jF p)->l.length<=24->(∀x∈l,jF x)->(m.foldl (qJ t now) l).length<=24/\ ∀x∈m.foldl (qJ t now) l,jF x
 | [],l,_,h1,h2=>⟨h1,h2⟩
 | p::m,l,h,h1,h2=>by
  obtain⟨a,b⟩:=bI4 (t:=t) (now:=now) ⟨h1,h2⟩ (h p (by simp));exact bI3 m _ (λq hq=>h q (bWo _ hq)) a b
theorem aR6{t:den tTo}{now:Int}:∀(m l:List lPp),¬ ((l.length:Int)<24)->m.foldl (qJ t now) l=l
 | [],_,_=>rfl
 | p::m,l,h=>by
  have e:qJ t now l p=l:=by unfold qJ;rw[zW h];rfl
  rw[bY1,e];exact aR6 m l h
theorem aY6{t:den tTo}{k:den tDb}(ht:t.1.length<=1000000)(h2:t.2.length<=1000000)(h:DbS k)(a b now:Int):lJ t k a b now=some (aEx t k a b now):=by
 have e0:kC (t.1,t.2) (k.1,k.2) a b=some (mI t k a b):=bSw (t:=t) (k:=k) ht h a b;have hB:=aZt (t:=t) h a b;have hL:=bFv (t:=t) h a b;unfold lJ aEx ixb pj2;rw[e0,aA];have key:∀(G:Int×List lPp->Option ((Int×List lPp)⊕List lPp)),
   (∀(i:Nat) (p:lPp) (l:List lPp),(mI t k a b)[i]? =some p->i<(mI t k a b).length->p∈mI t k a b->l.length<=24->(∀x∈l,jF x)->(l.length:Int)<24->G ((i:Int),l)=some (.inl (((i+1:Nat):Int),qJ t now l p)))->
   (∀(i:Nat) (l:List lPp),i<=(mI t k a b).length->(i=(mI t k a b).length\/ ¬ ((l.length:Int)<24))->G ((i:Int),l)=some (.inr l))->
   ∀(rest pre l:List lPp),pre++rest=mI t k a b->l.length<=24->(∀x∈l,jF x)->aC G ((pre.length:Int),l)=some (rest.foldl (qJ t now) l):=by
  intro G hs he rest
  induction rest with
  | nil=>intro pre l hp h1 h3;exact aW (he pre.length l (by rw[<- hp];simp) (.inl (by rw[<- hp];simp)))
  | cons p rest ih=>
   intro pre l hp h1 h3;have hlt:pre.length<(mI t k a b).length:=by rw[<- hp];simp
   have hx:(mI t k a b)[pre.length]? =some p:=by rw[<- hp];simp
   by_cases hc:(l.length:Int)<24
   .have hpB:=hB p (bWu hx);obtain⟨q1,q2⟩:=bI4 (t:=t) (now:=now) ⟨h1,h3⟩ hpB;rw[cU (hs pre.length p l hx hlt (bWu hx) h1 h3 hc),bY1];have :=ih (pre++[p]) (qJ t now l p) (by simpa using hp) q1 q2;simpa using this
   .rw[aR6 _ _ hc];exact aW (he pre.length l (by omega) (.inr hc))
 refine (congrArg (λo=>Option.bind o _) (key _ (λi p l hx hi hp h1 h3 hc=> ?_) (λi l hi hc=> ?_) (mI t k a b) [] [] rfl (by simp) (λx hx=>(bW7 hx).elim))).trans ?_
 .have e1:nF (t.1,t.2) p now=some (aBx t p now):=bTy (t:=t) ht h2 (hB p hp) now;have e2:sO l p=some (aEo l p):=bPg (by omega) h3 (hB p hp);have hd:decide ((i:Int)<((mI t k a b).length:Int))=true:=zX (by omega);have hw:wr ((i:Int)+1)=((i+1:Nat):Int):=fJ (by omega);unfold qJ;simp only[hd,eE,hw,zZ,bWs,hx,aA,e1,e2,zX hc,aG (b:=24) (n:=l.length) (m:=1) (by decide) (by omega)];cases aBx t p now<;>cases aEo l p<;>rfl
 .rcases hc with rfl | hc
  .simp only[zW (bXu _),zY,aA]
  .cases decide ((i:Int)<((mI t k a b).length:Int)) with
   | false=>simp only[zY,aA]
   | true=>simp only[zZ,aA,zW hc,zY]
 .rfl
theorem bPz{t:den tTo}{k:den tDb}(h:DbS k)(a b now:Int):aOo 24 (aEx t k a b now):=bI3 _ _ (aZt h a b) (by simp) (λx hx=>(bW7 hx).elim)
theorem bJi{code:List Int}(hl:code.length<=1048576){n:Nat}(hn:n<=1000){c:List Int}{p h:Int}(hc:Cur code (c,p,h)):∃l c' p' h',sK (c,p,h) (n:Int)=some (l,c',p',h')/\(l.length=n/\ ∀x∈l,0<=x/\x<=255)/\Cur code (c',p',h'):=by
 unfold sK pj3 pj4;refine iM (G:=λo=> ∃l c' p' h',o=some (l,c',p',h')/\(l.length=n/\ ∀x∈l,0<=x/\x<=255)/\Cur code (c',p',h')) n (λs:Int×List Int×List Int×Int×Int=>s.1) (λi s=>(s.2.1.length=i/\ ∀x∈s.2.1,0<=x/\x<=255)/\Cur code s.2.2) (λr:List Int×List Int×Int×Int=>(r.1.length=n/\ ∀x∈r.1,0<=x/\x<=255)/\Cur code r.2) ?_ ?_ 0 ((0:Int),[],c,p,h) (by omega) rfl ⟨⟨rfl,λx hx=>(bW7 hx).elim⟩,hc⟩ (λr hr=>⟨r.1,r.2.1,r.2.2.1,r.2.2.2,rfl,hr.1,hr.2⟩)
 .rintro i ⟨_,l,c1,p1,h1⟩ hi rfl ⟨⟨g1,g2⟩,k1⟩
  simp only at g1 g2 k1;obtain⟨v,c2,p2,h2,e2,r2,k2⟩:=aDe hl k1;obtain⟨m,rfl⟩:=bXs r2.1;right;refine⟨(((i+1:Nat):Int),l++[(m:Int)],c2,p2,h2),?_,rfl,⟨by simp[g1],λx hx=>(bWq.1 hx).elim (g2 x) λhx=>by rw[bWp.1 hx];omega⟩,k2⟩;simp only[zX (show (i:Int)<(n:Int) by omega),zZ,e2,aA,aG (b:=1) (n:=l.length) (m:=1) (by decide) (by omega),fJ (show i<=1000000000 by omega),aLi (n:=m) (by omega)]
 .rintro⟨_,l,c1,p1,h1⟩ rfl ⟨g,k1⟩
  exact⟨(l,c1,p1,h1),by simp only[zW (bXu _),zY],g,k1⟩
theorem bTj(a b:Int):vC a b=some (a,b,0,[]):=rfl
def RvD(l:lRv):Prop:=l.length<=16/\ ∀y∈l,dJ y=true
theorem bMs{l:lRv}{x:den tRv}(h:RvD l):RvD (aMq l x):=by
 obtain⟨h1,h2⟩:=h;unfold aMq;cases hv:dJ x with
 | false=>exact⟨h1,h2⟩
 | true=>
  simp only[zZ];cases hs:bL (aA0 x l) 0 l with
  | some r=>
   have :=aJv (λr:lRv=> @ite Nat (RvD r) (Classical.propDecidable _) 0 1) 0 (g:=aA0 x l) (l:=l) (k:=0) (λj y r' hy hr=>by
    have hp:RvD r':=by
     unfold aA0 at hr;cases c1:y.1==x.1 with
     | false=>rw[c1]at hr;cases hr
     | true=>
      cases c2:y.2.1==x.2.1 with
      | false=>rw[c1,c2]at hr;cases hr
      | true=>
       rw[c1,c2]at hr;injection hr with hr;rw[<- hr];have hy':=h2 y (bWu hy);refine⟨by simpa using h1,λz hz=> ?_⟩;rcases bZw hz with hz | rfl
       .exact h2 z hz
       .unfold dJ at hv hy' ⊢;simp only[bWj]at hv hy' ⊢;refine⟨hy'.1,hy'.2.1,?_⟩;split
        .exact hv.2.2
        .exact hy'.2.2
    simp only[zT hp];exact bWx _) r hs
   by_cases hp:RvD r
   .exact hp
   .simp only[zS hp]at this;omega
  | none=>
   have hx:∀y∈l++[x],dJ y=true:=λy hy=>(bWq.1 hy).elim (h2 y) λhy=>by rw[bWp.1 hy];exact hv
   by_cases c:16<l.length+1
   .simp only[c,zV];exact⟨by simp;omega,λy hy=>hx y (bYa hy)⟩
   .simp only[c,zU];exact⟨by simp;omega,hx⟩
theorem aC4(a b c d cu wa:Int)(ms:lMs)(ps:lPt)(rv:lRv):tot tFl (a,b,c,d,ms,ps,cu,wa,rv)=tot (.sl tMs) ms+tot (.sl tPt) ps+rv.length:=by
 show tot ti a+(tot ti b+(tot ti c+(tot ti d+(tot (.sl tMs) ms+(tot (.sl tPt) ps+(tot ti cu+(tot ti wa+tot (.sl tRv) rv)))))))=_;rw[jH (t:=tRv) rfl];show 0+(0+(0+(0+(_+(_+(0+(0+_)))))))=_;omega
theorem bAl(b:List Int):tot (.sl tMs) [b]=1+b.length:=by
 rw[iU];show 1+tot (.sl tb) b+tot (.sl tMs) []=_;rw[jH (t:=tb) rfl];rfl
theorem lS(f:den tFl):lR f=true↔inR f.1 0 7=true/\inR f.2.1 0 7=true/\f.1≠f.2.1/\inR f.2.2.1 0 100000=true/\f.2.2.2.2.1.length<=20/\inR f.2.2.2.1 0 (f.2.2.2.2.1.length:Int)=true/\f.2.2.2.2.2.1.length<=24/\
  (∀m∈f.2.2.2.2.1,m.length<=40)/\(∀x∈f.2.2.2.2.2.2.2.2,dJ x=true)/\(f.2.2.2.2.2.2.1=0\/inR f.2.2.2.2.2.2.1 0 ((f.2.2.2.2.2.1.length:Int) - 1)=true)/\inR f.2.2.2.2.2.2.2.1 0 4=true/\f.2.2.2.2.2.2.2.2.length<=16:=by
 unfold lR;simp only[bWj,bX2,bW8,beq_iff_eq,beq_eq_false_iff_ne,zR,bW5,ne_eq]
theorem aW4{c:Int}{n:Nat}(hn:n<=24)(h:c=0\/inR c 0 ((n:Int) - 1)=true):(if wr (c+1)>=(n:Int) then (0:Int) else wr (c+1))=0\/inR (if wr (c+1)>=(n:Int) then (0:Int) else wr (c+1)) 0 ((n:Int) - 1)=true:=by
 have hc:0<=c/\c<=24:=by
  rcases h with e | e
  .omega
  .have :=aI.1 e;omega
 rw[bD (by omega) (by omega)];split
 .exact .inl rfl
 .right;rw[aI];omega
theorem bO1{w:Int}(h:inR w 0 4=true)(h4: ¬ (w==4)=true):inR (wr (w+1)) 0 4=true:=by
 rw[aI]at h;rw[beq_iff_eq]at h4;rw[bD (by omega) (by omega),aI];omega
theorem aSk{f:den tFl}(h:lR f=true):lR (aF f).1=true:=by
 rw[lS]at h;obtain⟨h1,h2,h3,h4,h5,h6,h7,h8,h9,h10,h11,h12⟩:=h;have key:∀c w:Int,(c=0\/inR c 0 ((f.2.2.2.2.2.1.length:Int) - 1)=true)->inR w 0 4=true->lR (setCW f c w)=true:=λc w hc hw=>by
  rw[lS];exact⟨h1,h2,h3,h4,h5,h6,h7,h8,h9,hc,hw,h12⟩
 unfold aF;split
 .split
  .exact key _ _ h10 rfl
  .split
   .exact key _ _ (aW4 h7 h10) rfl
   .next e4=>exact key _ _ h10 (bO1 h11 e4)
 .exact key _ _ h10 rfl
def Byt(l:List Int):Prop:= ∀x∈l,0<=x/\x<=255
theorem bVb(bs:ByteArray):∀(n i:Nat) (r:List UInt8),n+i=bs.size->ByteArray.toList.loop bs i r=r.reverse++bs.data.toList.drop i:=by
 intro n
 induction n with
 | zero=>
  intro i r h;unfold ByteArray.toList.loop;rw[zS (by omega),List.drop_of_length_le (by rw[bZv];show bs.size<=i;omega),bXh]
 | succ n ih=>
  intro i r h;unfold ByteArray.toList.loop;rw[zT (by omega),ih (i+1) _ (by omega)];have hi:i<bs.data.toList.length:=by rw[bZv];show i<bs.size;omega
  rw[bZa hi,bZo,bW6];congr 2;simp[ByteArray.get!];rw[getElem!_pos bs.data i (by rw[<- bZv];exact hi)]
theorem bl(bs:ByteArray):bs.toList=bs.data.toList:=by
 unfold ByteArray.toList;rw[bVb bs bs.size 0 [] (by omega)];simp
theorem aPg(l:List Int):(wZ l).toList=l.map λn=>UInt8.ofNat n.toNat:=by
 rw[bl];rfl
theorem bHb{a b:List Int}(ha:Byt a)(hb:Byt b):((wZ a).toList==(wZ b).toList)=true↔a=b:=by
 rw[beq_iff_eq,aPg,aPg];constructor
 .intro h;have hl:=congrArg bW0 h;simp only[bXe]at hl;refine List.ext_getElem hl λi h1 h2=> ?_
  have h3:(a.map λn=>UInt8.ofNat n.toNat)[i]'(by simpa using h1)=(b.map λn=>UInt8.ofNat n.toNat)[i]'(by simpa using h2):=by simp only[h]
  simp only[List.getElem_map]at h3;have a1:=ha _ (bXt h1);have b1:=hb _ (bXt h2);have h4:=congrArg UInt8.toNat h3;simp only[UInt8.toNat_ofNat']at h4;omega
 .intro h;rw[h]
def aBr(l:dE):Option Int:=l.head?.map λx=>(x.1:Int)
def xL(l:dE):Option Int:=l.getLast?.map λx=>(x.1:Int)
def zE(p:lPp):Option Int:=p.head?.bind λx=>aBr x.2.2.2
def vE(p:lPp):Option Int:=p.getLast?.bind λx=>xL x.2.2.2
def bVa(a b:Int)(p:den tPt):Prop:=jF p/\zE p=some a/\vE p=some b
def aJb(a b:Int)(n:Nat)(l:lPt):Prop:=l.length<=n/\ ∀p∈l,bVa a b p
theorem aJb.d{a b:Int}{n:Nat}{l:lPt}(h:aJb a b n l):aOo n l:=⟨h.1,λp hp=>(h.2 p hp).1⟩
def aBu(a b:Int)(p:lPp):Prop:=zE p=some a/\vE p=some b
theorem bPu{s:den tSg}(h:s.2.2≠[]):xL s.2.2=some (oH s):=by
 have hl:s.2.2.length≠0:=λe=>h (List.length_eq_zero_iff.1 e)
 unfold xL oH;rw[zS hl,List.getLast?_eq_getElem?,bWl (show s.2.2.length - 1<s.2.2.length by omega)];rfl
theorem aVh{s:den tSg}(h:0<=eA s):s.2.2≠[]:=λe=>by
 unfold eA at h;rw[e]at h;exact absurd h (by decide)
theorem aBd{s:den tSg}{k:Int}{i:Nat}{x:den aR}(hk:inR k 1 4=true)(hx:s.2.2[i]? =some x):aBr (gP s k i).2.2.2=some (if dM k then oH s else x.1)/\xL (gP s k i).2.2.2=some (if dM k then (x.1:Int) else oH s):=by
 obtain⟨hi,e⟩:=bWn.1 hx;have hne:s.2.2≠[]:=λe=>by rw[e]at hi;exact absurd hi (bZm _)
 have hl:=bPu hne;have hd:(s.2.2.drop i).head? =some x:=by rw[List.head?_drop];exact hx
 have hg:(s.2.2.drop i).getLast? =s.2.2.getLast? :=by rw[List.getLast?_drop,zS (by omega)]
 unfold gP;rw[show inR (i:Int) 0 ((s.2.2.length:Int) - 1)=true from aI.2 ⟨by omega,by omega⟩,hk];simp only[bZc,zV,bWs];unfold xL at hl;unfold aBr xL;cases dM k with
 | true=>
  simp only[zV];rw[List.head?_reverse,List.getLast?_reverse,hg,hl,hd];exact⟨rfl,rfl⟩
 | false=>
  simp only[bWz,zU];rw[hg,hl,hd];exact⟨rfl,rfl⟩
theorem aJg{s:den tSg}{k:Int}(hk:inR k 1 4=true)(h:s.2.2≠[]):aBr (gP s k 0).2.2.2=some (if dM k then oH s else eA s)/\xL (gP s k 0).2.2.2=some (if dM k then eA s else oH s):=by
 unfold eA;cases hs:s.2.2 with
 | nil=>exact absurd hs h
 | cons x l=>exact aBd (i:=0) hk (by rw[hs];rfl)
theorem bSo{l:dE}{r:Int}(h:0<=fIx l r):∃(i:Nat) (x:den aR),fIx l r=(i:Int)/\l[i]? =some x/\x.1=r:=by
 unfold fIx at h|-;cases hs:bL (λk (x:den aR)=>if x.1==r then some (k:Int) else none) 0 l with
 | none=>rw[hs]at h;exact absurd h (by decide)
 | some v=>
  obtain⟨j,x,hx,hv,hp⟩:=aC7 hs;exact⟨j,x,by rw[hv];simp,hx,eq_of_beq hp⟩
theorem bI6{l:dE}{r:Int}:∀{n:Nat},n<=l.length->0<=lIx l r n-> ∃(j:Nat) (y:den aR),lIx l r n=(j:Int)/\l[j]? =some y
 | 0,_,h=>absurd h (by show ¬ (0:Int)<= -1;decide)
 | n+1,hn,h=>by
  unfold lIx at h|-;split
  .exact⟨n,l[n]'(by omega),rfl,bWl (by omega)⟩
  .rename_i c;rw[zS c]at h;exact bI6 (by omega) h
theorem aVs{x:den tPp}{a b:Int}(h1:aBr x.2.2.2=some a)(h2:xL x.2.2.2=some b):aBu a b [x]:=⟨h1,h2⟩
theorem aOh{up down:den tSg}(hd:down.2.2≠[]):∀n:Nat,n<=up.2.2.length->0<(yW up down n).length->aBu (oH up) (oH down) (yW up down n)
 | 0,_,h=>absurd h (Nat.lt_irrefl 0)
 | n+1,hn,h=>by
  unfold yW at h|-;split
  .rename_i c;have hx:up.2.2[n]? =some (up.2.2[n]'(by omega)):=bWl (by omega);obtain⟨j,y,hj,hy⟩:=bI6 (bWx _) c;rw[hj];exact⟨(aBd (k:=1) rfl hx).1,(aBd (k:=4) rfl hy).2⟩
  .rename_i c;rw[zS c]at h;exact aOh hd n (by omega) h
theorem aNj{up core down:den tSg}{b:Bool}(hc:core.2.2≠[]){x y:Int}(hx:(up.2.2=[]/\x=cond b (oH core) (eA core))\/(up.2.2≠[]/\x=oH up))(hy:(down.2.2=[]/\y=cond b (eA core) (oH core))\/(down.2.2≠[]/\y=oH down)):aBu x y (qE up core b down):=by
 have pos:∀{s:den tSg},s.2.2≠[]->decide ((s.2.2.length:Int)>0)=true:=λ{s} h=>zX (by have :=List.length_pos_iff.2 h;omega)
 have zero:∀{s:den tSg},s.2.2=[]->decide ((s.2.2.length:Int)>0)=false:=λ{s} h=>by rw[h];rfl
 have hr:dM (cond b 3 2)=b:=by cases b<;>rfl
 obtain⟨c1,c2⟩:=aJg (s:=core) (k:=cond b 3 2) (by cases b<;>rfl) hc;rw[hr]at c1 c2;unfold qE iC;rw[pos hc];simp only[zZ,bXc];unfold aBu zE vE;rcases hx with ⟨h1,rfl⟩ | ⟨h1,rfl⟩<;>rcases hy with ⟨h2,rfl⟩ | ⟨h2,rfl⟩
 .rw[zero h1,zero h2];cases b<;>exact⟨c1,c2⟩
 .rw[zero h1,pos h2];cases b<;>exact⟨c1,(aJg (k:=4) rfl h2).2⟩
 .rw[pos h1,zero h2];cases b<;>exact⟨(aJg (k:=1) rfl h1).1,c2⟩
 .rw[pos h1,pos h2];exact⟨(aJg (k:=1) rfl h1).1,(aJg (k:=4) rfl h2).2⟩
theorem aAu{c:lSg}{up down:den tSg}{a b x y:Int}(ha:0<=a)(hb:0<=b)(hx:(up.2.2=[]/\x=a)\/(up.2.2≠[]/\x=oH up))(hy:(down.2.2=[]/\y=b)\/(down.2.2≠[]/\y=oH down)):∀p∈bX c up a b down,aBu x y p:=by
 intro p hp;unfold bX at hp;rcases bWq.1 hp with hp | hp<;>obtain⟨s,hs,hp⟩:=bXf.1 hp<;>rw[bWp.1 hp]<;>have h:=(bWy.1 hs).2<;>rw[bWj,beq_iff_eq,beq_iff_eq]at h
 .exact aNj (aVh (by rw[h.1];exact ha)) (hx.imp (λz=>⟨z.1,z.2.trans h.1.symm⟩) id) (hy.imp (λz=>⟨z.1,z.2.trans h.2.symm⟩) id)
 .exact aNj (aVh (by rw[h.1];exact hb)) (hx.imp (λz=>⟨z.1,z.2.trans h.2.symm⟩) id) (hy.imp (λz=>⟨z.1,z.2.trans h.1.symm⟩) id)
theorem bEj{t:den tTo}{n:Nat}{k:den tDb}(h:DbD n k.1 k.2){a b:Int}(ha:0<=a)(hb:0<=b):∀p∈mI t k a b,aBu a b p:=by
 have dn:∀{r:Int} {s:den tSg},s∈bV k.1 r->oH s=r/\s.2.2≠[]/\0<=eA s:=λ{r s} hs=>by
  obtain⟨h1,h2⟩:=bWy.1 hs;obtain⟨h3,h4⟩:=h.ha s h1;refine⟨eq_of_beq h2,h3,?_⟩;unfold eA;cases hh:s.2.2 with
  | nil=>exact absurd hh h3
  | cons x l=>exact (h4 x (by rw[hh];exact bWt ..)).1
 intro p hp;unfold mI at hp;cases hc:(a==b||(!cG t a|| !cG t b)) with
 | true=>rw[hc]at hp;cases hp
 | false=>
 rw[hc]at hp;simp only[zY,bWq]at hp;have one:∀{kind r:Int} {s:den tSg},p∈oF kind r s-> ∃(i:Nat) (x:den aR),p=[gP s kind (i:Int)]/\s.2.2[i]? =some x/\x.1=r:=λ{kind r s} hp=>by
  unfold oF at hp;cases hq:decide (fIx s.2.2 r>=0) with
  | false=>rw[hq]at hp;cases hp
  | true=>
   rw[hq]at hp;obtain⟨i,x,e,hx,hr⟩:=bSo (of_decide_eq_true hq);exact⟨i,x,by rw[bWp.1 hp,e],hx,hr⟩
 rcases hp with (((((hp | hp) | hp) | hp) | hp) | hp) | hp
 .obtain⟨s,hs,hp⟩:=bXf.1 hp;obtain⟨i,x,rfl,hx,rfl⟩:=one hp;obtain⟨e1,e2⟩:=aBd (k:=1) rfl hx;exact aVs (e1.trans (congrArg some (dn hs).1)) e2
 .obtain⟨s,hs,hp⟩:=bXf.1 hp;obtain⟨i,x,rfl,hx,rfl⟩:=one hp;obtain⟨e1,e2⟩:=aBd (k:=4) rfl hx;exact aVs e1 (e2.trans (congrArg some (dn hs).1))
 .exact aAu ha hb (.inl ⟨rfl,rfl⟩) (.inl ⟨rfl,rfl⟩) p hp
 .obtain⟨u,hu,hp⟩:=bXf.1 hp;obtain⟨d,hd,hp⟩:=bXf.1 hp;unfold sW at hp;cases hq:decide (((xS u d).length:Int)>0) with
  | false=>rw[hq]at hp;cases hp
  | true=>
   rw[hq]at hp;rw[bWp.1 hp];have :=aOh (up:=u) (dn hd).2.1 u.2.2.length (bWx _) (by have :=of_decide_eq_true hq;unfold xS at this;omega);rw[(dn hu).1,(dn hd).1]at this;exact this
 .cases hq:kO t a with
  | false=>rw[hq]at hp;cases hp
  | true=>
   rw[hq]at hp;obtain⟨d,hd,hp⟩:=bXf.1 hp;exact aAu ha (dn hd).2.2 (.inl ⟨rfl,rfl⟩) (.inr ⟨(dn hd).2.1,(dn hd).1.symm⟩) p hp
 .cases hq:kO t b with
  | false=>rw[hq]at hp;cases hp
  | true=>
   rw[hq]at hp;obtain⟨u,hu,hp⟩:=bXf.1 hp;exact aAu (dn hu).2.2 hb (.inr ⟨(dn hu).2.1,(dn hu).1.symm⟩) (.inl ⟨rfl,rfl⟩) p hp
 .obtain⟨u,hu,hp⟩:=bXf.1 hp;obtain⟨d,hd,hp⟩:=bXf.1 hp;exact aAu (dn hu).2.2 (dn hd).2.2 (.inr ⟨(dn hu).2.1,(dn hu).1.symm⟩) (.inr ⟨(dn hd).2.1,(dn hd).1.symm⟩) p hp
theorem bJ7{t:den tTo}{now:Int}{l:List lPp}{q p:lPp}(h:p∈qJ t now l q):p∈l\/p=q:=by
 unfold qJ at h;cases c1:decide ((l.length:Int)<24) with
 | false=>rw[c1]at h;exact .inl h
 | true=>
  cases c2:aBx t q now with
  | false=>rw[c1,c2]at h;exact .inl h
  | true=>
   cases c3:aEo l q with
   | true=>rw[c1,c2,c3]at h;exact .inl h
   | false=>
    rw[c1,c2,c3]at h;exact (bWq.1 (show p∈l++[q] from h)).imp id bWp.1
theorem aXt{t:den tTo}{now:Int}:∀(m l:List lPp),∀p∈m.foldl (qJ t now) l,p∈l\/p∈m
 | [],l,p,h=> .inl h
 | q::m,l,p,h=>by
  rcases aXt m (qJ t now l q) p h with h | h
  .exact (bJ7 h).imp id λe=>by rw[e];exact bWt ..
  .exact .inr (bWo _ h)
theorem bP9{t:den tTo}{n:Nat}{k:den tDb}(h:DbD n k.1 k.2)(hn:n<=30){a b:Int}(ha:0<=a)(hb:0<=b)(now:Int):aJb a b 24 (aEx t k a b now):=by
 obtain⟨h1,h2⟩:=bPz (t:=t) (h.s hn) a b now;refine⟨h1,λp hp=>⟨h2 p hp,?_⟩⟩;rcases aXt _ _ p hp with hp | hp
 .cases hp
 .exact bEj h ha hb p hp
theorem bVv{as:lAS}{ls:lLk}(ht:aDd as ls){d cc:lSg}(hk:DbD 13 d cc){a b:Int}(ha:0<=a)(hb:0<=b)(now:Int):∃l,lJ (as,ls) (d,cc) a b now=some l/\aJb a b 24 l:=
 ⟨_,aY6 (t:=(as,ls)) (k:=(d,cc)) (by have :=ht.len;show as.length<=_;omega) (by have :=ht.links;show ls.length<=_;omega) (hk.s (by decide)) a b now,bP9 (k:=(d,cc)) hk (by decide) ha hb now⟩
def aKn(l:dE):Prop:= ∀(j:Nat) (y:den aR),l[j]? =some y->y.2.2.2.1=(5000:Int)
theorem bIs{as:lAS}{ls:lLk}{s:den tSg}(h5:s.2.2.length<=5)(hi:InN (as.length:Int) s.2.2):∃hs,sM (as,ls) s=some (s.1,s.2.1,hs)/\hs.length<=5/\InN (as.length:Int) hs/\aKn hs:=by
 unfold sM ixb pj3 pj5 zz4;rw[show ((s.1,s.2.1,s.2.2):den tSg)=s from rfl,aFu (by omega),aA];refine iM (G:=λo=> ∃hs,o=some (s.1,s.2.1,hs)/\hs.length<=5/\InN (as.length:Int) hs/\aKn hs) s.2.2.length (λz:Int×dE=>z.1) (λi z=>z.2.length=s.2.2.length/\InN (as.length:Int) z.2/\ ∀(j:Nat) (y:den aR),j<i->z.2[j]? =some y->y.2.2.2.1=(5000:Int)) (λr:dE=>r.length=s.2.2.length/\InN (as.length:Int) r/\aKn r) ?_ ?_ 0 ((0:Int),s.2.2) (by omega) rfl ⟨rfl,hi,λj y hj=>absurd hj (bZm j)⟩ ?_
 .rintro i ⟨_,l⟩ hlt rfl ⟨g1,g2,g3⟩
  simp only at g1 g2 g3;right;have hil:i<l.length:=by omega
  have hx:l[i]? =some l[i]:=bWl hil;obtain⟨q0,q1⟩:=g2 l[i] (bXt hil);obtain⟨m,hm⟩:=bXs q0;have hml:m<as.length:=by omega
  obtain⟨bt,et⟩:=aMl (s:=(s.1,s.2.1,l)) (i:Int) (by show l.length<=_;omega);have ex:idx as l[i].1=some as[m]:=by rw[hm,aO];exact bWl hml
  simp only[zX (show (i:Int)<(l.length:Int) by omega),zX (show (0:Int)<=(i:Int) by omega),zZ,bWs,hx,aA,ex,et,aW5,zX hil];refine⟨_,rfl,fJ (show i<=1000000000 by omega),by simp[g1],λy hy=> ?_,λj y hj hy=> ?_⟩
  .rcases bZw hy with hy | rfl
   .exact g2 y hy
   .exact⟨q0,q1⟩
  .simp only[bYp]at hy;split at hy
   .injection hy with hy;rw[<- hy]
   .exact g3 j y (by omega) hy
 .rintro⟨_,l⟩ rfl ⟨g1,g2,g3⟩
  simp only at g1 g2 g3;refine⟨l,by simp only[g1,zW (bXu _),zY],g1,g2,λj y hy=>g3 j y ?_ hy⟩;have :=(bWn.1 hy).1;omega
 .rintro l ⟨g1,g2,g3⟩
  exact⟨l,rfl,by omega,g2,g3⟩
theorem bC8{p:den tPt}(h:jF p):∃l,nL p=some l/\l.length<=18:=by
 have ht:=aHy h;have hs:=aA6 p;unfold nL ixb pj3;rw[aKu (by omega),aA];refine iM (G:=λo=> ∃l,o=some l/\l.length<=18) (fC p).length (λz:Int×cD=>z.1) (λi z=>z.2.length<=i) (λr:cD=>r.length<=18) ?_ ?_ 0 ((0:Int),[]) (by omega) rfl (by simp) (λl hl=>⟨l,rfl,hl⟩)
 .rintro i ⟨_,l⟩ hlt rfl g1
  simp only at g1;right;simp only[zX (show (i:Int)<((fC p).length:Int) by omega),zX (show (0:Int)<=(i:Int) by omega),zZ,bWs,bWl hlt,aA,aG (b:=24) (n:=l.length) (m:=1) (by decide) (by omega),fJ (show i<=1000000000 by omega)];cases ((fC p)[i].2.2 != (0:Int)) with
  | true=>exact⟨_,rfl,rfl,by simp;omega⟩
  | false=>exact⟨_,rfl,rfl,by show l.length<=i+1;omega⟩
 .rintro⟨_,l⟩ rfl g1
  exact⟨l,by simp only[zW (bXu _),zY],by simp only at g1;omega⟩
theorem bNc{l:lRs}{x y:den tRs}{cap now:Int}(h:y∈admR l x cap now):y∈l\/y=x:=by
 unfold admR at h;split at h
 .exact .inl h
 .rcases bWq.1 h with h | h
  .exact .inl (bWy.1 h).1
  .exact .inr (bWp.1 h)
def aU9(l:lRs)(id r:Int)(m:lRs):Prop:= ∀y∈m,y∈l\/(y.1=id/\y.2.2.2.1=r)
theorem aXy{l:lRs}{cap now:Int}(hl:rO l cap now){p:den tPt}(hp:jF p)(id r till:Int):∃b m,dB l id p r till cap now=some (b,m)/\rO m cap now/\aU9 l id r m:=by
 obtain⟨d,ed,hd⟩:=bC8 hp;have hn:=hl.len;unfold dB ixb;rw[aG (b:=40) (n:=([]:lRs).length) (m:=l.length) (by decide) (by simp;omega),zZ,ed,aA];refine iM (G:=λo=> ∃b m,o=some (b,m)/\rO m cap now/\aU9 l id r m) d.length (λz:Int×lRs=>z.1) (λi z=>rO z.2 cap now/\aU9 l id r z.2) (λx:lRs⊕(Bool×lRs)=>match x with | .inl m=>rO m cap now/\aU9 l id r m | .inr m=>rO m.2 cap now/\aU9 l id r m.2) ?_ ?_ 0 ((0:Int),[]++l) (by omega) rfl ⟨hl,λy hy=> .inl hy⟩ ?_
 .rintro i ⟨_,m⟩ hlt rfl ⟨g1,g2⟩
  simp only at g1 g2;have hm:=g1.len;obtain⟨b,eb⟩:=bPy (l:=m) (x:=(id,d[i].1,d[i].2.2,r,till)) (cap:=cap) (now:=now) (by omega);simp only[zX (show (i:Int)<(d.length:Int) by omega),zX (show (0:Int)<=(i:Int) by omega),zZ,bWs,bWl hlt,aA,eb,fJ (show i<=1000000000 by omega)];cases b with
  | true=>exact .inr ⟨_,rfl,rfl,g1.admR _,λy hy=>(bNc hy).elim (g2 y) λe=> .inr (by rw[e];exact⟨rfl,rfl⟩)⟩
  | false=>exact .inl ⟨_,rfl,hl,λy hy=> .inl hy⟩
 .rintro⟨_,m⟩ rfl ⟨g1,g2⟩
  exact⟨.inl m,by simp only[zW (bXu _),zY],g1,g2⟩
 .rintro (m | ⟨b,m⟩) ⟨hm,h2⟩
  .exact⟨_,m,rfl,hm,h2⟩
  .exact⟨b,m,rfl,hm,h2⟩
def aJw(w:den tNw)(f:den tFl):Bool:= !lR f|| !cG (nT w) f.1|| !cG (nT w) f.2.1||(f.2.2.2.1 != 0)||decide (((aB w).length:Int)>=4)||decide (cN (aL w) f.2.1 f.1>=0)
def bN4(f:den tFl)(l:lPt)(now:Int):den tFl:=(f.1,f.2.1,f.2.2.1,f.2.2.2.1,f.2.2.2.2.1,aKp f l now,0,0,f.2.2.2.2.2.2.2.2)
def bSs(w:den tNw)(f:den tFl)(l:lPt):den tNw:=(nT w,nK w,nG w,aH w,aJ w,aE w,aB w++[bN4 f l (aH w)],aL w++[(f.2.1,f.1,0,[])],dO w)
def bNg(w:den tNw)(b:Bool):q18:=
 ((nG w).1,aH w,dO w,b,(nT w).1,(nT w).2,(nK w).1,(nK w).2,(nG w).2.1,(nG w).2.2,aJ w,aE w,aB w,aL w)
theorem bNi{w:den tNw}{f:den tFl}{l:lPt}(hw:tot tNw w<=1073741824)(hf:tot tFl f<=1073741824)(hl:tot (.sl tPt) l<=1073741824)(el:lJ (nT w) (nK w) f.1 f.2.1 (aH w)=some l):
  uR w f=some (bNg (if aJw w f then w else bSs w f l) (!aJw w f)):=by
 have sw:SmB 68719476736 tNw w:=(cF hw).mono (by decide);have sf:SmB 68719476736 tFl f:=(cF hf).mono (by decide);have n1:w.1.1.length<=68719476736:=sw.1.1.1;have n2:w.2.2.2.2.2.2.2.1.length<=1073741824:=(cF hw).2.2.2.2.2.2.2.1.1;have n3:w.2.2.2.2.2.2.1.length<=1073741824:=(cF hw).2.2.2.2.2.2.1.1;have el:lJ w.1 w.2.1 f.1 f.2.1 w.2.2.2.1=some l:=el;have a1:aP 120 w.2.2.2.2.2.2.1.length 1=true:=aG (by decide) (by omega);have a2:aP 48 w.2.2.2.2.2.2.2.1.length 1=true:=aG (by decide) (by omega);unfold uR aJw bQ pj2 pj4 pj9 xD dD eV eX zz4 zz5 zz6 zz7 zz8 zz9;simp only[bE,bP1 sw,aUv sf,aDn n1,bO7 (show w.2.2.2.2.2.2.2.1.length<=68719476736 by omega),el,bUt hf hl,bTj,aA,aPv,a1,a2,zZ];cases lR f
 .rfl
 cases cG w.1 f.1
 .rfl
 cases cG w.1 f.2.1
 .rfl
 cases f.2.2.2.1 != 0 with
 | true=>rfl
 | false=>cases decide ((w.2.2.2.2.2.2.1.length:Int)>=4) with
  | true=>rfl
  | false=>cases decide (cN w.2.2.2.2.2.2.2.1 f.2.1 f.1>=0)<;>rfl
theorem bMa{x y:den tPt}{l:lPt}(h:y∈aGx x l):y=x\/y∈l:=by
 unfold aGx at h;simp only[bWq,bWp]at h;rcases h with (h | h) | h
 .exact .inr (bX8 h)
 .exact .inl h
 .exact .inr (bYa h)
theorem bGr{y:den tPt}{l:lPt}(h:y∈aEp l):y∈l:=by
 have :∀(l:lPt) (k:Nat) (a:lPt),y∈bN (λ_ x a=>aGx x a) k l a->y∈l\/y∈a:=by
  intro l
  induction l with
  | nil=>exact λk a h=> .inr h
  | cons x l ih=>
   intro k a h;rcases ih (k+1) (aGx x a) h with h | h
   .exact .inl (bWo _ h)
   .rcases bMa h with rfl | h
    .exact .inl (by simp)
    .exact .inr h
 rcases this l 0 [] h with h | h
 .exact h
 .exact (bW7 h).elim
theorem aEm{f:den tFl}{y:den tPt}{l:lPt}{now:Int}(h:y∈aKp f l now):y∈l:=by
 unfold aKp aFt at h;have h:=bX8 h;simp only[bWq,bWy]at h;rcases h with h | h<;>exact bGr h.1
structure FlD (t:den tTo) (f:den tFl):Prop where
 val:lR f=true
 src:cG t f.1=true
 dst:cG t f.2.1=true
 ack:f.2.2.2.1=(0:Int)
 cur:f.2.2.2.2.2.2.1=(0:Int)
 wait:f.2.2.2.2.2.2.2.1=(0:Int)
 rev:f.2.2.2.2.2.2.2.2=[]
 paths:aOo 4 f.2.2.2.2.2.1
 msgs:tot (.sl tMs) f.2.2.2.2.1<=12
 bytes:∀m∈f.2.2.2.2.1,tI m
 ends:∀p∈f.2.2.2.2.2.1,zE p=some f.1/\vE p=some f.2.1
def bV1(t:den tTo)(x:den tSg):Prop:=aKn x.2.2/\aQf t x 2
def bWa(t:den tTo)(x:den tSg):Prop:=aKn x.2.2/\ ∃k,aQf t x k/\k≠2
def aT0(t:den tTo)(d c:lSg):Prop:=(∀x∈d,bV1 t x)/\ ∀x∈c,bWa t x
structure nV (n:Nat) (w:den tNw):Prop where
 top:aDd (nT w).1 (nT w).2
 db:DbD 11 (nK w).1 (nK w).2
 gate:nG w=(12,(nG w).2.1,[])
 res:rO (nG w).2.1 12 60
 now:aH w=60
 dead:aJ w=[]
 fly:aE w=[]
 drop:dO w=0
 len:(aB w).length<=n
 flows:∀f∈aB w,FlD (nT w) f
 box:aL w=(aB w).map λf=>((f.2.1,f.1,0,[]):den tIb)
 uniq:(aB w).Pairwise λf g=>rL g f=false
 low:∀x∈(nG w).2.1,(3:Int)>=x.1/\(2:Int)>=x.2.2.2.1
 segs:aT0 (nT w) (nK w).1 (nK w).2
 find:∀f∈aB w,∀p∈f.2.2.2.2.2.1,p∈aEx (nT w) (nK w) f.1 f.2.1 60
theorem FlD.tot{t:den tTo}{f:den tFl}(h:FlD t f):tot tFl f<=100:=by
 obtain⟨a,b,c,d,ms,ps,cu,wa,rv⟩:=f;rw[aC4];have h1:=h.msgs;have h2:=aR4 h.paths;have h3:rv=[]:=h.rev;rw[h3];simp only at h1 h2;simp only[bYc];omega
theorem aZx{s:den tSg}(h:s.2.2.length<=5):tot tSg s<=5:=by
 have e:tot tSg s=s.2.2.length:=by
  show 0+(0+tot (.sl aR) s.2.2)=_;rw[jH rfl];omega
 omega
theorem nV.tot{n:Nat}{w:den tNw}(hn:n<=4)(h:nV n w):Go.V.tot tNw w<=1000:=by
 rw[iL];have h1:=h.top.len;have h2:=h.top.links;have h3:=xV (t:=tSg) (B:=5) (l:=(nK w).1) λx hx=>aZx (h.db.hd x hx)
 have h4:=xV (t:=tSg) (B:=5) (l:=(nK w).2) λx hx=>aZx (h.db.hc x hx)
 have h5:=xV (t:=tFl) (B:=100) (l:=aB w) λf hf=>(h.flows f hf).tot
 have h6:=h.db.down;have h7:=h.db.core;have h8:=h.len;have h9:=h.res.len;have h10:(nG w).2.2=[]:=by rw[h.gate]
 have h11:Go.V.tot (.sl tIb) (aL w)<=(0+1) * (aL w).length:=xV (t:=tIb) λx hx=>by
  rw[h.box]at hx;obtain⟨f,_,rfl⟩:=bWr.1 hx;exact bWx _
 have h12:(aL w).length=(aB w).length:=by rw[h.box,bXe]
 rw[h.dead,h.fly,h10,aAi,aAi,aAi,jH (t:=tAS) rfl,jH (t:=tLk) rfl,jH (t:=tRs) rfl];omega
theorem nV.mono{n m:Nat}{w:den tNw}(h:nV n w)(hm:n<=m):nV m w:=⟨h.top,h.db,h.gate,h.res,h.now,h.dead,h.fly,h.drop,bWk h.len hm,h.flows,h.box,h.uniq,h.low,h.segs,h.find⟩
def bTp(w:den tNw)(c:List Int)(p h:Int):q19:=
 ((nG w).1,aH w,dO w,(nT w).1,(nT w).2,(nK w).1,(nK w).2,(nG w).2.1,(nG w).2.2,aJ w,aE w,aB w,aL w,c,p,h)
abbrev NwS:=Int×lSg×lSg×Int×Int×Int×lRs×lAS×lLk×lSg×lSg×lUs×lI×lFy×lFl×lIb×lI×Int×Int
abbrev NwR:=Int×Int×Int×lRs×lAS×lLk×lSg×lSg×lUs×lI×lFy×lFl×lIb×lI×Int×Int
def NwI(code:List Int)(n:Nat)(s:NwS):Prop:= ∃as ls d cc res flows box c p h,s=((n:Int),d,cc,12,60,0,res,as,ls,d,cc,[],[],[],flows,box,c,p,h)/\n<=3/\nV (3 - n) ((as,ls),(d,cc),(12,res,[]),60,[],[],flows,box,0)/\Cur code (c,p,h)
def NwQ(code:List Int)(r:NwR):Prop:= ∃as ls d cc res flows box c p h,r=(12,60,0,res,as,ls,d,cc,[],[],[],flows,box,c,p,h)/\nV 3 ((as,ls),(d,cc),(12,res,[]),60,[],[],flows,box,0)/\Cur code (c,p,h)
theorem bLz{t:den tTo}{f:den tFl}{l:lPt}{now:Int}{n:Nat}(hn:n<=4)(hv:lR f=true)(hs:cG t f.1=true)(hd:cG t f.2.1=true)(hk:f.2.2.2.1=(0:Int))(hr:f.2.2.2.2.2.2.2.2=[])(hm:tot (.sl tMs) f.2.2.2.2.1<=12)(hb:∀m∈f.2.2.2.2.1,tI m)(hl:aJb f.1 f.2.1 24 l):
  FlD t (f.1,f.2.1,f.2.2.1,f.2.2.2.1,f.2.2.2.2.1,(aKp f l now).take n,0,0,f.2.2.2.2.2.2.2.2) where
 val:=by
  rw[lS]at hv ⊢;obtain⟨q1,q2,q3,q4,q5,q6,q7,q8,q9,q10,q11,q12⟩:=hv;exact⟨q1,q2,q3,q4,q5,q6,by simp only[bXw];omega,q8,q9,.inl rfl,rfl,q12⟩
 src:=hs
 dst:=hd
 ack:=hk
 cur:=rfl
 wait:=rfl
 rev:=hr
 paths:=⟨by simp only[bXw];omega,λp hp=>(hl.2 p (aEm (bX8 hp))).1⟩
 msgs:=hm
 bytes:=hb
 ends:=λp hp=>(hl.2 p (aEm (bX8 hp))).2
theorem bC0{l:lIb}{a b:Int}(h:decide (cN l a b>=0)=false):∀x∈l,mY a b x=false:=by
 have h:=of_decide_eq_false h;unfold cN at h;cases e:l.findIdx? (mY a b) with
 | none=>exact λx hx=>by simpa using List.findIdx?_eq_none_iff.1 e x hx
 | some i=>rw[e]at h;exact absurd (show (0:Int)<=((0+i:Nat):Int) by omega) h
def bKc(code:List Int)(o:Option q19):Prop:= ∃w c' p' h',o=some (bTp w c' p' h')/\nV 3 w/\Cur code (c',p',h')
theorem bQo{code:List Int}(hl:code.length<=1048576){c:List Int}{p h:Int}(hc:Cur code (c,p,h)):bKc code (vY (c,p,h)):=by
 obtain⟨as,ls,c1,p1,h1,e1,ht,k1⟩:=bQ9 hl hc;obtain⟨v2,c2,p2,h2,e2,r2,k2⟩:=dQ hl (n:=7) (by decide) (by decide) k1;obtain⟨m2,rfl⟩:=bXs r2.1;have w2:wr ((5:Int)+(m2:Int))=((m2+5:Nat):Int):=by rw[bD (by omega) (by omega)];omega
 unfold vY dd ixb one bKb bSr pj3 pj4 pj5 pj7 pj8 dD eV eX qG aHo aMu aNb zz4 zz5 zz6 zz7 zz8 zz9;simp only[cC,eG,dC,dA,dH,e1,e2,aA,w2];refine xZ (G:=bKc code) (λ(n:Nat) (s:Int×q28)=> ∃d cc c p h,s=((n:Int),as,ls,d,cc,c,p,h)/\n<=11/\DbD (11 - n) d cc/\aT0 (as,ls) d cc/\Cur code (c,p,h)) (λr:lAS×lLk×lSg×lSg×lI×Int×Int=> ∃d cc c p h,r=(as,ls,d,cc,c,p,h)/\DbD 11 d cc/\aT0 (as,ls) d cc/\Cur code (c,p,h)) ?_ (m2+5) (((m2+5:Nat):Int),as,ls,[],[],c2,p2,h2) ⟨[],[],c2,p2,h2,rfl,by omega,⟨by simp,by simp,λx hx=>(bW7 hx).elim,λx hx=>(bW7 hx).elim,λx hx=>(bW7 hx).elim⟩,⟨λx hx=>(bW7 hx).elim,λx hx=>(bW7 hx).elim⟩,k2⟩ ?_
 .rintro n s ⟨d,cc,c3,p3,h3,rfl,hn,hk,hseg,k3⟩
  cases n with
  | zero=>exact .inl ⟨_,rfl,d,cc,c3,p3,h3,rfl,hk,hseg,k3⟩
  | succ n=>
   right;obtain⟨v4,c4,p4,h4,e4,k4⟩:=aAn hl (n:=3) (by decide) (by decide) k3;have wn:wr (((n+1:Nat):Int) - 1)=(n:Int):=by rw[bD (by omega) (by omega)];omega
   have step:∀kind:Int,∃d' cc' c' p' h',(Option.bind (vI (c4,p4,h4) (as,ls) kind) λy58=>Option.bind (sM (as,ls) (y58.1,y58.2.1,y58.2.2.1)) λy59=>Option.bind (mS (as,ls) (d,cc) y59) λy60=>some (y60.1,y60.2,y58.2.2.2.1,y58.2.2.2.2.1,y58.2.2.2.2.2))=some (d',cc',c',p',h')/\DbD (11 - n) d' cc'/\aT0 (as,ls) d' cc'/\Cur code (c',p',h'):=by
    intro kind;obtain⟨a5,b5,hs5,c5,p5,h5,e5,⟨l5,i5⟩,k5⟩:=bQ7 hl ht kind k4;obtain⟨hs6,e6,l6,i6,j6⟩:=bIs (as:=as) (ls:=ls) (s:=(a5,b5,hs5)) l5 i5;obtain⟨d7,cc7,e7,q7,m7,n7⟩:=bJf ht (n:=11 - (n+1)) (by omega) hk (s:=(a5,b5,hs6)) l6 (i6.as (by have :=ht.len;omega));refine⟨d7,cc7,c5,p5,h5,?_,q7.mono (by omega),⟨λx hx=>(m7 x hx).elim (hseg.1 x) λe=>by rw[e.1];exact⟨j6,e.2⟩,λx hx=>(n7 x hx).elim (hseg.2 x) λe=>by rw[e.1];exact⟨j6,e.2⟩⟩,k5⟩;simp only[e5,e6,e7,aA]
   simp only[zX (show ((n+1:Nat):Int)>0 by omega),zZ,e4,aA];cases v4 with
   | true=>
    obtain⟨d',cc',c',p',h',e,q,sg,k⟩:=step 1;refine⟨n,_,by omega,?_,d',cc',c',p',h',rfl,by omega,q,sg,k⟩;simp only[zZ,aA,e,wn]
   | false=>
    obtain⟨d',cc',c',p',h',e,q,sg,k⟩:=step 2;refine⟨n,_,by omega,?_,d',cc',c',p',h',rfl,by omega,q,sg,k⟩;simp only[zY,aA,e,wn]
 rintro r ⟨d,cc,c3,p3,h3,rfl,hk,hseg,k3⟩
 obtain⟨v4,c4,p4,h4,e4,r4,k4⟩:=dQ hl (n:=3) (by decide) (by decide) k3;obtain⟨m4,rfl⟩:=bXs r4.1;have w4:wr ((1:Int)+(m4:Int))=((m4+1:Nat):Int):=by rw[bD (by omega) (by omega)];omega
 have hA:=ht.len;have hL:=ht.links;have smT:SmB 68719476736 tTo (as,ls):=⟨⟨by show as.length<=_;omega,λ_ _=>⟨trivial,trivial,trivial⟩⟩,by show ls.length<=_;omega,λ_ _=>⟨trivial,trivial,trivial,trivial,trivial⟩⟩
 have smK:SmB 68719476736 tDb (d,cc):=⟨aK0 (by omega) hk.down hk.hd,aK0 (by omega) hk.core hk.hc⟩
 have hok:aUe (as,ls) 60=true:=by unfold aUe;rw[ht.top];rfl
 have e5:=bT9 (t:=(as,ls)) (k:=(d,cc)) (c:=12) (now:=60) smT smK;rw[hok,zZ]at e5;simp only[e5,e4,w4,aA];have cap12:cond (inR 12 1 20) (12:Int) 1=12:=rfl;simp only[cap12];refine xZ (G:=bKc code) (NwI code) (NwQ code) ?_ (m4+1) (((m4+1:Nat):Int),d,cc,12,60,0,[],as,ls,d,cc,[],[],[],[],[],c4,p4,h4) ⟨as,ls,d,cc,[],[],[],c4,p4,h4,rfl,by omega,⟨ht,hk,rfl,⟨by simp,λx hx=>(bW7 hx).elim,λx hx=>(bW7 hx).elim,List.Pairwise.nil⟩,rfl,rfl,rfl,rfl,bW3 _,λx hx=>(bW7 hx).elim,rfl,List.Pairwise.nil,λx hx=>(bW7 hx).elim,hseg,λx hx=>(bW7 hx).elim⟩,k4⟩ ?_
 rotate_left
 .rintro r ⟨as,ls,d,cc,res,flows,box,c5,p5,h5,rfl,hd,k5⟩
  exact⟨_,c5,p5,h5,rfl,hd,k5⟩
 .rintro n s ⟨as,ls,d,cc,res,flows,box,c5,p5,h5,rfl,hn,hd,k5⟩
  cases n with
  | zero=>exact .inl ⟨_,rfl,as,ls,d,cc,res,flows,box,c5,p5,h5,rfl,hd,k5⟩
  | succ n=>
   right;obtain⟨a6,b6,c6,p6,h6,e6,⟨ra6,rb6⟩,k6⟩:=bQs hl (by decide) hd.db k5;obtain⟨v7,c7,p7,h7,e7,m7,k7⟩:=bQa hl (l:=[(0:Int),(0:Int),((n+1:Nat):Int)]) (by simp) (by simp) k6;obtain⟨v8,c8,p8,h8,e8,r8,k8⟩:=dQ hl (n:=3) (by decide) (by decide) k7;obtain⟨m8,rfl⟩:=bXs r8.1;have w8:wr ((1:Int)+(m8:Int))=((m8+1:Nat):Int):=by rw[bD (by omega) (by omega)];omega
   have wn:wr (((n+1:Nat):Int) - 1)=(n:Int):=by rw[bD (by omega) (by omega)];omega
   have enf:∀a b c:Int,wE a b c=some (a,b,c,0,0,0,[],[],[]):=λ_ _ _=>rfl
   simp only[zX (show ((n+1:Nat):Int)>0 by omega),zZ,e6,e7,enf,e8,w8,wn,aA,Option.bind_assoc];refine xZ (G:=λo=> ∃m s',m<n+1/\o=some (bWi s')/\NwI code m s') (λ(n:Nat) (s:Int×Int×Int×Int×Int×Int×Int×lMs×lPt×lRv×List Int×q17)=> ∃ms c p h,s=((n:Int),a6,b6,v7,0,0,0,ms,[],[],c,p,h)/\n<=3/\tot (.sl tMs) ms+4 * n<=12/\(∀m∈ms,tI m)/\Cur code (c,p,h)) (λs:Int×Int×Int×Int×Int×Int×lMs×lPt×lRv×List Int×Int×Int=> ∃ms c p h,s=(a6,b6,v7,0,0,0,ms,[],[],c,p,h)/\tot (.sl tMs) ms<=12/\(∀m∈ms,tI m)/\Cur code (c,p,h)) ?_ (m8+1) (((m8+1:Nat):Int),a6,b6,v7,(0:Int),(0:Int),(0:Int),[],[],[],c8,p8,h8) ⟨[],c8,p8,h8,rfl,by omega,by rw[aAi];omega,λm hm=>(bW7 hm).elim,k8⟩ ?_
   .rintro i s ⟨ms,c9,p9,h9,rfl,hi,hm,hb,k9⟩
    cases i with
    | zero=>exact .inl ⟨_,rfl,ms,c9,p9,h9,rfl,by omega,hb,k9⟩
    | succ i=>
     right;obtain⟨v10,c10,p10,h10,e10,r10,k10⟩:=dQ hl (n:=3) (by decide) (by decide) k9;obtain⟨m10,rfl⟩:=bXs r10.1;obtain⟨l11,c11,p11,h11,e11,⟨r11,b11⟩,k11⟩:=bJi hl (n:=m10) (by omega) k10;have hf:tot tFl (a6,b6,v7,0,ms,[],0,0,[])<=1000:=by rw[aC4];show _+0+0<=_;omega
     have en:=bU1 (f:=(a6,b6,v7,0,ms,[],0,0,[])) (b:=l11) ((cF (B:=1000) hf).mono (by decide)) ⟨by omega,λe he=>trivial⟩;have wi:wr (((i+1:Nat):Int) - 1)=(i:Int):=by rw[bD (by omega) (by omega)];omega
     simp only[zX (show ((i+1:Nat):Int)>0 by omega),zZ,e10,e11,en,aA,wi];unfold bMw;split
     .refine⟨i,_,by omega,rfl,ms++[l11],c11,p11,h11,rfl,by omega,?_,?_,k11⟩
      .rw[rF,bAl];omega
      .intro m hm;rcases bWq.1 hm with hm | hm
       .exact hb m hm
       .rw[bWp.1 hm];exact b11
     .exact⟨i,_,by omega,rfl,ms,c11,p11,h11,rfl,by omega,by omega,hb,k11⟩
   rintro r ⟨ms,c9,p9,h9,rfl,hm,hb,k9⟩
   obtain⟨l10,e10,hl10⟩:=bVv hd.top (hd.db.mono (by decide)) ra6.1 rb6.1 60;have el10:l10=aEx (as,ls) (d,cc) a6 b6 60:=by
    have e11:=aY6 (t:=(as,ls)) (k:=(d,cc)) (bWk (show as.length<=8 from hd.top.len) (by decide)) (bWk (show ls.length<=100 from hd.top.links) (by decide)) (hd.db.s (by decide)) a6 b6 60;exact Option.some.inj (e10.symm.trans e11)
   have tf:tot tFl (a6,b6,v7,0,ms,[],0,0,[])<=1073741824:=by rw[aC4];show _+0+0<=_;omega
   have ea:=bNi (w:=((as,ls),(d,cc),(12,res,[]),60,[],[],flows,box,0)) (f:=(a6,b6,v7,0,ms,[],0,0,[])) (l:=l10) (bWk (hd.tot (by omega)) (by decide)) tf (bWk (aR4 hl10.d) (by decide)) e10;cases hbad:aJw ((as,ls),(d,cc),(12,res,[]),60,[],[],flows,box,0) (a6,b6,v7,0,ms,[],0,0,[]) with
   | true=>
    rw[hbad]at ea;simp only[zV,bWw]at ea;simp only[ea,aA,bNg,zY];exact⟨n,_,by omega,rfl,as,ls,d,cc,res,flows,box,c9,p9,h9,rfl,by omega,hd.mono (by omega),k9⟩
   | false=>
    rw[hbad]at ea;simp only[bWz,zU,bW1]at ea;simp only[ea,aA,bNg,bSs,zZ];unfold aJw at hbad;simp only[bYo,Bool.not_eq_false']at hbad;obtain⟨⟨⟨⟨⟨b1,b2⟩,b3⟩,b4⟩,b5⟩,b6'⟩:=hbad;have hnone:=bC0 b6';have hfl:(flows.length:Int)<4:=by have h5: ¬ ((flows.length:Int)>=4):=of_decide_eq_false b5;omega
    have hfl':flows.length<=3 - (n+1):=hd.len;generalize hg:bN4 (a6,b6,v7,0,ms,[],0,0,[]) l10 60=g;have hL:((flows++[g]).length:Int)=((flows.length+1:Nat):Int):=by simp
    have wl:wr (((flows.length+1:Nat):Int) - 1)=(flows.length:Int):=by rw[bD (by omega) (by omega)];omega
    have hx:(flows++[g])[flows.length]? =some g:=by simp
    have hset:∀y,(flows++[g]).set flows.length y=flows++[y]:=λy=>by simp
    have hlt:flows.length<(flows++[g]).length:=by simp
    obtain⟨m,em,hm1,hm4⟩:∃m:Nat,(if (4:Int)<(g.2.2.2.2.2.1.length:Int) then (4:Int) else (g.2.2.2.2.2.1.length:Int))=(m:Int)/\m<=g.2.2.2.2.2.1.length/\m<=4:=by
     by_cases h4:(4:Int)<(g.2.2.2.2.2.1.length:Int)
     .exact⟨4,by rw[zT h4];rfl,by omega,by omega⟩
     .exact⟨g.2.2.2.2.2.1.length,by rw[zS h4],bWx _,by omega⟩
    have hmem:∀y∈g.2.2.2.2.2.1,jF y:=λy hy=>by
     rw[<- hg]at hy;exact (hl10.2 y (aEm hy)).1
    simp only[hL,wl,zX (show (0:Int)<=(flows.length:Int) by omega),zX (show (flows.length:Int)<((flows.length+1:Nat):Int) by omega),zZ,bWs,hx,aA,bNl,em,aKl hm1,jP,zX hlt,hset];have fin:∀res' c p h,rO res' 12 60->(∀x∈res',(3:Int)>=x.1/\(2:Int)>=x.2.2.2.1)->Cur code (c,p,h)->NwI code n ((n:Int),d,cc,12,60,0,res',as,ls,d,cc,[],[],[],flows++[(g.1,g.2.1,g.2.2.1,g.2.2.2.1,g.2.2.2.2.1,List.take m g.2.2.2.2.2.1,g.2.2.2.2.2.2.1,g.2.2.2.2.2.2.2.1,g.2.2.2.2.2.2.2.2)],box++[(b6,a6,0,[])],c,p,h):=by
     intro res' c p h hr hlow hc;have hF:FlD (as,ls) (g.1,g.2.1,g.2.2.1,g.2.2.2.1,g.2.2.2.2.1,List.take m g.2.2.2.2.2.1,g.2.2.2.2.2.2.1,g.2.2.2.2.2.2.2.1,g.2.2.2.2.2.2.2.2):=by
      rw[<- hg];exact bLz (f:=(a6,b6,v7,0,ms,[],0,0,[])) hm4 b1 b2 b3 rfl rfl hm hb hl10
     have ge1:g.1=a6:=by rw[<- hg];rfl
     have ge2:g.2.1=b6:=by rw[<- hg];rfl
     refine⟨as,ls,d,cc,res',_,_,c,p,h,rfl,by omega,⟨hd.top,hd.db,rfl,hr,rfl,rfl,rfl,rfl,?_,?_,?_,?_,hlow,hd.segs,?_⟩,hc⟩
     .show (flows++[_]).length<=_;simp;omega
     .intro f hf;rcases bWq.1 hf with hf | hf
      .exact hd.flows f hf
      .rw[bWp.1 hf];exact hF
     .show box++[_]=(flows++[_]).map _;rw[bX6,<- show box=flows.map (λf=>((f.2.1,f.1,0,[]):den tIb)) from hd.box];simp only[bW2,List.map_nil,ge1,ge2]
     .show (flows++[_]).Pairwise _;rw[List.pairwise_append];refine⟨hd.uniq,List.pairwise_singleton _ _,λx hx y hy=> ?_⟩;rw[bWp.1 hy];have hbx:((x.2.1,x.1,0,[]):den tIb)∈box:=by
       rw[show box=flows.map (λf=>((f.2.1,f.1,0,[]):den tIb)) from hd.box];exact bWr.2 ⟨x,hx,rfl⟩
      have :=hnone _ hbx;unfold mY at this;unfold rL;rw[Bool.and_comm];simp only[ge1,ge2];exact this
     .intro f hf;rcases bWq.1 hf with hf | hf
      .exact hd.find f hf
      .rw[bWp.1 hf];intro y hy;have hy:y∈g.2.2.2.2.2.1:=bX8 hy;show y∈aEx (as,ls) (d,cc) g.1 g.2.1 60;rw[ge1,ge2,<- el10];rw[<- hg]at hy;exact aEm hy
    by_cases hm0:m=0
    .subst hm0;simp only[show decide (((0:Nat):Int)>0)=false from rfl,zY,aA];exact⟨n,_,by omega,rfl,fin res c9 p9 h9 hd.res hd.low k9⟩
    .simp only[zX (show (m:Int)>0 by omega),zZ,aA];cases hgt:decide (g.2.2.1>(0:Int)) with
     | false=>
      simp only[zY,aA];exact⟨n,_,by omega,rfl,fin res c9 p9 h9 hd.res hd.low k9⟩
     | true=>
      have hp:idx (List.take m g.2.2.2.2.2.1) (0:Int)=some (g.2.2.2.2.2.1[0]'(by omega)):=by
       rw[show (0:Int)=((0:Nat):Int) from rfl,aO,bXv,zT (by omega)];exact bWl _
      obtain⟨v11,c11,p11,h11,e11,r11,k11⟩:=dQ hl (n:=2) (by decide) (by decide) k9;obtain⟨b12,m12,e12,q12,n12⟩:=aXy hd.res (hmem _ (bXt (show 0<g.2.2.2.2.2.1.length by omega))) g.2.2.1 (wr ((1:Int)+v11)) 4000;simp only[zZ,hp,e11,e12,aA,cC,eG,dC,dA,dH];exact⟨n,_,by omega,rfl,fin m12 c11 p11 h11 q12 (λx hx=>(n12 x hx).elim (hd.low x) λe=>by
       rw[e.1,e.2];have g7:g.2.2.1=v7:=by rw[<- hg];rfl
       rw[g7];simp only[bWm,bW7,or_false]at m7;have w11:wr ((1:Int)+v11)=1+v11:=bD (by omega) (by omega);rw[w11];have h3:v7<=(3:Int):=by
        rcases m7 with e | e | e<;>rw[e]<;>omega
       exact⟨h3,(show (1+v11:Int)<=2 by omega)⟩) k11⟩
def aKv(w:den tNw)(l:List Int):den tNw:=(nT w,nK w,nG w,aH w,l,aE w,aB w,aL w,dO w)
def aEa(w:den tNw)(i:Nat):den tNw:=bF w ((aE w).take i++(aE w).drop (i+1))
def aF7(m:Nat)(dead:List Int)(i:Int)(b:Bool):List Int:=((List.range m).map λk:Nat=>((k:Nat):Int)).filter λk:Int=>(qO dead k&&(k != i))||(b&&(k==i))
def aZc(w:den tNw)(i:Int)(b:Bool):Bool:=(qO (aJ w) i==b)|| !inR i 0 (((nT w).2.length:Int) - 1)
def vW(w:den tNw)(i:Int)(b:Bool):den tNw:=if aZc w i b then w else aKv w (aF7 (nT w).2.length (aJ w) i b)
def aEz(f:den tFl)(b:List Int):den tFl:=if lR (enq f b) then enq f b else f
def doW(w:den tNw)(e:den pG):Bool×den tNw:=
 if e.1==1 then (!decide (aH w>=1000000),cJ w)
 else if e.1==2 then (match inR e.2.1 0 (((aE w).length:Int) - 1),(aE w)[e.2.1.toNat]? with
  | true,some x=>(true,cO (aEa w e.2.1.toNat) x.1 x.2.1 x.2.2)
  | _,_=>(false,w))
 else if e.1==3 then (if inR e.2.1 0 (((aE w).length:Int) - 1) then (true,rX (aEa w e.2.1.toNat)) else (false,w))
 else if e.1==4 then (match inR e.2.1 0 (((aE w).length:Int) - 1)&& !decide (((aE w).length:Int)>=150),(aE w)[e.2.1.toNat]? with
  | true,some x=>(true,bF w (aE w++[x]))
  | _,_=>(false,w))
 else if e.1==5||e.1==6 then (!aZc w e.2.1 (e.1==5),vW w e.2.1 (e.1==5))
 else if e.1==7 then (if cG (nT w) e.2.2.2.1&& !decide (((aE w).length:Int)>=150) then (true,bF w (aE w++[e.2.2.2])) else (false,w))
 else if e.1==8 then (match inR e.2.1 0 (((aB w).length:Int) - 1),(aB w)[e.2.1.toNat]? with
  | true,some f=>(lR (enq f e.2.2.1),bK w ((aB w).set e.2.1.toNat (aEz f e.2.2.1)))
  | _,_=>(false,w))
 else (false,w)
theorem aYg{B F:Nat}{w:den tNw}{r inn:Int}{p:den tPk}(hk:eY B F w)(hp:iY p):eY (B+(160+F)) F (cO w r inn p):=by
 obtain⟨h1,h2⟩:=aGj hk.bytes hp (r:=r) (inn:=inn);have h3:=aNn w r inn p;have :=hk.flows;have :=hk.tot;exact⟨by omega,by rw[h2];exact hk.flows,h1⟩
theorem aYy{B F:Nat}{w:den tNw}{l:lFy}(hk:eY B F w)(hl:tot (.sl tFy) l<=tot (.sl tFy) (aE w))(hb:∀x∈l,iY x.2.2):eY B F (bF w l):=by
 have h1:=aGs w l;have :=hk.tot;exact⟨by omega,hk.flows,⟨hb,hk.bytes.msg⟩⟩
theorem aNs{B F:Nat}{w:den tNw}(hk:eY B F w)(i:Nat):eY B F (aEa w i):=by
 refine aYy hk ?_ λx hx=>hk.bytes.fly x ?_
 .have h1:=rF (t:=tFy) ((aE w).take i) ((aE w).drop i);rw[bX0]at h1;rw[rF,h1];have :tot (.sl tFy) ((aE w).drop (i+1))<=tot (.sl tFy) ((aE w).drop i):=by
   cases h:(aE w).drop i with
   | nil=>
    have :(aE w).drop (i+1)=[]:=by rw[<- List.drop_drop,h];rfl
    rw[this];exact bWx _
   | cons x l=>
    have :(aE w).drop (i+1)=l:=by rw[<- List.drop_drop,h];rfl
    rw[this,iU];omega
  omega
 .rcases bWq.1 hx with hx | hx
  .exact bX8 hx
  .exact bYa hx
def bOp(p:den tPt):Prop:=bW0 (α:=den tPp) p<=4/\ ∀x:den tPp,x∈(show lPp from p)->x.2.2.2.length<=5
theorem bOp.set{p:lPp}(h:jF p){i:Nat}{x:den tPp}(hx:x.2.2.2.length<=5):bOp (p.set i x):=by
 refine⟨by have :=h.1;show (p.set i x).length<=4;rw[bYb];omega,λy hy=> ?_⟩;rcases bZw (show y∈p.set i x from hy) with hy | rfl
 .exact h.2 y hy
 .exact hx
structure EvD (w:den tNw) (e:den pG):Prop where
 lo:(1:Int)<=e.1
 hi:(8:Int)>=e.1
 data:e.2.2.1.length<=3/\tI e.2.2.1
 pk:tot tPk e.2.2.2.2.2<=1100/\iY e.2.2.2.2.2
 harm:harm w e=true
structure EvS (e:den pG):Prop where
 data:e.2.2.1.length<=3/\tI e.2.2.1
 pk:tot tPk e.2.2.2.2.2<=1100/\iY e.2.2.2.2.2
theorem EvD.s{w:den tNw}{e:den pG}(h:EvD w e):EvS e:=⟨h.data,h.pk⟩
theorem aZ7{s d now now':Int}(hn:now<=now'):∀{l:lRs},(∀x∈l,(0:Int)<=x.2.2.2.1/\(20:Int)>=x.2.2.2.1)->rs s d now' l<=rs s d now l
 | [],_=>bXl _
 | x::l,h=>by
  have ih:=aZ7 (s:=s) (d:=d) hn (l:=l) λy hy=>h y (bWo _ hy)
  have hx:=h x (by simp);unfold rs
  by_cases c:now'<=x.2.2.2.2
  .rw[zX c,zX (show now<=x.2.2.2.2 from bX4 hn c)];split<;>omega
  .rw[zW c,bYu];simp only[bWz,zU];split<;>omega
theorem rO.later{l:lRs}{cap now now':Int}(h:rO l cap now)(hn:now<=now'):rO l cap now':=
 ⟨h.len,h.val,λx hx=>bX4 (aZ7 hn (rQ h.val)) (h.rate x hx),h.pw⟩
theorem OkS.tick{g:den tSc}{now now':Int}(h:OkS g now)(hn:now<=now'):OkS (g.1,sV g.2.1 now',[]) now':=
 ⟨h.lo,h.hi,(h.res.later hn).filter _,λj x hx=>by simp at hx⟩
structure bG (w w':den tNw):Prop where
 top:nT w'=nT w
 now:aH w'=aH w
 gate:OkS (nG w) (aH w)->OkS (nG w') (aH w')
 fly:∀x∈aE w',x∈aE w\/tot tPk x.2.2<=1100
 flyN:(aE w).length<=150->(aE w').length<=150
theorem bG.refl(w:den tNw):bG w w:=⟨rfl,rfl,id,λx hx=> .inl hx,id⟩
theorem bG.trans{a b c:den tNw}(h:bG a b)(k:bG b c):bG a c:=
 ⟨k.top.trans h.top,k.now.trans h.now,λhg=>k.gate (h.gate hg),λx hx=>(k.fly x hx).elim (h.fly x) .inr,λhl=>k.flyN (h.flyN hl)⟩
theorem bG.drop(w:den tNw):bG w (rX w):=⟨rfl,rfl,id,λx hx=> .inl hx,id⟩
theorem bG.box(w:den tNw)(i:Nat)(x:den tIb):bG w (mH w i x):=⟨rfl,rfl,id,λx hx=> .inl hx,id⟩
theorem bG.flows(w:den tNw)(l:lFl):bG w (bK w l):=⟨rfl,rfl,id,λx hx=> .inl hx,id⟩
theorem bG.tell(w:den tNw)(r:Int)(p:den tPk):bG w (oQ w r p):=bG.flows w _
theorem bG.send{w:den tNw}{r eg:Int}{p:den tPk}(hp:tot tPk p<=1100):bG w (dS w r eg p):=by
 unfold dS;split
 .rename_i hc;rw[bWj,zR]at hc;refine⟨rfl,rfl,λhg=>hg.trans _ _ _,λx hx=> ?_,λhl=> ?_⟩
  .rcases bWq.1 (show x∈aE w++_ from hx) with hx | hx
   .exact .inl hx
   .have :x=_:=bWp.1 hx;subst this;exact .inr hp
  .show (aE w++_).length<=150;have :=hc.2;simp;omega
 .exact bG.drop w
theorem aLu{t:den tTo}{now:Int}{dead:List Int}{r inn:Int}{p:den tPk}(h:((aD t now dead r inn p).1==0)=true):tot tPk (aD t now dead r inn p).2.2.1<=1100:=by
 have hv:cL p=true:=aEv (t:=t) (r:=r) (now:=now) (dead:=dU t dead r) (inn:=inn) (by
  have h:((fwd t r now (dU t dead r) inn p).1==0)=true:=h;rw[eq_of_beq h];rfl)
 unfold aD;rw[aKz];exact bWk (aCj hv) (by decide)
theorem bG.proc0(w:den tNw)(r inn:Int)(p:den tPk):bG w (proc0 w r inn p):=by
 unfold Go.Proofs.YtnkjolpkcmgcaaaGreat.proc0;split
 .rename_i h;exact bG.send (aLu h)
 .split
  .exact bG.tell w _ _
  .exact bG.drop w
theorem bG.proc(w:den tNw)(r inn:Int)(p:den tPk):bG w (cO w r inn p):=by
 unfold cO;split
 .rename_i h;exact bG.send (aLu h)
 .split
  .split
   .unfold kL;split
    .exact bG.refl w
    .split
     .exact (bG.box w _ _).trans (bG.proc0 _ _ _ _)
     .exact bG.box w _ _
   .exact bG.tell w _ _
  .split
   .unfold nY;split
    .exact (bG.proc0 _ _ _ _).trans (bG.drop _)
    .exact (bG.tell _ _ _).trans (bG.drop _)
   .exact bG.drop w
theorem bG.stepT(k:Nat)(w:den tNw):bG w (stepT k w):=by
 unfold Go.Proofs.YtnkjolpkcmgcaaaGreat.stepT;split
 .split
  .exact (bG.flows w _).trans (bG.proc _ _ _ _)
  .exact bG.flows w _
 .exact bG.refl w
theorem bG.tickL:∀(n k:Nat) (w:den tNw),bG w (tickL k n w)
 | 0,_,w=>bG.refl w
 | n+1,k,w=>(bG.stepT k w).trans (bG.tickL n (k+1) _)
structure qI (t:den tTo) (B k:Nat) (w:den tNw):Prop where
 keep:eY B 4 w
 top:nT w=t
 gate:OkS (nG w) (aH w)
 lo:(0:Int)<=aH w
 hi:aH w<=60+(k:Int)
 fly:∀x∈aE w,tot tPk x.2.2<=1100
 flyN:(aE w).length<=150
theorem qI.mono{t:den tTo}{B C k j:Nat}{w:den tNw}(h:qI t B k w)(hB:B<=C)(hk:k<=j):qI t C j w:=⟨h.keep.mono hB,h.top,h.gate,h.lo,by have :=h.hi;omega,h.fly,h.flyN⟩
theorem qI.step{t:den tTo}{B C k:Nat}{w w':den tNw}(h:qI t B k w)(s:bG w w')(hk:eY C 4 w'):qI t C k w':=
 ⟨hk,s.top.trans h.top,s.gate h.gate,by rw[s.now];exact h.lo,by rw[s.now];exact h.hi,λx hx=>(s.fly x hx).elim (h.fly x) id,s.flyN h.flyN⟩
theorem bBh{t:den tTo}{B k:Nat}{w:den tNw}(h:qI t B k w)(hk:k<=10000000):qI t B (k+1) (tick0 w):=by
 have hlo:=h.lo;have hhi:=h.hi;have e:wr (aH w+1)=aH w+1:=bD (by omega) (by omega);refine⟨aIg h.keep,h.top,?_,?_,?_,h.fly,h.flyN⟩
 .show OkS ((nG w).1,sV (nG w).2.1 (wr (aH w+1)),[]) (wr (aH w+1));rw[e];exact h.gate.tick (by omega)
 .show (0:Int)<=wr (aH w+1);omega
 .show wr (aH w+1)<=_;omega
theorem aTi{t:den tTo}{B k:Nat}{w:den tNw}(h:qI t B k w)(hk:k<=10000000):qI t (B+656) (k+1) (cJ w):=by
 have hkp:=aIf h.keep;unfold cJ at hkp ⊢;split
 .exact h.mono (by omega) (by omega)
 .rename_i hn;rw[zS hn]at hkp;exact (bBh h hk).step (bG.tickL _ _ _) hkp
theorem aY3{w:den tNw}{x:den tFy}:tot tNw (bF w (aE w++[x]))=tot tNw w+(1+tot tPk x.2.2):=by
 have h1:=aGs w (aE w++[x]);rw[rF,aCw]at h1;have e:tot tFy x=tot tPk x.2.2:=by simp[rH,sF]
 omega
theorem bG8(m:Nat)(dead:List Int)(i:Int)(b:Bool):(aF7 m dead i b).length<=m:=by
 unfold aF7;exact bWk (bZb ..) (by simp)
theorem aYp(w:den tNw)(l:List Int):tot tNw (aKv w l)+(aJ w).length=tot tNw w+l.length:=by
 have e:tot tNw (aKv w l)=(tot (.sl tAS) (nT w).1+tot (.sl tLk) (nT w).2)+((tot (.sl tSg) (nK w).1+tot (.sl tSg) (nK w).2)+((0+(tot (.sl tRs) (nG w).2.1+tot (.sl tUs) (nG w).2.2))+(0+(tot (.sl ti) l+(tot (.sl tFy) (aE w)+(tot (.sl tFl) (aB w)+(tot (.sl tIb) (aL w)+0))))))):=rfl;have r:∀l:List Int,tot (.sl ti) l=l.length:=λl=>jH rfl
 rw[e,iL w,r,r];omega
theorem aP1{t:den tTo}{B k:Nat}{w:den tNw}{e:den pG}(h:qI t B k w)(hk:k<=10000000)(ht:t.2.length<=200)(he:EvS e):qI t (B+2000) (k+1) (doW w e).2:=by
 have same:qI t (B+2000) (k+1) w:=h.mono (by omega) (by omega);unfold doW;split
 .exact (aTi h hk).mono (by omega) (by omega)
 .split
  .split
   .rename_i x hi hx;have hm:=bWu hx;have hb:=h.keep.bytes.fly x hm;have hg:qI t B k (aEa w e.2.1.toNat):=h.step ⟨rfl,rfl,id,λy hy=> ?_,λhl=> ?_⟩ (aNs h.keep _)
    .exact ((hg.step (bG.proc _ _ _ _) (aYg hg.keep hb)).mono (by omega) (by omega))
    .rcases bWq.1 (show y∈(aE w).take _++(aE w).drop _ from hy) with hy | hy
     .exact .inl (bX8 hy)
     .exact .inl (bYa hy)
    .show ((aE w).take _++(aE w).drop _).length<=150;simp only[bW9,bXw,bYy];omega
   .exact same
  .split
   .split
    .have hg:qI t B k (aEa w e.2.1.toNat):=h.step ⟨rfl,rfl,id,λy hy=> ?_,λhl=> ?_⟩ (aNs h.keep _)
     .exact (hg.step (bG.drop _) ⟨hg.keep.tot,hg.keep.flows,⟨hg.keep.bytes.fly,hg.keep.bytes.msg⟩⟩).mono (by omega) (by omega)
     .rcases bWq.1 (show y∈(aE w).take _++(aE w).drop _ from hy) with hy | hy
      .exact .inl (bX8 hy)
      .exact .inl (bYa hy)
     .show ((aE w).take _++(aE w).drop _).length<=150;simp only[bW9,bXw,bYy];omega
    .exact same
   .split
    .split
     .rename_i x hi hx;have hm:=bWu hx;rw[bWj]at hi;have hlt: ¬ (((aE w).length:Int)>=150):=by have :=hi.2;simpa using this
      have ht':=aY3 (w:=w) (x:=x);have hx':=h.fly x hm;have hkp:=h.keep.tot;refine qI.mono (B:=B+1101) (k:=k) (h.step (w':=bF w (aE w++[x])) ⟨rfl,rfl,id,λy hy=> ?_,λhl=> ?_⟩ ⟨by omega,h.keep.flows,⟨λy hy=> ?_,h.keep.bytes.msg⟩⟩) (by omega) (by omega)
      .rcases bWq.1 (show y∈aE w++[x] from hy) with hy | hy
       .exact .inl hy
       .rw[bWp.1 hy];exact .inl hm
      .show (aE w++[x]).length<=150;simp only[bW9,bX5];omega
      .rcases bWq.1 (show y∈aE w++[x] from hy) with hy | hy
       .exact h.keep.bytes.fly y hy
       .rw[bWp.1 hy];exact h.keep.bytes.fly x hm
     .exact same
    .split
     .show qI t (B+2000) (k+1) (vW w e.2.1 (e.1==5));unfold vW;split
      .exact same
      .have h1:=aYp w (aF7 (nT w).2.length (aJ w) e.2.1 (e.1==5));have h2:=bG8 (nT w).2.length (aJ w) e.2.1 (e.1==5);have h3:(nT w).2.length<=200:=by rw[h.top];exact ht
       have hkp:=h.keep.tot;exact qI.mono (B:=B+200) (k:=k) (h.step (w':=aKv w (aF7 (nT w).2.length (aJ w) e.2.1 (e.1==5))) ⟨rfl,rfl,id,λy hy=> .inl hy,id⟩ ⟨by omega,h.keep.flows,⟨h.keep.bytes.fly,h.keep.bytes.msg⟩⟩) (by omega) (by omega)
     .split
      .split
       .rename_i hc;rw[bWj]at hc;have hlt: ¬ (((aE w).length:Int)>=150):=by have :=hc.2;simpa using this
        have ht':=aY3 (w:=w) (x:=e.2.2.2);have hx':=he.pk.1;have hkp:=h.keep.tot;refine qI.mono (B:=B+1101) (k:=k) (h.step (w':=bF w (aE w++[e.2.2.2])) ⟨rfl,rfl,id,λy hy=> ?_,λhl=> ?_⟩ ⟨by omega,h.keep.flows,⟨λy hy=> ?_,h.keep.bytes.msg⟩⟩) (by omega) (by omega)
        .rcases bWq.1 (show y∈aE w++[e.2.2.2] from hy) with hy | hy
         .exact .inl hy
         .rw[bWp.1 hy];exact .inr hx'
        .show (aE w++[e.2.2.2]).length<=150;simp only[bW9,bX5];omega
        .rcases bWq.1 (show y∈aE w++[e.2.2.2] from hy) with hy | hy
         .exact h.keep.bytes.fly y hy
         .rw[bWp.1 hy];exact he.pk.2
       .exact same
      .split
       .split
        .rename_i f hi hf;have hm:=bWu hf;have h1:=aQ9 (t:=tFl) (y:=aEz f e.2.2.1) hf;have h5:=aC2 w ((aB w).set e.2.1.toNat (aEz f e.2.2.1));have h6:=iL w;have hkp:=h.keep.tot;have h2:tot tFl (aEz f e.2.2.1)<=tot tFl f+4:=by
          unfold aEz;split
          .obtain⟨a,b,c,d,ms,ps,cu,wa,rv⟩:=f;show tot tFl (a,b,c,d,ms++[e.2.2.1],ps,cu,wa,rv)<=tot tFl (a,b,c,d,ms,ps,cu,wa,rv)+4;rw[aC4,aC4,rF,bAl];have :=he.data.1;omega
          .omega
         refine qI.mono (B:=B+4) (k:=k) (h.step (w':=bK w ((aB w).set e.2.1.toNat (aEz f e.2.2.1))) (bG.flows w _) ⟨by omega,by show ((aB w).set _ _).length<=4;rw[bYb];exact h.keep.flows,⟨h.keep.bytes.fly,λg hg m hmm=> ?_⟩⟩) (by omega) (by omega);rcases bZw (show g∈(aB w).set _ _ from hg) with hg | rfl
         .exact h.keep.bytes.msg g hg m hmm
         .unfold aEz at hmm;split at hmm
          .rcases bWq.1 (show m∈f.2.2.2.2.1++[e.2.2.1] from hmm) with hmm | hmm
           .exact h.keep.bytes.msg f hm m hmm
           .rw[bWp.1 hmm];exact he.data.2
          .exact h.keep.bytes.msg f hm m hmm
        .exact same
       .exact same
inductive Ran (v:den tNw):xH->den tNw->Prop
 | nil:Ran v [] v
 | snoc {l:xH} {w:den tNw} {e:den pG} (h:Ran v l w) (he:EvD w e):Ran v (l++[e]) (doW w e).2
theorem nV.gateOk{n:Nat}{v:den tNw}(h:nV n v):OkS (nG v) (aH v):=by
 have h1:=h.res;rw[h.now,h.gate];exact⟨by show (1:Int)<=12;decide,by show (20:Int)>=12;decide,h1,λj x hx=>by simp at hx⟩
theorem nV.run{v:den tNw}(h:nV 3 v):qI (nT v) 1000 0 v where
 keep:=⟨h.tot (by decide),bWk h.len (by decide),⟨λx hx=>(by rw[h.fly]at hx;cases hx),λf hf m hm=>(h.flows f hf).bytes m hm⟩⟩
 top:=rfl
 gate:=h.gateOk
 lo:=by rw[h.now];decide
 hi:=by rw[h.now];decide
 fly:=λx hx=>by rw[h.fly]at hx;cases hx
 flyN:=by rw[h.fly];exact bW3 _
theorem Ran.run{v:den tNw}(hv:nV 3 v){l:xH}{w:den tNw}(h:Ran v l w):l.length<=1000->qI (nT v) (1000+2000 * l.length) l.length w:=by
 induction h with
 | nil=>intro _;exact hv.run
 | snoc h he ih=>
  intro hl;simp only[bW9,bX5]at hl ⊢;exact (aP1 (ih (by omega)) (by omega) (bWk hv.top.links (by decide)) he.s).mono (by omega) (by omega)
def hdS(l:cD):Option Int:=l.head?.map λx=>(x.1:Int)
def ltS(l:cD):Option Int:=l.getLast?.map λx=>(x.1:Int)
theorem aHj(l:cD)(x:den kY):ltS (l++[x])=some x.1:=by unfold ltS;rw[bYi];rfl
theorem aMw(l:cD)(x:den kY):hdS (l++[x])=if l=[] then some x.1 else hdS l:=by
 cases l with
 | nil=>rfl
 | cons y l=>rfl
theorem bQ6(nf:Bool)(p:den tPp)(i:Nat)(h:den aR)(out:cD):ltS (pY nf p i h out)=some h.1/\hdS (pY nf p i h out)=if out=[] then some h.1 else hdS out:=by
 unfold pY;rcases fI out with rfl | ⟨m,z,rfl⟩
 .exact⟨rfl,rfl⟩
 .rw[bYi];simp only;split
  .rename_i hc;simp only[bWj,beq_iff_eq]at hc;rw[bYs];refine⟨aHj _ _,?_⟩;have hne:m++[z]≠[]:=by simp
   rw[zS hne,aMw,aMw]
   by_cases hm:m=[]
   .rw[zT hm,zT hm];exact congrArg some hc.2.2.symm
   .rw[zS hm,zS hm]
  .exact⟨aHj _ _,by rw[aMw]⟩
theorem aQq(nf:Bool)(p:den tPp):∀(l:dE) (k:Nat) (a:cD),ltS (bN (λi h b=>pY nf p i h b) k l a)=(if l=[] then ltS a else xL l)/\hdS (bN (λi h b=>pY nf p i h b) k l a)=(if a=[] then aBr l else hdS a)
 | [],k,a=>by
  refine⟨rfl,?_⟩;show hdS a=_;split
  .rename_i h;rw[h];rfl
  .rfl
 | x::l,k,a=>by
  obtain⟨h1,h2⟩:=aQq nf p l (k+1) (pY nf p k x a);obtain⟨g1,g2⟩:=bQ6 nf p k x a;have hne:pY nf p k x a≠[]:=λe=>by rw[e]at g1;cases g1
  rw[zS hne,g2]at h2;refine⟨?_,?_⟩
  .show ltS (bN _ (k+1) l (pY nf p k x a))=_;cases l with
   | nil=>
    show ltS (pY nf p k x a)=_;rw[zS (List.cons_ne_nil _ _),g1];rfl
   | cons y l=>
    rw[h1,zS (List.cons_ne_nil _ _),zS (List.cons_ne_nil _ _)];unfold xL;rw[List.getLast?_cons_cons]
  .show hdS (bN _ (k+1) l (pY nf p k x a))=_;rw[h2];rfl
theorem aUs:∀(p:lPp) (k:Nat) (a:cD),a≠[]->hdS (bN (λk x a=>iA (decide (0<k)) x a) k p a)=hdS a/\(∀b,vE p=some b->ltS (bN (λk x a=>iA (decide (0<k)) x a) k p a)=some b)
 | [],k,a,_=>⟨rfl,λb h=>by cases h⟩
 | x::p,k,a,ha=>by
  obtain⟨g1,g2⟩:=aQq (decide (0<k)) x x.2.2.2 0 a;rw[zS ha]at g2;have hne:iA (decide (0<k)) x a≠[]:=λe=>by
   have g2:hdS (iA (decide (0<k)) x a)=hdS a:=g2;rw[e]at g2;cases a with
   | nil=>exact ha rfl
   | cons y l=>cases g2
  obtain⟨h1,h2⟩:=aUs p (k+1) (iA (decide (0<k)) x a) hne;refine⟨h1.trans g2,λb hb=> ?_⟩;cases p with
  | nil=>
   have hb:xL x.2.2.2=some b:=hb;show ltS (iA (decide (0<k)) x a)=some b;have g1:ltS (iA (decide (0<k)) x a)=_:=g1;rw[g1,zS (λe=>by rw[e]at hb;cases hb),hb]
  | cons y p=>
   have hb:vE (y::p)=some b:=by
    unfold vE at hb ⊢
    rwa [List.getLast?_cons_cons]at hb
   exact h2 b hb
theorem aZ8(l:cD):hdS (aB3 l)=hdS l/\ltS (aB3 l)=ltS l:=by
 unfold aB3;cases l with
 | nil=>exact⟨rfl,rfl⟩
 | cons x xs=>
  simp only;rcases fI xs with rfl | ⟨m,z,rfl⟩
  .exact⟨rfl,rfl⟩
  .have e:((x.1,(0:Int),x.2.2)::(m++[z]):cD)=((x.1,(0:Int),x.2.2)::m)++[z]:=rfl;rw[e,bYi];simp only;rw[bYs,aHj];refine⟨rfl,?_⟩;rw[show (x::(m++[z]):cD)=(x::m)++[z] from rfl,aHj]
theorem aCy{p:lPp}{a b:Int}(ha:zE p=some a)(hb:vE p=some b):ends p=(a,b):=by
 cases p with
 | nil=>cases ha
 | cons x p=>
  have ha:aBr x.2.2.2=some a:=ha;obtain⟨g1,g2⟩:=aQq false x x.2.2.2 0 [];have g1:ltS (iA false x [])=_:=g1;have g2:hdS (iA false x [])=aBr x.2.2.2:=g2;have hne:iA false x []≠[]:=λe=>by rw[e]at g2;rw[<- g2]at ha;cases ha
  obtain⟨h1,h2⟩:=aUs p 1 (iA false x []) hne;have e0:wB (x::p)=bN (λk x a=>iA (decide (0<k)) x a) 1 p (iA false x []):=rfl;have f1:hdS (fC (x::p))=some a:=by
   unfold fC;rw[(aZ8 _).1,e0,h1,g2,ha]
  have f2:ltS (fC (x::p))=some b:=by
   unfold fC;rw[(aZ8 _).2,e0];cases p with
   | nil=>
    have hb:xL x.2.2.2=some b:=hb;show ltS (iA false x [])=some b;rw[g1,zS (λe=>by rw[e]at hb;cases hb),hb]
   | cons y p=>
    have hb:vE (y::p)=some b:=by
     unfold vE at hb ⊢
     rwa [List.getLast?_cons_cons]at hb
    exact h2 b hb
  unfold ends;unfold hdS at f1;unfold ltS at f2;obtain⟨u,hu,eu⟩:=bXd.1 f1;obtain⟨v,hv,ev⟩:=bXd.1 f2;rw[hu,hv];simp only;rw[eu,ev]
theorem aSl(x:den tPp):aBr (dN x).2.2.2=xL x.2.2.2/\xL (dN x).2.2.2=aBr x.2.2.2:=by
 unfold dN aBr xL;simp only[List.head?_reverse,List.getLast?_reverse,and_self]
theorem aD1(p:lPp):zE (cH p)=vE p/\vE (cH p)=zE p:=by
 unfold cH zE vE;rw[List.head?_map,List.getLast?_map,List.head?_reverse,List.getLast?_reverse];constructor
 .cases p.getLast? with
  | none=>rfl
  | some x=>exact (aSl x).1
 .cases p.head? with
  | none=>rfl
  | some x=>exact (aSl x).2
theorem aQa{α:Type}(p:α->α->Bool)(hp:∀x y,p x y=true->x=y):∀{a b:List α},a.length=b.length->aE0 p a b=true->a=b
 | [],[],_,_=>rfl
 | [],_::_,h,_=>by simp at h
 | _::_,[],h,_=>by simp at h
 | x::a,y::b,h,e=>by
  simp only[aE0,bWj]at e;rw[hp x y e.1,aQa p hp (by simpa using h) e.2]
theorem bA2(b:Bool):cond b true false=b:=by cases b<;>rfl
theorem bMj{a b:dE}(h:aPk a b=true):a=b:=by
 unfold aPk at h
 by_cases hl:a.length=b.length
 .rw[zX hl,bWw,zY,bA2]at h;refine aQa _ (λx y e=> ?_) hl h;simp only[bWj,beq_iff_eq,and_true]at e;obtain⟨e1,e2,e3,e4,e5⟩:=e;obtain⟨x1,x2,x3,x4,x5⟩:=x;obtain⟨y1,y2,y3,y4,y5⟩:=y;simp only at e1 e2 e3 e4 e5;rw[e1,e2,e3,e4,e5]
 .rw[zW hl]at h;cases h
theorem aXq{a b:Bool}:cond a b false=true↔a=true/\b=true:=by cases a<;>cases b<;>simp
theorem bIj{a b:den tPp}(h:aA7 a b=true):a=b:=by
 unfold aA7 at h;simp only[aXq,beq_iff_eq]at h;obtain⟨e1,e2,e3,e4⟩:=h;have e4:=bMj e4;obtain⟨x1,x2,x3,x4⟩:=a;obtain⟨y1,y2,y3,y4⟩:=b;simp only at e1 e2 e3 e4;rw[e1,e2,e3,e4]
theorem bM3{a b:lPp}(h:zI a b=true):a=b:=by
 unfold zI at h
 by_cases hl:a.length=b.length
 .rw[zX hl,bWw,zY,bA2]at h;exact aQa _ (λx y e=>bIj e) hl h
 .rw[zW hl]at h;cases h
theorem bK0{a b:den tPk}(ha:iY a)(hb:iY b)(h:aO4 a b=true):a=b:=by
 unfold aO4 at h;simp only[aXq,beq_iff_eq]at h;obtain⟨e1,e2,e3,e4,e5,e6,e7,e8,e9,e10⟩:=h;have e4:=bM3 e4;have e10:=(bHb ha hb).1 e10;obtain⟨x1,x2,x3,x4,x5,x6,x7,x8,x9,x10⟩:=a;obtain⟨y1,y2,y3,y4,y5,y6,y7,y8,y9,y10⟩:=b;simp only at e1 e2 e3 e4 e5 e6 e7 e8 e9 e10;rw[e1,e2,e3,e4,e5,e6,e7,e8,e9,e10]
theorem eqI{a b:Int}(h:a=b):a=b:=h
theorem ltI{a b:Int}(h:a<b):a<b:=h
theorem leI{a b:Int}(h:a<=b):a<=b:=h
structure vH (t:den tTo) (f:den tFl) (x:den tIb):Prop where
 val:lR f=true
 src:cG t f.1=true
 dst:cG t f.2.1=true
 xAS:x.1=f.2.1
 xFrom:x.2.1=f.1
 next:x.2.2.1=(x.2.2.2.length:Int)
 recv:x.2.2.2=f.2.2.2.2.1.take x.2.2.2.length
 len:x.2.2.2.length<=f.2.2.2.2.1.length
 ack:f.2.2.2.1<=(x.2.2.2.length:Int)
 paths:∀p∈f.2.2.2.2.2.1,zE p=some f.1/\vE p=some f.2.1
def kI(w:den tNw)(p:den tPk):Prop:= ∀(k:Nat) (f:den tFl) (x:den tIb),(aB w)[k]? =some f->(aL w)[k]? =some x->
 (p.1=(1:Int)->p.2.1=f.1->p.2.2.1=f.2.1->zE p.2.2.2.1=some f.1/\vE p.2.2.2.1=some f.2.1/\ ∃s:Nat,p.2.2.2.2.2.2.2.2.1=(s:Int)/\f.2.2.2.2.1[s]? =some p.2.2.2.2.2.2.2.2.2)/\
 (p.1=(2:Int)->p.2.1=f.2.1->p.2.2.1=f.1->p.2.2.2.2.2.2.2.2.1<x.2.2.1)
def aHr(w:den tNw)(p:den tPk):Prop:=cL p=true->kI w p
structure aZ (t:den tTo) (w:den tNw):Prop where
 top:nT w=t
 lenB:(aL w).length=(aB w).length
 flow:∀(k:Nat) (f:den tFl) (x:den tIb),(aB w)[k]? =some f->(aL w)[k]? =some x->vH t f x
 uniq:(aB w).Pairwise λf g=>rL g f=false
 good:∀y∈aE w,aHr w y.2.2
 to:∀y∈aE w,cG t y.1=true
structure aMv (w w':den tNw):Prop where
 flow:∀(k:Nat) (f':den tFl),(aB w')[k]? =some f'-> ∃f,(aB w)[k]? =some f/\f'.1=f.1/\f'.2.1=f.2.1/\ ∀(s:Nat) (m:List Int),f.2.2.2.2.1[s]? =some m->f'.2.2.2.2.1[s]? =some m
 box:∀(k:Nat) (x':den tIb),(aL w')[k]? =some x'-> ∃x,(aL w)[k]? =some x/\x.2.2.1<=x'.2.2.1
theorem aMv.refl(w:den tNw):aMv w w:=⟨λk f h=>⟨f,h,rfl,rfl,λ_ _ h=>h⟩,λk x h=>⟨x,h,bXl _⟩⟩
theorem kI.grow{w w':den tNw}{p:den tPk}(h:kI w p)(g:aMv w w'):kI w' p:=λk f' x' hf hx=>by
 obtain⟨f,hf0,e1,e2,e3⟩:=g.flow k f' hf;obtain⟨x,hx0,e4⟩:=g.box k x' hx;obtain⟨h1,h2⟩:=h k f x hf0 hx0;rw[e1,e2];refine⟨λa b c=> ?_,λa b c=>Int.lt_of_lt_of_le (h2 a b c) e4⟩;obtain⟨q1,q2,s,q3,q4⟩:=h1 a b c;exact⟨q1,q2,s,q3,e3 s _ q4⟩
theorem kI.goTo{w:den tNw}{p:den tPk}(h:kI w p)(i j b:Int):kI w (goTo p i j b):=h
theorem aI8{w:den tNw}{p:den tPk}(h:p.1=(3:Int)):kI w p:=λk f x _ _=>⟨λe=>absurd (h.symm.trans e) (by decide),λe=>absurd (h.symm.trans e) (by decide)⟩
theorem aZ.same{t:den tTo}{w w':den tNw}(h:aZ t w)(e1:nT w'=nT w)(e2:aB w'=aB w)(e3:aL w'=aL w)(e4:∀y∈aE w',y∈aE w\/(kI w y.2.2/\cG t y.1=true)):aZ t w':=by
 have g:aMv w w':=⟨λk f h=>⟨f,by rw[<- e2];exact h,rfl,rfl,λ_ _ h=>h⟩,λk x h=>⟨x,by rw[<- e3];exact h,bXl _⟩⟩
 refine⟨e1.trans h.top,by rw[e2,e3];exact h.lenB,λk f x hf hx=>h.flow k f x (by rw[<- e2];exact hf) (by rw[<- e3];exact hx),by rw[e2];exact h.uniq,λy hy=> ?_,λy hy=> ?_⟩
 .rcases e4 y hy with hy | ⟨hy,_⟩
  .exact λhv=>(h.good y hy hv).grow g
  .exact λ_=>hy.grow g
 .rcases e4 y hy with hy | ⟨_,hy⟩
  .exact h.to y hy
  .exact hy
theorem aZ.drop{t:den tTo}{w:den tNw}(h:aZ t w):aZ t (rX w):=h.same rfl rfl rfl λy hy=> .inl hy
theorem aZ.map{t:den tTo}{w:den tNw}(h:aZ t w){l:lFl}(hl:l.length=(aB w).length)
  (hm:∀(k:Nat) (f':den tFl),l[k]? =some f'-> ∃f,(aB w)[k]? =some f/\f'.1=f.1/\f'.2.1=f.2.1/\(∀(s:Nat) (m:List Int),f.2.2.2.2.1[s]? =some m->f'.2.2.2.2.1[s]? =some m)/\ ∀x,(aL w)[k]? =some x->vH t f x->vH t f' x):aZ t (bK w l):=by
 have g:aMv w (bK w l):=⟨λk f' hf=>by
  obtain⟨f,a,b,c,d,_⟩:=hm k f' hf;exact⟨f,a,b,c,d⟩,λk x h=>⟨x,h,bXl _⟩⟩
 refine⟨h.top,by show (aL w).length=l.length;rw[hl];exact h.lenB,λk f' x hf hx=> ?_,?_,λy hy hv=>(h.good y hy hv).grow g,h.to⟩
 .obtain⟨f,a,_,_,_,e⟩:=hm k f' hf;exact e x hx (h.flow k f x a hx)
 .show l.Pairwise _;rw[bYk];intro i j hi hj hij;obtain⟨f,a,b,c,_⟩:=hm i l[i] (bWl hi);obtain⟨f',a',b',c',_⟩:=hm j l[j] (bWl hj);obtain⟨hi',ei⟩:=bWn.1 a;obtain⟨hj',ej⟩:=bWn.1 a';have :=(bYk.1 h.uniq) i j hi' hj' hij;rw[ei,ej]at this;unfold rL at this ⊢;rw[b,c,b',c'];exact this
theorem aZ.one{t:den tTo}{w:den tNw}(h:aZ t w){i j:Nat}{f g:den tFl}(hf:(aB w)[i]? =some f)(hg:(aB w)[j]? =some g)(e1:f.1=g.1)(e2:f.2.1=g.2.1):i=j:=by
 obtain⟨hi,ei⟩:=bWn.1 hf;obtain⟨hj,ej⟩:=bWn.1 hg;have hs:∀a b:den tFl,a.1=b.1->a.2.1=b.2.1->rL b a=true:=λa b x y=>by
  unfold rL;rw[x,y];simp
 rcases Nat.lt_trichotomy i j with c | c | c
 .have :=(bYk.1 h.uniq) i j hi hj c;rw[ei,ej,hs f g e1 e2]at this;cases this
 .exact c
 .have :=(bYk.1 h.uniq) j i hj hi c;rw[ei,ej,hs g f e1.symm e2.symm]at this;cases this
theorem bBm{t:den tTo}{f:den tFl}{x:den tIb}{p:den tPk}(h:vH t f x)(hp:tV f p=true->p.2.2.2.2.2.2.2.2.1<x.2.2.1):vH t (iH f p) x:=by
 unfold iH;split
 .rename_i ha;have hs:=hp ha;unfold tV at ha;simp only[bWj,beq_iff_eq]at ha;obtain⟨_,_,_,h4,h5⟩:=ha;obtain⟨h6,h7⟩:=aI.1 h5;have hn:=h.next
  have hv:=(lS f).1 h.val;have hm:f.2.2.2.2.1.length<=20:=hv.2.2.2.2.1;have e:wr (f.2.2.2.1+1)=f.2.2.2.1+1:=bD (by omega) (by omega);rw[e];refine⟨?_,h.src,h.dst,h.xAS,h.xFrom,h.next,h.recv,h.len,?_,h.paths⟩
  .rw[lS];obtain⟨q1,q2,q3,q4,q5,q6,q7,q8,q9,q10,q11,q12⟩:=hv;exact⟨q1,q2,q3,q4,q5,aI.2 ⟨by show (0:Int)<=f.2.2.2.1+1;omega,by show (f.2.2.2.2.1.length:Int)>=f.2.2.2.1+1;omega⟩,q7,q8,q9,q10,rfl,q12⟩
  .have e1:f.2.2.2.1<x.2.2.1:=h4▸hs;rw[hn]at e1;exact Int.add_one_le_of_lt e1
 .exact h
theorem bDa{t:den tTo}{f:den tFl}{x:den tIb}{p:den tPk}(h:vH t f x):vH t (iI f p) x:=by
 unfold iI;cases p.1==3&&(sD p.2.2.2.2.2.2.2.2.2).2.2.2 with
 | false=>exact h
 | true=>
  rw[zZ];have hv:=(lS f).1 h.val;refine⟨?_,h.src,h.dst,h.xAS,h.xFrom,h.next,h.recv,h.len,h.ack,h.paths⟩;rw[lS];obtain⟨q1,q2,q3,q4,q5,q6,q7,q8,q9,q10,q11,q12⟩:=hv;obtain⟨r1,r2⟩:=bMs (l:=f.2.2.2.2.2.2.2.2) (x:=sT p.2.2.2.2.2.2.2.2.2) ⟨q12,q9⟩;refine⟨q1,q2,q3,q4,q5,q6,q7,q8,r2,?_,?_,r1⟩
  .show cond _ _ _=(0:Int)\/inR (cond _ _ _) 0 _=true;cases aKf f (sT p.2.2.2.2.2.2.2.2.2) with
   | false=>exact q10
   | true=>exact aW4 q7 q10
  .show inR (cond _ _ _) 0 4=true;cases aKf f (sT p.2.2.2.2.2.2.2.2.2) with
   | false=>exact q11
   | true=>rfl
theorem bFf(f:den tFl)(p:den tPk):(iH f p).1=f.1/\(iH f p).2.1=f.2.1/\(iH f p).2.2.2.2.1=f.2.2.2.2.1:=by
 unfold iH;split<;>exact⟨rfl,rfl,rfl⟩
theorem aS8(f:den tFl)(p:den tPk):(iI f p).1=f.1/\(iI f p).2.1=f.2.1/\(iI f p).2.2.2.2.1=f.2.2.2.2.1:=by
 unfold iI;cases p.1==3&&(sD p.2.2.2.2.2.2.2.2.2).2.2.2<;>exact⟨rfl,rfl,rfl⟩
theorem aZ.tell{t:den tTo}{w:den tNw}{p:den tPk}(h:aZ t w)(hg:kI w p)(r:Int):aZ t (oQ w r p):=by
 refine h.map (by simp) λk f' hf'=> ?_
 rw[bXx]at hf';obtain⟨f,hf,rfl⟩:=bXd.1 hf';have ht:(bR r p f).1=f.1/\(bR r p f).2.1=f.2.1/\(bR r p f).2.2.2.2.1=f.2.2.2.2.1:=by
  unfold bR;split
  .split
   .exact bFf f p
   .exact aS8 f p
  .exact⟨rfl,rfl,rfl⟩
 refine⟨f,hf,ht.1,ht.2.1,λs m hm=>by rw[ht.2.2];exact hm,λx hx hfx=> ?_⟩;unfold bR;split
 .split
  .refine bBm hfx λha=> ?_
   unfold tV at ha;simp only[bWj,beq_iff_eq]at ha;exact (hg k f x hf hx).2 ha.1 ha.2.1 ha.2.2.1
  .exact bDa hfx
 .exact hfx
theorem aZ.send{t:den tTo}{w:den tNw}{p:den tPk}(h:aZ t w)(hg:kI w p){r eg:Int}(hr:cG t (remote t r eg).1=true):aZ t (dS w r eg p):=by
 unfold dS;split
 .refine h.same rfl rfl rfl λy hy=> ?_
  rcases bWq.1 (show y∈aE w++_ from hy) with hy | hy
  .exact .inl hy
  .have :y=_:=bWp.1 hy;subst this;exact .inr ⟨hg,by rw[h.top];exact hr⟩
 .exact h.drop
theorem bEt{t:den tTo}{w:den tNw}{k:Nat}{f:den tFl}{x:den tIb}{p:den tPk}(hf:(aB w)[k]? =some f)(hx:(aL w)[k]? =some x)(hg:kI w p)(h:vH t f x):vH t f (bY x p)/\x.2.2.1<=(bY x p).2.2.1:=by
 unfold bY;split
 .rename_i ht;unfold takes sA at ht;simp only[bWj,beq_iff_eq,zR]at ht;obtain⟨⟨h1,h2,h3⟩,h4,h5⟩:=ht;obtain⟨_,_,s,g1,g2⟩:=(hg k f x hf hx).1 h1 (by rw[h2,h.xFrom]) (by rw[h3,h.xAS]);have hn:=eqI h.next
  have h5:=ltI h5;have h4':=eqI h4;have g1':=eqI g1;have hs:s=x.2.2.2.length:=by omega
  subst hs;obtain⟨hlt,he⟩:=bWn.1 g2;have e:wr (x.2.2.1+1)=((x.2.2.2.length+1:Nat):Int):=by
   rw[hn];exact fJ (by omega)
  rw[e];have ha:=leI h.ack;refine⟨⟨h.val,h.src,h.dst,h.xAS,h.xFrom,by show ((x.2.2.2.length+1:Nat):Int)=((x.2.2.2++[_]).length:Int);simp,?_,?_,?_,h.paths⟩,?_⟩
  .show x.2.2.2++[p.2.2.2.2.2.2.2.2.2]=f.2.2.2.2.1.take (x.2.2.2++[p.2.2.2.2.2.2.2.2.2]).length;rw[bW9,bX5,List.take_add_one,g2,<- h.recv];rfl
  .show (x.2.2.2++[p.2.2.2.2.2.2.2.2.2]).length<=_;rw[bW9,bX5];omega
  .refine leI (a:=f.2.2.2.1) (b:=((x.2.2.2++[p.2.2.2.2.2.2.2.2.2]).length:Int)) ?_;rw[bW9,bX5];omega
  .refine leI (a:=x.2.2.1) (b:=((x.2.2.2.length+1:Nat):Int)) ?_;omega
 .exact⟨h,bXl _⟩
theorem aZ.box{t:den tTo}{w:den tNw}{k:Nat}{x x':den tIb}(h:aZ t w)(hx:(aL w)[k]? =some x)(hn:x.2.2.1<=x'.2.2.1)(hf:∀f,(aB w)[k]? =some f->vH t f x'):aZ t (mH w k x')/\aMv w (mH w k x'):=by
 have hk:k<(aL w).length:=(bWn.1 hx).1;have g:aMv w (mH w k x'):=⟨λk f h=>⟨f,h,rfl,rfl,λ_ _ h=>h⟩,λj y hy=>by
  replace hy:((aL w).set k x')[j]? =some y:=hy;rw[bYp]at hy;split at hy
  .rename_i e;subst e
   try rw[zT hk]at hy
   injection hy with hy;subst hy;exact⟨x,hx,hn⟩
  .exact⟨y,hy,bXl _⟩⟩
 refine⟨⟨h.top,by show ((aL w).set k x').length=_;rw[bYb];exact h.lenB,λj f y hf' hy=> ?_,h.uniq,λy hy hv=>(h.good y hy hv).grow g,h.to⟩,g⟩;replace hy:((aL w).set k x')[j]? =some y:=hy;rw[bYp]at hy;split at hy
 .rename_i e;subst e
  try rw[zT hk]at hy
  injection hy with hy;subst hy;exact hf f hf'
 .exact h.flow j f y hf' hy
theorem bK5{t:den tTo}{w:den tNw}{k:Nat}{x:den tIb}{p:den tPk}(h:aZ t w)(hk:∃f,(aB w)[k]? =some f)(hx:(aL w)[k]? =some x)(ha:wU x p=true)(hg:kI w p):kI w (kR x p):=by
 obtain⟨f,hf⟩:=hk;have hfx:=h.flow k f x hf hx;unfold wU sA at ha;simp only[bWj,beq_iff_eq,bW8,decide_eq_false_iff_not]at ha;obtain⟨⟨h1,h2,h3⟩,h4⟩:=ha;have e1:(p.2.1:Int)=f.1:=h2.trans hfx.xFrom;have e2:(p.2.2.1:Int)=f.2.1:=h3.trans hfx.xAS;obtain⟨p1,p2,_⟩:=(hg k f x hf hx).1 h1 e1 e2;have he:ends (cH p.2.2.2.1)=(f.2.1,f.1):=aCy ((aD1 _).1.trans p2) ((aD1 _).2.trans p1);have hm:kR x p=bU 2 (cH p.2.2.2.1) p.2.2.2.2.2.2.2.1 p.2.2.2.2.2.2.2.2.1 []:=by
  unfold kR;rw[zT (by
   unfold wU sA;simp only[bWj,beq_iff_eq,bW8,decide_eq_false_iff_not];exact⟨⟨h1,h2,h3⟩,h4⟩)]
  rfl
 intro j g y hg' hy;refine⟨λe=> ?_,λ_ a b=> ?_⟩
 .rw[hm]at e;exact absurd e (show ¬ ((2:Int)=1) by decide)
 .rw[hm]at a b ⊢;have a:(ends (cH p.2.2.2.1)).1=g.2.1:=a;have b:(ends (cH p.2.2.2.1)).2=g.1:=b;rw[he]at a b;have hj:k=j:=h.one hf hg' b a;subst hj;have :some x=some y:=hx.symm.trans hy;injection this with this;subst this;exact Int.not_le.1 h4
theorem aMc{t:den tTo}{x:den tPp}(h:bB t x=true){k:Nat}{y:den aR}(hy:x.2.2.2[k]? =some y):cG t y.1=true/\(k=0\/aAp t x ((x.2.2.2[k - 1]?).getD h0) y=true):=by
 unfold bB at h;simp only[bWj]at h;obtain⟨_,_,_,_,h5,h6⟩:=h;have a:=(kJ (vS t x.2.2.2) x.2.2.2).1 h5 k y hy;have b:=(kJ (sP t x) x.2.2.2).1 h6 k y hy;unfold vS at a;unfold sP at b;simp only[bWj]at a;rw[bX2,zR]at b;exact⟨a.2.1,b⟩
theorem bUn{t:den tTo}{p:den tPk}(hw:wfP t p.2.2.2.1=true)(hh:cB p=true)(hz:0<=bZ p)(hl:cY p=true)(ha:cZ p=false):bZ (adv p)=bZ p/\(adv p).2.2.2.2.1=p.2.2.2.2.1+1/\(adv p).2.2.2.1=p.2.2.2.1:=by
 obtain⟨i,e1,e2⟩:=aZv hh hz hl ha;obtain⟨i',j,f1,f2,f3,f4,f5⟩:=mR hh;have f1':=eqI f1;have :i'=i:=by have :=eqI (f1.symm.trans e1);omega
 subst this;have e:adv p=goTo p (p.2.2.2.2.1+1) 0 (mE p).2.2.1:=by
  unfold adv;rw[ha,hl,zW (show ¬ bZ p<0 by omega)];rfl
 rw[e];refine⟨?_,rfl,rfl⟩;obtain⟨v1,v2⟩:=aCs hw e2;obtain⟨u1,_⟩:=aCs hw f3;have hj:yV (bH p) (mE p)=true:=by
  rcases v2 with v2 | v2
  .omega
  .rw[show i'+1 - 1=i' by omega,f3]at v2;exact v2
 unfold yV at hj;rw[bWj,beq_iff_eq]at hj;have hp:=aWn v1;have hq:=aWn u1;have hhd:(mE p).2.2.2[0]? =some (uF (mE p)):=by
  unfold uF;rw[bWl hp];rfl
 have hjl:j=(bH p).2.2.2.length - 1:=by
  unfold cY at hl;rw[beq_iff_eq,f2]at hl;have hl:=eqI hl;omega
 have hlt:sB (bH p)=cW p:=by
  unfold sB;rw[<- hjl,f4];rfl
 have hn:cB (goTo p (p.2.2.2.2.1+1) 0 (mE p).2.2.1)=true/\bH (goTo p (p.2.2.2.2.1+1) 0 (mE p).2.2.1)=mE p/\cW (goTo p (p.2.2.2.2.1+1) 0 (mE p).2.2.1)=uF (mE p):=by
  have en:(p.2.2.2.2.1+1).toNat=i'+1:=by rw[f1];omega
  have a:bH (goTo p (p.2.2.2.2.1+1) 0 (mE p).2.2.1)=mE p:=by
   show (p.2.2.2.1[(p.2.2.2.2.1+1).toNat]?).getD pt0=_;rw[en,e2];rfl
  refine⟨?_,a,?_⟩
  .have hlen:=(bWn.1 e2).1;show (inR (p.2.2.2.2.1+1) 0 ((p.2.2.2.1.length:Int) - 1)&&inR (0:Int) 0 (((((p.2.2.2.1[(p.2.2.2.2.1+1).toNat]?).getD (0,0,0,[])).2.2.2.length:Nat):Int) - 1))=true;rw[en,e2,f1,bWj];refine⟨aI.2 ⟨by omega,by omega⟩,aI.2 ⟨by omega,?_⟩⟩;show (0:Int)<=((mE p).2.2.2.length:Int) - 1;omega
  .unfold cW;rw[a];show ((mE p).2.2.2[(0:Int).toNat]?).getD h0=_;rw[show (0:Int).toNat=0 from rfl,hhd];rfl
 obtain⟨_,_,_,_,_,_,g⟩:=mR hn.1;rw[g,hn.2.2,<- hj.2,hlt,<- f5]
theorem aM4{t:den tTo}{now:Int}:∀(n:Nat) (p:den tPk),wfP t p.2.2.2.1=true->p.2.2.2.2.1+(n:Int)=(p.2.2.2.1.length:Int)->(goC t now n p).1=0->(cY (goC t now n p).2=false\/cZ (goC t now n p).2=true)/\bZ (goC t now n p).2=bZ p/\(goC t now n p).2.2.2.2.1=p.2.2.2.1
 | 0,p,hw,hn,h=>by
  exfalso;obtain⟨h1,h2⟩:=vM (show dR t now p=0 from h);obtain⟨i,j,f1,_,f3,_⟩:=mR h1;have :=(bWn.1 f3).1;have hn:=eqI hn;have f1:=eqI f1;omega
 | n+1,p,hw,hn,h=>by
  have hc0:=yG h;obtain⟨h1,h2⟩:=vM hc0;obtain⟨s1,s2,_,_,s5,s6⟩:=(aE9 t p).cur;have sp:(aT t p).2.2.2.1=p.2.2.2.1:=(aE9 t p).1;have si:(aT t p).2.2.2.2.1=p.2.2.2.2.1:=(aE9 t p).2.1;unfold goC at h|-;split at h
  .rename_i hc;rw[zT hc];simp only[bWj,bW8]at hc;obtain⟨a1,a2,a3⟩:=bUn (t:=t) (p:=aT t p) (by rw[sp];exact hw) (s1.trans h1) (by rw[s2];exact h2) hc.2.1 hc.2.2;obtain⟨b1,b2,b3⟩:=aM4 n (adv (aT t p)) (by rw[a3,sp];exact hw) (by rw[a2,a3,si,sp];refine eqI ?_;have hn:=eqI hn;omega) h;exact⟨b1,b2.trans (a1.trans s2),b3.trans (a3.trans sp)⟩
  .rename_i hc;rw[zS hc];refine⟨?_,s2,sp⟩;rw[hc0]at hc;show cY (aT t p)=false\/cZ (aT t p)=true;cases hl:cY (aT t p) with
   | false=>exact .inl rfl
   | true=>
    right;rw[hl]at hc;simpa using hc
theorem aTa{t:den tTo}{now:Int}{dead:List Int}{r inn:Int}{p:den tPk}(h:((aD t now dead r inn p).1==0)=true):cG t (remote t r (aD t now dead r inn p).2.1).1=true:=by
 have h:(fwd t r now (dU t dead r) inn p).1=0:=eq_of_beq (show ((fwd t r now (dU t dead r) inn p).1==0)=true from h);unfold aD;unfold fwd at h|-;split at h
 .exact absurd h (show ¬ ((2:Int)=0) by decide)
 rename_i c1;rw[zS c1];split at h
 .exact absurd h (show ¬ ((3:Int)=0) by decide)
 rename_i c2;rw[zS c2];split at h
 .rename_i c3;simp only[bW8,beq_eq_false_iff_ne]at c3;exact absurd h c3
 rename_i c3;rw[zS c3];split at h
 .split at h<;>first | exact absurd h (show ¬ ((1:Int)=0) by decide) | exact absurd h (show ¬ ((2:Int)=0) by decide)
 rename_i c4;rw[zS c4];split at h
 .exact absurd h (show ¬ ((6:Int)=0) by decide)
 rename_i c5;rw[zS c5];split at h
 .exact absurd h (show ¬ ((7:Int)=0) by decide)
 rename_i c6;rw[zS c6];simp only[bX2,bW8,not_or,Bool.not_eq_false,beq_iff_eq]at c1 c3 c4;obtain⟨v1,v2,v3⟩:=c1;have hw:wfP t p.2.2.2.1=true:=by
  unfold fV at v2;rw[bWj]at v2;exact v2.1
 have hh:cB p=true:=by
  unfold cL at v1;simp only[bWj]at v1;exact v1.2.2.1
 obtain⟨i,j,f1,_,f3,_⟩:=mR hh;have hlen:=(bWn.1 f3).1;obtain⟨b1,b2,b3⟩:=aM4 (t:=t) (now:=now) (p.2.2.2.1.length - p.2.2.2.2.1.toNat) p hw (by rw[f1,bWs];refine eqI ?_;omega) c3;obtain⟨q1,q2,_⟩:=aAk (t:=t) (now:=now) (p.2.2.2.1.length - p.2.2.2.2.1.toNat) p c3;show cG t (remote t r (pEg (bH (aX t now p).2) (cW (aX t now p).2))).1=true;have e:aX t now p=goC t now (p.2.2.2.1.length - p.2.2.2.2.1.toNat) p:=rfl;have c4:cZ (aX t now p).2=false:=by simpa using c4
 rw[<- e]at b1 b2 b3 q1 q2;generalize (aX t now p).2=q at *;have hl:cY q=false:=b1.elim id λh=>by rw[c4]at h;cases h
 obtain⟨a,b,g1,g2,g3,g4,g5⟩:=mR q1;have b3:(q.2.2.2.1:lPp)=p.2.2.2.1:=b3;have g3':(p.2.2.2.1:lPp)[a]? =some (bH q):=by rw[<- b3];exact g3
 obtain⟨w1,_⟩:=aCs hw g3';have hb:=(bWn.1 g4).1;have hb2:b+1<(bH q).2.2.2.length:=by
  unfold cY at hl;rw[g2,beq_eq_false_iff_ne]at hl;have hl: ¬ ((b:Int)=((bH q).2.2.2.length:Int) - 1):=hl;omega
 obtain⟨y1,y2⟩:=aMc w1 (bWl hb2);rcases y2 with y2 | y2
 .omega
 .rw[show b+1 - 1=b by omega,g4]at y2;unfold aAp at y2;simp only[bWj,beq_iff_eq,bXo]at y2;have er:r=(cW q).1:=by
   have :=v3;rw[<- g5,b2];exact this.symm
  rw[er,y2.2.1];exact y1
theorem zB{w:den tNw}{t:den tTo}{now:Int}{dead:List Int}{r inn:Int}{p:den tPk}(h:kI w p):kI w (aD t now dead r inn p).2.2.1:=by
 obtain⟨i,j,b,e⟩:=aDx t r now (dU t dead r) inn p;unfold aD;rw[e];exact h.goTo i j b
theorem aSs{t:den tTo}{w:den tNw}{r inn:Int}{p:den tPk}(h:aZ t w)(hg:kI w p):aZ t (proc0 w r inn p):=by
 unfold proc0;split
 .rename_i hc;exact h.send (zB hg) (by rw[<- h.top];exact aTa hc)
 .split
  .exact h.tell (zB hg) r
  .exact h.drop
theorem bH3{t:den tTo}{w:den tNw}{r:Int}{p:den tPk}(h:aZ t w)(hg:kI w p):aZ t (kL w r p):=by
 unfold kL;split
 .exact h
 .rename_i hc;rcases aMh (aL w) r p.2.1 with hf | ⟨k,x,hf,hx⟩
  .rw[hf]at hc;exact absurd (by decide) hc
  .have hba:gL w k=x:=by unfold gL;rw[hx];rfl
   rw[hf,bWs,hba];have hk:=(bWn.1 hx).1;have hkf:k<(aB w).length:=by rw[<- h.lenB];exact hk
   have hfl:(aB w)[k]? =some (aB w)[k]:=bWl hkf;obtain⟨d1,d2⟩:=bEt hfl hx hg (h.flow k _ x hfl hx);obtain⟨b1,b2⟩:=h.box hx d2 (λf hf'=>by
    have :some f=some (aB w)[k]:=hf'.symm.trans hfl;injection this with this;rw[this];exact d1)
   split
   .rename_i ha;refine aSs b1 (bK5 b1 ⟨_,hfl⟩ ?_ ha (hg.grow b2));show ((aL w).set k (bY x p))[k]? =_;rw[bYj hk]
   .exact b1
theorem yQ{t:den tTo}{w:den tNw}{r inn:Int}{p:den tPk}(h:aZ t w)(hg:aHr w p):aZ t (cO w r inn p):=by
 cases hv:cL p with
 | false=>rw[aTe hv];exact h.drop
 | true=>
  have hg:=hg hv;unfold cO;split
  .rename_i hc;exact h.send (zB hg) (by rw[<- h.top];exact aTa hc)
  .split
   .split
    .exact bH3 h (zB hg)
    .exact h.tell (zB hg) r
   .split
    .unfold nY;split
     .exact (aSs h (aI8 rfl)).drop
     .exact (h.tell (aI8 rfl) r).drop
    .exact h.drop
theorem uM(f:den tFl):∃c wt:Int,(aF f).1=setCW f c wt/\((aF f).2.2=true->(aF f).2.1=kG (setCW f c wt)/\sends (setCW f c wt)=true):=by
 unfold aF;split
 .rename_i hs;split
  .exact⟨_,_,rfl,λ_=>⟨rfl,hs⟩⟩
  .split
   .exact⟨_,_,rfl,λh=>⟨rfl,h⟩⟩
   .exact⟨_,_,rfl,λh=>by cases h⟩
 .exact⟨_,_,rfl,λh=>by cases h⟩
theorem aZ.set{t:den tTo}{w:den tNw}(h:aZ t w){k:Nat}{f g:den tFl}(hf:(aB w)[k]? =some f)(e1:g.1=f.1)(e2:g.2.1=f.2.1)(e3:∀(s:Nat) (m:List Int),f.2.2.2.2.1[s]? =some m->g.2.2.2.2.1[s]? =some m)(e4:∀x,vH t f x->vH t g x):aZ t (bK w ((aB w).set k g)):=by
 refine h.map (by simp) λj f' hf'=> ?_
 rw[bYp]at hf';split at hf'
 .rename_i e;subst e;rw[zT (bWn.1 hf).1]at hf';injection hf' with hf';subst hf';exact⟨f,hf,e1,e2,e3,λx _=>e4 x⟩
 .exact⟨f',hf',rfl,rfl,λ_ _ h=>h,λx _ h=>h⟩
theorem aS1{t:den tTo}{w:den tNw}{k:Nat}{g:den tFl}(h:aZ t w)(hg:(aB w)[k]? =some g)(hs:sends g=true):kI w (kG g):=by
 have hk:k<(aL w).length:=by rw[h.lenB];exact (bWn.1 hg).1
 have hfi:=h.flow k g _ hg (bWl hk);have hs':=hs;unfold sends at hs';rw[bWj]at hs';obtain⟨a0,a1⟩:=aI.1 hs'.1;obtain⟨b0,b1⟩:=aI.1 hs'.2;have hc:g.2.2.2.2.2.2.1.toNat<g.2.2.2.2.2.1.length:=by omega
 have ha:g.2.2.2.1.toNat<g.2.2.2.2.1.length:=by omega
 have hpth:g.2.2.2.2.2.1[g.2.2.2.2.2.2.1.toNat]? =some (g.2.2.2.2.2.1[g.2.2.2.2.2.2.1.toNat]'hc):=bWl hc;have hmsg:g.2.2.2.2.1[g.2.2.2.1.toNat]? =some (g.2.2.2.2.1[g.2.2.2.1.toNat]'ha):=bWl ha;obtain⟨p1,p2⟩:=hfi.paths _ (bWu hpth);have he:=aCy p1 p2;have e:kG g=bU 1 (g.2.2.2.2.2.1[g.2.2.2.2.2.2.1.toNat]'hc) g.2.2.1 g.2.2.2.1 (g.2.2.2.2.1[g.2.2.2.1.toNat]'ha):=by
  unfold kG;rw[zT hs,hpth,hmsg];rfl
 rw[e];intro j f x hf hx;refine⟨λ_ a b=> ?_,λa=>absurd a (show ¬ ((1:Int)=2) by decide)⟩;have a:(ends (g.2.2.2.2.2.1[g.2.2.2.2.2.2.1.toNat]'hc)).1=f.1:=a;have b:(ends (g.2.2.2.2.2.1[g.2.2.2.2.2.2.1.toNat]'hc)).2=f.2.1:=b;rw[he]at a b;have hj:k=j:=h.one hg hf a b;subst hj;have :some g=some f:=hg.symm.trans hf;injection this with this;subst this;exact⟨p1,p2,g.2.2.2.1.toNat,(Int.toNat_of_nonneg b0).symm,hmsg⟩
theorem aBe{t:den tTo}{w:den tNw}(k:Nat)(h:aZ t w):aZ t (stepT k w):=by
 unfold stepT;split
 .rename_i f hf;obtain⟨c,wt,e1,e2⟩:=uM f;have hset:aZ t (bK w ((aB w).set k (aF f).1)):=by
   refine h.set hf (by rw[e1];rfl) (by rw[e1];rfl) (λs m hm=>by rw[e1];exact hm) λx hx=> ?_
   have hv:=aSk hx.val;rw[e1]at hv ⊢;exact⟨hv,hx.src,hx.dst,hx.xAS,hx.xFrom,hx.next,hx.recv,hx.len,hx.ack,hx.paths⟩
  split
  .rename_i hb;obtain⟨g1,g2⟩:=e2 hb;rw[<- e1]at g1 g2;refine yQ hset λ_=> ?_
   rw[g1];refine aS1 hset (k:=k) ?_ g2;show ((aB w).set k _)[k]? =_;rw[bYj (bWn.1 hf).1]
  .exact hset
 .exact h
theorem aSf{t:den tTo}:∀(n k:Nat) {w:den tNw},aZ t w->aZ t (tickL k n w)
 | 0,_,_,h=>h
 | n+1,k,_,h=>aSf n (k+1) (aBe k h)
theorem aSd{t:den tTo}{w:den tNw}(h:aZ t w):aZ t (cJ w):=by
 unfold cJ;split
 .exact h
 .exact aSf _ _ (h.same (w':=tick0 w) rfl rfl rfl λy hy=> .inl hy)
theorem bP5{t:den tTo}{w:den tNw}{k:Nat}{f:den tFl}{b:List Int}(h:aZ t w)(hf:(aB w)[k]? =some f):aZ t (bK w ((aB w).set k (aEz f b))):=by
 unfold aEz;split
 .rename_i hv;refine h.set hf rfl rfl (λs m hm=> ?_) λx hx=> ?_
  .show (f.2.2.2.2.1++[b])[s]? =some m;rw[bZ1 (bWn.1 hm).1];exact hm
  .refine⟨hv,hx.src,hx.dst,hx.xAS,hx.xFrom,hx.next,?_,?_,hx.ack,hx.paths⟩
   .show x.2.2.2=(f.2.2.2.2.1++[b]).take _;rw[List.take_append_of_le_length hx.len];exact hx.recv
   .show x.2.2.2.length<=(f.2.2.2.2.1++[b]).length;have :=hx.len;rw[bW9];omega
 .exact h.set hf rfl rfl (λ_ _ h=>h) λ_ h=>h
theorem bGk{t:den tTo}{w:den tNw}{e:den pG}(h:aZ t w)(hb:∀x∈aE w,iY x.2.2)(hp:iY e.2.2.2.2.2)(h7:(e.1==(7:Int))=true)(hh:harm w e=true):aHr w e.2.2.2.2.2:=by
 intro hv;unfold harm aQn at hh;rw[h7,hv]at hh;cases h3:(e.2.2.2.2.2.1==(3:Int)) with
 | true=>exact aI8 (eq_of_beq h3)
 | false=>
  rw[h3]at hh;simp only[bWw,bZq,zY]at hh;cases ha:w.2.2.2.2.2.1.all (λx=> !aO4 x.2.2 e.2.2.2.2.2) with
  | true=>
   rw[ha,zZ,bW5]at hh;intro k f x hf hx;have :=hh f (bWu hf);unfold bAv at this;refine⟨λ_ a b=> ?_,λ_ a b=> ?_⟩
   .rw[a,b]at this;simp at this
   .rw[a,b]at this;simp at this
  | false=>
   rw[List.all_eq_false]at ha;obtain⟨x,hx,he⟩:=ha;have hx:x∈aE w:=hx;have he:aO4 x.2.2 e.2.2.2.2.2=true:=by simpa using he
   have :=bK0 (hb x hx) hp he;rw[<- this];exact h.good x hx (by rw[this];exact hv)
theorem aZ4{t:den tTo}{w:den tNw}{e:den pG}(h:aZ t w)(hb:∀x∈aE w,iY x.2.2)(hp:iY e.2.2.2.2.2)(hh:harm w e=true):aZ t (doW w e).2:=by
 have aX:∀i,aZ t (aEa w i):=λi=>h.same (w':=aEa w i) rfl rfl rfl λy hy=> .inl (by
  rcases bWq.1 (show y∈(aE w).take i++(aE w).drop (i+1) from hy) with hy | hy
  .exact bX8 hy
  .exact bYa hy)
 unfold doW;split
 .exact aSd h
 .split
  .split
   .rename_i x hi hx;exact yQ (aX _) (h.good x (bWu hx))
   .exact h
  .split
   .split
    .exact (aX _).drop
    .exact h
   .split
    .split
     .rename_i x hi hx;have hm:=bWu hx;refine⟨h.top,h.lenB,h.flow,h.uniq,λy hy=> ?_,λy hy=> ?_⟩
      .rcases bWq.1 (show y∈aE w++[x] from hy) with hy | hy
       .exact h.good y hy
       .rw[bWp.1 hy];exact h.good x hm
      .rcases bWq.1 (show y∈aE w++[x] from hy) with hy | hy
       .exact h.to y hy
       .rw[bWp.1 hy];exact h.to x hm
     .exact h
    .split
     .show aZ t (vW w e.2.1 (e.1==5));unfold vW;split
      .exact h
      .exact h.same rfl rfl rfl λy hy=> .inl hy
     .split
      .rename_i h7;split
       .rename_i hc;rw[bWj]at hc;have hgd:=bGk h hb hp h7 hh;refine⟨h.top,h.lenB,h.flow,h.uniq,λy hy=> ?_,λy hy=> ?_⟩
        .rcases bWq.1 (show y∈aE w++[e.2.2.2] from hy) with hy | hy
         .exact h.good y hy
         .rw[bWp.1 hy];exact hgd
        .rcases bWq.1 (show y∈aE w++[e.2.2.2] from hy) with hy | hy
         .exact h.to y hy
         .rw[bWp.1 hy,<- h.top];exact hc.1
       .exact h
      .split
       .split
        .rename_i f hi hf;exact bP5 h hf
        .exact h
       .exact h
def bP(l:Nat)(n:Nat)(w:den tNw):Prop:=(l:Int)<=dO w/\(n:Int)>=dO w
abbrev bNu(n:Nat)(w:den tNw):Prop:=bP 0 n w
theorem bP.mono{l:Nat}{n m:Nat}{w:den tNw}(h:bP l n w)(hm:n<=m):bP l m w:=⟨h.1,by have :=h.2;omega⟩
theorem bP.eq{l:Nat}{n:Nat}{w w':den tNw}(h:bP l n w)(e:dO w'=dO w):bP l n w':=by
 unfold bP;rw[e];exact h
theorem bP.drop{l:Nat}{n:Nat}{w:den tNw}(h:bP l n w)(hn:n<=1000000000):bP l (n+1) (rX w):=by
 obtain⟨h0,h1⟩:=h;have e:wr (dO w+1)=dO w+1:=bD (by omega) (by omega);exact⟨by show (l:Int)<=wr (dO w+1);omega,by show ((n+1:Nat):Int)>=wr (dO w+1);omega⟩
theorem bP.send{l:Nat}{n:Nat}{w:den tNw}(h:bP l n w)(hn:n<=1000000000)(r eg:Int)(p:den tPk):bP l (n+1) (dS w r eg p):=by
 unfold dS;split
 .exact h.mono (bXi _)
 .exact h.drop hn
theorem bP.proc0{l:Nat}{n:Nat}{w:den tNw}(h:bP l n w)(hn:n<=1000000000)(r inn:Int)(p:den tPk):bP l (n+1) (proc0 w r inn p):=by
 unfold Go.Proofs.YtnkjolpkcmgcaaaGreat.proc0;split
 .exact h.send hn _ _ _
 .split
  .exact bP.mono (n:=n) (h.eq rfl) (bXi _)
  .exact h.drop hn
theorem bP.proc{l:Nat}{n:Nat}{w:den tNw}(h:bP l n w)(hn:n<=999999000)(r inn:Int)(p:den tPk):bP l (n+2) (cO w r inn p):=by
 unfold cO;split
 .exact (h.send (by omega) _ _ _).mono (by omega)
 .split
  .split
   .unfold kL;split
    .exact h.mono (by omega)
    .split
     .refine bP.mono (n:=n+1) (bP.proc0 (n:=n) ?_ (by omega) _ _ _) (by omega);exact bP.eq h rfl
     .exact bP.mono (n:=n) (h.eq rfl) (by omega)
   .exact bP.mono (n:=n) (h.eq rfl) (by omega)
  .split
   .unfold nY;split
    .exact (h.proc0 (by omega) _ _ _).drop (by omega)
    .refine bP.mono (n:=n+1) (bP.drop (n:=n) ?_ (by omega)) (by omega);exact bP.eq h rfl
   .exact (h.drop (by omega)).mono (by omega)
theorem bP.stepT{l:Nat}{n:Nat}{w:den tNw}(h:bP l n w)(hn:n<=999999000)(k:Nat):bP l (n+2) (stepT k w):=by
 unfold Go.Proofs.YtnkjolpkcmgcaaaGreat.stepT;split
 .split
  .refine bP.proc (n:=n) ?_ hn _ _ _;exact bP.eq h rfl
  .exact bP.mono (n:=n) (h.eq rfl) (by omega)
 .exact h.mono (by omega)
theorem bP.tickL{l:Nat}{m:Nat}:∀(m k:Nat) {n:Nat} {w:den tNw},bP l n w->n+2 * m<=999999000->bP l (n+2 * m) (tickL k m w)
 | 0,_,_,_,h,_=>h
 | m+1,k,n,w,h,hn=>by
  unfold Go.Proofs.YtnkjolpkcmgcaaaGreat.tickL;exact (bP.tickL (m:=0) m (k+1) (h.stepT (by omega) k) (by omega)).mono (by omega)
theorem bP.event{l:Nat}{n:Nat}{w:den tNw}{e:den pG}(h:bP l n w)(hf:(aB w).length<=4)(hn:n<=900000000):bP l (n+8) (doW w e).2:=by
 have same:bP l (n+8) w:=h.mono (by omega);unfold doW;split
 .show bP l (n+8) (cJ w);unfold cJ;split
  .exact same
  .refine bP.mono (n:=n+2 * (aB w).length) (bP.tickL (m:=0) (aB w).length 0 (n:=n) ?_ (by omega)) (by omega);exact bP.eq h rfl
 .split
  .split
   .refine bP.mono (n:=n+2) (bP.proc (n:=n) ?_ (by omega) _ _ _) (by omega);exact bP.eq h rfl
   .exact same
  .split
   .split
    .refine bP.mono (n:=n+1) (bP.drop (n:=n) ?_ (by omega)) (by omega);exact bP.eq h rfl
    .exact same
   .split
    .split
     .exact same
     .exact same
    .split
     .show bP l (n+8) (vW w e.2.1 (e.1==5));unfold vW;split
      .exact same
      .exact same
     .split
      .split
       .exact same
       .exact same
      .split
       .split
        .exact same
        .exact same
       .exact same
def zH(m:Nat)(l:List Int):Prop:=l.Pairwise (λa b=>a<b)/\ ∀n∈l,0<=n/\n<(m:Int)
theorem bHs(m:Nat)(dead:List Int)(i:Int)(b:Bool):zH m (aF7 m dead i b):=by
 unfold aF7;refine⟨List.Pairwise.filter _ (List.pairwise_map.2 (List.pairwise_lt_range.imp λh=>by omega)),λn hn=> ?_⟩;obtain⟨k,hk,rfl⟩:=bWr.1 (bWy.1 hn).1;have :=List.mem_range.1 hk;exact⟨by omega,by omega⟩
theorem zH.all{m:Nat}{l:List Int}(h:zH m l):(l.zipIdx 0).all (λz=>aD4 l m z.2 z.1)=true:=by
 refine (kJ (aD4 l m) l).2 λk n hn=> ?_
 unfold aD4;have hm:=h.2 n (bWu hn);rw[bWj,bX2,zR];refine⟨aI.2 ⟨hm.1,by omega⟩,?_⟩
 by_cases h0:k=0
 .exact .inl h0
 .right;obtain⟨hk,e⟩:=bWn.1 hn;have :=(bYk.1 h.1) (k - 1) k (by omega) hk (by omega);rw[bWl (show k - 1<l.length by omega),bXo];rw[e]at this;rw[zW (show ¬ (l[k - 1]'(by omega)>=n) by omega)];rfl
theorem aIa(w:den tNw)(r eg:Int)(p:den tPk):aJ (dS w r eg p)=aJ w:=by unfold dS;split<;>rfl
theorem aNz(w:den tNw)(r inn:Int)(p:den tPk):aJ (proc0 w r inn p)=aJ w:=by
 unfold proc0;split
 .exact aIa _ _ _ _
 .split<;>rfl
theorem bFa(w:den tNw):aJ (rX w)=aJ w:=rfl
theorem aB9(w:den tNw)(r inn:Int)(p:den tPk):aJ (cO w r inn p)=aJ w:=by
 unfold cO;split
 .exact aIa _ _ _ _
 .split
  .split
   .unfold kL;split
    .rfl
    .split
     .refine Eq.trans (aNz _ _ _ _) ?_;rfl
     .rfl
   .rfl
  .split
   .unfold nY;split
    .rw[bFa];exact aNz _ _ _ _
    .rfl
   .rfl
theorem bD1(k:Nat)(w:den tNw):aJ (stepT k w)=aJ w:=by
 unfold stepT;split
 .split
  .rename_i f hf hb;exact aB9 (bK w ((aB w).set k (aF f).1)) _ _ _
  .rfl
 .rfl
theorem aO7:∀(n k:Nat) (w:den tNw),aJ (tickL k n w)=aJ w
 | 0,_,_=>rfl
 | n+1,k,w=>by
  unfold tickL;exact (aO7 n (k+1) (stepT k w)).trans (bD1 k w)
theorem aF6(w:den tNw):aJ (cJ w)=aJ w:=by
 unfold cJ;split
 .rfl
 .exact aO7 (aB w).length 0 (tick0 w)
theorem aVx{w:den tNw}{e:den pG}(h:zH (nT w).2.length (aJ w)):zH (nT w).2.length (aJ (doW w e).2):=by
 unfold doW;split
 .show zH _ (aJ (cJ w));rw[aF6];exact h
 .split
  .split
   .show zH _ (aJ (cO _ _ _ _));rw[aB9];exact h
   .exact h
  .split
   .split<;>exact h
   .split
    .split<;>exact h
    .split
     .show zH _ (aJ (vW w e.2.1 (e.1==5)));unfold vW;split
      .exact h
      .exact bHs _ _ _ _
     .split
      .split<;>exact h
      .split
       .split<;>exact h
       .exact h
theorem aLp:∀l:lMs,wN l l=true
 | []=>rfl
 | x::l=>by
  show (aG1 x x&&wN l l)=true;rw[aLp l,Bool.and_true];unfold aG1;exact beq_self_eq_true _
theorem vH.ok{t:den tTo}{f:den tFl}{x:den tIb}(h:vH t f x):xOk x=true/\aCv f x=true:=by
 have hv:=(lS f).1 h.val;obtain⟨q1,q2,q3,q4,q5,q6,q7,q8,q9,q10,q11,q12⟩:=hv;have hl:=h.len;have hn:=h.next
 constructor
 .unfold xOk;simp only[bWj,bW8,beq_eq_false_iff_ne,beq_iff_eq,zR,bW5];refine⟨by rw[h.xAS];exact q2,by rw[h.xFrom];exact q1,λe=>q3 (by rw[<- h.xAS,<- h.xFrom];exact e.symm),hn,?_,λm hm=> ?_⟩
  .show (20:Int)>=x.2.2.1;rw[hn];omega
  .have hm':m∈f.2.2.2.2.1:=by
    rw[h.recv]at hm;exact bX8 hm
   exact q8 m hm'
 .unfold aCv;simp only[bWj,beq_iff_eq,zR];refine⟨h.xAS,h.xFrom,hl,?_,h.ack⟩;rw[<- aE6,<- h.recv];exact aLp _
structure gH (t:den tTo) (B k d:Nat) (w:den tNw):Prop where
 run:qI t B k w
 inv:aZ t w
 drop:bNu d w
 dead:zH t.2.length (aJ w)
theorem gH.mono{t:den tTo}{B C k j d e:Nat}{w:den tNw}(h:gH t B k d w)(hB:B<=C)(hk:k<=j)(hd:d<=e):gH t C j e w:=⟨h.run.mono hB hk,h.inv,h.drop.mono hd,h.dead⟩
theorem gH.valid{t:den tTo}{B k d:Nat}{w:den tNw}(h:gH t B k d w)(hk:k<=1000)(ht:kQ t=true):aE1 w=true:=by
 have htop:w.1=t:=h.run.top;have hlo:=leI h.run.lo;have hhi:=leI h.run.hi;have hd:=h.drop.1;have hfl:w.2.2.2.2.2.2.1.length<=4:=h.run.keep.flows;have hfy:w.2.2.2.2.2.1.length<=150:=h.run.flyN;unfold aE1;simp only[bWj,zR,bW8,decide_eq_false_iff_not,bW5];refine⟨by rw[htop];exact ht,aI.2 ⟨hlo,leI (bX4 hhi (by omega))⟩,bO8.2 h.run.gate,?_,hfy,hfl,h.inv.lenB,?_,λx hx=>by rw[htop];exact h.inv.to x hx,?_⟩
 .have :=(zH.all h.dead)
  rw[bW5]at this;rw[htop];exact this
 .show ¬ ((dO w:Int)<0);omega
 .have :(w.2.2.2.2.2.2.1.zipIdx 0).all (λz=>aD8 w z.2 z.1&&aEi w z.2 z.1)=true:=by
   refine (kJ (λk f=>aD8 w k f&&aEi w k f) _).2 λj f hf=> ?_
   have hj:=(bWn.1 hf).1;have hb:j<(aL w).length:=by rw[h.inv.lenB];exact hj
   have hx:(aL w)[j]? =some (aL w)[j]:=bWl hb;have hfi:=h.inv.flow j f _ hf hx;obtain⟨o1,o2⟩:=hfi.ok;rw[bWj];constructor
   .unfold aD8;rw[show w.2.2.2.2.2.2.2.1[j]? =some (aL w)[j] from hx];simp only[bWj];exact⟨hfi.val,by rw[htop];exact hfi.src,by rw[htop];exact hfi.dst,o1,o2⟩
   .unfold aEi;rw[bW5];intro g hg;obtain⟨i,hi,hg⟩:=aJa hg;obtain⟨hi',ei⟩:=bWn.1 hg;obtain⟨hj',ej⟩:=bWn.1 hf;have :=(bYk.1 h.inv.uniq) i j hi' hj' hi;have e1:(aB w)[i]=g:=ei;have e2:(aB w)[j]=f:=ej;rw[e1,e2]at this;rw[this];rfl
  rw[bW5]at this;intro z hz;have :=this z hz;rw[bWj]at this;exact this
structure aBv (t:den tTo) (k:Nat) (w:den tNw):Prop where
 run:qI t (1000+2000 * k) k w
 inv:aZ t w
 drop:bNu (8 * k) w
 dead:zH t.2.length (aJ w)
theorem aBv.round{t:den tTo}{k:Nat}{w:den tNw}(h:aBv t k w):gH t (1000+2000 * k) k (8 * k) w:=⟨h.run,h.inv,h.drop,h.dead⟩
theorem aBv.valid{t:den tTo}{k:Nat}{w:den tNw}(h:aBv t k w)(hk:k<=1000)(ht:kQ t=true):aE1 w=true:=h.round.valid hk ht
theorem nV.runV{v:den tNw}(h:nV 3 v):aBv (nT v) 0 v where
 run:=h.run
 inv:=by
  refine⟨rfl,by rw[h.box,bXe],λk f x hf hx=> ?_,h.uniq,λy hy=>(by rw[h.fly]at hy;cases hy),λy hy=>(by rw[h.fly]at hy;cases hy)⟩;have hm:=bWu hf;have hF:=h.flows f hm;rw[h.box,bXx,hf]at hx;have hx:some ((f.2.1,f.1,0,[]):den tIb)=some x:=hx;injection hx with hx;subst hx;exact⟨hF.val,hF.src,hF.dst,rfl,rfl,rfl,rfl,bW3 _,by rw[hF.ack];exact bXl _,hF.ends⟩
 drop:=⟨by rw[h.drop];decide,by rw[h.drop];decide⟩
 dead:=by rw[h.dead];exact⟨List.Pairwise.nil,λn hn=>(bW7 hn).elim⟩
theorem aBv.event{t:den tTo}{k:Nat}{w:den tNw}{e:den pG}(h:aBv t k w)(hk:k<=1000)(ht:t.2.length<=100)(he:EvD w e):aBv t (k+1) (doW w e).2 where
 run:=(aP1 h.run (by omega) (by omega) he.s).mono (by omega) (bWx _)
 inv:=aZ4 h.inv h.run.keep.bytes.fly he.pk.2 he.harm
 drop:=(h.drop.event h.run.keep.flows (by omega)).mono (by omega)
 dead:=by
  have :=aVx (w:=w) (e:=e) (by rw[h.run.top];exact h.dead);rw[h.run.top]at this;exact this
theorem Ran.runV{v:den tNw}(hv:nV 3 v){l:xH}{w:den tNw}(h:Ran v l w):l.length<=1000->aBv (nT v) l.length w:=by
 induction h with
 | nil=>intro _;exact hv.runV
 | snoc h he ih=>
  intro hl;simp only[bW9,bX5]at hl ⊢;exact (ih (by omega)).event (by omega) hv.top.links he
theorem aH5{l:List Int}{n:Int}:qO l n=true↔n∈l:=by
 unfold qO;rw[bW8,List.all_eq_false];constructor
 .rintro⟨x,hx,e⟩
  have :x=n:=by simpa using e
  rw[<- this];exact hx
 .intro h;exact⟨n,h,by simp⟩
theorem bHu{R T:Type}{n:Nat}(hn:n<=10000000){step:Int->Option (Int⊕R)}{r:R}{k:R->Option T}(h:∀i:Nat,i<n->step (i:Int)=some (.inl ((i+1:Nat):Int)))(he:step (n:Int)=some (.inr r)):Option.bind (aC step (0:Int)) k=k r:=by
 refine iM (G:=λo=>o=k r) n (λs:Int=>s) (λ_ _=>True) (λx=>x=r) ?_ ?_ 0 (0:Int) (bW3 _) rfl trivial (λx hx=>by rw[hx])
 .rintro i _ hi rfl _
  exact .inr ⟨_,h i hi,rfl,trivial⟩
 .rintro _ rfl _
  exact⟨r,he,rfl⟩
def bS0:den tNw->xH->den tNw
 | w,[]=>w
 | w,e::l=>bS0 (doW w e).2 l
def bDu:den tNw->xH->Prop
 | _,[]=>True
 | w,e::l=>EvD w e/\bDu (doW w e).2 l
theorem bDu.runV{t:den tTo}(ht:t.2.length<=100):∀{l:xH} {k:Nat} {w:den tNw},aBv t k w->bDu w l->k+l.length<=1000->aBv t (k+l.length) (bS0 w l)
 | [],_,_,h,_,_=>h
 | e::l,k,w,h,hd,hk=>by
  have hk:k+(l.length+1)<=1000:=hk;have :=bDu.runV ht (h.event (by omega) ht hd.1) hd.2 (by omega:k+1+l.length<=1000);have hn:k+(l.length+1)=k+1+l.length:=by omega
  show aBv t (k+(l.length+1)) _;rw[hn];exact this
def aF2(w w':den tNw):Prop:=(aB w').length=(aB w).length/\ ∀(k:Nat) (f f':den tFl),(aB w)[k]? =some f->(aB w')[k]? =some f'->f.2.2.2.1<=f'.2.2.2.1
def bNz(s d:Int)(w w':den tNw):Prop:=(aL w').length=(aL w).length/\ ∀(k:Nat) (x x':den tIb),(aL w)[k]? =some x->(aL w')[k]? =some x'->x'=x\/(x.2.1=s/\x.1=d/\x'.2.2.2.length=x.2.2.2.length+1)
theorem aF2.same{w w':den tNw}(h:aB w'=aB w):aF2 w w':=by
 refine⟨by rw[h],λk f f' h1 h2=> ?_⟩;rw[h,h1]at h2;injection h2 with h2;rw[h2];exact bXl _
theorem aF2.trans{a b c:den tNw}(h:aF2 a b)(g:aF2 b c):aF2 a c:=by
 refine⟨g.1.trans h.1,λk f f' h1 h2=> ?_⟩;have hk:k<(aB b).length:=by rw[h.1];exact (bWn.1 h1).1
 exact bX4 (h.2 k f _ h1 (bWl hk)) (g.2 k _ f' (bWl hk) h2)
theorem bNz.same{s d:Int}{w w':den tNw}(h:aL w'=aL w):bNz s d w w':=by
 refine⟨by rw[h],λk x x' h1 h2=> .inl ?_⟩;rw[h,h1]at h2;injection h2 with h2;exact h2.symm
def bNr(P:Nat->Prop)(w w':den tNw):Prop:=(aL w').length=(aL w).length/\ ∀(k:Nat) (x x':den tIb),(aL w)[k]? =some x->(aL w')[k]? =some x'->x'.2.2.2.length=x.2.2.2.length\/(P k/\x'.2.2.2.length=x.2.2.2.length+1)
theorem bNr.same{P:Nat->Prop}{w w':den tNw}(h:aL w'=aL w):bNr P w w':=by
 refine⟨by rw[h],λk x x' h1 h2=> .inl ?_⟩;rw[h,h1]at h2;injection h2 with h2;rw[h2]
structure hZ (w w':den tNw):Prop where
 top:nT w'=nT w
 book:nK w'=nK w
 flows:(aB w').length=(aB w).length
 now:aH w<=aH w'
theorem hZ.refl(w:den tNw):hZ w w:=⟨rfl,rfl,rfl,bXl _⟩
theorem hZ.trans{a b c:den tNw}(h:hZ a b)(k:hZ b c):hZ a c:=⟨k.top.trans h.top,k.book.trans h.book,k.flows.trans h.flows,bX4 h.now k.now⟩
theorem yA(w:den tNw):hZ w (rX w):=⟨rfl,rfl,rfl,bXl _⟩
theorem aGf(w:den tNw)(l:lFy):hZ w (bF w l):=⟨rfl,rfl,rfl,bXl _⟩
theorem aCd(w:den tNw){l:lFl}(h:l.length=(aB w).length):hZ w (bK w l):=⟨rfl,rfl,h,bXl _⟩
theorem aJl(w:den tNw)(r:Int)(p:den tPk):hZ w (oQ w r p):=aCd w (bXe _)
theorem aRw(w:den tNw)(r eg:Int)(p:den tPk):hZ w (dS w r eg p):=by
 unfold dS;split
 .exact⟨rfl,rfl,rfl,bXl _⟩
 .exact yA w
theorem aO8(w:den tNw)(r inn:Int)(p:den tPk):hZ w (proc0 w r inn p):=by
 unfold proc0;split
 .exact aRw _ _ _ _
 .split
  .exact aJl _ _ _
  .exact yA w
theorem aWk(w:den tNw)(i:Nat)(x:den tIb):hZ w (mH w i x):=⟨rfl,rfl,rfl,bXl _⟩
theorem aS2(w:den tNw)(r inn:Int)(p:den tPk):hZ w (cO w r inn p):=by
 unfold cO;split
 .exact aRw _ _ _ _
 .split
  .split
   .unfold kL;split
    .exact hZ.refl w
    .split
     .exact (aWk w _ _).trans (aO8 _ _ _ _)
     .exact aWk w _ _
   .exact aJl _ _ _
  .split
   .unfold nY;split
    .exact (aO8 _ _ _ _).trans (yA _)
    .exact (aJl _ _ _).trans (yA _)
   .exact yA w
theorem bDj(k:Nat)(w:den tNw):hZ w (stepT k w):=by
 unfold stepT;split
 .split
  .exact (aCd w (bYb)).trans (aS2 _ _ _ _)
  .exact aCd w (bYb)
 .exact hZ.refl w
theorem aOa:∀(n k:Nat) (w:den tNw),hZ w (tickL k n w)
 | 0,_,w=>hZ.refl w
 | n+1,k,w=>by
  unfold tickL;exact (bDj k w).trans (aOa n (k+1) (stepT k w))
theorem bGx{w:den tNw}(h0:(0:Int)<=aH w):hZ w (cJ w):=by
 unfold cJ;split
 .exact hZ.refl w
 .rename_i h;have e:wr (aH w+1)=aH w+1:=bD (by omega) (by omega);have a:hZ w (tick0 w):=⟨rfl,rfl,rfl,by show aH w<=wr (aH w+1);omega⟩
  exact a.trans (aOa _ _ _)
theorem bKk{w:den tNw}{e:den pG}(h0:(0:Int)<=aH w):hZ w (doW w e).2:=by
 unfold doW;split
 .exact bGx h0
 .split
  .split
   .exact (aGf w _).trans (aS2 _ _ _ _)
   .exact hZ.refl w
  .split
   .split
    .exact (aGf w _).trans (yA _)
    .exact hZ.refl w
   .split
    .split
     .exact aGf w _
     .exact hZ.refl w
    .split
     .show hZ w (vW w e.2.1 (e.1==5));unfold vW;split
      .exact hZ.refl w
      .exact⟨rfl,rfl,rfl,bXl _⟩
     .split
      .split
       .exact aGf w _
       .exact hZ.refl w
      .split
       .split
        .exact aCd w (bYb)
        .exact hZ.refl w
       .exact hZ.refl w
theorem Ran.book{v:den tNw}(hv:nV 3 v){l:xH}{w:den tNw}(h:Ran v l w):l.length<=1000->nK w=nK v:=by
 induction h with
 | nil=>intro _;rfl
 | snoc h he ih=>
  intro hl;simp only[bW9,bX5]at hl;have hr:=h.runV hv (by omega);exact (bKk hr.run.lo).book.trans (ih (by omega))
def eB:lPp->Nat
 | []=>0
 | x::l=>x.2.2.2.length+eB l
theorem aBo:∀a b:lPp,eB (a++b)=eB a+eB b
 | [],b=>(Nat.zero_add _).symm
 | x::a,b=>by
  show x.2.2.2.length+eB (a++b)=x.2.2.2.length+eB a+eB b;rw[aBo a b];omega
theorem aEg:∀l:lPp,eB l<=tot (.sl tPp) l
 | []=>bW3 _
 | x::l=>by
  have :=aEg l;rw[iU];have e:tot tPp x=x.2.2.2.length:=by
   show tot ti x.1+(tot ti x.2.1+(tot ti x.2.2.1+tot (.sl aR) x.2.2.2))=_;rw[jH (t:=aR) rfl];simp[sF]
  show x.2.2.2.length+eB l<=_;omega
theorem aIq:∀l:lPp,eB (cH l)=eB l
 | []=>rfl
 | x::l=>by
  have :=aIq l;unfold cH at this ⊢;rw[bZo,bX6,aBo,this];show eB l+((dN x).2.2.2.length+0)=x.2.2.2.length+eB l;unfold dN;simp only[bYz];omega
def rT(p:den tPk):Nat:=eB (p.2.2.2.1.drop p.2.2.2.2.1.toNat) - p.2.2.2.2.2.1.toNat
theorem bTn{p:den tPk}(h:cB p=true):∃i j:Nat,p.2.2.2.2.1=(i:Int)/\p.2.2.2.2.2.1=(j:Int)/\j<(bH p).2.2.2.length/\eB (p.2.2.2.1.drop i)=(bH p).2.2.2.length+eB (p.2.2.2.1.drop (i+1)):=by
 obtain⟨i,j,h1,h2,h3,h4,_⟩:=mR h;refine⟨i,j,h1,h2,(bWn.1 h4).1,?_⟩;obtain⟨hlt,e⟩:=bWn.1 h3;rw[bZa hlt,e];rfl
theorem aZu{p:den tPk}(h:cB p=true)(h0:0<=bZ p)(ha:cZ p=false):rT (adv p)+1=rT p:=by
 obtain⟨i,j,h1,h2,h3,h4⟩:=bTn h;unfold adv;rw[ha,zW (show ¬ bZ p<0 by omega),bZq,zS (by decide)];unfold rT;rw[h1,h2,bWs,bWs,h4];split
 .rename_i hl;unfold cY at hl;rw[h2]at hl;have hl:(j:Int)=((bH p).2.2.2.length:Int) - 1:=eq_of_beq hl;show eB (p.2.2.2.1.drop ((i:Int)+1).toNat) - (0:Int).toNat+1=_;rw[show ((i:Int)+1).toNat=i+1 by omega,show (0:Int).toNat=0 from rfl];omega
 .rename_i hl;show eB (p.2.2.2.1.drop (i:Int).toNat) - ((j:Int)+1).toNat+1=_;rw[show ((j:Int)+1).toNat=j+1 by omega,bWs,h4];omega
theorem aGr(t:den tTo)(p:den tPk):rT (aT t p)=rT p:=by
 unfold aT;split<;>rfl
theorem aZr{t:den tTo}{now:Int}:∀(n:Nat) (p:den tPk),(goC t now n p).1=0->rT (goC t now n p).2<=rT p
 | 0,p,h=>bYh (aGr t p)
 | n+1,p,h=>by
  obtain⟨h1,h2⟩:=vM (yG h);obtain⟨e1,e2,_⟩:=zM t p;unfold goC at h|-;split at h
  .rename_i hc;rw[zT hc];simp only[bWj,bW8]at hc;have :=aZr n _ h;have h3:=aZu (p:=aT t p) (e1.trans h1) (by rw[e2];exact h2) hc.2.2;rw[aGr]at h3;omega
  .rename_i hc;rw[zS hc];exact bYh (aGr t p)
theorem aRj{t:den tTo}{r now dead inn:Int}{p:den tPk}(h:(fwd t r now dead inn p).1=0):rT (fwd t r now dead inn p).2.2.1+1<=rT p:=by
 unfold fwd at h|-;split at h
 .exact absurd h (show ¬ ((2:Int)=0) by decide)
 rename_i c1;rw[zS c1];split at h
 .exact absurd h (show ¬ ((3:Int)=0) by decide)
 rename_i c2;rw[zS c2];split at h
 .rename_i c3;simp only[bW8,beq_eq_false_iff_ne]at c3;exact absurd h c3
 rename_i c3;rw[zS c3];split at h
 .split at h<;>first | exact absurd h (show ¬ ((1:Int)=0) by decide) | exact absurd h (show ¬ ((2:Int)=0) by decide)
 rename_i c4;rw[zS c4];split at h
 .exact absurd h (show ¬ ((6:Int)=0) by decide)
 rename_i c5;rw[zS c5];split at h
 .exact absurd h (show ¬ ((7:Int)=0) by decide)
 rename_i c6;rw[zS c6];have c3:(aX t now p).1=0:=by simpa using c3
 have c4:cZ (aX t now p).2=false:=by simpa using c4
 obtain⟨q1,q2,_⟩:=aAk (t:=t) (now:=now) (p.2.2.2.1.length - p.2.2.2.2.1.toNat) p c3;have a:=aZr (t:=t) (now:=now) (p.2.2.2.1.length - p.2.2.2.2.1.toNat) p c3;have b:=aZu (p:=(aX t now p).2) q1 q2 c4;show rT (adv (aX t now p).2)+1<=rT p;have a:rT (aX t now p).2<=rT p:=a;omega
def aBw(p:den tPk):Nat:=1+rT p+cond (p.1==(1:Int)) 72 0
theorem bKe{t:den tTo}{now:Int}{dead:List Int}{r inn:Int}{p:den tPk}(h:((aD t now dead r inn p).1==0)=true):aBw (aD t now dead r inn p).2.2.1+1<=aBw p:=by
 have h:(fwd t r now (dU t dead r) inn p).1=0:=eq_of_beq (show ((fwd t r now (dU t dead r) inn p).1==0)=true from h);have a:=aRj h;have b:=(aBh t r now (dU t dead r) inn p).1;unfold aD aBw;rw[b];omega
theorem bFy(t:den tTo)(r:Int):dU t [] r=0:=by
 unfold dU;have :∀(l:List Int) (k:Nat),bN (λ_ x a=>cond (qO [] (lP t r x)) (aV6 a x) a) k l (0:Int)=0:=by
  intro l
  induction l with
  | nil=>intro k;rfl
  | cons x l ih=>intro k;exact ih (k+1)
 exact this _ _
theorem bD5(i:Int):xR 0 i=false:=by
 unfold xR;cases h:inR i 0 15 with
 | false=>simp
 | true=>
  obtain⟨h0,h1⟩:=aI.1 h;obtain⟨n,rfl⟩:=bXs h0;have hn:n<=15:=by omega
  clear h h0 h1
  revert n
  decide
theorem bF4(w:den tNw):aJ (outW w)=aJ w:=by
 unfold outW;split
 .rfl
 .exact aB9 _ _ _ _
theorem gH.out{t:den tTo}{B k d:Nat}{w:den tNw}(h:gH t B k d w)(hd:d<=900000000):gH t (B+164) k (d+2) (outW w):=by
 unfold outW;split
 .exact h.mono (by omega) (bWx _) (by omega)
 .rename_i x l hf;have hx:x∈aE w:=by rw[hf];exact bWt ..
  have hs:bG w (bF w l):=⟨rfl,rfl,id,λy hy=> .inl (by rw[hf];exact bWo _ hy),λhn=>by
   rw[hf]at hn;show l.length<=150;simp only[bXp]at hn;omega⟩
  obtain⟨k1,k2,k3⟩:=aMi h.run.keep hf;have hk:=aHm (r:=x.1) (inn:=x.2.1) (p:=x.2.2) k1 k3;refine⟨h.run.step (hs.trans (bG.proc _ _ _ _)) hk,?_,?_,?_⟩
  .exact yQ (h.inv.same (w':=bF w l) rfl rfl rfl λy hy=> .inl (by rw[hf];exact bWo _ hy)) (h.inv.good x hx)
  .exact bP.proc (n:=d) (w:=bF w l) (bP.eq h.drop rfl) (by omega) _ _ _
  .rw[aB9];exact h.dead
theorem gH.del{t:den tTo}:∀(n:Nat) {B k d:Nat} {w:den tNw},gH t B k d w->d+2 * n<=900000000->gH t (B+n * 164) k (d+2 * n) (delW n w)
 | 0,B,k,d,w,h,_=>h.mono (by omega) (bWx _) (by omega)
 | n+1,B,k,d,w,h,hd=>by
  unfold delW;split
  .exact h.mono (by omega) (bWx _) (by omega)
  .exact (gH.del n (h.out (by omega)) (by omega)).mono (by rw[bXk];omega) (bWx _) (by omega)
theorem gH.tick{t:den tTo}{B k d:Nat}{w:den tNw}(h:gH t B k d w)(hk:k<=1000)(hd:d<=900000000):gH t (B+656) (k+1) (d+8) (cJ w):=by
 refine⟨aTi h.run (by omega),aSd h.inv,?_,by rw[aF6];exact h.dead⟩;have hf:=h.run.keep.flows;unfold cJ;split
 .exact h.drop.mono (by omega)
 .refine bP.mono (n:=d+2 * (aB w).length) (bP.tickL (m:=0) (aB w).length 0 (n:=d) ?_ (by omega)) (by omega);exact bP.eq h.drop rfl
theorem gH.step{t:den tTo}{B k d:Nat}{w:den tNw}(h:gH t B k d w)(hk:k<=1000)(hd:d<=800000000):gH t (B+328656) (k+1) (d+4008) (delW 2000 (cJ w)):=
 ((h.tick hk (by omega)).del 2000 (by omega)).mono (by omega) (bWx _) (by omega)
theorem wS:∀(n:Nat) (w:den tNw),bC (n+1) w=gZ (bC n w)
 | 0,_=>rfl
 | n+1,w=>wS n (gZ w)
def aZi(w:den tNw)(n:Int):Int×q3:=
 ((nG w).1,aH w,dO w,n,(nT w).1,(nT w).2,(nK w).1,(nK w).2,(nG w).2.1,(nG w).2.2,aJ w,aE w,aB w,aL w)
theorem bLf{code:List Int}(hl:code.length<=1048576):∃w n,tD code=some (aZi w n)/\nV 3 w/\(0<=n/\n<256):=by
 obtain⟨c0,p0,h0,e0,k0⟩:=bPs hl;obtain⟨w,c1,p1,h1,e1,hw,k1⟩:=bQo hl k0;obtain⟨v,c2,p2,h2,e2,r2,k2⟩:=dQ hl (n:=256) (by decide) (by decide) k1;refine⟨w,v,?_,hw,r2⟩;unfold tD pj3 dD eV eX qG zz4 zz5 zz6 zz7 zz8 zz9;simp only[e0,e1,bTp,e2,aA];rfl
def mW(p:den tPk):Nat:=if cL p then aBw p else 1
theorem aVu(p:den tPk):1<=mW p:=by
 unfold mW aBw;split<;>omega
theorem bQ4(p:den tPk):mW p<=140:=by
 unfold mW;split
 .rename_i hv;have ht:=aCj hv;have hk:tot tPk p=tot tPt p.2.2.2.1+tot (.sl tb) p.2.2.2.2.2.2.2.2.2:=by simp[rH,sF]
  have hh:=aEg p.2.2.2.1;have hh:eB p.2.2.2.1<=tot tPt p.2.2.2.1:=hh;have hr:rT p<=eB p.2.2.2.1:=by
   unfold rT;have e:=aBo (p.2.2.2.1.take p.2.2.2.2.1.toNat) (p.2.2.2.1.drop p.2.2.2.2.1.toNat);rw[bX0]at e;omega
  have hc:cond (p.1==(1:Int)) 72 0<=72:=by cases (p.1==(1:Int))<;>decide
  unfold aBw;omega
 .decide
theorem aSb{p:den tPk}(h:(p.1==(1:Int))=false)(hh:eB p.2.2.2.1<=70)(h0:rT p<=eB p.2.2.2.1):mW p<=71:=by
 unfold mW;split
 .unfold aBw;rw[h];show 1+rT p+0<=71;omega
 .decide
def aG5:lFy->Nat
 | []=>0
 | x::l=>mW x.2.2+aG5 l
theorem aS6:∀(l:lFy) (x:den tFy),aG5 (l++[x])=aG5 l+mW x.2.2
 | [],x=>by show mW x.2.2+0=0+mW x.2.2;omega
 | y::l,x=>by
  show mW y.2.2+aG5 (l++[x])=mW y.2.2+aG5 l+mW x.2.2;rw[aS6 l x];omega
def fF(w:den tNw):Nat:=aG5 (aE w)
theorem aSz(w:den tNw)(r eg:Int)(p:den tPk):fF (dS w r eg p)<=fF w+mW p:=by
 unfold dS;split
 .show aG5 (aE w++[_])<=_;rw[aS6];exact bWx _
 .exact bZn _ _
theorem aR5{t:den tTo}{now:Int}{dead:List Int}{r inn:Int}{p:den tPk}(h:((aD t now dead r inn p).1==0)=true):cL p=true/\mW (aD t now dead r inn p).2.2.1+1<=mW p:=by
 have hv:cL p=true:=aEv (t:=t) (r:=r) (now:=now) (dead:=dU t dead r) (inn:=inn) (by
  have h:((fwd t r now (dU t dead r) inn p).1==0)=true:=h;rw[eq_of_beq h];rfl)
 refine⟨hv,?_⟩;have a:=bKe h;have b:mW (aD t now dead r inn p).2.2.1<=aBw (aD t now dead r inn p).2.2.1:=by
  unfold mW;split
  .exact bWx _
  .unfold aBw;omega
 have c:mW p=aBw p:=by unfold mW;rw[zT hv]
 omega
theorem aO3(w:den tNw)(r inn:Int)(p:den tPk):fF (proc0 w r inn p)+1<=fF w+mW p:=by
 have hp:=aVu p;unfold proc0;split
 .rename_i hc;have :=(aR5 hc).2;have :=aSz w r (aD (nT w) (aH w) (aJ w) r inn p).2.1 (aD (nT w) (aH w) (aJ w) r inn p).2.2.1;omega
 .split
  .show fF w+1<=_;omega
  .show fF w+1<=_;omega
theorem aZ5{kind res seq:Int}{p:den tPt}{pay:List Int}:rT (bU kind p res seq pay)=eB p:=by
 show eB (List.drop 0 p) - 0=eB p;rw[List.drop_zero];rfl
theorem bDr:∀(l:lPp) (i j:Nat),eB (aC1 l i j)<=eB l:=by
 intro l i j;unfold aC1;split
 .rename_i x hx;rw[aBo];have e:=aBo (l.take i) (l.drop i);rw[bX0]at e;obtain⟨hlt,e2⟩:=bWn.1 hx;rw[bZa hlt,e2]at e;have e:eB l=eB (l.take i)+(x.2.2.2.length+eB (l.drop (i+1))):=e;show eB (l.take i)+((x.2.2.2.take (j+1)).length+0)<=_;rw[bXw];omega
 .exact bW3 _
theorem aX4(p:den tPk):eB (uI p)<=eB p.2.2.2.1:=by
 unfold uI;split
 .exact bW3 _
 .exact bDr _ _ _
theorem aOs{p:den tPk}(hv:cL p=true):eB p.2.2.2.1<=67:=by
 have ht:=aCj hv;have hk:tot tPk p=tot tPt p.2.2.2.1+tot (.sl tb) p.2.2.2.2.2.2.2.2.2:=by simp[rH,sF]
 have hh:=aEg p.2.2.2.1;have hh:eB p.2.2.2.1<=tot tPt p.2.2.2.1:=hh;omega
theorem bB7{w:den tNw}{r:Int}{p:den tPk}(h:eB p.2.2.2.1<=70):fF (kL w r p)<=fF w+70:=by
 unfold kL;split
 .omega
 .split
  .rename_i hb;have a:=aO3 (mH w (cN (aL w) r p.2.1).toNat (bY (gL w (cN (aL w) r p.2.1).toNat) p)) r 0 (kR (bY (gL w (cN (aL w) r p.2.1).toNat) p) p);have b:mW (kR (bY (gL w (cN (aL w) r p.2.1).toNat) p) p)<=71:=by
    refine aSb (aGu hb) ?_ ?_
    .unfold kR;rw[hb];show eB (cH p.2.2.2.1)<=70;rw[aIq];exact h
    .unfold kR;rw[hb];exact bYh aZ5
   have e:fF (mH w (cN (aL w) r p.2.1).toNat (bY (gL w (cN (aL w) r p.2.1).toNat) p))=fF w:=rfl;omega
  .exact bZn _ _
theorem bA4{w:den tNw}{r d:Int}{p:den tPk}(h:eB p.2.2.2.1<=70):fF (nY w r d p)<=fF w+70:=by
 have e0:∀x,fF (rX x)=fF x:=λ_=>rfl
 unfold nY;rw[e0];split
 .have a:=aO3 w r 0 (dI r (aH w) d p);have b:mW (dI r (aH w) d p)<=71:=by
   refine aSb rfl ?_ ?_
   .show eB (cH (uI p))<=70;rw[aIq];exact bWk (aX4 p) h
   .exact bYh aZ5
  omega
 .exact bZn _ _
theorem aNx(w:den tNw)(r inn:Int)(p:den tPk):fF (cO w r inn p)+1<=fF w+mW p:=by
 have hp:=aVu p;unfold cO;split
 .rename_i hc;have :=(aR5 hc).2;have :=aSz w r (aD (nT w) (aH w) (aJ w) r inn p).2.1 (aD (nT w) (aH w) (aJ w) r inn p).2.2.1;omega
 .split
  .rename_i hc;split
   .rename_i h1;have hv:cL p=true:=aEv (t:=nT w) (r:=r) (now:=aH w) (dead:=dU (nT w) (aJ w) r) (inn:=inn) (by
     have h:((fwd (nT w) r (aH w) (dU (nT w) (aJ w) r) inn p).1==1)=true:=hc;rw[eq_of_beq h];rfl)
    have hh:=aOs hv;have e:(aD (nT w) (aH w) (aJ w) r inn p).2.2.1.2.2.2.1=p.2.2.2.1:=by
     obtain⟨i,j,b,e⟩:=aDx (nT w) r (aH w) (dU (nT w) (aJ w) r) inn p;unfold aD;rw[e];rfl
    have :=bB7 (w:=w) (r:=r) (p:=(aD (nT w) (aH w) (aJ w) r inn p).2.2.1) (by rw[e];omega);have e2:mW p=1+rT p+72:=by unfold mW aBw;rw[hv,h1];rfl
    omega
   .show fF w+1<=_;omega
  .split
   .rename_i hc;rw[bWj]at hc;have hv:cL p=true:=aEv (t:=nT w) (r:=r) (now:=aH w) (dead:=dU (nT w) (aJ w) r) (inn:=inn) (by
     have h:((fwd (nT w) r (aH w) (dU (nT w) (aJ w) r) inn p).1==7)=true:=hc.1;rw[eq_of_beq h];rfl)
    have hh:=aOs hv;have :=bA4 (w:=w) (r:=r) (d:=(aD (nT w) (aH w) (aJ w) r inn p).2.2.2) (p:=p) (by omega);have e2:mW p=1+rT p+72:=by unfold mW aBw;rw[hv,hc.2];rfl
    omega
   .show fF w+1<=_;omega
theorem bGw{w:den tNw}{x:den tFy}{l:lFy}(hf:aE w=x::l):fF (outW w)+1<=fF w:=by
 unfold outW;rw[hf];show fF (cO (bF w l) x.1 x.2.1 x.2.2)+1<=_;have h:=aNx (bF w l) x.1 x.2.1 x.2.2;have e:fF w=mW x.2.2+aG5 l:=by unfold fF;rw[hf];rfl
 have e2:fF (bF w l)=aG5 l:=rfl;omega
theorem aSv:∀(n:Nat) (w:den tNw),aE (delW n w)=[]\/fF (delW n w)+n<=fF w
 | 0,w=> .inr (bWx _)
 | n+1,w=>by
  unfold delW;split
  .rename_i h;exact .inl h
  .rename_i x l h;have :=bGw h;rcases aSv n (outW w) with h1 | h1
   .exact .inl h1
   .exact .inr (by omega)
theorem bDg(k:Nat)(w:den tNw):fF (stepT k w)<=fF w+140:=by
 unfold stepT;split
 .rename_i f hf;split
  .have h:=aNx (bK w ((aB w).set k (aF f).1)) (aF f).1.1 0 (aF f).2.1;have h2:=bQ4 (aF f).2.1;have e:fF (bK w ((aB w).set k (aF f).1))=fF w:=rfl;omega
  .exact bZn _ _
 .exact bZn _ _
theorem aOw:∀(n k:Nat) (w:den tNw),fF (tickL k n w)<=fF w+140 * n
 | 0,_,_=>bWx _
 | n+1,k,w=>by
  have h1:=bDg k w;have h2:=aOw n (k+1) (stepT k w);unfold tickL;omega
theorem bBg{w:den tNw}(hf:(aB w).length<=4):fF (cJ w)<=fF w+560:=by
 unfold cJ;split
 .omega
 .have h:=aOw (aB w).length 0 (tick0 w);have e:fF (tick0 w)=fF w:=rfl;have :140 * (aB w).length<=560:=by omega
  omega
theorem aPe{w:den tNw}(hf:(aB w).length<=4):aE (gZ w)=[]\/fF (gZ w)+1440<=fF w:=by
 have a:=bBg hf;rcases aSv 2000 (cJ w) with h | h
 .exact .inl h
 .exact .inr (by show fF (delW 2000 (cJ w))+1440<=_;omega)
theorem aFg{w:den tNw}(hf:(aB w).length<=4)(h0:aE w=[]):aE (gZ w)=[]:=by
 have e:fF w=0:=by unfold fF;rw[h0];rfl
 rcases aPe hf with h | h
 .exact h
 .omega
def egs(x:den tPp):List q17:=x.2.2.2.map λh=>(h.1,pEg x h)
def ins(x:den tPp):List q17:=x.2.2.2.map λh=>(h.1,pIn x h)
def iT:lPp->List q17
 | []=>[]
 | x::l=>(egs x).dropLast++iT l
def nU:lPp->List q17
 | []=>[]
 | x::l=>(ins x).tail++nU l
def fut(p:den tPk):List q17:=match p.2.2.2.1.drop p.2.2.2.2.1.toNat with
 | []=>[]
 | x::l=>(egs x).dropLast.drop p.2.2.2.2.2.1.toNat++iT l
theorem aGy:∀a b:lPp,iT (a++b)=iT a++iT b
 | [],_=>rfl
 | x::a,b=>by
  show (egs x).dropLast++iT (a++b)=(egs x).dropLast++iT a++iT b;rw[aGy a b,bW6]
theorem aXm:∀a b:lPp,nU (a++b)=nU a++nU b
 | [],_=>rfl
 | x::a,b=>by
  show (ins x).tail++nU (a++b)=(ins x).tail++nU a++nU b;rw[aXm a b,bW6]
theorem aZ0{kind res seq:Int}{p:den tPt}{pay:List Int}:fut (bU kind p res seq pay)=iT p:=by
 unfold fut;show (match List.drop 0 p with | []=>[] | x::l=>(egs x).dropLast.drop 0++iT l)=iT p;rw[List.drop_zero];cases p with
 | nil=>rfl
 | cons x l=>rfl
theorem bBw(p:den tPk):∃a,iT p.2.2.2.1=a++fut p:=by
 have e:=aGy (p.2.2.2.1.take p.2.2.2.2.1.toNat) (p.2.2.2.1.drop p.2.2.2.2.1.toNat);rw[bX0]at e;unfold fut;split
 .rename_i h;exact⟨_,by rw[bXh]⟩
 .rename_i x l h;rw[h]at e;refine⟨iT (p.2.2.2.1.take p.2.2.2.2.1.toNat)++(egs x).dropLast.take p.2.2.2.2.2.1.toNat,?_⟩;rw[e];show _++((egs x).dropLast++iT l)=_;rw[bW6,<- bW6 (List.take _ _),bX0]
theorem aV9{p:den tPk}(h:cB p=true):∃i j:Nat,p.2.2.2.2.1=(i:Int)/\p.2.2.2.2.2.1=(j:Int)/\(bH p).2.2.2[j]? =some (cW p)/\p.2.2.2.1[i]? =some (bH p)/\fut p=(egs (bH p)).dropLast.drop j++iT (p.2.2.2.1.drop (i+1))/\bZ p=(cW p).1:=by
 obtain⟨i,j,h1,h2,h3,h4,h5⟩:=mR h;refine⟨i,j,h1,h2,h4,h3,?_,h5⟩;obtain⟨hlt,e⟩:=bWn.1 h3;unfold fut;rw[h1,h2,bWs,bWs,bZa hlt,e]
theorem bO2{p:den tPk}(h:cB p=true)(h0:0<=bZ p)(ha:cZ p=false)(hl:cY p=false):fut p=(bZ p,pEg (bH p) (cW p))::fut (adv p):=by
 obtain⟨i,j,h1,h2,h3,h4,h5,h6⟩:=aV9 h;have hlt:=(bWn.1 h3).1;have hne: ¬ (j:Int)=((bH p).2.2.2.length:Int) - 1:=by
  unfold cY at hl;rw[h2]at hl;simpa using hl
 have e:adv p=goTo p p.2.2.2.2.1 (p.2.2.2.2.2.1+1) p.2.2.2.2.2.2.1:=by
  unfold adv;rw[ha,zW (show ¬ bZ p<0 by omega),hl];rfl
 have e2:fut (adv p)=(egs (bH p)).dropLast.drop (j+1)++iT (p.2.2.2.1.drop (i+1)):=by
  rw[e];unfold fut;show (match p.2.2.2.1.drop p.2.2.2.2.1.toNat with | []=>[] | x::l=>(egs x).dropLast.drop (p.2.2.2.2.2.1+1).toNat++iT l)=_;obtain⟨hlt,e⟩:=bWn.1 h4;rw[h1,h2,bWs,show ((j:Int)+1).toNat=j+1 by omega,bZa hlt,e]
 have hd:j<(egs (bH p)).dropLast.length:=by unfold egs;rw[bZ3,bXe];omega
 rw[h5,e2,bZa hd,bZg];congr 1;rw[List.getElem_dropLast];unfold egs;rw[List.getElem_map,h6];obtain⟨_,e3⟩:=bWn.1 h3;rw[e3]
theorem bKh{p:den tPk}(h:cB p=true)(h0:0<=bZ p)(ha:cZ p=false)(hl:cY p=true):fut (adv p)=fut p:=by
 obtain⟨i,j,h1,h2,h3,h4,h5,h6⟩:=aV9 h;have hlt:=(bWn.1 h3).1;have he:(j:Int)=((bH p).2.2.2.length:Int) - 1:=by
  unfold cY at hl;rw[h2]at hl;simpa using hl
 have e:adv p=goTo p (p.2.2.2.2.1+1) 0 (mE p).2.2.1:=by
  unfold adv;rw[ha,zW (show ¬ bZ p<0 by omega),hl];rfl
 have e2:fut (adv p)=iT (p.2.2.2.1.drop (i+1)):=by
  rw[e];unfold fut;show (match p.2.2.2.1.drop (p.2.2.2.2.1+1).toNat with | []=>[] | x::l=>(egs x).dropLast.drop (0:Int).toNat++iT l)=_;rw[h1,show ((i:Int)+1).toNat=i+1 by omega];cases p.2.2.2.1.drop (i+1) with
  | nil=>rfl
  | cons x l=>rfl
 have hd:(egs (bH p)).dropLast.drop j=[]:=by
  rw[List.drop_eq_nil_iff];unfold egs;rw[bZ3,bXe];omega
 rw[h5,e2,hd,bXc]
theorem aH0(t:den tTo)(p:den tPk):fut (aT t p)=fut p:=by
 unfold aT;split<;>rfl
theorem aQt{t:den tTo}{now:Int}:∀(n:Nat) (p:den tPk),(goC t now n p).1=0->fut (goC t now n p).2=fut p
 | 0,p,h=>aH0 t p
 | n+1,p,h=>by
  obtain⟨h1,h2⟩:=vM (yG h);obtain⟨e1,e2,_⟩:=zM t p;unfold goC at h|-;split at h
  .rename_i hc;rw[zT hc];simp only[bWj,bW8]at hc;rw[aQt n _ h,bKh (p:=aT t p) (e1.trans h1) (by rw[e2];exact h2) hc.2.2 hc.2.1,aH0]
  .rename_i hc;rw[zS hc];exact aH0 t p
structure bR9 (t:den tTo) (r now dead inn:Int) (p:den tPk):Prop where
 val:cL p=true
 sim:fV t p.2.2.2.1=true
 at_:bZ p=r
 go:(aX t now p).1=0
theorem mQ{t:den tTo}{r now dead inn:Int}{p:den tPk}(h:(fwd t r now dead inn p).1=0\/(fwd t r now dead inn p).1=1\/(fwd t r now dead inn p).1=7):bR9 t r now dead inn p:=by
 unfold fwd at h;split at h
 .exact absurd h (show ¬ ((2:Int)=0\/(2:Int)=1\/(2:Int)=7) by decide)
 rename_i c1;split at h
 .exact absurd h (show ¬ ((3:Int)=0\/(3:Int)=1\/(3:Int)=7) by decide)
 split at h
 .rename_i c3;have hz: ¬ (aX t now p).1=0:=by simpa using c3
  have hle:(aX t now p).1<=5:=bFu _ _;have h:(aX t now p).1=0\/(aX t now p).1=1\/(aX t now p).1=7:=h;have h45:∀(n:Nat) (p:den tPk),(goC t now n p).1=0\/(goC t now n p).1=4\/(goC t now n p).1=5:=by
   have hc:∀p,dR t now p=0\/dR t now p=4\/dR t now p=5:=λp=>by
    unfold dR;split
    .split
     .exact .inl rfl
     .exact .inr (.inr rfl)
    .exact .inr (.inl rfl)
   intro n
   induction n with
   | zero=>intro p;exact hc p
   | succ n ih=>
    intro p;unfold goC;split
    .exact ih _
    .exact hc p
  have h45:(aX t now p).1=0\/(aX t now p).1=4\/(aX t now p).1=5:=h45 _ _;omega
 rename_i c3;have c1:=eq_false_of_ne_true c1;simp only[bYo,Bool.not_eq_false']at c1;exact⟨c1.1,c1.2.1,eq_of_beq c1.2.2,by simpa using c3⟩
theorem qW{t:den tTo}{p:den tPt}(h:fV t p=true):wfP t p=true:=(bWj _ _▸h:_/\_).1
theorem aTd{t:den tTo}{now:Int}{p:den tPk}(hw:wfP t p.2.2.2.1=true)(h:(aX t now p).1=0):(cY (aX t now p).2=false\/cZ (aX t now p).2=true)/\bZ (aX t now p).2=bZ p/\(aX t now p).2.2.2.2.1=p.2.2.2.1:=by
 obtain⟨h1,h2⟩:=vM (yG h);obtain⟨i,j,e1,e2,e3,_⟩:=mR h1;have hlt:=(bWn.1 e3).1;refine aM4 _ p hw ?_ h;have key:∀(a:Int) (i n:Nat),a=(i:Int)->i<n->a+((n - a.toNat:Nat):Int)=(n:Int):=by
  intro a i n h1 h2;subst h1;omega
 exact key _ i _ e1 hlt
theorem aY7{t:den tTo}{r now dead inn:Int}{p:den tPk}(h:(fwd t r now dead inn p).1=0):fut p=(r,(fwd t r now dead inn p).2.1)::fut (fwd t r now dead inn p).2.2.1/\xR dead (fwd t r now dead inn p).2.1=false:=by
 have th:=mQ (.inl h);obtain⟨g1,g2,g3⟩:=aTd (qW th.sim) th.go;unfold fwd at h|-;split at h
 .exact absurd h (show ¬ ((2:Int)=0) by decide)
 rename_i c1;rw[zS c1];split at h
 .exact absurd h (show ¬ ((3:Int)=0) by decide)
 rename_i c2;rw[zS c2];split at h
 .rename_i c3;simp only[bW8,beq_eq_false_iff_ne]at c3;exact absurd h c3
 rename_i c3;rw[zS c3];split at h
 .split at h<;>first | exact absurd h (show ¬ ((1:Int)=0) by decide) | exact absurd h (show ¬ ((2:Int)=0) by decide)
 rename_i c4;rw[zS c4];split at h
 .exact absurd h (show ¬ ((6:Int)=0) by decide)
 rename_i c5;rw[zS c5];split at h
 .exact absurd h (show ¬ ((7:Int)=0) by decide)
 rename_i c6;rw[zS c6];have c4:cZ (aX t now p).2=false:=by simpa using c4
 obtain⟨q1,q2,_⟩:=aAk (t:=t) (now:=now) (p.2.2.2.1.length - p.2.2.2.2.1.toNat) p th.go;have hl:cY (aX t now p).2=false:=g1.elim id λe=>by rw[c4]at e;cases e
 have a:=bO2 (p:=(aX t now p).2) q1 q2 c4 hl;have b:fut (aX t now p).2=fut p:=aQt _ p th.go;rw[b,g2,th.at_]at a;exact⟨a,by simpa using c6⟩
def eOf(l:cD):List q17:=l.map λs=>(s.1,s.2.2)
def iOf(l:cD):List q17:=l.map λs=>(s.1,s.2.1)
def stp(x:den tPp)(h:den aR):den kY:=(h.1,pIn x h,pEg x h)
theorem bGi{nf:Bool}{x:den tPp}{k:Nat}{h:den aR}{b:cD}(hk:0<k):pY nf x k h b=b++[stp x h]:=by
 unfold pY;split
 .rw[zW (show ¬ k=0 by omega),Bool.false_and,bYu,zS (by decide)];rfl
 .rfl
theorem aL8(nf:Bool)(x:den tPp):∀(l:dE) (k:Nat) (a:cD),0<k->bN (λi h b=>pY nf x i h b) k l a=a++l.map (stp x)
 | [],_,a,_=>(bXh a).symm
 | h::l,k,a,hk=>by
  show bN _ (k+1) l (pY nf x k h a)=_;rw[bGi hk,aL8 nf x l (k+1) _ (Nat.succ_pos k),bW6];rfl
theorem aYq(x:den tPp):iA false x []=x.2.2.2.map (stp x):=by
 unfold iA;cases h:x.2.2.2 with
 | nil=>rfl
 | cons y l=>
  show bN _ 1 l (pY false x 0 y [])=_;rw[aL8 _ _ _ _ _ (by decide)];rfl
theorem bDx{x:den tPp}{a:cD}{z:den kY}{y:den aR}{l:dE}(hx:x.2.2.2=y::l)(ha:z.1=y.1):iA true x (a++[z])=a++((y.1,z.2.1,pEg x y):den kY)::l.map (stp x):=by
 unfold iA;rw[hx];show bN _ 1 l (pY true x 0 y (a++[z]))=_;rw[aL8 _ _ _ _ _ (by decide)];unfold pY;rw[bYi];simp only[Bool.true_and,decide_true,ha,beq_self_eq_true,zV,bYs,bW6,List.singleton_append]
def aKr(t:den tTo):lPp->Prop
 | []=>True
 | [x]=>bB t x=true
 | x::y::l=>bB t x=true/\(sB x).1=(uF y).1/\aKr t (y::l)
theorem aDs{t:den tTo}{p:lPp}(h:wfP t p=true):aKr t p:=by
 unfold wfP at h;have h:=(bWj _ _▸h:_/\_).2;have h:=(kJ (qM t p) p).1 h;have key:∀(l a:lPp),p=a++l->aKr t l:=by
  intro l
  induction l with
  | nil=>intro a _;trivial
  | cons x l ih=>
   intro a e;have hx:p[a.length]? =some x:=by rw[e,bY7 (bWx _),Nat.sub_self];rfl
   have v:=h _ _ hx;unfold qM at v;rw[bWj]at v;have rest:=ih (a++[x]) (by rw[e,bW6];rfl);cases l with
   | nil=>exact v.1
   | cons y l=>
    refine⟨v.1,?_,rest⟩;have hy:p[a.length+1]? =some y:=by rw[e,bY7 (by omega),show a.length+1 - a.length=1 by omega];rfl
    have vy:=h _ _ hy;unfold qM at vy;rw[bWj,zW (show ¬ a.length+1=0 by omega),Bool.false_or,bYt,hx]at vy;have :=vy.2;unfold yV at this;rw[bWj]at this;exact eq_of_beq this.2
 exact key p [] rfl
theorem aXl{t:den tTo}:∀(l:lPp) (y:den tPp) (k:Nat) (a:cD) (z:den kY),0<k->aKr t (y::l)->z.1=(sB y).1->
  ∃(b:cD) (w:den kY),bN (λk x a=>iA (decide (0<k)) x a) k l (a++[z])=b++[w]/\eOf b=eOf a++iT l/\iOf (b++[w])=iOf (a++[z])++nU l
 | [],y,k,a,z,_,_,_=>⟨a,z,rfl,(bXh _).symm,(bXh _).symm⟩
 | x::l,y,k,a,z,hk,hj,hz=>by
  obtain⟨_,j2,j3⟩:=hj;have vx:bB t x=true:=by cases l with
   | nil=>exact j3
   | cons _ _=>exact j3.1
  have hp:=gK vx;cases hx:x.2.2.2 with
  | nil=>rw[hx]at hp;exact absurd hp (by decide)
  | cons h hs=>
   have hh:uF x=h:=by unfold uF;rw[hx];rfl
   have e1:iA true x (a++[z])=a++((h.1,z.2.1,pEg x h):den kY)::hs.map (stp x):=bDx hx (by rw[hz,j2,hh]);have e2:bN (λk x a=>iA (decide (0<k)) x a) k (x::l) (a++[z])=bN (λk x a=>iA (decide (0<k)) x a) (k+1) l (iA true x (a++[z])):=by
    show bN _ (k+1) l (iA (decide (0<k)) x (a++[z]))=_;rw[zX hk]
   rcases fI (((h.1,z.2.1,pEg x h):den kY)::hs.map (stp x)) with h0 | ⟨m,w,hm⟩
   .cases h0
   .have hw:w.1=(sB x).1:=by
     have hl:(((h.1,z.2.1,pEg x h):den kY)::hs.map (stp x)).getLast? =some w:=by rw[hm];exact bYi
     unfold sB;rw[hx];rcases fI hs with rfl | ⟨hs',h',rfl⟩
     .simp only[List.map_nil,List.getLast?_singleton,Option.some.injEq]at hl;rw[<- hl];rfl
     .rw[bX6]at hl;have :((h.1,z.2.1,pEg x h):den kY)::(hs'.map (stp x)++[h'].map (stp x))=(((h.1,z.2.1,pEg x h):den kY)::hs'.map (stp x))++[stp x h']:=rfl;rw[this,bYi,Option.some.injEq]at hl;rw[<- hl];have :(h::(hs'++[h'])).length - 1=hs'.length+1:=by simp
      rw[this,List.getElem?_cons_succ,bY7 (bWx _),Nat.sub_self];rfl
    obtain⟨b,w',r1,r2,r3⟩:=aXl l x (k+1) (a++m) w (Nat.succ_pos k) j3 hw;refine⟨b,w',?_,?_,?_⟩
    .rw[e2,e1,hm,<- bW6];exact r1
    .rw[r2];have e3:eOf m=(egs x).dropLast:=by
      have :eOf (m++[w])=egs x:=by
       rw[<- hm];unfold egs eOf;rw[hx];simp only[bW2,bY6];rfl
      rw[<- this];unfold eOf;rw[bX6,List.map_singleton,bYs]
     show eOf (a++m)++iT l=eOf a++((egs x).dropLast++iT l);unfold eOf at e3 ⊢;rw[bX6,e3,bW6]
    .rw[r3];have e4:iOf (m++[w])=(z.1,z.2.1)::(ins x).tail:=by
      rw[<- hm];unfold ins iOf;rw[hx];simp only[bW2,bY6,List.tail_cons];rw[show (z.1:Int)=h.1 by rw[hz,j2,hh]];rfl
     show iOf (a++m++[w])++nU l=iOf (a++[z])++((ins x).tail++nU l);have e5:iOf (a++m++[w])=iOf a++iOf (m++[w]):=by unfold iOf;rw[bW6,bX6]
     have e6:iOf (a++[z])=iOf a++[(z.1,z.2.1)]:=by unfold iOf;rw[bX6];rfl
     rw[e5,e4,e6,bW6,bW6];rfl
theorem aMy{t:den tTo}{p:lPp}(h:aKr t p)(hp:p≠[]):∃r r':Int,eOf (fC p)=iT p++[(r,0)]/\iOf (fC p)=(r',0)::nU p:=by
 cases p with
 | nil=>exact absurd rfl hp
 | cons x l=>
  have vx:bB t x=true:=by cases l with
   | nil=>exact h
   | cons _ _=>exact h.1
  have hpos:=gK vx;rcases fI (x.2.2.2.map (stp x)) with h0 | ⟨a,z,hz⟩
  .rw[List.map_eq_nil_iff]at h0;rw[h0]at hpos;exact absurd hpos (by decide)
  .have hzl:z.1=(sB x).1:=by
    rcases fI x.2.2.2 with e | ⟨hs,h',e⟩
    .rw[e]at hpos;exact absurd hpos (by decide)
    .have hl:(x.2.2.2.map (stp x)).getLast? =some z:=by rw[hz];exact bYi
     rw[e,bX6,List.map_singleton,bYi,Option.some.injEq]at hl;rw[<- hl];unfold sB;rw[e,bW9,bX5,bYt,bY7 (bWx _),Nat.sub_self];rfl
   obtain⟨b,w,r1,r2,r3⟩:=aXl l x 1 a z (by decide) h hzl;have e0:wB (x::l)=b++[w]:=by
    show bN _ 1 l (iA false x [])=_;rw[aYq,hz];exact r1
   have e3:eOf a=(egs x).dropLast:=by
    have :eOf (a++[z])=egs x:=by
     rw[<- hz];unfold egs eOf;simp only[bY6];rfl
    rw[<- this];unfold eOf;rw[bX6,List.map_singleton,bYs]
   have e4:iOf (a++[z])=ins x:=by
    rw[<- hz];unfold ins iOf;simp only[bY6];rfl
   have hb:eOf b=iT (x::l):=by rw[r2,e3];rfl
   have hi:(iOf (b++[w])).tail=nU (x::l):=by
    rw[r3,e4];cases hx:x.2.2.2 with
    | nil=>rw[hx]at hpos;exact absurd hpos (by decide)
    | cons h' hs'=>
     show ((ins x)++nU l).tail=(ins x).tail++nU l;unfold ins;rw[hx];rfl
   unfold fC;rw[e0];cases b with
   | nil=>
    refine⟨w.1,w.1,?_,?_⟩
    .rw[<- hb];rfl
    .rw[<- hi];rfl
   | cons c b=>
    have e5:aB3 (c::b++[w])=(c.1,0,c.2.2)::b++[(w.1,w.2.1,0)]:=by
     unfold aB3;simp only[bZg];rw[show (((c.1,0,c.2.2):den kY)::(b++[w]))=(((c.1,0,c.2.2):den kY)::b)++[w] from rfl,bYi];simp only[bYs];rfl
    rw[e5];refine⟨w.1,c.1,?_,?_⟩
    .rw[<- hb];unfold eOf;simp
    .rw[<- hi];unfold iOf;simp
def num(x:Int×Int):Int:=wr (wr (8 * x.1)+x.2)
def aJc(s:den kY):List Int:=(cond (s.2.1 != 0) [num (s.1,s.2.1)] [])++(cond (s.2.2 != 0) [num (s.1,s.2.2)] [])
theorem aMs(p:den tPt):cS p=(fC p).flatMap aJc:=by
 unfold cS;have :∀(l:cD) (k:Nat) (a:List Int),bN (λ_ s a=>aDl s a) k l a=a++l.flatMap aJc:=by
  intro l
  induction l with
  | nil=>intro k a;exact (bXh a).symm
  | cons s l ih=>
   intro k a;show bN _ (k+1) l (aDl s a)=_;rw[ih,bZp];unfold aDl aJc num;cases s.2.1 != 0<;>cases s.2.2 != 0<;>simp
 exact (this _ _ _).trans (bXc _)
theorem aXf:∀l:cD,bZd (((eOf l).filter λx=>x.2 != 0).map num) (l.flatMap aJc)
 | []=>bZd.slnil
 | s::l=>by
  have ih:=aXf l;rw[bZp];unfold aJc;rw[bW6];refine bZd.trans ?_ (List.sublist_append_right _ _);show bZd ((((s.1,s.2.2)::eOf l).filter λx=>x.2 != 0).map num) _;rw[bYr];cases h:(s.2.2 != 0) with
  | true=>
   simp only[zV];exact bZd.cons_cons _ ih
  | false=>
   simp only[bWz,zU];exact ih
theorem xB{t:den tTo}:∀{p:lPp},aKr t p-> ∀x∈p,bB t x=true
 | [],_,x,hx=>by cases hx
 | [y],h,x,hx=>by rw[bWp]at hx;rw[hx];exact h
 | y::z::l,h,x,hx=>by
  rcases bWm.1 hx with rfl | hx
  .exact h.1
  .exact xB h.2.2 x hx
theorem bRj{t:den tTo}{x:den tPp}(h:bB t x=true){y:Int×Int}(hy:y∈(egs x).dropLast):(y.2 != 0)=true:=by
 obtain⟨k,hk,e⟩:=bZ4 hy;rw[List.getElem_dropLast]at e;unfold egs at e hk;rw[bZ3,bXe]at hk;rw[List.getElem_map]at e;obtain⟨_,hl⟩:=aMc h (bWl (show k+1<x.2.2.2.length by omega));rcases hl with hl | hl
 .omega
 .unfold aAp at hl;rw[bWj,bYt,bWl (show k<x.2.2.2.length by omega)]at hl;rw[<- e];exact hl.1
theorem aL7{t:den tTo}:∀{p:lPp},(∀x∈p,bB t x=true)-> ∀y∈iT p,(y.2 != 0)=true
 | [],_,y,hy=>by cases hy
 | x::l,h,y,hy=>by
  rcases bWq.1 hy with hy | hy
  .exact bRj (h x (bWt ..)) hy
  .exact aL7 (λz hz=>h z (bWo _ hz)) y hy
theorem aV5{t:den tTo}{p:lPp}(h:fV t p=true):(iT p).Nodup:=by
 have hw:=qW h;have hj:=aDs hw
 by_cases hp:p=[]
 .subst hp;exact List.nodup_nil
 .obtain⟨r,r',e1,e2⟩:=aMy hj hp;unfold fV at h;have h:=(bWj _ _▸h:_/\_).2;have h:=(kJ (vA (cS p)) (cS p)).1 h;have hn:(cS p).Nodup:=by
   refine bYk.2 λi j hi hj hij e=> ?_
   have a:=h j _ (bWl hj);unfold vA at a;have :qO ((cS p).take j) (cS p)[j]=true:=by
    rw[aH5];refine bWu (i:=i) ?_;rw[List.getElem?_take_of_lt hij,bWl hi,e]
   rw[this]at a;cases a
  rw[aMs]at hn;have s:=aXf (fC p);rw[e1,List.filter_append,List.filter_eq_self.2 (aL7 (xB hj))]at s;have s:=s.nodup hn;rw[bX6]at s;have s:=(bXr.1 s).1;exact List.Pairwise.of_map _ (λa b hab e=>hab (by rw[e])) s
theorem bP3{t:den tTo}{p:lPp}(h:wfP t p=true){n:Int}(hn:n∈cS p):∃x,(x∈iT p\/x∈nU p)/\n=num x:=by
 have hj:=aDs h
 by_cases hp:p=[]
 .subst hp;cases hn
 .obtain⟨r,r',e1,e2⟩:=aMy hj hp;rw[aMs,bXf]at hn;obtain⟨s,hs,hn⟩:=hn;unfold aJc at hn;have me:(s.1,s.2.2)∈eOf (fC p):=bWr.2 ⟨s,hs,rfl⟩;have mi:(s.1,s.2.1)∈iOf (fC p):=bWr.2 ⟨s,hs,rfl⟩;rw[e1,bWq,bWp]at me;rw[e2,bWm]at mi;rcases bWq.1 hn with hn | hn
  .cases c:(s.2.1 != 0) with
   | false=>rw[c]at hn;cases hn
   | true=>
    rw[c]at hn;refine⟨_,.inr (mi.elim (λe=> ?_) id),bWp.1 hn⟩;have :s.2.1=0:=(Prod.ext_iff.1 e).2;rw[this]at c;cases c
  .cases c:(s.2.2 != 0) with
   | false=>rw[c]at hn;cases hn
   | true=>
    rw[c]at hn;refine⟨_,.inl (me.elim id λe=> ?_),bWp.1 hn⟩;have :s.2.2=0:=(Prod.ext_iff.1 e).2;rw[this]at c;cases c
theorem bMy{t:den tTo}{x:den tPp}(h:bB t x=true):egs (dN x)=(ins x).reverse:=by
 have hk:∀y,pEg (dN x) y=pIn x y:=λy=>by
  unfold bB at h;simp only[bWj]at h;obtain⟨a,b⟩:=aI.1 h.2.1;have e:dM (dN x).1= !dM x.1:=by
   have key:∀k:Int,1<=k->k<=4->dM (wV k)= !dM k:=by
    intro k h1 h2;have :k=1\/k=2\/k=3\/k=4:=by omega
    rcases this with e | e | e | e<;>rw[e]<;>decide
   exact key _ a b
  unfold pEg pIn;rw[e];cases dM x.1<;>rfl
 unfold egs ins;rw[show (dN x).2.2.2=x.2.2.2.reverse from rfl,List.map_reverse];congr 1;exact List.map_congr_left λy _=>by rw[hk]
theorem aWu{t:den tTo}:∀{p:lPp},(∀x∈p,bB t x=true)-> ∀y∈nU p,y∈iT (cH p)
 | [],_,y,hy=>by cases hy
 | x::l,h,y,hy=>by
  have e:cH (x::l)=cH l++[dN x]:=by unfold cH;rw[bZo,bX6];rfl
  rw[e,aGy,bWq];rcases bWq.1 hy with hy | hy
  .refine .inr ?_;show y∈(egs (dN x)).dropLast++[];rw[bXh,bMy (h x (bWt ..))];cases hc:ins x with
   | nil=>rw[hc]at hy;cases hy
   | cons a b=>
    rw[hc]at hy;rw[bZo,bYs];exact List.mem_reverse.2 hy
  .exact .inl (aWu (λz hz=>h z (bWo _ hz)) y hy)
def aEu(x:Int×Int):Prop:=0<=x.1/\x.1<=7/\0<=x.2/\x.2<=6
theorem bJj{x:Int×Int}(h:aEu x):num x=8 * x.1+x.2:=by
 obtain⟨a,b,c,d⟩:=h;unfold num;rw[show wr (8 * x.1)=8 * x.1 from wri (by omega) (by omega)];exact wri (by omega) (by omega)
theorem bOt{x y:Int×Int}(hx:aEu x)(hy:aEu y)(h:num x=num y):x=y:=by
 rw[bJj hx,bJj hy]at h;obtain⟨a,b,c,d⟩:=hx;obtain⟨a',b',c',d'⟩:=hy;exact Prod.ext (by omega) (by omega)
theorem aR1{t:den tTo}{x:den tPp}(h:bB t x=true){y:den aR}(hy:y∈x.2.2.2):aEu (y.1,pEg x y)/\aEu (y.1,pIn x y):=by
 unfold bB at h;simp only[bWj]at h;obtain⟨_,_,_,_,h5,_⟩:=h;obtain⟨k,hk,e⟩:=bZ4 hy;have a:=(kJ (vS t x.2.2.2) x.2.2.2).1 h5 k y (by rw[<- e];exact bWl hk);unfold vS gS at a;simp only[bWj]at a;obtain⟨⟨a1,a2,a3,_⟩,_⟩:=a;obtain⟨b1,b2⟩:=aI.1 a1;obtain⟨b3,b4⟩:=aI.1 a2;obtain⟨b5,b6⟩:=aI.1 a3;unfold pEg pIn aEu;cases dM x.1
 .exact⟨⟨b1,b2,b5,b6⟩,⟨b1,b2,b3,b4⟩⟩
 .exact⟨⟨b1,b2,b3,b4⟩,⟨b1,b2,b5,b6⟩⟩
theorem aWi{t:den tTo}:∀{p:lPp},(∀x∈p,bB t x=true)-> ∀y,(y∈iT p\/y∈nU p)->aEu y
 | [],_,y,hy=>by rcases hy with hy | hy<;>cases hy
 | x::l,h,y,hy=>by
  have hx:=h x (bWt ..);have ih:=aWi (p:=l) (λz hz=>h z (bWo _ hz)) y;rcases hy with hy | hy
  .rcases bWq.1 hy with hy | hy
   .have :=List.dropLast_subset _ hy;unfold egs at this;obtain⟨z,hz,rfl⟩:=bWr.1 this;exact (aR1 hx hz).1
   .exact ih (.inl hy)
  .rcases bWq.1 hy with hy | hy
   .have :=List.mem_of_mem_tail hy;unfold ins at this;obtain⟨z,hz,rfl⟩:=bWr.1 this;exact (aR1 hx hz).2
   .exact ih (.inr hy)
def bTf(t:den tTo)(now:Int)(dead:List Int):Nat->Int->Int->den tPk->Prop
 | 0,_,_,_=>False
 | n+1,r,inn,p=>(aD t now dead r inn p).1=1\/((aD t now dead r inn p).1=0/\bTf t now dead n (remote t r (aD t now dead r inn p).2.1).1 (remote t r (aD t now dead r inn p).2.1).2 (aD t now dead r inn p).2.2.1)
def Arr(t:den tTo)(now:Int)(dead:List Int)(r inn:Int)(p:den tPk):Prop:= ∃n,bTf t now dead n r inn p
theorem Arr.here{t:den tTo}{now:Int}{dead:List Int}{r inn:Int}{p:den tPk}(h:(aD t now dead r inn p).1=1):Arr t now dead r inn p:=⟨1,.inl h⟩
theorem Arr.step{t:den tTo}{now:Int}{dead:List Int}{r inn:Int}{p:den tPk}(h:(aD t now dead r inn p).1=0)(k:Arr t now dead (remote t r (aD t now dead r inn p).2.1).1 (remote t r (aD t now dead r inn p).2.1).2 (aD t now dead r inn p).2.2.1):Arr t now dead r inn p:=by
 obtain⟨n,k⟩:=k;exact⟨n+1,.inr ⟨h,k⟩⟩
theorem Arr.or{t:den tTo}{now:Int}{dead:List Int}{r inn:Int}{p:den tPk}(h:Arr t now dead r inn p):(aD t now dead r inn p).1=1\/((aD t now dead r inn p).1=0/\Arr t now dead (remote t r (aD t now dead r inn p).2.1).1 (remote t r (aD t now dead r inn p).2.1).2 (aD t now dead r inn p).2.2.1):=by
 obtain⟨n,h⟩:=h;cases n with
 | zero=>exact h.elim
 | succ n=>exact h.elim .inl λe=> .inr ⟨e.1,n,e.2⟩
theorem Arr.ind{t:den tTo}{now:Int}{dead:List Int}{M:Int->Int->den tPk->Prop}(h1:∀r inn p,(aD t now dead r inn p).1=1->M r inn p)
  (h2:∀r inn p,(aD t now dead r inn p).1=0->Arr t now dead (remote t r (aD t now dead r inn p).2.1).1 (remote t r (aD t now dead r inn p).2.1).2 (aD t now dead r inn p).2.2.1->M (remote t r (aD t now dead r inn p).2.1).1 (remote t r (aD t now dead r inn p).2.1).2 (aD t now dead r inn p).2.2.1->M r inn p)
  {r inn:Int} {p:den tPk} (h:Arr t now dead r inn p):M r inn p:=by
 obtain⟨n,h⟩:=h
 induction n generalizing r inn p with
 | zero=>exact h.elim
 | succ n ih=>
  rcases h with h | ⟨h,k⟩
  .exact h1 _ _ _ h
  .exact h2 _ _ _ h ⟨n,k⟩ (ih k)
theorem aY8{t:den tTo}{a n b:Int}(h1:a<=n)(h2:n<=b){p:den tPk}(ha:dR t a p=0)(hb:dR t b p=0):dR t n p=0:=by
 unfold dR at ha hb ⊢;split at ha
 .rename_i hs;rw[zT hs]at hb ⊢;split at ha
  .rename_i ta;split at hb
   .rename_i tb;have :wT p n=true:=by
     unfold wT at ta tb ⊢;simp only[bWj,bW8,decide_eq_false_iff_not,zR]at ta tb ⊢;exact⟨ta.1,leI (bX4 ta.2.1 h1),leI (bX4 h2 tb.2.2)⟩
    rw[zT this]
   .exact absurd hb (show ¬ (5:Int)=0 by decide)
  .exact absurd ha (show ¬ (5:Int)=0 by decide)
 .exact absurd ha (show ¬ (4:Int)=0 by decide)
theorem aZd{t:den tTo}{a n b:Int}(h1:a<=n)(h2:n<=b):∀(k:Nat) (p:den tPk),(goC t a k p).1=0->(goC t b k p).1=0->goC t n k p=goC t a k p
 | 0,p,ha,hb=>by
  unfold goC at ha hb ⊢;rw[aY8 h1 h2 ha hb,show dR t a p=0 from ha]
 | k+1,p,ha,hb=>by
  have ca:=yG ha;have cb:=yG hb;have cn:=aY8 h1 h2 ca cb;unfold goC at ha hb ⊢;rw[ca]at ha ⊢;rw[cb]at hb;rw[cn];split at ha
  .rename_i hc;rw[zT hc]at hb ⊢;rw[zT hc];exact aZd h1 h2 k _ ha hb
  .rename_i hc;rw[zS hc];exact (zS hc).symm
theorem aMf{t:den tTo}{a n b:Int}(h1:a<=n)(h2:n<=b){dead:List Int}{r inn:Int}{p:den tPk}(ha:(aD t a dead r inn p).1=0\/(aD t a dead r inn p).1=1)(hb:(aD t b dead r inn p).1=0\/(aD t b dead r inn p).1=1):aD t n dead r inn p=aD t a dead r inn p:=by
 have ga:=(mQ (t:=t) (r:=r) (now:=a) (dead:=dU t dead r) (inn:=inn) (p:=p) (ha.elim .inl λe=> .inr (.inl e))).go;have gb:=(mQ (t:=t) (r:=r) (now:=b) (dead:=dU t dead r) (inn:=inn) (p:=p) (hb.elim .inl λe=> .inr (.inl e))).go;have e:aX t n p=aX t a p:=aZd h1 h2 _ p ga gb;unfold aD fwd;rw[e]
theorem Arr.code{t:den tTo}{now:Int}{dead:List Int}{r inn:Int}{p:den tPk}(h:Arr t now dead r inn p):(aD t now dead r inn p).1=0\/(aD t now dead r inn p).1=1:=by
 exact h.or.elim .inr λe=> .inl e.1
theorem Arr.mid{t:den tTo}{a n b:Int}(h1:a<=n)(h2:n<=b){dead:List Int}{r inn:Int}{p:den tPk}(ha:Arr t a dead r inn p)(hb:Arr t b dead r inn p):Arr t n dead r inn p:=by
 refine Arr.ind (M:=λr inn p=>Arr t b dead r inn p->Arr t n dead r inn p) (λr inn p h hb=> ?_) (λr inn p h k ih hb=> ?_) ha hb
 .have e:=aMf h1 h2 (.inr h) hb.code;exact .here (by rw[e];exact h)
 .have e:=aMf h1 h2 (.inl h) hb.code;have e2:=aMf (bX4 h1 h2) (bXl b) (.inl h) hb.code;refine .step (by rw[e];exact h) ?_;rw[e];rcases hb.or with g | ⟨g,kb⟩
  .rw[e2,h]at g;exact absurd g (by decide)
  .rw[e2]at kb;exact ih kb
def lA(p:den tPk)(m:Int×Int×Int×List Int):den tPk:=(m.1,p.2.1,p.2.2.1,p.2.2.2.1,p.2.2.2.2.1,p.2.2.2.2.2.1,p.2.2.2.2.2.2.1,m.2.1,m.2.2.1,m.2.2.2)
def okM(m:Int×Int×Int×List Int):Bool:=inR m.1 1 3&&(inR m.2.1 0 100000&&(inR m.2.2.1 0 100000&&decide ((m.2.2.2.length:Int)<=40)))
theorem bIm{p:den tPk}{m:Int×Int×Int×List Int}(h:cL p=true)(hm:okM m=true):cL (lA p m)=true:=by
 unfold cL at h|-;unfold okM at hm;simp only[bWj]at h hm ⊢;exact⟨hm.1,h.2.1,h.2.2.1,h.2.2.2.1,h.2.2.2.2.1,h.2.2.2.2.2.1,h.2.2.2.2.2.2.1,hm.2.1,hm.2.2.1,hm.2.2.2⟩
theorem aOu(t:den tTo)(p:den tPk)(m:Int×Int×Int×List Int):aT t (lA p m)=lA (aT t p) m:=by
 have e:wL t (lA p m)=wL t p:=rfl;unfold aT;rw[e];split<;>rfl
theorem bA1(p:den tPk)(m:Int×Int×Int×List Int):adv (lA p m)=lA (adv p) m:=by
 have e1:bZ (lA p m)=bZ p:=rfl;have e2:cZ (lA p m)=cZ p:=rfl;have e3:cY (lA p m)=cY p:=rfl;unfold adv;rw[e1,e2,e3];split
 .rfl
 .split<;>rfl
theorem bAc{t:den tTo}{now:Int}(m:Int×Int×Int×List Int):∀(n:Nat) (p:den tPk),goC t now n (lA p m)=((goC t now n p).1,lA (goC t now n p).2 m)
 | 0,p=>by
  unfold goC;rw[aOu];rfl
 | n+1,p=>by
  have e:dR t now (lA p m)=dR t now p:=rfl;have e2:cY (lA (aT t p) m)=cY (aT t p):=rfl;have e3:cZ (lA (aT t p) m)=cZ (aT t p):=rfl;unfold goC;rw[aOu,e,e2,e3,bA1,bAc m n];split<;>rfl
theorem bOw{t:den tTo}{r now dead inn:Int}{p:den tPk}{m:Int×Int×Int×List Int}(h:cL p=true)(hm:cL (lA p m)=true):fwd t r now dead inn (lA p m)=((fwd t r now dead inn p).1,(fwd t r now dead inn p).2.1,lA (fwd t r now dead inn p).2.2.1 m,(fwd t r now dead inn p).2.2.2):=by
 have g:aX t now (lA p m)=((aX t now p).1,lA (aX t now p).2 m):=bAc m _ p;have e1:bZ (lA p m)=bZ p:=rfl;have e2:aEh (lA p m)=aEh p:=rfl;have e3:∀q,cZ (lA q m)=cZ q:=λ_=>rfl
 have e4:∀q,pEg (bH (lA q m)) (cW (lA q m))=pEg (bH q) (cW q):=λ_=>rfl
 have e5:∀q:den tPk,(lA q m).2.2.1=q.2.2.1:=λ_=>rfl
 have e6:(lA p m).2.2.2.1=p.2.2.2.1:=rfl;unfold fwd;rw[h,hm,g,e1,e2,e6];simp only[e3,e4,e5,bA1]
 repeat' split
 all_goals rfl
theorem aVq{t:den tTo}{now:Int}{dead:List Int}{r inn:Int}{p:den tPk}{m:Int×Int×Int×List Int}(h:cL p=true)(hm:okM m=true):aD t now dead r inn (lA p m)=((aD t now dead r inn p).1,(aD t now dead r inn p).2.1,lA (aD t now dead r inn p).2.2.1 m,(aD t now dead r inn p).2.2.2):=bOw h (bIm h hm)
theorem Arr.thru{t:den tTo}{now:Int}{dead:List Int}{r inn:Int}{p:den tPk}(h:Arr t now dead r inn p):bR9 t r now (dU t dead r) inn p:=mQ (h.code.elim .inl λe=> .inr (.inl e))
theorem Arr.set{t:den tTo}{now:Int}{dead:List Int}{r inn:Int}{p:den tPk}{m:Int×Int×Int×List Int}(hm:okM m=true)(h:Arr t now dead r inn p):Arr t now dead r inn (lA p m):=by
 refine Arr.ind (M:=λr inn p=>Arr t now dead r inn (lA p m)) (λr inn p h=> ?_) (λr inn p h k ih=> ?_) h
 .have e:=aVq (now:=now) (dead:=dead) (r:=r) (inn:=inn) (Arr.here h).thru.val hm (t:=t);exact .here (by rw[e];exact h)
 .have e:=aVq (now:=now) (dead:=dead) (r:=r) (inn:=inn) (Arr.step h k).thru.val hm (t:=t);refine .step (by rw[e];exact h) ?_;rw[e];exact ih
theorem Arr.alive{t:den tTo}{now:Int}{dead:List Int}{r inn:Int}{p:den tPk}(h:Arr t now dead r inn p):∀x∈fut p,xR (dU t dead x.1) x.2=false:=by
 refine Arr.ind (M:=λr inn p=> ∀x∈fut p,xR (dU t dead x.1) x.2=false) (λr inn p h=> ?_) (λr inn p h k ih=> ?_) h
 .intro x hx;have th:=mQ (t:=t) (r:=r) (now:=now) (dead:=dU t dead r) (inn:=inn) (p:=p) (.inr (.inl h));have h:(fwd t r now (dU t dead r) inn p).1=1:=h;have :fut p=[]:=by
   obtain⟨g1,g2,g3⟩:=aTd (qW th.sim) th.go;have b:fut (aX t now p).2=fut p:=aQt _ p th.go;have hl:cZ (aX t now p).2=true:=by
    unfold fwd at h;split at h
    .exact absurd h (show ¬ ((2:Int)=1) by decide)
    split at h
    .exact absurd h (show ¬ ((3:Int)=1) by decide)
    split at h
    .rw[th.go]at h;exact absurd h (show ¬ ((0:Int)=1) by decide)
    split at h
    .rename_i c;exact c
    split at h
    .exact absurd h (show ¬ ((6:Int)=1) by decide)
    split at h
    .exact absurd h (show ¬ ((7:Int)=1) by decide)
    .exact absurd h (show ¬ ((0:Int)=1) by decide)
   obtain⟨q1,q2,_⟩:=aAk (t:=t) (now:=now) (p.2.2.2.1.length - p.2.2.2.2.1.toNat) p th.go;obtain⟨i,j,f1,f2,f3,f4,f5,f6⟩:=aV9 (p:=(aX t now p).2) q1;unfold cZ cY aC9 at hl;simp only[bWj]at hl;obtain⟨_,h1,h2⟩:=hl;rw[f2]at h1;rw[f1]at h2;have h1:(j:Int)=((bH (aX t now p).2).2.2.2.length:Int) - 1:=eq_of_beq h1;have h2:(i:Int)=((aX t now p).2.2.2.2.1.length:Int) - 1:=eq_of_beq h2;rw[<- b,f5];have a1:(egs (bH (aX t now p).2)).dropLast.drop j=[]:=by
    rw[List.drop_eq_nil_iff];unfold egs;rw[bZ3,bXe];omega
   have a2:List.drop (i+1) (aX t now p).2.2.2.2.1=[]:=by
    rw[List.drop_eq_nil_iff];omega
   rw[a1,a2];rfl
  rw[this]at hx;cases hx
 .obtain⟨e1,e2⟩:=aY7 (t:=t) (r:=r) (now:=now) (dead:=dU t dead r) (inn:=inn) (p:=p) h;intro x hx;rw[e1]at hx;rcases bWm.1 hx with rfl | hx
  .exact e2
  .exact ih x hx
theorem aOz{l:lUs}{id s d i' s' d':Int}(h: ¬ (id=i'/\s=s'/\d=d')):dG (qK l id s d) i' s' d'=dG l i' s' d':=by
 have hx:iV i' s' d' (id,s,d,1)=false:=by
  cases c:iV i' s' d' (id,s,d,1) with
  | false=>rfl
  | true=>exact absurd (wR.1 c) (λ⟨a,b,c⟩=>h ⟨a,b,c⟩)
 rcases aHp l id s d with ⟨_,_,_,h4⟩ | ⟨j,x,_,h2,h3,_,h5⟩
 .rw[h4];unfold dG;rw[aIv];rcases aG0 l i' s' d' with ⟨p1,_⟩ | ⟨k,y,p1,p2,_⟩
  .rw[p1,zT (show (-1:Int)<0 by decide),zT (show (-1:Int)<0 by decide)];have :plc i' s' d' l.length [((id,s,d,1):den tUs)]= -1:=by
    unfold plc;rw[hx];rfl
   rw[this];rfl
  .simp only[p1,zS (show ¬ (k:Int)<0 by omega),bWs,bZ1 (bWn.1 p2).1]
 .rw[h5];unfold dG;rw[aHf (aM8 h2 _)];rcases aG0 l i' s' d' with ⟨p1,_⟩ | ⟨k,y,p1,p2,p3⟩
  .rw[p1];rfl
  .simp only[p1,zS (show ¬ (k:Int)<0 by omega),bWs]
   by_cases hk:j=k
   .subst hk;rw[h2]at p2;injection p2 with p2;subst p2;obtain⟨a1,a2,a3⟩:=wR.1 h3;obtain⟨b1,b2,b3⟩:=wR.1 p3;exact absurd ⟨a1.symm.trans b1,a2.symm.trans b2,a3.symm.trans b3⟩ h
   .rw[List.getElem?_set_ne hk]
noncomputable def hH(d:Int×Int)(p:den tPk):Nat:=(if d∈fut p then 1 else 0)+(if p.1==1 then 1 else 0)
noncomputable def aE7(d:Int×Int):lFy->Nat
 | []=>0
 | x::l=>hH d x.2.2+aE7 d l
theorem aTb(d:Int×Int):∀(l:lFy) (x:den tFy),aE7 d (l++[x])=aE7 d l+hH d x.2.2
 | [],x=>by show hH d x.2.2+0=0+hH d x.2.2;omega
 | y::l,x=>by
  show hH d y.2.2+aE7 d (l++[x])=hH d y.2.2+aE7 d l+hH d x.2.2;rw[aTb d l x];omega
theorem aKw(d:Int×Int)(p:den tPk):hH d p<=2:=by
 unfold hH;split<;>split<;>decide
theorem aAg{d:Int×Int}{p:den tPk}(h:(p.1==(1:Int))=false):hH d p<=1:=by
 unfold hH;rw[h];split<;>decide
theorem yI{d:Int×Int}{p:den tPk}(h:(p.1==(1:Int))=true):1<=hH d p:=by
 unfold hH;rw[h];split<;>decide
structure Mid (t:den tTo) (τ:Int) (dead:List Int) (e:Int×Int->Nat) (m:Nat) (w:den tNw):Prop where
 top:nT w=t
 now:aH w=τ
 dead:aJ w=dead
 cap:∀s d:Int,6<=free (nG w).2.1 (nG w).1 s d τ
 bud:∀d:Int×Int,dG (nG w).2.2 0 d.1 d.2+((aE7 d (aE w)+e d:Nat):Int)<=6
 low:∀d:Int×Int,0<=dG (nG w).2.2 0 d.1 d.2
 len:(aE w).length+m<=4
theorem Mid.mono{t:den tTo}{τ:Int}{dead:List Int}{e e':Int×Int->Nat}{m m':Nat}{w:den tNw}(h:Mid t τ dead e m w)(he:∀d,e' d<=e d)(hm:m'<=m):Mid t τ dead e' m' w:=
 ⟨h.top,h.now,h.dead,h.cap,λd=>by have :=h.bud d;have :=he d;omega,h.low,by have :=h.len;omega⟩
theorem Mid.flows{t:den tTo}{τ:Int}{dead:List Int}{e:Int×Int->Nat}{m:Nat}{w:den tNw}(h:Mid t τ dead e m w)(l:lFl):Mid t τ dead e m (bK w l):=⟨h.top,h.now,h.dead,h.cap,h.bud,h.low,h.len⟩
theorem Mid.box{t:den tTo}{τ:Int}{dead:List Int}{e:Int×Int->Nat}{m:Nat}{w:den tNw}(h:Mid t τ dead e m w)(k:Nat)(x:den tIb):Mid t τ dead e m (mH w k x):=⟨h.top,h.now,h.dead,h.cap,h.bud,h.low,h.len⟩
theorem Mid.drop{t:den tTo}{τ:Int}{dead:List Int}{e:Int×Int->Nat}{m:Nat}{w:den tNw}(h:Mid t τ dead e m w):Mid t τ dead e m (rX w):=⟨h.top,h.now,h.dead,h.cap,h.bud,h.low,h.len⟩
theorem Mid.send{t:den tTo}{τ:Int}{dead:List Int}{e:Int×Int->Nat}{m:Nat}{w:den tNw}{r inn:Int}{p:den tPk}(h:Mid t τ dead (λd=>hH d p+e d) (m+1) w)(hc:(aD t τ dead r inn p).1=0):
  aE (dS w r (aD t τ dead r inn p).2.1 (aD t τ dead r inn p).2.2.1)=aE w++[((remote t r (aD t τ dead r inn p).2.1).1,(remote t r (aD t τ dead r inn p).2.1).2,(aD t τ dead r inn p).2.2.1)]/\
  aB (dS w r (aD t τ dead r inn p).2.1 (aD t τ dead r inn p).2.2.1)=aB w/\aL (dS w r (aD t τ dead r inn p).2.1 (aD t τ dead r inn p).2.2.1)=aL w/\dO (dS w r (aD t τ dead r inn p).2.1 (aD t τ dead r inn p).2.2.1)=dO w/\
  Mid t τ dead e m (dS w r (aD t τ dead r inn p).2.1 (aD t τ dead r inn p).2.2.1):=by
 have th:=mQ (t:=t) (r:=r) (now:=τ) (dead:=dU t dead r) (inn:=inn) (p:=p) (.inl hc);obtain⟨f1,_⟩:=aY7 (t:=t) (r:=r) (now:=τ) (dead:=dU t dead r) (inn:=inn) (p:=p) hc;have f1:fut p=(r,(aD t τ dead r inn p).2.1)::fut (aD t τ dead r inn p).2.2.1:=f1;obtain⟨fk,_⟩:=aBh t r τ (dU t dead r) inn p;have fk:(aD t τ dead r inn p).2.2.1.1=p.1:=fk;have nd:(fut p).Nodup:=by
  obtain⟨a,ea⟩:=bBw p;have :=aV5 th.sim;rw[ea]at this;exact (bXr.1 this).2.1
 rw[f1,List.nodup_cons]at nd;generalize hp':(aD t τ dead r inn p).2.2.1=p' at *;generalize hg:(aD t τ dead r inn p).2.1=eg at *;have one:hH (r,eg) p=1+hH (r,eg) p':=by
  unfold hH;rw[f1,fk,zT (bWt ..),zS nd.1];omega
 have oth:∀d,hH d p'<=hH d p:=λd=>by
  unfold hH;rw[f1,fk]
  by_cases hd:d∈fut p'
  .rw[zT hd,zT (bWo _ hd)];exact bWx _
  .rw[zS hd];exact bYf (bW3 _) _
 have hb:=h.bud (r,eg);have hl:=h.low (r,eg);simp only at hb hl;rw[one]at hb;have hfree:=h.cap r eg;have hlt:dG (nG w).2.2 0 r eg<oU (nG w) 0 r eg (aH w):=by
  rw[h.now];show _<free (nG w).2.1 (nG w).1 r eg τ;omega
 have hn:decide ((aE w).length<150)=true:=by have :=h.len;rw[zR];omega
 have tr:∃u,pT (nG w) p'.2.2.2.2.2.2.2.1 r eg (aH w)=((nG w).1,true,(nG w).2.1,u)/\dG u 0 r eg<=dG (nG w).2.2 0 r eg+1/\0<=dG u 0 r eg/\ ∀d:Int×Int,d≠(r,eg)->dG u 0 d.1 d.2=dG (nG w).2.2 0 d.1 d.2:=by
  have more:dG (qK (nG w).2.2 0 r eg) 0 r eg=dG (nG w).2.2 0 r eg+1:=bI9 ⟨hl,by omega⟩;have far:∀d:Int×Int,d≠(r,eg)->dG (qK (nG w).2.2 0 r eg) 0 d.1 d.2=dG (nG w).2.2 0 d.1 d.2:=λd hd=>aOz λ⟨_,a,b⟩=>hd (Prod.ext a.symm b.symm)
  unfold pT
  by_cases hu:dG (nG w).2.2 p'.2.2.2.2.2.2.2.1 r eg<oU (nG w) p'.2.2.2.2.2.2.2.1 r eg (aH w)
  .rw[zT hu];refine⟨_,rfl,?_⟩
   by_cases h0:p'.2.2.2.2.2.2.2.1=(0:Int)
   .rw[h0];exact⟨by omega,by omega,far⟩
   .have :∀s d,dG (qK (nG w).2.2 p'.2.2.2.2.2.2.2.1 r eg) 0 s d=dG (nG w).2.2 0 s d:=λs d=>aOz λ⟨a,_,_⟩=>h0 a
    rw[this];exact⟨by omega,hl,λd _=>this _ _⟩
  .rw[zS hu,zT hlt];exact⟨_,rfl,by omega,by omega,far⟩
 obtain⟨u,t1,t2,t3,t4⟩:=tr;have e0:dS w r eg p'=(nT w,nK w,((nG w).1,(nG w).2.1,u),aH w,aJ w,aE w++[((remote (nT w) r eg).1,(remote (nT w) r eg).2,p')],aB w,aL w,dO w):=by
  unfold dS;rw[t1,hn];rfl
 rw[e0];refine⟨by rw[h.top],rfl,rfl,rfl,h.top,h.now,h.dead,h.cap,λd=> ?_,λd=> ?_,?_⟩
 .show dG u 0 d.1 d.2+((aE7 d (aE w++[((remote (nT w) r eg).1,(remote (nT w) r eg).2,p')])+e d:Nat):Int)<=6;rw[aTb];show dG u 0 d.1 d.2+((aE7 d (aE w)+hH d p'+e d:Nat):Int)<=6
  by_cases hd:d=(r,eg)
  .subst hd;show dG u 0 r eg+_<=_;omega
  .have a:=h.bud d;have b:=oth d;rw[t4 d hd];omega
 .show 0<=dG u 0 d.1 d.2
  by_cases hd:d=(r,eg)
  .subst hd;exact t3
  .rw[t4 d hd];exact h.low d
 .show (aE w++[_]).length+m<=4;have :=h.len;simp only[bW9,bX5];omega
theorem Mid.step{t:den tTo}{τ:Int}{dead:List Int}{e:Int×Int->Nat}{m:Nat}{w:den tNw}(h:Mid t τ dead e m w)(r inn:Int)(p:den tPk):aD (nT w) (aH w) (aJ w) r inn p=aD t τ dead r inn p:=by rw[h.top,h.now,h.dead]
theorem Mid.proc0{t:den tTo}{τ:Int}{dead:List Int}{e:Int×Int->Nat}{m:Nat}{w:den tNw}{r inn:Int}{p:den tPk}(h:Mid t τ dead (λd=>hH d p+e d) (m+1) w):Mid t τ dead e m (proc0 w r inn p):=by
 have h':Mid t τ dead e m w:=h.mono (λd=>bX7 _ _) (bXi _);unfold Go.Proofs.YtnkjolpkcmgcaaaGreat.proc0;rw[h.step r inn p];split
 .rename_i c;exact (h.send (eq_of_beq c)).2.2.2.2
 .split
  .exact h'.flows _
  .exact h'.drop
theorem Mid.data{t:den tTo}{τ:Int}{dead:List Int}{e:Int×Int->Nat}{m:Nat}{w:den tNw}{r:Int}{p:den tPk}(h:Mid t τ dead (λd=>1+e d) (m+1) w):Mid t τ dead e m (kL w r p):=by
 have h':Mid t τ dead e m w:=h.mono (λd=>bX7 _ _) (bXi _);unfold kL;split
 .exact h'
 .split
  .rename_i hb;refine Mid.proc0 ((h.box _ _).mono (λd=> ?_) (bWx _));exact bYf (aAg (aGu hb)) _
  .exact h'.box _ _
theorem Mid.note{t:den tTo}{τ:Int}{dead:List Int}{e:Int×Int->Nat}{m:Nat}{w:den tNw}{r d:Int}{p:den tPk}(h:Mid t τ dead (λd=>1+e d) (m+1) w):Mid t τ dead e m (nY w r d p):=by
 have h':Mid t τ dead e m w:=h.mono (λd=>bX7 _ _) (bXi _);unfold nY;split
 .exact (Mid.proc0 (h.mono (λd=>bYf (aAg rfl) _) (bWx _))).drop
 .exact (h'.flows _).drop
theorem Mid.proc{t:den tTo}{τ:Int}{dead:List Int}{e:Int×Int->Nat}{m:Nat}{w:den tNw}{r inn:Int}{p:den tPk}(h:Mid t τ dead (λd=>hH d p+e d) (m+1) w):Mid t τ dead e m (cO w r inn p):=by
 have h':Mid t τ dead e m w:=h.mono (λd=>bX7 _ _) (bXi _);unfold cO;rw[h.step r inn p];split
 .rename_i c;exact (h.send (eq_of_beq c)).2.2.2.2
 .split
  .split
   .rename_i h1;exact Mid.data (h.mono (λd=>bYf (yI h1) _) (bWx _))
   .exact h'.flows _
  .split
   .rename_i h1;rw[bWj]at h1;exact Mid.note (h.mono (λd=>bYf (yI h1.2) _) (bWx _))
   .exact h'.drop
theorem Mid.take{t:den tTo}{τ:Int}{dead:List Int}{e:Int×Int->Nat}{m:Nat}{w:den tNw}{x:den tFy}{l:lFy}(h:Mid t τ dead e m w)(hf:aE w=x::l):Mid t τ dead (λd=>hH d x.2.2+e d) (m+1) (bF w l):=by
 refine⟨h.top,h.now,h.dead,h.cap,λd=> ?_,h.low,?_⟩
 .have a:=h.bud d;rw[hf]at a;have a:dG (nG w).2.2 0 d.1 d.2+((hH d x.2.2+aE7 d l+e d:Nat):Int)<=6:=a;show dG (nG w).2.2 0 d.1 d.2+((aE7 d l+(hH d x.2.2+e d):Nat):Int)<=6;omega
 .have a:=h.len;rw[hf]at a;simp only[bXp]at a;show l.length+(m+1)<=4;omega
theorem Mid.out{t:den tTo}{τ:Int}{dead:List Int}{e:Int×Int->Nat}{m:Nat}{w:den tNw}(h:Mid t τ dead e m w):Mid t τ dead e m (outW w):=by
 unfold outW;split
 .exact h
 .rename_i x l hf;exact (h.take hf).proc
theorem Mid.tickT{t:den tTo}{τ:Int}{dead:List Int}{e:Int×Int->Nat}{m:Nat}{w:den tNw}(k:Nat)(h:Mid t τ dead (λd=>2+e d) (m+1) w):Mid t τ dead e m (stepT k w):=by
 have h':Mid t τ dead e m w:=h.mono (λd=>bX7 _ _) (bXi _);unfold stepT;split
 .split
  .exact Mid.proc ((h.flows _).mono (λd=>bYf (aKw _ _) _) (bWx _))
  .exact h'.flows _
 .exact h'
theorem bHo{w:den tNw}{t:den tTo}{τ:Int}{dead:List Int}(h1:nT w=t)(h2:aH w=τ)(h3:aJ w=dead)(hc:∀s d:Int,6<=free (nG w).2.1 (nG w).1 s d τ)(hu:(nG w).2.2=[])(hf:aE w=[]):Mid t τ dead (λ_=>2 * 3) 3 w:=by
 have u0:∀s d,dG ([]:lUs) 0 s d=0:=λ_ _=>rfl
 refine⟨h1,h2,h3,hc,λd=> ?_,λd=> ?_,?_⟩
 .rw[hu,hf,u0];show (0:Int)+((0+2 * 3:Nat):Int)<=6;decide
 .rw[hu,u0];exact bXl _
 .rw[hf];decide
def aH9(t:den tTo)(τ:Int)(dead:List Int)(p:den tPt):Prop:=Arr t τ dead (ends p).1 0 (bU 1 p 0 0 [])/\Arr t τ dead (ends (cH p)).1 0 (bU 1 (cH p) 0 0 [])
def aEy(t:den tTo)(dead:List Int)(b:List Int):Prop:= ∃r d u:Int,b=rI (r,d,u)/\xR (dU t dead r) d=true
theorem bGa{b:List Int}{p n:Nat}(h:b[p]? =some (n:Int))(hn:n<128):rv b p=((n:Int),((p+1:Nat):Int),true):=by
 show aH4 b p 6 0 0=_;unfold aH4;rw[Nat.add_zero,h];simp only[bWs];rw[zT hn];have e:decide (1000000000000<0+n % 128 * 2 ^ (7 * 0))=false:=by
  rw[decide_eq_false_iff_not];have :n % 128<128:=Nat.mod_lt _ (by decide);simp only[Nat.mul_zero,Nat.pow_zero,Nat.mul_one];omega
 rw[e];have e2:0+n % 128 * 2 ^ (7 * 0)=n:=by
  rw[Nat.mod_eq_of_lt hn];simp
 rw[e2];simp
theorem bHn{k n:Nat}(h:n<128):vi k n=[(n:Int)]:=by
 cases k with
 | zero=>rfl
 | succ k=>unfold vi;rw[zT h]
theorem bIx{x:den tRv}(h:(sD (rI x)).2.2.2=true):(sT (rI x)).1=x.1/\(sT (rI x)).2.1=x.2.1/\dJ x=true:=by
 cases hv:dJ x with
 | false=>
  have e:rI x=[]:=by unfold rI;rw[hv];rfl
  rw[e]at h;exact absurd h (by decide)
 | true=>
  have hv':=hv;unfold dJ at hv';simp only[bWj]at hv';obtain⟨a1,a2⟩:=aI.1 hv'.1;obtain⟨b1,b2⟩:=aI.1 hv'.2.1;obtain⟨c1,c2⟩:=aI.1 hv'.2.2;have big:∀(a:Int),0<=a->a<=1000000->inR a 0 1000000000000=true:=λa h1 h2=>aI.2 ⟨h1,by omega⟩
  obtain⟨m,hm⟩:=bXs a1;obtain⟨n,hn⟩:=bXs (show (0:Int)<=x.2.1 from bX4 (by decide) b1);have hm7:m<=7:=by rw[hm]at a2;omega
  have hn6:n<=6:=by rw[hn]at b2;omega
  have e:rI x=(m:Int)::(n:Int)::vi 5 x.2.2.toNat:=by
   unfold rI;rw[hv,zT rfl];unfold aKg;simp only[bY1,List.foldl_nil];unfold aBy;rw[big _ a1 (leI (bX4 a2 (by decide))),big _ (bX4 (by decide) b1) (leI (bX4 b2 (by decide))),big _ c1 c2,hm,hn];simp only[zV,bWs];rw[bHn (show m<128 by omega),bHn (show n<128 by omega)];rfl
  have r0:rv (rI x) 0=((m:Int),((0+1:Nat):Int),true):=bGa (by rw[e];rfl) (by omega);have r1:rv (rI x) 1=((n:Int),((1+1:Nat):Int),true):=bGa (by rw[e];rfl) (by omega);have d:∃q b l,aG9 (rI x)=(q,b,l)/\(b=false/\l=[]\/ ∃z,l=[(m:Int),(n:Int),z]):=by
   unfold aG9;rw[r0];simp only[zZ,bWs,Nat.zero_add];rw[r1];simp only[zZ,bWs];cases (rv (rI x) (1+1)).2.2 with
   | false=>exact⟨_,_,_,rfl,.inl ⟨rfl,rfl⟩⟩
   | true=>exact⟨_,_,_,rfl,.inr ⟨_,rfl⟩⟩
  obtain⟨q,b,l,d1,d2⟩:=d;unfold sT;unfold sD at h|-;rw[d1]at h ⊢;rcases d2 with ⟨rfl,rfl⟩ | ⟨z,rfl⟩
  .exact absurd h Bool.false_ne_true
  .cases b with
   | false=>exact absurd h Bool.false_ne_true
   | true=>
    simp only at h|-;cases c1:q==((rI x).length:Int) with
    | false=>rw[c1]at h;exact absurd h Bool.false_ne_true
    | true=>
     rw[c1]at h;cases c2:dJ ((m:Int),(n:Int),z) with
     | false=>rw[c2]at h;exact absurd h Bool.false_ne_true
     | true=>exact⟨hm.symm,hn.symm,trivial⟩
theorem bDv{t:den tTo}{τ:Int}{dead:List Int}{p:lPp}(h:aH9 t τ dead p):wfP t p=true/\ ∀x,(x∈iT p\/x∈nU p)->aEu x/\xR (dU t dead x.1) x.2=false:=by
 have hw:wfP t p=true:=qW h.1.thru.sim;have hv:=xB (aDs hw);refine⟨hw,λx hx=>⟨aWi hv x hx,?_⟩⟩;rcases hx with hx | hx
 .exact h.1.alive x (by rw[aZ0];exact hx)
 .exact h.2.alive x (by rw[aZ0];exact aWu hv x hx)
theorem bRt{t:den tTo}{τ:Int}{dead:List Int}{p:lPp}(h:aH9 t τ dead p){b:List Int}(hb:aEy t dead b)(hd:(sD b).2.2.2=true):oE p (sT b)=false:=by
 obtain⟨r,d,u,rfl,h7⟩:=hb;obtain⟨e1,e2,e3⟩:=bIx hd;obtain⟨hw,ha⟩:=bDv h;cases hc:oE p (sT (rI (r,d,u))) with
 | false=>rfl
 | true=>
  exfalso;unfold oE at hc;rw[bWj,e1,e2,aH5]at hc;obtain⟨x,hx,e⟩:=bP3 hw hc.2;obtain⟨d1,d2⟩:=ha x hx;unfold dJ at e3;simp only[bWj]at e3;obtain⟨a1,a2⟩:=aI.1 e3.1;obtain⟨b1,b2⟩:=aI.1 e3.2.1;have :(r,d)=x:=bOt ⟨a1,a2,bX4 (by decide) b1,b2⟩ d1 e;rw[<- this]at d2;rw[h7]at d2;cases d2
theorem bCt{t:den tTo}{τ:Int}{dead:List Int}{f:den tFl}{q:den tPk}(h:aH9 t τ dead ((f.2.2.2.2.2.1[f.2.2.2.2.2.2.1.toNat]?).getD []))(hq:q.1=(3:Int)->aEy t dead q.2.2.2.2.2.2.2.2.2):
  (iI f q).2.2.2.1=f.2.2.2.1/\(iI f q).2.2.2.2.2.2.1=f.2.2.2.2.2.2.1/\(iI f q).2.2.2.2.2.2.2.1=f.2.2.2.2.2.2.2.1/\(iI f q).2.2.2.2.2.1=f.2.2.2.2.2.1:=by
 unfold iI;cases c:(q.1==3&&(sD q.2.2.2.2.2.2.2.2.2).2.2.2) with
 | false=>exact⟨rfl,rfl,rfl,rfl⟩
 | true=>
  rw[bWj]at c;have hh:aKf f (sT q.2.2.2.2.2.2.2.2.2)=false:=by
   unfold aKf;rw[bRt h (hq (eq_of_beq c.1)) c.2,bYu]
  rw[hh];exact⟨rfl,rfl,rfl,rfl⟩
theorem bJ3{t:den tTo}{r now dead inn:Int}{p:den tPk}(h:(fwd t r now dead inn p).1=7):xR dead (fwd t r now dead inn p).2.2.2=true:=by
 have th:=mQ (.inr (.inr h));unfold fwd at h|-;split at h
 .exact absurd h (show ¬ ((2:Int)=7) by decide)
 rename_i c1;rw[zS c1];split at h
 .exact absurd h (show ¬ ((3:Int)=7) by decide)
 rename_i c2;rw[zS c2];split at h
 .rw[th.go]at h;exact absurd h (show ¬ ((0:Int)=7) by decide)
 rename_i c3;rw[zS c3];split at h
 .split at h<;>first | exact absurd h (show ¬ ((1:Int)=7) by decide) | exact absurd h (show ¬ ((2:Int)=7) by decide)
 rename_i c4;rw[zS c4];split at h
 .exact absurd h (show ¬ ((6:Int)=7) by decide)
 rename_i c5;rw[zS c5];split at h
 .rename_i c6;rw[zT c6];exact c6
 .exact absurd h (show ¬ ((0:Int)=7) by decide)
def bS(f:den tFl):Int:=f.2.2.2.1
def eR(f:den tFl):Int:=f.2.2.2.2.2.2.1
def dT(f:den tFl):Int:=f.2.2.2.2.2.2.2.1
structure Aim where
 t:den tTo
 now:Int
 dead:List Int
 src:Int
 dst:Int
 ms:lMs
 ps:lPt
 c:Nat
 q:den tPt
 i:Nat
 m:Int
structure qP (A:Aim):Prop where
 at_:A.ps[A.c]? =some A.q
 work:aH9 A.t A.now A.dead A.q
 fst_:zE A.q=some A.src
 lst_:vE A.q=some A.dst
 few:A.ms.length<=20
 some_:A.ps.length<=24
structure FC (A:Aim) (f:den tFl):Prop where
 src:f.1=A.src
 dst:f.2.1=A.dst
 ms:f.2.2.2.2.1=A.ms
 ps:f.2.2.2.2.2.1=A.ps
 a0:0<=bS f
 a1:bS f<=(A.ms.length:Int)
 c0:0<=eR f
 c1:eR f<(A.ps.length:Int)
 w0:0<=dT f
 w1:dT f<=4
def qA(n c cur w:Int):Int:=if cur=c then (if w=0 then 0 else n) else if cur<c then c - cur else n+c - cur
def muF(A:Aim)(f:den tFl):Int:=2 * ((A.ms.length:Int) - bS f)+(5 - dT f)+6 * qA A.ps.length A.c (eR f) (dT f)
theorem bKy{n c cur w:Int}(h0:0<=c)(h1:c<n)(h2:0<=cur)(h3:cur<n):0<=qA n c cur w/\qA n c cur w<=n:=by
 unfold qA;split
 .split<;>omega
 .split<;>omega
theorem bF3{n c cur w:Int}(h0:0<=c)(h1:c<n)(h2:0<=cur)(h3:cur<n):qA n c cur 0<=qA n c cur w:=by
 unfold qA;split
 .rw[zT rfl];split<;>omega
 .exact bXl _
theorem aUk{n c cur w:Int}(h:cur≠c):qA n c cur w=qA n c cur 0:=by
 unfold qA;rw[zS h,zS h]
def nxI(n cur:Int):Int:=if cur+1>=n then 0 else cur+1
theorem aI3{n c cur w:Int}(h0:0<=c)(h1:c<n)(h2:0<=cur)(h3:cur<n)(h4:cur≠c\/w≠0):0<=nxI n cur/\nxI n cur<n/\1<=qA n c cur w/\qA n c (nxI n cur) 0+1<=qA n c cur w:=by
 unfold qA nxI
 by_cases e:cur=c
 .have hw:w≠0:=h4.elim (λh=>absurd e h) id;subst e;rw[zT rfl,zS hw]
  by_cases g:cur+1>=n
  .rw[zT g]
   by_cases z:(0:Int)=cur
   .rw[zT z,zT rfl];omega
   .rw[zS z,zT (by omega)];omega
  .rw[zS g,zS (by omega),zS (by omega)];omega
 .rw[zS e]
  by_cases g:cur+1>=n
  .rw[zT g,zS (by omega)]
   by_cases z:(0:Int)=c
   .rw[zT z,zT rfl];omega
   .rw[zS z,zT (by omega)];omega
  .rw[zS g]
   by_cases z:cur+1=c
   .rw[zT z,zT rfl,zT (by omega)];omega
   .rw[zS z]
    by_cases y:cur<c
    .rw[zT y,zT (by omega)];omega
    .rw[zS y,zS (by omega)];omega
theorem aAa{A:Aim}{f:den tFl}(hA:qP A)(h:FC A f):nW f=nxI A.ps.length (eR f):=by
 have a:=h.c0;have b:=h.c1;have c:=hA.some_;have e:wr (eR f+1)=eR f+1:=wri (by omega) (by omega);have e2:wr (f.2.2.2.2.2.2.1+1)=eR f+1:=e;unfold nW nxI;rw[e2,h.ps]
theorem qP.cn{A:Aim}(h:qP A):(A.c:Int)<(A.ps.length:Int):=by
 have :=(bWn.1 h.at_).1;omega
end Go.Proofs.YtnkjolpkcmgcaaaGreat
