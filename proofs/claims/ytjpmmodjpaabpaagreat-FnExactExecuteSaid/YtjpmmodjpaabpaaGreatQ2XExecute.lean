/-
  Facts and plain laws: what the functions compute, in plain words. Conditions: as each says.
-/
import Derived.Test.YtjpmmodjpaabpaaGreatQ1XExecute
open Int renaming toNat_natCast->cMt,tmod->cNi,tdiv->cNj
open Bool renaming not_true->cMp,not_false->cMx,and_eq_true->cMu,eq_iff_iff->cNe,and_false->cNz,and_true->cO0,true_and->cM1,or_eq_false_iff->cOp
open List renaming getElem?_eq_getElem->cMz,length_set->cOv,mem_of_getElem?->cMw,mem_cons_of_mem->cM4,mem_flatMap->cN6,mem_singleton->cM2,length_append->cNa,length_singleton->cOd,mem_append->cM3,not_mem_nil->cNr,map_cons->cNb,sum_cons->cNy,length_cons->cM8,length->cMy,length_nil->cNd,replicate->cNs,foldl_cons->cOf,map_append->cO2,append_nil->cNn,append_assoc->cNp,length_map->cNg,mem_map->cMs,getElem?_append_right->cPn,getElem?_map->cOk,cons->cOl
open Option renaming getD_some->cNh,map_eq_some_iff->cNm
open Nat renaming zero_le->cM7,le_trans->cMo,le_succ->cN1,le_refl->cM5,reduceEqDiff->cPl
open Sum renaming inl->cMn,inr->cMm,elim->cMq,elim_inl->cN4
open Array renaming length_toList->cPj
set_option linter.unusedVariables false
set_option linter.unusedSimpArgs false
set_option maxRecDepth 100000
open Option renaming some→U
open Option renaming none→W
open Decidable renaming decide→D
open Bool renaming true→X
open Bool renaming false→Y
set_option linter.defProp false
namespace Go.Proofs.YtjpmmodjpaabpaaGreat
open Go.Ab Go.V
def bVv{t:den tTo}{r:Int}{l:bX}{g:den fM}(ht:eR t)(hl:l.length<=12)(h:aJl l)(hg:g.2.2.2.length<=9):rX t r l g=U (aK0 t r l g):=by
 have hl':l.length<=1000000:=by omega
 have hc:nC t g.2 r g.1=U (aDe t g.2 r g.1):=bI8 ht (by omega) r g.1;have hk:l.findIdx (yY g)<=l.length:=List.findIdx_le_length;have hcp:eB g.2=U g.2:=aGs (by omega);unfold rX aK0 ixb pj2 pj3;simp only[aD,bI4 hl' h,hc,cFb hl' h hg,aA];rw[bIi (l:=l) (yY g) hl' (λk x hx hm hd hw=>by
  simp only[hd,bF,zZ,cMt,hx,aA,cC5 hg (h x hm),hw];cases yY g x<;>rfl) (by simp)]
 have hn:=aWx (g:=g) hk;generalize l.findIdx (yY g)=k at *;cases aDe t g.2 r g.1 with
 | false=>rfl
 | true=>cases aOo l g with
  | true=>rfl
  | false=>
   simp only[cMp,cMx,zY,aA,Bool.or_self,bB,cB,bL,bJ,bO,hcp];rw[show bH (0:Int) (k:Int) (l.length:Int)=X from aDn hk,show bH (k:Int) (l.length:Int) (l.length:Int)=X from wM hk,fL,aC0];simp only[zZ,aD,aA,aC (b:=48) (n:=([]:bX).length) (m:=(l.take k).length) (by decide) (by simp;omega),aC (b:=48) (n:=(([]:bX)++l.take k).length) (m:=1) (by decide) (by simp;omega),aC (b:=48) (n:=((([]:bX)++l.take k)++[g]).length) (m:=(l.drop k).length) (by decide) (by simp;omega)];show Option.bind (cond (D (((qG l g k).length:Int)>12)) (cond (bH (0:Int) (wr (((qG l g k).length:Int) - 1)) ((qG l g k).length:Int)) (U (cut (qG l g k) (0:Int) (wr (((qG l g k).length:Int) - 1)))) W) (U (qG l g k))) (λs16=>U s16)=_;rw[show wr (((qG l g k).length:Int) - 1)=(((qG l g k).length - 1:Nat):Int) from (dN (by omega)).trans (by omega),fL,show bH (0:Int) (((qG l g k).length - 1:Nat):Int) ((qG l g k).length:Int)=X from aDn (Nat.sub_le _ _)];cases D (((qG l g k).length:Int)>12)<;>rfl
def ltI{a b:Int}(h:a<b):a<b:=h
noncomputable def aNl(t:den tTo)(st:List bX)(m:den sP):List bX:=
 cond (inR m.1 0 ((st.length:Int) - 1)) (st.set m.1.toNat (aK0 t m.1 ((st[m.1.toNat]?).getD []) m.2)) st
noncomputable def aI8(t:den tTo)(b:den gZ)(l:aZ):den gZ:=cond (mM t) (b.1,l.foldl (aNl t) b.2) b
def aLq(l:aZ):Prop:= ∀m∈l,m.2.2.2.2.length<=9
def bBc{t:den tTo}{st:List bX}{m:den sP}(h:tA st)(hm:m.2.2.2.2.length<=9):(aNl t st m).length=st.length/\tA (aNl t st m):=by
 unfold aNl;cases c:inR m.1 0 ((st.length:Int) - 1) with
 | false=>exact⟨rfl,h⟩
 | true=>
  obtain⟨g0,g1⟩:=bQ.1 c;have e:st[m.1.toNat]? =U (st[m.1.toNat]'(by omega)):=cMz (by omega);refine⟨cOv,λx hx=> ?_⟩;rcases List.mem_or_eq_of_mem_set hx with hx | rfl
  .exact h x hx
  .rw[e];obtain⟨h1,h2⟩:=h _ (cMw e);exact bQ2 h1 h2 hm
def cE0{t:den tTo}{b:den gZ}{l:aZ}(h:tA b.2)(hm:aLq l):(aI8 t b l).2.length=b.2.length/\tA (aI8 t b l).2:=by
 unfold aI8;cases mM t with
 | false=>exact⟨rfl,h⟩
 | true=>
  have key:∀(l:aZ) (st:List bX),aLq l->tA st->(l.foldl (aNl t) st).length=st.length/\tA (l.foldl (aNl t) st):=by
   intro l
   induction l with
   | nil=>intro st _ hs;exact⟨rfl,hs⟩
   | cons m l ih=>
    intro st hl hs;obtain⟨a,b⟩:=bBc (t:=t) hs (hl m (by simp));obtain⟨c,d⟩:=ih (aNl t st m) (λx hx=>hl x (cM4 _ hx)) b;exact⟨c.trans a,d⟩
  exact key l b.2 hm h
def cGv{t:den tTo}{b:den gZ}{l:aZ}(ht:eR t)(hb:b.2.length<=1000000)(h:tA b.2)(hl:l.length<=1000000)(hm:aLq l):jD t b l=U (aI8 t b l):=by
 unfold jD aI8 ixb pj2 pj3;simp only[aD,bXj hb h,aNz ht.sm,aA];cases mM t with
 | false=>rfl
 | true=>
  simp only[cMp,zY,zZ];rw[(aDy (l:=l) (aNl t) (λ_ st=>st.length=b.2.length/\tA st) (out:=λx=>x) (by omega) ⟨rfl,h⟩ (λk m (st:List bX) hi hd hw hx hk hI=>by
   obtain⟨d1,d2⟩:=bBc (t:=t) hI.2 (hm m hx);refine⟨?_,d1.trans hI.1,d2⟩;have w1:wr ((st.length:Int) - 1)=(st.length:Int) - 1:=dN (by rw[hI.1];omega);unfold aNl;simp only[hd,zZ,hi,aA,w1,gU,hw];cases c:inR m.1 0 ((st.length:Int) - 1) with
   | false=>rfl
   | true=>
    obtain⟨g0,g1⟩:=bQ.1 c;have hlt:m.1.toNat<st.length:=by omega
    have hlt2:m.1<(st.length:Int):=ltI (show (st.length:Int)>m.1 by omega);have e:st[m.1.toNat]? =U (st[m.1.toNat]'hlt):=cMz hlt;obtain⟨h1,h2⟩:=hI.2 _ (cMw e);have es:sC (t.1,t.2) m.1 (st[m.1.toNat]'hlt) (m.2.1,(m.2.2.1,m.2.2.2.1,m.2.2.2.2))=U _:=bYg (t:=t) (g:=m.2) ht h1 h2 (hm m hx);simp only[zX g0,zX hlt2,zX hlt,zZ,e,aA,es,cNh]) (λa=>by simp)).1]
  rfl
def bSp{t:den tTo}{b:den gZ}{l:aZ}(ht:eR t)(hb:b.2.length<=1000000)(h:tA b.2)(hl:l.length<=1000000)(hm:aLq l):gX t b l=U (aI8 t b l):=by
 unfold gX aI8 ixb pj2 pj3;simp only[aD,bYk hb h,aFo ht.sm,aA];cases mM t with
 | false=>
  rw[aI (r:=b.2) (by cases D ((0:Int)<(l.length:Int))<;>rfl)];rfl
 | true=>
  simp only[zZ];rw[(aDy (l:=l) (aNl t) (λ_ st=>st.length=b.2.length/\tA st) (out:=λx=>x) (by omega) ⟨rfl,h⟩ (λk m (st:List bX) hi hd hw hx hk hI=>by
   obtain⟨d1,d2⟩:=bBc (t:=t) hI.2 (hm m hx);refine⟨?_,d1.trans hI.1,d2⟩;have w1:wr ((st.length:Int) - 1)=(st.length:Int) - 1:=dN (by rw[hI.1];omega);unfold aNl;simp only[hd,zZ,hi,aA,w1,fB,hw];cases c:inR m.1 0 ((st.length:Int) - 1) with
   | false=>rfl
   | true=>
    obtain⟨g0,g1⟩:=bQ.1 c;have hlt:m.1.toNat<st.length:=by omega
    have hlt2:m.1<(st.length:Int):=ltI (show (st.length:Int)>m.1 by omega);have e:st[m.1.toNat]? =U (st[m.1.toNat]'hlt):=cMz hlt;obtain⟨h1,h2⟩:=hI.2 _ (cMw e);have es:rX (t.1,t.2) m.1 (st[m.1.toNat]'hlt) (m.2.1,(m.2.2.1,m.2.2.2.1,m.2.2.2.2))=U _:=bVv (t:=t) (g:=m.2) ht h1 h2 (hm m hx);simp only[zX g0,zX hlt2,zX hlt,zZ,e,aA,es,cNh]) (λa=>by simp)).1]
  rfl
def aWz(t:den tTo)(l:dE)(r ts:Int):(aFs t l r ts).length<=6:=by
 unfold aFs;cases mM t with
 | false=>exact cM7 _
 | true=>
  have h:=aFl (g:=aHy t (cE l r) r ts) (c:=1) (l:=aIh t (cE l r) r) λx _=>aWd _ _ _ _ _
  have h6:(aIh t (cE l r) r).length<=6:=aMu _;show (List.flatMap _ _).length<=6;omega
def aXn(t:den tTo)(l:dE)(r:Int){m:bX}(h:m.length<=12):(aHn t l r m).length<=72:=by
 unfold aHn;cases mM t with
 | false=>exact cM7 _
 | true=>
  have h:=aFl (g:=onM t (cE l r) r) (c:=6) (l:=m) λx _=>aVi _ _ _ _
  show (List.flatMap _ _).length<=72;omega
def bTi(t:den tTo)(l:dE)(r ts:Int):aLq (aFs t l r ts):=by
 intro m hm;unfold aFs at hm;cases c:mM t with
 | false=>rw[c]at hm;cases hm
 | true=>
  rw[c]at hm;obtain⟨o,ho,hm⟩:=cN6.1 hm;unfold aHy at hm;cases c2:(wE t (cE l r) r o ts (aTy t r ts o)).2.2.1 with
  | false=>rw[c2]at hm;cases hm
  | true=>
   rw[c2]at hm;rw[cM2.1 hm];show (wE t (cE l r) r o ts (aTy t r ts o)).2.2.2.length<=9;unfold wE;cases aUx t (cE l r) r o ts (aTy t r ts o)
   .exact cM7 _
   .exact (show (1:Nat)<=9 by decide)
def bUw(t:den tTo)(l:dE)(r:Int){m:bX}(h:aJl m):aLq (aHn t l r m):=by
 intro x hx;unfold aHn at hx;cases c:mM t with
 | false=>rw[c]at hx;cases hx
 | true=>
  rw[c]at hx;obtain⟨g,hg,hx⟩:=cN6.1 hx;unfold onM at hx;obtain⟨o,ho,hx⟩:=cN6.1 hx;rw[cM2.1 hx];show (aCv t (cE l r) g.2 r g.1 o).2.2.2.length<=9;unfold aCv;cases c2:bIv t (cE l r) g.2 r g.1 o with
  | false=>exact h g hg
  | true=>
   unfold bIv at c2;rw[cMu]at c2;have :=(aMc (aM1 c2.1).2).2;show (g.2.2.2++[_]).length<=9;rw[cNa,cOd];omega
def aO1(t:den tTo)(l:dE)(b:den gZ):aZ:=cV (λk m a=>(a++aFs t l (k:Int) b.1)++aHn t l (k:Int) m) 0 b.2 []
def aTv(t:den tTo)(l:dE){b:den gZ}(h:tA b.2):aLq (aO1 t l b):=by
 have key:∀(st:List bX) (k:Nat) (a:aZ),tA st->aLq a->aLq (cV (λk m a=>(a++aFs t l (k:Int) b.1)++aHn t l (k:Int) m) k st a):=by
  intro st
  induction st with
  | nil=>intro k a _ ha;exact ha
  | cons m st ih=>
   intro k a hs ha;refine ih (k+1) _ (λx hx=>hs x (cM4 _ hx)) λx hx=> ?_
   rcases cM3.1 hx with hx | hx
   .rcases cM3.1 hx with hx | hx
    .exact ha x hx
    .exact bTi t l _ _ x hx
   .exact bUw t l _ (hs m (by simp)).2 x hx
 exact key b.2 0 [] h λx hx=>(cNr hx).elim
def bDo(t:den tTo)(l:dE){b:den gZ}{m:bX}(h:m.length<=12)(k:Nat)(a:aZ):((a++aFs t l (k:Int) b.1)++aHn t l (k:Int) m).length<=a.length+78:=by
 have h1:=aWz t l (k:Int) b.1;have h2:=aXn t l (k:Int) h;rw[cNa,cNa];omega
def bF5{m:bX}(h:aJl m):∀g∈m,g.2.2.2.length<=1000000:=λg hg=>cMo (h g hg) (by decide)
def aZ4{α:Type}(l:List α):(l.map λ_=>78).sum=l.length * 78:=by
 induction l with
 | nil=>rfl
 | cons x l ih=>rw[cNb,cNy,ih,cM8,Nat.succ_mul];omega
noncomputable def aJp(t:den tTo)(l:dE)(b:den gZ):den gZ:=aI8 t b (aO1 t l b)
def cIh{t:den tTo}{l:dE}{b:den gZ}(ht:eR t)(hl:l.length<=1000000)(hb:b.2.length<=1000)(h:tA b.2):gK t l b=U ((aJp t l b).1,(aJp t l b).2,l):=by
 unfold gK aJp pj2;obtain⟨e1,e2⟩:=jG (λk (a:aZ)=>((k:Int),a,l)) ((0:Int),[],l) [] b.2 (λk m a=>(a++aFs t l (k:Int) b.1)++aHn t l (k:Int) m) cMy (λ_=>78) 100000 (λa=>(a,l)) rfl (by omega) (by rw[aZ4];simp only[cNd];omega) (step:=λ(s5:Int×q38)=>cond (D (s5.1<(b.2.length:Int))) (Option.bind (idx b.2 s5.1) λx6=>Option.bind (pV (t.1,t.2) s5.2.2 s5.1 b.1) λy7=>cond (aF 56 s5.2.1.length y7.1.length) (Option.bind (pN (t.1,t.2) y7.2 s5.1 x6) λy8=>cond (aF 56 (s5.2.1++y7.1).length y8.1.length) (U (cMn (wr (s5.1+(1:Int)),(s5.2.1++y7.1)++y8.1,y8.2))) W) W) (U (cMm (s5.2.1,s5.2.2)))) (λk m a hi hx hd hw hk hb=>by
  obtain⟨h1,h2⟩:=h m (cMw hx);have g1:=aWz t l (k:Int) b.1;have g2:=aXn t l (k:Int) h1;refine⟨?_,bDo t l h1 k a⟩;simp only[hd,zZ,hi,aA,aD,cIi ht hl,cGa ht hl (cMo h1 (by decide)) (bF5 h2),hw,aC (b:=56) (n:=a.length) (m:=(aFs t l (k:Int) b.1).length) (by decide) (by omega),aC (b:=56) (n:=(a++aFs t l (k:Int) b.1).length) (m:=(aHn t l (k:Int) m).length) (by decide) (by rw[cNa];omega)]) (λa=>by simp)
 rw[e1,aA];have e2:(aO1 t l b).length<=_:=e2;rw[aZ4]at e2;simp only[cNd]at e2;have e3:jD (t.1,t.2) (b.1,b.2) (aO1 t l b)=U (aI8 t b (aO1 t l b)):=cGv (b:=b) ht (by omega) h (by omega) (aTv t l h);show Option.bind (jD (t.1,t.2) (b.1,b.2) (aO1 t l b)) _=_;rw[e3];rfl
def cHp{t:den tTo}{l:dE}{b:den gZ}(ht:eR t)(hl:l.length<=1000000)(hb:b.2.length<=1000)(h:tA b.2):gN t l b=U ((aJp t l b).1,(aJp t l b).2,l):=by
 unfold gN aJp pj2;simp only[aD,aFo ht.sm,aA];cases c:mM t with
 | false=>
  rw[aI (r:=[]) (by cases D ((0:Int)<(b.2.length:Int))<;>rfl),aA];have e3:gX t b []=U (aI8 t b []):=bSp ht (by omega) h (by decide) λx hx=>(cNr hx).elim
  rw[e3];unfold aI8;rw[c];rfl
 | true=>
  obtain⟨e1,e2⟩:=jG (λk (a:aZ)=>((k:Int),a)) ((0:Int),[]) [] b.2 (λk m a=>(a++aFs t l (k:Int) b.1)++aHn t l (k:Int) m) cMy (λ_=>78) 100000 id rfl (by omega) (by rw[aZ4];simp only[cNd];omega) (step:=λ(s7:Int×aZ)=> @Option.bind Bool (q24⊕(aZ)) (cond (D (s7.1<(b.2.length:Int))) (U X) (U Y)) λ(s9:Bool)=>cond s9 (Option.bind (uM t l s7.1 b.1) λy10=>cond (aF 56 s7.2.length y10.length) (Option.bind (idx b.2 s7.1) λx11=>Option.bind (uN t l s7.1 x11) λy12=>cond (aF 56 (s7.2++y10).length y12.length) (U (cMn (wr (s7.1+(1:Int)),(s7.2++y10)++y12))) W) W) (U (cMm s7.2))) (λk m a hi hx hd hw hk hb=>by
   obtain⟨h1,h2⟩:=h m (cMw hx);have g1:=aWz t l (k:Int) b.1;have g2:=aXn t l (k:Int) h1;refine⟨?_,bDo t l h1 k a⟩;simp only[hd,zZ,hi,aA,aD,cGl ht hl,cI0 ht hl (cMo h1 (by decide)) (bF5 h2),hw,aC (b:=56) (n:=a.length) (m:=(aFs t l (k:Int) b.1).length) (by decide) (by omega),aC (b:=56) (n:=(a++aFs t l (k:Int) b.1).length) (m:=(aHn t l (k:Int) m).length) (by decide) (by rw[cNa];omega)]) (λa=>by simp)
  rw[e1,aA];have e2:(aO1 t l b).length<=_:=e2;rw[aZ4]at e2;simp only[cNd]at e2;have e3:gX t b (aO1 t l b)=U (aI8 t b (aO1 t l b)):=bSp (b:=b) ht (by omega) h (by omega) (aTv t l h);show Option.bind (gX t b (aO1 t l b)) _=_;rw[e3];rfl
def cC6{t:den tTo}{l:dE}{b:den gZ}(h:tA b.2):(aJp t l b).2.length=b.2.length/\tA (aJp t l b).2:=cE0 h (aTv t l h)
def cDm(t:den tTo)(b:den gZ)(l:aZ):(aI8 t b l).1=b.1:=by unfold aI8;cases mM t<;>rfl
def cE8{t:den tTo}{l:dE}(ht:eR t)(h8:t.1.length<=1000)(hl:l.length<=1000000)(ts:Int):∃st,cZ t l ts=U (ts,st,l)/\dA t l ts=U (ts,st,l)/\st.length<=8/\tA st:=by
 obtain⟨st0,e1,e2,e3,e4⟩:∃st0,sK t ts=U (ts,st0)/\sL t ts=U (ts,st0)/\st0.length<=8/\tA st0:=by
  unfold sK sL pj2;simp only[aD,aNz ht.sm,aFo ht.sm,aA];cases c:mM t with
  | false=>exact⟨[],rfl,by rw[aI (r:=(ts,[])) (by cases D ((0:Int)<(t.1.length:Int))<;>rfl)];rfl,by simp,λm hm=>(cNr hm).elim⟩
  | true=>
   have hn:t.1.length<=8:=by
    unfold mM at c;rw[cMu]at c;have :=bQ.1 c.1;omega
   refine⟨cNs t.1.length [],?_,?_,by simp;exact hn,λm hm=> ?_⟩
   .rw[show aWl 24 (t.1.length:Int) (t.1.length:Int)=X from by simp[aWl];omega];rfl
   .rw[show (aB (λ(s4:Int×q16)=> @Option.bind Bool ((Int×q16)⊕q16) (cond (D (s4.1<(t.1.length:Int))) (U X) (U Y)) λ(s6:Bool)=>cond s6 (cond (aF 24 s4.2.2.length 1) (U (cMn (wr (s4.1+(1:Int)),s4.2.1,s4.2.2++[[]]))) W) (U (cMm (s4.2.1,s4.2.2)))) ((0:Int),ts,[]))=U (ts,cNs t.1.length []) from bX3 (st:=λk=>((k:Int),ts,cNs k [])) (m:=t.1.length) (λk hk=>by
     simp only[zX (show (k:Int)<(t.1.length:Int) by omega),zZ,aA,aC (b:=24) (n:=(cNs k ([]:bX)).length) (m:=1) (by decide) (by simp;omega),aId (show k<=4611686018427387904 by omega)];rw[List.replicate_succ']) (by simp)]
    rfl
   .rw[(List.mem_replicate.1 hm).2];exact⟨by simp,λg hg=>(cNr hg).elim⟩
 have step:∀(k:Nat) (st:List bX),k<8->(st.length<=8/\tA st)->gK t l (ts,st)=U (ts,(aJp t l (ts,st)).2,l)/\gN t l (ts,st)=U (ts,(aJp t l (ts,st)).2,l)/\((aJp t l (ts,st)).2.length<=8/\tA (aJp t l (ts,st)).2):=λk st hk hI=>by
  have a:=cIh (b:=(ts,st)) ht hl (by show st.length<=1000;omega) hI.2;have b:=cHp (b:=(ts,st)) ht hl (by show st.length<=1000;omega) hI.2;have hts:(aJp t l (ts,st)).1=ts:=cDm _ _ _;rw[hts]at a b;obtain⟨c,d⟩:=cC6 (t:=t) (l:=l) (b:=(ts,st)) hI.2;exact⟨a,b,by rw[c];exact hI.1,d⟩
 unfold cZ dA pj2 pj3;simp only[aD,e1,e2,aA];obtain⟨st,g1,g2,g3⟩:=cBs 8 (λk (st:List bX)=>((k:Int),ts,st,l)) (λk (st:List bX)=>((k:Int),ts,st,l)) (λst=>(ts,st,l)) (λst=>(ts,st,l)) (λ_ st=>st.length<=8/\tA st) (fI:=λ(s4:Int×q17)=>cond (D (s4.1<(8:Int))) (Option.bind (gK t s4.2.2.2 (s4.2.1,s4.2.2.1)) λy5=>U (cMn (wr (s4.1+(1:Int)),y5.1,y5.2.1,y5.2.2))) (U (cMm (s4.2.1,s4.2.2.1,s4.2.2.2)))) (fS:=λ(s4:Int×q17)=>cond (D (s4.1<(8:Int))) (Option.bind (gN t s4.2.2.2 (s4.2.1,s4.2.2.1)) λy5=>U (cMn (wr (s4.1+(1:Int)),y5.1,y5.2.1,y5.2.2))) (U (cMm (s4.2.1,s4.2.2.1,s4.2.2.2)))) (λk st hk hI=>by
  obtain⟨a,b,c⟩:=step k st hk hI;refine⟨_,?_,?_,c⟩
  .simp only[zX (show (k:Int)<8 by omega),zZ,a,aA,aId (show k<=4611686018427387904 by omega)]
  .simp only[zX (show (k:Int)<8 by omega),zZ,b,aA,aId (show k<=4611686018427387904 by omega)]) (λst hI=>⟨rfl,rfl⟩) st0 ⟨e3,e4⟩
 exact⟨st,(congrArg (λo=>Option.bind o _) g1).trans rfl,(congrArg (λo=>Option.bind o _) g2).trans rfl,g3⟩
abbrev Db:=lSg×lSg
def aNf(t:den tTo)(k:Db)(s:den tSg):Db:=cond (qD t s.2.2==(2:Int)) (k.1++[s],k.2) (k.1,k.2++[s])
def kN(k:Db):Nat:=k.1.length+k.2.length
def bUt(t:den tTo)(k:Db)(s:den tSg):kN (aNf t k s)=kN k+1:=by
 unfold aNf kN;cases qD t s.2.2==(2:Int)<;>simp<;>omega
def KH(n:Nat)(k:Db):Prop:=(∀s∈k.1,s.2.2.length<=n)/\ ∀s∈k.2,s.2.2.length<=n
def bT7{t:den tTo}{k:Db}{s:den tSg}{n:Nat}(h:KH n k)(hs:s.2.2.length<=n):KH n (aNf t k s):=by
 unfold aNf;cases qD t s.2.2==(2:Int)
 .refine⟨h.1,λx hx=> ?_⟩;rcases cM3.1 hx with hx | hx
  .exact h.2 x hx
  .rw[cM2.1 hx];exact hs
 .refine⟨λx hx=> ?_,h.2⟩;rcases cM3.1 hx with hx | hx
  .exact h.1 x hx
  .rw[cM2.1 hx];exact hs
def bZv{t:den tTo}{k:Db}{s:den tSg}(ht:eR t)(hk:kN k<=1000000)(hs:s.2.2.length<=1000000):dO k t s=U (aNf t k s):=by
 unfold kN at hk;unfold dO aNf pj2 pj3;simp only[aD,bBl ht hs,aA,aC (b:=40) (n:=k.1.length) (m:=1) (by decide) (by omega),aC (b:=40) (n:=k.2.length) (m:=1) (by decide) (by omega),zZ];cases qD t s.2.2==(2:Int)<;>rfl
def aIm(t:den tTo)(l:dE)(r:Int)(k:Db)(g:den fM):Db:=
 cond (aIk t (cE l r) g.2 r g.1).2.2.1 (aNf t k ((aIk t (cE l r) g.2 r g.1).1,(aIk t (cE l r) g.2 r g.1).2.1,(aIk t (cE l r) g.2 r g.1).2.2.2)) k
def aX0{t:den tTo}{p:den cJ}{s:den tSg}(h:s.2.2.length<=9)(r inn:Int):(aIk t p s r inn).2.2.2.length<=10:=by
 unfold aIk;cases aDe t s r inn&&vC p s.2.2 0
 .exact cMo h (by decide)
 .show (s.2.2++[_]).length<=10;rw[cNa,cOd];omega
def bGf(t:den tTo)(l:dE)(r:Int)(k:Db)(g:den fM):kN (aIm t l r k g)<=kN k+1:=by
 unfold aIm;cases (aIk t (cE l r) g.2 r g.1).2.2.1
 .exact cN1 _
 .exact Nat.le_of_eq (bUt t k _)
def bGq{t:den tTo}{l:dE}{r:Int}{k:Db}{g:den fM}(h:KH 10 k)(hg:g.2.2.2.length<=9):KH 10 (aIm t l r k g):=by
 unfold aIm;cases (aIk t (cE l r) g.2 r g.1).2.2.1
 .exact h
 .exact bT7 h (aX0 hg r g.1)
def bS4{t:den tTo}{l:dE}{b:den gZ}(ht:eR t)(hl:l.length<=1000000)(hb:b.2.length<=8)(h:tA b.2):∃k:Db,cM t l b=U (k.1,k.2,l)/\dL t l b=U (k.1,k.2)/\kN k<=96/\KH 10 k:=by
 have inner:∀(r:Int) (m:bX),m.length<=12->aJl m-> ∀k:Db,kN k<=100000->KH 10 k->kN (m.foldl (aIm t l r) k)<=kN k+12/\KH 10 (m.foldl (aIm t l r) k):=by
  intro r m hm hN k hk hh;have key:∀(m:bX) (k:Db),aJl m->KH 10 k->kN (m.foldl (aIm t l r) k)<=kN k+m.length/\KH 10 (m.foldl (aIm t l r) k):=by
   intro m
   induction m with
   | nil=>intro k _ hk;exact⟨cM5 _,hk⟩
   | cons g m ih=>
    intro k hm hk;obtain⟨a,c⟩:=ih (aIm t l r k g) (λx hx=>hm x (cM4 _ hx)) (bGq hk (hm g (by simp)));have :=bGf t l r k g;rw[cM8];exact⟨by rw[cOf];omega,c⟩
  obtain⟨a,c⟩:=key m k hN hh;exact⟨by omega,c⟩
 obtain⟨k,e1,e2,e3⟩:=cBs b.2.length (λn (k:Db)=>((n:Int),k.1,k.2)) (λn (k:Db)=>((n:Int),k.1,k.2)) (λk=>(k.1,k.2)) (λk=>(k.1,k.2)) (λn k=>kN k<=12 * n/\KH 10 k)
  (fI:=λ(s24:Int×q26)=>cond (D (s24.1<(b.2.length:Int))) (@Option.bind q26 ((Int×q26)⊕q26) (Option.bind (idx b.2 s24.1) λx25=> @aB (Int×q26) q26 (λ(s36:Int×q26)=>cond (D (s36.1<(x25.length:Int))) (@Option.bind q26 ((Int×q26)⊕q26) (Option.bind (idx x25 s36.1) λx37=> @Option.bind (Bool×q40) q26 (Option.bind (kU l s24.1) λy41=>Option.bind (rA (t.1,t.2) (y41.1,y41.2.1,y41.2.2.1,y41.2.2.2) (x37.2.1,x37.2.2.1,x37.2.2.2) s24.1 x37.1) λy42=>U (y42.2.2.1,y42.1,y42.2.1,y42.2.2.2)) λ(s43:Bool×q40)=>cond s43.1 (Option.bind (dO (s36.2.1,s36.2.2) (t.1,t.2) (s43.2.1,s43.2.2.1,s43.2.2.2)) λy44=>U (y44.1,y44.2)) (U (s36.2.1,s36.2.2))) λ(s45:lSg×lSg)=>U (cMn (wr (s36.1+(1:Int)),s45.1,s45.2))) (U (cMm (s36.2.1,s36.2.2)))) ((0:Int),s24.2.1,s24.2.2)) λ(s46:lSg×lSg)=>U (cMn (wr (s24.1+(1:Int)),s46.1,s46.2))) (U (cMm (s24.2.1,s24.2.2))))
  (fS:=λ(s27:Int×q26)=>cond (D (s27.1<(b.2.length:Int))) (@Option.bind q26 ((Int×q26)⊕q26) (@aB (Int×q26) q26 (λ(s40:Int×q26)=>Option.bind (idx b.2 s27.1) λx41=>cond (D (s40.1<(x41.length:Int))) (@Option.bind q26 ((Int×q26)⊕q26) (Option.bind (idx b.2 s27.1) λx42=>Option.bind (idx x42 s40.1) λx43=> @Option.bind (Bool×q40) q26 (Option.bind (kX l s27.1) λy47=>Option.bind (rV (t.1,t.2) (y47.1,y47.2.1,y47.2.2.1,y47.2.2.2) (x43.2.1,x43.2.2.1,x43.2.2.2) s27.1 x43.1) λy48=>U (y48.2.2.1,y48.1,y48.2.1,y48.2.2.2)) λ(s49:Bool×q40)=>cond (!s49.1) (U (s40.2.1,s40.2.2)) (Option.bind (fN (t.1,t.2) (s49.2.1,s49.2.2.1,s49.2.2.2)) λy50=>cond (y50==(2:Int)) (cond (aF 40 s40.2.1.length 1) (U (s40.2.1++[(s49.2.1,s49.2.2.1,s49.2.2.2)],s40.2.2)) W) (cond (aF 40 s40.2.2.length 1) (U (s40.2.1,s40.2.2++[(s49.2.1,s49.2.2.1,s49.2.2.2)])) W))) λ(s51:lSg×lSg)=>U (cMn (wr (s40.1+(1:Int)),s51.1,s51.2))) (U (cMm (s40.2.1,s40.2.2)))) ((0:Int),s27.2.1,s27.2.2)) λ(s52:lSg×lSg)=>U (cMn (wr (s27.1+(1:Int)),s52.1,s52.2))) (U (cMm (s27.2.1,s27.2.2))))
  (λn k hn hI=>by
   have hx:b.2[n]? =U b.2[n]:=cMz hn;obtain⟨h1,h2⟩:=h _ (cMw hx);generalize b.2[n]=m at *;obtain⟨q1,q2⟩:=inner (n:Int) m h1 h2 k (by have :=hI.1;omega) hI.2;have hd:D ((n:Int)<(b.2.length:Int))=X:=zX (by omega);have hw:wr ((n:Int)+1)=((n+1:Nat):Int):=aId (by omega);have hk:=hI.1;refine⟨m.foldl (aIm t l (n:Int)) k,?_,?_,by omega,q2⟩
   .simp only[hd,zZ,aR,hx,aA,aD,hw];rw[(aDy (l:=m) (aIm t l (n:Int)) (λj (a:Db)=>kN a<=12 * n+j/\KH 10 a) (a0:=k) (out:=λa=>(a.1,a.2)) (by omega) ⟨by omega,hI.2⟩ (λj g (a:Db) hi hd' hw' hm hj hJ=>by
     have hg:=h2 g hm;refine⟨?_,by have :=bGf t l (n:Int) a g;omega,bGq hJ.2 hg⟩;have hs:=aX0 (t:=t) (p:=cE l (n:Int)) (s:=g.2) hg (n:Int) g.1;have et:rA t (cE l (n:Int)) g.2 (n:Int) g.1=U _:=cIb ht (by omega) (n:Int) g.1;unfold aIm;simp only[hd',zZ,hi,aA,aD,bCb hl,et,hw'];generalize aIk t (cE l (n:Int)) g.2 (n:Int) g.1=x at *;have ep:dO a t (x.1,x.2.1,x.2.2.2)=U (aNf t a (x.1,x.2.1,x.2.2.2)):=bZv ht (by omega) (by show x.2.2.2.length<=_;omega);cases x.2.2.1 with
     | false=>rfl
     | true=>simp only[zZ,ep,aA]) (λa=>by simp)).1]
    rfl
   .simp only[hd,zZ,aR,hx,aA,aD,hw];rw[(aDy (l:=m) (aIm t l (n:Int)) (λj (a:Db)=>kN a<=12 * n+j/\KH 10 a) (a0:=k) (out:=λa=>(a.1,a.2)) (by omega) ⟨by omega,hI.2⟩ (λj g (a:Db) hi hd' hw' hm hj hJ=>by
     have hg:=h2 g hm;refine⟨?_,by have :=bGf t l (n:Int) a g;omega,bGq hJ.2 hg⟩;have hs:=aX0 (t:=t) (p:=cE l (n:Int)) (s:=g.2) hg (n:Int) g.1;have et:rV t (cE l (n:Int)) g.2 (n:Int) g.1=U _:=cIv ht (by omega) (n:Int) g.1;have ha:=hJ.1;unfold kN at ha;unfold aIm;simp only[hd',zZ,hi,aA,aD,bA7 hl,et,hw'];generalize aIk t (cE l (n:Int)) g.2 (n:Int) g.1=x at *;have ek:fN t (x.1,x.2.1,x.2.2.2)=U (qD t x.2.2.2):=aUk ht (by show x.2.2.2.length<=_;omega);cases x.2.2.1 with
     | false=>rfl
     | true=>
      simp only[cMp,zY,zZ,ek,aA,aC (b:=40) (n:=a.1.length) (m:=1) (by decide) (by omega),aC (b:=40) (n:=a.2.length) (m:=1) (by decide) (by omega)];unfold aNf;cases qD t x.2.2.2==(2:Int)<;>rfl) (λa=>by simp)).1]
    rfl) (λk hI=>by simp) ([],[]) ⟨by decide,λs hs=>(cNr hs).elim,λs hs=>(cNr hs).elim⟩
 refine⟨k,?_,?_,by have :=e3.1;omega,e3.2⟩
 .unfold cM pj2 pj3 pj4;simp only[bB,cB,bL,bJ,bO];exact (congrArg (λo=>Option.bind o _) e1).trans rfl
 .unfold dL pj2 pj3 pj4;simp only[bB,cB,bL,bJ,bO];exact (congrArg (λo=>Option.bind o _) e2).trans rfl
noncomputable def aRz(k:Db)(s:den tSg):Bool:=(k.1.any λx=>nS x s)||k.2.any λx=>nS x s
def bKa{l:lSg}{s:den tSg}(hl:l.length<=1000000)(h:∀x∈l,x.2.2.length<=10)(hs:s.2.2.length<=10):uE l s=U (l.any λx=>nS x s):=by
 unfold uE pj3;rw[aM (l:=l) (λ_ (x:den tSg)=>if nS x s then U X else W) (by omega) (λk x hi hd hw hm hk=>by
  simp only[hd,hi,hw,zZ,aA,aD,bK3 (aR9 (cMo (h x hm) (by decide))) (aR9 (cMo hs (by decide)))];cases nS x s<;>rfl) (by simp),aHm (λx:den tSg=>nS x s)]
 cases l.any λx=>nS x s<;>rfl
def bK8{l:lSg}{s:den tSg}(hl:l.length<=1000000)(h:∀x∈l,x.2.2.length<=10)(hs:s.2.2.length<=10):aEe l s=U (l.any λx=>nS x s):=by
 unfold aEe pj3;rw[aM (l:=l) (λ_ (x:den tSg)=>if nS x s then U X else W) (by omega) (λk x hi hd hw hm hk=>by
  simp only[hd,hi,hw,zZ,aA,aD,bLp (aR9 (cMo (h x hm) (by decide))) (aR9 (cMo hs (by decide)))];cases nS x s<;>rfl) (by simp),aHm (λx:den tSg=>nS x s)]
 cases l.any λx=>nS x s<;>rfl
noncomputable def aM6(t:den tTo)(k:Db)(s:den tSg):Db:=cond (yE t s&&(aIy s.2.2&& !aRz k s)) (aNf t k s) k
def aGl{l:lSg}(hl:l.length<=1000000)(h:∀x∈l,x.2.2.length<=10):SmB 549755813888 (.sl tSg) l:=⟨by omega,λx hx=>aR9 (cMo (h x hx) (by decide))⟩
def cI8{t:den tTo}{k:Db}{s:den tSg}(ht:eR t)(hk:kN k<=100000)(hh:KH 10 k)(hs:s.2.2.length<=10):uL t k s=U (aM6 t k s):=by
 have hk':=hk;unfold kN at hk';have e1:=aHu (aGl (l:=k.1) (by omega) hh.1);have e2:=aHu (aGl (l:=k.2) (by omega) hh.2);have e3:wT k s=U (aRz k s):=by
  unfold wT aRz pj3;simp only[aD,bKa (l:=k.1) (by omega) hh.1 hs,bKa (l:=k.2) (by omega) hh.2 hs,aA];cases k.1.any λx=>nS x s<;>rfl
 unfold uL aM6 pj2 pj3;simp only[bB,cB,bL,bJ,bO,e1,e2,e3,aA,aD,bGz ht (show s.2.2.length<=1000000 by omega),bK6 (show s.2.2.length<=1000000 by omega),aH1 (show s.2.2.length<=549755813888 by omega),bZv ht (cMo hk (by decide)) (show s.2.2.length<=1000000 by omega)];cases yE t s<;>cases aIy s.2.2<;>cases aRz k s<;>rfl
def bUc{t:den tTo}{k:Db}{s:den tSg}(ht:eR t)(hk:kN k<=100000)(hh:KH 10 k)(hs:s.2.2.length<=10):oH t k s=U (aM6 t k s):=by
 have hk':=hk;unfold kN at hk';have e1:=aJx (aGl (l:=k.1) (by omega) hh.1);have e2:=aJx (aGl (l:=k.2) (by omega) hh.2);have e3:xC k s=U (aRz k s):=by
  unfold xC aRz pj3;simp only[aD,bK8 (l:=k.1) (by omega) hh.1 hs,bK8 (l:=k.2) (by omega) hh.2 hs,aA];cases k.1.any λx=>nS x s<;>rfl
 unfold oH aM6 aNf pj2 pj3;simp only[bB,cB,bL,bJ,bO,e1,e2,e3,aA,aD,bI0 ht (show s.2.2.length<=1000000 by omega),bAx (show s.2.2.length<=1000000 by omega),aGs (show s.2.2.length<=549755813888 by omega),aUk ht (show s.2.2.length<=1000000 by omega),aC (b:=40) (n:=k.1.length) (m:=1) (by decide) (by omega),aC (b:=40) (n:=k.2.length) (m:=1) (by decide) (by omega),zZ];cases yE t s<;>cases aIy s.2.2<;>cases aRz k s<;>first | rfl | (cases qD t s.2.2==(2:Int)<;>rfl)
def aZl(t:den tTo)(k:Db)(s:den tSg):kN (aM6 t k s)<=kN k+1:=by
 unfold aM6;cases yE t s&&(aIy s.2.2&& !aRz k s)
 .exact cN1 _
 .exact Nat.le_of_eq (bUt t k s)
def cIq{t:den tTo}{k:Db}{s:den tSg}(h:KH 8 k):KH 8 (aM6 t k s):=by
 unfold aM6;cases c:yE t s&&(aIy s.2.2&& !aRz k s)
 .exact h
 .rw[cMu]at c;exact bT7 h (aMc c.1).2
def KH.mono{n m:Nat}{k:Db}(h:KH n k)(hm:n<=m):KH m k:=⟨λs hs=>cMo (h.1 s hs) hm,λs hs=>cMo (h.2 s hs) hm⟩
def aKa(n:Int):Int:=IntKind.wrap .u8 (wr ((48:Int)+cond (D (cNi n 10<(0:Int))) (wr (0 - cNi n 10)) (cNi n 10)))
def sA:Nat->Int->List Int->List Int
 | 0,_,a=>a
 | k+1,n,a=>cond (wr (cNj n 10)==(0:Int)) ([aKa n]++a) (sA k (wr (cNj n 10)) ([aKa n]++a))
def bUx(n:Int): -9223372036854775808<=wr n/\wr n<=9223372036854775807:=by
 show -9223372036854775808<=IntKind.i64.wrap n/\IntKind.i64.wrap n<=9223372036854775807;simp only[IntKind.wrap,IntKind.signed,IntKind.bits];simp;omega
def cGr(n:Int):(wr n).natAbs<=n.natAbs:=by
 by_cases h: -9223372036854775808<=n/\n<=9223372036854775807
 .rw[show wr n=n from wri h.1 h.2];exact cM5 _
 .have :=bUx n;omega
def aQo{n:Int}{k:Nat}(h:n.natAbs<10 ^ (k+1)):(wr (cNj n 10)).natAbs<10 ^ k:=by
 have h1:=cGr (cNj n 10);have h2:(cNj n 10).natAbs=n.natAbs / 10:=Int.natAbs_tdiv n 10;rw[Nat.pow_succ]at h;omega
def aSs:∀(k:Nat) (n:Int) (a:List Int),(sA k n a).length<=a.length+k
 | 0,_,_=>cM5 _
 | k+1,n,a=>by
  unfold sA;cases wr (cNj n 10)==(0:Int) with
  | true=>simp
  | false=>
   have :=aSs k (wr (cNj n 10)) ([aKa n]++a);rw[cNa,cOd]at this;show (sA k _ _).length<=_;omega
def bQ7(a b:List Int):eV a++eV b=eV (a++b):=by
 unfold eV aSk;rw[cO2];apply ByteArray.ext;simp
def aIu(a:List Int):(eV a).size=a.length:=by
 unfold eV aSk;simp[ByteArray.size]
def bAn{n:Nat}(h:n<=4000000000000):D (n<=maxLen)=X:=zX (by simp only[maxLen];omega)
def bSs{step:Int×List Int->Option ((Int×List Int)⊕List Int)}(h:∀(n:Int) (a:List Int),a.length<=1000->step (n,a)=U (cond (wr (cNj n 10)==(0:Int)) (.inr ([aKa n]++a)) (.inl (wr (cNj n 10),[aKa n]++a)))):∀(k:Nat) (n:Int) (a:List Int),n.natAbs<10 ^ (k+1)->a.length+k<=1000->aB step (n,a)=U (sA (k+1) n a)
 | 0,n,a,hn,ha=>by
  have hq:wr (cNj n 10)=0:=by
   have :=aQo (k:=0) hn;omega
  have hs:=h n a (by omega);unfold sA;rw[hq]at hs ⊢;exact aI hs
 | k+1,n,a,hn,ha=>by
  have hs:=h n a (by omega);unfold sA;cases c:wr (cNj n 10)==(0:Int) with
  | true=>rw[c]at hs;exact aI hs
  | false=>
   rw[c]at hs;rw[aP hs];exact bSs h k _ _ (aQo hn) (by simp;omega)
def bSg{step:ByteArray×Int->Option (q36⊕ByteArray)}(h0:∀s,step (s,0)=U (.inr s))(h:∀(n:Int) (a:List Int),a.length<=1000->(n==(0:Int))=Y->step (eV a,n)=U (.inl (eV ([aKa n]++a),wr (cNj n 10)))):∀(k:Nat) (n:Int) (a:List Int),n.natAbs<10 ^ (k+1)->a.length+k<=1000->(n==(0:Int))=Y->aB step (eV a,n)=U (eV (sA (k+1) n a))
 | 0,n,a,hn,ha,hz=>by
  have hq:wr (cNj n 10)=0:=by
   have :=aQo (k:=0) hn;omega
  have hs:=h n a (by omega) hz;unfold sA;rw[hq]at hs ⊢;rw[aP hs];exact aI (h0 _)
 | k+1,n,a,hn,ha,hz=>by
  have hs:=h n a (by omega) hz;unfold sA;rw[aP hs];cases c:wr (cNj n 10)==(0:Int) with
  | true=>rw[eq_of_beq c];exact aI (h0 _)
  | false=>exact bSg h0 h k _ _ (aQo hn) (by simp;omega) c
def eQ(n:Int):ByteArray:=cond (D (n<(0:Int))) (Ac++eV (sA 22 n [])) (eV (sA 22 n []))
def cCm(n:Int):(wr (cNj n 10)).natAbs<10 ^ (20+1):=by
 have :=bUx (cNj n 10);have :(wr (cNj n 10)).natAbs<=9223372036854775808:=by omega
 exact Nat.lt_of_le_of_lt this (by decide)
def cHs{step:Int×List Int->Option ((Int×List Int)⊕List Int)}(h:∀(n:Int) (a:List Int),a.length<=1000->step (n,a)=U (cond (wr (cNj n 10)==(0:Int)) (.inr ([aKa n]++a)) (.inl (wr (cNj n 10),[aKa n]++a))))(n:Int):aB step (n,[])=U (sA 22 n []):=by
 have hs:=h n [] (by simp);unfold sA;cases c:wr (cNj n 10)==(0:Int) with
 | true=>rw[c]at hs;exact aI hs
 | false=>
  rw[c]at hs;rw[aP hs];exact bSs h 20 _ _ (cCm n) (by simp)
def cGh{step:ByteArray×Int->Option (q36⊕ByteArray)}(h0:∀s,step (s,0)=U (.inr s))(h:∀(n:Int) (a:List Int),a.length<=1000->(n==(0:Int))=Y->step (eV a,n)=U (.inl (eV ([aKa n]++a),wr (cNj n 10)))){n:Int}(hz:(n==(0:Int))=Y):aB step (Aa,n)=U (eV (sA 22 n [])):=by
 have hs:step (Aa,n)=_:=h n [] (by simp) hz;unfold sA;rw[aP hs];cases c:wr (cNj n 10)==(0:Int) with
 | true=>rw[eq_of_beq c];exact aI (h0 _)
 | false=>exact bSg h0 h 20 _ _ (cCm n) (by simp) c
def bMe(n:Int):D (Ac.size+(eV (sA 22 n [])).size<=maxLen)=X:=by
 have hl:=aSs 22 n [];have hsz:=aIu (sA 22 n []);simp only[cNd]at hl;exact bAn (by rw[hsz];show 1+_<=_;omega)
def aOk(n:Int):dT n=U (eQ n):=by
 unfold dT eQ;rw[cHs (λn a ha=>by
  unfold aKa;cases D (cNi n 10<(0:Int))<;>simp only[zZ,zY,aA]<;>rw[aC (b:=1) (m:=a.length) (by decide) (by simp;omega)]<;>cases wr (cNj n 10)==(0:Int)<;>rfl) n,aA,bMe]
 cases D (n<(0:Int))<;>rfl
def aRa(n:Int):dW n=U (eQ n):=by
 unfold dW;cases hz:n==(0:Int) with
 | true=>rw[eq_of_beq hz];rfl
 | false=>
  unfold eQ;rw[cGh (λs=>rfl) (λn a ha hz=>by
   have hne:(n != (0:Int))=X:=by rw[kJ,hz];rfl
   unfold aKa;simp only[hne,zZ];cases D (cNi n 10<(0:Int))<;>simp only[zZ,zY,aA,bQ7,aIu]<;>rw[bAn (by simp;omega)]<;>rfl) hz,zY,aA,bMe]
  cases D (n<(0:Int))<;>rfl
def iO(n:Int):(eQ n).size<=30:=by
 have hl:=aSs 22 n [];have hsz:=aIu (sA 22 n []);simp at hl;unfold eQ;cases D (n<(0:Int)) with
 | false=>show (eV _).size<=30;omega
 | true=>
  show (Ac++eV _).size<=30;rw[ByteArray.size_append];show 1+_<=30;omega
def cJ9(bs:ByteArray):∀(n i:Nat) (r:List UInt8),n+i=bs.size->ByteArray.toList.loop bs i r=r.reverse++bs.data.toList.drop i:=by
 intro n
 induction n with
 | zero=>
  intro i r h;unfold ByteArray.toList.loop;rw[zS (by omega),List.drop_of_length_le (by rw[cPj];show bs.size<=i;omega),cNn]
 | succ n ih=>
  intro i r h;unfold ByteArray.toList.loop;rw[zT (by omega),ih (i+1) _ (by omega)];have hi:i<bs.data.toList.length:=by rw[cPj];show i<bs.size;omega
  rw[List.drop_eq_getElem_cons hi,List.reverse_cons,cNp];congr 2;simp[ByteArray.get!];rw[getElem!_pos bs.data i (by rw[<- cPj];exact hi)]
def bl(bs:ByteArray):bs.toList=bs.data.toList:=by
 unfold ByteArray.toList;rw[cJ9 bs bs.size 0 [] (by omega)];simp
def oR(s:ByteArray):s.data.toList.length=s.size:=by simp
def bO6(s:ByteArray):(s.toList==Aa.toList)=D (s.size=0):=by
 rw[bl,bl,cNe,beq_iff_eq,zR,<- oR];exact List.length_eq_zero_iff.symm
def aRe(x:UInt8)(a:Int):Int⊕(Int⊕q23):=cond (inR (x.toNat:Int) 48 57) (.inl (wr (wr ((10:Int) * a)+wr (IntKind.wrap .u8 ((x.toNat:Int) - (48:Int)))))) (.inr (.inr (0,Y)))
def aT7(s:ByteArray):Int⊕q23:=aFa (λ_ x a=>aRe x a) cMn 0 s.data.toList 0
def aW6(s:ByteArray)(n:Int):q23:=cond (D (n>(1000000000000:Int))|| !((eQ n).toList==s.toList)) (0,Y) (n,X)
def aK9(s:ByteArray):q23:=cond (inR (s.size:Int) 1 13) ((aT7 s).elim (aW6 s) id) (0,Y)
def bRt(s:ByteArray):wJ s=U (aK9 s):=by
 unfold wJ aK9;have e0: @Option.bind Bool Bool (cond (s.toList==Aa.toList) (U X) (U (D ((s.size:Int)>(13:Int))))) U=U (!inR (s.size:Int) 1 13):=by
  rw[bO6];unfold inR
  by_cases h:s.size=0
  .rw[zX h,h];rfl
  .rw[zW h,zX (show (1:Int)<=(s.size:Int) by omega)]
   by_cases h2:(s.size:Int)>13
   .rw[zX h2,zW (show ¬ (s.size:Int)<=13 by omega)];rfl
   .rw[zW h2,zX (show (s.size:Int)<=13 by omega)];rfl
 have e0:cond (s.toList==Aa.toList) (U X) (U (D ((s.size:Int)>(13:Int))))=U (!inR (s.size:Int) 1 13):=by
  rw[<- e0];cases s.toList==Aa.toList<;>rfl
 rw[e0,aA];cases c:inR (s.size:Int) 1 13 with
 | false=>rfl
 | true=>
  have hs:=bQ.1 c;rw[aI6 (λk (a:Int)=>(a,(k:Int))) ((0:Int),(0:Int)) 0 s.data.toList (λ_ x a=>aRe x a) (λ_ _=>True) cMn rfl (by rw[oR];omega) trivial (λk x a hi hx hd hw hk _=>by
   refine⟨?_,λ_ _=>trivial⟩;rw[oR]at hd;simp only[hd,zZ,hi,aA,hw];unfold aRe inR
   by_cases c1:(x.toNat:Int)<48
   .rw[zX c1,zW (show ¬ (48:Int)<=(x.toNat:Int) by omega)];rfl
   .rw[zW c1,zX (show (48:Int)<=(x.toNat:Int) by omega)]
    by_cases c2:(x.toNat:Int)>57
    .rw[zX c2,zW (show ¬ (x.toNat:Int)<=57 by omega)];rfl
    .rw[zW c2,zX (show (x.toNat:Int)<=57 by omega)];rfl) (λa _=>by rw[oR];simp)]
  show Option.bind (U (aT7 s)) _=U (cMq (aW6 s) id (aT7 s));cases aT7 s with
  | inr r=>rfl
  | inl n=>
   simp only[aA,cN4,aOk];unfold aW6;cases D (n>(1000000000000:Int))<;>cases (eQ n).toList==s.toList<;>rfl
def bRh(s:ByteArray):wC s=U (aK9 s):=by
 unfold wC aK9;rw[fB,aA];cases c:inR (s.size:Int) 1 13 with
 | false=>rfl
 | true=>
  have hs:=bQ.1 c;rw[aI6 (λk (a:Int)=>(a,(k:Int))) ((0:Int),(0:Int)) 0 s.data.toList (λ_ x a=>aRe x a) (λ_ _=>True) cMn rfl (by rw[oR];omega) trivial (λk x a hi hx hd hw hk _=>by
   refine⟨?_,λ_ _=>trivial⟩;rw[oR]at hd;have hx':=x.toNat_lt;rw[hd];simp only[zZ,hi,aA,hw,fB,show wr (x.toNat:Int)=(x.toNat:Int) from wri (by omega) (by omega)];unfold aRe;cases inR (x.toNat:Int) 48 57<;>rfl) (λa _=>by rw[oR];simp)]
  show Option.bind (U (aT7 s)) _=U (cMq (aW6 s) id (aT7 s));cases aT7 s with
  | inr r=>rfl
  | inl n=>
   simp only[aA,cN4,aRa];unfold aW6;cases D (n>(1000000000000:Int))<;>cases (eQ n).toList==s.toList<;>rfl
def bGn:∀(l:List UInt8) (k j:Nat) (a n:Int),0<=a->a<10 ^ j->j+l.length<=13->aFa (λ_ x a=>aRe x a) cMn k l a=(cMn n:Int⊕q23)->0<=n
 | [],_,_,a,n,h0,_,_,h=>by injection h with h;omega
 | x::l,k,j,a,n,h0,h1,hl,h=>by
  unfold aFa at h;simp only[aRe]at h;rw[cM8]at hl;cases c:inR (x.toNat:Int) 48 57 with
  | false=>rw[c]at h;cases h
  | true=>
   rw[c]at h;obtain⟨g0,g1⟩:=bQ.1 c;have hj:(10:Int) ^ j<=10 ^ 13:=by
    have :=Nat.pow_le_pow_right (show 0<10 by decide) (show j<=13 by omega)
    exact_mod_cast this
   have hj:(10:Int) ^ j<=10000000000000:=hj;have e1:wr ((10:Int) * a)=10 * a:=wri (by omega) (by omega);have e2:IntKind.wrap .u8 ((x.toNat:Int) - 48)=(x.toNat:Int) - 48:=by
    simp only[IntKind.wrap,IntKind.signed,IntKind.bits];simp;omega
   have e3:wr ((x.toNat:Int) - 48)=(x.toNat:Int) - 48:=wri (by omega) (by omega);have e4:wr (10 * a+((x.toNat:Int) - 48))=10 * a+((x.toNat:Int) - 48):=wri (by omega) (by omega);rw[e1,e2,e3,e4]at h;refine bGn l (k+1) (j+1) _ n (by omega) ?_ (by omega) h;rw[Int.pow_succ];omega
def bXc{s:ByteArray}{n:Int}(h:aK9 s=(n,X)):0<=n/\n<=1000000000000:=by
 unfold aK9 at h;cases c:inR (s.size:Int) 1 13 with
 | false=>rw[c]at h;cases h
 | true=>
  rw[c]at h;have hs:=bQ.1 c;cases c2:aT7 s with
  | inr r=>
   exfalso;rw[c2]at h;have h:r=(n,X):=h;have key:∀(l:List UInt8) (k:Nat) (a:Int),aFa (λ_ x a=>aRe x a) cMn k l a=(cMm r:Int⊕q23)->r=(0,Y):=by
    intro l
    induction l with
    | nil=>intro k a h;cases h
    | cons x l ih=>
     intro k a h;unfold aFa at h;simp only[aRe]at h;cases c:inR (x.toNat:Int) 48 57 with
     | false=>rw[c]at h;injection h with h;exact h.symm
     | true=>rw[c]at h;exact ih _ _ h
   have :=key _ _ _ c2;rw[this]at h;injection h with _ h;cases h
  | inl m=>
   rw[c2]at h;have h:aW6 s m=(n,X):=h;have h0:=bGn s.data.toList 0 0 0 m (by decide) (by decide) (by rw[oR];omega) c2;unfold aW6 at h;cases c3:D (m>(1000000000000:Int)) with
   | true=>rw[c3]at h;cases h
   | false=>
    rw[c3]at h;have hm:=of_decide_eq_false c3;cases c4:(eQ m).toList==s.toList with
    | false=>rw[c4]at h;cases h
    | true=>
     rw[c4]at h;injection h with h _;omega
def aEp(b:Int):List UInt8->List UInt8->List (List UInt8)
 | cur,[]=>[cur]
 | cur,x::xs=>cond ((x.toNat:Int)==b) (cur::aEp b [] xs) (aEp b (cur++[x]) xs)
def mkS(l:List UInt8):ByteArray:=⟨l.toArray⟩
def bYn(l:List UInt8):(mkS l).size=l.length:=by simp[mkS,ByteArray.size]
def bWl(l:List UInt8):(mkS l).data.toList=l:=by simp[mkS]
def mL(s:ByteArray)(b:Int):List ByteArray:=(aEp b [] s.data.toList).map mkS
def bCc(b:Int):∀(l cur:List UInt8),0<(aEp b cur l).length
 | [],_=>by simp[aEp]
 | x::l,cur=>by
  unfold aEp;cases (x.toNat:Int)==b with
  | true=>simp
  | false=>exact bCc b l (cur++[x])
def aR6(b:Int):∀(l cur:List UInt8),((aEp b cur l).map λx=>x.length+1).sum=cur.length+l.length+1
 | [],cur=>by simp[aEp]
 | x::l,cur=>by
  unfold aEp;cases (x.toNat:Int)==b with
  | true=>
   have :=aR6 b l [];simp only[zZ,cNb,cNy,cM8,cNd]at this ⊢;omega
  | false=>
   have :=aR6 b l (cur++[x]);simp only[zY,cNa,cM8,cNd]at this ⊢;omega
def bBn(b:Int):∀(l cur:List UInt8),(∀x∈cur,((x.toNat:Int)==b)=Y)-> ∀p∈aEp b cur l,∀x∈p,((x.toNat:Int)==b)=Y
 | [],cur,h,p,hp=>by
  have :p=cur:=by simpa [aEp] using hp
  rw[this];exact h
 | x::l,cur,h,p,hp=>by
  unfold aEp at hp;cases c:(x.toNat:Int)==b with
  | true=>
   rw[c]at hp;rcases List.mem_cons.1 hp with rfl | hp
   .exact h
   .exact bBn b l [] (λy hy=>(cNr hy).elim) p hp
  | false=>
   rw[c]at hp;refine bBn b l (cur++[x]) (λy hy=> ?_) p hp;rcases cM3.1 hy with hy | hy
   .exact h y hy
   .rw[cM2.1 hy];exact c
def aYe:∀(l:List (List UInt8)),l.length<=(l.map λx=>x.length+1).sum
 | []=>cM5 _
 | x::l=>by
  have :=aYe l;simp only[cNb,cNy,cM8];omega
def aNb(s:ByteArray)(b:Int):0<(mL s b).length/\(mL s b).length<=s.size+1:=by
 unfold mL;rw[cNg];refine⟨bCc b _ _,?_⟩;have h1:=aR6 b s.data.toList [];have h2:=aYe (aEp b [] s.data.toList);rw[oR]at h1;simp only[cNd]at h1;omega
def aIe{s x:ByteArray}{b:Int}(h:x∈mL s b):x.size<=s.size:=by
 obtain⟨p,hp,rfl⟩:=cMs.1 h;rw[bYn];have h1:=aR6 b s.data.toList [];have h2:=aU7 (f:=λx:List UInt8=>x.length+1) hp;rw[oR]at h1;simp only[cNd]at h1;omega
def aZo{s:ByteArray}{d c r:List UInt8}(h:s.data.toList=d++c++r):s.extract d.length (d.length+c.length)=mkS c:=by
 apply ByteArray.ext;apply Array.ext';rw[ByteArray.data_extract,Array.toList_extract,h];simp[mkS]
def bW9{s:ByteArray}{b:Int}{step:Int×Int×List ByteArray->Option ((Int×Int×List ByteArray)⊕List ByteArray)}(h1:∀(f i:Nat) (out:List ByteArray),i<s.size->f<=i->out.length<=i->step ((f:Int),(i:Int),out)=Option.bind s.data.toList[i]? λx=>U (.inl (cond ((x.toNat:Int)==b) (((i+1:Nat):Int),((i+1:Nat):Int),out++[s.extract f i]) ((f:Int),((i+1:Nat):Int),out))))
  (h2:∀(f:Nat) (out:List ByteArray),f<=s.size->out.length<=s.size->step ((f:Int),(s.size:Int),out)=U (.inl (((s.size+1:Nat):Int),((s.size+1:Nat):Int),out++[s.extract f s.size])))
  (h3:∀(f:Int) (out:List ByteArray),step (f,((s.size+1:Nat):Int),out)=U (.inr out)):aB step ((0:Int),(0:Int),[])=U (mL s b):=by
 have key:∀(rest d c:List UInt8) (out:List ByteArray),s.data.toList=d++c++rest->out.length<=d.length->aB step ((d.length:Int),((d.length+c.length:Nat):Int),out)=U (out++(aEp b c rest).map mkS):=by
  intro rest
  induction rest with
  | nil=>
   intro d c out hd ho;have hn:d.length+c.length=s.size:=by rw[<- oR s,hd];simp
   rw[hn,aP (h2 d.length out (by omega) (by omega))];rw[aI (h3 _ _)];rw[<- hn,aZo (r:=[]) hd];rfl
  | cons x rest ih=>
   intro d c out hd ho;have hlt:d.length+c.length<s.size:=by rw[<- oR s,hd];simp
   have hx:s.data.toList[d.length+c.length]? =U x:=by rw[hd,cNp,cPn (by omega),cPn (by omega)];simp
   have hs:=h1 d.length (d.length+c.length) out hlt (by omega) (by omega);rw[hx,aA]at hs;unfold aEp;cases e:(x.toNat:Int)==b with
   | true=>
    rw[e,zZ]at hs;rw[aP hs,zZ];have hd':s.data.toList=(d++c++[x])++[]++rest:=by rw[hd];simp
    have :=ih (d++c++[x]) [] (out++[s.extract d.length (d.length+c.length)]) hd' (by simp;omega);rw[aZo hd]at this ⊢;have hl:(d++c++[x]).length=d.length+c.length+1:=by simp;omega
    rw[hl]at this;simp only[cNd,Nat.add_zero]at this;rw[this];simp
   | false=>
    rw[e,zY]at hs;rw[aP hs,zY];have hd':s.data.toList=d++(c++[x])++rest:=by rw[hd];simp
    have :=ih d (c++[x]) out hd' ho;have hl:d.length+(c++[x]).length=d.length+c.length+1:=by simp;omega
    rw[hl]at this;exact this
 exact key s.data.toList [] [] [] rfl (cM5 _)
def aNy{s:ByteArray}{b:Int}(hs:s.size<=1000000000):aAb s b=U (mL s b):=by
 unfold aAb;rw[bW9 (s:=s) (b:=b) (λf i out hi hf ho=>by
  have hd:D ((i:Int)<=(s.size:Int))=X:=zX (by omega);have hb:((i:Int)==(s.size:Int))=Y:=beq_eq_false_iff_ne.2 (by omega);have hx:s.data.toList[i]? =U (s.data.toList[i]'(by rw[oR];exact hi)):=cMz _;have hw:wr ((i:Int)+1)=((i+1:Nat):Int):=aId (by omega);have hsl:bH (f:Int) (i:Int) (s.size:Int)=X:=by rw[aAz];simp;omega
  simp only[hd,hb,zZ,zY,aR,hx,aA,hw,hsl,aC (b:=16) (n:=out.length) (m:=1) (by decide) (by omega),cMt];cases ((s.data.toList[i]'(by rw[oR];exact hi)).toNat:Int)==b<;>rfl) (λf out hf ho=>by
  have hd:D ((s.size:Int)<=(s.size:Int))=X:=zX (by omega);have hw:wr ((s.size:Int)+1)=((s.size+1:Nat):Int):=aId (by omega);have hsl:bH (f:Int) (s.size:Int) (s.size:Int)=X:=wM hf;simp only[hd,beq_self_eq_true,zZ,aA,hw,hsl,aC (b:=16) (n:=out.length) (m:=1) (by decide) (by omega),cMt]) (λf out=>by
  have hd:D (((s.size+1:Nat):Int)<=(s.size:Int))=Y:=zW (by omega);simp only[hd,zY])]
 rfl
def aYt{s:ByteArray}{b:Int}(hs:s.size<=1000000000):yN s b=U (mL s b):=aNy hs
def aJe(by_:ByteArray)(l:List ByteArray):ByteArray:=cV (λk x a=>(cond (D ((k:Int)>0)) (a++by_) a)++x) 0 l Aa
def aDc(l:List ByteArray):Nat:=(l.map λx=>x.size+1).sum
def aK7{step:ByteArray×Int->Option (q36⊕ByteArray)}(by_:ByteArray)(l:List ByteArray)(hb:by_.size<=1)(hl:l.length<=4611686018427387904)(hn:aDc l<=1000000000000)
  (h:∀(k:Nat) (x a:ByteArray),l[k]? =U x->k<l.length->D ((k:Int)<(l.length:Int))=X->wr ((k:Int)+1)=((k+1:Nat):Int)->a.size+(x.size+1)<=1000000000000->step (a,(k:Int))=U (.inl ((cond (D ((k:Int)>0)) (a++by_) a)++x,((k+1:Nat):Int))))
  (he:∀a,step (a,(l.length:Int))=U (.inr a)):aB step (Aa,(0:Int))=U (aJe by_ l)/\(aJe by_ l).size<=aDc l:=by
 obtain⟨a,b⟩:=jG (λk (a:ByteArray)=>(a,(k:Int))) (Aa,(0:Int)) Aa l (λk x a=>(cond (D ((k:Int)>0)) (a++by_) a)++x) ByteArray.size (λx=>x.size+1) 1000000000000 id rfl hl (by show 0+aDc l<=_;omega) (step:=step) (λk x a hi hx hd hw hk hN=>by
  refine⟨h k x a hx hk hd hw hN,?_⟩;rw[ByteArray.size_append];cases D ((k:Int)>0) with
  | true=>show (a++by_).size+x.size<=_;rw[ByteArray.size_append];omega
  | false=>show a.size+x.size<=_;omega) he
 refine⟨a,?_⟩;have b:(aJe by_ l).size<=0+aDc l:=b;omega
def aA6{n:Nat}(h:n<=1000000000001):D (n<=maxLen)=X:=bAn (by omega)
def bBv{l:List ByteArray}{by_:ByteArray}(hb:by_.size<=1)(hl:l.length<=4611686018427387904)(hn:aDc l<=1000000000000):jE l by_=U (aJe by_ l):=by
 unfold jE;rw[(aK7 by_ l hb hl hn (λk x a hx hk hd hw hN=>by
  have e:idx l (k:Int)=U x:=by rw[aR];exact hx
  simp only[hd,zZ,e,aA,hw];cases D ((k:Int)>0) with
  | true=>
   simp only[zZ,aA6 (n:=a.size+by_.size) (by omega),aA,aA6 (n:=(a++by_).size+x.size) (by rw[ByteArray.size_append];omega)]
  | false=>simp only[zY,aA,aA6 (n:=a.size+x.size) (by omega),zZ]) (λa=>by simp)).1]
 rfl
def sp1:ByteArray:=Af
def aH3(l:List ByteArray):ByteArray:=cond (D (l.length=0)) Ac (aJe sp1 l)
def aX6{α:Type}(l:List α):((l.length:Int)==(0:Int))=D (l.length=0):=by
 rw[cNe];simp
def bEf{l:List ByteArray}(hl:l.length<=4611686018427387904)(hn:aDc l<=1000000000000):xS l=U (aH3 l):=by
 unfold xS aH3;rw[aX6,show jE l Af=_ from bBv (by_:=sp1) (by decide) hl hn];cases D (l.length=0)<;>rfl
def aM8{l:List ByteArray}{c:Nat}(h:∀x∈l,x.size<=c):aDc l<=l.length * (c+1):=aB3 λx hx=>by have :=h x hx;omega
def asS(t:den tTo)(r:Int):ByteArray:=cond (cK t r) ((eQ ((t.1[r.toNat]?).getD (0,Y,0)).1++Ac)++eQ r) Ah
def aHt(t:den tTo)(r:Int):(asS t r).size<=70:=by
 have h1:=iO ((t.1[r.toNat]?).getD (0,Y,0)).1;have h2:=iO r;unfold asS;cases cK t r with
 | false=>exact (by decide:(1:Nat)<=70)
 | true=>
  show (_++_++_:ByteArray).size<=70;rw[ByteArray.size_append,ByteArray.size_append];show _+1+_<=70;omega
def bPt{t:den tTo}(ht:eR t)(r:Int):pU t r=U (asS t r):=by
 unfold pU asS pj2;simp only[aD,aBy ht.a,aA,aOk];cases c:cK t r with
 | false=>rfl
 | true=>
  obtain⟨x,hx,ix⟩:=aHd c;have h1:=iO x.1;have h2:=iO r;rw[ix,hx];simp only[aA,cNh,cMp,zY];rw[aA6 (n:=(eQ x.1).size+Ac.size) (by show _+1<=_;omega),aA6 (n:=(eQ x.1++Ac).size+(eQ r).size) (by rw[ByteArray.size_append];show _+1+_<=_;omega)];rfl
def bN7{t:den tTo}(ht:eR t)(r:Int):qC t r=U (asS t r):=by
 unfold qC asS pj2;simp only[aD,aDg ht.a,aA,aRa];cases c:cK t r with
 | false=>rfl
 | true=>
  obtain⟨x,hx,ix⟩:=aHd c;have h1:=iO x.1;have h2:=iO r;rw[ix,hx];simp only[aA,cNh,cMp,zY];rw[aA6 (n:=(eQ x.1).size+Ac.size) (by show _+1<=_;omega),aA6 (n:=(eQ x.1++Ac).size+(eQ r).size) (by rw[ByteArray.size_append];show _+1+_<=_;omega)];rfl
def aIr(t:den tTo)(r d:Int):ByteArray:=(asS t r++Ai)++eQ d
def aIb(t:den tTo)(r d:Int):(aIr t r d).size<=110:=by
 have h1:=aHt t r;have h2:=iO d;unfold aIr;rw[ByteArray.size_append,ByteArray.size_append];show _+1+_<=110;omega
def cG8{t:den tTo}(ht:eR t)(r d:Int):jO t r d=U (aIr t r d):=by
 have h1:=aHt t r;have h2:=iO d;unfold jO aIr pj2;simp only[aD,bPt ht,aA,aOk];rw[aA6 (n:=(asS t r).size+Ai.size) (by show _+1<=_;omega),aA6 (n:=(asS t r++Ai).size+(eQ d).size) (by rw[ByteArray.size_append];show _+1+_<=_;omega)];rfl
def cI1{t:den tTo}(ht:eR t)(r d:Int):jP t r d=U (aIr t r d):=by
 have h1:=aHt t r;have h2:=iO d;unfold jP aIr pj2;simp only[aD,bN7 ht,aA,aRa];rw[aA6 (n:=(asS t r).size+Ai.size) (by show _+1<=_;omega),aA6 (n:=(asS t r++Ai).size+(eQ d).size) (by rw[ByteArray.size_append];show _+1+_<=_;omega)];rfl
def aL7(k:Int):ByteArray:=cond (k==1) Aj (cond (k==2) Ak (cond (k==3) Al Ah))
def aF0(t:den tTo)(x:den tLk):ByteArray:=(aIr t x.1 x.2.1++aL7 x.2.2.2.2)++aIr t x.2.2.1 x.2.2.2.1
def aRy(k:Int):(aL7 k).size=1:=by unfold aL7;cases k==1<;>cases k==2<;>cases k==3<;>rfl
def bD6(t:den tTo)(x:den tLk):(aF0 t x).size<=230:=by
 have h1:=aIb t x.1 x.2.1;have h2:=aIb t x.2.2.1 x.2.2.2.1;have h3:=aRy x.2.2.2.2;unfold aF0;rw[ByteArray.size_append,ByteArray.size_append];omega
def bMc(k:Int):cond (k==(1:Int)) (U Aj) (cond (k==(2:Int)) (U Ak) (cond (k==(3:Int)) (U Al) (U Ah)))=U (aL7 k):=by
 unfold aL7;cases k==1<;>cases k==2<;>cases k==3<;>rfl
def bMb{t:den tTo}(ht:eR t){k:Nat}{x:den tLk}(hx:t.2[k]? =U x):inR (k:Int) 0 (wr ((t.2.length:Int) - 1))=X:=by
 have :=(List.getElem?_eq_some_iff.1 hx).1;rw[show wr ((t.2.length:Int) - 1)=(t.2.length:Int) - 1 from dN (by have :=ht.links;omega)];exact bQ.2 (by omega)
def cG0{t:den tTo}(ht:eR t){k:Nat}{x:den tLk}(hx:t.2[k]? =U x):xI t (k:Int)=U (aF0 t x):=by
 have h1:=aIb t x.1 x.2.1;have h2:=aIb t x.2.2.1 x.2.2.2.1;have h3:=aRy x.2.2.2.2;have e:idx t.2 (k:Int)=U x:=by rw[aR];exact hx
 unfold xI aF0 pj2 zz4;simp only[gU,bMb ht hx,aA,cMp,zY,e,aD,bMc,cG8 ht];rw[aA6 (n:=(aIr t x.1 x.2.1).size+(aL7 x.2.2.2.2).size) (by omega),aA6 (n:=(aIr t x.1 x.2.1++aL7 x.2.2.2.2).size+(aIr t x.2.2.1 x.2.2.2.1).size) (by rw[ByteArray.size_append];omega)];rfl
def cH6{t:den tTo}(ht:eR t){k:Nat}{x:den tLk}(hx:t.2[k]? =U x):xD t (k:Int)=U (aF0 t x):=by
 have h1:=aIb t x.1 x.2.1;have h2:=aIb t x.2.2.1 x.2.2.2.1;have h3:=aRy x.2.2.2.2;have e:idx t.2 (k:Int)=U x:=by rw[aR];exact hx
 unfold xD aF0 pj2 zz4;simp only[fB,bMb ht hx,aA,cMp,zY,e,aD,bMc,cI1 ht];rw[aA6 (n:=(aIr t x.1 x.2.1).size+(aL7 x.2.2.2.2).size) (by omega),aA6 (n:=(aIr t x.1 x.2.1++aL7 x.2.2.2.2).size+(aIr t x.2.2.1 x.2.2.2.1).size) (by rw[ByteArray.size_append];omega)];rfl
def aTl(t:den tTo):ByteArray:=aH3 (t.2.map (aF0 t))
def cIj{t:den tTo}(ht:eR t):aDc (t.2.map (aF0 t))<=1000000000000:=by
 have h1:=aM8 (l:=t.2.map (aF0 t)) (c:=230) λx hx=>by
  obtain⟨y,_,rfl⟩:=cMs.1 hx;exact bD6 t y
 have :=ht.links;rw[cNg]at h1;omega
def cGg{t:den tTo}(ht:eR t):mF t=U (aTl t):=by
 have hl:=ht.links;unfold mF aTl pj2;rw[(jG (λk (a:List ByteArray)=>((k:Int),a)) ((0:Int),[]) [] t.2 (λ_ x a=>a++[aF0 t x]) cMy (λ_=>1) 1000000 id rfl (by omega) (by rw[cS];simpa using hl) (λk x a hi hx hd hw hk hb=>by
  simp only[hd,zZ,cG0 ht hx,aA,hw,aC (b:=16) (n:=a.length) (m:=1) (by decide) (by omega)];simp) (λa=>by simp)).1,dQ (aF0 t)]
 show Option.bind (xS (t.2.map (aF0 t))) _=_;rw[bEf (by simp;omega) (cIj ht)];rfl
def cHh{t:den tTo}(ht:eR t):mD t=U (aTl t):=by
 have hl:=ht.links;unfold mD aTl aH3 pj2;rw[(aK7 sp1 (t.2.map (aF0 t)) (by decide) (by simp;omega) (cIj ht) (λk x a hx hk hd hw hN=>by
  rw[cOk]at hx;obtain⟨y,hy,rfl⟩:=cNm.1 hx;rw[cNg]at hd;simp only[hd,zZ,cH6 ht hy,aA,hw];have e1:sp1.size=1:=rfl;cases D ((k:Int)>0) with
  | true=>
   simp only[zZ,aA6 (n:=a.size+Af.size) (by show a.size+1<=_;omega),aA,aA6 (n:=(a++Af).size+(aF0 t y).size) (by rw[ByteArray.size_append];show a.size+1+_<=_;omega)];rfl
  | false=>simp only[zY,aA,aA6 (n:=a.size+(aF0 t y).size) (by omega),zZ]) (λa=>by simp)).1,aA,aX6]
 rw[cNg];cases D (t.2.length=0)<;>rfl
def fit{a b:ByteArray}(h:a.size+b.size<=4000000000000):D (a.size+b.size<=maxLen)=X:=bAn h
def gt1:ByteArray:=Ak
def aHb(t:den tTo)(x:den aEl):ByteArray:=(((eQ x.2.1++gt1)++asS t x.1)++gt1)++eQ x.2.2
def aZu(t:den tTo)(x:den aEl):(aHb t x).size<=150:=by
 have h1:=iO x.2.1;have h2:=iO x.2.2;have h3:=aHt t x.1;have h4:gt1.size=1:=rfl;unfold aHb;simp only[ByteArray.size_append];omega
def aSb(t:den tTo)(p:den tPt):ByteArray:=aH3 ((iA p).map (aHb t))
def bY5{t:den tTo}{p:den tPt}(h:tot tPt p<=1000):aDc ((iA p).map (aHb t))<=1000000000000:=by
 have h1:=aM8 (l:=(iA p).map (aHb t)) (c:=150) λx hx=>by
  obtain⟨y,_,rfl⟩:=cMs.1 hx;exact aZu t y
 have :=aB9 p;rw[cNg]at h1;omega
def cE6{t:den tTo}{p:den tPt}(ht:eR t)(h:tot tPt p<=1000):tX t p=U (aSb t p):=by
 have hl:=aB9 p;unfold tX aSb pj2;rw[aMe (cMo h (by decide)),aA];unfold yC pj2;rw[(jG (λk (a:List ByteArray)=>((k:Int),a)) ((0:Int),[]) [] (iA p) (λ_ x a=>a++[aHb t x]) cMy (λ_=>1) 1000000 id rfl (by omega) (by rw[cS];simp;omega) (λk x a hi hx hd hw hk hb=>by
  have h1:=iO x.2.1;have h2:=iO x.2.2;have h3:=aHt t x.1;have h4:gt1.size=1:=rfl;simp only[hd,zZ,hi,aA,aOk,aD,bPt ht,hw,aC (b:=16) (n:=a.length) (m:=1) (by decide) (by omega)];rw[show D ((eQ x.2.1).size+Ak.size<=maxLen)=X from fit (b:=gt1) (by omega),show D ((eQ x.2.1++Ak).size+(asS t x.1).size<=maxLen)=X from fit (a:=eQ x.2.1++gt1) (by rw[ByteArray.size_append];omega),show D (((eQ x.2.1++Ak)++asS t x.1).size+Ak.size<=maxLen)=X from fit (a:=(eQ x.2.1++gt1)++asS t x.1) (b:=gt1) (by simp only[ByteArray.size_append];omega),show D ((((eQ x.2.1++Ak)++asS t x.1)++Ak).size+(eQ x.2.2).size<=maxLen)=X from fit (a:=((eQ x.2.1++gt1)++asS t x.1)++gt1) (by simp only[ByteArray.size_append];omega)];exact⟨rfl,by simp⟩) (λa=>by simp)).1,dQ (aHb t)]
 show Option.bind (xS ((iA p).map (aHb t))) _=_;rw[bEf (by simp;omega) (bY5 h)];rfl
def cD0{t:den tTo}{p:den tPt}(ht:eR t)(h:tot tPt p<=1000):uF t p=U (aSb t p):=by
 have hl:=aB9 p;unfold uF aSb aH3 ixb pj2;rw[aMw (cMo h (by decide)),aA];rw[(aK7 sp1 ((iA p).map (aHb t)) (by decide) (by simp;omega) (bY5 h) (λk x a hx hk hd hw hN=>by
  rw[cOk]at hx;obtain⟨y,hy,rfl⟩:=cNm.1 hx;rw[cNg]at hd;have h1:=iO y.2.1;have h2:=iO y.2.2;have h3:=aHt t y.1;have h4:gt1.size=1:=rfl;have h5:sp1.size=1:=rfl;have e0:cond (D ((k:Int)>0)) (cond (D (a.size+Af.size<=maxLen)) (U (a++Af)) W) (U a)=U (cond (D ((k:Int)>0)) (a++sp1) a):=by
   rw[show D (a.size+Af.size<=maxLen)=X from fit (b:=sp1) (by omega)];cases D ((k:Int)>0)<;>rfl
  have hq:(cond (D ((k:Int)>0)) (a++sp1) a).size<=a.size+1:=by
   cases D ((k:Int)>0) with
   | true=>show (a++sp1).size<=_;rw[ByteArray.size_append];omega
   | false=>exact cN1 _
  simp only[hd,bF,zZ,cMt,hy,aA,aRa,aD,bN7 ht,hw,e0];generalize cond (D ((k:Int)>0)) (a++sp1) a=c at *;rw[show D (c.size+(eQ y.2.1).size<=maxLen)=X from fit (by omega),show D ((c++eQ y.2.1).size+Ak.size<=maxLen)=X from fit (b:=gt1) (by rw[ByteArray.size_append];omega),show D (((c++eQ y.2.1)++Ak).size+(asS t y.1).size<=maxLen)=X from fit (a:=(c++eQ y.2.1)++gt1) (by simp only[ByteArray.size_append];omega),show D ((((c++eQ y.2.1)++Ak)++asS t y.1).size+Ak.size<=maxLen)=X from fit (a:=((c++eQ y.2.1)++gt1)++asS t y.1) (b:=gt1) (by simp only[ByteArray.size_append];omega),show D (((((c++eQ y.2.1)++Ak)++asS t y.1)++Ak).size+(eQ y.2.2).size<=maxLen)=X from fit (a:=(((c++eQ y.2.1)++gt1)++asS t y.1)++gt1) (by simp only[ByteArray.size_append];omega)];unfold aHb;simp only[zZ,ByteArray.append_assoc];rfl) (λa=>by simp)).1,aA,aX6]
 rw[cNg];cases D ((iA p).length=0)<;>rfl
def aQe{by_:ByteArray}(l:List ByteArray)(hb:by_.size<=1):(aJe by_ l).size<=aDc l:=by
 have :=aE8 (f:=λ(k:Nat) (x a:ByteArray)=>(cond (D ((k:Int)>0)) (a++by_) a)++x) (m:=ByteArray.size) (cost:=λx=>x.size+1) (λk x a=>by
  rw[ByteArray.size_append];cases D ((k:Int)>0) with
  | true=>show (a++by_).size+x.size<=_;rw[ByteArray.size_append];omega
  | false=>show a.size+x.size<=_;omega) l 0 Aa
 have h0:Aa.size=0:=rfl;rw[h0]at this;unfold aJe aDc;omega
def aTt(l:List ByteArray):(aH3 l).size<=aDc l+1:=by
 unfold aH3;cases D (l.length=0) with
 | true=>exact Nat.le_add_left 1 _
 | false=>
  have :=aQe l (by_:=sp1) (by decide);show (aJe sp1 l).size<=_;omega
def aE9(s:ByteArray)(b:den aT):q5:=
 (s,b.2.2.1,b.1.1,b.1.2,b.2.1.1,b.2.1.2,b.2.2.2.1,b.2.2.2.2.1.1,b.2.2.2.2.1.2,b.2.2.2.2.2.1.1,b.2.2.2.2.2.1.2,b.2.2.2.2.2.2.1.1,b.2.2.2.2.2.2.1.2.1,b.2.2.2.2.2.2.1.2.2,b.2.2.2.2.2.2.2.1,b.2.2.2.2.2.2.2.2.1,b.2.2.2.2.2.2.2.2.2.1,b.2.2.2.2.2.2.2.2.2.2.1,b.2.2.2.2.2.2.2.2.2.2.2.1,b.2.2.2.2.2.2.2.2.2.2.2.2)
def toL(b:den aT):den aBt:=(b.1,b.2.2.1,b.2.1,b.2.2.2.1,b.2.2.2.2)
abbrev bT(b:den aT):den tTo:=b.1
abbrev bK(b:den aT):Db:=b.2.1
abbrev bP(b:den aT):dE:=b.2.2.1
abbrev bN(b:den aT):Int:=b.2.2.2.1
abbrev bW(b:den aT):den tNw:=b.2.2.2.2
def aP6(b:den aT)(w:den tNw):den aT:=(b.1,b.2.1,b.2.2.1,b.2.2.2.1,w)
structure BI (k:Nat) (b:den aT):Prop where
 as:(bT b).1.length<=8
 links:(bT b).2.length<=k
 db:kN (bK b)<=96 * k
 hops:KH 8 (bK b)
 pol:(bP b).length=(bT b).1.length
 net:NB (1000000+330000000 * k) (bW b)
def Two(k:Nat)(o o':Option q5):Prop:=
 ∃s b,o=U (aE9 s b)/\o'=U (aE9 s b)/\s.size<=100000000000/\BI (k+1) b
def BI.next{k:Nat}{b:den aT}(h:BI k b):BI (k+1) b:=⟨h.as,by have :=h.links;omega,by have :=h.db;omega,h.hops,h.pol,h.net.mono (by omega)⟩
def BI.top{k:Nat}{b:den aT}(h:BI k b)(hk:k<=80):eR (bT b):=⟨by have :=h.as;omega,by have :=h.links;omega⟩
def BI.netw{k:Nat}{b:den aT}{w:den tNw}(h:BI k b)(hw:NB (1000000+330000000 * (k+1)) w):BI (k+1) (aP6 b w):=⟨h.as,by have :=h.links;show (bT b).2.length<=k+1;omega,by have :=h.db;show kN (bK b)<=96 * (k+1);omega,h.hops,h.pol,hw⟩
def BI.dbs{k:Nat}{b:den aT}(h:BI k b)(hk:k<=80):DbS (bK b):=by
 have :=h.db;unfold kN at this;exact⟨by omega,by omega,h.hops.1,h.hops.2⟩
def aEr{k:Nat}{b:den aT}(h:BI k b)(s:ByteArray)(hs:s.size<=100000000000):Two k (U (aE9 s b)) (U (aE9 s b)):=⟨s,b,rfl,rfl,hs,h.next⟩
def aSh(w:den tNw):ByteArray:=aJe sp1 ((aHw w).map eQ)
def bX0{B:Nat}{w:den tNw}(h:NB B w):aDc ((aHw w).map eQ)<=1000/\(aHw w).length<=8:=by
 have hf:=h.keep.flows;have hl:(aHw w).length<=8:=by
  unfold aHw;rw[cNa,cNg];show 4+(aG w).length<=8;omega
 have h1:=aM8 (l:=(aHw w).map eQ) (c:=30) λx hx=>by
  obtain⟨y,_,rfl⟩:=cMs.1 hx;exact iO y
 rw[cNg]at h1;exact⟨by omega,hl⟩
def bS7{B:Nat}{b:den aT}(h:NB B (bW b))(hB:B<=34000000000):eM b=U (aE9 (aSh (bW b)) b):=by
 obtain⟨h1,h2⟩:=bX0 h;have e0:wF (bW b)=U (aHw (bW b)):=cCn (cMo h.keep.tot (by omega));unfold eM ixb pj6 aL zz4 zz5 zz6 zz7;simp only[aD];rw[show wF b.2.2.2.2=U (aHw (bW b)) from e0,aA];rw[(jG (λk (a:List ByteArray)=>((k:Int),a)) ((0:Int),[]) [] (aHw (bW b)) (λ_ x a=>a++[eQ x]) cMy (λ_=>1) 1000000 id rfl (by omega) (by rw[cS];simp;omega) (λk x a hi hx hd hw hk hb=>by
  simp only[hd,bF,zZ,cMt,hx,aA,aOk,hw,aC (b:=16) (n:=a.length) (m:=1) (by decide) (by omega)];simp) (λa=>by simp)).1,dQ eQ]
 show Option.bind (jE ((aHw (bW b)).map eQ) sp1) _=_;rw[bBv (by decide) (by simp;omega) (cMo h1 (by decide))];rfl
def bT6{B:Nat}{w:den tNw}(h:NB B w)(hB:B<=34000000000):jF w=U (aSh w):=by
 obtain⟨h1,h2⟩:=bX0 h;have e0:aBn w=U (aHw w):=cJs (cMo h.keep.tot (by omega));unfold jF aSh ixb aL;simp only[aD];rw[e0,aA];rw[(aK7 sp1 ((aHw w).map eQ) (by decide) (by simp;omega) (cMo h1 (by decide)) (λk x a hx hk hd hw hN=>by
  rw[cOk]at hx;obtain⟨y,hy,rfl⟩:=cNm.1 hx;rw[cNg]at hd;have h5:sp1.size=1:=rfl;simp only[hd,bF,zZ,cMt,hy,aA,aRa,hw];cases D ((k:Int)>0) with
  | true=>
   simp only[zZ,show D (a.size+Af.size<=maxLen)=X from fit (b:=sp1) (by omega),aA,show D ((a++Af).size+(eQ y).size<=maxLen)=X from fit (a:=a++sp1) (by rw[ByteArray.size_append];omega)];rfl
  | false=>simp only[zY,aA,fit (a:=a) (b:=eQ y) (by omega),zZ]) (λa=>by simp)).1]
 rfl
def bD0{B:Nat}{w:den tNw}(h:NB B w):(aSh w).size<=1000:=cMo (aQe _ (by decide)) (bX0 h).1
def aWo:ByteArray:=Az
def bZh:ByteArray:=Ay
def aW5(w:den tNw)(i:Int):ByteArray:=cond (inR i 0 (((cQ w).length:Int) - 1)) (cond (D ((((cQ w)[i.toNat]?).getD (0,0,0,[])).2.2.2.length=0)) Ac (aJe aWo ((((cQ w)[i.toNat]?).getD (0,0,0,[])).2.2.2.map eV))) bZh
def bWz{B:Nat}{w:den tNw}(h:NB B w)(hB:B<=34000000000){x:den tIb}(hx:x∈cQ w):aDc ((show List lI from x.2.2.2).map eV)<=34000000000:=by
 have h1:=kA (t:=tIb) hx;have h2:=dX w;have h3:=h.keep.tot;have e:aDc ((show List lI from x.2.2.2).map eV)=tot (.sl tMs) x.2.2.2:=by
  unfold aDc;rw[List.map_map,<- aPq];refine congrArg List.sum (List.map_congr_left λm _=> ?_);show (eV m).size+1=1+tot tMs m;rw[aIu,show tot tMs m=m.length from qS (t:=tb) rfl];omega
 have e2:tot tIb x=tot (.sl tMs) x.2.2.2:=by simp[sE,vU]
 omega
def cG7{B:Nat}{b:den aT}(h:NB B (bW b))(hB:B<=34000000000){i:Int}(h0:0<=i):mA b i=U (aE9 (aW5 (bW b) i) b):=by
 unfold mA aW5 pj6 bA zz4 zz5 zz6 zz7
 by_cases c:i>=(b.2.2.2.2.2.2.2.2.2.2.2.1.length:Int)
 .rw[zX c,show inR i 0 (((cQ (bW b)).length:Int) - 1)=Y from aUu.2 λ⟨_,g⟩=>by have :((cQ (bW b)).length:Int)<=i:=c;omega];rfl
 .have hlt:i<((cQ (bW b)).length:Int):=Int.not_le.1 c;rw[zW c,show inR i 0 (((cQ (bW b)).length:Int) - 1)=X from bQ.2 ⟨h0,by omega⟩];have hx:(cQ (bW b))[i.toNat]? =U ((cQ (bW b))[i.toNat]'(by omega)):=cMz (by omega);have hm:=cMw hx;generalize (cQ (bW b))[i.toNat]'(by omega)=x at *;have ex:idx b.2.2.2.2.2.2.2.2.2.2.2.1 i=U x:=aI7 h0 hx;have hN:=bWz h hB hm;have hl:(show List lI from x.2.2.2).length<=34000000000:=by
   have h1:=kA (t:=tIb) hm;have h2:=dX (bW b);have h3:=h.keep.tot;have h4:=cO (t:=tMs) x.2.2.2;have e2:tot tIb x=tot (.sl tMs) x.2.2.2:=by simp[sE,vU]
   show cMy x.2.2.2<=_;omega
  rw[ex,hx];simp only[zY,zZ,aA,cNh];rw[(jG (λk (a:List ByteArray)=>((k:Int),a)) ((0:Int),[]) [] (show List lI from x.2.2.2) (λ_ x a=>a++[eV x]) cMy (λ_=>1) 34000000000 id rfl (by omega) (by rw[cS];simpa using hl) (λk x a hi hx hd hw hk hb=>by
   simp only[hd,zZ,hi,aA,hw,aC (b:=16) (n:=a.length) (m:=1) (by decide) (by omega)];simp) (λa=>by simp)).1,dQ eV]
  simp only[aA,id,List.nil_append,aX6];rw[show jE ((show List lI from x.2.2.2).map eV) Az=U (aJe aWo _) from bBv (by_:=aWo) (by decide) (by rw[cNg];exact cMo hl (by decide)) (cMo hN (by decide))];rw[cNg];cases D (cMy (α:=List Int) x.2.2.2=0)<;>rfl
def cGe{B:Nat}{w:den tNw}(h:NB B w)(hB:B<=34000000000){i:Int}(h0:0<=i):aEs w i=U (aW5 w i):=by
 have hbl:(cQ w).length<=34000000000:=by
  have h2:=dX w;have h3:=h.keep.tot;have h4:=cO (t:=tIb) (cQ w);omega
 unfold aEs aW5 zz7;rw[show wr ((w.2.2.2.2.2.2.2.1.length:Int) - 1)=((cQ w).length:Int) - 1 from dN (by show (cQ w).length<=_;omega),fB,aA];cases c:inR i 0 (((cQ w).length:Int) - 1) with
 | false=>rfl
 | true=>
  obtain⟨g0,g1⟩:=bQ.1 c;have hx:(cQ w)[i.toNat]? =U ((cQ w)[i.toNat]'(by omega)):=cMz (by omega);have hm:=cMw hx;generalize (cQ w)[i.toNat]'(by omega)=x at *;have ex:idx w.2.2.2.2.2.2.2.1 i=U x:=aI7 h0 hx;have hN:=bWz h hB hm;have hl:(show List lI from x.2.2.2).length<=34000000000:=by
   have h1:=kA (t:=tIb) hm;have h2:=dX w;have h3:=h.keep.tot;have h4:=cO (t:=tMs) x.2.2.2;have e2:tot tIb x=tot (.sl tMs) x.2.2.2:=by simp[sE,vU]
   show cMy x.2.2.2<=_;omega
  simp only[ex,hx,cMp,zY,zZ,aA,cNh];rw[(aK7 aWo ((show List lI from x.2.2.2).map eV) (by decide) (by rw[cNg];exact cMo hl (by decide)) (cMo hN (by decide)) (λk z a hz hk hd hw hN=>by
   rw[cOk]at hz;obtain⟨y,hy,rfl⟩:=cNm.1 hz;rw[cNg]at hd;have h5:aWo.size=1:=rfl;have ey:idx (show List lI from x.2.2.2) (k:Int)=U y:=by rw[aR];exact hy
   simp only[hd,zZ,ey,aA,hw];cases D ((k:Int)>0) with
   | true=>
    simp only[zZ,show D (a.size+Az.size<=maxLen)=X from fit (b:=aWo) (by omega),aA,show D ((a++Az).size+(eV y).size<=maxLen)=X from fit (a:=a++aWo) (by rw[ByteArray.size_append];omega)];rfl
   | false=>simp only[zY,aA,fit (a:=a) (b:=eV y) (by omega),zZ]) (λa=>by simp)).1,aA,aX6]
  cases D (cMy (α:=List Int) x.2.2.2=0)<;>rfl
def bTa{B:Nat}{w:den tNw}(h:NB B w)(hB:B<=34000000000)(i:Int):(aW5 w i).size<=34000000000:=by
 unfold aW5;cases c:inR i 0 (((cQ w).length:Int) - 1) with
 | false=>exact (by decide:4<=34000000000)
 | true=>
  obtain⟨g0,g1⟩:=bQ.1 c;have hx:(cQ w)[i.toNat]? =U ((cQ w)[i.toNat]'(by omega)):=cMz (by omega);have hN:=bWz h hB (cMw hx);rw[hx,cNh];generalize (cQ w)[i.toNat]'(by omega)=x at *;cases D (cMy (α:=List Int) x.2.2.2=0) with
  | true=>exact (by decide:1<=34000000000)
  | false=>exact cMo (aQe _ (by decide)) hN
def BI.big{k:Nat}(hk:k<=80):1000000+330000000 * k<=34000000000:=by omega
def okS(b:Bool):ByteArray:=cond b Ad Ae
def aC5(b:Bool):(okS b).size<=100000000000:=by cases b<;>exact (by decide:2<=100000000000)
def aSi{k:Nat}{b:den aT}{e:den yG}(h:BI k b)(hk:k<=80)(he:EvX e):Two k (cT b e) (rZ (toL b) e):=by
 have e1:=cFy h.net (BI.big hk) he;have e2:=cF5 h.net (BI.big hk) he;have hn:=(bVq h.net he).mono (show 1000000+330000000 * k+2000000<=1000000+330000000 * (k+1) by omega);refine⟨okS (aEy (bW b) e).1,aP6 b (aEy (bW b) e).2,?_,?_,aC5 _,h.netw hn⟩
 .unfold cT pJ okS aK aL aS bA bZ dR zz4 zz5 zz6 zz7 zz8 zz9;simp only[bB,cB,bL,bJ,bO,aD];rw[show rR b.2.2.2.2 e=_ from e1,aA,aA];unfold aO2;cases (aEy (bW b) e).1<;>rfl
 .unfold rZ aAo okS toL aK pj3 aL aS bA bZ dR zz4 zz5 zz6 zz7 zz8 zz9;simp only[bB,cB,bL,bJ,bO,aD];rw[show rH b.2.2.2.2 e=_ from e2,aA,aA];unfold cA5;cases (aEy (bW b) e).1<;>rfl
def bQh(b:den aT)(t:den tTo)(p:dE):den aT:=(t,b.2.1,p,b.2.2.2.1,b.2.2.2.2)
def bWa{t:den tTo}(h:mM t=X):t.1.length<=8:=by
 unfold mM at h;rw[cMu]at h;have :=bQ.1 h.1;omega
def bS6{k:Nat}{b:den aT}{t:den tTo}(h:BI k b)(ht:eR t)(hl:t.1.length=(bP b).length\/t.1.length=(bP b).length+1):mJ b t=U (cond (mM t) (X,(aE9 Aa (bQh b t (cond (D (t.1.length=(bP b).length)) (bP b) (bP b++[aLo])))).2) (Y,(aE9 Aa b).2)):=by
 have hp:=h.pol;have ha:=h.as;unfold mJ cF6 aPi aFc pj2 pj4 pj6 zz4 zz5 zz6 zz7;simp only[aD,aNz ht.sm,aA];cases mM t with
 | false=>rfl
 | true=>
  simp only[cMp,zY,zZ];rcases hl with hl | hl
  .rw[aI (r:=(b.2.2.1,b.1.1,b.1.2,b.2.1.1,b.2.1.2,b.2.2.2.1,b.2.2.2.2.1.1,b.2.2.2.2.1.2,b.2.2.2.2.2.1.1,b.2.2.2.2.2.1.2,b.2.2.2.2.2.2.1.1,b.2.2.2.2.2.2.1.2.1,b.2.2.2.2.2.2.1.2.2,b.2.2.2.2.2.2.2.1,b.2.2.2.2.2.2.2.2.1,b.2.2.2.2.2.2.2.2.2.1,b.2.2.2.2.2.2.2.2.2.2.1,b.2.2.2.2.2.2.2.2.2.2.2.1,b.2.2.2.2.2.2.2.2.2.2.2.2)) (by
    have hd:D ((b.2.2.1.length:Int)<(t.1.length:Int))=Y:=zW (by rw[hl];exact Int.lt_irrefl _);simp only[hd,zY]),aA,zX hl]
   rfl
  .rw[aP (s':=(b.2.2.1++[aLo],b.1.1,b.1.2,b.2.1.1,b.2.1.2,b.2.2.2.1,b.2.2.2.2.1.1,b.2.2.2.2.1.2,b.2.2.2.2.2.1.1,b.2.2.2.2.2.1.2,b.2.2.2.2.2.2.1.1,b.2.2.2.2.2.2.1.2.1,b.2.2.2.2.2.2.1.2.2,b.2.2.2.2.2.2.2.1,b.2.2.2.2.2.2.2.2.1,b.2.2.2.2.2.2.2.2.2.1,b.2.2.2.2.2.2.2.2.2.2.1,b.2.2.2.2.2.2.2.2.2.2.2.1,b.2.2.2.2.2.2.2.2.2.2.2.2)) (by
    have hd:D ((b.2.2.1.length:Int)<(t.1.length:Int))=X:=zX (by rw[hl];show ((bP b).length:Int)<_;omega);simp only[hd,zZ,aC (b:=32) (n:=b.2.2.1.length) (m:=1) (by decide) (show (bP b).length+1<=_ by omega)];rfl),aI (r:=(b.2.2.1++[aLo],b.1.1,b.1.2,b.2.1.1,b.2.1.2,b.2.2.2.1,b.2.2.2.2.1.1,b.2.2.2.2.1.2,b.2.2.2.2.2.1.1,b.2.2.2.2.2.1.2,b.2.2.2.2.2.2.1.1,b.2.2.2.2.2.2.1.2.1,b.2.2.2.2.2.2.1.2.2,b.2.2.2.2.2.2.2.1,b.2.2.2.2.2.2.2.2.1,b.2.2.2.2.2.2.2.2.2.1,b.2.2.2.2.2.2.2.2.2.2.1,b.2.2.2.2.2.2.2.2.2.2.2.1,b.2.2.2.2.2.2.2.2.2.2.2.2)) (by
    have hd:D (((b.2.2.1++[aLo]).length:Int)<(t.1.length:Int))=Y:=zW (by rw[hl,cNa];show ¬ ((((bP b).length+1:Nat):Int)<_);omega);simp only[hd,zY]),aA,zW (show ¬ t.1.length=(bP b).length by omega)]
   rfl
def BI.topw{k:Nat}{b:den aT}(h:BI k b){t:den tTo}{p:dE}(h1:t.1.length<=8)(h2:t.2.length<=k+1)(h3:p.length=t.1.length):BI (k+1) (bQh b t p):=
 ⟨h1,h2,by have :=h.db;show kN (bK b)<=_;omega,h.hops,h3,h.net.mono (by omega)⟩
def bD8{k:Nat}{b:den aT}(h:BI k b)(hk:k<=80)(core:Bool)(isd:Int):Two k (mI b core isd) (aBv (toL b) isd core):=by
 have ht:=h.top hk;have ha:=h.as;have hp:=h.pol;generalize hT:((bT b).1++[(isd,core,wr ((1000:Int)+((bT b).1.length:Int)))],(bT b).2)=t;have h1:t.1.length=(bT b).1.length+1:=by rw[<- hT];simp
 have h2:t.2=(bT b).2:=by rw[<- hT]
 have ht':eR t:=⟨by omega,by rw[h2];exact ht.links⟩
 have eg:=bS6 (t:=t) h ht' (.inr (by omega));have ec:eO b.1=U b.1:=aUn ht.sm;have ec':lZ b.1=U b.1:=aUz ht.sm;have ap1:aF 24 b.1.1.length 1=X:=aC (by decide) (show (bT b).1.length+1<=_ by omega);have ap2:aF 32 b.2.2.1.length 1=X:=aC (by decide) (show (bP b).length+1<=_ by omega);have hT':(b.1.1++[(isd,core,wr ((1000:Int)+(b.1.1.length:Int)))],b.1.2)=t:=hT;have hw:wr (((b.1.1++[(isd,core,wr ((1000:Int)+(b.1.1.length:Int)))]).length:Int) - 1)=(b.1.1.length:Int):=by
  rw[cNa,cOd];exact (wri (by omega) (by show ((((bT b).1.length+1:Nat):Int) - 1)<=_;omega)).trans (by omega)
 have hfst:b.1.1++[(isd,core,wr ((1000:Int)+(b.1.1.length:Int)))]=t.1:=congrArg Prod.fst hT';rw[zW (show ¬ t.1.length=(bP b).length by omega)]at eg;unfold mI aBv toL aFc pj2 pj4 pj6 aL zz4 zz5 zz6 zz7;simp only[aD,ec,ec',aA,ap1,ap2,zZ,hw];simp only[hfst,show b.1.2=t.2 from h2.symm];cases cv:mM t with
 | false=>
  rw[cv]at eg;refine⟨okS Y,b,?_,?_,aC5 _,h.next⟩
  .rw[show mJ b (t.1,t.2)=_ from eg];rfl
  .rw[show bY (t.1,t.2)=U (mM t) from aFo ht'.sm,cv,h2];rfl
 | true=>
  rw[cv]at eg;have h8:=bWa cv;have hs:=aHt t (b.1.1.length:Int);refine⟨asS t (b.1.1.length:Int),bQh b t (bP b++[aLo]),?_,?_,by omega,h.topw h8 (by have hh:=h.links;rw[<- h2]at hh;omega) (by rw[cNa,cOd];omega)⟩
  .rw[show mJ b (t.1,t.2)=_ from eg];simp only[aA,zZ,cMp,zY];rw[show pU (t.1,t.2) (b.1.1.length:Int)=U (asS t (b.1.1.length:Int)) from bPt ht' _];rfl
  .rw[show bY (t.1,t.2)=U (mM t) from aFo ht'.sm,cv];simp only[aA,cMp,zY];rw[show qC (t.1,t.2) (b.1.1.length:Int)=U (asS t (b.1.1.length:Int)) from bN7 ht' _];rfl
def aUw(a b c:Bool):Int:=cond a 1 (cond b 2 (cond c 3 0))
def bHp{R:Type}(a b c:Bool)(r:R):(cond a (U (cMn (1:Int))) (cond b (U (cMn (2:Int))) (cond c (U (cMn (3:Int))) (U (cMm r)))):Option (Int⊕R))=cond (a||(b||c)) (U (cMn (aUw a b c))) (U (cMm r)):=by
 cases a<;>cases b<;>cases c<;>rfl
def aDd:ByteArray:=Au
def aIx(w:ByteArray):Bool:=w.toList==Av.toList
def aGn(w:ByteArray):Bool:=w.toList==Aw.toList
def aIi(w:ByteArray):Bool:=w.toList==Ax.toList
def bV2(b:den aT)(n:List Int){w:ByteArray}(hw:(aIx w||(aGn w||aIi w))=Y):aAg (toL b) n w=U (aE9 aDd b):=by
 unfold aAg pj2 pj6 zz4 zz5 zz6 zz7;rw[bHp,show (w.toList==Av.toList||(w.toList==Aw.toList||w.toList==Ax.toList))=Y from hw];rfl
def bJk{k:Nat}{b:den aT}(h:BI k b)(hk:k<=80)(x0 x1 x2 x3:Int){w:ByteArray}(hw:(aIx w||(aGn w||aIi w))=X):Two k (eJ b [x0,x1,x2,x3] (aUw (aIx w) (aGn w) (aIi w))) (aAg (toL b) [x0,x1,x2,x3] w):=by
 have ht:=h.top hk;have ha:=h.as;have hl:=h.links;have hp:=h.pol;unfold aAg pj2 pj6 zz4 zz5 zz6 zz7;rw[bHp,show (w.toList==Av.toList||(w.toList==Aw.toList||w.toList==Ax.toList))=X from hw];simp only[zZ,aA,cN4]
 change Two k (eJ b [x0,x1,x2,x3] (aUw (aIx w) (aGn w) (aIi w))) _
 rw[show aUw (w.toList==Av.toList) (w.toList==Aw.toList) (w.toList==Ax.toList)=aUw (aIx w) (aGn w) (aIi w) from rfl];generalize aUw (aIx w) (aGn w) (aIi w)=q;generalize hT:((bT b).1,(bT b).2++[(x0,x1,x2,x3,q)])=t;have h1:t.1=(bT b).1:=by rw[<- hT]
 have h2:t.2.length=(bT b).2.length+1:=by rw[<- hT];simp
 have ht':eR t:=⟨by rw[h1];exact ht.as,by omega⟩
 have eg:=bS6 (t:=t) h ht' (.inl (by rw[h1];exact hp.symm));rw[zX (show t.1.length=(bP b).length by rw[h1];exact hp.symm)]at eg;have ec:eO b.1=U b.1:=aUn ht.sm;have ec':lZ b.1=U b.1:=aUz ht.sm;have ap1:aF 40 b.1.2.length 1=X:=aC (by decide) (show (bT b).2.length+1<=_ by omega);have hT':(b.1.1,b.1.2++[(x0,x1,x2,x3,q)])=t:=hT;have hsnd:b.1.2++[(x0,x1,x2,x3,q)]=t.2:=congrArg Prod.snd hT';unfold eJ toL aFc pj2 aL zz4;rw[show idx [x0,x1,x2,x3] (0:Int)=U x0 from rfl,show idx [x0,x1,x2,x3] (1:Int)=U x1 from rfl,show idx [x0,x1,x2,x3] (2:Int)=U x2 from rfl,show idx [x0,x1,x2,x3] (3:Int)=U x3 from rfl];simp only[aD,ec,ec',aA,ap1,zZ,hT'];cases cv:mM t with
 | false=>
  rw[cv]at eg;refine⟨okS Y,b,?_,?_,aC5 _,h.next⟩
  .rw[eg];rfl
  .rw[aFo ht'.sm,cv];rfl
 | true=>
  rw[cv]at eg;refine⟨okS X,bQh b t (bP b),?_,?_,aC5 _,h.topw (by rw[h1];exact ha) (by omega) (by rw[h1];exact hp)⟩
  .rw[eg];rfl
  .rw[aFo ht'.sm,cv,hsnd,show b.1.1=t.1 from h1.symm];rfl
def inB(b:den aT)(k:Db):q2:=
 (b.1.1,b.1.2,k.1,k.2,b.2.2.2.1,b.2.2.2.2.1.1,b.2.2.2.2.1.2,b.2.2.2.2.2.1.1,b.2.2.2.2.2.1.2,b.2.2.2.2.2.2.1.1,b.2.2.2.2.2.2.1.2.1,b.2.2.2.2.2.2.1.2.2,b.2.2.2.2.2.2.2.1,b.2.2.2.2.2.2.2.2.1,b.2.2.2.2.2.2.2.2.2.1,b.2.2.2.2.2.2.2.2.2.2.1,b.2.2.2.2.2.2.2.2.2.2.2.1,b.2.2.2.2.2.2.2.2.2.2.2.2)
abbrev K8:={k:Db // KH 8 k}
noncomputable def aLf(t:den tTo)(a:K8)(x:den tSg):K8:=⟨aM6 t a.1 x,cIq a.2⟩
def cLb(b:den aT)(k:Db):den aT:=(b.1,k,b.2.2)
def bPu{k:Nat}{b:den aT}(h:BI k b)(hk:k<=80):Two k (pP b) (zQ (toL b)):=by
 have ht:=h.top hk;have ha:=h.as;have hp:=h.pol;have hd:=h.db;obtain⟨st,e1,e2,e3,e4⟩:=cE8 (t:=bT b) (l:=bP b) ht (by omega) (by omega) (bN b);obtain⟨j,f1,f2,f3,f4⟩:=bS4 (t:=bT b) (l:=bP b) (b:=(bN b,st)) ht (by omega) e3 e4;unfold kN at f3;have ec:dY j.1=U j.1:=aHu (aGl (by omega) f4.1);have run:∀(l:lSg) (a:K8),(∀x∈l,x.2.2.length<=10)->l.length<=96->kN a.1+l.length<=10000->
   kN (l.foldl (aLf (bT b)) a).1<=kN a.1+l.length:=by
  intro l
  induction l with
  | nil=>intro a _ _ _;exact cM5 _
  | cons x l ih=>
   intro a h1 h2 h3;have :=aZl (bT b) a.1 x;rw[cM8]at h2 h3;have :=ih (aLf (bT b) a x) (λy hy=>h1 y (cM4 _ hy)) (by omega) (by show kN (aM6 (bT b) a.1 x)+_<=_;omega);rw[cOf,cM8];have e:kN (aLf (bT b) a x).1=kN (aM6 (bT b) a.1 x):=rfl;omega
 let a0:K8:=⟨bK b,h.hops⟩
 have hb:∀x∈j.1++j.2,x.2.2.length<=10:=λx hx=>(cM3.1 hx).elim (f4.1 x) (f4.2 x)
 have hn:((j.1++j.2).length)<=96:=by rw[cNa];exact f3
 let a1:=j.1.foldl (aLf (bT b)) a0
 let a2:=(j.1++j.2).foldl (aLf (bT b)) a0
 have g2:=run (j.1++j.2) a0 hb hn (by show kN (bK b)+_<=_;omega);have g1:=run j.1 a0 (λx hx=>hb x (cM3.2 (.inl hx))) (by omega) (by show kN (bK b)+_<=_;omega);have ea:a2=j.2.foldl (aLf (bT b)) a1:=List.foldl_append;have h0:kN (bK b)<=7680:=by omega
 refine⟨eQ (wr ((a2.1.1.length:Int)+(a2.1.2.length:Int))),cLb b a2.1,?_,?_,by have :=iO (wr ((a2.1.1.length:Int)+(a2.1.2.length:Int)));omega,⟨h.as,by have :=h.links;show (bT b).2.length<=_;omega,?_,a2.2,hp,h.net.mono (by omega)⟩⟩
 .unfold pP dd ixb aHz aPi pj2 pj3 pj6 zz4 zz5 zz6 zz7;simp only[aD];rw[show cZ b.1 b.2.2.1 b.2.2.2.1=_ from e1];simp only[aA];rw[show cM b.1 b.2.2.1 (b.2.2.2.1,st)=_ from f1];simp only[aA,bB,cB,bL,bJ,bO,ec,aC (b:=40) (n:=j.1.length) (m:=j.2.length) (by decide) (by omega),zZ];rw[(jG (λn (a:K8)=>((n:Int),inB b a.1)) ((0:Int),b.1.1,b.1.2,b.2.1.1,b.2.1.2,b.2.2.2.1,b.2.2.2.2.1.1,b.2.2.2.2.1.2,b.2.2.2.2.2.1.1,b.2.2.2.2.2.1.2,b.2.2.2.2.2.2.1.1,b.2.2.2.2.2.2.1.2.1,b.2.2.2.2.2.2.1.2.2,b.2.2.2.2.2.2.2) a0 (j.1++j.2) (λ_ x a=>aLf (bT b) a x) (λa=>kN a.1) (λ_=>1) 10000 (λa=>inB b a.1) rfl (by omega) (by rw[cS];show kN (bK b)+_<=_;omega) (λn x a hi hx hd hw hk hb'=>by
   have hx':=hb x (cMw hx);have e:=cI8 (t:=bT b) (k:=a.1) (s:=x) ht (by omega) (a.2.mono (by decide)) hx';refine⟨?_,aZl _ _ _⟩;simp only[inB,hd,bF,zZ,cMt,hx,aA,aD,hw];rw[show uL b.1 a.1 x=_ from e];rfl) (λa=>by simp)).1,rO (aLf (bT b))]
  simp only[aA];show Option.bind (sR (a2.1.1,a2.1.2)) _=_;unfold sR;simp only[aA,aOk];rfl
 .unfold zQ toL dd ixb aHz aPi pj2 pj3 pj6 zz4 zz5 zz6 zz7;simp only[aD];rw[show dA b.1 b.2.2.1 b.2.2.2.1=_ from e2];simp only[aA];rw[show dL b.1 b.2.2.1 (b.2.2.2.1,st)=_ from f2];simp only[aA,bB,cB,bL,bJ,bO];rw[(jG (λn (a:K8)=>((n:Int),inB b a.1)) ((0:Int),b.1.1,b.1.2,b.2.1.1,b.2.1.2,b.2.2.2.1,b.2.2.2.2.1.1,b.2.2.2.2.1.2,b.2.2.2.2.2.1.1,b.2.2.2.2.2.1.2,b.2.2.2.2.2.2.1.1,b.2.2.2.2.2.2.1.2.1,b.2.2.2.2.2.2.1.2.2,b.2.2.2.2.2.2.2) a0 j.1 (λ_ x a=>aLf (bT b) a x) (λa=>kN a.1) (λ_=>1) 10000 (λa=>inB b a.1) rfl (by omega) (by rw[cS];show kN (bK b)+_<=_;omega) (λn x a hi hx hd hw hk hb'=>by
   have hx':=f4.1 x (cMw hx);have e:=bUc (t:=bT b) (k:=a.1) (s:=x) ht (by omega) (a.2.mono (by decide)) hx';refine⟨?_,aZl _ _ _⟩;simp only[inB,hd,bF,zZ,cMt,hx,aA,aD,hw];rw[show oH b.1 a.1 x=_ from e];rfl) (λa=>by simp)).1,rO (aLf (bT b))]
  simp only[aA];rw[(jG (λn (a:K8)=>((n:Int),inB b a.1)) ((0:Int),inB b a1.1) a1 j.2 (λ_ x a=>aLf (bT b) a x) (λa=>kN a.1) (λ_=>1) 10000 (λa=>inB b a.1) rfl (by omega) (by rw[cS];show kN a1.1+_<=_;have :kN a1.1<=kN (bK b)+j.1.length:=g1;omega) (λn x a hi hx hd hw hk hb'=>by
   have hx':=f4.2 x (cMw hx);have e:=bUc (t:=bT b) (k:=a.1) (s:=x) ht (by omega) (a.2.mono (by decide)) hx';refine⟨?_,aZl _ _ _⟩;simp only[inB,hd,bF,zZ,cMt,hx,aA,aD,hw];rw[show oH b.1 a.1 x=_ from e];rfl) (λa=>by simp)).1,rO (aLf (bT b)),<- ea]
  simp only[aA];show Option.bind (sW (a2.1.1,a2.1.2)) _=_;unfold sW;simp only[aA,aRa];rfl
 .have :kN a2.1<=kN (bK b)+(j.1++j.2).length:=g2;show kN a2.1<=_;omega
def bK0:∀{a b x y:List UInt8},(∀c∈a,c≠32)->(∀c∈b,c≠32)->a++32::x=b++32::y->a=b/\x=y
 | [],[],_,_,_,_,h=>⟨rfl,(cOl.inj h).2⟩
 | [],b::bs,_,_,_,hb,h=>absurd (cOl.inj h).1.symm (hb b (by simp))
 | a::as,[],_,_,ha,_,h=>absurd (cOl.inj h).1 (ha a (by simp))
 | a::as,b::bs,_,_,ha,hb,h=>by
  have h1:=cOl.inj h;have h2:=bK0 (λc hc=>ha c (cM4 _ hc)) (λc hc=>hb c (cM4 _ hc)) h1.2;exact⟨by rw[h1.1,h2.1],h2.2⟩
def bH7:∀(k:Nat) (n:Int) (a:List Int),a.length+1<=(sA (k+1) n a).length
 | 0,n,a=>by
  unfold sA;cases wr (cNj n 10)==(0:Int) with
  | true=>simp
  | false=>unfold sA;simp
 | k+1,n,a=>by
  unfold sA;cases wr (cNj n 10)==(0:Int) with
  | true=>simp
  | false=>
   have :=bH7 k (wr (cNj n 10)) ([aKa n]++a);rw[cNa,cOd]at this;show _<=(sA (k+1) _ _).length;omega
def bVt{n:Nat}(h:10<=n)(h2:n<=1000000):2<=(eQ (n:Int)).size:=by
 unfold eQ;rw[zW (by omega),zY,aIu];unfold sA;have e:cNj (n:Int) 10=((n / 10:Nat):Int):=rfl;have hq:wr (cNj (n:Int) 10)=((n / 10:Nat):Int):=by rw[e];exact wri (by omega) (by omega)
 rw[hq,beq_false_of_ne (show ((n / 10:Nat):Int)≠0 by omega),zY];exact bH7 20 ((n / 10:Nat):Int) ([aKa (n:Int)]++[])
def bI5:∀{n:Nat},n<10->(eQ (n:Int)).data.toList=[48+UInt8.ofNat n]
 | 0,_=>by decide
 | 1,_=>by decide
 | 2,_=>by decide
 | 3,_=>by decide
 | 4,_=>by decide
 | 5,_=>by decide
 | 6,_=>by decide
 | 7,_=>by decide
 | 8,_=>by decide
 | 9,_=>by decide
 | n+10,h=>by omega
def cDw:∀n<10,∀d<10,(48+UInt8.ofNat n=48+UInt8.ofNat d)->n=d:=by decide
def cmp{w cmd aGw:ByteArray}{n d:Nat}(hw:∀c∈w.data.toList,c≠32)(hn:n<=1000000)(hc:∀c∈cmd.data.toList,c≠32)(hd:d<10)(hf:aGw.data.toList=cmd.data.toList++[32,48+UInt8.ofNat d]):
  (((w++Af)++eQ (n:Int)).toList==aGw.toList)=(w.toList==cmd.toList&&D (n=d)):=by
 rw[bl,bl,bl,bl,hf,cNe,cMu,beq_iff_eq,beq_iff_eq,zR];have e:((w++Af)++eQ (n:Int)).data.toList=w.data.toList++32::(eQ (n:Int)).data.toList:=by simp
 rw[e];constructor
 .intro h;obtain⟨h1,h2⟩:=bK0 hw hc h;refine⟨h1,?_⟩
  by_cases hlt:n<10
  .rw[bI5 hlt]at h2;exact cDw _ hlt _ hd (cOl.inj h2).1
  .have h3:=bVt (n:=n) (by omega) hn;rw[<- oR,h2]at h3;exact absurd h3 (by simp)
 .rintro⟨h1,h2⟩
  rw[h1,h2,bI5 hd]
def aAu{w a b:ByteArray}(h:(w.toList==a.toList)=X)(hab:(a.data.toList==b.data.toList)=Y):(w.toList==b.toList)=Y:=by
 rw[bl,bl,beq_iff_eq]at h;rw[bl,bl,h];exact hab
def bO7(w:ByteArray):Int:=cond (w.toList==AA.toList) 2 (cond (w.toList==AB.toList) 3 (cond (w.toList==AC.toList) 4 (cond (w.toList==AD.toList) 5 (cond (w.toList==AE.toList) 6 (cond (w.toList==AH.toList) 9 0)))))
def bYo(a b:List UInt8):(a==b)=(b==a):=by rw[cNe,beq_iff_eq,beq_iff_eq];exact eq_comm
def cIg(w:ByteArray):aDp w=U (bO7 w):=by
 have n1:cI 1=U An:=by rfl
 have n2:cI 2=U AA:=by rfl
 have n3:cI 3=U AB:=by rfl
 have n4:cI 4=U AC:=by rfl
 have n5:cI 5=U AD:=by rfl
 have n6:cI 6=U AE:=by rfl
 have n7:cI 7=U AF:=by rfl
 have n8:cI 8=U AG:=by rfl
 have n9:cI 9=U AH:=by rfl
 unfold aDp bO7;simp only[bYo w.toList];rw[aP (s':=(2:Int)) (by
  show cond _ (Option.bind (Option.bind (cI 1) _) _) _=_;rw[n1];cases h:(An.toList==w.toList)<;>simp only[aA,h]<;>rfl)]
 cases h2:(AA.toList==w.toList) with
 | true=>rw[aI (r:= .inr (2:Int)) (by
   show cond _ (Option.bind (Option.bind (cI 2) _) _) _=_;rw[n2];simp only[aA,h2];rfl)];rfl
 | false=>
  rw[aP (s':=(3:Int)) (by
   show cond _ (Option.bind (Option.bind (cI 2) _) _) _=_;rw[n2];simp only[aA,h2];rfl)]
  cases h3:(AB.toList==w.toList) with
  | true=>rw[aI (r:= .inr (3:Int)) (by
    show cond _ (Option.bind (Option.bind (cI 3) _) _) _=_;rw[n3];simp only[aA,h3];rfl)];rfl
  | false=>
   rw[aP (s':=(4:Int)) (by
    show cond _ (Option.bind (Option.bind (cI 3) _) _) _=_;rw[n3];simp only[aA,h3];rfl)]
   cases h4:(AC.toList==w.toList) with
   | true=>rw[aI (r:= .inr (4:Int)) (by
     show cond _ (Option.bind (Option.bind (cI 4) _) _) _=_;rw[n4];simp only[aA,h4];rfl)];rfl
   | false=>
    rw[aP (s':=(5:Int)) (by
     show cond _ (Option.bind (Option.bind (cI 4) _) _) _=_;rw[n4];simp only[aA,h4];rfl)]
    cases h5:(AD.toList==w.toList) with
    | true=>rw[aI (r:= .inr (5:Int)) (by
      show cond _ (Option.bind (Option.bind (cI 5) _) _) _=_;rw[n5];simp only[aA,h5];rfl)];rfl
    | false=>
     rw[aP (s':=(6:Int)) (by
      show cond _ (Option.bind (Option.bind (cI 5) _) _) _=_;rw[n5];simp only[aA,h5];rfl)]
     cases h6:(AE.toList==w.toList) with
     | true=>rw[aI (r:= .inr (6:Int)) (by
       show cond _ (Option.bind (Option.bind (cI 6) _) _) _=_;rw[n6];simp only[aA,h6];rfl)];rfl
     | false=>
      rw[aP (s':=(7:Int)) (by
       show cond _ (Option.bind (Option.bind (cI 6) _) _) _=_;rw[n6];simp only[aA,h6];rfl),aP (s':=(8:Int)) (by
       show cond _ (Option.bind (Option.bind (cI 7) _) _) _=_;rw[n7];cases h:(AF.toList==w.toList)<;>simp only[aA,h]<;>rfl),aP (s':=(9:Int)) (by
       show cond _ (Option.bind (Option.bind (cI 8) _) _) _=_;rw[n8];cases h:(AG.toList==w.toList)<;>simp only[aA,h]<;>rfl)]
      cases h9:(AH.toList==w.toList) with
      | true=>rw[aI (r:= .inr (9:Int)) (by
        show cond _ (Option.bind (Option.bind (cI 9) _) _) _=_;rw[n9];simp only[aA,h9];rfl)];rfl
      | false=>
       rw[aP (s':=(10:Int)) (by
        show cond _ (Option.bind (Option.bind (cI 9) _) _) _=_;rw[n9];simp only[aA,h9];rfl),aI (r:= .inl ()) (by rfl)]
       rfl
abbrev AnB:=ByteArray×den aT
def tT(p:AnB):Option q5:=U (aE9 p.1 p.2)
def aIq(k:Nat)(p:AnB):Prop:=p.1.size<=100000000000/\BI (k+1) p.2
def aTj{k:Nat}{p:AnB}(h:aIq k p):Two k (tT p) (tT p):=⟨p.1,p.2,rfl,rfl,h.1,h.2⟩
def cL0(b:den aT)(p:dE):den aT:=(b.1,b.2.1,p,b.2.2.2)
def bHw(b:den aT)(x0 x1 x2 x3 x4:Int):AnB:=cond (cK (bT b) x0&&aHe (x1,x3,x4,x2)) (okS X,cL0 b ((bP b).set x0.toNat (x1,x3,x4,x2))) (okS Y,b)
def bU5{k:Nat}{b:den aT}(h:BI k b)(x0 x1 x2 x3 x4:Int):aIq k (bHw b x0 x1 x2 x3 x4):=by
 unfold bHw;cases cK (bT b) x0&&aHe (x1,x3,x4,x2) with
 | false=>exact⟨aC5 Y,h.next⟩
 | true=>exact⟨aC5 X,⟨h.as,by have :=h.links;show (bT b).2.length<=_;omega,by have :=h.db;show kN (bK b)<=_;omega,h.hops,by show cMy (List.set _ _ _)=_;rw[cOv];exact h.pol,h.net.mono (by omega)⟩⟩
def cFx{k:Nat}{b:den aT}(h:BI k b)(hk:k<=80)(x0 x1 x2 x3 x4:Int):jR b [x0,x1,x2,x3,x4]=tT (bHw b x0 x1 x2 x3 x4):=by
 have ha:=h.as;have hp:=h.pol;unfold jR bHw pj2 pj6 zz4 zz5 zz6 zz7;rw[show idx [x0,x1,x2,x3,x4] (0:Int)=U x0 from rfl,show idx [x0,x1,x2,x3,x4] (1:Int)=U x1 from rfl,show idx [x0,x1,x2,x3,x4] (2:Int)=U x2 from rfl,show idx [x0,x1,x2,x3,x4] (3:Int)=U x3 from rfl,show idx [x0,x1,x2,x3,x4] (4:Int)=U x4 from rfl];simp only[aD,aA,bLd];rw[show fT b.1 x0=U (cK (bT b) x0) from aBy (show (bT b).1.length<=_ by omega),aA];cases c:cK (bT b) x0 with
 | false=>rfl
 | true=>
  cases aHe (x1,x3,x4,x2) with
  | false=>rfl
  | true=>
   obtain⟨g0,g1⟩:=bQ.1 c;have hlt:x0<(b.2.2.1.length:Int):=by show x0<((bP b).length:Int);rw[hp];omega
   have hlt2:x0.toNat<b.2.2.1.length:=by omega
   simp only[cMp,zY,aA,zX g0,zX hlt,zX hlt2,zZ];rfl
def cHg{k:Nat}{b:den aT}(h:BI k b){x0:Int}(h0:0<=x0):D (x0>=(b.2.2.1.length:Int))= !cK (bT b) x0:=by
 have hp:=h.pol;have e:(b.2.2.1.length:Int)=((bT b).1.length:Int):=by rw[<- hp]
 rw[e];unfold cK;cases c:inR x0 0 (((bT b).1.length:Int) - 1) with
 | true=>obtain⟨g0,g1⟩:=bQ.1 c;exact zW (by omega)
 | false=>exact zX (by have :=aUu.1 c;omega)
noncomputable def bUa(b:den aT)(x y:Int):AnB:=(eQ ((hH (bT b) (bK b) x y (bN b)).length:Int),b)
def bJl{k:Nat}{b:den aT}(h:BI k b)(x y:Int):aIq k (bUa b x y):=⟨cMo (iO ((hH (bT b) (bK b) x y (bN b)).length:Int)) (by decide),h.next⟩
def BI.find{k:Nat}{b:den aT}(h:BI k b)(hk:k<=80)(x y:Int):hZ b.1 b.2.1 x y b.2.2.2.1=U (hH (bT b) (bK b) x y (bN b))/\fO b.1 b.2.1 x y b.2.2.2.1=U (hH (bT b) (bK b) x y (bN b)):=by
 have ha:=h.as;have hl:=h.links;exact⟨bCk (t:=bT b) (k:=bK b) (by omega) (by omega) (h.dbs hk) x y (bN b),bBb (t:=bT b) (k:=bK b) (by omega) (by omega) (h.dbs hk) x y (bN b)⟩
def bHh{k:Nat}{b:den aT}(h:BI k b)(hk:k<=80)(x y:Int):mK b x y=U (hH (bT b) (bK b) x y (bN b),(aE9 Aa b).2):=by
 unfold mK pj2 pj6 zz4 zz5 zz6 zz7;simp only[aD];rw[(h.find hk x y).1];rfl
noncomputable def aYw(b:den aT)(x y i:Int):AnB:=(cond (D (i>=((uI (hH (bT b) (bK b) x y (bN b))).length:Int))) bZh (aSb (bT b) (((uI (hH (bT b) (bK b) x y (bN b)))[i.toNat]?).getD [])),b)
def aRb{k:Nat}{b:den aT}(h:BI k b)(hk:k<=80)(x y:Int):tot (.sl tPt) (hH (bT b) (bK b) x y (bN b))<=672/\tot (.sl tPt) (uI (hH (bT b) (bK b) x y (bN b)))<=672:=by
 have h1:=bDv (bAr (t:=bT b) (h.dbs hk) x y (bN b));have h2:=aN7 (hH (bT b) (bK b) x y (bN b));exact⟨by omega,by omega⟩
def bN9{t:den tTo}{p:den tPt}(h:tot tPt p<=1000):(aSb t p).size<=100000000000:=by
 have h1:=aTt ((iA p).map (aHb t));have h2:=aM8 (l:=(iA p).map (aHb t)) (c:=150) λx hx=>by
  obtain⟨y,_,rfl⟩:=cMs.1 hx;exact aZu t y
 have :=aB9 p;rw[cNg]at h2;unfold aSb;omega
def aW8{k:Nat}{b:den aT}(h:BI k b)(hk:k<=80){x y i:Int}(h0:0<=i)(hi:D (i>=((uI (hH (bT b) (bK b) x y (bN b))).length:Int))=Y):∃p:den tPt,idx (uI (hH (bT b) (bK b) x y (bN b))) i=U p/\(uI (hH (bT b) (bK b) x y (bN b)))[i.toNat]? =U p/\tot tPt p<=1000:=by
 have hlt:=of_decide_eq_false hi;have hg:(uI (hH (bT b) (bK b) x y (bN b)))[i.toNat]? =U _:=cMz (by omega);refine⟨_,aI7 h0 hg,hg,?_⟩;have :=kA (t:=tPt) (cMw hg);have :=(aRb h hk x y).2;omega
def bO5{k:Nat}{b:den aT}(h:BI k b)(hk:k<=80){x y i:Int}(h0:0<=i):aIq k (aYw b x y i):=by
 refine⟨?_,h.next⟩;unfold aYw;cases c:D (i>=((uI (hH (bT b) (bK b) x y (bN b))).length:Int)) with
 | true=>exact (by decide:4<=100000000000)
 | false=>
  obtain⟨p,_,e2,e3⟩:=aW8 h hk h0 c;rw[e2];exact bN9 e3
def cC2{k:Nat}{b:den aT}(h:BI k b)(hk:k<=80){x y i:Int}(h0:0<=i):tI b x y i=tT (aYw b x y i):=by
 unfold tI aYw aFc pj2 aL zz4;simp only[aD];rw[show mK b x y=_ from bHh h hk x y];simp only[aA];rw[bLh (cMo (aRb h hk x y).1 (by decide)),aA];cases c:D (i>=((uI (hH (bT b) (bK b) x y (bN b))).length:Int)) with
 | true=>rfl
 | false=>
  obtain⟨p,e1,e2,e3⟩:=aW8 h hk h0 c;rw[zY,e1,e2,aA];show Option.bind (tX (bT b) p) _=_;rw[cE6 (h.top hk) e3];rfl
def aZ5(b:den aT)(x:Int):AnB:=cond (D (x>(1000000:Int))) (okS Y,b) (okS X,(b.1,b.2.1,b.2.2.1,x,b.2.2.2.2))
def bNz{k:Nat}{b:den aT}(h:BI k b)(x:Int):aIq k (aZ5 b x):=by
 unfold aZ5;cases D (x>(1000000:Int)) with
 | true=>exact⟨aC5 Y,h.next⟩
 | false=>exact⟨aC5 X,⟨h.as,by have :=h.links;show (bT b).2.length<=_;omega,by have :=h.db;show kN (bK b)<=_;omega,h.hops,h.pol,h.net.mono (by omega)⟩⟩
def aLh(b:den aT)(x:Int):den tNw:=cond (aOq (bT b) (bN b)) ((bT b),(bK b),(cond (inR x 1 20) x 1,[],[]),bN b,[],[],[],[],0) (([],[]),([],[]),(0,[],[]),0,[],[],[],[],0)
def bGk{l:lSg}(h:∀s∈l,s.2.2.length<=8):tot (.sl tSg) l<=9 * l.length:=aSa λs hs=>by
 have e:tot tSg s=s.2.2.length:=by
  show _+(_+tot (.sl cH) s.2.2)=_;rw[qS rfl];simp[tot]
 have :=h s hs;omega
def bM2{w:den tNw}(h1:bS w=[])(h2:aG w=[]):sY w:=⟨λx hx=>(cNr (h1▸hx)).elim,λx hx=>(cNr (h2▸hx)).elim⟩
def aW4(t:den tTo)(k:den tDb)(c n d:Int)(ht:t.1.length+t.2.length<=1000)(hk:DbS k)(hn:k.1.length+k.2.length<=100000):NB 1000000 (t,k,(c,[],[]),n,[],[],[],[],d):=by
 have h1:tot (.sl tSg) k.1<=9 * k.1.length:=bGk hk.hd1;have h2:tot (.sl tSg) k.2<=9 * k.2.length:=bGk hk.hc1;have h3:tot (.sl tAS) t.1=t.1.length:=qS rfl;have h4:tot (.sl tLk) t.2=t.2.length:=qS rfl;refine⟨⟨?_,cM7 _,bM2 rfl rfl⟩,λx hx=>(cNr hx).elim,⟨by show t.1.length<=_;omega,by show t.2.length<=_;omega,hk⟩⟩;rw[dX];show (tot (.sl tAS) t.1+tot (.sl tLk) t.2)+((tot (.sl tSg) k.1+tot (.sl tSg) k.2)+((0+(tot (.sl tRs) []+tot (.sl tUs) []))+(0+(tot (.sl ti) []+(tot (.sl tFy) []+(tot (.sl tFl) []+(tot (.sl tIb) []+0)))))))<=1000000;have z1:tot (.sl tRs) []=0:=rfl;have z2:tot (.sl tUs) []=0:=rfl;have z3:tot (.sl ti) []=0:=rfl;have z4:tot (.sl tFy) []=0:=rfl;have z5:tot (.sl tFl) []=0:=rfl;have z6:tot (.sl tIb) []=0:=rfl;omega
def bBr{k:Nat}{b:den aT}(h:BI k b)(hk:k<=80)(x:Int):NB 1000000 (aLh b x):=by
 have ha:=h.as;have hl:=h.links;have hd:=h.db;unfold aLh;cases aOq (bT b) (bN b) with
 | true=>exact aW4 _ _ _ _ _ (by omega) (h.dbs hk) (by unfold kN at hd;omega)
 | false=>exact aW4 ([],[]) ([],[]) _ _ _ (by simp) ⟨by simp,by simp,λs hs=>(cNr hs).elim,λs hs=>(cNr hs).elim⟩ (by simp)
def aS3(b:den aT)(x:Int):AnB:=(okS (aFe (aLh b x)),aP6 b (aLh b x))
def bJ4{k:Nat}{b:den aT}(h:BI k b)(hk:k<=80)(x:Int):aIq k (aS3 b x):=⟨aC5 _,h.netw ((bBr h hk x).mono (by omega))⟩
def bQ6{b:den aT}(x:Int):cond (aOq (bT b) (bN b)) (cond (inR x 1 20) x 1,bN b,(0:Int),(bT b).1,(bT b).2,(bK b).1,(bK b).2,([]:lRs),([]:lUs),([]:List Int),([]:lFy),([]:lFl),([]:lIb)) (0,0,0,[],[],[],[],[],[],[],[],[],[])=aGx (aLh b x):=by
 unfold aLh;cases aOq (bT b) (bN b)<;>rfl
def bV9{k:Nat}{b:den aT}(h:BI k b)(hk:k<=80)(x:Int):vO b x=tT (aS3 b x):=by
 have hs:SmB 549755813888 tDb (bK b):=by
  have hd:=h.db;unfold kN at hd;exact⟨aGl (by omega) (λs hs=>cMo (h.hops.1 s hs) (by decide)),aGl (by omega) (λs hs=>cMo (h.hops.2 s hs) (by decide))⟩
 have e:=cGn (c:=x) (now:=bN b) (h.top hk).sm hs;unfold vO aS3 pj2 aS bA bZ zz4 zz5 zz6 zz7 zz8 zz9;simp only[aD];rw[show tV b.1 b.2.1 x b.2.2.2.1=U (aGx (aLh b x)) from e.trans (congrArg U (bQ6 x)),aA];show Option.bind (gP (aLh b x)) _=_;rw[bG9 (cMo (bBr h hk x).keep.tot (by decide)),aA];unfold pJ;cases aFe (aLh b x)<;>rfl
def cJp{k:Nat}{b:den aT}(h:BI k b)(hk:k<=80)(x:Int):rS b.1 b.2.1 x b.2.2.2.1=U (aGx (aLh b x)):=by
 have hs:SmB 549755813888 tDb (bK b):=by
  have hd:=h.db;unfold kN at hd;exact⟨aGl (by omega) (λs hs=>cMo (h.hops.1 s hs) (by decide)),aGl (by omega) (λs hs=>cMo (h.hops.2 s hs) (by decide))⟩
 exact (cH1 (c:=x) (now:=bN b) (h.top hk).sm hs).trans (congrArg U (bQ6 x))
noncomputable def bFb(b:den aT)(x y:Int):AnB:=(okS (!aAx (bW b) (x,y,0,0,[],[],0,0,[])),aP6 b (aXd (bW b) (x,y,0,0,[],[],0,0,[])))
def bNa{k:Nat}{b:den aT}(h:BI k b)(x y:Int):aIq k (bFb b x y):=⟨aC5 _,h.netw ((bJz h.net (f:=(x,y,0,0,[],[],0,0,[])) (by rw[aEu];simp[tot]) rfl).mono (by omega))⟩
noncomputable def aUs(b:den aT)(n:Int):AnB:=(aSh (jJ (bW b) n),aP6 b (jJ (bW b) n))
def aTz{k:Nat}{b:den aT}(h:BI k b)(n:Int):aIq k (aUs b n):=by
 have hn:NB (1000000+330000000 * (k+1)) (jJ (bW b) n):=(bFu h.net).mono (by omega);exact⟨cMo (bD0 hn) (by decide),h.netw hn⟩
def bTd{k:Nat}{b:den aT}(h:BI k b)(hk:k<=80)(n:Int):eM (aP6 b (jJ (bW b) n))=tT (aUs b n):=by
 have hn:NB (1000000+330000000 * (k+1)) (jJ (bW b) n):=(bFu h.net).mono (by omega);exact bS7 (b:=aP6 b (jJ (bW b) n)) hn (by omega)
def bT3{k:Nat}{b:den aT}(h:BI k b)(hk:k<=80)(n:Int):jF (jJ (bW b) n)=U (aSh (jJ (bW b) n)):=by
 have hn:NB (1000000+330000000 * (k+1)) (jJ (bW b) n):=(bFu h.net).mono (by omega);exact bT6 hn (by omega)
def BI.tot{k:Nat}{b:den aT}(h:BI k b)(hk:k<=80):tot tNw (bW b)<=34000000000:=cMo h.net.keep.tot (BI.big hk)
def bRr{k:Nat}{b:den aT}(h:BI k b):aIq k (aSh (bW b),b):=⟨cMo (bD0 h.net) (by decide),h.next⟩
def bUq{k:Nat}{b:den aT}(h:BI k b)(hk:k<=80)(i:Int):aIq k (aW5 (bW b) i,b):=⟨cMo (bTa h.net (BI.big hk) i) (by decide),h.next⟩
def aUh(b:Bool):ByteArray:=cond b Ag Ae
def bQ3(y:Bool):(aUh y).size<=100000000000:=by
 cases y
 .exact (by decide:2<=100000000000)
 .exact (by decide:3<=100000000000)
def bHn{k:Nat}{b:den aT}(h:BI k b)(y:Bool):aIq k (aUh y,b):=⟨bQ3 y,h.next⟩
def bQ1{t:den tTo}(h:t.2.length<=100):(aTl t).size<=100000000000:=by
 have h1:=aTt (t.2.map (aF0 t));have h2:=aM8 (l:=t.2.map (aF0 t)) (c:=230) λx hx=>by
  obtain⟨y,_,rfl⟩:=cMs.1 hx;exact bD6 t y
 rw[cNg]at h2;unfold aTl;omega
def bTl{k:Nat}{b:den aT}(h:BI k b)(hk:k<=80):aIq k (aTl (bT b),b):=⟨bQ1 (by have :=h.links;omega),h.next⟩
def evN(kind n:Int)(d:List Int):den yG:=(kind,n,d,((0:Int),(0:Int),((0:Int),(0:Int),(0:Int),[],(0:Int),(0:Int),(0:Int),(0:Int),(0:Int),[])))
def bF4{kind n:Int}{d:List Int}(h:d.length<=5000)(hb:aE1 d):EvX (evN kind n d):=⟨⟨h,hb⟩,by simp[evN,tot],λx hx=>(cNr hx).elim⟩
noncomputable def aIl(b:den aT)(w:ByteArray)(l:List Int):Option q5:=
 cond (w.toList==Av.toList&&D (l.length=1)) (Option.bind (idx l (0:Int)) λx=>mI b X x)<|
 cond (w.toList==AI.toList&&D (l.length=1)) (Option.bind (idx l (0:Int)) λx=>mI b Y x)<|
 cond (w.toList==AQ.toList&&D (l.length=5)) (jR b l)<|
 cond (w.toList==Am.toList&&D (l.length=0)) (pP b)<|
 cond (w.toList==AJ.toList&&D (l.length=1)) (Option.bind (idx l (0:Int)) λx=>tT (aZ5 b x))<|
 cond (w.toList==AN.toList&&D (l.length=2)) (Option.bind (idx l (0:Int)) λx=>Option.bind (idx l (1:Int)) λy=>tT (bUa b x y))<|
 cond (w.toList==AO.toList&&D (l.length=3)) (Option.bind (idx l (0:Int)) λx=>Option.bind (idx l (1:Int)) λy=>Option.bind (idx l (2:Int)) λz=>tI b x y z)<|
 cond (w.toList==AK.toList&&D (l.length=1)) (Option.bind (idx l (0:Int)) λx=>tT (aS3 b x))<|
 cond (w.toList==AP.toList&&D (l.length=2)) (Option.bind (idx l (0:Int)) λx=>Option.bind (idx l (1:Int)) λy=>tT (bFb b x y))<|
 cond (w.toList==AH.toList&&D (l.length=1)) (Option.bind (idx l (0:Int)) λx=>cT b (evN 9 x []))<|
 cond (w.toList==An.toList&&D (l.length=0)) (cT b (evN 1 0 []))<|
 cond (w.toList==AA.toList&&D (l.length=1)) (Option.bind (idx l (0:Int)) λx=>cT b (evN 2 x []))<|
 cond (w.toList==AB.toList&&D (l.length=1)) (Option.bind (idx l (0:Int)) λx=>cT b (evN 3 x []))<|
 cond (w.toList==AC.toList&&D (l.length=1)) (Option.bind (idx l (0:Int)) λx=>cT b (evN 4 x []))<|
 cond (w.toList==AD.toList&&D (l.length=1)) (Option.bind (idx l (0:Int)) λx=>cT b (evN 5 x []))<|
 cond (w.toList==AE.toList&&D (l.length=1)) (Option.bind (idx l (0:Int)) λx=>cT b (evN 6 x []))<|
 cond (w.toList==AL.toList&&D (l.length=1)) (Option.bind (idx l (0:Int)) λx=>tT (aUs b x))<|
 cond (w.toList==Ao.toList&&D (l.length=0)) (tT (aUs b (wr (8+aAq (bW b)))))<|
 cond (w.toList==Ap.toList&&D (l.length=0)) (tT (aSh (bW b),b))<|
 cond (w.toList==AM.toList&&D (l.length=1)) (Option.bind (idx l (0:Int)) λx=>mA b x)<|
 cond (w.toList==Aq.toList&&D (l.length=0)) (tT (aUh ((aG (bW b)).all (aF8 (bW b))),b))<|
 cond (w.toList==Ar.toList&&D (l.length=0)) (tT (aUh (aQv (bW b)),b))<|
 cond (w.toList==As.toList&&D (l.length=0)) (tT (aTl (bT b),b))<|
 tT (aDd,b)
def gV{α:Type}{c:Bool}{x x' y y':α}(h1:x=x')(h2:y=y'):cond c x y=cond c x' y':=by rw[h1,h2]
def cF2{k:Nat}{b:den aT}(h:BI k b)(hk:k<=80){w:ByteArray}(hw:∀c∈w.data.toList,c≠32)(hs:w.size<=1000000){l:List Int}(hl:l.length<=1000000):oB b w l=aIl b w l:=by
 have f:=iO (l.length:Int);have C:=λ(aGw cmd:ByteArray) (d:Nat) (hc:∀c∈cmd.data.toList,c≠32) (hd:d<10) (hf:aGw.data.toList=cmd.data.toList++[32,48+UInt8.ofNat d])=>cmp (w:=w) (cmd:=cmd) (aGw:=aGw) (n:=l.length) (d:=d) hw hl hc hd hf
 unfold oB aK aFc pj2 iK pj6 aL aS bA bZ dR zz4 zz5 zz6 zz7 zz8 zz9;rw[show D (w.size+Af.size<=maxLen)=X from fit (b:=sp1) (by show w.size+1<=_;omega),aOk,aA,show D ((w++Af).size+(eQ (l.length:Int)).size<=maxLen)=X from fit (a:=w++sp1) (by rw[ByteArray.size_append];show (w.size+1)+_<=_;omega),zZ,zZ];rw[C AU Av 1 (by decide) (by decide) (by decide),
  C AV AI 1 (by decide) (by decide) (by decide),
  C AW AQ 5 (by decide) (by decide) (by decide),
  C AX Am 0 (by decide) (by decide) (by decide),
  C AY AJ 1 (by decide) (by decide) (by decide),
  C AZ AN 2 (by decide) (by decide) (by decide),
  C Ba AO 3 (by decide) (by decide) (by decide),
  C Bb AK 1 (by decide) (by decide) (by decide),
  C Bc AP 2 (by decide) (by decide) (by decide),
  C Bd AH 1 (by decide) (by decide) (by decide),
  C Be An 0 (by decide) (by decide) (by decide),
  C Bf AA 1 (by decide) (by decide) (by decide),
  C Bg AB 1 (by decide) (by decide) (by decide),
  C Bh AC 1 (by decide) (by decide) (by decide),
  C Bi AD 1 (by decide) (by decide) (by decide),
  C Bj AE 1 (by decide) (by decide) (by decide),
  C Bk AL 1 (by decide) (by decide) (by decide),
  C Bl Ao 0 (by decide) (by decide) (by decide),
  C Bm Ap 0 (by decide) (by decide) (by decide),
  C Bn AM 1 (by decide) (by decide) (by decide),
  C Bo Aq 0 (by decide) (by decide) (by decide),
  C Bp Ar 0 (by decide) (by decide) (by decide),
  C Bq As 0 (by decide) (by decide) (by decide)]
 unfold aIl;simp only[aD];refine gV ?_ (gV ?_ (gV ?_ (gV ?_ (gV ?_ (gV ?_ (gV ?_ (gV ?_ (gV ?_ (gV ?_ (gV ?_ (gV ?_ (gV ?_ (gV ?_ (gV ?_ (gV ?_ (gV ?_ (gV ?_ (gV ?_ (gV ?_ (gV ?_ (gV ?_ (gV ?_ (rfl)))))))))))))))))))))))
 .first | rfl | (simp only[Option.bind_fun_some,evN]) | (simp only[Option.bind_fun_some,evN];rfl)
 .first | rfl | (simp only[Option.bind_fun_some,evN]) | (simp only[Option.bind_fun_some,evN];rfl)
 .first | rfl | (simp only[Option.bind_fun_some,evN]) | (simp only[Option.bind_fun_some,evN];rfl)
 .first | rfl | (simp only[Option.bind_fun_some,evN]) | (simp only[Option.bind_fun_some,evN];rfl)
 .cases idx l (0:Int) with
  | none=>rfl
  | some x=>
   unfold aZ5;simp only[aA];cases D (x>(1000000:Int))<;>rfl
 .cases idx l (0:Int) with
  | none=>rfl
  | some x=>cases idx l (1:Int) with
   | none=>rfl
   | some y=>
    simp only[aA];rw[bHh h hk,aA,aOk,aA];rfl
 .first | rfl | (simp only[Option.bind_fun_some,evN]) | (simp only[Option.bind_fun_some,evN];rfl)
 .cases idx l (0:Int) with
  | none=>rfl
  | some x=>
   simp only[aA];rw[bV9 h hk];rfl
 .cases idx l (0:Int) with
  | none=>rfl
  | some x=>cases idx l (1:Int) with
   | none=>rfl
   | some y=>
    simp only[aA,bB,cB,bL,bJ,bO];rw[show aD4 x y 0=U (x,y,0,0,0,0,[],[],[]) from rfl,aA];rw[show wK b.2.2.2.2 _=U (aO2 (aXd (bW b) (x,y,0,0,[],[],0,0,[])) (!aAx (bW b) (x,y,0,0,[],[],0,0,[]))) from cHd h.net (BI.big hk) (by rw[aEu];simp[tot])];unfold bFb pJ;simp only[aA,aO2];cases aAx (bW b) (x,y,0,0,[],[],0,0,[])<;>rfl
 .first | rfl | (simp only[Option.bind_fun_some,evN]) | (simp only[Option.bind_fun_some,evN];rfl)
 .first | rfl | (simp only[Option.bind_fun_some,evN]) | (simp only[Option.bind_fun_some,evN];rfl)
 .first | rfl | (simp only[Option.bind_fun_some,evN]) | (simp only[Option.bind_fun_some,evN];rfl)
 .first | rfl | (simp only[Option.bind_fun_some,evN]) | (simp only[Option.bind_fun_some,evN];rfl)
 .first | rfl | (simp only[Option.bind_fun_some,evN]) | (simp only[Option.bind_fun_some,evN];rfl)
 .first | rfl | (simp only[Option.bind_fun_some,evN]) | (simp only[Option.bind_fun_some,evN];rfl)
 .first | rfl | (simp only[Option.bind_fun_some,evN]) | (simp only[Option.bind_fun_some,evN];rfl)
 .cases idx l (0:Int) with
  | none=>rfl
  | some x=>
   simp only[aA];rw[show rG b.2.2.2.2 x=U (aGx (jJ (bW b) x)) from bRo (h.tot hk) h.net.keep.bytes,aA];show Option.bind (eM (aP6 b (jJ (bW b) x))) _=_;rw[bTd h hk];rfl
 .rw[show aD5 b.2.2.2.2=U (aGx (jJ (bW b) (wr (8+aAq (bW b))))) from cI2 (h.tot hk) h.net.keep.bytes,aA];show Option.bind (eM (aP6 b (jJ (bW b) _))) _=_;rw[bTd h hk];rfl
 .rw[show eM b=_ from bS7 h.net (BI.big hk)];rfl
 .first | rfl | (simp only[Option.bind_fun_some,evN]) | (simp only[Option.bind_fun_some,evN];rfl)
 .rw[show pK b.2.2.2.2=_ from cEr (w:=bW b) (cMo (h.tot hk) (by decide)),aA];unfold pJ aUh;cases (bW b).2.2.2.2.2.2.1.all (aF8 (bW b))<;>rfl
 .rw[show aD8 b.2.2.2.2=_ from cIu (w:=bW b) (cMo (h.tot hk) (by decide)),aA];unfold pJ aUh;cases aQv (bW b)<;>rfl
 .rw[show mF b.1=_ from cGg (h.top hk),aA];rfl
def qJ{k:Nat}{p:AnB}{o o':Option q5}(h:aIq k p)(e:o=tT p)(e':o'=tT p):Two k o o':=by
 subst e;subst e';exact aTj h
def bDb:aE1 []:=λx hx=>(cNr hx).elim
def bIj{k:Nat}{b:den aT}(h:BI k b)(hk:k<=80)(w:ByteArray):Two k (aIl b w []) (zB (toL b) w):=by
 unfold aIl zB toL pj2 iK pj6 aL aS bA bZ zz4 zz5 zz6 zz7 zz8 zz9;simp only[cNd,cPl,decide_false,decide_true,cNz,cO0,zY,aD,Option.bind_fun_some,reduceCtorEq,Nat.zero_ne_one];cases w.toList==Am.toList with
 | true=>exact bPu h hk
 | false=>
  rw[zY,zY];cases w.toList==An.toList with
  | true=>exact aSi h hk (bF4 (cM7 _) bDb)
  | false=>
   rw[zY,zY];cases w.toList==Ao.toList with
   | true=>
    refine qJ (aTz h _) rfl ?_;rw[zZ,show aEv b.2.2.2.2=U (gY (jJ (bW b) (wr (8+aAq (bW b))))) from cIl (h.tot hk) h.net.keep.bytes,aA];show Option.bind (jF (jJ (bW b) _)) _=_;rw[bT3 h hk];rfl
   | false=>
    rw[zY,zY];cases w.toList==Ap.toList with
    | true=>
     refine qJ (bRr h) rfl ?_;rw[zZ,show jF b.2.2.2.2=_ from bT6 h.net (BI.big hk),aA];rfl
    | false=>
     rw[zY,zY];cases w.toList==Aq.toList with
     | true=>
      refine qJ (bHn h _) rfl ?_;rw[zZ,show pQ b.2.2.2.2=_ from cEo (w:=bW b) (cMo (h.tot hk) (by decide)),aA];unfold aEq aUh;cases (bW b).2.2.2.2.2.2.1.all (aF8 (bW b))<;>rfl
     | false=>
      rw[zY,zY];cases w.toList==Ar.toList with
      | true=>
       refine qJ (bHn h _) rfl ?_;rw[zZ,show aEw b.2.2.2.2=_ from cH8 (w:=bW b) (cMo (h.tot hk) (by decide)),aA];unfold aEq aUh;cases aQv (bW b)<;>rfl
      | false=>
       rw[zY,zY];cases w.toList==As.toList with
       | true=>
        refine qJ (bTl h hk) rfl ?_;rw[zZ,show mD b.1=_ from cHh (h.top hk),aA];rfl
       | false=>exact aEr h aDd (by decide)
def cDe{k:Nat}{b:den aT}(h:BI k b)(hk:k<=80)(w:ByteArray){x:Int}(h0:0<=x):Two k (aIl b w [x]) (aF3 (toL b) w x):=by
 unfold aIl aF3 toL eG pj2 iK pj6 aL aS bA bZ zz4 zz5 zz6 zz7 zz8 zz9;rw[show idx [x] (0:Int)=U x from rfl];simp only[cM8,cNd,Nat.reduceAdd,cPl,decide_false,decide_true,cNz,cO0,zY,aD,Option.bind_fun_some,reduceCtorEq,Nat.zero_ne_one,Nat.one_ne_zero,aA,cIg];cases c1:w.toList==Av.toList with
 | true=>exact bD8 h hk X x
 | false=>
  rw[zY,zY,aA];cases c2:w.toList==AI.toList with
  | true=>exact bD8 h hk Y x
  | false=>
   rw[zY,zY];cases c3:w.toList==AJ.toList with
   | true=>
    refine qJ (bNz h x) rfl ?_;unfold aZ5;cases D (x>(1000000:Int))<;>rfl
   | false=>
    rw[zY,zY];cases c4:w.toList==AK.toList with
    | true=>
     refine qJ (bJ4 h hk x) rfl ?_;simp only[zZ,bB,cB,bL,bJ,bO];rw[show rS b.1 b.2.1 x b.2.2.2.1=_ from cJp h hk x,aA];show Option.bind (gQ (aLh b x)) _=_;rw[bFx (cMo (bBr h hk x).keep.tot (by decide)),aA];unfold aAo aS3;cases aFe (aLh b x)<;>rfl
    | false=>
     rw[zY,zY];unfold bO7;cases c5:w.toList==AL.toList with
     | true=>
      refine qJ (aTz h x) ?_ ?_
      .rw[aAu (b:=AH) c5 (by decide),aAu (b:=AA) c5 (by decide),aAu (b:=AB) c5 (by decide),aAu (b:=AC) c5 (by decide),aAu (b:=AD) c5 (by decide),aAu (b:=AE) c5 (by decide)];rfl
      .rw[zZ,show rT b.2.2.2.2 x=U (gY (jJ (bW b) x)) from bRk (h.tot hk) h.net.keep.bytes,aA];show Option.bind (jF (jJ (bW b) x)) _=_;rw[bT3 h hk];rfl
     | false=>
      cases c6:w.toList==AM.toList with
      | true=>
       refine qJ (bUq h hk x) ?_ ?_
       .rw[aAu (b:=AH) c6 (by decide),aAu (b:=AA) c6 (by decide),aAu (b:=AB) c6 (by decide),aAu (b:=AC) c6 (by decide),aAu (b:=AD) c6 (by decide),aAu (b:=AE) c6 (by decide)];exact cG7 h.net (BI.big hk) h0
       .rw[zY,zZ,show aEs b.2.2.2.2 x=_ from cGe h.net (BI.big hk) h0,aA];rfl
      | false=>
       simp only[zY];have ev:=λq:Int=>aSi (e:=evN q x []) h hk (bF4 (cM7 _) bDb)
       cases d1:w.toList==AH.toList with
       | true=>
        rw[aAu (b:=AA) d1 (by decide),aAu (b:=AB) d1 (by decide),aAu (b:=AC) d1 (by decide),aAu (b:=AD) d1 (by decide),aAu (b:=AE) d1 (by decide)];exact ev 9
       | false=>
        cases w.toList==AA.toList with
        | true=>exact ev 2
        | false=>
         cases w.toList==AB.toList with
         | true=>exact ev 3
         | false=>
          cases w.toList==AC.toList with
          | true=>exact ev 4
          | false=>
           cases w.toList==AD.toList with
           | true=>exact ev 5
           | false=>
            cases w.toList==AE.toList with
            | true=>exact ev 6
            | false=>exact aEr h aDd (by decide)
def bIb{k:Nat}{b:den aT}(h:BI k b)(hk:k<=80)(w:ByteArray):∀{l:List Int},(∀x∈l,0<=x)->l≠[]->Two k (aIl b w l) (oF (toL b) w l)
 | [],_,hn=>absurd rfl hn
 | [x],h0,_=>by
  unfold oF aK pj2 iK pj6 aL aS bA bZ dR zz4 zz5 zz6 zz7 zz8 zz9;rw[show (([x].length:Int)==(1:Int))=X from rfl,zZ,show idx [x] (0:Int)=U x from rfl,aA];simp only[aD,Option.bind_fun_some];exact cDe h hk w (h0 x (by simp))
 | [x,y],h0,_=>by
  unfold aIl oF toL aK pj2 iK pj6 aL aS bA bZ dR zz4 zz5 zz6 zz7 zz8 zz9;rw[show (([x,y].length:Int)==(1:Int))=Y from rfl,show (([x,y].length:Int)==(2:Int))=X from rfl,show (([x,y].length:Int)==(3:Int))=Y from rfl,show (([x,y].length:Int)==(5:Int))=Y from rfl,show idx [x,y] (0:Int)=U x from rfl,show idx [x,y] (1:Int)=U y from rfl];simp only[cM8,cNd,Nat.reduceAdd,cPl,decide_false,decide_true,cNz,cO0,zY,aD,aA,reduceCtorEq];cases w.toList==AN.toList with
  | true=>
   refine qJ (bJl h x y) rfl ?_;rw[zZ,aA,zZ,show fO b.1 b.2.1 x y b.2.2.2.1=_ from (h.find hk x y).2,aA,aRa];rfl
  | false=>
   simp only[zY,aA];cases w.toList==AO.toList<;>simp only[zY,zZ,aA]<;>cases w.toList==AP.toList
   case true.false=>cases w.toList==AQ.toList<;>exact aEr h aDd (by decide)
   case false.false=>cases w.toList==AQ.toList<;>exact aEr h aDd (by decide)
   all_goals
    refine qJ (bNa h x y) rfl ?_;simp only[zZ,bB,cB,bL,bJ,bO,aA];rw[show aDo x y 0=U (x,y,0,0,0,0,[],[],[]) from rfl,aA];rw[show wS b.2.2.2.2 _=U (aO2 (aXd (bW b) (x,y,0,0,[],[],0,0,[])) (!aAx (bW b) (x,y,0,0,[],[],0,0,[]))) from cId h.net (BI.big hk) (by rw[aEu];simp[tot])];unfold bFb aAo;simp only[aA,aO2];cases aAx (bW b) (x,y,0,0,[],[],0,0,[])<;>rfl
 | [x,y,z],h0,_=>by
  unfold aIl oF toL aK pj2 iK pj6 aL aS bA bZ dR zz4 zz5 zz6 zz7 zz8 zz9;rw[show (([x,y,z].length:Int)==(1:Int))=Y from rfl,show (([x,y,z].length:Int)==(2:Int))=Y from rfl,show (([x,y,z].length:Int)==(3:Int))=X from rfl,show (([x,y,z].length:Int)==(5:Int))=Y from rfl,show idx [x,y,z] (0:Int)=U x from rfl,show idx [x,y,z] (1:Int)=U y from rfl,show idx [x,y,z] (2:Int)=U z from rfl];simp only[cM8,cNd,Nat.reduceAdd,cPl,decide_false,decide_true,cNz,cO0,zY,aD,aA,reduceCtorEq];have hz:=h0 z (by simp);cases w.toList==AN.toList<;>simp only[zY,zZ,aA]<;>cases w.toList==AO.toList
  case true.false=>cases w.toList==AP.toList<;>cases w.toList==AQ.toList<;>exact aEr h aDd (by decide)
  case false.false=>cases w.toList==AP.toList<;>cases w.toList==AQ.toList<;>exact aEr h aDd (by decide)
  all_goals
   refine qJ (bO5 h hk hz) (cC2 h hk hz) ?_;unfold aYw;rw[zZ,aA,zZ,show fO b.1 b.2.1 x y b.2.2.2.1=_ from (h.find hk x y).2,aA,bKq (cMo (aRb h hk x y).1 (by decide)),aA];cases c:D (z>=((uI (hH (bT b) (bK b) x y (bN b))).length:Int)) with
   | true=>rfl
   | false=>
    obtain⟨p,e1,e2,e3⟩:=aW8 h hk hz c;rw[zY,e1,e2,aA,show uF b.1 p=_ from cD0 (h.top hk) e3];rfl
 | [x,y,z,u],h0,_=>by
  unfold aIl oF toL aK pj2 iK pj6 aL aS bA bZ dR zz4 zz5 zz6 zz7 zz8 zz9;rw[show (([x,y,z,u].length:Int)==(1:Int))=Y from rfl,show (([x,y,z,u].length:Int)==(2:Int))=Y from rfl,show (([x,y,z,u].length:Int)==(3:Int))=Y from rfl,show (([x,y,z,u].length:Int)==(5:Int))=Y from rfl];simp only[cM8,cNd,Nat.reduceAdd,cPl,decide_false,decide_true,cNz,cO0,zY,aD,aA,reduceCtorEq];cases w.toList==AN.toList<;>cases w.toList==AO.toList<;>cases w.toList==AP.toList<;>cases w.toList==AQ.toList<;>exact aEr h aDd (by decide)
 | [x0,x1,x2,x3,x4],h0,_=>by
  unfold aIl oF toL aK pj2 iK pj6 aL aS bA bZ dR zz4 zz5 zz6 zz7 zz8 zz9;rw[show (([x0,x1,x2,x3,x4].length:Int)==(1:Int))=Y from rfl,show (([x0,x1,x2,x3,x4].length:Int)==(2:Int))=Y from rfl,show (([x0,x1,x2,x3,x4].length:Int)==(3:Int))=Y from rfl,show (([x0,x1,x2,x3,x4].length:Int)==(5:Int))=X from rfl];simp only[cM8,cNd,Nat.reduceAdd,cPl,decide_false,decide_true,cNz,cO0,zY,aD,aA,reduceCtorEq];have hz:=h0 x0 (by simp);have ep:mP (x1,x3,x4,x2)=U (aHe (x1,x3,x4,x2)):=bKy _;cases w.toList==AN.toList<;>cases w.toList==AO.toList<;>cases w.toList==AP.toList<;>simp only[zY,zZ,aA]<;>cases w.toList==AQ.toList
  any_goals exact aEr h aDd (by decide)
  all_goals
   refine qJ (bU5 h x0 x1 x2 x3 x4) (cFx h hk x0 x1 x2 x3 x4) ?_;unfold bHw;rw[zZ,aA,zZ,show idx [x0,x1,x2,x3,x4] (0:Int)=U x0 from rfl,show idx [x0,x1,x2,x3,x4] (1:Int)=U x1 from rfl,show idx [x0,x1,x2,x3,x4] (2:Int)=U x2 from rfl,show idx [x0,x1,x2,x3,x4] (3:Int)=U x3 from rfl,show idx [x0,x1,x2,x3,x4] (4:Int)=U x4 from rfl];simp only[aA,ep,cHg h hz];cases c:cK (bT b) x0 with
   | false=>rfl
   | true=>
    cases aHe (x1,x3,x4,x2) with
    | false=>rfl
    | true=>
     obtain⟨g0,g1⟩:=bQ.1 c;have hp:=h.pol;have hlt:x0<(b.2.2.1.length:Int):=by show x0<((bP b).length:Int);rw[hp];omega
     have hlt2:x0.toNat<b.2.2.1.length:=by omega
     simp only[cMp,zY,aA,zX g0,zX hlt,zX hlt2,zZ];rfl
 | x0::x1::x2::x3::x4::x5::r,h0,_=>by
  have e:∀d:Nat,d<6->D ((x0::x1::x2::x3::x4::x5::r).length=d)=Y:=λd hd=>zW (by simp only[cM8];omega)
  have e':∀d:Nat,d<6->(((x0::x1::x2::x3::x4::x5::r).length:Int)==(d:Int))=Y:=λd hd=>beq_false_of_ne (by simp only[cM8];omega)
  unfold aIl oF toL aK pj2 iK pj6 aL aS bA bZ dR zz4 zz5 zz6 zz7 zz8 zz9;rw[show (((x0::x1::x2::x3::x4::x5::r).length:Int)==(1:Int))=Y from e' 1 (by decide),show (((x0::x1::x2::x3::x4::x5::r).length:Int)==(2:Int))=Y from e' 2 (by decide),show (((x0::x1::x2::x3::x4::x5::r).length:Int)==(3:Int))=Y from e' 3 (by decide),show (((x0::x1::x2::x3::x4::x5::r).length:Int)==(5:Int))=Y from e' 5 (by decide)];simp only[e 0 (by decide),e 1 (by decide),e 2 (by decide),e 3 (by decide),e 5 (by decide),cNz,zY,aA];cases w.toList==AN.toList<;>cases w.toList==AO.toList<;>cases w.toList==AP.toList<;>cases w.toList==AQ.toList<;>exact aEr h aDd (by decide)
def okW(x:ByteArray):Bool:=(aK9 x).2
def vlW(x:ByteArray):Int:=(aK9 x).1
def bEq{ws:List ByteArray}{bad:List Int->List Int}{step:Int×List Int->Option ((Int×List Int)⊕(List Int⊕(Bool×List Int)))}
  (h:∀(k:Nat) (x:ByteArray) (a:List Int),ws[k]? =U x->k<ws.length->a.length=k->step ((k:Int),a)=U (cond (!okW x) (.inr (.inr (Y,bad a))) (.inl (((k+1:Nat):Int),a++[vlW x])))) (he:∀a,step ((ws.length:Int),a)=U (.inr (.inl a))):
  ∀(rest pre:List ByteArray),pre++rest=ws->(rest.all okW=X->aB step ((pre.length:Int),pre.map vlW)=U (.inl (ws.map vlW)))/\(rest.all okW=Y-> ∃l,aB step ((pre.length:Int),pre.map vlW)=U (.inr (Y,l)))
 | [],pre,hp=>by
  rw[cNn]at hp;subst hp;exact⟨λ_=>aI (he _),λc=>absurd c (by simp)⟩
 | x::rest,pre,hp=>by
  have hx:ws[pre.length]? =U x:=by rw[<- hp];simp
  have hs:=h pre.length x (pre.map vlW) hx (by rw[<- hp];simp) (by simp);have ih:=bEq h he rest (pre++[x]) (by rw[<- hp];simp);rw[cNa,cOd,cO2]at ih;cases c:okW x with
  | false=>
   rw[c]at hs;exact⟨λg=>absurd g (by simp[c]),λ_=>⟨_,aI hs⟩⟩
  | true=>
   rw[c]at hs;rw[aP hs];simp only[List.all_cons,c,cM1];exact ih
def bHy{ws:List ByteArray}{bad:List Int->List Int}{step:Int×List Int->Option ((Int×List Int)⊕(List Int⊕(Bool×List Int)))}
  (h:∀(k:Nat) (x:ByteArray) (a:List Int),ws[k]? =U x->k<ws.length->a.length=k->step ((k:Int),a)=U (cond (!okW x) (.inr (.inr (Y,bad a))) (.inl (((k+1:Nat):Int),a++[vlW x])))) (he:∀a,step ((ws.length:Int),a)=U (.inr (.inl a))):
  (ws.all okW=X->Option.bind (aB step ((0:Int),[])) (λz=>cMq (λs7=>U (X,s7)) U z)=U (X,ws.map vlW))/\(ws.all okW=Y-> ∃l,Option.bind (aB step ((0:Int),[])) (λz=>cMq (λs7=>U (X,s7)) U z)=U (Y,l)):=by
 have key:=bEq h he ws [] rfl;exact⟨λg=>by rw[show ((0:Int),([]:List Int))=((([]:List ByteArray).length:Int),([]:List ByteArray).map vlW) from rfl,key.1 g];rfl,λg=>by
  obtain⟨l,e⟩:=key.2 g;exact⟨l,by rw[show ((0:Int),([]:List Int))=((([]:List ByteArray).length:Int),([]:List ByteArray).map vlW) from rfl,e];rfl⟩⟩
def aZk{ws:List ByteArray}(hl:ws.length<=1000000):(ws.all okW=X->tD ws=U (X,ws.map vlW))/\(ws.all okW=Y-> ∃l,tD ws=U (Y,l)):=by
 unfold tD;exact bHy (bad:=λ_=>[]) (λk x a hx hk ha=>by
  have e:idx ws (k:Int)=U x:=by rw[aR];exact hx
  simp only[zX (show (k:Int)<(ws.length:Int) by omega),zZ,e,aA,bRt];cases c:(aK9 x).2 with
  | false=>simp only[okW,c];rfl
  | true=>
   have hw:wr ((k:Int)+1)=((k+1:Nat):Int):=(wri (by omega) (by omega)).trans (by omega);simp only[okW,c,cMp,zY,aC (b:=8) (n:=a.length) (m:=1) (by decide) (by omega),zZ,hw];rfl) (λa=>by simp)
def aY0{ws:List ByteArray}(hl:ws.length<=1000000):(ws.all okW=X->aAh ws=U (X,ws.map vlW))/\(ws.all okW=Y-> ∃l,aAh ws=U (Y,l)):=by
 unfold aAh;exact bHy (bad:=id) (λk x a hx hk ha=>by
  have e:idx ws (k:Int)=U x:=by rw[aR];exact hx
  simp only[zX (show (k:Int)<(ws.length:Int) by omega),zZ,e,aA,bRh];cases c:(aK9 x).2 with
  | false=>simp only[okW,c];rfl
  | true=>
   have hw:wr ((k:Int)+1)=((k+1:Nat):Int):=(wri (by omega) (by omega)).trans (by omega);simp only[okW,c,cMp,zY,aC (b:=8) (n:=a.length) (m:=1) (by decide) (by omega),zZ,hw];rfl) (λa=>by simp)
def bRa{ws:List ByteArray}(h:ws.all okW=X):∀x∈ws.map vlW,0<=x:=λx hx=>by
 obtain⟨w,hw,rfl⟩:=cMs.1 hx;have :=List.all_eq_true.1 h w hw;exact (bXc (s:=w) (n:=vlW w) (Prod.ext rfl this)).1
def aT3:List ByteArray:=[Av,AI,AQ,Am,AJ,AN,AO,AK,AP,AH,An,AA,AB,AC,AD,AE,AL,Ao,Ap,AM,Aq,Ar,As]
def bL4{b:den aT}{w:ByteArray}{l:List Int}(E:∀x∈aT3,(w.toList==x.toList)=Y):aIl b w l=tT (aDd,b):=by
 unfold aIl;have e:=λ(i:Nat) (x:ByteArray) (hx:aT3[i]? =U x)=>E x (cMw hx)
 rw[e 0 Av rfl,e 1 AI rfl,e 2 AQ rfl,e 3 Am rfl,e 4 AJ rfl,e 5 AN rfl,e 6 AO rfl,e 7 AK rfl,e 8 AP rfl,e 9 AH rfl,e 10 An rfl,e 11 AA rfl,e 12 AB rfl,e 13 AC rfl,e 14 AD rfl,e 15 AE rfl,e 16 AL rfl,e 17 Ao rfl,e 18 Ap rfl,e 19 AM rfl,e 20 Aq rfl,e 21 Ar rfl,e 22 As rfl];rfl
def aI5:ByteArray:=AG
def aJd:ByteArray:=AR
def bLn{w:ByteArray}(h:(w.toList==aI5.toList)=X\/(w.toList==aJd.toList)=X):∀x∈aT3,(w.toList==x.toList)=Y:=by
 have h1:∀x∈aT3,(aI5.data.toList==x.data.toList)=Y:=by decide
 have h2:∀x∈aT3,(aJd.data.toList==x.data.toList)=Y:=by decide
 intro x hx;rcases h with h | h
 .exact aAu h (h1 x hx)
 .exact aAu h (h2 x hx)
def bL7{k:Nat}{p:AnB}{o:Option q5}(h:Two k (tT p) o):o=tT p:=by
 obtain⟨s,b,e1,e2,_⟩:=h;rw[e2,e1]
def bYp{k:Nat}{b:den aT}(h:BI k b)(hk:k<=80){w:ByteArray}(hw:(w.toList==aI5.toList)=X\/(w.toList==aJd.toList)=X):zB (toL b) w=tT (aDd,b):=
 bL7 (k:=k) (by have :=bIj h hk w;rwa [bL4 (bLn hw)]at this)
def bVs{k:Nat}{b:den aT}(h:BI k b)(hk:k<=80){w:ByteArray}(hw:(w.toList==aI5.toList)=X\/(w.toList==aJd.toList)=X){l:List Int}(h0:∀x∈l,0<=x)(hn:l≠[]):oF (toL b) w l=tT (aDd,b):=
 bL7 (k:=k) (by have :=bIb h hk w h0 hn;rwa [bL4 (bLn hw)]at this)
def bIt(b:Int):∀(l cur x:List UInt8),aEp b cur l=[x]->x=cur++l
 | [],cur,x,h=>by
  unfold aEp at h;rw[cNn];exact (cOl.inj h).1.symm
 | y::l,cur,x,h=>by
  unfold aEp at h;cases c:(y.toNat:Int)==b with
  | true=>
   rw[c,zZ]at h;have h1:=(cOl.inj h).2;have h2:=bCc b l [];rw[h1]at h2;exact absurd h2 (by simp)
  | false=>
   rw[c,zY]at h;have :=bIt b l (cur++[y]) x h;rw[this,cNp];rfl
def bGg{s x:ByteArray}{b:Int}(h:mL s b=[x]):x=s:=by
 unfold mL at h;have hl:(aEp b [] s.data.toList).length=1:=by rw[<- cNg mkS,h];rfl
 obtain⟨y,hy⟩:=List.length_eq_one_iff.1 hl;rw[hy]at h;have h1:mkS y=x:=(cOl.inj h).1;have h2:=bIt b _ _ _ hy;rw[<- h1];apply ByteArray.ext;rw[h2];simp[mkS]
def cEw{s x:ByteArray}(h:x∈mL s 32):∀c∈x.data.toList,c≠32:=by
 unfold mL at h;obtain⟨y,hy,rfl⟩:=cMs.1 h;intro c hc;rw[bWl]at hc;have :=bBn 32 s.data.toList [] (λx hx=>(cNr hx).elim) y hy c hc;intro e;rw[e]at this;exact absurd this (by decide)
def aQa{w:ByteArray}{ws:List ByteArray}:bH (1:Int) ((w::ws).length:Int) ((w::ws).length:Int)=X/\cut (w::ws) (1:Int) ((w::ws).length:Int)=ws:=by
 have h1:=aAz (a:=1) (b:=(w::ws).length) (n:=(w::ws).length);have h2:=aR2 (l:=w::ws) (k:=1) (by simp);refine⟨?_,h2⟩;rw[show ((1:Nat):Int)=1 from rfl]at h1;rw[h1];simp
def bRd(s:ByteArray):aE1 (tY s):=λx hx=>by
 unfold tY at hx;obtain⟨y,_,rfl⟩:=cMs.1 hx;have :=y.toNat_lt;exact⟨by omega,by omega⟩
def bXt(s:ByteArray):(tY s).length=s.size:=by simp[tY]
def aZ7(w:ByteArray)(ws:List ByteArray)(n:Nat):(((w::ws).length:Int)==((n+1:Nat):Int))=D (ws.length=n):=by
 rw[cNe,beq_iff_eq,zR,cM8];omega
def bTs{k:Nat}{b:den aT}(h:BI k b)(hk:k<=80){s w:ByteArray}{ws:List ByteArray}(hs:s.size<=5000)(hp:mL s 32=w::ws)(h4:(w.toList==aJd.toList&&D (ws.length=5))=Y)(h9:(w.toList==aI5.toList&&D (ws.length=2))=Y):
  qR (toL b) s=cond (D (ws.length=0)) (zB (toL b) s) (cond (ws.all okW) (oF (toL b) w (ws.map vlW)) (tT (aDd,b))):=by
 have hl:ws.length<=5000:=by
  have :=(aNb s 32).2;rw[hp,cM8]at this;omega
 unfold qR ixb pj2 iK pj6 aL zz4 zz5 zz6 zz7;rw[aYt (by omega),aA,hp];rw[show (((w::ws).length:Int)==(1:Int))=D (ws.length=0) from aZ7 w ws 0,show (((w::ws).length:Int)==(3:Int))=D (ws.length=2) from aZ7 w ws 2,show (((w::ws).length:Int)==(6:Int))=D (ws.length=5) from aZ7 w ws 5];simp only[aD,Option.bind_fun_some];rw[show D ((0:Int)<((w::ws).length:Int))=X from zX (by rw[cM8];omega),show (w::ws)[(0:Int).toNat]? =U w from rfl,show D ((0:Int)<=(0:Int))=X from rfl];simp only[zZ,aA];cases D (ws.length=0) with
 | true=>rfl
 | false=>
  rw[zY,zY];have e4:cond (w.toList==AR.toList) (U (D (ws.length=5))) (U Y)=U Y:=by
   change (w.toList==AR.toList&&D (ws.length=5))=Y at h4
   cases c:w.toList==AR.toList with
   | true=>rw[c,cM1]at h4;rw[h4];rfl
   | false=>rfl
  have e9:cond (w.toList==AG.toList) (U (D (ws.length=2))) (U Y)=U Y:=by
   change (w.toList==AG.toList&&D (ws.length=2))=Y at h9
   cases c:w.toList==AG.toList with
   | true=>rw[c,cM1]at h9;rw[h9];rfl
   | false=>rfl
  rw[e4,aA,zY,e9,aA,zY,aQa.1,aQa.2,zZ];cases c:ws.all okW with
  | false=>
   obtain⟨l,e⟩:=(aY0 (ws:=ws) (by omega)).2 c;rw[e];rfl
  | true=>
   rw[(aY0 (ws:=ws) (by omega)).1 c];rfl
def cGb{k:Nat}{b:den aT}(h:BI k b)(hk:k<=80){s w:ByteArray}{ws:List ByteArray}(hs:s.size<=5000)(hp:mL s 32=w::ws)(h4:(w.toList==aJd.toList)=Y)(h9:(w.toList==aI5.toList)=Y):
  fJ b s=cond (ws.all okW) (oB b w (ws.map vlW)) (tT (aDd,b)):=by
 have hl:ws.length<=5000:=by
  have :=(aNb s 32).2;rw[hp,cM8]at this;omega
 unfold fJ ixb pj2 iK pj6 aL zz4 zz5 zz6 zz7;rw[aNy (by omega),aA,hp];simp only[aD,Option.bind_fun_some];rw[show D ((0:Int)<((w::ws).length:Int))=X from zX (by rw[cM8];omega),show (w::ws)[(0:Int).toNat]? =U w from rfl,show D ((0:Int)<=(0:Int))=X from rfl];simp only[zZ,aA];rw[show (w.toList==AG.toList)=Y from h9,zY,show (w.toList==AR.toList)=Y from h4,zY,aQa.1,aQa.2,zZ];cases c:ws.all okW with
 | false=>
  obtain⟨l,e⟩:=(aZk (ws:=ws) (by omega)).2 c;rw[e];rfl
 | true=>
  rw[(aZk (ws:=ws) (by omega)).1 c];rfl
def cEs{b:den aT}{s w:ByteArray}{ws:List ByteArray}(hs:s.size<=5000)(hp:mL s 32=w::ws)(h9:(w.toList==aI5.toList)=X)(hn:ws.length≠2):fJ b s=tT (aDd,b):=by
 unfold fJ ixb pj2 iK pj6 aL zz4 zz5 zz6 zz7;rw[aNy (by omega),aA,hp];simp only[aD,Option.bind_fun_some];rw[show D ((0:Int)<((w::ws).length:Int))=X from zX (by rw[cM8];omega),show (w::ws)[(0:Int).toNat]? =U w from rfl,show D ((0:Int)<=(0:Int))=X from rfl];simp only[zZ,aA];rw[show (w.toList==AG.toList)=X from h9,zZ,kJ,show (((w::ws).length:Int)==(3:Int))=D (ws.length=2) from aZ7 w ws 2,zW hn];rfl
def cC4{b:den aT}{s w:ByteArray}{ws:List ByteArray}(hs:s.size<=5000)(hp:mL s 32=w::ws)(h4:(w.toList==aJd.toList)=X)(hn:ws.length≠5):fJ b s=tT (aDd,b):=by
 have h9:(w.toList==aI5.toList)=Y:=aAu h4 (by decide);unfold fJ ixb pj2 iK pj6 aL zz4 zz5 zz6 zz7;rw[aNy (by omega),aA,hp];simp only[aD,Option.bind_fun_some];rw[show D ((0:Int)<((w::ws).length:Int))=X from zX (by rw[cM8];omega),show (w::ws)[(0:Int).toNat]? =U w from rfl,show D ((0:Int)<=(0:Int))=X from rfl];simp only[zZ,aA];rw[show (w.toList==AG.toList)=Y from h9,zY,show (w.toList==AR.toList)=X from h4,zZ,kJ,show (((w::ws).length:Int)==(6:Int))=D (ws.length=5) from aZ7 w ws 5,zW hn];rfl
def cAy{k:Nat}{b:den aT}(h:BI k b)(hk:k<=80){s w:ByteArray}{ws:List ByteArray}(hs:s.size<=5000)(hp:mL s 32=w::ws)(hw:(w.toList==aI5.toList)=X/\ws.length≠2\/(w.toList==aJd.toList)=X/\ws.length≠5):qR (toL b) s=tT (aDd,b):=by
 have hw':(w.toList==aI5.toList)=X\/(w.toList==aJd.toList)=X:=hw.imp And.left And.left;rw[bTs h hk hs hp (by
  rcases hw with ⟨h1,_⟩ | ⟨_,h2⟩
  .rw[aAu h1 (by decide)];rfl
  .rw[zW h2,cNz]) (by
  rcases hw with ⟨_,h2⟩ | ⟨h1,_⟩
  .rw[zW h2,cNz]
  .rw[aAu h1 (by decide)];rfl)]
 cases ws with
 | nil=>
  rw[<- bGg hp];exact bYp h hk hw'
 | cons a r=>
  cases c:(a::r).all okW with
  | false=>rfl
  | true=>exact bVs h hk hw' (bRa c) (by simp)
def bVb{k:Nat}{b:den aT}(h:BI k b)(hk:k<=80){s:ByteArray}(hs:s.size<=5000):Two k (fJ b s) (qR (toL b) s):=by
 obtain⟨w,ws,hp⟩:∃w ws,mL s 32=w::ws:=by
  cases e:mL s 32 with
  | nil=>have :=(aNb s 32).1;rw[e]at this;exact absurd this (by simp)
  | cons w ws=>exact⟨w,ws,rfl⟩
 have hwm:w∈mL s 32:=by rw[hp];simp
 have hno:=cEw hwm;have hsz:=aIe hwm;have hl:ws.length<=5000:=by
  have :=(aNb s 32).2;rw[hp,cM8]at this;omega
 have syn:aIq k (aDd,b):=⟨(by decide:12<=100000000000),h.next⟩
 cases c9:w.toList==aI5.toList with
 | true=>
  by_cases hn:ws.length=2
  .obtain⟨a,x,rfl⟩:∃a x,ws=[a,x]:=by
    match ws,hn with
    | [a,x],_=>exact⟨a,x,rfl⟩
   have hx:x.size<=s.size:=aIe (s:=s) (b:=32) (by rw[hp];simp);have cl:(w.toList==aJd.toList)=Y:=aAu c9 (by decide);unfold fJ qR ixb pj2 iK pj6 aL zz4 zz5 zz6 zz7;rw[aNy (by omega),aA,aYt (by omega),aA,hp];simp only[aD,Option.bind_fun_some];rw[show D ((0:Int)<([w,a,x].length:Int))=X from rfl,show D ((1:Int)<([w,a,x].length:Int))=X from rfl,show D ((2:Int)<([w,a,x].length:Int))=X from rfl,show [w,a,x][(0:Int).toNat]? =U w from rfl,show [w,a,x][(1:Int).toNat]? =U a from rfl,show [w,a,x][(2:Int).toNat]? =U x from rfl,show D ((0:Int)<=(0:Int))=X from rfl,show D ((0:Int)<=(1:Int))=X from rfl,show D ((0:Int)<=(2:Int))=X from rfl,show (([w,a,x].length:Int)==(1:Int))=Y from rfl,show (([w,a,x].length:Int)==(3:Int))=X from rfl,show (([w,a,x].length:Int) != (3:Int))=Y from rfl];simp only[zZ,zY,aA];rw[show (w.toList==AG.toList)=X from c9,show (w.toList==AR.toList)=Y from cl];simp only[zZ,zY,aA,bRt,bRh];cases (aK9 a).2 with
   | false=>
    refine qJ syn ?_ rfl;cases x.toList==Aa.toList<;>rfl
   | true=>
    cases x.toList==Aa.toList with
    | true=>exact aTj syn
    | false=>exact aSi (e:=evN 8 (aK9 a).1 (tY x)) h hk (bF4 (by rw[bXt];omega) (bRd x))
  .rw[cEs hs hp c9 hn,cAy h hk hs hp (.inl ⟨c9,hn⟩)];exact aTj syn
 | false=>
  cases c4:w.toList==aJd.toList with
  | true=>
   by_cases hn:ws.length=5
   .obtain⟨a,x,y,z,q,rfl⟩:∃a x y z q,ws=[a,x,y,z,q]:=by
     match ws,hn with
     | [a,x,y,z,q],_=>exact⟨a,x,y,z,q,rfl⟩
    unfold fJ qR ixb pj2 iK pj6 aL zz4 zz5 zz6 zz7;rw[aNy (by omega),aA,aYt (by omega),aA,hp];simp only[aD,Option.bind_fun_some];rw[show D ((0:Int)<([w,a,x,y,z,q].length:Int))=X from rfl,show [w,a,x,y,z,q][(0:Int).toNat]? =U w from rfl,show D ((0:Int)<=(0:Int))=X from rfl,show (([w,a,x,y,z,q].length:Int)==(1:Int))=Y from rfl,show (([w,a,x,y,z,q].length:Int)==(6:Int))=X from rfl,show (([w,a,x,y,z,q].length:Int) != (6:Int))=Y from rfl,show bH (1:Int) (5:Int) ([w,a,x,y,z,q].length:Int)=X from rfl,show cut [w,a,x,y,z,q] (1:Int) (5:Int)=[a,x,y,z] from rfl,show idx [w,a,x,y,z,q] (5:Int)=U q from rfl];simp only[zZ,zY,aA];rw[show (w.toList==AG.toList)=Y from c9,show (w.toList==AR.toList)=X from c4];simp only[zZ,zY,aA];cases c:[a,x,y,z].all okW with
    | false=>
     obtain⟨l,e⟩:=(aZk (ws:=[a,x,y,z]) (by simp)).2 c;obtain⟨l',e'⟩:=(aY0 (ws:=[a,x,y,z]) (by simp)).2 c;rw[e,e'];simp only[aA];refine qJ syn ?_ rfl;rw[aP (s':=(1:Int)) rfl,aP (s':=(2:Int)) rfl,aP (s':=(3:Int)) rfl,aI (r:= .inl ()) rfl];rfl
    | true=>
     rw[(aZk (ws:=[a,x,y,z]) (by simp)).1 c,(aY0 (ws:=[a,x,y,z]) (by simp)).1 c];simp only[aA,cMp,zY,zZ];have T:=λhw=>bJk h hk (vlW a) (vlW x) (vlW y) (vlW z) (w:=q) hw
     cases d1:aIx q with
     | true=>
      rw[d1]at T;obtain⟨o,b',g1,g2,g3,g4⟩:=T rfl;refine⟨o,b',?_,g2,g3,g4⟩;rw[aI (r:= .inr (aE9 o b')) (by
       show cond (aIx q) _ _=_;rw[d1];show Option.bind (eJ b [vlW a,vlW x,vlW y,vlW z] 1) _=_;rw[show eJ b [vlW a,vlW x,vlW y,vlW z] 1=_ from g1];rfl)]
      rfl
     | false=>
      rw[aP (s':=(1:Int)) (by
       show cond (aIx q) _ _=_;rw[d1];rfl)]
      rw[d1]at T;cases d2:aGn q with
      | true=>
       rw[d2]at T;obtain⟨o,b',g1,g2,g3,g4⟩:=T rfl;refine⟨o,b',?_,g2,g3,g4⟩;rw[aI (r:= .inr (aE9 o b')) (by
        show cond (aGn q) _ _=_;rw[d2];show Option.bind (eJ b [vlW a,vlW x,vlW y,vlW z] 2) _=_;rw[show eJ b [vlW a,vlW x,vlW y,vlW z] 2=_ from g1];rfl)]
       rfl
      | false=>
       rw[aP (s':=(2:Int)) (by
        show cond (aGn q) _ _=_;rw[d2];rfl)]
       rw[d2]at T;cases d3:aIi q with
       | true=>
        rw[d3]at T;obtain⟨o,b',g1,g2,g3,g4⟩:=T rfl;refine⟨o,b',?_,g2,g3,g4⟩;rw[aI (r:= .inr (aE9 o b')) (by
         show cond (aIi q) _ _=_;rw[d3];show Option.bind (eJ b [vlW a,vlW x,vlW y,vlW z] 3) _=_;rw[show eJ b [vlW a,vlW x,vlW y,vlW z] 3=_ from g1];rfl)]
        rfl
       | false=>
        rw[aP (s':=(3:Int)) (by
         show cond (aIi q) _ _=_;rw[d3];rfl),aI (r:= .inl ()) rfl]
        refine qJ syn rfl ?_;exact bV2 b _ (by rw[d1,d2,d3];rfl)
   .rw[cC4 hs hp c4 hn,cAy h hk hs hp (.inr ⟨c4,hn⟩)];exact aTj syn
  | false=>
   rw[cGb h hk hs hp c4 c9,bTs h hk hs hp (by rw[c4];rfl) (by rw[c9];rfl)];cases c:ws.all okW with
   | false=>
    cases ws with
    | nil=>exact absurd c (by simp)
    | cons a r=>exact aTj syn
   | true=>
    rw[zZ,zZ,cF2 h hk hno (by omega) (by rw[cNg];omega)];cases ws with
    | nil=>
     rw[<- bGg hp];exact bIj h hk w
    | cons a r=>exact bIb h hk w (bRa c) (by simp)
def nl1:ByteArray:=AT
def ofB(r:ByteArray×dE×q2):den aT:=
 ((r.2.2.1,r.2.2.2.1),(r.2.2.2.2.1,r.2.2.2.2.2.1),r.2.1,r.2.2.2.2.2.2.1,((r.2.2.2.2.2.2.2.1,r.2.2.2.2.2.2.2.2.1),(r.2.2.2.2.2.2.2.2.2.1,r.2.2.2.2.2.2.2.2.2.2.1),(r.2.2.2.2.2.2.2.2.2.2.2.1,r.2.2.2.2.2.2.2.2.2.2.2.2.1,r.2.2.2.2.2.2.2.2.2.2.2.2.2.1),r.2.2.2.2.2.2.2.2.2.2.2.2.2.2.1,r.2.2.2.2.2.2.2.2.2.2.2.2.2.2.2.1,r.2.2.2.2.2.2.2.2.2.2.2.2.2.2.2.2.1,r.2.2.2.2.2.2.2.2.2.2.2.2.2.2.2.2.2.1,r.2.2.2.2.2.2.2.2.2.2.2.2.2.2.2.2.2.2.1,r.2.2.2.2.2.2.2.2.2.2.2.2.2.2.2.2.2.2.2))
noncomputable def aLw(p:AnB)(s:ByteArray):AnB:=cond (!(s.toList==Aa.toList)) ((fJ p.2 s).elim p λr=>(p.1++(r.1++nl1),ofB r)) p
def b0:den aT:=(([],[]),([],[]),[],0,(([],[]),([],[]),(0,[],[]),0,[],[],[],[],0))
def cKd:BI 0 b0:=⟨cM7 _,cM7 _,cM7 _,⟨λs hs=>(cNr hs).elim,λs hs=>(cNr hs).elim⟩,rfl,(aW4 ([],[]) ([],[]) 0 0 0 (by simp) ⟨by simp,by simp,λs hs=>(cNr hs).elim,λs hs=>(cNr hs).elim⟩ (by simp)).mono (by omega)⟩
noncomputable def cL3(l:List ByteArray):AnB:=l.foldl aLw (Aa,b0)
def sV(s:ByteArray):List ByteArray:=cond ((((mL s 10)[(mL s 10).length - 1]?).getD nl1).toList==Aa.toList) ((mL s 10).take ((mL s 10).length - 1)) (mL s 10)
def cKn:ByteArray:=AS
noncomputable def bFh(s:ByteArray):ByteArray:=cond (D (s.size>4000)||D ((sV s).length>80)) cKn (cL3 (sV s)).1
def aMa{s x:ByteArray}(h:x∈sV s):x∈mL s 10:=by
 unfold sV at h
 revert h
 cases (((mL s 10)[(mL s 10).length - 1]?).getD nl1).toList==Aa.toList with
 | true=>exact λh=>List.mem_of_mem_take h
 | false=>exact id
abbrev aTq(n:Nat)(p:AnB):ByteArray×Int×q12:=
 (p.1,(n:Int),p.2.1.1,p.2.1.2,p.2.2.1.1,p.2.2.1.2,p.2.2.2.2.1,p.2.2.2.2.2.1.1,p.2.2.2.2.2.1.2,p.2.2.2.2.2.2.1.1,p.2.2.2.2.2.2.1.2,p.2.2.2.2.2.2.2.1.1,p.2.2.2.2.2.2.2.1.2.1,p.2.2.2.2.2.2.2.1.2.2,p.2.2.2.2.2.2.2.2.1,p.2.2.2.2.2.2.2.2.2.1,p.2.2.2.2.2.2.2.2.2.2.1,p.2.2.2.2.2.2.2.2.2.2.2.1,p.2.2.2.2.2.2.2.2.2.2.2.2.1,p.2.2.2.2.2.2.2.2.2.2.2.2.2,p.2.2.2.1)
structure Run (k:Nat) (p:AnB):Prop where
 size:p.1.size<=100000000001 * k
 bench:BI k p.2
def aWr{k:Nat}{p:AnB}{s:ByteArray}(h:Run k p)(hk:k<=80)(hs:s.size<=5000):Run (k+1) (aLw p s)/\((s.toList==Aa.toList)=Y-> ∃o b',fJ p.2 s=U (aE9 o b')/\qR (toL p.2) s=U (aE9 o b')/\o.size<=100000000000/\aLw p s=(p.1++(o++nl1),b')):=by
 have hsz:=h.size;have hb:=h.bench.next
 unfold aLw;cases c:s.toList==Aa.toList with
 | true=>exact⟨⟨by show p.1.size<=_;omega,hb⟩,λg=>absurd g (by simp)⟩
 | false=>
  obtain⟨o,b',e1,e2,e3,e4⟩:=bVb h.bench hk hs;rw[e1];refine⟨⟨?_,e4⟩,λ_=>⟨o,b',rfl,e2,e3,rfl⟩⟩;show (p.1++(o++nl1)).size<=_;rw[ByteArray.size_append,ByteArray.size_append];show p.1.size+(o.size+1)<=_;omega
def aV8{S R:Type}{step:S->Option (S⊕R)}{enc:Nat->AnB->S}{out:AnB->R}(l:List ByteArray)(hl:l.length<=80)(hz:∀x∈l,x.size<=5000)
  (h:∀(k:Nat) (x:ByteArray) (p:AnB),l[k]? =U x->k<l.length->Run k p->step (enc k p)=U (.inl (enc (k+1) (aLw p x)))) (he:∀p,step (enc l.length p)=U (.inr (out p))):
  ∀(rest pre:List ByteArray) (p:AnB),pre++rest=l->Run pre.length p->aB step (enc pre.length p)=U (out (rest.foldl aLw p))
 | [],pre,p,hp,hr=>by
  rw[cNn]at hp;subst hp;exact aI (he p)
 | x::rest,pre,p,hp,hr=>by
  have hx:l[pre.length]? =U x:=by rw[<- hp];simp
  have hlt:pre.length<l.length:=by rw[<- hp];simp
  rw[aP (h pre.length x p hx hlt hr)];have hr':=(aWr hr (by omega) (hz x (by rw[<- hp];simp))).1;have ih:=aV8 l hl hz h he rest (pre++[x]) (aLw p x) (by rw[<- hp];simp) (by rw[cNa];exact hr');rw[cNa]at ih;exact ih
def cI7:Run 0 (Aa,b0):=⟨cM5 _,cKd⟩
def aZm{s:ByteArray}(hs:s.size<=1000000000):(cond (D ((0:Int)<=wr (((mL s 10).length:Int) - (1:Int)))) (cond (D (wr (((mL s 10).length:Int) - (1:Int))<((mL s 10).length:Int))) (Option.bind (mL s 10)[(wr (((mL s 10).length:Int) - (1:Int))).toNat]? λx2=>cond (x2.toList==Aa.toList) (cond (bH (0:Int) (wr (((mL s 10).length:Int) - (1:Int))) ((mL s 10).length:Int)) (U (cut (mL s 10) (0:Int) (wr (((mL s 10).length:Int) - (1:Int))))) W) (U (mL s 10))) W) W)=U (sV s):=by
 obtain⟨h1,h2⟩:=aNb s 10;unfold sV;generalize mL s 10=l at *;have hw:wr ((l.length:Int) - 1)=((l.length - 1:Nat):Int):=(wri (by omega) (by omega)).trans (by omega);have hg:l[l.length - 1]? =U (l[l.length - 1]'(by omega)):=cMz (by omega);have sl:=aAz (a:=0) (b:=l.length - 1) (n:=l.length);rw[show ((0:Nat):Int)=0 from rfl,zX (cM7 _),zX (show l.length - 1<=l.length by omega)]at sl;rw[hw,zX (show (0:Int)<=((l.length - 1:Nat):Int) by omega),zX (show ((l.length - 1:Nat):Int)<(l.length:Int) by omega),cMt,hg,sl,fL];simp only[zZ,aA,cNh,cM1];cases (l[l.length - 1]'(by omega)).toList==Aa.toList<;>rfl
def bD1(s:ByteArray):cond (D ((s.size:Int)>(4000:Int))) (U X) (U (D (((sV s).length:Int)>(80:Int))))=U (D (s.size>4000)||D ((sV s).length>80)):=by
 rw[show D ((s.size:Int)>(4000:Int))=D (s.size>4000) from decide_eq_decide.2 (by omega),show D (((sV s).length:Int)>(80:Int))=D ((sV s).length>80) from decide_eq_decide.2 (by omega)];cases D (s.size>4000)<;>rfl
def bFc{n:Nat}(h:n<=9000000000000):D (n<=maxLen)=X:=zX (by simp only[maxLen];omega)
def cJh{s:ByteArray}(hs:s.size<=1000000000):aDv s=U (bFh s):=by
 unfold aDv ixb aFc aS bA bZ dR oC yR yU yX aBb aBa aGu zz4 zz5 zz6 zz7 zz8 zz9;rw[aNy hs,aA,aZm hs,aA,bD1,aA];unfold bFh;cases c:D (s.size>4000)||D ((sV s).length>80) with
 | true=>rfl
 | false=>
  rw[cOp]at c;have h1:=of_decide_eq_false c.1;have h2:=of_decide_eq_false c.2;rw[zY,zY];show Option.bind (aB _ (aTq ([]:List ByteArray).length (Aa,b0))) _=_;rw[aV8 (enc:=aTq) (out:=Prod.fst) (sV s) (by omega) (λx hx=>by have :=aIe (aMa hx);omega) (λk x p hx hk hr=>by
   have hz:x.size<=5000:=by have :=aIe (aMa (cMw hx));omega
   have f:=(aWr hr (by omega) hz).2;have hsz:=hr.size;have hp:p.1.size<=8000000000080:=by omega
   have hw:wr ((k:Int)+1)=((k+1:Nat):Int):=(wri (by omega) (by omega)).trans (by omega);have e:idx (sV s) (k:Int)=U x:=by rw[aR];exact hx
   have hd:D ((k:Int)<((sV s).length:Int))=X:=zX (by omega);simp only[aTq,e,aA,aD];rw[hd];simp only[zZ];cases c:x.toList==Aa.toList with
   | true=>
    simp only[cMp,zY,aA,hw];unfold aLw;rw[c];rfl
   | false=>
    obtain⟨o,b',e1,e2,e3,e4⟩:=f c;rw[e4];simp only[cMx,zZ];rw[show fJ p.2 x=_ from e1];simp only[aA,show (aE9 o b').1=o from rfl,show D (o.size+AT.size<=maxLen)=X from bFc (by show o.size+1<=_;omega),show D (p.1.size+(o++AT).size<=maxLen)=X from bFc (by rw[ByteArray.size_append];show _+(o.size+1)<=_;omega),zZ,hw];rfl) (λp=>by simp[aTq]) (sV s) [] _ rfl cI7]
  rfl
def cHo{s:ByteArray}(hs:s.size<=1000000000):aDq s=U (bFh s):=by
 unfold aDq ixb aFc aS bA bZ dR oC yR yU yX aBb aBa aGu zz4 zz5 zz6 zz7 zz8 zz9;rw[aYt hs,aA,aZm hs,aA,bD1,aA];unfold bFh;cases c:D (s.size>4000)||D ((sV s).length>80) with
 | true=>rfl
 | false=>
  rw[cOp]at c;have h1:=of_decide_eq_false c.1;have h2:=of_decide_eq_false c.2;rw[zY,zY];show Option.bind (aB _ (aTq ([]:List ByteArray).length (Aa,b0))) _=_;rw[aV8 (enc:=aTq) (out:=Prod.fst) (sV s) (by omega) (λx hx=>by have :=aIe (aMa hx);omega) (λk x p hx hk hr=>by
   have hz:x.size<=5000:=by have :=aIe (aMa (cMw hx));omega
   have f:=(aWr hr (by omega) hz).2;have hsz:=hr.size;have hp:p.1.size<=8000000000080:=by omega
   have hw:wr ((k:Int)+1)=((k+1:Nat):Int):=(wri (by omega) (by omega)).trans (by omega);have e:idx (sV s) (k:Int)=U x:=by rw[aR];exact hx
   have hd:D ((k:Int)<((sV s).length:Int))=X:=zX (by omega);simp only[aTq,e,aA,aD];rw[hd];simp only[zZ];cases c:x.toList==Aa.toList with
   | true=>
    simp only[cMp,zY,aA,hw];unfold aLw;rw[c];rfl
   | false=>
    obtain⟨o,b',e1,e2,e3,e4⟩:=f c;rw[e4];simp only[cMx,zZ];rw[show qR (p.2.1,p.2.2.2.1,p.2.2.1,p.2.2.2.2) x=_ from e2];simp only[aA,show (aE9 o b').1=o from rfl,show D (p.1.size+o.size<=maxLen)=X from bFc (by omega),show D ((p.1++o).size+AT.size<=maxLen)=X from bFc (by rw[ByteArray.size_append];show _+1<=_;omega),zZ,hw,ByteArray.append_assoc];rfl) (λp=>by simp[aTq]) (sV s) [] _ rfl cI7]
  rfl
end Go.Proofs.YtjpmmodjpaabpaaGreat
